/- What 'pairs' returns: the pairs of a query. -/
import Derived.Test.YtlkbkclnbppigaaGreatDoorJZ5
import Derived.Maps.OwnIn
set_option maxHeartbeats 8000000
namespace Go.Proofs.YtlkbkclnbppigaaGreatDoor
open Tryz
open Go.RowKit Go.Sort
set_option linter.unusedVariables false
set_option linter.unusedSimpArgs false
set_option maxRecDepth 100000
attribute [local go_sem] Oper.semAt_some
open Go.Maps
theorem uo(s sep:ByteArray)(w:World):Calls prog 263 #[.string s,.string sep] w fun e w' =>
  e=.returned (.func (.func 316) #[] #[.pointer (some ⟨w.heap.size+1,0,none⟩),.pointer (some ⟨w.heap.size,0,none⟩),.pointer (some ⟨w.heap.size+1+1,0,none⟩)]) /\
   w'=((w.alloc (.cells #[.string s] 9)).alloc (.cells #[.string sep] 9)).alloc (.cells #[.int .i64 0] 3):=by
 go_enter func263,ntmps263;go_wp2;go_ret;exact⟨rfl,rfl⟩
def toB(l:List UInt8):ByteArray:=⟨l.toArray⟩
def qJ(p:ByteArray):Option (List UInt8 × List UInt8) :=
 if (Lib.cut p.data.toList [61]).2.2&&bI (toB (Lib.cut p.data.toList [61]).1)&&bC (toB (Lib.cut p.data.toList [61]).2.1) then some ((Lib.cut p.data.toList [61]).1,(Lib.cut p.data.toList [61]).2.1) else none
def gp:List (List UInt8 × List UInt8)->List ByteArray->Option (List (List UInt8 × List UInt8))
 | acc,[]=>some acc
 | acc,p :: r=>match qJ p with
  | none=>none
  | some q=>gp (acc++[q]) r
def kN(s:ByteArray):Option (List (ByteArray × ByteArray)) :=
 if s.toList.isEmpty then some [] else (gp [] (splitB 38 s)).map fun acc=>(iW acc).map fun q=>(toB q.1,toB q.2)
theorem Uu:Keyed prog 9:=string_keyed underlying9
theorem aJl(w:World):(zeroValue 9).run prog w=.ok (.string ByteArray.empty) w:=by kernel_rfl
theorem Uw:(prog.info? 298).map (fun i=>(i.zero,i.size,i.bytes))=some (some (.agg #[.string ⟨#[]⟩,.string ⟨#[]⟩]),2,32):=by kernel_rfl
theorem Iq(s:ByteArray)(c:UInt8)(w:World)(hs:s.size<=4294967200)(hE:Env w) :
  Calls prog 260 #[.string s,.string ⟨#[c]⟩] w (Ret w (.tuple #[.string (toB (Lib.cut s.data.toList [c]).1),.string (toB (Lib.cut s.data.toList [c]).2.1),.bool (Lib.cut s.data.toList [c]).2.2])):=by
 obtain⟨m,hm⟩:=hE;refine (strings_Cut s ⟨#[c]⟩ m w aA hm).mono ?_;rintro e w' ⟨rfl,n,rfl⟩;exact⟨rfl,qw (Below.refl _ _) n⟩
theorem Ux(c:UInt8):∀(l p:List UInt8),p∈dJ c l->p.length<=l.length
 | [],p,h=>by simp[dJ]at h;simp[h]
 | b :: r,p,h=>by
  unfold dJ at h;have ih:=Ux c r;split at h
  ·rcases List.mem_cons.1 h with rfl | h
   ·simp
   ·have:=ih p h;simp;omega
  ·split at h
   ·simp at h;simp[h]
   ·rename_i q ps e;rcases List.mem_cons.1 h with rfl | h
    ·have:=ih q (by rw[e];simp);simp;omega
    ·have:=ih p (by rw[e];simp[h]);simp;omega
theorem Uy(c:UInt8):∀ l:List UInt8,(dJ c l).length<=l.length+1
 | []=>by simp[dJ]
 | b :: r=>by
  unfold dJ;have ih:=Uy c r;split
  ·simp;omega
  ·split
   ·simp
   ·rename_i e;rw[e]at ih;simp at ih ⊢;omega
theorem nY(c:UInt8)(s p:ByteArray)(h:p∈splitB c s):p.size<=s.size:=by
 obtain⟨l,hl,rfl⟩:=List.mem_map.1 h;have:=Ux c _ l hl;rw[Lib.size_eq s];exact this
theorem oq(c:UInt8)(s:ByteArray):(splitB c s).length<=s.size+1:=by
 have:=Uy c s.data.toList;rw[Lib.size_eq s,splitB,List.length_map];exact this
theorem zY(l q:List UInt8):(Lib.cut l q).1.length<=l.length:=by
 unfold Lib.cut;split
 ·simp;omega
 ·exact Nat.le_refl _
theorem zZ(l q:List UInt8):(Lib.cut l q).2.1.length<=l.length:=by
 unfold Lib.cut;split
 ·simp
 ·simp
theorem nK(l:List UInt8):(toB l).size=l.length:=rfl
theorem rD{s:ByteArray}(h:bI s=true):s.size<=64:=by
 simp[bI,bC]at h;omega
theorem yQ{s:ByteArray}(h:bC s=true):s.size<=64:=by
 simp[bC]at h;omega
theorem Uz(q:List UInt8 × List UInt8):∀(acc l:List (List UInt8 × List UInt8)),tN l->q∈acc.foldl jD l->q∈l\/q∈acc
 | [],_,_,h=>.inl h
 | p :: acc,l,hs,h=>by
  rcases Uz q acc _ (Eg p l hs) h with h | h
  ·rcases (tV p l hs q).1 h with h | ⟨h,_⟩
   ·exact .inr (by rw[h];simp)
   ·exact .inl h
  ·exact .inr rf
theorem U0{q:List UInt8 × List UInt8}{acc:List (List UInt8 × List UInt8)}(h:q∈iW acc):q∈acc:=by
 rcases Uz q acc [] List.Pairwise.nil h with h | h
 ·cases h
 ·exact h
theorem aJm:plainElem (H:=Unit) prog 9 (.string ByteArray.empty)=some (.lit (.string []),[]):=plainElem_string underlying9 aK
def Dl(ps:List ByteArray)(w:World)(k:Nat)(W:World):Prop :=
 ∃ acc:List (List UInt8 × List UInt8),(gp [] ps=gp acc (ps.drop k)/\(∀ q∈acc,q.1.length<=64/\q.2.length<=64)) /\
  Boxed W w.heap.size 198 (.slice none 0 0)/\Boxed W (w.heap.size+1) 4 (.bool false)/\Boxed W (w.heap.size+1+1+1) 323 (.map (some (w.heap.size+1+1))) /\
  W.ownsMap prog 9 (plainElem prog 9) (w.heap.size+1+1) k (oQ acc)/\Below w.heap.size w W/\w.heap.size+7<=W.heap.size
theorem zf(B:Nat)(t:TypeId)(v:Value)(W W':World)(row:Option Nat)(h:Boxed W B t v)(hg:W.grownBy W' row)(hr:∀ r,row=some r->∃ o:Obj,W.heap[r]? = some o/\o.isCells=false):Boxed W' B t v :=
 boxed_own B t (fun _:Unit=>v) () W W' row h hg hr
theorem aJn(ps:List ByteArray)(w:World)(B:Nat)(hB:w.heap.size+7<=B):OwnFrom B (Dl ps w):=by
 rintro k W W' row ⟨acc,h1,h2,h3,h4,h5,h6,h7⟩ hg hr;have hr':=fun r e=>(hr r e).2
 exact⟨acc,h1,zf _ _ _ W W' row h2 hg hr',zf _ _ _ W W' row h3 hg hr',zf _ _ _ W W' row h4 hg hr',h5.kept hg (fun e=>by have:=(hr _ e.symm).1;omega),h6.grown hg aA (fun r e=>zK),Nat.le_trans h7 hg.size⟩
theorem aJo{P:Program}{k:TypeId}{R:Value->Option (DataW Unit × List MemPlace)}{W W':World}{b n:Nat}{D:DataW Unit}(h:W.ownsMap P k R b n D)(hs:W'.heap[b]? = W.heap[b]?):W'.ownsMap P k R b n D:=by
 obtain⟨es,clock,hb,r⟩:=h;exact⟨es,clock,hs.trans hb,r⟩
theorem aJp(ps:List ByteArray)(w:World)(k:Nat)(W W':World)(h:Dl ps w k W)(hT:Bg (w.heap.size+1+1+1+1) W W'):Dl ps w k W':=by
 obtain⟨acc,h1,h2,h3,h4,h5,h6,h7⟩:=h;obtain⟨v,rfl⟩:=hT;exact⟨acc,h1,l9 h2 qh _,l9 h3 qh _,l9 h4 aF _,aJo h5 (Below.heap_setCell _ _ _ _ qh),h6.setCell (p:=⟨w.heap.size+1+1+1+1,0,none⟩) aJ _,by simpa[World.setCell] using h7⟩
theorem Iu{w W w2:World}{B:Nat}(h3:Boxed W w.heap.size 198 (.slice none 0 0))(h4:Boxed W (w.heap.size+1) 4 (.bool false))(hbw:Below w.heap.size w W)(hsz:w.heap.size+7<=W.heap.size)(hb2:Below W.heap.size W w2) :
  KeepsFrom B W ((w2.setCell ⟨w.heap.size,0,none⟩ (.slice none 0 0)).setCell ⟨w.heap.size+1,0,none⟩ (.bool false))/\Boxed ((w2.setCell ⟨w.heap.size,0,none⟩ (.slice none 0 0)).setCell ⟨w.heap.size+1,0,none⟩ (.bool false)) w.heap.size 198 (.slice none 0 0) /\
   Boxed ((w2.setCell ⟨w.heap.size,0,none⟩ (.slice none 0 0)).setCell ⟨w.heap.size+1,0,none⟩ (.bool false)) (w.heap.size+1) 4 (.bool false)/\Below w.heap.size w ((w2.setCell ⟨w.heap.size,0,none⟩ (.slice none 0 0)).setCell ⟨w.heap.size+1,0,none⟩ (.bool false)) /\
   w.heap.size+7<=((w2.setCell ⟨w.heap.size,0,none⟩ (.slice none 0 0)).setCell ⟨w.heap.size+1,0,none⟩ (.bool false)).heap.size:=by
 refine⟨(((Dc hb2).trans (KeepsOthers.setCell _ _ _)).trans (KeepsOthers.setCell _ _ _)).from _,l9 ((ul h3 hb2).set _) aF _,(l9 (ul h4 hb2) aF _).set _,?_,?_⟩
 ·exact ((hbw.trans (hb2.mono aA)).setCell (p:=⟨w.heap.size,0,none⟩) aF _).setCell (p:=⟨w.heap.size+1,0,none⟩) qh _
 ·have:=hb2.size;simp[World.setCell];omega
def iO(r:Option (List (ByteArray × ByteArray)))(w:World)(e:Ending)(w':World):Prop :=
 Below w.heap.size w w'/\match r with
  | none=>e=.returned (.tuple #[.slice none 0 0,.bool false])
  | some out=>∃ A c,e=.returned (.tuple #[.slice A out.length c,.bool true])/\aH w' 2 A out.length (dS out)/\∀ a,A=some a->w.heap.size<=a.block
theorem aJq(s:ByteArray)(w:World)(hs:s.size<=1000000000)(hE:Env w)(hne:s.toList.isEmpty=false) :
  Calls prog 266 #[.string s] w (iO ((gp [] (splitB 38 s)).map fun acc=>(iW acc).map fun q=>(toB q.1,toB q.2)) w):=by
 have hmm:=@run_makeMap prog;refine (callsIn_wide (n:=0)).1 ?_;refine callsIn_of_wp_marks func266 rfl trivial ?_ rfl;simp only[ntmps266,List.size_toArray,List.length_cons,List.length_nil,Nat.reduceAdd,Nat.reduceSub,Array.replicate_succ,Array.replicate_zero,List.push_toArray,List.append_toArray,List.nil_append,List.cons_append]
 gi_wp2_with (refine⟨trivial,rfl,?_⟩;gi_at_call 263;refine (callsIn_wide.2 (uo s _ _)).mono ?_;rintro e w' ⟨rfl,hw⟩;rw[hw])
 obtain⟨W1,hW1⟩:∃ W1,W1=(w.alloc (.cells #[.slice none 0 0] 198)).alloc (.cells #[.bool false] 4):=⟨_,rfl⟩;obtain⟨Wl,hWl⟩:∃ Wl,Wl=(((((W1.alloc (.map #[] 0)).alloc (.cells #[.map (some (w.heap.size+1+1))] 323)).alloc (.cells #[.string s] 9)).alloc (.cells #[.string ⟨#[38]⟩] 9)).alloc (.cells #[.int .i64 0] 3)):=⟨_,rfl⟩;have hs1:W1.heap.size=w.heap.size+1+1:=by rw[hW1];simp
 have hsz:Wl.heap.size=w.heap.size+7:=by rw[hWl];simp[hs1]
 have hbW:Below w.heap.size w Wl:=by rw[hWl,hW1];exact aU (aU (aU (aU (aU (aU (aU (Below.refl _ _) _) _) _) _) _) _) _
 have b1:Boxed Wl w.heap.size 198 (.slice none 0 0):=by rw[hWl,hW1];exact ((((((Boxed.new w _ _).alloc _).alloc _).alloc _).alloc _).alloc _).alloc _
 have b2:Boxed Wl (w.heap.size+1) 4 (.bool false):=by
  have:=Boxed.new (w.alloc (.cells #[.slice none 0 0] 198)) 4 (.bool false);rw[World.size_alloc]at this;rw[hWl,hW1];exact ((((this.alloc _).alloc _).alloc _).alloc _).alloc _
 have bm:Wl.ownsMap prog 9 (plainElem prog 9) (w.heap.size+1+1) 0 (oQ []):=by
  have:=World.ownsMap_made W1 prog 9 (plainElem (H:=Unit) prog 9);rw[hs1]at this;rw[hWl];exact (((this.alloc _).alloc _).alloc _).alloc _
 have b4:Boxed Wl (w.heap.size+1+1+1) 323 (.map (some (w.heap.size+1+1))):=by
  have:=Boxed.new (W1.alloc (.map #[] 0)) 323 (.map (some (w.heap.size+1+1)));rw[World.size_alloc,hs1]at this;rw[hWl];exact ((this.alloc _).alloc _).alloc _
 have b5:Boxed Wl (w.heap.size+1+1+1+1) 9 (.string s):=by
  have:=Boxed.new ((W1.alloc (.map #[] 0)).alloc (.cells #[.map (some (w.heap.size+1+1))] 323)) 9 (.string s);rw[World.size_alloc,World.size_alloc,hs1]at this;rw[hWl];exact (this.alloc _).alloc _
 have b6:Boxed Wl (w.heap.size+1+1+1+1+1) 9 (.string ⟨#[38]⟩):=by
  have:=Boxed.new (((W1.alloc (.map #[] 0)).alloc (.cells #[.map (some (w.heap.size+1+1))] 323)).alloc (.cells #[.string s] 9)) 9 (.string ⟨#[38]⟩);rw[World.size_alloc,World.size_alloc,World.size_alloc,hs1]at this;rw[hWl];exact this.alloc _
 have b7:Boxed Wl (w.heap.size+1+1+1+1+1+1) 3 (.int .i64 0):=by
  have:=Boxed.new ((((W1.alloc (.map #[] 0)).alloc (.cells #[.map (some (w.heap.size+1+1))] 323)).alloc (.cells #[.string s] 9)).alloc (.cells #[.string ⟨#[38]⟩] 9)) 3 (.int .i64 0);rw[World.size_alloc,World.size_alloc,World.size_alloc,World.size_alloc,hs1]at this;rw[hWl];exact this
 rw[hW1]at hWl;rw[<-hWl];clear hWl hW1 hs1 W1 hmm hne;have hsq:=OT (w.heap.size+1+1+1+1) 38 s Wl aA b5.cell b6.cell b7.cell b5.frozen;refine AX (gf:=316) (lb:=#[.pointer (some ⟨w.heap.size+1+1+1+1+1,0,none⟩),.pointer (some ⟨w.heap.size+1+1+1+1,0,none⟩),.pointer (some ⟨w.heap.size+1+1+1+1+1+1,0,none⟩)]) rfl (enters_of func316 aC rfl) hsq (Below.refl _ _) aA (Dl (splitB 38 s) w)
  (fun c W=>c=.ret/\gp [] (splitB 38 s)=none/\Boxed W w.heap.size 198 (.slice none 0 0)/\Boxed W (w.heap.size+1) 4 (.bool false)/\Below w.heap.size w W/\w.heap.size+7<=W.heap.size)
  (aJn (splitB 38 s) w _ aA) ?ixo ⟨[],⟨rfl,aF⟩,b1,b2,b4,bm,hbW,aA⟩
  (aJp _ _) Ua
  (fun x=>{ tmps:=#[.string s,undef,.pointer (some ⟨w.heap.size,0,none⟩),.pointer (some ⟨w.heap.size+1,0,none⟩),.pointer (some ⟨w.heap.size+1+1+1,0,none⟩),x,undef,undef,undef,undef,undef,undef,.string s,.bool false,.map (some (w.heap.size+1+1)),.string s,.func (.func 316) #[] #[.pointer (some ⟨w.heap.size+1+1+1+1+1,0,none⟩),.pointer (some ⟨w.heap.size+1+1+1+1,0,none⟩),.pointer (some ⟨w.heap.size+1+1+1+1+1+1,0,none⟩)],x,undef,undef,undef,undef,undef,undef,undef,undef,undef,undef,undef,undef,undef,undef,undef,undef,undef,undef,undef,undef,undef,undef,undef,undef,undef,undef,undef,undef,undef,undef,undef,undef,undef,undef,undef,undef,undef,undef,undef],defers:=[] }) ?assign ?body ?done ?stop
 case ixo =>
  rintro c _ W W' row ⟨h0,h1,h2,h3,h4,h5⟩ hg hr;have hr':=fun r e=>(hr r e).2
  exact⟨h0,h1,zf _ _ _ W W' row h2 hg hr',zf _ _ _ W W' row h3 hg hr',h4.grown hg aA (fun r e=>zK),Nat.le_trans h5 hg.size⟩
 case assign =>
  intro l x W K _ hK
  gi_wp2
  exact hK
 case body =>
  rintro l k x W hx ⟨acc,⟨hr1,hr2⟩,h3,h4,h5,hown,hbw,hsz6⟩;obtain⟨p,hp,rfl⟩:=qI hx;have hpm:=List.mem_of_getElem? hp;have hps:p.size<=1000000000:=Nat.le_trans (nY 38 s p hpm) hs;have hkl:k<(splitB 38 s).length:=(List.getElem?_eq_some_iff.1 hp).1;have hnum:=oq 38 s;have hd:(splitB 38 s).drop k=p :: (splitB 38 s).drop (k+1):=by
   exact BH
  rw[hd,gp]at hr1;clear hx hp hd hpm;have hE1:=hE.keep (w:=w) (w':=W) hbw;have cC:=Iq p 61 W aA hE1;have hKl:=zY p.data.toList [61];have hVl:=zZ p.data.toList [61];have hpz:p.data.toList.length=p.size:=(Lib.size_eq p).symm;simp only[qJ]at hr1;generalize Lib.cut p.data.toList [61]=r at hr1 cC hKl hVl;obtain⟨K,V,ok⟩:=r;dsimp only at hr1 cC hKl hVl;have cN:=fun W'=>vP (toB K) W' xE
  have cV:=fun W'=>rM (toB V) W' xE
  have c2:=h3.cell;have f2:=h3.frozen;have c3:=h4.cell;have f3:=h4.frozen;have c4:=h5.cell;cases ok
  ·have hn:gp [] (splitB 38 s)=none:=by rw[hr1];simp
   clear hr1 cN cV
   gi_wp2_with (first | (refine⟨trivial,rfl,?_⟩;gi_at_call 260;refine (CallsIn.inRound l (callsIn_wide.2 (cC))).mono ?_;rintro e w1 ⟨rfl,hb1⟩;replace f2:=eY hb1 (bf c2) f2;replace c2:=aP hb1 c2;replace f3:=eY hb1 (bf c3) f3;replace c3:=aP hb1 c3;replace c4:=aP hb1 c4) | (refine And.intro trivial ?_))
   obtain⟨k1,k2,k3,k4,k5⟩:=Iu (B:=Wl.heap.size) h3 h4 hbw hsz6 (w2:=w1) aG;exact⟨k1,rfl,hn,k2,k3,k4,k5⟩
  cases hnm:bI (toB K)
  ·have hn:gp [] (splitB 38 s)=none:=by rw[hr1];simp[hnm]
   rw[hnm]at cN;have HN:=aB cN;clear hr1 cV cN hnm
   gi_wp2_with (first | (refine⟨trivial,rfl,?_⟩;gi_at_call 260;refine (CallsIn.inRound l (callsIn_wide.2 (cC))).mono ?_;rintro e w1 ⟨rfl,hb1⟩;replace f2:=eY hb1 (bf c2) f2;replace c2:=aP hb1 c2;replace f3:=eY hb1 (bf c3) f3;replace c3:=aP hb1 c3;replace c4:=aP hb1 c4) | (refine⟨trivial,rfl,?_⟩;gi_at_call 94;refine (CallsIn.inRound l (callsIn_wide.2 (HN.out _))).mono ?_;rintro e w2 ⟨rfl,hb2⟩;replace f2:=eY hb2 (bf c2) f2;replace c2:=aP hb2 c2;replace f3:=eY hb2 (bf c3) f3;replace c3:=aP hb2 c3;replace c4:=aP hb2 c4) | (refine And.intro trivial ?_))
   obtain⟨k1,k2,k3,k4,k5⟩:=Iu (B:=Wl.heap.size) h3 h4 hbw hsz6 (w2:=w2) aG;exact⟨k1,rfl,hn,k2,k3,k4,k5⟩
  cases hwd:bC (toB V)
  ·have hn:gp [] (splitB 38 s)=none:=by rw[hr1];simp[hwd]
   rw[hnm]at cN;rw[hwd]at cV;have HN:=aB cN;have HV:=aB cV;clear hr1 cV cN hnm hwd
   gi_wp2_with (first | (refine⟨trivial,rfl,?_⟩;gi_at_call 260;refine (CallsIn.inRound l (callsIn_wide.2 (cC))).mono ?_;rintro e w1 ⟨rfl,hb1⟩;replace f2:=eY hb1 (bf c2) f2;replace c2:=aP hb1 c2;replace f3:=eY hb1 (bf c3) f3;replace c3:=aP hb1 c3;replace c4:=aP hb1 c4) | (refine⟨trivial,rfl,?_⟩;gi_at_call 94;refine (CallsIn.inRound l (callsIn_wide.2 (HN.out _))).mono ?_;rintro e w2 ⟨rfl,hb2⟩;replace f2:=eY hb2 (bf c2) f2;replace c2:=aP hb2 c2;replace f3:=eY hb2 (bf c3) f3;replace c3:=aP hb2 c3;replace c4:=aP hb2 c4) | (refine⟨trivial,rfl,?_⟩;gi_at_call 162;refine (CallsIn.inRound l (callsIn_wide.2 (HV.out _))).mono ?_;rintro e w3 ⟨rfl,hb3⟩;replace f2:=eY hb3 (bf c2) f2;replace c2:=aP hb3 c2;replace f3:=eY hb3 (bf c3) f3;replace c3:=aP hb3 c3;replace c4:=aP hb3 c4) | (refine And.intro trivial ?_))
   obtain⟨k1,k2,k3,k4,k5⟩:=Iu (B:=Wl.heap.size) h3 h4 hbw hsz6 (w2:=w3) aG;exact⟨k1,rfl,hn,k2,k3,k4,k5⟩
  have hn:gp [] (splitB 38 s)=gp (acc++[(K,V)]) ((splitB 38 s).drop (k+1)):=by rw[hr1];simp[hnm,hwd]
  have hK64:=rD hnm;have hV64:=yQ hwd;rw[nK]at hK64 hV64;rw[hnm]at cN;rw[hwd]at cV;have HN:=aB cN;have HV:=aB cV;have HE:=aB hn;clear hr1 cV cN hnm hwd hn
  gi_wp2_with (first | (refine⟨trivial,rfl,?_⟩;gi_at_call 260;refine (CallsIn.inRound l (callsIn_wide.2 (cC))).mono ?_;rintro e w1 ⟨rfl,hb1⟩;replace f2:=eY hb1 (bf c2) f2;replace c2:=aP hb1 c2;replace f3:=eY hb1 (bf c3) f3;replace c3:=aP hb1 c3;replace c4:=aP hb1 c4;have hown1:=hown.kept (row:=none) (zW hb1) aF) | (refine⟨trivial,rfl,?_⟩;gi_at_call 94;refine (CallsIn.inRound l (callsIn_wide.2 (HN.out _))).mono ?_;rintro e w2 ⟨rfl,hb2⟩;replace f2:=eY hb2 (bf c2) f2;replace c2:=aP hb2 c2;replace f3:=eY hb2 (bf c3) f3;replace c3:=aP hb2 c3;replace c4:=aP hb2 c4;have hown2:=hown1.kept (row:=none) (zW hb2) aF) | (refine⟨trivial,rfl,?_⟩;gi_at_call 162;refine (CallsIn.inRound l (callsIn_wide.2 (HV.out _))).mono ?_;rintro e w3 ⟨rfl,hb3⟩;replace f2:=eY hb3 (bf c2) f2;replace c2:=aP hb3 c2;replace f3:=eY hb3 (bf c3) f3;replace c3:=aP hb3 c3;replace c4:=aP hb3 c4;obtain⟨w4,hrun4,hown4,hgrow4⟩:=(hown2.kept (row:=none) (zW hb3) aF).update Uu underlying323 cZ (Go.WideMaps.keyOf_string_mk underlying9 (s:=toB K) Iw) (plainElem_string (s:=toB V) underlying9 Iw)) | (refine And.intro trivial ?_))
  have hbc:Below W.heap.size W w3:=aG;have hz3:=hbc.size;have hbw4:Below w.heap.size w w4:=(hbw.trans (hbc.mono aA)).grown hgrow4 aA (fun r e=>by injection e;omega);have hbl:∀ j,j<W.heap.size->j≠w.heap.size+1+1->w4.heap[j]? = W.heap[j]?:=fun j h1 h2=>(hgrow4.block j aA (fun e=>by injection e;omega)).trans (hbc.block j h1)
  refine⟨((Dc hbc).from _).trans (KeepsFrom.of_grownBy hgrow4 (fun j e=>by injection e;omega)),fun j h1 h2=>hbl j aA aA,acc++[(K,V)],⟨HE.out,?_⟩,(hbl _ aA aA).trans h3,(hbl _ aA aA).trans h4,(hbl _ aA aA).trans h5,?_,hbw4,by have:=hgrow4.size;omega⟩
  ·intro q hq;rcases List.mem_append.1 hq with hq | hq
   ·exact hr2 q hq
   ·rw[List.mem_singleton.1 hq];exact⟨hK64,hV64⟩
  ·have:oQ (acc++[(K,V)])=(oQ acc).put (.string K) (.lit (.string V)):=by simp[oQ]
   rw[this];exact hown4
 case done =>
  rintro D W hD ⟨acc,⟨hr1,hr2⟩,h3,h4,h5,hown,hbw,hsz6⟩ hK;rw[List.length_map,List.drop_eq_nil_of_le (Nat.le_refl _),gp]at hr1;have hG:=AY acc;have hDsz:Maps.size (oQ acc)<=(splitB 38 s).length:=by
   rw[List.length_map]at hown;exact hown.size_le
  have hnum:=oq 38 s;have c2:=h3.cell;have f2:=h3.frozen;have c3:=h4.cell;have f3:=h4.frozen;have c4:=h5.cell;obtain⟨Wm,hWm⟩:∃ Wm,Wm=W.alloc (.cells #[.map (some (w.heap.size+1+1))] 323):=⟨_,rfl⟩;have hwm:Wm.heap.size=W.heap.size+1:=by rw[hWm];simp
  have hbm:Below W.heap.size W Wm:=by rw[hWm];exact aU (Below.refl _ _) _
  have cS:=slices_Sorted_keys_96_302 (w.heap.size+1+1) _ (oQ acc) (plainElem prog 9) W hown cZ aA;rw[<-hWm]at cS
  gi_wp2
  refine⟨trivial,rfl,?_⟩
  gi_at_call 302
  refine (callsIn_wide.2 (callsIn_wide.1 (maps_Keys_302 (some (w.heap.size+1+1)) W))).mono ?_;rintro e w1 ⟨rfl,hw1⟩;rw[<-hWm]at hw1;clear hWm;rw[hw1]
  gi_wp2
  refine⟨trivial,rfl,?_⟩
  gi_at_call 96
  refine (callsIn_wide.2 (callsIn_wide.1 cS)).mono ?_;rintro e w2 ⟨v,ss,rfl,hperm,hrow,hnil,hbs⟩;have hks:=YP acc ss hperm;obtain⟨vA,vc,rfl⟩:∃ vA vc,v=.slice vA ss.length vc:=by
   exact Dh
  gi_wp2
  have hnl:ss.length<=(splitB 38 s).length:=by
   have:=hperm.length_eq;rw[this];refine Nat.le_trans (Nat.le_of_eq ?_) hDsz;unfold strKeys Maps.size;split <;> simp_all
  obtain⟨out,hout⟩:∃ out,out=(iW acc).map fun q=>(toB q.1,toB q.2):=⟨_,rfl⟩
  have hlk:ss.length=(iW acc).length:=by
   have:=congrArg List.length hks;simpa using this
  rw[hks]at hrow;have hrd:=aH.of_own hrow;have hbsW:Below W.heap.size W w2:=aN hbm hbs;have HR:=aB hr1;have HO:=aB hout;have HLK:=aB hlk;clear hks hr1 hlk hout hrow hperm hbs hbm hnil cS b1 b2 bm b4 b5 b6 b7 hbW
  gi_loopw [9,43] (fun va vi wr=>∃(k:Nat)(A:Option Addr)(c:Nat),(va=.slice A k c/\vi=.int .i64 k/\k<=ss.length)/\wr.ownsRow w2.heap.size 298 2 (.slice A k c) k (dS (out.take k))/\Below w2.heap.size w2 wr) (fun _ vi _=>ss.length-(intOf vi).toNat)
  case atStart=>exact⟨0,none,0,⟨rfl,rfl,Nat.zero_le _⟩,World.ownsRow_nil _ _ _ _,Below.refl _ _⟩
  case round =>
   obtain⟨k,A,c,⟨rfl,rfl,hk⟩,hown9,hbr⟩:=hrel;have hbWr:Below W.heap.size W wr:=hbsW.trans (hbr.mono hbsW.size);by_cases hlt:k<ss.length
   ·obtain⟨q,hq⟩:∃ q,(iW acc)[k]? = some q:=⟨_,List.getElem?_eq_getElem (by have:=HLK.out;omega)⟩;have hqm:=List.mem_of_getElem? hq;obtain⟨hq1,hq2⟩:=hr2 q (U0 hqm);obtain⟨pb,po,u,rfl,hu,hcell⟩:=(hrd.keep hbr).at_ hlt;obtain rfl:u=.string (toB q.1):=by
     simp[hq]at hu;exact hu.symm
    obtain⟨lv,lps,hlkp,hlv⟩:=(hown.kept (row:=none) (zW hbWr) aF).lookup Uu underlying323 (aJl _) aJm (WideMaps.keyOf_string_mk underlying9 (s:=toB q.1) Iw);obtain⟨s',rfl,he,_⟩:=plainElem_string_inv underlying9 hlv;obtain rfl:s'=toB q.2:=by
     have h1:=hG.2.2.2.2 q.1 q.2 hqm (.lit (.string []));have h2:=congrArg Prod.fst he;dsimp only at h2;rw[show (toB q.1).data.toList=q.1 from rfl,h1]at h2;injection h2 with h2
     injection h2 with h2
     exact dP h2.symm
    have c4r:=aP hbWr c4;have HQ:=aB hq;clear hu hq hlv he hqm;obtain⟨i0,hi0,hz0,hz1,hz2⟩:=info_parts Uw
    gi_wp2_with (gi_at_builtin;refine wpListIn_append_own _ rfl _ _ 198 rfl w2.heap.size 298 i0 (.agg #[.string ⟨#[]⟩,.string ⟨#[]⟩]) 2 32 underlying198 hi0 hz0 hz1 hz2 rfl aK _ _ _ rfl (hown9.alloc _) ⟨wr.heap.size,0,none⟩ 1 1 [.string (toB q.1),.string (toB q.2)] rfl rfl (World.news_of_block (World.alloc_heap_new _ _)) fG cZ aA (by have:=hbr.size;simp;omega) ?_;intro v' w3 hown' hgrow _;obtain⟨g',cap',rfl⟩:=ownsRow_succ hown')
    refine⟨⟨k+1,some ⟨g',0,none⟩,cap',⟨rfl,aj,aA⟩,?_,?_⟩,au⟩
    ·have hqo:out[k]? = some (toB q.1,toB q.2):=by rw[HO.out];simp[HQ.out]
     have:dS (out.take (k+1))=dS (out.take k)++[.string (toB q.1),.string (toB q.2)]:=by simp[dS,List.take_add_one,hqo]
     rw[this];exact hown'
    ·exact (aU hbr _).grown hgrow (by have:=hbr.size;simp;omega) (fun r e=>dK hown9 r e)
   ·obtain rfl:k=ss.length:=aA;clear hlt;have f2r:=eY hbWr (bf c2) f2;have f3r:=eY hbWr (bf c3) f3;have c2r:=aP hbWr c2;have c3r:=aP hbWr c3
    gi_wp2
    have hDW:w.heap.size+7<=D:=aA;have hDl:D<W.heap.size:=(Array.getElem?_eq_some_iff.1 hK).1;have hKr:wr.heap[D]? = some (.deferred (some [])):=(hbWr.block D hDl).trans hK;have hk2:=((KeepsOthers.setCell wr ⟨w.heap.size,0,none⟩ (.slice A ss.length c)).trans (KeepsOthers.setCell _ ⟨w.heap.size+1,0,none⟩ (.bool true))).same D _ hKr rfl;obtain⟨W2,hW2⟩:∃ W2,W2=(wr.setCell ⟨w.heap.size,0,none⟩ (.slice A ss.length c)).setCell ⟨w.heap.size+1,0,none⟩ (.bool true):=⟨_,rfl⟩;have x3:Boxed W2 w.heap.size 198 (.slice A ss.length c):=hW2▸l9 ((ul h3 hbWr).set _) aF _;have x4:Boxed W2 (w.heap.size+1) 4 (.bool true):=hW2▸(l9 (ul h4 hbWr) aF _).set _;have hzW:=hbWr.size;have hzw2:=hbsW.size;have hb2:Below w.heap.size w W2:=hW2▸((hbw.trans (hbWr.mono aA)).setCell (p:=⟨w.heap.size,0,none⟩) aF _).setCell (p:=⟨w.heap.size+1,0,none⟩) qh _;have hr2':W2.ownsRow w2.heap.size 298 2 (.slice A ss.length c) ss.length (dS (out.take ss.length)):=by
     rw[hW2];refine rO hown9 (fun j hj=>?_);rw[Below.heap_setCell _ _ _ _ aJ,Below.heap_setCell _ _ _ _ aJ]
    rw[<-hW2]at hk2 ⊢;clear hW2 h3 h4 hown9 hown c2 c3 c4 f2 f3 c2r c3r f2r f3r;refine⟨aF,.inl ⟨_,_,rfl,run_takeDeferred hk2,?_⟩⟩;have hne:∀(B:Nat)(t:TypeId)(v:Value),Boxed W2 B t v->B<D->(W2.putObj D (.deferred none)).cell? ⟨B,0,none⟩=some v:=fun B t v hv hlt=>Boxed.cell (t:=t) ((World.putObj_heap_other aA).trans hv)
    have y3:=hne _ _ _ x3 aA;have y4:=hne _ _ _ x4 aA;refine⟨.tuple #[.slice A ss.length c,.bool true],by simp[results,results266,go_sem,y3,y4],?_,?_⟩
    ·exact hb2.grown (grownBy_putObj' W2 D _) vT (fun r e=>pM)
    ·rw[HR.out];have hol:out.length=ss.length:=by rw[HO.out,List.length_map,HLK.out]
     rw[<-hol,List.take_length]at hr2';refine⟨A,c,?_,?_,fun a ha=>Nat.le_trans aA (dK hr2' a.block DJ)⟩
     ·dsimp only;rw[<-HO.out,<-hol]
     ·dsimp only;rw[<-HO.out];exact aH.of_own (ownsRow_putObj hr2' _ hk2 rfl)
 case stop =>
  rintro D c W hD ⟨rfl,hr1,h3,h4,hbw,hsz6⟩ hK
  gi_wp2
  refine⟨aF,.inl ⟨_,_,rfl,run_takeDeferred hK,?_⟩⟩;have hne:∀(B:Nat)(t:TypeId)(v:Value),Boxed W B t v->B<D->(W.putObj D (.deferred none)).cell? ⟨B,0,none⟩=some v:=fun B t v hv hlt=>Boxed.cell (t:=t) ((World.putObj_heap_other aA).trans hv)
  have y3:=hne _ _ _ h3 aA;have y4:=hne _ _ _ h4 aA;refine⟨.tuple #[.slice none 0 0,.bool false],by simp[results,results266,go_sem,y3,y4],?_,?_⟩
  ·exact hbw.grown (grownBy_putObj' W D _) DD (fun r e=>pM)
  ·rw[hr1];rfl
theorem aJr(s:ByteArray)(w:World)(hne:s.toList.isEmpty=true):Calls prog 266 #[.string s] w (iO (some []) w):=by
 obtain rfl:s=⟨#[]⟩:=by
  rw[Lib.toList_data]at hne;exact dP (by simpa using hne)
 go_enter func266,ntmps266;go_wp2_with fail;exact bodyPost_ret (v:=.tuple #[.slice none 0 0,.bool true]) (by simp[results,results266,go_sem]) rfl ⟨aG,none,0,rfl,aH.nil_ _ _ _,fun a ha=>jk⟩
theorem aJs(s:ByteArray)(w:World)(hs:s.size<=1000000000)(hE:Env w):Calls prog 266 #[.string s] w (iO (kN s) w):=by
 unfold kN;cases h:s.toList.isEmpty
 ·exact aJq s w hs hE h
 ·exact aJr s w h
def iG(qs:List (ByteArray × ByteArray))(k:Nat):Bool :=
 match qs[k]? with
 | none=>false
 | some q=>bI q.1&&bC q.2&&(k==0|| !(Op.bytesLess q.1.toList ((qs[k-1]?.getD (⟨#[]⟩,⟨#[]⟩)).1).toList||q.1.toList==((qs[k-1]?.getD (⟨#[]⟩,⟨#[]⟩)).1).toList))
def uH(c:ByteArray)(xs:List ByteArray)(qs:List (ByteArray × ByteArray)):Bool :=
 bI c&&decide (xs.length<=32)&&decide (qs.length<=16)&&xs.all bC
def kM(c:ByteArray)(xs:List ByteArray)(qs:List (ByteArray × ByteArray)):Bool :=
 uH c xs qs&&(List.range qs.length).all (iG qs)&&decide ((W06 c xs qs).length<=4096)
def jd(c:ByteArray)(xs:List ByteArray)(qs:List (ByteArray × ByteArray)):Value :=
 if kM c xs qs then .tuple #[.string ⟨(W06 c xs qs).toArray⟩,.int .i64 0] else .tuple #[.string ⟨#[]⟩,.int .i64 1]
theorem U1(c:ByteArray)(xs:List ByteArray)(qs:List (ByteArray × ByteArray)):c.size<=(W06 c xs qs).length:=by
 rw[Lib.size_eq];simp only[W06,lW,List.length_append];omega
theorem U2:∀(l:List (List UInt8))(x:List UInt8),x∈l->x.length<=(dO l).length
 | [],x,h=>nP
 | a :: l,x,h=>by
  simp only[dO,List.flatMap_cons,List.length_append,List.length_cons];rcases List.mem_cons.1 h with rfl | h
  ·omega
  ·have:=U2 l x h;simp only[dO]at this;omega
theorem U3:∀(sep:UInt8)(l:List (List UInt8 × List UInt8))(q:List UInt8 × List UInt8),q∈l->q.1.length+q.2.length<=(gB sep l).length
 | _,[],q,h=>nP
 | _,a :: l,q,h=>by
  simp only[gB,List.length_append,List.length_cons];rcases List.mem_cons.1 h with rfl | h
  ·omega
  ·have:=U3 38 l q h;omega
theorem Iy(c:ByteArray)(xs:List ByteArray)(qs:List (ByteArray × ByteArray))(x:ByteArray)(hx:x∈xs):x.size<=(W06 c xs qs).length:=by
 have:=U2 (bD xs) x.data.toList (List.mem_map_of_mem hx);rw[Lib.size_eq];simp only[W06,lW,List.length_append];omega
theorem Iz(c:ByteArray)(xs:List ByteArray)(qs:List (ByteArray × ByteArray))(q:ByteArray × ByteArray)(hq:q∈qs):q.1.size+q.2.size<=(W06 c xs qs).length:=by
 have:=U3 63 (dW qs) (q.1.data.toList,q.2.data.toList) (List.mem_map_of_mem (f:=fun q:ByteArray × ByteArray=>(q.1.data.toList,q.2.data.toList)) hq);dsimp only at this;rw[Lib.size_eq,Lib.size_eq];simp only[W06,lW,List.length_append];omega
theorem Yp(c:ByteArray)(P Q:Option Addr)(np cp nq cq:Nat)(xs:List ByteArray)(qs:List (ByteArray × ByteArray))(w:World)
  (hP:aH w 1 P np (xs.map .string)) (hQ:aH w 2 Q nq (dS qs)) (htot:(W06 c xs qs).length<=1000000000) :
  Calls prog 204 #[.agg #[.string c,.slice P np cp,.slice Q nq cq]] w (Ret w (jd c xs qs)):=by
 have hnp:np<=xs.length/\xs.length<=np:=Di;have hnq:nq<=qs.length/\qs.length<=nq:=Dj;have hc0:c.size<=1000000000:=by have:=U1 c xs qs;omega
 have hxs:∀ x∈xs,x.size<=1000000000:=fun x hx=>by have:=Iy c xs qs x hx;omega
 have hqs:∀ q∈qs,q.1.size<=1000000000/\q.2.size<=1000000000:=fun q hq=>by have:=Iz c xs qs q hq;omega
 have hnp9:np<=1000000000:=by
  exact U4
 have c1:=fun W=>vP c W aA
 have c2:∀ W,aH W 1 P np (xs.map .string)->Calls prog 92 #[.slice P np cp,.func (.func 267) #[] #[]] W (Ret W (.bool (xs.any fun x=>!bC x))):=fun W h =>
  Kt 267 (enters_of func267 aC rfl) (fun x=>!bC x) P np cp xs W (fun x hx W'=>aAr x W' (by have:=hxs x hx;omega)) h hnp9
 have HP:=aB hP;have HQ:=aB hQ;have HT:=aB htot;have HXS:=aB hxs;have HQS:=aB hqs;have H1:=aB c1;have H2:=aB c2;clear hP hQ htot hxs hqs c1 c2;cases h1:bI c
 ·have hv:jd c xs qs=.tuple #[.string ⟨#[]⟩,.int .i64 1]:=by simp[jd,kM,uH,h1]
  exact I4
 by_cases h2:np<=32;rotate_left
 ·have hv:jd c xs qs=.tuple #[.string ⟨#[]⟩,.int .i64 1]:=by simp[jd,kM,uH,show ¬ xs.length<=32 by omega]
  exact I4
 by_cases h3:nq<=16;rotate_left
 ·have hv:jd c xs qs=.tuple #[.string ⟨#[]⟩,.int .i64 1]:=by simp[jd,kM,uH,show ¬ qs.length<=16 by omega]
  exact I4
 cases h4:xs.all bC
 ·have hv:jd c xs qs=.tuple #[.string ⟨#[]⟩,.int .i64 1]:=by simp[jd,kM,uH,h4]
  rw[hv];have h5:(xs.any fun x=>!bC x)=true:=by rw[<-List.not_all_eq_any_not,h4];rfl
  rw[h1]at H1;rw[h5]at H2;clear hv h1 h4 h5;go_enter func204,ntmps204;go_wp2_with (first | (go_at_call 94;refine (H1.out _).mono ?_;rintro e w1 ⟨rfl,hb1⟩;obtain⟨hc1,hf1⟩:=bg hb1;have hz1_0:w.heap.size<w1.heap.size:=jc) | (go_at_call 92;refine (H2.out _ (HP.out.keep (fE _ hb1))).mono ?_;rintro e w2 ⟨rfl,hb2⟩;obtain⟨hc2,hf2⟩:=bg hb2;have hz2_0:w.heap.size<w2.heap.size:=sS));go_ret2;exact⟨rfl,aG⟩
 have h5:(xs.any fun x=>!bC x)=false:=by rw[<-List.not_all_eq_any_not,h4];rfl
 have hv:jd c xs qs=if (List.range nq).all (iG qs)&&decide ((W06 c xs qs).length<=4096) then .tuple #[.string ⟨(W06 c xs qs).toArray⟩,.int .i64 0] else .tuple #[.string ⟨#[]⟩,.int .i64 1]:=by
  obtain rfl:nq=qs.length:=aA;simp[jd,kM,uH,h1,h4,show xs.length<=32 by omega,show qs.length<=16 by omega]
 rw[h1]at H1;rw[h5]at H2;have HV:=aB hv;obtain⟨V,hV⟩:∃ V,V=jd c xs qs:=⟨_,rfl⟩;rw[<-hV]at HV ⊢;clear hv h1 h4 h5 hV;have d1:decide ((32:Int)<(np:Int))=false:=aJ;have d2:decide ((16:Int)<(nq:Int))=false:=aJ;go_enter func204,ntmps204;go_wp2_with (first | (go_at_call 94;refine (H1.out _).mono ?_;rintro e w1 ⟨rfl,hb1⟩;obtain⟨hc1,hf1⟩:=bg hb1;have hz1_0:w.heap.size<w1.heap.size:=jc) | (go_at_call 92;refine (H2.out _ (HP.out.keep (fE _ hb1))).mono ?_;rintro e w2 ⟨rfl,hb2⟩;obtain⟨hc2,hf2⟩:=bg hb2;have hz2_0:w.heap.size<w2.heap.size:=sS));obtain⟨W0,hW0⟩:∃ W0,W0=w.alloc (.cells #[.string c,.slice P np cp,.slice Q nq cq] 200):=⟨_,rfl⟩;rw[<-hW0]at hb1;have HW0:=aB hW0;have hbw2:=aN hb1 hb2;clear hc1 hf1 hz1_0 hc2 hf2 hz2_0 hb1 hb2 hW0 H1 H2;go_loopw [31] (fun i wr=>∃ k:Nat,k<=nq/\i=.int .i64 k/\Hid ((List.range k).all (iG qs)=true)/\Below W0.heap.size W0 wr) (fun i _=>nq-(intOf i).toNat)
 case atStart=>exact⟨0,aA,rfl,aB rfl,hbw2⟩
 case round =>
  clear hbw2;obtain⟨k,hk,rfl,HA,hb⟩:=hrel;have hb':=hb;rw[HW0.out]at hb';have hbw:Below w.heap.size w wr:=fE _ hb';have a0:wr.cell? ⟨w.heap.size,0,none⟩=some (.string c):=I5;have a1:wr.cell? ⟨w.heap.size,1,none⟩=some (.slice P np cp):=I5;have a2:wr.cell? ⟨w.heap.size,2,none⟩=some (.slice Q nq cq):=I5;clear hb';by_cases hlt:k<nq
  ·have hQr:=HQ.out.keep hbw;obtain⟨pb,po,rfl,hcell⟩:=hQr.2 aA;clear hQr;have hql:k<qs.length:=aA;obtain⟨q,hq⟩:∃ q,qs[k]? = some q:=⟨_,List.getElem?_eq_getElem hql⟩;obtain⟨e1,e2⟩:=um qs k q hq;have hc1:wr.cell? ⟨pb,po+k*2,none⟩=_:=hcell _ _ e1;have hc2:wr.cell? ⟨pb,po+k*2+1,none⟩=_:=hcell _ _ e2;have hsz:=HQS.out q (List.mem_of_getElem? hq);have cN:=fun W=>vP q.1 W aA
   have cV:=fun W=>rM q.2 W aA
   have hpk:iG qs k=(bI q.1&&bC q.2&&(k==0|| !(Op.bytesLess q.1.toList ((qs[k-1]?.getD (⟨#[]⟩,⟨#[]⟩)).1).toList||q.1.toList==((qs[k-1]?.getD (⟨#[]⟩,⟨#[]⟩)).1).toList))):=by simp[iG,hq]
   obtain⟨q1,q2⟩:=q;dsimp only at hc1 hc2 hsz cN cV hpk;have HC:=aB hcell;have HK:=aB hpk;clear hcell e1 e2 hq hpk hql;have f1:(wr.alloc (.cells #[.string q1,.string q2] 298)).cell? ⟨wr.heap.size,0,none⟩=some (.string q1):=jP;have f2:(wr.alloc (.cells #[.string q1,.string q2] 298)).cell? ⟨wr.heap.size,1,none⟩=some (.string q2):=jP;have f3:(wr.alloc (.cells #[.string q1,.string q2] 298)).cell? ⟨w.heap.size,2,none⟩=some (.slice (some ⟨pb,po,none⟩) nq cq):=aP (aU (Below.refl _ _) _) a2;have hfalse:iG qs k=false->V=.tuple #[.string ⟨#[]⟩,.int .i64 1]:=by
    intro hf;have hall:(List.range nq).all (iG qs)=false:=by
     rw[List.all_eq_false];exact⟨k,by simpa using hlt,by rw[hf];simp⟩
    rw[HV.out,hall];simp
   have htrue:iG qs k=true->(List.range (k+1)).all (iG qs)=true:=by
    intro ht;rw[List.range_succ,List.all_append,HA.out];simp[ht]
   have HF:=aB hfalse;have HTr:=aB htrue;clear hfalse htrue;cases h1:bI q1
   ·have hv:=HF.out (by rw[HK.out,h1];simp);subst hv;rw[h1]at cN;have HN:=aB cN;clear cN cV h1;go_wp2_with fail;have k1:=cell_regrown f1;have k2:=cell_regrown f2;have k3:=cell_regrown f3;refine wp_region_quiet_below aC aC ?_;(repeat (any_goals (first | go_big_quiet_step ((first | exact fF HN.out _ _)) | quiet_step ((first | exact fF HN.out _ _)))));refine wpQuiet_nil ?_;intro _ hwq;obtain⟨⟨dq,osq⟩,hwq⟩:=hwq;subst hwq;have hb3:=below_regrown (wr.alloc (.cells #[.string q1,.string q2] 298)) dq osq;generalize grow (redrawn (wr.alloc (.cells #[.string q1,.string q2] 298)) dq) osq=w3 at *;go_wp2;go_ret2;exact⟨rfl,aG⟩
   cases h2:bC q2
   ·have hv:=HF.out (by rw[HK.out,h2];simp);subst hv;rw[h1]at cN;rw[h2]at cV;have HN:=aB cN;have HW:=aB cV;clear cN cV h1 h2;exact U5
   rw[h1]at cN;rw[h2]at cV;have HN:=aB cN;have HW:=aB cV;clear cN cV;rcases k with _ | j
   ·have hok:=HTr.out (by rw[HK.out,h1,h2];simp);have HO:=aB hok;have hc1':wr.cell? ⟨pb,po,none⟩=some (.string q1):=by simpa using hc1
    have hc2':wr.cell? ⟨pb,po+1,none⟩=some (.string q2):=by simpa using hc2
    clear hok h1 h2 hc1 hc2;exact U5
   ·obtain⟨q0,hq0⟩:∃ q,qs[j]? = some q:=⟨_,List.getElem?_eq_getElem aA⟩;have hg:(qs[j+1-1]?.getD (⟨#[]⟩,⟨#[]⟩)).1=q0.1:=by rw[Nat.add_sub_cancel,hq0];rfl
    have hc4:wr.cell? ⟨pb,po+j*2,none⟩=_:=HC.out _ _ (um qs j q0 hq0).1;have hsz0:=(HQS.out q0 (List.mem_of_getElem? hq0)).1;obtain⟨q0,v0⟩:=q0;dsimp only at hc4 hg hsz0;have f4:(wr.alloc (.cells #[.string q1,.string q2] 298)).cell? ⟨pb,po+j*2,none⟩=some (.string q0):=aP (aU (Below.refl _ _) _) hc4;have hpk:=HK.out;rw[hg,h1,h2]at hpk;clear HK hc4 hg hq0 h1 h2;obtain⟨t,ht⟩:∃ t,(Op.bytesLess q1.toList q0.toList||q1.toList==q0.toList)=t:=⟨_,rfl⟩;rw[ht]at hpk;cases t
    ·have HO:=aB (HTr.out (by rw[hpk];simp));exact U6
    ·have hv:=HF.out (by rw[hpk];simp);subst hv;exact U6
  ·obtain rfl:k=nq:=aA;have hv:=HV.out;rw[HA.out,Bool.true_and]at hv;have hsz:(⟨(W06 c xs qs).toArray⟩:ByteArray).size=(W06 c xs qs).length:=by simp[Lib.size_eq]
   obtain⟨s,hs⟩:∃ s:ByteArray,s=⟨(W06 c xs qs).toArray⟩:=⟨_,rfl⟩;have cW:∀ W,aH W 1 P np (xs.map .string)->aH W 2 Q k (dS qs)->Calls prog 207 #[.agg #[.string c,.slice P np cp,.slice Q k cq]] W (Ret W (.string s)):=fun W h1 h2=>hs▸LY c P Q np cp k cq xs qs W h1 h2 HT.out
   have HW:=aB cW;rw[<-hs]at hsz;clear cW hlt;by_cases hl:(W06 c xs qs).length<=4096
   ·rw[decide_eq_true hl,if_pos rfl,<-hs]at hv;subst hv;have hl':s.size<=4096:=aA;exact U7
   ·rw[decide_eq_false hl]at hv;simp only[Bool.false_eq_true,if_false]at hv;subst hv;have hl':4096<s.size:=aA;exact U7
end Go.Proofs.YtlkbkclnbppigaaGreatDoor
