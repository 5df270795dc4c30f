/- What 'pairs' returns: the pairs of a query. -/
import Derived.Test.YtlkbkclnbppigaaGreatDoorIZ5
import Derived.Maps.OwnIn
set_option maxHeartbeats 8000000
namespace Go.Proofs.YtlkbkclnbppigaaGreatDoor
open Tryz
open Go.RowKit Go.Sort
set_option linter.unusedVariables false
set_option linter.unusedSimpArgs false
set_option maxRecDepth 100000
attribute [local go_sem] Oper.semAt_some
open Go.Maps
theorem rC(s sep:aC)(w:World):Calls prog 263 #[.string s,.string sep] w fun e w' =>
  e=.returned (.func (.func 316) #[] #[.pointer (some ⟨w.heap.size+1,0,none⟩),.pointer (some ⟨w.heap.size,0,none⟩),.pointer (some ⟨w.heap.size+1+1,0,none⟩)]) /\
   w'=((w.alloc (.cells #[.string s] 9)).alloc (.cells #[.string sep] 9)).alloc (.cells #[.int .i64 0] 3):=by
 go_enter func263,ntmps263;go_wp2;go_ret;exact⟨rfl,rfl⟩
def toB(l:List UInt8):aC:=⟨l.toArray⟩
def ru(p:aC):Option (List UInt8 × List UInt8) :=
 if (Lib.cut p.data.toList [61]).2.2&&bU (toB (Lib.cut p.data.toList [61]).1)&&bW (toB (Lib.cut p.data.toList [61]).2.1) then some ((Lib.cut p.data.toList [61]).1,(Lib.cut p.data.toList [61]).2.1) else none
def gI:List (List UInt8 × List UInt8)->List aC->Option (List (List UInt8 × List UInt8))
 | acc,[]=>some acc
 | acc,p :: r=>match ru p with
  | none=>none
  | some q=>gI (acc++[q]) r
def lN(s:aC):Option (List (aC × aC)) :=
 if s.toList.isEmpty then some [] else (gI [] (splitB 38 s)).map fun acc=>(jU acc).map fun q=>(toB q.1,toB q.2)
theorem O4:Keyed prog 9:=string_keyed underlying9
theorem Zy(w:World):(zeroValue 9).run prog w=.ok (.string ByteArray.empty) w:=by kernel_rfl
theorem Zz:(prog.info? 298).map (fun i=>(i.zero,i.size,i.bytes))=some (some (.agg #[.string ⟨#[]⟩,.string ⟨#[]⟩]),2,32):=by kernel_rfl
theorem D8(s:aC)(c:UInt8)(w:World)(hs:s.size<=4294967200)(hE:Env w) :
  Calls prog 260 #[.string s,.string ⟨#[c]⟩] w (Ret w (.tuple #[.string (toB (Lib.cut s.data.toList [c]).1),.string (toB (Lib.cut s.data.toList [c]).2.1),.bool (Lib.cut s.data.toList [c]).2.2])):=by
 obtain⟨m,hm⟩:=hE;refine (strings_Cut s ⟨#[c]⟩ m w aB hm).mono ?_;rintro e w' ⟨rfl,n,rfl⟩;exact⟨rfl,oK (Below.refl _ _) n⟩
theorem O5(c:UInt8):∀(l p:List UInt8),p∈dO c l->p.length<=l.length
 | [],p,h=>by simp[dO]at h;simp[h]
 | b :: r,p,h=>by
  unfold dO at h;have ih:=O5 c r;split at h
  ·rcases List.mem_cons.1 h with rfl | h
   ·simp
   ·have:=ih p h;simp;omega
  ·split at h
   ·simp at h;simp[h]
   ·rename_i q ps e;rcases List.mem_cons.1 h with rfl | h
    ·have:=ih q (by rw[e];simp);simp;omega
    ·have:=ih p (by rw[e];simp[h]);simp;omega
theorem O6(c:UInt8):∀ l:List UInt8,(dO c l).length<=l.length+1
 | []=>by simp[dO]
 | b :: r=>by
  unfold dO;have ih:=O6 c r;split
  ·simp;omega
  ·split
   ·simp
   ·rename_i e;rw[e]at ih;simp at ih ⊢;omega
theorem oU(c:UInt8)(s p:aC)(h:p∈splitB c s):p.size<=s.size:=by
 obtain⟨l,hl,rfl⟩:=List.mem_map.1 h;have:=O5 c _ l hl;rw[Lib.size_eq s];exact this
theorem qM(c:UInt8)(s:aC):(splitB c s).length<=s.size+1:=by
 have:=O6 c s.data.toList;rw[Lib.size_eq s,splitB,List.length_map];exact this
theorem EC(l q:List UInt8):(Lib.cut l q).1.length<=l.length:=by
 unfold Lib.cut;split
 ·simp;omega
 ·exact Nat.le_refl _
theorem ED(l q:List UInt8):(Lib.cut l q).2.1.length<=l.length:=by
 unfold Lib.cut;split
 ·simp
 ·simp
theorem mg(l:List UInt8):(toB l).size=l.length:=rfl
theorem rH{s:aC}(h:bU s=true):s.size<=64:=by
 simp[bU,bW]at h;omega
theorem xm{s:aC}(h:bW s=true):s.size<=64:=by
 simp[bW]at h;omega
theorem O7(q:List UInt8 × List UInt8):∀(acc l:List (List UInt8 × List UInt8)),uO l->q∈acc.foldl jG l->q∈l\/q∈acc
 | [],_,_,h=>.inl h
 | p :: acc,l,hs,h=>by
  rcases O7 q acc _ (zV p l hs) h with h | h
  ·rcases (qF p l hs q).1 h with h | ⟨h,_⟩
   ·exact .inr (by rw[h];simp)
   ·exact .inl h
  ·exact .inr (by simp[h])
theorem O8{q:List UInt8 × List UInt8}{acc:List (List UInt8 × List UInt8)}(h:q∈jU acc):q∈acc:=by
 rcases O7 q acc [] List.Pairwise.nil h with h | h
 ·cases h
 ·exact h
theorem Z4:plainElem (H:=Unit) prog 9 (.string ByteArray.empty)=some (.lit (.string []),[]):=plainElem_string underlying9 aK
def zL(ps:List aC)(w:World)(k:Nat)(W:World):Prop :=
 ∃ acc:List (List UInt8 × List UInt8),(gI [] ps=gI acc (ps.drop k)/\(∀ q∈acc,q.1.length<=64/\q.2.length<=64)) /\
  Boxed W w.heap.size 198 (.slice none 0 0)/\Boxed W (w.heap.size+1) 4 (.bool false)/\Boxed W (w.heap.size+1+1+1) 323 (.map (some (w.heap.size+1+1))) /\
  W.ownsMap prog 9 (plainElem prog 9) (w.heap.size+1+1) k (l9 acc)/\aF w W/\w.heap.size+7<=W.heap.size
theorem wJ(B:Nat)(t:TypeId)(v:Value)(W W':World)(row:Option Nat)(h:Boxed W B t v)(hg:W.grownBy W' row)(hr:∀ r,row=some r->∃ o:Obj,W.heap[r]? = some o/\o.isCells=false):Boxed W' B t v :=
 boxed_own B t (fun _:Unit=>v) () W W' row h hg hr
theorem Z5(ps:List aC)(w:World)(B:Nat)(hB:w.heap.size+7<=B):OwnFrom B (zL ps w):=by
 rintro k W W' row ⟨acc,h1,h2,h3,h4,h5,h6,h7⟩ hg hr;have hr':=fun r e=>(hr r e).2
 exact⟨acc,h1,wJ _ _ _ W W' row h2 hg hr',wJ _ _ _ W W' row h3 hg hr',wJ _ _ _ W W' row h4 hg hr',h5.kept hg (fun e=>by have:=(hr _ e.symm).1;omega),h6.grown hg aB (fun r e=>vY),Nat.le_trans h7 hg.size⟩
theorem Z7{P:Program}{k:TypeId}{R:Value->Option (DataW Unit × List MemPlace)}{W W':World}{b n:Nat}{D:DataW Unit}(h:W.ownsMap P k R b n D)(hs:W'.heap[b]? = W.heap[b]?):W'.ownsMap P k R b n D:=by
 obtain⟨es,clock,hb,r⟩:=h;exact⟨es,clock,hs.trans hb,r⟩
theorem Z9(ps:List aC)(w:World)(k:Nat)(W W':World)(h:zL ps w k W)(hT:yG (w.heap.size+1+1+1+1) W W'):zL ps w k W':=by
 obtain⟨acc,h1,h2,h3,h4,h5,h6,h7⟩:=h;obtain⟨v,rfl⟩:=hT;exact⟨acc,h1,kG h2 wK _,kG h3 wK _,kG h4 aH _,Z7 h5 (Below.heap_setCell _ _ _ _ wK),h6.setCell (p:=⟨w.heap.size+1+1+1+1,0,none⟩) aP _,by simpa[World.setCell] using h7⟩
theorem EE{w W w2:World}{B:Nat}(h3:Boxed W w.heap.size 198 (.slice none 0 0))(h4:Boxed W (w.heap.size+1) 4 (.bool false))(hbw:aF w W)(hsz:w.heap.size+7<=W.heap.size)(hb2:aF W w2) :
  KeepsFrom B W ((w2.setCell ⟨w.heap.size,0,none⟩ (.slice none 0 0)).setCell ⟨w.heap.size+1,0,none⟩ (.bool false))/\Boxed ((w2.setCell ⟨w.heap.size,0,none⟩ (.slice none 0 0)).setCell ⟨w.heap.size+1,0,none⟩ (.bool false)) w.heap.size 198 (.slice none 0 0) /\
   Boxed ((w2.setCell ⟨w.heap.size,0,none⟩ (.slice none 0 0)).setCell ⟨w.heap.size+1,0,none⟩ (.bool false)) (w.heap.size+1) 4 (.bool false)/\aF w ((w2.setCell ⟨w.heap.size,0,none⟩ (.slice none 0 0)).setCell ⟨w.heap.size+1,0,none⟩ (.bool false)) /\
   w.heap.size+7<=((w2.setCell ⟨w.heap.size,0,none⟩ (.slice none 0 0)).setCell ⟨w.heap.size+1,0,none⟩ (.bool false)).heap.size:=by
 refine⟨(((zH hb2).trans (KeepsOthers.setCell _ _ _)).trans (KeepsOthers.setCell _ _ _)).from _,kG ((qy h3 hb2).set _) aH _,(kG (qy h4 hb2) aH _).set _,?_,?_⟩
 ·exact ((hbw.trans (hb2.mono aB)).setCell (p:=⟨w.heap.size,0,none⟩) aH _).setCell (p:=⟨w.heap.size+1,0,none⟩) wK _
 ·have:=hb2.size;simp[World.setCell];omega
def nT(r:Option (List (aC × aC)))(w:World)(e:Ending)(w':World):Prop :=
 aF w w'/\match r with
  | none=>e=.returned (.tuple #[.slice none 0 0,.bool false])
  | some out=>∃ A c,e=.returned (.tuple #[.slice A out.length c,.bool true])/\aI w' 2 A out.length (eY out)/\∀ a,A=some a->w.heap.size<=a.block
theorem aAa(s:aC)(w:World)(hs:s.size<=1000000000)(hE:Env w)(hne:s.toList.isEmpty=false) :
  Calls prog 266 #[.string s] w (nT ((gI [] (splitB 38 s)).map fun acc=>(jU acc).map fun q=>(toB q.1,toB q.2)) w):=by
 have hmm:=@run_makeMap prog;refine (callsIn_wide (n:=0)).1 ?_;refine callsIn_of_wp_marks func266 rfl trivial ?_ rfl;simp only[ntmps266,List.size_toArray,List.length_cons,List.length_nil,Nat.reduceAdd,Nat.reduceSub,Array.replicate_succ,Array.replicate_zero,List.push_toArray,List.append_toArray,List.nil_append,List.cons_append]
 gi_wp2_with (refine⟨trivial,rfl,?_⟩;gi_at_call 263;refine (callsIn_wide.2 (rC s _ _)).mono ?_;rintro e w' ⟨rfl,hw⟩;rw[hw])
 obtain⟨W1,hW1⟩:∃ W1,W1=(w.alloc (.cells #[.slice none 0 0] 198)).alloc (.cells #[.bool false] 4):=⟨_,rfl⟩;obtain⟨Wl,hWl⟩:∃ Wl,Wl=(((((W1.alloc (.map #[] 0)).alloc (.cells #[.map (some (w.heap.size+1+1))] 323)).alloc (.cells #[.string s] 9)).alloc (.cells #[.string ⟨#[38]⟩] 9)).alloc (.cells #[.int .i64 0] 3)):=⟨_,rfl⟩;have hs1:W1.heap.size=w.heap.size+1+1:=by rw[hW1];simp
 have hsz:Wl.heap.size=w.heap.size+7:=by rw[hWl];simp[hs1]
 have hbW:aF w Wl:=by rw[hWl,hW1];exact aU (aU (aU (aU (aU (aU (aU (Below.refl _ _) _) _) _) _) _) _) _
 have b1:Boxed Wl w.heap.size 198 (.slice none 0 0):=by rw[hWl,hW1];exact ((((((Boxed.new w _ _).alloc _).alloc _).alloc _).alloc _).alloc _).alloc _
 have b2:Boxed Wl (w.heap.size+1) 4 (.bool false):=by
  have:=Boxed.new (w.alloc (.cells #[.slice none 0 0] 198)) 4 (.bool false);rw[World.size_alloc]at this;rw[hWl,hW1];exact ((((this.alloc _).alloc _).alloc _).alloc _).alloc _
 have bm:Wl.ownsMap prog 9 (plainElem prog 9) (w.heap.size+1+1) 0 (l9 []):=by
  have:=World.ownsMap_made W1 prog 9 (plainElem (H:=Unit) prog 9);rw[hs1]at this;rw[hWl];exact (((this.alloc _).alloc _).alloc _).alloc _
 have b4:Boxed Wl (w.heap.size+1+1+1) 323 (.map (some (w.heap.size+1+1))):=by
  have:=Boxed.new (W1.alloc (.map #[] 0)) 323 (.map (some (w.heap.size+1+1)));rw[World.size_alloc,hs1]at this;rw[hWl];exact ((this.alloc _).alloc _).alloc _
 have b5:Boxed Wl (w.heap.size+1+1+1+1) 9 (.string s):=by
  have:=Boxed.new ((W1.alloc (.map #[] 0)).alloc (.cells #[.map (some (w.heap.size+1+1))] 323)) 9 (.string s);rw[World.size_alloc,World.size_alloc,hs1]at this;rw[hWl];exact (this.alloc _).alloc _
 have b6:Boxed Wl (w.heap.size+1+1+1+1+1) 9 (.string ⟨#[38]⟩):=by
  have:=Boxed.new (((W1.alloc (.map #[] 0)).alloc (.cells #[.map (some (w.heap.size+1+1))] 323)).alloc (.cells #[.string s] 9)) 9 (.string ⟨#[38]⟩);rw[World.size_alloc,World.size_alloc,World.size_alloc,hs1]at this;rw[hWl];exact this.alloc _
 have b7:Boxed Wl (w.heap.size+1+1+1+1+1+1) 3 (.int .i64 0):=by
  have:=Boxed.new ((((W1.alloc (.map #[] 0)).alloc (.cells #[.map (some (w.heap.size+1+1))] 323)).alloc (.cells #[.string s] 9)).alloc (.cells #[.string ⟨#[38]⟩] 9)) 3 (.int .i64 0);rw[World.size_alloc,World.size_alloc,World.size_alloc,World.size_alloc,hs1]at this;rw[hWl];exact this
 rw[hW1]at hWl;rw[<-hWl];clear hWl hW1 hs1 W1 hmm hne;have hsq:=IQ (w.heap.size+1+1+1+1) 38 s Wl aB b5.cell b6.cell b7.cell b5.frozen;refine wU (gf:=316) (lb:=#[.pointer (some ⟨w.heap.size+1+1+1+1+1,0,none⟩),.pointer (some ⟨w.heap.size+1+1+1+1,0,none⟩),.pointer (some ⟨w.heap.size+1+1+1+1+1+1,0,none⟩)]) rfl (enters_of func316 aG rfl) hsq (Below.refl _ _) aB (zL (splitB 38 s) w)
  (fun c W=>c=.ret/\gI [] (splitB 38 s)=none/\Boxed W w.heap.size 198 (.slice none 0 0)/\Boxed W (w.heap.size+1) 4 (.bool false)/\aF w W/\w.heap.size+7<=W.heap.size)
  (Z5 (splitB 38 s) w _ aB) ?ixo ⟨[],⟨rfl,aH⟩,b1,b2,b4,bm,hbW,aB⟩
  (Z9 _ _) Oh
  (fun x=>{ tmps:=#[.string s,undef,.pointer (some ⟨w.heap.size,0,none⟩),.pointer (some ⟨w.heap.size+1,0,none⟩),.pointer (some ⟨w.heap.size+1+1+1,0,none⟩),x,undef,undef,undef,undef,undef,undef,.string s,.bool false,.map (some (w.heap.size+1+1)),.string s,.func (.func 316) #[] #[.pointer (some ⟨w.heap.size+1+1+1+1+1,0,none⟩),.pointer (some ⟨w.heap.size+1+1+1+1,0,none⟩),.pointer (some ⟨w.heap.size+1+1+1+1+1+1,0,none⟩)],x,undef,undef,undef,undef,undef,undef,undef,undef,undef,undef,undef,undef,undef,undef,undef,undef,undef,undef,undef,undef,undef,undef,undef,undef,undef,undef,undef,undef,undef,undef,undef,undef,undef,undef,undef,undef,undef,undef,undef],defers:=[] }) ?assign ?body ?done ?stop
 case ixo =>
  rintro c _ W W' row ⟨h0,h1,h2,h3,h4,h5⟩ hg hr;have hr':=fun r e=>(hr r e).2
  exact⟨h0,h1,wJ _ _ _ W W' row h2 hg hr',wJ _ _ _ W W' row h3 hg hr',h4.grown hg aB (fun r e=>vY),Nat.le_trans h5 hg.size⟩
 case assign =>
  intro l x W K _ hK
  gi_wp2
  exact hK
 case body =>
  rintro l k x W hx ⟨acc,⟨hr1,hr2⟩,h3,h4,h5,hown,hbw,hsz6⟩;obtain⟨p,hp,rfl⟩:=pG hx;have hpm:=List.mem_of_getElem? hp;have hps:p.size<=1000000000:=Nat.le_trans (oU 38 s p hpm) hs;have hkl:k<(splitB 38 s).length:=(List.getElem?_eq_some_iff.1 hp).1;have hnum:=qM 38 s;have hd:(splitB 38 s).drop k=p :: (splitB 38 s).drop (k+1):=by
   exact AC
  rw[hd,gI]at hr1;clear hx hp hd hpm;have hE1:=hE.keep (w:=w) (w':=W) hbw;have cC:=D8 p 61 W aB hE1;have hKl:=EC p.data.toList [61];have hVl:=ED p.data.toList [61];have hpz:p.data.toList.length=p.size:=(Lib.size_eq p).symm;simp only[ru]at hr1;generalize Lib.cut p.data.toList [61]=r at hr1 cC hKl hVl;obtain⟨K,V,ok⟩:=r;dsimp only at hr1 cC hKl hVl;have cN:=fun W'=>rW (toB K) W' (by rw[mg];omega)
  have cV:=fun W'=>oW (toB V) W' (by rw[mg];omega)
  have c2:=h3.cell;have f2:=h3.frozen;have c3:=h4.cell;have f3:=h4.frozen;have c4:=h5.cell;cases ok
  ·have hn:gI [] (splitB 38 s)=none:=by rw[hr1];simp
   clear hr1 cN cV
   gi_wp2_with (first | (refine⟨trivial,rfl,?_⟩;gi_at_call 260;refine (CallsIn.inRound l (callsIn_wide.2 (cC))).mono ?_;rintro e w1 ⟨rfl,hb1⟩;replace f2:=dV hb1 (bu c2) f2;replace c2:=aW hb1 c2;replace f3:=dV hb1 (bu c3) f3;replace c3:=aW hb1 c3;replace c4:=aW hb1 c4) | (refine And.intro trivial ?_))
   obtain⟨k1,k2,k3,k4,k5⟩:=EE (B:=Wl.heap.size) h3 h4 hbw hsz6 (w2:=w1) aJ;exact⟨k1,rfl,hn,k2,k3,k4,k5⟩
  cases hnm:bU (toB K)
  ·have hn:gI [] (splitB 38 s)=none:=by rw[hr1];simp[hnm]
   rw[hnm]at cN;have HN:=aA cN;clear hr1 cV cN hnm
   gi_wp2_with (first | (refine⟨trivial,rfl,?_⟩;gi_at_call 260;refine (CallsIn.inRound l (callsIn_wide.2 (cC))).mono ?_;rintro e w1 ⟨rfl,hb1⟩;replace f2:=dV hb1 (bu c2) f2;replace c2:=aW hb1 c2;replace f3:=dV hb1 (bu c3) f3;replace c3:=aW hb1 c3;replace c4:=aW hb1 c4) | (refine⟨trivial,rfl,?_⟩;gi_at_call 94;refine (CallsIn.inRound l (callsIn_wide.2 (HN.out _))).mono ?_;rintro e w2 ⟨rfl,hb2⟩;replace f2:=dV hb2 (bu c2) f2;replace c2:=aW hb2 c2;replace f3:=dV hb2 (bu c3) f3;replace c3:=aW hb2 c3;replace c4:=aW hb2 c4) | (refine And.intro trivial ?_))
   obtain⟨k1,k2,k3,k4,k5⟩:=EE (B:=Wl.heap.size) h3 h4 hbw hsz6 (w2:=w2) aJ;exact⟨k1,rfl,hn,k2,k3,k4,k5⟩
  cases hwd:bW (toB V)
  ·have hn:gI [] (splitB 38 s)=none:=by rw[hr1];simp[hwd]
   rw[hnm]at cN;rw[hwd]at cV;have HN:=aA cN;have HV:=aA cV;clear hr1 cV cN hnm hwd
   gi_wp2_with (first | (refine⟨trivial,rfl,?_⟩;gi_at_call 260;refine (CallsIn.inRound l (callsIn_wide.2 (cC))).mono ?_;rintro e w1 ⟨rfl,hb1⟩;replace f2:=dV hb1 (bu c2) f2;replace c2:=aW hb1 c2;replace f3:=dV hb1 (bu c3) f3;replace c3:=aW hb1 c3;replace c4:=aW hb1 c4) | (refine⟨trivial,rfl,?_⟩;gi_at_call 94;refine (CallsIn.inRound l (callsIn_wide.2 (HN.out _))).mono ?_;rintro e w2 ⟨rfl,hb2⟩;replace f2:=dV hb2 (bu c2) f2;replace c2:=aW hb2 c2;replace f3:=dV hb2 (bu c3) f3;replace c3:=aW hb2 c3;replace c4:=aW hb2 c4) | (refine⟨trivial,rfl,?_⟩;gi_at_call 162;refine (CallsIn.inRound l (callsIn_wide.2 (HV.out _))).mono ?_;rintro e w3 ⟨rfl,hb3⟩;replace f2:=dV hb3 (bu c2) f2;replace c2:=aW hb3 c2;replace f3:=dV hb3 (bu c3) f3;replace c3:=aW hb3 c3;replace c4:=aW hb3 c4) | (refine And.intro trivial ?_))
   obtain⟨k1,k2,k3,k4,k5⟩:=EE (B:=Wl.heap.size) h3 h4 hbw hsz6 (w2:=w3) aJ;exact⟨k1,rfl,hn,k2,k3,k4,k5⟩
  have hn:gI [] (splitB 38 s)=gI (acc++[(K,V)]) ((splitB 38 s).drop (k+1)):=by rw[hr1];simp[hnm,hwd]
  have hK64:=rH hnm;have hV64:=xm hwd;rw[mg]at hK64 hV64;rw[hnm]at cN;rw[hwd]at cV;have HN:=aA cN;have HV:=aA cV;have HE:=aA hn;clear hr1 cV cN hnm hwd hn
  gi_wp2_with (first | (refine⟨trivial,rfl,?_⟩;gi_at_call 260;refine (CallsIn.inRound l (callsIn_wide.2 (cC))).mono ?_;rintro e w1 ⟨rfl,hb1⟩;replace f2:=dV hb1 (bu c2) f2;replace c2:=aW hb1 c2;replace f3:=dV hb1 (bu c3) f3;replace c3:=aW hb1 c3;replace c4:=aW hb1 c4;have hown1:=hown.kept (row:=none) (wH hb1) aH) | (refine⟨trivial,rfl,?_⟩;gi_at_call 94;refine (CallsIn.inRound l (callsIn_wide.2 (HN.out _))).mono ?_;rintro e w2 ⟨rfl,hb2⟩;replace f2:=dV hb2 (bu c2) f2;replace c2:=aW hb2 c2;replace f3:=dV hb2 (bu c3) f3;replace c3:=aW hb2 c3;replace c4:=aW hb2 c4;have hown2:=hown1.kept (row:=none) (wH hb2) aH) | (refine⟨trivial,rfl,?_⟩;gi_at_call 162;refine (CallsIn.inRound l (callsIn_wide.2 (HV.out _))).mono ?_;rintro e w3 ⟨rfl,hb3⟩;replace f2:=dV hb3 (bu c2) f2;replace c2:=aW hb3 c2;replace f3:=dV hb3 (bu c3) f3;replace c3:=aW hb3 c3;replace c4:=aW hb3 c4;obtain⟨w4,hrun4,hown4,hgrow4⟩:=(hown2.kept (row:=none) (wH hb3) aH).update O4 underlying323 dh (Go.WideMaps.keyOf_string_mk underlying9 (s:=toB K) EF) (plainElem_string (s:=toB V) underlying9 EF)) | (refine And.intro trivial ?_))
  have hbc:aF W w3:=aJ;have hz3:=hbc.size;have hbw4:aF w w4:=(hbw.trans (hbc.mono aB)).grown hgrow4 aB (fun r e=>by injection e;omega);have hbl:∀ j,j<W.heap.size->j≠w.heap.size+1+1->w4.heap[j]? = W.heap[j]?:=fun j h1 h2=>(hgrow4.block j aB (fun e=>by injection e;omega)).trans (hbc.block j h1)
  refine⟨((zH hbc).from _).trans (KeepsFrom.of_grownBy hgrow4 (fun j e=>by injection e;omega)),fun j h1 h2=>hbl j aB aB,acc++[(K,V)],⟨HE.out,?_⟩,(hbl _ aB aB).trans h3,(hbl _ aB aB).trans h4,(hbl _ aB aB).trans h5,?_,hbw4,by have:=hgrow4.size;omega⟩
  ·intro q hq;rcases List.mem_append.1 hq with hq | hq
   ·exact hr2 q hq
   ·rw[List.mem_singleton.1 hq];exact⟨hK64,hV64⟩
  ·have:l9 (acc++[(K,V)])=(l9 acc).put (.string K) (.lit (.string V)):=by simp[l9]
   rw[this];exact hown4
 case done =>
  rintro D W hD ⟨acc,⟨hr1,hr2⟩,h3,h4,h5,hown,hbw,hsz6⟩ hK;rw[List.length_map,List.drop_eq_nil_of_le (Nat.le_refl _),gI]at hr1;have hG:=zW acc;have hDsz:Maps.size (l9 acc)<=(splitB 38 s).length:=by
   rw[List.length_map]at hown;exact hown.size_le
  have hnum:=qM 38 s;have c2:=h3.cell;have f2:=h3.frozen;have c3:=h4.cell;have f3:=h4.frozen;have c4:=h5.cell;obtain⟨Wm,hWm⟩:∃ Wm,Wm=W.alloc (.cells #[.map (some (w.heap.size+1+1))] 323):=⟨_,rfl⟩;have hwm:Wm.heap.size=W.heap.size+1:=by rw[hWm];simp
  have hbm:aF W Wm:=by rw[hWm];exact aU (Below.refl _ _) _
  have cS:=slices_Sorted_keys_96_302 (w.heap.size+1+1) _ (l9 acc) (plainElem prog 9) W hown dh aB;rw[<-hWm]at cS
  gi_wp2
  refine⟨trivial,rfl,?_⟩
  gi_at_call 302
  refine (callsIn_wide.2 (callsIn_wide.1 (maps_Keys_302 (some (w.heap.size+1+1)) W))).mono ?_;rintro e w1 ⟨rfl,hw1⟩;rw[<-hWm]at hw1;clear hWm;rw[hw1]
  gi_wp2
  refine⟨trivial,rfl,?_⟩
  gi_at_call 96
  refine (callsIn_wide.2 (callsIn_wide.1 cS)).mono ?_;rintro e w2 ⟨v,ss,rfl,hperm,hrow,hnil,hbs⟩;have hks:=Qh acc ss hperm;obtain⟨vA,vc,rfl⟩:∃ vA vc,v=.slice vA ss.length vc:=by
   exact zJ
  gi_wp2
  have hnl:ss.length<=(splitB 38 s).length:=by
   have:=hperm.length_eq;rw[this];refine Nat.le_trans (Nat.le_of_eq ?_) hDsz;unfold strKeys Maps.size;split <;> simp_all
  obtain⟨out,hout⟩:∃ out,out=(jU acc).map fun q=>(toB q.1,toB q.2):=⟨_,rfl⟩
  have hlk:ss.length=(jU acc).length:=by
   have:=congrArg List.length hks;simpa using this
  rw[hks]at hrow;have hrd:=aI.of_own hrow;have hbsW:aF W w2:=aV hbm hbs;have HR:=aA hr1;have HO:=aA hout;have HLK:=aA hlk;clear hks hr1 hlk hout hrow hperm hbs hbm hnil cS b1 b2 bm b4 b5 b6 b7 hbW
  gi_loopw [9,43] (fun va vi wr=>∃(k:Nat)(A:Option Addr)(c:Nat),(va=.slice A k c/\vi=.int .i64 k/\k<=ss.length)/\wr.ownsRow w2.heap.size 298 2 (.slice A k c) k (eY (out.take k))/\aF w2 wr) (fun _ vi _=>ss.length-(intOf vi).toNat)
  case atStart=>exact⟨0,none,0,⟨rfl,rfl,Nat.zero_le _⟩,World.ownsRow_nil _ _ _ _,Below.refl _ _⟩
  case round =>
   obtain⟨k,A,c,⟨rfl,rfl,hk⟩,hown9,hbr⟩:=hrel;have hbWr:aF W wr:=hbsW.trans (hbr.mono hbsW.size);by_cases hlt:k<ss.length
   ·obtain⟨q,hq⟩:∃ q,(jU acc)[k]? = some q:=⟨_,List.getElem?_eq_getElem (by have:=HLK.out;omega)⟩;have hqm:=List.mem_of_getElem? hq;obtain⟨hq1,hq2⟩:=hr2 q (O8 hqm);obtain⟨pb,po,u,rfl,hu,hcell⟩:=(hrd.keep hbr).at_ hlt;obtain rfl:u=.string (toB q.1):=by
     simp[hq]at hu;exact hu.symm
    obtain⟨lv,lps,hlkp,hlv⟩:=(hown.kept (row:=none) (wH hbWr) aH).lookup O4 underlying323 (Zy _) Z4 (WideMaps.keyOf_string_mk underlying9 (s:=toB q.1) EF);obtain⟨s',rfl,he,_⟩:=plainElem_string_inv underlying9 hlv;obtain rfl:s'=toB q.2:=by
     have h1:=hG.2.2.2.2 q.1 q.2 hqm (.lit (.string []));have h2:=congrArg Prod.fst he;dsimp only at h2;rw[show (toB q.1).data.toList=q.1 from rfl,h1]at h2;injection h2 with h2
     injection h2 with h2
     exact fK h2.symm
    have c4r:=aW hbWr c4;have HQ:=aA hq;clear hu hq hlv he hqm;obtain⟨i0,hi0,hz0,hz1,hz2⟩:=info_parts Zz
    gi_wp2_with (gi_at_builtin;refine wpListIn_append_own _ rfl _ _ 198 rfl w2.heap.size 298 i0 (.agg #[.string ⟨#[]⟩,.string ⟨#[]⟩]) 2 32 underlying198 hi0 hz0 hz1 hz2 rfl aK _ _ _ rfl (hown9.alloc _) ⟨wr.heap.size,0,none⟩ 1 1 [.string (toB q.1),.string (toB q.2)] rfl rfl (World.news_of_block (World.alloc_heap_new _ _)) jJ dh aB (by have:=hbr.size;simp;omega) ?_;intro v' w3 hown' hgrow _;obtain⟨g',cap',rfl⟩:=ownsRow_succ hown')
    refine⟨⟨k+1,some ⟨g',0,none⟩,cap',⟨rfl,bg,aB⟩,?_,?_⟩,dD⟩
    ·have hqo:out[k]? = some (toB q.1,toB q.2):=by rw[HO.out];simp[HQ.out]
     have:eY (out.take (k+1))=eY (out.take k)++[.string (toB q.1),.string (toB q.2)]:=by simp[eY,List.take_add_one,hqo]
     rw[this];exact hown'
    ·exact (aU hbr _).grown hgrow (by have:=hbr.size;simp;omega) (fun r e=>fE hown9 r e)
   ·obtain rfl:k=ss.length:=aB;clear hlt;have f2r:=dV hbWr (bu c2) f2;have f3r:=dV hbWr (bu c3) f3;have c2r:=aW hbWr c2;have c3r:=aW hbWr c3
    gi_wp2
    have hDW:w.heap.size+7<=D:=aB;have hDl:D<W.heap.size:=(Array.getElem?_eq_some_iff.1 hK).1;have hKr:wr.heap[D]? = some (.deferred (some [])):=(hbWr.block D hDl).trans hK;have hk2:=((KeepsOthers.setCell wr ⟨w.heap.size,0,none⟩ (.slice A ss.length c)).trans (KeepsOthers.setCell _ ⟨w.heap.size+1,0,none⟩ (.bool true))).same D _ hKr rfl;obtain⟨W2,hW2⟩:∃ W2,W2=(wr.setCell ⟨w.heap.size,0,none⟩ (.slice A ss.length c)).setCell ⟨w.heap.size+1,0,none⟩ (.bool true):=⟨_,rfl⟩;have x3:Boxed W2 w.heap.size 198 (.slice A ss.length c):=hW2▸kG ((qy h3 hbWr).set _) aH _;have x4:Boxed W2 (w.heap.size+1) 4 (.bool true):=hW2▸(kG (qy h4 hbWr) aH _).set _;have hzW:=hbWr.size;have hzw2:=hbsW.size;have hb2:aF w W2:=hW2▸((hbw.trans (hbWr.mono aB)).setCell (p:=⟨w.heap.size,0,none⟩) aH _).setCell (p:=⟨w.heap.size+1,0,none⟩) wK _;have hr2':W2.ownsRow w2.heap.size 298 2 (.slice A ss.length c) ss.length (eY (out.take ss.length)):=by
     rw[hW2];refine rX hown9 (fun j hj=>?_);rw[Below.heap_setCell _ _ _ _ aP,Below.heap_setCell _ _ _ _ aP]
    rw[<-hW2]at hk2 ⊢;clear hW2 h3 h4 hown9 hown c2 c3 c4 f2 f3 c2r c3r f2r f3r;refine⟨aH,.inl ⟨_,_,rfl,run_takeDeferred hk2,?_⟩⟩;have hne:∀(B:Nat)(t:TypeId)(v:Value),Boxed W2 B t v->B<D->(W2.putObj D (.deferred none)).cell? ⟨B,0,none⟩=some v:=fun B t v hv hlt=>Boxed.cell (t:=t) ((World.putObj_heap_other aB).trans hv)
    have y3:=hne _ _ _ x3 aB;have y4:=hne _ _ _ x4 aB;refine⟨.tuple #[.slice A ss.length c,.bool true],by simp[results,results266,go_sem,y3,y4],?_,?_⟩
    ·exact hb2.grown (grownBy_putObj' W2 D _) uh (fun r e=>mZ)
    ·rw[HR.out];have hol:out.length=ss.length:=by rw[HO.out,List.length_map,HLK.out]
     rw[<-hol,List.take_length]at hr2';refine⟨A,c,?_,?_,fun a ha=>Nat.le_trans aB (fE hr2' a.block DY)⟩
     ·dsimp only;rw[<-HO.out,<-hol]
     ·dsimp only;rw[<-HO.out];exact aI.of_own (ownsRow_putObj hr2' _ hk2 rfl)
 case stop =>
  rintro D c W hD ⟨rfl,hr1,h3,h4,hbw,hsz6⟩ hK
  gi_wp2
  refine⟨aH,.inl ⟨_,_,rfl,run_takeDeferred hK,?_⟩⟩;have hne:∀(B:Nat)(t:TypeId)(v:Value),Boxed W B t v->B<D->(W.putObj D (.deferred none)).cell? ⟨B,0,none⟩=some v:=fun B t v hv hlt=>Boxed.cell (t:=t) ((World.putObj_heap_other aB).trans hv)
  have y3:=hne _ _ _ h3 aB;have y4:=hne _ _ _ h4 aB;refine⟨.tuple #[.slice none 0 0,.bool false],by simp[results,results266,go_sem,y3,y4],?_,?_⟩
  ·exact hbw.grown (grownBy_putObj' W D _) yx (fun r e=>mZ)
  ·rw[hr1];rfl
theorem aAb(s:aC)(w:World)(hne:s.toList.isEmpty=true):Calls prog 266 #[.string s] w (nT (some []) w):=by
 obtain rfl:s=⟨#[]⟩:=by
  rw[Lib.toList_data]at hne;exact fK (by simpa using hne)
 go_enter func266,ntmps266;go_wp2_with fail;exact bodyPost_ret (v:=.tuple #[.slice none 0 0,.bool true]) (by simp[results,results266,go_sem]) rfl ⟨aJ,none,0,rfl,aI.nil_ _ _ _,fun a ha=>jd⟩
theorem aAc(s:aC)(w:World)(hs:s.size<=1000000000)(hE:Env w):Calls prog 266 #[.string s] w (nT (lN s) w):=by
 unfold lN;cases h:s.toList.isEmpty
 ·exact aAa s w hs hE h
 ·exact aAb s w h
def lL(qs:List (aC × aC))(k:Nat):Bool :=
 match qs[k]? with
 | none=>false
 | some q=>bU q.1&&bW q.2&&(k==0|| !(Op.bytesLess q.1.toList ((qs[k-1]?.getD (⟨#[]⟩,⟨#[]⟩)).1).toList||q.1.toList==((qs[k-1]?.getD (⟨#[]⟩,⟨#[]⟩)).1).toList))
def qR(c:aC)(xs:List aC)(qs:List (aC × aC)):Bool :=
 bU c&&decide (xs.length<=32)&&decide (qs.length<=16)&&xs.all bW
def nO(c:aC)(xs:List aC)(qs:List (aC × aC)):Bool :=
 qR c xs qs&&(List.range qs.length).all (lL qs)&&decide ((W06 c xs qs).length<=4096)
def iR(c:aC)(xs:List aC)(qs:List (aC × aC)):Value :=
 if nO c xs qs then .tuple #[.string ⟨(W06 c xs qs).toArray⟩,.int .i64 0] else .tuple #[.string ⟨#[]⟩,.int .i64 1]
theorem aAd(c:aC)(xs:List aC)(qs:List (aC × aC)):c.size<=(W06 c xs qs).length:=by
 rw[Lib.size_eq];simp only[W06,kU,List.length_append];omega
theorem O9:∀(l:List (List UInt8))(x:List UInt8),x∈l->x.length<=(dF l).length
 | [],x,h=>by cases h
 | a :: l,x,h=>by
  simp only[dF,List.flatMap_cons,List.length_append,List.length_cons];rcases List.mem_cons.1 h with rfl | h
  ·omega
  ·have:=O9 l x h;simp only[dF]at this;omega
theorem PD:∀(sep:UInt8)(l:List (List UInt8 × List UInt8))(q:List UInt8 × List UInt8),q∈l->q.1.length+q.2.length<=(eQ sep l).length
 | _,[],q,h=>by cases h
 | _,a :: l,q,h=>by
  simp only[eQ,List.length_append,List.length_cons];rcases List.mem_cons.1 h with rfl | h
  ·omega
  ·have:=PD 38 l q h;omega
theorem aAe(c:aC)(xs:List aC)(qs:List (aC × aC))(x:aC)(hx:x∈xs):x.size<=(W06 c xs qs).length:=by
 have:=O9 (az xs) x.data.toList (List.mem_map_of_mem hx);rw[Lib.size_eq];simp only[W06,kU,List.length_append];omega
theorem aAf(c:aC)(xs:List aC)(qs:List (aC × aC))(q:aC × aC)(hq:q∈qs):q.1.size+q.2.size<=(W06 c xs qs).length:=by
 have:=PD 63 (fO qs) (q.1.data.toList,q.2.data.toList) (List.mem_map_of_mem (f:=fun q:aC × aC=>(q.1.data.toList,q.2.data.toList)) hq);dsimp only at this;rw[Lib.size_eq,Lib.size_eq];simp only[W06,kU,List.length_append];omega
theorem RJ(c:aC)(P Q:Option Addr)(np cp nq cq:Nat)(xs:List aC)(qs:List (aC × aC))(w:World)
  (hP:aI w 1 P np (xs.map .string)) (hQ:aI w 2 Q nq (eY qs)) (htot:(W06 c xs qs).length<=1000000000) :
  Calls prog 204 #[.agg #[.string c,.slice P np cp,.slice Q nq cq]] w (Ret w (iR c xs qs)):=by
 have hnp:np<=xs.length/\xs.length<=np:=by have:=hP.1;simp at this;omega
 have hnq:nq<=qs.length/\qs.length<=nq:=by have:=hQ.1;rw[Ox]at this;omega
 have hc0:c.size<=1000000000:=by have:=aAd c xs qs;omega
 have hxs:∀ x∈xs,x.size<=1000000000:=fun x hx=>by have:=aAe c xs qs x hx;omega
 have hqs:∀ q∈qs,q.1.size<=1000000000/\q.2.size<=1000000000:=fun q hq=>by have:=aAf c xs qs q hq;omega
 have hnp9:np<=1000000000:=by
  have:=Dw (az xs);simp only[W06,kU,List.length_append]at htot;simp only[az,List.length_map]at this htot;omega
 have c1:=fun W=>rW c W aB
 have c2:∀ W,aI W 1 P np (xs.map .string)->Calls prog 92 #[.slice P np cp,.func (.func 267) #[] #[]] W (Ret W (.bool (xs.any fun x=>!bW x))):=fun W h =>
  Eu 267 (enters_of func267 aG rfl) (fun x=>!bW x) P np cp xs W (fun x hx W'=>Ud x W' (by have:=hxs x hx;omega)) h hnp9
 have HP:=aA hP;have HQ:=aA hQ;have HT:=aA htot;have HXS:=aA hxs;have HQS:=aA hqs;have H1:=aA c1;have H2:=aA c2;clear hP hQ htot hxs hqs c1 c2;cases h1:bU c
 ·have hv:iR c xs qs=.tuple #[.string ⟨#[]⟩,.int .i64 1]:=by simp[iR,nO,qR,h1]
  exact EG
 by_cases h2:np<=32;rotate_left
 ·have hv:iR c xs qs=.tuple #[.string ⟨#[]⟩,.int .i64 1]:=by simp[iR,nO,qR,show ¬ xs.length<=32 by omega]
  exact EG
 by_cases h3:nq<=16;rotate_left
 ·have hv:iR c xs qs=.tuple #[.string ⟨#[]⟩,.int .i64 1]:=by simp[iR,nO,qR,show ¬ qs.length<=16 by omega]
  exact EG
 cases h4:xs.all bW
 ·have hv:iR c xs qs=.tuple #[.string ⟨#[]⟩,.int .i64 1]:=by simp[iR,nO,qR,h4]
  rw[hv];have h5:(xs.any fun x=>!bW x)=true:=by rw[<-List.not_all_eq_any_not,h4];rfl
  rw[h1]at H1;rw[h5]at H2;clear hv h1 h4 h5;go_enter func204,ntmps204;go_wp2_with (first | (go_at_call 94;refine (H1.out _).mono ?_;rintro e w1 ⟨rfl,hb1⟩;obtain⟨hc1,hf1⟩:=bT hb1;have hz1_0:w.heap.size<w1.heap.size:=iQ) | (go_at_call 92;refine (H2.out _ (HP.out.keep (dZ _ hb1))).mono ?_;rintro e w2 ⟨rfl,hb2⟩;obtain⟨hc2,hf2⟩:=bT hb2;have hz2_0:w.heap.size<w2.heap.size:=qA));go_ret2;exact⟨rfl,aJ⟩
 have h5:(xs.any fun x=>!bW x)=false:=by rw[<-List.not_all_eq_any_not,h4];rfl
 have hv:iR c xs qs=if (List.range nq).all (lL qs)&&decide ((W06 c xs qs).length<=4096) then .tuple #[.string ⟨(W06 c xs qs).toArray⟩,.int .i64 0] else .tuple #[.string ⟨#[]⟩,.int .i64 1]:=by
  obtain rfl:nq=qs.length:=aB;simp[iR,nO,qR,h1,h4,show xs.length<=32 by omega,show qs.length<=16 by omega]
 rw[h1]at H1;rw[h5]at H2;have HV:=aA hv;obtain⟨V,hV⟩:∃ V,V=iR c xs qs:=⟨_,rfl⟩;rw[<-hV]at HV ⊢;clear hv h1 h4 h5 hV;have d1:decide ((32:Int)<(np:Int))=false:=aP;have d2:decide ((16:Int)<(nq:Int))=false:=aP;go_enter func204,ntmps204;go_wp2_with (first | (go_at_call 94;refine (H1.out _).mono ?_;rintro e w1 ⟨rfl,hb1⟩;obtain⟨hc1,hf1⟩:=bT hb1;have hz1_0:w.heap.size<w1.heap.size:=iQ) | (go_at_call 92;refine (H2.out _ (HP.out.keep (dZ _ hb1))).mono ?_;rintro e w2 ⟨rfl,hb2⟩;obtain⟨hc2,hf2⟩:=bT hb2;have hz2_0:w.heap.size<w2.heap.size:=qA));obtain⟨W0,hW0⟩:∃ W0,W0=w.alloc (.cells #[.string c,.slice P np cp,.slice Q nq cq] 200):=⟨_,rfl⟩;rw[<-hW0]at hb1;have HW0:=aA hW0;have hbw2:=aV hb1 hb2;clear hc1 hf1 hz1_0 hc2 hf2 hz2_0 hb1 hb2 hW0 H1 H2;go_loopw [31] (fun i wr=>∃ k:Nat,k<=nq/\i=.int .i64 k/\Hid ((List.range k).all (lL qs)=true)/\aF W0 wr) (fun i _=>nq-(intOf i).toNat)
 case atStart=>exact⟨0,aB,rfl,aA rfl,hbw2⟩
 case round =>
  clear hbw2;obtain⟨k,hk,rfl,HA,hb⟩:=hrel;have hb':=hb;rw[HW0.out]at hb';have hbw:aF w wr:=dZ _ hb';have a0:wr.cell? ⟨w.heap.size,0,none⟩=some (.string c):=EH;have a1:wr.cell? ⟨w.heap.size,1,none⟩=some (.slice P np cp):=EH;have a2:wr.cell? ⟨w.heap.size,2,none⟩=some (.slice Q nq cq):=EH;clear hb';by_cases hlt:k<nq
  ·have hQr:=HQ.out.keep hbw;obtain⟨pb,po,rfl,hcell⟩:=hQr.2 aB;clear hQr;have hql:k<qs.length:=aB;obtain⟨q,hq⟩:∃ q,qs[k]? = some q:=⟨_,List.getElem?_eq_getElem hql⟩;obtain⟨e1,e2⟩:=Du qs k q hq;have hc1:wr.cell? ⟨pb,po+k*2,none⟩=_:=hcell _ _ e1;have hc2:wr.cell? ⟨pb,po+k*2+1,none⟩=_:=hcell _ _ e2;have hsz:=HQS.out q (List.mem_of_getElem? hq);have cN:=fun W=>rW q.1 W aB
   have cV:=fun W=>oW q.2 W aB
   have hpk:lL qs k=(bU q.1&&bW q.2&&(k==0|| !(Op.bytesLess q.1.toList ((qs[k-1]?.getD (⟨#[]⟩,⟨#[]⟩)).1).toList||q.1.toList==((qs[k-1]?.getD (⟨#[]⟩,⟨#[]⟩)).1).toList))):=by simp[lL,hq]
   obtain⟨q1,q2⟩:=q;dsimp only at hc1 hc2 hsz cN cV hpk;have HC:=aA hcell;have HK:=aA hpk;clear hcell e1 e2 hq hpk hql;have f1:(wr.alloc (.cells #[.string q1,.string q2] 298)).cell? ⟨wr.heap.size,0,none⟩=some (.string q1):=iD;have f2:(wr.alloc (.cells #[.string q1,.string q2] 298)).cell? ⟨wr.heap.size,1,none⟩=some (.string q2):=iD;have f3:(wr.alloc (.cells #[.string q1,.string q2] 298)).cell? ⟨w.heap.size,2,none⟩=some (.slice (some ⟨pb,po,none⟩) nq cq):=aW (aU (Below.refl _ _) _) a2;have hfalse:lL qs k=false->V=.tuple #[.string ⟨#[]⟩,.int .i64 1]:=by
    intro hf;have hall:(List.range nq).all (lL qs)=false:=by
     rw[List.all_eq_false];exact⟨k,by simpa using hlt,by rw[hf];simp⟩
    rw[HV.out,hall];simp
   have htrue:lL qs k=true->(List.range (k+1)).all (lL qs)=true:=by
    intro ht;rw[List.range_succ,List.all_append,HA.out];simp[ht]
   have HF:=aA hfalse;have HTr:=aA htrue;clear hfalse htrue;cases h1:bU q1
   ·have hv:=HF.out (by rw[HK.out,h1];simp);subst hv;rw[h1]at cN;have HN:=aA cN;clear cN cV h1;go_wp2_with fail;have k1:=cell_regrown f1;have k2:=cell_regrown f2;have k3:=cell_regrown f3;refine wp_region_quiet_below aG aG ?_;(repeat (any_goals (first | go_big_quiet_step ((first | exact jS HN.out _ _)) | quiet_step ((first | exact jS HN.out _ _)))));refine wpQuiet_nil ?_;intro _ hwq;obtain⟨⟨dq,osq⟩,hwq⟩:=hwq;subst hwq;have hb3:=below_regrown (wr.alloc (.cells #[.string q1,.string q2] 298)) dq osq;generalize grow (redrawn (wr.alloc (.cells #[.string q1,.string q2] 298)) dq) osq=w3 at *;go_wp2;go_ret2;exact⟨rfl,aJ⟩
   cases h2:bW q2
   ·have hv:=HF.out (by rw[HK.out,h2];simp);subst hv;rw[h1]at cN;rw[h2]at cV;have HN:=aA cN;have HW:=aA cV;clear cN cV h1 h2;exact PG
   rw[h1]at cN;rw[h2]at cV;have HN:=aA cN;have HW:=aA cV;clear cN cV;rcases k with _ | j
   ·have hok:=HTr.out (by rw[HK.out,h1,h2];simp);have HO:=aA hok;have hc1':wr.cell? ⟨pb,po,none⟩=some (.string q1):=by simpa using hc1
    have hc2':wr.cell? ⟨pb,po+1,none⟩=some (.string q2):=by simpa using hc2
    clear hok h1 h2 hc1 hc2;exact PG
   ·obtain⟨q0,hq0⟩:∃ q,qs[j]? = some q:=⟨_,List.getElem?_eq_getElem aB⟩;have hg:(qs[j+1-1]?.getD (⟨#[]⟩,⟨#[]⟩)).1=q0.1:=by rw[Nat.add_sub_cancel,hq0];rfl
    have hc4:wr.cell? ⟨pb,po+j*2,none⟩=_:=HC.out _ _ (Du qs j q0 hq0).1;have hsz0:=(HQS.out q0 (List.mem_of_getElem? hq0)).1;obtain⟨q0,v0⟩:=q0;dsimp only at hc4 hg hsz0;have f4:(wr.alloc (.cells #[.string q1,.string q2] 298)).cell? ⟨pb,po+j*2,none⟩=some (.string q0):=aW (aU (Below.refl _ _) _) hc4;have hpk:=HK.out;rw[hg,h1,h2]at hpk;clear HK hc4 hg hq0 h1 h2;obtain⟨t,ht⟩:∃ t,(Op.bytesLess q1.toList q0.toList||q1.toList==q0.toList)=t:=⟨_,rfl⟩;rw[ht]at hpk;cases t
    ·have HO:=aA (HTr.out (by rw[hpk];simp));exact PH
    ·have hv:=HF.out (by rw[hpk];simp);subst hv;exact PH
  ·obtain rfl:k=nq:=aB;have hv:=HV.out;rw[HA.out,Bool.true_and]at hv;have hsz:(⟨(W06 c xs qs).toArray⟩:aC).size=(W06 c xs qs).length:=by simp[Lib.size_eq]
   obtain⟨s,hs⟩:∃ s:aC,s=⟨(W06 c xs qs).toArray⟩:=⟨_,rfl⟩;have cW:∀ W,aI W 1 P np (xs.map .string)->aI W 2 Q k (eY qs)->Calls prog 207 #[.agg #[.string c,.slice P np cp,.slice Q k cq]] W (Ret W (.string s)):=fun W h1 h2=>hs▸FU c P Q np cp k cq xs qs W h1 h2 HT.out
   have HW:=aA cW;rw[<-hs]at hsz;clear cW hlt;by_cases hl:(W06 c xs qs).length<=4096
   ·rw[decide_eq_true hl,if_pos rfl,<-hs]at hv;subst hv;have hl':s.size<=4096:=aB;exact PK
   ·rw[decide_eq_false hl]at hv;simp only[Bool.false_eq_true,if_false]at hv;subst hv;have hl':4096<s.size:=aB;exact PK
end Go.Proofs.YtlkbkclnbppigaaGreatDoor
