/- A region that draws its order, some of whose operations store: each operation is run by itself against the frame that they all leave in the end; what is known of the world depends on what has come up. -/
import Derived.Test.YtlkbkclnbppigaaGreatDoorWY4
namespace Go.Proofs.YtlkbkclnbppigaaGreatDoor
open Tryz
open Go.RowKit Go.Sort
set_option linter.unusedVariables false
set_option linter.unusedSimpArgs false
set_option maxRecDepth 100000
section
variable {P:Program} {Q:Exit->Act->World->Prop}
def Region.fairN(ops:Array Oper)(md:Region.Mode)(m size:Nat):Bool :=
 (List.range m).all fun i=>match ops[i]? with
  | none=>false
  | some o=>o.after.all (fun e=>decide (e.on<i)|| !Region.binds md e)&&(match o.dst with
   | none=>true
   | some d=>decide (d<size)&&(List.range ops.size).all fun j=>i==j||bM ops j != some d)
def Region.freeN(md:Region.Mode)(l:List Oper)(m size:Nat):Bool :=
 decide (m<=l.length)&&Region.fairN l.toArray md m size&&Region.last l.toArray md m&&Region.seqB md l.toArray (l.length-m) m ((List.replicate m true++List.replicate (l.length-m) false).toArray)
def aFt(b:Act)(R:World->Prop):Exit->Act->World->Prop:=fun e a' w'=>e=.normal/\a'=b/\R w'
def aCg(P:Program)(ops:Array Oper)(J:(Nat->Bool)->World->Prop)(b:Act):Nat->List Oper->Prop
 | _,[]=>True
 | i,o :: l=>(∀ L W,wG ops .any L->L i=false->(∀ e∈o.after,Region.binds .any e=true->L e.on=true)->J L W->wpList P ops (aFt b (J (fun j=>decide (j=i)||L j))) [o] b W)/\aCg P ops J b (i+1) l
theorem aFu{ops:Array Oper}{J:(Nat->Bool)->World->Prop}{b:Act}:∀(l:List Oper)(k:Nat),aCg P ops J b k l->∀(i:Nat)(o:Oper),l[i]? = some o->∀ L W,wG ops .any L->L (k+i)=false->(∀ e∈o.after,Region.binds .any e=true->L e.on=true)->J L W->wpList P ops (aFt b (J (fun j=>decide (j=k+i)||L j))) [o] b W
 | [],_,_,i,o,h=>nG
 | o :: l,k,h,0,o',ho=>by
  obtain rfl:o=o':=rJ;exact h.1
 | _ :: l,k,h,i+1,o',ho=>by
  have:=aFu l (k+1) h.2 i o' rJ
  rwa [show k+1+i=k+(i+1) by omega]at this
theorem aJy(x y:Act)(h1:∀ t:Nat,x.tmps[t]? = y.tmps[t]?)(h2:x.defers=y.defers):x=y:=by
 obtain⟨xt,xd⟩:=x;obtain⟨yt,yd⟩:=y;have e1:xt=yt:=Array.ext_getElem? h1;have e2:xd=yd:=h2;rw[e1,e2]
theorem aFv(ops:Array Oper)(a1:Act)(V:Nat->Value):∀ m,(iP ops a1 V m).defers=a1.defers
 | 0=>rfl
 | m+1=>by rw[EK,PP];exact aFv ops a1 V m
theorem aFw{l:List Oper}(m:Nat){id:Nat}{a:Act}{w:World}(hm:P.follows .mixedOrders=true)(hB:Region.freeN .any l m a.tmps.size=true)(hdep:Region.deps l.toArray .any m=true)
  (V:Nat->Value) (J:(Nat->Bool)->World->Prop) (hJ0:J (fun _=>false) { w with drawn:=w.drawn+1 })
  (hops:aCg P l.toArray J (aZ (l.take m) V 0 a) 0 (l.take m))
  (hend:∀ w',J (fun j=>decide (j<m)) w'->wpList P l.toArray Q (l.drop m) (aZ (l.take m) V 0 a) w'):(Code.region id l.toArray true).wp P Q a w:=by
 unfold Region.freeN at hB
 simp only[Bool.and_eq_true,decide_eq_true_eq]at hB
 obtain⟨⟨⟨hml,hf⟩,hlast⟩,hseq⟩:=hB
 have fair:∀ i,i<m->∃ o,l[i]? = some o/\(∀ e∈o.after,Region.binds .any e=true->e.on<i)/\∀ d,o.dst=some d->d<a.tmps.size/\∀ j,j≠i->bM l.toArray j≠some d:=by
  intro i hi
  have h:=List.all_eq_true.1 hf i (List.mem_range.2 hi)
  cases ho:l[i]? with
  | none=>rw[List.getElem?_toArray,ho]at h;cases h
  | some o =>
   rw[List.getElem?_toArray,ho]at h
   dsimp only at h
   rw[Bool.and_eq_true,Array.all_eq_true']at h
   refine⟨o,rfl,fun e he hb=>OU,fun d hd=>?_⟩
   have h2:=h.2
   rw[hd]at h2
   dsimp only at h2
   rw[Bool.and_eq_true,decide_eq_true_eq,List.all_eq_true]at h2
   refine⟨h2.1,fun j hj=>?_⟩
   rcases Nat.lt_or_ge j l.toArray.size with hl | hl
   ·have:=h2.2 j (List.mem_range.2 hl)
    simp only[Bool.or_eq_true,beq_iff_eq,bne_iff_ne]at this
    exact this.resolve_left (fun e=>hj e.symm)
   ·unfold bM
    rw[Array.getElem?_eq_none hl]
    simp
 have last:∀ i o (L:Nat->Bool),wG l.toArray .any L->m<=i->l.toArray[i]? = some o->(∀ e∈o.after,Region.binds .any e=true->L e.on=true)->∀ j,j<m->L j=true:=by
  intro i o L hC hi ho hd j hj
  have hlt:i<l.toArray.size:=(Array.getElem?_eq_some_iff.1 ho).1
  have h:=List.all_eq_true.1 hlast i (List.mem_range.2 hlt)
  rw[decide_eq_false aB,Bool.false_or]at h
  exact OT hC _ i j o (List.all_eq_true.1 h j (List.mem_range.2 hj)) ho hd
 have getD_same:∀(listed:Array Bool)(j:Nat),listed.size=l.toArray.size->j<l.toArray.size->listed.getD j true=listed.getD j false:=by
  intro listed j h1 h2
  have:j<listed.size:=aB
  simp[this]
 have hszl:l.toArray.size=l.length:=List.size_toArray
 have hput:∀ V,aZ (l.take m) V 0 a=iP l.toArray a V m:=by
  intro V
  unfold iP
  have:=D6 l.toArray (l.take m) V 0 a (fun j hj=>by
   rw[List.getElem?_take_of_lt O3]
   simp)
  rw[List.length_take,Nat.min_eq_left hml]at this
  rw[<-this,List.range_eq_range']
 have hdist:∀ t i j,i<m->j<m->bM l.toArray i=some t->bM l.toArray j=some t->i=j:=by
  intro t i j hi hj h1 h2
  obtain⟨oi,hoi,_,hdi⟩:=fair i hi
  have e1:oi.dst=some t:=by unfold bM at h1;rw[List.getElem?_toArray,hoi]at h1;exact h1
  by_cases hij:j=i
  ·exact hij.symm
  ·exact absurd h2 ((hdi t e1).2 j hij)
 generalize hb:aZ (l.take m) V 0 a=b at *
 have hbput:b=iP l.toArray a V m:=by rw[<-hb];exact hput V
 have hbs:b.tmps.size=a.tmps.size:=by rw[hbput,zM]
 refine ZW hm (l.length-m) m (by rw[hszl];omega) ?_
 refine OQ ZQ m (by rw[hszl];omega) (fun listed a' w'=>listed.size=l.toArray.size/\(wG l.toArray .any (fun j=>listed.getD j false)/\J (fun j=>listed.getD j false) w')/\wF l.toArray m a a'/\(∀ j,m<=j->j<l.toArray.size->listed.getD j true=false)/\(∀ j d,j<m->listed.getD j true=true->bM l.toArray j=some d->a'.tmps[d]? = some (V j))) ?_ ?_ (l.length-m) ?_ m _ a _ ?_ ?_
 ·rintro listed a' W ⟨hs,⟨hC,hJ⟩,hA,hR,hF⟩ ⟨u,hu,hul⟩ i hi
  obtain⟨hil,o,ho,hall⟩:=mem_ready.1 hi
  have him:i<m:=by
   rcases Nat.lt_or_ge i m with h | h
   ·exact h
   ·have:=last i o _ hC h ho hall u hu
    rw[<-getD_same listed u hs aB,hul]at this
    cases this
  have hil':listed.getD i false=false:=by rw[<-getD_same listed i hs aB];exact hil
  obtain⟨o',ho',hback,hdo⟩:=fair i him
  obtain rfl:o=o':=by rw[List.getElem?_toArray]at ho;exact Option.some.inj (ho.symm.trans ho')
  have hdi:bM l.toArray i=o.dst:=by unfold bM;rw[ho];rfl
  have hD:=aFu _ 0 hops i o (by rw[List.getElem?_take_of_lt him];exact ho') (fun j=>listed.getD j false) W hC (by rw[Nat.zero_add];exact hil') hall hJ
  rw[Nat.zero_add]at hD
  have look:∀ t∈o.looksAt l.toArray,a'.tmps[t]? = b.tmps[t]?:=by
   intro t ht
   have h:=List.all_eq_true.1 hdep i (List.mem_range.2 him)
   rw[ho]at h
   dsimp only at h
   rw[Bool.and_eq_true,List.all_eq_true]at h
   have h2:=h.2 t ht
   rw[Bool.or_eq_true]at h2
   rcases h2 with h2 | h2
   ·have hoff:∀ j,j<m->bM l.toArray j≠some t:=fun j hj=>by
     have:=List.all_eq_true.1 h2 j (List.mem_range.2 hj)
     simpa using this
    rw[hA.off t hoff,hbput,EN _ _ _ m hoff]
   ·rw[Array.any_eq_true']at h2
    obtain⟨e,he,h2⟩:=h2
    rw[Bool.and_eq_true,Bool.and_eq_true,decide_eq_true_eq,beq_iff_eq]at h2
    obtain⟨⟨hbd,hem⟩,hdt⟩:=h2
    obtain⟨oe,hoe,_,hde⟩:=fair e.on hem
    have e1:oe.dst=some t:=by unfold bM at hdt;rw[List.getElem?_toArray,hoe]at hdt;exact hdt
    rw[hF e.on t hem (by rw[getD_same listed e.on hs aB];exact hall e he hbd) hdt,hbput,zN _ _ _ (hde t e1).1 m (hdist t) e.on hem hdt]
  have hex:execOp a'.eval o=execOp b.eval o:=by
   refine execOp_congr o (fun cs bl hs=>?_) (fun x hx=>?_)
   ·have h:=List.all_eq_true.1 hdep i (List.mem_range.2 him)
    rw[ho]at h
    dsimp only at h
    rw[hs]at h
    cases h
   ·cases x with
    | tmp t =>
     have:=look t (List.mem_append_left _ (List.mem_filterMap.2 ⟨.tmp t,uT,rfl⟩))
     show a'.tmps.getD t undef=b.tmps.getD t undef
     rw[Array.getD_eq_getD_getElem?,Array.getD_eq_getD_getElem?,this]
    | _=>rfl
  have hwt:Region.wanted o (yielded l.toArray a'.tmps)=Region.wanted o (yielded l.toArray b.tmps):=by
   unfold Region.wanted
   cases hg:o.guard with
   | none=>rfl
   | some gw =>
    obtain⟨g,want⟩:=gw
    dsimp only
    rw[PU (fun d hd=>look d ?_)]
    refine List.mem_append_right _ ?_
    rw[hg]
    dsimp only
    unfold bM at hd
    rw[hd]
    simp
  have same:∀ v d,o.dst=some d->b.put o.dst v=b->v=V i:=by
   intro v d hd hv
   rw[hd]at hv
   have e1:bM l.toArray i=some d:=hdi.trans hd
   have hbd:b.tmps[d]? = some (V i):=by rw[hbput];exact zN _ _ _ (hdo d hd).1 m (hdist d) i him e1
   have h3:(b.put (some d) v).tmps[d]? = some (V i):=by rw[hv];exact hbd
   have hlt:d<b.tmps.size:=by rw[hbs];exact (hdo d hd).1
   simp[Act.put,hlt]at h3
   exact h3
  have hset:(fun j=>(listed.setIfInBounds i true).getD j false)=(fun j=>decide (j=i)||listed.getD j false):=by
   funext j
   by_cases hji:j=i
   ·subst hji
    have:j<listed.size:=aB
    simp[this]
   ·rw[getD_set_ne false (Ne.symm hji),decide_eq_false hji,Bool.false_or]
  have done:∀ v w',b.put o.dst v=b->J (fun j=>decide (j=i)||listed.getD j false) w'->(listed.setIfInBounds i true).size=l.toArray.size/\(wG l.toArray .any (fun j=>(listed.setIfInBounds i true).getD j false)/\J (fun j=>(listed.setIfInBounds i true).getD j false) w')/\wF l.toArray m a (a'.put o.dst v)/\(∀ j,m<=j->j<l.toArray.size->(listed.setIfInBounds i true).getD j true=false)/\(∀ j d,j<m->(listed.setIfInBounds i true).getD j true=true->bM l.toArray j=some d->(a'.put o.dst v).tmps[d]? = some (V j)):=by
   intro v w' hv hj
   refine⟨aBz,⟨fun j o9 hl ho9 e he hb9=>?_,by rw[hset];exact hj⟩,⟨(PP _ _ _).trans hA.defers,(aAn _ _ _).trans hA.size,fun t ht=>?_⟩,fun j hj hj2=>?_,fun j d hjm hl hd=>?_⟩
   ·have hl':(decide (j=i)||listed.getD j false)=true:=by rw[<-congrFun hset j];exact hl
    show (fun j=>(listed.setIfInBounds i true).getD j false) e.on=true
    rw[hset]
    rw[Bool.or_eq_true,decide_eq_true_eq]at hl'
    rcases hl' with rfl | hl'
    ·obtain rfl:o=o9:=Option.some.inj (ho.symm.trans ho9)
     simp[hall e he hb9]
    ·simp[hC j o9 hl' ho9 e he hb9]
   ·cases hd:o.dst with
    | none=>exact hA.off t ht
    | some d =>
     have hne:d≠t:=fun e=>ht i him (by rw[hdi,hd,e])
     simp only[Act.put,Array.getElem?_setIfInBounds_ne hne]
     exact hA.off t ht
   ·rw[getD_set_ne true aB];exact hR j hj hj2
   ·by_cases hji:j=i
    ·subst hji
     have hd2:o.dst=some d:=hdi.symm.trans hd
     rw[hd2,same v d hd2 hv]
     have:d<a'.tmps.size:=by rw[hA.size];exact (hdo d hd2).1
     simp[Act.put,this]
    ·rw[getD_set_ne true (Ne.symm hji)]at hl
     cases hdd:o.dst with
     | none=>exact hF j d hjm hl hd
     | some d' =>
      have hne:d' ≠ d:=fun e=>(hdo d' hdd).2 j hji (by rw[hd,e])
      simp only[Act.put,Array.getElem?_setIfInBounds_ne hne]
      exact hF j d hjm hl hd
  refine⟨him,?_⟩
  unfold wpOp
  rw[ho]
  dsimp only
  rw[hwt]
  unfold wpList at hD
  split
  ·rename_i hw
   rw[if_pos hw]at hD
   rcases hD with hD | ⟨_,a9,w9,h9,_⟩
   ·refine .inl ?_
    unfold Oper.wp at hD ⊢
    rw[hex]
    generalize (execOp b.eval o).run P W=r at hD ⊢
    cases r with
    | ok n w9 =>
     cases n with
     | value v=>exact done v _ hD.2.1 hD.2.2
     | skip=>exact done undef _ hD.2.1 hD.2.2
     | defer dd =>
      exfalso
      have h3:({ b with defers:=dd :: b.defers }.put o.dst undef).defers=b.defers:=congrArg Act.defers hD.2.1
      rw[PP]at h3
      have:=congrArg List.length h3
      simp at this
     | enter f args =>
      refine Calls.mono hD ?_
      intro e w8 h8
      cases e with
      | returned v=>exact done v _ h8.2.1 h8.2.2
      | panicked c=>cases h8.1
      | outgrown=>obtain⟨_,_,h7,_⟩:=h8;cases h7
     | row r args =>
      refine Rows.mono hD ?_
      intro v w8 h8
      exact done v _ h8.2.1 h8.2.2
     | _=>exact hD.elim
    | halt h w9 =>
     cases h with
     | panic v=>exact absurd hD.1 (by intro h;cases h)
     | _=>exact hD.elim
   ·cases h9
  ·rename_i hw
   rw[if_neg hw]at hD
   exact done undef _ hD.2.1 hD.2.2
 ·rintro listed a' W ⟨hs,⟨hC,hJ⟩,hA,hR,hF⟩ ⟨u,hu,hul⟩
  have key:∀ n i,i<=n->i<m->listed.getD i true=false->Region.ready .any l.toArray listed ≠ []:=by
   intro n
   induction n with
   | zero =>
    intro i hi him hil
    obtain rfl:i=0:=aB
    obtain⟨o,ho,hback,_⟩:=fair 0 him
    have:0∈Region.ready .any l.toArray listed:=mem_ready.2 ⟨hil,o,by rw[List.getElem?_toArray];exact ho,fun e he hb=>Dk⟩
    intro h;rw[h]at this;cases this
   | succ n ih =>
    intro i hi him hil
    obtain⟨o,ho,hback,_⟩:=fair i him
    by_cases hall:∀ e∈o.after,Region.binds .any e=true->listed.getD e.on false=true
    ·have:i∈Region.ready .any l.toArray listed:=mem_ready.2 ⟨hil,o,by rw[List.getElem?_toArray];exact ho,hall⟩
     intro h;rw[h]at this;cases this
    ·obtain⟨e,he⟩:=Classical.not_forall.1 hall
     obtain⟨he1,he⟩:=Classical.not_imp.1 he
     obtain⟨he2,he⟩:=Classical.not_imp.1 he
     have hlt:=hback e he1 he2
     refine ih e.on aB aB ?_
     rw[getD_same listed e.on hs aB]
     simpa using he
  exact key u u (Nat.le_refl _) hu hul
 ·rintro listed a' W ⟨hs,⟨hC,hJ⟩,hA,hR,hF⟩ hall
  have hl:listed=(List.replicate m true++List.replicate (l.length-m) false).toArray:=by
   refine Array.ext aP (fun i h1 h2=>?_)
   have hg:listed.getD i true=listed[i]:=by simp[h1]
   rw[<-hg]
   rcases Nat.lt_or_ge i m with h | h
   ·rw[hall i h];simp[h]
   ·rw[hR i h aB]
    simp only[List.getElem_toArray]
    rw[List.getElem_append_right nD]
    simp
  have hLm:(fun j=>listed.getD j false)=(fun j=>decide (j<m)):=by
   funext j
   rcases Nat.lt_or_ge j m with h | h
   ·rw[decide_eq_true h,<-getD_same listed j hs aB];exact hall j h
   ·rw[decide_eq_false aB]
    rcases Nat.lt_or_ge j l.toArray.size with h2 | h2
    ·rw[<-getD_same listed j hs h2];exact hR j h h2
    ·simp[Array.getElem?_eq_none (show listed.size<=j by omega)]
  rw[hLm]at hJ
  have hab:a'=b:=by
   refine aJy _ _ (fun t=>?_) (by rw[hA.defers,hbput,aFv])
   by_cases h:∃ j,j<m/\bM l.toArray j=some t
   ·obtain⟨j,hj,e⟩:=h
    obtain⟨oj,hoj,_,hdj⟩:=fair j hj
    have e1:oj.dst=some t:=by unfold bM at e;rw[List.getElem?_toArray,hoj]at e;exact e
    rw[hF j t hj (hall j hj) e,hbput,zN _ _ _ (hdj t e1).1 m (hdist t) j hj e]
   ·have hoff:∀ j,j<m->bM l.toArray j≠some t:=fun j hj e=>h ⟨j,hj,e⟩
    rw[hA.off t hoff,hbput,EN _ _ _ m hoff]
  rw[hl,hab]
  have:=ZY (P:=P) (md:=.any) (Q:=Q) (l.drop m) m ((List.replicate m true++List.replicate (l.length-m) false).toArray) b W (fun j=>aH) (by simpa using hseq) (hend W hJ)
  rw[List.length_drop]at this
  exact this
 ·unfold lX
  have:∀ i∈List.range m,(!(Array.replicate l.toArray.size false).getD i true)=true:=fun i hi=>by
   have:=List.mem_range.1 hi
   have h2:i<l.length:=aB
   simp[h2]
  rw[List.countP_eq_length.2 this,List.length_range]
 ·have h0:(fun j=>(Array.replicate l.toArray.size false).getD j false)=(fun _=>false):=by
   funext j
   rcases Nat.lt_or_ge j l.length with h | h
   ·simp[h]
   ·simp[Array.getElem?_eq_none (show (Array.replicate l.length false).size<=j by simpa using h)]
  refine⟨aH,⟨fun j o hl=>?_,by rw[h0];exact hJ0⟩,⟨rfl,rfl,fun _ _=>rfl⟩,fun j hj hj2=>by rw[Array.getD_eq_getD_getElem?];simp[show j<l.length by omega],fun j d hj hl=>?_⟩
  ·have:=congrFun h0 j
   exact absurd (this.symm.trans hl) aH
  ·have h2:j<l.length:=aB
   simp[h2]at hl
end
theorem aBi{α β:Type}(f:α->List β)(s:Nat)(hs:∀ a,(f a).length=s):∀ M:List α,(M.flatMap f).length=M.length*s
 | []=>aH
 | a :: M=>by rw[List.flatMap_cons,List.length_append,hs,aBi f s hs M,List.length_cons,Nat.succ_mul,Nat.add_comm]
theorem aDu{α β:Type}(f:α->List β)(s:Nat)(hs:∀ a,(f a).length=s):∀(M:List α)(i:Nat),(M.flatMap f).take (i*s)=(M.take i).flatMap f
 | [],i=>aH
 | a :: M,0=>aH
 | a :: M,i+1=>by
  rw[List.flatMap_cons,List.take_succ_cons,List.flatMap_cons,List.take_append,hs,List.take_of_length_le (by rw[hs,Nat.succ_mul];omega),show (i+1)*s-s=i*s by rw[Nat.succ_mul];omega,aDu f s hs M i]
theorem aDv{α β:Type}(f:α->List β)(s:Nat)(hs:∀ a,(f a).length=s):∀(M:List α)(i:Nat),(M.flatMap f).drop (i*s)=(M.drop i).flatMap f
 | [],i=>aH
 | a :: M,0=>aH
 | a :: M,i+1=>by
  rw[List.flatMap_cons,List.drop_succ_cons,List.drop_append,hs,List.drop_of_length_le (by rw[hs,Nat.succ_mul];omega),show (i+1)*s-s=i*s by rw[Nat.succ_mul];omega,aDv f s hs M i,List.nil_append]
theorem aJz{α β:Type}(f:α->List β)(s:Nat)(hs:∀ a,(f a).length=s){M:List α}{i:Nat}{x:α}(hi:i<M.length){cur:List β}(h:cur.take (M.length*s)=M.flatMap f):(cur.take (i*s)++f x++cur.drop (i*s+s)).take ((M.set i x).length*s)=(M.set i x).flatMap f:=by
 have e1:cur.take (i*s)=(M.take i).flatMap f:=by
  exact aFx
 have hle:i*s+s<=M.length*s:=by rw[<-Nat.succ_mul];exact Nat.mul_le_mul_right _ hi
 have e2:(cur.drop (i*s+s)).take (M.length*s-(i*s+s))=(M.drop (i+1)).flatMap f:=by
  rw[<-aDv f s hs,<-h,List.drop_take,Nat.succ_mul]
 have l1:(M.take i).length=i:=by rw[List.length_take];omega
 rw[List.length_set,e1,List.append_assoc,List.take_append,List.take_append,hs,aBi f s hs,l1,List.take_of_length_le (l:=(M.take i).flatMap f) (by rw[aBi f s hs,l1];exact Nat.mul_le_mul_right _ aB),List.take_of_length_le (l:=f x) (by rw[hs];omega),show M.length*s-i*s-s=M.length*s-(i*s+s) by omega,e2,List.set_eq_take_append_cons_drop,if_pos hi,List.flatMap_append,List.flatMap_cons]
theorem aKa{α β:Type}(f:α->List β)(s:Nat)(hs:∀ a,(f a).length=s){M:List α}{i:Nat}(hi:i<M.length){cur:List β}(h:cur.take (M.length*s)=M.flatMap f):(cur.take (i*s)++(M.drop (i+1)).flatMap f++cur.drop (i*s+((M.drop (i+1)).flatMap f).length)).take ((M.eraseIdx i).length*s)=(M.eraseIdx i).flatMap f:=by
 have e1:cur.take (i*s)=(M.take i).flatMap f:=by
  exact aFx
 rw[e1,List.eraseIdx_eq_take_drop_succ,<-List.flatMap_append,<-aBi f s hs,List.take_left'];rfl
theorem pW.first{w:World}{A:Option Addr}{n j:Nat}{L:List CoM}(h:pW w A n L)(hj:j<=n):pW w A j (L.take j):=by
 have hl:=h.len;refine⟨by rw[List.length_take];omega,⟨?_,fun h0=>?_⟩,fun x hx=>h.each x (List.mem_of_mem_take hx)⟩
 ·rw[aBi CoM.cells 7 (fun a=>a.cells_len),List.length_take,Nat.min_eq_left aB]
 ·obtain⟨b,o,e,hc⟩:=h.rows.2 aB;refine⟨b,o,e,fun q u hu=>hc q u ?_⟩;rw[<-aDu CoM.cells 7 (fun a=>a.cells_len),List.getElem?_take]at hu;split at hu
  ·exact hu
  ·cases hu
theorem aKb(L:List CoM)(j:Nat):csL (L.take j) j=csL L j:=by unfold csL;rw[List.take_take,Nat.min_self]
structure lS(W:World)(g cap:Nat)(M:List CoM)(cur:Array Value):Prop where
 b:aQ W g 27 cur
 s:cur.size=cap*7
 n:M.length<=cap
 e:cur.toList.take (M.length*7)=M.flatMap CoM.cells
theorem lS.keep{W W':World}{g cap:Nat}{M:List CoM}{cur:Array Value}(h:lS W g cap M cur)(hb:aF W W'):lS W' g cap M cur:=⟨h.b.keep hb,h.s,h.n,h.e⟩
theorem lS.reads{W:World}{g cap:Nat}{M:List CoM}{cur:Array Value}(h:lS W g cap M cur):aI W 7 (some ⟨g,0,none⟩) M.length (M.flatMap CoM.cells):=by
 refine⟨aBi CoM.cells 7 (fun a=>a.cells_len) M,fun _=>⟨g,0,rfl,fun j u hu=>?_⟩⟩;rw[<-h.e,List.getElem?_take]at hu;split at hu
 ·rw[Nat.zero_add];exact h.b.cell (by rw[<-Array.getElem?_toList];exact hu)
 ·cases hu
theorem lS.load{W:World}{g cap:Nat}{M:List CoM}{cur:Array Value}(h:lS W g cap M cur){k:Nat}{x:CoM}(hk:M[k]? = some x):(loadVar 27 ⟨g,k*7,none⟩).run prog W=.ok (.agg (dS x.c x.m)) W:=by
 obtain⟨b,o,e,hc⟩:=aI.row h.reads (fun a _=>a.cells_len) rfl hk;injection e with e
 injection e with e1 e2
 subst e1;subst e2;simp only[Nat.zero_add]at hc;have:=pX W g (k*7) x hc;rw[oJ]at this;exact this
theorem lS.conds{W:World}{g cap:Nat}{M:List CoM}{cur:Array Value}(h:lS W g cap M cur)(he:∀ x∈M,dA W x.c x.m):pW W (some ⟨g,0,none⟩) M.length M:=⟨rfl,h.reads,he⟩
theorem lS.put{W:World}{g cap:Nat}{M:List CoM}{cur:Array Value}(h:lS W g cap M cur){i:Nat}(x:CoM)(hi:i<M.length):lS (W.setRow g (cur.toList.take (i*7)++x.cells++cur.toList.drop (i*7+7)).toArray) g cap (M.set i x) (cur.toList.take (i*7)++x.cells++cur.toList.drop (i*7+7)).toArray:=by
 have hs:=h.s;have hn:=h.n;have hle:i*7+7<=cap*7:=aB;refine⟨setRow_heap _ _ _ _ _ _ h.b,?_,by rw[List.length_set];exact hn,?_⟩
 ·rw[List.size_toArray,List.length_append,List.length_append,List.length_take,List.length_drop,x.cells_len,Array.length_toList];omega
 ·exact aJz CoM.cells 7 (fun a=>a.cells_len) hi h.e
theorem lS.cut{W:World}{g cap:Nat}{M:List CoM}{cur:Array Value}(h:lS W g cap M cur){i:Nat}(hi:i<M.length):lS (W.setRow g (cur.toList.take (i*7)++(M.drop (i+1)).flatMap CoM.cells++cur.toList.drop (i*7+((M.drop (i+1)).flatMap CoM.cells).length)).toArray) g cap (M.eraseIdx i) (cur.toList.take (i*7)++(M.drop (i+1)).flatMap CoM.cells++cur.toList.drop (i*7+((M.drop (i+1)).flatMap CoM.cells).length)).toArray:=by
 have hs:=h.s;have hn:=h.n;have hl:=aBi CoM.cells 7 (fun a=>a.cells_len) (M.drop (i+1));rw[List.length_drop]at hl;refine⟨setRow_heap _ _ _ _ _ _ h.b,?_,by rw[List.length_eraseIdx];split <;> omega,?_⟩
 ·rw[List.size_toArray,List.length_append,List.length_append,List.length_take,List.length_drop,Array.length_toList];omega
 ·exact aKa CoM.cells 7 (fun a=>a.cells_len) hi h.e
theorem lS.behind{W:World}{g cap:Nat}{M:List CoM}{cur:Array Value}(h:lS W g cap M cur)(i:Nat):∀ j u,((M.drop i).flatMap CoM.cells)[j]? = some u->W.cell? ((⟨g,i*7,none⟩:Addr).add j)=some u:=fun j u hu=>by
 rw[<-aDv CoM.cells 7 (fun a=>a.cells_len),List.getElem?_drop]at hu
 obtain⟨b,o,e,hc⟩:=h.reads.2 (by
  have:=(List.getElem?_eq_some_iff.1 hu).1
  rw[aBi CoM.cells 7 (fun a=>a.cells_len)]at this
  omega)
 injection e with e
 injection e with e1 e2
 subst e1;subst e2
 have:=hc _ u hu
 rw[Nat.zero_add]at this
 have hadd:(⟨g,i*7,none⟩:Addr).add j=⟨g,i*7+j,none⟩:=nH
 rw[hadd];exact this
theorem aKc{W:World}{base n:Nat}{v:Value}{M:List CoM}(h:W.ownsRow base 27 7 v n (M.flatMap CoM.cells))(hn:M.length=n)(h0:0<n):∃ g cap cur,v=.slice (some ⟨g,0,none⟩) n cap/\base<=g/\lS W g cap M cur:=by
 rcases h.2 with ⟨_,e⟩ | ⟨g,cap,cur,e,hb,hg,hnc,_,hcs,ht⟩
 ·omega
 ·exact⟨g,cap,cur,e,hb,hg,hcs,aB,by rw[hn];exact ht⟩
theorem aKd(w:World)(g o:Nat)(t ty:TypeId)(cur cells:Array Value)(hg:aQ w g t cur)(hi:(prog.info? ty).map (·.size)=some cells.size)(hfit:o+cells.size<=cur.size)(h1:cells.all (·.oneCell')=true) :
  (storeVar ty ⟨g,o,none⟩ (.agg cells)).run prog w=.ok () (w.setRow g (cur.toList.take o++cells.toList++cur.toList.drop (o+cells.size)).toArray):=by
 have:=run_storeCells_at prog g o t cells.toList 0 cur w hg (by simpa using hfit) (fun v hv=>(Array.all_eq_true_iff_forall_mem.1 h1) v (by simpa using hv));simp only[Nat.add_zero,Array.length_toList]at this;cases hq:prog.info? ty with
 | none=>simp[hq]at hi
 | some i =>
  have hs:cells.size=i.size:=by simp[hq]at hi;omega
  simp[storeVar,sizeOf,typeInfo,hq,Value.cells,hs,this]
theorem aKe{op:Oper}{a:Act}{w:World}{K:Act->World->Prop}{Q:Exit->Act->World->Prop}(ty:TypeId)(x y:Operand)(ho:op.op=.store ty x y)
  (g o:Nat) (cells:Array Value) (hx:a.eval x=.pointer (some ⟨g,o,none⟩)) (hy:a.eval y=.agg cells) (t:TypeId) (cur:Array Value) (cs:List Value) (k:Nat) (hcs:cells.toList=cs) (hk:cells.size=k) (ca:Array Value) (hca:ca=(cur.toList.take o++cs++cur.toList.drop (o+k)).toArray)
  (hg:aQ w g t cur) (hi:(prog.info? ty).map (·.size)=some k) (hfit:o+k<=cur.size) (h1:cells.all (·.oneCell')=true)
  (h:K (a.put op.dst undef) (w.setRow g ca)):op.wp prog a w K Q:=by
 subst hcs;subst hk;subst hca;unfold Oper.wp execOp;simp only[ho,hx,hy,Instr.storeAt,Instr.sureAddr,Sem.run_bind,Sem.run_pure,Result.andThen_ok,aKd w g o t ty cur cells hg hi hfit h1];exact h
theorem aCt{ops:Array Oper}{rest:List Oper}{op:Oper}{a:Act}{w:World}{Q:Exit->Act->World->Prop}(hgd:op.guard=none)(ty:TypeId)(x y:Operand)(ho:op.op=.store ty x y)
  (g o:Nat) (cells:Array Value) (hx:a.eval x=.pointer (some ⟨g,o,none⟩)) (hy:a.eval y=.agg cells) (t:TypeId) (cur:Array Value) (cs:List Value) (k:Nat) (hcs:cells.toList=cs) (hk:cells.size=k) (ca:Array Value) (hca:ca=(cur.toList.take o++cs++cur.toList.drop (o+k)).toArray)
  (hg:aQ w g t cur) (hi:(prog.info? ty).map (·.size)=some k) (hfit:o+k<=cur.size) (h1:cells.all (·.oneCell')=true)
  (h:wpList prog ops Q rest (a.put op.dst undef) (w.setRow g ca)):wpList prog ops Q (op :: rest) a w :=
 wpList_plain hgd fun _ hK=>aKe ty x y ho g o cells hx hy t cur cs k hcs hk ca hca hg hi hfit h1 (hK _ _ h)
theorem aKf{k:aj}(hk:lQ k=true)(t:bz)(h1:t.cust=k.party)(h2:t.ser=k.ser):mY [k] t k.fr k.fr=if eU k t=t.sl then 0 else 8:=by
 have hf:kX [k] t.cust t.ser=some k:=by
  unfold kX;rw[List.find?_cons,show decide (k.party=t.cust/\k.ser=t.ser)=true from decide_eq_true ⟨h1.symm,h2.symm⟩]
 have ok:=hk;unfold lQ at ok;rw[decide_eq_true_eq]at ok;have hc:lT k k.fr k.fr=true:=by
  unfold lT;rw[decide_eq_true_eq];omega
 unfold mY;rw[hf];show (if lT k k.fr k.fr=true then _ else _)=_;rw[if_pos hc]
structure aKg(X:Array Value)(y:ah)(er:Int):Prop where
 s:X.size=21
 o:X.all (·.oneCell')=true
 e:∀(W:World)(g:Nat),aQ W g 40 X->W.cell? ⟨g,20,none⟩=some (.int .i64 er)
 t:∀(W:World)(g:Nat),aQ W g 40 X->(loadVar 32 ⟨g,0,none⟩).run prog W=.ok (.agg y.cells.toArray) W
 sl:∀(W:World)(g:Nat),aQ W g 40 X->(loadVar 30 ⟨g,4,none⟩).run prog W=.ok (.agg (b8 y.t.sl).toArray) W
 n:y.cells.toArray.size=20
 l:dm y.t.sl
 u:y.cells.toArray.all (·.oneCell')=true
theorem aFy{w:World}{y:ah}(h:bZ w y)(er:Int):aKg (y.cells++[Value.int .i64 er]).toArray y er:=by
 have h20:y.cells.length=20:=h.size;refine⟨aCf h er,aBv y er,fun W g hg=>?_,fun W g hg=>?_,fun W g hg=>?_,by rw[List.size_toArray];exact h.size,h.sl,mi _ _ _ _ _ _ _⟩
 ·exact hg.cell (k:=20) (by
   rw[List.getElem?_toArray,List.getElem?_append_right aB,h20];rfl)
 ·exact yI (P:=prog) W g 0 40 32 (y.cells++[Value.int .i64 er]) y.cells (0,0) _ hg (fun j v hv=>by
   rw[Nat.zero_add,List.getElem?_append_left (List.getElem?_eq_some_iff.1 hv).1];exact hv) underlying32 rfl (by rw[h20];exact lC)
 ·exact yI (P:=prog) W g 4 40 30 (y.cells++[Value.int .i64 er]) (b8 y.t.sl) (0,0) _ hg (fun j v hv=>by
   have hj:j<16:=by have:=(List.getElem?_eq_some_iff.1 hv).1;rw[dU,h.sl.len]at this;exact this
   rw[List.getElem?_append_left aB];unfold ah.cells bn;rw[List.getElem?_append_right aH];simpa using hv) underlying30 rfl (by rw[dU,h.sl.len];exact lh)
def MdQ(t:bz)(er:Int):Value->World->Prop:=fun v W=>∃ y:ah,v=.agg (y.cells++[Value.int .i64 er]).toArray/\bZ W y/\y.t=t
theorem aKh(t:bz)(er:Int):sV (MdQ t er):=fun _ _ _ ⟨y,e,h,r⟩ hb=>⟨y,e,h.keep hb,r⟩
structure NwS(w:World)(K C:Array Value)(W:World):Prop where
 k:aQ W w.heap.size 23 K
 c:aQ W (w.heap.size+1) 27 C
 b:aF w W
theorem NwS.keep{w W W':World}{K C:Array Value}(h:NwS w K C W)(hb:aF W W'):NwS w K C W':=⟨h.k.keep hb,h.c.keep hb,aV h.b hb⟩
theorem aFz{α:Type}(l:List α)(h:l.length=16):∃ a0 a1 a2 a3 a4 a5 a6 a7 a8 a9 aa ab ac ad aezz afzz,l=[a0,a1,a2,a3,a4,a5,a6,a7,a8,a9,aa,ab,ac,ad,aezz,afzz]:=by
 match l,h with
 | [a0,a1,a2,a3,a4,a5,a6,a7,a8,a9,aa,ab,ac,ad,aezz,afzz],_=>exact⟨a0,a1,a2,a3,a4,a5,a6,a7,a8,a9,aa,ab,ac,ad,aezz,afzz,rfl⟩
theorem aKi(a0 a1 a2 a3 a4 a5 a6 a7 a8 a9 aa ab ac ad aezz afzz b0 b1 b2 b3 b4 b5 b6 b7 c8 b9 ba bb bc bd be bf:Nat)(W:World):(Instr.buildSlice 67 2 #[(0,.agg (b8 [a0,a1,a2,a3,a4,a5,a6,a7,a8,a9,aa,ab,ac,ad,aezz,afzz]).toArray),(1,.agg (b8 [b0,b1,b2,b3,b4,b5,b6,b7,c8,b9,ba,bb,bc,bd,be,bf]).toArray)]).run prog W=.ok (.slice (some ⟨W.heap.size,0,none⟩) 2 2) (W.alloc (.cells (b8 [a0,a1,a2,a3,a4,a5,a6,a7,a8,a9,aa,ab,ac,ad,aezz,afzz]++b8 [b0,b1,b2,b3,b4,b5,b6,b7,c8,b9,ba,bb,bc,bd,be,bf]).toArray 30)):=by kernel_rfl
theorem aKj(a b:List Nat)(ha:dm a)(hb:dm b)(W:World):(Instr.buildSlice 67 2 #[(0,.agg (b8 a).toArray),(1,.agg (b8 b).toArray)]).run prog W=.ok (.slice (some ⟨W.heap.size,0,none⟩) 2 2) (W.alloc (.cells (b8 a++b8 b).toArray 30)):=by
 have h1:=ha.len;have h2:=hb.len;clear ha hb;obtain⟨a0,a1,a2,a3,a4,a5,a6,a7,a8,a9,aa,ab,ac,ad,aezz,afzz,rfl⟩:=aFz a h1;obtain⟨b0,b1,b2,b3,b4,b5,b6,b7,c8,b9,ba,bb,bc,bd,be,bf,rfl⟩:=aFz b h2;exact aKi a0 a1 a2 a3 a4 a5 a6 a7 a8 a9 aa ab ac ad aezz afzz b0 b1 b2 b3 b4 b5 b6 b7 c8 b9 ba bb bc bd be bf W
theorem aKk{W:World}{g:Nat}{a b:List Nat}(ha:dm a)(hb:dm b)(h:aQ W g 30 (b8 a++b8 b).toArray)(i:Nat)(hi:i<2):(loadVar 30 ⟨g,i*16,none⟩).run prog W=.ok (.agg (b8 (if i=0 then a else b)).toArray) W:=by
 have h1:(b8 a).length=16:=by rw[dU,ha.len]
 have h2:(b8 b).length=16:=by rw[dU,hb.len]
 refine yI (P:=prog) W g (i*16) 30 30 (b8 a++b8 b) (b8 (if i=0 then a else b)) (0,0) _ h (fun j v hv=>?_) underlying30 rfl (by split <;> simp only[h1,h2] <;> exact lh);rcases (by omega:i=0\/i=1) with rfl | rfl
 ·rw[if_pos rfl]at hv;rw[Nat.zero_mul,Nat.zero_add,List.getElem?_append_left (List.getElem?_eq_some_iff.1 hv).1];exact hv
 ·rw[if_neg aK]at hv;rw[List.getElem?_append_right aB,h1,show 1*16+j-16=j by omega];exact hv
structure NwT(w:World)(K C X1 X2:Array Value)(g1 g2:Nat)(W:World):Prop where
 s:NwS w K C W
 a:aQ W g1 40 X1
 b:aQ W g2 40 X2
theorem NwT.keep{w W W':World}{K C X1 X2:Array Value}{g1 g2:Nat}(h:NwT w K C X1 X2 g1 g2 W)(hb:aF W W'):NwT w K C X1 X2 g1 g2 W':=⟨h.s.keep hb,h.a.keep hb,h.b.keep hb⟩
theorem NwT.put{w W:World}{K C X1 X2:Array Value}{g1 g2 g:Nat}(h:NwT w K C X1 X2 g1 g2 W)(hg:w.heap.size+2<=g/\g1<g/\g2<g)(cs:Array Value):NwT w K C X1 X2 g1 g2 (W.setRow g cs) :=
 ⟨⟨(setRow_other _ _ _ _ aB).trans h.s.k,(setRow_other _ _ _ _ aB).trans h.s.c,below_setRow h.s.b aB _⟩,(setRow_other _ _ _ _ aB).trans h.a,(setRow_other _ _ _ _ aB).trans h.b⟩
structure NwV(w:World)(K C X1 X2:Array Value)(g1 g2 g cap n:Nat)(M:List CoM)(W:World):Prop where
 t:NwT w K C X1 X2 g1 g2 W
 m:∃ cur,lS W g cap M cur
 n:M.length=n
 g:∀ x∈M,kD x.c
 r:∀ x∈M,∀ W,aF w W->dA W x.c x.m
theorem NwV.keep{w W W':World}{K C X1 X2:Array Value}{g1 g2 g cap n:Nat}{M:List CoM}(h:NwV w K C X1 X2 g1 g2 g cap n M W)(hb:aF W W'):NwV w K C X1 X2 g1 g2 g cap n M W':=by
 obtain⟨cur,hc⟩:=h.m;exact⟨h.t.keep hb,⟨cur,hc.keep hb⟩,h.n,h.g,h.r⟩
theorem NwV.next{w W:World}{K C X1 X2:Array Value}{g1 g2 g cap n n':Nat}{M M':List CoM}(h:NwV w K C X1 X2 g1 g2 g cap n M W)(hg:w.heap.size+2<=g/\g1<g/\g2<g){cs:Array Value}(hm:lS (W.setRow g cs) g cap M' cs)(hn:M'.length=n')
  (hs:∀ x∈M',x∈M\/(kD x.c/\∀ W,aF w W->dA W x.c x.m)):NwV w K C X1 X2 g1 g2 g cap n' M' (W.setRow g cs) :=
 ⟨h.t.put hg cs,⟨cs,hm⟩,hn,fun x hx=>(hs x hx).elim (h.g x) (·.1),fun x hx=>(hs x hx).elim (h.r x) (·.2)⟩
theorem NwV.tok{w W:World}{K C X1 X2:Array Value}{g1 g2 g cap n:Nat}{M:List CoM}(h:NwV w K C X1 X2 g1 g2 g cap n M W)(cust ser:Int)(id:aC){s:List Nat}(hs:dm s):bZ W ⟨⟨cust,ser,id,M.map (·.c),s⟩,some ⟨g,0,none⟩,cap,M⟩:=by
 obtain⟨cur,hc⟩:=h.m;have hl:(M.map (·.c)).length=M.length:=List.length_map _;refine⟨rfl,?_,hs,?_⟩
 ·show pW W _ (M.map (·.c)).length M;rw[hl];exact hc.conds fun x hx=>h.r x hx W h.t.s.b
 ·show (M.map (·.c)).length<=cap;rw[hl];exact hc.n
theorem aKl(cust ser:Int)(id:aC)(g cap:Nat)(M:List CoM)(s:List Nat):(ah.cells ⟨⟨cust,ser,id,M.map (·.c),s⟩,some ⟨g,0,none⟩,cap,M⟩)=bn cust ser id (some ⟨g,0,none⟩) M.length cap s:=by
 unfold ah.cells;rw[List.length_map]
def RF(k:aj)(id:aC)(g cap:Nat)(M:List CoM)(s:List Nat):ah:=⟨⟨k.party,k.ser,id,M.map (·.c),s⟩,some ⟨g,0,none⟩,cap,M⟩
theorem aKm{k:aj}{id:aC}{w W:World}{K C X1 X2:Array Value}{g1 g2 g cap n:Nat}{M:List CoM}{s:List Nat}(h:NwV w K C X1 X2 g1 g2 g cap n M W)(hk:lQ k=true)(hid:id.size<=200)(h1:1<=n)(hn:n<=16)(hs:dm s)(hK:Ks2 W) :
  Calls prog 34 #[.agg k.arr,.agg (RF k id g cap M s).cells.toArray] W (Ret W (.agg (b8 (eU k (RF k id g cap M s).t)).toArray)):=by
 have hl:(RF k id g cap M s).t.conds.length=n:=by rw[<-h.n];exact List.length_map _
 have hv:=aDr hk;exact aEy k (RF k id g cap M s) W (h.tok k.party k.ser id hs) (fun x hx=>h.g x hx) aB aB aB (Nat.le_trans hid aK) hK
theorem aKn{k:aj}{id:aC}{w W:World}{K C X1 X2:Array Value}{g1 g2 g cap n gr:Nat}{M:List CoM}{s:List Nat}(h:NwV w K C X1 X2 g1 g2 g cap n M W)(hk:lQ k=true)(hid:id.size<=200)(h1:1<=n)(hn:n<=16)(hs:dm s)(hg:aQ W gr 23 k.arr)(hL:gz W) :
  Calls prog 27 #[.slice (some ⟨gr,0,none⟩) 1 1,.agg (RF k id g cap M s).cells.toArray,pK k.fr k.fr] W (Ret W (.int .i64 (if eU k (RF k id g cap M s).t=s then 0 else 8))):=by
 have hl:(RF k id g cap M s).t.conds.length=n:=by rw[<-h.n];exact List.length_map _
 have hv:=aDr hk;have:=Yj (some ⟨gr,0,none⟩) 1 1 [k] (RF k id g cap M s) k.fr k.fr W (aJt hg) aK (aJs hk) (h.tok k.party k.ser id hs) (fun x hx=>h.g x hx) aB aB (Nat.le_trans hid aK) (by show InK k.party;unfold InK;omega) (by show InK k.ser;unfold InK;omega) hL.k hL.e hL.t;rw[aKf hk _ rfl rfl]at this;exact this
theorem aGa(k:aj)(id:aC)(g cap n:Nat)(M:List CoM)(s:List Nat)(hn:M.length=n):(RF k id g cap M s).cells=bn k.party k.ser id (some ⟨g,0,none⟩) n cap s:=by
 rw[<-hn];exact aKl _ _ _ _ _ _ _
theorem aKo{ops:Array Oper}{rest:List Oper}{o:Oper}{a:Act}{w:World}{Q:Exit->Act->World->Prop}(hgd:o.guard=none)(s x:Operand)(t:TypeId)
  (ho:o.op=.call { callee:=.builtin .append,args:=#[s,x],argTypes:=#[t,t] }) (v y v':Value) (w':World) (hs:a.eval s=v) (hx:a.eval x=y)
  (hr:(Builtin.append_ #[t,t] o.type #[v,y]).run prog w=.ok v' w') (h:wpList prog ops Q rest (a.put o.dst v') w'):wpList prog ops Q (o :: rest) a w:=by
 exact aFg
theorem aKp(a b:Int):(#[Value.int .i64 a,Value.int .i64 b]:Array Value).all (·.oneCell')=true:=by rw[List.all_toArray];rfl
theorem aKq(W:World)(g n c j:Nat)(hj:j<=c):(Instr.sliceAt 28 (.slice (some ⟨g,0,none⟩) n c) none (some (.int .i64 (j:Int))) none).run prog W=.ok (.slice (some ⟨g,0,none⟩) j c) W:=by
 have hi:=lq;cases hq:prog.info? 27 with
 | none=>rw[hq]at hi;cases hi
 | some i =>
  have hs:i.size=7:=xA;have h1:(j:Int)<=(c:Int):=aB;have hb:(Instr.sliceBound (.int .i64 (j:Int)) c .sliceAcap).run prog W=.ok j W:=by
   rw[run_sliceBound W .i64 (j:Int) c .sliceAcap aB h1];rfl
  by_cases e:c=0
  ·subst e;simp[Instr.sliceAt,Instr.slice,underlying28,Instr.sliceBounds,hb,sizeOf,typeInfo,hq,hs,Addr.add]
  ·simp[Instr.sliceAt,Instr.slice,underlying28,Instr.sliceBounds,hb,sizeOf,typeInfo,hq,hs,e,Addr.add]
theorem aKr(W:World)(g n c j:Nat)(hj:j<=n):(Instr.sliceAt 28 (.slice (some ⟨g,0,none⟩) n c) (some (.int .i64 (j:Int))) none none).run prog W=.ok (.slice (some (if c=j then ⟨g,0,none⟩ else ⟨g,j*7,none⟩)) (n-j) (c-j)) W:=by
 have hi:=lq;cases hq:prog.info? 27 with
 | none=>rw[hq]at hi;cases hi
 | some i =>
  have hs:i.size=7:=xA;have h1:(j:Int)<=(n:Int):=aB;have ha:(⟨g,0,none⟩:Addr).add (j*7)=⟨g,j*7,none⟩:=nH;by_cases e:c=j
  ·simp[Instr.sliceAt,Instr.slice,underlying28,Instr.sliceBounds,run_sliceBound,sizeOf,typeInfo,hq,hs,h1,e]
  ·simp[Instr.sliceAt,Instr.slice,underlying28,Instr.sliceBounds,run_sliceBound,sizeOf,typeInfo,hq,hs,h1,e,ha]
theorem lS.rest{W:World}{g cap:Nat}{M:List CoM}{cur:Array Value}(h:lS W g cap M cur){j:Nat}(hj:j<=M.length):∀ q u,((M.drop j).flatMap CoM.cells)[q]? = some u->W.cell? ((if cap=j then (⟨g,0,none⟩:Addr) else ⟨g,j*7,none⟩).add q)=some u:=by
 intro q u hu;have hn:=h.n;split
 ·rw[List.drop_of_length_le aB]at hu;cases hu
 ·exact h.behind j q u hu
theorem aKs(k:aj)(id:aC)(g cap n:Nat)(M:List CoM)(s:List Nat)(y:ah)(h1:y.t.cust=k.party)(h2:y.t.ser=k.ser)(h3:y.t.id=id)(hl:y.t.sl.length=16)(hn:M.length=n) :
  (y.cells.set 3 (.slice (some ⟨g,0,none⟩) n cap)).toArray.toList.take 4++b8 s++(y.cells.set 3 (.slice (some ⟨g,0,none⟩) n cap)).toArray.toList.drop (4+16)=(RF k id g cap M s).cells:=by
 rw[aGa k id g cap n M s hn];have hb:(b8 y.t.sl).length=16:=by rw[dU,hl]
 unfold ah.cells bn;rw[h1,h2,h3];simp[hb]
theorem aKt(k:aj)(W:World):(Instr.buildSlice 55 1 #[(0,.agg k.arr)]).run prog W=.ok (.slice (some ⟨W.heap.size,0,none⟩) 1 1) (W.alloc (.cells k.arr 23)):=by kernel_rfl
theorem aGb{c:aY}(hf:II c=true)(hv:bF c=true):kD c:=⟨IB hf,hv,by have:=aJo hv hf;omega⟩
theorem aKu{L:List CoM}{i:Nat}{u:CoM}(hu:L[i]? = some u)(h:∀ x∈L.take i,kD x.c)(hc:kD u.c):∀ x∈L.take (i+1),kD x.c:=by
 intro x hx;rw[List.take_add_one,hu]at hx;rcases List.mem_append.1 hx with hx | hx
 ·exact h x hx
 ·rw[List.mem_singleton.1 hx];exact hc
end Go.Proofs.YtlkbkclnbppigaaGreatDoor
