/- A region that draws its order, by a contract of each operation: whatever the order, each slot holds in the end what its contract says. -/
import Derived.Test.YtlkbkclnbppigaaGreatDoorIZ1
import Derived.StillTail
namespace Go.Proofs.YtlkbkclnbppigaaGreatDoor
open Tryz
open Go.RowKit Go.Sort
set_option linter.unusedVariables false
set_option linter.unusedSimpArgs false
set_option maxRecDepth 100000
section
variable {P:Program} {ops:Array Oper} {Q:Exit->Act->World->Prop} {md:Region.Mode} {step:Nat->(Act->World->Prop)->Act->World->Prop}
def lX(n:Nat)(listed:Array Bool):Nat:=(List.range n).countP fun i=>!listed.getD i true
theorem OI{α:Type}(p q:α->Bool)(h:∀ x,q x=true->p x=true):∀(l:List α)(i:α),i∈l->p i=true->q i=false->l.countP q<l.countP p
 | [],i,hi,_,_=>by cases hi
 | x :: l,i,hi,h1,h2=>by
  have hle:∀ l:List α,l.countP q<=l.countP p:=fun l=>List.countP_mono_left (fun x _ hx=>h x hx)
  rcases List.mem_cons.1 hi with rfl | hi
  ·rw[List.countP_cons_of_pos h1,List.countP_cons_of_neg (by simp[h2])];have:=hle l;omega
  ·have ih:=OI p q h l i hi h1 h2;by_cases hq:q x=true
   ·rw[List.countP_cons_of_pos hq,List.countP_cons_of_pos (h x hq)];omega
   ·rw[List.countP_cons_of_neg hq];by_cases hp:p x=true
    ·rw[List.countP_cons_of_pos hp];omega
    ·rw[List.countP_cons_of_neg hp];exact ih
theorem OJ{listed:Array Bool}{i n:Nat}(hi:i<n)(h:listed.getD i true=false):lX n (listed.setIfInBounds i true)<lX n listed:=by
 have hlt:i<listed.size:=by
  rcases Nat.lt_or_ge i listed.size with h' | h'
  ·exact h'
  ·simp[Array.getElem?_eq_none h']at h
 refine OI _ _ (fun x hx=>?_) _ i (List.mem_range.2 hi) (by rw[h];rfl) (by simp[hlt]);by_cases hxi:i=x
 ·subst hxi;simp[hlt]at hx
 ·rw[getD_set_ne true hxi]at hx;exact hx
def jl(md:Region.Mode)(ops:Array Oper)(Q:Exit->Act->World->Prop)(step:Nat->(Act->World->Prop)->Act->World->Prop):Nat->Array Bool->Act->World->Prop
 | 0,listed,a,w=>Region.ready md ops listed=[]/\Q .normal a w
 | n+1,listed,a,w=>(Region.ready md ops listed=[]->Q .normal a w)/\∀ i∈Region.ready md ops listed,step i (jl md ops Q step n (listed.setIfInBounds i true)) a w
def wC(step:Nat->(Act->World->Prop)->Act->World->Prop):Prop:=∀(i:Nat)(K K':Act->World->Prop)(a:Act)(w:World),(∀ a w,K a w->K' a w)->step i K a w->step i K' a w
theorem ZQ:wC (wpOp P ops Q):=fun _ _ _ _ _ h hh=>wpOp_mono h hh
theorem ZR{F:Fence}{n:Nat}:wC (wpOpIn F n P ops Q):=fun _ _ _ _ _ h hh=>wpOpIn_mono h hh
theorem OL:∀(n:Nat)(listed:Array Bool)(a:Act)(w:World),jl md ops Q (wpOp P ops Q) n listed a w->wpAny P md ops Q n listed a w
 | 0,_,_,_,h=>h
 | n+1,_,_,_,h=>⟨h.1,fun i hi=>wpOp_mono (fun a w=>OL n _ a w) (h.2 i hi)⟩
theorem OM:∀(n:Nat)(listed:Array Bool)(a:Act)(w:World),wpAny P md ops Q n listed a w->jl md ops Q (wpOp P ops Q) n listed a w
 | 0,_,_,_,h=>h
 | n+1,_,_,_,h=>⟨h.1,fun i hi=>wpOp_mono (fun a w=>OM n _ a w) (h.2 i hi)⟩
theorem OO{F:Fence}{k:Nat}:∀(n:Nat)(listed:Array Bool)(a:Act)(w:World),jl md ops Q (wpOpIn F k P ops Q) n listed a w->wpAnyIn F k P md ops Q n listed a w
 | 0,_,_,_,h=>h
 | n+1,_,_,_,h=>⟨h.1,fun i hi=>wpOpIn_mono (fun a w=>OO n _ a w) (h.2 i hi)⟩
theorem OQ(hmono:wC step)(m:Nat)(hm:m<=ops.size)(I:Array Bool->Act->World->Prop)
  (hstep:∀ listed a w,I listed a w->(∃ i,i<m/\listed.getD i true=false)->∀ i∈Region.ready md ops listed,i<m/\step i (fun a' w'=>I (listed.setIfInBounds i true) a' w') a w)
  (hsome:∀ listed a w,I listed a w->(∃ i,i<m/\listed.getD i true=false)->Region.ready md ops listed ≠ [])
  (r:Nat) (hend:∀ listed a w,I listed a w->(∀ i,i<m->listed.getD i true=true)->jl md ops Q step r listed a w) :
  ∀(k:Nat)(listed:Array Bool)(a:Act)(w:World),lX m listed=k->I listed a w->jl md ops Q step (r+k) listed a w
 | 0,listed,a,w,hc,hI=>by
  refine hend listed a w hI (fun i hi=>?_);cases hl:listed.getD i true with
  | true=>rfl
  | false =>
   have:0<lX m listed:=List.countP_pos_iff.2 ⟨i,List.mem_range.2 hi,by rw[hl];rfl⟩;omega
 | k+1,listed,a,w,hc,hI=>by
  have hex:∃ i,i<m/\listed.getD i true=false:=by
   have:0<lX m listed:=aB;obtain⟨i,hi,hl⟩:=List.countP_pos_iff.1 this;exact⟨i,List.mem_range.1 hi,by simpa using hl⟩
  refine⟨fun h=>absurd h (hsome _ _ _ hI hex),fun i hi=>?_⟩;obtain⟨him,hw⟩:=hstep _ _ _ hI hex i hi;have hli:=(mem_ready.1 hi).1;have hdrop:∀ k',lX m (listed.setIfInBounds i true)=k'->k'<=k:=fun k' h=>by have:=OJ him hli;omega
  have hup:lX m listed<=lX m (listed.setIfInBounds i true)+1:=by
   unfold lX;have key:∀ l:List Nat,l.Nodup->l.countP (fun j=>!listed.getD j true)<=l.countP (fun j=>!(listed.setIfInBounds i true).getD j true)+(if i∈l then 1 else 0):=by
    intro l;induction l with
    | nil=>intro _;simp
    | cons x l ih =>
     intro hn;have hn':=List.nodup_cons.1 hn;have ih':=ih hn'.2;by_cases hxi:i=x
     ·subst hxi;rw[if_neg hn'.1]at ih';rw[if_pos aH,List.countP_cons,List.countP_cons];split <;> split <;> omega
     ·have e:((!(listed.setIfInBounds i true).getD x true):Bool) = !listed.getD x true:=by rw[getD_set_ne true hxi]
      rw[List.countP_cons,List.countP_cons];simp only[e];have hm2:(if i∈x :: l then 1 else 0)=(if i∈l then 1 else 0):=by
       simp only[List.mem_cons,hxi,false_or]
      rw[hm2];split <;> omega
   have:=key (List.range m) List.nodup_range;split at this <;> omega
  have hk:lX m (listed.setIfInBounds i true)=k:=by have:=OJ him hli;omega
  exact hmono _ _ _ _ _ (fun a' w' h'=>OQ hmono m hm I hstep hsome r hend k _ a' w' hk h') hw
def bM(ops:Array Oper)(i:Nat):Option Tmp:=(ops[i]?).bind (·.dst)
def iE(ops:Array Oper)(a:Act)(j:Nat):Value:=match bM ops j with
 | some d=>a.tmps.getD d undef
 | none=>undef
structure wE(ops:Array Oper)(a1 a:Act):Prop where
 defers:a.defers=a1.defers
 size:a.tmps.size=a1.tmps.size
 off:∀ t,(∀ j,bM ops j≠some t)->a.tmps[t]? = a1.tmps[t]?
theorem wE.put{a1 a:Act}(h:wE ops a1 a)(i:Nat)(v:Value):wE ops a1 (a.put (bM ops i) v):=by
 cases hd:bM ops i with
 | none=>exact h
 | some d =>
  refine⟨h.defers,by simpa[Act.put] using h.size,fun t ht=>?_⟩;have hne:d≠t:=fun e=>ht i (by rw[hd,e])
  simp only[Act.put,Array.getElem?_setIfInBounds_ne hne];exact h.off t ht
theorem wE.eval{a1 a:Act}(h:wE ops a1 a){t:Nat}(ht:∀ j,bM ops j≠some t):a.eval (.tmp t)=a1.eval (.tmp t):=by
 show a.tmps.getD t undef=a1.tmps.getD t undef;have:=h.off t ht;simp only[Array.getD_eq_getD_getElem?,this]
def iP(ops:Array Oper)(a1:Act)(vals:Nat->Value)(m:Nat):Act:=(List.range m).foldl (fun a j=>a.put (bM ops j) (vals j)) a1
structure wF(ops:Array Oper)(m:Nat)(a1 a:Act):Prop where
 defers:a.defers=a1.defers
 size:a.tmps.size=a1.tmps.size
 off:∀ t,(∀ j,j<m->bM ops j≠some t)->a.tmps[t]? = a1.tmps[t]?
theorem ZU{m:Nat}{a1 a:Act}(h:wF ops m a1 a):iP ops a1 (iE ops a) m=a:=by
 unfold iP;have key:∀(l:List Nat)(b:Act),b.defers=a.defers->b.tmps.size=a.tmps.size->(∀ t,b.tmps[t]? = a.tmps[t]?\/∃ j∈l,bM ops j=some t)->l.foldl (fun a' j=>a'.put (bM ops j) (iE ops a j)) b=a:=by
  intro l;induction l with
  | nil =>
   intro b h1 h2 h3;obtain⟨bt,bd⟩:=b;obtain⟨at',ad⟩:=a;have e1:bt=at':=Array.ext_getElem? fun t=>(h3 t).resolve_right (by rintro⟨j,hj,_⟩;cases hj)
   have e2:bd=ad:=h1;rw[e1,e2];rfl
  | cons j l ih =>
   intro b h1 h2 h3;rw[List.foldl_cons];cases hd:bM ops j with
   | none =>
    refine ih _ h1 h2 (fun t=>?_);rcases h3 t with h | ⟨j',hj',ht⟩
    ·exact .inl h
    ·rcases List.mem_cons.1 hj' with rfl | hj'
     ·rw[hd]at ht;cases ht
     ·exact .inr ⟨j',hj',ht⟩
   | some d =>
    refine ih _ h1 (by simpa[Act.put] using h2) (fun t=>?_);by_cases hdt:d=t
    ·subst hdt;refine .inl ?_;simp only[Act.put,iE,hd];rcases Nat.lt_or_ge d b.tmps.size with hl | hl
     ·have hl2:d<a.tmps.size:=h2▸hl;simp[hl,hl2]
     ·have hl2:a.tmps.size<=d:=h2▸hl;rw[Array.getElem?_eq_none (by simpa using hl),Array.getElem?_eq_none hl2]
    ·rcases h3 t with h | ⟨j',hj',ht⟩
     ·exact .inl (by simp only[Act.put,Array.getElem?_setIfInBounds_ne hdt];exact h)
     ·rcases List.mem_cons.1 hj' with rfl | hj'
      ·rw[hd]at ht;injection ht with ht;exact absurd ht hdt
      ·exact .inr ⟨j',hj',ht⟩
 refine key _ a1 h.defers.symm h.size.symm (fun t=>?_);by_cases ht:∃ j,j<m/\bM ops j=some t
 ·obtain⟨j,hj,e⟩:=ht;exact .inr ⟨j,List.mem_range.2 hj,e⟩
 ·exact .inl (h.off t (fun j hj e=>ht ⟨j,hj,e⟩)).symm
def Region.fair(ops:Array Oper)(md:Region.Mode)(m size:Nat):Bool :=
 (List.range m).all fun i=>match ops[i]? with
  | none=>false
  | some o=>o.after.all (fun e=>decide (e.on<i)|| !Region.binds md e)&&(match o.dst with
   | none=>false
   | some d=>decide (d<size)&&(List.range ops.size).all fun j=>i==j||bM ops j != some d)
def Region.behind(ops:Array Oper)(md:Region.Mode):Nat->Nat->Nat->Bool
 | 0,_,_=>false
 | n+1,i,j=>match ops[i]? with
  | none=>false
  | some o=>(o.after.any fun e=>e.on==j&&Region.binds md e)||o.after.any fun e=>Region.binds md e&&Region.behind ops md n e.on j
def Region.last(ops:Array Oper)(md:Region.Mode)(m:Nat):Bool :=
 (List.range ops.size).all fun i=>decide (i<m)||(List.range m).all fun j=>Region.behind ops md ops.size i j
def wG(ops:Array Oper)(md:Region.Mode)(L:Nat->Bool):Prop:=∀ j o,L j=true->ops[j]? = some o->∀ e∈o.after,Region.binds md e=true->L e.on=true
theorem OT{L:Nat->Bool}(hC:wG ops md L):∀(n i j:Nat)(o:Oper),Region.behind ops md n i j=true->ops[i]? = some o->(∀ e∈o.after,Region.binds md e=true->L e.on=true)->L j=true
 | 0,_,_,_,h,_,_=>by cases h
 | n+1,i,j,o,h,ho,hd=>by
  unfold Region.behind at h;rw[ho]at h;dsimp only at h;rw[Bool.or_eq_true,Array.any_eq_true',Array.any_eq_true']at h;rcases h with ⟨e,he,h⟩ | ⟨e,he,h⟩
  ·rw[Bool.and_eq_true,beq_iff_eq]at h;rw[<-h.1];exact hd e he h.2
  ·rw[Bool.and_eq_true]at h;have hl:=hd e he h.1;cases ho2:ops[e.on]? with
   | none =>
    exfalso;have h2:=h.2;cases n with
    | zero=>cases h2
    | succ n=>unfold Region.behind at h2;rw[ho2]at h2;cases h2
   | some o2=>exact OT hC n e.on j o2 h.2 ho2 (fun e' he' hb'=>hC e.on o2 hl ho2 e' he' hb')
theorem ZV(hmono:wC step)(m r:Nat)(hm:m<=ops.size)(a1:Act)(w1:World)(G:World->World->Prop)(hrefl:∀ w,G w w)(htr:∀ a b c,G a b->G b c->G a c)
  (D:Nat->Value->World->Prop) (hD:∀ i v w w',D i v w->G w w'->D i v w')
  (J:(Nat->Bool)->World->Prop) (hJ0:J (fun _=>false) w1)
  (hfair:Region.fair ops md m a1.tmps.size=true) (hlast:Region.last ops md m=true)
  (hop:∀ i o,i<m->ops[i]? = some o->∀ L a w,wG ops md L->L i=false->(∀ e∈o.after,Region.binds md e=true->L e.on=true)->J L w->G w1 w->wF ops m a1 a->(∀ e∈o.after,Region.binds md e=true->D e.on (iE ops a e.on) w)->step i (fun a' w'=>∃ v,a'=a.put o.dst v/\D i v w'/\G w w'/\J (fun j=>decide (j=i)||L j) w') a w)
  (hend:∀ (vals:Nat->Value) w,G w1 w->J (fun j=>decide (j<m)) w->(∀ j,j<m->D j (vals j) w)->jl md ops Q step r ((List.replicate m true++List.replicate (ops.size-m) false).toArray) (iP ops a1 vals m) w) :
  jl md ops Q step (r+m) (Array.replicate ops.size false) a1 w1:=by
 have fair:∀ i,i<m->∃ o d,ops[i]? = some o/\(∀ e∈o.after,Region.binds md e=true->e.on<i)/\o.dst=some d/\d<a1.tmps.size/\∀ j,j≠i->bM ops j≠some d:=by
  intro i hi;have h:=List.all_eq_true.1 hfair i (List.mem_range.2 hi);cases ho:ops[i]? with
  | none=>rw[ho]at h;cases h
  | some o =>
   rw[ho]at h;dsimp only at h;rw[Bool.and_eq_true,Array.all_eq_true']at h;cases hd:o.dst with
   | none=>rw[hd]at h;cases h.2
   | some d =>
    refine⟨o,d,rfl,fun e he hb=>OU,hd,?_⟩;have h2:=h.2;rw[hd]at h2;dsimp only at h2;rw[Bool.and_eq_true,decide_eq_true_eq,List.all_eq_true]at h2;refine⟨h2.1,fun j hj=>?_⟩;rcases Nat.lt_or_ge j ops.size with hl | hl
    ·have:=h2.2 j (List.mem_range.2 hl);simp only[Bool.or_eq_true,beq_iff_eq,bne_iff_ne]at this;exact this.resolve_left (fun e=>hj e.symm)
    ·unfold bM;rw[Array.getElem?_eq_none hl];simp
 have last:∀ i o (L:Nat->Bool),wG ops md L->m<=i->ops[i]? = some o->(∀ e∈o.after,Region.binds md e=true->L e.on=true)->∀ j,j<m->L j=true:=by
  intro i o L hC hi ho hd j hj;have hlt:i<ops.size:=(Array.getElem?_eq_some_iff.1 ho).1;have h:=List.all_eq_true.1 hlast i (List.mem_range.2 hlt);rw[decide_eq_false aB,Bool.false_or]at h;exact OT hC _ i j o (List.all_eq_true.1 h j (List.mem_range.2 hj)) ho hd
 have getD_same:∀(listed:Array Bool)(j:Nat),listed.size=ops.size->j<ops.size->listed.getD j true=listed.getD j false:=by
  intro listed j h1 h2;have:j<listed.size:=aB;simp[this]
 refine OQ hmono m hm (fun listed a w=>listed.size=ops.size/\(wG ops md (fun j=>listed.getD j false)/\J (fun j=>listed.getD j false) w)/\wF ops m a1 a/\G w1 w/\(∀ j,m<=j->j<ops.size->listed.getD j true=false)/\(∀ j,j<m->listed.getD j true=true->D j (iE ops a j) w)) ?_ ?_ r ?_ m _ a1 w1 ?_ ?_
 ·rintro listed a w ⟨hs,⟨hC,hJ⟩,hA,hG,hR,hF⟩ ⟨u,hu,hul⟩ i hi;obtain⟨hil,o,ho,hall⟩:=mem_ready.1 hi;have him:i<m:=by
   rcases Nat.lt_or_ge i m with h | h
   ·exact h
   ·have:=last i o _ hC h ho hall u hu;rw[<-getD_same listed u hs aB,hul]at this;cases this
  obtain⟨o',d,ho',hback,hd,hdl,hdd⟩:=fair i him;obtain rfl:o=o':=Option.some.inj (ho.symm.trans ho');have hdo:bM ops i=some d:=by unfold bM;rw[ho];exact hd
  have hil':listed.getD i false=false:=by rw[<-getD_same listed i hs aB];exact hil
  refine⟨him,hmono _ _ _ _ _ ?_ (hop i o him ho _ a w hC hil' hall hJ hG hA (fun e he hb=>hF e.on Dk (by rw[getD_same listed e.on hs Dk];exact hall e he hb)))⟩;rintro a' w' ⟨v,rfl,hv,hg,hj⟩;have hset:(fun j=>(listed.setIfInBounds i true).getD j false)=(fun j=>decide (j=i)||listed.getD j false):=by
   funext j;by_cases hji:j=i
   ·subst hji;have:j<listed.size:=aB;simp[this]
   ·rw[getD_set_ne false (Ne.symm hji),decide_eq_false hji,Bool.false_or]
  rw[hd];refine⟨by simpa using hs,⟨fun j o9 hl ho9 e he hb=>?_,by rw[hset];exact hj⟩,⟨hA.defers,by simpa[Act.put] using hA.size,fun t ht=>?_⟩,htr _ _ _ hG hg,fun j hj hj2=>?_,fun j hj hl=>?_⟩
  ·have hl':(decide (j=i)||listed.getD j false)=true:=by rw[<-congrFun hset j];exact hl
   show (fun j=>(listed.setIfInBounds i true).getD j false) e.on=true;rw[hset];rw[Bool.or_eq_true,decide_eq_true_eq]at hl';rcases hl' with rfl | hl'
   ·obtain rfl:o=o9:=Option.some.inj (ho.symm.trans ho9);simp[hall e he hb]
   ·simp[hC j o9 hl' ho9 e he hb]
  ·have hne:d≠t:=fun e=>ht i him (by rw[hdo,e])
   simp only[Act.put,Array.getElem?_setIfInBounds_ne hne];exact hA.off t ht
  ·rw[getD_set_ne true aB];exact hR j hj hj2
  ·by_cases hji:j=i
   ·subst hji;have e:iE ops (a.put (some d) v) j=v:=by
     unfold iE;rw[hdo];have:d<a.tmps.size:=by rw[hA.size];exact hdl
     simp[Act.put,this]
    rw[e];exact hv
   ·rw[getD_set_ne true (Ne.symm hji)]at hl;have e:iE ops (a.put (some d) v) j=iE ops a j:=by
     unfold iE;cases hj3:bM ops j with
     | none=>rfl
     | some d' =>
      have hne:d≠d':=fun e=>hdd j hji (by rw[hj3,e])
      simp[Act.put,Array.getElem?_setIfInBounds_ne hne]
    rw[e];exact hD _ _ _ _ (hF j hj hl) hg
 ·rintro listed a w ⟨hs,⟨hC,hJ⟩,hA,hG,hR,hF⟩ ⟨u,hu,hul⟩;have key:∀ n i,i<=n->i<m->listed.getD i true=false->Region.ready md ops listed ≠ []:=by
   intro n;induction n with
   | zero =>
    intro i hi him hil;obtain rfl:i=0:=aB;obtain⟨o,d,ho,hback,_⟩:=fair 0 him;have:0∈Region.ready md ops listed:=mem_ready.2 ⟨hil,o,ho,fun e he hb=>Dk⟩;intro h;rw[h]at this;cases this
   | succ n ih =>
    intro i hi him hil;obtain⟨o,d,ho,hback,_⟩:=fair i him;by_cases hall:∀ e∈o.after,Region.binds md e=true->listed.getD e.on false=true
    ·have:i∈Region.ready md ops listed:=mem_ready.2 ⟨hil,o,ho,hall⟩;intro h;rw[h]at this;cases this
    ·obtain⟨e,he⟩:=Classical.not_forall.1 hall;obtain⟨he1,he⟩:=Classical.not_imp.1 he;obtain⟨he2,he⟩:=Classical.not_imp.1 he;have hlt:=hback e he1 he2;refine ih e.on aB aB ?_;rw[getD_same listed e.on hs aB];simpa using he
  exact key u u (Nat.le_refl _) hu hul
 ·rintro listed a w ⟨hs,⟨hC,hJ⟩,hA,hG,hR,hF⟩ hall;have hl:listed=(List.replicate m true++List.replicate (ops.size-m) false).toArray:=by
   refine Array.ext aP (fun i h1 h2=>?_);have hg:listed.getD i true=listed[i]:=by simp[h1]
   rw[<-hg];rcases Nat.lt_or_ge i m with h | h
   ·rw[hall i h];simp[h]
   ·rw[hR i h aB];simp only[List.getElem_toArray];rw[List.getElem_append_right nD];simp
  have hLm:(fun j=>listed.getD j false)=(fun j=>decide (j<m)):=by
   funext j;rcases Nat.lt_or_ge j m with h | h
   ·rw[decide_eq_true h,<-getD_same listed j hs aB];exact hall j h
   ·rw[decide_eq_false aB];rcases Nat.lt_or_ge j ops.size with h2 | h2
    ·rw[<-getD_same listed j hs h2];exact hR j h h2
    ·simp[Array.getElem?_eq_none (show listed.size<=j by omega)]
  rw[hLm]at hJ;rw[hl,<-ZU hA];exact hend _ w hG hJ (fun j hj=>hF j hj (hall j hj))
 ·unfold lX;have:∀ i∈List.range m,(!(Array.replicate ops.size false).getD i true)=true:=fun i hi=>by
   have:=List.mem_range.1 hi;have h2:i<ops.size:=aB;simp[h2]
  rw[List.countP_eq_length.2 this,List.length_range]
 ·have h0:(fun j=>(Array.replicate ops.size false).getD j false)=(fun _=>false):=by
   funext j;rcases Nat.lt_or_ge j ops.size with h | h
   ·simp[h]
   ·simp[Array.getElem?_eq_none (show (Array.replicate ops.size false).size<=j by simpa using h)]
  refine⟨aH,⟨fun j o hl=>?_,by rw[h0];exact hJ0⟩,⟨rfl,rfl,fun _ _=>rfl⟩,hrefl _,fun j hj hj2=>by simp[hj2],fun j hj hl=>?_⟩
  ·have:=congrFun h0 j;exact absurd (this.symm.trans hl) aH
  ·have h2:j<ops.size:=aB;simp[h2]at hl
theorem ZW{id:Nat}{a:Act}{w:World}(hm:P.follows .mixedOrders=true)(r m:Nat)(hrm:r+m=ops.size)
  (h:jl .any ops Q (wpOp P ops Q) (r+m) (Array.replicate ops.size false) a { w with drawn:=w.drawn+1 }):(Code.region id ops true).wp P Q a w :=
 wp_region_any hm (by rw[hrm]at h;exact OL _ _ _ _ h)
theorem ZX{F:Fence}{n:Nat}{id:Nat}{a:Act}{w:World}(hm:P.follows .mixedOrders=true)(r m:Nat)(hrm:r+m=ops.size)
  (h:jl .any ops Q (wpOpIn F n P ops Q) (r+m) (Array.replicate ops.size false) a { w with drawn:=w.drawn+1 }):(Code.region id ops true).wpIn F n P Q a w :=
 wpIn_region_any hm (by rw[hrm]at h;exact OO _ _ _ _ h)
theorem ZY(l:List Oper)(k:Nat)(listed:Array Bool)(a:Act)(w:World)(hl:∀ j,l[j]? = ops[k+j]?)(hB:Region.seqB md ops l.length k listed=true)(h:wpList P ops Q l a w):jl md ops Q (wpOp P ops Q) l.length listed a w :=
 OM _ _ _ _ (wpAny_of_seq l k listed a w hl hB h)
theorem OV{F:Fence}{n:Nat}:∀(l:List Oper)(k:Nat)(listed:Array Bool)(a:Act)(w:World),(∀ j,l[j]? = ops[k+j]?)->Region.seqB md ops l.length k listed=true->wpListIn F n P ops Q l a w->jl md ops Q (wpOpIn F n P ops Q) l.length listed a w
 | [],_,_,_,_,_,hB,h=>⟨by simpa[Region.seqB] using hB,h⟩
 | o :: l,k,listed,a,w,hl,hB,h=>by
  have h0:ops[k]? = some o:=by simpa using (hl 0).symm
  simp only[List.length_cons,Region.seqB,Bool.and_eq_true,decide_eq_true_eq]at hB;refine⟨fun h1=>(by rw[hB.1]at h1;cases h1),fun i hi=>?_⟩;rw[hB.1]at hi;have hik:i=k:=by simpa using hi
  subst hik;have hw:wpOpIn F n P ops Q i (wpListIn F n P ops Q l) a w:=by unfold wpOpIn;simp only[h0];exact h
  exact wpOpIn_mono (fun a' w' h'=>OV l (i+1) _ a' w' (fun j=>by have:=hl (j+1);simpa[Nat.add_assoc,Nat.add_comm 1 j] using this) hB.2 h') hw
end
end Go.Proofs.YtlkbkclnbppigaaGreatDoor
