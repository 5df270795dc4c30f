/- Plain: sets in ascending order, countries, sites. -/
import Derived.Test.YtlkbkclnbppigaaGreatDoorIZ2
import Derived.Test.YtlkbkclnbppigaaGreatDoorIZ4
import Derived.Deep.Upon
import Derived.Test.YtlkbkclnbppigaaGreatDoorIZ3
set_option maxHeartbeats 2000000
namespace Go.Proofs.YtlkbkclnbppigaaGreatDoor
open Tryz
open Go.RowKit Go.Sort
set_option linter.unusedVariables false
set_option linter.unusedSimpArgs false
set_option maxRecDepth 100000
section
variable {α:Type}
def okK(lt:α->α->Bool)(right:α->Bool)(l:List α)(k:Nat):Bool:=match l[k]? with
 | none=>true
 | some x=>right x&&(k==0||(match l[k-1]? with
  | none=>true
  | some y=>lt y x))
def iU(lt:α->α->Bool)(right:α->Bool)(most:Nat)(l:List α):Bool:=(List.range l.length).all (okK lt right l)&&decide (l.length<=most)
end
def ltB(a b:aC):Bool:=decide (a.data.toList<b.data.toList)
def ltI(a b:Int):Bool:=decide (a<b)
def iV(s:aC):Bool:=decide (s.size=2)&&s.data.toList.all fun b=>decide (97<=b.toNat/\b.toNat<=122)
def jb(n:Int):Bool:=decide (0<=n/\n<64)
structure aY where
 fr:Int
 till:Int
 pat:aC
 cl:List aC
 co:List aC
 si:List Int
 us:Int
def ed:aY:=⟨0,0,⟨#[]⟩,[],[],[],0⟩
theorem I4(n:Int)(w:World):Calls prog 104 #[.int .i64 n] w (Ret w (.bool (jb n))):=by
 by_cases h0:0<=n
 ·by_cases h1:n<64
  ·have hv:jb n=true:=decide_eq_true ⟨h0,h1⟩;have d0:decide (0<=n)=true:=decide_eq_true h0;have d1:decide (n<64)=true:=decide_eq_true h1;exact Dy
  ·have hv:jb n=false:=decide_eq_false (fun h=>h1 h.2);have d0:decide (0<=n)=true:=decide_eq_true h0;have d1:decide (n<64)=false:=decide_eq_false h1;exact Dy
 ·have hv:jb n=false:=decide_eq_false (fun h=>h0 h.1);have d0:decide (0<=n)=false:=decide_eq_false h0;exact Dy
theorem Zt(s:aC)(h:s.size=2):s.data.toList=[s[0]' aB,s[1]' aB]:=by
 have hl:s.data.toList.length=2:=uf;refine List.ext_getElem (by simpa using hl) fun i h1 h2=>?_
 have hi:i<2:=aB;rcases i with _ | _ | i
 ·rfl
 ·rfl
 ·omega
theorem Zu(s:aC)(h:s.size=2):iV s=(decide ((97:Int)<=min ((s[0]' aB).toNat:Int) ((s[1]' aB).toNat:Int))&&decide (max ((s[0]' aB).toNat:Int) ((s[1]' aB).toNat:Int)<=122)):=by
 unfold iV;rw[decide_eq_true h,Bool.true_and,Zt s h];simp only[List.all_cons,List.all_nil,Bool.and_true];rw[Bool.eq_iff_iff];simp only[Bool.and_eq_true,decide_eq_true_eq];omega
theorem Iz(s:aC)(w:World)(hs:s.size<=4294967281):Calls prog 102 #[.string s] w (Ret w (.bool (iV s))):=by
 by_cases h2:s.size=2
 ·have d2:((s.size:Int)==2)=true:=aP;have hv:=Zu s h2;have q0:(0:Int)<(s.size:Int):=aB;have q1:(1:Int)<(s.size:Int):=aB;rw[hv];clear hv;cases e1:decide ((97:Int)<=min ((s[0]' aB).toNat:Int) ((s[1]' aB).toNat:Int))
  ·exact Oz
  ·generalize e2:decide (max ((s[0]' aB).toNat:Int) ((s[1]' aB).toNat:Int)<=122)=b2;go_enter func102,ntmps102;go_wp2_with fail;go_quiet (fail);go_wp2;go_ret;exact⟨fV aH,aJ⟩
 ·have d2:((s.size:Int)==2)=false:=beq_eq_false_iff_ne.2 aB;have hv:iV s=false:=by unfold iV;rw[decide_eq_false h2];rfl
  rw[hv];exact Oz
theorem Zv(a b:aC):(!(Op.bytesLess a.toList b.toList||a.toList==b.toList))=decide (b.data.toList<a.data.toList):=by
 exact IA
theorem Zw(x y:aC):(Op.bytesLess x.toList y.toList||x.toList==y.toList) = !ltB y x:=by
 have:=Zv x y;unfold ltB;rw[<-this,Bool.not_not]
theorem yK{α:Type}{lt:α->α->Bool}{right:α->Bool}{l:List α}{k:Nat}(h:(List.range k).all (okK lt right l)=true)(h2:okK lt right l k=true):(List.range (k+1)).all (okK lt right l)=true:=by
 rw[List.range_succ,List.all_append,h];simp[h2]
theorem Ih{α:Type}{lt:α->α->Bool}{right:α->Bool}{l:List α}{k most:Nat}(hk:k<l.length)(h2:okK lt right l k=false):iU lt right most l=false:=by
 unfold iU;have:(List.range l.length).all (okK lt right l)=false:=by
  rw[List.all_eq_false];exact⟨k,by simpa using hk,by rw[h2];simp⟩
 rw[this];rfl
theorem JB(g:Nat)(eg:∀ args w,(callFunc g args).run prog w=.ok (.enter g args) w)(right:aC->Bool)(A:Option Addr)(n c:Nat)(xs:List aC)(most:Nat)(w:World)
  (hp:∀ x∈xs,∀ W,Env W->Calls prog g #[.string x] W (Ret W (.bool (right x)))) (hA:aI w 1 A n (xs.map .string)) (hn:n<=1000000000) (hm:most<=1000000) (hE:Env w) :
  Calls prog 100 #[.slice A n c,.int .i64 most,.func (.func g) #[] #[]] w (Ret w (.bool (iU ltB right most xs))):=by
 have hl:xs.length=n:=jK;have HP:=aA hp;have HA:=aA hA;have HL:=aA hl;have HE:=aA hE;obtain⟨V,hV⟩:∃ V,V=iU ltB right most xs:=⟨_,rfl⟩;rw[<-hV];have HV:=aA hV;clear hp hA hl hE hV;go_enter func100,ntmps100;go_wp2;go_loopw [11] (fun i wr=>∃ k:Nat,k<=n/\i=.int .i64 k/\Hid ((List.range k).all (okK ltB right xs)=true)/\aF w wr) (fun i _=>n-(intOf i).toNat)
 case atStart=>exact⟨0,aB,rfl,aA rfl,Below.refl _ _⟩
 case round =>
  obtain⟨k,hk,rfl,HK,hb⟩:=hrel;by_cases hlt:k<n
  ·obtain⟨x,hx⟩:∃ x,xs[k]? = some x:=⟨_,List.getElem?_eq_getElem gV⟩;obtain⟨pb,po,rfl,hcell⟩:=(HA.out.keep hb).2 aB;have hc1:wr.cell? ⟨pb,po+k,none⟩=some (.string x):=hcell k _ gB;have hc:=fun W h=>HP.out x (List.mem_of_getElem? hx) W h
   have hok:okK ltB right xs k=(right x&&(k==0||(match xs[k-1]? with
    | none=>true
    | some y=>ltB y x))):=by unfold okK;rw[hx];cases xs[k-1]? <;> rfl
   have hfail:okK ltB right xs k=false->V=false:=fun h=>by rw[HV.out];exact Ih gV h
   cases hr:right x
   ·have hVf:V=false:=hfail (by rw[hok,hr];rfl);rw[hr]at hc;have HC:=aA hc;clear hc hr hok hfail hcell hx;subst hVf;go_wp2_with (go_at_fn g;refine (HC.out _ (Env.keep HE.out aJ)).mono ?_;rintro e w2 ⟨rfl,hb2⟩);go_ret;exact⟨rfl,aJ⟩
   ·rw[hr]at hc;have HC:=aA hc;rcases k with _ | j
    ·have HK2:Hid ((List.range (0+1)).all (okK ltB right xs)=true):=aA (yK HK.out (by rw[hok,hr];rfl));simp only[Nat.add_zero]at hc1;clear hc hr hok hfail hcell hx;go_wp2_with (go_at_fn g;refine (HC.out _ (Env.keep HE.out aJ)).mono ?_;rintro e w2 ⟨rfl,hb2⟩);exact⟨⟨1,aB,bg,HK2,aJ⟩,dD⟩
    ·obtain⟨y,hy⟩:∃ y,xs[j]? = some y:=⟨_,List.getElem?_eq_getElem gV⟩;have hc2:wr.cell? ⟨pb,po+j,none⟩=some (.string y):=hcell j _ qH;have hle:=Zw x y;rw[Nat.add_sub_cancel,hy]at hok;have hok:okK ltB right xs (j+1)=ltB y x:=by rw[hok,hr];simp
     have hj0:(0:Int)<=(j:Int):=aB;have hj1:(j:Int)<(n:Int):=aB;cases ht:ltB y x
     ·have hVf:V=false:=hfail (by rw[hok,ht]);rw[ht]at hle;clear hc hr hok hfail hcell hx hy;subst hVf;go_wp2_with (go_at_fn g;refine (HC.out _ (Env.keep HE.out aJ)).mono ?_;rintro e w2 ⟨rfl,hb2⟩;have hc3:=aW hb2 hc2);go_ret;exact⟨rfl,aJ⟩
     ·have HK2:Hid ((List.range (j+1+1)).all (okK ltB right xs)=true):=aA (yK HK.out (by rw[hok,ht]));rw[ht]at hle;clear hc hr hok hfail hcell hx hy;go_wp2_with (go_at_fn g;refine (HC.out _ (Env.keep HE.out aJ)).mono ?_;rintro e w2 ⟨rfl,hb2⟩;have hc3:=aW hb2 hc2);exact⟨⟨j+1+1,aB,bg,HK2,aJ⟩,dD⟩
  ·obtain rfl:k=n:=aB;have hv:V=decide (k<=most):=by rw[HV.out];unfold iU;rw[HL.out,HK.out];rfl
   by_cases hm2:k<=most
   ·rw[decide_eq_true hm2]at hv;have d1:decide ((k:Int)<=(most:Int))=true:=decide_eq_true aB;have d1':decide (k<=most)=true:=decide_eq_true hm2;subst hv;go_wp2;go_ret;exact⟨rfl,hb⟩
   ·rw[decide_eq_false hm2]at hv;have d1:decide ((k:Int)<=(most:Int))=false:=decide_eq_false aB;have d1':decide (k<=most)=false:=decide_eq_false hm2;subst hv;go_wp2;go_ret;exact⟨rfl,hb⟩
section
variable {P:Program}
theorem bD{ops:Array Oper}{rest:List Oper}{o:Oper}{a:Act}{w:World}{Q:Exit->Act->World->Prop}(hgd:o.guard=none)(ty:TypeId)(x:Operand)(ho:o.op=.load ty x)
  (ad:Addr) (v:Value) (hx:a.eval x=.pointer (some ad)) (hl:(loadVar ty ad).run P w=.ok v w)
  (h:wpList P ops Q rest (a.put o.dst v) w):wpList P ops Q (o :: rest) a w:=by
 refine wpList_plain hgd fun K hK=>?_
 unfold Oper.wp execOp;exact Dz
theorem rE{ops:Array Oper}{rest:List Oper}{o:Oper}{a:Act}{w:World}{Q:Exit->Act->World->Prop}(hw:Region.wanted o (yielded ops a.tmps)=true)(ty:TypeId)(x:Operand)(ho:o.op=.load ty x)
  (ad:Addr) (v:Value) (hx:a.eval x=.pointer (some ad)) (hl:(loadVar ty ad).run P w=.ok v w)
  (h:wpList P ops Q rest (a.put o.dst v) w):wpList P ops Q (o :: rest) a w:=by
 refine wpList_step fun K hK=>?_
 simp only[hw,if_true];unfold Oper.wp execOp;exact Dz
end
section
variable {P:Program} {ops:Array Oper} {Q:Exit->Act->World->Prop} {i:Nat} {o:Oper} {a:Act} {W:World} {R:Value->World->Prop}
def wI(w:World)(A:Option Addr)(n:Nat)(t:TypeId):Prop:=0<n->∃ b o cs fr,A=some ⟨b,o,none⟩/\Blk w b t cs fr
theorem wI.keep{w w':World}{A:Option Addr}{n:Nat}{t:TypeId}(h:wI w A n t)(hb:aF w w'):wI w' A n t:=fun h0 =>
 let ⟨b,o,cs,fr,e,hB⟩:=h h0
 ⟨b,o,cs,fr,e,Blk.keep hB hb⟩
theorem wI.off{w:World}{A:Option Addr}{n g:Nat}{t t':TypeId}{cs:Array Value}{fr:Nat × Nat}(h:wI w A n t)(hB:Blk w g t' cs fr)(ht:t≠t'):0<n->∀ a,A=some a->a.block≠g:=by
 intro h0 a ha hag;obtain⟨b,o,cs',fr',e,hb⟩:=h h0;rw[e]at ha;injection ha with ha
 subst ha;dsimp only at hag;subst hag;have:=hb.symm.trans hB;injection this with this
 injection this with _ h2
 exact ht h2
theorem zK(hg:o.guard=none)(y:Nat->Option Bool):Region.wanted o y=true:=by
 unfold Region.wanted;rw[hg]
theorem kR{v:Value}{W':World}(ho:ops[i]? = some o)(hg:o.guard=none)(hr:(execOp a.eval o).run P W=.ok (.value v) W')(hR:R v W'):wpOp P ops Q i (fun a' w'=>∃ v,a'=a.put o.dst v/\R v w') a W:=by
 unfold wpOp;rw[ho];dsimp only;rw[if_pos (zK hg _)];refine .inl ?_;unfold Oper.wp;rw[hr];exact⟨v,rfl,hR⟩
theorem lM{f:FuncId}{args:Array Value}(ho:ops[i]? = some o)(hg:o.guard=none)(hr:(execOp a.eval o).run P W=.ok (.enter f args) W)(hc:Calls P f args W fun e W'=>∃ v,e=.returned v/\R v W'):wpOp P ops Q i (fun a' w'=>∃ v,a'=a.put o.dst v/\R v w') a W:=by
 unfold wpOp;rw[ho];dsimp only;rw[if_pos (zK hg _)];refine .inl ?_;unfold Oper.wp;rw[hr];refine Calls.mono hc ?_;rintro e W' ⟨v,rfl,hR⟩;exact⟨v,rfl,hR⟩
theorem vz{F:Fence}{n:Nat}{v:Value}{W':World}(ho:ops[i]? = some o)(hg:o.guard=none)(hF:∀ f,F.fn f)(hp:∀ c,o.op ≠ .defer c)(hr:(execOp a.eval o).run P W=.ok (.value v) W')(hR:R v W'):wpOpIn F n P ops Q i (fun a' w'=>∃ v,a'=a.put o.dst v/\R v w') a W:=by
 unfold wpOpIn;rw[ho];dsimp only;rw[if_pos (zK hg _)];refine⟨fun f _=>hF f,?_⟩;rw[Oper.semAt_plain F _ _ hp,hr];exact⟨v,rfl,hR⟩
theorem YF{F:Fence}{n:Nat}{f:FuncId}{args:Array Value}(ho:ops[i]? = some o)(hg:o.guard=none)(hF:∀ f,F.fn f)(hd:F.depth.isSome=true->1<=n)(hp:∀ c,o.op ≠ .defer c)(hr:(execOp a.eval o).run P W=.ok (.enter f args) W)(hc:CallsIn F (n-1) P f args W fun e W'=>∃ v,e=.returned v/\R v W'):wpOpIn F n P ops Q i (fun a' w'=>∃ v,a'=a.put o.dst v/\R v w') a W:=by
 unfold wpOpIn;rw[ho];dsimp only;rw[if_pos (zK hg _)];refine⟨fun f _=>hF f,?_⟩;rw[Oper.semAt_plain F _ _ hp,hr];refine⟨hd,CallsIn.mono hc ?_⟩;rintro e W' ⟨v,rfl,hR⟩;exact⟨v,rfl,hR⟩
def oD(S:Nat->Oper->Prop):Nat->List Oper->Prop
 | _,[]=>True
 | k,o :: l=>S k o/\oD S (k+1) l
theorem uu{S:Nat->Oper->Prop}{k:Nat}:oD S k []:=trivial
theorem dL{S:Nat->Oper->Prop}{k:Nat}{o:Oper}{l:List Oper}(h:S k o)(t:oD S (k+1) l):oD S k (o :: l):=⟨h,t⟩
theorem O0{S:Nat->Oper->Prop}:∀(l:List Oper)(k:Nat),oD S k l->∀(i:Nat)(o:Oper),l[i]? = some o->S (k+i) o
 | [],_,_,i,o,h=>nG
 | o :: l,k,h,0,o',h'=>by
  have:o=o':=by simpa using h'
  subst this;exact h.1
 | o :: l,k,h,i+1,o',h'=>by
  have:=O0 l (k+1) h.2 i o' (by simpa using h')
  rwa [show k+(i+1)=k+1+i by omega]
def D5(ops:Array Oper)(md:Region.Mode)(m:Nat)(a1:Act)(w1:World)(G:World->World->Prop)(D:Nat->Value->World->Prop)(J:(Nat->Bool)->World->Prop)(step:Nat->(Act->World->Prop)->Act->World->Prop)(i:Nat)(o:Oper):Prop :=
 ops[i]? = some o->∀(L:Nat->Bool)(a:Act)(w:World),wG ops md L->L i=false->(∀ e∈o.after,Region.binds md e=true->L e.on=true)->J L w->G w1 w->wF ops m a1 a->(∀ e∈o.after,Region.binds md e=true->D e.on (iE ops a e.on) w) ->
  step i (fun a' w'=>∃ v,a'=a.put o.dst v/\D i v w'/\G w w'/\J (fun j=>decide (j=i)||L j) w') a w
def aZ:List Oper->(Nat->Value)->Nat->Act->Act
 | [],_,_,a=>a
 | o :: l,vals,k,a=>aZ l vals (k+1) (a.put o.dst (vals k))
theorem D6(ops:Array Oper):∀(l:List Oper)(vals:Nat->Value)(k:Nat)(a:Act),(∀ j,j<l.length->ops[k+j]? = l[j]?)->(List.range' k l.length).foldl (fun a j=>a.put (bM ops j) (vals j)) a=aZ l vals k a
 | [],_,_,_,_=>rfl
 | o :: l,vals,k,a,h=>by
  rw[List.length_cons,List.range'_succ,List.foldl_cons,aZ];have h0:ops[k]? = some o:=by simpa using h 0 aH
  rw[show bM ops k=o.dst by unfold bM;rw[h0];rfl];exact D6 ops l vals (k+1) _ (fun j hj=>by have:=h (j+1) lI;simpa[Nat.add_assoc,Nat.add_comm 1 j] using this)
def Region.freeB(md:Region.Mode)(l:List Oper)(m size:Nat):Bool :=
 decide (m<=l.length)&&Region.fair l.toArray md m size&&Region.last l.toArray md m&&Region.seqB md l.toArray (l.length-m) m ((List.replicate m true++List.replicate (l.length-m) false).toArray)
theorem pF{m:Nat}{a1 a:Act}(h:wF ops m a1 a){t:Nat}(ht:(List.range m).all (fun j=>bM ops j != some t)=true):a.eval (.tmp t)=a1.eval (.tmp t):=by
 show a.tmps.getD t undef=a1.tmps.getD t undef;have:=h.off t (fun j hj=>by have:=List.all_eq_true.1 ht j (List.mem_range.2 hj);simpa using this);simp only[Array.getD_eq_getD_getElem?,this]
theorem dM(a:Act)(k:Nat):a.tmps[k]?.getD undef=a.eval (.tmp k):=(Array.getD_eq_getD_getElem? ..).symm
theorem O1{md:Region.Mode}{step:Nat->(Act->World->Prop)->Act->World->Prop}(hmono:wC step){l:List Oper}{a1:Act}{w1:World}(m:Nat)(hB:Region.freeB md l m a1.tmps.size=true)
  (G:World->World->Prop) (hrefl:∀ w,G w w) (htr:∀ a b c,G a b->G b c->G a c) (D:Nat->Value->World->Prop) (hD:∀ i v w w',D i v w->G w w'->D i v w')
  (J:(Nat->Bool)->World->Prop) (hJ0:J (fun _=>false) w1) (hops:oD (D5 l.toArray md m a1 w1 G D J step) 0 (l.take m))
  (hend:∀ (vals:Nat->Value) w,G w1 w->J (fun j=>decide (j<m)) w->(∀ j,j<m->D j (vals j) w)->jl md l.toArray Q step (l.drop m).length ((List.replicate m true++List.replicate (l.length-m) false).toArray) (aZ (l.take m) vals 0 a1) w) :
  (l.drop m).length+m=l.toArray.size/\jl md l.toArray Q step ((l.drop m).length+m) (Array.replicate l.toArray.size false) a1 w1:=by
 unfold Region.freeB at hB;simp only[Bool.and_eq_true,decide_eq_true_eq]at hB;obtain⟨⟨⟨hm,hf⟩,hl⟩,hs⟩:=hB;refine⟨aP,ZV hmono m _ (by simpa using hm) a1 w1 G hrefl htr D hD J hJ0 hf hl (fun i o hi ho=>?_) (fun vals w h1 h2 h3=>?_)⟩
 ·have:=O0 _ 0 hops i o (by rw[List.getElem?_take_of_lt hi];simpa using ho);rw[Nat.zero_add]at this;exact this ho
 ·have e:iP l.toArray a1 vals m=aZ (l.take m) vals 0 a1:=by
   unfold iP;have:=D6 l.toArray (l.take m) vals 0 a1 (fun j hj=>by
    rw[List.getElem?_take_of_lt O3];simp)
   rw[List.length_take,Nat.min_eq_left hm]at this;rw[<-this,List.range_eq_range']
  rw[e];simpa using hend vals w h1 h2 h3
theorem qI{l:List Oper}(m:Nat){id:Nat}{a:Act}{w:World}(hm:P.follows .mixedOrders=true)(hB:Region.freeB .any l m a.tmps.size=true)
  (G:World->World->Prop) (hrefl:∀ w,G w w) (htr:∀ a b c,G a b->G b c->G a c) (D:Nat->Value->World->Prop) (hD:∀ i v w w',D i v w->G w w'->D i v w')
  (J:(Nat->Bool)->World->Prop) (hJ0:J (fun _=>false) { w with drawn:=w.drawn+1 }) (hops:oD (D5 l.toArray .any m a { w with drawn:=w.drawn+1 } G D J (wpOp P l.toArray Q)) 0 (l.take m))
  (hend:∀ (vals:Nat->Value) w',G { w with drawn:=w.drawn+1 } w'->J (fun j=>decide (j<m)) w'->(∀ j,j<m->D j (vals j) w')->wpList P l.toArray Q (l.drop m) (aZ (l.take m) vals 0 a) w') :
  (Code.region id l.toArray true).wp P Q a w:=by
 have hs:Region.seqB .any l.toArray (l.length-m) m ((List.replicate m true++List.replicate (l.length-m) false).toArray)=true:=by
  unfold Region.freeB at hB
  simp only[Bool.and_eq_true]at hB
  exact hB.2
 obtain⟨h1,h2⟩:=O1 (Q:=Q) ZQ m hB G hrefl htr D hD J hJ0 hops (fun vals w' g1 g2 g3=>ZY (l.drop m) m _ _ _ (fun j=>aH) (by simpa using hs) (hend vals w' g1 g2 g3))
 exact ZW hm _ m h1 h2
theorem YE{F:Fence}{n:Nat}{l:List Oper}(m:Nat){id:Nat}{a:Act}{w:World}(hm:P.follows .mixedOrders=true)(hB:Region.freeB .any l m a.tmps.size=true)
  (G:World->World->Prop) (hrefl:∀ w,G w w) (htr:∀ a b c,G a b->G b c->G a c) (D:Nat->Value->World->Prop) (hD:∀ i v w w',D i v w->G w w'->D i v w')
  (J:(Nat->Bool)->World->Prop) (hJ0:J (fun _=>false) { w with drawn:=w.drawn+1 }) (hops:oD (D5 l.toArray .any m a { w with drawn:=w.drawn+1 } G D J (wpOpIn F n P l.toArray Q)) 0 (l.take m))
  (hend:∀ (vals:Nat->Value) w',G { w with drawn:=w.drawn+1 } w'->J (fun j=>decide (j<m)) w'->(∀ j,j<m->D j (vals j) w')->wpListIn F n P l.toArray Q (l.drop m) (aZ (l.take m) vals 0 a) w') :
  (Code.region id l.toArray true).wpIn F n P Q a w:=by
 have hs:Region.seqB .any l.toArray (l.length-m) m ((List.replicate m true++List.replicate (l.length-m) false).toArray)=true:=by
  unfold Region.freeB at hB
  simp only[Bool.and_eq_true]at hB
  exact hB.2
 obtain⟨h1,h2⟩:=O1 (Q:=Q) ZR m hB G hrefl htr D hD J hJ0 hops (fun vals w' g1 g2 g3=>OV (l.drop m) m _ _ _ (fun j=>aH) (by simpa using hs) (hend vals w' g1 g2 g3))
 exact ZX hm _ m h1 h2
end
theorem bH{α:Type}:(∀(n:Nat)(a:α)(l:List α),(a :: l).take (n+1)=a :: l.take n)/\(∀ l:List α,l.take 0=[])/\(∀(n:Nat)(a:α)(l:List α),(a :: l).drop (n+1)=l.drop n)/\(∀ l:List α,l.drop 0=l)/\(∀(l:List α)(i:Nat)(a:α),l.toArray.setIfInBounds i a=(l.set i a).toArray)/\(∀(a b:α)(n:Nat)(l:List α),(a :: l).set (n+1) b=a :: l.set n b)/\(∀(a b:α)(l:List α),(a :: l).set 0 b=b :: l)/\(∀(a d:α)(l:List α),(a :: l).getD 0 d=a)/\(∀(a d:α)(n:Nat)(l:List α),(a :: l).getD (n+1) d=l.getD n d) :=
 ⟨fun _ _ _=>rfl,fun _=>rfl,fun _ _ _=>rfl,fun _=>rfl,fun _ _ _=>List.setIfInBounds_toArray ..,fun _ _ _ _=>rfl,fun _ _ _=>rfl,fun _ _ _=>rfl,fun _ _ _ _=>rfl⟩
section
variable {P:Program} {F:Fence} {n:Nat}
theorem ng{ops:Array Oper}{rest:List Oper}{o:Oper}{a:Act}{w:World}{Q:Exit->Act->World->Prop}(hgd:o.guard=none)(ty:TypeId)(x:Operand)(ho:o.op=.load ty x)
  (ad:Addr) (v:Value) (hx:a.eval x=.pointer (some ad)) (hl:(loadVar ty ad).run P w=.ok v w)
  (h:wpListIn F n P ops Q rest (a.put o.dst v) w):wpListIn F n P ops Q (o :: rest) a w:=by
 refine wpListIn_plain hgd fun K hK=>?_
 unfold Oper.wpIn;refine⟨?_,?_⟩
 ·simp[Oper.about,ho]
 ·rw[Oper.semAt_plain F _ _ (by rw[ho];intro c hc';cases hc')];unfold execOp;exact Dz
theorem yw{ops:Array Oper}{rest:List Oper}{o:Oper}{a:Act}{w:World}{Q:Exit->Act->World->Prop}(hgd:o.guard=none)(ty:TypeId)(x y:Operand)(ho:o.op=.store ty x y)
  (g:Nat) (cells:Array Value) (hx:a.eval x=.pointer (some ⟨g,0,none⟩)) (hy:a.eval y=.agg cells)
  (t:TypeId) (old:Array Value) (hg:w.heap[g]? = some (.cells old t (0,0))) (hi:(P.info? ty).map (·.size)=some cells.size)
  (hold:old.size=cells.size) (h1:cells.all (·.oneCell')=true)
  (h:wpListIn F n P ops Q rest (a.put o.dst undef) (w.setRow g cells)):wpListIn F n P ops Q (o :: rest) a w:=by
 refine wpListIn_plain hgd fun K hK=>?_
 unfold Oper.wpIn;refine⟨?_,?_⟩
 ·simp[Oper.about,ho]
 ·rw[Oper.semAt_plain F _ _ (by rw[ho];intro c hc';cases hc')];unfold execOp;simp only[ho,hx,hy,Instr.storeAt,Instr.sureAddr,Sem.run_bind,Sem.run_pure,Result.andThen_ok,run_storeVar_row w g t ty old cells hg hi hold h1];exact hK _ _ h
end
structure D7(n:Nat)(W W':World):Prop where
 size:W.heap.size<=W'.heap.size
 same:∀ k,n<=k->k<W.heap.size->W'.heap[k]? = W.heap[k]?
def Nc(P:Program)(gf:Nat)(lb:Array Value)(x:Array Value)(w:World):Prop :=
 ∀(l:Nat)(J0 J1 Jx:World->Prop)(W:World),aF w W ->
  (∀ W1,J0 W1->YieldAt Fence.wide 0 P l x W1 fun e W'=>(e=.returned (.bool true)/\J1 W')\/(e=.returned (.bool false)/\Jx W')) ->
  J0 W ->
  CallsIn Fence.wide 0 P gf (#[.func (.yield l) #[] #[]]++lb) W fun e W'=>(∃ v,e=.returned v)/\(J1 W'\/Jx W')
def Zx(n:Nat)(I Ir:World->Prop)(W:World):Exit->Act->World->Prop
 | .normal,_,W'=>D7 n W W'/\I W'
 | .ret,_,W'=>D7 n W W'/\Ir W'
 | _,_,_=>False
theorem YW{P:Program}{g:Operand}{ps:Array Tmp}{assign body:Code}{Q:Exit->Act->World->Prop}{a:Act}{w:World}
  {gf:Nat} {lb x:Array Value} (hps:x.size=ps.size) (hg:a.eval g=.func (.func gf) #[] lb) (eg:∀ args w,(callFunc gf args).run P w=.ok (.enter gf args) w)
  {w0:World} (hseq:Nc P gf lb x w0) (hb0:aF w0 w)
  (I Ir:World->Prop) (hI:∀ A B,I A->Below w.heap.size A B->I B) (hIr:∀ A B,Ir A->Below w.heap.size A B->Ir B)
  (Ax:Act->World->Prop) (hAx:∀ a' W l o o',Ax a' W->w.heap.size<=l->W.heap[l]? = some o->o.isCells=false->Ax a' (W.putObj l o'))
  (hassign:∀(l:Nat)(W:World)(K:Act->World->Prop),aF w W->(∀ a' W2,D7 w.heap.size W W2->Ax a' W2->K a' W2) ->
   assign.wpIn (Fence.wide.inRound l) 0 P (Exit.then K (fun _ _ _=>False)) { tmps:=(ps.zip x).foldl (fun t (p,v)=>t.setIfInBounds p v) a.tmps,defers:=[] } W)
  (hbody:∀(l:Nat)(a':Act)(W:World),Ax a' W->body.wpIn (Fence.wide.inRound l) 0 P (Zx w.heap.size I Ir W) a' W)
  (hdone:∀(D:Nat)(W:World),w.heap.size<=D->I W->W.heap[D]? = some (.deferred (some []))->Q .normal { a with defers:={ target:=.collected D,args:=#[] } :: a.defers } W)
  (hstop:∀(D:Nat)(W:World),w.heap.size<=D->Ir W->W.heap[D]? = some (.deferred (some []))->Code.ret.wpIn Fence.wide 0 P Q { a with defers:={ target:=.collected D,args:=#[] } :: a.defers } W) :
  (Code.rangeFunc g ps assign body).wpIn Fence.wide 0 P Q a w:=by
 refine wpIn_rangeFunc ?_
 intro fn hfn
 obtain⟨rec,hrec⟩:∃ rec:LoopState->Option Code->Loop,rec=fun st pe=>{ state:=st,pending:=pe,fn,tmps:=a.tmps,params:=ps,assign,body,defers:=w.heap.size }:=⟨_,rfl⟩
 obtain⟨W1,hW1⟩:∃ W1,(w.alloc (.deferred (some []))).alloc (.loop (rec .ready none))=W1:=⟨_,rfl⟩
 have hL1:W1.heap[w.heap.size+1]? = some (.loop (rec .ready none)):=by
  rw[<-hW1];have:=World.alloc_heap_new (w.alloc (.deferred (some []))) (.loop (rec .ready none));rwa [World.size_alloc]at this
 have hK1:W1.heap[w.heap.size]? = some (.deferred (some [])):=by
  rw[<-hW1];exact (Below.heap_alloc _ _ _ aH).trans (World.alloc_heap_new w _)
 have hb11:aF w W1:=by rw[<-hW1];exact aU (aU (Below.refl _ _) _) _
 have hs1:W1.heap.size=w.heap.size+2:=by rw[<-hW1];simp
 have hb1:aF w0 W1:=aV hb0 hb11
 refine⟨w.heap.size+1,[{ target:=.collected w.heap.size,args:=#[] }],W1,{ target:=.fn (.func gf) lb,args:=#[.func (.yield (w.heap.size+1)) #[] #[]] },W1,gf,
  #[.func (.yield (w.heap.size+1)) #[] #[]]++lb,W1,?_,?_,?_,?_,(fun h=>(by cases h)),?_⟩
 ·rw[<-hW1,hrec];exact run_enterLoop_outer _ _ _ _ _
 ·simp only[resolve,hg]
  simp[go_sem]
 ·intro f' hf';trivial
 ·simp[invoke,go_sem,eg]
 ·refine (hseq (w.heap.size+1)
   (fun W=>W=W1)
   (fun W=>I W/\W.heap[w.heap.size+1]? = some (.loop (rec .ready none))/\W.heap[w.heap.size]? = some (.deferred (some [])))
   (fun W=>Ir W/\W.heap[w.heap.size+1]? = some (.loop (rec .done (some .ret)))/\W.heap[w.heap.size]? = some (.deferred (some []))) W1 hb1
   ?_ rfl).mono ?_
  ·rintro W rfl
   have hlt:w.heap.size+1<W.heap.size:=aB
   have hy:=run_yield (P:=P) (args:=x) hL1 (by rw[hrec];exact hps)
   rw[hrec]at hy
   refine⟨fn,_,assign,body,hy,roundIn_of_wpIn hfn (hassign _ W _ hb11 ?_)⟩
   intro a' Wa hka hax
   have hla:=(hka.same _ aB hlt).trans hL1
   have hkaa:=(hka.same _ aB aB).trans hK1
   have hlta:w.heap.size+1<Wa.heap.size:=(Array.getElem?_eq_some_iff.1 hla).1
   refine⟨_,run_beginRound hla (by rw[hrec]),?_⟩
   have hl2:(Wa.putObj (w.heap.size+1) (.loop { rec .ready none with state:=.busy })).heap[w.heap.size+1]? = some (.loop { rec .ready none with state:=.busy }):=World.putObj_heap_same hlta
   have hk2:(Wa.putObj (w.heap.size+1) (.loop { rec .ready none with state:=.busy })).heap[w.heap.size]? = some (.deferred (some [])):=(World.putObj_heap_other aB).trans hkaa
   refine wpIn_mono (hbody _ a' _ (hAx _ _ _ _ _ hax aB hla rfl)) ?_
   rintro e a3 W3 hp
   cases e with
   | normal =>
    obtain⟨hk3,hi3⟩:=hp
    have hl3:=(hk3.same _ aB (by have:=(Array.getElem?_eq_some_iff.1 hl2).1;exact this)).trans hl2
    have hk4:=(hk3.same _ aB (by have:=(Array.getElem?_eq_some_iff.1 hk2).1;exact this)).trans hk2
    have hlt3:=(Array.getElem?_eq_some_iff.1 hl3).1
    have hr:=run_endRound (P:=P) none hl3
    rw[hrec]at hr
    have hr2:(Instr.endRound (w.heap.size+1) none).run P W3=.ok (.bool true) (W3.putObj (w.heap.size+1) (.loop (rec .ready none))):=by rw[hrec];exact hr
    have hl4:(W3.putObj (w.heap.size+1) (.loop (rec .ready none))).heap[w.heap.size+1]? = some (.loop (rec .ready none)):=World.putObj_heap_same hlt3
    exact⟨_,_,hr2,.inl ⟨rfl,⟨hI _ _ hi3 (nZ _ hl3 aB),hl4,(World.putObj_heap_other aB).trans hk4⟩⟩⟩
   | ret =>
    obtain⟨hk3,hi3⟩:=hp
    have hl3:=(hk3.same _ aB (by have:=(Array.getElem?_eq_some_iff.1 hl2).1;exact this)).trans hl2
    have hk4:=(hk3.same _ aB (by have:=(Array.getElem?_eq_some_iff.1 hk2).1;exact this)).trans hk2
    have hlt3:=(Array.getElem?_eq_some_iff.1 hl3).1
    have hr:=run_endRound (P:=P) (some .ret) hl3
    rw[hrec]at hr
    have hr2:(Instr.endRound (w.heap.size+1) (some .ret)).run P W3=.ok (.bool false) (W3.putObj (w.heap.size+1) (.loop (rec .done (some .ret)))):=by rw[hrec];exact hr
    have hl4:(W3.putObj (w.heap.size+1) (.loop (rec .done (some .ret)))).heap[w.heap.size+1]? = some (.loop (rec .done (some .ret))):=World.putObj_heap_same hlt3
    exact⟨_,_,hr2,.inr ⟨rfl,⟨hIr _ _ hi3 (nZ _ hl3 aB),hl4,(World.putObj_heap_other aB).trans hk4⟩⟩⟩
   | exit id=>exact hp.elim
   | goto t=>exact hp.elim
   | panic ch=>exact hp.elim
   | outgrown=>exact hp.elim
  ·rintro e W2 ⟨⟨v,rfl⟩,(⟨hi,hl,hk⟩ | ⟨hi,hl,hk⟩)⟩
   ·exact⟨none,_,uN,hdone _ _ (Nat.le_refl _) (hI _ _ hi (nZ _ hl aB)) ((World.putObj_heap_other aB).trans hk)⟩
   ·exact⟨some .ret,_,uN,hstop _ _ (Nat.le_refl _) (hIr _ _ hi (nZ _ hl aB)) ((World.putObj_heap_other aB).trans hk)⟩
end Go.Proofs.YtlkbkclnbppigaaGreatDoor
