/- An argument that is a condition, or an ask, opened: what it reads as. -/
import Derived.Test.YtlkbkclnbppigaaGreatDoorWY6
namespace Go.Proofs.YtlkbkclnbppigaaGreatDoor
open _root_.Go.Proofs.Tryz _root_.Go.Proofs.YtlkbkclnbppigaaGreatDoor.Tryz
open Go.RowKit Go.Sort
set_option linter.unusedVariables false
set_option linter.unusedSimpArgs false
set_option maxRecDepth 100000
theorem aLk:prog.cellsOf 9=1:=by kernel_rfl
theorem aLl:prog.cellsOf 3=1:=by kernel_rfl
theorem aGj:prog.cellsOf 27=7:=by kernel_rfl
theorem aCw{α:Type}{p:Nat->α->Prop}:∀ n:Nat,(∀ i,i<n->∃ x,p i x)->∃ l:List α,l.length=n/\∀ i x,l[i]? = some x->p i x
 | 0,_=>⟨[],rfl,fun i x h=>nG⟩
 | n+1,h=>by
  obtain⟨l,h1,h2⟩:=aCw n (fun i hi=>h i aB);obtain⟨x,hx⟩:=h n aB;refine⟨l++[x],by simp[h1],fun i y hy=>?_⟩;rw[List.getElem?_append]at hy;split at hy
  ·exact h2 i y hy
  ·rename_i hn;have hlt:=(List.getElem?_eq_some_iff.1 hy).1;simp at hlt;have:i=n:=aB;subst this;rw[h1]at hy;simp at hy;subst hy;exact hx
theorem aDz{w:World}{a:Addr}{v:Value}(h:w.cell? (a.add 0)=some v):∃ b o,a=⟨b,o,none⟩:=by
 obtain⟨b,o,s⟩:=a;refine⟨b,o,?_⟩;have e:(⟨b,o,s⟩:Addr).add 0=⟨b,o,s⟩:=by simp[Addr.add]
 rw[e]at h;cases s with
 | none=>rfl
 | some s =>
  unfold World.cell? at h;split at h <;> simp at h
theorem aCx(b o j:Nat):(⟨b,o,none⟩:Addr).add j=⟨b,o+j,none⟩:=by
 unfold Addr.add;split <;> simp_all
section
variable {H:Type} {enc:TypeId × Value->H} {W:World} {base:Nat} {sp:Nat->Bool} {hd:Bool}
theorem aGk{fuel:Nat}{v:Value}{x:DataW H × List MemPlace}(h:DataW.trod enc prog W base sp hd fuel 24 [v]=some x):∃(A:Option Addr)(n c:Nat)(xs:List aC),v=.slice A n c/\xs.length=n/\aI W 1 A n (xs.map .string):=by
 rcases Go.Deep.open_slice underlying24 h with ⟨h0,_⟩ | ⟨a,len,cap,m,n,D,Pl,hcs,hb,hl,hm,hmm,hx,hi⟩
 ·exact aGl
 ·injection hcs with hcs
  subst hcs;have hlm:len<=m:=by rw[hmm];split <;> omega
  obtain⟨xs,h1,h2⟩:=aCw (p:=fun i (s:aC)=>W.cell? (a.add i)=some (.string s)) len (fun i hil=>by
   obtain⟨cs',hc,ht⟩:=hi i aB;rw[aLk,Nat.mul_one]at hc;obtain⟨s,rfl,_,hs⟩:=DataW.trod_string underlying9 ht;have:=(World.cells?_some hc).2.2 0 aB;exact⟨s,by simpa[Addr.add] using this⟩)
  refine⟨some a,len,cap,xs,rfl,h1,⟨by simp[h1],fun hn=>?_⟩⟩;obtain⟨s0,hs0⟩:∃ s,xs[0]? = some s:=⟨_,List.getElem?_eq_getElem aB⟩;obtain⟨b,o,rfl⟩:=aDz (h2 0 s0 hs0);refine⟨b,o,rfl,fun j u hu=>?_⟩;obtain⟨s,hs,rfl⟩:=pG hu;rw[<-aCx];exact h2 j s hs
theorem aLm{fuel:Nat}{v:Value}{x:DataW H × List MemPlace}(h:DataW.trod enc prog W base sp hd fuel 25 [v]=some x):∃(A:Option Addr)(n c:Nat)(xs:List Int),v=.slice A n c/\xs.length=n/\aI W 1 A n (xs.map (.int .i64)):=by
 rcases Go.Deep.open_slice underlying25 h with ⟨h0,_⟩ | ⟨a,len,cap,m,n,D,Pl,hcs,hb,hl,hm,hmm,hx,hi⟩
 ·exact aGl
 ·injection hcs with hcs
  subst hcs;have hlm:len<=m:=by rw[hmm];split <;> omega
  obtain⟨xs,h1,h2⟩:=aCw (p:=fun i (s:Int)=>W.cell? (a.add i)=some (.int .i64 s)) len (fun i hil=>by
   obtain⟨cs',hc,ht⟩:=hi i aB;rw[aLl,Nat.mul_one]at hc;obtain⟨s,rfl,_,hs⟩:=DataW.trod_int underlying3 ht;have:=(World.cells?_some hc).2.2 0 aB;exact⟨s,by simpa[Addr.add] using this⟩)
  refine⟨some a,len,cap,xs,rfl,h1,⟨by simp[h1],fun hn=>?_⟩⟩;obtain⟨s0,hs0⟩:∃ s,xs[0]? = some s:=⟨_,List.getElem?_eq_getElem aB⟩;obtain⟨b,o,rfl⟩:=aDz (h2 0 s0 hs0);refine⟨b,o,rfl,fun j u hu=>?_⟩;obtain⟨s,hs,rfl⟩:=aIe hu;rw[<-aCx];exact h2 j s hs
theorem aLn{r:Reach}{b0:Nat}{v:Value}{d:DataW H}{ps:List MemPlace}(hval:Value.okWide prog W r b0 27 v)(h:DataW.Trod enc prog W base sp hd 27 v d ps) :
  ∃(c:aY)(m:ae),v=ae.val c m/\dA W c m:=by
 obtain⟨cs,rfl,hsz⟩:=Go.WideShapes.okWide_struct underlying27 hval;obtain⟨l⟩:=cs
 match l,hsz.trans aGj with
 | [c0,c1,c2,c3,c4,c5,c6],_ =>
  obtain⟨fuel,hf⟩:=h;obtain⟨ys,n',hn',hy,hlen,hyl,hg⟩:=DataW.trod_struct underlying27 hf;have hyl2:ys.length=7:=hyl;have hone:∀ t,prog.cellsOf t=1->∀ i,i<7->∀ y,List.take (prog.cellsOf t) (List.drop i [c0,c1,c2,c3,c4,c5,c6])=y->List.take 1 (List.drop i [c0,c1,c2,c3,c4,c5,c6])=y:=fun t ht i _ y hy=>by rw[<-ht];exact hy
  exact aGm
end
theorem aLo:prog.cellsOf 23=5:=by kernel_rfl
theorem aBy{n:Int}(h:(Lit.int .u8 n).wf=true):0<=n/\n<=255:=by
 unfold Lit.wf at h;simp only[Bool.and_eq_true,decide_eq_true_eq]at h;have h1:IntKind.u8.min=0:=rfl;have h2:IntKind.u8.max=255:=rfl;omega
section
variable {H:Type} {enc:TypeId × Value->H} {W:World} {base:Nat} {sp:Nat->Bool} {hd:Bool}
theorem aLp{α:Type}{t e:TypeId}{size:Nat}(hs:0<size)(ht:prog.underlying t=some (.slice e))(hc:prog.cellsOf e=size)(cells:α->List Value)(R:α->Prop)(hlen:∀ a,(cells a).length=size)
  (hrow:∀ fuel cs x,cs.length=size->DataW.trod enc prog W base sp hd fuel e cs=some x->∃ a,cs=cells a/\R a) {fuel:Nat} {v:Value} {x:DataW H × List MemPlace} (h:DataW.trod enc prog W base sp hd fuel t [v]=some x) :
  ∃(A:Option Addr)(n c:Nat)(L:List α),v=.slice A n c/\L.length=n/\aI W size A n (L.flatMap cells)/\(∀ a∈L,R a)/\n<=c/\n<=9223372036854775807:=by
 rcases Go.Deep.open_slice ht h with ⟨h0,_⟩ | ⟨a,len,cap,m,n,D,Pl,hcs,hb,hl,hm,hmm,hx,hi⟩
 ·injection h0 with h0
  subst h0;exact⟨none,0,0,[],rfl,rfl,aI.nil_ _ _ _,fun a ha=>by (cases ha),aB,aB⟩
 ·injection hcs with hcs
  subst hcs;have hlm:len<=m:=by rw[hmm];split <;> omega
  have hbound:len<=9223372036854775807:=by unfold maxLen at hm;omega
  obtain⟨L,h1,h2⟩:=aCw (p:=fun i (z:α)=>(∀ j u,(cells z)[j]? = some u->W.cell? ((a.add (i*size)).add j)=some u)/\R z) len (fun i hil=>by
   obtain⟨cs',hcc,ht'⟩:=hi i aB;rw[hc]at hcc;obtain⟨_,hcl,hat⟩:=World.cells?_some hcc;obtain⟨z,rfl,hz⟩:=hrow _ _ _ hcl ht';refine⟨z,fun j u hu=>?_,hz⟩;have hj:=(List.getElem?_eq_some_iff.1 hu).1;rw[hlen z]at hj;rw[hat j hj];exact hu)
  refine⟨some a,len,cap,L,rfl,h1,⟨by rw[Lu cells L (fun z _=>hlen z),h1],fun hn=>?_⟩,fun z hz=>?_,aB,hbound⟩
  ·obtain⟨z0,hz0⟩:∃ z,L[0]? = some z:=⟨_,List.getElem?_eq_getElem aB⟩;have hu0:(cells z0)[0]? = some ((cells z0)[0]'(by rw[hlen];exact hs)):=List.getElem?_eq_getElem _;obtain⟨b,o,rfl⟩:=aDz (a:=a) (w:=W) (by have:=(h2 0 z0 hz0).1 0 _ hu0;simpa[Addr.add] using this);refine⟨b,o,rfl,fun j u hu=>?_⟩;have hjl:=(List.getElem?_eq_some_iff.1 hu).1;rw[Lu cells L (fun z _=>hlen z)]at hjl;have hq:j / size<L.length:=Nat.div_lt_of_lt_mul (by rw[Nat.mul_comm];exact hjl);obtain⟨z,hz⟩:∃ z,L[j / size]? = some z:=⟨_,List.getElem?_eq_getElem hq⟩;have hr:j % size<size:=Nat.mod_lt _ hs;have hj:j / size*size+j % size=j:=by rw[Nat.mul_comm];exact Nat.div_add_mod j size
   have h3:=L6 cells L (fun z _=>hlen z) (j / size) (j % size) z hz hr;rw[hj,hu]at h3;have h4:=(h2 (j / size) z hz).1 (j % size) u h3.symm;rw[aCx,aCx,Nat.add_assoc,hj]at h4;exact h4
  ·obtain⟨i,hi2,rfl⟩:=List.getElem_of_mem hz;exact (h2 i _ (List.getElem?_eq_getElem hi2)).2
theorem aLq{fuel:Nat}{cs:List Value}{x:DataW H × List MemPlace}(hl:cs.length=7)(h:DataW.trod enc prog W base sp hd fuel 27 cs=some x):∃ y:CoM,cs=y.cells/\dA W y.c y.m:=by
 obtain⟨ys,n',hn',hy,hlen,hyl,hg⟩:=DataW.trod_struct underlying27 h
 match cs,hl with
 | [c0,c1,c2,c3,c4,c5,c6],_ =>
  have hyl2:ys.length=7:=hyl;exact aGm
theorem aLr{fuel:Nat}{v:Value}{x:DataW H × List MemPlace}(h:DataW.trod enc prog W base sp hd fuel 28 [v]=some x):∃(A:Option Addr)(n c:Nat)(L:List CoM),v=.slice A n c/\pW W A n L/\n<=c/\n<=9223372036854775807:=by
 obtain⟨A,n,c,L,e,hl,hr,hx,hc,hb⟩:=aLp aK underlying28 aGj CoM.cells (fun y=>dA W y.c y.m) (fun a=>a.cells_len) (fun f cs x hl h=>aLq hl h) h;exact⟨A,n,c,L,e,⟨hl,hr,hx⟩,hc,hb⟩
theorem aLs{fuel:Nat}{cs:List Value}{x:DataW H × List MemPlace}(hl:cs.length=5)(h:DataW.trod enc prog W base sp hd fuel 23 cs=some x):∃ k:aj,cs=k.cells:=by
 obtain⟨ys,n',hn',hy,hlen,hyl,hg⟩:=DataW.trod_struct underlying23 h
 match cs,hl with
 | [c0,c1,c2,c3,c4],_ =>
  have hyl2:ys.length=5:=hyl;have h0:DataW.trod enc prog W base sp hd n' 3 [c0]=ys[0]?:=hg 0 _ rfl;have h1:DataW.trod enc prog W base sp hd n' 3 [c1]=ys[1]?:=hg 1 _ rfl;have h2:DataW.trod enc prog W base sp hd n' 9 [c2]=ys[2]?:=hg 2 _ rfl;have h3:DataW.trod enc prog W base sp hd n' 3 [c3]=ys[3]?:=hg 3 _ rfl;have h4:DataW.trod enc prog W base sp hd n' 3 [c4]=ys[4]?:=hg 4 _ rfl;rw[List.getElem?_eq_getElem aB]at h0 h1 h2 h3 h4;obtain⟨pa,e0,_⟩:=DataW.trod_int underlying3 h0;obtain⟨se,e1,_⟩:=DataW.trod_int underlying3 h1;obtain⟨sc,e2,_⟩:=DataW.trod_string underlying9 h2;obtain⟨fr,e3,_⟩:=DataW.trod_int underlying3 h3;obtain⟨ti,e4,_⟩:=DataW.trod_int underlying3 h4;injection e0 with e0;injection e1 with e1;injection e2 with e2;injection e3 with e3;injection e4 with e4
  subst e0 e1 e2 e3 e4;exact⟨⟨pa,se,sc,fr,ti⟩,rfl⟩
theorem aLt{r:Reach}{b0:Nat}{v:Value}{d:DataW H}{ps:List MemPlace}(hval:Value.okWide prog W r b0 23 v)(h:DataW.Trod enc prog W base sp hd 23 v d ps) :
  ∃ k:aj,v=k.val:=by
 obtain⟨cs,rfl,hsz⟩:=Go.WideShapes.okWide_struct underlying23 hval;obtain⟨l⟩:=cs;obtain⟨fuel,hf⟩:=h;obtain⟨k,e⟩:=aLs (hsz.trans aLo) hf;have e2:l=k.cells:=e;subst e2;exact⟨k,rfl⟩
theorem aLu{r:Reach}{b0:Nat}{v:Value}{d:DataW H}{ps:List MemPlace}(hval:Value.okWide prog W r b0 28 v)(h:DataW.Trod enc prog W base sp hd 28 v d ps) :
  ∃(A:Option Addr)(n c:Nat)(L:List CoM),v=.slice A n c/\pW W A n L/\n<=c/\n<=9223372036854775807:=by
 obtain⟨fuel,hf⟩:=h;obtain⟨A,n,c,rfl⟩:=Go.WideShapes.okWide_slice underlying28 hval;have hf2:DataW.trod enc prog W base sp hd fuel 28 [.slice A n c]=some (d,ps):=by simpa[Value.cells] using hf
 obtain⟨A',n',c',L,he,hr⟩:=aLr hf2;injection he with e1 e2 e3
 subst e1;subst e2;subst e3;exact⟨A,n,c,L,rfl,hr⟩
end
end Go.Proofs.YtlkbkclnbppigaaGreatDoor
