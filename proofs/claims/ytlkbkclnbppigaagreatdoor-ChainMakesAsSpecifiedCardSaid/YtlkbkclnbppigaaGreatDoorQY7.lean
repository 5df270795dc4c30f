/- What the rows of layer 25 ask of the world: the tables, the hash's constants (both), the library's two errors. -/
import Derived.Test.YtlkbkclnbppigaaGreatDoorQY6
namespace Go.Proofs.YtlkbkclnbppigaaGreatDoor
open _root_.Go.Proofs.Tryz _root_.Go.Proofs.YtlkbkclnbppigaaGreatDoor.Tryz
open Go.ChangeShapes Go.WideShapes Go.ChangeAt Go.RowKit Go.ChangeMaps
theorem aIu : "*" ++ "errors.errorString" = "*errors.errorString" := by decide
theorem aIv(u:TypeId)(h:prog.typeName? 3 u=some "*errors.errorString"):u=339 :=
 typeName_ptr_named (nm := "errors.errorString") (by rw[aIu];kernel_rfl) aG aK u (by rw[aIu];exact h)
def aIw(n:Nat):Obj->Obj
 | .cells _ t frozen=>.cells #[.iface 339 (.pointer (some ⟨n,0,none⟩))] t frozen
 | o=>o
noncomputable def aFl (os:Os):World :=
 { aDn os with heap:=((((((aDn os).heap.modify 0 (aBv .u32 Sha.ks)).modify 1 (aBv .u32 Sha.ks)).modify 5 (aIw (aDn os).heap.size)).modify 4 (aIw ((aDn os).heap.size+1))).push (.cells #[.string (⟨#[118,97,108,117,101,32,111,117,116,32,111,102,32,114,97,110,103,101]⟩:aC)] 341)).push (.cells #[.string (⟨#[105,110,118,97,108,105,100,32,115,121,110,116,97,120]⟩:aC)] 341) }
def ksI:List Int:=Sha.ks.map fun n:Nat=>(n:Int)
theorem aNz:(Rows.laid_weirgate_hash_constants:DataW Unit)=Lib.tabData .u32 ksI:=by kernel_rfl
theorem aOa{W:World}(h:Lib.TabIs prog W "weirgate/hash.constants" .u32 ksI):Ks W:=by
 unfold Lib.TabIs World.var? at h;rw[show prog.globalNamed "weirgate/hash.constants" = some 0 by kernel_rfl]at h;exact aIx
theorem aOb{W:World}{rest:List (String × DataW Unit)}(h5:laidMet prog (("strconv.ErrRange", Rows.laid_strconv_ErrRange) :: ("strconv.ErrSyntax", Rows.laid_strconv_ErrSyntax) :: ("weirgate/hash.constants", Rows.laid_weirgate_hash_constants) :: rest) W):jP W/\5<W.heap.size/\Ks W:=by
 have h6:=laidMet.tail h5;have h7:=laidMet.tail h6;obtain⟨a1,s1,v1,_,_,_⟩:=laid_sentinel (g:=5) (ti:=177) (tp:=339) (te:=341) (ts:=9) h5 aG aG underlying177 aIv underlying339 underlying341 rfl rfl underlying9 aG aG;obtain⟨a2,s2,v2,_,_,_⟩:=laid_sentinel (g:=4) (ti:=177) (tp:=339) (te:=341) (ts:=9) h6 aG aG underlying177 aIv underlying339 underlying341 rfl rfl underlying9 aG aG;have c1:=World.var?_cell (g:=5) aG v1 0;have c2:=World.var?_cell (g:=4) aG v2 0;rw[aNz]at h7;have hk:=aOa (Lib.tabIs_of_head (g:=0) aG aG underlying265 underlying147 aG aG h7);refine⟨⟨⟨_,c2,.inr ⟨_,_,rfl⟩⟩,_,c1,.inr ⟨_,_,rfl⟩⟩,?_,hk⟩;have:=bu c1;have:=bu c2;omega
theorem aOc:(Rows.laid_weirgate_weirgateref02_constants:DataW Unit)=Lib.tabData .u32 ksI:=by kernel_rfl
theorem aOd{W:World}(h:Lib.TabIs prog W "weirgate/weirgateref02.constants" .u32 ksI):Ks2 W:=by
 unfold Lib.TabIs World.var? at h;rw[show prog.globalNamed "weirgate/weirgateref02.constants" = some 1 by kernel_rfl]at h;exact aIx
theorem aOe{W:World}{d1 d2 d4:DataW Unit}{n1 n2 n4:String}{rest:List (String × DataW Unit)}(hS:W.ShapedOpen prog)(h:laidMet prog ((n1,d1) :: (n2,d2) :: ("internal/strconv.uint64pow10", Rows.laid_internal_strconv_uint64pow10) :: (n4,d4) :: ("weirgate/weirgateref02.constants", Rows.laid_weirgate_weirgateref02_constants) :: ("strconv.ErrRange", Rows.laid_strconv_ErrRange) :: ("strconv.ErrSyntax", Rows.laid_strconv_ErrSyntax) :: ("weirgate/hash.constants", Rows.laid_weirgate_hash_constants) :: rest) W):gz W/\Ks2 W:=by
 have h4:=laidMet.tail (laidMet.tail (laidMet.tail (laidMet.tail h)));have h5:=aOb (laidMet.tail h4);rw[aOc]at h4;exact⟨⟨aNt hS,aNy h,h5.2.2,h5.1,h5.2.1⟩,aOd (Lib.tabIs_of_head (g:=1) aG aG underlying265 underlying147 aG aG h4)⟩
end Go.Proofs.YtlkbkclnbppigaaGreatDoor
namespace Go.Proofs.YtlkbkclnbppigaaGreatDoor
open _root_.Go.Proofs.Tryz _root_.Go.Proofs.YtlkbkclnbppigaaGreatDoor.Tryz
open Go.RowKit Go.Sort
set_option linter.unusedVariables false
set_option linter.unusedSimpArgs false
set_option maxRecDepth 100000
theorem aOf:prog.cellsOf 9=1:=by kernel_rfl
theorem aOg:prog.cellsOf 3=1:=by kernel_rfl
theorem aIy:prog.cellsOf 27=7:=by kernel_rfl
theorem aCo{α:Type}{p:Nat->α->Prop}:∀ n:Nat,(∀ i,i<n->∃ x,p i x)->∃ l:List α,l.length=n/\∀ i x,l[i]? = some x->p i x
 | 0,_=>⟨[],rfl,fun i x h=>nG⟩
 | n+1,h=>by
  obtain⟨l,h1,h2⟩:=aCo n (fun i hi=>h i aB);obtain⟨x,hx⟩:=h n aB;refine⟨l++[x],by simp[h1],fun i y hy=>?_⟩;rw[List.getElem?_append]at hy;split at hy
  ·exact h2 i y hy
  ·rename_i hn;have hlt:=(List.getElem?_eq_some_iff.1 hy).1;simp at hlt;have:i=n:=aB;subst this;rw[h1]at hy;simp at hy;subst hy;exact hx
theorem aFm{w:World}{a:Addr}{v:Value}(h:w.cell? (a.add 0)=some v):∃ b o,a=⟨b,o,none⟩:=by
 obtain⟨b,o,s⟩:=a;refine⟨b,o,?_⟩;have e:(⟨b,o,s⟩:Addr).add 0=⟨b,o,s⟩:=by simp[Addr.add]
 rw[e]at h;cases s with
 | none=>rfl
 | some s =>
  unfold World.cell? at h;split at h <;> simp at h
theorem aDo(b o j:Nat):(⟨b,o,none⟩:Addr).add j=⟨b,o+j,none⟩:=by
 unfold Addr.add;split <;> simp_all
section
variable {H:Type} {enc:TypeId × Value->H} {W:World} {base:Nat} {sp:Nat->Bool} {hd:Bool}
theorem aIz{fuel:Nat}{v:Value}{x:DataW H × List MemPlace}(h:DataW.trod enc prog W base sp hd fuel 24 [v]=some x):∃(A:Option Addr)(n c:Nat)(xs:List aC),v=.slice A n c/\xs.length=n/\aI W 1 A n (xs.map .string):=by
 rcases Go.Deep.open_slice underlying24 h with ⟨h0,_⟩ | ⟨a,len,cap,m,n,D,Pl,hcs,hb,hl,hm,hmm,hx,hi⟩
 ·exact aJa
 ·injection hcs with hcs
  subst hcs;have hlm:len<=m:=by rw[hmm];split <;> omega
  obtain⟨xs,h1,h2⟩:=aCo (p:=fun i (s:aC)=>W.cell? (a.add i)=some (.string s)) len (fun i hil=>by
   obtain⟨cs',hc,ht⟩:=hi i aB;rw[aOf,Nat.mul_one]at hc;obtain⟨s,rfl,_,hs⟩:=DataW.trod_string underlying9 ht;have:=(World.cells?_some hc).2.2 0 aB;exact⟨s,by simpa[Addr.add] using this⟩)
  refine⟨some a,len,cap,xs,rfl,h1,⟨by simp[h1],fun hn=>?_⟩⟩;obtain⟨s0,hs0⟩:∃ s,xs[0]? = some s:=⟨_,List.getElem?_eq_getElem aB⟩;obtain⟨b,o,rfl⟩:=aFm (h2 0 s0 hs0);refine⟨b,o,rfl,fun j u hu=>?_⟩;obtain⟨s,hs,rfl⟩:=pG hu;rw[<-aDo];exact h2 j s hs
theorem aOh{fuel:Nat}{v:Value}{x:DataW H × List MemPlace}(h:DataW.trod enc prog W base sp hd fuel 25 [v]=some x):∃(A:Option Addr)(n c:Nat)(xs:List Int),v=.slice A n c/\xs.length=n/\aI W 1 A n (xs.map (.int .i64)):=by
 rcases Go.Deep.open_slice underlying25 h with ⟨h0,_⟩ | ⟨a,len,cap,m,n,D,Pl,hcs,hb,hl,hm,hmm,hx,hi⟩
 ·exact aJa
 ·injection hcs with hcs
  subst hcs;have hlm:len<=m:=by rw[hmm];split <;> omega
  obtain⟨xs,h1,h2⟩:=aCo (p:=fun i (s:Int)=>W.cell? (a.add i)=some (.int .i64 s)) len (fun i hil=>by
   obtain⟨cs',hc,ht⟩:=hi i aB;rw[aOg,Nat.mul_one]at hc;obtain⟨s,rfl,_,hs⟩:=DataW.trod_int underlying3 ht;have:=(World.cells?_some hc).2.2 0 aB;exact⟨s,by simpa[Addr.add] using this⟩)
  refine⟨some a,len,cap,xs,rfl,h1,⟨by simp[h1],fun hn=>?_⟩⟩;obtain⟨s0,hs0⟩:∃ s,xs[0]? = some s:=⟨_,List.getElem?_eq_getElem aB⟩;obtain⟨b,o,rfl⟩:=aFm (h2 0 s0 hs0);refine⟨b,o,rfl,fun j u hu=>?_⟩;obtain⟨s,hs,rfl⟩:=aKz hu;rw[<-aDo];exact h2 j s hs
theorem aOi{r:Reach}{b0:Nat}{v:Value}{d:DataW H}{ps:List MemPlace}(hval:Value.okWide prog W r b0 27 v)(h:DataW.Trod enc prog W base sp hd 27 v d ps) :
  ∃(c:aY)(m:ae),v=ae.val c m/\dA W c m:=by
 obtain⟨cs,rfl,hsz⟩:=Go.WideShapes.okWide_struct underlying27 hval;obtain⟨l⟩:=cs
 match l,hsz.trans aIy with
 | [c0,c1,c2,c3,c4,c5,c6],_ =>
  obtain⟨fuel,hf⟩:=h;obtain⟨ys,n',hn',hy,hlen,hyl,hg⟩:=DataW.trod_struct underlying27 hf;have hyl2:ys.length=7:=hyl;have hone:∀ t,prog.cellsOf t=1->∀ i,i<7->∀ y,List.take (prog.cellsOf t) (List.drop i [c0,c1,c2,c3,c4,c5,c6])=y->List.take 1 (List.drop i [c0,c1,c2,c3,c4,c5,c6])=y:=fun t ht i _ y hy=>by rw[<-ht];exact hy
  exact aJb
end
theorem aOj:prog.cellsOf 5=1:=by kernel_rfl
theorem aOk:prog.cellsOf 23=5:=by kernel_rfl
theorem aOl:prog.cellsOf 32=20:=by kernel_rfl
theorem aJc{n:Int}(h:(Lit.int .u8 n).wf=true):0<=n/\n<=255:=by
 unfold Lit.wf at h;simp only[Bool.and_eq_true,decide_eq_true_eq]at h;have h1:IntKind.u8.min=0:=rfl;have h2:IntKind.u8.max=255:=rfl;omega
theorem aOm{n:Int}(h:(Lit.int .u8 n).wf=true):∃ j:Nat,n=(j:Int)/\j<256:=⟨n.toNat,by have:=aJc h;omega,by have:=aJc h;omega⟩
section
variable {H:Type} {enc:TypeId × Value->H} {W:World} {base:Nat} {sp:Nat->Bool} {hd:Bool}
theorem aOn{α:Type}{t e:TypeId}{size:Nat}(hs:0<size)(ht:prog.underlying t=some (.slice e))(hc:prog.cellsOf e=size)(cells:α->List Value)(R:α->Prop)(hlen:∀ a,(cells a).length=size)
  (hrow:∀ fuel cs x,cs.length=size->DataW.trod enc prog W base sp hd fuel e cs=some x->∃ a,cs=cells a/\R a) {fuel:Nat} {v:Value} {x:DataW H × List MemPlace} (h:DataW.trod enc prog W base sp hd fuel t [v]=some x) :
  ∃(A:Option Addr)(n c:Nat)(L:List α),v=.slice A n c/\L.length=n/\aI W size A n (L.flatMap cells)/\(∀ a∈L,R a)/\n<=c/\n<=9223372036854775807:=by
 rcases Go.Deep.open_slice ht h with ⟨h0,_⟩ | ⟨a,len,cap,m,n,D,Pl,hcs,hb,hl,hm,hmm,hx,hi⟩
 ·injection h0 with h0
  subst h0;exact⟨none,0,0,[],rfl,rfl,aI.nil_ _ _ _,fun a ha=>by (cases ha),aB,aB⟩
 ·injection hcs with hcs
  subst hcs;have hlm:len<=m:=by rw[hmm];split <;> omega
  have hbound:len<=9223372036854775807:=by unfold maxLen at hm;omega
  obtain⟨L,h1,h2⟩:=aCo (p:=fun i (z:α)=>(∀ j u,(cells z)[j]? = some u->W.cell? ((a.add (i*size)).add j)=some u)/\R z) len (fun i hil=>by
   obtain⟨cs',hcc,ht'⟩:=hi i aB;rw[hc]at hcc;obtain⟨_,hcl,hat⟩:=World.cells?_some hcc;obtain⟨z,rfl,hz⟩:=hrow _ _ _ hcl ht';refine⟨z,fun j u hu=>?_,hz⟩;have hj:=(List.getElem?_eq_some_iff.1 hu).1;rw[hlen z]at hj;rw[hat j hj];exact hu)
  refine⟨some a,len,cap,L,rfl,h1,⟨by rw[Lu cells L (fun z _=>hlen z),h1],fun hn=>?_⟩,fun z hz=>?_,aB,hbound⟩
  ·obtain⟨z0,hz0⟩:∃ z,L[0]? = some z:=⟨_,List.getElem?_eq_getElem aB⟩;have hu0:(cells z0)[0]? = some ((cells z0)[0]'(by rw[hlen];exact hs)):=List.getElem?_eq_getElem _;obtain⟨b,o,rfl⟩:=aFm (a:=a) (w:=W) (by have:=(h2 0 z0 hz0).1 0 _ hu0;simpa[Addr.add] using this);refine⟨b,o,rfl,fun j u hu=>?_⟩;have hjl:=(List.getElem?_eq_some_iff.1 hu).1;rw[Lu cells L (fun z _=>hlen z)]at hjl;have hq:j / size<L.length:=Nat.div_lt_of_lt_mul (by rw[Nat.mul_comm];exact hjl);obtain⟨z,hz⟩:∃ z,L[j / size]? = some z:=⟨_,List.getElem?_eq_getElem hq⟩;have hr:j % size<size:=Nat.mod_lt _ hs;have hj:j / size*size+j % size=j:=by rw[Nat.mul_comm];exact Nat.div_add_mod j size
   have h3:=L6 cells L (fun z _=>hlen z) (j / size) (j % size) z hz hr;rw[hj,hu]at h3;have h4:=(h2 (j / size) z hz).1 (j % size) u h3.symm;rw[aDo,aDo,Nat.add_assoc,hj]at h4;exact h4
  ·obtain⟨i,hi2,rfl⟩:=List.getElem_of_mem hz;exact (h2 i _ (List.getElem?_eq_getElem hi2)).2
theorem aOo{fuel:Nat}{cs:List Value}{x:DataW H × List MemPlace}(hl:cs.length=7)(h:DataW.trod enc prog W base sp hd fuel 27 cs=some x):∃ y:CoM,cs=y.cells/\dA W y.c y.m:=by
 obtain⟨ys,n',hn',hy,hlen,hyl,hg⟩:=DataW.trod_struct underlying27 h
 match cs,hl with
 | [c0,c1,c2,c3,c4,c5,c6],_ =>
  have hyl2:ys.length=7:=hyl;exact aJb
theorem aOp{fuel:Nat}{v:Value}{x:DataW H × List MemPlace}(h:DataW.trod enc prog W base sp hd fuel 28 [v]=some x):∃(A:Option Addr)(n c:Nat)(L:List CoM),v=.slice A n c/\pW W A n L/\n<=c/\n<=9223372036854775807:=by
 obtain⟨A,n,c,L,e,hl,hr,hx,hc,hb⟩:=aOn aK underlying28 aIy CoM.cells (fun y=>dA W y.c y.m) (fun a=>a.cells_len) (fun f cs x hl h=>aOo hl h) h;exact⟨A,n,c,L,e,⟨hl,hr,hx⟩,hc,hb⟩
theorem aOq{fuel:Nat}{cs:List Value}{x:DataW H × List MemPlace}(hl:cs.length=5)(h:DataW.trod enc prog W base sp hd fuel 23 cs=some x):∃ k:aj,cs=k.cells:=by
 obtain⟨ys,n',hn',hy,hlen,hyl,hg⟩:=DataW.trod_struct underlying23 h
 match cs,hl with
 | [c0,c1,c2,c3,c4],_ =>
  have hyl2:ys.length=5:=hyl;have h0:DataW.trod enc prog W base sp hd n' 3 [c0]=ys[0]?:=hg 0 _ rfl;have h1:DataW.trod enc prog W base sp hd n' 3 [c1]=ys[1]?:=hg 1 _ rfl;have h2:DataW.trod enc prog W base sp hd n' 9 [c2]=ys[2]?:=hg 2 _ rfl;have h3:DataW.trod enc prog W base sp hd n' 3 [c3]=ys[3]?:=hg 3 _ rfl;have h4:DataW.trod enc prog W base sp hd n' 3 [c4]=ys[4]?:=hg 4 _ rfl;rw[List.getElem?_eq_getElem aB]at h0 h1 h2 h3 h4;obtain⟨pa,e0,_⟩:=DataW.trod_int underlying3 h0;obtain⟨se,e1,_⟩:=DataW.trod_int underlying3 h1;obtain⟨sc,e2,_⟩:=DataW.trod_string underlying9 h2;obtain⟨fr,e3,_⟩:=DataW.trod_int underlying3 h3;obtain⟨ti,e4,_⟩:=DataW.trod_int underlying3 h4;injection e0 with e0;injection e1 with e1;injection e2 with e2;injection e3 with e3;injection e4 with e4
  subst e0 e1 e2 e3 e4;exact⟨⟨pa,se,sc,fr,ti⟩,rfl⟩
theorem aOr{l:List Value}{s:List Nat}(hl:l.length=s.length)(h:∀(i n:Nat),s[i]? = some n->l[i]? = some (Value.int .u8 (n:Int))):l=b8 s:=by
 apply List.ext_getElem?;intro i;unfold b8;rw[List.getElem?_map];cases hs:s[i]? with
 | none =>
  have:=List.getElem?_eq_none_iff.1 hs;rw[List.getElem?_eq_none aB];rfl
 | some n=>rw[h i n hs];rfl
theorem aOs{fuel:Nat}{l:List Value}{x:DataW H × List MemPlace}(hl:l.length=16)(h:DataW.trod enc prog W base sp hd fuel 30 l=some x):∃ s:List Nat,dm s/\l=b8 s:=by
 obtain⟨xs,m,_,_,_,hxl,hg⟩:=DataW.trod_array underlying30 h;obtain⟨s,h1,h2⟩:=aCo (p:=fun i (n:Nat)=>n<256/\l[i]? = some (.int .u8 (n:Int))) 16 (fun i hi=>by
  have hh:=hg i hi;rw[aOj,Nat.mul_one,List.getElem?_eq_getElem aB]at hh;obtain⟨n,e,hw⟩:=DataW.trod_int underlying5 hh;have h0:((l.drop i).take 1)[0]? = some (.int .u8 n):=by rw[e];rfl
  rw[List.getElem?_take_of_lt aB,List.getElem?_drop]at h0;obtain⟨j,rfl,hj⟩:=aOm hw.2;exact⟨j,hj,h0⟩)
 refine⟨s,⟨h1,fun n hn=>?_⟩,aOr (hl.trans h1.symm) fun i n hn=>(h2 i n hn).2⟩;obtain⟨i,hi,rfl⟩:=List.getElem_of_mem hn;exact (h2 i _ (List.getElem?_eq_getElem hi)).1
theorem aOt{r:Reach}{b0:Nat}{v:Value}{d:DataW H}{ps:List MemPlace}(hval:Value.okWide prog W r b0 23 v)(h:DataW.Trod enc prog W base sp hd 23 v d ps) :
  ∃ k:aj,v=k.val:=by
 obtain⟨cs,rfl,hsz⟩:=Go.WideShapes.okWide_struct underlying23 hval;obtain⟨l⟩:=cs;obtain⟨fuel,hf⟩:=h;obtain⟨k,e⟩:=aOq (hsz.trans aOk) hf;have e2:l=k.cells:=e;subst e2;exact⟨k,rfl⟩
theorem aOu{r:Reach}{b0:Nat}{v:Value}{d:DataW H}{ps:List MemPlace}(hval:Value.okWide prog W r b0 32 v)(h:DataW.Trod enc prog W base sp hd 32 v d ps) :
  ∃ x:ah,v=x.val/\bZ W x/\x.t.conds.length<=9223372036854775807:=by
 obtain⟨cs,rfl,hsz⟩:=Go.WideShapes.okWide_struct underlying32 hval;obtain⟨l⟩:=cs;have hsz2:l.length=20:=hsz.trans aOl;obtain⟨fuel,hf⟩:=h;obtain⟨ys,n',hn',hy,hlen,hyl,hg⟩:=DataW.trod_struct underlying32 hf;have hyl2:ys.length=5:=hyl
 match l,hsz2 with
 | c0 :: c1 :: c2 :: c3 :: x0 :: x1 :: x2 :: x3 :: x4 :: x5 :: x6 :: x7 :: x8 :: x9 :: x10 :: x11 :: x12 :: x13 :: x14 :: x15 :: [],_ =>
  have h0:DataW.trod enc prog W base sp hd n' 3 [c0]=ys[0]?:=hg 0 _ rfl;have h1:DataW.trod enc prog W base sp hd n' 3 [c1]=ys[1]?:=hg 1 _ rfl;have h2:DataW.trod enc prog W base sp hd n' 9 [c2]=ys[2]?:=hg 2 _ rfl;have h3:DataW.trod enc prog W base sp hd n' 28 [c3]=ys[3]?:=hg 3 _ rfl;have h4:DataW.trod enc prog W base sp hd n' 30 [x0,x1,x2,x3,x4,x5,x6,x7,x8,x9,x10,x11,x12,x13,x14,x15]=ys[4]?:=hg 4 _ rfl;rw[List.getElem?_eq_getElem aB]at h0 h1 h2 h3 h4;obtain⟨cu,e0,_⟩:=DataW.trod_int underlying3 h0;obtain⟨se,e1,_⟩:=DataW.trod_int underlying3 h1;obtain⟨id,e2,_⟩:=DataW.trod_string underlying9 h2;obtain⟨A,n,c,L,e3,hr,hc,hb⟩:=aOp h3;obtain⟨s,hs,e4⟩:=aOs rfl h4;injection e0 with e0;injection e1 with e1;injection e2 with e2
  subst e0 e1 e2 e3;have hl:(L.map (·.c)).length=n:=by rw[List.length_map];exact hr.len
  subst hl;refine⟨⟨⟨cu,se,id,L.map (·.c),s⟩,A,c,L⟩,?_,⟨rfl,hr,hs,hc⟩,hb⟩;unfold ah.val ah.cells bn;rw[<-e4];rfl
end
end Go.Proofs.YtlkbkclnbppigaaGreatDoor
