/- An argument that is a condition, or an ask, opened: what it reads as. -/
import Derived.Test.YtlkbkclnbppigaaGreatDoorRY4
namespace Go.Proofs.YtlkbkclnbppigaaGreatDoor
open Go.RowKit Go.Sort
set_option linter.unusedVariables false
set_option linter.unusedSimpArgs false
set_option maxRecDepth 100000
theorem cellsS:Tryz.prog.cellsOf 9=1:=by kernel_rfl
theorem cellsI:Tryz.prog.cellsOf 3=1:=by kernel_rfl
theorem cellsCo:Tryz.prog.cellsOf 27=7:=by kernel_rfl
theorem list_of {α:Type} {p:Nat→α→Prop}:∀ n:Nat,(∀ i,i<n→∃ x,p i x)→∃ l:List α,l.length=n∧∀ i x,l[i]? = some x→p i x
 | 0,_=>⟨[],rfl,fun i x h=>by simp at h⟩
 | n+1,h=>by
  obtain⟨l,h1,h2⟩:=list_of n (fun i hi=>h i (by omega))
  obtain⟨x,hx⟩:=h n (by omega)
  refine⟨l++[x],by simp[h1],fun i y hy=>?_⟩
  rw[List.getElem?_append]at hy
  split at hy
  ·exact h2 i y hy
  ·rename_i hn
   have hlt:=(List.getElem?_eq_some_iff.1 hy).1
   simp at hlt
   have:i=n:=by omega
   subst this
   rw[h1]at hy
   simp at hy
   subst hy
   exact hx
theorem plain_addr {w:World} {a:Addr} {v:Value} (h:w.cell? (a.add 0)=some v):∃ b o,a=⟨b,o,none⟩:=by
 obtain⟨b,o,s⟩:=a
 refine⟨b,o,?_⟩
 have e:(⟨b,o,s⟩:Addr).add 0=⟨b,o,s⟩:=by simp[Addr.add]
 rw[e]at h
 cases s with
 | none=>rfl
 | some s =>
  unfold World.cell? at h
  split at h <;> simp at h
theorem add_plain (b o j:Nat):(⟨b,o,none⟩:Addr).add j=⟨b,o+j,none⟩:=by
 unfold Addr.add;split <;> simp_all
section
variable {H:Type} {enc:TypeId × Value→H} {W:World} {base:Nat} {sp:Nat→Bool} {hd:Bool}
theorem strs_reads {fuel:Nat} {v:Value} {x:DataW H × List MemPlace} (h:DataW.trod enc Tryz.prog W base sp hd fuel 24 [v]=some x):∃ (A:Option Addr) (n c:Nat) (xs:List aC),v=.slice A n c∧xs.length=n∧aI W 1 A n (xs.map .string):=by
 rcases Go.Deep.open_slice Tryz.underlying24 h with ⟨h0,_⟩ | ⟨a,len,cap,m,n,D,Pl,hcs,hb,hl,hm,hmm,hx,hi⟩
 ·injection h0 with h0
  subst h0
  exact⟨none,0,0,[],rfl,rfl,aI.nil_ _ _ _⟩
 ·injection hcs with hcs
  subst hcs
  have hlm:len≤m:=by rw[hmm];split <;> omega
  obtain⟨xs,h1,h2⟩:=list_of (p:=fun i (s:aC)=>W.cell? (a.add i)=some (.string s)) len (fun i hil=>by
   obtain⟨cs',hc,ht⟩:=hi i (by omega)
   rw[cellsS,Nat.mul_one]at hc
   obtain⟨s,rfl,_,hs⟩:=DataW.trod_string Tryz.underlying9 ht
   have:=(World.cells?_some hc).2.2 0 (by omega)
   exact⟨s,by simpa[Addr.add] using this⟩)
  refine⟨some a,len,cap,xs,rfl,h1,⟨by simp[h1],fun hn=>?_⟩⟩
  obtain⟨s0,hs0⟩:∃ s,xs[0]? = some s:=⟨_,List.getElem?_eq_getElem (by omega)⟩
  obtain⟨b,o,rfl⟩:=plain_addr (h2 0 s0 hs0)
  refine⟨b,o,rfl,fun j u hu=>?_⟩
  obtain⟨s,hs,rfl⟩:=pG hu
  rw[←add_plain]
  exact h2 j s hs
theorem ints_reads {fuel:Nat} {v:Value} {x:DataW H × List MemPlace} (h:DataW.trod enc Tryz.prog W base sp hd fuel 25 [v]=some x):∃ (A:Option Addr) (n c:Nat) (xs:List Int),v=.slice A n c∧xs.length=n∧aI W 1 A n (xs.map (.int .i64)):=by
 rcases Go.Deep.open_slice Tryz.underlying25 h with ⟨h0,_⟩ | ⟨a,len,cap,m,n,D,Pl,hcs,hb,hl,hm,hmm,hx,hi⟩
 ·injection h0 with h0
  subst h0
  exact⟨none,0,0,[],rfl,rfl,aI.nil_ _ _ _⟩
 ·injection hcs with hcs
  subst hcs
  have hlm:len≤m:=by rw[hmm];split <;> omega
  obtain⟨xs,h1,h2⟩:=list_of (p:=fun i (s:Int)=>W.cell? (a.add i)=some (.int .i64 s)) len (fun i hil=>by
   obtain⟨cs',hc,ht⟩:=hi i (by omega)
   rw[cellsI,Nat.mul_one]at hc
   obtain⟨s,rfl,_,hs⟩:=DataW.trod_int Tryz.underlying3 ht
   have:=(World.cells?_some hc).2.2 0 (by omega)
   exact⟨s,by simpa[Addr.add] using this⟩)
  refine⟨some a,len,cap,xs,rfl,h1,⟨by simp[h1],fun hn=>?_⟩⟩
  obtain⟨s0,hs0⟩:∃ s,xs[0]? = some s:=⟨_,List.getElem?_eq_getElem (by omega)⟩
  obtain⟨b,o,rfl⟩:=plain_addr (h2 0 s0 hs0)
  refine⟨b,o,rfl,fun j u hu=>?_⟩
  obtain⟨s,hs,rfl⟩:=ints_at hu
  rw[←add_plain]
  exact h2 j s hs
end
theorem cellsU8:Tryz.prog.cellsOf 5=1:=by kernel_rfl
theorem cellsTo:Tryz.prog.cellsOf 32=20:=by kernel_rfl
theorem u8_range {n:Int} (h:(Lit.int .u8 n).wf=true):0≤n∧n≤255:=by
 unfold Lit.wf at h
 simp only[Bool.and_eq_true,decide_eq_true_eq]at h
 have h1:IntKind.u8.min=0:=rfl
 have h2:IntKind.u8.max=255:=rfl
 omega
theorem u8_nat {n:Int} (h:(Lit.int .u8 n).wf=true):∃ j:Nat,n=(j:Int)∧j<256:=⟨n.toNat,by have:=u8_range h;omega,by have:=u8_range h;omega⟩
section
variable {H:Type} {enc:TypeId × Value→H} {W:World} {base:Nat} {sp:Nat→Bool} {hd:Bool}
theorem rows25 {α:Type} {t e:TypeId} {size:Nat} (hs:0<size) (ht:Tryz.prog.underlying t=some (.slice e)) (hc:Tryz.prog.cellsOf e=size) (cells:α→List Value) (R:α→Prop) (hlen:∀ a,(cells a).length=size)
  (hrow:∀ fuel cs x,cs.length=size→DataW.trod enc Tryz.prog W base sp hd fuel e cs=some x→∃ a,cs=cells a∧R a) {fuel:Nat} {v:Value} {x:DataW H × List MemPlace} (h:DataW.trod enc Tryz.prog W base sp hd fuel t [v]=some x) :
  ∃ (A:Option Addr) (n c:Nat) (L:List α),v=.slice A n c∧L.length=n∧aI W size A n (L.flatMap cells)∧(∀ a∈L,R a)∧n≤c∧n≤9223372036854775807:=by
 rcases Go.Deep.open_slice ht h with ⟨h0,_⟩ | ⟨a,len,cap,m,n,D,Pl,hcs,hb,hl,hm,hmm,hx,hi⟩
 ·injection h0 with h0
  subst h0
  exact⟨none,0,0,[],rfl,rfl,aI.nil_ _ _ _,fun a ha=>by (cases ha),by omega,by omega⟩
 ·injection hcs with hcs
  subst hcs
  have hlm:len≤m:=by rw[hmm];split <;> omega
  have hbound:len≤9223372036854775807:=by unfold maxLen at hm;omega
  obtain⟨L,h1,h2⟩:=list_of (p:=fun i (z:α)=>(∀ j u,(cells z)[j]? = some u→W.cell? ((a.add (i*size)).add j)=some u)∧R z) len (fun i hil=>by
   obtain⟨cs',hcc,ht'⟩:=hi i (by omega)
   rw[hc]at hcc
   obtain⟨_,hcl,hat⟩:=World.cells?_some hcc
   obtain⟨z,rfl,hz⟩:=hrow _ _ _ hcl ht'
   refine⟨z,fun j u hu=>?_,hz⟩
   have hj:=(List.getElem?_eq_some_iff.1 hu).1
   rw[hlen z]at hj
   rw[hat j hj];exact hu)
  refine⟨some a,len,cap,L,rfl,h1,⟨by rw[Lu cells L (fun z _=>hlen z),h1],fun hn=>?_⟩,fun z hz=>?_,by omega,hbound⟩
  ·obtain⟨z0,hz0⟩:∃ z,L[0]? = some z:=⟨_,List.getElem?_eq_getElem (by omega)⟩
   have hu0:(cells z0)[0]? = some ((cells z0)[0]'(by rw[hlen];exact hs)):=List.getElem?_eq_getElem _
   obtain⟨b,o,rfl⟩:=plain_addr (a:=a) (w:=W) (by have:=(h2 0 z0 hz0).1 0 _ hu0;simpa[Addr.add] using this)
   refine⟨b,o,rfl,fun j u hu=>?_⟩
   have hjl:=(List.getElem?_eq_some_iff.1 hu).1
   rw[Lu cells L (fun z _=>hlen z)]at hjl
   have hq:j / size<L.length:=Nat.div_lt_of_lt_mul (by rw[Nat.mul_comm];exact hjl)
   obtain⟨z,hz⟩:∃ z,L[j / size]? = some z:=⟨_,List.getElem?_eq_getElem hq⟩
   have hr:j % size<size:=Nat.mod_lt _ hs
   have hj:j / size*size+j % size=j:=by rw[Nat.mul_comm];exact Nat.div_add_mod j size
   have h3:=L6 cells L (fun z _=>hlen z) (j / size) (j % size) z hz hr
   rw[hj,hu]at h3
   have h4:=(h2 (j / size) z hz).1 (j % size) u h3.symm
   rw[add_plain,add_plain,Nat.add_assoc,hj]at h4
   exact h4
  ·obtain⟨i,hi2,rfl⟩:=List.getElem_of_mem hz
   exact (h2 i _ (List.getElem?_eq_getElem hi2)).2
theorem co_row {fuel:Nat} {cs:List Value} {x:DataW H × List MemPlace} (hl:cs.length=7) (h:DataW.trod enc Tryz.prog W base sp hd fuel 27 cs=some x):∃ y:CoM,cs=y.cells∧dA W y.c y.m:=by
 obtain⟨ys,n',hn',hy,hlen,hyl,hg⟩:=DataW.trod_struct Tryz.underlying27 h
 match cs,hl with
 | [c0,c1,c2,c3,c4,c5,c6],_ =>
  have hyl2:ys.length=7:=hyl
  have h0:DataW.trod enc Tryz.prog W base sp hd n' 3 [c0]=ys[0]?:=hg 0 _ rfl
  have h1:DataW.trod enc Tryz.prog W base sp hd n' 3 [c1]=ys[1]?:=hg 1 _ rfl
  have h2:DataW.trod enc Tryz.prog W base sp hd n' 9 [c2]=ys[2]?:=hg 2 _ rfl
  have h3:DataW.trod enc Tryz.prog W base sp hd n' 24 [c3]=ys[3]?:=hg 3 _ rfl
  have h4:DataW.trod enc Tryz.prog W base sp hd n' 24 [c4]=ys[4]?:=hg 4 _ rfl
  have h5:DataW.trod enc Tryz.prog W base sp hd n' 25 [c5]=ys[5]?:=hg 5 _ rfl
  have h6:DataW.trod enc Tryz.prog W base sp hd n' 3 [c6]=ys[6]?:=hg 6 _ rfl
  rw[List.getElem?_eq_getElem (by omega)]at h0 h1 h2 h3 h4 h5 h6
  obtain⟨fr,e0,_⟩:=DataW.trod_int Tryz.underlying3 h0
  obtain⟨till,e1,_⟩:=DataW.trod_int Tryz.underlying3 h1
  obtain⟨pat,e2,_⟩:=DataW.trod_string Tryz.underlying9 h2
  obtain⟨us,e6,_⟩:=DataW.trod_int Tryz.underlying3 h6
  obtain⟨A,na,ca,cl,rfl,l1,r1⟩:=strs_reads h3
  obtain⟨B,nb,cb,co,rfl,l2,r2⟩:=strs_reads h4
  obtain⟨S,ns,cs,si,rfl,l3,r3⟩:=ints_reads h5
  injection e0 with e0
  injection e1 with e1
  injection e2 with e2
  injection e6 with e6
  subst e0;subst e1;subst e2;subst e6;subst l1;subst l2;subst l3
  exact⟨⟨⟨fr,till,pat,cl,co,si,us⟩,⟨A,ca,B,cb,S,cs⟩⟩,rfl,⟨r1,r2,r3⟩⟩
theorem conds_in {fuel:Nat} {v:Value} {x:DataW H × List MemPlace} (h:DataW.trod enc Tryz.prog W base sp hd fuel 28 [v]=some x):∃ (A:Option Addr) (n c:Nat) (L:List CoM),v=.slice A n c∧pW W A n L∧n≤c∧n≤9223372036854775807:=by
 obtain⟨A,n,c,L,e,hl,hr,hx,hc,hb⟩:=rows25 (by decide) Tryz.underlying28 cellsCo CoM.cells (fun y=>dA W y.c y.m) (fun a=>a.cells_len) (fun f cs x hl h=>co_row hl h) h
 exact⟨A,n,c,L,e,⟨hl,hr,hx⟩,hc,hb⟩
theorem b8_list {l:List Value} {s:List Nat} (hl:l.length=s.length) (h:∀ (i n:Nat),s[i]? = some n→l[i]? = some (Value.int .u8 (n:Int))):l=b8 s:=by
 apply List.ext_getElem?
 intro i
 unfold b8
 rw[List.getElem?_map]
 cases hs:s[i]? with
 | none =>
  have:=List.getElem?_eq_none_iff.1 hs
  rw[List.getElem?_eq_none (by omega)];rfl
 | some n=>rw[h i n hs];rfl
theorem seal_in {fuel:Nat} {l:List Value} {x:DataW H × List MemPlace} (hl:l.length=16) (h:DataW.trod enc Tryz.prog W base sp hd fuel 30 l=some x):∃ s:List Nat,dm s∧l=b8 s:=by
 obtain⟨xs,m,_,_,_,hxl,hg⟩:=DataW.trod_array Tryz.underlying30 h
 obtain⟨s,h1,h2⟩:=list_of (p:=fun i (n:Nat)=>n<256∧l[i]? = some (.int .u8 (n:Int))) 16 (fun i hi=>by
  have hh:=hg i hi
  rw[cellsU8,Nat.mul_one,List.getElem?_eq_getElem (by omega)]at hh
  obtain⟨n,e,hw⟩:=DataW.trod_int Tryz.underlying5 hh
  have h0:((l.drop i).take 1)[0]? = some (.int .u8 n):=by rw[e];rfl
  rw[List.getElem?_take_of_lt (by omega),List.getElem?_drop]at h0
  obtain⟨j,rfl,hj⟩:=u8_nat hw.2
  exact⟨j,hj,h0⟩)
 refine⟨s,⟨h1,fun n hn=>?_⟩,b8_list (hl.trans h1.symm) fun i n hn=>(h2 i n hn).2⟩
 obtain⟨i,hi,rfl⟩:=List.getElem_of_mem hn
 exact (h2 i _ (List.getElem?_eq_getElem hi)).1
theorem open_tok {r:Reach} {b0:Nat} {v:Value} {d:DataW H} {ps:List MemPlace} (hval:Value.okWide Tryz.prog W r b0 32 v) (h:DataW.Trod enc Tryz.prog W base sp hd 32 v d ps) :
  ∃ x:ah,v=x.val∧bZ W x∧x.t.conds.length≤9223372036854775807:=by
 obtain⟨cs,rfl,hsz⟩:=Go.WideShapes.okWide_struct Tryz.underlying32 hval
 obtain⟨l⟩:=cs
 have hsz2:l.length=20:=hsz.trans cellsTo
 obtain⟨fuel,hf⟩:=h
 obtain⟨ys,n',hn',hy,hlen,hyl,hg⟩:=DataW.trod_struct Tryz.underlying32 hf
 have hyl2:ys.length=5:=hyl
 match l,hsz2 with
 | c0 :: c1 :: c2 :: c3 :: x0 :: x1 :: x2 :: x3 :: x4 :: x5 :: x6 :: x7 :: x8 :: x9 :: x10 :: x11 :: x12 :: x13 :: x14 :: x15 :: [],_ =>
  have h0:DataW.trod enc Tryz.prog W base sp hd n' 3 [c0]=ys[0]?:=hg 0 _ rfl
  have h1:DataW.trod enc Tryz.prog W base sp hd n' 3 [c1]=ys[1]?:=hg 1 _ rfl
  have h2:DataW.trod enc Tryz.prog W base sp hd n' 9 [c2]=ys[2]?:=hg 2 _ rfl
  have h3:DataW.trod enc Tryz.prog W base sp hd n' 28 [c3]=ys[3]?:=hg 3 _ rfl
  have h4:DataW.trod enc Tryz.prog W base sp hd n' 30 [x0,x1,x2,x3,x4,x5,x6,x7,x8,x9,x10,x11,x12,x13,x14,x15]=ys[4]?:=hg 4 _ rfl
  rw[List.getElem?_eq_getElem (by omega)]at h0 h1 h2 h3 h4
  obtain⟨cu,e0,_⟩:=DataW.trod_int Tryz.underlying3 h0
  obtain⟨se,e1,_⟩:=DataW.trod_int Tryz.underlying3 h1
  obtain⟨id,e2,_⟩:=DataW.trod_string Tryz.underlying9 h2
  obtain⟨A,n,c,L,e3,hr,hc,hb⟩:=conds_in h3
  obtain⟨s,hs,e4⟩:=seal_in rfl h4
  injection e0 with e0;injection e1 with e1;injection e2 with e2
  subst e0 e1 e2 e3
  have hl:(L.map (·.c)).length=n:=by rw[List.length_map];exact hr.len
  subst hl
  refine⟨⟨⟨cu,se,id,L.map (·.c),s⟩,A,c,L⟩,?_,⟨rfl,hr,hs,hc⟩,hb⟩
  unfold ah.val ah.cells bn
  rw[←e4]
  rfl
end
end Go.Proofs.YtlkbkclnbppigaaGreatDoor
