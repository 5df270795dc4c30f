/- What the condition package's outside returns, of texts. -/
import Derived.Test.YtlkbkclnbppigaaGreatDoorIZ24
import Derived.Test.YtlkbkclnbppigaaGreatDoorIZ25
import Derived.Test.YtlkbkclnbppigaaGreatDoorIZ23
set_option maxHeartbeats 8000000
namespace Go.Proofs.YtlkbkclnbppigaaGreatDoor
open Tryz
open Go.RowKit Go.Sort
set_option linter.unusedVariables false
set_option linter.unusedSimpArgs false
set_option maxRecDepth 100000
attribute [local go_sem] Oper.semAt_some
theorem V7(A:Option Addr)(n c:Nat)(w:World):Calls prog 97 #[.slice A n c] w fun e w'=>e=.returned (.func (.func 166) #[] #[.pointer (some ⟨w.heap.size,0,none⟩)])/\w'=w.alloc (.cells #[.slice A n c] 24):=by
 go_enter func97,ntmps97;go_wp2;go_ret;exact⟨rfl,rfl⟩
theorem CW(w:World)(a b c:Obj):(((w.alloc a).alloc b).alloc c).heap[w.heap.size]? = some a/\(((w.alloc a).alloc b).alloc c).heap[w.heap.size+1]? = some b/\(((w.alloc a).alloc b).alloc c).heap[w.heap.size+1+1]? = some c:=by
 obtain⟨h1,h2⟩:=vC w a b;refine⟨(Below.heap_alloc _ _ _ aP).trans h1,(Below.heap_alloc _ _ _ aH).trans h2,?_⟩;have:=World.alloc_heap_new ((w.alloc a).alloc b) c;simpa using this
theorem Blk.far{w:World}{g:Nat}{t:TypeId}{cs:Array Value}{fr:Nat × Nat}(h:Blk w g t cs fr)(p:Addr)(u:Value)(hp:g≠p.block):Blk (w.setCell p u) g t cs fr:=(Below.heap_setCell w p u g hp).trans h
theorem iJ.set0{w:World}{g:Nat}{ad ad2 cl co:aC}{si lo hi:Int}(h:iJ w g ad cl co si lo hi):iJ (w.setCell ⟨g,0,none⟩ (.string ad2)) g ad2 cl co si lo hi:=Blk.set_ h 0 (.string ad2)
theorem Jp{c:aY}(h:bF c=true):gY c.pat=true:=((mP c).1 h).pat
def nV(p q:aC):aC:=(mO p q).getD ⟨#[]⟩
def qf(p q:aC):Bool:=(mO p q).isSome
def CX(a b:aY):Bool:=decide (max a.fr b.fr<min a.till b.till)&&(gW a.cl b.cl&&gW a.co b.co&&gW a.si b.si&&qf a.pat b.pat)
theorem Jq(a b:aY):iH a b=if CX a b=true then ⟨max a.fr b.fr,min a.till b.till,nV a.pat b.pat,eP a.cl b.cl,eP a.co b.co,eP a.si b.si,fF a.us b.us⟩ else ed:=by
 unfold iH rf CX nV qf ja;cases hp:mO a.pat b.pat with
 | none=>simp
 | some p =>
  cases h1:gW a.cl b.cl <;> cases h2:gW a.co b.co <;> cases h3:gW a.si b.si <;> simp
  by_cases ht:max a.fr b.fr<min a.till b.till
  ·rw[if_pos aB,if_pos aB];rfl
  ·rw[if_neg aB,if_neg aB];rfl
theorem Jr{p:aC}(h:p.size=0):p=⟨#[]⟩:=fK (List.eq_nil_of_length_eq_zero uf)
theorem CY{p q:aC}(h:p.size=0\/q.size=0):nV p q=(if p.size=0 then q else p)/\qf p q=true:=by
 unfold nV qf mO;by_cases hp:p.size=0
 ·rw[if_pos hp,if_pos hp];exact⟨rfl,rfl⟩
 ·have hq:q.size=0:=aB;rw[if_neg hp,if_pos hq,if_neg hp];exact⟨rfl,rfl⟩
theorem V8{p q:aC}(hp:gY p=true)(hq:gY q=true)(h1:p.size≠0)(h2:q.size≠0):yF (mQ p q)=.tuple #[.string (nV p q),.bool (qf p q),.int .i64 0]:=by
 unfold gY at hp hq;rw[decide_eq_false h1,Bool.false_or]at hp;rw[decide_eq_false h2,Bool.false_or]at hq;obtain⟨x,hx⟩:=Option.isSome_iff_exists.1 hp;obtain⟨y,hy⟩:=Option.isSome_iff_exists.1 hq;unfold nV qf;rw[Hz h1 h2 hx hy];unfold mQ;rw[hx,hy];show yF (some (jL x y))=_;cases jL x y <;> rfl
theorem qg{w:World}{a p:Addr}{v u:Value}(h:w.cell? a=some v)(hne:p.block≠a.block):(w.setCell p u).cell? a=some v:=(World.cell?_setCell_far w p a u hne).trans h
theorem iq{a w:World}{B:Nat}{p:Addr}{u:Value}(h:Below B a w)(hp:B<=p.block):Below B a (w.setCell p u):=h.setCell hp u
theorem aX.s0{w:World}{g:Nat}{fr till us:Int}{pat:aC}{A B S:Option Addr}{na ca nb cb ns cs:Nat}(h:aX w g fr till pat A na ca B nb cb S ns cs us)(fr':Int):aX (w.setCell ⟨g,0,none⟩ (.int .i64 fr')) g fr' till pat A na ca B nb cb S ns cs us:=Blk.set_ h 0 (.int .i64 fr')
theorem aX.s1{w:World}{g:Nat}{fr till us:Int}{pat:aC}{A B S:Option Addr}{na ca nb cb ns cs:Nat}(h:aX w g fr till pat A na ca B nb cb S ns cs us)(till':Int):aX (w.setCell ⟨g,1,none⟩ (.int .i64 till')) g fr till' pat A na ca B nb cb S ns cs us:=Blk.set_ h 1 (.int .i64 till')
theorem aX.s2{w:World}{g:Nat}{fr till us:Int}{pat:aC}{A B S:Option Addr}{na ca nb cb ns cs:Nat}(h:aX w g fr till pat A na ca B nb cb S ns cs us)(pat':aC):aX (w.setCell ⟨g,2,none⟩ (.string pat')) g fr till pat' A na ca B nb cb S ns cs us:=Blk.set_ h 2 (.string pat')
theorem aX.s3{w:World}{g:Nat}{fr till us:Int}{pat:aC}{A B S:Option Addr}{na ca nb cb ns cs:Nat}(h:aX w g fr till pat A na ca B nb cb S ns cs us)(A':Option Addr)(na' ca':Nat):aX (w.setCell ⟨g,3,none⟩ (.slice A' na' ca')) g fr till pat A' na' ca' B nb cb S ns cs us:=Blk.set_ h 3 (.slice A' na' ca')
theorem aX.s4{w:World}{g:Nat}{fr till us:Int}{pat:aC}{A B S:Option Addr}{na ca nb cb ns cs:Nat}(h:aX w g fr till pat A na ca B nb cb S ns cs us)(B':Option Addr)(nb' cb':Nat):aX (w.setCell ⟨g,4,none⟩ (.slice B' nb' cb')) g fr till pat A na ca B' nb' cb' S ns cs us:=Blk.set_ h 4 (.slice B' nb' cb')
theorem aX.s5{w:World}{g:Nat}{fr till us:Int}{pat:aC}{A B S:Option Addr}{na ca nb cb ns cs:Nat}(h:aX w g fr till pat A na ca B nb cb S ns cs us)(S':Option Addr)(ns' cs':Nat):aX (w.setCell ⟨g,5,none⟩ (.slice S' ns' cs')) g fr till pat A na ca B nb cb S' ns' cs' us:=Blk.set_ h 5 (.slice S' ns' cs')
theorem aX.s6{w:World}{g:Nat}{fr till us:Int}{pat:aC}{A B S:Option Addr}{na ca nb cb ns cs:Nat}(h:aX w g fr till pat A na ca B nb cb S ns cs us)(us':Int):aX (w.setCell ⟨g,6,none⟩ (.int .i64 us')) g fr till pat A na ca B nb cb S ns cs us':=Blk.set_ h 6 (.int .i64 us')
theorem aX.put{w:World}{g:Nat}{fr till us:Int}{pat:aC}{A B S:Option Addr}{na ca nb cb ns cs:Nat}(h:aX w g fr till pat A na ca B nb cb S ns cs us)(fr' till':Int)(pat':aC)(A':Option Addr)(na' ca':Nat)(B':Option Addr)(nb' cb':Nat)(S':Option Addr)(ns' cs':Nat)(us':Int) :
  aX (((((((w.setCell ⟨g,0,none⟩ (.int .i64 fr')).setCell ⟨g,1,none⟩ (.int .i64 till')).setCell ⟨g,2,none⟩ (.string pat')).setCell ⟨g,3,none⟩ (.slice A' na' ca')).setCell ⟨g,4,none⟩ (.slice B' nb' cb')).setCell ⟨g,5,none⟩ (.slice S' ns' cs')).setCell ⟨g,6,none⟩ (.int .i64 us')) g fr' till' pat' A' na' ca' B' nb' cb' S' ns' cs' us' :=
 ((((((h.s0 fr').s1 till').s2 pat').s3 A' na' ca').s4 B' nb' cb').s5 S' ns' cs').s6 us'
theorem pV{w:World}{g:Nat}{a:Addr}{v:Value}(h:w.cell? a=some v)(hne:g≠a.block){v0 v1 v2 v3 v4 v5 v6:Value}:(((((((w.setCell ⟨g,0,none⟩ v0).setCell ⟨g,1,none⟩ v1).setCell ⟨g,2,none⟩ v2).setCell ⟨g,3,none⟩ v3).setCell ⟨g,4,none⟩ v4).setCell ⟨g,5,none⟩ v5).setCell ⟨g,6,none⟩ v6).cell? a=some v :=
 qg (qg (qg (qg (qg (qg (qg h hne) hne) hne) hne) hne) hne) hne
theorem V9{a w:World}{B g:Nat}(h:Below B a w)(hg:B<=g){v0 v1 v2 v3 v4 v5 v6:Value}:Below B a (((((((w.setCell ⟨g,0,none⟩ v0).setCell ⟨g,1,none⟩ v1).setCell ⟨g,2,none⟩ v2).setCell ⟨g,3,none⟩ v3).setCell ⟨g,4,none⟩ v4).setCell ⟨g,5,none⟩ v5).setCell ⟨g,6,none⟩ v6) :=
 iq (iq (iq (iq (iq (iq (iq h hg) hg) hg) hg) hg) hg) hg
theorem Js{a w:World}{g:Nat}(h:aF a w)(hg:a.heap.size<=g)(v0 v1 v2 v3 v4 v5 v6:Value):aF a (((((((w.setCell ⟨g,0,none⟩ v0).setCell ⟨g,1,none⟩ v1).setCell ⟨g,2,none⟩ v2).setCell ⟨g,3,none⟩ v3).setCell ⟨g,4,none⟩ v4).setCell ⟨g,5,none⟩ v5).setCell ⟨g,6,none⟩ v6) :=
 (V4 h hg v0 v1 v2 v3 v4 v5).setCell (p:=⟨g,6,none⟩) hg v6
theorem WA:(prog.info? 57).map (·.size)=some 2:=by kernel_rfl
def aQ(W:World)(g:Nat)(t:TypeId)(X:Array Value):Prop:=W.heap[g]? = some (.cells X t (0,0))
theorem aQ.keep{W W':World}{g:Nat}{t:TypeId}{X:Array Value}(h:aQ W g t X)(hb:aF W W'):aQ W' g t X:=by
 unfold aQ at *;have hlt:g<W.heap.size:=by
  rcases Nat.lt_or_ge g W.heap.size with h' | h'
  ·exact h'
  ·rw[Array.getElem?_eq_none h']at h;cases h
 rw[hb.block g hlt];exact h
theorem aQ.period{W:World}{g:Nat}{X:Array Value}(h:aQ W g 57 X)(hs:X.size=2):(loadVar 57 ⟨g,0,none⟩).run prog W=.ok (.agg X) W :=
 run_loadVar_row (P:=prog) W g _ 57 X _ _ h underlying57 rfl (by rw[hs];exact WA)
theorem aQ.cell{W:World}{g:Nat}{t:TypeId}{X:Array Value}{k:Nat}{v:Value}(h:aQ W g t X)(hv:X[k]? = some v):W.cell? ⟨g,k,none⟩=some v:=(cell_of_row W g k X t _ h).trans hv
theorem gQ(w:World)(A B:Obj):((w.alloc A).alloc B).heap[w.heap.size]? = some A/\((w.alloc A).alloc B).heap[w.heap.size+1]? = some B:=⟨heap_alloc2_old w A B,heap_alloc2_new w A B⟩
structure CoM where
 c:aY
 m:ae
def CoM.cells(x:CoM):List Value:=[.int .i64 x.c.fr,.int .i64 x.c.till,.string x.c.pat,.slice x.m.A x.c.cl.length x.m.ca,.slice x.m.B x.c.co.length x.m.cb,.slice x.m.S x.c.si.length x.m.cs,.int .i64 x.c.us]
theorem CoM.val(x:CoM):ae.val x.c x.m=.agg x.cells.toArray:=rfl
theorem CoM.cells_len(x:CoM):x.cells.length=7:=rfl
structure pW(w:World)(A:Option Addr)(n:Nat)(L:List CoM):Prop where
 len:L.length=n
 rows:aI w 7 A n (L.flatMap CoM.cells)
 each:∀ x∈L,dA w x.c x.m
theorem pW.keep{w w':World}{A:Option Addr}{n:Nat}{L:List CoM}(h:pW w A n L)(hb:aF w w'):pW w' A n L:=⟨h.len,h.rows.keep hb,fun x hx=>(h.each x hx).keep hb⟩
theorem pW.at_{w:World}{A:Option Addr}{n k:Nat}{L:List CoM}{x:CoM}(h:pW w A n L)(hk:L[k]? = some x) :
  dA w x.c x.m/\∃ b o,A=some ⟨b,o,none⟩/\∀ j u,x.cells[j]? = some u->w.cell? ⟨b,o+k*7+j,none⟩=some u :=
 ⟨h.each x (List.mem_of_getElem? hk),aI.row h.rows (fun a _=>a.cells_len) h.len hk⟩
theorem pX(w:World)(b o:Nat)(x:CoM)(hc:∀ j u,x.cells[j]? = some u->w.cell? ⟨b,o+j,none⟩=some u):(loadVar 27 ⟨b,o,none⟩).run prog w=.ok (ae.val x.c x.m) w:=by
 have hl:(loadCells ⟨b,o,none⟩ 7).run prog w=.ok x.cells.toArray w :=
  run_loadCells_list (P:=prog) w ⟨b,o,none⟩ x.cells (fun j v hv=>by
   have hadd:(⟨b,o,none⟩:Addr).add j=⟨b,o+j,none⟩:=nH
   rw[hadd];exact hc j v hv)
 have hi:(prog.info? 27).map (·.size)=some 7:=aG;cases hq:prog.info? 27 with
 | none=>rw[hq]at hi;cases hi
 | some i =>
  have hs:i.size=7:=xA;have hagg:(isAgg 27).run prog w=.ok true w:=by
   unfold isAgg;rw[Sem.run_bind,run_underlying underlying27 w];rfl
  simp[loadVar,Sem.run_bind,hagg,sizeOf,typeInfo,hq,hs,hl,CoM.val]
structure ah where
 t:bz
 A:Option Addr
 c:Nat
 L:List CoM
def bn(cust ser:Int)(id:aC)(A:Option Addr)(n c:Nat)(s:List Nat):List Value:=[.int .i64 cust,.int .i64 ser,.string id,.slice A n c]++b8 s
def ah.cells(x:ah):List Value:=bn x.t.cust x.t.ser x.t.id x.A x.t.conds.length x.c x.t.sl
def ah.val(x:ah):Value:=.agg x.cells.toArray
structure bZ(w:World)(x:ah):Prop where
 same:x.L.map (·.c)=x.t.conds
 conds:pW w x.A x.t.conds.length x.L
 sl:dm x.t.sl
 cap:x.t.conds.length<=x.c
theorem bZ.keep{w w':World}{x:ah}(h:bZ w x)(hb:aF w w'):bZ w' x:=⟨h.same,h.conds.keep hb,h.sl,h.cap⟩
theorem bZ.size{w:World}{x:ah}(h:bZ w x):x.cells.length=20:=by
 show (_++b8 x.t.sl).length=20;rw[List.length_append,dU,h.sl.len];rfl
def aj.cells(k:aj):List Value:=[.int .i64 k.party,.int .i64 k.ser,.string k.secret,.int .i64 k.fr,.int .i64 k.till]
def aj.val(k:aj):Value:=.agg #[.int .i64 k.party,.int .i64 k.ser,.string k.secret,.int .i64 k.fr,.int .i64 k.till]
def lV(w:World)(A:Option Addr)(n:Nat)(L:List aj):Prop:=L.length=n/\aI w 5 A n (L.flatMap aj.cells)
theorem lV.keep{w w':World}{A:Option Addr}{n:Nat}{L:List aj}(h:lV w A n L)(hb:aF w w'):lV w' A n L:=⟨h.1,h.2.keep hb⟩
theorem lV.at_{w:World}{A:Option Addr}{n k:Nat}{L:List aj}{x:aj}(h:lV w A n L)(hk:L[k]? = some x) :
  ∃ b o,A=some ⟨b,o,none⟩/\∀ j u,x.cells[j]? = some u->w.cell? ⟨b,o+k*5+j,none⟩=some u:=aI.row h.2 (fun a _=>rfl) h.1 hk
theorem WC(k:aj)(w:World):Calls prog 43 #[k.val] w (Ret w (.bool (lQ k))):=by
 obtain⟨V,hV⟩:∃ V,V=lQ k:=⟨_,rfl⟩;rw[<-hV];unfold lQ at hV;have HV:=aA hV;clear hV;obtain⟨p,s,sc,fr,ti⟩:=k;unfold aj.val;dsimp only at *;by_cases h1:1<=min p s
 ·by_cases h2:max p s<=1073741824
  ·by_cases h3:1<=sc.size
   ·by_cases h4:sc.size<=64
    ·by_cases h5:0<=fr
     ·by_cases h6:fr<ti
      ·exact qh
      ·exact qh
     ·exact qh
    ·exact qh
   ·exact qh
  ·exact qh
 ·exact qh
theorem WE(k:aj)(lo hi:Int)(w:World):Calls prog 126 #[k.val,pK lo hi] w (Ret w (.bool (lT k lo hi))):=by
 obtain⟨V,hV⟩:∃ V,V=lT k lo hi:=⟨_,rfl⟩;rw[<-hV];unfold lT at hV;have HV:=aA hV;clear hV;unfold aj.val pK;by_cases h1:0<=lo
 ·by_cases h2:lo<=hi
  ·by_cases h3:hi<=1099511627776
   ·by_cases h4:k.fr<=lo
    ·exact vI
    ·exact vI
   ·exact vI
  ·exact vI
 ·exact vI
def gJ(k:aj)(n s:Int):Int:=if k.party=n then k.ser-s else k.party-n
def InK(x:Int):Prop:=-4294967296<=x/\x<=4294967296
theorem WF(k:aj)(n s:Int)(b:Nat)(w:World)(hp:InK k.party)(hs:InK k.ser)(hn:InK n)(hs2:InK s)(hc:w.cell? ⟨b,0,none⟩=some (.int .i64 s)) :
  Calls prog 184 #[k.val,.int .i64 n,.pointer (some ⟨b,0,none⟩)] w (Ret w (.int .i64 (gJ k n s))):=by
 unfold InK at *;unfold gJ aj.val;have hz:=bu hc;by_cases h:k.party=n
 ·rw[if_pos h];have e1:(k.party != n)=false:=by simp[h]
  go_enter func184,ntmps184;go_wp2;go_ret;exact⟨aH,aJ⟩
 ·rw[if_neg h];have e1:(k.party != n)=true:=by simp[h]
  go_enter func184,ntmps184;go_wp2;go_ret;exact⟨aH,aJ⟩
def CZ(L:List aj):Prop:=L.Pairwise fun a b=>Bl a b=true
theorem Jt{α:Type}(p:α->Bool):∀(L:List α)(t:Nat)(x:α),t<(L.takeWhile p).length->L[t]? = some x->p x=true
 | [],t,x,h,_=>nG
 | a :: L,t,x,h,hx=>by
  rw[List.takeWhile_cons]at h;split at h
  ·rename_i ha;cases t with
   | zero=>simp at hx;subst hx;exact ha
   | succ t=>exact Jt p L t x nD uT
  ·simp at h
theorem Ju{α:Type}(p:α->Bool):∀(L:List α)(x:α),L[(L.takeWhile p).length]? = some x->p x=false
 | [],x,h=>nG
 | a :: L,x,h=>by
  rw[List.takeWhile_cons]at h;split at h
  ·exact Ju p L x nD
  ·rename_i ha;simp at h;subst h;simpa using ha
theorem WG{α:Type}(p:α->Bool)(L:List α):(L.takeWhile p).length<=L.length:=by
 have:=List.takeWhile_sublist p (l:=L);exact this.length_le
def gK(n s:Int)(L:List aj):Nat:=(L.takeWhile fun x=>decide (gJ x n s<0)).length
theorem Jv{a b:aj}(h:Bl a b=true){n s:Int}(h0:0<=gJ a n s):0<gJ b n s:=by
 unfold Bl at h;unfold gJ at *;simp only[decide_eq_true_eq]at h;split at h0 <;> split <;> omega
theorem Jw{L:List aj}{n s:Int}{t:Nat}{x:aj}(ht:t<gK n s L)(hx:L[t]? = some x):gJ x n s<0:=by
 have:=Jt _ L t x ht hx;simpa using this
theorem Jy{L:List aj}(hu:CZ L){n s:Int}{t:Nat}{x:aj}(ht:gK n s L<=t)(hx:L[t]? = some x):0<=gJ x n s:=by
 have hlt:=(List.getElem?_eq_some_iff.1 hx).1;obtain⟨y,hy⟩:∃ y,L[gK n s L]? = some y:=⟨_,List.getElem?_eq_getElem aB⟩;have h0:=Ju _ L y hy;have h1:0<=gJ y n s:=by simpa using h0
 rcases Nat.lt_or_ge (gK n s L) t with h2 | h2
 ·obtain⟨hl1,e1⟩:=List.getElem?_eq_some_iff.1 hy;obtain⟨hl2,e2⟩:=List.getElem?_eq_some_iff.1 hx;have:=List.pairwise_iff_getElem.1 hu _ _ hl1 hl2 h2;rw[e1,e2]at this;have:=Jv this h1;omega
 ·have:t=gK n s L:=aB;subst this;rw[hy]at hx;injection hx with hx;subst hx;exact h1
theorem WH{L:List aj}(hu:CZ L)(n s:Int):kX L n s=(L[gK n s L]?).filter fun x=>decide (gJ x n s=0):=by
 have hz:∀ x:aj,decide (x.party=n/\x.ser=s)=decide (gJ x n s=0):=by
  intro x;unfold gJ;by_cases h:x.party=n
  ·simp[h];omega
  ·rw[if_neg h];simp[h];omega
 have hn:∀ t x,L[t]? = some x->t<gK n s L->gJ x n s≠0:=fun t x hx ht=>by have:=Jw ht hx;omega
 unfold kX;cases hy:L[gK n s L]? with
 | none =>
  rw[List.find?_eq_none.2]
  ·rfl
  ·intro x hx;obtain⟨t,ht,rfl⟩:=List.getElem_of_mem hx;have hle:L.length<=gK n s L:=List.getElem?_eq_none_iff.1 hy;rw[hz];have:=hn t _ (List.getElem?_eq_getElem ht) aB;simpa using this
 | some y =>
  by_cases h0:gJ y n s=0
  ·have hf:(some y).filter (fun x=>decide (gJ x n s=0))=some y:=by simp[h0]
   rw[hf];obtain⟨hl,he⟩:=List.getElem?_eq_some_iff.1 hy;rw[List.find?_eq_some_iff_getElem];refine⟨by rw[hz];simp[h0],gK n s L,hl,he,fun j hj=>?_⟩;rw[hz];have:=hn j _ (List.getElem?_eq_getElem aB) hj;simpa using this
  ·have hf:(some y).filter (fun x=>decide (gJ x n s=0))=none:=by simp[h0]
   rw[hf];rw[List.find?_eq_none.2];intro x hx;obtain⟨t,ht,rfl⟩:=List.getElem_of_mem hx;rw[hz];have hxt:=List.getElem?_eq_getElem ht;rcases Nat.lt_trichotomy t (gK n s L) with h1 | h1 | h1
   ·have:=hn t _ hxt h1;simpa using this
   ·subst h1;rw[hy]at hxt;injection hxt with hxt
    rw[<-hxt];simpa using h0
   ·obtain⟨hl1,e1⟩:=List.getElem?_eq_some_iff.1 hy;have hb:=List.pairwise_iff_getElem.1 hu _ _ hl1 ht h1;rw[e1]at hb;have:=Jv hb (Jy hu (Nat.le_refl _) hy);simp;omega
theorem Cb(w:World)(b o:Nat)(x:aj)(hc:∀ j u,x.cells[j]? = some u->w.cell? ⟨b,o+j,none⟩=some u):(loadVar 23 ⟨b,o,none⟩).run prog w=.ok x.val w:=by
 have hl:(loadCells ⟨b,o,none⟩ 5).run prog w=.ok x.cells.toArray w :=
  run_loadCells_list (P:=prog) w ⟨b,o,none⟩ x.cells (fun j v hv=>by
   have hadd:(⟨b,o,none⟩:Addr).add j=⟨b,o+j,none⟩:=nH
   rw[hadd];exact hc j v hv)
 have hi:(prog.info? 23).map (·.size)=some 5:=aG;cases hq:prog.info? 23 with
 | none=>rw[hq]at hi;cases hi
 | some i =>
  have hs:i.size=5:=xA;have hagg:(isAgg 23).run prog w=.ok true w:=by
   unfold isAgg;rw[Sem.run_bind,run_underlying underlying23 w];rfl
  have hv:x.val=.agg x.cells.toArray:=rfl;rw[hv];generalize x.cells.toArray=X at *;simp[loadVar,Sem.run_bind,hagg,sizeOf,typeInfo,hq,hs,hl]
theorem WI(g:Nat)(eg:∀ args w,(callFunc g args).run prog w=.ok (.enter g args) w)(cv:Value)(cf:aj->Int)(A:Option Addr)(n c:Nat)(L:List aj)(t:Int)(m:Nat)(w:World)
  (hp:∀ x∈L,∀ W,aF w W->Calls prog g #[x.val,.int .i64 t,cv] W (Ret W (.int .i64 (cf x)))) (hA:lV w A n L) (hn:n<=100000)
  (hlo:∀ i x,i<m->L[i]? = some x->cf x<0) (hhi:∀ i x,m<=i->L[i]? = some x->0<=cf x) (hm:m<=n) :
  Calls prog 183 #[.slice A n c,.int .i64 t,.func (.func g) #[] #[cv]] w (Ret w (.tuple #[.int .i64 (m:Int),.bool (match L[m]? with | some x=>decide (cf x=0) | none=>false)])):=by
 have hl:L.length=n:=hA.1;have HP:=aA hp;have HA:=aA hA;have HLO:=aA hlo;have HHI:=aA hhi;have HL:=aA hl;obtain⟨V,hV⟩:∃ V,V=(match L[m]? with | some x=>decide (cf x=0) | none=>false):=⟨_,rfl⟩;rw[<-hV];have HV:=aA hV;clear hp hA hlo hhi hl hV;go_enter func183,ntmps183;go_wp2;go_loopw [9,10] (fun iv jv wr=>∃ i j:Nat,iv=.int .i64 i/\jv=.int .i64 j/\i<=m/\m<=j/\j<=n/\aF w wr) (fun iv jv _=>(intOf jv).toNat-(intOf iv).toNat)
 case atStart=>exact⟨0,n,rfl,rfl,aB,hm,Nat.le_refl _,Below.refl _ _⟩
 case round =>
  obtain⟨i,j,rfl,rfl,hi,hj,hjn,hb⟩:=hrel;by_cases hij:i<j
  ·obtain⟨x,hx⟩:∃ x,L[(i+j) / 2]? = some x:=⟨_,List.getElem?_eq_getElem gV⟩;obtain⟨b,o,rfl,hcell⟩:=(HA.out.keep hb).at_ hx;have hld:=Cb wr b (o+(i+j) / 2*5) x hcell;have hc:=HP.out x (List.mem_of_getElem? hx) wr hb;have hlo:=fun h=>HLO.out ((i+j) / 2) x h hx
   have hhi:=fun h=>HHI.out ((i+j) / 2) x h hx
   have hij2:(i:Int)<(j:Int):=aB;have HC:=aA hc;have HLD:=aA hld;generalize x.val=xv at *;clear hcell hc hld hx;generalize cf x=z at *;have HLO2:=aA hlo;have HHI2:=aA hhi;clear hlo hhi;rcases Int.lt_or_le z 0 with h0 | h0
   ·have e0:decide (z<0)=true:=decide_eq_true h0;go_wp2_with (first | (refine bD rfl _ _ rfl ⟨b,o+(i+j) / 2*5,none⟩ xv rfl HLD.out ?_) | (go_at_fn g;refine (HC.out).mono ?_;rintro e w2 ⟨rfl,hb2⟩));have hlt:(i+j) / 2<m:=by
     rcases Nat.lt_or_ge ((i+j) / 2) m with h | h
     ·exact h
     ·have:=HHI2.out h;omega
    exact⟨⟨(i+j) / 2+1,j,bg,rfl,aB,hj,hjn,aV hb hb2⟩,dD⟩
   ·have e0:decide (z<0)=false:=decide_eq_false aB;go_wp2_with (first | (refine bD rfl _ _ rfl ⟨b,o+(i+j) / 2*5,none⟩ xv rfl HLD.out ?_) | (go_at_fn g;refine (HC.out).mono ?_;rintro e w2 ⟨rfl,hb2⟩));have hge:m<=(i+j) / 2:=by
     rcases Nat.lt_or_ge ((i+j) / 2) m with h | h
     ·have:=HLO2.out h;omega
     ·exact h
    exact⟨⟨i,(i+j) / 2,rfl,bg,hi,hge,aB,aV hb hb2⟩,dD⟩
  ·obtain rfl:i=m:=aB;by_cases hmn:i<n
   ·obtain⟨x,hx⟩:∃ x,L[i]? = some x:=⟨_,List.getElem?_eq_getElem gV⟩;obtain⟨b,o,rfl,hcell⟩:=(HA.out.keep hb).at_ hx;have hld:=Cb wr b (o+i*5) x hcell;have hc:=HP.out x (List.mem_of_getElem? hx) wr hb;have hV2:V=decide (cf x=0):=by rw[HV.out,hx]
    have HC:=aA hc;have HLD:=aA hld;have HV2:=aA hV2;generalize x.val=xv at *;clear hcell hc hld hx hV2 HV;generalize cf x=z at *;have d1:(i:Int)<(n:Int):=aB;go_wp2_with (first | (go_big_want;refine jE 23 _ rfl ⟨b,o+i*5,none⟩ xv rfl HLD.out ?_;simp only[Act.put,ag]) | (go_at_fn g;refine (HC.out).mono ?_;rintro e w2 ⟨rfl,hb2⟩));go_ret2;exact⟨by rw[HV2.out];by_cases hz:z=0 <;> simp[hz],aV hb hb2⟩
   ·have hV2:V=false:=by rw[HV.out,List.getElem?_eq_none gV]
    subst hV2;have d1:¬ (i:Int)<(n:Int):=aB;go_wp2;go_ret2;exact⟨rfl,hb⟩
def nX{α:Type}(p:α->Bool):List α->Nat->Int
 | [],_=>-1
 | x :: r,k=>if p x then k else nX p r (k+1)
theorem Jz{α:Type}(p:α->Bool):∀(L:List α)(k:Nat),decide (0<=nX p L k)=L.any p
 | [],k=>rfl
 | x :: r,k=>by
  rw[nX,List.any_cons];cases h:p x
  ·rw[if_neg aH,Jz p r (k+1)];rfl
  ·rw[if_pos rfl];simp
theorem WJ(g:Nat)(eg:∀ args w,(callFunc g args).run prog w=.ok (.enter g args) w)(cb:Array Value)(p:CoM->Bool)(A:Option Addr)(n c:Nat)(L:List CoM)(w:World)
  (hp:∀ x∈L,∀ W,aF w W->Calls prog g (#[ae.val x.c x.m]++cb) W (Ret W (.bool (p x)))) (hA:pW w A n L) (hn:n<=1000000000) :
  Calls prog 98 #[.slice A n c,.func (.func g) #[] cb] w (Ret w (.int .i64 (nX p L 0))):=by
 have hl:n<=L.length/\L.length<=n:=by have:=hA.len;omega
 have HP:=aA hp;have HA:=aA hA;clear hp hA;go_enter func98,ntmps98;go_wp2;go_loopw [8] (fun i wr=>∃ k:Nat,k<=n/\i=.int .i64 k/\Hid (nX p L 0=nX p (L.drop k) k)/\aF w wr) (fun i _=>n-(intOf i).toNat)
 case atStart=>exact⟨0,aB,rfl,aA rfl,Below.refl _ _⟩
 case round =>
  obtain⟨k,hk,rfl,HI,hb⟩:=hrel;by_cases hlt:k<n
  ·obtain⟨x,hx⟩:∃ x,L[k]? = some x:=⟨_,List.getElem?_eq_getElem aB⟩;obtain⟨_,b,o,rfl,hcell⟩:=(HA.out.keep hb).at_ hx;have hld:=pX wr b (o+k*7) x hcell;have hc:=HP.out x (List.mem_of_getElem? hx) wr hb;have hd:L.drop k=x :: L.drop (k+1):=by
    exact IV
   have HI2:=HI.out;rw[hd,nX]at HI2;clear hd hx HI hcell;have HI:=aA HI2;clear HI2;have hxv:ae.val x.c x.m=ae.val x.c x.m:=rfl;generalize ae.val x.c x.m=xv at hld hc;clear hxv;cases hpx:p x;all_goals
    rw[hpx]at hc HI;have HC:=aA hc;clear hc hpx;go_wp2_with (first | (refine bD rfl _ _ rfl ⟨b,o+k*7,none⟩ xv rfl hld ?_) | (go_at_fn g;refine (HC.out).mono ?_;rintro e w2 ⟨rfl,hb2⟩))
   ·exact IW
   ·go_ret;have:=HI.out;exact⟨wS (by rw[this];simp),aV hb hb2⟩
  ·have he:nX p L 0 = -1:=by rw[HI.out,List.drop_eq_nil_of_le aB];rfl
   have HE:=aA he;clear he HI;go_wp2;go_ret;exact⟨wS HE.out.symm,hb⟩
theorem J4(g:Nat)(eg:∀ args w,(callFunc g args).run prog w=.ok (.enter g args) w)(cb:Array Value)(p:CoM->Bool)(A:Option Addr)(n c:Nat)(L:List CoM)(w:World)
  (hp:∀ x∈L,∀ W,aF w W->Calls prog g (#[ae.val x.c x.m]++cb) W (Ret W (.bool (p x)))) (hA:pW w A n L) (hn:n<=1000000000) :
  Calls prog 47 #[.slice A n c,.func (.func g) #[] cb] w (Ret w (.bool (L.any p))):=by
 have hi:=WJ g eg cb p A n c L w hp hA hn;rw[<-Jz p L 0];generalize nX p L 0=v at *;have HI:=aA hi;clear hi hp hA;go_enter func47,ntmps47;go_wp2_with (go_at_call 98;refine HI.out.mono ?_;rintro e w2 ⟨rfl,hb2⟩);go_ret;exact⟨aH,aJ⟩
end Go.Proofs.YtlkbkclnbppigaaGreatDoor
