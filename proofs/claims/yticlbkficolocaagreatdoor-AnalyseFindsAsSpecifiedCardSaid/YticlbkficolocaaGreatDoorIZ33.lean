/- The map of all words that patterns name, and the function over it: analyse.unnamed. -/
import Derived.Test.YticlbkficolocaaGreatDoorIZ30
set_option maxHeartbeats 8000000
namespace Go.Proofs.YticlbkficolocaaGreatDoor
open Go.RowKit Go.Sort
set_option linter.unusedVariables false
set_option linter.unusedSimpArgs false
set_option maxRecDepth 100000
open Go.Maps
def JW (bs:List ByteArray) (k:Nat):List ByteArray:=(Zc (bs.take k)).reverse
theorem namedR_succ {bs:List ByteArray} {k:Nat} {b:ByteArray} (h:bs[k]? = some b):JW bs (k+1)=(splitB 47 b).reverse++JW bs k:=by
 unfold JW Zc
 rw[List.take_add_one,h]
 simp
theorem namedR_num {bs:List ByteArray} (hn:bs.length≤64) (hs:∀ b∈bs,b.size≤100000) (k:Nat):(JW bs k).length≤6400064:=by
 unfold JW
 rw[List.length_reverse]
 have h:=namedL_num 100000 (bs.take k) (fun b hb=>hs b (List.mem_of_mem_take hb))
 have h2:(bs.take k).length≤64:=by rw[List.length_take];omega
 have h3:=Nat.mul_le_mul_right (100000+1) h2
 omega
theorem grown_but {w w':World} {g:Nat} (h:w.grownBy w' (some g)):But g w w':=⟨h.os,h.tape,h.output,h.size,fun k hk hn=>h.block k hk (fun e=>hn (by injection e))⟩
theorem take_rev {ws:List ByteArray} {j:Nat} {x:ByteArray} (h:ws[j]? = some x):(ws.take (j+1)).reverse=x :: (ws.take j).reverse:=by
 rw[List.take_add_one,h]
 simp
theorem unnamed_any (A:Option Addr) (n c:Nat) (bs:List ByteArray) (w:World) (hR:Reads w 1 A n (bs.map .string)) (hn:n≤64) (hs:∀ b∈bs,b.size≤100000) (hE:Env w) :
  Calls Tryz.prog 104 #[.slice A n c] w fun e w'=>∃ gb gm gn N:Nat,e=.returned (.func (.func 164) #[] #[.pointer (some ⟨gn,0,none⟩),.pointer (some ⟨gb,0,none⟩)])∧Xd gb gm gn N (Zc bs).reverse 0 w'∧(w.heap.size≤gb∧w.heap.size≤gm∧w.heap.size≤gn)∧Below w.heap.size w w':=by
 have hl:bs.length=n:=by have:=hR.1;simpa using this
 have cS:=fun (q:ByteArray) (hq:q∈bs) (W:World) (hb:Below w.heap.size w W)=>strSplit_any q 47 W (by have:=hs q hq;omega) (Env.keep hE hb)
 have hall:(Zc bs).reverse=JW bs n:=by unfold JW;rw[←hl,List.take_length]
 rw[hall]
 have hsz:∀ q∈bs,(splitB 47 q).length≤100001∧∀ x∈splitB 47 q,x.size≤100000:=fun q hq=>⟨by have:=Ku 47 q;have:=hs q hq;omega,fun x hx=>Nat.le_trans (Jm 47 q x hx) (hs q hq)⟩
 have hnr:=namedR_num (bs:=bs) (by omega) hs
 have HNR:=Lib.hid hnr
 clear hnr
 have HS:=Lib.hid cS;have HR:=Lib.hid hR;have HSZ:=Lib.hid hsz;have HLN:=Lib.hid hl
 clear cS hR hsz hs hE hall hl
 have hmm:=@run_makeMap Tryz.prog
 have hmf:∀ (fn:Fn) (first cap:Array Value) (w:World),(Instr.makeFunc fn first cap).run Tryz.prog w=.ok (.func fn first cap) w:=fun _ _ _ _=>rfl
 go_enter Tryz.func104,Tryz.ntmps104
 go_upto_region 2 with fail
 generalize hw0:World.alloc _ _=w0
 have hM0:w0.ownsMap Tryz.prog 9 (plainElem (H:=Unit) Tryz.prog 4) w.heap.size 0 (seenD (JW bs 0)):=by
  rw[←hw0]
  exact (World.ownsMap_made w _ _ _).alloc _
 have hB0:Qv w0 (w.heap.size+1) 126 #[.map (some w.heap.size)] (0,0):=by
  rw[←hw0]
  exact heap_alloc2_new w _ _
 have hb0:Below w.heap.size w w0:=by
  rw[←hw0]
  exact ((Below.refl _ _).alloc (Nat.le_refl _) _).alloc (by simp) _
 have HM0:=Lib.hid hM0;have HB0:=Lib.hid hB0
 clear hw0 hM0 hB0
 go_wp2_with fail
 go_loopw [12] (fun iv wr=>∃ k:Nat,k≤n∧iv=.int .i64 k∧Hid (Qv wr (w.heap.size+1) 126 #[.map (some w.heap.size)] (0,0))∧Hid (wr.ownsMap Tryz.prog 9 (plainElem (H:=Unit) Tryz.prog 4) w.heap.size (JW bs k).length (seenD (JW bs k)))∧Below w.heap.size w wr) (fun iv _=>n-(intOf iv).toNat)
 case atStart=>exact⟨0,by omega,rfl,HB0,HM0,hb0⟩
 case round =>
  obtain⟨k,hk,rfl,HB,HM,hb⟩:=hrel
  clear HM0 HB0 hb0
  have hgs:=HB.out.lt
  by_cases hlt:k<n
  ·obtain⟨pb,po,u,rfl,hu,hcell⟩:=(HR.out.keep hb).at_ hlt
   obtain⟨q,hq,rfl⟩:=JJ hu
   clear hu
   have hqm:=List.mem_of_getElem? hq
   have hsp:=HS.out q hqm wr hb
   have hsz:=HSZ.out q hqm
   have hsucc:=namedR_succ hq
   generalize splitB 47 q=ws at *
   have HSP:=Lib.hid hsp;have HSU:=Lib.hid hsucc;have HWZ:=Lib.hid hsz
   clear hsp hsucc hsz hqm
   have hk0:(0:Int)≤(k:Int):=by omega
   have hk1:(k:Int)<(n:Int):=by omega
   go_wp2_with (go_at_call 88;refine HSP.out.mono ?_;rintro e w2 ⟨rfl,hR2,hb2⟩)
   have HR2:=Lib.hid hR2
   obtain⟨m,hm⟩:∃ m,m=ws.length:=⟨_,rfl⟩
   rw[←hm]at HR2 ⊢
   have HML:=Lib.hid hm
   clear hR2 hm hcell hk0 hk1
   have hs2:=hb2.size
   obtain⟨wo,hwo⟩:∃ wo:World,wo=wr:=⟨_,rfl⟩
   subst hwo
   go_loopw [19] (fun iv wr=>∃ j:Nat,j≤m∧iv=.int .i64 j∧Hid (Qv wr (w.heap.size+1) 126 #[.map (some w.heap.size)] (0,0))∧Hid (wr.ownsMap Tryz.prog 9 (plainElem (H:=Unit) Tryz.prog 4) w.heap.size ((ws.take j).reverse++JW bs k).length (seenD ((ws.take j).reverse++JW bs k)))∧Hid (But w.heap.size w2 wr)∧Below w.heap.size w wr) (fun iv _=>m-(intOf iv).toNat)
   case atStart=>exact⟨0,by omega,rfl,Lib.hid (HB.out.keep hb2),Lib.hid (KW HM.out hb2 (by omega)),Lib.hid (But.refl _ _),Qj hb hb2⟩
   case round =>
    obtain⟨j,hj,rfl,HB2,HM2,HBU,hbz⟩:=hrel
    by_cases hlj:j<m
    ·have hR3:=HBU.out.reads HR2.out (fun _ a ha=>by injection ha with ha;rw[←ha];show wo.heap.size≠w.heap.size;omega)
     obtain⟨b2,o2,e2,hc2⟩:=hR3.2 (by omega)
     injection e2 with e2
     injection e2 with e3 e4 _
     subst e3;subst e4
     obtain⟨y,hy⟩:∃ y,ws[j]? = some y:=⟨_,List.getElem?_eq_getElem (by have:=HML.out;omega)⟩
     have hcy:wr.cell? ⟨wo.heap.size,j,none⟩=some (.string y):=by
      have:=hc2 j (.string y) (by simp[hy])
      simpa using this
     have hyz:=HWZ.out.2 y (List.mem_of_getElem? hy)
     have hkey:keyOf Tryz.prog 9 (.string y)=some (.string y.data.toList):=WideMaps.keyOf_string_mk Tryz.underlying9 (by unfold maxLen;omega)
     have htr:=take_rev hy
     have HKEY:=Lib.hid hkey;have HTR:=Lib.hid htr
     have y3:wr.cell? ⟨w.heap.size+1,0,none⟩=some (.map (some w.heap.size)):=HB2.out.cell 0
     have hws:=HWZ.out.1
     have hmw:=HML.out
     have hnr:=HNR.out k
     have HLEN:Hid (((ws.take j).reverse++JW bs k).length<maxLen):=Lib.hid (by
      unfold maxLen
      rw[List.length_append,List.length_reverse,List.length_take]
      omega)
     clear hnr
     clear hkey htr hc2 hR3 hyz hy
     have hj0:(0:Int)≤(j:Int):=by omega
     have hj1:(j:Int)<(m:Int):=by omega
     go_wp2_with (at_mapUpdate;refine wpList_mapUpdate_own _ rfl _ _ _ 126 rfl 9 4 U2 Tryz.underlying126 (plainElem (H:=Unit) Tryz.prog 4) w.heap.size _ _ rfl HM2.out HLEN.out _ _ _ rfl rfl HKEY.out _ _ (plainElem_bool Tryz.underlying4 true) ?_;intro w9 hown9 hgrow9)
     have hbu9:=grown_but hgrow9
     exact⟨⟨j+1,by omega,by go_num,Lib.hid (hbu9.blk HB2.out (by omega)),Lib.hid (by rw[HTR.out,List.cons_append,show min (j+1) ws.length+(JW bs k).length=((ws.take j).reverse++JW bs k).length+1 from by rw[List.length_append,List.length_reverse,List.length_take];omega];exact hown9),Lib.hid (HBU.out.trans hbu9),hbz.trans (hbu9.below (Nat.le_refl _) hbz.size)⟩,by simp[intOf];omega⟩
    ·have hjm:j=m:=by omega
     have hmw:=HML.out
     have hws:=HWZ.out.1
     go_wp2_with fail
     refine⟨⟨k+1,by omega,by go_num,HB2,Lib.hid (by have:=HM2.out;rw[hjm,List.take_of_length_le (by omega),←HSU.out]at this;exact this),hbz⟩,by simp[intOf];omega⟩
  ·have hkn:k=n:=by omega
   subst hkn
   go_wp2_with fail
   go_ret
   have hbl:Qv (wr.alloc (.cells #[.int .i64 0] 3)) wr.heap.size 3 #[.int .i64 ((0:Nat):Int)] (0,0):=World.alloc_heap_new _ _
   exact⟨w.heap.size+1,w.heap.size,wr.heap.size,_,rfl,⟨HB.out.keep (Qk (Below.refl _ _) _),HM.out.alloc _,hbl,by omega,by omega⟩,⟨by omega,by omega,hb.size⟩,Qk hb _⟩
end Go.Proofs.YticlbkficolocaaGreatDoor
namespace Go.Proofs.YticlbkficolocaaGreatDoor
open Go.RowKit Go.Sort
set_option linter.unusedVariables false
set_option linter.unusedSimpArgs false
set_option maxRecDepth 100000
theorem cellsS:Tryz.prog.cellsOf 9=1:=by kernel_rfl
theorem cellsI:Tryz.prog.cellsOf 3=1:=by kernel_rfl
theorem list_of {α:Type} {p:Nat→α→Prop}:∀ n:Nat,(∀ i,i<n→∃ x,p i x)→∃ l:List α,l.length=n∧∀ i x,l[i]? = some x→p i x
 | 0,_=>⟨[],rfl,fun i x h=>by simp at h⟩
 | n+1,h=>by
  obtain⟨l,h1,h2⟩:=list_of n (fun i hi=>h i (by omega))
  obtain⟨x,hx⟩:=h n (by omega)
  refine⟨l++[x],by simp[h1],fun i y hy=>?_⟩
  rw[List.getElem?_append]at hy
  split at hy
  ·exact h2 i y hy
  ·rename_i hn
   have hlt:=(List.getElem?_eq_some_iff.1 hy).1
   simp at hlt
   have:i=n:=by omega
   subst this
   rw[h1]at hy
   simp at hy
   subst hy
   exact hx
theorem plain_addr {w:World} {a:Addr} {v:Value} (h:w.cell? (a.add 0)=some v):∃ b o,a=⟨b,o,none⟩:=by
 obtain⟨b,o,s⟩:=a
 refine⟨b,o,?_⟩
 have e:(⟨b,o,s⟩:Addr).add 0=⟨b,o,s⟩:=by simp[Addr.add]
 rw[e]at h
 cases s with
 | none=>rfl
 | some s =>
  unfold World.cell? at h
  split at h <;> simp at h
theorem add_plain (b o j:Nat):(⟨b,o,none⟩:Addr).add j=⟨b,o+j,none⟩:=by
 unfold Addr.add;split <;> simp_all
section
variable {H:Type} {enc:TypeId × Value→H} {W:World} {base:Nat} {sp:Nat→Bool} {hd:Bool}
theorem VX {fuel:Nat} {v:Value} {x:DataW H × List MemPlace} (h:DataW.trod enc Tryz.prog W base sp hd fuel 22 [v]=some x):∃ (A:Option Addr) (n c:Nat) (xs:List ByteArray),v=.slice A n c∧xs.length=n∧Reads W 1 A n (xs.map .string):=by
 rcases Go.Deep.open_slice Tryz.underlying22 h with ⟨h0,_⟩ | ⟨a,len,cap,m,n,D,Pl,hcs,hb,hl,hm,hmm,hx,hi⟩
 ·injection h0 with h0
  subst h0
  exact⟨none,0,0,[],rfl,rfl,Reads.nil_ _ _ _⟩
 ·injection hcs with hcs
  subst hcs
  have hlm:len≤m:=by rw[hmm];split <;> omega
  obtain⟨xs,h1,h2⟩:=list_of (p:=fun i (s:ByteArray)=>W.cell? (a.add i)=some (.string s)) len (fun i hil=>by
   obtain⟨cs',hc,ht⟩:=hi i (by omega)
   rw[cellsS,Nat.mul_one]at hc
   obtain⟨s,rfl,_,hs⟩:=DataW.trod_string Tryz.underlying9 ht
   have:=(World.cells?_some hc).2.2 0 (by omega)
   exact⟨s,by simpa[Addr.add] using this⟩)
  refine⟨some a,len,cap,xs,rfl,h1,⟨by simp[h1],fun hn=>?_⟩⟩
  obtain⟨s0,hs0⟩:∃ s,xs[0]? = some s:=⟨_,List.getElem?_eq_getElem (by omega)⟩
  obtain⟨b,o,rfl⟩:=plain_addr (h2 0 s0 hs0)
  refine⟨b,o,rfl,fun j u hu=>?_⟩
  obtain⟨s,hs,rfl⟩:=JJ hu
  rw[←add_plain]
  exact h2 j s hs
theorem ints_reads {fuel:Nat} {v:Value} {x:DataW H × List MemPlace} (h:DataW.trod enc Tryz.prog W base sp hd fuel 53 [v]=some x):∃ (A:Option Addr) (n c:Nat) (xs:List Int),v=.slice A n c∧xs.length=n∧Reads W 1 A n (xs.map (.int .i64)):=by
 rcases Go.Deep.open_slice Tryz.underlying53 h with ⟨h0,_⟩ | ⟨a,len,cap,m,n,D,Pl,hcs,hb,hl,hm,hmm,hx,hi⟩
 ·injection h0 with h0
  subst h0
  exact⟨none,0,0,[],rfl,rfl,Reads.nil_ _ _ _⟩
 ·injection hcs with hcs
  subst hcs
  have hlm:len≤m:=by rw[hmm];split <;> omega
  obtain⟨xs,h1,h2⟩:=list_of (p:=fun i (s:Int)=>W.cell? (a.add i)=some (.int .i64 s)) len (fun i hil=>by
   obtain⟨cs',hc,ht⟩:=hi i (by omega)
   rw[cellsI,Nat.mul_one]at hc
   obtain⟨s,rfl,_,hs⟩:=DataW.trod_int Tryz.underlying3 ht
   have:=(World.cells?_some hc).2.2 0 (by omega)
   exact⟨s,by simpa[Addr.add] using this⟩)
  refine⟨some a,len,cap,xs,rfl,h1,⟨by simp[h1],fun hn=>?_⟩⟩
  obtain⟨s0,hs0⟩:∃ s,xs[0]? = some s:=⟨_,List.getElem?_eq_getElem (by omega)⟩
  obtain⟨b,o,rfl⟩:=plain_addr (h2 0 s0 hs0)
  refine⟨b,o,rfl,fun j u hu=>?_⟩
  obtain⟨s,hs,rfl⟩:=ints_at hu
  rw[←add_plain]
  exact h2 j s hs
end
theorem cellsVa:Tryz.prog.cellsOf 98=3:=by kernel_rfl
theorem cellsRu:Tryz.prog.cellsOf 57=18:=by kernel_rfl
section
variable {H:Type} {enc:TypeId × Value→H} {W:World} {base:Nat} {sp:Nat→Bool} {hd:Bool}
theorem rows_reads {α:Type} {t e:TypeId} {size:Nat} (hs:0<size) (ht:Tryz.prog.underlying t=some (.slice e)) (hc:Tryz.prog.cellsOf e=size) (cells:α→List Value) (R:α→Prop) (hlen:∀ a,(cells a).length=size)
  (hrow:∀ fuel cs x,cs.length=size→DataW.trod enc Tryz.prog W base sp hd fuel e cs=some x→∃ a,cs=cells a∧R a) {fuel:Nat} {v:Value} {x:DataW H × List MemPlace} (h:DataW.trod enc Tryz.prog W base sp hd fuel t [v]=some x) :
  ∃ (A:Option Addr) (n c:Nat) (L:List α),v=.slice A n c∧L.length=n∧Reads W size A n (L.flatMap cells)∧∀ a∈L,R a:=by
 rcases Go.Deep.open_slice ht h with ⟨h0,_⟩ | ⟨a,len,cap,m,n,D,Pl,hcs,hb,hl,hm,hmm,hx,hi⟩
 ·injection h0 with h0
  subst h0
  exact⟨none,0,0,[],rfl,rfl,Reads.nil_ _ _ _,fun a ha=>by cases ha⟩
 ·injection hcs with hcs
  subst hcs
  have hlm:len≤m:=by rw[hmm];split <;> omega
  obtain⟨L,h1,h2⟩:=list_of (p:=fun i (z:α)=>(∀ j u,(cells z)[j]? = some u→W.cell? ((a.add (i*size)).add j)=some u)∧R z) len (fun i hil=>by
   obtain⟨cs',hcc,ht'⟩:=hi i (by omega)
   rw[hc]at hcc
   obtain⟨_,hcl,hat⟩:=World.cells?_some hcc
   obtain⟨z,rfl,hz⟩:=hrow _ _ _ hcl ht'
   refine⟨z,fun j u hu=>?_,hz⟩
   have hj:=(List.getElem?_eq_some_iff.1 hu).1
   rw[hlen z]at hj
   rw[hat j hj];exact hu)
  refine⟨some a,len,cap,L,rfl,h1,⟨by rw[flat_len cells L (fun z _=>hlen z),h1],fun hn=>?_⟩,fun z hz=>?_⟩
  ·obtain⟨z0,hz0⟩:∃ z,L[0]? = some z:=⟨_,List.getElem?_eq_getElem (by omega)⟩
   have hu0:(cells z0)[0]? = some ((cells z0)[0]'(by rw[hlen];exact hs)):=List.getElem?_eq_getElem _
   obtain⟨b,o,rfl⟩:=plain_addr (a:=a) (w:=W) (by have:=(h2 0 z0 hz0).1 0 _ hu0;simpa[Addr.add] using this)
   refine⟨b,o,rfl,fun j u hu=>?_⟩
   have hjl:=(List.getElem?_eq_some_iff.1 hu).1
   rw[flat_len cells L (fun z _=>hlen z)]at hjl
   have hq:j / size<L.length:=Nat.div_lt_of_lt_mul (by rw[Nat.mul_comm];exact hjl)
   obtain⟨z,hz⟩:∃ z,L[j / size]? = some z:=⟨_,List.getElem?_eq_getElem hq⟩
   have hr:j % size<size:=Nat.mod_lt _ hs
   have hj:j / size*size+j % size=j:=by rw[Nat.mul_comm];exact Nat.div_add_mod j size
   have h3:=flat_at cells L (fun z _=>hlen z) (j / size) (j % size) z hz hr
   rw[hj,hu]at h3
   have h4:=(h2 (j / size) z hz).1 (j % size) u h3.symm
   rw[add_plain,add_plain,Nat.add_assoc,hj]at h4
   exact h4
  ·obtain⟨i,hi2,rfl⟩:=List.getElem_of_mem hz
   exact (h2 i _ (List.getElem?_eq_getElem hi2)).2
theorem slice_cap {t e:TypeId} (ht:Tryz.prog.underlying t=some (.slice e)) {A:Option Addr} {n c:Nat} {fuel:Nat} {x:DataW H × List MemPlace} (h:DataW.trod enc Tryz.prog W base sp hd fuel t [.slice A n c]=some x):n≤c:=by
 rcases Go.Deep.open_slice ht h with ⟨h0,_⟩ | ⟨a,len,cap,m,k,D,Pl,hcs,_,hl,hm,_⟩
 ·injection h0 with h0
  injection h0 with h1 h2 h3
  omega
 ·injection hcs with hcs
  injection hcs with h1 h2 h3
  omega
theorem vary_row {fuel:Nat} {cs:List Value} {x:DataW H × List MemPlace} (hl:cs.length=3) (h:DataW.trod enc Tryz.prog W base sp hd fuel 98 cs=some x):∃ y:Qo,cs=y.cells∧Zr W y∧y.v.values.length≤y.c:=by
 obtain⟨ys,n',hn',hy,hlen,hyl,hg⟩:=DataW.trod_struct Tryz.underlying98 h
 match cs,hl with
 | [c0,c1,c2],_ =>
  have hyl2:ys.length=3:=hyl
  have h0:DataW.trod enc Tryz.prog W base sp hd n' 9 [c0]=ys[0]?:=hg 0 _ rfl
  have h1:DataW.trod enc Tryz.prog W base sp hd n' 22 [c1]=ys[1]?:=hg 1 _ rfl
  have h2:DataW.trod enc Tryz.prog W base sp hd n' 9 [c2]=ys[2]?:=hg 2 _ rfl
  rw[List.getElem?_eq_getElem (by omega)]at h0 h1 h2
  obtain⟨hdr,e0,_⟩:=DataW.trod_string Tryz.underlying9 h0
  obtain⟨A,n,c,vs,rfl,l1,r1⟩:=VX h1
  have k1:=slice_cap Tryz.underlying22 h1
  obtain⟨df,e2,_⟩:=DataW.trod_string Tryz.underlying9 h2
  injection e0 with e0
  injection e2 with e2
  subst e0;subst e2;subst l1
  exact⟨⟨⟨hdr,vs,df⟩,A,c⟩,rfl,r1,k1⟩
theorem cond_row {fuel:Nat} {c0 c1 c2 c3 c4 c5 c6:Value} {x:DataW H × List MemPlace} (h:DataW.trod enc Tryz.prog W base sp hd fuel 55 [c0,c1,c2,c3,c4,c5,c6]=some x):∃ (c:ZV) (m:Zy),[c0,c1,c2,c3,c4,c5,c6]=[.int .i64 c.fr,.int .i64 c.till,.string c.pat,.slice m.A c.cl.length m.ca,.slice m.B c.co.length m.cb,.slice m.S c.si.length m.cs,.int .i64 c.us]∧Xm W c m:=by
 obtain⟨ys,n',hn',hy,hlen,hyl,hg⟩:=DataW.trod_struct Tryz.underlying55 h
 have hyl2:ys.length=7:=hyl
 have h0:DataW.trod enc Tryz.prog W base sp hd n' 3 [c0]=ys[0]?:=hg 0 _ rfl
 have h1:DataW.trod enc Tryz.prog W base sp hd n' 3 [c1]=ys[1]?:=hg 1 _ rfl
 have h2:DataW.trod enc Tryz.prog W base sp hd n' 9 [c2]=ys[2]?:=hg 2 _ rfl
 have h3:DataW.trod enc Tryz.prog W base sp hd n' 22 [c3]=ys[3]?:=hg 3 _ rfl
 have h4:DataW.trod enc Tryz.prog W base sp hd n' 22 [c4]=ys[4]?:=hg 4 _ rfl
 have h5:DataW.trod enc Tryz.prog W base sp hd n' 53 [c5]=ys[5]?:=hg 5 _ rfl
 have h6:DataW.trod enc Tryz.prog W base sp hd n' 3 [c6]=ys[6]?:=hg 6 _ rfl
 rw[List.getElem?_eq_getElem (by omega)]at h0 h1 h2 h3 h4 h5 h6
 obtain⟨fr,e0,_⟩:=DataW.trod_int Tryz.underlying3 h0
 obtain⟨till,e1,_⟩:=DataW.trod_int Tryz.underlying3 h1
 obtain⟨pat,e2,_⟩:=DataW.trod_string Tryz.underlying9 h2
 obtain⟨us,e6,_⟩:=DataW.trod_int Tryz.underlying3 h6
 obtain⟨A,na,ca,cl,rfl,l1,r1⟩:=VX h3
 obtain⟨B,nb,cb,co,rfl,l2,r2⟩:=VX h4
 obtain⟨S,ns,cs,si,rfl,l3,r3⟩:=ints_reads h5
 injection e0 with e0
 injection e1 with e1
 injection e2 with e2
 injection e6 with e6
 subst e0;subst e1;subst e2;subst e6;subst l1;subst l2;subst l3
 exact⟨⟨fr,till,pat,cl,co,si,us⟩,⟨A,ca,B,cb,S,cs⟩,rfl,⟨r1,r2,r3⟩⟩
theorem rule_row {fuel:Nat} {cs:List Value} {x:DataW H × List MemPlace} (hl:cs.length=18) (h:DataW.trod enc Tryz.prog W base sp hd fuel 57 cs=some x):∃ y:Qh,cs=y.cells∧Xx W y∧Jk y:=by
 obtain⟨ys,n',hn',hy,hlen,hyl,hg⟩:=DataW.trod_struct Tryz.underlying57 h
 match cs,hl with
 | [c0,c1,c2,c3,c4,c5,c6,c7,c8,c9,c10,c11,c12,c13,c14,c15,c16,c17],_ =>
  have hyl2:ys.length=12:=hyl
  have h0:DataW.trod enc Tryz.prog W base sp hd n' 9 [c0]=ys[0]?:=hg 0 _ rfl
  have h1:DataW.trod enc Tryz.prog W base sp hd n' 9 [c1]=ys[1]?:=hg 1 _ rfl
  have h2:DataW.trod enc Tryz.prog W base sp hd n' 22 [c2]=ys[2]?:=hg 2 _ rfl
  have h3:DataW.trod enc Tryz.prog W base sp hd n' 3 [c3]=ys[3]?:=hg 3 _ rfl
  have h4:DataW.trod enc Tryz.prog W base sp hd n' 3 [c4]=ys[4]?:=hg 4 _ rfl
  have h5:DataW.trod enc Tryz.prog W base sp hd n' 3 [c5]=ys[5]?:=hg 5 _ rfl
  have h6:DataW.trod enc Tryz.prog W base sp hd n' 3 [c6]=ys[6]?:=hg 6 _ rfl
  have h7:DataW.trod enc Tryz.prog W base sp hd n' 52 [c7]=ys[7]?:=hg 7 _ rfl
  have h8:DataW.trod enc Tryz.prog W base sp hd n' 55 [c8,c9,c10,c11,c12,c13,c14]=ys[8]?:=hg 8 _ rfl
  have h9:DataW.trod enc Tryz.prog W base sp hd n' 4 [c15]=ys[9]?:=hg 9 _ rfl
  have h10:DataW.trod enc Tryz.prog W base sp hd n' 3 [c16]=ys[10]?:=hg 10 _ rfl
  have h11:DataW.trod enc Tryz.prog W base sp hd n' 9 [c17]=ys[11]?:=hg 11 _ rfl
  rw[List.getElem?_eq_getElem (by omega)]at h0 h1 h2 h3 h4 h5 h6 h7 h8 h9 h10 h11
  obtain⟨nm,e0,_⟩:=DataW.trod_string Tryz.underlying9 h0
  obtain⟨pa,e1,_⟩:=DataW.trod_string Tryz.underlying9 h1
  obtain⟨T,nt,ct,ts,rfl,l2,r2⟩:=VX h2
  have k2:=slice_cap Tryz.underlying22 h2
  obtain⟨fr,e3,_⟩:=DataW.trod_int Tryz.underlying3 h3
  obtain⟨st,e4,_⟩:=DataW.trod_int Tryz.underlying3 h4
  obtain⟨dn,e5,_⟩:=DataW.trod_int Tryz.underlying3 h5
  obtain⟨ng,e6,_⟩:=DataW.trod_int Tryz.underlying3 h6
  obtain⟨V,nv,cv,L,e7,l7,r7,k7⟩:=rows_reads (by decide) Tryz.underlying52 cellsVa Qo.cells (fun y=>Zr W y∧y.v.values.length≤y.c) (fun a=>a.cells_len) (fun f cs x hl h=>vary_row hl h) h7
  subst e7
  have kv:=slice_cap Tryz.underlying52 h7
  obtain⟨c,m,e8,r8⟩:=cond_row h8
  obtain⟨sg,e9,_⟩:=DataW.trod_bool Tryz.underlying4 h9
  obtain⟨co,e10,_⟩:=DataW.trod_int Tryz.underlying3 h10
  obtain⟨pg,e11,_⟩:=DataW.trod_string Tryz.underlying9 h11
  simp only[List.cons.injEq,and_true]at e0 e1 e3 e4 e5 e6 e8 e9 e10 e11
  obtain⟨f0,f1,f2,f3,f4,f5,f6⟩:=e8
  subst e0 e1 e3 e4 e5 e6 e10 e11 f0 f1 f2 f3 f4 f5 f6 l2 l7
  refine⟨⟨⟨nm,pa,ts,fr,st,dn,ng,L.map (·.v),c,sg,co,pg⟩,T,ct,V,cv,L,m⟩,?_,⟨r2,?_,rfl,fun y hy=>(k7 y hy).1,r8⟩,⟨k2,fun y hy=>(k7 y hy).2,by show (L.map (·.v)).length≤cv;rw[List.length_map];exact kv⟩⟩
  ·simp[Qh.cells,e9]
  ·show Reads W 3 V (L.map (·.v)).length _
   rw[List.length_map];exact r7
end
section
variable {H:Type} {enc:TypeId × Value→H} {W:World} {base:Nat} {sp:Nat→Bool} {hd:Bool}
theorem slice_bound {t e:TypeId} (ht:Tryz.prog.underlying t=some (.slice e)) {A:Option Addr} {n c:Nat} {fuel:Nat} {x:DataW H × List MemPlace} (h:DataW.trod enc Tryz.prog W base sp hd fuel t [.slice A n c]=some x):n≤9223372036854775807:=by
 rcases Go.Deep.open_slice ht h with ⟨h0,_⟩ | ⟨a,len,cap,m,k,D,Pl,hcs,_,hl,hm,_⟩
 ·injection h0 with h0
  injection h0 with h1 h2 h3
  omega
 ·injection hcs with hcs
  injection hcs with h1 h2 h3
  unfold maxLen at hm
  omega
theorem cellsPol:Tryz.prog.cellsOf 25=3:=by kernel_rfl
def D16.cells (d:D16):List Value:=[.int .u8 d.a0,.int .u8 d.a1,.int .u8 d.a2,.int .u8 d.a3,.int .u8 d.a4,.int .u8 d.a5,.int .u8 d.a6,.int .u8 d.a7,.int .u8 d.a8,.int .u8 d.a9,.int .u8 d.a10,.int .u8 d.a11,.int .u8 d.a12,.int .u8 d.a13,.int .u8 d.a14,.int .u8 d.a15]
end
section
variable {H:Type} {enc:TypeId × Value→H} {W:World} {base:Nat} {sp:Nat→Bool} {hd:Bool}
theorem open_texts {r:Reach} {b0:Nat} {v:Value} {d:DataW H} {ps:List MemPlace} (hval:Value.okWide Tryz.prog W r b0 22 v) (h:DataW.Trod enc Tryz.prog W base sp hd 22 v d ps) :
  ∃ (A:Option Addr) (n c:Nat) (xs:List ByteArray),v=.slice A n c∧Reads W 1 A n (xs.map .string)∧n≤9223372036854775807:=by
 obtain⟨fuel,hf⟩:=h
 obtain⟨A,n,c,rfl⟩:=Go.WideShapes.okWide_slice Tryz.underlying22 hval
 have hf2:DataW.trod enc Tryz.prog W base sp hd fuel 22 [.slice A n c]=some (d,ps):=by simpa[Value.cells] using hf
 obtain⟨A',n',c',xs,he,hl,hR⟩:=VX hf2
 injection he with e1 e2 e3
 subst e1;subst e2;subst e3
 exact⟨A,n,c,xs,rfl,hR,slice_bound Tryz.underlying22 hf2⟩
end
section
variable {H:Type} {enc:TypeId × Value→H} {W:World} {base:Nat} {sp:Nat→Bool} {hd:Bool}
theorem open_polC {r:Reach} {b0:Nat} {v:Value} {d:DataW H} {ps:List MemPlace} (hval:Value.okWide Tryz.prog W r b0 25 v) (h:DataW.Trod enc Tryz.prog W base sp hd 25 v d ps) :
  ∃ (cu:ByteArray) (pa:Int) (A:Option Addr) (n c:Nat) (L:List Qh),v=.agg #[.string cu,.int .i64 pa,.slice A n c]∧Qs W A n L∧n≤9223372036854775807∧(∀ x∈L,Jk x)∧n≤c:=by
 obtain⟨cs,rfl,hsz⟩:=Go.WideShapes.okWide_struct Tryz.underlying25 hval
 obtain⟨l⟩:=cs
 obtain⟨fuel,hf⟩:=h
 have hl:l.length=3:=hsz.trans cellsPol
 obtain⟨ys,n',hn',hy,hlen,hyl,hg⟩:=DataW.trod_struct Tryz.underlying25 hf
 match l,hl with
 | [c0,c1,c2],_ =>
  have hyl2:ys.length=3:=hyl
  have h0:DataW.trod enc Tryz.prog W base sp hd n' 9 [c0]=ys[0]?:=hg 0 _ rfl
  have h1:DataW.trod enc Tryz.prog W base sp hd n' 3 [c1]=ys[1]?:=hg 1 _ rfl
  have h2:DataW.trod enc Tryz.prog W base sp hd n' 23 [c2]=ys[2]?:=hg 2 _ rfl
  rw[List.getElem?_eq_getElem (by omega)]at h0 h1 h2
  obtain⟨cu,e0,_⟩:=DataW.trod_string Tryz.underlying9 h0
  obtain⟨pa,e1,_⟩:=DataW.trod_int Tryz.underlying3 h1
  obtain⟨A,n,c,L,rfl,hl,hr,hx⟩:=rows_reads (by decide) Tryz.underlying23 cellsRu Qh.cells (fun y=>Xx W y∧Jk y) (fun a=>a.cells_len) (fun f cs x hl h=>rule_row hl h) h2
  injection e0 with e0
  injection e1 with e1
  subst e0;subst e1
  exact⟨cu,pa,A,n,c,L,rfl,⟨hl,hr,fun x h=>(hx x h).1⟩,slice_bound Tryz.underlying23 h2,fun x h=>(hx x h).2,slice_cap Tryz.underlying23 h2⟩
end
end Go.Proofs.YticlbkficolocaaGreatDoor
