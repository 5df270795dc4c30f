/- variant.union of texts: the members of both lists. -/
import Derived.Test.YticlbkficolocaaGreatDoorIZ38
import Derived.Test.YticlbkficolocaaGreatDoorIZ39
set_option maxHeartbeats 8000000
namespace Go.Proofs.YticlbkficolocaaGreatDoor
open Go.RowKit Go.Sort
set_option linter.unusedVariables false
set_option linter.unusedSimpArgs false
set_option maxRecDepth 100000
theorem clone_own (A:Option Addr) (n c:Nat) (zs:List ByteArray) (w:World) (hA:Reads w 1 A n (zs.map .string)) (hn:n≤1000000):Calls Tryz.prog 176 #[.slice A n c] w fun e w'=>∃ v,e=.returned v∧w'.ownsRow w.heap.size 9 1 v n (zs.map .string)∧Below w.heap.size w w':=by
 rcases Nat.eq_zero_or_pos n with h0 | h0
 ·subst h0
  obtain rfl:zs=[]:=List.eq_nil_of_length_eq_zero (by have:=hA.1;simpa using this)
  cases A with
  | none=>exact (Tryz.slices_Clone_string_nil 0 c w).mono fun e w' ⟨h1,h2⟩=>⟨_,h1,⟨rfl,.inl ⟨rfl,rfl⟩⟩,by rw[h2];exact Below.refl _ _⟩
  | some a =>
   refine (Tryz.slices_Clone_string_zero a c w).mono ?_
   rintro e w' ⟨v',rfl,hown,_,hb⟩
   exact⟨v',rfl,hown,hb⟩
 ·exact (cloneS A n c zs w hA h0 hn).mono fun e w' ⟨g,cap,h1,h2,h3⟩=>⟨_,h1,h2,h3⟩
theorem enc_toB (l:List (List UInt8)):l.map encStr=(l.map Zd).map .string:=by rw[List.map_map];rfl
theorem sort_own (zs:List ByteArray) (n base:Nat) (v:Value) (w:World) (hrow:w.ownsRow base 9 1 v n (zs.map .string)) (hn:n≤1000000) (hbs:base≤w.heap.size) :
  Calls Tryz.prog 172 #[v] w fun e w'=>e=.returned (.tuple #[])∧w'.ownsRow base 9 1 v n ((sortL (lists zs)).map encStr)∧Below base w w':=by
 have hll:=lists_len zs
 have hln:zs.length=n:=by have:=hrow.1;simp at this;omega
 rw[lists_enc]at hrow
 rcases hrow.2 with ⟨rfl,hz⟩ | ⟨gb,cap,cur,rfl,hbase,hgb,r1,r2,r3,r4⟩
 ·have hps:zs=[]:=List.eq_nil_of_length_eq_zero (by omega)
  subst hps
  subst hz
  refine (Tryz.slices_Sort_string_none none 0 w).mono ?_
  rintro e w' ⟨rfl,rfl⟩
  exact⟨rfl,by simpa[lists,sortL] using hrow,Below.refl _ _⟩
 ·have hH:Holds encStr w gb 0 (lists zs).toArray:=holds_of_block hgb (by rw[hll,hln];simpa using r4)
  have hgl:gb<w.heap.size:=(Array.getElem?_eq_some_iff.1 hgb).1
  have cS:=Tryz.slices_Sort_string gb 0 cap (lists zs) w hH hgl (by omega)
  rw[hll,hln]at cS
  refine cS.mono ?_
  rintro e w' ⟨rfl,nn,os,rfl⟩
  refine⟨rfl,?_,(Below.refl base w).grown (grownBy_sorted _) hbs (fun j hj=>by cases hj;exact hbase)⟩
  have:=ownsRow_sorted (w:=w) (base:=base) (g:=gb) (cap:=cap) (n:=nn) (e:=9) (os:=os) (cur:=cur) (ss:=lists zs) (ts:=sortL (lists zs)) (by simp[sortL]) hbase hgb (by rw[hll,hln];exact r1) r2 (by rw[r3])
  rw[hll,hln]at this
  exact this
theorem compact_own (zs:List (List UInt8)) (n base:Nat) (v:Value) (w:World) (hrow:w.ownsRow base 9 1 v n (zs.map encStr)) (hn:n≤1000000) (hbs:base≤w.heap.size) :
  Calls Tryz.prog 116 #[v] w fun e w'=>∃ S c,e=.returned (.slice S (Lib.compact zs).length c)∧Reads w' 1 S (Lib.compact zs).length (((Lib.compact zs).map Zd).map .string)∧Below base w w':=by
 have hln:zs.length=n:=by have:=hrow.1;simp at this;omega
 have hcl:=Lib.compact_length_le zs
 rcases hrow.2 with ⟨rfl,hz⟩ | ⟨gb,cap,cur,rfl,hbase,hgb,r1,r2,r3,r4⟩
 ·subst hz
  obtain rfl:zs=[]:=List.eq_nil_of_length_eq_zero hln
  refine (Tryz.slices_Compact_string_empty none 0 w).mono ?_
  rintro e w' ⟨rfl,rfl⟩
  exact⟨none,0,rfl,⟨rfl,fun h=>absurd h (by decide)⟩,Below.refl _ _⟩
 ·have hH:Holds encStr w gb 0 zs.toArray:=holds_of_block hgb (by rw[hln];simpa using r4)
  have hgl:gb<w.heap.size:=(Array.getElem?_eq_some_iff.1 hgb).1
  have cK:=Tryz.slices_Compact_string gb 0 cap zs w hH (by omega) (by omega)
  rw[hln]at cK
  refine cK.mono ?_
  rintro e w3 ⟨rfl,q,hw3⟩
  have hb3:Below base w w3:=by
   have hb0:Below base w w:=Below.refl base w
   rw[hw3]
   exact hb0.grown (grownBy_put (w:=w) (g:=gb) (n:=q) (Lib.compact zs++List.replicate (n-(Lib.compact zs).length) []).toArray) hbs (fun j hj=>by cases hj;exact hbase)
  refine⟨some ⟨gb,0,none⟩,cap,rfl,⟨by simp,fun _=>⟨gb,0,rfl,fun j u hu=>?_⟩⟩,hb3⟩
  rw[hw3]
  clear hb3 hw3
  have hh:=holds_putRow encStr (Sort.ahead w q) gb 0 zs.toArray (Lib.compact zs++List.replicate (n-(Lib.compact zs).length) []).toArray hH (by simp;omega)
  rw[←enc_toB,List.getElem?_map,Option.map_eq_some_iff]at hu
  obtain⟨y,hy,rfl⟩:=hu
  have hjl:j<(Lib.compact zs).length:=(List.getElem?_eq_some_iff.1 hy).1
  have h1:=(hh j (by simp;omega)).1
  rw[h1]
  congr 1
  rw[getElem!_pos _ j (by simp;omega)]
  have:(Lib.compact zs++List.replicate (n-(Lib.compact zs).length) ([]:List UInt8)).toArray[j]'(by simp;omega)=y:=by
   obtain⟨_,h2⟩:=List.getElem?_eq_some_iff.1 hy
   simp[List.getElem_append_left hjl,h2]
  rw[this]
def V8 (xs ys:List ByteArray) (w:World) (e:Ending) (w':World):Prop :=
 Below w.heap.size w w'∧∃ (S:Option Addr) (c:Nat) (zs:List ByteArray),e=.returned (.slice S zs.length c)∧Reads w' 1 S zs.length (zs.map .string)∧(∀ x:ByteArray,x∈zs↔x∈xs∨x∈ys)∧zs.length≤xs.length+ys.length
theorem union_mem (xs ys:List ByteArray) (x:ByteArray):x∈(Lib.compact (sortL (lists (xs++ys)))).map Zd↔x∈xs∨x∈ys:=by
 have h:=(Yc (xs++ys)).2
 unfold tagZ at h
 rw[List.mem_map,←List.mem_append]
 constructor
 ·rintro⟨a,ha,rfl⟩
  obtain⟨q,hq,rfl⟩:=List.mem_map.1 ((h a).1 ha)
  have:Zd q.data.toList=q:=Qm (by simp[Zd])
  rw[this];exact hq
 ·intro hx
  exact⟨x.data.toList,(h _).2 (List.mem_map.2 ⟨x,hx,rfl⟩),Qm (by simp[Zd])⟩
theorem union_any (A:Option Addr) (na ca:Nat) (B:Option Addr) (nb cb:Nat) (xs ys:List ByteArray) (w:World) (hA:Reads w 1 A na (xs.map .string)) (hB:Reads w 1 B nb (ys.map .string)) (h1:na≤1000) (h2:nb≤1000) :
  Calls Tryz.prog 129 #[.slice A na ca,.slice B nb cb] w (V8 xs ys w):=by
 have hla:xs.length=na:=by have:=hA.1;simp at this;omega
 have hlb:ys.length=nb:=by have:=hB.1;simp at this;omega
 obtain⟨i0,hi0,hz0,hz1,hz2⟩:=info_parts V4
 have HI:=Lib.hid (And.intro hi0 (And.intro hz0 (And.intro hz1 hz2)))
 have cC:=clone_own A na ca xs w hA (by omega)
 have cS:=fun v W=>sort_own (xs++ys) (na+nb) w.heap.size v W
 have cK:=fun v W=>compact_own (sortL (lists (xs++ys))) (na+nb) w.heap.size v W
 have hP:∀ e w',Below w.heap.size w w'→(∃ S c,e=.returned (.slice S (Lib.compact (sortL (lists (xs++ys)))).length c)∧Reads w' 1 S (Lib.compact (sortL (lists (xs++ys)))).length (((Lib.compact (sortL (lists (xs++ys)))).map Zd).map .string))→V8 xs ys w e w':=by
  rintro e w' hb ⟨S,c,rfl,hR⟩
  refine⟨hb,S,c,(Lib.compact (sortL (lists (xs++ys)))).map Zd,by rw[List.length_map],by rw[List.length_map];exact hR,union_mem xs ys,?_⟩
  have h1:=Lib.compact_length_le (sortL (lists (xs++ys)))
  have h2:(sortL (lists (xs++ys))).length=xs.length+ys.length:=by simp[sortL,lists]
  rw[List.length_map]
  omega
 generalize Lib.compact (sortL (lists (xs++ys)))=K at *
 generalize sortL (lists (xs++ys))=Z at *
 generalize hR:V8 xs ys w=R at *
 have HC:=Lib.hid cC;have HS:=Lib.hid cS;have HK:=Lib.hid cK;have HP:=Lib.hid hP;have HB:=Lib.hid hB
 clear hi0 hz0 hz1 hz2 cC cS cK hP hA hB hla hlb hR
 go_enter Tryz.func129,Tryz.ntmps129
 go_wp2_with (first | (go_at_call 176;refine HC.out.mono ?_;rintro e w1 ⟨v1,rfl,hown1,hb1⟩;have HO1:=Lib.hid hown1;clear hown1) | (at_builtin;refine J8 _ rfl _ _ 22 rfl w.heap.size 9 i0 (.string ⟨#[]⟩) 16 Tryz.underlying22 HI.out.1 HI.out.2.1 HI.out.2.2.1 HI.out.2.2.2 rfl _ _ _ rfl HO1.out B nb cb (ys.map .string) rfl (HB.out.keep hb1) (strs_one _) (by unfold maxLen;omega) (by omega) hb1.size ?_;intro v2 w2 hown2 hg2;rw[←List.map_append]at hown2;have hb2:Below w.heap.size w w2:=hb1.grown hg2 hb1.size (fun r e=>(HO1.out.lt r e).1)) | (go_at_call 172;refine (HS.out _ _ hown2 (by omega) hb2.size).mono ?_;rintro e w3 ⟨rfl,hown3,hb3⟩) | (go_at_call 116;refine (HK.out _ _ hown3 (by omega) (by have:=hb2.size;have:=hb3.size;omega)).mono ?_;rintro e w4 ⟨S,c,rfl,hr4,hb4⟩))
 exact HP.out _ _ ((hb2.trans hb3).trans hb4) ⟨S,c,rfl,hr4⟩
structure ZQ where
 h:List Hdr
 A:Option Addr
 c:Nat
def ZQ.cells (x:ZQ):List Value:=[.slice x.A x.h.length x.c]
theorem ZQ.cells_len (x:ZQ):x.cells.length=1:=rfl
structure Zf (w:World) (x:ZQ):Prop where
 r:X4 w x.A x.h.length x.h
 t:Ul w x.A x.h.length 142
 l:x.h.length≤1
theorem Zf.keep {w w':World} {x:ZQ} (h:Zf w x) (hb:Below w.heap.size w w'):Zf w' x:=⟨h.r.keep hb,h.t.keep hb,h.l⟩
theorem own_cells_type {W:World} {base n size:Nat} {e:TypeId} {v:Value} {xs:List Value} (h:W.ownsRow base e size v n xs) {g:Nat} (hg:v.ownBlock=some g):∃ cs,W.heap[g]? = some (.cells cs e (0,0)):=by
 rcases h.2 with ⟨rfl,_⟩ | ⟨g',cap,cur,rfl,h1,h2,_⟩
 ·cases hg
 ·injection hg with hg
  subst hg
  exact⟨cur,h2⟩
theorem Zf.grown {W W':World} {base n:Nat} {v:Value} {xs:List Value} {x:ZQ} (h:Zf W x) (ho:W.ownsRow base 41 1 v n xs) (hg:W.grownBy W' v.ownBlock):Zf W' x:=by
 rcases Nat.eq_zero_or_pos x.h.length with h0 | h0
 ·refine⟨⟨rfl,?_⟩,fun h=>absurd h (by omega),h.l⟩
  refine⟨?_,fun h=>absurd h (by omega)⟩
  have:=h.r.rows.1
  exact this
 ·obtain⟨b,o,cs,fr,hA,hB⟩:=h.t h0
  have hbl:b<W.heap.size:=(Array.getElem?_eq_some_iff.1 hB).1
  have hne:some b≠v.ownBlock:=by
   intro he
   obtain⟨cs',hc⟩:=own_cells_type ho he.symm
   have h3:=hB.symm.trans hc
   injection h3 with h3
   injection h3 with _ h3 _
   exact absurd h3 (by decide)
  have hblk:W'.heap[b]? = W.heap[b]?:=hg.block b hbl (by first | exact hne | exact fun e=>hne e.symm)
  refine⟨⟨rfl,⟨h.r.rows.1,fun _=>?_⟩⟩,fun _=>⟨b,o,cs,fr,hA,hblk.trans hB⟩,h.l⟩
  obtain⟨b',o',hA',hc⟩:=h.r.rows.2 h0
  rw[hA]at hA'
  injection hA' with hA'
  injection hA' with e1 e2 _
  subst e1;subst e2
  exact⟨b,o,hA,fun j u hu=>(World.cell?_of_block hblk).trans (hc j u hu)⟩
theorem samp_new (W:World) (hd y:ByteArray) (o:Obj):Zf ((W.alloc (.cells #[.string hd,.string y] 142)).alloc o) ⟨[⟨hd,y⟩],some ⟨W.heap.size,0,none⟩,1⟩:=by
 have hB:Qv ((W.alloc (.cells #[.string hd,.string y] 142)).alloc o) W.heap.size 142 #[.string hd,.string y] (0,0):=heap_alloc2_old W _ _
 refine⟨⟨rfl,⟨rfl,fun _=>⟨W.heap.size,0,rfl,fun j u hu=>?_⟩⟩⟩,fun _=>⟨_,0,_,_,rfl,hB⟩,by simp⟩
 rw[Nat.zero_add]
 exact (cell_of_row _ _ j _ _ _ hB).trans (by simpa[Hdr.cells] using hu)
theorem Vz (w:World) (x:Value) (t:TypeId) (g:Nat) (hg:g=w.heap.size):∀ j u,[x][j]? = some u→(w.alloc (.cells #[x] t)).cell? ((⟨g,0,none⟩:Addr).add j)=some u:=by
 subst hg
 exact cell_one_new w x t
theorem samp_nil (W:World):Zf W ⟨[],none,0⟩:=⟨⟨rfl,Reads.nil_ _ _ _⟩,fun h=>absurd h (by simp),by simp⟩
structure Jv (w:World) (A:Option Addr) (n:Nat) (L:List ZQ):Prop where
 len:L.length=n
 rows:Reads w 1 A n (L.flatMap ZQ.cells)
 each:∀ x∈L,Zf w x
theorem Jv.keep {w w':World} {A:Option Addr} {n:Nat} {L:List ZQ} (h:Jv w A n L) (hb:Below w.heap.size w w'):Jv w' A n L:=⟨h.len,h.rows.keep hb,fun x hx=>(h.each x hx).keep hb⟩
theorem Jv.at_ {w:World} {A:Option Addr} {n k:Nat} {L:List ZQ} {x:ZQ} (h:Jv w A n L) (hk:L[k]? = some x) :
  Zf w x∧∃ b o,A=some ⟨b,o,none⟩∧∀ j u,x.cells[j]? = some u→w.cell? ⟨b,o+k*1+j,none⟩=some u :=
 ⟨h.each x (List.mem_of_getElem? hk),Reads.row h.rows (fun a _=>a.cells_len) h.len hk⟩
def SampPost (a:List Zo) (v:Zo) (w:World) (e:Ending) (w':World):Prop :=
 Below w.heap.size w w'∧∃ A c L,e=.returned (.slice A L.length c)∧Jv w' A L.length L∧L.length≤21∧YV a v (L.map (·.h))
theorem infSlH:(Tryz.prog.info? 41).map (fun i=>(i.zero,i.size,i.bytes))=some (some (.slice none 0 0),1,24):=by kernel_rfl
def oneH (hd y:ByteArray):List Hdr:=[⟨hd,y⟩]
theorem samples_spec {a:List Zo} {v:Zo} {zs:List ByteArray} {S:List (List Hdr)} (hz:∀ y,y∈zs↔(y∈v.values∨∃ u∈a,u.header=v.header∧y∈u.values)) (hS:S=zs.map (oneH v.header)++[[]]):YV a v S:=by
 subst hS
 exact⟨by simp,fun x hx=>List.mem_append.2 (.inl (List.mem_map.2 ⟨x,(hz x).2 hx,rfl⟩))⟩
theorem of_at {a:List Qo} (hc:XU a=0) (h:ByteArray):(ofV a h = -1∧∀ u∈a,u.v.header≠h)∨∃ (j:Nat) (x:Qo),ofV a h=(j:Int)∧a[j]? = some x∧x.v.header=h∧∀ u∈a,u.v.header=h→u=x:=by
 rcases find_idx (fun x:Qo=>x.v.header.toList==h.toList) a 0 with ⟨h1,h2⟩ | ⟨j,x,h1,h2,h3⟩
 ·refine .inl ⟨h1,fun u hu e=>?_⟩
  have:=List.find?_eq_none.1 h2 u hu
  simp[e]at this
 ·have hx:x.v.header=h:=Qm (by
   have:=List.find?_some h3
   rw[Lib.toList_data,Lib.toList_data]at this
   simpa using this)
  refine .inr ⟨j,x,by unfold ofV;rw[h1,Nat.zero_add],h2,hx,fun u hu e=>?_⟩
  obtain⟨i,hi⟩:=List.mem_iff_getElem?.1 hu
  have:=check_once hc hi h2 (by rw[e,hx])
  subst this
  exact Option.some.inj (hi.symm.trans h2)
def ValsOf (a:List Qo) (v:Zo) (zs:List ByteArray):Prop:=∀ y:ByteArray,y∈zs↔(y∈v.values∨∃ u∈a.map (·.v),u.header=v.header∧y∈u.values)
def sampO (v:Value) (k:Nat) (B:Option Addr) (d:Nat):Prop:=v=.slice B k d
theorem samples_any (A:Option Addr) (n c:Nat) (L:List Qo) (x:Qo) (w:World) (hL:QX w A n L) (hf:∀ y∈L,Xi y.v) (hn:n≤10) (hx:Zr w x) (hxf:Xi x.v) (hck:XU L=0) :
  Calls Tryz.prog 70 #[.slice A n c,x.val] w (SampPost (L.map (·.v)) x.v w):=by
 obtain⟨P,hP⟩:∃ P,P=SampPost (L.map (·.v)) x.v w:=⟨_,rfl⟩
 rw[←hP]
 have HP:=Lib.hid hP
 clear hP
 obtain⟨i0,hi0,hz0,hz1,hz2⟩:=info_parts infSlH
 have HI:=Lib.hid (And.intro hi0 (And.intro hz0 (And.intro hz1 hz2)))
 have cO:=fun (W:World) (hb:Below w.heap.size w W)=>of_any24 A n c L x.v.header W (hL.keep hb) (by omega)
 have hof:=of_at hck x.v.header
 generalize ofV L x.v.header=ov at *
 have HO:=Lib.hid cO;have HOF:=Lib.hid hof;have HL:=Lib.hid hL;have HF:=Lib.hid hf;have HX:=Lib.hid hx;have HXF:=Lib.hid hxf
 have hvl:=hxf.n
 clear hi0 hz0 hz1 hz2 cO hof hL hf hx hxf hck
 rw[Qo.val_eq]
 go_enter Tryz.func70,Tryz.ntmps70
 go_upto_region 1 with fail
 generalize hw0:World.alloc _ _=w0
 have hS:Zl w0 w.heap.size 98 #[.string x.v.header,.slice x.A x.v.values.length x.c,.string x.v.dflt]:=by rw[←hw0];exact heap_alloc_new w _
 have hbw:Below w.heap.size w w0:=by rw[←hw0];exact Qk (Below.refl _ _) _
 have hs0:w.heap.size+1≤w0.heap.size:=by rw[←hw0];simp
 clear hw0
 have c0:w0.cell? ⟨w.heap.size,0,none⟩=some (.string x.v.header):=hS.cell rfl
 have c1:w0.cell? ⟨w.heap.size,1,none⟩=some (.slice x.A x.v.values.length x.c):=hS.cell rfl
 go_upto_if 17 with (go_at_call 128;refine (HO.out _ hbw).mono ?_;rintro e w2 ⟨rfl,hb2⟩)
 have hS2:=hS.keep hb2
 have hbw2:=Qj hbw hb2
 have hs2:w.heap.size+1≤w2.heap.size:=by have:=hb2.size;omega
 clear c0 c1 hS hbw hb2
 have c1:w2.cell? ⟨w.heap.size,1,none⟩=some (.slice x.A x.v.values.length x.c):=hS2.cell rfl
 have HS2:=Lib.hid hS2
 clear hS2
 go_cut [5] (fun v wx=>∃ S d zs,v=.slice S zs.length d∧Hid (Reads wx 1 S zs.length (zs.map .string))∧Hid (ValsOf L x.v zs)∧zs.length≤20∧Below w2.heap.size w2 wx)
 case first =>
  rcases HOF.out with ⟨rfl,hno⟩ | ⟨j,y,rfl,hj,hyh,hun⟩
  ·have hvals:ValsOf L x.v x.v.values:=fun z=>⟨.inl,fun h=>h.elim id (fun ⟨u,hu,e,_⟩=>by
    obtain⟨m,hm,rfl⟩:=List.mem_map.1 hu
    exact absurd e (hno m hm))⟩
   clear hno HOF
   go_wp2_with fail
   go_meet
   exact⟨x.A,x.c,x.v.values,rfl,Lib.hid (Reads.keep HX.out hbw2),Lib.hid hvals,by omega,Below.refl _ _⟩
  ·have hym:=List.mem_of_getElem? hj
   obtain⟨hyr,b,o,rfl,hcell⟩:=(HL.out.keep hbw2).at_ hj
   have hyf:=HF.out y hym
   have cU:=union_any x.A x.v.values.length x.c y.A y.v.values.length y.c x.v.values y.v.values w2 (Reads.keep HX.out hbw2) hyr (by omega) (by have:=hyf.n;omega)
   have hvals:∀ zs:List ByteArray,(∀ z:ByteArray,z∈zs↔z∈x.v.values∨z∈y.v.values)→ValsOf L x.v zs:=fun zs h z=>by
    rw[h z]
    constructor
    ·rintro (h1 | h1)
     ·exact .inl h1
     ·exact .inr ⟨y.v,List.mem_map.2 ⟨y,hym,rfl⟩,hyh,h1⟩
    ·rintro (h1 | ⟨u,hu,e,h1⟩)
     ·exact .inl h1
     ·obtain⟨m,hm,rfl⟩:=List.mem_map.1 hu
      rw[hun m hm e]at h1
      exact .inr h1
   have hyn:=hyf.n
   have hjn:j<n:=by have:=(List.getElem?_eq_some_iff.1 hj).1;have:=HL.out.len;omega
   have hk0:(0:Int)≤(j:Int):=by omega
   have hk1:(j:Int)<(n:Int):=by omega
   have c5:w2.cell? ⟨b,o+j*3+1,none⟩=some (.slice y.A y.v.values.length y.c):=hcell 1 _ rfl
   have HU:=Lib.hid cU;have HV:=Lib.hid hvals
   clear cU hvals hun hyh hyf hyr hcell hj hym HOF
   go_wp2_with (go_at_call 129;refine HU.out.mono ?_;rintro e w3 ⟨hb3,S,d,zs,rfl,hr3,hz3,hl3⟩;have HR3:=Lib.hid hr3;have HZ3:=Lib.hid hz3;clear hr3 hz3)
   go_meet
   exact⟨S,d,zs,rfl,HR3,Lib.hid (HV.out zs HZ3.out),by omega,hb3⟩
 case rest =>
  obtain⟨S,d,zs,rfl,HR,HZ,hzl,hbc⟩:=hcut
  have hbr:=Qj hbw2 hbc
  have hsr:w.heap.size+1≤wc.heap.size:=by have:=hbc.size;omega
  have HB:=Lib.hid (HS2.out.keep hbc)
  clear c1 HS2 HOF HO hbw2 hbc hs2 hs0
  have hown0:wc.ownsRow wc.heap.size 41 1 (.slice none 0 0) 0 (([]:List ZQ).flatMap ZQ.cells):=World.ownsRow_nil _ _ _ _
  have HO0:=Lib.hid hown0
  clear hown0
  have hm0:([]:List ZQ).map (·.h)=(zs.take 0).map (oneH x.v.header):=rfl
  have HM0:=Lib.hid hm0
  clear hm0
  go_wp2_with fail
  go_loopw [7,27] (fun ov iv wr=>∃ (k:Nat) (B:Option Addr) (q:Nat) (M:List ZQ),k≤zs.length∧iv=.int .i64 k∧sampO ov k B q∧Hid (wr.ownsRow wc.heap.size 41 1 (.slice B k q) k (M.flatMap ZQ.cells))∧Hid (M.map (·.h)=(zs.take k).map (oneH x.v.header))∧Hid (∀ m∈M,Zf wr m)∧Hid (Zl wr w.heap.size 98 #[.string x.v.header,.slice x.A x.v.values.length x.c,.string x.v.dflt])∧Below wc.heap.size wc wr) (fun _ iv _=>zs.length-(intOf iv).toNat)
  case atStart=>exact⟨0,none,0,[],by omega,rfl,rfl,HO0,HM0,Lib.hid (fun m hm=>by cases hm),HB,Below.refl _ _⟩
  case round =>
   obtain⟨k,B,q,M,hk,rfl,hov,HO,HM,HE,HBr,hb⟩:=hrel
   unfold sampO at hov
   subst hov
   clear HO0 HM0 HB
   have hsz:=hb.size
   by_cases hlt:k<zs.length
   ·obtain⟨y,hy⟩:∃ y,zs[k]? = some y:=⟨_,List.getElem?_eq_getElem hlt⟩
    have hRk:Reads wr 1 S zs.length (zs.map .string):=HR.out.keep hb
    obtain⟨pb,po,rfl,hcell⟩:=hRk.2 (by omega)
    have c1:wr.cell? ⟨pb,po+k,none⟩=some (.string y):=hcell k _ (by simp[hy])
    have c0:wr.cell? ⟨w.heap.size,0,none⟩=some (.string x.v.header):=HBr.out.cell rfl
    have hk0:(0:Int)≤(k:Int):=by omega
    have hk1:(k:Int)<(zs.length:Int):=by omega
    have HY:=Lib.hid hy
    clear hRk hcell hy
    go_wp2_with (at_builtin;refine wpList_append_own _ rfl _ _ 132 rfl wc.heap.size 41 i0 (.slice none 0 0) 1 24 Tryz.underlying132 HI.out.1 HI.out.2.1 HI.out.2.2.1 HI.out.2.2.2 rfl (by decide) _ _ _ rfl ((HO.out.alloc _).alloc _) ⟨wr.heap.size+1,0,none⟩ 1 1 [.slice (some ⟨wr.heap.size,0,none⟩) 1 1] rfl rfl (Vz _ _ _ _ (by simp)) (by simp[Value.oneCell']) (by unfold maxLen;omega) (by omega) (by simp;omega) ?_;intro v' w8 hown' hgrow _;obtain⟨g',cap',rfl⟩:=ownsRow_succ hown')
    have hb8:RowKit.Below wc.heap.size wr w8:=(((RowKit.Below.refl wc.heap.size wr).alloc (by omega) _).alloc (by simp;omega) _).grown hgrow (by simp;omega) (fun r e=>Qu HO.out r e)
    have hs8:=hb8.size
    refine⟨⟨k+1,some ⟨g',0,none⟩,cap',M++[⟨oneH x.v.header y,some ⟨wr.heap.size,0,none⟩,1⟩],by omega,by go_num,rfl,Lib.hid (by rw[List.flatMap_append];exact hown'),Lib.hid (by rw[List.map_append,HM.out,List.take_add_one,HY.out,List.map_append];rfl),Lib.hid (fun m hm=>?_),Lib.hid ((hb8.block _ (by omega)).trans HBr.out),hb.trans hb8⟩,by simp[intOf];omega⟩
    rcases List.mem_append.1 hm with hm | hm
    ·exact ((HE.out m hm).keep (Qk (Qk (Below.refl _ _) _) _)).grown ((HO.out.alloc _).alloc _) hgrow
    ·rw[List.mem_singleton.1 hm]
     exact (samp_new wr x.v.header y _).grown ((HO.out.alloc _).alloc _) hgrow
   ·obtain rfl:k=zs.length:=by omega
    go_wp2_with (at_builtin;refine wpList_append_own _ rfl _ _ 132 rfl wc.heap.size 41 i0 (.slice none 0 0) 1 24 Tryz.underlying132 HI.out.1 HI.out.2.1 HI.out.2.2.1 HI.out.2.2.2 rfl (by decide) _ _ _ rfl (HO.out.alloc _) ⟨wr.heap.size,0,none⟩ 1 1 [.slice none 0 0] rfl rfl (Vz _ _ _ _ (by simp)) (by simp[Value.oneCell']) (by unfold maxLen;omega) (by omega) (by simp;omega) ?_;intro v' w8 hown' hgrow _;obtain⟨g',cap',rfl⟩:=ownsRow_succ hown')
    have hb8:RowKit.Below wc.heap.size wr w8:=((RowKit.Below.refl wc.heap.size wr).alloc (by omega) _).grown hgrow (by simp;omega) (fun r e=>Qu HO.out r e)
    have hml:M.length=zs.length:=by
     have:=congrArg List.length HM.out
     rw[List.take_length]at this
     simpa using this
    have hLl:(M++[(⟨[],none,0⟩:ZQ)]).length=zs.length+1:=by simp[hml]
    rw[HP.out]
    refine⟨Qj hbr (hb.trans hb8),some ⟨g',0,none⟩,cap',M++[⟨[],none,0⟩],by rw[hLl];rfl,⟨rfl,?_,fun m hm=>?_⟩,by omega,samples_spec HZ.out (by rw[List.map_append,HM.out,List.take_length];rfl)⟩
    ·rw[hLl,List.flatMap_append]
     exact Reads.of_own hown'
    ·rcases List.mem_append.1 hm with hm | hm
     ·exact ((HE.out m hm).keep (Qk (Below.refl _ _) _)).grown (HO.out.alloc _) hgrow
     ·rw[List.mem_singleton.1 hm]
      exact samp_nil _
def ruleZ24:Array Value:=#[.string ⟨#[]⟩,.string ⟨#[]⟩,.slice none 0 0,.int .i64 0,.int .i64 0,.int .i64 0,.int .i64 0,.slice none 0 0,.int .i64 0,.int .i64 0,.string ⟨#[]⟩,.slice none 0 0,.slice none 0 0,.slice none 0 0,.int .i64 0,.bool false,.int .i64 0,.string ⟨#[]⟩]
def cond24 (al:ByteArray):List Value:=[.int .i64 0,.int .i64 1099511627777,.string al,.slice none 0 0,.slice none 0 0,.slice none 0 0,.int .i64 0]
def row24 (nm pt:ByteArray) (T:Option Addr) (n c:Nat) (al:ByteArray):List Value:=[.string nm,.string pt,.slice T n c,.int .i64 0,.int .i64 0,.int .i64 0,.int .i64 0,.slice none 0 0,.int .i64 0,.int .i64 1099511627777,.string al,.slice none 0 0,.slice none 0 0,.slice none 0 0,.int .i64 0,.bool false,.int .i64 0,.string ⟨#[]⟩]
theorem run_c24 (al:ByteArray) (w:World):(Instr.build 55 #[(1,.int .i64 1099511627777),(2,.string al)]).run Tryz.prog w=.ok (.agg (cond24 al).toArray) w:=by kernel_rfl
theorem run_r24 (nm pt:ByteArray) (T:Option Addr) (n c:Nat) (al:ByteArray) (w:World):(Instr.build 57 #[(0,.string nm),(1,.string pt),(2,.slice T n c),(8,.agg (cond24 al).toArray)]).run Tryz.prog w=.ok (.agg (row24 nm pt T n c al).toArray) w:=by kernel_rfl
theorem inf18w:(Tryz.prog.info? 57).map (·.size)=some 18:=by kernel_rfl
theorem rule24_any (nm pt:ByteArray) (T:Option Addr) (n c:Nat) (al:ByteArray) (w:World):Calls Tryz.prog 20 #[.string nm,.string pt,.slice T n c,.string al] w (Zx w (.agg (row24 nm pt T n c al).toArray)):=by
 obtain⟨X,hX⟩:∃ X,X=(row24 nm pt T n c al).toArray:=⟨_,rfl⟩
 obtain⟨C,hC⟩:∃ C,C=(cond24 al).toArray:=⟨_,rfl⟩
 have h1:=fun W=>run_c24 al W
 have h2:=fun W=>run_r24 nm pt T n c al W
 rw[←hC]at h1 h2
 rw[←hX]at h2 ⊢
 have sX:X.size=18:=by rw[hX];rfl
 have iX:(Tryz.prog.info? 57).map (·.size)=some X.size:=by rw[sX];exact inf18w
 have oX:X.all (·.oneCell')=true:=by rw[hX,List.all_toArray];rfl
 have H1:=Lib.hid h1;have H2:=Lib.hid h2;have SX:=Lib.hid sX;have IX:=Lib.hid iX;have OX:=Lib.hid oX
 clear h1 h2 sX iX oX hX hC
 have hz:(w.alloc (.cells ruleZ24 57)).heap[w.heap.size]? = some (.cells ruleZ24 57 (0,0)):=heap_alloc_new w _
 go_enter Tryz.func20,Tryz.ntmps20
 go_wp2_with (first
  | (refine wpList_build_as rfl _ _ rfl _ (by kernel_rfl) _ (H1.out _) ?_)
  | (refine wpList_build_as rfl _ _ rfl _ (by kernel_rfl) _ (H2.out _) ?_)
  | (refine wpList_store_row rfl _ _ _ rfl w.heap.size X rfl rfl _ ruleZ24 hz IX.out (SX.out▸rfl) OX.out ?_))
 have a0:((w.alloc (.cells ruleZ24 57)).setRow w.heap.size X).heap[w.heap.size]? = some (.cells X 57 (0,0)):=setRow_heap _ _ _ _ _ _ hz
 have hb:Below w.heap.size w ((w.alloc (.cells ruleZ24 57)).setRow w.heap.size X):=below_setRow (Qk (Below.refl _ _) _) (Nat.le_refl _) _
 exact bodyPost_ret (v:=.agg X) (results_cell_row rfl _ _ _ _ _ _ _ rfl a0 Tryz.underlying57 rfl IX.out) rfl ⟨rfl,hb⟩
theorem find_at {α:Type} (p:α→Bool):∀ (l:List α) (k:Nat) (x:α),l[k]? = some x→p x=true→(∀ y∈l.take k,p y=false)→l.find? p=some x
 | [],k,x,h,_,_=>by simp at h
 | y :: l,0,x,h,hp,_=>by
  simp only[List.getElem?_cons_zero,Option.some.injEq]at h
  subst h
  rw[List.find?_cons,hp]
 | y :: l,k+1,x,h,hp,hn=>by
  rw[List.find?_cons,hn y (by simp)]
  exact find_at p l k x (by simpa using h) hp (fun z hz=>hn z (by simp[hz]))
theorem rValueOf23_any (x:Qo) (HA:Option Addr) (n c:Nat) (H:List Hdr) (w:World) (hH:X4 w HA n H) (hV:Zr w x) (hn:n≤1000) (hm:x.v.values.length≤1000) :
  Calls Tryz.prog 143 #[x.val,.slice HA n c] w (Zx w (.string (ZK x.v H))):=by
 have hln:=hH.len
 obtain⟨V,hVe⟩:∃ V,V=ZK x.v H:=⟨_,rfl⟩
 rw[←hVe]
 unfold ZK at hVe
 rw[Qo.val_eq]
 have HH:=Lib.hid hH;have HVR:=Lib.hid hV;have HLN:=Lib.hid hln;have HVE:=Lib.hid hVe
 clear hH hV hln hVe
 go_enter Tryz.func143,Tryz.ntmps143
 go_upto_region 1 with fail
 generalize hw0:World.alloc _ _=w0
 have hS:VlS w #[.string x.v.header,.slice x.A x.v.values.length x.c,.string x.v.dflt] HA n H x w0:=by
  have hb:=Qk (Below.refl _ w) (.cells #[.string x.v.header,.slice x.A x.v.values.length x.c,.string x.v.dflt] 98)
  rw[←hw0]
  exact⟨heap_alloc_new w _,HH.out.keep hb,Zr.keep HVR.out hb,hb⟩
 clear hw0
 have HS:=Lib.hid hS
 clear hS
 go_wp2_with fail
 go_loopw [5] (fun iv wr=>∃ k:Nat,k≤n∧iv=.int .i64 k∧Hid (∀ h∈H.take k,(h.name.toList==x.v.header.toList)=false)∧Hid (VlS w #[.string x.v.header,.slice x.A x.v.values.length x.c,.string x.v.dflt] HA n H x wr)) (fun iv _=>n-(intOf iv).toNat)
 case atStart=>exact⟨0,by omega,rfl,Lib.hid (fun h hh=>by simp at hh),HS⟩
 case round =>
  obtain⟨k,hk,rfl,HK,HSr⟩:=hrel
  clear HS
  by_cases hlt:k<n
  ·obtain⟨h,hh⟩:∃ h,H[k]? = some h:=⟨_,List.getElem?_eq_getElem (by have:=HLN.out;omega)⟩
   obtain⟨_,hb0,ho,rfl,_⟩:=HSr.out.h.at_ hh
   have hcl:∀ W,VlS w #[.string x.v.header,.slice x.A x.v.values.length x.c,.string x.v.dflt] (some ⟨hb0,ho,none⟩) n H x W→(W.cell? ⟨hb0,ho+k*2,none⟩=some (.string h.name)∧W.cell? ⟨hb0,ho+k*2+1,none⟩=some (.string h.value))∧(W.cell? ⟨w.heap.size,0,none⟩=some (.string x.v.header)∧W.cell? ⟨w.heap.size,1,none⟩=some (.slice x.A x.v.values.length x.c)∧W.cell? ⟨w.heap.size,2,none⟩=some (.string x.v.dflt)):=fun W hS=>by
    obtain⟨_,b',o',he,hc⟩:=hS.h.at_ hh
    injection he with he
    injection he with he1 he2
    subst he1;subst he2
    exact⟨⟨hc 0 _ rfl,hc 1 _ rfl⟩,hS.p.cell rfl,hS.p.cell rfl,hS.p.cell rfl⟩
   have HCL:=Lib.hid hcl
   clear hcl
   have hk0:(0:Int)≤(k:Int):=by omega
   have hk1:(k:Int)<(n:Int):=by omega
   obtain⟨eb,heb⟩:∃ eb,eb=(h.name.toList==x.v.header.toList):=⟨_,rfl⟩
   have heb2:=heb.symm
   have HEB:=Lib.hid heb
   clear heb
   go_upto_region 4 with fail
   refine Xo 8 (by kernel_rfl) (by kernel_rfl) (by kernel_rfl) (fun q=>[.slice (some ⟨hb0,ho,none⟩) n c,.int .i64 k,.pointer (some ⟨hb0,ho+k*2,none⟩),.pointer (some ⟨hb0,ho+k*2,none⟩),.string h.name,.pointer (some ⟨w.heap.size,0,none⟩),.string x.v.header,.bool eb].getD q undef) (VlS w #[.string x.v.header,.slice x.A x.v.values.length x.c,.string x.v.dflt] (some ⟨hb0,ho,none⟩) n H x) (HSr.out.keep (Below.drew (Below.refl _ _))) (fun _ _ h hb=>h.keep hb) ?_ ?_
   ·simp only[QU,Zj,Act.put]
    refine⟨fun W hS=>?_,fun W hS=>?_,fun W hS=>?_,fun W hS=>?_,fun W hS=>?_,fun W hS=>?_,fun W hS=>?_,fun W hS=>?_,trivial⟩
    all_goals
     obtain⟨⟨z0,z1⟩,z2,z3,z4⟩:=HCL.out W hS
     go_wp2
     exact⟨rfl,rfl,Qz⟩
   intro w9 hS9
   have HS9:=Lib.hid hS9
   clear hS9 heb2
   cases eb
   ·have HK2:Hid (∀ h∈H.take (k+1),(h.name.toList==x.v.header.toList)=false):=Lib.hid (by
     intro y hy
     rw[List.take_add_one,hh]at hy
     rcases List.mem_append.1 hy with hy | hy
     ·exact HK.out y hy
     ·simp at hy;rw[hy];exact HEB.out.symm)
    clear hh
    simp only[QU,Zj,Act.put]
    go_wp2
    exact⟨⟨k+1,by omega,by go_num,HK2,HS9⟩,by simp[intOf];omega⟩
   ·have hfind:=find_at (fun h:Hdr=>h.name.toList==x.v.header.toList) H k h hh HEB.out.symm HK.out
    have hve:=HVE.out
    rw[hfind]at hve
    dsimp only at hve
    have cC:=fun (W:World) (hv:Zr W x)=>rHas23_any x.A x.v.values.length x.c x.v.values h.value W hv (by omega)
    obtain⟨ct,hct⟩:∃ ct,ct=Lib.containsS x.v.values h.value:=⟨_,rfl⟩
    rw[←hct]at hve
    simp only[←hct]at cC
    have HC:=Lib.hid cC;have HVV:=Lib.hid hve
    clear hfind hve cC hct hh HK HVE
    simp only[QU,Zj,Act.put]
    go_upto_region 5 with fail
    refine Xo 8 (by kernel_rfl) (by kernel_rfl) (by kernel_rfl) (fun q=>[.pointer (some ⟨w.heap.size,1,none⟩),.slice x.A x.v.values.length x.c,.slice (some ⟨hb0,ho,none⟩) n c,.int .i64 k,.pointer (some ⟨hb0,ho+k*2,none⟩),.pointer (some ⟨hb0,ho+k*2+1,none⟩),.string h.value,.bool ct].getD q undef) (VlS w #[.string x.v.header,.slice x.A x.v.values.length x.c,.string x.v.dflt] (some ⟨hb0,ho,none⟩) n H x) (HS9.out.keep (Below.drew (Below.refl _ _))) (fun _ _ h hb=>h.keep hb) ?_ ?_
    ·simp only[QU,Zj,Act.put]
     refine⟨fun W hS=>?_,fun W hS=>?_,fun W hS=>?_,fun W hS=>?_,fun W hS=>?_,fun W hS=>?_,fun W hS=>?_,fun W hS=>?_,trivial⟩
     all_goals
      obtain⟨⟨z0,z1⟩,z2,z3,z4⟩:=HCL.out W hS
      go_wp2_with (go_at_call 138;refine (HC.out _ hS.v).mono ?_;rintro e w2 ⟨rfl,hb2⟩)
      exact⟨rfl,rfl,Qz⟩
    intro w10 hS10
    obtain⟨⟨z0,z1⟩,z2,z3,z4⟩:=HCL.out w10 hS10
    have hb10:=hS10.b
    clear hS10
    cases ct
    ·have hv:=HVV.out
     rw[if_neg (by decide)]at hv
     subst hv
     simp only[QU,Zj,Act.put]
     go_wp2
     go_ret
     exact⟨rfl,hb10⟩
    ·have hv:=HVV.out
     rw[if_pos rfl]at hv
     subst hv
     simp only[QU,Zj,Act.put]
     go_wp2
     go_ret
     exact⟨rfl,hb10⟩
  ·obtain rfl:k=n:=by omega
   have hnone:H.find? (fun h:Hdr=>h.name.toList==x.v.header.toList)=none:=by
    rw[List.find?_eq_none]
    intro y hy
    have:=HK.out y (by rw[List.take_of_length_le (by have:=HLN.out;omega)];exact hy)
    rw[this];decide
   have hve:=HVE.out
   rw[hnone]at hve
   dsimp only at hve
   subst hve
   have z4:wr.cell? ⟨w.heap.size,2,none⟩=some (.string x.v.dflt):=HSr.out.p.cell rfl
   have hbr:=HSr.out.b
   clear hnone HVE HK
   go_wp2_with fail
   go_ret
   exact⟨rfl,hbr⟩
theorem conv_one (W:World) (b:UInt8) (c:Nat) (g:Nat) (hg:g=W.heap.size) (a:Int) (ha:a=(b.toNat:Int)) :
  (convert 184 9 (.slice (some ⟨g,0,none⟩) 1 c)).run Tryz.prog (W.alloc (.cells #[.int .u8 a] 5))=.ok (.string ⟨#[b]⟩) (W.alloc (.cells #[.int .u8 a] 5)):=by
 subst hg
 subst ha
 have hx:Qv (W.alloc (.cells #[.int .u8 (b.toNat:Int)] 5)) W.heap.size 5 #[.int .u8 (b.toNat:Int)] (0,0):=World.alloc_heap_new _ _
 refine run_convert_bytes_back _ _ _ 5 ⟨W.heap.size,0,none⟩ c [b] Tryz.underlying184 Tryz.underlying5 Tryz.underlying9 (fun j hj=>?_)
 rw[show (⟨W.heap.size,0,none⟩:Addr).add j=⟨W.heap.size,0+j,none⟩ by unfold Addr.add;split <;> simp_all]
 rcases j with _ | j
 ·exact hx.cell 0
 ·simp at hj
theorem esc_step (s:ByteArray) (k:Nat) (b:UInt8) (h:s.data.toList[k]? = some b):Zd (Jy (s.data.toList.take (k+1)))=Zd (Jy (s.data.toList.take k))++Zd (escB b):=by
 refine Qm ?_
 rw[Vx,escL_succ _ _ _ h]
 simp[Zd]
theorem rEscaped23_any (s:ByteArray) (w:World) (hs:s.size≤100000):Calls Tryz.prog 180 #[.string s] w (Zx w (.string (Zd (Jy s.data.toList)))):=by
 obtain⟨V,hV⟩:∃ V,V=Zd (Jy s.data.toList):=⟨_,rfl⟩
 rw[←hV]
 have HV:=Lib.hid hV
 clear hV
 go_enter Tryz.func180,Tryz.ntmps180
 go_wp2_with fail
 go_loopw [3,4] (fun ov iv wr=>∃ (k:Nat) (acc:ByteArray),k≤s.size∧iv=.int .i64 k∧ov=.string acc∧Hid (acc=Zd (Jy (s.data.toList.take k)))∧Below w.heap.size w wr) (fun _ iv _=>s.size-(intOf iv).toNat)
 case atStart=>exact⟨0,⟨#[]⟩,by omega,rfl,rfl,Lib.hid rfl,Below.refl _ _⟩
 case round =>
  obtain⟨k,acc,hk,rfl,rfl,HA,hbr⟩:=hrel
  by_cases hlt:k<s.size
  ·have hgk:s.data.toList[k]? = some s[k]:=by
    rw[List.getElem?_eq_getElem (by rw[←Lib.size_eq];exact hlt)];rfl
   have hst:=esc_step s k s[k] hgk
   rw[←HA.out]at hst
   have hz:acc.size≤300000:=by
    have h1:=Yp (s.data.toList.take k)
    have h2:(s.data.toList.take k).length≤k:=by simp;omega
    have h3:acc.size=(Jy (s.data.toList.take k)).length:=by rw[HA.out,Xw]
    omega
   have hk0:(0:Int)≤(k:Int):=by omega
   have hk1:(k:Int)<(s.size:Int):=by omega
   have hbo:=escB_of s[k]
   have hcv:=fun c=>conv_one wr s[k] c wr.heap.size rfl _ rfl
   have HST:=Lib.hid hst;have HBO:=Lib.hid hbo
   clear hst hgk hbo HA
   by_cases h1:(s[k].toNat:Int)=37
   ·have q1:((s[k].toNat:Int)==37)=true:=beq_iff_eq.2 h1
    have q2:decide ((s[k].toNat:Int)=37)=true:=decide_eq_true h1
    have hb1:escB s[k]=[37,50,53]:=by rw[HBO.out,if_pos q1]
    have hst:=HST.out
    rw[hb1]at hst
    have z1:(acc++⟨#[37,50,53]⟩).size=acc.size+3:=Ug _ _
    have HS2:=Lib.hid hst
    clear hst hb1 HST HBO h1 hcv
    go_wp2_with fail
    exact⟨⟨k+1,_,by omega,by go_num,rfl,Lib.hid HS2.out.symm,hbr⟩,by simp[intOf];omega⟩
   have q1:((s[k].toNat:Int)==37)=false:=beq_eq_false_iff_ne.2 h1
   have q2:decide ((s[k].toNat:Int)=37)=false:=decide_eq_false h1
   by_cases h2:(s[k].toNat:Int)=38
   ·have q3:((s[k].toNat:Int)==38)=true:=beq_iff_eq.2 h2
    have q4:decide ((s[k].toNat:Int)=38)=true:=decide_eq_true h2
    have hb1:escB s[k]=[37,50,54]:=by rw[HBO.out,if_neg (by rw[q1];decide),if_pos q3]
    have hst:=HST.out
    rw[hb1]at hst
    have z1:(acc++⟨#[37,50,54]⟩).size=acc.size+3:=Ug _ _
    have HS2:=Lib.hid hst
    clear hst hb1 HST HBO h1 h2 hcv
    go_wp2_with fail
    exact⟨⟨k+1,_,by omega,by go_num,rfl,Lib.hid HS2.out.symm,hbr⟩,by simp[intOf];omega⟩
   have q3:((s[k].toNat:Int)==38)=false:=beq_eq_false_iff_ne.2 h2
   have q4:decide ((s[k].toNat:Int)=38)=false:=decide_eq_false h2
   by_cases h3:(s[k].toNat:Int)=61
   ·have q5:((s[k].toNat:Int)==61)=true:=beq_iff_eq.2 h3
    have q6:decide ((s[k].toNat:Int)=61)=true:=decide_eq_true h3
    have hb1:escB s[k]=[37,51,100]:=by rw[HBO.out,if_neg (by rw[q1];decide),if_neg (by rw[q3];decide),if_pos q5]
    have hst:=HST.out
    rw[hb1]at hst
    have z1:(acc++⟨#[37,51,100]⟩).size=acc.size+3:=Ug _ _
    have HS2:=Lib.hid hst
    clear hst hb1 HST HBO h1 h2 h3 hcv
    go_wp2_with fail
    exact⟨⟨k+1,_,by omega,by go_num,rfl,Lib.hid HS2.out.symm,hbr⟩,by simp[intOf];omega⟩
   have q5:((s[k].toNat:Int)==61)=false:=beq_eq_false_iff_ne.2 h3
   have q6:decide ((s[k].toNat:Int)=61)=false:=decide_eq_false h3
   have hb1:escB s[k]=[s[k]]:=by rw[HBO.out,if_neg (by rw[q1];decide),if_neg (by rw[q3];decide),if_neg (by rw[q5];decide)]
   have hst:=HST.out
   rw[hb1]at hst
   have z1:(acc++⟨#[s[k]]⟩).size=acc.size+1:=Ug _ _
   have HS2:=Lib.hid hst
   clear hst hb1 HST HBO h1 h2 h3
   go_wp2_with fail
   exact⟨⟨k+1,_,by omega,by go_num,rfl,Lib.hid HS2.out.symm,Qz⟩,by simp[intOf];omega⟩
  ·have hVe:V=acc:=by rw[HV.out,HA.out,List.take_of_length_le (by rw[←Lib.size_eq];omega)]
   subst hVe
   go_wp2_with fail
   go_ret
   exact⟨rfl,hbr⟩
end Go.Proofs.YticlbkficolocaaGreatDoor
