/- variant.Value. -/
import Derived.Test.YticlbkficolocaaGreatDoorIZ36
set_option maxHeartbeats 16000000
namespace Go.Proofs.YticlbkficolocaaGreatDoor
open Go.RowKit Go.Sort
set_option linter.unusedVariables false
set_option linter.unusedSimpArgs false
set_option maxRecDepth 100000
theorem find_idx {α:Type} (p:α→Bool):∀ (l:List α) (b:Nat),(XZ p l b = -1∧l.find? p=none)∨∃ j x,XZ p l b=((b+j:Nat):Int)∧l[j]? = some x∧l.find? p=some x
 | [],b=>.inl ⟨rfl,rfl⟩
 | y :: l,b=>by
  rw[XZ,List.find?_cons]
  cases hy:p y
  ·rw[if_neg (by decide)]
   rcases find_idx p l (b+1) with ⟨h1,h2⟩ | ⟨j,x,h1,h2,h3⟩
   ·exact .inl ⟨h1,h2⟩
   ·exact .inr ⟨j+1,x,by rw[h1];congr 1;omega,by simpa using h2,h3⟩
  ·rw[if_pos rfl]
   exact .inr ⟨0,y,by simp,rfl,rfl⟩
theorem value1_any (h:Hdr) (hd:ByteArray) (b:Nat) (w:World) (hc:w.cell? ⟨b,0,none⟩=some (.string hd)):Calls Tryz.prog 203 #[h.val,.pointer (some ⟨b,0,none⟩)] w (Zx w (.bool (h.name.toList==hd.toList))):=by
 unfold Hdr.val Hdr.cells
 have hb:b<w.heap.size:=by
  rcases Nat.lt_or_ge b w.heap.size with h' | h'
  ·exact h'
  ·simp[World.cell?,Array.getElem?_eq_none h']at hc
 have hca:=Qq (Qk (Below.refl _ _) (.cells #[.string h.name,.string h.value] 142)) hc
 go_enter Tryz.func203,Tryz.ntmps203
 go_wp2
 go_ret
 exact⟨rfl,Qz⟩
structure VlS (w:World) (X:Array Value) (HA:Option Addr) (n:Nat) (H:List Hdr) (x:Qo) (W:World):Prop where
 p:Zl W w.heap.size 98 X
 h:X4 W HA n H
 v:Zr W x
 b:Below w.heap.size w W
theorem VlS.keep {w:World} {X:Array Value} {HA:Option Addr} {n:Nat} {H:List Hdr} {x:Qo} {W W':World} (h:VlS w X HA n H x W) (hb:Below W.heap.size W W'):VlS w X HA n H x W':=⟨h.p.keep hb,h.h.keep hb,Zr.keep h.v hb,Qj h.b hb⟩
theorem value_any (x:Qo) (HA:Option Addr) (n c:Nat) (H:List Hdr) (w:World) (hH:X4 w HA n H) (hV:Zr w x) (hn:n≤1000) (hm:x.v.values.length≤1000) :
  Calls Tryz.prog 177 #[x.val,.slice HA n c] w (Zx w (.string (ZK x.v H))):=by
 have hmf:∀ (fn:Fn) (first cap:Array Value) (w:World),(Instr.makeFunc fn first cap).run Tryz.prog w=.ok (.func fn first cap) w:=fun _ _ _ _=>rfl
 have cI:=fun (W:World) (hc:W.cell? ⟨w.heap.size,0,none⟩=some (.string x.v.header)) (hh:X4 W HA n H)=>indexFuncHD1_any 203 (enters_of Tryz.func203 (by kernel_rfl) rfl) (.pointer (some ⟨w.heap.size,0,none⟩)) (fun h=>h.name.toList==x.v.header.toList) HA n c H W (fun h _ W' hb=>value1_any h x.v.header w.heap.size W' (Qq hb hc)) hh (by omega)
 have hval:ZK x.v H=match H.find? (fun h=>h.name.toList==x.v.header.toList) with
  | some h=>if Lib.containsS x.v.values h.value then h.value else x.v.dflt
  | none=>x.v.dflt:=rfl
 have hfi:=find_idx (fun h:Hdr=>h.name.toList==x.v.header.toList) H 0
 generalize (fun h:Hdr=>h.name.toList==x.v.header.toList)=p at *
 generalize ZK x.v H=V at *
 have hln:=hH.len
 rw[Qo.val_eq]
 have HI:=Lib.hid cI;have HH:=Lib.hid hH;have HVR:=Lib.hid hV;have HLN:=Lib.hid hln
 clear cI hH hV hln
 rcases hfi with ⟨h1,h2⟩ | ⟨j,h,h1,h2,h3⟩
 ·rw[h2]at hval
  dsimp only at hval
  subst hval
  clear h2
  generalize XZ p H 0=q at *
  subst h1
  go_enter Tryz.func177,Tryz.ntmps177
  go_upto_region 1 with fail
  generalize hw0:World.alloc _ _=w0
  have hS:VlS w #[.string x.v.header,.slice x.A x.v.values.length x.c,.string x.v.dflt] HA n H x w0:=by
   have hb:=Qk (Below.refl _ w) (.cells #[.string x.v.header,.slice x.A x.v.values.length x.c,.string x.v.dflt] 98)
   rw[←hw0]
   exact⟨heap_alloc_new w _,HH.out.keep hb,Zr.keep HVR.out hb,hb⟩
  clear hw0
  have c0:w0.cell? ⟨w.heap.size,0,none⟩=some (.string x.v.header):=hS.p.cell rfl
  have hfi:=HI.out w0 c0 hS.h
  have HFI2:=Lib.hid hfi
  clear c0 hfi
  go_upto_region 2 with (go_at_call 202;refine HFI2.out.mono ?_;rintro e w2 ⟨rfl,hb2⟩)
  have HS:=Lib.hid (hS.keep hb2)
  clear hS hb2 HFI2 HI
  refine Xo 12 (by kernel_rfl) (by kernel_rfl) (by kernel_rfl) (fun i=>[.int .i64 (-1),.bool false,.bool false,undef,undef,undef,undef,undef,undef,undef,undef,.bool false].getD i undef) (VlS w #[.string x.v.header,.slice x.A x.v.values.length x.c,.string x.v.dflt] HA n H x) (HS.out.keep (Below.drew (Below.refl _ _))) (fun _ _ h hb=>h.keep hb) ?_ ?_
  ·simp only[QU,Zj,Act.put]
   refine⟨fun W hS=>?_,fun W hS=>?_,fun W hS=>?_,fun W hS=>?_,fun W hS=>?_,fun W hS=>?_,fun W hS=>?_,fun W hS=>?_,fun W hS=>?_,fun W hS=>?_,fun W hS=>?_,fun W hS=>?_,trivial⟩
   all_goals
    go_wp2
    exact⟨rfl,rfl,Qz⟩
  intro w9 hS9
  have c2:w9.cell? ⟨w.heap.size,2,none⟩=some (.string x.v.dflt):=hS9.p.cell rfl
  have hb9:=hS9.b
  clear hS9
  simp only[QU,Zj,Act.put]
  go_wp2
  go_ret
  exact⟨rfl,hb9⟩
 ·rw[h3]at hval
  dsimp only at hval
  rw[Nat.zero_add]at h1
  generalize XZ p H 0=q at *
  subst h1
  have hjn:j<n:=by have:=(List.getElem?_eq_some_iff.1 h2).1;have:=HLN.out;omega
  obtain⟨_,hb0,ho,rfl,_⟩:=HH.out.at_ h2
  have cC:=fun (W:World) (hv:Zr W x)=>V6 x.A x.v.values.length x.c x.v.values h.value W hv (by omega)
  obtain⟨ct,hct⟩:∃ ct,ct=Lib.containsS x.v.values h.value:=⟨_,rfl⟩
  rw[←hct]at cC hval
  have HC:=Lib.hid cC;have HV:=Lib.hid hval;have H2:=Lib.hid h2
  have hcl:∀ W,X4 W (some ⟨hb0,ho,none⟩) n H→W.cell? ⟨hb0,ho+j*2+1,none⟩=some (.string h.value):=fun W hh=>by
   obtain⟨_,b',o',he,hc⟩:=hh.at_ H2.out
   injection he with he
   injection he with he1 he2
   subst he1;subst he2
   exact hc 1 _ rfl
  have HCL:=Lib.hid hcl
  clear cC hval h2 h3 hct hcl
  have hj0:(0:Int)≤(j:Int):=by omega
  have hj1:(j:Int)<(n:Int):=by omega
  go_enter Tryz.func177,Tryz.ntmps177
  go_upto_region 1 with fail
  generalize hw0:World.alloc _ _=w0
  have hS:VlS w #[.string x.v.header,.slice x.A x.v.values.length x.c,.string x.v.dflt] (some ⟨hb0,ho,none⟩) n H x w0:=by
   have hb:=Qk (Below.refl _ w) (.cells #[.string x.v.header,.slice x.A x.v.values.length x.c,.string x.v.dflt] 98)
   rw[←hw0]
   exact⟨heap_alloc_new w _,HH.out.keep hb,Zr.keep HVR.out hb,hb⟩
  clear hw0
  have c0:w0.cell? ⟨w.heap.size,0,none⟩=some (.string x.v.header):=hS.p.cell rfl
  have hfi:=HI.out w0 c0 hS.h
  have HFI2:=Lib.hid hfi
  clear c0 hfi
  go_upto_region 2 with (go_at_call 202;refine HFI2.out.mono ?_;rintro e w2 ⟨rfl,hb2⟩)
  have HS:=Lib.hid (hS.keep hb2)
  clear hS hb2 HFI2 HI HH HVR HLN H2
  refine Xo 12 (by kernel_rfl) (by kernel_rfl) (by kernel_rfl) (fun i=>[.int .i64 (j:Int),.bool true,.bool true,.pointer (some ⟨w.heap.size,1,none⟩),.slice x.A x.v.values.length x.c,.slice (some ⟨hb0,ho,none⟩) n c,.int .i64 (j:Int),.pointer (some ⟨hb0,ho+j*2,none⟩),.pointer (some ⟨hb0,ho+j*2+1,none⟩),.string h.value,.bool ct,.bool ct].getD i undef) (VlS w #[.string x.v.header,.slice x.A x.v.values.length x.c,.string x.v.dflt] (some ⟨hb0,ho,none⟩) n H x) (HS.out.keep (Below.drew (Below.refl _ _))) (fun _ _ h hb=>h.keep hb) ?_ ?_
  ·simp only[QU,Zj,Act.put]
   refine⟨fun W hS=>?_,fun W hS=>?_,fun W hS=>?_,fun W hS=>?_,fun W hS=>?_,fun W hS=>?_,fun W hS=>?_,fun W hS=>?_,fun W hS=>?_,fun W hS=>?_,fun W hS=>?_,fun W hS=>?_,trivial⟩
   all_goals
    have c1:W.cell? ⟨w.heap.size,1,none⟩=some (.slice x.A x.v.values.length x.c):=hS.p.cell rfl
    have c3:=HCL.out W hS.h
    go_wp2_with (go_at_call 60;refine (HC.out _ hS.v).mono ?_;rintro e w2 ⟨rfl,hb2⟩)
    exact⟨rfl,rfl,Qz⟩
  intro w9 hS9
  have c2:w9.cell? ⟨w.heap.size,2,none⟩=some (.string x.v.dflt):=hS9.p.cell rfl
  have c3:=HCL.out w9 hS9.h
  have hb9:=hS9.b
  clear hS9
  cases ct
  ·have hv:=HV.out
   rw[if_neg (by decide)]at hv
   subst hv
   simp only[QU,Zj,Act.put]
   go_wp2
   go_ret
   exact⟨rfl,hb9⟩
  ·have hv:=HV.out
   rw[if_pos rfl]at hv
   subst hv
   simp only[QU,Zj,Act.put]
   go_wp2
   go_ret
   exact⟨rfl,hb9⟩
def keyB (l:List Zo) (H:List Hdr):ByteArray:=Yz 38 (List.zipWith kpB l (l.map fun v=>ZK v H))
theorem keyB_data (l:List Zo) (H:List Hdr):(keyB l H).data.toList=keyV l H:=by
 have hz:∀ (l:List Zo) (xs:List ByteArray),(List.zipWith kpB l xs).map (·.data.toList)=List.zipWith partV l xs:=by
  intro l
  induction l with
  | nil=>intro xs;rfl
  | cons v l ih =>
   intro xs
   cases xs with
   | nil=>rfl
   | cons x xs=>rw[List.zipWith_cons_cons,List.zipWith_cons_cons,List.map_cons,ih,kpB_data]
 unfold keyB Yz keyV keyL
 rw[hz]
theorem value_size (v:Zo) (H:List Hdr) (h:Xi v):(ZK v H).size≤200:=by
 unfold ZK
 split
 ·split
  ·rename_i hc
   exact h.x _ ((Lib.containsS_iff _ _).1 hc)
  ·exact h.d
 ·exact h.d
theorem Key_any (A:Option Addr) (n c:Nat) (L:List Qo) (HA:Option Addr) (m d:Nat) (H:List Hdr) (w:World) (hL:QX w A n L) (hH:X4 w HA m H) (hf:∀ x∈L,Xi x.v) (hn:n≤10) (hm:m≤1000) :
  Calls Tryz.prog 130 #[.slice A n c,.slice HA m d] w (Zx w (.string (keyB (L.map (·.v)) H))):=by
 have hl:L.length=n:=hL.len
 obtain⟨i0,hi0,hz0,hz1,hz2⟩:=info_parts V4
 have HI:=Lib.hid (And.intro hi0 (And.intro hz0 (And.intro hz1 hz2)))
 obtain⟨ps,hps⟩:∃ ps,ps=L.map fun y=>ZK y.v H:=⟨_,rfl⟩
 have hpl:ps.length=n:=by rw[hps,List.length_map];exact hl
 have hpk:∀ (k:Nat) (y:Qo),L[k]? = some y→ps[k]? = some (ZK y.v H):=fun k y h1=>by rw[hps,List.getElem?_map,h1];rfl
 have hpz:∀ p∈ps,p.size≤200:=by
  intro p hp
  rw[hps]at hp
  obtain⟨y,hy,rfl⟩:=List.mem_map.1 hp
  exact value_size _ _ (hf y hy)
 have cV:=fun (y:Qo) (hy:y∈L) (W:World) (hb:Below w.heap.size w W)=>value_any y HA m d H W (hH.keep hb) (Zr.keep (hL.each y hy) hb) hm (by have:=(hf y hy).n;omega)
 have cK:=fun (W:World) (hb:Below w.heap.size w W) (B:Option Addr) (d2:Nat) (hR:Reads W 1 B n (ps.map .string))=>vkey_any A n c L B d2 ps W (hL.keep hb) hR hf hpz hn
 have hke:Yz 38 (List.zipWith kpB (L.map (·.v)) ps)=keyB (L.map (·.v)) H:=by
  unfold keyB
  rw[hps,List.map_map];rfl
 rw[hke]at cK
 generalize keyB (L.map (·.v)) H=V at *
 have HL:=Lib.hid hL;have HLN:=Lib.hid hl;have HPL:=Lib.hid hpl;have HPK:=Lib.hid hpk;have HV:=Lib.hid cV;have HK:=Lib.hid cK
 clear hi0 hz0 hz1 hz2 hL hH hf hl hps hpl hpz hpk cV cK hke
 go_enter Tryz.func130,Tryz.ntmps130
 go_wp2_with (refine wpList_make_full _ rfl _ _ 22 rfl w.heap.size 9 i0 (.string ⟨#[]⟩) 1 Tryz.underlying22 HI.out.1 HI.out.2.1 HI.out.2.2.1 .i64 .i64 n n n rfl rfl rfl rfl (by rw[HI.out.2.2.2];omega) (by unfold maxLen;omega) (by omega) ?_;intro w1 hown1 hgr1;have hb1:Below w.heap.size w w1:=(Below.refl _ _).grown hgr1 (Nat.le_refl _) (fun r e=>by cases e);have HOW:=Lib.hid hown1;clear hgr1 hown1)
 have hown1:=HOW.out
 rw[←rowP_zero ps n]at hown1
 have HOW1:=Lib.hid hown1
 clear hown1 HOW
 go_loopw [13] (fun iv wr=>∃ k:Nat,k≤n∧iv=.int .i64 k∧Hid (wr.ownsRow w.heap.size 9 1 (.slice (some ⟨w.heap.size,0,none⟩) n n) n (rowP ps n k))∧Below w.heap.size w wr) (fun iv _=>n-(intOf iv).toNat)
 case atStart=>exact⟨0,by omega,rfl,HOW1,hb1⟩
 case round =>
  obtain⟨k,hk,rfl,HO,hbr⟩:=hrel
  clear HOW1 hb1
  by_cases hlt:k<n
  ·obtain⟨y,hy⟩:∃ y,L[k]? = some y:=⟨_,List.getElem?_eq_getElem (by have:=HLN.out;omega)⟩
   have hpk:=HPK.out k y hy
   have hst:=rowP_step ps n k _ hlt hpk
   have hval:=HV.out y (List.mem_of_getElem? hy)
   obtain⟨_,b,o,rfl,hcell⟩:=(HL.out.keep hbr).at_ hy
   have hld:=Jf wr b (o+k*3) y hcell
   have hone:y.cells.toArray.all (·.oneCell')=true:=by rw[List.all_toArray];rfl
   have hsz2:y.cells.toArray.size=3:=by rw[List.size_toArray,y.cells_len]
   have hi3:(Tryz.prog.info? 98).map (·.size)=some y.cells.toArray.size:=by rw[hsz2];exact infVar
   have hsz:y.cells.toArray.size=(#[.string ⟨#[]⟩,.slice none 0 0,.string ⟨#[]⟩]:Array Value).size:=by rw[hsz2];rfl
   unfold Qo.val at hld hval
   generalize y.cells.toArray=X at *
   generalize ZK y.v H=vv at *
   have HLD:=Lib.hid hld;have HVA:=Lib.hid hval;have HON:=Lib.hid hone;have HXS:=Lib.hid hsz2;have HI3:=Lib.hid hi3;have HSZ:=Lib.hid hsz;have HST:=Lib.hid hst
   clear hld hval hone hsz2 hi3 hsz hcell hy hpk hst
   have hk0:(0:Int)≤(k:Int):=by omega
   have hk1:(k:Int)<(n:Int):=by omega
   go_wp2_with (first | (refine Qw rfl 98 _ rfl ⟨b,o+k*3,none⟩ (.agg X) rfl HLD.out ?_) | (refine wpList_store_row rfl 98 _ _ rfl wr.heap.size X rfl rfl _ #[.string ⟨#[]⟩,.slice none 0 0,.string ⟨#[]⟩] ((heap_alloc_new wr _).trans rfl) HI3.out HSZ.out.symm HON.out ?_;generalize hw6:World.setRow _ _ _=w6;have B6:Zl w6 wr.heap.size 98 X:=(by rw[←hw6];exact setRow_heap _ _ _ _ _ _ (heap_alloc_new wr _));have hb6:Below wr.heap.size wr w6:=(by rw[←hw6];exact below_setRow ((Below.refl _ _).alloc (Nat.le_refl _) _) (Nat.le_refl _) _);clear hw6) | (refine Qw rfl 98 _ rfl ⟨wr.heap.size,0,none⟩ (.agg X) rfl (B6.vary HXS.out) ?_) | (go_at_call 177;refine (HVA.out _ (Qj hbr hb6)).mono ?_;rintro e w7 ⟨rfl,hb7⟩;have hb67:=Qj hb6 hb7;have ho7:=Ql HO.out hb67;have hc9:w7.cell? ⟨w.heap.size,k,none⟩=some (.string ⟨#[]⟩):=(by rw[ho7.cellAt k (by omega)];unfold rowP;have hlk:((ps.take k).map Value.string).length=k:=(by rw[List.length_map,List.length_take];have:=HPL.out;omega);rw[List.getElem?_append_right (by omega),hlk,Nat.sub_self,List.getElem?_replicate,if_pos (by omega)]);have hf9:=ho7.frozenAt k;have HO7:=Lib.hid ho7;clear ho7))
   refine⟨⟨k+1,by omega,by go_num,?_,(Qj hbr hb67).setCell (p:=⟨w.heap.size,k,none⟩) (Nat.le_refl _) _⟩,by simp[intOf];omega⟩
   have hfin:=(HO7.out.stored k (.string vv)).1
   rw[HST.out]at hfin
   exact Lib.hid hfin
  ·obtain rfl:k=n:=by omega
   have hown:=HO.out
   rw[rowP_end ps k HPL.out]at hown
   have hj:=HK.out wr hbr (some ⟨w.heap.size,0,none⟩) k (Reads.of_own hown)
   have HJ:=Lib.hid hj
   clear hj hown HO
   go_wp2_with (go_at_call 178;refine HJ.out.mono ?_;rintro e w4 ⟨rfl,hb4⟩)
   go_ret
   exact⟨rfl,Qj hbr hb4⟩
theorem same_keys (l:List Zo) (g h:List Hdr):((keyB l g).toList==(keyB l h).toList)=ZY l g h:=by
 unfold ZY
 rw[Lib.toList_data,Lib.toList_data,keyB_data,keyB_data]
 by_cases e:keyV l g=keyV l h
 ·rw[decide_eq_true e,e];simp
 ·rw[decide_eq_false e];simpa using e
theorem Same_any (A:Option Addr) (n c:Nat) (L:List Qo) (GA:Option Addr) (gm gd:Nat) (G:List Hdr) (HA:Option Addr) (m d:Nat) (H:List Hdr) (w:World) (hL:QX w A n L) (hG:X4 w GA gm G) (hH:X4 w HA m H) (hf:∀ x∈L,Xi x.v) (hn:n≤10) (hm:m≤1000) (hgm:gm≤1000) :
  Calls Tryz.prog 71 #[.slice A n c,.slice GA gm gd,.slice HA m d] w (Zx w (.bool (ZY (L.map (·.v)) G H))):=by
 have cG:=fun (W:World) (hb:Below w.heap.size w W)=>Key_any A n c L GA gm gd G W (hL.keep hb) (hG.keep hb) hf hn hgm
 have cH:=fun (W:World) (hb:Below w.heap.size w W)=>Key_any A n c L HA m d H W (hL.keep hb) (hH.keep hb) hf hn hm
 have hs:=same_keys (L.map (·.v)) G H
 generalize keyB (L.map (·.v)) G=k1 at *
 generalize keyB (L.map (·.v)) H=k2 at *
 generalize ZY (L.map (·.v)) G H=v at *
 have HG:=Lib.hid cG;have HH:=Lib.hid cH;have HS:=Lib.hid hs
 clear cG cH hL hG hH hf hs
 go_enter Tryz.func71,Tryz.ntmps71
 go_wp2_with fail
 refine (HG.out _ (Below.refl _ _)).mono ?_
 rintro e w1 ⟨rfl,hb1⟩
 go_wp2_with fail
 refine (HH.out _ hb1).mono ?_
 rintro e w2 ⟨rfl,hb2⟩
 go_wp2_with fail
 go_ret
 exact⟨QY HS.out,Qj hb1 hb2⟩
theorem of_take (x:Qo) (L:List Qo) (k:Nat) (hx:L[k]? = some x):decide (ofV L x.v.header<(k:Int))=decide (0≤ofV (L.take k) x.v.header):=by
 have hs:L=L.take k++L.drop k:=(List.take_append_drop k L).symm
 have hk:=(List.getElem?_eq_some_iff.1 hx).1
 have key:∀ (p:Qo→Bool) (l r:List Qo) (b:Nat),(0≤XZ p l b∧XZ p (l++r) b=XZ p l b∧XZ p l b<(b+l.length:Nat))∨(XZ p l b = -1∧XZ p (l++r) b=XZ p r (b+l.length)):=by
  intro p l
  induction l with
  | nil=>intro r b;exact .inr ⟨rfl,by simp⟩
  | cons y l ih =>
   intro r b
   rw[List.cons_append,XZ,XZ]
   cases hy:p y
   ·rw[if_neg (by decide),if_neg (by decide)]
    rcases ih r (b+1) with ⟨h1,h2,h3⟩ | ⟨h1,h2⟩
    ·exact .inl ⟨h1,h2,by simp only[List.length_cons];omega⟩
    ·exact .inr ⟨h1,by rw[h2];congr 1;simp only[List.length_cons];omega⟩
   ·rw[if_pos rfl,if_pos rfl]
    exact .inl ⟨by omega,rfl,by simp only[List.length_cons];omega⟩
 have hd:L.drop k=x :: L.drop (k+1):=by
  obtain⟨hl2,rfl⟩:=List.getElem?_eq_some_iff.1 hx
  exact List.drop_eq_getElem_cons hl2
 have hlt:(L.take k).length=k:=by rw[List.length_take];omega
 have h:=key (fun y:Qo=>y.v.header.toList==x.v.header.toList) (L.take k) (L.drop k) 0
 rw[←hs,hlt]at h
 unfold ofV
 rcases h with ⟨h1,h2,h3⟩ | ⟨h1,h2⟩
 ·rw[h2,decide_eq_true h1,decide_eq_true (by omega)]
 ·have h4:XZ (fun y:Qo=>y.v.header.toList==x.v.header.toList) (L.drop k) (0+k)=((0+k:Nat):Int):=by rw[hd,XZ,if_pos (by simp)]
  rw[h2,h4,h1,decide_eq_false (by omega),decide_eq_false (by omega)]
structure CkT2 (w:World) (g:Nat) (X:Array Value) (W:World):Prop where
 x:Zl W g 98 X
 b:Below w.heap.size w W
theorem CkT2.keep {w:World} {g:Nat} {X:Array Value} {W W':World} (h:CkT2 w g X W) (hb:Below W.heap.size W W'):CkT2 w g X W':=⟨h.x.keep hb,Qj h.b hb⟩
theorem rCheck23_any (A:Option Addr) (n c:Nat) (L:List Qo) (w:World) (hL:QX w A n L) (hf:∀ x∈L,Xi x.v) (hn:n≤10):Calls Tryz.prog 77 #[.slice A n c] w (Zx w (.int .i64 (XU L))):=by
 have hl:L.length=n:=hL.len
 obtain⟨V,hV⟩:∃ V,V=XU L:=⟨_,rfl⟩
 rw[←hV]
 unfold XU at hV
 have cN:=fun (x:Qo) (hx:x∈L) (W:World)=>rName23_any x.v.header W (by have:=(hf x hx).h;omega)
 have cO:=fun (x:Qo) (W:World) (hb:Below w.heap.size w W)=>rOf23_any A n c L x.v.header W (hL.keep hb) (by omega)
 have cV:=fun (x:Qo) (hx:x∈L) (s:ByteArray) (hs:s∈x.v.values) (W:World)=>rValue23_any s W (by have:=(hf x hx).x s hs;omega)
 have cH:=fun (x:Qo) (hx:x∈L) (W:World) (hb:Below w.heap.size w W)=>rHas23_any x.A x.v.values.length x.c x.v.values x.v.dflt W (Reads.keep (hL.each x hx) hb) (by have:=(hf x hx).n;omega)
 have HL:=Lib.hid hL;have HLN:=Lib.hid hl;have HCN:=Lib.hid cN;have HCO:=Lib.hid cO;have HCV:=Lib.hid cV;have HCH:=Lib.hid cH;have HF:=Lib.hid hf
 clear hL cN cO cV cH hf
 by_cases h8:8<n
 ·rw[if_pos (by omega)]at hV
  subst hV
  have d8:decide ((8:Int)<(n:Int))=true:=decide_eq_true (by omega)
  clear hl
  go_enter Tryz.func77,Tryz.ntmps77
  go_wp2_with fail
  go_ret
  exact⟨rfl,Qz⟩
 rw[if_neg (by omega)]at hV
 have d8:decide ((8:Int)<(n:Int))=false:=decide_eq_false (by omega)
 have HV:=Lib.hid hV
 clear hl hV
 go_enter Tryz.func77,Tryz.ntmps77
 go_wp2_with fail
 go_loopw [3] (fun iv wr=>∃ k:Nat,k≤n∧iv=.int .i64 k∧Hid ((L.take k).any (fun x=>decide (16<x.v.values.length))=false)∧Below w.heap.size w wr) (fun iv _=>n-(intOf iv).toNat)
 case atStart=>exact⟨0,by omega,rfl,Lib.hid (by simp),Below.refl _ _⟩
 case round =>
  obtain⟨k,hk,rfl,HA,hbr⟩:=hrel
  by_cases hlt:k<n
  ·obtain⟨x,hx⟩:∃ x,L[k]? = some x:=⟨_,List.getElem?_eq_getElem (by have:=HLN.out;omega)⟩
   obtain⟨_,b,o,rfl,hcell⟩:=(HL.out.keep hbr).at_ hx
   have c1:wr.cell? ⟨b,o+k*3+1,none⟩=some (.slice x.A x.v.values.length x.c):=hcell 1 _ rfl
   have hk0:(0:Int)≤(k:Int):=by omega
   have hk1:(k:Int)<(n:Int):=by omega
   by_cases h16:16<x.v.values.length
   ·have hany:(L.any fun x=>decide (16<x.v.values.length))=true:=by
     rw[List.any_eq_true]
     exact⟨x,List.mem_of_getElem? hx,decide_eq_true h16⟩
    obtain rfl:V=2:=by rw[HV.out,if_pos hany]
    have d16:decide ((16:Int)<(x.v.values.length:Int))=true:=decide_eq_true (by omega)
    clear hany hx hcell
    go_wp2_with fail
    go_ret
    exact⟨rfl,hbr⟩
   ·have d16:decide ((16:Int)<(x.v.values.length:Int))=false:=decide_eq_false (by omega)
    have HA2:Hid ((L.take (k+1)).any (fun x=>decide (16<x.v.values.length))=false):=Lib.hid (by rw[List.take_add_one,hx,List.any_append,HA.out];simp;omega)
    clear hx hcell
    go_wp2_with fail
    exact⟨⟨k+1,by omega,by go_num,HA2,hbr⟩,by simp[intOf];omega⟩
  ·obtain rfl:k=n:=by omega
   have hV:=HV.out
   have hA:=HA.out
   rw[List.take_of_length_le (by have:=HLN.out;omega)]at hA
   rw[if_neg (by rw[hA];decide)]at hV
   have HV2:=Lib.hid hV
   clear hV hA HV HA
   obtain⟨wi,rfl⟩:∃ wi:World,wi=wr:=⟨_,rfl⟩
   go_wp2_with fail
   go_loopw [4] (fun iv wr=>∃ k2:Nat,k2≤k∧iv=.int .i64 k2∧Hid (V=U9 (L.drop k2) (L.take k2))∧Below w.heap.size w wr) (fun iv _=>k-(intOf iv).toNat)
   case atStart=>exact⟨0,by omega,rfl,Lib.hid (by rw[HV2.out];rfl),hbr⟩
   case round =>
    obtain⟨n,rfl⟩:∃ n,n=k:=⟨_,rfl⟩
    clear hbr hlt hk
    obtain⟨k,hk,rfl,HI,hbr⟩:=hrel
    obtain⟨wo,rfl⟩:∃ wo:World,wo=wr:=⟨_,rfl⟩
    by_cases hlt:k<n
    ·obtain⟨x,hx⟩:∃ x,L[k]? = some x:=⟨_,List.getElem?_eq_getElem (by have:=HLN.out;omega)⟩
     have hxm:=List.mem_of_getElem? hx
     have hcn:=HCN.out x hxm
     have hco:=HCO.out x
     have hcv:=HCV.out x hxm
     have hch:=HCH.out x hxm
     have hxr:=HL.out.each x hxm
     have hot:=of_take x L k hx
     have hxf:=HF.out x hxm
     obtain⟨_,b,o,rfl,hcell⟩:=(HL.out.keep hbr).at_ hx
     have hld:=Jf wo b (o+k*3) x hcell
     have hd:L.drop k=x :: L.drop (k+1):=by
      obtain⟨hl2,rfl⟩:=List.getElem?_eq_some_iff.1 hx
      exact List.drop_eq_getElem_cons hl2
     have htk:L.take k++[x]=L.take (k+1):=by rw[List.take_add_one,hx];rfl
     have hVA:=HI.out
     rw[hd,U9,htk]at hVA
     obtain⟨rv,hrv⟩:∃ rv,rv=Vk x (L.take k):=⟨_,rfl⟩
     rw[←hrv]at hVA
     unfold Vk at hrv
     have h0:x.cells.toArray[0]? = some (.string x.v.header):=rfl
     have h1:x.cells.toArray[1]? = some (.slice x.A x.v.values.length x.c):=rfl
     have h2:x.cells.toArray[2]? = some (.string x.v.dflt):=rfl
     have hone:x.cells.toArray.all (·.oneCell')=true:=by rw[List.all_toArray];rfl
     have hsz2:x.cells.toArray.size=3:=by rw[List.size_toArray,x.cells_len]
     have hi3:(Tryz.prog.info? 98).map (·.size)=some x.cells.toArray.size:=by rw[hsz2];exact infVar
     have hsz:x.cells.toArray.size=(#[.string ⟨#[]⟩,.slice none 0 0,.string ⟨#[]⟩]:Array Value).size:=by rw[hsz2];rfl
     unfold Qo.val at hld
     generalize x.cells.toArray=X at *
     have HLD:=Lib.hid hld;have HON:=Lib.hid hone;have HXS:=Lib.hid hsz2;have HI3:=Lib.hid hi3;have HSZ:=Lib.hid hsz;have HX0:=Lib.hid h0;have HX1:=Lib.hid h1;have HX2:=Lib.hid h2;have HVA:=Lib.hid hVA;have HXR:=Lib.hid hxr;have HXF:=Lib.hid hxf
     clear hld hone hsz2 hi3 hsz h0 h1 h2 hcell hx hxm hd htk hVA HI hxr hxf
     have hk0:(0:Int)≤(k:Int):=by omega
     have hk1:(k:Int)<(n:Int):=by omega
     cases hnm:Xh Uw x.v.header
     ·rw[if_pos hnm]at hrv
      have hv:=HVA.out
      rw[hrv,if_neg (by decide)]at hv
      subst hv
      rw[hnm]at hcn
      have HN:=Lib.hid hcn
      clear hcn hco hcv hch hot hnm HVA HXR HXF hrv
      go_wp2_with (first | (refine Qw rfl 98 _ rfl ⟨b,o+k*3,none⟩ (.agg X) rfl HLD.out ?_) | (refine wpList_store_row rfl 98 _ _ rfl wo.heap.size X rfl rfl _ #[.string ⟨#[]⟩,.slice none 0 0,.string ⟨#[]⟩] ((heap_alloc_new wo _).trans rfl) HI3.out HSZ.out.symm HON.out ?_;generalize hw6:World.setRow _ _ _=w6;have B6:Zl w6 wo.heap.size 98 X:=(by rw[←hw6];exact setRow_heap _ _ _ _ _ _ (heap_alloc_new wo _));have hb6:Below wo.heap.size wo w6:=(by rw[←hw6];exact below_setRow ((Below.refl _ _).alloc (Nat.le_refl _) _) (Nat.le_refl _) _);clear hw6;have x0:=B6.cell HX0.out) | (go_at_call 136;refine (HN.out _).mono ?_;rintro e w7 ⟨rfl,hb7⟩;replace B6:=B6.keep hb7;replace hb6:=Qj hb6 hb7;clear hb7;have x0:=B6.cell HX0.out))
      go_ret
      exact⟨rfl,Qj hbr hb6⟩
     rw[hnm]at hcn
     have HN:=Lib.hid hcn
     rw[if_neg (by rw[hnm];decide)]at hrv
     clear hcn hnm
     by_cases hof:0≤ofV (L.take k) x.v.header
     ·rw[if_pos hof]at hrv
      have hv:=HVA.out
      rw[hrv,if_neg (by decide)]at hv
      subst hv
      rw[decide_eq_true hof]at hot
      generalize ofV L x.v.header=ov at *
      have HO:=Lib.hid hco
      clear hco hcv hch hof HXR HXF HVA hrv
      go_wp2_with (first | (refine Qw rfl 98 _ rfl ⟨b,o+k*3,none⟩ (.agg X) rfl HLD.out ?_) | (refine wpList_store_row rfl 98 _ _ rfl wo.heap.size X rfl rfl _ #[.string ⟨#[]⟩,.slice none 0 0,.string ⟨#[]⟩] ((heap_alloc_new wo _).trans rfl) HI3.out HSZ.out.symm HON.out ?_;generalize hw6:World.setRow _ _ _=w6;have B6:Zl w6 wo.heap.size 98 X:=(by rw[←hw6];exact setRow_heap _ _ _ _ _ _ (heap_alloc_new wo _));have hb6:Below wo.heap.size wo w6:=(by rw[←hw6];exact below_setRow ((Below.refl _ _).alloc (Nat.le_refl _) _) (Nat.le_refl _) _);clear hw6;have x0:=B6.cell HX0.out) | (go_at_call 136;refine (HN.out _).mono ?_;rintro e w7 ⟨rfl,hb7⟩;replace B6:=B6.keep hb7;replace hb6:=Qj hb6 hb7;clear hb7;have x0:=B6.cell HX0.out) | (go_at_call 85;refine (HO.out _ (Qj hbr hb6)).mono ?_;rintro e w8 ⟨rfl,hb8⟩;replace B6:=B6.keep hb8;replace hb6:=Qj hb6 hb8;clear hb8))
      go_ret
      exact⟨rfl,Qj hbr hb6⟩
     rw[if_neg hof]at hrv
     rw[decide_eq_false hof]at hot
     generalize ofV L x.v.header=ov at *
     have HO:=Lib.hid hco
     have HRV:=Lib.hid hrv
     clear hco hof hrv
     obtain⟨m,hm⟩:∃ m,m=x.v.values.length:=⟨_,rfl⟩
     have hm10:m≤10:=by rw[hm];exact HXF.out.n
     have HM:=Lib.hid hm
     go_upto_region 17 with (first | (refine Qw rfl 98 _ rfl ⟨b,o+k*3,none⟩ (.agg X) rfl HLD.out ?_) | (refine wpList_store_row rfl 98 _ _ rfl wo.heap.size X rfl rfl _ #[.string ⟨#[]⟩,.slice none 0 0,.string ⟨#[]⟩] ((heap_alloc_new wo _).trans rfl) HI3.out HSZ.out.symm HON.out ?_;generalize hw6:World.setRow _ _ _=w6;have B6:Zl w6 wo.heap.size 98 X:=(by rw[←hw6];exact setRow_heap _ _ _ _ _ _ (heap_alloc_new wo _));have hb6:Below wo.heap.size wo w6:=(by rw[←hw6];exact below_setRow ((Below.refl _ _).alloc (Nat.le_refl _) _) (Nat.le_refl _) _);clear hw6;have x0:=B6.cell HX0.out) | (go_at_call 136;refine (HN.out _).mono ?_;rintro e w7 ⟨rfl,hb7⟩;replace B6:=B6.keep hb7;replace hb6:=Qj hb6 hb7;clear hb7;have x0:=B6.cell HX0.out) | (go_at_call 85;refine (HO.out _ (Qj hbr hb6)).mono ?_;rintro e w8 ⟨rfl,hb8⟩;replace B6:=B6.keep hb8;replace hb6:=Qj hb6 hb8;clear hb8))
     clear x0 hot
     have hs6:CkT2 w wo.heap.size X w8:=⟨B6,Qj hbr hb6⟩
     have HS8:=Lib.hid hs6
     clear hs6 B6 hb6 hbr
     have hx1:=HX1.out
     rw[←hm]at hx1
     have HX1:=Lib.hid hx1
     clear hx1 hm
     have hxa:=Reads.keep HXR.out (Below.refl _ w)
     rw[←HM.out]at hxa
     have HXA:=Lib.hid hxa
     clear hxa
     go_wp2_with fail
     go_loopw [7] (fun iv wr=>∃ i:Nat,i≤m∧iv=.int .i64 i∧Hid ((List.range i).all (Jt KQ (Xh Xf) x.v.values)=true)∧Hid (CkT2 w wo.heap.size X wr)) (fun iv _=>m-(intOf iv).toNat)
     case atStart=>exact⟨0,by omega,rfl,Lib.hid rfl,HS8⟩
     case round =>
      obtain⟨i,hi,rfl,HK,HBr⟩:=hrel
      clear HS8
      have z1:=HBr.out.x.cell HX1.out
      by_cases hil:i<m
      ·obtain⟨u,hu⟩:∃ u,x.v.values[i]? = some u:=⟨_,List.getElem?_eq_getElem (by have:=HM.out;omega)⟩
       have hcu:=hcv u (List.mem_of_getElem? hu)
       obtain⟨pb,po,hTA,hcell⟩:=HXA.out.2 (by omega)
       rw[hTA]at z1 HX1
       have hc1:w.cell? ⟨pb,po+i,none⟩=some (.string u):=hcell i _ (by simp[hu])
       have z2:=Qq HBr.out.b hc1
       have HU:=Lib.hid hc1
       have hi0:(0:Int)≤(i:Int):=by omega
       have hi1:(i:Int)<(m:Int):=by omega
       clear hc1
       cases hnu:Xh Xf u
       ·obtain rfl:V=1:=by
         have hva:=Vr (l:=x.v.values) (k:=i) (by have:=HM.out;omega) (by simp[Jt,hu,hnu])
         have hr1:rv=1:=by rw[HRV.out,hva];cases dfltOk x.v <;> rfl
         rw[HVA.out,hr1];rfl
        rw[hnu]at hcu
        have HNU:=Lib.hid hcu
        clear hcu hcell hu hnu HK HVA HRV hcv hch
        go_upto_region 21 with (go_at_call 137;refine (HNU.out _).mono ?_;rintro e w2 ⟨rfl,hb2⟩;replace HBr:=Lib.hid (HBr.out.keep hb2);clear hb2)
        clear z1 z2
        refine Xo 20 (by kernel_rfl) (by kernel_rfl) (by kernel_rfl) (fun q=>[.bool false,.bool true,.bool true,undef,undef,undef,undef,undef,undef,undef,undef,undef,undef,undef,undef,undef,undef,undef,undef,.bool true].getD q undef) (CkT2 w wo.heap.size X) (HBr.out.keep (Below.drew (Below.refl _ _))) (fun _ _ h hb=>h.keep hb) ?_ ?_
        ·simp only[QU,Zj,Act.put]
         refine⟨fun W hS=>?_,fun W hS=>?_,fun W hS=>?_,fun W hS=>?_,fun W hS=>?_,fun W hS=>?_,fun W hS=>?_,fun W hS=>?_,fun W hS=>?_,fun W hS=>?_,fun W hS=>?_,fun W hS=>?_,fun W hS=>?_,fun W hS=>?_,fun W hS=>?_,fun W hS=>?_,fun W hS=>?_,fun W hS=>?_,fun W hS=>?_,fun W hS=>?_,trivial⟩
         all_goals
          have z1:=hS.x.cell HX1.out
          skip
          go_wp2
          exact⟨rfl,rfl,Qz⟩
        intro w9 hS9
        simp only[QU,Zj,Act.put]
        go_wp2
        go_ret
        exact⟨rfl,hS9.b⟩
       ·rw[hnu]at hcu
        have HNU:=Lib.hid hcu
        rcases Nat.eq_zero_or_pos i with h0 | hpos
        ·subst h0
         have HK2:Hid ((List.range (0+1)).all (Jt KQ (Xh Xf) x.v.values)=true):=Lib.hid (X9 HK.out (by rw[okV_zero hu,hnu]))
         simp only[Nat.add_zero]at z2
         clear hcu hcell hu hnu HK hcv hch
         go_upto_region 21 with (go_at_call 137;refine (HNU.out _).mono ?_;rintro e w2 ⟨rfl,hb2⟩;replace HBr:=Lib.hid (HBr.out.keep hb2);clear hb2)
         clear z1 z2
         refine Xo 20 (by kernel_rfl) (by kernel_rfl) (by kernel_rfl) (fun q=>[.bool true,.bool false,.bool false,.int .i64 0,.bool false,.bool false,undef,undef,undef,undef,undef,undef,undef,undef,undef,undef,undef,undef,.bool false,.bool false].getD q undef) (CkT2 w wo.heap.size X) (HBr.out.keep (Below.drew (Below.refl _ _))) (fun _ _ h hb=>h.keep hb) ?_ ?_
         ·simp only[QU,Zj,Act.put]
          refine⟨fun W hS=>?_,fun W hS=>?_,fun W hS=>?_,fun W hS=>?_,fun W hS=>?_,fun W hS=>?_,fun W hS=>?_,fun W hS=>?_,fun W hS=>?_,fun W hS=>?_,fun W hS=>?_,fun W hS=>?_,fun W hS=>?_,fun W hS=>?_,fun W hS=>?_,fun W hS=>?_,fun W hS=>?_,fun W hS=>?_,fun W hS=>?_,fun W hS=>?_,trivial⟩
          all_goals
           have z1:=hS.x.cell HX1.out
           skip
           go_wp2
           exact⟨rfl,rfl,Qz⟩
         intro w9 hS9
         have HS9:=Lib.hid hS9
         clear hS9
         simp only[QU,Zj,Act.put]
         go_wp2
         exact⟨⟨1,by omega,rfl,HK2,HS9⟩,by simp[intOf];omega⟩
        ·obtain⟨j,hj⟩:∃ j,i=j+1:=⟨i-1,by omega⟩
         obtain⟨y,hy⟩:∃ y,x.v.values[j]? = some y:=⟨_,List.getElem?_eq_getElem (by have:=HM.out;omega)⟩
         have hc2:w.cell? ⟨pb,po+j,none⟩=some (.string y):=hcell j _ (by simp[hy])
         have HY:=Lib.hid hc2
         have hk2:(0:Int)≤(j:Int):=by omega
         have hk3:(j:Int)<(m:Int):=by omega
         have hk4:((i:Int)-1)=j:=by omega
         have hk5:decide ((0:Int)<(i:Int))=true:=decide_eq_true (by omega)
         have hle:=Ym u y
         have hat:=okV_at (by rw[←hj];exact hu) hy
         rw[hnu,Bool.true_and,←hj]at hat
         obtain⟨le,hlee⟩:∃ le,le = !KQ y u:=⟨_,rfl⟩
         have hlt2:KQ y u = !le:=by rw[hlee];simp
         rw[hlt2,Bool.not_not]at hle
         rw[hlt2]at hat
         have HAT:=Lib.hid hat
         have HJ:=Lib.hid hj
         clear hcu hcell hu hy hc2 hnu hcv hch hat hlee hlt2 hj
         go_upto_region 21 with (go_at_call 137;refine (HNU.out _).mono ?_;rintro e w2 ⟨rfl,hb2⟩;replace HBr:=Lib.hid (HBr.out.keep hb2);clear hb2)
         clear z1 z2
         refine Xo 20 (by kernel_rfl) (by kernel_rfl) (by kernel_rfl) (fun q=>[.bool true,.bool false,.bool false,.int .i64 i,.bool true,.bool true,.pointer (some ⟨wo.heap.size,1,none⟩),.slice (some ⟨pb,po,none⟩) m x.c,.int .i64 i,.pointer (some ⟨pb,po+i,none⟩),.string u,.pointer (some ⟨wo.heap.size,1,none⟩),.slice (some ⟨pb,po,none⟩) m x.c,.int .i64 i,.int .i64 j,.pointer (some ⟨pb,po+j,none⟩),.string y,.bool le,.bool le,.bool le].getD q undef) (CkT2 w wo.heap.size X) (HBr.out.keep (Below.drew (Below.refl _ _))) (fun _ _ h hb=>h.keep hb) ?_ ?_
         ·simp only[QU,Zj,Act.put]
          refine⟨fun W hS=>?_,fun W hS=>?_,fun W hS=>?_,fun W hS=>?_,fun W hS=>?_,fun W hS=>?_,fun W hS=>?_,fun W hS=>?_,fun W hS=>?_,fun W hS=>?_,fun W hS=>?_,fun W hS=>?_,fun W hS=>?_,fun W hS=>?_,fun W hS=>?_,fun W hS=>?_,fun W hS=>?_,fun W hS=>?_,fun W hS=>?_,fun W hS=>?_,trivial⟩
          all_goals
           have z1:=hS.x.cell HX1.out
           have z2:=Qq hS.b HU.out;have z3:=Qq hS.b HY.out
           go_wp2
           exact⟨rfl,rfl,Qz⟩
         intro w9 hS9
         have HS9:=Lib.hid hS9
         cases le
         ·have HK2:Hid ((List.range (i+1)).all (Jt KQ (Xh Xf) x.v.values)=true):=Lib.hid (X9 HK.out (by rw[HAT.out];rfl))
          clear hS9
          simp only[QU,Zj,Act.put]
          go_wp2
          exact⟨⟨i+1,by omega,by go_num,HK2,HS9⟩,by simp[intOf];omega⟩
         ·obtain rfl:V=1:=by
           have hva:=Vr (l:=x.v.values) (k:=i) (by have:=HM.out;omega) (by rw[HAT.out];rfl)
           have hr1:rv=1:=by rw[HRV.out,hva];cases dfltOk x.v <;> rfl
           rw[HVA.out,hr1];rfl
          have hb9:=hS9.b
          clear hS9
          simp only[QU,Zj,Act.put]
          go_wp2
          go_ret
          exact⟨rfl,hb9⟩
      ·obtain rfl:i=m:=by omega
       have hall:valuesA x.v.values=true:=by
        unfold valuesA
        have:=HK.out
        rw[HM.out]at this
        exact this
       have hv3:=HRV.out
       rw[hall]at hv3
       have z3:=HBr.out.x.cell HX2.out
       clear hall HRV HK
       have hdo:dfltOk x.v=(x.v.dflt.toList.isEmpty||Lib.containsS x.v.values x.v.dflt):=rfl
       have hde:x.v.dflt.toList.isEmpty=decide (x.v.dflt.size=0):=by
        rw[Lib.toList_data,Lib.size_eq]
        cases x.v.dflt.data.toList <;> simp
       rw[hde]at hdo
       have hch2:=fun W hb=>hch W hb
       simp only[←HM.out]at hch2
       generalize Lib.containsS x.v.values x.v.dflt=ct at *
       by_cases hd0:x.v.dflt.size=0
       ·rw[decide_eq_true hd0,Bool.true_or]at hdo
        rw[hdo]at hv3
        have hv4:=HVA.out
        rw[show rv=0 from hv3,if_pos rfl]at hv4
        have HV4:=Lib.hid hv4
        clear hv4 HVA
        have d0:decide ((0:Int)<(x.v.dflt.size:Int))=false:=decide_eq_false (by omega)
        have d1:decide (0<x.v.dflt.size)=false:=decide_eq_false (by omega)
        have d2:¬ 0<x.v.dflt.size:=by omega
        clear hdo hv3 hch hch2 hde hd0
        go_wp2_with fail
        exact⟨⟨k+1,by omega,by go_num,HV4,HBr.out.b⟩,by simp[intOf];omega⟩
       ·rw[decide_eq_false hd0,Bool.false_or]at hdo
        have d0:decide ((0:Int)<(x.v.dflt.size:Int))=true:=decide_eq_true (by omega)
        have d1:decide (0<x.v.dflt.size)=true:=decide_eq_true (by omega)
        have d2:0<x.v.dflt.size:=by omega
        have HC:=Lib.hid hch2
        rw[hdo]at hv3
        clear hdo hch hch2 hde hd0
        cases ct
        ·have hv4:=HVA.out
         rw[show rv=1 from hv3,if_neg (by decide)]at hv4
         subst hv4
         go_wp2_with (go_at_call 138;refine (HC.out _ HBr.out.b).mono ?_;rintro e w2 ⟨rfl,hb2⟩)
         go_ret
         exact⟨rfl,Qj HBr.out.b hb2⟩
        ·have hv4:=HVA.out
         rw[show rv=0 from hv3,if_pos rfl]at hv4
         have HV4:=Lib.hid hv4
         clear hv3 hv4 HVA
         go_wp2_with (go_at_call 138;refine (HC.out _ HBr.out.b).mono ?_;rintro e w2 ⟨rfl,hb2⟩)
         exact⟨⟨k+1,by omega,by go_num,HV4,Qj HBr.out.b hb2⟩,by simp[intOf];omega⟩
    ·obtain rfl:k=n:=by omega
     have hV:=HI.out
     rw[List.drop_eq_nil_of_le (by have:=HLN.out;omega),U9]at hV
     subst hV
     clear HI
     go_wp2_with fail
     go_ret
     exact⟨rfl,hbr⟩
end Go.Proofs.YticlbkficolocaaGreatDoor
