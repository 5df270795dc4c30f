/- What the specification's Valid of conditions returns. -/
import Derived.Test.YtlkbkclnbppigaaGreatDoorRY0
import Derived.Test.YtlkbkclnbppigaaGreatDoorIZ38
set_option maxHeartbeats 16000000
namespace Go.Proofs.YtlkbkclnbppigaaGreatDoor
open Go.RowKit Go.Sort
set_option linter.unusedVariables false
set_option linter.unusedSimpArgs false
set_option maxRecDepth 100000
theorem okK_split {α:Type} (lt:α→α→Bool) (right:α→Bool) (l:List α) (k:Nat):okK lt right l k=((match l[k]? with
  | none=>true
  | some x=>right x)&&okK lt (fun _=>true) l k):=by
 unfold okK
 cases l[k]? <;> simp
theorem setB_split (right:aC→Bool) (most:Nat) (l:List aC):iU ltB right most l=(decide (l.length≤most)&&l.all right&&ascB l):=by
 unfold iU ascB
 rw[Bool.eq_iff_iff]
 simp only[Bool.and_eq_true,decide_eq_true_eq,List.all_eq_true]
 constructor
 ·rintro⟨h1,h2⟩
  refine⟨⟨h2,fun x hx=>?_⟩,fun k hk=>?_⟩
  ·obtain⟨k,hk,rfl⟩:=List.getElem_of_mem hx
   have:=h1 k (by simpa using hk)
   rw[okK_split,List.getElem?_eq_getElem hk,Bool.and_eq_true]at this
   exact this.1
  ·have:=h1 k hk
   rw[okK_split,Bool.and_eq_true]at this
   exact this.2
 ·rintro⟨⟨h1,h2⟩,h3⟩
  refine⟨fun k hk=>?_,h1⟩
  rw[okK_split,Bool.and_eq_true]
  refine⟨?_,h3 k hk⟩
  have hk':k<l.length:=by simpa using hk
  rw[List.getElem?_eq_getElem hk']
  exact h2 _ (List.getElem_mem hk')
def sitesOk (l:List Int):Bool:=(List.range l.length).all (okK ltI jb l)
theorem sites_fail {l:List Int} {k:Nat} (hk:k<l.length) (h2:okK ltI jb l k=false):sitesOk l=false:=by
 unfold sitesOk
 rw[List.all_eq_false]
 exact⟨k,by simpa using hk,by rw[h2];simp⟩
theorem validC_split (c:aY):bF c=(BK c&&gY c.pat&&decide (c.cl.length≤32)&&decide (c.co.length≤32)&&decide (c.si.length≤64)&&(c.cl.all bU&&c.co.all iV&&sitesOk c.si&&ascB c.cl&&ascB c.co)):=by
 unfold bF
 rw[setB_split,setB_split]
 have h3:iU ltI jb 64 c.si=(sitesOk c.si&&decide (c.si.length≤64)):=rfl
 rw[h3]
 generalize BK c=a1
 generalize gY c.pat=a2
 generalize decide (c.cl.length≤32)=a3
 generalize decide (c.co.length≤32)=a4
 generalize decide (c.si.length≤64)=a5
 generalize c.cl.all bU=a6
 generalize c.co.all iV=a7
 generalize sitesOk c.si=a8
 generalize ascB c.cl=a9
 generalize ascB c.co=a10
 revert a1 a2 a3 a4 a5 a6 a7 a8 a9 a10
 decide
theorem rValid21_any (c:aY) (m:ae) (w:World) (hR:dA w c m) (hp:c.pat.size≤100000) (hcl:∀ x∈c.cl,x.size≤100000) (hco:∀ x∈c.co,x.size≤100000) (h1:c.cl.length≤1000000) (h2:c.co.length≤1000000) (h3:c.si.length≤1000000) :
  Calls Tryz.prog 32 #[ae.val c m] w (Ret w (.bool (bF c))):=by
 obtain⟨fr,till,pat,cl,co,si,us⟩:=c
 obtain⟨A,ca,B,cb,S,cs⟩:=m
 obtain⟨hA,hB,hS⟩:=hR
 dsimp only at hA hB hS hp hcl hco h1 h2 h3
 unfold ae.val
 dsimp only
 obtain⟨V,hV⟩:∃ V,V=bF ⟨fr,till,pat,cl,co,si,us⟩:=⟨_,rfl⟩
 rw[←hV]
 rw[validC_split]at hV
 unfold BK gY at hV
 dsimp only at hV
 have hva:=fun W=>rValid_any pat W hp
 have hna:=fun x (hx:x∈cl) W=>rName_any x W (by have:=hcl x hx;omega)
 have hcy:=fun x (hx:x∈co) W=>rCountry_any x W (by have:=hco x hx;omega)
 have Fe:=fun W (hb:Below w.heap.size w W)=>rAscend_any A cl.length ca cl W (hA.keep hb) (by omega)
 have Ff:=fun W (hb:Below w.heap.size w W)=>rAscend_any B co.length cb co W (hB.keep hb) (by omega)
 generalize (dI pat).isSome=b1 at *
 obtain⟨na,hna0⟩:∃ na,na=cl.length:=⟨_,rfl⟩
 obtain⟨nb,hnb0⟩:∃ nb,nb=co.length:=⟨_,rfl⟩
 obtain⟨ns,hns0⟩:∃ ns,ns=si.length:=⟨_,rfl⟩
 rw[←hna0]at hA hV h1 Fe ⊢
 rw[←hnb0]at hB hV h2 Ff ⊢
 rw[←hns0]at hS hV h3 ⊢
 have HVA:=Lib.hid hva
 have HNA:=Lib.hid hna
 have HCY:=Lib.hid hcy
 have HAS1:=Lib.hid Fe
 have HAS2:=Lib.hid Ff
 have HA:=Lib.hid hA;have HB:=Lib.hid hB;have HS:=Lib.hid hS
 have HLA:=Lib.hid hna0;have HLB:=Lib.hid hnb0;have HLS:=Lib.hid hns0
 clear hva hna hcy Fe Ff hA hB hS hna0 hnb0 hns0 hcl hco hp
 by_cases t1:0≤fr
 rotate_left
 ·obtain rfl:V=false:=by rw[hV];simp[t1]
  have d1:decide (fr<0)=true:=decide_eq_true (by omega)
  clear hV
  (go_enter Tryz.func32,Tryz.ntmps32;go_wp2_with (go_at_call 66;refine (HVA.out _).mono ?_;rintro e w2 ⟨rfl,hb2⟩;(have hX2:aX w2 w.heap.size fr till pat A na ca B nb cb S ns cs us:=(by first | exact Blk.keep hX hb2 | exact Blk.keep hX2 hb2 | exact Blk.keep (World.alloc_heap_new _ _) hb2);obtain⟨x0,x1,x2,x3,x4,x5,x6⟩:=hX2.facts));go_ret;exact⟨rfl,aJ⟩)
 have d1:decide (fr<0)=false:=decide_eq_false (by omega)
 by_cases t2:fr≤1099511627776
 rotate_left
 ·obtain rfl:V=false:=by rw[hV];simp[t2]
  have d2:decide (1099511627776<fr)=true:=decide_eq_true (by omega)
  clear hV
  (go_enter Tryz.func32,Tryz.ntmps32;go_wp2_with (go_at_call 66;refine (HVA.out _).mono ?_;rintro e w2 ⟨rfl,hb2⟩;(have hX2:aX w2 w.heap.size fr till pat A na ca B nb cb S ns cs us:=(by first | exact Blk.keep hX hb2 | exact Blk.keep hX2 hb2 | exact Blk.keep (World.alloc_heap_new _ _) hb2);obtain⟨x0,x1,x2,x3,x4,x5,x6⟩:=hX2.facts));go_ret;exact⟨rfl,aJ⟩)
 have d2:decide (1099511627776<fr)=false:=decide_eq_false (by omega)
 by_cases t3:0≤till
 rotate_left
 ·obtain rfl:V=false:=by rw[hV];simp[t3]
  have d3:decide (till<0)=true:=decide_eq_true (by omega)
  clear hV
  (go_enter Tryz.func32,Tryz.ntmps32;go_wp2_with (go_at_call 66;refine (HVA.out _).mono ?_;rintro e w2 ⟨rfl,hb2⟩;(have hX2:aX w2 w.heap.size fr till pat A na ca B nb cb S ns cs us:=(by first | exact Blk.keep hX hb2 | exact Blk.keep hX2 hb2 | exact Blk.keep (World.alloc_heap_new _ _) hb2);obtain⟨x0,x1,x2,x3,x4,x5,x6⟩:=hX2.facts));go_ret;exact⟨rfl,aJ⟩)
 have d3:decide (till<0)=false:=decide_eq_false (by omega)
 by_cases t4:till≤1099511627777
 rotate_left
 ·obtain rfl:V=false:=by rw[hV];simp[t4]
  have d4:decide (1099511627777<till)=true:=decide_eq_true (by omega)
  clear hV
  (go_enter Tryz.func32,Tryz.ntmps32;go_wp2_with (go_at_call 66;refine (HVA.out _).mono ?_;rintro e w2 ⟨rfl,hb2⟩;(have hX2:aX w2 w.heap.size fr till pat A na ca B nb cb S ns cs us:=(by first | exact Blk.keep hX hb2 | exact Blk.keep hX2 hb2 | exact Blk.keep (World.alloc_heap_new _ _) hb2);obtain⟨x0,x1,x2,x3,x4,x5,x6⟩:=hX2.facts));go_ret;exact⟨rfl,aJ⟩)
 have d4:decide (1099511627777<till)=false:=decide_eq_false (by omega)
 by_cases t5:0≤us
 rotate_left
 ·obtain rfl:V=false:=by rw[hV];simp[t5]
  have d5:decide (us<0)=true:=decide_eq_true (by omega)
  clear hV
  (go_enter Tryz.func32,Tryz.ntmps32;go_wp2_with (go_at_call 66;refine (HVA.out _).mono ?_;rintro e w2 ⟨rfl,hb2⟩;(have hX2:aX w2 w.heap.size fr till pat A na ca B nb cb S ns cs us:=(by first | exact Blk.keep hX hb2 | exact Blk.keep hX2 hb2 | exact Blk.keep (World.alloc_heap_new _ _) hb2);obtain⟨x0,x1,x2,x3,x4,x5,x6⟩:=hX2.facts));go_ret;exact⟨rfl,aJ⟩)
 have d5:decide (us<0)=false:=decide_eq_false (by omega)
 by_cases t6:us≤1073741824
 rotate_left
 ·obtain rfl:V=false:=by rw[hV];simp[t6]
  have d6:decide (1073741824<us)=true:=decide_eq_true (by omega)
  clear hV
  (go_enter Tryz.func32,Tryz.ntmps32;go_wp2_with (go_at_call 66;refine (HVA.out _).mono ?_;rintro e w2 ⟨rfl,hb2⟩;(have hX2:aX w2 w.heap.size fr till pat A na ca B nb cb S ns cs us:=(by first | exact Blk.keep hX hb2 | exact Blk.keep hX2 hb2 | exact Blk.keep (World.alloc_heap_new _ _) hb2);obtain⟨x0,x1,x2,x3,x4,x5,x6⟩:=hX2.facts));go_ret;exact⟨rfl,aJ⟩)
 have d6:decide (1073741824<us)=false:=decide_eq_false (by omega)
 have hV2:V=((decide (pat.size=0)||b1)&&decide (na≤32)&&decide (nb≤32)&&decide (ns≤64)&&(cl.all bU&&co.all iV&&sitesOk si&&ascB cl&&ascB co)):=by rw[hV];simp[t1,t2,t3,t4,t5,t6]
 clear hV
 have hpc:(pat.size=0∧pat.toList=[]∧(pat.toList != [])=false)∨(pat.size≠0∧¬ pat.toList=[]∧(pat.toList != [])=true):=by
  by_cases h:pat.size=0
  ·have e:pat.toList=[]:=by rw[Lib.toList_data];exact List.eq_nil_of_length_eq_zero (by rw[←Lib.size_eq];exact h)
   exact .inl ⟨h,e,by rw[e];rfl⟩
  ·have e:¬ pat.toList=[]:=fun e=>h (by rw[Lib.toList_data]at e;rw[Lib.size_eq,e];rfl)
   exact .inr ⟨h,e,by simpa using e⟩
 have hb1:(pat.size≠0∧b1=false)∨(pat.size=0∨b1=true):=by
  by_cases h:pat.size=0
  ·exact .inr (.inl h)
  ·cases b1
   ·exact .inl ⟨h,rfl⟩
   ·exact .inr (.inr rfl)
 rcases hb1 with ⟨hs,rfl⟩ | hb1
 ·rcases hpc with ⟨hs2,_⟩ | ⟨_,hn,hn2⟩
  ·exact absurd hs2 hs
  obtain rfl:V=false:=by rw[hV2];simp[hs]
  clear hV2 hs
  (go_enter Tryz.func32,Tryz.ntmps32;go_wp2_with (go_at_call 66;refine (HVA.out _).mono ?_;rintro e w2 ⟨rfl,hb2⟩;(have hX2:aX w2 w.heap.size fr till pat A na ca B nb cb S ns cs us:=(by first | exact Blk.keep hX hb2 | exact Blk.keep hX2 hb2 | exact Blk.keep (World.alloc_heap_new _ _) hb2);obtain⟨x0,x1,x2,x3,x4,x5,x6⟩:=hX2.facts));go_ret;exact⟨rfl,aJ⟩)
 have hV3:V=(decide (na≤32)&&decide (nb≤32)&&decide (ns≤64)&&(cl.all bU&&co.all iV&&sitesOk si&&ascB cl&&ascB co)):=by
  rw[hV2]
  rcases hb1 with h | h <;> simp[h]
 clear hV2
 have hpd:(pat.toList=[]∧(pat.toList != [])=false)∨(b1=true∧¬ pat.toList=[]∧(pat.toList != [])=true):=by
  rcases hpc with ⟨h1,h2⟩ | ⟨h1,h2⟩
  ·exact .inl h2
  ·rcases hb1 with h | h
   ·exact absurd h h1
   ·exact .inr ⟨h,h2⟩
 clear hpc hb1
 rcases hpd with ⟨hn,hn2⟩ | ⟨rfl,hn,hn2⟩
 all_goals
  by_cases t7:na≤32
  rotate_left
  ·obtain rfl:V=false:=by rw[hV3];simp[t7]
   have d7:decide ((32:Int)<(na:Int))=true:=decide_eq_true (by omega)
   clear hV3
   (go_enter Tryz.func32,Tryz.ntmps32;go_wp2_with (go_at_call 66;refine (HVA.out _).mono ?_;rintro e w2 ⟨rfl,hb2⟩;(have hX2:aX w2 w.heap.size fr till pat A na ca B nb cb S ns cs us:=(by first | exact Blk.keep hX hb2 | exact Blk.keep hX2 hb2 | exact Blk.keep (World.alloc_heap_new _ _) hb2);obtain⟨x0,x1,x2,x3,x4,x5,x6⟩:=hX2.facts));go_ret;exact⟨rfl,aJ⟩)
  have d7:decide ((32:Int)<(na:Int))=false:=decide_eq_false (by omega)
  by_cases t8:nb≤32
  rotate_left
  ·obtain rfl:V=false:=by rw[hV3];simp[t8]
   have d8:decide ((32:Int)<(nb:Int))=true:=decide_eq_true (by omega)
   clear hV3
   (go_enter Tryz.func32,Tryz.ntmps32;go_wp2_with (go_at_call 66;refine (HVA.out _).mono ?_;rintro e w2 ⟨rfl,hb2⟩;(have hX2:aX w2 w.heap.size fr till pat A na ca B nb cb S ns cs us:=(by first | exact Blk.keep hX hb2 | exact Blk.keep hX2 hb2 | exact Blk.keep (World.alloc_heap_new _ _) hb2);obtain⟨x0,x1,x2,x3,x4,x5,x6⟩:=hX2.facts));go_ret;exact⟨rfl,aJ⟩)
  have d8:decide ((32:Int)<(nb:Int))=false:=decide_eq_false (by omega)
  by_cases t9:ns≤64
  rotate_left
  ·obtain rfl:V=false:=by rw[hV3];simp[t9]
   have d9:decide ((64:Int)<(ns:Int))=true:=decide_eq_true (by omega)
   clear hV3
   (go_enter Tryz.func32,Tryz.ntmps32;go_wp2_with (go_at_call 66;refine (HVA.out _).mono ?_;rintro e w2 ⟨rfl,hb2⟩;(have hX2:aX w2 w.heap.size fr till pat A na ca B nb cb S ns cs us:=(by first | exact Blk.keep hX hb2 | exact Blk.keep hX2 hb2 | exact Blk.keep (World.alloc_heap_new _ _) hb2);obtain⟨x0,x1,x2,x3,x4,x5,x6⟩:=hX2.facts));go_ret;exact⟨rfl,aJ⟩)
  have d9:decide ((64:Int)<(ns:Int))=false:=decide_eq_false (by omega)
  have hv4:V=(cl.all bU&&co.all iV&&sitesOk si&&ascB cl&&ascB co):=by rw[hV3];simp[t7,t8,t9]
  have HV:=Lib.hid hv4
  clear hV3 hv4
  go_enter Tryz.func32,Tryz.ntmps32
  go_wp2_with (go_at_call 66;refine (HVA.out _).mono ?_;rintro e w2 ⟨rfl,hb2⟩;(have hX2:aX w2 w.heap.size fr till pat A na ca B nb cb S ns cs us:=(by first | exact Blk.keep hX hb2 | exact Blk.keep hX2 hb2 | exact Blk.keep (World.alloc_heap_new _ _) hb2);obtain⟨x0,x1,x2,x3,x4,x5,x6⟩:=hX2.facts))
  go_loopw [3] (fun vi wr=>∃ k:Nat,vi=.int .i64 k∧k≤na∧Hid ((cl.take k).all bU=true)∧aX wr w.heap.size fr till pat A na ca B nb cb S ns cs us∧Below w.heap.size w wr) (fun i _=>na-(intOf i).toNat)
  case atStart=>exact⟨0,rfl,Nat.zero_le _,Lib.hid (by simp),(by first | exact hX2 | exact World.alloc_heap_new _ _),aJ⟩
  case round =>
   try clear hX2
   try clear hb2
   clear d1 d2 d3 d4 d5 d6 d7 d8 d9 hn hn2
   obtain⟨k,rfl,hk,HK,hX,hbr⟩:=hrel
   obtain⟨x0,x1,x2,x3,x4,x5,x6⟩:=hX.facts
   by_cases hlt:k<na
   ·obtain⟨x,hx⟩:∃ x,cl[k]? = some x:=⟨_,List.getElem?_eq_getElem (by have:=HLA.out;omega)⟩
    obtain⟨b,o,rfl,hcell⟩:=(HA.out.keep hbr).2 (by omega)
    have hc1:wr.cell? ⟨b,o+k,none⟩=some (.string x):=hcell k _ (by simp[hx])
    have hk0:(0:Int)≤(k:Int):=by omega
    have hk1:(k:Int)<(na:Int):=by omega
    have cN:=HNA.out x (List.mem_of_getElem? hx)
    cases hs:bU x
    ·obtain rfl:V=false:=by rw[HV.out,all_false2 hx hs];rfl
     rw[hs]at cN
     have HC:=Lib.hid cN
     clear hcell hx HK hs cN
     go_wp2_with (go_at_call 50;refine (HC.out _).mono ?_;rintro e w2 ⟨rfl,hb2⟩)
     go_ret
     exact⟨rfl,aJ⟩
    ·have HK2:Hid ((cl.take (k+1)).all bU=true):=Lib.hid (all_take2 HK.out hx hs)
     rw[hs]at cN
     have HC:=Lib.hid cN
     clear hcell hx HK hs cN
     go_wp2_with (go_at_call 50;refine (HC.out _).mono ?_;rintro e w2 ⟨rfl,hb2⟩)
     exact⟨⟨k+1,by go_num,by omega,HK2,Blk.keep hX hb2,aJ⟩,by simp[intOf];omega⟩
   ·obtain rfl:k=na:=by omega
    have hall:cl.all bU=true:=by
     have:=HK.out
     rwa [List.take_of_length_le (by have:=HLA.out;omega)]at this
    have hv5:V=(co.all iV&&sitesOk si&&ascB cl&&ascB co):=by rw[HV.out,hall,Bool.true_and]
    have HV2:=Lib.hid hv5
    clear hall hv5 HK HV HNA
    go_wp2
    clear x0 x1 x2 x3 x4 x5 x6
    obtain⟨wo,rfl⟩:∃ wo:World,wo=wr:=⟨_,rfl⟩
    go_loopw [4] (fun vi wz=>∃ j:Nat,vi=.int .i64 j∧j≤nb∧Hid ((co.take j).all iV=true)∧aX wz w.heap.size fr till pat A k ca B nb cb S ns cs us∧Below w.heap.size w wz) (fun i _=>nb-(intOf i).toNat)
    case atStart=>exact⟨0,rfl,Nat.zero_le _,Lib.hid (by simp),hX,hbr⟩
    case round =>
     clear hX hbr
     obtain⟨j,rfl,hj,HJ,hX,hbr⟩:=hrel
     obtain⟨x0,x1,x2,x3,x4,x5,x6⟩:=hX.facts
     by_cases hlt2:j<nb
     ·obtain⟨x,hx⟩:∃ x,co[j]? = some x:=⟨_,List.getElem?_eq_getElem (by have:=HLB.out;omega)⟩
      obtain⟨b,o,rfl,hcell⟩:=(HB.out.keep hbr).2 (by omega)
      have hc1:wr.cell? ⟨b,o+j,none⟩=some (.string x):=hcell j _ (by simp[hx])
      have hj0:(0:Int)≤(j:Int):=by omega
      have hj1:(j:Int)<(nb:Int):=by omega
      have cN:=HCY.out x (List.mem_of_getElem? hx)
      cases hs:iV x
      ·obtain rfl:V=false:=by rw[HV2.out,all_false2 hx hs];rfl
       rw[hs]at cN
       have HC:=Lib.hid cN
       clear hcell hx HJ hs cN
       go_wp2_with (go_at_call 67;refine (HC.out _).mono ?_;rintro e w2 ⟨rfl,hb2⟩)
       go_ret
       exact⟨rfl,aJ⟩
      ·have HJ2:Hid ((co.take (j+1)).all iV=true):=Lib.hid (all_take2 HJ.out hx hs)
       rw[hs]at cN
       have HC:=Lib.hid cN
       clear hcell hx HJ hs cN
       go_wp2_with (go_at_call 67;refine (HC.out _).mono ?_;rintro e w2 ⟨rfl,hb2⟩)
       exact⟨⟨j+1,by go_num,by omega,HJ2,Blk.keep hX hb2,aJ⟩,by simp[intOf];omega⟩
     ·obtain rfl:j=nb:=by omega
      have hall:co.all iV=true:=by
       have:=HJ.out
       rwa [List.take_of_length_le (by have:=HLB.out;omega)]at this
      have hv6:V=(sitesOk si&&ascB cl&&ascB co):=by rw[HV2.out,hall,Bool.true_and]
      have HV3:=Lib.hid hv6
      clear hall hv6 HJ HV2 HCY
      go_wp2
      clear x0 x1 x2 x3 x4 x5 x6
      obtain⟨wo2,rfl⟩:∃ wo2:World,wo2=wr:=⟨_,rfl⟩
      go_loopw [5] (fun vi wz=>∃ i:Nat,vi=.int .i64 i∧i≤ns∧Hid ((List.range i).all (okK ltI jb si)=true)∧aX wz w.heap.size fr till pat A k ca B j cb S ns cs us∧Below w.heap.size w wz) (fun i _=>ns-(intOf i).toNat)
      case atStart=>exact⟨0,rfl,Nat.zero_le _,Lib.hid rfl,hX,hbr⟩
      case round =>
       clear hX hbr
       obtain⟨i,rfl,hi,HI,hX,hbr⟩:=hrel
       obtain⟨x0,x1,x2,x3,x4,x5,x6⟩:=hX.facts
       by_cases hlt3:i<ns
       ·obtain⟨x,hx⟩:∃ x,si[i]? = some x:=⟨_,List.getElem?_eq_getElem (by have:=HLS.out;omega)⟩
        obtain⟨b,o,rfl,hcell⟩:=(HS.out.keep hbr).2 (by omega)
        have hc1:wr.cell? ⟨b,o+i,none⟩=some (.int .i64 x):=hcell i _ (by simp[hx])
        have hi0:(0:Int)≤(i:Int):=by omega
        have hi1:(i:Int)<(ns:Int):=by omega
        have hok:okK ltI jb si i=(jb x&&(i==0||(match si[i-1]? with
         | none=>true
         | some y=>ltI y x))):=by unfold okK;rw[hx];cases si[i-1]? <;> rfl
        have hfail:okK ltI jb si i=false→V=false:=fun h=>by rw[HV3.out,sites_fail (by have:=HLS.out;omega) h];rfl
        by_cases s0:0≤x
        rotate_left
        ·obtain rfl:V=false:=hfail (by rw[hok];unfold jb;simp[s0])
         have e0:decide (x<0)=true:=decide_eq_true (by omega)
         clear hcell hx HI hok hfail
         go_wp2_with fail
         go_quiet (fail)
         go_wp2
         go_ret
         exact⟨rfl,aJ⟩
        have e0:decide (x<0)=false:=decide_eq_false (by omega)
        by_cases s1:x<64
        rotate_left
        ·obtain rfl:V=false:=hfail (by rw[hok];unfold jb;simp[s1])
         have e1:decide (64≤x)=true:=decide_eq_true (by omega)
         clear hcell hx HI hok hfail
         go_wp2_with fail
         go_quiet (fail)
         go_wp2
         go_ret
         exact⟨rfl,aJ⟩
        have e1:decide (64≤x)=false:=decide_eq_false (by omega)
        have hsx:jb x=true:=decide_eq_true ⟨s0,s1⟩
        rw[hsx,Bool.true_and]at hok
        rcases i with _ | i
        ·have HI2:Hid ((List.range (0+1)).all (okK ltI jb si)=true):=Lib.hid (yK HI.out (by rw[hok];rfl))
         simp only[Nat.add_zero]at hc1
         clear hcell hx HI hok hfail
         go_wp2_with fail
         go_quiet (fail)
         go_wp2
         exact⟨⟨1,by go_num,by omega,HI2,Blk.keep hX aJ,aJ⟩,by simp[intOf];omega⟩
        ·obtain⟨y,hy⟩:∃ y,si[i]? = some y:=⟨_,List.getElem?_eq_getElem (by have:=HLS.out;omega)⟩
         have hc2:wr.cell? ⟨b,o+i,none⟩=some (.int .i64 y):=hcell i _ (by simp[hy])
         have hle:=Uw x y
         rw[Nat.add_sub_cancel,hy]at hok
         have hok2:okK ltI jb si (i+1)=ltI y x:=by rw[hok];simp
         have hii0:(0:Int)≤(i:Int):=by omega
         have hii1:(i:Int)<(ns:Int):=by omega
         cases ht:ltI y x
         ·obtain rfl:V=false:=hfail (by rw[hok2,ht])
          rw[ht]at hle
          clear hcell hx HI hok hok2 hfail hy ht
          go_wp2_with fail
          go_quiet (fail)
          go_wp2
          go_ret
          exact⟨rfl,aJ⟩
         ·have HI2:Hid ((List.range (i+1+1)).all (okK ltI jb si)=true):=Lib.hid (yK HI.out (by rw[hok2,ht]))
          rw[ht]at hle
          clear hcell hx HI hok hok2 hfail hy ht
          go_wp2_with fail
          go_quiet (fail)
          go_wp2
          exact⟨⟨i+1+1,by go_num,by omega,HI2,Blk.keep hX aJ,aJ⟩,by simp[intOf];omega⟩
       ·obtain rfl:i=ns:=by omega
        have hall:sitesOk si=true:=by
         unfold sitesOk
         rw[←HLS.out]
         exact HI.out
        have hv7:V=(ascB cl&&ascB co):=by rw[HV3.out,hall,Bool.true_and]
        have c1:=HAS1.out
        have c2:=HAS2.out
        obtain⟨a1,ha1⟩:∃ x,x=ascB cl:=⟨_,rfl⟩
        obtain⟨a2,ha2⟩:∃ x,x=ascB co:=⟨_,rfl⟩
        rw[←ha1]at hv7 c1
        rw[←ha2]at hv7 c2
        clear hall HI HV3 HAS1 HAS2 ha1 ha2
        cases a1
        ·obtain rfl:V=false:=hv7
         have C1:=Lib.hid c1
         clear c1 c2
         go_wp2_with (go_at_call 68;refine (C1.out _ aJ).mono ?_;rintro e w2 ⟨rfl,hb2⟩)
         go_ret
         exact⟨rfl,aJ⟩
        ·obtain rfl:V=a2:=hv7
         have C1:=Lib.hid c1
         have C2:=Lib.hid c2
         clear c1 c2
         go_wp2_with (go_at_call 68;first | (refine (C1.out _ aJ).mono ?_;clear C1;rintro e w2 ⟨rfl,hb2⟩;have hX2:=Blk.keep hX hb2;obtain⟨y0,y1,y2,y3,y4,y5,y6⟩:=aX.facts hX2) | (refine (C2.out _ aJ).mono ?_;rintro e w3 ⟨rfl,hb3⟩))
         go_ret
         exact⟨rfl,aJ⟩
def digB (d:Nat):aC:=⟨#[UInt8.ofNat (48+d)]⟩
theorem digB_size (d:Nat):(digB d).size=1:=rfl
theorem conv1 (W:World) (d c:Nat) (hd:d<10) (g:Nat) (hg:g=W.heap.size) (a:Int) (ha:a=48+(d:Int)) :
  (convert 105 9 (.slice (some ⟨g,0,none⟩) 1 c)).run Tryz.prog (W.alloc (.cells #[.int .u8 a] 5))=.ok (.string (digB d)) (W.alloc (.cells #[.int .u8 a] 5)):=by
 subst hg
 subst ha
 have hx:Blk (W.alloc (.cells #[.int .u8 (48+(d:Int))] 5)) W.heap.size 5 #[.int .u8 (48+(d:Int))] (0,0):=World.alloc_heap_new _ _
 refine run_convert_bytes_back _ _ _ 5 ⟨W.heap.size,0,none⟩ c [UInt8.ofNat (48+d)] Tryz.underlying105 Tryz.underlying5 Tryz.underlying9 (fun j hj=>?_)
 have e1:=u8_of (48+d) (by omega)
 rw[show (⟨W.heap.size,0,none⟩:Addr).add j=⟨W.heap.size,0+j,none⟩ by unfold Addr.add;split <;> simp_all]
 rcases j with _ | j
 ·have:=hx.cell 0
  simp only[List.getElem_cons_zero]
  rw[e1]
  simp
 ·simp at hj
theorem decB_step (m:Nat) (h:¬ m<10) (t:aC):(⟨(Lib.decDigits (m / 10)).toArray⟩:aC)++(digB (m % 10)++t)=(⟨(Lib.decDigits m).toArray⟩:aC)++t:=by
 refine fK ?_
 conv=>rhs;rw[Lib.decDigits,dif_neg h]
 simp[digB]
theorem decB_last (m:Nat) (h:m<10):digB m=⟨(Lib.decDigits m).toArray⟩:=by
 rw[Lib.decDigits,dif_pos h];rfl
theorem rDecimal_any (n:Nat) (w:World) (hn:n≤9223372036854775807):Calls Tryz.prog 59 #[.int .i64 (n:Int)] w (Ret w (.string (ai (n:Int)))):=by
 have hI:ai (n:Int)=⟨(Lib.decDigits n).toArray⟩:=fK (by rw[yO _ (by omega)];simp)
 rw[hI]
 clear hI
 have hlen:(Lib.decDigits n).length≤20:=by rw[Lib.decDigits_length];exact Lib.nDigits_le20 n (by omega)
 go_enter Tryz.func59,Tryz.ntmps59
 go_wp2
 go_loopw [0,3] (fun vn vo wr=>∃ (m:Nat) (t:aC),vn=.int .i64 (m:Int)∧vo=.string t∧m≤9223372036854775807∧Hid ((⟨(Lib.decDigits m).toArray⟩:aC)++t=⟨(Lib.decDigits n).toArray⟩)∧Below w.heap.size w wr) (fun i _ _=>(intOf i).toNat)
 case atStart=>exact⟨n,⟨#[]⟩,rfl,rfl,hn,Lib.hid (fK (by simp)),Below.refl _ _⟩
 case round =>
  obtain⟨m,t,rfl,rfl,hm,HK,hbr⟩:=hrel
  have hts:t.size≤20:=by
   have h1:=congrArg (fun x:aC=>x.data.toList.length) HK.out
   simp at h1
   have:t.size=t.data.size:=rfl
   omega
  by_cases hlt:m<10
  ·have hcv:=fun c=>conv1 wr m c hlt wr.heap.size rfl _ rfl
   have hv:digB m++t=⟨(Lib.decDigits n).toArray⟩:=by rw[decB_last m hlt];exact HK.out
   have HV:=Lib.hid hv
   have d1:decide ((10:Int)≤(m:Int))=false:=decide_eq_false (by omega)
   have b1:(m:Int)≤9:=by omega
   have z1:=digB_size m
   have n1:¬ 9223372036854775807<1+t.size:=by omega
   clear HK hv
   go_wp2
   go_ret
   exact⟨Qb HV.out,aJ⟩
  ·have hcv:=fun c=>conv1 wr (m % 10) c (by omega) wr.heap.size rfl (48+(m:Int) % 10) (by omega)
   have HV:=Lib.hid ((decB_step m hlt t).trans HK.out)
   have d1:decide ((10:Int)≤(m:Int))=true:=decide_eq_true (by omega)
   have b3:(m:Int) % 10≤9:=by omega
   have b4:0≤(m:Int) % 10:=by omega
   have z1:=digB_size (m % 10)
   have n1:¬ 9223372036854775807<1+t.size:=by omega
   clear HK
   go_wp2
   exact⟨⟨m / 10,_,by go_num,rfl,by omega,HV,aJ⟩,by simp[intOf];omega⟩
def joinR (l:List aC):aC:=if l=[] then ⟨#[126]⟩ else jr l
theorem joinR_eq {l:List aC} (h:∀ x∈l,x.size≠0):joinR l=dn l:=by
 unfold joinR dn orT
 cases l with
 | nil=>rfl
 | cons x r =>
  obtain⟨b,t,hb,he⟩:=Vg (r:=r) (h x (by simp))
  have hs:¬ (jr (x :: r)).size=0:=by rw[Lib.size_eq,he];simp
  rw[if_neg (by simp),if_neg hs]
theorem rJoined21_any (A:Option Addr) (n c:Nat) (l:List aC) (w:World) (hR:aI w 1 A n (l.map .string)) (hn:n≤1000000) (htot:(Lib.join (az l) [44]).length≤1000000000) (hsz:∀ x∈l,x.size≤1000000000):Calls Tryz.prog 190 #[.slice A n c] w (Ret w (.string (joinR l))):=by
 have hl:l.length=n:=by have:=hR.1;simpa using this
 obtain⟨V,hV⟩:∃ V,V=joinR l:=⟨_,rfl⟩
 rw[←hV]
 unfold joinR at hV
 by_cases h0:n=0
 ·subst h0
  obtain rfl:l=[]:=List.eq_nil_of_length_eq_zero hl
  obtain rfl:V=⟨#[126]⟩:=hV
  go_enter Tryz.func190,Tryz.ntmps190
  go_wp2
  go_ret
  exact⟨rfl,aJ⟩
 have hne:l ≠ []:=by intro e;rw[e]at hl;simp at hl;omega
 rw[if_neg hne]at hV
 have hend:V=joinB l n:=by rw[hV,←hl,joinB_all];rfl
 obtain⟨x0,hx0⟩:∃ x,l[0]? = some x:=⟨_,List.getElem?_eq_getElem (by omega)⟩
 have hz0:((n:Int)==0)=false:=by simp;omega
 have hfst:=joinB_first l x0 hx0
 have HR:=Lib.hid hR
 obtain⟨b0,o0,rfl,hcell0⟩:=hR.2 (by omega)
 have hc0:w.cell? ⟨b0,o0,none⟩=some (.string x0):=hcell0 0 _ (by simp[hx0])
 have hn0:(0:Int)<(n:Int):=by omega
 have HL:=Lib.hid hl
 have HE:=Lib.hid hend
 have HT:=Lib.hid htot
 have HS:=Lib.hid hsz
 have HF:=Lib.hid hfst
 clear hl hend htot hsz hR hV hne hcell0 hx0 hfst
 go_enter Tryz.func190,Tryz.ntmps190
 go_wp2
 go_loopw [3,4] (fun vs vi wr=>∃ k:Nat,vi=.int .i64 (k+1:Nat)∧k+1≤n∧vs=.string (joinB l (k+1))∧Below w.heap.size w wr) (fun _ i _=>n-(intOf i).toNat)
 case atStart=>exact⟨0,rfl,by omega,by rw[HF.out],Below.refl _ _⟩
 case round =>
  clear hc0
  obtain⟨k,rfl,hk,rfl,hbr⟩:=hrel
  by_cases hlt:k+1<n
  ·obtain⟨x,hx⟩:∃ x,l[k+1]? = some x:=⟨_,List.getElem?_eq_getElem (by have:=HL.out;omega)⟩
   obtain⟨b,o,hbo,hcell⟩:=(HR.out.keep hbr).2 (by omega)
   injection hbo with hbo
   injection hbo with e1 e2
   subst e1
   subst e2
   have hc1:wr.cell? ⟨b0,o0+(k+1),none⟩=some (.string x):=hcell (k+1) _ (by simp[hx])
   have hz1:(joinB l (k+1)).size≤1000000000:=Nat.le_trans (joinB_le l (k+1)) HT.out
   have hz2:x.size≤1000000000:=HS.out x (List.mem_of_getElem? hx)
   have hk0:(0:Int)≤(k:Int):=by omega
   have hk1:(k:Int)+1<(n:Int):=by omega
   have HJ:=Lib.hid (joinB_step l (k+1) x (by omega) hx)
   generalize joinB l (k+1)=S at *
   clear hcell hx
   have n1:¬ 9223372036854775807<S.size+1:=by omega
   have n2:¬ 9223372036854775807<S.size+1+x.size:=by omega
   go_wp2
   exact⟨⟨k+1,by go_num,by omega,congrArg Value.string HJ.out,hbr⟩,by simp[intOf];omega⟩
  ·obtain rfl:k+1=n:=by omega
   have he:=HE.out
   rw[←he]
   go_wp2
   go_ret
   exact⟨rfl,hbr⟩
theorem dec_miss {l:List UInt8} {k:Nat} {b:UInt8} (hb:l[k]? = some b) (h:Lib.digitVal b=none) (acc:Nat):Lib.decFrom acc l=none:=by
 cases hd:Lib.decFrom acc l with
 | none=>rfl
 | some n =>
  obtain⟨d,hd2⟩:=Lib.digit_of_decFrom l acc n hd k b hb
  rw[h]at hd2
  cases hd2
theorem dec_lt:∀ (l:List UInt8) (acc n:Nat),Lib.decFrom acc l=some n→n<(acc+1)*10 ^ l.length
 | [],acc,n,h=>by simp[Lib.decFrom]at h;subst h;simp
 | b :: l,acc,n,h=>by
  simp only[Lib.decFrom]at h
  cases hd:Lib.digitVal b with
  | none=>simp[hd]at h
  | some d =>
   simp only[hd]at h
   have h2:=dec_lt l _ n h
   have hd9:d≤9:=by unfold Lib.digitVal at hd;split at hd <;> simp at hd;omega
   have:(acc*10+d+1)*10 ^ l.length≤(acc+1)*10*10 ^ l.length:=Nat.mul_le_mul_right _ (by omega)
   rw[List.length_cons,Nat.pow_succ]
   calc n<(acc*10+d+1)*10 ^ l.length:=h2
    _≤(acc+1)*10*10 ^ l.length:=this
    _=(acc+1)*(10 ^ l.length*10):=by rw[Nat.mul_assoc,Nat.mul_comm 10]
theorem rNumber_any (s:aC) (w:World) (hs:s.size≤4294967281):Calls Tryz.prog 143 #[.string s] w (Ret w (.int .i64 (sJ s))):=by
 obtain⟨V,hV⟩:∃ V,V=sJ s:=⟨_,rfl⟩
 rw[←hV]
 unfold sJ at hV
 by_cases h0:s.size=0
 ·have d0:((s.size:Int)==0)=true:=by simp[h0]
  obtain rfl:V = -1:=by rw[hV,if_pos (.inl h0)]
  clear hV h0
  go_enter Tryz.func143,Tryz.ntmps143
  go_wp2
  go_ret
  exact⟨rfl,aJ⟩
 have d0:((s.size:Int)==0)=false:=beq_eq_false_iff_ne.2 (by omega)
 by_cases h1:15<s.size
 ·have d1:decide ((15:Int)<(s.size:Int))=true:=decide_eq_true (by omega)
  obtain rfl:V = -1:=by rw[hV,if_pos (.inr h1)]
  clear hV h0
  go_enter Tryz.func143,Tryz.ntmps143
  go_wp2
  go_ret
  exact⟨rfl,aJ⟩
 have d1:decide ((15:Int)<(s.size:Int))=false:=decide_eq_false (by omega)
 rw[if_neg (by omega)]at hV
 have HV:=Lib.hid hV
 clear hV h0
 go_enter Tryz.func143,Tryz.ntmps143
 go_wp2
 go_loopw [3,4] (fun vn vi wr=>∃ (k m:Nat),vi=.int .i64 k∧vn=.int .i64 m∧k≤s.size∧m<10 ^ 15∧Hid (Lib.decFrom 0 (s.data.toList.take k)=some m)∧Below w.heap.size w wr) (fun _ i _=>s.size-(intOf i).toNat)
 case atStart=>exact⟨0,0,rfl,rfl,Nat.zero_le _,by omega,Lib.hid rfl,Below.refl _ _⟩
 case round =>
  obtain⟨k,m,rfl,rfl,hk,hm,HK,hbr⟩:=hrel
  by_cases hlt:k<s.size
  ·have hkl:k<s.data.toList.length:=by rw[←Lib.size_eq];exact hlt
   have hat:=SE s k hlt
   have hget:s.data.toList[k]? = some s[k]:=by rw[hat];exact List.getElem?_eq_getElem hkl
   by_cases h48:48≤s[k].toNat
   rotate_left
   ·have hdv:Lib.digitVal s[k]=none:=by unfold Lib.digitVal;rw[if_neg (by omega)]
    obtain rfl:V = -1:=by rw[HV.out,dec_miss hget hdv]
    have e1:decide ((s[k].toNat:Int)<48)=true:=decide_eq_true (by omega)
    clear HV HK hget hat hdv
    go_wp2
    go_ret
    exact⟨rfl,aJ⟩
   have e1:decide ((s[k].toNat:Int)<48)=false:=decide_eq_false (by omega)
   by_cases h57:s[k].toNat≤57
   rotate_left
   ·have hdv:Lib.digitVal s[k]=none:=by unfold Lib.digitVal;rw[if_neg (by omega)]
    obtain rfl:V = -1:=by rw[HV.out,dec_miss hget hdv]
    have e2:decide ((57:Int)<(s[k].toNat:Int))=true:=decide_eq_true (by omega)
    clear HV HK hget hat hdv
    go_wp2
    go_ret
    exact⟨rfl,aJ⟩
   have e2:decide ((57:Int)<(s[k].toNat:Int))=false:=decide_eq_false (by omega)
   have hdv:Lib.digitVal s[k]=some (s[k].toNat-48):=by unfold Lib.digitVal;rw[if_pos ⟨h48,h57⟩]
   have hnx:=Lib.decFrom_take s.data.toList k 0 m _ _ HK.out hget hdv
   have hbd:=dec_lt _ _ _ hnx
   have hle:10 ^ (s.data.toList.take (k+1)).length≤10 ^ 15:=Nat.pow_le_pow_right (by omega) (by rw[List.length_take];omega)
   have hm2:m*10+(s[k].toNat-48)<10 ^ 15:=by omega
   have HK2:=Lib.hid hnx
   have HM2:=Lib.hid hm2
   clear HK hget hat hdv hnx hbd hle hm2
   go_wp2
   exact⟨⟨k+1,m*10+(s[k].toNat-48),by go_num,by (congr 1;omega),by omega,HM2.out,HK2,hbr⟩,by simp[intOf];omega⟩
  ·obtain rfl:V=(m:Int):=by
    have:=HK.out
    rw[List.take_of_length_le (by rw[←Lib.size_eq];omega)]at this
    rw[HV.out,this]
   go_wp2
   go_ret
   exact⟨rfl,hbr⟩
theorem rFields_any (s:aC) (c:UInt8) (w:World) (hs:s.size≤4294967281):Calls Tryz.prog 142 #[.string s,.int .u8 c.toNat] w (GZ (splitB c s) w):=by
 obtain⟨i0,hi0,hz0,hz1,hz2⟩:=info_parts rY
 have HI:Hid ((Tryz.prog.info? 9=some i0)∧i0.zero=some (.string ⟨#[]⟩)∧i0.size=1∧i0.bytes=16):=Lib.hid ⟨hi0,hz0,hz1,hz2⟩
 clear hi0 hz0 hz1 hz2
 have hsl:s.data.toList.length=s.size:=(Lib.size_eq s).symm
 have HSL:=Lib.hid hsl
 clear hsl
 go_enter Tryz.func142,Tryz.ntmps142
 go_wp2
 go_loopw [5,6,7] (fun vo vf vi wr=>∃ (k f n:Nat) (acc:List aC) (A:Option Addr) (c':Nat),(vi=.int .i64 k∧vf=.int .i64 f∧vo=.slice A n c'∧k≤s.size∧f≤k∧n≤k)∧Hid (SplitI c s.data.toList k f acc∧acc.length=n)∧wr.ownsRow w.heap.size 9 1 (.slice A n c') n (acc.map .string)∧Below w.heap.size w wr) (fun _ _ i _=>s.size-(intOf i).toNat)
 case atStart=>exact⟨0,0,0,[],none,0,⟨rfl,rfl,rfl,Nat.zero_le _,Nat.le_refl _,Nat.le_refl _⟩,Lib.hid ⟨⟨Nat.le_refl _,by simp,by simp⟩,rfl⟩,World.ownsRow_nil _ _ _ _,Below.refl _ _⟩
 case round =>
  obtain⟨k,f,n,acc,A,c',⟨rfl,rfl,rfl,hk,hf,hn⟩,HK,hown,hbr⟩:=hrel
  have hbs:=hbr.size
  by_cases hlt:k<s.size
  ·have hd:=byte_int s[k] c.toNat
   have hkl:k<s.data.toList.length:=by rw[HSL.out];exact hlt
   have hat:=SE s k hlt
   cases hb:(s[k].toNat==c.toNat)
   ·rw[hb]at hd
    have hne:s.data.toList[k] ≠ c:=fun e=>by rw[←hat]at e;rw[e]at hb;simp at hb
    have HK2:Hid (SplitI c s.data.toList (k+1) f acc∧acc.length=n):=Lib.hid ⟨splitI_step HK.out.1 hkl hne,HK.out.2⟩
    clear hb HK hat hne hkl
    go_wp2
    exact⟨⟨k+1,f,n,acc,A,c',⟨by go_num,rfl,rfl,by omega,by omega,by omega⟩,HK2,hown,hbr⟩,by simp[intOf];omega⟩
   ·rw[hb]at hd
    have he:s.data.toList[k]=c:=by rw[←hat];rw[beq_iff_eq]at hb;exact UInt8.toNat_inj.1 hb
    have hpc:toB ((s.data.toList.drop f).take (k-f))=s.extract f k:=fK (by rw[Lib.extract_data];rfl)
    have hhit:=splitI_hit HK.out.1 hkl he
    rw[hpc]at hhit
    have HK2:Hid (SplitI c s.data.toList (k+1) (k+1) (acc++[s.extract f k])∧(acc++[s.extract f k]).length=n+1):=Lib.hid ⟨hhit,by simp[HK.out.2]⟩
    have hk0:(0:Int)≤(f:Int):=by omega
    have hk1:(f:Int)≤(k:Int):=by omega
    have hk2:(k:Int)≤(s.size:Int):=by omega
    clear hb HK hat he hkl hpc hhit
    go_wp2_with (at_builtin;refine wpList_append_own _ rfl _ _ 24 rfl w.heap.size 9 i0 (.string ⟨#[]⟩) 1 16 Tryz.underlying24 HI.out.1 HI.out.2.1 HI.out.2.2.1 HI.out.2.2.2 rfl (by decide) _ _ _ rfl (hown.alloc _) ⟨wr.heap.size,0,none⟩ 1 1 [.string (s.extract f k)] rfl rfl (cell_one_new _ _ _) (by simp[Value.oneCell']) (by unfold maxLen;omega) (by omega) (by simp;omega) ?_;intro v' w3 hown' hgrow _;obtain⟨g',cap',rfl⟩:=ownsRow_succ hown')
    exact⟨⟨k+1,k+1,n+1,acc++[s.extract f k],some ⟨g',0,none⟩,cap',⟨by go_num,by go_num,rfl,by omega,by omega,by omega⟩,HK2,by rw[List.map_append];exact hown',(hbr.alloc hbs _).grown hgrow (by simp;omega) (fun r e=>fE hown r e)⟩,by simp[intOf];omega⟩
  ·obtain rfl:k=s.size:=by omega
   have hpc:toB (s.data.toList.drop f)=s.extract f s.size:=fK (by rw[Lib.extract_to_end];rfl)
   have hend:splitB c s=acc++[s.extract f s.size]:=by
    rw[splitB_eq,←hpc]
    exact splitI_end (by rw[HSL.out];exact HK.out.1)
   have hlen:(splitB c s).length=n+1:=by rw[hend];simp[HK.out.2]
   have HEND:=Lib.hid hend
   have HLEN:=Lib.hid hlen
   have hk0:(0:Int)≤(f:Int):=by omega
   have hk1:(f:Int)≤(s.size:Int):=by omega
   clear hpc hend hlen HK
   go_wp2_with (at_builtin;refine wpList_append_own _ rfl _ _ 24 rfl w.heap.size 9 i0 (.string ⟨#[]⟩) 1 16 Tryz.underlying24 HI.out.1 HI.out.2.1 HI.out.2.2.1 HI.out.2.2.2 rfl (by decide) _ _ _ rfl (hown.alloc _) ⟨wr.heap.size,0,none⟩ 1 1 [.string (s.extract f s.size)] rfl rfl (cell_one_new _ _ _) (by simp[Value.oneCell']) (by unfold maxLen;omega) (by omega) (by simp;omega) ?_;intro v' w3 hown' hgrow _;obtain⟨g',cap',rfl⟩:=ownsRow_succ hown')
   go_ret
   refine⟨some ⟨g',0,none⟩,cap',by rw[HLEN.out];rfl,?_,(hbr.alloc hbs _).grown hgrow (by simp;omega) (fun r e=>fE hown r e)⟩
   rw[HLEN.out,HEND.out,List.map_append]
   exact hown'
theorem textC_cat (c:aY):ai c.fr++⟨#[32]⟩++ai c.till++⟨#[32]⟩++orT c.pat ⟨#[126]⟩++⟨#[32]⟩++dn c.cl++⟨#[32]⟩++dn c.co++⟨#[32]⟩++dn (c.si.map ai)++⟨#[32]⟩++ai c.us=bK c:=by
 refine fK ?_
 unfold bK kV
 simp[Lib.join,Lib.join_cons,Lib.joinTail]
theorem lists_join_le (l:List aC) (B:Nat) (h:∀ x∈l,x.size≤B):(Lib.join (az l) [44]).length≤l.length*(B+1):=by
 have:=Bc 44 B (az l) (by
  intro y hy
  unfold az at hy
  obtain⟨z,hz,rfl⟩:=List.mem_map.1 hy
  have:=h z hz;rwa [Lib.size_eq]at this)
 rw[show (az l).length=l.length by simp[az]]at this
 exact this
theorem country_size {s:aC} (h:iV s=true):s.size=2:=by
 unfold iV at h
 simp only[Bool.and_eq_true,decide_eq_true_eq]at h
 exact h.1
theorem rText21_bad (c:aY) (m:ae) (w:World) (hR:dA w c m) (hc:dE c) (hv:bF c=false) :
  Calls Tryz.prog 131 #[ae.val c m] w (Ret w (.agg #[.string ⟨#[]⟩,.int .i64 1])):=by
 have c1:=fun W (hb:Below w.heap.size w W)=>hv▸rValid21_any c m W (hR.keep hb) hc.p hc.cl hc.co hc.n1 hc.n2 hc.n3
 clear hR hc hv
 obtain⟨fr,till,pat,cl,co,si,us⟩:=c
 obtain⟨A,ca,B,cb,S,cs⟩:=m
 unfold ae.val at c1 ⊢
 dsimp only at c1 ⊢
 generalize cl.length=na at *
 generalize co.length=nb at *
 generalize si.length=ns at *
 have C1:=Lib.hid c1
 clear c1
 go_enter Tryz.func131,Tryz.ntmps131
 go_wp2_with (go_at_call 32;refine (C1.out _ aJ).mono ?_;rintro e w2 ⟨rfl,hb2⟩;have hX2:aX w2 w.heap.size fr till pat A na ca B nb cb S ns cs us:=Blk.keep (vC _ _ _).1 hb2;have hK2:KW w2 (w.heap.size+1) ⟨#[]⟩ 0:=Blk.keep (vC _ _ _).2 hb2;have hbw:Below w.heap.size w w2:=aJ;obtain⟨x0,x1,x2,x3,x4,x5,x6⟩:=hX2.facts;obtain⟨k0,k1,g0,g1,hz2⟩:=hK2.facts)
 exact bodyPost_ret (v:=.agg #[.string ⟨#[]⟩,.int .i64 1]) (by simp[results,Tryz.results131,go_sem,hz2,k0,k1,g0,g1]) rfl ⟨rfl,aJ⟩
theorem rText21_good (c:aY) (m:ae) (w:World) (hR:dA w c m) (hc:dE c) (hv:bF c=true) :
  Calls Tryz.prog 131 #[ae.val c m] w (Ret w (.agg #[.string (bK c),.int .i64 0])):=by
 have ok:=(mP c).1 hv
 have c1:=fun W (hb:Below w.heap.size w W)=>hv▸rValid21_any c m W (hR.keep hb) hc.p hc.cl hc.co hc.n1 hc.n2 hc.n3
 have hsi:∀ x∈c.si,0≤x∧x<64:=fun x hx=>by have:=ok.si x hx;unfold jb at this;simpa using this
 have hss:∀ y∈c.si.map ai,y.size≤21:=fun y hy=>by
  obtain⟨x,hx,rfl⟩:=List.mem_map.1 hy
  have:=hsi x hx
  exact sD x (by omega) (by omega)
 have hsz:∀ y∈c.si.map ai,y.size≠0:=fun y hy=>by
  obtain⟨x,hx,rfl⟩:=List.mem_map.1 hy
  exact (pR x (hsi x hx).1).1
 have d1:=fun W=>rDecimal_any c.fr.toNat W (by have:=ok.fr1;omega)
 have d2:=fun W=>rDecimal_any c.till.toNat W (by have:=ok.to1;omega)
 have d3:=fun W=>rDecimal_any c.us.toNat W (by have:=ok.us1;omega)
 rw[Int.toNat_of_nonneg ok.fr0]at d1
 rw[Int.toNat_of_nonneg ok.to0]at d2
 rw[Int.toNat_of_nonneg ok.us0]at d3
 have dx:∀ x∈c.si,∀ W,Calls Tryz.prog 59 #[.int .i64 x] W (Ret W (.string (ai x))):=fun x hx W=>by
  have h:=hsi x hx
  have:=rDecimal_any x.toNat W (by omega)
  rwa [Int.toNat_of_nonneg h.1]at this
 have hnm:∀ x∈c.cl,x.size≤64:=fun x hx=>rH (ok.cl x hx)
 have hnc:∀ x∈c.co,x.size≤64:=fun x hx=>by have:=country_size (ok.co x hx);omega
 have l1:=ok.clLen;have l2:=ok.coLen;have l3:=ok.siLen
 have q1:=lists_join_le c.cl 64 hnm
 have q2:=lists_join_le c.co 64 hnc
 have q3:=lists_join_le (c.si.map ai) 21 hss
 rw[List.length_map]at q3
 have j1:=fun W (hb:Below w.heap.size w W)=>rJoined21_any m.A c.cl.length m.ca c.cl W (hR.cl.keep hb) (by omega) (by omega) (fun x hx=>by have:=hnm x hx;omega)
 have j2:=fun W (hb:Below w.heap.size w W)=>rJoined21_any m.B c.co.length m.cb c.co W (hR.co.keep hb) (by omega) (by omega) (fun x hx=>by have:=hnc x hx;omega)
 have j3:=fun (A':Option Addr) (c':Nat) W (hr:aI W 1 A' c.si.length ((c.si.map ai).map .string))=>rJoined21_any A' c.si.length c' (c.si.map ai) W hr (by omega) (by omega) (fun x hx=>by have:=hss x hx;omega)
 rw[joinR_eq (fun x hx=>(CP (ok.cl x hx)).1)]at j1
 rw[joinR_eq (fun x hx=>(CQ (ok.co x hx)).1)]at j2
 rw[joinR_eq hsz]at j3
 have hs1:=sD c.fr (by have:=ok.fr0;omega) (by have:=ok.fr1;omega)
 have hs2:=sD c.till (by have:=ok.to0;omega) (by have:=ok.to1;omega)
 have hs3:=sD c.us (by have:=ok.us0;omega) (by have:=ok.us1;omega)
 have hs4:=VC c.pat
 have hp:=hc.p
 have hs5:=Bd 64 c.cl hnm
 have hs6:=Bd 64 c.co hnc
 have hs7:=Bd 21 (c.si.map ai) hss
 rw[List.length_map]at hs7
 have hor:(orT c.pat ⟨#[126]⟩=⟨#[126]⟩∧(c.pat.toList == [])=true∧c.pat.toList=[])∨(orT c.pat ⟨#[126]⟩=c.pat∧(c.pat.toList == [])=false∧¬ c.pat.toList=[]):=by
  unfold orT
  by_cases h:c.pat.size=0
  ·have e:c.pat.toList=[]:=by rw[Lib.toList_data];exact List.eq_nil_of_length_eq_zero (by rw[←Lib.size_eq];exact h)
   exact .inl ⟨by rw[if_pos h],by rw[e];rfl,e⟩
  ·have e:¬ c.pat.toList=[]:=fun e=>h (by rw[Lib.toList_data]at e;rw[Lib.size_eq,e];rfl)
   exact .inr ⟨by rw[if_neg h],by simpa using e,e⟩
 have hT:=textC_cat c
 generalize bK c=T at *
 have hls:c.si.length=c.si.length:=rfl
 obtain⟨fr,till,pat,cl,co,si,us⟩:=c
 obtain⟨A,ca,B,cb,S,cs⟩:=m
 have hS:=hR.si
 unfold ae.val at c1 ⊢
 dsimp only at c1 d1 d2 d3 dx j1 j2 j3 hs1 hs2 hs3 hs4 hs5 hs6 hs7 hor hT hS l1 l2 l3 hp ⊢
 generalize dn cl=t1 at *
 generalize dn co=t2 at *
 generalize dn (si.map ai)=t3 at *
 generalize ai fr=u1 at *
 generalize ai till=u2 at *
 generalize ai us=u3 at *
 generalize orT pat ⟨#[126]⟩=pp at *
 obtain⟨ns,hns⟩:∃ ns,ns=si.length:=⟨_,rfl⟩
 rw[←hns]at c1 j3 hS l3 ⊢
 generalize cl.length=na at *
 generalize co.length=nb at *
 obtain⟨i0,hi0,hz0,hz1,hz2⟩:=info_parts rY
 have HI:Hid ((Tryz.prog.info? 9=some i0)∧i0.zero=some (.string ⟨#[]⟩)∧i0.size=1∧i0.bytes=16):=Lib.hid ⟨hi0,hz0,hz1,hz2⟩
 have C1:=Lib.hid c1;have D1:=Lib.hid d1;have D2:=Lib.hid d2;have D3:=Lib.hid d3;have DX:=Lib.hid dx;have J1:=Lib.hid j1;have J2:=Lib.hid j2;have J3:=Lib.hid j3
 have HS:=Lib.hid hS;have HNS:=Lib.hid hns;have HT:=Lib.hid hT;have HOR:=Lib.hid hor
 have HSZ:Hid (u1.size≤21∧u2.size≤21∧u3.size≤21∧pp.size≤200000∧t1.size≤100000∧t2.size≤100000∧t3.size≤100000):=Lib.hid ⟨hs1,hs2,hs3,by omega,by omega,by omega,by omega⟩
 clear c1 d1 d2 d3 dx j1 j2 j3 hS hns hT hor hs1 hs2 hs3 hs4 hs5 hs6 hs7 hsi hss hsz hnm hnc q1 q2 q3 l1 l2 hp hi0 hz0 hz1 hz2 hls ok hv hR hc
 go_enter Tryz.func131,Tryz.ntmps131
 go_wp2_with (go_at_call 32;refine (C1.out _ aJ).mono ?_;rintro e w2 ⟨rfl,hb2⟩;have hX2:aX w2 w.heap.size fr till pat A na ca B nb cb S ns cs us:=Blk.keep (vC _ _ _).1 hb2;have hK2:KW w2 (w.heap.size+1) ⟨#[]⟩ 0:=Blk.keep (vC _ _ _).2 hb2;have hbw:Below w.heap.size w w2:=aJ;obtain⟨x0,x1,x2,x3,x4,x5,x6⟩:=hX2.facts;obtain⟨k0,k1,g0,g1,hz2⟩:=hK2.facts)
 go_loopw [4,5] (fun vl vi wr=>∃ (k:Nat) (A':Option Addr) (c':Nat),(vl=.slice A' k c'∧vi=.int .i64 k∧k≤ns)∧aX wr w.heap.size fr till pat A na ca B nb cb S ns cs us∧KW wr (w.heap.size+1) ⟨#[]⟩ 0∧wr.ownsRow (w.heap.size+1+1) 9 1 (.slice A' k c') k (((si.map ai).take k).map .string)∧Below w.heap.size w wr) (fun _ vi _=>ns-(intOf vi).toNat)
 case atStart=>exact⟨0,none,0,⟨rfl,rfl,Nat.zero_le _⟩,hX2,hK2,World.ownsRow_nil _ _ _ _,hbw⟩
 case round =>
  clear hX2 hK2 hbw x0 x1 x2 x3 x4 x5 x6 k0 k1 g0 g1 hz2 hb2
  obtain⟨k,A',c',⟨rfl,rfl,hk⟩,hX,hK,hown,hbw⟩:=hrel
  obtain⟨x0,x1,x2,x3,x4,x5,x6⟩:=hX.facts
  by_cases hlt:k<ns
  ·obtain⟨x,hx⟩:∃ x,si[k]? = some x:=⟨_,List.getElem?_eq_getElem (by have:=HNS.out;omega)⟩
   obtain⟨pb,po,rfl,hcell⟩:=(HS.out.keep hbw).2 (by omega)
   have hc1:wr.cell? ⟨pb,po+k,none⟩=some (.int .i64 x):=hcell k _ (by simp[hx])
   have hk0:(0:Int)≤(k:Int):=by omega
   have hk1:(k:Int)<(ns:Int):=by omega
   have htk:(si.map ai).take (k+1)=(si.map ai).take k++[ai x]:=by rw[List.take_add_one,List.getElem?_map,hx];rfl
   have HTK:=Lib.hid htk
   have HD:=Lib.hid (DX.out x (List.mem_of_getElem? hx))
   clear hcell hx htk
   go_wp2_with (first | (go_at_call 59;refine (HD.out _).mono ?_;rintro e w3 ⟨rfl,hb3⟩;have hown3:=fZ hown hb3;have hbw3:=aV hbw hb3;have hbs3:=hbw3.size;have hX3:=Blk.keep hX hb3;have hK3:=Blk.keep hK hb3;have hz3:=Blk.lt hK3) | (at_builtin;refine wpList_append_own _ rfl _ _ 24 rfl (w.heap.size+1+1) 9 i0 (.string ⟨#[]⟩) 1 16 Tryz.underlying24 HI.out.1 HI.out.2.1 HI.out.2.2.1 HI.out.2.2.2 rfl (by decide) _ _ _ rfl (hown3.alloc _) ⟨w3.heap.size,0,none⟩ 1 1 [.string (ai x)] rfl rfl (cell_one_new _ _ _) (by simp[Value.oneCell']) (by unfold maxLen;omega) (by omega) (by simp;omega) ?_;intro v' w4 hown4 hgrow _;obtain⟨g1,cap1,rfl⟩:=ownsRow_succ hown4))
   have fr1:∀ j,j<w.heap.size+1+1→w4.heap[j]? = w3.heap[j]?:=fun j hj=>(hgrow.block j (by simp;omega) (fun e=>by have:=fE hown3 _ e.symm;omega)).trans (Below.heap_alloc w3 _ j (by omega))
   refine⟨⟨k+1,some ⟨g1,0,none⟩,cap1,⟨rfl,by go_num,by omega⟩,(fr1 _ (by omega)).trans hX3,(fr1 _ (by omega)).trans hK3,by rw[HTK.out,List.map_append];exact hown4,?_⟩,by simp[intOf];omega⟩
   exact (hbw3.alloc hbs3 _).grown hgrow (by simp;omega) (fun r e=>by have:=fE hown3 r e;omega)
  ·obtain rfl:k=ns:=by omega
   have ht:(si.map ai).take k=si.map ai:=List.take_of_length_le (by simp;have:=HNS.out;omega)
   rw[ht]at hown
   have hr3:=aI.of_own hown
   have j3:=fun W (hb:Below wr.heap.size wr W)=>J3.out A' c' W (hr3.keep hb)
   have j1:=fun W (hb:Below wr.heap.size wr W)=>J1.out W (aV hbw hb)
   have j2:=fun W (hb:Below wr.heap.size wr W)=>J2.out W (aV hbw hb)
   obtain⟨z1,z2,z3,z4,z5,z6,z7⟩:=HSZ.out
   have hTT:=HT.out
   have K1:=Lib.hid j1;have K2:=Lib.hid j2;have K3:=Lib.hid j3;have HT2:=Lib.hid hTT
   have hor:=HOR.out
   clear ht hown hr3 j1 j2 j3 J1 J2 J3 HT HOR HSZ C1 DX HS HNS hTT
   obtain⟨k0,k1,g0,g1,hz⟩:=hK.facts
   rcases hor with ⟨e1,e2,e3⟩ | ⟨e1,e2,e3⟩
   ·have E1:=Lib.hid e1
    have e4:pat.toList.isEmpty=true:=by rw[e3];rfl
    clear e1
    go_upto_region 12 with fail
    rw[←E1.out]
    have n1:¬ 9223372036854775807<u1.size+1:=by omega
    have n2:¬ 9223372036854775807<u1.size+1+u2.size:=by omega
    have n3:¬ 9223372036854775807<u1.size+1+u2.size+1:=by omega
    have n4:¬ 9223372036854775807<u1.size+1+u2.size+1+pp.size:=by omega
    have n5:¬ 9223372036854775807<u1.size+1+u2.size+1+pp.size+1:=by omega
    have n6:¬ 9223372036854775807<u1.size+1+u2.size+1+pp.size+1+t1.size:=by omega
    have n7:¬ 9223372036854775807<u1.size+1+u2.size+1+pp.size+1+t1.size+1:=by omega
    have n8:¬ 9223372036854775807<u1.size+1+u2.size+1+pp.size+1+t1.size+1+t2.size:=by omega
    have n9:¬ 9223372036854775807<u1.size+1+u2.size+1+pp.size+1+t1.size+1+t2.size+1:=by omega
    have n10:¬ 9223372036854775807<u1.size+1+u2.size+1+pp.size+1+t1.size+1+t2.size+1+t3.size:=by omega
    have n11:¬ 9223372036854775807<u1.size+1+u2.size+1+pp.size+1+t1.size+1+t2.size+1+t3.size+1:=by omega
    have n12:¬ 9223372036854775807<u1.size+1+u2.size+1+pp.size+1+t1.size+1+t2.size+1+t3.size+1+u3.size:=by omega
    clear z1 z2 z3 z4 z5 z6 z7
    have hcu:Below wr.heap.size wr wr.drew:=Below.drew (Below.refl _ _)
    go_region_held3 (fun w'=>w'.cell? ⟨w.heap.size,0,none⟩=some (.int .i64 fr)∧w'.cell? ⟨w.heap.size,1,none⟩=some (.int .i64 till)∧w'.cell? ⟨w.heap.size,2,none⟩=some (.string pat)∧w'.cell? ⟨w.heap.size,3,none⟩=some (.slice A na ca)∧w'.cell? ⟨w.heap.size,4,none⟩=some (.slice B nb cb)∧w'.cell? ⟨w.heap.size,5,none⟩=some (.slice S k cs)∧w'.cell? ⟨w.heap.size,6,none⟩=some (.int .i64 us)∧Below w.heap.size w w')
     (first | exact⟨x0,x1,x2,x3,x4,x5,x6,Below.drew hbw⟩ | (go_split_ands;refine⟨?_,?_,?_,?_,?_,?_,?_,?_⟩ <;> first | assumption | (refine aW hb4 ?_;assumption) | (refine aV ?_ hb4;assumption) | (refine Eq.trans (World.cell?_setCell_far _ _ _ _ (by simp)) (Eq.trans (World.cell?_setCell_far _ _ _ _ (by simp)) ?_);assumption) | (refine Below.setCell (Below.setCell ?_ (by simp) _) (by simp) _;assumption)))
     (first | (go_at_call 59;(first | (with_reducible refine (D1.out _).mono ?_) | (with_reducible refine (D2.out _).mono ?_) | (with_reducible refine (D3.out _).mono ?_));rintro e w4 ⟨rfl,hb4⟩;replace hcu:=aV hcu hb4;have hKc:=Blk.keep hK hcu;(try clear k0 k1 g0 g1 hz);obtain⟨k0,k1,g0,g1,hz⟩:=KW.facts hKc) | (go_at_call 190;(first | (with_reducible refine (K1.out _ hcu).mono ?_) | (with_reducible refine (K2.out _ hcu).mono ?_) | (with_reducible refine (K3.out _ hcu).mono ?_));rintro e w4 ⟨rfl,hb4⟩;replace hcu:=aV hcu hb4;have hKc:=Blk.keep hK hcu;(try clear k0 k1 g0 g1 hz);obtain⟨k0,k1,g0,g1,hz⟩:=KW.facts hKc))
    all_goals go_wp2
    all_goals exact bodyPost_ret (v:=.agg #[.string T,.int .i64 0]) (by simp[results,Tryz.results131,go_sem,hz,k0,k1,g0,g1,HT2.out]) rfl ⟨rfl,by go_split_ands;assumption⟩
   ·have E1:=Lib.hid e1
    have e4:pat.toList.isEmpty=false:=by simpa using e3
    clear e1
    go_upto_region 12 with fail
    rw[←E1.out]
    have n1:¬ 9223372036854775807<u1.size+1:=by omega
    have n2:¬ 9223372036854775807<u1.size+1+u2.size:=by omega
    have n3:¬ 9223372036854775807<u1.size+1+u2.size+1:=by omega
    have n4:¬ 9223372036854775807<u1.size+1+u2.size+1+pp.size:=by omega
    have n5:¬ 9223372036854775807<u1.size+1+u2.size+1+pp.size+1:=by omega
    have n6:¬ 9223372036854775807<u1.size+1+u2.size+1+pp.size+1+t1.size:=by omega
    have n7:¬ 9223372036854775807<u1.size+1+u2.size+1+pp.size+1+t1.size+1:=by omega
    have n8:¬ 9223372036854775807<u1.size+1+u2.size+1+pp.size+1+t1.size+1+t2.size:=by omega
    have n9:¬ 9223372036854775807<u1.size+1+u2.size+1+pp.size+1+t1.size+1+t2.size+1:=by omega
    have n10:¬ 9223372036854775807<u1.size+1+u2.size+1+pp.size+1+t1.size+1+t2.size+1+t3.size:=by omega
    have n11:¬ 9223372036854775807<u1.size+1+u2.size+1+pp.size+1+t1.size+1+t2.size+1+t3.size+1:=by omega
    have n12:¬ 9223372036854775807<u1.size+1+u2.size+1+pp.size+1+t1.size+1+t2.size+1+t3.size+1+u3.size:=by omega
    clear z1 z2 z3 z4 z5 z6 z7
    have hcu:Below wr.heap.size wr wr.drew:=Below.drew (Below.refl _ _)
    go_region_held3 (fun w'=>w'.cell? ⟨w.heap.size,0,none⟩=some (.int .i64 fr)∧w'.cell? ⟨w.heap.size,1,none⟩=some (.int .i64 till)∧w'.cell? ⟨w.heap.size,2,none⟩=some (.string pat)∧w'.cell? ⟨w.heap.size,3,none⟩=some (.slice A na ca)∧w'.cell? ⟨w.heap.size,4,none⟩=some (.slice B nb cb)∧w'.cell? ⟨w.heap.size,5,none⟩=some (.slice S k cs)∧w'.cell? ⟨w.heap.size,6,none⟩=some (.int .i64 us)∧Below w.heap.size w w')
     (first | exact⟨x0,x1,x2,x3,x4,x5,x6,Below.drew hbw⟩ | (go_split_ands;refine⟨?_,?_,?_,?_,?_,?_,?_,?_⟩ <;> first | assumption | (refine aW hb4 ?_;assumption) | (refine aV ?_ hb4;assumption) | (refine Eq.trans (World.cell?_setCell_far _ _ _ _ (by simp)) (Eq.trans (World.cell?_setCell_far _ _ _ _ (by simp)) ?_);assumption) | (refine Below.setCell (Below.setCell ?_ (by simp) _) (by simp) _;assumption)))
     (first | (go_at_call 59;(first | (with_reducible refine (D1.out _).mono ?_) | (with_reducible refine (D2.out _).mono ?_) | (with_reducible refine (D3.out _).mono ?_));rintro e w4 ⟨rfl,hb4⟩;replace hcu:=aV hcu hb4;have hKc:=Blk.keep hK hcu;(try clear k0 k1 g0 g1 hz);obtain⟨k0,k1,g0,g1,hz⟩:=KW.facts hKc) | (go_at_call 190;(first | (with_reducible refine (K1.out _ hcu).mono ?_) | (with_reducible refine (K2.out _ hcu).mono ?_) | (with_reducible refine (K3.out _ hcu).mono ?_));rintro e w4 ⟨rfl,hb4⟩;replace hcu:=aV hcu hb4;have hKc:=Blk.keep hK hcu;(try clear k0 k1 g0 g1 hz);obtain⟨k0,k1,g0,g1,hz⟩:=KW.facts hKc))
    all_goals go_wp2
    all_goals exact bodyPost_ret (v:=.agg #[.string T,.int .i64 0]) (by simp[results,Tryz.results131,go_sem,hz,k0,k1,g0,g1,HT2.out]) rfl ⟨rfl,by go_split_ands;assumption⟩
theorem rText_all (c:aY) (m:ae) (w:World) (hR:dA w c m) (hc:dE c):Calls Tryz.prog 131 #[ae.val c m] w (Ret w (.agg #[.string (kZ c).1,.int .i64 (kZ c).2])):=by
 unfold kZ
 cases hv:bF c
 ·exact rText21_bad c m w hR hc hv
 ·exact rText21_good c m w hR hc hv
def fewTk (t:bz):Bool:=t.conds.all fewV&&decide (t.conds.length≤20∧t.id.size≤200)
theorem allT_step {α:Type} (p:α→Bool) (l:List α) (k:Nat) (x:α) (hx:l[k]? = some x) (hp:p x=true):(l.drop k).all p=(l.drop (k+1)).all p:=by
 obtain⟨hl2,rfl⟩:=List.getElem?_eq_some_iff.1 hx
 rw[List.drop_eq_getElem_cons hl2,List.all_cons,hp,Bool.true_and]
theorem allT_stop {α:Type} (p:α→Bool) (l:List α) (k:Nat) (x:α) (hx:l[k]? = some x) (hp:p x=false):(l.drop k).all p=false:=by
 obtain⟨hl2,rfl⟩:=List.getElem?_eq_some_iff.1 hx
 rw[List.drop_eq_getElem_cons hl2,List.all_cons,hp,Bool.false_and]
theorem all_conds {x:ah} {w:World} (hR:bZ w x) (p:aY→Bool):x.L.all (fun y=>p y.c)=x.t.conds.all p:=by rw[←hR.same,List.all_map];rfl
theorem rTValid_any (x:ah) (w:World) (hR:bZ w x) (hf:∀ y∈x.L,dE y.c) (hid:x.t.id.size≤1000000) (hn:x.t.conds.length≤1000000):Calls Tryz.prog 15 #[x.val] w (Ret w (.bool (gX x.t))):=by
 have cP:=fun (y:CoM) (hy:y∈x.L) (W:World) (hb:Below w.heap.size w W)=>rValid21_any y.c y.m W ((hR.conds.each y hy).keep hb) (hf y hy).p (hf y hy).cl (hf y hy).co (hf y hy).n1 (hf y hy).n2 (hf y hy).n3
 have hN:=fun W=>rName_any x.t.id W (by omega)
 have hl:=hR.conds.len
 have hbad:∀ v,Bo x.t=v→gX x.t=(v&&(decide (1≤x.t.conds.length∧x.t.conds.length≤16)&&x.t.conds.all bF)):=by
  intro v hv;unfold gX;rw[hv,Bool.and_assoc]
 obtain⟨R,hR0⟩:∃ R,R=gX x.t:=⟨_,rfl⟩
 rw[←hR0]at hbad ⊢
 rw[←all_conds hR]at hbad
 obtain⟨V,hV⟩:∃ V,V=x.L.all (fun y=>bF y.c):=⟨_,rfl⟩
 rw[←hV]at hbad
 have hA:=hR.conds
 obtain⟨pr,hpr⟩:∃ pr,pr=bF:=⟨_,rfl⟩
 rw[←hpr]at hV cP
 have hok:Bo x.t=(decide (1≤x.t.cust∧x.t.cust≤1073741824)&&decide (1≤x.t.ser∧x.t.ser≤1073741824)&&bU x.t.id):=rfl
 rw[hok]at hbad
 clear hok
 generalize hln:x.t.conds.length=n at *
 have HP:=Lib.hid cP;have HA:=Lib.hid hA;have HL:=Lib.hid hl;have HV:=Lib.hid hV;have HLN:=Lib.hid hln
 clear cP hA hl hV hR hln hpr hR0 hf
 unfold ah.val
 by_cases c1:x.t.cust<1
 ·have e:R=false:=by rw[hbad _ rfl,decide_eq_false (by omega)];rfl
  subst e
  have HN:=Lib.hid hN
  clear hN hbad
  go_enter Tryz.func15,Tryz.ntmps15
  go_upto_region 1 with fail
  generalize hw0:World.alloc _ _=w0
  have B0:fQ w0 w.heap.size x:=⟨by rw[←hw0];exact World.alloc_heap_new w _⟩
  have hb0:Below w.heap.size w w0:=by rw[←hw0];exact aU (Below.refl _ _) _
  clear hw0
  obtain⟨y0,y1,y2,y3⟩:=B0.cells
  rw[HLN.out]at y3
  (go_wp2_with (go_at_call 50;refine (HN.out _).mono ?_;rintro e w2 ⟨rfl,hb2⟩;have B2:=B0.keep hb2;have hbw:=aV hb0 hb2;clear y0 y1 y2 y3;obtain⟨y0,y1,y2,y3⟩:=B2.cells;rw[HLN.out]at y3);go_ret;exact⟨rfl,aJ⟩)
 by_cases c2:1073741824<x.t.cust
 ·have e:R=false:=by rw[hbad _ rfl,decide_eq_false (by omega)];rfl
  subst e
  have HN:=Lib.hid hN
  clear hN hbad
  go_enter Tryz.func15,Tryz.ntmps15
  go_upto_region 1 with fail
  generalize hw0:World.alloc _ _=w0
  have B0:fQ w0 w.heap.size x:=⟨by rw[←hw0];exact World.alloc_heap_new w _⟩
  have hb0:Below w.heap.size w w0:=by rw[←hw0];exact aU (Below.refl _ _) _
  clear hw0
  obtain⟨y0,y1,y2,y3⟩:=B0.cells
  rw[HLN.out]at y3
  (go_wp2_with (go_at_call 50;refine (HN.out _).mono ?_;rintro e w2 ⟨rfl,hb2⟩;have B2:=B0.keep hb2;have hbw:=aV hb0 hb2;clear y0 y1 y2 y3;obtain⟨y0,y1,y2,y3⟩:=B2.cells;rw[HLN.out]at y3);go_ret;exact⟨rfl,aJ⟩)
 by_cases c3:x.t.ser<1
 ·have e:R=false:=by rw[hbad _ rfl,decide_eq_true (show 1≤x.t.cust∧x.t.cust≤1073741824 by omega),decide_eq_false (by omega)];rfl
  subst e
  have HN:=Lib.hid hN
  clear hN hbad
  go_enter Tryz.func15,Tryz.ntmps15
  go_upto_region 1 with fail
  generalize hw0:World.alloc _ _=w0
  have B0:fQ w0 w.heap.size x:=⟨by rw[←hw0];exact World.alloc_heap_new w _⟩
  have hb0:Below w.heap.size w w0:=by rw[←hw0];exact aU (Below.refl _ _) _
  clear hw0
  obtain⟨y0,y1,y2,y3⟩:=B0.cells
  rw[HLN.out]at y3
  (go_wp2_with (go_at_call 50;refine (HN.out _).mono ?_;rintro e w2 ⟨rfl,hb2⟩;have B2:=B0.keep hb2;have hbw:=aV hb0 hb2;clear y0 y1 y2 y3;obtain⟨y0,y1,y2,y3⟩:=B2.cells;rw[HLN.out]at y3);go_ret;exact⟨rfl,aJ⟩)
 by_cases c4:1073741824<x.t.ser
 ·have e:R=false:=by rw[hbad _ rfl,decide_eq_true (show 1≤x.t.cust∧x.t.cust≤1073741824 by omega),decide_eq_false (by omega)];rfl
  subst e
  have HN:=Lib.hid hN
  clear hN hbad
  go_enter Tryz.func15,Tryz.ntmps15
  go_upto_region 1 with fail
  generalize hw0:World.alloc _ _=w0
  have B0:fQ w0 w.heap.size x:=⟨by rw[←hw0];exact World.alloc_heap_new w _⟩
  have hb0:Below w.heap.size w w0:=by rw[←hw0];exact aU (Below.refl _ _) _
  clear hw0
  obtain⟨y0,y1,y2,y3⟩:=B0.cells
  rw[HLN.out]at y3
  (go_wp2_with (go_at_call 50;refine (HN.out _).mono ?_;rintro e w2 ⟨rfl,hb2⟩;have B2:=B0.keep hb2;have hbw:=aV hb0 hb2;clear y0 y1 y2 y3;obtain⟨y0,y1,y2,y3⟩:=B2.cells;rw[HLN.out]at y3);go_ret;exact⟨rfl,aJ⟩)
 have hbd:=hbad _ rfl
 rw[decide_eq_true (show 1≤x.t.cust∧x.t.cust≤1073741824 by omega),decide_eq_true (show 1≤x.t.ser∧x.t.ser≤1073741824 by omega),Bool.true_and,Bool.true_and]at hbd
 clear hbad
 cases hnm:bU x.t.id
 ·rw[hnm,Bool.false_and]at hbd
  rw[hnm]at hN
  subst hbd
  have HN:=Lib.hid hN
  clear hN hnm
  go_enter Tryz.func15,Tryz.ntmps15
  go_upto_region 1 with fail
  generalize hw0:World.alloc _ _=w0
  have B0:fQ w0 w.heap.size x:=⟨by rw[←hw0];exact World.alloc_heap_new w _⟩
  have hb0:Below w.heap.size w w0:=by rw[←hw0];exact aU (Below.refl _ _) _
  clear hw0
  obtain⟨y0,y1,y2,y3⟩:=B0.cells
  rw[HLN.out]at y3
  (go_wp2_with (go_at_call 50;refine (HN.out _).mono ?_;rintro e w2 ⟨rfl,hb2⟩;have B2:=B0.keep hb2;have hbw:=aV hb0 hb2;clear y0 y1 y2 y3;obtain⟨y0,y1,y2,y3⟩:=B2.cells;rw[HLN.out]at y3);go_ret;exact⟨rfl,aJ⟩)
 rw[hnm,Bool.true_and]at hbd
 rw[hnm]at hN
 have HN:=Lib.hid hN
 have HR:=Lib.hid hbd
 clear hN hnm hbd
 go_enter Tryz.func15,Tryz.ntmps15
 go_upto_region 1 with fail
 generalize hw0:World.alloc _ _=w0
 have B0:fQ w0 w.heap.size x:=⟨by rw[←hw0];exact World.alloc_heap_new w _⟩
 have hb0:Below w.heap.size w w0:=by rw[←hw0];exact aU (Below.refl _ _) _
 clear hw0
 obtain⟨y0,y1,y2,y3⟩:=B0.cells
 rw[HLN.out]at y3
 go_wp2_with (go_at_call 50;refine (HN.out _).mono ?_;rintro e w2 ⟨rfl,hb2⟩;have B2:=B0.keep hb2;have hbw:=aV hb0 hb2;clear y0 y1 y2 y3;obtain⟨y0,y1,y2,y3⟩:=B2.cells;rw[HLN.out]at y3)
 clear y0 y1 y2 y3
 go_loopw [3] (fun i wr=>∃ k:Nat,k≤n∧i=.int .i64 k∧Hid (V=(x.L.drop k).all (fun y=>pr y.c))∧fQ wr w.heap.size x∧Below w.heap.size w wr) (fun i _=>n-(intOf i).toNat)
 case atStart=>exact⟨0,by omega,rfl,Lib.hid (by rw[HV.out];rfl),B2,hbw⟩
 case round =>
  obtain⟨k,hk,rfl,HI,B,hb⟩:=hrel
  obtain⟨y0,y1,y2,y3⟩:=B.cells
  rw[HLN.out]at y3
  by_cases hlt:k<n
  ·obtain⟨x1,hx⟩:∃ x1,x.L[k]? = some x1:=⟨_,List.getElem?_eq_getElem (by have:=HL.out;omega)⟩
   obtain⟨_,b,o,hA,hcell⟩:=(HA.out.keep hb).at_ hx
   rw[hA]at y3
   have hld:=pX wr b (o+k*7) x1 hcell
   have hc:=HP.out x1 (List.mem_of_getElem? hx) wr hb
   have hk0:(0:Int)≤(k:Int):=by omega
   have hk1:(k:Int)<(n:Int):=by omega
   clear hcell hA
   generalize ae.val x1.c x1.m=xv at hld hc
   have HLD:=Lib.hid hld
   clear hld
   cases hpx:pr x1.c
   ·rw[hpx]at hc
    have HC:=Lib.hid hc
    have hVf:V=false:=by rw[HI.out];exact allT_stop (fun y=>pr y.c) _ _ _ hx hpx
    subst hVf
    clear hc hx hpx
    have hRf:R=false:=by rw[HR.out,Bool.and_false]
    subst hRf
    go_wp2_with (first | (refine bD rfl _ _ rfl ⟨b,o+k*7,none⟩ xv rfl HLD.out ?_) | (first | (go_at_call 9;refine (HC.out).mono ?_;rintro e w2 ⟨rfl,hb2⟩) | (go_at_call 32;refine (HC.out).mono ?_;rintro e w2 ⟨rfl,hb2⟩)))
    go_ret
    exact⟨rfl,aV hb hb2⟩
   ·rw[hpx]at hc
    have HC:=Lib.hid hc
    have hVs:V=(x.L.drop (k+1)).all (fun y=>pr y.c):=by rw[HI.out];exact allT_step (fun y=>pr y.c) _ _ _ hx hpx
    have HI2:=Lib.hid hVs
    clear hc hx hpx hVs
    go_wp2_with (first | (refine bD rfl _ _ rfl ⟨b,o+k*7,none⟩ xv rfl HLD.out ?_) | (first | (go_at_call 9;refine (HC.out).mono ?_;rintro e w2 ⟨rfl,hb2⟩) | (go_at_call 32;refine (HC.out).mono ?_;rintro e w2 ⟨rfl,hb2⟩)))
    exact⟨⟨k+1,by omega,by go_num,HI2,B.keep hb2,aV hb hb2⟩,by simp[intOf];omega⟩
  ·have hVt:V=true:=by rw[HI.out,List.drop_eq_nil_of_le (by have:=HL.out;omega)];rfl
   subst hVt
   by_cases h1:1≤n
   ·have i1:(1:Int)≤(n:Int):=by omega
    go_wp2
    go_ret
    exact⟨fV (by rw[HR.out,Bool.and_true];(apply Bool.eq_iff_iff.2;simp only[decide_eq_true_eq,Bool.false_eq_true,eq_self,false_iff,iff_false,true_iff,iff_true,Bool.true_and] <;> omega)),hb⟩
   ·have i1:¬ (1:Int)≤(n:Int):=by omega
    go_wp2
    go_ret
    exact⟨fV (by rw[HR.out,Bool.and_true];(apply Bool.eq_iff_iff.2;simp only[decide_eq_true_eq,Bool.false_eq_true,eq_self,false_iff,iff_false,true_iff,iff_true,Bool.true_and] <;> omega)),hb⟩
theorem rtText_any (c:aY) (m:ae) (w:World) (hR:dA w c m) (hc:kD c):Calls Tryz.prog 70 #[ae.val c m] w (Ret w (.string (bK c))):=by
 have ht:=fun W (hb:Below w.heap.size w W)=>rText21_good c m W (hR.keep hb) hc.fits hc.ok
 generalize bK c=tx at *
 unfold ae.val at *
 have HT:=Lib.hid ht
 clear ht hR hc
 go_enter Tryz.func70,Tryz.ntmps70
 go_wp2_with (go_at_call 131;refine (HT.out _ aJ).mono ?_;rintro e w2 ⟨rfl,hb2⟩)
 go_ret
 exact⟨by simp,aJ⟩
theorem itoa_size2 (n:Int) (h0:0≤n) (h1:n≤1099511627777):(ai n).size≤13:=by
 rw[Lib.size_eq,yO n h0]
 exact (Ja n.toNat (by omega)).1
theorem orT_size2 {a b:aC} {B:Nat} (ha:a.size≤B) (hb:b.size≤B):(orT a b).size≤B:=by
 unfold orT;split <;> assumption
theorem joinT_size (xs:List aC) (B n:Nat) (h:∀ x∈xs,x.size≤B) (hn:xs.length≤n):(dn xs).size≤n*(B+1)+1:=by
 unfold dn
 refine orT_size2 ?_ (by show 1≤_;omega)
 have h1:=Bc 44 B (xs.map (·.data.toList)) (by
  intro y hy
  obtain⟨z,hz,rfl⟩:=List.mem_map.1 hy
  have:=h z hz
  rwa [Lib.size_eq]at this)
 rw[List.length_map]at h1
 have h2:xs.length*(B+1)≤n*(B+1):=Nat.mul_le_mul_right _ hn
 unfold jr
 rw[Lib.size_eq]
 show (Lib.join _ _).length≤_
 omega
theorem textE_err (c:aY):(kZ c).2=0∨(kZ c).2=1:=by unfold kZ;split <;> simp
theorem zt_one:((#[.int .i64 0,.int .i64 0,.string ⟨#[]⟩,.slice none 0 0,.int .u8 0,.int .u8 0,.int .u8 0,.int .u8 0,.int .u8 0,.int .u8 0,.int .u8 0,.int .u8 0,.int .u8 0,.int .u8 0,.int .u8 0,.int .u8 0,.int .u8 0,.int .u8 0,.int .u8 0,.int .u8 0]:Array Value):Array Value).all (·.oneCell')=true:=mi 0 0 ⟨#[]⟩ none 0 0 fH
theorem join_sum (c:UInt8) (l:List (List UInt8)):(Lib.join l [c]).length≤Lib.lens l+l.length:=by
 cases l with
 | nil=>simp[Lib.join_nil]
 | cons x r =>
  rw[Lib.join_cons,List.length_append,Lib.joinTail_length]
  simp only[Lib.lens,List.map_cons,List.sum_cons,List.length_cons,List.length_nil,Nat.zero_add,Nat.one_mul]
  omega
theorem textC_size7 {c:aY} (hv:bF c=true) (hf:fewV c=true):(bK c).size≤6000:=by
 have ok:=(mP c).1 hv
 unfold fewV fewC at hf
 simp only[Bool.and_eq_true,decide_eq_true_eq,List.all_eq_true]at hf
 obtain⟨⟨⟨⟨⟨h1,h2⟩,h3⟩,h4⟩,h5⟩,h6⟩:=hf
 have f0:=itoa_size2 c.fr ok.fr0 (by have:=ok.fr1;omega)
 have f1:=itoa_size2 c.till ok.to0 ok.to1
 have f6:=itoa_size2 c.us ok.us0 (by have:=ok.us1;omega)
 have f2:(orT c.pat ⟨#[126]⟩).size≤1000:=orT_size2 h4 (by decide)
 have f3:=joinT_size c.cl 100 32 (fun x hx=>h5 x hx) ok.clLen
 have f4:=joinT_size c.co 2 32 (fun x hx=>by
  have:=ok.co x hx
  unfold iV at this
  simp only[Bool.and_eq_true,decide_eq_true_eq]at this
  omega) ok.coLen
 have f5:=joinT_size (c.si.map ai) 13 64 (by
  intro x hx
  obtain⟨n,hn,rfl⟩:=List.mem_map.1 hx
  have hs:=ok.si n hn
  simp only[jb,Bool.and_eq_true,decide_eq_true_eq]at hs
  exact itoa_size2 n (by omega) (by omega)) (by rw[List.length_map];exact ok.siLen)
 have hj:=join_sum 32 ((kV c).map (·.data.toList))
 unfold bK
 rw[Lib.size_eq]
 show (Lib.join _ _).length≤_
 have hl:((kV c).map (·.data.toList)).length=7:=rfl
 have he:Lib.lens ((kV c).map (·.data.toList))=(ai c.fr).size+(ai c.till).size+(orT c.pat ⟨#[126]⟩).size+(dn c.cl).size+(dn c.co).size+(dn (c.si.map ai)).size+(ai c.us).size:=by
  simp only[Lib.lens,kV,List.map_cons,List.map_nil,List.sum_cons,List.sum_nil,Lib.size_eq]
  omega
 rw[hl,he]at hj
 omega
theorem fieldsT_size {t:bz} (hv:gX t=true) (hf:fewTk t=true) (hs:dm t.sl):∀ x∈ig t,x.size≤6000:=by
 have ok:=(vH t).1 hv
 unfold fewTk at hf
 simp only[Bool.and_eq_true,decide_eq_true_eq,List.all_eq_true]at hf
 obtain⟨h1,h2,h3⟩:=hf
 have a0:=ok.c0;have a1:=ok.c1;have b0:=ok.s0;have b1:=ok.s1
 intro x hx
 unfold ig at hx
 simp only[List.mem_cons,List.mem_append,List.mem_map,List.not_mem_nil,or_false]at hx
 rcases hx with rfl | rfl | rfl | ⟨c,hc,rfl⟩ | rfl
 ·have:=itoa_size2 t.cust (by omega) (by omega);omega
 ·have:=itoa_size2 t.ser (by omega) (by omega);omega
 ·omega
 ·exact textC_size7 (ok.all c hc) (h1 c hc)
 ·rw[Vx _ hs.len];omega
theorem textT_size {t:bz} (hv:gX t=true) (hf:fewTk t=true) (hs:dm t.sl):(jF t).size≤131072:=by
 have ok:=(vH t).1 hv
 have hz:=fieldsT_size hv hf hs
 have hn:=ok.n1
 have hl:(ig t).length=t.conds.length+4:=by simp[ig]
 have h1:=AV 6000 ((ig t).map (·.data.toList)) (by
  intro y hy
  obtain⟨z,hzm,rfl⟩:=List.mem_map.1 hy
  have:=hz z hzm
  rwa [Lib.size_eq]at this)
 have hj:=join_sum 59 ((ig t).map (·.data.toList))
 rw[List.length_map]at h1 hj
 unfold jF yM
 rw[Lib.size_eq]
 show (Lib.join _ _).length≤_
 omega
end Go.Proofs.YtlkbkclnbppigaaGreatDoor
