/- Conditions in memory; what the specification's Few and FewAsk return, and the package's allows and pattern. -/
import Derived.Test.YtlkbkclnbppigaaGreatDoorIZ30
set_option maxHeartbeats 4000000
namespace Go.Proofs.YtlkbkclnbppigaaGreatDoor
open Go.RowKit Go.Sort
set_option linter.unusedVariables false
set_option linter.unusedSimpArgs false
set_option maxRecDepth 100000
section
variable {w:World} {g:Nat} {fr till us:Int} {pat:aC} {A B S:Option Addr} {na ca nb cb ns cs:Nat}
end
def fewC (na nb ns:Nat) (pat:aC) (cl co:List aC):Bool:=decide (na≤40)&&decide (nb≤40)&&decide (ns≤70)&&decide (pat.size≤1000)&&cl.all (fun x=>decide (x.size≤100))&&co.all (fun x=>decide (x.size≤100))
theorem all_take2 {α:Type} {p:α→Bool} {l:List α} {k:Nat} {x:α} (h:(l.take k).all p=true) (hx:l[k]? = some x) (hp:p x=true):(l.take (k+1)).all p=true:=by
 rw[List.take_add_one,hx]
 simp[h,hp]
theorem all_false2 {α:Type} {p:α→Bool} {l:List α} {k:Nat} {x:α} (hx:l[k]? = some x) (hp:p x=false):l.all p=false:=by
 rw[List.all_eq_false]
 exact⟨x,List.mem_of_getElem? hx,by rw[hp];decide⟩
theorem rFew_any (fr till us:Int) (pat:aC) (A B S:Option Addr) (na ca nb cb ns cs:Nat) (cl co:List aC) (w:World) (hA:aI w 1 A na (cl.map .string)) (hB:aI w 1 B nb (co.map .string)) :
  Calls Tryz.prog 9 #[.agg #[.int .i64 fr,.int .i64 till,.string pat,.slice A na ca,.slice B nb cb,.slice S ns cs,.int .i64 us]] w (Ret w (.bool (fewC na nb ns pat cl co))):=by
 have hna:cl.length=na:=by have:=hA.1;simp at this;omega
 have hnb:co.length=nb:=by have:=hB.1;simp at this;omega
 obtain⟨V,hV⟩:∃ V,V=fewC na nb ns pat cl co:=⟨_,rfl⟩
 rw[←hV]
 unfold fewC at hV
 have HA:=Lib.hid hA;have HB:=Lib.hid hB;have HNA:=Lib.hid hna;have HNB:=Lib.hid hnb
 clear hA hB hna hnb
 by_cases h1:na≤40
 rotate_left
 ·obtain rfl:V=false:=by rw[hV];simp[h1]
  have d1:decide ((40:Int)<(na:Int))=true:=decide_eq_true (by omega)
  clear hV
  go_enter Tryz.func9,Tryz.ntmps9
  go_wp2
  go_ret
  exact⟨rfl,aJ⟩
 have d1:decide ((40:Int)<(na:Int))=false:=decide_eq_false (by omega)
 by_cases h2:nb≤40
 rotate_left
 ·obtain rfl:V=false:=by rw[hV];simp[h2]
  have d2:decide ((40:Int)<(nb:Int))=true:=decide_eq_true (by omega)
  clear hV
  go_enter Tryz.func9,Tryz.ntmps9
  go_wp2
  go_ret
  exact⟨rfl,aJ⟩
 have d2:decide ((40:Int)<(nb:Int))=false:=decide_eq_false (by omega)
 by_cases h3:ns≤70
 rotate_left
 ·obtain rfl:V=false:=by rw[hV];simp[h3]
  have d3:decide ((70:Int)<(ns:Int))=true:=decide_eq_true (by omega)
  clear hV
  go_enter Tryz.func9,Tryz.ntmps9
  go_wp2
  go_ret
  exact⟨rfl,aJ⟩
 have d3:decide ((70:Int)<(ns:Int))=false:=decide_eq_false (by omega)
 by_cases h4:pat.size≤1000
 rotate_left
 ·obtain rfl:V=false:=by rw[hV];simp[h4]
  have d4:decide ((1000:Int)<(pat.size:Int))=true:=decide_eq_true (by omega)
  clear hV
  go_enter Tryz.func9,Tryz.ntmps9
  go_wp2
  go_ret
  exact⟨rfl,aJ⟩
 have d4:decide ((1000:Int)<(pat.size:Int))=false:=decide_eq_false (by omega)
 have hv2:V=(cl.all (fun x=>decide (x.size≤100))&&co.all (fun x=>decide (x.size≤100))):=by rw[hV];simp[h1,h2,h3,h4]
 have HV:=Lib.hid hv2
 clear hV hv2
 go_enter Tryz.func9,Tryz.ntmps9
 go_wp2
 have hX0:aX (w.alloc (.cells #[.int .i64 fr,.int .i64 till,.string pat,.slice A na ca,.slice B nb cb,.slice S ns cs,.int .i64 us] 27)) w.heap.size fr till pat A na ca B nb cb S ns cs us:=World.alloc_heap_new _ _
 go_loopw [3] (fun vi wr=>∃ k:Nat,vi=.int .i64 k∧k≤na∧Hid ((cl.take k).all (fun x=>decide (x.size≤100))=true)∧aX wr w.heap.size fr till pat A na ca B nb cb S ns cs us∧Below w.heap.size w wr) (fun i _=>na-(intOf i).toNat)
 case atStart=>exact⟨0,rfl,Nat.zero_le _,Lib.hid (by simp),hX0,aU (Below.refl _ _) _⟩
 case round =>
  clear hX0
  obtain⟨k,rfl,hk,HK,hX,hbr⟩:=hrel
  obtain⟨x0,x1,x2,x3,x4,x5,x6⟩:=hX.facts
  by_cases hlt:k<na
  ·obtain⟨x,hx⟩:∃ x,cl[k]? = some x:=⟨_,List.getElem?_eq_getElem (by have:=HNA.out;omega)⟩
   obtain⟨b,o,rfl,hcell⟩:=(HA.out.keep hbr).2 (by omega)
   have hc1:wr.cell? ⟨b,o+k,none⟩=some (.string x):=hcell k _ (by simp[hx])
   have hk0:(0:Int)≤(k:Int):=by omega
   have hk1:(k:Int)<(na:Int):=by omega
   by_cases hs:x.size≤100
   ·have HK2:Hid ((cl.take (k+1)).all (fun x=>decide (x.size≤100))=true):=Lib.hid (all_take2 HK.out hx (by simpa using hs))
    have d5:decide ((100:Int)<(x.size:Int))=false:=decide_eq_false (by omega)
    clear hcell hx HK
    go_wp2
    exact⟨⟨k+1,by go_num,by omega,HK2,hX,hbr⟩,by simp[intOf];omega⟩
   ·obtain rfl:V=false:=by rw[HV.out,all_false2 hx (by simpa using hs)];rfl
    have d5:decide ((100:Int)<(x.size:Int))=true:=decide_eq_true (by omega)
    clear hcell hx HK
    go_wp2
    go_ret
    exact⟨rfl,hbr⟩
  ·obtain rfl:k=na:=by omega
   have hall:cl.all (fun x=>decide (x.size≤100))=true:=by
    have:=HK.out
    rwa [List.take_of_length_le (by have:=HNA.out;omega)]at this
   have hv3:V=co.all (fun x=>decide (x.size≤100)):=by rw[HV.out,hall,Bool.true_and]
   have HV2:=Lib.hid hv3
   clear hall hv3 HK HV
   go_wp2
   clear x0 x1 x2 x3 x4 x5 x6
   obtain⟨wo,rfl⟩:∃ wo:World,wo=wr:=⟨_,rfl⟩
   go_loopw [4] (fun vi wz=>∃ j:Nat,vi=.int .i64 j∧j≤nb∧Hid ((co.take j).all (fun x=>decide (x.size≤100))=true)∧aX wz w.heap.size fr till pat A k ca B nb cb S ns cs us∧Below w.heap.size w wz) (fun i _=>nb-(intOf i).toNat)
   case atStart=>exact⟨0,rfl,Nat.zero_le _,Lib.hid (by simp),hX,hbr⟩
   case round =>
    clear hX hbr
    obtain⟨j,rfl,hj,HJ,hX,hbr⟩:=hrel
    obtain⟨x0,x1,x2,x3,x4,x5,x6⟩:=hX.facts
    by_cases hlt2:j<nb
    ·obtain⟨x,hx⟩:∃ x,co[j]? = some x:=⟨_,List.getElem?_eq_getElem (by have:=HNB.out;omega)⟩
     obtain⟨b,o,rfl,hcell⟩:=(HB.out.keep hbr).2 (by omega)
     have hc1:wr.cell? ⟨b,o+j,none⟩=some (.string x):=hcell j _ (by simp[hx])
     have hj0:(0:Int)≤(j:Int):=by omega
     have hj1:(j:Int)<(nb:Int):=by omega
     by_cases hs:x.size≤100
     ·have HJ2:Hid ((co.take (j+1)).all (fun x=>decide (x.size≤100))=true):=Lib.hid (all_take2 HJ.out hx (by simpa using hs))
      have d5:decide ((100:Int)<(x.size:Int))=false:=decide_eq_false (by omega)
      clear hcell hx HJ
      go_wp2
      exact⟨⟨j+1,by go_num,by omega,HJ2,hX,hbr⟩,by simp[intOf];omega⟩
     ·obtain rfl:V=false:=by rw[HV2.out,all_false2 hx (by simpa using hs)]
      have d5:decide ((100:Int)<(x.size:Int))=true:=decide_eq_true (by omega)
      clear hcell hx HJ
      go_wp2
      go_ret
      exact⟨rfl,hbr⟩
    ·obtain rfl:j=nb:=by omega
     have hall:co.all (fun x=>decide (x.size≤100))=true:=by
      have:=HJ.out
      rwa [List.take_of_length_le (by have:=HNB.out;omega)]at this
     obtain rfl:V=true:=by rw[HV2.out,hall]
     go_wp2
     go_ret
     exact⟨rfl,hbr⟩
theorem rLetter_any (c:Nat) (w:World) (hc:c<256):Calls Tryz.prog 167 #[.int .u8 c] w (Ret w (.bool (jX c))):=by
 go_enter Tryz.func167,Tryz.ntmps167
 go_wp2
 all_goals
  go_ret
  exact⟨fV (by first | (rw[Bool.eq_iff_iff];simp[jX];done) | (rw[Bool.eq_iff_iff];simp[jX];omega)),aJ⟩
def anyEq (c:Nat) (l:List UInt8):Bool:=l.any fun b=>b.toNat==c
theorem take_snocB (s:aC) (k:Nat) (h:k<s.size):s.data.toList.take (k+1)=s.data.toList.take k++[s[k]]:=by
 rw[List.take_succ_eq_append_getElem (by simpa using h)];rfl
theorem byte_int (b:UInt8) (c:Nat):((b.toNat:Int)==(c:Int))=(b.toNat==c):=by
 rw[Bool.eq_iff_iff,beq_iff_eq,beq_iff_eq];omega
theorem rHas_any (s:aC) (c:Nat) (w:World) (hs:s.size≤4294967281):Calls Tryz.prog 106 #[.string s,.int .u8 c] w (Ret w (.bool (anyEq c s.data.toList))):=by
 go_enter Tryz.func106,Tryz.ntmps106
 go_wp2
 go_loop [5] (fun i=>∃ k:Nat,i=.int .i64 k∧k≤s.size∧Hid (anyEq c (s.data.toList.take k)=false)) (fun i=>s.size-(intOf i).toNat)
 case atStart=>exact⟨0,rfl,Nat.zero_le _,Lib.hid (by simp[anyEq])⟩
 case round =>
  obtain⟨k,rfl,hk,HK⟩:=hrel
  by_cases hlt:k<s.size
  ·have ht:anyEq c (s.data.toList.take (k+1))=(anyEq c (s.data.toList.take k)||(s[k].toNat==c)):=by rw[take_snocB s k hlt];simp[anyEq]
   have hd:=byte_int s[k] c
   cases hb:(s[k].toNat==c)
   ·rw[hb]at ht hd
    have HK2:Hid (anyEq c (s.data.toList.take (k+1))=false):=Lib.hid (by rw[ht,HK.out];rfl)
    clear ht hb HK
    go_wp2
    go_round
    case rel=>exact⟨k+1,by go_num,by omega,HK2⟩
    case measure=>simp[intOf];omega
   ·rw[hb]at ht hd
    have HK2:Hid (anyEq c s.data.toList=true):=Lib.hid (by
     have h2:anyEq c (s.data.toList.take (k+1))=true:=by rw[ht,Bool.or_true]
     unfold anyEq at h2 ⊢
     rw[List.any_eq_true]at h2 ⊢
     obtain⟨x,hx,h3⟩:=h2
     exact⟨x,List.mem_of_mem_take hx,h3⟩)
    clear ht hb HK
    go_wp2
    go_ret
    exact⟨fV HK2.out.symm,aJ⟩
  ·go_wp2
   go_ret
   refine⟨fV ?_,aJ⟩
   have:=HK.out
   rw[List.take_of_length_le (by rw[←Lib.size_eq];omega)]at this
   exact this.symm
theorem rWord_any (s:aC) (w:World) (hs:s.size≤4294967281):Calls Tryz.prog 105 #[.string s] w (Ret w (.bool (bW s))):=by
 by_cases h0:s.size=0
 ·have d0:((s.size:Int)==0)=true:=by simp[h0]
  have hv:bW s=false:=by
   have:s.data.toList=[]:=List.eq_nil_of_length_eq_zero (by rw[←Lib.size_eq];exact h0)
   simp[bW,Lib.toList_data,this]
  rw[hv];clear hv h0
  go_enter Tryz.func105,Tryz.ntmps105
  go_wp2
  go_ret
  exact⟨rfl,aJ⟩
 have d0:((s.size:Int)==0)=false:=beq_eq_false_iff_ne.2 (by omega)
 by_cases h1:s.size≤64
 rotate_left
 ·have d1:decide ((64:Int)<(s.size:Int))=true:=decide_eq_true (by omega)
  have hv:bW s=false:=by simp[bW,h1]
  rw[hv];clear hv
  go_enter Tryz.func105,Tryz.ntmps105
  go_wp2
  go_ret
  exact⟨rfl,aJ⟩
 have d1:decide ((64:Int)<(s.size:Int))=false:=decide_eq_false (by omega)
 cases h2:(s.toList == [46])
 rotate_left
 ·have hv:bW s=false:=by simp[bW,h2]
  rw[hv];clear hv
  go_enter Tryz.func105,Tryz.ntmps105
  go_wp2
  go_ret
  exact⟨rfl,aJ⟩
 cases h3:(s.toList == [46,46])
 rotate_left
 ·have hv:bW s=false:=by simp[bW,h3]
  rw[hv];clear hv
  go_enter Tryz.func105,Tryz.ntmps105
  go_wp2
  go_ret
  exact⟨rfl,aJ⟩
 have hv:bW s=s.data.toList.all jW:=by
  have:s.toList.isEmpty=false:=by
   rw[Lib.toList_data]
   cases hl:s.data.toList with
   | nil=>rw[Lib.size_eq,hl]at h0;simp at h0
   | cons _ _=>rfl
  simp[bW,h2,h3,this,h1]
 rw[hv];clear hv
 go_enter Tryz.func105,Tryz.ntmps105
 go_wp2
 go_loopw [3] (fun i wr=>∃ k:Nat,i=.int .i64 k∧k≤s.size∧Hid ((s.data.toList.take k).all jW=true)∧Below w.heap.size w wr) (fun i _=>s.size-(intOf i).toNat)
 case atStart=>exact⟨0,rfl,Nat.zero_le _,Lib.hid (by simp),Below.refl _ _⟩
 case round =>
  obtain⟨k,rfl,hk,HK,hbr⟩:=hrel
  by_cases hlt:k<s.size
  ·have ht:(s.data.toList.take (k+1)).all jW=((s.data.toList.take k).all jW&&jW s[k]):=by rw[take_snocB s k hlt];simp
   have cL:=fun W=>rLetter_any s[k].toNat W (s[k].toNat_lt)
   unfold jW at ht
   generalize jX s[k].toNat=b at *
   cases b
   ·have HK2:Hid (s.data.toList.all jW=false):=Lib.hid (by
     have h2:(s.data.toList.take (k+1)).all jW=false:=by unfold jW;rw[ht,Bool.and_false]
     rw[List.all_eq_false]at h2 ⊢
     obtain⟨x,hx,h3⟩:=h2
     exact⟨x,List.mem_of_mem_take hx,h3⟩)
    clear ht HK
    have HL:=Lib.hid cL
    clear cL
    go_wp2_with (go_at_call 167;refine (HL.out _).mono ?_;rintro e w1 ⟨rfl,hb1⟩)
    go_ret
    exact⟨fV HK2.out.symm,aJ⟩
   ·have HK2:Hid ((s.data.toList.take (k+1)).all jW=true):=Lib.hid (by have:=HK.out;unfold jW at this ⊢;rw[ht,this];rfl)
    clear ht HK
    have HL:=Lib.hid cL
    clear cL
    go_wp2_with (go_at_call 167;refine (HL.out _).mono ?_;rintro e w1 ⟨rfl,hb1⟩)
    exact⟨⟨k+1,by go_num,by omega,HK2,aJ⟩,by simp[intOf];omega⟩
  ·go_wp2
   go_ret
   refine⟨fV ?_,aJ⟩
   have:=HK.out
   rw[List.take_of_length_le (by rw[←Lib.size_eq];omega)]at this
   exact this.symm
theorem anyEq_46 (s:aC):(bW s&&!anyEq 46 s.data.toList)=bU s:=by
 unfold bU
 congr 2
 rw[Bool.eq_iff_iff,decide_eq_true_eq]
 unfold anyEq
 generalize s.data.toList=l
 induction l with
 | nil=>simp[Lib.indexByte]
 | cons b l ih =>
  rw[Lib.indexByte,List.any_cons,Bool.or_eq_true]
  have hb:(b.toNat==46)=true↔(b==46)=true:=by
   rw[beq_iff_eq,beq_iff_eq,←UInt8.toNat_inj];rfl
  rw[hb,ih]
  split
  ·simp[*]
  ·split
   ·rename_i h2
    simp only[beq_iff_eq]at h2
    simp[*]
   ·rename_i h1 h2
    simp only[beq_iff_eq]at h2
    have : -1≤Lib.indexByte l 46:=by
     rw[←Lib.index_one];exact Lib.index_ge _ _
    simp only[h1,false_or,Bool.false_eq_true]
    omega
theorem rName_any (s:aC) (w:World) (hs:s.size≤4294967281):Calls Tryz.prog 50 #[.string s] w (Ret w (.bool (bU s))):=by
 have cW:=fun W=>rWord_any s W hs
 have cH:=fun W=>rHas_any s 46 W hs
 rw[←anyEq_46]
 generalize bW s=b at *
 generalize anyEq 46 s.data.toList=h at *
 have HH:=Lib.hid cH
 have HW:=Lib.hid cW
 clear cH cW
 cases b
 ·go_enter Tryz.func50,Tryz.ntmps50
  go_wp2_with (go_at_call 105;refine (HW.out _).mono ?_;rintro e w1 ⟨rfl,hb1⟩)
  go_ret
  exact⟨rfl,aJ⟩
 ·go_enter Tryz.func50,Tryz.ntmps50
  go_wp2_with (first | (go_at_call 105;refine (HW.out _).mono ?_;rintro e w1 ⟨rfl,hb1⟩) | (go_at_call 106;refine (HH.out _).mono ?_;rintro e w2 ⟨rfl,hb2⟩))
  go_ret
  exact⟨fV (by simp),aJ⟩
theorem at_split (l:List UInt8) (k:Nat) (hk:k<l.length):l=l.take k++l[k] :: l.drop (k+1):=by
 rw[←List.drop_eq_getElem_cons hk,List.take_append_drop]
def SplitI (c:UInt8) (l:List UInt8) (k f:Nat) (acc:List aC):Prop:=f≤k∧c ∉ (l.drop f).take (k-f)∧(dO c l).map toB=acc++(dO c (l.drop f)).map toB
theorem splitI_step {c:UInt8} {l:List UInt8} {k f:Nat} {acc:List aC} (h:SplitI c l k f acc) (hk:k<l.length) (hne:l[k] ≠ c):SplitI c l (k+1) f acc:=by
 obtain⟨h1,h2,h3⟩:=h
 refine⟨by omega,?_,h3⟩
 have hl:k-f<(l.drop f).length:=by rw[List.length_drop];omega
 rw[show k+1-f=(k-f)+1 by omega,List.take_succ_eq_append_getElem hl]
 simp only[List.mem_append,List.mem_singleton,not_or]
 refine⟨h2,?_⟩
 rw[List.getElem_drop]
 intro e
 apply hne
 rw[e]
 congr 1
 omega
theorem splitI_hit {c:UInt8} {l:List UInt8} {k f:Nat} {acc:List aC} (h:SplitI c l k f acc) (hk:k<l.length) (he:l[k]=c):SplitI c l (k+1) (k+1) (acc++[toB ((l.drop f).take (k-f))]):=by
 obtain⟨h1,h2,h3⟩:=h
 refine⟨Nat.le_refl _,by simp,?_⟩
 have hl:k-f<(l.drop f).length:=by rw[List.length_drop];omega
 have hs:=at_split (l.drop f) (k-f) hl
 have e1:(l.drop f)[k-f]=c:=by
  rw[List.getElem_drop,←he]
  congr 1
  omega
 rw[e1,List.drop_drop,show f+(k-f+1)=k+1 by omega]at hs
 have hsp:dO c (l.drop f)=(l.drop f).take (k-f) :: dO c (l.drop (k+1)):=by
  conv=>lhs;rw[hs]
  exact FZ _ _ _ h2
 rw[h3,hsp]
 simp
theorem splitI_end {c:UInt8} {l:List UInt8} {f:Nat} {acc:List aC} (h:SplitI c l l.length f acc):(dO c l).map toB=acc++[toB (l.drop f)]:=by
 obtain⟨h1,h2,h3⟩:=h
 rw[List.take_of_length_le (by rw[List.length_drop];omega)]at h2
 rw[h3,Fa _ _ h2]
 rfl
theorem splitB_eq (c:UInt8) (s:aC):splitB c s=(dO c s.data.toList).map toB:=rfl
theorem rSplit_any (s:aC) (c:UInt8) (w:World) (hs:s.size≤4294967281):Calls Tryz.prog 188 #[.string s,.int .u8 c.toNat] w (GZ (splitB c s) w):=by
 obtain⟨i0,hi0,hz0,hz1,hz2⟩:=info_parts rY
 have HI:Hid ((Tryz.prog.info? 9=some i0)∧i0.zero=some (.string ⟨#[]⟩)∧i0.size=1∧i0.bytes=16):=Lib.hid ⟨hi0,hz0,hz1,hz2⟩
 clear hi0 hz0 hz1 hz2
 have hsl:s.data.toList.length=s.size:=(Lib.size_eq s).symm
 have HSL:=Lib.hid hsl
 clear hsl
 go_enter Tryz.func188,Tryz.ntmps188
 go_wp2
 go_loopw [5,6,7] (fun vo vf vi wr=>∃ (k f n:Nat) (acc:List aC) (A:Option Addr) (c':Nat),(vi=.int .i64 k∧vf=.int .i64 f∧vo=.slice A n c'∧k≤s.size∧f≤k∧n≤k)∧Hid (SplitI c s.data.toList k f acc∧acc.length=n)∧wr.ownsRow w.heap.size 9 1 (.slice A n c') n (acc.map .string)∧Below w.heap.size w wr) (fun _ _ i _=>s.size-(intOf i).toNat)
 case atStart=>exact⟨0,0,0,[],none,0,⟨rfl,rfl,rfl,Nat.zero_le _,Nat.le_refl _,Nat.le_refl _⟩,Lib.hid ⟨⟨Nat.le_refl _,by simp,by simp⟩,rfl⟩,World.ownsRow_nil _ _ _ _,Below.refl _ _⟩
 case round =>
  obtain⟨k,f,n,acc,A,c',⟨rfl,rfl,rfl,hk,hf,hn⟩,HK,hown,hbr⟩:=hrel
  have hbs:=hbr.size
  by_cases hlt:k<s.size
  ·have hd:=byte_int s[k] c.toNat
   have hkl:k<s.data.toList.length:=by rw[HSL.out];exact hlt
   have hat:=SE s k hlt
   cases hb:(s[k].toNat==c.toNat)
   ·rw[hb]at hd
    have hne:s.data.toList[k] ≠ c:=fun e=>by rw[←hat]at e;rw[e]at hb;simp at hb
    have HK2:Hid (SplitI c s.data.toList (k+1) f acc∧acc.length=n):=Lib.hid ⟨splitI_step HK.out.1 hkl hne,HK.out.2⟩
    clear hb HK hat hne hkl
    go_wp2
    exact⟨⟨k+1,f,n,acc,A,c',⟨by go_num,rfl,rfl,by omega,by omega,by omega⟩,HK2,hown,hbr⟩,by simp[intOf];omega⟩
   ·rw[hb]at hd
    have he:s.data.toList[k]=c:=by rw[←hat];rw[beq_iff_eq]at hb;exact UInt8.toNat_inj.1 hb
    have hpc:toB ((s.data.toList.drop f).take (k-f))=s.extract f k:=fK (by rw[Lib.extract_data];rfl)
    have hhit:=splitI_hit HK.out.1 hkl he
    rw[hpc]at hhit
    have HK2:Hid (SplitI c s.data.toList (k+1) (k+1) (acc++[s.extract f k])∧(acc++[s.extract f k]).length=n+1):=Lib.hid ⟨hhit,by simp[HK.out.2]⟩
    have hk0:(0:Int)≤(f:Int):=by omega
    have hk1:(f:Int)≤(k:Int):=by omega
    have hk2:(k:Int)≤(s.size:Int):=by omega
    clear hb HK hat he hkl hpc hhit
    go_wp2_with (at_builtin;refine wpList_append_own _ rfl _ _ 24 rfl w.heap.size 9 i0 (.string ⟨#[]⟩) 1 16 Tryz.underlying24 HI.out.1 HI.out.2.1 HI.out.2.2.1 HI.out.2.2.2 rfl (by decide) _ _ _ rfl (hown.alloc _) ⟨wr.heap.size,0,none⟩ 1 1 [.string (s.extract f k)] rfl rfl (cell_one_new _ _ _) (by simp[Value.oneCell']) (by unfold maxLen;omega) (by omega) (by simp;omega) ?_;intro v' w3 hown' hgrow _;obtain⟨g',cap',rfl⟩:=ownsRow_succ hown')
    exact⟨⟨k+1,k+1,n+1,acc++[s.extract f k],some ⟨g',0,none⟩,cap',⟨by go_num,by go_num,rfl,by omega,by omega,by omega⟩,HK2,by rw[List.map_append];exact hown',(hbr.alloc hbs _).grown hgrow (by simp;omega) (fun r e=>fE hown r e)⟩,by simp[intOf];omega⟩
  ·obtain rfl:k=s.size:=by omega
   have hpc:toB (s.data.toList.drop f)=s.extract f s.size:=fK (by rw[Lib.extract_to_end];rfl)
   have hend:splitB c s=acc++[s.extract f s.size]:=by
    rw[splitB_eq,←hpc]
    exact splitI_end (by rw[HSL.out];exact HK.out.1)
   have hlen:(splitB c s).length=n+1:=by rw[hend];simp[HK.out.2]
   have HEND:=Lib.hid hend
   have HLEN:=Lib.hid hlen
   have hk0:(0:Int)≤(f:Int):=by omega
   have hk1:(f:Int)≤(s.size:Int):=by omega
   clear hpc hend hlen HK
   go_wp2_with (at_builtin;refine wpList_append_own _ rfl _ _ 24 rfl w.heap.size 9 i0 (.string ⟨#[]⟩) 1 16 Tryz.underlying24 HI.out.1 HI.out.2.1 HI.out.2.2.1 HI.out.2.2.2 rfl (by decide) _ _ _ rfl (hown.alloc _) ⟨wr.heap.size,0,none⟩ 1 1 [.string (s.extract f s.size)] rfl rfl (cell_one_new _ _ _) (by simp[Value.oneCell']) (by unfold maxLen;omega) (by omega) (by simp;omega) ?_;intro v' w3 hown' hgrow _;obtain⟨g',cap',rfl⟩:=ownsRow_succ hown')
   go_ret
   refine⟨some ⟨g',0,none⟩,cap',by rw[HLEN.out];rfl,?_,(hbr.alloc hbs _).grown hgrow (by simp;omega) (fun r e=>fE hown r e)⟩
   rw[HLEN.out,HEND.out,List.map_append]
   exact hown'
theorem hexV_back:∀ b:UInt8,jO b<16→iZ (jO b)=b:=by
 intro b h
 have hb:b=UInt8.ofNat b.toNat:=by simp
 have hlt:=b.toNat_lt
 have all:∀ n:Nat,n<256→jO (UInt8.ofNat n)<16→iZ (jO (UInt8.ofNat n))=UInt8.ofNat n:=by decide +kernel
 rw[hb]at h ⊢
 exact all _ hlt h
theorem hex_unhex:∀ (l:List UInt8) (s:List Nat),lU l=some s→jf s=l∧(∀ x∈s,x<256)∧l.length=2*s.length
 | [],s,h=>by
  injection h with h
  subst h
  exact⟨rfl,by simp,rfl⟩
 | [_],s,h=>by simp[lU]at h
 | a :: b :: r,s,h=>by
  rw[lU]at h
  split at h
  ·rename_i hv
   cases hu:lU r with
   | none=>rw[hu]at h;simp at h
   | some u =>
    rw[hu]at h
    injection h with h
    subst h
    obtain⟨h1,h2,h3⟩:=hex_unhex r u hu
    refine⟨?_,?_,by simp[h3];omega⟩
    ·show iZ ((16*jO a+jO b) / 16) :: iZ ((16*jO a+jO b) % 16) :: jf u=_
     rw[show (16*jO a+jO b) / 16=jO a by omega,show (16*jO a+jO b) % 16=jO b by omega,hexV_back a hv.1,hexV_back b hv.2,h1]
    ·intro x hx
     rcases List.mem_cons.1 hx with rfl | hx
     ·omega
     ·exact h2 x hx
  ·cases h
def decTk (s:aC):Int:=if dH s=false∧0≤af s∧af s≤1073741824∧ai (af s)=s then af s else 0
theorem join_split1 (c:UInt8):∀ l:List UInt8,Lib.join (dO c l) [c]=l
 | []=>by rw[dO,Lib.join_cons];simp[Lib.joinTail]
 | b :: r=>by
  have ih:=join_split1 c r
  have hne:=F9 c r
  rw[dO]
  split
  ·rename_i e
   subst e
   cases hp:dO b r with
   | nil=>exact absurd hp hne
   | cons p ps =>
    rw[hp,Lib.join_cons]at ih
    rw[Lib.join_cons]
    have e2:Lib.joinTail [b] (p :: ps)=b :: (p++Lib.joinTail [b] ps):=by simp[Lib.joinTail]
    rw[e2,ih]
    rfl
  ·cases hp:dO c r with
   | nil=>exact absurd hp hne
   | cons p ps =>
    rw[hp,Lib.join_cons]at ih
    rw[Lib.join_cons]
    show b :: (p++_)=_
    rw[ih]
theorem sep_split (c:UInt8) (s:aC):yM c (splitB c s)=s:=by
 unfold yM splitB
 rw[List.map_map,show (fun x:aC=>x.data.toList) ∘ (fun l:List UInt8=>(⟨l.toArray⟩:aC))=id from rfl,List.map_id,join_split1]
theorem decTk_itoa (n:Int) (h0:1≤n) (h1:n≤1073741824):decTk (ai n)=n:=by
 unfold decTk
 rw[(pO n (by omega) (by omega)).1,(pO n (by omega) (by omega)).2,if_pos ⟨rfl,by omega,h1,rfl⟩]
def readTR (s:aC):Option bz:=if okF pU (splitB 59 s)&&gX (sO decTk pU (splitB 59 s)) then some (sO decTk pU (splitB 59 s)) else none
theorem readTR_text {t:bz} (h:gX t=true) (hs:dm t.sl):readTR (jF t)=some t:=by
 have ht:=(vH t).1 h
 unfold readTR
 rw[Vw ht hs,Vy ht hs pU (fun c hc=>Vl hc),Vz ht hs decTk pU decTk_itoa (fun c hc=>Vl hc),h]
 rfl
theorem unhex_ok {l:List UInt8} (h:l.length=32) (hu:(lU l).isSome=true):dm ((lU l).getD fH)∧jf ((lU l).getD fH)=l:=by
 obtain⟨s,hs⟩:=Option.isSome_iff_exists.1 hu
 obtain⟨h1,h2,h3⟩:=hex_unhex l s hs
 rw[hs]
 exact⟨⟨by show s.length=16;omega,h2⟩,h1⟩
theorem fields_back {f:List aC} (num:aC→Int) (rd:aC→Option aY) (ho:okF rd f=true) (h0:ai (num (f.getD 0 aT))=f.getD 0 aT) (h1:ai (num (f.getD 1 aT))=f.getD 1 aT) (hr:∀ s c,rd s=some c→bK c=s) :
  ig (sO num rd f)=f∧dm (sO num rd f).sl:=by
 unfold okF at ho
 simp only[Bool.and_eq_true,decide_eq_true_eq,List.all_eq_true]at ho
 obtain⟨⟨⟨hl,ha⟩,hz⟩,hu⟩:=ho
 obtain⟨x0,x1,x2,r,rfl⟩:∃ x0 x1 x2 r,f=x0 :: x1 :: x2 :: r:=by
  match f,hl.1 with
  | x0 :: x1 :: x2 :: r,_=>exact⟨x0,x1,x2,r,rfl⟩
 obtain⟨m,z,rfl⟩:∃ m z,r=m++[z]:=by
  have hne:r ≠ []:=by intro e;subst e;simp at hl
  exact⟨r.dropLast,r.getLast hne,(List.dropLast_concat_getLast hne).symm⟩
 have e3:(x0 :: x1 :: x2 :: (m++[z])).drop 3=m++[z]:=rfl
 have e4:(x0 :: x1 :: x2 :: (m++[z])).getLastD aT=z:=Jm (x0 :: x1 :: x2 :: m) _ _
 rw[e3,List.dropLast_concat]at ha
 rw[e4]at hz hu
 obtain⟨hs,hx⟩:=unhex_ok (l:=z.data.toList) (by rw[←Lib.size_eq];exact hz) hu
 have em:(m.map (fun x=>(rd x).getD ed)).map bK=m:=by
  rw[List.map_map]
  conv=>rhs;rw[←List.map_id m]
  refine List.map_congr_left fun x hxm=>?_
  obtain⟨c,hc⟩:=Option.isSome_iff_exists.1 (ha x hxm)
  show bK ((rd x).getD ed)=x
  rw[hc]
  exact hr x c hc
 have et:sO num rd (x0 :: x1 :: x2 :: (m++[z]))=⟨num x0,num x1,x2,m.map (fun x=>(rd x).getD ed),(lU z.data.toList).getD fH⟩:=by
  unfold sO
  rw[e3,e4,List.dropLast_concat]
  rfl
 rw[et]
 refine⟨?_,hs⟩
 unfold ig
 show ai (num x0) :: ai (num x1) :: x2 :: ((m.map (fun x=>(rd x).getD ed)).map bK++[kC ((lU z.data.toList).getD fH)])=_
 rw[em,show ai (num x0)=x0 from h0,show ai (num x1)=x1 from h1,show kC ((lU z.data.toList).getD fH)=z from fK hx]
theorem readT_some {s:aC} {t:bz} (h:nU s=some t):gX t=true∧dm t.sl∧jF t=s:=by
 unfold nU at h
 split at h
 ·rename_i hc
  injection h with h
  subst h
  simp only[Bool.and_eq_true]at hc
  obtain⟨⟨⟨ho,n0⟩,n1⟩,hv⟩:=hc
  unfold ik at n0 n1
  simp only[Bool.and_eq_true,decide_eq_true_eq]at n0 n1
  obtain⟨e,hs⟩:=fields_back af eF ho n0.2 n1.2 (fun s c hc=>(Vo hc).2)
  refine⟨hv,hs,?_⟩
  unfold jF
  rw[e,sep_split]
 ·cases h
theorem readTR_some {s:aC} {t:bz} (h:readTR s=some t):gX t=true∧dm t.sl∧jF t=s:=by
 unfold readTR at h
 split at h
 ·rename_i hc
  injection h with h
  subst h
  simp only[Bool.and_eq_true]at hc
  obtain⟨ho,hv⟩:=hc
  have ht:=(vH _).1 hv
  have key:∀ x,1≤decTk x→ai (decTk x)=x:=by
   intro x hx
   unfold decTk at hx ⊢
   split
   ·rename_i h2;exact h2.2.2.2
   ·rename_i h2;rw[if_neg h2]at hx;omega
  obtain⟨e,hs⟩:=fields_back decTk pU ho (key _ ht.c0) (key _ ht.s0) (fun s c hc=>(Vm hc).2)
  refine⟨hv,hs,?_⟩
  unfold jF
  rw[e,sep_split]
 ·cases h
theorem readT_eq (s:aC):nU s=readTR s:=by
 cases h:nU s with
 | some t =>
  obtain⟨h1,h2,h3⟩:=readT_some h
  rw[←h3,readTR_text h1 h2]
 | none =>
  cases h3:readTR s with
  | none=>rfl
  | some t =>
   obtain⟨h1,h2,h4⟩:=readTR_some h3
   rw[←h4,V3 h1 h2]at h
   cases h
attribute [local go_sem] Oper.semAt_some
theorem ints_at {xs:List Int} {k:Nat} {u:Value} (h:(xs.map (Value.int .i64))[k]? = some u):∃ x,xs[k]? = some x∧u=.int .i64 x:=by
 rw[List.getElem?_map,Option.map_eq_some_iff]at h
 obtain⟨x,hx,rfl⟩:=h
 exact⟨x,hx,rfl⟩
attribute [local go_sem] Oper.semAt_some
theorem u8_of (n:Nat) (h:n<256):((UInt8.ofNat n).toNat:Int)=(n:Int):=by
 have:(UInt8.ofNat n).toNat=n:=by simp;omega
 rw[this]
section
variable {P:Program}
theorem wp_build_as {o:Oper} {a:Act} {w:World} {K:Act→World→Prop} {Q:Exit→Act→World→Prop} (t:TypeId) (parts:Array (Nat × Operand)) (ho:o.op=.build t parts) (ps:Array (Nat × Value)) (hp:(parts.map fun (i,x)=>(i,a.eval x))=ps)
  (v:Value) (hr:(Instr.build t ps).run P w=.ok v w) (h:K (a.put o.dst v) w):o.wp P a w K Q:=by
 subst hp
 unfold Oper.wp execOp
 simp only[ho,Sem.run_bind,Sem.run_pure,Result.andThen_ok,hr]
 exact h
theorem wpList_build_as {ops:Array Oper} {rest:List Oper} {o:Oper} {a:Act} {w:World} {Q:Exit→Act→World→Prop} (hgd:o.guard=none) (t:TypeId) (parts:Array (Nat × Operand)) (ho:o.op=.build t parts) (ps:Array (Nat × Value)) (hp:(parts.map fun (i,x)=>(i,a.eval x))=ps)
  (v:Value) (hr:(Instr.build t ps).run P w=.ok v w) (h:wpList P ops Q rest (a.put o.dst v) w):wpList P ops Q (o :: rest) a w :=
 wpList_plain hgd fun _ hK=>wp_build_as t parts ho ps hp v hr (hK _ _ h)
end
def joinB (l:List aC) (k:Nat):aC:=toB (Lib.join ((az l).take k) [44])
theorem joinB_first (l:List aC) (x:aC) (h:l[0]? = some x):joinB l 1=x:=by
 cases l with
 | nil=>cases h
 | cons y r =>
  simp only[List.getElem?_cons_zero,Option.some.injEq]at h
  subst h
  simp only[joinB,az,List.map_cons,List.take_succ_cons,List.take_zero,Lib.join_one]
  exact fK (by simp[toB])
theorem joinB_step (l:List aC) (k:Nat) (x:aC) (hk:k≠0) (h:l[k]? = some x):joinB l k++⟨#[44]⟩++x=joinB l (k+1):=by
 cases l with
 | nil=>cases h
 | cons y r =>
  obtain⟨j,rfl⟩:∃ j,k=j+1:=⟨k-1,by omega⟩
  rw[List.getElem?_cons_succ]at h
  simp only[joinB,az,List.map_cons,List.take_succ_cons,Lib.join_cons]
  rw[Lib.joinTail_take_succ [44] (r.map (·.data.toList)) j x.data.toList (by rw[List.getElem?_map,h];rfl)]
  exact fK (by simp[toB])
theorem joinB_le (l:List aC) (k:Nat):(joinB l k).size≤(Lib.join (az l) [44]).length:=by
 rw[joinB,mg]
 cases l with
 | nil=>simp[az]
 | cons y r =>
  cases k with
  | zero=>simp[Lib.join_nil]
  | succ j =>
   simp only[az,List.map_cons,List.take_succ_cons,Lib.join_cons,List.length_append]
   have:=Lib.joinTail_take_le [44] (r.map (·.data.toList)) j
   omega
theorem joinB_all (l:List aC):joinB l l.length=toB (Lib.join (az l) [44]):=by
 rw[joinB,List.take_of_length_le (by simp[az])]
def fewV (c:aY):Bool:=fewC c.cl.length c.co.length c.si.length c.pat c.cl c.co
theorem few_fits {c:aY} (h:fewV c=true):dE c:=by
 unfold fewV fewC at h
 simp only[Bool.and_eq_true,decide_eq_true_eq,List.all_eq_true]at h
 obtain⟨⟨⟨⟨⟨h1,h2⟩,h3⟩,h4⟩,h5⟩,h6⟩:=h
 exact⟨by omega,fun x hx=>by have:=h5 x hx;omega,fun x hx=>by have:=h6 x hx;omega,by omega,by omega,by omega⟩
theorem few_cond (c:aY) (m:ae) (w:World) (hR:dA w c m):Calls Tryz.prog 9 #[ae.val c m] w (Ret w (.bool (fewV c))):=rFew_any c.fr c.till c.us c.pat m.A m.B m.S c.cl.length m.ca c.co.length m.cb c.si.length m.cs c.cl c.co w hR.cl hR.co
theorem country_four (s:aC) (h:s.size=2):iV s=(decide ((97:Int)≤((s[0]'(by omega)).toNat:Int))&&decide (((s[0]'(by omega)).toNat:Int)≤122)&&decide ((97:Int)≤((s[1]'(by omega)).toNat:Int))&&decide (((s[1]'(by omega)).toNat:Int)≤122)):=by
 unfold iV
 rw[decide_eq_true h,Bool.true_and,Zt s h]
 simp only[List.all_cons,List.all_nil,Bool.and_true]
 rw[Bool.eq_iff_iff]
 simp only[Bool.and_eq_true,decide_eq_true_eq]
 omega
theorem rCountry_any (s:aC) (w:World) (hs:s.size≤4294967281):Calls Tryz.prog 67 #[.string s] w (Ret w (.bool (iV s))):=by
 by_cases h2:s.size=2
 ·have d2:((s.size:Int)==2)=true:=by simp;omega
  have hv:=country_four s h2
  have q0:(0:Int)<(s.size:Int):=by omega
  have q1:(1:Int)<(s.size:Int):=by omega
  rw[hv]
  clear hv
  cases e1:decide ((97:Int)≤((s[0]'(by omega)).toNat:Int))
  ·(go_enter Tryz.func67,Tryz.ntmps67;go_wp2;go_ret;exact⟨rfl,aJ⟩)
  cases e2:decide (((s[0]'(by omega)).toNat:Int)≤122)
  ·(go_enter Tryz.func67,Tryz.ntmps67;go_wp2;go_ret;exact⟨rfl,aJ⟩)
  cases e3:decide ((97:Int)≤((s[1]'(by omega)).toNat:Int))
  ·(go_enter Tryz.func67,Tryz.ntmps67;go_wp2;go_ret;exact⟨rfl,aJ⟩)
  cases e4:decide (((s[1]'(by omega)).toNat:Int)≤122)
  ·(go_enter Tryz.func67,Tryz.ntmps67;go_wp2;go_ret;exact⟨rfl,aJ⟩)
  ·(go_enter Tryz.func67,Tryz.ntmps67;go_wp2;go_ret;exact⟨rfl,aJ⟩)
 ·have d2:((s.size:Int)==2)=false:=beq_eq_false_iff_ne.2 (by omega)
  have hv:iV s=false:=by unfold iV;rw[decide_eq_false h2];rfl
  rw[hv]
  (go_enter Tryz.func67,Tryz.ntmps67;go_wp2;go_ret;exact⟨rfl,aJ⟩)
theorem le_prev2 (x y:aC):(Op.bytesLess x.toList y.toList||x.toList==y.toList) = !ltB y x:=Zw x y
def ascB (l:List aC):Bool:=(List.range l.length).all (okK ltB (fun _=>true) l)
theorem asc_at {l:List aC} {k:Nat} {x y:aC} (hx:l[k+1]? = some x) (hy:l[k]? = some y):okK ltB (fun _=>true) l (k+1)=ltB y x:=by
 unfold okK
 rw[hx,Nat.add_sub_cancel,hy]
 simp
theorem asc_fail {l:List aC} {k:Nat} (hk:k<l.length) (h2:okK ltB (fun _=>true) l k=false):ascB l=false:=by
 unfold ascB
 rw[List.all_eq_false]
 exact⟨k,by simpa using hk,by rw[h2];simp⟩
theorem rAscend_any (A:Option Addr) (n c:Nat) (xs:List aC) (w:World) (hA:aI w 1 A n (xs.map .string)) (hn:n≤1000000000):Calls Tryz.prog 68 #[.slice A n c] w (Ret w (.bool (ascB xs))):=by
 have hl:xs.length=n:=by have:=hA.1;simp at this;omega
 obtain⟨V,hV⟩:∃ V,V=ascB xs:=⟨_,rfl⟩
 rw[←hV]
 have HA:=Lib.hid hA;have HL:=Lib.hid hl;have HV:=Lib.hid hV
 clear hA hl hV
 go_enter Tryz.func68,Tryz.ntmps68
 go_wp2
 go_loopw [3] (fun i wr=>∃ k:Nat,k≤n∧i=.int .i64 (k+1:Nat)∧Hid ((List.range (k+1)).all (okK ltB (fun _=>true) xs)=true)∧Below w.heap.size w wr) (fun i _=>n+1-(intOf i).toNat)
 case atStart=>exact⟨0,by omega,rfl,Lib.hid (by simp[okK];cases xs[0]? <;> rfl),Below.refl _ _⟩
 case round =>
  obtain⟨k,hk,rfl,HK,hb⟩:=hrel
  by_cases hlt:k+1<n
  ·obtain⟨x,hx⟩:∃ x,xs[k+1]? = some x:=⟨_,List.getElem?_eq_getElem (by have:=HL.out;omega)⟩
   obtain⟨y,hy⟩:∃ y,xs[k]? = some y:=⟨_,List.getElem?_eq_getElem (by have:=HL.out;omega)⟩
   obtain⟨pb,po,rfl,hcell⟩:=(HA.out.keep hb).2 (by omega)
   have hc1:wr.cell? ⟨pb,po+(k+1),none⟩=some (.string x):=hcell (k+1) _ (by simp[hx])
   have hc2:wr.cell? ⟨pb,po+k,none⟩=some (.string y):=hcell k _ (by simp[hy])
   have hk0:(0:Int)≤(k:Int):=by omega
   have hk1:(k:Int)<(n:Int):=by omega
   have hk2:(0:Int)≤(k:Int)+1:=by omega
   have hk3:(k:Int)+1<(n:Int):=by omega
   have hle:=le_prev2 x y
   have hat:=asc_at hx hy
   cases ht:ltB y x
   ·obtain rfl:V=false:=by rw[HV.out];exact asc_fail (k:=k+1) (by have:=HL.out;omega) (by rw[hat,ht])
    rw[ht]at hle
    clear HK hcell hx hy hat ht
    go_wp2_with fail
    go_quiet (fail)
    go_wp2
    go_ret
    exact⟨rfl,aJ⟩
   ·have HK2:Hid ((List.range (k+1+1)).all (okK ltB (fun _=>true) xs)=true):=Lib.hid (yK HK.out (by rw[hat,ht]))
    rw[ht]at hle
    clear HK hcell hx hy hat ht
    go_wp2_with fail
    go_quiet (fail)
    go_wp2
    exact⟨⟨k+1,by omega,by go_num,HK2,aJ⟩,by simp[intOf];omega⟩
  ·obtain rfl:V=true:=by
    rw[HV.out]
    unfold ascB
    rw[List.all_eq_true]
    intro j hj
    have:=HK.out
    rw[List.all_eq_true]at this
    exact this j (by simp at hj ⊢;have:=HL.out;omega)
   go_wp2
   go_ret
   exact⟨rfl,hb⟩
def partR (s:aC):Bool:=if decide (2<s.size)&&((s.extract 0 2).toList == [42,46]) then decide (s.size≤34)&&bW (s.extract 2 s.size) else s.toList == [42]||bW s
theorem rPart_any (s:aC) (w:World) (hs:s.size≤4294967200):Calls Tryz.prog 189 #[.string s] w (Ret w (.bool (partR s))):=by
 have c1:=fun W=>rWord_any s W (by omega)
 have c2:=fun W=>rWord_any (s.extract 2 s.size) W (by rw[ByteArray.size_extract];omega)
 unfold partR
 generalize bW (s.extract 2 s.size)=b2 at *
 generalize bW s=b1 at *
 by_cases h1:2<s.size
 ·have d1:decide ((2:Int)<(s.size:Int))=true:=decide_eq_true (by omega)
  have q2:(2:Int)≤(s.size:Int):=by omega
  rw[decide_eq_true h1]
  cases h2:((s.extract 0 2).toList == [42,46])
  ·simp only[Bool.and_false,Bool.false_eq_true,if_false]
   cases h3:(s.toList == [42])
   ·have HW:=Lib.hid c1
    clear c1 c2
    go_enter Tryz.func189,Tryz.ntmps189
    go_wp2_with (go_at_call 105;refine (HW.out _).mono ?_;rintro e w1 ⟨rfl,hb1⟩)
    go_ret
    exact⟨fV (by simp),aJ⟩
   ·clear c1 c2
    go_enter Tryz.func189,Tryz.ntmps189
    go_wp2
    go_ret
    exact⟨rfl,aJ⟩
  ·simp only[Bool.and_self,if_true]
   by_cases h4:s.size≤34
   ·have d4:decide ((s.size:Int)≤34)=true:=decide_eq_true (by omega)
    have HW:=Lib.hid c2
    rw[decide_eq_true h4]
    clear c1 c2
    go_enter Tryz.func189,Tryz.ntmps189
    go_wp2_with (go_at_call 105;refine (HW.out _).mono ?_;rintro e w1 ⟨rfl,hb1⟩)
    go_ret
    exact⟨fV (by simp),aJ⟩
   ·have d4:decide ((s.size:Int)≤34)=false:=decide_eq_false (by omega)
    rw[decide_eq_false h4]
    clear c1 c2
    go_enter Tryz.func189,Tryz.ntmps189
    go_wp2
    go_ret
    exact⟨rfl,aJ⟩
 ·have d1:decide ((2:Int)<(s.size:Int))=false:=decide_eq_false (by omega)
  rw[decide_eq_false h1]
  simp only[Bool.false_and,Bool.false_eq_true,if_false]
  cases h3:(s.toList == [42])
  ·have HW:=Lib.hid c1
   clear c1 c2
   go_enter Tryz.func189,Tryz.ntmps189
   go_wp2_with (go_at_call 105;refine (HW.out _).mono ?_;rintro e w1 ⟨rfl,hb1⟩)
   go_ret
   exact⟨fV (by simp),aJ⟩
  ·clear c1 c2
   go_enter Tryz.func189,Tryz.ntmps189
   go_wp2
   go_ret
   exact⟨rfl,aJ⟩
theorem word_star {w:aC} (h:bW w=true) (l:List UInt8):w.data.toList≠42 :: l:=fun e=>(rP h).2.2.2.2.1 (by rw[e];simp)
theorem part_ok (s:aC):partR s=kP s:=by
 unfold partR kP
 have hx:((s.extract 0 2).toList == [42,46])=Lib.hasPrefix s.data.toList [42,46]:=by
  rw[Lib.toList_data,Lib.extract_data]
  unfold Lib.hasPrefix
  rw[Bool.eq_iff_iff,beq_iff_eq,List.isPrefixOf_iff_prefix]
  constructor
  ·intro h
   refine⟨s.data.toList.drop 2,?_⟩
   rw[←h]
   simp
  ·rintro⟨r,h⟩
   rw[←h];simp
 rw[hx]
 cases hp:Lib.hasPrefix s.data.toList [42,46]
 ·simp
 ·obtain⟨r,hr⟩:=G9 hp
  have e:(s.extract 2 s.size).data.toList=r:=by rw[extract_data,hr];rfl
  have hz:s.size=r.length+2:=by rw[jY,hr];rfl
  have h42:(s.toList == [42])=false:=by rw[Lib.toList_data,hr,beq_eq_false_iff_ne];simp
  have hw:bW s=false:=by
   cases h:bW s
   ·rfl
   ·exact absurd hr (word_star h _)
  rw[h42,hw]
  simp only[Bool.and_true,Bool.false_or,Bool.and_true]
  by_cases h2:2<s.size
  ·rw[if_pos (by simpa using h2)]
  ·rw[if_neg (by simpa using h2)]
   have:bW (s.extract 2 s.size)=false:=by
    cases h:bW (s.extract 2 s.size)
    ·rfl
    ·have:=(xP h).1
     rw[e]at this
     exact absurd (List.eq_nil_of_length_eq_zero (by omega)) this
   rw[this,Bool.and_false]
def RCompPost (r:Option Pat) (w:World) (e:Ending) (w':World):Prop :=
 Below w.heap.size w w'∧match r with
 | none=>e=.returned (.tuple #[.agg #[.string ⟨#[]⟩,.slice none 0 0,.bool false],.bool false])
 | some x=>∃ A c,e=.returned (.tuple #[.agg #[.string (I9 x.cust),.slice A x.parts.length c,.bool x.tail],.bool true])∧aI w' 1 A x.parts.length ((dX x.parts).map .string)
theorem strL_snoc (acc:List bI) (w:aC) (h:kP w=true):dX (acc++[dG w])=dX acc++[w]:=by
 unfold dX
 rw[List.map_append,List.map_singleton,UD h]
theorem rCompile_any (s:aC) (w:World) (hs:s.size≤100000):Calls Tryz.prog 130 #[.string s] w (RCompPost (dI s) w):=by
 have cS:=fun W=>rSplit_any s 47 W (by omega)
 have hsz:=oU 47 s
 have hnum:=qM 47 s
 have hne:splitB 47 s ≠ []:=by
  intro h
  have:=congrArg List.length h
  unfold splitB at this
  rw[List.length_map]at this
  exact F9 47 s.data.toList (List.eq_nil_of_length_eq_zero this)
 unfold dI
 generalize splitB 47 s=l at *
 obtain⟨l0,r,rfl⟩:=List.exists_cons_of_ne_nil hne
 have hl0:l0.size≤100000:=Nat.le_trans (hsz l0 (by simp)) hs
 have cN:=fun W=>rName_any l0 W (by omega)
 obtain⟨m,hm⟩:∃ m,m=r.length:=⟨_,rfl⟩
 have HS:Hid (∀ W,Calls Tryz.prog 188 #[.string s,.int .u8 47] W (fun e w'=>∃ A c,e=.returned (.slice A (m+1) c)∧w'.ownsRow W.heap.size 9 1 (.slice A (m+1) c) (m+1) ((l0 :: r).map .string)∧Below W.heap.size W w')):=Lib.hid (by rw[hm];exact cS)
 have HN:=Lib.hid cN
 have HM:=Lib.hid hm
 have hm9:m≤100001:=by rw[hm];simp at hnum;omega
 have hv:rV (l0 :: r)=if decide (m≤32)&&iT l0 then (dK r []).map fun x=>⟨dG l0,x.1,x.2⟩ else none:=by rw[BD,hm]
 have hn0:(0:Int)<(m:Int)+1:=by omega
 generalize hV:RCompPost (rV (l0 :: r)) w=V
 have HV:=Lib.hid hV
 have HSZ:Hid (∀ p∈r,p.size≤100000):=Lib.hid (fun p hp=>Nat.le_trans (hsz p (by simp[hp])) hs)
 obtain⟨i0,hi0,hz0,hz1,hz2⟩:=info_parts rY
 have HI:Hid ((Tryz.prog.info? 9=some i0)∧i0.zero=some (.string ⟨#[]⟩)∧i0.size=1∧i0.bytes=16):=Lib.hid ⟨hi0,hz0,hz1,hz2⟩
 clear hne cS cN hm hsz hnum hV hi0 hz0 hz1 hz2
 cases hho:iT l0
 ·have HNO:Hid (rV (l0 :: r)=none):=Lib.hid (by rw[hv,hho];simp)
  unfold iT at hho
  simp only[Bool.or_eq_false_iff]at hho
  obtain⟨h1,h2⟩:=hho
  have h1':¬ l0.toList=[42]:=by simpa using h1
  rw[h2]at HN
  clear h2 hv
  go_enter Tryz.func130,Tryz.ntmps130
  go_wp2_with (first | (go_at_call 188;refine (HS.out _).mono ?_;rintro e w1 ⟨A,c,rfl,hown,hb1⟩;have hX1:JA w1 w.heap.size ⟨#[]⟩ (.slice none 0 0) false:=Blk.keep (World.alloc_heap_new _ _) hb1;obtain⟨pb,po,u,rfl,hu,g0⟩:=(aI.of_own hown).at_ (k:=0) (by omega);(obtain rfl:u=.string l0:=(by simpa using hu.symm));clear hu;have gg:w1.cell? ⟨pb,po,none⟩=some (.string l0):=g0;clear g0;have hR1:=aI.of_own hown;clear hown;obtain⟨x0,x1,x2,f0,f1,f2⟩:=hX1.facts;have hz1:w.heap.size<w1.heap.size:=Blk.lt hX1) | (go_at_call 50;refine (HN.out _).mono ?_;rintro e w2 ⟨rfl,hb2⟩;have hX2:JA w2 w.heap.size ⟨#[]⟩ (.slice none 0 0) false:=Blk.keep hX1 hb2;have gg2:=aW hb2 gg;have hR2:=hR1.keep hb2;clear x0 x1 x2 f0 f1 f2;obtain⟨x0,x1,x2,f0,f1,f2⟩:=hX2.facts;have hz2:w.heap.size<w2.heap.size:=Blk.lt hX2))
  rw[←HV.out,HNO.out]
  exact bodyPost_ret (v:=.tuple #[.agg #[.string ⟨#[]⟩,.slice none 0 0,.bool false],.bool false]) (by simp[results,Tryz.results130,go_sem,hz2,x0,x1,x2,f0,f1,f2]) rfl ⟨aJ,rfl⟩
 have hho2:((l0.toList == [42])=true∧l0.toList=[42])∨((l0.toList == [42])=false∧¬ l0.toList=[42]∧bU l0=true):=by
  have hho':=hho
  unfold iT at hho'
  cases h:(l0.toList == [42])
  ·right;exact⟨rfl,by simpa using h,by simpa[h] using hho'⟩
  ·left;exact⟨rfl,by simpa using h⟩
 by_cases hbig:m≤32
 rotate_left
 ·have HNO:Hid (rV (l0 :: r)=none):=Lib.hid (by rw[hv];simp[hbig])
  have hd:decide ((32:Int)<(m:Int))=true:=by simp;omega
  clear hv hho
  rcases hho2 with ⟨h1,h1'⟩ | ⟨h1,h1',h2⟩
  ·go_enter Tryz.func130,Tryz.ntmps130
   go_wp2_with (first | (go_at_call 188;refine (HS.out _).mono ?_;rintro e w1 ⟨A,c,rfl,hown,hb1⟩;have hX1:JA w1 w.heap.size ⟨#[]⟩ (.slice none 0 0) false:=Blk.keep (World.alloc_heap_new _ _) hb1;obtain⟨pb,po,u,rfl,hu,g0⟩:=(aI.of_own hown).at_ (k:=0) (by omega);(obtain rfl:u=.string l0:=(by simpa using hu.symm));clear hu;have gg:w1.cell? ⟨pb,po,none⟩=some (.string l0):=g0;clear g0;have hR1:=aI.of_own hown;clear hown;obtain⟨x0,x1,x2,f0,f1,f2⟩:=hX1.facts;have hz1:w.heap.size<w1.heap.size:=Blk.lt hX1) | (go_at_call 50;refine (HN.out _).mono ?_;rintro e w2 ⟨rfl,hb2⟩;have hX2:JA w2 w.heap.size ⟨#[]⟩ (.slice none 0 0) false:=Blk.keep hX1 hb2;have gg2:=aW hb2 gg;have hR2:=hR1.keep hb2;clear x0 x1 x2 f0 f1 f2;obtain⟨x0,x1,x2,f0,f1,f2⟩:=hX2.facts;have hz2:w.heap.size<w2.heap.size:=Blk.lt hX2))
   rw[←HV.out,HNO.out]
   exact bodyPost_ret (v:=.tuple #[.agg #[.string ⟨#[]⟩,.slice none 0 0,.bool false],.bool false]) (by simp[results,Tryz.results130,go_sem,hz1,x0,x1,x2,f0,f1,f2]) rfl ⟨aJ,rfl⟩
  ·rw[h2]at HN
   go_enter Tryz.func130,Tryz.ntmps130
   go_wp2_with (first | (go_at_call 188;refine (HS.out _).mono ?_;rintro e w1 ⟨A,c,rfl,hown,hb1⟩;have hX1:JA w1 w.heap.size ⟨#[]⟩ (.slice none 0 0) false:=Blk.keep (World.alloc_heap_new _ _) hb1;obtain⟨pb,po,u,rfl,hu,g0⟩:=(aI.of_own hown).at_ (k:=0) (by omega);(obtain rfl:u=.string l0:=(by simpa using hu.symm));clear hu;have gg:w1.cell? ⟨pb,po,none⟩=some (.string l0):=g0;clear g0;have hR1:=aI.of_own hown;clear hown;obtain⟨x0,x1,x2,f0,f1,f2⟩:=hX1.facts;have hz1:w.heap.size<w1.heap.size:=Blk.lt hX1) | (go_at_call 50;refine (HN.out _).mono ?_;rintro e w2 ⟨rfl,hb2⟩;have hX2:JA w2 w.heap.size ⟨#[]⟩ (.slice none 0 0) false:=Blk.keep hX1 hb2;have gg2:=aW hb2 gg;have hR2:=hR1.keep hb2;clear x0 x1 x2 f0 f1 f2;obtain⟨x0,x1,x2,f0,f1,f2⟩:=hX2.facts;have hz2:w.heap.size<w2.heap.size:=Blk.lt hX2))
   rw[←HV.out,HNO.out]
   exact bodyPost_ret (v:=.tuple #[.agg #[.string ⟨#[]⟩,.slice none 0 0,.bool false],.bool false]) (by simp[results,Tryz.results130,go_sem,hz2,x0,x1,x2,f0,f1,f2]) rfl ⟨aJ,rfl⟩
 have hd:decide ((32:Int)<(m:Int))=false:=by simp;omega
 have hv2:rV (l0 :: r)=(dK r []).map fun x=>⟨dG l0,x.1,x.2⟩:=by rw[hv,hho];simp[hbig]
 have hst:I9 (dG l0)=l0:=UC hho
 have HV2:=Lib.hid hv2
 have HST:=Lib.hid hst
 clear hv hho hv2 hst
 rcases hho2 with ⟨h1,h1'⟩ | ⟨h1,h1',h2⟩
 rotate_left
 rw[h2]at HN;clear h2
 rotate_left
 all_goals
  go_enter Tryz.func130,Tryz.ntmps130
  go_wp2_with (first | (go_at_call 188;refine (HS.out _).mono ?_;rintro e w1 ⟨A,c,rfl,hown,hb1⟩;have hX1:JA w1 w.heap.size ⟨#[]⟩ (.slice none 0 0) false:=Blk.keep (World.alloc_heap_new _ _) hb1;obtain⟨pb,po,u,rfl,hu,g0⟩:=(aI.of_own hown).at_ (k:=0) (by omega);(obtain rfl:u=.string l0:=(by simpa using hu.symm));clear hu;have gg:w1.cell? ⟨pb,po,none⟩=some (.string l0):=g0;clear g0;have hR1:=aI.of_own hown;clear hown;obtain⟨x0,x1,x2,f0,f1,f2⟩:=hX1.facts;have hz1:w.heap.size<w1.heap.size:=Blk.lt hX1) | (go_at_call 50;refine (HN.out _).mono ?_;rintro e w2 ⟨rfl,hb2⟩;have hX2:JA w2 w.heap.size ⟨#[]⟩ (.slice none 0 0) false:=Blk.keep hX1 hb2;have gg2:=aW hb2 gg;have hR2:=hR1.keep hb2;clear x0 x1 x2 f0 f1 f2;obtain⟨x0,x1,x2,f0,f1,f2⟩:=hX2.facts;have hz2:w.heap.size<w2.heap.size:=Blk.lt hX2))
 rotate_left
 have hX1':=hX2
 have hbA:Below w.heap.size w w2:=aJ
 clear hX1 hR1 gg hb1 hb2
 rotate_left
 obtain⟨w2,rfl⟩:∃ x:World,x=w1:=⟨_,rfl⟩
 have hX1':=hX1
 have hR2:=hR1
 have gg2:=gg
 have hz2:=hz1
 have hbA:Below w.heap.size w w2:=aJ
 clear hX1 hR1 gg hb1
 all_goals
  clear x0 x1 x2 f0 f1 f2
  have HRd:=Lib.hid hR2
  have hpb:pb<w2.heap.size:=bu gg2
  have hB0:JA (w2.alloc (.cells #[.string l0,.slice none 0 0,.bool false] 166)) w2.heap.size l0 (.slice none 0 0) false:=World.alloc_heap_new _ _
  have hP0:JA (w2.alloc (.cells #[.string l0,.slice none 0 0,.bool false] 166)) w.heap.size ⟨#[]⟩ (.slice none 0 0) false:=(Below.heap_alloc _ _ _ hz2).trans hX1'
  clear hR2 gg2 hX1'
  go_loopw [6] (fun vi wr=>∃ (k:Nat) (acc:List bI) (A':Option Addr) (c':Nat) (tl:Bool),(vi=.int .i64 ((k:Int)+1)∧k≤m∧acc.length≤k)∧Hid (SG r k acc tl)∧JA wr w2.heap.size l0 (.slice A' acc.length c') tl∧JA wr w.heap.size ⟨#[]⟩ (.slice none 0 0) false ∧
    wr.ownsRow (w2.heap.size+1) 9 1 (.slice A' acc.length c') acc.length ((dX acc).map .string)∧Below w.heap.size w wr∧(∀ j,j<w2.heap.size→wr.heap[j]? = w2.heap[j]?)∧w2.heap.size+1≤wr.heap.size) (fun vi _=>m+1-(intOf vi).toNat)
  case atStart=>exact⟨0,[],none,0,false,⟨rfl,Nat.zero_le _,Nat.le_refl _⟩,Lib.hid (.inl ⟨rfl,by simp⟩),hB0,hP0,World.ownsRow_nil _ _ _ _,aJ,fun j hj=>Below.heap_alloc _ _ _ hj,by simp⟩
  case round =>
   clear hB0 hP0
   obtain⟨k,acc,A',c',tl,⟨rfl,hk,hak⟩,HC,hB,hP,hown,hbw,hFr,hzr⟩:=hrel
   obtain⟨x0,x1,x2,f0,f1,f2⟩:=hP.facts
   obtain⟨y0,y1,y2,g0,g1,g2⟩:=hB.facts
   by_cases hlt:k<m
   ·obtain⟨p,hp⟩:∃ p,r[k]? = some p:=⟨_,List.getElem?_eq_getElem (by have:=HM.out;omega)⟩
    have hps:=HSZ.out p (List.mem_of_getElem? hp)
    have hcell:wr.cell? ⟨pb,po+(k+1),none⟩=some (.string p):=by
     obtain⟨b',o',e',hc'⟩:=HRd.out.2 (by omega)
     injection e' with e';injection e' with e1 e2;subst e1;subst e2
     have:=hc' (k+1) (.string p) (by simp[hp])
     exact (World.cell?_of_block (hFr pb hpb)).trans this
    obtain⟨rfl,hcmp⟩:tl=false∧dK r []=dK (r.drop k) acc:=by
     rcases HC.out with h | ⟨_,h,_⟩
     ·exact h
     ·exfalso;have:=HM.out;omega
    have hd2:r.drop k=p :: r.drop (k+1):=by
     obtain⟨hl2,rfl⟩:=List.getElem?_eq_some_iff.1 hp
     exact List.drop_eq_getElem_cons hl2
    rw[hd2,dK]at hcmp
    have hemp:(r.drop (k+1)).isEmpty=decide (k+1=m):=by
     have:=HM.out
     by_cases h:k+1=m
     ·rw[List.drop_eq_nil_of_le (by omega)];simp[h]
     ·simp[h];omega
    rw[hemp]at hcmp
    have hk0:(0:Int)≤(k:Int)+1:=by omega
    have hkm:(k:Int)+1<(m:Int)+1:=by omega
    clear hd2 hemp hp HC HRd
    have cP:=fun W=>rPart_any p W (by omega)
    rw[part_ok]at cP
    cases h2s:(p.toList == [42,42])
    ·simp only[h2s,Bool.false_and,Bool.false_eq_true,if_false]at hcmp
     cases hok:kP p
     ·have HNO:Hid (dK r []=none):=Lib.hid (by rw[hcmp,hok];rfl)
      rw[hok]at cP
      have HP:=Lib.hid cP
      clear hcmp cP hok
      go_wp2_with (go_at_call 189;refine (HP.out _).mono ?_;rintro e w4 ⟨rfl,hb4⟩;have hP4:JA w4 w.heap.size ⟨#[]⟩ (.slice none 0 0) false:=Blk.keep hP hb4;have hB4:JA w4 w2.heap.size l0 (.slice A' acc.length c') false:=Blk.keep hB hb4;have hown4:=fZ hown hb4;have hbw4:=aV hbw hb4;have hFr4:∀ j,j<w2.heap.size→w4.heap[j]? = w2.heap[j]?:=(fun j q1=>(hb4.block j (by omega)).trans (hFr j q1));have hzr4:w2.heap.size+1≤w4.heap.size:=Nat.le_trans hzr hb4.size;have hcell4:=aW hb4 hcell;clear x0 x1 x2 f0 f1 f2 y0 y1 y2 g0 g1 g2;obtain⟨x0,x1,x2,f0,f1,f2⟩:=hP4.facts;obtain⟨y0,y1,y2,g0,g1,g2⟩:=hB4.facts)
      rw[←HV.out,HV2.out,HNO.out]
      exact bodyPost_ret (v:=.tuple #[.agg #[.string ⟨#[]⟩,.slice none 0 0,.bool false],.bool false]) (by simp[results,Tryz.results130,go_sem,hz2,x0,x1,x2,f0,f1,f2]) rfl ⟨aJ,rfl⟩
     ·have HSO:Hid (dK r []=dK (r.drop (k+1)) (acc++[dG p])):=Lib.hid (by rw[hcmp,hok];rfl)
      have HSL:=Lib.hid (strL_snoc acc p hok)
      rw[hok]at cP
      have HP:=Lib.hid cP
      clear hcmp cP hok
      go_wp2_with (go_at_call 189;refine (HP.out _).mono ?_;rintro e w4 ⟨rfl,hb4⟩;have hP4:JA w4 w.heap.size ⟨#[]⟩ (.slice none 0 0) false:=Blk.keep hP hb4;have hB4:JA w4 w2.heap.size l0 (.slice A' acc.length c') false:=Blk.keep hB hb4;have hown4:=fZ hown hb4;have hbw4:=aV hbw hb4;have hFr4:∀ j,j<w2.heap.size→w4.heap[j]? = w2.heap[j]?:=(fun j q1=>(hb4.block j (by omega)).trans (hFr j q1));have hzr4:w2.heap.size+1≤w4.heap.size:=Nat.le_trans hzr hb4.size;have hcell4:=aW hb4 hcell;clear x0 x1 x2 f0 f1 f2 y0 y1 y2 g0 g1 g2;obtain⟨x0,x1,x2,f0,f1,f2⟩:=hP4.facts;obtain⟨y0,y1,y2,g0,g1,g2⟩:=hB4.facts)
      have hown4d:w4.drew.ownsRow (w2.heap.size+1) 9 1 (.slice A' acc.length c') acc.length ((dX acc).map .string):=hown4
      have y1d:w4.drew.cell? ⟨w2.heap.size,1,none⟩=some (.slice A' acc.length c'):=y1
      have hcd:w4.drew.cell? ⟨pb,po+(k+1),none⟩=some (.string p):=hcell4
      have hzz:w2.heap.size<w4.heap.size:=by omega
      have hzp:pb<w4.heap.size:=by omega
      have y1e:(w4.alloc (.cells #[.string p] 9)).cell? ⟨w2.heap.size,1,none⟩=some (.slice A' acc.length c'):=(World.cell?_of_block (Below.heap_alloc w4 _ _ hzz)).trans y1
      go_region_law ((refine step_append_lies _ (by rfl) _ _ _ (by rfl) (w2.heap.size+1) 9 i0 (.string ⟨#[]⟩) 1 16 Tryz.underlying24 HI.out.1 HI.out.2.1 HI.out.2.2.1 HI.out.2.2.2 (by rfl) (by omega) (.slice A' acc.length c') acc.length ((dX acc).map .string) (by rfl) (hown4d.alloc _) ⟨w4.heap.size,0,none⟩ 1 1 [.string p] (by rfl) (by rfl) (World.news_of_block (cs:=#[.string p]) (t:=9) (fr:=(0,0)) (World.alloc_heap_new w4.drew _)) (by simp[Value.oneCell']) (by omega) (by unfold maxLen;omega) (by omega) (by simp;omega) (w4.heap.size+1) (by simp) ?_;intro gg cap w7 hown7 hgrow hat hlt7;have hB7:JA w7 w2.heap.size l0 (.slice A' acc.length c') false:=(hgrow.block w2.heap.size (by simp;omega) (fun e=>by have:=fE hown4 _ e.symm;omega)).trans ((Below.heap_alloc w4.drew _ w2.heap.size (show w2.heap.size<w4.heap.size by omega)).trans hB4);clear y0 y1 y2 g0 g1 g2;obtain⟨y0,y1,y2,g0,g1,g2⟩:=hB7.facts))
      all_goals go_wp2
      all_goals
       have hal:(acc++[dG p]).length=acc.length+1:=by simp
       have hb7:Below w.heap.size w w7:=((Below.drew hbw4).alloc hbw4.size _).grown hgrow (by have:=hbw4.size;simp;omega) (fun r e=>by have:=fE hown4 r e;omega)
       have hP7:JA w7 w.heap.size ⟨#[]⟩ (.slice none 0 0) false:=(hgrow.block w.heap.size (by simp;omega) (fun e=>by have:=fE hown4 _ e.symm;omega)).trans ((Below.heap_alloc w4.drew _ _ (show w.heap.size<w4.heap.size by omega)).trans hP4)
       refine⟨⟨k+1,acc++[dG p],some ⟨gg,0,none⟩,cap,false,⟨by go_num,by omega,by simp;omega⟩,Lib.hid (.inl ⟨rfl,HSO.out⟩),by rw[hal];exact Blk.set_ hB7 1 _,(Below.heap_setCell _ _ _ _ (by simp;omega)).trans hP7,by rw[hal,HSL.out,List.map_append];exact rX hown7 (fun j hj=>Below.heap_setCell _ _ _ _ (by simp;omega)),hb7.setCell (p:=⟨w2.heap.size,1,none⟩) (by simp;omega) _,fun j q1=>(Below.heap_setCell _ _ _ _ (by simp;omega)).trans ((hgrow.block j (by simp;omega) (fun e=>by have:=fE hown4 _ e.symm;omega)).trans ((Below.heap_alloc w4.drew _ j (show j<w4.heap.size by omega)).trans (hFr4 j q1))),by have:=hgrow.size;simp[World.setCell]at this ⊢;omega⟩,by simp[intOf];omega⟩
    ·obtain rfl:p=⟨#[42,42]⟩:=fK (by rw[←Lib.toList_data];simpa using h2s)
     by_cases hlast:k+1=m
     ·obtain rfl:m=k+1:=hlast.symm
      have hlb:((k:Int)+1==((k+1:Nat):Int))=true:=by simp
      rw[h2s,show decide (k+1=k+1)=true by simp]at hcmp
      simp only[Bool.and_self,if_true]at hcmp
      have HH:=Lib.hid hcmp
      clear hcmp cP
      go_wp2
      exact⟨⟨k+1,acc,A',c',true,⟨by go_num,by omega,by omega⟩,Lib.hid (.inr ⟨rfl,HM.out,HH.out⟩),Blk.set_ hB 2 (.bool true),(Below.heap_setCell _ _ _ _ (by first | (simp;done) | (simp;omega))).trans hP,rX hown (fun j hj=>Below.heap_setCell _ _ _ _ (by first | (simp;done) | (simp;omega))),hbw.setCell (p:=⟨w2.heap.size,2,none⟩) (by first | (simp;done) | (simp;omega)) _,
       fun j q1=>(Below.heap_setCell _ _ _ _ (by first | (simp;done) | (simp;omega))).trans (hFr j q1),by first | (simp[World.setCell];done) | (simp[World.setCell];omega)⟩,by simp[intOf];omega⟩
     ·have hlb:((k:Int)+1==(m:Int))=false:=by simp;omega
      have HNO:Hid (dK r []=none):=Lib.hid (by rw[hcmp,show decide (k+1=m)=false by simpa using hlast,SH];simp)
      rw[SH]at cP
      have HP:=Lib.hid cP
      clear hcmp cP
      go_wp2_with (go_at_call 189;refine (HP.out _).mono ?_;rintro e w4 ⟨rfl,hb4⟩;have hP4:JA w4 w.heap.size ⟨#[]⟩ (.slice none 0 0) false:=Blk.keep hP hb4;have hB4:JA w4 w2.heap.size l0 (.slice A' acc.length c') false:=Blk.keep hB hb4;have hown4:=fZ hown hb4;have hbw4:=aV hbw hb4;have hFr4:∀ j,j<w2.heap.size→w4.heap[j]? = w2.heap[j]?:=(fun j q1=>(hb4.block j (by omega)).trans (hFr j q1));have hzr4:w2.heap.size+1≤w4.heap.size:=Nat.le_trans hzr hb4.size;have hcell4:=aW hb4 hcell;clear x0 x1 x2 f0 f1 f2 y0 y1 y2 g0 g1 g2;obtain⟨x0,x1,x2,f0,f1,f2⟩:=hP4.facts;obtain⟨y0,y1,y2,g0,g1,g2⟩:=hB4.facts)
      rw[←HV.out,HV2.out,HNO.out]
      exact bodyPost_ret (v:=.tuple #[.agg #[.string ⟨#[]⟩,.slice none 0 0,.bool false],.bool false]) (by simp[results,Tryz.results130,go_sem,hz2,x0,x1,x2,f0,f1,f2]) rfl ⟨aJ,rfl⟩
   ·obtain rfl:k=m:=by omega
    have HE:Hid (dK r []=some (acc,tl)):=Lib.hid (by
     rcases HC.out with ⟨h,e⟩ | ⟨h,_,e⟩
     ·rw[e,h,HM.out,List.drop_eq_nil_of_le (Nat.le_refl _),dK]
     ·rw[e,h])
    have hob:∀ a,A'=some a→a.block≠w.heap.size:=fun a ha=>by have:=fE hown a.block (by rw[ha];rfl);omega
    have hRr:=aI.of_own hown
    clear HC
    go_wp2
    rw[←HV.out,HV2.out,HE.out]
    exact bodyPost_ret (v:=.tuple #[.agg #[.string l0,.slice A' acc.length c',.bool tl],.bool true]) (by simp[results,Tryz.results130,go_sem,hz2,x0,x1,x2,f0,f1,f2]) rfl ⟨aJ,A',c',by rw[HST.out],(((hRr.set_ _ _ hob).set_ _ _ hob).set_ _ _ hob)⟩
theorem RCompPost.any_ {r:Option Pat} {w w':World} {e:Ending} (h:RCompPost r w e w'):Below w.heap.size w w'∧∃ (c:aC) (A:Option Addr) (n k:Nat) (t:Bool),e=.returned (.tuple #[.agg #[.string c,.slice A n k,.bool t],.bool r.isSome]):=by
 obtain⟨hb,h⟩:=h
 cases r with
 | none=>exact⟨hb,_,none,0,0,_,h⟩
 | some x=>obtain⟨A,c,h,_⟩:=h;exact⟨hb,_,A,_,c,_,h⟩
theorem rValid_any (s:aC) (w:World) (hs:s.size≤100000):Calls Tryz.prog 66 #[.string s] w (Ret w (.bool (dI s).isSome)):=by
 have cC:=fun W=>(rCompile_any s W hs).mono (fun e w' h=>h.any_)
 generalize (dI s).isSome=b at *
 have HC:=Lib.hid cC
 clear cC
 go_enter Tryz.func66,Tryz.ntmps66
 go_wp2_with (go_at_call 130;refine (HC.out _).mono ?_;rintro e w1 ⟨hb1,c,A,n,k,t,rfl⟩)
 go_ret
 exact⟨rfl,aJ⟩
end Go.Proofs.YtlkbkclnbppigaaGreatDoor
