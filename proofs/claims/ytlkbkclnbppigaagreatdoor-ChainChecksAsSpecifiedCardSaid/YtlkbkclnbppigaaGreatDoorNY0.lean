/- Plain: an address that is well formed and whose text is not too long is read back from its text. -/
import Derived.Test.YtlkbkclnbppigaaGreatDoorJZ26
set_option maxHeartbeats 8000000
namespace Go.Proofs.YtlkbkclnbppigaaGreatDoor
open Tryz
open Go.RowKit Go.Sort
set_option linter.unusedVariables false
set_option linter.unusedSimpArgs false
set_option maxRecDepth 100000
theorem aLd(s:ByteArray):toB s.data.toList=s:=dP rfl
theorem aLe(l:List UInt8)(x:UInt8)(hx:x≠47):Lib.trimSuffix (l++[x]) [47]=l++[x]:=by
 unfold Lib.trimSuffix;rw[if_neg];unfold Lib.hasSuffix;intro h;rw[List.isSuffixOf_iff_suffix]at h;obtain⟨t,ht⟩:=h;have:=(List.append_inj' ht rfl).2;simp at this;exact hx this.symm
def xO:Pat:=⟨⟨2,⟨#[]⟩⟩,[],true⟩
theorem aLf:mg xO:=⟨.inr ⟨rfl,rfl⟩,(by intro p hp;cases hp),aK⟩
theorem aLg:ku xO=⟨#[42,47,42,42]⟩:=dP (by
 rw[yX,yV,qH]
 rfl)
theorem aLh:dF ⟨#[42,47,42,42]⟩=some xO:=by rw[<-aLg];exact Nq aLf
theorem aLi(a:Adr):kJ xO a=true:=by
 unfold kJ xO;rw[pz];simp[dh]
theorem aLj{a:bn}(h:nC a=true):0<=a.lo/\a.lo<=a.hi/\a.hi<=1099511627776/\bI a.client=true/\dm a.country=true/\ed a.site=true/\iK a.addr=true:=by
 unfold nC at h;simp only[Bool.and_eq_true,decide_eq_true_eq]at h;exact⟨h.2.1,h.2.2.1,h.2.2.2,h.1.1.1.2,h.1.1.2,h.1.2,h.1.1.1.1⟩
section
variable {w:World} {g:Nat} {fr till us:Int} {pat:ByteArray} {A B S:Option Addr} {na ca nb cb ns cs:Nat}
end
def xP(na nb ns:Nat)(pat:ByteArray)(cl co:List ByteArray):Bool:=decide (na<=40)&&decide (nb<=40)&&decide (ns<=70)&&decide (pat.size<=1000)&&cl.all (fun x=>decide (x.size<=100))&&co.all (fun x=>decide (x.size<=100))
theorem Dw{α:Type}{p:α->Bool}{l:List α}{k:Nat}{x:α}(h:(l.take k).all p=true)(hx:l[k]? = some x)(hp:p x=true):(l.take (k+1)).all p=true:=by
 rw[List.take_add_one,hx];simp[h,hp]
theorem Dx{α:Type}{p:α->Bool}{l:List α}{k:Nat}{x:α}(hx:l[k]? = some x)(hp:p x=false):l.all p=false:=by
 exact VV
theorem aLk(fr till us:Int)(pat:ByteArray)(A B S:Option Addr)(na ca nb cb ns cs:Nat)(cl co:List ByteArray)(w:World)(hA:aH w 1 A na (cl.map .string))(hB:aH w 1 B nb (co.map .string)) :
  Calls prog 9 #[.agg #[.int .i64 fr,.int .i64 till,.string pat,.slice A na ca,.slice B nb cb,.slice S ns cs,.int .i64 us]] w (Ret w (.bool (xP na nb ns pat cl co))):=by
 have hna:cl.length=na:=iY;have hnb:co.length=nb:=BN;obtain⟨V,hV⟩:∃ V,V=xP na nb ns pat cl co:=⟨_,rfl⟩;rw[<-hV];unfold xP at hV;have HA:=aB hA;have HB:=aB hB;have HNA:=aB hna;have HNB:=aB hnb;clear hA hB hna hnb;by_cases h1:na<=40;rotate_left
 ·obtain rfl:V=false:=by rw[hV];simp[h1]
  have d1:decide ((40:Int)<(na:Int))=true:=decide_eq_true aA;exact Dy
 have d1:decide ((40:Int)<(na:Int))=false:=decide_eq_false aA;by_cases h2:nb<=40;rotate_left
 ·obtain rfl:V=false:=by rw[hV];simp[h2]
  have d2:decide ((40:Int)<(nb:Int))=true:=decide_eq_true aA;exact Dy
 have d2:decide ((40:Int)<(nb:Int))=false:=decide_eq_false aA;by_cases h3:ns<=70;rotate_left
 ·obtain rfl:V=false:=by rw[hV];simp[h3]
  have d3:decide ((70:Int)<(ns:Int))=true:=decide_eq_true aA;exact Dy
 have d3:decide ((70:Int)<(ns:Int))=false:=decide_eq_false aA;by_cases h4:pat.size<=1000;rotate_left
 ·obtain rfl:V=false:=by rw[hV];simp[h4]
  have d4:decide ((1000:Int)<(pat.size:Int))=true:=decide_eq_true aA;exact Dy
 have d4:decide ((1000:Int)<(pat.size:Int))=false:=decide_eq_false aA;have hv2:V=(cl.all (fun x=>decide (x.size<=100))&&co.all (fun x=>decide (x.size<=100))):=by rw[hV];simp[h1,h2,h3,h4]
 have HV:=aB hv2;clear hV hv2;go_enter func9,ntmps9;go_wp2;have hX0:aV (w.alloc (.cells #[.int .i64 fr,.int .i64 till,.string pat,.slice A na ca,.slice B nb cb,.slice S ns cs,.int .i64 us] 27)) w.heap.size fr till pat A na ca B nb cb S ns cs us:=World.alloc_heap_new _ _;go_loopw [3] (fun vi wr=>∃ k:Nat,vi=.int .i64 k/\k<=na/\Hid ((cl.take k).all (fun x=>decide (x.size<=100))=true)/\aV wr w.heap.size fr till pat A na ca B nb cb S ns cs us/\Below w.heap.size w wr) (fun i _=>na-(intOf i).toNat)
 case atStart=>exact⟨0,rfl,Nat.zero_le _,aB aF,hX0,aU (Below.refl _ _) _⟩
 case round =>
  clear hX0;obtain⟨k,rfl,hk,HK,hX,hbr⟩:=hrel;obtain⟨x0,x1,x2,x3,x4,x5,x6⟩:=hX.facts;by_cases hlt:k<na
  ·obtain⟨x,hx⟩:∃ x,cl[k]? = some x:=⟨_,List.getElem?_eq_getElem BO⟩;obtain⟨b,o,rfl,hcell⟩:=(HA.out.keep hbr).2 aA;have hc1:wr.cell? ⟨b,o+k,none⟩=some (.string x):=hcell k _ dL;have hk0:(0:Int)<=(k:Int):=aA;have hk1:(k:Int)<(na:Int):=aA;by_cases hs:x.size<=100
   ·have HK2:Hid ((cl.take (k+1)).all (fun x=>decide (x.size<=100))=true):=aB (Dw HK.out hx uj);have d5:decide ((100:Int)<(x.size:Int))=false:=decide_eq_false aA;clear hcell hx HK;go_wp2;exact⟨⟨k+1,aj,aA,HK2,hX,hbr⟩,au⟩
   ·obtain rfl:V=false:=by rw[HV.out,Dx hx uj];rfl
    have d5:decide ((100:Int)<(x.size:Int))=true:=decide_eq_true aA;clear hcell hx HK;go_wp2;go_ret;exact⟨rfl,hbr⟩
  ·obtain rfl:k=na:=aA;have hall:cl.all (fun x=>decide (x.size<=100))=true:=by
    have:=HK.out
    rwa [List.take_of_length_le BO]at this
   have hv3:V=co.all (fun x=>decide (x.size<=100)):=JI;have HV2:=aB hv3;clear hall hv3 HK HV;go_wp2;clear x0 x1 x2 x3 x4 x5 x6;obtain⟨wo,rfl⟩:∃ wo:World,wo=wr:=⟨_,rfl⟩;go_loopw [4] (fun vi wz=>∃ j:Nat,vi=.int .i64 j/\j<=nb/\Hid ((co.take j).all (fun x=>decide (x.size<=100))=true)/\aV wz w.heap.size fr till pat A k ca B nb cb S ns cs us/\Below w.heap.size w wz) (fun i _=>nb-(intOf i).toNat)
   case atStart=>exact⟨0,rfl,Nat.zero_le _,aB aF,hX,hbr⟩
   case round =>
    clear hX hbr;obtain⟨j,rfl,hj,HJ,hX,hbr⟩:=hrel;obtain⟨x0,x1,x2,x3,x4,x5,x6⟩:=hX.facts;by_cases hlt2:j<nb
    ·obtain⟨x,hx⟩:∃ x,co[j]? = some x:=⟨_,List.getElem?_eq_getElem (by have:=HNB.out;omega)⟩;obtain⟨b,o,rfl,hcell⟩:=(HB.out.keep hbr).2 aA;have hc1:wr.cell? ⟨b,o+j,none⟩=some (.string x):=hcell j _ dL;have hj0:(0:Int)<=(j:Int):=aA;have hj1:(j:Int)<(nb:Int):=aA;by_cases hs:x.size<=100
     ·have HJ2:Hid ((co.take (j+1)).all (fun x=>decide (x.size<=100))=true):=aB (Dw HJ.out hx uj);have d5:decide ((100:Int)<(x.size:Int))=false:=decide_eq_false aA;clear hcell hx HJ;go_wp2;exact⟨⟨j+1,aj,aA,HJ2,hX,hbr⟩,au⟩
     ·obtain rfl:V=false:=by rw[HV2.out,Dx hx uj]
      have d5:decide ((100:Int)<(x.size:Int))=true:=decide_eq_true aA;clear hcell hx HJ;go_wp2;go_ret;exact⟨rfl,hbr⟩
    ·obtain rfl:j=nb:=aA;have hall:co.all (fun x=>decide (x.size<=100))=true:=by
      have:=HJ.out
      rwa [List.take_of_length_le (by have:=HNB.out;omega)]at this
     obtain rfl:V=true:=by rw[HV2.out,hall]
     go_wp2;go_ret;exact⟨rfl,hbr⟩
theorem aLl(a:bn)(w:World):Calls prog 26 #[bn.val a] w (Ret w (.bool (decide (a.addr.size<=5000)&&decide (a.client.size<=5000)&&decide (a.country.size<=5000)))):=by
 obtain⟨ad,cl,co,si,lo,hi⟩:=a;unfold bn.val;dsimp only;by_cases h1:ad.size<=5000
 ·have d1:decide ((ad.size:Int)<=5000)=true:=decide_eq_true aA;by_cases h2:cl.size<=5000
  ·have d2:decide ((cl.size:Int)<=5000)=true:=decide_eq_true aA;by_cases h3:co.size<=5000
   ·have d3:decide ((co.size:Int)<=5000)=true:=decide_eq_true aA;rw[decide_eq_true h1,decide_eq_true h2,decide_eq_true h3];exact Dz
   ·have d3:decide ((co.size:Int)<=5000)=false:=decide_eq_false aA;rw[decide_eq_true h1,decide_eq_true h2,decide_eq_false h3];exact Dz
  ·have d2:decide ((cl.size:Int)<=5000)=false:=decide_eq_false aA;rw[decide_eq_true h1,decide_eq_false h2];exact Dz
 ·have d1:decide ((ad.size:Int)<=5000)=false:=decide_eq_false aA;rw[decide_eq_false h1];exact Dz
end Go.Proofs.YtlkbkclnbppigaaGreatDoor
namespace Go.Proofs.YtlkbkclnbppigaaGreatDoor.Sha
open Tryz
set_option linter.unusedVariables false
set_option maxRecDepth 100000
theorem pad_len(m:List Nat):(pad m).length % 64=0:=by
 unfold pad bytes8 bytes4;exact RQ
theorem upto_zero(b:List Nat)(s:St):upto b s 0=s:=rfl
end Go.Proofs.YtlkbkclnbppigaaGreatDoor.Sha
namespace Go.Proofs.YtlkbkclnbppigaaGreatDoor
open Tryz
open Go.RowKit Go.Sort
set_option linter.unusedVariables false
set_option linter.unusedSimpArgs false
set_option maxRecDepth 100000
theorem uq(a b:Nat):((a:Int)+b) % 4294967296=((Sha.add32 a b:Nat):Int):=by simp[Sha.add32]
theorem aLm(c:Nat)(w:World)(hc:c<256):Calls prog 167 #[.int .u8 c] w (Ret w (.bool (jf c))):=by
 go_enter func167,ntmps167;go_wp2;all_goals
  go_ret;exact⟨dX OU,aG⟩
def mD(c:Nat)(l:List UInt8):Bool:=l.any fun b=>b.toNat==c
theorem JJ(s:ByteArray)(k:Nat)(h:k<s.size):s.data.toList.take (k+1)=s.data.toList.take k++[s[k]]:=by
 rw[List.take_succ_eq_append_getElem kX];rfl
theorem zg(b:UInt8)(c:Nat):((b.toNat:Int)==(c:Int))=(b.toNat==c):=by
 rw[Bool.eq_iff_iff,beq_iff_eq,beq_iff_eq];omega
theorem aLn(s:ByteArray)(c:Nat)(w:World)(hs:s.size<=4294967281):Calls prog 106 #[.string s,.int .u8 c] w (Ret w (.bool (mD c s.data.toList))):=by
 go_enter func106,ntmps106;go_wp2;go_loop [5] (fun i=>∃ k:Nat,i=.int .i64 k/\k<=s.size/\Hid (mD c (s.data.toList.take k)=false)) (fun i=>s.size-(intOf i).toNat)
 case atStart=>exact⟨0,rfl,Nat.zero_le _,aB (by simp[mD])⟩
 case round =>
  obtain⟨k,rfl,hk,HK⟩:=hrel;by_cases hlt:k<s.size
  ·have ht:mD c (s.data.toList.take (k+1))=(mD c (s.data.toList.take k)||(s[k].toNat==c)):=by rw[JJ s k hlt];simp[mD]
   have hd:=zg s[k] c;cases hb:(s[k].toNat==c)
   ·rw[hb]at ht hd;have HK2:Hid (mD c (s.data.toList.take (k+1))=false):=aB (by rw[ht,HK.out];rfl);clear ht hb HK;go_wp2;go_round
    case rel=>exact⟨k+1,aj,aA,HK2⟩
    case measure=>simp[intOf];omega
   ·rw[hb]at ht hd;have HK2:Hid (mD c s.data.toList=true):=aB (by
     have h2:mD c (s.data.toList.take (k+1))=true:=by rw[ht,Bool.or_true]
     unfold mD at h2 ⊢;rw[List.any_eq_true]at h2 ⊢;obtain⟨x,hx,h3⟩:=h2;exact⟨x,List.mem_of_mem_take hx,h3⟩)
    clear ht hb HK;go_wp2;go_ret;exact⟨dX HK2.out.symm,aG⟩
  ·exact VW
theorem uu(s:ByteArray)(w:World)(hs:s.size<=4294967281):Calls prog 105 #[.string s] w (Ret w (.bool (bC s))):=by
 by_cases h0:s.size=0
 ·have d0:((s.size:Int)==0)=true:=by simp[h0]
  have hv:bC s=false:=by
   have:s.data.toList=[]:=List.eq_nil_of_length_eq_zero yJ;simp[bC,Lib.toList_data,this]
  rw[hv];clear hv h0;exact D5
 have d0:((s.size:Int)==0)=false:=beq_eq_false_iff_ne.2 aA;by_cases h1:s.size<=64;rotate_left
 ·have d1:decide ((64:Int)<(s.size:Int))=true:=decide_eq_true aA;have hv:bC s=false:=by simp[bC,h1]
  rw[hv];clear hv;exact D5
 have d1:decide ((64:Int)<(s.size:Int))=false:=decide_eq_false aA;cases h2:(s.toList == [46])
 rotate_left
 ·have hv:bC s=false:=by simp[bC,h2]
  rw[hv];clear hv;exact D5
 cases h3:(s.toList == [46,46])
 rotate_left
 ·have hv:bC s=false:=by simp[bC,h3]
  rw[hv];clear hv;exact D5
 have hv:bC s=s.data.toList.all fQ:=by
  have:s.toList.isEmpty=false:=by
   rw[Lib.toList_data];cases hl:s.data.toList with
   | nil=>rw[Lib.size_eq,hl]at h0;simp at h0
   | cons _ _=>rfl
  simp[bC,h2,h3,this,h1]
 rw[hv];clear hv;go_enter func105,ntmps105;go_wp2;go_loopw [3] (fun i wr=>∃ k:Nat,i=.int .i64 k/\k<=s.size/\Hid ((s.data.toList.take k).all fQ=true)/\Below w.heap.size w wr) (fun i _=>s.size-(intOf i).toNat)
 case atStart=>exact⟨0,rfl,Nat.zero_le _,aB aF,Below.refl _ _⟩
 case round =>
  obtain⟨k,rfl,hk,HK,hbr⟩:=hrel;by_cases hlt:k<s.size
  ·have ht:(s.data.toList.take (k+1)).all fQ=((s.data.toList.take k).all fQ&&fQ s[k]):=by rw[JJ s k hlt];simp
   have cL:=fun W=>aLm s[k].toNat W (s[k].toNat_lt)
   unfold fQ at ht;generalize jf s[k].toNat=b at *;cases b
   ·have HK2:Hid (s.data.toList.all fQ=false):=aB (by
     have h2:(s.data.toList.take (k+1)).all fQ=false:=by unfold fQ;rw[ht,Bool.and_false]
     rw[List.all_eq_false]at h2 ⊢;obtain⟨x,hx,h3⟩:=h2;exact⟨x,List.mem_of_mem_take hx,h3⟩)
    clear ht HK;have HL:=aB cL;clear cL;go_wp2_with (go_at_call 167;refine (HL.out _).mono ?_;rintro e w1 ⟨rfl,hb1⟩);go_ret;exact⟨dX HK2.out.symm,aG⟩
   ·have HK2:Hid ((s.data.toList.take (k+1)).all fQ=true):=aB (by have:=HK.out;unfold fQ at this ⊢;rw[ht,this];rfl);clear ht HK;have HL:=aB cL;clear cL;go_wp2_with (go_at_call 167;refine (HL.out _).mono ?_;rintro e w1 ⟨rfl,hb1⟩);exact⟨⟨k+1,aj,aA,HK2,aG⟩,au⟩
  ·exact VW
theorem aLo(s:ByteArray):(bC s&&!mD 46 s.data.toList)=bI s:=by
 unfold bI;congr 2;rw[Bool.eq_iff_iff,decide_eq_true_eq];unfold mD;generalize s.data.toList=l;induction l with
 | nil=>simp[Lib.indexByte]
 | cons b l ih =>
  rw[Lib.indexByte,List.any_cons,Bool.or_eq_true];have hb:(b.toNat==46)=true↔(b==46)=true:=by
   rw[beq_iff_eq,beq_iff_eq,<-UInt8.toNat_inj];rfl
  rw[hb,ih];split
  ·simp[*]
  ·split
   ·rename_i h2;simp only[beq_iff_eq]at h2;simp[*]
   ·rename_i h1 h2;simp only[beq_iff_eq]at h2;have : -1<=Lib.indexByte l 46:=by
     rw[<-Lib.index_one];exact Lib.index_ge _ _
    simp only[h1,false_or,Bool.false_eq_true];omega
theorem sV(s:ByteArray)(w:World)(hs:s.size<=4294967281):Calls prog 50 #[.string s] w (Ret w (.bool (bI s))):=by
 have cW:=fun W=>uu s W hs
 have cH:=fun W=>aLn s 46 W hs
 rw[<-aLo];generalize bC s=b at *;generalize mD 46 s.data.toList=h at *;have HH:=aB cH;have HW:=aB cW;clear cH cW;cases b
 ·go_enter func50,ntmps50;go_wp2_with (go_at_call 105;refine (HW.out _).mono ?_;rintro e w1 ⟨rfl,hb1⟩);go_ret;exact⟨rfl,aG⟩
 ·go_enter func50,ntmps50;go_wp2_with (first | (go_at_call 105;refine (HW.out _).mono ?_;rintro e w1 ⟨rfl,hb1⟩) | (go_at_call 106;refine (HH.out _).mono ?_;rintro e w2 ⟨rfl,hb2⟩));go_ret;exact⟨dX aF,aG⟩
theorem VY(s:ByteArray)(k j:Nat):fZ s (k+1) j=if j=k then (if 65<=fZ s k k/\fZ s k k<=90 then fZ s k k+32 else fZ s k k) else fZ s k j:=by
 rw[GN];split
 ·split <;> omega
 ·rfl
theorem aLp(s:ByteArray)(w:World)(hs:s.size<=4294967281):Calls prog 241 #[.string s] w (Ret w (.string ⟨(gz s.data.toList).toArray⟩)):=by
 have hcv:=fun W=>run_bytes_of_string (P:=prog) W 9 105 5 s underlying9 underlying105 underlying5
 go_enter func241,ntmps241;go_wp2;clear hcv;obtain⟨R,hR⟩:∃ R,bytesRow s (grownCap w s.size 0 5)=R:=⟨_,rfl⟩;obtain⟨C,hC⟩:∃ C,grownCap w s.size 0 5=C:=⟨_,rfl⟩;have hrow:∀ j,j<s.size->R[j]? = some (.int .u8 (fZ s 0 j)):=by
  exact Oc
 have hRs:s.size<=R.size:=Oe;rw[hR,hC];clear hR hC;go_loopw [4] (fun i wr=>∃(k:Nat)(R':Array Value),k<=s.size/\i=.int .i64 k/\Blk wr w.heap.size 5 R' (R.size,R.size+1)/\(∀ j,j<s.size->R'[j]? = some (.int .u8 (fZ s k j)))/\Below w.heap.size w wr) (fun i _=>s.size-(intOf i).toNat)
 case atStart=>exact⟨0,R,aA,rfl,heap_alloc_new w _,hrow,aG⟩
 case round =>
  obtain⟨k,R',hk,rfl,hB,hr,hb⟩:=hrel;have H:=aB hr;clear hr hrow;by_cases hlt:k<s.size
  ·have hcell:wr.cell? ⟨w.heap.size,k,none⟩=some (.int .u8 (fZ s k k)):=by rw[hB.cell];exact H.out k hlt
   have hfree:=hB.free k aJ;have hbd:=Ob s k k;go_wp2
   ·refine⟨⟨k+1,_,aA,aj,hB.set_ k _,fun j hj=>?_,aG⟩,au⟩;rw[Array.getElem?_setIfInBounds,VY];exact Og
   all_goals
    refine⟨⟨k+1,_,aA,aj,hB,fun j hj=>?_,hb⟩,au⟩;rw[H.out j hj,VY];by_cases e:j=k
    ·subst e;rw[if_pos rfl,if_neg aA]
    ·rw[if_neg e]
  ·exact Oh
theorem VZ(l:List UInt8)(k:Nat)(hk:k<l.length):l=l.take k++l[k] :: l.drop (k+1):=by
 rw[<-List.drop_eq_getElem_cons hk,List.take_append_drop]
def xQ(s:ByteArray)(c:UInt8):Value:=.tuple #[.string (toB (Lib.cut s.data.toList [c]).1),.string (toB (Lib.cut s.data.toList [c]).2.1),.bool (Lib.cut s.data.toList [c]).2.2]
theorem Va(s:ByteArray)(c:UInt8)(w:World)(hs:s.size<=4294967281):Calls prog 240 #[.string s,.int .u8 c.toNat] w (Ret w (xQ s c)):=by
 go_enter func240,ntmps240;go_wp2;go_loopw [7] (fun i wr=>∃ k:Nat,i=.int .i64 k/\k<=s.size/\Hid (c ∉ s.data.toList.take k)/\Below w.heap.size w wr) (fun i _=>s.size-(intOf i).toNat)
 case atStart=>exact⟨0,rfl,Nat.zero_le _,aB aF,Below.refl _ _⟩
 case round =>
  obtain⟨k,rfl,hk,HK,hbr⟩:=hrel;by_cases hlt:k<s.size
  ·have hd:=zg s[k] c.toNat;have hkl:k<s.data.toList.length:=by rw[<-Lib.size_eq];exact hlt
   have hat:=yH s k hlt;cases hb:(s[k].toNat==c.toNat)
   ·rw[hb]at hd;have hne:s[k] ≠ c:=fun e=>by rw[e]at hb;simp at hb
    have HK2:Hid (c ∉ s.data.toList.take (k+1)):=aB (by
     rw[JJ s k hlt];simp only[List.mem_append,List.mem_singleton,not_or];exact⟨HK.out,fun e=>hne e.symm⟩)
    clear hb HK hat hne;go_wp2;exact⟨⟨k+1,aj,aA,HK2,hbr⟩,au⟩
   ·rw[hb]at hd;have he:s[k]=c:=by rw[beq_iff_eq]at hb;exact UInt8.toNat_inj.1 hb
    have hv:xQ s c=.tuple #[.string (s.extract 0 k),.string (s.extract (k+1) s.size),.bool true]:=by
     have h1:=VZ s.data.toList k hkl;rw[<-hat,he]at h1;have h2:Lib.cut s.data.toList [c]=(s.data.toList.take k,s.data.toList.drop (k+1),true):=by
      conv=>lhs;rw[h1]
      exact Ep _ _ _ HK.out
     unfold xQ;rw[h2];have e1:toB (s.data.toList.take k)=s.extract 0 k:=dP (by rw[Lib.extract_data];simp[toB]);have e2:toB (s.data.toList.drop (k+1))=s.extract (k+1) s.size:=dP (by rw[Lib.extract_to_end];rfl);rw[e1,e2]
    have HV:=aB hv;have hk0:(0:Int)<=(k:Int):=aA;have hk1:(k:Int)+1<=(s.size:Int):=aA;have hk2:(k:Int)<=(s.size:Int):=aA;clear hb HK hat he hv;go_wp2_with fail;go_quiet (fail);go_wp2;go_ret3;rw[HV.out];exact⟨rfl,aG⟩
  ·have hv:xQ s c=.tuple #[.string s,.string ⟨#[]⟩,.bool false]:=by
    have h1:=HK.out;rw[List.take_of_length_le yg]at h1;unfold xQ;rw[Es _ _ h1];rfl
   have HV:=aB hv;clear hv HK;go_wp2;go_ret3;rw[HV.out];exact⟨rfl,aG⟩
def sW(c:UInt8)(l:List UInt8)(k f:Nat)(acc:List ByteArray):Prop:=f<=k/\c ∉ (l.drop f).take (k-f)/\(dJ c l).map toB=acc++(dJ c (l.drop f)).map toB
theorem aLq{c:UInt8}{l:List UInt8}{k f:Nat}{acc:List ByteArray}(h:sW c l k f acc)(hk:k<l.length)(hne:l[k] ≠ c):sW c l (k+1) f acc:=by
 obtain⟨h1,h2,h3⟩:=h;refine⟨aA,?_,h3⟩;have hl:k-f<(l.drop f).length:=JK;rw[show k+1-f=(k-f)+1 by omega,List.take_succ_eq_append_getElem hl];simp only[List.mem_append,List.mem_singleton,not_or];refine⟨h2,?_⟩;rw[List.getElem_drop];intro e;apply hne;rw[e];congr 1;omega
theorem aLr{c:UInt8}{l:List UInt8}{k f:Nat}{acc:List ByteArray}(h:sW c l k f acc)(hk:k<l.length)(he:l[k]=c):sW c l (k+1) (k+1) (acc++[toB ((l.drop f).take (k-f))]):=by
 obtain⟨h1,h2,h3⟩:=h;refine⟨Nat.le_refl _,aF,?_⟩;have hl:k-f<(l.drop f).length:=JK;have hs:=VZ (l.drop f) (k-f) hl;have e1:(l.drop f)[k-f]=c:=by
  rw[List.getElem_drop,<-he];congr 1;omega
 rw[e1,List.drop_drop,show f+(k-f+1)=k+1 by omega]at hs;have hsp:dJ c (l.drop f)=(l.drop f).take (k-f) :: dJ c (l.drop (k+1)):=by
  conv=>lhs;rw[hs]
  exact A8 _ _ _ h2
 rw[h3,hsp];simp
theorem aLs{c:UInt8}{l:List UInt8}{f:Nat}{acc:List ByteArray}(h:sW c l l.length f acc):(dJ c l).map toB=acc++[toB (l.drop f)]:=by
 obtain⟨h1,h2,h3⟩:=h;rw[List.take_of_length_le JK]at h2;rw[h3,BB _ _ h2];rfl
theorem aLt(c:UInt8)(s:ByteArray):splitB c s=(dJ c s.data.toList).map toB:=rfl
theorem JL(s:ByteArray)(c:UInt8)(w:World)(hs:s.size<=4294967281):Calls prog 188 #[.string s,.int .u8 c.toNat] w (BK (splitB c s) w):=by
 obtain⟨i0,hi0,hz0,hz1,hz2⟩:=info_parts oz;have HI:Hid ((prog.info? 9=some i0)/\i0.zero=some (.string ⟨#[]⟩)/\i0.size=1/\i0.bytes=16):=aB ⟨hi0,hz0,hz1,hz2⟩;clear hi0 hz0 hz1 hz2;have hsl:s.data.toList.length=s.size:=(Lib.size_eq s).symm;have HSL:=aB hsl;clear hsl;go_enter func188,ntmps188;go_wp2;go_loopw [5,6,7] (fun vo vf vi wr=>∃(k f n:Nat)(acc:List ByteArray)(A:Option Addr)(c':Nat),(vi=.int .i64 k/\vf=.int .i64 f/\vo=.slice A n c'/\k<=s.size/\f<=k/\n<=k)/\Hid (sW c s.data.toList k f acc/\acc.length=n)/\wr.ownsRow w.heap.size 9 1 (.slice A n c') n (acc.map .string)/\Below w.heap.size w wr) (fun _ _ i _=>s.size-(intOf i).toNat)
 case atStart=>exact⟨0,0,0,[],none,0,⟨rfl,rfl,rfl,Nat.zero_le _,Nat.le_refl _,Nat.le_refl _⟩,aB ⟨⟨Nat.le_refl _,aF,aF⟩,rfl⟩,World.ownsRow_nil _ _ _ _,Below.refl _ _⟩
 case round =>
  obtain⟨k,f,n,acc,A,c',⟨rfl,rfl,rfl,hk,hf,hn⟩,HK,hown,hbr⟩:=hrel;have hbs:=hbr.size;by_cases hlt:k<s.size
  ·have hd:=zg s[k] c.toNat;have hkl:k<s.data.toList.length:=by rw[HSL.out];exact hlt
   have hat:=yH s k hlt;cases hb:(s[k].toNat==c.toNat)
   ·rw[hb]at hd;have hne:s.data.toList[k] ≠ c:=fun e=>by rw[<-hat]at e;rw[e]at hb;simp at hb
    have HK2:Hid (sW c s.data.toList (k+1) f acc/\acc.length=n):=aB ⟨aLq HK.out.1 hkl hne,HK.out.2⟩;clear hb HK hat hne hkl;go_wp2;exact⟨⟨k+1,f,n,acc,A,c',⟨aj,rfl,rfl,aA,aA,aA⟩,HK2,hown,hbr⟩,au⟩
   ·rw[hb]at hd;have he:s.data.toList[k]=c:=by rw[<-hat];rw[beq_iff_eq]at hb;exact UInt8.toNat_inj.1 hb
    have hpc:toB ((s.data.toList.drop f).take (k-f))=s.extract f k:=dP (by rw[Lib.extract_data];rfl);have hhit:=aLr HK.out.1 hkl he;rw[hpc]at hhit;have HK2:Hid (sW c s.data.toList (k+1) (k+1) (acc++[s.extract f k])/\(acc++[s.extract f k]).length=n+1):=aB ⟨hhit,by simp[HK.out.2]⟩;have hk0:(0:Int)<=(f:Int):=aA;have hk1:(f:Int)<=(k:Int):=aA;have hk2:(k:Int)<=(s.size:Int):=aA;clear hb HK hat he hkl hpc hhit;go_wp2_with (at_builtin;refine wpList_append_own _ rfl _ _ 24 rfl w.heap.size 9 i0 (.string ⟨#[]⟩) 1 16 underlying24 HI.out.1 HI.out.2.1 HI.out.2.2.1 HI.out.2.2.2 rfl aK _ _ _ rfl (hown.alloc _) ⟨wr.heap.size,0,none⟩ 1 1 [.string (s.extract f k)] rfl rfl (cell_one_new _ _ _) fG cZ aA aJ ?_;intro v' w3 hown' hgrow _;obtain⟨g',cap',rfl⟩:=ownsRow_succ hown');exact⟨⟨k+1,k+1,n+1,acc++[s.extract f k],some ⟨g',0,none⟩,cap',⟨aj,aj,rfl,aA,aA,aA⟩,HK2,FN,(hbr.alloc hbs _).grown hgrow aJ (fun r e=>dK hown r e)⟩,au⟩
  ·obtain rfl:k=s.size:=aA;have hpc:toB (s.data.toList.drop f)=s.extract f s.size:=dP (by rw[Lib.extract_to_end];rfl);have hend:splitB c s=acc++[s.extract f s.size]:=by
    rw[aLt,<-hpc];exact aLs (by rw[HSL.out];exact HK.out.1)
   have hlen:(splitB c s).length=n+1:=by rw[hend];simp[HK.out.2]
   have HEND:=aB hend;have HLEN:=aB hlen;have hk0:(0:Int)<=(f:Int):=aA;have hk1:(f:Int)<=(s.size:Int):=aA;clear hpc hend hlen HK;go_wp2_with (at_builtin;refine wpList_append_own _ rfl _ _ 24 rfl w.heap.size 9 i0 (.string ⟨#[]⟩) 1 16 underlying24 HI.out.1 HI.out.2.1 HI.out.2.2.1 HI.out.2.2.2 rfl aK _ _ _ rfl (hown.alloc _) ⟨wr.heap.size,0,none⟩ 1 1 [.string (s.extract f s.size)] rfl rfl (cell_one_new _ _ _) fG cZ aA aJ ?_;intro v' w3 hown' hgrow _;obtain⟨g',cap',rfl⟩:=ownsRow_succ hown');go_ret;refine⟨some ⟨g',0,none⟩,cap',by rw[HLEN.out];rfl,?_,(hbr.alloc hbs _).grown hgrow aJ (fun r e=>dK hown r e)⟩;rw[HLEN.out,HEND.out,List.map_append];exact hown'
def oI(w:World)(g:Nat)(c:ByteArray)(P:Option Addr)(np cp:Nat)(Q:Option Addr)(nq cq:Nat):Prop:=Blk w g 200 #[.string c,.slice P np cp,.slice Q nq cq] (0,0)
theorem aLu(c:ByteArray)(xs:List ByteArray)(k:Nat)(x:ByteArray)(h:xs[k]? = some x):toB (jB c xs k)++⟨#[47]⟩++x=toB (jB c xs (k+1)):=by
 rw[Ia c xs k x h];exact dP (by simp[toB])
theorem aLv(c:ByteArray)(xs:List ByteArray)(qs:List (ByteArray × ByteArray))(k:Nat)(q:ByteArray × ByteArray)(h:qs[k]? = some q):toB (iJ c xs qs k)++oH k++q.1++⟨#[61]⟩++q.2=toB (iJ c xs qs (k+1)):=by
 rw[Ib c xs qs k q h];exact dP (by simp[toB])
theorem Vb(c:ByteArray)(P Q:Option Addr)(np cp nq cq:Nat)(xs:List ByteArray)(qs:List (ByteArray × ByteArray))(w:World)(hP:aH w 1 P np (xs.map .string))(hQ:aH w 2 Q nq (dS qs))(htot:(W06 c xs qs).length<=1000000000) :
  Calls prog 259 #[.agg #[.string c,.slice P np cp,.slice Q nq cq]] w (Ret w (.string (toB (W06 c xs qs)))):=by
 have hnp:xs.length=np:=Di;have hnq:qs.length=nq:=Dj;have hc0:toB (jB c xs 0)=c:=by simp[jB,dO,toB]
 have hend1:=Ul c xs qs np aA;have hend2:=Um c xs qs nq aA;have HP:=aB hP;have HQ:=aB hQ;have HNP:=aB hnp;have HNQ:=aB hnq;have HC0:=aB hc0;have HE1:=aB hend1;have HE2:=aB hend2;have HT:=aB htot;have hnp9:np<=1000000000:=by
  exact U4
 have hnq9:nq<=1000000000:=by
  have:=Ig 63 (dW qs);simp only[W06,lW,List.length_append]at htot;simp only[dW,List.length_map]at this htot;omega
 clear hP hQ hnp hnq hc0 hend1 hend2 htot;go_enter func259,ntmps259;go_wp2;have hX0:oI (w.alloc (.cells #[.string c,.slice P np cp,.slice Q nq cq] 200)) w.heap.size c P np cp Q nq cq:=World.alloc_heap_new _ _;go_loopw [3,4] (fun vs vi wr=>∃ k:Nat,vi=.int .i64 k/\k<=np/\vs=.string (toB (jB c xs k))/\oI wr w.heap.size c P np cp Q nq cq/\Below w.heap.size w wr) (fun _ i _=>np-(intOf i).toNat)
 case atStart=>exact⟨0,rfl,Nat.zero_le _,by rw[HC0.out],hX0,aU (Below.refl _ _) _⟩
 case round =>
  clear hX0;obtain⟨k,rfl,hk,rfl,hX,hbr⟩:=hrel;have x1:wr.cell? ⟨w.heap.size,1,none⟩=some (.slice P np cp):=Blk.cell hX 1;have x2:wr.cell? ⟨w.heap.size,2,none⟩=some (.slice Q nq cq):=Blk.cell hX 2;by_cases hlt:k<np
  ·obtain⟨x,hx⟩:∃ x,xs[k]? = some x:=⟨_,List.getElem?_eq_getElem (by have:=HNP.out;omega)⟩;obtain⟨b,o,rfl,hcell⟩:=(HP.out.keep hbr).2 aA;have hc1:wr.cell? ⟨b,o+k,none⟩=some (.string x):=hcell k _ dL;have HS:=aB (aLu c xs k x hx);have hz1:(toB (jB c xs k)).size<=1000000000:=by rw[nK];have:=Ug c xs qs k;have:=HT.out;omega
   have hz2:x.size<=1000000000:=by have:=Iy c xs qs x (List.mem_of_getElem? hx);have:=HT.out;omega
   generalize toB (jB c xs k)=S at *;clear hcell hx;go_wp2;exact⟨⟨k+1,aj,aA,congrArg Value.string HS.out,hX,hbr⟩,au⟩
  ·obtain rfl:k=np:=aA;have he:=HE1.out;rw[he];clear he HE1;go_wp2;clear x1 x2;obtain⟨wo,rfl⟩:∃ wo:World,wo=wr:=⟨_,rfl⟩;go_loopw [3,5] (fun vs vi wz=>∃ j:Nat,vi=.int .i64 j/\j<=nq/\vs=.string (toB (iJ c xs qs j))/\oI wz w.heap.size c P k cp Q nq cq/\Below w.heap.size w wz) (fun _ i _=>nq-(intOf i).toNat)
   case atStart=>exact⟨0,rfl,Nat.zero_le _,rfl,hX,hbr⟩
   case round =>
    clear hX hbr;obtain⟨j,rfl,hj,rfl,hX,hbr⟩:=hrel;have x2:wr.cell? ⟨w.heap.size,2,none⟩=some (.slice Q nq cq):=Blk.cell hX 2;by_cases hlt2:j<nq
    ·obtain⟨q,hq⟩:∃ q,qs[j]? = some q:=⟨_,List.getElem?_eq_getElem (by have:=HNQ.out;omega)⟩;obtain⟨b,o,rfl,hcell⟩:=(HQ.out.keep hbr).2 aA;obtain⟨e1,e2⟩:=um qs j q hq;have hc1:wr.cell? ⟨b,o+j*2,none⟩=_:=hcell _ _ e1;have hc2:wr.cell? ⟨b,o+j*2+1,none⟩=_:=hcell _ _ e2;have hadd:=aLv c xs qs j q hq;have hz1:(toB (iJ c xs qs j)).size<=1000000000:=by rw[nK];have:=Uj c xs qs j;have:=HT.out;omega
     have hz2:q.1.size<=1000000000/\q.2.size<=1000000000:=by have:=Iz c xs qs q (List.mem_of_getElem? hq);have:=HT.out;omega
     obtain⟨hz2,hz3⟩:=hz2;obtain⟨qk,qv⟩:=q;dsimp only at hc1 hc2 hadd hz2 hz3;have hj0:(0:Int)<=(j:Int):=aA;have hj1:(j:Int)<(nq:Int):=aA;clear hcell hq e1 e2;by_cases h0:j=0
     ·subst h0;simp only[Nat.zero_mul,Nat.add_zero]at hc1 hc2;have HS:Hid (toB (iJ c xs qs 0)++⟨#[63]⟩++qk++⟨#[61]⟩++qv=toB (iJ c xs qs (0+1))):=aB hadd;generalize toB (iJ c xs qs 0)=S at *;exact Vd
     ·have HS:Hid (toB (iJ c xs qs j)++⟨#[38]⟩++qk++⟨#[61]⟩++qv=toB (iJ c xs qs (j+1))):=aB (by simpa[oH,h0] using hadd);have hd:((j:Int)==0)=false:=beq_eq_false_iff_ne.2 aA;generalize toB (iJ c xs qs j)=S at *;exact Vd
    ·obtain rfl:j=nq:=aA;have he:=HE2.out;rw[he];go_wp2;go_ret;exact⟨rfl,hbr⟩
def leS(s x:ByteArray):Bool:=Op.bytesLess s.toList x.toList||s.toList==x.toList
theorem aLw{α β:Type}(f:β->α->β)(b:β){l:List α}{k:Nat}{x:α}(hx:l[k]? = some x):(l.take (k+1)).foldl f b=f ((l.take k).foldl f b) x:=by
 rw[List.take_add_one,hx];simp
attribute [local go_sem] Oper.semAt_some
theorem aLx{xs:List Int}{k:Nat}{u:Value}(h:(xs.map (Value.int .i64))[k]? = some u):∃ x,xs[k]? = some x/\u=.int .i64 x:=by
 exact OY
attribute [local go_sem] Oper.semAt_some
theorem aLy(n:Nat)(h:n<256):((UInt8.ofNat n).toNat:Int)=(n:Int):=by
 have:(UInt8.ofNat n).toNat=n:=aJ;rw[this]
theorem aLz(k:aY)(w:World):Calls prog 31 #[k.val] w (Ret w (.bool (jG k))):=by
 obtain⟨V,hV⟩:∃ V,V=jG k:=⟨_,rfl⟩;rw[<-hV];unfold jG at hV;have HV:=aB hV;clear hV;obtain⟨p,s,sc,fr,ti⟩:=k;unfold aY.val;dsimp only at *;go_enter func31,ntmps31;go_wp2;all_goals (go_ret;exact⟨dX zh,aG⟩)
theorem aMa(a b:aY)(w:World):Calls prog 60 #[a.val,b.val] w (Ret w (.bool (lF a b))):=by
 obtain⟨V,hV⟩:∃ V,V=lF a b:=⟨_,rfl⟩;rw[<-hV];unfold lF at hV;have HV:=aB hV;clear hV;unfold aY.val;go_enter func60,ntmps60;go_wp2;all_goals (go_ret;exact⟨dX zh,aG⟩)
theorem aMb(k:aY)(lo hi:Int)(w:World):Calls prog 40 #[k.val,jF lo hi] w (Ret w (.bool (jH k lo hi))):=by
 obtain⟨V,hV⟩:∃ V,V=jH k lo hi:=⟨_,rfl⟩;rw[<-hV];unfold jH at hV;have HV:=aB hV;clear hV;unfold aY.val jF;go_enter func40,ntmps40;go_wp2;all_goals (go_ret;exact⟨dX zh,aG⟩)
section
variable {P:Program}
theorem aMc{o:Oper}{a:Act}{w:World}{K:Act->World->Prop}{Q:Exit->Act->World->Prop}(t:TypeId)(parts:Array (Nat × Operand))(ho:o.op=.build t parts)(ps:Array (Nat × Value))(hp:(parts.map fun (i,x)=>(i,a.eval x))=ps)
  (v:Value) (hr:(Instr.build t ps).run P w=.ok v w) (h:K (a.put o.dst v) w):o.wp P a w K Q:=by
 exact VG
theorem JM{ops:Array Oper}{rest:List Oper}{o:Oper}{a:Act}{w:World}{Q:Exit->Act->World->Prop}(hgd:o.guard=none)(t:TypeId)(parts:Array (Nat × Operand))(ho:o.op=.build t parts)(ps:Array (Nat × Value))(hp:(parts.map fun (i,x)=>(i,a.eval x))=ps)
  (v:Value) (hr:(Instr.build t ps).run P w=.ok v w) (h:wpList P ops Q rest (a.put o.dst v) w):wpList P ops Q (o :: rest) a w :=
 wpList_plain hgd fun _ hK=>aMc t parts ho ps hp v hr (hK _ _ h)
end
theorem aMd(x n:Nat)(hx:x<4294967296)(h2:n<=32):bits .or .u32 ((x:Int) / 2 ^ n) ((x:Int)*2 ^ (32-n) % 4294967296)=((Sha.rot x n:Nat):Int):=by
 have h:=u32_or_nat (x / 2 ^ n) (x*2 ^ (32-n) % 4294967296) (Nat.lt_of_le_of_lt (Nat.div_le_self _ _) hx) (Nat.mod_lt _ aK);have e1:((x*2 ^ (32-n) % 4294967296:Nat):Int)=(x:Int)*2 ^ (32-n) % 4294967296:=aF;have e2:((x / 2 ^ n:Nat):Int)=(x:Int) / 2 ^ n:=aF;rw[e1,e2]at h;exact h
theorem pU(x n:Nat)(w:World)(hx:x<4294967296)(h1:1<=n)(h2:n<=31):Calls prog 238 #[.int .u32 (x:Int),.int .i64 (n:Int)] w (Ret w (.int .u32 (Sha.rot x n:Nat))):=by
 have hr:=aB (aMd x n hx aA);have hs:IntKind.i64.wrap (32-(n:Int))=((32-n:Nat):Int):=by rw[show (32-(n:Int))=((32-n:Nat):Int) by omega];exact IntWalk.i64_in _ aA
 have hs2:(32-(n:Int)).toNat=32-n:=aA;have hs3:(0:Int)<=32-(n:Int):=aA;go_enter func238,ntmps238;go_wp2;go_quiet (fail);go_wp2;go_ret;exact⟨by rw[hr.out];rfl,aG⟩
theorem JO(a x i:Nat)(hx:x<2 ^ i):(a*2 ^ i)|||x=a*2 ^ i+x:=by
 have:=Nat.two_pow_add_eq_or_of_lt (i:=i) (b:=x) hx a;rw[Nat.mul_comm]at this;exact this.symm
theorem aMe(a b c d:Nat)(ha:a<256)(hb:b<256)(hc:c<256)(hd:d<256):bits .or .u32 (bits .or .u32 (bits .or .u32 ((a:Int)*16777216) ((b:Int)*65536)) ((c:Int)*256)) (d:Int)=((((a*256+b)*256+c)*256+d:Nat):Int):=by
 have h1:=u32_or_nat (a*16777216) (b*65536) aA aA;rw[show a*16777216|||b*65536=a*16777216+b*65536 by
  have:=JO a (b*65536) 24 aA;rw[show (2:Nat) ^ 24=16777216 by decide]at this;exact this]at h1
 have h2:=u32_or_nat (a*16777216+b*65536) (c*256) aA aA;rw[show a*16777216+b*65536|||c*256=a*16777216+b*65536+c*256 by
  have:=JO (a*256+b) (c*256) 16 aA;rw[show (2:Nat) ^ 16=65536 by decide,show (a*256+b)*65536=a*16777216+b*65536 by omega]at this;exact this]at h2
 have h3:=u32_or_nat (a*16777216+b*65536+c*256) d aA aA;rw[show a*16777216+b*65536+c*256|||d=a*16777216+b*65536+c*256+d by
  have:=JO ((a*256+b)*256+c) d 8 aA;rw[show (2:Nat) ^ 8=256 by decide,show ((a*256+b)*256+c)*256=a*16777216+b*65536+c*256 by omega]at this;exact this]at h3
 have e1:((a*16777216:Nat):Int)=(a:Int)*16777216:=aF;have e2:((b*65536:Nat):Int)=(b:Int)*65536:=aF;have e3:((c*256:Nat):Int)=(c:Int)*256:=aA;rw[e1,e2]at h1;rw[e3]at h2;rw[h1,h2,h3];congr 1;omega
theorem oJ(a b:Nat):IntKind.u32.wrap ((a:Int)+b)=((Sha.add32 a b:Nat):Int):=by
 rw[IntKind.wrap_u32];unfold Sha.add32;omega
theorem aMf(A:Option Addr)(c:Nat)(b:List Nat)(w:World)(hR:aH w 1 A 64 (b8 b))(hb:∀ x∈b,x<256) :
  Calls prog 237 #[.slice A 64 c] w (Ret w (.agg (w32 (Sha.sched b)).toArray)):=by
 obtain⟨bb,bo,rfl,hcell⟩:=hR.2 aK;have hbl:b.length=64:=Dp;have hlt:bb<w.heap.size:=by
  have:=hcell 0 _ (lT b (k:=0) aA);exact bf this
 have hS:=U9 hb;generalize Sha.sched b=S at *;have HS:=aB hS;have HB:=aB hb;have HL:=aB hbl;have HC:=aB (fun k hk=>hcell k _ (lT b (k:=k) hk));clear hR hb hbl hcell hS;go_enter func237,ntmps237;go_wp2;go_loopw [4] (fun i wr=>∃ t:Nat,t<=16/\i=.int .i64 t/\Hid (ah wr (w.heap.size+1) 265 (pre S t))/\Hid (ah wr w.heap.size 265 (pre S 0))/\Below w.heap.size w wr) (fun i _=>16-(intOf i).toNat)
 case atStart =>
  exact VC
 case round =>
  obtain⟨t,ht,rfl,HW,HZ,hbw⟩:=hrel;have hsz:w.heap.size+1<wr.heap.size:=HW.out.lt;by_cases h16:t<16
  ·obtain⟨wd,hwd⟩:∃ x:World,x=wr.drew:=⟨_,rfl⟩;have hbd:Below w.heap.size w wd:=by rw[hwd];exact hbw.drew
   have hp:∀ j,j<4->wd.cell? ⟨bb,bo+(4*t+j),none⟩=some (.int .u8 (b.getD (4*t+j) 0:Nat)):=fun j hj=>aP hbd (HC.out (4*t+j) dR)
   have y0:=hp 0 aA;have y1:=hp 1 aA;have y2:=hp 2 aA;have y3:=hp 3 aA;clear hp;rw[Nat.add_zero]at y0;have l0:=Sha.getD_lt HB.out (4*t);have l1:=Sha.getD_lt HB.out (4*t+1);have l2:=Sha.getD_lt HB.out (4*t+2);have l3:=Sha.getD_lt HB.out (4*t+3);have hlo:=HS.out.lo t h16;rw[Sha.part4]at hlo;unfold Sha.word at hlo;simp only[Sha.getD_drop,Nat.add_zero]at hlo;have hor:=aMe _ _ _ _ l0 l1 l2 l3;rw[<-hlo]at hor;clear hlo;have HN:Hid (∀ W,ah W (w.heap.size+1) 265 (pre S t)->ah (W.setCell ⟨w.heap.size+1,t,none⟩ (.int .u32 (S.getD t 0:Nat))) (w.heap.size+1) 265 (pre S (t+1))):=aB fun W h=>by
    have:=h.set_ t (S.getD t 0);rw[Dn HS.out.len aA]at this;exact this
   have c5:wd.cell? ⟨w.heap.size+1,t,none⟩=some (.int .u32 ((pre S t).getD t 0:Nat)):=by rw[hwd];exact HW.out.cell (k:=t) xG
   have f5:wd.frozen? ⟨w.heap.size+1,t,none⟩=false:=by rw[hwd];exact HW.out.free t
   have HWd:Hid (ah wd (w.heap.size+1) 265 (pre S t)):=aB (by rw[hwd];exact HW.out);have HZd:Hid (ah wd w.heap.size 265 (pre S 0)):=aB (by rw[hwd];exact HZ.out);generalize b.getD (4*t) 0=x0 at *;generalize b.getD (4*t+1) 0=x1 at *;generalize b.getD (4*t+2) 0=x2 at *;generalize b.getD (4*t+3) 0=x3 at *;generalize S.getD t 0=xs at *;have HWD:=aB hwd;clear hwd;obtain⟨q0,hq0⟩:∃ q,q=4*t:=⟨_,rfl⟩;obtain⟨q1,hq1⟩:∃ q,q=4*t+1:=⟨_,rfl⟩;obtain⟨q2,hq2⟩:∃ q,q=4*t+2:=⟨_,rfl⟩;obtain⟨q3,hq3⟩:∃ q,q=4*t+3:=⟨_,rfl⟩;have n0:IntKind.i64.wrap (4*(t:Int))=(q0:Int):=by rw[show 4*(t:Int)=(q0:Int) by omega];exact IntWalk.i64_in _ aA
   have n1:IntKind.i64.wrap ((q0:Int)+1)=(q1:Int):=by rw[show (q0:Int)+1=(q1:Int) by omega];exact IntWalk.i64_in _ aA
   have n2:IntKind.i64.wrap ((q0:Int)+2)=(q2:Int):=by rw[show (q0:Int)+2=(q2:Int) by omega];exact IntWalk.i64_in _ aA
   have n3:IntKind.i64.wrap ((q0:Int)+3)=(q3:Int):=by rw[show (q0:Int)+3=(q3:Int) by omega];exact IntWalk.i64_in _ aA
   have m0:(q0:Int)<64:=aA;have m1:(q1:Int)<64:=aA;have m2:(q2:Int)<64:=aA;have m3:(q3:Int)<64:=aA;rw[<-hq0]at y0;rw[<-hq1]at y1;rw[<-hq2]at y2;rw[<-hq3]at y3;have z0:(0:Int)<=(q0:Int):=aA;have z1:(0:Int)<=(q1:Int):=aA;have z2:(0:Int)<=(q2:Int):=aA;have z3:(0:Int)<=(q3:Int):=aA;clear hq0 hq1 hq2 hq3;have v0:IntKind.u32.wrap (x0:Int)=x0:=IntWalk.u32_in _ aA;have v1:IntKind.u32.wrap (x1:Int)=x1:=IntWalk.u32_in _ aA;have v2:IntKind.u32.wrap (x2:Int)=x2:=IntWalk.u32_in _ aA;have v3:IntKind.u32.wrap (x3:Int)=x3:=IntWalk.u32_in _ aA;have v4:IntKind.u32.wrap ((x0:Int)*16777216)=x0*16777216:=IntWalk.u32_in _ aA;have v5:IntKind.u32.wrap ((x1:Int)*65536)=x1*65536:=IntWalk.u32_in _ aA;have v6:IntKind.u32.wrap ((x2:Int)*256)=x2*256:=IntWalk.u32_in _ aA;have m4:(t:Int)<64:=aA;have z4:(0:Int)<=(t:Int):=aA;go_wp2_with fail;refine wp_region_still_tail 35 aC aC ?_;simp only[List.take_succ_cons,List.take_zero,List.drop_succ_cons,List.drop_zero];change wpStill _ _ wr.drew _ _ _;rw[<-HWD.out];repeat still_step
   refine wpStill_nil ?_;change wpList _ _ _ _ _ wr.drew;rw[<-HWD.out];go_wp2_with fail;exact⟨⟨t+1,aA,aj,aB (HN.out _ HWd.out),aB (HZd.out.far _ _ aF),aG⟩,au⟩
  ·have ht16:t=16:=aA;have HW16:Hid (ah wr (w.heap.size+1) 265 (pre S 16)):=aB (by have:=HW.out;rw[ht16]at this;exact this);have d16:decide ((t:Int)<16)=false:=decide_eq_false aA;generalize (t:Int)=tI at *;clear ht h16 ht16 HW;go_wp2_with fail;obtain⟨wo,rfl⟩:∃ wo:World,wo=wr:=⟨_,rfl⟩;go_loopw [5] (fun i wr=>∃ t:Nat,16<=t/\t<=64/\i=.int .i64 t/\Hid (ah wr (w.heap.size+1) 265 (pre S t))/\Hid (ah wr w.heap.size 265 (pre S 0))/\Below w.heap.size w wr) (fun i _=>64-(intOf i).toNat)
   case atStart=>exact⟨16,aA,aA,rfl,HW16,HZ,hbw⟩
   case round =>
    obtain⟨t,h16,ht,rfl,HW,HZ,hbw⟩:=hrel;have hsz:w.heap.size+1<wr.heap.size:=HW.out.lt;by_cases h64:t<64
    ·have g1:∀ k,k<t->(pre S t).getD k 0=S.getD k 0:=fun k hk=>sU HS.out.len hk ht
     have g2:(pre S t).length=64:=pR HS.out.len ht;have hi:=HS.out.hi t h16 h64;have l1:=HS.out.lt (t-15);have l2:=HS.out.lt (t-2);have l3:=HS.out.lt (t-16);have l4:=HS.out.lt (t-7);have HN:Hid (∀ W,ah W (w.heap.size+1) 265 (pre S t)->ah (W.setCell ⟨w.heap.size+1,t,none⟩ (.int .u32 (S.getD t 0:Nat))) (w.heap.size+1) 265 (pre S (t+1))):=aB fun W h=>by
      have:=h.set_ t (S.getD t 0);rw[Dn HS.out.len h64]at this;exact this
     obtain⟨t15,ht15⟩:∃ q,q=t-15:=⟨_,rfl⟩;obtain⟨t2,ht2⟩:∃ q,q=t-2:=⟨_,rfl⟩;obtain⟨t16,ht16⟩:∃ q,q=t-16:=⟨_,rfl⟩;obtain⟨t7,ht7⟩:∃ q,q=t-7:=⟨_,rfl⟩;rw[<-ht15]at hi l1;rw[<-ht2]at hi l2;rw[<-ht16]at hi l3;rw[<-ht7]at hi l4;have n1:IntKind.i64.wrap ((t:Int)-15)=(t15:Int):=by rw[show (t:Int)-15=(t15:Int) by omega];exact IntWalk.i64_in _ aA
     have n2:IntKind.i64.wrap ((t:Int)-2)=(t2:Int):=by rw[show (t:Int)-2=(t2:Int) by omega];exact IntWalk.i64_in _ aA
     have n3:IntKind.i64.wrap ((t:Int)-16)=(t16:Int):=by rw[show (t:Int)-16=(t16:Int) by omega];exact IntWalk.i64_in _ aA
     have n4:IntKind.i64.wrap ((t:Int)-7)=(t7:Int):=by rw[show (t:Int)-7=(t7:Int) by omega];exact IntWalk.i64_in _ aA
     have C1:Hid (∀ W,ah W (w.heap.size+1) 265 (pre S t)->W.cell? ⟨w.heap.size+1,t15,none⟩=some (.int .u32 (S.getD t15 0:Nat))):=aB fun W h=>by have:=h.cell (k:=t15) aA;rw[g1 t15 aA]at this;exact this
     have C2:Hid (∀ W,ah W (w.heap.size+1) 265 (pre S t)->W.cell? ⟨w.heap.size+1,t2,none⟩=some (.int .u32 (S.getD t2 0:Nat))):=aB fun W h=>by have:=h.cell (k:=t2) aA;rw[g1 t2 aA]at this;exact this
     have C3:Hid (∀ W,ah W (w.heap.size+1) 265 (pre S t)->W.cell? ⟨w.heap.size+1,t16,none⟩=some (.int .u32 (S.getD t16 0:Nat))):=aB fun W h=>by have:=h.cell (k:=t16) aA;rw[g1 t16 aA]at this;exact this
     have C4:Hid (∀ W,ah W (w.heap.size+1) 265 (pre S t)->W.cell? ⟨w.heap.size+1,t7,none⟩=some (.int .u32 (S.getD t7 0:Nat))):=aB fun W h=>by have:=h.cell (k:=t7) aA;rw[g1 t7 aA]at this;exact this
     have C5:Hid (∀ W,ah W (w.heap.size+1) 265 (pre S t)->W.cell? ⟨w.heap.size+1,t,none⟩=some (.int .u32 ((pre S t).getD t 0:Nat))):=aB fun W h=>h.cell (k:=t) aA
     have b1:(t15:Int)<64:=aA;have b2:(t2:Int)<64:=aA;have b3:(t16:Int)<64:=aA;have b4:(t7:Int)<64:=aA;have b5:(t:Int)<64:=aA;have u1:(0:Int)<=(t15:Int):=aA;have u2:(0:Int)<=(t2:Int):=aA;have u3:(0:Int)<=(t16:Int):=aA;have u4:(0:Int)<=(t7:Int):=aA;have u5:(0:Int)<=(t:Int):=aA;have d1:decide ((t:Int)<64)=true:=decide_eq_true b5;clear ht15 ht2 ht16 ht7 g1 g2;generalize S.getD t 0=x0 at *;generalize S.getD t15 0=p at *;generalize S.getD t2 0=q at *;generalize S.getD t16 0=x3 at *;generalize S.getD t7 0=x4 at *;have r1:=aB (show ∀ W:World,Calls prog 238 #[.int .u32 (p:Int),.int .i64 7] W (Ret W (.int .u32 (Sha.rot p 7:Nat))) from fun W=>pU p 7 W l1 aA aA);have r2:=aB (show ∀ W:World,Calls prog 238 #[.int .u32 (p:Int),.int .i64 18] W (Ret W (.int .u32 (Sha.rot p 18:Nat))) from fun W=>pU p 18 W l1 aA aA);have r3:=aB (show ∀ W:World,Calls prog 238 #[.int .u32 (q:Int),.int .i64 17] W (Ret W (.int .u32 (Sha.rot q 17:Nat))) from fun W=>pU q 17 W l2 aA aA);have r4:=aB (show ∀ W:World,Calls prog 238 #[.int .u32 (q:Int),.int .i64 19] W (Ret W (.int .u32 (Sha.rot q 19:Nat))) from fun W=>pU q 19 W l2 aA aA);have x1:=jX (Sha.rot p 7) (Sha.rot p 18) (Sha.rot_lt p 7 l1) (Sha.rot_lt p 18 l1);have x2:bits .xor .u32 ((Sha.rot p 7 ^^^ Sha.rot p 18:Nat):Int) ((p:Int) / 8)=((Sha.s0 p:Nat):Int):=jX (Sha.rot p 7 ^^^ Sha.rot p 18) (p / 8) (Sha.xor_lt (Sha.rot_lt p 7 l1) (Sha.rot_lt p 18 l1)) aA;have x3':=jX (Sha.rot q 17) (Sha.rot q 19) (Sha.rot_lt q 17 l2) (Sha.rot_lt q 19 l2);have x4':bits .xor .u32 ((Sha.rot q 17 ^^^ Sha.rot q 19:Nat):Int) ((q:Int) / 1024)=((Sha.s1 q:Nat):Int):=jX (Sha.rot q 17 ^^^ Sha.rot q 19) (q / 1024) (Sha.xor_lt (Sha.rot_lt q 17 l2) (Sha.rot_lt q 19 l2)) aA;have l5:=Sha.s0_lt p l1;have l6:=Sha.s1_lt q l2;have a1:=oJ x3 (Sha.s0 p);have a2:=oJ (Sha.add32 x3 (Sha.s0 p)) x4;have a3:=oJ (Sha.add32 (Sha.add32 x3 (Sha.s0 p)) x4) (Sha.s1 q);rw[<-hi]at a3;clear hi;generalize Sha.add32 (Sha.add32 x3 (Sha.s0 p)) x4=aa at *;generalize Sha.add32 x3 (Sha.s0 p)=ab at *;generalize Sha.s0 p=s0 at *;generalize Sha.s1 q=s1 at *;generalize Sha.rot p 7=p7 at *;generalize Sha.rot p 18=p18 at *;generalize Sha.rot q 17=q17 at *;generalize Sha.rot q 19=q19 at *;generalize p7 ^^^ p18=px at *;generalize q17 ^^^ q19=qx at *;have HA:=aB (And.intro n3 (And.intro n4 (And.intro a1 (And.intro a2 a3))));have HQ:=aB (And.intro n2 (And.intro x3' x4'));clear n3 n4 a1 a2 a3 n2 x3' x4';have HWo:=aB (WoS.mk HW.out HZ.out hbw);clear HW HZ hbw hsz;go_wp2_with fail;refine kV 17 aC aC aC (fun i=>[.int .i64 t,.int .i64 t15,.pointer (some ⟨w.heap.size+1,t15,none⟩),.int .u32 p,.int .u32 p7,.int .i64 t,.int .i64 t15,.pointer (some ⟨w.heap.size+1,t15,none⟩),.int .u32 p,.int .u32 p18,.int .u32 px,.int .i64 t,.int .i64 t15,.pointer (some ⟨w.heap.size+1,t15,none⟩),.int .u32 p,.int .u32 ((p:Int) / 8),.int .u32 s0].getD i undef) (WoS w (pre S t) (pre S 0)) (HWo.out.keep (Below.drew (Below.refl _ _))) (fun _ _ h hb=>h.keep hb) ?_ ?_
     ·simp only[aX,List.take_succ_cons,List.take_zero,List.drop_succ_cons,List.drop_zero,Act.put,aW,ai];refine⟨fun W hS=>?_,fun W hS=>?_,fun W hS=>?_,fun W hS=>?_,fun W hS=>?_,fun W hS=>?_,fun W hS=>?_,fun W hS=>?_,fun W hS=>?_,fun W hS=>?_,fun W hS=>?_,fun W hS=>?_,fun W hS=>?_,fun W hS=>?_,fun W hS=>?_,fun W hS=>?_,fun W hS=>?_,trivial⟩;all_goals
       have c1:=C1.out _ hS.a;go_wp2_with (go_at_call 238;(first | (with_reducible refine (r1.out _).mono ?_) | (with_reducible refine (r2.out _).mono ?_));rintro e w2 ⟨rfl,hb2⟩);exact⟨rfl,rfl,aG⟩
     intro w1 hW1;have HW1:=aB hW1;clear hW1 HWo x1 x2 n1 C1;simp only[aX,List.take_succ_cons,List.take_zero,List.drop_succ_cons,List.drop_zero,Act.put,aW,ai];obtain⟨n2,x3',x4'⟩:=HQ.out;go_upto_region 10 with fail
     refine kV 17 aC aC aC (fun i=>[.int .i64 t,.int .i64 t2,.pointer (some ⟨w.heap.size+1,t2,none⟩),.int .u32 q,.int .u32 q17,.int .i64 t,.int .i64 t2,.pointer (some ⟨w.heap.size+1,t2,none⟩),.int .u32 q,.int .u32 q19,.int .u32 qx,.int .i64 t,.int .i64 t2,.pointer (some ⟨w.heap.size+1,t2,none⟩),.int .u32 q,.int .u32 ((q:Int) / 1024),.int .u32 s1].getD i undef) (WoS w (pre S t) (pre S 0)) (HW1.out.keep (Below.drew (Below.refl _ _))) (fun _ _ h hb=>h.keep hb) ?_ ?_
     ·simp only[aX,List.take_succ_cons,List.take_zero,List.drop_succ_cons,List.drop_zero,Act.put,aW,ai];refine⟨fun W hS=>?_,fun W hS=>?_,fun W hS=>?_,fun W hS=>?_,fun W hS=>?_,fun W hS=>?_,fun W hS=>?_,fun W hS=>?_,fun W hS=>?_,fun W hS=>?_,fun W hS=>?_,fun W hS=>?_,fun W hS=>?_,fun W hS=>?_,fun W hS=>?_,fun W hS=>?_,fun W hS=>?_,trivial⟩;all_goals
       have c1:=C2.out _ hS.a;go_wp2_with (go_at_call 238;(first | (with_reducible refine (r3.out _).mono ?_) | (with_reducible refine (r4.out _).mono ?_));rintro e w2 ⟨rfl,hb2⟩);exact⟨rfl,rfl,aG⟩
     intro w2 hW2;have HW2:=aB hW2;clear hW2 HW1 HQ n2 x3' x4' C2 r1 r2 r3 r4;simp only[aX,List.take_succ_cons,List.take_zero,List.drop_succ_cons,List.drop_zero,Act.put,aW,ai];obtain⟨n3,n4,a1,a2,a3⟩:=HA.out;clear HA;go_upto_region 11 with fail
     obtain⟨wd,hwd⟩:∃ x:World,x=w2.drew:=⟨_,rfl⟩;have HWd:Hid (WoS w (pre S t) (pre S 0) wd):=aB (by rw[hwd];exact HW2.out.keep (Below.drew (Below.refl _ _)));have HWD:=aB hwd;clear hwd;have c3:=C3.out _ HWd.out.a;have c4:=C4.out _ HWd.out.a;have c5:=C5.out _ HWd.out.a;have f5:=HWd.out.a.free t;have hbd:=HWd.out.c;refine wp_region_still_tail 15 aC aC ?_;simp only[List.take_succ_cons,List.take_zero,List.drop_succ_cons,List.drop_zero];change wpStill _ _ w2.drew _ _ _;rw[<-HWD.out];repeat still_step
     refine wpStill_nil ?_;change wpList _ _ _ _ _ w2.drew;rw[<-HWD.out];go_wp2_with fail;exact⟨⟨t+1,aA,aA,aj,aB (HN.out _ HWd.out.a),aB (HWd.out.b.far _ _ aF),aG⟩,au⟩
    ·exact VD
theorem aMg(n:Nat)(w:World)(hn:n<=1000000000000):Calls prog 239 #[.int .i64 (n:Int)] w (qF (Sha.vint (2*n)) w):=by
 obtain⟨i0,hi,hz0,hz1,hz2⟩:=info_parts uA;have HI:=aB (And.intro hi (And.intro hz0 (And.intro hz1 hz2)));clear hi hz0 hz1 hz2;have hzz:IntKind.u64.wrap ((n:Int)*2)=((2*n:Nat):Int):=by rw[show ((n:Int)*2)=((2*n:Nat):Int) by omega];exact IntWalk.u64_in _ aA
 obtain⟨V,hV⟩:∃ V,V=Sha.vint (2*n):=⟨_,rfl⟩;rw[<-hV];have HV:=aB hV;clear hV;have e63:(n:Int) / 9223372036854775808=0:=aA;go_enter func239,ntmps239;go_wp2;go_loopw [3,4] (fun zv ov wr=>∃(f z:Nat)(acc:List Nat)(A:Option Addr)(c:Nat),zv=.int .u64 (z:Int)/\ov=.slice A acc.length c/\z<128 ^ (f+1)/\f<=7/\acc.length+f=7/\Hid (V=acc++Sha.vintF (f+3) z)/\wr.ownsRow w.heap.size 5 1 (.slice A acc.length c) acc.length (b8 acc)/\Below w.heap.size w wr) (fun zv _ _=>(intOf zv).toNat)
 case atStart =>
  exact MS
 case round =>
  obtain⟨f,z,acc,A,c,rfl,rfl,hz,hf,hfl,HVA,hown,hbr⟩:=hrel;have hbs:=hbr.size;have hzb:z<128 ^ 8:=Nat.lt_of_lt_of_le hz (Nat.pow_le_pow_right aK aA);have hz0:(0:Int)<=z:=aA;have hm1:(0:Int)<=(z:Int) % 128:=aA;have hm2:(z:Int) % 128<128:=aA;have hor:IntKind.u8.wrap ((z:Int) % 128+128)=((z % 128+128:Nat):Int):=by rw[show (z:Int) % 128+128=((z % 128+128:Nat):Int) by omega];exact IntWalk.u8_in _ aA
  obtain⟨k,hk⟩:∃ k,k=acc.length:=⟨_,rfl⟩;have hkk:k<=7:=aA;have HKL:=aB hk;rw[<-hk]at hown ⊢;clear hk;by_cases h:z<128
  ·have hV1:V=acc++[z]:=by
    rw[HVA.out];show acc++(if z<128 then [z] else _)=_;rw[if_pos h]
   have d1:decide (127<(z:Int))=false:=aJ;have d2:decide ((128:Int)<=(z:Int))=false:=aJ;have d3:decide ((z:Int)<128)=true:=aJ;exact MV
  ·have hV1:V=(acc++[z % 128+128])++Sha.vintF (f+2) (z / 128):=by
    exact MW
   have d1:decide (127<(z:Int))=true:=aJ;have d2:decide ((128:Int)<=(z:Int))=true:=aJ;have d3:decide ((z:Int)<128)=false:=aJ;exact MZ
theorem aMh(s:ByteArray)(w:World)(hs:s.size<=1000000000000):Calls prog 182 #[.string s] w (qF (Sha.wireB (nb s)) w):=by
 obtain⟨i0,hi,hz0,hz1,hz2⟩:=info_parts uA;have HI:=aB (And.intro hi (And.intro hz0 (And.intro hz1 hz2)));clear hi hz0 hz1 hz2;have hin:=aMg s.size w hs;obtain⟨V,hV⟩:∃ V,V=Sha.vint (2*s.size):=⟨_,rfl⟩;have hW:Sha.wireB (nb s)=V++nb s:=by unfold Sha.wireB;rw[nT,hV]
 rw[<-hV]at hin;rw[hW];have hVl:V.length<=11:=by rw[hV];exact Sha.vint_len _
 obtain⟨k,hk⟩:∃ k,k=V.length:=⟨_,rfl⟩;have hkk:k<=11:=aA;have HKL:=aB hk;unfold qF at hin;rw[<-hk]at hin;have HIN:=aB hin;clear hin hV hW hVl hk;go_enter func182,ntmps182;go_wp2_with (first | (go_at_call 239;refine HIN.out.mono ?_;rintro e w2 ⟨A,c,rfl,hown,hb2⟩) | (at_builtin;refine Lib.wpList_append_own_string _ rfl _ _ 105 9 rfl w.heap.size 5 i0 underlying105 underlying9 HI.out.1 HI.out.2.1 HI.out.2.2.1 HI.out.2.2.2 _ _ _ rfl hown s rfl cZ aA vT ?_;intro v' w3 hown1 hgrow1 _));exact Mc
end Go.Proofs.YtlkbkclnbppigaaGreatDoor
