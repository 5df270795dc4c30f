/- Conditions in memory; what the specification's Few and FewAsk return, and the package's allows and pattern. -/
import Derived.Test.YtlkbkclnbppigaaGreatDoorIZ26
import Derived.Test.YtlkbkclnbppigaaGreatDoorWHost
set_option maxHeartbeats 8000000
namespace Go.Proofs.YtlkbkclnbppigaaGreatDoor
open Tryz
open Go.RowKit Go.Sort
set_option linter.unusedVariables false
set_option linter.unusedSimpArgs false
set_option maxRecDepth 100000
section
variable {w:World} {g:Nat} {fr till us:Int} {pat:aC} {A B S:Option Addr} {na ca nb cb ns cs:Nat}
end
def aBr(na nb ns:Nat)(pat:aC)(cl co:List aC):Bool:=decide (na<=40)&&decide (nb<=40)&&decide (ns<=70)&&decide (pat.size<=1000)&&cl.all (fun x=>decide (x.size<=100))&&co.all (fun x=>decide (x.size<=100))
theorem aCh{α:Type}{p:α->Bool}{l:List α}{k:Nat}{x:α}(h:(l.take k).all p=true)(hx:l[k]? = some x)(hp:p x=true):(l.take (k+1)).all p=true:=by
 rw[List.take_add_one,hx];simp[h,hp]
theorem aCi{α:Type}{p:α->Bool}{l:List α}{k:Nat}{x:α}(hx:l[k]? = some x)(hp:p x=false):l.all p=false:=by
 rw[List.all_eq_false];exact⟨x,List.mem_of_getElem? hx,by rw[hp];decide⟩
theorem aGn(fr till us:Int)(pat:aC)(A B S:Option Addr)(na ca nb cb ns cs:Nat)(cl co:List aC)(w:World)(hA:aI w 1 A na (cl.map .string))(hB:aI w 1 B nb (co.map .string)) :
  Calls prog 9 #[.agg #[.int .i64 fr,.int .i64 till,.string pat,.slice A na ca,.slice B nb cb,.slice S ns cs,.int .i64 us]] w (Ret w (.bool (aBr na nb ns pat cl co))):=by
 have hna:cl.length=na:=jK;have hnb:co.length=nb:=Ag;obtain⟨V,hV⟩:∃ V,V=aBr na nb ns pat cl co:=⟨_,rfl⟩;rw[<-hV];unfold aBr at hV;have HA:=aA hA;have HB:=aA hB;have HNA:=aA hna;have HNB:=aA hnb;clear hA hB hna hnb;by_cases h1:na<=40;rotate_left
 ·obtain rfl:V=false:=by rw[hV];simp[h1]
  have d1:decide ((40:Int)<(na:Int))=true:=decide_eq_true aB;exact aCj
 have d1:decide ((40:Int)<(na:Int))=false:=decide_eq_false aB;by_cases h2:nb<=40;rotate_left
 ·obtain rfl:V=false:=by rw[hV];simp[h2]
  have d2:decide ((40:Int)<(nb:Int))=true:=decide_eq_true aB;exact aCj
 have d2:decide ((40:Int)<(nb:Int))=false:=decide_eq_false aB;by_cases h3:ns<=70;rotate_left
 ·obtain rfl:V=false:=by rw[hV];simp[h3]
  have d3:decide ((70:Int)<(ns:Int))=true:=decide_eq_true aB;exact aCj
 have d3:decide ((70:Int)<(ns:Int))=false:=decide_eq_false aB;by_cases h4:pat.size<=1000;rotate_left
 ·obtain rfl:V=false:=by rw[hV];simp[h4]
  have d4:decide ((1000:Int)<(pat.size:Int))=true:=decide_eq_true aB;exact aCj
 have d4:decide ((1000:Int)<(pat.size:Int))=false:=decide_eq_false aB;have hv2:V=(cl.all (fun x=>decide (x.size<=100))&&co.all (fun x=>decide (x.size<=100))):=by rw[hV];simp[h1,h2,h3,h4]
 have HV:=aA hv2;clear hV hv2;go_enter func9,ntmps9;go_wp2;have hX0:aX (w.alloc (.cells #[.int .i64 fr,.int .i64 till,.string pat,.slice A na ca,.slice B nb cb,.slice S ns cs,.int .i64 us] 27)) w.heap.size fr till pat A na ca B nb cb S ns cs us:=World.alloc_heap_new _ _;go_loopw [3] (fun vi wr=>∃ k:Nat,vi=.int .i64 k/\k<=na/\Hid ((cl.take k).all (fun x=>decide (x.size<=100))=true)/\aX wr w.heap.size fr till pat A na ca B nb cb S ns cs us/\aF w wr) (fun i _=>na-(intOf i).toNat)
 case atStart=>exact⟨0,rfl,Nat.zero_le _,aA aH,hX0,aU (Below.refl _ _) _⟩
 case round =>
  clear hX0;obtain⟨k,rfl,hk,HK,hX,hbr⟩:=hrel;obtain⟨x0,x1,x2,x3,x4,x5,x6⟩:=hX.facts;by_cases hlt:k<na
  ·obtain⟨x,hx⟩:∃ x,cl[k]? = some x:=⟨_,List.getElem?_eq_getElem (by have:=HNA.out;omega)⟩;obtain⟨b,o,rfl,hcell⟩:=(HA.out.keep hbr).2 aB;have hc1:wr.cell? ⟨b,o+k,none⟩=some (.string x):=hcell k _ gB;have hk0:(0:Int)<=(k:Int):=aB;have hk1:(k:Int)<(na:Int):=aB;by_cases hs:x.size<=100
   ·have HK2:Hid ((cl.take (k+1)).all (fun x=>decide (x.size<=100))=true):=aA (aCh HK.out hx aBz);have d5:decide ((100:Int)<(x.size:Int))=false:=decide_eq_false aB;clear hcell hx HK;go_wp2;exact⟨⟨k+1,bg,aB,HK2,hX,hbr⟩,dD⟩
   ·obtain rfl:V=false:=by rw[HV.out,aCi hx aBz];rfl
    have d5:decide ((100:Int)<(x.size:Int))=true:=decide_eq_true aB;clear hcell hx HK;go_wp2;go_ret;exact⟨rfl,hbr⟩
  ·obtain rfl:k=na:=aB;have hall:cl.all (fun x=>decide (x.size<=100))=true:=by
    have:=HK.out
    rwa [List.take_of_length_le (by have:=HNA.out;omega)]at this
   have hv3:V=co.all (fun x=>decide (x.size<=100)):=by rw[HV.out,hall,Bool.true_and]
   have HV2:=aA hv3;clear hall hv3 HK HV;go_wp2;clear x0 x1 x2 x3 x4 x5 x6;obtain⟨wo,rfl⟩:∃ wo:World,wo=wr:=⟨_,rfl⟩;go_loopw [4] (fun vi wz=>∃ j:Nat,vi=.int .i64 j/\j<=nb/\Hid ((co.take j).all (fun x=>decide (x.size<=100))=true)/\aX wz w.heap.size fr till pat A k ca B nb cb S ns cs us/\aF w wz) (fun i _=>nb-(intOf i).toNat)
   case atStart=>exact⟨0,rfl,Nat.zero_le _,aA aH,hX,hbr⟩
   case round =>
    clear hX hbr;obtain⟨j,rfl,hj,HJ,hX,hbr⟩:=hrel;obtain⟨x0,x1,x2,x3,x4,x5,x6⟩:=hX.facts;by_cases hlt2:j<nb
    ·obtain⟨x,hx⟩:∃ x,co[j]? = some x:=⟨_,List.getElem?_eq_getElem (by have:=HNB.out;omega)⟩;obtain⟨b,o,rfl,hcell⟩:=(HB.out.keep hbr).2 aB;have hc1:wr.cell? ⟨b,o+j,none⟩=some (.string x):=hcell j _ gB;have hj0:(0:Int)<=(j:Int):=aB;have hj1:(j:Int)<(nb:Int):=aB;by_cases hs:x.size<=100
     ·have HJ2:Hid ((co.take (j+1)).all (fun x=>decide (x.size<=100))=true):=aA (aCh HJ.out hx aBz);have d5:decide ((100:Int)<(x.size:Int))=false:=decide_eq_false aB;clear hcell hx HJ;go_wp2;exact⟨⟨j+1,bg,aB,HJ2,hX,hbr⟩,dD⟩
     ·obtain rfl:V=false:=by rw[HV2.out,aCi hx aBz]
      have d5:decide ((100:Int)<(x.size:Int))=true:=decide_eq_true aB;clear hcell hx HJ;go_wp2;go_ret;exact⟨rfl,hbr⟩
    ·obtain rfl:j=nb:=aB;have hall:co.all (fun x=>decide (x.size<=100))=true:=by
      have:=HJ.out
      rwa [List.take_of_length_le (by have:=HNB.out;omega)]at this
     obtain rfl:V=true:=by rw[HV2.out,hall]
     go_wp2;go_ret;exact⟨rfl,hbr⟩
end Go.Proofs.YtlkbkclnbppigaaGreatDoor
namespace Go.Proofs.YtlkbkclnbppigaaGreatDoor.Sha
open Tryz
set_option linter.unusedVariables false
set_option maxRecDepth 100000
theorem pad_len(m:List Nat):(pad m).length % 64=0:=by
 unfold pad bytes8 bytes4;simp only[List.length_append,List.length_cons,List.length_replicate,List.length_nil];omega
theorem upto_zero(b:List Nat)(s:St):upto b s 0=s:=rfl
end Go.Proofs.YtlkbkclnbppigaaGreatDoor.Sha
namespace Go.Proofs.YtlkbkclnbppigaaGreatDoor
open Tryz
open Go.RowKit Go.Sort
set_option linter.unusedVariables false
set_option linter.unusedSimpArgs false
set_option maxRecDepth 100000
theorem aBn(a b:Nat):((a:Int)+b) % 4294967296=((Sha.add32 a b:Nat):Int):=by simp[Sha.add32]
theorem aGo(c:Nat)(w:World)(hc:c<256):Calls prog 167 #[.int .u8 c] w (Ret w (.bool (jX c))):=by
 go_enter func167,ntmps167;go_wp2;all_goals
  go_ret;exact⟨fV (by first | (rw[Bool.eq_iff_iff];simp[jX];done) | (rw[Bool.eq_iff_iff];simp[jX];omega)),aJ⟩
def F5(c:Nat)(l:List UInt8):Bool:=l.any fun b=>b.toNat==c
theorem aEa(s:aC)(k:Nat)(h:k<s.size):s.data.toList.take (k+1)=s.data.toList.take k++[s[k]]:=by
 rw[List.take_succ_eq_append_getElem nD];rfl
theorem aEb(b:UInt8)(c:Nat):((b.toNat:Int)==(c:Int))=(b.toNat==c):=by
 rw[Bool.eq_iff_iff,beq_iff_eq,beq_iff_eq];omega
theorem aGp(s:aC)(c:Nat)(w:World)(hs:s.size<=4294967281):Calls prog 106 #[.string s,.int .u8 c] w (Ret w (.bool (F5 c s.data.toList))):=by
 go_enter func106,ntmps106;go_wp2;go_loop [5] (fun i=>∃ k:Nat,i=.int .i64 k/\k<=s.size/\Hid (F5 c (s.data.toList.take k)=false)) (fun i=>s.size-(intOf i).toNat)
 case atStart=>exact⟨0,rfl,Nat.zero_le _,aA (by simp[F5])⟩
 case round =>
  obtain⟨k,rfl,hk,HK⟩:=hrel;by_cases hlt:k<s.size
  ·have ht:F5 c (s.data.toList.take (k+1))=(F5 c (s.data.toList.take k)||(s[k].toNat==c)):=by rw[aEa s k hlt];simp[F5]
   have hd:=aEb s[k] c;cases hb:(s[k].toNat==c)
   ·rw[hb]at ht hd;have HK2:Hid (F5 c (s.data.toList.take (k+1))=false):=aA (by rw[ht,HK.out];rfl);clear ht hb HK;go_wp2;go_round
    case rel=>exact⟨k+1,bg,aB,HK2⟩
    case measure=>simp[intOf];omega
   ·rw[hb]at ht hd;have HK2:Hid (F5 c s.data.toList=true):=aA (by
     have h2:F5 c (s.data.toList.take (k+1))=true:=by rw[ht,Bool.or_true]
     unfold F5 at h2 ⊢;rw[List.any_eq_true]at h2 ⊢;obtain⟨x,hx,h3⟩:=h2;exact⟨x,List.mem_of_mem_take hx,h3⟩)
    clear ht hb HK;go_wp2;go_ret;exact⟨fV HK2.out.symm,aJ⟩
  ·exact aEc
theorem aCz(s:aC)(w:World)(hs:s.size<=4294967281):Calls prog 105 #[.string s] w (Ret w (.bool (bW s))):=by
 by_cases h0:s.size=0
 ·have d0:((s.size:Int)==0)=true:=by simp[h0]
  have hv:bW s=false:=by
   have:s.data.toList=[]:=List.eq_nil_of_length_eq_zero xZ;simp[bW,Lib.toList_data,this]
  rw[hv];clear hv h0;exact aCk
 have d0:((s.size:Int)==0)=false:=beq_eq_false_iff_ne.2 aB;by_cases h1:s.size<=64;rotate_left
 ·have d1:decide ((64:Int)<(s.size:Int))=true:=decide_eq_true aB;have hv:bW s=false:=by simp[bW,h1]
  rw[hv];clear hv;exact aCk
 have d1:decide ((64:Int)<(s.size:Int))=false:=decide_eq_false aB;cases h2:(s.toList == [46])
 rotate_left
 ·have hv:bW s=false:=by simp[bW,h2]
  rw[hv];clear hv;exact aCk
 cases h3:(s.toList == [46,46])
 rotate_left
 ·have hv:bW s=false:=by simp[bW,h3]
  rw[hv];clear hv;exact aCk
 have hv:bW s=s.data.toList.all jW:=by
  have:s.toList.isEmpty=false:=by
   rw[Lib.toList_data];cases hl:s.data.toList with
   | nil=>rw[Lib.size_eq,hl]at h0;simp at h0
   | cons _ _=>rfl
  simp[bW,h2,h3,this,h1]
 rw[hv];clear hv;go_enter func105,ntmps105;go_wp2;go_loopw [3] (fun i wr=>∃ k:Nat,i=.int .i64 k/\k<=s.size/\Hid ((s.data.toList.take k).all jW=true)/\aF w wr) (fun i _=>s.size-(intOf i).toNat)
 case atStart=>exact⟨0,rfl,Nat.zero_le _,aA aH,Below.refl _ _⟩
 case round =>
  obtain⟨k,rfl,hk,HK,hbr⟩:=hrel;by_cases hlt:k<s.size
  ·have ht:(s.data.toList.take (k+1)).all jW=((s.data.toList.take k).all jW&&jW s[k]):=by rw[aEa s k hlt];simp
   have cL:=fun W=>aGo s[k].toNat W (s[k].toNat_lt)
   unfold jW at ht;generalize jX s[k].toNat=b at *;cases b
   ·have HK2:Hid (s.data.toList.all jW=false):=aA (by
     have h2:(s.data.toList.take (k+1)).all jW=false:=by unfold jW;rw[ht,Bool.and_false]
     rw[List.all_eq_false]at h2 ⊢;obtain⟨x,hx,h3⟩:=h2;exact⟨x,List.mem_of_mem_take hx,h3⟩)
    clear ht HK;have HL:=aA cL;clear cL;go_wp2_with (go_at_call 167;refine (HL.out _).mono ?_;rintro e w1 ⟨rfl,hb1⟩);go_ret;exact⟨fV HK2.out.symm,aJ⟩
   ·have HK2:Hid ((s.data.toList.take (k+1)).all jW=true):=aA (by have:=HK.out;unfold jW at this ⊢;rw[ht,this];rfl);clear ht HK;have HL:=aA cL;clear cL;go_wp2_with (go_at_call 167;refine (HL.out _).mono ?_;rintro e w1 ⟨rfl,hb1⟩);exact⟨⟨k+1,bg,aB,HK2,aJ⟩,dD⟩
  ·exact aEc
theorem aGq(s:aC):(bW s&&!F5 46 s.data.toList)=bU s:=by
 unfold bU;congr 2;rw[Bool.eq_iff_iff,decide_eq_true_eq];unfold F5;generalize s.data.toList=l;induction l with
 | nil=>simp[Lib.indexByte]
 | cons b l ih =>
  rw[Lib.indexByte,List.any_cons,Bool.or_eq_true];have hb:(b.toNat==46)=true↔(b==46)=true:=by
   rw[beq_iff_eq,beq_iff_eq,<-UInt8.toNat_inj];rfl
  rw[hb,ih];split
  ·simp[*]
  ·split
   ·rename_i h2;simp only[beq_iff_eq]at h2;simp[*]
   ·rename_i h1 h2;simp only[beq_iff_eq]at h2;have : -1<=Lib.indexByte l 46:=by
     rw[<-Lib.index_one];exact Lib.index_ge _ _
    simp only[h1,false_or,Bool.false_eq_true];omega
theorem aDa(s:aC)(w:World)(hs:s.size<=4294967281):Calls prog 50 #[.string s] w (Ret w (.bool (bU s))):=by
 have cW:=fun W=>aCz s W hs
 have cH:=fun W=>aGp s 46 W hs
 rw[<-aGq];generalize bW s=b at *;generalize F5 46 s.data.toList=h at *;have HH:=aA cH;have HW:=aA cW;clear cH cW;cases b
 ·go_enter func50,ntmps50;go_wp2_with (go_at_call 105;refine (HW.out _).mono ?_;rintro e w1 ⟨rfl,hb1⟩);go_ret;exact⟨rfl,aJ⟩
 ·go_enter func50,ntmps50;go_wp2_with (first | (go_at_call 105;refine (HW.out _).mono ?_;rintro e w1 ⟨rfl,hb1⟩) | (go_at_call 106;refine (HH.out _).mono ?_;rintro e w2 ⟨rfl,hb2⟩));go_ret;exact⟨fV aH,aJ⟩
theorem aGr(l:List UInt8)(k:Nat)(hk:k<l.length):l=l.take k++l[k] :: l.drop (k+1):=by
 rw[<-List.drop_eq_getElem_cons hk,List.take_append_drop]
def aBk(c:UInt8)(l:List UInt8)(k f:Nat)(acc:List aC):Prop:=f<=k/\c ∉ (l.drop f).take (k-f)/\(dO c l).map toB=acc++(dO c (l.drop f)).map toB
theorem aGs{c:UInt8}{l:List UInt8}{k f:Nat}{acc:List aC}(h:aBk c l k f acc)(hk:k<l.length)(hne:l[k] ≠ c):aBk c l (k+1) f acc:=by
 obtain⟨h1,h2,h3⟩:=h;refine⟨aB,?_,h3⟩;have hl:k-f<(l.drop f).length:=aDb;rw[show k+1-f=(k-f)+1 by omega,List.take_succ_eq_append_getElem hl];simp only[List.mem_append,List.mem_singleton,not_or];refine⟨h2,?_⟩;rw[List.getElem_drop];intro e;apply hne;rw[e];congr 1;omega
theorem aGt{c:UInt8}{l:List UInt8}{k f:Nat}{acc:List aC}(h:aBk c l k f acc)(hk:k<l.length)(he:l[k]=c):aBk c l (k+1) (k+1) (acc++[toB ((l.drop f).take (k-f))]):=by
 obtain⟨h1,h2,h3⟩:=h;refine⟨Nat.le_refl _,aH,?_⟩;have hl:k-f<(l.drop f).length:=aDb;have hs:=aGr (l.drop f) (k-f) hl;have e1:(l.drop f)[k-f]=c:=by
  rw[List.getElem_drop,<-he];congr 1;omega
 rw[e1,List.drop_drop,show f+(k-f+1)=k+1 by omega]at hs;have hsp:dO c (l.drop f)=(l.drop f).take (k-f) :: dO c (l.drop (k+1)):=by
  conv=>lhs;rw[hs]
  exact FZ _ _ _ h2
 rw[h3,hsp];simp
theorem aGu{c:UInt8}{l:List UInt8}{f:Nat}{acc:List aC}(h:aBk c l l.length f acc):(dO c l).map toB=acc++[toB (l.drop f)]:=by
 obtain⟨h1,h2,h3⟩:=h;rw[List.take_of_length_le aDb]at h2;rw[h3,Fa _ _ h2];rfl
theorem aGv(c:UInt8)(s:aC):splitB c s=(dO c s.data.toList).map toB:=rfl
theorem aGw(s:aC)(c:UInt8)(w:World)(hs:s.size<=4294967281):Calls prog 188 #[.string s,.int .u8 c.toNat] w (GZ (splitB c s) w):=by
 obtain⟨i0,hi0,hz0,hz1,hz2⟩:=info_parts rY;have HI:Hid ((prog.info? 9=some i0)/\i0.zero=some (.string ⟨#[]⟩)/\i0.size=1/\i0.bytes=16):=aA ⟨hi0,hz0,hz1,hz2⟩;clear hi0 hz0 hz1 hz2;have hsl:s.data.toList.length=s.size:=(Lib.size_eq s).symm;have HSL:=aA hsl;clear hsl;go_enter func188,ntmps188;go_wp2;go_loopw [5,6,7] (fun vo vf vi wr=>∃(k f n:Nat)(acc:List aC)(A:Option Addr)(c':Nat),(vi=.int .i64 k/\vf=.int .i64 f/\vo=.slice A n c'/\k<=s.size/\f<=k/\n<=k)/\Hid (aBk c s.data.toList k f acc/\acc.length=n)/\wr.ownsRow w.heap.size 9 1 (.slice A n c') n (acc.map .string)/\aF w wr) (fun _ _ i _=>s.size-(intOf i).toNat)
 case atStart=>exact⟨0,0,0,[],none,0,⟨rfl,rfl,rfl,Nat.zero_le _,Nat.le_refl _,Nat.le_refl _⟩,aA ⟨⟨Nat.le_refl _,aH,aH⟩,rfl⟩,World.ownsRow_nil _ _ _ _,Below.refl _ _⟩
 case round =>
  obtain⟨k,f,n,acc,A,c',⟨rfl,rfl,rfl,hk,hf,hn⟩,HK,hown,hbr⟩:=hrel;have hbs:=hbr.size;by_cases hlt:k<s.size
  ·have hd:=aEb s[k] c.toNat;have hkl:k<s.data.toList.length:=by rw[HSL.out];exact hlt
   have hat:=SE s k hlt;cases hb:(s[k].toNat==c.toNat)
   ·rw[hb]at hd;have hne:s.data.toList[k] ≠ c:=fun e=>by rw[<-hat]at e;rw[e]at hb;simp at hb
    have HK2:Hid (aBk c s.data.toList (k+1) f acc/\acc.length=n):=aA ⟨aGs HK.out.1 hkl hne,HK.out.2⟩;clear hb HK hat hne hkl;go_wp2;exact⟨⟨k+1,f,n,acc,A,c',⟨bg,rfl,rfl,aB,aB,aB⟩,HK2,hown,hbr⟩,dD⟩
   ·rw[hb]at hd;have he:s.data.toList[k]=c:=by rw[<-hat];rw[beq_iff_eq]at hb;exact UInt8.toNat_inj.1 hb
    have hpc:toB ((s.data.toList.drop f).take (k-f))=s.extract f k:=fK (by rw[Lib.extract_data];rfl);have hhit:=aGt HK.out.1 hkl he;rw[hpc]at hhit;have HK2:Hid (aBk c s.data.toList (k+1) (k+1) (acc++[s.extract f k])/\(acc++[s.extract f k]).length=n+1):=aA ⟨hhit,by simp[HK.out.2]⟩;have hk0:(0:Int)<=(f:Int):=aB;have hk1:(f:Int)<=(k:Int):=aB;have hk2:(k:Int)<=(s.size:Int):=aB;clear hb HK hat he hkl hpc hhit;go_wp2_with (at_builtin;refine wpList_append_own _ rfl _ _ 24 rfl w.heap.size 9 i0 (.string ⟨#[]⟩) 1 16 underlying24 HI.out.1 HI.out.2.1 HI.out.2.2.1 HI.out.2.2.2 rfl aK _ _ _ rfl (hown.alloc _) ⟨wr.heap.size,0,none⟩ 1 1 [.string (s.extract f k)] rfl rfl (cell_one_new _ _ _) jJ dh aB aP ?_;intro v' w3 hown' hgrow _;obtain⟨g',cap',rfl⟩:=ownsRow_succ hown');exact⟨⟨k+1,k+1,n+1,acc++[s.extract f k],some ⟨g',0,none⟩,cap',⟨bg,bg,rfl,aB,aB,aB⟩,HK2,by rw[List.map_append];exact hown',(hbr.alloc hbs _).grown hgrow aP (fun r e=>fE hown r e)⟩,dD⟩
  ·obtain rfl:k=s.size:=aB;have hpc:toB (s.data.toList.drop f)=s.extract f s.size:=fK (by rw[Lib.extract_to_end];rfl);have hend:splitB c s=acc++[s.extract f s.size]:=by
    rw[aGv,<-hpc];exact aGu (by rw[HSL.out];exact HK.out.1)
   have hlen:(splitB c s).length=n+1:=by rw[hend];simp[HK.out.2]
   have HEND:=aA hend;have HLEN:=aA hlen;have hk0:(0:Int)<=(f:Int):=aB;have hk1:(f:Int)<=(s.size:Int):=aB;clear hpc hend hlen HK;go_wp2_with (at_builtin;refine wpList_append_own _ rfl _ _ 24 rfl w.heap.size 9 i0 (.string ⟨#[]⟩) 1 16 underlying24 HI.out.1 HI.out.2.1 HI.out.2.2.1 HI.out.2.2.2 rfl aK _ _ _ rfl (hown.alloc _) ⟨wr.heap.size,0,none⟩ 1 1 [.string (s.extract f s.size)] rfl rfl (cell_one_new _ _ _) jJ dh aB aP ?_;intro v' w3 hown' hgrow _;obtain⟨g',cap',rfl⟩:=ownsRow_succ hown');go_ret;refine⟨some ⟨g',0,none⟩,cap',by rw[HLEN.out];rfl,?_,(hbr.alloc hbs _).grown hgrow aP (fun r e=>fE hown r e)⟩;rw[HLEN.out,HEND.out,List.map_append];exact hown'
theorem aEd(k:aj)(w:World):Calls prog 31 #[k.val] w (Ret w (.bool (lQ k))):=by
 obtain⟨V,hV⟩:∃ V,V=lQ k:=⟨_,rfl⟩;rw[<-hV];unfold lQ at hV;have HV:=aA hV;clear hV;obtain⟨p,s,sc,fr,ti⟩:=k;unfold aj.val;dsimp only at *;go_enter func31,ntmps31;go_wp2;all_goals (go_ret;exact⟨fV Pn,aJ⟩)
section
variable {P:Program}
theorem aGx{o:Oper}{a:Act}{w:World}{K:Act->World->Prop}{Q:Exit->Act->World->Prop}(t:TypeId)(parts:Array (Nat × Operand))(ho:o.op=.build t parts)(ps:Array (Nat × Value))(hp:(parts.map fun (i,x)=>(i,a.eval x))=ps)
  (v:Value) (hr:(Instr.build t ps).run P w=.ok v w) (h:K (a.put o.dst v) w):o.wp P a w K Q:=by
 subst hp;unfold Oper.wp execOp;simp only[ho,Sem.run_bind,Sem.run_pure,Result.andThen_ok,hr];exact h
theorem aCa{ops:Array Oper}{rest:List Oper}{o:Oper}{a:Act}{w:World}{Q:Exit->Act->World->Prop}(hgd:o.guard=none)(t:TypeId)(parts:Array (Nat × Operand))(ho:o.op=.build t parts)(ps:Array (Nat × Value))(hp:(parts.map fun (i,x)=>(i,a.eval x))=ps)
  (v:Value) (hr:(Instr.build t ps).run P w=.ok v w) (h:wpList P ops Q rest (a.put o.dst v) w):wpList P ops Q (o :: rest) a w :=
 wpList_plain hgd fun _ hK=>aGx t parts ho ps hp v hr (hK _ _ h)
end
theorem aGy(x n:Nat)(hx:x<4294967296)(h2:n<=32):bits .or .u32 ((x:Int) / 2 ^ n) ((x:Int)*2 ^ (32-n) % 4294967296)=((Sha.rot x n:Nat):Int):=by
 have h:=u32_or_nat (x / 2 ^ n) (x*2 ^ (32-n) % 4294967296) (Nat.lt_of_le_of_lt (Nat.div_le_self _ _) hx) (Nat.mod_lt _ aK);have e1:((x*2 ^ (32-n) % 4294967296:Nat):Int)=(x:Int)*2 ^ (32-n) % 4294967296:=aH;have e2:((x / 2 ^ n:Nat):Int)=(x:Int) / 2 ^ n:=aH;rw[e1,e2]at h;exact h
theorem VE(x n:Nat)(w:World)(hx:x<4294967296)(h1:1<=n)(h2:n<=31):Calls prog 238 #[.int .u32 (x:Int),.int .i64 (n:Int)] w (Ret w (.int .u32 (Sha.rot x n:Nat))):=by
 have hr:=aA (aGy x n hx aB);have hs:IntKind.i64.wrap (32-(n:Int))=((32-n:Nat):Int):=by rw[show (32-(n:Int))=((32-n:Nat):Int) by omega];exact IntWalk.i64_in _ aB
 have hs2:(32-(n:Int)).toNat=32-n:=aB;have hs3:(0:Int)<=32-(n:Int):=aB;go_enter func238,ntmps238;go_wp2;go_quiet (fail);go_wp2;go_ret;exact⟨by rw[hr.out];rfl,aJ⟩
theorem aDc(a x i:Nat)(hx:x<2 ^ i):(a*2 ^ i)|||x=a*2 ^ i+x:=by
 have:=Nat.two_pow_add_eq_or_of_lt (i:=i) (b:=x) hx a;rw[Nat.mul_comm]at this;exact this.symm
theorem aGz(a b c d:Nat)(ha:a<256)(hb:b<256)(hc:c<256)(hd:d<256):bits .or .u32 (bits .or .u32 (bits .or .u32 ((a:Int)*16777216) ((b:Int)*65536)) ((c:Int)*256)) (d:Int)=((((a*256+b)*256+c)*256+d:Nat):Int):=by
 have h1:=u32_or_nat (a*16777216) (b*65536) aB aB;rw[show a*16777216|||b*65536=a*16777216+b*65536 by
  have:=aDc a (b*65536) 24 aB;rw[show (2:Nat) ^ 24=16777216 by decide]at this;exact this]at h1
 have h2:=u32_or_nat (a*16777216+b*65536) (c*256) aB aB;rw[show a*16777216+b*65536|||c*256=a*16777216+b*65536+c*256 by
  have:=aDc (a*256+b) (c*256) 16 aB;rw[show (2:Nat) ^ 16=65536 by decide,show (a*256+b)*65536=a*16777216+b*65536 by omega]at this;exact this]at h2
 have h3:=u32_or_nat (a*16777216+b*65536+c*256) d aB aB;rw[show a*16777216+b*65536+c*256|||d=a*16777216+b*65536+c*256+d by
  have:=aDc ((a*256+b)*256+c) d 8 aB;rw[show (2:Nat) ^ 8=256 by decide,show ((a*256+b)*256+c)*256=a*16777216+b*65536+c*256 by omega]at this;exact this]at h3
 have e1:((a*16777216:Nat):Int)=(a:Int)*16777216:=aH;have e2:((b*65536:Nat):Int)=(b:Int)*65536:=aH;have e3:((c*256:Nat):Int)=(c:Int)*256:=aB;rw[e1,e2]at h1;rw[e3]at h2;rw[h1,h2,h3];congr 1;omega
theorem SI(a b:Nat):IntKind.u32.wrap ((a:Int)+b)=((Sha.add32 a b:Nat):Int):=by
 rw[IntKind.wrap_u32];unfold Sha.add32;omega
theorem aHa(A:Option Addr)(c:Nat)(b:List Nat)(w:World)(hR:aI w 1 A 64 (b8 b))(hb:∀ x∈b,x<256) :
  Calls prog 237 #[.slice A 64 c] w (Ret w (.agg (w32 (Sha.sched b)).toArray)):=by
 obtain⟨bb,bo,rfl,hcell⟩:=hR.2 aK;have hbl:b.length=64:=aDd;have hlt:bb<w.heap.size:=by
  have:=hcell 0 _ (qL b (k:=0) aB);exact bu this
 have hS:=aAk hb;generalize Sha.sched b=S at *;have HS:=aA hS;have HB:=aA hb;have HL:=aA hbl;have HC:=aA (fun k hk=>hcell k _ (qL b (k:=k) hk));clear hR hb hbl hcell hS;go_enter func237,ntmps237;go_wp2;go_loopw [4] (fun i wr=>∃ t:Nat,t<=16/\i=.int .i64 t/\Hid (au wr (w.heap.size+1) 265 (pre S t))/\Hid (au wr w.heap.size 265 (pre S 0))/\aF w wr) (fun i _=>16-(intOf i).toNat)
 case atStart =>
  refine⟨0,aB,rfl,aA ?_,aA ?_,aJ⟩
  ·rw[PN];exact Eq.trans (heap_alloc2_new w _ _) rfl
  ·rw[PN];exact Eq.trans (heap_alloc2_old w _ _) rfl
 case round =>
  obtain⟨t,ht,rfl,HW,HZ,hbw⟩:=hrel;have hsz:w.heap.size+1<wr.heap.size:=HW.out.lt;by_cases h16:t<16
  ·obtain⟨wd,hwd⟩:∃ x:World,x=wr.drew:=⟨_,rfl⟩;have hbd:aF w wd:=by rw[hwd];exact hbw.drew
   have hp:∀ j,j<4->wd.cell? ⟨bb,bo+(4*t+j),none⟩=some (.int .u8 (b.getD (4*t+j) 0:Nat)):=fun j hj=>aW hbd (HC.out (4*t+j) gV)
   have y0:=hp 0 aB;have y1:=hp 1 aB;have y2:=hp 2 aB;have y3:=hp 3 aB;clear hp;rw[Nat.add_zero]at y0;have l0:=Sha.getD_lt HB.out (4*t);have l1:=Sha.getD_lt HB.out (4*t+1);have l2:=Sha.getD_lt HB.out (4*t+2);have l3:=Sha.getD_lt HB.out (4*t+3);have hlo:=HS.out.lo t h16;rw[Sha.part4]at hlo;unfold Sha.qG at hlo;simp only[Sha.getD_drop,Nat.add_zero]at hlo;have hor:=aGz _ _ _ _ l0 l1 l2 l3;rw[<-hlo]at hor;clear hlo;have HN:Hid (∀ W,au W (w.heap.size+1) 265 (pre S t)->au (W.setCell ⟨w.heap.size+1,t,none⟩ (.int .u32 (S.getD t 0:Nat))) (w.heap.size+1) 265 (pre S (t+1))):=aA fun W h=>by
    have:=h.set_ t (S.getD t 0);rw[PM HS.out.len aB]at this;exact this
   have c5:wd.cell? ⟨w.heap.size+1,t,none⟩=some (.int .u32 ((pre S t).getD t 0:Nat)):=by rw[hwd];exact HW.out.cell (k:=t) wL
   have f5:wd.frozen? ⟨w.heap.size+1,t,none⟩=false:=by rw[hwd];exact HW.out.free t
   have HWd:Hid (au wd (w.heap.size+1) 265 (pre S t)):=aA (by rw[hwd];exact HW.out);have HZd:Hid (au wd w.heap.size 265 (pre S 0)):=aA (by rw[hwd];exact HZ.out);generalize b.getD (4*t) 0=x0 at *;generalize b.getD (4*t+1) 0=x1 at *;generalize b.getD (4*t+2) 0=x2 at *;generalize b.getD (4*t+3) 0=x3 at *;generalize S.getD t 0=xs at *;have HWD:=aA hwd;clear hwd;obtain⟨q0,hq0⟩:∃ q,q=4*t:=⟨_,rfl⟩;obtain⟨q1,hq1⟩:∃ q,q=4*t+1:=⟨_,rfl⟩;obtain⟨q2,hq2⟩:∃ q,q=4*t+2:=⟨_,rfl⟩;obtain⟨q3,hq3⟩:∃ q,q=4*t+3:=⟨_,rfl⟩;have n0:IntKind.i64.wrap (4*(t:Int))=(q0:Int):=by rw[show 4*(t:Int)=(q0:Int) by omega];exact IntWalk.i64_in _ aB
   have n1:IntKind.i64.wrap ((q0:Int)+1)=(q1:Int):=by rw[show (q0:Int)+1=(q1:Int) by omega];exact IntWalk.i64_in _ aB
   have n2:IntKind.i64.wrap ((q0:Int)+2)=(q2:Int):=by rw[show (q0:Int)+2=(q2:Int) by omega];exact IntWalk.i64_in _ aB
   have n3:IntKind.i64.wrap ((q0:Int)+3)=(q3:Int):=by rw[show (q0:Int)+3=(q3:Int) by omega];exact IntWalk.i64_in _ aB
   have m0:(q0:Int)<64:=aB;have m1:(q1:Int)<64:=aB;have m2:(q2:Int)<64:=aB;have m3:(q3:Int)<64:=aB;rw[<-hq0]at y0;rw[<-hq1]at y1;rw[<-hq2]at y2;rw[<-hq3]at y3;have z0:(0:Int)<=(q0:Int):=aB;have z1:(0:Int)<=(q1:Int):=aB;have z2:(0:Int)<=(q2:Int):=aB;have z3:(0:Int)<=(q3:Int):=aB;clear hq0 hq1 hq2 hq3;have v0:IntKind.u32.wrap (x0:Int)=x0:=IntWalk.u32_in _ aB;have v1:IntKind.u32.wrap (x1:Int)=x1:=IntWalk.u32_in _ aB;have v2:IntKind.u32.wrap (x2:Int)=x2:=IntWalk.u32_in _ aB;have v3:IntKind.u32.wrap (x3:Int)=x3:=IntWalk.u32_in _ aB;have v4:IntKind.u32.wrap ((x0:Int)*16777216)=x0*16777216:=IntWalk.u32_in _ aB;have v5:IntKind.u32.wrap ((x1:Int)*65536)=x1*65536:=IntWalk.u32_in _ aB;have v6:IntKind.u32.wrap ((x2:Int)*256)=x2*256:=IntWalk.u32_in _ aB;have m4:(t:Int)<64:=aB;have z4:(0:Int)<=(t:Int):=aB;go_wp2_with fail;refine wp_region_still_tail 35 aG aG ?_;simp only[kM];change wpStill _ _ wr.drew _ _ _;rw[<-HWD.out];repeat still_step
   refine wpStill_nil ?_;change wpList _ _ _ _ _ wr.drew;rw[<-HWD.out];go_wp2_with fail;exact⟨⟨t+1,aB,bg,aA (HN.out _ HWd.out),aA (HZd.out.far _ _ aH),aJ⟩,dD⟩
  ·have ht16:t=16:=aB;have HW16:Hid (au wr (w.heap.size+1) 265 (pre S 16)):=aA (by have:=HW.out;rw[ht16]at this;exact this);have d16:decide ((t:Int)<16)=false:=decide_eq_false aB;generalize (t:Int)=tI at *;clear ht h16 ht16 HW;go_wp2_with fail;obtain⟨wo,rfl⟩:∃ wo:World,wo=wr:=⟨_,rfl⟩;go_loopw [5] (fun i wr=>∃ t:Nat,16<=t/\t<=64/\i=.int .i64 t/\Hid (au wr (w.heap.size+1) 265 (pre S t))/\Hid (au wr w.heap.size 265 (pre S 0))/\aF w wr) (fun i _=>64-(intOf i).toNat)
   case atStart=>exact⟨16,aB,aB,rfl,HW16,HZ,hbw⟩
   case round =>
    obtain⟨t,h16,ht,rfl,HW,HZ,hbw⟩:=hrel;have hsz:w.heap.size+1<wr.heap.size:=HW.out.lt;by_cases h64:t<64
    ·have g1:∀ k,k<t->(pre S t).getD k 0=S.getD k 0:=fun k hk=>rD HS.out.len hk ht
     have g2:(pre S t).length=64:=oG HS.out.len ht;have hi:=HS.out.hi t h16 h64;have l1:=HS.out.lt (t-15);have l2:=HS.out.lt (t-2);have l3:=HS.out.lt (t-16);have l4:=HS.out.lt (t-7);have HN:Hid (∀ W,au W (w.heap.size+1) 265 (pre S t)->au (W.setCell ⟨w.heap.size+1,t,none⟩ (.int .u32 (S.getD t 0:Nat))) (w.heap.size+1) 265 (pre S (t+1))):=aA fun W h=>by
      have:=h.set_ t (S.getD t 0);rw[PM HS.out.len h64]at this;exact this
     obtain⟨t15,ht15⟩:∃ q,q=t-15:=⟨_,rfl⟩;obtain⟨t2,ht2⟩:∃ q,q=t-2:=⟨_,rfl⟩;obtain⟨t16,ht16⟩:∃ q,q=t-16:=⟨_,rfl⟩;obtain⟨t7,ht7⟩:∃ q,q=t-7:=⟨_,rfl⟩;rw[<-ht15]at hi l1;rw[<-ht2]at hi l2;rw[<-ht16]at hi l3;rw[<-ht7]at hi l4;have n1:IntKind.i64.wrap ((t:Int)-15)=(t15:Int):=by rw[show (t:Int)-15=(t15:Int) by omega];exact IntWalk.i64_in _ aB
     have n2:IntKind.i64.wrap ((t:Int)-2)=(t2:Int):=by rw[show (t:Int)-2=(t2:Int) by omega];exact IntWalk.i64_in _ aB
     have n3:IntKind.i64.wrap ((t:Int)-16)=(t16:Int):=by rw[show (t:Int)-16=(t16:Int) by omega];exact IntWalk.i64_in _ aB
     have n4:IntKind.i64.wrap ((t:Int)-7)=(t7:Int):=by rw[show (t:Int)-7=(t7:Int) by omega];exact IntWalk.i64_in _ aB
     have C1:Hid (∀ W,au W (w.heap.size+1) 265 (pre S t)->W.cell? ⟨w.heap.size+1,t15,none⟩=some (.int .u32 (S.getD t15 0:Nat))):=aA fun W h=>by have:=h.cell (k:=t15) aB;rw[g1 t15 aB]at this;exact this
     have C2:Hid (∀ W,au W (w.heap.size+1) 265 (pre S t)->W.cell? ⟨w.heap.size+1,t2,none⟩=some (.int .u32 (S.getD t2 0:Nat))):=aA fun W h=>by have:=h.cell (k:=t2) aB;rw[g1 t2 aB]at this;exact this
     have C3:Hid (∀ W,au W (w.heap.size+1) 265 (pre S t)->W.cell? ⟨w.heap.size+1,t16,none⟩=some (.int .u32 (S.getD t16 0:Nat))):=aA fun W h=>by have:=h.cell (k:=t16) aB;rw[g1 t16 aB]at this;exact this
     have C4:Hid (∀ W,au W (w.heap.size+1) 265 (pre S t)->W.cell? ⟨w.heap.size+1,t7,none⟩=some (.int .u32 (S.getD t7 0:Nat))):=aA fun W h=>by have:=h.cell (k:=t7) aB;rw[g1 t7 aB]at this;exact this
     have C5:Hid (∀ W,au W (w.heap.size+1) 265 (pre S t)->W.cell? ⟨w.heap.size+1,t,none⟩=some (.int .u32 ((pre S t).getD t 0:Nat))):=aA fun W h=>h.cell (k:=t) aB
     have b1:(t15:Int)<64:=aB;have b2:(t2:Int)<64:=aB;have b3:(t16:Int)<64:=aB;have b4:(t7:Int)<64:=aB;have b5:(t:Int)<64:=aB;have u1:(0:Int)<=(t15:Int):=aB;have u2:(0:Int)<=(t2:Int):=aB;have u3:(0:Int)<=(t16:Int):=aB;have u4:(0:Int)<=(t7:Int):=aB;have u5:(0:Int)<=(t:Int):=aB;have d1:decide ((t:Int)<64)=true:=decide_eq_true b5;clear ht15 ht2 ht16 ht7 g1 g2;generalize S.getD t 0=x0 at *;generalize S.getD t15 0=p at *;generalize S.getD t2 0=q at *;generalize S.getD t16 0=x3 at *;generalize S.getD t7 0=x4 at *;have r1:=aA (show ∀ W:World,Calls prog 238 #[.int .u32 (p:Int),.int .i64 7] W (Ret W (.int .u32 (Sha.rot p 7:Nat))) from fun W=>VE p 7 W l1 aB aB);have r2:=aA (show ∀ W:World,Calls prog 238 #[.int .u32 (p:Int),.int .i64 18] W (Ret W (.int .u32 (Sha.rot p 18:Nat))) from fun W=>VE p 18 W l1 aB aB);have r3:=aA (show ∀ W:World,Calls prog 238 #[.int .u32 (q:Int),.int .i64 17] W (Ret W (.int .u32 (Sha.rot q 17:Nat))) from fun W=>VE q 17 W l2 aB aB);have r4:=aA (show ∀ W:World,Calls prog 238 #[.int .u32 (q:Int),.int .i64 19] W (Ret W (.int .u32 (Sha.rot q 19:Nat))) from fun W=>VE q 19 W l2 aB aB);have x1:=sU (Sha.rot p 7) (Sha.rot p 18) (Sha.rot_lt p 7 l1) (Sha.rot_lt p 18 l1);have x2:bits .xor .u32 ((Sha.rot p 7 ^^^ Sha.rot p 18:Nat):Int) ((p:Int) / 8)=((Sha.s0 p:Nat):Int):=sU (Sha.rot p 7 ^^^ Sha.rot p 18) (p / 8) (Sha.xor_lt (Sha.rot_lt p 7 l1) (Sha.rot_lt p 18 l1)) aB;have x3':=sU (Sha.rot q 17) (Sha.rot q 19) (Sha.rot_lt q 17 l2) (Sha.rot_lt q 19 l2);have x4':bits .xor .u32 ((Sha.rot q 17 ^^^ Sha.rot q 19:Nat):Int) ((q:Int) / 1024)=((Sha.s1 q:Nat):Int):=sU (Sha.rot q 17 ^^^ Sha.rot q 19) (q / 1024) (Sha.xor_lt (Sha.rot_lt q 17 l2) (Sha.rot_lt q 19 l2)) aB;have l5:=Sha.s0_lt p l1;have l6:=Sha.s1_lt q l2;have a1:=SI x3 (Sha.s0 p);have a2:=SI (Sha.add32 x3 (Sha.s0 p)) x4;have a3:=SI (Sha.add32 (Sha.add32 x3 (Sha.s0 p)) x4) (Sha.s1 q);rw[<-hi]at a3;clear hi;generalize Sha.add32 (Sha.add32 x3 (Sha.s0 p)) x4=aa at *;generalize Sha.add32 x3 (Sha.s0 p)=ab at *;generalize Sha.s0 p=s0 at *;generalize Sha.s1 q=s1 at *;generalize Sha.rot p 7=p7 at *;generalize Sha.rot p 18=p18 at *;generalize Sha.rot q 17=q17 at *;generalize Sha.rot q 19=q19 at *;generalize p7 ^^^ p18=px at *;generalize q17 ^^^ q19=qxzz at *;have HA:=aA (And.intro n3 (And.intro n4 (And.intro a1 (And.intro a2 a3))));have HQ:=aA (And.intro n2 (And.intro x3' x4'));clear n3 n4 a1 a2 a3 n2 x3' x4';have HWo:=aA (WoS.mk HW.out HZ.out hbw);clear HW HZ hbw hsz;go_wp2_with fail;refine Ec 17 aG aG aG (fun i=>[.int .i64 t,.int .i64 t15,.pointer (some ⟨w.heap.size+1,t15,none⟩),.int .u32 p,.int .u32 p7,.int .i64 t,.int .i64 t15,.pointer (some ⟨w.heap.size+1,t15,none⟩),.int .u32 p,.int .u32 p18,.int .u32 px,.int .i64 t,.int .i64 t15,.pointer (some ⟨w.heap.size+1,t15,none⟩),.int .u32 p,.int .u32 ((p:Int) / 8),.int .u32 s0].getD i undef) (WoS w (pre S t) (pre S 0)) (HWo.out.keep (Below.drew (Below.refl _ _))) (fun _ _ h hb=>h.keep hb) ?_ ?_
     ·simp only[aZ,kM,Act.put,ag,bV];refine⟨fun W hS=>?_,fun W hS=>?_,fun W hS=>?_,fun W hS=>?_,fun W hS=>?_,fun W hS=>?_,fun W hS=>?_,fun W hS=>?_,fun W hS=>?_,fun W hS=>?_,fun W hS=>?_,fun W hS=>?_,fun W hS=>?_,fun W hS=>?_,fun W hS=>?_,fun W hS=>?_,fun W hS=>?_,trivial⟩;all_goals
       have c1:=C1.out _ hS.a;go_wp2_with (go_at_call 238;(first | (with_reducible refine (r1.out _).mono ?_) | (with_reducible refine (r2.out _).mono ?_));rintro e w2 ⟨rfl,hb2⟩);exact⟨rfl,rfl,aJ⟩
     intro w1 hW1;have HW1:=aA hW1;clear hW1 HWo x1 x2 n1 C1;simp only[aZ,kM,Act.put,ag,bV];obtain⟨n2,x3',x4'⟩:=HQ.out;go_upto_region 10 with fail
     refine Ec 17 aG aG aG (fun i=>[.int .i64 t,.int .i64 t2,.pointer (some ⟨w.heap.size+1,t2,none⟩),.int .u32 q,.int .u32 q17,.int .i64 t,.int .i64 t2,.pointer (some ⟨w.heap.size+1,t2,none⟩),.int .u32 q,.int .u32 q19,.int .u32 qxzz,.int .i64 t,.int .i64 t2,.pointer (some ⟨w.heap.size+1,t2,none⟩),.int .u32 q,.int .u32 ((q:Int) / 1024),.int .u32 s1].getD i undef) (WoS w (pre S t) (pre S 0)) (HW1.out.keep (Below.drew (Below.refl _ _))) (fun _ _ h hb=>h.keep hb) ?_ ?_
     ·simp only[aZ,kM,Act.put,ag,bV];refine⟨fun W hS=>?_,fun W hS=>?_,fun W hS=>?_,fun W hS=>?_,fun W hS=>?_,fun W hS=>?_,fun W hS=>?_,fun W hS=>?_,fun W hS=>?_,fun W hS=>?_,fun W hS=>?_,fun W hS=>?_,fun W hS=>?_,fun W hS=>?_,fun W hS=>?_,fun W hS=>?_,fun W hS=>?_,trivial⟩;all_goals
       have c1:=C2.out _ hS.a;go_wp2_with (go_at_call 238;(first | (with_reducible refine (r3.out _).mono ?_) | (with_reducible refine (r4.out _).mono ?_));rintro e w2 ⟨rfl,hb2⟩);exact⟨rfl,rfl,aJ⟩
     intro w2 hW2;have HW2:=aA hW2;clear hW2 HW1 HQ n2 x3' x4' C2 r1 r2 r3 r4;simp only[aZ,kM,Act.put,ag,bV];obtain⟨n3,n4,a1,a2,a3⟩:=HA.out;clear HA;go_upto_region 11 with fail
     obtain⟨wd,hwd⟩:∃ x:World,x=w2.drew:=⟨_,rfl⟩;have HWd:Hid (WoS w (pre S t) (pre S 0) wd):=aA (by rw[hwd];exact HW2.out.keep (Below.drew (Below.refl _ _)));have HWD:=aA hwd;clear hwd;have c3:=C3.out _ HWd.out.a;have c4:=C4.out _ HWd.out.a;have c5:=C5.out _ HWd.out.a;have f5:=HWd.out.a.free t;have hbd:=HWd.out.c;refine wp_region_still_tail 15 aG aG ?_;simp only[kM];change wpStill _ _ w2.drew _ _ _;rw[<-HWD.out];repeat still_step
     refine wpStill_nil ?_;change wpList _ _ _ _ _ w2.drew;rw[<-HWD.out];go_wp2_with fail;exact⟨⟨t+1,aB,aB,bg,aA (HN.out _ HWd.out.a),aA (HWd.out.b.far _ _ aH),aJ⟩,dD⟩
    ·have he:t=64:=aB;have HW2:Hid (au wr (w.heap.size+1) 265 S):=aA (by
      have:=HW.out;rw[he,aAg HS.out.len]at this;exact this)
     have hl:(w32 S).length=64:=by rw[uU,HS.out.len]
     have hi:(prog.info? 265).map (·.size)=some (w32 S).toArray.size:=by rw[List.size_toArray,hl];kernel_rfl
     have hpl:(w32 (pre S 0)).toArray.size=(w32 S).toArray.size:=by rw[List.size_toArray,List.size_toArray,hl,uU,oG HS.out.len aB]
     have h1:(w32 S).toArray.all (·.oneCell')=true:=by rw[List.all_toArray,List.all_eq_true];exact uV S
     clear he HW;go_wp2_with (first | (refine wpList_load_row rfl _ _ rfl (w.heap.size+1) rfl _ (w32 S).toArray (0,0) _ HW2.out underlying265 rfl hi ?_) | (refine wpList_store_row rfl _ _ _ rfl w.heap.size (w32 S).toArray rfl rfl _ _ HZ.out hi hpl h1 ?_));refine bodyPost_ret (v:=.agg (w32 S).toArray) ?_ rfl ⟨rfl,?_⟩
     ·exact results_cell_row rfl _ _ w.heap.size _ _ (0,0) _ rfl (setRow_heap _ _ _ _ _ _ HZ.out) underlying265 rfl hi
     ·exact below_setRow hbw (Nat.le_refl _) _
theorem aHb(n:Nat)(w:World)(hn:n<=1000000000000):Calls prog 239 #[.int .i64 (n:Int)] w (Ad (Sha.vint (2*n)) w):=by
 obtain⟨i0,hi,hz0,hz1,hz2⟩:=info_parts Ae;have HI:=aA (And.intro hi (And.intro hz0 (And.intro hz1 hz2)));clear hi hz0 hz1 hz2;have hzz:IntKind.u64.wrap ((n:Int)*2)=((2*n:Nat):Int):=by rw[show ((n:Int)*2)=((2*n:Nat):Int) by omega];exact IntWalk.u64_in _ aB
 obtain⟨V,hV⟩:∃ V,V=Sha.vint (2*n):=⟨_,rfl⟩;rw[<-hV];have HV:=aA hV;clear hV;have e63:(n:Int) / 9223372036854775808=0:=aB;go_enter func239,ntmps239;go_wp2;go_loopw [3,4] (fun zv ov wr=>∃(f z:Nat)(acc:List Nat)(A:Option Addr)(c:Nat),zv=.int .u64 (z:Int)/\ov=.slice A acc.length c/\z<128 ^ (f+1)/\f<=7/\acc.length+f=7/\Hid (V=acc++Sha.vintF (f+3) z)/\wr.ownsRow w.heap.size 5 1 (.slice A acc.length c) acc.length (b8 acc)/\aF w wr) (fun zv _ _=>(intOf zv).toNat)
 case atStart =>
  refine⟨7,2*n,[],none,0,aH,rfl,aP,aB,rfl,aA ?_,World.ownsRow_nil _ _ _ _,Below.refl _ _⟩;rw[HV.out];rfl
 case round =>
  obtain⟨f,z,acc,A,c,rfl,rfl,hz,hf,hfl,HVA,hown,hbr⟩:=hrel;have hbs:=hbr.size;have hzb:z<128 ^ 8:=Nat.lt_of_lt_of_le hz (Nat.pow_le_pow_right aK aB);have hz0:(0:Int)<=z:=aB;have hm1:(0:Int)<=(z:Int) % 128:=aB;have hm2:(z:Int) % 128<128:=aB;have hor:IntKind.u8.wrap ((z:Int) % 128+128)=((z % 128+128:Nat):Int):=by rw[show (z:Int) % 128+128=((z % 128+128:Nat):Int) by omega];exact IntWalk.u8_in _ aB
  obtain⟨k,hk⟩:∃ k,k=acc.length:=⟨_,rfl⟩;have hkk:k<=7:=aB;have HKL:=aA hk;rw[<-hk]at hown ⊢;clear hk;by_cases h:z<128
  ·have hV1:V=acc++[z]:=by
    rw[HVA.out];show acc++(if z<128 then [z] else _)=_;rw[if_pos h]
   have d1:decide (127<(z:Int))=false:=aP;have d2:decide ((128:Int)<=(z:Int))=false:=aP;have d3:decide ((z:Int)<128)=true:=aP;have hm:(z:Int) % 256=z:=aB;have HV1:=aA hV1;clear HVA hV1;go_wp2_with (at_builtin;refine wpList_append_own _ rfl _ _ 105 rfl w.heap.size 5 i0 (.int .u8 0) 1 1 underlying105 HI.out.1 HI.out.2.1 HI.out.2.2.1 HI.out.2.2.2 rfl aK _ _ _ rfl (hown.alloc _) ⟨wr.heap.size,0,none⟩ 1 1 [.int .u8 (z:Int)] rfl rfl (cell_one_new _ _ _) jJ dh aB aP ?_;intro v' w3 hown1 hgrow1 _;obtain⟨g1,cap1,rfl⟩:=ownsRow_succ hown1;have hb3:aF w w3:=(hbr.alloc hbs _).grown hgrow1 aP (fun r e=>fE hown r e);have hbs3:=hb3.size;clear hown);go_ret;refine⟨some ⟨g1,0,none⟩,cap1,?_,?_,hb3⟩
   ·rw[HV1.out,List.length_append,<-HKL.out];rfl
   ·rw[HV1.out,List.length_append,<-HKL.out,rQ];exact hown1
  ·have hV1:V=(acc++[z % 128+128])++Sha.vintF (f+2) (z / 128):=by
    rw[HVA.out];show acc++(if z<128 then [z] else (z % 128+128) :: Sha.vintF (f+2) (z / 128))=_;rw[if_neg h,List.append_assoc];rfl
   have d1:decide (127<(z:Int))=true:=aP;have d2:decide ((128:Int)<=(z:Int))=true:=aP;have d3:decide ((z:Int)<128)=false:=aP;have hf0:0<f:=by
    rcases Nat.eq_zero_or_pos f with h0 | h0
    ·subst h0;simp at hz;omega
    ·exact h0
   have hz2:z / 128<128 ^ (f-1+1):=by
    rw[show f-1+1=f by omega];rw[Nat.pow_succ]at hz;exact Nat.div_lt_of_lt_mul (by rw[Nat.mul_comm];exact hz)
   have HV1:=aA hV1;have HZ2:=aA hz2;clear HVA hV1 hz2 hz;go_wp2_with (at_builtin;refine wpList_append_own _ rfl _ _ 105 rfl w.heap.size 5 i0 (.int .u8 0) 1 1 underlying105 HI.out.1 HI.out.2.1 HI.out.2.2.1 HI.out.2.2.2 rfl aK _ _ _ rfl (hown.alloc _) ⟨wr.heap.size,0,none⟩ 1 1 [.int .u8 ((z % 128+128:Nat):Int)] rfl rfl (cell_one_new _ _ _) jJ dh aB aP ?_;intro v' w3 hown1 hgrow1 _;obtain⟨g1,cap1,rfl⟩:=ownsRow_succ hown1;have hb3:aF w w3:=(hbr.alloc hbs _).grown hgrow1 aP (fun r e=>fE hown r e);have hbs3:=hb3.size;clear hown);have hal:(acc++[z % 128+128]).length=k+1:=by rw[List.length_append,<-HKL.out];rfl
   refine⟨⟨f-1,z / 128,acc++[z % 128+128],some ⟨g1,0,none⟩,cap1,aH,by rw[hal],HZ2.out,aB,by rw[hal];have:=HKL.out;omega,aA ?_,?_,hb3⟩,?_⟩
   ·rw[HV1.out,show f-1+3=f+2 by omega]
   ·rw[hal,rQ];exact hown1
   ·simp[intOf];omega
theorem aHc(s:aC)(w:World)(hs:s.size<=1000000000000):Calls prog 182 #[.string s] w (Ad (Sha.wireB (nb s)) w):=by
 obtain⟨i0,hi,hz0,hz1,hz2⟩:=info_parts Ae;have HI:=aA (And.intro hi (And.intro hz0 (And.intro hz1 hz2)));clear hi hz0 hz1 hz2;have hin:=aHb s.size w hs;obtain⟨V,hV⟩:∃ V,V=Sha.vint (2*s.size):=⟨_,rfl⟩;have hW:Sha.wireB (nb s)=V++nb s:=by unfold Sha.wireB;rw[mF,hV]
 rw[<-hV]at hin;rw[hW];have hVl:V.length<=11:=by rw[hV];exact Sha.vint_len _
 obtain⟨k,hk⟩:∃ k,k=V.length:=⟨_,rfl⟩;have hkk:k<=11:=aB;have HKL:=aA hk;unfold Ad at hin;rw[<-hk]at hin;have HIN:=aA hin;clear hin hV hW hVl hk;go_enter func182,ntmps182;go_wp2_with (first | (go_at_call 239;refine HIN.out.mono ?_;rintro e w2 ⟨A,c,rfl,hown,hb2⟩) | (at_builtin;refine Lib.wpList_append_own_string _ rfl _ _ 105 9 rfl w.heap.size 5 i0 underlying105 underlying9 HI.out.1 HI.out.2.1 HI.out.2.2.1 HI.out.2.2.2 _ _ _ rfl hown s rfl dh aB uh ?_;intro v' w3 hown1 hgrow1 _));obtain⟨A',c',rfl⟩:=Af hown1;go_ret;have hl:(V++nb s).length=k+s.size:=by rw[List.length_append,mF,<-HKL.out]
 refine⟨A',c',by rw[hl];rfl,?_,hb2.grown hgrow1 uh (fun r e=>fE hown r e)⟩;rw[hl,rQ,<-TA];exact hown1
theorem aHd(W:World):(Instr.buildSlice 105 0 #[]).run prog W=.ok (.slice (some ⟨W.heap.size,0,none⟩) 0 0) (W.alloc (.cells #[] 5)):=by kernel_rfl
theorem aHe(A:Option Addr)(n c:Nat)(m:List Nat)(w:World)(hR:aI w 1 A n (b8 m))(hn:n<=100000000000):Calls prog 236 #[.slice A n c] w (Ad (Sha.pad m) w):=by
 obtain⟨i0,hi,hz0,hz1,hz2⟩:=info_parts Ae;have HI:=aA (And.intro hi (And.intro hz0 (And.intro hz1 hz2)));clear hi hz0 hz1 hz2;have hl:m.length=n:=aDd;obtain⟨p,hp⟩:∃ p,p=(119-n % 64) % 64:=⟨_,rfl⟩;have hp2:p<=63:=aB;have hp3:∀ i,i<=p->((n+1+i) % 64=56↔i=p):=by intro i hi;omega
 have hpad:Sha.pad m=(m++128 :: List.replicate p 0)++Sha.bytes8 (8*n):=by
  unfold Sha.pad;rw[hl,<-hp,List.append_assoc];rfl
 obtain⟨V,hV⟩:∃ V,V=Sha.pad m:=⟨_,rfl⟩;rw[<-hV]at hpad ⊢;have hown0:(w.alloc (.cells #[] 5)).ownsRow w.heap.size 5 1 (.slice (some ⟨w.heap.size,0,none⟩) 0 0) 0 []:=World.ownsRow_lit w #[] 0 (Nat.le_refl _) dh rfl;have hba:aF w (w.alloc (.cells #[] 5)):=(Below.refl _ _).alloc (Nat.le_refl _) _;have ra:=aI.keep hR hba;have HO0:=aA hown0;have HBA:=aA hba;have RA:=aA ra;have HP3:=aA hp3;have HPAD:=aA hpad;have HL:=aA hl;clear hown0 hba ra hR hp hp3 hpad hV hl;go_enter func236,ntmps236;go_upto_region 2 with (first
  | (refine Za rfl _ _ _ rfl #[] rfl _ _ (aHd _) ?_)
  | (at_builtin;refine XH _ rfl _ _ 105 rfl w.heap.size 5 i0 (.int .u8 0) 1 underlying105 HI.out.1 HI.out.2.1 HI.out.2.2.1 HI.out.2.2.2 rfl _ _ _ rfl HO0.out A n c (b8 m) rfl RA.out (nC _) dh aB aH ?_;intro v3 wr hown hg3;rw[Nat.zero_add,List.nil_append]at hown;have hbr:aF w wr:=HBA.out.grown hg3 aH (fun r e=>by have e2:w.heap.size=r:=Option.some.inj e;omega);clear hg3 HO0;have hbs:=hbr.size))
 clear RA HBA;go_wp2_with (first
  | (at_builtin;refine wpList_append_own _ rfl _ _ 105 rfl w.heap.size 5 i0 (.int .u8 0) 1 1 underlying105 HI.out.1 HI.out.2.1 HI.out.2.2.1 HI.out.2.2.2 rfl aK _ _ _ rfl (hown.alloc _) ⟨wr.heap.size,0,none⟩ 1 1 [.int .u8 128] rfl rfl (cell_one_new _ _ _) jJ dh aB aP ?_;intro v' w3 hown1 hgrow1 _;obtain⟨g1,cap1,rfl⟩:=ownsRow_succ hown1;have hb3:aF w w3:=(hbr.alloc aB _).grown hgrow1 aP (fun r e=>fE hown r e);clear hown hgrow1))
 clear hbr hbs;obtain⟨wo,rfl⟩:∃ wo:World,wo=wr:=⟨_,rfl⟩;have hownA:w3.ownsRow w.heap.size 5 1 (.slice (some ⟨g1,0,none⟩) (n+1+0) cap1) (n+1+0) (b8 (m++128 :: List.replicate 0 0)):=by
  have e:b8 (m++128 :: List.replicate 0 0)=b8 m++[.int .u8 128]:=by rw[rQ];rfl
  rw[e];exact hown1
 go_loopw [3] (fun pv wr=>∃(i:Nat)(A:Option Addr)(c:Nat),i<=p/\pv=.slice A (n+1+i) c/\wr.ownsRow w.heap.size 5 1 (.slice A (n+1+i) c) (n+1+i) (b8 (m++128 :: List.replicate i 0))/\aF w wr) (fun pv _=>match pv with | .slice _ k _=>n+1+p-k | _=>0)
 case atStart=>exact⟨0,_,_,aB,rfl,hownA,hb3⟩
 case round =>
  obtain⟨i,A,c,hi,rfl,hown,hbr⟩:=hrel;clear hownA hown1 hb3;have hbs:=hbr.size;have h56:=HP3.out i hi;by_cases h:i=p
  ·have hc:((n:Int)+1+(p:Int)) % 64=56:=by have:=h56.2 h;omega
   have hpad:m++128 :: List.replicate i 0=(m++128 :: List.replicate p 0)++(Sha.bytes8 (8*n)).take 0:=by rw[h];simp
   have hn1:n+1+i=n+1+p+0:=aB;rw[hpad,hn1]at hown;rw[hn1];clear hpad hn1 h56 h hi;go_wp2_with fail;obtain⟨wo,rfl⟩:∃ wo:World,wo=wr:=⟨_,rfl⟩;go_loopw [3,5] (fun pv jv wr=>∃(j:Nat)(A:Option Addr)(c:Nat),j<=8/\jv=.int .i64 j/\pv=.slice A (n+1+p+j) c/\wr.ownsRow w.heap.size 5 1 (.slice A (n+1+p+j) c) (n+1+p+j) (b8 ((m++128 :: List.replicate p 0)++(Sha.bytes8 (8*n)).take j))/\aF w wr) (fun _ jv _=>8-(intOf jv).toNat)
   case atStart=>exact⟨0,A,c,aB,rfl,rfl,hown,hbr⟩
   case round =>
    clear hbr hown hc;obtain⟨j,A,c,hj,rfl,rfl,hown,hbr⟩:=hrel;have hbs:=hbr.size;by_cases h8:j<8
    ·have hj8:j=0\/j=1\/j=2\/j=3\/j=4\/j=5\/j=6\/j=7:=aB;clear h8 hj;rcases hj8 with rfl | rfl | rfl | rfl | rfl | rfl | rfl | rfl
     ·exact aBl
     ·exact aBl
     ·exact aBl
     ·exact aBl
     ·exact aBl
     ·exact aBl
     ·exact aBl
     ·exact aBl
    ·have hj8:j=8:=aB;have hpt:(m++128 :: List.replicate p 0)++(Sha.bytes8 (8*n)).take j=V:=by rw[HPAD.out,hj8];rfl
     have hVl:V.length=n+1+p+j:=by
      rw[HPAD.out,hj8,List.length_append,List.length_append,List.length_cons,List.length_replicate,TR,HL.out];omega
     rw[hpt]at hown;rw[<-hVl]at hown ⊢;clear hpt;go_wp2_with fail;go_ret;exact⟨A,c,rfl,hown,hbr⟩
  ·have hc:¬ ((n:Int)+1+(i:Int)) % 64=56:=by
    intro e;exact h (h56.1 aB)
   go_wp2_with (first
    | (at_builtin;refine wpList_append_own _ rfl _ _ 105 rfl w.heap.size 5 i0 (.int .u8 0) 1 1 underlying105 HI.out.1 HI.out.2.1 HI.out.2.2.1 HI.out.2.2.2 rfl aK _ _ _ rfl (hown.alloc _) ⟨wr.heap.size,0,none⟩ 1 1 [.int .u8 0] rfl rfl (cell_one_new _ _ _) jJ dh aB aP ?_;intro v' w3 hown1 hgrow1 _;obtain⟨g1,cap1,rfl⟩:=ownsRow_succ hown1;have hb3:aF w w3:=(hbr.alloc aB _).grown hgrow1 aP (fun r e=>fE hown r e);clear hown hgrow1))
   have hown2:w3.ownsRow w.heap.size 5 1 (.slice (some ⟨g1,0,none⟩) (n+1+(i+1)) cap1) (n+1+(i+1)) (b8 (m++128 :: List.replicate (i+1) 0)):=by
    have e:b8 (m++128 :: List.replicate (i+1) 0)=b8 (m++128 :: List.replicate i 0)++[.int .u8 0]:=by
     rw[List.replicate_succ',show m++128 :: (List.replicate i 0++[0])=(m++128 :: List.replicate i 0)++[0] by simp,rQ];rfl
    rw[e];exact hown1
   exact⟨⟨i+1,_,_,aB,rfl,hown2,hb3⟩,by show n+1+p-(n+1+i+1)<n+1+p-(n+1+i);omega⟩
end Go.Proofs.YtlkbkclnbppigaaGreatDoor
