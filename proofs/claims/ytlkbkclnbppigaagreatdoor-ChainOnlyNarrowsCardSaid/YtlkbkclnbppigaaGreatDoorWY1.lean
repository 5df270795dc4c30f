/- The specification's words: what its letter, Word, has and Name return. -/
import Derived.Test.YtlkbkclnbppigaaGreatDoorWY0
import Derived.Test.YtlkbkclnbppigaaGreatDoorIZ26
set_option maxHeartbeats 8000000
namespace Go.Proofs.YtlkbkclnbppigaaGreatDoor
open Tryz
open Go.RowKit Go.Sort
set_option linter.unusedVariables false
set_option linter.unusedSimpArgs false
set_option maxRecDepth 100000
theorem aMf(c:Nat)(w:World)(hc:c<256):Calls prog 167 #[.int .u8 c] w (Ret w (.bool (jX c))):=by
 go_enter func167,ntmps167;go_wp2;all_goals
  go_ret;exact⟨fV (by first | (rw[Bool.eq_iff_iff];simp[jX];done) | (rw[Bool.eq_iff_iff];simp[jX];omega)),aJ⟩
def II(c:Nat)(l:List UInt8):Bool:=l.any fun b=>b.toNat==c
theorem aFa(s:aC)(k:Nat)(h:k<s.size):s.data.toList.take (k+1)=s.data.toList.take k++[s[k]]:=by
 rw[List.take_succ_eq_append_getElem nD];rfl
theorem aDm(b:UInt8)(c:Nat):((b.toNat:Int)==(c:Int))=(b.toNat==c):=by
 rw[Bool.eq_iff_iff,beq_iff_eq,beq_iff_eq];omega
theorem aMg(s:aC)(c:Nat)(w:World)(hs:s.size<=4294967281):Calls prog 106 #[.string s,.int .u8 c] w (Ret w (.bool (II c s.data.toList))):=by
 go_enter func106,ntmps106;go_wp2;go_loop [5] (fun i=>∃ k:Nat,i=.int .i64 k/\k<=s.size/\Hid (II c (s.data.toList.take k)=false)) (fun i=>s.size-(intOf i).toNat)
 case atStart=>exact⟨0,rfl,Nat.zero_le _,aA (by simp[II])⟩
 case round =>
  obtain⟨k,rfl,hk,HK⟩:=hrel;by_cases hlt:k<s.size
  ·have ht:II c (s.data.toList.take (k+1))=(II c (s.data.toList.take k)||(s[k].toNat==c)):=by rw[aFa s k hlt];simp[II]
   have hd:=aDm s[k] c;cases hb:(s[k].toNat==c)
   ·rw[hb]at ht hd;have HK2:Hid (II c (s.data.toList.take (k+1))=false):=aA (by rw[ht,HK.out];rfl);clear ht hb HK;go_wp2;go_round
    case rel=>exact⟨k+1,bg,aB,HK2⟩
    case measure=>simp[intOf];omega
   ·rw[hb]at ht hd;have HK2:Hid (II c s.data.toList=true):=aA (by
     have h2:II c (s.data.toList.take (k+1))=true:=by rw[ht,Bool.or_true]
     unfold II at h2 ⊢;rw[List.any_eq_true]at h2 ⊢;obtain⟨x,hx,h3⟩:=h2;exact⟨x,List.mem_of_mem_take hx,h3⟩)
    clear ht hb HK;go_wp2;go_ret;exact⟨fV HK2.out.symm,aJ⟩
  ·exact aHv
theorem aBw(s:aC)(w:World)(hs:s.size<=4294967281):Calls prog 105 #[.string s] w (Ret w (.bool (bW s))):=by
 by_cases h0:s.size=0
 ·have d0:((s.size:Int)==0)=true:=by simp[h0]
  have hv:bW s=false:=by
   have:s.data.toList=[]:=List.eq_nil_of_length_eq_zero xZ;simp[bW,Lib.toList_data,this]
  rw[hv];clear hv h0;exact aDn
 have d0:((s.size:Int)==0)=false:=beq_eq_false_iff_ne.2 aB;by_cases h1:s.size<=64;rotate_left
 ·have d1:decide ((64:Int)<(s.size:Int))=true:=decide_eq_true aB;have hv:bW s=false:=by simp[bW,h1]
  rw[hv];clear hv;exact aDn
 have d1:decide ((64:Int)<(s.size:Int))=false:=decide_eq_false aB;cases h2:(s.toList == [46])
 rotate_left
 ·have hv:bW s=false:=by simp[bW,h2]
  rw[hv];clear hv;exact aDn
 cases h3:(s.toList == [46,46])
 rotate_left
 ·have hv:bW s=false:=by simp[bW,h3]
  rw[hv];clear hv;exact aDn
 have hv:bW s=s.data.toList.all jW:=by
  have:s.toList.isEmpty=false:=by
   rw[Lib.toList_data];cases hl:s.data.toList with
   | nil=>rw[Lib.size_eq,hl]at h0;simp at h0
   | cons _ _=>rfl
  simp[bW,h2,h3,this,h1]
 rw[hv];clear hv;go_enter func105,ntmps105;go_wp2;go_loopw [3] (fun i wr=>∃ k:Nat,i=.int .i64 k/\k<=s.size/\Hid ((s.data.toList.take k).all jW=true)/\aF w wr) (fun i _=>s.size-(intOf i).toNat)
 case atStart=>exact⟨0,rfl,Nat.zero_le _,aA aH,Below.refl _ _⟩
 case round =>
  obtain⟨k,rfl,hk,HK,hbr⟩:=hrel;by_cases hlt:k<s.size
  ·have ht:(s.data.toList.take (k+1)).all jW=((s.data.toList.take k).all jW&&jW s[k]):=by rw[aFa s k hlt];simp
   have cL:=fun W=>aMf s[k].toNat W (s[k].toNat_lt)
   unfold jW at ht;generalize jX s[k].toNat=b at *;cases b
   ·have HK2:Hid (s.data.toList.all jW=false):=aA (by
     have h2:(s.data.toList.take (k+1)).all jW=false:=by unfold jW;rw[ht,Bool.and_false]
     rw[List.all_eq_false]at h2 ⊢;obtain⟨x,hx,h3⟩:=h2;exact⟨x,List.mem_of_mem_take hx,h3⟩)
    clear ht HK;have HL:=aA cL;clear cL;go_wp2_with (go_at_call 167;refine (HL.out _).mono ?_;rintro e w1 ⟨rfl,hb1⟩);go_ret;exact⟨fV HK2.out.symm,aJ⟩
   ·have HK2:Hid ((s.data.toList.take (k+1)).all jW=true):=aA (by have:=HK.out;unfold jW at this ⊢;rw[ht,this];rfl);clear ht HK;have HL:=aA cL;clear cL;go_wp2_with (go_at_call 167;refine (HL.out _).mono ?_;rintro e w1 ⟨rfl,hb1⟩);exact⟨⟨k+1,bg,aB,HK2,aJ⟩,dD⟩
  ·exact aHv
theorem aMh(s:aC):(bW s&&!II 46 s.data.toList)=bU s:=by
 unfold bU;congr 2;rw[Bool.eq_iff_iff,decide_eq_true_eq];unfold II;generalize s.data.toList=l;induction l with
 | nil=>simp[Lib.indexByte]
 | cons b l ih =>
  rw[Lib.indexByte,List.any_cons,Bool.or_eq_true];have hb:(b.toNat==46)=true↔(b==46)=true:=by
   rw[beq_iff_eq,beq_iff_eq,<-UInt8.toNat_inj];rfl
  rw[hb,ih];split
  ·simp[*]
  ·split
   ·rename_i h2;simp only[beq_iff_eq]at h2;simp[*]
   ·rename_i h1 h2;simp only[beq_iff_eq]at h2;have : -1<=Lib.indexByte l 46:=by
     rw[<-Lib.index_one];exact Lib.index_ge _ _
    simp only[h1,false_or,Bool.false_eq_true];omega
theorem aBx(s:aC)(w:World)(hs:s.size<=4294967281):Calls prog 50 #[.string s] w (Ret w (.bool (bU s))):=by
 have cW:=fun W=>aBw s W hs
 have cH:=fun W=>aMg s 46 W hs
 rw[<-aMh];generalize bW s=b at *;generalize II 46 s.data.toList=h at *;have HH:=aA cH;have HW:=aA cW;clear cH cW;cases b
 ·go_enter func50,ntmps50;go_wp2_with (go_at_call 105;refine (HW.out _).mono ?_;rintro e w1 ⟨rfl,hb1⟩);go_ret;exact⟨rfl,aJ⟩
 ·go_enter func50,ntmps50;go_wp2_with (first | (go_at_call 105;refine (HW.out _).mono ?_;rintro e w1 ⟨rfl,hb1⟩) | (go_at_call 106;refine (HH.out _).mono ?_;rintro e w2 ⟨rfl,hb2⟩));go_ret;exact⟨fV aH,aJ⟩
theorem aHw(s:aC)(k j:Nat):iW s (k+1) j=if j=k then (if 65<=iW s k k/\iW s k k<=90 then iW s k k+32 else iW s k k) else iW s k j:=by
 rw[IY];split
 ·split <;> omega
 ·rfl
theorem aMi(s:aC)(w:World)(hs:s.size<=4294967281):Calls prog 241 #[.string s] w (Ret w (.string ⟨(iI s.data.toList).toArray⟩)):=by
 have hcv:=fun W=>run_bytes_of_string (P:=prog) W 9 105 5 s underlying9 underlying105 underlying5
 go_enter func241,ntmps241;go_wp2;clear hcv;obtain⟨R,hR⟩:∃ R,bytesRow s (grownCap w s.size 0 5)=R:=⟨_,rfl⟩;obtain⟨C,hC⟩:∃ C,grownCap w s.size 0 5=C:=⟨_,rfl⟩;have hrow:∀ j,j<s.size->R[j]? = some (.int .u8 (iW s 0 j)):=by
  intro j hj;rw[<-hR,bytesRow_at _ _ _ hj];simp only[iW,Nat.not_lt_zero,if_false];have hl:j<s.data.toList.length:=by rw[<-Lib.size_eq];exact hj
  rw[List.getElem?_eq_getElem hl];rfl
 have hRs:s.size<=R.size:=by rw[<-hR];simp only[bytesRow,Array.size_append,Array.size_map];exact Nat.le_add_right _ _
 rw[hR,hC];clear hR hC;go_loopw [4] (fun i wr=>∃(k:Nat)(R':Array Value),k<=s.size/\i=.int .i64 k/\Blk wr w.heap.size 5 R' (R.size,R.size+1)/\(∀ j,j<s.size->R'[j]? = some (.int .u8 (iW s k j)))/\aF w wr) (fun i _=>s.size-(intOf i).toNat)
 case atStart=>exact⟨0,R,aB,rfl,heap_alloc_new w _,hrow,aJ⟩
 case round =>
  obtain⟨k,R',hk,rfl,hB,hr,hb⟩:=hrel;have H:=aA hr;clear hr hrow;by_cases hlt:k<s.size
  ·have hcell:wr.cell? ⟨w.heap.size,k,none⟩=some (.int .u8 (iW s k k)):=by rw[hB.cell];exact H.out k hlt
   have hfree:=hB.free k aP;have hbd:=Ui s k k;go_wp2
   ·refine⟨⟨k+1,_,aB,bg,hB.set_ k _,fun j hj=>?_,aJ⟩,dD⟩;rw[Array.getElem?_setIfInBounds,aHw];have hkR:k<R'.size:=by
     have:=H.out k hlt;exact (Array.getElem?_eq_some_iff.1 this).1
    by_cases e:k=j
    ·subst e;rw[if_pos rfl,if_pos hkR,if_pos rfl,if_pos ⟨dJ,dJ⟩]
    ·rw[if_neg e,if_neg (Ne.symm e)];exact H.out j hj
   all_goals
    refine⟨⟨k+1,_,aB,bg,hB,fun j hj=>?_,hb⟩,dD⟩;rw[H.out j hj,aHw];by_cases e:j=k
    ·subst e;rw[if_pos rfl,if_neg aB]
    ·rw[if_neg e]
  ·obtain rfl:k=s.size:=aB;have hback:∀ c,(convert 105 9 (.slice (some ⟨w.heap.size,0,none⟩) s.size c)).run prog wr=.ok (.string ⟨(iI s.data.toList).toArray⟩) wr:=fun c =>
    Uh wr 105 9 5 ⟨w.heap.size,0,none⟩ s.size c (iI s.data.toList) (by simp[iI]) underlying105 underlying5 underlying9 (fun j hj=>by
     have hj':j<s.size:=by rw[Lib.size_eq];simpa[iI] using hj
     have e:(⟨w.heap.size,0,none⟩:Addr).add j=⟨w.heap.size,j,none⟩:=nH
     rw[e,hB.cell,H.out j hj',Uj s j hj])
   go_wp2;go_ret;exact⟨rfl,hb⟩
theorem aHx(l:List UInt8)(k:Nat)(hk:k<l.length):l=l.take k++l[k] :: l.drop (k+1):=by
 rw[<-List.drop_eq_getElem_cons hk,List.take_append_drop]
def aCh(s:aC)(c:UInt8):Value:=.tuple #[.string (toB (Lib.cut s.data.toList [c]).1),.string (toB (Lib.cut s.data.toList [c]).2.1),.bool (Lib.cut s.data.toList [c]).2.2]
theorem aHy(s:aC)(c:UInt8)(w:World)(hs:s.size<=4294967281):Calls prog 240 #[.string s,.int .u8 c.toNat] w (Ret w (aCh s c)):=by
 go_enter func240,ntmps240;go_wp2;go_loopw [7] (fun i wr=>∃ k:Nat,i=.int .i64 k/\k<=s.size/\Hid (c ∉ s.data.toList.take k)/\aF w wr) (fun i _=>s.size-(intOf i).toNat)
 case atStart=>exact⟨0,rfl,Nat.zero_le _,aA aH,Below.refl _ _⟩
 case round =>
  obtain⟨k,rfl,hk,HK,hbr⟩:=hrel;by_cases hlt:k<s.size
  ·have hd:=aDm s[k] c.toNat;have hkl:k<s.data.toList.length:=by rw[<-Lib.size_eq];exact hlt
   have hat:=SE s k hlt;cases hb:(s[k].toNat==c.toNat)
   ·rw[hb]at hd;have hne:s[k] ≠ c:=fun e=>by rw[e]at hb;simp at hb
    have HK2:Hid (c ∉ s.data.toList.take (k+1)):=aA (by
     rw[aFa s k hlt];simp only[List.mem_append,List.mem_singleton,not_or];exact⟨HK.out,fun e=>hne e.symm⟩)
    clear hb HK hat hne;go_wp2;exact⟨⟨k+1,bg,aB,HK2,hbr⟩,dD⟩
   ·rw[hb]at hd;have he:s[k]=c:=by rw[beq_iff_eq]at hb;exact UInt8.toNat_inj.1 hb
    have hv:aCh s c=.tuple #[.string (s.extract 0 k),.string (s.extract (k+1) s.size),.bool true]:=by
     have h1:=aHx s.data.toList k hkl;rw[<-hat,he]at h1;have h2:Lib.cut s.data.toList [c]=(s.data.toList.take k,s.data.toList.drop (k+1),true):=by
      conv=>lhs;rw[h1]
      exact RZ _ _ _ HK.out
     unfold aCh;rw[h2];have e1:toB (s.data.toList.take k)=s.extract 0 k:=fK (by rw[Lib.extract_data];simp[toB]);have e2:toB (s.data.toList.drop (k+1))=s.extract (k+1) s.size:=fK (by rw[Lib.extract_to_end];rfl);rw[e1,e2]
    have HV:=aA hv;have hk0:(0:Int)<=(k:Int):=aB;have hk1:(k:Int)+1<=(s.size:Int):=aB;have hk2:(k:Int)<=(s.size:Int):=aB;clear hb HK hat he hv;go_wp2_with fail;go_quiet (fail);go_wp2;go_ret3;rw[HV.out];exact⟨rfl,aJ⟩
  ·have hv:aCh s c=.tuple #[.string s,.string ⟨#[]⟩,.bool false]:=by
    have h1:=HK.out;rw[List.take_of_length_le (by rw[<-Lib.size_eq];omega)]at h1;unfold aCh;rw[Rf _ _ h1];rfl
   have HV:=aA hv;clear hv HK;go_wp2;go_ret3;rw[HV.out];exact⟨rfl,aJ⟩
def aBp(c:UInt8)(l:List UInt8)(k f:Nat)(acc:List aC):Prop:=f<=k/\c ∉ (l.drop f).take (k-f)/\(dO c l).map toB=acc++(dO c (l.drop f)).map toB
theorem aMj{c:UInt8}{l:List UInt8}{k f:Nat}{acc:List aC}(h:aBp c l k f acc)(hk:k<l.length)(hne:l[k] ≠ c):aBp c l (k+1) f acc:=by
 obtain⟨h1,h2,h3⟩:=h;refine⟨aB,?_,h3⟩;have hl:k-f<(l.drop f).length:=aFb;rw[show k+1-f=(k-f)+1 by omega,List.take_succ_eq_append_getElem hl];simp only[List.mem_append,List.mem_singleton,not_or];refine⟨h2,?_⟩;rw[List.getElem_drop];intro e;apply hne;rw[e];congr 1;omega
theorem aMk{c:UInt8}{l:List UInt8}{k f:Nat}{acc:List aC}(h:aBp c l k f acc)(hk:k<l.length)(he:l[k]=c):aBp c l (k+1) (k+1) (acc++[toB ((l.drop f).take (k-f))]):=by
 obtain⟨h1,h2,h3⟩:=h;refine⟨Nat.le_refl _,aH,?_⟩;have hl:k-f<(l.drop f).length:=aFb;have hs:=aHx (l.drop f) (k-f) hl;have e1:(l.drop f)[k-f]=c:=by
  rw[List.getElem_drop,<-he];congr 1;omega
 rw[e1,List.drop_drop,show f+(k-f+1)=k+1 by omega]at hs;have hsp:dO c (l.drop f)=(l.drop f).take (k-f) :: dO c (l.drop (k+1)):=by
  conv=>lhs;rw[hs]
  exact FZ _ _ _ h2
 rw[h3,hsp];simp
theorem aMl{c:UInt8}{l:List UInt8}{f:Nat}{acc:List aC}(h:aBp c l l.length f acc):(dO c l).map toB=acc++[toB (l.drop f)]:=by
 obtain⟨h1,h2,h3⟩:=h;rw[List.take_of_length_le aFb]at h2;rw[h3,Fa _ _ h2];rfl
theorem aMm(c:UInt8)(s:aC):splitB c s=(dO c s.data.toList).map toB:=rfl
theorem aFc(s:aC)(c:UInt8)(w:World)(hs:s.size<=4294967281):Calls prog 188 #[.string s,.int .u8 c.toNat] w (GZ (splitB c s) w):=by
 obtain⟨i0,hi0,hz0,hz1,hz2⟩:=info_parts rY;have HI:Hid ((prog.info? 9=some i0)/\i0.zero=some (.string ⟨#[]⟩)/\i0.size=1/\i0.bytes=16):=aA ⟨hi0,hz0,hz1,hz2⟩;clear hi0 hz0 hz1 hz2;have hsl:s.data.toList.length=s.size:=(Lib.size_eq s).symm;have HSL:=aA hsl;clear hsl;go_enter func188,ntmps188;go_wp2;go_loopw [5,6,7] (fun vo vf vi wr=>∃(k f n:Nat)(acc:List aC)(A:Option Addr)(c':Nat),(vi=.int .i64 k/\vf=.int .i64 f/\vo=.slice A n c'/\k<=s.size/\f<=k/\n<=k)/\Hid (aBp c s.data.toList k f acc/\acc.length=n)/\wr.ownsRow w.heap.size 9 1 (.slice A n c') n (acc.map .string)/\aF w wr) (fun _ _ i _=>s.size-(intOf i).toNat)
 case atStart=>exact⟨0,0,0,[],none,0,⟨rfl,rfl,rfl,Nat.zero_le _,Nat.le_refl _,Nat.le_refl _⟩,aA ⟨⟨Nat.le_refl _,aH,aH⟩,rfl⟩,World.ownsRow_nil _ _ _ _,Below.refl _ _⟩
 case round =>
  obtain⟨k,f,n,acc,A,c',⟨rfl,rfl,rfl,hk,hf,hn⟩,HK,hown,hbr⟩:=hrel;have hbs:=hbr.size;by_cases hlt:k<s.size
  ·have hd:=aDm s[k] c.toNat;have hkl:k<s.data.toList.length:=by rw[HSL.out];exact hlt
   have hat:=SE s k hlt;cases hb:(s[k].toNat==c.toNat)
   ·rw[hb]at hd;have hne:s.data.toList[k] ≠ c:=fun e=>by rw[<-hat]at e;rw[e]at hb;simp at hb
    have HK2:Hid (aBp c s.data.toList (k+1) f acc/\acc.length=n):=aA ⟨aMj HK.out.1 hkl hne,HK.out.2⟩;clear hb HK hat hne hkl;go_wp2;exact⟨⟨k+1,f,n,acc,A,c',⟨bg,rfl,rfl,aB,aB,aB⟩,HK2,hown,hbr⟩,dD⟩
   ·rw[hb]at hd;have he:s.data.toList[k]=c:=by rw[<-hat];rw[beq_iff_eq]at hb;exact UInt8.toNat_inj.1 hb
    have hpc:toB ((s.data.toList.drop f).take (k-f))=s.extract f k:=fK (by rw[Lib.extract_data];rfl);have hhit:=aMk HK.out.1 hkl he;rw[hpc]at hhit;have HK2:Hid (aBp c s.data.toList (k+1) (k+1) (acc++[s.extract f k])/\(acc++[s.extract f k]).length=n+1):=aA ⟨hhit,by simp[HK.out.2]⟩;have hk0:(0:Int)<=(f:Int):=aB;have hk1:(f:Int)<=(k:Int):=aB;have hk2:(k:Int)<=(s.size:Int):=aB;clear hb HK hat he hkl hpc hhit;go_wp2_with (at_builtin;refine wpList_append_own _ rfl _ _ 24 rfl w.heap.size 9 i0 (.string ⟨#[]⟩) 1 16 underlying24 HI.out.1 HI.out.2.1 HI.out.2.2.1 HI.out.2.2.2 rfl aK _ _ _ rfl (hown.alloc _) ⟨wr.heap.size,0,none⟩ 1 1 [.string (s.extract f k)] rfl rfl (cell_one_new _ _ _) jJ dh aB aP ?_;intro v' w3 hown' hgrow _;obtain⟨g',cap',rfl⟩:=ownsRow_succ hown');exact⟨⟨k+1,k+1,n+1,acc++[s.extract f k],some ⟨g',0,none⟩,cap',⟨bg,bg,rfl,aB,aB,aB⟩,HK2,by rw[List.map_append];exact hown',(hbr.alloc hbs _).grown hgrow aP (fun r e=>fE hown r e)⟩,dD⟩
  ·obtain rfl:k=s.size:=aB;have hpc:toB (s.data.toList.drop f)=s.extract f s.size:=fK (by rw[Lib.extract_to_end];rfl);have hend:splitB c s=acc++[s.extract f s.size]:=by
    rw[aMm,<-hpc];exact aMl (by rw[HSL.out];exact HK.out.1)
   have hlen:(splitB c s).length=n+1:=by rw[hend];simp[HK.out.2]
   have HEND:=aA hend;have HLEN:=aA hlen;have hk0:(0:Int)<=(f:Int):=aB;have hk1:(f:Int)<=(s.size:Int):=aB;clear hpc hend hlen HK;go_wp2_with (at_builtin;refine wpList_append_own _ rfl _ _ 24 rfl w.heap.size 9 i0 (.string ⟨#[]⟩) 1 16 underlying24 HI.out.1 HI.out.2.1 HI.out.2.2.1 HI.out.2.2.2 rfl aK _ _ _ rfl (hown.alloc _) ⟨wr.heap.size,0,none⟩ 1 1 [.string (s.extract f s.size)] rfl rfl (cell_one_new _ _ _) jJ dh aB aP ?_;intro v' w3 hown' hgrow _;obtain⟨g',cap',rfl⟩:=ownsRow_succ hown');go_ret;refine⟨some ⟨g',0,none⟩,cap',by rw[HLEN.out];rfl,?_,(hbr.alloc hbs _).grown hgrow aP (fun r e=>fE hown r e)⟩;rw[HLEN.out,HEND.out,List.map_append];exact hown'
def aBl(w:World)(g:Nat)(c:aC)(P:Option Addr)(np cp:Nat)(Q:Option Addr)(nq cq:Nat):Prop:=Blk w g 200 #[.string c,.slice P np cp,.slice Q nq cq] (0,0)
theorem aMn(c:aC)(xs:List aC)(k:Nat)(x:aC)(h:xs[k]? = some x):toB (kz c xs k)++⟨#[47]⟩++x=toB (kz c xs (k+1)):=by
 rw[Oq c xs k x h];exact fK (by simp[toB])
theorem aMo(c:aC)(xs:List aC)(qs:List (aC × aC))(k:Nat)(q:aC × aC)(h:qs[k]? = some q):toB (lY c xs qs k)++oC k++q.1++⟨#[61]⟩++q.2=toB (lY c xs qs (k+1)):=by
 rw[Ov c xs qs k q h];exact fK (by simp[toB])
theorem aHz(c:aC)(P Q:Option Addr)(np cp nq cq:Nat)(xs:List aC)(qs:List (aC × aC))(w:World)(hP:aI w 1 P np (xs.map .string))(hQ:aI w 2 Q nq (eY qs))(htot:(W06 c xs qs).length<=1000000000) :
  Calls prog 259 #[.agg #[.string c,.slice P np cp,.slice Q nq cq]] w (Ret w (.string (toB (W06 c xs qs)))):=by
 have hnp:xs.length=np:=by have:=hP.1;simp at this;omega
 have hnq:qs.length=nq:=by have:=hQ.1;rw[Ox]at this;omega
 have hc0:toB (kz c xs 0)=c:=by simp[kz,dF,toB]
 have hend1:=Zn c xs qs np aB;have hend2:=Zo c xs qs nq aB;have HP:=aA hP;have HQ:=aA hQ;have HNP:=aA hnp;have HNQ:=aA hnq;have HC0:=aA hc0;have HE1:=aA hend1;have HE2:=aA hend2;have HT:=aA htot;have hnp9:np<=1000000000:=by
  have:=Dw (az xs);simp only[W06,kU,List.length_append]at htot;simp only[az,List.length_map]at this htot;omega
 have hnq9:nq<=1000000000:=by
  have:=Oy 63 (fO qs);simp only[W06,kU,List.length_append]at htot;simp only[fO,List.length_map]at this htot;omega
 clear hP hQ hnp hnq hc0 hend1 hend2 htot;go_enter func259,ntmps259;go_wp2;have hX0:aBl (w.alloc (.cells #[.string c,.slice P np cp,.slice Q nq cq] 200)) w.heap.size c P np cp Q nq cq:=World.alloc_heap_new _ _;go_loopw [3,4] (fun vs vi wr=>∃ k:Nat,vi=.int .i64 k/\k<=np/\vs=.string (toB (kz c xs k))/\aBl wr w.heap.size c P np cp Q nq cq/\aF w wr) (fun _ i _=>np-(intOf i).toNat)
 case atStart=>exact⟨0,rfl,Nat.zero_le _,by rw[HC0.out],hX0,aU (Below.refl _ _) _⟩
 case round =>
  clear hX0;obtain⟨k,rfl,hk,rfl,hX,hbr⟩:=hrel;have x1:wr.cell? ⟨w.heap.size,1,none⟩=some (.slice P np cp):=Blk.cell hX 1;have x2:wr.cell? ⟨w.heap.size,2,none⟩=some (.slice Q nq cq):=Blk.cell hX 2;by_cases hlt:k<np
  ·obtain⟨x,hx⟩:∃ x,xs[k]? = some x:=⟨_,List.getElem?_eq_getElem (by have:=HNP.out;omega)⟩;obtain⟨b,o,rfl,hcell⟩:=(HP.out.keep hbr).2 aB;have hc1:wr.cell? ⟨b,o+k,none⟩=some (.string x):=hcell k _ gB;have HS:=aA (aMn c xs k x hx);have hz1:(toB (kz c xs k)).size<=1000000000:=by rw[mg];have:=Zl c xs qs k;have:=HT.out;omega
   have hz2:x.size<=1000000000:=by have:=aAe c xs qs x (List.mem_of_getElem? hx);have:=HT.out;omega
   generalize toB (kz c xs k)=S at *;clear hcell hx;go_wp2;exact⟨⟨k+1,bg,aB,congrArg Value.string HS.out,hX,hbr⟩,dD⟩
  ·obtain rfl:k=np:=aB;have he:=HE1.out;rw[he];clear he HE1;go_wp2;clear x1 x2;obtain⟨wo,rfl⟩:∃ wo:World,wo=wr:=⟨_,rfl⟩;go_loopw [3,5] (fun vs vi wz=>∃ j:Nat,vi=.int .i64 j/\j<=nq/\vs=.string (toB (lY c xs qs j))/\aBl wz w.heap.size c P k cp Q nq cq/\aF w wz) (fun _ i _=>nq-(intOf i).toNat)
   case atStart=>exact⟨0,rfl,Nat.zero_le _,rfl,hX,hbr⟩
   case round =>
    clear hX hbr;obtain⟨j,rfl,hj,rfl,hX,hbr⟩:=hrel;have x2:wr.cell? ⟨w.heap.size,2,none⟩=some (.slice Q nq cq):=Blk.cell hX 2;by_cases hlt2:j<nq
    ·obtain⟨q,hq⟩:∃ q,qs[j]? = some q:=⟨_,List.getElem?_eq_getElem (by have:=HNQ.out;omega)⟩;obtain⟨b,o,rfl,hcell⟩:=(HQ.out.keep hbr).2 aB;obtain⟨e1,e2⟩:=Du qs j q hq;have hc1:wr.cell? ⟨b,o+j*2,none⟩=_:=hcell _ _ e1;have hc2:wr.cell? ⟨b,o+j*2+1,none⟩=_:=hcell _ _ e2;have hadd:=aMo c xs qs j q hq;have hz1:(toB (lY c xs qs j)).size<=1000000000:=by rw[mg];have:=Zm c xs qs j;have:=HT.out;omega
     have hz2:q.1.size<=1000000000/\q.2.size<=1000000000:=by have:=aAf c xs qs q (List.mem_of_getElem? hq);have:=HT.out;omega
     obtain⟨hz2,hz3⟩:=hz2;obtain⟨qk,qv⟩:=q;dsimp only at hc1 hc2 hadd hz2 hz3;have hj0:(0:Int)<=(j:Int):=aB;have hj1:(j:Int)<(nq:Int):=aB;clear hcell hq e1 e2;by_cases h0:j=0
     ·subst h0;simp only[Nat.zero_mul,Nat.add_zero]at hc1 hc2;have HS:Hid (toB (lY c xs qs 0)++⟨#[63]⟩++qk++⟨#[61]⟩++qv=toB (lY c xs qs (0+1))):=aA hadd;generalize toB (lY c xs qs 0)=S at *;exact aIa
     ·have HS:Hid (toB (lY c xs qs j)++⟨#[38]⟩++qk++⟨#[61]⟩++qv=toB (lY c xs qs (j+1))):=aA (by simpa[oC,h0] using hadd);have hd:((j:Int)==0)=false:=beq_eq_false_iff_ne.2 aB;generalize toB (lY c xs qs j)=S at *;exact aIa
    ·obtain rfl:j=nq:=aB;have he:=HE2.out;rw[he];go_wp2;go_ret;exact⟨rfl,hbr⟩
def leS(s x:aC):Bool:=Op.bytesLess s.toList x.toList||s.toList==x.toList
theorem aMp{α β:Type}(f:β->α->β)(b:β){l:List α}{k:Nat}{x:α}(hx:l[k]? = some x):(l.take (k+1)).foldl f b=f ((l.take k).foldl f b) x:=by
 rw[List.take_add_one,hx];simp
theorem aMq{z:Pat}(hz:lK z):qJ (Ht z)=true/\(dB (Ht z)).1=exA z:=by
 have hn:(qN z.parts).length<=32:=by
  have:=hz.num;rw[uQ];split at this <;> omega
 have:=aHj (aCp hz.cust (c:=97) (.inl rfl)) (aDd hz.parts) hn;unfold Ht;rw[this.1];exact⟨this.2,rfl⟩
theorem aIb{p:aC}(hp:gY p=true):qJ (VF p)=true/\pmA p (dB (VF p)).1=true:=by
 obtain⟨x,hx,fx⟩:=aBi hp;have e:VF p=match jL x aBo with
  | some z=>Ht z
  | none=>⟨#[]⟩:=by
  unfold VF mQ
  rw[hx,aEw]
  dsimp only
  cases jL x aBo <;> rfl
 rw[e];cases h:jL x aBo with
 | none =>
  have:=aHe fx aDe h (exA x);rw[aDc fx,aHs]at this;cases this
 | some z =>
  obtain⟨fz,hm⟩:=Hg fx aDe h;show qJ (Ht z)=true/\pmA p (dB (Ht z)).1=true;obtain⟨h1,h2⟩:=aMq fz;refine⟨h1,?_⟩;rw[h2];have:=hm (exA z);rw[aDc fz]at this;have h3:=this.symm;rw[Bool.and_eq_true]at h3;unfold pmA;rw[hx];exact h3.1
theorem aFd{α:Type} [DecidableEq α] (l:List α) (d:α):bG l (l.headD d)=true:=by
 rw[aBk];cases l with
 | nil=>exact .inl rfl
 | cons x l=>exact .inr aH
theorem aFe{α:Type}(l:List α)(d:α)(right:α->Bool)(h:∀ x∈l,right x=true)(hd:right d=true):right (l.headD d)=true:=by
 cases l with
 | nil=>exact hd
 | cons x l=>exact h x aH
theorem aMr:iV ⟨#[97,97]⟩=true:=by decide
theorem aMs{c:aY}(hc:jc c):uz (qZ c)=true:=by
 have h0:=hc.fr0;have h1:=hc.fr1;unfold uz qZ;simp only[Bool.and_eq_true,decide_eq_true_eq];exact⟨⟨⟨⟨(aIb hc.pat).1,aFe c.cl _ bU hc.cl (aDa (.inl rfl))⟩,aFe c.co _ iV hc.co aMr⟩,aFe c.si _ jb hc.si aK⟩,h0,aB,h1⟩
theorem aMt{c:aY}(hc:jc c)(hlt:c.fr<c.till):fM c (qZ c)=true:=by
 rw[VE hc];exact⟨aMs hc,⟨by show c.fr<=c.fr;omega,hlt⟩,(aIb hc.pat).2,aFd _ _,aFd _ _,aFd _ _⟩
theorem aFf{α:Type} [DecidableEq α] {a b all:List α} {x:α} (h:Bf a b all=some x):(a=[]/\x∈all\/x∈a)/\bG b x=false:=by
 have h1:=List.mem_of_find?_eq_some h;have h2:=List.find?_some h;refine⟨?_,by simpa using h2⟩;cases a with
 | nil=>exact .inl ⟨rfl,h1⟩
 | cons y l=>exact .inr h1
theorem aIc{α:Type} [DecidableEq α] {a b all:List α} (h:Bf a b all=none):∀ x∈(if a.isEmpty then all else a),bG b x=true:=by
 intro x hx;have:=List.find?_eq_none.1 h x hx;simpa using this
theorem aId{α:Type} [DecidableEq α]:∀(l m:List α),l.Nodup->(∀ x∈l,x∈m)->l.length<=m.length
 | [],_,_,_=>Nat.zero_le _
 | x :: l,m,hn,hs=>by
  have hn':=List.nodup_cons.1 hn;have:=aId l (m.erase x) hn'.2 fun y hy=>(List.mem_erase_of_ne (fun e=>hn'.1 (by rw[<-e];exact hy))).2 (hs y qH)
  have h2:=List.length_erase_of_mem (hs x aH);have h3:=List.length_pos_of_mem (hs x aH);simp only[List.length_cons];omega
theorem aIe{α:Type} [DecidableEq α] {a b all:List α} (hn:all.Nodup) (hl:b.length<all.length):Bf a b all=none↔FX a b=true:=by
 rw[aBu];constructor
 ·intro h;have h1:=aIc h;by_cases hb:b=[]
  ·exact .inl hb
  ·right;cases a with
   | nil =>
    exfalso;have:∀ x∈all,x∈b:=fun x hx=>by
     have:=(aBk b x).1 (h1 x hx);exact this.resolve_left hb
    have:=aId all b hn this;omega
   | cons y l =>
    exact⟨aH,fun x hx=>((aBk b x).1 (h1 x hx)).resolve_left hb⟩
 ·intro h;refine List.find?_eq_none.2 fun x hx=>?_
  have:bG b x=true:=by
   rw[aBk];rcases h with h | ⟨h1,h2⟩
   ·exact .inl h
   ·have:a.isEmpty=false:=by cases a;exact absurd rfl h1;rfl
    rw[this]at hx;exact .inr (h2 x hx)
  simp[this]
theorem aMu{a b:List Int}:Bf a b Bg=none↔F6 a b=true:=by
 rw[aCf];have e:(if a.isEmpty then Bg else a)=aCe a:=rfl;constructor
 ·intro h;have h1:=aIc h;rw[e]at h1;by_cases hb:b=[]
  ·exact .inl hb
  ·exact .inr fun x hx=>((aBk b x).1 (h1 x hx)).resolve_left hb
 ·intro h;unfold Bf;rw[e];refine List.find?_eq_none.2 fun x hx=>?_
  have:bG b x=true:=by
   rw[aBk];rcases h with h | h
   ·exact .inl h
   ·exact .inr (h x hx)
  simp[this]
theorem aIf{α β:Type}(f:α->β)(l:List α)(hl:l.Nodup)(hf:∀ x∈l,∀ y∈l,f x=f y->x=y):(l.map f).Nodup:=by
 refine List.pairwise_map.2 (hl.imp_of_mem fun {x y} hx hy hne e=>hne (hf x hx y hy e))
theorem aMv:VG.Nodup:=by
 refine aIf _ _ List.nodup_range fun x hx y hy e=>?_
 have hx:=List.mem_range.1 hx;have hy:=List.mem_range.1 hy;have e:=congrArg (fun b:aC=>b.data.toList) e;simp only[List.cons.injEq,and_true,true_and]at e;exact aIg
theorem aMw:VH.Nodup:=by
 refine aIf _ _ List.nodup_range fun x hx y hy e=>?_
 have hx:=List.mem_range.1 hx;have hy:=List.mem_range.1 hy;have e:=congrArg (fun b:aC=>b.data.toList) e;simp only[List.cons.injEq,and_true]at e;exact aIg
theorem aMx:∀ x∈VG,bU x=true:=by
 intro x hx;obtain⟨i,hi,rfl⟩:=List.mem_map.1 hx;have hi:=List.mem_range.1 hi;have h1:(UInt8.ofNat (48+i / 10)).toNat=48+i / 10:=aDo;have h2:(UInt8.ofNat (48+i % 10)).toNat=48+i % 10:=aDo;rw[aLn,aEr];refine⟨⟨aH,aH,aH,by show 3<=64;omega,?_⟩,?_⟩
 ·intro b hb;simp only[List.mem_cons,List.not_mem_nil,or_false]at hb;unfold jW jX;rw[decide_eq_true_eq];rcases hb with rfl | rfl | rfl
  ·left;decide
  ·rw[h1];omega
  ·rw[h2];omega
 ·intro hb;simp only[List.mem_cons,List.not_mem_nil,or_false]at hb;rcases hb with hb | hb | hb
  ·exact absurd hb aK
  ·have:=congrArg UInt8.toNat hb;rw[h1]at this;have h3:(46:UInt8).toNat=46:=rfl;omega
  ·have:=congrArg UInt8.toNat hb;rw[h2]at this;have h3:(46:UInt8).toNat=46:=rfl;omega
theorem aMy:∀ x∈VH,iV x=true:=by
 intro x hx;obtain⟨i,hi,rfl⟩:=List.mem_map.1 hx;have hi:=List.mem_range.1 hi;have h1:(UInt8.ofNat (97+i / 26)).toNat=97+i / 26:=aDo;have h2:(UInt8.ofNat (97+i % 26)).toNat=97+i % 26:=aDo;unfold iV;rw[Bool.and_eq_true,decide_eq_true_eq,List.all_eq_true];refine⟨rfl,fun b hb=>?_⟩;simp only[List.mem_cons,List.not_mem_nil,or_false]at hb;rw[decide_eq_true_eq];rcases hb with rfl | rfl
 ·rw[h1];omega
 ·rw[h2];omega
theorem aMz{a b:aY}(ha:jc a)(hb:jc b):(JD a b).1=aBv a b/\((JD a b).1=false->fM a (JD a b).2=true/\fM b (JD a b).2=false):=by
 have nh:∀ x,(uz x=true->¬ ((b.fr<=x.lo/\x.hi<b.till)/\pmA b.pat (dB x.addr).1=true/\bG b.cl x.client=true/\bG b.co x.country=true/\bG b.si x.site=true))->fM b x=false:=fun x h=>by
  cases hx:fM b x
  ·rfl
  ·obtain⟨k1,k2⟩:=(VE hb x).1 hx;exact absurd k2 (h k1)
 unfold JD;by_cases he:a.till<=a.fr
 ·rw[if_pos he];refine⟨?_,fun h=>(by cases h)⟩;unfold aBv;rw[decide_eq_true he];rfl
 rw[if_neg he];have hlt:a.fr<a.till:=aB;have hs:=aMt ha hlt;have hs':=(VE ha _).1 hs;obtain⟨s1,s2,s3,s4,s5,s6⟩:=hs';have st:=aEx s1;have ht:=ha.to1;by_cases h1:a.fr<b.fr
 ·rw[if_pos h1];refine⟨?_,fun _=>⟨hs,nh _ fun _ h=>?_⟩⟩
  ·exact aIh
  ·have h:b.fr<=a.fr:=h.1.1;omega
 rw[if_neg h1];by_cases h2:b.till<a.till
 ·rw[if_pos h2];refine⟨?_,fun _=>⟨(VE ha _).2 ⟨?_,?_,s3,s4,s5,s6⟩,nh _ fun _ h=>?_⟩⟩
  ·exact aIh
  ·unfold uz at s1 ⊢;simp only[Bool.and_eq_true,decide_eq_true_eq]at s1 ⊢;have h0:=ha.fr0;exact⟨s1.1,aB,aB,aB⟩
  ·show a.fr<=a.till-1/\a.till-1<a.till;omega
  ·have h:=h.1.2;have h:a.till-1<b.till:=h;omega
 rw[if_neg h2];obtain⟨x,hx,fx⟩:=aBi hb.pat;obtain⟨y,hy,fy⟩:=aBi ha.pat;rw[hx,hy];have hpc:aBj b.pat a.pat=BC x y:=by unfold aBj;rw[hx,hy]
 have himp:aBv a b=(BC x y&&FX a.cl b.cl&&FX a.co b.co&&F6 a.si b.si):=by
  unfold aBv;rw[decide_eq_false he,decide_eq_true (show b.fr<=a.fr/\a.till<=b.till by omega),hpc];simp
 rw[himp];dsimp only;cases hcv:BC x y
 ·rw[if_neg aK];refine⟨rfl,fun _=>?_⟩;obtain⟨w1,w2⟩:=aHn hx hy hcv;have hr:qJ (Hy x y)=true:=by
   unfold qO at w1;rw[hy]at w1;have w1:(qJ (Hy x y)&&mG y (dB (Hy x y)).1)=true:=w1;rw[Bool.and_eq_true]at w1;exact w1.1
  rw[aDh ha.pat hr]at w1;rw[aDh hb.pat hr]at w2;refine⟨(VE ha _).2 ⟨?_,s2,w1,s4,s5,s6⟩,nh _ fun _ h=>?_⟩
  ·unfold uz at s1 ⊢;simp only[Bool.and_eq_true]at s1 ⊢;exact⟨⟨⟨⟨hr,s1.1.1.1.2⟩,s1.1.1.2⟩,s1.1.2⟩,s1.2⟩
  ·have h:=h.2.1;rw[w2]at h;cases h
 ·rw[if_pos rfl];have c1:=aIe (a:=a.cl) (b:=b.cl) aMv (by have:=hb.clLen;show b.cl.length<33;omega);have c2:=aIe (a:=a.co) (b:=b.co) aMw (by have:=hb.coLen;unfold VH;rw[List.length_map,List.length_range];omega);have c3:=aMu (a:=a.si) (b:=b.si);cases o1:Bf a.cl b.cl VG with
  | some s =>
   have hi:FX a.cl b.cl=false:=by
    cases h:FX a.cl b.cl
    ·rfl
    ·rw[c1.2 h]at o1;cases o1
   rw[hi];refine⟨rfl,fun _=>?_⟩;obtain⟨m1,m2⟩:=aFf o1;have hnm:bU s=true:=by
    rcases m1 with ⟨_,m1⟩ | m1
    ·exact aMx s m1
    ·exact ha.cl s m1
   refine⟨(VE ha _).2 ⟨?_,s2,s3,(aBk _ _).2 (m1.imp And.left id),s5,s6⟩,nh _ fun _ h=>?_⟩
   ·unfold uz at s1 ⊢;simp only[Bool.and_eq_true]at s1 ⊢;exact⟨⟨⟨⟨s1.1.1.1.1,hnm⟩,s1.1.1.2⟩,s1.1.2⟩,s1.2⟩
   ·have h:=h.2.2.1;rw[m2]at h;cases h
  | none =>
   rw[c1.1 o1];cases o2:Bf a.co b.co VH with
   | some s =>
    have hi:FX a.co b.co=false:=by
     cases h:FX a.co b.co
     ·rfl
     ·rw[c2.2 h]at o2;cases o2
    rw[hi];refine⟨rfl,fun _=>?_⟩;obtain⟨m1,m2⟩:=aFf o2;have hnm:iV s=true:=by
     rcases m1 with ⟨_,m1⟩ | m1
     ·exact aMy s m1
     ·exact ha.co s m1
    refine⟨(VE ha _).2 ⟨?_,s2,s3,s4,(aBk _ _).2 (m1.imp And.left id),s6⟩,nh _ fun _ h=>?_⟩
    ·unfold uz at s1 ⊢;simp only[Bool.and_eq_true]at s1 ⊢;exact⟨⟨⟨⟨s1.1.1.1.1,s1.1.1.1.2⟩,hnm⟩,s1.1.2⟩,s1.2⟩
    ·have h:=h.2.2.2.1;rw[m2]at h;cases h
   | none =>
    rw[c2.1 o2];cases o3:Bf a.si b.si Bg with
    | some n =>
     have hi:F6 a.si b.si=false:=by
      cases h:F6 a.si b.si
      ·rfl
      ·rw[c3.2 h]at o3;cases o3
     rw[hi];refine⟨rfl,fun _=>?_⟩;obtain⟨m1,m2⟩:=aFf o3;have hnm:jb n=true:=by
      rcases m1 with ⟨_,m1⟩ | m1
      ·obtain⟨i,hi,rfl⟩:=List.mem_map.1 m1;have:=List.mem_range.1 hi;unfold jb;rw[decide_eq_true_eq];exact⟨Int.natCast_nonneg i,by show (i:Int)<64;omega⟩
      ·exact ha.si n m1
     refine⟨(VE ha _).2 ⟨?_,s2,s3,s4,s5,(aBk _ _).2 (m1.imp And.left id)⟩,nh _ fun _ h=>?_⟩
     ·unfold uz at s1 ⊢;simp only[Bool.and_eq_true]at s1 ⊢;exact⟨⟨⟨⟨s1.1.1.1.1,s1.1.1.1.2⟩,s1.1.1.2⟩,hnm⟩,s1.2⟩
     ·have h:=h.2.2.2.2;rw[m2]at h;cases h
    | none =>
     rw[c3.1 o3];exact⟨rfl,fun h=>(by cases h)⟩
theorem aCq{k:Nat}{t b:aC}(ht:t.size<=100000)(hb:b.size<=1):(nM k t b).size<=200000:=by have:=aGg k t b;omega
theorem aIi{ps:List bI}(h:oZ ps):∀ x∈qN ps,x.size<=200000:=by
 intro x hx;obtain⟨p,hp,rfl⟩:=List.mem_map.1 hx;exact aCq (h p hp).2 (Nat.le_refl _)
theorem aNa(p q:aC)(w:World)(hp:p.size<=100000)(hq:q.size<=100000)(hE:Env w):Calls prog 211 #[.string p,.string q] w (Ret w (UU (mQ p q))):=by
 have c0:=UR p q w hp hq hE;have hg:=fun z=>UQ (z:=z) hp hq
 generalize mQ p q=r at *;clear hE;by_cases hr:r=none\/r=some none
 ·have H0:=aA (c0.mono fun e w' h=>UT h hr);clear c0 hg;have hv:UU r=.tuple #[.bool false,.string ⟨#[]⟩,.int .i64 (if r.isNone then 1 else 0)]:=by rcases hr with rfl | rfl <;> rfl
  rw[hv];clear hv hr;generalize (if r.isNone=true then (1:Int) else 0)=er at *;go_enter func211,ntmps211;go_wp2_with (go_at_call 174;refine H0.out.mono ?_;rintro e w1 ⟨hb1,k1,t1,A1,n1,d1,b1,rfl⟩);go_ret3;exact⟨rfl,aJ⟩
 ·obtain⟨z,rfl⟩:∃ z,r=some (some z):=by
   rcases r with _ | _ | z
   ·exact absurd (.inl rfl) hr
   ·exact absurd (.inr rfl) hr
   ·exact⟨z,rfl⟩
  have g:=hg z rfl;have H0:=aA c0;clear c0 hg hr;show Calls prog 211 #[.string p,.string q] w (Ret w (.tuple #[.bool true,.string (jI (nM z.cust.kind z.cust.text ⟨#[97]⟩ :: qN z.parts)),.int .i64 0]));have hn:=g.num;have cW:=fun W=>aCn z.cust.kind z.cust.text ⟨#[97]⟩ W aK (by have:=g.text;omega) g.kind
  have cL:=fun A c W h=>aHc z.cust.kind z.cust.text A z.parts.length c z.tail z.parts W h g.parts aB
  have h1:=aCq (k:=z.cust.kind) (b:=⟨#[97]⟩) g.text (Nat.le_refl _);have h2:=aIi g.parts;have hl:(qN z.parts).length=z.parts.length:=by simp[qN]
  have cX:=fun A c W h=>aEt (nM z.cust.kind z.cust.text ⟨#[97]⟩) A z.parts.length c (qN z.parts) W h aB h1 h2
  obtain⟨⟨zk,zt⟩,zs,zl⟩:=z;dsimp only at cW cL cX ⊢;generalize nM zk zt ⟨#[97]⟩=c0 at *;generalize qN zs=ws at *;generalize jI (c0 :: ws)=V at *;have HW:=aA cW;have HL:=aA cL;have HX:=aA cX;clear cW cL cX g hn h1 h2 hl;unfold qU at H0;dsimp only at H0;generalize zs.length=znzz at *;go_enter func211,ntmps211;go_wp2_with (go_at_call 174;refine H0.out.mono ?_;rintro e w1 ⟨hb1,A,c,rfl,hR1⟩);have f1:(w1.alloc (.cells #[.int .i64 zk,.string zt,.slice A znzz c,.bool zl] 195)).cell? ⟨w1.heap.size,0,none⟩=some (.int .i64 zk):=iD;have f2:(w1.alloc (.cells #[.int .i64 zk,.string zt,.slice A znzz c,.bool zl] 195)).cell? ⟨w1.heap.size,1,none⟩=some (.string zt):=iD;have f3:(w1.alloc (.cells #[.int .i64 zk,.string zt,.slice A znzz c,.bool zl] 195)).cell? ⟨w1.heap.size,2,none⟩=some (.slice A znzz c):=iD;have f4:(w1.alloc (.cells #[.int .i64 zk,.string zt,.slice A znzz c,.bool zl] 195)).cell? ⟨w1.heap.size,3,none⟩=some (.bool zl):=iD;have f5:aI (w1.alloc (.cells #[.int .i64 zk,.string zt,.slice A znzz c,.bool zl] 195)) 2 A znzz (eG zs):=hR1.keep (aU (Below.refl _ _) _);have f6:aF w (w1.alloc (.cells #[.int .i64 zk,.string zt,.slice A znzz c,.bool zl] 195)):=aJ;go_region_held3 (fun w'=>w'.cell? ⟨w1.heap.size,0,none⟩=some (.int .i64 zk)/\w'.cell? ⟨w1.heap.size,1,none⟩=some (.string zt)/\w'.cell? ⟨w1.heap.size,2,none⟩=some (.slice A znzz c)/\w'.cell? ⟨w1.heap.size,3,none⟩=some (.bool zl)/\aI w' 2 A znzz (eG zs)/\aF w w')
   (first | exact⟨f1,f2,f3,f4,f5,Below.drew f6⟩ | (go_split_ands;exact⟨aW hb2 ‹_›,aW hb2 ‹_›,aW hb2 ‹_›,aW hb2 ‹_›,aI.keep ‹_› hb2,aV ‹_› hb2⟩) | (go_split_ands;exact⟨aW hb3 ‹_›,aW hb3 ‹_›,aW hb3 ‹_›,aW hb3 ‹_›,aI.keep ‹_› hb3,aV ‹_› hb3⟩) | (go_split_ands;exact⟨aW hb4 ‹_›,aW hb4 ‹_›,aW hb4 ‹_›,aW hb4 ‹_›,aI.keep ‹_› hb4,aV ‹_› hb4⟩))
   (first | (go_at_call 212;refine (HW.out _).mono ?_;rintro e w2 ⟨rfl,hb2⟩) | (go_at_call 213;go_split_ands;refine (HL.out _ _ _ ‹_›).mono ?_;rintro e w3 ⟨A3,c3,rfl,hown,hb3⟩) | (go_at_call 215;refine (HX.out _ _ _ (by first | exact aI.of_own hown | exact (aI.of_own hown).keep hb2)).mono ?_;rintro e w4 ⟨rfl,hb4⟩))
  all_goals go_wp2
  all_goals go_ret3
  all_goals exact⟨rfl,jH⟩
theorem aNb(p:aC):∃(b:Bool)(f:Int),UU (mQ (nN p) ⟨#[42,47,42,42]⟩)=.tuple #[.bool b,.string (VF p),.int .i64 f]:=by
 unfold VF;cases h:mQ (nN p) ⟨#[42,47,42,42]⟩ with
 | none=>exact⟨_,_,rfl⟩
 | some r =>
  cases r with
  | none=>exact⟨_,_,rfl⟩
  | some z=>exact⟨_,_,rfl⟩
theorem aFg{α:Type}{enc:α->Value}{w:World}{A:Option Addr}{n:Nat}{xs:List α}(hA:aI w 1 A n (xs.map enc))(d:α) :
  (n=0/\xs.headD d=d)\/(0<n/\∃ b o,A=some ⟨b,o,none⟩/\w.cell? ⟨b,o,none⟩=some (enc (xs.headD d))):=by
 have hl:=hA.1;cases xs with
 | nil=>exact .inl ⟨vK,rfl⟩
 | cons x xs =>
  have hn:0<n:=vK;obtain⟨b,o,e,hc⟩:=hA.2 hn;exact .inr ⟨hn,b,o,e,by have:=hc 0 (enc x) aH;simpa using this⟩
theorem aFh{p:aC}(h:p.size<=100000):(nN p).size<=100000:=by unfold nN;split;exact aK;exact h
theorem aFi(c:aY)(m:ae)(w:World):Calls prog 87 #[ae.val c m] w (Ret w (.string (nN c.pat))):=Ur _ _ _ _ _ _ _ _ _ _ _ _ _ w
theorem iJ.set3{w:World}{g:Nat}{ad cl co:aC}{si si2 lo hi:Int}(h:iJ w g ad cl co si lo hi):iJ (w.setCell ⟨g,3,none⟩ (.int .i64 si2)) g ad cl co si2 lo hi:=Blk.set_ h 3 (.int .i64 si2)
theorem aNc(c:aY)(m:ae)(w:World)(hR:dA w c m)(hc:dE c)(hE:Env w):Calls prog 152 #[ae.val c m] w (Ret w (dN.val (qZ c))):=by
 have c1:=fun W=>aFi c m W
 have c2:=fun W h=>aNa (nN c.pat) ⟨#[42,47,42,42]⟩ W (aFh hc.p) aK h
 obtain⟨mb,mfzz,hms⟩:=aNb c.pat;rw[hms]at c2;unfold qZ;obtain⟨fr,till,pat,cl,co,si,us⟩:=c;obtain⟨A,ca,B,cb,S,cs⟩:=m;obtain⟨hA,hB,hS⟩:=hR;unfold ae.val at c1 ⊢;unfold dN.val;dsimp only at hA hB hS c1 c2 ⊢;have k1:=aFg hA ⟨#[97]⟩;have k2:=aFg hB ⟨#[97,97]⟩;have k3:=aFg hS 0;obtain⟨n1,n2,n3⟩:=(⟨hc.n1,hc.n2,hc.n3⟩:cl.length<=1000000/\co.length<=1000000/\si.length<=1000000);generalize cl.headD ⟨#[97]⟩=u1 at *;generalize co.headD ⟨#[97,97]⟩=u2 at *;generalize si.headD 0=u3 at *;generalize cl.length=na at *;generalize co.length=nb at *;generalize si.length=ns at *;generalize VF pat=ad at *;generalize nN pat=pt at *;have C1:=aA c1;have C2:=aA c2;have HE:=aA hE;have K1:=aA k1;have K2:=aA k2;have K3:=aA k3;clear c1 c2 hE hA hB hS hms hc k1 k2 k3;go_enter func152,ntmps152;go_upto_if 24 with (first | (go_at_call 87;refine (C1.out _).mono ?_;rintro e w2 ⟨rfl,hb2⟩) | (go_at_call 211;refine (C2.out _ (Env.keep HE.out aJ)).mono ?_;rintro e w3 ⟨rfl,hb3⟩;have hX3:aX w3 w.heap.size fr till pat A na ca B nb cb S ns cs us:=Blk.keep (Blk.keep (vC _ _ _).1 hb2) hb3;have hY3:iJ w3 (w.heap.size+1) ⟨#[]⟩ ⟨#[]⟩ ⟨#[]⟩ 0 0 0:=Blk.keep (Blk.keep (vC _ _ _).2 hb2) hb3;have hbw3:aF w w3:=aJ;have HX3:=aA hX3;have HY3:=aA hY3;have HBW3:=aA hbw3;obtain⟨x0,x1,x2,x3,x4,x5,x6⟩:=hX3.facts;have hzX:=Blk.lt hX3;clear hX3 hY3 hbw3))
 go_cut [] (fun wx=>iJ wx w3.heap.size ad u1 ⟨#[97,97]⟩ 0 fr fr/\aF w3 wx)
 case first =>
  rcases K1.out with ⟨rfl,rfl⟩ | ⟨g1,b1,o1,rfl,h1⟩
  ·exact aIj
  ·have j1:=Lib.cell?_alloc_some (.cells #[.string ad,.string ⟨#[97]⟩,.string ⟨#[97,97]⟩,.int .i64 0,.int .i64 fr,.int .i64 fr] 59) (aW HBW3.out h1);have e1:(0:Int)<(na:Int):=aB;clear h1;exact aIj
 case rest =>
  obtain⟨hYc,hbc⟩:=hcut;clear x0 x1 x2 x3 x4 x5 x6;(have hXc:aX wc w.heap.size fr till pat A na ca B nb cb S ns cs us:=Blk.keep HX3.out hbc;obtain⟨x0,x1,x2,x3,x4,x5,x6⟩:=hXc.facts;obtain⟨y0,y1,y2,y3,y4,y5⟩:=hYc.facts;have f1:=Blk.free0 hYc 1;have f2:=Blk.free0 hYc 2;have f3:=Blk.free0 hYc 3;have hzc:=Blk.lt hYc;have hbwc:=aV HBW3.out hbc);have HY1:=aA hYc;have HB1:=aA hbc;clear hYc hXc;obtain⟨W1,rfl⟩:∃ W1:World,W1=wc:=⟨_,rfl⟩;go_upto_if 33 with fail
  go_cut [] (fun wx=>iJ wx w3.heap.size ad u1 u2 0 fr fr/\aF w3 wx)
  case first =>
   rcases K2.out with ⟨rfl,rfl⟩ | ⟨g1,b1,o1,rfl,h1⟩
   ·go_wp2_with fail;go_meet;exact⟨HY1.out,HB1.out⟩
   ·have j1:=aW hbwc h1;have e1:(0:Int)<(nb:Int):=aB;clear h1;go_wp2_with fail;go_meet;exact⟨iJ.set2 HY1.out,HB1.out.setCell (p:=⟨w3.heap.size,2,none⟩) (Nat.le_refl _) _⟩
  case rest =>
   obtain⟨hYc,hbc⟩:=hcut;clear x0 x1 x2 x3 x4 x5 x6 y0 y1 y2 y3 y4 y5 f1 f2 f3 hzc hbwc;(have hXc:aX wc w.heap.size fr till pat A na ca B nb cb S ns cs us:=Blk.keep HX3.out hbc;obtain⟨x0,x1,x2,x3,x4,x5,x6⟩:=hXc.facts;obtain⟨y0,y1,y2,y3,y4,y5⟩:=hYc.facts;have f1:=Blk.free0 hYc 1;have f2:=Blk.free0 hYc 2;have f3:=Blk.free0 hYc 3;have hzc:=Blk.lt hYc;have hbwc:=aV HBW3.out hbc);have HY2:=aA hYc;have HB2:=aA hbc;clear hYc hXc;obtain⟨W2,rfl⟩:∃ W2:World,W2=wc:=⟨_,rfl⟩;go_upto_if 42 with fail
   go_cut [] (fun wx=>iJ wx w3.heap.size ad u1 u2 u3 fr fr/\aF w3 wx)
   case first =>
    rcases K3.out with ⟨rfl,rfl⟩ | ⟨g1,b1,o1,rfl,h1⟩
    ·go_wp2_with fail;go_meet;exact⟨HY2.out,HB2.out⟩
    ·have j1:=aW hbwc h1;have e1:(0:Int)<(ns:Int):=aB;clear h1;go_wp2_with fail;go_meet;exact⟨iJ.set3 HY2.out,HB2.out.setCell (p:=⟨w3.heap.size,3,none⟩) (Nat.le_refl _) _⟩
   case rest =>
    obtain⟨hYc,hbc⟩:=hcut;clear x0 x1 x2 x3 x4 x5 x6 y0 y1 y2 y3 y4 y5 f1 f2 f3 hzc hbwc;have hRc:iJ wc (w.heap.size+1) ⟨#[]⟩ ⟨#[]⟩ ⟨#[]⟩ 0 0 0:=Blk.keep HY3.out hbc;obtain⟨y0,y1,y2,y3,y4,y5⟩:=hYc.facts;obtain⟨r0,r1,r2,r3,r4,r5⟩:=hRc.facts;have z0:=hRc.free0 0;have z1:=hRc.free0 1;have z2:=hRc.free0 2;have z3:=hRc.free0 3;have z4:=hRc.free0 4;have z5:=hRc.free0 5;have hbwc:=aV HBW3.out hbc;have HRc:=aA hRc;clear hYc hRc;go_wp2_with fail;obtain⟨p0,p1,p2,p3,p4,p5⟩:=(HRc.out.put ad u1 u2 u3 fr fr).facts;clear r0 r1 r2 r3 r4 r5 y0 y1 y2 y3 y4 y5 z0 z1 z2 z3 z4 z5;exact bodyPost_ret (v:=.agg #[.string ad,.string u1,.string u2,.int .i64 u3,.int .i64 fr,.int .i64 fr]) (by simp only[results,results152];simp[go_sem,p0,p1,p2,p3,p4,p5]) rfl ⟨rfl,V4 hbwc (Nat.le_succ _) _ _ _ _ _ _⟩
def aFj(r:Bool × dN × Int):Value:=.tuple #[.bool r.1,dN.val r.2.1,.int .i64 r.2.2]
attribute [local go_sem] Oper.semAt_some
theorem aNd{W W':World}{A:Option Addr}{n h:Nat}{vs:List Value}(hR:aI W 1 A n vs)(hk:iC 0 h W W')(hb:0<n->∀ a,A=some a->a.block<h):aI W' 1 A n vs:=by
 refine⟨hR.1,fun hn=>?_⟩;obtain⟨b,o,rfl,hc⟩:=hR.2 hn;exact⟨b,o,rfl,fun j u hu=>(World.cell?_of_block (hk _ aH (by have:=hb hn _ rfl;simpa using this))).trans (hc j u hu)⟩
theorem aNe(b:Nat)(A:Option Addr)(n c:Nat)(xs:List aC)(w:World)(h0:w.cell? ⟨b,0,none⟩=some (.slice A n c))(hA:aI w 1 A n (xs.map .string))(hn:n<=1000000000) :
  oL prog 166 #[.pointer (some ⟨b,0,none⟩)] (xs.map .string) (fun _ _=>False) 0 w.heap.size w:=by
 intro l J Jx W hW _ _ hY hJ0;have g0:=aW hW h0;have hlt:=yR hA;have hR:=hA.keep hW;have hl:xs.length=n:=jK;generalize w.heap.size=h at *;clear h0 hA hW w;refine callsIn_of_wp func166 rfl trivial ?_ rfl;simp only[ntmps166,List.size_toArray,List.length_cons,List.length_nil,Nat.reduceAdd,Nat.reduceSub,Array.replicate_succ,Array.replicate_zero,List.push_toArray,List.append_toArray,List.nil_append,List.cons_append];have HY:=aA hY;have HLT:=aA hlt;have HR0:=aA hR;have HL:=aA hl;clear hY hlt hR hl
 gi_wp2
 gi_loopw [7] (fun i wr=>∃ k:Nat,i=.int .i64 k/\k<=n/\Hid (aI wr 1 A n (xs.map .string))/\J k wr) (fun i _=>n-(intOf i).toNat)
 case atStart=>exact⟨0,rfl,aB,HR0,hJ0⟩
 case round =>
  clear g0 hJ0 HR0;obtain⟨k,rfl,hk,HR,hJ⟩:=hrel;by_cases hkn:k<n
  ·obtain⟨x,hx⟩:∃ x,xs[k]? = some x:=⟨_,List.getElem?_eq_getElem gV⟩;have hxv:(xs.map Value.string)[k]? = some (.string x):=gB;obtain⟨fn,tmps,assign,body,hy,hRd⟩:=HY.out k _ wr hxv hJ;obtain⟨pb,po,rfl,hcell⟩:=HR.out.2 aB;have hc1:wr.cell? ⟨pb,po+k,none⟩=some (.string x):=hcell k _ hxv;have hk0:(0:Int)<=(k:Int):=aB;have hk1:(k:Int)<(n:Int):=aB;clear hcell hx hxv
   gi_wp2
   exact aIk
  ·obtain rfl:k=n:=aB;have hlen:k=(xs.map Value.string).length:=by have:=HL.out;simp;omega
   have HLN:=aA hlen;clear hlen
   gi_wp2
   go_end0;exact⟨⟨_,rfl⟩,.inl (by rw[<-HLN.out];exact hJ)⟩
attribute [local go_sem] Oper.semAt_some
def aCr(r:Option aC):Value:=match r with
 | some x=>.tuple #[.string x,.bool true]
 | none=>.tuple #[.string ⟨#[]⟩,.bool false]
def aFk(ys all:List aC)(B:Option Addr)(nb cb:Nat)(w:World)(hs:Nat)(k:Nat)(W:World):Prop :=
 (all.find? (fun x=>!bG ys x)=(all.drop k).find? (fun x=>!bG ys x))/\Boxed W w.heap.size 24 (.slice B nb cb)/\Boxed W (w.heap.size+1) 9 (.string ⟨#[]⟩)/\Boxed W (w.heap.size+1+1) 4 (.bool false)/\aF w W/\hs<=W.heap.size
def aFl(ys all:List aC)(w:World)(hs:Nat)(c:Code)(W:World):Prop :=
 c=.ret/\∃ x,all.find? (fun x=>!bG ys x)=some x/\Boxed W (w.heap.size+1) 9 (.string x)/\Boxed W (w.heap.size+1+1) 4 (.bool true)/\aF w W/\hs<=W.heap.size
theorem aIl(ys all:List aC)(Bb:Option Addr)(nb cb:Nat)(w:World)(hs B:Nat)(hB:w.heap.size<=B):OwnFrom B (aFk ys all Bb nb cb w hs):=by
 rintro k W W' row ⟨h1,h2,h3,h4,h5,h6⟩ hg hr;have hr':=fun r e=>(hr r e).2
 exact⟨h1,boxed_own w.heap.size 24 (fun _:Unit=>.slice Bb nb cb) () W W' row h2 hg hr',boxed_own (w.heap.size+1) 9 (fun _:Unit=>.string ⟨#[]⟩) () W W' row h3 hg hr',boxed_own (w.heap.size+1+1) 4 (fun _:Unit=>.bool false) () W W' row h4 hg hr',h5.grown hg h5.size (fun r e=>vY),Nat.le_trans h6 hg.size⟩
theorem aIm(ys all:List aC)(w:World)(hs B:Nat)(hB:w.heap.size<=B)(c:Code):OwnFrom B (fun (_:Unit)=>aFl ys all w hs c):=by
 rintro _ W W' row ⟨h0,x,h1,h2,h3,h4,h5⟩ hg hr;have hr':=fun r e=>(hr r e).2
 exact⟨h0,x,h1,boxed_own (w.heap.size+1) 9 (fun _:Unit=>.string x) () W W' row h2 hg hr',boxed_own (w.heap.size+1+1) 4 (fun _:Unit=>.bool true) () W W' row h3 hg hr',h4.grown hg h4.size (fun r e=>vY),Nat.le_trans h5 hg.size⟩
theorem aIn{α:Type}{p:α->Bool}{l:List α}{k:Nat}{x:α}(hx:l[k]? = some x):(l.drop k).find? p=if p x then some x else (l.drop (k+1)).find? p:=by
 have hd:l.drop k=x :: l.drop (k+1):=by
  exact IV
 rw[hd,List.find?_cons];cases p x <;> rfl
theorem aIo(A:Option Addr)(ca:Nat)(B:Option Addr)(nb cb:Nat)(ys all:List aC)(gf:Nat)(w:World)(eg:∀ args w,(callFunc gf args).run prog w=.ok (.enter gf args) w)
  (hseq:∀ h W,oL prog gf #[] (all.map .string) (fun _ _=>False) 0 h W) (hB:aI w 1 B nb (ys.map .string)) (hnb:nb<=1000000000) :
  Calls prog 154 #[.slice A 0 ca,.slice B nb cb,.func (.func gf) #[] #[]] w (Ret w (aCr (all.find? fun x=>!bG ys x))):=by
 obtain⟨V,hV⟩:∃ V,V=aCr (all.find? fun x=>!bG ys x):=⟨_,rfl⟩;rw[<-hV];have HV:=aA hV;have HB:=aA hB;obtain⟨hs,hhs⟩:∃ hs,hs=w.heap.size+1+1+1:=⟨_,rfl⟩;have hq0:=hseq hs (((w.alloc (.cells #[.slice B nb cb] 24)).alloc (.cells #[.string ⟨#[]⟩] 9)).alloc (.cells #[.bool false] 4));have hbw0:aF w (((w.alloc (.cells #[.slice B nb cb] 24)).alloc (.cells #[.string ⟨#[]⟩] 9)).alloc (.cells #[.bool false] 4)):=aU (aU (aU (Below.refl _ _) _) _) _;have b1:=Boxed.new w 24 (.slice B nb cb);have b2:=Boxed.new (w.alloc (.cells #[.slice B nb cb] 24)) 9 (.string ⟨#[]⟩);have b3':=Boxed.new ((w.alloc (.cells #[.slice B nb cb] 24)).alloc (.cells #[.string ⟨#[]⟩] 9)) 4 (.bool false);simp only[World.size_alloc]at b2 b3';have b1':=(b1.alloc (.cells #[.string ⟨#[]⟩] 9)).alloc (.cells #[.bool false] 4);have b2':=b2.alloc (.cells #[.bool false] 4);have hKI:hs<=(((w.alloc (.cells #[.slice B nb cb] 24)).alloc (.cells #[.string ⟨#[]⟩] 9)).alloc (.cells #[.bool false] 4)).heap.size:=aP;have hhs2:w.heap.size+1+1+1<=hs:=aB;clear hV hB hseq hhs b1 b2;refine (callsIn_wide (n:=0)).1 ?_;refine callsIn_of_wp_marks func154 rfl trivial ?_ rfl;simp only[ntmps154,List.size_toArray,List.length_cons,List.length_nil,Nat.reduceAdd,Nat.reduceSub,Array.replicate_succ,Array.replicate_zero,List.push_toArray,List.append_toArray,List.nil_append,List.cons_append]
 gi_wp2
 refine wU (gf:=gf) (lb:=_) rfl eg hq0 (Below.refl _ _) hKI (aFk ys all B nb cb w hs) (aFl ys all w hs) (aIl ys all B nb cb w hs _ aP) (fun c=>aIm ys all w hs _ aP c) ⟨aH,b1',b2',b3',hbw0,hKI⟩ (fun _ _ _ _ h=>h.elim) (fun _ _ h=>h.elim) ?a1 ?assign ?body ?done ?stop
 case assign =>
  intro l x W K _ hK
  gi_wp2
  exact hK
 case body =>
  exact aIp
 case done =>
  rintro D W hD ⟨hr1,h2,h3,h4,hbw,hsz6⟩ hK;rw[List.length_map,List.drop_eq_nil_of_le (Nat.le_refl _),List.find?_nil]at hr1;have c3:=h3.cell;have f3:=h3.frozen;have c4:=h4.cell;have f4:=h4.frozen;have HR:=aA hr1;clear hr1
  gi_wp2
  exact aIq
 case stop =>
  rintro D c W hD ⟨rfl,x,hr1,h3,h4,hbw,hsz6⟩ hK;have hD':w.heap.size+1+1+1<=D:=aCi;have HR:=aA hr1;clear hr1
  gi_wp2
  exact aIr
theorem aNf(A:Option Addr)(na ca:Nat)(B:Option Addr)(nb cb:Nat)(ys all:List aC)(fv:Value)(w:World)
  (hA:aI w 1 A na (all.map .string)) (hB:aI w 1 B nb (ys.map .string)) (hna0:0<na) (hna:na<=1000000000) (hnb:nb<=1000000000) :
  Calls prog 154 #[.slice A na ca,.slice B nb cb,fv] w (Ret w (aCr (all.find? fun x=>!bG ys x))):=by
 obtain⟨V,hV⟩:∃ V,V=aCr (all.find? fun x=>!bG ys x):=⟨_,rfl⟩;rw[<-hV];have HV:=aA hV;have HB:=aA hB;obtain⟨hs,hhs⟩:∃ hs,hs=w.heap.size+1+1+1+1:=⟨_,rfl⟩;have hbw0:aF w ((((w.alloc (.cells #[.slice B nb cb] 24)).alloc (.cells #[.string ⟨#[]⟩] 9)).alloc (.cells #[.bool false] 4)).alloc (.cells #[.slice A na ca] 24)):=aU (aU (aU (aU (Below.refl _ _) _) _) _) _;obtain⟨lb,hlb⟩:∃ lb:Array Value,lb=#[.pointer (some ⟨w.heap.size+1+1+1,0,none⟩)]:=⟨_,rfl⟩;obtain⟨gf,hgf⟩:∃ gf:Nat,gf=166:=⟨_,rfl⟩;have eg:∀ args w,(callFunc gf args).run prog w=.ok (.enter gf args) w:=by rw[hgf];exact enters_of func166 aG rfl
 have b1:=Boxed.new w 24 (.slice B nb cb);have b2:=Boxed.new (w.alloc (.cells #[.slice B nb cb] 24)) 9 (.string ⟨#[]⟩);have b3:=Boxed.new ((w.alloc (.cells #[.slice B nb cb] 24)).alloc (.cells #[.string ⟨#[]⟩] 9)) 4 (.bool false);have b4:=Boxed.new (((w.alloc (.cells #[.slice B nb cb] 24)).alloc (.cells #[.string ⟨#[]⟩] 9)).alloc (.cells #[.bool false] 4)) 24 (.slice A na ca);simp only[World.size_alloc]at b2 b3 b4;have hq0:=aNe (w.heap.size+1+1+1) A na ca all _ b4.cell (hA.keep hbw0) hna;rw[<-hlb,<-hgf]at hq0;have hv:=fun W=>V7 A na ca W
 rw[<-hgf]at hv;have HVA:=aA hv;have HLB:=aA hlb;have b1':=((b1.alloc (.cells #[.string ⟨#[]⟩] 9)).alloc (.cells #[.bool false] 4)).alloc (.cells #[.slice A na ca] 24);have b2':=(b2.alloc (.cells #[.bool false] 4)).alloc (.cells #[.slice A na ca] 24);have b3':=b3.alloc (.cells #[.slice A na ca] 24);simp only[World.size_alloc]at hq0;rw[<-hhs]at hq0;have hKI:hs<=((((w.alloc (.cells #[.slice B nb cb] 24)).alloc (.cells #[.string ⟨#[]⟩] 9)).alloc (.cells #[.bool false] 4)).alloc (.cells #[.slice A na ca] 24)).heap.size:=aP;have hhs2:w.heap.size+1+1+1<=hs:=aB;have e0:(0:Int)<(na:Int):=aB;clear hV hB hA hhs b1 b2 b3 b4 hv hgf;refine (callsIn_wide (n:=0)).1 ?_;refine callsIn_of_wp_marks func154 rfl trivial ?_ rfl;simp only[ntmps154,List.size_toArray,List.length_cons,List.length_nil,Nat.reduceAdd,Nat.reduceSub,Array.replicate_succ,Array.replicate_zero,List.push_toArray,List.append_toArray,List.nil_append,List.cons_append]
 gi_wp2_with (refine⟨trivial,rfl,?_⟩;gi_at_call 97;refine (callsIn_wide.2 (HVA.out _)).mono ?_;rintro e w' ⟨rfl,hw'⟩;rw[hw'];simp only[World.size_alloc];rw[<-HLB.out])
 refine wU (gf:=gf) (lb:=_) rfl eg hq0 (Below.refl _ _) hKI (aFk ys all B nb cb w hs) (aFl ys all w hs) (aIl ys all B nb cb w hs _ aP) (fun c=>aIm ys all w hs _ aP c) ⟨aH,b1',b2',b3',hbw0,hKI⟩ (fun _ _ _ _ h=>h.elim) (fun _ _ h=>h.elim) ?a1 ?assign ?body ?done ?stop
 case assign =>
  intro l x W K _ hK
  gi_wp2
  exact hK
 case body =>
  exact aIp
 case done =>
  rintro D W hD ⟨hr1,h2,h3,h4,hbw,hsz6⟩ hK;rw[List.length_map,List.drop_eq_nil_of_le (Nat.le_refl _),List.find?_nil]at hr1;have c3:=h3.cell;have f3:=h3.frozen;have c4:=h4.cell;have f4:=h4.frozen;have HR:=aA hr1;clear hr1
  gi_wp2
  exact aIq
 case stop =>
  rintro D c W hD ⟨rfl,x,hr1,h3,h4,hbw,hsz6⟩ hK;have hD':w.heap.size+1+1+1<=D:=aCi;have HR:=aA hr1;clear hr1
  gi_wp2
  exact aIr
end Go.Proofs.YtlkbkclnbppigaaGreatDoor
