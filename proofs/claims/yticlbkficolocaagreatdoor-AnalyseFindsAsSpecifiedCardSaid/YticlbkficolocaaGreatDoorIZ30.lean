/- Words that no pattern has as a part: analyse.unnamed, and the function that it returns. -/
import Derived.Test.YticlbkficolocaaGreatDoorIZ28
import Derived.Test.YticlbkficolocaaGreatDoorIZ29
set_option maxHeartbeats 8000000
namespace Go.Proofs.YticlbkficolocaaGreatDoor
open Go.RowKit Go.Sort
set_option linter.unusedVariables false
set_option linter.unusedSimpArgs false
set_option maxRecDepth 100000
open Go.Maps
def nextF (named:List ByteArray):Nat→Nat→Nat
 | 0,k=>k
 | f+1,k=>if Yk named (wN k)=true then nextF named f (k+1) else k
def Wi (named:List ByteArray) (k:Nat):Nat:=nextF named (2*named.length+1) k
theorem hasN_iff (l:List ByteArray) (s:ByteArray):Yk l s=true↔s∈l:=by
 unfold Yk
 rw[List.any_eq_true]
 constructor
 ·rintro⟨t,ht,h⟩
  rw[decide_eq_true_eq]at h
  rwa [Qm h]
 ·intro h
  exact⟨s,h,decide_eq_true rfl⟩
theorem nextF_ge (named:List ByteArray):∀ f k:Nat,k≤nextF named f k
 | 0,k=>Nat.le_refl _
 | f+1,k=>by
  unfold nextF
  split
  ·exact Nat.le_trans (Nat.le_succ k) (nextF_ge named f (k+1))
  ·exact Nat.le_refl _
theorem nextF_pass (named:List ByteArray):∀ f k j:Nat,k≤j→j<nextF named f k→Yk named (wN j)=true
 | 0,k,j,h1,h2=>by unfold nextF at h2;omega
 | f+1,k,j,h1,h2=>by
  unfold nextF at h2
  split at h2
  ·rename_i h
   rcases Nat.eq_or_lt_of_le h1 with rfl | h3
   ·exact h
   ·exact nextF_pass named f (k+1) j h3 h2
  ·omega
theorem nextF_stop (named:List ByteArray):∀ f k:Nat,nextF named f k<k+f→Yk named (wN (nextF named f k))=false
 | 0,k,h=>by unfold nextF at h;omega
 | f+1,k,h=>by
  unfold nextF at h ⊢
  split
  ·rename_i h2
   rw[if_pos h2]at h
   exact nextF_stop named f (k+1) (by omega)
  ·rename_i h2
   simpa using h2
theorem next_le (named:List ByteArray) (k:Nat):Wi named k≤k+2*named.length:=by
 have h:=few_passed named ⟨#[]⟩ k (Wi named k) (fun j h1 h2=>.inl ((hasN_iff _ _).1 (nextF_pass named _ k j h1 h2)))
 have:=nextF_ge named (2*named.length+1) k
 unfold Wi at h ⊢
 omega
theorem next_ge (named:List ByteArray) (k:Nat):k≤Wi named k:=nextF_ge _ _ _
theorem next_stop (named:List ByteArray) (k:Nat):Yk named (wN (Wi named k))=false:=by
 have h:=next_le named k
 exact nextF_stop named _ k (by unfold Wi at h;omega)
theorem next_pass {named:List ByteArray} {k j:Nat} (h1:k≤j) (h2:j<Wi named k):Yk named (wN j)=true:=nextF_pass named _ k j h1 h2
theorem next_unique {named:List ByteArray} {k j:Nat} (h1:k≤j) (hp:∀ i,k≤i→i<j→Yk named (wN i)=true) (hs:Yk named (wN j)=false):Wi named k=j:=by
 rcases Nat.lt_trichotomy (Wi named k) j with h | h | h
 ·have h2:=hp _ (next_ge named k) h
  rw[next_stop]at h2
  cases h2
 ·exact h
 ·have h2:=next_pass h1 h
  rw[hs]at h2
  cases h2
theorem wN_sum (j:Nat):(⟨#[119]⟩:ByteArray)++itoaB (j:Int)=wN j:=by
 refine Qm ?_
 rw[Vx,itoa_dec (j:Int) (by omega),Vp]
 rfl
theorem namedL_num (B:Nat):∀ bs:List ByteArray,(∀ b∈bs,b.size≤B)→(Zc bs).length≤bs.length*(B+1)
 | [],_=>by simp[Zc]
 | b :: bs,h=>by
  have ih:=namedL_num B bs (fun x hx=>h x (by simp[hx]))
  have h1:=Ku 47 b
  have h2:=h b (by simp)
  unfold Zc at ih ⊢
  rw[List.flatMap_cons,List.length_append,List.length_cons,Nat.succ_mul]
  omega
structure Xd (gb gm gn N:Nat) (named:List ByteArray) (k:Nat) (w:World):Prop where
 b:Qv w gb 126 #[.map (some gm)] (0,0)
 m:w.ownsMap Tryz.prog 9 (plainElem (H:=Unit) Tryz.prog 4) gm N (seenD named)
 n:Qv w gn 3 #[.int .i64 k] (0,0)
 d1:gb≠gn
 d2:gm≠gn
theorem Xd.keep {gb gm gn N k:Nat} {named:List ByteArray} {w w':World} (h:Xd gb gm gn N named k w) (hb:Below w.heap.size w w'):Xd gb gm gn N named k w' :=
 ⟨h.b.keep hb,KW h.m hb h.m.lt,h.n.keep hb,h.d1,h.d2⟩
theorem Xd.next {gb gm gn N k:Nat} {named:List ByteArray} {w:World} (h:Xd gb gm gn N named k w) (j:Nat):Xd gb gm gn N named j (w.setCell ⟨gn,0,none⟩ (.int .i64 j)) :=
 ⟨(But.set w gn 0 _).blk h.b h.d1,h.m.setCell (a:=⟨gn,0,none⟩) h.d2 _,Qv.set_ h.n 0 _,h.d1,h.d2⟩
theorem Xd.but {gb gm gn N k g:Nat} {named:List ByteArray} {w w':World} (h:Xd gb gm gn N named k w) (hb:But g w w') (h1:g≠gb) (h2:g≠gm) (h3:g≠gn):Xd gb gm gn N named k w':=by
 refine⟨hb.blk h.b h1.symm,?_,hb.blk h.n h3.symm,h.d1,h.d2⟩
 obtain⟨es,clock,e1,e2⟩:=h.m
 exact⟨es,clock,(hb.block gm h.m.lt h2.symm).trans e1,e2⟩
def ctrN (gn:Nat) (w:World):Nat:=match w.cell? ⟨gn,0,none⟩ with
 | some v=>(intOf v).toNat
 | none=>0
theorem Xd.ctr {gb gm gn N k:Nat} {named:List ByteArray} {w:World} (h:Xd gb gm gn N named k w):ctrN gn w=k:=by
 unfold ctrN
 rw[h.n.cell 0]
 show (intOf (.int .i64 (k:Int))).toNat=k
 simp[intOf]
theorem word_any (gb gm gn N k:Nat) (named:List ByteArray) (w:World) (hW:Xd gb gm gn N named k w) (hk:k≤400000) (hl:named.length≤100000) (hT:∀ W,But gn w W→Tab W) :
  Calls Tryz.prog 164 #[.pointer (some ⟨gn,0,none⟩),.pointer (some ⟨gb,0,none⟩)] w fun e w'=>e=.returned (.string (wN (Wi named k)))∧Xd gb gm gn N named (Wi named k+1) w'∧But gn w w':=by
 have HT:=Lib.hid hT;have HW0:=Lib.hid hW
 clear hT hW
 obtain⟨r,hr⟩:∃ r,r=Wi named k:=⟨_,rfl⟩
 rw[←hr]
 have HR:=Lib.hid hr
 clear hr
 go_enter Tryz.func164,Tryz.ntmps164
 go_wp2_with fail
 go_loopw [] (fun wr=>∃ j:Nat,k≤j∧j≤r∧Hid (Xd gb gm gn N named j wr)∧Hid (But gn w wr)) (fun wr=>r+1-ctrN gn wr)
 case atStart=>exact⟨k,Nat.le_refl _,by rw[HR.out];exact next_ge _ _,HW0,Lib.hid (But.refl _ _)⟩
 case round =>
  obtain⟨j,hkj,hjr,HS,HB⟩:=hrel
  have hr2:r≤600000:=by have:=next_le named k;rw[←HR.out]at this;omega
  have hmeas:=HS.out.ctr
  have cI:=fun W (h:Below wr.heap.size wr W)=>itoa_any (j:Int) W (by omega) (by omega) ((HT.out wr HB.out).keep h)
  have hwn:=wN_sum j
  have HCI:=Lib.hid cI;have HWN:=Lib.hid hwn
  clear cI hwn
  have y0:wr.cell? ⟨gn,0,none⟩=some (.int .i64 j):=HS.out.n.cell 0
  have hj0:(0:Int)≤(j:Int):=by omega
  have hsz:(itoaB (j:Int)).size≤30:=by
   have:=(dec_len j (by omega)).1
   rw[Qn,itoa_dec (j:Int) (by omega)]
   simpa using Nat.le_trans this (by omega)
  go_upto_region 2 with (go_at_call 165;refine (HCI.out _ (Below.refl _ _)).mono ?_;rintro e w2 ⟨rfl,hb2⟩)
  rw[HWN.out]
  have hS2:=HS.out.keep hb2
  have hB2:But gn w w2:=HB.out.trans (But.of_below hb2)
  have y2:w2.cell? ⟨gn,0,none⟩=some (.int .i64 j):=hS2.n.cell 0
  have z2:w2.frozen? ⟨gn,0,none⟩=false:=hS2.n.free0 0
  clear y0 hsz
  go_upto_region 3 with fail
  generalize hw3:World.setCell _ _ _=w3
  have hS3:Xd gb gm gn N named (j+1) w3:=by
   rw[←hw3]
   exact hS2.next (j+1)
  have hB3:But gn w w3:=by
   rw[←hw3]
   exact hB2.step 0 _
  clear hw3 y2 z2 hS2 hB2 hb2
  have y3:w3.cell? ⟨gb,0,none⟩=some (.map (some gm)):=hS3.b.cell 0
  have hkey:keyOf Tryz.prog 9 (.string (wN j))=some (.string (wN j).data.toList):=WideMaps.keyOf_string_mk Tryz.underlying9 (by
   rw[Qn,Vp]
   have:=wL_len j (by omega)
   unfold maxLen;omega)
  have hat:=seenD_at (wN j) named
  have HKEY:=Lib.hid hkey;have HSE:=Lib.hid hat;have HS3:=Lib.hid hS3;have HB3:=Lib.hid hB3
  clear hkey hat hS3 hB3
  have hc3:=HS3.out.ctr
  cases hh:Yk named (wN j)
  ·have er:r=j:=by rw[HR.out];exact next_unique hkj (fun i h1 h2=>next_pass h1 (by rw[←HR.out];omega)) hh
   rw[hh]at HSE
   subst er
   clear hh hmeas hc3
   go_wp2_with (at_lookup;refine ZZ _ rfl _ _ 126 rfl 9 4 U2 Tryz.underlying126 Tryz.underlying4 (zeroB _) gm N _ rfl HS3.out.m _ _ rfl HKEY.out _ HSE.out ?_)
   go_ret
   exact⟨rfl,HS3.out,HB3.out⟩
  ·rw[hh]at HSE
   have hjr2:j<r:=by
    rcases Nat.eq_or_lt_of_le hjr with e | e
    ·exfalso
     have h2:=next_stop named k
     rw[←HR.out,←e,hh]at h2
     cases h2
    ·exact e
   clear hh
   go_wp2_with (at_lookup;refine ZZ _ rfl _ _ 126 rfl 9 4 U2 Tryz.underlying126 Tryz.underlying4 (zeroB _) gm N _ rfl HS3.out.m _ _ rfl HKEY.out _ HSE.out ?_)
   exact⟨⟨j+1,by omega,by omega,HS3,HB3⟩,by omega⟩
end Go.Proofs.YticlbkficolocaaGreatDoor
namespace Go.Proofs.YticlbkficolocaaGreatDoor
open Go.RowKit Go.Sort
set_option linter.unusedVariables false
set_option linter.unusedSimpArgs false
set_option maxRecDepth 100000
def fixL (x:Z7):List ByteArray:=Qp x.cust.kind x.cust.text :: Zg x.parts
def fixS (x:Z7):ByteArray:=Xt (fixL x)
theorem fix_no47 {x:Z7} (hx:Zt x):47 ∉ (Qp x.cust.kind x.cust.text).data.toList∧∀ w∈Zg x.parts,47 ∉ w.data.toList:=by
 refine⟨(Wp hx.cust.part).2.2.1,fun w hw=>?_⟩
 obtain⟨p,hp,rfl⟩:=List.mem_map.1 hw
 exact (Wp (hx.parts p hp)).2.2.1
theorem fix_split {x:Z7} (hx:Zt x):splitB 47 (fixS x)=fixL x:=split_join _ _ (fix_no47 hx).1 (fix_no47 hx).2
theorem fix_tail {p:ByteArray} {x:Z7} (h:Qx p=some x) (ht:x.tail=true):p.data.toList=(fixS x).data.toList++[47,42,42]:=by
 have e:=str_compile h
 rw[←e,Y6,J3,fixS,fixL,J3,ht]
 simp[lists,Jh,Zv]
theorem splitL_put (c:UInt8) (r:List UInt8):∀ q:List UInt8,Zz c (q++c :: r)=Zz c q++Zz c r
 | []=>by simp[Zz]
 | b :: q=>by
  have ih:=splitL_put c r q
  rw[List.cons_append]
  by_cases hb:b=c
  ·simp only[Zz,if_pos hb,ih,List.cons_append]
  ·simp only[Zz,if_neg hb,ih]
   cases hq:Zz c q with
   | nil=>exact absurd hq (Yd c q)
   | cons z zs=>rfl
theorem fix_no {p:ByteArray} {x:Z7} (h:Qx p=some x) (ht:x.tail=false):p=fixS x∧Lib.hasSuffix p.data.toList [47,42,42]=false:=by
 have e:=str_compile h
 have hx:=Zq h
 have e1:p=fixS x:=by rw[←e,Y6,fixS,fixL,ht];simp[Jh]
 refine⟨e1,?_⟩
 cases hs:Lib.hasSuffix p.data.toList [47,42,42] with
 | false=>rfl
 | true =>
  exfalso
  unfold Lib.hasSuffix at hs
  rw[List.isSuffixOf_iff_suffix]at hs
  obtain⟨q,hq⟩:=hs
  have h1:Zz 47 p.data.toList=Zz 47 q++[[42,42]]:=by rw[←hq,show q++[47,42,42]=q++47 :: [42,42] from rfl,splitL_put];rfl
  have h2:splitB 47 p=fixL x:=by rw[e1];exact fix_split hx
  have h3:(⟨#[42,42]⟩:ByteArray)∈fixL x:=by
   rw[←h2]
   unfold splitB
   rw[h1]
   simp
  rcases List.mem_cons.1 h3 with h3 | h3
  ·exact (Wp hx.cust.part).2.2.2 (by rw[←h3])
  ·obtain⟨z,hz,e2⟩:=List.mem_map.1 h3
   exact (Wp (hx.parts z hz)).2.2.2 (by rw[e2])
theorem count_no {l:List UInt8} (h:47 ∉ l):l.count 47=0:=List.count_eq_zero.2 h
theorem count_path:∀ l:List (List UInt8),(∀ x∈l,47 ∉ x)→(Zv l).count 47=l.length
 | [],_=>rfl
 | x :: l,h=>by
  have ih:=count_path l (fun y hy=>h y (by simp[hy]))
  have hx:=count_no (h x (by simp))
  unfold Zv at ih ⊢
  rw[List.flatMap_cons,List.cons_append,List.count_cons,List.count_append,hx,ih]
  simp
theorem fix_count {x:Z7} (hx:Zt x):Lib.countByte (fixS x).data.toList 47=x.parts.length:=by
 have h:=fix_no47 hx
 unfold Lib.countByte fixS fixL
 rw[J3,List.count_append,count_no h.1,count_path _ (fun y hy=>by
  obtain⟨w,hw,rfl⟩:=List.mem_map.1 hy
  exact h.2 w hw)]
 simp[lists,Zg]
theorem fix_len (x:Z7):(fixL x).length=x.parts.length+1:=by simp[fixL,Zg]
theorem fix_trim {p:ByteArray} {x:Z7} (h:Qx p=some x):(⟨(Lib.trimSuffix p.data.toList [47,42,42]).toArray⟩:ByteArray)=fixS x:=by
 unfold Lib.trimSuffix
 cases ht:x.tail with
 | false =>
  obtain⟨e,hs⟩:=fix_no h ht
  rw[hs,if_neg (by decide),←e]
 | true =>
  have e:=fix_tail h ht
  have hs:Lib.hasSuffix p.data.toList [47,42,42]=true:=by
   unfold Lib.hasSuffix
   rw[List.isSuffixOf_iff_suffix,e]
   exact List.suffix_append _ _
  rw[if_pos hs,e]
  simp
theorem fix_has {p:ByteArray} {x:Z7} (h:Qx p=some x):Lib.hasSuffix p.data.toList [47,42,42]=x.tail:=by
 cases ht:x.tail with
 | false=>exact (fix_no h ht).2
 | true =>
  unfold Lib.hasSuffix
  rw[List.isSuffixOf_iff_suffix,fix_tail h ht]
  exact List.suffix_append _ _
def starS:ByteArray:=⟨#[42]⟩
theorem partsM_str {x:Z7} (m:Nat):Zg (ZW x m)=Zg x.parts++List.replicate (m-x.parts.length) starS:=by
 unfold ZW Zg
 rw[List.map_append,List.map_replicate]
 rfl
theorem str_starred {p:Part} (h:p.kind≠0):(Qp p.kind p.text).data.toList=42 :: p.text.data.toList:=by rw[Jl,if_neg h]
theorem str_plain {p:Part} (hp:Qa p) (h:p.kind=0):Lib.hasPrefix (Qp p.kind p.text).data.toList [42]=false∧Qp p.kind p.text=p.text:=by
 have e:Qp p.kind p.text=p.text:=by unfold Qp;rw[if_pos h]
 refine⟨?_,e⟩
 rw[e]
 rcases hp with ⟨_,hw⟩ | ⟨hk,_⟩ | ⟨hk,_⟩
 ·cases hl:p.text.data.toList with
  | nil=>rfl
  | cons b r =>
   have hb:b≠42:=fun e=>(X5 hw).2.2.2.2.1 (by rw[hl,e];simp)
   simp[Lib.hasPrefix,List.isPrefixOf,hb.symm]
 ·omega
 ·omega
def cIn (l:List Int):ZV:=⟨0,1099511627777,⟨#[]⟩,[],[],l,0⟩
def cCo (l:List ByteArray):ZV:=⟨0,1099511627777,⟨#[]⟩,[],l,[],0⟩
def cA:ZV:=⟨0,1099511627777,(⟨#[97,99,109,101,47,42,42]⟩:ByteArray),[],[],[1,2],0⟩
def cT (a b:Int):ZV:=⟨a,b,⟨#[]⟩,[],[],[],0⟩
theorem e1:Xj cA=true:=by kernel_rfl
theorem e2:Xj (cIn [1,2])=true:=by kernel_rfl
theorem e3:Xj (cIn [2,3])=true:=by kernel_rfl
theorem e4:Xj (cIn [3])=true:=by kernel_rfl
theorem e5:Xj (cCo [(⟨#[100,101]⟩:ByteArray),(⟨#[102,114]⟩:ByteArray)])=true:=by kernel_rfl
theorem e6:Xj (cCo [(⟨#[100,101]⟩:ByteArray)])=true:=by kernel_rfl
theorem e7:Xj (cIn [])=true:=by kernel_rfl
theorem e8:Xj (cIn allSites)=true:=by kernel_rfl
theorem v1:textC cA=(⟨#[48,32,49,48,57,57,53,49,49,54,50,55,55,55,55,32,97,99,109,101,47,42,42,32,126,32,126,32,49,44,50,32,48]⟩:ByteArray):=by kernel_rfl
theorem v2:meetC (cIn [1,2]) (cIn [2,3])=cIn [2]:=by kernel_rfl
theorem v3:meetC (cIn [1,2]) (cIn [3])=zeroC:=by kernel_rfl
theorem v4:impR (cCo [(⟨#[100,101]⟩:ByteArray),(⟨#[102,114]⟩:ByteArray)]) (cCo [(⟨#[100,101]⟩:ByteArray)])=(false,⟨(⟨#[97]⟩:ByteArray),(⟨#[97]⟩:ByteArray),(⟨#[102,114]⟩:ByteArray),0,0,0⟩):=by kernel_rfl
theorem v5:impR (cIn []) (cIn allSites)=(true,UU):=by kernel_rfl
theorem v6:emptyR (cT 5 5)=(true,UU,0):=by kernel_rfl
theorem v7:emptyR (cT 5 6)=(false,⟨(⟨#[97]⟩:ByteArray),(⟨#[97]⟩:ByteArray),(⟨#[97,97]⟩:ByteArray),0,5,5⟩,0):=by kernel_rfl
theorem pathL_le2 (B:Nat):∀ l:List (List UInt8),(∀ p∈l,p.length≤B)→(Zv l).length≤l.length*(B+1)
 | [],_=>by simp[Zv]
 | p :: l,h=>by
  have h1:=h p (by simp)
  have h2:=pathL_le2 B l (fun q hq=>h q (by simp[hq]))
  simp only[Zv,List.flatMap_cons,List.length_append,List.length_cons,Nat.succ_mul]at h2 ⊢
  omega
theorem str_size2 {p:Part} (h:Qa p):(Qp p.kind p.text).size≤66:=by
 have e:=Jl p.kind p.text
 rw[Qn,e]
 rcases h with ⟨hk,hw⟩ | ⟨hk,s,hs,hs2,ht⟩ | ⟨hk,ht⟩
 ·have:=(Uy hw).2.2.2
  rw[Qn]at this
  rw[if_pos hk];omega
 ·rw[if_neg (by omega),ht]
  rw[Qn]at hs2
  simp only[List.length_cons];omega
 ·rw[if_neg (by omega),ht]
  decide
theorem patS_size2 {z:Z7} (h:Zt z):(VW z).size≤10000:=by
 rw[Y6,Qn,J3]
 have h1:=str_size2 h.cust.part
 rw[Qn]at h1
 have h2:=pathL_le2 66 (lists (Zg z.parts++Jh z.tail)) (by
  intro p hp
  obtain⟨x,hx,rfl⟩:=List.mem_map.1 hp
  rw[←Qn]
  rcases List.mem_append.1 hx with hx | hx
  ·obtain⟨y,hy,rfl⟩:=List.mem_map.1 hx
   exact str_size2 (h.parts y hy)
  ·unfold Jh at hx
   split at hx
   ·rw[List.mem_singleton.1 hx];decide
   ·cases hx)
 have h3:=h.num
 have h4:(lists (Zg z.parts++Jh z.tail)).length≤33:=by
  unfold lists Zg Jh
  rw[List.length_map,List.length_append,List.length_map]
  split <;> simp <;> omega
 rw[List.length_append]
 have:=Nat.mul_le_mul_right 67 h4
 omega
def fewV (c:ZV):Bool:=fewC c.cl.length c.co.length c.si.length c.pat c.cl c.co
theorem few_fits {c:ZV} (h:fewV c=true):Wh c:=by
 unfold fewV fewC at h
 simp only[Bool.and_eq_true,decide_eq_true_eq,List.all_eq_true]at h
 obtain⟨⟨⟨⟨⟨h1,h2⟩,h3⟩,h4⟩,h5⟩,h6⟩:=h
 exact⟨by omega,fun x hx=>by have:=h5 x hx;omega,fun x hx=>by have:=h6 x hx;omega,by omega,by omega,by omega⟩
def VBox (w:World) (g:Nat) (c:ZV) (m:Zy):Prop:=Zi w g c.fr c.till c.pat m.A c.cl.length m.ca m.B c.co.length m.cb m.S c.si.length m.cs c.us
def WZ (v:Zo):Bool:=decide (v.header.size≤200)&&decide (v.dflt.size≤200)&&decide (v.values.length≤10)&&v.values.all (fun x=>decide (x.size≤200))
def fewCR (c:ZV):Bool:=fewC c.cl.length c.co.length c.si.length c.pat c.cl c.co
def fewR (r:Vm):Bool:=decide (r.name.size≤200)&&decide (r.pat.size≤200)&&decide (r.prog.size≤200)&&decide (r.tags.length≤10)&&decide (r.vary.length≤10)&&fewCR r.allow&&r.tags.all (fun x=>decide (x.size≤200))&&r.vary.all WZ
theorem rFew22_head (x:Qh) (w:World) (hR:Xx w x) (hbad:(decide (x.r.name.size≤200)&&decide (x.r.pat.size≤200)&&decide (x.r.prog.size≤200)&&decide (x.r.tags.length≤10)&&decide (x.r.vary.length≤10)&&fewCR x.r.allow)=false) :
  Calls Tryz.prog 19 #[x.val] w (Zx w (.bool false)):=by
 have cF:=fun W (hb:Below w.heap.size w W)=>rFew_any x.r.allow.fr x.r.allow.till x.r.allow.us x.r.allow.pat x.m.A x.m.B x.m.S x.r.allow.cl.length x.m.ca x.r.allow.co.length x.m.cb x.r.allow.si.length x.m.cs x.r.allow.cl x.r.allow.co W (hR.allow.cl.keep hb) (hR.allow.co.keep hb)
 have hfc:fewC x.r.allow.cl.length x.r.allow.co.length x.r.allow.si.length x.r.allow.pat x.r.allow.cl x.r.allow.co=fewCR x.r.allow:=rfl
 rw[hfc]at cF
 generalize fewCR x.r.allow=fc at *
 rw[Qh.val_eq]
 have HF:=Lib.hid cF
 clear cF hR hfc
 by_cases h0:x.r.name.size≤200
 rotate_left
 ·have d0:decide ((200:Int)<(x.r.name.size:Int))=true:=decide_eq_true (by omega)
  clear hbad
  go_enter Tryz.func19,Tryz.ntmps19
  go_wp2
  go_ret
  exact⟨rfl,Qz⟩
 have d0:decide ((200:Int)<(x.r.name.size:Int))=false:=decide_eq_false (by omega)
 by_cases h1:x.r.pat.size≤200
 rotate_left
 ·have d1:decide ((200:Int)<(x.r.pat.size:Int))=true:=decide_eq_true (by omega)
  clear hbad
  go_enter Tryz.func19,Tryz.ntmps19
  go_wp2
  go_ret
  exact⟨rfl,Qz⟩
 have d1:decide ((200:Int)<(x.r.pat.size:Int))=false:=decide_eq_false (by omega)
 by_cases h2:x.r.prog.size≤200
 rotate_left
 ·have d2:decide ((200:Int)<(x.r.prog.size:Int))=true:=decide_eq_true (by omega)
  clear hbad
  go_enter Tryz.func19,Tryz.ntmps19
  go_wp2
  go_ret
  exact⟨rfl,Qz⟩
 have d2:decide ((200:Int)<(x.r.prog.size:Int))=false:=decide_eq_false (by omega)
 by_cases h3:x.r.tags.length≤10
 rotate_left
 ·have d3:decide ((10:Int)<(x.r.tags.length:Int))=true:=decide_eq_true (by omega)
  clear hbad
  go_enter Tryz.func19,Tryz.ntmps19
  go_wp2
  go_ret
  exact⟨rfl,Qz⟩
 have d3:decide ((10:Int)<(x.r.tags.length:Int))=false:=decide_eq_false (by omega)
 by_cases h4:x.r.vary.length≤10
 rotate_left
 ·have d4:decide ((10:Int)<(x.r.vary.length:Int))=true:=decide_eq_true (by omega)
  clear hbad
  go_enter Tryz.func19,Tryz.ntmps19
  go_wp2
  go_ret
  exact⟨rfl,Qz⟩
 have d4:decide ((10:Int)<(x.r.vary.length:Int))=false:=decide_eq_false (by omega)
 obtain rfl:fc=false:=by simpa[h0,h1,h2,h3,h4] using hbad
 clear hbad
 go_enter Tryz.func19,Tryz.ntmps19
 go_wp2_with (go_at_call 44;refine (HF.out _ Qz).mono ?_;rintro e w2 ⟨rfl,hb2⟩)
 go_ret
 exact⟨rfl,Qz⟩
theorem rFew22_tail (x:Qh) (w:World) (hR:Xx w x) (hgood:(decide (x.r.name.size≤200)&&decide (x.r.pat.size≤200)&&decide (x.r.prog.size≤200)&&decide (x.r.tags.length≤10)&&decide (x.r.vary.length≤10)&&fewCR x.r.allow)=true) :
  Calls Tryz.prog 19 #[x.val] w (Zx w (.bool (x.r.tags.all (fun x:ByteArray=>decide (x.size≤200))&&x.r.vary.all WZ))):=by
 have cF:=fun W (hb:Below w.heap.size w W)=>rFew_any x.r.allow.fr x.r.allow.till x.r.allow.us x.r.allow.pat x.m.A x.m.B x.m.S x.r.allow.cl.length x.m.ca x.r.allow.co.length x.m.cb x.r.allow.si.length x.m.cs x.r.allow.cl x.r.allow.co W (hR.allow.cl.keep hb) (hR.allow.co.keep hb)
 have hfc:fewC x.r.allow.cl.length x.r.allow.co.length x.r.allow.si.length x.r.allow.pat x.r.allow.cl x.r.allow.co=fewCR x.r.allow:=rfl
 rw[hfc]at cF
 generalize fewCR x.r.allow=fc at *
 simp only[Bool.and_eq_true,decide_eq_true_eq]at hgood
 obtain⟨⟨⟨⟨⟨h0,h1⟩,h2⟩,h3⟩,h4⟩,rfl⟩:=hgood
 have d0:decide ((200:Int)<(x.r.name.size:Int))=false:=decide_eq_false (by omega)
 have d1:decide ((200:Int)<(x.r.pat.size:Int))=false:=decide_eq_false (by omega)
 have d2:decide ((200:Int)<(x.r.prog.size:Int))=false:=decide_eq_false (by omega)
 have d3:decide ((10:Int)<(x.r.tags.length:Int))=false:=decide_eq_false (by omega)
 have d4:decide ((10:Int)<(x.r.vary.length:Int))=false:=decide_eq_false (by omega)
 obtain⟨V,hV⟩:∃ V,V=(x.r.tags.all (fun x:ByteArray=>decide (x.size≤200))&&x.r.vary.all WZ):=⟨_,rfl⟩
 rw[←hV]
 rw[Qh.val_eq]
 have hA:=hR.tags
 have hsame:=hR.same
 have HF:=Lib.hid cF;have HV:=Lib.hid hV;have HA:=Lib.hid hA;have HR:=Lib.hid hR;have HSM:=Lib.hid hsame
 have hvl:x.L.length=x.r.vary.length:=by rw[←hsame,List.length_map]
 have HVL:=Lib.hid hvl
 clear cF hR hfc hV hA hsame hvl h0 h1 h2
 go_enter Tryz.func19,Tryz.ntmps19
 go_wp2_with (go_at_call 44;refine (HF.out _ Qz).mono ?_;rintro e w2 ⟨rfl,hb2⟩;have y2:w2.cell? ⟨w.heap.size,2,none⟩=some (.slice x.T x.r.tags.length x.ct):=Qq hb2 ((cell_of_row _ _ 2 _ _ _ (heap_alloc_new w _)).trans rfl);have y7:w2.cell? ⟨w.heap.size,7,none⟩=some (.slice x.V x.r.vary.length x.cv):=Qq hb2 ((cell_of_row _ _ 7 _ _ _ (heap_alloc_new w _)).trans rfl))
 have hbw2:Below w.heap.size w w2:=Qz
 clear d0 d1 d2 d3 d4 HF
 obtain⟨n,hn⟩:∃ n,n=x.r.tags.length:=⟨_,rfl⟩
 obtain⟨m,hm⟩:∃ m,m=x.r.vary.length:=⟨_,rfl⟩
 rw[←hn]at y2 HA h3
 rw[←hm]at y7 h4 HVL
 have HN:=Lib.hid hn;have HMM:=Lib.hid hm
 clear hn hm
 go_loopw [3] (fun vi wr=>∃ k:Nat,vi=.int .i64 k∧k≤n∧Hid ((x.r.tags.take k).all (fun x:ByteArray=>decide (x.size≤200))=true)∧wr.cell? ⟨w.heap.size,2,none⟩=some (.slice x.T n x.ct)∧wr.cell? ⟨w.heap.size,7,none⟩=some (.slice x.V m x.cv)∧Below w.heap.size w wr∧w.heap.size<wr.heap.size) (fun i _=>n-(intOf i).toNat)
 case atStart=>exact⟨0,rfl,Nat.zero_le _,Lib.hid (by simp),y2,y7,hbw2,cell_lt y2⟩
 case round =>
  clear y2 y7 hbw2 hb2
  obtain⟨k,rfl,hk,HK,y2,y7,hbr,hgr⟩:=hrel
  by_cases hlt:k<n
  ·obtain⟨t,ht⟩:∃ t,x.r.tags[k]? = some t:=⟨_,List.getElem?_eq_getElem (by have:=HN.out;omega)⟩
   obtain⟨b,o,hT,hcell⟩:=(HA.out.keep hbr).2 (by omega)
   rw[hT]at y2
   have hc1:wr.cell? ⟨b,o+k,none⟩=some (.string t):=hcell k _ (by simp[ht])
   have hk0:(0:Int)≤(k:Int):=by omega
   have hk1:(k:Int)<(n:Int):=by omega
   by_cases hs:t.size≤200
   ·have HK2:Hid ((x.r.tags.take (k+1)).all (fun x:ByteArray=>decide (x.size≤200))=true):=Lib.hid (U7 HK.out ht (by simpa using hs))
    have d5:decide ((200:Int)<(t.size:Int))=false:=decide_eq_false (by omega)
    have HTT:=Lib.hid hT
    clear hcell ht HK hT
    go_wp2
    exact⟨⟨k+1,by go_num,by omega,HK2,by rw[HTT.out];exact y2,y7,hbr,hgr⟩,by simp[intOf];omega⟩
   ·obtain rfl:V=false:=by rw[HV.out,Ko ht (by simpa using hs)];rfl
    have d5:decide ((200:Int)<(t.size:Int))=true:=decide_eq_true (by omega)
    clear hcell ht HK hT
    go_wp2
    go_ret
    exact⟨rfl,hbr⟩
  ·obtain rfl:k=n:=by omega
   have hall:x.r.tags.all (fun x:ByteArray=>decide (x.size≤200))=true:=by
    have:=HK.out
    rwa [List.take_of_length_le (by have:=HN.out;omega)]at this
   have hv3:V=x.r.vary.all WZ:=by rw[HV.out,hall,Bool.true_and]
   have HV2:=Lib.hid hv3
   clear hall hv3 HK HV
   go_wp2
   obtain⟨wo,rfl⟩:∃ wo:World,wo=wr:=⟨_,rfl⟩
   clear y2 HA
   go_loopw [4] (fun vi wz=>∃ j:Nat,vi=.int .i64 j∧j≤m∧Hid ((x.r.vary.take j).all WZ=true)∧wz.cell? ⟨w.heap.size,7,none⟩=some (.slice x.V m x.cv)∧Below w.heap.size w wz∧w.heap.size<wz.heap.size) (fun i _=>m-(intOf i).toNat)
   case atStart=>exact⟨0,rfl,Nat.zero_le _,Lib.hid (by simp),y7,hbr,hgr⟩
   case round =>
    clear y7 hbr hgr
    obtain⟨j,rfl,hj,HJ,y7,hbr,hgr⟩:=hrel
    by_cases hlt2:j<m
    ·obtain⟨y,hy⟩:∃ y,x.L[j]? = some y:=⟨_,List.getElem?_eq_getElem (by have:=HVL.out;omega)⟩
     have hxv:x.r.vary[j]? = some y.v:=by rw[←HSM.out,List.getElem?_map,hy];rfl
     obtain⟨b,o,hVV,hcell⟩:=Reads.row (HR.out.vary.keep hbr) (fun a _=>a.cells_len) (by have:=HVL.out;have:=HMM.out;omega) hy
     have hyr:=(HR.out.each y (List.mem_of_getElem? hy))
     rw[hVV]at y7
     have e0:wr.cell? ⟨b,o+j*3,none⟩=some (.string y.v.header):=hcell 0 _ rfl
     have e1:wr.cell? ⟨b,o+j*3+1,none⟩=some (.slice y.A y.v.values.length y.c):=hcell 1 _ rfl
     have e2:wr.cell? ⟨b,o+j*3+2,none⟩=some (.string y.v.dflt):=hcell 2 _ rfl
     have hj0:(0:Int)≤(j:Int):=by omega
     have hj1:(j:Int)<(m:Int):=by omega
     have HYR:=Lib.hid hyr;have HVV:=Lib.hid hVV
     clear hcell hy hyr hVV
     by_cases g0:y.v.header.size≤200
     rotate_left
     ·obtain rfl:V=false:=by rw[HV2.out,Ko hxv (by simp[WZ,g0])]
      have dg0:decide ((200:Int)<(y.v.header.size:Int))=true:=decide_eq_true (by omega)
      clear HJ hxv
      go_wp2
      go_ret
      exact⟨rfl,Qz⟩
     have dg0:decide ((200:Int)<(y.v.header.size:Int))=false:=decide_eq_false (by omega)
     by_cases g1:y.v.dflt.size≤200
     rotate_left
     ·obtain rfl:V=false:=by rw[HV2.out,Ko hxv (by simp[WZ,g1])]
      have dg1:decide ((200:Int)<(y.v.dflt.size:Int))=true:=decide_eq_true (by omega)
      clear HJ hxv
      go_wp2
      go_ret
      exact⟨rfl,Qz⟩
     have dg1:decide ((200:Int)<(y.v.dflt.size:Int))=false:=decide_eq_false (by omega)
     by_cases g2:y.v.values.length≤10
     rotate_left
     ·obtain rfl:V=false:=by rw[HV2.out,Ko hxv (by simp[WZ,g2])]
      have dg2:decide ((10:Int)<(y.v.values.length:Int))=true:=decide_eq_true (by omega)
      clear HJ hxv
      go_wp2
      go_ret
      exact⟨rfl,Qz⟩
     have dg2:decide ((10:Int)<(y.v.values.length:Int))=false:=decide_eq_false (by omega)
     have HXV:=Lib.hid hxv
     clear hxv
     go_wp2
     obtain⟨wv,hwv⟩:∃ wv:World,wv=wr:=⟨_,rfl⟩
     have z7:(wr.alloc (.cells #[.string y.v.header,.slice y.A y.v.values.length y.c,.string y.v.dflt] 98)).cell? ⟨w.heap.size,7,none⟩=some (.slice (some ⟨b,o,none⟩) m x.cv):=Qq ((Below.refl wr.heap.size wr).alloc (Nat.le_refl _) _) y7
     have z1:(wr.alloc (.cells #[.string y.v.header,.slice y.A y.v.values.length y.c,.string y.v.dflt] 98)).cell? ⟨wr.heap.size,1,none⟩=some (.slice y.A y.v.values.length y.c):=(cell_of_row _ _ 1 _ _ _ (heap_alloc_new wr _)).trans rfl
     have hb3:Below w.heap.size w (wr.alloc (.cells #[.string y.v.header,.slice y.A y.v.values.length y.c,.string y.v.dflt] 98)):=Qz
     clear e0 e1 e2 dg0 dg1 dg2 y7
     generalize hg:wr.heap.size=g at *
     have hgg:w.heap.size<g:=hgr
     obtain⟨q,hq⟩:∃ q,q=y.v.values.length:=⟨_,rfl⟩
     rw[←hq]at z1 z7 hb3 g2 ⊢
     have HQ:=Lib.hid hq
     clear hq
     go_loopw [6] (fun vi wy=>∃ i:Nat,vi=.int .i64 i∧i≤q∧Hid ((y.v.values.take i).all (fun x:ByteArray=>decide (x.size≤200))=true)∧wy.cell? ⟨w.heap.size,7,none⟩=some (.slice (some ⟨b,o,none⟩) m x.cv)∧wy.cell? ⟨g,1,none⟩=some (.slice y.A q y.c)∧Below w.heap.size w wy) (fun i _=>q-(intOf i).toNat)
     case atStart=>exact⟨0,rfl,Nat.zero_le _,Lib.hid (by simp),z7,z1,hb3⟩
     case round =>
      clear z7 z1 hb3 hbr
      obtain⟨i,rfl,hi,HK3,z7,z1,hbr⟩:=hrel
      by_cases hlt3:i<q
      ·obtain⟨t,ht⟩:∃ t,y.v.values[i]? = some t:=⟨_,List.getElem?_eq_getElem (by have:=HQ.out;omega)⟩
       obtain⟨b3,o3,hYA,hcell⟩:=(Reads.keep HYR.out hbr).2 (by have:=HQ.out;omega)
       rw[hYA]at z1
       have hc1:wr.cell? ⟨b3,o3+i,none⟩=some (.string t):=hcell i _ (by simp[ht])
       have hi0:(0:Int)≤(i:Int):=by omega
       have hi1:(i:Int)<(q:Int):=by omega
       by_cases hs:t.size≤200
       ·have HK4:Hid ((y.v.values.take (i+1)).all (fun x:ByteArray=>decide (x.size≤200))=true):=Lib.hid (U7 HK3.out ht (by simpa using hs))
        have d5:decide ((200:Int)<(t.size:Int))=false:=decide_eq_false (by omega)
        have HTT:=Lib.hid hYA
        clear hcell ht HK3 hYA
        go_wp2
        exact⟨⟨i+1,by go_num,by omega,HK4,z7,by rw[HTT.out];exact z1,hbr⟩,by simp[intOf];omega⟩
       ·obtain rfl:V=false:=by rw[HV2.out,Ko HXV.out (by simp[WZ,Ko ht (p:=(fun x:ByteArray=>decide (x.size≤200))) (by simpa using hs)])]
        have d5:decide ((200:Int)<(t.size:Int))=true:=decide_eq_true (by omega)
        clear hcell ht HK3 hYA
        go_wp2
        go_ret
        exact⟨rfl,hbr⟩
      ·obtain rfl:i=q:=by omega
       have hall:y.v.values.all (fun x:ByteArray=>decide (x.size≤200))=true:=by
        have:=HK3.out
        rwa [List.take_of_length_le (by have:=HQ.out;omega)]at this
       have hfv:WZ y.v=true:=by
        unfold WZ
        rw[hall]
        have:=HQ.out
        simp[g0,g1,←HQ.out,g2]
       have HJ2:Hid ((x.r.vary.take (j+1)).all WZ=true):=Lib.hid (U7 HJ.out HXV.out hfv)
       clear hall hfv HK3
       go_wp2
       exact⟨⟨j+1,by go_num,by omega,HJ2,by rw[HVV.out];exact z7,hbr,cell_lt z7⟩,by simp[intOf];omega⟩
    ·obtain rfl:j=m:=by omega
     have hall:x.r.vary.all WZ=true:=by
      have:=HJ.out
      rwa [List.take_of_length_le (by have:=HMM.out;omega)]at this
     obtain rfl:V=true:=by rw[HV2.out,hall]
     clear hall HJ
     go_wp2
     go_ret
     exact⟨rfl,hbr⟩
theorem rFew22_any (x:Qh) (w:World) (hR:Xx w x):Calls Tryz.prog 19 #[x.val] w (Zx w (.bool (fewR x.r))):=by
 unfold fewR
 cases hc:(decide (x.r.name.size≤200)&&decide (x.r.pat.size≤200)&&decide (x.r.prog.size≤200)&&decide (x.r.tags.length≤10)&&decide (x.r.vary.length≤10)&&fewCR x.r.allow)
 ·rw[Bool.false_and,Bool.false_and];exact rFew22_head x w hR hc
 ·rw[Bool.true_and];exact rFew22_tail x w hR hc
theorem VBox.facts {w:World} {g:Nat} {c:ZV} {m:Zy} (h:VBox w g c m) :
  w.cell? ⟨g,0,none⟩=some (.int .i64 c.fr)∧w.cell? ⟨g,1,none⟩=some (.int .i64 c.till)∧w.cell? ⟨g,2,none⟩=some (.string c.pat)∧w.cell? ⟨g,3,none⟩=some (.slice m.A c.cl.length m.ca)∧w.cell? ⟨g,4,none⟩=some (.slice m.B c.co.length m.cb)∧w.cell? ⟨g,5,none⟩=some (.slice m.S c.si.length m.cs)∧w.cell? ⟨g,6,none⟩=some (.int .i64 c.us):=Zi.facts h
theorem VBox.keep {w w':World} {g:Nat} {c:ZV} {m:Zy} (h:VBox w g c m) (hb:Below w.heap.size w w'):VBox w' g c m:=Qv.keep h hb
def YBox (w:World) (g:Nat) (q:Kr):Prop:=Xa w g q.addr q.client q.country q.site q.lo q.hi
theorem YBox.facts {w:World} {g:Nat} {q:Kr} (h:YBox w g q) :
  w.cell? ⟨g,0,none⟩=some (.string q.addr)∧w.cell? ⟨g,1,none⟩=some (.string q.client)∧w.cell? ⟨g,2,none⟩=some (.string q.country)∧w.cell? ⟨g,3,none⟩=some (.int .i64 q.site)∧w.cell? ⟨g,4,none⟩=some (.int .i64 q.lo)∧w.cell? ⟨g,5,none⟩=some (.int .i64 q.hi):=Xa.facts h
theorem YBox.keep {w w':World} {g:Nat} {q:Kr} (h:YBox w g q) (hb:Below w.heap.size w w'):YBox w' g q:=Qv.keep h hb
end Go.Proofs.YticlbkficolocaaGreatDoor
