/- What 'compile' returns: the pattern of a string. -/
import Derived.Test.YticlbkficolocaaGreatDoorIZ10
import Derived.Deep.RegionHeldLaw
import Derived.Test.YticlbkficolocaaGreatDoorIZ6
set_option maxHeartbeats 4000000
namespace Go.Proofs.YticlbkficolocaaGreatDoor
open Go.RowKit Go.Sort
set_option linter.unusedVariables false
set_option linter.unusedSimpArgs false
set_option maxRecDepth 100000
structure Z7 where
 cust:Part
 parts:List Part
 tail:Bool
def QZ (ps:List Part):List Value:=ps.flatMap fun p=>[.int .i64 p.kind,.string p.text]
def Kv (w:ByteArray):Bool:=w.toList == [42]||Qg w||(decide (w.size≤34)&&Lib.hasPrefix w.data.toList [42,46]&&Qg (w.extract 2 w.size))
def cmpL:List ByteArray→List Part→Option (List Part × Bool)
 | [],acc=>some (acc,false)
 | w :: r,acc=>if w.toList == [42,42]&&r.isEmpty then some (acc,true) else if Kv w then cmpL r (acc++[Q7 w]) else none
def Xq (l0:ByteArray):Bool:=l0.toList == [42]||Qy l0
def Vq:List ByteArray→Option Z7
 | []=>none
 | l0 :: r=>if r.length≤32&&Xq l0 then (cmpL r []).map fun x=>⟨Q7 l0,x.1,x.2⟩ else none
def Qx (s:ByteArray):Option Z7:=Vq (splitB 47 s)
def XK (r:Option Z7) (w:World) (e:Ending) (w':World):Prop :=
 Below w.heap.size w w'∧match r with
 | none=>∃ (k:Nat) (t:ByteArray) (A:Option Addr) (n c:Nat) (b:Bool),e=.returned (.tuple #[.agg #[.int .i64 k,.string t,.slice A n c,.bool b],.bool false])
 | some p=>∃ A c,e=.returned (.tuple #[.agg #[.int .i64 p.cust.kind,.string p.cust.text,.slice A p.parts.length c,.bool p.tail],.bool true])∧Reads w' 2 A p.parts.length (QZ p.parts)∧∀ a,A=some a→w.heap.size≤a.block
theorem XK.none_ {w w':World} (k:Nat) (t:ByteArray) (A:Option Addr) (n c:Nat) (b:Bool) (hb:Below w.heap.size w w'):XK none w (.returned (.tuple #[.agg #[.int .i64 k,.string t,.slice A n c,.bool b],.bool false])) w':=⟨hb,k,t,A,n,c,b,rfl⟩
theorem Qv.free0 {w:World} {g:Nat} {t:TypeId} {cs:Array Value} (h:Qv w g t cs (0,0)) (i:Nat):w.frozen? ⟨g,i,none⟩=false:=by
 unfold Qv at h
 simp[World.frozen?,h]
theorem partOfP_kind (s:ByteArray):(Q7 s).kind≤2:=by
 unfold Q7;split <;> (try split) <;> (try split) <;> simp
theorem partOfP_size (s:ByteArray):(Q7 s).text.size≤s.size:=by
 unfold Q7;split <;> (try split) <;> (try split) <;> simp <;> exact Nat.zero_le _
def Z4 (w:World) (g:Nat) (k:Nat) (t:ByteArray) (v:Value) (b:Bool):Prop:=Qv w g 104 #[.int .i64 k,.string t,v,.bool b] (0,0)
theorem Z4.facts {w:World} {g k:Nat} {t:ByteArray} {v:Value} {b:Bool} (h:Z4 w g k t v b) :
  w.cell? ⟨g,0,none⟩=some (.int .i64 k)∧w.cell? ⟨g,1,none⟩=some (.string t)∧w.cell? ⟨g,2,none⟩=some v∧w.cell? ⟨g,3,none⟩=some (.bool b) ∧
   w.frozen? ⟨g,0,none⟩=false∧w.frozen? ⟨g,1,none⟩=false∧w.frozen? ⟨g,2,none⟩=false∧w.frozen? ⟨g,3,none⟩=false :=
 ⟨Qv.cell h 0,Qv.cell h 1,Qv.cell h 2,Qv.cell h 3,Qv.free0 h 0,Qv.free0 h 1,Qv.free0 h 2,Qv.free0 h 3⟩
theorem infoPart:(Tryz.prog.info? 101).map (fun i=>(i.zero,i.size,i.bytes))=some (some (.agg #[.int .i64 0,.string ⟨#[]⟩]),2,24):=by kernel_rfl
def CmpI (r:List ByteArray) (k:Nat) (acc:List Part) (tl:Bool):Prop:=(tl=false∧cmpL r []=cmpL (r.drop k) acc)∨(tl=true∧k=r.length∧cmpL r []=some (acc,true))
theorem undrew {X w:World} (h:Below X.drew.heap.size X.drew w):Below X.heap.size X w:=⟨h.os,h.tape,h.output,h.size,h.block⟩
theorem isWord_stars:Qg ⟨#[42,42]⟩=false:=by simp[Qg,Lib.toList_data,Z8,KY]
theorem Ud:Kv ⟨#[42,42]⟩=false:=by simp[Kv,isWord_stars,Lib.toList_data,Lib.hasPrefix,List.isPrefixOf]
theorem WJ (s:ByteArray) (w:World) (hs:s.size≤100000) (hE:Env w):Calls Tryz.prog 45 #[.string s] w (XK (Qx s) w):=by
 have hE1:=hE.keep (Qk (Below.refl _ _) (.cells #[.int .i64 0,.string ⟨#[]⟩,.slice none 0 0,.bool false] 104))
 have cS:=split_any s 47 _ (by omega) hE1
 have hsz:=Jm 47 s
 have hnum:=Ku 47 s
 have hne:splitB 47 s ≠ []:=by
  intro h
  have:=congrArg List.length h
  unfold splitB at this
  rw[List.length_map]at this
  exact Yd 47 s.data.toList (List.eq_nil_of_length_eq_zero this)
 unfold Qx
 generalize splitB 47 s=l at *
 obtain⟨l0,r,rfl⟩:=List.exists_cons_of_ne_nil hne
 have hl0:l0.size≤100000:=Nat.le_trans (hsz l0 (by simp)) hs
 have cN:=fun W=>U3 l0 W (by omega)
 clear hne
 obtain⟨m,hm⟩:∃ m,m=r.length:=⟨_,rfl⟩
 have HS:Hid (∀ W,W=(w.alloc (.cells #[.int .i64 0,.string ⟨#[]⟩,.slice none 0 0,.bool false] 104))→Calls Tryz.prog 88 #[.string s,.string ⟨#[47]⟩] W (fun e w'=>Below W.heap.size W w'∧∃ A c,e=.returned (.slice A (m+1) c)∧Reads w' 1 A (m+1) ((l0 :: r).map .string)∧(∀ a,A=some a→W.heap.size≤a.block)∧m+1≤c)):=Lib.hid (by rintro W rfl;rw[hm];exact cS)
 have HN:=Lib.hid cN
 have HM:=Lib.hid hm
 have hm9:m≤100001:=by rw[hm];simp at hnum;omega
 clear cS cN hE hE1
 simp only[Vq]
 rw[←hm]
 clear hm
 by_cases hbig:32<m
 ·rw[show decide (m≤32)=false by simp;omega]
  simp only[Bool.false_and,Bool.false_eq_true,if_false]
  have hd:decide ((33:Int)<(m:Int)+1)=true:=by simp;omega
  go_enter Tryz.func45,Tryz.ntmps45
  go_wp2_with (go_at_call 88;refine (HS.out _ rfl).mono ?_;rintro e w1 ⟨hb1,A,c,rfl,hR,hA,hcap⟩;have hB1:Z4 w1 w.heap.size 0 ⟨#[]⟩ (.slice none 0 0) false:=(hb1.block w.heap.size (by simp)).trans (World.alloc_heap_new _ _);obtain⟨c0,c1,c2,c3,f0,f1,f2,f3⟩:=hB1.facts;obtain⟨pb,po,u,rfl,hu,g0⟩:=hR.at_ (k:=0) (by omega);(obtain rfl:u=.string l0:=(by simpa using hu.symm));clear hu;have gg:w1.cell? ⟨pb,po,none⟩=some (.string l0):=g0;clear g0;have hcap1:(m:Int)+1≤(c:Int):=(by omega);have hA1:w.heap.size<pb:=(by have:=hA _ rfl;simp at this;omega))
  exact bodyPost_ret (v:=.tuple #[.agg #[.int .i64 0,.string ⟨#[]⟩,.slice none 0 0,.bool false],.bool false]) (by simp[results,Tryz.results45,go_sem,c0,c1,c2,c3]) rfl (XK.none_ 0 _ _ _ _ _ Qz)
 have hd:decide ((33:Int)<(m:Int)+1)=false:=by simp;omega
 rw[show decide (m≤32)=true by simp;omega]
 simp only[Bool.true_and]
 have hn0:(0:Int)<(m:Int)+1:=by omega
 cases hho:Xq l0
 ·simp only[Bool.false_eq_true,if_false]
  unfold Xq at hho
  simp only[Bool.or_eq_false_iff]at hho
  obtain⟨h1,h2⟩:=hho
  rw[h2]at HN
  clear h2
  go_enter Tryz.func45,Tryz.ntmps45
  go_wp2_with (first | (go_at_call 88;refine (HS.out _ rfl).mono ?_;rintro e w1 ⟨hb1,A,c,rfl,hR,hA,hcap⟩;have hB1:Z4 w1 w.heap.size 0 ⟨#[]⟩ (.slice none 0 0) false:=(hb1.block w.heap.size (by simp)).trans (World.alloc_heap_new _ _);obtain⟨c0,c1,c2,c3,f0,f1,f2,f3⟩:=hB1.facts;obtain⟨pb,po,u,rfl,hu,g0⟩:=hR.at_ (k:=0) (by omega);(obtain rfl:u=.string l0:=(by simpa using hu.symm));clear hu;have gg:w1.cell? ⟨pb,po,none⟩=some (.string l0):=g0;clear g0;have hcap1:(m:Int)+1≤(c:Int):=(by omega);have hA1:w.heap.size<pb:=(by have:=hA _ rfl;simp at this;omega)) | (go_at_call 89;refine (HN.out _).mono ?_;rintro e w2 ⟨rfl,hb2⟩;have hB2:Z4 w2 w.heap.size 0 ⟨#[]⟩ (.slice none 0 0) false:=Qv.keep hB1 hb2;clear c0 c1 c2 c3 f0 f1 f2 f3;obtain⟨c0,c1,c2,c3,f0,f1,f2,f3⟩:=hB2.facts;have gg':=Qq hb2 gg))
  exact bodyPost_ret (v:=.tuple #[.agg #[.int .i64 0,.string ⟨#[]⟩,.slice none 0 0,.bool false],.bool false]) (by simp[results,Tryz.results45,go_sem,c0,c1,c2,c3]) rfl (XK.none_ 0 _ _ _ _ _ Qz)
 simp only[if_true]
 have hpv:∀ W,Calls Tryz.prog 90 #[.string l0] W (Zx W (.agg #[.int .i64 (Q7 l0).kind,.string (Q7 l0).text])):=fun W=>partOf_any l0 W (by omega)
 generalize (Q7 l0)=p0 at *
 obtain⟨kd,tx⟩:=p0
 dsimp only at hpv
 have HPV:=Lib.hid hpv
 have HSZ:Hid (∀ p∈r,p.size≤100000):=Lib.hid (fun p hp=>Nat.le_trans (hsz p (by simp[hp])) hs)
 clear hpv hsz hnum
 have hho2:((l0.toList == [42])=true)∨((l0.toList == [42])=false∧Qy l0=true):=by
  unfold Xq at hho
  cases h:(l0.toList == [42])
  ·right;exact⟨rfl,by simpa[h] using hho⟩
  ·left;rfl
 have hn1:(1:Int)≤(m:Int)+1:=by omega
 clear hho
 obtain⟨i0,hi0,hz0,hz1,hz2⟩:=info_parts infoPart
 have HI:Hid ((Tryz.prog.info? 101=some i0)∧i0.zero=some (.agg #[.int .i64 0,.string ⟨#[]⟩])∧i0.size=2∧i0.bytes=24):=Lib.hid ⟨hi0,hz0,hz1,hz2⟩
 clear hi0 hz0 hz1 hz2
 rcases hho2 with h1 | ⟨h1,h2⟩
 rotate_left
 rw[h2]at HN;clear h2
 rotate_left
 all_goals
  go_enter Tryz.func45,Tryz.ntmps45
  go_wp2_with (first | (go_at_call 88;refine (HS.out _ rfl).mono ?_;rintro e w1 ⟨hb1,A,c,rfl,hR,hA,hcap⟩;have hB1:Z4 w1 w.heap.size 0 ⟨#[]⟩ (.slice none 0 0) false:=(hb1.block w.heap.size (by simp)).trans (World.alloc_heap_new _ _);obtain⟨c0,c1,c2,c3,f0,f1,f2,f3⟩:=hB1.facts;obtain⟨pb,po,u,rfl,hu,g0⟩:=hR.at_ (k:=0) (by omega);(obtain rfl:u=.string l0:=(by simpa using hu.symm));clear hu;have gg:w1.cell? ⟨pb,po,none⟩=some (.string l0):=g0;clear g0;have hcap1:(m:Int)+1≤(c:Int):=(by omega);have hA1:w.heap.size<pb:=(by have:=hA _ rfl;simp at this;omega)) | (go_at_call 89;refine (HN.out _).mono ?_;rintro e w2 ⟨rfl,hb2⟩;have hB2:Z4 w2 w.heap.size 0 ⟨#[]⟩ (.slice none 0 0) false:=Qv.keep hB1 hb2;clear c0 c1 c2 c3 f0 f1 f2 f3;obtain⟨c0,c1,c2,c3,f0,f1,f2,f3⟩:=hB2.facts;have gg':=Qq hb2 gg) | (go_at_call 90;refine (HPV.out _).mono ?_;rintro e w3 ⟨rfl,hb3⟩;have hB3:Z4 w3 w.heap.size 0 ⟨#[]⟩ (.slice none 0 0) false:=Qv.keep (by assumption) hb3;clear c0 c1 c2 c3 f0 f1 f2 f3;obtain⟨c0,c1,c2,c3,f0,f1,f2,f3⟩:=hB3.facts))
  all_goals
   have HRd:Hid (Reads w3 1 (some ⟨pb,po,none⟩) (m+1) ((l0 :: r).map .string)):=Lib.hid (hR.keep Qz)
   have hpb:pb<w3.heap.size:=cell_lt (a:=⟨pb,po,none⟩) (Qq (w:=w1) Qz gg)
   have hbw:Below w.heap.size w w3:=Qz
   have hz3:w.heap.size<w3.heap.size:=by omega
   clear hR gg c0 c1 c2 c3 f0 f1 f2 f3
   obtain⟨W0,hW0⟩:∃ W0,W0=(w3.setCell ⟨w.heap.size,0,none⟩ (.int .i64 kd)).setCell ⟨w.heap.size,1,none⟩ (.string tx):=⟨_,rfl⟩
   have hB0:Z4 W0 w.heap.size kd tx (.slice none 0 0) false:=by rw[hW0];exact Qv.set_ (Qv.set_ hB3 0 (.int .i64 kd)) 1 (.string tx)
   have hFr:∀ j,j≠w.heap.size→W0.heap[j]? = w3.heap[j]?:=fun j hj=>by
    rw[hW0,Below.heap_setCell _ _ _ _ (by simpa using hj),Below.heap_setCell _ _ _ _ (by simpa using hj)]
   have hbw0:Below w.heap.size w W0:=by rw[hW0];exact Qz
   have hz0:W0.heap.size=w3.heap.size:=by rw[hW0];simp[World.setCell]
   rw[←hW0]
   clear hW0 hB3 hbw
   go_loopw [34] (fun vi wr=>∃ (k:Nat) (acc:List Part) (A':Option Addr) (c':Nat) (tl:Bool),(vi=.int .i64 k∧k≤m∧acc.length≤k)∧Hid (CmpI r k acc tl)∧Z4 wr w.heap.size kd tx (.slice A' acc.length c') tl ∧
     wr.ownsRow w3.heap.size 101 2 (.slice A' acc.length c') acc.length (QZ acc)∧Below w.heap.size w wr∧(∀ j,j<w3.heap.size→j≠w.heap.size→wr.heap[j]? = w3.heap[j]?)∧w3.heap.size≤wr.heap.size) (fun vi _=>m-(intOf vi).toNat)
   case atStart=>exact⟨0,[],none,0,false,⟨rfl,Nat.zero_le _,Nat.le_refl _⟩,Lib.hid (.inl ⟨rfl,by simp⟩),hB0,World.ownsRow_nil _ _ _ _,hbw0,fun j _ hj=>hFr j hj,by omega⟩
   case round =>
    clear hB0 hFr hbw0 hz0 W0
    obtain⟨k,acc,A',c',tl,⟨rfl,hk,hak⟩,HC,hB,hown,hbw,hFr,hzr⟩:=hrel
    obtain⟨c0,c1,c2,c3,f0,f1,f2,f3⟩:=hB.facts
    by_cases hlt:k<m
    ·try (exfalso;omega)
     all_goals
      obtain⟨p,hp⟩:∃ p,r[k]? = some p:=⟨_,List.getElem?_eq_getElem (by have:=HM.out;omega)⟩
      have hps:=HSZ.out p (List.mem_of_getElem? hp)
      have hcell:wr.cell? ⟨pb,po+1+k,none⟩=some (.string p):=by
       obtain⟨b',o',e',hc'⟩:=HRd.out.2 (by omega)
       injection e' with e';injection e' with e1 e2;subst e1;subst e2
       have:=hc' (k+1) (.string p) (by simp[hp])
       rw[show po+1+k=po+(k+1) by omega]
       exact (World.cell?_of_block (hFr pb hpb (by omega))).trans this
      obtain⟨rfl,hcmp⟩:tl=false∧cmpL r []=cmpL (r.drop k) acc:=by
       rcases HC.out with h | ⟨_,h,_⟩
       ·exact h
       ·exfalso;have:=HM.out;omega
      have hd2:r.drop k=p :: r.drop (k+1):=by
       obtain⟨hl2,rfl⟩:=List.getElem?_eq_some_iff.1 hp
       exact List.drop_eq_getElem_cons hl2
      rw[hd2,cmpL]at hcmp
      have hemp:(r.drop (k+1)).isEmpty=decide (k+1=m):=by
       have:=HM.out
       by_cases h:k+1=m
       ·rw[List.drop_eq_nil_of_le (by omega)];simp[h]
       ·simp[h];omega
      rw[hemp]at hcmp
      have hk0:(0:Int)≤(k:Int):=by omega
      have hkm:(k:Int)<(m:Int):=by omega
      clear hd2 hemp hp HC HRd
      cases h2s:(p.toList == [42,42])
      ·simp only[h2s,Bool.false_and,Bool.false_eq_true,if_false]at hcmp
       have hp2:∀ W,Calls Tryz.prog 90 #[.string p] W (Zx W (.agg #[.int .i64 (Q7 p).kind,.string (Q7 p).text])):=fun W=>partOf_any p W (by omega)
       have cW:=fun W=>Jn p W (by omega)
       have cH:=fun W=>Tryz.strings_HasPrefix p ⟨#[42,46]⟩ W
       have cX:=fun W=>Jn (p.extract 2 p.size) W (by simp;omega)
       have hpre:Lib.hasPrefix p.data.toList [42,46]=true→2≤p.size:=by
        intro h
        rw[Lib.hasPrefix,List.isPrefixOf_iff_prefix]at h
        have:=h.length_le
        rw[Lib.size_eq];simpa using this
       rw[show (⟨#[42,46]⟩:ByteArray).data.toList=[42,46] from rfl]at cH
       have hok:Kv p=((p.toList == [42])||Qg p||(decide (p.size≤34)&&Lib.hasPrefix p.data.toList [42,46]&&Qg (p.extract 2 p.size))):=rfl
       generalize Q7 p=pq at hcmp hp2
       obtain⟨pk,pt⟩:=pq
       dsimp only at hp2
       generalize Qg p=b1 at hok cW
       generalize Lib.hasPrefix p.data.toList [42,46]=b2 at hok cH hpre
       generalize Qg (p.extract 2 p.size)=b3 at hok cX
       have HP2:=Lib.hid hp2
       have HW:=Lib.hid cW;have HH:=Lib.hid cH;have HX:=Lib.hid cX
       clear hp2 cW cH cX
       cases e1:(p.toList == [42])
       ·cases b1
        ·by_cases hs34:p.size≤34
         ·have hd3:decide ((p.size:Int)≤34)=true:=by simp;omega
          cases b2
          ·have hnone:cmpL r []=none:=by rw[hcmp,hok];simp[e1]
           have HNO:=Lib.hid hnone;clear hnone hcmp hok
           go_wp2_with (first | (go_at_call 91;refine (HW.out _).mono ?_;rintro e w4 ⟨rfl,hb4⟩;replace hB:Z4 w4 w.heap.size kd tx (.slice A' acc.length c') false:=Qv.keep hB hb4;replace hown:=Ql hown hb4;replace hbw:=hbw.trans (hb4.mono (by omega));replace hFr:∀ j,j<w3.heap.size→j≠w.heap.size→w4.heap[j]? = w3.heap[j]?:=(fun j q1 q2=>(hb4.block j (by omega)).trans (hFr j q1 q2));replace hzr:w3.heap.size≤w4.heap.size:=Nat.le_trans hzr hb4.size;clear c0 c1 c2 c3 f0 f1 f2 f3;obtain⟨c0,c1,c2,c3,f0,f1,f2,f3⟩:=hB.facts;clear HW) | (go_at_call 92;refine (HH.out _).mono ?_;rintro e w5 ⟨rfl,hw5⟩;rw[hw5];clear hw5 w5) | (go_at_call 91;refine (HX.out _).mono ?_;rintro e w5 ⟨rfl,hb5⟩;replace hB:Z4 w5 w.heap.size kd tx (.slice A' acc.length c') false:=Qv.keep hB hb5;replace hown:=Ql hown hb5;replace hbw:=hbw.trans (hb5.mono (by omega));replace hFr:∀ j,j<w3.heap.size→j≠w.heap.size→w5.heap[j]? = w3.heap[j]?:=(fun j q1 q2=>(hb5.block j (by omega)).trans (hFr j q1 q2));replace hzr:w3.heap.size≤w5.heap.size:=Nat.le_trans hzr hb5.size;clear c0 c1 c2 c3 f0 f1 f2 f3;obtain⟨c0,c1,c2,c3,f0,f1,f2,f3⟩:=hB.facts;clear HX))
           rw[HNO.out];exact bodyPost_ret (v:=.tuple #[.agg #[.int .i64 kd,.string tx,.slice A' acc.length c',.bool false],.bool false]) (by simp[results,Tryz.results45,go_sem,c0,c1,c2,c3]) rfl (XK.none_ _ _ _ _ _ _ Qz)
          ·have h2p:(2:Int)≤(p.size:Int):=by have:=hpre rfl;omega
           cases b3
           ·have hnone:cmpL r []=none:=by rw[hcmp,hok];simp[e1]
            have HNO:=Lib.hid hnone;clear hnone hcmp hok
            go_wp2_with (first | (go_at_call 91;refine (HW.out _).mono ?_;rintro e w4 ⟨rfl,hb4⟩;replace hB:Z4 w4 w.heap.size kd tx (.slice A' acc.length c') false:=Qv.keep hB hb4;replace hown:=Ql hown hb4;replace hbw:=hbw.trans (hb4.mono (by omega));replace hFr:∀ j,j<w3.heap.size→j≠w.heap.size→w4.heap[j]? = w3.heap[j]?:=(fun j q1 q2=>(hb4.block j (by omega)).trans (hFr j q1 q2));replace hzr:w3.heap.size≤w4.heap.size:=Nat.le_trans hzr hb4.size;clear c0 c1 c2 c3 f0 f1 f2 f3;obtain⟨c0,c1,c2,c3,f0,f1,f2,f3⟩:=hB.facts;clear HW) | (go_at_call 92;refine (HH.out _).mono ?_;rintro e w5 ⟨rfl,hw5⟩;rw[hw5];clear hw5 w5) | (go_at_call 91;refine (HX.out _).mono ?_;rintro e w5 ⟨rfl,hb5⟩;replace hB:Z4 w5 w.heap.size kd tx (.slice A' acc.length c') false:=Qv.keep hB hb5;replace hown:=Ql hown hb5;replace hbw:=hbw.trans (hb5.mono (by omega));replace hFr:∀ j,j<w3.heap.size→j≠w.heap.size→w5.heap[j]? = w3.heap[j]?:=(fun j q1 q2=>(hb5.block j (by omega)).trans (hFr j q1 q2));replace hzr:w3.heap.size≤w5.heap.size:=Nat.le_trans hzr hb5.size;clear c0 c1 c2 c3 f0 f1 f2 f3;obtain⟨c0,c1,c2,c3,f0,f1,f2,f3⟩:=hB.facts;clear HX))
            rw[HNO.out];exact bodyPost_ret (v:=.tuple #[.agg #[.int .i64 kd,.string tx,.slice A' acc.length c',.bool false],.bool false]) (by simp[results,Tryz.results45,go_sem,c0,c1,c2,c3]) rfl (XK.none_ _ _ _ _ _ _ Qz)
           ·have hsome:cmpL r []=cmpL (r.drop (k+1)) (acc++[⟨pk,pt⟩]):=by rw[hcmp,hok];simp[e1,hs34]
            have HSO:=Lib.hid hsome;clear hsome hcmp hok
            go_wp2_with (first | (go_at_call 91;refine (HW.out _).mono ?_;rintro e w4 ⟨rfl,hb4⟩;replace hB:Z4 w4 w.heap.size kd tx (.slice A' acc.length c') false:=Qv.keep hB hb4;replace hown:=Ql hown hb4;replace hbw:=hbw.trans (hb4.mono (by omega));replace hFr:∀ j,j<w3.heap.size→j≠w.heap.size→w4.heap[j]? = w3.heap[j]?:=(fun j q1 q2=>(hb4.block j (by omega)).trans (hFr j q1 q2));replace hzr:w3.heap.size≤w4.heap.size:=Nat.le_trans hzr hb4.size;clear c0 c1 c2 c3 f0 f1 f2 f3;obtain⟨c0,c1,c2,c3,f0,f1,f2,f3⟩:=hB.facts;clear HW) | (go_at_call 92;refine (HH.out _).mono ?_;rintro e w5 ⟨rfl,hw5⟩;rw[hw5];clear hw5 w5) | (go_at_call 91;refine (HX.out _).mono ?_;rintro e w5 ⟨rfl,hb5⟩;replace hB:Z4 w5 w.heap.size kd tx (.slice A' acc.length c') false:=Qv.keep hB hb5;replace hown:=Ql hown hb5;replace hbw:=hbw.trans (hb5.mono (by omega));replace hFr:∀ j,j<w3.heap.size→j≠w.heap.size→w5.heap[j]? = w3.heap[j]?:=(fun j q1 q2=>(hb5.block j (by omega)).trans (hFr j q1 q2));replace hzr:w3.heap.size≤w5.heap.size:=Nat.le_trans hzr hb5.size;clear c0 c1 c2 c3 f0 f1 f2 f3;obtain⟨c0,c1,c2,c3,f0,f1,f2,f3⟩:=hB.facts;clear HX))
            go_region_law (first | (go_simp;go_at_call 90;refine (HP2.out _).mono ?_;rintro e w6 ⟨rfl,hb6⟩;replace hb6:=undrew hb6;replace hB:Z4 w6 w.heap.size kd tx (.slice A' acc.length c') false:=Qv.keep hB hb6;replace hown:=Ql hown hb6;replace hbw:=hbw.trans (hb6.mono (by omega));replace hFr:∀ j,j<w3.heap.size→j≠w.heap.size→w6.heap[j]? = w3.heap[j]?:=(fun j q1 q2=>(hb6.block j (by omega)).trans (hFr j q1 q2));replace hzr:w3.heap.size≤w6.heap.size:=Nat.le_trans hzr hb6.size;have hz6:w.heap.size<w6.heap.size:=(by omega);clear c0 c1 c2 c3 f0 f1 f2 f3;obtain⟨c0,c1,c2,c3,f0,f1,f2,f3⟩:=hB.facts) | (refine step_append_lies _ (by rfl) _ _ _ (by rfl) w3.heap.size 101 i0 (.agg #[.int .i64 0,.string ⟨#[]⟩]) 2 24 Tryz.underlying102 HI.out.1 HI.out.2.1 HI.out.2.2.1 HI.out.2.2.2 (by rfl) (by omega) (.slice A' acc.length c') acc.length (QZ acc) (by rfl) (hown.alloc _) ⟨w6.heap.size,0,none⟩ 1 1 [.int .i64 pk,.string pt] (by rfl) (by rfl) (World.news_of_block (cs:=#[.int .i64 pk,.string pt]) (t:=101) (fr:=(0,0)) (World.alloc_heap_new w6 _)) (by simp[Value.oneCell']) (by omega) (by unfold maxLen;omega) (by omega) (by simp;omega) (w6.heap.size+1) (by simp) ?_;intro gg cap w7 hown7 hgrow hat hlt7;have hB7:Z4 w7 w.heap.size kd tx (.slice A' acc.length c') false:=(hgrow.block w.heap.size (by simp;omega) (fun e=>by have:=Qu hown _ e.symm;omega)).trans ((Below.heap_alloc w6 _ w.heap.size (by omega)).trans hB);clear c0 c1 c2 c3 f0 f1 f2 f3;obtain⟨c0,c1,c2,c3,f0,f1,f2,f3⟩:=hB7.facts));all_goals go_wp2;all_goals (have hal:(acc++[(⟨pk,pt⟩:Part)]).length=acc.length+1:=(by simp);have hpc:QZ (acc++[⟨pk,pt⟩])=QZ acc++[.int .i64 pk,.string pt]:=(by simp[QZ]);refine⟨⟨k+1,acc++[⟨pk,pt⟩],some ⟨gg,0,none⟩,cap,false,⟨by go_num,by omega,by simp;omega⟩,Lib.hid (.inl ⟨rfl,HSO.out⟩),by rw[hal];exact Qv.set_ hB7 2 _,by rw[hal,hpc];exact Xv hown7 (fun j hj=>Below.heap_setCell _ _ _ _ (by simp;omega)),((hbw.alloc hbw.size _).grown hgrow (by have:=hbw.size;simp;omega) (fun r e=>by have:=Qu hown r e;omega)).setCell (p:=⟨w.heap.size,2,none⟩) (by simp) _,fun j q1 q2=>(Below.heap_setCell _ _ _ _ (by simpa using q2)).trans ((hgrow.block j (by simp;omega) (fun e=>by have:=Qu hown _ e.symm;omega)).trans ((Below.heap_alloc w6 _ j (by omega)).trans (hFr j q1 q2))),by have:=hgrow.size;simp[World.setCell]at this ⊢;omega⟩,by simp[intOf];omega⟩)
         ·have hd3:decide ((p.size:Int)≤34)=false:=by simp;omega
          have hnone:cmpL r []=none:=by rw[hcmp,hok];simp[e1,hs34]
          have HNO:=Lib.hid hnone;clear hnone hcmp hok
          go_wp2_with (first | (go_at_call 91;refine (HW.out _).mono ?_;rintro e w4 ⟨rfl,hb4⟩;replace hB:Z4 w4 w.heap.size kd tx (.slice A' acc.length c') false:=Qv.keep hB hb4;replace hown:=Ql hown hb4;replace hbw:=hbw.trans (hb4.mono (by omega));replace hFr:∀ j,j<w3.heap.size→j≠w.heap.size→w4.heap[j]? = w3.heap[j]?:=(fun j q1 q2=>(hb4.block j (by omega)).trans (hFr j q1 q2));replace hzr:w3.heap.size≤w4.heap.size:=Nat.le_trans hzr hb4.size;clear c0 c1 c2 c3 f0 f1 f2 f3;obtain⟨c0,c1,c2,c3,f0,f1,f2,f3⟩:=hB.facts;clear HW) | (go_at_call 92;refine (HH.out _).mono ?_;rintro e w5 ⟨rfl,hw5⟩;rw[hw5];clear hw5 w5) | (go_at_call 91;refine (HX.out _).mono ?_;rintro e w5 ⟨rfl,hb5⟩;replace hB:Z4 w5 w.heap.size kd tx (.slice A' acc.length c') false:=Qv.keep hB hb5;replace hown:=Ql hown hb5;replace hbw:=hbw.trans (hb5.mono (by omega));replace hFr:∀ j,j<w3.heap.size→j≠w.heap.size→w5.heap[j]? = w3.heap[j]?:=(fun j q1 q2=>(hb5.block j (by omega)).trans (hFr j q1 q2));replace hzr:w3.heap.size≤w5.heap.size:=Nat.le_trans hzr hb5.size;clear c0 c1 c2 c3 f0 f1 f2 f3;obtain⟨c0,c1,c2,c3,f0,f1,f2,f3⟩:=hB.facts;clear HX))
          rw[HNO.out];exact bodyPost_ret (v:=.tuple #[.agg #[.int .i64 kd,.string tx,.slice A' acc.length c',.bool false],.bool false]) (by simp[results,Tryz.results45,go_sem,c0,c1,c2,c3]) rfl (XK.none_ _ _ _ _ _ _ Qz)
        ·have hsome:cmpL r []=cmpL (r.drop (k+1)) (acc++[⟨pk,pt⟩]):=by rw[hcmp,hok];simp
         have HSO:=Lib.hid hsome;clear hsome hcmp hok
         go_wp2_with (first | (go_at_call 91;refine (HW.out _).mono ?_;rintro e w4 ⟨rfl,hb4⟩;replace hB:Z4 w4 w.heap.size kd tx (.slice A' acc.length c') false:=Qv.keep hB hb4;replace hown:=Ql hown hb4;replace hbw:=hbw.trans (hb4.mono (by omega));replace hFr:∀ j,j<w3.heap.size→j≠w.heap.size→w4.heap[j]? = w3.heap[j]?:=(fun j q1 q2=>(hb4.block j (by omega)).trans (hFr j q1 q2));replace hzr:w3.heap.size≤w4.heap.size:=Nat.le_trans hzr hb4.size;clear c0 c1 c2 c3 f0 f1 f2 f3;obtain⟨c0,c1,c2,c3,f0,f1,f2,f3⟩:=hB.facts;clear HW) | (go_at_call 92;refine (HH.out _).mono ?_;rintro e w5 ⟨rfl,hw5⟩;rw[hw5];clear hw5 w5) | (go_at_call 91;refine (HX.out _).mono ?_;rintro e w5 ⟨rfl,hb5⟩;replace hB:Z4 w5 w.heap.size kd tx (.slice A' acc.length c') false:=Qv.keep hB hb5;replace hown:=Ql hown hb5;replace hbw:=hbw.trans (hb5.mono (by omega));replace hFr:∀ j,j<w3.heap.size→j≠w.heap.size→w5.heap[j]? = w3.heap[j]?:=(fun j q1 q2=>(hb5.block j (by omega)).trans (hFr j q1 q2));replace hzr:w3.heap.size≤w5.heap.size:=Nat.le_trans hzr hb5.size;clear c0 c1 c2 c3 f0 f1 f2 f3;obtain⟨c0,c1,c2,c3,f0,f1,f2,f3⟩:=hB.facts;clear HX))
         go_region_law (first | (go_simp;go_at_call 90;refine (HP2.out _).mono ?_;rintro e w6 ⟨rfl,hb6⟩;replace hb6:=undrew hb6;replace hB:Z4 w6 w.heap.size kd tx (.slice A' acc.length c') false:=Qv.keep hB hb6;replace hown:=Ql hown hb6;replace hbw:=hbw.trans (hb6.mono (by omega));replace hFr:∀ j,j<w3.heap.size→j≠w.heap.size→w6.heap[j]? = w3.heap[j]?:=(fun j q1 q2=>(hb6.block j (by omega)).trans (hFr j q1 q2));replace hzr:w3.heap.size≤w6.heap.size:=Nat.le_trans hzr hb6.size;have hz6:w.heap.size<w6.heap.size:=(by omega);clear c0 c1 c2 c3 f0 f1 f2 f3;obtain⟨c0,c1,c2,c3,f0,f1,f2,f3⟩:=hB.facts) | (refine step_append_lies _ (by rfl) _ _ _ (by rfl) w3.heap.size 101 i0 (.agg #[.int .i64 0,.string ⟨#[]⟩]) 2 24 Tryz.underlying102 HI.out.1 HI.out.2.1 HI.out.2.2.1 HI.out.2.2.2 (by rfl) (by omega) (.slice A' acc.length c') acc.length (QZ acc) (by rfl) (hown.alloc _) ⟨w6.heap.size,0,none⟩ 1 1 [.int .i64 pk,.string pt] (by rfl) (by rfl) (World.news_of_block (cs:=#[.int .i64 pk,.string pt]) (t:=101) (fr:=(0,0)) (World.alloc_heap_new w6 _)) (by simp[Value.oneCell']) (by omega) (by unfold maxLen;omega) (by omega) (by simp;omega) (w6.heap.size+1) (by simp) ?_;intro gg cap w7 hown7 hgrow hat hlt7;have hB7:Z4 w7 w.heap.size kd tx (.slice A' acc.length c') false:=(hgrow.block w.heap.size (by simp;omega) (fun e=>by have:=Qu hown _ e.symm;omega)).trans ((Below.heap_alloc w6 _ w.heap.size (by omega)).trans hB);clear c0 c1 c2 c3 f0 f1 f2 f3;obtain⟨c0,c1,c2,c3,f0,f1,f2,f3⟩:=hB7.facts));all_goals go_wp2;all_goals (have hal:(acc++[(⟨pk,pt⟩:Part)]).length=acc.length+1:=(by simp);have hpc:QZ (acc++[⟨pk,pt⟩])=QZ acc++[.int .i64 pk,.string pt]:=(by simp[QZ]);refine⟨⟨k+1,acc++[⟨pk,pt⟩],some ⟨gg,0,none⟩,cap,false,⟨by go_num,by omega,by simp;omega⟩,Lib.hid (.inl ⟨rfl,HSO.out⟩),by rw[hal];exact Qv.set_ hB7 2 _,by rw[hal,hpc];exact Xv hown7 (fun j hj=>Below.heap_setCell _ _ _ _ (by simp;omega)),((hbw.alloc hbw.size _).grown hgrow (by have:=hbw.size;simp;omega) (fun r e=>by have:=Qu hown r e;omega)).setCell (p:=⟨w.heap.size,2,none⟩) (by simp) _,fun j q1 q2=>(Below.heap_setCell _ _ _ _ (by simpa using q2)).trans ((hgrow.block j (by simp;omega) (fun e=>by have:=Qu hown _ e.symm;omega)).trans ((Below.heap_alloc w6 _ j (by omega)).trans (hFr j q1 q2))),by have:=hgrow.size;simp[World.setCell]at this ⊢;omega⟩,by simp[intOf];omega⟩)
       ·have hsome:cmpL r []=cmpL (r.drop (k+1)) (acc++[⟨pk,pt⟩]):=by rw[hcmp,hok];simp[e1]
        have HSO:=Lib.hid hsome;clear hsome hcmp hok
        go_wp2_with (first | (go_at_call 91;refine (HW.out _).mono ?_;rintro e w4 ⟨rfl,hb4⟩;replace hB:Z4 w4 w.heap.size kd tx (.slice A' acc.length c') false:=Qv.keep hB hb4;replace hown:=Ql hown hb4;replace hbw:=hbw.trans (hb4.mono (by omega));replace hFr:∀ j,j<w3.heap.size→j≠w.heap.size→w4.heap[j]? = w3.heap[j]?:=(fun j q1 q2=>(hb4.block j (by omega)).trans (hFr j q1 q2));replace hzr:w3.heap.size≤w4.heap.size:=Nat.le_trans hzr hb4.size;clear c0 c1 c2 c3 f0 f1 f2 f3;obtain⟨c0,c1,c2,c3,f0,f1,f2,f3⟩:=hB.facts;clear HW) | (go_at_call 92;refine (HH.out _).mono ?_;rintro e w5 ⟨rfl,hw5⟩;rw[hw5];clear hw5 w5) | (go_at_call 91;refine (HX.out _).mono ?_;rintro e w5 ⟨rfl,hb5⟩;replace hB:Z4 w5 w.heap.size kd tx (.slice A' acc.length c') false:=Qv.keep hB hb5;replace hown:=Ql hown hb5;replace hbw:=hbw.trans (hb5.mono (by omega));replace hFr:∀ j,j<w3.heap.size→j≠w.heap.size→w5.heap[j]? = w3.heap[j]?:=(fun j q1 q2=>(hb5.block j (by omega)).trans (hFr j q1 q2));replace hzr:w3.heap.size≤w5.heap.size:=Nat.le_trans hzr hb5.size;clear c0 c1 c2 c3 f0 f1 f2 f3;obtain⟨c0,c1,c2,c3,f0,f1,f2,f3⟩:=hB.facts;clear HX))
        go_region_law (first | (go_simp;go_at_call 90;refine (HP2.out _).mono ?_;rintro e w6 ⟨rfl,hb6⟩;replace hb6:=undrew hb6;replace hB:Z4 w6 w.heap.size kd tx (.slice A' acc.length c') false:=Qv.keep hB hb6;replace hown:=Ql hown hb6;replace hbw:=hbw.trans (hb6.mono (by omega));replace hFr:∀ j,j<w3.heap.size→j≠w.heap.size→w6.heap[j]? = w3.heap[j]?:=(fun j q1 q2=>(hb6.block j (by omega)).trans (hFr j q1 q2));replace hzr:w3.heap.size≤w6.heap.size:=Nat.le_trans hzr hb6.size;have hz6:w.heap.size<w6.heap.size:=(by omega);clear c0 c1 c2 c3 f0 f1 f2 f3;obtain⟨c0,c1,c2,c3,f0,f1,f2,f3⟩:=hB.facts) | (refine step_append_lies _ (by rfl) _ _ _ (by rfl) w3.heap.size 101 i0 (.agg #[.int .i64 0,.string ⟨#[]⟩]) 2 24 Tryz.underlying102 HI.out.1 HI.out.2.1 HI.out.2.2.1 HI.out.2.2.2 (by rfl) (by omega) (.slice A' acc.length c') acc.length (QZ acc) (by rfl) (hown.alloc _) ⟨w6.heap.size,0,none⟩ 1 1 [.int .i64 pk,.string pt] (by rfl) (by rfl) (World.news_of_block (cs:=#[.int .i64 pk,.string pt]) (t:=101) (fr:=(0,0)) (World.alloc_heap_new w6 _)) (by simp[Value.oneCell']) (by omega) (by unfold maxLen;omega) (by omega) (by simp;omega) (w6.heap.size+1) (by simp) ?_;intro gg cap w7 hown7 hgrow hat hlt7;have hB7:Z4 w7 w.heap.size kd tx (.slice A' acc.length c') false:=(hgrow.block w.heap.size (by simp;omega) (fun e=>by have:=Qu hown _ e.symm;omega)).trans ((Below.heap_alloc w6 _ w.heap.size (by omega)).trans hB);clear c0 c1 c2 c3 f0 f1 f2 f3;obtain⟨c0,c1,c2,c3,f0,f1,f2,f3⟩:=hB7.facts));all_goals go_wp2;all_goals (have hal:(acc++[(⟨pk,pt⟩:Part)]).length=acc.length+1:=(by simp);have hpc:QZ (acc++[⟨pk,pt⟩])=QZ acc++[.int .i64 pk,.string pt]:=(by simp[QZ]);refine⟨⟨k+1,acc++[⟨pk,pt⟩],some ⟨gg,0,none⟩,cap,false,⟨by go_num,by omega,by simp;omega⟩,Lib.hid (.inl ⟨rfl,HSO.out⟩),by rw[hal];exact Qv.set_ hB7 2 _,by rw[hal,hpc];exact Xv hown7 (fun j hj=>Below.heap_setCell _ _ _ _ (by simp;omega)),((hbw.alloc hbw.size _).grown hgrow (by have:=hbw.size;simp;omega) (fun r e=>by have:=Qu hown r e;omega)).setCell (p:=⟨w.heap.size,2,none⟩) (by simp) _,fun j q1 q2=>(Below.heap_setCell _ _ _ _ (by simpa using q2)).trans ((hgrow.block j (by simp;omega) (fun e=>by have:=Qu hown _ e.symm;omega)).trans ((Below.heap_alloc w6 _ j (by omega)).trans (hFr j q1 q2))),by have:=hgrow.size;simp[World.setCell]at this ⊢;omega⟩,by simp[intOf];omega⟩)
      ·obtain rfl:p=⟨#[42,42]⟩:=Qm (by rw[←Lib.toList_data];simpa using h2s)
       by_cases hlast:k+1=m
       ·have hlb:((k:Int)==(m:Int)+1-2)=true:=by simp;omega
        rw[h2s,show decide (k+1=m)=true by simpa using hlast]at hcmp
        simp only[Bool.and_self,if_true]at hcmp
        have HH:=Lib.hid hcmp
        clear hcmp
        go_wp2
        refine⟨⟨k+1,acc,A',c',true,⟨by go_num,by omega,by omega⟩,Lib.hid (.inr ⟨rfl,by rw[←HM.out];exact hlast,HH.out⟩),Qv.set_ hB 3 (.bool true),Xv hown (fun j hj=>Below.heap_setCell _ _ _ _ (by simp;omega)),hbw.setCell (p:=⟨w.heap.size,3,none⟩) (by simp) _,
         fun j q1 q2=>(Below.heap_setCell _ _ _ _ (by simpa using q2)).trans (hFr j q1 q2),by simp[World.setCell];omega⟩,by simp[intOf];omega⟩
       ·have hlb:((k:Int)==(m:Int)+1-2)=false:=by simp;omega
        have hnone:cmpL r []=none:=by
         rw[hcmp,show decide (k+1=m)=false by simpa using hlast,Ud];simp
        have HW:Hid (∀ W,Calls Tryz.prog 91 #[.string ⟨#[42,42]⟩] W (Zx W (.bool false))):=Lib.hid (fun W=>by rw[←isWord_stars];exact Jn ⟨#[42,42]⟩ W (by decide))
        have HH:Hid (∀ W,Calls Tryz.prog 92 #[.string ⟨#[42,42]⟩,.string ⟨#[42,46]⟩] W fun e w'=>e=.returned (.bool false)∧w'=W):=Lib.hid (fun W=>Tryz.strings_HasPrefix ⟨#[42,42]⟩ ⟨#[42,46]⟩ W)
        have HNO:=Lib.hid hnone;clear hnone hcmp
        go_wp2_with (first | (go_at_call 91;refine (HW.out _).mono ?_;rintro e w4 ⟨rfl,hb4⟩;replace hB:Z4 w4 w.heap.size kd tx (.slice A' acc.length c') false:=Qv.keep hB hb4;replace hown:=Ql hown hb4;replace hbw:=hbw.trans (hb4.mono (by omega));replace hFr:∀ j,j<w3.heap.size→j≠w.heap.size→w4.heap[j]? = w3.heap[j]?:=(fun j q1 q2=>(hb4.block j (by omega)).trans (hFr j q1 q2));replace hzr:w3.heap.size≤w4.heap.size:=Nat.le_trans hzr hb4.size;clear c0 c1 c2 c3 f0 f1 f2 f3;obtain⟨c0,c1,c2,c3,f0,f1,f2,f3⟩:=hB.facts;clear HW) | (go_at_call 92;refine (HH.out _).mono ?_;rintro e w5 ⟨rfl,hw5⟩;rw[hw5];clear hw5 w5))
        rw[HNO.out];exact bodyPost_ret (v:=.tuple #[.agg #[.int .i64 kd,.string tx,.slice A' acc.length c',.bool false],.bool false]) (by simp[results,Tryz.results45,go_sem,c0,c1,c2,c3]) rfl (XK.none_ _ _ _ _ _ _ Qz)
    ·obtain rfl:k=m:=by omega
     go_wp2
     have hend:cmpL r []=some (acc,tl):=(by rcases HC.out with ⟨h,e⟩ | ⟨h,_,e⟩;(rw[e,h,HM.out,List.drop_eq_nil_of_le (Nat.le_refl _),cmpL]);(rw[e,h]));rw[hend];have hob:∀ a,A'=some a→a.block≠w.heap.size:=(fun a ha=>by have:=Qu hown a.block (by rw[ha];rfl);omega);have hob2:∀ a,A'=some a→w.heap.size≤a.block:=(fun a ha=>by have:=Qu hown a.block (by rw[ha];rfl);omega);exact bodyPost_ret (v:=.tuple #[.agg #[.int .i64 kd,.string tx,.slice A' acc.length c',.bool tl],.bool true]) (by simp[results,Tryz.results45,go_sem,c0,c1,c2,c3]) rfl ⟨Qz,A',c',rfl,((((Reads.of_own hown).set_ _ _ hob).set_ _ _ hob).set_ _ _ hob).set_ _ _ hob,hob2⟩
def SplitI (c:UInt8) (l:List UInt8) (k f:Nat) (acc:List ByteArray):Prop:=f≤k∧c ∉ (l.drop f).take (k-f)∧(Zz c l).map Zd=acc++(Zz c (l.drop f)).map Zd
theorem splitI_step {c:UInt8} {l:List UInt8} {k f:Nat} {acc:List ByteArray} (h:SplitI c l k f acc) (hk:k<l.length) (hne:l[k] ≠ c):SplitI c l (k+1) f acc:=by
 obtain⟨h1,h2,h3⟩:=h
 refine⟨by omega,?_,h3⟩
 have hl:k-f<(l.drop f).length:=by rw[List.length_drop];omega
 rw[show k+1-f=(k-f)+1 by omega,List.take_succ_eq_append_getElem hl]
 simp only[List.mem_append,List.mem_singleton,not_or]
 refine⟨h2,?_⟩
 rw[List.getElem_drop]
 intro e
 apply hne
 rw[e]
 congr 1
 omega
theorem splitI_hit {c:UInt8} {l:List UInt8} {k f:Nat} {acc:List ByteArray} (h:SplitI c l k f acc) (hk:k<l.length) (he:l[k]=c):SplitI c l (k+1) (k+1) (acc++[Zd ((l.drop f).take (k-f))]):=by
 obtain⟨h1,h2,h3⟩:=h
 refine⟨Nat.le_refl _,by simp,?_⟩
 have hl:k-f<(l.drop f).length:=by rw[List.length_drop];omega
 have hs:=at_split (l.drop f) (k-f) hl
 have e1:(l.drop f)[k-f]=c:=by
  rw[List.getElem_drop,←he]
  congr 1
  omega
 rw[e1,List.drop_drop,show f+(k-f+1)=k+1 by omega]at hs
 have hsp:Zz c (l.drop f)=(l.drop f).take (k-f) :: Zz c (l.drop (k+1)):=by
  conv=>lhs;rw[hs]
  exact split_hit _ _ _ h2
 rw[h3,hsp]
 simp
theorem splitI_end {c:UInt8} {l:List UInt8} {f:Nat} {acc:List ByteArray} (h:SplitI c l l.length f acc):(Zz c l).map Zd=acc++[Zd (l.drop f)]:=by
 obtain⟨h1,h2,h3⟩:=h
 rw[List.take_of_length_le (by rw[List.length_drop];omega)]at h2
 rw[h3,Y2 _ _ h2]
 rfl
theorem splitB_eq (c:UInt8) (s:ByteArray):splitB c s=(Zz c s.data.toList).map Zd:=rfl
def OwnPost (ps:List ByteArray) (w:World) (e:Ending) (w':World):Prop:=∃ A c,e=.returned (.slice A ps.length c)∧w'.ownsRow w.heap.size 9 1 (.slice A ps.length c) ps.length (ps.map .string)∧Below w.heap.size w w'
theorem rSplit_any (s:ByteArray) (c:UInt8) (w:World) (hs:s.size≤4294967281):Calls Tryz.prog 72 #[.string s,.int .u8 c.toNat] w (OwnPost (splitB c s) w):=by
 obtain⟨i0,hi0,hz0,hz1,hz2⟩:=info_parts V3
 have HI:Hid ((Tryz.prog.info? 9=some i0)∧i0.zero=some (.string ⟨#[]⟩)∧i0.size=1∧i0.bytes=16):=Lib.hid ⟨hi0,hz0,hz1,hz2⟩
 clear hi0 hz0 hz1 hz2
 have hsl:s.data.toList.length=s.size:=(Lib.size_eq s).symm
 have HSL:=Lib.hid hsl
 clear hsl
 go_enter Tryz.func72,Tryz.ntmps72
 go_wp2
 go_loopw [5,6,7] (fun vo vf vi wr=>∃ (k f n:Nat) (acc:List ByteArray) (A:Option Addr) (c':Nat),(vi=.int .i64 k∧vf=.int .i64 f∧vo=.slice A n c'∧k≤s.size∧f≤k∧n≤k)∧Hid (SplitI c s.data.toList k f acc∧acc.length=n)∧wr.ownsRow w.heap.size 9 1 (.slice A n c') n (acc.map .string)∧Below w.heap.size w wr) (fun _ _ i _=>s.size-(intOf i).toNat)
 case atStart=>exact⟨0,0,0,[],none,0,⟨rfl,rfl,rfl,Nat.zero_le _,Nat.le_refl _,Nat.le_refl _⟩,Lib.hid ⟨⟨Nat.le_refl _,by simp,by simp⟩,rfl⟩,World.ownsRow_nil _ _ _ _,Below.refl _ _⟩
 case round =>
  obtain⟨k,f,n,acc,A,c',⟨rfl,rfl,rfl,hk,hf,hn⟩,HK,hown,hbr⟩:=hrel
  have hbs:=hbr.size
  by_cases hlt:k<s.size
  ·have hd:=byte_int s[k] c.toNat
   have hkl:k<s.data.toList.length:=by rw[HSL.out];exact hlt
   have hat:=byte_at s k hlt
   cases hb:(s[k].toNat==c.toNat)
   ·rw[hb]at hd
    have hne:s.data.toList[k] ≠ c:=fun e=>by rw[←hat]at e;rw[e]at hb;simp at hb
    have HK2:Hid (SplitI c s.data.toList (k+1) f acc∧acc.length=n):=Lib.hid ⟨splitI_step HK.out.1 hkl hne,HK.out.2⟩
    clear hb HK hat hne hkl
    go_wp2
    exact⟨⟨k+1,f,n,acc,A,c',⟨by go_num,rfl,rfl,by omega,by omega,by omega⟩,HK2,hown,hbr⟩,by simp[intOf];omega⟩
   ·rw[hb]at hd
    have he:s.data.toList[k]=c:=by rw[←hat];rw[beq_iff_eq]at hb;exact UInt8.toNat_inj.1 hb
    have hpc:Zd ((s.data.toList.drop f).take (k-f))=s.extract f k:=Qm (by rw[Lib.extract_data];rfl)
    have hhit:=splitI_hit HK.out.1 hkl he
    rw[hpc]at hhit
    have HK2:Hid (SplitI c s.data.toList (k+1) (k+1) (acc++[s.extract f k])∧(acc++[s.extract f k]).length=n+1):=Lib.hid ⟨hhit,by simp[HK.out.2]⟩
    have hk0:(0:Int)≤(f:Int):=by omega
    have hk1:(f:Int)≤(k:Int):=by omega
    have hk2:(k:Int)≤(s.size:Int):=by omega
    clear hb HK hat he hkl hpc hhit
    go_wp2_with (at_builtin;refine wpList_append_own _ rfl _ _ 22 rfl w.heap.size 9 i0 (.string ⟨#[]⟩) 1 16 Tryz.underlying22 HI.out.1 HI.out.2.1 HI.out.2.2.1 HI.out.2.2.2 rfl (by decide) _ _ _ rfl (hown.alloc _) ⟨wr.heap.size,0,none⟩ 1 1 [.string (s.extract f k)] rfl rfl (cell_one_new _ _ _) (by simp[Value.oneCell']) (by unfold maxLen;omega) (by omega) (by simp;omega) ?_;intro v' w3 hown' hgrow _;obtain⟨g',cap',rfl⟩:=ownsRow_succ hown')
    exact⟨⟨k+1,k+1,n+1,acc++[s.extract f k],some ⟨g',0,none⟩,cap',⟨by go_num,by go_num,rfl,by omega,by omega,by omega⟩,HK2,by rw[List.map_append];exact hown',(hbr.alloc hbs _).grown hgrow (by simp;omega) (fun r e=>Qu hown r e)⟩,by simp[intOf];omega⟩
  ·obtain rfl:k=s.size:=by omega
   have hpc:Zd (s.data.toList.drop f)=s.extract f s.size:=Qm (by rw[Lib.extract_to_end];rfl)
   have hend:splitB c s=acc++[s.extract f s.size]:=by
    rw[splitB_eq,←hpc]
    exact splitI_end (by rw[HSL.out];exact HK.out.1)
   have hlen:(splitB c s).length=n+1:=by rw[hend];simp[HK.out.2]
   have HEND:=Lib.hid hend
   have HLEN:=Lib.hid hlen
   have hk0:(0:Int)≤(f:Int):=by omega
   have hk1:(f:Int)≤(s.size:Int):=by omega
   clear hpc hend hlen HK
   go_wp2_with (at_builtin;refine wpList_append_own _ rfl _ _ 22 rfl w.heap.size 9 i0 (.string ⟨#[]⟩) 1 16 Tryz.underlying22 HI.out.1 HI.out.2.1 HI.out.2.2.1 HI.out.2.2.2 rfl (by decide) _ _ _ rfl (hown.alloc _) ⟨wr.heap.size,0,none⟩ 1 1 [.string (s.extract f s.size)] rfl rfl (cell_one_new _ _ _) (by simp[Value.oneCell']) (by unfold maxLen;omega) (by omega) (by simp;omega) ?_;intro v' w3 hown' hgrow _;obtain⟨g',cap',rfl⟩:=ownsRow_succ hown')
   go_ret
   refine⟨some ⟨g',0,none⟩,cap',by rw[HLEN.out];rfl,?_,(hbr.alloc hbs _).grown hgrow (by simp;omega) (fun r e=>Qu hown r e)⟩
   rw[HLEN.out,HEND.out,List.map_append]
   exact hown'
theorem pathK_add (c:ByteArray) (xs:List ByteArray) (k:Nat) (x:ByteArray) (h:xs[k]? = some x):Zd (Kz c xs k)++⟨#[47]⟩++x=Zd (Kz c xs (k+1)):=by
 rw[pathK_succ c xs k x h]
 exact Qm (by simp[Zd])
theorem country_four (s:ByteArray) (h:s.size=2):Zn s=(decide ((97:Int)≤((s[0]'(by omega)).toNat:Int))&&decide (((s[0]'(by omega)).toNat:Int)≤122)&&decide ((97:Int)≤((s[1]'(by omega)).toNat:Int))&&decide (((s[1]'(by omega)).toNat:Int)≤122)):=by
 unfold Zn
 rw[decide_eq_true h,Bool.true_and,two_bytes s h]
 simp only[List.all_cons,List.all_nil,Bool.and_true]
 rw[Bool.eq_iff_iff]
 simp only[Bool.and_eq_true,decide_eq_true_eq]
 omega
theorem rCountry_any (s:ByteArray) (w:World) (hs:s.size≤4294967281):Calls Tryz.prog 139 #[.string s] w (Zx w (.bool (Zn s))):=by
 by_cases h2:s.size=2
 ·have d2:((s.size:Int)==2)=true:=by simp;omega
  have hv:=country_four s h2
  have q0:(0:Int)<(s.size:Int):=by omega
  have q1:(1:Int)<(s.size:Int):=by omega
  rw[hv]
  clear hv
  cases e1:decide ((97:Int)≤((s[0]'(by omega)).toNat:Int))
  ·(go_enter Tryz.func139,Tryz.ntmps139;go_wp2;go_ret;exact⟨rfl,Qz⟩)
  cases e2:decide (((s[0]'(by omega)).toNat:Int)≤122)
  ·(go_enter Tryz.func139,Tryz.ntmps139;go_wp2;go_ret;exact⟨rfl,Qz⟩)
  cases e3:decide ((97:Int)≤((s[1]'(by omega)).toNat:Int))
  ·(go_enter Tryz.func139,Tryz.ntmps139;go_wp2;go_ret;exact⟨rfl,Qz⟩)
  cases e4:decide (((s[1]'(by omega)).toNat:Int)≤122)
  ·(go_enter Tryz.func139,Tryz.ntmps139;go_wp2;go_ret;exact⟨rfl,Qz⟩)
  ·(go_enter Tryz.func139,Tryz.ntmps139;go_wp2;go_ret;exact⟨rfl,Qz⟩)
 ·have d2:((s.size:Int)==2)=false:=beq_eq_false_iff_ne.2 (by omega)
  have hv:Zn s=false:=by unfold Zn;rw[decide_eq_false h2];rfl
  rw[hv]
  (go_enter Tryz.func139,Tryz.ntmps139;go_wp2;go_ret;exact⟨rfl,Qz⟩)
end Go.Proofs.YticlbkficolocaaGreatDoor
