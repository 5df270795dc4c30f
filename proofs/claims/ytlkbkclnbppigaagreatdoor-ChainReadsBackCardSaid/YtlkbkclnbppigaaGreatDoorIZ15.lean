/- What 'compile' returns: the pattern of a string. -/
import Derived.Test.YtlkbkclnbppigaaGreatDoorIZ13
import Derived.Deep.RegionHeldLaw
set_option maxHeartbeats 4000000
namespace Go.Proofs.YtlkbkclnbppigaaGreatDoor
open Go.RowKit Go.Sort
set_option linter.unusedVariables false
set_option linter.unusedSimpArgs false
set_option maxRecDepth 100000
structure Pat where
 cust:Part
 parts:List Part
 tail:Bool
def partCells (ps:List Part):List Value:=ps.flatMap fun p=>[.int .i64 p.kind,.string p.text]
def partOkB (w:ByteArray):Bool:=w.toList == [42]||isWordB w||(decide (w.size≤34)&&Lib.hasPrefix w.data.toList [42,46]&&isWordB (w.extract 2 w.size))
def cmpL:List ByteArray→List Part→Option (List Part × Bool)
 | [],acc=>some (acc,false)
 | w :: r,acc=>if w.toList == [42,42]&&r.isEmpty then some (acc,true) else if partOkB w then cmpL r (acc++[partOfP w]) else none
def headOkB (l0:ByteArray):Bool:=l0.toList == [42]||isNameB l0
def compL:List ByteArray→Option Pat
 | []=>none
 | l0 :: r=>if r.length≤32&&headOkB l0 then (cmpL r []).map fun x=>⟨partOfP l0,x.1,x.2⟩ else none
def compileB (s:ByteArray):Option Pat:=compL (splitB 47 s)
def CompPost (r:Option Pat) (w:World) (e:Ending) (w':World):Prop :=
 Below w.heap.size w w'∧match r with
 | none=>∃ (k:Nat) (t:ByteArray) (A:Option Addr) (n c:Nat) (b:Bool),e=.returned (.tuple #[.agg #[.int .i64 k,.string t,.slice A n c,.bool b],.bool false])
 | some p=>∃ A c,e=.returned (.tuple #[.agg #[.int .i64 p.cust.kind,.string p.cust.text,.slice A p.parts.length c,.bool p.tail],.bool true])∧Reads w' 2 A p.parts.length (partCells p.parts)∧∀ a,A=some a→w.heap.size≤a.block
theorem CompPost.none_ {w w':World} (k:Nat) (t:ByteArray) (A:Option Addr) (n c:Nat) (b:Bool) (hb:Below w.heap.size w w'):CompPost none w (.returned (.tuple #[.agg #[.int .i64 k,.string t,.slice A n c,.bool b],.bool false])) w':=⟨hb,k,t,A,n,c,b,rfl⟩
theorem Blk.free0 {w:World} {g:Nat} {t:TypeId} {cs:Array Value} (h:Blk w g t cs (0,0)) (i:Nat):w.frozen? ⟨g,i,none⟩=false:=by
 unfold Blk at h
 simp[World.frozen?,h]
theorem partOfP_kind (s:ByteArray):(partOfP s).kind≤2:=by
 unfold partOfP;split <;> (try split) <;> (try split) <;> simp
theorem partOfP_size (s:ByteArray):(partOfP s).text.size≤s.size:=by
 unfold partOfP;split <;> (try split) <;> (try split) <;> simp <;> exact Nat.zero_le _
def PBox (w:World) (g:Nat) (k:Nat) (t:ByteArray) (v:Value) (b:Bool):Prop:=Blk w g 195 #[.int .i64 k,.string t,v,.bool b] (0,0)
theorem PBox.facts {w:World} {g k:Nat} {t:ByteArray} {v:Value} {b:Bool} (h:PBox w g k t v b) :
  w.cell? ⟨g,0,none⟩=some (.int .i64 k)∧w.cell? ⟨g,1,none⟩=some (.string t)∧w.cell? ⟨g,2,none⟩=some v∧w.cell? ⟨g,3,none⟩=some (.bool b) ∧
   w.frozen? ⟨g,0,none⟩=false∧w.frozen? ⟨g,1,none⟩=false∧w.frozen? ⟨g,2,none⟩=false∧w.frozen? ⟨g,3,none⟩=false :=
 ⟨Blk.cell h 0,Blk.cell h 1,Blk.cell h 2,Blk.cell h 3,Blk.free0 h 0,Blk.free0 h 1,Blk.free0 h 2,Blk.free0 h 3⟩
theorem infoPart:(Tryz.prog.info? 192).map (fun i=>(i.zero,i.size,i.bytes))=some (some (.agg #[.int .i64 0,.string ⟨#[]⟩]),2,24):=by kernel_rfl
def CmpI (r:List ByteArray) (k:Nat) (acc:List Part) (tl:Bool):Prop:=(tl=false∧cmpL r []=cmpL (r.drop k) acc)∨(tl=true∧k=r.length∧cmpL r []=some (acc,true))
theorem undrew {X w:World} (h:Below X.drew.heap.size X.drew w):Below X.heap.size X w:=⟨h.os,h.tape,h.output,h.size,h.block⟩
theorem isWord_stars:isWordB ⟨#[42,42]⟩=false:=by simp[isWordB,Lib.toList_data,letterB,isLetN]
theorem partOk_stars:partOkB ⟨#[42,42]⟩=false:=by simp[partOkB,isWord_stars,Lib.toList_data,Lib.hasPrefix,List.isPrefixOf]
theorem compile_any (s:ByteArray) (w:World) (hs:s.size≤100000) (hE:Env w):Calls Tryz.prog 147 #[.string s] w (CompPost (compileB s) w):=by
 have hE1:=hE.keep (balloc (Below.refl _ _) (.cells #[.int .i64 0,.string ⟨#[]⟩,.slice none 0 0,.bool false] 195))
 have cS:=split_any s 47 _ (by omega) hE1
 have hsz:=splitB_size 47 s
 have hnum:=splitB_num 47 s
 have hne:splitB 47 s ≠ []:=by
  intro h
  have:=congrArg List.length h
  unfold splitB at this
  rw[List.length_map]at this
  exact splitL_ne 47 s.data.toList (List.eq_nil_of_length_eq_zero this)
 unfold compileB
 generalize splitB 47 s=l at *
 obtain⟨l0,r,rfl⟩:=List.exists_cons_of_ne_nil hne
 have hl0:l0.size≤100000:=Nat.le_trans (hsz l0 (by simp)) hs
 have cN:=fun W=>isName_any l0 W (by omega)
 clear hne
 obtain⟨m,hm⟩:∃ m,m=r.length:=⟨_,rfl⟩
 have HS:Hid (∀ W,W=(w.alloc (.cells #[.int .i64 0,.string ⟨#[]⟩,.slice none 0 0,.bool false] 195))→Calls Tryz.prog 75 #[.string s,.string ⟨#[47]⟩] W (fun e w'=>Below W.heap.size W w'∧∃ A c,e=.returned (.slice A (m+1) c)∧Reads w' 1 A (m+1) ((l0 :: r).map .string)∧(∀ a,A=some a→W.heap.size≤a.block)∧m+1≤c)):=Lib.hid (by rintro W rfl;rw[hm];exact cS)
 have HN:=Lib.hid cN
 have HM:=Lib.hid hm
 have hm9:m≤100001:=by rw[hm];simp at hnum;omega
 clear cS cN hE hE1
 simp only[compL]
 rw[←hm]
 clear hm
 by_cases hbig:32<m
 ·rw[show decide (m≤32)=false by simp;omega]
  simp only[Bool.false_and,Bool.false_eq_true,if_false]
  have hd:decide ((33:Int)<(m:Int)+1)=true:=by simp;omega
  go_enter Tryz.func147,Tryz.ntmps147
  go_wp2_with (go_at_call 75;refine (HS.out _ rfl).mono ?_;rintro e w1 ⟨hb1,A,c,rfl,hR,hA,hcap⟩;have hB1:PBox w1 w.heap.size 0 ⟨#[]⟩ (.slice none 0 0) false:=(hb1.block w.heap.size (by simp)).trans (World.alloc_heap_new _ _);obtain⟨c0,c1,c2,c3,f0,f1,f2,f3⟩:=hB1.facts;obtain⟨pb,po,u,rfl,hu,g0⟩:=hR.at_ (k:=0) (by omega);(obtain rfl:u=.string l0:=(by simpa using hu.symm));clear hu;have gg:w1.cell? ⟨pb,po,none⟩=some (.string l0):=g0;clear g0;have hcap1:(m:Int)+1≤(c:Int):=(by omega);have hA1:w.heap.size<pb:=(by have:=hA _ rfl;simp at this;omega))
  exact bodyPost_ret (v:=.tuple #[.agg #[.int .i64 0,.string ⟨#[]⟩,.slice none 0 0,.bool false],.bool false]) (by simp[results,Tryz.results147,go_sem,c0,c1,c2,c3]) rfl (CompPost.none_ 0 _ _ _ _ _ belB)
 have hd:decide ((33:Int)<(m:Int)+1)=false:=by simp;omega
 rw[show decide (m≤32)=true by simp;omega]
 simp only[Bool.true_and]
 have hn0:(0:Int)<(m:Int)+1:=by omega
 cases hho:headOkB l0
 ·simp only[Bool.false_eq_true,if_false]
  unfold headOkB at hho
  simp only[Bool.or_eq_false_iff]at hho
  obtain⟨h1,h2⟩:=hho
  rw[h2]at HN
  clear h2
  go_enter Tryz.func147,Tryz.ntmps147
  go_wp2_with (first | (go_at_call 75;refine (HS.out _ rfl).mono ?_;rintro e w1 ⟨hb1,A,c,rfl,hR,hA,hcap⟩;have hB1:PBox w1 w.heap.size 0 ⟨#[]⟩ (.slice none 0 0) false:=(hb1.block w.heap.size (by simp)).trans (World.alloc_heap_new _ _);obtain⟨c0,c1,c2,c3,f0,f1,f2,f3⟩:=hB1.facts;obtain⟨pb,po,u,rfl,hu,g0⟩:=hR.at_ (k:=0) (by omega);(obtain rfl:u=.string l0:=(by simpa using hu.symm));clear hu;have gg:w1.cell? ⟨pb,po,none⟩=some (.string l0):=g0;clear g0;have hcap1:(m:Int)+1≤(c:Int):=(by omega);have hA1:w.heap.size<pb:=(by have:=hA _ rfl;simp at this;omega)) | (go_at_call 94;refine (HN.out _).mono ?_;rintro e w2 ⟨rfl,hb2⟩;have hB2:PBox w2 w.heap.size 0 ⟨#[]⟩ (.slice none 0 0) false:=Blk.keep hB1 hb2;clear c0 c1 c2 c3 f0 f1 f2 f3;obtain⟨c0,c1,c2,c3,f0,f1,f2,f3⟩:=hB2.facts;have gg':=cell_keep hb2 gg))
  exact bodyPost_ret (v:=.tuple #[.agg #[.int .i64 0,.string ⟨#[]⟩,.slice none 0 0,.bool false],.bool false]) (by simp[results,Tryz.results147,go_sem,c0,c1,c2,c3]) rfl (CompPost.none_ 0 _ _ _ _ _ belB)
 simp only[if_true]
 have hpv:∀ W,Calls Tryz.prog 205 #[.string l0] W (Ret W (.agg #[.int .i64 (partOfP l0).kind,.string (partOfP l0).text])):=fun W=>partOf_any l0 W (by omega)
 generalize (partOfP l0)=p0 at *
 obtain⟨kd,tx⟩:=p0
 dsimp only at hpv
 have HPV:=Lib.hid hpv
 have HSZ:Hid (∀ p∈r,p.size≤100000):=Lib.hid (fun p hp=>Nat.le_trans (hsz p (by simp[hp])) hs)
 clear hpv hsz hnum
 have hho2:((l0.toList == [42])=true)∨((l0.toList == [42])=false∧isNameB l0=true):=by
  unfold headOkB at hho
  cases h:(l0.toList == [42])
  ·right;exact⟨rfl,by simpa[h] using hho⟩
  ·left;rfl
 have hn1:(1:Int)≤(m:Int)+1:=by omega
 clear hho
 obtain⟨i0,hi0,hz0,hz1,hz2⟩:=info_parts infoPart
 have HI:Hid ((Tryz.prog.info? 192=some i0)∧i0.zero=some (.agg #[.int .i64 0,.string ⟨#[]⟩])∧i0.size=2∧i0.bytes=24):=Lib.hid ⟨hi0,hz0,hz1,hz2⟩
 clear hi0 hz0 hz1 hz2
 rcases hho2 with h1 | ⟨h1,h2⟩
 rotate_left
 rw[h2]at HN;clear h2
 rotate_left
 all_goals
  go_enter Tryz.func147,Tryz.ntmps147
  go_wp2_with (first | (go_at_call 75;refine (HS.out _ rfl).mono ?_;rintro e w1 ⟨hb1,A,c,rfl,hR,hA,hcap⟩;have hB1:PBox w1 w.heap.size 0 ⟨#[]⟩ (.slice none 0 0) false:=(hb1.block w.heap.size (by simp)).trans (World.alloc_heap_new _ _);obtain⟨c0,c1,c2,c3,f0,f1,f2,f3⟩:=hB1.facts;obtain⟨pb,po,u,rfl,hu,g0⟩:=hR.at_ (k:=0) (by omega);(obtain rfl:u=.string l0:=(by simpa using hu.symm));clear hu;have gg:w1.cell? ⟨pb,po,none⟩=some (.string l0):=g0;clear g0;have hcap1:(m:Int)+1≤(c:Int):=(by omega);have hA1:w.heap.size<pb:=(by have:=hA _ rfl;simp at this;omega)) | (go_at_call 94;refine (HN.out _).mono ?_;rintro e w2 ⟨rfl,hb2⟩;have hB2:PBox w2 w.heap.size 0 ⟨#[]⟩ (.slice none 0 0) false:=Blk.keep hB1 hb2;clear c0 c1 c2 c3 f0 f1 f2 f3;obtain⟨c0,c1,c2,c3,f0,f1,f2,f3⟩:=hB2.facts;have gg':=cell_keep hb2 gg) | (go_at_call 205;refine (HPV.out _).mono ?_;rintro e w3 ⟨rfl,hb3⟩;have hB3:PBox w3 w.heap.size 0 ⟨#[]⟩ (.slice none 0 0) false:=Blk.keep (by assumption) hb3;clear c0 c1 c2 c3 f0 f1 f2 f3;obtain⟨c0,c1,c2,c3,f0,f1,f2,f3⟩:=hB3.facts))
  all_goals
   have HRd:Hid (Reads w3 1 (some ⟨pb,po,none⟩) (m+1) ((l0 :: r).map .string)):=Lib.hid (hR.keep belB)
   have hpb:pb<w3.heap.size:=cell_lt (a:=⟨pb,po,none⟩) (cell_keep (w:=w1) belB gg)
   have hbw:Below w.heap.size w w3:=belB
   have hz3:w.heap.size<w3.heap.size:=by omega
   clear hR gg c0 c1 c2 c3 f0 f1 f2 f3
   obtain⟨W0,hW0⟩:∃ W0,W0=(w3.setCell ⟨w.heap.size,0,none⟩ (.int .i64 kd)).setCell ⟨w.heap.size,1,none⟩ (.string tx):=⟨_,rfl⟩
   have hB0:PBox W0 w.heap.size kd tx (.slice none 0 0) false:=by rw[hW0];exact Blk.set_ (Blk.set_ hB3 0 (.int .i64 kd)) 1 (.string tx)
   have hFr:∀ j,j≠w.heap.size→W0.heap[j]? = w3.heap[j]?:=fun j hj=>by
    rw[hW0,Below.heap_setCell _ _ _ _ (by simpa using hj),Below.heap_setCell _ _ _ _ (by simpa using hj)]
   have hbw0:Below w.heap.size w W0:=by rw[hW0];exact belB
   have hz0:W0.heap.size=w3.heap.size:=by rw[hW0];simp[World.setCell]
   rw[←hW0]
   clear hW0 hB3 hbw
   go_loopw [34] (fun vi wr=>∃ (k:Nat) (acc:List Part) (A':Option Addr) (c':Nat) (tl:Bool),(vi=.int .i64 k∧k≤m∧acc.length≤k)∧Hid (CmpI r k acc tl)∧PBox wr w.heap.size kd tx (.slice A' acc.length c') tl ∧
     wr.ownsRow w3.heap.size 192 2 (.slice A' acc.length c') acc.length (partCells acc)∧Below w.heap.size w wr∧(∀ j,j<w3.heap.size→j≠w.heap.size→wr.heap[j]? = w3.heap[j]?)∧w3.heap.size≤wr.heap.size) (fun vi _=>m-(intOf vi).toNat)
   case atStart=>exact⟨0,[],none,0,false,⟨rfl,Nat.zero_le _,Nat.le_refl _⟩,Lib.hid (.inl ⟨rfl,by simp⟩),hB0,World.ownsRow_nil _ _ _ _,hbw0,fun j _ hj=>hFr j hj,by omega⟩
   case round =>
    clear hB0 hFr hbw0 hz0 W0
    obtain⟨k,acc,A',c',tl,⟨rfl,hk,hak⟩,HC,hB,hown,hbw,hFr,hzr⟩:=hrel
    obtain⟨c0,c1,c2,c3,f0,f1,f2,f3⟩:=hB.facts
    by_cases hlt:k<m
    ·try (exfalso;omega)
     all_goals
      obtain⟨p,hp⟩:∃ p,r[k]? = some p:=⟨_,List.getElem?_eq_getElem (by have:=HM.out;omega)⟩
      have hps:=HSZ.out p (List.mem_of_getElem? hp)
      have hcell:wr.cell? ⟨pb,po+1+k,none⟩=some (.string p):=by
       obtain⟨b',o',e',hc'⟩:=HRd.out.2 (by omega)
       injection e' with e';injection e' with e1 e2;subst e1;subst e2
       have:=hc' (k+1) (.string p) (by simp[hp])
       rw[show po+1+k=po+(k+1) by omega]
       exact (World.cell?_of_block (hFr pb hpb (by omega))).trans this
      obtain⟨rfl,hcmp⟩:tl=false∧cmpL r []=cmpL (r.drop k) acc:=by
       rcases HC.out with h | ⟨_,h,_⟩
       ·exact h
       ·exfalso;have:=HM.out;omega
      have hd2:r.drop k=p :: r.drop (k+1):=by
       obtain⟨hl2,rfl⟩:=List.getElem?_eq_some_iff.1 hp
       exact List.drop_eq_getElem_cons hl2
      rw[hd2,cmpL]at hcmp
      have hemp:(r.drop (k+1)).isEmpty=decide (k+1=m):=by
       have:=HM.out
       by_cases h:k+1=m
       ·rw[List.drop_eq_nil_of_le (by omega)];simp[h]
       ·simp[h];omega
      rw[hemp]at hcmp
      have hk0:(0:Int)≤(k:Int):=by omega
      have hkm:(k:Int)<(m:Int):=by omega
      clear hd2 hemp hp HC HRd
      cases h2s:(p.toList == [42,42])
      ·simp only[h2s,Bool.false_and,Bool.false_eq_true,if_false]at hcmp
       have hp2:∀ W,Calls Tryz.prog 205 #[.string p] W (Ret W (.agg #[.int .i64 (partOfP p).kind,.string (partOfP p).text])):=fun W=>partOf_any p W (by omega)
       have cW:=fun W=>isWord_any p W (by omega)
       have cH:=fun W=>Tryz.strings_HasPrefix p ⟨#[42,46]⟩ W
       have cX:=fun W=>isWord_any (p.extract 2 p.size) W (by simp;omega)
       have hpre:Lib.hasPrefix p.data.toList [42,46]=true→2≤p.size:=by
        intro h
        rw[Lib.hasPrefix,List.isPrefixOf_iff_prefix]at h
        have:=h.length_le
        rw[Lib.size_eq];simpa using this
       rw[show (⟨#[42,46]⟩:ByteArray).data.toList=[42,46] from rfl]at cH
       have hok:partOkB p=((p.toList == [42])||isWordB p||(decide (p.size≤34)&&Lib.hasPrefix p.data.toList [42,46]&&isWordB (p.extract 2 p.size))):=rfl
       generalize partOfP p=pq at hcmp hp2
       obtain⟨pk,pt⟩:=pq
       dsimp only at hp2
       generalize isWordB p=b1 at hok cW
       generalize Lib.hasPrefix p.data.toList [42,46]=b2 at hok cH hpre
       generalize isWordB (p.extract 2 p.size)=b3 at hok cX
       have HP2:=Lib.hid hp2
       have HW:=Lib.hid cW;have HH:=Lib.hid cH;have HX:=Lib.hid cX
       clear hp2 cW cH cX
       cases e1:(p.toList == [42])
       ·cases b1
        ·by_cases hs34:p.size≤34
         ·have hd3:decide ((p.size:Int)≤34)=true:=by simp;omega
          cases b2
          ·have hnone:cmpL r []=none:=by rw[hcmp,hok];simp[e1]
           have HNO:=Lib.hid hnone;clear hnone hcmp hok
           go_wp2_with (first | (go_at_call 162;refine (HW.out _).mono ?_;rintro e w4 ⟨rfl,hb4⟩;replace hB:PBox w4 w.heap.size kd tx (.slice A' acc.length c') false:=Blk.keep hB hb4;replace hown:=ownsRow_keep hown hb4;replace hbw:=hbw.trans (hb4.mono (by omega));replace hFr:∀ j,j<w3.heap.size→j≠w.heap.size→w4.heap[j]? = w3.heap[j]?:=(fun j q1 q2=>(hb4.block j (by omega)).trans (hFr j q1 q2));replace hzr:w3.heap.size≤w4.heap.size:=Nat.le_trans hzr hb4.size;clear c0 c1 c2 c3 f0 f1 f2 f3;obtain⟨c0,c1,c2,c3,f0,f1,f2,f3⟩:=hB.facts;clear HW) | (go_at_call 206;refine (HH.out _).mono ?_;rintro e w5 ⟨rfl,hw5⟩;rw[hw5];clear hw5 w5) | (go_at_call 162;refine (HX.out _).mono ?_;rintro e w5 ⟨rfl,hb5⟩;replace hB:PBox w5 w.heap.size kd tx (.slice A' acc.length c') false:=Blk.keep hB hb5;replace hown:=ownsRow_keep hown hb5;replace hbw:=hbw.trans (hb5.mono (by omega));replace hFr:∀ j,j<w3.heap.size→j≠w.heap.size→w5.heap[j]? = w3.heap[j]?:=(fun j q1 q2=>(hb5.block j (by omega)).trans (hFr j q1 q2));replace hzr:w3.heap.size≤w5.heap.size:=Nat.le_trans hzr hb5.size;clear c0 c1 c2 c3 f0 f1 f2 f3;obtain⟨c0,c1,c2,c3,f0,f1,f2,f3⟩:=hB.facts;clear HX))
           rw[HNO.out];exact bodyPost_ret (v:=.tuple #[.agg #[.int .i64 kd,.string tx,.slice A' acc.length c',.bool false],.bool false]) (by simp[results,Tryz.results147,go_sem,c0,c1,c2,c3]) rfl (CompPost.none_ _ _ _ _ _ _ belB)
          ·have h2p:(2:Int)≤(p.size:Int):=by have:=hpre rfl;omega
           cases b3
           ·have hnone:cmpL r []=none:=by rw[hcmp,hok];simp[e1]
            have HNO:=Lib.hid hnone;clear hnone hcmp hok
            go_wp2_with (first | (go_at_call 162;refine (HW.out _).mono ?_;rintro e w4 ⟨rfl,hb4⟩;replace hB:PBox w4 w.heap.size kd tx (.slice A' acc.length c') false:=Blk.keep hB hb4;replace hown:=ownsRow_keep hown hb4;replace hbw:=hbw.trans (hb4.mono (by omega));replace hFr:∀ j,j<w3.heap.size→j≠w.heap.size→w4.heap[j]? = w3.heap[j]?:=(fun j q1 q2=>(hb4.block j (by omega)).trans (hFr j q1 q2));replace hzr:w3.heap.size≤w4.heap.size:=Nat.le_trans hzr hb4.size;clear c0 c1 c2 c3 f0 f1 f2 f3;obtain⟨c0,c1,c2,c3,f0,f1,f2,f3⟩:=hB.facts;clear HW) | (go_at_call 206;refine (HH.out _).mono ?_;rintro e w5 ⟨rfl,hw5⟩;rw[hw5];clear hw5 w5) | (go_at_call 162;refine (HX.out _).mono ?_;rintro e w5 ⟨rfl,hb5⟩;replace hB:PBox w5 w.heap.size kd tx (.slice A' acc.length c') false:=Blk.keep hB hb5;replace hown:=ownsRow_keep hown hb5;replace hbw:=hbw.trans (hb5.mono (by omega));replace hFr:∀ j,j<w3.heap.size→j≠w.heap.size→w5.heap[j]? = w3.heap[j]?:=(fun j q1 q2=>(hb5.block j (by omega)).trans (hFr j q1 q2));replace hzr:w3.heap.size≤w5.heap.size:=Nat.le_trans hzr hb5.size;clear c0 c1 c2 c3 f0 f1 f2 f3;obtain⟨c0,c1,c2,c3,f0,f1,f2,f3⟩:=hB.facts;clear HX))
            rw[HNO.out];exact bodyPost_ret (v:=.tuple #[.agg #[.int .i64 kd,.string tx,.slice A' acc.length c',.bool false],.bool false]) (by simp[results,Tryz.results147,go_sem,c0,c1,c2,c3]) rfl (CompPost.none_ _ _ _ _ _ _ belB)
           ·have hsome:cmpL r []=cmpL (r.drop (k+1)) (acc++[⟨pk,pt⟩]):=by rw[hcmp,hok];simp[e1,hs34]
            have HSO:=Lib.hid hsome;clear hsome hcmp hok
            go_wp2_with (first | (go_at_call 162;refine (HW.out _).mono ?_;rintro e w4 ⟨rfl,hb4⟩;replace hB:PBox w4 w.heap.size kd tx (.slice A' acc.length c') false:=Blk.keep hB hb4;replace hown:=ownsRow_keep hown hb4;replace hbw:=hbw.trans (hb4.mono (by omega));replace hFr:∀ j,j<w3.heap.size→j≠w.heap.size→w4.heap[j]? = w3.heap[j]?:=(fun j q1 q2=>(hb4.block j (by omega)).trans (hFr j q1 q2));replace hzr:w3.heap.size≤w4.heap.size:=Nat.le_trans hzr hb4.size;clear c0 c1 c2 c3 f0 f1 f2 f3;obtain⟨c0,c1,c2,c3,f0,f1,f2,f3⟩:=hB.facts;clear HW) | (go_at_call 206;refine (HH.out _).mono ?_;rintro e w5 ⟨rfl,hw5⟩;rw[hw5];clear hw5 w5) | (go_at_call 162;refine (HX.out _).mono ?_;rintro e w5 ⟨rfl,hb5⟩;replace hB:PBox w5 w.heap.size kd tx (.slice A' acc.length c') false:=Blk.keep hB hb5;replace hown:=ownsRow_keep hown hb5;replace hbw:=hbw.trans (hb5.mono (by omega));replace hFr:∀ j,j<w3.heap.size→j≠w.heap.size→w5.heap[j]? = w3.heap[j]?:=(fun j q1 q2=>(hb5.block j (by omega)).trans (hFr j q1 q2));replace hzr:w3.heap.size≤w5.heap.size:=Nat.le_trans hzr hb5.size;clear c0 c1 c2 c3 f0 f1 f2 f3;obtain⟨c0,c1,c2,c3,f0,f1,f2,f3⟩:=hB.facts;clear HX))
            go_region_law (first | (go_simp;go_at_call 205;refine (HP2.out _).mono ?_;rintro e w6 ⟨rfl,hb6⟩;replace hb6:=undrew hb6;replace hB:PBox w6 w.heap.size kd tx (.slice A' acc.length c') false:=Blk.keep hB hb6;replace hown:=ownsRow_keep hown hb6;replace hbw:=hbw.trans (hb6.mono (by omega));replace hFr:∀ j,j<w3.heap.size→j≠w.heap.size→w6.heap[j]? = w3.heap[j]?:=(fun j q1 q2=>(hb6.block j (by omega)).trans (hFr j q1 q2));replace hzr:w3.heap.size≤w6.heap.size:=Nat.le_trans hzr hb6.size;have hz6:w.heap.size<w6.heap.size:=(by omega);clear c0 c1 c2 c3 f0 f1 f2 f3;obtain⟨c0,c1,c2,c3,f0,f1,f2,f3⟩:=hB.facts) | (refine step_append_lies _ (by rfl) _ _ _ (by rfl) w3.heap.size 192 i0 (.agg #[.int .i64 0,.string ⟨#[]⟩]) 2 24 Tryz.underlying193 HI.out.1 HI.out.2.1 HI.out.2.2.1 HI.out.2.2.2 (by rfl) (by omega) (.slice A' acc.length c') acc.length (partCells acc) (by rfl) (hown.alloc _) ⟨w6.heap.size,0,none⟩ 1 1 [.int .i64 pk,.string pt] (by rfl) (by rfl) (World.news_of_block (cs:=#[.int .i64 pk,.string pt]) (t:=192) (fr:=(0,0)) (World.alloc_heap_new w6 _)) (by simp[Value.oneCell']) (by omega) (by unfold maxLen;omega) (by omega) (by simp;omega) (w6.heap.size+1) (by simp) ?_;intro gg cap w7 hown7 hgrow hat hlt7;have hB7:PBox w7 w.heap.size kd tx (.slice A' acc.length c') false:=(hgrow.block w.heap.size (by simp;omega) (fun e=>by have:=ownsRow_block hown _ e.symm;omega)).trans ((Below.heap_alloc w6 _ w.heap.size (by omega)).trans hB);clear c0 c1 c2 c3 f0 f1 f2 f3;obtain⟨c0,c1,c2,c3,f0,f1,f2,f3⟩:=hB7.facts));all_goals go_wp2;all_goals (have hal:(acc++[(⟨pk,pt⟩:Part)]).length=acc.length+1:=(by simp);have hpc:partCells (acc++[⟨pk,pt⟩])=partCells acc++[.int .i64 pk,.string pt]:=(by simp[partCells]);refine⟨⟨k+1,acc++[⟨pk,pt⟩],some ⟨gg,0,none⟩,cap,false,⟨by go_num,by omega,by simp;omega⟩,Lib.hid (.inl ⟨rfl,HSO.out⟩),by rw[hal];exact Blk.set_ hB7 2 _,by rw[hal,hpc];exact ownsRow_same hown7 (fun j hj=>Below.heap_setCell _ _ _ _ (by simp;omega)),((hbw.alloc hbw.size _).grown hgrow (by have:=hbw.size;simp;omega) (fun r e=>by have:=ownsRow_block hown r e;omega)).setCell (p:=⟨w.heap.size,2,none⟩) (by simp) _,fun j q1 q2=>(Below.heap_setCell _ _ _ _ (by simpa using q2)).trans ((hgrow.block j (by simp;omega) (fun e=>by have:=ownsRow_block hown _ e.symm;omega)).trans ((Below.heap_alloc w6 _ j (by omega)).trans (hFr j q1 q2))),by have:=hgrow.size;simp[World.setCell]at this ⊢;omega⟩,by simp[intOf];omega⟩)
         ·have hd3:decide ((p.size:Int)≤34)=false:=by simp;omega
          have hnone:cmpL r []=none:=by rw[hcmp,hok];simp[e1,hs34]
          have HNO:=Lib.hid hnone;clear hnone hcmp hok
          go_wp2_with (first | (go_at_call 162;refine (HW.out _).mono ?_;rintro e w4 ⟨rfl,hb4⟩;replace hB:PBox w4 w.heap.size kd tx (.slice A' acc.length c') false:=Blk.keep hB hb4;replace hown:=ownsRow_keep hown hb4;replace hbw:=hbw.trans (hb4.mono (by omega));replace hFr:∀ j,j<w3.heap.size→j≠w.heap.size→w4.heap[j]? = w3.heap[j]?:=(fun j q1 q2=>(hb4.block j (by omega)).trans (hFr j q1 q2));replace hzr:w3.heap.size≤w4.heap.size:=Nat.le_trans hzr hb4.size;clear c0 c1 c2 c3 f0 f1 f2 f3;obtain⟨c0,c1,c2,c3,f0,f1,f2,f3⟩:=hB.facts;clear HW) | (go_at_call 206;refine (HH.out _).mono ?_;rintro e w5 ⟨rfl,hw5⟩;rw[hw5];clear hw5 w5) | (go_at_call 162;refine (HX.out _).mono ?_;rintro e w5 ⟨rfl,hb5⟩;replace hB:PBox w5 w.heap.size kd tx (.slice A' acc.length c') false:=Blk.keep hB hb5;replace hown:=ownsRow_keep hown hb5;replace hbw:=hbw.trans (hb5.mono (by omega));replace hFr:∀ j,j<w3.heap.size→j≠w.heap.size→w5.heap[j]? = w3.heap[j]?:=(fun j q1 q2=>(hb5.block j (by omega)).trans (hFr j q1 q2));replace hzr:w3.heap.size≤w5.heap.size:=Nat.le_trans hzr hb5.size;clear c0 c1 c2 c3 f0 f1 f2 f3;obtain⟨c0,c1,c2,c3,f0,f1,f2,f3⟩:=hB.facts;clear HX))
          rw[HNO.out];exact bodyPost_ret (v:=.tuple #[.agg #[.int .i64 kd,.string tx,.slice A' acc.length c',.bool false],.bool false]) (by simp[results,Tryz.results147,go_sem,c0,c1,c2,c3]) rfl (CompPost.none_ _ _ _ _ _ _ belB)
        ·have hsome:cmpL r []=cmpL (r.drop (k+1)) (acc++[⟨pk,pt⟩]):=by rw[hcmp,hok];simp
         have HSO:=Lib.hid hsome;clear hsome hcmp hok
         go_wp2_with (first | (go_at_call 162;refine (HW.out _).mono ?_;rintro e w4 ⟨rfl,hb4⟩;replace hB:PBox w4 w.heap.size kd tx (.slice A' acc.length c') false:=Blk.keep hB hb4;replace hown:=ownsRow_keep hown hb4;replace hbw:=hbw.trans (hb4.mono (by omega));replace hFr:∀ j,j<w3.heap.size→j≠w.heap.size→w4.heap[j]? = w3.heap[j]?:=(fun j q1 q2=>(hb4.block j (by omega)).trans (hFr j q1 q2));replace hzr:w3.heap.size≤w4.heap.size:=Nat.le_trans hzr hb4.size;clear c0 c1 c2 c3 f0 f1 f2 f3;obtain⟨c0,c1,c2,c3,f0,f1,f2,f3⟩:=hB.facts;clear HW) | (go_at_call 206;refine (HH.out _).mono ?_;rintro e w5 ⟨rfl,hw5⟩;rw[hw5];clear hw5 w5) | (go_at_call 162;refine (HX.out _).mono ?_;rintro e w5 ⟨rfl,hb5⟩;replace hB:PBox w5 w.heap.size kd tx (.slice A' acc.length c') false:=Blk.keep hB hb5;replace hown:=ownsRow_keep hown hb5;replace hbw:=hbw.trans (hb5.mono (by omega));replace hFr:∀ j,j<w3.heap.size→j≠w.heap.size→w5.heap[j]? = w3.heap[j]?:=(fun j q1 q2=>(hb5.block j (by omega)).trans (hFr j q1 q2));replace hzr:w3.heap.size≤w5.heap.size:=Nat.le_trans hzr hb5.size;clear c0 c1 c2 c3 f0 f1 f2 f3;obtain⟨c0,c1,c2,c3,f0,f1,f2,f3⟩:=hB.facts;clear HX))
         go_region_law (first | (go_simp;go_at_call 205;refine (HP2.out _).mono ?_;rintro e w6 ⟨rfl,hb6⟩;replace hb6:=undrew hb6;replace hB:PBox w6 w.heap.size kd tx (.slice A' acc.length c') false:=Blk.keep hB hb6;replace hown:=ownsRow_keep hown hb6;replace hbw:=hbw.trans (hb6.mono (by omega));replace hFr:∀ j,j<w3.heap.size→j≠w.heap.size→w6.heap[j]? = w3.heap[j]?:=(fun j q1 q2=>(hb6.block j (by omega)).trans (hFr j q1 q2));replace hzr:w3.heap.size≤w6.heap.size:=Nat.le_trans hzr hb6.size;have hz6:w.heap.size<w6.heap.size:=(by omega);clear c0 c1 c2 c3 f0 f1 f2 f3;obtain⟨c0,c1,c2,c3,f0,f1,f2,f3⟩:=hB.facts) | (refine step_append_lies _ (by rfl) _ _ _ (by rfl) w3.heap.size 192 i0 (.agg #[.int .i64 0,.string ⟨#[]⟩]) 2 24 Tryz.underlying193 HI.out.1 HI.out.2.1 HI.out.2.2.1 HI.out.2.2.2 (by rfl) (by omega) (.slice A' acc.length c') acc.length (partCells acc) (by rfl) (hown.alloc _) ⟨w6.heap.size,0,none⟩ 1 1 [.int .i64 pk,.string pt] (by rfl) (by rfl) (World.news_of_block (cs:=#[.int .i64 pk,.string pt]) (t:=192) (fr:=(0,0)) (World.alloc_heap_new w6 _)) (by simp[Value.oneCell']) (by omega) (by unfold maxLen;omega) (by omega) (by simp;omega) (w6.heap.size+1) (by simp) ?_;intro gg cap w7 hown7 hgrow hat hlt7;have hB7:PBox w7 w.heap.size kd tx (.slice A' acc.length c') false:=(hgrow.block w.heap.size (by simp;omega) (fun e=>by have:=ownsRow_block hown _ e.symm;omega)).trans ((Below.heap_alloc w6 _ w.heap.size (by omega)).trans hB);clear c0 c1 c2 c3 f0 f1 f2 f3;obtain⟨c0,c1,c2,c3,f0,f1,f2,f3⟩:=hB7.facts));all_goals go_wp2;all_goals (have hal:(acc++[(⟨pk,pt⟩:Part)]).length=acc.length+1:=(by simp);have hpc:partCells (acc++[⟨pk,pt⟩])=partCells acc++[.int .i64 pk,.string pt]:=(by simp[partCells]);refine⟨⟨k+1,acc++[⟨pk,pt⟩],some ⟨gg,0,none⟩,cap,false,⟨by go_num,by omega,by simp;omega⟩,Lib.hid (.inl ⟨rfl,HSO.out⟩),by rw[hal];exact Blk.set_ hB7 2 _,by rw[hal,hpc];exact ownsRow_same hown7 (fun j hj=>Below.heap_setCell _ _ _ _ (by simp;omega)),((hbw.alloc hbw.size _).grown hgrow (by have:=hbw.size;simp;omega) (fun r e=>by have:=ownsRow_block hown r e;omega)).setCell (p:=⟨w.heap.size,2,none⟩) (by simp) _,fun j q1 q2=>(Below.heap_setCell _ _ _ _ (by simpa using q2)).trans ((hgrow.block j (by simp;omega) (fun e=>by have:=ownsRow_block hown _ e.symm;omega)).trans ((Below.heap_alloc w6 _ j (by omega)).trans (hFr j q1 q2))),by have:=hgrow.size;simp[World.setCell]at this ⊢;omega⟩,by simp[intOf];omega⟩)
       ·have hsome:cmpL r []=cmpL (r.drop (k+1)) (acc++[⟨pk,pt⟩]):=by rw[hcmp,hok];simp[e1]
        have HSO:=Lib.hid hsome;clear hsome hcmp hok
        go_wp2_with (first | (go_at_call 162;refine (HW.out _).mono ?_;rintro e w4 ⟨rfl,hb4⟩;replace hB:PBox w4 w.heap.size kd tx (.slice A' acc.length c') false:=Blk.keep hB hb4;replace hown:=ownsRow_keep hown hb4;replace hbw:=hbw.trans (hb4.mono (by omega));replace hFr:∀ j,j<w3.heap.size→j≠w.heap.size→w4.heap[j]? = w3.heap[j]?:=(fun j q1 q2=>(hb4.block j (by omega)).trans (hFr j q1 q2));replace hzr:w3.heap.size≤w4.heap.size:=Nat.le_trans hzr hb4.size;clear c0 c1 c2 c3 f0 f1 f2 f3;obtain⟨c0,c1,c2,c3,f0,f1,f2,f3⟩:=hB.facts;clear HW) | (go_at_call 206;refine (HH.out _).mono ?_;rintro e w5 ⟨rfl,hw5⟩;rw[hw5];clear hw5 w5) | (go_at_call 162;refine (HX.out _).mono ?_;rintro e w5 ⟨rfl,hb5⟩;replace hB:PBox w5 w.heap.size kd tx (.slice A' acc.length c') false:=Blk.keep hB hb5;replace hown:=ownsRow_keep hown hb5;replace hbw:=hbw.trans (hb5.mono (by omega));replace hFr:∀ j,j<w3.heap.size→j≠w.heap.size→w5.heap[j]? = w3.heap[j]?:=(fun j q1 q2=>(hb5.block j (by omega)).trans (hFr j q1 q2));replace hzr:w3.heap.size≤w5.heap.size:=Nat.le_trans hzr hb5.size;clear c0 c1 c2 c3 f0 f1 f2 f3;obtain⟨c0,c1,c2,c3,f0,f1,f2,f3⟩:=hB.facts;clear HX))
        go_region_law (first | (go_simp;go_at_call 205;refine (HP2.out _).mono ?_;rintro e w6 ⟨rfl,hb6⟩;replace hb6:=undrew hb6;replace hB:PBox w6 w.heap.size kd tx (.slice A' acc.length c') false:=Blk.keep hB hb6;replace hown:=ownsRow_keep hown hb6;replace hbw:=hbw.trans (hb6.mono (by omega));replace hFr:∀ j,j<w3.heap.size→j≠w.heap.size→w6.heap[j]? = w3.heap[j]?:=(fun j q1 q2=>(hb6.block j (by omega)).trans (hFr j q1 q2));replace hzr:w3.heap.size≤w6.heap.size:=Nat.le_trans hzr hb6.size;have hz6:w.heap.size<w6.heap.size:=(by omega);clear c0 c1 c2 c3 f0 f1 f2 f3;obtain⟨c0,c1,c2,c3,f0,f1,f2,f3⟩:=hB.facts) | (refine step_append_lies _ (by rfl) _ _ _ (by rfl) w3.heap.size 192 i0 (.agg #[.int .i64 0,.string ⟨#[]⟩]) 2 24 Tryz.underlying193 HI.out.1 HI.out.2.1 HI.out.2.2.1 HI.out.2.2.2 (by rfl) (by omega) (.slice A' acc.length c') acc.length (partCells acc) (by rfl) (hown.alloc _) ⟨w6.heap.size,0,none⟩ 1 1 [.int .i64 pk,.string pt] (by rfl) (by rfl) (World.news_of_block (cs:=#[.int .i64 pk,.string pt]) (t:=192) (fr:=(0,0)) (World.alloc_heap_new w6 _)) (by simp[Value.oneCell']) (by omega) (by unfold maxLen;omega) (by omega) (by simp;omega) (w6.heap.size+1) (by simp) ?_;intro gg cap w7 hown7 hgrow hat hlt7;have hB7:PBox w7 w.heap.size kd tx (.slice A' acc.length c') false:=(hgrow.block w.heap.size (by simp;omega) (fun e=>by have:=ownsRow_block hown _ e.symm;omega)).trans ((Below.heap_alloc w6 _ w.heap.size (by omega)).trans hB);clear c0 c1 c2 c3 f0 f1 f2 f3;obtain⟨c0,c1,c2,c3,f0,f1,f2,f3⟩:=hB7.facts));all_goals go_wp2;all_goals (have hal:(acc++[(⟨pk,pt⟩:Part)]).length=acc.length+1:=(by simp);have hpc:partCells (acc++[⟨pk,pt⟩])=partCells acc++[.int .i64 pk,.string pt]:=(by simp[partCells]);refine⟨⟨k+1,acc++[⟨pk,pt⟩],some ⟨gg,0,none⟩,cap,false,⟨by go_num,by omega,by simp;omega⟩,Lib.hid (.inl ⟨rfl,HSO.out⟩),by rw[hal];exact Blk.set_ hB7 2 _,by rw[hal,hpc];exact ownsRow_same hown7 (fun j hj=>Below.heap_setCell _ _ _ _ (by simp;omega)),((hbw.alloc hbw.size _).grown hgrow (by have:=hbw.size;simp;omega) (fun r e=>by have:=ownsRow_block hown r e;omega)).setCell (p:=⟨w.heap.size,2,none⟩) (by simp) _,fun j q1 q2=>(Below.heap_setCell _ _ _ _ (by simpa using q2)).trans ((hgrow.block j (by simp;omega) (fun e=>by have:=ownsRow_block hown _ e.symm;omega)).trans ((Below.heap_alloc w6 _ j (by omega)).trans (hFr j q1 q2))),by have:=hgrow.size;simp[World.setCell]at this ⊢;omega⟩,by simp[intOf];omega⟩)
      ·obtain rfl:p=⟨#[42,42]⟩:=bytes_ext (by rw[←Lib.toList_data];simpa using h2s)
       by_cases hlast:k+1=m
       ·have hlb:((k:Int)==(m:Int)+1-2)=true:=by simp;omega
        rw[h2s,show decide (k+1=m)=true by simpa using hlast]at hcmp
        simp only[Bool.and_self,if_true]at hcmp
        have HH:=Lib.hid hcmp
        clear hcmp
        go_wp2
        refine⟨⟨k+1,acc,A',c',true,⟨by go_num,by omega,by omega⟩,Lib.hid (.inr ⟨rfl,by rw[←HM.out];exact hlast,HH.out⟩),Blk.set_ hB 3 (.bool true),ownsRow_same hown (fun j hj=>Below.heap_setCell _ _ _ _ (by simp;omega)),hbw.setCell (p:=⟨w.heap.size,3,none⟩) (by simp) _,
         fun j q1 q2=>(Below.heap_setCell _ _ _ _ (by simpa using q2)).trans (hFr j q1 q2),by simp[World.setCell];omega⟩,by simp[intOf];omega⟩
       ·have hlb:((k:Int)==(m:Int)+1-2)=false:=by simp;omega
        have hnone:cmpL r []=none:=by
         rw[hcmp,show decide (k+1=m)=false by simpa using hlast,partOk_stars];simp
        have HW:Hid (∀ W,Calls Tryz.prog 162 #[.string ⟨#[42,42]⟩] W (Ret W (.bool false))):=Lib.hid (fun W=>by rw[←isWord_stars];exact isWord_any ⟨#[42,42]⟩ W (by decide))
        have HH:Hid (∀ W,Calls Tryz.prog 206 #[.string ⟨#[42,42]⟩,.string ⟨#[42,46]⟩] W fun e w'=>e=.returned (.bool false)∧w'=W):=Lib.hid (fun W=>Tryz.strings_HasPrefix ⟨#[42,42]⟩ ⟨#[42,46]⟩ W)
        have HNO:=Lib.hid hnone;clear hnone hcmp
        go_wp2_with (first | (go_at_call 162;refine (HW.out _).mono ?_;rintro e w4 ⟨rfl,hb4⟩;replace hB:PBox w4 w.heap.size kd tx (.slice A' acc.length c') false:=Blk.keep hB hb4;replace hown:=ownsRow_keep hown hb4;replace hbw:=hbw.trans (hb4.mono (by omega));replace hFr:∀ j,j<w3.heap.size→j≠w.heap.size→w4.heap[j]? = w3.heap[j]?:=(fun j q1 q2=>(hb4.block j (by omega)).trans (hFr j q1 q2));replace hzr:w3.heap.size≤w4.heap.size:=Nat.le_trans hzr hb4.size;clear c0 c1 c2 c3 f0 f1 f2 f3;obtain⟨c0,c1,c2,c3,f0,f1,f2,f3⟩:=hB.facts;clear HW) | (go_at_call 206;refine (HH.out _).mono ?_;rintro e w5 ⟨rfl,hw5⟩;rw[hw5];clear hw5 w5))
        rw[HNO.out];exact bodyPost_ret (v:=.tuple #[.agg #[.int .i64 kd,.string tx,.slice A' acc.length c',.bool false],.bool false]) (by simp[results,Tryz.results147,go_sem,c0,c1,c2,c3]) rfl (CompPost.none_ _ _ _ _ _ _ belB)
    ·obtain rfl:k=m:=by omega
     go_wp2
     have hend:cmpL r []=some (acc,tl):=(by rcases HC.out with ⟨h,e⟩ | ⟨h,_,e⟩;(rw[e,h,HM.out,List.drop_eq_nil_of_le (Nat.le_refl _),cmpL]);(rw[e,h]));rw[hend];have hob:∀ a,A'=some a→a.block≠w.heap.size:=(fun a ha=>by have:=ownsRow_block hown a.block (by rw[ha];rfl);omega);have hob2:∀ a,A'=some a→w.heap.size≤a.block:=(fun a ha=>by have:=ownsRow_block hown a.block (by rw[ha];rfl);omega);exact bodyPost_ret (v:=.tuple #[.agg #[.int .i64 kd,.string tx,.slice A' acc.length c',.bool tl],.bool true]) (by simp[results,Tryz.results147,go_sem,c0,c1,c2,c3]) rfl ⟨belB,A',c',rfl,((((Reads.of_own hown).set_ _ _ hob).set_ _ _ hob).set_ _ _ hob).set_ _ _ hob,hob2⟩
theorem valid_any (s:ByteArray) (w:World) (hs:s.size≤100000) (hE:Env w):Calls Tryz.prog 99 #[.string s] w (Ret w (.bool (compileB s).isSome)):=by
 have cC:=compile_any s w hs hE
 generalize compileB s=r at *
 have HC:=Lib.hid cC
 clear cC
 cases r with
 | none =>
  go_enter Tryz.func99,Tryz.ntmps99
  go_wp2_with (go_at_call 147;refine HC.out.mono ?_;rintro e w1 ⟨hb1,k,t,A,n,c,b,rfl⟩)
  go_ret
  exact⟨rfl,belB⟩
 | some p =>
  go_enter Tryz.func99,Tryz.ntmps99
  go_wp2_with (go_at_call 147;refine HC.out.mono ?_;rintro e w1 ⟨hb1,A,c,rfl,hR⟩)
  go_ret
  exact⟨rfl,belB⟩
theorem partCells_at (qs:List Part):∀ (k:Nat) (q:Part),qs[k]? = some q→(partCells qs)[k*2]? = some (.int .i64 q.kind)∧(partCells qs)[k*2+1]? = some (.string q.text):=by
 induction qs with
 | nil=>intro k q h;simp at h
 | cons a qs ih =>
  intro k q h
  cases k with
  | zero=>simp at h;subst h;simp[partCells]
  | succ k =>
   have:=ih k q (by simpa using h)
   rw[show (k+1)*2=k*2+2 by omega]
   simpa[partCells] using this
theorem partCells_length (qs:List Part):(partCells qs).length=qs.length*2:=by induction qs <;> simp_all [partCells];omega
def wordsL (ps:List Part):List ByteArray:=ps.map fun p=>withP p.kind p.text ⟨#[97]⟩
def PartsOk (ps:List Part):Prop:=∀ p∈ps,p.kind≤2∧p.text.size≤100000
theorem lens_le' (B:Nat):∀ l:List (List UInt8),(∀ x∈l,x.length≤B)→Lib.lens l≤l.length*B
 | [],_=>by simp[Lib.lens]
 | x :: l,h=>by
  have h1:=h x (by simp)
  have h2:=lens_le' B l (fun y hy=>h y (by simp[hy]))
  simp only[Lib.lens,List.map_cons,List.sum_cons,List.length_cons]at h2 ⊢
  rw[Nat.succ_mul]
  omega
def joinS (ws:List ByteArray):ByteArray:=toB (Lib.join (lists ws) [47])
theorem join_any (g n c:Nat) (ws:List ByteArray) (W:World) (base:Nat) (hown:W.ownsRow base 9 1 (.slice (some ⟨g,0,none⟩) n c) n (ws.map .string)) (hn:n≤100100) (hsz:∀ x∈ws,x.size≤200000) :
  Calls Tryz.prog 72 #[.slice (some ⟨g,0,none⟩) n c,.string ⟨#[47]⟩] W (Ret W (.string (joinS ws))):=by
 have hl:ws.length=n:=by have:=hown.1;simpa using this
 rcases hown.2 with ⟨h,_⟩ | ⟨g',cap,cur,he,hb,hh,h1,h2,h3,h4⟩
 ·cases h
 ·injection he with e1 e2 e3
  injection e1 with e1
  injection e1 with e1
  subst e1;subst e3
  have hcells:=World.ownsRow.cells hown (g:=g) rfl
  have hlen:(Lib.join (lists ws) [47]).length≤140737488355328:=by
   cases ws with
   | nil=>simp[lists,Lib.join_nil]
   | cons x r =>
    have hx:=hsz x (by simp)
    have hr:=lens_le' 200000 (lists r) (by
     intro y hy
     obtain⟨z,hz,rfl⟩:=List.mem_map.1 hy
     have:=hsz z (by simp[hz]);rw[Lib.size_eq]at this;exact this)
    rw[Lib.size_eq]at hx
    simp only[lists,List.map_cons]at hr ⊢
    rw[Lib.join_cons,List.length_append,Lib.joinTail_length]
    simp only[List.length_singleton,List.length_cons,List.length_map,List.length_nil,Nat.zero_add,Nat.one_mul]at hr hl ⊢
    omega
  have:=Tryz.strings_Join g 0 c ws ⟨#[47]⟩ W (by
   intro j x hx
   have:=hcells j (.string x) (by simp[hx])
   unfold Addr.add at this;split at this <;> simp_all) ((Array.getElem?_eq_some_iff.1 hh).1) (by omega) (by omega) hlen
  rw[hl]at this
  exact this
theorem ownsRow_one (w:World) (x:ByteArray):(w.alloc (.cells #[.string x] 9)).ownsRow w.heap.size 9 1 (.slice (some ⟨w.heap.size,0,none⟩) 1 1) 1 [.string x] :=
 ⟨rfl,.inr ⟨w.heap.size,1,#[.string x],rfl,Nat.le_refl _,World.alloc_heap_new _ _,Nat.le_refl _,by unfold maxLen;omega,rfl,rfl⟩⟩
def strL (ps:List Part):List ByteArray:=ps.map fun p=>stringP p.kind p.text
def patS (p:Pat):ByteArray:=joinS (stringP p.cust.kind p.cust.text :: strL p.parts++(if p.tail then [⟨#[42,42]⟩] else []))
theorem stringP_size (k:Nat) (t:ByteArray):(stringP k t).size≤t.size+1:=by
 unfold stringP;split
 ·omega
 ·rw[ByteArray.size_append];have:(⟨#[42]⟩:ByteArray).size=1:=rfl;omega
theorem patString_any (kd:Nat) (tx:ByteArray) (A:Option Addr) (n c:Nat) (tl:Bool) (ps:List Part) (w:World) (hR:Reads w 2 A n (partCells ps)) (hok:PartsOk ps) (hn:n≤100000) (hkd:kd≤2) (htx:tx.size≤100000) :
  Calls Tryz.prog 175 #[.agg #[.int .i64 kd,.string tx,.slice A n c,.bool tl]] w (Ret w (.string (patS ⟨⟨kd,tx⟩,ps,tl⟩))):=by
 have hpn:ps.length=n:=by have:=hR.1;rw[partCells_length]at this;omega
 obtain⟨i0,hi0,hz0,hz1,hz2⟩:=info_parts infoStr
 have HI:Hid ((Tryz.prog.info? 9=some i0)∧i0.zero=some (.string ⟨#[]⟩)∧i0.size=1∧i0.bytes=16):=Lib.hid ⟨hi0,hz0,hz1,hz2⟩
 have HOK:=Lib.hid hok
 have HR:=Lib.hid hR
 have HPN:=Lib.hid hpn
 have c0:=fun W=>stringP_any kd tx W (by omega) hkd
 have hs0:=stringP_size kd tx
 have hsl:∀ x∈strL ps,x.size≤200000:=by
  intro x hx
  obtain⟨p,hp,rfl⟩:=List.mem_map.1 hx
  have h1:=stringP_size p.kind p.text
  have h2:=(hok p hp).2
  omega
 have HSL:=Lib.hid hsl
 have hv:patS ⟨⟨kd,tx⟩,ps,tl⟩=joinS (stringP kd tx :: strL ps++(if tl then [⟨#[42,42]⟩] else [])):=rfl
 rw[hv]
 generalize stringP kd tx=s0 at *
 generalize hVe:joinS (s0 :: strL ps++(if tl then [⟨#[42,42]⟩] else []))=V
 have HV:=Lib.hid hVe
 have HS0:Hid (s0.size≤200000):=Lib.hid (by omega)
 clear hVe hs0
 have H0:=Lib.hid c0
 clear hi0 hz0 hz1 hz2 hok hR hpn c0 hv hsl
 go_enter Tryz.func175,Tryz.ntmps175
 go_wp2_with (go_at_call 227;refine (H0.out _).mono ?_;rintro e w1 ⟨rfl,hb1⟩;obtain⟨hc1,hf1⟩:=bcell hb1;have hz1_0:w.heap.size<w1.heap.size:=(by have:=hb1.size;(try simp at this);omega))
 have hbp:Below w.heap.size w w1:=blater _ hb1
 have hX:Blk w1 w.heap.size 195 #[.int .i64 kd,.string tx,.slice A n c,.bool tl] (0,0):=(hb1.block w.heap.size (by simp)).trans (World.alloc_heap_new _ _)
 have ho1:=ownsRow_one w1 s0
 have hX2:Blk (w1.alloc (.cells #[.string s0] 9)) w.heap.size 195 #[.int .i64 kd,.string tx,.slice A n c,.bool tl] (0,0):=Blk.keep hX (balloc (Below.refl _ _) _)
 have hb2:Below w.heap.size w (w1.alloc (.cells #[.string s0] 9)):=balloc hbp _
 have hb21:Below w1.heap.size w1 (w1.alloc (.cells #[.string s0] 9)):=balloc (Below.refl _ _) _
 obtain⟨W0,hW0⟩:∃ W0,W0=w1.alloc (.cells #[.string s0] 9):=⟨_,rfl⟩
 have hzz:w.heap.size<w1.heap.size:=by omega
 have hz0:W0.heap.size=w1.heap.size+1:=by rw[hW0];simp
 rw[←hW0]at ho1 hX2 hb2 hb21 ⊢
 clear hW0 hc1 hf1
 go_loopw [3,13] (fun va vi wr=>∃ (k:Nat) (A':Nat) (c':Nat),(va=.slice (some ⟨A',0,none⟩) (k+1) c'∧vi=.int .i64 k∧k≤n)∧wr.ownsRow w1.heap.size 9 1 (.slice (some ⟨A',0,none⟩) (k+1) c') (k+1) ((s0 :: (strL ps).take k).map .string)∧Blk wr w.heap.size 195 #[.int .i64 kd,.string tx,.slice A n c,.bool tl] (0,0)∧Below w1.heap.size w1 wr) (fun _ vi _=>n-(intOf vi).toNat)
 case atStart=>exact⟨0,w1.heap.size,1,⟨rfl,rfl,Nat.zero_le _⟩,by simpa using ho1,hX2,hb21⟩
 case round =>
  clear ho1 hX2 hb2 hb21 hz0 hX
  obtain⟨k,A',c',⟨rfl,rfl,hk⟩,hown,hX,hbr⟩:=hrel
  have x2:wr.cell? ⟨w.heap.size,2,none⟩=some (.slice A n c):=Blk.cell hX 2
  have x3:wr.cell? ⟨w.heap.size,3,none⟩=some (.bool tl):=Blk.cell hX 3
  by_cases hlt:k<n
  ·obtain⟨p,hp⟩:∃ p,ps[k]? = some p:=⟨_,List.getElem?_eq_getElem (by have:=HPN.out;omega)⟩
   obtain⟨hpk,hpt⟩:=HOK.out p (List.mem_of_getElem? hp)
   obtain⟨pb,po,rfl,hcell⟩:=((HR.out.keep hbp).keep hbr).2 (by omega)
   obtain⟨e1,e2⟩:=partCells_at ps k p hp
   have hc1:wr.cell? ⟨pb,po+k*2,none⟩=_:=hcell _ _ e1
   have hc2:wr.cell? ⟨pb,po+k*2+1,none⟩=_:=hcell _ _ e2
   have hwl:(strL ps)[k]? = some (stringP p.kind p.text):=by simp[strL,hp]
   have htk:s0 :: (strL ps).take (k+1)=(s0 :: (strL ps).take k)++[stringP p.kind p.text]:=by rw[List.take_add_one,hwl];rfl
   have HTK:=Lib.hid htk
   have cW:=fun W=>stringP_any p.kind p.text W (by omega) hpk
   clear hp hcell e1 e2 hwl htk
   generalize stringP p.kind p.text=x at *
   obtain⟨pk,pt⟩:=p
   dsimp only at *
   have HW:=Lib.hid cW
   clear cW
   go_wp2_with (first | (go_at_call 227;refine (HW.out _).mono ?_;rintro e w2 ⟨rfl,hb2⟩) | (at_builtin;refine wpList_append_own _ rfl _ _ 24 rfl w1.heap.size 9 i0 (.string ⟨#[]⟩) 1 16 Tryz.underlying24 HI.out.1 HI.out.2.1 HI.out.2.2.1 HI.out.2.2.2 rfl (by decide) _ _ _ rfl ((ownsRow_keep (hown.alloc _) hb2).alloc _) ⟨w2.heap.size,0,none⟩ 1 1 [.string x] rfl rfl (cell_one_new _ _ _) (by simp[Value.oneCell']) (by unfold maxLen;omega) (by omega) (by have:=hb2.size;have:=hbr.size;simp at *;omega) ?_;intro v' w3 hown' hgrow _;obtain⟨g',cap',rfl⟩:=ownsRow_succ hown'))
   have h1:=hbr.size
   have h2:=hb2.size
   simp at h2
   refine⟨⟨k+1,g',cap',⟨rfl,by go_num,by omega⟩,?_,?_,?_⟩,by simp[intOf];omega⟩
   ·rw[HTK.out,List.map_append];exact hown'
   ·refine (hgrow.block w.heap.size (by simp;omega) (fun e=>by have:=ownsRow_block hown _ e.symm;omega)).trans ?_
    exact Blk.keep (Blk.keep hX (blater _ hb2)) (balloc (Below.refl _ _) _)
   ·exact ((hbr.trans (blater _ hb2 |>.mono h1)).alloc (by omega) _).grown hgrow (by simp;omega) (fun r e=>ownsRow_block hown r e)
  ·obtain rfl:k=n:=by omega
   have htk:(strL ps).take k=strL ps:=List.take_of_length_le (by simp[strL];have:=HPN.out;omega)
   rw[htk]at hown
   have hbw:Below w.heap.size w wr:=hbp.trans (hbr.mono (by omega))
   have hs0z:=HS0.out
   have hall:∀ x∈s0 :: strL ps,x.size≤200000:=by
    intro x hx
    rcases List.mem_cons.1 hx with rfl | hx
    ·exact HS0.out
    ·exact HSL.out x hx
   have HALL:=Lib.hid hall
   clear hall htk
   cases tl
   ·have cJ:=join_any A' (k+1) c' _ wr _ hown (by omega) HALL.out
    have hVv:=HV.out
    simp only[Bool.false_eq_true,if_false,List.append_nil]at hVv
    rw[hVv]at cJ
    have HJ:=Lib.hid cJ
    clear cJ hVv
    go_wp2_with (go_at_call 72;refine HJ.out.mono ?_;rintro e w4 ⟨rfl,hb4⟩)
    go_ret
    exact⟨rfl,bstep hbw hb4⟩
   ·have hVv:=HV.out
    simp only[if_true]at hVv
    have HVV:=Lib.hid hVv
    clear hVv
    go_wp2_with (at_builtin;refine wpList_append_own _ rfl _ _ 24 rfl w1.heap.size 9 i0 (.string ⟨#[]⟩) 1 16 Tryz.underlying24 HI.out.1 HI.out.2.1 HI.out.2.2.1 HI.out.2.2.2 rfl (by decide) _ _ _ rfl (hown.alloc _) ⟨wr.heap.size,0,none⟩ 1 1 [.string ⟨#[42,42]⟩] rfl rfl (cell_one_new _ _ _) (by simp[Value.oneCell']) (by unfold maxLen;omega) (by omega) (by have:=hbr.size;simp at *;omega) ?_;intro v' w3 hown' hgrow _;obtain⟨g',cap',rfl⟩:=ownsRow_succ hown')
    have h1:=hbr.size
    have hb3:Below w1.heap.size w1 w3:=(hbr.alloc h1 _).grown hgrow (by simp;omega) (fun r e=>ownsRow_block hown r e)
    have cJ:=join_any g' (k+1+1) cap' ((s0 :: strL ps)++[⟨#[42,42]⟩]) w3 w1.heap.size (by rw[List.map_append];exact hown') (by omega) (by
     intro x hx
     rcases List.mem_append.1 hx with hx | hx
     ·exact HALL.out x hx
     ·rw[List.mem_singleton.1 hx];decide)
    rw[HVV.out]at cJ
    have HJ:=Lib.hid cJ
    clear cJ hgrow hown'
    have hbw3:Below w.heap.size w w3:=hbp.trans (hb3.mono (by omega))
    go_wp2_with (go_at_call 72;refine HJ.out.mono ?_;rintro e w4 ⟨rfl,hb4⟩)
    go_ret
    exact⟨rfl,bstep hbw3 hb4⟩
end Go.Proofs.YtlkbkclnbppigaaGreatDoor
