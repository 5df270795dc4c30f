/- What the specification's Compile and Valid return. -/
import Derived.Test.YticlbkficolocaaGreatDoorIZ19
import Derived.Test.YticlbkficolocaaGreatDoorIZ20
set_option maxHeartbeats 8000000
namespace Go.Proofs.YticlbkficolocaaGreatDoor
open Go.RowKit Go.Sort
set_option linter.unusedVariables false
set_option linter.unusedSimpArgs false
set_option maxRecDepth 100000
def QJ (w:World) (g:Nat) (c:ByteArray) (v:Value) (b:Bool):Prop:=Qv w g 77 #[.string c,v,.bool b] (0,0)
theorem QJ.facts {w:World} {g:Nat} {c:ByteArray} {v:Value} {b:Bool} (h:QJ w g c v b) :
  w.cell? ⟨g,0,none⟩=some (.string c)∧w.cell? ⟨g,1,none⟩=some v∧w.cell? ⟨g,2,none⟩=some (.bool b)∧w.frozen? ⟨g,0,none⟩=false∧w.frozen? ⟨g,1,none⟩=false∧w.frozen? ⟨g,2,none⟩=false :=
 ⟨Qv.cell h 0,Qv.cell h 1,Qv.cell h 2,Qd h 0,Qd h 1,Qd h 2⟩
def RCompPost (r:Option Z7) (w:World) (e:Ending) (w':World):Prop :=
 Below w.heap.size w w'∧match r with
 | none=>e=.returned (.tuple #[.agg #[.string ⟨#[]⟩,.slice none 0 0,.bool false],.bool false])
 | some x=>∃ A c,e=.returned (.tuple #[.agg #[.string (Qr x.cust),.slice A x.parts.length c,.bool x.tail],.bool true])∧Reads w' 1 A x.parts.length ((Zg x.parts).map .string)
theorem strL_snoc (acc:List Part) (w:ByteArray) (h:Kv w=true):Zg (acc++[Q7 w])=Zg acc++[w]:=by
 unfold Zg
 rw[List.map_append,List.map_singleton,str_part h]
theorem strL_len (acc:List Part):(Zg acc).length=acc.length:=by simp[Zg]
theorem Va (s:ByteArray) (w:World) (hs:s.size≤100000):Calls Tryz.prog 34 #[.string s] w (RCompPost (Qx s) w):=by
 have cS:=fun W=>rSplit_any s 47 W (by omega)
 have hsz:=Jm 47 s
 have hnum:=Ku 47 s
 have hne:splitB 47 s ≠ []:=by
  intro h
  have:=congrArg List.length h
  unfold splitB at this
  rw[List.length_map]at this
  exact Yd 47 s.data.toList (List.eq_nil_of_length_eq_zero this)
 unfold Qx
 generalize splitB 47 s=l at *
 obtain⟨l0,r,rfl⟩:=List.exists_cons_of_ne_nil hne
 have hl0:l0.size≤100000:=Nat.le_trans (hsz l0 (by simp)) hs
 have cN:=fun W=>Ue l0 W (by omega)
 obtain⟨m,hm⟩:∃ m,m=r.length:=⟨_,rfl⟩
 have HS:Hid (∀ W,Calls Tryz.prog 72 #[.string s,.int .u8 47] W (fun e w'=>∃ A c,e=.returned (.slice A (m+1) c)∧w'.ownsRow W.heap.size 9 1 (.slice A (m+1) c) (m+1) ((l0 :: r).map .string)∧Below W.heap.size W w')):=Lib.hid (by rw[hm];exact cS)
 have HN:=Lib.hid cN
 have HM:=Lib.hid hm
 have hm9:m≤100001:=by rw[hm];simp at hnum;omega
 have hv:Vq (l0 :: r)=if decide (m≤32)&&Xq l0 then (cmpL r []).map fun x=>⟨Q7 l0,x.1,x.2⟩ else none:=by rw[U5,hm]
 have hn0:(0:Int)<(m:Int)+1:=by omega
 generalize hV:RCompPost (Vq (l0 :: r)) w=V
 have HV:=Lib.hid hV
 have HSZ:Hid (∀ p∈r,p.size≤100000):=Lib.hid (fun p hp=>Nat.le_trans (hsz p (by simp[hp])) hs)
 obtain⟨i0,hi0,hz0,hz1,hz2⟩:=info_parts V3
 have HI:Hid ((Tryz.prog.info? 9=some i0)∧i0.zero=some (.string ⟨#[]⟩)∧i0.size=1∧i0.bytes=16):=Lib.hid ⟨hi0,hz0,hz1,hz2⟩
 clear hne cS cN hm hsz hnum hV hi0 hz0 hz1 hz2
 cases hho:Xq l0
 ·have HNO:Hid (Vq (l0 :: r)=none):=Lib.hid (by rw[hv,hho];simp)
  unfold Xq at hho
  simp only[Bool.or_eq_false_iff]at hho
  obtain⟨h1,h2⟩:=hho
  have h1':¬ l0.toList=[42]:=by simpa using h1
  rw[h2]at HN
  clear h2 hv
  go_enter Tryz.func34,Tryz.ntmps34
  go_wp2_with (first | (go_at_call 72;refine (HS.out _).mono ?_;rintro e w1 ⟨A,c,rfl,hown,hb1⟩;have hX1:QJ w1 w.heap.size ⟨#[]⟩ (.slice none 0 0) false:=Qv.keep (World.alloc_heap_new _ _) hb1;obtain⟨pb,po,u,rfl,hu,g0⟩:=(Reads.of_own hown).at_ (k:=0) (by omega);(obtain rfl:u=.string l0:=(by simpa using hu.symm));clear hu;have gg:w1.cell? ⟨pb,po,none⟩=some (.string l0):=g0;clear g0;have hR1:=Reads.of_own hown;clear hown;obtain⟨x0,x1,x2,f0,f1,f2⟩:=hX1.facts;have hz1:w.heap.size<w1.heap.size:=Qv.lt hX1) | (go_at_call 73;refine (HN.out _).mono ?_;rintro e w2 ⟨rfl,hb2⟩;have hX2:QJ w2 w.heap.size ⟨#[]⟩ (.slice none 0 0) false:=Qv.keep hX1 hb2;have gg2:=Qq hb2 gg;have hR2:=hR1.keep hb2;clear x0 x1 x2 f0 f1 f2;obtain⟨x0,x1,x2,f0,f1,f2⟩:=hX2.facts;have hz2:w.heap.size<w2.heap.size:=Qv.lt hX2))
  rw[←HV.out,HNO.out]
  exact bodyPost_ret (v:=.tuple #[.agg #[.string ⟨#[]⟩,.slice none 0 0,.bool false],.bool false]) (by simp[results,Tryz.results34,go_sem,hz2,x0,x1,x2,f0,f1,f2]) rfl ⟨Qz,rfl⟩
 have hho2:((l0.toList == [42])=true∧l0.toList=[42])∨((l0.toList == [42])=false∧¬ l0.toList=[42]∧Qy l0=true):=by
  have hho':=hho
  unfold Xq at hho'
  cases h:(l0.toList == [42])
  ·right;exact⟨rfl,by simpa using h,by simpa[h] using hho'⟩
  ·left;exact⟨rfl,by simpa using h⟩
 by_cases hbig:m≤32
 rotate_left
 ·have HNO:Hid (Vq (l0 :: r)=none):=Lib.hid (by rw[hv];simp[hbig])
  have hd:decide ((32:Int)<(m:Int))=true:=by simp;omega
  clear hv hho
  rcases hho2 with ⟨h1,h1'⟩ | ⟨h1,h1',h2⟩
  ·go_enter Tryz.func34,Tryz.ntmps34
   go_wp2_with (first | (go_at_call 72;refine (HS.out _).mono ?_;rintro e w1 ⟨A,c,rfl,hown,hb1⟩;have hX1:QJ w1 w.heap.size ⟨#[]⟩ (.slice none 0 0) false:=Qv.keep (World.alloc_heap_new _ _) hb1;obtain⟨pb,po,u,rfl,hu,g0⟩:=(Reads.of_own hown).at_ (k:=0) (by omega);(obtain rfl:u=.string l0:=(by simpa using hu.symm));clear hu;have gg:w1.cell? ⟨pb,po,none⟩=some (.string l0):=g0;clear g0;have hR1:=Reads.of_own hown;clear hown;obtain⟨x0,x1,x2,f0,f1,f2⟩:=hX1.facts;have hz1:w.heap.size<w1.heap.size:=Qv.lt hX1) | (go_at_call 73;refine (HN.out _).mono ?_;rintro e w2 ⟨rfl,hb2⟩;have hX2:QJ w2 w.heap.size ⟨#[]⟩ (.slice none 0 0) false:=Qv.keep hX1 hb2;have gg2:=Qq hb2 gg;have hR2:=hR1.keep hb2;clear x0 x1 x2 f0 f1 f2;obtain⟨x0,x1,x2,f0,f1,f2⟩:=hX2.facts;have hz2:w.heap.size<w2.heap.size:=Qv.lt hX2))
   rw[←HV.out,HNO.out]
   exact bodyPost_ret (v:=.tuple #[.agg #[.string ⟨#[]⟩,.slice none 0 0,.bool false],.bool false]) (by simp[results,Tryz.results34,go_sem,hz1,x0,x1,x2,f0,f1,f2]) rfl ⟨Qz,rfl⟩
  ·rw[h2]at HN
   go_enter Tryz.func34,Tryz.ntmps34
   go_wp2_with (first | (go_at_call 72;refine (HS.out _).mono ?_;rintro e w1 ⟨A,c,rfl,hown,hb1⟩;have hX1:QJ w1 w.heap.size ⟨#[]⟩ (.slice none 0 0) false:=Qv.keep (World.alloc_heap_new _ _) hb1;obtain⟨pb,po,u,rfl,hu,g0⟩:=(Reads.of_own hown).at_ (k:=0) (by omega);(obtain rfl:u=.string l0:=(by simpa using hu.symm));clear hu;have gg:w1.cell? ⟨pb,po,none⟩=some (.string l0):=g0;clear g0;have hR1:=Reads.of_own hown;clear hown;obtain⟨x0,x1,x2,f0,f1,f2⟩:=hX1.facts;have hz1:w.heap.size<w1.heap.size:=Qv.lt hX1) | (go_at_call 73;refine (HN.out _).mono ?_;rintro e w2 ⟨rfl,hb2⟩;have hX2:QJ w2 w.heap.size ⟨#[]⟩ (.slice none 0 0) false:=Qv.keep hX1 hb2;have gg2:=Qq hb2 gg;have hR2:=hR1.keep hb2;clear x0 x1 x2 f0 f1 f2;obtain⟨x0,x1,x2,f0,f1,f2⟩:=hX2.facts;have hz2:w.heap.size<w2.heap.size:=Qv.lt hX2))
   rw[←HV.out,HNO.out]
   exact bodyPost_ret (v:=.tuple #[.agg #[.string ⟨#[]⟩,.slice none 0 0,.bool false],.bool false]) (by simp[results,Tryz.results34,go_sem,hz2,x0,x1,x2,f0,f1,f2]) rfl ⟨Qz,rfl⟩
 have hd:decide ((32:Int)<(m:Int))=false:=by simp;omega
 have hv2:Vq (l0 :: r)=(cmpL r []).map fun x=>⟨Q7 l0,x.1,x.2⟩:=by rw[hv,hho];simp[hbig]
 have hst:Qr (Q7 l0)=l0:=str_head hho
 have HV2:=Lib.hid hv2
 have HST:=Lib.hid hst
 clear hv hho hv2 hst
 rcases hho2 with ⟨h1,h1'⟩ | ⟨h1,h1',h2⟩
 rotate_left
 rw[h2]at HN;clear h2
 rotate_left
 all_goals
  go_enter Tryz.func34,Tryz.ntmps34
  go_wp2_with (first | (go_at_call 72;refine (HS.out _).mono ?_;rintro e w1 ⟨A,c,rfl,hown,hb1⟩;have hX1:QJ w1 w.heap.size ⟨#[]⟩ (.slice none 0 0) false:=Qv.keep (World.alloc_heap_new _ _) hb1;obtain⟨pb,po,u,rfl,hu,g0⟩:=(Reads.of_own hown).at_ (k:=0) (by omega);(obtain rfl:u=.string l0:=(by simpa using hu.symm));clear hu;have gg:w1.cell? ⟨pb,po,none⟩=some (.string l0):=g0;clear g0;have hR1:=Reads.of_own hown;clear hown;obtain⟨x0,x1,x2,f0,f1,f2⟩:=hX1.facts;have hz1:w.heap.size<w1.heap.size:=Qv.lt hX1) | (go_at_call 73;refine (HN.out _).mono ?_;rintro e w2 ⟨rfl,hb2⟩;have hX2:QJ w2 w.heap.size ⟨#[]⟩ (.slice none 0 0) false:=Qv.keep hX1 hb2;have gg2:=Qq hb2 gg;have hR2:=hR1.keep hb2;clear x0 x1 x2 f0 f1 f2;obtain⟨x0,x1,x2,f0,f1,f2⟩:=hX2.facts;have hz2:w.heap.size<w2.heap.size:=Qv.lt hX2))
 rotate_left
 have hX1':=hX2
 have hbA:Below w.heap.size w w2:=Qz
 clear hX1 hR1 gg hb1 hb2
 rotate_left
 obtain⟨w2,rfl⟩:∃ x:World,x=w1:=⟨_,rfl⟩
 have hX1':=hX1
 have hR2:=hR1
 have gg2:=gg
 have hz2:=hz1
 have hbA:Below w.heap.size w w2:=Qz
 clear hX1 hR1 gg hb1
 all_goals
  clear x0 x1 x2 f0 f1 f2
  have HRd:=Lib.hid hR2
  have hpb:pb<w2.heap.size:=cell_lt gg2
  have hB0:QJ (w2.alloc (.cells #[.string l0,.slice none 0 0,.bool false] 77)) w2.heap.size l0 (.slice none 0 0) false:=World.alloc_heap_new _ _
  have hP0:QJ (w2.alloc (.cells #[.string l0,.slice none 0 0,.bool false] 77)) w.heap.size ⟨#[]⟩ (.slice none 0 0) false:=(Below.heap_alloc _ _ _ hz2).trans hX1'
  clear hR2 gg2 hX1'
  go_loopw [6] (fun vi wr=>∃ (k:Nat) (acc:List Part) (A':Option Addr) (c':Nat) (tl:Bool),(vi=.int .i64 ((k:Int)+1)∧k≤m∧acc.length≤k)∧Hid (CmpI r k acc tl)∧QJ wr w2.heap.size l0 (.slice A' acc.length c') tl∧QJ wr w.heap.size ⟨#[]⟩ (.slice none 0 0) false ∧
    wr.ownsRow (w2.heap.size+1) 9 1 (.slice A' acc.length c') acc.length ((Zg acc).map .string)∧Below w.heap.size w wr∧(∀ j,j<w2.heap.size→wr.heap[j]? = w2.heap[j]?)∧w2.heap.size+1≤wr.heap.size) (fun vi _=>m+1-(intOf vi).toNat)
  case atStart=>exact⟨0,[],none,0,false,⟨rfl,Nat.zero_le _,Nat.le_refl _⟩,Lib.hid (.inl ⟨rfl,by simp⟩),hB0,hP0,World.ownsRow_nil _ _ _ _,Qz,fun j hj=>Below.heap_alloc _ _ _ hj,by simp⟩
  case round =>
   clear hB0 hP0
   obtain⟨k,acc,A',c',tl,⟨rfl,hk,hak⟩,HC,hB,hP,hown,hbw,hFr,hzr⟩:=hrel
   obtain⟨x0,x1,x2,f0,f1,f2⟩:=hP.facts
   obtain⟨y0,y1,y2,g0,g1,g2⟩:=hB.facts
   by_cases hlt:k<m
   ·obtain⟨p,hp⟩:∃ p,r[k]? = some p:=⟨_,List.getElem?_eq_getElem (by have:=HM.out;omega)⟩
    have hps:=HSZ.out p (List.mem_of_getElem? hp)
    have hcell:wr.cell? ⟨pb,po+(k+1),none⟩=some (.string p):=by
     obtain⟨b',o',e',hc'⟩:=HRd.out.2 (by omega)
     injection e' with e';injection e' with e1 e2;subst e1;subst e2
     have:=hc' (k+1) (.string p) (by simp[hp])
     exact (World.cell?_of_block (hFr pb hpb)).trans this
    obtain⟨rfl,hcmp⟩:tl=false∧cmpL r []=cmpL (r.drop k) acc:=by
     rcases HC.out with h | ⟨_,h,_⟩
     ·exact h
     ·exfalso;have:=HM.out;omega
    have hd2:r.drop k=p :: r.drop (k+1):=by
     obtain⟨hl2,rfl⟩:=List.getElem?_eq_some_iff.1 hp
     exact List.drop_eq_getElem_cons hl2
    rw[hd2,cmpL]at hcmp
    have hemp:(r.drop (k+1)).isEmpty=decide (k+1=m):=by
     have:=HM.out
     by_cases h:k+1=m
     ·rw[List.drop_eq_nil_of_le (by omega)];simp[h]
     ·simp[h];omega
    rw[hemp]at hcmp
    have hk0:(0:Int)≤(k:Int)+1:=by omega
    have hkm:(k:Int)+1<(m:Int)+1:=by omega
    clear hd2 hemp hp HC HRd
    have cP:=fun W=>rPart_any p W (by omega)
    rw[part_ok]at cP
    cases h2s:(p.toList == [42,42])
    ·simp only[h2s,Bool.false_and,Bool.false_eq_true,if_false]at hcmp
     cases hok:Kv p
     ·have HNO:Hid (cmpL r []=none):=Lib.hid (by rw[hcmp,hok];rfl)
      rw[hok]at cP
      have HP:=Lib.hid cP
      clear hcmp cP hok
      go_wp2_with (go_at_call 74;refine (HP.out _).mono ?_;rintro e w4 ⟨rfl,hb4⟩;have hP4:QJ w4 w.heap.size ⟨#[]⟩ (.slice none 0 0) false:=Qv.keep hP hb4;have hB4:QJ w4 w2.heap.size l0 (.slice A' acc.length c') false:=Qv.keep hB hb4;have hown4:=Ql hown hb4;have hbw4:=Qj hbw hb4;have hFr4:∀ j,j<w2.heap.size→w4.heap[j]? = w2.heap[j]?:=(fun j q1=>(hb4.block j (by omega)).trans (hFr j q1));have hzr4:w2.heap.size+1≤w4.heap.size:=Nat.le_trans hzr hb4.size;have hcell4:=Qq hb4 hcell;clear x0 x1 x2 f0 f1 f2 y0 y1 y2 g0 g1 g2;obtain⟨x0,x1,x2,f0,f1,f2⟩:=hP4.facts;obtain⟨y0,y1,y2,g0,g1,g2⟩:=hB4.facts)
      rw[←HV.out,HV2.out,HNO.out]
      exact bodyPost_ret (v:=.tuple #[.agg #[.string ⟨#[]⟩,.slice none 0 0,.bool false],.bool false]) (by simp[results,Tryz.results34,go_sem,hz2,x0,x1,x2,f0,f1,f2]) rfl ⟨Qz,rfl⟩
     ·have HSO:Hid (cmpL r []=cmpL (r.drop (k+1)) (acc++[Q7 p])):=Lib.hid (by rw[hcmp,hok];rfl)
      have HSL:=Lib.hid (strL_snoc acc p hok)
      rw[hok]at cP
      have HP:=Lib.hid cP
      clear hcmp cP hok
      go_wp2_with (go_at_call 74;refine (HP.out _).mono ?_;rintro e w4 ⟨rfl,hb4⟩;have hP4:QJ w4 w.heap.size ⟨#[]⟩ (.slice none 0 0) false:=Qv.keep hP hb4;have hB4:QJ w4 w2.heap.size l0 (.slice A' acc.length c') false:=Qv.keep hB hb4;have hown4:=Ql hown hb4;have hbw4:=Qj hbw hb4;have hFr4:∀ j,j<w2.heap.size→w4.heap[j]? = w2.heap[j]?:=(fun j q1=>(hb4.block j (by omega)).trans (hFr j q1));have hzr4:w2.heap.size+1≤w4.heap.size:=Nat.le_trans hzr hb4.size;have hcell4:=Qq hb4 hcell;clear x0 x1 x2 f0 f1 f2 y0 y1 y2 g0 g1 g2;obtain⟨x0,x1,x2,f0,f1,f2⟩:=hP4.facts;obtain⟨y0,y1,y2,g0,g1,g2⟩:=hB4.facts)
      have hown4d:w4.drew.ownsRow (w2.heap.size+1) 9 1 (.slice A' acc.length c') acc.length ((Zg acc).map .string):=hown4
      have y1d:w4.drew.cell? ⟨w2.heap.size,1,none⟩=some (.slice A' acc.length c'):=y1
      have hcd:w4.drew.cell? ⟨pb,po+(k+1),none⟩=some (.string p):=hcell4
      have hzz:w2.heap.size<w4.heap.size:=by omega
      have hzp:pb<w4.heap.size:=by omega
      have y1e:(w4.alloc (.cells #[.string p] 9)).cell? ⟨w2.heap.size,1,none⟩=some (.slice A' acc.length c'):=(World.cell?_of_block (Below.heap_alloc w4 _ _ hzz)).trans y1
      go_region_law ((refine step_append_lies _ (by rfl) _ _ _ (by rfl) (w2.heap.size+1) 9 i0 (.string ⟨#[]⟩) 1 16 Tryz.underlying22 HI.out.1 HI.out.2.1 HI.out.2.2.1 HI.out.2.2.2 (by rfl) (by omega) (.slice A' acc.length c') acc.length ((Zg acc).map .string) (by rfl) (hown4d.alloc _) ⟨w4.heap.size,0,none⟩ 1 1 [.string p] (by rfl) (by rfl) (World.news_of_block (cs:=#[.string p]) (t:=9) (fr:=(0,0)) (World.alloc_heap_new w4.drew _)) (by simp[Value.oneCell']) (by omega) (by unfold maxLen;omega) (by omega) (by simp;omega) (w4.heap.size+1) (by simp) ?_;intro gg cap w7 hown7 hgrow hat hlt7;have hB7:QJ w7 w2.heap.size l0 (.slice A' acc.length c') false:=(hgrow.block w2.heap.size (by simp;omega) (fun e=>by have:=Qu hown4 _ e.symm;omega)).trans ((Below.heap_alloc w4.drew _ w2.heap.size (show w2.heap.size<w4.heap.size by omega)).trans hB4);clear y0 y1 y2 g0 g1 g2;obtain⟨y0,y1,y2,g0,g1,g2⟩:=hB7.facts))
      all_goals go_wp2
      all_goals
       have hal:(acc++[Q7 p]).length=acc.length+1:=by simp
       have hb7:Below w.heap.size w w7:=((Below.drew hbw4).alloc hbw4.size _).grown hgrow (by have:=hbw4.size;simp;omega) (fun r e=>by have:=Qu hown4 r e;omega)
       have hP7:QJ w7 w.heap.size ⟨#[]⟩ (.slice none 0 0) false:=(hgrow.block w.heap.size (by simp;omega) (fun e=>by have:=Qu hown4 _ e.symm;omega)).trans ((Below.heap_alloc w4.drew _ _ (show w.heap.size<w4.heap.size by omega)).trans hP4)
       refine⟨⟨k+1,acc++[Q7 p],some ⟨gg,0,none⟩,cap,false,⟨by go_num,by omega,by simp;omega⟩,Lib.hid (.inl ⟨rfl,HSO.out⟩),by rw[hal];exact Qv.set_ hB7 1 _,(Below.heap_setCell _ _ _ _ (by simp;omega)).trans hP7,by rw[hal,HSL.out,List.map_append];exact Xv hown7 (fun j hj=>Below.heap_setCell _ _ _ _ (by simp;omega)),hb7.setCell (p:=⟨w2.heap.size,1,none⟩) (by simp;omega) _,fun j q1=>(Below.heap_setCell _ _ _ _ (by simp;omega)).trans ((hgrow.block j (by simp;omega) (fun e=>by have:=Qu hown4 _ e.symm;omega)).trans ((Below.heap_alloc w4.drew _ j (show j<w4.heap.size by omega)).trans (hFr4 j q1))),by have:=hgrow.size;simp[World.setCell]at this ⊢;omega⟩,by simp[intOf];omega⟩
    ·obtain rfl:p=⟨#[42,42]⟩:=Qm (by rw[←Lib.toList_data];simpa using h2s)
     by_cases hlast:k+1=m
     ·obtain rfl:m=k+1:=hlast.symm
      have hlb:((k:Int)+1==((k+1:Nat):Int))=true:=by simp
      rw[h2s,show decide (k+1=k+1)=true by simp]at hcmp
      simp only[Bool.and_self,if_true]at hcmp
      have HH:=Lib.hid hcmp
      clear hcmp cP
      go_wp2
      exact⟨⟨k+1,acc,A',c',true,⟨by go_num,by omega,by omega⟩,Lib.hid (.inr ⟨rfl,HM.out,HH.out⟩),Qv.set_ hB 2 (.bool true),(Below.heap_setCell _ _ _ _ (by first | (simp;done) | (simp;omega))).trans hP,Xv hown (fun j hj=>Below.heap_setCell _ _ _ _ (by first | (simp;done) | (simp;omega))),hbw.setCell (p:=⟨w2.heap.size,2,none⟩) (by first | (simp;done) | (simp;omega)) _,
       fun j q1=>(Below.heap_setCell _ _ _ _ (by first | (simp;done) | (simp;omega))).trans (hFr j q1),by first | (simp[World.setCell];done) | (simp[World.setCell];omega)⟩,by simp[intOf];omega⟩
     ·have hlb:((k:Int)+1==(m:Int))=false:=by simp;omega
      have HNO:Hid (cmpL r []=none):=Lib.hid (by rw[hcmp,show decide (k+1=m)=false by simpa using hlast,Ud];simp)
      rw[Ud]at cP
      have HP:=Lib.hid cP
      clear hcmp cP
      go_wp2_with (go_at_call 74;refine (HP.out _).mono ?_;rintro e w4 ⟨rfl,hb4⟩;have hP4:QJ w4 w.heap.size ⟨#[]⟩ (.slice none 0 0) false:=Qv.keep hP hb4;have hB4:QJ w4 w2.heap.size l0 (.slice A' acc.length c') false:=Qv.keep hB hb4;have hown4:=Ql hown hb4;have hbw4:=Qj hbw hb4;have hFr4:∀ j,j<w2.heap.size→w4.heap[j]? = w2.heap[j]?:=(fun j q1=>(hb4.block j (by omega)).trans (hFr j q1));have hzr4:w2.heap.size+1≤w4.heap.size:=Nat.le_trans hzr hb4.size;have hcell4:=Qq hb4 hcell;clear x0 x1 x2 f0 f1 f2 y0 y1 y2 g0 g1 g2;obtain⟨x0,x1,x2,f0,f1,f2⟩:=hP4.facts;obtain⟨y0,y1,y2,g0,g1,g2⟩:=hB4.facts)
      rw[←HV.out,HV2.out,HNO.out]
      exact bodyPost_ret (v:=.tuple #[.agg #[.string ⟨#[]⟩,.slice none 0 0,.bool false],.bool false]) (by simp[results,Tryz.results34,go_sem,hz2,x0,x1,x2,f0,f1,f2]) rfl ⟨Qz,rfl⟩
   ·obtain rfl:k=m:=by omega
    have HE:Hid (cmpL r []=some (acc,tl)):=Lib.hid (by
     rcases HC.out with ⟨h,e⟩ | ⟨h,_,e⟩
     ·rw[e,h,HM.out,List.drop_eq_nil_of_le (Nat.le_refl _),cmpL]
     ·rw[e,h])
    have hob:∀ a,A'=some a→a.block≠w.heap.size:=fun a ha=>by have:=Qu hown a.block (by rw[ha];rfl);omega
    have hRr:=Reads.of_own hown
    clear HC
    go_wp2
    rw[←HV.out,HV2.out,HE.out]
    exact bodyPost_ret (v:=.tuple #[.agg #[.string l0,.slice A' acc.length c',.bool tl],.bool true]) (by simp[results,Tryz.results34,go_sem,hz2,x0,x1,x2,f0,f1,f2]) rfl ⟨Qz,A',c',by rw[HST.out],(((hRr.set_ _ _ hob).set_ _ _ hob).set_ _ _ hob)⟩
def PairBox (w:World) (g:Nat) (k v:ByteArray):Prop:=Qv w g 192 #[.string k,.string v] (0,0)
theorem PairBox.facts {w:World} {g:Nat} {k v:ByteArray} (h:PairBox w g k v):w.cell? ⟨g,0,none⟩=some (.string k)∧w.cell? ⟨g,1,none⟩=some (.string v):=⟨Qv.cell h 0,Qv.cell h 1⟩
theorem J5.none_ {w w':World} (hb:Below w.heap.size w w'):J5 none w (.returned (.tuple #[.slice none 0 0,.bool false])) w':=⟨hb,rfl⟩
theorem RPathPost.some_ {rr:Option (List ByteArray)} {X w':World} {e:Ending} (h:RPathPost rr X e w'):Below X.heap.size X w'∧∃ A c,e=.returned (.tuple #[.slice A (rr.getD []).length c,.bool rr.isSome])∧Reads w' 1 A (rr.getD []).length ((rr.getD []).map .string)∧(∀ a,A=some a→X.heap.size≤a.block):=by
 obtain⟨hb,h⟩:=h
 cases rr with
 | none=>exact⟨hb,none,0,h,Reads.nil_ _ _ _,fun a ha=>(by cases ha)⟩
 | some p=>exact⟨hb,h⟩
theorem RCompPost.any_ {r:Option Z7} {w w':World} {e:Ending} (h:RCompPost r w e w'):Below w.heap.size w w'∧∃ (c:ByteArray) (A:Option Addr) (n k:Nat) (t:Bool),e=.returned (.tuple #[.agg #[.string c,.slice A n k,.bool t],.bool r.isSome]):=by
 obtain⟨hb,h⟩:=h
 cases r with
 | none=>exact⟨hb,_,none,0,0,_,h⟩
 | some x=>obtain⟨A,c,h,_⟩:=h;exact⟨hb,_,A,_,c,_,h⟩
theorem rValid_any (s:ByteArray) (w:World) (hs:s.size≤100000):Calls Tryz.prog 133 #[.string s] w (Zx w (.bool (Qx s).isSome)):=by
 have cC:=fun W=>(Va s W hs).mono (fun e w' h=>h.any_)
 generalize (Qx s).isSome=b at *
 have HC:=Lib.hid cC
 clear cC
 go_enter Tryz.func133,Tryz.ntmps133
 go_wp2_with (go_at_call 34;refine (HC.out _).mono ?_;rintro e w1 ⟨hb1,c,A,n,k,t,rfl⟩)
 go_ret
 exact⟨rfl,Qz⟩
theorem strL_at (ps:List Part) (k:Nat) (p:Part) (h:ps[k]? = some p):(Zg ps)[k]? = some (Qr p):=by
 unfold Zg
 rw[List.getElem?_map,h];rfl
structure Wh (c:ZV):Prop where
 p:c.pat.size≤100000
 cl:∀ x∈c.cl,x.size≤100000
 co:∀ x∈c.co,x.size≤100000
 n1:c.cl.length≤1000000
 n2:c.co.length≤1000000
 n3:c.si.length≤1000000
structure AskFits (a:Kr):Prop where
 p:a.addr.size≤100000
 cl:a.client.size≤100000
 co:a.country.size≤100000
def Xa (w:World) (g:Nat) (ad cl co:ByteArray) (si lo hi:Int):Prop:=Qv w g 36 #[.string ad,.string cl,.string co,.int .i64 si,.int .i64 lo,.int .i64 hi] (0,0)
theorem Xa.facts {w:World} {g:Nat} {ad cl co:ByteArray} {si lo hi:Int} (h:Xa w g ad cl co si lo hi) :
  w.cell? ⟨g,0,none⟩=some (.string ad)∧w.cell? ⟨g,1,none⟩=some (.string cl)∧w.cell? ⟨g,2,none⟩=some (.string co)∧w.cell? ⟨g,3,none⟩=some (.int .i64 si)∧w.cell? ⟨g,4,none⟩=some (.int .i64 lo)∧w.cell? ⟨g,5,none⟩=some (.int .i64 hi) :=
 ⟨Qv.cell h 0,Qv.cell h 1,Qv.cell h 2,Qv.cell h 3,Qv.cell h 4,Qv.cell h 5⟩
theorem Xe (w:World) (o1 o2:Obj):((w.alloc o1).alloc o2).heap[w.heap.size]? = some o1∧((w.alloc o1).alloc o2).heap[w.heap.size+1]? = some o2:=by
 refine⟨(Below.heap_alloc _ _ _ (by simp)).trans (World.alloc_heap_new _ _),?_⟩
 have:=World.alloc_heap_new (w.alloc o1) o2
 rwa [World.size_alloc]at this
theorem holds_any (c:ZV) (m:Zy) (a:Kr) (w:World) (hR:Xm w c m) (hc:Wh c) (ha:AskFits a) (hE:Env w) :
  Calls Tryz.prog 48 #[Zy.val c m,Kr.val a] w (Zx w (.bool (Yj c a))):=by
 have c1:=fun W (hb:Below w.heap.size w W)=>Yv c m W (hR.keep hb) hc.p hc.cl hc.co hc.n1 hc.n2 hc.n3 (hE.keep hb)
 have c2:=fun W h=>validAsk_any a W ha.p ha.cl ha.co h
 obtain⟨V,hV⟩:∃ V,V=Yj c a:=⟨_,rfl⟩
 rw[←hV]
 unfold Yj at hV
 generalize Xj c=v1 at *
 generalize Jg a=v2 at *
 obtain⟨fr,till,pat,cl,co,si,us⟩:=c
 obtain⟨A,ca,B,cb,S,cs⟩:=m
 obtain⟨ad,kl,ko,st,lo,hi⟩:=a
 obtain⟨hA,hB,hS⟩:=hR
 obtain⟨h1,h2,h3,n1,n2,n3⟩:=hc
 obtain⟨g1,g2,g3⟩:=ha
 unfold Zy.val at c1
 unfold Kr.val at c2
 unfold Zy.val Kr.val
 dsimp only at hA hB hS h1 h2 h3 n1 n2 n3 g1 g2 g3 hV c1 c2
 dsimp only
 have c3:=fun W=>condPattern_any fr till us pat A B S cl.length ca co.length cb si.length cs W
 have hpt:(if pat.size=0 then (⟨#[42,47,42,42]⟩:ByteArray) else pat)=VV pat:=rfl
 rw[hpt]at c3
 have hps:(VV pat).size≤100000:=by unfold VV;split;exact (by decide);exact h1
 have c4:=fun W h=>match_any (VV pat) ad W hps g1 h
 have c5:=fun W (hb:Below w.heap.size w W)=>allowsS_any A cl.length ca cl kl W (hA.keep hb) (by omega)
 have c6:=fun W (hb:Below w.heap.size w W)=>allowsS_any B co.length cb co ko W (hB.keep hb) (by omega)
 have c7:=fun W (hb:Below w.heap.size w W)=>allowsI_any S si.length cs si st W (hS.keep hb) (by omega)
 generalize VV pat=pt at *
 generalize Zk pt ad=v4 at *
 generalize Xg cl kl=v5 at *
 generalize Xg co ko=v6 at *
 generalize Xg si st=v7 at *
 obtain⟨W0,hW0⟩:∃ W0,W0=(w.alloc (.cells #[.int .i64 fr,.int .i64 till,.string pat,.slice A cl.length ca,.slice B co.length cb,.slice S si.length cs,.int .i64 us] 55)).alloc (.cells #[.string ad,.string kl,.string ko,.int .i64 st,.int .i64 lo,.int .i64 hi] 36):=⟨_,rfl⟩
 have hb0:Below w.heap.size w W0:=by rw[hW0];exact Qk (Qk (Below.refl _ _) _) _
 have hX:Zi W0 w.heap.size fr till pat A cl.length ca B co.length cb S si.length cs us:=by rw[hW0];exact (Xe _ _ _).1
 have hY:Xa W0 (w.heap.size+1) ad kl ko st lo hi:=by rw[hW0];exact (Xe _ _ _).2
 obtain⟨x0,x1,x2,x3,x4,x5,x6⟩:=hX.facts
 obtain⟨y0,y1,y2,y3,y4,y5⟩:=hY.facts
 have r0:=cell_regrown x0;have r1:=cell_regrown x1;have r2:=cell_regrown x2;have r3:=cell_regrown x3;have r4:=cell_regrown x4;have r5:=cell_regrown x5;have r6:=cell_regrown x6
 have q0:=cell_regrown y0;have q1:=cell_regrown y1;have q2:=cell_regrown y2;have q3:=cell_regrown y3;have q4:=cell_regrown y4;have q5:=cell_regrown y5
 replace c1:=fun W (hb:Below W0.heap.size W0 W)=>c1 W (Qj hb0 hb)
 replace c2:=fun W (hb:Below W0.heap.size W0 W)=>c2 W (hE.keep (Qj hb0 hb))
 replace c3:=fun W (_:Below W0.heap.size W0 W)=>c3 W
 replace c4:=fun W (hb:Below W0.heap.size W0 W)=>c4 W (hE.keep (Qj hb0 hb))
 replace c5:=fun W (hb:Below W0.heap.size W0 W)=>c5 W (Qj hb0 hb)
 replace c6:=fun W (hb:Below W0.heap.size W0 W)=>c6 W (Qj hb0 hb)
 replace c7:=fun W (hb:Below W0.heap.size W0 W)=>c7 W (Qj hb0 hb)
 have HW:=Lib.hid hW0;have HB0:=Lib.hid hb0
 clear hW0 hb0 hX hY
 have C1:=Lib.hid c1;have C2:=Lib.hid c2;have C3:=Lib.hid c3;have C4:=Lib.hid c4;have C5:=Lib.hid c5;have C6:=Lib.hid c6;have C7:=Lib.hid c7
 clear c1 c2 c3 c4 c5 c6 c7 hE hA hB hS h1 h2 h3 n1 n2 n3 g1 g2 g3 hps hpt
 cases v1
 ·obtain rfl:V=false:=by rw[hV];simp
  clear hV
  (go_enter Tryz.func48,Tryz.ntmps48;go_wp2_with fail;rw[←HW.out];refine wp_region_quiet_below (by kernel_rfl) (by kernel_rfl) ?_;(repeat (any_goals (first | go_big_quiet_step ((first | (with_reducible exact Qb C1.out _ _) | (with_reducible exact Qb C2.out _ _) | (with_reducible exact Qb C3.out _ _) | (with_reducible exact Qb C4.out _ _) | (with_reducible exact Qb C5.out _ _) | (with_reducible exact Qb C6.out _ _) | (with_reducible exact Qb C7.out _ _))) | quiet_step ((first | (with_reducible exact Qb C1.out _ _) | (with_reducible exact Qb C2.out _ _) | (with_reducible exact Qb C3.out _ _) | (with_reducible exact Qb C4.out _ _) | (with_reducible exact Qb C5.out _ _) | (with_reducible exact Qb C6.out _ _) | (with_reducible exact Qb C7.out _ _))))));refine wpQuiet_nil ?_;intro _ hwq;obtain⟨⟨dq,osq⟩,hwq⟩:=hwq;subst hwq;have hbq:=below_regrown (W0) dq osq;generalize grow (redrawn (W0) dq) osq=wq at *;go_wp2;go_ret;exact⟨rfl,Qj HB0.out hbq⟩)
 cases v2
 ·obtain rfl:V=false:=by rw[hV];simp
  clear hV
  (go_enter Tryz.func48,Tryz.ntmps48;go_wp2_with fail;rw[←HW.out];refine wp_region_quiet_below (by kernel_rfl) (by kernel_rfl) ?_;(repeat (any_goals (first | go_big_quiet_step ((first | (with_reducible exact Qb C1.out _ _) | (with_reducible exact Qb C2.out _ _) | (with_reducible exact Qb C3.out _ _) | (with_reducible exact Qb C4.out _ _) | (with_reducible exact Qb C5.out _ _) | (with_reducible exact Qb C6.out _ _) | (with_reducible exact Qb C7.out _ _))) | quiet_step ((first | (with_reducible exact Qb C1.out _ _) | (with_reducible exact Qb C2.out _ _) | (with_reducible exact Qb C3.out _ _) | (with_reducible exact Qb C4.out _ _) | (with_reducible exact Qb C5.out _ _) | (with_reducible exact Qb C6.out _ _) | (with_reducible exact Qb C7.out _ _))))));refine wpQuiet_nil ?_;intro _ hwq;obtain⟨⟨dq,osq⟩,hwq⟩:=hwq;subst hwq;have hbq:=below_regrown (W0) dq osq;generalize grow (redrawn (W0) dq) osq=wq at *;go_wp2;go_ret;exact⟨rfl,Qj HB0.out hbq⟩)
 by_cases t1:fr≤lo
 rotate_left
 ·obtain rfl:V=false:=by rw[hV];simp[t1]
  have d1:decide (fr≤lo)=false:=decide_eq_false t1
  clear hV
  (go_enter Tryz.func48,Tryz.ntmps48;go_wp2_with fail;rw[←HW.out];refine wp_region_quiet_below (by kernel_rfl) (by kernel_rfl) ?_;(repeat (any_goals (first | go_big_quiet_step ((first | (with_reducible exact Qb C1.out _ _) | (with_reducible exact Qb C2.out _ _) | (with_reducible exact Qb C3.out _ _) | (with_reducible exact Qb C4.out _ _) | (with_reducible exact Qb C5.out _ _) | (with_reducible exact Qb C6.out _ _) | (with_reducible exact Qb C7.out _ _))) | quiet_step ((first | (with_reducible exact Qb C1.out _ _) | (with_reducible exact Qb C2.out _ _) | (with_reducible exact Qb C3.out _ _) | (with_reducible exact Qb C4.out _ _) | (with_reducible exact Qb C5.out _ _) | (with_reducible exact Qb C6.out _ _) | (with_reducible exact Qb C7.out _ _))))));refine wpQuiet_nil ?_;intro _ hwq;obtain⟨⟨dq,osq⟩,hwq⟩:=hwq;subst hwq;have hbq:=below_regrown (W0) dq osq;generalize grow (redrawn (W0) dq) osq=wq at *;go_wp2;go_ret;exact⟨rfl,Qj HB0.out hbq⟩)
 have d1:decide (fr≤lo)=true:=decide_eq_true t1
 by_cases t2:hi<till
 rotate_left
 ·obtain rfl:V=false:=by rw[hV];simp[t2]
  have d2:decide (hi<till)=false:=decide_eq_false t2
  clear hV
  (go_enter Tryz.func48,Tryz.ntmps48;go_wp2_with fail;rw[←HW.out];refine wp_region_quiet_below (by kernel_rfl) (by kernel_rfl) ?_;(repeat (any_goals (first | go_big_quiet_step ((first | (with_reducible exact Qb C1.out _ _) | (with_reducible exact Qb C2.out _ _) | (with_reducible exact Qb C3.out _ _) | (with_reducible exact Qb C4.out _ _) | (with_reducible exact Qb C5.out _ _) | (with_reducible exact Qb C6.out _ _) | (with_reducible exact Qb C7.out _ _))) | quiet_step ((first | (with_reducible exact Qb C1.out _ _) | (with_reducible exact Qb C2.out _ _) | (with_reducible exact Qb C3.out _ _) | (with_reducible exact Qb C4.out _ _) | (with_reducible exact Qb C5.out _ _) | (with_reducible exact Qb C6.out _ _) | (with_reducible exact Qb C7.out _ _))))));refine wpQuiet_nil ?_;intro _ hwq;obtain⟨⟨dq,osq⟩,hwq⟩:=hwq;subst hwq;have hbq:=below_regrown (W0) dq osq;generalize grow (redrawn (W0) dq) osq=wq at *;go_wp2;go_ret;exact⟨rfl,Qj HB0.out hbq⟩)
 have d2:decide (hi<till)=true:=decide_eq_true t2
 have hV2:V=(v4&&v5&&v6&&v7):=by rw[hV];simp[t1,t2]
 clear hV
 cases v4
 ·obtain rfl:V=false:=by rw[hV2];simp
  clear hV2
  (go_enter Tryz.func48,Tryz.ntmps48;go_wp2_with fail;rw[←HW.out];refine wp_region_quiet_below (by kernel_rfl) (by kernel_rfl) ?_;(repeat (any_goals (first | go_big_quiet_step ((first | (with_reducible exact Qb C1.out _ _) | (with_reducible exact Qb C2.out _ _) | (with_reducible exact Qb C3.out _ _) | (with_reducible exact Qb C4.out _ _) | (with_reducible exact Qb C5.out _ _) | (with_reducible exact Qb C6.out _ _) | (with_reducible exact Qb C7.out _ _))) | quiet_step ((first | (with_reducible exact Qb C1.out _ _) | (with_reducible exact Qb C2.out _ _) | (with_reducible exact Qb C3.out _ _) | (with_reducible exact Qb C4.out _ _) | (with_reducible exact Qb C5.out _ _) | (with_reducible exact Qb C6.out _ _) | (with_reducible exact Qb C7.out _ _))))));refine wpQuiet_nil ?_;intro _ hwq;obtain⟨⟨dq,osq⟩,hwq⟩:=hwq;subst hwq;have hbq:=below_regrown (W0) dq osq;generalize grow (redrawn (W0) dq) osq=wq at *;go_wp2;go_ret;exact⟨rfl,Qj HB0.out hbq⟩)
 cases v5
 ·obtain rfl:V=false:=by rw[hV2];simp
  clear hV2
  (go_enter Tryz.func48,Tryz.ntmps48;go_wp2_with fail;rw[←HW.out];refine wp_region_quiet_below (by kernel_rfl) (by kernel_rfl) ?_;(repeat (any_goals (first | go_big_quiet_step ((first | (with_reducible exact Qb C1.out _ _) | (with_reducible exact Qb C2.out _ _) | (with_reducible exact Qb C3.out _ _) | (with_reducible exact Qb C4.out _ _) | (with_reducible exact Qb C5.out _ _) | (with_reducible exact Qb C6.out _ _) | (with_reducible exact Qb C7.out _ _))) | quiet_step ((first | (with_reducible exact Qb C1.out _ _) | (with_reducible exact Qb C2.out _ _) | (with_reducible exact Qb C3.out _ _) | (with_reducible exact Qb C4.out _ _) | (with_reducible exact Qb C5.out _ _) | (with_reducible exact Qb C6.out _ _) | (with_reducible exact Qb C7.out _ _))))));refine wpQuiet_nil ?_;intro _ hwq;obtain⟨⟨dq,osq⟩,hwq⟩:=hwq;subst hwq;have hbq:=below_regrown (W0) dq osq;generalize grow (redrawn (W0) dq) osq=wq at *;go_wp2;go_ret;exact⟨rfl,Qj HB0.out hbq⟩)
 cases v6
 ·obtain rfl:V=false:=by rw[hV2];simp
  clear hV2
  (go_enter Tryz.func48,Tryz.ntmps48;go_wp2_with fail;rw[←HW.out];refine wp_region_quiet_below (by kernel_rfl) (by kernel_rfl) ?_;(repeat (any_goals (first | go_big_quiet_step ((first | (with_reducible exact Qb C1.out _ _) | (with_reducible exact Qb C2.out _ _) | (with_reducible exact Qb C3.out _ _) | (with_reducible exact Qb C4.out _ _) | (with_reducible exact Qb C5.out _ _) | (with_reducible exact Qb C6.out _ _) | (with_reducible exact Qb C7.out _ _))) | quiet_step ((first | (with_reducible exact Qb C1.out _ _) | (with_reducible exact Qb C2.out _ _) | (with_reducible exact Qb C3.out _ _) | (with_reducible exact Qb C4.out _ _) | (with_reducible exact Qb C5.out _ _) | (with_reducible exact Qb C6.out _ _) | (with_reducible exact Qb C7.out _ _))))));refine wpQuiet_nil ?_;intro _ hwq;obtain⟨⟨dq,osq⟩,hwq⟩:=hwq;subst hwq;have hbq:=below_regrown (W0) dq osq;generalize grow (redrawn (W0) dq) osq=wq at *;go_wp2;go_ret;exact⟨rfl,Qj HB0.out hbq⟩)
 obtain rfl:V=v7:=by rw[hV2];simp
 clear hV2
 (go_enter Tryz.func48,Tryz.ntmps48;go_wp2_with fail;rw[←HW.out];refine wp_region_quiet_below (by kernel_rfl) (by kernel_rfl) ?_;(repeat (any_goals (first | go_big_quiet_step ((first | (with_reducible exact Qb C1.out _ _) | (with_reducible exact Qb C2.out _ _) | (with_reducible exact Qb C3.out _ _) | (with_reducible exact Qb C4.out _ _) | (with_reducible exact Qb C5.out _ _) | (with_reducible exact Qb C6.out _ _) | (with_reducible exact Qb C7.out _ _))) | quiet_step ((first | (with_reducible exact Qb C1.out _ _) | (with_reducible exact Qb C2.out _ _) | (with_reducible exact Qb C3.out _ _) | (with_reducible exact Qb C4.out _ _) | (with_reducible exact Qb C5.out _ _) | (with_reducible exact Qb C6.out _ _) | (with_reducible exact Qb C7.out _ _))))));refine wpQuiet_nil ?_;intro _ hwq;obtain⟨⟨dq,osq⟩,hwq⟩:=hwq;subst hwq;have hbq:=below_regrown (W0) dq osq;generalize grow (redrawn (W0) dq) osq=wq at *;go_wp2;go_ret;exact⟨rfl,Qj HB0.out hbq⟩)
end Go.Proofs.YticlbkficolocaaGreatDoor
