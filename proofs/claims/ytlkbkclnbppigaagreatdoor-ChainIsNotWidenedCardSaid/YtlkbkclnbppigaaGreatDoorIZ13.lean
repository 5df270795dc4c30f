/- What 'compile' returns: the pattern of a string. -/
import Derived.Test.YtlkbkclnbppigaaGreatDoorIZ12
import Derived.Deep.RegionHeldLaw
set_option maxHeartbeats 4000000
namespace Go.Proofs.YtlkbkclnbppigaaGreatDoor
open Tryz
open Go.RowKit Go.Sort
set_option linter.unusedVariables false
set_option linter.unusedSimpArgs false
set_option maxRecDepth 100000
structure Pat where
 cust:bI
 parts:List bI
 tail:Bool
def eG(ps:List bI):List Value:=ps.flatMap fun p=>[.int .i64 p.kind,.string p.text]
def kP(w:aC):Bool:=w.toList == [42]||bW w||(decide (w.size<=34)&&Lib.hasPrefix w.data.toList [42,46]&&bW (w.extract 2 w.size))
def dK:List aC->List bI->Option (List bI × Bool)
 | [],acc=>some (acc,false)
 | w :: r,acc=>if w.toList == [42,42]&&r.isEmpty then some (acc,true) else if kP w then dK r (acc++[dG w]) else none
def iT(l0:aC):Bool:=l0.toList == [42]||bU l0
def rV:List aC->Option Pat
 | []=>none
 | l0 :: r=>if r.length<=32&&iT l0 then (dK r []).map fun x=>⟨dG l0,x.1,x.2⟩ else none
def dI(s:aC):Option Pat:=rV (splitB 47 s)
def lH(r:Option Pat)(w:World)(e:Ending)(w':World):Prop :=
 aF w w'/\match r with
 | none=>∃(k:Nat)(t:aC)(A:Option Addr)(n c:Nat)(b:Bool),e=.returned (.tuple #[.agg #[.int .i64 k,.string t,.slice A n c,.bool b],.bool false])
 | some p=>∃ A c,e=.returned (.tuple #[.agg #[.int .i64 p.cust.kind,.string p.cust.text,.slice A p.parts.length c,.bool p.tail],.bool true])/\aI w' 2 A p.parts.length (eG p.parts)/\∀ a,A=some a->w.heap.size<=a.block
theorem lH.none_{w w':World}(k:Nat)(t:aC)(A:Option Addr)(n c:Nat)(b:Bool)(hb:aF w w'):lH none w (.returned (.tuple #[.agg #[.int .i64 k,.string t,.slice A n c,.bool b],.bool false])) w':=⟨hb,k,t,A,n,c,b,rfl⟩
theorem Blk.free0{w:World}{g:Nat}{t:TypeId}{cs:Array Value}(h:Blk w g t cs (0,0))(i:Nat):w.frozen? ⟨g,i,none⟩=false:=by
 unfold Blk at h;simp[World.frozen?,h]
theorem Fq(s:aC):(dG s).kind<=2:=by
 unfold dG;split <;> (try split) <;> (try split) <;> simp
theorem Fv(s:aC):(dG s).text.size<=s.size:=by
 unfold dG;split <;> (try split) <;> (try split) <;> simp <;> exact Nat.zero_le _
def bJ(w:World)(g:Nat)(k:Nat)(t:aC)(v:Value)(b:Bool):Prop:=Blk w g 195 #[.int .i64 k,.string t,v,.bool b] (0,0)
theorem bJ.facts{w:World}{g k:Nat}{t:aC}{v:Value}{b:Bool}(h:bJ w g k t v b) :
  w.cell? ⟨g,0,none⟩=some (.int .i64 k)/\w.cell? ⟨g,1,none⟩=some (.string t)/\w.cell? ⟨g,2,none⟩=some v/\w.cell? ⟨g,3,none⟩=some (.bool b) /\
   w.frozen? ⟨g,0,none⟩=false/\w.frozen? ⟨g,1,none⟩=false/\w.frozen? ⟨g,2,none⟩=false/\w.frozen? ⟨g,3,none⟩=false :=
 ⟨Blk.cell h 0,Blk.cell h 1,Blk.cell h 2,Blk.cell h 3,Blk.free0 h 0,Blk.free0 h 1,Blk.free0 h 2,Blk.free0 h 3⟩
theorem Fz:(prog.info? 192).map (fun i=>(i.zero,i.size,i.bytes))=some (some (.agg #[.int .i64 0,.string ⟨#[]⟩]),2,24):=by kernel_rfl
def SG(r:List aC)(k:Nat)(acc:List bI)(tl:Bool):Prop:=(tl=false/\dK r []=dK (r.drop k) acc)\/(tl=true/\k=r.length/\dK r []=some (acc,true))
theorem F7{X w:World}(h:Below X.drew.heap.size X.drew w):aF X w:=⟨h.os,h.tape,h.output,h.size,h.block⟩
theorem F8:bW ⟨#[42,42]⟩=false:=by simp[bW,Lib.toList_data,jW,jX]
theorem SH:kP ⟨#[42,42]⟩=false:=by simp[kP,F8,Lib.toList_data,Lib.hasPrefix,List.isPrefixOf]
theorem xU(s:aC)(w:World)(hs:s.size<=100000)(hE:Env w):Calls prog 147 #[.string s] w (lH (dI s) w):=by
 have hE1:=hE.keep (aU (Below.refl _ _) (.cells #[.int .i64 0,.string ⟨#[]⟩,.slice none 0 0,.bool false] 195));have cS:=RU s 47 _ aB hE1;have hsz:=oU 47 s;have hnum:=qM 47 s;have hne:splitB 47 s ≠ []:=by
  intro h;have:=congrArg List.length h;unfold splitB at this;rw[List.length_map]at this;exact F9 47 s.data.toList (List.eq_nil_of_length_eq_zero this)
 unfold dI;generalize splitB 47 s=l at *;obtain⟨l0,r,rfl⟩:=List.exists_cons_of_ne_nil hne;have hl0:l0.size<=100000:=Nat.le_trans (hsz l0 aH) hs;have cN:=fun W=>rW l0 W aB
 clear hne;obtain⟨m,hm⟩:∃ m,m=r.length:=⟨_,rfl⟩;have HS:Hid (∀ W,W=(w.alloc (.cells #[.int .i64 0,.string ⟨#[]⟩,.slice none 0 0,.bool false] 195))->Calls prog 75 #[.string s,.string ⟨#[47]⟩] W (fun e w'=>aF W w'/\∃ A c,e=.returned (.slice A (m+1) c)/\aI w' 1 A (m+1) ((l0 :: r).map .string)/\(∀ a,A=some a->W.heap.size<=a.block)/\m+1<=c)):=aA (by rintro W rfl;rw[hm];exact cS);have HN:=aA cN;have HM:=aA hm;have hm9:m<=100001:=by rw[hm];simp at hnum;omega
 clear cS cN hE hE1;simp only[rV];rw[<-hm];clear hm;by_cases hbig:32<m
 ·rw[show decide (m<=32)=false by simp;omega];simp only[Bool.false_and,Bool.false_eq_true,if_false];have hd:decide ((33:Int)<(m:Int)+1)=true:=aP;go_enter func147,ntmps147;go_wp2_with (go_at_call 75;refine (HS.out _ rfl).mono ?_;rintro e w1 ⟨hb1,A,c,rfl,hR,hA,hcap⟩;have hB1:bJ w1 w.heap.size 0 ⟨#[]⟩ (.slice none 0 0) false:=(hb1.block w.heap.size aH).trans (World.alloc_heap_new _ _);obtain⟨c0,c1,c2,c3,f0,f1,f2,f3⟩:=hB1.facts;obtain⟨pb,po,u,rfl,hu,g0⟩:=hR.at_ (k:=0) aB;(obtain rfl:u=.string l0:=(by simpa using hu.symm));clear hu;have gg:w1.cell? ⟨pb,po,none⟩=some (.string l0):=g0;clear g0;have hcap1:(m:Int)+1<=(c:Int):=aB;have hA1:w.heap.size<pb:=AB);exact GG
 have hd:decide ((33:Int)<(m:Int)+1)=false:=aP;rw[show decide (m<=32)=true by simp;omega];simp only[Bool.true_and];have hn0:(0:Int)<(m:Int)+1:=aB;cases hho:iT l0
 ·simp only[Bool.false_eq_true,if_false];unfold iT at hho;simp only[Bool.or_eq_false_iff]at hho;obtain⟨h1,h2⟩:=hho;rw[h2]at HN;clear h2;go_enter func147,ntmps147;go_wp2_with (first | (go_at_call 75;refine (HS.out _ rfl).mono ?_;rintro e w1 ⟨hb1,A,c,rfl,hR,hA,hcap⟩;have hB1:bJ w1 w.heap.size 0 ⟨#[]⟩ (.slice none 0 0) false:=(hb1.block w.heap.size aH).trans (World.alloc_heap_new _ _);obtain⟨c0,c1,c2,c3,f0,f1,f2,f3⟩:=hB1.facts;obtain⟨pb,po,u,rfl,hu,g0⟩:=hR.at_ (k:=0) aB;(obtain rfl:u=.string l0:=(by simpa using hu.symm));clear hu;have gg:w1.cell? ⟨pb,po,none⟩=some (.string l0):=g0;clear g0;have hcap1:(m:Int)+1<=(c:Int):=aB;have hA1:w.heap.size<pb:=AB) | (go_at_call 94;refine (HN.out _).mono ?_;rintro e w2 ⟨rfl,hb2⟩;have hB2:bJ w2 w.heap.size 0 ⟨#[]⟩ (.slice none 0 0) false:=Blk.keep hB1 hb2;clear c0 c1 c2 c3 f0 f1 f2 f3;obtain⟨c0,c1,c2,c3,f0,f1,f2,f3⟩:=hB2.facts;have gg':=aW hb2 gg));exact GG
 simp only[if_true];have hpv:∀ W,Calls prog 205 #[.string l0] W (Ret W (.agg #[.int .i64 (dG l0).kind,.string (dG l0).text])):=fun W=>GH l0 W aB
 generalize (dG l0)=p0 at *;obtain⟨kd,tx⟩:=p0;dsimp only at hpv;have HPV:=aA hpv;have HSZ:Hid (∀ p∈r,p.size<=100000):=aA (fun p hp=>Nat.le_trans (hsz p oV) hs);clear hpv hsz hnum;have hho2:((l0.toList == [42])=true)\/((l0.toList == [42])=false/\bU l0=true):=by
  unfold iT at hho;cases h:(l0.toList == [42])
  ·right;exact⟨rfl,by simpa[h] using hho⟩
  ·left;rfl
 have hn1:(1:Int)<=(m:Int)+1:=aB;clear hho;obtain⟨i0,hi0,hz0,hz1,hz2⟩:=info_parts Fz;have HI:Hid ((prog.info? 192=some i0)/\i0.zero=some (.agg #[.int .i64 0,.string ⟨#[]⟩])/\i0.size=2/\i0.bytes=24):=aA ⟨hi0,hz0,hz1,hz2⟩;clear hi0 hz0 hz1 hz2;rcases hho2 with h1 | ⟨h1,h2⟩
 rotate_left;rw[h2]at HN;clear h2;rotate_left;all_goals
  go_enter func147,ntmps147;go_wp2_with (first | (go_at_call 75;refine (HS.out _ rfl).mono ?_;rintro e w1 ⟨hb1,A,c,rfl,hR,hA,hcap⟩;have hB1:bJ w1 w.heap.size 0 ⟨#[]⟩ (.slice none 0 0) false:=(hb1.block w.heap.size aH).trans (World.alloc_heap_new _ _);obtain⟨c0,c1,c2,c3,f0,f1,f2,f3⟩:=hB1.facts;obtain⟨pb,po,u,rfl,hu,g0⟩:=hR.at_ (k:=0) aB;(obtain rfl:u=.string l0:=(by simpa using hu.symm));clear hu;have gg:w1.cell? ⟨pb,po,none⟩=some (.string l0):=g0;clear g0;have hcap1:(m:Int)+1<=(c:Int):=aB;have hA1:w.heap.size<pb:=AB) | (go_at_call 94;refine (HN.out _).mono ?_;rintro e w2 ⟨rfl,hb2⟩;have hB2:bJ w2 w.heap.size 0 ⟨#[]⟩ (.slice none 0 0) false:=Blk.keep hB1 hb2;clear c0 c1 c2 c3 f0 f1 f2 f3;obtain⟨c0,c1,c2,c3,f0,f1,f2,f3⟩:=hB2.facts;have gg':=aW hb2 gg) | (go_at_call 205;refine (HPV.out _).mono ?_;rintro e w3 ⟨rfl,hb3⟩;have hB3:bJ w3 w.heap.size 0 ⟨#[]⟩ (.slice none 0 0) false:=Blk.keep dJ hb3;clear c0 c1 c2 c3 f0 f1 f2 f3;obtain⟨c0,c1,c2,c3,f0,f1,f2,f3⟩:=hB3.facts));all_goals
   have HRd:Hid (aI w3 1 (some ⟨pb,po,none⟩) (m+1) ((l0 :: r).map .string)):=aA (hR.keep aJ);have hpb:pb<w3.heap.size:=bu (a:=⟨pb,po,none⟩) (aW (w:=w1) aJ gg);have hbw:aF w w3:=aJ;have hz3:w.heap.size<w3.heap.size:=aB;clear hR gg c0 c1 c2 c3 f0 f1 f2 f3;obtain⟨W0,hW0⟩:∃ W0,W0=(w3.setCell ⟨w.heap.size,0,none⟩ (.int .i64 kd)).setCell ⟨w.heap.size,1,none⟩ (.string tx):=⟨_,rfl⟩;have hB0:bJ W0 w.heap.size kd tx (.slice none 0 0) false:=by rw[hW0];exact Blk.set_ (Blk.set_ hB3 0 (.int .i64 kd)) 1 (.string tx)
   have hFr:∀ j,j≠w.heap.size->W0.heap[j]? = w3.heap[j]?:=fun j hj=>by
    rw[hW0,Below.heap_setCell _ _ _ _ lI,Below.heap_setCell _ _ _ _ lI]
   have hbw0:aF w W0:=by rw[hW0];exact aJ
   have hz0:W0.heap.size=w3.heap.size:=by rw[hW0];simp[World.setCell]
   rw[<-hW0];clear hW0 hB3 hbw;go_loopw [34] (fun vi wr=>∃(k:Nat)(acc:List bI)(A':Option Addr)(c':Nat)(tl:Bool),(vi=.int .i64 k/\k<=m/\acc.length<=k)/\Hid (SG r k acc tl)/\bJ wr w.heap.size kd tx (.slice A' acc.length c') tl /\
     wr.ownsRow w3.heap.size 192 2 (.slice A' acc.length c') acc.length (eG acc)/\aF w wr/\(∀ j,j<w3.heap.size->j≠w.heap.size->wr.heap[j]? = w3.heap[j]?)/\w3.heap.size<=wr.heap.size) (fun vi _=>m-(intOf vi).toNat)
   case atStart=>exact⟨0,[],none,0,false,⟨rfl,Nat.zero_le _,Nat.le_refl _⟩,aA (.inl ⟨rfl,aH⟩),hB0,World.ownsRow_nil _ _ _ _,hbw0,fun j _ hj=>hFr j hj,aB⟩
   case round =>
    clear hB0 hFr hbw0 hz0 W0;obtain⟨k,acc,A',c',tl,⟨rfl,hk,hak⟩,HC,hB,hown,hbw,hFr,hzr⟩:=hrel;obtain⟨c0,c1,c2,c3,f0,f1,f2,f3⟩:=hB.facts;by_cases hlt:k<m
    ·try (exfalso;omega)
     all_goals
      obtain⟨p,hp⟩:∃ p,r[k]? = some p:=⟨_,List.getElem?_eq_getElem (by have:=HM.out;omega)⟩;have hps:=HSZ.out p (List.mem_of_getElem? hp);have hcell:wr.cell? ⟨pb,po+1+k,none⟩=some (.string p):=by
       obtain⟨b',o',e',hc'⟩:=HRd.out.2 aB;injection e' with e';injection e' with e1 e2;subst e1;subst e2
       have:=hc' (k+1) (.string p) oV;rw[show po+1+k=po+(k+1) by omega];exact (World.cell?_of_block (hFr pb hpb aB)).trans this
      obtain⟨rfl,hcmp⟩:tl=false/\dK r []=dK (r.drop k) acc:=by
       rcases HC.out with h | ⟨_,h,_⟩
       ·exact h
       ·exfalso;have:=HM.out;omega
      have hd2:r.drop k=p :: r.drop (k+1):=by
       exact AC
      rw[hd2,dK]at hcmp;have hemp:(r.drop (k+1)).isEmpty=decide (k+1=m):=by
       have:=HM.out;by_cases h:k+1=m
       ·rw[List.drop_eq_nil_of_le aB];simp[h]
       ·simp[h];omega
      rw[hemp]at hcmp;have hk0:(0:Int)<=(k:Int):=aB;have hkm:(k:Int)<(m:Int):=aB;clear hd2 hemp hp HC HRd;cases h2s:(p.toList == [42,42])
      ·simp only[h2s,Bool.false_and,Bool.false_eq_true,if_false]at hcmp;have hp2:∀ W,Calls prog 205 #[.string p] W (Ret W (.agg #[.int .i64 (dG p).kind,.string (dG p).text])):=fun W=>GH p W aB
       have cW:=fun W=>oW p W aB
       have cH:=fun W=>strings_HasPrefix p ⟨#[42,46]⟩ W
       have cX:=fun W=>oW (p.extract 2 p.size) W aP
       have hpre:Lib.hasPrefix p.data.toList [42,46]=true->2<=p.size:=by
        intro h;rw[Lib.hasPrefix,List.isPrefixOf_iff_prefix]at h;have:=h.length_le;rw[Lib.size_eq];simpa using this
       rw[show (⟨#[42,46]⟩:aC).data.toList=[42,46] from rfl]at cH;have hok:kP p=((p.toList == [42])||bW p||(decide (p.size<=34)&&Lib.hasPrefix p.data.toList [42,46]&&bW (p.extract 2 p.size))):=rfl;generalize dG p=pq at hcmp hp2;obtain⟨pk,pt⟩:=pq;dsimp only at hp2;generalize bW p=b1 at hok cW;generalize Lib.hasPrefix p.data.toList [42,46]=b2 at hok cH hpre;generalize bW (p.extract 2 p.size)=b3 at hok cX;have HP2:=aA hp2;have HW:=aA cW;have HH:=aA cH;have HX:=aA cX;clear hp2 cW cH cX;cases e1:(p.toList == [42])
       ·cases b1
        ·by_cases hs34:p.size<=34
         ·have hd3:decide ((p.size:Int)<=34)=true:=aP;cases b2
          ·have hnone:dK r []=none:=by rw[hcmp,hok];simp[e1]
           exact AO
          ·have h2p:(2:Int)<=(p.size:Int):=by have:=hpre rfl;omega
           cases b3
           ·have hnone:dK r []=none:=by rw[hcmp,hok];simp[e1]
            exact AO
           ·have hsome:dK r []=dK (r.drop (k+1)) (acc++[⟨pk,pt⟩]):=by rw[hcmp,hok];simp[e1,hs34]
            exact AP
         ·have hd3:decide ((p.size:Int)<=34)=false:=aP;have hnone:dK r []=none:=by rw[hcmp,hok];simp[e1,hs34]
          exact AO
        ·have hsome:dK r []=dK (r.drop (k+1)) (acc++[⟨pk,pt⟩]):=by rw[hcmp,hok];simp
         exact AP
       ·have hsome:dK r []=dK (r.drop (k+1)) (acc++[⟨pk,pt⟩]):=by rw[hcmp,hok];simp[e1]
        exact AP
      ·obtain rfl:p=⟨#[42,42]⟩:=fK (by rw[<-Lib.toList_data];simpa using h2s);by_cases hlast:k+1=m
       ·have hlb:((k:Int)==(m:Int)+1-2)=true:=aP;rw[h2s,show decide (k+1=m)=true by simpa using hlast]at hcmp;simp only[Bool.and_self,if_true]at hcmp;have HH:=aA hcmp;clear hcmp;go_wp2;refine⟨⟨k+1,acc,A',c',true,⟨bg,aB,aB⟩,aA (.inr ⟨rfl,by rw[<-HM.out];exact hlast,HH.out⟩),Blk.set_ hB 3 (.bool true),rX hown (fun j hj=>Below.heap_setCell _ _ _ _ aP),hbw.setCell (p:=⟨w.heap.size,3,none⟩) aH _,
         fun j q1 q2=>(Below.heap_setCell _ _ _ _ AQ).trans (hFr j q1 q2),AU⟩,dD⟩
       ·have hlb:((k:Int)==(m:Int)+1-2)=false:=aP;have hnone:dK r []=none:=by
         rw[hcmp,show decide (k+1=m)=false by simpa using hlast,SH];simp
        have HW:Hid (∀ W,Calls prog 162 #[.string ⟨#[42,42]⟩] W (Ret W (.bool false))):=aA (fun W=>by rw[<-F8];exact oW ⟨#[42,42]⟩ W aK);have HH:Hid (∀ W,Calls prog 206 #[.string ⟨#[42,42]⟩,.string ⟨#[42,46]⟩] W fun e w'=>e=.returned (.bool false)/\w'=W):=aA (fun W=>strings_HasPrefix ⟨#[42,42]⟩ ⟨#[42,46]⟩ W);have HNO:=aA hnone;clear hnone hcmp;go_wp2_with (first | (go_at_call 162;refine (HW.out _).mono ?_;rintro e w4 ⟨rfl,hb4⟩;replace hB:bJ w4 w.heap.size kd tx (.slice A' acc.length c') false:=Blk.keep hB hb4;replace hown:=fZ hown hb4;replace hbw:=hbw.trans (hb4.mono aB);replace hFr:∀ j,j<w3.heap.size->j≠w.heap.size->w4.heap[j]? = w3.heap[j]?:=(fun j q1 q2=>(hb4.block j aB).trans (hFr j q1 q2));replace hzr:w3.heap.size<=w4.heap.size:=Nat.le_trans hzr hb4.size;clear c0 c1 c2 c3 f0 f1 f2 f3;obtain⟨c0,c1,c2,c3,f0,f1,f2,f3⟩:=hB.facts;clear HW) | (go_at_call 206;refine (HH.out _).mono ?_;rintro e w5 ⟨rfl,hw5⟩;rw[hw5];clear hw5 w5));rw[HNO.out];exact bodyPost_ret (v:=.tuple #[.agg #[.int .i64 kd,.string tx,.slice A' acc.length c',.bool false],.bool false]) xW rfl (lH.none_ _ _ _ _ _ _ aJ)
    ·obtain rfl:k=m:=aB;go_wp2;have hend:dK r []=some (acc,tl):=(by rcases HC.out with ⟨h,e⟩ | ⟨h,_,e⟩;(rw[e,h,HM.out,List.drop_eq_nil_of_le (Nat.le_refl _),dK]);(rw[e,h]));rw[hend];have hob:∀ a,A'=some a->a.block≠w.heap.size:=(fun a ha=>xX);have hob2:∀ a,A'=some a->w.heap.size<=a.block:=(fun a ha=>xX);exact bodyPost_ret (v:=.tuple #[.agg #[.int .i64 kd,.string tx,.slice A' acc.length c',.bool tl],.bool true]) xW rfl ⟨aJ,A',c',rfl,((((aI.of_own hown).set_ _ _ hob).set_ _ _ hob).set_ _ _ hob).set_ _ _ hob,hob2⟩
theorem GI(s:aC)(w:World)(hs:s.size<=100000)(hE:Env w):Calls prog 99 #[.string s] w (Ret w (.bool (dI s).isSome)):=by
 have cC:=xU s w hs hE;generalize dI s=r at *;have HC:=aA cC;clear cC;cases r with
 | none =>
  go_enter func99,ntmps99;go_wp2_with (go_at_call 147;refine HC.out.mono ?_;rintro e w1 ⟨hb1,k,t,A,n,c,b,rfl⟩);go_ret;exact⟨rfl,aJ⟩
 | some p =>
  go_enter func99,ntmps99;go_wp2_with (go_at_call 147;refine HC.out.mono ?_;rintro e w1 ⟨hb1,A,c,rfl,hR⟩);go_ret;exact⟨rfl,aJ⟩
theorem xY(qs:List bI):∀(k:Nat)(q:bI),qs[k]? = some q->(eG qs)[k*2]? = some (.int .i64 q.kind)/\(eG qs)[k*2+1]? = some (.string q.text):=by
 induction qs with
 | nil=>intro k q h;simp at h
 | cons a qs ih =>
  intro k q h;cases k with
  | zero=>simp at h;subst h;simp[eG]
  | succ k =>
   have:=ih k q nD;rw[show (k+1)*2=k*2+2 by omega];simpa[eG] using this
theorem SK(qs:List bI):(eG qs).length=qs.length*2:=by induction qs <;> simp_all [eG];omega
def qN(ps:List bI):List aC:=ps.map fun p=>nM p.kind p.text ⟨#[97]⟩
def oZ(ps:List bI):Prop:=∀ p∈ps,p.kind<=2/\p.text.size<=100000
theorem AV(B:Nat):∀ l:List (List UInt8),(∀ x∈l,x.length<=B)->Lib.lens l<=l.length*B
 | [],_=>by simp[Lib.lens]
 | x :: l,h=>by
  have h1:=h x aH;have h2:=AV B l (fun y hy=>h y qH);simp only[Lib.lens,List.map_cons,List.sum_cons,List.length_cons]at h2 ⊢;rw[Nat.succ_mul];omega
def jI(ws:List aC):aC:=toB (Lib.join (az ws) [47])
theorem GK(g n c:Nat)(ws:List aC)(W:World)(base:Nat)(hown:W.ownsRow base 9 1 (.slice (some ⟨g,0,none⟩) n c) n (ws.map .string))(hn:n<=100100)(hsz:∀ x∈ws,x.size<=200000) :
  Calls prog 72 #[.slice (some ⟨g,0,none⟩) n c,.string ⟨#[47]⟩] W (Ret W (.string (jI ws))):=by
 have hl:ws.length=n:=AX;rcases hown.2 with ⟨h,_⟩ | ⟨g',cap,cur,he,hb,hh,h1,h2,h3,h4⟩
 ·cases h
 ·injection he with e1 e2 e3
  injection e1 with e1
  injection e1 with e1
  subst e1;subst e3;have hcells:=World.ownsRow.cells hown (g:=g) rfl;have hlen:(Lib.join (az ws) [47]).length<=140737488355328:=by
   cases ws with
   | nil=>simp[az,Lib.join_nil]
   | cons x r =>
    have hx:=hsz x aH;have hr:=AV 200000 (az r) (by
     intro y hy;obtain⟨z,hz,rfl⟩:=List.mem_map.1 hy;have:=hsz z (by simp[hz]);rw[Lib.size_eq]at this;exact this)
    rw[Lib.size_eq]at hx;simp only[az,List.map_cons]at hr ⊢;rw[Lib.join_cons,List.length_append,Lib.joinTail_length];simp only[List.length_singleton,List.length_cons,List.length_map,List.length_nil,Nat.zero_add,Nat.one_mul]at hr hl ⊢;omega
  have:=strings_Join g 0 c ws ⟨#[47]⟩ W (by
   intro j x hx;have:=hcells j (.string x) gB;unfold Addr.add at this;split at this <;> simp_all) ((Array.getElem?_eq_some_iff.1 hh).1) aB aB hlen
  rw[hl]at this;exact this
theorem SL(w:World)(x:aC):(w.alloc (.cells #[.string x] 9)).ownsRow w.heap.size 9 1 (.slice (some ⟨w.heap.size,0,none⟩) 1 1) 1 [.string x] :=
 ⟨rfl,.inr ⟨w.heap.size,1,#[.string x],rfl,Nat.le_refl _,World.alloc_heap_new _ _,Nat.le_refl _,dh,rfl,rfl⟩⟩
def dX(ps:List bI):List aC:=ps.map fun p=>dQ p.kind p.text
def jq(p:Pat):aC:=jI (dQ p.cust.kind p.cust.text :: dX p.parts++(if p.tail then [⟨#[42,42]⟩] else []))
theorem GL(k:Nat)(t:aC):(dQ k t).size<=t.size+1:=by
 unfold dQ;split
 ·omega
 ·rw[ByteArray.size_append];have:(⟨#[42]⟩:aC).size=1:=rfl;omega
theorem SS(kd:Nat)(tx:aC)(A:Option Addr)(n c:Nat)(tl:Bool)(ps:List bI)(w:World)(hR:aI w 2 A n (eG ps))(hok:oZ ps)(hn:n<=100000)(hkd:kd<=2)(htx:tx.size<=100000) :
  Calls prog 175 #[.agg #[.int .i64 kd,.string tx,.slice A n c,.bool tl]] w (Ret w (.string (jq ⟨⟨kd,tx⟩,ps,tl⟩))):=by
 have hpn:ps.length=n:=by have:=hR.1;rw[SK]at this;omega
 obtain⟨i0,hi0,hz0,hz1,hz2⟩:=info_parts rY;have HI:Hid ((prog.info? 9=some i0)/\i0.zero=some (.string ⟨#[]⟩)/\i0.size=1/\i0.bytes=16):=aA ⟨hi0,hz0,hz1,hz2⟩;have HOK:=aA hok;have HR:=aA hR;have HPN:=aA hpn;have c0:=fun W=>GM kd tx W aB hkd
 have hs0:=GL kd tx;have hsl:∀ x∈dX ps,x.size<=200000:=by
  intro x hx;obtain⟨p,hp,rfl⟩:=List.mem_map.1 hx;have h1:=GL p.kind p.text;have h2:=(hok p hp).2;omega
 have HSL:=aA hsl;have hv:jq ⟨⟨kd,tx⟩,ps,tl⟩=jI (dQ kd tx :: dX ps++(if tl then [⟨#[42,42]⟩] else [])):=rfl;rw[hv];generalize dQ kd tx=s0 at *;generalize hVe:jI (s0 :: dX ps++(if tl then [⟨#[42,42]⟩] else []))=V;have HV:=aA hVe;have HS0:Hid (s0.size<=200000):=aA aB;clear hVe hs0;have H0:=aA c0;clear hi0 hz0 hz1 hz2 hok hR hpn c0 hv hsl;go_enter func175,ntmps175;go_wp2_with (go_at_call 227;refine (H0.out _).mono ?_;rintro e w1 ⟨rfl,hb1⟩;obtain⟨hc1,hf1⟩:=bT hb1;have hz1_0:w.heap.size<w1.heap.size:=iQ);have hbp:aF w w1:=dZ _ hb1;have hX:Blk w1 w.heap.size 195 #[.int .i64 kd,.string tx,.slice A n c,.bool tl] (0,0):=(hb1.block w.heap.size aH).trans (World.alloc_heap_new _ _);have ho1:=SL w1 s0;have hX2:Blk (w1.alloc (.cells #[.string s0] 9)) w.heap.size 195 #[.int .i64 kd,.string tx,.slice A n c,.bool tl] (0,0):=Blk.keep hX (aU (Below.refl _ _) _);have hb2:aF w (w1.alloc (.cells #[.string s0] 9)):=aU hbp _;have hb21:aF w1 (w1.alloc (.cells #[.string s0] 9)):=aU (Below.refl _ _) _;obtain⟨W0,hW0⟩:∃ W0,W0=w1.alloc (.cells #[.string s0] 9):=⟨_,rfl⟩;have hzz:w.heap.size<w1.heap.size:=aB;have hz0:W0.heap.size=w1.heap.size+1:=by rw[hW0];simp
 rw[<-hW0]at ho1 hX2 hb2 hb21 ⊢;clear hW0 hc1 hf1;go_loopw [3,13] (fun va vi wr=>∃(k:Nat)(A':Nat)(c':Nat),(va=.slice (some ⟨A',0,none⟩) (k+1) c'/\vi=.int .i64 k/\k<=n)/\wr.ownsRow w1.heap.size 9 1 (.slice (some ⟨A',0,none⟩) (k+1) c') (k+1) ((s0 :: (dX ps).take k).map .string)/\Blk wr w.heap.size 195 #[.int .i64 kd,.string tx,.slice A n c,.bool tl] (0,0)/\aF w1 wr) (fun _ vi _=>n-(intOf vi).toNat)
 case atStart=>exact⟨0,w1.heap.size,1,⟨rfl,rfl,Nat.zero_le _⟩,by simpa using ho1,hX2,hb21⟩
 case round =>
  clear ho1 hX2 hb2 hb21 hz0 hX;obtain⟨k,A',c',⟨rfl,rfl,hk⟩,hown,hX,hbr⟩:=hrel;have x2:wr.cell? ⟨w.heap.size,2,none⟩=some (.slice A n c):=Blk.cell hX 2;have x3:wr.cell? ⟨w.heap.size,3,none⟩=some (.bool tl):=Blk.cell hX 3;by_cases hlt:k<n
  ·obtain⟨p,hp⟩:∃ p,ps[k]? = some p:=⟨_,List.getElem?_eq_getElem (by have:=HPN.out;omega)⟩;obtain⟨hpk,hpt⟩:=HOK.out p (List.mem_of_getElem? hp);obtain⟨pb,po,rfl,hcell⟩:=((HR.out.keep hbp).keep hbr).2 aB;obtain⟨e1,e2⟩:=xY ps k p hp;have hc1:wr.cell? ⟨pb,po+k*2,none⟩=_:=hcell _ _ e1;have hc2:wr.cell? ⟨pb,po+k*2+1,none⟩=_:=hcell _ _ e2;have hwl:(dX ps)[k]? = some (dQ p.kind p.text):=by simp[dX,hp]
   have htk:s0 :: (dX ps).take (k+1)=(s0 :: (dX ps).take k)++[dQ p.kind p.text]:=by rw[List.take_add_one,hwl];rfl
   have HTK:=aA htk;have cW:=fun W=>GM p.kind p.text W aB hpk
   clear hp hcell e1 e2 hwl htk;generalize dQ p.kind p.text=x at *;obtain⟨pk,pt⟩:=p;dsimp only at *;have HW:=aA cW;clear cW;go_wp2_with (first | (go_at_call 227;refine (HW.out _).mono ?_;rintro e w2 ⟨rfl,hb2⟩) | (at_builtin;refine wpList_append_own _ rfl _ _ 24 rfl w1.heap.size 9 i0 (.string ⟨#[]⟩) 1 16 underlying24 HI.out.1 HI.out.2.1 HI.out.2.2.1 HI.out.2.2.2 rfl aK _ _ _ rfl ((fZ (hown.alloc _) hb2).alloc _) ⟨w2.heap.size,0,none⟩ 1 1 [.string x] rfl rfl (cell_one_new _ _ _) jJ dh aB GN ?_;intro v' w3 hown' hgrow _;obtain⟨g',cap',rfl⟩:=ownsRow_succ hown'));have h1:=hbr.size;have h2:=hb2.size;simp at h2;refine⟨⟨k+1,g',cap',⟨rfl,bg,aB⟩,?_,?_,?_⟩,dD⟩
   ·rw[HTK.out,List.map_append];exact hown'
   ·refine (hgrow.block w.heap.size aP (fun e=>AY)).trans ?_;exact Blk.keep (Blk.keep hX (dZ _ hb2)) (aU (Below.refl _ _) _)
   ·exact ((hbr.trans (dZ _ hb2 |>.mono h1)).alloc aB _).grown hgrow aP (fun r e=>fE hown r e)
  ·obtain rfl:k=n:=aB;have htk:(dX ps).take k=dX ps:=List.take_of_length_le (by simp[dX];have:=HPN.out;omega);rw[htk]at hown;have hbw:aF w wr:=hbp.trans (hbr.mono aB);have hs0z:=HS0.out;have hall:∀ x∈s0 :: dX ps,x.size<=200000:=by
    intro x hx;rcases List.mem_cons.1 hx with rfl | hx
    ·exact HS0.out
    ·exact HSL.out x hx
   have HALL:=aA hall;clear hall htk;cases tl
   ·have cJ:=GK A' (k+1) c' _ wr _ hown aB HALL.out;have hVv:=HV.out;simp only[Bool.false_eq_true,if_false,List.append_nil]at hVv;rw[hVv]at cJ;have HJ:=aA cJ;clear cJ hVv;go_wp2_with (go_at_call 72;refine HJ.out.mono ?_;rintro e w4 ⟨rfl,hb4⟩);go_ret;exact⟨rfl,aV hbw hb4⟩
   ·have hVv:=HV.out;simp only[if_true]at hVv;have HVV:=aA hVv;clear hVv;go_wp2_with (at_builtin;refine wpList_append_own _ rfl _ _ 24 rfl w1.heap.size 9 i0 (.string ⟨#[]⟩) 1 16 underlying24 HI.out.1 HI.out.2.1 HI.out.2.2.1 HI.out.2.2.2 rfl aK _ _ _ rfl (hown.alloc _) ⟨wr.heap.size,0,none⟩ 1 1 [.string ⟨#[42,42]⟩] rfl rfl (cell_one_new _ _ _) jJ dh aB (by have:=hbr.size;simp at *;omega) ?_;intro v' w3 hown' hgrow _;obtain⟨g',cap',rfl⟩:=ownsRow_succ hown');have h1:=hbr.size;have hb3:aF w1 w3:=(hbr.alloc h1 _).grown hgrow aP (fun r e=>fE hown r e);have cJ:=GK g' (k+1+1) cap' ((s0 :: dX ps)++[⟨#[42,42]⟩]) w3 w1.heap.size (by rw[List.map_append];exact hown') aB (by
     intro x hx;rcases List.mem_append.1 hx with hx | hx
     ·exact HALL.out x hx
     ·rw[List.mem_singleton.1 hx];decide)
    rw[HVV.out]at cJ;have HJ:=aA cJ;clear cJ hgrow hown';have hbw3:aF w w3:=hbp.trans (hb3.mono aB);go_wp2_with (go_at_call 72;refine HJ.out.mono ?_;rintro e w4 ⟨rfl,hb4⟩);go_ret;exact⟨rfl,aV hbw3 hb4⟩
end Go.Proofs.YtlkbkclnbppigaaGreatDoor
