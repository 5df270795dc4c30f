/- What 'compile' returns: the pattern of a string. -/
import Derived.Test.YtlkbkclnbppigaaGreatDoorJZ12
import Derived.Deep.RegionHeldLaw
set_option maxHeartbeats 4000000
namespace Go.Proofs.YtlkbkclnbppigaaGreatDoor
open Tryz
open Go.RowKit Go.Sort
set_option linter.unusedVariables false
set_option linter.unusedSimpArgs false
set_option maxRecDepth 100000
structure Pat where
 cust:bJ
 parts:List bJ
 tail:Bool
def fO(ps:List bJ):List Value:=ps.flatMap fun p=>[.int .i64 p.kind,.string p.text]
def jg(w:ByteArray):Bool:=w.toList == [42]||bC w||(decide (w.size<=34)&&Lib.hasPrefix w.data.toList [42,46]&&bC (w.extract 2 w.size))
def dC:List ByteArray->List bJ->Option (List bJ × Bool)
 | [],acc=>some (acc,false)
 | w :: r,acc=>if w.toList == [42,42]&&r.isEmpty then some (acc,true) else if jg w then dC r (acc++[dD w]) else none
def iM(l0:ByteArray):Bool:=l0.toList == [42]||bI l0
def nV:List ByteArray->Option Pat
 | []=>none
 | l0 :: r=>if r.length<=32&&iM l0 then (dC r []).map fun x=>⟨dD l0,x.1,x.2⟩ else none
def dF(s:ByteArray):Option Pat:=nV (splitB 47 s)
def nX(r:Option Pat)(w:World)(e:Ending)(w':World):Prop :=
 Below w.heap.size w w'/\match r with
 | none=>∃(k:Nat)(t:ByteArray)(A:Option Addr)(n c:Nat)(b:Bool),e=.returned (.tuple #[.agg #[.int .i64 k,.string t,.slice A n c,.bool b],.bool false])
 | some p=>∃ A c,e=.returned (.tuple #[.agg #[.int .i64 p.cust.kind,.string p.cust.text,.slice A p.parts.length c,.bool p.tail],.bool true])/\aH w' 2 A p.parts.length (fO p.parts)/\∀ a,A=some a->w.heap.size<=a.block
theorem nX.none_{w w':World}(k:Nat)(t:ByteArray)(A:Option Addr)(n c:Nat)(b:Bool)(hb:Below w.heap.size w w'):nX none w (.returned (.tuple #[.agg #[.int .i64 k,.string t,.slice A n c,.bool b],.bool false])) w':=⟨hb,k,t,A,n,c,b,rfl⟩
theorem Blk.free0{w:World}{g:Nat}{t:TypeId}{cs:Array Value}(h:Blk w g t cs (0,0))(i:Nat):w.frozen? ⟨g,i,none⟩=false:=by
 unfold Blk at h;simp[World.frozen?,h]
theorem Lm(s:ByteArray):(dD s).kind<=2:=by
 unfold dD;split <;> (try split) <;> (try split) <;> simp
theorem Lp(s:ByteArray):(dD s).text.size<=s.size:=by
 unfold dD;split <;> (try split) <;> (try split) <;> simp <;> exact Nat.zero_le _
def bT(w:World)(g:Nat)(k:Nat)(t:ByteArray)(v:Value)(b:Bool):Prop:=Blk w g 195 #[.int .i64 k,.string t,v,.bool b] (0,0)
theorem bT.facts{w:World}{g k:Nat}{t:ByteArray}{v:Value}{b:Bool}(h:bT w g k t v b) :
  w.cell? ⟨g,0,none⟩=some (.int .i64 k)/\w.cell? ⟨g,1,none⟩=some (.string t)/\w.cell? ⟨g,2,none⟩=some v/\w.cell? ⟨g,3,none⟩=some (.bool b) /\
   w.frozen? ⟨g,0,none⟩=false/\w.frozen? ⟨g,1,none⟩=false/\w.frozen? ⟨g,2,none⟩=false/\w.frozen? ⟨g,3,none⟩=false :=
 ⟨Blk.cell h 0,Blk.cell h 1,Blk.cell h 2,Blk.cell h 3,Blk.free0 h 0,Blk.free0 h 1,Blk.free0 h 2,Blk.free0 h 3⟩
theorem Lr:(prog.info? 192).map (fun i=>(i.zero,i.size,i.bytes))=some (some (.agg #[.int .i64 0,.string ⟨#[]⟩]),2,24):=by kernel_rfl
def Lt(r:List ByteArray)(k:Nat)(acc:List bJ)(tl:Bool):Prop:=(tl=false/\dC r []=dC (r.drop k) acc)\/(tl=true/\k=r.length/\dC r []=some (acc,true))
theorem Lu{X w:World}(h:Below X.drew.heap.size X.drew w):Below X.heap.size X w:=⟨h.os,h.tape,h.output,h.size,h.block⟩
theorem L6:bC ⟨#[42,42]⟩=false:=by simp[bC,Lib.toList_data,fQ,jf]
theorem Ew:jg ⟨#[42,42]⟩=false:=by simp[jg,L6,Lib.toList_data,Lib.hasPrefix,List.isPrefixOf]
theorem BG(s:ByteArray)(w:World)(hs:s.size<=100000)(hE:Env w):Calls prog 147 #[.string s] w (nX (dF s) w):=by
 have hE1:=hE.keep (aU (Below.refl _ _) (.cells #[.int .i64 0,.string ⟨#[]⟩,.slice none 0 0,.bool false] 195));have cS:=Yu s 47 _ aA hE1;have hsz:=nY 47 s;have hnum:=oq 47 s;have hne:splitB 47 s ≠ []:=by
  exact L8
 unfold dF;generalize splitB 47 s=l at *;obtain⟨l0,r,rfl⟩:=List.exists_cons_of_ne_nil hne;have hl0:l0.size<=100000:=Nat.le_trans (hsz l0 aF) hs;have cN:=fun W=>vP l0 W aA
 clear hne;obtain⟨m,hm⟩:∃ m,m=r.length:=⟨_,rfl⟩;have HS:Hid (∀ W,W=(w.alloc (.cells #[.int .i64 0,.string ⟨#[]⟩,.slice none 0 0,.bool false] 195))->Calls prog 75 #[.string s,.string ⟨#[47]⟩] W (fun e w'=>Below W.heap.size W w'/\∃ A c,e=.returned (.slice A (m+1) c)/\aH w' 1 A (m+1) ((l0 :: r).map .string)/\(∀ a,A=some a->W.heap.size<=a.block)/\m+1<=c)):=aB (by rintro W rfl;rw[hm];exact cS);have HN:=aB cN;have HM:=aB hm;have hm9:m<=100001:=by rw[hm];simp at hnum;omega
 clear cS cN hE hE1;simp only[nV];rw[<-hm];clear hm;by_cases hbig:32<m
 ·rw[show decide (m<=32)=false by simp;omega];simp only[Bool.false_and,Bool.false_eq_true,if_false];have hd:decide ((33:Int)<(m:Int)+1)=true:=aJ;go_enter func147,ntmps147;go_wp2_with (go_at_call 75;refine (HS.out _ rfl).mono ?_;rintro e w1 ⟨hb1,A,c,rfl,hR,hA,hcap⟩;have hB1:bT w1 w.heap.size 0 ⟨#[]⟩ (.slice none 0 0) false:=(hb1.block w.heap.size aF).trans (World.alloc_heap_new _ _);obtain⟨c0,c1,c2,c3,f0,f1,f2,f3⟩:=hB1.facts;obtain⟨pb,po,u,rfl,hu,g0⟩:=hR.at_ (k:=0) aA;(obtain rfl:u=.string l0:=ou);clear hu;have gg:w1.cell? ⟨pb,po,none⟩=some (.string l0):=g0;clear g0;have hcap1:(m:Int)+1<=(c:Int):=aA;have hA1:w.heap.size<pb:=Ey);exact L9
 have hd:decide ((33:Int)<(m:Int)+1)=false:=aJ;rw[show decide (m<=32)=true by simp;omega];simp only[Bool.true_and];have hn0:(0:Int)<(m:Int)+1:=aA;cases hho:iM l0
 ·simp only[Bool.false_eq_true,if_false];unfold iM at hho;simp only[Bool.or_eq_false_iff]at hho;obtain⟨h1,h2⟩:=hho;rw[h2]at HN;clear h2;go_enter func147,ntmps147;go_wp2_with (first | (go_at_call 75;refine (HS.out _ rfl).mono ?_;rintro e w1 ⟨hb1,A,c,rfl,hR,hA,hcap⟩;have hB1:bT w1 w.heap.size 0 ⟨#[]⟩ (.slice none 0 0) false:=(hb1.block w.heap.size aF).trans (World.alloc_heap_new _ _);obtain⟨c0,c1,c2,c3,f0,f1,f2,f3⟩:=hB1.facts;obtain⟨pb,po,u,rfl,hu,g0⟩:=hR.at_ (k:=0) aA;(obtain rfl:u=.string l0:=ou);clear hu;have gg:w1.cell? ⟨pb,po,none⟩=some (.string l0):=g0;clear g0;have hcap1:(m:Int)+1<=(c:Int):=aA;have hA1:w.heap.size<pb:=Ey) | (go_at_call 94;refine (HN.out _).mono ?_;rintro e w2 ⟨rfl,hb2⟩;have hB2:bT w2 w.heap.size 0 ⟨#[]⟩ (.slice none 0 0) false:=Blk.keep hB1 hb2;clear c0 c1 c2 c3 f0 f1 f2 f3;obtain⟨c0,c1,c2,c3,f0,f1,f2,f3⟩:=hB2.facts;have gg':=aP hb2 gg));exact L9
 simp only[if_true];have hpv:∀ W,Calls prog 205 #[.string l0] W (Ret W (.agg #[.int .i64 (dD l0).kind,.string (dD l0).text])):=fun W=>MC l0 W aA
 generalize (dD l0)=p0 at *;obtain⟨kd,tx⟩:=p0;dsimp only at hpv;have HPV:=aB hpv;have HSZ:Hid (∀ p∈r,p.size<=100000):=aB (fun p hp=>Nat.le_trans (hsz p nZ) hs);clear hpv hsz hnum;have hho2:((l0.toList == [42])=true)\/((l0.toList == [42])=false/\bI l0=true):=by
  unfold iM at hho;cases h:(l0.toList == [42])
  ·right;exact⟨rfl,by simpa[h] using hho⟩
  ·left;rfl
 have hn1:(1:Int)<=(m:Int)+1:=aA;clear hho;obtain⟨i0,hi0,hz0,hz1,hz2⟩:=info_parts Lr;have HI:Hid ((prog.info? 192=some i0)/\i0.zero=some (.agg #[.int .i64 0,.string ⟨#[]⟩])/\i0.size=2/\i0.bytes=24):=aB ⟨hi0,hz0,hz1,hz2⟩;clear hi0 hz0 hz1 hz2;rcases hho2 with h1 | ⟨h1,h2⟩
 rotate_left;rw[h2]at HN;clear h2;rotate_left;all_goals
  go_enter func147,ntmps147;go_wp2_with (first | (go_at_call 75;refine (HS.out _ rfl).mono ?_;rintro e w1 ⟨hb1,A,c,rfl,hR,hA,hcap⟩;have hB1:bT w1 w.heap.size 0 ⟨#[]⟩ (.slice none 0 0) false:=(hb1.block w.heap.size aF).trans (World.alloc_heap_new _ _);obtain⟨c0,c1,c2,c3,f0,f1,f2,f3⟩:=hB1.facts;obtain⟨pb,po,u,rfl,hu,g0⟩:=hR.at_ (k:=0) aA;(obtain rfl:u=.string l0:=ou);clear hu;have gg:w1.cell? ⟨pb,po,none⟩=some (.string l0):=g0;clear g0;have hcap1:(m:Int)+1<=(c:Int):=aA;have hA1:w.heap.size<pb:=Ey) | (go_at_call 94;refine (HN.out _).mono ?_;rintro e w2 ⟨rfl,hb2⟩;have hB2:bT w2 w.heap.size 0 ⟨#[]⟩ (.slice none 0 0) false:=Blk.keep hB1 hb2;clear c0 c1 c2 c3 f0 f1 f2 f3;obtain⟨c0,c1,c2,c3,f0,f1,f2,f3⟩:=hB2.facts;have gg':=aP hb2 gg) | (go_at_call 205;refine (HPV.out _).mono ?_;rintro e w3 ⟨rfl,hb3⟩;have hB3:bT w3 w.heap.size 0 ⟨#[]⟩ (.slice none 0 0) false:=Blk.keep dZ hb3;clear c0 c1 c2 c3 f0 f1 f2 f3;obtain⟨c0,c1,c2,c3,f0,f1,f2,f3⟩:=hB3.facts));all_goals
   have HRd:Hid (aH w3 1 (some ⟨pb,po,none⟩) (m+1) ((l0 :: r).map .string)):=aB (hR.keep aG);have hpb:pb<w3.heap.size:=bf (a:=⟨pb,po,none⟩) (aP (w:=w1) aG gg);have hbw:Below w.heap.size w w3:=aG;have hz3:w.heap.size<w3.heap.size:=aA;clear hR gg c0 c1 c2 c3 f0 f1 f2 f3;obtain⟨W0,hW0⟩:∃ W0,W0=(w3.setCell ⟨w.heap.size,0,none⟩ (.int .i64 kd)).setCell ⟨w.heap.size,1,none⟩ (.string tx):=⟨_,rfl⟩;have hB0:bT W0 w.heap.size kd tx (.slice none 0 0) false:=by rw[hW0];exact Blk.set_ (Blk.set_ hB3 0 (.int .i64 kd)) 1 (.string tx)
   have hFr:∀ j,j≠w.heap.size->W0.heap[j]? = w3.heap[j]?:=fun j hj=>by
    rw[hW0,Below.heap_setCell _ _ _ _ ni,Below.heap_setCell _ _ _ _ ni]
   have hbw0:Below w.heap.size w W0:=by rw[hW0];exact aG
   have hz0:W0.heap.size=w3.heap.size:=by rw[hW0];simp[World.setCell]
   rw[<-hW0];clear hW0 hB3 hbw;go_loopw [34] (fun vi wr=>∃(k:Nat)(acc:List bJ)(A':Option Addr)(c':Nat)(tl:Bool),(vi=.int .i64 k/\k<=m/\acc.length<=k)/\Hid (Lt r k acc tl)/\bT wr w.heap.size kd tx (.slice A' acc.length c') tl /\
     wr.ownsRow w3.heap.size 192 2 (.slice A' acc.length c') acc.length (fO acc)/\Below w.heap.size w wr/\(∀ j,j<w3.heap.size->j≠w.heap.size->wr.heap[j]? = w3.heap[j]?)/\w3.heap.size<=wr.heap.size) (fun vi _=>m-(intOf vi).toNat)
   case atStart=>exact⟨0,[],none,0,false,⟨rfl,Nat.zero_le _,Nat.le_refl _⟩,aB (.inl ⟨rfl,aF⟩),hB0,World.ownsRow_nil _ _ _ _,hbw0,fun j _ hj=>hFr j hj,aA⟩
   case round =>
    clear hB0 hFr hbw0 hz0 W0;obtain⟨k,acc,A',c',tl,⟨rfl,hk,hak⟩,HC,hB,hown,hbw,hFr,hzr⟩:=hrel;obtain⟨c0,c1,c2,c3,f0,f1,f2,f3⟩:=hB.facts;by_cases hlt:k<m
    ·try (exfalso;omega)
     all_goals
      obtain⟨p,hp⟩:∃ p,r[k]? = some p:=⟨_,List.getElem?_eq_getElem yI⟩;have hps:=HSZ.out p (List.mem_of_getElem? hp);have hcell:wr.cell? ⟨pb,po+1+k,none⟩=some (.string p):=by
       obtain⟨b',o',e',hc'⟩:=HRd.out.2 aA;injection e' with e';injection e' with e1 e2;subst e1;subst e2
       have:=hc' (k+1) (.string p) nZ;rw[show po+1+k=po+(k+1) by omega];exact (World.cell?_of_block (hFr pb hpb aA)).trans this
      obtain⟨rfl,hcmp⟩:tl=false/\dC r []=dC (r.drop k) acc:=by
       exact MF
      have hd2:r.drop k=p :: r.drop (k+1):=by
       exact BH
      rw[hd2,dC]at hcmp;have hemp:(r.drop (k+1)).isEmpty=decide (k+1=m):=by
       exact MG
      rw[hemp]at hcmp;have hk0:(0:Int)<=(k:Int):=aA;have hkm:(k:Int)<(m:Int):=aA;clear hd2 hemp hp HC HRd;cases h2s:(p.toList == [42,42])
      ·simp only[h2s,Bool.false_and,Bool.false_eq_true,if_false]at hcmp;have hp2:∀ W,Calls prog 205 #[.string p] W (Ret W (.agg #[.int .i64 (dD p).kind,.string (dD p).text])):=fun W=>MC p W aA
       have cW:=fun W=>rM p W aA
       have cH:=fun W=>strings_HasPrefix p ⟨#[42,46]⟩ W
       have cX:=fun W=>rM (p.extract 2 p.size) W aJ
       have hpre:Lib.hasPrefix p.data.toList [42,46]=true->2<=p.size:=by
        intro h;rw[Lib.hasPrefix,List.isPrefixOf_iff_prefix]at h;have:=h.length_le;rw[Lib.size_eq];simpa using this
       rw[show (⟨#[42,46]⟩:ByteArray).data.toList=[42,46] from rfl]at cH;have hok:jg p=((p.toList == [42])||bC p||(decide (p.size<=34)&&Lib.hasPrefix p.data.toList [42,46]&&bC (p.extract 2 p.size))):=rfl;generalize dD p=pq at hcmp hp2;obtain⟨pk,pt⟩:=pq;dsimp only at hp2;generalize bC p=b1 at hok cW;generalize Lib.hasPrefix p.data.toList [42,46]=b2 at hok cH hpre;generalize bC (p.extract 2 p.size)=b3 at hok cX;have HP2:=aB hp2;have HW:=aB cW;have HH:=aB cH;have HX:=aB cX;clear hp2 cW cH cX;cases e1:(p.toList == [42])
       ·cases b1
        ·by_cases hs34:p.size<=34
         ·have hd3:decide ((p.size:Int)<=34)=true:=aJ;cases b2
          ·have hnone:dC r []=none:=by rw[hcmp,hok];simp[e1]
           exact Ez
          ·have h2p:(2:Int)<=(p.size:Int):=by have:=hpre rfl;omega
           cases b3
           ·have hnone:dC r []=none:=by rw[hcmp,hok];simp[e1]
            exact Ez
           ·have hsome:dC r []=dC (r.drop (k+1)) (acc++[⟨pk,pt⟩]):=by rw[hcmp,hok];simp[e1,hs34]
            exact E5
         ·have hd3:decide ((p.size:Int)<=34)=false:=aJ;have hnone:dC r []=none:=by rw[hcmp,hok];simp[e1,hs34]
          exact Ez
        ·have hsome:dC r []=dC (r.drop (k+1)) (acc++[⟨pk,pt⟩]):=by rw[hcmp,hok];simp
         exact E5
       ·have hsome:dC r []=dC (r.drop (k+1)) (acc++[⟨pk,pt⟩]):=by rw[hcmp,hok];simp[e1]
        exact E5
      ·obtain rfl:p=⟨#[42,42]⟩:=dP (by rw[<-Lib.toList_data];simpa using h2s);by_cases hlast:k+1=m
       ·have hlb:((k:Int)==(m:Int)+1-2)=true:=aJ;rw[h2s,show decide (k+1=m)=true by simpa using hlast]at hcmp;simp only[Bool.and_self,if_true]at hcmp;have HH:=aB hcmp;clear hcmp;go_wp2;refine⟨⟨k+1,acc,A',c',true,⟨aj,aA,aA⟩,aB (.inr ⟨rfl,by rw[<-HM.out];exact hlast,HH.out⟩),Blk.set_ hB 3 (.bool true),rO hown (fun j hj=>Below.heap_setCell _ _ _ _ aJ),hbw.setCell (p:=⟨w.heap.size,3,none⟩) aF _,
         fun j q1 q2=>(Below.heap_setCell _ _ _ _ E8).trans (hFr j q1 q2),FB⟩,au⟩
       ·have hlb:((k:Int)==(m:Int)+1-2)=false:=aJ;have hnone:dC r []=none:=by
         rw[hcmp,show decide (k+1=m)=false by simpa using hlast,Ew];simp
        have HW:Hid (∀ W,Calls prog 162 #[.string ⟨#[42,42]⟩] W (Ret W (.bool false))):=aB (fun W=>by rw[<-L6];exact rM ⟨#[42,42]⟩ W aK);have HH:Hid (∀ W,Calls prog 206 #[.string ⟨#[42,42]⟩,.string ⟨#[42,46]⟩] W fun e w'=>e=.returned (.bool false)/\w'=W):=aB (fun W=>strings_HasPrefix ⟨#[42,42]⟩ ⟨#[42,46]⟩ W);have HNO:=aB hnone;clear hnone hcmp;go_wp2_with (first | (go_at_call 162;refine (HW.out _).mono ?_;rintro e w4 ⟨rfl,hb4⟩;replace hB:bT w4 w.heap.size kd tx (.slice A' acc.length c') false:=Blk.keep hB hb4;replace hown:=dV hown hb4;replace hbw:=hbw.trans (hb4.mono aA);replace hFr:∀ j,j<w3.heap.size->j≠w.heap.size->w4.heap[j]? = w3.heap[j]?:=(fun j q1 q2=>(hb4.block j aA).trans (hFr j q1 q2));replace hzr:w3.heap.size<=w4.heap.size:=Nat.le_trans hzr hb4.size;clear c0 c1 c2 c3 f0 f1 f2 f3;obtain⟨c0,c1,c2,c3,f0,f1,f2,f3⟩:=hB.facts;clear HW) | (go_at_call 206;refine (HH.out _).mono ?_;rintro e w5 ⟨rfl,hw5⟩;rw[hw5];clear hw5 w5));rw[HNO.out];exact bodyPost_ret (v:=.tuple #[.agg #[.int .i64 kd,.string tx,.slice A' acc.length c',.bool false],.bool false]) BI rfl (nX.none_ _ _ _ _ _ _ aG)
    ·obtain rfl:k=m:=aA;go_wp2;have hend:dC r []=some (acc,tl):=(by rcases HC.out with ⟨h,e⟩ | ⟨h,_,e⟩;(rw[e,h,HM.out,List.drop_eq_nil_of_le (Nat.le_refl _),dC]);(rw[e,h]));rw[hend];have hob:∀ a,A'=some a->a.block≠w.heap.size:=(fun a ha=>tq);have hob2:∀ a,A'=some a->w.heap.size<=a.block:=(fun a ha=>tq);exact bodyPost_ret (v:=.tuple #[.agg #[.int .i64 kd,.string tx,.slice A' acc.length c',.bool tl],.bool true]) BI rfl ⟨aG,A',c',rfl,((((aH.of_own hown).set_ _ _ hob).set_ _ _ hob).set_ _ _ hob).set_ _ _ hob,hob2⟩
theorem MH(s:ByteArray)(w:World)(hs:s.size<=100000)(hE:Env w):Calls prog 99 #[.string s] w (Ret w (.bool (dF s).isSome)):=by
 have cC:=BG s w hs hE;generalize dF s=r at *;have HC:=aB cC;clear cC;cases r with
 | none =>
  go_enter func99,ntmps99;go_wp2_with (go_at_call 147;refine HC.out.mono ?_;rintro e w1 ⟨hb1,k,t,A,n,c,b,rfl⟩);go_ret;exact⟨rfl,aG⟩
 | some p =>
  go_enter func99,ntmps99;go_wp2_with (go_at_call 147;refine HC.out.mono ?_;rintro e w1 ⟨hb1,A,c,rfl,hR⟩);go_ret;exact⟨rfl,aG⟩
theorem BJ(qs:List bJ):∀(k:Nat)(q:bJ),qs[k]? = some q->(fO qs)[k*2]? = some (.int .i64 q.kind)/\(fO qs)[k*2+1]? = some (.string q.text):=by
 induction qs with
 | nil=>intro k q h;simp at h
 | cons a qs ih =>
  intro k q h;cases k with
  | zero=>simp at h;subst h;simp[fO]
  | succ k =>
   have:=ih k q kX;rw[show (k+1)*2=k*2+2 by omega];simpa[fO] using this
theorem ZL(qs:List bJ):(fO qs).length=qs.length*2:=by induction qs <;> simp_all [fO];omega
def tu(ps:List bJ):List ByteArray:=ps.map fun p=>qE p.kind p.text ⟨#[97]⟩
def rP(ps:List bJ):Prop:=∀ p∈ps,p.kind<=2/\p.text.size<=100000
theorem FD(B:Nat):∀ l:List (List UInt8),(∀ x∈l,x.length<=B)->Lib.lens l<=l.length*B
 | [],_=>by simp[Lib.lens]
 | x :: l,h=>by
  have h1:=h x aF;have h2:=FD B l (fun y hy=>h y pg);simp only[Lib.lens,List.map_cons,List.sum_cons,List.length_cons]at h2 ⊢;rw[Nat.succ_mul];omega
def kH(ws:List ByteArray):ByteArray:=toB (Lib.join (bD ws) [47])
theorem MI(g n c:Nat)(ws:List ByteArray)(W:World)(base:Nat)(hown:W.ownsRow base 9 1 (.slice (some ⟨g,0,none⟩) n c) n (ws.map .string))(hn:n<=100100)(hsz:∀ x∈ws,x.size<=200000) :
  Calls prog 72 #[.slice (some ⟨g,0,none⟩) n c,.string ⟨#[47]⟩] W (Ret W (.string (kH ws))):=by
 have hl:ws.length=n:=FH;rcases hown.2 with ⟨h,_⟩ | ⟨g',cap,cur,he,hb,hh,h1,h2,h3,h4⟩
 ·cases h
 ·injection he with e1 e2 e3
  injection e1 with e1
  injection e1 with e1
  subst e1;subst e3;have hcells:=World.ownsRow.cells hown (g:=g) rfl;have hlen:(Lib.join (bD ws) [47]).length<=140737488355328:=by
   cases ws with
   | nil=>simp[bD,Lib.join_nil]
   | cons x r =>
    have hx:=hsz x aF;have hr:=FD 200000 (bD r) (by
     intro y hy;obtain⟨z,hz,rfl⟩:=List.mem_map.1 hy;have:=hsz z (by simp[hz]);rw[Lib.size_eq]at this;exact this)
    rw[Lib.size_eq]at hx;simp only[bD,List.map_cons]at hr ⊢;rw[Lib.join_cons,List.length_append,Lib.joinTail_length];simp only[List.length_singleton,List.length_cons,List.length_map,List.length_nil,Nat.zero_add,Nat.one_mul]at hr hl ⊢;omega
  have:=strings_Join g 0 c ws ⟨#[47]⟩ W (by
   intro j x hx;have:=hcells j (.string x) dL;unfold Addr.add at this;split at this <;> simp_all) ((Array.getElem?_eq_some_iff.1 hh).1) aA aA hlen
  rw[hl]at this;exact this
theorem ZN(w:World)(x:ByteArray):(w.alloc (.cells #[.string x] 9)).ownsRow w.heap.size 9 1 (.slice (some ⟨w.heap.size,0,none⟩) 1 1) 1 [.string x] :=
 ⟨rfl,.inr ⟨w.heap.size,1,#[.string x],rfl,Nat.le_refl _,World.alloc_heap_new _ _,Nat.le_refl _,cZ,rfl,rfl⟩⟩
def dM(ps:List bJ):List ByteArray:=ps.map fun p=>eP p.kind p.text
def ku(p:Pat):ByteArray:=kH (eP p.cust.kind p.cust.text :: dM p.parts++(if p.tail then [⟨#[42,42]⟩] else []))
theorem FK(k:Nat)(t:ByteArray):(eP k t).size<=t.size+1:=by
 unfold eP;split
 ·omega
 ·rw[ByteArray.size_append];have:(⟨#[42]⟩:ByteArray).size=1:=rfl;omega
theorem ZO(kd:Nat)(tx:ByteArray)(A:Option Addr)(n c:Nat)(tl:Bool)(ps:List bJ)(w:World)(hR:aH w 2 A n (fO ps))(hok:rP ps)(hn:n<=100000)(hkd:kd<=2)(htx:tx.size<=100000) :
  Calls prog 175 #[.agg #[.int .i64 kd,.string tx,.slice A n c,.bool tl]] w (Ret w (.string (ku ⟨⟨kd,tx⟩,ps,tl⟩))):=by
 have hpn:ps.length=n:=by have:=hR.1;rw[ZL]at this;omega
 obtain⟨i0,hi0,hz0,hz1,hz2⟩:=info_parts oz;have HI:Hid ((prog.info? 9=some i0)/\i0.zero=some (.string ⟨#[]⟩)/\i0.size=1/\i0.bytes=16):=aB ⟨hi0,hz0,hz1,hz2⟩;have HOK:=aB hok;have HR:=aB hR;have HPN:=aB hpn;have c0:=fun W=>MJ kd tx W aA hkd
 have hs0:=FK kd tx;have hsl:∀ x∈dM ps,x.size<=200000:=by
  intro x hx;obtain⟨p,hp,rfl⟩:=List.mem_map.1 hx;have h1:=FK p.kind p.text;have h2:=(hok p hp).2;omega
 have HSL:=aB hsl;have hv:ku ⟨⟨kd,tx⟩,ps,tl⟩=kH (eP kd tx :: dM ps++(if tl then [⟨#[42,42]⟩] else [])):=rfl;rw[hv];generalize eP kd tx=s0 at *;generalize hVe:kH (s0 :: dM ps++(if tl then [⟨#[42,42]⟩] else []))=V;have HV:=aB hVe;have HS0:Hid (s0.size<=200000):=aB aA;clear hVe hs0;have H0:=aB c0;clear hi0 hz0 hz1 hz2 hok hR hpn c0 hv hsl;go_enter func175,ntmps175;go_wp2_with (go_at_call 227;refine (H0.out _).mono ?_;rintro e w1 ⟨rfl,hb1⟩;obtain⟨hc1,hf1⟩:=bg hb1;have hz1_0:w.heap.size<w1.heap.size:=jc);have hbp:Below w.heap.size w w1:=fE _ hb1;have hX:Blk w1 w.heap.size 195 #[.int .i64 kd,.string tx,.slice A n c,.bool tl] (0,0):=(hb1.block w.heap.size aF).trans (World.alloc_heap_new _ _);have ho1:=ZN w1 s0;have hX2:Blk (w1.alloc (.cells #[.string s0] 9)) w.heap.size 195 #[.int .i64 kd,.string tx,.slice A n c,.bool tl] (0,0):=Blk.keep hX (aU (Below.refl _ _) _);have hb2:Below w.heap.size w (w1.alloc (.cells #[.string s0] 9)):=aU hbp _;have hb21:Below w1.heap.size w1 (w1.alloc (.cells #[.string s0] 9)):=aU (Below.refl _ _) _;obtain⟨W0,hW0⟩:∃ W0,W0=w1.alloc (.cells #[.string s0] 9):=⟨_,rfl⟩;have hzz:w.heap.size<w1.heap.size:=aA;have hz0:W0.heap.size=w1.heap.size+1:=by rw[hW0];simp
 rw[<-hW0]at ho1 hX2 hb2 hb21 ⊢;clear hW0 hc1 hf1;go_loopw [3,13] (fun va vi wr=>∃(k:Nat)(A':Nat)(c':Nat),(va=.slice (some ⟨A',0,none⟩) (k+1) c'/\vi=.int .i64 k/\k<=n)/\wr.ownsRow w1.heap.size 9 1 (.slice (some ⟨A',0,none⟩) (k+1) c') (k+1) ((s0 :: (dM ps).take k).map .string)/\Blk wr w.heap.size 195 #[.int .i64 kd,.string tx,.slice A n c,.bool tl] (0,0)/\Below w1.heap.size w1 wr) (fun _ vi _=>n-(intOf vi).toNat)
 case atStart=>exact⟨0,w1.heap.size,1,⟨rfl,rfl,Nat.zero_le _⟩,by simpa using ho1,hX2,hb21⟩
 case round =>
  clear ho1 hX2 hb2 hb21 hz0 hX;obtain⟨k,A',c',⟨rfl,rfl,hk⟩,hown,hX,hbr⟩:=hrel;have x2:wr.cell? ⟨w.heap.size,2,none⟩=some (.slice A n c):=Blk.cell hX 2;have x3:wr.cell? ⟨w.heap.size,3,none⟩=some (.bool tl):=Blk.cell hX 3;by_cases hlt:k<n
  ·obtain⟨p,hp⟩:∃ p,ps[k]? = some p:=⟨_,List.getElem?_eq_getElem (by have:=HPN.out;omega)⟩;obtain⟨hpk,hpt⟩:=HOK.out p (List.mem_of_getElem? hp);obtain⟨pb,po,rfl,hcell⟩:=((HR.out.keep hbp).keep hbr).2 aA;obtain⟨e1,e2⟩:=BJ ps k p hp;have hc1:wr.cell? ⟨pb,po+k*2,none⟩=_:=hcell _ _ e1;have hc2:wr.cell? ⟨pb,po+k*2+1,none⟩=_:=hcell _ _ e2;have hwl:(dM ps)[k]? = some (eP p.kind p.text):=by simp[dM,hp]
   have htk:s0 :: (dM ps).take (k+1)=(s0 :: (dM ps).take k)++[eP p.kind p.text]:=by rw[List.take_add_one,hwl];rfl
   have HTK:=aB htk;have cW:=fun W=>MJ p.kind p.text W aA hpk
   clear hp hcell e1 e2 hwl htk;generalize eP p.kind p.text=x at *;obtain⟨pk,pt⟩:=p;dsimp only at *;have HW:=aB cW;clear cW;go_wp2_with (first | (go_at_call 227;refine (HW.out _).mono ?_;rintro e w2 ⟨rfl,hb2⟩) | (at_builtin;refine wpList_append_own _ rfl _ _ 24 rfl w1.heap.size 9 i0 (.string ⟨#[]⟩) 1 16 underlying24 HI.out.1 HI.out.2.1 HI.out.2.2.1 HI.out.2.2.2 rfl aK _ _ _ rfl ((dV (hown.alloc _) hb2).alloc _) ⟨w2.heap.size,0,none⟩ 1 1 [.string x] rfl rfl (cell_one_new _ _ _) fG cZ aA MK ?_;intro v' w3 hown' hgrow _;obtain⟨g',cap',rfl⟩:=ownsRow_succ hown'));have h1:=hbr.size;have h2:=hb2.size;simp at h2;refine⟨⟨k+1,g',cap',⟨rfl,aj,aA⟩,?_,?_,?_⟩,au⟩
   ·rw[HTK.out,List.map_append];exact hown'
   ·refine (hgrow.block w.heap.size aJ (fun e=>vS)).trans ?_;exact Blk.keep (Blk.keep hX (fE _ hb2)) (aU (Below.refl _ _) _)
   ·exact ((hbr.trans (fE _ hb2 |>.mono h1)).alloc aA _).grown hgrow aJ (fun r e=>dK hown r e)
  ·obtain rfl:k=n:=aA;have htk:(dM ps).take k=dM ps:=List.take_of_length_le (by simp[dM];have:=HPN.out;omega);rw[htk]at hown;have hbw:Below w.heap.size w wr:=hbp.trans (hbr.mono aA);have hs0z:=HS0.out;have hall:∀ x∈s0 :: dM ps,x.size<=200000:=by
    intro x hx;rcases List.mem_cons.1 hx with rfl | hx
    ·exact HS0.out
    ·exact HSL.out x hx
   have HALL:=aB hall;clear hall htk;cases tl
   ·have cJ:=MI A' (k+1) c' _ wr _ hown aA HALL.out;have hVv:=HV.out;simp only[Bool.false_eq_true,if_false,List.append_nil]at hVv;rw[hVv]at cJ;have HJ:=aB cJ;clear cJ hVv;go_wp2_with (go_at_call 72;refine HJ.out.mono ?_;rintro e w4 ⟨rfl,hb4⟩);go_ret;exact⟨rfl,aN hbw hb4⟩
   ·have hVv:=HV.out;simp only[if_true]at hVv;have HVV:=aB hVv;clear hVv;go_wp2_with (at_builtin;refine wpList_append_own _ rfl _ _ 24 rfl w1.heap.size 9 i0 (.string ⟨#[]⟩) 1 16 underlying24 HI.out.1 HI.out.2.1 HI.out.2.2.1 HI.out.2.2.2 rfl aK _ _ _ rfl (hown.alloc _) ⟨wr.heap.size,0,none⟩ 1 1 [.string ⟨#[42,42]⟩] rfl rfl (cell_one_new _ _ _) fG cZ aA (by have:=hbr.size;simp at *;omega) ?_;intro v' w3 hown' hgrow _;obtain⟨g',cap',rfl⟩:=ownsRow_succ hown');have h1:=hbr.size;have hb3:Below w1.heap.size w1 w3:=(hbr.alloc h1 _).grown hgrow aJ (fun r e=>dK hown r e);have cJ:=MI g' (k+1+1) cap' ((s0 :: dM ps)++[⟨#[42,42]⟩]) w3 w1.heap.size FN aA (by
     intro x hx;rcases List.mem_append.1 hx with hx | hx
     ·exact HALL.out x hx
     ·rw[List.mem_singleton.1 hx];decide)
    rw[HVV.out]at cJ;have HJ:=aB cJ;clear cJ hgrow hown';have hbw3:Below w.heap.size w w3:=hbp.trans (hb3.mono aA);go_wp2_with (go_at_call 72;refine HJ.out.mono ?_;rintro e w4 ⟨rfl,hb4⟩);go_ret;exact⟨rfl,aN hbw3 hb4⟩
end Go.Proofs.YtlkbkclnbppigaaGreatDoor
