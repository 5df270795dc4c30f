/- Plain: layer 25's example. -/
import Derived.Test.YtlkbkclnbppigaaGreatDoorIZ24
import Derived.Test.YtlkbkclnbppigaaGreatDoorIZ23
import Derived.Test.YtlkbkclnbppigaaGreatDoorIZ25
set_option maxHeartbeats 4000000
namespace Go.Proofs.YtlkbkclnbppigaaGreatDoor
open Tryz
open Go.RowKit Go.Sort
set_option linter.unusedVariables false
set_option linter.unusedSimpArgs false
set_option maxRecDepth 100000
def kS:aj:=⟨9,1,(⟨#[107]⟩:aC),0,1000⟩
def aS:aY:=⟨0,100,(⟨#[97,99,109,101,47,42,42]⟩:aC),[],[],[],0⟩
def bS:aY:=⟨10,50,⟨#[]⟩,[],[],[],0⟩
def mS:aY:=⟨10,50,(⟨#[97,99,109,101,47,42,42]⟩:aC),[],[],[],0⟩
def lZ:dN:=⟨(⟨#[97,99,109,101,47,120]⟩:aC),(⟨#[98,111,98]⟩:aC),(⟨#[100,101]⟩:aC),0,5,5⟩
def mr:dN:=⟨(⟨#[97,99,109,101,47,120]⟩:aC),(⟨#[98,111,98]⟩:aC),(⟨#[100,101]⟩:aC),0,20,21⟩
def uH:dN:=⟨(⟨#[98,111,108,116,47,120]⟩:aC),(⟨#[98,111,98]⟩:aC),(⟨#[100,101]⟩:aC),0,5,5⟩
def sl1:List Nat:=eU kS ⟨9,1,(⟨#[102,105,108,109]⟩:aC),[aS],fH⟩
def sl2:List Nat:=je sl1 bS
def tS:bz:=⟨9,1,(⟨#[102,105,108,109]⟩:aC),[aS],sl1⟩
def nS:bz:=⟨9,1,(⟨#[102,105,108,109]⟩:aC),[aS,bS],sl2⟩
def oI:bz:=⟨9,1,(⟨#[102,105,108,109]⟩:aC),[aS],sl2⟩
theorem J5:bF aS=true:=by kernel_rfl
theorem Cc:bF bS=true:=by kernel_rfl
theorem J6:lQ kS=true:=by kernel_rfl
theorem J7:gX ⟨9,1,(⟨#[102,105,108,109]⟩:aC),[aS],fH⟩=true:=by kernel_rfl
theorem Ce:gX nS=true:=by
 have h:=(vH _).1 J7;exact (vH nS).2 ⟨h.c0,h.c1,h.s0,h.s1,h.id,aK,aK,fun c hc=>by
  simp only[nS,List.mem_cons,List.not_mem_nil,or_false]at hc;rcases hc with rfl | rfl
  ·exact J5
  ·exact Cc⟩
theorem WL:(sl1==sl2)=false:=by kernel_rfl
theorem WM:¬ sl1=sl2:=fun h=>by have h2:=WL;rw[h]at h2;simp at h2
theorem WN:jy kS (⟨#[102,105,108,109]⟩:aC) aS=(tS,0):=by
 unfold jy;rw[J6,show gX ⟨kS.party,kS.ser,(⟨#[102,105,108,109]⟩:aC),[aS],fH⟩=true from J7];rfl
theorem WO:kW tS bS=(nS,0):=by
 unfold kW;rw[Cc];rfl
theorem J8:sH nS.conds=mS:=by
 show iH aS bS=mS;kernel_rfl
theorem J9:fM aS lZ=true:=by kernel_rfl
theorem WP:fM bS lZ=false:=by kernel_rfl
theorem WQ:fM aS mr=true:=by kernel_rfl
theorem WR:fM bS mr=true:=by kernel_rfl
theorem WS:fM aS uH=false:=by kernel_rfl
theorem vJ(t:bz)(hc:t.cust=9)(hs:t.ser=1)(lo hi:Int)(h:lT kS lo hi=true):mY [kS] t lo hi=if eU kS t=t.sl then 0 else 8:=by
 have hf:kX [kS] t.cust t.ser=some kS:=by
  rw[hc,hs];kernel_rfl
 unfold mY;rw[hf];show (if lT kS lo hi=true then (if eU kS t=t.sl then (0:Int) else 8) else 9)=_;rw[if_pos h]
theorem QL:iY [kS] tS lZ=0:=by
 unfold iY;rw[vJ tS rfl rfl _ _ rfl,if_pos (show eU kS tS=tS.sl from rfl),if_pos rfl];show (if (fM aS lZ&&true)=true then (0:Int) else 250)=0;rw[J9];rfl
theorem QM:iY [kS] nS lZ=250:=by
 unfold iY;rw[vJ nS rfl rfl _ _ rfl,if_pos (show eU kS nS=nS.sl from rfl),if_pos rfl];show (if (fM aS lZ&&(fM bS lZ&&true))=true then (0:Int) else 250)=250;rw[J9,WP];rfl
theorem QN:iY [kS] nS mr=0:=by
 unfold iY;rw[vJ nS rfl rfl _ _ rfl,if_pos (show eU kS nS=nS.sl from rfl),if_pos rfl];show (if (fM aS mr&&(fM bS mr&&true))=true then (0:Int) else 250)=0;rw[WQ,WR];rfl
theorem QP:iY [kS] oI mr=8:=by
 unfold iY;rw[vJ oI rfl rfl _ _ rfl,if_neg (show ¬ eU kS oI=oI.sl from WM)];rfl
theorem QR:iY [kS] tS uH=250:=by
 unfold iY;rw[vJ tS rfl rfl _ _ rfl,if_pos (show eU kS tS=tS.sl from rfl),if_pos rfl];show (if (fM aS uH&&true)=true then (0:Int) else 250)=250;rw[WS];rfl
theorem QI:dm sl1:=Bz _ _
theorem uJ:dm sl2:=qC _ _
theorem WT:nU (jF nS)=some nS:=V3 Ce uJ
theorem WU:jR tS=jR nS:=rfl
theorem GZ.reads{ps:List aC}{w w':World}{e:Ending}(h:GZ ps w e w'):∃ A c,e=.returned (.slice A ps.length c)/\aI w' 1 A ps.length (ps.map .string)/\aF w w':=by
 obtain⟨A,c,h1,h2,h3⟩:=h;exact⟨A,c,h1,aI.of_own h2,h3⟩
def KW(w:World)(g:Nat)(s:aC)(e:Int):Prop:=Blk w g 169 #[.string s,.int .i64 e] (0,0)
theorem KW.facts{w:World}{g:Nat}{s:aC}{e:Int}(h:KW w g s e):w.cell? ⟨g,0,none⟩=some (.string s)/\w.cell? ⟨g,1,none⟩=some (.int .i64 e)/\w.frozen? ⟨g,0,none⟩=false/\w.frozen? ⟨g,1,none⟩=false/\g<w.heap.size :=
 ⟨Blk.cell h 0,Blk.cell h 1,lJ h 0,lJ h 1,Blk.lt h⟩
structure But(g:Nat)(w w':World):Prop where
 os:w'.os=w.os
 tape:w'.tape=w.tape
 output:w'.output=w.output
 size:w.heap.size<=w'.heap.size
 block:∀ k,k<w.heap.size->k≠g->w'.heap[k]? = w.heap[k]?
section
variable {g:Nat} {a w w' w'':World}
theorem But.refl(g:Nat)(w:World):But g w w:=⟨rfl,rfl,rfl,Nat.le_refl _,fun _ _ _=>rfl⟩
theorem But.trans(h:But g w w')(k:But g w' w''):But g w w'' :=
 ⟨k.os.trans h.os,k.tape.trans h.tape,k.output.trans h.output,Nat.le_trans h.size k.size,fun i hi hn=>(k.block i (Nat.lt_of_lt_of_le hi h.size) hn).trans (h.block i hi hn)⟩
theorem But.of_below(h:aF w w'):But g w w':=⟨h.os,h.tape,h.output,h.size,fun k hk _=>h.block k hk⟩
theorem But.set(w:World)(g o:Nat)(v:Value):But g w (w.setCell ⟨g,o,none⟩ v):=⟨rfl,rfl,rfl,by simp[World.setCell],fun k _ hn=>Below.heap_setCell _ _ _ _ hn⟩
theorem But.step(h:But g a w)(o:Nat)(v:Value):But g a (w.setCell ⟨g,o,none⟩ v):=h.trans (But.set w g o v)
theorem But.drew(h:But g a w):But g a w.drew:=⟨h.os,h.tape,h.output,h.size,h.block⟩
theorem But.below(h:But g w w'){B:Nat}(hg:B<=g)(hB:B<=w.heap.size):Below B w w':=⟨h.os,h.tape,h.output,h.size,fun k hk=>h.block k aB aB⟩
theorem But.blk(h:But g w w'){b:Nat}{t:TypeId}{cs:Array Value}{fr:Nat × Nat}(hx:Blk w b t cs fr)(hn:b≠g):Blk w' b t cs fr:=(h.block b (Blk.lt hx) hn).trans hx
theorem But.cell(h:But g w w'){p:Addr}{v:Value}(hc:w.cell? p=some v)(hn:p.block≠g):w'.cell? p=some v:=(World.cell?_of_block (h.block _ (bu hc) hn)).trans hc
theorem But.reads(h:But g w w'){A:Option Addr}{n:Nat}{vs:List Value}(hR:aI w 1 A n vs)(hn:0<n->∀ a,A=some a->a.block≠g):aI w' 1 A n vs:=by
 refine⟨hR.1,fun h0=>?_⟩;obtain⟨b,o,rfl,hc⟩:=hR.2 h0;exact⟨b,o,rfl,fun j u hu=>h.cell (hc j u hu) (hn h0 ⟨b,o,none⟩ rfl)⟩
end
def jP(w:World):Prop:=(∃ ev,w.cell? ⟨4,0,none⟩=some ev/\(ev=.nilIface\/∃ te pe,ev=.iface te pe))/\(∃ ev,w.cell? ⟨5,0,none⟩=some ev/\(ev=.nilIface\/∃ te pe,ev=.iface te pe))
theorem jP.keep{w w':World}(h:jP w)(hb:aF w w'):jP w':=by
 obtain⟨⟨e1,h1,k1⟩,e2,h2,k2⟩:=h;exact⟨⟨e1,aW hb h1,k1⟩,e2,aW hb h2,k2⟩
theorem jP.but{g:Nat}{w w':World}(h:jP w)(hb:But g w w')(hg:5<g):jP w':=by
 obtain⟨⟨e1,h1,k1⟩,e2,h2,k2⟩:=h;exact⟨⟨e1,hb.cell h1 aP,k1⟩,e2,hb.cell h2 aP,k2⟩
theorem Env.but{g:Nat}{w w':World}(h:Env w)(hb:But g w w')(hg:5<g):Env w':=by
 obtain⟨m,hm⟩:=h;exact⟨m,hb.cell hm aP⟩
theorem Cf(s:aC)(w:World)(hs:s.size<=1000000)(hE:jP w):Calls prog 137 #[.string s] w fun e w'=>(∃ ev,e=.returned (.tuple #[.int .i64 (af s),ev])/\((ev=.nilIface/\dH s=false)\/((∃ te pe,ev=.iface te (.pointer pe))/\dH s=true)))/\aF w w':=by
 obtain⟨⟨e1,h1,k1⟩,e2,h2,k2⟩:=hE;unfold af dH;cases h:Lib.atoiAll s.data.toList with
 | ok v =>
  refine (strconv_Atoi_ok s aB v h w).mono ?_;rintro e w' ⟨rfl,hw⟩;refine⟨⟨_,rfl,.inl ⟨rfl,rfl⟩⟩,?_⟩;rcases hw with rfl | ⟨t,rfl⟩
  ·exact Below.refl _ _
  ·exact Lib.bytesWorld_below _ _ _
 | «syntax» =>
  refine (strconv_Atoi_syntax s aB h e1 w h1 k1).mono ?_;exact Ko
 | range =>
  refine (strconv_Atoi_range s aB h e2 w h2 k2).mono ?_;exact Ko
theorem Ci(s:aC)(c:UInt8)(w:World)(hs:s.size<=1000000)(hE:Env w):Calls prog 75 #[.string s,.string ⟨#[c]⟩] w fun e w'=>e=.returned (.slice (some ⟨w.heap.size,0,none⟩) (splitB c s).length (splitB c s).length)/\aI w' 1 (some ⟨w.heap.size,0,none⟩) (splitB c s).length ((splitB c s).map .string)/\aF w w':=by
 obtain⟨m,hm⟩:=hE;refine (strings_Split s ⟨#[c]⟩ m w aB hm (show 1<=1 from Nat.le_refl _)).mono ?_;rintro e w' ⟨rfl,rfl⟩;have he:=xM c _ s rfl;have hl:=FV c s;rw[he,hl];refine⟨rfl,⟨aH,fun _=>⟨w.heap.size,0,rfl,fun j u hu=>?_⟩⟩,aU (Below.refl _ _) _⟩;have hb:Blk (w.alloc (.cells ((splitB c s).map Value.string).toArray 9)) w.heap.size 9 ((splitB c s).map Value.string).toArray (0,0):=World.alloc_heap_new _ _;rw[hb.cell];simpa using hu
def RB(w:World)(g:Nat)(A:Option Addr)(n c:Nat)(b:Bool):Prop:=Blk w g 184 #[.slice A n c,.bool b] (0,0)
theorem RB.facts{w:World}{g:Nat}{A:Option Addr}{n c:Nat}{b:Bool}(h:RB w g A n c b):w.cell? ⟨g,0,none⟩=some (.slice A n c)/\w.cell? ⟨g,1,none⟩=some (.bool b)/\w.frozen? ⟨g,0,none⟩=false/\w.frozen? ⟨g,1,none⟩=false/\g<w.heap.size :=
 ⟨Blk.cell h 0,Blk.cell h 1,Blk.free0 h 0,Blk.free0 h 1,Blk.lt h⟩
theorem RB.set1{w:World}{g:Nat}{A:Option Addr}{n c:Nat}{b:Bool}(h:RB w g A n c b)(b':Bool):RB (w.setCell ⟨g,1,none⟩ (.bool b')) g A n c b':=Blk.set_ h 1 _
theorem RB.set0{w:World}{g:Nat}{A:Option Addr}{n c:Nat}{b:Bool}(h:RB w g A n c b)(A':Option Addr)(n' c':Nat):RB (w.setCell ⟨g,0,none⟩ (.slice A' n' c')) g A' n' c' b:=Blk.set_ h 0 _
def RS(w:World)(g:Nat)(l:List aC)(b:Bool):Prop:=∃ A n c,RB w g A n c b/\aI w 1 A n (l.map .string)/\(n<=1000001/\n<=c)/\(0<n->∀ a,A=some a->a.block<g)
theorem RS.keep{w w':World}{g:Nat}{l:List aC}{b:Bool}(h:RS w g l b)(hb:aF w w'):RS w' g l b:=by
 obtain⟨A,n,c,h1,h2,h3,h4⟩:=h;exact⟨A,n,c,Blk.keep h1 hb,h2.keep hb,h3,h4⟩
theorem RS.lt{w:World}{g:Nat}{l:List aC}{b:Bool}(h:RS w g l b):g<w.heap.size:=by
 obtain⟨A,n,c,h1,_⟩:=h;exact Blk.lt h1
theorem Kq(w:World)(g:Nat)(l:List aC)(b:Bool)(h:RS w g l b):Calls prog 139 #[.pointer (some ⟨g,0,none⟩)] w fun e w'=>e=.returned (.string (l.headD aT))/\RS w' g l.tail (b||l.isEmpty)/\But g w w':=by
 obtain⟨A,n,c,hB,hR,⟨hn,hnc⟩,hA⟩:=h;obtain⟨x0,x1,f0,f1,hz⟩:=hB.facts;have hl:l.length=n:=BQ;cases l with
 | nil =>
  obtain rfl:n=0:=by simpa using hl.symm
  have HB:=aA hB;have HA:=aA hA;have HNC:=aA hnc;clear hB hA hR hnc hn hl;go_enter func139,ntmps139;go_wp2;go_ret;refine⟨rfl,⟨A,0,c,?_,aI.nil_ _ _ _,⟨aB,aB⟩,fun h=>absurd h aB⟩,But.set _ _ _ _⟩;show RB _ _ _ _ _ (b||true);rw[Bool.or_true];exact HB.out.set1 true
 | cons x r =>
  obtain⟨bb,o,rfl,hcell⟩:=hR.2 vK;have hc1:w.cell? ⟨bb,o,none⟩=some (.string x):=hcell 0 _ rfl;have hlg:bb<g:=hA vK _ rfl;have hne:bb≠g:=Nat.ne_of_lt hlg;obtain⟨m,rfl⟩:∃ m,n=m+1:=⟨r.length,vK⟩;have e0:((m:Int)+1==0)=false:=aP;have e1:(0:Int)<(m:Int)+1:=aB;have e2:(1:Int)<=(m:Int)+1:=aB;have e3:(m:Int)+1<=(c:Int):=aB;have HB:=aA hB;have HC:=aA hcell;have HL:=aA hl;have HNC:=aA hnc;have HN:=aA hn;clear hB hA hR hcell hl hnc hn;go_enter func139,ntmps139;go_wp2
  ·go_ret;have hm0:m=0:=by have:=HNC.out;omega
   have hr0:r=[]:=List.eq_nil_of_length_eq_zero (by have:=HL.out;simp at this;omega);subst hm0;subst hr0;exact⟨rfl,⟨some ⟨bb,o,none⟩,0,0,HB.out.set0 _ _ _,aI.nil_ _ _ _,⟨aB,aB⟩,fun h=>absurd h aB⟩,But.set _ _ _ _⟩
  ·go_ret;refine⟨rfl,⟨some ⟨bb,o+1,none⟩,m,c-1,HB.out.set0 _ _ _,⟨by have:=HL.out;simp at this ⊢;omega,fun hm=>⟨bb,o+1,rfl,fun j u hu=>?_⟩⟩,⟨o6,by have:=HNC.out;omega⟩,fun _ a ha=>by injection ha with ha;rw[<-ha];exact hlg⟩,But.set _ _ _ _⟩;have:=HC.out (j+1) u (by simpa using hu);refine (But.set w g 0 _).cell (p:=⟨bb,o+1+j,none⟩) ?_ hne;rw[<-this];congr 2;omega
theorem WV(w:World)(g:Nat)(s:aC)(l:List aC)(b:Bool)(h:RS w g l b)(hs:s.size<=1000000)(hE:jP w):Calls prog 138 #[.pointer (some ⟨g,0,none⟩),.string s] w fun e w'=>e=.returned (.int .i64 (af s))/\RS w' g l (b||dH s)/\But g w w':=by
 obtain⟨A,n,c,hB,hR,hn,hA⟩:=h;have hat:=fun W hE=>Cf s W hs hE
 generalize af s=N at *;generalize dH s=ab at *;have HAT:=aA hat;have HE:=aA hE;have HB:=aA hB;have HR:=aA hR;have HN:=aA hn;have HA:=aA hA;clear hat hE hB hR hn hA;have fin:∀ w2 v,RB w2 g A n c b->aF w w2->RS (w2.setCell ⟨g,1,none⟩ (.bool v)) g l v/\But g w (w2.setCell ⟨g,1,none⟩ (.bool v)):=fun w2 v hB2 hb2=>by
  have k1:But g w w2:=But.of_below hb2;have k2:=k1.step 1 (.bool v);exact⟨⟨A,n,c,RB.set1 hB2 v,k2.reads HR.out (fun h0 a ha=>Nat.ne_of_lt (HA.out h0 a ha)),HN.out,HA.out⟩,k2⟩
 have HF:=aA fin;clear fin;cases ab
 ·rw[Bool.or_false];cases b;all_goals
   go_enter func138,ntmps138;go_wp2_with ((go_at_call 137;refine (HAT.out _ (HE.out)).mono ?_;rintro e w2 ⟨⟨ev,rfl,hev⟩,hb2⟩;have hB2:=Blk.keep HB.out hb2;obtain⟨x0,x1,f0,f1,hz⟩:=RB.facts hB2);obtain rfl:ev=.nilIface:=Cj);go_ret;exact⟨rfl,HF.out _ _ hB2 hb2⟩
 ·rw[Bool.or_true];cases b;all_goals
   go_enter func138,ntmps138;go_wp2_with ((go_at_call 137;refine (HAT.out _ (HE.out)).mono ?_;rintro e w2 ⟨⟨ev,rfl,hev⟩,hb2⟩;have hB2:=Blk.keep HB.out hb2;obtain⟨x0,x1,f0,f1,hz⟩:=RB.facts hB2);obtain⟨te,pe,rfl⟩:∃ te pe,ev=.iface te (.pointer pe):=Kr);go_ret;exact⟨rfl,HF.out _ _ hB2 hb2⟩
theorem WW(w:World)(g:Nat)(l:List aC)(b:Bool)(h:RS w g l b)(hs:(l.headD aT).size<=1000000)(hg:5<g)(hE:Env w):Calls prog 140 #[.pointer (some ⟨g,0,none⟩)] w fun e w'=>∃ A c,e=.returned (.slice A (cZ (l.headD aT)).length c)/\aI w' 1 A (cZ (l.headD aT)).length ((cZ (l.headD aT)).map .string)/\(0<(cZ (l.headD aT)).length->∀ a,A=some a->w.heap.size<=a.block)/\RS w' g l.tail (b||l.isEmpty)/\But g w w':=by
 have hN:=Kq w g l b h;have hSp:=fun W hE=>Ci (l.headD aT) 44 W hs hE
 generalize l.headD aT=x at *;generalize l.tail=r at *;generalize (b||l.isEmpty)=b2 at *;unfold cZ;have HN:=aA hN;have HS:=aA hSp;have HE:=aA hE;have HG:=aA hg;clear hN hSp h hs hE hg;by_cases hx:x.data.toList=[126]
 ·have e1:(x.toList == [126])=true:=yS;have e2:x.toList=[126]:=yT;rw[if_pos hx];clear hx;go_enter func140,ntmps140;go_wp2_with (go_at_call 139;refine HN.out.mono ?_;rintro e w2 ⟨rfl,hs2,hb2⟩);go_ret;exact⟨none,0,rfl,aI.nil_ _ _ _,fun h=>absurd h aH,hs2,hb2⟩
 ·have e1:(x.toList == [126])=false:=yS;have e2:¬ x.toList=[126]:=yT;rw[if_neg hx];clear hx;generalize splitB 44 x=ps at *;go_enter func140,ntmps140;go_wp2_with (first | (go_at_call 139;refine HN.out.mono ?_;rintro e w2 ⟨rfl,hs2,hb2⟩) | (go_at_call 75;refine (HS.out _ (HE.out.but hb2 HG.out)).mono ?_;rintro e w3 ⟨rfl,hR3,hb3⟩));go_ret;exact⟨_,_,rfl,hR3,fun _ a ha=>by injection ha with ha;rw[<-ha];exact hb2.size,hs2.keep hb3,hb2.trans (But.of_below hb3)⟩
attribute [local go_sem] Oper.semAt_some
theorem WX{W W':World}{A:Option Addr}{n lo h:Nat}{vs:List Value}(hR:aI W 1 A n vs)(hk:iC lo h W W')(hb:0<n->∀ a,A=some a->lo<=a.block/\a.block<h):aI W' 1 A n vs:=by
 refine⟨hR.1,fun hn=>?_⟩;obtain⟨b,o,rfl,hc⟩:=hR.2 hn;have hb':=hb hn _ rfl;exact⟨b,o,rfl,fun j u hu=>(World.cell?_of_block (hk _ (by simpa using hb'.1) (by simpa using hb'.2))).trans (hc j u hu)⟩
theorem WY(lo b:Nat)(A:Option Addr)(n c:Nat)(xs:List aC)(w:World)(h0:w.cell? ⟨b,0,none⟩=some (.slice A n c))(hA:aI w 1 A n (xs.map .string))(hn:n<=1000000000)(hlo:0<n->∀ a,A=some a->lo<=a.block) :
  oL prog 166 #[.pointer (some ⟨b,0,none⟩)] (xs.map .string) (fun _ _=>False) lo w.heap.size w:=by
 intro l J Jx W hW _ _ hY hJ0;have g0:=aW hW h0;have hlt:=fun h0 a ha=>And.intro (hlo h0 a ha) (yR hA h0 a ha)
 have hR:=hA.keep hW;have hl:xs.length=n:=jK;generalize w.heap.size=h at *;clear h0 hA hW w hlo;refine callsIn_of_wp func166 rfl trivial ?_ rfl;simp only[ntmps166,List.size_toArray,List.length_cons,List.length_nil,Nat.reduceAdd,Nat.reduceSub,Array.replicate_succ,Array.replicate_zero,List.push_toArray,List.append_toArray,List.nil_append,List.cons_append];have HY:=aA hY;have HLT:=aA hlt;have HR0:=aA hR;have HL:=aA hl;clear hY hlt hR hl
 gi_wp2
 gi_loopw [7] (fun i wr=>∃ k:Nat,i=.int .i64 k/\k<=n/\Hid (aI wr 1 A n (xs.map .string))/\J k wr) (fun i _=>n-(intOf i).toNat)
 case atStart=>exact⟨0,rfl,aB,HR0,hJ0⟩
 case round =>
  clear g0 hJ0 HR0;obtain⟨k,rfl,hk,HR,hJ⟩:=hrel;by_cases hkn:k<n
  ·obtain⟨x,hx⟩:∃ x,xs[k]? = some x:=⟨_,List.getElem?_eq_getElem gV⟩;have hxv:(xs.map Value.string)[k]? = some (.string x):=gB;obtain⟨fn,tmps,assign,body,hy,hRd⟩:=HY.out k _ wr hxv hJ;obtain⟨pb,po,rfl,hcell⟩:=HR.out.2 aB;have hc1:wr.cell? ⟨pb,po+k,none⟩=some (.string x):=hcell k _ hxv;have hk0:(0:Int)<=(k:Int):=aB;have hk1:(k:Int)<(n:Int):=aB;clear hcell hx hxv
   gi_wp2
   refine⟨rfl,hRd.mono ?_⟩;rintro e W' (⟨rfl,hJ',hk'⟩ | ⟨rfl,hJx'⟩)
   ·have HR2:=aA (WX HR.out hk' HLT.out);clear hc1 HR
    gi_wp2
    exact⟨⟨k+1,bg,aB,HR2,hJ'⟩,dD⟩
   ·gi_wp2
    exact uw
  ·obtain rfl:k=n:=aB;have hlen:k=(xs.map Value.string).length:=by have:=HL.out;simp;omega
   have HLN:=aA hlen;clear hlen
   gi_wp2
   go_end0;exact⟨⟨_,rfl⟩,.inl (by rw[<-HLN.out];exact hJ)⟩
theorem Cm(L:List aC)(k:Nat):(L.drop k).headD aT=L.getD k aT:=by
 rw[List.headD_eq_head?_getD,List.head?_drop,List.getD_eq_getElem?_getD]
theorem Kt(L:List aC)(k:Nat):(L.drop k).isEmpty=decide (L.length<=k):=by
 rw[Bool.eq_iff_iff,List.isEmpty_iff,List.drop_eq_nil_iff,decide_eq_true_eq]
theorem Ku(s:aC):(cZ s).length<=s.size+1:=by
 unfold cZ;split
 ·simp
 ·exact qM 44 s
theorem Kv(s x:aC)(h:x∈cZ s):x.size<=s.size:=by
 unfold cZ at h;split at h
 ·cases h
 ·exact oU 44 s x h
structure PS(w W:World)(nb g:Nat)(L:List aC)(k:Nat)(b:Bool):Prop where
 res:aX W w.heap.size 0 0 ⟨#[]⟩ none 0 0 none 0 0 none 0 0 0
 num:Blk W nb 110 #[.func (.func 138) #[.pointer (some ⟨g,0,none⟩)] #[]] (0,0)
 rs:RS W g (L.drop k) b
 below:aF w W
 lo:w.heap.size<g
 lo2:g<nb
 env:Env W
 errs:jP W
 two:5<w.heap.size
theorem PS.step{w W W':World}{nb g k k':Nat}{L:List aC}{b b':Bool}(h:PS w W nb g L k b)(hr:RS W' g (L.drop k') b')(hb:But g W W'):PS w W' nb g L k' b' :=
 ⟨hb.blk h.res (by have:=h.lo;omega),hb.blk h.num (by have:=h.lo2;omega),hr,h.below.trans (hb.below (by have:=h.lo;omega) h.below.size),h.lo,h.lo2,h.env.but hb C9,h.errs.but hb C9,h.two⟩
theorem PS.keep{w W W':World}{nb g k:Nat}{L:List aC}{b:Bool}(h:PS w W nb g L k b)(hb:aF W W'):PS w W' nb g L k b :=
 h.step (h.rs.keep hb) (But.of_below hb)
theorem RS.but{w w':World}{g c:Nat}{l:List aC}{b:Bool}(h:RS w g l b)(hb:But c w w')(hc:g<c):RS w' g l b:=by
 obtain⟨A,n,cp,h1,h2,h3,h4⟩:=h;exact⟨A,n,cp,hb.blk h1 aB,hb.reads h2 (fun h0 a ha=>by have:=h4 h0 a ha;omega),h3,h4⟩
theorem PS.far{w W W':World}{nb g k c:Nat}{L:List aC}{b:Bool}(h:PS w W nb g L k b)(hb:But c W W')(hc:nb<c):PS w W' nb g L k b :=
 have h1:=h.lo;have h2:=h.lo2;have h3:=h.two
 ⟨hb.blk h.res aB,hb.blk h.num aB,h.rs.but hb aB,h.below.trans (hb.below aB h.below.size),h1,h2,h.env.but hb aB,h.errs.but hb aB,h3⟩
theorem PS.n0{w W:World}{nb g k:Nat}{L:List aC}{b:Bool}(h:PS w W nb g L k b):W.cell? ⟨nb,0,none⟩=some (.func (.func 138) #[.pointer (some ⟨g,0,none⟩)] #[]):=Blk.cell h.num 0
theorem yU{w W:World}{nb g k:Nat}{L:List aC}{b:Bool}(h:PS w W nb g L k b):Calls prog 139 #[.pointer (some ⟨g,0,none⟩)] W fun e W'=>e=.returned (.string (L.getD k aT))/\PS w W' nb g L (k+1) (b||decide (L.length<=k))/\But g W W':=by
 refine (Kq W g (L.drop k) b h.rs).mono ?_;rintro e W' ⟨rfl,hr,hb⟩;rw[List.tail_drop,Kt]at hr;exact⟨by rw[Cm],h.step hr hb,hb⟩
theorem yV{w W:World}{nb g k:Nat}{L:List aC}{b:Bool}{x:aC}(h:PS w W nb g L k b)(hx:x.size<=1000000):Calls prog 138 #[.pointer (some ⟨g,0,none⟩),.string x] W fun e W'=>e=.returned (.int .i64 (af x))/\PS w W' nb g L k (b||dH x)/\But g W W':=by
 refine (WV W g x (L.drop k) b h.rs hx h.errs).mono ?_;rintro e W' ⟨rfl,hr,hb⟩;exact⟨rfl,h.step hr hb,hb⟩
theorem DC{w W:World}{nb g k:Nat}{L:List aC}{b:Bool}(h:PS w W nb g L k b)(hx:(L.getD k aT).size<=1000000):Calls prog 140 #[.pointer (some ⟨g,0,none⟩)] W fun e W'=>∃ A c,e=.returned (.slice A (cZ (L.getD k aT)).length c)/\aI W' 1 A (cZ (L.getD k aT)).length ((cZ (L.getD k aT)).map .string)/\(0<(cZ (L.getD k aT)).length->∀ a,A=some a->W.heap.size<=a.block)/\PS w W' nb g L (k+1) (b||decide (L.length<=k))/\But g W W':=by
 refine (WW W g (L.drop k) b h.rs (by rw[Cm];exact hx) C9 h.env).mono ?_;rintro e W' ⟨A,c,rfl,hR,ha,hr,hb⟩;rw[Cm] at *;rw[List.tail_drop,Kt]at hr;exact⟨A,c,rfl,hR,ha,h.step hr hb,hb⟩
theorem RS.start(w:World)(A:Option Addr)(n c:Nat)(l:List aC)(hR:aI w 1 A n (l.map .string))(hn:n<=1000001)(hc:n<=c):RS (w.alloc (.cells #[.slice A n c,.bool false] 184)) w.heap.size l false:=by
 refine⟨A,n,c,World.alloc_heap_new _ _,hR.keep (aU (Below.refl _ _) _),⟨hn,hc⟩,fun h0 a ha=>?_⟩;have:=yR hR h0 a ha;omega
theorem PS.start{w w1:World}{A:Option Addr}{n c:Nat}{L:List aC}(hb:Below (w.alloc (.cells fU 27)).heap.size (w.alloc (.cells fU 27)) w1)
  (hR:aI w1 1 A n (L.map .string)) (hn:n<=1000001) (hc:n<=c) (hE:Env w) (hX:jP w) (h2:5<w.heap.size) :
  PS w ((w1.alloc (.cells #[.slice A n c,.bool false] 184)).alloc (.cells #[.func (.func 138) #[.pointer (some ⟨w1.heap.size,0,none⟩)] #[]] 110)) (w1.heap.size+1) w1.heap.size L 0 false:=by
 have hs:=hb.size;have hb0:aF w w1:=(aU (Below.refl _ _) _).trans (hb.mono aH);have hb1:aF w1 ((w1.alloc (.cells #[.slice A n c,.bool false] 184)).alloc (.cells #[.func (.func 138) #[.pointer (some ⟨w1.heap.size,0,none⟩)] #[]] 110)):=aU (aU (Below.refl _ _) _) _;have hbw:=hb0.trans (hb1.mono hb0.size);refine⟨Blk.keep (Blk.keep (World.alloc_heap_new _ _) hb) hb1,?_,(RS.start w1 A n c L hR hn hc).keep (aU (Below.refl _ _) _),hbw,by simp at hs;omega,aB,hE.keep hbw,hX.keep hbw,h2⟩;have:=World.alloc_heap_new (w1.alloc (.cells #[.slice A n c,.bool false] 184)) (.cells #[.func (.func 138) #[.pointer (some ⟨w1.heap.size,0,none⟩)] #[]] 110);rw[World.size_alloc]at this;exact this
theorem DD{w:World}{g:Nat}{v0 v1 v2 v3 v4 v5 v6:Value}:But g w (((((((w.setCell ⟨g,0,none⟩ v0).setCell ⟨g,1,none⟩ v1).setCell ⟨g,2,none⟩ v2).setCell ⟨g,3,none⟩ v3).setCell ⟨g,4,none⟩ v4).setCell ⟨g,5,none⟩ v5).setCell ⟨g,6,none⟩ v6) :=
 ((((((But.set w g 0 _).step 1 _).step 2 _).step 3 _).step 4 _).step 5 _).step 6 _
def pY(W W':World)(row:Option Nat):Prop:=W.grownBy W' row/\∀ r,row=some r->∃ o:Obj,W.heap[r]? = some o/\o.isCells=false
section
variable {W W':World} {row:Option Nat}
theorem Blk.calm{b:Nat}{t:TypeId}{cs:Array Value}{fr:Nat × Nat}(h:Blk W b t cs fr)(hc:pY W W' row):Blk W' b t cs fr:=(grownBy_keeps_cells hc.1 hc.2 (k:=b) (o:=.cells cs t fr) h rfl).trans h
theorem aI.calm{A:Option Addr}{n:Nat}{vs:List Value}(hR:aI W 1 A n vs)(hc:pY W W' row):aI W' 1 A n vs:=by
 refine⟨hR.1,fun h0=>?_⟩;obtain⟨b,o,e,h⟩:=hR.2 h0;exact⟨b,o,e,fun j u hu=>cell_kept (h j u hu) hc.1 hc.2⟩
theorem RS.calm{g:Nat}{l:List aC}{b:Bool}(h:RS W g l b)(hc:pY W W' row):RS W' g l b:=by
 obtain⟨A,n,cp,h1,h2,h3,h4⟩:=h;exact⟨A,n,cp,Blk.calm h1 hc,aI.calm h2 hc,h3,h4⟩
theorem PS.calm{w:World}{nb g k:Nat}{L:List aC}{b:Bool}(h:PS w W nb g L k b)(hc:pY W W' row)(hr:∀ r,row=some r->w.heap.size<=r):PS w W' nb g L k b:=by
 refine⟨Blk.calm h.res hc,Blk.calm h.num hc,h.rs.calm hc,h.below.grown hc.1 h.below.size hr,h.lo,h.lo2,?_,?_,h.two⟩
 ·obtain⟨m,hm⟩:=h.env;exact⟨m,cell_kept hm hc.1 hc.2⟩
 ·obtain⟨⟨e1,h1,h2⟩,e3,h3,h4⟩:=h.errs;exact⟨⟨e1,cell_kept h1 hc.1 hc.2,h2⟩,e3,cell_kept h3 hc.1 hc.2,h4⟩
theorem WZ{base:Nat}{e:TypeId}{size n:Nat}{v:Value}{xs:List Value}(h:W.ownsRow base e size v n xs)(hc:pY W W' row):W'.ownsRow base e size v n xs:=by
 obtain⟨h1,h2⟩:=h;refine⟨h1,?_⟩;rcases h2 with h2 | ⟨g,cap,cur,hv,hg,hB,r⟩
 ·exact .inl h2
 ·exact .inr ⟨g,cap,cur,hv,hg,Blk.calm (t:=e) (fr:=(0,0)) hB hc,r⟩
end
theorem Kw{W W':World}{base c:Nat}{e:TypeId}{size n:Nat}{v:Value}{xs:List Value}(h:W.ownsRow base e size v n xs)(hb:But c W W')(hc:c<base):W'.ownsRow base e size v n xs:=by
 obtain⟨h1,h2⟩:=h;refine⟨h1,?_⟩;rcases h2 with h2 | ⟨g,cap,cur,hv,hg,hB,r⟩
 ·exact .inl h2
 ·exact .inr ⟨g,cap,cur,hv,hg,hb.blk (t:=e) (fr:=(0,0)) hB aB,r⟩
theorem Ky{W:World}{base:Nat}{e:TypeId}{size n:Nat}{v:Value}{xs:List Value}(h:W.ownsRow base e size v n xs):∀ r,v.ownBlock=some r->base<=r/\∃ o:Obj,W.heap[r]? = some o/\o.isCells=true:=by
 intro r hr;rcases h.2 with ⟨h2,_⟩ | ⟨g,cap,cur,hv,hg,hB,_⟩
 ·rw[h2]at hr;cases hr
 ·rw[hv]at hr;injection hr with hr
  subst hr;exact⟨hg,_,hB,rfl⟩
theorem We{B c:Nat}{W W':World}(hb:But c W W')(hc:c<B):KeepsFrom B W W':=⟨hb.size,fun k o hB hk _=>(hb.block k (Array.getElem?_eq_some_iff.1 hk).1 aB).trans hk⟩
theorem Wh{B:Nat}{W W':World}{row:Option Nat}(hg:W.grownBy W' row)(hr:∀ r,row=some r->∃ o:Obj,W.heap[r]? = some o/\o.isCells=true):KeepsFrom B W W' :=
 ⟨hg.size,fun k o _ hk ho=>(hg.block k (Array.getElem?_eq_some_iff.1 hk).1 (fun e=>by
  obtain⟨o',h1,h2⟩:=hr k e.symm
  rw[hk]at h1
  injection h1 with h1
  subst h1
  rw[ho]at h2
  cases h2)).trans hk⟩
theorem Kz{lo hi c:Nat}{W W':World}(hb:But c W W')(hc:c<lo)(hh:hi<=W.heap.size):iC lo hi W W':=fun k h1 h2=>hb.block k aB aB
theorem Wi{lo hi:Nat}{W W':World}{row:Option Nat}(hg:W.grownBy W' row)(hr:∀ r,row=some r->hi<=r)(hh:hi<=W.heap.size):iC lo hi W W':=fun k _ h2=>hg.block k aB (fun e=>by have:=hr k e.symm;omega)
theorem Wj{hi:Nat}{W W':World}{row:Option Nat}(hg:W.grownBy W' row)(hr:∀ r,row=some r->hi<=r)(hh:hi<=W.heap.size):Below hi W W':=⟨hg.os,hg.tape,hg.output,hg.size,fun k hk=>hg.block k aB (fun e=>by have:=hr k e.symm;omega)⟩
theorem Wn{w:World}{b:Nat}{v:Value}(h:w.cell? ⟨b,0,none⟩=some v):∀(j:Nat)(u:Value),[v][j]? = some u->w.cell? ((⟨b,0,none⟩:Addr).add j)=some u:=by
 intro j u hu;cases j with
 | zero=>simp at hu;subst hu;exact h
 | succ j=>simp at hu
theorem PS.below_to{w W W':World}{nb g k hi:Nat}{L:List aC}{b:Bool}(h:PS w W nb g L k b)(hb:Below hi W W')(h1:nb<hi)(h2:hi<=W.heap.size):PS w W' nb g L k b:=by
 have l1:=h.lo;have l2:=h.lo2;have l3:=h.two;have blk:∀{b:Nat}{t:TypeId}{cs:Array Value}{fr:Nat × Nat},b<hi->Blk W b t cs fr->Blk W' b t cs fr:=fun hlt hx=>(hb.block _ hlt).trans hx
 have cell:∀{a:Addr}{v:Value},a.block<hi->W.cell? a=some v->W'.cell? a=some v:=fun hlt hx=>(World.cell?_of_block (hb.block _ hlt)).trans hx
 refine⟨blk aB h.res,blk aB h.num,?_,h.below.trans (hb.mono aB),l1,l2,?_,?_,l3⟩
 ·obtain⟨A,n,cp,q1,q2,q3,q4⟩:=h.rs;refine⟨A,n,cp,blk aB q1,⟨q2.1,fun h0=>?_⟩,q3,q4⟩;obtain⟨b',o,e,hc⟩:=q2.2 h0;exact⟨b',o,e,fun j u hu=>cell (by have:=q4 h0 _ e;simp at this ⊢;omega) (hc j u hu)⟩
 ·obtain⟨m,hm⟩:=h.env;exact⟨m,cell aP hm⟩
 ·obtain⟨⟨e1,q1,q2⟩,e3,q3,q4⟩:=h.errs;exact⟨⟨e1,cell aP q1,q2⟩,e3,cell aP q3,q4⟩
theorem DF{W W':World}{A:Option Addr}{n hi:Nat}{vs:List Value}(hR:aI W 1 A n vs)(hb:Below hi W W')(hn:0<n->∀ a,A=some a->a.block<hi):aI W' 1 A n vs:=by
 refine⟨hR.1,fun h0=>?_⟩;obtain⟨b,o,e,h⟩:=hR.2 h0;exact⟨b,o,e,fun j u hu=>(World.cell?_of_block (a:=⟨b,o+j,none⟩) (hb.block b (hn h0 _ e))).trans (h j u hu)⟩
end Go.Proofs.YtlkbkclnbppigaaGreatDoor
