/- The pattern of what two patterns match. -/
import Derived.Test.YticlbkficolocaaGreatDoorIZ13
import Derived.Test.YticlbkficolocaaGreatDoorIZ14
set_option maxHeartbeats 4000000
namespace Go.Proofs.YticlbkficolocaaGreatDoor
open Go.RowKit Go.Sort
set_option linter.unusedVariables false
set_option linter.unusedSimpArgs false
set_option maxRecDepth 100000
def mtL:List Part→List Part→List Part→Option (List Part)
 | acc,[],_=>some acc
 | acc,a :: r,[]=>mtL (acc++[a]) r []
 | acc,a :: r,b :: q=>if Xb a b then mtL (acc++[X7 a b]) r q else none
def Jd (x y:Z7):Option Z7 :=
 if !Xb x.cust y.cust||(decide (y.parts.length<x.parts.length)&&!y.tail) then none else (mtL [] x.parts y.parts).map fun l=>⟨X7 x.cust y.cust,l,x.tail&&y.tail⟩
def QK (x y:Z7):Option Z7:=if x.parts.length<y.parts.length then Jd y x else Jd x y
def patV (x:Z7) (A:Option Addr) (c:Nat):Value:=.agg #[.int .i64 x.cust.kind,.string x.cust.text,.slice A x.parts.length c,.bool x.tail]
theorem Z4.set2 {w:World} {g k k2:Nat} {t t2:ByteArray} {v v2:Value} {b b2:Bool} (h:Z4 w g k t v b) :
  Z4 ((((w.setCell ⟨g,0,none⟩ (.int .i64 k2)).setCell ⟨g,1,none⟩ (.string t2)).setCell ⟨g,2,none⟩ v2).setCell ⟨g,3,none⟩ (.bool b2)) g k2 t2 v2 b2 :=
 Qv.set_ (Qv.set_ (Qv.set_ (Qv.set_ h 0 (.int .i64 k2)) 1 (.string t2)) 2 v2) 3 (.bool b2)
theorem meet_any (p q:Part) (w:World) (h1:p.kind≤2) (h2:q.kind≤2) (h3:p.text.size≤100000) (h4:q.text.size≤100000) :
  Calls Tryz.prog 174 #[.agg #[.int .i64 p.kind,.string p.text],.agg #[.int .i64 q.kind,.string q.text]] w (Zx w (.tuple #[.agg #[.int .i64 (X7 p q).kind,.string (X7 p q).text],.bool (Xb p q)])):=meetP_any p.kind q.kind p.text q.text w (by omega) (by omega) h1 h2
theorem meetP_ok {p q:Part} (h1:p.kind≤2) (h2:q.kind≤2) (h3:p.text.size≤100000) (h4:q.text.size≤100000):(X7 p q).kind≤2∧(X7 p q).text.size≤100000:=by
 unfold X7;split
 ·exact⟨h2,h4⟩
 ·exact⟨h1,h3⟩
theorem box3 (w:World) (a b c:Obj):(((w.alloc a).alloc b).alloc c).heap[w.heap.size]? = some a∧(((w.alloc a).alloc b).alloc c).heap[w.heap.size+1]? = some b∧(((w.alloc a).alloc b).alloc c).heap[w.heap.size+1+1]? = some c:=by
 have h1:=World.alloc_heap_new w a
 have h2:=World.alloc_heap_new (w.alloc a) b
 have h3:=World.alloc_heap_new ((w.alloc a).alloc b) c
 rw[World.size_alloc]at h2
 rw[World.size_alloc,World.size_alloc]at h3
 exact⟨(Below.heap_alloc _ _ _ (by simp;omega)).trans ((Below.heap_alloc _ _ _ (by simp)).trans h1),(Below.heap_alloc _ _ _ (by simp)).trans h2,h3⟩
def Swap (w:World) (R:Option Z7) (wx:World):Prop:=∃ (X Y:Z7) (A B:Option Addr) (ca cb:Nat),
 Reads w 2 A X.parts.length (QZ X.parts)∧Reads w 2 B Y.parts.length (QZ Y.parts)∧Kt X∧Kt Y∧R=Jd X Y ∧
 Z4 wx w.heap.size X.cust.kind X.cust.text (.slice A X.parts.length ca) X.tail∧Z4 wx (w.heap.size+1) Y.cust.kind Y.cust.text (.slice B Y.parts.length cb) Y.tail∧Z4 wx (w.heap.size+1+1) 0 ⟨#[]⟩ (.slice none 0 0) false ∧
 Below w.heap.size w wx∧wx.heap.size=w.heap.size+1+1+1
theorem common_any (x y:Z7) (A B:Option Addr) (ca cb:Nat) (w:World) (hA:Reads w 2 A x.parts.length (QZ x.parts)) (hB:Reads w 2 B y.parts.length (QZ y.parts)) (hx:Kt x) (hy:Kt y) :
  Calls Tryz.prog 125 #[patV x A ca,patV y B cb] w (XK (QK x y) w):=by
 obtain⟨i0,hi0,hz0,hz1,hz2⟩:=info_parts infoPart
 have HI:Hid ((Tryz.prog.info? 101=some i0)∧i0.zero=some (.agg #[.int .i64 0,.string ⟨#[]⟩])∧i0.size=2∧i0.bytes=24):=Lib.hid ⟨hi0,hz0,hz1,hz2⟩
 clear hi0 hz0 hz1 hz2
 obtain⟨R,hR⟩:∃ R,R=QK x y:=⟨_,rfl⟩
 rw[←hR]
 have hsw:∀ wx,Z4 wx w.heap.size y.cust.kind y.cust.text (.slice B y.parts.length cb) y.tail→Z4 wx (w.heap.size+1) x.cust.kind x.cust.text (.slice A x.parts.length ca) x.tail→Z4 wx (w.heap.size+1+1) 0 ⟨#[]⟩ (.slice none 0 0) false →
   Below w.heap.size w wx→wx.heap.size=w.heap.size+1+1+1→x.parts.length<y.parts.length→Swap w R wx:=fun wx h1 h2 h3 h4 h5 h6=>⟨y,x,B,A,cb,ca,hB,hA,hy,hx,by rw[hR,QK,if_pos h6],h1,h2,h3,h4,h5⟩
 have hst:∀ wx,Z4 wx w.heap.size x.cust.kind x.cust.text (.slice A x.parts.length ca) x.tail→Z4 wx (w.heap.size+1) y.cust.kind y.cust.text (.slice B y.parts.length cb) y.tail→Z4 wx (w.heap.size+1+1) 0 ⟨#[]⟩ (.slice none 0 0) false →
   Below w.heap.size w wx→wx.heap.size=w.heap.size+1+1+1→¬ x.parts.length<y.parts.length→Swap w R wx:=fun wx h1 h2 h3 h4 h5 h6=>⟨x,y,A,B,ca,cb,hA,hB,hx,hy,by rw[hR,QK,if_neg h6],h1,h2,h3,h4,h5⟩
 have hxn:=hx.num
 have hyn:=hy.num
 have HSW:=Lib.hid hsw
 have HST:=Lib.hid hst
 clear hsw hst hR hA hB hx hy
 unfold patV
 obtain⟨⟨xk,xt⟩,xs,xl⟩:=x
 obtain⟨⟨yk,yt⟩,ys,yl⟩:=y
 dsimp only at hxn hyn HSW HST ⊢
 generalize xs.length=n at *
 generalize ys.length=m at *
 go_enter Tryz.func125,Tryz.ntmps125
 go_upto_if 14 with fail
 go_cut [] (fun wx=>Swap w R wx)
 case first =>
  have hbl:∀ a b c,Below w.heap.size w (((w.alloc a).alloc b).alloc c):=fun a b c=>Qk (Qk (Qk (Below.refl _ _) _) _) _
  have hb3:=box3 w
  have HBL:=Lib.hid hbl
  have HB3:=Lib.hid hb3
  clear hbl hb3
  by_cases hlt:n<m
  ·have hd:decide ((n:Int)<(m:Int))=true:=by simp;omega
   have HLT:=Lib.hid hlt
   clear hlt
   go_wp2_with fail
   go_meet
   exact HSW.out _ (HB3.out _ _ _).1 (HB3.out _ _ _).2.1 (HB3.out _ _ _).2.2 (HBL.out _ _ _) (by simp) HLT.out
  ·have hd:decide ((n:Int)<(m:Int))=false:=by simp;omega
   have HLT:=Lib.hid hlt
   clear hlt
   go_wp2_with fail
   go_meet
   exact HST.out _ (HB3.out _ _ _).1 (HB3.out _ _ _).2.1 (HB3.out _ _ _).2.2 (HBL.out _ _ _) (by simp) HLT.out
 case rest =>
  obtain⟨X,Y,A',B',ca',cb',hA,hB,hX,hY,hRR,bX,bY,bO,hbc,hzc⟩:=hcut
  clear HSW HST hxn hyn
  obtain⟨⟨pk,pt⟩,ps,pl⟩:=X
  obtain⟨⟨qk,qt⟩,qs,ql⟩:=Y
  have c0:=fun W=>meet_any ⟨pk,pt⟩ ⟨qk,qt⟩ W hX.kind hY.kind hX.text hY.text
  obtain⟨-,-,hps,hpn⟩:=hX
  obtain⟨-,-,hqs,hqn⟩:=hY
  dsimp only at *
  unfold Jd at hRR
  dsimp only at hRR
  obtain⟨np,hnp⟩:∃ np,np=ps.length:=⟨_,rfl⟩
  obtain⟨nq,hnq⟩:∃ nq,nq=qs.length:=⟨_,rfl⟩
  rw[←hnp]at hA bX hpn hRR
  rw[←hnq]at hB bY hqn hRR
  generalize X7 ⟨pk,pt⟩ ⟨qk,qt⟩=mp at *
  generalize Xb ⟨pk,pt⟩ ⟨qk,qt⟩=b0 at *
  obtain⟨mk,mt⟩:=mp
  dsimp only at c0
  have H0:=Lib.hid c0
  have HN:=Lib.hid hnp
  have HM:=Lib.hid hnq
  have HA:=Lib.hid hA
  have HB:=Lib.hid hB
  have HPS:=Lib.hid hps
  have HQS:=Lib.hid hqs
  obtain⟨x0,x1,x2,x3,_⟩:=bX.facts
  obtain⟨y0,y1,y2,y3,_⟩:=bY.facts
  obtain⟨o0,o1,o2,o3,q0,q1,q2,q3⟩:=bO.facts
  clear c0 hnp hnq hA hB hps hqs
  cases b0
  ·simp only[Bool.not_false,Bool.true_or,if_true]at hRR
   subst hRR
   go_wp2_with (go_at_call 174;refine (H0.out _).mono ?_;rintro e w1 ⟨rfl,hb1⟩;have hX:Z4 w1 w.heap.size pk pt (.slice A' np ca') _:=Qv.keep bX hb1;have hY:Z4 w1 (w.heap.size+1) qk qt (.slice B' nq cb') _:=Qv.keep bY hb1;have hO:Z4 w1 (w.heap.size+1+1) 0 ⟨#[]⟩ (.slice none 0 0) false:=Qv.keep bO hb1;have hz1:w.heap.size+3≤w1.heap.size:=(by have:=hb1.size;omega);have hbw:Below w.heap.size w w1:=Qj hbc hb1;clear x0 x1 x2 x3 y0 y1 y2 y3 o0 o1 o2 o3 q0 q1 q2 q3;obtain⟨x0,x1,x2,x3,_⟩:=hX.facts;obtain⟨y0,y1,y2,y3,_⟩:=hY.facts;obtain⟨o0,o1,o2,o3,q0,q1,q2,q3⟩:=hO.facts)
   have hO':=Qv.set_ (Qv.set_ (Qv.set_ (Qv.set_ (Qv.set_ (Qv.set_ hO 0 (.int .i64 mk)) 1 (.string mt)) 0 (.int .i64 mk)) 1 (.string mt)) 2 (.slice none 0 0)) 3 (.bool false);have hbE:=((((((hbw.setCell (p:=⟨w.heap.size+1+1,0,none⟩) (by simp;omega) (.int .i64 mk)).setCell (p:=⟨w.heap.size+1+1,1,none⟩) (by simp;omega) (.string mt)).setCell (p:=⟨w.heap.size+1+1,0,none⟩) (by simp;omega) (.int .i64 mk)).setCell (p:=⟨w.heap.size+1+1,1,none⟩) (by simp;omega) (.string mt)).setCell (p:=⟨w.heap.size+1+1,2,none⟩) (by simp;omega) (.slice none 0 0)).setCell (p:=⟨w.heap.size+1+1,3,none⟩) (by simp;omega) (.bool false));revert hO' hbE;generalize ((((((w1.setCell ⟨w.heap.size+1+1,0,none⟩ (.int .i64 mk)).setCell ⟨w.heap.size+1+1,1,none⟩ (.string mt)).setCell ⟨w.heap.size+1+1,0,none⟩ (.int .i64 mk)).setCell ⟨w.heap.size+1+1,1,none⟩ (.string mt)).setCell ⟨w.heap.size+1+1,2,none⟩ (.slice none 0 0)).setCell ⟨w.heap.size+1+1,3,none⟩ (.bool false))=W';intro hO' hbE;have hO2:Z4 W' (w.heap.size+1+1) mk mt (.slice none 0 0) false:=hO';obtain⟨p0,p1,p2,p3,_⟩:=hO2.facts;clear hO' o0 o1 o2 o3 x0 x1 x2 x3 y0 y1 y2 y3;exact bodyPost_ret (v:=.tuple #[.agg #[.int .i64 mk,.string mt,.slice none 0 0,.bool false],.bool false]) (by simp[results,Tryz.results125,go_sem,p0,p1,p2,p3]) rfl (XK.none_ _ _ _ _ _ _ hbE)
  simp only[Bool.not_true,Bool.false_or]at hRR
  have hcase:(nq<np∧ql=false)∨(nq<np∧ql=true)∨¬ nq<np:=by cases ql <;> simp <;> omega
  have hthr:(nq<np∧ql=false)∨(decide (nq<np)&&!ql)=false:=by cases ql <;> simp <;> omega
  rcases hthr with ⟨hgt,rfl⟩ | hthr
  ·have hd2:decide ((nq:Int)<(np:Int))=true:=by simp;omega
   rw[show decide (nq<np)=true by simpa using hgt]at hRR
   simp only[Bool.not_false,Bool.and_self,if_true]at hRR
   subst hRR
   go_wp2_with (go_at_call 174;refine (H0.out _).mono ?_;rintro e w1 ⟨rfl,hb1⟩;have hX:Z4 w1 w.heap.size pk pt (.slice A' np ca') _:=Qv.keep bX hb1;have hY:Z4 w1 (w.heap.size+1) qk qt (.slice B' nq cb') _:=Qv.keep bY hb1;have hO:Z4 w1 (w.heap.size+1+1) 0 ⟨#[]⟩ (.slice none 0 0) false:=Qv.keep bO hb1;have hz1:w.heap.size+3≤w1.heap.size:=(by have:=hb1.size;omega);have hbw:Below w.heap.size w w1:=Qj hbc hb1;clear x0 x1 x2 x3 y0 y1 y2 y3 o0 o1 o2 o3 q0 q1 q2 q3;obtain⟨x0,x1,x2,x3,_⟩:=hX.facts;obtain⟨y0,y1,y2,y3,_⟩:=hY.facts;obtain⟨o0,o1,o2,o3,q0,q1,q2,q3⟩:=hO.facts)
   have hO':=Qv.set_ (Qv.set_ (Qv.set_ (Qv.set_ (Qv.set_ (Qv.set_ hO 0 (.int .i64 mk)) 1 (.string mt)) 0 (.int .i64 mk)) 1 (.string mt)) 2 (.slice none 0 0)) 3 (.bool false);have hbE:=((((((hbw.setCell (p:=⟨w.heap.size+1+1,0,none⟩) (by simp;omega) (.int .i64 mk)).setCell (p:=⟨w.heap.size+1+1,1,none⟩) (by simp;omega) (.string mt)).setCell (p:=⟨w.heap.size+1+1,0,none⟩) (by simp;omega) (.int .i64 mk)).setCell (p:=⟨w.heap.size+1+1,1,none⟩) (by simp;omega) (.string mt)).setCell (p:=⟨w.heap.size+1+1,2,none⟩) (by simp;omega) (.slice none 0 0)).setCell (p:=⟨w.heap.size+1+1,3,none⟩) (by simp;omega) (.bool false));revert hO' hbE;generalize ((((((w1.setCell ⟨w.heap.size+1+1,0,none⟩ (.int .i64 mk)).setCell ⟨w.heap.size+1+1,1,none⟩ (.string mt)).setCell ⟨w.heap.size+1+1,0,none⟩ (.int .i64 mk)).setCell ⟨w.heap.size+1+1,1,none⟩ (.string mt)).setCell ⟨w.heap.size+1+1,2,none⟩ (.slice none 0 0)).setCell ⟨w.heap.size+1+1,3,none⟩ (.bool false))=W';intro hO' hbE;have hO2:Z4 W' (w.heap.size+1+1) mk mt (.slice none 0 0) false:=hO';obtain⟨p0,p1,p2,p3,_⟩:=hO2.facts;clear hO' o0 o1 o2 o3 x0 x1 x2 x3 y0 y1 y2 y3;exact bodyPost_ret (v:=.tuple #[.agg #[.int .i64 mk,.string mt,.slice none 0 0,.bool false],.bool false]) (by simp[results,Tryz.results125,go_sem,p0,p1,p2,p3]) rfl (XK.none_ _ _ _ _ _ _ hbE)
  ·rw[hthr]at hRR
   simp only[Bool.false_eq_true,if_false]at hRR
   have HR:=Lib.hid hRR
   clear hRR
   have HTH:=Lib.hid hthr
   have HCA:=Lib.hid hcase
   clear hthr hcase
   go_upto_region 4 with (go_at_call 174;refine (H0.out _).mono ?_;rintro e w1 ⟨rfl,hb1⟩;have hX:Z4 w1 w.heap.size pk pt (.slice A' np ca') _:=Qv.keep bX hb1;have hY:Z4 w1 (w.heap.size+1) qk qt (.slice B' nq cb') _:=Qv.keep bY hb1;have hO:Z4 w1 (w.heap.size+1+1) 0 ⟨#[]⟩ (.slice none 0 0) false:=Qv.keep bO hb1;have hz1:w.heap.size+3≤w1.heap.size:=(by have:=hb1.size;omega);have hbw:Below w.heap.size w w1:=Qj hbc hb1;clear x0 x1 x2 x3 y0 y1 y2 y3 o0 o1 o2 o3 q0 q1 q2 q3;obtain⟨x0,x1,x2,x3,_⟩:=hX.facts;obtain⟨y0,y1,y2,y3,_⟩:=hY.facts;obtain⟨o0,o1,o2,o3,q0,q1,q2,q3⟩:=hO.facts)
   clear H0 bX bY bO x0 x1 x2 x3 y0 y1 y2 y3 o0 o1 o2 o3 q0 q1 q2 q3
   obtain⟨W0,hW0⟩:∃ W0,W0=(w1.setCell ⟨w.heap.size+1+1,0,none⟩ (.int .i64 mk)).setCell ⟨w.heap.size+1+1,1,none⟩ (.string mt):=⟨_,rfl⟩
   have hO0:Z4 W0 (w.heap.size+1+1) mk mt (.slice none 0 0) false:=by rw[hW0];exact Qv.set_ (Qv.set_ hO 0 (.int .i64 mk)) 1 (.string mt)
   have hF0:∀ j,j≠w.heap.size+1+1→W0.heap[j]? = w1.heap[j]?:=fun j hj=>by rw[hW0,Below.heap_setCell _ _ _ _ (by simpa using hj),Below.heap_setCell _ _ _ _ (by simpa using hj)]
   have hz0:W0.heap.size=w1.heap.size:=by rw[hW0];simp[World.setCell]
   have hbw0:Below w.heap.size w W0:=by rw[hW0];exact (hbw.setCell (p:=⟨w.heap.size+1+1,0,none⟩) (by simp;omega) _).setCell (p:=⟨w.heap.size+1+1,1,none⟩) (by simp;omega) _
   have hX0:Z4 W0 w.heap.size pk pt (.slice A' np ca') pl:=(hF0 _ (by omega)).trans hX
   have hY0:Z4 W0 (w.heap.size+1) qk qt (.slice B' nq cb') ql:=(hF0 _ (by omega)).trans hY
   obtain⟨x0,x1,x2,x3,_⟩:=hX0.facts
   obtain⟨y0,y1,y2,y3,_⟩:=hY0.facts
   obtain⟨o0,o1,o2,o3,q0,q1,q2,q3⟩:=hO0.facts
   have HO0:=Lib.hid hO0;have HF0:=Lib.hid hF0;have HX0:=Lib.hid hX0;have HY0:=Lib.hid hY0;have HX:=Lib.hid hX;have HY:=Lib.hid hY;have HZ0:=Lib.hid hz0
   rw[←hW0]
   clear hW0 hO hX hY hO0 hF0 hX0 hY0 hz0
   go_cut [41] (fun c wx=>c=.bool false∧wx=W0)
   case first =>
    rcases HCA.out with ⟨_,e⟩ | ⟨hgt,e⟩ | hgt
    ·have:=HTH.out;rw[e]at this;simp at this;omega
    ·subst e
     have hd2:decide ((nq:Int)<(np:Int))=true:=by simp;omega
     have hd3:decide (nq<np)=true:=decide_eq_true hgt
     go_wp2_with fail
     go_meet
     exact⟨rfl,rfl⟩
    ·have hd2:decide ((nq:Int)<(np:Int))=false:=by simp;omega
     have hd3:decide (nq<np)=false:=decide_eq_false hgt
     go_wp2_with fail
     go_meet
     exact⟨rfl,rfl⟩
   case rest =>
    obtain⟨rfl,rfl⟩:=hcut
    go_upto_region 6 with fail
    go_cut [] (fun wx=>Z4 wx (w.heap.size+1+1) mk mt (.slice none 0 0) (pl&&ql)∧(∀ j,j≠w.heap.size+1+1→wx.heap[j]? = w1.heap[j]?)∧Below w.heap.size w wx∧wx.heap.size=w1.heap.size)
    case first =>
     cases pl <;> cases ql
     all_goals
      go_wp2_with fail
      go_meet
      exact⟨Qv.set_ HO0.out 3 _,fun j hj=>(Below.heap_setCell _ _ _ _ (by simpa using hj)).trans (HF0.out j hj),hbw0.setCell (by simp;omega) _,by simp[World.setCell];exact HZ0.out⟩
    case rest =>
     obtain⟨hO6,hF6,hb6,hz6⟩:=hcut
     have hX6:Z4 wc w.heap.size pk pt (.slice A' np ca') pl:=(hF6 _ (by omega)).trans HX.out
     obtain⟨tl,htl⟩:∃ tl,tl=(pl&&ql):=⟨_,rfl⟩
     rw[←htl]at hO6
     have HTL:=Lib.hid htl
     clear htl HTH HCA hbw0 x0 x1 x2 x3 y0 y1 y2 y3 o0 o1 o2 o3 q0 q1 q2 q3
     obtain⟨x0,x1,x2,x3,_⟩:=hX6.facts
     have HO6:=Lib.hid hO6;have HF6:=Lib.hid hF6;have HZ6:=Lib.hid hz6
     clear hX6 hO6 hF6 hz6
     go_wp2_with fail
     go_loopw [53] (fun vi wr=>∃ (k:Nat) (acc:List Part) (A1:Option Addr) (c1:Nat),(vi=.int .i64 k∧k≤np∧acc.length=k)∧Hid (mtL [] ps qs=mtL acc (ps.drop k) (qs.drop k))∧Z4 wr (w.heap.size+1+1) mk mt (.slice A1 k c1) tl ∧
      wr.ownsRow w1.heap.size 101 2 (.slice A1 k c1) k (QZ acc)∧Below w.heap.size w wr∧Hid (∀ j,j<w1.heap.size→j≠w.heap.size+1+1→wr.heap[j]? = w1.heap[j]?)∧w1.heap.size≤wr.heap.size) (fun vi _=>np-(intOf vi).toNat)
     case atStart=>exact⟨0,[],none,0,⟨rfl,Nat.zero_le _,rfl⟩,Lib.hid (by simp),HO6.out,World.ownsRow_nil _ _ _ _,hb6,Lib.hid (fun j _ hj=>HF6.out j hj),by have:=HZ6.out;omega⟩
     case round =>
      clear x0 x1 x2 x3
      obtain⟨k,acc,A1,c1,⟨rfl,hk,hak⟩,HC,hB,hown,hbw2,HFR,hzr⟩:=hrel
      have hYr:Z4 wr (w.heap.size+1) qk qt (.slice B' nq cb') ql:=(HFR.out _ (by omega) (by omega)).trans HY.out
      obtain⟨y0,y1,y2,y3,_⟩:=hYr.facts
      obtain⟨o0,o1,o2,o3,q0,q1,q2,q3⟩:=hB.facts
      have HAK:=Lib.hid hak
      clear hak
      have hs1:w.heap.size+1<wr.heap.size:=by omega
      have hs2:w.heap.size+1+1<wr.heap.size:=by omega
      by_cases hkn:k<np
      ·obtain⟨a,ha⟩:∃ p,ps[k]? = some p:=⟨_,List.getElem?_eq_getElem (by have:=HN.out;omega)⟩
       obtain⟨hak1,hak2⟩:=HPS.out a (List.mem_of_getElem? ha)
       obtain⟨pb,po,rfl,hcell⟩:=(HA.out.keep hbw2).2 (by omega)
       obtain⟨e1,e2⟩:=Ja ps k a ha
       have hc1:wr.cell? ⟨pb,po+k*2,none⟩=_:=hcell _ _ e1
       have hc2:wr.cell? ⟨pb,po+k*2+1,none⟩=_:=hcell _ _ e2
       have hdx:ps.drop k=a :: ps.drop (k+1):=by
        obtain⟨hl2,rfl⟩:=List.getElem?_eq_some_iff.1 ha
        exact List.drop_eq_getElem_cons hl2
       have hmt:=HC.out
       rw[hdx]at hmt
       obtain⟨ak,at'⟩:=a
       dsimp only at hc1 hc2 hmt hak1 hak2
       have HMT:=Lib.hid hmt
       clear ha hcell e1 e2 hdx HC hmt
       go_upto_if 62 with fail
       go_cut [] (fun wx=>∃ (ck:Nat) (ct:ByteArray),(ck≤2∧ct.size≤100000)∧Qv wx wr.heap.size 101 #[.int .i64 ck,.string ct] (0,0)∧Below wr.heap.size wr wx∧Hid (mtL [] ps qs=mtL (acc++[⟨ck,ct⟩]) (ps.drop (k+1)) (qs.drop (k+1))))
       case first =>
        by_cases hkm:k<nq
        ·have hd:decide (k<nq)=true:=decide_eq_true hkm
         obtain⟨b,hb⟩:∃ p,qs[k]? = some p:=⟨_,List.getElem?_eq_getElem (by have:=HM.out;omega)⟩
         obtain⟨hbk1,hbk2⟩:=HQS.out b (List.mem_of_getElem? hb)
         obtain⟨qb,qo,rfl,hcell⟩:=(HB.out.keep hbw2).2 (by omega)
         obtain⟨e1,e2⟩:=Ja qs k b hb
         have hc3:wr.cell? ⟨qb,qo+k*2,none⟩=_:=hcell _ _ e1
         have hc4:wr.cell? ⟨qb,qo+k*2+1,none⟩=_:=hcell _ _ e2
         have hdy:qs.drop k=b :: qs.drop (k+1):=by
          obtain⟨hl2,rfl⟩:=List.getElem?_eq_some_iff.1 hb
          exact List.drop_eq_getElem_cons hl2
         have hmt:=HMT.out
         rw[hdy,mtL]at hmt
         obtain⟨bk,bt⟩:=b
         dsimp only at hc3 hc4 hbk1 hbk2
         have cM:=fun W=>meet_any ⟨ak,at'⟩ ⟨bk,bt⟩ W hak1 hbk1 hak2 hbk2
         have hok:=meetP_ok (p:=⟨ak,at'⟩) (q:=⟨bk,bt⟩) hak1 hbk1 hak2 hbk2
         have hqb:qb<wr.heap.size:=cell_lt (a:=⟨qb,qo+k*2,none⟩) hc3
         dsimp only at cM
         generalize X7 ⟨ak,at'⟩ ⟨bk,bt⟩=mp at *
         generalize Xb ⟨ak,at'⟩ ⟨bk,bt⟩=b1 at *
         obtain⟨ck,ct⟩:=mp
         dsimp only at cM hok
         have HMM:=Lib.hid cM
         have HMT2:=Lib.hid hmt
         have hk0:(0:Int)≤(k:Int):=by omega
         have hki:(k:Int)<(nq:Int):=by omega
         clear hb hcell e1 e2 hdy hmt cM HMT
         go_upto_region 11 with fail
         go_cut [5] (fun c wx=>c=.bool b1∧Qv wx wr.heap.size 101 #[.int .i64 ck,.string ct] (0,0)∧Below wr.heap.size wr wx)
         case first =>
          have g1:(wr.alloc (.cells #[.int .i64 ak,.string at'] 101)).cell? ⟨wr.heap.size,0,none⟩=some (.int .i64 ak):=by simp[go_sem]
          have g2:(wr.alloc (.cells #[.int .i64 ak,.string at'] 101)).cell? ⟨wr.heap.size,1,none⟩=some (.string at'):=by simp[go_sem]
          go_region_law (go_simp;go_at_call 174;refine (HMM.out _).mono ?_;rintro e w2 ⟨rfl,hb2⟩;replace hb2:=undrew hb2;have hT:Qv w2 wr.heap.size 101 #[.int .i64 ak,.string at'] (0,0):=(hb2.block wr.heap.size (by simp)).trans (World.alloc_heap_new _ _);have hT0:=hT.cell 0;have hT1:=hT.cell 1;have hF0:=hT.free0 0;have hF1:=hT.free0 1)
          all_goals go_wp2_with fail
          all_goals go_meet
          all_goals exact⟨rfl,Qv.set_ (Qv.set_ hT 0 (.int .i64 ck)) 1 (.string ct),((Za _ hb2).setCell (p:=⟨wr.heap.size,0,none⟩) (Nat.le_refl _) _).setCell (p:=⟨wr.heap.size,1,none⟩) (Nat.le_refl _) _⟩
         case rest =>
          obtain⟨rfl,hT,hbT⟩:=hcut
          cases b1
          ·have hRn:R=none:=by
            have:=HMT2.out
            simp only[Bool.false_eq_true,if_false]at this
            rw[HR.out,this];rfl
           subst hRn
           have hB2:Z4 wc (w.heap.size+1+1) mk mt (.slice A1 k c1) tl:=(hbT.block _ hs2).trans hB
           have hbE:Below w.heap.size w wc:=Qj hbw2 hbT
           clear HR HMT2 hown hB y0 y1 y2 y3 o0 o1 o2 o3 q0 q1 q2 q3 hc1 hc2 hc3 hc4
           obtain⟨o0,o1,o2,o3,q0,q1,q2,q3⟩:=hB2.facts
           go_wp2_with fail
           have hB3:Z4 _ (w.heap.size+1+1) mk mt (.slice A1 k c1) tl:=Z4.set2 (k2:=mk) (t2:=mt) (v2:=.slice A1 k c1) (b2:=tl) hB2
           have hbE2:=(((hbE.setCell (p:=⟨w.heap.size+1+1,0,none⟩) (by simp;omega) (.int .i64 mk)).setCell (p:=⟨w.heap.size+1+1,1,none⟩) (by simp;omega) (.string mt)).setCell (p:=⟨w.heap.size+1+1,2,none⟩) (by simp;omega) (.slice A1 k c1)).setCell (p:=⟨w.heap.size+1+1,3,none⟩) (by simp;omega) (.bool tl)
           revert hB3 hbE2
           generalize ((((wc.setCell ⟨w.heap.size+1+1,0,none⟩ (.int .i64 mk)).setCell ⟨w.heap.size+1+1,1,none⟩ (.string mt)).setCell ⟨w.heap.size+1+1,2,none⟩ (.slice A1 k c1)).setCell ⟨w.heap.size+1+1,3,none⟩ (.bool tl))=W'
           intro hB3 hbE2
           obtain⟨p0,p1,p2,p3,_⟩:=hB3.facts
           clear o0 o1 o2 o3 q0 q1 q2 q3
           exact bodyPost_ret (v:=.tuple #[.agg #[.int .i64 mk,.string mt,.slice A1 k c1,.bool tl],.bool false]) (by simp[results,Tryz.results125,go_sem,p0,p1,p2,p3]) rfl (XK.none_ _ _ _ _ _ _ hbE2)
          ·have HMT3:Hid (mtL [] ps qs=mtL (acc++[⟨ck,ct⟩]) (ps.drop (k+1)) (qs.drop (k+1))):=Lib.hid (by have:=HMT2.out;simpa using this)
           clear HMT2
           go_wp2_with fail
           go_meet
           exact⟨ck,ct,hok,hT,hbT,HMT3⟩
        ·have hd:decide (k<nq)=false:=decide_eq_false hkm
         have hyd:∀ j,k≤j→qs.drop j=[]:=fun j hj=>List.drop_eq_nil_of_le (by have:=HM.out;omega)
         have HC2:Hid (mtL [] ps qs=mtL (acc++[⟨ak,at'⟩]) (ps.drop (k+1)) (qs.drop (k+1))):=Lib.hid (by have:=HMT.out;rw[hyd k (Nat.le_refl _),mtL]at this;rw[hyd (k+1) (by omega)];exact this)
         clear hyd HMT
         go_wp2_with fail
         go_meet
         exact⟨ak,at',⟨hak1,hak2⟩,World.alloc_heap_new _ _,Qk (Below.refl _ _) _,HC2⟩
       case rest =>
        obtain⟨ck,ct,⟨hck1,hck2⟩,hT,hbT,HC2⟩:=hcut
        have hB2:Z4 wc (w.heap.size+1+1) mk mt (.slice A1 k c1) tl:=(hbT.block _ hs2).trans hB
        have hown2:=Ql hown hbT
        have hbw3:Below w.heap.size w wc:=Qj hbw2 hbT
        have hzc2:=hbT.size
        have HFR2:Hid (∀ j,j<w1.heap.size→j≠w.heap.size+1+1→wc.heap[j]? = w1.heap[j]?):=Lib.hid (fun j q1 q2=>(hbT.block j (by omega)).trans (HFR.out j q1 q2))
        clear HMT hown hB y0 y1 y2 y3 o0 o1 o2 o3 q0 q1 q2 q3 hc1 hc2 HFR
        obtain⟨o0,o1,o2,o3,q0,q1,q2,q3⟩:=hB2.facts
        have hT0:=hT.cell 0
        have hT1:=hT.cell 1
        go_wp2_with (at_builtin;refine wpList_append_own _ rfl _ _ 102 rfl w1.heap.size 101 i0 (.agg #[.int .i64 0,.string ⟨#[]⟩]) 2 24 Tryz.underlying102 HI.out.1 HI.out.2.1 HI.out.2.2.1 HI.out.2.2.2 rfl (by decide) _ _ _ rfl (hown2.alloc _) ⟨wc.heap.size,0,none⟩ 1 1 [.int .i64 ck,.string ct] rfl rfl (World.news_of_block (cs:=#[.int .i64 ck,.string ct]) (t:=101) (fr:=(0,0)) (World.alloc_heap_new wc _)) (by simp[Value.oneCell']) (by unfold maxLen;omega) (by omega) (by simp;omega) ?_;intro v' w3 hown' hgrow _;obtain⟨g',cap',rfl⟩:=ownsRow_succ hown';have hB3:Z4 w3 (w.heap.size+1+1) mk mt (.slice A1 k c1) tl:=(hgrow.block _ (by simp;omega) (fun e=>by have:=Qu hown2 _ e.symm;omega)).trans ((Below.heap_alloc wc _ _ (by omega)).trans hB2);clear o0 o1 o2 o3 q0 q1 q2 q3;obtain⟨o0,o1,o2,o3,q0,q1,q2,q3⟩:=hB3.facts)
        have hal:(acc++[(⟨ck,ct⟩:Part)]).length=k+1:=by have:=HAK.out;simp;omega
        have hpc:QZ (acc++[⟨ck,ct⟩])=QZ acc++[.int .i64 ck,.string ct]:=by simp[QZ]
        exact⟨⟨k+1,acc++[⟨ck,ct⟩],some ⟨g',0,none⟩,cap',⟨by go_num,by omega,hal⟩,HC2,Qv.set_ hB3 2 _,by rw[hpc];exact Xv hown' (fun j hj=>Below.heap_setCell _ _ _ _ (by simp;omega)),((hbw3.alloc (by omega) _).grown hgrow (by simp;omega) (fun r e=>by have:=Qu hown2 r e;omega)).setCell (p:=⟨w.heap.size+1+1,2,none⟩) (by simp;omega) _,Lib.hid (fun j q1 q2=>(Below.heap_setCell _ _ _ _ (by simpa using q2)).trans ((hgrow.block j (by simp;omega) (fun e=>by have:=Qu hown2 _ e.symm;omega)).trans ((Below.heap_alloc wc _ j (by omega)).trans (HFR2.out j q1 q2)))),by have:=hgrow.size;simp[World.setCell]at this ⊢;omega⟩,by simp[intOf];omega⟩
      ·obtain rfl:k=np:=by omega
       go_wp2_with fail
       have hend:mtL [] ps qs=some acc:=by
        rw[HC.out,List.drop_eq_nil_of_le (by have:=HN.out;omega)]
        cases (qs.drop k) <;> rfl
       have hRs:R=some ⟨⟨mk,mt⟩,acc,tl⟩:=by rw[HR.out,hend,HTL.out];rfl
       subst hRs
       have hob:∀ a,A1=some a→a.block≠w.heap.size+1+1:=fun a ha=>by have:=Qu hown a.block (by rw[ha];rfl);omega
       have hob2:∀ a,A1=some a→w.heap.size≤a.block:=fun a ha=>by have:=Qu hown a.block (by rw[ha];rfl);omega
       have hbE:=hbw2
       have hB3:Z4 _ (w.heap.size+1+1) mk mt (.slice A1 k c1) tl:=Z4.set2 (k2:=mk) (t2:=mt) (v2:=.slice A1 k c1) (b2:=tl) hB
       have hbE2:=(((hbE.setCell (p:=⟨w.heap.size+1+1,0,none⟩) (by simp;omega) (.int .i64 mk)).setCell (p:=⟨w.heap.size+1+1,1,none⟩) (by simp;omega) (.string mt)).setCell (p:=⟨w.heap.size+1+1,2,none⟩) (by simp;omega) (.slice A1 k c1)).setCell (p:=⟨w.heap.size+1+1,3,none⟩) (by simp;omega) (.bool tl)
       have hRd:Reads ((((wr.setCell ⟨w.heap.size+1+1,0,none⟩ (.int .i64 mk)).setCell ⟨w.heap.size+1+1,1,none⟩ (.string mt)).setCell ⟨w.heap.size+1+1,2,none⟩ (.slice A1 k c1)).setCell ⟨w.heap.size+1+1,3,none⟩ (.bool tl)) 2 A1 k (QZ acc):=((((Reads.of_own hown).set_ _ _ hob).set_ _ _ hob).set_ _ _ hob).set_ _ _ hob
       revert hB3 hbE2 hRd
       generalize ((((wr.setCell ⟨w.heap.size+1+1,0,none⟩ (.int .i64 mk)).setCell ⟨w.heap.size+1+1,1,none⟩ (.string mt)).setCell ⟨w.heap.size+1+1,2,none⟩ (.slice A1 k c1)).setCell ⟨w.heap.size+1+1,3,none⟩ (.bool tl))=W'
       intro hB3 hbE2 hRd
       obtain⟨p0,p1,p2,p3,_⟩:=hB3.facts
       clear o0 o1 o2 o3 q0 q1 q2 q3 y0 y1 y2 y3
       exact bodyPost_ret (v:=.tuple #[.agg #[.int .i64 mk,.string mt,.slice A1 k c1,.bool tl],.bool true]) (by simp[results,Tryz.results125,go_sem,p0,p1,p2,p3]) rfl ⟨hbE2,A1,c1,by rw[HAK.out],by rw[HAK.out];exact hRd,hob2⟩
structure Zt (x:Z7):Prop where
 cust:Jj x.cust
 parts:∀ p∈x.parts,Qa p
 num:x.parts.length+(if x.tail then 1 else 0)≤32
theorem extract_data (s:ByteArray) (i:Nat):(s.extract i s.size).data.toList=s.data.toList.drop i:=by
 rw[Lib.extract_to_end]
theorem extract_head (s:ByteArray):(s.extract 0 1).data.toList=s.data.toList.take 1:=by
 rw[Lib.extract_data];simp
theorem UJ {w:ByteArray} (h:Qg w=true):Q7 w=⟨0,w⟩:=by
 obtain⟨h1,_⟩:=Uy h
 have h42:=(X5 h).2.2.2.2.1
 unfold Q7
 split
 ·rfl
 ·rw[if_pos]
  rw[Lib.toList_data,extract_head]
  obtain⟨b,l,hl⟩:=List.exists_cons_of_ne_nil h1
  rw[hl]at h42 ⊢
  simp only[List.mem_cons,not_or]at h42
  simp only[List.take_succ_cons,List.take_zero,Bool.not_eq_true',beq_eq_false_iff_ne,ne_eq,List.cons.injEq,and_true]
  exact fun e=>h42.1 e.symm
theorem KZ {w:ByteArray} (r:List UInt8) (h:w.data.toList=42 :: r):Q7 w=if r.isEmpty then ⟨2,⟨#[]⟩⟩ else ⟨1,⟨r.toArray⟩⟩:=by
 have hz:w.size=r.length+1:=by rw[Qn,h];rfl
 have e1:(w.extract 0 1).toList=[42]:=by rw[Lib.toList_data,extract_head,h];rfl
 have e2:(w.extract 1 w.size).data.toList=r:=by rw[extract_data,h];rfl
 have e3:w.extract 1 w.size=⟨r.toArray⟩:=Qm (by rw[e2])
 unfold Q7
 rw[if_neg (by omega),e1,e3,Lib.toList_data]
 simp only[BEq.rfl,Bool.not_true,Bool.false_eq_true,if_false]
 cases r <;> rfl
theorem star_fit:Qa ⟨2,⟨#[]⟩⟩:=.inr (.inr ⟨rfl,rfl⟩)
theorem headOk_fit {w:ByteArray} (h:Xq w=true):Jj (Q7 w):=by
 unfold Xq at h
 rw[Bool.or_eq_true,Lib.toList_data,beq_iff_eq]at h
 rcases h with h | h
 ·rw[KZ [] h];exact .inr ⟨rfl,rfl⟩
 ·rw[UJ (Xz h)];exact .inl ⟨rfl,h⟩
theorem prefix_two {l:List UInt8} (h:Lib.hasPrefix l [42,46]=true):∃ r,l=42 :: 46 :: r:=by
 unfold Lib.hasPrefix at h
 rw[List.isPrefixOf_iff_prefix]at h
 obtain⟨r,hr⟩:=h
 exact⟨r,hr.symm⟩
theorem partOk_fit {w:ByteArray} (h:Kv w=true):Qa (Q7 w):=by
 unfold Kv at h
 rw[Bool.or_eq_true,Bool.or_eq_true,Lib.toList_data,beq_iff_eq]at h
 rcases h with (h | h) | h
 ·rw[KZ [] h];exact star_fit
 ·rw[UJ h];exact .inl ⟨rfl,h⟩
 ·simp only[Bool.and_eq_true,decide_eq_true_eq]at h
  obtain⟨⟨h1,h2⟩,h3⟩:=h
  obtain⟨r,hr⟩:=prefix_two h2
  rw[KZ (46 :: r) hr]
  have e:(w.extract 2 w.size).data.toList=r:=by rw[extract_data,hr];rfl
  have hz:w.size=r.length+2:=by rw[Qn,hr];rfl
  refine .inr (.inl ⟨rfl,w.extract 2 w.size,h3,?_,?_⟩)
  ·rw[Qn,e];omega
  ·show (46 :: r)=46 :: _
   rw[e]
theorem cmpL_fit:∀ (l:List ByteArray) (acc:List Part) (r:List Part × Bool),(∀ p∈acc,Qa p)→cmpL l acc=some r→(∀ p∈r.1,Qa p)∧r.1.length+(if r.2 then 1 else 0)=acc.length+l.length
 | [],acc,r,h,e=>by simp[cmpL]at e;subst e;exact⟨h,by simp⟩
 | w :: l,acc,r,h,e=>by
  rw[cmpL]at e
  split at e
  ·rename_i hc
   injection e with e;subst e
   simp only[Bool.and_eq_true,List.isEmpty_iff]at hc
   exact⟨h,by simp[hc.2]⟩
  ·split at e
   ·rename_i hk
    have:=cmpL_fit l (acc++[Q7 w]) r (fun p hp=>by
     rcases List.mem_append.1 hp with hp | hp
     ·exact h p hp
     ·rw[List.mem_singleton.1 hp];exact partOk_fit hk) e
    exact⟨this.1,by rw[this.2];simp;omega⟩
   ·cases e
theorem compL_fit {l:List ByteArray} {x:Z7} (h:Vq l=some x):Zt x:=by
 cases l with
 | nil=>cases h
 | cons l0 r =>
  rw[Vq]at h
  by_cases hc:(decide (r.length≤32)&&Xq l0)=true
  ·have hc2:=hc
   rw[Bool.and_eq_true,decide_eq_true_eq]at hc2
   rw[if_pos hc]at h
   obtain⟨y,hy,rfl⟩:=Option.map_eq_some_iff.1 h
   have:=cmpL_fit r [] y (fun p hp=>by cases hp) hy
   exact⟨headOk_fit hc2.2,this.1,by show y.1.length+(if y.2=true then 1 else 0)≤32;have h1:=hc2.1;have h2:=this.2;simp at h2;omega⟩
  ·rw[if_neg (by simpa using hc)]at h;cases h
theorem Zq {s:ByteArray} {x:Z7} (h:Qx s=some x):Zt x:=compL_fit h
theorem Ve:∀ (ps:List Part) (ws:List ByteArray),QQ ps ws=true→ps.length≤ws.length
 | [],_,_=>by simp
 | p :: ps,[],h=>by simp[QQ]at h
 | p :: ps,w :: ws,h=>by
  simp only[QQ,Bool.and_eq_true]at h
  have:=Ve ps ws h.2
  simpa using this
theorem U1 (x:Z7) (a:Adr):Xu x a=true↔Jw x.cust.kind x.cust.text a.cust=true∧QQ x.parts a.path=true∧(x.tail=true∨a.path.length=x.parts.length):=by
 unfold Xu
 have key:QQ x.parts a.path=true→((!decide (a.path.length<x.parts.length)&&!(decide (x.parts.length<a.path.length)&&!x.tail))=true↔(x.tail=true∨a.path.length=x.parts.length)):=by
  intro h
  have:=Ve _ _ h
  cases x.tail <;> simp <;> omega
 cases h1:Jw x.cust.kind x.cust.text a.cust
 ·simp
 ·cases h2:QQ x.parts a.path
  ·simp
  ·have:=key h2
   rw[←this]
   simp
theorem matchesL_words:∀ (ps:List Part),(∀ p∈ps,Qa p)→∀ ex,QQ ps (Xl ps++ex)=true
 | [],_,ex=>by simp[QQ]
 | p :: ps,h,ex=>by
  have h1:=(with_fit (h p (by simp)) (c:=97) (.inl rfl)).2
  have h2:=matchesL_words ps (fun q hq=>h q (by simp[hq])) ex
  simp only[Xl,List.map_cons,List.cons_append,QQ,h1,Bool.true_and]at h2 ⊢
  exact h2
theorem mtL_some:∀ (xs ys acc r:List Part),(∀ p∈xs,Qa p)→(∀ p∈ys,Qa p)→ys.length≤xs.length→mtL acc xs ys=some r →
  ∃ r',r=acc++r'∧r'.length=xs.length∧(∀ p∈r',Qa p)∧∀ ws,QQ r' ws=(QQ xs ws&&QQ ys ws)
 | [],[],acc,r,_,_,_,e=>by
  simp[mtL]at e;subst e
  exact⟨[],by simp,rfl,by simp,fun ws=>by simp[QQ]⟩
 | [],b :: ys,acc,r,_,_,hl,_=>by simp at hl
 | a :: xs,[],acc,r,hx,hy,_,e=>by
  rw[mtL]at e
  obtain⟨r',h1,h2,h3,h4⟩:=mtL_some xs [] (acc++[a]) r (fun p hp=>hx p (by simp[hp])) hy (by simp) e
  refine⟨a :: r',by rw[h1];simp,by simp[h2],?_,fun ws=>?_⟩
  ·intro p hp
   rcases List.mem_cons.1 hp with rfl | hp
   ·exact hx p (by simp)
   ·exact h3 p hp
  ·cases ws with
   | nil=>simp[QQ]
   | cons w ws =>
    have:=h4 ws
    simp only[QQ,Bool.and_true]at this ⊢
    rw[this]
 | a :: xs,b :: ys,acc,r,hx,hy,hl,e=>by
  rw[mtL]at e
  split at e
  ·rename_i hm
   have ha:=hx a (by simp)
   have hb:=hy b (by simp)
   obtain⟨r',h1,h2,h3,h4⟩:=mtL_some xs ys (acc++[X7 a b]) r (fun p hp=>hx p (by simp[hp])) (fun p hp=>hy p (by simp[hp])) (by simpa using hl) e
   refine⟨X7 a b :: r',by rw[h1];simp,by simp[h2],?_,fun ws=>?_⟩
   ·intro p hp
    rcases List.mem_cons.1 hp with rfl | hp
    ·exact meetP_fit ha hb
    ·exact h3 p hp
   ·cases ws with
    | nil=>simp[QQ]
    | cons w ws =>
     simp only[QQ]
     rw[h4 ws,meets_has ha hb hm w]
     cases Jw a.kind a.text w <;> cases Jw b.kind b.text w <;> cases QQ xs ws <;> rfl
  ·cases e
theorem mtL_none:∀ (xs ys acc:List Part),(∀ p∈xs,Qa p)→(∀ p∈ys,Qa p)→mtL acc xs ys=none→∀ ws,QQ xs ws=true→QQ ys ws=true→False
 | [],ys,acc,_,_,e,ws,_,_=>by
  have:mtL acc [] ys=some acc:=by cases ys <;> rfl
  rw[this]at e;cases e
 | a :: xs,[],acc,hx,hy,e,ws,h1,h2=>by
  rw[mtL]at e
  cases ws with
  | nil=>simp[QQ]at h1
  | cons w ws =>
   simp only[QQ,Bool.and_eq_true]at h1
   exact mtL_none xs [] (acc++[a]) (fun p hp=>hx p (by simp[hp])) hy e ws h1.2 rfl
 | a :: xs,b :: ys,acc,hx,hy,e,ws,h1,h2=>by
  rw[mtL]at e
  cases ws with
  | nil=>simp[QQ]at h1
  | cons w ws =>
   simp only[QQ,Bool.and_eq_true]at h1 h2
   split at e
   ·exact mtL_none xs ys _ (fun p hp=>hx p (by simp[hp])) (fun p hp=>hy p (by simp[hp])) e ws h1.2 h2.2
   ·rename_i hm
    exact not_meets (hx a (by simp)) (hy b (by simp)) (by simpa using hm) w h1.1 h2.1
theorem commonO_some {x y z:Z7} (hx:Zt x) (hy:Zt y) (hl:y.parts.length≤x.parts.length) (h:Jd x y=some z):Zt z∧∀ a,Xu z a=(Xu x a&&Xu y a):=by
 unfold Jd at h
 split at h
 ·cases h
 ·rename_i hc
  obtain⟨l,hl2,rfl⟩:=Option.map_eq_some_iff.1 h
  simp only[Bool.not_eq_true,Bool.or_eq_false_iff,Bool.not_eq_false',Bool.and_eq_false_iff,decide_eq_false_iff_not,Bool.not_eq_eq_eq_not,Bool.not_false]at hc
  obtain⟨hm,ht⟩:=hc
  obtain⟨r',h1,h2,h3,h4⟩:=mtL_some _ _ [] l hx.parts hy.parts hl hl2
  rw[List.nil_append]at h1;subst h1
  constructor
  ·refine⟨meetP_cust hx.cust hy.cust,h3,?_⟩
   show l.length+_≤32
   rw[h2]
   have:=hx.num
   cases hxt:x.tail <;> simp[hxt]at this ⊢ <;> (try split) <;> omega
  ·intro a
   rw[Bool.eq_iff_iff,Bool.and_eq_true,U1,U1,U1]
   show Jw (X7 x.cust y.cust).kind (X7 x.cust y.cust).text a.cust=true∧QQ l a.path=true∧((x.tail&&y.tail)=true∨a.path.length=l.length)↔_
   rw[meets_has hx.cust.part hy.cust.part hm,h4,h2,Bool.and_eq_true,Bool.and_eq_true,Bool.and_eq_true]
   constructor
   ·rintro⟨⟨e1,e2⟩,⟨e3,e4⟩,e5⟩
    refine⟨⟨e1,e3,?_⟩,e2,e4,?_⟩
    ·rcases e5 with e5 | e5
     ·exact .inl e5.1
     ·exact .inr e5
    ·rcases e5 with e5 | e5
     ·exact .inl e5.2
     ·rcases ht with ht | ht
      ·exact .inr (by omega)
      ·exact .inl ht
   ·rintro⟨⟨e1,e3,e5⟩,e2,e4,e6⟩
    refine⟨⟨e1,e2⟩,⟨e3,e4⟩,?_⟩
    have:=Ve _ _ e3
    rcases e5 with e5 | e5
    ·rcases e6 with e6 | e6
     ·exact .inl ⟨e5,e6⟩
     ·exact .inr (by omega)
    ·exact .inr e5
theorem commonO_none {x y:Z7} (hx:Zt x) (hy:Zt y) (h:Jd x y=none) (a:Adr) (h1:Xu x a=true) (h2:Xu y a=true):False:=by
 rw[U1]at h1 h2
 unfold Jd at h
 split at h
 ·rename_i hc
  simp only[Bool.or_eq_true,Bool.not_eq_true',Bool.and_eq_true,decide_eq_true_eq]at hc
  rcases hc with hc | ⟨hc1,hc2⟩
  ·exact not_meets hx.cust.part hy.cust.part hc a.cust h1.1 h2.1
  ·have:=Ve _ _ h1.2.1
   rcases h2.2.2 with e | e
   ·rw[hc2]at e;cases e
   ·omega
 ·rw[Option.map_eq_none_iff]at h
  exact mtL_none _ _ [] hx.parts hy.parts h a.path h1.2.1 h2.2.1
theorem J4 {x y z:Z7} (hx:Zt x) (hy:Zt y) (h:QK x y=some z):Zt z∧∀ a,Xu z a=(Xu x a&&Xu y a):=by
 unfold QK at h
 split at h
 ·rename_i hl
  obtain⟨h1,h2⟩:=commonO_some hy hx (by omega) h
  exact⟨h1,fun a=>by rw[h2,Bool.and_comm]⟩
 ·rename_i hl
  exact commonO_some hx hy (by omega) h
theorem commonP_none {x y:Z7} (hx:Zt x) (hy:Zt y) (h:QK x y=none) (a:Adr):(Xu x a&&Xu y a)=false:=by
 rw[Bool.eq_false_iff]
 intro hm
 rw[Bool.and_eq_true]at hm
 unfold QK at h
 split at h
 ·exact commonO_none hy hx h a hm.2 hm.1
 ·exact commonO_none hx hy h a hm.1 hm.2
def exA (z:Z7):Adr:=⟨XV z.cust.kind z.cust.text ⟨#[97]⟩,Xl z.parts,[]⟩
theorem Yy (ps:List Part):(Xl ps).length=ps.length:=by simp[Xl]
theorem exA_match {z:Z7} (hz:Zt z):Xu z (exA z)=true:=by
 rw[U1]
 refine⟨(with_fit hz.cust.part (.inl rfl)).2,?_,.inr (Yy _)⟩
 have:=matchesL_words z.parts hz.parts []
 rwa [List.append_nil]at this
def Wv:List Part→List Part→Bool
 | [],_=>true
 | _ :: _,[]=>false
 | a :: xs,b :: ys=>Zb a.kind a.text b.kind b.text&&Wv xs ys
def coverB (x y:Z7):Bool :=
 Zb x.cust.kind x.cust.text y.cust.kind y.cust.text&&!decide (y.parts.length<x.parts.length)&&!(decide (x.parts.length<y.parts.length)&&!x.tail)&&!(y.tail&&!x.tail)&&Wv x.parts y.parts
def toN (l:List Nat):ByteArray:=⟨(l.map UInt8.ofNat).toArray⟩
def D2 (m:List Nat) (x:ByteArray) (j:Nat) (v:Value) (w:World):Prop :=
 match j with
 | 0=>StrV m v
 | 1=>v=.string x
 | 2=>∃ A c,v=.slice A (Sha.wireB (nb x)).length c∧Reads w 1 A (Sha.wireB (nb x)).length (b8 (Sha.wireB (nb x)))
 | 3=>v=.string (toN (Sha.wireB (nb x)))
 | 4=>StrV (m++Sha.wireB (nb x)) v
 | _=>True
theorem D2.keep {m:List Nat} {x:ByteArray} (j:Nat) (v:Value) (w w':World) (h:D2 m x j v w) (hb:Below w.heap.size w w'):D2 m x j v w':=by
 unfold D2 at h
 split at h
 all_goals first
  | exact h
  | (obtain⟨A,c,e,hR⟩:=h;exact⟨A,c,e,hR.keep hb⟩)
  | (unfold D2;split <;> first | trivial | (exfalso;simp_all;done))
end Go.Proofs.YticlbkficolocaaGreatDoor
