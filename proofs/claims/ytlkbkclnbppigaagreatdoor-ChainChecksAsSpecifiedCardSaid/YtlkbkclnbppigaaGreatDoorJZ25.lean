/- What the condition package's sample and Empty return. -/
import Derived.Test.YtlkbkclnbppigaaGreatDoorJZ22
set_option maxHeartbeats 4000000
namespace Go.Proofs.YtlkbkclnbppigaaGreatDoor
open Tryz
open Go.RowKit Go.Sort
set_option linter.unusedVariables false
set_option linter.unusedSimpArgs false
set_option maxRecDepth 100000
theorem eu.set1{w:World}{g:Nat}{ad cl co cl2:ByteArray}{si lo hi:Int}(h:eu w g ad cl co si lo hi):eu (w.setCell ⟨g,1,none⟩ (.string cl2)) g ad cl2 co si lo hi:=Blk.set_ h 1 (.string cl2)
theorem eu.set2{w:World}{g:Nat}{ad cl co co2:ByteArray}{si lo hi:Int}(h:eu w g ad cl co si lo hi):eu (w.setCell ⟨g,2,none⟩ (.string co2)) g ad cl co2 si lo hi:=Blk.set_ h 2 (.string co2)
theorem eu.put{w:World}{g:Nat}{ad cl co:ByteArray}{si lo hi:Int}(h:eu w g ad cl co si lo hi)(ad' cl' co':ByteArray)(si' lo' hi':Int):eu ((((((w.setCell ⟨g,0,none⟩ (.string ad')).setCell ⟨g,1,none⟩ (.string cl')).setCell ⟨g,2,none⟩ (.string co')).setCell ⟨g,3,none⟩ (.int .i64 si')).setCell ⟨g,4,none⟩ (.int .i64 lo')).setCell ⟨g,5,none⟩ (.int .i64 hi')) g ad' cl' co' si' lo' hi' :=
 Blk.set_ (Blk.set_ (Blk.set_ (Blk.set_ (Blk.set_ (Blk.set_ h 0 (.string ad')) 1 (.string cl')) 2 (.string co')) 3 (.int .i64 si')) 4 (.int .i64 lo')) 5 (.int .i64 hi')
theorem aDh{a w:World}{g:Nat}(h:Below a.heap.size a w)(hg:a.heap.size<=g)(v0 v1 v2 v3 v4 v5:Value):Below a.heap.size a ((((((w.setCell ⟨g,0,none⟩ v0).setCell ⟨g,1,none⟩ v1).setCell ⟨g,2,none⟩ v2).setCell ⟨g,3,none⟩ v3).setCell ⟨g,4,none⟩ v4).setCell ⟨g,5,none⟩ v5) :=
 (((((h.setCell (p:=⟨g,0,none⟩) hg _).setCell (p:=⟨g,1,none⟩) hg _).setCell (p:=⟨g,2,none⟩) hg _).setCell (p:=⟨g,3,none⟩) hg _).setCell (p:=⟨g,4,none⟩) hg _).setCell (p:=⟨g,5,none⟩) hg _
def QN(c:aZ):Bool × bn × Int:=if bG c then (if c.till<=c.fr then (true,uO,0) else (false,uP c,0)) else (false,uO,1)
theorem bz.own{w:World}{fr till us:Int}{pat:ByteArray}{cl co:List ByteArray}{si:List Int}{m:af}(h:bz w ⟨fr,till,pat,cl,co,si,us⟩ m):bz w ⟨fr,till,pat,cl,co,si,us⟩ m:=h
theorem aDi(c:aZ)(m:af)(w:World)(hR:bz w c m)(hc:dG c)(hv:bG c=false)(hE:Env w):Calls prog 132 #[af.val c m] w (Ret w (.tuple #[.string ⟨#[]⟩,.int .i64 1])):=by
 have c1:=fun W (hb:Below w.heap.size w W)=>hv▸uN c m W (hR.keep hb) hc.p hc.cl hc.co hc.n1 hc.n2 hc.n3 (hE.keep hb)
 clear hR hc hv hE;obtain⟨fr,till,pat,cl,co,si,us⟩:=c;obtain⟨A,ca,B,cb,S,cs⟩:=m;unfold af.val at c1 ⊢;dsimp only at c1 ⊢;generalize cl.length=na at *;generalize co.length=nb at *;generalize si.length=ns at *;have C1:=aB c1;clear c1;go_enter func132,ntmps132;go_wp2_with (go_at_call 49;refine (C1.out _ aG).mono ?_;rintro e w2 ⟨rfl,hb2⟩);go_ret2;exact⟨rfl,aG⟩
end Go.Proofs.YtlkbkclnbppigaaGreatDoor
