/- What the condition package's sample and Empty return. -/
import Derived.Test.YtlkbkclnbppigaaGreatDoorIZ22
set_option maxHeartbeats 4000000
namespace Go.Proofs.YtlkbkclnbppigaaGreatDoor
open Tryz
open Go.RowKit Go.Sort
set_option linter.unusedVariables false
set_option linter.unusedSimpArgs false
set_option maxRecDepth 100000
theorem iJ.set1{w:World}{g:Nat}{ad cl co cl2:aC}{si lo hi:Int}(h:iJ w g ad cl co si lo hi):iJ (w.setCell ⟨g,1,none⟩ (.string cl2)) g ad cl2 co si lo hi:=Blk.set_ h 1 (.string cl2)
theorem iJ.set2{w:World}{g:Nat}{ad cl co co2:aC}{si lo hi:Int}(h:iJ w g ad cl co si lo hi):iJ (w.setCell ⟨g,2,none⟩ (.string co2)) g ad cl co2 si lo hi:=Blk.set_ h 2 (.string co2)
theorem iJ.put{w:World}{g:Nat}{ad cl co:aC}{si lo hi:Int}(h:iJ w g ad cl co si lo hi)(ad' cl' co':aC)(si' lo' hi':Int):iJ ((((((w.setCell ⟨g,0,none⟩ (.string ad')).setCell ⟨g,1,none⟩ (.string cl')).setCell ⟨g,2,none⟩ (.string co')).setCell ⟨g,3,none⟩ (.int .i64 si')).setCell ⟨g,4,none⟩ (.int .i64 lo')).setCell ⟨g,5,none⟩ (.int .i64 hi')) g ad' cl' co' si' lo' hi' :=
 Blk.set_ (Blk.set_ (Blk.set_ (Blk.set_ (Blk.set_ (Blk.set_ h 0 (.string ad')) 1 (.string cl')) 2 (.string co')) 3 (.int .i64 si')) 4 (.int .i64 lo')) 5 (.int .i64 hi')
theorem V4{a w:World}{g:Nat}(h:aF a w)(hg:a.heap.size<=g)(v0 v1 v2 v3 v4 v5:Value):aF a ((((((w.setCell ⟨g,0,none⟩ v0).setCell ⟨g,1,none⟩ v1).setCell ⟨g,2,none⟩ v2).setCell ⟨g,3,none⟩ v3).setCell ⟨g,4,none⟩ v4).setCell ⟨g,5,none⟩ v5) :=
 (((((h.setCell (p:=⟨g,0,none⟩) hg _).setCell (p:=⟨g,1,none⟩) hg _).setCell (p:=⟨g,2,none⟩) hg _).setCell (p:=⟨g,3,none⟩) hg _).setCell (p:=⟨g,4,none⟩) hg _).setCell (p:=⟨g,5,none⟩) hg _
def Jo(c:aY):Bool × dN × Int:=if bF c then (if c.till<=c.fr then (true,qY,0) else (false,qZ c,0)) else (false,qY,1)
theorem dA.own{w:World}{fr till us:Int}{pat:aC}{cl co:List aC}{si:List Int}{m:ae}(h:dA w ⟨fr,till,pat,cl,co,si,us⟩ m):dA w ⟨fr,till,pat,cl,co,si,us⟩ m:=h
theorem V5(c:aY)(m:ae)(w:World)(hR:dA w c m)(hc:dE c)(hv:bF c=false)(hE:Env w):Calls prog 132 #[ae.val c m] w (Ret w (.tuple #[.string ⟨#[]⟩,.int .i64 1])):=by
 have c1:=fun W (hb:aF w W)=>hv▸qX c m W (hR.keep hb) hc.p hc.cl hc.co hc.n1 hc.n2 hc.n3 (hE.keep hb)
 clear hR hc hv hE;obtain⟨fr,till,pat,cl,co,si,us⟩:=c;obtain⟨A,ca,B,cb,S,cs⟩:=m;unfold ae.val at c1 ⊢;dsimp only at c1 ⊢;generalize cl.length=na at *;generalize co.length=nb at *;generalize si.length=ns at *;have C1:=aA c1;clear c1;go_enter func132,ntmps132;go_wp2_with (go_at_call 49;refine (C1.out _ aJ).mono ?_;rintro e w2 ⟨rfl,hb2⟩);go_ret2;exact⟨rfl,aJ⟩
end Go.Proofs.YtlkbkclnbppigaaGreatDoor
