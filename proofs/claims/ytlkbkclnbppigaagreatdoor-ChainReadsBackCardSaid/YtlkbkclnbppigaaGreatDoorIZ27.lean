/- What the condition package's Text returns for a condition that is not valid. -/
import Derived.Test.YtlkbkclnbppigaaGreatDoorIZ24
set_option maxHeartbeats 4000000
namespace Go.Proofs.YtlkbkclnbppigaaGreatDoor
open Go.RowKit Go.Sort
set_option linter.unusedVariables false
set_option linter.unusedSimpArgs false
set_option maxRecDepth 100000
theorem text_bad (c:CondV) (m:CondMem) (w:World) (hR:CondReads w c m) (hc:CondFits c) (hv:validC c=false) (hE:Env w):Calls Tryz.prog 132 #[CondMem.val c m] w (Ret w (.tuple #[.string ⟨#[]⟩,.int .i64 1])):=by
 have c1:=fun W (hb:Below w.heap.size w W)=>hv▸condValid_any c m W (hR.keep hb) hc.p hc.cl hc.co hc.n1 hc.n2 hc.n3 (hE.keep hb)
 clear hR hc hv hE
 obtain⟨fr,till,pat,cl,co,si,us⟩:=c
 obtain⟨A,ca,B,cb,S,cs⟩:=m
 unfold CondMem.val at c1 ⊢
 dsimp only at c1 ⊢
 generalize cl.length=na at *
 generalize co.length=nb at *
 generalize si.length=ns at *
 have C1:=Lib.hid c1
 clear c1
 go_enter Tryz.func132,Tryz.ntmps132
 go_wp2_with (go_at_call 49;refine (C1.out _ belB).mono ?_;rintro e w2 ⟨rfl,hb2⟩)
 go_ret2
 exact⟨rfl,belB⟩
end Go.Proofs.YtlkbkclnbppigaaGreatDoor
