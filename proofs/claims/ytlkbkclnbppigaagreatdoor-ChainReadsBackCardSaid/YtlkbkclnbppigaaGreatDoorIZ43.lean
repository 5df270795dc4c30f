/- The specification's Same of two signed addresses that are the same. -/
import Derived.Test.YtlkbkclnbppigaaGreatDoorIZ41
set_option maxHeartbeats 16000000
namespace Go.Proofs.YtlkbkclnbppigaaGreatDoor
open Go.RowKit Go.Sort
set_option linter.unusedVariables false
set_option linter.unusedSimpArgs false
set_option maxRecDepth 100000
structure TsS (w:World) (x y:TokM) (W:World):Prop where
 x:TBox W w.heap.size x
 y:TBox W (w.heap.size+1) y
 b:Below w.heap.size w W
theorem TsS.keep {w W W':World} {x y:TokM} (h:TsS w x y W) (hb:Below W.heap.size W W'):TsS w x y W':=⟨h.x.keep hb,h.y.keep hb,bstep h.b hb⟩
theorem rTSame_any (x y:TokM) (w:World) (hx:TokReads w x) (hy:TokReads w y) (he:y.t=x.t) (hf:∀ z∈x.L,CondFits z.c) (hn:x.t.conds.length≤1000) :
  Calls Tryz.prog 16 #[x.val,y.val] w (Ret w (.bool true)):=by
 have hsx:=fun (W:World) (g:Nat) (h:TBox W g x)=>tok_seal hx h
 have hsy:=fun (W:World) (g:Nat) (h:TBox W g y)=>tok_seal hy h
 rw[he]at hsy
 have heq:=fun W=>sl_neq x.t.sl x.t.sl hx.sl hx.sl W
 have heq2:=fun W=>sl_eqIn x.t.sl x.t.sl hx.sl hx.sl W
 rw[show decide (x.t.sl=x.t.sl)=true from decide_eq_true rfl]at heq heq2
 have hL:∀ i,i<x.t.conds.length→∃ u v,x.L[i]? = some u∧y.L[i]? = some v∧v.c=u.c:=by
  intro i hi
  have h1:(x.L.map (·.c))[i]? = (y.L.map (·.c))[i]?:=by rw[hx.same,hy.same,he]
  have l1:=hx.conds.len
  have l2:=hy.conds.len
  rw[he]at l2
  obtain⟨u,hu⟩:∃ u,x.L[i]? = some u:=⟨_,List.getElem?_eq_getElem (by omega)⟩
  obtain⟨v,hv⟩:∃ v,y.L[i]? = some v:=⟨_,List.getElem?_eq_getElem (by omega)⟩
  refine⟨u,v,hu,hv,?_⟩
  rw[List.getElem?_map,List.getElem?_map,hu,hv]at h1
  exact (Option.some.inj h1).symm
 have hsm:=fun (u v:CoM) (hu:u∈x.L) (hv:v∈y.L) (e:v.c=u.c) (W:World) (hb:Below w.heap.size w W)=>(show Calls Tryz.prog 21 #[CondMem.val u.c u.m,CondMem.val v.c v.m] W (Ret W (.bool true)) from e.symm▸same_cond u.c u.m v.m W ((hx.conds.each u hu).keep hb) (e▸((hy.conds.each v hv).keep hb)) (hf u hu))
 have hax:=fun (i:Nat) (u:CoM) (h:x.L[i]? = some u)=>hx.conds.at_ h
 have hay:=fun (i:Nat) (u:CoM) (h:y.L[i]? = some u)=>hy.conds.at_ h
 simp only[val_condA]at hsm
 generalize hS:(b8 x.t.sl).toArray=S at *
 generalize hln:x.t.conds.length=n at *
 have hly:y.t.conds.length=n:=by rw[he];exact hln
 have HSX:=Lib.hid hsx;have HSY:=Lib.hid hsy;have HEQ:=Lib.hid heq;have HEQ2:=Lib.hid heq2;have HL:=Lib.hid hL;have HSM:=Lib.hid hsm;have HAX:=Lib.hid hax;have HAY:=Lib.hid hay;have HLX:=Lib.hid hln;have HLY:=Lib.hid hly;have HTE:=Lib.hid he
 clear hsx hsy heq heq2 hL hsm hax hay hln hly he hS hx hy hf
 unfold TokM.val
 go_enter Tryz.func16,Tryz.ntmps16
 go_upto_region 1 with fail
 generalize hw0:World.alloc _ _=w0
 have hS0:TsS w x y w0:=by rw[←hw0];exact⟨⟨(alloc2_box w _ _).1⟩,⟨(alloc2_box w _ _).2⟩,belB⟩
 clear hw0
 obtain⟨y0,y1,y2,y3⟩:=hS0.x.cells
 obtain⟨z0,z1,z2,z3⟩:=hS0.y.cells
 rw[HLX.out]at y3
 rw[HLY.out]at z3
 rw[HTE.out]at z0 z1 z2
 have e2:=HEQ2.out w0
 have HSZ:=Lib.hid hS0
 clear hS0
 go_wp2_with (first | (go_big_want;refine wp_load_addr 30 _ rfl ⟨w.heap.size,4,none⟩ (.agg S) rfl (HSX.out _ _ HSZ.out.x) ?_;simp only[Act.put,List.setIfInBounds_toArray,List.set_cons_succ,List.set_cons_zero]) | (go_big_want;refine wp_load_addr 30 _ rfl ⟨w.heap.size+1,4,none⟩ (.agg S) rfl (HSY.out _ _ HSZ.out.y) ?_;simp only[Act.put,List.setIfInBounds_toArray,List.set_cons_succ,List.set_cons_zero]))
 clear y0 y1 y2 y3 z0 z1 z2 z3 e2
 go_loopw [5] (fun vi wr=>∃ k:Nat,(vi=.int .i64 k∧k≤n)∧Hid (TsS w x y wr)) (fun vi _=>n-(intOf vi).toNat)
 case atStart=>exact⟨0,⟨rfl,Nat.zero_le _⟩,HSZ⟩
 case round =>
  obtain⟨k,⟨rfl,hk⟩,HS⟩:=hrel
  obtain⟨y0,y1,y2,y3⟩:=HS.out.x.cells
  rw[HLX.out]at y3
  by_cases hlt:k<n
  ·obtain⟨u,v,hu,hv,e⟩:=HL.out k hlt
   obtain⟨_,b,o,hA,hc⟩:=HAX.out k u hu
   obtain⟨_,b',o',hA',hc'⟩:=HAY.out k v hv
   have hcx:=fun (W:World) (hb:Below w.heap.size w W)=>cond_load W b (o+k*7) u (fun j z hz=>cell_keep hb (hc j z hz))
   have hcy:=fun (W:World) (hb:Below w.heap.size w W)=>cond_load W b' (o' + k*7) v (fun j z hz=>cell_keep hb (hc' j z hz))
   have hs:=HSM.out u v (List.mem_of_getElem? hu) (List.mem_of_getElem? hv) e
   simp only[val_condA]at hcx hcy
   generalize condA u.c u.m=UX at *
   generalize condA v.c v.m=VX at *
   have HCX:=Lib.hid hcx;have HCY:=Lib.hid hcy;have HSS:=Lib.hid hs;have HXA:=Lib.hid hA;have HYA:=Lib.hid hA'
   clear hcx hcy hs hu hv e hc hc' hA hA'
   have hk0:(0:Int)≤(k:Int):=by omega
   have hk1:(k:Int)<(n:Int):=by omega
   rw[HXA.out]at y3
   go_upto_region 6 with fail
   refine wp_det 12 (by kernel_rfl) (by kernel_rfl) (by kernel_rfl) (fun i=>[.pointer (some ⟨w.heap.size,3,none⟩),.slice (some ⟨b,o,none⟩) n x.c,.int .i64 k,.pointer (some ⟨b,o+k*7,none⟩),.agg UX,.pointer (some ⟨w.heap.size+1,3,none⟩),.slice (some ⟨b',o',none⟩) n y.c,.int .i64 k,.pointer (some ⟨b',o' + k*7,none⟩),.agg VX,.bool true,.bool true].getD i undef) (TsS w x y) (HS.out.keep (Below.drew (Below.refl _ _))) (fun _ _ h hb=>h.keep hb) ?_ ?_
   ·simp only[putL,putF,Act.put]
    refine⟨fun W hS=>?_,fun W hS=>?_,fun W hS=>?_,fun W hS=>?_,fun W hS=>?_,fun W hS=>?_,fun W hS=>?_,fun W hS=>?_,fun W hS=>?_,fun W hS=>?_,fun W hS=>?_,fun W hS=>?_,trivial⟩
    all_goals
     obtain⟨y0,y1,y2,y3⟩:=hS.x.cells
     obtain⟨z0,z1,z2,z3⟩:=hS.y.cells
     rw[HLX.out,HXA.out]at y3
     rw[HLY.out,HYA.out]at z3
     have hbW:=hS.b
     go_wp2_with (first | (refine wpList_load_wanted (by kernel_rfl) 27 _ rfl ⟨b,o+k*7,none⟩ (.agg UX) rfl (HCX.out _ hbW) ?_) | (refine wpList_load_wanted (by kernel_rfl) 27 _ rfl ⟨b',o' + k*7,none⟩ (.agg VX) rfl (HCY.out _ hbW) ?_) | (go_at_call 21;refine (HSS.out _ hbW).mono ?_;rintro e w2 ⟨rfl,hb2⟩))
     exact⟨rfl,rfl,by first | exact Below.refl _ _ | assumption⟩
   intro wy hSy
   simp only[putL,putF,Act.put]
   go_wp2
   exact⟨⟨k+1,⟨by go_num,by omega⟩,Lib.hid hSy⟩,by simp[intOf];omega⟩
  ·obtain rfl:k=n:=by omega
   have hbW:=HS.out.b
   go_wp2
   go_ret
   exact⟨rfl,hbW⟩
end Go.Proofs.YtlkbkclnbppigaaGreatDoor
