/- What ChainReadsBack returns: true. -/
import Derived.Test.YtlkbkclnbppigaaGreatDoorIZ46
import Derived.Test.YtlkbkclnbppigaaGreatDoorIZ34
set_option maxHeartbeats 32000000
namespace Go.Proofs.YtlkbkclnbppigaaGreatDoor
open Go.RowKit Go.Sort
set_option linter.unusedVariables false
set_option linter.unusedSimpArgs false
set_option maxRecDepth 100000
structure RbS (w:World) (x:TokM) (W:World):Prop where
 t:TBox W w.heap.size x
 b:Below w.heap.size w W
theorem RbS.keep {w W W':World} {x:TokM} (h:RbS w x W) (hb:Below W.heap.size W W'):RbS w x W':=⟨h.t.keep hb,bstep h.b hb⟩
theorem few_tok {t:TokV} (h:fewTk t=true):(∀ c∈t.conds,fewV c=true)∧t.conds.length≤20∧t.id.size≤200:=by
 unfold fewTk at h
 simp only[Bool.and_eq_true,decide_eq_true_eq,List.all_eq_true]at h
 exact h
theorem few_in {w:World} {x:TokM} (hR:TokReads w x) (h:fewTk x.t=true):∀ y∈x.L,fewV y.c=true:=fun y hy=>(few_tok h).1 y.c (by rw[←hR.same];exact List.mem_map_of_mem hy)
theorem valid_in {w:World} {x:TokM} (hR:TokReads w x) (h:validT x.t=true):∀ y∈x.L,validC y.c=true:=fun y hy=>((validT_iff _).1 h).all y.c (by rw[←hR.same];exact List.mem_map_of_mem hy)
theorem readT_conds {s:ByteArray} {t:TokV} (h:readT s=some t) (hs:s.size≤100000):∀ c∈t.conds,CondFits c∧validC c=true∧(textC c).size≤100000:=by
 have hv:=(readT_some h).1
 unfold readT at h
 split at h
 ·rename_i hc
  injection h with h
  subst h
  simp only[Bool.and_eq_true]at hc
  have ho:=hc.1.1.1
  unfold okF at ho
  simp only[Bool.and_eq_true,decide_eq_true_eq,List.all_eq_true]at ho
  intro c hcm
  obtain⟨x,hx,rfl⟩:=List.mem_map.1 (show c∈(((splitB 59 s).drop 3).dropLast).map (fun x=>(readC x).getD zeroC) from hcm)
  have hxs:x.size≤100000:=Nat.le_trans (splitB_size 59 s x (List.mem_of_mem_drop ((List.dropLast_sublist _).subset hx))) hs
  obtain⟨d,hd⟩:=Option.isSome_iff_exists.1 (ho.1.1.2 x hx)
  have hfit:=readR_fits x hxs
  rw[←read_eq]at hfit
  rw[hd]at hfit ⊢
  have hso:=readC_some hd
  refine⟨hfit,?_,?_⟩
  ·exact ((validT_iff _).1 hv).all _ hcm |> fun h=>by rw[hd]at h;exact h
  ·show (textC d).size≤_
   rw[hso.2];exact hxs
 ·cases h
theorem name_size {t:TokV} (h:validT t=true):t.id.size≤64:=size_of_name ((validT_iff t).1 h).id
theorem lawReadsBack (x:TokM) (s:ByteArray) (w:World) (hR:TokReads w x) (hn63:x.t.conds.length≤9223372036854775807) (hsz:s.size≤9223372036854775807) (hL:LawE w) :
  Calls Tryz.prog 7 #[x.val,.string s] w (Ret w (.bool true)):=by
 have hf:=fun (W:World) (hb:Below w.heap.size w W)=>rTFew_all x W (hR.keep hb) hn63
 have hsa:=fun (W:World) (hb:Below w.heap.size w W)=>san25_any W (hL.keep hb)
 have hXS:x.cells.toArray.size=20:=by rw[List.size_toArray];exact hR.size
 have HXS:=Lib.hid hXS;have HSA:=Lib.hid hsa
 clear hXS hsa
 cases hfe:fewTk x.t
 ·rw[hfe]at hf
  have HF:=Lib.hid hf
  clear hf hR hL hfe
  unfold TokM.val at *
  go_enter Tryz.func7,Tryz.ntmps7
  go_upto_region 1 with fail
  generalize hw0:World.alloc _ _=w0
  have hS:RbS w x w0:=by rw[←hw0];exact⟨⟨World.alloc_heap_new w _⟩,belB⟩
  clear hw0
  go_wp2_with (first | (refine wpList_load_addr rfl 32 _ rfl ⟨w.heap.size,0,none⟩ (.agg x.cells.toArray) rfl (tok_row hS.t.box HXS.out) ?_) | (go_at_call 10;refine (HF.out _ hS.b).mono ?_;clear HF;rintro e w' ⟨rfl,hb'⟩;replace hS:=hS.keep hb';clear hb') | (go_at_call 11;refine (HSA.out _ hS.b).mono ?_;rintro e ws ⟨rfl,hbs⟩;replace hS:=hS.keep hbs))
  go_ret
  exact⟨rfl,hS.b⟩
 rw[hfe]at hf
 have HF:=Lib.hid hf
 clear hf
 by_cases h3:3000<s.size
 ·have i3:(3000:Int)<(s.size:Int):=by omega
  clear hR hL hfe
  unfold TokM.val at *
  go_enter Tryz.func7,Tryz.ntmps7
  go_upto_region 1 with fail
  generalize hw0:World.alloc _ _=w0
  have hS:RbS w x w0:=by rw[←hw0];exact⟨⟨World.alloc_heap_new w _⟩,belB⟩
  clear hw0
  go_wp2_with (first | (refine wpList_load_addr rfl 32 _ rfl ⟨w.heap.size,0,none⟩ (.agg x.cells.toArray) rfl (tok_row hS.t.box HXS.out) ?_) | (go_at_call 10;refine (HF.out _ hS.b).mono ?_;clear HF;rintro e w' ⟨rfl,hb'⟩;replace hS:=hS.keep hb';clear hb') | (go_at_call 11;refine (HSA.out _ hS.b).mono ?_;rintro e ws ⟨rfl,hbs⟩;replace hS:=hS.keep hbs))
  go_ret
  exact⟨rfl,hS.b⟩
 have i3:¬ (3000:Int)<(s.size:Int):=by omega
 have fk:=few_tok hfe
 have fin:=few_in hR hfe
 have hfit:∀ y∈x.L,CondFits y.c:=fun y hy=>few_fits (fin y hy)
 have hv:=fun (W:World) (hb:Below w.heap.size w W)=>tValid_any x W (hR.keep hb) hfit (by omega) (by omega) (hL.e.keep hb)
 have htx:=fun (W:World) (hb:Below w.heap.size w W)=>text25_any x W (hR.keep hb) hfit (fun hvt y hy=>⟨hfit y hy,valid_in hR hvt y hy,by have:=textC_size7 (valid_in hR hvt y hy) (fin y hy);omega⟩) (by omega) (by omega) (fun hvt=>by have:=textT_size hvt hfe hR.sl;omega) (hL.e.keep hb) (hL.t.keep hb)
 have hp2:=fun (W:World) (hb:Below w.heap.size w W)=>parse25_any s W (by omega) (split_size 59 s 100000 (by omega)) (hL.e.keep hb) (hL.x.keep hb) (hL.t.keep hb) (Nat.lt_of_lt_of_le hL.h hb.size)
 have hp1:=fun (hvt:validT x.t=true) (W:World) (hb:Below w.heap.size w W)=>parse25_any (textT x.t) W (textT_size hvt hfe hR.sl) (split_backT hvt hfe hR.sl) (hL.e.keep hb) (hL.x.keep hb) (hL.t.keep hb) (Nat.lt_of_lt_of_le hL.h hb.size)
 have hsm:=fun (y:TokM) (W:World) (hb:Below w.heap.size w W) (hy:TokReads W y) (e:y.t=x.t)=>rTSame_any y x W hy (hR.keep hb) e.symm (fun z hz=>few_fits (fk.1 z.c (by rw[←e,←hy.same];exact List.mem_map_of_mem hz))) (by rw[e];omega)
 have hs:s.size≤131072:=by omega
 have ht2:∀ t2,readT s=some t2→∀ (y:TokM) (W:World),Below w.heap.size w W→TokReads W y→y.t=t2→Calls Tryz.prog 35 #[y.val] W (Ret W (.tuple #[.string s,.int .i64 0])):=by
  intro t2 hrs y W hb hy e
  obtain⟨hvt,hsl,hts⟩:=readT_some hrs
  have hcs:=readT_conds hrs (by omega)
  have hin:∀ z∈y.L,z.c∈t2.conds:=fun z hz=>by rw[←e,←hy.same];exact List.mem_map_of_mem hz
  have:=text25_any y W hy (fun z hz=>(hcs z.c (hin z hz)).1) (fun _ z hz=>⟨(hcs z.c (hin z hz)).1,(hcs z.c (hin z hz)).2.1,by have:=(hcs z.c (hin z hz)).2.2;omega⟩) (by rw[e];have:=name_size hvt;omega) (by rw[e];have:=((validT_iff _).1 hvt).n1;omega) (fun _=>by rw[e,hts];omega) (hL.e.keep hb) (hL.t.keep hb)
  rw[e,hvt,hts]at this
  exact this
 cases hvt:validT x.t
 ·rw[hvt]at hv htx
  have HV:=Lib.hid hv;have HT:=Lib.hid htx
  clear hv htx hp1 hsm hR hL hfe fk fin hfit hvt
  unfold TokM.val at *
  cases hrs:readT s with
  | none =>
   rw[parseV_none hs hrs]at hp2
   have HP2:=Lib.hid hp2
   clear hp2 hrs ht2
   go_enter Tryz.func7,Tryz.ntmps7
   go_upto_region 1 with fail
   generalize hw0:World.alloc _ _=w0
   have hS:RbS w x w0:=by rw[←hw0];exact⟨⟨World.alloc_heap_new w _⟩,belB⟩
   clear hw0
   go_upto_region 3 with (first | (refine wpList_load_addr rfl 32 _ rfl ⟨w.heap.size,0,none⟩ (.agg x.cells.toArray) rfl (tok_row hS.t.box HXS.out) ?_) | (go_at_call 10;refine (HF.out _ hS.b).mono ?_;clear HF;rintro e w' ⟨rfl,hb'⟩;replace hS:=hS.keep hb';clear hb'))
   go_upto_region 4 with (first | (refine wpList_load_addr rfl 32 _ rfl ⟨w.heap.size,0,none⟩ (.agg x.cells.toArray) rfl (tok_row hS.t.box HXS.out) ?_) | (go_at_call 35;refine (HT.out _ hS.b).mono ?_;rintro e w' ⟨rfl,hb'⟩;replace hS:=hS.keep hb';clear hb'))
   go_upto_region 10 with (first | (refine wpList_load_addr rfl 32 _ rfl ⟨w.heap.size,0,none⟩ (.agg x.cells.toArray) rfl (tok_row hS.t.box HXS.out) ?_) | (go_at_call 14;refine (HV.out _ hS.b).mono ?_;rintro e w' ⟨rfl,hb'⟩;replace hS:=hS.keep hb';clear hb'))
   go_upto_region 11 with (first | (go_at_call 37;refine (HP2.out _ hS.b).mono ?_;rintro e w2 ⟨hb2,y2,rfl,hr2,ht2⟩;simp only[cells_val];replace hS:=hS.keep hb2) | (refine wpList_store_row rfl 32 _ _ rfl w2.heap.size y2.cells.toArray rfl rfl _ (#[.int .i64 0,.int .i64 0,.string ⟨#[]⟩,.slice none 0 0,.int .u8 0,.int .u8 0,.int .u8 0,.int .u8 0,.int .u8 0,.int .u8 0,.int .u8 0,.int .u8 0,.int .u8 0,.int .u8 0,.int .u8 0,.int .u8 0,.int .u8 0,.int .u8 0,.int .u8 0,.int .u8 0]:Array Value) (heap_alloc_new w2 _) (tok_store hr2).1 (tok_store hr2).2.1 (tok_store hr2).2.2 ?_))
   (try dsimp only[Act.put])
   generalize hwB:World.setRow _ _ _=wB
   have hB2:Box1 wB w2.heap.size 32 y2.cells.toArray:=by rw[←hwB];exact setRow_heap _ _ _ _ _ _ (heap_alloc_new w2 _)
   have hbB:Below w2.heap.size w2 wB:=by rw[←hwB];exact below_setRow (below_alloc _ _) (Nat.le_refl _) _
   replace hS:=hS.keep hbB
   replace hr2:=hr2.keep hbB
   have HY2:=Lib.hid (show y2.cells.toArray.size=20 by rw[List.size_toArray];exact hr2.size)
   clear hwB hbB
   have hc2:wB.cell? ⟨w2.heap.size,3,none⟩=some (.slice y2.A 0 y2.c):=by
    have:=hB2.cell (k:=3) (v:=.slice y2.A y2.t.conds.length y2.c) rfl
    rw[ht2]at this
    exact this
   clear hB2
   go_wp2_with (go_at_call 11;refine (HSA.out _ hS.b).mono ?_;rintro e ws ⟨rfl,hbs⟩;replace hS:=hS.keep hbs;have hc2:=cell_keep hbs hc2)
   go_ret
   exact⟨rfl,hS.b⟩
  | some t2 =>
   rw[parseV_some hs hrs]at hp2
   have HP2:=Lib.hid hp2
   have HT2:=Lib.hid (ht2 t2 hrs)
   clear hp2 hrs ht2
   go_enter Tryz.func7,Tryz.ntmps7
   go_upto_region 1 with fail
   generalize hw0:World.alloc _ _=w0
   have hS:RbS w x w0:=by rw[←hw0];exact⟨⟨World.alloc_heap_new w _⟩,belB⟩
   clear hw0
   go_upto_region 3 with (first | (refine wpList_load_addr rfl 32 _ rfl ⟨w.heap.size,0,none⟩ (.agg x.cells.toArray) rfl (tok_row hS.t.box HXS.out) ?_) | (go_at_call 10;refine (HF.out _ hS.b).mono ?_;clear HF;rintro e w' ⟨rfl,hb'⟩;replace hS:=hS.keep hb';clear hb'))
   go_upto_region 4 with (first | (refine wpList_load_addr rfl 32 _ rfl ⟨w.heap.size,0,none⟩ (.agg x.cells.toArray) rfl (tok_row hS.t.box HXS.out) ?_) | (go_at_call 35;refine (HT.out _ hS.b).mono ?_;rintro e w' ⟨rfl,hb'⟩;replace hS:=hS.keep hb';clear hb'))
   go_upto_region 10 with (first | (refine wpList_load_addr rfl 32 _ rfl ⟨w.heap.size,0,none⟩ (.agg x.cells.toArray) rfl (tok_row hS.t.box HXS.out) ?_) | (go_at_call 14;refine (HV.out _ hS.b).mono ?_;rintro e w' ⟨rfl,hb'⟩;replace hS:=hS.keep hb';clear hb'))
   go_upto_region 11 with (first | (go_at_call 37;refine (HP2.out _ hS.b).mono ?_;rintro e w2 ⟨hb2,y2,rfl,hr2,ht2⟩;simp only[cells_val];replace hS:=hS.keep hb2) | (refine wpList_store_row rfl 32 _ _ rfl w2.heap.size y2.cells.toArray rfl rfl _ (#[.int .i64 0,.int .i64 0,.string ⟨#[]⟩,.slice none 0 0,.int .u8 0,.int .u8 0,.int .u8 0,.int .u8 0,.int .u8 0,.int .u8 0,.int .u8 0,.int .u8 0,.int .u8 0,.int .u8 0,.int .u8 0,.int .u8 0,.int .u8 0,.int .u8 0,.int .u8 0,.int .u8 0]:Array Value) (heap_alloc_new w2 _) (tok_store hr2).1 (tok_store hr2).2.1 (tok_store hr2).2.2 ?_))
   (try dsimp only[Act.put])
   generalize hwB:World.setRow _ _ _=wB
   have hB2:Box1 wB w2.heap.size 32 y2.cells.toArray:=by rw[←hwB];exact setRow_heap _ _ _ _ _ _ (heap_alloc_new w2 _)
   have hbB:Below w2.heap.size w2 wB:=by rw[←hwB];exact below_setRow (below_alloc _ _) (Nat.le_refl _) _
   replace hS:=hS.keep hbB
   replace hr2:=hr2.keep hbB
   have HY2:=Lib.hid (show y2.cells.toArray.size=20 by rw[List.size_toArray];exact hr2.size)
   clear hwB hbB
   go_upto_region 14 with (first | (refine wpList_load_addr rfl 32 _ rfl ⟨w2.heap.size,0,none⟩ (.agg y2.cells.toArray) rfl (tok_row hB2 HY2.out) ?_) | (go_at_call 35;refine (HT2.out y2 _ hS.b hr2 ht2).mono ?_;rintro e w' ⟨rfl,hb'⟩;replace hS:=hS.keep hb';clear hb'))
   clear hB2
   have hss:(s.toList==s.toList)=true:=by simp
   go_wp2_with (go_at_call 11;refine (HSA.out _ hS.b).mono ?_;rintro e ws ⟨rfl,hbs⟩;replace hS:=hS.keep hbs)
   go_ret
   exact⟨rfl,hS.b⟩
 ·rw[hvt]at hv htx
  have hp1:=hp1 hvt
  rw[parseV_some (textT_size hvt hfe hR.sl) (readT_text hvt hR.sl)]at hp1
  rw[if_pos rfl,if_pos rfl]at htx
  generalize textT x.t=TXT at *
  have HV:=Lib.hid hv;have HT:=Lib.hid htx;have HP1:=Lib.hid hp1;have HSM:=Lib.hid hsm
  clear hv htx hp1 hsm hR hL hfe fk fin hfit hvt
  unfold TokM.val at *
  cases hrs:readT s with
  | none =>
   rw[parseV_none hs hrs]at hp2
   have HP2:=Lib.hid hp2
   clear hp2 hrs ht2
   go_enter Tryz.func7,Tryz.ntmps7
   go_upto_region 1 with fail
   generalize hw0:World.alloc _ _=w0
   have hS:RbS w x w0:=by rw[←hw0];exact⟨⟨World.alloc_heap_new w _⟩,belB⟩
   clear hw0
   go_upto_region 3 with (first | (refine wpList_load_addr rfl 32 _ rfl ⟨w.heap.size,0,none⟩ (.agg x.cells.toArray) rfl (tok_row hS.t.box HXS.out) ?_) | (go_at_call 10;refine (HF.out _ hS.b).mono ?_;clear HF;rintro e w' ⟨rfl,hb'⟩;replace hS:=hS.keep hb';clear hb'))
   go_upto_region 4 with (first | (refine wpList_load_addr rfl 32 _ rfl ⟨w.heap.size,0,none⟩ (.agg x.cells.toArray) rfl (tok_row hS.t.box HXS.out) ?_) | (go_at_call 35;refine (HT.out _ hS.b).mono ?_;rintro e w' ⟨rfl,hb'⟩;replace hS:=hS.keep hb';clear hb'))
   go_upto_region 7 with (first | (refine wpList_load_addr rfl 32 _ rfl ⟨w.heap.size,0,none⟩ (.agg x.cells.toArray) rfl (tok_row hS.t.box HXS.out) ?_) | (go_at_call 14;refine (HV.out _ hS.b).mono ?_;rintro e w' ⟨rfl,hb'⟩;replace hS:=hS.keep hb';clear hb'))
   go_upto_region 8 with (first | (go_at_call 37;refine (HP1.out _ hS.b).mono ?_;rintro e w1 ⟨hb1,y1,rfl,hr1,ht1⟩;simp only[cells_val];replace hS:=hS.keep hb1) | (refine wpList_store_row rfl 32 _ _ rfl w1.heap.size y1.cells.toArray rfl rfl _ (#[.int .i64 0,.int .i64 0,.string ⟨#[]⟩,.slice none 0 0,.int .u8 0,.int .u8 0,.int .u8 0,.int .u8 0,.int .u8 0,.int .u8 0,.int .u8 0,.int .u8 0,.int .u8 0,.int .u8 0,.int .u8 0,.int .u8 0,.int .u8 0,.int .u8 0,.int .u8 0,.int .u8 0]:Array Value) (heap_alloc_new w1 _) (tok_store hr1).1 (tok_store hr1).2.1 (tok_store hr1).2.2 ?_))
   (try dsimp only[Act.put])
   generalize hwA:World.setRow _ _ _=wA
   have hB1:Box1 wA w1.heap.size 32 y1.cells.toArray:=by rw[←hwA];exact setRow_heap _ _ _ _ _ _ (heap_alloc_new w1 _)
   have hbA:Below w1.heap.size w1 wA:=by rw[←hwA];exact below_setRow (below_alloc _ _) (Nat.le_refl _) _
   replace hS:=hS.keep hbA
   replace hr1:=hr1.keep hbA
   have HY1:=Lib.hid (show y1.cells.toArray.size=20 by rw[List.size_toArray];exact hr1.size)
   clear hwA hbA hb1
   go_upto_region 10 with (first | (go_big_want;refine wp_load_addr 32 _ rfl ⟨w1.heap.size,0,none⟩ (.agg y1.cells.toArray) rfl (tok_row hB1 HY1.out) ?_;simp only[Act.put,List.setIfInBounds_toArray,List.set_cons_succ,List.set_cons_zero]) | (go_big_want;refine wp_load_addr 32 _ rfl ⟨w.heap.size,0,none⟩ (.agg x.cells.toArray) rfl (tok_row hS.t.box HXS.out) ?_;simp only[Act.put,List.setIfInBounds_toArray,List.set_cons_succ,List.set_cons_zero]) | (go_at_call 16;refine (HSM.out y1 _ hS.b hr1 ht1).mono ?_;rintro e w' ⟨rfl,hb'⟩;replace hS:=hS.keep hb';clear hb'))
   clear hB1 hr1
   go_upto_region 11 with (first | (go_at_call 37;refine (HP2.out _ hS.b).mono ?_;rintro e w2 ⟨hb2,y2,rfl,hr2,ht2⟩;simp only[cells_val];replace hS:=hS.keep hb2) | (refine wpList_store_row rfl 32 _ _ rfl w2.heap.size y2.cells.toArray rfl rfl _ (#[.int .i64 0,.int .i64 0,.string ⟨#[]⟩,.slice none 0 0,.int .u8 0,.int .u8 0,.int .u8 0,.int .u8 0,.int .u8 0,.int .u8 0,.int .u8 0,.int .u8 0,.int .u8 0,.int .u8 0,.int .u8 0,.int .u8 0,.int .u8 0,.int .u8 0,.int .u8 0,.int .u8 0]:Array Value) (heap_alloc_new w2 _) (tok_store hr2).1 (tok_store hr2).2.1 (tok_store hr2).2.2 ?_))
   (try dsimp only[Act.put])
   generalize hwB:World.setRow _ _ _=wB
   have hB2:Box1 wB w2.heap.size 32 y2.cells.toArray:=by rw[←hwB];exact setRow_heap _ _ _ _ _ _ (heap_alloc_new w2 _)
   have hbB:Below w2.heap.size w2 wB:=by rw[←hwB];exact below_setRow (below_alloc _ _) (Nat.le_refl _) _
   replace hS:=hS.keep hbB
   replace hr2:=hr2.keep hbB
   have HY2:=Lib.hid (show y2.cells.toArray.size=20 by rw[List.size_toArray];exact hr2.size)
   clear hwB hbB
   have hc2:wB.cell? ⟨w2.heap.size,3,none⟩=some (.slice y2.A 0 y2.c):=by
    have:=hB2.cell (k:=3) (v:=.slice y2.A y2.t.conds.length y2.c) rfl
    rw[ht2]at this
    exact this
   clear hB2
   go_wp2_with (go_at_call 11;refine (HSA.out _ hS.b).mono ?_;rintro e ws ⟨rfl,hbs⟩;replace hS:=hS.keep hbs;have hc2:=cell_keep hbs hc2)
   go_ret
   exact⟨rfl,hS.b⟩
  | some t2 =>
   rw[parseV_some hs hrs]at hp2
   have HP2:=Lib.hid hp2
   have HT2:=Lib.hid (ht2 t2 hrs)
   clear hp2 hrs ht2
   go_enter Tryz.func7,Tryz.ntmps7
   go_upto_region 1 with fail
   generalize hw0:World.alloc _ _=w0
   have hS:RbS w x w0:=by rw[←hw0];exact⟨⟨World.alloc_heap_new w _⟩,belB⟩
   clear hw0
   go_upto_region 3 with (first | (refine wpList_load_addr rfl 32 _ rfl ⟨w.heap.size,0,none⟩ (.agg x.cells.toArray) rfl (tok_row hS.t.box HXS.out) ?_) | (go_at_call 10;refine (HF.out _ hS.b).mono ?_;clear HF;rintro e w' ⟨rfl,hb'⟩;replace hS:=hS.keep hb';clear hb'))
   go_upto_region 4 with (first | (refine wpList_load_addr rfl 32 _ rfl ⟨w.heap.size,0,none⟩ (.agg x.cells.toArray) rfl (tok_row hS.t.box HXS.out) ?_) | (go_at_call 35;refine (HT.out _ hS.b).mono ?_;rintro e w' ⟨rfl,hb'⟩;replace hS:=hS.keep hb';clear hb'))
   go_upto_region 7 with (first | (refine wpList_load_addr rfl 32 _ rfl ⟨w.heap.size,0,none⟩ (.agg x.cells.toArray) rfl (tok_row hS.t.box HXS.out) ?_) | (go_at_call 14;refine (HV.out _ hS.b).mono ?_;rintro e w' ⟨rfl,hb'⟩;replace hS:=hS.keep hb';clear hb'))
   go_upto_region 8 with (first | (go_at_call 37;refine (HP1.out _ hS.b).mono ?_;rintro e w1 ⟨hb1,y1,rfl,hr1,ht1⟩;simp only[cells_val];replace hS:=hS.keep hb1) | (refine wpList_store_row rfl 32 _ _ rfl w1.heap.size y1.cells.toArray rfl rfl _ (#[.int .i64 0,.int .i64 0,.string ⟨#[]⟩,.slice none 0 0,.int .u8 0,.int .u8 0,.int .u8 0,.int .u8 0,.int .u8 0,.int .u8 0,.int .u8 0,.int .u8 0,.int .u8 0,.int .u8 0,.int .u8 0,.int .u8 0,.int .u8 0,.int .u8 0,.int .u8 0,.int .u8 0]:Array Value) (heap_alloc_new w1 _) (tok_store hr1).1 (tok_store hr1).2.1 (tok_store hr1).2.2 ?_))
   (try dsimp only[Act.put])
   generalize hwA:World.setRow _ _ _=wA
   have hB1:Box1 wA w1.heap.size 32 y1.cells.toArray:=by rw[←hwA];exact setRow_heap _ _ _ _ _ _ (heap_alloc_new w1 _)
   have hbA:Below w1.heap.size w1 wA:=by rw[←hwA];exact below_setRow (below_alloc _ _) (Nat.le_refl _) _
   replace hS:=hS.keep hbA
   replace hr1:=hr1.keep hbA
   have HY1:=Lib.hid (show y1.cells.toArray.size=20 by rw[List.size_toArray];exact hr1.size)
   clear hwA hbA hb1
   go_upto_region 10 with (first | (go_big_want;refine wp_load_addr 32 _ rfl ⟨w1.heap.size,0,none⟩ (.agg y1.cells.toArray) rfl (tok_row hB1 HY1.out) ?_;simp only[Act.put,List.setIfInBounds_toArray,List.set_cons_succ,List.set_cons_zero]) | (go_big_want;refine wp_load_addr 32 _ rfl ⟨w.heap.size,0,none⟩ (.agg x.cells.toArray) rfl (tok_row hS.t.box HXS.out) ?_;simp only[Act.put,List.setIfInBounds_toArray,List.set_cons_succ,List.set_cons_zero]) | (go_at_call 16;refine (HSM.out y1 _ hS.b hr1 ht1).mono ?_;rintro e w' ⟨rfl,hb'⟩;replace hS:=hS.keep hb';clear hb'))
   clear hB1 hr1
   go_upto_region 11 with (first | (go_at_call 37;refine (HP2.out _ hS.b).mono ?_;rintro e w2 ⟨hb2,y2,rfl,hr2,ht2⟩;simp only[cells_val];replace hS:=hS.keep hb2) | (refine wpList_store_row rfl 32 _ _ rfl w2.heap.size y2.cells.toArray rfl rfl _ (#[.int .i64 0,.int .i64 0,.string ⟨#[]⟩,.slice none 0 0,.int .u8 0,.int .u8 0,.int .u8 0,.int .u8 0,.int .u8 0,.int .u8 0,.int .u8 0,.int .u8 0,.int .u8 0,.int .u8 0,.int .u8 0,.int .u8 0,.int .u8 0,.int .u8 0,.int .u8 0,.int .u8 0]:Array Value) (heap_alloc_new w2 _) (tok_store hr2).1 (tok_store hr2).2.1 (tok_store hr2).2.2 ?_))
   (try dsimp only[Act.put])
   generalize hwB:World.setRow _ _ _=wB
   have hB2:Box1 wB w2.heap.size 32 y2.cells.toArray:=by rw[←hwB];exact setRow_heap _ _ _ _ _ _ (heap_alloc_new w2 _)
   have hbB:Below w2.heap.size w2 wB:=by rw[←hwB];exact below_setRow (below_alloc _ _) (Nat.le_refl _) _
   replace hS:=hS.keep hbB
   replace hr2:=hr2.keep hbB
   have HY2:=Lib.hid (show y2.cells.toArray.size=20 by rw[List.size_toArray];exact hr2.size)
   clear hwB hbB
   go_upto_region 14 with (first | (refine wpList_load_addr rfl 32 _ rfl ⟨w2.heap.size,0,none⟩ (.agg y2.cells.toArray) rfl (tok_row hB2 HY2.out) ?_) | (go_at_call 35;refine (HT2.out y2 _ hS.b hr2 ht2).mono ?_;rintro e w' ⟨rfl,hb'⟩;replace hS:=hS.keep hb';clear hb'))
   clear hB2
   have hss:(s.toList==s.toList)=true:=by simp
   go_wp2_with (go_at_call 11;refine (HSA.out _ hS.b).mono ?_;rintro e ws ⟨rfl,hbs⟩;replace hS:=hS.keep hbs)
   go_ret
   exact⟨rfl,hS.b⟩
end Go.Proofs.YtlkbkclnbppigaaGreatDoor
