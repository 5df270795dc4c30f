/- seal.place, seal.Find; the specification's Find. -/
import Derived.Test.YtlkbkclnbppigaaGreatDoorIZ30
import Derived.Test.YtlkbkclnbppigaaGreatDoorIZ29
import Derived.Test.YtlkbkclnbppigaaGreatDoorIZ27
set_option maxHeartbeats 8000000
namespace Go.Proofs.YtlkbkclnbppigaaGreatDoor
open Go.RowKit Go.Sort
set_option linter.unusedVariables false
set_option linter.unusedSimpArgs false
set_option maxRecDepth 100000
structure RingOk (L:List KeyV):Prop where
 up:RingUp L
 each:∀ x∈L,validK x=true
theorem validK_in {k:KeyV} (h:validK k=true):InK k.party∧InK k.ser:=by
 unfold validK at h
 unfold InK
 simp only[decide_eq_true_eq]at h
 omega
def foundB (n s:Int) (L:List KeyV):Bool:=match L[lowK n s L]? with
 | some x=>decide (cmpK x n s=0)
 | none=>false
theorem place_any (A:Option Addr) (n c:Nat) (L:List KeyV) (p s:Int) (w:World) (hA:KeysRead w A n L) (hn:n≤100000) (hL:RingOk L) (hp:InK p) (hs:InK s) :
  Calls Tryz.prog 124 #[.slice A n c,.int .i64 p,.int .i64 s] w (Ret w (.tuple #[.int .i64 (lowK p s L:Int),.bool (foundB p s L)])):=by
 have hb:Below w.heap.size w (w.alloc (.cells #[.int .i64 s] 3)):=belB
 have hcell:(w.alloc (.cells #[.int .i64 s] 3)).cell? ⟨w.heap.size,0,none⟩=some (.int .i64 s):=(cell_of_row _ _ 0 _ _ _ (World.alloc_heap_new w _)).trans rfl
 have hm:lowK p s L≤n:=by have:=tw_len (fun x=>decide (cmpK x p s<0)) L;have:=hA.1;unfold lowK;omega
 have hc:Calls Tryz.prog 183 #[.slice A n c,.int .i64 p,.func (.func 184) #[] #[.pointer (some ⟨w.heap.size,0,none⟩)]] (w.alloc (.cells #[.int .i64 s] 3)) (Ret (w.alloc (.cells #[.int .i64 s] 3)) (.tuple #[.int .i64 (lowK p s L:Int),.bool (foundB p s L)])):=bsearch_any 184 (enters_of Tryz.func184 (by kernel_rfl) rfl) (.pointer (some ⟨w.heap.size,0,none⟩)) (fun x=>cmpK x p s) A n c L p (lowK p s L) (w.alloc (.cells #[.int .i64 s] 3))
  (fun x hx W hb'=>place1_any x p s w.heap.size W (validK_in (hL.each x hx)).1 (validK_in (hL.each x hx)).2 hp hs (cell_keep hb' hcell)) (hA.keep hb) hn (fun i x hi hx=>low_lt hi hx) (fun i x hi hx=>low_ge hL.up hi hx) hm
 have hmf:∀ (fn:Fn) (first cap:Array Value) (w:World),(Instr.makeFunc fn first cap).run Tryz.prog w=.ok (.func fn first cap) w:=fun _ _ _ _=>rfl
 generalize foundB p s L=V at *
 generalize lowK p s L=m at *
 have HC:=Lib.hid hc
 clear hc hcell hA hL hp hs hm
 go_enter Tryz.func124,Tryz.ntmps124
 go_wp2_with (go_at_call 183;refine HC.out.mono ?_;rintro e w2 ⟨rfl,hb2⟩)
 go_ret2
 exact⟨by simp,belB⟩
theorem infKey:(Tryz.prog.info? 23).map (·.size)=some 5:=by kernel_rfl
theorem results_row_tmp {fn:Func} {p u:Tmp} {ty:TypeId} (h:fn.results=#[.cell p ty,.tmp u]) (tmps:Array Value) (w:World) (g:Nat) (cs:Array Value) (v:Value)
  (hp:tmps.getD p undef=.pointer (some ⟨g,0,none⟩)) (hu:tmps.getD u undef=v) (hl:(loadVar ty ⟨g,0,none⟩).run Tryz.prog w=.ok (.agg cs) w) :
  (results fn tmps).run Tryz.prog w=.ok (.tuple #[.agg cs,v]) w:=by
 rw[results_cell_tmp h,hp,hu]
 simp[asAddr,hl,Result.andThen]
theorem keyRow {w:World} {g:Nat} {X:Array Value} (hg:w.heap[g]? = some (.cells X 23 (0,0))) (hs:(Tryz.prog.info? 23).map (·.size)=some X.size):(loadVar 23 ⟨g,0,none⟩).run Tryz.prog w=.ok (.agg X) w :=
 run_loadVar_row (P:=Tryz.prog) w g _ 23 X _ _ hg Tryz.underlying23 rfl hs
def KeyV.arr (k:KeyV):Array Value:=k.cells.toArray
theorem KeyV.arr_size (k:KeyV):k.arr.size=5:=rfl
theorem KeyV.arr_one (k:KeyV):k.arr.all (·.oneCell')=true:=by unfold KeyV.arr;rw[List.all_toArray];rfl
theorem KeyV.val_arr (k:KeyV):k.val=.agg k.arr:=rfl
theorem find_any (A:Option Addr) (n c:Nat) (L:List KeyV) (p s:Int) (w:World) (hA:KeysRead w A n L) (hn:n≤100000) (hL:RingOk L) (hp:InK p) (hs:InK s) :
  Calls Tryz.prog 61 #[.slice A n c,.int .i64 p,.int .i64 s] w (Ret w (.tuple #[((findK L p s).getD zeroK).val,.int .i64 (if (findK L p s).isSome then 0 else 5)])):=by
 have hl:L.length=n:=hA.1
 have hc:=fun W (hb:Below w.heap.size w W)=>place_any A n c L p s W (hA.keep hb) hn hL hp hs
 have hf:=find_low hL.up p s
 unfold foundB at hc
 have hm:lowK p s L≤n:=by have:=tw_len (fun x=>decide (cmpK x p s<0)) L;have:=hA.1;unfold lowK;omega
 have hno:∀ m:Nat,(∀ W,Below w.heap.size w W→Calls Tryz.prog 124 #[.slice A n c,.int .i64 p,.int .i64 s] W (Ret W (.tuple #[.int .i64 (m:Int),.bool false])))→Calls Tryz.prog 61 #[.slice A n c,.int .i64 p,.int .i64 s] w (Ret w (.tuple #[zeroK.val,.int .i64 5])):=by
  intro m hc
  have HC:=Lib.hid hc
  have hon:(zeroK.arr).all (·.oneCell')=true:=zeroK.arr_one
  have HON:=Lib.hid hon
  clear hon hc hf hm hA hL hp hs hl
  go_enter Tryz.func61,Tryz.ntmps61;go_upto_region 1 with fail;generalize hw0:World.alloc _ _=w0;have hz:Box1 w0 w.heap.size 23 (#[.int .i64 0,.int .i64 0,.string ⟨#[]⟩,.int .i64 0,.int .i64 0]:Array Value):=(by rw[←hw0];exact World.alloc_heap_new w _);have hb0:Below w.heap.size w w0:=(by rw[←hw0];exact balloc (Below.refl _ _) _);clear hw0
  go_wp2_with (first | (go_at_call 124;refine (HC.out _ hb0).mono ?_;rintro e w2 ⟨rfl,hb2⟩;have hz2:=Box1.keep hz hb2;have hbw:=bstep hb0 hb2) | (refine wpList_store_row rfl _ _ _ rfl w.heap.size (#[.int .i64 0,.int .i64 0,.string ⟨#[]⟩,.int .i64 0,.int .i64 0]:Array Value) rfl rfl _ (#[.int .i64 0,.int .i64 0,.string ⟨#[]⟩,.int .i64 0,.int .i64 0]:Array Value) hz2 infKey rfl HON.out ?_))
  refine bodyPost_ret (v:=.tuple #[.agg (#[.int .i64 0,.int .i64 0,.string ⟨#[]⟩,.int .i64 0,.int .i64 0]:Array Value),.int .i64 5]) ?_ rfl ?_
  ·exact results_row_tmp rfl _ _ w.heap.size _ _ rfl rfl (keyRow (setRow_heap _ _ _ _ _ _ hz2) infKey)
  ·exact⟨rfl,below_setRow hbw (Nat.le_refl _) _⟩
 generalize lowK p s L=m at *
 cases hx:L[m]? with
 | none =>
  rw[hx]at hf hc
  have e:findK L p s=none:=hf
  rw[e]
  exact hno m hc
 | some x =>
  rw[hx]at hf hc
  by_cases h0:cmpK x p s=0
  ·have e:findK L p s=some x:=by rw[hf];simp[h0]
   rw[e]
   have hc2:∀ W,Below w.heap.size w W→Calls Tryz.prog 124 #[.slice A n c,.int .i64 p,.int .i64 s] W (Ret W (.tuple #[.int .i64 (m:Int),.bool true])):=fun W hb=>by have:=hc W hb;simpa[h0] using this
   obtain⟨b,o,rfl,hcell⟩:=hA.at_ hx
   have hld:=fun W (hb:Below w.heap.size w W)=>key_load W b (o+m*5) x (fun j u hu=>cell_keep hb (hcell j u hu))
   have hk1:(m:Int)<(n:Int):=by have:=(List.getElem?_eq_some_iff.1 hx).1;omega
   show Calls Tryz.prog 61 _ w (Ret w (.tuple #[x.val,.int .i64 0]))
   rw[KeyV.val_arr]at hld ⊢
   have HC:=Lib.hid hc2;have HLD:=Lib.hid hld
   have HI:=Lib.hid (show (Tryz.prog.info? 23).map (·.size)=some x.arr.size from infKey)
   have HSZ:=Lib.hid (show x.arr.size=(#[.int .i64 0,.int .i64 0,.string ⟨#[]⟩,.int .i64 0,.int .i64 0]:Array Value).size from rfl)
   have HON:=Lib.hid x.arr_one
   generalize x.arr=X at *
   clear hc2 hc hf hx e hA hL hp hs hcell hld h0 hno hl hm
   go_enter Tryz.func61,Tryz.ntmps61;go_upto_region 1 with fail;generalize hw0:World.alloc _ _=w0;have hz:Box1 w0 w.heap.size 23 (#[.int .i64 0,.int .i64 0,.string ⟨#[]⟩,.int .i64 0,.int .i64 0]:Array Value):=(by rw[←hw0];exact World.alloc_heap_new w _);have hb0:Below w.heap.size w w0:=(by rw[←hw0];exact balloc (Below.refl _ _) _);clear hw0
   go_wp2_with (first | (go_at_call 124;refine (HC.out _ hb0).mono ?_;rintro e w2 ⟨rfl,hb2⟩;have hz2:=Box1.keep hz hb2;have hbw:=bstep hb0 hb2) | (refine wpList_load_addr rfl 23 _ rfl ⟨b,o+m*5,none⟩ (.agg X) rfl (HLD.out _ hbw) ?_) | (refine wpList_store_row rfl _ _ _ rfl w.heap.size X rfl rfl _ (#[.int .i64 0,.int .i64 0,.string ⟨#[]⟩,.int .i64 0,.int .i64 0]:Array Value) hz2 HI.out HSZ.out.symm HON.out ?_))
   refine bodyPost_ret (v:=.tuple #[.agg X,.int .i64 0]) ?_ rfl ?_
   ·exact results_row_tmp rfl _ _ w.heap.size _ _ rfl rfl (keyRow (setRow_heap _ _ _ _ _ _ hz2) HI.out)
   ·exact⟨rfl,below_setRow hbw (Nat.le_refl _) _⟩
  ·have e:findK L p s=none:=by rw[hf];simp[h0]
   rw[e]
   exact hno m (fun W hb=>by have:=hc W hb;simpa[h0] using this)
theorem cells3 (w:World) (t:TypeId) (a b c:Value) (g:Nat) (hg:g=w.heap.size):Reads (w.alloc (.cells #[a,b,c] t)) 1 (some ⟨g,0,none⟩) 3 [a,b,c]:=by
 subst hg
 refine⟨rfl,fun _=>⟨_,_,rfl,fun j u hu=>?_⟩⟩
 rw[Nat.zero_add,cell_of_row _ _ _ _ _ _ (World.alloc_heap_new w (.cells #[a,b,c] t))]
 simpa using hu
theorem reads1 (W:World) (s:ByteArray) (g:Nat) (hg:g=W.heap.size):Reads (W.alloc (.cells #[.string s] 9)) 1 (some ⟨g,0,none⟩) 1 ([s].map .string):=by
 subst hg
 refine⟨rfl,fun _=>⟨_,_,rfl,fun j u hu=>?_⟩⟩
 rw[Nat.zero_add,cell_of_row _ _ _ _ _ _ (World.alloc_heap_new W (.cells #[.string s] 9))]
 simpa using hu
theorem below_alloc (w:World) (o:Obj):Below w.heap.size w (w.alloc o):=(Below.refl _ _).alloc (Nat.le_refl _) _
theorem concat3_any (w0:World) (sec:ByteArray) (A:Option Addr) (n c:Nat) (ps:List ByteArray) (hR:Reads w0 1 A n (ps.map .string)) (hn:n≤1000) (g1 g2 g3:Nat) (h1:g1=w0.heap.size) (h2:g2=w0.heap.size+1) (h3:g3=w0.heap.size+2) :
  Calls Tryz.prog 218 #[.slice (some ⟨g3,0,none⟩) 3 3] (((w0.alloc (.cells #[.string sec] 9)).alloc (.cells #[.string sec] 9)).alloc (.cells #[.slice (some ⟨g1,0,none⟩) 1 1,.slice A n c,.slice (some ⟨g2,0,none⟩) 1 1] 24))
   fun e w'=>∃ B d,e=.returned (.slice B (n+2) d)∧Reads w' 1 B (n+2) ((sec :: ps++[sec]).map .string)∧Below w0.heap.size w0 w':=by
 obtain rfl:n=ps.length:=by have:=hR.1;simp at this;omega
 have b1:=below_alloc w0 (.cells #[.string sec] 9)
 have b2:=below_alloc (w0.alloc (.cells #[.string sec] 9)) (.cells #[.string sec] 9)
 have b3:=below_alloc ((w0.alloc (.cells #[.string sec] 9)).alloc (.cells #[.string sec] 9)) (.cells #[.slice (some ⟨g1,0,none⟩) 1 1,.slice A ps.length c,.slice (some ⟨g2,0,none⟩) 1 1] 24)
 have hS:catS [⟨some ⟨g1,0,none⟩,1,[sec]⟩,⟨A,c,ps⟩,⟨some ⟨g2,0,none⟩,1,[sec]⟩]=sec :: ps++[sec]:=by simp[catS]
 have hL:lenS [⟨some ⟨g1,0,none⟩,1,[sec]⟩,⟨A,c,ps⟩,⟨some ⟨g2,0,none⟩,1,[sec]⟩]=ps.length+2:=by simp[lenS];omega
 have hc:=concat_any (some ⟨g3,0,none⟩) 3 3 [⟨some ⟨g1,0,none⟩,1,[sec]⟩,⟨A,c,ps⟩,⟨some ⟨g2,0,none⟩,1,[sec]⟩] (((w0.alloc (.cells #[.string sec] 9)).alloc (.cells #[.string sec] 9)).alloc (.cells #[.slice (some ⟨g1,0,none⟩) 1 1,.slice A ps.length c,.slice (some ⟨g2,0,none⟩) 1 1] 24))
  (by
   have:=cells3 ((w0.alloc (.cells #[.string sec] 9)).alloc (.cells #[.string sec] 9)) 24 (.slice (some ⟨g1,0,none⟩) 1 1) (.slice A ps.length c) (.slice (some ⟨g2,0,none⟩) 1 1) g3 (by simp[h3])
   simpa[SlM.val] using this)
  (by
   intro s hs
   simp only[List.mem_cons,List.not_mem_nil,or_false]at hs
   rcases hs with rfl | rfl | rfl
   ·exact ((reads1 w0 sec g1 h1).keep b2).keep b3
   ·have:=((hR.keep b1).keep b2).keep b3
    exact this
   ·exact (reads1 (w0.alloc (.cells #[.string sec] 9)) sec g2 (by simp[h2])).keep b3)
  (by rw[hL];omega) (by rw[hL];omega) (by omega)
 rw[hS]at hc
 refine hc.mono ?_
 rintro e w' ⟨B,d,rfl,hown,hb⟩
 have hll:(sec :: ps++[sec]).length=ps.length+2:=by simp
 rw[hll]at hown ⊢
 exact⟨B,d,rfl,Reads.of_own hown,bstep (bstep (bstep b1 b2) b3) hb⟩
theorem infSeal:(Tryz.prog.info? 30).map (·.size)=some 16:=by kernel_rfl
theorem seal_row {w:World} {g:Nat} {X:Array Value} {t:TypeId} (hg:w.heap[g]? = some (.cells X t (0,0))) (hs:X.size=16):(loadVar 30 ⟨g,0,none⟩).run Tryz.prog w=.ok (.agg X) w :=
 run_loadVar_row (P:=Tryz.prog) w g _ 30 X _ _ hg Tryz.underlying30 rfl (by rw[hs];exact infSeal)
theorem makeSeal_any (k:KeyV) (tag:Nat) (ht:tag<256) (A:Option Addr) (n c:Nat) (ps:List ByteArray) (w:World) (hR:Reads w 1 A n (ps.map .string)) (hn:n≤1000) (hk:k.secret.size≤1000000) (hs:∀ s∈ps,s.size≤1000000) (hK:Ks w) :
  Calls Tryz.prog 160 #[k.val,.int .i64 (tag:Int),.slice A n c] w (Ret w (.agg (b8 (makeS k tag ps)).toArray)):=by
 have hl:ps.length=n:=by have:=hR.1;simpa using this
 have hO:=fun (B:Option Addr) (d:Nat) (W:World) (hr:Reads W 1 B (n+2) ((k.secret :: ps++[k.secret]).map .string)) (hb:Below w.heap.size w W)=>of_any tag ht B (n+2) d (k.secret :: ps++[k.secret]) W hr (by omega) (by
  intro s h
  simp only[List.cons_append,List.mem_cons,List.mem_append,List.not_mem_nil,or_false]at h
  rcases h with rfl | h | rfl
  ·exact hk
  ·exact hs s h
  ·exact hk) (hK.keep hb)
 show Calls Tryz.prog 160 _ w (Ret w (.agg (b8 (Sha.ofD tag ((k.secret :: ps++[k.secret]).map nb))).toArray))
 have hok:=ofD_ok tag ((k.secret :: ps++[k.secret]).map nb)
 have hC:=fun (w0:World) (hb:Below w.heap.size w w0)=>concat3_any w0 k.secret A n c ps (hR.keep hb) hn
 have hDS:(b8 (Sha.ofD tag ((k.secret :: ps++[k.secret]).map nb))).toArray.size=16:=by rw[List.size_toArray,b8_len];exact hok.len
 have hDO:(b8 (Sha.ofD tag ((k.secret :: ps++[k.secret]).map nb))).toArray.all (·.oneCell')=true:=b8_all _
 generalize (b8 (Sha.ofD tag ((k.secret :: ps++[k.secret]).map nb))).toArray=DG at *
 have HO:=Lib.hid hO;have HDS:=Lib.hid hDS;have HDO:=Lib.hid hDO
 have HDI:=Lib.hid (show (Tryz.prog.info? 30).map (·.size)=some DG.size by rw[hDS];exact infSeal)
 clear hO hDS hDO hok hs hR hK hl
 rw[KeyV.val_arr]
 have kc:k.arr[2]? = some (.string k.secret):=rfl
 generalize k.arr=X at *
 generalize k.secret=sec at *
 go_enter Tryz.func160,Tryz.ntmps160
 go_upto_region 1 with fail
 generalize hw0:World.alloc _ _=w0
 obtain⟨ZS,hZS⟩:∃ ZS:Array Value,ZS=(b8 (List.replicate 16 0)).toArray:=⟨_,rfl⟩
 have hx:Box1 w0 w.heap.size 23 X:=by rw[←hw0];exact (alloc2_box w _ _).1
 have hz:Box1 w0 (w.heap.size+1) 30 ZS:=by rw[←hw0,hZS];exact (alloc2_box w _ _).2
 have hb0:Below w.heap.size w w0:=by rw[←hw0];exact belB
 have HZS:=Lib.hid (show ZS.size=16 by rw[hZS];rfl)
 have HC:=Lib.hid (hC w0 hb0)
 have y2:=hx.cell kc
 have hzl:=cell_lt y2
 clear hw0 hZS hC kc hx
 go_wp2_with (first | (go_at_call 218;refine (HC.out _ _ _ (by simp) (by simp) (by simp)).mono ?_;rintro e w1 ⟨B,d,rfl,hR1,hb1⟩) | (go_at_call 56;refine (HO.out _ _ _ hR1 (bstep hb0 hb1)).mono ?_;rintro e w2 ⟨rfl,hb2⟩;have hz2:=(hz.keep hb1).keep hb2;have hbw:=bstep (bstep hb0 hb1) hb2) | (refine wpList_store_row rfl _ _ _ rfl (w.heap.size+1) DG rfl rfl _ ZS hz2 HDI.out (by rw[HZS.out,HDS.out]) HDO.out ?_))
 refine bodyPost_ret (v:=.agg DG) ?_ rfl ⟨rfl,?_⟩
 ·exact results_cell_row rfl _ _ (w.heap.size+1) _ _ (0,0) _ rfl (setRow_heap _ _ _ _ _ _ hz2) Tryz.underlying30 rfl HDI.out
 ·exact below_setRow hbw (by omega) _
theorem party_any (n:Int) (w:World):Calls Tryz.prog 46 #[.int .i64 n] w (Ret w (.bool (partyB n))):=by
 obtain⟨V,hV⟩:∃ V,V=partyB n:=⟨_,rfl⟩
 rw[←hV]
 unfold partyB at hV
 have HV:=Lib.hid hV
 clear hV
 by_cases h:1≤n
 ·go_enter Tryz.func46,Tryz.ntmps46
  go_wp2
  go_ret
  exact⟨ret_bool (by rw[HV.out];simp;omega),belB⟩
 ·go_enter Tryz.func46,Tryz.ntmps46
  go_wp2
  go_ret
  exact⟨ret_bool (by rw[HV.out];simp;omega),belB⟩
theorem tcond1_any (c:CondV) (m:CondMem) (w:World) (hR:CondReads w c m) (hc:CondFits c) (hE:Env w):Calls Tryz.prog 48 #[CondMem.val c m] w (Ret w (.bool (!validC c))):=by
 have hv:=fun W (hb:Below w.heap.size w W)=>condValid_any c m W (hR.keep hb) hc.p hc.cl hc.co hc.n1 hc.n2 hc.n3 (hE.keep hb)
 generalize validC c=V at *
 unfold CondMem.val at *
 have HV:=Lib.hid hv
 clear hv hR hc hE
 go_enter Tryz.func48,Tryz.ntmps48
 go_wp2_with (go_at_call 49;refine (HV.out _ belB).mono ?_;rintro e w2 ⟨rfl,hb2⟩)
 go_ret
 exact⟨rfl,belB⟩
structure TBox (W:World) (g:Nat) (x:TokM):Prop where
 box:Box1 W g 32 x.cells.toArray
theorem TBox.keep {W W':World} {g:Nat} {x:TokM} (h:TBox W g x) (hb:Below W.heap.size W W'):TBox W' g x:=⟨h.box.keep hb⟩
theorem TBox.cells {W:World} {g:Nat} {x:TokM} (h:TBox W g x):W.cell? ⟨g,0,none⟩=some (.int .i64 x.t.cust)∧W.cell? ⟨g,1,none⟩=some (.int .i64 x.t.ser)∧W.cell? ⟨g,2,none⟩=some (.string x.t.id)∧W.cell? ⟨g,3,none⟩=some (.slice x.A x.t.conds.length x.c) :=
 ⟨h.box.cell (by rw[List.getElem?_toArray];rfl),h.box.cell (by rw[List.getElem?_toArray];rfl),h.box.cell (by rw[List.getElem?_toArray];rfl),h.box.cell (by rw[List.getElem?_toArray];rfl)⟩
theorem reads_one (W:World) (s:ByteArray) (g:Nat) (hg:g=W.heap.size):Reads (W.alloc (.cells #[.string s] 9)) 1 (some ⟨g,0,none⟩) 1 ([s].map .string):=by
 subst hg
 refine⟨rfl,fun _=>⟨_,_,rfl,fun j u hu=>?_⟩⟩
 rw[Nat.zero_add,cell_of_row _ _ _ _ _ _ (World.alloc_heap_new W (.cells #[.string s] 9))]
 simpa using hu
theorem tValid_any (x:TokM) (w:World) (hR:TokReads w x) (hf:∀ y∈x.L,CondFits y.c) (hid:x.t.id.size≤4294967281) (hn:x.t.conds.length≤1000000) (hE:Env w):Calls Tryz.prog 14 #[x.val] w (Ret w (.bool (validT x.t))):=by
 have ht:=fun (W:World) (A:Option Addr) (h:Reads W 1 A 1 ([x.t.id].map .string))=>tags_any A 1 1 [x.t.id] W h (by simp) (by intro p hp;rw[List.mem_singleton.1 hp];exact hid)
 unfold tagsV at ht
 have hc:=fun (W:World) (hb:Below w.heap.size w W)=>containsT_any 48 (enters_of Tryz.func48 (by kernel_rfl) rfl) #[] (fun y=>!validC y.c) x.A x.t.conds.length x.c x.L W
  (fun y hy W' hb'=>tcond1_any y.c y.m W' ((hR.conds.each y hy).keep (bstep hb hb')) (hf y hy) (hE.keep (bstep hb hb'))) (hR.conds.keep hb) (by omega)
 have hp1:=fun W=>party_any x.t.cust W
 have hp2:=fun W=>party_any x.t.ser W
 have hall:x.L.any (fun y=>!validC y.c) = !x.t.conds.all validC:=by
  rw[←hR.same,List.all_map,List.not_all_eq_any_not];rfl
 simp only[hall]at hc
 obtain⟨V,hV⟩:∃ V,V=validT x.t:=⟨_,rfl⟩
 rw[←hV]
 unfold validT idOk at hV
 have HV:=Lib.hid hV
 clear hV hall hR hf hid hE
 unfold TokM.val
 generalize x.t.conds.all validC=va at *
 generalize hln:x.t.conds.length=ln at *
 have HLN:=Lib.hid hln
 clear hln
 cases h1:partyB x.t.cust
 ·rw[h1]at hp1 HV
  generalize tagsR [x.t.id]=r at ht
  have HT:=Lib.hid ht;have HP1:=Lib.hid hp1
  clear ht hp1 hp2 hc h1
  go_enter Tryz.func14,Tryz.ntmps14
  go_upto_region 1 with fail
  generalize hw0:World.alloc _ _=w0
  have B0:TBox w0 w.heap.size x:=⟨by rw[←hw0];exact World.alloc_heap_new w _⟩
  have hb0:Below w.heap.size w w0:=by rw[←hw0];exact balloc (Below.refl _ _) _
  clear hw0
  obtain⟨y0,y1,y2,y3⟩:=B0.cells
  rw[HLN.out]at y3
  go_wp2_with (first | (go_at_call 45;refine (HT.out _ _ (reads_one _ _ _ (by simp))).mono ?_;rintro e w2 ⟨rfl,hb2⟩;have hb12:Below w0.heap.size w0 w2:=belB;have B2:=B0.keep hb12;clear y0 y1 y2 y3;obtain⟨y0,y1,y2,y3⟩:=B2.cells;rw[HLN.out]at y3;have hw2:=bstep hb0 hb12) | (go_at_call 46;refine (HP1.out _).mono ?_;rintro e w3 ⟨rfl,hb3⟩;clear HP1;have B3:=B2.keep hb3;clear y0 y1 y2 y3;obtain⟨y0,y1,y2,y3⟩:=B3.cells;rw[HLN.out]at y3;have hw3:=bstep hw2 hb3) | (go_at_call 46;refine (HP2.out _).mono ?_;rintro e w4 ⟨rfl,hb4⟩;clear HP2;have B4:=B3.keep hb4;clear y0 y1 y2 y3;obtain⟨y0,y1,y2,y3⟩:=B4.cells;rw[HLN.out]at y3;have hw4:=bstep hw3 hb4) | (go_at_call 47;refine (HC.out _ hw4).mono ?_;rintro e w5 ⟨rfl,hb5⟩))
  go_ret
  exact⟨ret_bool (by rw[HV.out];simp),belB⟩
 rw[h1]at hp1 HV
 cases h2:partyB x.t.ser
 ·rw[h2]at hp2 HV
  generalize tagsR [x.t.id]=r at ht
  have HT:=Lib.hid ht;have HP1:=Lib.hid hp1;have HP2:=Lib.hid hp2
  clear ht hp1 hp2 hc h1 h2
  go_enter Tryz.func14,Tryz.ntmps14
  go_upto_region 1 with fail
  generalize hw0:World.alloc _ _=w0
  have B0:TBox w0 w.heap.size x:=⟨by rw[←hw0];exact World.alloc_heap_new w _⟩
  have hb0:Below w.heap.size w w0:=by rw[←hw0];exact balloc (Below.refl _ _) _
  clear hw0
  obtain⟨y0,y1,y2,y3⟩:=B0.cells
  rw[HLN.out]at y3
  go_wp2_with (first | (go_at_call 45;refine (HT.out _ _ (reads_one _ _ _ (by simp))).mono ?_;rintro e w2 ⟨rfl,hb2⟩;have hb12:Below w0.heap.size w0 w2:=belB;have B2:=B0.keep hb12;clear y0 y1 y2 y3;obtain⟨y0,y1,y2,y3⟩:=B2.cells;rw[HLN.out]at y3;have hw2:=bstep hb0 hb12) | (go_at_call 46;refine (HP1.out _).mono ?_;rintro e w3 ⟨rfl,hb3⟩;clear HP1;have B3:=B2.keep hb3;clear y0 y1 y2 y3;obtain⟨y0,y1,y2,y3⟩:=B3.cells;rw[HLN.out]at y3;have hw3:=bstep hw2 hb3) | (go_at_call 46;refine (HP2.out _).mono ?_;rintro e w4 ⟨rfl,hb4⟩;clear HP2;have B4:=B3.keep hb4;clear y0 y1 y2 y3;obtain⟨y0,y1,y2,y3⟩:=B4.cells;rw[HLN.out]at y3;have hw4:=bstep hw3 hb4) | (go_at_call 47;refine (HC.out _ hw4).mono ?_;rintro e w5 ⟨rfl,hb5⟩))
  go_ret
  exact⟨ret_bool (by rw[HV.out];simp),belB⟩
 rw[h2]at hp2 HV
 rw[tags_one]at ht
 by_cases hnm:isNameB x.t.id=true
 rotate_left
 ·rw[if_neg hnm]at ht
  have hnf:isNameB x.t.id=false:=by simpa using hnm
  rw[hnf]at HV
  have HT:=Lib.hid ht;have HP1:=Lib.hid hp1;have HP2:=Lib.hid hp2
  clear ht hp1 hp2 hc h1 h2 hnm hnf
  go_enter Tryz.func14,Tryz.ntmps14
  go_upto_region 1 with fail
  generalize hw0:World.alloc _ _=w0
  have B0:TBox w0 w.heap.size x:=⟨by rw[←hw0];exact World.alloc_heap_new w _⟩
  have hb0:Below w.heap.size w w0:=by rw[←hw0];exact balloc (Below.refl _ _) _
  clear hw0
  obtain⟨y0,y1,y2,y3⟩:=B0.cells
  rw[HLN.out]at y3
  go_wp2_with (first | (go_at_call 45;refine (HT.out _ _ (reads_one _ _ _ (by simp))).mono ?_;rintro e w2 ⟨rfl,hb2⟩;have hb12:Below w0.heap.size w0 w2:=belB;have B2:=B0.keep hb12;clear y0 y1 y2 y3;obtain⟨y0,y1,y2,y3⟩:=B2.cells;rw[HLN.out]at y3;have hw2:=bstep hb0 hb12) | (go_at_call 46;refine (HP1.out _).mono ?_;rintro e w3 ⟨rfl,hb3⟩;clear HP1;have B3:=B2.keep hb3;clear y0 y1 y2 y3;obtain⟨y0,y1,y2,y3⟩:=B3.cells;rw[HLN.out]at y3;have hw3:=bstep hw2 hb3) | (go_at_call 46;refine (HP2.out _).mono ?_;rintro e w4 ⟨rfl,hb4⟩;clear HP2;have B4:=B3.keep hb4;clear y0 y1 y2 y3;obtain⟨y0,y1,y2,y3⟩:=B4.cells;rw[HLN.out]at y3;have hw4:=bstep hw3 hb4) | (go_at_call 47;refine (HC.out _ hw4).mono ?_;rintro e w5 ⟨rfl,hb5⟩))
  go_ret
  exact⟨ret_bool (by rw[HV.out];simp),belB⟩
 rw[if_pos hnm]at ht
 rw[hnm]at HV
 have HT:=Lib.hid ht;have HP1:=Lib.hid hp1;have HP2:=Lib.hid hp2;have HC:=Lib.hid hc
 clear ht hp1 hp2 hc h1 h2 hnm
 by_cases l1:1≤ln
 ·by_cases l2:ln≤16
  ·have i1:(1:Int)≤(ln:Int):=by omega
   have i2:(ln:Int)≤16:=by omega
   rw[decide_eq_true ⟨l1,l2⟩]at HV
   go_enter Tryz.func14,Tryz.ntmps14
   go_upto_region 1 with fail
   generalize hw0:World.alloc _ _=w0
   have B0:TBox w0 w.heap.size x:=⟨by rw[←hw0];exact World.alloc_heap_new w _⟩
   have hb0:Below w.heap.size w w0:=by rw[←hw0];exact balloc (Below.refl _ _) _
   clear hw0
   obtain⟨y0,y1,y2,y3⟩:=B0.cells
   rw[HLN.out]at y3
   go_wp2_with (first | (go_at_call 45;refine (HT.out _ _ (reads_one _ _ _ (by simp))).mono ?_;rintro e w2 ⟨rfl,hb2⟩;have hb12:Below w0.heap.size w0 w2:=belB;have B2:=B0.keep hb12;clear y0 y1 y2 y3;obtain⟨y0,y1,y2,y3⟩:=B2.cells;rw[HLN.out]at y3;have hw2:=bstep hb0 hb12) | (go_at_call 46;refine (HP1.out _).mono ?_;rintro e w3 ⟨rfl,hb3⟩;clear HP1;have B3:=B2.keep hb3;clear y0 y1 y2 y3;obtain⟨y0,y1,y2,y3⟩:=B3.cells;rw[HLN.out]at y3;have hw3:=bstep hw2 hb3) | (go_at_call 46;refine (HP2.out _).mono ?_;rintro e w4 ⟨rfl,hb4⟩;clear HP2;have B4:=B3.keep hb4;clear y0 y1 y2 y3;obtain⟨y0,y1,y2,y3⟩:=B4.cells;rw[HLN.out]at y3;have hw4:=bstep hw3 hb4) | (go_at_call 47;refine (HC.out _ hw4).mono ?_;rintro e w5 ⟨rfl,hb5⟩))
   go_ret
   exact⟨ret_bool (by rw[HV.out];simp),belB⟩
  ·have i1:(1:Int)≤(ln:Int):=by omega
   have i2:¬ (ln:Int)≤16:=by omega
   rw[decide_eq_false (fun h=>l2 h.2)]at HV
   go_enter Tryz.func14,Tryz.ntmps14
   go_upto_region 1 with fail
   generalize hw0:World.alloc _ _=w0
   have B0:TBox w0 w.heap.size x:=⟨by rw[←hw0];exact World.alloc_heap_new w _⟩
   have hb0:Below w.heap.size w w0:=by rw[←hw0];exact balloc (Below.refl _ _) _
   clear hw0
   obtain⟨y0,y1,y2,y3⟩:=B0.cells
   rw[HLN.out]at y3
   go_wp2_with (first | (go_at_call 45;refine (HT.out _ _ (reads_one _ _ _ (by simp))).mono ?_;rintro e w2 ⟨rfl,hb2⟩;have hb12:Below w0.heap.size w0 w2:=belB;have B2:=B0.keep hb12;clear y0 y1 y2 y3;obtain⟨y0,y1,y2,y3⟩:=B2.cells;rw[HLN.out]at y3;have hw2:=bstep hb0 hb12) | (go_at_call 46;refine (HP1.out _).mono ?_;rintro e w3 ⟨rfl,hb3⟩;clear HP1;have B3:=B2.keep hb3;clear y0 y1 y2 y3;obtain⟨y0,y1,y2,y3⟩:=B3.cells;rw[HLN.out]at y3;have hw3:=bstep hw2 hb3) | (go_at_call 46;refine (HP2.out _).mono ?_;rintro e w4 ⟨rfl,hb4⟩;clear HP2;have B4:=B3.keep hb4;clear y0 y1 y2 y3;obtain⟨y0,y1,y2,y3⟩:=B4.cells;rw[HLN.out]at y3;have hw4:=bstep hw3 hb4) | (go_at_call 47;refine (HC.out _ hw4).mono ?_;rintro e w5 ⟨rfl,hb5⟩))
   go_ret
   exact⟨ret_bool (by rw[HV.out];simp),belB⟩
 ·have i1:¬ (1:Int)≤(ln:Int):=by omega
  rw[decide_eq_false (fun h=>l1 h.1)]at HV
  go_enter Tryz.func14,Tryz.ntmps14
  go_upto_region 1 with fail
  generalize hw0:World.alloc _ _=w0
  have B0:TBox w0 w.heap.size x:=⟨by rw[←hw0];exact World.alloc_heap_new w _⟩
  have hb0:Below w.heap.size w w0:=by rw[←hw0];exact balloc (Below.refl _ _) _
  clear hw0
  obtain⟨y0,y1,y2,y3⟩:=B0.cells
  rw[HLN.out]at y3
  go_wp2_with (first | (go_at_call 45;refine (HT.out _ _ (reads_one _ _ _ (by simp))).mono ?_;rintro e w2 ⟨rfl,hb2⟩;have hb12:Below w0.heap.size w0 w2:=belB;have B2:=B0.keep hb12;clear y0 y1 y2 y3;obtain⟨y0,y1,y2,y3⟩:=B2.cells;rw[HLN.out]at y3;have hw2:=bstep hb0 hb12) | (go_at_call 46;refine (HP1.out _).mono ?_;rintro e w3 ⟨rfl,hb3⟩;clear HP1;have B3:=B2.keep hb3;clear y0 y1 y2 y3;obtain⟨y0,y1,y2,y3⟩:=B3.cells;rw[HLN.out]at y3;have hw3:=bstep hw2 hb3) | (go_at_call 46;refine (HP2.out _).mono ?_;rintro e w4 ⟨rfl,hb4⟩;clear HP2;have B4:=B3.keep hb4;clear y0 y1 y2 y3;obtain⟨y0,y1,y2,y3⟩:=B4.cells;rw[HLN.out]at y3;have hw4:=bstep hw3 hb4) | (go_at_call 47;refine (HC.out _ hw4).mono ?_;rintro e w5 ⟨rfl,hb5⟩))
  go_ret
  exact⟨ret_bool (by rw[HV.out];simp),belB⟩
theorem VBox.facts {w:World} {g:Nat} {c:CondV} {m:CondMem} (h:VBox w g c m) :
  w.cell? ⟨g,0,none⟩=some (.int .i64 c.fr)∧w.cell? ⟨g,1,none⟩=some (.int .i64 c.till)∧w.cell? ⟨g,2,none⟩=some (.string c.pat)∧w.cell? ⟨g,3,none⟩=some (.slice m.A c.cl.length m.ca)∧w.cell? ⟨g,4,none⟩=some (.slice m.B c.co.length m.cb)∧w.cell? ⟨g,5,none⟩=some (.slice m.S c.si.length m.cs)∧w.cell? ⟨g,6,none⟩=some (.int .i64 c.us):=CBox.facts h
theorem VBox.keep {w w':World} {g:Nat} {c:CondV} {m:CondMem} (h:VBox w g c m) (hb:Below w.heap.size w w'):VBox w' g c m:=Blk.keep h hb
def YBox (w:World) (g:Nat) (q:AskV):Prop:=ABox w g q.addr q.client q.country q.site q.lo q.hi
theorem YBox.facts {w:World} {g:Nat} {q:AskV} (h:YBox w g q) :
  w.cell? ⟨g,0,none⟩=some (.string q.addr)∧w.cell? ⟨g,1,none⟩=some (.string q.client)∧w.cell? ⟨g,2,none⟩=some (.string q.country)∧w.cell? ⟨g,3,none⟩=some (.int .i64 q.site)∧w.cell? ⟨g,4,none⟩=some (.int .i64 q.lo)∧w.cell? ⟨g,5,none⟩=some (.int .i64 q.hi):=ABox.facts h
theorem YBox.keep {w w':World} {g:Nat} {q:AskV} (h:YBox w g q) (hb:Below w.heap.size w w'):YBox w' g q:=Blk.keep h hb
def textE (c:CondV):ByteArray × Int:=if validC c then (textC c,0) else (⟨#[]⟩,1)
theorem text_all (c:CondV) (m:CondMem) (w:World) (hR:CondReads w c m) (hc:CondFits c) (hE:Env w) (hT:Tab w):Calls Tryz.prog 132 #[CondMem.val c m] w (Ret w (.tuple #[.string (textE c).1,.int .i64 (textE c).2])):=by
 unfold textE
 cases hv:validC c
 ·exact text_bad c m w hR hc hv hE
 ·exact text_valid c m w hR hc hv hE hT
def WB (w:World) (g:Nat) (s:ByteArray) (e:Int):Prop:=Blk w g 169 #[.string s,.int .i64 e] (0,0)
theorem WB.facts {w:World} {g:Nat} {s:ByteArray} {e:Int} (h:WB w g s e):w.cell? ⟨g,0,none⟩=some (.string s)∧w.cell? ⟨g,1,none⟩=some (.int .i64 e):=⟨Blk.cell h 0,Blk.cell h 1⟩
theorem WB.keep {w w':World} {g:Nat} {s:ByteArray} {e:Int} (h:WB w g s e) (hb:Below w.heap.size w w'):WB w' g s e:=Blk.keep h hb
def fewTk (t:TokV):Bool:=t.conds.all fewV&&decide (t.conds.length≤20∧t.id.size≤200)
theorem allT_step {α:Type} (p:α→Bool) (l:List α) (k:Nat) (x:α) (hx:l[k]? = some x) (hp:p x=true):(l.drop k).all p=(l.drop (k+1)).all p:=by
 obtain⟨hl2,rfl⟩:=List.getElem?_eq_some_iff.1 hx
 rw[List.drop_eq_getElem_cons hl2,List.all_cons,hp,Bool.true_and]
theorem allT_stop {α:Type} (p:α→Bool) (l:List α) (k:Nat) (x:α) (hx:l[k]? = some x) (hp:p x=false):(l.drop k).all p=false:=by
 obtain⟨hl2,rfl⟩:=List.getElem?_eq_some_iff.1 hx
 rw[List.drop_eq_getElem_cons hl2,List.all_cons,hp,Bool.false_and]
theorem all_conds {x:TokM} {w:World} (hR:TokReads w x) (p:CondV→Bool):x.L.all (fun y=>p y.c)=x.t.conds.all p:=by rw[←hR.same,List.all_map];rfl
structure CoOk (c:CondV):Prop where
 fits:CondFits c
 ok:validC c=true
 tx:(textC c).size≤1000000
theorem tText_any (c:CondV) (m:CondMem) (w:World) (hR:CondReads w c m) (hc:CoOk c) (hE:Env w) (hT:Tab w):Calls Tryz.prog 71 #[CondMem.val c m] w (Ret w (.string (textC c))):=by
 have ht:=fun W (hb:Below w.heap.size w W)=>text_valid c m W (hR.keep hb) hc.fits hc.ok (hE.keep hb) (hT.keep hb)
 generalize textC c=tx at *
 unfold CondMem.val at *
 have HT:=Lib.hid ht
 clear ht hR hc hE hT
 go_enter Tryz.func71,Tryz.ntmps71
 go_wp2_with (go_at_call 132;refine (HT.out _ belB).mono ?_;rintro e w2 ⟨rfl,hb2⟩)
 go_ret
 exact⟨by simp,belB⟩
end Go.Proofs.YtlkbkclnbppigaaGreatDoor
