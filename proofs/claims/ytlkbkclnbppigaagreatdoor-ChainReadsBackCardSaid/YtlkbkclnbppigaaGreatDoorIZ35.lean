/- chain.Mint. -/
import Derived.Test.YtlkbkclnbppigaaGreatDoorIZ33
set_option maxHeartbeats 16000000
namespace Go.Proofs.YtlkbkclnbppigaaGreatDoor
open Go.RowKit Go.Sort
set_option linter.unusedVariables false
set_option linter.unusedSimpArgs false
set_option maxRecDepth 100000
def TokPost (t:TokV) (er:Int) (w:World) (e:Ending) (w':World):Prop:=Below w.heap.size w w'∧∃ y:TokM,e=.returned (.tuple #[y.val,.int .i64 er])∧TokReads w' y∧y.t=t
theorem infTok:(Tryz.prog.info? 32).map (·.size)=some 20:=by kernel_rfl
theorem tok_size (cust ser:Int) (id:ByteArray) (A:Option Addr) (n c:Nat) (s:List Nat) (hs:s.length=16):(tokCells cust ser id A n c s).toArray.size=20:=by
 unfold tokCells;rw[List.size_toArray,List.length_append,b8_len,hs];rfl
theorem tok_one (cust ser:Int) (id:ByteArray) (A:Option Addr) (n c:Nat) (s:List Nat):(tokCells cust ser id A n c s).toArray.all (·.oneCell')=true:=by
 unfold tokCells
 rw[List.all_toArray,List.all_append,List.all_eq_true.2 (b8_one s)]
 rfl
theorem lit_one (a b:Int) (id:ByteArray) (g:Nat):(#[.int .i64 a,.int .i64 b,.string id,.slice (some ⟨g,0,none⟩) 1 1,.int .u8 0,.int .u8 0,.int .u8 0,.int .u8 0,.int .u8 0,.int .u8 0,.int .u8 0,.int .u8 0,.int .u8 0,.int .u8 0,.int .u8 0,.int .u8 0,.int .u8 0,.int .u8 0,.int .u8 0,.int .u8 0]:Array Value).all (·.oneCell')=true:=tok_one a b id (some ⟨g,0,none⟩) 1 1 zeroS
def zeroM:TokM:=⟨zeroT,none,0,[]⟩
theorem zeroM_reads (w:World):TokReads w zeroM:=⟨rfl,⟨rfl,Reads.nil_ _ _ _,fun x hx=>by cases hx⟩,zeroS_ok,Nat.le_refl _⟩
theorem conds_box {W:World} {y:CoM} {g:Nat} (h:Box1 W g 27 y.cells.toArray):Reads W 7 (some ⟨g,0,none⟩) 1 ([y].flatMap CoM.cells):=by
 refine⟨rfl,fun _=>⟨_,_,rfl,fun j u hu=>?_⟩⟩
 rw[Nat.zero_add,cell_of_row _ _ _ _ _ _ h]
 simpa using hu
theorem splice_tok (cust ser:Int) (id:ByteArray) (A:Option Addr) (n c:Nat) (z s:List Nat) (hz:z.length=16) (hs:s.length=16):splice (tokCells cust ser id A n c z) 4 (b8 s)=tokCells cust ser id A n c s:=by
 unfold splice tokCells
 have h1:(b8 z).length=16:=by rw[b8_len,hz]
 have h2:(b8 s).length=16:=by rw[b8_len,hs]
 simp[h2,h1]
structure MiS (w:World) (K ZT:Array Value) (g:Nat) (X:Array Value) (cg:Nat) (Y:Array Value) (W:World):Prop where
 k:Box1 W w.heap.size 23 K
 r:Box1 W (w.heap.size+2) 32 ZT
 t:Box1 W g 32 X
 c:Box1 W cg 27 Y
 b:Below w.heap.size w W
 s:w.heap.size+2<W.heap.size
theorem MiS.keep {w W W':World} {K Z X Y:Array Value} {g cg:Nat} (h:MiS w K Z g X cg Y W) (hb:Below W.heap.size W W'):MiS w K Z g X cg Y W':=⟨h.k.keep hb,h.r.keep hb,h.t.keep hb,h.c.keep hb,bstep h.b hb,Nat.lt_of_lt_of_le h.s hb.size⟩
theorem mint_any (k:KeyV) (id:ByteArray) (c:CondV) (m:CondMem) (w:World) (hR:CondReads w c m) (hf:CondFits c) (htx:validC c=true→(textC c).size≤1000000) (hk:k.secret.size≤1000000) (hid:id.size≤1000000) (hK:Ks w) (hE:Env w) (hTb:Tab w) :
  Calls Tryz.prog 12 #[k.val,.string id,CondMem.val c m] w (TokPost (mintT k id c).1 (mintT k id c).2 w):=by
 have hsv:=fun W=>sealValid_any k W
 have hld0:=fun (W:World) (h:Box1 W w.heap.size 23 k.arr)=>keyRow h infKey
 obtain⟨R,hRR⟩:∃ R,R=TokPost (mintT k id c).1 (mintT k id c).2 w:=⟨_,rfl⟩
 rw[←hRR]
 have HRR:=Lib.hid hRR
 clear hRR
 rw[KeyV.val_arr]at hsv ⊢
 have hk0:k.arr[0]? = some (.int .i64 k.party):=rfl
 have hk1:k.arr[1]? = some (.int .i64 k.ser):=rfl
 obtain⟨KX,hKX⟩:∃ KX,KX=k.arr:=⟨_,rfl⟩
 rw[←hKX]at hsv hld0 hk0 hk1 ⊢
 have HSV:=Lib.hid hsv;have HLD0:=Lib.hid hld0;have HKX:=Lib.hid hKX
 clear hsv hld0 hKX
 unfold CondMem.val
 have HONE:=Lib.hid lit_one
 go_enter Tryz.func12,Tryz.ntmps12
 go_upto_region 1 with fail
 generalize hw0:World.alloc _ _=w0
 have hkb:Box1 w0 w.heap.size 23 KX:=by rw[←hw0];exact (alloc3_box w _ _ _).1
 have hcb:Box1 w0 (w.heap.size+1) 27 #[.int .i64 c.fr,.int .i64 c.till,.string c.pat,.slice m.A c.cl.length m.ca,.slice m.B c.co.length m.cb,.slice m.S c.si.length m.cs,.int .i64 c.us]:=by rw[←hw0];exact (alloc3_box w _ _ _).2.1
 have hrb:Box1 w0 (w.heap.size+2) 32 (#[.int .i64 0,.int .i64 0,.string ⟨#[]⟩,.slice none 0 0,.int .u8 0,.int .u8 0,.int .u8 0,.int .u8 0,.int .u8 0,.int .u8 0,.int .u8 0,.int .u8 0,.int .u8 0,.int .u8 0,.int .u8 0,.int .u8 0,.int .u8 0,.int .u8 0,.int .u8 0,.int .u8 0]:Array Value):=by rw[←hw0];exact (alloc3_box w _ _ _).2.2
 have hb0:Below w.heap.size w w0:=by rw[←hw0];exact belB
 have hz0:w0.heap.size=w.heap.size+3:=by rw[←hw0];simp
 have q0:=hkb.cell hk0
 have q1:=hkb.cell hk1
 have hldc:=cond_row hcb rfl
 have HZ0:=Lib.hid hz0
 have hzl:w.heap.size<w0.heap.size:=by omega
 clear hw0 hk0 hk1 hz0
 go_upto_region 2 with (first
  | (refine wpList_load_addr rfl 27 _ rfl ⟨w.heap.size+1,0,none⟩ _ rfl hldc ?_)
  | (refine wpList_store_row rfl 32 _ _ rfl (w0.heap.size+1) #[.int .i64 k.party,.int .i64 k.ser,.string id,.slice (some ⟨w0.heap.size,0,none⟩) 1 1,.int .u8 0,.int .u8 0,.int .u8 0,.int .u8 0,.int .u8 0,.int .u8 0,.int .u8 0,.int .u8 0,.int .u8 0,.int .u8 0,.int .u8 0,.int .u8 0,.int .u8 0,.int .u8 0,.int .u8 0,.int .u8 0] rfl rfl _ (#[.int .i64 0,.int .i64 0,.string ⟨#[]⟩,.slice none 0 0,.int .u8 0,.int .u8 0,.int .u8 0,.int .u8 0,.int .u8 0,.int .u8 0,.int .u8 0,.int .u8 0,.int .u8 0,.int .u8 0,.int .u8 0,.int .u8 0,.int .u8 0,.int .u8 0,.int .u8 0,.int .u8 0]:Array Value) (heap_alloc2_new w0 _ _) infTok rfl (HONE.out _ _ _ _) ?_))
 generalize (Value.agg #[.int .i64 k.party,.int .i64 k.ser,.string id,.slice (some ⟨w0.heap.size,0,none⟩) 1 1,.int .u8 0,.int .u8 0,.int .u8 0,.int .u8 0,.int .u8 0,.int .u8 0,.int .u8 0,.int .u8 0,.int .u8 0,.int .u8 0,.int .u8 0,.int .u8 0,.int .u8 0,.int .u8 0,.int .u8 0,.int .u8 0])=v16
 generalize hw1:World.setRow _ _ _=w1
 obtain⟨y,hy⟩:∃ y:CoM,y=⟨c,m⟩:=⟨_,rfl⟩
 obtain⟨x,hx⟩:∃ x:TokM,x=⟨⟨k.party,k.ser,id,[c],zeroS⟩,some ⟨w0.heap.size,0,none⟩,1,[y]⟩:=⟨_,rfl⟩
 have hb01:Below w0.heap.size w0 w1:=by rw[←hw1];exact below_setRow (balloc (balloc (Below.refl _ _) _) _) (by omega) _
 have hXc:x.cells.toArray=#[.int .i64 k.party,.int .i64 k.ser,.string id,.slice (some ⟨w0.heap.size,0,none⟩) 1 1,.int .u8 0,.int .u8 0,.int .u8 0,.int .u8 0,.int .u8 0,.int .u8 0,.int .u8 0,.int .u8 0,.int .u8 0,.int .u8 0,.int .u8 0,.int .u8 0,.int .u8 0,.int .u8 0,.int .u8 0,.int .u8 0]:=by rw[hx];rfl
 have htb:Box1 w1 (w0.heap.size+1) 32 x.cells.toArray:=by rw[←hw1,hXc];exact setRow_heap _ _ _ _ _ _ (heap_alloc2_new w0 _ _)
 have hcb1:Box1 w1 w0.heap.size 27 y.cells.toArray:=by
  have h1:Box1 (w0.alloc (.cells #[.int .i64 c.fr,.int .i64 c.till,.string c.pat,.slice m.A c.cl.length m.ca,.slice m.B c.co.length m.cb,.slice m.S c.si.length m.cs,.int .i64 c.us] 27)) w0.heap.size 27 y.cells.toArray:=by rw[hy];exact heap_alloc_new w0 _
  refine h1.keep ?_
  rw[←hw1]
  exact below_setRow (below_alloc _ _) (by simp) _
 have hcr:=conds_box hcb1
 have hbw1:Below w.heap.size w w1:=bstep hb0 hb01
 have hTR:TokReads w1 x:=by
  rw[hx]
  refine⟨by rw[hy];rfl,⟨rfl,hcr,fun z hz=>?_⟩,zeroS_ok,Nat.le_refl _⟩
  rw[List.mem_singleton.1 hz,hy]
  exact hR.keep hbw1
 have hS1:MiS w KX (#[.int .i64 0,.int .i64 0,.string ⟨#[]⟩,.slice none 0 0,.int .u8 0,.int .u8 0,.int .u8 0,.int .u8 0,.int .u8 0,.int .u8 0,.int .u8 0,.int .u8 0,.int .u8 0,.int .u8 0,.int .u8 0,.int .u8 0,.int .u8 0,.int .u8 0,.int .u8 0,.int .u8 0]:Array Value) (w0.heap.size+1) x.cells.toArray w0.heap.size y.cells.toArray w1:=⟨hkb.keep hb01,hrb.keep hb01,htb,hcb1,hbw1,by have:=HZ0.out;have:=hb01.size;omega⟩
 have hfL:∀ z∈x.L,CondFits z.c:=by
  intro z hz;rw[hx]at hz;rw[List.mem_singleton.1 hz,hy];exact hf
 have hxt:x.t=⟨k.party,k.ser,id,[c],zeroS⟩:=by rw[hx]
 have hxA:x.A=some ⟨w0.heap.size,0,none⟩∧x.c=1:=by rw[hx];exact⟨rfl,rfl⟩
 have htv:=fun (W:World) (hb:Below w1.heap.size w1 W)=>tValid_any x W (hTR.keep hb) hfL (by rw[hxt];show id.size≤_;omega) (by rw[hxt];show 1≤_;omega) (hE.keep (bstep hbw1 hb))
 have hXS:x.cells.toArray.size=20:=by rw[List.size_toArray];exact hTR.size
 obtain⟨g,hg⟩:∃ g,g=w0.heap.size+1:=⟨_,rfl⟩
 rw[←hg]at hS1 ⊢
 have hgg:w.heap.size+3≤g∧w0.heap.size<g∧w.heap.size+2<w0.heap.size:=by have:=HZ0.out;omega
 clear hg
 have hmint:mintT k id c=if validK k&&validT x.t then (⟨k.party,k.ser,id,[c],rightS k x.t⟩,0) else (zeroT,1):=by unfold mintT;rw[hxt]
 have hzon:((#[.int .i64 0,.int .i64 0,.string ⟨#[]⟩,.slice none 0 0,.int .u8 0,.int .u8 0,.int .u8 0,.int .u8 0,.int .u8 0,.int .u8 0,.int .u8 0,.int .u8 0,.int .u8 0,.int .u8 0,.int .u8 0,.int .u8 0,.int .u8 0,.int .u8 0,.int .u8 0,.int .u8 0]:Array Value):Array Value).all (·.oneCell')=true:=tok_one 0 0 ⟨#[]⟩ none 0 0 zeroS
 have HZON:=Lib.hid hzon;have HXS:=Lib.hid hXS;have HS1:=Lib.hid hS1;have HMI:=Lib.hid hmint
 clear hzon hXS hS1 hmint hXc htb hcr hcb1 hkb hcb hrb hb0 hb01 hldc q0 q1 hzl hw1
 have hldt1:=tok_row HS1.out.t HXS.out
 have hldk1:=HLD0.out w1 HS1.out.k
 have HX:=Lib.hid hx;have HYY:=Lib.hid hy
 clear hx hy
 cases hv1:validK k
 ·have e1:mintT k id c=(zeroT,1):=by rw[HMI.out,hv1];rfl
  have HE1:=Lib.hid e1
  rw[hv1]at HSV
  clear e1 HMI htv hv1 hE hTb hK hTR hfL hxt hxA
  go_wp2_with (first | (refine wpList_load_addr rfl 23 _ rfl ⟨w.heap.size,0,none⟩ (.agg KX) rfl hldk1 ?_) | (go_at_call 43;refine (HSV.out _).mono ?_;rintro e w2 ⟨rfl,hb2⟩;have HS2:=Lib.hid (HS1.out.keep hb2);have HL2:=Lib.hid (tok_row (HS1.out.keep hb2).t HXS.out)) | (refine wpList_store_row rfl 32 _ _ rfl (w.heap.size+2) (#[.int .i64 0,.int .i64 0,.string ⟨#[]⟩,.slice none 0 0,.int .u8 0,.int .u8 0,.int .u8 0,.int .u8 0,.int .u8 0,.int .u8 0,.int .u8 0,.int .u8 0,.int .u8 0,.int .u8 0,.int .u8 0,.int .u8 0,.int .u8 0,.int .u8 0,.int .u8 0,.int .u8 0]:Array Value) rfl rfl _ (#[.int .i64 0,.int .i64 0,.string ⟨#[]⟩,.slice none 0 0,.int .u8 0,.int .u8 0,.int .u8 0,.int .u8 0,.int .u8 0,.int .u8 0,.int .u8 0,.int .u8 0,.int .u8 0,.int .u8 0,.int .u8 0,.int .u8 0,.int .u8 0,.int .u8 0,.int .u8 0,.int .u8 0]:Array Value) HS2.out.r infTok rfl HZON.out ?_))
  refine bodyPost_ret (v:=.tuple #[.agg (#[.int .i64 0,.int .i64 0,.string ⟨#[]⟩,.slice none 0 0,.int .u8 0,.int .u8 0,.int .u8 0,.int .u8 0,.int .u8 0,.int .u8 0,.int .u8 0,.int .u8 0,.int .u8 0,.int .u8 0,.int .u8 0,.int .u8 0,.int .u8 0,.int .u8 0,.int .u8 0,.int .u8 0]:Array Value),.int .i64 1]) ?_ rfl ?_
  ·exact results_row_tmp rfl _ _ (w.heap.size+2) _ _ rfl rfl (tok_row (setRow_heap _ _ _ _ _ _ HS2.out.r) rfl)
  ·rw[HRR.out,HE1.out]
   exact⟨below_setRow HS2.out.b (by omega) _,zeroM,rfl,zeroM_reads _,rfl⟩
 rw[hv1]at HSV
 cases hv2:validT x.t
 ·have e1:mintT k id c=(zeroT,1):=by rw[HMI.out,hv1,hv2];rfl
  have HE1:=Lib.hid e1
  rw[hv2]at htv
  have HTV:=Lib.hid htv
  clear e1 HMI htv hv1 hv2 hE hTb hK hTR hfL hxt hxA
  go_wp2_with (first | (refine wpList_load_addr rfl 23 _ rfl ⟨w.heap.size,0,none⟩ (.agg KX) rfl hldk1 ?_) | (go_at_call 43;refine (HSV.out _).mono ?_;rintro e w2 ⟨rfl,hb2⟩;have HS2:=Lib.hid (HS1.out.keep hb2);have HL2:=Lib.hid (tok_row (HS1.out.keep hb2).t HXS.out)) | (go_big_want;refine wp_load_addr 32 _ rfl ⟨g,0,none⟩ (.agg x.cells.toArray) rfl HL2.out ?_;simp only[Act.put,List.setIfInBounds_toArray,List.set_cons_succ,List.set_cons_zero]) | (go_at_call 14;refine (HTV.out _ hb2).mono ?_;rintro e w3 ⟨rfl,hb3⟩;have HS3:=Lib.hid (HS2.out.keep hb3)) | (refine wpList_store_row rfl 32 _ _ rfl (w.heap.size+2) (#[.int .i64 0,.int .i64 0,.string ⟨#[]⟩,.slice none 0 0,.int .u8 0,.int .u8 0,.int .u8 0,.int .u8 0,.int .u8 0,.int .u8 0,.int .u8 0,.int .u8 0,.int .u8 0,.int .u8 0,.int .u8 0,.int .u8 0,.int .u8 0,.int .u8 0,.int .u8 0,.int .u8 0]:Array Value) rfl rfl _ (#[.int .i64 0,.int .i64 0,.string ⟨#[]⟩,.slice none 0 0,.int .u8 0,.int .u8 0,.int .u8 0,.int .u8 0,.int .u8 0,.int .u8 0,.int .u8 0,.int .u8 0,.int .u8 0,.int .u8 0,.int .u8 0,.int .u8 0,.int .u8 0,.int .u8 0,.int .u8 0,.int .u8 0]:Array Value) HS3.out.r infTok rfl HZON.out ?_))
  refine bodyPost_ret (v:=.tuple #[.agg (#[.int .i64 0,.int .i64 0,.string ⟨#[]⟩,.slice none 0 0,.int .u8 0,.int .u8 0,.int .u8 0,.int .u8 0,.int .u8 0,.int .u8 0,.int .u8 0,.int .u8 0,.int .u8 0,.int .u8 0,.int .u8 0,.int .u8 0,.int .u8 0,.int .u8 0,.int .u8 0,.int .u8 0]:Array Value),.int .i64 1]) ?_ rfl ?_
  ·exact results_row_tmp rfl _ _ (w.heap.size+2) _ _ rfl rfl (tok_row (setRow_heap _ _ _ _ _ _ HS3.out.r) rfl)
  ·rw[HRR.out,HE1.out]
   exact⟨below_setRow HS3.out.b (by omega) _,zeroM,rfl,zeroM_reads _,rfl⟩
 have e1:mintT k id c=(⟨k.party,k.ser,id,[c],rightS k x.t⟩,0):=by rw[HMI.out,hv1,hv2];rfl
 have HE1:=Lib.hid e1
 rw[hv2]at htv
 have hok:=(validT_iff _).1 hv2
 have hcv:validC c=true:=hok.all c (by rw[hxt];exact List.mem_singleton.2 rfl)
 have hcok:∀ z∈x.L,CoOk z.c:=by
  intro z hz;rw[HX.out]at hz;rw[List.mem_singleton.1 hz,HYY.out];exact⟨hf,hcv,htx hcv⟩
 have hrt:=fun (W:World) (hb:Below w1.heap.size w1 W)=>right_any k x W (hTR.keep hb) hcok (by rw[hxt];exact Nat.le_refl 1) (by rw[hxt];show 1≤_;omega) hk (by rw[hxt];exact hid) (hK.keep (bstep hbw1 hb)) (hE.keep (bstep hbw1 hb)) (hTb.keep (bstep hbw1 hb))
 rw[KeyV.val_arr,←HKX.out]at hrt
 have HTV:=Lib.hid htv;have HRT:=Lib.hid hrt
 have hbr:=fun (W:World) (hS:MiS w KX (#[.int .i64 0,.int .i64 0,.string ⟨#[]⟩,.slice none 0 0,.int .u8 0,.int .u8 0,.int .u8 0,.int .u8 0,.int .u8 0,.int .u8 0,.int .u8 0,.int .u8 0,.int .u8 0,.int .u8 0,.int .u8 0,.int .u8 0,.int .u8 0,.int .u8 0,.int .u8 0,.int .u8 0]:Array Value) g x.cells.toArray w0.heap.size y.cells.toArray W)=>And.intro (keyRow hS.k (by rw[HKX.out];exact infKey)) (tok_row hS.t HXS.out)
 obtain⟨S,hS⟩:∃ S,S=rightS k x.t:=⟨_,rfl⟩
 have hSok:SealOk S:=by rw[hS];exact right_ok k x.t
 rw[←hS]at hrt HE1
 have HRT:=Lib.hid hrt;have HBR:=Lib.hid hbr;have HSK:=Lib.hid hSok
 have hbl:∀ v∈b8 S,v.oneCell'=true:=b8_one S
 have hbs:(Tryz.prog.info? 30).map (·.size)=some (b8 S).length:=by rw[b8_len,hSok.len];exact infSeal
 have hsp:splice x.cells 4 (b8 S)=tokCells x.t.cust x.t.ser x.t.id x.A x.t.conds.length x.c S:=splice_tok _ _ _ _ _ _ _ _ hTR.sl.len hSok.len
 have hcl:x.cells.length=20:=hTR.size
 have hnew:∀ W,Below w.heap.size w W→Box1 W w0.heap.size 27 y.cells.toArray→TokReads W ⟨⟨k.party,k.ser,id,[c],S⟩,x.A,x.c,x.L⟩:=fun W hb hc=>by
  rw[HX.out]
  refine⟨by rw[HYY.out];rfl,⟨rfl,conds_box hc,fun z hz=>?_⟩,hSok,Nat.le_refl _⟩
  rw[List.mem_singleton.1 hz,HYY.out]
  exact hR.keep hb
 have hval:(TokM.mk ⟨k.party,k.ser,id,[c],S⟩ x.A x.c x.L).val=.agg (tokCells x.t.cust x.t.ser x.t.id x.A x.t.conds.length x.c S).toArray:=by rw[hxt];rfl
 have HBL:=Lib.hid hbl;have HBS:=Lib.hid hbs;have HSP:=Lib.hid hsp;have HCL:=Lib.hid hcl;have HNEW:=Lib.hid hnew;have HVAL:=Lib.hid hval
 have hTS:(tokCells x.t.cust x.t.ser x.t.id x.A x.t.conds.length x.c S).toArray.size=20:=tok_size _ _ _ _ _ _ _ hSok.len
 have HTS:=Lib.hid hTS;have HTO:=Lib.hid (tok_one x.t.cust x.t.ser x.t.id x.A x.t.conds.length x.c S)
 clear hS hbl hbs hsp hcl hnew hval hTS hrt hbr hSok htv hcok hok hcv hv1 hv2 e1 hE hTb hK hTR hfL HMI hxt hxA
 generalize hXN:(tokCells x.t.cust x.t.ser x.t.id x.A x.t.conds.length x.c S).toArray=XN at *
 have HXN:=Lib.hid hXN
 clear hXN
 go_upto_region 4 with (first | (refine wpList_load_addr rfl 23 _ rfl ⟨w.heap.size,0,none⟩ (.agg KX) rfl hldk1 ?_) | (go_at_call 43;refine (HSV.out _).mono ?_;rintro e w2 ⟨rfl,hb2⟩;have HS2:=Lib.hid (HS1.out.keep hb2);have HL2:=Lib.hid (tok_row (HS1.out.keep hb2).t HXS.out)) | (go_big_want;refine wp_load_addr 32 _ rfl ⟨g,0,none⟩ (.agg x.cells.toArray) rfl HL2.out ?_;simp only[Act.put,List.setIfInBounds_toArray,List.set_cons_succ,List.set_cons_zero]) | (go_at_call 14;refine (HTV.out _ hb2).mono ?_;rintro e w3 ⟨rfl,hb3⟩;have HS3:=Lib.hid (HS2.out.keep hb3)))
 have hld4:=HBR.out w3 HS3.out
 obtain⟨hk4,ht4⟩:=hld4
 have hb13:=bstep hb2 hb3
 go_upto_region 5 with (first
  | (refine wpList_load_addr rfl 23 _ rfl ⟨w.heap.size,0,none⟩ (.agg KX) rfl hk4 ?_)
  | (refine wpList_load_addr rfl 32 _ rfl ⟨g,0,none⟩ (.agg x.cells.toArray) rfl ht4 ?_)
  | (go_at_call 44;refine (HRT.out _ hb13).mono ?_;rintro e w4 ⟨rfl,hb4⟩)
  | (refine wpList_store_at rfl 30 _ _ rfl g 4 (b8 S) rfl rfl _ x.cells (HS3.out.keep hb4).t HBS.out (by rw[b8_len,HSK.out.len,HCL.out];omega) HBL.out ?_))
 dsimp only[Act.put]
 rw[HSP.out,HXN.out]
 generalize hw5:World.setRow _ _ _=w5
 have hb5:Below g w4 w5:=by rw[←hw5];exact below_setRow (Below.refl _ _) (Nat.le_refl _) _
 have ht5:Box1 w5 g 32 XN:=by rw[←hw5];exact setRow_heap _ _ _ _ _ _ (HS3.out.keep hb4).t
 have hr5:Box1 w5 (w.heap.size+2) 32 (#[.int .i64 0,.int .i64 0,.string ⟨#[]⟩,.slice none 0 0,.int .u8 0,.int .u8 0,.int .u8 0,.int .u8 0,.int .u8 0,.int .u8 0,.int .u8 0,.int .u8 0,.int .u8 0,.int .u8 0,.int .u8 0,.int .u8 0,.int .u8 0,.int .u8 0,.int .u8 0,.int .u8 0]:Array Value):=(hb5.block _ (by omega)).trans (HS3.out.keep hb4).r
 have hc5:Box1 w5 w0.heap.size 27 y.cells.toArray:=(hb5.block _ hgg.2.1).trans (HS3.out.keep hb4).c
 have hbw5:Below w.heap.size w w5:=(HS3.out.keep hb4).b.trans (hb5.mono (by omega))
 have hldn:=tok_row ht5 HTS.out
 have HLN:=Lib.hid hldn;have HR5:=Lib.hid hr5;have HC5:=Lib.hid hc5;have HB5:=Lib.hid hbw5
 clear hw5 hb5 ht5 hr5 hc5 hbw5 hldn hk4 ht4
 go_wp2_with (first
  | (refine wpList_load_addr rfl 32 _ rfl ⟨g,0,none⟩ (.agg XN) rfl HLN.out ?_)
  | (refine wpList_store_row rfl 32 _ _ rfl (w.heap.size+2) XN rfl rfl _ (#[.int .i64 0,.int .i64 0,.string ⟨#[]⟩,.slice none 0 0,.int .u8 0,.int .u8 0,.int .u8 0,.int .u8 0,.int .u8 0,.int .u8 0,.int .u8 0,.int .u8 0,.int .u8 0,.int .u8 0,.int .u8 0,.int .u8 0,.int .u8 0,.int .u8 0,.int .u8 0,.int .u8 0]:Array Value) HR5.out (by rw[HTS.out];exact infTok) (by rw[HTS.out];rfl) HTO.out ?_))
 refine bodyPost_ret (v:=.tuple #[.agg XN,.int .i64 0]) ?_ rfl ?_
 ·exact results_row_tmp rfl _ _ (w.heap.size+2) _ _ rfl rfl (tok_row (setRow_heap _ _ _ _ _ _ HR5.out) HTS.out)
 ·rw[HRR.out,HE1.out]
  have hbw6:Below w.heap.size w (w5.setRow (w.heap.size+2) XN):=below_setRow HB5.out (by omega) _
  refine⟨hbw6,_,?_,HNEW.out _ hbw6 ((setRow_other _ _ _ _ (by omega)).trans HC5.out),rfl⟩
  rw[HVAL.out]
theorem infCond:(Tryz.prog.info? 27).map (fun i=>(i.zero,i.size,i.bytes))=some (some (.agg #[.int .i64 0,.int .i64 0,.string ⟨#[]⟩,.slice none 0 0,.slice none 0 0,.slice none 0 0,.int .i64 0]),7,112):=by kernel_rfl
theorem cells_one (L:List CoM):∀ u∈L.flatMap CoM.cells,u.oneCell'=true:=by
 intro u hu
 obtain⟨x,_,h⟩:=List.mem_flatMap.1 hu
 simp only[CoM.cells,List.mem_cons,List.not_mem_nil,or_false]at h
 rcases h with rfl | rfl | rfl | rfl | rfl | rfl | rfl <;> rfl
theorem flat7 (L:List CoM):(L.flatMap CoM.cells).length=L.length*7:=flat_len CoM.cells L (fun a _=>a.cells_len)
theorem cloneT_any (b o n c:Nat) (cs:List Value) (w:World) (hl:cs.length=n*7) (hc:∀ j u,cs[j]? = some u→w.cell? ⟨b,o+j,none⟩=some u) (h1:∀ u∈cs,u.oneCell'=true) (hn:n≤1000000) :
  Calls Tryz.prog 51 #[.slice (some ⟨b,o,none⟩) n c] w fun e w'=>∃ v,e=.returned v∧w'.ownsRow w.heap.size 27 7 v n cs∧Below w.heap.size w w':=by
 obtain⟨i0,hi0,hz0,hz1,hz2⟩:=info_parts infCond
 have HI:=Lib.hid (And.intro hi0 (And.intro hz0 (And.intro hz1 hz2)))
 clear hi0 hz0 hz1 hz2
 have hown0:(w.alloc (.cells #[] 27)).ownsRow w.heap.size 27 7 (.slice (some ⟨w.heap.size,0,none⟩) 0 0) 0 []:=World.ownsRow_lit (base:=w.heap.size) (e:=27) (size:=7) w #[] 0 (Nat.le_refl _) (by unfold maxLen;omega) rfl
 have hba:=below_alloc w (.cells #[] 27)
 have HO:=Lib.hid hown0;have HC:=Lib.hid hc;have HL:=Lib.hid hl;have H1:=Lib.hid h1;have HB:=Lib.hid hba
 clear hown0 hc hl h1 hba
 have hadd:∀ j,(⟨b,o,none⟩:Addr).add j=⟨b,o+j,none⟩:=fun j=>by unfold Addr.add;split <;> simp_all
 have HA:=Lib.hid hadd
 clear hadd
 have he:∀ w:World,(binOp .eql 28 (.slice (some ⟨b,o,none⟩) n c) (.slice none 0 0)).run Tryz.prog w=.ok (.bool false) w:=fun _=>rfl
 go_enter Tryz.func51,Tryz.ntmps51
 go_wp2_with (at_builtin;refine wpList_append_own _ rfl _ _ 28 rfl w.heap.size 27 i0 (.agg #[.int .i64 0,.int .i64 0,.string ⟨#[]⟩,.slice none 0 0,.slice none 0 0,.slice none 0 0,.int .i64 0]) 7 112 Tryz.underlying28 HI.out.1 HI.out.2.1 HI.out.2.2.1 HI.out.2.2.2 rfl (by decide) _ 0 [] rfl HO.out ⟨b,o,none⟩ n c cs rfl HL.out (fun j u hu=>by rw[HA.out];exact cell_keep HB.out (HC.out j u hu)) H1.out (by unfold maxLen;omega) (by omega) (by simp) ?_;intro v' w' hown' hgrow _)
 rw[Nat.zero_add,List.nil_append]at hown'
 go_ret
 exact⟨v',rfl,hown',HB.out.grown hgrow (by simp) (fun r e=>ownsRow_block HO.out r e)⟩
structure NG (n0 n:Nat) (xs ys:List Value) (a b:World):Prop where
 low:Below n0 a b
 r1:∀ v,a.ownsRow n0 27 7 v n xs→b.ownsRow n0 27 7 v n xs
 r2:∀ v,a.ownsRow n0 27 7 v (n+1) (xs++ys)→b.ownsRow n0 27 7 v (n+1) (xs++ys)
 r3:∀ v,a.ownsRow n0 27 7 v 1 ys→b.ownsRow n0 27 7 v 1 ys
theorem NG.refl {n0 n:Nat} {xs ys:List Value} (a:World):NG n0 n xs ys a a:=⟨Below.refl _ _,fun _ h=>h,fun _ h=>h,fun _ h=>h⟩
theorem NG.trans {n0 n:Nat} {xs ys:List Value} (a b c:World) (h:NG n0 n xs ys a b) (k:NG n0 n xs ys b c):NG n0 n xs ys a c :=
 ⟨h.low.trans k.low,fun v x=>k.r1 v (h.r1 v x),fun v x=>k.r2 v (h.r2 v x),fun v x=>k.r3 v (h.r3 v x)⟩
theorem NG.of {n0 n:Nat} {xs ys:List Value} {a b:World} (h:Below a.heap.size a b) (h0:n0≤a.heap.size):NG n0 n xs ys a b :=
 ⟨h.mono h0,fun _ x=>ownsRow_keep x h,fun _ x=>ownsRow_keep x h,fun _ x=>ownsRow_keep x h⟩
def KeepsG (G:World→World→Prop) (f:Value→World→Prop):Prop:=∀ v w w',f v w→G w w'→f v w'
def KeepAllG (G:World→World→Prop):List (Value→World→Prop)→Prop
 | []=>True
 | f :: l=>KeepsG G f∧KeepAllG G l
theorem keepsG_is (G:World→World→Prop) (c:Value):KeepsG G (IsV c):=fun _ _ _ h _=>h
theorem DL.keepG (G:World→World→Prop):∀ (Ds:List (Value→World→Prop)),KeepAllG G Ds→∀ i v w w',DL Ds i v w→G w w'→DL Ds i v w'
 | [],_,i,v,w,w',h,_=>by unfold DL at h;simp at h
 | f :: l,hk,0,v,w,w',h,hg=>hk.1 v w w' h hg
 | f :: l,hk,i+1,v,w,w',h,hg=>DL.keepG G l hk.2 i v w w' h hg
def OwnP (n0 n:Nat) (xs:List Value):Value→World→Prop:=fun v W=>W.ownsRow n0 27 7 v n xs
def OwnL (n0:Nat) (ys:List Value):Value→World→Prop:=fun v W=>∃ g,v=.slice (some ⟨g,0,none⟩) 1 1∧W.ownsRow n0 27 7 v 1 ys
structure NaS (w:World) (x:TokM) (Y Z:Array Value) (n0:Nat) (W:World):Prop where
 t:TBox W w.heap.size x
 y:Box1 W (w.heap.size+1) 27 Y
 z:Box1 W (w.heap.size+2) 32 Z
 b:Below w.heap.size w W
 s:n0≤W.heap.size
theorem NaS.low {w W W':World} {x:TokM} {Y Z:Array Value} {n0:Nat} (h:NaS w x Y Z n0 W) (hb:Below n0 W W') (h0:w.heap.size+2<n0):NaS w x Y Z n0 W' :=
 ⟨⟨(hb.block _ (by omega)).trans h.t.box⟩,(hb.block _ (by omega)).trans h.y,(hb.block _ h0).trans h.z,h.b.trans (hb.mono (by omega)),Nat.le_trans h.s hb.size⟩
theorem NaS.keep {w W W':World} {x:TokM} {Y Z:Array Value} {n0:Nat} (h:NaS w x Y Z n0 W) (hb:Below W.heap.size W W'):NaS w x Y Z n0 W' :=
 ⟨h.t.keep hb,h.y.keep hb,h.z.keep hb,bstep h.b hb,Nat.le_trans h.s hb.size⟩
theorem own_ge {w:World} {base g cap n size:Nat} {e:TypeId} {xs:List Value} (h:w.ownsRow base e size (.slice (some ⟨g,0,none⟩) n cap) n xs):base≤g:=ownsRow_block h g rfl
theorem own_cap {w:World} {base g cap n size:Nat} {e:TypeId} {xs:List Value} (h:w.ownsRow base e size (.slice (some ⟨g,0,none⟩) n cap) n xs):n≤cap:=by
 rcases h.2 with ⟨h1,_⟩ | ⟨g2,cap2,cur,h1,_,_,h4,_⟩
 ·cases h1
 ·injection h1 with _ _ h3
  omega
theorem own_block {w w':World} {base g cap n size:Nat} {e:TypeId} {xs:List Value} (h:w.ownsRow base e size (.slice (some ⟨g,0,none⟩) n cap) n xs) (hb:w'.heap[g]? = w.heap[g]?):w'.ownsRow base e size (.slice (some ⟨g,0,none⟩) n cap) n xs:=by
 refine⟨h.1,?_⟩
 rcases h.2 with ⟨h1,_⟩ | ⟨g2,cap2,cur,h1,h2,h3,h4⟩
 ·cases h1
 ·injection h1 with e1 e2 e3
  injection e1 with e1
  injection e1 with e1
  subst e1
  subst e3
  exact .inr ⟨_,_,cur,rfl,h2,hb.trans h3,h4⟩
theorem narrow_any (x:TokM) (c:CondV) (m:CondMem) (w:World) (hR:TokReads w x) (hRc:CondReads w c m) (hf:CondFits c) (htx:validC c=true→(textC c).size≤1000000) (h1:1≤x.t.conds.length) (hn:x.t.conds.length≤1000) (hK:Ks w) (hE:Env w) (hTb:Tab w) :
  Calls Tryz.prog 17 #[x.val,CondMem.val c m] w (TokPost (narrowT x.t c).1 (narrowT x.t c).2 w):=by
 obtain⟨i0,hi0,hz0,hz1,hz2⟩:=info_parts infCond
 have HI:=Lib.hid (And.intro hi0 (And.intro hz0 (And.intro hz1 hz2)))
 clear hi0 hz0 hz1 hz2
 obtain⟨b,o,hA,hrow⟩:=hR.conds.rows.2 (by omega)
 have hv:=fun (W:World) (hb:Below w.heap.size w W)=>condValid_any c m W (hRc.keep hb) hf.p hf.cl hf.co hf.n1 hf.n2 hf.n3 (hE.keep hb)
 have hnx:=fun (hcv:validC c=true) (W:World) (hb:Below w.heap.size w W)=>tNext_any x.t.sl hR.sl c m W (hRc.keep hb) ⟨hf,hcv,htx hcv⟩ (hE.keep hb) (hTb.keep hb) (hK.keep hb)
 obtain⟨R,hRR⟩:∃ R,R=TokPost (narrowT x.t c).1 (narrowT x.t c).2 w:=⟨_,rfl⟩
 rw[←hRR]
 have hnar:narrowT x.t c=if validC c then (if 16≤x.t.conds.length then (zeroT,2) else (⟨x.t.cust,x.t.ser,x.t.id,x.t.conds++[c],nextS x.t.sl c⟩,0)) else (zeroT,1):=rfl
 obtain⟨y,hy⟩:∃ y:CoM,y=⟨c,m⟩:=⟨_,rfl⟩
 obtain⟨Y,hY⟩:∃ Y:Array Value,Y=y.cells.toArray:=⟨_,rfl⟩
 have hYv:CondMem.val c m=.agg Y:=by rw[hY,hy];rfl
 have hYS:Y.size=7:=by rw[hY];rfl
 have HYLI:=Lib.hid (show Y=#[.int .i64 c.fr,.int .i64 c.till,.string c.pat,.slice m.A c.cl.length m.ca,.slice m.B c.co.length m.cb,.slice m.S c.si.length m.cs,.int .i64 c.us] by rw[hY,hy];rfl)
 rw[hYv]at hv hnx ⊢
 have hzon:((#[.int .i64 0,.int .i64 0,.string ⟨#[]⟩,.slice none 0 0,.int .u8 0,.int .u8 0,.int .u8 0,.int .u8 0,.int .u8 0,.int .u8 0,.int .u8 0,.int .u8 0,.int .u8 0,.int .u8 0,.int .u8 0,.int .u8 0,.int .u8 0,.int .u8 0,.int .u8 0,.int .u8 0]:Array Value):Array Value).all (·.oneCell')=true:=tok_one 0 0 ⟨#[]⟩ none 0 0 zeroS
 have HRR:=Lib.hid hRR;have HZON:=Lib.hid hzon;have HYS:=Lib.hid hYS;have HNA:=Lib.hid hnar;have HXA:=Lib.hid hA;have HV:=Lib.hid hv;have HNX:=Lib.hid hnx;have HYY:=Lib.hid hY;have HY1:=Lib.hid hy
 generalize hln:x.t.conds.length=n at *
 have HLN:=Lib.hid hln
 clear hRR hzon hYS hnar hv hnx hYv hY hy hln
 unfold TokM.val
 go_enter Tryz.func17,Tryz.ntmps17
 go_upto_region 1 with fail
 generalize hw0:World.alloc _ _=w0
 have hS0:NaS w x Y (#[.int .i64 0,.int .i64 0,.string ⟨#[]⟩,.slice none 0 0,.int .u8 0,.int .u8 0,.int .u8 0,.int .u8 0,.int .u8 0,.int .u8 0,.int .u8 0,.int .u8 0,.int .u8 0,.int .u8 0,.int .u8 0,.int .u8 0,.int .u8 0,.int .u8 0,.int .u8 0,.int .u8 0]:Array Value) (w.heap.size+3) w0:=by
  rw[←hw0]
  exact⟨⟨(alloc3_box w _ _ _).1⟩,(alloc3_box w _ _ _).2.1,(alloc3_box w _ _ _).2.2,belB,by simp⟩
 have hb0:=hS0.b
 have hldc:=cond_row hS0.y HYS.out
 have HS0:=Lib.hid hS0
 clear hw0 hS0
 cases hcv:validC c
 ·rw[hcv]at HV
  have HE1:=Lib.hid (show narrowT x.t c=(zeroT,1) by rw[HNA.out,hcv];rfl)
  clear HNA HNX hcv
  go_wp2_with (first | (refine wpList_load_addr rfl 27 _ rfl ⟨w.heap.size+1,0,none⟩ (.agg Y) rfl hldc ?_) | (go_at_call 49;refine (HV.out _ hb0).mono ?_;rintro e w1 ⟨rfl,hb1⟩;have HS1:=Lib.hid (HS0.out.keep hb1);obtain⟨y0,y1,y2,y3⟩:=(HS0.out.keep hb1).t.cells;rw[HLN.out,HXA.out]at y3) | (refine wpList_store_row rfl 32 _ _ rfl (w.heap.size+2) (#[.int .i64 0,.int .i64 0,.string ⟨#[]⟩,.slice none 0 0,.int .u8 0,.int .u8 0,.int .u8 0,.int .u8 0,.int .u8 0,.int .u8 0,.int .u8 0,.int .u8 0,.int .u8 0,.int .u8 0,.int .u8 0,.int .u8 0,.int .u8 0,.int .u8 0,.int .u8 0,.int .u8 0]:Array Value) rfl rfl _ (#[.int .i64 0,.int .i64 0,.string ⟨#[]⟩,.slice none 0 0,.int .u8 0,.int .u8 0,.int .u8 0,.int .u8 0,.int .u8 0,.int .u8 0,.int .u8 0,.int .u8 0,.int .u8 0,.int .u8 0,.int .u8 0,.int .u8 0,.int .u8 0,.int .u8 0,.int .u8 0,.int .u8 0]:Array Value) HS1.out.z infTok rfl HZON.out ?_))
  refine bodyPost_ret (v:=.tuple #[.agg (#[.int .i64 0,.int .i64 0,.string ⟨#[]⟩,.slice none 0 0,.int .u8 0,.int .u8 0,.int .u8 0,.int .u8 0,.int .u8 0,.int .u8 0,.int .u8 0,.int .u8 0,.int .u8 0,.int .u8 0,.int .u8 0,.int .u8 0,.int .u8 0,.int .u8 0,.int .u8 0,.int .u8 0]:Array Value),.int .i64 1]) ?_ rfl ?_
  ·exact results_row_tmp rfl _ _ (w.heap.size+2) _ _ rfl rfl (tok_row (setRow_heap _ _ _ _ _ _ HS1.out.z) rfl)
  ·rw[HRR.out,HE1.out]
   exact⟨below_setRow HS1.out.b (by omega) _,zeroM,rfl,zeroM_reads _,rfl⟩
 rw[hcv]at HV
 by_cases hn16:16≤n
 ·have HE1:=Lib.hid (show narrowT x.t c=(zeroT,2) by rw[HNA.out,hcv];simp[hn16])
  have i1:(16:Int)≤(n:Int):=by omega
  clear HNA HNX hcv
  go_wp2_with (first | (refine wpList_load_addr rfl 27 _ rfl ⟨w.heap.size+1,0,none⟩ (.agg Y) rfl hldc ?_) | (go_at_call 49;refine (HV.out _ hb0).mono ?_;rintro e w1 ⟨rfl,hb1⟩;have HS1:=Lib.hid (HS0.out.keep hb1);obtain⟨y0,y1,y2,y3⟩:=(HS0.out.keep hb1).t.cells;rw[HLN.out,HXA.out]at y3) | (refine wpList_store_row rfl 32 _ _ rfl (w.heap.size+2) (#[.int .i64 0,.int .i64 0,.string ⟨#[]⟩,.slice none 0 0,.int .u8 0,.int .u8 0,.int .u8 0,.int .u8 0,.int .u8 0,.int .u8 0,.int .u8 0,.int .u8 0,.int .u8 0,.int .u8 0,.int .u8 0,.int .u8 0,.int .u8 0,.int .u8 0,.int .u8 0,.int .u8 0]:Array Value) rfl rfl _ (#[.int .i64 0,.int .i64 0,.string ⟨#[]⟩,.slice none 0 0,.int .u8 0,.int .u8 0,.int .u8 0,.int .u8 0,.int .u8 0,.int .u8 0,.int .u8 0,.int .u8 0,.int .u8 0,.int .u8 0,.int .u8 0,.int .u8 0,.int .u8 0,.int .u8 0,.int .u8 0,.int .u8 0]:Array Value) HS1.out.z infTok rfl HZON.out ?_))
  refine bodyPost_ret (v:=.tuple #[.agg (#[.int .i64 0,.int .i64 0,.string ⟨#[]⟩,.slice none 0 0,.int .u8 0,.int .u8 0,.int .u8 0,.int .u8 0,.int .u8 0,.int .u8 0,.int .u8 0,.int .u8 0,.int .u8 0,.int .u8 0,.int .u8 0,.int .u8 0,.int .u8 0,.int .u8 0,.int .u8 0,.int .u8 0]:Array Value),.int .i64 2]) ?_ rfl ?_
  ·exact results_row_tmp rfl _ _ (w.heap.size+2) _ _ rfl rfl (tok_row (setRow_heap _ _ _ _ _ _ HS1.out.z) rfl)
  ·rw[HRR.out,HE1.out]
   exact⟨below_setRow HS1.out.b (by omega) _,zeroM,rfl,zeroM_reads _,rfl⟩
 have i1:¬ (16:Int)≤(n:Int):=by omega
 have hnr:narrowT x.t c=(⟨x.t.cust,x.t.ser,x.t.id,x.t.conds++[c],nextS x.t.sl c⟩,0):=by rw[HNA.out,hcv];simp[hn16]
 have HE1:=Lib.hid hnr
 have hnx2:=HNX.out hcv
 have HNX2:=Lib.hid hnx2
 clear HNA HNX hcv hnx2 hnr hn16
 go_upto_region 5 with (first | (refine wpList_load_addr rfl 27 _ rfl ⟨w.heap.size+1,0,none⟩ (.agg Y) rfl hldc ?_) | (go_at_call 49;refine (HV.out _ hb0).mono ?_;rintro e w1 ⟨rfl,hb1⟩;have HS1:=Lib.hid (HS0.out.keep hb1);obtain⟨y0,y1,y2,y3⟩:=(HS0.out.keep hb1).t.cells;rw[HLN.out,HXA.out]at y3))
 have hz3:w.heap.size+2<w1.heap.size:=by have:=HS1.out.s;omega
 have hSn:NaS w x Y (#[.int .i64 0,.int .i64 0,.string ⟨#[]⟩,.slice none 0 0,.int .u8 0,.int .u8 0,.int .u8 0,.int .u8 0,.int .u8 0,.int .u8 0,.int .u8 0,.int .u8 0,.int .u8 0,.int .u8 0,.int .u8 0,.int .u8 0,.int .u8 0,.int .u8 0,.int .u8 0,.int .u8 0]:Array Value) w1.heap.size w1:=⟨HS1.out.t,HS1.out.y,HS1.out.z,HS1.out.b,Nat.le_refl _⟩
 obtain⟨xs,hxs⟩:∃ xs,xs=x.L.flatMap CoM.cells:=⟨_,rfl⟩
 obtain⟨ys,hys⟩:∃ ys,ys=y.cells:=⟨_,rfl⟩
 have hxl:xs.length=n*7:=by rw[hxs,flat7,hR.conds.len,HLN.out]
 have hx1:∀ u∈xs,u.oneCell'=true:=by rw[hxs];exact cells_one _
 have hyl:ys.length=1*7:=by rw[hys];rfl
 have hy1:∀ u∈ys,u.oneCell'=true:=by have:=cells_one [y];rw[hys];simpa using this
 have hyY:Y=ys.toArray:=by rw[HYY.out,hys]
 have hcl:=fun (W:World) (hb:Below w.heap.size w W)=>cloneT_any b o n x.c xs W hxl (fun j u hu=>cell_keep hb (hrow j u (by rw[hxs]at hu;exact hu))) hx1 (by omega)
 have hslr:=fun (W:World) (h:TBox W w.heap.size x)=>(run_loadVar_at (P:=Tryz.prog) W w.heap.size 4 32 30 x.cells (b8 x.t.sl) (0,0) _ h.box (fun j v hv=>by
  show (tokCells _ _ _ _ _ _ _)[4+j]? = some v
  unfold tokCells
  rw[List.getElem?_append_right (by simp)]
  simpa using hv) Tryz.underlying30 rfl (by rw[b8_len,hR.sl.len];exact infSeal))
 have HCL:=Lib.hid hcl;have HSLR:=Lib.hid hslr;have HXL:=Lib.hid hxl;have HX1:=Lib.hid hx1;have HYL:=Lib.hid hyl;have HY2:=Lib.hid hy1;have HXS:=Lib.hid hxs;have HYS2:=Lib.hid hys;have HYE:=Lib.hid hyY;have HSN:=Lib.hid hSn
 have hSok:=ofD_ok 45 [x.t.sl,nb (textC c)]
 have hDSO:SealOk (nextS x.t.sl c):=hSok
 obtain⟨SN,hSN⟩:∃ SN,SN=nextS x.t.sl c:=⟨_,rfl⟩
 rw[←hSN]at HNX2 HE1 hDSO
 have HDSO:=Lib.hid hDSO
 clear hcl hslr hxl hx1 hyl hy1 hxs hys hyY hSn hSok hDSO hSN y0 y1 y2 y3 HS1 hldc
 obtain⟨n0,hn0⟩:∃ n0,n0=w1.heap.size:=⟨_,rfl⟩
 rw[←hn0]at HSN hz3
 have HN0:=Lib.hid hn0
 have hwd:n0≤w1.drew.heap.size:=Nat.le_of_eq hn0
 clear hn0
 refine wp_detG (NG n0 n xs ys) NG.refl NG.trans 11 (by kernel_rfl) (by kernel_rfl) (by kernel_rfl) (DL [IsV (.pointer (some ⟨w.heap.size,3,none⟩)),IsV (.slice (some ⟨b,o,none⟩) n x.c),OwnP n0 n xs,IsV (.agg Y),OwnL n0 ys,OwnP n0 (n+1) (xs++ys),IsV (.pointer (some ⟨w.heap.size,4,none⟩)),IsV (.agg (b8 x.t.sl).toArray),IsV (.agg Y),IsV (.agg (b8 SN).toArray),IsV (.pointer (some ⟨w.heap.size,3,none⟩))]) (DL.keepG _ _ (by simp only[KeepAllG];repeat' (first | apply And.intro | exact keepsG_is _ _ | exact fun v _ _ h hg=>hg.r1 v h | exact fun v _ _ h hg=>hg.r2 v h | exact (fun v _ _ ⟨g,e,h⟩ hg=>⟨g,e,hg.r3 v h⟩) | exact trivial))) (NaS w x Y (#[.int .i64 0,.int .i64 0,.string ⟨#[]⟩,.slice none 0 0,.int .u8 0,.int .u8 0,.int .u8 0,.int .u8 0,.int .u8 0,.int .u8 0,.int .u8 0,.int .u8 0,.int .u8 0,.int .u8 0,.int .u8 0,.int .u8 0,.int .u8 0,.int .u8 0,.int .u8 0,.int .u8 0]:Array Value) n0) (HSN.out.keep (Below.drew (Below.refl _ _))) (fun _ _ h hb=>h.low hb.low hz3) ?_ ?_
 ·dsimp only[List.take_succ_cons,List.take_zero,DetG]
  refine⟨fun vals W hS hd=>?_,fun vals W hS hd=>?_,fun vals W hS hd=>?_,fun vals W hS hd=>?_,fun vals W hS hd=>?_,fun vals W hS hd=>?_,fun vals W hS hd=>?_,fun vals W hS hd=>?_,fun vals W hS hd=>?_,fun vals W hS hd=>?_,fun vals W hS hd=>?_,trivial⟩
  rotate_left 2
  ·(try simp only[DepsL,DL,IsV,List.getD_cons_zero,List.getD_cons_succ,Region.binds,and_true,true_and]at hd)
   simp only[putL,putF,Act.put]
   (try simp only[hd])
   clear hd
   have hbW:=hS.b
   have hsW:=hS.s
   go_wp2_with (go_at_call 51;refine (HCL.out _ hbW).mono ?_;rintro e w5 ⟨v5,rfl,hown5,hb5⟩)
   exact⟨rfl,own_low hown5 hsW,rfl,NG.of hb5 hsW⟩
  ·(try simp only[DepsL,DL,IsV,List.getD_cons_zero,List.getD_cons_succ,Region.binds,and_true,true_and]at hd)
   simp only[putL,putF,Act.put]
   (try simp only[hd])
   clear hd
   have hsW:=hS.s
   have hld:=cond_row hS.y HYS.out
   go_wp2_with (refine wpList_load_addr rfl 27 _ rfl ⟨w.heap.size+1,0,none⟩ (.agg Y) rfl hld ?_)
   exact⟨rfl,rfl,rfl,NG.refl _⟩
  ·(try simp only[DepsL,DL,IsV,List.getD_cons_zero,List.getD_cons_succ,Region.binds,and_true,true_and]at hd)
   rw[HYLI.out]at hd
   simp only[putL,putF,Act.put]
   (try simp only[hd])
   clear hd
   have hsW:=hS.s
   go_wp2
   have hown:=World.ownsRow_lit (base:=n0) (e:=27) (size:=7) W #[.int .i64 c.fr,.int .i64 c.till,.string c.pat,.slice m.A c.cl.length m.ca,.slice m.B c.co.length m.cb,.slice m.S c.si.length m.cs,.int .i64 c.us] 1 hsW (by unfold maxLen;omega) rfl
   have hys:(#[.int .i64 c.fr,.int .i64 c.till,.string c.pat,.slice m.A c.cl.length m.ca,.slice m.B c.co.length m.cb,.slice m.S c.si.length m.cs,.int .i64 c.us]:Array Value).toList=ys:=by rw[←HYLI.out,HYE.out]
   rw[hys]at hown
   exact⟨rfl,⟨_,rfl,hown⟩,rfl,NG.of (below_alloc _ _) hsW⟩
  ·(try simp only[DepsL,DL,IsV,List.getD_cons_zero,List.getD_cons_succ,Region.binds,and_true,true_and]at hd)
   obtain⟨ho2,⟨g4,e4,ho4⟩,_⟩:=hd
   obtain⟨v2,hv2⟩:∃ v2,v2=vals 2:=⟨_,rfl⟩
   rw[←hv2]at ho2
   rw[e4]at ho4
   simp only[putL,putF,Act.put]
   (try simp only[e4,←hv2])
   have hsW:=hS.s
   have hr4:=Reads.of_own ho4
   obtain⟨gg,oo,eg,hcg⟩:=hr4.2 (by omega)
   injection eg with eg
   injection eg with eg1 eg2
   subst eg1;subst eg2
   have hadd:∀ j,(⟨g4,0,none⟩:Addr).add j=⟨g4,0+j,none⟩:=fun j=>by unfold Addr.add;split <;> simp_all
   have HA4:=Lib.hid (fun j u (hu:ys[j]? = some u)=>(show W.cell? ((⟨g4,0,none⟩:Addr).add j)=some u by rw[hadd];exact hcg j u hu))
   have HO2:=Lib.hid ho2
   clear hr4 hcg hadd ho4 ho2 e4 hv2
   go_wp2_with (at_builtin;refine wpList_append_ownG rfl _ _ 28 rfl n0 27 i0 (.agg #[.int .i64 0,.int .i64 0,.string ⟨#[]⟩,.slice none 0 0,.slice none 0 0,.slice none 0 0,.int .i64 0]) 7 112 Tryz.underlying28 HI.out.1 HI.out.2.1 HI.out.2.2.1 HI.out.2.2.2 rfl (by decide) v2 n xs rfl HO2.out ⟨g4,0,none⟩ 1 1 ys rfl HYL.out HA4.out HY2.out (by unfold maxLen;omega) (by omega) hsW ?_;intro v6 w6 hown6 hgrow6 hstay6)
   refine⟨rfl,hown6,rfl,⟨Below.grown (Below.refl _ _) hgrow6 hsW (fun r e=>ownsRow_block HO2.out r e),fun v h=>hstay6 v n xs h (.inl (Nat.le_refl _)),fun v h=>hstay6 v _ _ h (.inr (List.prefix_refl _)),fun v h=>hstay6 v 1 ys h (.inl (by omega))⟩⟩
  ·(try simp only[DepsL,DL,IsV,List.getD_cons_zero,List.getD_cons_succ,Region.binds,and_true,true_and]at hd)
   simp only[putL,putF,Act.put]
   (try simp only[hd])
   clear hd
   have hsW:=hS.s
   go_wp2
   exact⟨rfl,rfl,rfl,NG.refl _⟩
  ·(try simp only[DepsL,DL,IsV,List.getD_cons_zero,List.getD_cons_succ,Region.binds,and_true,true_and]at hd)
   simp only[putL,putF,Act.put]
   (try simp only[hd])
   clear hd
   have hsW:=hS.s
   have hld:=HSLR.out W hS.t
   go_wp2_with (refine wpList_load_addr rfl 30 _ rfl ⟨w.heap.size,4,none⟩ (.agg (b8 x.t.sl).toArray) rfl hld ?_)
   exact⟨rfl,rfl,rfl,NG.refl _⟩
  ·(try simp only[DepsL,DL,IsV,List.getD_cons_zero,List.getD_cons_succ,Region.binds,and_true,true_and]at hd)
   simp only[putL,putF,Act.put]
   (try simp only[hd])
   clear hd
   have hld:=cond_row hS.y HYS.out
   go_wp2_with (refine wpList_load_addr rfl 27 _ rfl ⟨w.heap.size+1,0,none⟩ (.agg Y) rfl hld ?_)
   exact⟨rfl,rfl,rfl,NG.refl _⟩
  ·(try simp only[DepsL,DL,IsV,List.getD_cons_zero,List.getD_cons_succ,Region.binds,and_true,true_and]at hd)
   obtain⟨e7,e8,_⟩:=hd
   simp only[putL,putF,Act.put]
   (try simp only[e7,e8])
   have hbW:=hS.b
   have hsW:=hS.s
   go_wp2_with (go_at_call 52;refine (HNX2.out _ hbW).mono ?_;rintro e w5 ⟨rfl,hb5⟩)
   exact⟨rfl,rfl,rfl,NG.of hb5 hsW⟩
  all_goals
   (try simp only[DepsL,DL,IsV,List.getD_cons_zero,List.getD_cons_succ,Region.binds,and_true,true_and]at hd)
   simp only[putL,putF,Act.put]
   (try simp only[hd])
   clear hd
   obtain⟨y0,y1,y2,y3⟩:=hS.t.cells
   rw[HLN.out,HXA.out]at y3
   go_wp2
   exact⟨rfl,rfl,rfl,NG.refl _⟩
 ·intro vals w9 hS9 hD9
  have e5:w9.ownsRow n0 27 7 (vals 5) (n+1) (xs++ys):=hD9 5 (by omega)
  have e9:vals 9=.agg (b8 SN).toArray:=hD9 9 (by omega)
  have e10:vals 10=.pointer (some ⟨w.heap.size,3,none⟩):=hD9 10 (by omega)
  obtain⟨g6,c6,e6⟩:=ownsRow_succ e5
  rw[e6]at e5
  simp only[putL,putF,Act.put]
  simp only[e6,e9,e10]
  clear hD9 e6 e9 e10
  obtain⟨y0,y1,y2,y3⟩:=hS9.t.cells
  rw[HLN.out,HXA.out]at y3
  have f3:=frozen_of_row w9 w.heap.size 3 _ _ hS9.t.box
  have hr9:(w9.setCell ⟨w.heap.size,3,none⟩ (.slice (some ⟨g6,0,none⟩) (n+1) c6)).heap[w.heap.size]? = some (.cells (x.cells.set 3 (.slice (some ⟨g6,0,none⟩) (n+1) c6)).toArray 32 (0,0)):=by
   rw[heap_setCell_same w9 w.heap.size 3 x.cells.toArray 32 _ hS9.t.box];simp
  have hcl20:(x.cells.set 3 (.slice (some ⟨g6,0,none⟩) (n+1) c6)).length=20:=by rw[List.length_set];exact hR.size
  have hsp:splice (x.cells.set 3 (.slice (some ⟨g6,0,none⟩) (n+1) c6)) 4 (b8 SN)=tokCells x.t.cust x.t.ser x.t.id (some ⟨g6,0,none⟩) (n+1) c6 SN :=
   splice_tok x.t.cust x.t.ser x.t.id (some ⟨g6,0,none⟩) (n+1) c6 x.t.sl SN hR.sl.len HDSO.out.len
  have HR9:=Lib.hid hr9;have HC20:=Lib.hid hcl20;have HSP:=Lib.hid hsp;have HS9:=Lib.hid hS9;have HE5:=Lib.hid e5
  have HBN:=Lib.hid (show (Tryz.prog.info? 30).map (·.size)=some (b8 SN).length by rw[b8_len,HDSO.out.len];exact infSeal)
  have hfit:4+(b8 SN).length≤(x.cells.set 3 (.slice (some ⟨g6,0,none⟩) (n+1) c6)).length:=by rw[hcl20,b8_len,HDSO.out.len];omega
  have HFIT:=Lib.hid hfit
  clear hr9 hcl20 hsp hS9 e5 hfit
  go_upto_region 6 with (refine wpList_store_at rfl 30 _ _ rfl w.heap.size 4 (b8 SN) rfl rfl _ (x.cells.set 3 (.slice (some ⟨g6,0,none⟩) (n+1) c6)) HR9.out HBN.out HFIT.out (b8_one _) ?_)
  dsimp only[Act.put]
  rw[HSP.out]
  have hTS:(tokCells x.t.cust x.t.ser x.t.id (some ⟨g6,0,none⟩) (n+1) c6 SN).toArray.size=20:=tok_size _ _ _ _ _ _ _ HDSO.out.len
  have hTO:=tok_one x.t.cust x.t.ser x.t.id (some ⟨g6,0,none⟩) (n+1) c6 SN
  generalize hXN:(tokCells x.t.cust x.t.ser x.t.id (some ⟨g6,0,none⟩) (n+1) c6 SN).toArray=XN at *
  generalize hw5:World.setRow _ _ _=w5
  have hg6:=own_ge HE5.out
  have hb5:Below w.heap.size w9 w5:=by rw[←hw5];exact below_setRow ((Below.refl _ _).setCell (p:=⟨w.heap.size,3,none⟩) (Nat.le_refl _) _) (Nat.le_refl _) _
  have ht5:Box1 w5 w.heap.size 32 XN:=by rw[←hw5];exact setRow_heap _ _ _ _ _ _ HR9.out
  have ho5:∀ k,k≠w.heap.size→w5.heap[k]? = w9.heap[k]?:=fun k hk=>by rw[←hw5];exact (setRow_other _ _ _ _ hk).trans (heap_setCell_other _ _ _ _ hk)
  have hr5:Box1 w5 (w.heap.size+2) 32 (#[.int .i64 0,.int .i64 0,.string ⟨#[]⟩,.slice none 0 0,.int .u8 0,.int .u8 0,.int .u8 0,.int .u8 0,.int .u8 0,.int .u8 0,.int .u8 0,.int .u8 0,.int .u8 0,.int .u8 0,.int .u8 0,.int .u8 0,.int .u8 0,.int .u8 0,.int .u8 0,.int .u8 0]:Array Value):=(ho5 _ (by omega)).trans HS9.out.z
  have hbw5:Below w.heap.size w w5:=HS9.out.b.trans hb5
  have hldn:=tok_row ht5 hTS
  have HLD:=Lib.hid hldn;have HR5:=Lib.hid hr5;have HO5:=Lib.hid ho5;have HB5:=Lib.hid hbw5;have HTS:=Lib.hid hTS;have HTO:=Lib.hid hTO;have HXN:=Lib.hid hXN
  clear hw5 hb5 ht5 ho5 hr5 hbw5 hldn hTS hTO hXN y0 y1 y2 y3 f3
  go_wp2_with (first
   | (refine wpList_load_addr rfl 32 _ rfl ⟨w.heap.size,0,none⟩ (.agg XN) rfl HLD.out ?_)
   | (refine wpList_store_row rfl 32 _ _ rfl (w.heap.size+2) XN rfl rfl _ (#[.int .i64 0,.int .i64 0,.string ⟨#[]⟩,.slice none 0 0,.int .u8 0,.int .u8 0,.int .u8 0,.int .u8 0,.int .u8 0,.int .u8 0,.int .u8 0,.int .u8 0,.int .u8 0,.int .u8 0,.int .u8 0,.int .u8 0,.int .u8 0,.int .u8 0,.int .u8 0,.int .u8 0]:Array Value) HR5.out (by rw[HTS.out];exact infTok) (by rw[HTS.out];rfl) HTO.out ?_))
  refine bodyPost_ret (v:=.tuple #[.agg XN,.int .i64 0]) ?_ rfl ?_
  ·exact results_row_tmp rfl _ _ (w.heap.size+2) _ _ rfl rfl (tok_row (setRow_heap _ _ _ _ _ _ HR5.out) HTS.out)
  ·rw[HRR.out,HE1.out]
   have hbw6:Below w.heap.size w (w5.setRow (w.heap.size+2) XN):=below_setRow HB5.out (by omega) _
   have hblk:(w5.setRow (w.heap.size+2) XN).heap[g6]? = w9.heap[g6]?:=(setRow_other _ _ _ _ (by omega)).trans (HO5.out _ (by omega))
   have hown:=own_block HE5.out hblk
   refine⟨hbw6,⟨⟨x.t.cust,x.t.ser,x.t.id,x.t.conds++[c],SN⟩,some ⟨g6,0,none⟩,c6,x.L++[y]⟩,?_,?_,rfl⟩
   ·rw[←HXN.out]
    show _=Ending.returned (.tuple #[.agg (tokCells x.t.cust x.t.ser x.t.id (some ⟨g6,0,none⟩) (x.t.conds++[c]).length c6 SN).toArray,.int .i64 0])
    rw[List.length_append,HLN.out]
    rfl
   ·have hlen:(x.t.conds++[c]).length=n+1:=by rw[List.length_append,HLN.out];rfl
    refine⟨?_,⟨?_,?_,?_⟩,HDSO.out,?_⟩
    ·show (x.L++[y]).map (·.c)=_
     rw[List.map_append,hR.same,HY1.out];rfl
    ·show (x.L++[y]).length=(x.t.conds++[c]).length
     rw[hlen,List.length_append,hR.conds.len,HLN.out];rfl
    ·show Reads _ 7 _ (x.t.conds++[c]).length ((x.L++[y]).flatMap CoM.cells)
     rw[hlen,List.flatMap_append,←HXS.out]
     have e : [y].flatMap CoM.cells=ys:=by rw[HYS2.out];simp
     rw[e]
     exact Reads.of_own hown
    ·intro z hz
     rcases List.mem_append.1 hz with hz | hz
     ·exact (hR.conds.each z hz).keep hbw6
     ·rw[List.mem_singleton.1 hz,HY1.out];exact hRc.keep hbw6
    ·show (x.t.conds++[c]).length≤c6
     rw[hlen]
     exact own_cap HE5.out
end Go.Proofs.YtlkbkclnbppigaaGreatDoor
