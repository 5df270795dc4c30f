/- What all conditions of a signed address ask together: chain.Meaning. -/
import Derived.Test.YtlkbkclnbppigaaGreatDoorIZ36
import Derived.Test.YtlkbkclnbppigaaGreatDoorIZ35
set_option maxHeartbeats 16000000
namespace Go.Proofs.YtlkbkclnbppigaaGreatDoor
open Go.RowKit Go.Sort
set_option linter.unusedVariables false
set_option linter.unusedSimpArgs false
set_option maxRecDepth 100000
def condA (c:CondV) (m:CondMem):Array Value:=#[.int .i64 c.fr,.int .i64 c.till,.string c.pat,.slice m.A c.cl.length m.ca,.slice m.B c.co.length m.cb,.slice m.S c.si.length m.cs,.int .i64 c.us]
theorem val_condA (c:CondV) (m:CondMem):CondMem.val c m=.agg (condA c m):=rfl
theorem condA_size (c:CondV) (m:CondMem):(condA c m).size=7:=rfl
theorem condA_one (c:CondV) (m:CondMem):(condA c m).all (·.oneCell')=true:=by unfold condA;rw[List.all_toArray];rfl
theorem infC7:(Tryz.prog.info? 27).map (·.size)=some 7:=by kernel_rfl
theorem reads_other {W W':World} {g s n:Nat} {A:Option Addr} {vs:List Value} (ho:∀ k,k≠g→W'.heap[k]? = W.heap[k]?) (h:Reads W s A n vs) (ha:0<n→∀ a,A=some a→a.block≠g):Reads W' s A n vs:=by
 refine⟨h.1,fun hn=>?_⟩
 obtain⟨b,o,rfl,hc⟩:=h.2 hn
 refine⟨b,o,rfl,fun j u hu=>?_⟩
 have:=hc j u hu
 unfold World.cell? at this ⊢
 rw[ho b (ha hn _ rfl)]
 exact this
structure ApartC (g:Nat) (c:CondV) (m:CondMem):Prop where
 cl:0<c.cl.length→∀ a,m.A=some a→a.block≠g
 co:0<c.co.length→∀ a,m.B=some a→a.block≠g
 si:0<c.si.length→∀ a,m.S=some a→a.block≠g
theorem ApartC.of_fresh {g n:Nat} {c:CondV} {m:CondMem} (h:FreshC n c m) (hg:g<n):ApartC g c m:=⟨fun hn a ha=>by have:=h.cl hn a ha;omega,fun hn a ha=>by have:=h.co hn a ha;omega,fun hn a ha=>by have:=h.si hn a ha;omega⟩
theorem reads_low {W:World} {s n:Nat} {A:Option Addr} {vs:List Value} (hs:0<s) (h:Reads W s A n vs) (hn:0<n) (a:Addr) (ha:A=some a):a.block<W.heap.size:=by
 obtain⟨b,o,e,hc⟩:=h.2 hn
 have hl:0<vs.length:=by rw[h.1];exact Nat.mul_pos hn hs
 have:=cell_lt (hc 0 _ (List.getElem?_eq_getElem hl))
 rw[e]at ha
 injection ha with ha
 rw[←ha];exact this
theorem ApartC.of_reads {W:World} {g:Nat} {c:CondV} {m:CondMem} (h:CondReads W c m) (hg:W.heap.size≤g):ApartC g c m :=
 ⟨fun hn a ha=>by have:=reads_low (by decide) h.cl hn a ha;omega,fun hn a ha=>by have:=reads_low (by decide) h.co hn a ha;omega,fun hn a ha=>by have:=reads_low (by decide) h.si hn a ha;omega⟩
theorem condReads_row {W W':World} {g:Nat} {c:CondV} {m:CondMem} (ho:∀ k,k≠g→W'.heap[k]? = W.heap[k]?) (h:CondReads W c m) (hf:ApartC g c m):CondReads W' c m :=
 ⟨reads_other ho h.cl hf.cl,reads_other ho h.co hf.co,reads_other ho h.si hf.si⟩
def seqM (t:TokV) (i:Nat):CondV:=(t.conds.tail.take (i-1)).foldl meetC (t.conds.headD zeroC)
theorem seqM_step {t:TokV} {i:Nat} {c:CondV} (h0:1≤i) (h:t.conds[i]? = some c):seqM t (i+1)=meetC (seqM t i) c:=by
 obtain⟨j,rfl⟩:∃ j,i=j+1:=⟨i-1,by omega⟩
 have ht:t.conds.tail[j]? = some c:=by rw[List.getElem?_tail];exact h
 unfold seqM
 rw[Nat.add_sub_cancel,Nat.add_sub_cancel,List.take_add_one,ht,List.foldl_append]
 rfl
theorem seqM_end (t:TokV):seqM t t.conds.length=meanT t.conds:=by
 unfold seqM meanT
 rw[List.take_of_length_le (by simp)]
theorem seqM_ok {t:TokV} (h1:1≤t.conds.length) (hv:∀ c∈t.conds,validC c=true) (hf:∀ c∈t.conds,CondFits c) (i:Nat):validC (seqM t i)=true∧CondFits (seqM t i):=by
 unfold seqM
 obtain⟨a,r,he⟩:∃ a r,t.conds=a :: r:=by
  cases h:t.conds with
  | nil=>rw[h]at h1;simp at h1
  | cons a r=>exact⟨a,r,rfl⟩
 have hm:∀ c∈t.conds.tail.take (i-1),validC c=true∧CondFits c:=fun c hc=>by
  have:=List.mem_of_mem_tail (List.mem_of_mem_take hc)
  exact⟨hv c this,hf c this⟩
 have h0:validC (t.conds.headD zeroC)=true∧CondFits (t.conds.headD zeroC):=by
  rw[he];exact⟨hv a (by rw[he];simp),hf a (by rw[he];simp)⟩
 generalize t.conds.headD zeroC=s at *
 generalize t.conds.tail.take (i-1)=l at *
 clear he
 induction l generalizing s with
 | nil=>exact h0
 | cons c l ih =>
  have hc:=hm c (by simp)
  exact ih (meetC s c) (meet_fits ((valid_iff _).1 h0.1) ((valid_iff _).1 hc.1) h0.2 hc.2) (fun x hx=>hm x (by simp[hx]))
def MeanPost (c:CondV) (w:World) (e:Ending) (w':World):Prop:=Below w.heap.size w w'∧∃ m,e=.returned (.tuple #[CondMem.val c m,.int .i64 0])∧CondReads w' c m
structure MnS (w:World) (x:TokM) (Z:Array Value) (W:World):Prop where
 t:TBox W w.heap.size x
 z:Box1 W (w.heap.size+1) 27 Z
 b:Below w.heap.size w W
 s:w.heap.size+1<W.heap.size
theorem MnS.keep {w W W':World} {x:TokM} {Z:Array Value} (h:MnS w x Z W) (hb:Below W.heap.size W W'):MnS w x Z W':=⟨h.t.keep hb,h.z.keep hb,bstep h.b hb,Nat.lt_of_lt_of_le h.s hb.size⟩
theorem MnS.low {w W W':World} {x:TokM} {Z:Array Value} (h:MnS w x Z W) (hb:Below (w.heap.size+2) W W'):MnS w x Z W' :=
 ⟨⟨(hb.block _ (by omega)).trans h.t.box⟩,(hb.block _ (by omega)).trans h.z,h.b.trans (hb.mono (by omega)),Nat.lt_of_lt_of_le h.s hb.size⟩
theorem mean_any (x:TokM) (w:World) (hR:TokReads w x) (hv:∀ y∈x.L,validC y.c=true) (hf:∀ y∈x.L,CondFits y.c) (h1:1≤x.t.conds.length) (hn:x.t.conds.length≤1000) (hE:Env w) :
  Calls Tryz.prog 19 #[x.val] w (MeanPost (meanT x.t.conds) w):=by
 have hl:=hR.conds.len
 have hcap:=hR.cap
 have hall:∀ c∈x.t.conds,validC c=true∧CondFits c:=by
  intro c hc
  rw[←hR.same]at hc
  obtain⟨y,hy,rfl⟩:=List.mem_map.1 hc
  exact⟨hv y hy,hf y hy⟩
 have hsm:=fun i=>seqM_ok h1 (fun c hc=>(hall c hc).1) (fun c hc=>(hall c hc).2) i
 obtain⟨z,hz⟩:∃ z,x.L[0]? = some z:=⟨_,List.getElem?_eq_getElem (by omega)⟩
 have hhead:seqM x.t 1=z.c:=by
  have:=toks_cond hR hz
  unfold seqM
  cases hcs:x.t.conds with
  | nil=>rw[hcs]at this;simp at this
  | cons a r=>rw[hcs]at this;simpa using this
 obtain⟨_,b,o,hA,hcell0⟩:=hR.conds.at_ hz
 have hrd0:=fun (W:World) (hb:Below w.heap.size w W)=>((hR.conds.each z (List.mem_of_getElem? hz)).keep hb)
 have hap0:=fun (g:Nat) (hg:w.heap.size≤g)=>ApartC.of_reads (hR.conds.each z (List.mem_of_getElem? hz)) hg
 have hld0:=fun (W:World) (hb:Below w.heap.size w W)=>cond_load W b o z (fun j u hu=>cell_keep hb (by have:=hcell0 j u hu;simpa using this))
 have hM:=fun (i:Nat) (y:CoM) (hy:x.L[i]? = some y) (h0:1≤i) (m:CondMem) (W:World) (hb:Below w.heap.size w W) (hr:CondReads W (seqM x.t i) m)=>by
  have:=meet_fresh (seqM x.t i) y.c m y.m W hr ((hR.conds.each y (List.mem_of_getElem? hy)).keep hb) (hsm i).2 (hf y (List.mem_of_getElem? hy)) (hsm i).1 (hv y (List.mem_of_getElem? hy)) (hE.keep hb)
  rw[←seqM_step h0 (toks_cond hR hy)]at this
  exact this
 have hld:=fun (i:Nat) (y:CoM) (hy:x.L[i]? = some y) (W:World) (hb:Below w.heap.size w W)=>cond_load W b (o+i*7) y (fun j u hu=>by
  obtain⟨_,b2,o2,hA2,hcell2⟩:=hR.conds.at_ hy
  rw[hA]at hA2
  injection hA2 with e
  injection e with e1 e2
  subst e1;subst e2
  exact cell_keep hb (hcell2 j u hu))
 rw[←seqM_end]
 generalize hln:x.t.conds.length=n at *
 simp only[val_condA]at hld0 hM hld
 rw[←hhead]at hld0 hrd0 hap0
 obtain⟨SM,hSM⟩:∃ SM:Nat→CondV,SM=seqM x.t:=⟨_,rfl⟩
 rw[←hSM]at hld0 hM hrd0 hap0 ⊢
 have HM:=Lib.hid hM;have HLD:=Lib.hid hld;have HLD0:=Lib.hid hld0;have HRD0:=Lib.hid hrd0;have HAP0:=Lib.hid hap0;have HLN:=Lib.hid hln;have HXA:=Lib.hid hA;have HL:=Lib.hid hl
 clear hM hld hld0 hrd0 hap0 hln hA hl hSM hhead hz hv hf hR hE hall hsm hcell0
 obtain⟨R,hRR⟩:∃ R,R=MeanPost (SM n) w:=⟨_,rfl⟩
 rw[←hRR]
 have HRR:=Lib.hid hRR
 clear hRR
 generalize hm0:z.m=m0 at *
 clear hm0
 unfold TokM.val
 go_enter Tryz.func19,Tryz.ntmps19
 go_upto_region 1 with fail
 generalize hw0:World.alloc _ _=w0
 have hS0:MnS w x #[.int .i64 0,.int .i64 0,.string ⟨#[]⟩,.slice none 0 0,.slice none 0 0,.slice none 0 0,.int .i64 0] w0:=by
  rw[←hw0]
  exact⟨⟨(alloc2_box w _ _).1⟩,(alloc2_box w _ _).2,belB,by simp⟩
 have hz0:w0.heap.size=w.heap.size+2:=by rw[←hw0];simp
 clear hw0
 have HS0:=Lib.hid hS0;have HZ0:=Lib.hid hz0
 clear hz0
 obtain⟨y0,y1,y2,y3⟩:=hS0.t.cells
 rw[HLN.out,HXA.out]at y3
 have hldz:=HLD0.out w0 hS0.b
 have i1:(0:Int)<(n:Int):=by omega
 clear hS0
 have HC0:=Lib.hid (condA_size (SM 1) m0);have HC1:=Lib.hid (condA_one (SM 1) m0)
 generalize hY:condA (SM 1) m0=Y at *
 have HYY:=Lib.hid hY
 clear hY
 go_upto_region 2 with (first
  | (refine wpList_load_addr rfl 27 _ rfl ⟨b,o,none⟩ (.agg Y) rfl hldz ?_)
  | (refine wpList_store_row rfl _ _ _ rfl w0.heap.size Y rfl rfl _ #[.int .i64 0,.int .i64 0,.string ⟨#[]⟩,.slice none 0 0,.slice none 0 0,.slice none 0 0,.int .i64 0] (heap_alloc_new w0 _) (by rw[HC0.out];exact infC7) (by rw[HC0.out];rfl) HC1.out ?_))
 (try dsimp only[Act.put])
 generalize hw1:World.setRow _ _ _=w1
 have hg1:Box1 w1 w0.heap.size 27 Y:=by rw[←hw1];exact setRow_heap _ _ _ _ _ _ (heap_alloc_new w0 _)
 have hb1:Below w0.heap.size w0 w1:=by rw[←hw1];exact below_setRow ((Below.refl _ _).alloc (Nat.le_refl _) _) (Nat.le_refl _) _
 have hS1:=HS0.out.keep hb1
 have hr1:=HRD0.out w1 hS1.b
 have ha1:ApartC w0.heap.size (SM 1) m0∧ApartC (w.heap.size+1) (SM 1) m0:=⟨HAP0.out w0.heap.size (by have:=HZ0.out;omega),HAP0.out _ (by omega)⟩
 obtain⟨g,hg⟩:∃ g,g=w0.heap.size:=⟨_,rfl⟩
 have HGG:=Lib.hid (show w.heap.size+2≤g by have:=HZ0.out;omega)
 rw[←hg]at hg1 ha1 ⊢
 clear hg hw1 hb1 hldz y0 y1 y2 y3 HC0 HC1 HS0 HZ0 HRD0 HAP0 HLD0
 have HG1:=Lib.hid hg1;have HS1:=Lib.hid hS1;have HR1:=Lib.hid hr1;have HA1:=Lib.hid ha1
 obtain⟨y0,y1,y2,y3⟩:=hS1.t.cells
 rw[HLN.out,HXA.out]at y3
 clear hg1 hS1 hr1 ha1
 have i2:(1:Int)≤(n:Int):=by omega
 go_cut [15,16,17] (fun v19 v20 v21 wx=>∃ o' c',v19=.slice (some ⟨b,o',none⟩) (n-1) c'∧(1<n→o'=o+7)∧v20=.int .i64 ((n-1:Nat):Int)∧v21=.int .i64 0∧wx=w1)
 case first =>
  obtain⟨cc,hcc⟩:∃ cc,cc=x.c:=⟨_,rfl⟩
  rw[←hcc]at y3 hcap
  clear hcc
  go_wp2_with fail
  all_goals (go_meet;first | exact⟨_,_,rfl,fun h=>by omega,rfl,rfl,rfl⟩ | trace_state)
 case rest =>
  obtain⟨o',c',rfl,ho',rfl,rfl,rfl⟩:=hcut
  clear y0 y1 y2 y3 i1 i2
  go_wp2
  go_loopw [17] (fun iv wr=>∃ (j:Nat) (m:CondMem),j≤n-1∧iv=.int .i64 j∧Hid (Box1 wr g 27 (condA (SM (j+1)) m))∧Hid (MnS w x #[.int .i64 0,.int .i64 0,.string ⟨#[]⟩,.slice none 0 0,.slice none 0 0,.slice none 0 0,.int .i64 0] wr)∧Hid (CondReads wr (SM (j+1)) m)∧Hid (ApartC g (SM (j+1)) m∧ApartC (w.heap.size+1) (SM (j+1)) m)) (fun iv _=>(n-1)-(intOf iv).toNat)
  case atStart=>exact⟨0,m0,by omega,rfl,Lib.hid (by rw[HYY.out];exact HG1.out),HS1,HR1,HA1⟩
  case round =>
   obtain⟨j,m,hj,rfl,HG,HS,HR,HA⟩:=hrel
   clear HG1 HS1 HR1 HA1 HYY
   have HC0:=Lib.hid (condA_size (SM (j+1)) m);have HC1:=Lib.hid (condA_one (SM (j+1)) m)
   by_cases hlt:j<n-1
   ·obtain⟨y,hy⟩:∃ y,x.L[j+1]? = some y:=⟨_,List.getElem?_eq_getElem (by have:=HL.out;omega)⟩
    have hoo:=ho' (by omega)
    subst hoo
    have hcM:=HM.out (j+1) y hy (by omega) m
    have hldi:=HLD.out (j+1) y hy wr HS.out.b
    rw[show o+(j+1)*7=o+7+j*7 by omega]at hldi
    generalize hYi:condA y.c y.m=Yi at *
    have hYiS:Yi.size=7:=by rw[←hYi];rfl
    have hYiO:Yi.all (·.oneCell')=true:=by rw[←hYi];exact condA_one _ _
    generalize hYo:condA (SM (j+1)) m=Yo at *
    have HCM:=Lib.hid hcM;have HLDI:=Lib.hid hldi;have HYO:=Lib.hid hYiO;have HYI:=Lib.hid (show (Tryz.prog.info? 27).map (·.size)=some Yi.size by rw[hYiS];exact infC7);have HYIS:=Lib.hid hYiS
    have hk0:(0:Int)≤(j:Int):=by omega
    have hk1:(j:Int)<((n-1:Nat):Int):=by omega
    clear hcM hldi hYi hYiS hYiO hy hYo
    go_upto_region 5 with (first
     | (refine wpList_load_addr rfl 27 _ rfl ⟨b,o+7+j*7,none⟩ (.agg Yi) rfl HLDI.out ?_)
     | (refine wpList_store_row rfl _ _ _ rfl wr.heap.size Yi rfl rfl _ #[.int .i64 0,.int .i64 0,.string ⟨#[]⟩,.slice none 0 0,.slice none 0 0,.slice none 0 0,.int .i64 0] (heap_alloc_new wr _) HYI.out (by rw[HYIS.out];rfl) HYO.out ?_))
    (try dsimp only[Act.put])
    generalize hw3:World.setRow _ _ _=w3
    have B3:Box1 w3 wr.heap.size 27 Yi:=by rw[←hw3];exact setRow_heap _ _ _ _ _ _ (heap_alloc_new wr _)
    have hb3:Below wr.heap.size wr w3:=by rw[←hw3];exact below_setRow ((Below.refl _ _).alloc (Nat.le_refl _) _) (Nat.le_refl _) _
    have hG3:=HG.out.keep hb3
    have hS3:=HS.out.keep hb3
    have hR3:=HR.out.keep hb3
    have hgl:=box_lt hG3
    have hlo:=cond_row hG3 HC0.out
    have hlc:=cond_row B3 HYIS.out
    have hcm:=HCM.out w3 hS3.b hR3
    have HCM3:=Lib.hid hcm;have HG3:=Lib.hid hG3;have HS3:=Lib.hid hS3;have HLO:=Lib.hid hlo;have HLC:=Lib.hid hlc
    clear hw3 HG HS HR HA HLDI hcm hG3 hS3 hlo hlc B3 hb3 hR3 HCM
    go_upto_region 6 with (first
     | (refine wpList_load_addr rfl 27 _ rfl ⟨g,0,none⟩ (.agg Yo) rfl HLO.out ?_)
     | (refine wpList_load_addr rfl 27 _ rfl ⟨wr.heap.size,0,none⟩ (.agg Yi) rfl HLC.out ?_)
     | (go_at_call 54;refine HCM3.out.mono ?_;rintro e w4 ⟨hb4,m4,rfl,hr4,hf4⟩;have HB4:=Lib.hid hb4;have HR4:=Lib.hid hr4;have HF4:=Lib.hid hf4;clear hb4 hr4 hf4;have HD0:=Lib.hid (condA_size (SM (j+1+1)) m4);have HD1:=Lib.hid (condA_one (SM (j+1+1)) m4);generalize hYn:condA (SM (j+1+1)) m4=Yn at *;have HYN:=Lib.hid hYn;clear hYn)
     | (refine wpList_store_row rfl _ _ _ rfl w4.heap.size Yn rfl rfl _ #[.int .i64 0,.int .i64 0,.string ⟨#[]⟩,.slice none 0 0,.slice none 0 0,.slice none 0 0,.int .i64 0] (heap_alloc_new w4 _) (by rw[HD0.out];exact infC7) (by rw[HD0.out];rfl) HD1.out ?_))
    (try dsimp only[Act.put])
    generalize hw5:World.setRow _ _ _=w5
    have B5:Box1 w5 w4.heap.size 27 Yn:=by rw[←hw5];exact setRow_heap _ _ _ _ _ _ (heap_alloc_new w4 _)
    have hb5:Below w4.heap.size w4 w5:=by rw[←hw5];exact below_setRow ((Below.refl _ _).alloc (Nat.le_refl _) _) (Nat.le_refl _) _
    have hG5:=(HG3.out.keep HB4.out).keep hb5
    have hS5:=(HS3.out.keep HB4.out).keep hb5
    have hR5:=HR4.out.keep hb5
    have hA5:=And.intro (ApartC.of_fresh (g:=g) HF4.out hgl) (ApartC.of_fresh (g:=w.heap.size+1) HF4.out (by have:=HS3.out.s;omega))
    have hlx:=cond_row B5 HD0.out
    have HG5:=Lib.hid hG5;have HS5:=Lib.hid hS5;have HR5:=Lib.hid hR5;have HA5:=Lib.hid hA5;have HLX:=Lib.hid hlx
    clear hw5 hG5 hS5 hR5 hA5 hlx B5 hb5 HG3 HS3 HB4 HR4 HF4 HLO HLC
    go_wp2_with (first
     | (refine wpList_load_addr rfl 27 _ rfl ⟨w4.heap.size,0,none⟩ (.agg Yn) rfl HLX.out ?_)
     | (refine wpList_store_row rfl _ _ _ rfl g Yn rfl rfl _ Yo HG5.out (by rw[HD0.out];exact infC7) (by rw[HD0.out,HC0.out]) HD1.out ?_))
    generalize hw6:World.setRow _ _ _=w6
    have hg6:Box1 w6 g 27 Yn:=by rw[←hw6];exact setRow_heap _ _ _ _ _ _ HG5.out
    have hb6:Below (w.heap.size+2) w5 w6:=by rw[←hw6];exact below_setRow (Below.refl _ _) HGG.out _
    have hS6:=HS5.out.low hb6
    have hR6:=condReads_row (W':=w6) (g:=g) (fun k hk=>by rw[←hw6];exact setRow_other _ _ _ _ hk) HR5.out HA5.out.1
    rw[←HYN.out]at hg6
    exact⟨⟨j+1,m4,by omega,by go_num,Lib.hid hg6,Lib.hid hS6,Lib.hid hR6,HA5⟩,by simp[intOf];omega⟩
   ·obtain rfl:j=n-1:=by omega
    have hn1:n-1+1=n:=by omega
    rw[hn1]at HG HR HC0 HC1 HA
    have hlo:=cond_row HG.out HC0.out
    generalize hYo:condA (SM n) m=Yo at *
    have HYO:=Lib.hid hYo
    have HLO:=Lib.hid hlo
    clear hYo hlo
    go_wp2_with (first
     | (refine wpList_load_addr rfl 27 _ rfl ⟨g,0,none⟩ (.agg Yo) rfl HLO.out ?_)
     | (refine wpList_store_row rfl _ _ _ rfl (w.heap.size+1) Yo rfl rfl _ #[.int .i64 0,.int .i64 0,.string ⟨#[]⟩,.slice none 0 0,.slice none 0 0,.slice none 0 0,.int .i64 0] HS.out.z (by rw[HC0.out];exact infC7) (by rw[HC0.out];rfl) HC1.out ?_))
    refine bodyPost_ret (v:=.tuple #[.agg Yo,.int .i64 0]) ?_ rfl ?_
    ·exact results_row_tmp rfl _ _ (w.heap.size+1) _ _ rfl rfl (cond_row (setRow_heap _ _ _ _ _ _ HS.out.z) HC0.out)
    ·rw[HRR.out]
     have hbw:Below w.heap.size w (wr.setRow (w.heap.size+1) Yo):=below_setRow HS.out.b (by omega) _
     exact⟨hbw,m,by rw[val_condA,HYO.out],condReads_row (g:=w.heap.size+1) (fun k hk=>setRow_other _ _ _ _ hk) HR.out HA.out.2⟩
theorem uses_any (x:TokM) (w:World) (hR:TokReads w x) (hv:∀ y∈x.L,validC y.c=true) (hf:∀ y∈x.L,CondFits y.c) (h1:1≤x.t.conds.length) (hn:x.t.conds.length≤1000) (hE:Env w) :
  Calls Tryz.prog 24 #[x.val] w (Ret w (.int .i64 (meanT x.t.conds).us)):=by
 have hM:=fun (W:World) (hb:Below w.heap.size w W)=>mean_any x W (hR.keep hb) hv hf h1 hn (hE.keep hb)
 have hXS:x.cells.toArray.size=20:=by rw[List.size_toArray];exact hR.size
 unfold MeanPost at hM
 generalize hc:meanT x.t.conds=c at *
 unfold TokM.val at hM ⊢
 generalize x.cells.toArray=X at *
 have HM:=Lib.hid hM;have HXS:=Lib.hid hXS
 clear hM hXS hR hv hf hE hc
 simp only[val_condA]at HM
 go_enter Tryz.func24,Tryz.ntmps24
 go_upto_region 1 with fail
 generalize hw0:World.alloc _ _=w0
 have hx:Box1 w0 w.heap.size 32 X:=by rw[←hw0];exact World.alloc_heap_new w _
 have hb0:Below w.heap.size w w0:=by rw[←hw0];exact belB
 clear hw0
 have hld:=tok_row hx HXS.out
 go_upto_region 2 with (first
  | (refine wpList_load_addr rfl 32 _ rfl ⟨w.heap.size,0,none⟩ (.agg X) rfl hld ?_)
  | (go_at_call 19;refine (HM.out _ hb0).mono ?_;rintro e w4 ⟨hb4,m4,rfl,-⟩;have HB4:=Lib.hid hb4;clear hb4;have HD0:=Lib.hid (condA_size c m4);have HD1:=Lib.hid (condA_one c m4);have HC6:=Lib.hid (show (condA c m4)[6]? = some (.int .i64 c.us) from rfl);generalize condA c m4=Yn at *)
  | (refine wpList_store_row rfl _ _ _ rfl w4.heap.size Yn rfl rfl _ #[.int .i64 0,.int .i64 0,.string ⟨#[]⟩,.slice none 0 0,.slice none 0 0,.slice none 0 0,.int .i64 0] (heap_alloc_new w4 _) (by rw[HD0.out];exact infC7) (by rw[HD0.out];rfl) HD1.out ?_))
 generalize hw5:World.setRow _ _ _=w5
 have B5:Box1 w5 w4.heap.size 27 Yn:=by rw[←hw5];exact setRow_heap _ _ _ _ _ _ (heap_alloc_new w4 _)
 have hb5:Below w4.heap.size w4 w5:=by rw[←hw5];exact below_setRow ((Below.refl _ _).alloc (Nat.le_refl _) _) (Nat.le_refl _) _
 have hbw:Below w.heap.size w w5:=bstep (bstep hb0 HB4.out) hb5
 have c6:=B5.cell HC6.out
 clear hw5 hb5 B5
 go_wp2
 go_ret
 exact⟨rfl,hbw⟩
theorem back_one (b g o c:Nat) (KX:Array Value) (w:World) (hcell:w.cell? ⟨b,0,none⟩=some (.slice (some ⟨g,o,none⟩) 1 c)) (hld:∀ W,Below w.heap.size w W→(loadVar 23 ⟨g,o,none⟩).run Tryz.prog W=.ok (.agg KX) W) :
  IterOne Tryz.prog 185 #[.pointer (some ⟨b,0,none⟩)] #[.int .i64 0,.agg KX] w:=by
 intro l J0 J1 Jx W hW hY hJ0
 have hc:=cell_keep hW hcell
 have hl:=hld W hW
 have HY:=Lib.hid hY;have HLD:=Lib.hid hl
 clear hY hld hcell hl
 refine callsIn_wide.2 ?_
 show Calls Tryz.prog 185 #[.func (.yield l) #[] #[],.pointer (some ⟨b,0,none⟩)] W _
 go_enter Tryz.func185,Tryz.ntmps185
 go_wp2
 go_loopw [3] (fun iv wr=>(iv=.int .i64 0∧wr=W)∨(iv=.int .i64 (-1)∧J1 wr)) (fun iv _=>(intOf iv+1).toNat)
 case atStart=>exact .inl ⟨rfl,rfl⟩
 case round =>
  rcases hrel with ⟨rfl,rfl⟩ | ⟨rfl,hJ1⟩
  ·go_upto_region 3 with fail
   obtain⟨fn,tmps,assign,body,hy,hRd⟩:=HY.out _ hJ0
   refine (wpIn_wide (n:=0)).1 ?_
   gi_wp2_with (refine wpListIn_load_addr rfl 23 _ rfl ⟨g,o,none⟩ _ rfl HLD.out ?_)
   refine⟨rfl,hRd.mono ?_⟩
   clear hRd hy
   rintro e W' (⟨rfl,hJ'⟩ | ⟨rfl,hJx'⟩)
   ·gi_wp2
    go_wp2
    exact⟨.inr ⟨by go_num,hJ'⟩,by simp[intOf]⟩
   ·gi_wp2
    go_wp2
    refine bodyPost_ret (results_none rfl _ _ _) rfl ?_
    exact⟨⟨_,rfl⟩,.inr hJx'⟩
  ·go_wp2
   go_end0
   exact⟨⟨_,rfl⟩,.inl hJ1⟩
attribute [local go_sem] Oper.semAt_some
theorem results_cells2 {fn:Func} {p q:Tmp} {t1 t2:TypeId} (h:fn.results=#[.cell p t1,.cell q t2]) (tmps:Array Value) (w:World) (a b:Addr) (v1 v2:Value)
  (hp:tmps.getD p undef=.pointer (some a)) (hq:tmps.getD q undef=.pointer (some b)) (h1:(loadVar t1 a).run Tryz.prog w=.ok v1 w) (h2:(loadVar t2 b).run Tryz.prog w=.ok v2 w) :
  (results fn tmps).run Tryz.prog w=.ok (.tuple #[v1,v2]) w:=by
 rw[Array.getD_eq_getD_getElem?]at hp hq
 simp[results,h,hp,hq,Sem.run_bind,h1,h2,asAddr,Result.andThen]
theorem backF_any (A:Option Addr) (n c:Nat) (w:World):Calls Tryz.prog 125 #[.slice A n c] w fun e w' =>
  e=.returned (.func (.func 185) #[] #[.pointer (some ⟨w.heap.size,0,none⟩)])∧w'=w.alloc (.cells #[.slice A n c] 55):=by
 have hmf:∀ (fn:Fn) (first cap:Array Value) (w:World),(Instr.makeFunc fn first cap).run Tryz.prog w=.ok (.func fn first cap) w:=fun _ _ _ _=>rfl
 go_enter Tryz.func125,Tryz.ntmps125
 go_wp2
 go_ret
 exact⟨by simp,rfl⟩
structure CuS (w:World) (pt:Int) (PX RK:Array Value) (re x:Int) (W:World):Prop where
 p:Box1 W w.heap.size 3 #[.int .i64 pt]
 t:Box1 W (w.heap.size+1) 57 PX
 r:Box1 W (w.heap.size+2) 23 RK
 e:Box1 W (w.heap.size+3) 36 #[.int .i64 re]
 x:Box1 W (w.heap.size+4) 36 #[.int .i64 x]
 b:Below w.heap.size w W
 s:w.heap.size+4<W.heap.size
theorem CuS.keep {w W W':World} {pt re x:Int} {PX RK:Array Value} {B:Nat} (h:CuS w pt PX RK re x W) (hb:Below B W W') (hB:w.heap.size+5≤B):CuS w pt PX RK re x W' :=
 ⟨(hb.block _ (by omega)).trans h.p,(hb.block _ (by omega)).trans h.t,(hb.block _ (by omega)).trans h.r,(hb.block _ (by omega)).trans h.e,(hb.block _ (by omega)).trans h.x,h.b.trans (hb.mono (by omega)),Nat.lt_of_lt_of_le h.s hb.size⟩
theorem CuS.setx {w W:World} {pt re x v:Int} {PX RK:Array Value} (h:CuS w pt PX RK re x W):CuS w pt PX RK re v (W.setCell ⟨w.heap.size+4,0,none⟩ (.int .i64 v)) :=
 ⟨(heap_setCell_other _ _ _ _ (by dsimp only;omega)).trans h.p,(heap_setCell_other _ _ _ _ (by dsimp only;omega)).trans h.t,(heap_setCell_other _ _ _ _ (by dsimp only;omega)).trans h.r,(heap_setCell_other _ _ _ _ (by dsimp only;omega)).trans h.e,heap_setCell_same _ _ _ _ _ _ h.x,h.b.setCell (p:=⟨w.heap.size+4,0,none⟩) (by dsimp only;omega) _,by simpa using h.s⟩
theorem CuS.sete {w W:World} {pt re x v:Int} {PX RK:Array Value} (h:CuS w pt PX RK re x W):CuS w pt PX RK v x (W.setCell ⟨w.heap.size+3,0,none⟩ (.int .i64 v)) :=
 ⟨(heap_setCell_other _ _ _ _ (by dsimp only;omega)).trans h.p,(heap_setCell_other _ _ _ _ (by dsimp only;omega)).trans h.t,(heap_setCell_other _ _ _ _ (by dsimp only;omega)).trans h.r,heap_setCell_same _ _ _ _ _ _ h.e,(heap_setCell_other _ _ _ _ (by dsimp only;omega)).trans h.x,h.b.setCell (p:=⟨w.heap.size+3,0,none⟩) (by dsimp only;omega) _,by simpa using h.s⟩
theorem CuS.setr {w W:World} {pt re x:Int} {PX RK KX:Array Value} (h:CuS w pt PX RK re x W):CuS w pt PX KX re x (W.setRow (w.heap.size+2) KX) :=
 ⟨(setRow_other _ _ _ _ (by omega)).trans h.p,(setRow_other _ _ _ _ (by omega)).trans h.t,setRow_heap _ _ _ _ _ _ h.r,(setRow_other _ _ _ _ (by omega)).trans h.e,(setRow_other _ _ _ _ (by omega)).trans h.x,below_setRow h.b (by omega) _,Nat.lt_of_lt_of_le h.s (below_setRow (Below.refl W.heap.size W |>.mono (Nat.zero_le _)) (Nat.zero_le _) _).size⟩
theorem CuS.setk {w W:World} {pt re x:Int} {PX RK:Array Value} (h:CuS w pt PX RK re x W) (j:Nat) (v:Value):CuS w pt PX (RK.setIfInBounds j v) re x (W.setCell ⟨w.heap.size+2,j,none⟩ v) :=
 ⟨(heap_setCell_other _ _ _ _ (by dsimp only;omega)).trans h.p,(heap_setCell_other _ _ _ _ (by dsimp only;omega)).trans h.t,heap_setCell_same _ _ _ _ _ _ h.r,(heap_setCell_other _ _ _ _ (by dsimp only;omega)).trans h.e,(heap_setCell_other _ _ _ _ (by dsimp only;omega)).trans h.x,h.b.setCell (p:=⟨w.heap.size+2,j,none⟩) (by dsimp only;omega) _,by simpa using h.s⟩
theorem CuS.fin {w W:World} {pt x:Int} {PX:Array Value} {D:Nat} {o:Option Obj} (h:CuS w pt PX (#[.int .i64 0,.int .i64 0,.string ⟨#[]⟩,.int .i64 0,.int .i64 0]:Array Value) 0 x W) (hD:w.heap.size+5≤D) (hK:W.heap[D]? = o) (v:Int) :
  CuS w pt PX (#[.int .i64 0,.int .i64 0,.string ⟨#[]⟩,.int .i64 0,.int .i64 0]:Array Value) v x ((((((W.setCell ⟨w.heap.size+2,0,none⟩ (.int .i64 0)).setCell ⟨w.heap.size+2,1,none⟩ (.int .i64 0)).setCell ⟨w.heap.size+2,2,none⟩ (.string ⟨#[]⟩)).setCell ⟨w.heap.size+2,3,none⟩ (.int .i64 0)).setCell ⟨w.heap.size+2,4,none⟩ (.int .i64 0)).setCell ⟨w.heap.size+3,0,none⟩ (.int .i64 v)).drew ∧
  ((((((W.setCell ⟨w.heap.size+2,0,none⟩ (.int .i64 0)).setCell ⟨w.heap.size+2,1,none⟩ (.int .i64 0)).setCell ⟨w.heap.size+2,2,none⟩ (.string ⟨#[]⟩)).setCell ⟨w.heap.size+2,3,none⟩ (.int .i64 0)).setCell ⟨w.heap.size+2,4,none⟩ (.int .i64 0)).setCell ⟨w.heap.size+3,0,none⟩ (.int .i64 v)).drew.heap[D]? = o:=by
 constructor
 ·have:=((((((h.setk 0 (.int .i64 0)).setk 1 (.int .i64 0)).setk 2 (.string ⟨#[]⟩)).setk 3 (.int .i64 0)).setk 4 (.int .i64 0)).sete (v:=v))
  exact this.keep (B:=w.heap.size+5) (Below.drew (Below.refl _ _)) (Nat.le_refl _)
 ·have e:∀ W:World,W.drew.heap=W.heap:=fun _=>rfl
  rw[e,heap_setCell_other _ _ _ _ (by dsimp only;omega),heap_setCell_other _ _ _ _ (by dsimp only;omega),heap_setCell_other _ _ _ _ (by dsimp only;omega),heap_setCell_other _ _ _ _ (by dsimp only;omega),heap_setCell_other _ _ _ _ (by dsimp only;omega),heap_setCell_other _ _ _ _ (by dsimp only;omega),hK]
theorem errno_load {W:World} {g:Nat} {e:Int} (h:Box1 W g 36 #[.int .i64 e]):(loadVar 36 ⟨g,0,none⟩).run Tryz.prog W=.ok (.int .i64 e) W:=by
 have hc:=h.cell (k:=0) (v:=.int .i64 e) rfl
 simp[go_sem,hc]
theorem CuS.end1 {w W:World} {pt re x:Int} {PX RK:Array Value} {D:Nat} {tmps:Array Value} (h:CuS w pt PX RK re x W) (hs:RK.size=5) (hD:w.heap.size+5≤D)
  (h6:tmps.getD 6 undef=.pointer (some ⟨w.heap.size+2,0,none⟩)) (h7:tmps.getD 7 undef=.pointer (some ⟨w.heap.size+3,0,none⟩)) :
  (results Tryz.f62 tmps).run Tryz.prog (W.putObj D (.deferred none))=.ok (.tuple #[.agg RK,.int .i64 re]) (W.putObj D (.deferred none)) :=
 results_cells2 rfl _ _ _ _ _ _ h6 h7 (keyRow ((World.putObj_heap_other (by omega)).trans h.r) (by rw[hs];exact infKey)) (errno_load ((World.putObj_heap_other (by omega)).trans h.e))
theorem CuS.end2 {w W:World} {pt re x:Int} {PX RK:Array Value} {D:Nat} (h:CuS w pt PX RK re x W) (hD:w.heap.size+5≤D):Below w.heap.size w (W.putObj D (.deferred none)) :=
 h.b.grown (grownBy_putObj' W D _) (by have:=h.b.size;omega) (fun r e=>by cases e;omega)
theorem alloc5_box (w:World) (A B C D E:Obj):(((((w.alloc A).alloc B).alloc C).alloc D).alloc E).heap[w.heap.size]? = some A∧(((((w.alloc A).alloc B).alloc C).alloc D).alloc E).heap[w.heap.size+1]? = some B∧(((((w.alloc A).alloc B).alloc C).alloc D).alloc E).heap[w.heap.size+2]? = some C∧(((((w.alloc A).alloc B).alloc C).alloc D).alloc E).heap[w.heap.size+3]? = some D∧(((((w.alloc A).alloc B).alloc C).alloc D).alloc E).heap[w.heap.size+4]? = some E:=by
 have h3:=alloc3_box ((w.alloc A).alloc B) C D E
 have e:((w.alloc A).alloc B).heap.size=w.heap.size+2:=by simp
 rw[e]at h3
 have h2:=alloc2_box w A B
 refine⟨?_,?_,h3⟩
 ·exact (heap_alloc_old _ E (by simp <;> omega)).trans ((heap_alloc_old _ D (by simp <;> omega)).trans ((heap_alloc_old _ C (by simp <;> omega)).trans h2.1))
 ·exact (heap_alloc_old _ E (by simp <;> omega)).trans ((heap_alloc_old _ D (by simp <;> omega)).trans ((heap_alloc_old _ C (by simp <;> omega)).trans h2.2))
theorem current_any (g o c:Nat) (k:KeyV) (lo hi:Int) (w:World) (hld:∀ W,Below w.heap.size w W→(loadVar 23 ⟨g,o,none⟩).run Tryz.prog W=.ok (.agg k.arr) W) :
  Calls Tryz.prog 62 #[.slice (some ⟨g,o,none⟩) 1 c,.int .i64 k.party,perV lo hi] w (Ret w (.tuple #[.agg (if countsK k lo hi then k.arr else (#[.int .i64 0,.int .i64 0,.string ⟨#[]⟩,.int .i64 0,.int .i64 0]:Array Value)),.int .i64 (if countsK k lo hi then 0 else 9)])):=by
 have hC:=fun W=>sealCounts_any k lo hi W
 rw[KeyV.val_arr]at hC
 have hKS:k.arr.size=5:=k.arr_size
 have hK1:=k.arr_one
 have hk0:k.arr[0]? = some (.int .i64 k.party):=rfl
 generalize k.arr=KX at *
 generalize k.party=pt at *
 generalize countsK k lo hi=ct at *
 have HC:=Lib.hid hC;have HKS:=Lib.hid hKS;have HK1:=Lib.hid hK1;have HK0:=Lib.hid hk0;have HLD:=Lib.hid hld
 clear hC hKS hK1 hk0 hld
 obtain⟨R,hRR⟩:∃ R,R=Ret w (.tuple #[.agg (if ct then KX else (#[.int .i64 0,.int .i64 0,.string ⟨#[]⟩,.int .i64 0,.int .i64 0]:Array Value)),.int .i64 (if ct then 0 else 9)]):=⟨_,rfl⟩
 rw[←hRR]
 have HRR:=Lib.hid hRR
 clear hRR
 unfold perV at *
 obtain⟨PX,hPX⟩:∃ PX:Array Value,PX=#[.int .i64 lo,.int .i64 hi]:=⟨_,rfl⟩
 rw[←hPX]at HC ⊢
 have HPS:=Lib.hid (show PX.size=2 by rw[hPX];rfl)
 clear hPX
 refine (callsIn_wide (n:=0)).1 ?_;refine callsIn_of_wp_marks Tryz.func62 rfl trivial ?_ rfl;simp only[Tryz.ntmps62,List.size_toArray,List.length_cons,List.length_nil,Nat.reduceAdd,Nat.reduceSub,Array.replicate_succ,Array.replicate_zero,List.push_toArray,List.append_toArray,List.nil_append,List.cons_append];refine wpIn_wide.2 ?_
 go_upto_region 2 with fail
 generalize hw0:World.alloc _ _=w0
 have hS0:CuS w pt PX (#[.int .i64 0,.int .i64 0,.string ⟨#[]⟩,.int .i64 0,.int .i64 0]:Array Value) 0 5 w0:=by
  rw[←hw0]
  obtain⟨a1,a2,a3,a4,a5⟩:=alloc5_box w (.cells #[.int .i64 pt] 3) (.cells PX 57) (.cells (#[.int .i64 0,.int .i64 0,.string ⟨#[]⟩,.int .i64 0,.int .i64 0]:Array Value) 23) (.cells #[.int .i64 0] 36) (.cells #[.int .i64 5] 36)
  exact⟨a1,a2,a3,a4,a5,belB,by simp⟩
 have hz0:w0.heap.size=w.heap.size+5:=by rw[←hw0];simp
 clear hw0
 go_wp2_with (go_at_call 125;refine (backF_any (some ⟨g,o,none⟩) 1 c w0).mono ?_;rintro e w1 ⟨rfl,hw1⟩;have HW1:=Lib.hid hw1;clear hw1)
 have hw1:=HW1.out
 have hb1:Below w0.heap.size w0 w1:=by rw[hw1];exact balloc (Below.refl _ _) _
 have hz1:w1.heap.size=w.heap.size+6:=by rw[hw1];simp;omega
 have hS1:=hS0.keep hb1 (by omega)
 have hc1:w1.cell? ⟨w0.heap.size,0,none⟩=some (.slice (some ⟨g,o,none⟩) 1 c):=by rw[hw1];exact Box1.cell (t:=55) (X:=#[.slice (some ⟨g,o,none⟩) 1 c]) (heap_alloc_new w0 _) rfl
 have hseq:=back_one w0.heap.size g o c KX w1 hc1 (fun W hb=>HLD.out W (hS1.b.trans (hb.mono (by omega))))
 rw[hz0]at hseq
 have HZ1:=Lib.hid hz1
 clear hw1 hc1 hS0 hb1
 refine (wpIn_wide (n:=0)).1 ?_
 refine range_one (a:=?act) (gf:=185) (lb:=#[.pointer (some ⟨w.heap.size+5,0,none⟩)]) ?hps ?geq (enters_of Tryz.func185 (by kernel_rfl) rfl) hseq (Below.refl _ _)
  (fun W=>ct=false∧CuS w pt PX (#[.int .i64 0,.int .i64 0,.string ⟨#[]⟩,.int .i64 0,.int .i64 0]:Array Value) 0 9 W) (fun W=>ct=true∧CuS w pt PX KX 0 5 W) (fun A B h hb=>⟨h.1,h.2.keep hb (by omega)⟩) (fun A B h hb=>⟨h.1,h.2.keep hb (by omega)⟩)
  (fun a' W=>∃ gk,a'=Act.put (Act.put (Act.put ?act (some 13) (.int .i64 0)) (some 14) (.agg KX)) (some 10) (.pointer (some ⟨gk,0,none⟩))∧w1.heap.size≤gk∧Box1 W gk 23 KX∧CuS w pt PX (#[.int .i64 0,.int .i64 0,.string ⟨#[]⟩,.int .i64 0,.int .i64 0]:Array Value) 0 5 W) ?ax ?assign ?body ?done ?stop
 case hps=>rfl
 case geq=>rfl
 case ax =>
  rintro a' W l o' o2 ⟨gk,e2,hg,hx,hS⟩ hl ho hc
  refine⟨gk,e2,hg,(World.putObj_heap_other ?_).trans hx,hS.keep (putObj_below (B:=w1.heap.size) _ ho hl) (by omega)⟩
  intro e
  subst e
  unfold Box1 at hx
  rw[hx]at ho
  injection ho with ho
  subst ho
  cases hc
 case assign =>
  intro l W K hbW hK
  have hsW:=hbW.size
  have HKK:=Lib.hid hK
  clear hK hz0 hz1
  gi_wp2_with (refine wpListIn_store_row rfl 23 _ _ rfl W.heap.size KX rfl rfl _ (#[.int .i64 0,.int .i64 0,.string ⟨#[]⟩,.int .i64 0,.int .i64 0]:Array Value) (heap_alloc_new W _) (by rw[HKS.out];exact infKey) (by rw[HKS.out];rfl) HK1.out ?_)
  have hb2:Below W.heap.size W ((W.alloc (.cells (#[.int .i64 0,.int .i64 0,.string ⟨#[]⟩,.int .i64 0,.int .i64 0]:Array Value) 23)).setRow W.heap.size KX):=below_setRow (below_alloc _ _) (Nat.le_refl _) _
  exact HKK.out _ _ ⟨hb2.size,fun k _ h2=>hb2.block k h2⟩ ⟨W.heap.size,rfl,hsW,setRow_heap _ _ _ _ _ _ (heap_alloc_new W _),(hS1.keep (hbW.trans (hb2.mono hsW)) (by have:=HZ1.out;omega))⟩
 case body =>
  rintro l a' W ⟨gk,rfl,hgk,hx,hS⟩
  have x0:=hx.cell HK0.out
  have p0:=hS.p.cell (k:=0) rfl
  have x4:=hS.x.cell (k:=0) rfl
  have f4:=frozen_of_row W _ 0 _ _ hS.x
  have f3:=frozen_of_row W _ 0 _ _ hS.e
  have e3:=hS.e.cell (k:=0) rfl
  have hlk:=keyRow hx (by rw[HKS.out];exact infKey)
  have hlp:=hS.t.period HPS.out
  have HLK:=Lib.hid hlk;have HLP:=Lib.hid hlp;have HS:=Lib.hid hS;have HX:=Lib.hid hx
  clear hlk hlp hS hx hS1 hseq
  dsimp only[Act.put]
  cases ct
  ·gi_wp2_with (first
    | (refine wpListIn_load_addr rfl 23 _ rfl ⟨gk,0,none⟩ (.agg KX) rfl HLK.out ?_)
    | (refine wpListIn_load_addr rfl 57 _ rfl ⟨w.heap.size+1,0,none⟩ (.agg PX) rfl HLP.out ?_)
    | (refine⟨trivial,rfl,?_⟩;refine (CallsIn.inRound l (callsIn_wide.2 (HC.out W))).mono ?_;rintro e w5 ⟨rfl,hb5⟩;have hS5:=HS.out.keep hb5 (by have:=HS.out.s;omega);have x5:=hS5.x.cell (k:=0) rfl;have f5:=frozen_of_row w5 _ 0 _ _ hS5.x))
   have hz5:=hb5.size
   have hsW:=HS.out.s
   refine⟨⟨by simpa using hz5,fun k h1 h2=>(heap_setCell_other _ _ _ _ (by dsimp only;omega)).trans (hb5.block k h2)⟩,hS5.setx⟩
  ·gi_wp2_with (first
    | (refine wpListIn_load_addr rfl 23 _ rfl ⟨gk,0,none⟩ (.agg KX) rfl HLK.out ?_)
    | (refine wpListIn_load_addr rfl 57 _ rfl ⟨w.heap.size+1,0,none⟩ (.agg PX) rfl HLP.out ?_)
    | (refine⟨trivial,rfl,?_⟩;refine (CallsIn.inRound l (callsIn_wide.2 (HC.out W))).mono ?_;rintro e w5 ⟨rfl,hb5⟩;have hS5:=HS.out.keep hb5 (by have:=HS.out.s;omega);have HS5:=Lib.hid hS5;have hlk5:=keyRow (HX.out.keep hb5) (by rw[HKS.out];exact infKey);clear hS5)
    | (refine wpListIn_load_addr rfl 23 _ rfl ⟨gk,0,none⟩ (.agg KX) rfl hlk5 ?_)
    | (refine wpListIn_store_row rfl 23 _ _ rfl (w.heap.size+2) KX rfl rfl _ (#[.int .i64 0,.int .i64 0,.string ⟨#[]⟩,.int .i64 0,.int .i64 0]:Array Value) HS5.out.r (by rw[HKS.out];exact infKey) (by rw[HKS.out];rfl) HK1.out ?_;have hS6:=HS5.out.setr (KX:=KX);have e6:=hS6.e.cell (k:=0) rfl;have f6:=frozen_of_row _ _ 0 _ _ hS6.e;have HS6:=Lib.hid hS6;clear hS6))
   have hz5:=hb5.size
   have hsW:=HS.out.s
   exact⟨⟨by simpa using hz5,fun k h1 h2=>(heap_setCell_other _ _ _ _ (by dsimp only;omega)).trans ((setRow_other _ _ _ _ (by omega)).trans (hb5.block k h2))⟩,HS6.out.sete⟩
 case done =>
  rintro D W hD ⟨rfl,hi⟩ hK
  have HI:=Lib.hid hi
  clear hS1 hseq hi
  go_upto_region 8 with fail
  rename_i Kx hKx
  have hx:=HI.out
  obtain⟨r0,r1,r2,r3,r4⟩:W.cell? ⟨w.heap.size+1+1,0,none⟩=some (.int .i64 0)∧W.cell? ⟨w.heap.size+1+1,1,none⟩=some (.int .i64 0)∧W.cell? ⟨w.heap.size+1+1,2,none⟩=some (.string ⟨#[]⟩)∧W.cell? ⟨w.heap.size+1+1,3,none⟩=some (.int .i64 0)∧W.cell? ⟨w.heap.size+1+1,4,none⟩=some (.int .i64 0):=⟨hx.r.cell rfl,hx.r.cell rfl,hx.r.cell rfl,hx.r.cell rfl,hx.r.cell rfl⟩
  have f0:=frozen_of_row W (w.heap.size+1+1) 0 _ _ hx.r
  have f1:=frozen_of_row W (w.heap.size+1+1) 1 _ _ hx.r
  have f2:=frozen_of_row W (w.heap.size+1+1) 2 _ _ hx.r
  have f3:=frozen_of_row W (w.heap.size+1+1) 3 _ _ hx.r
  have f4:=frozen_of_row W (w.heap.size+1+1) 4 _ _ hx.r
  have g3:=frozen_of_row W (w.heap.size+1+1+1) 0 _ _ hx.e
  have e3:W.cell? ⟨w.heap.size+1+1+1,0,none⟩=some (.int .i64 0):=hx.e.cell rfl
  have x4:W.cell? ⟨w.heap.size+1+1+1+1,0,none⟩=some (.int .i64 9):=hx.x.cell rfl
  clear hx
  refine wp_region_noPanic ?_
  go_region_law fail
  all_goals
   (try go_wp2)
   refine hKx _ _ ?_
   go_wp2
   obtain⟨hs9,hk9⟩:=HI.out.fin (D:=D) (by have:=HZ1.out;omega) hK 9
   refine⟨by simp,.inl ⟨_,_,rfl,run_takeDeferred hk9,?_⟩⟩
   refine⟨.tuple #[.agg (#[.int .i64 0,.int .i64 0,.string ⟨#[]⟩,.int .i64 0,.int .i64 0]:Array Value),.int .i64 9],hs9.end1 rfl (by have:=HZ1.out;omega) rfl rfl,?_⟩
   rw[HRR.out]
   exact⟨rfl,hs9.end2 (by have:=HZ1.out;omega)⟩
 case stop =>
  rintro D W hD ⟨rfl,hi⟩ hK
  clear hS1 hseq
  gi_wp2
  refine⟨by simp,.inl ⟨_,_,rfl,run_takeDeferred hK,?_⟩⟩
  refine⟨.tuple #[.agg KX,.int .i64 0],hi.end1 HKS.out (by have:=HZ1.out;omega) rfl rfl,?_⟩
  rw[HRR.out]
  exact⟨rfl,hi.end2 (by have:=HZ1.out;omega)⟩
end Go.Proofs.YtlkbkclnbppigaaGreatDoor
