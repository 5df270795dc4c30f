/- The newest key that counts, of a ring with one key: seal.Current. -/
import Derived.Test.YtlkbkclnbppigaaGreatDoorIZ35
set_option maxHeartbeats 16000000
namespace Go.Proofs.YtlkbkclnbppigaaGreatDoor
open Tryz
open Go.RowKit Go.Sort
set_option linter.unusedVariables false
set_option linter.unusedSimpArgs false
set_option maxRecDepth 100000
theorem YR(b g o c:Nat)(KX:Array Value)(w:World)(hcell:w.cell? ⟨b,0,none⟩=some (.slice (some ⟨g,o,none⟩) 1 c))(hld:∀ W,aF w W->(loadVar 23 ⟨g,o,none⟩).run prog W=.ok (.agg KX) W) :
  Nc prog 185 #[.pointer (some ⟨b,0,none⟩)] #[.int .i64 0,.agg KX] w:=by
 intro l J0 J1 Jx W hW hY hJ0;have hc:=aW hW hcell;have hl:=hld W hW;have HY:=aA hY;have HLD:=aA hl;clear hY hld hcell hl;refine callsIn_wide.2 ?_;show Calls prog 185 #[.func (.yield l) #[] #[],.pointer (some ⟨b,0,none⟩)] W _;go_enter func185,ntmps185;go_wp2;go_loopw [3] (fun iv wr=>(iv=.int .i64 0/\wr=W)\/(iv=.int .i64 (-1)/\J1 wr)) (fun iv _=>(intOf iv+1).toNat)
 case atStart=>exact .inl ⟨rfl,rfl⟩
 case round =>
  rcases hrel with ⟨rfl,rfl⟩ | ⟨rfl,hJ1⟩
  ·go_upto_region 3 with fail
   obtain⟨fn,tmps,assign,body,hy,hRd⟩:=HY.out _ hJ0;refine (wpIn_wide (n:=0)).1 ?_
   gi_wp2_with (refine ng rfl 23 _ rfl ⟨g,o,none⟩ _ rfl HLD.out ?_)
   refine⟨rfl,hRd.mono ?_⟩;clear hRd hy;rintro e W' (⟨rfl,hJ'⟩ | ⟨rfl,hJx'⟩)
   ·gi_wp2
    go_wp2;exact⟨.inr ⟨bg,hJ'⟩,rM⟩
   ·gi_wp2
    go_wp2;exact uw
  ·go_wp2;go_end0;exact⟨⟨_,rfl⟩,.inl hJ1⟩
attribute [local go_sem] Oper.semAt_some
theorem Nh{fn:Func}{p q:Tmp}{t1 t2:TypeId}(h:fn.results=#[.cell p t1,.cell q t2])(tmps:Array Value)(w:World)(a b:Addr)(v1 v2:Value)
  (hp:tmps.getD p undef=.pointer (some a)) (hq:tmps.getD q undef=.pointer (some b)) (h1:(loadVar t1 a).run prog w=.ok v1 w) (h2:(loadVar t2 b).run prog w=.ok v2 w) :
  (results fn tmps).run prog w=.ok (.tuple #[v1,v2]) w:=by
 rw[Array.getD_eq_getD_getElem?]at hp hq;simp[results,h,hp,hq,Sem.run_bind,h1,h2,asAddr,Result.andThen]
theorem YS(A:Option Addr)(n c:Nat)(w:World):Calls prog 125 #[.slice A n c] w fun e w' =>
  e=.returned (.func (.func 185) #[] #[.pointer (some ⟨w.heap.size,0,none⟩)])/\w'=w.alloc (.cells #[.slice A n c] 55):=by
 have hmf:∀(fn:Fn)(first cap:Array Value)(w:World),(Instr.makeFunc fn first cap).run prog w=.ok (.func fn first cap) w:=fun _ _ _ _=>rfl
 go_enter func125,ntmps125;go_wp2;go_ret;exact⟨aH,rfl⟩
structure CuS(w:World)(pt:Int)(PX RK:Array Value)(re x:Int)(W:World):Prop where
 p:aQ W w.heap.size 3 #[.int .i64 pt]
 t:aQ W (w.heap.size+1) 57 PX
 r:aQ W (w.heap.size+2) 23 RK
 e:aQ W (w.heap.size+3) 36 #[.int .i64 re]
 x:aQ W (w.heap.size+4) 36 #[.int .i64 x]
 b:aF w W
 s:w.heap.size+4<W.heap.size
theorem CuS.keep{w W W':World}{pt re x:Int}{PX RK:Array Value}{B:Nat}(h:CuS w pt PX RK re x W)(hb:Below B W W')(hB:w.heap.size+5<=B):CuS w pt PX RK re x W' :=
 ⟨(hb.block _ aB).trans h.p,(hb.block _ aB).trans h.t,(hb.block _ aB).trans h.r,(hb.block _ aB).trans h.e,(hb.block _ aB).trans h.x,h.b.trans (hb.mono aB),Nat.lt_of_lt_of_le h.s hb.size⟩
theorem CuS.setx{w W:World}{pt re x v:Int}{PX RK:Array Value}(h:CuS w pt PX RK re x W):CuS w pt PX RK re v (W.setCell ⟨w.heap.size+4,0,none⟩ (.int .i64 v)) :=
 ⟨(heap_setCell_other _ _ _ _ ay).trans h.p,(heap_setCell_other _ _ _ _ ay).trans h.t,(heap_setCell_other _ _ _ _ ay).trans h.r,(heap_setCell_other _ _ _ _ ay).trans h.e,heap_setCell_same _ _ _ _ _ _ h.x,h.b.setCell (p:=⟨w.heap.size+4,0,none⟩) ay _,by simpa using h.s⟩
theorem CuS.sete{w W:World}{pt re x v:Int}{PX RK:Array Value}(h:CuS w pt PX RK re x W):CuS w pt PX RK v x (W.setCell ⟨w.heap.size+3,0,none⟩ (.int .i64 v)) :=
 ⟨(heap_setCell_other _ _ _ _ ay).trans h.p,(heap_setCell_other _ _ _ _ ay).trans h.t,(heap_setCell_other _ _ _ _ ay).trans h.r,heap_setCell_same _ _ _ _ _ _ h.e,(heap_setCell_other _ _ _ _ ay).trans h.x,h.b.setCell (p:=⟨w.heap.size+3,0,none⟩) ay _,by simpa using h.s⟩
theorem CuS.setr{w W:World}{pt re x:Int}{PX RK KX:Array Value}(h:CuS w pt PX RK re x W):CuS w pt PX KX re x (W.setRow (w.heap.size+2) KX) :=
 ⟨(setRow_other _ _ _ _ aB).trans h.p,(setRow_other _ _ _ _ aB).trans h.t,setRow_heap _ _ _ _ _ _ h.r,(setRow_other _ _ _ _ aB).trans h.e,(setRow_other _ _ _ _ aB).trans h.x,below_setRow h.b aB _,Nat.lt_of_lt_of_le h.s (below_setRow (Below.refl W.heap.size W |>.mono (Nat.zero_le _)) (Nat.zero_le _) _).size⟩
theorem CuS.setk{w W:World}{pt re x:Int}{PX RK:Array Value}(h:CuS w pt PX RK re x W)(j:Nat)(v:Value):CuS w pt PX (RK.setIfInBounds j v) re x (W.setCell ⟨w.heap.size+2,j,none⟩ v) :=
 ⟨(heap_setCell_other _ _ _ _ ay).trans h.p,(heap_setCell_other _ _ _ _ ay).trans h.t,heap_setCell_same _ _ _ _ _ _ h.r,(heap_setCell_other _ _ _ _ ay).trans h.e,(heap_setCell_other _ _ _ _ ay).trans h.x,h.b.setCell (p:=⟨w.heap.size+2,j,none⟩) ay _,by simpa using h.s⟩
theorem CuS.fin{w W:World}{pt x:Int}{PX:Array Value}{D:Nat}{o:Option Obj}(h:CuS w pt PX (#[.int .i64 0,.int .i64 0,.string ⟨#[]⟩,.int .i64 0,.int .i64 0]:Array Value) 0 x W)(hD:w.heap.size+5<=D)(hK:W.heap[D]? = o)(v:Int) :
  CuS w pt PX (#[.int .i64 0,.int .i64 0,.string ⟨#[]⟩,.int .i64 0,.int .i64 0]:Array Value) v x ((((((W.setCell ⟨w.heap.size+2,0,none⟩ (.int .i64 0)).setCell ⟨w.heap.size+2,1,none⟩ (.int .i64 0)).setCell ⟨w.heap.size+2,2,none⟩ (.string ⟨#[]⟩)).setCell ⟨w.heap.size+2,3,none⟩ (.int .i64 0)).setCell ⟨w.heap.size+2,4,none⟩ (.int .i64 0)).setCell ⟨w.heap.size+3,0,none⟩ (.int .i64 v)).drew /\
  ((((((W.setCell ⟨w.heap.size+2,0,none⟩ (.int .i64 0)).setCell ⟨w.heap.size+2,1,none⟩ (.int .i64 0)).setCell ⟨w.heap.size+2,2,none⟩ (.string ⟨#[]⟩)).setCell ⟨w.heap.size+2,3,none⟩ (.int .i64 0)).setCell ⟨w.heap.size+2,4,none⟩ (.int .i64 0)).setCell ⟨w.heap.size+3,0,none⟩ (.int .i64 v)).drew.heap[D]? = o:=by
 constructor
 ·have:=((((((h.setk 0 (.int .i64 0)).setk 1 (.int .i64 0)).setk 2 (.string ⟨#[]⟩)).setk 3 (.int .i64 0)).setk 4 (.int .i64 0)).sete (v:=v));exact this.keep (B:=w.heap.size+5) (Below.drew (Below.refl _ _)) (Nat.le_refl _)
 ·have e:∀ W:World,W.drew.heap=W.heap:=fun _=>rfl
  rw[e,heap_setCell_other _ _ _ _ ay,heap_setCell_other _ _ _ _ ay,heap_setCell_other _ _ _ _ ay,heap_setCell_other _ _ _ _ ay,heap_setCell_other _ _ _ _ ay,heap_setCell_other _ _ _ _ ay,hK]
theorem Nj{W:World}{g:Nat}{e:Int}(h:aQ W g 36 #[.int .i64 e]):(loadVar 36 ⟨g,0,none⟩).run prog W=.ok (.int .i64 e) W:=by
 have hc:=h.cell (k:=0) (v:=.int .i64 e) rfl;simp[go_sem,hc]
theorem CuS.end1{w W:World}{pt re x:Int}{PX RK:Array Value}{D:Nat}{tmps:Array Value}(h:CuS w pt PX RK re x W)(hs:RK.size=5)(hD:w.heap.size+5<=D)
  (h6:tmps.getD 6 undef=.pointer (some ⟨w.heap.size+2,0,none⟩)) (h7:tmps.getD 7 undef=.pointer (some ⟨w.heap.size+3,0,none⟩)) :
  (results f62 tmps).run prog (W.putObj D (.deferred none))=.ok (.tuple #[.agg RK,.int .i64 re]) (W.putObj D (.deferred none)) :=
 Nh rfl _ _ _ _ _ _ h6 h7 (iM ((World.putObj_heap_other aB).trans h.r) (by rw[hs];exact kJ)) (Nj ((World.putObj_heap_other aB).trans h.e))
theorem CuS.end2{w W:World}{pt re x:Int}{PX RK:Array Value}{D:Nat}(h:CuS w pt PX RK re x W)(hD:w.heap.size+5<=D):aF w (W.putObj D (.deferred none)) :=
 h.b.grown (grownBy_putObj' W D _) (by have:=h.b.size;omega) (fun r e=>mZ)
theorem YU(w:World)(A B C D E:Obj):(((((w.alloc A).alloc B).alloc C).alloc D).alloc E).heap[w.heap.size]? = some A/\(((((w.alloc A).alloc B).alloc C).alloc D).alloc E).heap[w.heap.size+1]? = some B/\(((((w.alloc A).alloc B).alloc C).alloc D).alloc E).heap[w.heap.size+2]? = some C/\(((((w.alloc A).alloc B).alloc C).alloc D).alloc E).heap[w.heap.size+3]? = some D/\(((((w.alloc A).alloc B).alloc C).alloc D).alloc E).heap[w.heap.size+4]? = some E:=by
 have h3:=iL ((w.alloc A).alloc B) C D E;have e:((w.alloc A).alloc B).heap.size=w.heap.size+2:=aH;rw[e]at h3;have h2:=gQ w A B;refine⟨?_,?_,h3⟩
 ·exact (heap_alloc_old _ E lw).trans ((heap_alloc_old _ D lw).trans ((heap_alloc_old _ C lw).trans h2.1))
 ·exact (heap_alloc_old _ E lw).trans ((heap_alloc_old _ D lw).trans ((heap_alloc_old _ C lw).trans h2.2))
theorem YV(g o c:Nat)(k:aj)(lo hi:Int)(w:World)(hld:∀ W,aF w W->(loadVar 23 ⟨g,o,none⟩).run prog W=.ok (.agg k.arr) W) :
  Calls prog 62 #[.slice (some ⟨g,o,none⟩) 1 c,.int .i64 k.party,pK lo hi] w (Ret w (.tuple #[.agg (if lT k lo hi then k.arr else (#[.int .i64 0,.int .i64 0,.string ⟨#[]⟩,.int .i64 0,.int .i64 0]:Array Value)),.int .i64 (if lT k lo hi then 0 else 9)])):=by
 have hC:=fun W=>WE k lo hi W
 rw[aj.val_arr]at hC;have hKS:k.arr.size=5:=k.arr_size;have hK1:=k.arr_one;have hk0:k.arr[0]? = some (.int .i64 k.party):=rfl;generalize k.arr=KX at *;generalize k.party=pt at *;generalize lT k lo hi=ct at *;have HC:=aA hC;have HKS:=aA hKS;have HK1:=aA hK1;have HK0:=aA hk0;have HLD:=aA hld;clear hC hKS hK1 hk0 hld;obtain⟨R,hRR⟩:∃ R,R=Ret w (.tuple #[.agg (if ct then KX else (#[.int .i64 0,.int .i64 0,.string ⟨#[]⟩,.int .i64 0,.int .i64 0]:Array Value)),.int .i64 (if ct then 0 else 9)]):=⟨_,rfl⟩;rw[<-hRR];have HRR:=aA hRR;clear hRR;unfold pK at *;obtain⟨PX,hPX⟩:∃ PX:Array Value,PX=#[.int .i64 lo,.int .i64 hi]:=⟨_,rfl⟩;rw[<-hPX]at HC ⊢;have HPS:=aA (show PX.size=2 by rw[hPX];rfl);clear hPX;refine (callsIn_wide (n:=0)).1 ?_;refine callsIn_of_wp_marks func62 rfl trivial ?_ rfl;simp only[ntmps62,List.size_toArray,List.length_cons,List.length_nil,Nat.reduceAdd,Nat.reduceSub,Array.replicate_succ,Array.replicate_zero,List.push_toArray,List.append_toArray,List.nil_append,List.cons_append];refine wpIn_wide.2 ?_;go_upto_region 2 with fail
 generalize hw0:World.alloc _ _=w0;have hS0:CuS w pt PX (#[.int .i64 0,.int .i64 0,.string ⟨#[]⟩,.int .i64 0,.int .i64 0]:Array Value) 0 5 w0:=by
  rw[<-hw0];obtain⟨a1,a2,a3,a4,a5⟩:=YU w (.cells #[.int .i64 pt] 3) (.cells PX 57) (.cells (#[.int .i64 0,.int .i64 0,.string ⟨#[]⟩,.int .i64 0,.int .i64 0]:Array Value) 23) (.cells #[.int .i64 0] 36) (.cells #[.int .i64 5] 36);exact⟨a1,a2,a3,a4,a5,aJ,aH⟩
 have hz0:w0.heap.size=w.heap.size+5:=vX;clear hw0;go_wp2_with (go_at_call 125;refine (YS (some ⟨g,o,none⟩) 1 c w0).mono ?_;rintro e w1 ⟨rfl,hw1⟩;have HW1:=aA hw1;clear hw1);have hw1:=HW1.out;have hb1:aF w0 w1:=by rw[hw1];exact aU (Below.refl _ _) _
 have hz1:w1.heap.size=w.heap.size+6:=by rw[hw1];simp;omega
 have hS1:=hS0.keep hb1 aB;have hc1:w1.cell? ⟨w0.heap.size,0,none⟩=some (.slice (some ⟨g,o,none⟩) 1 c):=by rw[hw1];exact aQ.cell (t:=55) (X:=#[.slice (some ⟨g,o,none⟩) 1 c]) (heap_alloc_new w0 _) rfl
 have hseq:=YR w0.heap.size g o c KX w1 hc1 (fun W hb=>HLD.out W (hS1.b.trans (hb.mono aB)));rw[hz0]at hseq;have HZ1:=aA hz1;clear hw1 hc1 hS0 hb1;refine (wpIn_wide (n:=0)).1 ?_;refine YW (a:=?act) (gf:=185) (lb:=#[.pointer (some ⟨w.heap.size+5,0,none⟩)]) ?hps ?geq (enters_of func185 aG rfl) hseq (Below.refl _ _)
  (fun W=>ct=false/\CuS w pt PX (#[.int .i64 0,.int .i64 0,.string ⟨#[]⟩,.int .i64 0,.int .i64 0]:Array Value) 0 9 W) (fun W=>ct=true/\CuS w pt PX KX 0 5 W) (fun A B h hb=>⟨h.1,h.2.keep hb aB⟩) (fun A B h hb=>⟨h.1,h.2.keep hb aB⟩)
  (fun a' W=>∃ gk,a'=Act.put (Act.put (Act.put ?act (some 13) (.int .i64 0)) (some 14) (.agg KX)) (some 10) (.pointer (some ⟨gk,0,none⟩))/\w1.heap.size<=gk/\aQ W gk 23 KX/\CuS w pt PX (#[.int .i64 0,.int .i64 0,.string ⟨#[]⟩,.int .i64 0,.int .i64 0]:Array Value) 0 5 W) ?ax ?assign ?body ?done ?stop
 case hps=>rfl
 case geq=>rfl
 case ax =>
  rintro a' W l o' o2 ⟨gk,e2,hg,hx,hS⟩ hl ho hc;refine⟨gk,e2,hg,(World.putObj_heap_other ?_).trans hx,hS.keep (nZ (B:=w1.heap.size) _ ho hl) aB⟩;exact Me
 case assign =>
  intro l W K hbW hK;have hsW:=hbW.size;have HKK:=aA hK;clear hK hz0 hz1
  gi_wp2_with (refine yw rfl 23 _ _ rfl W.heap.size KX rfl rfl _ (#[.int .i64 0,.int .i64 0,.string ⟨#[]⟩,.int .i64 0,.int .i64 0]:Array Value) (heap_alloc_new W _) ku (by rw[HKS.out];rfl) HK1.out ?_)
  have hb2:aF W ((W.alloc (.cells (#[.int .i64 0,.int .i64 0,.string ⟨#[]⟩,.int .i64 0,.int .i64 0]:Array Value) 23)).setRow W.heap.size KX):=below_setRow (fJ _ _) (Nat.le_refl _) _;exact HKK.out _ _ ⟨hb2.size,fun k _ h2=>hb2.block k h2⟩ ⟨W.heap.size,rfl,hsW,setRow_heap _ _ _ _ _ _ (heap_alloc_new W _),(hS1.keep (hbW.trans (hb2.mono hsW)) tK)⟩
 case body =>
  rintro l a' W ⟨gk,rfl,hgk,hx,hS⟩;have x0:=hx.cell HK0.out;have p0:=hS.p.cell (k:=0) rfl;have x4:=hS.x.cell (k:=0) rfl;have f4:=frozen_of_row W _ 0 _ _ hS.x;have f3:=frozen_of_row W _ 0 _ _ hS.e;have e3:=hS.e.cell (k:=0) rfl;have hlk:=iM hx ku;have hlp:=hS.t.period HPS.out;have HLK:=aA hlk;have HLP:=aA hlp;have HS:=aA hS;have HX:=aA hx;clear hlk hlp hS hx hS1 hseq;dsimp only[Act.put];cases ct
  ·gi_wp2_with (first
    | (refine ng rfl 23 _ rfl ⟨gk,0,none⟩ (.agg KX) rfl HLK.out ?_)
    | (refine ng rfl 57 _ rfl ⟨w.heap.size+1,0,none⟩ (.agg PX) rfl HLP.out ?_)
    | (refine⟨trivial,rfl,?_⟩;refine (CallsIn.inRound l (callsIn_wide.2 (HC.out W))).mono ?_;rintro e w5 ⟨rfl,hb5⟩;have hS5:=HS.out.keep hb5 (by have:=HS.out.s;omega);have x5:=hS5.x.cell (k:=0) rfl;have f5:=frozen_of_row w5 _ 0 _ _ hS5.x))
   have hz5:=hb5.size;have hsW:=HS.out.s;refine⟨⟨by simpa using hz5,fun k h1 h2=>(heap_setCell_other _ _ _ _ ay).trans (hb5.block k h2)⟩,hS5.setx⟩
  ·gi_wp2_with (first
    | (refine ng rfl 23 _ rfl ⟨gk,0,none⟩ (.agg KX) rfl HLK.out ?_)
    | (refine ng rfl 57 _ rfl ⟨w.heap.size+1,0,none⟩ (.agg PX) rfl HLP.out ?_)
    | (refine⟨trivial,rfl,?_⟩;refine (CallsIn.inRound l (callsIn_wide.2 (HC.out W))).mono ?_;rintro e w5 ⟨rfl,hb5⟩;have hS5:=HS.out.keep hb5 (by have:=HS.out.s;omega);have HS5:=aA hS5;have hlk5:=iM (HX.out.keep hb5) ku;clear hS5)
    | (refine ng rfl 23 _ rfl ⟨gk,0,none⟩ (.agg KX) rfl hlk5 ?_)
    | (refine yw rfl 23 _ _ rfl (w.heap.size+2) KX rfl rfl _ (#[.int .i64 0,.int .i64 0,.string ⟨#[]⟩,.int .i64 0,.int .i64 0]:Array Value) HS5.out.r ku (by rw[HKS.out];rfl) HK1.out ?_;have hS6:=HS5.out.setr (KX:=KX);have e6:=hS6.e.cell (k:=0) rfl;have f6:=frozen_of_row _ _ 0 _ _ hS6.e;have HS6:=aA hS6;clear hS6))
   have hz5:=hb5.size;have hsW:=HS.out.s;exact⟨⟨by simpa using hz5,fun k h1 h2=>(heap_setCell_other _ _ _ _ ay).trans ((setRow_other _ _ _ _ aB).trans (hb5.block k h2))⟩,HS6.out.sete⟩
 case done =>
  rintro D W hD ⟨rfl,hi⟩ hK;have HI:=aA hi;clear hS1 hseq hi;go_upto_region 8 with fail
  rename_i Kx hKx;have hx:=HI.out;obtain⟨r0,r1,r2,r3,r4⟩:W.cell? ⟨w.heap.size+1+1,0,none⟩=some (.int .i64 0)/\W.cell? ⟨w.heap.size+1+1,1,none⟩=some (.int .i64 0)/\W.cell? ⟨w.heap.size+1+1,2,none⟩=some (.string ⟨#[]⟩)/\W.cell? ⟨w.heap.size+1+1,3,none⟩=some (.int .i64 0)/\W.cell? ⟨w.heap.size+1+1,4,none⟩=some (.int .i64 0):=⟨hx.r.cell rfl,hx.r.cell rfl,hx.r.cell rfl,hx.r.cell rfl,hx.r.cell rfl⟩;have f0:=frozen_of_row W (w.heap.size+1+1) 0 _ _ hx.r;have f1:=frozen_of_row W (w.heap.size+1+1) 1 _ _ hx.r;have f2:=frozen_of_row W (w.heap.size+1+1) 2 _ _ hx.r;have f3:=frozen_of_row W (w.heap.size+1+1) 3 _ _ hx.r;have f4:=frozen_of_row W (w.heap.size+1+1) 4 _ _ hx.r;have g3:=frozen_of_row W (w.heap.size+1+1+1) 0 _ _ hx.e;have e3:W.cell? ⟨w.heap.size+1+1+1,0,none⟩=some (.int .i64 0):=hx.e.cell rfl;have x4:W.cell? ⟨w.heap.size+1+1+1+1,0,none⟩=some (.int .i64 9):=hx.x.cell rfl;clear hx;refine wp_region_noPanic ?_;go_region_law fail;all_goals
   (try go_wp2);refine hKx _ _ ?_;go_wp2;obtain⟨hs9,hk9⟩:=HI.out.fin (D:=D) tK hK 9;refine⟨aH,.inl ⟨_,_,rfl,run_takeDeferred hk9,?_⟩⟩;refine⟨.tuple #[.agg (#[.int .i64 0,.int .i64 0,.string ⟨#[]⟩,.int .i64 0,.int .i64 0]:Array Value),.int .i64 9],hs9.end1 rfl tK rfl rfl,?_⟩;rw[HRR.out];exact⟨rfl,hs9.end2 tK⟩
 case stop =>
  rintro D W hD ⟨rfl,hi⟩ hK;clear hS1 hseq
  gi_wp2
  refine⟨aH,.inl ⟨_,_,rfl,run_takeDeferred hK,?_⟩⟩;refine⟨.tuple #[.agg KX,.int .i64 0],hi.end1 HKS.out tK rfl rfl,?_⟩;rw[HRR.out];exact⟨rfl,hi.end2 tK⟩
theorem jB(d:Nat)(a:Int)(h:(Lit.int .u8 a).wf=true):prog.keyLits (d+1) 5 [.int .u8 a]=some [.int .u8 a]:=by
 unfold Program.keyLits;rw[underlying5];show (if IntKind.u8=IntKind.u8/\(Lit.int .u8 a).wf=true then some [Lit.int .u8 a] else none)=_;rw[if_pos ⟨rfl,h⟩]
theorem Nk(x:Nat)(h:x<256):(Lit.int .u8 (x:Int)).wf=true:=by
 have:∀ n:Nat,n<256->(Lit.int .u8 (n:Int)).wf=true:=aK;exact this x h
theorem Nl{s z:List Nat}(h:b8 s=b8 z):s=z:=by
 unfold b8 at h;induction s generalizing z with
 | nil=>cases z with
  | nil=>rfl
  | cons b z=>simp at h
 | cons a s ih =>
  cases z with
  | nil=>simp at h
  | cons b z =>
   simp only[List.map_cons,List.cons.injEq]at h;obtain⟨h1,h2⟩:=h;injection h1 with _ h1
   rw[ih h2,Int.ofNat.inj h1]
theorem YX(d:Nat)(a0 a1 a2 a3 a4 a5 a6 a7 a8 a9 a10 a11 a12 a13 a14 a15:Int)(h0:(Lit.int .u8 a0).wf=true)(h1:(Lit.int .u8 a1).wf=true)(h2:(Lit.int .u8 a2).wf=true)(h3:(Lit.int .u8 a3).wf=true)(h4:(Lit.int .u8 a4).wf=true)(h5:(Lit.int .u8 a5).wf=true)(h6:(Lit.int .u8 a6).wf=true)(h7:(Lit.int .u8 a7).wf=true)(h8:(Lit.int .u8 a8).wf=true)(h9:(Lit.int .u8 a9).wf=true)(h10:(Lit.int .u8 a10).wf=true)(h11:(Lit.int .u8 a11).wf=true)(h12:(Lit.int .u8 a12).wf=true)(h13:(Lit.int .u8 a13).wf=true)(h14:(Lit.int .u8 a14).wf=true)(h15:(Lit.int .u8 a15).wf=true):prog.keyLits (d+1+1) 30 [.int .u8 a0,.int .u8 a1,.int .u8 a2,.int .u8 a3,.int .u8 a4,.int .u8 a5,.int .u8 a6,.int .u8 a7,.int .u8 a8,.int .u8 a9,.int .u8 a10,.int .u8 a11,.int .u8 a12,.int .u8 a13,.int .u8 a14,.int .u8 a15]=some [.int .u8 a0,.int .u8 a1,.int .u8 a2,.int .u8 a3,.int .u8 a4,.int .u8 a5,.int .u8 a6,.int .u8 a7,.int .u8 a8,.int .u8 a9,.int .u8 a10,.int .u8 a11,.int .u8 a12,.int .u8 a13,.int .u8 a14,.int .u8 a15]:=by
 unfold Program.keyLits;rw[underlying30];exact Np
theorem YY(a0 a1 a2 a3 a4 a5 a6 a7 a8 a9 a10 a11 a12 a13 a14 a15:Int)(h0:(Lit.int .u8 a0).wf=true)(h1:(Lit.int .u8 a1).wf=true)(h2:(Lit.int .u8 a2).wf=true)(h3:(Lit.int .u8 a3).wf=true)(h4:(Lit.int .u8 a4).wf=true)(h5:(Lit.int .u8 a5).wf=true)(h6:(Lit.int .u8 a6).wf=true)(h7:(Lit.int .u8 a7).wf=true)(h8:(Lit.int .u8 a8).wf=true)(h9:(Lit.int .u8 a9).wf=true)(h10:(Lit.int .u8 a10).wf=true)(h11:(Lit.int .u8 a11).wf=true)(h12:(Lit.int .u8 a12).wf=true)(h13:(Lit.int .u8 a13).wf=true)(h14:(Lit.int .u8 a14).wf=true)(h15:(Lit.int .u8 a15).wf=true):∃ l,Go.keyOf prog 30 (.agg #[.int .u8 a0,.int .u8 a1,.int .u8 a2,.int .u8 a3,.int .u8 a4,.int .u8 a5,.int .u8 a6,.int .u8 a7,.int .u8 a8,.int .u8 a9,.int .u8 a10,.int .u8 a11,.int .u8 a12,.int .u8 a13,.int .u8 a14,.int .u8 a15])=some l:=by
 have h:=YX (prog.types.size-1) a0 a1 a2 a3 a4 a5 a6 a7 a8 a9 a10 a11 a12 a13 a14 a15 h0 h1 h2 h3 h4 h5 h6 h7 h8 h9 h10 h11 h12 h13 h14 h15;unfold Go.keyOf;rw[underlying30];show ∃ l,(if (prog.keyType 30&&Value.formed prog 30 (.agg #[.int .u8 a0,.int .u8 a1,.int .u8 a2,.int .u8 a3,.int .u8 a4,.int .u8 a5,.int .u8 a6,.int .u8 a7,.int .u8 a8,.int .u8 a9,.int .u8 a10,.int .u8 a11,.int .u8 a12,.int .u8 a13,.int .u8 a14,.int .u8 a15]))=true then (prog.keyLits (prog.types.size+1) 30 [.int .u8 a0,.int .u8 a1,.int .u8 a2,.int .u8 a3,.int .u8 a4,.int .u8 a5,.int .u8 a6,.int .u8 a7,.int .u8 a8,.int .u8 a9,.int .u8 a10,.int .u8 a11,.int .u8 a12,.int .u8 a13,.int .u8 a14,.int .u8 a15]).map (fun ls=>Lit.string (keyBytes ls)) else none)=some l;exact Nq
theorem Nr(s:List Nat)(h:dm s):∃ l,keyOf prog 30 (.agg (b8 s).toArray)=some l:=by
 obtain⟨hl,hlt⟩:=h;have wf:∀ x∈s,(Lit.int .u8 (x:Int)).wf=true:=fun x hx=>by
  have:=hlt x hx;exact Nk x this
 match s,hl,wf with
 | a0 :: a1 :: a2 :: a3 :: a4 :: a5 :: a6 :: a7 :: a8 :: a9 :: a10 :: a11 :: a12 :: a13 :: a14 :: a15 :: [],_,wf =>
  exact YY a0 a1 a2 a3 a4 a5 a6 a7 a8 a9 a10 a11 a12 a13 a14 a15 (wf _ aH) (wf _ aH) (wf _ aH) (wf _ aH) (wf _ aH) (wf _ aH) (wf _ aH) (wf _ aH) (wf _ aH) (wf _ aH) (wf _ aH) (wf _ aH) (wf _ aH) (wf _ aH) (wf _ aH) (wf _ aH)
theorem DZ(s z:List Nat)(hs:dm s)(hz:dm z)(W:World):(Op.equalIn 10000 30 (.agg (b8 s).toArray) (.agg (b8 z).toArray)).run prog W=.ok (decide (s=z)) W:=by
 obtain⟨l,hl⟩:=Nr s hs;obtain⟨m,hm⟩:=Nr z hz;obtain⟨r,hr,hi⟩:=run_equal_deep (P:=prog) W (m:=3) aB (k:=30) aG (by rw[underlying30]) hl hm;have h2:(Op.equalIn 10000 30 (.agg (b8 s).toArray) (.agg (b8 z).toArray)).run prog W=.ok r W:=hr;rw[h2];congr 1;have key:r=true↔s=z:=by
  rw[hi];constructor
  ·intro e;subst e;have:=keyOf_inj_deep (P:=prog) (m:=3) (k:=30) aG (by rw[underlying30]) hl hm;injection this with this
   exact Nl wX
  ·rintro rfl;rw[hl]at hm;exact Option.some.inj hm
 exact Ns
theorem YZ(s z:List Nat)(hs:dm s)(hz:dm z)(W:World):(binOp .neq 30 (.agg (b8 s).toArray) (.agg (b8 z).toArray)).run prog W=.ok (.bool (!decide (s=z))) W:=by
 rw[run_neq_struct,DZ s z hs hz];rfl
theorem Ya(d:Nat)(a0 a1 a2 a3 a4 a5 a6 a7 a8 a9 a10 a11 a12 a13 a14 a15:Int)(h0:(Lit.int .u8 a0).wf=true)(h1:(Lit.int .u8 a1).wf=true)(h2:(Lit.int .u8 a2).wf=true)(h3:(Lit.int .u8 a3).wf=true)(h4:(Lit.int .u8 a4).wf=true)(h5:(Lit.int .u8 a5).wf=true)(h6:(Lit.int .u8 a6).wf=true)(h7:(Lit.int .u8 a7).wf=true)(h8:(Lit.int .u8 a8).wf=true)(h9:(Lit.int .u8 a9).wf=true)(h10:(Lit.int .u8 a10).wf=true)(h11:(Lit.int .u8 a11).wf=true)(h12:(Lit.int .u8 a12).wf=true)(h13:(Lit.int .u8 a13).wf=true)(h14:(Lit.int .u8 a14).wf=true)(h15:(Lit.int .u8 a15).wf=true):prog.keyLits (d+1+1) 51 [.int .u8 a0,.int .u8 a1,.int .u8 a2,.int .u8 a3,.int .u8 a4,.int .u8 a5,.int .u8 a6,.int .u8 a7,.int .u8 a8,.int .u8 a9,.int .u8 a10,.int .u8 a11,.int .u8 a12,.int .u8 a13,.int .u8 a14,.int .u8 a15]=some [.int .u8 a0,.int .u8 a1,.int .u8 a2,.int .u8 a3,.int .u8 a4,.int .u8 a5,.int .u8 a6,.int .u8 a7,.int .u8 a8,.int .u8 a9,.int .u8 a10,.int .u8 a11,.int .u8 a12,.int .u8 a13,.int .u8 a14,.int .u8 a15]:=by
 unfold Program.keyLits;rw[underlying51];exact Np
theorem Yb(a0 a1 a2 a3 a4 a5 a6 a7 a8 a9 a10 a11 a12 a13 a14 a15:Int)(h0:(Lit.int .u8 a0).wf=true)(h1:(Lit.int .u8 a1).wf=true)(h2:(Lit.int .u8 a2).wf=true)(h3:(Lit.int .u8 a3).wf=true)(h4:(Lit.int .u8 a4).wf=true)(h5:(Lit.int .u8 a5).wf=true)(h6:(Lit.int .u8 a6).wf=true)(h7:(Lit.int .u8 a7).wf=true)(h8:(Lit.int .u8 a8).wf=true)(h9:(Lit.int .u8 a9).wf=true)(h10:(Lit.int .u8 a10).wf=true)(h11:(Lit.int .u8 a11).wf=true)(h12:(Lit.int .u8 a12).wf=true)(h13:(Lit.int .u8 a13).wf=true)(h14:(Lit.int .u8 a14).wf=true)(h15:(Lit.int .u8 a15).wf=true):∃ l,Go.keyOf prog 51 (.agg #[.int .u8 a0,.int .u8 a1,.int .u8 a2,.int .u8 a3,.int .u8 a4,.int .u8 a5,.int .u8 a6,.int .u8 a7,.int .u8 a8,.int .u8 a9,.int .u8 a10,.int .u8 a11,.int .u8 a12,.int .u8 a13,.int .u8 a14,.int .u8 a15])=some l:=by
 have h:=Ya (prog.types.size-1) a0 a1 a2 a3 a4 a5 a6 a7 a8 a9 a10 a11 a12 a13 a14 a15 h0 h1 h2 h3 h4 h5 h6 h7 h8 h9 h10 h11 h12 h13 h14 h15;unfold Go.keyOf;rw[underlying51];show ∃ l,(if (prog.keyType 51&&Value.formed prog 51 (.agg #[.int .u8 a0,.int .u8 a1,.int .u8 a2,.int .u8 a3,.int .u8 a4,.int .u8 a5,.int .u8 a6,.int .u8 a7,.int .u8 a8,.int .u8 a9,.int .u8 a10,.int .u8 a11,.int .u8 a12,.int .u8 a13,.int .u8 a14,.int .u8 a15]))=true then (prog.keyLits (prog.types.size+1) 51 [.int .u8 a0,.int .u8 a1,.int .u8 a2,.int .u8 a3,.int .u8 a4,.int .u8 a5,.int .u8 a6,.int .u8 a7,.int .u8 a8,.int .u8 a9,.int .u8 a10,.int .u8 a11,.int .u8 a12,.int .u8 a13,.int .u8 a14,.int .u8 a15]).map (fun ls=>Lit.string (keyBytes ls)) else none)=some l;exact Nq
theorem Nu(s:List Nat)(h:dm s):∃ l,keyOf prog 51 (.agg (b8 s).toArray)=some l:=by
 obtain⟨hl,hlt⟩:=h;have wf:∀ x∈s,(Lit.int .u8 (x:Int)).wf=true:=fun x hx=>by
  have:=hlt x hx;exact Nk x this
 match s,hl,wf with
 | a0 :: a1 :: a2 :: a3 :: a4 :: a5 :: a6 :: a7 :: a8 :: a9 :: a10 :: a11 :: a12 :: a13 :: a14 :: a15 :: [],_,wf =>
  exact Yb a0 a1 a2 a3 a4 a5 a6 a7 a8 a9 a10 a11 a12 a13 a14 a15 (wf _ aH) (wf _ aH) (wf _ aH) (wf _ aH) (wf _ aH) (wf _ aH) (wf _ aH) (wf _ aH) (wf _ aH) (wf _ aH) (wf _ aH) (wf _ aH) (wf _ aH) (wf _ aH) (wf _ aH) (wf _ aH)
theorem Qa(s z:List Nat)(hs:dm s)(hz:dm z)(W:World):(Op.equalIn 10000 51 (.agg (b8 s).toArray) (.agg (b8 z).toArray)).run prog W=.ok (decide (s=z)) W:=by
 obtain⟨l,hl⟩:=Nu s hs;obtain⟨m,hm⟩:=Nu z hz;obtain⟨r,hr,hi⟩:=run_equal_deep (P:=prog) W (m:=3) aB (k:=51) aG (by rw[underlying51]) hl hm;have h2:(Op.equalIn 10000 51 (.agg (b8 s).toArray) (.agg (b8 z).toArray)).run prog W=.ok r W:=hr;rw[h2];congr 1;have key:r=true↔s=z:=by
  rw[hi];constructor
  ·intro e;subst e;have:=keyOf_inj_deep (P:=prog) (m:=3) (k:=51) aG (by rw[underlying51]) hl hm;injection this with this
   exact Nl wX
  ·rintro rfl;rw[hl]at hm;exact Option.some.inj hm
 exact Ns
attribute [local go_sem high] List.getD_cons_zero
theorem Yc(k:aj)(W:World):(Op.equalIn 10000 23 (.agg k.arr) (.agg k.arr)).run prog W=.ok true W:=by
 show (Op.equalIn 10000 23 (.agg #[.int .i64 k.party,.int .i64 k.ser,.string k.secret,.int .i64 k.fr,.int .i64 k.till]) (.agg #[.int .i64 k.party,.int .i64 k.ser,.string k.secret,.int .i64 k.fr,.int .i64 k.till])).run prog W=_;simp[go_sem]
theorem Yd(k:aj)(W:World):(binOp .neq 23 (.agg k.arr) (.agg k.arr)).run prog W=.ok (.bool false) W:=by
 rw[run_neq_struct,Yc];rfl
def Nv(a b c:aC):Value->World->Prop:=fun v W=>∃ g,v=.slice (some ⟨g,0,none⟩) 3 3/\aI W 1 (some ⟨g,0,none⟩) 3 ([a,b,c].map .string)
theorem Ye(a b c:aC):sV (Nv a b c):=fun _ _ _ ⟨g,e,hr⟩ hb=>⟨g,e,hr.keep hb⟩
theorem Yf(w:World)(a b c:aC)(g:Nat)(hg:g=w.heap.size):aI (w.alloc (.cells #[.string a,.string b,.string c] 9)) 1 (some ⟨g,0,none⟩) 3 ([a,b,c].map .string):=MC w 9 (.string a) (.string b) (.string c) g hg
structure IdS(w:World)(X Z:Array Value)(W:World):Prop where
 x:aQ W w.heap.size 32 X
 z:aQ W (w.heap.size+1) 51 Z
 b:aF w W
 s:w.heap.size+1<W.heap.size
theorem IdS.keep{w W W':World}{X Z:Array Value}(h:IdS w X Z W)(hb:aF W W'):IdS w X Z W':=⟨h.x.keep hb,h.z.keep hb,aV h.b hb,Nat.lt_of_lt_of_le h.s hb.size⟩
theorem Yg:(prog.info? 51).map (·.size)=some 16:=by kernel_rfl
theorem Nw(x:ah)(w:World)(hc:0<=x.t.cust/\x.t.cust<=9223372036854775807)(hs:0<=x.t.ser/\x.t.ser<=9223372036854775807)(hid:x.t.id.size<=1000000)(hl:dm x.t.sl)(hK:Ks w)(hT:Tab w):Calls prog 22 #[x.val] w (Ret w (.agg (b8 (jR x.t)).toArray)):=by
 have hO:=fun (g:Nat) (W:World) (hr:aI W 1 (some ⟨g,0,none⟩) 3 ([ai x.t.cust,ai x.t.ser,x.t.id].map .string)) (hb:aF w W)=>BP 25 aK (some ⟨g,0,none⟩) 3 3 [ai x.t.cust,ai x.t.ser,x.t.id] W hr aB (by
  intro s h;have h1:=sD x.t.cust aB aB;have h2:=sD x.t.ser aB aB;simp only[List.mem_cons,List.not_mem_nil,or_false]at h;rcases h with rfl | rfl | rfl
  ·omega
  ·omega
  ·exact hid) (hK.keep hb)
 have hD:=fun (W:World) (hb:aF w W)=>oq x.t.cust W aB aB (hT.keep hb)
 have hT:=fun (W:World) (hb:aF w W)=>oq x.t.ser W aB aB (hT.keep hb)
 have hDS:(b8 (Sha.ofD 25 ([ai x.t.cust,ai x.t.ser,x.t.id].map nb))).toArray.size=16:=by rw[List.size_toArray,dU];exact Bv _ _
 have hDO:(b8 (Sha.ofD 25 ([ai x.t.cust,ai x.t.ser,x.t.id].map nb))).toArray.all (·.oneCell')=true:=uo _;have hnx:Sha.ofD 25 ([ai x.t.cust,ai x.t.ser,x.t.id].map nb)=jR x.t:=rfl;rw[hnx]at hDS hDO hO;generalize (b8 (jR x.t)).toArray=DG at *;have hx0:x.cells.toArray[0]? = some (.int .i64 x.t.cust):=rfl;have hx1:x.cells.toArray[1]? = some (.int .i64 x.t.ser):=rfl;have hx2:x.cells.toArray[2]? = some (.string x.t.id):=rfl;unfold ah.val;generalize x.cells.toArray=X at *;generalize ai x.t.cust=sa at *;generalize ai x.t.ser=sb at *;generalize x.t.id=sc at *;generalize x.t.cust=na at *;generalize x.t.ser=nb at *;have HO:=aA hO;have HD:=aA hD;have HT:=aA hT;have HDS:=aA hDS;have HDO:=aA hDO;have HX0:=aA hx0;have HX1:=aA hx1;have HX2:=aA hx2;have HDI:=aA (show (prog.info? 51).map (·.size)=some DG.size by rw[hDS];exact Yg);clear hO hD hT hDS hDO hx0 hx1 hx2 hnx hK hl hc hs hid;go_enter func22,ntmps22;go_upto_region 1 with fail
 generalize hw0:World.alloc _ _=w0;obtain⟨ZS,hZS⟩:∃ ZS:Array Value,ZS=(b8 (List.replicate 16 0)).toArray:=⟨_,rfl⟩;have hS0:IdS w X ZS w0:=by
  rw[<-hw0,hZS];exact⟨(gQ w _ _).1,(gQ w _ _).2,aJ,aH⟩
 have HZS:=aA (show ZS.size=16 by rw[hZS];rfl);clear hw0 hZS;have HS0:=aA hS0;clear hS0;refine qm 10 aG aG aG (DL [IsV (.pointer (some ⟨w.heap.size,0,none⟩)),IsV (.int .i64 na),IsV (.string sa),IsV (.pointer (some ⟨w.heap.size,1,none⟩)),IsV (.int .i64 nb),IsV (.string sb),IsV (.pointer (some ⟨w.heap.size,2,none⟩)),IsV (.string sc),Nv sa sb sc,IsV (.agg DG)]) (DL.keep _ (by simp only[qp];repeat' (first | apply And.intro | exact vU _ | exact Ye _ _ _ | exact trivial))) (IdS w X ZS) (HS0.out.keep (Below.drew (Below.refl _ _))) (fun _ _ h hb=>h.keep hb) ?_ ?_
 ·dsimp only[List.take_succ_cons,List.take_zero,mf];refine⟨fun vals W hS hd=>?_,fun vals W hS hd=>?_,fun vals W hS hd=>?_,fun vals W hS hd=>?_,fun vals W hS hd=>?_,fun vals W hS hd=>?_,fun vals W hS hd=>?_,fun vals W hS hd=>?_,fun vals W hS hd=>?_,fun vals W hS hd=>?_,trivial⟩
  ·exact jh
  ·(try simp only[bQ,DL,IsV,bV,Region.binds,and_true,true_and]at hd);simp only[aZ,bH,Act.put];(try simp only[hd]);clear hd;have hcl:=hS.x.cell HX0.out;go_wp2;exact⟨rfl,rfl,rfl,aJ⟩
  ·(try simp only[bQ,DL,IsV,bV,Region.binds,and_true,true_and]at hd);simp only[aZ,bH,Act.put];(try simp only[hd]);clear hd;have hbW:=hS.b;go_wp2_with (go_at_call 57;refine (HD.out _ hbW).mono ?_;rintro e w5 ⟨rfl,hb5⟩);exact⟨rfl,rfl,rfl,aJ⟩
  ·exact jh
  ·(try simp only[bQ,DL,IsV,bV,Region.binds,and_true,true_and]at hd);simp only[aZ,bH,Act.put];(try simp only[hd]);clear hd;have hcl:=hS.x.cell HX1.out;go_wp2;exact⟨rfl,rfl,rfl,aJ⟩
  ·(try simp only[bQ,DL,IsV,bV,Region.binds,and_true,true_and]at hd);simp only[aZ,bH,Act.put];(try simp only[hd]);clear hd;have hbW:=hS.b;go_wp2_with (go_at_call 57;refine (HT.out _ hbW).mono ?_;rintro e w5 ⟨rfl,hb5⟩);exact⟨rfl,rfl,rfl,aJ⟩
  ·exact jh
  ·(try simp only[bQ,DL,IsV,bV,Region.binds,and_true,true_and]at hd);simp only[aZ,bH,Act.put];(try simp only[hd]);clear hd;have hcl:=hS.x.cell HX2.out;go_wp2;exact⟨rfl,rfl,rfl,aJ⟩
  ·exact yg
  ·exact MM
 ·intro vals w9 hS9 hD9;have e9:vals 9=.agg DG:=hD9 9 aB;simp only[aZ,bH,Act.put];simp only[e9];clear hD9 e9;refine wpList_store_row rfl 51 _ _ rfl (w.heap.size+1) DG rfl rfl _ ZS hS9.z HDI.out (by rw[HZS.out,HDS.out]) HDO.out ?_;go_wp2;refine bodyPost_ret (v:=.agg DG) ?_ rfl ⟨rfl,?_⟩
  ·exact results_cell_row rfl _ _ (w.heap.size+1) _ _ (0,0) _ rfl (setRow_heap _ _ _ _ _ _ hS9.z) underlying51 rfl HDI.out
  ·exact below_setRow hS9.b aB _
end Go.Proofs.YtlkbkclnbppigaaGreatDoor
