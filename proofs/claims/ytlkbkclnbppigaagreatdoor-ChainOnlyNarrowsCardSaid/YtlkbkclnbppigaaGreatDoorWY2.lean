/- slices.Values, and what the condition package's outside returns, of numbers. -/
import Derived.Test.YtlkbkclnbppigaaGreatDoorWY1
set_option maxHeartbeats 4000000
namespace Go.Proofs.YtlkbkclnbppigaaGreatDoor
open Tryz
open Go.RowKit Go.Sort
set_option linter.unusedVariables false
set_option linter.unusedSimpArgs false
set_option maxRecDepth 100000
attribute [local go_sem] Oper.semAt_some
theorem aNg(b:Nat)(A:Option Addr)(n c:Nat)(xs:List Int)(w:World)(h0:w.cell? ⟨b,0,none⟩=some (.slice A n c))(hA:aI w 1 A n (xs.map (.int .i64)))(hn:n<=1000000000) :
  oL prog 271 #[.pointer (some ⟨b,0,none⟩)] (xs.map (.int .i64)) (fun _ _=>False) 0 w.heap.size w:=by
 intro l J Jx W hW _ _ hY hJ0;have g0:=aW hW h0;have hlt:=yR hA;have hR:=hA.keep hW;have hl:xs.length=n:=jK;generalize w.heap.size=h at *;clear h0 hA hW w;refine callsIn_of_wp func271 rfl trivial ?_ rfl;simp only[ntmps271,List.size_toArray,List.length_cons,List.length_nil,Nat.reduceAdd,Nat.reduceSub,Array.replicate_succ,Array.replicate_zero,List.push_toArray,List.append_toArray,List.nil_append,List.cons_append];have HY:=aA hY;have HLT:=aA hlt;have HR0:=aA hR;have HL:=aA hl;clear hY hlt hR hl
 gi_wp2
 gi_loopw [7] (fun i wr=>∃ k:Nat,i=.int .i64 k/\k<=n/\Hid (aI wr 1 A n (xs.map (.int .i64)))/\J k wr) (fun i _=>n-(intOf i).toNat)
 case atStart=>exact⟨0,rfl,aB,HR0,hJ0⟩
 case round =>
  clear g0 hJ0 HR0;obtain⟨k,rfl,hk,HR,hJ⟩:=hrel;by_cases hkn:k<n
  ·obtain⟨x,hx⟩:∃ x,xs[k]? = some x:=⟨_,List.getElem?_eq_getElem gV⟩;have hxv:(xs.map (Value.int .i64))[k]? = some (.int .i64 x):=gB;obtain⟨fn,tmps,assign,body,hy,hRd⟩:=HY.out k _ wr hxv hJ;obtain⟨pb,po,rfl,hcell⟩:=HR.out.2 aB;have hc1:wr.cell? ⟨pb,po+k,none⟩=some (.int .i64 x):=hcell k _ hxv;have hk0:(0:Int)<=(k:Int):=aB;have hk1:(k:Int)<(n:Int):=aB;clear hcell hx hxv
   gi_wp2
   exact aIk
  ·obtain rfl:k=n:=aB;have hlen:k=(xs.map (Value.int .i64)).length:=by have:=HL.out;simp;omega
   have HLN:=aA hlen;clear hlen
   gi_wp2
   go_end0;exact⟨⟨_,rfl⟩,.inl (by rw[<-HLN.out];exact hJ)⟩
theorem aIs{xs:List Int}{k:Nat}{u:Value}(h:(xs.map (Value.int .i64))[k]? = some u):∃ x,xs[k]? = some x/\u=.int .i64 x:=by
 rw[List.getElem?_map,Option.map_eq_some_iff]at h;obtain⟨x,hx,rfl⟩:=h;exact⟨x,hx,rfl⟩
def aCs(r:Option Int):Value:=match r with
 | some x=>.tuple #[.int .i64 x,.bool true]
 | none=>.tuple #[.int .i64 0,.bool false]
def aFm(ys all:List Int)(B:Option Addr)(nb cb:Nat)(w:World)(hs:Nat)(k:Nat)(W:World):Prop :=
 (all.find? (fun x=>!bG ys x)=(all.drop k).find? (fun x=>!bG ys x))/\Boxed W w.heap.size 25 (.slice B nb cb)/\Boxed W (w.heap.size+1) 3 (.int .i64 0)/\Boxed W (w.heap.size+1+1) 4 (.bool false)/\aF w W/\hs<=W.heap.size
def aFn(ys all:List Int)(w:World)(hs:Nat)(c:Code)(W:World):Prop :=
 c=.ret/\∃ x,all.find? (fun x=>!bG ys x)=some x/\Boxed W (w.heap.size+1) 3 (.int .i64 x)/\Boxed W (w.heap.size+1+1) 4 (.bool true)/\aF w W/\hs<=W.heap.size
theorem aIt(ys all:List Int)(Bb:Option Addr)(nb cb:Nat)(w:World)(hs B:Nat)(hB:w.heap.size<=B):OwnFrom B (aFm ys all Bb nb cb w hs):=by
 rintro k W W' row ⟨h1,h2,h3,h4,h5,h6⟩ hg hr;have hr':=fun r e=>(hr r e).2
 exact⟨h1,boxed_own w.heap.size 25 (fun _:Unit=>.slice Bb nb cb) () W W' row h2 hg hr',boxed_own (w.heap.size+1) 3 (fun _:Unit=>.int .i64 0) () W W' row h3 hg hr',boxed_own (w.heap.size+1+1) 4 (fun _:Unit=>.bool false) () W W' row h4 hg hr',h5.grown hg h5.size (fun r e=>vY),Nat.le_trans h6 hg.size⟩
theorem aIu(ys all:List Int)(w:World)(hs B:Nat)(hB:w.heap.size<=B)(c:Code):OwnFrom B (fun (_:Unit)=>aFn ys all w hs c):=by
 rintro _ W W' row ⟨h0,x,h1,h2,h3,h4,h5⟩ hg hr;have hr':=fun r e=>(hr r e).2
 exact⟨h0,x,h1,boxed_own (w.heap.size+1) 3 (fun _:Unit=>.int .i64 x) () W W' row h2 hg hr',boxed_own (w.heap.size+1+1) 4 (fun _:Unit=>.bool true) () W W' row h3 hg hr',h4.grown hg h4.size (fun r e=>vY),Nat.le_trans h5 hg.size⟩
theorem aNh(A:Option Addr)(ca:Nat)(B:Option Addr)(nb cb:Nat)(ys all:List Int)(gf:Nat)(w:World)(eg:∀ args w,(callFunc gf args).run prog w=.ok (.enter gf args) w)
  (hseq:∀ h W,oL prog gf #[] (all.map (.int .i64)) (fun _ _=>False) 0 h W) (hB:aI w 1 B nb (ys.map (.int .i64))) (hnb:nb<=1000000000) :
  Calls prog 157 #[.slice A 0 ca,.slice B nb cb,.func (.func gf) #[] #[]] w (Ret w (aCs (all.find? fun x=>!bG ys x))):=by
 obtain⟨V,hV⟩:∃ V,V=aCs (all.find? fun x=>!bG ys x):=⟨_,rfl⟩;rw[<-hV];have HV:=aA hV;have HB:=aA hB;obtain⟨hs,hhs⟩:∃ hs,hs=w.heap.size+1+1+1:=⟨_,rfl⟩;have hq0:=hseq hs (((w.alloc (.cells #[.slice B nb cb] 25)).alloc (.cells #[.int .i64 0] 3)).alloc (.cells #[.bool false] 4));have hbw0:aF w (((w.alloc (.cells #[.slice B nb cb] 25)).alloc (.cells #[.int .i64 0] 3)).alloc (.cells #[.bool false] 4)):=aU (aU (aU (Below.refl _ _) _) _) _;have b1:=Boxed.new w 25 (.slice B nb cb);have b2:=Boxed.new (w.alloc (.cells #[.slice B nb cb] 25)) 3 (.int .i64 0);have b3':=Boxed.new ((w.alloc (.cells #[.slice B nb cb] 25)).alloc (.cells #[.int .i64 0] 3)) 4 (.bool false);simp only[World.size_alloc]at b2 b3';have b1':=(b1.alloc (.cells #[.int .i64 0] 3)).alloc (.cells #[.bool false] 4);have b2':=b2.alloc (.cells #[.bool false] 4);have hKI:hs<=(((w.alloc (.cells #[.slice B nb cb] 25)).alloc (.cells #[.int .i64 0] 3)).alloc (.cells #[.bool false] 4)).heap.size:=aP;have hhs2:w.heap.size+1+1+1<=hs:=aB;clear hV hB hseq hhs b1 b2;refine (callsIn_wide (n:=0)).1 ?_;refine callsIn_of_wp_marks func157 rfl trivial ?_ rfl;simp only[ntmps157,List.size_toArray,List.length_cons,List.length_nil,Nat.reduceAdd,Nat.reduceSub,Array.replicate_succ,Array.replicate_zero,List.push_toArray,List.append_toArray,List.nil_append,List.cons_append]
 gi_wp2
 refine wU (gf:=gf) (lb:=_) rfl eg hq0 (Below.refl _ _) hKI (aFm ys all B nb cb w hs) (aFn ys all w hs) (aIt ys all B nb cb w hs _ aP) (fun c=>aIu ys all w hs _ aP c) ⟨aH,b1',b2',b3',hbw0,hKI⟩ (fun _ _ _ _ h=>h.elim) (fun _ _ h=>h.elim) ?a1 ?assign ?body ?done ?stop
 case assign =>
  intro l x W K _ hK
  gi_wp2
  exact hK
 case body =>
  exact aIv
 case done =>
  rintro D W hD ⟨hr1,h2,h3,h4,hbw,hsz6⟩ hK;rw[List.length_map,List.drop_eq_nil_of_le (Nat.le_refl _),List.find?_nil]at hr1;have c3:=h3.cell;have f3:=h3.frozen;have c4:=h4.cell;have f4:=h4.frozen;have HR:=aA hr1;clear hr1
  gi_wp2
  exact aIw
 case stop =>
  rintro D c W hD ⟨rfl,x,hr1,h3,h4,hbw,hsz6⟩ hK;have hD':w.heap.size+1+1+1<=D:=aCi;have HR:=aA hr1;clear hr1
  gi_wp2
  exact aIx
theorem aNi(A:Option Addr)(n c:Nat)(w:World):Calls prog 217 #[.slice A n c] w fun e w'=>e=.returned (.func (.func 271) #[] #[.pointer (some ⟨w.heap.size,0,none⟩)])/\w'=w.alloc (.cells #[.slice A n c] 25):=by
 go_enter func217,ntmps217;go_wp2;go_ret;exact⟨rfl,rfl⟩
theorem aNj(A:Option Addr)(na ca:Nat)(B:Option Addr)(nb cb:Nat)(ys all:List Int)(fv:Value)(w:World)
  (hA:aI w 1 A na (all.map (.int .i64))) (hB:aI w 1 B nb (ys.map (.int .i64))) (hna0:0<na) (hna:na<=1000000000) (hnb:nb<=1000000000) :
  Calls prog 157 #[.slice A na ca,.slice B nb cb,fv] w (Ret w (aCs (all.find? fun x=>!bG ys x))):=by
 obtain⟨V,hV⟩:∃ V,V=aCs (all.find? fun x=>!bG ys x):=⟨_,rfl⟩;rw[<-hV];have HV:=aA hV;have HB:=aA hB;obtain⟨hs,hhs⟩:∃ hs,hs=w.heap.size+1+1+1+1:=⟨_,rfl⟩;have hbw0:aF w ((((w.alloc (.cells #[.slice B nb cb] 25)).alloc (.cells #[.int .i64 0] 3)).alloc (.cells #[.bool false] 4)).alloc (.cells #[.slice A na ca] 25)):=aU (aU (aU (aU (Below.refl _ _) _) _) _) _;obtain⟨lb,hlb⟩:∃ lb:Array Value,lb=#[.pointer (some ⟨w.heap.size+1+1+1,0,none⟩)]:=⟨_,rfl⟩;obtain⟨gf,hgf⟩:∃ gf:Nat,gf=271:=⟨_,rfl⟩;have eg:∀ args w,(callFunc gf args).run prog w=.ok (.enter gf args) w:=by rw[hgf];exact enters_of func271 aG rfl
 have b1:=Boxed.new w 25 (.slice B nb cb);have b2:=Boxed.new (w.alloc (.cells #[.slice B nb cb] 25)) 3 (.int .i64 0);have b3:=Boxed.new ((w.alloc (.cells #[.slice B nb cb] 25)).alloc (.cells #[.int .i64 0] 3)) 4 (.bool false);have b4:=Boxed.new (((w.alloc (.cells #[.slice B nb cb] 25)).alloc (.cells #[.int .i64 0] 3)).alloc (.cells #[.bool false] 4)) 25 (.slice A na ca);simp only[World.size_alloc]at b2 b3 b4;have hq0:=aNg (w.heap.size+1+1+1) A na ca all _ b4.cell (hA.keep hbw0) hna;rw[<-hlb,<-hgf]at hq0;have hv:=fun W=>aNi A na ca W
 rw[<-hgf]at hv;have HVA:=aA hv;have HLB:=aA hlb;have b1':=((b1.alloc (.cells #[.int .i64 0] 3)).alloc (.cells #[.bool false] 4)).alloc (.cells #[.slice A na ca] 25);have b2':=(b2.alloc (.cells #[.bool false] 4)).alloc (.cells #[.slice A na ca] 25);have b3':=b3.alloc (.cells #[.slice A na ca] 25);simp only[World.size_alloc]at hq0;rw[<-hhs]at hq0;have hKI:hs<=((((w.alloc (.cells #[.slice B nb cb] 25)).alloc (.cells #[.int .i64 0] 3)).alloc (.cells #[.bool false] 4)).alloc (.cells #[.slice A na ca] 25)).heap.size:=aP;have hhs2:w.heap.size+1+1+1<=hs:=aB;have e0:(0:Int)<(na:Int):=aB;clear hV hB hA hhs b1 b2 b3 b4 hv hgf;refine (callsIn_wide (n:=0)).1 ?_;refine callsIn_of_wp_marks func157 rfl trivial ?_ rfl;simp only[ntmps157,List.size_toArray,List.length_cons,List.length_nil,Nat.reduceAdd,Nat.reduceSub,Array.replicate_succ,Array.replicate_zero,List.push_toArray,List.append_toArray,List.nil_append,List.cons_append]
 gi_wp2_with (refine⟨trivial,rfl,?_⟩;gi_at_call 217;refine (callsIn_wide.2 (HVA.out _)).mono ?_;rintro e w' ⟨rfl,hw'⟩;rw[hw'];simp only[World.size_alloc];rw[<-HLB.out])
 refine wU (gf:=gf) (lb:=_) rfl eg hq0 (Below.refl _ _) hKI (aFm ys all B nb cb w hs) (aFn ys all w hs) (aIt ys all B nb cb w hs _ aP) (fun c=>aIu ys all w hs _ aP c) ⟨aH,b1',b2',b3',hbw0,hKI⟩ (fun _ _ _ _ h=>h.elim) (fun _ _ h=>h.elim) ?a1 ?assign ?body ?done ?stop
 case assign =>
  intro l x W K _ hK
  gi_wp2
  exact hK
 case body =>
  exact aIv
 case done =>
  rintro D W hD ⟨hr1,h2,h3,h4,hbw,hsz6⟩ hK;rw[List.length_map,List.drop_eq_nil_of_le (Nat.le_refl _),List.find?_nil]at hr1;have c3:=h3.cell;have f3:=h3.frozen;have c4:=h4.cell;have f4:=h4.frozen;have HR:=aA hr1;clear hr1
  gi_wp2
  exact aIw
 case stop =>
  rintro D c W hD ⟨rfl,x,hr1,h3,h4,hbw,hsz6⟩ hK;have hD':w.heap.size+1+1+1<=D:=aCi;have HR:=aA hr1;clear hr1
  gi_wp2
  exact aIx
attribute [local go_sem] Oper.semAt_some
theorem aNk(h:Nat)(w:World):oL prog 158 #[] (Bg.map (.int .i64)) (fun _ _=>False) 0 h w:=by
 intro l J Jx W hW _ _ hY hJ0;clear hW;refine callsIn_of_wp func158 rfl trivial ?_ rfl;simp only[ntmps158,List.size_toArray,List.length_cons,List.length_nil,Nat.reduceAdd,Nat.reduceSub,Array.replicate_succ,Array.replicate_zero,List.push_toArray,List.append_toArray,List.nil_append,List.cons_append];have HY:=aA hY;clear hY
 gi_wp2
 gi_loopw [3] (fun i wr=>∃ k:Nat,i=.int .i64 k/\k<=64/\J k wr) (fun i _=>64-(intOf i).toNat)
 case atStart=>exact⟨0,rfl,aB,hJ0⟩
 case round =>
  clear hJ0;obtain⟨k,rfl,hk,hJ⟩:=hrel;by_cases hkn:k<64
  ·have hxv:(Bg.map (Value.int .i64))[k]? = some (.int .i64 k):=by
    unfold Bg;exact aFo
   obtain⟨fn,tmps,assign,body,hy,hRd⟩:=HY.out k _ wr hxv hJ;clear hxv;have hk1:(k:Int)<64:=aB
   gi_wp2
   exact aFp
  ·obtain rfl:k=64:=aB
   gi_wp2
   go_end0;exact⟨⟨_,rfl⟩,.inl (by simpa[Bg] using hJ)⟩
def aIy(k:Nat):aC:=⟨#[99,UInt8.ofNat (48+k / 10),UInt8.ofNat (48+k % 10)]⟩
def aIz(k:Nat):aC:=⟨#[UInt8.ofNat (97+k / 26),UInt8.ofNat (97+k % 26)]⟩
theorem aDp(n:Nat)(h:n<256):((UInt8.ofNat n).toNat:Int)=(n:Int):=by
 have:(UInt8.ofNat n).toNat=n:=aP;rw[this]
theorem aNl(W:World)(k c:Nat)(hk:k<33)(g:Nat)(hg:g=W.heap.size)(a b:Int)(ha:a=48+(k:Int) / 10)(hb:b=48+(k:Int) % 10) :
  (convert 105 9 (.slice (some ⟨g,0,none⟩) 3 c)).run prog (W.alloc (.cells #[.int .u8 99,.int .u8 a,.int .u8 b] 5))=.ok (.string (aIy k)) (W.alloc (.cells #[.int .u8 99,.int .u8 a,.int .u8 b] 5)):=by
 subst hg;subst ha;subst hb;have hx:Blk (W.alloc (.cells #[.int .u8 99,.int .u8 (48+(k:Int) / 10),.int .u8 (48+(k:Int) % 10)] 5)) W.heap.size 5 #[.int .u8 99,.int .u8 (48+(k:Int) / 10),.int .u8 (48+(k:Int) % 10)] (0,0):=World.alloc_heap_new _ _;refine run_convert_bytes_back _ _ _ 5 ⟨W.heap.size,0,none⟩ c [99,UInt8.ofNat (48+k / 10),UInt8.ofNat (48+k % 10)] underlying105 underlying5 underlying9 (fun j hj=>?_);have e1:=aDp (48+k / 10) aB;have e2:=aDp (48+k % 10) aB;rw[show (⟨W.heap.size,0,none⟩:Addr).add j=⟨W.heap.size,0+j,none⟩ by unfold Addr.add;split <;> simp_all];rcases j with _ | _ | _ | j
 ·exact hx.cell 0
 ·have:=hx.cell 1;simp only[List.getElem_cons_succ,List.getElem_cons_zero];rw[e1];simp
 ·have:=hx.cell 2;simp only[List.getElem_cons_succ,List.getElem_cons_zero];rw[e2];simp
 ·simp at hj;omega
theorem aNm(W:World)(k c:Nat)(hk:k<676)(g:Nat)(hg:g=W.heap.size)(a b:Int)(ha:a=97+(k:Int) / 26)(hb:b=97+(k:Int) % 26) :
  (convert 105 9 (.slice (some ⟨g,0,none⟩) 2 c)).run prog (W.alloc (.cells #[.int .u8 a,.int .u8 b] 5))=.ok (.string (aIz k)) (W.alloc (.cells #[.int .u8 a,.int .u8 b] 5)):=by
 subst hg;subst ha;subst hb;have hx:Blk (W.alloc (.cells #[.int .u8 (97+(k:Int) / 26),.int .u8 (97+(k:Int) % 26)] 5)) W.heap.size 5 #[.int .u8 (97+(k:Int) / 26),.int .u8 (97+(k:Int) % 26)] (0,0):=World.alloc_heap_new _ _;refine run_convert_bytes_back _ _ _ 5 ⟨W.heap.size,0,none⟩ c [UInt8.ofNat (97+k / 26),UInt8.ofNat (97+k % 26)] underlying105 underlying5 underlying9 (fun j hj=>?_);have e1:=aDp (97+k / 26) aB;have e2:=aDp (97+k % 26) aB;rw[show (⟨W.heap.size,0,none⟩:Addr).add j=⟨W.heap.size,0+j,none⟩ by unfold Addr.add;split <;> simp_all];rcases j with _ | _ | j
 ·have:=hx.cell 0;simp only[List.getElem_cons_zero];rw[e1];simp
 ·have:=hx.cell 1;simp only[List.getElem_cons_succ,List.getElem_cons_zero];rw[e2];simp
 ·simp at hj;omega
theorem aNn(h:Nat)(w:World):oL prog 155 #[] (VG.map .string) (fun _ _=>False) 0 h w:=by
 intro l J Jx W hW hAb _ hY hJ0;refine callsIn_of_wp func155 rfl trivial ?_ rfl;simp only[ntmps155,List.size_toArray,List.length_cons,List.length_nil,Nat.reduceAdd,Nat.reduceSub,Array.replicate_succ,Array.replicate_zero,List.push_toArray,List.append_toArray,List.nil_append,List.cons_append];have HY:=aA hY;have HAB:=aA (fun k W1 o (hJ:J k W1)=>hAb k W1 (W1.alloc o) none hJ (World.grownBy_alloc W1 o none) (fun r e=>by cases e));clear hY hAb hW
 gi_wp2
 gi_loopw [3] (fun i wr=>∃ k:Nat,i=.int .i64 k/\k<=33/\J k wr) (fun i _=>33-(intOf i).toNat)
 case atStart=>exact⟨0,rfl,aB,hJ0⟩
 case round =>
  clear hJ0;obtain⟨k,rfl,hk,hJ⟩:=hrel;by_cases hkn:k<33
  ·have hxv:(VG.map Value.string)[k]? = some (.string (aIy k)):=by
    unfold VG;exact aFo
   have hcv:=fun c=>aNl wr k c hkn wr.heap.size rfl _ _ rfl rfl
   obtain⟨fn,tmps,assign,body,hy,hRd⟩:=HY.out k _ (wr.alloc (.cells #[.int .u8 99,.int .u8 (48+(k:Int) / 10),.int .u8 (48+(k:Int) % 10)] 5)) hxv (HAB.out k wr _ hJ);clear hxv;have hk1:(k:Int)<33:=aB;have b1:(k:Int) / 10<=3:=aB;have b2:0<=(k:Int) / 10:=aB;have b3:(k:Int) % 10<=9:=aB;have b4:0<=(k:Int) % 10:=aB
   gi_wp2
   exact aFp
  ·obtain rfl:k=33:=aB
   gi_wp2
   go_end0;exact⟨⟨_,rfl⟩,.inl (by simpa[VG] using hJ)⟩
theorem aNo(h:Nat)(w:World):oL prog 156 #[] (VH.map .string) (fun _ _=>False) 0 h w:=by
 intro l J Jx W hW hAb _ hY hJ0;refine callsIn_of_wp func156 rfl trivial ?_ rfl;simp only[ntmps156,List.size_toArray,List.length_cons,List.length_nil,Nat.reduceAdd,Nat.reduceSub,Array.replicate_succ,Array.replicate_zero,List.push_toArray,List.append_toArray,List.nil_append,List.cons_append];have HY:=aA hY;have HAB:=aA (fun k W1 o (hJ:J k W1)=>hAb k W1 (W1.alloc o) none hJ (World.grownBy_alloc W1 o none) (fun r e=>by cases e));clear hY hAb hW
 gi_wp2
 gi_loopw [3] (fun i wr=>∃ k:Nat,i=.int .i64 k/\k<=676/\J k wr) (fun i _=>676-(intOf i).toNat)
 case atStart=>exact⟨0,rfl,aB,hJ0⟩
 case round =>
  clear hJ0;obtain⟨k,rfl,hk,hJ⟩:=hrel;by_cases hkn:k<676
  ·have hxv:(VH.map Value.string)[k]? = some (.string (aIz k)):=by
    unfold VH;exact aFo
   have hcv:=fun c=>aNm wr k c hkn wr.heap.size rfl _ _ rfl rfl
   obtain⟨fn,tmps,assign,body,hy,hRd⟩:=HY.out k _ (wr.alloc (.cells #[.int .u8 (97+(k:Int) / 26),.int .u8 (97+(k:Int) % 26)] 5)) hxv (HAB.out k wr _ hJ);clear hxv;have hk1:(k:Int)<676:=aB;have b1:(k:Int) / 26<=25:=aB;have b2:0<=(k:Int) / 26:=aB;have b3:(k:Int) % 26<=25:=aB;have b4:0<=(k:Int) % 26:=aB
   gi_wp2
   exact aFp
  ·obtain rfl:k=676:=aB
   gi_wp2
   go_end0;exact⟨⟨_,rfl⟩,.inl (by simpa[VH] using hJ)⟩
theorem aJa{w:World}{b b':Nat}{e:TypeId}{size n:Nat}{v:Value}{xs:List Value}(h:w.ownsRow b e size v n xs)(hb:b'<=b):w.ownsRow b' e size v n xs:=by
 obtain⟨hl,h2⟩:=h;refine⟨hl,?_⟩;rcases h2 with h0 | ⟨g,cap,cur,hv,hg,r⟩
 ·exact .inl h0
 ·exact .inr ⟨g,cap,cur,hv,Nat.le_trans hb hg,r⟩
theorem aJb:∀(k:Nat)(xs ys:List bI)(a b:bI),xs[k]? = some a->ys[k]? = some b->(∀ j<k,∀ p q,xs[j]? = some p->ys[j]? = some q->fC p.kind p.text q.kind q.text=true)->fC a.kind a.text b.kind b.text=false ->
  Hu xs ys=some ((qN ys).set k (Hw b.kind b.text a.kind a.text))
 | _,[],ys,a,b,h,_,_,_=>nG
 | _,_ :: _,[],a,b,_,h,_,_=>nG
 | 0,x :: xs,y :: ys,a,b,h1,h2,_,h4=>by
  simp at h1 h2;subst h1;subst h2;rw[Hu,if_neg (by rw[h4];decide)];rfl
 | k+1,x :: xs,y :: ys,a,b,h1,h2,h3,h4=>by
  have:=h3 0 aB x y rfl rfl;rw[Hu,if_pos this,aJb k xs ys a b (by simpa using h1) (by simpa using h2) (fun j hj p q hp hq=>h3 (j+1) aB p q (by simpa using hp) (by simpa using hq)) h4];rfl
theorem aJc:∀(xs ys:List bI),Hu xs ys≠none->Hl xs ys=false
 | [],ys,h=>absurd rfl h
 | _ :: _,[],_=>rfl
 | a :: xs,b :: ys,h=>by
  rw[Hu]at h;rw[Hl];cases hc:fC a.kind a.text b.kind b.text
  ·rfl
  ·rw[hc]at h;simp only[if_true,ne_eq,Option.map_eq_none_iff]at h;rw[Bool.true_and];exact aJc xs ys h
theorem aJd:∀(xs ys:List bI),xs.length<=ys.length->(∀ j<xs.length,∀ p q,xs[j]? = some p->ys[j]? = some q->fC p.kind p.text q.kind q.text=true)->Hl xs ys=true
 | [],_,_,_=>rfl
 | _ :: _,[],h,_=>nG
 | a :: xs,b :: ys,h,h2=>by
  rw[Hl,h2 0 aH a b rfl rfl,Bool.true_and];exact aJd xs ys nD fun j hj p q hp hq=>h2 (j+1) lI p q (by simpa using hp) (by simpa using hq)
theorem aNp(p q:aC)(w:World)(hp:p.size<=100000)(hq:q.size<=100000)(hE:Env w):Calls prog 153 #[.string p,.string q] w (Ret w (I5 (dI p) (dI q))):=by
 have c1:=fun W h=>xU p W hp h
 have c2:=fun W h=>xU q W hq h
 have g1:=ul p hp;have g2:=ul q hq;generalize dI p=r1 at *;generalize dI q=r2 at *;have hbad:r1.isSome=false\/r2.isSome=false->Calls prog 153 #[.string p,.string q] w (Ret w (.tuple #[.bool false,.string ⟨#[]⟩,.int .i64 1])):=by
  intro hbad;have H1:=aA (fun W h=>(c1 W h).mono fun e w' k=>IG k);have H2:=aA (fun W h=>(c2 W h).mono fun e w' k=>IG k);clear c1 c2 g1 g2;generalize r1.isSome=o1 at *;generalize r2.isSome=o2 at *;clear r1 r2;cases o1
  ·exact aJe
  ·obtain rfl:o2=false:=by simpa using hbad
   exact aJe
 cases r1 with
 | none=>exact hbad (.inl rfl)
 | some x =>
  cases r2 with
  | none=>exact hbad (.inr rfl)
  | some y =>
   clear hbad;have gx:=g1 x rfl;have gyzz:=g2 y rfl;clear g1 g2;obtain⟨V,hV⟩:∃ V,V=I5 (some x) (some y):=⟨_,rfl⟩;rw[<-hV];unfold I5 BC Hy Ht at hV;obtain⟨⟨xk,xt⟩,xs,xl⟩:=x;obtain⟨⟨yk,yt⟩,ys,yl⟩:=y;obtain⟨gx1,gx2,gx3,gx4⟩:=gx;obtain⟨gy1,gy2,gy3,gy4⟩:=gyzz;dsimp only at *;have cW:=fun W=>aCn yk yt ⟨#[97]⟩ W aK aB gy1
   have cL:=fun A c W h=>aHc yk yt A ys.length c yl ys W h gy3 aB
   have cV:=fun W=>Lm xk yk xt yt W aB aB gx1 gy1
   have cO:=fun W=>aGh yk xk yt xt W aB aB gy1 gx1
   have hc0:=aCq (k:=yk) (b:=⟨#[97]⟩) gy2 (Nat.le_refl _);have hwo:(Hw yk yt xk xt).size<=200000:=by unfold Hw;split <;> exact aCq gy2 aK
   have hws:=aIi gy3;have hwl:(qN ys).length=ys.length:=by simp[qN]
   have cX1:=fun A c W h=>aEt (Hw yk yt xk xt) A ys.length c (qN ys) W h aB hwo hws
   have cX2:=fun A n c (zs:List aC) W h (hn:n<=40) hz=>aEt (nM yk yt ⟨#[97]⟩) A n c zs W h aB hc0 hz
   generalize hcc0:nM yk yt ⟨#[97]⟩=c0 at *;generalize hcov:fC xk xt yk yt=cv at *;generalize Hw yk yt xk xt=co at *;obtain⟨n,hn⟩:∃ n,n=xs.length:=⟨_,rfl⟩;obtain⟨m,hm⟩:∃ m,m=ys.length:=⟨_,rfl⟩;rw[<-hn]at gx4;rw[<-hm]at gy4 hwl;rw[<-hm]at cL cX1;rw[<-hn,<-hm]at hV;have HV:=aA hV;have H1:Hid (∀ W,Env W->Calls prog 147 #[.string p] W fun e w'=>aF W w'/\∃ A c,e=.returned (.tuple #[.agg #[.int .i64 xk,.string xt,.slice A n c,.bool xl],.bool true])/\aI w' 2 A n (eG xs)):=aA (fun W h=>by rw[hn];exact (c1 W h).mono aJf);have H2:Hid (∀ W,Env W->Calls prog 147 #[.string q] W fun e w'=>aF W w'/\∃ A c,e=.returned (.tuple #[.agg #[.int .i64 yk,.string yt,.slice A m c,.bool yl],.bool true])/\aI w' 2 A m (eG ys)):=aA (fun W h=>by rw[hm];exact (c2 W h).mono aJf);have HN:=aA hn;have HM:=aA hm;have HW:=aA cW;have HL:=aA cL;have HCV:=aA cV;have HO:=aA cO;have HX1:=aA cX1;have HX2:=aA cX2;have HGX:=aA gx3;have HGY:=aA gy3;have HWS:=aA hws;clear c1 c2 hn hm cW cL cV cO cX1 cX2 gx3 gy3 hV hws hcc0 hcov hwl hwo hc0;go_enter func153,ntmps153;go_upto_region 5 with (first | (go_at_call 147;refine (H1.out _ hE).mono ?_;rintro e w1 ⟨hb1,A1,d1,rfl,hR1⟩;have hE1:=Env.keep hE hb1;have HR1:=aA hR1;clear hE hR1) | (go_at_call 147;refine (H2.out _ (Env.keep hE1 (aU (Below.refl _ _) _))).mono ?_;rintro e w2 ⟨hb2,A2,d2,rfl,hR2⟩;have hX2:bJ w2 w1.heap.size xk xt (.slice A1 n d1) xl:=(hb2.block w1.heap.size aH).trans (World.alloc_heap_new _ _);have hz12:w1.heap.size<w2.heap.size:=Blk.lt hX2;have HR2:=aA hR2;have HR1':=aA (HR1.out.keep (dZ _ hb2));clear hE1 hR2 HR1))
   obtain⟨W2,hW2⟩:∃ W2,W2=w2.alloc (.cells #[.int .i64 yk,.string yt,.slice A2 m d2,.bool yl] 195):=⟨_,rfl⟩;have hY3:bJ W2 w2.heap.size yk yt (.slice A2 m d2) yl:=by rw[hW2];exact World.alloc_heap_new _ _
   have hb22:aF w2 W2:=by rw[hW2];exact aU (Below.refl _ _) _
   have hX3:bJ W2 w1.heap.size xk xt (.slice A1 n d1) xl:=Blk.keep hX2 hb22;have hR23:aI W2 2 A2 m (eG ys):=HR2.out.keep hb22;have hR13:aI W2 2 A1 n (eG xs):=HR1'.out.keep hb22;have hbw:aF w W2:=aV (aV hb1 (dZ _ hb2)) hb22;have hwW2:w.heap.size<=W2.heap.size:=hbw.size;have hqb0:0<m->∀ a,A2=some a->a.block<W2.heap.size:=fun h a ha=>by
    obtain⟨b,o,he,hc⟩:=hR23.2 h;have hl:0<(eG ys).length:=by have:=hR23.1;omega
    have:=hc 0 _ (List.getElem?_eq_getElem hl);rw[ha]at he;injection he with he;subst he
    exact bu (a:=⟨b,o+0,none⟩) this
   have HQB:=aA hqb0;clear hqb0;have HR23:=aA hR23;have HR13:=aA hR13;rw[<-hW2];have hz22:=Blk.lt hY3;have hz21:=Blk.lt hX3;have HX3:=aA hX3;have HY3:=aA hY3;clear hW2 HR2 HR1' hR23 hR13 hX2;obtain⟨x0,x1,x2,x3,_⟩:=hX3.facts;obtain⟨y0,y1,y2,y3,_⟩:=hY3.facts;clear hX3 hY3;go_cut [11,12] (fun s11 s12 wx=>s11=.string c0/\∃ A3 c3,s12=.slice A3 m c3/\wx.ownsRow W2.heap.size 9 1 (.slice A3 m c3) m ((qN ys).map .string)/\aF W2 wx)
   case first =>
    go_region_held3 (fun w'=>w'.cell? ⟨w2.heap.size,0,none⟩=some (.int .i64 yk)/\w'.cell? ⟨w2.heap.size,1,none⟩=some (.string yt)/\w'.cell? ⟨w2.heap.size,2,none⟩=some (.slice A2 m d2)/\w'.cell? ⟨w2.heap.size,3,none⟩=some (.bool yl)/\aF W2 w')
     (first | exact⟨y0,y1,y2,y3,Below.drew (Below.refl _ _)⟩ | (go_split_ands;exact⟨aW hb3 ‹_›,aW hb3 ‹_›,aW hb3 ‹_›,aW hb3 ‹_›,aV ‹_› hb3⟩) | (go_split_ands;exact⟨aW hb4 ‹_›,aW hb4 ‹_›,aW hb4 ‹_›,aW hb4 ‹_›,aV ‹_› hb4⟩))
     (first | (go_at_call 212;refine (HW.out _).mono ?_;rintro e w3 ⟨rfl,hb3⟩) | (go_at_call 213;go_split_ands;refine (HL.out _ _ _ (HR23.out.keep ‹_›)).mono ?_;rintro e w4 ⟨A3,c3,rfl,hown,hb4⟩))
    all_goals go_wp2_with fail
    all_goals go_meet
    all_goals refine⟨rfl,A3,c3,rfl,?_,jH⟩
    all_goals first | exact aJa hown (by have:=hb3.size;simpa using this) | exact fZ (aJa hown (Nat.le_refl _)) hb3
   case rest =>
    obtain⟨rfl,A3,c3,rfl,hown,hbc⟩:=hcut;clear HW HL x0 x1 x2 x3 y0 y1 y2 y3;have hXc:bJ wc w1.heap.size xk xt (.slice A1 n d1) xl:=Blk.keep HX3.out hbc;have hYc:bJ wc w2.heap.size yk yt (.slice A2 m d2) yl:=Blk.keep HY3.out hbc;obtain⟨x0,x1,x2,x3,_⟩:=hXc.facts;obtain⟨y0,y1,y2,y3,_⟩:=hYc.facts;have hzc1:=Blk.lt hXc;have hzc2:=Blk.lt hYc;have hbwc:aF w wc:=aV hbw hbc;have HRW:=aA (aI.of_own hown);have HOWN:=aA hown;have HXC:=aA hXc;have HYC:=aA hYc;clear hown hXc hYc HX3 HY3;cases cv
    ·have hVe:V=.tuple #[.bool false,.string (jI (co :: qN ys)),.int .i64 0]:=aAz;clear HV;subst hVe;generalize jI (co :: qN ys)=V2 at *;go_wp2_with (first | (go_at_call 214;refine (HCV.out _).mono ?_;rintro e w5 ⟨rfl,hb5⟩;obtain⟨hc5,hf5⟩:=bT hb5) | (go_at_call 216;refine (HO.out _).mono ?_;rintro e w6 ⟨rfl,hb6⟩) | (go_at_call 215;refine (HX1.out _ _ _ ((HRW.out.keep hb5).keep hb6)).mono ?_;rintro e w7 ⟨rfl,hb7⟩));go_ret3;exact⟨rfl,aJ⟩
    ·simp only[Bool.true_and,Bool.not_true,Bool.false_eq_true,if_false]at HV;go_upto_region 8 with (go_at_call 214;refine (HCV.out _).mono ?_;rintro e w5 ⟨rfl,hb5⟩;have hX5:bJ w5 w1.heap.size xk xt (.slice A1 n d1) xl:=Blk.keep HXC.out hb5;have hY5:bJ w5 w2.heap.size yk yt (.slice A2 m d2) yl:=Blk.keep HYC.out hb5;clear x0 x1 x2 x3 y0 y1 y2 y3;obtain⟨x0,x1,x2,x3,_⟩:=hX5.facts;obtain⟨y0,y1,y2,y3,_⟩:=hY5.facts)
     go_cut [13,14] (fun s13 s14 wx=>s13=.int .i64 n/\s14=.int .i64 m/\aF w5 wx)
     case first =>
      go_quiet (fail);go_wp2_with fail;go_meet;exact⟨rfl,rfl,aJ⟩
     case rest =>
      obtain⟨rfl,rfl,hbd⟩:=hcut;have hXd:bJ wc w1.heap.size xk xt (.slice A1 n d1) xl:=Blk.keep hX5 hbd;have hYd:bJ wc w2.heap.size yk yt (.slice A2 m d2) yl:=Blk.keep hY5 hbd;clear hX5 hY5 x0 x1 x2 x3 y0 y1 y2 y3;obtain⟨x0,x1,x2,x3,_⟩:=hXd.facts;obtain⟨y0,y1,y2,y3,_⟩:=hYd.facts;have hzd1:=Blk.lt hXd;have hzd2:=Blk.lt hYd;have hbwd:aF w wc:=aV (aV hbwc hb5) hbd;have hown:=fZ (fZ HOWN.out hb5) hbd;have HRD:=aA (aI.of_own hown);have HOD:=aA hown;have hs2:W2.heap.size<=wc.heap.size:=by have h1:=hbc.size;have h2:=hb5.size;have h3:=hbd.size;omega
      have hRx:aI wc 2 A1 n (eG xs):=((HR13.out.keep hbc).keep hb5).keep hbd;have hRy:aI wc 2 A2 m (eG ys):=((HR23.out.keep hbc).keep hb5).keep hbd;have HRX:=aA hRx;have HRY:=aA hRy;have HXD:=aA hXd;have HYD:=aA hYd;clear HXC HYC HRW HOWN hown hXd hYd hRx hRy HR13 HR23 hbw hbwc hb22 hbc hb5 hbd HCV HO HX1;have hw0:∀ x∈qN ys,x.size<=200000:=HWS.out;have HXE:=aA (fun A c W h=>HX2.out A m c (qN ys) W h aB hw0);clear hw0;by_cases hmn:m<n
      ·have hd:decide (m<n)=true:=decide_eq_true hmn;have hVe:V=.tuple #[.bool false,.string (jI (c0 :: qN ys)),.int .i64 0]:=by rw[HV.out,hd];simp
       exact aJg
      have hd:decide (m<n)=false:=decide_eq_false hmn;by_cases hnm:n<m/\xl=false
      ·obtain⟨hnm,rfl⟩:=hnm;have hd2:decide (n<m)=true:=decide_eq_true hnm;have hVe:V=.tuple #[.bool false,.string (jI (c0 :: qN ys)),.int .i64 0]:=by rw[HV.out,hd,hd2];simp
       exact aJg
      have hd3:(decide (n<m)&&!xl)=false:=by cases xl <;> simp at hnm ⊢;omega
      have hxx:¬ n<m\/(n<m/\xl=true):=by cases xl <;> simp at hnm ⊢ <;> omega
      have HXX:=aA hxx;have HD3:=aA hd3;clear hnm hd3 hxx;go_upto_if 57 with fail
      obtain⟨wd,hwd⟩:∃ wd:World,wd=wc:=⟨_,rfl⟩;go_cut [57] (fun c wx=>c=.bool false/\wx=wd)
      case first =>
       rcases HXX.out with h | ⟨h,e⟩
       ·have hd2:decide (n<m)=false:=decide_eq_false h;go_wp2_with fail;go_meet;exact⟨rfl,hwd.symm⟩
       ·subst e;have hd2:decide (n<m)=true:=decide_eq_true h;go_wp2_with fail;go_meet;exact⟨rfl,hwd.symm⟩
      case rest =>
       obtain⟨rfl,hcw⟩:=hcut;rw[hwd]at hcw;subst hcw;clear hwd wd;by_cases hcc:yl=true/\xl=false
       ·obtain⟨rfl,rfl⟩:=hcc;have hVe:V=.tuple #[.bool false,.string (jI (c0 :: (qN ys++[⟨#[97]⟩]))),.int .i64 0]:=by
         have h3:=HD3.out;rw[HV.out,hd,h3];simp
        clear HV;subst hVe;have hw1:∀ x∈qN ys++[(⟨#[97]⟩:aC)],x.size<=200000:=by
         intro x hx;rcases List.mem_append.1 hx with hx | hx
         ·exact HWS.out x hx
         ·rw[List.mem_singleton.1 hx];decide
        have HXF:=aA (fun A c W h=>HX2.out A (m+1) c (qN ys++[⟨#[97]⟩]) W h aB hw1);clear hw1 HXE HX2;generalize jI (c0 :: (qN ys++[⟨#[97]⟩]))=V2 at *;obtain⟨i0,hi0,hz0,hz1,hz2⟩:=info_parts rY;have HI:Hid ((prog.info? 9=some i0)/\i0.zero=some (.string ⟨#[]⟩)/\i0.size=1/\i0.bytes=16):=aA ⟨hi0,hz0,hz1,hz2⟩;clear hi0 hz0 hz1 hz2;go_wp2_with (first | (at_builtin;refine wpList_append_own _ rfl _ _ 24 rfl W2.heap.size 9 i0 (.string ⟨#[]⟩) 1 16 underlying24 HI.out.1 HI.out.2.1 HI.out.2.2.1 HI.out.2.2.2 rfl aK _ _ _ rfl (HOD.out.alloc _) ⟨wc.heap.size,0,none⟩ 1 1 [.string ⟨#[97]⟩] rfl rfl (cell_one_new _ _ _) jJ dh aB aP ?_;intro v' w8 hown' hgrow _;obtain⟨g',cap',rfl⟩:=ownsRow_succ hown';have hR8:aI w8 1 (some ⟨g',0,none⟩) (m+1) ((qN ys++[(⟨#[97]⟩:aC)]).map Value.string):=(by have hR9:=aI.of_own hown';rw[show (qN ys++[(⟨#[97]⟩:aC)]).map Value.string=(qN ys).map Value.string++[.string ⟨#[97]⟩] by simp];exact hR9)) | (go_at_call 215;refine (HXF.out _ _ _ hR8).mono ?_;rintro e w7 ⟨rfl,hb7⟩));go_ret3;have hb8:aF w w8:=(hbwd.alloc hbwd.size _).grown hgrow (by have:=hbwd.size;simp;omega) (fun r e=>Nat.le_trans hwW2 (fE HOD.out r e));exact⟨rfl,aJ⟩
       ·have hd4:(yl&&!xl)=false:=by cases yl <;> cases xl <;> simp at hcc ⊢
        have HCC:=aA hcc;have HD4:=aA hd4;clear hcc hd4;go_upto_region 12 with fail
        obtain⟨wd,hwd⟩:∃ wd:World,wd=wc:=⟨_,rfl⟩;go_cut [72] (fun c wx=>c=.bool false/\wx=wd)
        case first =>
         cases yl
         ·go_wp2_with fail;go_meet;exact⟨rfl,hwd.symm⟩
         ·cases xl
          ·exact absurd ⟨rfl,rfl⟩ HCC.out
          ·go_wp2_with fail;go_meet;exact⟨rfl,hwd.symm⟩
        case rest =>
         obtain⟨rfl,hcw⟩:=hcut;rw[hwd]at hcw;subst hcw;clear hwd wd;go_wp2_with fail;have hnm2:n<=m:=aB;have HV2:Hid (V=.tuple #[.bool (Hl xs ys),.string (if Hl xs ys=true then ⟨#[]⟩ else match Hu xs ys with | some ws=>jI (c0 :: ws) | none=>⟨#[]⟩),.int .i64 0]):=aA (by
          have h3:=HD3.out;have h4:=HD4.out;rw[HV.out,hd,h3,h4];simp;cases Hu xs ys <;> rfl)
         clear HV HCC HD3 HD4 HXX HXE;go_loopw [88] (fun vi wr=>∃ k:Nat,(vi=.int .i64 k/\k<=n)/\Hid (∀ j<k,∀ p q,xs[j]? = some p->ys[j]? = some q->fC p.kind p.text q.kind q.text=true)/\aF wc wr) (fun vi _=>n-(intOf vi).toNat)
         case atStart=>exact⟨0,⟨rfl,Nat.zero_le _⟩,aA (fun j hj=>absurd hj (Nat.not_lt_zero _)),Below.refl _ _⟩
         case round =>
          obtain⟨k,⟨rfl,hk⟩,HK,hbr⟩:=hrel;have hYr:bJ wr w2.heap.size yk yt (.slice A2 m d2) yl:=Blk.keep HYD.out hbr;have hzr:=Blk.lt hYr;clear x0 x1 x2 x3 y0 y1 y2 y3;obtain⟨y0,y1,y2,y3,_⟩:=hYr.facts;by_cases hkn:k<n
          ·obtain⟨a,ha⟩:∃ p,xs[k]? = some p:=⟨_,List.getElem?_eq_getElem o6⟩;obtain⟨b,hb⟩:∃ p,ys[k]? = some p:=⟨_,List.getElem?_eq_getElem (by have:=HM.out;omega)⟩;obtain⟨hak1,hak2⟩:=HGX.out a (List.mem_of_getElem? ha);obtain⟨hbk1,hbk2⟩:=HGY.out b (List.mem_of_getElem? hb);obtain⟨pb,po,rfl,hcell⟩:=(HRX.out.keep hbr).2 aB;obtain⟨qb,qo,rfl,hcell2⟩:=(HRY.out.keep hbr).2 aB;obtain⟨e1,e2⟩:=xY xs k a ha;obtain⟨e3,e4⟩:=xY ys k b hb;have hc1:wr.cell? ⟨pb,po+k*2,none⟩=_:=hcell _ _ e1;have hc2:wr.cell? ⟨pb,po+k*2+1,none⟩=_:=hcell _ _ e2;have hc3:wr.cell? ⟨qb,qo+k*2,none⟩=_:=hcell2 _ _ e3;have hc4:wr.cell? ⟨qb,qo+k*2+1,none⟩=_:=hcell2 _ _ e4;have hlast:∀ cvk,fC a.kind a.text b.kind b.text=cvk->(cvk=true->∀ j<k+1,∀ p q,xs[j]? = some p->ys[j]? = some q->fC p.kind p.text q.kind q.text=true)/\(cvk=false->Hu xs ys=some ((qN ys).set k (Hw b.kind b.text a.kind a.text))):=by
            intro cvk hcv;constructor
            ·rintro rfl j hj p q hp hq;by_cases e:j=k
             ·subst e;rw[ha]at hp;rw[hb]at hq;injection hp with hp;injection hq with hq;subst hp;subst hq
              exact hcv
             ·exact HK.out j aB p q hp hq
            ·rintro rfl;exact aJb k xs ys a b ha hb HK.out hcv
           have cV:=fun W=>Lm a.kind b.kind a.text b.text W aB aB hak1 hbk1
           have cO:=fun W=>aGh b.kind a.kind b.text a.text W aB aB hbk1 hak1
           have hwo:(Hw b.kind b.text a.kind a.text).size<=200000:=by unfold Hw;split <;> exact aCq hbk2 aK
           obtain⟨ak,at'⟩:=a;obtain⟨bk,bt⟩:=b;dsimp only at hc1 hc2 hc3 hc4 hlast cV cO hwo;have hl2:=hlast _ rfl;clear hlast HK;generalize fC ak at' bk bt=cvk at *;generalize Hw bk bt ak at'=wo at *;have HL2:=aA hl2;have HWO:=aA hwo;have HCV:=aA cV;have HOO:=aA cO;have hk0:(0:Int)<=(k:Int):=aB;have hkm:(k:Int)<(m:Int):=aB;clear ha hb hcell hcell2 e1 e2 e3 e4 hl2 cV cO hwo;have g1:(wr.alloc (.cells #[.int .i64 ak,.string at'] 192)).cell? ⟨wr.heap.size,0,none⟩=some (.int .i64 ak):=iD;have g2:(wr.alloc (.cells #[.int .i64 ak,.string at'] 192)).cell? ⟨wr.heap.size,1,none⟩=some (.string at'):=iD;have g3:(wr.alloc (.cells #[.int .i64 ak,.string at'] 192)).cell? ⟨w2.heap.size,2,none⟩=some (.slice (some ⟨qb,qo,none⟩) m d2):=aW (aU (Below.refl _ _) _) y2;have g4:(wr.alloc (.cells #[.int .i64 ak,.string at'] 192)).cell? ⟨qb,qo+k*2,none⟩=some (.int .i64 bk):=aW (aU (Below.refl _ _) _) hc3;have g5:(wr.alloc (.cells #[.int .i64 ak,.string at'] 192)).cell? ⟨qb,qo+k*2+1,none⟩=some (.string bt):=aW (aU (Below.refl _ _) _) hc4;go_wp2_with fail;have k1:=cell_regrown g1;have k2:=cell_regrown g2;have k3:=cell_regrown g3;have k4:=cell_regrown g4;have k5:=cell_regrown g5;cases cvk
           ·refine wp_region_quiet_below aG aG ?_;(repeat (any_goals (first | go_big_quiet_step ((first | exact jS HCV.out _ _)) | quiet_step ((first | exact jS HCV.out _ _)))));refine wpQuiet_nil ?_;intro _ hwq;obtain⟨⟨dq,osq⟩,hwq⟩:=hwq;subst hwq;have hb9:=below_regrown (wr.alloc (.cells #[.int .i64 ak,.string at'] 192)) dq osq;generalize grow (redrawn (wr.alloc (.cells #[.int .i64 ak,.string at'] 192)) dq) osq=w9 at *;have hT9:Blk w9 wr.heap.size 192 #[.int .i64 ak,.string at'] (0,0):=Blk.keep (World.alloc_heap_new wr (.cells #[.int .i64 ak,.string at'] 192)) hb9;have hwr9:aF wr w9:=dZ _ hb9;have hY9:bJ w9 w2.heap.size yk yt (.slice (some ⟨qb,qo,none⟩) m d2) yl:=Blk.keep hYr hwr9;have hown9:=fZ (fZ HOD.out hbr) hwr9;have hR9:=aI.of_own hown9;have hqlt:qb<W2.heap.size:=HQB.out aB _ rfl;obtain⟨g,cap,hv,hg,hh,hown9'⟩:∃ g cap,Value.slice A3 m c3=.slice (some ⟨g,0,none⟩) m cap/\W2.heap.size<=g/\∃ cur:Array Value,w9.heap[g]? = some (.cells cur 9):=by
             rcases hown9.2 with ⟨h,_⟩ | ⟨g,cap,cur,he,hb,hh,_⟩
             ·omega
             ·exact⟨g,cap,he,hb,cur,hh⟩
            injection hv with hv1 hv2 hv3
            subst hv1;have hB9:Blk w9 g 9 hh (0,0):=hown9';have hbw9:aF w w9:=aV (aV hbwd hbr) hwr9;obtain⟨u,hu⟩:∃ u,((qN ys).map Value.string)[k]? = some u:=⟨_,List.getElem?_eq_getElem (by have:=hR9.1;omega)⟩;obtain⟨b',o',he',hc'⟩:=hR9.2 aB;injection he' with he';injection he' with he1 he2 _;subst he1;subst he2
            have f6:w9.cell? ⟨g,k,none⟩=some u:=by have:=hc' k u hu;rwa [Nat.zero_add]at this
            have f7:w9.frozen? ⟨g,k,none⟩=false:=hB9.free0 k;have f1:w9.cell? ⟨wr.heap.size,0,none⟩=some (.int .i64 ak):=hT9.cell 0;have f2:w9.cell? ⟨wr.heap.size,1,none⟩=some (.string at'):=hT9.cell 1;have f3:w9.cell? ⟨w2.heap.size,2,none⟩=some (.slice (some ⟨qb,qo,none⟩) m d2):=hY9.facts.2.2.1;have f4:w9.cell? ⟨qb,qo+k*2,none⟩=some (.int .i64 bk):=aW hwr9 hc3;have f5:w9.cell? ⟨qb,qo+k*2+1,none⟩=some (.string bt):=aW hwr9 hc4;have hn1:g≠wr.heap.size:=by
             intro e;subst e;have h1:=(hwr9.block);have hX:=hT9;unfold Blk at hX hB9;rw[hX]at hB9;injection hB9 with hB9;injection hB9 with _ hB9 _
             exact absurd hB9 aK
            have hn2:g≠w2.heap.size:=aB;have hn3:g≠qb:=aB;have hbad2:=HL2.out.2 rfl;have hcf:Hl xs ys=false:=aJc xs ys (by rw[hbad2];simp);have hVe:V=.tuple #[.bool false,.string (jI (c0 :: (qN ys).set k wo)),.int .i64 0]:=by rw[HV2.out,hcf,hbad2];rfl
            have hz2:∀ x∈(qN ys).set k wo,x.size<=200000:=by
             intro x hx;rcases List.mem_or_eq_of_mem_set hx with hx | hx
             ·exact HWS.out x hx
             ·rw[hx];exact HWO.out
            have HXG:=aA (fun A c W h=>HX2.out A m c ((qN ys).set k wo) W h aB hz2);have HR9:=aA hR9;have hkm':k<m:=aB;have hset:((qN ys).map Value.string).set k (.string wo)=((qN ys).set k wo).map Value.string:=by simp[List.map_set]
            have HSET:=aA hset;clear hbad2 hcf HV2 HL2 hz2 HX2 hR9 hset hu hc' hown9 hown9' hB9 hT9 hY9 hYr y0 y1 y2 y3 g1 g2 g3 g4 g5 k1 k2 k3 k4 k5 hc1 hc2 hc3 hc4;subst hVe;go_upto_region 18 with fail
            go_region_held3 (fun w'=>w'.cell? ⟨wr.heap.size,0,none⟩=some (.int .i64 ak)/\w'.cell? ⟨wr.heap.size,1,none⟩=some (.string at')/\w'.cell? ⟨w2.heap.size,2,none⟩=some (.slice (some ⟨qb,qo,none⟩) m d2)/\w'.cell? ⟨qb,qo+k*2,none⟩=some (.int .i64 bk)/\w'.cell? ⟨qb,qo+k*2+1,none⟩=some (.string bt)/\w'.cell? ⟨g,k,none⟩=some (rd w' ⟨g,k,none⟩)/\w'.frozen? ⟨g,k,none⟩=false/\aF w w')
             (first | exact⟨f1,f2,f3,f4,f5,qE f6,f7,Below.drew hbw9⟩ | (go_split_ands;exact⟨aW hb5 ‹_›,aW hb5 ‹_›,aW hb5 ‹_›,aW hb5 ‹_›,aW hb5 ‹_›,uM hb5 ‹_›,dV hb5 (bu ‹_›) ‹_›,aV ‹_› hb5⟩) | (go_split_ands;refine⟨(World.cell?_setCell_other _ _ _ _ (by simp[hn1])).trans ‹_›,(World.cell?_setCell_other _ _ _ _ (by simp[hn1])).trans ‹_›,(World.cell?_setCell_other _ _ _ _ (by simp[hn2])).trans ‹_›,(World.cell?_setCell_other _ _ _ _ (by simp[hn3])).trans ‹_›,(World.cell?_setCell_other _ _ _ _ (by simp[hn3])).trans ‹_›,jm ‹_›,kN,Below.setCell ‹_› aP _⟩))
             ((go_at_call 216;refine (HOO.out _).mono ?_;rintro e w5 ⟨rfl,hb5⟩))
            have hb59:aF w9 w5:=by first | exact hb5 | exact F7 hb5
            have hRz:aI (w5.setCell ⟨g,k,none⟩ (.string wo)) 1 (some ⟨g,0,none⟩) m (((qN ys).set k wo).map Value.string):=by
             have h:=(HR9.out.keep hb59).put hkm' (.string wo);rw[Nat.zero_add,HSET.out]at h;exact h
            have hbz:aF w (w5.setCell ⟨g,k,none⟩ (.string wo)):=(aV hbw9 hb59).setCell aP _;go_wp2_with (go_at_call 215;refine (HXG.out _ _ _ hRz).mono ?_;rintro e w7 ⟨rfl,hb7⟩);go_ret3;exact⟨rfl,aJ⟩
           ·refine wp_region_quiet_below aG aG ?_;(repeat (any_goals (first | go_big_quiet_step ((first | exact jS HCV.out _ _)) | quiet_step ((first | exact jS HCV.out _ _)))));refine wpQuiet_nil ?_;intro _ hwq;obtain⟨⟨dq,osq⟩,hwq⟩:=hwq;subst hwq;have hb9:=below_regrown (wr.alloc (.cells #[.int .i64 ak,.string at'] 192)) dq osq;generalize grow (redrawn (wr.alloc (.cells #[.int .i64 ak,.string at'] 192)) dq) osq=w9 at *;go_wp2_with fail;exact⟨⟨k+1,⟨bg,aB⟩,aA (HL2.out.1 rfl),aV (aU hbr _) hb9⟩,dD⟩
          ·obtain rfl:k=n:=aB;have hall:Hl xs ys=true:=aJd xs ys (by have h1:=HN.out;have h2:=HM.out;omega) (by rw[<-HN.out];exact HK.out);have hVe:V=.tuple #[.bool true,.string ⟨#[]⟩,.int .i64 0]:=by rw[HV2.out,hall];rfl
           clear HV2 HK hall;subst hVe;go_wp2_with fail;go_ret3;exact⟨rfl,aJ⟩
end Go.Proofs.YtlkbkclnbppigaaGreatDoor
