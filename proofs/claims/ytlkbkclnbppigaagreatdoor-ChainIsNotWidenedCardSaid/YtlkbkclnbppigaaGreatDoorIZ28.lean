/- slices.Contains of four truth values. -/
import Derived.Test.YtlkbkclnbppigaaGreatDoorIZ26
import Derived.Lib.AppendZeros
set_option maxHeartbeats 8000000
namespace Go.Proofs.YtlkbkclnbppigaaGreatDoor
open Tryz
open Go.RowKit Go.Sort
set_option linter.unusedVariables false
set_option linter.unusedSimpArgs false
set_option maxRecDepth 100000
def Wp(bs:List Bool)(w:World)(e:Ending)(w':World):Prop:=(∃ r:Int,e=.returned (.int .i64 r)/\decide (0<=r)=bs.contains false)/\w'=w
theorem Wq(g c n:Nat)(bs:List Bool)(w:World)(hl:bs.length=n)(hc:∀ j b,bs[j]? = some b->w.cell? ⟨g,0+j,none⟩=some (.bool b))(hn:n<=1000):Calls prog 176 #[.slice (some ⟨g,0,none⟩) n c,.bool false] w (Wp bs w):=by
 have HC:=aA hc;have HL:=aA hl;clear hc hl;go_enter func176,ntmps176;go_wp2;go_loop [8] (fun i=>∃ k:Nat,k<=n/\i=.int .i64 k/\Hid (∀ j,j<k->bs[j]? = some true)) (fun i=>n-(intOf i).toNat)
 case atStart=>exact⟨0,aB,rfl,aA (fun j h=>aB)⟩
 case round =>
  obtain⟨k,hk,rfl,HK⟩:=hrel;by_cases hlt:k<n
  ·obtain⟨b,hb⟩:∃ b,bs[k]? = some b:=⟨_,List.getElem?_eq_getElem gV⟩;have hc1:w.cell? ⟨g,k,none⟩=some (.bool b):=by have:=HC.out k b hb;rwa [Nat.zero_add]at this
   have HB:=aA hb;have hk0:(0:Int)<=(k:Int):=aB;have hk1:(k:Int)<(n:Int):=aB;clear hb;cases b
   ·go_wp2;go_ret;refine⟨⟨(k:Int),rfl,?_⟩,rfl⟩;have hm:false∈bs:=List.mem_of_getElem? HB.out;rw[decide_eq_true hk0];simpa using hm
   ·have HK2:Hid (∀ j,j<k+1->bs[j]? = some true):=aA (fun j h=>by
     rcases Nat.lt_or_ge j k with h1 | h1
     ·exact HK.out j h1
     ·obtain rfl:j=k:=aB;exact HB.out)
    clear HK HB;go_wp2;go_round
    case rel=>exact⟨k+1,aB,bg,HK2⟩
    case measure=>simp[intOf];omega
  ·obtain rfl:k=n:=aB;have hm:¬ false∈bs:=by
    intro h;obtain⟨j,hj⟩:=List.mem_iff_getElem?.1 h;have hjl:=(List.getElem?_eq_some_iff.1 hj).1;have:=HK.out j gV;rw[hj]at this;cases this
   have HM:=aA hm;clear hm HK;go_wp2;go_ret;refine⟨⟨-1,rfl,?_⟩,rfl⟩;have:=HM.out;simpa using this
theorem Ws(g c n:Nat)(bs:List Bool)(w:World)(hl:bs.length=n)(hc:∀ j b,bs[j]? = some b->w.cell? ⟨g,0+j,none⟩=some (.bool b))(hn:n<=1000):Calls prog 112 #[.slice (some ⟨g,0,none⟩) n c,.bool false] w fun e w'=>e=.returned (.bool (bs.contains false))/\w'=w:=by
 have HI:=aA (Wq g c n bs w hl hc hn);clear hc hl;go_enter func112,ntmps112;go_wp2_with (go_at_call 176;refine HI.out.mono ?_;rintro e w2 ⟨⟨r,rfl,hr⟩,rfl⟩;have HR:=aA hr;clear hr);go_ret;exact⟨fV HR.out,rfl⟩
def dP(w:World)(g:Nat)(b0 b1 b2 b3:Bool):Prop:=Blk w g 4 #[.bool b0,.bool b1,.bool b2,.bool b3] (0,0)
theorem dP.facts{w:World}{g:Nat}{b0 b1 b2 b3:Bool}(h:dP w g b0 b1 b2 b3):w.cell? ⟨g,0,none⟩=some (.bool b0)/\w.cell? ⟨g,1,none⟩=some (.bool b1)/\w.cell? ⟨g,2,none⟩=some (.bool b2)/\w.cell? ⟨g,3,none⟩=some (.bool b3):=⟨Blk.cell h 0,Blk.cell h 1,Blk.cell h 2,Blk.cell h 3⟩
theorem Wu(g c:Nat)(b0 b1 b2 b3:Bool)(w:World)(h:dP w g b0 b1 b2 b3):Calls prog 112 #[.slice (some ⟨g,0,none⟩) 4 c,.bool false] w fun e w'=>e=.returned (.bool (!(b0&&b1&&b2&&b3)))/\w'=w:=by
 have hv : [b0,b1,b2,b3].contains false = !(b0&&b1&&b2&&b3):=by cases b0 <;> cases b1 <;> cases b2 <;> cases b3 <;> rfl
 rw[<-hv];obtain⟨f0,f1,f2,f3⟩:=h.facts;refine Ws g c 4 [b0,b1,b2,b3] w rfl (fun j b hj=>?_) aB;rcases j with _ | _ | _ | _ | j
 ·simp at hj;subst hj;exact f0
 ·simp at hj;subst hj;exact f1
 ·simp at hj;subst hj;exact f2
 ·simp at hj;subst hj;exact f3
 ·simp at hj
theorem dP.s0{w:World}{g:Nat}{b0 b1 b2 b3:Bool}(h:dP w g b0 b1 b2 b3)(b:Bool):dP (w.setCell ⟨g,0,none⟩ (.bool b)) g b b1 b2 b3:=Blk.set_ h 0 (.bool b)
theorem dP.s1{w:World}{g:Nat}{b0 b1 b2 b3:Bool}(h:dP w g b0 b1 b2 b3)(b:Bool):dP (w.setCell ⟨g,1,none⟩ (.bool b)) g b0 b b2 b3:=Blk.set_ h 1 (.bool b)
theorem dP.s2{w:World}{g:Nat}{b0 b1 b2 b3:Bool}(h:dP w g b0 b1 b2 b3)(b:Bool):dP (w.setCell ⟨g,2,none⟩ (.bool b)) g b0 b1 b b3:=Blk.set_ h 2 (.bool b)
theorem dP.s3{w:World}{g:Nat}{b0 b1 b2 b3:Bool}(h:dP w g b0 b1 b2 b3)(b:Bool):dP (w.setCell ⟨g,3,none⟩ (.bool b)) g b0 b1 b2 b:=Blk.set_ h 3 (.bool b)
theorem dC{w:World}{A:Option Addr}{n:Nat}{vs:List Value}(h:aI w 1 A n vs)(p:Addr)(u:Value)(hne:0<n->∀ a,A=some a->a.block≠p.block):aI (w.setCell p u) 1 A n vs:=by
 refine⟨h.1,fun hn=>?_⟩;obtain⟨b,o,rfl,hc⟩:=h.2 hn;exact⟨b,o,rfl,fun j x hx=>(World.cell?_setCell_far w p ⟨b,o+j,none⟩ u (fun e=>hne hn _ rfl e.symm)).trans (hc j x hx)⟩
theorem Wv:(prog.info? 4).map (fun i=>(i.zero,i.size,i.bytes))=some (some (.bool false),1,1):=by kernel_rfl
theorem Wx(w:World):(Instr.makeSlice 136 (.int .i64 4) (.int .i64 4)).run prog w=.ok (.slice (some ⟨w.heap.size,0,none⟩) 4 4) (w.alloc (.cells #[.bool false,.bool false,.bool false,.bool false] 4)):=by
 obtain⟨i0,hi0,hz0,hz1,hz2⟩:=info_parts Wv;have:=run_makeSlice w 136 4 i0 (.bool false) underlying136 hi0 hz0 .i64 .i64 4 4 aB aB (by rw[hz1];decide) (by rw[hz2];decide) aB;have hm:madeCells (Value.bool false).cells (Int.toNat 4*1)=#[.bool false,.bool false,.bool false,.bool false]:=aG;rw[this,hz1,hm];rfl
theorem LG:(prog.info? 9).map (fun i=>(i.zero,i.size,i.bytes))=some (some (.string ⟨#[]⟩),1,16):=by kernel_rfl
theorem LH(n:Nat):(Builtin.zeroCells (Value.string ⟨#[]⟩).cells n).size=n:=by
 unfold Builtin.zeroCells;simp[Value.cells]
theorem Wy(n:Nat)(h0:0<n)(hn:n<=1000000)(w:World):Calls prog 272 #[.slice none 0 0,.int .i64 (n:Int)] w fun e w'=>∃ v,e=.returned v/\w'.ownsRow w.heap.size 9 1 v 0 []/\aF w w':=by
 obtain⟨i0,hi,hz0,hz1,hz2⟩:=info_parts LG;have hr:=fun ty=>Lib.run_append_nil_zeros (P:=prog) w 24 3 ty 9 i0 (.string ⟨#[]⟩) .i64 .i64 underlying24 underlying3 hi hz0 n h0 (by rw[hz1];decide) aB (by rw[hz2];omega)
 have hge:=grownCap_ge w n 0 9;have hle:=grownCap_le_maxLen w n 0 9 dh;have hcs:(Builtin.zeroCells (Value.string ⟨#[]⟩).cells n++Builtin.zeroCells (Value.string ⟨#[]⟩).cells (grownCap w n 0 9-n)).size=grownCap w n 0 9:=by
  rw[Array.size_append,LH,LH];omega
 generalize Builtin.zeroCells (Value.string ⟨#[]⟩).cells n++Builtin.zeroCells (Value.string ⟨#[]⟩).cells (grownCap w n 0 9-n)=Z at *;generalize grownCap w n 0 9=cap at *;have i1:¬ (n:Int)<0:=aB;have i2:(0:Int)<(n:Int):=aB;have HR:=aA hr;clear hr hi hz0 hz1 hz2;go_enter func272,ntmps272;go_wp2_with (at_builtin;refine Lib.wpList_append_run _ rfl _ _ _ _ rfl _ _ rfl rfl _ _ (HR.out _) ?_);go_ret;refine⟨_,rfl,⟨rfl,.inr ⟨w.heap.size,cap,Z,rfl,Nat.le_refl _,?_,Nat.zero_le _,hle,aB,aH⟩⟩,?_⟩
 ·exact World.alloc_heap_new _ _
 ·exact (Below.drew (Below.refl _ _)).alloc (Nat.le_refl _) _
theorem LJ{w:World}{b b2:Nat}{e:TypeId}{size:Nat}{v:Value}{n:Nat}{xs:List Value}(h:w.ownsRow b e size v n xs)(hb:b2<=b):w.ownsRow b2 e size v n xs:=by
 refine⟨h.1,?_⟩;rcases h.2 with h1 | ⟨g,cap,cur,h1,h2,h3⟩
 ·exact .inl h1
 ·exact .inr ⟨g,cap,cur,h1,Nat.le_trans hb h2,h3⟩
theorem XB(l:List aC):∀ u∈l.map Value.string,u.oneCell'=true:=by
 intro u hu;obtain⟨s,_,rfl⟩:=List.mem_map.1 hu;rfl
structure SlM where
 A:Option Addr
 c:Nat
 xs:List aC
def SlM.val(s:SlM):Value:=.slice s.A s.xs.length s.c
def gG(S:List SlM):Nat:=(S.map fun s=>s.xs.length).sum
def iw(S:List SlM):List aC:=S.flatMap (·.xs)
theorem LM{S:List SlM}{k:Nat}{s:SlM}(h:S[k]? = some s):gG (S.take (k+1))=gG (S.take k)+s.xs.length:=by
 unfold gG;rw[List.take_add_one,h,List.map_append,List.sum_append];simp
theorem XD{S:List SlM}{k:Nat}{s:SlM}(h:S[k]? = some s):iw (S.take (k+1))=iw (S.take k)++s.xs:=by
 unfold iw;rw[List.take_add_one,h,List.flatMap_append];simp
theorem XF(S:List SlM):(iw S).length=gG S:=by
 unfold iw gG;rw[List.length_flatMap]
theorem LQ(S:List SlM)(k:Nat):gG (S.take k)<=gG S:=by
 have:gG S=gG (S.take k)+gG (S.drop k):=by
  conv=>lhs;rw[<-List.take_append_drop k S]
  unfold gG;rw[List.map_append,List.sum_append]
 omega
theorem XG(A:Option Addr)(n c:Nat)(S:List SlM)(w:World)(hA:aI w 1 A n (S.map SlM.val))(hS:∀ s∈S,aI w 1 s.A s.xs.length (s.xs.map .string))(h0:0<gG S)(hl:gG S<=100000)(hn:n<=100000) :
  Calls prog 218 #[.slice A n c] w fun e w'=>∃ B d,e=.returned (.slice B (iw S).length d)/\w'.ownsRow w.heap.size 9 1 (.slice B (iw S).length d) (iw S).length ((iw S).map .string)/\aF w w':=by
 obtain⟨i0,hi,hz0,hz1,hz2⟩:=info_parts LG;have HI:=aA (And.intro hi (And.intro hz0 (And.intro hz1 hz2)));clear hi hz0 hz1 hz2;have hsl:S.length=n:=by have:=hA.1;simpa using this
 have hgr:=fun W=>Wy (gG S) h0 aB W
 have HA:=aA hA;have HS:=aA hS;have HSL:=aA hsl;have HG:=aA hgr;have HLS:=aA hl;clear hA hS hgr hsl hl;go_enter func218,ntmps218;go_wp2;go_loopw [11,3] (fun iv sv wr=>∃ k:Nat,k<=n/\iv=.int .i64 k/\sv=.int .i64 (gG (S.take k):Int)/\aF w wr) (fun iv _ _=>n-(intOf iv).toNat)
 case atStart=>exact⟨0,aB,rfl,rfl,Below.refl _ _⟩
 case round =>
  obtain⟨k,hk,rfl,rfl,hb⟩:=hrel;by_cases hlt:k<n
  ·obtain⟨s,hs⟩:∃ s,S[k]? = some s:=⟨_,List.getElem?_eq_getElem (by have:=HSL.out;omega)⟩;obtain⟨b,o,rfl,hcell⟩:=(HA.out.keep hb).2 aB;have c1:wr.cell? ⟨b,o+k,none⟩=some (.slice s.A s.xs.length s.c):=hcell k _ (by rw[List.getElem?_map,hs];rfl);have e1:=LM hs;have e2:=LQ S (k+1);have hls:=HLS.out;have hk0:(0:Int)<=(k:Int):=aB;have hk1:(k:Int)<(n:Int):=aB;obtain⟨m,hm⟩:∃ m,m=gG (S.take k):=⟨_,rfl⟩;obtain⟨q,hq⟩:∃ q,q=s.xs.length:=⟨_,rfl⟩;have hmq:gG (S.take (k+1))=m+q:=aB;have hle:m+q<=100000:=aB;have HMQ:=aA hmq;rw[<-hm];rw[<-hq]at c1;clear hcell hs e1 e2 hls hm hq hmq;have i1:¬ ((m:Int)+(q:Int)<0):=aB;go_wp2;exact⟨⟨k+1,aB,bg,by rw[HMQ.out];push_cast;rfl,hb⟩,dD⟩
  ·obtain rfl:k=n:=aB;have e:gG (S.take k)=gG S:=by rw[List.take_of_length_le (by rw[HSL.out];exact Nat.le_refl _)]
   rw[e];clear e;go_wp2_with (go_at_call 272;refine (HG.out _).mono ?_;rintro e w1 ⟨v1,rfl,hown1,hb1⟩);have hbw:=aV hb hb1;have hown2:w1.ownsRow w.heap.size 9 1 v1 0 []:=LJ hown1 hb.size;have hw1:=hbw.size;obtain⟨wo,rfl⟩:∃ wo:World,wo=wr:=⟨_,rfl⟩;clear hown1 hb1 hb HG h0;go_loopw [27,6] (fun iv pv wr=>∃(j:Nat)(B:Option Addr)(d:Nat),j<=k/\iv=.int .i64 j/\pv=.slice B (iw (S.take j)).length d/\wr.ownsRow w.heap.size 9 1 (.slice B (iw (S.take j)).length d) (iw (S.take j)).length ((iw (S.take j)).map .string)/\aF w wr) (fun iv _ _=>k-(intOf iv).toNat)
   case atStart =>
    obtain⟨B,d,rfl⟩:=Af hown2;exact⟨0,B,d,aB,rfl,rfl,hown2,hbw⟩
   case round =>
    obtain⟨j,B,d,hj,rfl,rfl,hown,hb⟩:=hrel;clear hown2 hbw;have hbs:=hb.size;by_cases hlt:j<k
    ·obtain⟨s,hs⟩:∃ s,S[j]? = some s:=⟨_,List.getElem?_eq_getElem (by have:=HSL.out;omega)⟩;obtain⟨b,o,rfl,hcell⟩:=(HA.out.keep hb).2 aB;have c1:wr.cell? ⟨b,o+j,none⟩=some (.slice s.A s.xs.length s.c):=hcell j _ (by rw[List.getElem?_map,hs];rfl);have hR:=(HS.out s (List.mem_of_getElem? hs)).keep hb;have e0:=XD hs;have e1:=LM hs;have e2:=LQ S (j+1);have e3:=XF (S.take j);have hls:=HLS.out;have hk0:(0:Int)<=(j:Int):=aB;have hk1:(j:Int)<(k:Int):=aB;obtain⟨acc,hacc⟩:∃ acc,acc=iw (S.take j):=⟨_,rfl⟩;obtain⟨ys,hys⟩:∃ ys,ys=s.xs:=⟨_,rfl⟩;rw[<-hacc]at hown e0 e3 ⊢;rw[<-hys]at c1 hR e0 e1;have hal:acc.length+ys.length<=100000:=aB;have HR:=aA hR;have HO:=aA hown;have HE:=aA e0;have HAL:=aA hal;clear hcell hs hR hown e0 e1 e2 e3 hls hacc hys hal;go_wp2_with (at_builtin;refine XH _ rfl _ _ 24 rfl w.heap.size 9 i0 (.string ⟨#[]⟩) 16 underlying24 HI.out.1 HI.out.2.1 HI.out.2.2.1 HI.out.2.2.2 rfl _ _ _ rfl HO.out s.A ys.length s.c (ys.map .string) rfl HR.out (XB _) (by have:=HAL.out;unfold maxLen;omega) (by have:=HAL.out;omega) hbs ?_;intro v3 w3 hown3 hg3;obtain⟨B3,d3,rfl⟩:=Af hown3);have hb3:Below w.heap.size wr w3:=Below.grown (Below.refl _ _) hg3 hbs (fun r e=>fE HO.out r e);refine⟨⟨j+1,B3,d3,aB,bg,?_,?_,hb.trans hb3⟩,dD⟩
     ·rw[HE.out,List.length_append]
     ·rw[HE.out,List.length_append,List.map_append];exact hown3
    ·obtain rfl:j=k:=aB;have e:S.take j=S:=List.take_of_length_le (by rw[HSL.out];exact Nat.le_refl _);rw[e]at hown ⊢;have HO:=aA hown;clear e hown;go_wp2;go_ret;exact⟨B,d,rfl,HO.out,hb⟩
structure vM(L:List aj):Prop where
 up:CZ L
 each:∀ x∈L,lQ x=true
theorem LU{k:aj}(h:lQ k=true):InK k.party/\InK k.ser:=by
 unfold lQ at h;unfold InK;simp only[decide_eq_true_eq]at h;omega
def yX(n s:Int)(L:List aj):Bool:=match L[gK n s L]? with
 | some x=>decide (gJ x n s=0)
 | none=>false
theorem XI(A:Option Addr)(n c:Nat)(L:List aj)(p s:Int)(w:World)(hA:lV w A n L)(hn:n<=100000)(hL:vM L)(hp:InK p)(hs:InK s) :
  Calls prog 124 #[.slice A n c,.int .i64 p,.int .i64 s] w (Ret w (.tuple #[.int .i64 (gK p s L:Int),.bool (yX p s L)])):=by
 have hb:aF w (w.alloc (.cells #[.int .i64 s] 3)):=aJ;have hcell:(w.alloc (.cells #[.int .i64 s] 3)).cell? ⟨w.heap.size,0,none⟩=some (.int .i64 s):=(cell_of_row _ _ 0 _ _ _ (World.alloc_heap_new w _)).trans rfl;have hm:gK p s L<=n:=LV;have hc:Calls prog 183 #[.slice A n c,.int .i64 p,.func (.func 184) #[] #[.pointer (some ⟨w.heap.size,0,none⟩)]] (w.alloc (.cells #[.int .i64 s] 3)) (Ret (w.alloc (.cells #[.int .i64 s] 3)) (.tuple #[.int .i64 (gK p s L:Int),.bool (yX p s L)])):=WI 184 (enters_of func184 aG rfl) (.pointer (some ⟨w.heap.size,0,none⟩)) (fun x=>gJ x p s) A n c L p (gK p s L) (w.alloc (.cells #[.int .i64 s] 3))
  (fun x hx W hb'=>WF x p s w.heap.size W (LU (hL.each x hx)).1 (LU (hL.each x hx)).2 hp hs (aW hb' hcell)) (hA.keep hb) hn (fun i x hi hx=>Jw hi hx) (fun i x hi hx=>Jy hL.up hi hx) hm
 have hmf:∀(fn:Fn)(first cap:Array Value)(w:World),(Instr.makeFunc fn first cap).run prog w=.ok (.func fn first cap) w:=fun _ _ _ _=>rfl
 generalize yX p s L=V at *;generalize gK p s L=m at *;have HC:=aA hc;clear hc hcell hA hL hp hs hm;go_enter func124,ntmps124;go_wp2_with (go_at_call 183;refine HC.out.mono ?_;rintro e w2 ⟨rfl,hb2⟩);go_ret2;exact⟨aH,aJ⟩
theorem kJ:(prog.info? 23).map (·.size)=some 5:=by kernel_rfl
theorem qi{fn:Func}{p u:Tmp}{ty:TypeId}(h:fn.results=#[.cell p ty,.tmp u])(tmps:Array Value)(w:World)(g:Nat)(cs:Array Value)(v:Value)
  (hp:tmps.getD p undef=.pointer (some ⟨g,0,none⟩)) (hu:tmps.getD u undef=v) (hl:(loadVar ty ⟨g,0,none⟩).run prog w=.ok (.agg cs) w) :
  (results fn tmps).run prog w=.ok (.tuple #[.agg cs,v]) w:=by
 rw[results_cell_tmp h,hp,hu];simp[asAddr,hl,Result.andThen]
theorem iM{w:World}{g:Nat}{X:Array Value}(hg:w.heap[g]? = some (.cells X 23 (0,0)))(hs:(prog.info? 23).map (·.size)=some X.size):(loadVar 23 ⟨g,0,none⟩).run prog w=.ok (.agg X) w :=
 run_loadVar_row (P:=prog) w g _ 23 X _ _ hg underlying23 rfl hs
def aj.arr(k:aj):Array Value:=k.cells.toArray
theorem aj.arr_size(k:aj):k.arr.size=5:=rfl
theorem aj.arr_one(k:aj):k.arr.all (·.oneCell')=true:=by unfold aj.arr;rw[List.all_toArray];rfl
theorem aj.val_arr(k:aj):k.val=.agg k.arr:=rfl
theorem XJ(A:Option Addr)(n c:Nat)(L:List aj)(p s:Int)(w:World)(hA:lV w A n L)(hn:n<=100000)(hL:vM L)(hp:InK p)(hs:InK s) :
  Calls prog 61 #[.slice A n c,.int .i64 p,.int .i64 s] w (Ret w (.tuple #[((kX L p s).getD sG).val,.int .i64 (if (kX L p s).isSome then 0 else 5)])):=by
 have hl:L.length=n:=hA.1;have hc:=fun W (hb:aF w W)=>XI A n c L p s W (hA.keep hb) hn hL hp hs
 have hf:=WH hL.up p s;unfold yX at hc;have hm:gK p s L<=n:=LV;have hno:∀ m:Nat,(∀ W,aF w W->Calls prog 124 #[.slice A n c,.int .i64 p,.int .i64 s] W (Ret W (.tuple #[.int .i64 (m:Int),.bool false])))->Calls prog 61 #[.slice A n c,.int .i64 p,.int .i64 s] w (Ret w (.tuple #[sG.val,.int .i64 5])):=by
  intro m hc;have HC:=aA hc;have hon:(sG.arr).all (·.oneCell')=true:=sG.arr_one;have HON:=aA hon;clear hon hc hf hm hA hL hp hs hl;go_enter func61,ntmps61;go_upto_region 1 with fail;generalize hw0:World.alloc _ _=w0;have hz:aQ w0 w.heap.size 23 (#[.int .i64 0,.int .i64 0,.string ⟨#[]⟩,.int .i64 0,.int .i64 0]:Array Value):=vN;have hb0:aF w w0:=yY;clear hw0
  go_wp2_with (first | (go_at_call 124;refine (HC.out _ hb0).mono ?_;rintro e w2 ⟨rfl,hb2⟩;have hz2:=aQ.keep hz hb2;have hbw:=aV hb0 hb2) | (refine wpList_store_row rfl _ _ _ rfl w.heap.size (#[.int .i64 0,.int .i64 0,.string ⟨#[]⟩,.int .i64 0,.int .i64 0]:Array Value) rfl rfl _ (#[.int .i64 0,.int .i64 0,.string ⟨#[]⟩,.int .i64 0,.int .i64 0]:Array Value) hz2 kJ rfl HON.out ?_));refine bodyPost_ret (v:=.tuple #[.agg (#[.int .i64 0,.int .i64 0,.string ⟨#[]⟩,.int .i64 0,.int .i64 0]:Array Value),.int .i64 5]) ?_ rfl ?_
  ·exact qi rfl _ _ w.heap.size _ _ rfl rfl (iM (setRow_heap _ _ _ _ _ _ hz2) kJ)
  ·exact⟨rfl,below_setRow hbw (Nat.le_refl _) _⟩
 generalize gK p s L=m at *;cases hx:L[m]? with
 | none =>
  rw[hx]at hf hc;have e:kX L p s=none:=hf;rw[e];exact hno m hc
 | some x =>
  rw[hx]at hf hc;by_cases h0:gJ x p s=0
  ·have e:kX L p s=some x:=by rw[hf];simp[h0]
   rw[e];have hc2:∀ W,aF w W->Calls prog 124 #[.slice A n c,.int .i64 p,.int .i64 s] W (Ret W (.tuple #[.int .i64 (m:Int),.bool true])):=fun W hb=>by have:=hc W hb;simpa[h0] using this
   obtain⟨b,o,rfl,hcell⟩:=hA.at_ hx;have hld:=fun W (hb:aF w W)=>Cb W b (o+m*5) x (fun j u hu=>aW hb (hcell j u hu))
   have hk1:(m:Int)<(n:Int):=by have:=(List.getElem?_eq_some_iff.1 hx).1;omega
   show Calls prog 61 _ w (Ret w (.tuple #[x.val,.int .i64 0]));rw[aj.val_arr]at hld ⊢;have HC:=aA hc2;have HLD:=aA hld;have HI:=aA (show (prog.info? 23).map (·.size)=some x.arr.size from kJ);have HSZ:=aA (show x.arr.size=(#[.int .i64 0,.int .i64 0,.string ⟨#[]⟩,.int .i64 0,.int .i64 0]:Array Value).size from rfl);have HON:=aA x.arr_one;generalize x.arr=X at *;clear hc2 hc hf hx e hA hL hp hs hcell hld h0 hno hl hm;go_enter func61,ntmps61;go_upto_region 1 with fail;generalize hw0:World.alloc _ _=w0;have hz:aQ w0 w.heap.size 23 (#[.int .i64 0,.int .i64 0,.string ⟨#[]⟩,.int .i64 0,.int .i64 0]:Array Value):=vN;have hb0:aF w w0:=yY;clear hw0
   go_wp2_with (first | (go_at_call 124;refine (HC.out _ hb0).mono ?_;rintro e w2 ⟨rfl,hb2⟩;have hz2:=aQ.keep hz hb2;have hbw:=aV hb0 hb2) | (refine bD rfl 23 _ rfl ⟨b,o+m*5,none⟩ (.agg X) rfl (HLD.out _ hbw) ?_) | (refine wpList_store_row rfl _ _ _ rfl w.heap.size X rfl rfl _ (#[.int .i64 0,.int .i64 0,.string ⟨#[]⟩,.int .i64 0,.int .i64 0]:Array Value) hz2 HI.out HSZ.out.symm HON.out ?_));refine bodyPost_ret (v:=.tuple #[.agg X,.int .i64 0]) ?_ rfl ?_
   ·exact qi rfl _ _ w.heap.size _ _ rfl rfl (iM (setRow_heap _ _ _ _ _ _ hz2) HI.out)
   ·exact⟨rfl,below_setRow hbw (Nat.le_refl _) _⟩
  ·have e:kX L p s=none:=by rw[hf];simp[h0]
   rw[e];exact hno m (fun W hb=>by have:=hc W hb;simpa[h0] using this)
theorem LX(n:Int)(w:World):Calls prog 46 #[.int .i64 n] w (Ret w (.bool (pM n))):=by
 obtain⟨V,hV⟩:∃ V,V=pM n:=⟨_,rfl⟩;rw[<-hV];unfold pM at hV;have HV:=aA hV;clear hV;by_cases h:1<=n
 ·exact LY
 ·exact LY
theorem XM(c:aY)(m:ae)(w:World)(hR:dA w c m)(hc:dE c)(hE:Env w):Calls prog 48 #[ae.val c m] w (Ret w (.bool (!bF c))):=by
 have hv:=fun W (hb:aF w W)=>qX c m W (hR.keep hb) hc.p hc.cl hc.co hc.n1 hc.n2 hc.n3 (hE.keep hb)
 generalize bF c=V at *;unfold ae.val at *;have HV:=aA hv;clear hv hR hc hE;go_enter func48,ntmps48;go_wp2_with (go_at_call 49;refine (HV.out _ aJ).mono ?_;rintro e w2 ⟨rfl,hb2⟩);go_ret;exact⟨rfl,aJ⟩
structure fQ(W:World)(g:Nat)(x:ah):Prop where
 box:aQ W g 32 x.cells.toArray
theorem fQ.keep{W W':World}{g:Nat}{x:ah}(h:fQ W g x)(hb:aF W W'):fQ W' g x:=⟨h.box.keep hb⟩
theorem fQ.cells{W:World}{g:Nat}{x:ah}(h:fQ W g x):W.cell? ⟨g,0,none⟩=some (.int .i64 x.t.cust)/\W.cell? ⟨g,1,none⟩=some (.int .i64 x.t.ser)/\W.cell? ⟨g,2,none⟩=some (.string x.t.id)/\W.cell? ⟨g,3,none⟩=some (.slice x.A x.t.conds.length x.c) :=
 ⟨h.box.cell (by rw[List.getElem?_toArray];rfl),h.box.cell (by rw[List.getElem?_toArray];rfl),h.box.cell (by rw[List.getElem?_toArray];rfl),h.box.cell (by rw[List.getElem?_toArray];rfl)⟩
theorem XP(W:World)(s:aC)(g:Nat)(hg:g=W.heap.size):aI (W.alloc (.cells #[.string s] 9)) 1 (some ⟨g,0,none⟩) 1 ([s].map .string):=by
 exact LZ
theorem yZ(x:ah)(w:World)(hR:bZ w x)(hf:∀ y∈x.L,dE y.c)(hid:x.t.id.size<=4294967281)(hn:x.t.conds.length<=1000000)(hE:Env w):Calls prog 14 #[x.val] w (Ret w (.bool (gX x.t))):=by
 have ht:=fun (W:World) (A:Option Addr) (h:aI W 1 A 1 ([x.t.id].map .string))=>Qu A 1 1 [x.t.id] W h aH (by intro p hp;rw[List.mem_singleton.1 hp];exact hid)
 unfold rG at ht;have hc:=fun (W:World) (hb:aF w W)=>J4 48 (enters_of func48 aG rfl) #[] (fun y=>!bF y.c) x.A x.t.conds.length x.c x.L W
  (fun y hy W' hb'=>XM y.c y.m W' ((hR.conds.each y hy).keep (aV hb hb')) (hf y hy) (hE.keep (aV hb hb'))) (hR.conds.keep hb) aB
 have hp1:=fun W=>LX x.t.cust W
 have hp2:=fun W=>LX x.t.ser W
 have hall:x.L.any (fun y=>!bF y.c) = !x.t.conds.all bF:=by
  rw[<-hR.same,List.all_map,List.not_all_eq_any_not];rfl
 simp only[hall]at hc;obtain⟨V,hV⟩:∃ V,V=gX x.t:=⟨_,rfl⟩;rw[<-hV];unfold gX Bo at hV;have HV:=aA hV;clear hV hall hR hf hid hE;unfold ah.val;generalize x.t.conds.all bF=va at *;generalize hln:x.t.conds.length=ln at *;have HLN:=aA hln;clear hln;cases h1:pM x.t.cust
 ·rw[h1]at hp1 HV;generalize oM [x.t.id]=r at ht;have HT:=aA ht;have HP1:=aA hp1;clear ht hp1 hp2 hc h1;exact sQ
 rw[h1]at hp1 HV;cases h2:pM x.t.ser
 ·rw[h2]at hp2 HV;generalize oM [x.t.id]=r at ht;have HT:=aA ht;have HP1:=aA hp1;have HP2:=aA hp2;clear ht hp1 hp2 hc h1 h2;exact sQ
 rw[h2]at hp2 HV;rw[U8]at ht;by_cases hnm:bU x.t.id=true;rotate_left
 ·rw[if_neg hnm]at ht;have hnf:bU x.t.id=false:=by simpa using hnm
  rw[hnf]at HV;have HT:=aA ht;have HP1:=aA hp1;have HP2:=aA hp2;clear ht hp1 hp2 hc h1 h2 hnm hnf;exact sQ
 rw[if_pos hnm]at ht;rw[hnm]at HV;have HT:=aA ht;have HP1:=aA hp1;have HP2:=aA hp2;have HC:=aA hc;clear ht hp1 hp2 hc h1 h2 hnm;by_cases l1:1<=ln
 ·by_cases l2:ln<=16
  ·have i1:(1:Int)<=(ln:Int):=aB;have i2:(ln:Int)<=16:=aB;rw[decide_eq_true ⟨l1,l2⟩]at HV;exact sQ
  ·have i1:(1:Int)<=(ln:Int):=aB;have i2:¬ (ln:Int)<=16:=aB;rw[decide_eq_false (fun h=>l2 h.2)]at HV;exact sQ
 ·have i1:¬ (1:Int)<=(ln:Int):=aB;rw[decide_eq_false (fun h=>l1 h.1)]at HV;exact sQ
def cIn(l:List Int):aY:=⟨0,1099511627777,⟨#[]⟩,[],[],l,0⟩
def cCo(l:List aC):aY:=⟨0,1099511627777,⟨#[]⟩,[],l,[],0⟩
def cA:aY:=⟨0,1099511627777,(⟨#[97,99,109,101,47,42,42]⟩:aC),[],[],[1,2],0⟩
def cT(a b:Int):aY:=⟨a,b,⟨#[]⟩,[],[],[],0⟩
theorem e1:bF cA=true:=by kernel_rfl
theorem e2:bF (cIn [1,2])=true:=by kernel_rfl
theorem e3:bF (cIn [2,3])=true:=by kernel_rfl
theorem e4:bF (cIn [3])=true:=by kernel_rfl
theorem e5:bF (cCo [(⟨#[100,101]⟩:aC),(⟨#[102,114]⟩:aC)])=true:=by kernel_rfl
theorem e6:bF (cCo [(⟨#[100,101]⟩:aC)])=true:=by kernel_rfl
theorem e7:bF (cIn [])=true:=by kernel_rfl
theorem e8:bF (cIn Bg)=true:=by kernel_rfl
theorem v1:bK cA=(⟨#[48,32,49,48,57,57,53,49,49,54,50,55,55,55,55,32,97,99,109,101,47,42,42,32,126,32,126,32,49,44,50,32,48]⟩:aC):=by kernel_rfl
theorem v2:iH (cIn [1,2]) (cIn [2,3])=cIn [2]:=by kernel_rfl
theorem v3:iH (cIn [1,2]) (cIn [3])=ed:=by kernel_rfl
theorem v4:JD (cCo [(⟨#[100,101]⟩:aC),(⟨#[102,114]⟩:aC)]) (cCo [(⟨#[100,101]⟩:aC)])=(false,⟨(⟨#[97]⟩:aC),(⟨#[97]⟩:aC),(⟨#[102,114]⟩:aC),0,0,0⟩):=by kernel_rfl
theorem v5:JD (cIn []) (cIn Bg)=(true,qY):=by kernel_rfl
theorem v6:Jo (cT 5 5)=(true,qY,0):=by kernel_rfl
theorem v7:Jo (cT 5 6)=(false,⟨(⟨#[97]⟩:aC),(⟨#[97]⟩:aC),(⟨#[97,97]⟩:aC),0,5,5⟩,0):=by kernel_rfl
theorem XQ:(prog.info? 3).map (fun i=>(i.zero,i.size,i.bytes))=some (some (.int .i64 0),1,8):=by kernel_rfl
theorem La{c:aY}(h:bF c=true)(hp:c.pat.size<=100000):dE c:=by
 have ok:=(mP c).1 h;refine⟨hp,fun x hx=>?_,fun x hx=>?_,?_,?_,?_⟩
 ·have:=rH (ok.cl x hx);omega
 ·have:=ok.co x hx;unfold iV at this;simp only[Bool.and_eq_true,decide_eq_true_eq]at this;omega
 ·have:=ok.clLen;omega
 ·have:=ok.coLen;omega
 ·have:=ok.siLen;omega
section
variable (W:World)
end
end Go.Proofs.YtlkbkclnbppigaaGreatDoor
