/- slices.Contains of four truth values. -/
import Derived.Test.YtlkbkclnbppigaaGreatDoorIZ28
import Derived.Lib.AppendZeros
set_option maxHeartbeats 8000000
namespace Go.Proofs.YtlkbkclnbppigaaGreatDoor
open Go.RowKit Go.Sort
set_option linter.unusedVariables false
set_option linter.unusedSimpArgs false
set_option maxRecDepth 100000
def IdxPost (bs:List Bool) (w:World) (e:Ending) (w':World):Prop:=(∃ r:Int,e=.returned (.int .i64 r)∧decide (0≤r)=bs.contains false)∧w'=w
theorem indexB_any (g c n:Nat) (bs:List Bool) (w:World) (hl:bs.length=n) (hc:∀ j b,bs[j]? = some b→w.cell? ⟨g,0+j,none⟩=some (.bool b)) (hn:n≤1000):Calls Tryz.prog 176 #[.slice (some ⟨g,0,none⟩) n c,.bool false] w (IdxPost bs w):=by
 have HC:=Lib.hid hc
 have HL:=Lib.hid hl
 clear hc hl
 go_enter Tryz.func176,Tryz.ntmps176
 go_wp2
 go_loop [8] (fun i=>∃ k:Nat,k≤n∧i=.int .i64 k∧Hid (∀ j,j<k→bs[j]? = some true)) (fun i=>n-(intOf i).toNat)
 case atStart=>exact⟨0,by omega,rfl,Lib.hid (fun j h=>by omega)⟩
 case round =>
  obtain⟨k,hk,rfl,HK⟩:=hrel
  by_cases hlt:k<n
  ·obtain⟨b,hb⟩:∃ b,bs[k]? = some b:=⟨_,List.getElem?_eq_getElem (by have:=HL.out;omega)⟩
   have hc1:w.cell? ⟨g,k,none⟩=some (.bool b):=by have:=HC.out k b hb;rwa [Nat.zero_add]at this
   have HB:=Lib.hid hb
   have hk0:(0:Int)≤(k:Int):=by omega
   have hk1:(k:Int)<(n:Int):=by omega
   clear hb
   cases b
   ·go_wp2
    go_ret
    refine⟨⟨(k:Int),rfl,?_⟩,rfl⟩
    have hm:false∈bs:=List.mem_of_getElem? HB.out
    rw[decide_eq_true hk0]
    simpa using hm
   ·have HK2:Hid (∀ j,j<k+1→bs[j]? = some true):=Lib.hid (fun j h=>by
     rcases Nat.lt_or_ge j k with h1 | h1
     ·exact HK.out j h1
     ·obtain rfl:j=k:=by omega
      exact HB.out)
    clear HK HB
    go_wp2
    go_round
    case rel=>exact⟨k+1,by omega,by go_num,HK2⟩
    case measure=>simp[intOf];omega
  ·obtain rfl:k=n:=by omega
   have hm:¬ false∈bs:=by
    intro h
    obtain⟨j,hj⟩:=List.mem_iff_getElem?.1 h
    have hjl:=(List.getElem?_eq_some_iff.1 hj).1
    have:=HK.out j (by have:=HL.out;omega)
    rw[hj]at this
    cases this
   have HM:=Lib.hid hm
   clear hm HK
   go_wp2
   go_ret
   refine⟨⟨-1,rfl,?_⟩,rfl⟩
   have:=HM.out
   simpa using this
theorem containsB_any (g c n:Nat) (bs:List Bool) (w:World) (hl:bs.length=n) (hc:∀ j b,bs[j]? = some b→w.cell? ⟨g,0+j,none⟩=some (.bool b)) (hn:n≤1000):Calls Tryz.prog 112 #[.slice (some ⟨g,0,none⟩) n c,.bool false] w fun e w'=>e=.returned (.bool (bs.contains false))∧w'=w:=by
 have HI:=Lib.hid (indexB_any g c n bs w hl hc hn)
 clear hc hl
 go_enter Tryz.func112,Tryz.ntmps112
 go_wp2_with (go_at_call 176;refine HI.out.mono ?_;rintro e w2 ⟨⟨r,rfl,hr⟩,rfl⟩;have HR:=Lib.hid hr;clear hr)
 go_ret
 exact⟨ret_bool HR.out,rfl⟩
def OkBox (w:World) (g:Nat) (b0 b1 b2 b3:Bool):Prop:=Blk w g 4 #[.bool b0,.bool b1,.bool b2,.bool b3] (0,0)
theorem OkBox.facts {w:World} {g:Nat} {b0 b1 b2 b3:Bool} (h:OkBox w g b0 b1 b2 b3):w.cell? ⟨g,0,none⟩=some (.bool b0)∧w.cell? ⟨g,1,none⟩=some (.bool b1)∧w.cell? ⟨g,2,none⟩=some (.bool b2)∧w.cell? ⟨g,3,none⟩=some (.bool b3):=⟨Blk.cell h 0,Blk.cell h 1,Blk.cell h 2,Blk.cell h 3⟩
theorem contains4 (g c:Nat) (b0 b1 b2 b3:Bool) (w:World) (h:OkBox w g b0 b1 b2 b3):Calls Tryz.prog 112 #[.slice (some ⟨g,0,none⟩) 4 c,.bool false] w fun e w'=>e=.returned (.bool (!(b0&&b1&&b2&&b3)))∧w'=w:=by
 have hv : [b0,b1,b2,b3].contains false = !(b0&&b1&&b2&&b3):=by cases b0 <;> cases b1 <;> cases b2 <;> cases b3 <;> rfl
 rw[←hv]
 obtain⟨f0,f1,f2,f3⟩:=h.facts
 refine containsB_any g c 4 [b0,b1,b2,b3] w rfl (fun j b hj=>?_) (by omega)
 rcases j with _ | _ | _ | _ | j
 ·simp at hj;subst hj;exact f0
 ·simp at hj;subst hj;exact f1
 ·simp at hj;subst hj;exact f2
 ·simp at hj;subst hj;exact f3
 ·simp at hj
theorem OkBox.s0 {w:World} {g:Nat} {b0 b1 b2 b3:Bool} (h:OkBox w g b0 b1 b2 b3) (b:Bool):OkBox (w.setCell ⟨g,0,none⟩ (.bool b)) g b b1 b2 b3:=Blk.set_ h 0 (.bool b)
theorem OkBox.s1 {w:World} {g:Nat} {b0 b1 b2 b3:Bool} (h:OkBox w g b0 b1 b2 b3) (b:Bool):OkBox (w.setCell ⟨g,1,none⟩ (.bool b)) g b0 b b2 b3:=Blk.set_ h 1 (.bool b)
theorem OkBox.s2 {w:World} {g:Nat} {b0 b1 b2 b3:Bool} (h:OkBox w g b0 b1 b2 b3) (b:Bool):OkBox (w.setCell ⟨g,2,none⟩ (.bool b)) g b0 b1 b b3:=Blk.set_ h 2 (.bool b)
theorem OkBox.s3 {w:World} {g:Nat} {b0 b1 b2 b3:Bool} (h:OkBox w g b0 b1 b2 b3) (b:Bool):OkBox (w.setCell ⟨g,3,none⟩ (.bool b)) g b0 b1 b2 b:=Blk.set_ h 3 (.bool b)
theorem reads_set {w:World} {A:Option Addr} {n:Nat} {vs:List Value} (h:Reads w 1 A n vs) (p:Addr) (u:Value) (hne:0<n→∀ a,A=some a→a.block≠p.block):Reads (w.setCell p u) 1 A n vs:=by
 refine⟨h.1,fun hn=>?_⟩
 obtain⟨b,o,rfl,hc⟩:=h.2 hn
 exact⟨b,o,rfl,fun j x hx=>(World.cell?_setCell_far w p ⟨b,o+j,none⟩ u (fun e=>hne hn _ rfl e.symm)).trans (hc j x hx)⟩
theorem infoBool:(Tryz.prog.info? 4).map (fun i=>(i.zero,i.size,i.bytes))=some (some (.bool false),1,1):=by kernel_rfl
theorem makeOk (w:World):(Instr.makeSlice 136 (.int .i64 4) (.int .i64 4)).run Tryz.prog w=.ok (.slice (some ⟨w.heap.size,0,none⟩) 4 4) (w.alloc (.cells #[.bool false,.bool false,.bool false,.bool false] 4)):=by
 obtain⟨i0,hi0,hz0,hz1,hz2⟩:=info_parts infoBool
 have:=run_makeSlice w 136 4 i0 (.bool false) Tryz.underlying136 hi0 hz0 .i64 .i64 4 4 (by omega) (by omega) (by rw[hz1];decide) (by rw[hz2];decide) (by omega)
 have hm:madeCells (Value.bool false).cells (Int.toNat 4*1)=#[.bool false,.bool false,.bool false,.bool false]:=by kernel_rfl
 rw[this,hz1,hm]
 rfl
theorem infStr5:(Tryz.prog.info? 9).map (fun i=>(i.zero,i.size,i.bytes))=some (some (.string ⟨#[]⟩),1,16):=by kernel_rfl
theorem zc_size (n:Nat):(Builtin.zeroCells (Value.string ⟨#[]⟩).cells n).size=n:=by
 unfold Builtin.zeroCells
 simp[Value.cells]
theorem grow_any (n:Nat) (h0:0<n) (hn:n≤1000000) (w:World):Calls Tryz.prog 272 #[.slice none 0 0,.int .i64 (n:Int)] w fun e w'=>∃ v,e=.returned v∧w'.ownsRow w.heap.size 9 1 v 0 []∧Below w.heap.size w w':=by
 obtain⟨i0,hi,hz0,hz1,hz2⟩:=info_parts infStr5
 have hr:=fun ty=>Lib.run_append_nil_zeros (P:=Tryz.prog) w 24 3 ty 9 i0 (.string ⟨#[]⟩) .i64 .i64 Tryz.underlying24 Tryz.underlying3 hi hz0 n h0 (by rw[hz1];decide) (by omega) (by rw[hz2];omega)
 have hge:=grownCap_ge w n 0 9
 have hle:=grownCap_le_maxLen w n 0 9 (by unfold maxLen;omega)
 have hcs:(Builtin.zeroCells (Value.string ⟨#[]⟩).cells n++Builtin.zeroCells (Value.string ⟨#[]⟩).cells (grownCap w n 0 9-n)).size=grownCap w n 0 9:=by
  rw[Array.size_append,zc_size,zc_size];omega
 generalize Builtin.zeroCells (Value.string ⟨#[]⟩).cells n++Builtin.zeroCells (Value.string ⟨#[]⟩).cells (grownCap w n 0 9-n)=Z at *
 generalize grownCap w n 0 9=cap at *
 have i1:¬ (n:Int)<0:=by omega
 have i2:(0:Int)<(n:Int):=by omega
 have HR:=Lib.hid hr
 clear hr hi hz0 hz1 hz2
 go_enter Tryz.func272,Tryz.ntmps272
 go_wp2_with (at_builtin;refine Lib.wpList_append_run _ rfl _ _ _ _ rfl _ _ rfl rfl _ _ (HR.out _) ?_)
 go_ret
 refine⟨_,rfl,⟨rfl,.inr ⟨w.heap.size,cap,Z,rfl,Nat.le_refl _,?_,Nat.zero_le _,hle,by omega,by simp⟩⟩,?_⟩
 ·exact World.alloc_heap_new _ _
 ·exact (Below.drew (Below.refl _ _)).alloc (Nat.le_refl _) _
theorem own_low {w:World} {b b2:Nat} {e:TypeId} {size:Nat} {v:Value} {n:Nat} {xs:List Value} (h:w.ownsRow b e size v n xs) (hb:b2≤b):w.ownsRow b2 e size v n xs:=by
 refine⟨h.1,?_⟩
 rcases h.2 with h1 | ⟨g,cap,cur,h1,h2,h3⟩
 ·exact .inl h1
 ·exact .inr ⟨g,cap,cur,h1,Nat.le_trans hb h2,h3⟩
theorem strs_oneT (l:List ByteArray):∀ u∈l.map Value.string,u.oneCell'=true:=by
 intro u hu
 obtain⟨s,_,rfl⟩:=List.mem_map.1 hu
 rfl
structure SlM where
 A:Option Addr
 c:Nat
 xs:List ByteArray
def SlM.val (s:SlM):Value:=.slice s.A s.xs.length s.c
def lenS (S:List SlM):Nat:=(S.map fun s=>s.xs.length).sum
def catS (S:List SlM):List ByteArray:=S.flatMap (·.xs)
theorem lenS_take {S:List SlM} {k:Nat} {s:SlM} (h:S[k]? = some s):lenS (S.take (k+1))=lenS (S.take k)+s.xs.length:=by
 unfold lenS
 rw[List.take_add_one,h,List.map_append,List.sum_append]
 simp
theorem catS_take {S:List SlM} {k:Nat} {s:SlM} (h:S[k]? = some s):catS (S.take (k+1))=catS (S.take k)++s.xs:=by
 unfold catS
 rw[List.take_add_one,h,List.flatMap_append]
 simp
theorem catS_len (S:List SlM):(catS S).length=lenS S:=by
 unfold catS lenS
 rw[List.length_flatMap]
theorem lenS_mono (S:List SlM) (k:Nat):lenS (S.take k)≤lenS S:=by
 have:lenS S=lenS (S.take k)+lenS (S.drop k):=by
  conv=>lhs;rw[←List.take_append_drop k S]
  unfold lenS
  rw[List.map_append,List.sum_append]
 omega
theorem concat_any (A:Option Addr) (n c:Nat) (S:List SlM) (w:World) (hA:Reads w 1 A n (S.map SlM.val)) (hS:∀ s∈S,Reads w 1 s.A s.xs.length (s.xs.map .string)) (h0:0<lenS S) (hl:lenS S≤100000) (hn:n≤100000) :
  Calls Tryz.prog 218 #[.slice A n c] w fun e w'=>∃ B d,e=.returned (.slice B (catS S).length d)∧w'.ownsRow w.heap.size 9 1 (.slice B (catS S).length d) (catS S).length ((catS S).map .string)∧Below w.heap.size w w':=by
 obtain⟨i0,hi,hz0,hz1,hz2⟩:=info_parts infStr5
 have HI:=Lib.hid (And.intro hi (And.intro hz0 (And.intro hz1 hz2)))
 clear hi hz0 hz1 hz2
 have hsl:S.length=n:=by have:=hA.1;simpa using this
 have hgr:=fun W=>grow_any (lenS S) h0 (by omega) W
 have HA:=Lib.hid hA;have HS:=Lib.hid hS;have HSL:=Lib.hid hsl;have HG:=Lib.hid hgr;have HLS:=Lib.hid hl
 clear hA hS hgr hsl hl
 go_enter Tryz.func218,Tryz.ntmps218
 go_wp2
 go_loopw [11,3] (fun iv sv wr=>∃ k:Nat,k≤n∧iv=.int .i64 k∧sv=.int .i64 (lenS (S.take k):Int)∧Below w.heap.size w wr) (fun iv _ _=>n-(intOf iv).toNat)
 case atStart=>exact⟨0,by omega,rfl,rfl,Below.refl _ _⟩
 case round =>
  obtain⟨k,hk,rfl,rfl,hb⟩:=hrel
  by_cases hlt:k<n
  ·obtain⟨s,hs⟩:∃ s,S[k]? = some s:=⟨_,List.getElem?_eq_getElem (by have:=HSL.out;omega)⟩
   obtain⟨b,o,rfl,hcell⟩:=(HA.out.keep hb).2 (by omega)
   have c1:wr.cell? ⟨b,o+k,none⟩=some (.slice s.A s.xs.length s.c):=hcell k _ (by rw[List.getElem?_map,hs];rfl)
   have e1:=lenS_take hs
   have e2:=lenS_mono S (k+1)
   have hls:=HLS.out
   have hk0:(0:Int)≤(k:Int):=by omega
   have hk1:(k:Int)<(n:Int):=by omega
   obtain⟨m,hm⟩:∃ m,m=lenS (S.take k):=⟨_,rfl⟩
   obtain⟨q,hq⟩:∃ q,q=s.xs.length:=⟨_,rfl⟩
   have hmq:lenS (S.take (k+1))=m+q:=by omega
   have hle:m+q≤100000:=by omega
   have HMQ:=Lib.hid hmq
   rw[←hm]
   rw[←hq]at c1
   clear hcell hs e1 e2 hls hm hq hmq
   have i1:¬ ((m:Int)+(q:Int)<0):=by omega
   go_wp2
   exact⟨⟨k+1,by omega,by go_num,by rw[HMQ.out];push_cast;rfl,hb⟩,by simp[intOf];omega⟩
  ·obtain rfl:k=n:=by omega
   have e:lenS (S.take k)=lenS S:=by rw[List.take_of_length_le (by rw[HSL.out];exact Nat.le_refl _)]
   rw[e]
   clear e
   go_wp2_with (go_at_call 272;refine (HG.out _).mono ?_;rintro e w1 ⟨v1,rfl,hown1,hb1⟩)
   have hbw:=bstep hb hb1
   have hown2:w1.ownsRow w.heap.size 9 1 v1 0 []:=own_low hown1 hb.size
   have hw1:=hbw.size
   obtain⟨wo,rfl⟩:∃ wo:World,wo=wr:=⟨_,rfl⟩
   clear hown1 hb1 hb HG h0
   go_loopw [27,6] (fun iv pv wr=>∃ (j:Nat) (B:Option Addr) (d:Nat),j≤k∧iv=.int .i64 j∧pv=.slice B (catS (S.take j)).length d∧wr.ownsRow w.heap.size 9 1 (.slice B (catS (S.take j)).length d) (catS (S.take j)).length ((catS (S.take j)).map .string)∧Below w.heap.size w wr) (fun iv _ _=>k-(intOf iv).toNat)
   case atStart =>
    obtain⟨B,d,rfl⟩:=own_slice hown2
    exact⟨0,B,d,by omega,rfl,rfl,hown2,hbw⟩
   case round =>
    obtain⟨j,B,d,hj,rfl,rfl,hown,hb⟩:=hrel
    clear hown2 hbw
    have hbs:=hb.size
    by_cases hlt:j<k
    ·obtain⟨s,hs⟩:∃ s,S[j]? = some s:=⟨_,List.getElem?_eq_getElem (by have:=HSL.out;omega)⟩
     obtain⟨b,o,rfl,hcell⟩:=(HA.out.keep hb).2 (by omega)
     have c1:wr.cell? ⟨b,o+j,none⟩=some (.slice s.A s.xs.length s.c):=hcell j _ (by rw[List.getElem?_map,hs];rfl)
     have hR:=(HS.out s (List.mem_of_getElem? hs)).keep hb
     have e0:=catS_take hs
     have e1:=lenS_take hs
     have e2:=lenS_mono S (j+1)
     have e3:=catS_len (S.take j)
     have hls:=HLS.out
     have hk0:(0:Int)≤(j:Int):=by omega
     have hk1:(j:Int)<(k:Int):=by omega
     obtain⟨acc,hacc⟩:∃ acc,acc=catS (S.take j):=⟨_,rfl⟩
     obtain⟨ys,hys⟩:∃ ys,ys=s.xs:=⟨_,rfl⟩
     rw[←hacc]at hown e0 e3 ⊢
     rw[←hys]at c1 hR e0 e1
     have hal:acc.length+ys.length≤100000:=by omega
     have HR:=Lib.hid hR;have HO:=Lib.hid hown;have HE:=Lib.hid e0;have HAL:=Lib.hid hal
     clear hcell hs hR hown e0 e1 e2 e3 hls hacc hys hal
     go_wp2_with (at_builtin;refine wpList_append_reads _ rfl _ _ 24 rfl w.heap.size 9 i0 (.string ⟨#[]⟩) 16 Tryz.underlying24 HI.out.1 HI.out.2.1 HI.out.2.2.1 HI.out.2.2.2 rfl _ _ _ rfl HO.out s.A ys.length s.c (ys.map .string) rfl HR.out (strs_oneT _) (by have:=HAL.out;unfold maxLen;omega) (by have:=HAL.out;omega) hbs ?_;intro v3 w3 hown3 hg3;obtain⟨B3,d3,rfl⟩:=own_slice hown3)
     have hb3:Below w.heap.size wr w3:=Below.grown (Below.refl _ _) hg3 hbs (fun r e=>ownsRow_block HO.out r e)
     refine⟨⟨j+1,B3,d3,by omega,by go_num,?_,?_,hb.trans hb3⟩,by simp[intOf];omega⟩
     ·rw[HE.out,List.length_append]
     ·rw[HE.out,List.length_append,List.map_append];exact hown3
    ·obtain rfl:j=k:=by omega
     have e:S.take j=S:=List.take_of_length_le (by rw[HSL.out];exact Nat.le_refl _)
     rw[e]at hown ⊢
     have HO:=Lib.hid hown
     clear e hown
     go_wp2
     go_ret
     exact⟨B,d,rfl,HO.out,hb⟩
def RingUp (L:List KeyV):Prop:=L.Pairwise fun a b=>beforeK a b=true
theorem tw_at {α:Type} (p:α→Bool):∀ (L:List α) (t:Nat) (x:α),t<(L.takeWhile p).length→L[t]? = some x→p x=true
 | [],t,x,h,_=>by simp at h
 | a :: L,t,x,h,hx=>by
  rw[List.takeWhile_cons]at h
  split at h
  ·rename_i ha
   cases t with
   | zero=>simp at hx;subst hx;exact ha
   | succ t=>exact tw_at p L t x (by simpa using h) (by simpa using hx)
  ·simp at h
theorem tw_end {α:Type} (p:α→Bool):∀ (L:List α) (x:α),L[(L.takeWhile p).length]? = some x→p x=false
 | [],x,h=>by simp at h
 | a :: L,x,h=>by
  rw[List.takeWhile_cons]at h
  split at h
  ·exact tw_end p L x (by simpa using h)
  ·rename_i ha
   simp at h;subst h;simpa using ha
theorem tw_len {α:Type} (p:α→Bool) (L:List α):(L.takeWhile p).length≤L.length:=by
 have:=List.takeWhile_sublist p (l:=L)
 exact this.length_le
def lowK (n s:Int) (L:List KeyV):Nat:=(L.takeWhile fun x=>decide (cmpK x n s<0)).length
theorem cmp_up {a b:KeyV} (h:beforeK a b=true) {n s:Int} (h0:0≤cmpK a n s):0<cmpK b n s:=by
 unfold beforeK at h
 unfold cmpK at *
 simp only[decide_eq_true_eq]at h
 split at h0 <;> split <;> omega
theorem low_lt {L:List KeyV} {n s:Int} {t:Nat} {x:KeyV} (ht:t<lowK n s L) (hx:L[t]? = some x):cmpK x n s<0:=by
 have:=tw_at _ L t x ht hx
 simpa using this
theorem low_ge {L:List KeyV} (hu:RingUp L) {n s:Int} {t:Nat} {x:KeyV} (ht:lowK n s L≤t) (hx:L[t]? = some x):0≤cmpK x n s:=by
 have hlt:=(List.getElem?_eq_some_iff.1 hx).1
 obtain⟨y,hy⟩:∃ y,L[lowK n s L]? = some y:=⟨_,List.getElem?_eq_getElem (by omega)⟩
 have h0:=tw_end _ L y hy
 have h1:0≤cmpK y n s:=by simpa using h0
 rcases Nat.lt_or_ge (lowK n s L) t with h2 | h2
 ·obtain⟨hl1,e1⟩:=List.getElem?_eq_some_iff.1 hy
  obtain⟨hl2,e2⟩:=List.getElem?_eq_some_iff.1 hx
  have:=List.pairwise_iff_getElem.1 hu _ _ hl1 hl2 h2
  rw[e1,e2]at this
  have:=cmp_up this h1
  omega
 ·have:t=lowK n s L:=by omega
  subst this
  rw[hy]at hx;injection hx with hx;subst hx;exact h1
theorem find_low {L:List KeyV} (hu:RingUp L) (n s:Int):findK L n s=(L[lowK n s L]?).filter fun x=>decide (cmpK x n s=0):=by
 have hz:∀ x:KeyV,decide (x.party=n∧x.ser=s)=decide (cmpK x n s=0):=by
  intro x
  unfold cmpK
  by_cases h:x.party=n
  ·simp[h];omega
  ·rw[if_neg h];simp[h];omega
 have hn:∀ t x,L[t]? = some x→t<lowK n s L→cmpK x n s≠0:=fun t x hx ht=>by have:=low_lt ht hx;omega
 unfold findK
 cases hy:L[lowK n s L]? with
 | none =>
  rw[List.find?_eq_none.2]
  ·rfl
  ·intro x hx
   obtain⟨t,ht,rfl⟩:=List.getElem_of_mem hx
   have hle:L.length≤lowK n s L:=List.getElem?_eq_none_iff.1 hy
   rw[hz]
   have:=hn t _ (List.getElem?_eq_getElem ht) (by omega)
   simpa using this
 | some y =>
  by_cases h0:cmpK y n s=0
  ·have hf:(some y).filter (fun x=>decide (cmpK x n s=0))=some y:=by simp[h0]
   rw[hf]
   obtain⟨hl,he⟩:=List.getElem?_eq_some_iff.1 hy
   rw[List.find?_eq_some_iff_getElem]
   refine⟨by rw[hz];simp[h0],lowK n s L,hl,he,fun j hj=>?_⟩
   rw[hz]
   have:=hn j _ (List.getElem?_eq_getElem (by omega)) hj
   simpa using this
  ·have hf:(some y).filter (fun x=>decide (cmpK x n s=0))=none:=by simp[h0]
   rw[hf]
   rw[List.find?_eq_none.2]
   intro x hx
   obtain⟨t,ht,rfl⟩:=List.getElem_of_mem hx
   rw[hz]
   have hxt:=List.getElem?_eq_getElem ht
   rcases Nat.lt_trichotomy t (lowK n s L) with h1 | h1 | h1
   ·have:=hn t _ hxt h1
    simpa using this
   ·subst h1
    rw[hy]at hxt
    injection hxt with hxt
    rw[←hxt]
    simpa using h0
   ·obtain⟨hl1,e1⟩:=List.getElem?_eq_some_iff.1 hy
    have hb:=List.pairwise_iff_getElem.1 hu _ _ hl1 ht h1
    rw[e1]at hb
    have:=cmp_up hb (low_ge hu (Nat.le_refl _) hy)
    simp;omega
theorem key_load (w:World) (b o:Nat) (x:KeyV) (hc:∀ j u,x.cells[j]? = some u→w.cell? ⟨b,o+j,none⟩=some u):(loadVar 23 ⟨b,o,none⟩).run Tryz.prog w=.ok x.val w:=by
 have hl:(loadCells ⟨b,o,none⟩ 5).run Tryz.prog w=.ok x.cells.toArray w :=
  run_loadCells_list (P:=Tryz.prog) w ⟨b,o,none⟩ x.cells (fun j v hv=>by
   have hadd:(⟨b,o,none⟩:Addr).add j=⟨b,o+j,none⟩:=by unfold Addr.add;split <;> simp_all
   rw[hadd];exact hc j v hv)
 have hi:(Tryz.prog.info? 23).map (·.size)=some 5:=by kernel_rfl
 cases hq:Tryz.prog.info? 23 with
 | none=>rw[hq]at hi;cases hi
 | some i =>
  have hs:i.size=5:=by rw[hq]at hi;simpa using hi
  have hagg:(isAgg 23).run Tryz.prog w=.ok true w:=by
   unfold isAgg
   rw[Sem.run_bind,run_underlying Tryz.underlying23 w]
   rfl
  have hv:x.val=.agg x.cells.toArray:=rfl
  rw[hv]
  generalize x.cells.toArray=X at *
  simp[loadVar,Sem.run_bind,hagg,sizeOf,typeInfo,hq,hs,hl]
theorem bsearch_any (g:Nat) (eg:∀ args w,(callFunc g args).run Tryz.prog w=.ok (.enter g args) w) (cv:Value) (cf:KeyV→Int) (A:Option Addr) (n c:Nat) (L:List KeyV) (t:Int) (m:Nat) (w:World)
  (hp:∀ x∈L,∀ W,Below w.heap.size w W→Calls Tryz.prog g #[x.val,.int .i64 t,cv] W (Ret W (.int .i64 (cf x)))) (hA:KeysRead w A n L) (hn:n≤100000)
  (hlo:∀ i x,i<m→L[i]? = some x→cf x<0) (hhi:∀ i x,m≤i→L[i]? = some x→0≤cf x) (hm:m≤n) :
  Calls Tryz.prog 183 #[.slice A n c,.int .i64 t,.func (.func g) #[] #[cv]] w (Ret w (.tuple #[.int .i64 (m:Int),.bool (match L[m]? with | some x=>decide (cf x=0) | none=>false)])):=by
 have hl:L.length=n:=hA.1
 have HP:=Lib.hid hp;have HA:=Lib.hid hA;have HLO:=Lib.hid hlo;have HHI:=Lib.hid hhi;have HL:=Lib.hid hl
 obtain⟨V,hV⟩:∃ V,V=(match L[m]? with | some x=>decide (cf x=0) | none=>false):=⟨_,rfl⟩
 rw[←hV]
 have HV:=Lib.hid hV
 clear hp hA hlo hhi hl hV
 go_enter Tryz.func183,Tryz.ntmps183
 go_wp2
 go_loopw [9,10] (fun iv jv wr=>∃ i j:Nat,iv=.int .i64 i∧jv=.int .i64 j∧i≤m∧m≤j∧j≤n∧Below w.heap.size w wr) (fun iv jv _=>(intOf jv).toNat-(intOf iv).toNat)
 case atStart=>exact⟨0,n,rfl,rfl,by omega,hm,Nat.le_refl _,Below.refl _ _⟩
 case round =>
  obtain⟨i,j,rfl,rfl,hi,hj,hjn,hb⟩:=hrel
  by_cases hij:i<j
  ·obtain⟨x,hx⟩:∃ x,L[(i+j) / 2]? = some x:=⟨_,List.getElem?_eq_getElem (by have:=HL.out;omega)⟩
   obtain⟨b,o,rfl,hcell⟩:=(HA.out.keep hb).at_ hx
   have hld:=key_load wr b (o+(i+j) / 2*5) x hcell
   have hc:=HP.out x (List.mem_of_getElem? hx) wr hb
   have hlo:=fun h=>HLO.out ((i+j) / 2) x h hx
   have hhi:=fun h=>HHI.out ((i+j) / 2) x h hx
   have hij2:(i:Int)<(j:Int):=by omega
   have HC:=Lib.hid hc;have HLD:=Lib.hid hld
   generalize x.val=xv at *
   clear hcell hc hld hx
   generalize cf x=z at *
   have HLO2:=Lib.hid hlo;have HHI2:=Lib.hid hhi
   clear hlo hhi
   rcases Int.lt_or_le z 0 with h0 | h0
   ·have e0:decide (z<0)=true:=decide_eq_true h0
    go_wp2_with (first | (refine wpList_load_addr rfl _ _ rfl ⟨b,o+(i+j) / 2*5,none⟩ xv rfl HLD.out ?_) | (go_at_fn g;refine (HC.out).mono ?_;rintro e w2 ⟨rfl,hb2⟩))
    have hlt:(i+j) / 2<m:=by
     rcases Nat.lt_or_ge ((i+j) / 2) m with h | h
     ·exact h
     ·have:=HHI2.out h;omega
    exact⟨⟨(i+j) / 2+1,j,by go_num,rfl,by omega,hj,hjn,bstep hb hb2⟩,by simp[intOf];omega⟩
   ·have e0:decide (z<0)=false:=decide_eq_false (by omega)
    go_wp2_with (first | (refine wpList_load_addr rfl _ _ rfl ⟨b,o+(i+j) / 2*5,none⟩ xv rfl HLD.out ?_) | (go_at_fn g;refine (HC.out).mono ?_;rintro e w2 ⟨rfl,hb2⟩))
    have hge:m≤(i+j) / 2:=by
     rcases Nat.lt_or_ge ((i+j) / 2) m with h | h
     ·have:=HLO2.out h;omega
     ·exact h
    exact⟨⟨i,(i+j) / 2,rfl,by go_num,hi,hge,by omega,bstep hb hb2⟩,by simp[intOf];omega⟩
  ·obtain rfl:i=m:=by omega
   by_cases hmn:i<n
   ·obtain⟨x,hx⟩:∃ x,L[i]? = some x:=⟨_,List.getElem?_eq_getElem (by have:=HL.out;omega)⟩
    obtain⟨b,o,rfl,hcell⟩:=(HA.out.keep hb).at_ hx
    have hld:=key_load wr b (o+i*5) x hcell
    have hc:=HP.out x (List.mem_of_getElem? hx) wr hb
    have hV2:V=decide (cf x=0):=by rw[HV.out,hx]
    have HC:=Lib.hid hc;have HLD:=Lib.hid hld;have HV2:=Lib.hid hV2
    generalize x.val=xv at *
    clear hcell hc hld hx hV2 HV
    generalize cf x=z at *
    have d1:(i:Int)<(n:Int):=by omega
    go_wp2_with (first | (go_big_want;refine wp_load_addr 23 _ rfl ⟨b,o+i*5,none⟩ xv rfl HLD.out ?_;simp only[Act.put,List.setIfInBounds_toArray,List.set_cons_succ,List.set_cons_zero]) | (go_at_fn g;refine (HC.out).mono ?_;rintro e w2 ⟨rfl,hb2⟩))
    go_ret2
    exact⟨by rw[HV2.out];by_cases hz:z=0 <;> simp[hz],bstep hb hb2⟩
   ·have hV2:V=false:=by rw[HV.out,List.getElem?_eq_none (by have:=HL.out;omega)]
    subst hV2
    have d1:¬ (i:Int)<(n:Int):=by omega
    go_wp2
    go_ret2
    exact⟨rfl,hb⟩
def idxT {α:Type} (p:α→Bool):List α→Nat→Int
 | [],_=>-1
 | x :: r,k=>if p x then k else idxT p r (k+1)
theorem idxT_any {α:Type} (p:α→Bool):∀ (L:List α) (k:Nat),decide (0≤idxT p L k)=L.any p
 | [],k=>rfl
 | x :: r,k=>by
  rw[idxT,List.any_cons]
  cases h:p x
  ·rw[if_neg (by simp),idxT_any p r (k+1)];rfl
  ·rw[if_pos rfl];simp
theorem indexFuncT_any (g:Nat) (eg:∀ args w,(callFunc g args).run Tryz.prog w=.ok (.enter g args) w) (cb:Array Value) (p:CoM→Bool) (A:Option Addr) (n c:Nat) (L:List CoM) (w:World)
  (hp:∀ x∈L,∀ W,Below w.heap.size w W→Calls Tryz.prog g (#[CondMem.val x.c x.m]++cb) W (Ret W (.bool (p x)))) (hA:CondsRead w A n L) (hn:n≤1000000000) :
  Calls Tryz.prog 98 #[.slice A n c,.func (.func g) #[] cb] w (Ret w (.int .i64 (idxT p L 0))):=by
 have hl:n≤L.length∧L.length≤n:=by have:=hA.len;omega
 have HP:=Lib.hid hp;have HA:=Lib.hid hA
 clear hp hA
 go_enter Tryz.func98,Tryz.ntmps98
 go_wp2
 go_loopw [8] (fun i wr=>∃ k:Nat,k≤n∧i=.int .i64 k∧Hid (idxT p L 0=idxT p (L.drop k) k)∧Below w.heap.size w wr) (fun i _=>n-(intOf i).toNat)
 case atStart=>exact⟨0,by omega,rfl,Lib.hid rfl,Below.refl _ _⟩
 case round =>
  obtain⟨k,hk,rfl,HI,hb⟩:=hrel
  by_cases hlt:k<n
  ·obtain⟨x,hx⟩:∃ x,L[k]? = some x:=⟨_,List.getElem?_eq_getElem (by omega)⟩
   obtain⟨_,b,o,rfl,hcell⟩:=(HA.out.keep hb).at_ hx
   have hld:=cond_load wr b (o+k*7) x hcell
   have hc:=HP.out x (List.mem_of_getElem? hx) wr hb
   have hd:L.drop k=x :: L.drop (k+1):=by
    obtain⟨hl2,rfl⟩:=List.getElem?_eq_some_iff.1 hx
    exact List.drop_eq_getElem_cons hl2
   have HI2:=HI.out
   rw[hd,idxT]at HI2
   clear hd hx HI hcell
   have HI:=Lib.hid HI2
   clear HI2
   have hxv:CondMem.val x.c x.m=CondMem.val x.c x.m:=rfl
   generalize CondMem.val x.c x.m=xv at hld hc
   clear hxv
   cases hpx:p x
   all_goals
    rw[hpx]at hc HI
    have HC:=Lib.hid hc
    clear hc hpx
    go_wp2_with (first | (refine wpList_load_addr rfl _ _ rfl ⟨b,o+k*7,none⟩ xv rfl hld ?_) | (go_at_fn g;refine (HC.out).mono ?_;rintro e w2 ⟨rfl,hb2⟩))
   ·refine⟨⟨k+1,by omega,by go_num,Lib.hid (by have:=HI.out;simpa using this),bstep hb hb2⟩,by simp[intOf];omega⟩
   ·go_ret
    have:=HI.out
    exact⟨ret_int (by rw[this];simp),bstep hb hb2⟩
  ·have he:idxT p L 0 = -1:=by rw[HI.out,List.drop_eq_nil_of_le (by omega)];rfl
   have HE:=Lib.hid he
   clear he HI
   go_wp2
   go_ret
   exact⟨ret_int HE.out.symm,hb⟩
theorem containsT_any (g:Nat) (eg:∀ args w,(callFunc g args).run Tryz.prog w=.ok (.enter g args) w) (cb:Array Value) (p:CoM→Bool) (A:Option Addr) (n c:Nat) (L:List CoM) (w:World)
  (hp:∀ x∈L,∀ W,Below w.heap.size w W→Calls Tryz.prog g (#[CondMem.val x.c x.m]++cb) W (Ret W (.bool (p x)))) (hA:CondsRead w A n L) (hn:n≤1000000000) :
  Calls Tryz.prog 47 #[.slice A n c,.func (.func g) #[] cb] w (Ret w (.bool (L.any p))):=by
 have hi:=indexFuncT_any g eg cb p A n c L w hp hA hn
 rw[←idxT_any p L 0]
 generalize idxT p L 0=v at *
 have HI:=Lib.hid hi
 clear hi hp hA
 go_enter Tryz.func47,Tryz.ntmps47
 go_wp2_with (go_at_call 98;refine HI.out.mono ?_;rintro e w2 ⟨rfl,hb2⟩)
 go_ret
 exact⟨by simp,belB⟩
def cIn (l:List Int):CondV:=⟨0,1099511627777,⟨#[]⟩,[],[],l,0⟩
def cCo (l:List ByteArray):CondV:=⟨0,1099511627777,⟨#[]⟩,[],l,[],0⟩
def cA:CondV:=⟨0,1099511627777,(⟨#[97,99,109,101,47,42,42]⟩:ByteArray),[],[],[1,2],0⟩
def cT (a b:Int):CondV:=⟨a,b,⟨#[]⟩,[],[],[],0⟩
theorem e1:validC cA=true:=by kernel_rfl
theorem e2:validC (cIn [1,2])=true:=by kernel_rfl
theorem e3:validC (cIn [2,3])=true:=by kernel_rfl
theorem e4:validC (cIn [3])=true:=by kernel_rfl
theorem e5:validC (cCo [(⟨#[100,101]⟩:ByteArray),(⟨#[102,114]⟩:ByteArray)])=true:=by kernel_rfl
theorem e6:validC (cCo [(⟨#[100,101]⟩:ByteArray)])=true:=by kernel_rfl
theorem e7:validC (cIn [])=true:=by kernel_rfl
theorem e8:validC (cIn allSites)=true:=by kernel_rfl
theorem v1:textC cA=(⟨#[48,32,49,48,57,57,53,49,49,54,50,55,55,55,55,32,97,99,109,101,47,42,42,32,126,32,126,32,49,44,50,32,48]⟩:ByteArray):=by kernel_rfl
theorem v2:meetC (cIn [1,2]) (cIn [2,3])=cIn [2]:=by kernel_rfl
theorem v3:meetC (cIn [1,2]) (cIn [3])=zeroC:=by kernel_rfl
theorem v4:impR (cCo [(⟨#[100,101]⟩:ByteArray),(⟨#[102,114]⟩:ByteArray)]) (cCo [(⟨#[100,101]⟩:ByteArray)])=(false,⟨(⟨#[97]⟩:ByteArray),(⟨#[97]⟩:ByteArray),(⟨#[102,114]⟩:ByteArray),0,0,0⟩):=by kernel_rfl
theorem v5:impR (cIn []) (cIn allSites)=(true,noAsk):=by kernel_rfl
theorem v6:emptyR (cT 5 5)=(true,noAsk,0):=by kernel_rfl
theorem v7:emptyR (cT 5 6)=(false,⟨(⟨#[97]⟩:ByteArray),(⟨#[97]⟩:ByteArray),(⟨#[97,97]⟩:ByteArray),0,5,5⟩,0):=by kernel_rfl
theorem infoInt:(Tryz.prog.info? 3).map (fun i=>(i.zero,i.size,i.bytes))=some (some (.int .i64 0),1,8):=by kernel_rfl
theorem fits_of {c:CondV} (h:validC c=true) (hp:c.pat.size≤100000):CondFits c:=by
 have ok:=(valid_iff c).1 h
 refine⟨hp,fun x hx=>?_,fun x hx=>?_,?_,?_,?_⟩
 ·have:=size_of_name (ok.cl x hx);omega
 ·have:=ok.co x hx
  unfold countryB at this
  simp only[Bool.and_eq_true,decide_eq_true_eq]at this
  omega
 ·have:=ok.clLen;omega
 ·have:=ok.coLen;omega
 ·have:=ok.siLen;omega
section
variable (W:World)
end
theorem pathL_le2 (B:Nat):∀ l:List (List UInt8),(∀ p∈l,p.length≤B)→(pathL l).length≤l.length*(B+1)
 | [],_=>by simp[pathL]
 | p :: l,h=>by
  have h1:=h p (by simp)
  have h2:=pathL_le2 B l (fun q hq=>h q (by simp[hq]))
  simp only[pathL,List.flatMap_cons,List.length_append,List.length_cons,Nat.succ_mul]at h2 ⊢
  omega
theorem str_size2 {p:Part} (h:PartFit p):(stringP p.kind p.text).size≤66:=by
 have e:=str_data p.kind p.text
 rw[size_data,e]
 rcases h with ⟨hk,hw⟩ | ⟨hk,s,hs,hs2,ht⟩ | ⟨hk,ht⟩
 ·have:=(word_ne hw).2.2.2
  rw[size_data]at this
  rw[if_pos hk];omega
 ·rw[if_neg (by omega),ht]
  rw[size_data]at hs2
  simp only[List.length_cons];omega
 ·rw[if_neg (by omega),ht]
  decide
theorem patS_size2 {z:Pat} (h:PatFit z):(patS z).size≤10000:=by
 rw[patS_eq,size_data,join_data]
 have h1:=str_size2 h.cust.part
 rw[size_data]at h1
 have h2:=pathL_le2 66 (lists (strL z.parts++tailL z.tail)) (by
  intro p hp
  obtain⟨x,hx,rfl⟩:=List.mem_map.1 hp
  rw[←size_data]
  rcases List.mem_append.1 hx with hx | hx
  ·obtain⟨y,hy,rfl⟩:=List.mem_map.1 hx
   exact str_size2 (h.parts y hy)
  ·unfold tailL at hx
   split at hx
   ·rw[List.mem_singleton.1 hx];decide
   ·cases hx)
 have h3:=h.num
 have h4:(lists (strL z.parts++tailL z.tail)).length≤33:=by
  unfold lists strL tailL
  rw[List.length_map,List.length_append,List.length_map]
  split <;> simp <;> omega
 rw[List.length_append]
 have:=Nat.mul_le_mul_right 67 h4
 omega
theorem patM_le {p q:ByteArray} (hp:patOk p=true) (hq:patOk q=true) (h1:p.size≤100000) (h2:q.size≤100000):(patM p q).size≤100000:=by
 by_cases a:p.size=0
 ·rw[(patM_one (.inl a)).1,if_pos a];exact h2
 by_cases b:q.size=0
 ·rw[(patM_one (.inr b)).1,if_neg a];exact h1
 unfold patOk at hp hq
 rw[decide_eq_false a,Bool.false_or]at hp
 rw[decide_eq_false b,Bool.false_or]at hq
 obtain⟨x,hx⟩:=Option.isSome_iff_exists.1 hp
 obtain⟨y,hy⟩:=Option.isSome_iff_exists.1 hq
 unfold patM
 rw[pmeet_two a b hx hy]
 cases hc:commonP x y with
 | none=>show (0:Nat)≤_;omega
 | some z =>
  have:=patS_size2 (commonP_some (compile_fit hx) (compile_fit hy) hc).1
  show (patS z).size≤_
  omega
theorem meet_fits {a b:CondV} (ha:CondOk a) (hb:CondOk b) (fa:CondFits a) (fb:CondFits b):validC (meetC a b)=true∧CondFits (meetC a b):=by
 have hv:=(valid_iff _).2 (meetC_ok ha hb)
 refine⟨hv,fits_of hv ?_⟩
 rw[meetC_eq]
 split
 ·exact patM_le ha.pat hb.pat fa.p fb.p
 ·decide
def fewV (c:CondV):Bool:=fewC c.cl.length c.co.length c.si.length c.pat c.cl c.co
theorem few_fits {c:CondV} (h:fewV c=true):CondFits c:=by
 unfold fewV fewC at h
 simp only[Bool.and_eq_true,decide_eq_true_eq,List.all_eq_true]at h
 obtain⟨⟨⟨⟨⟨h1,h2⟩,h3⟩,h4⟩,h5⟩,h6⟩:=h
 exact⟨by omega,fun x hx=>by have:=h5 x hx;omega,fun x hx=>by have:=h6 x hx;omega,by omega,by omega,by omega⟩
theorem few_cond (c:CondV) (m:CondMem) (w:World) (hR:CondReads w c m):Calls Tryz.prog 9 #[CondMem.val c m] w (Ret w (.bool (fewV c))):=rFew_any c.fr c.till c.us c.pat m.A m.B m.S c.cl.length m.ca c.co.length m.cb c.si.length m.cs c.cl c.co w hR.cl hR.co
theorem same_cond (c:CondV) (m n:CondMem) (w:World) (hm:CondReads w c m) (hn:CondReads w c n) (h:CondFits c):Calls Tryz.prog 21 #[CondMem.val c m,CondMem.val c n] w (Ret w (.bool true)):=rSame_eq c.fr c.till c.us c.pat m.A m.B m.S n.A n.B n.S c.cl.length m.ca c.co.length m.cb c.si.length m.cs n.ca n.cb n.cs c.cl c.co c.si w hm.cl hm.co hm.si hn.cl hn.co hn.si (by have:=h.n1;omega) (by have:=h.n2;omega) (by have:=h.n3;omega)
def VBox (w:World) (g:Nat) (c:CondV) (m:CondMem):Prop:=CBox w g c.fr c.till c.pat m.A c.cl.length m.ca m.B c.co.length m.cb m.S c.si.length m.cs c.us
end Go.Proofs.YtlkbkclnbppigaaGreatDoor
