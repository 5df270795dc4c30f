/- Rules and ways to vary: their values, how they lie in memory. -/
import Derived.Test.YtlkbkclnbppigaaGreatDoorIZ12
set_option maxHeartbeats 8000000
namespace Go.Proofs.YtlkbkclnbppigaaGreatDoor
open Tryz
open Go.RowKit Go.Sort
set_option linter.unusedVariables false
set_option linter.unusedSimpArgs false
set_option maxRecDepth 100000
structure Gj where
 header:aC
 values:List aC
 dflt:aC
structure ou where
 v:Gj
 A:Option Addr
 c:Nat
def ou.cells(x:ou):List Value:=[.string x.v.header,.slice x.A x.v.values.length x.c,.string x.v.dflt]
def xh(w:World)(x:ou):Prop:=aI w 1 x.A x.v.values.length (x.v.values.map .string)
theorem xh.keep{w w':World}{x:ou}(h:xh w x)(hb:aF w w'):xh w' x:=aI.keep h hb
structure TC where
 name:aC
 pat:aC
 tags:List aC
 fresh:Int
 stale:Int
 down:Int
 neg:Int
 vary:List Gj
 allow:aY
 signed:Bool
 cost:Int
 prog:aC
structure jw where
 r:TC
 T:Option Addr
 ct:Nat
 V:Option Addr
 cv:Nat
 L:List ou
 m:ae
def jw.cells(x:jw):List Value:=[.string x.r.name,.string x.r.pat,.slice x.T x.r.tags.length x.ct,.int .i64 x.r.fresh,.int .i64 x.r.stale,.int .i64 x.r.down,.int .i64 x.r.neg,.slice x.V x.r.vary.length x.cv,
 .int .i64 x.r.allow.fr,.int .i64 x.r.allow.till,.string x.r.allow.pat,.slice x.m.A x.r.allow.cl.length x.m.ca,.slice x.m.B x.r.allow.co.length x.m.cb,.slice x.m.S x.r.allow.si.length x.m.cs,.int .i64 x.r.allow.us,.bool x.r.signed,.int .i64 x.r.cost,.string x.r.prog]
def jw.val(x:jw):Value:=.agg x.cells.toArray
structure uj(w:World)(x:jw):Prop where
 tags:aI w 1 x.T x.r.tags.length (x.r.tags.map .string)
 vary:aI w 3 x.V x.r.vary.length (x.L.flatMap ou.cells)
 same:x.L.map (·.v)=x.r.vary
 each:∀ y∈x.L,xh w y
 allow:dA w x.r.allow x.m
theorem uj.keep{w w':World}{x:jw}(h:uj w x)(hb:aF w w'):uj w' x :=
 ⟨h.tags.keep hb,h.vary.keep hb,h.same,fun y hy=>(h.each y hy).keep hb,h.allow.keep hb⟩
theorem ou.cells_len(x:ou):x.cells.length=3:=rfl
theorem jw.cells_len(x:jw):x.cells.length=18:=rfl
structure uk(w:World)(A:Option Addr)(n:Nat)(L:List jw):Prop where
 len:L.length=n
 rows:aI w 18 A n (L.flatMap jw.cells)
 each:∀ x∈L,uj w x
theorem uk.keep{w w':World}{A:Option Addr}{n:Nat}{L:List jw}(h:uk w A n L)(hb:aF w w'):uk w' A n L:=⟨h.len,h.rows.keep hb,fun x hx=>(h.each x hx).keep hb⟩
theorem uk.at_{w:World}{A:Option Addr}{n k:Nat}{L:List jw}{x:jw}(h:uk w A n L)(hk:L[k]? = some x) :
  uj w x/\∃ b o,A=some ⟨b,o,none⟩/\∀ j u,x.cells[j]? = some u->w.cell? ⟨b,o+k*18+j,none⟩=some u :=
 ⟨h.each x (List.mem_of_getElem? hk),aI.row h.rows (fun a _=>a.cells_len) h.len hk⟩
theorem TD(fr till us:Int)(pat:aC)(A B S A2 B2 S2:Option Addr)(na ca nb cb ns cs ca2 cb2 cs2:Nat)(cl co:List aC)(si:List Int)(w:World)
  (hA:aI w 1 A na (cl.map .string)) (hB:aI w 1 B nb (co.map .string)) (hS:aI w 1 S ns (si.map (.int .i64))) (hA2:aI w 1 A2 na (cl.map .string)) (hB2:aI w 1 B2 nb (co.map .string)) (hS2:aI w 1 S2 ns (si.map (.int .i64))) (hn1:na<=1000000000) (hn2:nb<=1000000000) (hn3:ns<=1000000000) :
  Calls prog 21 #[.agg #[.int .i64 fr,.int .i64 till,.string pat,.slice A na ca,.slice B nb cb,.slice S ns cs,.int .i64 us],.agg #[.int .i64 fr,.int .i64 till,.string pat,.slice A2 na ca2,.slice B2 nb cb2,.slice S2 ns cs2,.int .i64 us]] w (Ret w (.bool true)):=by
 have hna:cl.length=na:=jK;have hnb:co.length=nb:=Ag;have hns:si.length=ns:=by have:=hS.1;simp at this;omega
 have HA:=aA hA;have HB:=aA hB;have HS:=aA hS;have HA2:=aA hA2;have HB2:=aA hB2;have HS2:=aA hS2;have HNA:=aA hna;have HNB:=aA hnb;have HNS:=aA hns;have b0:(pat.toList != pat.toList)=false:=aH;have b1:(fr != fr)=false:=aH;have b2:(till != till)=false:=aH;have b3:(us != us)=false:=aH;clear hA hB hS hA2 hB2 hS2 hna hnb hns;go_enter func21,ntmps21;go_wp2;have hX0:aX ((w.alloc (.cells #[.int .i64 fr,.int .i64 till,.string pat,.slice A na ca,.slice B nb cb,.slice S ns cs,.int .i64 us] 27)).alloc (.cells #[.int .i64 fr,.int .i64 till,.string pat,.slice A2 na ca2,.slice B2 nb cb2,.slice S2 ns cs2,.int .i64 us] 27)) w.heap.size fr till pat A na ca B nb cb S ns cs us:=(Below.heap_alloc _ _ _ aH).trans (World.alloc_heap_new _ _);have hY0:aX ((w.alloc (.cells #[.int .i64 fr,.int .i64 till,.string pat,.slice A na ca,.slice B nb cb,.slice S ns cs,.int .i64 us] 27)).alloc (.cells #[.int .i64 fr,.int .i64 till,.string pat,.slice A2 na ca2,.slice B2 nb cb2,.slice S2 ns cs2,.int .i64 us] 27)) (w.heap.size+1) fr till pat A2 na ca2 B2 nb cb2 S2 ns cs2 us:=by
  have:=World.alloc_heap_new (w.alloc (.cells #[.int .i64 fr,.int .i64 till,.string pat,.slice A na ca,.slice B nb cb,.slice S ns cs,.int .i64 us] 27)) (.cells #[.int .i64 fr,.int .i64 till,.string pat,.slice A2 na ca2,.slice B2 nb cb2,.slice S2 ns cs2,.int .i64 us] 27);rw[World.size_alloc]at this;exact this
 go_loopw [5] (fun vi wr=>∃ k:Nat,vi=.int .i64 k/\k<=na/\aX wr w.heap.size fr till pat A na ca B nb cb S ns cs us/\aX wr (w.heap.size+1) fr till pat A2 na ca2 B2 nb cb2 S2 ns cs2 us/\aF w wr) (fun i _=>na-(intOf i).toNat)
 case atStart=>exact⟨0,rfl,Nat.zero_le _,hX0,hY0,aU (aU (Below.refl _ _) _) _⟩
 case round =>
  clear hX0 hY0;obtain⟨k,rfl,hk,hX,hY,hbr⟩:=hrel;obtain⟨x0,x1,x2,x3,x4,x5,x6⟩:=hX.facts;obtain⟨y0,y1,y2,y3,y4,y5,y6⟩:=hY.facts;by_cases hlt:k<na
  ·obtain⟨x,hx⟩:∃ x,cl[k]? = some x:=⟨_,List.getElem?_eq_getElem (by have:=HNA.out;omega)⟩;obtain⟨b,o,rfl,hcell⟩:=(HA.out.keep hbr).2 aB;obtain⟨bb,oo,rfl,hcell2⟩:=(HA2.out.keep hbr).2 aB;have hc1:wr.cell? ⟨b,o+k,none⟩=some (.string x):=hcell k _ gB;have hc2:wr.cell? ⟨bb,oo+k,none⟩=some (.string x):=hcell2 k _ gB;have bx:(x.toList != x.toList)=false:=aH;have hk0:(0:Int)<=(k:Int):=aB;have hk1:(k:Int)<(na:Int):=aB;exact Ah
  ·obtain rfl:k=na:=aB;go_wp2;clear x0 x1 x2 x3 x4 x5 x6 y0 y1 y2 y3 y4 y5 y6;obtain⟨wo,rfl⟩:∃ wo:World,wo=wr:=⟨_,rfl⟩;go_loopw [6] (fun vi wz=>∃ j:Nat,vi=.int .i64 j/\j<=nb/\aX wz w.heap.size fr till pat A k ca B nb cb S ns cs us/\aX wz (w.heap.size+1) fr till pat A2 k ca2 B2 nb cb2 S2 ns cs2 us/\aF w wz) (fun i _=>nb-(intOf i).toNat)
   case atStart=>exact⟨0,rfl,Nat.zero_le _,hX,hY,hbr⟩
   case round =>
    clear hX hY hbr;obtain⟨j,rfl,hj,hX,hY,hbr⟩:=hrel;obtain⟨x0,x1,x2,x3,x4,x5,x6⟩:=hX.facts;obtain⟨y0,y1,y2,y3,y4,y5,y6⟩:=hY.facts;by_cases hlt2:j<nb
    ·obtain⟨x,hx⟩:∃ x,co[j]? = some x:=⟨_,List.getElem?_eq_getElem (by have:=HNB.out;omega)⟩;obtain⟨b,o,rfl,hcell⟩:=(HB.out.keep hbr).2 aB;obtain⟨bb,oo,rfl,hcell2⟩:=(HB2.out.keep hbr).2 aB;have hc1:wr.cell? ⟨b,o+j,none⟩=some (.string x):=hcell j _ gB;have hc2:wr.cell? ⟨bb,oo+j,none⟩=some (.string x):=hcell2 j _ gB;have bx:(x.toList != x.toList)=false:=aH;have hk0:(0:Int)<=(j:Int):=aB;have hk1:(j:Int)<(nb:Int):=aB;exact Ah
    ·obtain rfl:j=nb:=aB;go_wp2;clear x0 x1 x2 x3 x4 x5 x6 y0 y1 y2 y3 y4 y5 y6;obtain⟨wo2,rfl⟩:∃ wo2:World,wo2=wr:=⟨_,rfl⟩;go_loopw [7] (fun vi wz=>∃ i:Nat,vi=.int .i64 i/\i<=ns/\aX wz w.heap.size fr till pat A k ca B j cb S ns cs us/\aX wz (w.heap.size+1) fr till pat A2 k ca2 B2 j cb2 S2 ns cs2 us/\aF w wz) (fun i _=>ns-(intOf i).toNat)
     case atStart=>exact⟨0,rfl,Nat.zero_le _,hX,hY,hbr⟩
     case round =>
      clear hX hY hbr;obtain⟨i,rfl,hi,hX,hY,hbr⟩:=hrel;obtain⟨x0,x1,x2,x3,x4,x5,x6⟩:=hX.facts;obtain⟨y0,y1,y2,y3,y4,y5,y6⟩:=hY.facts;by_cases hlt3:i<ns
      ·obtain⟨x,hx⟩:∃ x,si[i]? = some x:=⟨_,List.getElem?_eq_getElem (by have:=HNS.out;omega)⟩;obtain⟨b,o,rfl,hcell⟩:=(HS.out.keep hbr).2 aB;obtain⟨bb,oo,rfl,hcell2⟩:=(HS2.out.keep hbr).2 aB;have hc1:wr.cell? ⟨b,o+i,none⟩=some (.int .i64 x):=hcell i _ gB;have hc2:wr.cell? ⟨bb,oo+i,none⟩=some (.int .i64 x):=hcell2 i _ gB;have bx:(x != x)=false:=aH;have hk0:(0:Int)<=(i:Int):=aB;have hk1:(i:Int)<(ns:Int):=aB;exact Ah
      ·obtain rfl:i=ns:=aB;go_wp2;go_ret;exact⟨rfl,hbr⟩
end Go.Proofs.YtlkbkclnbppigaaGreatDoor
