/- Rules and ways to vary: their values, how they lie in memory. -/
import Derived.Test.YtlkbkclnbppigaaGreatDoorJZ12
set_option maxHeartbeats 8000000
namespace Go.Proofs.YtlkbkclnbppigaaGreatDoor
open Tryz
open Go.RowKit Go.Sort
set_option linter.unusedVariables false
set_option linter.unusedSimpArgs false
set_option maxRecDepth 100000
structure Md where
 header:ByteArray
 values:List ByteArray
 dflt:ByteArray
structure rV where
 v:Md
 A:Option Addr
 c:Nat
def rV.cells(x:rV):List Value:=[.string x.v.header,.slice x.A x.v.values.length x.c,.string x.v.dflt]
def BM(w:World)(x:rV):Prop:=aH w 1 x.A x.v.values.length (x.v.values.map .string)
theorem BM.keep{w w':World}{x:rV}(h:BM w x)(hb:Below w.heap.size w w'):BM w' x:=aH.keep h hb
structure Ze where
 name:ByteArray
 pat:ByteArray
 tags:List ByteArray
 fresh:Int
 stale:Int
 down:Int
 neg:Int
 vary:List Md
 allow:aZ
 signed:Bool
 cost:Int
 prog:ByteArray
structure lU where
 r:Ze
 T:Option Addr
 ct:Nat
 V:Option Addr
 cv:Nat
 L:List rV
 m:af
def lU.cells(x:lU):List Value:=[.string x.r.name,.string x.r.pat,.slice x.T x.r.tags.length x.ct,.int .i64 x.r.fresh,.int .i64 x.r.stale,.int .i64 x.r.down,.int .i64 x.r.neg,.slice x.V x.r.vary.length x.cv,
 .int .i64 x.r.allow.fr,.int .i64 x.r.allow.till,.string x.r.allow.pat,.slice x.m.A x.r.allow.cl.length x.m.ca,.slice x.m.B x.r.allow.co.length x.m.cb,.slice x.m.S x.r.allow.si.length x.m.cs,.int .i64 x.r.allow.us,.bool x.r.signed,.int .i64 x.r.cost,.string x.r.prog]
def lU.val(x:lU):Value:=.agg x.cells.toArray
structure yN(w:World)(x:lU):Prop where
 tags:aH w 1 x.T x.r.tags.length (x.r.tags.map .string)
 vary:aH w 3 x.V x.r.vary.length (x.L.flatMap rV.cells)
 same:x.L.map (·.v)=x.r.vary
 each:∀ y∈x.L,BM w y
 allow:bz w x.r.allow x.m
theorem yN.keep{w w':World}{x:lU}(h:yN w x)(hb:Below w.heap.size w w'):yN w' x :=
 ⟨h.tags.keep hb,h.vary.keep hb,h.same,fun y hy=>(h.each y hy).keep hb,h.allow.keep hb⟩
theorem rV.cells_len(x:rV):x.cells.length=3:=rfl
theorem lU.cells_len(x:lU):x.cells.length=18:=rfl
structure yO(w:World)(A:Option Addr)(n:Nat)(L:List lU):Prop where
 len:L.length=n
 rows:aH w 18 A n (L.flatMap lU.cells)
 each:∀ x∈L,yN w x
theorem yO.keep{w w':World}{A:Option Addr}{n:Nat}{L:List lU}(h:yO w A n L)(hb:Below w.heap.size w w'):yO w' A n L:=⟨h.len,h.rows.keep hb,fun x hx=>(h.each x hx).keep hb⟩
theorem yO.at_{w:World}{A:Option Addr}{n k:Nat}{L:List lU}{x:lU}(h:yO w A n L)(hk:L[k]? = some x) :
  yN w x/\∃ b o,A=some ⟨b,o,none⟩/\∀ j u,x.cells[j]? = some u->w.cell? ⟨b,o+k*18+j,none⟩=some u :=
 ⟨h.each x (List.mem_of_getElem? hk),aH.row h.rows (fun a _=>a.cells_len) h.len hk⟩
theorem Zf(fr till us:Int)(pat:ByteArray)(A B S A2 B2 S2:Option Addr)(na ca nb cb ns cs ca2 cb2 cs2:Nat)(cl co:List ByteArray)(si:List Int)(w:World)
  (hA:aH w 1 A na (cl.map .string)) (hB:aH w 1 B nb (co.map .string)) (hS:aH w 1 S ns (si.map (.int .i64))) (hA2:aH w 1 A2 na (cl.map .string)) (hB2:aH w 1 B2 nb (co.map .string)) (hS2:aH w 1 S2 ns (si.map (.int .i64))) (hn1:na<=1000000000) (hn2:nb<=1000000000) (hn3:ns<=1000000000) :
  Calls prog 21 #[.agg #[.int .i64 fr,.int .i64 till,.string pat,.slice A na ca,.slice B nb cb,.slice S ns cs,.int .i64 us],.agg #[.int .i64 fr,.int .i64 till,.string pat,.slice A2 na ca2,.slice B2 nb cb2,.slice S2 ns cs2,.int .i64 us]] w (Ret w (.bool true)):=by
 have hna:cl.length=na:=iY;have hnb:co.length=nb:=BN;have hns:si.length=ns:=by have:=hS.1;simp at this;omega
 have HA:=aB hA;have HB:=aB hB;have HS:=aB hS;have HA2:=aB hA2;have HB2:=aB hB2;have HS2:=aB hS2;have HNA:=aB hna;have HNB:=aB hnb;have HNS:=aB hns;have b0:(pat.toList != pat.toList)=false:=aF;have b1:(fr != fr)=false:=aF;have b2:(till != till)=false:=aF;have b3:(us != us)=false:=aF;clear hA hB hS hA2 hB2 hS2 hna hnb hns;go_enter func21,ntmps21;go_wp2;have hX0:aV ((w.alloc (.cells #[.int .i64 fr,.int .i64 till,.string pat,.slice A na ca,.slice B nb cb,.slice S ns cs,.int .i64 us] 27)).alloc (.cells #[.int .i64 fr,.int .i64 till,.string pat,.slice A2 na ca2,.slice B2 nb cb2,.slice S2 ns cs2,.int .i64 us] 27)) w.heap.size fr till pat A na ca B nb cb S ns cs us:=(Below.heap_alloc _ _ _ aF).trans (World.alloc_heap_new _ _);have hY0:aV ((w.alloc (.cells #[.int .i64 fr,.int .i64 till,.string pat,.slice A na ca,.slice B nb cb,.slice S ns cs,.int .i64 us] 27)).alloc (.cells #[.int .i64 fr,.int .i64 till,.string pat,.slice A2 na ca2,.slice B2 nb cb2,.slice S2 ns cs2,.int .i64 us] 27)) (w.heap.size+1) fr till pat A2 na ca2 B2 nb cb2 S2 ns cs2 us:=by
  have:=World.alloc_heap_new (w.alloc (.cells #[.int .i64 fr,.int .i64 till,.string pat,.slice A na ca,.slice B nb cb,.slice S ns cs,.int .i64 us] 27)) (.cells #[.int .i64 fr,.int .i64 till,.string pat,.slice A2 na ca2,.slice B2 nb cb2,.slice S2 ns cs2,.int .i64 us] 27);rw[World.size_alloc]at this;exact this
 go_loopw [5] (fun vi wr=>∃ k:Nat,vi=.int .i64 k/\k<=na/\aV wr w.heap.size fr till pat A na ca B nb cb S ns cs us/\aV wr (w.heap.size+1) fr till pat A2 na ca2 B2 nb cb2 S2 ns cs2 us/\Below w.heap.size w wr) (fun i _=>na-(intOf i).toNat)
 case atStart=>exact⟨0,rfl,Nat.zero_le _,hX0,hY0,aU (aU (Below.refl _ _) _) _⟩
 case round =>
  clear hX0 hY0;obtain⟨k,rfl,hk,hX,hY,hbr⟩:=hrel;obtain⟨x0,x1,x2,x3,x4,x5,x6⟩:=hX.facts;obtain⟨y0,y1,y2,y3,y4,y5,y6⟩:=hY.facts;by_cases hlt:k<na
  ·obtain⟨x,hx⟩:∃ x,cl[k]? = some x:=⟨_,List.getElem?_eq_getElem BO⟩;obtain⟨b,o,rfl,hcell⟩:=(HA.out.keep hbr).2 aA;obtain⟨bb,oo,rfl,hcell2⟩:=(HA2.out.keep hbr).2 aA;have hc1:wr.cell? ⟨b,o+k,none⟩=some (.string x):=hcell k _ dL;have hc2:wr.cell? ⟨bb,oo+k,none⟩=some (.string x):=hcell2 k _ dL;have bx:(x.toList != x.toList)=false:=aF;have hk0:(0:Int)<=(k:Int):=aA;have hk1:(k:Int)<(na:Int):=aA;exact FU
  ·obtain rfl:k=na:=aA;go_wp2;clear x0 x1 x2 x3 x4 x5 x6 y0 y1 y2 y3 y4 y5 y6;obtain⟨wo,rfl⟩:∃ wo:World,wo=wr:=⟨_,rfl⟩;go_loopw [6] (fun vi wz=>∃ j:Nat,vi=.int .i64 j/\j<=nb/\aV wz w.heap.size fr till pat A k ca B nb cb S ns cs us/\aV wz (w.heap.size+1) fr till pat A2 k ca2 B2 nb cb2 S2 ns cs2 us/\Below w.heap.size w wz) (fun i _=>nb-(intOf i).toNat)
   case atStart=>exact⟨0,rfl,Nat.zero_le _,hX,hY,hbr⟩
   case round =>
    clear hX hY hbr;obtain⟨j,rfl,hj,hX,hY,hbr⟩:=hrel;obtain⟨x0,x1,x2,x3,x4,x5,x6⟩:=hX.facts;obtain⟨y0,y1,y2,y3,y4,y5,y6⟩:=hY.facts;by_cases hlt2:j<nb
    ·obtain⟨x,hx⟩:∃ x,co[j]? = some x:=⟨_,List.getElem?_eq_getElem (by have:=HNB.out;omega)⟩;obtain⟨b,o,rfl,hcell⟩:=(HB.out.keep hbr).2 aA;obtain⟨bb,oo,rfl,hcell2⟩:=(HB2.out.keep hbr).2 aA;have hc1:wr.cell? ⟨b,o+j,none⟩=some (.string x):=hcell j _ dL;have hc2:wr.cell? ⟨bb,oo+j,none⟩=some (.string x):=hcell2 j _ dL;have bx:(x.toList != x.toList)=false:=aF;have hk0:(0:Int)<=(j:Int):=aA;have hk1:(j:Int)<(nb:Int):=aA;exact FU
    ·obtain rfl:j=nb:=aA;go_wp2;clear x0 x1 x2 x3 x4 x5 x6 y0 y1 y2 y3 y4 y5 y6;obtain⟨wo2,rfl⟩:∃ wo2:World,wo2=wr:=⟨_,rfl⟩;go_loopw [7] (fun vi wz=>∃ i:Nat,vi=.int .i64 i/\i<=ns/\aV wz w.heap.size fr till pat A k ca B j cb S ns cs us/\aV wz (w.heap.size+1) fr till pat A2 k ca2 B2 j cb2 S2 ns cs2 us/\Below w.heap.size w wz) (fun i _=>ns-(intOf i).toNat)
     case atStart=>exact⟨0,rfl,Nat.zero_le _,hX,hY,hbr⟩
     case round =>
      clear hX hY hbr;obtain⟨i,rfl,hi,hX,hY,hbr⟩:=hrel;obtain⟨x0,x1,x2,x3,x4,x5,x6⟩:=hX.facts;obtain⟨y0,y1,y2,y3,y4,y5,y6⟩:=hY.facts;by_cases hlt3:i<ns
      ·obtain⟨x,hx⟩:∃ x,si[i]? = some x:=⟨_,List.getElem?_eq_getElem (by have:=HNS.out;omega)⟩;obtain⟨b,o,rfl,hcell⟩:=(HS.out.keep hbr).2 aA;obtain⟨bb,oo,rfl,hcell2⟩:=(HS2.out.keep hbr).2 aA;have hc1:wr.cell? ⟨b,o+i,none⟩=some (.int .i64 x):=hcell i _ dL;have hc2:wr.cell? ⟨bb,oo+i,none⟩=some (.int .i64 x):=hcell2 i _ dL;have bx:(x != x)=false:=aF;have hk0:(0:Int)<=(i:Int):=aA;have hk1:(i:Int)<(ns:Int):=aA;exact FU
      ·obtain rfl:i=ns:=aA;go_wp2;go_ret;exact⟨rfl,hbr⟩
end Go.Proofs.YtlkbkclnbppigaaGreatDoor
