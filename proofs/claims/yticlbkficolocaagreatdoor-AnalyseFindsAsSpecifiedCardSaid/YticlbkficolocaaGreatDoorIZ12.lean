/- Conditions in memory; what the specification's Few and FewAsk return, and the package's allows and pattern. -/
import Derived.Test.YticlbkficolocaaGreatDoorIZ6
import Derived.Test.YticlbkficolocaaGreatDoorIZ10
import Derived.Lib.SmallJoins
import Derived.Test.YticlbkficolocaaGreatDoorIZ4
import Derived.Test.YticlbkficolocaaGreatDoorCards
import Derived.Test.YticlbkficolocaaGreatDoorTie
import Derived.Deep.DeepHandedRow
import Derived.Stop.LaidErr
set_option maxHeartbeats 4000000
namespace Go.Proofs.YticlbkficolocaaGreatDoor
open Go.RowKit Go.Sort
set_option linter.unusedVariables false
set_option linter.unusedSimpArgs false
set_option maxRecDepth 100000
structure Zy where
 A:Option Addr
 ca:Nat
 B:Option Addr
 cb:Nat
 S:Option Addr
 cs:Nat
structure Xm (w:World) (c:ZV) (m:Zy):Prop where
 cl:Reads w 1 m.A c.cl.length (c.cl.map .string)
 co:Reads w 1 m.B c.co.length (c.co.map .string)
 si:Reads w 1 m.S c.si.length (c.si.map (.int .i64))
theorem Xm.keep {w w':World} {c:ZV} {m:Zy} (h:Xm w c m) (hb:Below w.heap.size w w'):Xm w' c m:=⟨h.cl.keep hb,h.co.keep hb,h.si.keep hb⟩
def Zy.val (c:ZV) (m:Zy):Value:=.agg #[.int .i64 c.fr,.int .i64 c.till,.string c.pat,.slice m.A c.cl.length m.ca,.slice m.B c.co.length m.cb,.slice m.S c.si.length m.cs,.int .i64 c.us]
def Zi (w:World) (g:Nat) (fr till:Int) (pat:ByteArray) (A:Option Addr) (na ca:Nat) (B:Option Addr) (nb cb:Nat) (S:Option Addr) (ns cs:Nat) (us:Int):Prop:=Qv w g 55 #[.int .i64 fr,.int .i64 till,.string pat,.slice A na ca,.slice B nb cb,.slice S ns cs,.int .i64 us] (0,0)
section
variable {w:World} {g:Nat} {fr till us:Int} {pat:ByteArray} {A B S:Option Addr} {na ca nb cb ns cs:Nat}
theorem Zi.facts (h:Zi w g fr till pat A na ca B nb cb S ns cs us) :
  w.cell? ⟨g,0,none⟩=some (.int .i64 fr)∧w.cell? ⟨g,1,none⟩=some (.int .i64 till)∧w.cell? ⟨g,2,none⟩=some (.string pat)∧w.cell? ⟨g,3,none⟩=some (.slice A na ca)∧w.cell? ⟨g,4,none⟩=some (.slice B nb cb)∧w.cell? ⟨g,5,none⟩=some (.slice S ns cs)∧w.cell? ⟨g,6,none⟩=some (.int .i64 us) :=
 ⟨Qv.cell h 0,Qv.cell h 1,Qv.cell h 2,Qv.cell h 3,Qv.cell h 4,Qv.cell h 5,Qv.cell h 6⟩
end
def fewC (na nb ns:Nat) (pat:ByteArray) (cl co:List ByteArray):Bool:=decide (na≤40)&&decide (nb≤40)&&decide (ns≤70)&&decide (pat.size≤1000)&&cl.all (fun x=>decide (x.size≤100))&&co.all (fun x=>decide (x.size≤100))
theorem U7 {α:Type} {p:α→Bool} {l:List α} {k:Nat} {x:α} (h:(l.take k).all p=true) (hx:l[k]? = some x) (hp:p x=true):(l.take (k+1)).all p=true:=by
 rw[List.take_add_one,hx]
 simp[h,hp]
theorem Ko {α:Type} {p:α→Bool} {l:List α} {k:Nat} {x:α} (hx:l[k]? = some x) (hp:p x=false):l.all p=false:=by
 rw[List.all_eq_false]
 exact⟨x,List.mem_of_getElem? hx,by rw[hp];decide⟩
theorem rFew_any (fr till us:Int) (pat:ByteArray) (A B S:Option Addr) (na ca nb cb ns cs:Nat) (cl co:List ByteArray) (w:World) (hA:Reads w 1 A na (cl.map .string)) (hB:Reads w 1 B nb (co.map .string)) :
  Calls Tryz.prog 44 #[.agg #[.int .i64 fr,.int .i64 till,.string pat,.slice A na ca,.slice B nb cb,.slice S ns cs,.int .i64 us]] w (Zx w (.bool (fewC na nb ns pat cl co))):=by
 have hna:cl.length=na:=by have:=hA.1;simp at this;omega
 have hnb:co.length=nb:=by have:=hB.1;simp at this;omega
 obtain⟨V,hV⟩:∃ V,V=fewC na nb ns pat cl co:=⟨_,rfl⟩
 rw[←hV]
 unfold fewC at hV
 have HA:=Lib.hid hA;have HB:=Lib.hid hB;have HNA:=Lib.hid hna;have HNB:=Lib.hid hnb
 clear hA hB hna hnb
 by_cases h1:na≤40
 rotate_left
 ·obtain rfl:V=false:=by rw[hV];simp[h1]
  have d1:decide ((40:Int)<(na:Int))=true:=decide_eq_true (by omega)
  clear hV
  go_enter Tryz.func44,Tryz.ntmps44
  go_wp2
  go_ret
  exact⟨rfl,Qz⟩
 have d1:decide ((40:Int)<(na:Int))=false:=decide_eq_false (by omega)
 by_cases h2:nb≤40
 rotate_left
 ·obtain rfl:V=false:=by rw[hV];simp[h2]
  have d2:decide ((40:Int)<(nb:Int))=true:=decide_eq_true (by omega)
  clear hV
  go_enter Tryz.func44,Tryz.ntmps44
  go_wp2
  go_ret
  exact⟨rfl,Qz⟩
 have d2:decide ((40:Int)<(nb:Int))=false:=decide_eq_false (by omega)
 by_cases h3:ns≤70
 rotate_left
 ·obtain rfl:V=false:=by rw[hV];simp[h3]
  have d3:decide ((70:Int)<(ns:Int))=true:=decide_eq_true (by omega)
  clear hV
  go_enter Tryz.func44,Tryz.ntmps44
  go_wp2
  go_ret
  exact⟨rfl,Qz⟩
 have d3:decide ((70:Int)<(ns:Int))=false:=decide_eq_false (by omega)
 by_cases h4:pat.size≤1000
 rotate_left
 ·obtain rfl:V=false:=by rw[hV];simp[h4]
  have d4:decide ((1000:Int)<(pat.size:Int))=true:=decide_eq_true (by omega)
  clear hV
  go_enter Tryz.func44,Tryz.ntmps44
  go_wp2
  go_ret
  exact⟨rfl,Qz⟩
 have d4:decide ((1000:Int)<(pat.size:Int))=false:=decide_eq_false (by omega)
 have hv2:V=(cl.all (fun x=>decide (x.size≤100))&&co.all (fun x=>decide (x.size≤100))):=by rw[hV];simp[h1,h2,h3,h4]
 have HV:=Lib.hid hv2
 clear hV hv2
 go_enter Tryz.func44,Tryz.ntmps44
 go_wp2
 have hX0:Zi (w.alloc (.cells #[.int .i64 fr,.int .i64 till,.string pat,.slice A na ca,.slice B nb cb,.slice S ns cs,.int .i64 us] 55)) w.heap.size fr till pat A na ca B nb cb S ns cs us:=World.alloc_heap_new _ _
 go_loopw [3] (fun vi wr=>∃ k:Nat,vi=.int .i64 k∧k≤na∧Hid ((cl.take k).all (fun x=>decide (x.size≤100))=true)∧Zi wr w.heap.size fr till pat A na ca B nb cb S ns cs us∧Below w.heap.size w wr) (fun i _=>na-(intOf i).toNat)
 case atStart=>exact⟨0,rfl,Nat.zero_le _,Lib.hid (by simp),hX0,Qk (Below.refl _ _) _⟩
 case round =>
  clear hX0
  obtain⟨k,rfl,hk,HK,hX,hbr⟩:=hrel
  obtain⟨x0,x1,x2,x3,x4,x5,x6⟩:=hX.facts
  by_cases hlt:k<na
  ·obtain⟨x,hx⟩:∃ x,cl[k]? = some x:=⟨_,List.getElem?_eq_getElem (by have:=HNA.out;omega)⟩
   obtain⟨b,o,rfl,hcell⟩:=(HA.out.keep hbr).2 (by omega)
   have hc1:wr.cell? ⟨b,o+k,none⟩=some (.string x):=hcell k _ (by simp[hx])
   have hk0:(0:Int)≤(k:Int):=by omega
   have hk1:(k:Int)<(na:Int):=by omega
   by_cases hs:x.size≤100
   ·have HK2:Hid ((cl.take (k+1)).all (fun x=>decide (x.size≤100))=true):=Lib.hid (U7 HK.out hx (by simpa using hs))
    have d5:decide ((100:Int)<(x.size:Int))=false:=decide_eq_false (by omega)
    clear hcell hx HK
    go_wp2
    exact⟨⟨k+1,by go_num,by omega,HK2,hX,hbr⟩,by simp[intOf];omega⟩
   ·obtain rfl:V=false:=by rw[HV.out,Ko hx (by simpa using hs)];rfl
    have d5:decide ((100:Int)<(x.size:Int))=true:=decide_eq_true (by omega)
    clear hcell hx HK
    go_wp2
    go_ret
    exact⟨rfl,hbr⟩
  ·obtain rfl:k=na:=by omega
   have hall:cl.all (fun x=>decide (x.size≤100))=true:=by
    have:=HK.out
    rwa [List.take_of_length_le (by have:=HNA.out;omega)]at this
   have hv3:V=co.all (fun x=>decide (x.size≤100)):=by rw[HV.out,hall,Bool.true_and]
   have HV2:=Lib.hid hv3
   clear hall hv3 HK HV
   go_wp2
   clear x0 x1 x2 x3 x4 x5 x6
   obtain⟨wo,rfl⟩:∃ wo:World,wo=wr:=⟨_,rfl⟩
   go_loopw [4] (fun vi wz=>∃ j:Nat,vi=.int .i64 j∧j≤nb∧Hid ((co.take j).all (fun x=>decide (x.size≤100))=true)∧Zi wz w.heap.size fr till pat A k ca B nb cb S ns cs us∧Below w.heap.size w wz) (fun i _=>nb-(intOf i).toNat)
   case atStart=>exact⟨0,rfl,Nat.zero_le _,Lib.hid (by simp),hX,hbr⟩
   case round =>
    clear hX hbr
    obtain⟨j,rfl,hj,HJ,hX,hbr⟩:=hrel
    obtain⟨x0,x1,x2,x3,x4,x5,x6⟩:=hX.facts
    by_cases hlt2:j<nb
    ·obtain⟨x,hx⟩:∃ x,co[j]? = some x:=⟨_,List.getElem?_eq_getElem (by have:=HNB.out;omega)⟩
     obtain⟨b,o,rfl,hcell⟩:=(HB.out.keep hbr).2 (by omega)
     have hc1:wr.cell? ⟨b,o+j,none⟩=some (.string x):=hcell j _ (by simp[hx])
     have hj0:(0:Int)≤(j:Int):=by omega
     have hj1:(j:Int)<(nb:Int):=by omega
     by_cases hs:x.size≤100
     ·have HJ2:Hid ((co.take (j+1)).all (fun x=>decide (x.size≤100))=true):=Lib.hid (U7 HJ.out hx (by simpa using hs))
      have d5:decide ((100:Int)<(x.size:Int))=false:=decide_eq_false (by omega)
      clear hcell hx HJ
      go_wp2
      exact⟨⟨j+1,by go_num,by omega,HJ2,hX,hbr⟩,by simp[intOf];omega⟩
     ·obtain rfl:V=false:=by rw[HV2.out,Ko hx (by simpa using hs)]
      have d5:decide ((100:Int)<(x.size:Int))=true:=decide_eq_true (by omega)
      clear hcell hx HJ
      go_wp2
      go_ret
      exact⟨rfl,hbr⟩
    ·obtain rfl:j=nb:=by omega
     have hall:co.all (fun x=>decide (x.size≤100))=true:=by
      have:=HJ.out
      rwa [List.take_of_length_le (by have:=HNB.out;omega)]at this
     obtain rfl:V=true:=by rw[HV2.out,hall]
     go_wp2
     go_ret
     exact⟨rfl,hbr⟩
theorem cmpOr_any (g c:Nat) (a b:ByteArray) (w:World) (h0:w.cell? ⟨g,0,none⟩=some (.string a)) (h1:w.cell? ⟨g,1,none⟩=some (.string b)):Calls Tryz.prog 161 #[.slice (some ⟨g,0,none⟩) 2 c] w (Zx w (.string (if a.size=0 then b else a))):=by
 have hE:∀ s:ByteArray,s.size=0→s=⟨#[]⟩:=fun s h=>Qm (List.eq_nil_of_length_eq_zero (by rw[←Lib.size_eq];exact h))
 have hN:∀ s:ByteArray,s.size≠0→¬ s.toList=[]:=fun s h e=>h (by rw[Lib.toList_data]at e;rw[Lib.size_eq,e];rfl)
 obtain⟨V,hV⟩:∃ V,V=if a.size=0 then b else a:=⟨_,rfl⟩
 rw[←hV]
 have HV:=Lib.hid hV
 have H0:=Lib.hid h0
 have H1:=Lib.hid h1
 clear h0 h1 hV
 go_enter Tryz.func161,Tryz.ntmps161
 go_wp2
 go_loopw [8] (fun vi wr=>∃ k:Nat,vi=.int .i64 k∧k≤2∧Hid ((0<k→a.size=0)∧(1<k→b.size=0))∧Below w.heap.size w wr) (fun i _=>2-(intOf i).toNat)
 case atStart=>exact⟨0,rfl,by omega,Lib.hid ⟨fun h=>by omega,fun h=>by omega⟩,Below.refl _ _⟩
 case round =>
  obtain⟨k,rfl,hk,HK,hbr⟩:=hrel
  have c0:=Qq hbr H0.out
  have c1:=Qq hbr H1.out
  by_cases hlt:k<2
  ·rcases k with _ | _ | k
   ·by_cases hs:a.size=0
    ·have ha:=hE a hs
     have HK2:Hid ((0<1→a.size=0)∧(1<1→b.size=0)):=Lib.hid ⟨fun _=>hs,fun h=>by omega⟩
     rw[ha]at c0
     clear HK ha
     go_wp2
     exact⟨⟨1,by go_num,by omega,HK2,hbr⟩,by simp[intOf];try omega⟩
    ·have hn:=hN a hs
     have hn2:(a.toList == [])=false:=by simpa using hn
     obtain rfl:V=a:=by rw[HV.out,if_neg hs]
     clear HK
     go_wp2
     go_ret
     exact⟨rfl,hbr⟩
   ·have hs:=HK.out.1 (by omega)
    obtain rfl:V=b:=by rw[HV.out,if_pos hs]
    by_cases hs2:V.size=0
    ·have hb:=hE V hs2
     have HK2:Hid ((0<2→a.size=0)∧(1<2→V.size=0)):=Lib.hid ⟨fun _=>hs,fun _=>hs2⟩
     rw[hb]at c1
     clear HK hb
     go_wp2
     exact⟨⟨2,by go_num,by omega,HK2,hbr⟩,by simp[intOf];try omega⟩
    ·have hn:=hN V hs2
     have hn2:(V.toList == [])=false:=by simpa using hn
     clear HK
     go_wp2
     go_ret
     exact⟨rfl,hbr⟩
   ·omega
  ·obtain rfl:k=2:=by omega
   have hs:=HK.out.1 (by omega)
   have hs2:=HK.out.2 (by omega)
   obtain rfl:V=⟨#[]⟩:=by rw[HV.out,if_pos hs,hE b hs2]
   go_wp2
   go_ret
   exact⟨rfl,hbr⟩
def Tab (w:World):Prop:=Lib.TabIs Tryz.prog w "internal/strconv.uint64pow10" .u64 Lib.pow10Tab
theorem tab_global:Tryz.prog.globalNamed "internal/strconv.uint64pow10" = some 3:=by kernel_rfl
theorem Tab.keep {w w':World} (h:Tab w) (hb:Below w.heap.size w w'):Tab w':=Go.Joins.tab_stays tab_global h hb (Nat.le_refl _)
def orT (a b:ByteArray):ByteArray:=if a.size=0 then b else a
def commaT (xs:List ByteArray):ByteArray:=⟨(Lib.join (xs.map (·.data.toList)) [44]).toArray⟩
def joinT (xs:List ByteArray):ByteArray:=orT (commaT xs) ⟨#[126]⟩
def itoaB (n:Int):ByteArray:=⟨(Lib.itoa n).toArray⟩
theorem itoa_any (n:Int) (w:World) (h0 : -9223372036854775808≤n) (h1:n≤9223372036854775807) (ht:Tab w):Calls Tryz.prog 165 #[.int .i64 n] w (Zx w (.string (itoaB n))) :=
 (Tryz.strconv_Itoa n h0 h1 w ht).mono fun e w' ⟨he,k,os,hw⟩=>⟨he,by rw[hw];exact below_grown w k os⟩
structure Zo where
 header:ByteArray
 values:List ByteArray
 dflt:ByteArray
structure Qo where
 v:Zo
 A:Option Addr
 c:Nat
def Qo.cells (x:Qo):List Value:=[.string x.v.header,.slice x.A x.v.values.length x.c,.string x.v.dflt]
def Zr (w:World) (x:Qo):Prop:=Reads w 1 x.A x.v.values.length (x.v.values.map .string)
theorem Zr.keep {w w':World} {x:Qo} (h:Zr w x) (hb:Below w.heap.size w w'):Zr w' x:=Reads.keep h hb
structure Vm where
 name:ByteArray
 pat:ByteArray
 tags:List ByteArray
 fresh:Int
 stale:Int
 down:Int
 neg:Int
 vary:List Zo
 allow:ZV
 signed:Bool
 cost:Int
 prog:ByteArray
structure Qh where
 r:Vm
 T:Option Addr
 ct:Nat
 V:Option Addr
 cv:Nat
 L:List Qo
 m:Zy
def Qh.cells (x:Qh):List Value:=[.string x.r.name,.string x.r.pat,.slice x.T x.r.tags.length x.ct,.int .i64 x.r.fresh,.int .i64 x.r.stale,.int .i64 x.r.down,.int .i64 x.r.neg,.slice x.V x.r.vary.length x.cv,
 .int .i64 x.r.allow.fr,.int .i64 x.r.allow.till,.string x.r.allow.pat,.slice x.m.A x.r.allow.cl.length x.m.ca,.slice x.m.B x.r.allow.co.length x.m.cb,.slice x.m.S x.r.allow.si.length x.m.cs,.int .i64 x.r.allow.us,.bool x.r.signed,.int .i64 x.r.cost,.string x.r.prog]
def Qh.val (x:Qh):Value:=.agg x.cells.toArray
structure Xx (w:World) (x:Qh):Prop where
 tags:Reads w 1 x.T x.r.tags.length (x.r.tags.map .string)
 vary:Reads w 3 x.V x.r.vary.length (x.L.flatMap Qo.cells)
 same:x.L.map (·.v)=x.r.vary
 each:∀ y∈x.L,Zr w y
 allow:Xm w x.r.allow x.m
theorem Xx.keep {w w':World} {x:Qh} (h:Xx w x) (hb:Below w.heap.size w w'):Xx w' x :=
 ⟨h.tags.keep hb,h.vary.keep hb,h.same,fun y hy=>(h.each y hy).keep hb,h.allow.keep hb⟩
theorem Qo.cells_len (x:Qo):x.cells.length=3:=rfl
theorem Qh.cells_len (x:Qh):x.cells.length=18:=rfl
structure Qs (w:World) (A:Option Addr) (n:Nat) (L:List Qh):Prop where
 len:L.length=n
 rows:Reads w 18 A n (L.flatMap Qh.cells)
 each:∀ x∈L,Xx w x
theorem Qs.keep {w w':World} {A:Option Addr} {n:Nat} {L:List Qh} (h:Qs w A n L) (hb:Below w.heap.size w w'):Qs w' A n L:=⟨h.len,h.rows.keep hb,fun x hx=>(h.each x hx).keep hb⟩
theorem Qs.at_ {w:World} {A:Option Addr} {n k:Nat} {L:List Qh} {x:Qh} (h:Qs w A n L) (hk:L[k]? = some x) :
  Xx w x∧∃ b o,A=some ⟨b,o,none⟩∧∀ j u,x.cells[j]? = some u→w.cell? ⟨b,o+k*18+j,none⟩=some u :=
 ⟨h.each x (List.mem_of_getElem? hk),Reads.row h.rows (fun a _=>a.cells_len) h.len hk⟩
theorem Q8 {W:World} {g:Nat} {x:Qh} (h:Qi W g 57 x.cells):W.cell? ⟨g,0,none⟩=some (.string x.r.name)∧W.cell? ⟨g,1,none⟩=some (.string x.r.pat)∧W.cell? ⟨g,2,none⟩=some (.slice x.T x.r.tags.length x.ct)∧W.cell? ⟨g,3,none⟩=some (.int .i64 x.r.fresh)∧W.cell? ⟨g,4,none⟩=some (.int .i64 x.r.stale)∧W.cell? ⟨g,5,none⟩=some (.int .i64 x.r.down)∧W.cell? ⟨g,6,none⟩=some (.int .i64 x.r.neg)∧W.cell? ⟨g,7,none⟩=some (.slice x.V x.r.vary.length x.cv)∧W.cell? ⟨g,8,none⟩=some (.int .i64 x.r.allow.fr)∧W.cell? ⟨g,9,none⟩=some (.int .i64 x.r.allow.till)∧W.cell? ⟨g,10,none⟩=some (.string x.r.allow.pat)∧W.cell? ⟨g,11,none⟩=some (.slice x.m.A x.r.allow.cl.length x.m.ca)∧W.cell? ⟨g,12,none⟩=some (.slice x.m.B x.r.allow.co.length x.m.cb)∧W.cell? ⟨g,13,none⟩=some (.slice x.m.S x.r.allow.si.length x.m.cs)∧W.cell? ⟨g,14,none⟩=some (.int .i64 x.r.allow.us)∧W.cell? ⟨g,15,none⟩=some (.bool x.r.signed)∧W.cell? ⟨g,16,none⟩=some (.int .i64 x.r.cost)∧W.cell? ⟨g,17,none⟩=some (.string x.r.prog) :=
 ⟨Qi.cell h rfl,Qi.cell h rfl,Qi.cell h rfl,Qi.cell h rfl,Qi.cell h rfl,Qi.cell h rfl,Qi.cell h rfl,Qi.cell h rfl,Qi.cell h rfl,Qi.cell h rfl,Qi.cell h rfl,Qi.cell h rfl,Qi.cell h rfl,Qi.cell h rfl,Qi.cell h rfl,Qi.cell h rfl,Qi.cell h rfl,Qi.cell h rfl⟩
def Qo.val (x:Qo):Value:=.agg x.cells.toArray
structure QX (w:World) (A:Option Addr) (n:Nat) (L:List Qo):Prop where
 len:L.length=n
 rows:Reads w 3 A n (L.flatMap Qo.cells)
 each:∀ x∈L,Zr w x
theorem QX.keep {w w':World} {A:Option Addr} {n:Nat} {L:List Qo} (h:QX w A n L) (hb:Below w.heap.size w w'):QX w' A n L:=⟨h.len,h.rows.keep hb,fun x hx=>(h.each x hx).keep hb⟩
theorem QX.at_ {w:World} {A:Option Addr} {n k:Nat} {L:List Qo} {x:Qo} (h:QX w A n L) (hk:L[k]? = some x) :
  Zr w x∧∃ b o,A=some ⟨b,o,none⟩∧∀ j u,x.cells[j]? = some u→w.cell? ⟨b,o+k*3+j,none⟩=some u :=
 ⟨h.each x (List.mem_of_getElem? hk),Reads.row h.rows (fun a _=>a.cells_len) h.len hk⟩
theorem Xx.varys {w:World} {x:Qh} (h:Xx w x):QX w x.V x.r.vary.length x.L :=
 ⟨by have h1:=congrArg List.length h.same;rw[List.length_map]at h1;exact h1,h.vary,h.each⟩
structure Hdr where
 name:ByteArray
 value:ByteArray
def Hdr.cells (h:Hdr):List Value:=[.string h.name,.string h.value]
def Hdr.val (h:Hdr):Value:=.agg h.cells.toArray
theorem Hdr.cells_len (x:Hdr):x.cells.length=2:=rfl
structure X4 (w:World) (A:Option Addr) (n:Nat) (L:List Hdr):Prop where
 len:L.length=n
 rows:Reads w 2 A n (L.flatMap Hdr.cells)
theorem X4.keep {w w':World} {A:Option Addr} {n:Nat} {L:List Hdr} (h:X4 w A n L) (hb:Below w.heap.size w w'):X4 w' A n L:=⟨h.len,h.rows.keep hb⟩
theorem X4.at_ {w:World} {A:Option Addr} {n k:Nat} {L:List Hdr} {x:Hdr} (h:X4 w A n L) (hk:L[k]? = some x) :
  True∧∃ b o,A=some ⟨b,o,none⟩∧∀ j u,x.cells[j]? = some u→w.cell? ⟨b,o+k*2+j,none⟩=some u :=
 ⟨trivial,Reads.row h.rows (fun a _=>a.cells_len) h.len hk⟩
theorem load_row_of {T:TypeId} {d:Array Field} (N:Nat) (l:List Value) (hl:l.length=N) (hu:Tryz.prog.underlying T=some (.struct d)) (hi:(Tryz.prog.info? T).map (·.size)=some N) (hg:∀ w,(isAgg T).run Tryz.prog w=.ok true w) (w:World) (b o:Nat) (hc:∀ j u,l[j]? = some u→w.cell? ⟨b,o+j,none⟩=some u):(loadVar T ⟨b,o,none⟩).run Tryz.prog w=.ok (.agg l.toArray) w:=by
 have hld:(loadCells ⟨b,o,none⟩ N).run Tryz.prog w=.ok l.toArray w:=by
  rw[←hl]
  exact run_loadCells_list (P:=Tryz.prog) w ⟨b,o,none⟩ l (fun j v hv=>by
   have hadd:(⟨b,o,none⟩:Addr).add j=⟨b,o+j,none⟩:=by unfold Addr.add;split <;> simp_all
   rw[hadd];exact hc j v hv)
 cases hq:Tryz.prog.info? T with
 | none=>rw[hq]at hi;cases hi
 | some i =>
  have hs:i.size=N:=by rw[hq]at hi;simpa using hi
  simp[loadVar,Sem.run_bind,hg w,sizeOf,typeInfo,hq,hs,hld]
theorem agg_vary (w:World):(isAgg 98).run Tryz.prog w=.ok true w:=by
 unfold isAgg
 rw[Sem.run_bind,run_underlying Tryz.underlying98 w]
 rfl
theorem agg_hdr (w:World):(isAgg 142).run Tryz.prog w=.ok true w:=by
 unfold isAgg
 rw[Sem.run_bind,run_underlying Tryz.underlying142 w]
 rfl
theorem Jf (w:World) (b o:Nat) (x:Qo) (hc:∀ j u,x.cells[j]? = some u→w.cell? ⟨b,o+j,none⟩=some u):(loadVar 98 ⟨b,o,none⟩).run Tryz.prog w=.ok x.val w :=
 load_row_of 3 x.cells rfl Tryz.underlying98 (by kernel_rfl) agg_vary w b o hc
theorem hdr_load (w:World) (b o:Nat) (x:Hdr) (hc:∀ j u,x.cells[j]? = some u→w.cell? ⟨b,o+j,none⟩=some u):(loadVar 142 ⟨b,o,none⟩).run Tryz.prog w=.ok x.val w :=
 load_row_of 2 x.cells rfl Tryz.underlying142 (by kernel_rfl) agg_hdr w b o hc
def Uw (c:Nat):Bool:=decide (97≤c∧c≤122∨48≤c∧c≤57∨c=45)
def Xf (c:Nat):Bool:=decide (33≤c∧c≤126)
theorem nameN_any (c:Nat) (w:World) (hc:c<256):Calls Tryz.prog 196 #[.int .u8 c] w (Zx w (.bool (Uw c))):=by
 go_enter Tryz.func196,Tryz.ntmps196
 go_wp2
 all_goals
  go_ret
  exact⟨QY (by first | (rw[Bool.eq_iff_iff];simp[Uw];done) | (rw[Bool.eq_iff_iff];simp[Uw];omega)),Qz⟩
theorem valueN_any (c:Nat) (w:World) (hc:c<256):Calls Tryz.prog 197 #[.int .u8 c] w (Zx w (.bool (Xf c))):=by
 go_enter Tryz.func197,Tryz.ntmps197
 go_wp2
 all_goals
  go_ret
  exact⟨QY (by first | (rw[Bool.eq_iff_iff];simp[Xf];done) | (rw[Bool.eq_iff_iff];simp[Xf];omega)),Qz⟩
def Xh (p:Nat→Bool) (s:ByteArray):Bool:=s.data.toList.all (fun b=>p b.toNat)&&(decide (1≤s.size)&&decide (s.size≤64))
theorem u8_lt (b:UInt8):b.toNat<256:=by have:=b.toNat_lt;omega
theorem vword_any (g:Nat) (eg:∀ args w,(callFunc g args).run Tryz.prog w=.ok (.enter g args) w) (p:Nat→Bool) (hp:∀ c,c<256→∀ W,Calls Tryz.prog g #[.int .u8 (c:Nat)] W (Zx W (.bool (p c)))) (s:ByteArray) (w:World) (hs:s.size≤1000000) :
  Calls Tryz.prog 195 #[.string s,.func (.func g) #[] #[]] w (Zx w (.bool (Xh p s))):=by
 obtain⟨V,hV⟩:∃ V,V=Xh p s:=⟨_,rfl⟩
 rw[←hV]
 have HV:=Lib.hid hV;have HP:=Lib.hid hp
 clear hV hp
 go_enter Tryz.func195,Tryz.ntmps195
 go_wp2_with fail
 go_loopw [8] (fun i wr=>∃ k:Nat,k≤s.size∧i=.int .i64 k∧Hid ((s.data.toList.take k).all (fun b=>p b.toNat)=true)∧Below w.heap.size w wr) (fun i _=>s.size-(intOf i).toNat)
 case atStart=>exact⟨0,by omega,rfl,Lib.hid (by simp),Below.refl _ _⟩
 case round =>
  obtain⟨k,hk,rfl,HK,hb⟩:=hrel
  by_cases hlt:k<s.size
  ·have ht:=VZ s k hlt
   have hc:=HP.out s[k].toNat (u8_lt _) wr
   have hk0:(0:Int)≤(k:Int):=by omega
   have hk1:(k:Int)<(s.size:Int):=by omega
   cases hpb:p s[k].toNat
   ·rw[hpb]at hc
    have HC:=Lib.hid hc
    obtain rfl:V=false:=by
     rw[HV.out]
     unfold Xh
     rw[Bool.and_eq_false_iff]
     refine .inl ?_
     rw[List.all_eq_false]
     exact⟨s[k],by
      have:s[k]∈s.data.toList.take (k+1):=by rw[ht];simp
      exact List.mem_of_mem_take this,by simp[hpb]⟩
    clear ht hc hpb
    go_wp2_with (go_at_fn g;refine HC.out.mono ?_;rintro e w2 ⟨rfl,hb2⟩)
    go_ret
    exact⟨rfl,Qj hb hb2⟩
   ·rw[hpb]at hc
    have HC:=Lib.hid hc
    have HK2:Hid ((s.data.toList.take (k+1)).all (fun b=>p b.toNat)=true):=Lib.hid (by rw[ht,List.all_append,HK.out];simp[hpb])
    clear ht hc hpb
    go_wp2_with (go_at_fn g;refine HC.out.mono ?_;rintro e w2 ⟨rfl,hb2⟩)
    exact⟨⟨k+1,by omega,by go_num,HK2,Qj hb hb2⟩,by simp[intOf];omega⟩
  ·have hall:V=(decide (1≤s.size)&&decide (s.size≤64)):=by
    have:=HK.out
    rw[List.take_of_length_le (by rw[←Lib.size_eq];omega)]at this
    rw[HV.out,Xh,this,Bool.true_and]
   by_cases h1:1≤s.size
   ·have d1:decide ((1:Int)≤(s.size:Int))=true:=decide_eq_true (by omega)
    by_cases h2:s.size≤64
    ·have d2:decide ((s.size:Int)≤64)=true:=decide_eq_true (by omega)
     obtain rfl:V=true:=by rw[hall,decide_eq_true h1,decide_eq_true h2];rfl
     clear hall
     go_wp2_with fail
     go_ret
     exact⟨rfl,hb⟩
    ·have d2:decide ((s.size:Int)≤64)=false:=decide_eq_false (by omega)
     obtain rfl:V=false:=by rw[hall,decide_eq_false h2,Bool.and_false]
     clear hall
     go_wp2_with fail
     go_ret
     exact⟨rfl,hb⟩
   ·have d1:decide ((1:Int)≤(s.size:Int))=false:=decide_eq_false (by omega)
    obtain rfl:V=false:=by rw[hall,decide_eq_false h1,Bool.false_and]
    clear hall
    go_wp2_with fail
    go_ret
    exact⟨rfl,hb⟩
theorem vname_any (s:ByteArray) (w:World) (hs:s.size≤1000000):Calls Tryz.prog 169 #[.string s] w (Zx w (.bool (Xh Uw s))):=by
 have H:=Lib.hid (fun W=>vword_any 196 (enters_of Tryz.func196 (by kernel_rfl) rfl) Uw (fun c hc W=>nameN_any c W hc) s W hs)
 generalize Xh Uw s=v at *
 go_enter Tryz.func169,Tryz.ntmps169
 go_wp2_with (go_at_call 195;refine (H.out _).mono ?_;rintro e w2 ⟨rfl,hb2⟩)
 go_ret
 exact⟨rfl,hb2⟩
theorem vvalue_any (s:ByteArray) (w:World) (hs:s.size≤1000000):Calls Tryz.prog 170 #[.string s] w (Zx w (.bool (Xh Xf s))):=by
 have H:=Lib.hid (fun W=>vword_any 197 (enters_of Tryz.func197 (by kernel_rfl) rfl) Xf (fun c hc W=>valueN_any c W hc) s W hs)
 generalize Xh Xf s=v at *
 go_enter Tryz.func170,Tryz.ntmps170
 go_wp2_with (go_at_call 195;refine (H.out _).mono ?_;rintro e w2 ⟨rfl,hb2⟩)
 go_ret
 exact⟨rfl,hb2⟩
structure Jk (x:Qh):Prop where
 t:x.r.tags.length≤x.ct
 v:∀ y∈x.L,y.v.values.length≤y.c
 w:x.r.vary.length≤x.cv
end Go.Proofs.YticlbkficolocaaGreatDoor
namespace Go.Proofs.YticlbkficolocaaGreatDoor
open Go.ChangeShapes Go.WideShapes Go.ChangeAt Go.RowKit Go.ChangeMaps
theorem own:ownKnob Tryz.prog.godebug=none:=by kernel_rfl
theorem laidOut:laidOutB Tryz.prog=true:=by kernel_rfl
theorem env_of {W:World} (h:W.ShapedOpen Tryz.prog):Env W :=
 Go.Proofs.cell_of_shapedOpen_int (zero:=#[.int .i64 0]) (t:=3) h (of_decide_eq_true (by kernel_rfl)) (by kernel_rfl) rfl (by kernel_rfl) (by kernel_rfl) Tryz.underlying3
def Yn (k:IntKind) (l:List Nat):Obj→Obj
 | .cells _ t frozen=>.cells (l.map fun (n:Nat)=>Value.int k (n:Int)).toArray t frozen
 | o=>o
def tabA:List Nat:=[0,1,28,2,29,14,24,3,30,22,20,15,25,17,4,8,31,27,13,23,21,19,16,7,26,12,18,6,11,5,10,9]
def tabB:List Nat:=[0,1,56,2,57,49,28,3,61,58,42,50,38,29,17,4,62,47,59,36,45,43,51,22,53,39,33,30,24,18,12,5,63,55,48,27,60,41,37,16,46,35,44,21,52,32,23,11,54,26,40,15,34,20,31,10,25,14,19,9,13,8,7,6]
def tabC:List Nat:=[1,10,100,1000,10000,100000,1000000,10000000,100000000,1000000000,10000000000,100000000000,1000000000000,10000000000000,100000000000000,1000000000000000,10000000000000000,100000000000000000,1000000000000000000,10000000000000000000]
noncomputable def laidWorld (os:Os):World :=
 { World.holding Tryz.prog os ⟨#[],#[],[]⟩ with heap:=(((((World.holding Tryz.prog os ⟨#[],#[],[]⟩).heap.modify 4 (Yn .u8 tabA)).modify 5 (Yn .u8 tabB)).modify 3 (Yn .u64 tabC)).modify 2 (Yn .u8 ([128,191,160,191,128,159,144,191,128,143]++List.replicate 22 0))).modify 1 (Yn .u8 Go.Pinned.utf8FirstZ) }
theorem tab_same:(Rows.laid_internal_strconv_uint64pow10:DataW Unit)=Lib.tabData .u64 Lib.pow10Tab:=by kernel_rfl
theorem tab_of {W:World} {d1 d2:DataW Unit} {n1 n2:String} {rest:List (String × DataW Unit)} (h:laidMet Tryz.prog ((n1,d1) :: (n2,d2) :: ("internal/strconv.uint64pow10", Rows.laid_internal_strconv_uint64pow10) :: rest) W):Tab W:=by
 have h2:=laidMet.tail (laidMet.tail h)
 rw[tab_same]at h2
 exact Lib.tabIs_of_head (g:=3) (by kernel_rfl) (by kernel_rfl) Tryz.underlying256 Tryz.underlying239 (by kernel_rfl) (by kernel_rfl) h2
end Go.Proofs.YticlbkficolocaaGreatDoor
