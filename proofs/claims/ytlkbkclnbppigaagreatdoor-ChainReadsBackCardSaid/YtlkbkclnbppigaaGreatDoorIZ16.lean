/- What the condition package's join returns. -/
import Derived.Test.YtlkbkclnbppigaaGreatDoorIZ13
import Derived.Lib.SmallJoins
import Derived.Test.YtlkbkclnbppigaaGreatDoorIZ14
set_option maxHeartbeats 8000000
namespace Go.Proofs.YtlkbkclnbppigaaGreatDoor
open Go.RowKit Go.Sort
set_option linter.unusedVariables false
set_option linter.unusedSimpArgs false
set_option maxRecDepth 100000
def Tab (w:World):Prop:=Lib.TabIs Tryz.prog w "internal/strconv.uint64pow10" .u64 Lib.pow10Tab
theorem tab_global:Tryz.prog.globalNamed "internal/strconv.uint64pow10" = some 3:=by kernel_rfl
theorem Tab.keep {w w':World} (h:Tab w) (hb:Below w.heap.size w w'):Tab w':=Go.Joins.tab_stays tab_global h hb (Nat.le_refl _)
def orT (a b:ByteArray):ByteArray:=if a.size=0 then b else a
def commaT (xs:List ByteArray):ByteArray:=⟨(Lib.join (xs.map (·.data.toList)) [44]).toArray⟩
def joinT (xs:List ByteArray):ByteArray:=orT (commaT xs) ⟨#[126]⟩
def itoaB (n:Int):ByteArray:=⟨(Lib.itoa n).toArray⟩
theorem itoa_any (n:Int) (w:World) (h0 : -9223372036854775808≤n) (h1:n≤9223372036854775807) (ht:Tab w):Calls Tryz.prog 57 #[.int .i64 n] w (Ret w (.string (itoaB n))) :=
 (Tryz.strconv_Itoa n h0 h1 w ht).mono fun e w' ⟨he,k,os,hw⟩=>⟨he,by rw[hw];exact below_grown w k os⟩
theorem sclone_any (s:ByteArray) (w:World) (hs:s.size≤281474976710656):Calls Tryz.prog 191 #[.string s] w (Ret w (.string s)):=by
 have HC:=Lib.hid (fun W=>Tryz.stringslite_Clone s W hs)
 go_enter Tryz.func191,Tryz.ntmps191
 go_wp2_with (go_at_call 246;refine (HC.out _).mono ?_;rintro e w2 ⟨rfl,hb2⟩)
 go_ret
 exact⟨rfl,belB⟩
theorem comma_any (A:Option Addr) (n c:Nat) (ws:List ByteArray) (W:World) (base:Nat) (hown:W.ownsRow base 9 1 (.slice A n c) n (ws.map .string)) (hlen:(Lib.join (ws.map (·.data.toList)) [44]).length≤140737488355328) (hn:n≤1000000) :
  Calls Tryz.prog 72 #[.slice A n c,.string ⟨#[44]⟩] W (Ret W (.string (commaT ws))):=by
 have hl:ws.length=n:=by have:=hown.1;simpa using this
 rcases hown.2 with ⟨h,h0⟩ | ⟨g',cap,cur,he,hb,hh,h1,h2,h3,h4⟩
 ·injection h with e1 e2 e3
  subst e1
  subst h0
  obtain rfl:ws=[]:=List.eq_nil_of_length_eq_zero hl
  refine (Tryz.strings_Join_none none c ⟨#[44]⟩ W).mono fun e w' ⟨h5,h6⟩=>⟨?_,by rw[h6];exact Below.refl _ _⟩
  rw[h5]
  rfl
 ·injection he with e1 e2 e3
  subst e1;subst e3
  have hcells:=World.ownsRow.cells hown (g:=g') rfl
  have:=Tryz.strings_Join g' 0 c ws ⟨#[44]⟩ W (by
   intro j x hx
   have h9:=hcells j (.string x) (by simp[hx])
   unfold Addr.add at h9
   split at h9 <;> simp_all) ((hown.lt g' rfl).2) (by omega) (by omega) hlen
  rw[hl]at this
  exact this
theorem two_cells0 (W:World) (t:Nat) (a b:Value) (g:Nat) (hg:g=W.heap.size):(W.alloc (.cells #[a,b] t)).cell? ⟨g,0,none⟩=some a∧(W.alloc (.cells #[a,b] t)).cell? ⟨g,1,none⟩=some b:=by
 subst hg
 have h:Blk (W.alloc (.cells #[a,b] t)) W.heap.size t #[a,b] (0,0):=World.alloc_heap_new _ _
 exact⟨Blk.cell h 0,Blk.cell h 1⟩
theorem joinS_any (g:Nat) (eg:∀ args w,(callFunc g args).run Tryz.prog w=.ok (.enter g args) w) (f:ByteArray→ByteArray) (A:Option Addr) (n c:Nat) (xs:List ByteArray) (w:World)
  (hf:∀ x∈xs,∀ W,Below w.heap.size w W→Calls Tryz.prog g #[.string x] W (Ret W (.string (f x)))) (hA:Reads w 1 A n (xs.map .string)) (hn:n≤1000000) (hlen:(Lib.join ((xs.map f).map (·.data.toList)) [44]).length≤140737488355328) :
  Calls Tryz.prog 192 #[.slice A n c,.func (.func g) #[] #[]] w (Ret w (.string (joinT (xs.map f)))):=by
 have hl:xs.length=n:=by have:=hA.1;simp at this;omega
 obtain⟨i0,hi0,hz0,hz1,hz2⟩:=info_parts infoStr
 have HI:Hid ((Tryz.prog.info? 9=some i0)∧i0.zero=some (.string ⟨#[]⟩)∧i0.size=1∧i0.bytes=16):=Lib.hid ⟨hi0,hz0,hz1,hz2⟩
 have HF:=Lib.hid hf;have HA:=Lib.hid hA;have HL:=Lib.hid hl;have HLEN:=Lib.hid hlen
 unfold joinT orT
 obtain⟨V,hV⟩:∃ V,V=(if (commaT (xs.map f)).size=0 then (⟨#[126]⟩:ByteArray) else commaT (xs.map f)):=⟨_,rfl⟩
 rw[←hV]
 have HV:=Lib.hid hV
 clear hf hA hl hi0 hz0 hz1 hz2 hlen hV
 go_enter Tryz.func192,Tryz.ntmps192
 go_wp2_with fail
 go_loopw [5,10] (fun va vi wr=>∃ (k:Nat) (A':Option Addr) (c':Nat),(va=.slice A' k c'∧vi=.int .i64 k∧k≤n)∧wr.ownsRow w.heap.size 9 1 (.slice A' k c') k (((xs.map f).take k).map .string)∧Below w.heap.size w wr) (fun _ vi _=>n-(intOf vi).toNat)
 case atStart=>exact⟨0,none,0,⟨rfl,rfl,Nat.zero_le _⟩,World.ownsRow_nil _ _ _ _,Below.refl _ _⟩
 case round =>
  obtain⟨k,A',c',⟨rfl,rfl,hk⟩,hown,hbr⟩:=hrel
  by_cases hlt:k<n
  ·obtain⟨x,hx⟩:∃ x,xs[k]? = some x:=⟨_,List.getElem?_eq_getElem (by have:=HL.out;omega)⟩
   obtain⟨pb,po,rfl,hcell⟩:=(HA.out.keep hbr).2 (by omega)
   have hc1:wr.cell? ⟨pb,po+k,none⟩=some (.string x):=hcell k _ (by simp[hx])
   have hk0:(0:Int)≤(k:Int):=by omega
   have hk1:(k:Int)<(n:Int):=by omega
   have htk:(xs.map f).take (k+1)=(xs.map f).take k++[f x]:=by rw[List.take_add_one,List.getElem?_map,hx];rfl
   have HTK:=Lib.hid htk
   have HX:=Lib.hid hx
   clear hcell hx htk
   go_wp2_with (first | (go_at_fn g;refine (HF.out x (List.mem_of_getElem? HX.out) _ belB).mono ?_;rintro e w2 ⟨rfl,hb2⟩) | (at_builtin;refine wpList_append_own _ rfl _ _ 24 rfl w.heap.size 9 i0 (.string ⟨#[]⟩) 1 16 Tryz.underlying24 HI.out.1 HI.out.2.1 HI.out.2.2.1 HI.out.2.2.2 rfl (by decide) _ _ _ rfl ((ownsRow_keep hown hb2).alloc _) ⟨w2.heap.size,0,none⟩ 1 1 [.string (f x)] rfl rfl (cell_one_new _ _ _) (by simp[Value.oneCell']) (by unfold maxLen;omega) (by omega) (by have:=hb2.size;have:=hbr.size;simp at *;omega) ?_;intro v' w3 hown' hgrow _;obtain⟨g',cap',rfl⟩:=ownsRow_succ hown'))
   refine⟨⟨k+1,some ⟨g',0,none⟩,cap',⟨rfl,by go_num,by omega⟩,?_,?_⟩,by simp[intOf];omega⟩
   ·rw[HTK.out,List.map_append];exact hown'
   ·have h1:=hbr.size
    have h2:=hb2.size
    exact ((hbr.trans (hb2.mono h1)).alloc (by omega) _).grown hgrow (by simp;omega) (fun r e=>ownsRow_block hown r e)
  ·obtain rfl:k=n:=by omega
   have ht:(xs.map f).take k=xs.map f:=List.take_of_length_le (by simp;have:=HL.out;omega)
   rw[ht]at hown
   have cJ:=comma_any A' k c' (xs.map f) wr w.heap.size hown HLEN.out hn
   have HJ:=Lib.hid cJ
   have cO:=fun (b cc:Nat) (W:World) h0 h1=>cmpOr_any b cc (commaT (xs.map f)) ⟨#[126]⟩ W h0 h1
   have hVO:=HV.out
   rw[←hVO]at cO
   generalize commaT (xs.map f)=T at *
   have HO:=Lib.hid cO
   clear cJ cO hVO HV ht hown
   go_wp2_with (first | (go_at_call 72;refine HJ.out.mono ?_;rintro e w2 ⟨rfl,hb2⟩) | (go_at_call 108;refine (HO.out _ _ _ (two_cells0 _ _ _ _ _ (by simp)).1 (two_cells0 _ _ _ _ _ (by simp)).2).mono ?_;rintro e w3 ⟨rfl,hb3⟩))
   go_ret
   exact⟨rfl,belB⟩
theorem joinI_any (g:Nat) (eg:∀ args w,(callFunc g args).run Tryz.prog w=.ok (.enter g args) w) (f:Int→ByteArray) (A:Option Addr) (n c:Nat) (xs:List Int) (w:World)
  (hf:∀ x∈xs,∀ W,Below w.heap.size w W→Calls Tryz.prog g #[.int .i64 x] W (Ret W (.string (f x)))) (hA:Reads w 1 A n (xs.map (.int .i64))) (hn:n≤1000000) (hlen:(Lib.join ((xs.map f).map (·.data.toList)) [44]).length≤140737488355328) :
  Calls Tryz.prog 193 #[.slice A n c,.func (.func g) #[] #[]] w (Ret w (.string (joinT (xs.map f)))):=by
 have hl:xs.length=n:=by have:=hA.1;simp at this;omega
 obtain⟨i0,hi0,hz0,hz1,hz2⟩:=info_parts infoStr
 have HI:Hid ((Tryz.prog.info? 9=some i0)∧i0.zero=some (.string ⟨#[]⟩)∧i0.size=1∧i0.bytes=16):=Lib.hid ⟨hi0,hz0,hz1,hz2⟩
 have HF:=Lib.hid hf;have HA:=Lib.hid hA;have HL:=Lib.hid hl;have HLEN:=Lib.hid hlen
 unfold joinT orT
 obtain⟨V,hV⟩:∃ V,V=(if (commaT (xs.map f)).size=0 then (⟨#[126]⟩:ByteArray) else commaT (xs.map f)):=⟨_,rfl⟩
 rw[←hV]
 have HV:=Lib.hid hV
 clear hf hA hl hi0 hz0 hz1 hz2 hlen hV
 go_enter Tryz.func193,Tryz.ntmps193
 go_wp2_with fail
 go_loopw [5,10] (fun va vi wr=>∃ (k:Nat) (A':Option Addr) (c':Nat),(va=.slice A' k c'∧vi=.int .i64 k∧k≤n)∧wr.ownsRow w.heap.size 9 1 (.slice A' k c') k (((xs.map f).take k).map .string)∧Below w.heap.size w wr) (fun _ vi _=>n-(intOf vi).toNat)
 case atStart=>exact⟨0,none,0,⟨rfl,rfl,Nat.zero_le _⟩,World.ownsRow_nil _ _ _ _,Below.refl _ _⟩
 case round =>
  obtain⟨k,A',c',⟨rfl,rfl,hk⟩,hown,hbr⟩:=hrel
  by_cases hlt:k<n
  ·obtain⟨x,hx⟩:∃ x,xs[k]? = some x:=⟨_,List.getElem?_eq_getElem (by have:=HL.out;omega)⟩
   obtain⟨pb,po,rfl,hcell⟩:=(HA.out.keep hbr).2 (by omega)
   have hc1:wr.cell? ⟨pb,po+k,none⟩=some (.int .i64 x):=hcell k _ (by simp[hx])
   have hk0:(0:Int)≤(k:Int):=by omega
   have hk1:(k:Int)<(n:Int):=by omega
   have htk:(xs.map f).take (k+1)=(xs.map f).take k++[f x]:=by rw[List.take_add_one,List.getElem?_map,hx];rfl
   have HTK:=Lib.hid htk
   have HX:=Lib.hid hx
   clear hcell hx htk
   go_wp2_with (first | (go_at_fn g;refine (HF.out x (List.mem_of_getElem? HX.out) _ belB).mono ?_;rintro e w2 ⟨rfl,hb2⟩) | (at_builtin;refine wpList_append_own _ rfl _ _ 24 rfl w.heap.size 9 i0 (.string ⟨#[]⟩) 1 16 Tryz.underlying24 HI.out.1 HI.out.2.1 HI.out.2.2.1 HI.out.2.2.2 rfl (by decide) _ _ _ rfl ((ownsRow_keep hown hb2).alloc _) ⟨w2.heap.size,0,none⟩ 1 1 [.string (f x)] rfl rfl (cell_one_new _ _ _) (by simp[Value.oneCell']) (by unfold maxLen;omega) (by omega) (by have:=hb2.size;have:=hbr.size;simp at *;omega) ?_;intro v' w3 hown' hgrow _;obtain⟨g',cap',rfl⟩:=ownsRow_succ hown'))
   refine⟨⟨k+1,some ⟨g',0,none⟩,cap',⟨rfl,by go_num,by omega⟩,?_,?_⟩,by simp[intOf];omega⟩
   ·rw[HTK.out,List.map_append];exact hown'
   ·have h1:=hbr.size
    have h2:=hb2.size
    exact ((hbr.trans (hb2.mono h1)).alloc (by omega) _).grown hgrow (by simp;omega) (fun r e=>ownsRow_block hown r e)
  ·obtain rfl:k=n:=by omega
   have ht:(xs.map f).take k=xs.map f:=List.take_of_length_le (by simp;have:=HL.out;omega)
   rw[ht]at hown
   have cJ:=comma_any A' k c' (xs.map f) wr w.heap.size hown HLEN.out hn
   have HJ:=Lib.hid cJ
   have cO:=fun (b cc:Nat) (W:World) h0 h1=>cmpOr_any b cc (commaT (xs.map f)) ⟨#[126]⟩ W h0 h1
   have hVO:=HV.out
   rw[←hVO]at cO
   generalize commaT (xs.map f)=T at *
   have HO:=Lib.hid cO
   clear cJ cO hVO HV ht hown
   go_wp2_with (first | (go_at_call 72;refine HJ.out.mono ?_;rintro e w2 ⟨rfl,hb2⟩) | (go_at_call 108;refine (HO.out _ _ _ (two_cells0 _ _ _ _ _ (by simp)).1 (two_cells0 _ _ _ _ _ (by simp)).2).mono ?_;rintro e w3 ⟨rfl,hb3⟩))
   go_ret
   exact⟨rfl,belB⟩
structure VaryV where
 header:ByteArray
 values:List ByteArray
 dflt:ByteArray
structure VaryM where
 v:VaryV
 A:Option Addr
 c:Nat
def VaryM.cells (x:VaryM):List Value:=[.string x.v.header,.slice x.A x.v.values.length x.c,.string x.v.dflt]
def VaryReads (w:World) (x:VaryM):Prop:=Reads w 1 x.A x.v.values.length (x.v.values.map .string)
theorem VaryReads.keep {w w':World} {x:VaryM} (h:VaryReads w x) (hb:Below w.heap.size w w'):VaryReads w' x:=Reads.keep h hb
structure RuleV where
 name:ByteArray
 pat:ByteArray
 tags:List ByteArray
 fresh:Int
 stale:Int
 down:Int
 neg:Int
 vary:List VaryV
 allow:CondV
 signed:Bool
 cost:Int
 prog:ByteArray
structure RuleM where
 r:RuleV
 T:Option Addr
 ct:Nat
 V:Option Addr
 cv:Nat
 L:List VaryM
 m:CondMem
def RuleM.cells (x:RuleM):List Value:=[.string x.r.name,.string x.r.pat,.slice x.T x.r.tags.length x.ct,.int .i64 x.r.fresh,.int .i64 x.r.stale,.int .i64 x.r.down,.int .i64 x.r.neg,.slice x.V x.r.vary.length x.cv,
 .int .i64 x.r.allow.fr,.int .i64 x.r.allow.till,.string x.r.allow.pat,.slice x.m.A x.r.allow.cl.length x.m.ca,.slice x.m.B x.r.allow.co.length x.m.cb,.slice x.m.S x.r.allow.si.length x.m.cs,.int .i64 x.r.allow.us,.bool x.r.signed,.int .i64 x.r.cost,.string x.r.prog]
def RuleM.val (x:RuleM):Value:=.agg x.cells.toArray
structure RuleReads (w:World) (x:RuleM):Prop where
 tags:Reads w 1 x.T x.r.tags.length (x.r.tags.map .string)
 vary:Reads w 3 x.V x.r.vary.length (x.L.flatMap VaryM.cells)
 same:x.L.map (·.v)=x.r.vary
 each:∀ y∈x.L,VaryReads w y
 allow:CondReads w x.r.allow x.m
theorem RuleReads.keep {w w':World} {x:RuleM} (h:RuleReads w x) (hb:Below w.heap.size w w'):RuleReads w' x :=
 ⟨h.tags.keep hb,h.vary.keep hb,h.same,fun y hy=>(h.each y hy).keep hb,h.allow.keep hb⟩
theorem VaryM.cells_len (x:VaryM):x.cells.length=3:=rfl
theorem RuleM.cells_len (x:RuleM):x.cells.length=18:=rfl
structure RulesRead (w:World) (A:Option Addr) (n:Nat) (L:List RuleM):Prop where
 len:L.length=n
 rows:Reads w 18 A n (L.flatMap RuleM.cells)
 each:∀ x∈L,RuleReads w x
theorem RulesRead.keep {w w':World} {A:Option Addr} {n:Nat} {L:List RuleM} (h:RulesRead w A n L) (hb:Below w.heap.size w w'):RulesRead w' A n L:=⟨h.len,h.rows.keep hb,fun x hx=>(h.each x hx).keep hb⟩
theorem RulesRead.at_ {w:World} {A:Option Addr} {n k:Nat} {L:List RuleM} {x:RuleM} (h:RulesRead w A n L) (hk:L[k]? = some x) :
  RuleReads w x∧∃ b o,A=some ⟨b,o,none⟩∧∀ j u,x.cells[j]? = some u→w.cell? ⟨b,o+k*18+j,none⟩=some u :=
 ⟨h.each x (List.mem_of_getElem? hk),Reads.row h.rows (fun a _=>a.cells_len) h.len hk⟩
def OwnPost (ps:List ByteArray) (w:World) (e:Ending) (w':World):Prop:=∃ A c,e=.returned (.slice A ps.length c)∧w'.ownsRow w.heap.size 9 1 (.slice A ps.length c) ps.length (ps.map .string)∧Below w.heap.size w w'
def OwnB (l:List Nat) (w:World) (e:Ending) (w':World):Prop:=∃ A c,e=.returned (.slice A l.length c)∧w'.ownsRow w.heap.size 5 1 (.slice A l.length c) l.length (b8 l)∧Below w.heap.size w w'
theorem infoByte22:(Tryz.prog.info? 5).map (fun i=>(i.zero,i.size,i.bytes))=some (some (.int .u8 0),1,1):=by kernel_rfl
theorem or128 (y:Nat) (hy:y<256):y|||128=y % 128+128:=by
 have:∀ y:Fin 256,y.val|||128=y.val % 128+128:=by decide
 exact this ⟨y,hy⟩
theorem or128_bits (z:Nat):bits .or .u8 ((z:Int) % 256) 128=((z % 128+128:Nat):Int):=by
 have h:=u8_or_nat (z % 256) 128 (Nat.mod_lt _ (by decide)) (by decide)
 rw[or128 _ (Nat.mod_lt _ (by decide)),Nat.mod_mod_of_dvd z (by decide:128 ∣ 256)]at h
 have e:((z % 256:Nat):Int)=(z:Int) % 256:=by simp
 rw[e]at h;exact h
theorem zz_bits (n:Nat) (hn:n≤4611686018427387903):bits .xor .u64 ((n:Int)*2) 0=((2*n:Nat):Int):=by
 have h:=u64_xor_nat (2*n) 0 (by omega) (by decide)
 rw[Nat.xor_zero]at h
 have e:((2*n:Nat):Int)=(n:Int)*2:=by omega
 rw[e]at h ⊢;exact h
theorem wireInt_any (n:Nat) (w:World) (hn:n≤1000000000000):Calls Tryz.prog 179 #[.int .i64 (n:Int)] w (OwnB (Sha.vint (2*n)) w):=by
 obtain⟨i0,hi,hz0,hz1,hz2⟩:=info_parts infoByte22
 have HI:=Lib.hid (And.intro hi (And.intro hz0 (And.intro hz1 hz2)))
 clear hi hz0 hz1 hz2
 have hzz:=zz_bits n (by omega)
 obtain⟨V,hV⟩:∃ V,V=Sha.vint (2*n):=⟨_,rfl⟩
 rw[←hV]
 have HV:=Lib.hid hV
 clear hV
 have e63:(n:Int) / 9223372036854775808=0:=by omega
 go_enter Tryz.func179,Tryz.ntmps179
 go_wp2
 go_loopw [3,4] (fun zv ov wr=>∃ (f z:Nat) (acc:List Nat) (A:Option Addr) (c:Nat),zv=.int .u64 (z:Int)∧ov=.slice A acc.length c∧z<128 ^ (f+1)∧f≤7∧acc.length+f=7∧Hid (V=acc++Sha.vintF (f+3) z)∧wr.ownsRow w.heap.size 5 1 (.slice A acc.length c) acc.length (b8 acc)∧Below w.heap.size w wr) (fun zv _ _=>(intOf zv).toNat)
 case atStart =>
  refine⟨7,2*n,[],none,0,by simp,rfl,by simp;omega,by omega,rfl,Lib.hid ?_,World.ownsRow_nil _ _ _ _,Below.refl _ _⟩
  rw[HV.out];rfl
 case round =>
  obtain⟨f,z,acc,A,c,rfl,rfl,hz,hf,hfl,HVA,hown,hbr⟩:=hrel
  have hbs:=hbr.size
  have hzb:z<128 ^ 8:=Nat.lt_of_lt_of_le hz (Nat.pow_le_pow_right (by decide) (by omega))
  have hz0:(0:Int)≤z:=by omega
  have hor:=or128_bits z
  obtain⟨k,hk⟩:∃ k,k=acc.length:=⟨_,rfl⟩
  have hkk:k≤7:=by omega
  have HKL:=Lib.hid hk
  rw[←hk]at hown ⊢
  clear hk
  by_cases h:z<128
  ·have hV1:V=acc++[z]:=by
    rw[HVA.out]
    show acc++(if z<128 then [z] else _)=_
    rw[if_pos h]
   have d1:decide (127<(z:Int))=false:=by simp;omega
   have hm:(z:Int) % 256=z:=by omega
   have HV1:=Lib.hid hV1
   clear HVA hV1
   go_wp2_with (at_builtin;refine wpList_append_own _ rfl _ _ 105 rfl w.heap.size 5 i0 (.int .u8 0) 1 1 Tryz.underlying105 HI.out.1 HI.out.2.1 HI.out.2.2.1 HI.out.2.2.2 rfl (by decide) _ _ _ rfl (hown.alloc _) ⟨wr.heap.size,0,none⟩ 1 1 [.int .u8 (z:Int)] rfl rfl (cell_one_new _ _ _) (by simp[Value.oneCell']) (by unfold maxLen;omega) (by omega) (by simp;omega) ?_;intro v' w3 hown1 hgrow1 _;obtain⟨g1,cap1,rfl⟩:=ownsRow_succ hown1;have hb3:Below w.heap.size w w3:=(hbr.alloc hbs _).grown hgrow1 (by simp;omega) (fun r e=>ownsRow_block hown r e);have hbs3:=hb3.size;clear hown)
   go_ret
   refine⟨some ⟨g1,0,none⟩,cap1,?_,?_,hb3⟩
   ·rw[HV1.out,List.length_append,←HKL.out];rfl
   ·rw[HV1.out,List.length_append,←HKL.out,b8_app];exact hown1
  ·have hV1:V=(acc++[z % 128+128])++Sha.vintF (f+2) (z / 128):=by
    rw[HVA.out]
    show acc++(if z<128 then [z] else (z % 128+128) :: Sha.vintF (f+2) (z / 128))=_
    rw[if_neg h,List.append_assoc];rfl
   have d1:decide (127<(z:Int))=true:=by simp;omega
   have hf0:0<f:=by
    rcases Nat.eq_zero_or_pos f with h0 | h0
    ·subst h0;simp at hz;omega
    ·exact h0
   have hz2:z / 128<128 ^ (f-1+1):=by
    rw[show f-1+1=f by omega]
    rw[Nat.pow_succ]at hz
    exact Nat.div_lt_of_lt_mul (by rw[Nat.mul_comm];exact hz)
   have HV1:=Lib.hid hV1
   have HZ2:=Lib.hid hz2
   clear HVA hV1 hz2 hz
   go_wp2_with (at_builtin;refine wpList_append_own _ rfl _ _ 105 rfl w.heap.size 5 i0 (.int .u8 0) 1 1 Tryz.underlying105 HI.out.1 HI.out.2.1 HI.out.2.2.1 HI.out.2.2.2 rfl (by decide) _ _ _ rfl (hown.alloc _) ⟨wr.heap.size,0,none⟩ 1 1 [.int .u8 ((z % 128+128:Nat):Int)] rfl rfl (cell_one_new _ _ _) (by simp[Value.oneCell']) (by unfold maxLen;omega) (by omega) (by simp;omega) ?_;intro v' w3 hown1 hgrow1 _;obtain⟨g1,cap1,rfl⟩:=ownsRow_succ hown1;have hb3:Below w.heap.size w w3:=(hbr.alloc hbs _).grown hgrow1 (by simp;omega) (fun r e=>ownsRow_block hown r e);have hbs3:=hb3.size;clear hown)
   have hal:(acc++[z % 128+128]).length=k+1:=by rw[List.length_append,←HKL.out];rfl
   refine⟨⟨f-1,z / 128,acc++[z % 128+128],some ⟨g1,0,none⟩,cap1,by simp,by rw[hal],HZ2.out,by omega,by rw[hal];have:=HKL.out;omega,Lib.hid ?_,?_,hb3⟩,?_⟩
   ·rw[HV1.out,show f-1+3=f+2 by omega]
   ·rw[hal,b8_app];exact hown1
   ·simp[intOf];omega
theorem own_slice {w:World} {base n:Nat} {e:TypeId} {v:Value} {xs:List Value} (h:w.ownsRow base e 1 v n xs):∃ A c,v=.slice A n c:=by
 rcases h.2 with ⟨rfl,hx⟩ | ⟨g,cap,cur,rfl,_⟩
 ·have:=h.1
  rw[hx]at this
  have hn:n=0:=by simp at this;omega
  subst hn
  exact⟨none,0,rfl⟩
 ·exact⟨_,_,rfl⟩
theorem strCells_nb (s:ByteArray):Lib.strCells s=b8 (nb s):=txt_nb s
theorem wireBytes_any (s:ByteArray) (w:World) (hs:s.size≤1000000000000):Calls Tryz.prog 119 #[.string s] w (OwnB (Sha.wireB (nb s)) w):=by
 obtain⟨i0,hi,hz0,hz1,hz2⟩:=info_parts infoByte22
 have HI:=Lib.hid (And.intro hi (And.intro hz0 (And.intro hz1 hz2)))
 clear hi hz0 hz1 hz2
 have hin:=wireInt_any s.size w hs
 obtain⟨V,hV⟩:∃ V,V=Sha.vint (2*s.size):=⟨_,rfl⟩
 have hW:Sha.wireB (nb s)=V++nb s:=by unfold Sha.wireB;rw[nb_len,hV]
 rw[←hV]at hin
 rw[hW]
 have hVl:V.length≤11:=by rw[hV];exact Sha.vint_len _
 obtain⟨k,hk⟩:∃ k,k=V.length:=⟨_,rfl⟩
 have hkk:k≤11:=by omega
 have HKL:=Lib.hid hk
 unfold OwnB at hin
 rw[←hk]at hin
 have HIN:=Lib.hid hin
 clear hin hV hW hVl hk
 go_enter Tryz.func119,Tryz.ntmps119
 go_wp2_with (first | (go_at_call 179;refine HIN.out.mono ?_;rintro e w2 ⟨A,c,rfl,hown,hb2⟩) | (at_builtin;refine Lib.wpList_append_own_string _ rfl _ _ 105 9 rfl w.heap.size 5 i0 Tryz.underlying105 Tryz.underlying9 HI.out.1 HI.out.2.1 HI.out.2.2.1 HI.out.2.2.2 _ _ _ rfl hown s rfl (by unfold maxLen;omega) (by omega) (by have:=hb2.size;omega) ?_;intro v' w3 hown1 hgrow1 _))
 obtain⟨A',c',rfl⟩:=own_slice hown1
 go_ret
 have hl:(V++nb s).length=k+s.size:=by rw[List.length_append,nb_len,←HKL.out]
 refine⟨A',c',by rw[hl];rfl,?_,hb2.grown hgrow1 (by have:=hb2.size;omega) (fun r e=>ownsRow_block hown r e)⟩
 rw[hl,b8_app,←strCells_nb];exact hown1
def toN (l:List Nat):ByteArray:=⟨(l.map UInt8.ofNat).toArray⟩
theorem nb_toN {l:List Nat} (h:∀ x∈l,x<256):nb (toN l)=l:=by
 unfold nb toN
 simp only[List.map_map]
 conv=>rhs;rw[←List.map_id l]
 apply List.map_congr_left
 intro x hx
 have:=h x hx
 simp[Nat.mod_eq_of_lt this]
theorem toN_size (l:List Nat):(toN l).size=l.length:=by simp[toN,ByteArray.size]
theorem run_text (W:World) (A:Option Addr) (n c:Nat) (l:List Nat) (hl:l.length=n) (h:∀ x∈l,x<256) (hn:0<n) (hR:Reads W 1 A n (b8 l)):(convert 105 9 (.slice A n c)).run Tryz.prog W=.ok (.string (toN l)) W:=by
 obtain⟨b,o,rfl,hc⟩:=hR.2 hn
 have hL:(l.map UInt8.ofNat).length=n:=by rw[List.length_map,hl]
 subst hL
 refine run_convert_bytes_back W _ _ 5 ⟨b,o,none⟩ c (l.map UInt8.ofNat) Tryz.underlying105 Tryz.underlying5 Tryz.underlying9 (fun j hj=>?_)
 have hj':j<l.length:=by simpa using hj
 have e:(⟨b,o,none⟩:Addr).add j=⟨b,o+j,none⟩:=by unfold Addr.add;split <;> simp_all
 rw[e,hc j _ (b8_at l hj')]
 have hx:=h l[j] (List.getElem_mem hj')
 simp[List.getD_eq_getElem?_getD,List.getElem?_eq_getElem hj',Nat.mod_eq_of_lt hx]
theorem reads_own {w:World} {base n c:Nat} {A:Option Addr} {xs:List Value} (h:w.ownsRow base 5 1 (.slice A n c) n xs):Reads w 1 A n xs:=Reads.of_own h
theorem wireB_lt (s:ByteArray) (hs:s.size≤1000000000000):∀ x∈Sha.wireB (nb s),x<256:=by
 intro x hx
 unfold Sha.wireB at hx
 rcases List.mem_append.1 hx with hx | hx
 ·refine Sha.vintF_lt 10 _ ?_ x hx
  rw[nb_len]
  exact Nat.lt_of_le_of_lt (by omega:2*s.size≤2000000000000) (by decide)
 ·exact nb_lt s x hx
def ResBox (w:World) (g:Nat) (s:ByteArray) (e:Int):Prop:=Blk w g 187 #[.string s,.int .i64 e] (0,0)
theorem blk_free0 {w:World} {g:Nat} {t:TypeId} {cs:Array Value} (h:Blk w g t cs (0,0)) (i:Nat):w.frozen? ⟨g,i,none⟩=false:=by
 unfold Blk at h
 simp[World.frozen?,h]
theorem ResBox.facts {w:World} {g:Nat} {s:ByteArray} {e:Int} (h:ResBox w g s e):w.cell? ⟨g,0,none⟩=some (.string s)∧w.cell? ⟨g,1,none⟩=some (.int .i64 e)∧w.frozen? ⟨g,0,none⟩=false∧w.frozen? ⟨g,1,none⟩=false :=
 ⟨Blk.cell h 0,Blk.cell h 1,blk_free0 h 0,blk_free0 h 1⟩
theorem rSame_eq (fr till us:Int) (pat:ByteArray) (A B S A2 B2 S2:Option Addr) (na ca nb cb ns cs ca2 cb2 cs2:Nat) (cl co:List ByteArray) (si:List Int) (w:World)
  (hA:Reads w 1 A na (cl.map .string)) (hB:Reads w 1 B nb (co.map .string)) (hS:Reads w 1 S ns (si.map (.int .i64))) (hA2:Reads w 1 A2 na (cl.map .string)) (hB2:Reads w 1 B2 nb (co.map .string)) (hS2:Reads w 1 S2 ns (si.map (.int .i64))) (hn1:na≤1000000000) (hn2:nb≤1000000000) (hn3:ns≤1000000000) :
  Calls Tryz.prog 21 #[.agg #[.int .i64 fr,.int .i64 till,.string pat,.slice A na ca,.slice B nb cb,.slice S ns cs,.int .i64 us],.agg #[.int .i64 fr,.int .i64 till,.string pat,.slice A2 na ca2,.slice B2 nb cb2,.slice S2 ns cs2,.int .i64 us]] w (Ret w (.bool true)):=by
 have hna:cl.length=na:=by have:=hA.1;simp at this;omega
 have hnb:co.length=nb:=by have:=hB.1;simp at this;omega
 have hns:si.length=ns:=by have:=hS.1;simp at this;omega
 have HA:=Lib.hid hA;have HB:=Lib.hid hB;have HS:=Lib.hid hS;have HA2:=Lib.hid hA2;have HB2:=Lib.hid hB2;have HS2:=Lib.hid hS2;have HNA:=Lib.hid hna;have HNB:=Lib.hid hnb;have HNS:=Lib.hid hns
 have b0:(pat.toList != pat.toList)=false:=by simp
 have b1:(fr != fr)=false:=by simp
 have b2:(till != till)=false:=by simp
 have b3:(us != us)=false:=by simp
 clear hA hB hS hA2 hB2 hS2 hna hnb hns
 go_enter Tryz.func21,Tryz.ntmps21
 go_wp2
 have hX0:CBox ((w.alloc (.cells #[.int .i64 fr,.int .i64 till,.string pat,.slice A na ca,.slice B nb cb,.slice S ns cs,.int .i64 us] 27)).alloc (.cells #[.int .i64 fr,.int .i64 till,.string pat,.slice A2 na ca2,.slice B2 nb cb2,.slice S2 ns cs2,.int .i64 us] 27)) w.heap.size fr till pat A na ca B nb cb S ns cs us:=(Below.heap_alloc _ _ _ (by simp)).trans (World.alloc_heap_new _ _)
 have hY0:CBox ((w.alloc (.cells #[.int .i64 fr,.int .i64 till,.string pat,.slice A na ca,.slice B nb cb,.slice S ns cs,.int .i64 us] 27)).alloc (.cells #[.int .i64 fr,.int .i64 till,.string pat,.slice A2 na ca2,.slice B2 nb cb2,.slice S2 ns cs2,.int .i64 us] 27)) (w.heap.size+1) fr till pat A2 na ca2 B2 nb cb2 S2 ns cs2 us:=by
  have:=World.alloc_heap_new (w.alloc (.cells #[.int .i64 fr,.int .i64 till,.string pat,.slice A na ca,.slice B nb cb,.slice S ns cs,.int .i64 us] 27)) (.cells #[.int .i64 fr,.int .i64 till,.string pat,.slice A2 na ca2,.slice B2 nb cb2,.slice S2 ns cs2,.int .i64 us] 27)
  rw[World.size_alloc]at this
  exact this
 go_loopw [5] (fun vi wr=>∃ k:Nat,vi=.int .i64 k∧k≤na∧CBox wr w.heap.size fr till pat A na ca B nb cb S ns cs us∧CBox wr (w.heap.size+1) fr till pat A2 na ca2 B2 nb cb2 S2 ns cs2 us∧Below w.heap.size w wr) (fun i _=>na-(intOf i).toNat)
 case atStart=>exact⟨0,rfl,Nat.zero_le _,hX0,hY0,balloc (balloc (Below.refl _ _) _) _⟩
 case round =>
  clear hX0 hY0
  obtain⟨k,rfl,hk,hX,hY,hbr⟩:=hrel
  obtain⟨x0,x1,x2,x3,x4,x5,x6⟩:=hX.facts
  obtain⟨y0,y1,y2,y3,y4,y5,y6⟩:=hY.facts
  by_cases hlt:k<na
  ·obtain⟨x,hx⟩:∃ x,cl[k]? = some x:=⟨_,List.getElem?_eq_getElem (by have:=HNA.out;omega)⟩
   obtain⟨b,o,rfl,hcell⟩:=(HA.out.keep hbr).2 (by omega)
   obtain⟨bb,oo,rfl,hcell2⟩:=(HA2.out.keep hbr).2 (by omega)
   have hc1:wr.cell? ⟨b,o+k,none⟩=some (.string x):=hcell k _ (by simp[hx])
   have hc2:wr.cell? ⟨bb,oo+k,none⟩=some (.string x):=hcell2 k _ (by simp[hx])
   have bx:(x.toList != x.toList)=false:=by simp
   have hk0:(0:Int)≤(k:Int):=by omega
   have hk1:(k:Int)<(na:Int):=by omega
   clear hcell hcell2 hx
   go_wp2_with fail
   go_quiet (fail)
   go_wp2
   exact⟨⟨k+1,by go_num,by omega,Blk.keep hX belB,Blk.keep hY belB,belB⟩,by simp[intOf];omega⟩
  ·obtain rfl:k=na:=by omega
   go_wp2
   clear x0 x1 x2 x3 x4 x5 x6 y0 y1 y2 y3 y4 y5 y6
   obtain⟨wo,rfl⟩:∃ wo:World,wo=wr:=⟨_,rfl⟩
   go_loopw [6] (fun vi wz=>∃ j:Nat,vi=.int .i64 j∧j≤nb∧CBox wz w.heap.size fr till pat A k ca B nb cb S ns cs us∧CBox wz (w.heap.size+1) fr till pat A2 k ca2 B2 nb cb2 S2 ns cs2 us∧Below w.heap.size w wz) (fun i _=>nb-(intOf i).toNat)
   case atStart=>exact⟨0,rfl,Nat.zero_le _,hX,hY,hbr⟩
   case round =>
    clear hX hY hbr
    obtain⟨j,rfl,hj,hX,hY,hbr⟩:=hrel
    obtain⟨x0,x1,x2,x3,x4,x5,x6⟩:=hX.facts
    obtain⟨y0,y1,y2,y3,y4,y5,y6⟩:=hY.facts
    by_cases hlt2:j<nb
    ·obtain⟨x,hx⟩:∃ x,co[j]? = some x:=⟨_,List.getElem?_eq_getElem (by have:=HNB.out;omega)⟩
     obtain⟨b,o,rfl,hcell⟩:=(HB.out.keep hbr).2 (by omega)
     obtain⟨bb,oo,rfl,hcell2⟩:=(HB2.out.keep hbr).2 (by omega)
     have hc1:wr.cell? ⟨b,o+j,none⟩=some (.string x):=hcell j _ (by simp[hx])
     have hc2:wr.cell? ⟨bb,oo+j,none⟩=some (.string x):=hcell2 j _ (by simp[hx])
     have bx:(x.toList != x.toList)=false:=by simp
     have hk0:(0:Int)≤(j:Int):=by omega
     have hk1:(j:Int)<(nb:Int):=by omega
     clear hcell hcell2 hx
     go_wp2_with fail
     go_quiet (fail)
     go_wp2
     exact⟨⟨j+1,by go_num,by omega,Blk.keep hX belB,Blk.keep hY belB,belB⟩,by simp[intOf];omega⟩
    ·obtain rfl:j=nb:=by omega
     go_wp2
     clear x0 x1 x2 x3 x4 x5 x6 y0 y1 y2 y3 y4 y5 y6
     obtain⟨wo2,rfl⟩:∃ wo2:World,wo2=wr:=⟨_,rfl⟩
     go_loopw [7] (fun vi wz=>∃ i:Nat,vi=.int .i64 i∧i≤ns∧CBox wz w.heap.size fr till pat A k ca B j cb S ns cs us∧CBox wz (w.heap.size+1) fr till pat A2 k ca2 B2 j cb2 S2 ns cs2 us∧Below w.heap.size w wz) (fun i _=>ns-(intOf i).toNat)
     case atStart=>exact⟨0,rfl,Nat.zero_le _,hX,hY,hbr⟩
     case round =>
      clear hX hY hbr
      obtain⟨i,rfl,hi,hX,hY,hbr⟩:=hrel
      obtain⟨x0,x1,x2,x3,x4,x5,x6⟩:=hX.facts
      obtain⟨y0,y1,y2,y3,y4,y5,y6⟩:=hY.facts
      by_cases hlt3:i<ns
      ·obtain⟨x,hx⟩:∃ x,si[i]? = some x:=⟨_,List.getElem?_eq_getElem (by have:=HNS.out;omega)⟩
       obtain⟨b,o,rfl,hcell⟩:=(HS.out.keep hbr).2 (by omega)
       obtain⟨bb,oo,rfl,hcell2⟩:=(HS2.out.keep hbr).2 (by omega)
       have hc1:wr.cell? ⟨b,o+i,none⟩=some (.int .i64 x):=hcell i _ (by simp[hx])
       have hc2:wr.cell? ⟨bb,oo+i,none⟩=some (.int .i64 x):=hcell2 i _ (by simp[hx])
       have bx:(x != x)=false:=by simp
       have hk0:(0:Int)≤(i:Int):=by omega
       have hk1:(i:Int)<(ns:Int):=by omega
       clear hcell hcell2 hx
       go_wp2_with fail
       go_quiet (fail)
       go_wp2
       exact⟨⟨i+1,by go_num,by omega,Blk.keep hX belB,Blk.keep hY belB,belB⟩,by simp[intOf];omega⟩
      ·obtain rfl:i=ns:=by omega
       go_wp2
       go_ret
       exact⟨rfl,hbr⟩
end Go.Proofs.YtlkbkclnbppigaaGreatDoor
