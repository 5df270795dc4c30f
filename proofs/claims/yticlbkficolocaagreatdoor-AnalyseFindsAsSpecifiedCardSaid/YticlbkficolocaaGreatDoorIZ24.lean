/- What the condition package's Text returns. -/
import Derived.Test.YticlbkficolocaaGreatDoorIZ22
import Derived.Lib.ItoaLen
import Derived.Test.YticlbkficolocaaGreatDoorIZ23
set_option maxHeartbeats 16000000
namespace Go.Proofs.YticlbkficolocaaGreatDoor
open Go.RowKit Go.Sort
set_option linter.unusedVariables false
set_option linter.unusedSimpArgs false
set_option maxRecDepth 100000
def fieldsC (c:ZV):List ByteArray:=[itoaB c.fr,itoaB c.till,orT c.pat ⟨#[126]⟩,joinT c.cl,joinT c.co,joinT (c.si.map itoaB),itoaB c.us]
def textC (c:ZV):ByteArray:=⟨(Lib.join ((fieldsC c).map (·.data.toList)) [32]).toArray⟩
def U0 (l:List ByteArray):Bool:=(List.range l.length).all (Jt KQ Qy l)
def Vf (n:Int):Bool:=decide (0≤n)&&decide (n≤1099511627776)
def X0 (r:Vm):Bool :=
 Qy r.name&&(Qx r.pat).isSome&&U0 r.tags&&Xj r.allow&&Vf r.fresh&&Vf r.stale&&Vf r.down&&Vf r.neg&&decide (r.vary.length≤8)&&decide (0≤r.cost)&&decide (r.cost≤1073741824)&&decide (r.prog.size≤64)
structure Xi (v:Zo):Prop where
 h:v.header.size≤200
 d:v.dflt.size≤200
 n:v.values.length≤10
 x:∀ s∈v.values,s.size≤200
structure Zw (r:Vm):Prop where
 name:r.name.size≤200
 pat:r.pat.size≤200
 prog:r.prog.size≤200
 nt:r.tags.length≤10
 t:∀ s∈r.tags,s.size≤200
 nv:r.vary.length≤10
 v:∀ y∈r.vary,Xi y
 c:Wh r.allow
structure RuleOk (r:Vm):Prop where
 name:Qy r.name=true
 pat:(Qx r.pat).isSome=true
 tags:U0 r.tags=true
 allow:Xj r.allow=true
 f0:0≤r.fresh
 f1:r.fresh≤1099511627776
 s0:0≤r.stale
 s1:r.stale≤1099511627776
 d0:0≤r.down
 d1:r.down≤1099511627776
 n0:0≤r.neg
 n1:r.neg≤1099511627776
 vary:r.vary.length≤8
 c0:0≤r.cost
 c1:r.cost≤1073741824
 prog:r.prog.size≤64
theorem rule_ok {r:Vm} (h:X0 r=true):RuleOk r:=by
 unfold X0 Vf at h
 simp only[Bool.and_eq_true,decide_eq_true_eq]at h
 obtain⟨⟨⟨⟨⟨⟨⟨⟨⟨⟨⟨h1,h2⟩,h3⟩,h4⟩,h5,h6⟩,h7,h8⟩,h9,h10⟩,h11,h12⟩,h13⟩,h14⟩,h15⟩,h16⟩:=h
 exact⟨h1,h2,h3,h4,h5,h6,h7,h8,h9,h10,h11,h12,h13,h14,h15,h16⟩
structure D16 where
 (a0 a1 a2 a3 a4 a5 a6 a7 a8 a9 a10 a11 a12 a13 a14 a15:Int)
structure StampV where
 addr:ByteArray
 variant:ByteArray
 status:Int
 size:Int
 body:D16
 tags:ByteArray
 lo:Int
 hi:Int
 gate:Int
 serial:Int
 seal_:D16
def StampV.cells (s:StampV):List Value:=[.string s.addr,.string s.variant,.int .i64 s.status,.int .i64 s.size,
 .int .u8 s.body.a0,.int .u8 s.body.a1,.int .u8 s.body.a2,.int .u8 s.body.a3,.int .u8 s.body.a4,.int .u8 s.body.a5,.int .u8 s.body.a6,.int .u8 s.body.a7,.int .u8 s.body.a8,.int .u8 s.body.a9,.int .u8 s.body.a10,.int .u8 s.body.a11,.int .u8 s.body.a12,.int .u8 s.body.a13,.int .u8 s.body.a14,.int .u8 s.body.a15,
 .string s.tags,.int .i64 s.lo,.int .i64 s.hi,.int .i64 s.gate,.int .i64 s.serial,
 .int .u8 s.seal_.a0,.int .u8 s.seal_.a1,.int .u8 s.seal_.a2,.int .u8 s.seal_.a3,.int .u8 s.seal_.a4,.int .u8 s.seal_.a5,.int .u8 s.seal_.a6,.int .u8 s.seal_.a7,.int .u8 s.seal_.a8,.int .u8 s.seal_.a9,.int .u8 s.seal_.a10,.int .u8 s.seal_.a11,.int .u8 s.seal_.a12,.int .u8 s.seal_.a13,.int .u8 s.seal_.a14,.int .u8 s.seal_.a15]
def StampV.val (s:StampV):Value:=.agg s.cells.toArray
theorem polName_any (s:ByteArray) (w:World) (hs:s.size≤4294967281) (hE:Env w):Calls Tryz.prog 65 #[.string s] w (Zx w (.bool (Qy s))):=by
 have ht:=fun W (hR:Reads W 1 (some ⟨w.heap.size,0,none⟩) 1 ([s].map .string))=>tags_any (some ⟨w.heap.size,0,none⟩) 1 1 [s] W hR (by simp) (by intro p hp;rw[List.mem_singleton.1 hp];exact hs)
 have hr:Reads (w.alloc (.cells #[.string s] 9)) 1 (some ⟨w.heap.size,0,none⟩) 1 ([s].map .string):=by
  refine⟨rfl,fun _=>⟨_,_,rfl,fun j u hu=>?_⟩⟩
  rw[Nat.zero_add,cell_of_row _ _ _ _ _ _ (World.alloc_heap_new w (.cells #[.string s] 9))]
  simpa using hu
 have h1:=ht _ hr
 unfold tagsV at h1
 rw[tags_one]at h1
 clear ht hr
 by_cases hn:Qy s=true
 ·rw[if_pos hn]at h1
  have H1:=Lib.hid h1
  rw[hn]
  clear h1 hn
  go_enter Tryz.func65,Tryz.ntmps65
  go_wp2_with (go_at_call 58;refine H1.out.mono ?_;rintro e w2 ⟨rfl,hb2⟩)
  go_ret
  exact⟨by simp,Qz⟩
 ·rw[if_neg hn]at h1
  have H1:=Lib.hid h1
  have hf:Qy s=false:=by simpa using hn
  rw[hf]
  clear h1 hn hf
  go_enter Tryz.func65,Tryz.ntmps65
  go_wp2_with (go_at_call 58;refine H1.out.mono ?_;rintro e w2 ⟨rfl,hb2⟩)
  go_ret
  exact⟨by simp,Qz⟩
theorem Qh.val_eq (x:Qh):x.val=.agg #[.string x.r.name,.string x.r.pat,.slice x.T x.r.tags.length x.ct,.int .i64 x.r.fresh,.int .i64 x.r.stale,.int .i64 x.r.down,.int .i64 x.r.neg,.slice x.V x.r.vary.length x.cv,
 .int .i64 x.r.allow.fr,.int .i64 x.r.allow.till,.string x.r.allow.pat,.slice x.m.A x.r.allow.cl.length x.m.ca,.slice x.m.B x.r.allow.co.length x.m.cb,.slice x.m.S x.r.allow.si.length x.m.cs,.int .i64 x.r.allow.us,.bool x.r.signed,.int .i64 x.r.cost,.string x.r.prog]:=rfl
open Go.Maps
theorem StampV.val_eq (s:StampV):s.val=.agg #[.string s.addr,.string s.variant,.int .i64 s.status,.int .i64 s.size,.int .u8 s.body.a0,.int .u8 s.body.a1,.int .u8 s.body.a2,.int .u8 s.body.a3,.int .u8 s.body.a4,.int .u8 s.body.a5,.int .u8 s.body.a6,.int .u8 s.body.a7,.int .u8 s.body.a8,.int .u8 s.body.a9,.int .u8 s.body.a10,.int .u8 s.body.a11,.int .u8 s.body.a12,.int .u8 s.body.a13,.int .u8 s.body.a14,.int .u8 s.body.a15,.string s.tags,.int .i64 s.lo,.int .i64 s.hi,.int .i64 s.gate,.int .i64 s.serial,.int .u8 s.seal_.a0,.int .u8 s.seal_.a1,.int .u8 s.seal_.a2,.int .u8 s.seal_.a3,.int .u8 s.seal_.a4,.int .u8 s.seal_.a5,.int .u8 s.seal_.a6,.int .u8 s.seal_.a7,.int .u8 s.seal_.a8,.int .u8 s.seal_.a9,.int .u8 s.seal_.a10,.int .u8 s.seal_.a11,.int .u8 s.seal_.a12,.int .u8 s.seal_.a13,.int .u8 s.seal_.a14,.int .u8 s.seal_.a15]:=rfl
theorem okK_split {α:Type} (lt:α→α→Bool) (right:α→Bool) (l:List α) (k:Nat):Jt lt right l k=((match l[k]? with
  | none=>true
  | some x=>right x)&&Jt lt (fun _=>true) l k):=by
 unfold Jt
 cases l[k]? <;> simp
theorem setB_split (right:ByteArray→Bool) (most:Nat) (l:List ByteArray):setB KQ right most l=(decide (l.length≤most)&&l.all right&&Vu l):=by
 unfold setB Vu
 rw[Bool.eq_iff_iff]
 simp only[Bool.and_eq_true,decide_eq_true_eq,List.all_eq_true]
 constructor
 ·rintro⟨h1,h2⟩
  refine⟨⟨h2,fun x hx=>?_⟩,fun k hk=>?_⟩
  ·obtain⟨k,hk,rfl⟩:=List.getElem_of_mem hx
   have:=h1 k (by simpa using hk)
   rw[okK_split,List.getElem?_eq_getElem hk,Bool.and_eq_true]at this
   exact this.1
  ·have:=h1 k hk
   rw[okK_split,Bool.and_eq_true]at this
   exact this.2
 ·rintro⟨⟨h1,h2⟩,h3⟩
  refine⟨fun k hk=>?_,h1⟩
  rw[okK_split,Bool.and_eq_true]
  refine⟨?_,h3 k hk⟩
  have hk':k<l.length:=by simpa using hk
  rw[List.getElem?_eq_getElem hk']
  exact h2 _ (List.getElem_mem hk')
def JU (l:List Int):Bool:=(List.range l.length).all (Jt ltI Jb l)
theorem sites_fail {l:List Int} {k:Nat} (hk:k<l.length) (h2:Jt ltI Jb l k=false):JU l=false:=by
 unfold JU
 rw[List.all_eq_false]
 exact⟨k,by simpa using hk,by rw[h2];simp⟩
theorem validC_split (c:ZV):Xj c=(timesB c&&Uc c.pat&&decide (c.cl.length≤32)&&decide (c.co.length≤32)&&decide (c.si.length≤64)&&(c.cl.all Qy&&c.co.all Zn&&JU c.si&&Vu c.cl&&Vu c.co)):=by
 unfold Xj
 rw[setB_split,setB_split]
 have h3:setB ltI Jb 64 c.si=(JU c.si&&decide (c.si.length≤64)):=rfl
 rw[h3]
 generalize timesB c=a1
 generalize Uc c.pat=a2
 generalize decide (c.cl.length≤32)=a3
 generalize decide (c.co.length≤32)=a4
 generalize decide (c.si.length≤64)=a5
 generalize c.cl.all Qy=a6
 generalize c.co.all Zn=a7
 generalize JU c.si=a8
 generalize Vu c.cl=a9
 generalize Vu c.co=a10
 revert a1 a2 a3 a4 a5 a6 a7 a8 a9 a10
 decide
theorem rValid21_any (c:ZV) (m:Zy) (w:World) (hR:Xm w c m) (hp:c.pat.size≤100000) (hcl:∀ x∈c.cl,x.size≤100000) (hco:∀ x∈c.co,x.size≤100000) (h1:c.cl.length≤1000000) (h2:c.co.length≤1000000) (h3:c.si.length≤1000000) :
  Calls Tryz.prog 81 #[Zy.val c m] w (Zx w (.bool (Xj c))):=by
 obtain⟨fr,till,pat,cl,co,si,us⟩:=c
 obtain⟨A,ca,B,cb,S,cs⟩:=m
 obtain⟨hA,hB,hS⟩:=hR
 dsimp only at hA hB hS hp hcl hco h1 h2 h3
 unfold Zy.val
 dsimp only
 obtain⟨V,hV⟩:∃ V,V=Xj ⟨fr,till,pat,cl,co,si,us⟩:=⟨_,rfl⟩
 rw[←hV]
 rw[validC_split]at hV
 unfold timesB Uc at hV
 dsimp only at hV
 have hva:=fun W=>rValid_any pat W hp
 have hna:=fun x (hx:x∈cl) W=>Ue x W (by have:=hcl x hx;omega)
 have hcy:=fun x (hx:x∈co) W=>rCountry_any x W (by have:=hco x hx;omega)
 have has1:=fun W (hb:Below w.heap.size w W)=>rAscend_any A cl.length ca cl W (hA.keep hb) (by omega)
 have has2:=fun W (hb:Below w.heap.size w W)=>rAscend_any B co.length cb co W (hB.keep hb) (by omega)
 generalize (Qx pat).isSome=b1 at *
 obtain⟨na,hna0⟩:∃ na,na=cl.length:=⟨_,rfl⟩
 obtain⟨nb,hnb0⟩:∃ nb,nb=co.length:=⟨_,rfl⟩
 obtain⟨ns,hns0⟩:∃ ns,ns=si.length:=⟨_,rfl⟩
 rw[←hna0]at hA hV h1 has1 ⊢
 rw[←hnb0]at hB hV h2 has2 ⊢
 rw[←hns0]at hS hV h3 ⊢
 have HVA:=Lib.hid hva
 have HNA:=Lib.hid hna
 have HCY:=Lib.hid hcy
 have HAS1:=Lib.hid has1
 have HAS2:=Lib.hid has2
 have HA:=Lib.hid hA;have HB:=Lib.hid hB;have HS:=Lib.hid hS
 have HLA:=Lib.hid hna0;have HLB:=Lib.hid hnb0;have HLS:=Lib.hid hns0
 clear hva hna hcy has1 has2 hA hB hS hna0 hnb0 hns0 hcl hco hp
 by_cases t1:0≤fr
 rotate_left
 ·obtain rfl:V=false:=by rw[hV];simp[t1]
  have d1:decide (fr<0)=true:=decide_eq_true (by omega)
  clear hV
  (go_enter Tryz.func81,Tryz.ntmps81;go_wp2_with (go_at_call 133;refine (HVA.out _).mono ?_;rintro e w2 ⟨rfl,hb2⟩;(have hX2:Zi w2 w.heap.size fr till pat A na ca B nb cb S ns cs us:=(by first | exact Qv.keep hX hb2 | exact Qv.keep hX2 hb2 | exact Qv.keep (World.alloc_heap_new _ _) hb2);obtain⟨x0,x1,x2,x3,x4,x5,x6⟩:=hX2.facts));go_ret;exact⟨rfl,Qz⟩)
 have d1:decide (fr<0)=false:=decide_eq_false (by omega)
 by_cases t2:fr≤1099511627776
 rotate_left
 ·obtain rfl:V=false:=by rw[hV];simp[t2]
  have d2:decide (1099511627776<fr)=true:=decide_eq_true (by omega)
  clear hV
  (go_enter Tryz.func81,Tryz.ntmps81;go_wp2_with (go_at_call 133;refine (HVA.out _).mono ?_;rintro e w2 ⟨rfl,hb2⟩;(have hX2:Zi w2 w.heap.size fr till pat A na ca B nb cb S ns cs us:=(by first | exact Qv.keep hX hb2 | exact Qv.keep hX2 hb2 | exact Qv.keep (World.alloc_heap_new _ _) hb2);obtain⟨x0,x1,x2,x3,x4,x5,x6⟩:=hX2.facts));go_ret;exact⟨rfl,Qz⟩)
 have d2:decide (1099511627776<fr)=false:=decide_eq_false (by omega)
 by_cases t3:0≤till
 rotate_left
 ·obtain rfl:V=false:=by rw[hV];simp[t3]
  have d3:decide (till<0)=true:=decide_eq_true (by omega)
  clear hV
  (go_enter Tryz.func81,Tryz.ntmps81;go_wp2_with (go_at_call 133;refine (HVA.out _).mono ?_;rintro e w2 ⟨rfl,hb2⟩;(have hX2:Zi w2 w.heap.size fr till pat A na ca B nb cb S ns cs us:=(by first | exact Qv.keep hX hb2 | exact Qv.keep hX2 hb2 | exact Qv.keep (World.alloc_heap_new _ _) hb2);obtain⟨x0,x1,x2,x3,x4,x5,x6⟩:=hX2.facts));go_ret;exact⟨rfl,Qz⟩)
 have d3:decide (till<0)=false:=decide_eq_false (by omega)
 by_cases t4:till≤1099511627777
 rotate_left
 ·obtain rfl:V=false:=by rw[hV];simp[t4]
  have d4:decide (1099511627777<till)=true:=decide_eq_true (by omega)
  clear hV
  (go_enter Tryz.func81,Tryz.ntmps81;go_wp2_with (go_at_call 133;refine (HVA.out _).mono ?_;rintro e w2 ⟨rfl,hb2⟩;(have hX2:Zi w2 w.heap.size fr till pat A na ca B nb cb S ns cs us:=(by first | exact Qv.keep hX hb2 | exact Qv.keep hX2 hb2 | exact Qv.keep (World.alloc_heap_new _ _) hb2);obtain⟨x0,x1,x2,x3,x4,x5,x6⟩:=hX2.facts));go_ret;exact⟨rfl,Qz⟩)
 have d4:decide (1099511627777<till)=false:=decide_eq_false (by omega)
 by_cases t5:0≤us
 rotate_left
 ·obtain rfl:V=false:=by rw[hV];simp[t5]
  have d5:decide (us<0)=true:=decide_eq_true (by omega)
  clear hV
  (go_enter Tryz.func81,Tryz.ntmps81;go_wp2_with (go_at_call 133;refine (HVA.out _).mono ?_;rintro e w2 ⟨rfl,hb2⟩;(have hX2:Zi w2 w.heap.size fr till pat A na ca B nb cb S ns cs us:=(by first | exact Qv.keep hX hb2 | exact Qv.keep hX2 hb2 | exact Qv.keep (World.alloc_heap_new _ _) hb2);obtain⟨x0,x1,x2,x3,x4,x5,x6⟩:=hX2.facts));go_ret;exact⟨rfl,Qz⟩)
 have d5:decide (us<0)=false:=decide_eq_false (by omega)
 by_cases t6:us≤1073741824
 rotate_left
 ·obtain rfl:V=false:=by rw[hV];simp[t6]
  have d6:decide (1073741824<us)=true:=decide_eq_true (by omega)
  clear hV
  (go_enter Tryz.func81,Tryz.ntmps81;go_wp2_with (go_at_call 133;refine (HVA.out _).mono ?_;rintro e w2 ⟨rfl,hb2⟩;(have hX2:Zi w2 w.heap.size fr till pat A na ca B nb cb S ns cs us:=(by first | exact Qv.keep hX hb2 | exact Qv.keep hX2 hb2 | exact Qv.keep (World.alloc_heap_new _ _) hb2);obtain⟨x0,x1,x2,x3,x4,x5,x6⟩:=hX2.facts));go_ret;exact⟨rfl,Qz⟩)
 have d6:decide (1073741824<us)=false:=decide_eq_false (by omega)
 have hV2:V=((decide (pat.size=0)||b1)&&decide (na≤32)&&decide (nb≤32)&&decide (ns≤64)&&(cl.all Qy&&co.all Zn&&JU si&&Vu cl&&Vu co)):=by rw[hV];simp[t1,t2,t3,t4,t5,t6]
 clear hV
 have hpc:(pat.size=0∧pat.toList=[]∧(pat.toList != [])=false)∨(pat.size≠0∧¬ pat.toList=[]∧(pat.toList != [])=true):=by
  by_cases h:pat.size=0
  ·have e:pat.toList=[]:=by rw[Lib.toList_data];exact List.eq_nil_of_length_eq_zero (by rw[←Lib.size_eq];exact h)
   exact .inl ⟨h,e,by rw[e];rfl⟩
  ·have e:¬ pat.toList=[]:=fun e=>h (by rw[Lib.toList_data]at e;rw[Lib.size_eq,e];rfl)
   exact .inr ⟨h,e,by simpa using e⟩
 have hb1:(pat.size≠0∧b1=false)∨(pat.size=0∨b1=true):=by
  by_cases h:pat.size=0
  ·exact .inr (.inl h)
  ·cases b1
   ·exact .inl ⟨h,rfl⟩
   ·exact .inr (.inr rfl)
 rcases hb1 with ⟨hs,rfl⟩ | hb1
 ·rcases hpc with ⟨hs2,_⟩ | ⟨_,hn,hn2⟩
  ·exact absurd hs2 hs
  obtain rfl:V=false:=by rw[hV2];simp[hs]
  clear hV2 hs
  (go_enter Tryz.func81,Tryz.ntmps81;go_wp2_with (go_at_call 133;refine (HVA.out _).mono ?_;rintro e w2 ⟨rfl,hb2⟩;(have hX2:Zi w2 w.heap.size fr till pat A na ca B nb cb S ns cs us:=(by first | exact Qv.keep hX hb2 | exact Qv.keep hX2 hb2 | exact Qv.keep (World.alloc_heap_new _ _) hb2);obtain⟨x0,x1,x2,x3,x4,x5,x6⟩:=hX2.facts));go_ret;exact⟨rfl,Qz⟩)
 have hV3:V=(decide (na≤32)&&decide (nb≤32)&&decide (ns≤64)&&(cl.all Qy&&co.all Zn&&JU si&&Vu cl&&Vu co)):=by
  rw[hV2]
  rcases hb1 with h | h <;> simp[h]
 clear hV2
 have hpd:(pat.toList=[]∧(pat.toList != [])=false)∨(b1=true∧¬ pat.toList=[]∧(pat.toList != [])=true):=by
  rcases hpc with ⟨h1,h2⟩ | ⟨h1,h2⟩
  ·exact .inl h2
  ·rcases hb1 with h | h
   ·exact absurd h h1
   ·exact .inr ⟨h,h2⟩
 clear hpc hb1
 rcases hpd with ⟨hn,hn2⟩ | ⟨rfl,hn,hn2⟩
 all_goals
  by_cases t7:na≤32
  rotate_left
  ·obtain rfl:V=false:=by rw[hV3];simp[t7]
   have d7:decide ((32:Int)<(na:Int))=true:=decide_eq_true (by omega)
   clear hV3
   (go_enter Tryz.func81,Tryz.ntmps81;go_wp2_with (go_at_call 133;refine (HVA.out _).mono ?_;rintro e w2 ⟨rfl,hb2⟩;(have hX2:Zi w2 w.heap.size fr till pat A na ca B nb cb S ns cs us:=(by first | exact Qv.keep hX hb2 | exact Qv.keep hX2 hb2 | exact Qv.keep (World.alloc_heap_new _ _) hb2);obtain⟨x0,x1,x2,x3,x4,x5,x6⟩:=hX2.facts));go_ret;exact⟨rfl,Qz⟩)
  have d7:decide ((32:Int)<(na:Int))=false:=decide_eq_false (by omega)
  by_cases t8:nb≤32
  rotate_left
  ·obtain rfl:V=false:=by rw[hV3];simp[t8]
   have d8:decide ((32:Int)<(nb:Int))=true:=decide_eq_true (by omega)
   clear hV3
   (go_enter Tryz.func81,Tryz.ntmps81;go_wp2_with (go_at_call 133;refine (HVA.out _).mono ?_;rintro e w2 ⟨rfl,hb2⟩;(have hX2:Zi w2 w.heap.size fr till pat A na ca B nb cb S ns cs us:=(by first | exact Qv.keep hX hb2 | exact Qv.keep hX2 hb2 | exact Qv.keep (World.alloc_heap_new _ _) hb2);obtain⟨x0,x1,x2,x3,x4,x5,x6⟩:=hX2.facts));go_ret;exact⟨rfl,Qz⟩)
  have d8:decide ((32:Int)<(nb:Int))=false:=decide_eq_false (by omega)
  by_cases t9:ns≤64
  rotate_left
  ·obtain rfl:V=false:=by rw[hV3];simp[t9]
   have d9:decide ((64:Int)<(ns:Int))=true:=decide_eq_true (by omega)
   clear hV3
   (go_enter Tryz.func81,Tryz.ntmps81;go_wp2_with (go_at_call 133;refine (HVA.out _).mono ?_;rintro e w2 ⟨rfl,hb2⟩;(have hX2:Zi w2 w.heap.size fr till pat A na ca B nb cb S ns cs us:=(by first | exact Qv.keep hX hb2 | exact Qv.keep hX2 hb2 | exact Qv.keep (World.alloc_heap_new _ _) hb2);obtain⟨x0,x1,x2,x3,x4,x5,x6⟩:=hX2.facts));go_ret;exact⟨rfl,Qz⟩)
  have d9:decide ((64:Int)<(ns:Int))=false:=decide_eq_false (by omega)
  have hv4:V=(cl.all Qy&&co.all Zn&&JU si&&Vu cl&&Vu co):=by rw[hV3];simp[t7,t8,t9]
  have HV:=Lib.hid hv4
  clear hV3 hv4
  go_enter Tryz.func81,Tryz.ntmps81
  go_wp2_with (go_at_call 133;refine (HVA.out _).mono ?_;rintro e w2 ⟨rfl,hb2⟩;(have hX2:Zi w2 w.heap.size fr till pat A na ca B nb cb S ns cs us:=(by first | exact Qv.keep hX hb2 | exact Qv.keep hX2 hb2 | exact Qv.keep (World.alloc_heap_new _ _) hb2);obtain⟨x0,x1,x2,x3,x4,x5,x6⟩:=hX2.facts))
  go_loopw [3] (fun vi wr=>∃ k:Nat,vi=.int .i64 k∧k≤na∧Hid ((cl.take k).all Qy=true)∧Zi wr w.heap.size fr till pat A na ca B nb cb S ns cs us∧Below w.heap.size w wr) (fun i _=>na-(intOf i).toNat)
  case atStart=>exact⟨0,rfl,Nat.zero_le _,Lib.hid (by simp),(by first | exact hX2 | exact World.alloc_heap_new _ _),Qz⟩
  case round =>
   try clear hX2
   try clear hb2
   clear d1 d2 d3 d4 d5 d6 d7 d8 d9 hn hn2
   obtain⟨k,rfl,hk,HK,hX,hbr⟩:=hrel
   obtain⟨x0,x1,x2,x3,x4,x5,x6⟩:=hX.facts
   by_cases hlt:k<na
   ·obtain⟨x,hx⟩:∃ x,cl[k]? = some x:=⟨_,List.getElem?_eq_getElem (by have:=HLA.out;omega)⟩
    obtain⟨b,o,rfl,hcell⟩:=(HA.out.keep hbr).2 (by omega)
    have hc1:wr.cell? ⟨b,o+k,none⟩=some (.string x):=hcell k _ (by simp[hx])
    have hk0:(0:Int)≤(k:Int):=by omega
    have hk1:(k:Int)<(na:Int):=by omega
    have cN:=HNA.out x (List.mem_of_getElem? hx)
    cases hs:Qy x
    ·obtain rfl:V=false:=by rw[HV.out,Ko hx hs];rfl
     rw[hs]at cN
     have HC:=Lib.hid cN
     clear hcell hx HK hs cN
     go_wp2_with (go_at_call 73;refine (HC.out _).mono ?_;rintro e w2 ⟨rfl,hb2⟩)
     go_ret
     exact⟨rfl,Qz⟩
    ·have HK2:Hid ((cl.take (k+1)).all Qy=true):=Lib.hid (U7 HK.out hx hs)
     rw[hs]at cN
     have HC:=Lib.hid cN
     clear hcell hx HK hs cN
     go_wp2_with (go_at_call 73;refine (HC.out _).mono ?_;rintro e w2 ⟨rfl,hb2⟩)
     exact⟨⟨k+1,by go_num,by omega,HK2,Qv.keep hX hb2,Qz⟩,by simp[intOf];omega⟩
   ·obtain rfl:k=na:=by omega
    have hall:cl.all Qy=true:=by
     have:=HK.out
     rwa [List.take_of_length_le (by have:=HLA.out;omega)]at this
    have hv5:V=(co.all Zn&&JU si&&Vu cl&&Vu co):=by rw[HV.out,hall,Bool.true_and]
    have HV2:=Lib.hid hv5
    clear hall hv5 HK HV HNA
    go_wp2
    clear x0 x1 x2 x3 x4 x5 x6
    obtain⟨wo,rfl⟩:∃ wo:World,wo=wr:=⟨_,rfl⟩
    go_loopw [4] (fun vi wz=>∃ j:Nat,vi=.int .i64 j∧j≤nb∧Hid ((co.take j).all Zn=true)∧Zi wz w.heap.size fr till pat A k ca B nb cb S ns cs us∧Below w.heap.size w wz) (fun i _=>nb-(intOf i).toNat)
    case atStart=>exact⟨0,rfl,Nat.zero_le _,Lib.hid (by simp),hX,hbr⟩
    case round =>
     clear hX hbr
     obtain⟨j,rfl,hj,HJ,hX,hbr⟩:=hrel
     obtain⟨x0,x1,x2,x3,x4,x5,x6⟩:=hX.facts
     by_cases hlt2:j<nb
     ·obtain⟨x,hx⟩:∃ x,co[j]? = some x:=⟨_,List.getElem?_eq_getElem (by have:=HLB.out;omega)⟩
      obtain⟨b,o,rfl,hcell⟩:=(HB.out.keep hbr).2 (by omega)
      have hc1:wr.cell? ⟨b,o+j,none⟩=some (.string x):=hcell j _ (by simp[hx])
      have hj0:(0:Int)≤(j:Int):=by omega
      have hj1:(j:Int)<(nb:Int):=by omega
      have cN:=HCY.out x (List.mem_of_getElem? hx)
      cases hs:Zn x
      ·obtain rfl:V=false:=by rw[HV2.out,Ko hx hs];rfl
       rw[hs]at cN
       have HC:=Lib.hid cN
       clear hcell hx HJ hs cN
       go_wp2_with (go_at_call 139;refine (HC.out _).mono ?_;rintro e w2 ⟨rfl,hb2⟩)
       go_ret
       exact⟨rfl,Qz⟩
      ·have HJ2:Hid ((co.take (j+1)).all Zn=true):=Lib.hid (U7 HJ.out hx hs)
       rw[hs]at cN
       have HC:=Lib.hid cN
       clear hcell hx HJ hs cN
       go_wp2_with (go_at_call 139;refine (HC.out _).mono ?_;rintro e w2 ⟨rfl,hb2⟩)
       exact⟨⟨j+1,by go_num,by omega,HJ2,Qv.keep hX hb2,Qz⟩,by simp[intOf];omega⟩
     ·obtain rfl:j=nb:=by omega
      have hall:co.all Zn=true:=by
       have:=HJ.out
       rwa [List.take_of_length_le (by have:=HLB.out;omega)]at this
      have hv6:V=(JU si&&Vu cl&&Vu co):=by rw[HV2.out,hall,Bool.true_and]
      have HV3:=Lib.hid hv6
      clear hall hv6 HJ HV2 HCY
      go_wp2
      clear x0 x1 x2 x3 x4 x5 x6
      obtain⟨wo2,rfl⟩:∃ wo2:World,wo2=wr:=⟨_,rfl⟩
      go_loopw [5] (fun vi wz=>∃ i:Nat,vi=.int .i64 i∧i≤ns∧Hid ((List.range i).all (Jt ltI Jb si)=true)∧Zi wz w.heap.size fr till pat A k ca B j cb S ns cs us∧Below w.heap.size w wz) (fun i _=>ns-(intOf i).toNat)
      case atStart=>exact⟨0,rfl,Nat.zero_le _,Lib.hid rfl,hX,hbr⟩
      case round =>
       clear hX hbr
       obtain⟨i,rfl,hi,HI,hX,hbr⟩:=hrel
       obtain⟨x0,x1,x2,x3,x4,x5,x6⟩:=hX.facts
       by_cases hlt3:i<ns
       ·obtain⟨x,hx⟩:∃ x,si[i]? = some x:=⟨_,List.getElem?_eq_getElem (by have:=HLS.out;omega)⟩
        obtain⟨b,o,rfl,hcell⟩:=(HS.out.keep hbr).2 (by omega)
        have hc1:wr.cell? ⟨b,o+i,none⟩=some (.int .i64 x):=hcell i _ (by simp[hx])
        have hi0:(0:Int)≤(i:Int):=by omega
        have hi1:(i:Int)<(ns:Int):=by omega
        have hok:Jt ltI Jb si i=(Jb x&&(i==0||(match si[i-1]? with
         | none=>true
         | some y=>ltI y x))):=by unfold Jt;rw[hx];cases si[i-1]? <;> rfl
        have hfail:Jt ltI Jb si i=false→V=false:=fun h=>by rw[HV3.out,sites_fail (by have:=HLS.out;omega) h];rfl
        by_cases s0:0≤x
        rotate_left
        ·obtain rfl:V=false:=hfail (by rw[hok];unfold Jb;simp[s0])
         have e0:decide (x<0)=true:=decide_eq_true (by omega)
         clear hcell hx HI hok hfail
         go_wp2_with fail
         go_quiet (fail)
         go_wp2
         go_ret
         exact⟨rfl,Qz⟩
        have e0:decide (x<0)=false:=decide_eq_false (by omega)
        by_cases s1:x<64
        rotate_left
        ·obtain rfl:V=false:=hfail (by rw[hok];unfold Jb;simp[s1])
         have e1:decide (64≤x)=true:=decide_eq_true (by omega)
         clear hcell hx HI hok hfail
         go_wp2_with fail
         go_quiet (fail)
         go_wp2
         go_ret
         exact⟨rfl,Qz⟩
        have e1:decide (64≤x)=false:=decide_eq_false (by omega)
        have hsx:Jb x=true:=decide_eq_true ⟨s0,s1⟩
        rw[hsx,Bool.true_and]at hok
        rcases i with _ | i
        ·have HI2:Hid ((List.range (0+1)).all (Jt ltI Jb si)=true):=Lib.hid (X9 HI.out (by rw[hok];rfl))
         simp only[Nat.add_zero]at hc1
         clear hcell hx HI hok hfail
         go_wp2_with fail
         go_quiet (fail)
         go_wp2
         exact⟨⟨1,by go_num,by omega,HI2,Qv.keep hX Qz,Qz⟩,by simp[intOf];omega⟩
        ·obtain⟨y,hy⟩:∃ y,si[i]? = some y:=⟨_,List.getElem?_eq_getElem (by have:=HLS.out;omega)⟩
         have hc2:wr.cell? ⟨b,o+i,none⟩=some (.int .i64 y):=hcell i _ (by simp[hy])
         have hle:=le_prevI x y
         rw[Nat.add_sub_cancel,hy]at hok
         have hok2:Jt ltI Jb si (i+1)=ltI y x:=by rw[hok];simp
         have hii0:(0:Int)≤(i:Int):=by omega
         have hii1:(i:Int)<(ns:Int):=by omega
         cases ht:ltI y x
         ·obtain rfl:V=false:=hfail (by rw[hok2,ht])
          rw[ht]at hle
          clear hcell hx HI hok hok2 hfail hy ht
          go_wp2_with fail
          go_quiet (fail)
          go_wp2
          go_ret
          exact⟨rfl,Qz⟩
         ·have HI2:Hid ((List.range (i+1+1)).all (Jt ltI Jb si)=true):=Lib.hid (X9 HI.out (by rw[hok2,ht]))
          rw[ht]at hle
          clear hcell hx HI hok hok2 hfail hy ht
          go_wp2_with fail
          go_quiet (fail)
          go_wp2
          exact⟨⟨i+1+1,by go_num,by omega,HI2,Qv.keep hX Qz,Qz⟩,by simp[intOf];omega⟩
       ·obtain rfl:i=ns:=by omega
        have hall:JU si=true:=by
         unfold JU
         rw[←HLS.out]
         exact HI.out
        have hv7:V=(Vu cl&&Vu co):=by rw[HV3.out,hall,Bool.true_and]
        have c1:=HAS1.out
        have c2:=HAS2.out
        obtain⟨a1,ha1⟩:∃ x,x=Vu cl:=⟨_,rfl⟩
        obtain⟨a2,ha2⟩:∃ x,x=Vu co:=⟨_,rfl⟩
        rw[←ha1]at hv7 c1
        rw[←ha2]at hv7 c2
        clear hall HI HV3 HAS1 HAS2 ha1 ha2
        cases a1
        ·obtain rfl:V=false:=hv7
         have C1:=Lib.hid c1
         clear c1 c2
         go_wp2_with (go_at_call 140;refine (C1.out _ Qz).mono ?_;rintro e w2 ⟨rfl,hb2⟩)
         go_ret
         exact⟨rfl,Qz⟩
        ·obtain rfl:V=a2:=hv7
         have C1:=Lib.hid c1
         have C2:=Lib.hid c2
         clear c1 c2
         go_wp2_with (go_at_call 140;first | (refine (C1.out _ Qz).mono ?_;clear C1;rintro e w2 ⟨rfl,hb2⟩;have hX2:=Qv.keep hX hb2;obtain⟨y0,y1,y2,y3,y4,y5,y6⟩:=Zi.facts hX2) | (refine (C2.out _ Qz).mono ?_;rintro e w3 ⟨rfl,hb3⟩))
         go_ret
         exact⟨rfl,Qz⟩
theorem meet_shape (p:ByteArray):∃ (b:Bool) (f:Int),meetV (Js (VV p) ⟨#[42,47,42,42]⟩)=.tuple #[.bool b,.string (addrOf p),.int .i64 f]:=by
 unfold addrOf
 cases h:Js (VV p) ⟨#[42,47,42,42]⟩ with
 | none=>exact⟨_,_,rfl⟩
 | some r =>
  cases r with
  | none=>exact⟨_,_,rfl⟩
  | some z=>exact⟨_,_,rfl⟩
theorem head_of {α:Type} {enc:α→Value} {w:World} {A:Option Addr} {n:Nat} {xs:List α} (hA:Reads w 1 A n (xs.map enc)) (d:α) :
  (n=0∧xs.headD d=d)∨(0<n∧∃ b o,A=some ⟨b,o,none⟩∧w.cell? ⟨b,o,none⟩=some (enc (xs.headD d))):=by
 have hl:=hA.1
 cases xs with
 | nil=>exact .inl ⟨by simp at hl;omega,rfl⟩
 | cons x xs =>
  have hn:0<n:=by simp at hl;omega
  obtain⟨b,o,e,hc⟩:=hA.2 hn
  exact .inr ⟨hn,b,o,e,by have:=hc 0 (enc x) (by simp);simpa using this⟩
theorem patT_size {p:ByteArray} (h:p.size≤100000):(VV p).size≤100000:=by unfold VV;split;exact (by decide);exact h
theorem pattern_any (c:ZV) (m:Zy) (w:World):Calls Tryz.prog 97 #[Zy.val c m] w (Zx w (.string (VV c.pat))):=condPattern_any _ _ _ _ _ _ _ _ _ _ _ _ _ w
theorem Xa.set2 {w:World} {g:Nat} {ad cl co co2:ByteArray} {si lo hi:Int} (h:Xa w g ad cl co si lo hi):Xa (w.setCell ⟨g,2,none⟩ (.string co2)) g ad cl co2 si lo hi:=Qv.set_ h 2 (.string co2)
theorem Xa.set3 {w:World} {g:Nat} {ad cl co:ByteArray} {si si2 lo hi:Int} (h:Xa w g ad cl co si lo hi):Xa (w.setCell ⟨g,3,none⟩ (.int .i64 si2)) g ad cl co si2 lo hi:=Qv.set_ h 3 (.int .i64 si2)
theorem Xa.put {w:World} {g:Nat} {ad cl co:ByteArray} {si lo hi:Int} (h:Xa w g ad cl co si lo hi) (ad' cl' co':ByteArray) (si' lo' hi':Int):Xa ((((((w.setCell ⟨g,0,none⟩ (.string ad')).setCell ⟨g,1,none⟩ (.string cl')).setCell ⟨g,2,none⟩ (.string co')).setCell ⟨g,3,none⟩ (.int .i64 si')).setCell ⟨g,4,none⟩ (.int .i64 lo')).setCell ⟨g,5,none⟩ (.int .i64 hi')) g ad' cl' co' si' lo' hi' :=
 Qv.set_ (Qv.set_ (Qv.set_ (Qv.set_ (Qv.set_ (Qv.set_ h 0 (.string ad')) 1 (.string cl')) 2 (.string co')) 3 (.int .i64 si')) 4 (.int .i64 lo')) 5 (.int .i64 hi')
theorem XX {a w:World} {g:Nat} (h:Below a.heap.size a w) (hg:a.heap.size≤g) (v0 v1 v2 v3 v4 v5:Value):Below a.heap.size a ((((((w.setCell ⟨g,0,none⟩ v0).setCell ⟨g,1,none⟩ v1).setCell ⟨g,2,none⟩ v2).setCell ⟨g,3,none⟩ v3).setCell ⟨g,4,none⟩ v4).setCell ⟨g,5,none⟩ v5) :=
 (((((h.setCell (p:=⟨g,0,none⟩) hg _).setCell (p:=⟨g,1,none⟩) hg _).setCell (p:=⟨g,2,none⟩) hg _).setCell (p:=⟨g,3,none⟩) hg _).setCell (p:=⟨g,4,none⟩) hg _).setCell (p:=⟨g,5,none⟩) hg _
theorem sample_any (c:ZV) (m:Zy) (w:World) (hR:Xm w c m) (hc:Wh c) (hE:Env w):Calls Tryz.prog 62 #[Zy.val c m] w (Zx w (Kr.val (XY c))):=by
 have c1:=fun W=>pattern_any c m W
 have c2:=fun W h=>addrMeet_any (VV c.pat) ⟨#[42,47,42,42]⟩ W (patT_size hc.p) (by decide) h
 obtain⟨mb,mf,hms⟩:=meet_shape c.pat
 rw[hms]at c2
 unfold XY
 obtain⟨fr,till,pat,cl,co,si,us⟩:=c
 obtain⟨A,ca,B,cb,S,cs⟩:=m
 obtain⟨hA,hB,hS⟩:=hR
 unfold Zy.val at c1 ⊢
 unfold Kr.val
 dsimp only at hA hB hS c1 c2 ⊢
 have k1:=head_of hA ⟨#[97]⟩
 have k2:=head_of hB ⟨#[97,97]⟩
 have k3:=head_of hS 0
 obtain⟨n1,n2,n3⟩:=(⟨hc.n1,hc.n2,hc.n3⟩:cl.length≤1000000∧co.length≤1000000∧si.length≤1000000)
 generalize cl.headD ⟨#[97]⟩=u1 at *
 generalize co.headD ⟨#[97,97]⟩=u2 at *
 generalize si.headD 0=u3 at *
 generalize cl.length=na at *
 generalize co.length=nb at *
 generalize si.length=ns at *
 generalize addrOf pat=ad at *
 generalize VV pat=pt at *
 have C1:=Lib.hid c1;have C2:=Lib.hid c2;have HE:=Lib.hid hE
 have K1:=Lib.hid k1;have K2:=Lib.hid k2;have K3:=Lib.hid k3
 clear c1 c2 hE hA hB hS hms hc k1 k2 k3
 go_enter Tryz.func62,Tryz.ntmps62
 go_upto_if 24 with (first | (go_at_call 97;refine (C1.out _).mono ?_;rintro e w2 ⟨rfl,hb2⟩) | (go_at_call 32;refine (C2.out _ (Env.keep HE.out Qz)).mono ?_;rintro e w3 ⟨rfl,hb3⟩;have hX3:Zi w3 w.heap.size fr till pat A na ca B nb cb S ns cs us:=Qv.keep (Qv.keep (Xe _ _ _).1 hb2) hb3;have hY3:Xa w3 (w.heap.size+1) ⟨#[]⟩ ⟨#[]⟩ ⟨#[]⟩ 0 0 0:=Qv.keep (Qv.keep (Xe _ _ _).2 hb2) hb3;have hbw3:Below w.heap.size w w3:=Qz;have HX3:=Lib.hid hX3;have HY3:=Lib.hid hY3;have HBW3:=Lib.hid hbw3;obtain⟨x0,x1,x2,x3,x4,x5,x6⟩:=hX3.facts;have hzX:=Qv.lt hX3;clear hX3 hY3 hbw3))
 go_cut [] (fun wx=>Xa wx w3.heap.size ad u1 ⟨#[97,97]⟩ 0 fr fr∧Below w3.heap.size w3 wx)
 case first =>
  rcases K1.out with ⟨rfl,rfl⟩ | ⟨g1,b1,o1,rfl,h1⟩
  ·go_wp2_with fail
   go_meet
   exact⟨World.alloc_heap_new _ _,Qk (Below.refl _ _) _⟩
  ·have j1:=Lib.cell?_alloc_some (.cells #[.string ad,.string ⟨#[97]⟩,.string ⟨#[97,97]⟩,.int .i64 0,.int .i64 fr,.int .i64 fr] 36) (Qq HBW3.out h1)
   have e1:(0:Int)<(na:Int):=by omega
   clear h1
   go_wp2_with fail
   go_meet
   exact⟨World.alloc_heap_new _ _,Qk (Below.refl _ _) _⟩
 case rest =>
  obtain⟨hYc,hbc⟩:=hcut
  clear x0 x1 x2 x3 x4 x5 x6
  (have hXc:Zi wc w.heap.size fr till pat A na ca B nb cb S ns cs us:=Qv.keep HX3.out hbc;obtain⟨x0,x1,x2,x3,x4,x5,x6⟩:=hXc.facts;obtain⟨y0,y1,y2,y3,y4,y5⟩:=hYc.facts;have f1:=Qv.free0 hYc 1;have f2:=Qv.free0 hYc 2;have f3:=Qv.free0 hYc 3;have hzc:=Qv.lt hYc;have hbwc:=Qj HBW3.out hbc)
  have HY1:=Lib.hid hYc;have HB1:=Lib.hid hbc
  clear hYc hXc
  obtain⟨W1,rfl⟩:∃ W1:World,W1=wc:=⟨_,rfl⟩
  go_upto_if 33 with fail
  go_cut [] (fun wx=>Xa wx w3.heap.size ad u1 u2 0 fr fr∧Below w3.heap.size w3 wx)
  case first =>
   rcases K2.out with ⟨rfl,rfl⟩ | ⟨g1,b1,o1,rfl,h1⟩
   ·go_wp2_with fail
    go_meet
    exact⟨HY1.out,HB1.out⟩
   ·have j1:=Qq hbwc h1
    have e1:(0:Int)<(nb:Int):=by omega
    clear h1
    go_wp2_with fail
    go_meet
    exact⟨Xa.set2 HY1.out,HB1.out.setCell (p:=⟨w3.heap.size,2,none⟩) (Nat.le_refl _) _⟩
  case rest =>
   obtain⟨hYc,hbc⟩:=hcut
   clear x0 x1 x2 x3 x4 x5 x6 y0 y1 y2 y3 y4 y5 f1 f2 f3 hzc hbwc
   (have hXc:Zi wc w.heap.size fr till pat A na ca B nb cb S ns cs us:=Qv.keep HX3.out hbc;obtain⟨x0,x1,x2,x3,x4,x5,x6⟩:=hXc.facts;obtain⟨y0,y1,y2,y3,y4,y5⟩:=hYc.facts;have f1:=Qv.free0 hYc 1;have f2:=Qv.free0 hYc 2;have f3:=Qv.free0 hYc 3;have hzc:=Qv.lt hYc;have hbwc:=Qj HBW3.out hbc)
   have HY2:=Lib.hid hYc;have HB2:=Lib.hid hbc
   clear hYc hXc
   obtain⟨W2,rfl⟩:∃ W2:World,W2=wc:=⟨_,rfl⟩
   go_upto_if 42 with fail
   go_cut [] (fun wx=>Xa wx w3.heap.size ad u1 u2 u3 fr fr∧Below w3.heap.size w3 wx)
   case first =>
    rcases K3.out with ⟨rfl,rfl⟩ | ⟨g1,b1,o1,rfl,h1⟩
    ·go_wp2_with fail
     go_meet
     exact⟨HY2.out,HB2.out⟩
    ·have j1:=Qq hbwc h1
     have e1:(0:Int)<(ns:Int):=by omega
     clear h1
     go_wp2_with fail
     go_meet
     exact⟨Xa.set3 HY2.out,HB2.out.setCell (p:=⟨w3.heap.size,3,none⟩) (Nat.le_refl _) _⟩
   case rest =>
    obtain⟨hYc,hbc⟩:=hcut
    clear x0 x1 x2 x3 x4 x5 x6 y0 y1 y2 y3 y4 y5 f1 f2 f3 hzc hbwc
    have hRc:Xa wc (w.heap.size+1) ⟨#[]⟩ ⟨#[]⟩ ⟨#[]⟩ 0 0 0:=Qv.keep HY3.out hbc
    obtain⟨y0,y1,y2,y3,y4,y5⟩:=hYc.facts
    obtain⟨r0,r1,r2,r3,r4,r5⟩:=hRc.facts
    have z0:=hRc.free0 0;have z1:=hRc.free0 1;have z2:=hRc.free0 2;have z3:=hRc.free0 3;have z4:=hRc.free0 4;have z5:=hRc.free0 5
    have hbwc:=Qj HBW3.out hbc
    have HRc:=Lib.hid hRc
    clear hYc hRc
    go_wp2_with fail
    obtain⟨p0,p1,p2,p3,p4,p5⟩:=(HRc.out.put ad u1 u2 u3 fr fr).facts
    clear r0 r1 r2 r3 r4 r5 y0 y1 y2 y3 y4 y5 z0 z1 z2 z3 z4 z5
    exact bodyPost_ret (v:=.agg #[.string ad,.string u1,.string u2,.int .i64 u3,.int .i64 fr,.int .i64 fr]) (by simp only[results,Tryz.results62];simp[go_sem,p0,p1,p2,p3,p4,p5]) rfl ⟨rfl,XX hbwc (Nat.le_succ _) _ _ _ _ _ _⟩
end Go.Proofs.YticlbkficolocaaGreatDoor
