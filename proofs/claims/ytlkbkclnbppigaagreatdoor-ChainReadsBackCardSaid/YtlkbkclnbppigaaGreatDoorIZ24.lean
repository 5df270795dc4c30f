/- What the cond package's Valid returns. -/
import Derived.Test.YtlkbkclnbppigaaGreatDoorIZ22
import Derived.Lib.ItoaLen
import Derived.Test.YtlkbkclnbppigaaGreatDoorIZ21
set_option maxHeartbeats 8000000
namespace Go.Proofs.YtlkbkclnbppigaaGreatDoor
open Go.RowKit Go.Sort
set_option linter.unusedVariables false
set_option linter.unusedSimpArgs false
set_option maxRecDepth 100000
theorem condValid_any (c:CondV) (m:CondMem) (w:World) (hR:CondReads w c m) (hp:c.pat.size≤100000) (hcl:∀ x∈c.cl,x.size≤100000) (hco:∀ x∈c.co,x.size≤100000) (h1:c.cl.length≤1000000) (h2:c.co.length≤1000000) (h3:c.si.length≤1000000) (hE:Env w) :
  Calls Tryz.prog 49 #[CondMem.val c m] w (Ret w (.bool (validC c))):=by
 obtain⟨fr,till,pat,cl,co,si,us⟩:=c
 obtain⟨A,ca,B,cb,S,cs⟩:=m
 obtain⟨hA,hB,hS⟩:=hR
 dsimp only at hA hB hS hp hcl hco h1 h2 h3
 unfold CondMem.val
 dsimp only
 obtain⟨V,hV⟩:∃ V,V=validC ⟨fr,till,pat,cl,co,si,us⟩:=⟨_,rfl⟩
 rw[←hV]
 unfold validC timesB patOk at hV
 dsimp only at hV
 have c1:=fun W (hb:Below w.heap.size w W)=>isSetS_any 101 (enters_of Tryz.func101 (by kernel_rfl) rfl) isNameB A cl.length ca cl 32 W (fun x hx W' hE'=>condName_any x W' (hcl x hx) hE') (hA.keep hb) (by omega) (by omega) (Env.keep hE hb)
 have c2:=fun W (hb:Below w.heap.size w W)=>isSetS_any 102 (enters_of Tryz.func102 (by kernel_rfl) rfl) countryB B co.length cb co 32 W (fun x hx W' _=>isCountry_any x W' (by have:=hco x hx;omega)) (hB.keep hb) (by omega) (by omega) (Env.keep hE hb)
 have c3:=fun W (hb:Below w.heap.size w W)=>isSetI_any 104 (enters_of Tryz.func104 (by kernel_rfl) rfl) siteB S si.length cs si 64 W (fun x W'=>isSite_any x W') (hS.keep hb) (by omega) (by omega)
 have hva:=fun W h=>valid_any pat W hp h
 generalize (compileB pat).isSome=b1 at *
 generalize setB ltB isNameB 32 cl=b2 at *
 generalize setB ltB countryB 32 co=b3 at *
 generalize setB ltI siteB 64 si=b4 at *
 have h32:((32:Nat):Int)=32:=rfl
 have h64:((64:Nat):Int)=64:=rfl
 simp only[h32]at c1 c2
 simp only[h64]at c3
 clear h32 h64
 have C1:=Lib.hid c1
 have C2:=Lib.hid c2
 have C3:=Lib.hid c3
 have HVA:=Lib.hid hva
 have HE:=Lib.hid hE
 clear c1 c2 c3 hva hE hA hB hS hcl hco h1 h2 h3 hp
 by_cases t1:0≤fr
 rotate_left
 ·obtain rfl:V=false:=by rw[hV];simp[t1]
  have d1:decide (0≤fr)=false:=decide_eq_false t1
  clear hV
  (go_enter Tryz.func49,Tryz.ntmps49;go_wp2_with (first | (go_at_call 99;refine (HVA.out _ (Env.keep HE.out belB)).mono ?_;rintro e w2 ⟨rfl,hb2⟩;(have hX2:CBox w2 w.heap.size fr till pat A cl.length ca B co.length cb S si.length cs us:=(by first | exact Blk.keep hX2 hb2 | exact Blk.keep (World.alloc_heap_new _ _) hb2);obtain⟨x0,x1,x2,x3,x4,x5,x6⟩:=hX2.facts)) | (go_at_call 100;(first | (refine (C1.out _ belB).mono ?_;clear C1) | refine (C2.out _ belB).mono ?_);rintro e w2 ⟨rfl,hb2⟩;(have hX2:CBox w2 w.heap.size fr till pat A cl.length ca B co.length cb S si.length cs us:=(by first | exact Blk.keep hX2 hb2 | exact Blk.keep (World.alloc_heap_new _ _) hb2);obtain⟨x0,x1,x2,x3,x4,x5,x6⟩:=hX2.facts)) | (go_at_call 103;refine (C3.out _ belB).mono ?_;rintro e w2 ⟨rfl,hb2⟩));go_ret;exact⟨rfl,belB⟩)
 have d1:decide (0≤fr)=true:=decide_eq_true t1
 by_cases t2:fr≤1099511627776
 rotate_left
 ·obtain rfl:V=false:=by rw[hV];simp[t2]
  have d2:decide (fr≤1099511627776)=false:=decide_eq_false t2
  clear hV
  (go_enter Tryz.func49,Tryz.ntmps49;go_wp2_with (first | (go_at_call 99;refine (HVA.out _ (Env.keep HE.out belB)).mono ?_;rintro e w2 ⟨rfl,hb2⟩;(have hX2:CBox w2 w.heap.size fr till pat A cl.length ca B co.length cb S si.length cs us:=(by first | exact Blk.keep hX2 hb2 | exact Blk.keep (World.alloc_heap_new _ _) hb2);obtain⟨x0,x1,x2,x3,x4,x5,x6⟩:=hX2.facts)) | (go_at_call 100;(first | (refine (C1.out _ belB).mono ?_;clear C1) | refine (C2.out _ belB).mono ?_);rintro e w2 ⟨rfl,hb2⟩;(have hX2:CBox w2 w.heap.size fr till pat A cl.length ca B co.length cb S si.length cs us:=(by first | exact Blk.keep hX2 hb2 | exact Blk.keep (World.alloc_heap_new _ _) hb2);obtain⟨x0,x1,x2,x3,x4,x5,x6⟩:=hX2.facts)) | (go_at_call 103;refine (C3.out _ belB).mono ?_;rintro e w2 ⟨rfl,hb2⟩));go_ret;exact⟨rfl,belB⟩)
 have d2:decide (fr≤1099511627776)=true:=decide_eq_true t2
 by_cases t3:0≤till
 rotate_left
 ·obtain rfl:V=false:=by rw[hV];simp[t3]
  have d3:decide (0≤till)=false:=decide_eq_false t3
  clear hV
  (go_enter Tryz.func49,Tryz.ntmps49;go_wp2_with (first | (go_at_call 99;refine (HVA.out _ (Env.keep HE.out belB)).mono ?_;rintro e w2 ⟨rfl,hb2⟩;(have hX2:CBox w2 w.heap.size fr till pat A cl.length ca B co.length cb S si.length cs us:=(by first | exact Blk.keep hX2 hb2 | exact Blk.keep (World.alloc_heap_new _ _) hb2);obtain⟨x0,x1,x2,x3,x4,x5,x6⟩:=hX2.facts)) | (go_at_call 100;(first | (refine (C1.out _ belB).mono ?_;clear C1) | refine (C2.out _ belB).mono ?_);rintro e w2 ⟨rfl,hb2⟩;(have hX2:CBox w2 w.heap.size fr till pat A cl.length ca B co.length cb S si.length cs us:=(by first | exact Blk.keep hX2 hb2 | exact Blk.keep (World.alloc_heap_new _ _) hb2);obtain⟨x0,x1,x2,x3,x4,x5,x6⟩:=hX2.facts)) | (go_at_call 103;refine (C3.out _ belB).mono ?_;rintro e w2 ⟨rfl,hb2⟩));go_ret;exact⟨rfl,belB⟩)
 have d3:decide (0≤till)=true:=decide_eq_true t3
 by_cases t4:till≤1099511627777
 rotate_left
 ·obtain rfl:V=false:=by rw[hV];simp[t4]
  have d4:decide (till≤1099511627777)=false:=decide_eq_false t4
  clear hV
  (go_enter Tryz.func49,Tryz.ntmps49;go_wp2_with (first | (go_at_call 99;refine (HVA.out _ (Env.keep HE.out belB)).mono ?_;rintro e w2 ⟨rfl,hb2⟩;(have hX2:CBox w2 w.heap.size fr till pat A cl.length ca B co.length cb S si.length cs us:=(by first | exact Blk.keep hX2 hb2 | exact Blk.keep (World.alloc_heap_new _ _) hb2);obtain⟨x0,x1,x2,x3,x4,x5,x6⟩:=hX2.facts)) | (go_at_call 100;(first | (refine (C1.out _ belB).mono ?_;clear C1) | refine (C2.out _ belB).mono ?_);rintro e w2 ⟨rfl,hb2⟩;(have hX2:CBox w2 w.heap.size fr till pat A cl.length ca B co.length cb S si.length cs us:=(by first | exact Blk.keep hX2 hb2 | exact Blk.keep (World.alloc_heap_new _ _) hb2);obtain⟨x0,x1,x2,x3,x4,x5,x6⟩:=hX2.facts)) | (go_at_call 103;refine (C3.out _ belB).mono ?_;rintro e w2 ⟨rfl,hb2⟩));go_ret;exact⟨rfl,belB⟩)
 have d4:decide (till≤1099511627777)=true:=decide_eq_true t4
 by_cases t5:0≤us
 rotate_left
 ·obtain rfl:V=false:=by rw[hV];simp[t5]
  have d5:decide (0≤us)=false:=decide_eq_false t5
  clear hV
  (go_enter Tryz.func49,Tryz.ntmps49;go_wp2_with (first | (go_at_call 99;refine (HVA.out _ (Env.keep HE.out belB)).mono ?_;rintro e w2 ⟨rfl,hb2⟩;(have hX2:CBox w2 w.heap.size fr till pat A cl.length ca B co.length cb S si.length cs us:=(by first | exact Blk.keep hX2 hb2 | exact Blk.keep (World.alloc_heap_new _ _) hb2);obtain⟨x0,x1,x2,x3,x4,x5,x6⟩:=hX2.facts)) | (go_at_call 100;(first | (refine (C1.out _ belB).mono ?_;clear C1) | refine (C2.out _ belB).mono ?_);rintro e w2 ⟨rfl,hb2⟩;(have hX2:CBox w2 w.heap.size fr till pat A cl.length ca B co.length cb S si.length cs us:=(by first | exact Blk.keep hX2 hb2 | exact Blk.keep (World.alloc_heap_new _ _) hb2);obtain⟨x0,x1,x2,x3,x4,x5,x6⟩:=hX2.facts)) | (go_at_call 103;refine (C3.out _ belB).mono ?_;rintro e w2 ⟨rfl,hb2⟩));go_ret;exact⟨rfl,belB⟩)
 have d5:decide (0≤us)=true:=decide_eq_true t5
 by_cases t6:us≤1073741824
 rotate_left
 ·obtain rfl:V=false:=by rw[hV];simp[t6]
  have d6:decide (us≤1073741824)=false:=decide_eq_false t6
  clear hV
  (go_enter Tryz.func49,Tryz.ntmps49;go_wp2_with (first | (go_at_call 99;refine (HVA.out _ (Env.keep HE.out belB)).mono ?_;rintro e w2 ⟨rfl,hb2⟩;(have hX2:CBox w2 w.heap.size fr till pat A cl.length ca B co.length cb S si.length cs us:=(by first | exact Blk.keep hX2 hb2 | exact Blk.keep (World.alloc_heap_new _ _) hb2);obtain⟨x0,x1,x2,x3,x4,x5,x6⟩:=hX2.facts)) | (go_at_call 100;(first | (refine (C1.out _ belB).mono ?_;clear C1) | refine (C2.out _ belB).mono ?_);rintro e w2 ⟨rfl,hb2⟩;(have hX2:CBox w2 w.heap.size fr till pat A cl.length ca B co.length cb S si.length cs us:=(by first | exact Blk.keep hX2 hb2 | exact Blk.keep (World.alloc_heap_new _ _) hb2);obtain⟨x0,x1,x2,x3,x4,x5,x6⟩:=hX2.facts)) | (go_at_call 103;refine (C3.out _ belB).mono ?_;rintro e w2 ⟨rfl,hb2⟩));go_ret;exact⟨rfl,belB⟩)
 have d6:decide (us≤1073741824)=true:=decide_eq_true t6
 have hV2:V=((decide (pat.size=0)||b1)&&b2&&b3&&b4):=by rw[hV];simp[t1,t2,t3,t4,t5,t6]
 clear hV
 by_cases hs:pat.size=0
 ·obtain rfl:pat=⟨#[]⟩:=bytes_ext (List.eq_nil_of_length_eq_zero (by rw[←Lib.size_eq];exact hs))
  clear hs
  cases b2
  ·obtain rfl:V=false:=by rw[hV2];simp
   clear hV2
   (go_enter Tryz.func49,Tryz.ntmps49;go_wp2_with (first | (go_at_call 100;(first | (refine (C1.out _ belB).mono ?_;clear C1) | refine (C2.out _ belB).mono ?_);rintro e w2 ⟨rfl,hb2⟩;(have hX2:CBox w2 w.heap.size fr till ⟨#[]⟩ A cl.length ca B co.length cb S si.length cs us:=(by first | exact Blk.keep hX2 hb2 | exact Blk.keep (World.alloc_heap_new _ _) hb2);obtain⟨x0,x1,x2,x3,x4,x5,x6⟩:=hX2.facts)) | (go_at_call 103;refine (C3.out _ belB).mono ?_;rintro e w2 ⟨rfl,hb2⟩));go_ret;exact⟨rfl,belB⟩)
  cases b3
  ·obtain rfl:V=false:=by rw[hV2];simp
   clear hV2
   (go_enter Tryz.func49,Tryz.ntmps49;go_wp2_with (first | (go_at_call 100;(first | (refine (C1.out _ belB).mono ?_;clear C1) | refine (C2.out _ belB).mono ?_);rintro e w2 ⟨rfl,hb2⟩;(have hX2:CBox w2 w.heap.size fr till ⟨#[]⟩ A cl.length ca B co.length cb S si.length cs us:=(by first | exact Blk.keep hX2 hb2 | exact Blk.keep (World.alloc_heap_new _ _) hb2);obtain⟨x0,x1,x2,x3,x4,x5,x6⟩:=hX2.facts)) | (go_at_call 103;refine (C3.out _ belB).mono ?_;rintro e w2 ⟨rfl,hb2⟩));go_ret;exact⟨rfl,belB⟩)
  obtain rfl:V=b4:=by rw[hV2];cases b1 <;> cases b4 <;> rfl
  clear hV2
  (go_enter Tryz.func49,Tryz.ntmps49;go_wp2_with (first | (go_at_call 100;(first | (refine (C1.out _ belB).mono ?_;clear C1) | refine (C2.out _ belB).mono ?_);rintro e w2 ⟨rfl,hb2⟩;(have hX2:CBox w2 w.heap.size fr till ⟨#[]⟩ A cl.length ca B co.length cb S si.length cs us:=(by first | exact Blk.keep hX2 hb2 | exact Blk.keep (World.alloc_heap_new _ _) hb2);obtain⟨x0,x1,x2,x3,x4,x5,x6⟩:=hX2.facts)) | (go_at_call 103;refine (C3.out _ belB).mono ?_;rintro e w2 ⟨rfl,hb2⟩));go_ret;exact⟨rfl,belB⟩)
 ·have hn:¬ pat.toList=[]:=fun e=>hs (by rw[Lib.toList_data]at e;rw[Lib.size_eq,e];rfl)
  have hn2:(pat.toList == [])=false:=by simpa using hn
  rw[decide_eq_false hs,Bool.false_or]at hV2
  cases b1
  ·obtain rfl:V=false:=by rw[hV2];simp
   clear hV2
   (go_enter Tryz.func49,Tryz.ntmps49;go_wp2_with (first | (go_at_call 99;refine (HVA.out _ (Env.keep HE.out belB)).mono ?_;rintro e w2 ⟨rfl,hb2⟩;(have hX2:CBox w2 w.heap.size fr till pat A cl.length ca B co.length cb S si.length cs us:=(by first | exact Blk.keep hX2 hb2 | exact Blk.keep (World.alloc_heap_new _ _) hb2);obtain⟨x0,x1,x2,x3,x4,x5,x6⟩:=hX2.facts)) | (go_at_call 100;(first | (refine (C1.out _ belB).mono ?_;clear C1) | refine (C2.out _ belB).mono ?_);rintro e w2 ⟨rfl,hb2⟩;(have hX2:CBox w2 w.heap.size fr till pat A cl.length ca B co.length cb S si.length cs us:=(by first | exact Blk.keep hX2 hb2 | exact Blk.keep (World.alloc_heap_new _ _) hb2);obtain⟨x0,x1,x2,x3,x4,x5,x6⟩:=hX2.facts)) | (go_at_call 103;refine (C3.out _ belB).mono ?_;rintro e w2 ⟨rfl,hb2⟩));go_ret;exact⟨rfl,belB⟩)
  cases b2
  ·obtain rfl:V=false:=by rw[hV2];simp
   clear hV2
   (go_enter Tryz.func49,Tryz.ntmps49;go_wp2_with (first | (go_at_call 99;refine (HVA.out _ (Env.keep HE.out belB)).mono ?_;rintro e w2 ⟨rfl,hb2⟩;(have hX2:CBox w2 w.heap.size fr till pat A cl.length ca B co.length cb S si.length cs us:=(by first | exact Blk.keep hX2 hb2 | exact Blk.keep (World.alloc_heap_new _ _) hb2);obtain⟨x0,x1,x2,x3,x4,x5,x6⟩:=hX2.facts)) | (go_at_call 100;(first | (refine (C1.out _ belB).mono ?_;clear C1) | refine (C2.out _ belB).mono ?_);rintro e w2 ⟨rfl,hb2⟩;(have hX2:CBox w2 w.heap.size fr till pat A cl.length ca B co.length cb S si.length cs us:=(by first | exact Blk.keep hX2 hb2 | exact Blk.keep (World.alloc_heap_new _ _) hb2);obtain⟨x0,x1,x2,x3,x4,x5,x6⟩:=hX2.facts)) | (go_at_call 103;refine (C3.out _ belB).mono ?_;rintro e w2 ⟨rfl,hb2⟩));go_ret;exact⟨rfl,belB⟩)
  cases b3
  ·obtain rfl:V=false:=by rw[hV2];simp
   clear hV2
   (go_enter Tryz.func49,Tryz.ntmps49;go_wp2_with (first | (go_at_call 99;refine (HVA.out _ (Env.keep HE.out belB)).mono ?_;rintro e w2 ⟨rfl,hb2⟩;(have hX2:CBox w2 w.heap.size fr till pat A cl.length ca B co.length cb S si.length cs us:=(by first | exact Blk.keep hX2 hb2 | exact Blk.keep (World.alloc_heap_new _ _) hb2);obtain⟨x0,x1,x2,x3,x4,x5,x6⟩:=hX2.facts)) | (go_at_call 100;(first | (refine (C1.out _ belB).mono ?_;clear C1) | refine (C2.out _ belB).mono ?_);rintro e w2 ⟨rfl,hb2⟩;(have hX2:CBox w2 w.heap.size fr till pat A cl.length ca B co.length cb S si.length cs us:=(by first | exact Blk.keep hX2 hb2 | exact Blk.keep (World.alloc_heap_new _ _) hb2);obtain⟨x0,x1,x2,x3,x4,x5,x6⟩:=hX2.facts)) | (go_at_call 103;refine (C3.out _ belB).mono ?_;rintro e w2 ⟨rfl,hb2⟩));go_ret;exact⟨rfl,belB⟩)
  obtain rfl:V=b4:=by rw[hV2];cases b4 <;> rfl
  clear hV2
  (go_enter Tryz.func49,Tryz.ntmps49;go_wp2_with (first | (go_at_call 99;refine (HVA.out _ (Env.keep HE.out belB)).mono ?_;rintro e w2 ⟨rfl,hb2⟩;(have hX2:CBox w2 w.heap.size fr till pat A cl.length ca B co.length cb S si.length cs us:=(by first | exact Blk.keep hX2 hb2 | exact Blk.keep (World.alloc_heap_new _ _) hb2);obtain⟨x0,x1,x2,x3,x4,x5,x6⟩:=hX2.facts)) | (go_at_call 100;(first | (refine (C1.out _ belB).mono ?_;clear C1) | refine (C2.out _ belB).mono ?_);rintro e w2 ⟨rfl,hb2⟩;(have hX2:CBox w2 w.heap.size fr till pat A cl.length ca B co.length cb S si.length cs us:=(by first | exact Blk.keep hX2 hb2 | exact Blk.keep (World.alloc_heap_new _ _) hb2);obtain⟨x0,x1,x2,x3,x4,x5,x6⟩:=hX2.facts)) | (go_at_call 103;refine (C3.out _ belB).mono ?_;rintro e w2 ⟨rfl,hb2⟩));go_ret;exact⟨rfl,belB⟩)
structure CondFits (c:CondV):Prop where
 p:c.pat.size≤100000
 cl:∀ x∈c.cl,x.size≤100000
 co:∀ x∈c.co,x.size≤100000
 n1:c.cl.length≤1000000
 n2:c.co.length≤1000000
 n3:c.si.length≤1000000
structure AskFits (a:AskV):Prop where
 p:a.addr.size≤100000
 cl:a.client.size≤100000
 co:a.country.size≤100000
def ABox (w:World) (g:Nat) (ad cl co:ByteArray) (si lo hi:Int):Prop:=Blk w g 59 #[.string ad,.string cl,.string co,.int .i64 si,.int .i64 lo,.int .i64 hi] (0,0)
theorem ABox.facts {w:World} {g:Nat} {ad cl co:ByteArray} {si lo hi:Int} (h:ABox w g ad cl co si lo hi) :
  w.cell? ⟨g,0,none⟩=some (.string ad)∧w.cell? ⟨g,1,none⟩=some (.string cl)∧w.cell? ⟨g,2,none⟩=some (.string co)∧w.cell? ⟨g,3,none⟩=some (.int .i64 si)∧w.cell? ⟨g,4,none⟩=some (.int .i64 lo)∧w.cell? ⟨g,5,none⟩=some (.int .i64 hi) :=
 ⟨Blk.cell h 0,Blk.cell h 1,Blk.cell h 2,Blk.cell h 3,Blk.cell h 4,Blk.cell h 5⟩
theorem two_box (w:World) (o1 o2:Obj):((w.alloc o1).alloc o2).heap[w.heap.size]? = some o1∧((w.alloc o1).alloc o2).heap[w.heap.size+1]? = some o2:=by
 refine⟨(Below.heap_alloc _ _ _ (by simp)).trans (World.alloc_heap_new _ _),?_⟩
 have:=World.alloc_heap_new (w.alloc o1) o2
 rwa [World.size_alloc]at this
theorem holds_any (c:CondV) (m:CondMem) (a:AskV) (w:World) (hR:CondReads w c m) (hc:CondFits c) (ha:AskFits a) (hE:Env w) :
  Calls Tryz.prog 41 #[CondMem.val c m,AskV.val a] w (Ret w (.bool (holdsC c a))):=by
 have c1:=fun W (hb:Below w.heap.size w W)=>condValid_any c m W (hR.keep hb) hc.p hc.cl hc.co hc.n1 hc.n2 hc.n3 (hE.keep hb)
 have c2:=fun W h=>validAsk_any a W ha.p ha.cl ha.co h
 obtain⟨V,hV⟩:∃ V,V=holdsC c a:=⟨_,rfl⟩
 rw[←hV]
 unfold holdsC at hV
 generalize validC c=v1 at *
 generalize validAsk a=v2 at *
 obtain⟨fr,till,pat,cl,co,si,us⟩:=c
 obtain⟨A,ca,B,cb,S,cs⟩:=m
 obtain⟨ad,kl,ko,st,lo,hi⟩:=a
 obtain⟨hA,hB,hS⟩:=hR
 obtain⟨h1,h2,h3,n1,n2,n3⟩:=hc
 obtain⟨g1,g2,g3⟩:=ha
 unfold CondMem.val at c1
 unfold AskV.val at c2
 unfold CondMem.val AskV.val
 dsimp only at hA hB hS h1 h2 h3 n1 n2 n3 g1 g2 g3 hV c1 c2
 dsimp only
 have c3:=fun W=>condPattern_any fr till us pat A B S cl.length ca co.length cb si.length cs W
 have hpt:(if pat.size=0 then (⟨#[42,47,42,42]⟩:ByteArray) else pat)=patT pat:=rfl
 rw[hpt]at c3
 have hps:(patT pat).size≤100000:=by unfold patT;split;exact (by decide);exact h1
 have c4:=fun W h=>match_any (patT pat) ad W hps g1 h
 have c5:=fun W (hb:Below w.heap.size w W)=>allowsS_any A cl.length ca cl kl W (hA.keep hb) (by omega)
 have c6:=fun W (hb:Below w.heap.size w W)=>allowsS_any B co.length cb co ko W (hB.keep hb) (by omega)
 have c7:=fun W (hb:Below w.heap.size w W)=>allowsI_any S si.length cs si st W (hS.keep hb) (by omega)
 generalize patT pat=pt at *
 generalize matchB pt ad=v4 at *
 generalize allowsL cl kl=v5 at *
 generalize allowsL co ko=v6 at *
 generalize allowsL si st=v7 at *
 obtain⟨W0,hW0⟩:∃ W0,W0=(w.alloc (.cells #[.int .i64 fr,.int .i64 till,.string pat,.slice A cl.length ca,.slice B co.length cb,.slice S si.length cs,.int .i64 us] 27)).alloc (.cells #[.string ad,.string kl,.string ko,.int .i64 st,.int .i64 lo,.int .i64 hi] 59):=⟨_,rfl⟩
 have hb0:Below w.heap.size w W0:=by rw[hW0];exact balloc (balloc (Below.refl _ _) _) _
 have hX:CBox W0 w.heap.size fr till pat A cl.length ca B co.length cb S si.length cs us:=by rw[hW0];exact (two_box _ _ _).1
 have hY:ABox W0 (w.heap.size+1) ad kl ko st lo hi:=by rw[hW0];exact (two_box _ _ _).2
 obtain⟨x0,x1,x2,x3,x4,x5,x6⟩:=hX.facts
 obtain⟨y0,y1,y2,y3,y4,y5⟩:=hY.facts
 have r0:=cell_regrown x0;have r1:=cell_regrown x1;have r2:=cell_regrown x2;have r3:=cell_regrown x3;have r4:=cell_regrown x4;have r5:=cell_regrown x5;have r6:=cell_regrown x6
 have q0:=cell_regrown y0;have q1:=cell_regrown y1;have q2:=cell_regrown y2;have q3:=cell_regrown y3;have q4:=cell_regrown y4;have q5:=cell_regrown y5
 replace c1:=fun W (hb:Below W0.heap.size W0 W)=>c1 W (bstep hb0 hb)
 replace c2:=fun W (hb:Below W0.heap.size W0 W)=>c2 W (hE.keep (bstep hb0 hb))
 replace c3:=fun W (_:Below W0.heap.size W0 W)=>c3 W
 replace c4:=fun W (hb:Below W0.heap.size W0 W)=>c4 W (hE.keep (bstep hb0 hb))
 replace c5:=fun W (hb:Below W0.heap.size W0 W)=>c5 W (bstep hb0 hb)
 replace c6:=fun W (hb:Below W0.heap.size W0 W)=>c6 W (bstep hb0 hb)
 replace c7:=fun W (hb:Below W0.heap.size W0 W)=>c7 W (bstep hb0 hb)
 have HW:=Lib.hid hW0;have HB0:=Lib.hid hb0
 clear hW0 hb0 hX hY
 have C1:=Lib.hid c1;have C2:=Lib.hid c2;have C3:=Lib.hid c3;have C4:=Lib.hid c4;have C5:=Lib.hid c5;have C6:=Lib.hid c6;have C7:=Lib.hid c7
 clear c1 c2 c3 c4 c5 c6 c7 hE hA hB hS h1 h2 h3 n1 n2 n3 g1 g2 g3 hps hpt
 cases v1
 ·obtain rfl:V=false:=by rw[hV];simp
  clear hV
  (go_enter Tryz.func41,Tryz.ntmps41;go_wp2_with fail;rw[←HW.out];refine wp_region_quiet_below (by kernel_rfl) (by kernel_rfl) ?_;(repeat (any_goals (first | go_big_quiet_step ((first | (with_reducible exact qcalls2 C1.out _ _) | (with_reducible exact qcalls2 C2.out _ _) | (with_reducible exact qcalls2 C3.out _ _) | (with_reducible exact qcalls2 C4.out _ _) | (with_reducible exact qcalls2 C5.out _ _) | (with_reducible exact qcalls2 C6.out _ _) | (with_reducible exact qcalls2 C7.out _ _))) | quiet_step ((first | (with_reducible exact qcalls2 C1.out _ _) | (with_reducible exact qcalls2 C2.out _ _) | (with_reducible exact qcalls2 C3.out _ _) | (with_reducible exact qcalls2 C4.out _ _) | (with_reducible exact qcalls2 C5.out _ _) | (with_reducible exact qcalls2 C6.out _ _) | (with_reducible exact qcalls2 C7.out _ _))))));refine wpQuiet_nil ?_;intro _ hwq;obtain⟨⟨dq,osq⟩,hwq⟩:=hwq;subst hwq;have hbq:=below_regrown (W0) dq osq;generalize grow (redrawn (W0) dq) osq=wq at *;go_wp2;go_ret;exact⟨rfl,bstep HB0.out hbq⟩)
 cases v2
 ·obtain rfl:V=false:=by rw[hV];simp
  clear hV
  (go_enter Tryz.func41,Tryz.ntmps41;go_wp2_with fail;rw[←HW.out];refine wp_region_quiet_below (by kernel_rfl) (by kernel_rfl) ?_;(repeat (any_goals (first | go_big_quiet_step ((first | (with_reducible exact qcalls2 C1.out _ _) | (with_reducible exact qcalls2 C2.out _ _) | (with_reducible exact qcalls2 C3.out _ _) | (with_reducible exact qcalls2 C4.out _ _) | (with_reducible exact qcalls2 C5.out _ _) | (with_reducible exact qcalls2 C6.out _ _) | (with_reducible exact qcalls2 C7.out _ _))) | quiet_step ((first | (with_reducible exact qcalls2 C1.out _ _) | (with_reducible exact qcalls2 C2.out _ _) | (with_reducible exact qcalls2 C3.out _ _) | (with_reducible exact qcalls2 C4.out _ _) | (with_reducible exact qcalls2 C5.out _ _) | (with_reducible exact qcalls2 C6.out _ _) | (with_reducible exact qcalls2 C7.out _ _))))));refine wpQuiet_nil ?_;intro _ hwq;obtain⟨⟨dq,osq⟩,hwq⟩:=hwq;subst hwq;have hbq:=below_regrown (W0) dq osq;generalize grow (redrawn (W0) dq) osq=wq at *;go_wp2;go_ret;exact⟨rfl,bstep HB0.out hbq⟩)
 by_cases t1:fr≤lo
 rotate_left
 ·obtain rfl:V=false:=by rw[hV];simp[t1]
  have d1:decide (fr≤lo)=false:=decide_eq_false t1
  clear hV
  (go_enter Tryz.func41,Tryz.ntmps41;go_wp2_with fail;rw[←HW.out];refine wp_region_quiet_below (by kernel_rfl) (by kernel_rfl) ?_;(repeat (any_goals (first | go_big_quiet_step ((first | (with_reducible exact qcalls2 C1.out _ _) | (with_reducible exact qcalls2 C2.out _ _) | (with_reducible exact qcalls2 C3.out _ _) | (with_reducible exact qcalls2 C4.out _ _) | (with_reducible exact qcalls2 C5.out _ _) | (with_reducible exact qcalls2 C6.out _ _) | (with_reducible exact qcalls2 C7.out _ _))) | quiet_step ((first | (with_reducible exact qcalls2 C1.out _ _) | (with_reducible exact qcalls2 C2.out _ _) | (with_reducible exact qcalls2 C3.out _ _) | (with_reducible exact qcalls2 C4.out _ _) | (with_reducible exact qcalls2 C5.out _ _) | (with_reducible exact qcalls2 C6.out _ _) | (with_reducible exact qcalls2 C7.out _ _))))));refine wpQuiet_nil ?_;intro _ hwq;obtain⟨⟨dq,osq⟩,hwq⟩:=hwq;subst hwq;have hbq:=below_regrown (W0) dq osq;generalize grow (redrawn (W0) dq) osq=wq at *;go_wp2;go_ret;exact⟨rfl,bstep HB0.out hbq⟩)
 have d1:decide (fr≤lo)=true:=decide_eq_true t1
 by_cases t2:hi<till
 rotate_left
 ·obtain rfl:V=false:=by rw[hV];simp[t2]
  have d2:decide (hi<till)=false:=decide_eq_false t2
  clear hV
  (go_enter Tryz.func41,Tryz.ntmps41;go_wp2_with fail;rw[←HW.out];refine wp_region_quiet_below (by kernel_rfl) (by kernel_rfl) ?_;(repeat (any_goals (first | go_big_quiet_step ((first | (with_reducible exact qcalls2 C1.out _ _) | (with_reducible exact qcalls2 C2.out _ _) | (with_reducible exact qcalls2 C3.out _ _) | (with_reducible exact qcalls2 C4.out _ _) | (with_reducible exact qcalls2 C5.out _ _) | (with_reducible exact qcalls2 C6.out _ _) | (with_reducible exact qcalls2 C7.out _ _))) | quiet_step ((first | (with_reducible exact qcalls2 C1.out _ _) | (with_reducible exact qcalls2 C2.out _ _) | (with_reducible exact qcalls2 C3.out _ _) | (with_reducible exact qcalls2 C4.out _ _) | (with_reducible exact qcalls2 C5.out _ _) | (with_reducible exact qcalls2 C6.out _ _) | (with_reducible exact qcalls2 C7.out _ _))))));refine wpQuiet_nil ?_;intro _ hwq;obtain⟨⟨dq,osq⟩,hwq⟩:=hwq;subst hwq;have hbq:=below_regrown (W0) dq osq;generalize grow (redrawn (W0) dq) osq=wq at *;go_wp2;go_ret;exact⟨rfl,bstep HB0.out hbq⟩)
 have d2:decide (hi<till)=true:=decide_eq_true t2
 have hV2:V=(v4&&v5&&v6&&v7):=by rw[hV];simp[t1,t2]
 clear hV
 cases v4
 ·obtain rfl:V=false:=by rw[hV2];simp
  clear hV2
  (go_enter Tryz.func41,Tryz.ntmps41;go_wp2_with fail;rw[←HW.out];refine wp_region_quiet_below (by kernel_rfl) (by kernel_rfl) ?_;(repeat (any_goals (first | go_big_quiet_step ((first | (with_reducible exact qcalls2 C1.out _ _) | (with_reducible exact qcalls2 C2.out _ _) | (with_reducible exact qcalls2 C3.out _ _) | (with_reducible exact qcalls2 C4.out _ _) | (with_reducible exact qcalls2 C5.out _ _) | (with_reducible exact qcalls2 C6.out _ _) | (with_reducible exact qcalls2 C7.out _ _))) | quiet_step ((first | (with_reducible exact qcalls2 C1.out _ _) | (with_reducible exact qcalls2 C2.out _ _) | (with_reducible exact qcalls2 C3.out _ _) | (with_reducible exact qcalls2 C4.out _ _) | (with_reducible exact qcalls2 C5.out _ _) | (with_reducible exact qcalls2 C6.out _ _) | (with_reducible exact qcalls2 C7.out _ _))))));refine wpQuiet_nil ?_;intro _ hwq;obtain⟨⟨dq,osq⟩,hwq⟩:=hwq;subst hwq;have hbq:=below_regrown (W0) dq osq;generalize grow (redrawn (W0) dq) osq=wq at *;go_wp2;go_ret;exact⟨rfl,bstep HB0.out hbq⟩)
 cases v5
 ·obtain rfl:V=false:=by rw[hV2];simp
  clear hV2
  (go_enter Tryz.func41,Tryz.ntmps41;go_wp2_with fail;rw[←HW.out];refine wp_region_quiet_below (by kernel_rfl) (by kernel_rfl) ?_;(repeat (any_goals (first | go_big_quiet_step ((first | (with_reducible exact qcalls2 C1.out _ _) | (with_reducible exact qcalls2 C2.out _ _) | (with_reducible exact qcalls2 C3.out _ _) | (with_reducible exact qcalls2 C4.out _ _) | (with_reducible exact qcalls2 C5.out _ _) | (with_reducible exact qcalls2 C6.out _ _) | (with_reducible exact qcalls2 C7.out _ _))) | quiet_step ((first | (with_reducible exact qcalls2 C1.out _ _) | (with_reducible exact qcalls2 C2.out _ _) | (with_reducible exact qcalls2 C3.out _ _) | (with_reducible exact qcalls2 C4.out _ _) | (with_reducible exact qcalls2 C5.out _ _) | (with_reducible exact qcalls2 C6.out _ _) | (with_reducible exact qcalls2 C7.out _ _))))));refine wpQuiet_nil ?_;intro _ hwq;obtain⟨⟨dq,osq⟩,hwq⟩:=hwq;subst hwq;have hbq:=below_regrown (W0) dq osq;generalize grow (redrawn (W0) dq) osq=wq at *;go_wp2;go_ret;exact⟨rfl,bstep HB0.out hbq⟩)
 cases v6
 ·obtain rfl:V=false:=by rw[hV2];simp
  clear hV2
  (go_enter Tryz.func41,Tryz.ntmps41;go_wp2_with fail;rw[←HW.out];refine wp_region_quiet_below (by kernel_rfl) (by kernel_rfl) ?_;(repeat (any_goals (first | go_big_quiet_step ((first | (with_reducible exact qcalls2 C1.out _ _) | (with_reducible exact qcalls2 C2.out _ _) | (with_reducible exact qcalls2 C3.out _ _) | (with_reducible exact qcalls2 C4.out _ _) | (with_reducible exact qcalls2 C5.out _ _) | (with_reducible exact qcalls2 C6.out _ _) | (with_reducible exact qcalls2 C7.out _ _))) | quiet_step ((first | (with_reducible exact qcalls2 C1.out _ _) | (with_reducible exact qcalls2 C2.out _ _) | (with_reducible exact qcalls2 C3.out _ _) | (with_reducible exact qcalls2 C4.out _ _) | (with_reducible exact qcalls2 C5.out _ _) | (with_reducible exact qcalls2 C6.out _ _) | (with_reducible exact qcalls2 C7.out _ _))))));refine wpQuiet_nil ?_;intro _ hwq;obtain⟨⟨dq,osq⟩,hwq⟩:=hwq;subst hwq;have hbq:=below_regrown (W0) dq osq;generalize grow (redrawn (W0) dq) osq=wq at *;go_wp2;go_ret;exact⟨rfl,bstep HB0.out hbq⟩)
 obtain rfl:V=v7:=by rw[hV2];simp
 clear hV2
 (go_enter Tryz.func41,Tryz.ntmps41;go_wp2_with fail;rw[←HW.out];refine wp_region_quiet_below (by kernel_rfl) (by kernel_rfl) ?_;(repeat (any_goals (first | go_big_quiet_step ((first | (with_reducible exact qcalls2 C1.out _ _) | (with_reducible exact qcalls2 C2.out _ _) | (with_reducible exact qcalls2 C3.out _ _) | (with_reducible exact qcalls2 C4.out _ _) | (with_reducible exact qcalls2 C5.out _ _) | (with_reducible exact qcalls2 C6.out _ _) | (with_reducible exact qcalls2 C7.out _ _))) | quiet_step ((first | (with_reducible exact qcalls2 C1.out _ _) | (with_reducible exact qcalls2 C2.out _ _) | (with_reducible exact qcalls2 C3.out _ _) | (with_reducible exact qcalls2 C4.out _ _) | (with_reducible exact qcalls2 C5.out _ _) | (with_reducible exact qcalls2 C6.out _ _) | (with_reducible exact qcalls2 C7.out _ _))))));refine wpQuiet_nil ?_;intro _ hwq;obtain⟨⟨dq,osq⟩,hwq⟩:=hwq;subst hwq;have hbq:=below_regrown (W0) dq osq;generalize grow (redrawn (W0) dq) osq=wq at *;go_wp2;go_ret;exact⟨rfl,bstep HB0.out hbq⟩)
def fieldsC (c:CondV):List ByteArray:=[itoaB c.fr,itoaB c.till,orT c.pat ⟨#[126]⟩,joinT c.cl,joinT c.co,joinT (c.si.map itoaB),itoaB c.us]
def textC (c:CondV):ByteArray:=⟨(Lib.join ((fieldsC c).map (·.data.toList)) [32]).toArray⟩
theorem join_le (c:UInt8) (B:Nat) (l:List (List UInt8)) (hl:∀ x∈l,x.length≤B):(Lib.join l [c]).length≤l.length*(B+1):=by
 cases l with
 | nil=>simp[Lib.join_nil]
 | cons x r =>
  have hx:=hl x (by simp)
  have hr:Lib.lens r≤r.length*B:=lens_le' B r (fun y hy=>hl y (by simp[hy]))
  rw[Lib.join_cons,List.length_append,Lib.joinTail_length]
  simp only[List.length_cons,List.length_nil,Nat.zero_add,Nat.one_mul]
  have e1:(r.length+1)*(B+1)=r.length*B+r.length+B+1:=by rw[Nat.succ_mul,Nat.mul_succ];omega
  omega
theorem joinT_len (B:Nat) (xs:List ByteArray) (h:∀ x∈xs,x.size≤B):(joinT xs).size≤xs.length*(B+1)+1:=by
 unfold joinT orT
 split
 ·show 1≤_;omega
 ·have:=join_le 44 B (xs.map (·.data.toList)) (by
   intro y hy
   obtain⟨z,hz,rfl⟩:=List.mem_map.1 hy
   have:=h z hz;rw[Lib.size_eq]at this;exact this)
  rw[List.length_map]at this
  show (Lib.join (xs.map (·.data.toList)) [44]).toArray.size≤_
  rw[List.size_toArray]
  omega
theorem itoa_size (n:Int) (h0 : -9223372036854775808≤n) (h1:n≤9223372036854775807):(itoaB n).size≤21:=Lib.itoa_length_le n h0 h1
theorem comma_le (B:Nat) (xs:List ByteArray) (h:∀ x∈xs,x.size≤B) (hn:xs.length≤1000000) (hB:B≤100000):(Lib.join (xs.map (·.data.toList)) [44]).length≤140737488355328:=by
 have:=join_le 44 B (xs.map (·.data.toList)) (by
  intro y hy
  obtain⟨z,hz,rfl⟩:=List.mem_map.1 hy
  have:=h z hz;rw[Lib.size_eq]at this;exact this)
 rw[List.length_map]at this
 have h2:xs.length*(B+1)≤1000000*100001:=Nat.mul_le_mul hn (by omega)
 omega
theorem orT_size (a:ByteArray):(orT a ⟨#[126]⟩).size≤a.size+1:=by
 unfold orT
 split
 ·show 1≤_;omega
 ·omega
theorem two_cells1 (W:World) (t:Nat) (a b:Value):(W.alloc (.cells #[a,b] t)).cell? ⟨W.heap.size,0,none⟩=some a∧(W.alloc (.cells #[a,b] t)).cell? ⟨W.heap.size,1,none⟩=some b:=two_cells0 W t a b _ rfl
theorem join7 (f0 f1 f2 f3 f4 f5 f6:ByteArray) (h:∀ x∈[f0,f1,f2,f3,f4,f5,f6],x.size≤200000000000) (W:World) :
  Calls Tryz.prog 72 #[.slice (some ⟨W.heap.size,0,none⟩) 7 7,.string ⟨#[32]⟩] (W.alloc (.cells #[.string f0,.string f1,.string f2,.string f3,.string f4,.string f5,.string f6] 9)) (Ret (W.alloc (.cells #[.string f0,.string f1,.string f2,.string f3,.string f4,.string f5,.string f6] 9)) (.string ⟨(Lib.join ([f0,f1,f2,f3,f4,f5,f6].map (·.data.toList)) [32]).toArray⟩)):=by
 have hb:Blk (W.alloc (.cells #[.string f0,.string f1,.string f2,.string f3,.string f4,.string f5,.string f6] 9)) W.heap.size 9 #[.string f0,.string f1,.string f2,.string f3,.string f4,.string f5,.string f6] (0,0):=World.alloc_heap_new _ _
 refine (Tryz.strings_Join W.heap.size 0 7 [f0,f1,f2,f3,f4,f5,f6] ⟨#[32]⟩ _ (fun j x hj=>?_) (by simp) (by simp) (by simp) ?_)
 ·have:=hb.cell j
  rw[Nat.zero_add,this]
  rcases j with _ | _ | _ | _ | _ | _ | _ | j <;> simp at hj ⊢ <;> first | exact hj | exact congrArg _ hj | skip
 ·have:=join_le 32 200000000000 ([f0,f1,f2,f3,f4,f5,f6].map (·.data.toList)) (by
   intro y hy
   obtain⟨z,hz,rfl⟩:=List.mem_map.1 hy
   have:=h z hz;rw[Lib.size_eq]at this;exact this)
  rw[List.length_map]at this
  simp only[List.length_cons,List.length_nil]at this
  show (Lib.join ([f0,f1,f2,f3,f4,f5,f6].map (·.data.toList)) [32]).length≤_
  omega
theorem text_valid (c:CondV) (m:CondMem) (w:World) (hR:CondReads w c m) (hc:CondFits c) (hv:validC c=true) (hE:Env w) (hT:Tab w):Calls Tryz.prog 132 #[CondMem.val c m] w (Ret w (.tuple #[.string (textC c),.int .i64 0])):=by
 have ok:=(valid_iff c).1 hv
 have c1:=fun W (hb:Below w.heap.size w W)=>hv▸condValid_any c m W (hR.keep hb) hc.p hc.cl hc.co hc.n1 hc.n2 hc.n3 (hE.keep hb)
 have ci:=fun n (h0 : -9223372036854775808≤n) (h1:n≤9223372036854775807) W (hb:Below w.heap.size w W)=>itoa_any n W h0 h1 (hT.keep hb)
 have hfr:=ok.fr0;have hfr1:=ok.fr1;have hti:=ok.to0;have hti1:=ok.to1;have hus:=ok.us0;have hus1:=ok.us1
 have k1:=ci c.fr (by omega) (by omega)
 have k2:=ci c.till (by omega) (by omega)
 have k3:=ci c.us (by omega) (by omega)
 have hs1:=itoa_size c.fr (by omega) (by omega)
 have hs2:=itoa_size c.till (by omega) (by omega)
 have hs3:=itoa_size c.us (by omega) (by omega)
 have hs4:=orT_size c.pat
 have hsi:∀ x∈c.si,0≤x∧x<64:=fun x hx=>by have:=ok.si x hx;unfold siteB at this;simpa using this
 have hss:∀ y∈c.si.map itoaB,y.size≤21:=fun y hy=>by
  obtain⟨x,hx,rfl⟩:=List.mem_map.1 hy
  have:=hsi x hx
  exact itoa_size x (by omega) (by omega)
 have hs5:=joinT_len 100000 c.cl hc.cl
 have hs6:=joinT_len 100000 c.co hc.co
 have hs7:=joinT_len 21 (c.si.map itoaB) hss
 rw[List.length_map]at hs7
 have j1:=fun W (hb:Below w.heap.size w W)=>joinS_any 191 (enters_of Tryz.func191 (by kernel_rfl) rfl) id m.A c.cl.length m.ca c.cl W (fun x hx W' _=>sclone_any x W' (by have:=hc.cl x hx;omega)) (hR.cl.keep hb) hc.n1 (by rw[List.map_id];exact comma_le 100000 c.cl hc.cl hc.n1 (by omega))
 have j2:=fun W (hb:Below w.heap.size w W)=>joinS_any 191 (enters_of Tryz.func191 (by kernel_rfl) rfl) id m.B c.co.length m.cb c.co W (fun x hx W' _=>sclone_any x W' (by have:=hc.co x hx;omega)) (hR.co.keep hb) hc.n2 (by rw[List.map_id];exact comma_le 100000 c.co hc.co hc.n2 (by omega))
 have j3:=fun W (hb:Below w.heap.size w W)=>joinI_any 57 (enters_of Tryz.func57 (by kernel_rfl) rfl) itoaB m.S c.si.length m.cs c.si W (fun x hx W' hb'=>itoa_any x W' (by have:=hsi x hx;omega) (by have:=hsi x hx;omega) (hT.keep (bstep hb hb'))) (hR.si.keep hb) hc.n3 (comma_le 21 _ hss (by rw[List.length_map];exact hc.n3) (by omega))
 rw[List.map_id]at j1 j2
 have cO:=fun (g cc:Nat) (W:World) h0 h1=>cmpOr_any g cc c.pat ⟨#[126]⟩ W h0 h1
 have hor:(if c.pat.size=0 then (⟨#[126]⟩:ByteArray) else c.pat)=orT c.pat ⟨#[126]⟩:=rfl
 rw[hor]at cO
 have hn1:=hc.n1;have hn2:=hc.n2;have hn3:=hc.n3;have hp:=hc.p
 have m1:c.cl.length*100001≤1000000*100001:=Nat.mul_le_mul hn1 (Nat.le_refl _)
 have m2:c.co.length*100001≤1000000*100001:=Nat.mul_le_mul hn2 (Nat.le_refl _)
 have m3:c.si.length*22≤1000000*22:=Nat.mul_le_mul hn3 (Nat.le_refl _)
 have cJ:=join7 (itoaB c.fr) (itoaB c.till) (orT c.pat ⟨#[126]⟩) (joinT c.cl) (joinT c.co) (joinT (c.si.map itoaB)) (itoaB c.us) (by
  intro x hx
  simp only[List.mem_cons,List.not_mem_nil,or_false]at hx
  rcases hx with rfl | rfl | rfl | rfl | rfl | rfl | rfl <;> omega)
 unfold textC fieldsC
 generalize (⟨(Lib.join ([itoaB c.fr,itoaB c.till,orT c.pat ⟨#[126]⟩,joinT c.cl,joinT c.co,joinT (c.si.map itoaB),itoaB c.us].map (·.data.toList)) [32]).toArray⟩:ByteArray)=T at *
 generalize itoaB c.fr=u1 at *
 generalize itoaB c.till=u2 at *
 generalize itoaB c.us=u3 at *
 generalize orT c.pat ⟨#[126]⟩=pp at *
 generalize joinT c.cl=l1 at *
 generalize joinT c.co=l2 at *
 generalize joinT (c.si.map itoaB)=l3 at *
 obtain⟨fr,till,pat,cl,co,si,us⟩:=c
 obtain⟨A,ca,B,cb,S,cs⟩:=m
 unfold CondMem.val at c1 ⊢
 dsimp only at c1 k1 k2 k3 j1 j2 j3 cO ⊢
 generalize cl.length=na at *
 generalize co.length=nb at *
 generalize si.length=ns at *
 have C1:=Lib.hid c1;have K1:=Lib.hid k1;have K2:=Lib.hid k2;have K3:=Lib.hid k3;have J1:=Lib.hid j1;have J2:=Lib.hid j2;have J3:=Lib.hid j3;have CO:=Lib.hid cO;have CJ:=Lib.hid cJ
 clear c1 ci k1 k2 k3 j1 j2 j3 cO cJ hor hs1 hs2 hs3 hs4 hs5 hs6 hs7 hss hsi m1 m2 m3 hn1 hn2 hn3 hp hfr hfr1 hti hti1 hus hus1 ok hv hc hR hE hT
 go_enter Tryz.func132,Tryz.ntmps132
 go_upto_region 4 with (go_at_call 49;refine (C1.out _ belB).mono ?_;rintro e w2 ⟨rfl,hb2⟩;have hX2:CBox w2 w.heap.size fr till pat A na ca B nb cb S ns cs us:=Blk.keep (World.alloc_heap_new _ _) hb2;obtain⟨x0,x1,x2,x3,x4,x5,x6⟩:=hX2.facts;have hbw:Below w.heap.size w w2:=belB)
 clear hX2 hb2
 go_region_held3 (fun w'=>w'.cell? ⟨w.heap.size,0,none⟩=some (.int .i64 fr)∧w'.cell? ⟨w.heap.size,1,none⟩=some (.int .i64 till)∧w'.cell? ⟨w.heap.size,2,none⟩=some (.string pat)∧w'.cell? ⟨w.heap.size,3,none⟩=some (.slice A na ca)∧w'.cell? ⟨w.heap.size,4,none⟩=some (.slice B nb cb)∧w'.cell? ⟨w.heap.size,5,none⟩=some (.slice S ns cs)∧w'.cell? ⟨w.heap.size,6,none⟩=some (.int .i64 us)∧Below w.heap.size w w')
  (first | exact⟨x0,x1,x2,x3,x4,x5,x6,Below.drew hbw⟩ | (go_split_ands;refine⟨?_,?_,?_,?_,?_,?_,?_,?_⟩ <;> first | assumption | (refine Lib.cell?_alloc_some _ ?_;assumption) | (refine balloc ?_ _;assumption) | exact Below.drew (balloc hbw _) | (refine cell_keep hb10 ?_;assumption) | (refine bstep ?_ hb10;assumption) | (refine cell_keep hb9 ?_;assumption) | (refine bstep ?_ hb9;assumption) | (refine cell_keep hb8 ?_;assumption) | (refine bstep ?_ hb8;assumption) | (refine cell_keep hb7 ?_;assumption) | (refine bstep ?_ hb7;assumption) | (refine cell_keep hb6 ?_;assumption) | (refine bstep ?_ hb6;assumption) | (refine cell_keep hb5 ?_;assumption) | (refine bstep ?_ hb5;assumption) | (refine cell_keep hb4 ?_;assumption) | (refine bstep ?_ hb4;assumption) | (refine cell_keep hb3 ?_;assumption) | (refine bstep ?_ hb3;assumption)))
  (first | (go_at_call 57;refine (K1.out _ (by go_split_ands;assumption)).mono ?_;rintro e w3 ⟨rfl,hb3⟩;clear K1) | (go_at_call 57;refine (K2.out _ (by go_split_ands;assumption)).mono ?_;rintro e w4 ⟨rfl,hb4⟩;clear K2) | (go_at_call 108;(first | (with_reducible refine (CO.out w4.heap.size 2 (w4.alloc (.cells #[.string pat,.string ⟨#[126]⟩] 9)) (two_cells1 w4 9 _ _).1 (two_cells1 w4 9 _ _).2).mono ?_) | (with_reducible refine (CO.out w3.heap.size 2 w4 (cell_keep hb4 (two_cells1 w3 9 (.string pat) (.string ⟨#[126]⟩)).1) (cell_keep hb4 (two_cells1 w3 9 (.string pat) (.string ⟨#[126]⟩)).2)).mono ?_) | (have s0:w3.cell? ⟨w2.heap.size,0,none⟩=some (.string pat):=cell_keep hb3 (two_cells1 w2 9 (.string pat) (.string ⟨#[126]⟩)).1;have s1:w3.cell? ⟨w2.heap.size,1,none⟩=some (.string ⟨#[126]⟩):=cell_keep hb3 (two_cells1 w2 9 (.string pat) (.string ⟨#[126]⟩)).2;refine (CO.out w2.heap.size 2 w4 (cell_keep hb4 s0) (cell_keep hb4 s1)).mono ?_;clear s0 s1));rintro e w5 ⟨rfl,hb5⟩) | (go_at_call 192;refine (J1.out _ (by go_split_ands;assumption)).mono ?_;rintro e w6 ⟨rfl,hb6⟩;clear J1) | (go_at_call 192;refine (J2.out _ (by go_split_ands;assumption)).mono ?_;rintro e w7 ⟨rfl,hb7⟩;clear J2) | (go_at_call 193;refine (J3.out _ (by go_split_ands;assumption)).mono ?_;rintro e w8 ⟨rfl,hb8⟩;clear J3) | (go_at_call 57;refine (K3.out _ (by go_split_ands;assumption)).mono ?_;rintro e w9 ⟨rfl,hb9⟩;clear K3) | (go_at_call 72;refine (CJ.out w9).mono ?_;rintro e w10 ⟨rfl,hb10⟩))
 all_goals go_wp2
 all_goals go_ret2
 all_goals exact⟨rfl,by go_split_ands;assumption⟩
def noAsk:AskV:=⟨⟨#[]⟩,⟨#[]⟩,⟨#[]⟩,0,0,0⟩
def addrOf (p:ByteArray):ByteArray:=match bothP (patT p) ⟨#[42,47,42,42]⟩ with
 | some (some z)=>exText z
 | _=>⟨#[]⟩
def sampleC (c:CondV):AskV:=⟨addrOf c.pat,c.cl.headD ⟨#[97]⟩,c.co.headD ⟨#[97,97]⟩,c.si.headD 0,c.fr,c.fr⟩
def outL {α:Type} [DecidableEq α] (a b all:List α):Option α:=(if a.isEmpty then all else a).find? fun x=>!allowsL b x
def allClients:List ByteArray:=(List.range 33).map fun i=>⟨#[99,UInt8.ofNat (48+i / 10),UInt8.ofNat (48+i % 10)]⟩
def allCountries:List ByteArray:=(List.range 676).map fun i=>⟨#[UInt8.ofNat (97+i / 26),UInt8.ofNat (97+i % 26)]⟩
def allSites:List Int:=(List.range 64).map Int.ofNat
def impR (a b:CondV):Bool × AskV :=
 if a.till≤a.fr then (true,noAsk)
 else if a.fr<b.fr then (false,sampleC a)
 else if b.till<a.till then (false,{ sampleC a with lo:=a.till-1,hi:=a.till-1 })
 else match compileB (patT b.pat),compileB (patT a.pat) with
  | some x,some y=>if coverB x y then (match outL a.cl b.cl allClients,outL a.co b.co allCountries,outL a.si b.si allSites with
    | some s,_,_=>(false,{ sampleC a with client:=s })
    | none,some s,_=>(false,{ sampleC a with country:=s })
    | none,none,some n=>(false,{ sampleC a with site:=n })
    | none,none,none=>(true,noAsk))
   else (false,{ sampleC a with addr:=coverW x y })
  | _,_=>(true,noAsk)
end Go.Proofs.YtlkbkclnbppigaaGreatDoor
