/- Whether a rule is never chosen: analyse.Shadowed. -/
import Derived.Test.YticlbkficolocaaGreatDoorIZ36
import Derived.Test.YticlbkficolocaaGreatDoorIZ35
set_option maxHeartbeats 8000000
namespace Go.Proofs.YticlbkficolocaaGreatDoor
open Go.RowKit Go.Sort
set_option linter.unusedVariables false
set_option linter.unusedSimpArgs false
set_option maxRecDepth 100000
def Uo (L:List Qh) (i:Int):Bool:=Xp L&&(decide (0≤i)&&decide (i<(L.length:Int)))
def ShRes (L:List Qh) (i:Int) (s:ByteArray) (is:Bool) (er:Int):Prop :=
 (Uo L i=false∧s=⟨#[]⟩∧is=false∧er=1)∨(Uo L i=true∧er=0∧∃ x,L[i.toNat]? = some x∧(((Ze x.r.tags).2≠0∧s=⟨#[]⟩∧is=true)∨((Ze x.r.tags).2=0∧∃ g,is = !g∧ZU x.r.pat (Z5 L x.r.tags i.toNat) s g∧s.size≤4096)))
theorem bef_comp {L:List Qh} (hv:Xp L=true) (ts:List ByteArray) (k:Nat):∃ ys:List Z7,(Z5 L ts k).map Qx=ys.map some:=by
 refine all_comp _ (List.all_eq_true.2 fun q hq=>?_)
 unfold Z5 at hq
 obtain⟨x,hx,rfl⟩:=List.mem_map.1 hq
 have hm:=List.mem_of_mem_take (List.mem_filter.1 hx).1
 unfold Xp at hv
 rw[Bool.and_eq_true,List.all_eq_true]at hv
 have h1:=hv.2 x hm
 unfold Xn at h1
 rw[Bool.and_eq_true]at h1
 exact (rule_ok h1.1).pat
theorem bef_size {L:List Qh} (hf:∀ x∈L,Zw x.r) (ts:List ByteArray) (k:Nat):∀ q∈Z5 L ts k,q.size≤300:=by
 intro q hq
 unfold Z5 at hq
 obtain⟨x,hx,rfl⟩:=List.mem_map.1 hq
 have:=(hf x (List.mem_of_mem_take (List.mem_filter.1 hx).1)).pat
 omega
theorem Uu {L:List Qh} (hv:Xp L=true) {x:Qh} (hx:x∈L):RuleOk x.r∧XU x.L=0:=by
 unfold Xp at hv
 rw[Bool.and_eq_true,List.all_eq_true]at hv
 have h1:=hv.2 x hx
 unfold Xn at h1
 rw[Bool.and_eq_true,decide_eq_true_eq]at h1
 exact⟨rule_ok h1.1,h1.2⟩
theorem gapB_any {A:Option Addr} {n c:Nat} {L:List Qh} {w:World} (hv:Xp L=true) (hf:∀ x∈L,Zw x.r) (ts:List ByteArray) (k:Nat) (hk:k≤10) (p:ByteArray) (hp:(Qx p).isSome=true) (hps:p.size≤100000) (hE:Env w) (hT:Tab w) (B:Option Addr) (d:Nat) (hR:Reads w 1 B (Z5 L ts k).length ((Z5 L ts k).map .string)) :
  Calls Tryz.prog 26 #[.string p,.slice B (Z5 L ts k).length d] w fun e w'=>∃ s is,e=.returned (.tuple #[.string s,.bool is])∧ZU p (Z5 L ts k) s is∧s.size≤4096∧Below w.heap.size w w':=by
 obtain⟨x,hx⟩:=Option.isSome_iff_exists.1 hp
 obtain⟨ys,hy⟩:=bef_comp hv ts k
 exact gapT_any p x ys B _ d _ w hx hy hps hR (Nat.le_trans (Wu L ts k) hk) (bef_size hf ts k) hE hT
theorem Y3 (A:Option Addr) (n c:Nat) (i:Int) (L:List Qh) (w:World) (hL:Qs w A n L) (hf:∀ x∈L,Zw x.r) (hc:∀ x∈L,Jk x) (hcap:n≤c) (hn:n≤10) (hE:Env w) (hT:Tab w) :
  Calls Tryz.prog 8 #[.slice A n c,.int .i64 i] w fun e w'=>∃ s is er,e=.returned (.tuple #[.string s,.bool is,.int .i64 er])∧ShRes L i s is er∧Below w.heap.size w w':=by
 have hlen:=hL.len
 have cV:=WQ A n c L w hL hf hc (by omega) hE
 have hbad:Uo L i=false→ShRes L i ⟨#[]⟩ false 1:=fun h=>.inl ⟨h,rfl,rfl,rfl⟩
 have HBAD:=Lib.hid hbad
 clear hbad
 cases hv:Xp L
 ·have hs:=HBAD.out (by unfold Uo;rw[hv];rfl)
  rw[hv]at cV
  have HV:=Lib.hid cV;have HS:=Lib.hid hs
  clear cV hs hv HBAD hL hf hc hE hT hlen
  go_enter Tryz.func8,Tryz.ntmps8
  go_wp2_with (go_at_call 27;refine HV.out.mono ?_;rintro e w2 ⟨rfl,hb2⟩)
  go_ret3
  exact⟨_,_,_,rfl,HS.out,hb2⟩
 rw[hv]at cV
 have HV:=Lib.hid cV
 clear cV
 by_cases hi0:i<0
 ·have hs:=HBAD.out (by unfold Uo;rw[hv,decide_eq_false (by omega)];rfl)
  have d0:decide (i<0)=true:=decide_eq_true hi0
  have HS:=Lib.hid hs
  clear hs hv HBAD hL hf hc hE hT hlen
  go_enter Tryz.func8,Tryz.ntmps8
  go_wp2_with (go_at_call 27;refine HV.out.mono ?_;rintro e w2 ⟨rfl,hb2⟩)
  go_ret3
  exact⟨_,_,_,rfl,HS.out,hb2⟩
 have d0:decide (i<0)=false:=decide_eq_false hi0
 obtain⟨k,rfl⟩:∃ k:Nat,i=(k:Int):=⟨i.toNat,by omega⟩
 by_cases hkn:n≤k
 ·have hs:=HBAD.out (by unfold Uo;rw[hv,decide_eq_true (by omega),decide_eq_false (by omega)];rfl)
  have d1:decide ((n:Int)≤(k:Int))=true:=decide_eq_true (by omega)
  have HS:=Lib.hid hs
  clear hs hv HBAD hL hf hc hE hT hlen
  go_enter Tryz.func8,Tryz.ntmps8
  go_wp2_with (go_at_call 27;refine HV.out.mono ?_;rintro e w2 ⟨rfl,hb2⟩)
  go_ret3
  exact⟨_,_,_,rfl,HS.out,hb2⟩
 have d1:decide ((n:Int)≤(k:Int))=false:=decide_eq_false (by omega)
 have hok:Uo L (k:Int)=true:=by unfold Uo;rw[hv,decide_eq_true (by omega),decide_eq_true (by omega)];rfl
 obtain⟨x,hx⟩:∃ x,L[k]? = some x:=⟨_,List.getElem?_eq_getElem (by omega)⟩
 have hxm:=List.mem_of_getElem? hx
 have hx2:L[((k:Nat):Int).toNat]? = some x:=by rw[Int.toNat_natCast];exact hx
 have cB:=fun (W:World) (hb:Below w.heap.size w W)=>befor_any A n c k L x W (hL.keep hb) hx (by omega) hcap hf
 have HOK:=Lib.hid hok;have HX2:=Lib.hid hx2
 by_cases ht:(Ze x.r.tags).2=0
 rotate_left
 ·have cB2:∀ W,Below w.heap.size w W→Calls Tryz.prog 28 #[.slice A n c,.int .i64 (k:Int)] W (Zx W (.tuple #[.slice none 0 0,.bool false])):=fun W hb=>(cB W hb).mono fun e w' h=>by
   rcases h with ⟨hb',⟨_,rfl⟩ | ⟨h,_⟩⟩
   ·exact⟨rfl,hb'⟩
   ·exact absurd h ht
  have HB:=Lib.hid cB2;have HT0:=Lib.hid ht
  clear cB cB2 ht hok hx hx2 hxm HBAD hL hf hc hE hT hlen hv
  go_enter Tryz.func8,Tryz.ntmps8
  go_wp2_with (first | (go_at_call 27;refine HV.out.mono ?_;rintro e w2 ⟨rfl,hb2⟩) | (go_at_call 28;refine (HB.out _ hb2).mono ?_;rintro e w3 ⟨rfl,hb3⟩))
  go_ret3
  exact⟨_,_,_,rfl,.inr ⟨HOK.out,rfl,x,HX2.out,.inl ⟨HT0.out,rfl,rfl⟩⟩,Qj hb2 hb3⟩
 ·obtain⟨_,b,o,rfl,hcell⟩:=hL.at_ hx
  have cB2:∀ W,Below w.heap.size w W→Calls Tryz.prog 28 #[.slice (some ⟨b,o,none⟩) n c,.int .i64 (k:Int)] W (fun e w'=>∃ B d,e=.returned (.tuple #[.slice B (Z5 L x.r.tags k).length d,.bool true])∧Reads w' 1 B (Z5 L x.r.tags k).length ((Z5 L x.r.tags k).map .string)∧Below W.heap.size W w'):=fun W hb=>(cB W hb).mono fun e w' h=>by
   rcases h with ⟨hb',⟨h,_⟩ | ⟨_,B,d,rfl,hr⟩⟩
   ·exact absurd ht h
   ·exact⟨B,d,rfl,hr,hb'⟩
  have hpat:=(Uu hv hxm).1.pat
  have cG:=fun (W:World) (hb:Below w.heap.size w W) (B:Option Addr) (d:Nat) hR=>gapB_any (A:=some ⟨b,o,none⟩) (n:=n) (c:=c) (w:=W) hv hf x.r.tags k (by omega) x.r.pat hpat (by have:=(hf x hxm).pat;omega) (hE.keep hb) (hT.keep hb) B d hR
  have hc1:w.cell? ⟨b,o+k*18+1,none⟩=some (.string x.r.pat):=hcell 1 _ rfl
  have HB:=Lib.hid cB2;have HT0:=Lib.hid ht;have HG:=Lib.hid cG;have HC1:=Lib.hid hc1
  clear cB cB2 cG ht hok hx hx2 hxm HBAD hL hf hc hE hT hlen hv hcell hc1 hpat
  have hk0:(0:Int)≤(k:Int):=by omega
  have hk1:(k:Int)<(n:Int):=by omega
  go_enter Tryz.func8,Tryz.ntmps8
  go_wp2_with (first | (go_at_call 27;refine HV.out.mono ?_;rintro e w2 ⟨rfl,hb2⟩) | (go_at_call 28;refine (HB.out _ hb2).mono ?_;rintro e w3 ⟨B,d,rfl,hr3,hb3⟩;have hb23:=Qj hb2 hb3;have z1:=Qq hb23 HC1.out;have HR3:=Lib.hid hr3;clear hr3) | (go_at_call 26;refine (HG.out _ hb23 _ _ HR3.out).mono ?_;rintro e w4 ⟨s,is,rfl,hpo,hsz,hb4⟩;have HPO:=Lib.hid hpo;clear hpo))
  go_ret3
  exact⟨_,_,_,rfl,.inr ⟨HOK.out,rfl,x,HX2.out,.inr ⟨HT0.out,is,rfl,by rw[Int.toNat_natCast];exact HPO.out,hsz⟩⟩,Qj hb23 hb4⟩
def zAsk:Value:=.agg #[.string ⟨#[]⟩,.string ⟨#[]⟩,.string ⟨#[]⟩,.int .i64 0,.int .i64 0,.int .i64 0]
def DeadAt (L:List Qh) (k:Nat) (x:Qh) (a:Kr) (is:Bool):Prop :=
 (is=true∧a=UU∧((Ze x.r.tags).2≠0∨x.r.allow.till≤x.r.allow.fr∨((Ze x.r.tags).2=0∧X3 x.r.pat x.r.allow.pat=none)∨((Ze x.r.tags).2=0∧x.r.allow.fr<x.r.allow.till∧∃ m s,X3 x.r.pat x.r.allow.pat=some m∧ZU m (Z5 L x.r.tags k) s false))) ∨
 (is=false∧(Ze x.r.tags).2=0∧x.r.allow.fr<x.r.allow.till∧∃ m s,X3 x.r.pat x.r.allow.pat=some m∧ZU m (Z5 L x.r.tags k) s true∧s.size≤4096∧a={ XY x.r.allow with addr:=s })
theorem bothV_meet {p q:ByteArray} (hp:(Qx p).isSome=true) (hq:(Qx q).isSome=true):bothV (Js p q)=match X3 p q with
  | some m=>.tuple #[.string m,.bool true,.int .i64 0]
  | none=>.tuple #[.string ⟨#[]⟩,.bool false,.int .i64 0]:=by
 obtain⟨x,hx⟩:=Option.isSome_iff_exists.1 hp
 obtain⟨y,hy⟩:=Option.isSome_iff_exists.1 hq
 unfold Js X3
 rw[if_neg (YX hp),if_neg (YX hq),hx,hy]
 dsimp only
 cases QK x y <;> rfl
theorem infCon:(Tryz.prog.info? 55).map (·.size)=some 7:=by kernel_rfl
theorem agg_cond (w:World):(isAgg 55).run Tryz.prog w=.ok true w:=by
 unfold isAgg
 rw[Sem.run_bind,run_underlying Tryz.underlying55 w]
 rfl
theorem condA_load (W:World) (b o:Nat) (x:Qh) (hc:∀ j u,x.cells[j]? = some u→W.cell? ⟨b,o+j,none⟩=some u):(loadVar 55 ⟨b,o+8,none⟩).run Tryz.prog W=.ok (Zy.val x.r.allow x.m) W :=
 load_row_of 7 [.int .i64 x.r.allow.fr,.int .i64 x.r.allow.till,.string x.r.allow.pat,.slice x.m.A x.r.allow.cl.length x.m.ca,.slice x.m.B x.r.allow.co.length x.m.cb,.slice x.m.S x.r.allow.si.length x.m.cs,.int .i64 x.r.allow.us] rfl Tryz.underlying55 infCon agg_cond W b (o+8) (fun j u hu=>by
  have hj:j<7:=(List.getElem?_eq_some_iff.1 hu).1
  have h8:x.cells[8+j]? = some u:=by
   rw[←hu]
   match j,hj with
   | 0,_=>rfl
   | 1,_=>rfl
   | 2,_=>rfl
   | 3,_=>rfl
   | 4,_=>rfl
   | 5,_=>rfl
   | 6,_=>rfl
  have:=hc (8+j) u h8
  rwa [←Nat.add_assoc]at this)
theorem Xa.keepB {w w':World} {g:Nat} {ad cl co:ByteArray} {si lo hi:Int} (h:Xa w g ad cl co si lo hi) (hb:Below w.heap.size w w'):Xa w' g ad cl co si lo hi:=Qv.keep h hb
theorem Xa.free {w:World} {g:Nat} {ad cl co:ByteArray} {si lo hi:Int} (h:Xa w g ad cl co si lo hi):w.frozen? ⟨g,0,none⟩=false∧w.frozen? ⟨g,1,none⟩=false∧w.frozen? ⟨g,2,none⟩=false∧w.frozen? ⟨g,3,none⟩=false∧w.frozen? ⟨g,4,none⟩=false∧w.frozen? ⟨g,5,none⟩=false :=
 ⟨Qv.free0 h 0,Qv.free0 h 1,Qv.free0 h 2,Qv.free0 h 3,Qv.free0 h 4,Qv.free0 h 5⟩
theorem dead_bad (A:Option Addr) (n c:Nat) (i:Int) (L:List Qh) (w:World) (hlen:L.length=n) (hbad:Uo L i=false) (hn:n≤10) (cV:∀ W,Below w.heap.size w W→Calls Tryz.prog 27 #[.slice A n c] W (Zx W (.bool (Xp L)))) :
  Calls Tryz.prog 9 #[.slice A n c,.int .i64 i] w (Zx w (.tuple #[zAsk,.bool false,.int .i64 1])):=by
 unfold Uo at hbad
 have HV:=Lib.hid cV
 clear cV
 unfold zAsk
 cases hv:Xp L
 ·rw[hv]at HV
  clear hv hbad
  go_enter Tryz.func9,Tryz.ntmps9
  go_upto_region 1 with fail
  generalize hw0:World.alloc _ _=w0
  have hY:Xa w0 w.heap.size ⟨#[]⟩ ⟨#[]⟩ ⟨#[]⟩ 0 0 0:=by rw[←hw0];exact heap_alloc_new w _
  have hbw:Below w.heap.size w w0:=by rw[←hw0];exact Qk (Below.refl _ _) _
  clear hw0
  (obtain⟨y0,y1,y2,y3,y4,y5⟩:=hY.facts;obtain⟨z0,z1,z2,z3,z4,z5⟩:=hY.free)
  go_wp2_with (go_at_call 27;refine (HV.out _ hbw).mono ?_;(rintro e w' ⟨rfl,hb'⟩;replace hY:=Xa.keepB hY hb';replace hbw:=Qj hbw hb';clear hb';(obtain⟨y0,y1,y2,y3,y4,y5⟩:=hY.facts;obtain⟨z0,z1,z2,z3,z4,z5⟩:=hY.free)))
  (obtain⟨p0,p1,p2,p3,p4,p5⟩:=(hY.put ⟨#[]⟩ ⟨#[]⟩ ⟨#[]⟩ 0 0 0).facts;clear y0 y1 y2 y3 y4 y5 z0 z1 z2 z3 z4 z5)
  exact bodyPost_ret (v:=.tuple #[.agg #[.string ⟨#[]⟩,.string ⟨#[]⟩,.string ⟨#[]⟩,.int .i64 0,.int .i64 0,.int .i64 0],.bool false,.int .i64 1]) (by simp only[results,Tryz.results9];simp[go_sem,p0,p1,p2,p3,p4,p5]) rfl ⟨rfl,XX hbw (Nat.le_refl _) _ _ _ _ _ _⟩
 rw[hv]at HV hbad
 rw[Bool.true_and]at hbad
 by_cases hi0:i<0
 ·have d0:decide (i<0)=true:=decide_eq_true hi0
  clear hv hbad
  go_enter Tryz.func9,Tryz.ntmps9
  go_upto_region 1 with fail
  generalize hw0:World.alloc _ _=w0
  have hY:Xa w0 w.heap.size ⟨#[]⟩ ⟨#[]⟩ ⟨#[]⟩ 0 0 0:=by rw[←hw0];exact heap_alloc_new w _
  have hbw:Below w.heap.size w w0:=by rw[←hw0];exact Qk (Below.refl _ _) _
  clear hw0
  (obtain⟨y0,y1,y2,y3,y4,y5⟩:=hY.facts;obtain⟨z0,z1,z2,z3,z4,z5⟩:=hY.free)
  go_wp2_with (go_at_call 27;refine (HV.out _ hbw).mono ?_;(rintro e w' ⟨rfl,hb'⟩;replace hY:=Xa.keepB hY hb';replace hbw:=Qj hbw hb';clear hb';(obtain⟨y0,y1,y2,y3,y4,y5⟩:=hY.facts;obtain⟨z0,z1,z2,z3,z4,z5⟩:=hY.free)))
  (obtain⟨p0,p1,p2,p3,p4,p5⟩:=(hY.put ⟨#[]⟩ ⟨#[]⟩ ⟨#[]⟩ 0 0 0).facts;clear y0 y1 y2 y3 y4 y5 z0 z1 z2 z3 z4 z5)
  exact bodyPost_ret (v:=.tuple #[.agg #[.string ⟨#[]⟩,.string ⟨#[]⟩,.string ⟨#[]⟩,.int .i64 0,.int .i64 0,.int .i64 0],.bool false,.int .i64 1]) (by simp only[results,Tryz.results9];simp[go_sem,p0,p1,p2,p3,p4,p5]) rfl ⟨rfl,XX hbw (Nat.le_refl _) _ _ _ _ _ _⟩
 ·have d0:decide (i<0)=false:=decide_eq_false hi0
  have hni:(n:Int)≤i:=by
   rw[decide_eq_true (by omega),Bool.true_and,decide_eq_false_iff_not,hlen]at hbad
   omega
  have d1:decide ((n:Int)≤i)=true:=decide_eq_true hni
  clear hv hbad hni
  go_enter Tryz.func9,Tryz.ntmps9
  go_upto_region 1 with fail
  generalize hw0:World.alloc _ _=w0
  have hY:Xa w0 w.heap.size ⟨#[]⟩ ⟨#[]⟩ ⟨#[]⟩ 0 0 0:=by rw[←hw0];exact heap_alloc_new w _
  have hbw:Below w.heap.size w w0:=by rw[←hw0];exact Qk (Below.refl _ _) _
  clear hw0
  (obtain⟨y0,y1,y2,y3,y4,y5⟩:=hY.facts;obtain⟨z0,z1,z2,z3,z4,z5⟩:=hY.free)
  go_wp2_with (go_at_call 27;refine (HV.out _ hbw).mono ?_;(rintro e w' ⟨rfl,hb'⟩;replace hY:=Xa.keepB hY hb';replace hbw:=Qj hbw hb';clear hb';(obtain⟨y0,y1,y2,y3,y4,y5⟩:=hY.facts;obtain⟨z0,z1,z2,z3,z4,z5⟩:=hY.free)))
  (obtain⟨p0,p1,p2,p3,p4,p5⟩:=(hY.put ⟨#[]⟩ ⟨#[]⟩ ⟨#[]⟩ 0 0 0).facts;clear y0 y1 y2 y3 y4 y5 z0 z1 z2 z3 z4 z5)
  exact bodyPost_ret (v:=.tuple #[.agg #[.string ⟨#[]⟩,.string ⟨#[]⟩,.string ⟨#[]⟩,.int .i64 0,.int .i64 0,.int .i64 0],.bool false,.int .i64 1]) (by simp only[results,Tryz.results9];simp[go_sem,p0,p1,p2,p3,p4,p5]) rfl ⟨rfl,XX hbw (Nat.le_refl _) _ _ _ _ _ _⟩
def DeadIs (x:Qh) (ok:Bool) (m:ByteArray):Prop:=(ok=true→(Ze x.r.tags).2=0∧X3 x.r.pat x.r.allow.pat=some m)∧(ok=false→(Ze x.r.tags).2≠0∨(Ze x.r.tags).2=0∧X3 x.r.pat x.r.allow.pat=none)
def DeadPost (L:List Qh) (k:Nat) (x:Qh) (w:World) (e:Ending) (w':World):Prop:=∃ a is,e=.returned (.tuple #[Kr.val a,.bool is,.int .i64 0])∧DeadAt L k x a is∧Below w.heap.size w w'
theorem dead_good (A:Option Addr) (n c k:Nat) (L:List Qh) (x:Qh) (w:World) (hL:Qs w A n L) (hf:∀ x∈L,Zw x.r) (hcp:∀ x∈L,Jk x) (hcap:n≤c) (hn:n≤10) (hE:Env w) (hT:Tab w) (hv:Xp L=true) (hx:L[k]? = some x) :
  Calls Tryz.prog 9 #[.slice A n c,.int .i64 (k:Int)] w (DeadPost L k x w):=by
 have hlen:=hL.len
 have hxm:=List.mem_of_getElem? hx
 have hkn:k<n:=by have:=(List.getElem?_eq_some_iff.1 hx).1;omega
 have cV:=fun (W:World) (hb:Below w.heap.size w W)=>WQ A n c L W (hL.keep hb) hf hcp (by omega) (hE.keep hb)
 rw[hv]at cV
 have hro:=(Uu hv hxm).1
 have hco:=(valid_iff x.r.allow).1 hro.allow
 have hfx:=hf x hxm
 have cB:∀ W,Below w.heap.size w W→Calls Tryz.prog 28 #[.slice A n c,.int .i64 (k:Int)] W (fun e w'=>∃ (B:Option Addr) (ln d:Nat),e=.returned (.tuple #[.slice B ln d,.bool (decide ((Ze x.r.tags).2=0))])∧((Ze x.r.tags).2=0→ln=(Z5 L x.r.tags k).length∧Reads w' 1 B (Z5 L x.r.tags k).length ((Z5 L x.r.tags k).map .string))∧Below W.heap.size W w'):=fun W hb =>
  (befor_any A n c k L x W (hL.keep hb) hx (by omega) hcap hf).mono fun e w' h=>by
   rcases h with ⟨hb',⟨h,rfl⟩ | ⟨h,B,d,rfl,hr⟩⟩
   ·exact⟨none,0,0,by rw[decide_eq_false h],fun h2=>absurd h2 h,hb'⟩
   ·exact⟨B,_,d,by rw[decide_eq_true h],fun _=>⟨rfl,hr⟩,hb'⟩
 obtain⟨hrr,b,o,rfl,hcell⟩:=hL.at_ hx
 have cEM:=fun (W:World) (hb:Below w.heap.size w W)=>empty_any x.r.allow x.m W (hrr.allow.keep hb) hfx.c (hE.keep hb)
 have hemp:impV (emptyR x.r.allow)=.tuple #[.bool (decide (x.r.allow.till≤x.r.allow.fr)),Kr.val (if x.r.allow.till≤x.r.allow.fr then UU else XY x.r.allow),.int .i64 0]:=by
  unfold emptyR
  rw[if_pos hro.allow]
  by_cases h:x.r.allow.till≤x.r.allow.fr
  ·rw[if_pos h,if_pos h,decide_eq_true h];rfl
  ·rw[if_neg h,if_neg h,decide_eq_false h];rfl
 rw[hemp]at cEM
 have hld:=fun (W:World) (hb:Below w.heap.size w W)=>condA_load W b (o+k*18) x (fun j u hu=>Qq hb (hcell j u hu))
 have cBo:=fun (W:World) (hb:Below w.heap.size w W)=>addrBoth_any x.r.pat x.r.allow.pat W (by have:=hfx.pat;omega) hfx.c.p (hE.keep hb)
 have hc1:w.cell? ⟨b,o+k*18+1,none⟩=some (.string x.r.pat):=hcell 1 _ rfl
 have hc10:w.cell? ⟨b,o+k*18+8+2,none⟩=some (.string x.r.allow.pat):=hcell 10 _ rfl
 have hpz:x.r.pat.size≠0:=YX hro.pat
 have cG:=fun (m:ByteArray) (hm:(Qx m).isSome=true) (hms:m.size≤100000) (W:World) (hb:Below w.heap.size w W) (B:Option Addr) (d:Nat) hR=>gapB_any (A:=some ⟨b,o,none⟩) (n:=n) (c:=c) (w:=W) hv hf x.r.tags k (by omega) m hm hms (hE.keep hb) (hT.keep hb) B d hR
 have hmc:∀ m,X3 x.r.pat x.r.allow.pat=some m→(Qx m).isSome=true∧m.size≤100000:=fun m hm=>by
  have hps:x.r.pat.size≤200:=hfx.pat
  unfold X3 at hm
  rw[if_neg hpz]at hm
  split at hm
  ·injection hm with hm
   subst hm
   exact⟨hro.pat,by omega⟩
  ·rename_i hq
   have hqc:(Qx x.r.allow.pat).isSome=true:=by
    have:=hco.pat
    unfold Uc at this
    rwa [decide_eq_false hq,Bool.false_or]at this
   obtain⟨x1,h1⟩:=Option.isSome_iff_exists.1 hro.pat
   obtain⟨y1,h2⟩:=Option.isSome_iff_exists.1 hqc
   rw[h1,h2]at hm
   dsimp only at hm
   cases hcm:QK x1 y1 with
   | none=>rw[hcm]at hm;cases hm
   | some z =>
    rw[hcm]at hm
    injection hm with hm
    have hfz:=(J4 (Zq h1) (Zq h2) hcm).1
    subst hm
    exact⟨by rw[UY hfz];rfl,by have:=patS_size2 hfz;omega⟩
 have hqc:x.r.allow.pat.toList.isEmpty=false→(Qx x.r.allow.pat).isSome=true:=fun h=>by
  have h2:=hco.pat
  unfold Uc at h2
  rcases Nat.eq_zero_or_pos x.r.allow.pat.size with h3 | h3
  ·rw[Lib.toList_data]at h
   rw[Qn]at h3
   rw[List.eq_nil_of_length_eq_zero h3]at h
   cases h
  ·rwa [decide_eq_false (by omega),Bool.false_or]at h2
 have hpe:x.r.allow.pat.toList.isEmpty=true→X3 x.r.pat x.r.allow.pat=some x.r.pat:=fun h=>by
  have h3:x.r.allow.pat.size=0:=by
   rw[Lib.toList_data,List.isEmpty_iff]at h
   rw[Qn,h];rfl
  unfold X3
  rw[if_neg hpz,if_pos h3]
 have hbv:=fun h=>bothV_meet hro.pat (hqc h)
 obtain⟨ok0,hok0⟩:∃ ok0,ok0=decide ((Ze x.r.tags).2=0):=⟨_,rfl⟩
 obtain⟨nn,hnn⟩:∃ nn,nn=decide (x.r.allow.till≤x.r.allow.fr):=⟨_,rfl⟩
 obtain⟨av,hav⟩:∃ av,av=(if x.r.allow.till≤x.r.allow.fr then UU else XY x.r.allow):=⟨_,rfl⟩
 rw[←hok0]at cB
 rw[←hnn,←hav]at cEM
 obtain⟨ad,cl,co,si,lo,hi⟩:=av
 unfold Kr.val at cEM
 dsimp only at cEM
 have HV:=Lib.hid cV;have HB:=Lib.hid cB;have HEM:=Lib.hid cEM;have HLD:=Lib.hid hld;have HBO:=Lib.hid cBo;have HC1:=Lib.hid hc1;have HC10:=Lib.hid hc10;have HG:=Lib.hid cG;have HMC:=Lib.hid hmc;have HBV:=Lib.hid hbv;have HPE:=Lib.hid hpe;have HOK:=Lib.hid hok0;have HNN:=Lib.hid hnn;have HAV:=Lib.hid hav
 clear cV cB cEM hld cBo hc1 hc10 cG hmc hbv hpe hok0 hnn hav hqc hpz hcell hrr hfx hco hro hxm hlen hemp hx hv hE hT hcp hf hL
 have hk0:(0:Int)≤(k:Int):=by omega
 have hk1:(k:Int)<(n:Int):=by omega
 have d0:decide ((k:Int)<0)=false:=decide_eq_false (by omega)
 have d1:decide ((n:Int)≤(k:Int))=false:=decide_eq_false (by omega)
 go_enter Tryz.func9,Tryz.ntmps9
 go_upto_region 1 with fail
 generalize hw0:World.alloc _ _=w0
 have hY:Xa w0 w.heap.size ⟨#[]⟩ ⟨#[]⟩ ⟨#[]⟩ 0 0 0:=by rw[←hw0];exact heap_alloc_new w _
 have hbw:Below w.heap.size w w0:=by rw[←hw0];exact Qk (Below.refl _ _) _
 clear hw0
 go_upto_region 4 with (first | (go_at_call 27;refine (HV.out _ hbw).mono ?_;rintro e w2 ⟨rfl,hb2⟩;replace hY:=Xa.keepB hY hb2;replace hbw:=Qj hbw hb2) | (go_at_call 28;refine (HB.out _ hbw).mono ?_;rintro e w3 ⟨B,ln,d,rfl,hbr,hb3⟩;replace hY:=Xa.keepB hY hb3;replace hbw:=Qj hbw hb3;have HBR:=Lib.hid hbr;clear hbr))
 go_upto_region 5 with (first | (refine Qw rfl 55 _ rfl ⟨b,o+k*18+8,none⟩ (Zy.val x.r.allow x.m) rfl (HLD.out _ hbw) ?_) | (go_at_call 29;refine (HEM.out _ hbw).mono ?_;rintro e w4 ⟨rfl,hb4⟩;replace hY:=Xa.keepB hY hb4;replace hbw:=Qj hbw hb4;have hs4:=hbw.size))
 have hRB4:=HBR.out
 have HB4:=Lib.hid hb4
 have hgw:w.heap.size<w4.heap.size:=Qv.lt hY
 generalize hw5:World.alloc _ _=w5
 have hal:Below w4.heap.size w4 w5:=by rw[←hw5];exact Qk (Below.refl _ _) _
 have hZ:Xa w5 w4.heap.size ad cl co si lo hi:=by rw[←hw5];exact heap_alloc_new w4 _
 replace hY:=Xa.keepB hY hal
 replace hbw:=Qj hbw hal
 have HR5:Hid ((Ze x.r.tags).2=0→ln=(Z5 L x.r.tags k).length∧Reads w5 1 B (Z5 L x.r.tags k).length ((Z5 L x.r.tags k).map .string)):=Lib.hid (fun h=>⟨(hRB4 h).1,((hRB4 h).2.keep hb4).keep hal⟩)
 clear hw5 hal hRB4 HBR HB4 hb2 hb3 hb4 hs4
 obtain⟨g1,hg1⟩:∃ g1,g1=w4.heap.size:=⟨_,rfl⟩
 rw[←hg1]at hZ hgw ⊢
 clear hg1 w4
 (have c1:=Qq hbw HC1.out;have c10:=Qq hbw HC10.out)
 go_upto_region 7 with fail
 clear c1 c10
 go_cut [61] (fun v61 wx=>v61=.bool (!x.r.allow.pat.toList.isEmpty&&ok0)∧wx=w5)
 case first =>
  cases hqe:x.r.allow.pat.toList.isEmpty
  all_goals
   go_wp2_with fail
   go_meet
   exact⟨by simp[hqe],rfl⟩
 obtain⟨rfl,hwc⟩:=hcut
 have hwc2:w5=wc:=hwc.symm
 subst hwc2
 go_upto_if 61 with fail
 go_cut [8,12] (fun v8 v12 wx=>∃ (okb:Bool) (m:ByteArray),v8=.bool okb∧v12=.string m∧Hid (DeadIs x okb m)∧Below w5.heap.size w5 wx)
 case first =>
  cases hqe:x.r.allow.pat.toList.isEmpty
  ·cases ok0
   ·have ht:(Ze x.r.tags).2≠0:=by have:=HOK.out;exact of_decide_eq_false this.symm
    simp only[Bool.not_false,Bool.and_false]
    go_wp2_with fail
    go_meet
    exact⟨false,x.r.pat,rfl,rfl,Lib.hid ⟨fun h=>(by cases h),fun _=>.inl ht⟩,Below.refl _ _⟩
   ·have ht:(Ze x.r.tags).2=0:=by have:=HOK.out;exact of_decide_eq_true this.symm
    have hbo:=HBO.out w5 hbw
    rw[HBV.out hqe]at hbo
    cases hpm:X3 x.r.pat x.r.allow.pat with
    | none =>
     rw[hpm]at hbo
     have HBQ:=Lib.hid hbo;have HPM:=Lib.hid hpm
     clear hbo hpm
     simp only[Bool.not_false,Bool.and_true]
     go_wp2_with (go_at_call 30;refine HBQ.out.mono ?_;rintro e w6 ⟨rfl,hb6⟩)
     go_meet
     exact⟨false,⟨#[]⟩,rfl,rfl,Lib.hid ⟨fun h=>(by cases h),fun _=>.inr ⟨ht,HPM.out⟩⟩,hb6⟩
    | some m =>
     rw[hpm]at hbo
     have HBQ:=Lib.hid hbo;have HPM:=Lib.hid hpm
     clear hbo hpm
     simp only[Bool.not_false,Bool.and_true]
     go_wp2_with (go_at_call 30;refine HBQ.out.mono ?_;rintro e w6 ⟨rfl,hb6⟩)
     go_meet
     exact⟨true,m,rfl,rfl,Lib.hid ⟨fun _=>⟨ht,HPM.out⟩,fun h=>(by cases h)⟩,hb6⟩
  ·have hpm:=HPE.out hqe
   have HPM:=Lib.hid hpm
   clear hpm
   simp only[Bool.not_true,Bool.false_and]
   go_wp2_with fail
   go_meet
   refine⟨ok0,x.r.pat,rfl,rfl,Lib.hid ⟨fun h=>⟨?_,HPM.out⟩,fun h=>.inl ?_⟩,Below.refl _ _⟩
   ·have:=HOK.out;rw[h]at this;exact of_decide_eq_true this.symm
   ·have:=HOK.out;rw[h]at this;exact of_decide_eq_false this.symm
 case rest =>
  obtain⟨okb,m,rfl,rfl,HDI,hbc⟩:=hcut
  replace hY:=Xa.keepB hY hbc
  replace hZ:=Xa.keepB hZ hbc
  replace hbw:=Qj hbw hbc
  clear HBO HBV HPE HC1 HC10 HLD HEM HB HV
  have HRC:Hid ((Ze x.r.tags).2=0→ln=(Z5 L x.r.tags k).length∧Reads wc 1 B (Z5 L x.r.tags k).length ((Z5 L x.r.tags k).map .string)):=Lib.hid (fun h=>⟨(HR5.out h).1,(HR5.out h).2.keep hbc⟩)
  clear HR5
  cases okb
  ·have hdi:=HDI.out.2 rfl
   have hda:DeadAt L k x UU true:=.inl ⟨rfl,rfl,hdi.elim .inl (fun h=>.inr (.inr (.inl h)))⟩
   have HDA:=Lib.hid hda
   clear hdi hda HDI
   (obtain⟨y0,y1,y2,y3,y4,y5⟩:=hY.facts;obtain⟨z0,z1,z2,z3,z4,z5⟩:=hY.free)
   go_wp2_with fail
   (obtain⟨p0,p1,p2,p3,p4,p5⟩:=(hY.put ⟨#[]⟩ ⟨#[]⟩ ⟨#[]⟩ 0 0 0).facts;clear y0 y1 y2 y3 y4 y5 z0 z1 z2 z3 z4 z5)
   exact bodyPost_ret (v:=.tuple #[.agg #[.string ⟨#[]⟩,.string ⟨#[]⟩,.string ⟨#[]⟩,.int .i64 0,.int .i64 0,.int .i64 0],.bool true,.int .i64 0]) (by simp only[results,Tryz.results9];simp[go_sem,p0,p1,p2,p3,p4,p5]) rfl ⟨UU,true,rfl,HDA.out,XX hbw (Nat.le_refl _) _ _ _ _ _ _⟩
  obtain⟨ht,hpm⟩:=HDI.out.1 rfl
  cases nn
  rotate_left
  ·have htf:x.r.allow.till≤x.r.allow.fr:=of_decide_eq_true HNN.out.symm
   have hda:DeadAt L k x UU true:=.inl ⟨rfl,rfl,.inr (.inl htf)⟩
   have HDA:=Lib.hid hda
   clear hda HDI htf ht hpm
   (obtain⟨y0,y1,y2,y3,y4,y5⟩:=hY.facts;obtain⟨z0,z1,z2,z3,z4,z5⟩:=hY.free)
   go_wp2_with fail
   (obtain⟨p0,p1,p2,p3,p4,p5⟩:=(hY.put ⟨#[]⟩ ⟨#[]⟩ ⟨#[]⟩ 0 0 0).facts;clear y0 y1 y2 y3 y4 y5 z0 z1 z2 z3 z4 z5)
   exact bodyPost_ret (v:=.tuple #[.agg #[.string ⟨#[]⟩,.string ⟨#[]⟩,.string ⟨#[]⟩,.int .i64 0,.int .i64 0,.int .i64 0],.bool true,.int .i64 0]) (by simp only[results,Tryz.results9];simp[go_sem,p0,p1,p2,p3,p4,p5]) rfl ⟨UU,true,rfl,HDA.out,XX hbw (Nat.le_refl _) _ _ _ _ _ _⟩
  have htf:x.r.allow.fr<x.r.allow.till:=by have:=of_decide_eq_false HNN.out.symm;omega
  obtain⟨hln,hrb⟩:=HRC.out ht
  subst hln
  obtain⟨hm1,hm2⟩:=HMC.out m hpm
  have hg:=HG.out m hm1 hm2 wc hbw B d hrb
  have HGP:=Lib.hid hg;have HT0:=Lib.hid ht;have HPM:=Lib.hid hpm
  clear hg ht hpm hrb hm1 hm2 HRC HDI HMC HG
  go_upto_region 12 with (go_at_call 26;refine HGP.out.mono ?_;rintro e w7 ⟨s,is,rfl,hpo,hsz,hb7⟩;have HPO:=Lib.hid hpo;clear hpo)
  replace hY:=Xa.keepB hY hb7
  replace hZ:=Xa.keepB hZ hb7
  replace hbw:=Qj hbw hb7
  cases is
  ·have hda:DeadAt L k x UU true:=.inl ⟨rfl,rfl,.inr (.inr (.inr ⟨HT0.out,htf,m,s,HPM.out,HPO.out⟩))⟩
   have HDA:=Lib.hid hda
   clear hda
   (obtain⟨y0,y1,y2,y3,y4,y5⟩:=hY.facts;obtain⟨z0,z1,z2,z3,z4,z5⟩:=hY.free)
   go_wp2_with fail
   (obtain⟨p0,p1,p2,p3,p4,p5⟩:=(hY.put ⟨#[]⟩ ⟨#[]⟩ ⟨#[]⟩ 0 0 0).facts;clear y0 y1 y2 y3 y4 y5 z0 z1 z2 z3 z4 z5)
   exact bodyPost_ret (v:=.tuple #[.agg #[.string ⟨#[]⟩,.string ⟨#[]⟩,.string ⟨#[]⟩,.int .i64 0,.int .i64 0,.int .i64 0],.bool true,.int .i64 0]) (by simp only[results,Tryz.results9];simp[go_sem,p0,p1,p2,p3,p4,p5]) rfl ⟨UU,true,rfl,HDA.out,XX hbw (Nat.le_refl _) _ _ _ _ _ _⟩
  ·have hda:DeadAt L k x ⟨s,cl,co,si,lo,hi⟩ false:=.inr ⟨rfl,HT0.out,htf,m,s,HPM.out,HPO.out,hsz,by
    have h:=HAV.out
    rw[if_neg (by omega)]at h
    rw[←h]⟩
   have HDA:=Lib.hid hda
   clear hda
   have q0:=(hZ.facts).1
   have r0:=(hZ.free).1
   go_upto_region 15 with fail
   clear q0 r0
   generalize hw8:World.setCell _ _ _=w8
   have hset:=But.set w7 g1 0 (.string s)
   have hZ8:Xa w8 g1 s cl co si lo hi:=by rw[←hw8];exact hZ.set0
   have hY8:Xa w8 w.heap.size ⟨#[]⟩ ⟨#[]⟩ ⟨#[]⟩ 0 0 0:=by rw[←hw8];exact hset.blk hY (by omega)
   have hbw8:Below w.heap.size w w8:=by rw[←hw8];exact hbw.trans (hset.below (by omega) (by have:=hbw.size;omega))
   clear hw8 hset hY hZ hbw
   have hY:=hY8
   obtain⟨q0,q1,q2,q3,q4,q5⟩:=hZ8.facts
   (obtain⟨y0,y1,y2,y3,y4,y5⟩:=hY.facts;obtain⟨z0,z1,z2,z3,z4,z5⟩:=hY.free)
   go_wp2_with fail
   obtain⟨p0,p1,p2,p3,p4,p5⟩:=(hY.put s cl co si lo hi).facts
   clear y0 y1 y2 y3 y4 y5 z0 z1 z2 z3 z4 z5
   clear q0 q1 q2 q3 q4 q5
   exact bodyPost_ret (v:=.tuple #[.agg #[.string s,.string cl,.string co,.int .i64 si,.int .i64 lo,.int .i64 hi],.bool false,.int .i64 0]) (by simp only[results,Tryz.results9];simp[go_sem,p0,p1,p2,p3,p4,p5]) rfl ⟨⟨s,cl,co,si,lo,hi⟩,false,rfl,HDA.out,XX hbw8 (Nat.le_refl _) _ _ _ _ _ _⟩
theorem map_some_inj:∀ (l:List (Option Z7)) (xs ys:List Z7),l=xs.map some→l=ys.map some→xs=ys
 | _,[],[],_,_=>rfl
 | _,[],_ :: _,h1,h2=>by rw[h1]at h2;simp at h2
 | _,_ :: _,[],h1,h2=>by rw[h1]at h2;simp at h2
 | _,x :: xs,y :: ys,h1,h2=>by
  rw[h1]at h2
  simp only[List.map_cons,List.cons.injEq,Option.some.injEq]at h2
  rw[h2.1,map_some_inj (xs.map some) xs ys rfl h2.2]
theorem gap_is {p:ByteArray} {bs:List ByteArray} {s:ByteArray} {is:Bool} {x:Z7} {ys:List Z7} (h:ZU p bs s is) (hx:Qx p=some x) (hb:bs.map Qx=ys.map some):is=(gapN x ys).isSome:=by
 obtain⟨x',ys',hx',hb',h⟩:=h
 have e1:x'=x:=Option.some.inj (hx'.symm.trans hx)
 have e2:=map_some_inj _ _ _ hb' hb
 subst e1;subst e2
 rcases h with ⟨h,h2,_⟩ | ⟨m,c,ws,h,h2,_⟩
 ·rw[h,h2];rfl
 ·rw[h,h2];rfl
theorem gap_text {p:ByteArray} {bs:List ByteArray} {s:ByteArray} {x:Z7} {ys:List Z7} {m:Nat} (h:ZU p bs s true) (hx:Qx p=some x) (hb:bs.map Qx=ys.map some) (hg:gapN x ys=some m):∃ c ws,s=Xt (c :: ws)∧Exam (partsOf ys) x m c ws:=by
 obtain⟨x',ys',hx',hb',h⟩:=h
 have e1:x'=x:=Option.some.inj (hx'.symm.trans hx)
 have e2:=map_some_inj _ _ _ hb' hb
 subst e1;subst e2
 rcases h with ⟨_,h2,_⟩ | ⟨m',c,ws,h,_,h3,h4⟩
 ·cases h2
 ·have e3:m'=m:=Option.some.inj (h.symm.trans hg)
  subst e3
  exact⟨c,ws,h3,h4⟩
def xTail:Z7:=⟨⟨0,(⟨#[97,99,109,101]⟩:ByteArray)⟩,[],true⟩
def xStar:Z7:=⟨⟨0,(⟨#[97,99,109,101]⟩:ByteArray)⟩,[⟨2,⟨#[]⟩⟩],false⟩
def xOne:Z7:=⟨⟨0,(⟨#[97,99,109,101]⟩:ByteArray)⟩,[],false⟩
def xStars:Z7:=⟨⟨0,(⟨#[97,99,109,101]⟩:ByteArray)⟩,[⟨2,⟨#[]⟩⟩],true⟩
def xCss:Z7:=⟨⟨0,(⟨#[97,99,109,101]⟩:ByteArray)⟩,[⟨1,(⟨#[46,99,115,115]⟩:ByteArray)⟩],false⟩
def xA:Z7:=⟨⟨0,(⟨#[97,99,109,101]⟩:ByteArray)⟩,[⟨0,(⟨#[97]⟩:ByteArray)⟩],false⟩
theorem cTa:Qx (⟨#[97,99,109,101,47,42,42]⟩:ByteArray)=some xTail:=by kernel_rfl
theorem cSt:Qx (⟨#[97,99,109,101,47,42]⟩:ByteArray)=some xStar:=by kernel_rfl
theorem cOn:Qx (⟨#[97,99,109,101]⟩:ByteArray)=some xOne:=by kernel_rfl
theorem cSts:Qx (⟨#[97,99,109,101,47,42,47,42,42]⟩:ByteArray)=some xStars:=by kernel_rfl
theorem cCs:Qx (⟨#[97,99,109,101,47,42,46,99,115,115]⟩:ByteArray)=some xCss:=by kernel_rfl
theorem cAa:Qx (⟨#[97,99,109,101,47,97]⟩:ByteArray)=some xA:=by kernel_rfl
theorem g1 {s:ByteArray} {is:Bool} (h:ZU (⟨#[97,99,109,101,47,42,42]⟩:ByteArray) [(⟨#[97,99,109,101]⟩:ByteArray),(⟨#[97,99,109,101,47,42]⟩:ByteArray),(⟨#[97,99,109,101,47,42,47,42,42]⟩:ByteArray)] s is):is=false:=by
 rw[gap_is (x:=xTail) (ys:=[xOne,xStar,xStars]) h cTa (by rw[List.map_cons,List.map_cons,List.map_cons,cOn,cSt,cSts];rfl)]
 decide +kernel
theorem g2 {s:ByteArray} {is:Bool} (h:ZU (⟨#[97,99,109,101,47,42,42]⟩:ByteArray) [(⟨#[97,99,109,101,47,42]⟩:ByteArray),(⟨#[97,99,109,101,47,42,47,42,42]⟩:ByteArray)] s is):is=true∧s=(⟨#[97,99,109,101]⟩:ByteArray):=by
 have hb : [(⟨#[97,99,109,101,47,42]⟩:ByteArray),(⟨#[97,99,109,101,47,42,47,42,42]⟩:ByteArray)].map Qx=[xStar,xStars].map some:=by rw[List.map_cons,List.map_cons,cSt,cSts];rfl
 have h1:is=true:=by
  rw[gap_is (x:=xTail) (ys:=[xStar,xStars]) h cTa hb]
  decide +kernel
 subst h1
 obtain⟨c,ws,rfl,he⟩:=gap_text (m:=0) h cTa hb (by decide +kernel)
 refine⟨rfl,?_⟩
 have hw:ws=[]:=List.eq_nil_of_length_eq_zero he.len
 subst hw
 rcases he.cust with ⟨_,h2⟩ | ⟨h2,_⟩
 ·rw[h2];decide +kernel
 ·exact absurd rfl h2
theorem g3 {s:ByteArray} {is:Bool} (h:ZU (⟨#[97,99,109,101,47,42]⟩:ByteArray) [(⟨#[97,99,109,101,47,42,46,99,115,115]⟩:ByteArray),(⟨#[97,99,109,101,47,97]⟩:ByteArray)] s is):is=true∧Zk (⟨#[97,99,109,101,47,42]⟩:ByteArray) s=true∧Zk (⟨#[97,99,109,101,47,42,46,99,115,115]⟩:ByteArray) s=false∧(s.toList==((⟨#[97,99,109,101,47,97]⟩:ByteArray):ByteArray).toList)=false:=by
 have hb : [(⟨#[97,99,109,101,47,42,46,99,115,115]⟩:ByteArray),(⟨#[97,99,109,101,47,97]⟩:ByteArray)].map Qx=[xCss,xA].map some:=by rw[List.map_cons,List.map_cons,cCs,cAa];rfl
 have h1:is=true:=by
  rw[gap_is (x:=xStar) (ys:=[xCss,xA]) h cSt hb]
  decide +kernel
 subst h1
 obtain⟨h2,h3⟩:=gap_found h
 refine⟨rfl,h2,h3 _ (by simp),?_⟩
 cases he:(s.toList==((⟨#[97,99,109,101,47,97]⟩:ByteArray):ByteArray).toList)
 ·rfl
 ·rw[beq_iff_eq,Lib.toList_data,Lib.toList_data]at he
  have hs:s=(⟨#[97,99,109,101,47,97]⟩:ByteArray):=Qm he
  have h4:=h3 (⟨#[97,99,109,101,47,97]⟩:ByteArray) (by simp)
  rw[hs]at h4
  have h5:Zk (⟨#[97,99,109,101,47,97]⟩:ByteArray) (⟨#[97,99,109,101,47,97]⟩:ByteArray)=true:=by decide +kernel
  rw[h5]at h4
  cases h4
def mkC (al:ByteArray):ZV:=⟨0,1099511627777,al,[],[],[],0⟩
def mkR (nm pt:ByteArray) (ts:List ByteArray) (T:Option Addr) (c:Nat) (al:ByteArray):Qh:=⟨⟨nm,pt,ts,0,0,0,0,[],mkC al,false,0,⟨#[]⟩⟩,T,c,none,0,[],⟨none,0,none,0,none,0⟩⟩
def rA (T:Option Addr):Qh:=mkR (⟨#[111,110,101]⟩:ByteArray) (⟨#[97,99,109,101,47,42,42]⟩:ByteArray) [(⟨#[104,111,116]⟩:ByteArray)] T 1 ⟨#[]⟩
def rB (T:Option Addr):Qh:=mkR (⟨#[116,119,111]⟩:ByteArray) (⟨#[97,99,109,101,47,97]⟩:ByteArray) [(⟨#[104,111,116]⟩:ByteArray),(⟨#[110,101,119]⟩:ByteArray)] T 2 ⟨#[]⟩
def rC:Qh:=mkR (⟨#[116,104,114,101,101]⟩:ByteArray) (⟨#[97,99,109,101,47,97]⟩:ByteArray) [] none 0 (⟨#[97,99,109,101,47,98]⟩:ByteArray)
def rL (T U:Option Addr):List Qh:=[rA T,rB U,rC]
theorem vA:X0 (rA none).r=true:=by decide +kernel
theorem vB:X0 (rB none).r=true:=by decide +kernel
theorem vC:X0 rC.r=true:=by decide +kernel
theorem vL (T U:Option Addr):Xp (rL T U)=true:=by
 have h1:Xn (rA T)=true:=by
  unfold Xn
  rw[show X0 (rA T).r=true from vA,show XU (rA T).L=0 from rfl];rfl
 have h2:Xn (rB U)=true:=by
  unfold Xn
  rw[show X0 (rB U).r=true from vB,show XU (rB U).L=0 from rfl];rfl
 have h3:Xn rC=true:=by
  unfold Xn
  rw[vC,show XU rC.L=0 from rfl];rfl
 unfold Xp rL
 simp only[List.all_cons,List.all_nil,h1,h2,h3]
 rfl
theorem tA:Ze [(⟨#[104,111,116]⟩:ByteArray)]=((⟨#[104,111,116]⟩:ByteArray),0):=by decide +kernel
theorem tB:(Ze [(⟨#[104,111,116]⟩:ByteArray),(⟨#[110,101,119]⟩:ByteArray)]).2=0:=tags_few (fun p hp=>by
 have h : [(⟨#[104,111,116]⟩:ByteArray),(⟨#[110,101,119]⟩:ByteArray)].all Qy=true:=by decide +kernel
 exact List.all_eq_true.1 h p hp) (by decide)
theorem t0:(Ze []).2=0:=by decide +kernel
theorem bB (T U:Option Addr):Z5 (rL T U) [(⟨#[104,111,116]⟩:ByteArray),(⟨#[110,101,119]⟩:ByteArray)] 1=[(⟨#[97,99,109,101,47,42,42]⟩:ByteArray)]:=by
 have:Z5 (rL none none) [(⟨#[104,111,116]⟩:ByteArray),(⟨#[110,101,119]⟩:ByteArray)] 1=[(⟨#[97,99,109,101,47,42,42]⟩:ByteArray)]:=by decide +kernel
 exact this
theorem bC (T U:Option Addr):Z5 (rL T U) [] 2=[]:=by
 have:Z5 (rL none none) [] 2=[]:=by decide +kernel
 exact this
theorem gs1 {s:ByteArray} {g:Bool} (h:ZU (⟨#[97,99,109,101,47,97]⟩:ByteArray) [(⟨#[97,99,109,101,47,42,42]⟩:ByteArray)] s g):g=false:=by
 rw[gap_is (x:=xA) (ys:=[xTail]) h cAa (by rw[List.map_cons,cTa];rfl)]
 decide +kernel
theorem gs2 {s:ByteArray} {g:Bool} (h:ZU (⟨#[97,99,109,101,47,97]⟩:ByteArray) [] s g):g=true∧s=(⟨#[97,99,109,101,47,97]⟩:ByteArray):=by
 have h1:g=true:=by
  rw[gap_is (x:=xA) (ys:=[]) h cAa rfl]
  decide +kernel
 subst h1
 obtain⟨c,ws,rfl,he⟩:=gap_text (x:=xA) (ys:=[]) (m:=1) h cAa rfl (by decide +kernel)
 refine⟨rfl,?_⟩
 obtain⟨w1,rfl⟩:∃ w1,ws=[w1]:=by
  match ws,he.len with
  | [a],_=>exact⟨a,rfl⟩
 have hc:c=(⟨#[97,99,109,101]⟩:ByteArray):=by
  rcases he.cust with ⟨_,h2⟩ | ⟨h2,_⟩
  ·exact h2
  ·exact absurd rfl h2
 have hw:w1=(⟨#[97]⟩:ByteArray):=by
  rcases he.fresh 0 ⟨0,(⟨#[97]⟩:ByteArray)⟩ w1 rfl rfl with ⟨_,h2⟩ | ⟨h2,_⟩
  ·exact h2
  ·exact absurd rfl h2
 rw[hc,hw]
 decide +kernel
theorem gd0 {s:ByteArray} {g:Bool} (h:ZU (⟨#[97,99,109,101,47,42,42]⟩:ByteArray) [] s g):g=true:=by
 rw[gap_is (x:=xTail) (ys:=[]) h cTa rfl]
 decide +kernel
end Go.Proofs.YticlbkficolocaaGreatDoor
