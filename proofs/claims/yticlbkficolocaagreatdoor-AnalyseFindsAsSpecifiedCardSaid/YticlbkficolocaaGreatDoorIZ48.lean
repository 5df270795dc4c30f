/- AnalyseFindsAsSpecified: the law returns true for every input. -/
import Derived.Test.YticlbkficolocaaGreatDoorIZ47
set_option maxHeartbeats 16000000
namespace Go.Proofs.YticlbkficolocaaGreatDoor
open Go.RowKit Go.Sort
set_option linter.unusedVariables false
set_option linter.unusedSimpArgs false
set_option maxRecDepth 100000
structure FiS (w:World) (P:Array Value) (W:World):Prop where
 p:Zl W w.heap.size 25 P
 b:Below w.heap.size w W
theorem FiS.keep {w:World} {P:Array Value} {W W':World} (h:FiS w P W) (hb:Below W.heap.size W W'):FiS w P W':=⟨h.p.keep hb,Qj h.b hb⟩
theorem lawFinds (p:ByteArray) (Ab:Option Addr) (nb cb:Nat) (bs:List ByteArray) (cust:ByteArray) (party:Int) (A:Option Addr) (n c:Nat) (L:List Qh) (i k:Int) (w:World) (hR:Reads w 1 Ab nb (bs.map .string)) (hnb:nb≤9223372036854775807) (hL:Qs w A n L) (hn:n≤9223372036854775807) (hcp:∀ x∈L,Jk x) (hnc:n≤c) (hE:Env w) (hT:Tab w) :
  Calls Tryz.prog 3 #[.string p,.slice Ab nb cb,.agg #[.string cust,.int .i64 party,.slice A n c],.int .i64 i,.int .i64 k] w (Zx w (.bool true)):=by
 have hl:L.length=n:=hL.len
 have hbl:bs.length=nb:=by have:=hR.1;simpa using this
 have cF:=fun W (hb:Below w.heap.size w W)=>rFewRules22_any (fun x=>fewR x.r) A n c L 10 W (hL.keep hb) hn (fun x hx W' hb'=>rFew22_any x W' ((hL.each x hx).keep (Qj hb hb')))
 have cN:=fun W (hb:Below w.heap.size w W)=>san24_any W (hE.keep hb) (hT.keep hb)
 have cS:=fun W (hb:Below w.heap.size w W)=>short_any p Ab nb cb bs W (hR.keep hb) hnb
 have HN:=Lib.hid cN
 have HA:=Lib.hid hL;have HL:=Lib.hid hl;have HE:=Lib.hid hE;have HT:=Lib.hid hT;have HR:=Lib.hid hR;have HBL:=Lib.hid hbl;have HCP:=Lib.hid hcp
 clear cN hL hl hE hT hR hbl hcp
 cases hsv:shortB p bs
 ·rw[hsv]at cS
  have HS:=Lib.hid cS
  clear cS cF hsv
  go_enter Tryz.func3,Tryz.ntmps3
  go_upto_region 1 with fail
  generalize hw0:World.alloc _ _=w0
  have hS:FiS w #[.string cust,.int .i64 party,.slice A n c] w0:=by
   rw[←hw0]
   exact⟨heap_alloc_new w _,Qk (Below.refl _ _) _⟩
  clear hw0
  have y0:=hS.p.cell (k:=0) (v:=.string cust) rfl;have y2:=hS.p.cell (k:=2) (v:=.slice A n c) rfl
  go_wp2_with (first | (go_at_call 4;refine (HS.out _ hS.b).mono ?_;(rintro e w' ⟨rfl,hb'⟩;replace hS:=hS.keep hb';clear hb' y0 y2;have y0:=hS.p.cell (k:=0) (v:=.string cust) rfl;have y2:=hS.p.cell (k:=2) (v:=.slice A n c) rfl)) | (go_at_call 6;refine (HN.out _ hS.b).mono ?_;(rintro e w' ⟨rfl,hb'⟩;replace hS:=hS.keep hb';clear hb' y0 y2;have y0:=hS.p.cell (k:=0) (v:=.string cust) rfl;have y2:=hS.p.cell (k:=2) (v:=.slice A n c) rfl)))
  go_ret
  exact⟨rfl,hS.b⟩
 rw[hsv]at cS
 have HS:=Lib.hid cS
 obtain⟨hbs,hps,hbn0⟩:=short_facts hsv
 have HBS:=Lib.hid hbs;have HBN:=Lib.hid hbn0
 clear cS hsv hbs hbn0
 cases hfv:(L.all (fun x=>fewR x.r)&&decide ((n:Int)≤10))
 ·rw[hfv]at cF
  have HF:=Lib.hid cF
  clear cF hfv
  go_enter Tryz.func3,Tryz.ntmps3
  go_upto_region 1 with fail
  generalize hw0:World.alloc _ _=w0
  have hS:FiS w #[.string cust,.int .i64 party,.slice A n c] w0:=by
   rw[←hw0]
   exact⟨heap_alloc_new w _,Qk (Below.refl _ _) _⟩
  clear hw0
  have y0:=hS.p.cell (k:=0) (v:=.string cust) rfl;have y2:=hS.p.cell (k:=2) (v:=.slice A n c) rfl
  go_wp2_with (first | (go_at_call 4;refine (HS.out _ hS.b).mono ?_;(rintro e w' ⟨rfl,hb'⟩;replace hS:=hS.keep hb';clear hb' y0 y2;have y0:=hS.p.cell (k:=0) (v:=.string cust) rfl;have y2:=hS.p.cell (k:=2) (v:=.slice A n c) rfl)) | (go_at_call 5;refine (HF.out _ hS.b).mono ?_;(rintro e w' ⟨rfl,hb'⟩;replace hS:=hS.keep hb';clear hb' y0 y2;have y0:=hS.p.cell (k:=0) (v:=.string cust) rfl;have y2:=hS.p.cell (k:=2) (v:=.slice A n c) rfl)) | (go_at_call 6;refine (HN.out _ hS.b).mono ?_;(rintro e w' ⟨rfl,hb'⟩;replace hS:=hS.keep hb';clear hb' y0 y2;have y0:=hS.p.cell (k:=0) (v:=.string cust) rfl;have y2:=hS.p.cell (k:=2) (v:=.slice A n c) rfl)))
  go_ret
  exact⟨rfl,hS.b⟩
 rw[hfv]at cF
 have HF:=Lib.hid cF
 rw[Bool.and_eq_true,decide_eq_true_eq,List.all_eq_true]at hfv
 obtain⟨hff,hn10⟩:=hfv
 have hff2:∀ y∈L,Zw y.r:=fun y hy=>fewR_fits (hff y hy)
 have HFF:=Lib.hid hff2
 clear cF hff hff2
 rcases Nat.lt_or_ge 100 cust.size with hcu | hcu
 ·skip
  go_enter Tryz.func3,Tryz.ntmps3
  go_upto_region 1 with fail
  generalize hw0:World.alloc _ _=w0
  have hS:FiS w #[.string cust,.int .i64 party,.slice A n c] w0:=by
   rw[←hw0]
   exact⟨heap_alloc_new w _,Qk (Below.refl _ _) _⟩
  clear hw0
  have y0:=hS.p.cell (k:=0) (v:=.string cust) rfl;have y2:=hS.p.cell (k:=2) (v:=.slice A n c) rfl
  go_wp2_with (first | (go_at_call 4;refine (HS.out _ hS.b).mono ?_;(rintro e w' ⟨rfl,hb'⟩;replace hS:=hS.keep hb';clear hb' y0 y2;have y0:=hS.p.cell (k:=0) (v:=.string cust) rfl;have y2:=hS.p.cell (k:=2) (v:=.slice A n c) rfl)) | (go_at_call 5;refine (HF.out _ hS.b).mono ?_;(rintro e w' ⟨rfl,hb'⟩;replace hS:=hS.keep hb';clear hb' y0 y2;have y0:=hS.p.cell (k:=0) (v:=.string cust) rfl;have y2:=hS.p.cell (k:=2) (v:=.slice A n c) rfl)) | (go_at_call 6;refine (HN.out _ hS.b).mono ?_;(rintro e w' ⟨rfl,hb'⟩;replace hS:=hS.keep hb';clear hb' y0 y2;have y0:=hS.p.cell (k:=0) (v:=.string cust) rfl;have y2:=hS.p.cell (k:=2) (v:=.slice A n c) rfl)))
  go_ret
  exact⟨rfl,hS.b⟩
 have hlen:=HL.out
 have hbn:nb≤10∨64<nb∧nb≤1000:=by have h1:=HBN.out;have h2:=HBL.out;rw[h2]at h1;omega
 have hbs:=HBS.out
 have c1:=fun W (hb:Below w.heap.size w W)=>gap_any p Ab nb cb bs W (by omega) (HR.out.keep hb) hbn hbs (HE.out.keep hb) (HT.out.keep hb)
 have c2:=fun W (hb:Below w.heap.size w W)=>Y3 A n c i L W (HA.out.keep hb) HFF.out HCP.out hnc (by omega) (HE.out.keep hb) (HT.out.keep hb)
 have c3:∀ W,Below w.heap.size w W→Calls Tryz.prog 9 #[.slice A n c,.int .i64 i] W (fun e w'=>∃ ad cl co si lo hi is er,e=.returned (.tuple #[.agg #[.string ad,.string cl,.string co,.int .i64 si,.int .i64 lo,.int .i64 hi],.bool is,.int .i64 er])∧deRef L i=(is,er)∧Below W.heap.size W w'):=fun W hb=>(dead_all A n c i L W (HA.out.keep hb) HFF.out HCP.out hnc (by omega) (HE.out.keep hb) (HT.out.keep hb)).mono (fun e w' ⟨⟨ad,cl,co,si,lo,hi⟩,is,er,he,h,hb'⟩=>⟨ad,cl,co,si,lo,hi,is,er,he,h,hb'⟩)
 have c4:=fun W (hb:Below w.heap.size w W)=>unruled_all cust party A n c L W (HA.out.keep hb) HFF.out (by omega) hcu (HE.out.keep hb) (HT.out.keep hb)
 have c5:=fun W (hb:Below w.heap.size w W)=>clash_any A n c i k L W (HA.out.keep hb) HFF.out HCP.out (by omega) (HE.out.keep hb)
 have c6:=fun W (hb:Below w.heap.size w W)=>shared_any A n c i k L W (HA.out.keep hb) HFF.out HCP.out (by omega) (HE.out.keep hb)
 have q1:=fun W (hb:Below w.heap.size w W)=>Y4 p Ab nb cb bs W (by omega) (HR.out.keep hb) (by omega) (fun b hm=>by have:=hbs b hm;omega)
 have q2:=fun W (hb:Below w.heap.size w W)=>rShadowed24_any A n c i L W (HA.out.keep hb) HFF.out (by omega)
 have q3:=fun W (hb:Below w.heap.size w W)=>rDead24_any A n c i L W (HA.out.keep hb) HFF.out (by omega)
 have q4:=fun W (hb:Below w.heap.size w W)=>rUnruled24_any cust party A n c L W (HA.out.keep hb) HFF.out (by omega) hcu
 have q5:=fun W (hb:Below w.heap.size w W)=>rClash24_any A n c i k L W (HA.out.keep hb) HFF.out (by omega)
 have q6:=fun W (hb:Below w.heap.size w W)=>rShared24_any A n c i k L W (HA.out.keep hb) HFF.out (by omega)
 unfold polV at c4 q4
 have C1:=Lib.hid c1;have C2:=Lib.hid c2;have C3:=Lib.hid c3;have C4:=Lib.hid c4;have C5:=Lib.hid c5;have C6:=Lib.hid c6
 have Q1:=Lib.hid q1;have Q2:=Lib.hid q2;have Q3:=Lib.hid q3;have Q4:=Lib.hid q4;have Q5:=Lib.hid q5;have Q6:=Lib.hid q6
 have hl64:L.length≤64:=by omega
 clear c1 c2 c3 c4 c5 c6 q1 q2 q3 q4 q5 q6 hps hbn hbs HBS HBN HR HA HFF HCP hlen
 go_enter Tryz.func3,Tryz.ntmps3
 go_upto_region 1 with fail
 generalize hw0:World.alloc _ _=w0
 have hS:FiS w #[.string cust,.int .i64 party,.slice A n c] w0:=by
  rw[←hw0]
  exact⟨heap_alloc_new w _,Qk (Below.refl _ _) _⟩
 clear hw0
 have y0:=hS.p.cell (k:=0) (v:=.string cust) rfl;have y2:=hS.p.cell (k:=2) (v:=.slice A n c) rfl
 go_upto_region 4 with (first | (go_at_call 4;refine (HS.out _ hS.b).mono ?_;(rintro e w' ⟨rfl,hb'⟩;replace hS:=hS.keep hb';clear hb' y0 y2;have y0:=hS.p.cell (k:=0) (v:=.string cust) rfl;have y2:=hS.p.cell (k:=2) (v:=.slice A n c) rfl)) | (go_at_call 5;refine (HF.out _ hS.b).mono ?_;(rintro e w' ⟨rfl,hb'⟩;replace hS:=hS.keep hb';clear hb' y0 y2;have y0:=hS.p.cell (k:=0) (v:=.string cust) rfl;have y2:=hS.p.cell (k:=2) (v:=.slice A n c) rfl)))
 go_upto_region 5 with (go_at_call 7;refine (C1.out _ hS.b).mono ?_;rintro e w1 ⟨s1,b1,r1,rfl,h,hb'⟩)
 have L1:=Lib.hid (gap_link h)
 replace hS:=hS.keep hb'
 clear hb' h y0 y2 C1
 have y0:=hS.p.cell (k:=0) (v:=.string cust) rfl;have y2:=hS.p.cell (k:=2) (v:=.slice A n c) rfl
 go_upto_region 6 with (go_at_call 8;refine (C2.out _ hS.b).mono ?_;rintro e w2 ⟨s2,b2,r2,rfl,h,hb'⟩)
 have L2:=Lib.hid (sh_link hl64 h)
 replace hS:=hS.keep hb'
 clear hb' h y0 y2 C2
 have y0:=hS.p.cell (k:=0) (v:=.string cust) rfl;have y2:=hS.p.cell (k:=2) (v:=.slice A n c) rfl
 go_upto_region 7 with (go_at_call 9;refine (C3.out _ hS.b).mono ?_;rintro e w3 ⟨ad,cl,co,si,lo,hi,b3,r3,rfl,h,hb'⟩)
 have L3:=Lib.hid (h)
 replace hS:=hS.keep hb'
 clear hb' h y0 y2 C3
 generalize hwa:World.alloc _ _=wa
 have hba:Below w3.heap.size w3 wa:=by rw[←hwa];exact Qk (Below.refl _ _) _
 replace hS:=hS.keep hba
 clear hwa hba
 have y0:=hS.p.cell (k:=0) (v:=.string cust) rfl;have y2:=hS.p.cell (k:=2) (v:=.slice A n c) rfl
 go_upto_region 8 with (first | (refine Qw rfl 25 _ rfl ⟨w.heap.size,0,none⟩ (.agg #[.string cust,.int .i64 party,.slice A n c]) rfl (unPolR hS.p) ?_) | (go_at_call 10;refine (C4.out _ hS.b).mono ?_;rintro e w4 ⟨s4,b4,r4,rfl,h,hb'⟩))
 have L4:=Lib.hid (h)
 replace hS:=hS.keep hb'
 clear hb' h y0 y2 C4
 have y0:=hS.p.cell (k:=0) (v:=.string cust) rfl;have y2:=hS.p.cell (k:=2) (v:=.slice A n c) rfl
 go_upto_region 9 with (go_at_call 11;refine (C5.out _ hS.b).mono ?_;rintro e w5 ⟨s5,b5,r5,rfl,h,hb'⟩)
 have L5:=Lib.hid (cl_link h)
 replace hS:=hS.keep hb'
 clear hb' h y0 y2 C5
 have y0:=hS.p.cell (k:=0) (v:=.string cust) rfl;have y2:=hS.p.cell (k:=2) (v:=.slice A n c) rfl
 go_upto_region 10 with (go_at_call 12;refine (C6.out _ hS.b).mono ?_;rintro e w6 ⟨s6,g6,h6,b6,r6,rfl,h,_,hb'⟩)
 have L6:=Lib.hid (h)
 replace hS:=hS.keep hb'
 clear hb' h y0 y2 C6
 have y0:=hS.p.cell (k:=0) (v:=.string cust) rfl;have y2:=hS.p.cell (k:=2) (v:=.slice A n c) rfl
 have q1:=Q1.out
 rw[L1.out]at q1
 dsimp only at q1
 have DD1:=Lib.hid q1
 clear q1 Q1 L1
 have q2:=Q2.out
 rw[L2.out]at q2
 dsimp only at q2
 have DD2:=Lib.hid q2
 clear q2 Q2 L2
 have q3:=Q3.out
 rw[L3.out]at q3
 dsimp only at q3
 have DD3:=Lib.hid q3
 clear q3 Q3 L3
 have q4:=Q4.out
 rw[L4.out]at q4
 dsimp only at q4
 have DD4:=Lib.hid q4
 clear q4 Q4 L4
 have q5:=Q5.out
 rw[L5.out]at q5
 dsimp only at q5
 have DD5:=Lib.hid q5
 clear q5 Q5 L5
 go_upto_region 11 with (go_at_call 13;refine (DD1.out _ hS.b).mono ?_;rintro e u1 ⟨rfl,hb'⟩)
 generalize hwa:World.alloc _ _=v1
 have hba:Below u1.heap.size u1 v1:=by rw[←hwa];exact Qk (Below.refl _ _) _
 have K1:Qv v1 u1.heap.size 45 #[.bool b1,.int .i64 r1] (0,0):=by rw[←hwa];exact World.alloc_heap_new u1 _
 obtain⟨m1,hm⟩:∃ m1,m1=u1.heap.size:=⟨_,rfl⟩
 rw[←hm]at K1 ⊢
 replace hS:=(hS.keep hb').keep hba
 clear hm hwa hb' hba y0 y2 u1
 have y0:=hS.p.cell (k:=0) (v:=.string cust) rfl;have y2:=hS.p.cell (k:=2) (v:=.slice A n c) rfl
 go_upto_region 12 with (go_at_call 14;refine (DD2.out _ hS.b).mono ?_;rintro e u2 ⟨rfl,hb'⟩)
 generalize hwa:World.alloc _ _=v2
 have hba:Below u2.heap.size u2 v2:=by rw[←hwa];exact Qk (Below.refl _ _) _
 have K2:Qv v2 u2.heap.size 45 #[.bool b2,.int .i64 r2] (0,0):=by rw[←hwa];exact World.alloc_heap_new u2 _
 obtain⟨m2,hm⟩:∃ m2,m2=u2.heap.size:=⟨_,rfl⟩
 rw[←hm]at K2 ⊢
 replace K1:=Qv.keep (Qv.keep K1 hb') hba
 replace hS:=(hS.keep hb').keep hba
 clear hm hwa hb' hba y0 y2 u2
 have y0:=hS.p.cell (k:=0) (v:=.string cust) rfl;have y2:=hS.p.cell (k:=2) (v:=.slice A n c) rfl
 go_upto_region 13 with (go_at_call 15;refine (DD3.out _ hS.b).mono ?_;rintro e u3 ⟨rfl,hb'⟩)
 generalize hwa:World.alloc _ _=v3
 have hba:Below u3.heap.size u3 v3:=by rw[←hwa];exact Qk (Below.refl _ _) _
 have K3:Qv v3 u3.heap.size 45 #[.bool b3,.int .i64 r3] (0,0):=by rw[←hwa];exact World.alloc_heap_new u3 _
 obtain⟨m3,hm⟩:∃ m3,m3=u3.heap.size:=⟨_,rfl⟩
 rw[←hm]at K3 ⊢
 replace K1:=Qv.keep (Qv.keep K1 hb') hba
 replace K2:=Qv.keep (Qv.keep K2 hb') hba
 replace hS:=(hS.keep hb').keep hba
 clear hm hwa hb' hba y0 y2 u3
 have y0:=hS.p.cell (k:=0) (v:=.string cust) rfl;have y2:=hS.p.cell (k:=2) (v:=.slice A n c) rfl
 go_upto_region 14 with (first | (refine Qw rfl 25 _ rfl ⟨w.heap.size,0,none⟩ (.agg #[.string cust,.int .i64 party,.slice A n c]) rfl (unPolR hS.p) ?_) | (go_at_call 16;refine (DD4.out _ hS.b).mono ?_;rintro e u4 ⟨rfl,hb'⟩))
 generalize hwa:World.alloc _ _=v4
 have hba:Below u4.heap.size u4 v4:=by rw[←hwa];exact Qk (Below.refl _ _) _
 have K4:Qv v4 u4.heap.size 45 #[.bool b4,.int .i64 r4] (0,0):=by rw[←hwa];exact World.alloc_heap_new u4 _
 obtain⟨m4,hm⟩:∃ m4,m4=u4.heap.size:=⟨_,rfl⟩
 rw[←hm]at K4 ⊢
 replace K1:=Qv.keep (Qv.keep K1 hb') hba
 replace K2:=Qv.keep (Qv.keep K2 hb') hba
 replace K3:=Qv.keep (Qv.keep K3 hb') hba
 replace hS:=(hS.keep hb').keep hba
 clear hm hwa hb' hba y0 y2 u4
 have y0:=hS.p.cell (k:=0) (v:=.string cust) rfl;have y2:=hS.p.cell (k:=2) (v:=.slice A n c) rfl
 go_upto_region 15 with (go_at_call 17;refine (DD5.out _ hS.b).mono ?_;rintro e u5 ⟨rfl,hb'⟩)
 generalize hwa:World.alloc _ _=v5
 have hba:Below u5.heap.size u5 v5:=by rw[←hwa];exact Qk (Below.refl _ _) _
 have K5:Qv v5 u5.heap.size 45 #[.bool b5,.int .i64 r5] (0,0):=by rw[←hwa];exact World.alloc_heap_new u5 _
 obtain⟨m5,hm⟩:∃ m5,m5=u5.heap.size:=⟨_,rfl⟩
 rw[←hm]at K5 ⊢
 replace K1:=Qv.keep (Qv.keep K1 hb') hba
 replace K2:=Qv.keep (Qv.keep K2 hb') hba
 replace K3:=Qv.keep (Qv.keep K3 hb') hba
 replace K4:=Qv.keep (Qv.keep K4 hb') hba
 replace hS:=(hS.keep hb').keep hba
 clear hm hwa hb' hba y0 y2 u5
 have y0:=hS.p.cell (k:=0) (v:=.string cust) rfl;have y2:=hS.p.cell (k:=2) (v:=.slice A n c) rfl
 go_upto_region 16 with (go_at_call 18;refine (Q6.out _ hS.b).mono ?_;rintro e u6 ⟨b7,r7,rfl,h,hb'⟩;obtain⟨rfl,rfl⟩:=shd_link L6.out h;clear h)
 generalize hwa:World.alloc _ _=v6
 have hba:Below u6.heap.size u6 v6:=by rw[←hwa];exact Qk (Below.refl _ _) _
 have K6:Qv v6 u6.heap.size 45 #[.bool b7,.int .i64 r7] (0,0):=by rw[←hwa];exact World.alloc_heap_new u6 _
 obtain⟨m6,hm⟩:∃ m6,m6=u6.heap.size:=⟨_,rfl⟩
 rw[←hm]at K6 ⊢
 replace K1:=Qv.keep (Qv.keep K1 hb') hba
 replace K2:=Qv.keep (Qv.keep K2 hb') hba
 replace K3:=Qv.keep (Qv.keep K3 hb') hba
 replace K4:=Qv.keep (Qv.keep K4 hb') hba
 replace K5:=Qv.keep (Qv.keep K5 hb') hba
 replace hS:=(hS.keep hb').keep hba
 clear hm hwa hb' hba y0 y2 u6
 have y0:=hS.p.cell (k:=0) (v:=.string cust) rfl;have y2:=hS.p.cell (k:=2) (v:=.slice A n c) rfl
 have x1:=Qv.cell K1 0
 have z1:=Qv.cell K1 1
 have t1:(b1==b1)=true:=beq_self_eq_true b1
 have o1:(r1==r1)=true:=beq_self_eq_true r1
 have x2:=Qv.cell K2 0
 have z2:=Qv.cell K2 1
 have t2:(b2==b2)=true:=beq_self_eq_true b2
 have o2:(r2==r2)=true:=beq_self_eq_true r2
 have x3:=Qv.cell K3 0
 have z3:=Qv.cell K3 1
 have t3:(b3==b3)=true:=beq_self_eq_true b3
 have o3:(r3==r3)=true:=beq_self_eq_true r3
 have x4:=Qv.cell K4 0
 have z4:=Qv.cell K4 1
 have t4:(b4==b4)=true:=beq_self_eq_true b4
 have o4:(r4==r4)=true:=beq_self_eq_true r4
 have x5:=Qv.cell K5 0
 have z5:=Qv.cell K5 1
 have t5:(b5==b5)=true:=beq_self_eq_true b5
 have o5:(r5==r5)=true:=beq_self_eq_true r5
 have x6:=Qv.cell K6 0
 have z6:=Qv.cell K6 1
 have t6:(b7==b7)=true:=beq_self_eq_true b7
 have o6:(r7==r7)=true:=beq_self_eq_true r7
 clear K1 K2 K3 K4 K5 K6 DD1 DD2 DD3 DD4 DD5 Q6 L6 HS HF
 go_upto_region 17 with fail
 clear x1 x2 x3 z1 z2 z3
 go_wp2_with (go_at_call 6;refine (HN.out _ hS.b).mono ?_;rintro e w' ⟨rfl,hb'⟩;replace hS:=hS.keep hb';replace x4:=Qq hb' x4;replace x5:=Qq hb' x5;replace x6:=Qq hb' x6;replace z4:=Qq hb' z4;replace z5:=Qq hb' z5;replace z6:=Qq hb' z6;clear hb' y0 y2)
 go_ret
 exact⟨rfl,hS.b⟩
end Go.Proofs.YticlbkficolocaaGreatDoor
