/- What the functions of layer 24 answer for its example. -/
import Derived.Test.YticlbkficolocaaGreatDoorIZ40
set_option maxHeartbeats 8000000
namespace Go.Proofs.YticlbkficolocaaGreatDoor
open Go.RowKit Go.Sort
set_option linter.unusedVariables false
set_option linter.unusedSimpArgs false
set_option maxRecDepth 100000
theorem gapE {p:ByteArray} {bs:List ByteArray} (W:World) (hp:p.size≤300) (hn:bs.length≤10) (hs:∀ b∈bs,b.size≤300) (hok:Wj p bs=true) (hE:Env W) (hT:Tab W) :
  Calls Tryz.prog 7 #[.string p,.slice (some ⟨W.heap.size,0,none⟩) bs.length bs.length] (W.alloc (.cells (bs.map Value.string).toArray 9)) fun e w'=>∃ s is,e=.returned (.tuple #[.string s,.bool is,.int .i64 0])∧ZU p bs s is∧s.size≤4096∧Below W.heap.size W w':=by
 have hal:Below W.heap.size W (W.alloc (.cells (bs.map Value.string).toArray 9)):=Qk (Below.refl _ _) _
 have hR:=reads_new W 9 (bs.map Value.string) bs.length (by simp)
 refine (gap_any p (some ⟨W.heap.size,0,none⟩) bs.length bs.length bs _ (by omega) hR (.inl hn) hs (hE.keep hal) (hT.keep hal)).mono ?_
 rintro e w' ⟨s,is,er,rfl,hr,hb⟩
 rcases hr with ⟨h,_⟩ | ⟨_,rfl,hg,hz⟩
 ·rw[hok]at h;cases h
 ·exact⟨s,is,rfl,hg,hz,Qj hal hb⟩
theorem gapE1 (W:World) (hE:Env W) (hT:Tab W):Calls Tryz.prog 7 #[.string (⟨#[97,99,109,101,47,42,42]⟩:ByteArray),.slice (some ⟨W.heap.size,0,none⟩) 3 3] (W.alloc (.cells #[.string (⟨#[97,99,109,101]⟩:ByteArray),.string (⟨#[97,99,109,101,47,42]⟩:ByteArray),.string (⟨#[97,99,109,101,47,42,47,42,42]⟩:ByteArray)] 9)) fun e w'=>∃ s,e=.returned (.tuple #[.string s,.bool false,.int .i64 0])∧Below W.heap.size W w' :=
 (gapE (p:=(⟨#[97,99,109,101,47,42,42]⟩:ByteArray)) (bs:=[(⟨#[97,99,109,101]⟩:ByteArray),(⟨#[97,99,109,101,47,42]⟩:ByteArray),(⟨#[97,99,109,101,47,42,47,42,42]⟩:ByteArray)]) W (by decide) (by decide) (by decide) (by decide +kernel) hE hT).mono fun e w' ⟨s,is,he,hg,_,hb⟩=>⟨s,by rw[he,g1 hg],hb⟩
theorem gapE2 (W:World) (hE:Env W) (hT:Tab W):Calls Tryz.prog 7 #[.string (⟨#[97,99,109,101,47,42,42]⟩:ByteArray),.slice (some ⟨W.heap.size,0,none⟩) 2 2] (W.alloc (.cells #[.string (⟨#[97,99,109,101,47,42]⟩:ByteArray),.string (⟨#[97,99,109,101,47,42,47,42,42]⟩:ByteArray)] 9)) fun e w'=>e=.returned (.tuple #[.string (⟨#[97,99,109,101]⟩:ByteArray),.bool true,.int .i64 0])∧Below W.heap.size W w' :=
 (gapE (p:=(⟨#[97,99,109,101,47,42,42]⟩:ByteArray)) (bs:=[(⟨#[97,99,109,101,47,42]⟩:ByteArray),(⟨#[97,99,109,101,47,42,47,42,42]⟩:ByteArray)]) W (by decide) (by decide) (by decide) (by decide +kernel) hE hT).mono fun e w' ⟨s,is,he,hg,_,hb⟩=>⟨by rw[he,(g2 hg).1,(g2 hg).2],hb⟩
theorem gapE3 (W:World) (hE:Env W) (hT:Tab W):Calls Tryz.prog 7 #[.string (⟨#[97,99,109,101,47,42]⟩:ByteArray),.slice (some ⟨W.heap.size,0,none⟩) 2 2] (W.alloc (.cells #[.string (⟨#[97,99,109,101,47,42,46,99,115,115]⟩:ByteArray),.string (⟨#[97,99,109,101,47,97]⟩:ByteArray)] 9)) fun e w'=>∃ s,e=.returned (.tuple #[.string s,.bool true,.int .i64 0])∧(Zk (⟨#[97,99,109,101,47,42]⟩:ByteArray) s=true∧Zk (⟨#[97,99,109,101,47,42,46,99,115,115]⟩:ByteArray) s=false∧(s.toList==((⟨#[97,99,109,101,47,97]⟩:ByteArray):ByteArray).toList)=false)∧s.size≤4096∧Below W.heap.size W w' :=
 (gapE (p:=(⟨#[97,99,109,101,47,42]⟩:ByteArray)) (bs:=[(⟨#[97,99,109,101,47,42,46,99,115,115]⟩:ByteArray),(⟨#[97,99,109,101,47,97]⟩:ByteArray)]) W (by decide) (by decide) (by decide) (by decide +kernel) hE hT).mono fun e w' ⟨s,is,he,hg,hz,hb⟩=>⟨s,by rw[he,(g3 hg).1],(g3 hg).2,hz,hb⟩
theorem rFit (T U:Option Addr):∀ x∈rL T U,Zw x.r:=by
 have hA:fewR (rA none).r=true:=by decide +kernel
 have hB:fewR (rB none).r=true:=by decide +kernel
 have hC:fewR rC.r=true:=by decide +kernel
 intro x hx
 unfold rL at hx
 rcases List.mem_cons.1 hx with rfl | hx
 ·exact fewR_fits hA
 rcases List.mem_cons.1 hx with rfl | hx
 ·exact fewR_fits hB
 rcases List.mem_cons.1 hx with rfl | hx
 ·exact fewR_fits hC
 ·cases hx
theorem rCap (T U:Option Addr):∀ x∈rL T U,Jk x:=by
 intro x hx
 unfold rL at hx
 rcases List.mem_cons.1 hx with rfl | hx
 ·exact⟨Nat.le_refl _,fun y hy=>(by cases hy),Nat.le_refl _⟩
 rcases List.mem_cons.1 hx with rfl | hx
 ·exact⟨Nat.le_refl _,fun y hy=>(by cases hy),Nat.le_refl _⟩
 rcases List.mem_cons.1 hx with rfl | hx
 ·exact⟨Nat.le_refl _,fun y hy=>(by cases hy),Nat.le_refl _⟩
 ·cases hx
theorem okL (T U:Option Addr) (i:Int) (h0:0≤i) (h1:i<3):Uo (rL T U) i=true:=by
 unfold Uo
 rw[vL,decide_eq_true h0,decide_eq_true (show i<((rL T U).length:Int) from h1)]
 rfl
theorem shE1 {A T U:Option Addr} (W:World) (hL:Qs W A 3 (rL T U)) (hE:Env W) (hT:Tab W):Calls Tryz.prog 8 #[.slice A 3 3,.int .i64 1] W fun e w'=>∃ s,e=.returned (.tuple #[.string s,.bool true,.int .i64 0])∧Below W.heap.size W w':=by
 refine (Y3 A 3 3 1 (rL T U) W hL (rFit T U) (rCap T U) (Nat.le_refl _) (by decide) hE hT).mono ?_
 rintro e w' ⟨s,is,er,rfl,hr,hb⟩
 rcases hr with ⟨h,_⟩ | ⟨_,rfl,x,hx,hr⟩
 ·rw[okL T U 1 (by decide) (by decide)]at h;cases h
 ·have hx2:x=rB U:=(Option.some.inj (show (rL T U)[1]? = some x from hx)).symm
  subst hx2
  rcases hr with ⟨h,_⟩ | ⟨_,g,rfl,hg,_⟩
  ·exact absurd tB h
  ·have h2:ZU (⟨#[97,99,109,101,47,97]⟩:ByteArray) [(⟨#[97,99,109,101,47,42,42]⟩:ByteArray)] s g:=by
    have h3:=hg
    rw[show Z5 (rL T U) (rB U).r.tags (Int.toNat 1)=[(⟨#[97,99,109,101,47,42,42]⟩:ByteArray)] from bB T U]at h3
    exact h3
   rw[gs1 h2]
   exact⟨s,rfl,hb⟩
theorem shE2 {A T U:Option Addr} (W:World) (hL:Qs W A 3 (rL T U)) (hE:Env W) (hT:Tab W):Calls Tryz.prog 8 #[.slice A 3 3,.int .i64 2] W (Zx W (.tuple #[.string (⟨#[97,99,109,101,47,97]⟩:ByteArray),.bool false,.int .i64 0])):=by
 refine (Y3 A 3 3 2 (rL T U) W hL (rFit T U) (rCap T U) (Nat.le_refl _) (by decide) hE hT).mono ?_
 rintro e w' ⟨s,is,er,rfl,hr,hb⟩
 rcases hr with ⟨h,_⟩ | ⟨_,rfl,x,hx,hr⟩
 ·rw[okL T U 2 (by decide) (by decide)]at h;cases h
 ·have hx2:x=rC:=(Option.some.inj (show (rL T U)[2]? = some x from hx)).symm
  subst hx2
  rcases hr with ⟨h,_⟩ | ⟨_,g,rfl,hg,_⟩
  ·exact absurd t0 h
  ·have h2:ZU (⟨#[97,99,109,101,47,97]⟩:ByteArray) [] s g:=by
    have h3:=hg
    rw[show Z5 (rL T U) rC.r.tags (Int.toNat 2)=[] from bC T U]at h3
    exact h3
   rw[(gs2 h2).1,(gs2 h2).2]
   exact⟨rfl,hb⟩
theorem pmC:X3 rC.r.pat rC.r.allow.pat=none:=by decide +kernel
theorem pmAa:X3 (⟨#[97,99,109,101,47,42,42]⟩:ByteArray) ⟨#[]⟩=some (⟨#[97,99,109,101,47,42,42]⟩:ByteArray):=by decide +kernel
theorem deE2 {A T U:Option Addr} (W:World) (hL:Qs W A 3 (rL T U)) (hE:Env W) (hT:Tab W):Calls Tryz.prog 9 #[.slice A 3 3,.int .i64 2] W fun e w'=>∃ a,e=.returned (.tuple #[Kr.val a,.bool true,.int .i64 0])∧Below W.heap.size W w':=by
 refine (dead_good A 3 3 2 (rL T U) rC W hL (rFit T U) (rCap T U) (Nat.le_refl _) (by decide) hE hT (vL T U) rfl).mono ?_
 rintro e w' ⟨a,is,rfl,hr,hb⟩
 rcases hr with ⟨rfl,_⟩ | ⟨rfl,_,_,m,s,hm,_⟩
 ·exact⟨a,rfl,hb⟩
 ·rw[pmC]at hm;cases hm
theorem deE0 {A T U:Option Addr} (W:World) (hL:Qs W A 3 (rL T U)) (hE:Env W) (hT:Tab W):Calls Tryz.prog 9 #[.slice A 3 3,.int .i64 0] W fun e w'=>∃ a,e=.returned (.tuple #[Kr.val a,.bool false,.int .i64 0])∧(Yj (rA T).r.allow a=true∧AskFits a)∧Below W.heap.size W w':=by
 refine (dead_good A 3 3 0 (rL T U) (rA T) W hL (rFit T U) (rCap T U) (Nat.le_refl _) (by decide) hE hT (vL T U) rfl).mono ?_
 rintro e w' ⟨a,is,rfl,hr,hb⟩
 have hbe:Z5 (rL T U) (rA T).r.tags 0=[]:=rfl
 have hpm:X3 (rA T).r.pat (rA T).r.allow.pat=some (⟨#[97,99,109,101,47,42,42]⟩:ByteArray):=pmAa
 rcases hr with ⟨_,_,h | h | ⟨_,h⟩ | ⟨_,_,m,s,hm,hg⟩⟩ | ⟨rfl,_,_,m,s,hm,hg,hz,rfl⟩
 ·exact absurd (show (Ze [(⟨#[104,111,116]⟩:ByteArray)]).2=0 by rw[tA]) h
 ·exact absurd h (show ¬ ((1099511627777:Int)≤0) by decide)
 ·rw[hpm]at h;cases h
 ·exfalso
  rw[hpm]at hm
  have em:=Option.some.inj hm
  subst em
  rw[hbe]at hg
  have:=gd0 hg
  cases this
 ·rw[hpm]at hm
  have em:=Option.some.inj hm
  subst em
  have hv:Xj (rA T).r.allow=true:=(rule_ok (show X0 (rA T).r=true from vA)).allow
  have hlv:=live_ask (l:=(rL T U).map ruleP) (i:=0) (r:=ruleP (rA T)) (c:=(rA T).r.allow) (m:=(⟨#[97,99,109,101,47,42,42]⟩:ByteArray)) (s:=s) (T:=(⟨#[104,111,116]⟩:ByteArray)) rfl (by show (Qx (⟨#[97,99,109,101,47,42,42]⟩:ByteArray)).isSome=true;rw[cTa];rfl) ((valid_iff _).1 hv) (by show (0:Int)<1099511627777;decide) tA hpm (by rw[befK_eq];exact hg)
  exact⟨_,rfl,⟨hlv.1,⟨by show s.size≤100000;omega,(show (⟨#[97]⟩:ByteArray).size≤100000 by decide),(show (⟨#[97,97]⟩:ByteArray).size≤100000 by decide)⟩⟩,hb⟩
theorem run_bs24 (T U:Nat) (w:World):(Instr.buildSlice 23 3 #[(0,.agg (row24 (⟨#[111,110,101]⟩:ByteArray) (⟨#[97,99,109,101,47,42,42]⟩:ByteArray) (some ⟨T,0,none⟩) 1 1 ⟨#[]⟩).toArray),(1,.agg (row24 (⟨#[116,119,111]⟩:ByteArray) (⟨#[97,99,109,101,47,97]⟩:ByteArray) (some ⟨U,0,none⟩) 2 2 ⟨#[]⟩).toArray),(2,.agg (row24 (⟨#[116,104,114,101,101]⟩:ByteArray) (⟨#[97,99,109,101,47,97]⟩:ByteArray) none 0 0 (⟨#[97,99,109,101,47,98]⟩:ByteArray)).toArray)]).run Tryz.prog w=.ok (.slice (some ⟨w.heap.size,0,none⟩) 3 3) (w.alloc (.cells ((rL (some ⟨T,0,none⟩) (some ⟨U,0,none⟩)).flatMap Qh.cells).toArray 57)):=by kernel_rfl
theorem rules24 {W:World} {gl T U:Nat} (hl:W.heap[gl]? = some (.cells ((rL (some ⟨T,0,none⟩) (some ⟨U,0,none⟩)).flatMap Qh.cells).toArray 57 (0,0))) (hT:W.heap[T]? = some (.cells #[.string (⟨#[104,111,116]⟩:ByteArray)] 9 (0,0))) (hU:W.heap[U]? = some (.cells #[.string (⟨#[104,111,116]⟩:ByteArray),.string (⟨#[110,101,119]⟩:ByteArray)] 9 (0,0))):Qs W (some ⟨gl,0,none⟩) 3 (rL (some ⟨T,0,none⟩) (some ⟨U,0,none⟩)):=by
 have rd:∀ (g:Nat) (vs:List Value) (t:TypeId) (n:Nat) (size:Nat),W.heap[g]? = some (.cells vs.toArray t (0,0))→vs.length=n*size→Reads W size (some ⟨g,0,none⟩) n vs:=fun g vs t n size h hn=>⟨hn,fun _=>⟨g,0,rfl,fun j u hu=>by
  have hb:Qv W g t vs.toArray (0,0):=h
  rw[Nat.zero_add,hb.cell]
  simpa using hu⟩⟩
 have hz:∀ (s:ByteArray) (g:Option Addr),Reads W 1 g 0 ([]:List Value):=fun s g=>⟨rfl,fun h=>absurd h (by decide)⟩
 have hc:∀ al,Xm W (mkC al) ⟨none,0,none,0,none,0⟩:=fun al=>⟨Reads.nil_ _ _ _,Reads.nil_ _ _ _,Reads.nil_ _ _ _⟩
 refine⟨rfl,rd gl _ _ 3 18 hl rfl,fun x hx=>?_⟩
 unfold rL at hx
 rcases List.mem_cons.1 hx with rfl | hx
 ·exact⟨rd T [.string (⟨#[104,111,116]⟩:ByteArray)] _ 1 1 hT rfl,Reads.nil_ _ _ _,rfl,fun y hy=>(by cases hy),hc _⟩
 rcases List.mem_cons.1 hx with rfl | hx
 ·exact⟨rd U [.string (⟨#[104,111,116]⟩:ByteArray),.string (⟨#[110,101,119]⟩:ByteArray)] _ 2 1 hU rfl,Reads.nil_ _ _ _,rfl,fun y hy=>(by cases hy),hc _⟩
 rcases List.mem_cons.1 hx with rfl | hx
 ·exact⟨Reads.nil_ _ _ _,Reads.nil_ _ _ _,rfl,fun y hy=>(by cases hy),hc _⟩
 ·cases hx
structure SaS (w:World) (gl T U gz:Nat) (a:Kr) (W:World):Prop where
 l:Qs W (some ⟨gl,0,none⟩) 3 (rL (some ⟨T,0,none⟩) (some ⟨U,0,none⟩))
 z:Zl W gz 36 #[.string a.addr,.string a.client,.string a.country,.int .i64 a.site,.int .i64 a.lo,.int .i64 a.hi]
 b:Below w.heap.size w W
theorem SaS.keep {w W W':World} {gl T U gz:Nat} {a:Kr} (h:SaS w gl T U gz a W) (hb:Below W.heap.size W W'):SaS w gl T U gz a W':=⟨h.l.keep hb,h.z.keep hb,Qj h.b hb⟩
def WV (a b:List Zo) (S:List ZQ) (i:Nat):Prop:=∀ i' k g q,i' < i→i' < k→S[i']? = some g→S[k]? = some q→ZY a g.h q.h=true→ZY b g.h q.h=true
def UZ (a b:List Zo) (S:List ZQ) (i k:Nat):Prop:=∀ k' g q,i<k'→k' < k→S[i]? = some g→S[k']? = some q→ZY a g.h q.h=true→ZY b g.h q.h=true
theorem WV.succ {a b:List Zo} {S:List ZQ} {i:Nat} (h:WV a b S i) (h2:UZ a b S i S.length):WV a b S (i+1):=by
 intro i' k g q h3 h4 h5 h6 h7
 rcases Nat.lt_succ_iff_lt_or_eq.1 h3 with h8 | h8
 ·exact h i' k g q h8 h4 h5 h6 h7
 ·subst h8
  exact h2 k g q h4 (List.getElem?_eq_some_iff.1 h6).1 h5 h6 h7
theorem UZ.succ {a b:List Zo} {S:List ZQ} {i k:Nat} {g q:ZQ} (h:UZ a b S i k) (h1:S[i]? = some g) (h2:S[k]? = some q) (h3:ZY a g.h q.h=true→ZY b g.h q.h=true):UZ a b S i (k+1):=by
 intro k' g' q' h4 h5 h6 h7 h8
 rcases Nat.lt_succ_iff_lt_or_eq.1 h5 with h9 | h9
 ·exact h k' g' q' h4 h9 h6 h7 h8
 ·subst h9
  rw[h1]at h6
  rw[h2]at h7
  injection h6 with h6
  injection h7 with h7
  subst h6;subst h7
  exact h3 h8
def GoodV (a b:List Zo) (v:Zo):Prop:=∃ S,YV a v S∧∀ g∈S,∀ k∈S,ZY a g k=true→ZY b g k=true
theorem good_of {a b:List Zo} {v:Zo} {S:List ZQ} (hS:YV a v (S.map (·.h))) (h:WV a b S S.length):GoodV a b v:=by
 refine⟨S.map (·.h),hS,pairs_all fun i k g q hik hi hk hs=>?_⟩
 rw[List.getElem?_map,Option.map_eq_some_iff]at hi hk
 obtain⟨x,hx,rfl⟩:=hi
 obtain⟨y,hy,rfl⟩:=hk
 exact h i k x y (List.getElem?_eq_some_iff.1 hx).1 hik hx hy hs
def YU (a b:List Zo) (w:World) (e:Ending) (w':World):Prop :=
 Below w.heap.size w w'∧((e=.returned (.tuple #[.slice none 0 0,.slice none 0 0,.bool false])∧∀ v∈b,GoodV a b v) ∨
  ∃ x y:ZQ,e=.returned (.tuple #[.slice x.A x.h.length x.c,.slice y.A y.h.length y.c,.bool true])∧Zf w' x∧Zf w' y∧ZY a x.h y.h=true∧ZY b x.h y.h=false)
structure SpS (w:World) (A:Option Addr) (n:Nat) (LA:List Qo) (B:Option Addr) (m:Nat) (LB:List Qo) (SA:Option Addr) (s:Nat) (S:List ZQ) (W:World):Prop where
 a:QX W A n LA
 b:QX W B m LB
 s:Jv W SA s S
 w:Below w.heap.size w W
theorem SpS.keep {w:World} {A:Option Addr} {n:Nat} {LA:List Qo} {B:Option Addr} {m:Nat} {LB:List Qo} {SA:Option Addr} {s:Nat} {S:List ZQ} {W W':World} (h:SpS w A n LA B m LB SA s S W) (hb:Below W.heap.size W W'):SpS w A n LA B m LB SA s S W':=⟨h.a.keep hb,h.b.keep hb,h.s.keep hb,Qj h.w hb⟩
theorem vsplit_found {va vb:List Zo} {w:World} {A:Option Addr} {n:Nat} {LA:List Qo} {B:Option Addr} {m:Nat} {LB:List Qo} {SA:Option Addr} {s i k:Nat} {S:List ZQ} {W w':World} {x z:ZQ} {e:Ending} (hS:SpS w A n LA B m LB SA s S W) (hx:S[i]? = some x) (hz:S[k]? = some z) (h1:ZY va x.h z.h=true) (h2:ZY vb x.h z.h=false)
  (he:e=.returned (.tuple #[.slice x.A x.h.length x.c,.slice z.A z.h.length z.c,.bool true])) (hb:RowKit.Below W.heap.size W w'):YU va vb w e w' :=
 ⟨Qj hS.w hb,.inr ⟨x,z,he,(hS.s.each x (List.mem_of_getElem? hx)).keep hb,(hS.s.each z (List.mem_of_getElem? hz)).keep hb,h1,h2⟩⟩
theorem samp_cell {W:World} {b o s i:Nat} {S:List ZQ} {x:ZQ} (h:Jv W (some ⟨b,o,none⟩) s S) (hx:S[i]? = some x):W.cell? ⟨b,o+i,none⟩=some (.slice x.A x.h.length x.c):=by
 obtain⟨_,b',o',he,hc⟩:=h.at_ hx
 injection he with he
 injection he with e1 e2 _
 subst e1;subst e2
 have:=hc 0 _ rfl
 rw[Nat.mul_one,Nat.add_zero]at this
 exact this
theorem vsplit_any (A:Option Addr) (n c:Nat) (LA:List Qo) (B:Option Addr) (m d:Nat) (LB:List Qo) (w:World) (hA:QX w A n LA) (hB:QX w B m LB) (hfa:∀ y∈LA,Xi y.v) (hfb:∀ y∈LB,Xi y.v) (hn:n≤10) (hm:m≤10) (hck:XU LA=0) :
  Calls Tryz.prog 33 #[.slice A n c,.slice B m d] w (YU (LA.map (·.v)) (LB.map (·.v)) w):=by
 have hl:LB.length=m:=hB.len
 have cS:=fun (y:Qo) (hy:y∈LB) (W:World) (hb:Below w.heap.size w W)=>samples_any A n c LA y W (hA.keep hb) hfa hn ((hB.keep hb).each y hy) (hfb y hy) hck
 have cA:=fun (x y:ZQ) (W:World) (ha:QX W A n LA) (hx:Zf W x) (hy:Zf W y)=>Same_any A n c LA x.A x.h.length x.c x.h y.A y.h.length y.c y.h W ha hx.r hy.r hfa hn (by have:=hy.l;omega) (by have:=hx.l;omega)
 have cB:=fun (x y:ZQ) (W:World) (hb:QX W B m LB) (hx:Zf W x) (hy:Zf W y)=>Same_any B m d LB x.A x.h.length x.c x.h y.A y.h.length y.c y.h W hb hx.r hy.r hfb hm (by have:=hy.l;omega) (by have:=hx.l;omega)
 obtain⟨P,hP⟩:∃ P,P=YU (LA.map (·.v)) (LB.map (·.v)) w:=⟨_,rfl⟩
 rw[←hP]
 have HP:=Lib.hid hP
 obtain⟨va,hva⟩:∃ va,va=LA.map (·.v):=⟨_,rfl⟩
 obtain⟨vb,hvb⟩:∃ vb,vb=LB.map (·.v):=⟨_,rfl⟩
 simp only[←hva]at cS cA HP
 simp only[←hvb]at cB HP
 have HVB:=Lib.hid hvb
 have HAR:=Lib.hid hA;have HBR:=Lib.hid hB;have HS:=Lib.hid cS;have HCA:=Lib.hid cA;have HCB:=Lib.hid cB;have HLN:=Lib.hid hl
 clear hP hA hB cS cA cB hl hfa hfb hva hvb
 go_enter Tryz.func33,Tryz.ntmps33
 go_wp2_with fail
 go_loopw [14] (fun iv wr=>∃ j:Nat,j≤m∧iv=.int .i64 j∧Hid (∀ x∈LB.take j,GoodV va vb x.v)∧Below w.heap.size w wr) (fun iv _=>m-(intOf iv).toNat)
 case atStart=>exact⟨0,by omega,rfl,Lib.hid (fun x hx=>by simp at hx),Below.refl _ _⟩
 case round =>
  obtain⟨j,hj,rfl,HG,hbr⟩:=hrel
  obtain⟨wo,rfl⟩:∃ wo:World,wo=wr:=⟨_,rfl⟩
  by_cases hlt:j<m
  ·obtain⟨y,hy⟩:∃ y,LB[j]? = some y:=⟨_,List.getElem?_eq_getElem (by have:=HLN.out;omega)⟩
   have hym:=List.mem_of_getElem? hy
   have hcs:=HS.out y hym
   obtain⟨_,b,o,rfl,hcell⟩:=(HBR.out.keep hbr).at_ hy
   have hld:=Jf wo b (o+j*3) y hcell
   have hone:y.cells.toArray.all (·.oneCell')=true:=by rw[List.all_toArray];rfl
   have hsz2:y.cells.toArray.size=3:=by rw[List.size_toArray,y.cells_len]
   have hi3:(Tryz.prog.info? 98).map (·.size)=some y.cells.toArray.size:=by rw[hsz2];exact infVar
   have hsz:y.cells.toArray.size=(#[.string ⟨#[]⟩,.slice none 0 0,.string ⟨#[]⟩]:Array Value).size:=by rw[hsz2];rfl
   have htk:LB.take (j+1)=LB.take j++[y]:=by rw[List.take_add_one,hy];rfl
   unfold Qo.val at hld hcs
   generalize y.cells.toArray=X at *
   have HLD:=Lib.hid hld;have HCS:=Lib.hid hcs;have HON:=Lib.hid hone;have HXS:=Lib.hid hsz2;have HI3:=Lib.hid hi3;have HSZ:=Lib.hid hsz;have HTK:=Lib.hid htk
   clear hld hcs hone hsz2 hi3 hsz hcell hy hym htk
   have hk0:(0:Int)≤(j:Int):=by omega
   have hk1:(j:Int)<(m:Int):=by omega
   go_upto_region 5 with (first | (refine Qw rfl 98 _ rfl ⟨b,o+j*3,none⟩ (.agg X) rfl HLD.out ?_) | (refine wpList_store_row rfl 98 _ _ rfl wo.heap.size X rfl rfl _ #[.string ⟨#[]⟩,.slice none 0 0,.string ⟨#[]⟩] ((heap_alloc_new wo _).trans rfl) HI3.out HSZ.out.symm HON.out ?_;generalize hw6:World.setRow _ _ _=w6;have B6:Zl w6 wo.heap.size 98 X:=(by rw[←hw6];exact setRow_heap _ _ _ _ _ _ (heap_alloc_new wo _));have hb6:Below wo.heap.size wo w6:=(by rw[←hw6];exact below_setRow ((Below.refl _ _).alloc (Nat.le_refl _) _) (Nat.le_refl _) _);clear hw6) | (refine Qw rfl 98 _ rfl ⟨wo.heap.size,0,none⟩ (.agg X) rfl (B6.vary HXS.out) ?_) | (go_at_call 70;refine (HCS.out _ (Qj hbr hb6)).mono ?_;rintro e w7 ⟨hb7,SA,sc,S,rfl,hsr,hsl,hss⟩))
   obtain⟨s,hs⟩:∃ s,s=S.length:=⟨_,rfl⟩
   have HSS:=Lib.hid hss
   rw[←hs]at hsr hsl ⊢
   have HSL:=Lib.hid hs
   have hS7:SpS w A n LA (some ⟨b,o,none⟩) m LB SA s S w7:=⟨HAR.out.keep (Qj hbr (Qj hb6 hb7)),HBR.out.keep (Qj hbr (Qj hb6 hb7)),hsr,Qj hbr (Qj hb6 hb7)⟩
   have HS7:=Lib.hid hS7
   clear hs hsr hss hS7 hb6 hb7 B6 HLD HON HXS HI3 HSZ HCS hbr
   go_wp2_with fail
   go_loopw [23] (fun iv wr=>∃ i:Nat,i≤s∧iv=.int .i64 i∧Hid (WV va vb S i)∧Hid (SpS w A n LA (some ⟨b,o,none⟩) m LB SA s S wr)) (fun iv _=>s-(intOf iv).toNat)
   case atStart=>exact⟨0,by omega,rfl,Lib.hid (fun i' k g q h=>absurd h (by omega)),HS7⟩
   case round =>
    obtain⟨i,hi,rfl,HPT,HSr⟩:=hrel
    obtain⟨wp,rfl⟩:∃ wp:World,wp=wr:=⟨_,rfl⟩
    by_cases hil:i<s
    ·obtain⟨x,hx⟩:∃ x,S[i]? = some x:=⟨_,List.getElem?_eq_getElem (by have:=HSL.out;omega)⟩
     have HX:=Lib.hid hx
     obtain⟨_,sb,so,rfl,_⟩:=HSr.out.s.at_ hx
     clear hx HS7
     have hi0:(0:Int)≤(i:Int):=by omega
     have hi1:(i:Int)<(s:Int):=by omega
     go_wp2_with fail
     go_loopw [11] (fun iv wr=>∃ k:Nat,i+1≤k∧k≤s∧iv=.int .i64 k∧Hid (UZ va vb S i k)∧Hid (SpS w A n LA (some ⟨b,o,none⟩) m LB (some ⟨sb,so,none⟩) s S wr)) (fun iv _=>s-(intOf iv).toNat)
     case atStart=>exact⟨i+1,by omega,by omega,by go_num,Lib.hid (fun k' g q h1 h2=>absurd h1 (by omega)),HSr⟩
     case round =>
      obtain⟨k,hik,hks,rfl,HPA,HSk⟩:=hrel
      by_cases hkl:k<s
      ·obtain⟨z,hz⟩:∃ z,S[k]? = some z:=⟨_,List.getElem?_eq_getElem (by have:=HSL.out;omega)⟩
       have HZ:=Lib.hid hz
       have hce:∀ W,SpS w A n LA (some ⟨b,o,none⟩) m LB (some ⟨sb,so,none⟩) s S W→W.cell? ⟨sb,so+i,none⟩=some (.slice x.A x.h.length x.c)∧W.cell? ⟨sb,so+k,none⟩=some (.slice z.A z.h.length z.c):=fun W hS=>⟨samp_cell hS.s HX.out,samp_cell hS.s HZ.out⟩
       have hca:=fun W (hS:SpS w A n LA (some ⟨b,o,none⟩) m LB (some ⟨sb,so,none⟩) s S W)=>HCA.out x z W hS.a (hS.s.each x (List.mem_of_getElem? HX.out)) (hS.s.each z (List.mem_of_getElem? HZ.out))
       have hcb:=fun W (hS:SpS w A n LA (some ⟨b,o,none⟩) m LB (some ⟨sb,so,none⟩) s S W)=>HCB.out x z W hS.b (hS.s.each x (List.mem_of_getElem? HX.out)) (hS.s.each z (List.mem_of_getElem? HZ.out))
       have hk0':(0:Int)≤(k:Int):=by omega
       have hk1':(k:Int)<(s:Int):=by omega
       obtain⟨ba,hba⟩:∃ ba,ba=ZY va x.h z.h:=⟨_,rfl⟩
       obtain⟨bb,hbb⟩:∃ bb,bb=ZY vb x.h z.h:=⟨_,rfl⟩
       simp only[←hba]at hca
       simp only[←hbb]at hcb
       have HBA:=Lib.hid hba;have HBB:=Lib.hid hbb;have HCE:=Lib.hid hce;have HC1:=Lib.hid hca;have HC2:=Lib.hid hcb
       clear hz hce hca hcb hba hbb
       cases ba
       ·go_upto_region 11 with fail
        refine Xo 23 (by kernel_rfl) (by kernel_rfl) (by kernel_rfl) (fun q=>[.slice A n c,.slice (some ⟨sb,so,none⟩) s sc,.int .i64 i,.pointer (some ⟨sb,so+i,none⟩),.slice x.A x.h.length x.c,.slice (some ⟨sb,so,none⟩) s sc,.int .i64 k,.pointer (some ⟨sb,so+k,none⟩),.slice z.A z.h.length z.c,.bool false,.bool false,undef,undef,undef,undef,undef,undef,undef,undef,undef,undef,undef,.bool false].getD q undef) (SpS w A n LA (some ⟨b,o,none⟩) m LB (some ⟨sb,so,none⟩) s S) (HSk.out.keep (Below.drew (Below.refl _ _))) (fun _ _ h hb=>h.keep hb) ?_ ?_
        ·simp only[QU,Zj,Act.put]
         refine⟨fun W hS=>?_,fun W hS=>?_,fun W hS=>?_,fun W hS=>?_,fun W hS=>?_,fun W hS=>?_,fun W hS=>?_,fun W hS=>?_,fun W hS=>?_,fun W hS=>?_,fun W hS=>?_,fun W hS=>?_,fun W hS=>?_,fun W hS=>?_,fun W hS=>?_,fun W hS=>?_,fun W hS=>?_,fun W hS=>?_,fun W hS=>?_,fun W hS=>?_,fun W hS=>?_,fun W hS=>?_,fun W hS=>?_,trivial⟩
         all_goals
          obtain⟨e1,e2⟩:=HCE.out W hS
          go_wp2_with (go_at_call 71;refine (HC1.out _ hS).mono ?_;rintro e w2 ⟨rfl,hb2⟩)
          exact⟨rfl,rfl,Qz⟩
        intro w9 hS9
        have HS9:=Lib.hid hS9
        have hpa:UZ va vb S i (k+1):=HPA.out.succ HX.out HZ.out (fun h=>by rw[←HBA.out]at h;cases h)
        have HPA2:=Lib.hid hpa
        clear hS9 hpa
        simp only[QU,Zj,Act.put]
        go_wp2
        exact⟨⟨k+1,by omega,by omega,by go_num,HPA2,HS9⟩,by simp[intOf];omega⟩
       ·go_upto_region 11 with fail
        refine Xo 23 (by kernel_rfl) (by kernel_rfl) (by kernel_rfl) (fun q=>[.slice A n c,.slice (some ⟨sb,so,none⟩) s sc,.int .i64 i,.pointer (some ⟨sb,so+i,none⟩),.slice x.A x.h.length x.c,.slice (some ⟨sb,so,none⟩) s sc,.int .i64 k,.pointer (some ⟨sb,so+k,none⟩),.slice z.A z.h.length z.c,.bool true,.bool true,.slice (some ⟨b,o,none⟩) m d,.slice (some ⟨sb,so,none⟩) s sc,.int .i64 i,.pointer (some ⟨sb,so+i,none⟩),.slice x.A x.h.length x.c,.slice (some ⟨sb,so,none⟩) s sc,.int .i64 k,.pointer (some ⟨sb,so+k,none⟩),.slice z.A z.h.length z.c,.bool bb,.bool (!bb),.bool (!bb)].getD q undef) (SpS w A n LA (some ⟨b,o,none⟩) m LB (some ⟨sb,so,none⟩) s S) (HSk.out.keep (Below.drew (Below.refl _ _))) (fun _ _ h hb=>h.keep hb) ?_ ?_
        ·simp only[QU,Zj,Act.put]
         refine⟨fun W hS=>?_,fun W hS=>?_,fun W hS=>?_,fun W hS=>?_,fun W hS=>?_,fun W hS=>?_,fun W hS=>?_,fun W hS=>?_,fun W hS=>?_,fun W hS=>?_,fun W hS=>?_,fun W hS=>?_,fun W hS=>?_,fun W hS=>?_,fun W hS=>?_,fun W hS=>?_,fun W hS=>?_,fun W hS=>?_,fun W hS=>?_,fun W hS=>?_,fun W hS=>?_,fun W hS=>?_,fun W hS=>?_,trivial⟩
         rotate_left 9
         ·go_wp2_with (go_at_call 71;refine (HC1.out _ hS).mono ?_;rintro e w2 ⟨rfl,hb2⟩)
          exact⟨rfl,rfl,Qz⟩
         rotate_left 10
         ·go_wp2_with (go_at_call 71;refine (HC2.out _ hS).mono ?_;rintro e w2 ⟨rfl,hb2⟩)
          exact⟨rfl,rfl,Qz⟩
         all_goals
          obtain⟨e1,e2⟩:=HCE.out W hS
          go_wp2
          exact⟨rfl,rfl,Qz⟩
        intro w9 hS9
        have HS9:=Lib.hid hS9
        cases bb
        ·obtain⟨e1,e2⟩:=HCE.out w9 hS9
         have hw9:=hS9.w
         clear hS9
         simp only[QU,Zj,Act.put]
         go_upto_region 12 with fail
         have r1:=cell_regrown e1
         have r2:=cell_regrown e2
         go_quiet (fail)
         go_wp2
         go_ret3
         rw[HP.out]
         exact vsplit_found HS9.out HX.out HZ.out HBA.out.symm HBB.out.symm rfl Qz
        ·have hpa:UZ va vb S i (k+1):=HPA.out.succ HX.out HZ.out (fun _=>HBB.out.symm)
         have HPA2:=Lib.hid hpa
         clear hS9 hpa
         simp only[QU,Zj,Act.put]
         go_wp2
         exact⟨⟨k+1,by omega,by omega,by go_num,HPA2,HS9⟩,by simp[intOf];omega⟩
      ·obtain rfl:k=s:=by omega
       have hpt:WV va vb S (i+1):=HPT.out.succ (by rw[←HSL.out];exact HPA.out)
       have HPT2:=Lib.hid hpt
       clear hpt
       go_wp2_with fail
       exact⟨⟨i+1,by omega,by go_num,HPT2,HSk⟩,by simp[intOf];omega⟩
    ·obtain rfl:i=s:=by omega
     have hgd:∀ u∈LB.take (j+1),GoodV va vb u.v:=by
      intro u hu
      rw[HTK.out]at hu
      rcases List.mem_append.1 hu with hu | hu
      ·exact HG.out u hu
      ·rw[List.mem_singleton.1 hu]
       exact good_of HSS.out (by rw[←HSL.out];exact HPT.out)
     have HG2:=Lib.hid hgd
     have hwr:=HSr.out.w
     clear hgd
     go_wp2_with fail
     exact⟨⟨j+1,by omega,by go_num,HG2,hwr⟩,by simp[intOf];omega⟩
  ·obtain rfl:j=m:=by omega
   have hgd:=HG.out
   rw[List.take_of_length_le (by have:=HLN.out;omega)]at hgd
   have hgv:∀ v∈vb,GoodV va vb v:=by
    rw[HVB.out]
    intro v hv
    obtain⟨u,hu,rfl⟩:=List.mem_map.1 hv
    have:=hgd u hu
    rw[HVB.out]at this
    exact this
   have HGV:=Lib.hid hgv
   clear hgd hgv HG
   go_wp2_with fail
   go_ret3
   rw[HP.out]
   exact⟨hbr,.inl ⟨rfl,HGV.out⟩⟩
def Yt (L:List Qh) (i k:Int):Bool:=Xp L&&(decide (0≤i)&&(decide (i<k)&&decide (k<(L.length:Int))))
def ClRes (L:List Qh) (i k:Int) (s:ByteArray) (is:Bool) (er:Int):Prop :=
 (Yt L i k=false∧s=⟨#[]⟩∧is=false∧er=1) ∨
 (Yt L i k=true∧er=0∧∃ x y px py,L[i.toNat]? = some x∧L[k.toNat]? = some y∧Qx x.r.pat=some px∧Qx y.r.pat=some py∧is=(QK px py).isSome∧(is=true→Zk x.r.pat s=true∧Zk y.r.pat s=true∧s.size≤10000)∧(is=false→s=⟨#[]⟩))
theorem meet_res {p q:ByteArray} {px py:Z7} (hx:Qx p=some px) (hy:Qx q=some py):∃ s,meetV (Js p q)=.tuple #[.bool (QK px py).isSome,.string s,.int .i64 0]∧((QK px py).isSome=true→Zk p s=true∧Zk q s=true∧s.size≤10000)∧((QK px py).isSome=false→s=⟨#[]⟩):=by
 rw[bothP_eq hx hy]
 cases hz:QK px py with
 | none=>exact⟨⟨#[]⟩,rfl,(fun h=>(by cases h)),fun _=>rfl⟩
 | some z =>
  obtain⟨h1,h2⟩:=clash_yes hx hy hz
  exact⟨Vy z,rfl,fun _=>⟨h1,h2,matched_size h1⟩,(fun h=>(by cases h))⟩
theorem clash_any (A:Option Addr) (n c:Nat) (i k:Int) (L:List Qh) (w:World) (hL:Qs w A n L) (hf:∀ x∈L,Zw x.r) (hc:∀ x∈L,Jk x) (hn:n≤1000) (hE:Env w) :
  Calls Tryz.prog 11 #[.slice A n c,.int .i64 i,.int .i64 k] w fun e w'=>∃ s is er,e=.returned (.tuple #[.string s,.bool is,.int .i64 er])∧ClRes L i k s is er∧Below w.heap.size w w':=by
 have hlen:=hL.len
 have cV:=WQ A n c L w hL hf hc (by omega) hE
 have hbad:Yt L i k=false→ClRes L i k ⟨#[]⟩ false 1:=fun h=>.inl ⟨h,rfl,rfl,rfl⟩
 have HBAD:=Lib.hid hbad
 clear hbad
 cases hv:Xp L
 ·have hs:=HBAD.out (by unfold Yt;rw[hv];rfl)
  rw[hv]at cV
  have HV:=Lib.hid cV;have HS:=Lib.hid hs
  clear cV hs hv HBAD hL hf hc hE hlen
  go_enter Tryz.func11,Tryz.ntmps11
  go_wp2_with (go_at_call 27;refine HV.out.mono ?_;rintro e w2 ⟨rfl,hb2⟩)
  go_ret3
  exact⟨_,_,_,rfl,HS.out,hb2⟩
 rw[hv]at cV
 have HV:=Lib.hid cV
 clear cV
 by_cases hi0:i<0
 ·have hs:=HBAD.out (by unfold Yt;rw[hv,decide_eq_false (by omega:¬ (0:Int)≤i)];rfl)
  have d0:decide (i<0)=true:=decide_eq_true hi0
  have HS:=Lib.hid hs
  clear hs hv HBAD hL hf hc hE hlen
  go_enter Tryz.func11,Tryz.ntmps11
  go_wp2_with (go_at_call 27;refine HV.out.mono ?_;rintro e w2 ⟨rfl,hb2⟩)
  go_ret3
  exact⟨_,_,_,rfl,HS.out,hb2⟩
 have d0:decide (i<0)=false:=decide_eq_false hi0
 by_cases hik:k≤i
 ·have hs:=HBAD.out (by unfold Yt;rw[hv,decide_eq_true (by omega:(0:Int)≤i),decide_eq_false (by omega:¬ i<k)];rfl)
  have d1:decide (k≤i)=true:=decide_eq_true hik
  have HS:=Lib.hid hs
  clear hs hv HBAD hL hf hc hE hlen
  go_enter Tryz.func11,Tryz.ntmps11
  go_wp2_with (go_at_call 27;refine HV.out.mono ?_;rintro e w2 ⟨rfl,hb2⟩)
  go_ret3
  exact⟨_,_,_,rfl,HS.out,hb2⟩
 have d1:decide (k≤i)=false:=decide_eq_false hik
 by_cases hkn:(n:Int)≤k
 ·have hs:=HBAD.out (by unfold Yt;rw[hv,decide_eq_true (by omega:(0:Int)≤i),decide_eq_true (by omega:i<k),decide_eq_false (by omega:¬ k<(L.length:Int))];rfl)
  have d2:decide ((n:Int)≤k)=true:=decide_eq_true hkn
  have HS:=Lib.hid hs
  clear hs hv HBAD hL hf hc hE hlen
  go_enter Tryz.func11,Tryz.ntmps11
  go_wp2_with (go_at_call 27;refine HV.out.mono ?_;rintro e w2 ⟨rfl,hb2⟩)
  go_ret3
  exact⟨_,_,_,rfl,HS.out,hb2⟩
 have d2:decide ((n:Int)≤k)=false:=decide_eq_false hkn
 have hok:Yt L i k=true:=by unfold Yt;rw[hv,decide_eq_true (by omega:(0:Int)≤i),decide_eq_true (by omega:i<k),decide_eq_true (by omega:k<(L.length:Int))];rfl
 obtain⟨a,rfl⟩:∃ a:Nat,i=(a:Int):=⟨i.toNat,by omega⟩
 obtain⟨b,rfl⟩:∃ b:Nat,k=(b:Int):=⟨k.toNat,by omega⟩
 obtain⟨x,hx⟩:∃ x,L[a]? = some x:=⟨_,List.getElem?_eq_getElem (by omega)⟩
 obtain⟨y,hy⟩:∃ y,L[b]? = some y:=⟨_,List.getElem?_eq_getElem (by omega)⟩
 have hxm:=List.mem_of_getElem? hx
 have hym:=List.mem_of_getElem? hy
 obtain⟨px,hpx⟩:=Option.isSome_iff_exists.1 (Uu hv hxm).1.pat
 obtain⟨py,hpy⟩:=Option.isSome_iff_exists.1 (Uu hv hym).1.pat
 obtain⟨s,hms,hs1,hs2⟩:=meet_res hpx hpy
 have cM:=fun (W:World) (hb:Below w.heap.size w W)=>addrMeet_any x.r.pat y.r.pat W (by have:=(hf x hxm).pat;omega) (by have:=(hf y hym).pat;omega) (hE.keep hb)
 rw[hms]at cM
 have hres:ClRes L (a:Int) (b:Int) s (QK px py).isSome 0:=.inr ⟨hok,rfl,x,y,px,py,by rw[Int.toNat_natCast];exact hx,by rw[Int.toNat_natCast];exact hy,hpx,hpy,rfl,hs1,hs2⟩
 obtain⟨_,pb,po,rfl,hcx⟩:=hL.at_ hx
 obtain⟨_,pb',po',he,hcy⟩:=hL.at_ hy
 injection he with he
 injection he with e1 e2 _
 subst e1;subst e2
 have c1:w.cell? ⟨pb,po+a*18+1,none⟩=some (.string x.r.pat):=hcx 1 _ rfl
 have c2:w.cell? ⟨pb,po+b*18+1,none⟩=some (.string y.r.pat):=hcy 1 _ rfl
 generalize (QK px py).isSome=is at *
 have HM:=Lib.hid cM;have HR:=Lib.hid hres;have HC1:=Lib.hid c1;have HC2:=Lib.hid c2
 clear cM hres c1 c2 hcx hcy hs1 hs2 hms hpx hpy hx hy hxm hym hok hv HBAD hL hf hc hE
 have hi1:(0:Int)≤(a:Int):=by omega
 have hi2:(a:Int)<(n:Int):=by omega
 have hk1:(0:Int)≤(b:Int):=by omega
 have hk2:(b:Int)<(n:Int):=by omega
 go_enter Tryz.func11,Tryz.ntmps11
 go_upto_region 3 with (go_at_call 27;refine HV.out.mono ?_;rintro e w2 ⟨rfl,hb2⟩)
 have y1:=Qq hb2 HC1.out
 have y2:=Qq hb2 HC2.out
 go_region_held3 (fun w'=>w'.cell? ⟨pb,po+a*18+1,none⟩=some (.string x.r.pat)∧w'.cell? ⟨pb,po+b*18+1,none⟩=some (.string y.r.pat)∧RowKit.Below w.heap.size w w')
  (first | exact⟨y1,y2,Below.drew hb2⟩ | (go_split_ands;exact⟨Qq hb4 ‹_›,Qq hb4 ‹_›,Qj ‹_› hb4⟩))
  (first | (go_at_call 32;go_split_ands;refine (HM.out _ ‹_›).mono ?_;rintro e w4 ⟨rfl,hb4⟩))
 all_goals go_wp2_with fail
 all_goals go_ret3
 all_goals exact⟨_,_,_,rfl,HR.out,by go_split_ands;assumption⟩
def ShdRes (L:List Qh) (i k:Int) (w':World) (s:ByteArray) (g h:ZQ) (is:Bool) (er:Int):Prop :=
 ∃ s1 is1 er1,ClRes L i k s1 is1 er1∧((is1=false∧is=false∧er=er1)∨(is1=true∧er=0∧∃ x y,L[i.toNat]? = some x∧L[k.toNat]? = some y ∧
  ((is=false∧∀ v∈y.L.map (·.v),GoodV (x.L.map (·.v)) (y.L.map (·.v)) v)∨(is=true∧s=s1∧Zf w' g∧Zf w' h∧ZY (x.L.map (·.v)) g.h h.h=true∧ZY (y.L.map (·.v)) g.h h.h=false))))
def SplR (a b:List Zo) (g h:ZQ) (is:Bool) (W:World):Prop:=(is=false∧∀ v∈b,GoodV a b v)∨(is=true∧Zf W g∧Zf W h∧ZY a g.h h.h=true∧ZY b g.h h.h=false)
theorem split_v {a b:List Zo} {w:World} {e:Ending} {w':World} (h:YU a b w e w'):∃ g h is,e=.returned (.tuple #[.slice g.A g.h.length g.c,.slice h.A h.h.length h.c,.bool is])∧SplR a b g h is w'∧Below w.heap.size w w':=by
 obtain⟨hb,⟨rfl,h⟩ | ⟨x,y,rfl,h⟩⟩:=h
 ·exact⟨⟨[],none,0⟩,⟨[],none,0⟩,false,rfl,.inl ⟨rfl,h⟩,hb⟩
 ·exact⟨x,y,true,rfl,.inr ⟨rfl,h⟩,hb⟩
theorem cl_at {L:List Qh} {i k:Int} {s:ByteArray} {er:Int} (h:ClRes L i k s true er):er=0∧Xp L=true∧∃ (a b:Nat) (x y:Qh),i=(a:Int)∧k=(b:Int)∧a<b∧L[a]? = some x∧L[b]? = some y:=by
 rcases h with ⟨_,_,h,_⟩ | ⟨h0,h1,x,y,_,_,h2,h3,_⟩
 ·cases h
 ·unfold Yt at h0
  simp only[Bool.and_eq_true,decide_eq_true_eq]at h0
  exact⟨h1,h0.1,i.toNat,k.toNat,x,y,by omega,by omega,by omega,h2,h3⟩
theorem shared_any (A:Option Addr) (n c:Nat) (i k:Int) (L:List Qh) (w:World) (hL:Qs w A n L) (hf:∀ x∈L,Zw x.r) (hc:∀ x∈L,Jk x) (hn:n≤1000) (hE:Env w) :
  Calls Tryz.prog 12 #[.slice A n c,.int .i64 i,.int .i64 k] w fun e w'=>∃ s g h is er,e=.returned (.tuple #[.string s,.slice g.A g.h.length g.c,.slice h.A h.h.length h.c,.bool is,.int .i64 er])∧ShdRes L i k w' s g h is er∧s.size≤10000∧Below w.heap.size w w':=by
 have cC:=clash_any A n c i k L w hL hf hc hn hE
 have HL:=Lib.hid hL;have HF:=Lib.hid hf
 have HC:=Lib.hid cC
 clear cC hL hf hc hE
 go_enter Tryz.func12,Tryz.ntmps12
 go_upto_if 25 with (go_at_call 11;refine HC.out.mono ?_;rintro e w2 ⟨s,is,er,rfl,hcl,hb2⟩;have HCL:=Lib.hid hcl;clear hcl)
 cases is
 ·go_wp2_with fail
  exact bodyPost_ret (v:=.tuple #[.string ⟨#[]⟩,.slice none 0 0,.slice none 0 0,.bool false,.int .i64 er]) (by simp[results,Tryz.results12,go_sem]) rfl ⟨⟨#[]⟩,⟨[],none,0⟩,⟨[],none,0⟩,false,er,rfl,⟨s,false,er,HCL.out,.inl ⟨rfl,rfl,rfl⟩⟩,by decide,hb2⟩
 ·obtain⟨rfl,hv,a,b,x,y,rfl,rfl,hab,hx,hy⟩:=cl_at HCL.out
  have hsz:s.size≤10000:=by
   rcases HCL.out with ⟨_,_,h,_⟩ | ⟨_,_,_,_,_,_,_,_,_,_,_,h,_⟩
   ·cases h
   ·exact (h rfl).2.2
  have hxm:=List.mem_of_getElem? hx
  have hym:=List.mem_of_getElem? hy
  have hlen:=HL.out.len
  have hbn:b<n:=by have:=(List.getElem?_eq_some_iff.1 hy).1;omega
  have cS:=fun (W:World) (hb:Below w.heap.size w W)=>vsplit_any x.V x.r.vary.length x.cv x.L y.V y.r.vary.length y.cv y.L W (((HL.out.each x hxm).keep hb).varys) (((HL.out.each y hym).keep hb).varys) (fits_at (HL.out.each x hxm) (HF.out x hxm)) (fits_at (HL.out.each y hym) (HF.out y hym)) (HF.out x hxm).nv (HF.out y hym).nv (Uu hv hxm).2
  obtain⟨_,pb,po,rfl,hcx⟩:=HL.out.at_ hx
  obtain⟨_,pb',po',he,hcy⟩:=HL.out.at_ hy
  injection he with he
  injection he with e1 e2 _
  subst e1;subst e2
  have c1:w.cell? ⟨pb,po+a*18+7,none⟩=some (.slice x.V x.r.vary.length x.cv):=hcx 7 _ rfl
  have c2:w.cell? ⟨pb,po+b*18+7,none⟩=some (.slice y.V y.r.vary.length y.cv):=hcy 7 _ rfl
  have hx2:L[((a:Nat):Int).toNat]? = some x:=by rw[Int.toNat_natCast];exact hx
  have hy2:L[((b:Nat):Int).toNat]? = some y:=by rw[Int.toNat_natCast];exact hy
  have HS:=Lib.hid cS;have HC1:=Lib.hid c1;have HC2:=Lib.hid c2;have HX:=Lib.hid hx2;have HY:=Lib.hid hy2
  clear cS c1 c2 hcx hcy hx hy hx2 hy2 hxm hym hv HL HF
  have hi1:(0:Int)≤(a:Int):=by omega
  have hi2:(a:Int)<(n:Int):=by omega
  have hk1:(0:Int)≤(b:Int):=by omega
  have hk2:(b:Int)<(n:Int):=by omega
  go_upto_region 4 with fail
  have y1:=Qq hb2 HC1.out
  have y2:=Qq hb2 HC2.out
  go_region_held3 (fun w'=>w'.cell? ⟨pb,po+a*18+7,none⟩=some (.slice x.V x.r.vary.length x.cv)∧w'.cell? ⟨pb,po+b*18+7,none⟩=some (.slice y.V y.r.vary.length y.cv)∧RowKit.Below w.heap.size w w')
   (first | exact⟨y1,y2,Below.drew hb2⟩ | (go_split_ands;exact⟨Qq hb4 ‹_›,Qq hb4 ‹_›,Qj ‹_› hb4⟩))
   (first | (go_at_call 33;go_split_ands;refine (HS.out _ ‹_›).mono ?_;intro e w4 h3;obtain⟨g,h,is,rfl,hv3,hb4⟩:=split_v h3;clear h3;have HG:=Lib.hid hv3;clear hv3))
  all_goals
   cases is
   ·go_wp2_with fail
    exact bodyPost_ret (v:=.tuple #[.string ⟨#[]⟩,.slice none 0 0,.slice none 0 0,.bool false,.int .i64 0]) (by simp[results,Tryz.results12,go_sem]) rfl ⟨⟨#[]⟩,⟨[],none,0⟩,⟨[],none,0⟩,false,0,rfl,⟨s,true,0,HCL.out,.inr ⟨rfl,rfl,x,y,HX.out,HY.out,.inl ⟨rfl,(HG.out.resolve_right (fun h=>(by cases h.1))).2⟩⟩⟩,by decide,by go_split_ands;assumption⟩
   ·go_wp2_with fail
    exact bodyPost_ret (v:=.tuple #[.string s,.slice g.A g.h.length g.c,.slice h.A h.h.length h.c,.bool true,.int .i64 0]) (by simp[results,Tryz.results12,go_sem]) rfl ⟨s,g,h,true,0,rfl,⟨s,true,0,HCL.out,.inr ⟨rfl,rfl,x,y,HX.out,HY.out,.inr ⟨rfl,rfl,(HG.out.resolve_left (fun h=>(by cases h.1))).2⟩⟩⟩,hsz,by go_split_ands;assumption⟩
end Go.Proofs.YticlbkficolocaaGreatDoor
