/- What 'both', 'Meet' and 'Both' return. -/
import Derived.Test.YticlbkficolocaaGreatDoorIZ16
set_option maxHeartbeats 4000000
namespace Go.Proofs.YticlbkficolocaaGreatDoor
open Go.RowKit Go.Sort
set_option linter.unusedVariables false
set_option linter.unusedSimpArgs false
set_option maxRecDepth 100000
def Js (p q:ByteArray):Option (Option Z7):=match Qx p,Qx q with
 | some x,some y=>some (QK x y)
 | _,_=>none
def Um (r:Option (Option Z7)) (w:World) (e:Ending) (w':World):Prop :=
 Below w.heap.size w w'∧match r with
 | none=>∃ (k:Nat) (t:ByteArray) (A:Option Addr) (n c:Nat) (b:Bool),e=.returned (.tuple #[.agg #[.int .i64 k,.string t,.slice A n c,.bool b],.bool false,.int .i64 1])
 | some none=>∃ (k:Nat) (t:ByteArray) (A:Option Addr) (n c:Nat) (b:Bool),e=.returned (.tuple #[.agg #[.int .i64 k,.string t,.slice A n c,.bool b],.bool false,.int .i64 0])
 | some (some p)=>∃ A c,e=.returned (.tuple #[.agg #[.int .i64 p.cust.kind,.string p.cust.text,.slice A p.parts.length c,.bool p.tail],.bool true,.int .i64 0])∧Reads w' 2 A p.parts.length (QZ p.parts)
theorem mtL_good:∀ (xs ys acc r:List Part),UQ xs→UQ ys→UQ acc→mtL acc xs ys=some r→UQ r∧r.length=acc.length+xs.length
 | [],ys,acc,r,_,_,h,e=>by
  have:mtL acc [] ys=some acc:=by cases ys <;> rfl
  rw[this]at e;injection e with e;subst e;exact⟨h,by simp⟩
 | a :: xs,[],acc,r,hx,hy,h,e=>by
  rw[mtL]at e
  have:=mtL_good xs [] (acc++[a]) r (fun p hp=>hx p (by simp[hp])) hy (fun p hp=>by
   rcases List.mem_append.1 hp with hp | hp
   ·exact h p hp
   ·rw[List.mem_singleton.1 hp];exact hx a (by simp)) e
  exact⟨this.1,by rw[this.2];simp;omega⟩
 | a :: xs,b :: ys,acc,r,hx,hy,h,e=>by
  rw[mtL]at e
  split at e
  ·have ha:=hx a (by simp)
   have hb:=hy b (by simp)
   have:=mtL_good xs ys (acc++[X7 a b]) r (fun p hp=>hx p (by simp[hp])) (fun p hp=>hy p (by simp[hp])) (fun p hp=>by
    rcases List.mem_append.1 hp with hp | hp
    ·exact h p hp
    ·rw[List.mem_singleton.1 hp];exact meetP_ok ha.1 hb.1 ha.2 hb.2) e
   exact⟨this.1,by rw[this.2];simp;omega⟩
  ·cases e
theorem commonO_good {x y z:Z7} (hx:Kt x) (hy:Kt y) (h:Jd x y=some z):Kt z:=by
 unfold Jd at h
 split at h
 ·cases h
 ·obtain⟨l,hl,rfl⟩:=Option.map_eq_some_iff.1 h
  have:=mtL_good _ _ [] l hx.parts hy.parts (fun p hp=>by cases hp) hl
  have hm:=meetP_ok hx.kind hy.kind hx.text hy.text
  have hn:=hx.num
  exact⟨hm.1,hm.2,this.1,by show l.length≤32;rw[this.2];simpa using hn⟩
theorem commonP_good {x y z:Z7} (hx:Kt x) (hy:Kt y) (h:QK x y=some z):Kt z:=by
 unfold QK at h
 split at h
 ·exact commonO_good hy hx h
 ·exact commonO_good hx hy h
theorem bothP_good {p q:ByteArray} {z:Z7} (hp:p.size≤100000) (hq:q.size≤100000) (h:Js p q=some (some z)):Kt z:=by
 unfold Js at h
 cases h1:Qx p with
 | none=>rw[h1]at h;cases h
 | some x =>
  cases h2:Qx q with
  | none=>rw[h1,h2]at h;cases h
  | some y =>
   rw[h1,h2]at h
   injection h with h
   exact commonP_good (X6 p hp x h1) (X6 q hq y h2) h
theorem compPost_any {r:Option Z7} {w w':World} {e:Ending} (h:XK r w e w'):Below w.heap.size w w'∧∃ (k:Nat) (t:ByteArray) (A:Option Addr) (n c:Nat) (b:Bool),e=.returned (.tuple #[.agg #[.int .i64 k,.string t,.slice A n c,.bool b],.bool r.isSome]):=by
 refine⟨h.1,?_⟩
 cases r with
 | none=>obtain⟨_,k,t,A,n,c,b,rfl⟩:=h;exact⟨k,t,A,n,c,b,rfl⟩
 | some p=>obtain⟨_,A,c,rfl,_⟩:=h;exact⟨_,_,_,_,_,_,rfl⟩
theorem Um.none_ {w w':World} (k:Nat) (t:ByteArray) (A:Option Addr) (n c:Nat) (b:Bool) (hb:Below w.heap.size w w'):Um none w (.returned (.tuple #[.agg #[.int .i64 k,.string t,.slice A n c,.bool b],.bool false,.int .i64 1])) w':=⟨hb,k,t,A,n,c,b,rfl⟩
theorem both_any (p q:ByteArray) (w:World) (hp:p.size≤100000) (hq:q.size≤100000) (hE:Env w):Calls Tryz.prog 63 #[.string p,.string q] w (Um (Js p q) w):=by
 have c1:=fun W h=>WJ p W hp h
 have c2:=fun W h=>WJ q W hq h
 have g1:=X6 p hp
 have g2:=X6 q hq
 unfold Js
 generalize Qx p=r1 at *
 generalize Qx q=r2 at *
 have hbad:r1.isSome=false∨r2.isSome=false→Calls Tryz.prog 63 #[.string p,.string q] w (Um none w):=by
  intro hbad
  have H1:=Lib.hid (fun W h=>(c1 W h).mono fun e w' k=>compPost_any k)
  have H2:=Lib.hid (fun W h=>(c2 W h).mono fun e w' k=>compPost_any k)
  clear c1 c2 g1 g2
  generalize r1.isSome=o1 at *
  generalize r2.isSome=o2 at *
  clear r1 r2
  cases o1
  ·clear hbad
   go_enter Tryz.func63,Tryz.ntmps63
   go_wp2_with (first | (go_at_call 45;refine (H1.out _ (Env.keep hE (Qk (Below.refl _ _) _))).mono ?_;rintro e w1 ⟨hb1,k1,t1,A1,n1,d1,b1,rfl⟩;have hE1:=Env.keep hE (Za _ hb1);have hB1:Z4 w1 w.heap.size 0 ⟨#[]⟩ (.slice none 0 0) false:=(hb1.block w.heap.size (by simp)).trans (World.alloc_heap_new _ _);clear hE) | (go_at_call 45;refine (H2.out _ (Env.keep hE1 (Qk (Below.refl _ _) _))).mono ?_;rintro e w2 ⟨hb2,k2,t2,A2,n2,d2,b2,rfl⟩;have hB2:Z4 w2 w.heap.size 0 ⟨#[]⟩ (.slice none 0 0) false:=Qv.keep hB1 (Za _ hb2);have hbw2:Below w.heap.size w w2:=Qj (Za _ hb1) (Za _ hb2);obtain⟨c0,c1,c2,c3,f0,f1,f2,f3⟩:=hB2.facts;have hz2:w.heap.size<w2.heap.size:=Qv.lt hB2;clear hE1))
   exact bodyPost_ret (v:=.tuple #[.agg #[.int .i64 0,.string ⟨#[]⟩,.slice none 0 0,.bool false],.bool false,.int .i64 1]) (by simp[results,Tryz.results63,go_sem,hz2,c0,c1,c2,c3,f0,f1,f2,f3]) rfl (Um.none_ _ _ _ _ _ _ Qz)
  ·obtain rfl:o2=false:=by simpa using hbad
   clear hbad
   go_enter Tryz.func63,Tryz.ntmps63
   go_wp2_with (first | (go_at_call 45;refine (H1.out _ (Env.keep hE (Qk (Below.refl _ _) _))).mono ?_;rintro e w1 ⟨hb1,k1,t1,A1,n1,d1,b1,rfl⟩;have hE1:=Env.keep hE (Za _ hb1);have hB1:Z4 w1 w.heap.size 0 ⟨#[]⟩ (.slice none 0 0) false:=(hb1.block w.heap.size (by simp)).trans (World.alloc_heap_new _ _);clear hE) | (go_at_call 45;refine (H2.out _ (Env.keep hE1 (Qk (Below.refl _ _) _))).mono ?_;rintro e w2 ⟨hb2,k2,t2,A2,n2,d2,b2,rfl⟩;have hB2:Z4 w2 w.heap.size 0 ⟨#[]⟩ (.slice none 0 0) false:=Qv.keep hB1 (Za _ hb2);have hbw2:Below w.heap.size w w2:=Qj (Za _ hb1) (Za _ hb2);obtain⟨c0,c1,c2,c3,f0,f1,f2,f3⟩:=hB2.facts;have hz2:w.heap.size<w2.heap.size:=Qv.lt hB2;clear hE1))
   exact bodyPost_ret (v:=.tuple #[.agg #[.int .i64 0,.string ⟨#[]⟩,.slice none 0 0,.bool false],.bool false,.int .i64 1]) (by simp[results,Tryz.results63,go_sem,hz2,c0,c1,c2,c3,f0,f1,f2,f3]) rfl (Um.none_ _ _ _ _ _ _ Qz)
 cases r1 with
 | none=>exact hbad (.inl rfl)
 | some x =>
  cases r2 with
  | none=>exact hbad (.inr rfl)
  | some y =>
   clear hbad
   have cC:=fun A B ca cb W hA hB=>common_any x y A B ca cb W hA hB (g1 x rfl) (g2 y rfl)
   clear g1 g2
   dsimp only
   generalize QK x y=R at *
   obtain⟨⟨xk,xt⟩,xs,xl⟩:=x
   obtain⟨⟨yk,yt⟩,ys,yl⟩:=y
   unfold patV at cC
   dsimp only at cC
   have H1:=Lib.hid c1
   have H2:=Lib.hid c2
   have HC:=Lib.hid cC
   clear c1 c2 cC
   unfold XK at H1 H2
   dsimp only at H1 H2
   cases R with
   | none =>
    go_enter Tryz.func63,Tryz.ntmps63
    go_wp2_with (first | (go_at_call 45;refine (H1.out _ (Env.keep hE (Qk (Below.refl _ _) _))).mono ?_;rintro e w1 ⟨hb1,A1,d1,rfl,hR1,_⟩;have hE1:=Env.keep hE (Za _ hb1);have hB1:Z4 w1 w.heap.size 0 ⟨#[]⟩ (.slice none 0 0) false:=(hb1.block w.heap.size (by simp)).trans (World.alloc_heap_new _ _);have HR1:=Lib.hid hR1;clear hE hR1) | (go_at_call 45;refine (H2.out _ (Env.keep hE1 (Qk (Below.refl _ _) _))).mono ?_;rintro e w2 ⟨hb2,A2,d2,rfl,hR2,_⟩;have hB2:Z4 w2 w.heap.size 0 ⟨#[]⟩ (.slice none 0 0) false:=Qv.keep hB1 (Za _ hb2);have hbw2:Below w.heap.size w w2:=Qj (Za _ hb1) (Za _ hb2);have hX2:Z4 w2 w1.heap.size xk xt (.slice A1 xs.length d1) xl:=(hb2.block w1.heap.size (by simp)).trans (World.alloc_heap_new _ _);obtain⟨x0,x1,x2,x3,_⟩:=hX2.facts;have hz12:w1.heap.size<w2.heap.size:=Qv.lt hX2;have HR2:=Lib.hid hR2;have HR1':=Lib.hid (HR1.out.keep (Za _ hb2));clear hE1 hR2 HR1) | (go_at_call 125;refine (HC.out _ _ _ _ _ (HR1'.out.keep (Qk (Below.refl _ _) _)) (HR2.out.keep (Qk (Below.refl _ _) _))).mono ?_;rintro e w3 ⟨hb3,k,t,A,n,c,b,rfl⟩;have hB3:Z4 w3 w.heap.size 0 ⟨#[]⟩ (.slice none 0 0) false:=Qv.keep hB2 (Za _ hb3);obtain⟨c0,c1,c2,c3,f0,f1,f2,f3⟩:=hB3.facts;have hz3:w.heap.size<w3.heap.size:=Qv.lt hB3;have hbw3:Below w.heap.size w w3:=Qj hbw2 (Za _ hb3);clear x0 x1 x2 x3))
    exact bodyPost_ret (v:=.tuple #[.agg #[.int .i64 k,.string t,.slice A n c,.bool b],.bool false,.int .i64 0]) (by simp[results,Tryz.results63,go_sem,hz3,c0,c1,c2,c3,f0,f1,f2,f3]) rfl ⟨Qz,k,t,A,n,c,b,rfl⟩
   | some z =>
    obtain⟨⟨zk,zt⟩,zs,zl⟩:=z
    go_enter Tryz.func63,Tryz.ntmps63
    go_wp2_with (first | (go_at_call 45;refine (H1.out _ (Env.keep hE (Qk (Below.refl _ _) _))).mono ?_;rintro e w1 ⟨hb1,A1,d1,rfl,hR1,_⟩;have hE1:=Env.keep hE (Za _ hb1);have hB1:Z4 w1 w.heap.size 0 ⟨#[]⟩ (.slice none 0 0) false:=(hb1.block w.heap.size (by simp)).trans (World.alloc_heap_new _ _);have HR1:=Lib.hid hR1;clear hE hR1) | (go_at_call 45;refine (H2.out _ (Env.keep hE1 (Qk (Below.refl _ _) _))).mono ?_;rintro e w2 ⟨hb2,A2,d2,rfl,hR2,_⟩;have hB2:Z4 w2 w.heap.size 0 ⟨#[]⟩ (.slice none 0 0) false:=Qv.keep hB1 (Za _ hb2);have hbw2:Below w.heap.size w w2:=Qj (Za _ hb1) (Za _ hb2);have hX2:Z4 w2 w1.heap.size xk xt (.slice A1 xs.length d1) xl:=(hb2.block w1.heap.size (by simp)).trans (World.alloc_heap_new _ _);obtain⟨x0,x1,x2,x3,_⟩:=hX2.facts;have hz12:w1.heap.size<w2.heap.size:=Qv.lt hX2;have HR2:=Lib.hid hR2;have HR1':=Lib.hid (HR1.out.keep (Za _ hb2));clear hE1 hR2 HR1))
    refine (HC.out _ _ _ _ _ (HR1'.out.keep (Qk (Below.refl _ _) _)) (HR2.out.keep (Qk (Below.refl _ _) _))).mono ?_;rintro e w3 ⟨hb3,A,c,rfl,hR3,hA3⟩;have hB3:Z4 w3 w.heap.size 0 ⟨#[]⟩ (.slice none 0 0) false:=Qv.keep hB2 (Za _ hb3);obtain⟨c0,c1,c2,c3,f0,f1,f2,f3⟩:=hB3.facts;have hz3:w.heap.size<w3.heap.size:=Qv.lt hB3;have hbw3:Below w.heap.size w w3:=Qj hbw2 (Za _ hb3);have HR3:=Lib.hid hR3;have hz2:w.heap.size<w2.heap.size:=Qv.lt hB2;have hA3':∀ a,A=some a→a.block≠w.heap.size:=(fun a ha=>by have:=hA3 a ha;simp at this;omega);have HA3:=Lib.hid hA3';clear x0 x1 x2 x3 hR3 hA3 hA3'
    go_wp2_with fail
    exact bodyPost_ret (v:=.tuple #[.agg #[.int .i64 zk,.string zt,.slice A zs.length c,.bool zl],.bool true,.int .i64 0]) (by simp[results,Tryz.results63,go_sem,hz3,c0,c1,c2,c3,f0,f1,f2,f3]) rfl ⟨Qz,A,c,rfl,((((HR3.out.set_ _ _ HA3.out).set_ _ _ HA3.out).set_ _ _ HA3.out).set_ _ _ HA3.out).keep (Qk (Below.refl _ _) _)⟩
theorem bothPost_bad {r:Option (Option Z7)} {w w':World} {e:Ending} (h:Um r w e w') (hr:r=none∨r=some none):Below w.heap.size w w'∧∃ (k:Nat) (t:ByteArray) (A:Option Addr) (n c:Nat) (b:Bool),e=.returned (.tuple #[.agg #[.int .i64 k,.string t,.slice A n c,.bool b],.bool false,.int .i64 (if r.isNone then 1 else 0)]):=by
 rcases hr with rfl | rfl
 ·obtain⟨hb,k,t,A,n,c,b,rfl⟩:=h;exact⟨hb,k,t,A,n,c,b,rfl⟩
 ·obtain⟨hb,k,t,A,n,c,b,rfl⟩:=h;exact⟨hb,k,t,A,n,c,b,rfl⟩
def bothV (r:Option (Option Z7)):Value:=match r with
 | none=>.tuple #[.string ⟨#[]⟩,.bool false,.int .i64 1]
 | some none=>.tuple #[.string ⟨#[]⟩,.bool false,.int .i64 0]
 | some (some z)=>.tuple #[.string (VW z),.bool true,.int .i64 0]
def meetV (r:Option (Option Z7)):Value:=match r with
 | none=>.tuple #[.bool false,.string ⟨#[]⟩,.int .i64 1]
 | some none=>.tuple #[.bool false,.string ⟨#[]⟩,.int .i64 0]
 | some (some z)=>.tuple #[.bool true,.string (Xt (XV z.cust.kind z.cust.text ⟨#[97]⟩ :: Xl z.parts)),.int .i64 0]
theorem withP_le {k:Nat} {t b:ByteArray} (ht:t.size≤100000) (hb:b.size≤1):(XV k t b).size≤200000:=by have:=withP_size k t b;omega
theorem wordsL_le {ps:List Part} (h:UQ ps):∀ x∈Xl ps,x.size≤200000:=by
 intro x hx
 obtain⟨p,hp,rfl⟩:=List.mem_map.1 hx
 exact withP_le (h p hp).2 (Nat.le_refl _)
theorem addrBoth_any (p q:ByteArray) (w:World) (hp:p.size≤100000) (hq:q.size≤100000) (hE:Env w):Calls Tryz.prog 30 #[.string p,.string q] w (Zx w (bothV (Js p q))):=by
 have c0:=both_any p q w hp hq hE
 have hg:=fun z=>bothP_good (z:=z) hp hq
 generalize Js p q=r at *
 clear hE
 by_cases hr:r=none∨r=some none
 ·have H0:=Lib.hid (c0.mono fun e w' h=>bothPost_bad h hr)
  clear c0 hg
  have hv:bothV r=.tuple #[.string ⟨#[]⟩,.bool false,.int .i64 (if r.isNone then 1 else 0)]:=by rcases hr with rfl | rfl <;> rfl
  rw[hv]
  clear hv hr
  generalize (if r.isNone=true then (1:Int) else 0)=er at *
  go_enter Tryz.func30,Tryz.ntmps30
  go_wp2_with (go_at_call 63;refine H0.out.mono ?_;rintro e w1 ⟨hb1,k1,t1,A1,n1,d1,b1,rfl⟩)
  go_ret3
  exact⟨rfl,Qz⟩
 ·obtain⟨z,rfl⟩:∃ z,r=some (some z):=by
   rcases r with _ | _ | z
   ·exact absurd (.inl rfl) hr
   ·exact absurd (.inr rfl) hr
   ·exact⟨z,rfl⟩
  have g:=hg z rfl
  have H0:=Lib.hid c0
  clear c0 hg hr
  show Calls Tryz.prog 30 #[.string p,.string q] w (Zx w (.tuple #[.string (VW z),.bool true,.int .i64 0]))
  have hn:=g.num
  have cS:=fun A c W h=>patString_any z.cust.kind z.cust.text A z.parts.length c z.tail z.parts W h g.parts (by omega) g.kind g.text
  obtain⟨⟨zk,zt⟩,zs,zl⟩:=z
  dsimp only at cS
  generalize VW ⟨⟨zk,zt⟩,zs,zl⟩=V at *
  have HS:=Lib.hid cS
  clear cS g hn
  unfold Um at H0
  dsimp only at H0
  go_enter Tryz.func30,Tryz.ntmps30
  go_wp2_with (first | (go_at_call 63;refine H0.out.mono ?_;rintro e w1 ⟨hb1,A,c,rfl,hR1⟩) | (go_at_call 64;refine (HS.out _ _ _ (hR1.keep (Qk (Below.refl _ _) _))).mono ?_;rintro e w2 ⟨rfl,hb2⟩))
  go_ret3
  exact⟨rfl,Qz⟩
theorem addrMeet_any (p q:ByteArray) (w:World) (hp:p.size≤100000) (hq:q.size≤100000) (hE:Env w):Calls Tryz.prog 32 #[.string p,.string q] w (Zx w (meetV (Js p q))):=by
 have c0:=both_any p q w hp hq hE
 have hg:=fun z=>bothP_good (z:=z) hp hq
 generalize Js p q=r at *
 clear hE
 by_cases hr:r=none∨r=some none
 ·have H0:=Lib.hid (c0.mono fun e w' h=>bothPost_bad h hr)
  clear c0 hg
  have hv:meetV r=.tuple #[.bool false,.string ⟨#[]⟩,.int .i64 (if r.isNone then 1 else 0)]:=by rcases hr with rfl | rfl <;> rfl
  rw[hv]
  clear hv hr
  generalize (if r.isNone=true then (1:Int) else 0)=er at *
  go_enter Tryz.func32,Tryz.ntmps32
  go_wp2_with (go_at_call 63;refine H0.out.mono ?_;rintro e w1 ⟨hb1,k1,t1,A1,n1,d1,b1,rfl⟩)
  go_ret3
  exact⟨rfl,Qz⟩
 ·obtain⟨z,rfl⟩:∃ z,r=some (some z):=by
   rcases r with _ | _ | z
   ·exact absurd (.inl rfl) hr
   ·exact absurd (.inr rfl) hr
   ·exact⟨z,rfl⟩
  have g:=hg z rfl
  have H0:=Lib.hid c0
  clear c0 hg hr
  show Calls Tryz.prog 32 #[.string p,.string q] w (Zx w (.tuple #[.bool true,.string (Xt (XV z.cust.kind z.cust.text ⟨#[97]⟩ :: Xl z.parts)),.int .i64 0]))
  have hn:=g.num
  have cW:=fun W=>with_any z.cust.kind z.cust.text ⟨#[97]⟩ W (by decide) (by have:=g.text;omega) g.kind
  have cL:=fun A c W h=>words_any z.cust.kind z.cust.text A z.parts.length c z.tail z.parts W h g.parts (by omega)
  have h1:=withP_le (k:=z.cust.kind) (b:=⟨#[97]⟩) g.text (Nat.le_refl _)
  have h2:=wordsL_le g.parts
  have hl:(Xl z.parts).length=z.parts.length:=by simp[Xl]
  have cX:=fun A c W h=>example_any (XV z.cust.kind z.cust.text ⟨#[97]⟩) A z.parts.length c (Xl z.parts) W h (by omega) h1 h2
  obtain⟨⟨zk,zt⟩,zs,zl⟩:=z
  dsimp only at cW cL cX ⊢
  generalize XV zk zt ⟨#[97]⟩=c0 at *
  generalize Xl zs=ws at *
  generalize Xt (c0 :: ws)=V at *
  have HW:=Lib.hid cW
  have HL:=Lib.hid cL
  have HX:=Lib.hid cX
  clear cW cL cX g hn h1 h2 hl
  unfold Um at H0
  dsimp only at H0
  generalize zs.length=zn at *
  go_enter Tryz.func32,Tryz.ntmps32
  go_wp2_with (go_at_call 63;refine H0.out.mono ?_;rintro e w1 ⟨hb1,A,c,rfl,hR1⟩)
  have f1:(w1.alloc (.cells #[.int .i64 zk,.string zt,.slice A zn c,.bool zl] 104)).cell? ⟨w1.heap.size,0,none⟩=some (.int .i64 zk):=by simp[go_sem]
  have f2:(w1.alloc (.cells #[.int .i64 zk,.string zt,.slice A zn c,.bool zl] 104)).cell? ⟨w1.heap.size,1,none⟩=some (.string zt):=by simp[go_sem]
  have f3:(w1.alloc (.cells #[.int .i64 zk,.string zt,.slice A zn c,.bool zl] 104)).cell? ⟨w1.heap.size,2,none⟩=some (.slice A zn c):=by simp[go_sem]
  have f4:(w1.alloc (.cells #[.int .i64 zk,.string zt,.slice A zn c,.bool zl] 104)).cell? ⟨w1.heap.size,3,none⟩=some (.bool zl):=by simp[go_sem]
  have f5:Reads (w1.alloc (.cells #[.int .i64 zk,.string zt,.slice A zn c,.bool zl] 104)) 2 A zn (QZ zs):=hR1.keep (Qk (Below.refl _ _) _)
  have f6:Below w.heap.size w (w1.alloc (.cells #[.int .i64 zk,.string zt,.slice A zn c,.bool zl] 104)):=Qz
  go_region_held3 (fun w'=>w'.cell? ⟨w1.heap.size,0,none⟩=some (.int .i64 zk)∧w'.cell? ⟨w1.heap.size,1,none⟩=some (.string zt)∧w'.cell? ⟨w1.heap.size,2,none⟩=some (.slice A zn c)∧w'.cell? ⟨w1.heap.size,3,none⟩=some (.bool zl)∧Reads w' 2 A zn (QZ zs)∧Below w.heap.size w w')
   (first | exact⟨f1,f2,f3,f4,f5,Below.drew f6⟩ | (go_split_ands;exact⟨Qq hb2 ‹_›,Qq hb2 ‹_›,Qq hb2 ‹_›,Qq hb2 ‹_›,Reads.keep ‹_› hb2,Qj ‹_› hb2⟩) | (go_split_ands;exact⟨Qq hb3 ‹_›,Qq hb3 ‹_›,Qq hb3 ‹_›,Qq hb3 ‹_›,Reads.keep ‹_› hb3,Qj ‹_› hb3⟩) | (go_split_ands;exact⟨Qq hb4 ‹_›,Qq hb4 ‹_›,Qq hb4 ‹_›,Qq hb4 ‹_›,Reads.keep ‹_› hb4,Qj ‹_› hb4⟩))
   (first | (go_at_call 68;refine (HW.out _).mono ?_;rintro e w2 ⟨rfl,hb2⟩) | (go_at_call 69;go_split_ands;refine (HL.out _ _ _ ‹_›).mono ?_;rintro e w3 ⟨A3,c3,rfl,hown,hb3⟩) | (go_at_call 67;refine (HX.out _ _ _ (by first | exact Reads.of_own hown | exact (Reads.of_own hown).keep hb2)).mono ?_;rintro e w4 ⟨rfl,hb4⟩))
  all_goals go_wp2
  all_goals go_ret3
  all_goals exact⟨rfl,by go_split_ands;assumption⟩
end Go.Proofs.YticlbkficolocaaGreatDoor
