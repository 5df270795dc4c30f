/- What 'both', 'Meet' and 'Both' return. -/
import Derived.Test.YtlkbkclnbppigaaGreatDoorIZ17
import Derived.Test.YtlkbkclnbppigaaGreatDoorIZ18
set_option maxHeartbeats 8000000
namespace Go.Proofs.YtlkbkclnbppigaaGreatDoor
open Go.RowKit Go.Sort
set_option linter.unusedVariables false
set_option linter.unusedSimpArgs false
set_option maxRecDepth 100000
def bothP (p q:ByteArray):Option (Option Pat):=match compileB p,compileB q with
 | some x,some y=>some (commonP x y)
 | _,_=>none
def BothPost (r:Option (Option Pat)) (w:World) (e:Ending) (w':World):Prop :=
 Below w.heap.size w w'∧match r with
 | none=>∃ (k:Nat) (t:ByteArray) (A:Option Addr) (n c:Nat) (b:Bool),e=.returned (.tuple #[.agg #[.int .i64 k,.string t,.slice A n c,.bool b],.bool false,.int .i64 1])
 | some none=>∃ (k:Nat) (t:ByteArray) (A:Option Addr) (n c:Nat) (b:Bool),e=.returned (.tuple #[.agg #[.int .i64 k,.string t,.slice A n c,.bool b],.bool false,.int .i64 0])
 | some (some p)=>∃ A c,e=.returned (.tuple #[.agg #[.int .i64 p.cust.kind,.string p.cust.text,.slice A p.parts.length c,.bool p.tail],.bool true,.int .i64 0])∧Reads w' 2 A p.parts.length (partCells p.parts)
theorem mtL_good:∀ (xs ys acc r:List Part),PartsOk xs→PartsOk ys→PartsOk acc→mtL acc xs ys=some r→PartsOk r∧r.length=acc.length+xs.length
 | [],ys,acc,r,_,_,h,e=>by
  have:mtL acc [] ys=some acc:=by cases ys <;> rfl
  rw[this]at e;injection e with e;subst e;exact⟨h,by simp⟩
 | a :: xs,[],acc,r,hx,hy,h,e=>by
  rw[mtL]at e
  have:=mtL_good xs [] (acc++[a]) r (fun p hp=>hx p (by simp[hp])) hy (fun p hp=>by
   rcases List.mem_append.1 hp with hp | hp
   ·exact h p hp
   ·rw[List.mem_singleton.1 hp];exact hx a (by simp)) e
  exact⟨this.1,by rw[this.2];simp;omega⟩
 | a :: xs,b :: ys,acc,r,hx,hy,h,e=>by
  rw[mtL]at e
  split at e
  ·have ha:=hx a (by simp)
   have hb:=hy b (by simp)
   have:=mtL_good xs ys (acc++[meetP a b]) r (fun p hp=>hx p (by simp[hp])) (fun p hp=>hy p (by simp[hp])) (fun p hp=>by
    rcases List.mem_append.1 hp with hp | hp
    ·exact h p hp
    ·rw[List.mem_singleton.1 hp];exact meetP_ok ha.1 hb.1 ha.2 hb.2) e
   exact⟨this.1,by rw[this.2];simp;omega⟩
  ·cases e
theorem commonO_good {x y z:Pat} (hx:PatGood x) (hy:PatGood y) (h:commonO x y=some z):PatGood z:=by
 unfold commonO at h
 split at h
 ·cases h
 ·obtain⟨l,hl,rfl⟩:=Option.map_eq_some_iff.1 h
  have:=mtL_good _ _ [] l hx.parts hy.parts (fun p hp=>by cases hp) hl
  have hm:=meetP_ok hx.kind hy.kind hx.text hy.text
  have hn:=hx.num
  exact⟨hm.1,hm.2,this.1,by show l.length≤32;rw[this.2];simpa using hn⟩
theorem commonP_good {x y z:Pat} (hx:PatGood x) (hy:PatGood y) (h:commonP x y=some z):PatGood z:=by
 unfold commonP at h
 split at h
 ·exact commonO_good hy hx h
 ·exact commonO_good hx hy h
theorem bothP_good {p q:ByteArray} {z:Pat} (hp:p.size≤100000) (hq:q.size≤100000) (h:bothP p q=some (some z)):PatGood z:=by
 unfold bothP at h
 cases h1:compileB p with
 | none=>rw[h1]at h;cases h
 | some x =>
  cases h2:compileB q with
  | none=>rw[h1,h2]at h;cases h
  | some y =>
   rw[h1,h2]at h
   injection h with h
   exact commonP_good (compile_good p hp x h1) (compile_good q hq y h2) h
theorem compPost_any {r:Option Pat} {w w':World} {e:Ending} (h:CompPost r w e w'):Below w.heap.size w w'∧∃ (k:Nat) (t:ByteArray) (A:Option Addr) (n c:Nat) (b:Bool),e=.returned (.tuple #[.agg #[.int .i64 k,.string t,.slice A n c,.bool b],.bool r.isSome]):=by
 refine⟨h.1,?_⟩
 cases r with
 | none=>obtain⟨_,k,t,A,n,c,b,rfl⟩:=h;exact⟨k,t,A,n,c,b,rfl⟩
 | some p=>obtain⟨_,A,c,rfl,_⟩:=h;exact⟨_,_,_,_,_,_,rfl⟩
theorem BothPost.none_ {w w':World} (k:Nat) (t:ByteArray) (A:Option Addr) (n c:Nat) (b:Bool) (hb:Below w.heap.size w w'):BothPost none w (.returned (.tuple #[.agg #[.int .i64 k,.string t,.slice A n c,.bool b],.bool false,.int .i64 1])) w':=⟨hb,k,t,A,n,c,b,rfl⟩
theorem both_any (p q:ByteArray) (w:World) (hp:p.size≤100000) (hq:q.size≤100000) (hE:Env w):Calls Tryz.prog 174 #[.string p,.string q] w (BothPost (bothP p q) w):=by
 have c1:=fun W h=>compile_any p W hp h
 have c2:=fun W h=>compile_any q W hq h
 have g1:=compile_good p hp
 have g2:=compile_good q hq
 unfold bothP
 generalize compileB p=r1 at *
 generalize compileB q=r2 at *
 have hbad:r1.isSome=false∨r2.isSome=false→Calls Tryz.prog 174 #[.string p,.string q] w (BothPost none w):=by
  intro hbad
  have H1:=Lib.hid (fun W h=>(c1 W h).mono fun e w' k=>compPost_any k)
  have H2:=Lib.hid (fun W h=>(c2 W h).mono fun e w' k=>compPost_any k)
  clear c1 c2 g1 g2
  generalize r1.isSome=o1 at *
  generalize r2.isSome=o2 at *
  clear r1 r2
  cases o1
  ·clear hbad
   go_enter Tryz.func174,Tryz.ntmps174
   go_wp2_with (first | (go_at_call 147;refine (H1.out _ (Env.keep hE (balloc (Below.refl _ _) _))).mono ?_;rintro e w1 ⟨hb1,k1,t1,A1,n1,d1,b1,rfl⟩;have hE1:=Env.keep hE (blater _ hb1);have hB1:PBox w1 w.heap.size 0 ⟨#[]⟩ (.slice none 0 0) false:=(hb1.block w.heap.size (by simp)).trans (World.alloc_heap_new _ _);clear hE) | (go_at_call 147;refine (H2.out _ (Env.keep hE1 (balloc (Below.refl _ _) _))).mono ?_;rintro e w2 ⟨hb2,k2,t2,A2,n2,d2,b2,rfl⟩;have hB2:PBox w2 w.heap.size 0 ⟨#[]⟩ (.slice none 0 0) false:=Blk.keep hB1 (blater _ hb2);have hbw2:Below w.heap.size w w2:=bstep (blater _ hb1) (blater _ hb2);obtain⟨c0,c1,c2,c3,f0,f1,f2,f3⟩:=hB2.facts;have hz2:w.heap.size<w2.heap.size:=Blk.lt hB2;clear hE1))
   exact bodyPost_ret (v:=.tuple #[.agg #[.int .i64 0,.string ⟨#[]⟩,.slice none 0 0,.bool false],.bool false,.int .i64 1]) (by simp[results,Tryz.results174,go_sem,hz2,c0,c1,c2,c3,f0,f1,f2,f3]) rfl (BothPost.none_ _ _ _ _ _ _ belB)
  ·obtain rfl:o2=false:=by simpa using hbad
   clear hbad
   go_enter Tryz.func174,Tryz.ntmps174
   go_wp2_with (first | (go_at_call 147;refine (H1.out _ (Env.keep hE (balloc (Below.refl _ _) _))).mono ?_;rintro e w1 ⟨hb1,k1,t1,A1,n1,d1,b1,rfl⟩;have hE1:=Env.keep hE (blater _ hb1);have hB1:PBox w1 w.heap.size 0 ⟨#[]⟩ (.slice none 0 0) false:=(hb1.block w.heap.size (by simp)).trans (World.alloc_heap_new _ _);clear hE) | (go_at_call 147;refine (H2.out _ (Env.keep hE1 (balloc (Below.refl _ _) _))).mono ?_;rintro e w2 ⟨hb2,k2,t2,A2,n2,d2,b2,rfl⟩;have hB2:PBox w2 w.heap.size 0 ⟨#[]⟩ (.slice none 0 0) false:=Blk.keep hB1 (blater _ hb2);have hbw2:Below w.heap.size w w2:=bstep (blater _ hb1) (blater _ hb2);obtain⟨c0,c1,c2,c3,f0,f1,f2,f3⟩:=hB2.facts;have hz2:w.heap.size<w2.heap.size:=Blk.lt hB2;clear hE1))
   exact bodyPost_ret (v:=.tuple #[.agg #[.int .i64 0,.string ⟨#[]⟩,.slice none 0 0,.bool false],.bool false,.int .i64 1]) (by simp[results,Tryz.results174,go_sem,hz2,c0,c1,c2,c3,f0,f1,f2,f3]) rfl (BothPost.none_ _ _ _ _ _ _ belB)
 cases r1 with
 | none=>exact hbad (.inl rfl)
 | some x =>
  cases r2 with
  | none=>exact hbad (.inr rfl)
  | some y =>
   clear hbad
   have cC:=fun A B ca cb W hA hB=>common_any x y A B ca cb W hA hB (g1 x rfl) (g2 y rfl)
   clear g1 g2
   dsimp only
   generalize commonP x y=R at *
   obtain⟨⟨xk,xt⟩,xs,xl⟩:=x
   obtain⟨⟨yk,yt⟩,ys,yl⟩:=y
   unfold patV at cC
   dsimp only at cC
   have H1:=Lib.hid c1
   have H2:=Lib.hid c2
   have HC:=Lib.hid cC
   clear c1 c2 cC
   unfold CompPost at H1 H2
   dsimp only at H1 H2
   cases R with
   | none =>
    go_enter Tryz.func174,Tryz.ntmps174
    go_wp2_with (first | (go_at_call 147;refine (H1.out _ (Env.keep hE (balloc (Below.refl _ _) _))).mono ?_;rintro e w1 ⟨hb1,A1,d1,rfl,hR1,_⟩;have hE1:=Env.keep hE (blater _ hb1);have hB1:PBox w1 w.heap.size 0 ⟨#[]⟩ (.slice none 0 0) false:=(hb1.block w.heap.size (by simp)).trans (World.alloc_heap_new _ _);have HR1:=Lib.hid hR1;clear hE hR1) | (go_at_call 147;refine (H2.out _ (Env.keep hE1 (balloc (Below.refl _ _) _))).mono ?_;rintro e w2 ⟨hb2,A2,d2,rfl,hR2,_⟩;have hB2:PBox w2 w.heap.size 0 ⟨#[]⟩ (.slice none 0 0) false:=Blk.keep hB1 (blater _ hb2);have hbw2:Below w.heap.size w w2:=bstep (blater _ hb1) (blater _ hb2);have hX2:PBox w2 w1.heap.size xk xt (.slice A1 xs.length d1) xl:=(hb2.block w1.heap.size (by simp)).trans (World.alloc_heap_new _ _);obtain⟨x0,x1,x2,x3,_⟩:=hX2.facts;have hz12:w1.heap.size<w2.heap.size:=Blk.lt hX2;have HR2:=Lib.hid hR2;have HR1':=Lib.hid (HR1.out.keep (blater _ hb2));clear hE1 hR2 HR1) | (go_at_call 226;refine (HC.out _ _ _ _ _ (HR1'.out.keep (balloc (Below.refl _ _) _)) (HR2.out.keep (balloc (Below.refl _ _) _))).mono ?_;rintro e w3 ⟨hb3,k,t,A,n,c,b,rfl⟩;have hB3:PBox w3 w.heap.size 0 ⟨#[]⟩ (.slice none 0 0) false:=Blk.keep hB2 (blater _ hb3);obtain⟨c0,c1,c2,c3,f0,f1,f2,f3⟩:=hB3.facts;have hz3:w.heap.size<w3.heap.size:=Blk.lt hB3;have hbw3:Below w.heap.size w w3:=bstep hbw2 (blater _ hb3);clear x0 x1 x2 x3))
    exact bodyPost_ret (v:=.tuple #[.agg #[.int .i64 k,.string t,.slice A n c,.bool b],.bool false,.int .i64 0]) (by simp[results,Tryz.results174,go_sem,hz3,c0,c1,c2,c3,f0,f1,f2,f3]) rfl ⟨belB,k,t,A,n,c,b,rfl⟩
   | some z =>
    obtain⟨⟨zk,zt⟩,zs,zl⟩:=z
    go_enter Tryz.func174,Tryz.ntmps174
    go_wp2_with (first | (go_at_call 147;refine (H1.out _ (Env.keep hE (balloc (Below.refl _ _) _))).mono ?_;rintro e w1 ⟨hb1,A1,d1,rfl,hR1,_⟩;have hE1:=Env.keep hE (blater _ hb1);have hB1:PBox w1 w.heap.size 0 ⟨#[]⟩ (.slice none 0 0) false:=(hb1.block w.heap.size (by simp)).trans (World.alloc_heap_new _ _);have HR1:=Lib.hid hR1;clear hE hR1) | (go_at_call 147;refine (H2.out _ (Env.keep hE1 (balloc (Below.refl _ _) _))).mono ?_;rintro e w2 ⟨hb2,A2,d2,rfl,hR2,_⟩;have hB2:PBox w2 w.heap.size 0 ⟨#[]⟩ (.slice none 0 0) false:=Blk.keep hB1 (blater _ hb2);have hbw2:Below w.heap.size w w2:=bstep (blater _ hb1) (blater _ hb2);have hX2:PBox w2 w1.heap.size xk xt (.slice A1 xs.length d1) xl:=(hb2.block w1.heap.size (by simp)).trans (World.alloc_heap_new _ _);obtain⟨x0,x1,x2,x3,_⟩:=hX2.facts;have hz12:w1.heap.size<w2.heap.size:=Blk.lt hX2;have HR2:=Lib.hid hR2;have HR1':=Lib.hid (HR1.out.keep (blater _ hb2));clear hE1 hR2 HR1))
    refine (HC.out _ _ _ _ _ (HR1'.out.keep (balloc (Below.refl _ _) _)) (HR2.out.keep (balloc (Below.refl _ _) _))).mono ?_;rintro e w3 ⟨hb3,A,c,rfl,hR3,hA3⟩;have hB3:PBox w3 w.heap.size 0 ⟨#[]⟩ (.slice none 0 0) false:=Blk.keep hB2 (blater _ hb3);obtain⟨c0,c1,c2,c3,f0,f1,f2,f3⟩:=hB3.facts;have hz3:w.heap.size<w3.heap.size:=Blk.lt hB3;have hbw3:Below w.heap.size w w3:=bstep hbw2 (blater _ hb3);have HR3:=Lib.hid hR3;have hz2:w.heap.size<w2.heap.size:=Blk.lt hB2;have hA3':∀ a,A=some a→a.block≠w.heap.size:=(fun a ha=>by have:=hA3 a ha;simp at this;omega);have HA3:=Lib.hid hA3';clear x0 x1 x2 x3 hR3 hA3 hA3'
    go_wp2_with fail
    exact bodyPost_ret (v:=.tuple #[.agg #[.int .i64 zk,.string zt,.slice A zs.length c,.bool zl],.bool true,.int .i64 0]) (by simp[results,Tryz.results174,go_sem,hz3,c0,c1,c2,c3,f0,f1,f2,f3]) rfl ⟨belB,A,c,rfl,((((HR3.out.set_ _ _ HA3.out).set_ _ _ HA3.out).set_ _ _ HA3.out).set_ _ _ HA3.out).keep (balloc (Below.refl _ _) _)⟩
theorem bothPost_bad {r:Option (Option Pat)} {w w':World} {e:Ending} (h:BothPost r w e w') (hr:r=none∨r=some none):Below w.heap.size w w'∧∃ (k:Nat) (t:ByteArray) (A:Option Addr) (n c:Nat) (b:Bool),e=.returned (.tuple #[.agg #[.int .i64 k,.string t,.slice A n c,.bool b],.bool false,.int .i64 (if r.isNone then 1 else 0)]):=by
 rcases hr with rfl | rfl
 ·obtain⟨hb,k,t,A,n,c,b,rfl⟩:=h;exact⟨hb,k,t,A,n,c,b,rfl⟩
 ·obtain⟨hb,k,t,A,n,c,b,rfl⟩:=h;exact⟨hb,k,t,A,n,c,b,rfl⟩
def bothV (r:Option (Option Pat)):Value:=match r with
 | none=>.tuple #[.string ⟨#[]⟩,.bool false,.int .i64 1]
 | some none=>.tuple #[.string ⟨#[]⟩,.bool false,.int .i64 0]
 | some (some z)=>.tuple #[.string (patS z),.bool true,.int .i64 0]
def meetV (r:Option (Option Pat)):Value:=match r with
 | none=>.tuple #[.bool false,.string ⟨#[]⟩,.int .i64 1]
 | some none=>.tuple #[.bool false,.string ⟨#[]⟩,.int .i64 0]
 | some (some z)=>.tuple #[.bool true,.string (joinS (withP z.cust.kind z.cust.text ⟨#[97]⟩ :: wordsL z.parts)),.int .i64 0]
theorem addrBoth_any (p q:ByteArray) (w:World) (hp:p.size≤100000) (hq:q.size≤100000) (hE:Env w):Calls Tryz.prog 111 #[.string p,.string q] w (Ret w (bothV (bothP p q))):=by
 have c0:=both_any p q w hp hq hE
 have hg:=fun z=>bothP_good (z:=z) hp hq
 generalize bothP p q=r at *
 clear hE
 by_cases hr:r=none∨r=some none
 ·have H0:=Lib.hid (c0.mono fun e w' h=>bothPost_bad h hr)
  clear c0 hg
  have hv:bothV r=.tuple #[.string ⟨#[]⟩,.bool false,.int .i64 (if r.isNone then 1 else 0)]:=by rcases hr with rfl | rfl <;> rfl
  rw[hv]
  clear hv hr
  generalize (if r.isNone=true then (1:Int) else 0)=er at *
  go_enter Tryz.func111,Tryz.ntmps111
  go_wp2_with (go_at_call 174;refine H0.out.mono ?_;rintro e w1 ⟨hb1,k1,t1,A1,n1,d1,b1,rfl⟩)
  go_ret3
  exact⟨rfl,belB⟩
 ·obtain⟨z,rfl⟩:∃ z,r=some (some z):=by
   rcases r with _ | _ | z
   ·exact absurd (.inl rfl) hr
   ·exact absurd (.inr rfl) hr
   ·exact⟨z,rfl⟩
  have g:=hg z rfl
  have H0:=Lib.hid c0
  clear c0 hg hr
  show Calls Tryz.prog 111 #[.string p,.string q] w (Ret w (.tuple #[.string (patS z),.bool true,.int .i64 0]))
  have hn:=g.num
  have cS:=fun A c W h=>patString_any z.cust.kind z.cust.text A z.parts.length c z.tail z.parts W h g.parts (by omega) g.kind g.text
  obtain⟨⟨zk,zt⟩,zs,zl⟩:=z
  dsimp only at cS
  generalize patS ⟨⟨zk,zt⟩,zs,zl⟩=V at *
  have HS:=Lib.hid cS
  clear cS g hn
  unfold BothPost at H0
  dsimp only at H0
  go_enter Tryz.func111,Tryz.ntmps111
  go_wp2_with (first | (go_at_call 174;refine H0.out.mono ?_;rintro e w1 ⟨hb1,A,c,rfl,hR1⟩) | (go_at_call 175;refine (HS.out _ _ _ (hR1.keep (balloc (Below.refl _ _) _))).mono ?_;rintro e w2 ⟨rfl,hb2⟩))
  go_ret3
  exact⟨rfl,belB⟩
theorem run_arrayAt16 (w:World) (a:Addr) (n c:Nat) (hn:16≤n):(Instr.arrayAt 51 (.slice (some a) n c)).run Tryz.prog w=.ok (.pointer (some a)) w:=by
 have h1:=run_underlying Tryz.underlying51 w
 have h2:¬ n<16:=by omega
 simp[Instr.arrayAt,h1,h2]
theorem of_any (tag:Nat) (htag:tag<256) (A:Option Addr) (n c:Nat) (ps:List ByteArray) (w:World) (hR:Reads w 1 A n (ps.map .string)) (hn:n≤10000) (hsz:∀ s∈ps,s.size≤1000000) (hK:Ks w) :
  Calls Tryz.prog 56 #[.int .i64 (tag:Int),.slice A n c] w (Ret w (.agg (b8 (Sha.ofD tag (ps.map nb))).toArray)):=by
 have hpl:ps.length=n:=by have:=hR.1;simp at this;omega
 have hhl:=heard_len tag ps hsz
 have HR:=Lib.hid hR;have HS:=Lib.hid hsz;have HK:=Lib.hid hK;have HPL:=Lib.hid hpl;have HHL:=Lib.hid hhl
 obtain⟨D,hD⟩:∃ D,D=b8 (Sha.ofD tag (ps.map nb)):=⟨_,rfl⟩
 rw[←hD]
 have HD:=Lib.hid hD
 clear hR hsz hK hpl hhl hD
 go_enter Tryz.func56,Tryz.ntmps56
 go_upto_region 1 with fail
 generalize hw0:World.alloc _ _=w0
 have hZ:RowV w0 w.heap.size 51 (b8 (List.replicate 16 0)):=by rw[←hw0];exact (heap_alloc_new w _).trans rfl
 have hbw:Below w.heap.size w w0:=by rw[←hw0];exact belB
 have hz0:w.heap.size<w0.heap.size:=RowV.lt hZ
 have HZ:=Lib.hid hZ
 clear hw0 hZ
 have ht0:(0:Int)≤tag:=by omega
 have ht1:IntKind.u8.wrap (tag:Int)=tag:=IntWalk.u8_in _ (by omega)
 go_cut [5] (fun s5 wx=>∃ g:Nat,s5=.pointer (some ⟨g,0,none⟩)∧w0.heap.size≤g∧StrR wx g [tag]∧Below w0.heap.size w0 wx)
 case first =>
  refine wp_free 7 (by kernel_rfl) (by kernel_rfl) (fun a b=>Below a.heap.size a b) (fun a=>Below.refl _ _) (fun a b c h k=>h.trans (k.mono h.size)) (D1 tag w0.heap.size) D1.keep (fun _ _=>True) trivial ?_ ?_
  ·skip
   refine ops_cons ?_ (ops_cons ?_ (ops_cons ?_ (ops_cons ?_ (ops_cons ?_ (ops_cons ?_ (ops_cons ?_ (ops_nil)))))))
   ·intro ho L a W hC hi hl hJ hG hA hd
    refine free_call (f:=117) (args:=#[]) ho rfl (by simp[go_sem,execOp]) ?_
    refine (begin_any W).mono ?_
    rintro e W' ⟨⟨v,rfl,hv⟩,hb'⟩
    exact⟨_,rfl,hv,hb',trivial⟩
   ·intro ho L a W hC hi hl hJ hG hA hd
    have t0:a.eval (.tmp 0)=.int .i64 (tag:Int):=agree_eval hA (by kernel_rfl)
    have u0:=(tmp_eq a 0).trans t0
    exact free_step (W':=W) ho rfl (by simp[go_sem,execOp,u0]) ⟨rfl,Below.refl _ _,trivial⟩
   ·intro ho L a W hC hi hl hJ hG hA hd
    have t10:a.eval (.tmp 10)=.int .i64 (tag:Int):=by have:=hd _ (Array.mem_of_getElem? (i:=0) rfl) rfl;exact this
    have u10:=(tmp_eq a 10).trans t10
    exact free_step (v:=.int .u8 (tag:Int)) (W':=W) ho rfl (by simp[go_sem,execOp,u10,ht1]) ⟨rfl,Below.refl _ _,trivial⟩
   ·intro ho L a W hC hi hl hJ hG hA hd
    have t11:a.eval (.tmp 11)=.int .u8 (tag:Int):=by have:=hd _ (Array.mem_of_getElem? (i:=0) rfl) rfl;exact this
    have u11:=(tmp_eq a 11).trans t11
    exact free_step (v:=.slice (some ⟨W.heap.size,0,none⟩) 1 1) (W':=W.alloc (.cells #[.int .u8 (tag:Int)] 5)) ho rfl (by simp[go_sem,execOp,u11]) ⟨⟨_,rfl,Blk.cell (World.alloc_heap_new W (.cells #[.int .u8 (tag:Int)] 5)) 0⟩,balloc (Below.refl _ _) _,trivial⟩
   ·intro ho L a W hC hi hl hJ hG hA hd
    obtain⟨b,t12,hcb⟩:∃ b,a.eval (.tmp 12)=.slice (some ⟨b,0,none⟩) 1 1∧W.cell? ⟨b,0,none⟩=some (.int .u8 (tag:Int)):=by have:=hd _ (Array.mem_of_getElem? (i:=0) rfl) rfl;exact this
    have u12:=(tmp_eq a 12).trans t12
    have hcv:=run_text W (some ⟨b,0,none⟩) 1 1 [tag] rfl (by intro x hx;rw[List.mem_singleton.1 hx];exact htag) (by omega) ⟨rfl,fun _=>⟨b,0,rfl,fun j u hu=>by
     match j,hu with
     | 0,hu=>rw[←Option.some.inj hu];exact hcb⟩⟩
    exact free_step (v:=.string (toN [tag])) (W':=W) ho rfl (by simp[go_sem,execOp,u12,hcv]) ⟨rfl,Below.refl _ _,trivial⟩
   ·intro ho L a W hC hi hl hJ hG hA hd
    obtain⟨v9,t9,hv9⟩:∃ v9,a.eval (.tmp 9)=v9∧StrV [] v9:=⟨_,rfl,by have:=hd _ (Array.mem_of_getElem? (i:=0) rfl) rfl;exact this⟩
    have t13:a.eval (.tmp 13)=.string (toN [tag]):=by have:=hd _ (Array.mem_of_getElem? (i:=1) rfl) rfl;exact this
    have u9:=(tmp_eq a 9).trans t9
    have u13:=(tmp_eq a 13).trans t13
    refine free_call (f:=118) (args:=#[v9,.string (toN [tag])]) ho rfl (by simp[go_sem,execOp,u9,u13]) ?_
    have hlen:([]:List Nat).length+(toN [tag]).size≤1000000000000:=by rw[toN_size];simp
    refine (add_any [] v9 (toN [tag]) W hv9 hlen (HK.out.keep ((Below.drew hbw).trans (hG.mono (by show w.heap.size≤w0.heap.size;omega))))).mono ?_
    rintro e W' ⟨⟨v,rfl,hv⟩,hb'⟩
    rw[nb_toN (by intro x hx;rw[List.mem_singleton.1 hx];exact htag)]at hv
    exact⟨_,rfl,hv,hb',trivial⟩
   ·intro ho L a W hC hi hl hJ hG hA hd
    exact free_step (v:=.pointer (some ⟨W.heap.size,0,none⟩)) (W':=W.alloc (.cells Tryz.zeroCells152 152)) ho rfl (by simp[go_sem,execOp]) ⟨⟨_,rfl,by have:=hG.size;simpa using this,heap_alloc_new W _⟩,balloc (Below.refl _ _) _,trivial⟩
  ·intro vals w' hG _ hD
   obtain⟨g,e6,hg,hzz⟩:∃ g,vals 6=.pointer (some ⟨g,0,none⟩)∧w0.heap.size≤g∧w'.heap[g]? = some (.cells Tryz.zeroCells152 152 (0,0)):=hD 6 (by omega)
   have e5:StrV [tag] (vals 5):=hD 5 (by omega)
   obtain⟨X,e5x,hX,hX1⟩:=strV_agg e5
   rw[e5x]at e5
   simp only[List.take_succ_cons,List.take_zero,List.drop_succ_cons,List.drop_zero,putL,e6,e5x]
   generalize vals 0=v0
   generalize vals 1=v1
   generalize vals 2=v2
   generalize vals 3=v3
   generalize vals 4=v4
   simp only[Act.put,List.setIfInBounds_toArray,List.set_cons_succ,List.set_cons_zero]
   have hi73:(Tryz.prog.info? 152).map (·.size)=some X.size:=by rw[hX];exact inf73
   have hzs:Tryz.zeroCells152.size=X.size:=by rw[hX];exact zero73s
   refine wpList_store_row rfl _ _ _ rfl g X rfl rfl _ _ hzz hi73 hzs hX1 ?_
   go_wp2_with fail
   go_meet
   exact⟨g,rfl,hg,⟨X,e5,setRow_heap _ _ _ _ _ _ hzz,hX⟩,below_setRow ((Below.drew (Below.refl _ _)).trans hG) hg _⟩
 case rest =>
  obtain⟨g,rfl,hg,hStr,hbc⟩:=hcut
  have hZ1:RowV wc w.heap.size 51 (b8 (List.replicate 16 0)):=RowV.keep HZ.out hbc
  have hbw1:Below w.heap.size w wc:=hbw.trans (hbc.mono (by omega))
  have HST:=Lib.hid hStr;have HZ1:=Lib.hid hZ1
  clear hStr hZ1 HZ hbw hbc
  have hgw:w.heap.size<g:=by omega
  go_wp2_with fail
  go_loopw [17] (fun kv wr=>∃ k:Nat,k≤n∧kv=.int .i64 k∧Hid (StrR wr g (heard tag ps k))∧Hid (RowV wr w.heap.size 51 (b8 (List.replicate 16 0)))∧Below w.heap.size w wr) (fun kv _=>n-(intOf kv).toNat)
  case atStart=>exact⟨0,by omega,rfl,Lib.hid (by rw[heard_zero];exact HST.out),HZ1,hbw1⟩
  case round =>
   obtain⟨k,hk,rfl,HSr,HZr,hbr⟩:=hrel
   clear HST HZ1 hbw1
   by_cases hlt:k<n
   ·obtain⟨pb,po,u,rfl,hu,hcell⟩:=(HR.out.keep hbr).at_ hlt
    obtain⟨x,hx,rfl⟩:=strs_at hu
    have hxs:=HS.out x (List.mem_of_getElem? hx)
    have hsucc:=heard_succ tag hx
    have hml:=HHL.out k (by have:=HPL.out;omega)
    have hml2:(heard tag ps k).length≤20000000000:=by omega
    have hwb:=wireB_len x
    obtain⟨X,hSX,hX,hXs⟩:=HSr.out
    have HSU:=Lib.hid hsucc;have HSX:=Lib.hid hSX;have HXX:=Lib.hid hX;have HXS:=Lib.hid hXs
    clear hu hx hsucc hml hSX hX hXs HSr
    generalize heard tag ps k=m at *
    go_wp2_with fail
    have hgl:g<wr.heap.size:=by
     rcases Nat.lt_or_ge g wr.heap.size with hl | hl
     ·exact hl
     ·have:=HXX.out;rw[Array.getElem?_eq_none hl]at this;cases this
    refine wp_free 5 (by kernel_rfl) (by kernel_rfl) (fun a b=>Below a.heap.size a b) (fun a=>Below.refl _ _) (fun a b c h k=>h.trans (k.mono h.size)) (D2 m x) D2.keep (fun _ _=>True) trivial ?_ ?_
    ·skip
     refine ops_cons ?_ (ops_cons ?_ (ops_cons ?_ (ops_cons ?_ (ops_cons ?_ (ops_nil)))))
     ·intro ho L a W hC hi hl hJ hG hA hd
      have t5:a.eval (.tmp 5)=.pointer (some ⟨g,0,none⟩):=agree_eval hA (by kernel_rfl)
      have u5:=(tmp_eq a 5).trans t5
      have hXW:W.heap[g]? = some (.cells X 152 (0,0)):=heap_keep (w:=wr.drew) HXX.out hG
      have hld:=run_loadVar_row (P:=Tryz.prog) W g 152 152 X (0,0) _ hXW Tryz.underlying152 rfl (by rw[HXS.out];exact inf73)
      exact free_step (v:=.agg X) (W':=W) ho rfl (by unfold execOp;simp only[t5,Instr.loadAt,Instr.sureAddr,Sem.run_bind,Sem.run_pure,Result.andThen_ok,hld]) ⟨HSX.out,Below.refl _ _,trivial⟩
     ·intro ho L a W hC hi hl hJ hG hA hd
      have t7:a.eval (.tmp 7)=.string x:=agree_eval hA (by kernel_rfl)
      have u7:=(tmp_eq a 7).trans t7
      exact free_step (W':=W) ho rfl (by simp[go_sem,execOp,u7]) ⟨rfl,Below.refl _ _,trivial⟩
     ·intro ho L a W hC hi hl hJ hG hA hd
      have t22:a.eval (.tmp 22)=.string x:=by have:=hd _ (Array.mem_of_getElem? (i:=0) rfl) rfl;exact this
      have u22:=(tmp_eq a 22).trans t22
      refine free_call (f:=119) (args:=#[.string x]) ho rfl (by simp[go_sem,execOp,u22]) ?_
      refine (wireBytes_any x W (by omega)).mono ?_
      rintro e W' ⟨A2,c2,rfl,hown,hb'⟩
      exact⟨_,rfl,⟨A2,c2,rfl,reads_own hown⟩,hb',trivial⟩
     ·intro ho L a W hC hi hl hJ hG hA hd
      obtain⟨A2,c2,t23,hR2⟩:∃ A2 c2,a.eval (.tmp 23)=.slice A2 (Sha.wireB (nb x)).length c2∧Reads W 1 A2 (Sha.wireB (nb x)).length (b8 (Sha.wireB (nb x))):=by have:=hd _ (Array.mem_of_getElem? (i:=0) rfl) rfl;exact this
      have u23:=(tmp_eq a 23).trans t23
      have hcv:=run_text W A2 _ c2 (Sha.wireB (nb x)) rfl (wireB_lt x (by omega)) hwb.1 hR2
      exact free_step (v:=.string (toN (Sha.wireB (nb x)))) (W':=W) ho rfl (by simp[go_sem,execOp,u23,hcv]) ⟨rfl,Below.refl _ _,trivial⟩
     ·intro ho L a W hC hi hl hJ hG hA hd
      obtain⟨v21,t21,hv21⟩:∃ v21,a.eval (.tmp 21)=v21∧StrV m v21:=⟨_,rfl,by have:=hd _ (Array.mem_of_getElem? (i:=0) rfl) rfl;exact this⟩
      have t24:a.eval (.tmp 24)=.string (toN (Sha.wireB (nb x))):=by have:=hd _ (Array.mem_of_getElem? (i:=1) rfl) rfl;exact this
      have u21:=(tmp_eq a 21).trans t21
      have u24:=(tmp_eq a 24).trans t24
      refine free_call (f:=118) (args:=#[v21,.string (toN (Sha.wireB (nb x)))]) ho rfl (by simp[go_sem,execOp,u21,u24]) ?_
      refine (add_any m v21 (toN (Sha.wireB (nb x))) W hv21 (by rw[toN_size];omega) (HK.out.keep ((Below.drew hbr).trans (hG.mono (by show w.heap.size≤wr.heap.size;omega))))).mono ?_
      rintro e W' ⟨⟨v,rfl,hv⟩,hb'⟩
      rw[nb_toN (wireB_lt x (by omega))]at hv
      exact⟨_,rfl,hv,hb',trivial⟩
    ·intro vals w' hG _ hD
     have e4:StrV (m++Sha.wireB (nb x)) (vals 4):=hD 4 (by omega)
     obtain⟨Y,e4y,hY,hY1⟩:=strV_agg e4
     rw[e4y]at e4
     simp only[List.take_succ_cons,List.take_zero,List.drop_succ_cons,List.drop_zero,putL,e4y]
     generalize vals 0=v0
     generalize vals 1=v1
     generalize vals 2=v2
     generalize vals 3=v3
     simp only[Act.put,List.setIfInBounds_toArray,List.set_cons_succ,List.set_cons_zero]
     have hXW:w'.heap[g]? = some (.cells X 152 (0,0)):=heap_keep (w:=wr.drew) HXX.out hG
     have hi73:(Tryz.prog.info? 152).map (·.size)=some Y.size:=by rw[hY];exact inf73
     refine wpList_store_row rfl _ _ _ rfl g Y rfl rfl _ _ hXW hi73 (by rw[HXS.out,hY]) hY1 ?_
     have hbw':Below w.heap.size w w':=(Below.drew hbr).trans (hG.mono (by show w.heap.size≤wr.heap.size;omega))
     go_wp2_with fail
     refine⟨⟨k+1,by omega,by go_num,Lib.hid ?_,Lib.hid ?_,below_setRow hbw' (by omega) _⟩,by simp[intOf];omega⟩
     ·rw[HSU.out];exact⟨Y,e4,setRow_heap _ _ _ _ _ _ hXW,hY⟩
     ·exact RowV.row_far (RowV.keep (w:=wr.drew) HZr.out hG) _ _ (by omega)
   ·have hkn:k=n:=by omega
    obtain⟨X,hSX,hX,hXs⟩:=HSr.out
    rw[hkn,←HPL.out,heard_all]at hSX
    have hml:=HHL.out n (by have:=HPL.out;omega)
    rw[←HPL.out,heard_all,HPL.out]at hml
    have hsm:=sum_any (Sha.input tag (ps.map nb)) (.agg X) wr hSX (by omega) (HK.out.keep hbr)
    have hDD:D=b8 ((Sha.sum (Sha.input tag (ps.map nb))).take 16):=HD.out
    have hRl:(Sha.sum (Sha.input tag (ps.map nb))).length=32:=rfl
    generalize Sha.sum (Sha.input tag (ps.map nb))=R at *
    have HSM:=Lib.hid hsm;have HXX:=Lib.hid hX;have HXS:=Lib.hid hXs;have HDD:=Lib.hid hDD;have HRL:=Lib.hid hRl
    clear hkn hSX hX hXs hml hsm hDD hRl HSr HD
    have hi73:(Tryz.prog.info? 152).map (·.size)=some X.size:=by rw[HXS.out];exact inf73
    have HI:=Lib.hid hi73
    clear hi73
    obtain⟨Y,hY⟩:∃ Y,Y=(b8 R).toArray:=⟨_,rfl⟩
    have hYs:Y.size=32:=by rw[hY,List.size_toArray,b8_len,HRL.out]
    have hY1:Y.all (·.oneCell')=true:=by rw[hY,List.all_toArray,List.all_eq_true];exact b8_one R
    have hYi:(Tryz.prog.info? 156).map (·.size)=some Y.size:=by rw[hYs];kernel_rfl
    have hDl:D.length=16:=by rw[HDD.out,b8_len,List.length_take,HRL.out];rfl
    have hDi:(Tryz.prog.info? 51).map (·.size)=some D.length:=by rw[hDl];kernel_rfl
    have hDi2:(Tryz.prog.info? 51).map (·.size)=some D.toArray.size:=by rw[List.size_toArray];exact hDi
    have hD1:D.toArray.all (·.oneCell')=true:=by rw[HDD.out,List.all_toArray,List.all_eq_true];exact b8_one _
    have hDc:∀ j v,D[j]? = some v→(b8 R)[0+j]? = some v:=fun j v h=>by
     rw[HDD.out,b8_take]at h
     rw[Nat.zero_add]
     rw[List.getElem?_take]at h
     split at h
     ·exact h
     ·cases h
    have hz16:(b8 (List.replicate 16 0)).toArray.size=D.toArray.size:=by rw[List.size_toArray,List.size_toArray,hDl];rfl
    rw[←hY]at HSM
    have HY:=Lib.hid hY;have HYS:=Lib.hid hYs;have HY1:=Lib.hid hY1;have HYI:=Lib.hid hYi;have HDI:=Lib.hid hDi;have HDI2:=Lib.hid hDi2;have HD1:=Lib.hid hD1;have HDC:=Lib.hid hDc;have HZ16:=Lib.hid hz16
    clear hY hYs hY1 hYi hDi hDi2 hD1 hDc hz16 hDl
    go_upto_region 8 with (first | (refine wpList_load_row rfl _ _ rfl g rfl _ X (0,0) _ HXX.out Tryz.underlying152 rfl HI.out ?_) | (go_at_call 120;refine HSM.out.mono ?_;rintro e w5 ⟨rfl,hb5⟩) | (refine wpList_store_row rfl _ _ _ rfl w5.heap.size Y rfl rfl _ (b8 (List.replicate 32 0)).toArray ((heap_alloc_new w5 _).trans rfl) HYI.out (by rw[HYS.out];rfl) HY1.out ?_))
    try simp only[Act.put,List.setIfInBounds_toArray,List.set_cons_succ,List.set_cons_zero]
    have hs5:=hb5.size
    have hzr5:RowV w5 w.heap.size 51 (b8 (List.replicate 16 0)):=RowV.keep HZr.out hb5
    have hbw5:Below w.heap.size w w5:=hbr.trans (hb5.mono hbr.size)
    obtain⟨g8,hg8⟩:∃ g8,g8=w5.heap.size:=⟨_,rfl⟩
    have hgw8:w.heap.size<g8:=by rw[hg8];exact RowV.lt hzr5
    rw[←hg8]
    generalize hw6:World.setRow _ _ _=w6
    have hR6:w6.heap[g8]? = some (.cells (b8 R).toArray 156 (0,0)):=by
     rw[←hw6,←HY.out,hg8]
     exact setRow_heap _ _ _ _ _ _ (heap_alloc_new w5 _)
    have hZ6:RowV w6 w.heap.size 51 (b8 (List.replicate 16 0)):=by rw[←hw6];exact RowV.row_far (RowV.alloc hzr5 _) _ _ (by omega)
    have hb6:Below w.heap.size w w6:=by rw[←hw6];exact below_setRow (hbw5.alloc (by omega) _) (by omega) _
    have r16:∀ W,(Instr.arrayAt 51 (.slice (some ⟨g8,0,none⟩) 16 32)).run Tryz.prog W=.ok (.pointer (some ⟨g8,0,none⟩)) W:=fun W=>run_arrayAt16 W _ 16 32 (by decide)
    have HR6:=Lib.hid hR6;have HZ6:=Lib.hid hZ6
    clear hw6 hg8 hR6 hZ6 hzr5 hbw5 hb5 hs5 HZr hbr HXX HSM
    go_wp2_with (first | (refine wpList_load_at rfl _ _ rfl g8 0 rfl _ (b8 R) D (0,0) _ HR6.out HDC.out Tryz.underlying51 rfl HDI.out ?_) | (refine wpList_store_row rfl _ _ _ rfl w.heap.size D.toArray rfl rfl _ _ HZ6.out HDI2.out HZ16.out HD1.out ?_))
    refine bodyPost_ret (v:=.agg D.toArray) ?_ rfl ⟨rfl,?_⟩
    ·exact results_cell_row rfl _ _ w.heap.size _ _ (0,0) _ rfl (setRow_heap _ _ _ _ _ _ HZ6.out) Tryz.underlying51 rfl HDI2.out
    ·exact below_setRow hb6 (Nat.le_refl _) _
end Go.Proofs.YtlkbkclnbppigaaGreatDoor
