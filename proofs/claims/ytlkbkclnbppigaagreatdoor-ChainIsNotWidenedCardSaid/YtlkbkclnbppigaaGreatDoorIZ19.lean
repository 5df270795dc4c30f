/- What 'both', 'Meet' and 'Both' return. -/
import Derived.Test.YtlkbkclnbppigaaGreatDoorIZ16
import Derived.Test.YtlkbkclnbppigaaGreatDoorIZ17
set_option maxHeartbeats 8000000
namespace Go.Proofs.YtlkbkclnbppigaaGreatDoor
open Tryz
open Go.RowKit Go.Sort
set_option linter.unusedVariables false
set_option linter.unusedSimpArgs false
set_option maxRecDepth 100000
def mQ(p q:aC):Option (Option Pat):=match dI p,dI q with
 | some x,some y=>some (jL x y)
 | _,_=>none
def qU(r:Option (Option Pat))(w:World)(e:Ending)(w':World):Prop :=
 aF w w'/\match r with
 | none=>∃(k:Nat)(t:aC)(A:Option Addr)(n c:Nat)(b:Bool),e=.returned (.tuple #[.agg #[.int .i64 k,.string t,.slice A n c,.bool b],.bool false,.int .i64 1])
 | some none=>∃(k:Nat)(t:aC)(A:Option Addr)(n c:Nat)(b:Bool),e=.returned (.tuple #[.agg #[.int .i64 k,.string t,.slice A n c,.bool b],.bool false,.int .i64 0])
 | some (some p)=>∃ A c,e=.returned (.tuple #[.agg #[.int .i64 p.cust.kind,.string p.cust.text,.slice A p.parts.length c,.bool p.tail],.bool true,.int .i64 0])/\aI w' 2 A p.parts.length (eG p.parts)
theorem BO:∀(xs ys acc r:List bI),oZ xs->oZ ys->oZ acc->mtL acc xs ys=some r->oZ r/\r.length=acc.length+xs.length
 | [],ys,acc,r,_,_,h,e=>by
  have:mtL acc [] ys=some acc:=by cases ys <;> rfl
  rw[this]at e;injection e with e;subst e;exact⟨h,aH⟩
 | a :: xs,[],acc,r,hx,hy,h,e=>by
  rw[mtL]at e;have:=BO xs [] (acc++[a]) r (fun p hp=>hx p oV) hy (fun p hp=>by
   rcases List.mem_append.1 hp with hp | hp
   ·exact h p hp
   ·rw[List.mem_singleton.1 hp];exact hx a aH) e
  exact⟨this.1,by rw[this.2];simp;omega⟩
 | a :: xs,b :: ys,acc,r,hx,hy,h,e=>by
  rw[mtL]at e;split at e
  ·have ha:=hx a aH;have hb:=hy b aH;have:=BO xs ys (acc++[fD a b]) r (fun p hp=>hx p oV) (fun p hp=>hy p oV) (fun p hp=>by
    rcases List.mem_append.1 hp with hp | hp
    ·exact h p hp
    ·rw[List.mem_singleton.1 hp];exact Am ha.1 hb.1 ha.2 hb.2) e
   exact⟨this.1,by rw[this.2];simp;omega⟩
  ·cases e
theorem IE{x y z:Pat}(hx:kQ x)(hy:kQ y)(h:oz x y=some z):kQ z:=by
 unfold oz at h;split at h
 ·cases h
 ·obtain⟨l,hl,rfl⟩:=Option.map_eq_some_iff.1 h;have:=BO _ _ [] l hx.parts hy.parts (fun p hp=>by cases hp) hl;have hm:=Am hx.kind hy.kind hx.text hy.text;have hn:=hx.num;exact⟨hm.1,hm.2,this.1,by show l.length<=32;rw[this.2];simpa using hn⟩
theorem UO{x y z:Pat}(hx:kQ x)(hy:kQ y)(h:jL x y=some z):kQ z:=by
 unfold jL at h;split at h
 ·exact IE hy hx h
 ·exact IE hx hy h
theorem UQ{p q:aC}{z:Pat}(hp:p.size<=100000)(hq:q.size<=100000)(h:mQ p q=some (some z)):kQ z:=by
 unfold mQ at h;cases h1:dI p with
 | none=>rw[h1]at h;cases h
 | some x =>
  cases h2:dI q with
  | none=>rw[h1,h2]at h;cases h
  | some y =>
   rw[h1,h2]at h;injection h with h
   exact UO (ul p hp x h1) (ul q hq y h2) h
theorem IG{r:Option Pat}{w w':World}{e:Ending}(h:lH r w e w'):aF w w'/\∃(k:Nat)(t:aC)(A:Option Addr)(n c:Nat)(b:Bool),e=.returned (.tuple #[.agg #[.int .i64 k,.string t,.slice A n c,.bool b],.bool r.isSome]):=by
 refine⟨h.1,?_⟩;cases r with
 | none=>obtain⟨_,k,t,A,n,c,b,rfl⟩:=h;exact⟨k,t,A,n,c,b,rfl⟩
 | some p=>obtain⟨_,A,c,rfl,_⟩:=h;exact⟨_,_,_,_,_,_,rfl⟩
theorem qU.none_{w w':World}(k:Nat)(t:aC)(A:Option Addr)(n c:Nat)(b:Bool)(hb:aF w w'):qU none w (.returned (.tuple #[.agg #[.int .i64 k,.string t,.slice A n c,.bool b],.bool false,.int .i64 1])) w':=⟨hb,k,t,A,n,c,b,rfl⟩
theorem UR(p q:aC)(w:World)(hp:p.size<=100000)(hq:q.size<=100000)(hE:Env w):Calls prog 174 #[.string p,.string q] w (qU (mQ p q) w):=by
 have c1:=fun W h=>xU p W hp h
 have c2:=fun W h=>xU q W hq h
 have g1:=ul p hp;have g2:=ul q hq;unfold mQ;generalize dI p=r1 at *;generalize dI q=r2 at *;have hbad:r1.isSome=false\/r2.isSome=false->Calls prog 174 #[.string p,.string q] w (qU none w):=by
  intro hbad;have H1:=aA (fun W h=>(c1 W h).mono fun e w' k=>IG k);have H2:=aA (fun W h=>(c2 W h).mono fun e w' k=>IG k);clear c1 c2 g1 g2;generalize r1.isSome=o1 at *;generalize r2.isSome=o2 at *;clear r1 r2;cases o1
  ·exact IJ
  ·obtain rfl:o2=false:=by simpa using hbad
   exact IJ
 cases r1 with
 | none=>exact hbad (.inl rfl)
 | some x =>
  cases r2 with
  | none=>exact hbad (.inr rfl)
  | some y =>
   clear hbad;have cC:=fun A B ca cb W hA hB=>TJ x y A B ca cb W hA hB (g1 x rfl) (g2 y rfl)
   clear g1 g2;dsimp only;generalize jL x y=R at *;obtain⟨⟨xk,xt⟩,xs,xl⟩:=x;obtain⟨⟨yk,yt⟩,ys,yl⟩:=y;unfold xq at cC;dsimp only at cC;have H1:=aA c1;have H2:=aA c2;have HC:=aA cC;clear c1 c2 cC;unfold lH at H1 H2;dsimp only at H1 H2;cases R with
   | none =>
    go_enter func174,ntmps174;go_wp2_with (first | (go_at_call 147;refine (H1.out _ (Env.keep hE (aU (Below.refl _ _) _))).mono ?_;rintro e w1 ⟨hb1,A1,d1,rfl,hR1,_⟩;have hE1:=Env.keep hE (dZ _ hb1);have hB1:bJ w1 w.heap.size 0 ⟨#[]⟩ (.slice none 0 0) false:=(hb1.block w.heap.size aH).trans (World.alloc_heap_new _ _);have HR1:=aA hR1;clear hE hR1) | (go_at_call 147;refine (H2.out _ (Env.keep hE1 (aU (Below.refl _ _) _))).mono ?_;rintro e w2 ⟨hb2,A2,d2,rfl,hR2,_⟩;have hB2:bJ w2 w.heap.size 0 ⟨#[]⟩ (.slice none 0 0) false:=Blk.keep hB1 (dZ _ hb2);have hbw2:aF w w2:=aV (dZ _ hb1) (dZ _ hb2);have hX2:bJ w2 w1.heap.size xk xt (.slice A1 xs.length d1) xl:=(hb2.block w1.heap.size aH).trans (World.alloc_heap_new _ _);obtain⟨x0,x1,x2,x3,_⟩:=hX2.facts;have hz12:w1.heap.size<w2.heap.size:=Blk.lt hX2;have HR2:=aA hR2;have HR1':=aA (HR1.out.keep (dZ _ hb2));clear hE1 hR2 HR1) | (go_at_call 226;refine (HC.out _ _ _ _ _ (HR1'.out.keep (aU (Below.refl _ _) _)) (HR2.out.keep (aU (Below.refl _ _) _))).mono ?_;rintro e w3 ⟨hb3,k,t,A,n,c,b,rfl⟩;have hB3:bJ w3 w.heap.size 0 ⟨#[]⟩ (.slice none 0 0) false:=Blk.keep hB2 (dZ _ hb3);obtain⟨c0,c1,c2,c3,f0,f1,f2,f3⟩:=hB3.facts;have hz3:w.heap.size<w3.heap.size:=Blk.lt hB3;have hbw3:aF w w3:=aV hbw2 (dZ _ hb3);clear x0 x1 x2 x3));exact bodyPost_ret (v:=.tuple #[.agg #[.int .i64 k,.string t,.slice A n c,.bool b],.bool false,.int .i64 0]) IK rfl ⟨aJ,k,t,A,n,c,b,rfl⟩
   | some z =>
    obtain⟨⟨zk,zt⟩,zs,zl⟩:=z;go_enter func174,ntmps174;go_wp2_with (first | (go_at_call 147;refine (H1.out _ (Env.keep hE (aU (Below.refl _ _) _))).mono ?_;rintro e w1 ⟨hb1,A1,d1,rfl,hR1,_⟩;have hE1:=Env.keep hE (dZ _ hb1);have hB1:bJ w1 w.heap.size 0 ⟨#[]⟩ (.slice none 0 0) false:=(hb1.block w.heap.size aH).trans (World.alloc_heap_new _ _);have HR1:=aA hR1;clear hE hR1) | (go_at_call 147;refine (H2.out _ (Env.keep hE1 (aU (Below.refl _ _) _))).mono ?_;rintro e w2 ⟨hb2,A2,d2,rfl,hR2,_⟩;have hB2:bJ w2 w.heap.size 0 ⟨#[]⟩ (.slice none 0 0) false:=Blk.keep hB1 (dZ _ hb2);have hbw2:aF w w2:=aV (dZ _ hb1) (dZ _ hb2);have hX2:bJ w2 w1.heap.size xk xt (.slice A1 xs.length d1) xl:=(hb2.block w1.heap.size aH).trans (World.alloc_heap_new _ _);obtain⟨x0,x1,x2,x3,_⟩:=hX2.facts;have hz12:w1.heap.size<w2.heap.size:=Blk.lt hX2;have HR2:=aA hR2;have HR1':=aA (HR1.out.keep (dZ _ hb2));clear hE1 hR2 HR1));refine (HC.out _ _ _ _ _ (HR1'.out.keep (aU (Below.refl _ _) _)) (HR2.out.keep (aU (Below.refl _ _) _))).mono ?_;rintro e w3 ⟨hb3,A,c,rfl,hR3,hA3⟩;have hB3:bJ w3 w.heap.size 0 ⟨#[]⟩ (.slice none 0 0) false:=Blk.keep hB2 (dZ _ hb3);obtain⟨c0,c1,c2,c3,f0,f1,f2,f3⟩:=hB3.facts;have hz3:w.heap.size<w3.heap.size:=Blk.lt hB3;have hbw3:aF w w3:=aV hbw2 (dZ _ hb3);have HR3:=aA hR3;have hz2:w.heap.size<w2.heap.size:=Blk.lt hB2;have hA3':∀ a,A=some a->a.block≠w.heap.size:=(fun a ha=>by have:=hA3 a ha;simp at this;omega);have HA3:=aA hA3';clear x0 x1 x2 x3 hR3 hA3 hA3';go_wp2_with fail;exact bodyPost_ret (v:=.tuple #[.agg #[.int .i64 zk,.string zt,.slice A zs.length c,.bool zl],.bool true,.int .i64 0]) IK rfl ⟨aJ,A,c,rfl,((((HR3.out.set_ _ _ HA3.out).set_ _ _ HA3.out).set_ _ _ HA3.out).set_ _ _ HA3.out).keep (aU (Below.refl _ _) _)⟩
theorem UT{r:Option (Option Pat)}{w w':World}{e:Ending}(h:qU r w e w')(hr:r=none\/r=some none):aF w w'/\∃(k:Nat)(t:aC)(A:Option Addr)(n c:Nat)(b:Bool),e=.returned (.tuple #[.agg #[.int .i64 k,.string t,.slice A n c,.bool b],.bool false,.int .i64 (if r.isNone then 1 else 0)]):=by
 rcases hr with rfl | rfl
 ·obtain⟨hb,k,t,A,n,c,b,rfl⟩:=h;exact⟨hb,k,t,A,n,c,b,rfl⟩
 ·obtain⟨hb,k,t,A,n,c,b,rfl⟩:=h;exact⟨hb,k,t,A,n,c,b,rfl⟩
def yF(r:Option (Option Pat)):Value:=match r with
 | none=>.tuple #[.string ⟨#[]⟩,.bool false,.int .i64 1]
 | some none=>.tuple #[.string ⟨#[]⟩,.bool false,.int .i64 0]
 | some (some z)=>.tuple #[.string (jq z),.bool true,.int .i64 0]
def UU(r:Option (Option Pat)):Value:=match r with
 | none=>.tuple #[.bool false,.string ⟨#[]⟩,.int .i64 1]
 | some none=>.tuple #[.bool false,.string ⟨#[]⟩,.int .i64 0]
 | some (some z)=>.tuple #[.bool true,.string (jI (nM z.cust.kind z.cust.text ⟨#[97]⟩ :: qN z.parts)),.int .i64 0]
theorem UV(p q:aC)(w:World)(hp:p.size<=100000)(hq:q.size<=100000)(hE:Env w):Calls prog 111 #[.string p,.string q] w (Ret w (yF (mQ p q))):=by
 have c0:=UR p q w hp hq hE;have hg:=fun z=>UQ (z:=z) hp hq
 generalize mQ p q=r at *;clear hE;by_cases hr:r=none\/r=some none
 ·have H0:=aA (c0.mono fun e w' h=>UT h hr);clear c0 hg;have hv:yF r=.tuple #[.string ⟨#[]⟩,.bool false,.int .i64 (if r.isNone then 1 else 0)]:=by rcases hr with rfl | rfl <;> rfl
  rw[hv];clear hv hr;generalize (if r.isNone=true then (1:Int) else 0)=er at *;go_enter func111,ntmps111;go_wp2_with (go_at_call 174;refine H0.out.mono ?_;rintro e w1 ⟨hb1,k1,t1,A1,n1,d1,b1,rfl⟩);go_ret3;exact⟨rfl,aJ⟩
 ·obtain⟨z,rfl⟩:∃ z,r=some (some z):=by
   rcases r with _ | _ | z
   ·exact absurd (.inl rfl) hr
   ·exact absurd (.inr rfl) hr
   ·exact⟨z,rfl⟩
  have g:=hg z rfl;have H0:=aA c0;clear c0 hg hr;show Calls prog 111 #[.string p,.string q] w (Ret w (.tuple #[.string (jq z),.bool true,.int .i64 0]));have hn:=g.num;have cS:=fun A c W h=>SS z.cust.kind z.cust.text A z.parts.length c z.tail z.parts W h g.parts aB g.kind g.text
  obtain⟨⟨zk,zt⟩,zs,zl⟩:=z;dsimp only at cS;generalize jq ⟨⟨zk,zt⟩,zs,zl⟩=V at *;have HS:=aA cS;clear cS g hn;unfold qU at H0;dsimp only at H0;go_enter func111,ntmps111;go_wp2_with (first | (go_at_call 174;refine H0.out.mono ?_;rintro e w1 ⟨hb1,A,c,rfl,hR1⟩) | (go_at_call 175;refine (HS.out _ _ _ (hR1.keep (aU (Below.refl _ _) _))).mono ?_;rintro e w2 ⟨rfl,hb2⟩));go_ret3;exact⟨rfl,aJ⟩
theorem UW(w:World)(a:Addr)(n c:Nat)(hn:16<=n):(Instr.arrayAt 51 (.slice (some a) n c)).run prog w=.ok (.pointer (some a)) w:=by
 have h1:=run_underlying underlying51 w;have h2:¬ n<16:=aB;simp[Instr.arrayAt,h1,h2]
theorem BP(tag:Nat)(htag:tag<256)(A:Option Addr)(n c:Nat)(ps:List aC)(w:World)(hR:aI w 1 A n (ps.map .string))(hn:n<=10000)(hsz:∀ s∈ps,s.size<=1000000)(hK:Ks w) :
  Calls prog 56 #[.int .i64 (tag:Int),.slice A n c] w (Ret w (.agg (b8 (Sha.ofD tag (ps.map nb))).toArray)):=by
 have hpl:ps.length=n:=BQ;have hhl:=G5 tag ps hsz;have HR:=aA hR;have HS:=aA hsz;have HK:=aA hK;have HPL:=aA hpl;have HHL:=aA hhl;obtain⟨D,hD⟩:∃ D,D=b8 (Sha.ofD tag (ps.map nb)):=⟨_,rfl⟩;rw[<-hD];have HD:=aA hD;clear hR hsz hK hpl hhl hD;go_enter func56,ntmps56;go_upto_region 1 with fail
 generalize hw0:World.alloc _ _=w0;have hZ:aN w0 w.heap.size 51 (b8 (List.replicate 16 0)):=by rw[<-hw0];exact (heap_alloc_new w _).trans rfl
 have hbw:aF w w0:=oH;have hz0:w.heap.size<w0.heap.size:=aN.lt hZ;have HZ:=aA hZ;clear hw0 hZ;have ht0:(0:Int)<=tag:=aB;have ht1:IntKind.u8.wrap (tag:Int)=tag:=IntWalk.u8_in _ aB;go_cut [5] (fun s5 wx=>∃ g:Nat,s5=.pointer (some ⟨g,0,none⟩)/\w0.heap.size<=g/\qP wx g [tag]/\aF w0 wx)
 case first =>
  refine qI 7 aG aG (fun a b=>aF a b) (fun a=>Below.refl _ _) (fun a b c h k=>h.trans (k.mono h.size)) (D1 tag w0.heap.size) D1.keep (fun _ _=>True) trivial ?_ ?_
  ·skip;refine dL ?_ (dL ?_ (dL ?_ (dL ?_ (dL ?_ (dL ?_ (dL ?_ (uu)))))))
   ·intro ho L a W hC hi hl hJ hG hA hd;refine lM (f:=117) (args:=#[]) ho rfl (by simp[go_sem,execOp]) ?_;refine (Ti W).mono ?_;rintro e W' ⟨⟨v,rfl,hv⟩,hb'⟩;exact⟨_,rfl,hv,hb',trivial⟩
   ·intro ho L a W hC hi hl hJ hG hA hd;have t0:a.eval (.tmp 0)=.int .i64 (tag:Int):=pF hA aG;have u0:=(dM a 0).trans t0;exact kR (W':=W) ho rfl (by simp[go_sem,execOp,u0]) ⟨rfl,Below.refl _ _,trivial⟩
   ·intro ho L a W hC hi hl hJ hG hA hd;have t10:a.eval (.tmp 10)=.int .i64 (tag:Int):=gZ;have u10:=(dM a 10).trans t10;exact kR (v:=.int .u8 (tag:Int)) (W':=W) ho rfl (by simp[go_sem,execOp,u10,ht1]) ⟨rfl,Below.refl _ _,trivial⟩
   ·intro ho L a W hC hi hl hJ hG hA hd;have t11:a.eval (.tmp 11)=.int .u8 (tag:Int):=gZ;have u11:=(dM a 11).trans t11;exact kR (v:=.slice (some ⟨W.heap.size,0,none⟩) 1 1) (W':=W.alloc (.cells #[.int .u8 (tag:Int)] 5)) ho rfl (by simp[go_sem,execOp,u11]) ⟨⟨_,rfl,Blk.cell (World.alloc_heap_new W (.cells #[.int .u8 (tag:Int)] 5)) 0⟩,aU (Below.refl _ _) _,trivial⟩
   ·intro ho L a W hC hi hl hJ hG hA hd;obtain⟨b,t12,hcb⟩:∃ b,a.eval (.tmp 12)=.slice (some ⟨b,0,none⟩) 1 1/\W.cell? ⟨b,0,none⟩=some (.int .u8 (tag:Int)):=gZ;have u12:=(dM a 12).trans t12;have hcv:=ui W (some ⟨b,0,none⟩) 1 1 [tag] rfl (by intro x hx;rw[List.mem_singleton.1 hx];exact htag) aB ⟨rfl,fun _=>⟨b,0,rfl,fun j u hu=>by
     match j,hu with
     | 0,hu=>rw[<-Option.some.inj hu];exact hcb⟩⟩
    exact kR (v:=.string (toN [tag])) (W':=W) ho rfl (by simp[go_sem,execOp,u12,hcv]) ⟨rfl,Below.refl _ _,trivial⟩
   ·intro ho L a W hC hi hl hJ hG hA hd;obtain⟨v9,t9,hv9⟩:∃ v9,a.eval (.tmp 9)=v9/\iF [] v9:=⟨_,rfl,gZ⟩;have t13:a.eval (.tmp 13)=.string (toN [tag]):=qV;have u9:=(dM a 9).trans t9;have u13:=(dM a 13).trans t13;refine lM (f:=118) (args:=#[v9,.string (toN [tag])]) ho rfl (by simp[go_sem,execOp,u9,u13]) ?_;have hlen:([]:List Nat).length+(toN [tag]).size<=1000000000000:=by rw[xg];simp
    refine (Aa [] v9 (toN [tag]) W hv9 hlen (HK.out.keep ((Below.drew hbw).trans (hG.mono (by show w.heap.size<=w0.heap.size;omega))))).mono ?_;rintro e W' ⟨⟨v,rfl,hv⟩,hb'⟩;rw[xe (by intro x hx;rw[List.mem_singleton.1 hx];exact htag)]at hv;exact⟨_,rfl,hv,hb',trivial⟩
   ·intro ho L a W hC hi hl hJ hG hA hd;exact kR (v:=.pointer (some ⟨W.heap.size,0,none⟩)) (W':=W.alloc (.cells zeroCells152 152)) ho rfl (by simp[go_sem,execOp]) ⟨⟨_,rfl,by have:=hG.size;simpa using this,heap_alloc_new W _⟩,aU (Below.refl _ _) _,trivial⟩
  ·intro vals w' hG _ hD;obtain⟨g,e6,hg,hzz⟩:∃ g,vals 6=.pointer (some ⟨g,0,none⟩)/\w0.heap.size<=g/\w'.heap[g]? = some (.cells zeroCells152 152 (0,0)):=hD 6 aB;have e5:iF [tag] (vals 5):=hD 5 aB;obtain⟨X,e5x,hX,hX1⟩:=Gw e5;rw[e5x]at e5;simp only[kM,aZ,e6,e5x];generalize vals 0=v0;generalize vals 1=v1;generalize vals 2=v2;generalize vals 3=v3;generalize vals 4=v4;simp only[Act.put,ag];have hi73:(prog.info? 152).map (·.size)=some X.size:=by rw[hX];exact yA
   have hzs:zeroCells152.size=X.size:=by rw[hX];exact Tj
   refine wpList_store_row rfl _ _ _ rfl g X rfl rfl _ _ hzz hi73 hzs hX1 ?_;go_wp2_with fail;go_meet;exact⟨g,rfl,hg,⟨X,e5,setRow_heap _ _ _ _ _ _ hzz,hX⟩,below_setRow ((Below.drew (Below.refl _ _)).trans hG) hg _⟩
 case rest =>
  obtain⟨g,rfl,hg,hStr,hbc⟩:=hcut;have hZ1:aN wc w.heap.size 51 (b8 (List.replicate 16 0)):=aN.keep HZ.out hbc;have hbw1:aF w wc:=hbw.trans (hbc.mono aB);have HST:=aA hStr;have HZ1:=aA hZ1;clear hStr hZ1 HZ hbw hbc;have hgw:w.heap.size<g:=aB;go_wp2_with fail;go_loopw [17] (fun kv wr=>∃ k:Nat,k<=n/\kv=.int .i64 k/\Hid (qP wr g (mM tag ps k))/\Hid (aN wr w.heap.size 51 (b8 (List.replicate 16 0)))/\aF w wr) (fun kv _=>n-(intOf kv).toNat)
  case atStart=>exact⟨0,aB,rfl,aA (by rw[Gy];exact HST.out),HZ1,hbw1⟩
  case round =>
   obtain⟨k,hk,rfl,HSr,HZr,hbr⟩:=hrel;clear HST HZ1 hbw1;by_cases hlt:k<n
   ·obtain⟨pb,po,u,rfl,hu,hcell⟩:=(HR.out.keep hbr).at_ hlt;obtain⟨x,hx,rfl⟩:=pG hu;have hxs:=HS.out x (List.mem_of_getElem? hx);have hsucc:=Gz tag hx;have hml:=HHL.out k (by have:=HPL.out;omega);have hml2:(mM tag ps k).length<=20000000000:=aB;have hwb:=Gx x;obtain⟨X,hSX,hX,hXs⟩:=HSr.out;have HSU:=aA hsucc;have HSX:=aA hSX;have HXX:=aA hX;have HXS:=aA hXs;clear hu hx hsucc hml hSX hX hXs HSr;generalize mM tag ps k=m at *;go_wp2_with fail;have hgl:g<wr.heap.size:=by
     rcases Nat.lt_or_ge g wr.heap.size with hl | hl
     ·exact hl
     ·have:=HXX.out;rw[Array.getElem?_eq_none hl]at this;cases this
    refine qI 5 aG aG (fun a b=>aF a b) (fun a=>Below.refl _ _) (fun a b c h k=>h.trans (k.mono h.size)) (D2 m x) D2.keep (fun _ _=>True) trivial ?_ ?_
    ·skip;refine dL ?_ (dL ?_ (dL ?_ (dL ?_ (dL ?_ (uu)))))
     ·intro ho L a W hC hi hl hJ hG hA hd;have t5:a.eval (.tmp 5)=.pointer (some ⟨g,0,none⟩):=pF hA aG;have u5:=(dM a 5).trans t5;have hXW:W.heap[g]? = some (.cells X 152 (0,0)):=Aw (w:=wr.drew) HXX.out hG;have hld:=run_loadVar_row (P:=prog) W g 152 152 X (0,0) _ hXW underlying152 rfl (by rw[HXS.out];exact yA);exact kR (v:=.agg X) (W':=W) ho rfl (by unfold execOp;simp only[t5,Instr.loadAt,Instr.sureAddr,Sem.run_bind,Sem.run_pure,Result.andThen_ok,hld]) ⟨HSX.out,Below.refl _ _,trivial⟩
     ·intro ho L a W hC hi hl hJ hG hA hd;have t7:a.eval (.tmp 7)=.string x:=pF hA aG;have u7:=(dM a 7).trans t7;exact kR (W':=W) ho rfl (by simp[go_sem,execOp,u7]) ⟨rfl,Below.refl _ _,trivial⟩
     ·intro ho L a W hC hi hl hJ hG hA hd;have t22:a.eval (.tmp 22)=.string x:=gZ;have u22:=(dM a 22).trans t22;refine lM (f:=119) (args:=#[.string x]) ho rfl (by simp[go_sem,execOp,u22]) ?_;refine (TB x W aB).mono ?_;rintro e W' ⟨A2,c2,rfl,hown,hb'⟩;exact⟨_,rfl,⟨A2,c2,rfl,Gg hown⟩,hb',trivial⟩
     ·intro ho L a W hC hi hl hJ hG hA hd;obtain⟨A2,c2,t23,hR2⟩:∃ A2 c2,a.eval (.tmp 23)=.slice A2 (Sha.wireB (nb x)).length c2/\aI W 1 A2 (Sha.wireB (nb x)).length (b8 (Sha.wireB (nb x))):=gZ;have u23:=(dM a 23).trans t23;have hcv:=ui W A2 _ c2 (Sha.wireB (nb x)) rfl (Gh x aB) hwb.1 hR2;exact kR (v:=.string (toN (Sha.wireB (nb x)))) (W':=W) ho rfl (by simp[go_sem,execOp,u23,hcv]) ⟨rfl,Below.refl _ _,trivial⟩
     ·intro ho L a W hC hi hl hJ hG hA hd;obtain⟨v21,t21,hv21⟩:∃ v21,a.eval (.tmp 21)=v21/\iF m v21:=⟨_,rfl,gZ⟩;have t24:a.eval (.tmp 24)=.string (toN (Sha.wireB (nb x))):=qV;have u21:=(dM a 21).trans t21;have u24:=(dM a 24).trans t24;refine lM (f:=118) (args:=#[v21,.string (toN (Sha.wireB (nb x)))]) ho rfl (by simp[go_sem,execOp,u21,u24]) ?_;refine (Aa m v21 (toN (Sha.wireB (nb x))) W hv21 (by rw[xg];omega) (HK.out.keep ((Below.drew hbr).trans (hG.mono (by show w.heap.size<=wr.heap.size;omega))))).mono ?_;rintro e W' ⟨⟨v,rfl,hv⟩,hb'⟩;rw[xe (Gh x aB)]at hv;exact⟨_,rfl,hv,hb',trivial⟩
    ·intro vals w' hG _ hD;have e4:iF (m++Sha.wireB (nb x)) (vals 4):=hD 4 aB;obtain⟨Y,e4y,hY,hY1⟩:=Gw e4;rw[e4y]at e4;simp only[kM,aZ,e4y];generalize vals 0=v0;generalize vals 1=v1;generalize vals 2=v2;generalize vals 3=v3;simp only[Act.put,ag];have hXW:w'.heap[g]? = some (.cells X 152 (0,0)):=Aw (w:=wr.drew) HXX.out hG;have hi73:(prog.info? 152).map (·.size)=some Y.size:=by rw[hY];exact yA
     refine wpList_store_row rfl _ _ _ rfl g Y rfl rfl _ _ hXW hi73 (by rw[HXS.out,hY]) hY1 ?_;have hbw':aF w w':=(Below.drew hbr).trans (hG.mono (by show w.heap.size<=wr.heap.size;omega));go_wp2_with fail;refine⟨⟨k+1,aB,bg,aA ?_,aA ?_,below_setRow hbw' aB _⟩,dD⟩
     ·rw[HSU.out];exact⟨Y,e4,setRow_heap _ _ _ _ _ _ hXW,hY⟩
     ·exact aN.row_far (aN.keep (w:=wr.drew) HZr.out hG) _ _ aB
   ·have hkn:k=n:=aB;obtain⟨X,hSX,hX,hXs⟩:=HSr.out;rw[hkn,<-HPL.out,G6]at hSX;have hml:=HHL.out n (by have:=HPL.out;omega);rw[<-HPL.out,G6,HPL.out]at hml;have hsm:=TW (Sha.input tag (ps.map nb)) (.agg X) wr hSX aB (HK.out.keep hbr);have hDD:D=b8 ((Sha.sum (Sha.input tag (ps.map nb))).take 16):=HD.out;have hRl:(Sha.sum (Sha.input tag (ps.map nb))).length=32:=rfl;generalize Sha.sum (Sha.input tag (ps.map nb))=R at *;have HSM:=aA hsm;have HXX:=aA hX;have HXS:=aA hXs;have HDD:=aA hDD;have HRL:=aA hRl;clear hkn hSX hX hXs hml hsm hDD hRl HSr HD;have hi73:(prog.info? 152).map (·.size)=some X.size:=by rw[HXS.out];exact yA
    have HI:=aA hi73;clear hi73;obtain⟨Y,hY⟩:∃ Y,Y=(b8 R).toArray:=⟨_,rfl⟩;have hYs:Y.size=32:=by rw[hY,List.size_toArray,dU,HRL.out]
    have hY1:Y.all (·.oneCell')=true:=by rw[hY,List.all_toArray,List.all_eq_true];exact nC R
    have hYi:(prog.info? 156).map (·.size)=some Y.size:=by rw[hYs];kernel_rfl
    have hDl:D.length=16:=by rw[HDD.out,dU,List.length_take,HRL.out];rfl
    have hDi:(prog.info? 51).map (·.size)=some D.length:=by rw[hDl];kernel_rfl
    have hDi2:(prog.info? 51).map (·.size)=some D.toArray.size:=by rw[List.size_toArray];exact hDi
    have hD1:D.toArray.all (·.oneCell')=true:=by rw[HDD.out,List.all_toArray,List.all_eq_true];exact nC _
    have hDc:∀ j v,D[j]? = some v->(b8 R)[0+j]? = some v:=fun j v h=>by
     rw[HDD.out,zx]at h;rw[Nat.zero_add];rw[List.getElem?_take]at h;split at h
     ·exact h
     ·cases h
    have hz16:(b8 (List.replicate 16 0)).toArray.size=D.toArray.size:=by rw[List.size_toArray,List.size_toArray,hDl];rfl
    rw[<-hY]at HSM;have HY:=aA hY;have HYS:=aA hYs;have HY1:=aA hY1;have HYI:=aA hYi;have HDI:=aA hDi;have HDI2:=aA hDi2;have HD1:=aA hD1;have HDC:=aA hDc;have HZ16:=aA hz16;clear hY hYs hY1 hYi hDi hDi2 hD1 hDc hz16 hDl;go_upto_region 8 with (first | (refine wpList_load_row rfl _ _ rfl g rfl _ X (0,0) _ HXX.out underlying152 rfl HI.out ?_) | (go_at_call 120;refine HSM.out.mono ?_;rintro e w5 ⟨rfl,hb5⟩) | (refine wpList_store_row rfl _ _ _ rfl w5.heap.size Y rfl rfl _ (b8 (List.replicate 32 0)).toArray ((heap_alloc_new w5 _).trans rfl) HYI.out (by rw[HYS.out];rfl) HY1.out ?_))
    try simp only[Act.put,ag]
    have hs5:=hb5.size;have hzr5:aN w5 w.heap.size 51 (b8 (List.replicate 16 0)):=aN.keep HZr.out hb5;have hbw5:aF w w5:=hbr.trans (hb5.mono hbr.size);obtain⟨g8,hg8⟩:∃ g8,g8=w5.heap.size:=⟨_,rfl⟩;have hgw8:w.heap.size<g8:=by rw[hg8];exact aN.lt hzr5
    rw[<-hg8];generalize hw6:World.setRow _ _ _=w6;have hR6:w6.heap[g8]? = some (.cells (b8 R).toArray 156 (0,0)):=by
     rw[<-hw6,<-HY.out,hg8];exact setRow_heap _ _ _ _ _ _ (heap_alloc_new w5 _)
    have hZ6:aN w6 w.heap.size 51 (b8 (List.replicate 16 0)):=by rw[<-hw6];exact aN.row_far (aN.alloc hzr5 _) _ _ aB
    have hb6:aF w w6:=by rw[<-hw6];exact below_setRow (hbw5.alloc aB _) aB _
    have r16:∀ W,(Instr.arrayAt 51 (.slice (some ⟨g8,0,none⟩) 16 32)).run prog W=.ok (.pointer (some ⟨g8,0,none⟩)) W:=fun W=>UW W _ 16 32 aK
    have HR6:=aA hR6;have HZ6:=aA hZ6;clear hw6 hg8 hR6 hZ6 hzr5 hbw5 hb5 hs5 HZr hbr HXX HSM;go_wp2_with (first | (refine UY rfl _ _ rfl g8 0 rfl _ (b8 R) D (0,0) _ HR6.out HDC.out underlying51 rfl HDI.out ?_) | (refine wpList_store_row rfl _ _ _ rfl w.heap.size D.toArray rfl rfl _ _ HZ6.out HDI2.out HZ16.out HD1.out ?_));refine bodyPost_ret (v:=.agg D.toArray) ?_ rfl ⟨rfl,?_⟩
    ·exact results_cell_row rfl _ _ w.heap.size _ _ (0,0) _ rfl (setRow_heap _ _ _ _ _ _ HZ6.out) underlying51 rfl HDI2.out
    ·exact below_setRow hb6 (Nat.le_refl _) _
end Go.Proofs.YtlkbkclnbppigaaGreatDoor
