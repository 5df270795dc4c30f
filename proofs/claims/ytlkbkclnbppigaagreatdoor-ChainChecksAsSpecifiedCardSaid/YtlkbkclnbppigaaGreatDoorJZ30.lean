/- The seals of parts: seal.Make, the specification's Make. -/
import Derived.Test.YtlkbkclnbppigaaGreatDoorJZ28
import Derived.Test.YtlkbkclnbppigaaGreatDoorJZ27
set_option maxHeartbeats 8000000
namespace Go.Proofs.YtlkbkclnbppigaaGreatDoor
open Tryz
open Go.RowKit Go.Sort
set_option linter.unusedVariables false
set_option linter.unusedSimpArgs false
set_option maxRecDepth 100000
theorem RZ(w:World)(t:TypeId)(a b c:Value)(g:Nat)(hg:g=w.heap.size):aH (w.alloc (.cells #[a,b,c] t)) 1 (some ⟨g,0,none⟩) 3 [a,b,c]:=by
 subst hg;refine⟨rfl,fun _=>⟨_,_,rfl,fun j u hu=>?_⟩⟩;rw[Nat.zero_add,cell_of_row _ _ _ _ _ _ (World.alloc_heap_new w (.cells #[a,b,c] t))];simpa using hu
theorem Hq(W:World)(s:ByteArray)(g:Nat)(hg:g=W.heap.size):aH (W.alloc (.cells #[.string s] 9)) 1 (some ⟨g,0,none⟩) 1 ([s].map .string):=by
 exact Q7
theorem fD(w:World)(o:Obj):Below w.heap.size w (w.alloc o):=(Below.refl _ _).alloc (Nat.le_refl _) _
theorem aFp(w0:World)(sec:ByteArray)(A:Option Addr)(n c:Nat)(ps:List ByteArray)(hR:aH w0 1 A n (ps.map .string))(hn:n<=1000)(g1 g2 g3:Nat)(h1:g1=w0.heap.size)(h2:g2=w0.heap.size+1)(h3:g3=w0.heap.size+2) :
  Calls prog 218 #[.slice (some ⟨g3,0,none⟩) 3 3] (((w0.alloc (.cells #[.string sec] 9)).alloc (.cells #[.string sec] 9)).alloc (.cells #[.slice (some ⟨g1,0,none⟩) 1 1,.slice A n c,.slice (some ⟨g2,0,none⟩) 1 1] 24))
   fun e w'=>∃ B d,e=.returned (.slice B (n+2) d)/\aH w' 1 B (n+2) ((sec :: ps++[sec]).map .string)/\Below w0.heap.size w0 w':=by
 obtain rfl:n=ps.length:=yZ;have b1:=fD w0 (.cells #[.string sec] 9);have b2:=fD (w0.alloc (.cells #[.string sec] 9)) (.cells #[.string sec] 9);have b3:=fD ((w0.alloc (.cells #[.string sec] 9)).alloc (.cells #[.string sec] 9)) (.cells #[.slice (some ⟨g1,0,none⟩) 1 1,.slice A ps.length c,.slice (some ⟨g2,0,none⟩) 1 1] 24);have hS:jw [⟨some ⟨g1,0,none⟩,1,[sec]⟩,⟨A,c,ps⟩,⟨some ⟨g2,0,none⟩,1,[sec]⟩]=sec :: ps++[sec]:=by simp[jw]
 have hL:iH [⟨some ⟨g1,0,none⟩,1,[sec]⟩,⟨A,c,ps⟩,⟨some ⟨g2,0,none⟩,1,[sec]⟩]=ps.length+2:=by simp[iH];omega
 have hc:=aEx (some ⟨g3,0,none⟩) 3 3 [⟨some ⟨g1,0,none⟩,1,[sec]⟩,⟨A,c,ps⟩,⟨some ⟨g2,0,none⟩,1,[sec]⟩] (((w0.alloc (.cells #[.string sec] 9)).alloc (.cells #[.string sec] 9)).alloc (.cells #[.slice (some ⟨g1,0,none⟩) 1 1,.slice A ps.length c,.slice (some ⟨g2,0,none⟩) 1 1] 24))
  (by
   have:=RZ ((w0.alloc (.cells #[.string sec] 9)).alloc (.cells #[.string sec] 9)) 24 (.slice (some ⟨g1,0,none⟩) 1 1) (.slice A ps.length c) (.slice (some ⟨g2,0,none⟩) 1 1) g3 (by simp[h3])
   simpa[SlM.val] using this)
  (by
   intro s hs
   simp only[List.mem_cons,List.not_mem_nil,or_false]at hs
   rcases hs with rfl | rfl | rfl
   ·exact ((Hq w0 sec g1 h1).keep b2).keep b3
   ·have:=((hR.keep b1).keep b2).keep b3
    exact this
   ·exact (Hq (w0.alloc (.cells #[.string sec] 9)) sec g2 (by simp[h2])).keep b3)
  (by rw[hL];omega) (by rw[hL];omega) aA
 rw[hS]at hc;refine hc.mono ?_;rintro e w' ⟨B,d,rfl,hown,hb⟩;have hll:(sec :: ps++[sec]).length=ps.length+2:=aF;rw[hll]at hown ⊢;exact⟨B,d,rfl,aH.of_own hown,aN (aN (aN b1 b2) b3) hb⟩
theorem lM:(prog.info? 30).map (·.size)=some 16:=by kernel_rfl
theorem sN{w:World}{g:Nat}{X:Array Value}{t:TypeId}(hg:w.heap[g]? = some (.cells X t (0,0)))(hs:X.size=16):(loadVar 30 ⟨g,0,none⟩).run prog w=.ok (.agg X) w :=
 run_loadVar_row (P:=prog) w g _ 30 X _ _ hg underlying30 rfl (by rw[hs];exact lM)
theorem aFq(k:aY)(tag:Nat)(ht:tag<256)(A:Option Addr)(n c:Nat)(ps:List ByteArray)(w:World)(hR:aH w 1 A n (ps.map .string))(hn:n<=1000)(hk:k.secret.size<=1000000)(hs:∀ s∈ps,s.size<=1000000)(hK:Ks w) :
  Calls prog 160 #[k.val,.int .i64 (tag:Int),.slice A n c] w (Ret w (.agg (b8 (yz k tag ps)).toArray)):=by
 have hl:ps.length=n:=vH;have hO:=fun (B:Option Addr) (d:Nat) (W:World) (hr:aH W 1 B (n+2) ((k.secret :: ps++[k.secret]).map .string)) (hb:Below w.heap.size w W)=>GL tag ht B (n+2) d (k.secret :: ps++[k.secret]) W hr aA (by
  intro s h;simp only[List.cons_append,List.mem_cons,List.mem_append,List.not_mem_nil,or_false]at h;rcases h with rfl | h | rfl
  ·exact hk
  ·exact hs s h
  ·exact hk) (hK.keep hb)
 show Calls prog 160 _ w (Ret w (.agg (b8 (Sha.ofD tag ((k.secret :: ps++[k.secret]).map nb))).toArray));have hok:=qm tag ((k.secret :: ps++[k.secret]).map nb);have hC:=fun (w0:World) (hb:Below w.heap.size w w0)=>aFp w0 k.secret A n c ps (hR.keep hb) hn
 have hDS:(b8 (Sha.ofD tag ((k.secret :: ps++[k.secret]).map nb))).toArray.size=16:=by rw[List.size_toArray,dH];exact hok.len
 have hDO:(b8 (Sha.ofD tag ((k.secret :: ps++[k.secret]).map nb))).toArray.all (·.oneCell')=true:=mf _;generalize (b8 (Sha.ofD tag ((k.secret :: ps++[k.secret]).map nb))).toArray=DG at *;have HO:=aB hO;have HDS:=aB hDS;have HDO:=aB hDO;have HDI:=aB (show (prog.info? 30).map (·.size)=some DG.size by rw[hDS];exact lM);clear hO hDS hDO hok hs hR hK hl;rw[aY.val_arr];have kc:k.arr[2]? = some (.string k.secret):=rfl;generalize k.arr=X at *;generalize k.secret=sec at *;go_enter func160,ntmps160;go_upto_region 1 with fail
 generalize hw0:World.alloc _ _=w0;obtain⟨ZS,hZS⟩:∃ ZS:Array Value,ZS=(b8 (List.replicate 16 0)).toArray:=⟨_,rfl⟩;have hx:aQ w0 w.heap.size 23 X:=by rw[<-hw0];exact (fJ w _ _).1
 have hz:aQ w0 (w.heap.size+1) 30 ZS:=by rw[<-hw0,hZS];exact (fJ w _ _).2
 have hb0:Below w.heap.size w w0:=mP;have HZS:=aB (show ZS.size=16 by rw[hZS];rfl);have HC:=aB (hC w0 hb0);have y2:=hx.cell kc;have hzl:=bf y2;clear hw0 hZS hC kc hx;go_wp2_with (first | (go_at_call 218;refine (HC.out _ _ _ aF aF aF).mono ?_;rintro e w1 ⟨B,d,rfl,hR1,hb1⟩) | (go_at_call 56;refine (HO.out _ _ _ hR1 (aN hb0 hb1)).mono ?_;rintro e w2 ⟨rfl,hb2⟩;have hz2:=(hz.keep hb1).keep hb2;have hbw:=aN (aN hb0 hb1) hb2) | (refine wpList_store_row rfl _ _ _ rfl (w.heap.size+1) DG rfl rfl _ ZS hz2 HDI.out Cf HDO.out ?_));exact Rf
theorem Rh(B:Nat):∀ l:List (List UInt8),(∀ p∈l,p.length<=B)->(dO l).length<=l.length*(B+1)
 | [],_=>by simp[dO]
 | p :: l,h=>by
  have h1:=h p aF;have h2:=Rh B l (fun q hq=>h q (by simp[hq]));simp only[dO,List.flatMap_cons,List.length_append,List.length_cons,Nat.succ_mul]at h2 ⊢;omega
theorem Ri{p:bJ}(h:iE p):(eP p.kind p.text).size<=66:=by
 have e:=qH p.kind p.text;rw[iL,e];rcases h with ⟨hk,hw⟩ | ⟨hk,s,hs,hs2,ht⟩ | ⟨hk,ht⟩
 ·have:=(yF hw).2.2.2;rw[iL]at this;rw[if_pos hk];omega
 ·rw[if_neg aA,ht];rw[iL]at hs2;simp only[List.length_cons];omega
 ·rw[if_neg aA,ht];decide
theorem aFr{z:Pat}(h:mg z):(ku z).size<=10000:=by
 rw[yX,iL,yV];have h1:=Ri h.cust.part;rw[iL]at h1;have h2:=Rh 66 (bD (dM z.parts++jS z.tail)) (by
  intro p hp;obtain⟨x,hx,rfl⟩:=List.mem_map.1 hp;rw[<-iL];rcases List.mem_append.1 hx with hx | hx
  ·obtain⟨y,hy,rfl⟩:=List.mem_map.1 hx;exact Ri (h.parts y hy)
  ·unfold jS at hx;split at hx
   ·rw[List.mem_singleton.1 hx];decide
   ·cases hx)
 have h3:=h.num;have h4:(bD (dM z.parts++jS z.tail)).length<=33:=by
  unfold bD dM jS;rw[List.length_map,List.length_append,List.length_map];split <;> simp <;> omega
 rw[List.length_append];have:=Nat.mul_le_mul_right 67 h4;omega
theorem aFs{p q:ByteArray}(hp:iF p=true)(hq:iF q=true)(h1:p.size<=100000)(h2:q.size<=100000):(qP p q).size<=100000:=by
 by_cases a:p.size=0
 ·rw[(Gv (.inl a)).1,if_pos a];exact h2
 by_cases b:q.size=0
 ·rw[(Gv (.inr b)).1,if_neg a];exact h1
 unfold iF at hp hq;rw[decide_eq_false a,Bool.false_or]at hp;rw[decide_eq_false b,Bool.false_or]at hq;obtain⟨x,hx⟩:=Option.isSome_iff_exists.1 hp;obtain⟨y,hy⟩:=Option.isSome_iff_exists.1 hq;unfold qP;rw[N8 a b hx hy];cases hc:kL x y with
 | none=>show (0:Nat)<=_;omega
 | some z =>
  have:=aFr (Nj (uG hx) (uG hy) hc).1;show (ku z).size<=_;omega
theorem aFt{a b:aZ}(ha:lC a)(hb:lC b)(fa:dG a)(fb:dG b):bG (jT a b)=true/\dG (jT a b):=by
 have hv:=(mi _).2 (aAe ha hb);refine⟨hv,Q8 hv ?_⟩;rw[QP];split
 ·exact aFs ha.pat hb.pat fa.p fb.p
 ·decide
theorem Rj(c:aZ)(m n:af)(w:World)(hm:bz w c m)(hn:bz w c n)(h:dG c):Calls prog 21 #[af.val c m,af.val c n] w (Ret w (.bool true)):=Zf c.fr c.till c.us c.pat m.A m.B m.S n.A n.B n.S c.cl.length m.ca c.co.length m.cb c.si.length m.cs n.ca n.cb n.cs c.cl c.co c.si w hm.cl hm.co hm.si hn.cl hn.co hn.si (by have:=h.n1;omega) (by have:=h.n2;omega) (by have:=h.n3;omega)
def zF(w:World)(g:Nat)(c:aZ)(m:af):Prop:=aV w g c.fr c.till c.pat m.A c.cl.length m.ca m.B c.co.length m.cb m.S c.si.length m.cs c.us
theorem zF.facts{w:World}{g:Nat}{c:aZ}{m:af}(h:zF w g c m) :
  w.cell? ⟨g,0,none⟩=some (.int .i64 c.fr)/\w.cell? ⟨g,1,none⟩=some (.int .i64 c.till)/\w.cell? ⟨g,2,none⟩=some (.string c.pat)/\w.cell? ⟨g,3,none⟩=some (.slice m.A c.cl.length m.ca)/\w.cell? ⟨g,4,none⟩=some (.slice m.B c.co.length m.cb)/\w.cell? ⟨g,5,none⟩=some (.slice m.S c.si.length m.cs)/\w.cell? ⟨g,6,none⟩=some (.int .i64 c.us):=aV.facts h
theorem zF.keep{w w':World}{g:Nat}{c:aZ}{m:af}(h:zF w g c m)(hb:Below w.heap.size w w'):zF w' g c m:=Blk.keep h hb
def zG(w:World)(g:Nat)(q:bn):Prop:=eu w g q.addr q.client q.country q.site q.lo q.hi
theorem zG.facts{w:World}{g:Nat}{q:bn}(h:zG w g q) :
  w.cell? ⟨g,0,none⟩=some (.string q.addr)/\w.cell? ⟨g,1,none⟩=some (.string q.client)/\w.cell? ⟨g,2,none⟩=some (.string q.country)/\w.cell? ⟨g,3,none⟩=some (.int .i64 q.site)/\w.cell? ⟨g,4,none⟩=some (.int .i64 q.lo)/\w.cell? ⟨g,5,none⟩=some (.int .i64 q.hi):=eu.facts h
theorem zG.keep{w w':World}{g:Nat}{q:bn}(h:zG w g q)(hb:Below w.heap.size w w'):zG w' g q:=Blk.keep h hb
def nI(c:aZ):ByteArray × Int:=if bG c then (bF c,0) else (⟨#[]⟩,1)
theorem aFu(c:aZ)(m:af)(w:World)(hR:bz w c m)(hc:dG c)(hE:Env w)(hT:Tab w):Calls prog 132 #[af.val c m] w (Ret w (.tuple #[.string (nI c).1,.int .i64 (nI c).2])):=by
 unfold nI;cases hv:bG c
 ·exact aDi c m w hR hc hv hE
 ·exact PN c m w hR hc hv hE hT
def WB(w:World)(g:Nat)(s:ByteArray)(e:Int):Prop:=Blk w g 169 #[.string s,.int .i64 e] (0,0)
theorem WB.facts{w:World}{g:Nat}{s:ByteArray}{e:Int}(h:WB w g s e):w.cell? ⟨g,0,none⟩=some (.string s)/\w.cell? ⟨g,1,none⟩=some (.int .i64 e):=⟨Blk.cell h 0,Blk.cell h 1⟩
theorem WB.keep{w w':World}{g:Nat}{s:ByteArray}{e:Int}(h:WB w g s e)(hb:Below w.heap.size w w'):WB w' g s e:=Blk.keep h hb
structure jA(c:aZ):Prop where
 fits:dG c
 ok:bG c=true
 tx:(bF c).size<=1000000
theorem Hr(c:aZ)(m:af)(w:World)(hR:bz w c m)(hc:jA c)(hE:Env w)(hT:Tab w):Calls prog 71 #[af.val c m] w (Ret w (.string (bF c))):=by
 have ht:=fun W (hb:Below w.heap.size w W)=>PN c m W (hR.keep hb) hc.fits hc.ok (hE.keep hb) (hT.keep hb)
 generalize bF c=tx at *;unfold af.val at *;have HT:=aB ht;clear ht hR hc hE hT;go_enter func71,ntmps71;go_wp2_with (go_at_call 132;refine (HT.out _ aG).mono ?_;rintro e w2 ⟨rfl,hb2⟩);go_ret;exact⟨aF,aG⟩
def zH(a b:ByteArray):Value->World->Prop:=fun v W=>∃ g,v=.slice (some ⟨g,0,none⟩) 2 2/\aH W 1 (some ⟨g,0,none⟩) 2 ([a,b].map .string)
theorem Rk(a b:ByteArray):wP (zH a b):=fun _ _ _ ⟨g,e,hr⟩ hb=>⟨g,e,hr.keep hb⟩
theorem Ht(w:World)(a b:ByteArray)(g:Nat)(hg:g=w.heap.size):aH (w.alloc (.cells #[.string a,.string b] 9)) 1 (some ⟨g,0,none⟩) 2 ([a,b].map .string):=by
 subst hg;refine⟨rfl,fun _=>⟨_,_,rfl,fun j u hu=>?_⟩⟩;rw[Nat.zero_add,cell_of_row _ _ _ _ _ _ (World.alloc_heap_new w (.cells #[.string a,.string b] 9))];simpa using hu
structure NxS(w:World)(X Y Z:Array Value)(W:World):Prop where
 x:aQ W w.heap.size 30 X
 y:aQ W (w.heap.size+1) 27 Y
 z:aQ W (w.heap.size+2) 30 Z
 b:Below w.heap.size w W
 s:w.heap.size+2<W.heap.size
theorem NxS.keep{w W W':World}{X Y Z:Array Value}(h:NxS w X Y Z W)(hb:Below W.heap.size W W'):NxS w X Y Z W':=⟨h.x.keep hb,h.y.keep hb,h.z.keep hb,aN h.b hb,Nat.lt_of_lt_of_le h.s hb.size⟩
theorem iU(w:World)(A B C:Obj):(((w.alloc A).alloc B).alloc C).heap[w.heap.size]? = some A/\(((w.alloc A).alloc B).alloc C).heap[w.heap.size+1]? = some B/\(((w.alloc A).alloc B).alloc C).heap[w.heap.size+2]? = some C:=by
 refine⟨?_,?_,?_⟩
 ·exact (heap_alloc_old ((w.alloc A).alloc B) C aJ).trans (heap_alloc2_old w A B)
 ·exact (heap_alloc_old ((w.alloc A).alloc B) C aF).trans (heap_alloc2_new w A B)
 ·have:=heap_alloc_new ((w.alloc A).alloc B) C;simpa using this
theorem jZ{w:World}{g:Nat}{Y:Array Value}{t:TypeId}(hg:w.heap[g]? = some (.cells Y t (0,0)))(hs:Y.size=7):(loadVar 27 ⟨g,0,none⟩).run prog w=.ok (.agg Y) w :=
 run_loadVar_row (P:=prog) w g _ 27 Y _ _ hg underlying27 rfl (by rw[hs];kernel_rfl)
theorem aFv{w:World}{g:Nat}{t:TypeId}{l:List Nat}(hl:l.length=16)(hg:w.heap[g]? = some (.cells (b8 l).toArray t (0,0))):aH w 1 (some ⟨g,0,none⟩) 16 (b8 l):=by
 refine⟨by rw[dH,hl],fun _=>⟨_,_,rfl,fun j u hu=>?_⟩⟩;rw[Nat.zero_add,cell_of_row _ _ _ _ _ _ hg];simpa using hu
theorem Rl(l:List Nat)(hl:eU l)(c:aZ)(m:af)(w:World)(hR:bz w c m)(hc:jA c)(hE:Env w)(hTb:Tab w)(hK:Ks w):Calls prog 52 #[.agg (b8 l).toArray,af.val c m] w (Ret w (.agg (b8 (jI l c)).toArray)):=by
 have hO:=fun (g:Nat) (W:World) (hr:aH W 1 (some ⟨g,0,none⟩) 2 ([toN l,bF c].map .string)) (hb:Below w.heap.size w W)=>GL 45 aK (some ⟨g,0,none⟩) 2 2 [toN l,bF c] W hr aA (by
  intro s h;simp only[List.mem_cons,List.not_mem_nil,or_false]at h;rcases h with rfl | rfl
  ·rw[yL,hl.len];omega
  ·exact hc.tx) (hK.keep hb)
 have hD:=fun (W:World) (h:W.heap[w.heap.size]? = some (.cells (b8 l).toArray 30 (0,0)))=>vU W (some ⟨w.heap.size,0,none⟩) 16 16 l hl.len hl.lt aA (aFv hl.len h)
 have hT:=fun (W:World) (hb:Below w.heap.size w W)=>Hr c m W (hR.keep hb) hc (hE.keep hb) (hTb.keep hb)
 have hDS:(b8 (Sha.ofD 45 ([toN l,bF c].map nb))).toArray.size=16:=Hu;have hDO:(b8 (Sha.ofD 45 ([toN l,bF c].map nb))).toArray.all (·.oneCell')=true:=mf _;have hnx:Sha.ofD 45 ([toN l,bF c].map nb)=jI l c:=by
  show Sha.ofD 45 [nb (toN l),nb (bF c)]=_;rw[yK hl.lt];rfl
 rw[hnx]at hDS hDO hO;generalize (b8 (jI l c)).toArray=DG at *;have hXS:(b8 l).toArray.size=16:=by rw[List.size_toArray,dH];exact hl.len
 generalize (b8 l).toArray=X at *;generalize toN l=sx at *;generalize bF c=tx at *;obtain⟨Y,hY,hYS⟩:∃ Y:Array Value,af.val c m=.agg Y/\Y.size=7:=⟨_,rfl,rfl⟩;rw[hY]at hT ⊢;have HO:=aB hO;have HD:=aB hD;have HT:=aB hT;have HDS:=aB hDS;have HDO:=aB hDO;have HXS:=aB hXS;have HYS:=aB hYS;have HDI:=aB (show (prog.info? 30).map (·.size)=some DG.size by rw[hDS];exact lM);clear hO hD hT hDS hDO hXS hY hYS hnx hR hc hK hl hE hTb;go_enter func52,ntmps52;go_upto_region 1 with fail
 generalize hw0:World.alloc _ _=w0;obtain⟨ZS,hZS⟩:∃ ZS:Array Value,ZS=(b8 (List.replicate 16 0)).toArray:=⟨_,rfl⟩;have hS0:NxS w X Y ZS w0:=by
  exact Rn
 have HZS:=aB (show ZS.size=16 by rw[hZS];rfl);clear hw0 hZS;have HS0:=aB hS0;refine pO 6 aC aC aC (DL [IsV (.slice (some ⟨w.heap.size,0,none⟩) 16 16),IsV (.string sx),IsV (.agg Y),IsV (.string tx),zH sx tx,IsV (.agg DG)]) (DL.keep _ Ro) (NxS w X Y ZS) (HS0.out.keep (Below.drew (Below.refl _ _))) (fun _ _ h hb=>h.keep hb) ?_ ?_
 ·dsimp only[List.take_succ_cons,List.take_zero,lq];refine⟨fun vals W hS hd=>?_,fun vals W hS hd=>?_,fun vals W hS hd=>?_,fun vals W hS hd=>?_,fun vals W hS hd=>?_,fun vals W hS hd=>?_,trivial⟩
  ·exact lI
  ·(try simp only[bP,DL,IsV,ai,Region.binds,and_true,true_and]at hd);simp only[aX,bQ,Act.put];(try simp only[hd]);clear hd;have hcv:=HD.out W hS.x;go_wp2;exact⟨rfl,rfl,rfl,aG⟩
  ·exact Hw
  ·(try simp only[bP,DL,IsV,ai,Region.binds,and_true,true_and]at hd);simp only[aX,bQ,Act.put];(try simp only[hd]);clear hd;have hbW:=hS.b;go_wp2_with (go_at_call 71;refine (HT.out _ hbW).mono ?_;rintro e w5 ⟨rfl,hb5⟩);exact⟨rfl,rfl,rfl,aG⟩
  ·exact Hw
  ·exact Rq
 ·intro vals w9 hS9 hD9;have e5:vals 5=.agg DG:=hD9 5 aA;simp only[aX,bQ,Act.put];exact Rt
def AlS(base:Nat)(ZS:Array Value):Value->World->Prop:=fun v W=>∃ g,v=.pointer (some ⟨g,0,none⟩)/\aQ W g 30 ZS/\base<=g
theorem aFw(base:Nat)(ZS:Array Value):wP (AlS base ZS):=fun _ _ _ ⟨g,e,hk,hg⟩ hb=>⟨g,e,hk.keep hb,hg⟩
def iD(k:aY)(t:dB)(i:Nat):List Nat:=(t.conds.tail.take (i-1)).foldl jI (wC k t)
theorem Ru{k:aY}{t:dB}{i:Nat}{c:aZ}(h0:1<=i)(h:t.conds[i]? = some c):iD k t (i+1)=jI (iD k t i) c:=by
 obtain⟨j,rfl⟩:∃ j,i=j+1:=⟨i-1,aA⟩;have ht:t.conds.tail[j]? = some c:=by rw[List.getElem?_tail];exact h
 unfold iD;exact Rw
theorem Rx(k:aY)(t:dB):iD k t t.conds.length=fA k t:=by
 unfold iD fA;rw[List.take_of_length_le aF]
theorem Ci(k:aY)(t:dB)(i:Nat):eU (iD k t i):=by
 unfold iD;exact Py
structure RtS(w:World)(K:Array Value)(x:ag)(Z:Array Value)(W:World):Prop where
 k:aQ W w.heap.size 23 K
 t:fB W (w.heap.size+1) x
 z:aQ W (w.heap.size+2) 30 Z
 b:Below w.heap.size w W
 s:w.heap.size+2<W.heap.size
theorem RtS.keep{w W W':World}{K Z:Array Value}{x:ag}(h:RtS w K x Z W)(hb:Below W.heap.size W W'):RtS w K x Z W':=⟨h.k.keep hb,h.t.keep hb,h.z.keep hb,aN h.b hb,Nat.lt_of_lt_of_le h.s hb.size⟩
theorem uZ{x:ag}{w:World}(hR:bV w x){i:Nat}{y:CoM}(h:x.L[i]? = some y):x.t.conds[i]? = some y.c:=by rw[<-hR.same,List.getElem?_map,h];rfl
theorem Ry(s:ByteArray)(hs:s.size<=100000)(k:Nat):((splitB 32 s).getD k aT).size<=100000:=by
 rw[List.getD_eq_getElem?_getD];cases h:(splitB 32 s)[k]? with
 | none=>show aT.size<=_;decide
 | some x=>have:=nY 32 s x (List.mem_of_getElem? h);simp;omega
theorem aFx(s:ByteArray)(h:s.size<=100000):(unT s).size<=100000:=by
 unfold unT;split
 ·decide
 ·exact h
theorem Rz(num:ByteArray->Int)(Ls:List ByteArray)(hz:∀ k,(Ls.getD k aT).size<=100000):dG (iC num Ls):=by
 have n:=fun k=>Qm (Ls.getD k aT)
 have z:=fun k x (hx:x∈dE (Ls.getD k aT))=>Qn (Ls.getD k aT) x hx
 refine⟨aFx _ (hz 2),fun x hx=>Nat.le_trans (z 3 x hx) (hz 3),fun x hx=>Nat.le_trans (z 4 x hx) (hz 4),?_,?_,?_⟩
 ·have h1:=n 3;have h2:=hz 3;show (dE (Ls.getD 3 aT)).length<=_;omega
 ·have h1:=n 4;have h2:=hz 4;show (dE (Ls.getD 4 aT)).length<=_;omega
 ·have h1:=n 5;have h2:=hz 5;show ((dE (Ls.getD 5 aT)).map num).length<=_;rw[List.length_map];omega
theorem aFy:dG fV:=Q8 ((mi _).2 OB) aK
theorem aFz(s:ByteArray)(hs:s.size<=100000):dG ((sF s).getD fV):=by
 unfold sF;split
 ·exact Rz _ _ (Ry s hs)
 ·exact aFy
theorem aGa(c:aZ)(s:ByteArray):(bG c=true/\bF c=s)↔((nI c).2=0/\(nI c).1=s):=by
 unfold nI;cases bG c <;> simp
end Go.Proofs.YtlkbkclnbppigaaGreatDoor
