/- The seals of parts: seal.Make, the specification's Make. -/
import Derived.Test.YtlkbkclnbppigaaGreatDoorIZ28
import Derived.Test.YtlkbkclnbppigaaGreatDoorIZ27
set_option maxHeartbeats 8000000
namespace Go.Proofs.YtlkbkclnbppigaaGreatDoor
open Tryz
open Go.RowKit Go.Sort
set_option linter.unusedVariables false
set_option linter.unusedSimpArgs false
set_option maxRecDepth 100000
theorem MC(w:World)(t:TypeId)(a b c:Value)(g:Nat)(hg:g=w.heap.size):aI (w.alloc (.cells #[a,b,c] t)) 1 (some ⟨g,0,none⟩) 3 [a,b,c]:=by
 subst hg;refine⟨rfl,fun _=>⟨_,_,rfl,fun j u hu=>?_⟩⟩;rw[Nat.zero_add,cell_of_row _ _ _ _ _ _ (World.alloc_heap_new w (.cells #[a,b,c] t))];simpa using hu
theorem MF(W:World)(s:aC)(g:Nat)(hg:g=W.heap.size):aI (W.alloc (.cells #[.string s] 9)) 1 (some ⟨g,0,none⟩) 1 ([s].map .string):=by
 exact LZ
theorem fJ(w:World)(o:Obj):aF w (w.alloc o):=(Below.refl _ _).alloc (Nat.le_refl _) _
theorem Xh(w0:World)(sec:aC)(A:Option Addr)(n c:Nat)(ps:List aC)(hR:aI w0 1 A n (ps.map .string))(hn:n<=1000)(g1 g2 g3:Nat)(h1:g1=w0.heap.size)(h2:g2=w0.heap.size+1)(h3:g3=w0.heap.size+2) :
  Calls prog 218 #[.slice (some ⟨g3,0,none⟩) 3 3] (((w0.alloc (.cells #[.string sec] 9)).alloc (.cells #[.string sec] 9)).alloc (.cells #[.slice (some ⟨g1,0,none⟩) 1 1,.slice A n c,.slice (some ⟨g2,0,none⟩) 1 1] 24))
   fun e w'=>∃ B d,e=.returned (.slice B (n+2) d)/\aI w' 1 B (n+2) ((sec :: ps++[sec]).map .string)/\aF w0 w':=by
 obtain rfl:n=ps.length:=BQ;have b1:=fJ w0 (.cells #[.string sec] 9);have b2:=fJ (w0.alloc (.cells #[.string sec] 9)) (.cells #[.string sec] 9);have b3:=fJ ((w0.alloc (.cells #[.string sec] 9)).alloc (.cells #[.string sec] 9)) (.cells #[.slice (some ⟨g1,0,none⟩) 1 1,.slice A ps.length c,.slice (some ⟨g2,0,none⟩) 1 1] 24);have hS:iw [⟨some ⟨g1,0,none⟩,1,[sec]⟩,⟨A,c,ps⟩,⟨some ⟨g2,0,none⟩,1,[sec]⟩]=sec :: ps++[sec]:=by simp[iw]
 have hL:gG [⟨some ⟨g1,0,none⟩,1,[sec]⟩,⟨A,c,ps⟩,⟨some ⟨g2,0,none⟩,1,[sec]⟩]=ps.length+2:=by simp[gG];omega
 have hc:=XG (some ⟨g3,0,none⟩) 3 3 [⟨some ⟨g1,0,none⟩,1,[sec]⟩,⟨A,c,ps⟩,⟨some ⟨g2,0,none⟩,1,[sec]⟩] (((w0.alloc (.cells #[.string sec] 9)).alloc (.cells #[.string sec] 9)).alloc (.cells #[.slice (some ⟨g1,0,none⟩) 1 1,.slice A ps.length c,.slice (some ⟨g2,0,none⟩) 1 1] 24))
  (by
   have:=MC ((w0.alloc (.cells #[.string sec] 9)).alloc (.cells #[.string sec] 9)) 24 (.slice (some ⟨g1,0,none⟩) 1 1) (.slice A ps.length c) (.slice (some ⟨g2,0,none⟩) 1 1) g3 (by simp[h3])
   simpa[SlM.val] using this)
  (by
   intro s hs
   simp only[List.mem_cons,List.not_mem_nil,or_false]at hs
   rcases hs with rfl | rfl | rfl
   ·exact ((MF w0 sec g1 h1).keep b2).keep b3
   ·have:=((hR.keep b1).keep b2).keep b3
    exact this
   ·exact (MF (w0.alloc (.cells #[.string sec] 9)) sec g2 (by simp[h2])).keep b3)
  (by rw[hL];omega) (by rw[hL];omega) aB
 rw[hS]at hc;refine hc.mono ?_;rintro e w' ⟨B,d,rfl,hown,hb⟩;have hll:(sec :: ps++[sec]).length=ps.length+2:=aH;rw[hll]at hown ⊢;exact⟨B,d,rfl,aI.of_own hown,aV (aV (aV b1 b2) b3) hb⟩
theorem lh:(prog.info? 30).map (·.size)=some 16:=by kernel_rfl
theorem vP{w:World}{g:Nat}{X:Array Value}{t:TypeId}(hg:w.heap[g]? = some (.cells X t (0,0)))(hs:X.size=16):(loadVar 30 ⟨g,0,none⟩).run prog w=.ok (.agg X) w :=
 run_loadVar_row (P:=prog) w g _ 30 X _ _ hg underlying30 rfl (by rw[hs];exact lh)
theorem Xi(k:aj)(tag:Nat)(ht:tag<256)(A:Option Addr)(n c:Nat)(ps:List aC)(w:World)(hR:aI w 1 A n (ps.map .string))(hn:n<=1000)(hk:k.secret.size<=1000000)(hs:∀ s∈ps,s.size<=1000000)(hK:Ks w) :
  Calls prog 160 #[k.val,.int .i64 (tag:Int),.slice A n c] w (Ret w (.agg (b8 (Bq k tag ps)).toArray)):=by
 have hl:ps.length=n:=zY;have hO:=fun (B:Option Addr) (d:Nat) (W:World) (hr:aI W 1 B (n+2) ((k.secret :: ps++[k.secret]).map .string)) (hb:aF w W)=>BP tag ht B (n+2) d (k.secret :: ps++[k.secret]) W hr aB (by
  intro s h;simp only[List.cons_append,List.mem_cons,List.mem_append,List.not_mem_nil,or_false]at h;rcases h with rfl | h | rfl
  ·exact hk
  ·exact hs s h
  ·exact hk) (hK.keep hb)
 show Calls prog 160 _ w (Ret w (.agg (b8 (Sha.ofD tag ((k.secret :: ps++[k.secret]).map nb))).toArray));have hok:=qC tag ((k.secret :: ps++[k.secret]).map nb);have hC:=fun (w0:World) (hb:aF w w0)=>Xh w0 k.secret A n c ps (hR.keep hb) hn
 have hDS:(b8 (Sha.ofD tag ((k.secret :: ps++[k.secret]).map nb))).toArray.size=16:=by rw[List.size_toArray,dU];exact hok.len
 have hDO:(b8 (Sha.ofD tag ((k.secret :: ps++[k.secret]).map nb))).toArray.all (·.oneCell')=true:=uo _;generalize (b8 (Sha.ofD tag ((k.secret :: ps++[k.secret]).map nb))).toArray=DG at *;have HO:=aA hO;have HDS:=aA hDS;have HDO:=aA hDO;have HDI:=aA (show (prog.info? 30).map (·.size)=some DG.size by rw[hDS];exact lh);clear hO hDS hDO hok hs hR hK hl;rw[aj.val_arr];have kc:k.arr[2]? = some (.string k.secret):=rfl;generalize k.arr=X at *;generalize k.secret=sec at *;go_enter func160,ntmps160;go_upto_region 1 with fail
 generalize hw0:World.alloc _ _=w0;obtain⟨ZS,hZS⟩:∃ ZS:Array Value,ZS=(b8 (List.replicate 16 0)).toArray:=⟨_,rfl⟩;have hx:aQ w0 w.heap.size 23 X:=by rw[<-hw0];exact (gQ w _ _).1
 have hz:aQ w0 (w.heap.size+1) 30 ZS:=by rw[<-hw0,hZS];exact (gQ w _ _).2
 have hb0:aF w w0:=oH;have HZS:=aA (show ZS.size=16 by rw[hZS];rfl);have HC:=aA (hC w0 hb0);have y2:=hx.cell kc;have hzl:=bu y2;clear hw0 hZS hC kc hx;go_wp2_with (first | (go_at_call 218;refine (HC.out _ _ _ aH aH aH).mono ?_;rintro e w1 ⟨B,d,rfl,hR1,hb1⟩) | (go_at_call 56;refine (HO.out _ _ _ hR1 (aV hb0 hb1)).mono ?_;rintro e w2 ⟨rfl,hb2⟩;have hz2:=(hz.keep hb1).keep hb2;have hbw:=aV (aV hb0 hb1) hb2) | (refine wpList_store_row rfl _ _ _ rfl (w.heap.size+1) DG rfl rfl _ ZS hz2 HDI.out (by rw[HZS.out,HDS.out]) HDO.out ?_));refine bodyPost_ret (v:=.agg DG) ?_ rfl ⟨rfl,?_⟩
 ·exact results_cell_row rfl _ _ (w.heap.size+1) _ _ (0,0) _ rfl (setRow_heap _ _ _ _ _ _ hz2) underlying30 rfl HDI.out
 ·exact below_setRow hbw aB _
theorem MG(B:Nat):∀ l:List (List UInt8),(∀ p∈l,p.length<=B)->(dF l).length<=l.length*(B+1)
 | [],_=>by simp[dF]
 | p :: l,h=>by
  have h1:=h p aH;have h2:=MG B l (fun q hq=>h q (by simp[hq]));simp only[dF,List.flatMap_cons,List.length_append,List.length_cons,Nat.succ_mul]at h2 ⊢;omega
theorem MH{p:bI}(h:gU p):(dQ p.kind p.text).size<=66:=by
 have e:=qQ p.kind p.text;rw[jY,e];rcases h with ⟨hk,hw⟩ | ⟨hk,s,hs,hs2,ht⟩ | ⟨hk,ht⟩
 ·have:=(xP hw).2.2.2;rw[jY]at this;rw[if_pos hk];omega
 ·rw[if_neg aB,ht];rw[jY]at hs2;simp only[List.length_cons];omega
 ·rw[if_neg aB,ht];decide
theorem Xj{z:Pat}(h:lK z):(jq z).size<=10000:=by
 rw[yD,jY,yB];have h1:=MH h.cust.part;rw[jY]at h1;have h2:=MG 66 (az (dX z.parts++iG z.tail)) (by
  intro p hp;obtain⟨x,hx,rfl⟩:=List.mem_map.1 hp;rw[<-jY];rcases List.mem_append.1 hx with hx | hx
  ·obtain⟨y,hy,rfl⟩:=List.mem_map.1 hx;exact MH (h.parts y hy)
  ·unfold iG at hx;split at hx
   ·rw[List.mem_singleton.1 hx];decide
   ·cases hx)
 have h3:=h.num;have h4:(az (dX z.parts++iG z.tail)).length<=33:=by
  unfold az dX iG;rw[List.length_map,List.length_append,List.length_map];split <;> simp <;> omega
 rw[List.length_append];have:=Nat.mul_le_mul_right 67 h4;omega
theorem Xk{p q:aC}(hp:gY p=true)(hq:gY q=true)(h1:p.size<=100000)(h2:q.size<=100000):(nV p q).size<=100000:=by
 by_cases a:p.size=0
 ·rw[(CY (.inl a)).1,if_pos a];exact h2
 by_cases b:q.size=0
 ·rw[(CY (.inr b)).1,if_neg a];exact h1
 unfold gY at hp hq;rw[decide_eq_false a,Bool.false_or]at hp;rw[decide_eq_false b,Bool.false_or]at hq;obtain⟨x,hx⟩:=Option.isSome_iff_exists.1 hp;obtain⟨y,hy⟩:=Option.isSome_iff_exists.1 hq;unfold nV;rw[Hz a b hx hy];cases hc:jL x y with
 | none=>show (0:Nat)<=_;omega
 | some z =>
  have:=Xj (Hg (rZ hx) (rZ hy) hc).1;show (jq z).size<=_;omega
theorem Xl{a b:aY}(ha:jc a)(hb:jc b)(fa:dE a)(fb:dE b):bF (iH a b)=true/\dE (iH a b):=by
 have hv:=(mP _).2 (UL ha hb);refine⟨hv,La hv ?_⟩;rw[Jq];split
 ·exact Xk ha.pat hb.pat fa.p fb.p
 ·decide
theorem MI(c:aY)(m n:ae)(w:World)(hm:dA w c m)(hn:dA w c n)(h:dE c):Calls prog 21 #[ae.val c m,ae.val c n] w (Ret w (.bool true)):=TD c.fr c.till c.us c.pat m.A m.B m.S n.A n.B n.S c.cl.length m.ca c.co.length m.cb c.si.length m.cs n.ca n.cb n.cs c.cl c.co c.si w hm.cl hm.co hm.si hn.cl hn.co hn.si (by have:=h.n1;omega) (by have:=h.n2;omega) (by have:=h.n3;omega)
def vS(w:World)(g:Nat)(c:aY)(m:ae):Prop:=aX w g c.fr c.till c.pat m.A c.cl.length m.ca m.B c.co.length m.cb m.S c.si.length m.cs c.us
theorem vS.facts{w:World}{g:Nat}{c:aY}{m:ae}(h:vS w g c m) :
  w.cell? ⟨g,0,none⟩=some (.int .i64 c.fr)/\w.cell? ⟨g,1,none⟩=some (.int .i64 c.till)/\w.cell? ⟨g,2,none⟩=some (.string c.pat)/\w.cell? ⟨g,3,none⟩=some (.slice m.A c.cl.length m.ca)/\w.cell? ⟨g,4,none⟩=some (.slice m.B c.co.length m.cb)/\w.cell? ⟨g,5,none⟩=some (.slice m.S c.si.length m.cs)/\w.cell? ⟨g,6,none⟩=some (.int .i64 c.us):=aX.facts h
theorem vS.keep{w w':World}{g:Nat}{c:aY}{m:ae}(h:vS w g c m)(hb:aF w w'):vS w' g c m:=Blk.keep h hb
def vT(w:World)(g:Nat)(q:dN):Prop:=iJ w g q.addr q.client q.country q.site q.lo q.hi
theorem vT.facts{w:World}{g:Nat}{q:dN}(h:vT w g q) :
  w.cell? ⟨g,0,none⟩=some (.string q.addr)/\w.cell? ⟨g,1,none⟩=some (.string q.client)/\w.cell? ⟨g,2,none⟩=some (.string q.country)/\w.cell? ⟨g,3,none⟩=some (.int .i64 q.site)/\w.cell? ⟨g,4,none⟩=some (.int .i64 q.lo)/\w.cell? ⟨g,5,none⟩=some (.int .i64 q.hi):=iJ.facts h
theorem vT.keep{w w':World}{g:Nat}{q:dN}(h:vT w g q)(hb:aF w w'):vT w' g q:=Blk.keep h hb
def kZ(c:aY):aC × Int:=if bF c then (bK c,0) else (⟨#[]⟩,1)
theorem Xm(c:aY)(m:ae)(w:World)(hR:dA w c m)(hc:dE c)(hE:Env w)(hT:Tab w):Calls prog 132 #[ae.val c m] w (Ret w (.tuple #[.string (kZ c).1,.int .i64 (kZ c).2])):=by
 unfold kZ;cases hv:bF c
 ·exact V5 c m w hR hc hv hE
 ·exact JC c m w hR hc hv hE hT
def WB(w:World)(g:Nat)(s:aC)(e:Int):Prop:=Blk w g 169 #[.string s,.int .i64 e] (0,0)
theorem WB.facts{w:World}{g:Nat}{s:aC}{e:Int}(h:WB w g s e):w.cell? ⟨g,0,none⟩=some (.string s)/\w.cell? ⟨g,1,none⟩=some (.int .i64 e):=⟨Blk.cell h 0,Blk.cell h 1⟩
theorem WB.keep{w w':World}{g:Nat}{s:aC}{e:Int}(h:WB w g s e)(hb:aF w w'):WB w' g s e:=Blk.keep h hb
structure kD(c:aY):Prop where
 fits:dE c
 ok:bF c=true
 tx:(bK c).size<=1000000
theorem DK(c:aY)(m:ae)(w:World)(hR:dA w c m)(hc:kD c)(hE:Env w)(hT:Tab w):Calls prog 71 #[ae.val c m] w (Ret w (.string (bK c))):=by
 have ht:=fun W (hb:aF w W)=>JC c m W (hR.keep hb) hc.fits hc.ok (hE.keep hb) (hT.keep hb)
 generalize bK c=tx at *;unfold ae.val at *;have HT:=aA ht;clear ht hR hc hE hT;go_enter func71,ntmps71;go_wp2_with (go_at_call 132;refine (HT.out _ aJ).mono ?_;rintro e w2 ⟨rfl,hb2⟩);go_ret;exact⟨aH,aJ⟩
def DN(a b:aC):Value->World->Prop:=fun v W=>∃ g,v=.slice (some ⟨g,0,none⟩) 2 2/\aI W 1 (some ⟨g,0,none⟩) 2 ([a,b].map .string)
theorem MJ(a b:aC):sV (DN a b):=fun _ _ _ ⟨g,e,hr⟩ hb=>⟨g,e,hr.keep hb⟩
theorem MK(w:World)(a b:aC)(g:Nat)(hg:g=w.heap.size):aI (w.alloc (.cells #[.string a,.string b] 9)) 1 (some ⟨g,0,none⟩) 2 ([a,b].map .string):=by
 subst hg;refine⟨rfl,fun _=>⟨_,_,rfl,fun j u hu=>?_⟩⟩;rw[Nat.zero_add,cell_of_row _ _ _ _ _ _ (World.alloc_heap_new w (.cells #[.string a,.string b] 9))];simpa using hu
structure NxS(w:World)(X Y Z:Array Value)(W:World):Prop where
 x:aQ W w.heap.size 30 X
 y:aQ W (w.heap.size+1) 27 Y
 z:aQ W (w.heap.size+2) 30 Z
 b:aF w W
 s:w.heap.size+2<W.heap.size
theorem NxS.keep{w W W':World}{X Y Z:Array Value}(h:NxS w X Y Z W)(hb:aF W W'):NxS w X Y Z W':=⟨h.x.keep hb,h.y.keep hb,h.z.keep hb,aV h.b hb,Nat.lt_of_lt_of_le h.s hb.size⟩
theorem iL(w:World)(A B C:Obj):(((w.alloc A).alloc B).alloc C).heap[w.heap.size]? = some A/\(((w.alloc A).alloc B).alloc C).heap[w.heap.size+1]? = some B/\(((w.alloc A).alloc B).alloc C).heap[w.heap.size+2]? = some C:=by
 refine⟨?_,?_,?_⟩
 ·exact (heap_alloc_old ((w.alloc A).alloc B) C aP).trans (heap_alloc2_old w A B)
 ·exact (heap_alloc_old ((w.alloc A).alloc B) C aH).trans (heap_alloc2_new w A B)
 ·have:=heap_alloc_new ((w.alloc A).alloc B) C;simpa using this
theorem iO{w:World}{g:Nat}{Y:Array Value}{t:TypeId}(hg:w.heap[g]? = some (.cells Y t (0,0)))(hs:Y.size=7):(loadVar 27 ⟨g,0,none⟩).run prog w=.ok (.agg Y) w :=
 run_loadVar_row (P:=prog) w g _ 27 Y _ _ hg underlying27 rfl (by rw[hs];kernel_rfl)
theorem Xn{w:World}{g:Nat}{t:TypeId}{l:List Nat}(hl:l.length=16)(hg:w.heap[g]? = some (.cells (b8 l).toArray t (0,0))):aI w 1 (some ⟨g,0,none⟩) 16 (b8 l):=by
 refine⟨by rw[dU,hl],fun _=>⟨_,_,rfl,fun j u hu=>?_⟩⟩;rw[Nat.zero_add,cell_of_row _ _ _ _ _ _ hg];simpa using hu
theorem ML(l:List Nat)(hl:dm l)(c:aY)(m:ae)(w:World)(hR:dA w c m)(hc:kD c)(hE:Env w)(hTb:Tab w)(hK:Ks w):Calls prog 52 #[.agg (b8 l).toArray,ae.val c m] w (Ret w (.agg (b8 (je l c)).toArray)):=by
 have hO:=fun (g:Nat) (W:World) (hr:aI W 1 (some ⟨g,0,none⟩) 2 ([toN l,bK c].map .string)) (hb:aF w W)=>BP 45 aK (some ⟨g,0,none⟩) 2 2 [toN l,bK c] W hr aB (by
  intro s h;simp only[List.mem_cons,List.not_mem_nil,or_false]at h;rcases h with rfl | rfl
  ·rw[xg,hl.len];omega
  ·exact hc.tx) (hK.keep hb)
 have hD:=fun (W:World) (h:W.heap[w.heap.size]? = some (.cells (b8 l).toArray 30 (0,0)))=>ui W (some ⟨w.heap.size,0,none⟩) 16 16 l hl.len hl.lt aB (Xn hl.len h)
 have hT:=fun (W:World) (hb:aF w W)=>DK c m W (hR.keep hb) hc (hE.keep hb) (hTb.keep hb)
 have hDS:(b8 (Sha.ofD 45 ([toN l,bK c].map nb))).toArray.size=16:=by rw[List.size_toArray,dU];exact Bv _ _
 have hDO:(b8 (Sha.ofD 45 ([toN l,bK c].map nb))).toArray.all (·.oneCell')=true:=uo _;have hnx:Sha.ofD 45 ([toN l,bK c].map nb)=je l c:=by
  show Sha.ofD 45 [nb (toN l),nb (bK c)]=_;rw[xe hl.lt];rfl
 rw[hnx]at hDS hDO hO;generalize (b8 (je l c)).toArray=DG at *;have hXS:(b8 l).toArray.size=16:=by rw[List.size_toArray,dU];exact hl.len
 generalize (b8 l).toArray=X at *;generalize toN l=sx at *;generalize bK c=tx at *;obtain⟨Y,hY,hYS⟩:∃ Y:Array Value,ae.val c m=.agg Y/\Y.size=7:=⟨_,rfl,rfl⟩;rw[hY]at hT ⊢;have HO:=aA hO;have HD:=aA hD;have HT:=aA hT;have HDS:=aA hDS;have HDO:=aA hDO;have HXS:=aA hXS;have HYS:=aA hYS;have HDI:=aA (show (prog.info? 30).map (·.size)=some DG.size by rw[hDS];exact lh);clear hO hD hT hDS hDO hXS hY hYS hnx hR hc hK hl hE hTb;go_enter func52,ntmps52;go_upto_region 1 with fail
 generalize hw0:World.alloc _ _=w0;obtain⟨ZS,hZS⟩:∃ ZS:Array Value,ZS=(b8 (List.replicate 16 0)).toArray:=⟨_,rfl⟩;have hS0:NxS w X Y ZS w0:=by
  rw[<-hw0,hZS];exact⟨(iL w _ _ _).1,(iL w _ _ _).2.1,(iL w _ _ _).2.2,aJ,aH⟩
 have HZS:=aA (show ZS.size=16 by rw[hZS];rfl);clear hw0 hZS;have HS0:=aA hS0;refine qm 6 aG aG aG (DL [IsV (.slice (some ⟨w.heap.size,0,none⟩) 16 16),IsV (.string sx),IsV (.agg Y),IsV (.string tx),DN sx tx,IsV (.agg DG)]) (DL.keep _ (by simp only[qp];repeat' (first | apply And.intro | exact vU _ | exact MJ _ _ | exact trivial))) (NxS w X Y ZS) (HS0.out.keep (Below.drew (Below.refl _ _))) (fun _ _ h hb=>h.keep hb) ?_ ?_
 ·dsimp only[List.take_succ_cons,List.take_zero,mf];refine⟨fun vals W hS hd=>?_,fun vals W hS hd=>?_,fun vals W hS hd=>?_,fun vals W hS hd=>?_,fun vals W hS hd=>?_,fun vals W hS hd=>?_,trivial⟩
  ·exact jh
  ·(try simp only[bQ,DL,IsV,bV,Region.binds,and_true,true_and]at hd);simp only[aZ,bH,Act.put];(try simp only[hd]);clear hd;have hcv:=HD.out W hS.x;go_wp2;exact⟨rfl,rfl,rfl,aJ⟩
  ·(try simp only[bQ,DL,IsV,bV,Region.binds,and_true,true_and]at hd);simp only[aZ,bH,Act.put];(try simp only[hd]);clear hd;have hld:=iO hS.y HYS.out;go_wp2_with (refine bD rfl 27 _ rfl ⟨w.heap.size+1,0,none⟩ (.agg Y) rfl hld ?_);exact⟨rfl,rfl,rfl,aJ⟩
  ·(try simp only[bQ,DL,IsV,bV,Region.binds,and_true,true_and]at hd);simp only[aZ,bH,Act.put];(try simp only[hd]);clear hd;have hbW:=hS.b;go_wp2_with (go_at_call 71;refine (HT.out _ hbW).mono ?_;rintro e w5 ⟨rfl,hb5⟩);exact⟨rfl,rfl,rfl,aJ⟩
  ·exact yg
  ·exact MM
 ·intro vals w9 hS9 hD9;have e5:vals 5=.agg DG:=hD9 5 aB;simp only[aZ,bH,Act.put];simp only[e5];clear hD9 e5;refine wpList_store_row rfl 30 _ _ rfl (w.heap.size+2) DG rfl rfl _ ZS hS9.z HDI.out (by rw[HZS.out,HDS.out]) HDO.out ?_;go_wp2;refine bodyPost_ret (v:=.agg DG) ?_ rfl ⟨rfl,?_⟩
  ·exact results_cell_row rfl _ _ (w.heap.size+2) _ _ (0,0) _ rfl (setRow_heap _ _ _ _ _ _ hS9.z) underlying30 rfl HDI.out
  ·exact below_setRow hS9.b aB _
def AlS(base:Nat)(ZS:Array Value):Value->World->Prop:=fun v W=>∃ g,v=.pointer (some ⟨g,0,none⟩)/\aQ W g 30 ZS/\base<=g
theorem Xo(base:Nat)(ZS:Array Value):sV (AlS base ZS):=fun _ _ _ ⟨g,e,hk,hg⟩ hb=>⟨g,e,hk.keep hb,hg⟩
def ji(k:aj)(t:bz)(i:Nat):List Nat:=(t.conds.tail.take (i-1)).foldl je (yN k t)
theorem Xp{k:aj}{t:bz}{i:Nat}{c:aY}(h0:1<=i)(h:t.conds[i]? = some c):ji k t (i+1)=je (ji k t i) c:=by
 obtain⟨j,rfl⟩:∃ j,i=j+1:=⟨i-1,aB⟩;have ht:t.conds.tail[j]? = some c:=by rw[List.getElem?_tail];exact h
 unfold ji;exact MO
theorem Xq(k:aj)(t:bz):ji k t t.conds.length=eU k t:=by
 unfold ji eU;rw[List.take_of_length_le aH]
theorem MP(k:aj)(t:bz)(i:Nat):dm (ji k t i):=by
 unfold ji;exact JX
structure RtS(w:World)(K:Array Value)(x:ah)(Z:Array Value)(W:World):Prop where
 k:aQ W w.heap.size 23 K
 t:fQ W (w.heap.size+1) x
 z:aQ W (w.heap.size+2) 30 Z
 b:aF w W
 s:w.heap.size+2<W.heap.size
theorem RtS.keep{w W W':World}{K Z:Array Value}{x:ah}(h:RtS w K x Z W)(hb:aF W W'):RtS w K x Z W':=⟨h.k.keep hb,h.t.keep hb,h.z.keep hb,aV h.b hb,Nat.lt_of_lt_of_le h.s hb.size⟩
theorem yh{x:ah}{w:World}(hR:bZ w x){i:Nat}{y:CoM}(h:x.L[i]? = some y):x.t.conds[i]? = some y.c:=by rw[<-hR.same,List.getElem?_map,h];rfl
theorem MQ(s:aC)(hs:s.size<=100000)(k:Nat):((splitB 32 s).getD k aT).size<=100000:=by
 rw[List.getD_eq_getElem?_getD];cases h:(splitB 32 s)[k]? with
 | none=>show aT.size<=_;decide
 | some x=>have:=oU 32 s x (List.mem_of_getElem? h);simp;omega
theorem Xr(s:aC)(h:s.size<=100000):(unT s).size<=100000:=by
 unfold unT;split
 ·decide
 ·exact h
theorem MR(num:aC->Int)(Ls:List aC)(hz:∀ k,(Ls.getD k aT).size<=100000):dE (fP num Ls):=by
 have n:=fun k=>Ku (Ls.getD k aT)
 have z:=fun k x (hx:x∈cZ (Ls.getD k aT))=>Kv (Ls.getD k aT) x hx
 refine⟨Xr _ (hz 2),fun x hx=>Nat.le_trans (z 3 x hx) (hz 3),fun x hx=>Nat.le_trans (z 4 x hx) (hz 4),?_,?_,?_⟩
 ·have h1:=n 3;have h2:=hz 3;show (cZ (Ls.getD 3 aT)).length<=_;omega
 ·have h1:=n 4;have h2:=hz 4;show (cZ (Ls.getD 4 aT)).length<=_;omega
 ·have h1:=n 5;have h2:=hz 5;show ((cZ (Ls.getD 5 aT)).map num).length<=_;rw[List.length_map];omega
theorem Xt:dE ed:=La ((mP _).2 H8) aK
theorem Xu(s:aC)(hs:s.size<=100000):dE ((pU s).getD ed):=by
 unfold pU;split
 ·exact MR _ _ (MQ s hs)
 ·exact Xt
theorem Xv(c:aY)(s:aC):(bF c=true/\bK c=s)↔((kZ c).2=0/\(kZ c).1=s):=by
 unfold kZ;cases bF c <;> simp
end Go.Proofs.YtlkbkclnbppigaaGreatDoor
