/- The specification's Few, of a signed address of any length. -/
import Derived.Test.YtlkbkclnbppigaaGreatDoorRY1
import Derived.Test.YtlkbkclnbppigaaGreatDoorISan25
set_option maxHeartbeats 16000000
namespace Go.Proofs.YtlkbkclnbppigaaGreatDoor
open Go.RowKit Go.Sort
set_option linter.unusedVariables false
set_option linter.unusedSimpArgs false
set_option maxRecDepth 100000
theorem rTFew_all (x:ah) (w:World) (hR:bZ w x) (hn:x.t.conds.length≤9223372036854775807):Calls Tryz.prog 10 #[x.val] w (Ret w (.bool (fewTk x.t))):=by
 have cP:=fun (y:CoM) (hy:y∈x.L) (W:World) (hb:Below w.heap.size w W)=>few_cond y.c y.m W ((hR.conds.each y hy).keep hb)
 have hl:=hR.conds.len
 unfold fewTk
 rw[←all_conds hR]
 obtain⟨V,hV⟩:∃ V,V=x.L.all (fun y=>fewV y.c):=⟨_,rfl⟩
 rw[←hV]
 have hA:=hR.conds
 obtain⟨pr,hpr⟩:∃ pr,pr=fewV:=⟨_,rfl⟩
 rw[←hpr]at hV cP
 generalize hln:x.t.conds.length=n at *
 have HP:=Lib.hid cP;have HA:=Lib.hid hA;have HL:=Lib.hid hl;have HV:=Lib.hid hV;have HLN:=Lib.hid hln
 clear cP hA hl hV hR hln hpr
 unfold ah.val
 go_enter Tryz.func10,Tryz.ntmps10
 go_upto_region 1 with fail
 generalize hw0:World.alloc _ _=w0
 have B0:fQ w0 w.heap.size x:=⟨by rw[←hw0];exact World.alloc_heap_new w _⟩
 have hb0:Below w.heap.size w w0:=by rw[←hw0];exact aU (Below.refl _ _) _
 clear hw0
 go_wp2
 go_loopw [3] (fun i wr=>∃ k:Nat,k≤n∧i=.int .i64 k∧Hid (V=(x.L.drop k).all (fun y=>pr y.c))∧fQ wr w.heap.size x∧Below w.heap.size w wr) (fun i _=>n-(intOf i).toNat)
 case atStart=>exact⟨0,by omega,rfl,Lib.hid (by rw[HV.out];rfl),B0,hb0⟩
 case round =>
  obtain⟨k,hk,rfl,HI,B,hb⟩:=hrel
  obtain⟨y0,y1,y2,y3⟩:=B.cells
  rw[HLN.out]at y3
  by_cases hlt:k<n
  ·obtain⟨x1,hx⟩:∃ x1,x.L[k]? = some x1:=⟨_,List.getElem?_eq_getElem (by have:=HL.out;omega)⟩
   obtain⟨_,b,o,hA,hcell⟩:=(HA.out.keep hb).at_ hx
   rw[hA]at y3
   have hld:=pX wr b (o+k*7) x1 hcell
   have hc:=HP.out x1 (List.mem_of_getElem? hx) wr hb
   have hk0:(0:Int)≤(k:Int):=by omega
   have hk1:(k:Int)<(n:Int):=by omega
   clear hcell hA
   generalize ae.val x1.c x1.m=xv at hld hc
   have HLD:=Lib.hid hld
   clear hld
   cases hpx:pr x1.c
   ·rw[hpx]at hc
    have HC:=Lib.hid hc
    have hVf:V=false:=by rw[HI.out];exact allT_stop (fun y=>pr y.c) _ _ _ hx hpx
    subst hVf
    clear hc hx hpx
    rw[Bool.false_and]
    go_wp2_with (first | (refine bD rfl _ _ rfl ⟨b,o+k*7,none⟩ xv rfl HLD.out ?_) | (first | (go_at_call 9;refine (HC.out).mono ?_;rintro e w2 ⟨rfl,hb2⟩) | (go_at_call 32;refine (HC.out).mono ?_;rintro e w2 ⟨rfl,hb2⟩)))
    go_ret
    exact⟨rfl,aV hb hb2⟩
   ·rw[hpx]at hc
    have HC:=Lib.hid hc
    have hVs:V=(x.L.drop (k+1)).all (fun y=>pr y.c):=by rw[HI.out];exact allT_step (fun y=>pr y.c) _ _ _ hx hpx
    have HI2:=Lib.hid hVs
    clear hc hx hpx hVs
    go_wp2_with (first | (refine bD rfl _ _ rfl ⟨b,o+k*7,none⟩ xv rfl HLD.out ?_) | (first | (go_at_call 9;refine (HC.out).mono ?_;rintro e w2 ⟨rfl,hb2⟩) | (go_at_call 32;refine (HC.out).mono ?_;rintro e w2 ⟨rfl,hb2⟩)))
    exact⟨⟨k+1,by omega,by go_num,HI2,B.keep hb2,aV hb hb2⟩,by simp[intOf];omega⟩
  ·have hVt:V=true:=by rw[HI.out,List.drop_eq_nil_of_le (by have:=HL.out;omega)];rfl
   subst hVt
   by_cases h20:n≤20
   ·have i1:(n:Int)≤20:=by omega
    go_wp2
    go_ret
    exact⟨fV (by (apply Bool.eq_iff_iff.2;simp only[decide_eq_true_eq,Bool.false_eq_true,eq_self,false_iff,iff_false,true_iff,iff_true,Bool.true_and] <;> omega)),hb⟩
   ·have i1:¬ (n:Int)≤20:=by omega
    go_wp2
    go_ret
    exact⟨fV (by (apply Bool.eq_iff_iff.2;simp only[decide_eq_true_eq,Bool.false_eq_true,eq_self,false_iff,iff_false,true_iff,iff_true,Bool.true_and] <;> omega)),hb⟩
structure RbS (w:World) (x:ah) (W:World):Prop where
 t:fQ W w.heap.size x
 b:Below w.heap.size w W
theorem RbS.keep {w W W':World} {x:ah} (h:RbS w x W) (hb:Below W.heap.size W W'):RbS w x W':=⟨h.t.keep hb,aV h.b hb⟩
theorem few_tok {t:bz} (h:fewTk t=true):(∀ c∈t.conds,fewV c=true)∧t.conds.length≤20∧t.id.size≤200:=by
 unfold fewTk at h
 simp only[Bool.and_eq_true,decide_eq_true_eq,List.all_eq_true]at h
 exact h
theorem few_in {w:World} {x:ah} (hR:bZ w x) (h:fewTk x.t=true):∀ y∈x.L,fewV y.c=true:=fun y hy=>(few_tok h).1 y.c (by rw[←hR.same];exact List.mem_map_of_mem hy)
theorem valid_in {w:World} {x:ah} (hR:bZ w x) (h:gX x.t=true):∀ y∈x.L,bF y.c=true:=fun y hy=>((vH _).1 h).all y.c (by rw[←hR.same];exact List.mem_map_of_mem hy)
theorem readT_conds {s:aC} {t:bz} (h:nU s=some t) (hs:s.size≤100000):∀ c∈t.conds,dE c∧bF c=true∧(bK c).size≤100000:=by
 have hv:=(readT_some h).1
 unfold nU at h
 split at h
 ·rename_i hc
  injection h with h
  subst h
  simp only[Bool.and_eq_true]at hc
  have ho:=hc.1.1.1
  unfold okF at ho
  simp only[Bool.and_eq_true,decide_eq_true_eq,List.all_eq_true]at ho
  intro c hcm
  obtain⟨x,hx,rfl⟩:=List.mem_map.1 (show c∈(((splitB 59 s).drop 3).dropLast).map (fun x=>(eF x).getD ed) from hcm)
  have hxs:x.size≤100000:=Nat.le_trans (oU 59 s x (List.mem_of_mem_drop ((List.dropLast_sublist _).subset hx))) hs
  obtain⟨d,hd⟩:=Option.isSome_iff_exists.1 (ho.1.1.2 x hx)
  have hfit:=Xu x hxs
  rw[←Vp]at hfit
  rw[hd]at hfit ⊢
  have hso:=Vo hd
  refine⟨hfit,?_,?_⟩
  ·exact ((vH _).1 hv).all _ hcm |> fun h=>by rw[hd]at h;exact h
  ·show (bK d).size≤_
   rw[hso.2];exact hxs
 ·cases h
theorem rFields25_any (s:aC) (w:World) (hs:s.size≤4294967281):Calls Tryz.prog 80 #[.string s] w (GZ (splitB 59 s) w):=by
 obtain⟨i0,hi0,hz0,hz1,hz2⟩:=info_parts rY
 have HI:Hid ((Tryz.prog.info? 9=some i0)∧i0.zero=some (.string ⟨#[]⟩)∧i0.size=1∧i0.bytes=16):=Lib.hid ⟨hi0,hz0,hz1,hz2⟩
 clear hi0 hz0 hz1 hz2
 have hsl:s.data.toList.length=s.size:=(Lib.size_eq s).symm
 have HSL:=Lib.hid hsl
 clear hsl
 go_enter Tryz.func80,Tryz.ntmps80
 go_wp2
 go_loopw [3,4,5] (fun vo vf vi wr=>∃ (k f n:Nat) (acc:List aC) (A:Option Addr) (c':Nat),(vi=.int .i64 k∧vf=.int .i64 f∧vo=.slice A n c'∧k≤s.size∧f≤k∧n≤k)∧Hid (SplitI 59 s.data.toList k f acc∧acc.length=n)∧wr.ownsRow w.heap.size 9 1 (.slice A n c') n (acc.map .string)∧Below w.heap.size w wr) (fun _ _ i _=>s.size-(intOf i).toNat)
 case atStart=>exact⟨0,0,0,[],none,0,⟨rfl,rfl,rfl,Nat.zero_le _,Nat.le_refl _,Nat.le_refl _⟩,Lib.hid ⟨⟨Nat.le_refl _,by simp,by simp⟩,rfl⟩,World.ownsRow_nil _ _ _ _,Below.refl _ _⟩
 case round =>
  obtain⟨k,f,n,acc,A,c',⟨rfl,rfl,rfl,hk,hf,hn⟩,HK,hown,hbr⟩:=hrel
  have hbs:=hbr.size
  by_cases hlt:k<s.size
  ·have hd:=byte_int s[k] 59
   have hkl:k<s.data.toList.length:=by rw[HSL.out];exact hlt
   have hat:=SE s k hlt
   cases hb:(s[k].toNat==59)
   ·rw[hb]at hd
    have hne:s.data.toList[k] ≠ 59:=fun e=>by rw[←hat]at e;rw[e]at hb;simp at hb
    have HK2:Hid (SplitI 59 s.data.toList (k+1) f acc∧acc.length=n):=Lib.hid ⟨splitI_step HK.out.1 hkl hne,HK.out.2⟩
    clear hb HK hat hne hkl
    go_wp2
    exact⟨⟨k+1,f,n,acc,A,c',⟨by go_num,rfl,rfl,by omega,by omega,by omega⟩,HK2,hown,hbr⟩,by simp[intOf];omega⟩
   ·rw[hb]at hd
    have he:s.data.toList[k]=59:=by rw[←hat];rw[beq_iff_eq]at hb;exact UInt8.toNat_inj.1 hb
    have hpc:toB ((s.data.toList.drop f).take (k-f))=s.extract f k:=fK (by rw[Lib.extract_data];rfl)
    have hhit:=splitI_hit HK.out.1 hkl he
    rw[hpc]at hhit
    have HK2:Hid (SplitI 59 s.data.toList (k+1) (k+1) (acc++[s.extract f k])∧(acc++[s.extract f k]).length=n+1):=Lib.hid ⟨hhit,by simp[HK.out.2]⟩
    have hk0:(0:Int)≤(f:Int):=by omega
    have hk1:(f:Int)≤(k:Int):=by omega
    have hk2:(k:Int)≤(s.size:Int):=by omega
    clear hb HK hat he hkl hpc hhit
    go_wp2_with (at_builtin;refine wpList_append_own _ rfl _ _ 24 rfl w.heap.size 9 i0 (.string ⟨#[]⟩) 1 16 Tryz.underlying24 HI.out.1 HI.out.2.1 HI.out.2.2.1 HI.out.2.2.2 rfl (by decide) _ _ _ rfl (hown.alloc _) ⟨wr.heap.size,0,none⟩ 1 1 [.string (s.extract f k)] rfl rfl (cell_one_new _ _ _) (by simp[Value.oneCell']) (by unfold maxLen;omega) (by omega) (by simp;omega) ?_;intro v' w3 hown' hgrow _;obtain⟨g',cap',rfl⟩:=ownsRow_succ hown')
    exact⟨⟨k+1,k+1,n+1,acc++[s.extract f k],some ⟨g',0,none⟩,cap',⟨by go_num,by go_num,rfl,by omega,by omega,by omega⟩,HK2,by rw[List.map_append];exact hown',(hbr.alloc hbs _).grown hgrow (by simp;omega) (fun r e=>fE hown r e)⟩,by simp[intOf];omega⟩
  ·obtain rfl:k=s.size:=by omega
   have hpc:toB (s.data.toList.drop f)=s.extract f s.size:=fK (by rw[Lib.extract_to_end];rfl)
   have hend:splitB 59 s=acc++[s.extract f s.size]:=by
    rw[splitB_eq,←hpc]
    exact splitI_end (by rw[HSL.out];exact HK.out.1)
   have hlen:(splitB 59 s).length=n+1:=by rw[hend];simp[HK.out.2]
   have HEND:=Lib.hid hend
   have HLEN:=Lib.hid hlen
   have hk0:(0:Int)≤(f:Int):=by omega
   have hk1:(f:Int)≤(s.size:Int):=by omega
   clear hpc hend hlen HK
   go_wp2_with (at_builtin;refine wpList_append_own _ rfl _ _ 24 rfl w.heap.size 9 i0 (.string ⟨#[]⟩) 1 16 Tryz.underlying24 HI.out.1 HI.out.2.1 HI.out.2.2.1 HI.out.2.2.2 rfl (by decide) _ _ _ rfl (hown.alloc _) ⟨wr.heap.size,0,none⟩ 1 1 [.string (s.extract f s.size)] rfl rfl (cell_one_new _ _ _) (by simp[Value.oneCell']) (by unfold maxLen;omega) (by omega) (by simp;omega) ?_;intro v' w3 hown' hgrow _;obtain⟨g',cap',rfl⟩:=ownsRow_succ hown')
   go_ret
   refine⟨some ⟨g',0,none⟩,cap',by rw[HLEN.out];rfl,?_,(hbr.alloc hbs _).grown hgrow (by simp;omega) (fun r e=>fE hown r e)⟩
   rw[HLEN.out,HEND.out,List.map_append]
   exact hown'
theorem decFrom_app:∀ (x y:List UInt8) (a:Nat),Lib.decFrom a (x++y)=(Lib.decFrom a x).bind fun m=>Lib.decFrom m y
 | [],y,a=>by simp[Lib.decFrom]
 | b :: x,y,a=>by
  simp only[List.cons_append,Lib.decFrom]
  cases Lib.digitVal b with
  | none=>rfl
  | some d=>exact decFrom_app x y _
theorem decFrom_ge:∀ (l:List UInt8) (a n:Nat),Lib.decFrom a l=some n→a≤n
 | [],a,n,h=>by simp[Lib.decFrom]at h;omega
 | b :: l,a,n,h=>by
  simp only[Lib.decFrom]at h
  cases hd:Lib.digitVal b with
  | none=>rw[hd]at h;cases h
  | some d =>
   rw[hd]at h
   have:=decFrom_ge l _ n h
   omega
theorem decTk_some {s:aC} (h:decTk s≠0):1≤decTk s∧decTk s≤1073741824∧ai (decTk s)=s∧Lib.decFrom 0 s.data.toList=some (decTk s).toNat:=by
 unfold decTk at h ⊢
 split
 ·rename_i hc
  rw[if_pos hc]at h
  refine⟨by have:=hc.2.1;omega,hc.2.2.1,hc.2.2.2,?_⟩
  have e:=yO (af s) (by omega)
  rw[hc.2.2.2]at e
  rw[e]
  exact Jb _
 ·rename_i hc
  rw[if_neg hc]at h
  exact absurd rfl h
theorem decTk_zero {s:aC} (h:∀ n:Nat,1≤n→n≤1073741824→Lib.decFrom 0 s.data.toList=some n→ai (n:Int)=s→False):decTk s=0:=by
 by_cases h0:decTk s=0
 ·exact h0
 ·obtain⟨h1,h2,h3,h4⟩:=decTk_some h0
  exact (h _ (by omega) (by omega) h4 (by rw[Int.toNat_of_nonneg (by omega)];exact h3)).elim
theorem decTk_val {s:aC} {n:Nat} (h1:n≤1073741824) (h2:ai (n:Int)=s):decTk s=(n:Int):=by
 cases n with
 | zero =>
  refine decTk_zero fun k hk _ _ he=>?_
  have:=decTk_itoa (k:Int) (by omega) (by omega)
  rw[he,←h2]at this
  have h0:decTk (ai ((0:Nat):Int))=0:=by kernel_rfl
  omega
 | succ n =>
  rw[←h2]
  exact decTk_itoa _ (by omega) (by omega)
theorem rNumber25_any (s:aC) (w:World) (hs:s.size≤4294967281):Calls Tryz.prog 81 #[.string s] w (Ret w (.int .i64 (decTk s))):=by
 obtain⟨V,hV⟩:∃ V,V=decTk s:=⟨_,rfl⟩
 rw[←hV]
 have HV:=Lib.hid hV
 clear hV
 go_enter Tryz.func81,Tryz.ntmps81
 go_wp2
 go_loopw [3,4] (fun vn vi wr=>∃ (k m:Nat),vi=.int .i64 k∧vn=.int .i64 m∧k≤s.size∧m≤10737418249∧Hid (Lib.decFrom 0 (s.data.toList.take k)=some m)∧Below w.heap.size w wr) (fun _ i _=>s.size-(intOf i).toNat)
 case atStart=>exact⟨0,0,rfl,rfl,Nat.zero_le _,by omega,Lib.hid rfl,Below.refl _ _⟩
 case round =>
  obtain⟨k,m,rfl,rfl,hk,hm,HK,hbr⟩:=hrel
  by_cases hlt:k<s.size
  ·have hkl:k<s.data.toList.length:=by rw[←Lib.size_eq];exact hlt
   have hat:=SE s k hlt
   have hget:s.data.toList[k]? = some s[k]:=by rw[hat];exact List.getElem?_eq_getElem hkl
   by_cases h48:48≤s[k].toNat
   rotate_left
   ·have hdv:Lib.digitVal s[k]=none:=by unfold Lib.digitVal;rw[if_neg (by omega)]
    obtain rfl:V=0:=by rw[HV.out];exact decTk_zero fun n _ _ hn _=>by rw[dec_miss hget hdv]at hn;cases hn
    have e1:decide ((s[k].toNat:Int)<48)=true:=decide_eq_true (by omega)
    clear HV HK hget hat hdv
    go_wp2
    go_ret
    exact⟨rfl,aJ⟩
   have e1:decide ((s[k].toNat:Int)<48)=false:=decide_eq_false (by omega)
   by_cases h57:s[k].toNat≤57
   rotate_left
   ·have hdv:Lib.digitVal s[k]=none:=by unfold Lib.digitVal;rw[if_neg (by omega)]
    obtain rfl:V=0:=by rw[HV.out];exact decTk_zero fun n _ _ hn _=>by rw[dec_miss hget hdv]at hn;cases hn
    have e2:decide ((57:Int)<(s[k].toNat:Int))=true:=decide_eq_true (by omega)
    clear HV HK hget hat hdv
    go_wp2
    go_ret
    exact⟨rfl,aJ⟩
   have e2:decide ((57:Int)<(s[k].toNat:Int))=false:=decide_eq_false (by omega)
   have hdv:Lib.digitVal s[k]=some (s[k].toNat-48):=by unfold Lib.digitVal;rw[if_pos ⟨h48,h57⟩]
   by_cases hbig:1073741824<m
   ·have e3:decide ((1073741824:Int)<(m:Int))=true:=decide_eq_true (by omega)
    obtain rfl:V=0:=by
     rw[HV.out]
     refine decTk_zero fun n _ hn1 hn _=>?_
     have h:=decFrom_app (s.data.toList.take k) (s.data.toList.drop k) 0
     rw[List.take_append_drop,HK.out,hn]at h
     have:=decFrom_ge _ _ _ h.symm
     omega
    clear HV HK hget hat hdv
    go_wp2
    go_ret
    exact⟨rfl,aJ⟩
   have e3:decide ((1073741824:Int)<(m:Int))=false:=decide_eq_false (by omega)
   have hnx:=Lib.decFrom_take s.data.toList k 0 m _ _ HK.out hget hdv
   have hm2:m*10+(s[k].toNat-48)≤10737418249:=by omega
   have HK2:=Lib.hid hnx
   have HM2:=Lib.hid hm2
   clear HK hget hat hdv hnx hm2
   go_wp2
   exact⟨⟨k+1,m*10+(s[k].toNat-48),by go_num,by (congr 1;omega),by omega,HM2.out,HK2,hbr⟩,by simp[intOf];omega⟩
  ·have hfull:Lib.decFrom 0 s.data.toList=some m:=by
    have:=HK.out
    rwa [List.take_of_length_le (by rw[←Lib.size_eq];omega)]at this
   by_cases hbig:1073741824<m
   ·have e3:decide ((1073741824:Int)<(m:Int))=true:=decide_eq_true (by omega)
    obtain rfl:V=0:=by
     rw[HV.out]
     refine decTk_zero fun n _ hn1 hn _=>?_
     rw[hfull]at hn
     injection hn with hn
     omega
    clear HV HK hfull
    go_wp2
    go_ret
    exact⟨rfl,aJ⟩
   have e3:decide ((1073741824:Int)<(m:Int))=false:=decide_eq_false (by omega)
   have hdc:=fun W=>rDecimal_any m W (by omega)
   by_cases he:ai (m:Int)=s
   ·have hee:((ai (m:Int)).toList==s.toList)=true:=by rw[he];simp
    have hen:((ai (m:Int)).toList != s.toList)=false:=by rw[he];simp
    obtain rfl:V=(m:Int):=by rw[HV.out];exact decTk_val (by omega) he
    generalize ai (m:Int)=D at *
    have HD:=Lib.hid hdc
    clear HV HK hfull hdc he
    go_wp2_with (go_at_call 59;refine (HD.out _).mono ?_;rintro e w2 ⟨rfl,hb2⟩)
    go_ret
    exact⟨rfl,aJ⟩
   ·have h4:¬ (ai (m:Int)).toList=s.toList:=fun e=>he (fK (by rw[Lib.toList_data,Lib.toList_data]at e;exact e))
    have hee:((ai (m:Int)).toList==s.toList)=false:=beq_eq_false_iff_ne.2 h4
    have hen:((ai (m:Int)).toList != s.toList)=true:=by simp[h4]
    obtain rfl:V=0:=by
     rw[HV.out]
     refine decTk_zero fun n _ hn1 hn h5=>?_
     rw[hfull]at hn
     injection hn with hn
     subst hn
     exact he h5
    generalize ai (m:Int)=D at *
    have HD:=Lib.hid hdc
    clear HV HK hfull hdc he
    go_wp2_with (go_at_call 59;refine (HD.out _).mono ?_;rintro e w2 ⟨rfl,hb2⟩)
    go_ret
    exact⟨rfl,aJ⟩
theorem rValue25_any (b:UInt8) (w:World):Calls Tryz.prog 83 #[.int .u8 (b.toNat:Int)] w (Ret w (.int .i64 (gy b))):=by
 obtain⟨V,hV⟩:∃ V,V=gy b:=⟨_,rfl⟩
 rw[←hV]
 unfold gy jO at hV
 have hb:=b.toNat_lt
 generalize b.toNat=m at *
 clear b
 by_cases h1:48≤m∧m≤57
 ·rw[if_pos h1,if_pos (by omega)]at hV
  have d1:decide ((48:Int)≤(m:Int))=true:=decide_eq_true (by omega)
  have d2:decide ((m:Int)≤57)=true:=decide_eq_true (by omega)
  obtain rfl:V=(m:Int)-48:=by omega
  clear hV
  go_enter Tryz.func83,Tryz.ntmps83
  go_wp2
  go_ret
  exact⟨wS (by omega),aJ⟩
 rw[if_neg h1]at hV
 by_cases h2:97≤m∧m≤102
 ·rw[if_pos h2,if_pos (by omega)]at hV
  have d1:decide ((48:Int)≤(m:Int))=true:=decide_eq_true (by omega)
  have d2:decide ((m:Int)≤57)=false:=decide_eq_false (by omega)
  have d3:decide ((97:Int)≤(m:Int))=true:=decide_eq_true (by omega)
  have d4:decide ((m:Int)≤102)=true:=decide_eq_true (by omega)
  obtain rfl:V=(m:Int)-97+10:=by omega
  clear hV
  go_enter Tryz.func83,Tryz.ntmps83
  go_wp2
  go_ret
  exact⟨wS (by omega),aJ⟩
 rw[if_neg h2,if_neg (by omega)]at hV
 subst hV
 by_cases h3:48≤m
 ·have d1:decide ((48:Int)≤(m:Int))=true:=decide_eq_true (by omega)
  have d2:decide ((m:Int)≤57)=false:=decide_eq_false (by omega)
  by_cases h4:97≤m
  ·have d3:decide ((97:Int)≤(m:Int))=true:=decide_eq_true (by omega)
   have d4:decide ((m:Int)≤102)=false:=decide_eq_false (by omega)
   go_enter Tryz.func83,Tryz.ntmps83
   go_wp2
   go_ret
   exact⟨rfl,aJ⟩
  ·have d3:decide ((97:Int)≤(m:Int))=false:=decide_eq_false (by omega)
   go_enter Tryz.func83,Tryz.ntmps83
   go_wp2
   go_ret
   exact⟨rfl,aJ⟩
 ·have d1:decide ((48:Int)≤(m:Int))=false:=decide_eq_false (by omega)
  have d3:decide ((97:Int)≤(m:Int))=false:=decide_eq_false (by omega)
  go_enter Tryz.func83,Tryz.ntmps83
  go_wp2
  go_ret
  exact⟨rfl,aJ⟩
def dgB (n:Nat):aC:=⟨#[iZ n]⟩
theorem hexD_val:∀ n:Nat,n<16→(iZ n).toNat=(if n<10 then 48+n else 87+n):=by decide
theorem conv25 (W:World) (n c:Nat) (hn:n<16) (g:Nat) (hg:g=W.heap.size) (a:Int) (ha:a=((iZ n).toNat:Int)) :
  (convert 105 9 (.slice (some ⟨g,0,none⟩) 1 c)).run Tryz.prog (W.alloc (.cells #[.int .u8 a] 5))=.ok (.string (dgB n)) (W.alloc (.cells #[.int .u8 a] 5)):=by
 subst hg
 subst ha
 have hx:Blk (W.alloc (.cells #[.int .u8 ((iZ n).toNat:Int)] 5)) W.heap.size 5 #[.int .u8 ((iZ n).toNat:Int)] (0,0):=World.alloc_heap_new _ _
 refine run_convert_bytes_back _ _ _ 5 ⟨W.heap.size,0,none⟩ c [iZ n] Tryz.underlying105 Tryz.underlying5 Tryz.underlying9 (fun j hj=>?_)
 rw[show (⟨W.heap.size,0,none⟩:Addr).add j=⟨W.heap.size,0+j,none⟩ by unfold Addr.add;split <;> simp_all]
 rcases j with _ | j
 ·have:=hx.cell 0
  simp only[List.getElem_cons_zero]
  simp
 ·simp at hj
theorem rDigit25_any (n:Nat) (hn:n<16) (w:World):Calls Tryz.prog 73 #[.int .i64 (n:Int)] w (Ret w (.string (dgB n))):=by
 have hv:=hexD_val n hn
 by_cases h:n<10
 ·rw[if_pos h]at hv
  have d1:decide ((n:Int)<10)=true:=decide_eq_true (by omega)
  have hc:=fun c=>conv25 w n c hn w.heap.size rfl (48+(n:Int)) (by omega)
  generalize dgB n=D at *
  clear hv
  go_enter Tryz.func73,Tryz.ntmps73
  go_wp2
  go_ret
  exact⟨rfl,aJ⟩
 ·rw[if_neg h]at hv
  have d1:decide ((n:Int)<10)=false:=decide_eq_false (by omega)
  have hc:=fun c=>conv25 w n c hn w.heap.size rfl (97+(n:Int)-10) (by omega)
  generalize dgB n=D at *
  clear hv
  go_enter Tryz.func73,Tryz.ntmps73
  go_wp2
  go_ret
  exact⟨rfl,aJ⟩
def catB (l:List aC):aC:=⟨(l.flatMap fun x=>x.data.toList++[59]).toArray⟩
theorem catB_snoc (l:List aC) (x:aC):catB (l++[x])=catB l++x++(⟨#[59]⟩:aC):=fK (by simp[catB])
theorem joinTail_snoc (c:UInt8) (z:List UInt8):∀ l:List (List UInt8),Lib.joinTail [c] (l++[z])=c :: ((l.flatMap fun x=>x++[c])++z)
 | []=>by simp[Lib.joinTail]
 | x :: l=>by
  have ih:=joinTail_snoc c z l
  simp only[Lib.joinTail]at ih ⊢
  rw[List.cons_append,List.map_cons,List.flatten_cons,ih]
  simp
theorem join_cat (c:UInt8) (l:List (List UInt8)) (z:List UInt8):Lib.join (l++[z]) [c]=(l.flatMap fun x=>x++[c])++z:=by
 cases l with
 | nil=>simp[Lib.join_cons,Lib.joinTail]
 | cons x l =>
  rw[List.cons_append,Lib.join_cons,joinTail_snoc]
  simp
theorem textT_cat (t:bz):jF t=catB (ny t++t.conds.map bK)++kC t.sl:=by
 refine fK ?_
 unfold jF
 rw[show ig t=ny t++t.conds.map bK++[kC t.sl] from rfl]
 unfold yM
 rw[List.map_append,List.map_cons,List.map_nil,join_cat]
 simp[catB,List.flatMap_map]
theorem catB_head (t:bz):catB (ny t)=ai t.cust++(⟨#[59]⟩:aC)++ai t.ser++(⟨#[59]⟩:aC)++t.id++(⟨#[59]⟩:aC):=fK (by simp[catB,ny])
theorem hexB_snoc (s:List Nat) (a:Nat):kC (s++[a])=kC s++dgB (a / 16)++dgB (a % 16):=fK (by simp[kC,jf,dgB])
theorem catB_take (l:List aC) (k n:Nat) (h:k≤n):(catB (l.take k)).size≤(catB (l.take n)).size:=by
 have e:l.take k=(l.take n).take k:=by rw[List.take_take,Nat.min_eq_left h]
 rw[e]
 generalize l.take n=m
 rw[Lib.size_eq,Lib.size_eq]
 show (List.flatMap _ (m.take k)).length≤(List.flatMap _ m).length
 conv=>rhs;rw[←List.take_append_drop k m,List.flatMap_append,List.length_append]
 omega
theorem meas_k (m j:Nat) (h:j<m):m-(intOf (.int .i64 ((j:Int)+1))).toNat<m-(intOf (.int .i64 (j:Int))).toNat:=by
 simp[intOf];omega
structure WtS (w:World) (x:ah) (W:World):Prop where
 t:fQ W w.heap.size x
 r:Blk W (w.heap.size+1) 73 #[.string ⟨#[]⟩,.int .i64 0] (0,0)
 b:Below w.heap.size w W
theorem WtS.keep {w W W':World} {x:ah} (h:WtS w x W) (hb:Below W.heap.size W W'):WtS w x W':=⟨h.t.keep hb,Blk.keep h.r hb,aV h.b hb⟩
theorem WtS.facts {w W:World} {x:ah} (h:WtS w x W):W.cell? ⟨w.heap.size+1,0,none⟩=some (.string ⟨#[]⟩)∧W.cell? ⟨w.heap.size+1,1,none⟩=some (.int .i64 0)∧W.frozen? ⟨w.heap.size+1,0,none⟩=false∧W.frozen? ⟨w.heap.size+1,1,none⟩=false∧w.heap.size+1<W.heap.size :=
 ⟨Blk.cell h.r 0,Blk.cell h.r 1,lJ h.r 0,lJ h.r 1,Blk.lt h.r⟩
theorem sl_cell {w:World} {x:ah} (hR:bZ w x) {W:World} {g i a:Nat} (h:fQ W g x) (ha:x.t.sl[i]? = some a):W.cell? ⟨g,4+i,none⟩=some (.int .u8 (a:Int)):=by
 refine h.box.cell (k:=4+i) ?_
 show (bn _ _ _ _ _ _ x.t.sl).toArray[4+i]? = _
 rw[List.getElem?_toArray]
 unfold bn
 rw[List.getElem?_append_right (by simp)]
 simp[b8,ha]
theorem rText25_any (x:ah) (w:World) (hR:bZ w x) (hf:∀ y∈x.L,dE y.c) (hcx:gX x.t=true→∀ y∈x.L,kD y.c) (hid:x.t.id.size≤1000000) (hn:x.t.conds.length≤1000000) (hsz:gX x.t=true→(jF x.t).size≤1000000000) :
  Calls Tryz.prog 36 #[x.val] w (Ret w (.agg #[.string (if gX x.t then jF x.t else ⟨#[]⟩),.int .i64 (if gX x.t then 0 else 3)])):=by
 have hv:=fun (W:World) (hb:Below w.heap.size w W)=>rTValid_any x W (hR.keep hb) hf hid hn
 have hXS:x.cells.toArray.size=20:=by rw[List.size_toArray];exact hR.size
 unfold ah.val at hv ⊢
 have HXS:=Lib.hid hXS
 clear hXS
 cases hvt:gX x.t
 ·rw[hvt]at hv
  have HV:=Lib.hid hv
  clear hv hR hf hcx hvt hsz
  go_enter Tryz.func36,Tryz.ntmps36
  go_upto_region 1 with fail
  generalize hw0:World.alloc _ _=w0
  have hS0:WtS w x w0:=by rw[←hw0];exact⟨⟨(gQ w _ _).1⟩,(gQ w _ _).2,aJ⟩
  clear hw0
  go_upto_region 3 with (first | (refine bD rfl 32 _ rfl ⟨w.heap.size,0,none⟩ (.agg x.cells.toArray) rfl (dY hS0.t.box HXS.out) ?_) | (go_at_call 15;refine (HV.out _ hS0.b).mono ?_;rintro e w2 ⟨rfl,hb2⟩;have hS2:=hS0.keep hb2))
  have hbw:=hS2.b
  obtain⟨f0,f1,f2,f3,f4⟩:=hS2.facts
  clear hS0 hS2
  go_wp2
  exact bodyPost_ret (v:=.agg #[.string ⟨#[]⟩,.int .i64 3]) (by simp[results,Tryz.results36,go_sem,f0,f1,f2,f3,f4]) rfl ⟨rfl,aJ⟩
 rw[hvt]at hv
 rw[if_pos rfl,if_pos rfl]
 have hok:=(vH _).1 hvt
 have hcu0:0≤x.t.cust:=by have:=hok.c0;omega
 have hcu1:x.t.cust≤1099511627777:=by have:=hok.c1;omega
 have hse0:0≤x.t.ser:=by have:=hok.s0;omega
 have hse1:x.t.ser≤1099511627777:=by have:=hok.s1;omega
 have hia:=fun (W:World)=>rDecimal_any x.t.cust.toNat W (by have:=hok.c0;have:=hok.c1;omega)
 have hib:=fun (W:World)=>rDecimal_any x.t.ser.toNat W (by have:=hok.s0;have:=hok.s1;omega)
 rw[Int.toNat_of_nonneg (by have:=hok.c0;omega)]at hia
 rw[Int.toNat_of_nonneg (by have:=hok.s0;omega)]at hib
 have htx:=fun (y:CoM) (hy:y∈x.L) (W:World) (hb:Below w.heap.size w W)=>rtText_any y.c y.m W ((hR.conds.each y hy).keep hb) (hcx hvt y hy)
 have hax:=fun (i:Nat) (u:CoM) (h:x.L[i]? = some u)=>hR.conds.at_ h
 have hslc:=fun (W:World) (i a:Nat) (h:fQ W w.heap.size x) (ha:x.t.sl[i]? = some a)=>sl_cell hR h ha
 have hl:=hR.conds.len
 have hT:=textT_cat x.t
 have hsame:=hR.same
 have hslo:=hR.sl
 have hcat:=catB_head x.t
 have hsz2:=hsz hvt
 obtain⟨T,hTT⟩:∃ T,T=jF x.t:=⟨_,rfl⟩
 rw[←hTT]at hT hsz2 ⊢
 have hmap:x.t.conds.map bK=x.L.map fun y=>bK y.c:=by rw[←hsame,List.map_map];rfl
 rw[hmap]at hT
 have hbnd:∀ k,(catB (ny x.t++(x.L.map fun y=>bK y.c).take k)).size≤T.size:=fun k=>by
  have h1:ny x.t++(x.L.map fun y=>bK y.c).take k=(ny x.t++(x.L.map fun y=>bK y.c)).take (3+k):=by
   rw[List.take_append,List.take_of_length_le (l:=ny x.t) (i:=3+k) (by show 3≤3+k;omega),show 3+k-(ny x.t).length=k by show 3+k-3=k;omega]
  have h2:(catB (ny x.t++x.L.map fun y=>bK y.c)).size≤T.size:=by rw[hT,ByteArray.size_append];omega
  rw[h1]
  refine Nat.le_trans ?_ h2
  have:=catB_take (ny x.t++x.L.map fun y=>bK y.c) (3+k) (3+k+(ny x.t++x.L.map fun y=>bK y.c).length) (by omega)
  rwa [List.take_of_length_le (l:=ny x.t++x.L.map fun y=>bK y.c) (i:=3+k+_) (by omega)]at this
 have hbnd2:∀ i,(catB (ny x.t++x.L.map fun y=>bK y.c)++kC (x.t.sl.take i)).size≤T.size:=fun i=>by
  rw[hT,ByteArray.size_append,ByteArray.size_append]
  have:(kC (x.t.sl.take i)).size≤(kC x.t.sl).size:=by
   have e:∀ s:List Nat,(kC s).size=2*s.length:=fun s=>by
    rw[Lib.size_eq]
    show (jf s).length=_
    induction s with
    | nil=>rfl
    | cons a s ih=>show (iZ (a / 16) :: iZ (a % 16) :: jf s).length=_;simp[ih];omega
   rw[e,e,List.length_take];omega
  omega
 generalize hln:x.t.conds.length=n at *
 have HV:=Lib.hid hv;have HIA:=Lib.hid hia;have HIB:=Lib.hid hib;have HTX:=Lib.hid htx;have HAX:=Lib.hid hax;have HSLC:=Lib.hid hslc;have HL:=Lib.hid hl;have HT:=Lib.hid hT;have HSLO:=Lib.hid hslo;have HCAT:=Lib.hid hcat;have HB1:=Lib.hid hbnd;have HB2:=Lib.hid hbnd2;have HLN:=Lib.hid hln;have HSZ:=Lib.hid hsz2
 clear hv hia hib htx hax hslc hl hT hslo hcat hbnd hbnd2 hln hsz2 hsame hmap hTT hok hvt hsz hcx hf hR
 have z0:=itoa_size2 x.t.cust hcu0 hcu1
 have z1:=itoa_size2 x.t.ser hse0 hse1
 generalize ai x.t.cust=D0 at *
 generalize ai x.t.ser=D1 at *
 generalize hID:x.t.id=ID at *
 have n1:¬ 9223372036854775807<D0.size+1:=by omega
 have n2:¬ 9223372036854775807<D0.size+1+D1.size:=by omega
 have n3:¬ 9223372036854775807<D0.size+1+D1.size+1:=by omega
 have n4:¬ 9223372036854775807<D0.size+1+D1.size+1+ID.size:=by omega
 have n5:¬ 9223372036854775807<D0.size+1+D1.size+1+ID.size+1:=by omega
 have HID:=Lib.hid hID
 clear z0 z1 hid hID hcu0 hcu1 hse0 hse1
 go_enter Tryz.func36,Tryz.ntmps36
 go_upto_region 1 with fail
 generalize hw0:World.alloc _ _=w0
 have hS0:WtS w x w0:=by rw[←hw0];exact⟨⟨(gQ w _ _).1⟩,(gQ w _ _).2,aJ⟩
 clear hw0
 go_upto_region 4 with (first | (refine bD rfl 32 _ rfl ⟨w.heap.size,0,none⟩ (.agg x.cells.toArray) rfl (dY hS0.t.box HXS.out) ?_) | (go_at_call 15;refine (HV.out _ hS0.b).mono ?_;rintro e w2 ⟨rfl,hb2⟩;have hS2:=hS0.keep hb2))
 have HS2:=Lib.hid hS2
 clear hS0 hS2 hb2
 have hdj:∀ (z:Int) (D:aC),((z=x.t.cust∧D=D0)∨(z=x.t.ser∧D=D1))→∀ W,Calls Tryz.prog 59 #[.int .i64 z] W (Ret W (.string D)):=by
  intro z D h W
  rcases h with ⟨h1,h2⟩ | ⟨h1,h2⟩
  ·rw[h1,h2];exact HIA.out W
  ·rw[h1,h2];exact HIB.out W
 have HDJ:=Lib.hid hdj
 clear hdj
 refine qm 13 (by kernel_rfl) (by kernel_rfl) (by kernel_rfl) (DL [IsV (.pointer (some ⟨w.heap.size,0,none⟩)),IsV (.int .i64 x.t.cust),IsV (.string D0),IsV (.string (D0++(⟨#[59]⟩:aC))),IsV (.pointer (some ⟨w.heap.size,1,none⟩)),IsV (.int .i64 x.t.ser),IsV (.string D1),IsV (.string (D0++(⟨#[59]⟩:aC)++D1)),IsV (.string (D0++(⟨#[59]⟩:aC)++D1++(⟨#[59]⟩:aC))),IsV (.pointer (some ⟨w.heap.size,2,none⟩)),IsV (.string ID),IsV (.string (D0++(⟨#[59]⟩:aC)++D1++(⟨#[59]⟩:aC)++ID)),IsV (.string (D0++(⟨#[59]⟩:aC)++D1++(⟨#[59]⟩:aC)++ID++(⟨#[59]⟩:aC)))]) (DL.keep _ (by simp only[qp];repeat' (first | apply And.intro | exact vU _ | exact trivial))) (WtS w x) (HS2.out.keep (Below.drew (Below.refl _ _))) (fun _ _ h hb=>h.keep hb) ?_ ?_
 ·dsimp only[List.take_succ_cons,List.take_zero,mf]
  refine⟨fun vals W hS hd=>?_,fun vals W hS hd=>?_,fun vals W hS hd=>?_,fun vals W hS hd=>?_,fun vals W hS hd=>?_,fun vals W hS hd=>?_,fun vals W hS hd=>?_,fun vals W hS hd=>?_,fun vals W hS hd=>?_,fun vals W hS hd=>?_,fun vals W hS hd=>?_,fun vals W hS hd=>?_,fun vals W hS hd=>?_,trivial⟩
  all_goals
   (try simp only[bQ,DL,IsV,List.getD_cons_zero,List.getD_cons_succ,Region.binds,and_true,true_and]at hd)
   simp only[aZ,List.take_succ_cons,List.take_zero,List.drop_succ_cons,List.drop_zero,Act.put,List.setIfInBounds_toArray,List.set_cons_succ,List.set_cons_zero,List.getD_cons_zero,List.getD_cons_succ]
   obtain⟨y0,y1,y2,y3⟩:=hS.t.cells
   rw[HID.out]at y2
   (try simp only[hd])
   (try obtain⟨hd1,hd2⟩:=hd)
   (try simp only[hd1,hd2])
   (try clear hd)
   go_wp2_with (go_at_call 59;refine (HDJ.out _ _ (by first | exact .inl ⟨rfl,rfl⟩ | exact .inr ⟨rfl,rfl⟩) _).mono ?_;rintro e w5 ⟨rfl,hb5⟩)
   exact⟨rfl,rfl,rfl,by first | exact Below.refl _ _ | assumption⟩
 intro vals w9 hS9 hD9
 have e13:vals 12=.string (D0++(⟨#[59]⟩:aC)++D1++(⟨#[59]⟩:aC)++ID++(⟨#[59]⟩:aC)):=hD9 12 (by omega)
 simp only[aZ,List.take_succ_cons,List.take_zero,List.drop_succ_cons,List.drop_zero,Act.put,List.setIfInBounds_toArray,List.set_cons_succ,List.set_cons_zero,List.getD_cons_zero,List.getD_cons_succ]
 simp only[e13]
 clear hD9 e13
 have HS9:=Lib.hid hS9
 clear hS9 HS2 n1 n2 n3 n4 n5
 go_wp2
 obtain⟨TL,hTL⟩:∃ TL,TL=x.L.map fun y=>bK y.c:=⟨_,rfl⟩
 rw[←hTL]at HT HB1 HB2
 go_loopw [4,5] (fun vo vi wr=>∃ k:Nat,(vo=.string (catB (ny x.t++TL.take k))∧vi=.int .i64 k∧k≤n)∧Hid (WtS w x wr)) (fun _ vi _=>n-(intOf vi).toNat)
 case atStart=>exact⟨0,⟨by rw[List.take_zero,List.append_nil,HCAT.out],rfl,Nat.zero_le _⟩,HS9⟩
 case round =>
  obtain⟨k,⟨rfl,rfl,hk⟩,HS⟩:=hrel
  clear HS9
  obtain⟨y0,y1,y2,y3⟩:=HS.out.t.cells
  rw[HLN.out]at y3
  by_cases hlt:k<n
  ·obtain⟨u,hu⟩:∃ u,x.L[k]? = some u:=⟨_,List.getElem?_eq_getElem (by have:=HL.out;omega)⟩
   obtain⟨_,b,o,hA,hc⟩:=HAX.out k u hu
   have hcx:=fun (W:World) (hb:Below w.heap.size w W)=>pX W b (o+k*7) u (fun j z hz=>aW hb (hc j z hz))
   have ht:=HTX.out u (List.mem_of_getElem? hu)
   have htk:TL.take (k+1)=TL.take k++[bK u.c]:=by rw[hTL,List.take_add_one,List.getElem?_map,hu];rfl
   have hbd:=HB1.out (k+1)
   rw[htk,←List.append_assoc,catB_snoc]at hbd
   simp only[oJ]at hcx ht
   generalize dS u.c u.m=UX at *
   generalize bK u.c=tx at *
   generalize hS0:catB (ny x.t++TL.take k)=S at *
   have hbs:S.size+tx.size+1≤T.size:=by simp only[ByteArray.size_append]at hbd;exact hbd
   have h9:=HSZ.out
   have n1:¬ 9223372036854775807<S.size+tx.size:=by omega
   have n2:¬ 9223372036854775807<S.size+tx.size+1:=by omega
   have HCX:=Lib.hid hcx;have HTT:=Lib.hid ht;have HTK:=Lib.hid (show catB (ny x.t++TL.take (k+1))=S++tx++(⟨#[59]⟩:aC) by rw[htk,←List.append_assoc,catB_snoc,hS0])
   have hk0:(0:Int)≤(k:Int):=by omega
   have hk1:(k:Int)<(n:Int):=by omega
   rw[hA]at y3
   have hbw:=HS.out.b
   clear hcx ht htk hbd hS0 hu hc hA hbs h9
   go_wp2_with (first | (refine bD rfl 27 _ rfl ⟨b,o+k*7,none⟩ (.agg UX) rfl (HCX.out _ hbw) ?_) | (go_at_call 70;refine (HTT.out _ hbw).mono ?_;rintro e w5 ⟨rfl,hb5⟩))
   refine⟨?g1,?g2⟩
   case g1 =>
    (repeat apply Exists.intro)
    refine⟨?rel,rfl⟩
    case rel=>exact⟨k+1,⟨by rw[HTK.out],by go_num,by omega⟩,Lib.hid (HS.out.keep hb5)⟩
   case g2=>exact meas_k n k hlt
  ·obtain rfl:k=n:=by omega
   have hfull:TL.take k=TL:=List.take_of_length_le (by rw[hTL,List.length_map];have:=HL.out;omega)
   rw[hfull]
   obtain⟨wo,rfl⟩:∃ wo:World,wo=wr:=⟨_,rfl⟩
   clear hfull y0 y1 y2
   go_wp2
   go_loopw [4,6] (fun vo vi wr=>∃ i:Nat,(vo=.string (catB (ny x.t++TL)++kC (x.t.sl.take i))∧vi=.int .i64 i∧i≤16)∧Hid (WtS w x wr)) (fun _ vi _=>16-(intOf vi).toNat)
   case atStart=>exact⟨0,⟨by rw[List.take_zero];exact congrArg Value.string (fK (by simp[kC,jf])),rfl,Nat.zero_le _⟩,HS⟩
   case round =>
    obtain⟨i,⟨rfl,rfl,hi⟩,HSr⟩:=hrel
    clear HS
    by_cases hil:i<16
    ·obtain⟨a,ha⟩:∃ a,x.t.sl[i]? = some a:=⟨_,List.getElem?_eq_getElem (by have:=HSLO.out.len;omega)⟩
     have ha256:a<256:=HSLO.out.lt a (List.mem_of_getElem? ha)
     have htk:kC (x.t.sl.take (i+1))=kC (x.t.sl.take i)++dgB (a / 16)++dgB (a % 16):=by rw[List.take_add_one,ha,←hexB_snoc];rfl
     have hbd:=HB2.out (i+1)
     rw[htk]at hbd
     generalize hS0:catB (ny x.t++TL)++kC (x.t.sl.take i)=S at *
     have hbs:S.size+1+1≤T.size:=by
      have:(catB (ny x.t++TL)++(kC (x.t.sl.take i)++dgB (a / 16)++dgB (a % 16))).size=S.size+1+1:=by
        rw[←hS0]
        simp only[ByteArray.size_append]
        have g1:(dgB (a / 16)).size=1:=rfl
        have g2:(dgB (a % 16)).size=1:=rfl
        omega
      omega
     have h9:=HSZ.out
     have g1:(dgB (a / 16)).size=1:=rfl
     have g2:(dgB (a % 16)).size=1:=rfl
     have n1:¬ 9223372036854775807<S.size+1:=by omega
     have n2:¬ 9223372036854775807<S.size+1+1:=by omega
     have HTK:=Lib.hid (show catB (ny x.t++TL)++kC (x.t.sl.take (i+1))=S++dgB (a / 16)++dgB (a % 16) by rw[htk,←hS0];exact fK (by simp))
     have hd1:=fun W=>rDigit25_any (a / 16) (by omega) W
     have hd2:=fun W=>rDigit25_any (a % 16) (by omega) W
     have e1:(((a / 16:Nat)):Int)=(a:Int) / 16:=by omega
     have e2:(((a % 16:Nat)):Int)=(a:Int) % 16:=by omega
     rw[e1]at hd1
     rw[e2]at hd2
     generalize dgB (a / 16)=G1 at *
     generalize dgB (a % 16)=G2 at *
     have HD1:=Lib.hid hd1;have HD2:=Lib.hid hd2;have HAA:=Lib.hid ha
     have hk0:(0:Int)≤(i:Int):=by omega
     have hk1:(i:Int)<16:=by omega
     have ha0:(0:Int)≤(a:Int):=by omega
     have ha1:(a:Int)≤255:=by omega
     clear hd1 hd2 ha htk hbd hS0 hbs h9 e1 e2
     go_upto_region 12 with fail
     have hdj:∀ (z:Int) (D:aC),((z=(a:Int) / 16∧D=G1)∨(z=(a:Int) % 16∧D=G2))→∀ W,Calls Tryz.prog 73 #[.int .i64 z] W (Ret W (.string D)):=by
      intro z D h W
      rcases h with ⟨h1,h2⟩ | ⟨h1,h2⟩
      ·rw[h1,h2];exact HD1.out W
      ·rw[h1,h2];exact HD2.out W
     have HDJ2:=Lib.hid hdj
     clear hdj
     refine qm 17 (by kernel_rfl) (by kernel_rfl) (by kernel_rfl) (DL [IsV (.string S),IsV (.int .i64 i),IsV (.pointer (some ⟨w.heap.size,4,none⟩)),IsV (.pointer (some ⟨w.heap.size,4+i,none⟩)),IsV (.int .u8 (a:Int)),IsV (.int .i64 (a:Int)),IsV (.int .i64 ((a:Int) / 16)),IsV (.string G1),IsV (.string (S++G1)),IsV (.int .i64 i),IsV (.pointer (some ⟨w.heap.size,4,none⟩)),IsV (.pointer (some ⟨w.heap.size,4+i,none⟩)),IsV (.int .u8 (a:Int)),IsV (.int .i64 (a:Int)),IsV (.int .i64 ((a:Int) % 16)),IsV (.string G2),IsV (.string (S++G1++G2))]) (DL.keep _ (by simp only[qp];repeat' (first | apply And.intro | exact vU _ | exact trivial))) (WtS w x) (HSr.out.keep (Below.drew (Below.refl _ _))) (fun _ _ h hb=>h.keep hb) ?_ ?_
     ·dsimp only[List.take_succ_cons,List.take_zero,mf]
      refine⟨fun vals W hS hd=>?_,fun vals W hS hd=>?_,fun vals W hS hd=>?_,fun vals W hS hd=>?_,fun vals W hS hd=>?_,fun vals W hS hd=>?_,fun vals W hS hd=>?_,fun vals W hS hd=>?_,fun vals W hS hd=>?_,fun vals W hS hd=>?_,fun vals W hS hd=>?_,fun vals W hS hd=>?_,fun vals W hS hd=>?_,fun vals W hS hd=>?_,fun vals W hS hd=>?_,fun vals W hS hd=>?_,fun vals W hS hd=>?_,trivial⟩
      all_goals
       (try simp only[bQ,DL,IsV,List.getD_cons_zero,List.getD_cons_succ,Region.binds,and_true,true_and]at hd)
       simp only[aZ,List.take_succ_cons,List.take_zero,List.drop_succ_cons,List.drop_zero,Act.put,List.setIfInBounds_toArray,List.set_cons_succ,List.set_cons_zero,List.getD_cons_zero,List.getD_cons_succ]
       have hcl:=HSLC.out W i a hS.t HAA.out
       (try simp only[hd])
       (try obtain⟨hd1,hd2⟩:=hd)
       (try simp only[hd1,hd2])
       (try clear hd)
       go_wp2_with (go_at_call 73;refine (HDJ2.out _ _ (by first | exact .inl ⟨rfl,rfl⟩ | exact .inr ⟨rfl,rfl⟩) _).mono ?_;rintro e w5 ⟨rfl,hb5⟩)
       exact⟨rfl,rfl,rfl,by first | exact Below.refl _ _ | assumption⟩
     intro vals wz hSz hDz
     have e17:vals 16=.string (S++G1++G2):=hDz 16 (by omega)
     simp only[aZ,List.take_succ_cons,List.take_zero,List.drop_succ_cons,List.drop_zero,Act.put,List.setIfInBounds_toArray,List.set_cons_succ,List.set_cons_zero,List.getD_cons_zero,List.getD_cons_succ]
     simp only[e17]
     clear hDz e17
     go_wp2
     exact⟨⟨i+1,⟨by rw[HTK.out],by go_num,by omega⟩,Lib.hid hSz⟩,by simp[intOf];omega⟩
    ·obtain rfl:i=16:=by omega
     have hfull:x.t.sl.take 16=x.t.sl:=List.take_of_length_le (by have:=HSLO.out.len;omega)
     rw[hfull,←HT.out]
     have hbw:=HSr.out.b
     obtain⟨f0,f1,f2,f3,f4⟩:=HSr.out.facts
     go_wp2
     exact bodyPost_ret (v:=.agg #[.string T,.int .i64 0]) (by simp[results,Tryz.results36,go_sem,f0,f1,f2,f3,f4]) rfl ⟨rfl,(hbw.setCell (p:=⟨w.heap.size+1,0,none⟩) (Nat.le_succ _) _).setCell (p:=⟨w.heap.size+1,1,none⟩) (Nat.le_succ _) _⟩
theorem before_tr {a b c:aj} (h1:Bl a b=true) (h2:Bl b c=true):Bl a c=true:=by
 unfold Bl at *
 simp only[decide_eq_true_eq] at *
 omega
theorem up_of:∀ L:List aj,(∀ i x y,L[i]? = some x→L[i+1]? = some y→Bl x y=true)→CZ L
 | [],_=>List.Pairwise.nil
 | [a],_=>List.pairwise_singleton _ _
 | a :: b :: l,h=>by
  have ih:=up_of (b :: l) (fun i x y hx hy=>h (i+1) x y hx hy)
  have hab:=h 0 a b rfl rfl
  refine List.Pairwise.cons (fun z hz=>?_) ih
  rcases List.mem_cons.1 hz with rfl | hz
  ·exact hab
  ·exact before_tr hab (List.rel_of_pairwise_cons ih hz)
structure RiK (L:List aj) (k:Nat):Prop where
 v:∀ i x,i<k→L[i]? = some x→lQ x=true
 u:∀ i x y,i+1<k→L[i]? = some x→L[i+1]? = some y→Bl x y=true
theorem RiK.zero (L:List aj):RiK L 0:=⟨fun i x h=>by omega,fun i x y h=>by omega⟩
theorem RiK.step {L:List aj} {k:Nat} {x:aj} (h:RiK L k) (hx:L[k]? = some x) (hv:lQ x=true) (hu:∀ y,0<k→L[k-1]? = some y→Bl y x=true):RiK L (k+1):=by
 refine⟨fun i y hi hy=>?_,fun i a b hi ha hb=>?_⟩
 ·by_cases he:i=k
  ·subst he;rw[hx]at hy;injection hy with hy;rw[←hy];exact hv
  ·exact h.v i y (by omega) hy
 ·by_cases he:i+1=k
  ·subst he
   rw[hx]at hb
   injection hb with hb
   rw[←hb]
   exact hu a (by omega) (by simpa using ha)
  ·exact h.u i a b (by omega) ha hb
theorem RiK.ok {L:List aj} {k:Nat} (h:RiK L k) (hk:L.length=k):vM L :=
 ⟨up_of L fun i x y hx hy=>h.u i x y (by have:=(List.getElem?_eq_some_iff.1 hy).1;omega) hx hy,fun x hx=>by
  obtain⟨i,hi,rfl⟩:=List.getElem_of_mem hx
  exact h.v i _ (by omega) (List.getElem?_eq_getElem hi)⟩
theorem results_cell1 {fn:Func} {p:Tmp} {ty:TypeId} (h:fn.results=#[.cell p ty]) (tmps:Array Value) (w:World) (g:Nat) (cs:Array Value)
  (hp:tmps.getD p undef=.pointer (some ⟨g,0,none⟩)) (hl:(loadVar ty ⟨g,0,none⟩).run Tryz.prog w=.ok (.agg cs) w):(results fn tmps).run Tryz.prog w=.ok (.agg cs) w:=by
 rw[Array.getD_eq_getD_getElem?]at hp
 simp[results,h,hp,Sem.run_bind,hl,asAddr,Result.andThen]
structure GrS (w:World) (x:ah) (PX:Array Value) (W:World):Prop where
 t:fQ W w.heap.size x
 p:aQ W (w.heap.size+1) 57 PX
 b:Below w.heap.size w W
theorem GrS.keep {w W W':World} {x:ah} {PX:Array Value} (h:GrS w x PX W) (hb:Below W.heap.size W W'):GrS w x PX W':=⟨h.t.keep hb,h.p.keep hb,aV h.b hb⟩
def KBox (w:World) (g:Nat) (b:Bool) (e:Int):Prop:=Blk w g 263 #[.bool b,.int .i64 e] (0,0)
theorem KBox.facts {w:World} {g:Nat} {b:Bool} {e:Int} (h:KBox w g b e):w.cell? ⟨g,0,none⟩=some (.bool b)∧w.cell? ⟨g,1,none⟩=some (.int .i64 e)∧w.frozen? ⟨g,0,none⟩=false∧w.frozen? ⟨g,1,none⟩=false :=
 ⟨Blk.cell h 0,Blk.cell h 1,lJ h 0,lJ h 1⟩
def JBox (w:World) (g:Nat) (s:aC) (b:Bool) (e:Int):Prop:=Blk w g 221 #[.string s,.bool b,.int .i64 e] (0,0)
theorem JBox.facts {w:World} {g:Nat} {s:aC} {b:Bool} {e:Int} (h:JBox w g s b e):w.cell? ⟨g,0,none⟩=some (.string s)∧w.cell? ⟨g,1,none⟩=some (.bool b)∧w.cell? ⟨g,2,none⟩=some (.int .i64 e)∧w.frozen? ⟨g,0,none⟩=false∧w.frozen? ⟨g,1,none⟩=false∧w.frozen? ⟨g,2,none⟩=false :=
 ⟨Blk.cell h 0,Blk.cell h 1,Blk.cell h 2,lJ h 0,lJ h 1,lJ h 2⟩
theorem infoInt7:(Tryz.prog.info? 3).map (fun i=>(i.zero,i.size,i.bytes))=some (some (.int .i64 0),1,8):=by kernel_rfl
theorem blk_put8 {w:World} {g:Nat} {t:TypeId} {c0 c1 c2 c3 c4 c5 c6 c7:Value} (h:Blk w g t #[c0,c1,c2,c3,c4,c5,c6,c7] (0,0)) (v0 v1 v2 v3 v4 v5 v6 v7:Value):Blk ((((((((w.setCell ⟨g,0,none⟩ v0).setCell ⟨g,1,none⟩ v1).setCell ⟨g,2,none⟩ v2).setCell ⟨g,3,none⟩ v3).setCell ⟨g,4,none⟩ v4).setCell ⟨g,5,none⟩ v5).setCell ⟨g,6,none⟩ v6).setCell ⟨g,7,none⟩ v7) g t #[v0,v1,v2,v3,v4,v5,v6,v7] (0,0):=by
 have h0:=Blk.set_ h 0 v0
 simp only[List.setIfInBounds_toArray,List.set_cons_zero,List.set_cons_succ]at h0
 have h1:=Blk.set_ h0 1 v1
 simp only[List.setIfInBounds_toArray,List.set_cons_zero,List.set_cons_succ]at h1
 have h2:=Blk.set_ h1 2 v2
 simp only[List.setIfInBounds_toArray,List.set_cons_zero,List.set_cons_succ]at h2
 have h3:=Blk.set_ h2 3 v3
 simp only[List.setIfInBounds_toArray,List.set_cons_zero,List.set_cons_succ]at h3
 have h4:=Blk.set_ h3 4 v4
 simp only[List.setIfInBounds_toArray,List.set_cons_zero,List.set_cons_succ]at h4
 have h5:=Blk.set_ h4 5 v5
 simp only[List.setIfInBounds_toArray,List.set_cons_zero,List.set_cons_succ]at h5
 have h6:=Blk.set_ h5 6 v6
 simp only[List.setIfInBounds_toArray,List.set_cons_zero,List.set_cons_succ]at h6
 have h7:=Blk.set_ h6 7 v7
 simp only[List.setIfInBounds_toArray,List.set_cons_zero,List.set_cons_succ]at h7
 exact h7
theorem below_put8 {a w:World} {g:Nat} (h:Below a.heap.size a w) (hg:a.heap.size≤g) (v0 v1 v2 v3 v4 v5 v6 v7:Value):Below a.heap.size a ((((((((w.setCell ⟨g,0,none⟩ v0).setCell ⟨g,1,none⟩ v1).setCell ⟨g,2,none⟩ v2).setCell ⟨g,3,none⟩ v3).setCell ⟨g,4,none⟩ v4).setCell ⟨g,5,none⟩ v5).setCell ⟨g,6,none⟩ v6).setCell ⟨g,7,none⟩ v7) :=
 (((((((h.setCell (p:=⟨g,0,none⟩) hg v0).setCell (p:=⟨g,1,none⟩) hg v1).setCell (p:=⟨g,2,none⟩) hg v2).setCell (p:=⟨g,3,none⟩) hg v3).setCell (p:=⟨g,4,none⟩) hg v4).setCell (p:=⟨g,5,none⟩) hg v5).setCell (p:=⟨g,6,none⟩) hg v6).setCell (p:=⟨g,7,none⟩) hg v7
def DM (g0 g1 H:Nat) (fa ta ua fb tb ub:Int) (p:aC) (S1 S2 S3:Option Addr) (k1 s1 k2 s2 k3 s3:Nat) (l1 l2:List aC) (l3:List Int) (j:Nat) (v:Value) (w:World):Prop :=
 match j with
 | 0=>v=.pointer (some ⟨g0,0,none⟩)
 | 1=>v=.int .i64 fa
 | 2=>v=.pointer (some ⟨g1,0,none⟩)
 | 3=>v=.int .i64 fb
 | 4=>v=.int .i64 (max fa fb)
 | 5=>v=.pointer (some ⟨g0,1,none⟩)
 | 6=>v=.int .i64 ta
 | 7=>v=.pointer (some ⟨g1,1,none⟩)
 | 8=>v=.int .i64 tb
 | 9=>v=.int .i64 (min ta tb)
 | 10=>v=.string p
 | 11=>∃ b,v=.slice (some b) 0 0
 | 12=>v=.slice S1 k1 s1
 | 13=>∃ A c,v=.slice A k1 c∧aI w 1 A k1 (l1.map .string)∧wI w A k1 9
 | 14=>∃ b,v=.slice (some b) 0 0
 | 15=>v=.slice S2 k2 s2
 | 16=>∃ A c,v=.slice A k2 c∧aI w 1 A k2 (l2.map .string)∧wI w A k2 9
 | 17=>∃ b,v=.slice (some b) 0 0
 | 18=>v=.slice S3 k3 s3
 | 19=>∃ A c,v=.slice A k3 c∧aI w 1 A k3 (l3.map (.int .i64))∧wI w A k3 3
 | 20=>v=.pointer (some ⟨g0,6,none⟩)
 | 21=>v=.int .i64 ua
 | 22=>v=.pointer (some ⟨g1,6,none⟩)
 | 23=>v=.int .i64 ub
 | 24=>v=.int .i64 (fF ua ub)
 | 25=>∃ A1 c1 A2 c2 A3 c3,v=.agg #[.int .i64 (max fa fb),.int .i64 (min ta tb),.string p,.slice A1 k1 c1,.slice A2 k2 c2,.slice A3 k3 c3,.int .i64 (fF ua ub)]∧aI w 1 A1 k1 (l1.map .string)∧aI w 1 A2 k2 (l2.map .string)∧aI w 1 A3 k3 (l3.map (.int .i64))∧wI w A1 k1 9∧wI w A2 k2 9∧wI w A3 k3 3
 | 26=>∃ g,v=.pointer (some ⟨g,0,none⟩)∧H≤g∧aX w g 0 0 ⟨#[]⟩ none 0 0 none 0 0 none 0 0 0
 | _=>True
theorem DM.keep {g0 g1 H:Nat} {fa ta ua fb tb ub:Int} {p:aC} {S1 S2 S3:Option Addr} {k1 s1 k2 s2 k3 s3:Nat} {l1 l2:List aC} {l3:List Int} (j:Nat) (v:Value) (w w':World) (h:DM g0 g1 H fa ta ua fb tb ub p S1 S2 S3 k1 s1 k2 s2 k3 s3 l1 l2 l3 j v w) (hb:Below w.heap.size w w'):DM g0 g1 H fa ta ua fb tb ub p S1 S2 S3 k1 s1 k2 s2 k3 s3 l1 l2 l3 j v w':=by
 unfold DM at h
 split at h
 all_goals first
  | exact h
  | (obtain⟨A,c,e,hR,hT⟩:=h;exact⟨A,c,e,hR.keep hb,hT.keep hb⟩)
  | (obtain⟨A1,c1,A2,c2,A3,c3,e,r1,r2,r3,u1,u2,u3⟩:=h;exact⟨A1,c1,A2,c2,A3,c3,e,r1.keep hb,r2.keep hb,r3.keep hb,u1.keep hb,u2.keep hb,u3.keep hb⟩)
  | (obtain⟨g,e,hg,hx⟩:=h;exact⟨g,e,hg,Blk.keep hx hb⟩)
  | (unfold DM;split <;> first | trivial | (exfalso;simp_all;done))
theorem wI.but {w w':World} {A:Option Addr} {n g:Nat} {t t':TypeId} {cs:Array Value} {fr:Nat × Nat} (h:wI w A n t) (hb:But g w w') (hB:Blk w g t' cs fr) (ht:t≠t'):wI w' A n t:=fun h0 =>
 let ⟨b,o,cs',fr',e,hx⟩:=h h0
 ⟨b,o,cs',fr',e,hb.blk hx (h.off hB ht h0 _ e)⟩
theorem put8_but {w:World} {g:Nat} {v0 v1 v2 v3 v4 v5 v6 v7:Value}:But g w ((((((((w.setCell ⟨g,0,none⟩ v0).setCell ⟨g,1,none⟩ v1).setCell ⟨g,2,none⟩ v2).setCell ⟨g,3,none⟩ v3).setCell ⟨g,4,none⟩ v4).setCell ⟨g,5,none⟩ v5).setCell ⟨g,6,none⟩ v6).setCell ⟨g,7,none⟩ v7) :=
 (((((((But.set w g 0 _).step 1 _).step 2 _).step 3 _).step 4 _).step 5 _).step 6 _).step 7 _
def meantL (c:aY) (m:ae) (er:Int):List Value:=[.int .i64 c.fr,.int .i64 c.till,.string c.pat,.slice m.A c.cl.length m.ca,.slice m.B c.co.length m.cb,.slice m.S c.si.length m.cs,.int .i64 c.us,.int .i64 er]
theorem infMade21:(Tryz.prog.info? 90).map (·.size)=some 8:=by kernel_rfl
theorem meant_one (c:aY) (m:ae) (er:Int):(meantL c m er).toArray.all (·.oneCell')=true:=by rw[List.all_toArray];rfl
theorem made21_at {W:World} {g:Nat} {c:aY} {m:ae} {t:TypeId} (h:aQ W g t (meantL c m 0).toArray):(loadVar 27 ⟨g,0,none⟩).run Tryz.prog W=.ok (.agg (dS c m)) W :=
 yI (P:=Tryz.prog) W g 0 t 27 (meantL c m 0) (dS c m).toList (0,0) _ h (fun j v hv=>by
  match j,hv with
  | 0,hv=>exact hv
  | 1,hv=>exact hv
  | 2,hv=>exact hv
  | 3,hv=>exact hv
  | 4,hv=>exact hv
  | 5,hv=>exact hv
  | 6,hv=>exact hv
  | j+7,hv=>simp[dS]at hv) Tryz.underlying27 rfl (by kernel_rfl)
structure RnS (w:World) (x:ah) (Z:Array Value) (W:World):Prop where
 t:fQ W w.heap.size x
 z:aQ W (w.heap.size+1) 48 Z
 b:Below w.heap.size w W
theorem RnS.keep {w W W':World} {x:ah} {Z:Array Value} (h:RnS w x Z W) (hb:Below W.heap.size W W'):RnS w x Z W':=⟨h.t.keep hb,h.z.keep hb,aV h.b hb⟩
theorem RnS.low {w W W':World} {x:ah} {Z:Array Value} (h:RnS w x Z W) (hb:Below (w.heap.size+2) W W'):RnS w x Z W' :=
 ⟨⟨(hb.block _ (by omega)).trans h.t.box⟩,(hb.block _ (by omega)).trans h.z,h.b.trans (hb.mono (by omega))⟩
structure RnL (w:World) (x:ah) (g n0:Nat) (Y:Array Value) (c:aY) (m:ae) (W:World):Prop where
 s:RnS w x (#[.int .i64 0,.int .i64 0,.string ⟨#[]⟩,.slice none 0 0,.slice none 0 0,.slice none 0 0,.int .i64 0,.int .i64 0]:Array Value) W
 g:aQ W g 27 Y
 r:dA W c m
 n:n0≤W.heap.size
theorem RnL.keep {w W W':World} {x:ah} {g n0:Nat} {Y:Array Value} {c:aY} {m:ae} (h:RnL w x g n0 Y c m W) (hb:Below W.heap.size W W'):RnL w x g n0 Y c m W':=⟨h.s.keep hb,h.g.keep hb,h.r.keep hb,Nat.le_trans h.n hb.size⟩
def RTokPost (t:bz) (er:Int) (w:World) (e:Ending) (w':World):Prop:=Below w.heap.size w w'∧∃ y:ah,e=.returned (.agg (y.cells++[Value.int .i64 er]).toArray)∧bZ w' y∧y.t=t
def RTokPostL (t:bz) (er:Int) (L:List CoM) (w:World) (e:Ending) (w':World):Prop:=Below w.heap.size w w'∧∃ y:ah,e=.returned (.agg (y.cells++[Value.int .i64 er]).toArray)∧bZ w' y∧y.t=t∧(er=0→y.L=L)∧wI w' y.A y.t.conds.length 27∧∀ a,y.A=some a→w.heap.size≤a.block
theorem RTokPostL.weak {t:bz} {er:Int} {L:List CoM} {w w':World} {e:Ending} (h:RTokPostL t er L w e w'):RTokPost t er w e w':=⟨h.1,h.2.elim fun y hy=>⟨y,hy.1,hy.2.1,hy.2.2.1⟩⟩
theorem list20:∀ l:List Value,l.length=20→∃ a0 a1 a2 a3 a4 a5 a6 a7 a8 a9 a10 a11 a12 a13 a14 a15 a16 a17 a18 a19:Value,l=[a0,a1,a2,a3,a4,a5,a6,a7,a8,a9,a10,a11,a12,a13,a14,a15,a16,a17,a18,a19]
 | a0 :: a1 :: a2 :: a3 :: a4 :: a5 :: a6 :: a7 :: a8 :: a9 :: a10 :: a11 :: a12 :: a13 :: a14 :: a15 :: a16 :: a17 :: a18 :: a19 :: [],_=>⟨_,_,_,_,_,_,_,_,_,_,_,_,_,_,_,_,_,_,_,_,rfl⟩
theorem run_made (l:List Value) (h:l.length=20) (W:World):(Instr.build 40 #[(0,.agg l.toArray)]).run Tryz.prog W=.ok (.agg (l++[Value.int .i64 0]).toArray) W:=by
 obtain⟨a0,a1,a2,a3,a4,a5,a6,a7,a8,a9,a10,a11,a12,a13,a14,a15,a16,a17,a18,a19,rfl⟩:=list20 l h
 exact run_build W _ _ _ (by kernel_rfl)
theorem infMade:(Tryz.prog.info? 40).map (·.size)=some 21:=by kernel_rfl
theorem made_load {w:World} {g:Nat} {X:Array Value} {t:TypeId} (hg:w.heap[g]? = some (.cells X t (0,0))) (hs:X.size=21):(loadVar 40 ⟨g,0,none⟩).run Tryz.prog w=.ok (.agg X) w :=
 run_loadVar_row (P:=Tryz.prog) w g _ 40 X _ _ hg Tryz.underlying40 rfl (by rw[hs];exact infMade)
theorem made_size {w:World} {y:ah} (h:bZ w y) (er:Int):(y.cells++[Value.int .i64 er]).toArray.size=21:=by rw[List.size_toArray,List.length_append,h.size];rfl
theorem made_one (y:ah) (er:Int):(y.cells++[Value.int .i64 er]).toArray.all (·.oneCell')=true:=by
 have h:=mi y.t.cust y.t.ser y.t.id y.A y.t.conds.length y.c y.t.sl
 rw[List.all_toArray]at h ⊢
 rw[List.all_append,show y.cells=bn y.t.cust y.t.ser y.t.id y.A y.t.conds.length y.c y.t.sl from rfl,h]
 rfl
structure RmS (w:World) (K ZM:Array Value) (g:Nat) (X:Array Value) (cg:Nat) (Y:Array Value) (W:World):Prop where
 k:aQ W w.heap.size 23 K
 r:aQ W (w.heap.size+2) 40 ZM
 t:aQ W g 32 X
 c:aQ W cg 27 Y
 b:Below w.heap.size w W
 s:w.heap.size+2<W.heap.size
theorem RmS.keep {w W W':World} {K Z X Y:Array Value} {g cg:Nat} (h:RmS w K Z g X cg Y W) (hb:Below W.heap.size W W'):RmS w K Z g X cg Y W':=⟨h.k.keep hb,h.r.keep hb,h.t.keep hb,h.c.keep hb,aV h.b hb,Nat.lt_of_lt_of_le h.s hb.size⟩
theorem list7 {α:Type} {l:List α} (h:l.length=7):∃ a b c d e f g,l=[a,b,c,d,e,f,g]:=by
 match l,h with
 | [a,b,c,d,e,f,g],_=>exact⟨a,b,c,d,e,f,g,rfl⟩
end Go.Proofs.YtlkbkclnbppigaaGreatDoor
