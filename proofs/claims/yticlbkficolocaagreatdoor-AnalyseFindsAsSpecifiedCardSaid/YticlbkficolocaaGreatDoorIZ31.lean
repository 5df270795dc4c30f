/- The reference's FewRules, given what Few returns of each rule. -/
import Derived.Test.YticlbkficolocaaGreatDoorIZ28
set_option maxHeartbeats 4000000
namespace Go.Proofs.YticlbkficolocaaGreatDoor
open Go.RowKit Go.Sort
set_option linter.unusedVariables false
set_option linter.unusedSimpArgs false
set_option maxRecDepth 100000
theorem rFewRules22_any (p:Qh→Bool) (A:Option Addr) (n c:Nat) (L:List Qh) (most:Int) (w:World) (hL:Qs w A n L) (hn:n≤9223372036854775807)
  (cP:∀ x∈L,∀ W,Below w.heap.size w W→Calls Tryz.prog 19 #[x.val] W (Zx W (.bool (p x)))) :
  Calls Tryz.prog 5 #[.slice A n c,.int .i64 most] w (Zx w (.bool (L.all p&&decide ((n:Int)≤most)))):=by
 have hl:L.length=n:=hL.len
 obtain⟨V,hV⟩:∃ V,V=L.all p:=⟨_,rfl⟩
 rw[←hV]
 have HP:=Lib.hid cP;have HA:=Lib.hid hL;have HL:=Lib.hid hl;have HV:=Lib.hid hV
 clear cP hL hl hV
 go_enter Tryz.func5,Tryz.ntmps5
 go_wp2
 go_loopw [5] (fun i wr=>∃ k:Nat,k≤n∧i=.int .i64 k∧Hid (V=(L.drop k).all p)∧Below w.heap.size w wr) (fun i _=>n-(intOf i).toNat)
 case atStart=>exact⟨0,by omega,rfl,Lib.hid (by rw[HV.out];rfl),Below.refl _ _⟩
 case round =>
  obtain⟨k,hk,rfl,HI,hb⟩:=hrel
  by_cases hlt:k<n
  ·obtain⟨x,hx⟩:∃ x,L[k]? = some x:=⟨_,List.getElem?_eq_getElem (by have:=HL.out;omega)⟩
   obtain⟨_,b,o,rfl,hcell⟩:=(HA.out.keep hb).at_ hx
   have hld:=Uj wr b (o+k*18) x hcell
   have hc:=HP.out x (List.mem_of_getElem? hx) wr hb
   have hk0:(0:Int)≤(k:Int):=by omega
   have hk1:(k:Int)<(n:Int):=by omega
   clear hcell
   have hxv:x.val=x.val:=rfl
   generalize x.val=xv at hld hc
   clear hxv
   have HLD:=Lib.hid hld
   clear hld
   cases hpx:p x
   ·rw[hpx]at hc
    have HC:=Lib.hid hc
    have hVf:V=false:=by rw[HI.out];exact all_stop _ _ _ _ hx hpx
    subst hVf
    clear hc hx hpx
    rw[Bool.false_and]
    go_wp2_with (first | (refine Qw rfl _ _ rfl ⟨b,o+k*18,none⟩ xv rfl HLD.out ?_) | (go_at_call 19;refine (HC.out).mono ?_;rintro e w2 ⟨rfl,hb2⟩))
    go_ret
    exact⟨rfl,Qj hb hb2⟩
   ·rw[hpx]at hc
    have HC:=Lib.hid hc
    have hVs:V=(L.drop (k+1)).all p:=by rw[HI.out];exact all_step _ _ _ _ hx hpx
    have HI2:=Lib.hid hVs
    clear hc hx hpx hVs
    go_wp2_with (first | (refine Qw rfl _ _ rfl ⟨b,o+k*18,none⟩ xv rfl HLD.out ?_) | (go_at_call 19;refine (HC.out).mono ?_;rintro e w2 ⟨rfl,hb2⟩))
    exact⟨⟨k+1,by omega,by go_num,HI2,Qj hb hb2⟩,by simp[intOf];omega⟩
  ·have hVt:V=true:=by rw[HI.out,List.drop_eq_nil_of_le (by have:=HL.out;omega)];rfl
   subst hVt
   rw[Bool.true_and]
   go_wp2
   go_ret
   exact⟨rfl,hb⟩
theorem rNames22_any (A:Option Addr) (n c:Nat) (xs:List ByteArray) (w:World) (hA:Reads w 1 A n (xs.map .string)) (hn:n≤1000000) (hsz:∀ s∈xs,s.size≤100000):Calls Tryz.prog 134 #[.slice A n c] w (Zx w (.bool (U0 xs))):=by
 have hl:xs.length=n:=by have:=hA.1;simp at this;omega
 obtain⟨V,hV⟩:∃ V,V=U0 xs:=⟨_,rfl⟩
 rw[←hV]
 have cN:=fun (s:ByteArray) (hs:s.size≤100000) (W:World)=>Ue s W (by omega)
 have HN:=Lib.hid cN
 have HA:=Lib.hid hA;have HL:=Lib.hid hl;have HV:=Lib.hid hV;have HS:=Lib.hid hsz
 clear hA hl hV hsz cN
 go_enter Tryz.func134,Tryz.ntmps134
 go_wp2
 go_loopw [3] (fun i wr=>∃ k:Nat,k≤n∧i=.int .i64 k∧Hid ((List.range k).all (Jt KQ Qy xs)=true)∧Below w.heap.size w wr) (fun i _=>n-(intOf i).toNat)
 case atStart=>exact⟨0,by omega,rfl,Lib.hid rfl,Below.refl _ _⟩
 case round =>
  obtain⟨k,hk,rfl,HK,hb⟩:=hrel
  by_cases hlt:k<n
  ·obtain⟨u,hu⟩:∃ u,xs[k]? = some u:=⟨_,List.getElem?_eq_getElem (by have:=HL.out;omega)⟩
   obtain⟨pb,po,rfl,hcell⟩:=(HA.out.keep hb).2 (by omega)
   have hc1:wr.cell? ⟨pb,po+k,none⟩=some (.string u):=hcell k _ (by simp[hu])
   have hNu:=HN.out u (by have:=HS.out u (List.mem_of_getElem? hu);omega)
   have hk0:(0:Int)≤(k:Int):=by omega
   have hk1:(k:Int)<(n:Int):=by omega
   cases hnu:Qy u
   ·obtain rfl:V=false:=by
     rw[HV.out,We (k:=k) (by have:=HL.out;omega) (by simp[Jt,hu,hnu])]
    rw[hnu]at hNu
    have HNU:=Lib.hid hNu
    clear HK hcell hu hNu hnu
    go_wp2_with (go_at_call 73;refine (HNU.out _).mono ?_;rintro e w2 ⟨rfl,hb2⟩)
    go_quiet (fail)
    go_wp2
    go_ret
    exact⟨rfl,Qz⟩
   ·rw[hnu]at hNu
    have HNU:=Lib.hid hNu
    rcases Nat.eq_zero_or_pos k with h0 | hpos
    ·subst h0
     have HK2:Hid ((List.range (0+1)).all (Jt KQ Qy xs)=true):=Lib.hid (X9 HK.out (by rw[okN_zero hu,hnu]))
     simp only[Nat.add_zero]at hc1
     clear HK hcell hu hNu hnu
     go_wp2_with (go_at_call 73;refine (HNU.out _).mono ?_;rintro e w2 ⟨rfl,hb2⟩)
     go_quiet (fail)
     go_wp2
     exact⟨⟨1,by omega,rfl,HK2,Qz⟩,by simp[intOf];omega⟩
    ·obtain⟨j,rfl⟩:∃ j,k=j+1:=⟨k-1,by omega⟩
     obtain⟨y,hy⟩:∃ y,xs[j]? = some y:=⟨_,List.getElem?_eq_getElem (by have:=HL.out;omega)⟩
     have hc2:wr.cell? ⟨pb,po+j,none⟩=some (.string y):=hcell j _ (by simp[hy])
     have hk2:(0:Int)≤(j:Int):=by omega
     have hk3:(j:Int)<(n:Int):=by omega
     have hk4:((j:Int)+1-1)=j:=by omega
     have hle:=Ym u y
     have hat:=okN_at hu hy
     rw[hnu,Bool.true_and]at hat
     cases ht:KQ y u
     ·obtain rfl:V=false:=by
       rw[HV.out,We (k:=j+1) (by have:=HL.out;omega) (by rw[hat,ht])]
      rw[ht]at hle
      clear HK hcell hu hy hat ht hNu hnu
      go_wp2_with (go_at_call 73;refine (HNU.out _).mono ?_;rintro e w2 ⟨rfl,hb2⟩;have hc2':=Qq hb2 hc2;have hc1':=Qq hb2 hc1)
      go_quiet (fail)
      go_wp2
      go_ret
      exact⟨rfl,Qz⟩
     ·have HK2:Hid ((List.range (j+1+1)).all (Jt KQ Qy xs)=true):=Lib.hid (X9 HK.out (by rw[hat,ht]))
      rw[ht]at hle
      clear HK hcell hu hy hat ht hNu hnu
      go_wp2_with (go_at_call 73;refine (HNU.out _).mono ?_;rintro e w2 ⟨rfl,hb2⟩;have hc2':=Qq hb2 hc2;have hc1':=Qq hb2 hc1)
      go_quiet (fail)
      go_wp2
      exact⟨⟨j+1+1,by omega,by go_num,HK2,Qz⟩,by simp[intOf];omega⟩
  ·obtain rfl:V=true:=by
    rw[HV.out]
    unfold U0
    have:=HK.out
    rw[show k=xs.length by have:=HL.out;omega]at this
    exact this
   go_wp2
   go_ret
   exact⟨rfl,hb⟩
abbrev RuleP:=ByteArray × List ByteArray
def mtR (r:RuleP) (a t:ByteArray):Bool:=Zk r.1 a&&r.2.all (YQ t)
def chooseR (l:List RuleP) (a t:ByteArray):Option Nat:=l.findIdx? fun r=>mtR r a t
theorem choose_iff (l:List RuleP) (a t:ByteArray) (i:Nat):chooseR l a t=some i↔∃ r,l[i]? = some r∧mtR r a t=true∧∀ j q,j<i→l[j]? = some q→mtR q a t=false:=by
 unfold chooseR
 rw[List.findIdx?_eq_some_iff_getElem]
 constructor
 ·rintro⟨h,h1,h2⟩
  refine⟨l[i],List.getElem?_eq_getElem h,h1,fun j q hj hq=>?_⟩
  have:=h2 j hj
  obtain⟨h3,h4⟩:=List.getElem?_eq_some_iff.1 hq
  rw[←h4];simpa using this
 ·rintro⟨r,hr,h1,h2⟩
  obtain⟨h3,h4⟩:=List.getElem?_eq_some_iff.1 hr
  refine⟨h3,by rw[h4];exact h1,fun j hj=>?_⟩
  have:=h2 j l[j] hj (List.getElem?_eq_getElem (by omega))
  simpa using this
def subB (a b:List ByteArray):Bool:=a.all fun t=>Lib.containsS b t
theorem subB_iff (a b:List ByteArray):subB a b=true↔∀ t∈a,t∈b:=by
 unfold subB
 rw[List.all_eq_true]
 exact forall_congr' fun t=>forall_congr' fun _=>Lib.containsS_iff b t
def beforeR (l:List RuleP) (i:Nat) (ts:List ByteArray):List ByteArray:=((l.take i).filter fun q=>subB q.2 ts).map (·.1)
theorem before_mem {l:List RuleP} {i:Nat} {ts:List ByteArray} {p:ByteArray}:p∈beforeR l i ts↔∃ j q,j<i∧l[j]? = some q∧subB q.2 ts=true∧q.1=p:=by
 unfold beforeR
 rw[List.mem_map]
 constructor
 ·rintro⟨q,hq,rfl⟩
  obtain⟨h1,h2⟩:=List.mem_filter.1 hq
  obtain⟨j,hj⟩:=List.mem_iff_getElem?.1 h1
  rw[List.getElem?_take]at hj
  split at hj
  ·rename_i hlt
   exact⟨j,q,hlt,hj,h2,rfl⟩
  ·cases hj
 ·rintro⟨j,q,hj,hq,h2,rfl⟩
  refine⟨q,List.mem_filter.2 ⟨List.mem_iff_getElem?.2 ⟨j,?_⟩,h2⟩,rfl⟩
  rw[List.getElem?_take,if_pos hj];exact hq
theorem all_has {ts:List ByteArray} {t:ByteArray}:ts.all (YQ t)=true↔∀ x∈ts,YQ t x=true:=List.all_eq_true
theorem YX {p:ByteArray} (h:(Qx p).isSome=true):p.size≠0:=by
 intro h0
 have hd:p=⟨#[]⟩:=Qm (List.eq_nil_of_length_eq_zero (by rw[←Lib.size_eq];exact h0))
 subst hd
 have h2:Qx ⟨#[]⟩=none:=by decide +kernel
 rw[h2]at h
 cases h
theorem pmA_comp {p:ByteArray} {x:Z7} (h:Qx p=some x) (a:Adr):pmA p a=Xu x a:=by
 unfold pmA VV
 rw[if_neg (YX (by rw[h];rfl)),h]
 rfl
theorem match_pm {p s:ByteArray} (hp:(Qx p).isSome=true):Zk p s=(readB s&&pmA p (QW s).1):=by
 obtain⟨x,hx⟩:=Option.isSome_iff_exists.1 hp
 rw[match_read hx,pmA_comp hx]
theorem meet_match {p q m:ByteArray} (hp:(Qx p).isSome=true) (hq:Uc q=true) (hm:X3 p q=some m) (hc:(Qx m).isSome=true) (s:ByteArray):Zk m s=(Zk p s&&pmA q (QW s).1):=by
 have h:=pmA_meet (p:=p) (q:=q) (by unfold Uc;rw[hp];simp) hq (QW s).1
 rw[hm]at h
 rw[match_pm hc,match_pm hp]
 dsimp only at h
 rw[h,Bool.and_assoc]
theorem live_ask {l:List RuleP} {i:Nat} {r:RuleP} {c:ZV} {m s T:ByteArray} (hr:l[i]? = some r) (hp:(Qx r.1).isSome=true) (hc:CondOk c) (hlt:c.fr<c.till) (hT:Ze r.2=(T,0)) (hm:X3 r.1 c.pat=some m) (hg:ZU m (beforeR l i r.2) s true) :
  Yj c { XY c with addr:=s }=true∧chooseR l s T=some i:=by
 obtain⟨h1,h2⟩:=gap_found hg
 have hcm:(Qx m).isSome=true:=by
  obtain⟨x,ys,hx,_⟩:=hg
  rw[hx];rfl
 rw[meet_match hp hc.pat hm hcm,Bool.and_eq_true]at h1
 have hrd:readB s=true:=by
  have:=h1.1
  rw[match_pm hp,Bool.and_eq_true]at this
  exact this.1
 have hs:=holds_sample hc hlt
 obtain⟨g1,g2,g3,g4,g5,g6⟩:=(holds_iff hc _).1 hs
 refine⟨(holds_iff hc _).2 ⟨?_,g2,h1.2,g4,g5,g6⟩,?_⟩
 ·unfold Jg at g1 ⊢
  simp only[Bool.and_eq_true]at g1 ⊢
  exact⟨⟨⟨⟨hrd,g1.1.1.1.2⟩,g1.1.1.2⟩,g1.1.2⟩,g1.2⟩
 ·refine (choose_iff l s T i).2 ⟨r,hr,?_,fun j q hj hq=>?_⟩
  ·unfold mtR
   rw[h1.1,Bool.true_and]
   exact all_has.2 fun x hx=>hasTag_tags hT x hx
  ·cases hmq:mtR q s T
   ·rfl
   ·exfalso
    unfold mtR at hmq
    rw[Bool.and_eq_true]at hmq
    have hsb:subB q.2 r.2=true:=(subB_iff _ _).2 fun x hx=>(tags_mem hT x).1 (all_has.1 hmq.2 x hx)
    have:=h2 q.1 (before_mem.2 ⟨j,q,hj,hq,hsb,rfl⟩)
    rw[this]at hmq
    exact absurd hmq.1 (by decide)
def begB (p c:ByteArray):Bool:=if p.size<c.size then false else if ((p.extract 0 c.size).toList==c.toList)=false then false else if p.size=c.size then true else decide ((p.data.toList.getD c.size 0).toNat=47)
theorem rBegins_any (p c:ByteArray) (w:World) (hp:p.size≤100000) (hc:c.size≤100000):Calls Tryz.prog 83 #[.string p,.string c] w (Zx w (.bool (begB p c))):=by
 obtain⟨V,hV⟩:∃ V,V=begB p c:=⟨_,rfl⟩
 rw[←hV]
 unfold begB at hV
 by_cases h1:p.size<c.size
 ·rw[if_pos h1]at hV
  subst hV
  have d1:decide ((p.size:Int)<(c.size:Int))=true:=decide_eq_true (by omega)
  have d2:decide (p.size<c.size)=true:=decide_eq_true h1
  go_enter Tryz.func83,Tryz.ntmps83
  go_wp2
  go_ret
  exact⟨rfl,Qz⟩
 rw[if_neg h1]at hV
 have d1:decide ((p.size:Int)<(c.size:Int))=false:=decide_eq_false (by omega)
 have d2:decide (p.size<c.size)=false:=decide_eq_false h1
 have d3:(c.size:Int)≤(p.size:Int):=by omega
 have d4:c.size≤p.size:=by omega
 cases h2:((p.extract 0 c.size).toList==c.toList)
 ·rw[if_pos h2]at hV
  subst hV
  have h3:((p.extract 0 c.size).toList != c.toList)=true:=by simp only[bne,h2];rfl
  go_enter Tryz.func83,Tryz.ntmps83
  go_wp2
  go_ret
  exact⟨rfl,Qz⟩
 rw[if_neg (by rw[h2];simp)]at hV
 have h3:((p.extract 0 c.size).toList != c.toList)=false:=by simp only[bne,h2];rfl
 by_cases h4:p.size=c.size
 ·rw[if_pos h4]at hV
  subst hV
  have d5:decide ((p.size:Int)=(c.size:Int))=true:=decide_eq_true (by omega)
  have d6:decide (p.size=c.size)=true:=decide_eq_true h4
  have d7:(p.size==c.size)=true:=by simpa using h4
  go_enter Tryz.func83,Tryz.ntmps83
  go_wp2
  go_ret
  exact⟨rfl,Qz⟩
 rw[if_neg h4]at hV
 have d5:decide ((p.size:Int)=(c.size:Int))=false:=decide_eq_false (by omega)
 have d6:decide (p.size=c.size)=false:=decide_eq_false h4
 have d7:(p.size==c.size)=false:=by simpa using h4
 have d8:(c.size:Int)<(p.size:Int):=by omega
 have d9:c.size<p.size:=by omega
 go_enter Tryz.func83,Tryz.ntmps83
 go_wp2
 have e0:p.data.toList.getD c.size 0=p[c.size]:=by
  have h9:c.size<p.data.toList.length:=by rw[Array.length_toList];exact d9
  rw[List.getD_eq_getElem?_getD,List.getElem?_eq_getElem h9,Option.getD_some,Array.getElem_toList]
  rfl
 have e1:((p.size:Int)==(c.size:Int))=false:=by
  rw[beq_eq_false_iff_ne]
  omega
 have e2:(((p.size:Int)==(c.size:Int))||((p[c.size].toNat:Int)==47))=V:=by
  rw[e1,Bool.false_or,hV,e0,Bool.eq_iff_iff,beq_iff_eq,decide_eq_true_eq]
  omega
 go_ret
 exact⟨congrArg (fun b=>Ending.returned (.bool b)) e2,Qz⟩
def headL (p:List UInt8):List UInt8:=(Lib.cut p [47]).1
theorem headL_nil:headL []=[]:=rfl
theorem headL_slash (l:List UInt8):headL (47 :: l)=[]:=by
 unfold headL Lib.cut
 rw[Lib.index_one,Xc,if_pos rfl]
 rfl
theorem headL_cons {b:UInt8} (hb:¬ b=47) (l:List UInt8):headL (b :: l)=b :: headL l:=by
 unfold headL Lib.cut
 rw[Lib.index_one,Lib.index_one,Xc,if_neg hb]
 have hg:=indexByte_ge 47 l
 by_cases h:Lib.indexByte l 47 = -1
 ·rw[if_pos h,h]
  rfl
 ·rw[if_neg h,if_pos (by omega),if_pos (by omega)]
  obtain⟨n,hn⟩:∃ n:Nat,Lib.indexByte l 47=(n:Int):=⟨(Lib.indexByte l 47).toNat,by omega⟩
  rw[hn,show ((n:Int)+1).toNat=n+1 by omega,show ((n:Nat):Int).toNat=n by omega,List.take_succ_cons]
theorem head_iff:∀ (p c:List UInt8),47 ∉ c→(headL p=c↔(c.length≤p.length∧p.take c.length=c∧(p.length=c.length∨p.getD c.length 0=47)))
 | [],c,_=>by
  rw[headL_nil]
  cases c with
  | nil=>simp
  | cons x c=>simp
 | b :: l,c,hc=>by
  by_cases hb:b=47
  ·subst hb
   rw[headL_slash]
   cases c with
   | nil=>simp
   | cons x c =>
    have hx:¬ x=47:=fun e=>hc (by rw[e];simp)
    simp only[List.length_cons,List.take_succ_cons,List.cons.injEq]
    constructor
    ·intro h;cases h
    ·rintro⟨_,⟨h,_⟩,_⟩
     exact absurd h.symm hx
  ·rw[headL_cons hb]
   cases c with
   | nil=>simp[hb]
   | cons x c =>
    have ih:=head_iff l c (fun h=>hc (by simp[h]))
    simp only[List.length_cons,List.take_succ_cons,List.cons.injEq,List.getD_cons_succ,Nat.add_le_add_iff_right,Nat.add_right_cancel_iff]
    rw[ih]
    constructor
    ·rintro⟨h1,h2,h3,h4⟩
     exact⟨h2,⟨h1,h3⟩,h4⟩
    ·rintro⟨h2,⟨h1,h3⟩,h4⟩
     exact⟨h1,h2,h3,h4⟩
theorem toL (s:ByteArray):s.toList=s.data.toList:=Lib.toList_data s
theorem begB_cut {p c:ByteArray} (hc:Qy c=true):begB p c=sameB (cutB p) c:=by
 have hw:Qg c=true:=by unfold Qy at hc;rw[Bool.and_eq_true]at hc;exact hc.1
 have hi:=head_iff p.data.toList c.data.toList (X5 hw).1
 have h0:sameB (cutB p) c=true↔headL p.data.toList=c.data.toList:=by
  unfold sameB cutB headL
  rw[beq_iff_eq,toL,toL]
  exact Iff.rfl
 have hsz:∀ s:ByteArray,s.size=s.data.toList.length:=fun s=>by rw[Array.length_toList];rfl
 have h1:begB p c=true↔(c.data.toList.length≤p.data.toList.length∧p.data.toList.take c.data.toList.length=c.data.toList∧(p.data.toList.length=c.data.toList.length∨p.data.toList.getD c.data.toList.length 0=47)):=by
  unfold begB
  have he:((p.extract 0 c.size).toList==c.toList)=true↔p.data.toList.take c.data.toList.length=c.data.toList:=by
   rw[beq_iff_eq,toL,toL,ByteArray.data_extract,Array.toList_extract,←hsz]
   simp
  rw[←hsz,←hsz]
  by_cases a1:p.size<c.size
  ·rw[if_pos a1]
   constructor
   ·intro h;cases h
   ·rintro⟨h,_⟩;omega
  ·rw[if_neg a1]
   cases a2:((p.extract 0 c.size).toList==c.toList)
   ·rw[if_pos rfl]
    constructor
    ·intro h;cases h
    ·rintro⟨_,h,_⟩
     rw[←hsz]at he
     rw[he.2 h]at a2
     cases a2
   ·rw[if_neg (by simp)]
    have a3:=he.1 a2
    rw[←hsz]at a3
    by_cases a4:p.size=c.size
    ·rw[if_pos a4]
     exact⟨fun _=>⟨by omega,a3,.inl a4⟩,fun _=>rfl⟩
    ·rw[if_neg a4,decide_eq_true_eq]
     constructor
     ·intro h
      exact⟨by omega,a3,.inr (UInt8.toNat_inj.1 (by rw[h];rfl))⟩
     ·rintro⟨_,_,h | h⟩
      ·exact absurd h a4
      ·rw[h];rfl
 rw[Bool.eq_iff_iff,h1,h0,hi]
end Go.Proofs.YticlbkficolocaaGreatDoor
