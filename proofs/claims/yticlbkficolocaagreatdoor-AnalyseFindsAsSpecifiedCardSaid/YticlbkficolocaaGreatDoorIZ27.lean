/- What everybody may. -/
import Derived.Test.YticlbkficolocaaGreatDoorIZ24
import Derived.Test.YticlbkficolocaaGreatDoorIZ25
set_option maxHeartbeats 4000000
namespace Go.Proofs.YticlbkficolocaaGreatDoor
open Go.RowKit Go.Sort
set_option linter.unusedVariables false
set_option linter.unusedSimpArgs false
set_option maxRecDepth 100000
theorem permits_any (x:Qh) (a:Kr) (w:World) (hR:Xx w x) (hc:Wh x.r.allow) (ha:AskFits a) (hE:Env w) :
  Calls Tryz.prog 22 #[x.val,Kr.val a] w (Zx w (.bool (Yj x.r.allow a))):=by
 have hh:=fun W (hb:Below w.heap.size w W)=>holds_any x.r.allow x.m a W (hR.allow.keep hb) hc ha (Env.keep hE hb)
 generalize Yj x.r.allow a=V at *
 rw[Qh.val_eq]
 unfold Zy.val Kr.val at *
 have HH:=Lib.hid hh
 clear hh hR hc ha hE
 go_enter Tryz.func22,Tryz.ntmps22
 go_wp2_with (go_at_call 48;refine (HH.out _ Qz).mono ?_;rintro e w2 ⟨rfl,hb2⟩)
 go_ret
 exact⟨rfl,Qz⟩
def meetR (p q:ByteArray):Bool × Int:=match Qx p,Qx q with
 | some x,some y=>((QK x y).isSome,0)
 | _,_=>(false,1)
theorem rMeet0 (p q:ByteArray) (w:World) (b1 b2:Bool) (hb:(b1&&b2)=false)
  (HC1:Hid (∀ W,Calls Tryz.prog 34 #[.string p] W (fun e w'=>Below W.heap.size W w'∧∃ (c:ByteArray) (A:Option Addr) (n k:Nat) (t:Bool),e=.returned (.tuple #[.agg #[.string c,.slice A n k,.bool t],.bool b1]))))
  (HC2:Hid (∀ W,Calls Tryz.prog 34 #[.string q] W (fun e w'=>Below W.heap.size W w'∧∃ (c:ByteArray) (A:Option Addr) (n k:Nat) (t:Bool),e=.returned (.tuple #[.agg #[.string c,.slice A n k,.bool t],.bool b2])))) :
  Calls Tryz.prog 42 #[.string p,.string q] w (Zx w (.agg #[.bool false,.int .i64 1])):=by
 cases b1 <;> cases b2
 rotate_right
 ·cases hb
 all_goals
  go_enter Tryz.func42,Tryz.ntmps42
  go_wp2_with (first | (go_at_call 34;refine (HC1.out _).mono ?_;rintro e w1 ⟨hb1,cx,A,n,k,t,rfl⟩;have hK1:KBox w1 w.heap.size false 0:=Qv.keep (World.alloc_heap_new _ _) hb1;clear HC1) | (go_at_call 34;refine (HC2.out _).mono ?_;rintro e w2 ⟨hb2,cy,A2,n2,k2,t2,rfl⟩;have hK2:KBox w2 w.heap.size false 0:=Qv.keep hK1 (Za _ hb2);obtain⟨k0,k1,g0,g1⟩:=hK2.facts;have hz2:w.heap.size<w2.heap.size:=Qv.lt hK2))
  exact bodyPost_ret (v:=.agg #[.bool false,.int .i64 1]) (by simp[results,Tryz.results42,go_sem,hz2,k0,k1,g0,g1]) rfl ⟨rfl,Qz⟩
theorem rMeet1 (p q:ByteArray) (x y:Z7) (w:World) (hx:Zt x) (hy:Zt y) (gx:Kt x) (gy:Kt y) (cu cv:ByteArray) (n m:Nat) (tl tm:Bool) (hcu:cu=Qr x.cust) (hcv:cv=Qr y.cust) (hn:n=x.parts.length) (hm:m=y.parts.length) (htl:tl=x.tail) (htm:tm=y.tail)
  (HC1:Hid (CompAs p x cu n tl)) (HC2:Hid (CompAs q y cv m tm)):Calls Tryz.prog 42 #[.string p,.string q] w (Zx w (.agg #[.bool (QK x y).isSome,.int .i64 0])):=by
 obtain⟨V,hV⟩:∃ V,V=(QK x y).isSome:=⟨_,rfl⟩
 rw[←hV]
 obtain⟨g1,hg1⟩:∃ g1,g1 = !(cu.toList == [42]||cv.toList == [42]||cu.toList==cv.toList):=⟨_,rfl⟩
 obtain⟨g2,hg2⟩:∃ g2,g2=((decide (n<m)&&!tl)||(decide (m<n)&&!tm)):=⟨_,rfl⟩
 have hV2:V=(!g1&&!g2&&meetL x.parts y.parts):=by
  rw[hV,common_isSome,cust_meets hx.cust hy.cust,hg1,hg2,hcu,hcv,hn,hm,htl,htm,Bool.not_not,Bool.not_or,←Bool.and_assoc]
 have hn32:=gx.num
 have hm32:=gy.num
 rw[←hn]at hn32
 rw[←hm]at hm32
 have hPS:∀ z∈x.parts,Qa z∧(Qr z).size≤200000:=fun z hz=>⟨hx.parts z hz,by have:=XW z.kind z.text;have:=(gx.parts z hz).2;unfold Qr;omega⟩
 have hQS:∀ z∈y.parts,Qa z∧(Qr z).size≤200000:=fun z hz=>⟨hy.parts z hz,by have:=XW z.kind z.text;have:=(gy.parts z hz).2;unfold Qr;omega⟩
 have HPS:=Lib.hid hPS
 have HQS:=Lib.hid hQS
 have HN:=Lib.hid hn
 have HM:=Lib.hid hm
 have HV:=Lib.hid hV2
 have HG1:=Lib.hid hg1
 have HG2:=Lib.hid hg2
 clear hV hV2 hcu hcv hn hm htl htm hPS hQS hx hy gx gy hg1 hg2
 go_enter Tryz.func42,Tryz.ntmps42
 go_upto_region 5 with (first | (go_at_call 34;refine (HC1.out _).mono ?_;rintro e w1 ⟨hb1,A,c,rfl,hR⟩;have HR:=Lib.hid hR;clear hR;have hK1:KBox w1 w.heap.size false 0:=Qv.keep (World.alloc_heap_new _ _) hb1;clear HC1) | (go_at_call 34;refine (HC2.out _).mono ?_;rintro e w2 ⟨hb2,B,c2,rfl,hR2⟩;have HR2:=Lib.hid hR2;clear hR2;have hK2:KBox w2 w.heap.size false 0:=Qv.keep hK1 (Za _ hb2);have hz2:w.heap.size<w2.heap.size:=Qv.lt hK2;have hX2:QJ w2 w1.heap.size cu (.slice A n c) tl:=(hb2.block w1.heap.size (by simp)).trans (World.alloc_heap_new _ _);obtain⟨x0,x1,x2,_⟩:=hX2.facts;have hz3:w1.heap.size<w2.heap.size:=Qv.lt hX2))
 go_cut [41] (fun v wx=>v=.bool g1∧KBox wx w.heap.size false 0∧QJ wx w1.heap.size cu (.slice A n c) tl∧QJ wx w2.heap.size cv (.slice B m c2) tm∧Below w.heap.size w wx∧Below w1.heap.size w1 wx∧Below w2.heap.size w2 wx)
 case first =>
  have hbA:Below w.heap.size w w2:=Qz
  have hbB:Below w1.heap.size w1 w2:=Za _ hb2
  cases t1:(cu.toList == [42])
  ·have t1':¬ cu.toList=[42]:=by simpa using t1
   cases t2:(cv.toList == [42])
   ·have t2':¬ cv.toList=[42]:=by simpa using t2
    cases t3:(cu.toList==cv.toList)
    ·have t3':¬ cu.toList=cv.toList:=by simpa using t3
     obtain rfl:g1=true:=by rw[HG1.out,t1,t2,t3];rfl
     clear HG1
     go_wp2_with fail
     go_meet
     exact⟨rfl,(Below.heap_alloc _ _ _ hz2).trans hK2,(Below.heap_alloc _ _ _ hz3).trans hX2,World.alloc_heap_new _ _,Qk hbA _,Qk hbB _,Qk (Below.refl _ _) _⟩
    ·have t3':cu.toList=cv.toList:=by simpa using t3
     obtain rfl:g1=false:=by rw[HG1.out,t3];simp
     clear HG1
     go_wp2_with fail
     go_meet
     exact⟨rfl,(Below.heap_alloc _ _ _ hz2).trans hK2,(Below.heap_alloc _ _ _ hz3).trans hX2,World.alloc_heap_new _ _,Qk hbA _,Qk hbB _,Qk (Below.refl _ _) _⟩
   ·have t2':cv.toList=[42]:=by simpa using t2
    obtain rfl:g1=false:=by rw[HG1.out,t2];simp
    clear HG1
    go_wp2_with fail
    go_meet
    exact⟨rfl,(Below.heap_alloc _ _ _ hz2).trans hK2,(Below.heap_alloc _ _ _ hz3).trans hX2,World.alloc_heap_new _ _,Qk hbA _,Qk hbB _,Qk (Below.refl _ _) _⟩
  ·have t1':cu.toList=[42]:=by simpa using t1
   obtain rfl:g1=false:=by rw[HG1.out,t1];rfl
   clear HG1
   go_wp2_with fail
   go_meet
   exact⟨rfl,(Below.heap_alloc _ _ _ hz2).trans hK2,(Below.heap_alloc _ _ _ hz3).trans hX2,World.alloc_heap_new _ _,Qk hbA _,Qk hbB _,Qk (Below.refl _ _) _⟩
 case rest =>
  obtain⟨rfl,hKc,hXc,hYc,hbc,hbc1,hbc2⟩:=hcut
  clear hK1 hK2 hX2 x0 x1 x2 hb1 hb2 HG1
  obtain⟨k0,k1,g0,g9⟩:=hKc.facts
  obtain⟨x0,x1,x2,_⟩:=hXc.facts
  obtain⟨y0,y1,y2,_⟩:=hYc.facts
  have hzc:w.heap.size<wc.heap.size:=Qv.lt hKc
  cases g1
  rotate_left
  ·obtain rfl:V=false:=by rw[HV.out];rfl
   go_wp2
   exact bodyPost_ret (v:=.agg #[.bool false,.int .i64 0]) (by simp[results,Tryz.results42,go_sem,hzc,k0,k1,g0,g9]) rfl ⟨rfl,Qz⟩
  go_upto_region 7 with fail
  go_cut [68] (fun v wx=>v=.bool g2∧wx=wc)
  case first =>
   rcases Nat.lt_trichotomy n m with h | h | h
   ·have d1:decide ((n:Int)<(m:Int))=true:=decide_eq_true (by omega)
    have d1':decide (n<m)=true:=decide_eq_true h
    have d2:decide ((m:Int)<(n:Int))=false:=decide_eq_false (by omega)
    have d2':decide (m<n)=false:=decide_eq_false (by omega)
    obtain rfl:g2 = !tl:=by rw[HG2.out,d1',d2'];simp
    clear HG2
    cases tl
    all_goals
     go_wp2_with fail
     go_meet
     exact⟨rfl,rfl⟩
   ·subst h
    have d1:decide ((n:Int)<(n:Int))=false:=decide_eq_false (by omega)
    have d1':decide (n<n)=false:=decide_eq_false (by omega)
    obtain rfl:g2=false:=by rw[HG2.out,d1'];simp
    clear HG2
    go_wp2_with fail
    go_meet
    exact⟨rfl,rfl⟩
   ·have d1:decide ((n:Int)<(m:Int))=false:=decide_eq_false (by omega)
    have d1':decide (n<m)=false:=decide_eq_false (by omega)
    have d2:decide ((m:Int)<(n:Int))=true:=decide_eq_true (by omega)
    have d2':decide (m<n)=true:=decide_eq_true h
    obtain rfl:g2 = !tm:=by rw[HG2.out,d1',d2'];simp
    clear HG2
    cases tm
    all_goals
     go_wp2_with fail
     go_meet
     exact⟨rfl,rfl⟩
  case rest =>
  obtain⟨rfl,rfl⟩:=hcut
  clear HG2
  cases g2
  rotate_left
  ·obtain rfl:V=false:=by rw[HV.out];rfl
   go_wp2
   exact bodyPost_ret (v:=.agg #[.bool false,.int .i64 0]) (by simp[results,Tryz.results42,go_sem,hzc,k0,k1,g0,g9]) rfl ⟨rfl,Qz⟩
  have HV4:Hid (V=meetL x.parts y.parts):=Lib.hid (by rw[HV.out];simp)
  clear HV
  go_wp2
  clear k0 k1 g0 g9 x0 x1 x2 y0 y1 y2 hzc
  go_loopw [9] (fun vi wr=>∃ k:Nat,vi=.int .i64 k∧k≤n∧k≤m∧Hid (∀ j,j<k→∀ y' z,x.parts[j]? = some y'→y.parts[j]? = some z→Xb y' z=true)∧KBox wr w.heap.size false 0∧QJ wr w1.heap.size cu (.slice A n c) tl∧QJ wr w2.heap.size cv (.slice B m c2) tm∧Below w.heap.size w wr∧Below w1.heap.size w1 wr∧Below w2.heap.size w2 wr) (fun vi _=>n-(intOf vi).toNat)
  case atStart=>exact⟨0,rfl,Nat.zero_le _,Nat.zero_le _,Lib.hid (fun j h=>absurd h (by omega)),hKc,hXc,hYc,hbc,hbc1,hbc2⟩
  case round =>
   clear hKc hXc hYc hbc hbc1 hbc2
   obtain⟨k,rfl,hk,hkm,HK,hK,hX,hY,hbr,hbr1,hbr2⟩:=hrel
   obtain⟨x0,x1,x2,_⟩:=hX.facts
   obtain⟨y0,y1,y2,_⟩:=hY.facts
   have hend:(k=n∨k=m)→V=true:=fun he=>by
    rw[HV4.out]
    refine (Yl _ _).2 (fun j y' z h1 h2=>HK.out j ?_ y' z h1 h2)
    have:=(List.getElem?_eq_some_iff.1 h1).1
    have:=(List.getElem?_eq_some_iff.1 h2).1
    have:=HM.out
    have:=HN.out
    omega
   have HEND:=Lib.hid hend
   clear hend
   by_cases hlt:k<n
   rotate_left
   ·have hVt:=HEND.out (.inl (by omega))
    have d1:decide ((k:Int)<(n:Int))=false:=decide_eq_false (by omega)
    obtain⟨k0,k1,g0,g9⟩:=hK.facts
    have hz9:w.heap.size<wr.heap.size:=Qv.lt hK
    subst hVt
    go_wp2
    exact bodyPost_ret (v:=.agg #[.bool true,.int .i64 0]) (by simp[results,Tryz.results42,go_sem,hz9,k0,k1,g0,g9]) rfl ⟨rfl,Qz⟩
   have d1:decide ((k:Int)<(n:Int))=true:=decide_eq_true (by omega)
   by_cases hlt2:k<m
   rotate_left
   ·have hVt:=HEND.out (.inr (by omega))
    have d2:decide ((k:Int)<(m:Int))=false:=decide_eq_false (by omega)
    obtain⟨k0,k1,g0,g9⟩:=hK.facts
    have hz9:w.heap.size<wr.heap.size:=Qv.lt hK
    subst hVt
    go_wp2
    exact bodyPost_ret (v:=.agg #[.bool true,.int .i64 0]) (by simp[results,Tryz.results42,go_sem,hz9,k0,k1,g0,g9]) rfl ⟨rfl,Qz⟩
   have d2:decide ((k:Int)<(m:Int))=true:=decide_eq_true (by omega)
   clear HEND
   obtain⟨a,ha⟩:∃ a,x.parts[k]? = some a:=⟨_,List.getElem?_eq_getElem (by have:=HN.out;omega)⟩
   obtain⟨z,hz⟩:∃ z,y.parts[k]? = some z:=⟨_,List.getElem?_eq_getElem (by have:=HM.out;omega)⟩
   obtain⟨b,o,rfl,hcell⟩:=(HR.out.keep hbr1).2 (by omega)
   obtain⟨b2,o2,rfl,hcell2⟩:=(HR2.out.keep hbr2).2 (by omega)
   have hc1:wr.cell? ⟨b,o+k,none⟩=some (.string (Qr a)):=hcell k _ (by rw[List.getElem?_map,strL_at _ _ _ ha];rfl)
   have hc2:wr.cell? ⟨b2,o2+k,none⟩=some (.string (Qr z)):=hcell2 k _ (by rw[List.getElem?_map,strL_at _ _ _ hz];rfl)
   obtain⟨haf,has⟩:=HPS.out a (List.mem_of_getElem? ha)
   obtain⟨hzf,hzs⟩:=HQS.out z (List.mem_of_getElem? hz)
   have cM:=fun W=>rMeets_any (Qr a) (Qr z) W (by omega) (by omega)
   rw[part_meets haf hzf]at cM
   have hk0:(0:Int)≤(k:Int):=by omega
   have hk1:(k:Int)<(n:Int):=by omega
   have hk2:(k:Int)<(m:Int):=by omega
   have HY:=Lib.hid (show x.parts[k]? = some a∧y.parts[k]? = some z from⟨ha,hz⟩)
   generalize Qr a=sa at *
   generalize Qr z=sz at *
   clear hcell hcell2 ha hz haf hzf
   cases hh:Xb a z
   ·have hVf:V=false:=by
     rw[HV4.out]
     cases hml:meetL x.parts y.parts
     ·rfl
     ·have:=(Yl x.parts y.parts).1 hml k a z HY.out.1 HY.out.2
      rw[hh]at this;cases this
    rw[hh]at cM
    have HMM:=Lib.hid cM
    clear cM hh
    go_wp2_with fail
    have q1:=cell_regrown hc1;have q2:=cell_regrown hc2;have q3:=cell_regrown x1;have q4:=cell_regrown y1
    refine wp_region_quiet_below (by kernel_rfl) (by kernel_rfl) ?_;(repeat (any_goals (first | go_big_quiet_step ((first | exact Xy HMM.out _ _)) | quiet_step ((first | exact Xy HMM.out _ _)))));refine wpQuiet_nil ?_;intro _ hwq;obtain⟨⟨dq,osq⟩,hwq⟩:=hwq;subst hwq;have hb9:=below_regrown (wr) dq osq;generalize grow (redrawn (wr) dq) osq=w9 at *
    have hK9:KBox w9 w.heap.size false 0:=Qv.keep hK hb9
    obtain⟨k0,k1,g0,g9⟩:=hK9.facts
    have hz9:w.heap.size<w9.heap.size:=Qv.lt hK9
    subst hVf
    go_wp2
    exact bodyPost_ret (v:=.agg #[.bool false,.int .i64 0]) (by simp[results,Tryz.results42,go_sem,hz9,k0,k1,g0,g9]) rfl ⟨rfl,Qz⟩
   ·have HK2:Hid (∀ j,j<k+1→∀ y' z,x.parts[j]? = some y'→y.parts[j]? = some z→Xb y' z=true):=Lib.hid (fun j hj y' z' h1 h2=>by
     by_cases e:j=k
     ·subst e
      have e1:=HY.out.1.symm.trans h1
      have e2:=HY.out.2.symm.trans h2
      injection e1 with e1;injection e2 with e2
      rw[←e1,←e2];exact hh
     ·exact HK.out j (by omega) y' z' h1 h2)
    rw[hh]at cM
    have HMM:=Lib.hid cM
    clear cM hh HK
    go_wp2_with fail
    have q1:=cell_regrown hc1;have q2:=cell_regrown hc2;have q3:=cell_regrown x1;have q4:=cell_regrown y1
    refine wp_region_quiet_below (by kernel_rfl) (by kernel_rfl) ?_;(repeat (any_goals (first | go_big_quiet_step ((first | exact Xy HMM.out _ _)) | quiet_step ((first | exact Xy HMM.out _ _)))));refine wpQuiet_nil ?_;intro _ hwq;obtain⟨⟨dq,osq⟩,hwq⟩:=hwq;subst hwq;have hb9:=below_regrown (wr) dq osq;generalize grow (redrawn (wr) dq) osq=w9 at *
    go_wp2
    exact⟨⟨k+1,by go_num,by omega,by omega,HK2,Qv.keep hK hb9,Qv.keep hX hb9,Qv.keep hY hb9,Qj hbr hb9,Qj hbr1 hb9,Qj hbr2 hb9⟩,by simp[intOf];omega⟩
theorem rMeet2_any (p q:ByteArray) (w:World) (hp:p.size≤100000) (hq:q.size≤100000):Calls Tryz.prog 42 #[.string p,.string q] w (Zx w (.agg #[.bool (meetR p q).1,.int .i64 (meetR p q).2])):=by
 unfold meetR
 cases hx:Qx p with
 | none=>exact rMeet0 p q w _ _ rfl (Lib.hid (compNo hp hx)) (Lib.hid (compAny hq))
 | some x =>
  cases hy:Qx q with
  | none=>exact rMeet0 p q w _ _ (Bool.and_false _) (Lib.hid (compAny hp)) (Lib.hid (compNo hq hy))
  | some y=>exact rMeet1 p q x y w (Zq hx) (Zq hy) (X6 p hp x hx) (X6 q hq y hy) _ _ _ _ _ _ rfl rfl rfl rfl rfl rfl (Lib.hid (compAs hp hx)) (Lib.hid (compAs hq hy))
def bothR (r:Option (Option Z7)):ByteArray × Bool × Int:=match r with
 | none=>(⟨#[]⟩,false,1)
 | some none=>(⟨#[]⟩,false,0)
 | some (some z)=>(VW z,true,0)
def JBox (w:World) (g:Nat) (s:ByteArray) (b:Bool) (e:Int):Prop:=Qv w g 89 #[.string s,.bool b,.int .i64 e] (0,0)
theorem JBox.facts {w:World} {g:Nat} {s:ByteArray} {b:Bool} {e:Int} (h:JBox w g s b e):w.cell? ⟨g,0,none⟩=some (.string s)∧w.cell? ⟨g,1,none⟩=some (.bool b)∧w.cell? ⟨g,2,none⟩=some (.int .i64 e)∧w.frozen? ⟨g,0,none⟩=false∧w.frozen? ⟨g,1,none⟩=false∧w.frozen? ⟨g,2,none⟩=false :=
 ⟨Qv.cell h 0,Qv.cell h 1,Qv.cell h 2,Qd h 0,Qd h 1,Qd h 2⟩
theorem pathL_bd (B:Nat):∀ l:List (List UInt8),(∀ p∈l,p.length≤B)→(Zv l).length≤l.length*(B+1)
 | [],_=>by simp[Zv]
 | p :: l,h=>by
  have h1:=h p (by simp)
  have h2:=pathL_bd B l (fun q hq=>h q (by simp[hq]))
  simp only[Zv,List.flatMap_cons,List.length_append,List.length_cons]at h2 ⊢
  rw[Nat.add_mul]
  omega
theorem pathK_bd (c:ByteArray) (xs:List ByteArray) (k B:Nat) (h:∀ x∈xs,x.size≤B) (hk:xs.length≤100):(Zd (Kz c xs k)).size≤c.size+100*(B+1):=by
 rw[Xw]
 unfold Kz
 have:=pathL_bd B ((lists xs).take k) (fun p hp=>by
  obtain⟨x,hx,rfl⟩:=List.mem_map.1 (List.mem_of_mem_take hp)
  have:=h x hx
  rw[Qn]at this;exact this)
 have hl:((lists xs).take k).length≤100:=by
  rw[List.length_take];simp[lists];omega
 rw[List.length_append,Qn]
 have:=Nat.mul_le_mul_right (B+1) hl
 omega
theorem patS_path (z:Z7):VW z=if z.tail then Zd (Kz (Qr z.cust) (Zg z.parts) z.parts.length)++⟨#[47,42,42]⟩ else Zd (Kz (Qr z.cust) (Zg z.parts) z.parts.length):=by
 have hall:(lists (Zg z.parts)).take z.parts.length=lists (Zg z.parts):=List.take_of_length_le (by simp[lists,Zg])
 have hd:(VW z).data.toList=(Qr z.cust).data.toList++Zv (lists (Zg z.parts++Jh z.tail)):=by
  rw[Y6];exact J3 _ _
 have hl:lists (Zg z.parts++Jh z.tail)=lists (Zg z.parts)++lists (Jh z.tail):=by simp[lists]
 have hp:∀ a b:List (List UInt8),Zv (a++b)=Zv a++Zv b:=fun a b=>by simp[Zv]
 rw[hl,hp]at hd
 refine Qm ?_
 rw[hd]
 unfold Kz
 rw[hall]
 cases z.tail
 ·simp[Jh,lists,Zv,Zd]
 ·simp[Jh,lists,Zv,Zd]
theorem rBoth0 (p q:ByteArray) (w:World) (er:Int) (her:er=0∨er=1) (HMT:Hid (∀ W,Calls Tryz.prog 42 #[.string p,.string q] W (Zx W (.agg #[.bool false,.int .i64 er])))) :
  Calls Tryz.prog 40 #[.string p,.string q] w (Zx w (.agg #[.string ⟨#[]⟩,.bool false,.int .i64 er])):=by
 rcases her with rfl | rfl
 ·go_enter Tryz.func40,Tryz.ntmps40
  go_wp2_with (go_at_call 42;refine (HMT.out _).mono ?_;rintro e w1 ⟨rfl,hb1⟩;have hJ1:JBox w1 w.heap.size ⟨#[]⟩ false 0:=Qv.keep (World.alloc_heap_new _ _) hb1;obtain⟨j0,j1,j2,f0,f1,f2⟩:=hJ1.facts;have hz1:w.heap.size<w1.heap.size:=Qv.lt hJ1)
  exact bodyPost_ret (v:=.agg #[.string ⟨#[]⟩,.bool false,.int .i64 0]) (by simp[results,Tryz.results40,go_sem,hz1,j0,j1,j2,f0,f1,f2]) rfl ⟨rfl,Qz⟩
 ·go_enter Tryz.func40,Tryz.ntmps40
  go_wp2_with (go_at_call 42;refine (HMT.out _).mono ?_;rintro e w1 ⟨rfl,hb1⟩;have hJ1:JBox w1 w.heap.size ⟨#[]⟩ false 0:=Qv.keep (World.alloc_heap_new _ _) hb1;obtain⟨j0,j1,j2,f0,f1,f2⟩:=hJ1.facts;have hz1:w.heap.size<w1.heap.size:=Qv.lt hJ1)
  exact bodyPost_ret (v:=.agg #[.string ⟨#[]⟩,.bool false,.int .i64 1]) (by simp[results,Tryz.results40,go_sem,hz1,j0,j1,j2,f0,f1,f2]) rfl ⟨rfl,Qz⟩
theorem rBoth1 (p q:ByteArray) (x y z:Z7) (w:World) (hx:Zt x) (hy:Zt y) (gx:Kt x) (gy:Kt y) (hxy:QK x y=some z) (cu cv:ByteArray) (n m:Nat) (tl tm:Bool) (hcu:cu=Qr x.cust) (hcv:cv=Qr y.cust) (hn:n=x.parts.length) (hm:m=y.parts.length) (htl:tl=x.tail) (htm:tm=y.tail)
  (HMT:Hid (∀ W,Calls Tryz.prog 42 #[.string p,.string q] W (Zx W (.agg #[.bool true,.int .i64 0]))))
  (HC1:Hid (CompAs p x cu n tl)) (HC2:Hid (CompAs q y cv m tm)):Calls Tryz.prog 40 #[.string p,.string q] w (Zx w (.agg #[.string (VW z),.bool true,.int .i64 0])):=by
 obtain⟨e1,e2,e3,e4⟩:=common_at hx hy hxy
 obtain⟨V,hV⟩:∃ V,V=VW z:=⟨_,rfl⟩
 rw[←hV]
 rw[patS_path,e1,e2,←hn,←hm,←htl,←htm]at hV
 rw[←hcu,←hcv]at e4
 rw[←hn,←hm]at e3
 obtain⟨cz,hcz⟩:∃ cz,cz=Qr z.cust:=⟨_,rfl⟩
 rw[←hcz]at hV e4
 have hn32:=gx.num
 have hm32:=gy.num
 rw[←hn]at hn32
 rw[←hm]at hm32
 have hPS:∀ z∈x.parts,Qa z∧(Qr z).size≤200000:=fun z hz=>⟨hx.parts z hz,by have:=XW z.kind z.text;have:=(gx.parts z hz).2;unfold Qr;omega⟩
 have hQS:∀ z∈y.parts,Qa z∧(Qr z).size≤200000:=fun z hz=>⟨hy.parts z hz,by have:=XW z.kind z.text;have:=(gy.parts z hz).2;unfold Qr;omega⟩
 have hcus:cu.size≤200000:=by rw[hcu];have:=XW x.cust.kind x.cust.text;have:=gx.text;unfold Qr;omega
 have hcvs:cv.size≤200000:=by rw[hcv];have:=XW y.cust.kind y.cust.text;have:=gy.text;unfold Qr;omega
 have hws:∀ k,(wAt x y k).size≤200000:=fun k=>by
  unfold wAt
  have h1:∀ a,x.parts[k]? = some a→(Qr a).size≤200000:=fun a ha=>(hPS a (List.mem_of_getElem? ha)).2
  have h2:∀ a,y.parts[k]? = some a→(Qr a).size≤200000:=fun a ha=>(hQS a (List.mem_of_getElem? ha)).2
  cases ha:x.parts[k]? with
  | none =>
   cases hb:y.parts[k]? with
   | none=>exact (by decide:(1:Nat)≤200000)
   | some b =>
    dsimp only
    split
    ·exact h2 b hb
    ·exact (by decide:(1:Nat)≤200000)
  | some a =>
   cases hb:y.parts[k]? with
   | none=>exact h1 a ha
   | some b =>
    dsimp only
    split
    ·exact h2 b hb
    ·exact h1 a ha
 have hzl:(Zg z.parts).length=max n m:=by rw[strL_len,e2,hn,hm]
 have hzs:∀ s∈Zg z.parts,s.size≤200000:=fun s hs=>by
  obtain⟨k,hk,rfl⟩:=List.getElem_of_mem hs
  have h5:=e3 k (by omega)
  rw[List.getElem?_eq_getElem hk]at h5
  injection h5 with h5
  rw[h5];exact hws k
 have hbd:∀ k,(Zd (Kz cz (Zg z.parts) k)).size≤40000000:=fun k=>by
  have:=pathK_bd cz (Zg z.parts) k 200000 hzs (by omega)
  have:cz.size≤200000:=by rw[e4];split <;> assumption
  omega
 have hc0:Zd (Kz cz (Zg z.parts) 0)=cz:=by simp[Kz,Zv,Zd]
 have hadd:∀ k,k<max n m→Zd (Kz cz (Zg z.parts) k)++⟨#[47]⟩++wAt x y k=Zd (Kz cz (Zg z.parts) (k+1)):=fun k hk=>pathK_add _ _ _ _ (e3 k hk)
 have HPS:=Lib.hid hPS
 have HQS:=Lib.hid hQS
 have HN:=Lib.hid hn
 have HM:=Lib.hid hm
 have HV:=Lib.hid hV
 have HADD:=Lib.hid hadd
 have HBD:=Lib.hid hbd
 have HC0:=Lib.hid hc0
 have HE4:=Lib.hid e4
 have HWS:=Lib.hid hws
 clear hV hcu hcv hn hm htl htm hPS hQS hx hy gx gy e1 e2 e3 e4 hcz hws hzl hzs hbd hc0 hadd hxy
 generalize Zg z.parts=zs at *
 have hEND:(cu.toList == [42])=true∧cu.toList=[42]∧cz=cv∨(cu.toList == [42])=false∧¬ cu.toList=[42]∧cz=cu:=by
  cases h:(cu.toList == [42])
  ·exact .inr ⟨rfl,by simpa using h,by rw[HE4.out,if_neg (by rw[h];decide)]⟩
  ·exact .inl ⟨rfl,by simpa using h,by rw[HE4.out,if_pos h]⟩
 rcases hEND with ⟨t1,t1',hz⟩ | ⟨t1,t1',hz⟩
 all_goals
  go_enter Tryz.func40,Tryz.ntmps40
  go_wp2_with (first | (go_at_call 42;refine (HMT.out _).mono ?_;rintro e w1 ⟨rfl,hb1⟩;have hJ1:JBox w1 w.heap.size ⟨#[]⟩ false 0:=Qv.keep (World.alloc_heap_new _ _) hb1;obtain⟨j0,j1,j2,f0,f1,f2⟩:=hJ1.facts;have hz1:w.heap.size<w1.heap.size:=Qv.lt hJ1) | (go_at_call 34;refine (HC1.out _).mono ?_;rintro e w2 ⟨hb2,A,c,rfl,hR⟩;have HR:=Lib.hid hR;clear hR;have hJ2:JBox w2 w.heap.size ⟨#[]⟩ false 0:=Qv.keep hJ1 (Za _ hb2);clear HC1) | (go_at_call 34;refine (HC2.out _).mono ?_;rintro e w3 ⟨hb3,B,c2,rfl,hR2⟩;have HR2:=Lib.hid hR2;clear hR2;have hJ3:JBox w3 w.heap.size ⟨#[]⟩ false 0:=Qv.keep hJ2 (Za _ hb3);have hX3:QJ w3 w2.heap.size cu (.slice A n c) tl:=(hb3.block w2.heap.size (by simp)).trans (World.alloc_heap_new _ _);clear j0 j1 j2 f0 f1 f2;obtain⟨x0,x1,x2,_⟩:=hX3.facts;have hz3:w2.heap.size<w3.heap.size:=Qv.lt hX3;have hz33:w.heap.size<w3.heap.size:=Qv.lt hJ3))
 all_goals
  clear x0 x1 x2 t1 t1'
  go_loopw [10,11] (fun vo vi wr=>∃ k:Nat,vi=.int .i64 k∧k≤max n m∧vo=.string (Zd (Kz cz zs k))∧JBox wr w.heap.size ⟨#[]⟩ false 0∧QJ wr w2.heap.size cu (.slice A n c) tl∧QJ wr w3.heap.size cv (.slice B m c2) tm∧Below w.heap.size w wr∧Below w2.heap.size w2 wr∧Below w3.heap.size w3 wr) (fun _ vi _=>max n m-(intOf vi).toNat)
  case atStart=>exact⟨0,rfl,Nat.zero_le _,by rw[HC0.out,hz],(Below.heap_alloc _ _ _ hz33).trans hJ3,(Below.heap_alloc _ _ _ hz3).trans hX3,World.alloc_heap_new _ _,Qz,Qk (Za _ hb3) _,Qk (Below.refl _ _) _⟩
  case round =>
   clear hJ3 hX3
   obtain⟨k,rfl,hk,rfl,hJ,hX,hY,hbr,hbr2,hbr3⟩:=hrel
   obtain⟨x0,x1,x2,_⟩:=hX.facts
   obtain⟨y0,y1,y2,_⟩:=hY.facts
   by_cases hlt:k<max n m
   ·have hs:=HBD.out k
    have hA:=HADD.out k hlt
    have hw:=HWS.out k
    unfold wAt at hA hw
    have hmx:(max (n:Int) (m:Int))=((max n m:Nat):Int):=by omega
    by_cases hkn:k<n
    ·have dn:decide ((k:Int)<(n:Int))=true:=decide_eq_true (by omega)
     obtain⟨a,ha⟩:∃ a,x.parts[k]? = some a:=⟨_,List.getElem?_eq_getElem (by have:=HN.out;omega)⟩
     obtain⟨b,o,rfl,hcell⟩:=(HR.out.keep hbr2).2 (by omega)
     have hc1:wr.cell? ⟨b,o+k,none⟩=some (.string (Qr a)):=hcell k _ (by rw[List.getElem?_map,strL_at _ _ _ ha];rfl)
     rw[ha]at hA hw
     obtain⟨haf,has⟩:=HPS.out a (List.mem_of_getElem? ha)
     clear hcell ha haf
     by_cases hkm:k<m
     ·have dm:decide ((k:Int)<(m:Int))=true:=decide_eq_true (by omega)
      obtain⟨z',hz'⟩:∃ z',y.parts[k]? = some z':=⟨_,List.getElem?_eq_getElem (by have:=HM.out;omega)⟩
      obtain⟨b2,o2,rfl,hcell2⟩:=(HR2.out.keep hbr3).2 (by omega)
      have hc2:wr.cell? ⟨b2,o2+k,none⟩=some (.string (Qr z')):=hcell2 k _ (by rw[List.getElem?_map,strL_at _ _ _ hz'];rfl)
      rw[hz']at hA hw
      obtain⟨hzf,hzs⟩:=HQS.out z' (List.mem_of_getElem? hz')
      dsimp only at hA hw
      have cM:=fun W=>UK (Qr a) (Qr z') W (by omega) (by omega)
      clear hcell2 hz' hzf
      generalize Qr a=sa at *
      generalize Qr z'=sz at *
      generalize covB sa sz=cv' at *
      generalize Zd (Kz cz zs k)=S at *
      have HCV:=Lib.hid cM
      have HA:=Lib.hid hA
      clear cM hA
      have n1:¬ 9223372036854775807<S.size+1:=by omega
      have n2:¬ 9223372036854775807<S.size+1+sa.size:=by omega
      have n3:¬ 9223372036854775807<S.size+1+sz.size:=by omega
      cases cv'
      ·go_wp2_with (go_at_call 82;refine (HCV.out _).mono ?_;rintro e w9 ⟨rfl,hb9⟩;have hJ9:JBox w9 w.heap.size ⟨#[]⟩ false 0:=Qv.keep hJ hb9;have hX9:QJ w9 w2.heap.size cu _ tl:=Qv.keep hX hb9;have hY9:QJ w9 w3.heap.size cv _ tm:=Qv.keep hY hb9;obtain⟨v0,v1,v2,_⟩:=hX9.facts;obtain⟨u0,u1,u2,_⟩:=hY9.facts;have hc3:=Qq hb9 hc2)
       exact⟨⟨k+1,by go_num,by omega,congrArg Value.string HA.out,hJ9,hX9,hY9,Qj hbr hb9,Qj hbr2 hb9,Qj hbr3 hb9⟩,by simp[intOf];omega⟩
      ·go_wp2_with (go_at_call 82;refine (HCV.out _).mono ?_;rintro e w9 ⟨rfl,hb9⟩;have hJ9:JBox w9 w.heap.size ⟨#[]⟩ false 0:=Qv.keep hJ hb9;have hX9:QJ w9 w2.heap.size cu _ tl:=Qv.keep hX hb9;have hY9:QJ w9 w3.heap.size cv _ tm:=Qv.keep hY hb9;obtain⟨v0,v1,v2,_⟩:=hX9.facts;obtain⟨u0,u1,u2,_⟩:=hY9.facts;have hc3:=Qq hb9 hc2)
       exact⟨⟨k+1,by go_num,by omega,congrArg Value.string HA.out,hJ9,hX9,hY9,Qj hbr hb9,Qj hbr2 hb9,Qj hbr3 hb9⟩,by simp[intOf];omega⟩
     ·have dm:decide ((k:Int)<(m:Int))=false:=decide_eq_false (by omega)
      have hb:y.parts[k]? = none:=List.getElem?_eq_none (by have:=HM.out;omega)
      rw[hb]at hA hw
      dsimp only at hA hw
      clear hb
      generalize Qr a=sa at *
      generalize Zd (Kz cz zs k)=S at *
      have HA:=Lib.hid hA
      clear hA
      have n1:¬ 9223372036854775807<S.size+1:=by omega
      have n2:¬ 9223372036854775807<S.size+1+sa.size:=by omega
      go_wp2
      exact⟨⟨k+1,by go_num,by omega,congrArg Value.string HA.out,hJ,hX,hY,hbr,hbr2,hbr3⟩,by simp[intOf];omega⟩
    ·have dn:decide ((k:Int)<(n:Int))=false:=decide_eq_false (by omega)
     have hkm:k<m:=by omega
     have dm:decide ((k:Int)<(m:Int))=true:=decide_eq_true (by omega)
     have ha:x.parts[k]? = none:=List.getElem?_eq_none (by have:=HN.out;omega)
     rw[ha]at hA hw
     obtain⟨z',hz'⟩:∃ z',y.parts[k]? = some z':=⟨_,List.getElem?_eq_getElem (by have:=HM.out;omega)⟩
     obtain⟨b2,o2,rfl,hcell2⟩:=(HR2.out.keep hbr3).2 (by omega)
     have hc2:wr.cell? ⟨b2,o2+k,none⟩=some (.string (Qr z')):=hcell2 k _ (by rw[List.getElem?_map,strL_at _ _ _ hz'];rfl)
     rw[hz']at hA hw
     obtain⟨hzf,hzs⟩:=HQS.out z' (List.mem_of_getElem? hz')
     dsimp only at hA hw
     have cM:=fun W=>UK ⟨#[42]⟩ (Qr z') W (by decide) (by omega)
     clear hcell2 hz' hzf ha
     generalize Qr z'=sz at *
     generalize covB ⟨#[42]⟩ sz=cv' at *
     generalize Zd (Kz cz zs k)=S at *
     have HCV:=Lib.hid cM
     have HA:=Lib.hid hA
     clear cM hA
     have n1:¬ 9223372036854775807<S.size+1:=by omega
     have n2:¬ 9223372036854775807<S.size+1+1:=by omega
     have n3:¬ 9223372036854775807<S.size+1+sz.size:=by omega
     cases cv'
     ·go_wp2_with (go_at_call 82;refine (HCV.out _).mono ?_;rintro e w9 ⟨rfl,hb9⟩;have hJ9:JBox w9 w.heap.size ⟨#[]⟩ false 0:=Qv.keep hJ hb9;have hX9:QJ w9 w2.heap.size cu _ tl:=Qv.keep hX hb9;have hY9:QJ w9 w3.heap.size cv _ tm:=Qv.keep hY hb9;obtain⟨v0,v1,v2,_⟩:=hX9.facts;obtain⟨u0,u1,u2,_⟩:=hY9.facts;have hc3:=Qq hb9 hc2)
      exact⟨⟨k+1,by go_num,by omega,congrArg Value.string HA.out,hJ9,hX9,hY9,Qj hbr hb9,Qj hbr2 hb9,Qj hbr3 hb9⟩,by simp[intOf];omega⟩
     ·go_wp2_with (go_at_call 82;refine (HCV.out _).mono ?_;rintro e w9 ⟨rfl,hb9⟩;have hJ9:JBox w9 w.heap.size ⟨#[]⟩ false 0:=Qv.keep hJ hb9;have hX9:QJ w9 w2.heap.size cu _ tl:=Qv.keep hX hb9;have hY9:QJ w9 w3.heap.size cv _ tm:=Qv.keep hY hb9;obtain⟨v0,v1,v2,_⟩:=hX9.facts;obtain⟨u0,u1,u2,_⟩:=hY9.facts;have hc3:=Qq hb9 hc2)
      exact⟨⟨k+1,by go_num,by omega,congrArg Value.string HA.out,hJ9,hX9,hY9,Qj hbr hb9,Qj hbr2 hb9,Qj hbr3 hb9⟩,by simp[intOf];omega⟩
   ·obtain rfl:k=max n m:=by omega
    have hs:=HBD.out (max n m)
    have hV:=HV.out
    have hmx:(max (n:Int) (m:Int))=((max n m:Nat):Int):=by omega
    have hmm:¬ ((max n m:Nat):Int)<(n:Int)∧¬ ((max n m:Nat):Int)<(m:Int):=by omega
    obtain⟨j0,j1,j2,f0,f1,f2⟩:=hJ.facts
    have hz9:w.heap.size<wr.heap.size:=Qv.lt hJ
    generalize Zd (Kz cz zs (max n m))=S at *
    have n1:¬ 9223372036854775807<S.size+3:=by omega
    cases tl
    ·simp only[Bool.false_and,Bool.false_eq_true,if_false]at hV
     subst hV
     go_wp2
     exact bodyPost_ret (v:=.agg #[.string V,.bool true,.int .i64 0]) (by simp[results,Tryz.results40,go_sem,hz9,j0,j1,j2,f0,f1,f2]) rfl ⟨rfl,Qz⟩
    ·cases tm
     ·simp only[Bool.and_false,Bool.false_eq_true,if_false]at hV
      subst hV
      go_wp2
      exact bodyPost_ret (v:=.agg #[.string V,.bool true,.int .i64 0]) (by simp[results,Tryz.results40,go_sem,hz9,j0,j1,j2,f0,f1,f2]) rfl ⟨rfl,Qz⟩
     ·simp only[Bool.and_self,if_true]at hV
      subst hV
      go_wp2
      exact bodyPost_ret (v:=.agg #[.string (S++⟨#[47,42,42]⟩),.bool true,.int .i64 0]) (by simp[results,Tryz.results40,go_sem,hz9,j0,j1,j2,f0,f1,f2]) rfl ⟨rfl,Qz⟩
theorem rBoth2_any (p q:ByteArray) (w:World) (hp:p.size≤100000) (hq:q.size≤100000):Calls Tryz.prog 40 #[.string p,.string q] w (Zx w (.agg #[.string (bothR (Js p q)).1,.bool (bothR (Js p q)).2.1,.int .i64 (bothR (Js p q)).2.2])):=by
 have cM:=fun W=>rMeet2_any p q W hp hq
 unfold meetR at cM
 unfold Js
 cases hx:Qx p with
 | none =>
  rw[hx]at cM
  exact rBoth0 p q w 1 (.inr rfl) (Lib.hid cM)
 | some x =>
  cases hy:Qx q with
  | none =>
   rw[hx,hy]at cM
   exact rBoth0 p q w 1 (.inr rfl) (Lib.hid cM)
  | some y =>
   rw[hx,hy]at cM
   have cM2:∀ W,Calls Tryz.prog 42 #[.string p,.string q] W (Zx W (.agg #[.bool (QK x y).isSome,.int .i64 0])):=cM
   show Calls Tryz.prog 40 #[.string p,.string q] w (Zx w (.agg #[.string (bothR (some (QK x y))).1,.bool (bothR (some (QK x y))).2.1,.int .i64 (bothR (some (QK x y))).2.2]))
   cases hz:QK x y with
   | none =>
    rw[hz]at cM2
    exact rBoth0 p q w 0 (.inl rfl) (Lib.hid cM2)
   | some z =>
    rw[hz]at cM2
    exact rBoth1 p q x y z w (Zq hx) (Zq hy) (X6 p hp x hx) (X6 q hq y hy) hz _ _ _ _ _ _ rfl rfl rfl rfl rfl rfl (Lib.hid cM2) (Lib.hid (compAs hp hx)) (Lib.hid (compAs hq hy))
end Go.Proofs.YticlbkficolocaaGreatDoor
