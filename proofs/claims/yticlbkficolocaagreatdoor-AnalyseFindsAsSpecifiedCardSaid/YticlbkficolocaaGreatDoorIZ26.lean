/- Plain: numerals and the text of a condition read back. -/
import Derived.Test.YticlbkficolocaaGreatDoorIZ24
import Derived.Lib.AtoiTie
import Derived.Laws.EntriesVeiled
set_option maxHeartbeats 8000000
namespace Go.Proofs.YticlbkficolocaaGreatDoor
open Go.RowKit Go.Sort
set_option linter.unusedVariables false
set_option linter.unusedSimpArgs false
set_option maxRecDepth 100000
theorem digit_of (d:Nat) (h:d<10):Lib.digitVal (UInt8.ofNat (48+d))=some d:=by
 unfold Lib.digitVal
 have e:(UInt8.ofNat (48+d)).toNat=48+d:=by rw[UInt8.toNat_ofNat'];omega
 rw[e,if_pos (by omega)]
 congr 1;omega
theorem dec_back (u:Nat):∀ (acc:Nat) (r:List UInt8),Lib.decFrom acc (Lib.decDigits u++r)=Lib.decFrom (acc*10 ^ Lib.nDigits u+u) r:=by
 induction u using Nat.strongRecOn with
 | _ u ih =>
  intro acc r
  by_cases h:u<10
  ·rw[Lib.decDigits,dif_pos h,Lib.nDigits_small h]
   simp only[List.cons_append,List.nil_append,Lib.decFrom,digit_of u h,Nat.pow_one]
  ·rw[Lib.decDigits,dif_neg h,Lib.nDigits_big h,List.append_assoc,ih (u / 10) (by omega)]
   simp only[List.cons_append,List.nil_append,Lib.decFrom,digit_of (u % 10) (by omega)]
   congr 1
   rw[Nat.pow_succ,Nat.add_mul,←Nat.mul_assoc]
   omega
theorem dec_digit (u:Nat):∀ b∈Lib.decDigits u,48≤b.toNat∧b.toNat≤57:=by
 induction u using Nat.strongRecOn with
 | _ u ih =>
  intro b hb
  by_cases h:u<10
  ·rw[Lib.decDigits,dif_pos h,List.mem_singleton]at hb
   subst hb
   rw[UInt8.toNat_ofNat'];omega
  ·rw[Lib.decDigits,dif_neg h,List.mem_append,List.mem_singleton]at hb
   rcases hb with hb | rfl
   ·exact ih (u / 10) (by omega) b hb
   ·rw[UInt8.toNat_ofNat'];omega
theorem nd_le:∀ (k u:Nat),u<10 ^ (k+1)→Lib.nDigits u≤k+1
 | 0,u,h=>by rw[Lib.nDigits_small (by simpa using h)];omega
 | k+1,u,h=>by
  by_cases h1:u<10
  ·rw[Lib.nDigits_small h1];omega
  ·rw[Lib.nDigits_big h1]
   have:=nd_le k (u / 10) (by rw[Nat.pow_succ]at h;omega)
   omega
theorem dec_len (u:Nat) (h:u≤1099511627777):(Lib.decDigits u).length≤13∧1≤(Lib.decDigits u).length:=by
 rw[Lib.decDigits_length]
 exact⟨nd_le 12 u (by omega),Lib.nDigits_pos u⟩
theorem itoa_dec (n:Int) (h:0≤n):(itoaB n).data.toList=Lib.decDigits n.toNat:=by
 unfold itoaB Lib.itoa
 rw[if_neg (by omega)]
theorem dec_zero (u:Nat):Lib.decFrom 0 (Lib.decDigits u)=some u:=by
 have:=dec_back u 0 []
 rw[List.append_nil]at this
 rw[this]
 simp[Lib.decFrom]
theorem okN_at {l:List ByteArray} {k:Nat} {x y:ByteArray} (hx:l[k+1]? = some x) (hy:l[k]? = some y):Jt KQ Qy l (k+1)=(Qy x&&KQ y x):=by
 unfold Jt
 rw[hx,Nat.add_sub_cancel,hy]
 simp
theorem okN_zero {l:List ByteArray} {x:ByteArray} (hx:l[0]? = some x):Jt KQ Qy l 0=Qy x:=by
 unfold Jt
 rw[hx];simp
theorem We {l:List ByteArray} {k:Nat} (hk:k<l.length) (h2:Jt KQ Qy l k=false):U0 l=false:=by
 unfold U0
 rw[List.all_eq_false]
 exact⟨k,by simpa using hk,by rw[h2];simp⟩
theorem min4 (a b c d:Int):Lib.minOf [a,b,c,d]=min (min (min a b) c) d:=by
 unfold Lib.minOf
 simp
theorem max4 (a b c d:Int):Lib.maxOf [a,b,c,d]=max (max (max a b) c) d:=by
 unfold Lib.maxOf
 simp
theorem four_reads (W:World) (g:Nat) (a b c d:Int) (h:Qi W g 3 [.int .i64 a,.int .i64 b,.int .i64 c,.int .i64 d]):∀ j,j < [a,b,c,d].length→W.cell? ⟨g,0+j,none⟩=some (.int .i64 ([a,b,c,d].getD j 0)):=by
 intro j hj
 rw[Nat.zero_add]
 refine Qi.cell h ?_
 match j,hj with
 | 0,_=>rfl
 | 1,_=>rfl
 | 2,_=>rfl
 | 3,_=>rfl
def timesR (r:Vm):Bool:=decide (0≤min (min (min r.fresh r.stale) r.down) r.neg)&&decide (max (max (max r.fresh r.stale) r.down) r.neg≤1099511627776)
theorem times_span (r:Vm):timesR r=(Vf r.fresh&&Vf r.stale&&Vf r.down&&Vf r.neg):=by
 unfold timesR Vf
 rw[Bool.eq_iff_iff]
 simp only[Bool.and_eq_true,decide_eq_true_eq]
 omega
theorem validR_eq (r:Vm):X0 r=(U0 r.tags&&(Qy r.name&&(Qx r.pat).isSome&&timesR r&&Xj r.allow&&decide (r.vary.length≤8)&&decide (0≤r.cost)&&decide (r.cost≤1073741824)&&decide (r.prog.size≤64))):=by
 unfold X0
 rw[times_span]
 cases Qy r.name <;> cases (Qx r.pat).isSome <;> cases U0 r.tags <;> cases Xj r.allow <;> simp
def Box8 (w:World) (g4:Nat) (x:Qh) (W:World):Prop:=Qi W w.heap.size 57 x.cells∧Qi W g4 3 [.int .i64 x.r.fresh,.int .i64 x.r.stale,.int .i64 x.r.down,.int .i64 x.r.neg]∧Below w.heap.size w W
theorem Box8.keep {w W W':World} {g4:Nat} {x:Qh} (h:Box8 w g4 x W) (hb:Below W.heap.size W W'):Box8 w g4 x W' :=
 ⟨h.1.keep hb,h.2.1.keep hb,h.2.2.trans (hb.mono h.2.2.size)⟩
theorem polValid_any (x:Qh) (w:World) (hR:Xx w x) (hf:Zw x.r) (hE:Env w):Calls Tryz.prog 56 #[x.val] w (Zx w (.bool (X0 x.r))):=by
 have cN:=fun (s:ByteArray) (hs:s.size≤4294967281) (W:World) (hb:Below w.heap.size w W)=>polName_any s W hs (Env.keep hE hb)
 have cP:=fun (W:World) (hb:Below w.heap.size w W)=>Yu x.r.pat W (by have:=hf.pat;omega) (Env.keep hE hb)
 have cC:=fun (W:World) (hb:Below w.heap.size w W)=>Yv x.r.allow x.m W (hR.allow.keep hb) hf.c.p hf.c.cl hf.c.co hf.c.n1 hf.c.n2 hf.c.n3 (Env.keep hE hb)
 unfold Zy.val at cC
 have hnm:=hf.name
 obtain⟨V,hV⟩:∃ V,V=X0 x.r:=⟨_,rfl⟩
 rw[←hV]
 rw[validR_eq]at hV
 have HT:=Lib.hid hR.tags
 have HTS:=Lib.hid hf.t
 have hnt:=hf.nt
 have HV:=Lib.hid hV;have HN:=Lib.hid cN;have HP:=Lib.hid cP;have HC:=Lib.hid cC
 clear hV cN cP cC hR hf hE
 rw[Qh.val_eq]
 go_enter Tryz.func56,Tryz.ntmps56
 go_wp2
 obtain⟨n,hn⟩:∃ n,n=x.r.tags.length:=⟨_,rfl⟩
 have htg:=HT.out
 rw[←hn]at hnt htg ⊢
 have HT:=Lib.hid htg
 have HNL:=Lib.hid hn
 clear hn htg
 have c2v:x.cells[2]? = some (.slice x.T n x.ct):=by rw[HNL.out];rfl
 go_loopw [9] (fun iv wr=>∃ k:Nat,k≤n∧iv=.int .i64 k∧Hid ((List.range k).all (Jt KQ Qy x.r.tags)=true)∧Hid (Qi wr w.heap.size 57 x.cells)∧Below w.heap.size w wr) (fun iv _=>n-(intOf iv).toNat)
 case atStart=>exact⟨0,by omega,rfl,Lib.hid rfl,Lib.hid (by unfold Qi;rw[HNL.out];exact heap_alloc_new w _),Qz⟩
 case round =>
  obtain⟨k,hk,rfl,HK,HRC,hb⟩:=hrel
  have c2:wr.cell? ⟨w.heap.size,2,none⟩=some (.slice x.T n x.ct):=Qi.cell HRC.out c2v
  clear c2v
  by_cases hlt:k<n
  ·obtain⟨u,hu⟩:∃ u,x.r.tags[k]? = some u:=⟨_,List.getElem?_eq_getElem (by have:=HNL.out;omega)⟩
   obtain⟨pb,po,hTA,hcell⟩:=(HT.out.keep hb).2 (by omega)
   rw[hTA]at c2 ⊢
   have hc1:wr.cell? ⟨pb,po+k,none⟩=some (.string u):=hcell k _ (by simp[hu])
   have hNu:=HN.out u (by have:=HTS.out u (List.mem_of_getElem? hu);omega)
   have hk0:(0:Int)≤(k:Int):=by omega
   have hk1:(k:Int)<(n:Int):=by omega
   cases hnu:Qy u
   ·obtain rfl:V=false:=by
     rw[HV.out,We (k:=k) (by have:=HNL.out;omega) (by simp[Jt,hu,hnu])];rfl
    rw[hnu]at hNu
    have HNU:=Lib.hid hNu
    clear HK hcell hu hNu hTA hnu
    go_wp2_with (go_at_call 65;refine (HNU.out _ Qz).mono ?_;rintro e w2 ⟨rfl,hb2⟩)
    go_ret
    exact⟨rfl,Qz⟩
   ·rw[hnu]at hNu
    have HNU:=Lib.hid hNu
    rcases Nat.eq_zero_or_pos k with h0 | hpos
    ·subst h0
     have HK2:Hid ((List.range (0+1)).all (Jt KQ Qy x.r.tags)=true):=Lib.hid (X9 HK.out (by rw[okN_zero hu,hnu]))
     simp only[Nat.add_zero]at hc1
     clear HK hcell hu hNu hTA hnu
     go_wp2_with (go_at_call 65;refine (HNU.out _ Qz).mono ?_;rintro e w2 ⟨rfl,hb2⟩)
     exact⟨⟨1,by omega,rfl,HK2,Lib.hid (Qi.keep HRC.out Qz),Qz⟩,by simp[intOf];omega⟩
    ·obtain⟨j,rfl⟩:∃ j,k=j+1:=⟨k-1,by omega⟩
     obtain⟨y,hy⟩:∃ y,x.r.tags[j]? = some y:=⟨_,List.getElem?_eq_getElem (by have:=HNL.out;omega)⟩
     have hc2:wr.cell? ⟨pb,po+j,none⟩=some (.string y):=hcell j _ (by simp[hy])
     have hk2:(0:Int)≤(j:Int):=by omega
     have hk3:(j:Int)<(n:Int):=by omega
     have hk4:((j:Int)+1-1)=j:=by omega
     have hle:=Ym u y
     have hat:=okN_at hu hy
     rw[hnu,Bool.true_and]at hat
     cases ht:KQ y u
     ·obtain rfl:V=false:=by
       rw[HV.out,We (k:=j+1) (by have:=HNL.out;omega) (by rw[hat,ht])];rfl
      rw[ht]at hle
      clear HK hcell hu hy hat ht hNu hTA hnu
      go_wp2_with (go_at_call 65;refine (HNU.out _ Qz).mono ?_;rintro e w2 ⟨rfl,hb2⟩;have hc2':=Qq hb2 hc2;have c2':=Qq hb2 c2)
      go_ret
      exact⟨rfl,Qz⟩
     ·have HK2:Hid ((List.range (j+1+1)).all (Jt KQ Qy x.r.tags)=true):=Lib.hid (X9 HK.out (by rw[hat,ht]))
      rw[ht]at hle
      clear HK hcell hu hy hat ht hNu hTA hnu
      go_wp2_with (go_at_call 65;refine (HNU.out _ Qz).mono ?_;rintro e w2 ⟨rfl,hb2⟩;have hc2':=Qq hb2 hc2;have c2':=Qq hb2 c2)
      exact⟨⟨j+1+1,by omega,by go_num,HK2,Lib.hid (Qi.keep HRC.out hb2),Qz⟩,by simp[intOf];omega⟩
  ·have hV2:V=(Qy x.r.name&&(Qx x.r.pat).isSome&&timesR x.r&&Xj x.r.allow&&decide (x.r.vary.length≤8)&&decide (0≤x.r.cost)&&decide (x.r.cost≤1073741824)&&decide (x.r.prog.size≤64)):=by
    have hall:U0 x.r.tags=true:=by
     unfold U0
     have:=HK.out
     rw[show k=x.r.tags.length by have:=HNL.out;omega]at this
     exact this
    rw[HV.out,hall,Bool.true_and]
   clear HK c2
   have y3:wr.cell? ⟨w.heap.size,3,none⟩=some (.int .i64 x.r.fresh):=Qi.cell HRC.out rfl
   have y4:wr.cell? ⟨w.heap.size,4,none⟩=some (.int .i64 x.r.stale):=Qi.cell HRC.out rfl
   have y5:wr.cell? ⟨w.heap.size,5,none⟩=some (.int .i64 x.r.down):=Qi.cell HRC.out rfl
   have y6:wr.cell? ⟨w.heap.size,6,none⟩=some (.int .i64 x.r.neg):=Qi.cell HRC.out rfl
   go_upto_region 8 with fail
   clear y3 y4 y5 y6
   obtain⟨g4,hg4⟩:∃ g4,g4=wr.heap.size:=⟨_,rfl⟩
   rw[←hg4]
   generalize hw1:World.alloc _ _=w1
   have hB1:Box8 w g4 x w1:=by
    rw[←hw1,hg4]
    exact⟨Qi.alloc HRC.out _,heap_alloc_new wr _,hb.alloc (by have:=hb.size;omega) _⟩
   clear hw1 hg4 HRC hb
   obtain⟨y0,y1,_,y3,y4,y5,y6,y7,y8,y9,y10,y11,y12,y13,y14,y15,y16,y17⟩:=Q8 hB1.1
   have hN1:=HN.out x.r.name (by omega) w1 hB1.2.2
   have HB1:=Lib.hid hB1
   unfold timesR at hV2
   generalize Qy x.r.name=b1 at *
   generalize (Qx x.r.pat).isSome=b2 at *
   generalize Xj x.r.allow=b3 at *
   have HN1:=Lib.hid hN1
   clear hN1 hB1
   cases b1
   obtain rfl:V=false:=by rw[hV2];simp
   rotate_left
   cases b2
   obtain rfl:V=false:=by rw[hV2];simp
   rotate_left
   by_cases t1:0≤min (min (min x.r.fresh x.r.stale) x.r.down) x.r.neg
   rotate_left
   obtain rfl:V=false:=by rw[hV2];simp only[decide_eq_false t1];simp
   have d1:decide (0≤min (min (min x.r.fresh x.r.stale) x.r.down) x.r.neg)=false:=decide_eq_false t1
   rotate_right
   have d1:decide (0≤min (min (min x.r.fresh x.r.stale) x.r.down) x.r.neg)=true:=decide_eq_true t1
   by_cases t2:max (max (max x.r.fresh x.r.stale) x.r.down) x.r.neg≤1099511627776
   rotate_left
   obtain rfl:V=false:=by rw[hV2];simp only[decide_eq_false t2];simp
   have d2:decide (max (max (max x.r.fresh x.r.stale) x.r.down) x.r.neg≤1099511627776)=false:=decide_eq_false t2
   rotate_right
   have d2:decide (max (max (max x.r.fresh x.r.stale) x.r.down) x.r.neg≤1099511627776)=true:=decide_eq_true t2
   cases b3
   obtain rfl:V=false:=by rw[hV2];simp
   rotate_left
   by_cases t3:x.r.vary.length≤8
   rotate_left
   obtain rfl:V=false:=by rw[hV2];simp only[decide_eq_false t3];simp
   have d3:decide ((x.r.vary.length:Int)≤8)=false:=decide_eq_false (by omega)
   rotate_right
   have d3:decide ((x.r.vary.length:Int)≤8)=true:=decide_eq_true (by omega)
   by_cases t4:0≤x.r.cost
   rotate_left
   obtain rfl:V=false:=by rw[hV2];simp only[decide_eq_false t4];simp
   have d4:decide (0≤x.r.cost)=false:=decide_eq_false t4
   rotate_right
   have d4:decide (0≤x.r.cost)=true:=decide_eq_true t4
   by_cases t5:x.r.cost≤1073741824
   rotate_left
   obtain rfl:V=false:=by rw[hV2];simp only[decide_eq_false t5];simp
   have d5:decide (x.r.cost≤1073741824)=false:=decide_eq_false t5
   rotate_right
   have d5:decide (x.r.cost≤1073741824)=true:=decide_eq_true t5
   by_cases t6:x.r.prog.size≤64
   obtain rfl:V=true:=by rw[hV2,d1,d2,decide_eq_true t3,d4,d5,decide_eq_true t6];rfl
   have d6:decide ((x.r.prog.size:Int)≤64)=true:=decide_eq_true (by omega)
   rotate_left
   obtain rfl:V=false:=by rw[hV2];simp only[decide_eq_false t6];simp
   have d6:decide ((x.r.prog.size:Int)≤64)=false:=decide_eq_false (by omega)
   all_goals
    clear hV2
    (go_wp2_with (first | (go_at_call 65;refine (HN1.out).mono ?_;rintro e w2 ⟨rfl,hb2⟩;have hB2:=HB1.out.keep hb2;obtain⟨y0,y1,_,y3,y4,y5,y6,y7,y8,y9,y10,y11,y12,y13,y14,y15,y16,y17⟩:=Q8 hB2.1) | (go_at_call 23;refine (HP.out w2 hB2.2.2).mono ?_;rintro e w3 ⟨rfl,hb3⟩;have hB3:=hB2.keep hb3;obtain⟨y0,y1,_,y3,y4,y5,y6,y7,y8,y9,y10,y11,y12,y13,y14,y15,y16,y17⟩:=Q8 hB3.1) | (go_at_call 110;refine (Tryz.slices_Min_int g4 0 4 4 [x.r.fresh,x.r.stale,x.r.down,x.r.neg] w3 (by omega) (by simp) (by omega) (four_reads w3 g4 _ _ _ _ hB3.2.1)).mono ?_;rintro e w' ⟨rfl,hww⟩;rw[hww,List.take_of_length_le (by simp),min4];clear hww w') | (go_at_call 111;refine (Tryz.slices_Max_int g4 0 4 4 [x.r.fresh,x.r.stale,x.r.down,x.r.neg] w3 (by omega) (by simp) (by omega) (four_reads w3 g4 _ _ _ _ hB3.2.1)).mono ?_;rintro e w' ⟨rfl,hww⟩;rw[hww,List.take_of_length_le (by simp),max4];clear hww w') | (go_at_call 61;refine (HC.out w3 hB3.2.2).mono ?_;rintro e w4 ⟨rfl,hb4⟩;have hB4:=hB3.keep hb4;obtain⟨y0,y1,_,y3,y4,y5,y6,y7,y8,y9,y10,y11,y12,y13,y14,y15,y16,y17⟩:=Q8 hB4.1));go_ret;exact⟨rfl,by first | exact hB4.2.2 | exact hB3.2.2 | exact hB2.2.2⟩)
theorem indexFuncC_any (g:Nat) (eg:∀ args w,(callFunc g args).run Tryz.prog w=.ok (.enter g args) w) (cv:Value) (p:ByteArray→Bool) (A:Option Addr) (n c:Nat) (xs:List ByteArray) (w:World)
  (hp:∀ x∈xs,∀ W,Below w.heap.size w W→Calls Tryz.prog g #[.string x,cv] W (Zx W (.bool (p x)))) (hA:Reads w 1 A n (xs.map .string)) (hn:n≤1000000000) :
  Calls Tryz.prog 49 #[.slice A n c,.func (.func g) #[] #[cv]] w (Zx w (.int .i64 (idxFrom p xs 0))):=by
 have hl:n≤xs.length∧xs.length≤n:=by have:=hA.1;simp at this;omega
 have HP:=Lib.hid hp;have HA:=Lib.hid hA
 clear hp hA
 go_enter Tryz.func49,Tryz.ntmps49
 go_wp2
 go_loopw [8] (fun i wr=>∃ k:Nat,k≤n∧i=.int .i64 k∧Hid (idxFrom p xs 0=idxFrom p (xs.drop k) k)∧Below w.heap.size w wr) (fun i _=>n-(intOf i).toNat)
 case atStart=>exact⟨0,by omega,rfl,Lib.hid rfl,Below.refl _ _⟩
 case round =>
  obtain⟨k,hk,rfl,HI,hb⟩:=hrel
  by_cases hlt:k<n
  ·obtain⟨pb,po,u,rfl,hu,hcell⟩:=(HA.out.keep hb).at_ hlt
   obtain⟨x,hx,rfl⟩:=JJ hu
   clear hu
   have hc:=HP.out x (List.mem_of_getElem? hx) wr hb
   have hd:xs.drop k=x :: xs.drop (k+1):=by
    obtain⟨hl2,rfl⟩:=List.getElem?_eq_some_iff.1 hx
    exact List.drop_eq_getElem_cons hl2
   have HI2:=HI.out
   rw[hd,idxFrom]at HI2
   clear hd hx HI
   have HI:=Lib.hid HI2
   clear HI2
   cases hpx:p x
   all_goals
    rw[hpx]at hc HI
    have HC:=Lib.hid hc
    clear hc hpx
    go_wp2_with (go_at_fn g;refine (HC.out).mono ?_;rintro e w2 ⟨rfl,hb2⟩)
   ·refine⟨⟨k+1,by omega,by go_num,Lib.hid (by have:=HI.out;simpa using this),Qj hb hb2⟩,by simp[intOf];omega⟩
   ·go_ret
    have:=HI.out
    exact⟨Kq (by rw[this];simp),Qj hb hb2⟩
  ·have he:idxFrom p xs 0 = -1:=by rw[HI.out,List.drop_eq_nil_of_le (by omega)];rfl
   have HE:=Lib.hid he
   clear he HI
   go_wp2
   go_ret
   exact⟨Kq HE.out.symm,hb⟩
theorem WX (g:Nat) (eg:∀ args w,(callFunc g args).run Tryz.prog w=.ok (.enter g args) w) (cv:Value) (p:ByteArray→Bool) (A:Option Addr) (n c:Nat) (xs:List ByteArray) (w:World)
  (hp:∀ x∈xs,∀ W,Below w.heap.size w W→Calls Tryz.prog g #[.string x,cv] W (Zx W (.bool (p x)))) (hA:Reads w 1 A n (xs.map .string)) (hn:n≤1000000000) :
  Calls Tryz.prog 24 #[.slice A n c,.func (.func g) #[] #[cv]] w (Zx w (.bool (xs.any p))):=by
 rw[←UV p xs 0]
 have H:=Lib.hid (indexFuncC_any g eg cv p A n c xs w hp hA hn)
 clear hp hA
 generalize idxFrom p xs 0=r at H ⊢
 go_enter Tryz.func24,Tryz.ntmps24
 go_wp2_with (go_at_call 49;refine H.out.mono ?_;rintro e w2 ⟨rfl,hb2⟩)
 go_ret
 exact⟨rfl,hb2⟩
def XZ {α:Type} (p:α→Bool):List α→Nat→Int
 | [],_=>-1
 | x :: r,k=>if p x then k else XZ p r (k+1)
theorem Uj (w:World) (b o:Nat) (x:Qh) (hc:∀ j u,x.cells[j]? = some u→w.cell? ⟨b,o+j,none⟩=some u):(loadVar 57 ⟨b,o,none⟩).run Tryz.prog w=.ok x.val w:=by
 have hl:(loadCells ⟨b,o,none⟩ 18).run Tryz.prog w=.ok x.cells.toArray w :=
  run_loadCells_list (P:=Tryz.prog) w ⟨b,o,none⟩ x.cells (fun j v hv=>by
   have hadd:(⟨b,o,none⟩:Addr).add j=⟨b,o+j,none⟩:=by unfold Addr.add;split <;> simp_all
   rw[hadd];exact hc j v hv)
 have hi:(Tryz.prog.info? 57).map (·.size)=some 18:=by kernel_rfl
 cases hq:Tryz.prog.info? 57 with
 | none=>rw[hq]at hi;cases hi
 | some i =>
  have hs:i.size=18:=by rw[hq]at hi;simpa using hi
  have hagg:(isAgg 57).run Tryz.prog w=.ok true w:=by
   unfold isAgg
   rw[Sem.run_bind,run_underlying Tryz.underlying57 w]
   rfl
  simp[loadVar,Sem.run_bind,hagg,sizeOf,typeInfo,hq,hs,hl,Qh.val]
theorem inf18:(Tryz.prog.info? 57).map (·.size)=some 18:=by kernel_rfl
def emptyR (c:ZV):Bool × Kr × Int:=if Xj c then (if c.till≤c.fr then (true,UU,0) else (false,XY c,0)) else (false,UU,1)
def impV (r:Bool × Kr × Int):Value:=.tuple #[.bool r.1,Kr.val r.2.1,.int .i64 r.2.2]
theorem Xm.own {w:World} {fr till us:Int} {pat:ByteArray} {cl co:List ByteArray} {si:List Int} {m:Zy} (h:Xm w ⟨fr,till,pat,cl,co,si,us⟩ m):Xm w ⟨fr,till,pat,cl,co,si,us⟩ m:=h
theorem empty_any (c:ZV) (m:Zy) (w:World) (hR:Xm w c m) (hc:Wh c) (hE:Env w):Calls Tryz.prog 29 #[Zy.val c m] w (Zx w (impV (emptyR c))):=by
 have c1:=fun W (hb:Below w.heap.size w W)=>Yv c m W (hR.keep hb) hc.p hc.cl hc.co hc.n1 hc.n2 hc.n3 (hE.keep hb)
 have c2:=fun W (hb:Below w.heap.size w W)=>sample_any c m W (hR.keep hb) hc (hE.keep hb)
 obtain⟨V,hV⟩:∃ V,V=impV (emptyR c):=⟨_,rfl⟩
 rw[←hV]
 unfold impV emptyR at hV
 generalize XY c=s at *
 generalize Xj c=vd at *
 obtain⟨ad,kl,ko,st,lo,hi⟩:=s
 clear hR
 obtain⟨fr,till,pat,cl,co,si,us⟩:=c
 obtain⟨A,ca,B,cb,S,cs⟩:=m
 unfold Zy.val at c1 c2 ⊢
 unfold Kr.val at c2
 dsimp only at c1 c2 hV ⊢
 have C1:=Lib.hid c1;have C2:=Lib.hid c2
 clear c1 c2 hE hc
 cases vd
 ·obtain rfl:V=.tuple #[.bool false,.agg #[.string ⟨#[]⟩,.string ⟨#[]⟩,.string ⟨#[]⟩,.int .i64 0,.int .i64 0,.int .i64 0],.int .i64 1]:=by rw[hV];rfl
  clear hV
  go_enter Tryz.func29,Tryz.ntmps29
  go_wp2_with (first | (go_at_call 61;refine (C1.out _ Qz).mono ?_;rintro e w2 ⟨rfl,hb2⟩;have hbw:Below w.heap.size w w2:=Qz;(have hX2:Zi w2 w.heap.size fr till pat A cl.length ca B co.length cb S si.length cs us:=(by first | exact Qv.keep hX2 hb2 | exact Qv.keep (Xe _ _ _).1 hb2);have hY2:Xa w2 (w.heap.size+1) ⟨#[]⟩ ⟨#[]⟩ ⟨#[]⟩ 0 0 0:=(by first | exact Qv.keep hY2 hb2 | exact Qv.keep (Xe _ _ _).2 hb2);(try clear x0 x1 x2 x3 x4 x5 x6 y0 y1 y2 y3 y4 y5 z0 z1 z2 z3 z4 z5);obtain⟨x0,x1,x2,x3,x4,x5,x6⟩:=hX2.facts;obtain⟨y0,y1,y2,y3,y4,y5⟩:=hY2.facts;have z0:=hY2.free0 0;have z1:=hY2.free0 1;have z2:=hY2.free0 2;have z3:=hY2.free0 3;have z4:=hY2.free0 4;have z5:=hY2.free0 5)) | (go_at_call 62;refine (C2.out _ hbw).mono ?_;rintro e w2 ⟨rfl,hb2⟩;replace hbw:=Qj hbw hb2;(have hX2:Zi w2 w.heap.size fr till pat A cl.length ca B co.length cb S si.length cs us:=(by first | exact Qv.keep hX2 hb2 | exact Qv.keep (Xe _ _ _).1 hb2);have hY2:Xa w2 (w.heap.size+1) ⟨#[]⟩ ⟨#[]⟩ ⟨#[]⟩ 0 0 0:=(by first | exact Qv.keep hY2 hb2 | exact Qv.keep (Xe _ _ _).2 hb2);(try clear x0 x1 x2 x3 x4 x5 x6 y0 y1 y2 y3 y4 y5 z0 z1 z2 z3 z4 z5);obtain⟨x0,x1,x2,x3,x4,x5,x6⟩:=hX2.facts;obtain⟨y0,y1,y2,y3,y4,y5⟩:=hY2.facts;have z0:=hY2.free0 0;have z1:=hY2.free0 1;have z2:=hY2.free0 2;have z3:=hY2.free0 3;have z4:=hY2.free0 4;have z5:=hY2.free0 5)))
  (obtain⟨p0,p1,p2,p3,p4,p5⟩:=(hY2.put ⟨#[]⟩ ⟨#[]⟩ ⟨#[]⟩ 0 0 0).facts;clear x0 x1 x2 x3 x4 x5 x6 y0 y1 y2 y3 y4 y5 z0 z1 z2 z3 z4 z5)
  exact bodyPost_ret (v:=.tuple #[.bool false,.agg #[.string ⟨#[]⟩,.string ⟨#[]⟩,.string ⟨#[]⟩,.int .i64 0,.int .i64 0,.int .i64 0],.int .i64 1]) (by simp only[results,Tryz.results29];simp[go_sem,p0,p1,p2,p3,p4,p5]) rfl ⟨rfl,XX hbw (Nat.le_succ _) _ _ _ _ _ _⟩
 by_cases ht:till≤fr
 ·obtain rfl:V=.tuple #[.bool true,.agg #[.string ⟨#[]⟩,.string ⟨#[]⟩,.string ⟨#[]⟩,.int .i64 0,.int .i64 0,.int .i64 0],.int .i64 0]:=by rw[hV];simp only[ht,if_true];rfl
  have d1:decide (till≤fr)=true:=decide_eq_true ht
  clear hV
  go_enter Tryz.func29,Tryz.ntmps29
  go_wp2_with (first | (go_at_call 61;refine (C1.out _ Qz).mono ?_;rintro e w2 ⟨rfl,hb2⟩;have hbw:Below w.heap.size w w2:=Qz;(have hX2:Zi w2 w.heap.size fr till pat A cl.length ca B co.length cb S si.length cs us:=(by first | exact Qv.keep hX2 hb2 | exact Qv.keep (Xe _ _ _).1 hb2);have hY2:Xa w2 (w.heap.size+1) ⟨#[]⟩ ⟨#[]⟩ ⟨#[]⟩ 0 0 0:=(by first | exact Qv.keep hY2 hb2 | exact Qv.keep (Xe _ _ _).2 hb2);(try clear x0 x1 x2 x3 x4 x5 x6 y0 y1 y2 y3 y4 y5 z0 z1 z2 z3 z4 z5);obtain⟨x0,x1,x2,x3,x4,x5,x6⟩:=hX2.facts;obtain⟨y0,y1,y2,y3,y4,y5⟩:=hY2.facts;have z0:=hY2.free0 0;have z1:=hY2.free0 1;have z2:=hY2.free0 2;have z3:=hY2.free0 3;have z4:=hY2.free0 4;have z5:=hY2.free0 5)) | (go_at_call 62;refine (C2.out _ hbw).mono ?_;rintro e w2 ⟨rfl,hb2⟩;replace hbw:=Qj hbw hb2;(have hX2:Zi w2 w.heap.size fr till pat A cl.length ca B co.length cb S si.length cs us:=(by first | exact Qv.keep hX2 hb2 | exact Qv.keep (Xe _ _ _).1 hb2);have hY2:Xa w2 (w.heap.size+1) ⟨#[]⟩ ⟨#[]⟩ ⟨#[]⟩ 0 0 0:=(by first | exact Qv.keep hY2 hb2 | exact Qv.keep (Xe _ _ _).2 hb2);(try clear x0 x1 x2 x3 x4 x5 x6 y0 y1 y2 y3 y4 y5 z0 z1 z2 z3 z4 z5);obtain⟨x0,x1,x2,x3,x4,x5,x6⟩:=hX2.facts;obtain⟨y0,y1,y2,y3,y4,y5⟩:=hY2.facts;have z0:=hY2.free0 0;have z1:=hY2.free0 1;have z2:=hY2.free0 2;have z3:=hY2.free0 3;have z4:=hY2.free0 4;have z5:=hY2.free0 5)))
  (obtain⟨p0,p1,p2,p3,p4,p5⟩:=(hY2.put ⟨#[]⟩ ⟨#[]⟩ ⟨#[]⟩ 0 0 0).facts;clear x0 x1 x2 x3 x4 x5 x6 y0 y1 y2 y3 y4 y5 z0 z1 z2 z3 z4 z5)
  exact bodyPost_ret (v:=.tuple #[.bool true,.agg #[.string ⟨#[]⟩,.string ⟨#[]⟩,.string ⟨#[]⟩,.int .i64 0,.int .i64 0,.int .i64 0],.int .i64 0]) (by simp only[results,Tryz.results29];simp[go_sem,p0,p1,p2,p3,p4,p5]) rfl ⟨rfl,XX hbw (Nat.le_succ _) _ _ _ _ _ _⟩
 ·obtain rfl:V=.tuple #[.bool false,.agg #[.string ad,.string kl,.string ko,.int .i64 st,.int .i64 lo,.int .i64 hi],.int .i64 0]:=by rw[hV];simp only[ht,if_true,if_false];rfl
  have d1:decide (till≤fr)=false:=decide_eq_false ht
  clear hV
  go_enter Tryz.func29,Tryz.ntmps29
  go_wp2_with (first | (go_at_call 61;refine (C1.out _ Qz).mono ?_;rintro e w2 ⟨rfl,hb2⟩;have hbw:Below w.heap.size w w2:=Qz;(have hX2:Zi w2 w.heap.size fr till pat A cl.length ca B co.length cb S si.length cs us:=(by first | exact Qv.keep hX2 hb2 | exact Qv.keep (Xe _ _ _).1 hb2);have hY2:Xa w2 (w.heap.size+1) ⟨#[]⟩ ⟨#[]⟩ ⟨#[]⟩ 0 0 0:=(by first | exact Qv.keep hY2 hb2 | exact Qv.keep (Xe _ _ _).2 hb2);(try clear x0 x1 x2 x3 x4 x5 x6 y0 y1 y2 y3 y4 y5 z0 z1 z2 z3 z4 z5);obtain⟨x0,x1,x2,x3,x4,x5,x6⟩:=hX2.facts;obtain⟨y0,y1,y2,y3,y4,y5⟩:=hY2.facts;have z0:=hY2.free0 0;have z1:=hY2.free0 1;have z2:=hY2.free0 2;have z3:=hY2.free0 3;have z4:=hY2.free0 4;have z5:=hY2.free0 5)) | (go_at_call 62;refine (C2.out _ hbw).mono ?_;rintro e w2 ⟨rfl,hb2⟩;replace hbw:=Qj hbw hb2;(have hX2:Zi w2 w.heap.size fr till pat A cl.length ca B co.length cb S si.length cs us:=(by first | exact Qv.keep hX2 hb2 | exact Qv.keep (Xe _ _ _).1 hb2);have hY2:Xa w2 (w.heap.size+1) ⟨#[]⟩ ⟨#[]⟩ ⟨#[]⟩ 0 0 0:=(by first | exact Qv.keep hY2 hb2 | exact Qv.keep (Xe _ _ _).2 hb2);(try clear x0 x1 x2 x3 x4 x5 x6 y0 y1 y2 y3 y4 y5 z0 z1 z2 z3 z4 z5);obtain⟨x0,x1,x2,x3,x4,x5,x6⟩:=hX2.facts;obtain⟨y0,y1,y2,y3,y4,y5⟩:=hY2.facts;have z0:=hY2.free0 0;have z1:=hY2.free0 1;have z2:=hY2.free0 2;have z3:=hY2.free0 3;have z4:=hY2.free0 4;have z5:=hY2.free0 5)))
  obtain⟨p0,p1,p2,p3,p4,p5⟩:=(hY2.put ad kl ko st lo hi).facts
  clear x0 x1 x2 x3 x4 x5 x6 y0 y1 y2 y3 y4 y5 z0 z1 z2 z3 z4 z5
  exact bodyPost_ret (v:=.tuple #[.bool false,.agg #[.string ad,.string kl,.string ko,.int .i64 st,.int .i64 lo,.int .i64 hi],.int .i64 0]) (by simp only[results,Tryz.results29];simp[go_sem,p0,p1,p2,p3,p4,p5]) rfl ⟨rfl,XX hbw (Nat.le_succ _) _ _ _ _ _ _⟩
theorem infRule:(Tryz.prog.info? 57).map (·.size)=some 18:=by kernel_rfl
def Zl (W:World) (g:Nat) (t:TypeId) (X:Array Value):Prop:=W.heap[g]? = some (.cells X t (0,0))
theorem Zl.keep {W W':World} {g:Nat} {t:TypeId} {X:Array Value} (h:Zl W g t X) (hb:Below W.heap.size W W'):Zl W' g t X:=by
 unfold Zl at *
 have hlt:g<W.heap.size:=by
  rcases Nat.lt_or_ge g W.heap.size with h' | h'
  ·exact h'
  ·rw[Array.getElem?_eq_none h']at h;cases h
 rw[hb.block g hlt];exact h
theorem Zl.rule {W:World} {g:Nat} {X:Array Value} (h:Zl W g 57 X) (hs:X.size=18):(loadVar 57 ⟨g,0,none⟩).run Tryz.prog W=.ok (.agg X) W :=
 run_loadVar_row (P:=Tryz.prog) W g _ 57 X _ _ h Tryz.underlying57 rfl (by rw[hs];exact infRule)
theorem Zl.cell {W:World} {g:Nat} {t:TypeId} {X:Array Value} {k:Nat} {v:Value} (h:Zl W g t X) (hv:X[k]? = some v):W.cell? ⟨g,k,none⟩=some v:=(cell_of_row W g k X t _ h).trans hv
theorem Xa.set0 {w:World} {g:Nat} {ad ad2 cl co:ByteArray} {si lo hi:Int} (h:Xa w g ad cl co si lo hi):Xa (w.setCell ⟨g,0,none⟩ (.string ad2)) g ad2 cl co si lo hi:=Qv.set_ h 0 (.string ad2)
end Go.Proofs.YticlbkficolocaaGreatDoor
