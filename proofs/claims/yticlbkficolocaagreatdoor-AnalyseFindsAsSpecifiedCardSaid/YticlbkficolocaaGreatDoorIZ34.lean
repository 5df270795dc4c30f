/- Whether ways to vary are right: variant.of, variant.right. -/
import Derived.Test.YticlbkficolocaaGreatDoorIZ32
import Derived.Test.YticlbkficolocaaGreatDoorIZ31
import Derived.Test.YticlbkficolocaaGreatDoorIZ15
set_option maxHeartbeats 8000000
namespace Go.Proofs.YticlbkficolocaaGreatDoor
open Go.RowKit Go.Sort
set_option linter.unusedVariables false
set_option linter.unusedSimpArgs false
set_option maxRecDepth 100000
def ofV (l:List Qo) (h:ByteArray):Int:=XZ (fun x:Qo=>x.v.header.toList==h.toList) l 0
theorem infVar:(Tryz.prog.info? 98).map (·.size)=some 3:=by kernel_rfl
theorem Qo.val_eq (x:Qo):x.val=.agg #[.string x.v.header,.slice x.A x.v.values.length x.c,.string x.v.dflt]:=rfl
theorem of1_any (x:Qo) (h:ByteArray) (b:Nat) (w:World) (hc:w.cell? ⟨b,0,none⟩=some (.string h)):Calls Tryz.prog 175 #[x.val,.pointer (some ⟨b,0,none⟩)] w (Zx w (.bool (x.v.header.toList==h.toList))):=by
 have hbx:(w.alloc (.cells #[.string x.v.header,.slice x.A x.v.values.length x.c,.string x.v.dflt] 98)).cell? ⟨b,0,none⟩=some (.string h):=Qq (Qk (Below.refl _ _) _) hc
 rw[Qo.val_eq]
 go_enter Tryz.func175,Tryz.ntmps175
 go_wp2_with fail
 go_ret
 exact⟨rfl,Qz⟩
theorem of_any24 (A:Option Addr) (n c:Nat) (L:List Qo) (h:ByteArray) (w:World) (hL:QX w A n L) (hn:n≤1000000):Calls Tryz.prog 128 #[.slice A n c,.string h] w (Zx w (.int .i64 (ofV L h))):=by
 have hb0:∀ W (hb:Below w.heap.size w W) (b:Nat),W.cell? ⟨b,0,none⟩=some (.string h)→Calls Tryz.prog 168 #[.slice A n c,.func (.func 175) #[] #[.pointer (some ⟨b,0,none⟩)]] W (Zx W (.int .i64 (ofV L h))):=fun W hb b hc =>
  indexFuncVA1_any 175 (enters_of Tryz.func175 (by kernel_rfl) rfl) (.pointer (some ⟨b,0,none⟩)) (fun x:Qo=>x.v.header.toList==h.toList) A n c L W (fun x hx W' hb'=>of1_any x h b W' (Qq hb' hc)) (hL.keep hb) (by omega)
 generalize ofV L h=v at *
 have hmf:∀ (fn:Fn) (first cap:Array Value) (w:World),(Instr.makeFunc fn first cap).run Tryz.prog w=.ok (.func fn first cap) w:=fun _ _ _ _=>rfl
 have HC:=Lib.hid hb0
 clear hb0 hL
 go_enter Tryz.func128,Tryz.ntmps128
 go_wp2_with (go_at_call 168;refine (HC.out _ Qz w.heap.size (by exact ((cell_of_row _ _ 0 _ _ _ (World.alloc_heap_new w _)).trans rfl))).mono ?_;rintro e w3 ⟨rfl,hb3⟩)
 go_ret
 exact⟨rfl,Qz⟩
def valuesA (l:List ByteArray):Bool:=(List.range l.length).all (Jt KQ (Xh Xf) l)
theorem okV_at {l:List ByteArray} {k:Nat} {x y:ByteArray} (hx:l[k+1]? = some x) (hy:l[k]? = some y):Jt KQ (Xh Xf) l (k+1)=(Xh Xf x&&KQ y x):=by
 unfold Jt
 rw[hx,Nat.add_sub_cancel,hy]
 simp
theorem okV_zero {l:List ByteArray} {x:ByteArray} (hx:l[0]? = some x):Jt KQ (Xh Xf) l 0=Xh Xf x:=by
 unfold Jt
 rw[hx];simp
theorem Vr {l:List ByteArray} {k:Nat} (hk:k<l.length) (h2:Jt KQ (Xh Xf) l k=false):valuesA l=false:=by
 unfold valuesA
 rw[List.all_eq_false]
 exact⟨k,List.mem_range.2 hk,by rw[h2];decide⟩
def dfltOk (v:Zo):Bool:=v.dflt.toList.isEmpty||Lib.containsS v.values v.dflt
def Vk (x:Qo) (earlier:List Qo):Int :=
 if Xh Uw x.v.header=false then 1 else if 0≤ofV earlier x.v.header then 6 else if dfltOk x.v=false then 1 else if valuesA x.v.values=false then 1 else 0
theorem right_any (x:Qo) (A:Option Addr) (n c:Nat) (E:List Qo) (w:World) (hx:Zr w x) (hf:Xi x.v) (hL:QX w A n E) (hn:n≤1000000):Calls Tryz.prog 114 #[x.val,.slice A n c] w (Zx w (.int .i64 (Vk x E))):=by
 obtain⟨V,hV⟩:∃ V,V=Vk x E:=⟨_,rfl⟩
 rw[←hV]
 have cN:=fun W=>vname_any x.v.header W (by have:=hf.h;omega)
 have cO:=fun (W:World) (hb:Below w.heap.size w W)=>of_any24 A n c E x.v.header W (hL.keep hb) hn
 have cC:=fun (W:World) (hb:Below w.heap.size w W)=>V6 x.A x.v.values.length x.c x.v.values x.v.dflt W (Zr.keep hx hb) (by have:=hf.n;omega)
 have cV:=fun (s:ByteArray) (hs:s∈x.v.values) (W:World)=>vvalue_any s W (by have:=hf.x s hs;omega)
 have hbx:∀ W,Below (w.alloc (.cells #[.string x.v.header,.slice x.A x.v.values.length x.c,.string x.v.dflt] 98)).heap.size (w.alloc (.cells #[.string x.v.header,.slice x.A x.v.values.length x.c,.string x.v.dflt] 98)) W→W.cell? ⟨w.heap.size,0,none⟩=some (.string x.v.header)∧W.cell? ⟨w.heap.size,1,none⟩=some (.slice x.A x.v.values.length x.c)∧W.cell? ⟨w.heap.size,2,none⟩=some (.string x.v.dflt):=fun W hb=>by
  have h:Zl W w.heap.size 98 #[.string x.v.header,.slice x.A x.v.values.length x.c,.string x.v.dflt]:=Zl.keep (World.alloc_heap_new w _) hb
  exact⟨h.cell rfl,h.cell rfl,h.cell rfl⟩
 have HBX:=Lib.hid hbx;have HV:=Lib.hid hV;have HO:=Lib.hid cO;have HVL:=Lib.hid cV
 have HR:=Lib.hid hx
 have hnv:=hf.n
 rw[Qo.val_eq]
 unfold Vk at hV
 clear hbx hx hL cO cV hf
 cases hnm:Xh Uw x.v.header
 ·rw[hnm]at cN
  have HN:=Lib.hid cN
  rw[if_pos hnm]at hV
  subst hV
  clear cN cC hnm
  go_enter Tryz.func114,Tryz.ntmps114
  go_wp2_with (go_at_call 169;refine (HN.out _).mono ?_;rintro e w2 ⟨rfl,hb2⟩)
  go_ret
  exact⟨rfl,Qz⟩
 rw[hnm]at cN
 have HN:=Lib.hid cN
 rw[if_neg (by rw[hnm];decide)]at hV
 clear cN hnm
 by_cases ho:0≤ofV E x.v.header
 ·rw[if_pos ho]at hV
  subst hV
  generalize ofV E x.v.header=ov at *
  clear cC
  go_enter Tryz.func114,Tryz.ntmps114
  go_wp2_with (first | (go_at_call 169;refine (HN.out _).mono ?_;rintro e w2 ⟨rfl,hb2⟩;obtain⟨y0,y1,y2⟩:=HBX.out w2 hb2) | (go_at_call 128;refine (HO.out _ Qz).mono ?_;rintro e w3 ⟨rfl,hb3⟩))
  go_ret
  exact⟨rfl,Qz⟩
 rw[if_neg ho]at hV
 have hov:ofV E x.v.header = -1:=by have:=idxA_ge (fun y:Qo=>y.v.header.toList==x.v.header.toList) E 0;unfold ofV at ho ⊢;omega
 rw[hov]at HO
 clear ho hov
 have HC:=Lib.hid cC
 clear cC
 obtain⟨n1,hn1⟩:∃ n1,n1=x.v.values.length:=⟨_,rfl⟩
 have hn1b:n1≤10:=by rw[hn1];exact hnv
 have HNL:=Lib.hid hn1
 have HV2:=Lib.hid hV
 clear hV hn1
 go_enter Tryz.func114,Tryz.ntmps114
 go_upto_region 5 with (first | (go_at_call 169;refine (HN.out _).mono ?_;rintro e w2 ⟨rfl,hb2⟩;obtain⟨y0,y1,y2⟩:=HBX.out w2 hb2) | (go_at_call 128;refine (HO.out _ Qz).mono ?_;rintro e w3 ⟨rfl,hb3⟩))
 have hbz3:=Qj hb2 hb3
 have hw3:Below w.heap.size w w3:=Qz
 have hs2:=hb2.size
 have hs3:=hb3.size
 clear y0 y1 y2
 obtain⟨z0,z1,z2⟩:=HBX.out w3 hbz3
 go_cut [18] (fun v wx=>v=.bool (!dfltOk x.v)∧Below w3.heap.size w3 wx)
 case first =>
  cases he:x.v.dflt.toList.isEmpty
  ·cases hcc:Lib.containsS x.v.values x.v.dflt
   all_goals
    rw[hcc]at HC
    go_wp2_with (go_at_call 60;refine (HC.out _ Qz).mono ?_;rintro e w4 ⟨rfl,hb4⟩)
    go_meet
    exact⟨by simp[dfltOk,he,hcc],hb4⟩
  ·go_wp2_with fail
   go_meet
   exact⟨by simp[dfltOk,he],Below.refl _ _⟩
 case rest =>
  obtain⟨rfl,hbc⟩:=hcut
  clear z0 z1 z2
  have hwc:Below w.heap.size w wc:=hw3.trans (hbc.mono (by have:=hw3.size;omega))
  have hbzc:=Qj hbz3 hbc
  obtain⟨z0,z1,z2⟩:=HBX.out wc hbzc
  cases hd:dfltOk x.v
  ·have hV:=HV2.out
   rw[if_pos hd]at hV
   subst hV
   clear HV2 HV hd
   go_wp2_with fail
   go_ret
   exact⟨rfl,hwc⟩
  have hV:=HV2.out
  rw[if_neg (by rw[hd];decide)]at hV
  have HV:=Lib.hid hV
  clear hV HV2 hd
  rw[←HNL.out]at z1
  simp only[Bool.not_true]
  go_wp2_with fail
  clear z0 z1 z2
  have hz0:w.heap.size<wc.heap.size:=by have:=hbzc.size;simp at this;omega
  go_loopw [33] (fun iv wr=>∃ k:Nat,k≤n1∧iv=.int .i64 k∧Hid ((List.range k).all (Jt KQ (Xh Xf) x.v.values)=true)∧Below wc.heap.size wc wr) (fun iv _=>n1-(intOf iv).toNat)
  case atStart=>exact⟨0,by omega,rfl,Lib.hid rfl,Below.refl _ _⟩
  case round =>
   obtain⟨k,hk,rfl,HK,hb⟩:=hrel
   have hbr:Below w.heap.size w wr:=hwc.trans (hb.mono (by omega))
   by_cases hlt:k<n1
   ·obtain⟨u,hu⟩:∃ u,x.v.values[k]? = some u:=⟨_,List.getElem?_eq_getElem (by have:=HNL.out;omega)⟩
    obtain⟨z0,z1,z2⟩:=HBX.out wr (Qj hbzc hb)
    rw[←HNL.out]at z1
    obtain⟨pb,po,hTA,hcell⟩:=(Zr.keep HR.out hbr).2 (by have:=HNL.out;omega)
    rw[hTA]at z1 ⊢
    have hc1:wr.cell? ⟨pb,po+k,none⟩=some (.string u):=hcell k _ (by simp[hu])
    have hNu:=HVL.out u (List.mem_of_getElem? hu)
    have hk0:(0:Int)≤(k:Int):=by omega
    have hk1:(k:Int)<(n1:Int):=by omega
    cases hnu:Xh Xf u
    ·obtain rfl:V=1:=by
      rw[HV.out,if_pos (Vr (k:=k) (by have:=HNL.out;omega) (by simp[Jt,hu,hnu]))]
     rw[hnu]at hNu
     have HNU:=Lib.hid hNu
     clear HK hcell hu hNu hTA hnu
     go_wp2_with (go_at_call 170;refine (HNU.out _).mono ?_;rintro e w2 ⟨rfl,hb2⟩)
     go_ret
     exact⟨rfl,Qj hbr hb2⟩
    ·rw[hnu]at hNu
     have HNU:=Lib.hid hNu
     rcases Nat.eq_zero_or_pos k with h0 | hpos
     ·subst h0
      have HK2:Hid ((List.range (0+1)).all (Jt KQ (Xh Xf) x.v.values)=true):=Lib.hid (X9 HK.out (by rw[okV_zero hu,hnu]))
      simp only[Nat.add_zero]at hc1
      clear HK hcell hu hNu hTA hnu
      go_wp2_with (go_at_call 170;refine (HNU.out _).mono ?_;rintro e w2 ⟨rfl,hb2⟩)
      exact⟨⟨1,by omega,rfl,HK2,Qj hb hb2⟩,by simp[intOf];omega⟩
     ·obtain⟨j,rfl⟩:∃ j,k=j+1:=⟨k-1,by omega⟩
      obtain⟨y,hy⟩:∃ y,x.v.values[j]? = some y:=⟨_,List.getElem?_eq_getElem (by have:=HNL.out;omega)⟩
      have hc2:wr.cell? ⟨pb,po+j,none⟩=some (.string y):=hcell j _ (by simp[hy])
      have hk2:(0:Int)≤(j:Int):=by omega
      have hk3:(j:Int)<(n1:Int):=by omega
      have hk4:((j:Int)+1-1)=j:=by omega
      have hle:=Ym u y
      have hat:=okV_at hu hy
      rw[hnu,Bool.true_and]at hat
      cases ht:KQ y u
      ·obtain rfl:V=1:=by
        rw[HV.out,if_pos (Vr (k:=j+1) (by have:=HNL.out;omega) (by rw[hat,ht]))]
       rw[ht]at hle
       clear HK hcell hu hy hat ht hNu hTA hnu
       go_wp2_with (go_at_call 170;refine (HNU.out _).mono ?_;rintro e w2 ⟨rfl,hb2⟩;have hc2':=Qq hb2 hc2;have z1':=Qq hb2 z1)
       go_ret
       exact⟨rfl,Qj hbr hb2⟩
      ·have HK2:Hid ((List.range (j+1+1)).all (Jt KQ (Xh Xf) x.v.values)=true):=Lib.hid (X9 HK.out (by rw[hat,ht]))
       rw[ht]at hle
       clear HK hcell hu hy hat ht hNu hTA hnu
       go_wp2_with (go_at_call 170;refine (HNU.out _).mono ?_;rintro e w2 ⟨rfl,hb2⟩;have hc2':=Qq hb2 hc2;have z1':=Qq hb2 z1)
       exact⟨⟨j+1+1,by omega,by go_num,HK2,Qj hb hb2⟩,by simp[intOf];omega⟩
   ·have hV2:V=0:=by
     have hall:valuesA x.v.values=true:=by
      unfold valuesA
      have:=HK.out
      rw[show k=x.v.values.length by have:=HNL.out;omega]at this
      exact this
     rw[HV.out,if_neg (by rw[hall];decide)]
    subst hV2
    clear HK
    go_wp2_with fail
    go_ret
    exact⟨rfl,hbr⟩
structure SanS (w:World) (g T pb:Nat) (W:World):Prop where
 a:PolAt g T pb false W
 b:Below w.heap.size w W
theorem SanS.keep {w W W':World} {g T pb:Nat} (h:SanS w g T pb W) (hb:Below W.heap.size W W'):SanS w g T pb W':=⟨h.a.keep hb,Qj h.b hb⟩
theorem fewR_fits {r:Vm} (h:fewR r=true):Zw r:=by
 unfold fewR at h
 simp only[Bool.and_eq_true,decide_eq_true_eq,List.all_eq_true]at h
 obtain⟨⟨⟨⟨⟨⟨⟨h1,h2⟩,h3⟩,h4⟩,h5⟩,h6⟩,h7⟩,h8⟩:=h
 refine⟨h1,h2,h3,h4,fun s hs=>by simpa using h7 s hs,h5,fun y hy=>?_,few_fits h6⟩
 have h9:=h8 y hy
 unfold WZ at h9
 simp only[Bool.and_eq_true,decide_eq_true_eq,List.all_eq_true]at h9
 obtain⟨⟨⟨a1,a2⟩,a3⟩,a4⟩:=h9
 exact⟨a1,a2,a3,fun s hs=>by simpa using a4 s hs⟩
theorem rValid22_any (x:Qh) (w:World) (hR:Xx w x) (hf:Zw x.r):Calls Tryz.prog 76 #[x.val] w (Zx w (.bool (X0 x.r))) :=
 rValid22_of x w hR hf (fun W hb=>rNames22_any x.T x.r.tags.length x.ct x.r.tags W (hR.tags.keep hb) (by have:=hf.nt;omega) (fun s hs=>by have:=hf.t s hs;omega))
structure RuS (g:Nat) (X:Array Value) (w0:World) (W:World):Prop where
 x:Zl W g 57 X
 b:Below w0.heap.size w0 W
theorem RuS.keep {g:Nat} {X:Array Value} {w0 W W':World} (h:RuS g X w0 W) (hb:Below W.heap.size W W'):RuS g X w0 W':=⟨h.x.keep hb,Qj h.b hb⟩
theorem chk1_any (x:Qo) (w:World) (hn:x.v.values.length≤1000000):Calls Tryz.prog 113 #[x.val] w (Zx w (.bool (decide (16<x.v.values.length)))):=by
 rw[Qo.val_eq]
 generalize hm:x.v.values.length=m at *
 by_cases h:16<m
 all_goals
  go_enter Tryz.func113,Tryz.ntmps113
  go_wp2_with fail
  go_ret
  exact⟨QY (by simp[h];omega),Qz⟩
theorem QX.take {w:World} {A:Option Addr} {n k:Nat} {L:List Qo} (h:QX w A n L) (hk:k≤n):QX w A k (L.take k):=by
 have hl:=h.len
 refine⟨by rw[List.length_take];omega,?_,fun x hx=>h.each x (List.mem_of_mem_take hx)⟩
 refine⟨by rw[flat_len Qo.cells _ (fun a _=>a.cells_len),List.length_take];rw[Nat.min_eq_left (by omega)],fun h0=>?_⟩
 obtain⟨b,o,e,hc⟩:=h.rows.2 (by omega)
 refine⟨b,o,e,fun j u hu=>hc j u ?_⟩
 have hs:L.flatMap Qo.cells=(L.take k).flatMap Qo.cells++(L.drop k).flatMap Qo.cells:=by rw[←List.flatMap_append,List.take_append_drop]
 rw[hs,List.getElem?_append_left (List.getElem?_eq_some_iff.1 hu).1]
 exact hu
def U9:List Qo→List Qo→Int
 | [],_=>0
 | x :: r,e=>if Vk x e=0 then U9 r (e++[x]) else Vk x e
def XU (L:List Qo):Int:=if 8<L.length then 2 else if (L.any fun x=>decide (16<x.v.values.length))=true then 2 else U9 L []
structure VuS (g:Nat) (X:Array Value) (w0:World) (W:World):Prop where
 x:Zl W g 98 X
 b:Below w0.heap.size w0 W
theorem VuS.keep {g:Nat} {X:Array Value} {w0 W W':World} (h:VuS g X w0 W) (hb:Below W.heap.size W W'):VuS g X w0 W':=⟨h.x.keep hb,Qj h.b hb⟩
theorem Zl.vary {W:World} {g:Nat} {X:Array Value} (h:Zl W g 98 X) (hs:X.size=3):(loadVar 98 ⟨g,0,none⟩).run Tryz.prog W=.ok (.agg X) W :=
 run_loadVar_row (P:=Tryz.prog) W g _ 98 X _ _ h Tryz.underlying98 rfl (by rw[hs];exact infVar)
theorem vcheck_any (A:Option Addr) (n c:Nat) (L:List Qo) (w:World) (hL:QX w A n L) (hf:∀ x∈L,Xi x.v) (hn:n≤10) (hc:n≤c):Calls Tryz.prog 57 #[.slice A n c] w (Zx w (.int .i64 (XU L))):=by
 have hl:L.length=n:=hL.len
 have cA:=fun (W:World) (hb:Below w.heap.size w W)=>containsFuncVA0_any 113 (enters_of Tryz.func113 (by kernel_rfl) rfl) (fun x:Qo=>decide (16<x.v.values.length)) A n c L W (fun x hx W' hb'=>chk1_any x W' (by have:=(hf x hx).n;omega)) (hL.keep hb) (by omega)
 have cR:=fun (x:Qo) (k:Nat) (hx:L[k]? = some x) (W:World) (hb:Below w.heap.size w W)=>right_any x A k c (L.take k) W ((hL.each x (List.mem_of_getElem? hx)).keep hb) (hf x (List.mem_of_getElem? hx)) ((hL.keep hb).take (by have:=(List.getElem?_eq_some_iff.1 hx).1;omega)) (by have:=(List.getElem?_eq_some_iff.1 hx).1;omega)
 obtain⟨V,hV⟩:∃ V,V=XU L:=⟨_,rfl⟩
 rw[←hV]
 unfold XU at hV
 have HL:=Lib.hid hL;have HA:=Lib.hid cA;have HRI:=Lib.hid cR;have HLN:=Lib.hid hl
 clear hL cA cR hf
 by_cases h8:8<n
 ·rw[if_pos (by omega)]at hV
  subst hV
  have d8:decide ((8:Int)<(n:Int))=true:=decide_eq_true (by omega)
  clear hl
  go_enter Tryz.func57,Tryz.ntmps57
  go_wp2_with fail
  go_ret
  exact⟨rfl,Qz⟩
 rw[if_neg (by omega)]at hV
 have d8:decide ((8:Int)<(n:Int))=false:=decide_eq_false (by omega)
 cases h16:(L.any fun x=>decide (16<x.v.values.length))
 rotate_left
 ·rw[if_pos h16]at hV
  subst hV
  rw[h16]at HA
  clear hl h16
  go_enter Tryz.func57,Tryz.ntmps57
  go_wp2_with (go_at_call 112;refine (HA.out _ (Below.refl _ _)).mono ?_;rintro e w2 ⟨rfl,hb2⟩)
  go_ret
  exact⟨rfl,hb2⟩
 rw[if_neg (by rw[h16];decide)]at hV
 rw[h16]at HA
 have HV:=Lib.hid hV
 clear hl h16 hV
 go_enter Tryz.func57,Tryz.ntmps57
 go_wp2_with (go_at_call 112;refine (HA.out _ (Below.refl _ _)).mono ?_;rintro e w2 ⟨rfl,hb2⟩)
 go_loopw [15] (fun iv wr=>∃ k:Nat,k≤n∧iv=.int .i64 k∧Hid (V=U9 (L.drop k) (L.take k))∧Below w.heap.size w wr) (fun iv _=>n-(intOf iv).toNat)
 case atStart=>exact⟨0,by omega,rfl,Lib.hid (by rw[HV.out];rfl),hb2⟩
 case round =>
  obtain⟨k,hk,rfl,HI,hbr⟩:=hrel
  clear hb2
  by_cases hlt:k<n
  ·obtain⟨x,hx⟩:∃ x,L[k]? = some x:=⟨_,List.getElem?_eq_getElem (by have:=HLN.out;omega)⟩
   have hright:=HRI.out x k hx
   obtain⟨_,b,o,rfl,hcell⟩:=(HL.out.keep hbr).at_ hx
   have hld:=Jf wr b (o+k*3) x hcell
   have hd:L.drop k=x :: L.drop (k+1):=by
    obtain⟨hl2,rfl⟩:=List.getElem?_eq_some_iff.1 hx
    exact List.drop_eq_getElem_cons hl2
   have htk:L.take k++[x]=L.take (k+1):=by rw[List.take_add_one,hx];rfl
   have hVA:=HI.out
   rw[hd,U9,htk]at hVA
   have hone:x.cells.toArray.all (·.oneCell')=true:=by rw[List.all_toArray];rfl
   have hsz2:x.cells.toArray.size=3:=by rw[List.size_toArray,x.cells_len]
   have hi3:(Tryz.prog.info? 98).map (·.size)=some x.cells.toArray.size:=by rw[hsz2];exact infVar
   have hsz:x.cells.toArray.size=(#[.string ⟨#[]⟩,.slice none 0 0,.string ⟨#[]⟩]:Array Value).size:=by rw[hsz2];rfl
   unfold Qo.val at hld hright
   generalize x.cells.toArray=X at *
   generalize Vk x (L.take k)=rv at *
   have HLD:=Lib.hid hld;have HRX:=Lib.hid hright;have HON:=Lib.hid hone;have HXS:=Lib.hid hsz2;have HI3:=Lib.hid hi3;have HSZ:=Lib.hid hsz;have HVA:=Lib.hid hVA
   clear hld hright hone hsz2 hi3 hsz hcell hx hd htk hVA HI
   have hk0:(0:Int)≤(k:Int):=by omega
   have hk1:(k:Int)<(n:Int):=by omega
   have hk2:(k:Int)≤(c:Int):=by omega
   go_upto_region 6 with (first | (refine Qw rfl 98 _ rfl ⟨b,o+k*3,none⟩ (.agg X) rfl HLD.out ?_) | (refine wpList_store_row rfl 98 _ _ rfl wr.heap.size X rfl rfl _ #[.string ⟨#[]⟩,.slice none 0 0,.string ⟨#[]⟩] ((heap_alloc_new wr _).trans rfl) HI3.out HSZ.out.symm HON.out ?_;generalize hw6:World.setRow _ _ _=w6;have B6:Zl w6 wr.heap.size 98 X:=(by rw[←hw6];exact setRow_heap _ _ _ _ _ _ (heap_alloc_new wr _));have hb6:Below wr.heap.size wr w6:=(by rw[←hw6];exact below_setRow ((Below.refl _ _).alloc (Nat.le_refl _) _) (Nat.le_refl _) _);clear hw6))
   have HB:=Lib.hid (VuS.mk (w0:=wr) B6 hb6)
   clear B6 hb6
   refine Xo 5 (by kernel_rfl) (by kernel_rfl) (by kernel_rfl) (fun i=>[.agg X,.slice (some ⟨b,o,none⟩) n c,.int .i64 k,.slice (some ⟨b,o,none⟩) k c,.int .i64 rv].getD i undef) (VuS wr.heap.size X wr) (HB.out.keep (Below.drew (Below.refl _ _))) (fun _ _ h hb=>h.keep hb) ?_ ?_
   ·simp only[QU,Zj,Act.put]
    refine⟨fun W hS=>?_,fun W hS=>?_,fun W hS=>?_,fun W hS=>?_,fun W hS=>?_,trivial⟩
    all_goals
     go_wp2_with (first | (refine Qw rfl 98 _ rfl ⟨wr.heap.size,0,none⟩ (.agg X) rfl (hS.x.vary HXS.out) ?_) | (go_at_call 114;refine (HRX.out _ (Qj hbr hS.b)).mono ?_;rintro e w2 ⟨rfl,hb2⟩))
     exact⟨rfl,rfl,Qz⟩
   intro w9 hS9
   have hb9:=Qj hbr hS9.b
   by_cases h0:rv=0
   ·subst h0
    have hV2:=HVA.out
    rw[if_pos rfl]at hV2
    have HV2:=Lib.hid hV2
    clear hV2 HVA
    simp only[QU,Zj,Act.put]
    go_wp2
    exact⟨⟨k+1,by omega,by go_num,HV2,hb9⟩,by simp[intOf];omega⟩
   ·have hV2:=HVA.out
    rw[if_neg h0]at hV2
    subst hV2
    have e1:(V==0)=false:=beq_eq_false_iff_ne.2 h0
    have e2:(V != 0)=true:=bne_iff_ne.2 h0
    clear HVA
    simp only[QU,Zj,Act.put]
    go_wp2
    go_ret
    exact⟨rfl,hb9⟩
  ·obtain rfl:V=0:=by
    rw[HI.out,List.drop_eq_nil_of_le (by have:=HLN.out;omega)];rfl
   clear HI
   go_wp2_with fail
   go_ret
   exact⟨rfl,hbr⟩
def Xn (x:Qh):Bool:=X0 x.r&&decide (XU x.L=0)
def Xp (L:List Qh):Bool:=decide (L.length≤64)&&L.all Xn
theorem fits_at {x:Qh} {w:World} (hR:Xx w x) (hf:Zw x.r):∀ y∈x.L,Xi y.v:=fun y hy=>hf.v y.v (by rw[←hR.same];exact List.mem_map.2 ⟨y,hy,rfl⟩)
theorem isValid1_any (x:Qh) (w:World) (hR:Xx w x) (hf:Zw x.r) (hc:Jk x) (hE:Env w):Calls Tryz.prog 55 #[x.val] w (Zx w (.bool (!Xn x))):=by
 have cV:=fun (W:World) (hb:Below w.heap.size w W)=>polValid_any x W (hR.keep hb) hf (hE.keep hb)
 have cK:=fun (W:World) (hb:Below w.heap.size w W)=>vcheck_any x.V x.r.vary.length x.cv x.L W ((hR.keep hb).varys) (fits_at hR hf) hf.nv hc.w
 unfold Xn
 generalize X0 x.r=b1 at *
 generalize XU x.L=e1 at *
 have hc7:x.cells.toArray[7]? = some (.slice x.V x.r.vary.length x.cv):=rfl
 have hsz2:x.cells.toArray.size=18:=by rw[List.size_toArray,x.cells_len]
 unfold Qh.val at cV ⊢
 generalize x.cells.toArray=X at *
 have HV:=Lib.hid cV;have HK:=Lib.hid cK;have HC7:=Lib.hid hc7;have HXS:=Lib.hid hsz2
 clear cV cK hc7 hsz2 hR hf hc hE
 cases b1
 ·rw[Bool.false_and]
  go_enter Tryz.func55,Tryz.ntmps55
  go_upto_region 1 with fail
  generalize hw0:World.alloc _ _=w0
  have hB:Zl w0 w.heap.size 57 X:=by rw[←hw0];exact heap_alloc_new w _
  have hbw:Below w.heap.size w w0:=by rw[←hw0];exact Qk (Below.refl _ _) _
  clear hw0
  go_wp2_with (first | (refine Qw rfl 57 _ rfl ⟨w.heap.size,0,none⟩ (.agg X) rfl (hB.rule HXS.out) ?_) | (go_at_call 56;refine (HV.out _ hbw).mono ?_;(rintro e w' ⟨rfl,hb'⟩;replace hB:=hB.keep hb';replace hbw:=Qj hbw hb';clear hb';have y7:=hB.cell HC7.out)))
  go_ret
  exact⟨rfl,hbw⟩
 ·rw[Bool.true_and]
  have he1:(e1 != 0) = !decide (e1=0):=by
   by_cases h:e1=0
   ·subst h;rfl
   ·rw[decide_eq_false h];exact bne_iff_ne.2 h
  go_enter Tryz.func55,Tryz.ntmps55
  go_upto_region 1 with fail
  generalize hw0:World.alloc _ _=w0
  have hB:Zl w0 w.heap.size 57 X:=by rw[←hw0];exact heap_alloc_new w _
  have hbw:Below w.heap.size w w0:=by rw[←hw0];exact Qk (Below.refl _ _) _
  clear hw0
  go_wp2_with (first | (refine Qw rfl 57 _ rfl ⟨w.heap.size,0,none⟩ (.agg X) rfl (hB.rule HXS.out) ?_) | (go_at_call 56;refine (HV.out _ hbw).mono ?_;(rintro e w' ⟨rfl,hb'⟩;replace hB:=hB.keep hb';replace hbw:=Qj hbw hb';clear hb';have y7:=hB.cell HC7.out)) | (go_at_call 57;refine (HK.out _ hbw).mono ?_;(rintro e w' ⟨rfl,hb'⟩;replace hB:=hB.keep hb';replace hbw:=Qj hbw hb';clear hb';have y7:=hB.cell HC7.out)))
  go_ret
  exact⟨rfl,hbw⟩
theorem WQ (A:Option Addr) (n c:Nat) (L:List Qh) (w:World) (hL:Qs w A n L) (hf:∀ x∈L,Zw x.r) (hc:∀ x∈L,Jk x) (hn:n≤1000000) (hE:Env w):Calls Tryz.prog 27 #[.slice A n c] w (Zx w (.bool (Xp L))):=by
 have hl:L.length=n:=hL.len
 have cA:=fun (W:World) (hb:Below w.heap.size w W)=>containsFuncRU0_any 55 (enters_of Tryz.func55 (by kernel_rfl) rfl) (fun x:Qh=>!Xn x) A n c L W (fun x hx W' hb'=>isValid1_any x W' ((hL.each x hx).keep (Qj hb hb')) (hf x hx) (hc x hx) (hE.keep (Qj hb hb'))) (hL.keep hb) (by omega)
 have hany:(L.any fun x=>!Xn x) = !(L.all Xn):=by rw[List.all_eq_not_any_not];simp
 rw[hany]at cA
 unfold Xp
 generalize L.all Xn=b at *
 have HA:=Lib.hid cA
 clear cA hany hL hf hc hE
 by_cases h64:n≤64
 ·have d:=decide_eq_true (p:=(n:Int)≤64) (by omega)
  rw[decide_eq_true (by omega),Bool.true_and]
  clear hl
  go_enter Tryz.func27,Tryz.ntmps27
  go_wp2_with (go_at_call 54;refine (HA.out _ (Below.refl _ _)).mono ?_;rintro e w2 ⟨rfl,hb2⟩)
  go_ret
  exact⟨QY (by simp),hb2⟩
 ·have d:=decide_eq_false (p:=(n:Int)≤64) (by omega)
  rw[decide_eq_false (by omega),Bool.false_and]
  clear hl
  go_enter Tryz.func27,Tryz.ntmps27
  go_wp2_with fail
  go_ret
  exact⟨rfl,Qz⟩
def ruleP (x:Qh):RuleP:=(x.r.pat,x.r.tags)
def Z5 (L:List Qh) (ts:List ByteArray) (k:Nat):List ByteArray:=((L.take k).filter fun q=>subB q.r.tags ts).map (·.r.pat)
theorem befK_eq (L:List Qh) (ts:List ByteArray) (i:Nat):beforeR (L.map ruleP) i ts=Z5 L ts i:=by
 unfold beforeR Z5
 rw[←List.map_take,List.filter_map,List.map_map]
 rfl
theorem befK_succ {L:List Qh} {ts:List ByteArray} {k:Nat} {x:Qh} (h:L[k]? = some x):Z5 L ts (k+1)=if subB x.r.tags ts=true then Z5 L ts k++[x.r.pat] else Z5 L ts k:=by
 unfold Z5
 rw[List.take_add_one,h,List.filter_append,List.map_append]
 by_cases hs:subB x.r.tags ts=true
 ·rw[if_pos hs];simp[hs]
 ·rw[if_neg hs];simp[hs]
theorem Wu (L:List Qh) (ts:List ByteArray) (k:Nat):(Z5 L ts k).length≤k:=by
 unfold Z5
 rw[List.length_map]
 exact Nat.le_trans (List.length_filter_le _ _) (by rw[List.length_take];omega)
theorem sub_any (a b:List ByteArray):(a.any fun t=>!Lib.containsS b t) = !subB a b:=by
 unfold subB
 rw[List.all_eq_not_any_not];simp
structure LiS (g:Nat) (A:Option Addr) (n c i:Nat) (W:World):Prop where
 l:Zl W g 23 #[.slice A n c]
 i:Zl W (g+1) 3 #[.int .i64 i]
theorem LiS.keep {g:Nat} {A:Option Addr} {n c i:Nat} {W W':World} (h:LiS g A n c i W) (hb:Below W.heap.size W W'):LiS g A n c i W':=⟨h.l.keep hb,h.i.keep hb⟩
theorem LiS.low {g B:Nat} {A:Option Addr} {n c i:Nat} {W W':World} (h:LiS g A n c i W) (hb:Below B W W') (hB:g+1<B):LiS g A n c i W':=⟨(hb.block g (by omega)).trans h.l,(hb.block (g+1) hB).trans h.i⟩
theorem bef1_any (t:ByteArray) (g:Nat) (A:Option Addr) (n c i:Nat) (L:List Qh) (x:Qh) (w:World) (hS:LiS g A n c i w) (hL:Qs w A n L) (hx:L[i]? = some x) (hn:n≤1000) (ht:x.r.tags.length≤1000) :
  Calls Tryz.prog 59 #[.string t,.pointer (some ⟨g,0,none⟩),.pointer (some ⟨g+1,0,none⟩)] w (Zx w (.bool (!Lib.containsS x.r.tags t))):=by
 obtain⟨hr,b,o,rfl,hcell⟩:=hL.at_ hx
 have hlt:i<n:=by have:=(List.getElem?_eq_some_iff.1 hx).1;have:=hL.len;omega
 have cK:=fun W (hb:Below w.heap.size w W)=>V6 x.T x.r.tags.length x.ct x.r.tags t W (hr.tags.keep hb) (by omega)
 have c0:w.cell? ⟨g,0,none⟩=some (.slice (some ⟨b,o,none⟩) n c):=hS.l.cell rfl
 have c1:w.cell? ⟨g+1,0,none⟩=some (.int .i64 i):=hS.i.cell rfl
 have c2:w.cell? ⟨b,o+i*18+2,none⟩=some (.slice x.T x.r.tags.length x.ct):=hcell 2 _ rfl
 generalize Lib.containsS x.r.tags t=v at *
 have HK:=Lib.hid cK
 clear cK hcell hr hS hL hx
 have hi0:(0:Int)≤(i:Int):=by omega
 have hi1:(i:Int)<(n:Int):=by omega
 go_enter Tryz.func59,Tryz.ntmps59
 go_wp2_with (go_at_call 60;refine (HK.out _ (Below.refl _ _)).mono ?_;rintro e w2 ⟨rfl,hb2⟩)
 go_ret
 exact⟨rfl,hb2⟩
theorem pairs_all {a b:List Zo} {S:List (List Hdr)} (h:∀ (i k:Nat) (g q:List Hdr),i<k→S[i]? = some g→S[k]? = some q→ZY a g q=true→ZY b g q=true):∀ g∈S,∀ q∈S,ZY a g q=true→ZY b g q=true:=by
 intro g hg q hq hs
 obtain⟨i,hi⟩:=List.mem_iff_getElem?.1 hg
 obtain⟨k,hk⟩:=List.mem_iff_getElem?.1 hq
 rcases Nat.lt_trichotomy i k with h1 | h1 | h1
 ·exact h i k g q h1 hi hk hs
 ·subst h1
  rw[hi]at hk
  injection hk with hk
  subst hk
  exact same_refl b g
 ·rw[same_comm]at hs ⊢
  exact h k i q g h1 hk hi hs
theorem check_right:∀ (l e:List Qo),U9 l e=0→∀ k x,l[k]? = some x→Vk x (e++l.take k)=0
 | [],_,_,k,x,hx=>by simp at hx
 | y :: l,e,h,k,x,hx=>by
  rw[U9]at h
  by_cases h0:Vk y e=0
  ·rw[if_pos h0]at h
   cases k with
   | zero =>
    simp only[List.getElem?_cons_zero,Option.some.injEq]at hx
    subst hx
    simpa using h0
   | succ k =>
    have:=check_right l (e++[y]) h k x (by simpa using hx)
    simpa using this
  ·rw[if_neg h0]at h
   exact absurd h h0
theorem right_name {x:Qo} {e:List Qo} (h:Vk x e=0):Xh Uw x.v.header=true∧ofV e x.v.header<0:=by
 unfold Vk at h
 by_cases h1:Xh Uw x.v.header=false
 ·rw[if_pos h1]at h;exact absurd h (by decide)
 ·rw[if_neg h1]at h
  refine⟨by simpa using h1,?_⟩
  by_cases h2:0≤ofV e x.v.header
  ·rw[if_pos h2]at h;exact absurd h (by decide)
  ·omega
theorem check_flat {L:List Qo} (h:XU L=0):U9 L []=0:=by
 unfold XU at h
 split at h
 ·exact absurd h (by decide)
 ·split at h
  ·exact absurd h (by decide)
  ·exact h
theorem check_once {L:List Qo} (h:XU L=0) {i k:Nat} {x y:Qo} (hi:L[i]? = some x) (hk:L[k]? = some y) (he:x.v.header=y.v.header):i=k:=by
 have key:∀ (i k:Nat) (x y:Qo),i<k→L[i]? = some x→L[k]? = some y→x.v.header=y.v.header→False:=by
  intro i k x y hik hi hk he
  have h1:=(right_name (check_right L [] (check_flat h) k y hk)).2
  rw[List.nil_append]at h1
  have hx:x∈L.take k:=by
   refine List.mem_iff_getElem?.2 ⟨i,?_⟩
   rw[List.getElem?_take,if_pos hik,hi]
  have h2:decide (0≤ofV (L.take k) y.v.header)=true:=by
   unfold ofV
   rw[idxA_any,List.any_eq_true]
   exact⟨x,hx,by simp[he]⟩
  rw[decide_eq_true_eq]at h2
  omega
 rcases Nat.lt_trichotomy i k with h1 | h1 | h1
 ·exact (key i k x y h1 hi hk he).elim
 ·exact h1
 ·exact (key k i y x h1 hk hi he.symm).elim
theorem name_amp {s:ByteArray} (h:Xh Uw s=true):38 ∉ s.data.toList:=by
 intro hm
 unfold Xh at h
 rw[Bool.and_eq_true]at h
 have h2:=List.all_eq_true.1 h.1 38 hm
 revert h2
 decide
theorem check_hdr {L:List Qo} (h:XU L=0):HdrOk (L.map (·.v)):=by
 intro v hv
 obtain⟨x,hx,rfl⟩:=List.mem_map.1 hv
 obtain⟨k,hk⟩:=List.mem_iff_getElem?.1 hx
 exact name_amp (right_name (check_right L [] (check_flat h) k x hk)).1
end Go.Proofs.YticlbkficolocaaGreatDoor
