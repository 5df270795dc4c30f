/- The condition package's reader: what next, number and list do. -/
import Derived.Test.YticlbkficolocaaGreatDoorIZ26
set_option maxHeartbeats 4000000
namespace Go.Proofs.YticlbkficolocaaGreatDoor
open Go.RowKit Go.Sort
set_option linter.unusedVariables false
set_option linter.unusedSimpArgs false
set_option maxRecDepth 100000
structure But (g:Nat) (w w':World):Prop where
 os:w'.os=w.os
 tape:w'.tape=w.tape
 output:w'.output=w.output
 size:w.heap.size≤w'.heap.size
 block:∀ k,k<w.heap.size→k≠g→w'.heap[k]? = w.heap[k]?
section
variable {g:Nat} {a w w' w'':World}
theorem But.refl (g:Nat) (w:World):But g w w:=⟨rfl,rfl,rfl,Nat.le_refl _,fun _ _ _=>rfl⟩
theorem But.trans (h:But g w w') (k:But g w' w''):But g w w'' :=
 ⟨k.os.trans h.os,k.tape.trans h.tape,k.output.trans h.output,Nat.le_trans h.size k.size,fun i hi hn=>(k.block i (Nat.lt_of_lt_of_le hi h.size) hn).trans (h.block i hi hn)⟩
theorem But.of_below (h:Below w.heap.size w w'):But g w w':=⟨h.os,h.tape,h.output,h.size,fun k hk _=>h.block k hk⟩
theorem But.set (w:World) (g o:Nat) (v:Value):But g w (w.setCell ⟨g,o,none⟩ v):=⟨rfl,rfl,rfl,by simp[World.setCell],fun k _ hn=>Below.heap_setCell _ _ _ _ hn⟩
theorem But.step (h:But g a w) (o:Nat) (v:Value):But g a (w.setCell ⟨g,o,none⟩ v):=h.trans (But.set w g o v)
theorem But.drew (h:But g a w):But g a w.drew:=⟨h.os,h.tape,h.output,h.size,h.block⟩
theorem But.below (h:But g w w') {B:Nat} (hg:B≤g) (hB:B≤w.heap.size):Below B w w':=⟨h.os,h.tape,h.output,h.size,fun k hk=>h.block k (by omega) (by omega)⟩
theorem But.blk (h:But g w w') {b:Nat} {t:TypeId} {cs:Array Value} {fr:Nat × Nat} (hx:Qv w b t cs fr) (hn:b≠g):Qv w' b t cs fr:=(h.block b (Qv.lt hx) hn).trans hx
theorem But.cell (h:But g w w') {p:Addr} {v:Value} (hc:w.cell? p=some v) (hn:p.block≠g):w'.cell? p=some v:=(World.cell?_of_block (h.block _ (cell_lt hc) hn)).trans hc
theorem But.reads (h:But g w w') {A:Option Addr} {n:Nat} {vs:List Value} (hR:Reads w 1 A n vs) (hn:0<n→∀ a,A=some a→a.block≠g):Reads w' 1 A n vs:=by
 refine⟨hR.1,fun h0=>?_⟩
 obtain⟨b,o,rfl,hc⟩:=hR.2 h0
 exact⟨b,o,rfl,fun j u hu=>h.cell (hc j u hu) (hn h0 ⟨b,o,none⟩ rfl)⟩
end
theorem Env.but {g:Nat} {w w':World} (h:Env w) (hb:But g w w') (hg:2<g):Env w':=by
 obtain⟨m,hm⟩:=h
 exact⟨m,hb.cell hm (by simp;omega)⟩
theorem strSplit_any (s:ByteArray) (c:UInt8) (w:World) (hs:s.size≤1000000) (hE:Env w):Calls Tryz.prog 88 #[.string s,.string ⟨#[c]⟩] w fun e w'=>e=.returned (.slice (some ⟨w.heap.size,0,none⟩) (splitB c s).length (splitB c s).length)∧Reads w' 1 (some ⟨w.heap.size,0,none⟩) (splitB c s).length ((splitB c s).map .string)∧Below w.heap.size w w':=by
 obtain⟨m,hm⟩:=hE
 refine (Tryz.strings_Split s ⟨#[c]⟩ m w (by omega) hm (show 1≤1 from Nat.le_refl _)).mono ?_
 rintro e w' ⟨rfl,rfl⟩
 have he:=split_eq c _ s rfl
 have hl:=count_split c s
 rw[he,hl]
 refine⟨rfl,⟨by simp,fun _=>⟨w.heap.size,0,rfl,fun j u hu=>?_⟩⟩,Qk (Below.refl _ _) _⟩
 have hb:Qv (w.alloc (.cells ((splitB c s).map Value.string).toArray 9)) w.heap.size 9 ((splitB c s).map Value.string).toArray (0,0):=World.alloc_heap_new _ _
 rw[hb.cell]
 simpa using hu
theorem indexFuncS0_any (g:Nat) (eg:∀ args w,(callFunc g args).run Tryz.prog w=.ok (.enter g args) w) (p:ByteArray→Bool) (A:Option Addr) (n c:Nat) (xs:List ByteArray) (w:World)
  (hp:∀ x∈xs,∀ W,Below w.heap.size w W→Calls Tryz.prog g #[.string x] W (Zx W (.bool (p x)))) (hA:Reads w 1 A n (xs.map .string)) (hn:n≤1000000000) :
  Calls Tryz.prog 49 #[.slice A n c,.func (.func g) #[] #[]] w (Zx w (.int .i64 (idxFrom p xs 0))):=by
 have hl:n≤xs.length∧xs.length≤n:=by have:=hA.1;simp at this;omega
 have HP:=Lib.hid hp;have HA:=Lib.hid hA
 clear hp hA
 go_enter Tryz.func49,Tryz.ntmps49
 go_wp2
 go_loopw [8] (fun i wr=>∃ k:Nat,k≤n∧i=.int .i64 k∧Hid (idxFrom p xs 0=idxFrom p (xs.drop k) k)∧Below w.heap.size w wr) (fun i _=>n-(intOf i).toNat)
 case atStart=>exact⟨0,by omega,rfl,Lib.hid rfl,Below.refl _ _⟩
 case round =>
  obtain⟨k,hk,rfl,HI,hb⟩:=hrel
  by_cases hlt:k<n
  ·obtain⟨pb,po,u,rfl,hu,hcell⟩:=(HA.out.keep hb).at_ hlt
   obtain⟨x,hx,rfl⟩:=JJ hu
   clear hu
   have hc:=HP.out x (List.mem_of_getElem? hx) wr hb
   have hd:xs.drop k=x :: xs.drop (k+1):=by
    obtain⟨hl2,rfl⟩:=List.getElem?_eq_some_iff.1 hx
    exact List.drop_eq_getElem_cons hl2
   have HI2:=HI.out
   rw[hd,idxFrom]at HI2
   clear hd hx HI
   have HI:=Lib.hid HI2
   clear HI2
   cases hpx:p x
   all_goals
    rw[hpx]at hc HI
    have HC:=Lib.hid hc
    clear hc hpx
    go_wp2_with (go_at_fn g;refine (HC.out).mono ?_;rintro e w2 ⟨rfl,hb2⟩)
   ·refine⟨⟨k+1,by omega,by go_num,Lib.hid (by have:=HI.out;simpa using this),Qj hb hb2⟩,by simp[intOf];omega⟩
   ·go_ret
    have:=HI.out
    exact⟨Kq (by rw[this];simp),Qj hb hb2⟩
  ·have he:idxFrom p xs 0 = -1:=by rw[HI.out,List.drop_eq_nil_of_le (by omega)];rfl
   have HE:=Lib.hid he
   clear he HI
   go_wp2
   go_ret
   exact⟨Kq HE.out.symm,hb⟩
theorem containsFuncS0_any (g:Nat) (eg:∀ args w,(callFunc g args).run Tryz.prog w=.ok (.enter g args) w) (p:ByteArray→Bool) (A:Option Addr) (n c:Nat) (xs:List ByteArray) (w:World)
  (hp:∀ x∈xs,∀ W,Below w.heap.size w W→Calls Tryz.prog g #[.string x] W (Zx W (.bool (p x)))) (hA:Reads w 1 A n (xs.map .string)) (hn:n≤1000000000) :
  Calls Tryz.prog 24 #[.slice A n c,.func (.func g) #[] #[]] w (Zx w (.bool (xs.any p))):=by
 rw[←UV p xs 0]
 have H:=Lib.hid (indexFuncS0_any g eg p A n c xs w hp hA hn)
 clear hp hA
 generalize idxFrom p xs 0=r at H ⊢
 go_enter Tryz.func24,Tryz.ntmps24
 go_wp2_with (go_at_call 49;refine H.out.mono ?_;rintro e w2 ⟨rfl,hb2⟩)
 go_ret
 exact⟨rfl,hb2⟩
theorem indexFuncS2_any (g:Nat) (eg:∀ args w,(callFunc g args).run Tryz.prog w=.ok (.enter g args) w) (cv cv2:Value) (p:ByteArray→Bool) (A:Option Addr) (n c:Nat) (xs:List ByteArray) (w:World)
  (hp:∀ x∈xs,∀ W,Below w.heap.size w W→Calls Tryz.prog g #[.string x,cv,cv2] W (Zx W (.bool (p x)))) (hA:Reads w 1 A n (xs.map .string)) (hn:n≤1000000000) :
  Calls Tryz.prog 49 #[.slice A n c,.func (.func g) #[] #[cv,cv2]] w (Zx w (.int .i64 (idxFrom p xs 0))):=by
 have hl:n≤xs.length∧xs.length≤n:=by have:=hA.1;simp at this;omega
 have HP:=Lib.hid hp;have HA:=Lib.hid hA
 clear hp hA
 go_enter Tryz.func49,Tryz.ntmps49
 go_wp2
 go_loopw [8] (fun i wr=>∃ k:Nat,k≤n∧i=.int .i64 k∧Hid (idxFrom p xs 0=idxFrom p (xs.drop k) k)∧Below w.heap.size w wr) (fun i _=>n-(intOf i).toNat)
 case atStart=>exact⟨0,by omega,rfl,Lib.hid rfl,Below.refl _ _⟩
 case round =>
  obtain⟨k,hk,rfl,HI,hb⟩:=hrel
  by_cases hlt:k<n
  ·obtain⟨pb,po,u,rfl,hu,hcell⟩:=(HA.out.keep hb).at_ hlt
   obtain⟨x,hx,rfl⟩:=JJ hu
   clear hu
   have hc:=HP.out x (List.mem_of_getElem? hx) wr hb
   have hd:xs.drop k=x :: xs.drop (k+1):=by
    obtain⟨hl2,rfl⟩:=List.getElem?_eq_some_iff.1 hx
    exact List.drop_eq_getElem_cons hl2
   have HI2:=HI.out
   rw[hd,idxFrom]at HI2
   clear hd hx HI
   have HI:=Lib.hid HI2
   clear HI2
   cases hpx:p x
   all_goals
    rw[hpx]at hc HI
    have HC:=Lib.hid hc
    clear hc hpx
    go_wp2_with (go_at_fn g;refine (HC.out).mono ?_;rintro e w2 ⟨rfl,hb2⟩)
   ·refine⟨⟨k+1,by omega,by go_num,Lib.hid (by have:=HI.out;simpa using this),Qj hb hb2⟩,by simp[intOf];omega⟩
   ·go_ret
    have:=HI.out
    exact⟨Kq (by rw[this];simp),Qj hb hb2⟩
  ·have he:idxFrom p xs 0 = -1:=by rw[HI.out,List.drop_eq_nil_of_le (by omega)];rfl
   have HE:=Lib.hid he
   clear he HI
   go_wp2
   go_ret
   exact⟨Kq HE.out.symm,hb⟩
theorem containsFuncS2_any (g:Nat) (eg:∀ args w,(callFunc g args).run Tryz.prog w=.ok (.enter g args) w) (cv cv2:Value) (p:ByteArray→Bool) (A:Option Addr) (n c:Nat) (xs:List ByteArray) (w:World)
  (hp:∀ x∈xs,∀ W,Below w.heap.size w W→Calls Tryz.prog g #[.string x,cv,cv2] W (Zx W (.bool (p x)))) (hA:Reads w 1 A n (xs.map .string)) (hn:n≤1000000000) :
  Calls Tryz.prog 24 #[.slice A n c,.func (.func g) #[] #[cv,cv2]] w (Zx w (.bool (xs.any p))):=by
 rw[←UV p xs 0]
 have H:=Lib.hid (indexFuncS2_any g eg cv cv2 p A n c xs w hp hA hn)
 clear hp hA
 generalize idxFrom p xs 0=r at H ⊢
 go_enter Tryz.func24,Tryz.ntmps24
 go_wp2_with (go_at_call 49;refine H.out.mono ?_;rintro e w2 ⟨rfl,hb2⟩)
 go_ret
 exact⟨rfl,hb2⟩
theorem idxA_any {α:Type} (p:α→Bool):∀ (l:List α) (k:Nat),decide (0≤XZ p l k)=l.any p
 | [],_=>rfl
 | x :: r,k=>by
  rw[XZ,List.any_cons]
  cases h:p x
  ·rw[if_neg (by decide),idxA_any p r (k+1),Bool.false_or]
  ·rw[if_pos rfl,Bool.true_or]
   exact decide_eq_true (by omega)
theorem idxA_ge {α:Type} (p:α→Bool):∀ (l:List α) (k:Nat),-1≤XZ p l k
 | [],_=>by rw[XZ];omega
 | x :: r,k=>by
  rw[XZ]
  split
  ·omega
  ·exact idxA_ge p r (k+1)
theorem indexFuncRU0_any (g:Nat) (eg:∀ args w,(callFunc g args).run Tryz.prog w=.ok (.enter g args) w) (p:Qh→Bool) (A:Option Addr) (n c:Nat) (L:List Qh) (w:World)
  (hp:∀ x∈L,∀ W,Below w.heap.size w W→Calls Tryz.prog g #[x.val] W (Zx W (.bool (p x)))) (hA:Qs w A n L) (hn:n≤1000000000) :
  Calls Tryz.prog 109 #[.slice A n c,.func (.func g) #[] #[]] w (Zx w (.int .i64 (XZ p L 0))):=by
 have hl:n≤L.length∧L.length≤n:=by have:=hA.len;omega
 have HP:=Lib.hid hp;have HA:=Lib.hid hA
 clear hp hA
 go_enter Tryz.func109,Tryz.ntmps109
 go_wp2
 go_loopw [8] (fun i wr=>∃ k:Nat,k≤n∧i=.int .i64 k∧Hid (XZ p L 0=XZ p (L.drop k) k)∧Below w.heap.size w wr) (fun i _=>n-(intOf i).toNat)
 case atStart=>exact⟨0,by omega,rfl,Lib.hid rfl,Below.refl _ _⟩
 case round =>
  obtain⟨k,hk,rfl,HI,hb⟩:=hrel
  by_cases hlt:k<n
  ·obtain⟨x,hx⟩:∃ x,L[k]? = some x:=⟨_,List.getElem?_eq_getElem (by omega)⟩
   obtain⟨_,b,o,rfl,hcell⟩:=(HA.out.keep hb).at_ hx
   have hld:=Uj wr b (o+k*18) x hcell
   have hc:=HP.out x (List.mem_of_getElem? hx) wr hb
   have hd:L.drop k=x :: L.drop (k+1):=by
    obtain⟨hl2,rfl⟩:=List.getElem?_eq_some_iff.1 hx
    exact List.drop_eq_getElem_cons hl2
   have HI2:=HI.out
   rw[hd,XZ]at HI2
   have HX:=Lib.hid hcell
   clear hd hx HI hcell
   have HI:=Lib.hid HI2
   clear HI2
   have hxv:x.val=x.val:=rfl
   generalize x.val=xv at hld hc
   clear hxv
   cases hpx:p x
   all_goals
    rw[hpx]at hc HI
    have HC:=Lib.hid hc
    clear hc hpx
    go_wp2_with (first | (refine Qw rfl _ _ rfl ⟨b,o+k*18,none⟩ xv rfl hld ?_) | (go_at_fn g;refine (HC.out).mono ?_;rintro e w2 ⟨rfl,hb2⟩))
   ·refine⟨⟨k+1,by omega,by go_num,Lib.hid (by have:=HI.out;simpa using this),Qj hb hb2⟩,by simp[intOf];omega⟩
   ·go_ret
    have:=HI.out
    exact⟨Kq (by rw[this];simp),Qj hb hb2⟩
  ·have he:XZ p L 0 = -1:=by rw[HI.out,List.drop_eq_nil_of_le (by omega)];rfl
   have HE:=Lib.hid he
   clear he HI
   go_wp2
   go_ret
   exact⟨Kq HE.out.symm,hb⟩
theorem containsFuncRU0_any (g:Nat) (eg:∀ args w,(callFunc g args).run Tryz.prog w=.ok (.enter g args) w) (p:Qh→Bool) (A:Option Addr) (n c:Nat) (L:List Qh) (w:World)
  (hp:∀ x∈L,∀ W,Below w.heap.size w W→Calls Tryz.prog g #[x.val] W (Zx W (.bool (p x)))) (hA:Qs w A n L) (hn:n≤1000000000) :
  Calls Tryz.prog 54 #[.slice A n c,.func (.func g) #[] #[]] w (Zx w (.bool (L.any p))):=by
 rw[←idxA_any p L 0]
 have H:=Lib.hid (indexFuncRU0_any g eg  p A n c L w hp hA hn)
 clear hp hA
 generalize XZ p L 0=r at H ⊢
 go_enter Tryz.func54,Tryz.ntmps54
 go_wp2_with (go_at_call 109;refine H.out.mono ?_;rintro e w2 ⟨rfl,hb2⟩)
 go_ret
 exact⟨rfl,hb2⟩
theorem indexFuncVA0_any (g:Nat) (eg:∀ args w,(callFunc g args).run Tryz.prog w=.ok (.enter g args) w) (p:Qo→Bool) (A:Option Addr) (n c:Nat) (L:List Qo) (w:World)
  (hp:∀ x∈L,∀ W,Below w.heap.size w W→Calls Tryz.prog g #[x.val] W (Zx W (.bool (p x)))) (hA:QX w A n L) (hn:n≤1000000000) :
  Calls Tryz.prog 168 #[.slice A n c,.func (.func g) #[] #[]] w (Zx w (.int .i64 (XZ p L 0))):=by
 have hl:n≤L.length∧L.length≤n:=by have:=hA.len;omega
 have HP:=Lib.hid hp;have HA:=Lib.hid hA
 clear hp hA
 go_enter Tryz.func168,Tryz.ntmps168
 go_wp2
 go_loopw [8] (fun i wr=>∃ k:Nat,k≤n∧i=.int .i64 k∧Hid (XZ p L 0=XZ p (L.drop k) k)∧Below w.heap.size w wr) (fun i _=>n-(intOf i).toNat)
 case atStart=>exact⟨0,by omega,rfl,Lib.hid rfl,Below.refl _ _⟩
 case round =>
  obtain⟨k,hk,rfl,HI,hb⟩:=hrel
  by_cases hlt:k<n
  ·obtain⟨x,hx⟩:∃ x,L[k]? = some x:=⟨_,List.getElem?_eq_getElem (by omega)⟩
   obtain⟨_,b,o,rfl,hcell⟩:=(HA.out.keep hb).at_ hx
   have hld:=Jf wr b (o+k*3) x hcell
   have hc:=HP.out x (List.mem_of_getElem? hx) wr hb
   have hd:L.drop k=x :: L.drop (k+1):=by
    obtain⟨hl2,rfl⟩:=List.getElem?_eq_some_iff.1 hx
    exact List.drop_eq_getElem_cons hl2
   have HI2:=HI.out
   rw[hd,XZ]at HI2
   have HX:=Lib.hid hcell
   clear hd hx HI hcell
   have HI:=Lib.hid HI2
   clear HI2
   have hxv:x.val=x.val:=rfl
   generalize x.val=xv at hld hc
   clear hxv
   cases hpx:p x
   all_goals
    rw[hpx]at hc HI
    have HC:=Lib.hid hc
    clear hc hpx
    go_wp2_with (first | (refine Qw rfl _ _ rfl ⟨b,o+k*3,none⟩ xv rfl hld ?_) | (go_at_fn g;refine (HC.out).mono ?_;rintro e w2 ⟨rfl,hb2⟩))
   ·refine⟨⟨k+1,by omega,by go_num,Lib.hid (by have:=HI.out;simpa using this),Qj hb hb2⟩,by simp[intOf];omega⟩
   ·go_ret
    have:=HI.out
    exact⟨Kq (by rw[this];simp),Qj hb hb2⟩
  ·have he:XZ p L 0 = -1:=by rw[HI.out,List.drop_eq_nil_of_le (by omega)];rfl
   have HE:=Lib.hid he
   clear he HI
   go_wp2
   go_ret
   exact⟨Kq HE.out.symm,hb⟩
theorem containsFuncVA0_any (g:Nat) (eg:∀ args w,(callFunc g args).run Tryz.prog w=.ok (.enter g args) w) (p:Qo→Bool) (A:Option Addr) (n c:Nat) (L:List Qo) (w:World)
  (hp:∀ x∈L,∀ W,Below w.heap.size w W→Calls Tryz.prog g #[x.val] W (Zx W (.bool (p x)))) (hA:QX w A n L) (hn:n≤1000000000) :
  Calls Tryz.prog 112 #[.slice A n c,.func (.func g) #[] #[]] w (Zx w (.bool (L.any p))):=by
 rw[←idxA_any p L 0]
 have H:=Lib.hid (indexFuncVA0_any g eg  p A n c L w hp hA hn)
 clear hp hA
 generalize XZ p L 0=r at H ⊢
 go_enter Tryz.func112,Tryz.ntmps112
 go_wp2_with (go_at_call 168;refine H.out.mono ?_;rintro e w2 ⟨rfl,hb2⟩)
 go_ret
 exact⟨rfl,hb2⟩
theorem indexFuncVA1_any (g:Nat) (eg:∀ args w,(callFunc g args).run Tryz.prog w=.ok (.enter g args) w) (cv0:Value) (p:Qo→Bool) (A:Option Addr) (n c:Nat) (L:List Qo) (w:World)
  (hp:∀ x∈L,∀ W,Below w.heap.size w W→Calls Tryz.prog g #[x.val,cv0] W (Zx W (.bool (p x)))) (hA:QX w A n L) (hn:n≤1000000000) :
  Calls Tryz.prog 168 #[.slice A n c,.func (.func g) #[] #[cv0]] w (Zx w (.int .i64 (XZ p L 0))):=by
 have hl:n≤L.length∧L.length≤n:=by have:=hA.len;omega
 have HP:=Lib.hid hp;have HA:=Lib.hid hA
 clear hp hA
 go_enter Tryz.func168,Tryz.ntmps168
 go_wp2
 go_loopw [8] (fun i wr=>∃ k:Nat,k≤n∧i=.int .i64 k∧Hid (XZ p L 0=XZ p (L.drop k) k)∧Below w.heap.size w wr) (fun i _=>n-(intOf i).toNat)
 case atStart=>exact⟨0,by omega,rfl,Lib.hid rfl,Below.refl _ _⟩
 case round =>
  obtain⟨k,hk,rfl,HI,hb⟩:=hrel
  by_cases hlt:k<n
  ·obtain⟨x,hx⟩:∃ x,L[k]? = some x:=⟨_,List.getElem?_eq_getElem (by omega)⟩
   obtain⟨_,b,o,rfl,hcell⟩:=(HA.out.keep hb).at_ hx
   have hld:=Jf wr b (o+k*3) x hcell
   have hc:=HP.out x (List.mem_of_getElem? hx) wr hb
   have hd:L.drop k=x :: L.drop (k+1):=by
    obtain⟨hl2,rfl⟩:=List.getElem?_eq_some_iff.1 hx
    exact List.drop_eq_getElem_cons hl2
   have HI2:=HI.out
   rw[hd,XZ]at HI2
   have HX:=Lib.hid hcell
   clear hd hx HI hcell
   have HI:=Lib.hid HI2
   clear HI2
   have hxv:x.val=x.val:=rfl
   generalize x.val=xv at hld hc
   clear hxv
   cases hpx:p x
   all_goals
    rw[hpx]at hc HI
    have HC:=Lib.hid hc
    clear hc hpx
    go_wp2_with (first | (refine Qw rfl _ _ rfl ⟨b,o+k*3,none⟩ xv rfl hld ?_) | (go_at_fn g;refine (HC.out).mono ?_;rintro e w2 ⟨rfl,hb2⟩))
   ·refine⟨⟨k+1,by omega,by go_num,Lib.hid (by have:=HI.out;simpa using this),Qj hb hb2⟩,by simp[intOf];omega⟩
   ·go_ret
    have:=HI.out
    exact⟨Kq (by rw[this];simp),Qj hb hb2⟩
  ·have he:XZ p L 0 = -1:=by rw[HI.out,List.drop_eq_nil_of_le (by omega)];rfl
   have HE:=Lib.hid he
   clear he HI
   go_wp2
   go_ret
   exact⟨Kq HE.out.symm,hb⟩
theorem indexFuncHD1_any (g:Nat) (eg:∀ args w,(callFunc g args).run Tryz.prog w=.ok (.enter g args) w) (cv0:Value) (p:Hdr→Bool) (A:Option Addr) (n c:Nat) (L:List Hdr) (w:World)
  (hp:∀ x∈L,∀ W,Below w.heap.size w W→Calls Tryz.prog g #[x.val,cv0] W (Zx W (.bool (p x)))) (hA:X4 w A n L) (hn:n≤1000000000) :
  Calls Tryz.prog 202 #[.slice A n c,.func (.func g) #[] #[cv0]] w (Zx w (.int .i64 (XZ p L 0))):=by
 have hl:n≤L.length∧L.length≤n:=by have:=hA.len;omega
 have HP:=Lib.hid hp;have HA:=Lib.hid hA
 clear hp hA
 go_enter Tryz.func202,Tryz.ntmps202
 go_wp2
 go_loopw [8] (fun i wr=>∃ k:Nat,k≤n∧i=.int .i64 k∧Hid (XZ p L 0=XZ p (L.drop k) k)∧Below w.heap.size w wr) (fun i _=>n-(intOf i).toNat)
 case atStart=>exact⟨0,by omega,rfl,Lib.hid rfl,Below.refl _ _⟩
 case round =>
  obtain⟨k,hk,rfl,HI,hb⟩:=hrel
  by_cases hlt:k<n
  ·obtain⟨x,hx⟩:∃ x,L[k]? = some x:=⟨_,List.getElem?_eq_getElem (by omega)⟩
   obtain⟨_,b,o,rfl,hcell⟩:=(HA.out.keep hb).at_ hx
   have hld:=hdr_load wr b (o+k*2) x hcell
   have hc:=HP.out x (List.mem_of_getElem? hx) wr hb
   have hd:L.drop k=x :: L.drop (k+1):=by
    obtain⟨hl2,rfl⟩:=List.getElem?_eq_some_iff.1 hx
    exact List.drop_eq_getElem_cons hl2
   have HI2:=HI.out
   rw[hd,XZ]at HI2
   have HX:=Lib.hid hcell
   clear hd hx HI hcell
   have HI:=Lib.hid HI2
   clear HI2
   have hxv:x.val=x.val:=rfl
   generalize x.val=xv at hld hc
   clear hxv
   cases hpx:p x
   all_goals
    rw[hpx]at hc HI
    have HC:=Lib.hid hc
    clear hc hpx
    go_wp2_with (first | (refine Qw rfl _ _ rfl ⟨b,o+k*2,none⟩ xv rfl hld ?_) | (go_at_fn g;refine (HC.out).mono ?_;rintro e w2 ⟨rfl,hb2⟩))
   ·refine⟨⟨k+1,by omega,by go_num,Lib.hid (by have:=HI.out;simpa using this),Qj hb hb2⟩,by simp[intOf];omega⟩
   ·go_ret
    have:=HI.out
    exact⟨Kq (by rw[this];simp),Qj hb hb2⟩
  ·have he:XZ p L 0 = -1:=by rw[HI.out,List.drop_eq_nil_of_le (by omega)];rfl
   have HE:=Lib.hid he
   clear he HI
   go_wp2
   go_ret
   exact⟨Kq HE.out.symm,hb⟩
def Yz (d:UInt8) (xs:List ByteArray):ByteArray:=⟨(Lib.join (xs.map (·.data.toList)) [d]).toArray⟩
theorem sep_any (d:UInt8) (A:Option Addr) (n c:Nat) (ws:List ByteArray) (W:World) (base:Nat) (hown:W.ownsRow base 9 1 (.slice A n c) n (ws.map .string)) (hlen:(Lib.join (ws.map (·.data.toList)) [d]).length≤140737488355328) (hn:n≤1000000) :
  Calls Tryz.prog 107 #[.slice A n c,.string ⟨#[d]⟩] W (Zx W (.string (Yz d ws))):=by
 have hl:ws.length=n:=by have:=hown.1;simpa using this
 rcases hown.2 with ⟨h,h0⟩ | ⟨g',cap,cur,he,hb,hh,h1,h2,h3,h4⟩
 ·injection h with e1 e2 e3
  subst e1
  subst h0
  obtain rfl:ws=[]:=List.eq_nil_of_length_eq_zero hl
  refine (Tryz.strings_Join_none none c ⟨#[d]⟩ W).mono fun e w' ⟨h5,h6⟩=>⟨?_,by rw[h6];exact Below.refl _ _⟩
  rw[h5]
  rfl
 ·injection he with e1 e2 e3
  subst e1;subst e3
  have hcells:=World.ownsRow.cells hown (g:=g') rfl
  have:=Tryz.strings_Join g' 0 c ws ⟨#[d]⟩ W (by
   intro j x hx
   have h9:=hcells j (.string x) (by simp[hx])
   unfold Addr.add at h9
   split at h9 <;> simp_all) ((hown.lt g' rfl).2) (by omega) (by omega) hlen
  rw[hl]at this
  exact this
theorem OwnPost.reads {ps:List ByteArray} {w w':World} {e:Ending} (h:OwnPost ps w e w'):∃ A c,e=.returned (.slice A ps.length c)∧Reads w' 1 A ps.length (ps.map .string)∧Below w.heap.size w w':=by
 obtain⟨A,c,h1,h2,h3⟩:=h
 exact⟨A,c,h1,Reads.of_own h2,h3⟩
def knownV (b:Bool) (e:Int):Value:=.agg #[.bool b,.int .i64 e]
def K21 (w:World) (g:Nat) (b:Bool) (e:Int):Prop:=Qv w g 86 #[.bool b,.int .i64 e] (0,0)
theorem K21.facts {w:World} {g:Nat} {b:Bool} {e:Int} (h:K21 w g b e):w.cell? ⟨g,0,none⟩=some (.bool b)∧w.cell? ⟨g,1,none⟩=some (.int .i64 e)∧w.frozen? ⟨g,0,none⟩=false∧w.frozen? ⟨g,1,none⟩=false∧g<w.heap.size :=
 ⟨Qv.cell h 0,Qv.cell h 1,Qd h 0,Qd h 1,Qv.lt h⟩
theorem rEmpty_any (c:ZV) (m:Zy) (w:World) (hR:Xm w c m) (hc:Wh c) :
  Calls Tryz.prog 39 #[Zy.val c m] w (Zx w (knownV (Xj c&&decide (c.till≤c.fr)) (if Xj c then 0 else 1))):=by
 have c1:=fun W (hb:Below w.heap.size w W)=>rValid21_any c m W (hR.keep hb) hc.p hc.cl hc.co hc.n1 hc.n2 hc.n3
 generalize Xj c=vd at *
 clear hR hc
 obtain⟨fr,till,pat,cl,co,si,us⟩:=c
 obtain⟨A,ca,B,cb,S,cs⟩:=m
 unfold Zy.val at c1 ⊢
 dsimp only at c1 ⊢
 generalize cl.length=na at *
 generalize co.length=nb at *
 generalize si.length=ns at *
 have C1:=Lib.hid c1
 clear c1
 cases vd
 ·show Calls Tryz.prog 39 _ w (Zx w (.agg #[.bool false,.int .i64 1]))
  go_enter Tryz.func39,Tryz.ntmps39
  go_wp2_with (go_at_call 81;refine (C1.out _ Qz).mono ?_;rintro e w2 ⟨rfl,hb2⟩;(have hX2:Zi w2 w.heap.size fr till pat A na ca B nb cb S ns cs us:=Qv.keep (Xe _ _ _).1 hb2;have hK2:K21 w2 (w.heap.size+1) false 0:=Qv.keep (Xe _ _ _).2 hb2;obtain⟨x0,x1,x2,x3,x4,x5,x6⟩:=hX2.facts;obtain⟨k0,k1,g0,g1,hz2⟩:=hK2.facts))
  exact bodyPost_ret (v:=.agg #[.bool false,.int .i64 1]) (by simp[results,Tryz.results39,go_sem,hz2,k0,k1,g0,g1]) rfl ⟨rfl,Qz⟩
 ·obtain⟨t,ht⟩:∃ t,t=decide (till≤fr):=⟨_,rfl⟩
  have hd:(true&&decide (till≤fr))=t:=by rw[ht];exact Bool.true_and _
  rw[hd]
  have ht2:=ht.symm
  clear ht hd
  show Calls Tryz.prog 39 _ w (Zx w (.agg #[.bool t,.int .i64 0]))
  go_enter Tryz.func39,Tryz.ntmps39
  go_wp2_with (go_at_call 81;refine (C1.out _ Qz).mono ?_;rintro e w2 ⟨rfl,hb2⟩;(have hX2:Zi w2 w.heap.size fr till pat A na ca B nb cb S ns cs us:=Qv.keep (Xe _ _ _).1 hb2;have hK2:K21 w2 (w.heap.size+1) false 0:=Qv.keep (Xe _ _ _).2 hb2;obtain⟨x0,x1,x2,x3,x4,x5,x6⟩:=hX2.facts;obtain⟨k0,k1,g0,g1,hz2⟩:=hK2.facts))
  exact bodyPost_ret (v:=.agg #[.bool t,.int .i64 0]) (by simp[results,Tryz.results39,go_sem,hz2,k0,k1,g0,g1]) rfl ⟨rfl,Qz⟩
theorem sepT_one (d:UInt8) (x:ByteArray):Yz d [x]=x:=by
 unfold Yz
 simp[Lib.join_one]
theorem sepT_more (d:UInt8) (y:ByteArray) (r:List ByteArray) (x:ByteArray):Yz d (y :: (r++[x]))=(Yz d (y :: r)++⟨#[d]⟩)++x:=by
 apply ByteArray.ext
 apply Array.ext'
 unfold Yz
 simp[Lib.join_cons,Lib.joinTail]
theorem sepT_step (d:UInt8) (l:List ByteArray) (k:Nat) (x:ByteArray) (h:l[k]? = some x):Yz d (l.take (k+1))=if k=0 then x else (Yz d (l.take k)++⟨#[d]⟩)++x:=by
 rw[List.take_add_one,h]
 show Yz d (l.take k++[x])=_
 split
 ·rename_i h0
  subst h0
  rw[List.take_zero]
  exact sepT_one d x
 ·cases l with
  | nil=>simp at h
  | cons y r =>
   obtain⟨j,rfl⟩:∃ j,k=j+1:=⟨k-1,by omega⟩
   rw[List.take_succ_cons,List.cons_append]
   exact sepT_more d y (r.take j) x
theorem Ug (a b:ByteArray):(a++b).size=a.size+b.size:=ByteArray.size_append
end Go.Proofs.YticlbkficolocaaGreatDoor
