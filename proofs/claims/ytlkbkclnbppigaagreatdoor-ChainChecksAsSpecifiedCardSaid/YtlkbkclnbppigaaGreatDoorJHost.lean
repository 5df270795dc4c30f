/- Proofs that are used in many places. -/
import Derived.Lib.Hide
import Derived.Deep.AppendLies
import Derived.Deep.DeepCutAuto
import Derived.Deep.DeepHandedRow
import Derived.Deep.RegionHeld3
import Derived.Deep.RegionHeldLaw
import Derived.Deep.Upon
import Derived.Laws.CopyOwn
import Derived.Laws.EntriesVeiled
import Derived.Lib.AppendZeros
import Derived.Lib.ItoaLen
import Derived.Lib.QuietBelow
import Derived.Lib.SmallJoins
import Derived.Maps.OwnIn
import Derived.RangeFuncNested
import Derived.StillTailTactics
import Derived.Stop.LaidErr
import Derived.WalkLawsBesides
import Derived.WalkSpells
import Derived.OwnWalk
import Derived.BigQuiet
import Derived.Shelf.Abstract
set_option maxHeartbeats 2000000
namespace Go.Proofs
set_option linter.unusedVariables false
variable {P:Prop}
theorem aW{α:Type}:(∀(l:List α)(i:Nat)(a:α),l.toArray.setIfInBounds i a=(l.set i a).toArray)/\(∀(a b:α)(n:Nat)(l:List α),(a::l).set (n+1) b=a::l.set n b)/\(∀(a b:α)(l:List α),(a::l).set 0 b=b::l):=⟨fun _ _ _=>List.setIfInBounds_toArray ..,fun _ _ _ _=>rfl,fun _ _ _=>rfl⟩
theorem ai{α:Type}:(∀(a d:α)(l:List α),(a::l).getD 0 d=a)/\(∀(a d:α)(n:Nat)(l:List α),(a::l).getD (n+1) d=l.getD n d):=⟨fun _ _ _=>rfl,fun _ _ _ _=>rfl⟩
theorem aO{α:Type}{a:Option α}{f g:α}(h:a=some f)(e:f=g:=by kernel_rfl):a=some g:=h.trans (congrArg some e)
theorem aA(h:P:=by omega):P:=h
theorem aJ(h:P:=by simp;omega):P:=h
theorem EY(h:P:=by first | exact Blk.keep hX2 hb2 | exact Blk.keep (World.alloc_heap_new _ _) hb2):P:=h
theorem aF(h:P:=by simp):P:=h
theorem zh(h:P:=by rw[HV.out];(rw[Bool.eq_iff_iff];simp only[decide_eq_true_eq,Bool.false_eq_true,eq_self,false_iff,iff_false,true_iff,iff_true];omega)):P:=h
theorem au(h:P:=by simp[intOf];omega):P:=h
theorem aK(h:P:=by decide):P:=h
theorem bH(h:P:=by dsimp only;omega):P:=h
theorem cZ(h:P:=by unfold maxLen;omega):P:=h
theorem WL(h:P:=by first | exact Blk.keep hX hb2 | exact Blk.keep hX2 hb2 | exact Blk.keep (World.alloc_heap_new _ _) hb2):P:=h
theorem jE(h:P:=by have:=hd _ (Array.mem_of_getElem? (i:=0) rfl) rfl;exact this):P:=h
theorem fG(h:P:=by simp[Value.oneCell']):P:=h
theorem jc(h:P:=by have:=hb1.size;(try simp at this);omega):P:=h
theorem dR(h:P:=by have:=HL.out;omega):P:=h
theorem qU(h:P:=by rw[<-hw0];exact World.alloc_heap_new w _):P:=h
theorem sJ(h:P:=by rw[<-hw0];exact aU (Below.refl _ _) _):P:=h
theorem XZ(h:P:=by simp[Sha.bytes8,Sha.bytes4] <;> omega):P:=h
theorem xJ(h:P:=by rw[hX];exact aU (aU (aU (Below.refl _ _) _) _) _):P:=h
theorem iY(h:P:=by have:=hA.1;simp at this;omega):P:=h
theorem sS(h:P:=by have:=hb2.size;(try simp at this);omega):P:=h
theorem jy(h:P:=by have:=hf1 h a ha;dsimp only;omega):P:=h
theorem dZ(h:P:=by assumption):P:=h
theorem xI(h:P:=by have:=hb3.size;(try simp at this);omega):P:=h
theorem xK(h:P:=by have:=hb5.size;(try simp at this);omega):P:=h
theorem xM(h:P:=by have:=hb6.size;(try simp at this);omega):P:=h
theorem xN(h:P:=by have:=hb7.size;(try simp at this);omega):P:=h
theorem lJ(h:P:=by have:=hf2 h a ha;dsimp only;omega):P:=h
theorem qp(h:P:=by first | exact Below.refl _ _ | assumption):P:=h
theorem uJ(h:P:=by have:=hd _ (Array.mem_of_getElem? (i:=1) rfl) rfl;exact this):P:=h
theorem nJ(h:P:=by have:=hf3 h a ha;dsimp only;omega):P:=h
theorem tH(h:P:=by rw[<-hwx];exact below_setRow (fD _ _) (Nat.le_refl _) _):P:=h
theorem oU(h:P:=by unfold Addr.add;split <;> simp_all):P:=h
theorem uC(h:P:=by have:=dK hown r e;omega):P:=h
theorem xh(h:P:=by have:=run_endLoop (P:=P) hl (by rw[hrec];simp);rw[hrec]at this;exact this):P:=h
theorem dL(h:P:=by simp[hx]):P:=h
theorem gJ(h:P:=by rw[hy];decide):P:=h
theorem bK(h:P:=by rfl):P:=h
theorem WZ(h:P:=by rw[HR.out,Bool.and_true];(apply Bool.eq_iff_iff.2;simp only[decide_eq_true_eq,Bool.false_eq_true,eq_self,false_iff,iff_false,true_iff,iff_true,Bool.true_and] <;> omega)):P:=h
theorem qY(h:P:=by rw[List.size_toArray];exact hR.size):P:=h
theorem Hz(h:P:=by simp only[ui];repeat' (first | apply And.intro | exact zO _ | exact Rk _ _ | exact aFw _ _ | exact trivial)):P:=h
theorem qh(h:P:=by first | (simp;done) | (simp;omega)):P:=h
theorem tq(h:P:=by have:=dK hown a.block (by rw[ha];rfl);omega):P:=h
theorem vS(h:P:=by have:=dK hown _ e.symm;omega):P:=h
theorem Xa(h:P:=by cases ha;show w.heap.size<=g;omega):P:=h
theorem Wi(h:P:=by (apply Bool.eq_iff_iff.2;simp only[decide_eq_true_eq,Bool.false_eq_true,eq_self,false_iff,iff_false,true_iff,iff_true,Bool.true_and] <;> omega)):P:=h
theorem vN(h:P:=by rw[Lib.toList_data]at e;rw[Lib.size_eq,e];rfl):P:=h
theorem lu(h:P:=by rw[HKS.out];exact lL):P:=h
theorem EZ(h:P:=by rw[HOUT.out i hi32,h4,HY.out];rfl):P:=h
theorem oP(h:P:=by simp <;> omega):P:=h
theorem Ff(h:P:=by have:=hgrow.size;simp[World.setCell]at this ⊢;omega):P:=h
theorem Jh(h:P:=by rw[Lib.toList_data];exact List.eq_nil_of_length_eq_zero (by rw[<-Lib.size_eq];exact h)):P:=h
theorem ou(h:P:=by simpa using hu.symm):P:=h
theorem tY(h:P:=by simp[intOf]):P:=h
theorem zn(h:P:=by show w.heap.size<=go;omega):P:=h
theorem jk(h:P:=by cases ha):P:=h
theorem aRc(h:P:=by rw[hal,hpc];exact rO hown7 (fun j hj=>Below.heap_setCell _ _ _ _ (by simp;omega))):P:=h
theorem vM(h:P:=by rw[<-Lib.size_eq];exact h):P:=h
theorem mP(h:P:=by rw[<-hw0];exact aG):P:=h
theorem yR(h:P:=by have:=hb2.size;simp at this;omega):P:=h
theorem IJ(h:P:=by simp only[ui];repeat' (first | apply And.intro | exact zO _ | exact trivial)):P:=h
theorem WU(h:P:=by rw[hbad _ rfl,decide_eq_true (show 1<=x.t.cust/\x.t.cust<=1073741824 by omega),decide_eq_false (by omega)];rfl):P:=h
theorem DW(h:P:=by injection e with e;subst e;show w.heap.size+2≠_;omega):P:=h
theorem C9(h:P:=by rw[<-hw6];exact below_setRow (Below.refl _ _) hgz _):P:=h
theorem xG(h:P:=by rw[pR HS.out.len (by omega)];omega):P:=h
theorem Xb(h:P:=by rw[NK];omega):P:=h
theorem BQ(h:P:=by have:=hb3.size;simp at this;omega):P:=h
theorem kX(h:P:=by simpa using h):P:=h
theorem Bf(h:P:=by rw[<-hw0];exact (heap_alloc_new w _).trans rfl):P:=h
theorem qG(h:P:=by have:=HN.out;omega):P:=h
theorem Ee(h:P:=by rw[<-hwx];exact setRow_heap _ _ _ _ _ _ (heap_alloc_new w1 _)):P:=h
theorem Am(h:P:=by rw[hwe];exact HVd.out.far _ _ (by simp;omega)):P:=h
theorem Ap(h:P:=by rw[hwe];exact HEd.out.far _ _ (by simp;omega)):P:=h
theorem Ea(h:P:=by rw[hK];simpa using hm0):P:=h
theorem Ro(h:P:=by simp only[ui];repeat' (first | apply And.intro | exact zO _ | exact Rk _ _ | exact trivial)):P:=h
theorem SL(h:P:=by rw[<-hw3];exact below_setRow ((Below.refl _ _).alloc (Nat.le_refl _) _) (Nat.le_refl _) _):P:=h
theorem TM(h:P:=by rw[<-hw1];exact below_setRow ((Below.refl _ _).alloc (Nat.le_refl _) _) (Nat.le_refl _) _):P:=h
theorem TP(h:P:=by rw[<-hw5];exact below_setRow ((Below.refl _ _).alloc (Nat.le_refl _) _) (Nat.le_refl _) _):P:=h
theorem UM(h:P:=by have h8:=h.1 e he;rw[hb]at h8;simpa using h8):P:=h
theorem ni(h:P:=by simpa using hj):P:=h
theorem Oe(h:P:=by rw[<-hR];simp only[bytesRow,Array.size_append,Array.size_map];exact Nat.le_add_right _ _):P:=h
theorem aRd(h:P:=by rw[HVV.out];exact aPx rfl _ _ w.heap.size _ rfl (aPv (setRow_heap _ _ _ _ _ _ HZ.out) rfl)):P:=h
theorem tJ(h:P:=by rw[List.all_toArray];rfl):P:=h
theorem aRe(h:P:=by rw[HPL.out];exact ((((hPR.keep (aN hb6 hb7)).set_ _ _ hA1).set_ _ _ hA1).set_ _ _ hA1)):P:=h
theorem vH(h:P:=by have:=hR.1;simpa using this):P:=h
theorem OU(h:P:=by first | (rw[Bool.eq_iff_iff];simp[jf];done) | (rw[Bool.eq_iff_iff];simp[jf];omega)):P:=h
theorem G5(h:P:=by rcases hev with ⟨h,_⟩ | ⟨_,h⟩;exact h;cases h):P:=h
theorem Aq(h:P:=by rw[hwe];exact HZd.out.far _ _ (by simp)):P:=h
theorem zM(h:P:=by rw[hi];exact Bool.false_ne_true):P:=h
theorem Ih(h:P:=by have:=hb.size;rw[HW0.out]at this;simp at this;omega):P:=h
theorem aRf(h:P:=by rw[HQL.out];exact ((((hQR.keep hb7).set_ _ _ hB1).set_ _ _ hB1).set_ _ _ hB1)):P:=h
theorem NS(h:P:=by rw[List.size_toArray,List.size_toArray,dH,dH,HRL.out,BU HRL.out (by omega)]):P:=h
theorem yZ(h:P:=by have:=hR.1;simp at this;omega):P:=h
theorem yg(h:P:=by rw[<-Lib.size_eq];omega):P:=h
theorem XF(h:P:=by rw[<-hw0];exact HS0.out):P:=h
theorem Xc(h:P:=by have:=hD.2.1;rwa [same undef]at this):P:=h
theorem LQ(h:P:=by rw[List.all_toArray,List.all_eq_true];exact yB S):P:=h
theorem vT(h:P:=by have:=hb2.size;omega):P:=h
theorem zD(h:P:=by rw[List.length_append];omega):P:=h
theorem DY(h:P:=by rw[hy];exact fun c hc=>(xB hc).fits):P:=h
theorem aRg(h:P:=by rw[List.size_toArray,List.size_toArray,hl,rG,pR HS.out.len (by omega)]):P:=h
theorem FQ(h:P:=by rw[List.all_toArray,List.all_eq_true];exact ZI):P:=h
theorem yJ(h:P:=by rw[<-Lib.size_eq];exact h0):P:=h
theorem CS(h:P:=by rw[Lib.toList_data];simpa using hx):P:=h
theorem pM(h:P:=by cases e;omega):P:=h
theorem MK(h:P:=by have:=hb2.size;have:=hbr.size;simp at *;omega):P:=h
theorem Xd(h:P:=by simpa using hown):P:=h
theorem Qx(h:P:=by have:=aDq (fun x=>decide (iQ x p s<0)) L;have:=hA.1;unfold iR;omega):P:=h
theorem Xe(h:P:=by have:=h8.2.1;rwa [same v]at this):P:=h
theorem P7(h:P:=by rw[beq_eq_false_iff_ne];rintro rfl;exact absurd hb.1 (by decide)):P:=h
theorem Dp(h:P:=by have:=hR.1;simpa[b8] using this):P:=h
theorem SK(h:P:=by rw[<-hw3];exact setRow_heap _ _ _ _ _ _ (heap_alloc_new wr _)):P:=h
theorem TN(h:P:=by rw[<-hw5];exact setRow_heap _ _ _ _ _ _ (heap_alloc_new w4 _)):P:=h
theorem Dj(h:P:=by have:=hQ.1;rw[Uk]at this;omega):P:=h
theorem WY(h:P:=by rw[HI.out,List.drop_eq_nil_of_le (by have:=HL.out;omega)];rfl):P:=h
theorem VF(h:P:=by cases A <;> simp[Builtin.firstCells,loadCells,loadCellsFrom]):P:=h
theorem DJ(h:P:=by rw[ha];rfl):P:=h
theorem mW(h:P:=by simp at h):P:=h
theorem BN(h:P:=by have:=hB.1;simp at this;omega):P:=h
theorem Bj(h:P:=by cases xs;simp at hl;omega;rfl):P:=h
theorem wW(h:P:=by have:=HZ1.out;omega):P:=h
theorem Di(h:P:=by have:=hP.1;simp at this;omega):P:=h
theorem qK(h:P:=by rw[hV2];simp):P:=h
theorem CU(h:P:=by rw[Lib.toList_data];exact hx):P:=h
theorem Tv(h:P:=by rw[<-hw0];exact⟨World.alloc_heap_new w _,aG,by simp⟩):P:=h
theorem zK(h:P:=by have:=(hr r e).1;omega):P:=h
theorem Hu(h:P:=by rw[List.size_toArray,dH];exact Pv _ _):P:=h
theorem UQ(h:P:=by rw[<-hwb];exact below_setRow (fD _ _) (Nat.le_refl _) _):P:=h
theorem XB(h:P:=by rw[<-hw0];exact⟨⟨(fJ w _ _).1⟩,(fJ w _ _).2,aG⟩):P:=h
theorem Eb(h:P:=by rw[hval];simp):P:=h
theorem uf(h:P:=by rw[<-hw0];simp):P:=h
theorem Ua(h:P:=by rintro W W' ⟨v,rfl⟩;exact KeepsOthers.setCell _ _ _):P:=h
theorem Hy(h:P:=by have:=hcell0 j u hu;simpa using this):P:=h
theorem JX(h:P:=by have:=hgrow1.size;simp at this;omega):P:=h
theorem Af(h:P:=by rw[hq]at hi;simpa using hi):P:=h
theorem Qk(h:P:=by rcases hev with ⟨_,h⟩ | ⟨h,_⟩;cases h;exact h):P:=h
theorem wU(h:P:=by intro c h;cases h):P:=h
theorem Sz(h:P:=by rw[hW6];exact aV.put hres5 _ _ _ _ _ _ _ _ _ _ _ _ _):P:=h
theorem yY(h:P:=by simpa using hk):P:=h
theorem uj(h:P:=by simpa using hs):P:=h
theorem JZ(h:P:=by have:=hPA a ha;omega):P:=h
theorem Ja(h:P:=by have:=hQA a ha;omega):P:=h
theorem PO(h:P:=by have:=ok.si x hx;unfold ed at this;simpa using this):P:=h
theorem SE(h:P:=by rw[hSQ,List.size_toArray,dH];exact (Ci k x.t i).len):P:=h
theorem Ey(h:P:=by have:=hA _ rfl;simp at this;omega):P:=h
theorem NR(h:P:=by have:=HOr.out;rw[h32,NH HRL.out]at this;exact this):P:=h
theorem BO(h:P:=by have:=HNA.out;omega):P:=h
theorem Cf(h:P:=by rw[HZS.out,HDS.out]):P:=h
theorem EI(h:P:=by simp only[fC,hne,e1];rfl):P:=h
theorem nZ(h:P:=by simp[hp]):P:=h
theorem FN(h:P:=by rw[List.map_append];exact hown'):P:=h
theorem F9(h:P:=by cases a;exact absurd rfl ha;rfl):P:=h
theorem aRh(h:P:=by rw[HV.out];simp):P:=h
theorem IG(h:P:=by rw[n7];exact Bool.false_ne_true):P:=h
theorem yD(h:P:=by have:=HB.out;omega):P:=h
theorem yI(h:P:=by have:=HM.out;omega):P:=h
theorem aRi(h:P:=by rw[hal];exact Blk.set_ hB7 2 _):P:=h
theorem Ak(h:P:=by rw[hwd];exact hbj.drew):P:=h
theorem Du(h:P:=by rw[nK];unfold bu;omega):P:=h
theorem vI(h:P:=by simpa using ho):P:=h
theorem xy(h:P:=by simpa using hx):P:=h
theorem FH(h:P:=by have:=hown.1;simpa using this):P:=h
theorem JI(h:P:=by rw[HV.out,hall,Bool.true_and]):P:=h
theorem JV(h:P:=by have:=dK hown4 _ e.symm;omega):P:=h
theorem nP(h:P:=by cases h):P:=h
theorem Ag(h:P:=by rw[hwd];exact HVj.out):P:=h
theorem Ah(h:P:=by rw[hwd];exact HEj.out):P:=h
theorem Aj(h:P:=by rw[hwd];exact HZj.out):P:=h
theorem G7(h:P:=by have:=h.lo;have:=h.two;omega):P:=h
theorem zC(h:P:=by simp at hl;omega):P:=h
theorem Fb(h:P:=by have:=hb1.size;omega):P:=h
theorem DD(h:P:=by have:=hbw.size;omega):P:=h
theorem EJ(h:P:=by simpa[bne] using hne):P:=h
theorem pg(h:P:=by simp[hy]):P:=h
theorem Iw(h:P:=by unfold maxLen;rw[nK];omega):P:=h
theorem JK(h:P:=by rw[List.length_drop];omega):P:=h
theorem yu(h:P:=by rw[hV];simp[t1]):P:=h
theorem rf(h:P:=by simp[h]):P:=h
theorem vO(h:P:=by rw[nU];omega):P:=h
theorem aRj(h:P:=by have:=hbw.size;simp;omega):P:=h
theorem FB(h:P:=by simp[World.setCell];omega):P:=h
theorem IU(h:P:=by have:=hback e he hb;omega):P:=h
theorem xE(h:P:=by rw[nK];omega):P:=h
theorem xu(h:P:=by simpa using he):P:=h
theorem E8(h:P:=by simpa using q2):P:=h
theorem Ai(h:P:=by rw[hwd];exact HB0):P:=h
theorem tC(h:P:=by rw[e];rfl):P:=h
theorem aRo(h:P:=by rw[hrec];simp):P:=h
theorem Ac(h:P:=by simpa using this):P:=h
theorem Ut(h:P:=by simp at hj;omega):P:=h
theorem Xf(h:P:=by cases F <;> simp):P:=h
theorem yG(h:P:=by rw[dH];omega):P:=h
theorem uk(h:P:=by simp[h1]):P:=h
theorem Ky(h:P:=by
 rw[Nat.zero_add]at hD
 generalize hb:aX (l.take m) V 0 a=b at *
 have hput:=hput V
 rw[hb]at hput
 obtain⟨o',d,ho',hback,hdo,hdl,hdd⟩:=fair i hilt
 obtain rfl:o=o':=by rw[List.getElem?_toArray]at ho;exact Option.some.inj (ho.symm.trans ho')
 have hdist:∀ t i j,i<m->j<m->bW l.toArray i=some t->bW l.toArray j=some t->i=j:=by
  intro t i j hi hj h1 h2
  obtain⟨oi,di,hoi,_,hdi,_,hddi⟩:=fair i hi
  have e1:bW l.toArray i=some di:=by unfold bW;rw[List.getElem?_toArray,hoi];exact hdi
  by_cases hij:j=i
  ·exact hij.symm
  ·exact absurd (by rw[h2,<-h1,e1]) (hddi j hij)
 have look:∀ t∈o.looksAt l.toArray,a'.tmps[t]? = b.tmps[t]?:=by
  intro t ht
  have h:=List.all_eq_true.1 hdep i (List.mem_range.2 hilt)
  rw[ho]at h
  dsimp only at h
  rw[Bool.and_eq_true,List.all_eq_true]at h
  have h2:=h.2 t ht
  rw[Bool.or_eq_true]at h2
  rcases h2 with h2 | h2
  ·have hoff:∀ j,j<m->bW l.toArray j≠some t:=fun j hj=>by
    have:=List.all_eq_true.1 h2 j (List.mem_range.2 hj)
    simpa using this
   rw[hA.off t hoff,hput,JB _ _ _ m hoff]
  ·rw[Array.any_eq_true']at h2
   obtain⟨e,he,h2⟩:=h2
   rw[Bool.and_eq_true,Bool.and_eq_true,decide_eq_true_eq,beq_iff_eq]at h2
   obtain⟨⟨hbd,hem⟩,hdt⟩:=h2
   have hv:jQ l.toArray a' e.on=V e.on:=by rw[hV]
   obtain⟨oe,de,hoe,_,hde,hdel,_⟩:=fair e.on hem
   have e1:bW l.toArray e.on=some de:=by unfold bW;rw[List.getElem?_toArray,hoe];exact hde
   obtain rfl:de=t:=Option.some.inj (e1.symm.trans hdt)
   unfold jQ at hv
   rw[e1]at hv
   dsimp only at hv
   rw[hput,Dt _ _ _ hdel m (hdist de) e.on hem e1]
   have hlt:de<a'.tmps.size:=by rw[hA.size];exact hdel
   rw[Array.getD_eq_getD_getElem?,Array.getElem?_eq_getElem hlt]at hv
   rw[Array.getElem?_eq_getElem hlt,<-hv]
   rfl
 have hex:execOp a'.eval o=execOp b.eval o:=by
  refine execOp_congr o (fun cs bl hs=>?_) (fun x hx=>?_)
  ·have h:=List.all_eq_true.1 hdep i (List.mem_range.2 hilt)
   rw[ho]at h
   dsimp only at h
   rw[hs]at h
   cases h
  ·cases x with
   | tmp t =>
    have:=look t (List.mem_append_left _ (List.mem_filterMap.2 ⟨.tmp t,xy,rfl⟩))
    show a'.tmps.getD t undef=b.tmps.getD t undef
    rw[Array.getD_eq_getD_getElem?,Array.getD_eq_getD_getElem?,this]
   | _=>rfl
 have hwt:Region.wanted o (yielded l.toArray a'.tmps)=Region.wanted o (yielded l.toArray b.tmps):=by
  unfold Region.wanted
  cases hg:o.guard with
  | none=>rfl
  | some gw =>
   obtain⟨g,want⟩:=gw
   dsimp only
   rw[VL (fun d hd=>look d ?_)]
   refine List.mem_append_right _ ?_
   rw[hg]
   dsimp only
   unfold bW at hd
   rw[hd]
   simp
 have hbs:b.tmps.size=a.tmps.size:=by rw[hput,Dq]
 have same:∀ v,Ad o (b.put o.dst v)=v:=by
  intro v
  unfold Ad
  rw[hdo]
  have hlt:d<b.tmps.size:=by rw[hbs];exact hdl
  simp[Act.put,hlt]
 unfold wpOp
 rw[ho]
 dsimp only
 rw[hwt]
 unfold wpList at hD
 split
 ·rename_i hw
  rw[if_pos hw]at hD
  rcases hD with hD | ⟨_,a9,w9,h9,_⟩
  ·refine .inl ?_
   unfold Oper.wp at hD ⊢
   rw[hex]
   generalize (execOp b.eval o).run P W=r at hD ⊢
   cases r with
   | ok n w9 =>
    cases n with
    | value v=>exact⟨v,rfl,(by have:=hD.2.1;rwa [same v]at this),hD.2.2.2,trivial⟩
    | skip=>exact⟨undef,rfl,Xc,hD.2.2.2,trivial⟩
    | defer dd =>
     exfalso
     have h3:({ b with defers:=dd :: b.defers }.put o.dst undef).defers=b.defers:=hD.2.2.1
     rw[VH]at h3
     have:=congrArg List.length h3
     simp at this
    | enter f args =>
     refine Calls.mono hD ?_
     intro e w8 h8
     cases e with
     | returned v=>exact⟨v,rfl,Xe,h8.2.2.2,trivial⟩
     | panicked c=>cases h8.1
     | outgrown=>obtain⟨_,_,h7,_⟩:=h8;cases h7
    | row r args =>
     refine Rows.mono hD ?_
     intro v w8 h8
     exact⟨v,rfl,Xe,h8.2.2.2,trivial⟩
    | _=>exact hD.elim
   | halt h w9 =>
    cases h with
    | panic v=>exact absurd hD.1 (by intro h;cases h)
    | _=>exact hD.elim
  ·cases h9
 ·rename_i hw
  rw[if_neg hw]at hD
  exact⟨undef,rfl,Xc,hD.2.2.2,trivial⟩):P:=h
theorem Ei(h:P:=by
 refine⟨o,d,rfl,fun e he hb=>UM,hd,?_⟩
 have h2:=h.2
 rw[hd]at h2
 dsimp only at h2
 rw[Bool.and_eq_true,decide_eq_true_eq,List.all_eq_true]at h2
 refine⟨h2.1,fun j hj=>?_⟩
 rcases Nat.lt_or_ge j l.toArray.size with hl | hl
 ·have:=h2.2 j (List.mem_range.2 hl)
  simp only[Bool.or_eq_true,beq_iff_eq,bne_iff_ne]at this
  exact this.resolve_left (fun e=>hj e.symm)
 ·unfold bW
  rw[Array.getElem?_eq_none hl]
  simp):P:=h
theorem IE(h:P:=by
 intro ho L a w hC hi hl hJ hG hA hd
 have t5:a.eval (.tmp 5)=.pointer (some ⟨nb,0,none⟩):=rZ hA aC
 have u5:=(dw a 5).trans t5
 have n0:w.cell? ⟨nb,0,none⟩=some (.func (.func 138) #[.pointer (some ⟨g,0,none⟩)] #[]):=PS.n0 hJ
 exact mr (W':=w) ho rfl Sv ⟨rfl,But.refl _ _,hJ⟩):P:=h
theorem DI(h:P:=by
 intro ho L a w hC hi hl hJ hG hA hd
 have t4:a.eval (.tmp 4)=.pointer (some ⟨g,0,none⟩):=rZ hA aC
 have u4:=(dw a 4).trans t4
 exact mr (W':=w) ho rfl aRk ⟨rfl,But.refl _ _,hJ⟩):P:=h
theorem Ej(h:P:=by
 unfold jb
 have:=Io l.toArray (l.take m) V 0 a (fun j hj=>by
  rw[List.getElem?_take_of_lt Ut]
  simp)
 rw[List.length_take,Nat.min_eq_left hml]at this
 rw[<-this,List.range_eq_range']):P:=h
theorem VP(h:P:=by
 have hXz:=hbX.size;have hA1:∀ a,PA=some a->a.block≠w.heap.size:=(fun a ha=>JZ);have hB1:∀ a,QA=some a->a.block≠w.heap.size:=(fun a ha=>Ja);refine bodyPost_ret (v:=.tuple #[.agg #[.string C,.slice PA np Pc,.slice QA nq Qc],.int .i64 0]) AO rfl ⟨aG,PA,Pc,QA,Qc,by rw[HPL.out,HQL.out],aRe,aRf,fun a ha=>JZ,fun a ha=>Ja,by rw[HPL.out];exact hPc⟩):P:=h
theorem OD(h:P:=by
 rw[bytesLess_eq,Lib.toList_data,Lib.toList_data,Bool.eq_iff_iff]
 simp only[Bool.not_eq_true',Bool.or_eq_false_iff,decide_eq_false_iff_not,beq_eq_false_iff_ne,decide_eq_true_eq]
 constructor
 ·rintro⟨h1,h2⟩;exact J4 _ _ h2 h1
 ·intro h
  exact⟨fun h1=>List.lt_irrefl _ (List.lt_trans h h1),fun e=>List.lt_irrefl _ (by rw[e]at h;exact h)⟩):P:=h
theorem yf(h:P:=by
 refine bodyPost_ret (results_none rfl _ _ _) rfl ?_
 exact⟨⟨_,rfl⟩,.inr hJx'⟩):P:=h
theorem Dh(h:P:=by
 rcases hrow.2 with ⟨hv,h0⟩ | ⟨g,cap,cur,hv,_⟩
 ·exact⟨none,0,by rw[hv,h0]⟩
 ·exact⟨_,_,hv⟩):P:=h
theorem Og(h:P:=by
 have hkR:k<R'.size:=by
  have:=H.out k hlt
  exact (Array.getElem?_eq_some_iff.1 this).1
 by_cases e:k=j
 ·subst e
  rw[if_pos rfl,if_pos hkR,if_pos rfl,if_pos ⟨dZ,dZ⟩]
 ·rw[if_neg e,if_neg (Ne.symm e)]
  exact H.out j hj):P:=h
theorem BH(h:P:=by
 obtain⟨hl2,rfl⟩:=List.getElem?_eq_some_iff.1 hp
 exact List.drop_eq_getElem_cons hl2):P:=h
theorem Bi(h:P:=by
 obtain⟨hl2,rfl⟩:=List.getElem?_eq_some_iff.1 hx
 exact List.drop_eq_getElem_cons hl2):P:=h
theorem Uc(h:P:=by
 obtain⟨k1,k2,k3,k4,k5⟩:=aIy (B:=(((w.alloc (.cells #[.slice none 0 0] 24)).alloc (.cells #[.bool false] 4)).alloc (.cells #[.slice none 0 0] 24)).heap.size) hb h3 h4 hbw hsz6 hb2
 exact⟨k1,rfl,hn,k2,k3,k4,k5⟩):P:=h
theorem Ik(h:P:=by
 simp only[ho,hx,Instr.loadAt,Instr.sureAddr,Sem.run_bind,Sem.run_pure,Result.andThen_ok,hl]
 exact hK _ _ h):P:=h
theorem Rf(h:P:=by
 refine bodyPost_ret (v:=.agg DG) ?_ rfl ⟨rfl,?_⟩
 ·exact results_cell_row rfl _ _ (w.heap.size+1) _ _ (0,0) _ rfl (setRow_heap _ _ _ _ _ _ hz2) underlying30 rfl HDI.out
 ·exact below_setRow hbw aA _):P:=h
theorem Oc(h:P:=by
 intro j hj
 rw[<-hR,bytesRow_at _ _ _ hj]
 simp only[fZ,Nat.not_lt_zero,if_false]
 have hl:j<s.data.toList.length:=by rw[<-Lib.size_eq];exact hj
 rw[List.getElem?_eq_getElem hl]
 rfl):P:=h
theorem Py(h:P:=by
 have:∀(l:List aZ)(s:List Nat),eU s->eU (l.foldl jI s):=by
  intro l
  induction l with
  | nil=>exact fun s h=>h
  | cons c l ih=>exact fun s _=>ih _ (qm _ _)
 exact this _ _ (qm _ _)):P:=h
theorem Un(h:P:=by
 unfold dm
 rw[decide_eq_true h,Bool.true_and,aJh s h]
 simp only[List.all_cons,List.all_nil,Bool.and_true]
 rw[Bool.eq_iff_iff]
 simp only[Bool.and_eq_true,decide_eq_true_eq]
 omega):P:=h
theorem PZ(h:P:=by
 refine⟨hB.1,fun h=>?_⟩
 obtain⟨b,o,rfl,hc⟩:=hB.2 h
 have:=hBl h _ rfl
 simp only at this
 exact⟨b,o,rfl,fun j u hu=>(hV _ aJ aJ).trans (hc j u hu)⟩):P:=h
theorem Pi(h:P:=by
 rintro e w' ⟨v',rfl,hown,_,hb⟩
 rw[List.take_of_length_le aA]at hown
 rcases hown.2 with ⟨_,h⟩ | ⟨g,cap,cur,rfl,r⟩
 ·omega
 ·exact⟨g,cap,rfl,hown,hb⟩):P:=h
theorem PY(h:P:=by
 intro j hj
 have hj':j<zs.length:=ni
 refine⟨?_,hown.frozenAt (0+j)⟩
 have:=hown.cellAt (0+j) aA
 rw[this]
 simp[List.getElem?_eq_getElem hj',getElem!_pos,hj']):P:=h
theorem XM(h:P:=by
 rw[Option.bind_some]at h
 split at h
 ·rename_i cs t fr hc
  injection h with h
  refine⟨t,fr,hc.trans ?_⟩
  rw[h]
  unfold ksI w32
  rw[List.map_map]
  rfl
 ·cases h):P:=h
theorem S9(h:P:=by
 have h1:=hK5.out
 rw[e]at h1
 have h2:wc.heap[w0.heap.size]? = _:=hres5
 rw[h1]at h2
 cases h2):P:=h
theorem Kr(h:P:=by
 refine⟨rfl,rfl,rfl,by simp[putRow,mapBlock,Sort.ahead],fun k hk hne=>?_⟩
 have:g≠k:=fun e=>hne (by rw[e])
 simp[putRow,mapBlock,Sort.ahead,Array.getElem?_modify,this]):P:=h
theorem Q7(h:P:=by
 subst hg
 refine⟨rfl,fun _=>⟨_,_,rfl,fun j u hu=>?_⟩⟩
 rw[Nat.zero_add,cell_of_row _ _ _ _ _ _ (World.alloc_heap_new W (.cells #[.string s] 9))]
 simpa using hu):P:=h
theorem L8(h:P:=by
 intro h
 have:=congrArg List.length h
 unfold splitB at this
 rw[List.length_map]at this
 exact OM 47 s.data.toList (List.eq_nil_of_length_eq_zero this)):P:=h
theorem Pg(h:P:=by
 rw[getElem!_pos _ _ (by simpa using hj2)]
 simp only[List.getElem_toArray]
 rw[List.getElem_append_left hjl]
 exact (List.getElem?_eq_some_iff.1 hx).2):P:=h
theorem Em(h:P:=by
 have:=(List.getElem?_eq_some_iff.1 hi).1
 rw[List.length_take]at this;omega):P:=h
theorem Pj(h:P:=by
 rintro e w' ⟨v',rfl,hown,_,hb⟩
 rcases hown.2 with ⟨rfl,_⟩ | ⟨g,cap,cur,rfl,r⟩
 ·exact⟨none,0,rfl,hb⟩
 ·exact⟨_,_,rfl,hb⟩):P:=h
theorem VC(h:P:=by
 refine⟨0,aA,rfl,aB ?_,aB ?_,aG⟩
 ·rw[U8];exact Eq.trans (heap_alloc2_new w _ _) rfl
 ·rw[U8];exact Eq.trans (heap_alloc2_old w _ _) rfl):P:=h
theorem MW(h:P:=by
 rw[HVA.out]
 show acc++(if z<128 then [z] else (z % 128+128) :: Sha.vintF (f+2) (z / 128))=_
 rw[if_neg h,List.append_assoc];rfl):P:=h
theorem L9(h:P:=by
 exact bodyPost_ret (v:=.tuple #[.agg #[.int .i64 0,.string ⟨#[]⟩,.slice none 0 0,.bool false],.bool false]) BI rfl (nX.none_ 0 _ _ _ _ _ aG)):P:=h
theorem MM(h:P:=by
 subst hg
 have h:Blk (W.alloc (.cells #[a,b] t)) W.heap.size t #[a,b] (0,0):=World.alloc_heap_new _ _
 exact⟨Blk.cell h 0,Blk.cell h 1⟩):P:=h
theorem Ph(h:P:=by
 refine hc j _ ?_
 rw[List.getElem?_map,List.getElem?_eq_getElem hj]
 simp[List.getD_eq_getElem?_getD,List.getElem?_eq_getElem hj]):P:=h
theorem MG(h:P:=by
 have:=HM.out
 by_cases h:k+1=m
 ·rw[List.drop_eq_nil_of_le aA];simp[h]
 ·simp[h];omega):P:=h
theorem U4(h:P:=by
 have:=Ie (bD xs)
 simp only[W06,lW,List.length_append]at htot
 simp only[bD,List.length_map]at this htot
 omega):P:=h
theorem Tc(h:P:=by
 cases r
 ·exact (decide_eq_false (fun e=>by have:=key.2 e;cases this)).symm
 ·exact (decide_eq_true (key.1 rfl)).symm):P:=h
theorem MS(h:P:=by
 refine⟨7,2*n,[],none,0,aF,rfl,aJ,aA,rfl,aB ?_,World.ownsRow_nil _ _ _ _,Below.refl _ _⟩
 rw[HV.out];rfl):P:=h
theorem V9(h:P:=by
 rw[h]at h2
 have:=congrArg ByteArray.size h2
 rw[ByteArray.size_extract]at this
 omega):P:=h
theorem SX(h:P:=by
 intro e
 subst e
 unfold aQ at hx
 rw[hx]at ho
 injection ho with ho
 subst ho
 cases hc):P:=h
theorem MF(h:P:=by
 rcases HC.out with h | ⟨_,h,_⟩
 ·exact h
 ·exfalso;have:=HM.out;omega):P:=h
theorem VG(h:P:=by
 subst hp
 unfold Oper.wp execOp
 simp only[ho,Sem.run_bind,Sem.run_pure,Result.andThen_ok,hr]
 exact h):P:=h
theorem TG(h:P:=by
 rw[HRR.out,HE1.out]
 exact⟨below_setRow HS1.out.b aA _,zL,rfl,DF _,rfl,fun h=>absurd h aK⟩):P:=h
theorem NT(h:P:=by
 rcases Nat.lt_or_ge g w.heap.size with hl | hl
 ·exact hl
 ·rw[Array.getElem?_eq_none hl]at h;cases h):P:=h
theorem Ij(h:P:=by
 rw[List.all_eq_false]
 exact⟨k,yY,by rw[h2];simp⟩):P:=h
theorem OY(h:P:=by
 rw[List.getElem?_map,Option.map_eq_some_iff]at h
 obtain⟨x,hx,rfl⟩:=h
 exact⟨x,hx,rfl⟩):P:=h
theorem Sr(h:P:=by
 exact uX rfl _ _ (w.heap.size+2) _ _ rfl rfl (eQ (setRow_heap _ _ _ _ _ _ HR5.out) HTS.out)):P:=h
theorem TF(h:P:=by
 exact uX rfl _ _ (w.heap.size+2) _ _ rfl rfl (eQ (setRow_heap _ _ _ _ _ _ HS1.out.z) rfl)):P:=h
theorem RQ(h:P:=by
 simp only[List.length_append,List.length_cons,List.length_replicate,List.length_nil]
 omega):P:=h
theorem Qi(h:P:=by
 rintro e w' ⟨N,rfl,_,_,hb⟩
 exact⟨⟨_,rfl,.inr ⟨⟨_,_,rfl⟩,rfl⟩⟩,hb⟩):P:=h
theorem OZ(h:P:=by
 refine⟨⟨k+1,aA,aj,aB (by have:=HI.out;simpa using this),aN hb hb2⟩,au⟩):P:=h
theorem Wx(h:P:=by
 exact bodyPost_ret (v:=.agg V) aRd rfl ⟨rfl,below_setRow hb (Nat.le_refl _) _⟩):P:=h
theorem Rn(h:P:=by
 rw[<-hw0,hZS]
 exact⟨(iU w _ _ _).1,(iU w _ _ _).2.1,(iU w _ _ _).2.2,aG,aF⟩):P:=h
theorem Rw(h:P:=by
 rw[Nat.add_sub_cancel,Nat.add_sub_cancel,List.take_add_one,ht,List.foldl_append]
 rfl):P:=h
theorem XR(h:P:=by
 injection h0 with h0
 subst h0
 exact⟨none,0,0,[],rfl,rfl,aH.nil_ _ _ _⟩):P:=h
theorem PP(h:P:=by
 obtain⟨x,hx,rfl⟩:=List.mem_map.1 hy
 have:=hsi x hx
 exact qM x aA aA):P:=h
theorem VN(h:P:=by
 rw[hps,hnp,ho1,hqs,hnq,ho2]
 cases nm <;> cases rr <;> cases qq <;> simp[pI]):P:=h
theorem VV(h:P:=by
 rw[List.all_eq_false]
 exact⟨x,List.mem_of_getElem? hx,by rw[hp];decide⟩):P:=h
theorem WO(h:P:=by
 clear K5 e5
 rcases K6.out with ⟨e6,rfl⟩ | ⟨e6,rfl,rfl⟩ | ⟨e6,rfl,rfl⟩
 ·have f6:decide ((0:Int)<(nb:Int))=false:=decide_eq_false aA;have f6a:decide (0<nb)=false:=decide_eq_false aA
  clear K6 e6
  exact Jl
 all_goals
  have f6:decide ((0:Int)<(nb:Int))=true:=decide_eq_true aA;have f6a:decide (0<nb)=true:=decide_eq_true aA;have f6b:0<nb:=aA
  clear K6 e6
  exact Jl):P:=h
theorem Xg(h:P:=by
 by_cases hm0:0<m
 ·obtain rfl:K=true:=Ea
  have e1:(0:Int)<(m:Int):=aA
  exact Xh
 ·obtain rfl:K=false:=Ea
  obtain rfl:m=0:=aA
  exact Xh):P:=h
theorem Xi(h:P:=by
 by_cases hm0:0<m
 ·obtain rfl:K=true:=Ea
  have e1:(0:Int)<(m:Int):=aA
  exact Xj
 ·obtain rfl:K=false:=Ea
  obtain rfl:m=0:=aA
  exact Xj):P:=h
theorem EP(h:P:=by
 subst e
 have HN:=aB hN
 clear hN hbad
 exact WV):P:=h
theorem WH(h:P:=by
 by_cases h:er=0
 ·subst h
  exact Xk
 ·have d1:(er==0)=false:=beq_eq_false_iff_ne.2 h
  rw[decide_eq_false h]
  exact Xk):P:=h
theorem GY(h:P:=by
 obtain rfl:V=false:=by rw[hV2];rfl
 clear hV2
 exact vZ):P:=h
theorem aC(h:P:=by kernel_rfl):P:=h
theorem aj(h:P:=by go_num):P:=h
theorem je(h:P:=by go_split_ands;assumption):P:=h
theorem AO(h:P:=by simp[results,results203,go_sem, *]):P:=h
theorem BI(h:P:=by simp[results,results147,go_sem,c0,c1,c2,c3]):P:=h
theorem Jb(h:P:=by simp[results,results186,go_sem,hz6,x0,x1,x2,x3,f0,f1,f2,f3]):P:=h
theorem JW(h:P:=by simp[results,results130,go_sem,hz2,x0,x1,x2,f0,f1,f2]):P:=h
theorem jP(h:P:=by simp[go_sem]):P:=h
theorem mY(h:P:=by simp[go_sem, *]):P:=h
theorem Sl(h:P:=by simp only[results,results54];simp[go_sem,p0,p1,p2,p3,p4,p5,p6]):P:=h
theorem Fe(h:P:=by simp[results,results226,go_sem,p0,p1,p2,p3]):P:=h
theorem nO(h:P:=by kernel_rfl ):P:=h
theorem Hm(h:P:=by simp[results,results205,go_sem]):P:=h
theorem aRl(h:P:=by simp[results,results174,go_sem,hz2,c0,c1,c2,c3,f0,f1,f2,f3]):P:=h
theorem OL(h:P:=by simp[results,results174,go_sem,hz3,c0,c1,c2,c3,f0,f1,f2,f3]):P:=h
theorem aRm(h:P:=by simp[results,results131,go_sem,hz,k0,k1,g0,g1,HT2.out]):P:=h
theorem I5(h:P:=by rw[hb'.cell (by simp)];simp[go_sem]):P:=h
theorem Sv(h:P:=by simp[go_sem,execOp,u5,n0]):P:=h
theorem TA(h:P:=by simp[results,results78,go_sem,r0,r1,r2,r3,r4,r5,r6]):P:=h
theorem Xl(h:P:=by simp[results,results145,go_sem,hz1,hz9,x0,x1,f0,f1]):P:=h
theorem wO(h:P:=by simp[hc1,go_sem]):P:=h
theorem aRk(h:P:=by simp[go_sem,execOp,u4]):P:=h
theorem rq(h:P:=by
 (go_enter func41,ntmps41;go_wp2_with fail;rw[<-HW.out];refine wp_region_quiet_below aC aC ?_;(repeat (any_goals (first | go_big_quiet_step ((first | (with_reducible exact kW C1.out _ _) | (with_reducible exact kW C2.out _ _) | (with_reducible exact kW C3.out _ _) | (with_reducible exact kW C4.out _ _) | (with_reducible exact kW C5.out _ _) | (with_reducible exact kW C6.out _ _) | (with_reducible exact kW C7.out _ _))) | quiet_step ((first | (with_reducible exact kW C1.out _ _) | (with_reducible exact kW C2.out _ _) | (with_reducible exact kW C3.out _ _) | (with_reducible exact kW C4.out _ _) | (with_reducible exact kW C5.out _ _) | (with_reducible exact kW C6.out _ _) | (with_reducible exact kW C7.out _ _))))));refine wpQuiet_nil ?_;intro _ hwq;obtain⟨⟨dq,osq⟩,hwq⟩:=hwq;subst hwq;have hbq:=below_regrown (W0) dq osq;generalize grow (redrawn (W0) dq) osq=wq at *;go_wp2;go_ret;exact⟨rfl,aN HB0.out hbq⟩)):P:=h
theorem E5(h:P:=by
 have HSO:=aB hsome;clear hsome hcmp hok
 go_wp2_with (first | (go_at_call 162;refine (HW.out _).mono ?_;rintro e w4 ⟨rfl,hb4⟩;replace hB:bT w4 w.heap.size kd tx (.slice A' acc.length c') false:=Blk.keep hB hb4;replace hown:=dV hown hb4;replace hbw:=hbw.trans (hb4.mono aA);replace hFr:∀ j,j<w3.heap.size->j≠w.heap.size->w4.heap[j]? = w3.heap[j]?:=(fun j q1 q2=>(hb4.block j aA).trans (hFr j q1 q2));replace hzr:w3.heap.size<=w4.heap.size:=Nat.le_trans hzr hb4.size;clear c0 c1 c2 c3 f0 f1 f2 f3;obtain⟨c0,c1,c2,c3,f0,f1,f2,f3⟩:=hB.facts;clear HW) | (go_at_call 206;refine (HH.out _).mono ?_;rintro e w5 ⟨rfl,hw5⟩;rw[hw5];clear hw5 w5) | (go_at_call 162;refine (HX.out _).mono ?_;rintro e w5 ⟨rfl,hb5⟩;replace hB:bT w5 w.heap.size kd tx (.slice A' acc.length c') false:=Blk.keep hB hb5;replace hown:=dV hown hb5;replace hbw:=hbw.trans (hb5.mono aA);replace hFr:∀ j,j<w3.heap.size->j≠w.heap.size->w5.heap[j]? = w3.heap[j]?:=(fun j q1 q2=>(hb5.block j aA).trans (hFr j q1 q2));replace hzr:w3.heap.size<=w5.heap.size:=Nat.le_trans hzr hb5.size;clear c0 c1 c2 c3 f0 f1 f2 f3;obtain⟨c0,c1,c2,c3,f0,f1,f2,f3⟩:=hB.facts;clear HX))
 go_region_law (first | (go_simp;go_at_call 205;refine (HP2.out _).mono ?_;rintro e w6 ⟨rfl,hb6⟩;replace hb6:=Lu hb6;replace hB:bT w6 w.heap.size kd tx (.slice A' acc.length c') false:=Blk.keep hB hb6;replace hown:=dV hown hb6;replace hbw:=hbw.trans (hb6.mono aA);replace hFr:∀ j,j<w3.heap.size->j≠w.heap.size->w6.heap[j]? = w3.heap[j]?:=(fun j q1 q2=>(hb6.block j aA).trans (hFr j q1 q2));replace hzr:w3.heap.size<=w6.heap.size:=Nat.le_trans hzr hb6.size;have hz6:w.heap.size<w6.heap.size:=aA;clear c0 c1 c2 c3 f0 f1 f2 f3;obtain⟨c0,c1,c2,c3,f0,f1,f2,f3⟩:=hB.facts) | (refine step_append_lies _ bK _ _ _ bK w3.heap.size 192 i0 (.agg #[.int .i64 0,.string ⟨#[]⟩]) 2 24 underlying193 HI.out.1 HI.out.2.1 HI.out.2.2.1 HI.out.2.2.2 bK aA (.slice A' acc.length c') acc.length (fO acc) bK (hown.alloc _) ⟨w6.heap.size,0,none⟩ 1 1 [.int .i64 pk,.string pt] bK bK (World.news_of_block (cs:=#[.int .i64 pk,.string pt]) (t:=192) (fr:=(0,0)) (World.alloc_heap_new w6 _)) fG aA cZ aA aJ (w6.heap.size+1) aF ?_;intro gg cap w7 hown7 hgrow hat hlt7;have hB7:bT w7 w.heap.size kd tx (.slice A' acc.length c') false:=(hgrow.block w.heap.size aJ (fun e=>vS)).trans ((Below.heap_alloc w6 _ w.heap.size aA).trans hB);clear c0 c1 c2 c3 f0 f1 f2 f3;obtain⟨c0,c1,c2,c3,f0,f1,f2,f3⟩:=hB7.facts));all_goals go_wp2;all_goals (have hal:(acc++[(⟨pk,pt⟩:bJ)]).length=acc.length+1:=aF;have hpc:fO (acc++[⟨pk,pt⟩])=fO acc++[.int .i64 pk,.string pt]:=(by simp[fO]);refine⟨⟨k+1,acc++[⟨pk,pt⟩],some ⟨gg,0,none⟩,cap,false,⟨aj,aA,aJ⟩,aB (.inl ⟨rfl,HSO.out⟩),aRi,aRc,((hbw.alloc hbw.size _).grown hgrow aRj (fun r e=>uC)).setCell (p:=⟨w.heap.size,2,none⟩) aF _,fun j q1 q2=>(Below.heap_setCell _ _ _ _ E8).trans ((hgrow.block j aJ (fun e=>vS)).trans ((Below.heap_alloc w6 _ j aA).trans (hFr j q1 q2))),Ff⟩,au⟩)):P:=h
theorem wM(h:P:=by
 go_enter func14,ntmps14
 go_upto_region 1 with fail
 generalize hw0:World.alloc _ _=w0
 have B0:fB w0 w.heap.size x:=⟨qU⟩
 have hb0:Below w.heap.size w w0:=sJ
 clear hw0
 obtain⟨y0,y1,y2,y3⟩:=B0.cells
 rw[HLN.out]at y3
 go_wp2_with (first | (go_at_call 45;refine (HT.out _ _ (aFb _ _ _ aF)).mono ?_;rintro e w2 ⟨rfl,hb2⟩;have hb12:Below w0.heap.size w0 w2:=aG;have B2:=B0.keep hb12;clear y0 y1 y2 y3;obtain⟨y0,y1,y2,y3⟩:=B2.cells;rw[HLN.out]at y3;have hw2:=aN hb0 hb12) | (go_at_call 46;refine (HP1.out _).mono ?_;rintro e w3 ⟨rfl,hb3⟩;clear HP1;have B3:=B2.keep hb3;clear y0 y1 y2 y3;obtain⟨y0,y1,y2,y3⟩:=B3.cells;rw[HLN.out]at y3;have hw3:=aN hw2 hb3) | (go_at_call 46;refine (HP2.out _).mono ?_;rintro e w4 ⟨rfl,hb4⟩;clear HP2;have B4:=B3.keep hb4;clear y0 y1 y2 y3;obtain⟨y0,y1,y2,y3⟩:=B4.cells;rw[HLN.out]at y3;have hw4:=aN hw3 hb4) | (go_at_call 47;refine (HC.out _ hw4).mono ?_;rintro e w5 ⟨rfl,hb5⟩))
 go_ret
 exact⟨dX aRh,aG⟩):P:=h
theorem pJ(h:P:=by
 (go_enter func49,ntmps49;go_wp2_with (first | ((first | (go_at_call 99;refine (HVA.out _ (Env.keep HE.out aG)).mono ?_) | (go_at_call 100;(first | (refine (C1.out _ aG).mono ?_;clear C1) | refine (C2.out _ aG).mono ?_)));rintro e w2 ⟨rfl,hb2⟩;(have hX2:aV w2 w.heap.size fr till pat A cl.length ca B co.length cb S si.length cs us:=EY;obtain⟨x0,x1,x2,x3,x4,x5,x6⟩:=hX2.facts)) | (go_at_call 103;refine (C3.out _ aG).mono ?_;rintro e w2 ⟨rfl,hb2⟩));go_ret;exact⟨rfl,aG⟩)):P:=h
theorem vZ(h:P:=by
 (go_enter func85,ntmps85;go_wp2_with (((first | (go_at_call 146;refine (C1.out _ (Env.keep HE.out aG)).mono ?_) | (go_at_call 101;refine (C2.out _ (Env.keep HE.out aG)).mono ?_) | (go_at_call 102;refine (C3.out _).mono ?_) | (go_at_call 104;refine (C4.out _).mono ?_));rintro e w2 ⟨rfl,hb2⟩;(have hX2:Blk w2 w.heap.size 59 #[.string ad,.string cl,.string co,.int .i64 si,.int .i64 lo,.int .i64 hi] (0,0):=EY;have x0:=hX2.cell 0;have x1:=hX2.cell 1;have x2:=hX2.cell 2;have x3:=hX2.cell 3;have x4:=hX2.cell 4;have x5:=hX2.cell 5)));go_ret;exact⟨rfl,aG⟩)):P:=h
theorem ND(h:P:=by
 obtain⟨k,⟨rfl,hk⟩,HK,hbr⟩:=hrel
 by_cases hlt:k<n
 ·obtain⟨p',hp'⟩:∃ p,ps[k]? = some p:=⟨_,List.getElem?_eq_getElem qG⟩
  obtain⟨x',hx'⟩:∃ p,ap[k]? = some p:=⟨_,List.getElem?_eq_getElem BO⟩
  obtain⟨hpk,hpt⟩:=h3 p' (List.mem_of_getElem? hp')
  have hxz:=hapz x' (List.mem_of_getElem? hx')
  obtain⟨pb,po,rfl,hcell⟩:=(hRp3.keep hbr).2 aA
  obtain⟨qb,qo,rfl,hcellq⟩:=(hRq3.keep hbr).2 aA
  obtain⟨e1,e2⟩:=BJ ps k p' hp'
  have hc1:wr.cell? ⟨pb,po+k*2,none⟩=_:=hcell _ _ e1
  have hc2:wr.cell? ⟨pb,po+k*2+1,none⟩=_:=hcell _ _ e2
  have hc3:wr.cell? ⟨qb,qo+k,none⟩=some (.string x'):=hcellq _ _ (by simp[hx'])
  have hdp:ps.drop k=p' :: ps.drop (k+1):=by
   obtain⟨hl2,rfl⟩:=List.getElem?_eq_some_iff.1 hp'
   exact List.drop_eq_getElem_cons hl2
  have hdx:ap.drop k=x' :: ap.drop (k+1):=by
   obtain⟨hl2,rfl⟩:=List.getElem?_eq_some_iff.1 hx'
   exact List.drop_eq_getElem_cons hl2
  have hm:=HK.out
  rw[hdp,hdx,dh]at hm
  have cW:=fun W=>FV p'.kind p'.text x' W aA aA hpk
  obtain⟨pk,pt⟩:=p'
  dsimp only at hc1 hc2 cW hm
  have y2r:=aP hbr y2
  have g1:(wr.alloc (.cells #[.int .i64 pk,.string pt] 192)).cell? ⟨wr.heap.size,0,none⟩=some (.int .i64 pk):=jP
  have g2:(wr.alloc (.cells #[.int .i64 pk,.string pt] 192)).cell? ⟨wr.heap.size,1,none⟩=some (.string pt):=jP
  have g3:(wr.alloc (.cells #[.int .i64 pk,.string pt] 192)).cell? ⟨w2.heap.size,1,none⟩=some (.slice (some ⟨qb,qo,none⟩) na cb):=aP (aU (Below.refl _ _) _) y2r
  have g4:(wr.alloc (.cells #[.int .i64 pk,.string pt] 192)).cell? ⟨qb,qo+k,none⟩=some (.string x'):=aP (aU (Below.refl _ _) _) hc3
  have hk0:(0:Int)<=(k:Int):=aA
  have hkm:(k:Int)<(na:Int):=aA
  clear hp' hx' hcell hcellq e1 e2 hdp hdx HK
  cases hh:dQ pk pt x'
  ·rw[hh]at cW hm
   have HW:=aB cW
   have HM2:=aB hm
   clear cW hm hh
   go_wp2_with fail
   have k1:=cell_regrown g1;have k2:=cell_regrown g2;have k3:=cell_regrown g3;have k4:=cell_regrown g4
   refine wp_region_quiet_below aC aC ?_;(repeat (any_goals (first | go_big_quiet_step ((first | exact fF HW.out _ _)) | quiet_step ((first | exact fF HW.out _ _)))));refine wpQuiet_nil ?_;intro _ hwq;obtain⟨⟨dq,osq⟩,hwq⟩:=hwq;subst hwq;have hb4:=below_regrown (wr.alloc (.cells #[.int .i64 pk,.string pt] 192)) dq osq;generalize grow (redrawn (wr.alloc (.cells #[.int .i64 pk,.string pt] 192)) dq) osq=w4 at *
   go_wp2
   go_ret
   exact⟨dX (by have:=HM2.out;simpa using this),aG⟩
  ·rw[hh]at cW hm
   have HW:=aB cW
   have HM2:Hid (dh (ps.drop (k+1)) (ap.drop (k+1))=res):=aB (by simpa using hm)
   clear cW hm hh
   go_wp2_with fail
   have k1:=cell_regrown g1;have k2:=cell_regrown g2;have k3:=cell_regrown g3;have k4:=cell_regrown g4
   refine wp_region_quiet_below aC aC ?_;(repeat (any_goals (first | go_big_quiet_step ((first | exact fF HW.out _ _)) | quiet_step ((first | exact fF HW.out _ _)))));refine wpQuiet_nil ?_;intro _ hwq;obtain⟨⟨dq,osq⟩,hwq⟩:=hwq;subst hwq;have hb4:=below_regrown (wr.alloc (.cells #[.int .i64 pk,.string pt] 192)) dq osq;generalize grow (redrawn (wr.alloc (.cells #[.int .i64 pk,.string pt] 192)) dq) osq=w4 at *
   go_wp2
   exact⟨⟨k+1,⟨aj,aA⟩,HM2,aN (aU hbr _) hb4⟩,au⟩
 ·obtain rfl:k=n:=aA
  have hm:res=true:=by
   have:=HK.out
   rw[HN.out,List.drop_eq_nil_of_le (Nat.le_refl _),dh]at this
   exact this.symm
  subst hm
  go_wp2
  go_ret
  exact⟨rfl,aG⟩):P:=h
theorem AB(h:P:=by
 go_enter func4,ntmps4
 go_upto_region 1 with fail
 generalize hw0:World.alloc _ _=w0
 have hS:S w0:=XF
 clear hw0
 go_wp2_with (first | (first | (refine ay rfl 32 _ rfl ⟨w.heap.size,0,none⟩ (.agg XT) rfl (LDT.out _ hS) ?_) | (go_big_want;refine iV 32 _ rfl ⟨w.heap.size,0,none⟩ (.agg XT) rfl (LDT.out _ hS) ?_;simp only[Act.put,aW])) | (first | (refine ay rfl 59 _ rfl ⟨w.heap.size+1,0,none⟩ (.agg XA) rfl (LDA.out _ hS) ?_) | (go_big_want;refine iV 59 _ rfl ⟨w.heap.size+1,0,none⟩ (.agg XA) rfl (LDA.out _ hS) ?_;simp only[Act.put,aW])) | ((first | (go_at_call 25;refine (HRG.out _ hS).mono ?_) | (go_at_call 10;refine (HFW.out _ hS).mono ?_) | (go_at_call 15;refine (HVA.out _ hS).mono ?_) | (go_at_call 26;refine (HFA.out _).mono ?_) | (go_at_call 11;refine (HSA.out _ hS).mono ?_));(rintro e w' ⟨rfl,hb'⟩;replace hS:=HSK.out _ _ hS hb';clear hb')))
 go_ret
 exact⟨rfl,HSB.out _ hS⟩):P:=h
theorem JF(h:P:=by
 go_enter func203,ntmps203;go_wp2_with (first | (go_at_call 261;refine (HL.out _).mono ?_;rintro e w1 ⟨rfl,hb1⟩;obtain⟨hc1,hf1⟩:=bg hb1;have hz1_0:w.heap.size<w1.heap.size:=jc;have hE1:=Env.keep (Env.keep hE (aU (Below.refl _ _) _)) hb1) | (go_at_call 260;refine (HC1.out _ hE1).mono ?_;rintro e w2 ⟨rfl,hb2⟩;obtain⟨hc2,hf2⟩:=bg hb2;have hz2_0:w.heap.size<w2.heap.size:=sS;have hE2:=Env.keep hE1 hb2;clear hE1) | (go_at_call 262;refine (HT.out _).mono ?_;rintro e wt ⟨rfl,hwt⟩;rw[hwt];clear hwt wt) | (go_at_call 260;refine (HC2.out _ hE2).mono ?_;rintro e w3 ⟨rfl,hb3⟩;obtain⟨hc3,hf3⟩:=bg hb3;have hz3_0:w.heap.size<w3.heap.size:=xI;have hE3:=Env.keep hE2 hb3) | (go_at_call 263;refine (uo _ _ _).mono ?_;rintro e X ⟨rfl,hX⟩;have cR:=xH R w3 X hX hR;have hbX:Below w3.heap.size w3 X:=xJ;clear hX) | (go_at_call 265;refine (JE _).mono ?_;rintro e w5 hres;rw[<-HR0.out aF]at hres;obtain⟨hbr,PA,Pc,rfl,hPR,hPA,hPc⟩:=HRs.out _ _ _ _ hres;clear hres cR;have hb5:Below w3.heap.size w3 w5:=aN hbX hbr;obtain⟨hc5,hf5⟩:=bg hb5;have hz5_0:w.heap.size<w5.heap.size:=xK;have hE5:=Env.keep hE3 hb5) | (go_at_call 266;refine (HP.out _ hE5).mono ?_;rintro e w6 hpp;obtain⟨hb6,QA,Qc,rfl,hQR,hQA⟩:=HPs.out _ _ _ hpp;clear hpp;obtain⟨hc6,hf6⟩:=bg hb6;have hz6_0:w.heap.size<w6.heap.size:=xM) | (go_at_call 94;refine (HN.out _).mono ?_;rintro e w7 ⟨rfl,hb7⟩;obtain⟨hc7,hf7⟩:=bg hb7;have hz7_0:w.heap.size<w7.heap.size:=xN))
 exact bodyPost_ret (v:=.tuple #[.agg #[.string ⟨#[]⟩,.slice none 0 0,.slice none 0 0],.int .i64 3]) AO rfl ⟨aG,none,0,none,0,rfl,aH.nil_ _ _ _,aH.nil_ _ _ _,(fun a ha=>jk),(fun a ha=>jk),Nat.le_refl _⟩):P:=h
theorem JG(h:P:=by
 go_enter func203,ntmps203;go_wp2_with (first | (go_at_call 261;refine (HL.out _).mono ?_;rintro e w1 ⟨rfl,hb1⟩;obtain⟨hc1,hf1⟩:=bg hb1;have hz1_0:w.heap.size<w1.heap.size:=jc;have hE1:=Env.keep (Env.keep hE (aU (Below.refl _ _) _)) hb1) | (go_at_call 260;refine (HC1.out _ hE1).mono ?_;rintro e w2 ⟨rfl,hb2⟩;obtain⟨hc2,hf2⟩:=bg hb2;have hz2_0:w.heap.size<w2.heap.size:=sS;have hE2:=Env.keep hE1 hb2;clear hE1) | (go_at_call 262;refine (HT.out _).mono ?_;rintro e wt ⟨rfl,hwt⟩;rw[hwt];clear hwt wt) | (go_at_call 260;refine (HC2.out _ hE2).mono ?_;rintro e w3 ⟨rfl,hb3⟩;obtain⟨hc3,hf3⟩:=bg hb3;have hz3_0:w.heap.size<w3.heap.size:=xI;have hE3:=Env.keep hE2 hb3) | (go_at_call 263;refine (uo _ _ _).mono ?_;rintro e X ⟨rfl,hX⟩;have cR:=xH R w3 X hX hR;have hbX:Below w3.heap.size w3 X:=xJ;clear hX) | (go_at_call 265;refine cR.mono ?_;rintro e w5 hres;rw[HRR.out aF]at hres;obtain⟨hbr,PA,Pc,rfl,hPR,hPA,hPc⟩:=HRs.out _ _ _ _ hres;clear hres cR;have hb5:Below w3.heap.size w3 w5:=hbX.trans hbr;obtain⟨hc5,hf5⟩:=bg hb5;have hz5_0:w.heap.size<w5.heap.size:=xK;have hE5:=Env.keep hE3 hb5) | (go_at_call 266;refine (HP.out _ hE5).mono ?_;rintro e w6 hpp;obtain⟨hb6,QA,Qc,rfl,hQR,hQA⟩:=HPs.out _ _ _ hpp;clear hpp;obtain⟨hc6,hf6⟩:=bg hb6;have hz6_0:w.heap.size<w6.heap.size:=xM) | (go_at_call 94;refine (HN.out _).mono ?_;rintro e w7 ⟨rfl,hb7⟩;obtain⟨hc7,hf7⟩:=bg hb7;have hz7_0:w.heap.size<w7.heap.size:=xN))
 exact bodyPost_ret (v:=.tuple #[.agg #[.string ⟨#[]⟩,.slice none 0 0,.slice none 0 0],.int .i64 3]) AO rfl ⟨aG,none,0,none,0,rfl,aH.nil_ _ _ _,aH.nil_ _ _ _,(fun a ha=>jk),(fun a ha=>jk),Nat.le_refl _⟩):P:=h
theorem qZ(h:P:=by
 (try dsimp only)
 (go_split_ands;refine⟨?_,?_,?_,?_,?_,?_,?_,?_,?_⟩ <;> first | assumption | (refine aP hb3 ?_;assumption) | (refine aN ?_ hb3;assumption) | (refine Lib.cell?_alloc_some _ ?_;assumption) | (refine aU ?_ _;assumption) | ((repeat (first | exact .refl _ _ | assumption | refine .drew ?_ | refine aU ?_ _ | refine qw ?_ _ | refine .setCell ?_ oP _ | refine aN ?_ dZ));done) | (simp[go_sem, *];done))):P:=h
theorem su(h:P:=by
 clear hV
 (go_enter func39,ntmps39;go_wp2_with (((first | (go_at_call 84;refine (C1.out _).mono ?_) | (go_at_call 50;refine (C2.out _).mono ?_) | (go_at_call 67;refine (C3.out _).mono ?_));rintro e w2 ⟨rfl,hb2⟩;(have hX2:Blk w2 w.heap.size 59 #[.string ad,.string cl,.string co,.int .i64 si,.int .i64 lo,.int .i64 hi] (0,0):=EY;have x0:=hX2.cell 0;have x1:=hX2.cell 1;have x2:=hX2.cell 2;have x3:=hX2.cell 3;have x4:=hX2.cell 4;have x5:=hX2.cell 5)));go_ret;exact⟨rfl,aG⟩)):P:=h
theorem Ez(h:P:=by
 have HNO:=aB hnone;clear hnone hcmp hok
 go_wp2_with (first | (go_at_call 162;refine (HW.out _).mono ?_;rintro e w4 ⟨rfl,hb4⟩;replace hB:bT w4 w.heap.size kd tx (.slice A' acc.length c') false:=Blk.keep hB hb4;replace hown:=dV hown hb4;replace hbw:=hbw.trans (hb4.mono aA);replace hFr:∀ j,j<w3.heap.size->j≠w.heap.size->w4.heap[j]? = w3.heap[j]?:=(fun j q1 q2=>(hb4.block j aA).trans (hFr j q1 q2));replace hzr:w3.heap.size<=w4.heap.size:=Nat.le_trans hzr hb4.size;clear c0 c1 c2 c3 f0 f1 f2 f3;obtain⟨c0,c1,c2,c3,f0,f1,f2,f3⟩:=hB.facts;clear HW) | (go_at_call 206;refine (HH.out _).mono ?_;rintro e w5 ⟨rfl,hw5⟩;rw[hw5];clear hw5 w5) | (go_at_call 162;refine (HX.out _).mono ?_;rintro e w5 ⟨rfl,hb5⟩;replace hB:bT w5 w.heap.size kd tx (.slice A' acc.length c') false:=Blk.keep hB hb5;replace hown:=dV hown hb5;replace hbw:=hbw.trans (hb5.mono aA);replace hFr:∀ j,j<w3.heap.size->j≠w.heap.size->w5.heap[j]? = w3.heap[j]?:=(fun j q1 q2=>(hb5.block j aA).trans (hFr j q1 q2));replace hzr:w3.heap.size<=w5.heap.size:=Nat.le_trans hzr hb5.size;clear c0 c1 c2 c3 f0 f1 f2 f3;obtain⟨c0,c1,c2,c3,f0,f1,f2,f3⟩:=hB.facts;clear HX))
 rw[HNO.out];exact bodyPost_ret (v:=.tuple #[.agg #[.int .i64 kd,.string tx,.slice A' acc.length c',.bool false],.bool false]) BI rfl (nX.none_ _ _ _ _ _ _ aG)):P:=h
theorem WQ(h:P:=by
 clear e1
 go_upto_region 12 with fail
 rw[<-E1.out]
 have n1:¬ 9223372036854775807<u1.size+1:=aA
 have n2:¬ 9223372036854775807<u1.size+1+u2.size:=aA
 have n3:¬ 9223372036854775807<u1.size+1+u2.size+1:=aA
 have n4:¬ 9223372036854775807<u1.size+1+u2.size+1+pp.size:=aA
 have n5:¬ 9223372036854775807<u1.size+1+u2.size+1+pp.size+1:=aA
 have n6:¬ 9223372036854775807<u1.size+1+u2.size+1+pp.size+1+t1.size:=aA
 have n7:¬ 9223372036854775807<u1.size+1+u2.size+1+pp.size+1+t1.size+1:=aA
 have n8:¬ 9223372036854775807<u1.size+1+u2.size+1+pp.size+1+t1.size+1+t2.size:=aA
 have n9:¬ 9223372036854775807<u1.size+1+u2.size+1+pp.size+1+t1.size+1+t2.size+1:=aA
 have n10:¬ 9223372036854775807<u1.size+1+u2.size+1+pp.size+1+t1.size+1+t2.size+1+t3.size:=aA
 have n11:¬ 9223372036854775807<u1.size+1+u2.size+1+pp.size+1+t1.size+1+t2.size+1+t3.size+1:=aA
 have n12:¬ 9223372036854775807<u1.size+1+u2.size+1+pp.size+1+t1.size+1+t2.size+1+t3.size+1+u3.size:=aA
 clear z1 z2 z3 z4 z5 z6 z7
 have hcu:Below wr.heap.size wr wr.drew:=Below.drew (Below.refl _ _)
 go_region_held3 (fun w'=>w'.cell? ⟨w.heap.size,0,none⟩=some (.int .i64 fr)/\w'.cell? ⟨w.heap.size,1,none⟩=some (.int .i64 till)/\w'.cell? ⟨w.heap.size,2,none⟩=some (.string pat)/\w'.cell? ⟨w.heap.size,3,none⟩=some (.slice A na ca)/\w'.cell? ⟨w.heap.size,4,none⟩=some (.slice B nb cb)/\w'.cell? ⟨w.heap.size,5,none⟩=some (.slice S k cs)/\w'.cell? ⟨w.heap.size,6,none⟩=some (.int .i64 us)/\Below w.heap.size w w')
  (first | exact⟨x0,x1,x2,x3,x4,x5,x6,Below.drew hbw⟩ | (go_split_ands;refine⟨?_,?_,?_,?_,?_,?_,?_,?_⟩ <;> first | assumption | (refine aP hb4 ?_;assumption) | (refine aN ?_ hb4;assumption) | (refine Eq.trans (World.cell?_setCell_far _ _ _ _ aF) (Eq.trans (World.cell?_setCell_far _ _ _ _ aF) ?_);assumption) | (refine Below.setCell (Below.setCell ?_ aF _) aF _;assumption)))
  (((first | (go_at_call 59;(first | (with_reducible refine (D1.out _).mono ?_) | (with_reducible refine (D2.out _).mono ?_) | (with_reducible refine (D3.out _).mono ?_))) | (go_at_call 190;(first | (with_reducible refine (K1.out _ hcu).mono ?_) | (with_reducible refine (K2.out _ hcu).mono ?_) | (with_reducible refine (K3.out _ hcu).mono ?_))));rintro e w4 ⟨rfl,hb4⟩;replace hcu:=aN hcu hb4;have hKc:=Blk.keep hK hcu;(try clear k0 k1 g0 g1 hz);obtain⟨k0,k1,g0,g1,hz⟩:=zB.facts hKc))
 all_goals go_wp2
 all_goals exact bodyPost_ret (v:=.agg #[.string T,.int .i64 0]) aRm rfl ⟨rfl,je⟩):P:=h
theorem yA(h:P:=by
 (try dsimp only)
 first | (go_split_ands;exact⟨aP (aU (Below.refl _ _) _) ‹_›,aP (aU (Below.refl _ _) _) ‹_›,aP (aU (Below.refl _ _) _) ‹_›,aP (aU (Below.refl _ _) _) ‹_›,aP (aU (Below.refl _ _) _) ‹_›,aP (aU (Below.refl _ _) _) ‹_›,aP (aU (Below.refl _ _) _) ‹_›,aP (aU (Below.refl _ _) _) ‹_›⟩) | go_keep):P:=h
theorem NQ(h:P:=by
 have hr4:i % 4=0\/i % 4=1\/i % 4=2\/i % 4=3:=aA
 have HY:=aB hy
 clear hy
 rcases hr4 with h4 | h4 | h4 | h4
 ·have hr:(i:Int) % 4=0:=aA
  have hval:R.getD i 0=y / 16777216:=EZ
  go_wp2_with fail
  have hcast:(y:Int) / 16777216=((R.getD i 0:Nat):Int):=Eb
  rw[hcast]
  refine⟨⟨i+1,aA,aj,aB ?_,aB (aI.far HBr.out _ _ aJ),aB (aI.far HZr.out _ _ aJ),hbr.setCell (p:=⟨go,i,none⟩) zn _⟩,au⟩
  have:=aI.set_ HOr.out i (.int .u8 ((R.getD i 0:Nat):Int))
  rw[<-yT,yS HRL.out hi32]at this
  exact this
 ·have hr:(i:Int) % 4=1:=aA
  have hval:R.getD i 0=y / 65536 % 256:=EZ
  go_wp2_with fail
  have hcast:(y:Int) / 65536 % 256=((R.getD i 0:Nat):Int):=Eb
  rw[hcast]
  refine⟨⟨i+1,aA,aj,aB ?_,aB (aI.far HBr.out _ _ aJ),aB (aI.far HZr.out _ _ aJ),hbr.setCell (p:=⟨go,i,none⟩) zn _⟩,au⟩
  have:=aI.set_ HOr.out i (.int .u8 ((R.getD i 0:Nat):Int))
  rw[<-yT,yS HRL.out hi32]at this
  exact this
 ·have hr:(i:Int) % 4=2:=aA
  have hval:R.getD i 0=y / 256 % 256:=EZ
  go_wp2_with fail
  have hcast:(y:Int) / 256 % 256=((R.getD i 0:Nat):Int):=Eb
  rw[hcast]
  refine⟨⟨i+1,aA,aj,aB ?_,aB (aI.far HBr.out _ _ aJ),aB (aI.far HZr.out _ _ aJ),hbr.setCell (p:=⟨go,i,none⟩) zn _⟩,au⟩
  have:=aI.set_ HOr.out i (.int .u8 ((R.getD i 0:Nat):Int))
  rw[<-yT,yS HRL.out hi32]at this
  exact this
 ·have hr:(i:Int) % 4=3:=aA
  have hval:R.getD i 0=y % 256:=EZ
  go_wp2_with fail
  have hcast:(y:Int) % 256=((R.getD i 0:Nat):Int):=Eb
  rw[hcast]
  refine⟨⟨i+1,aA,aj,aB ?_,aB (aI.far HBr.out _ _ aJ),aB (aI.far HZr.out _ _ aJ),hbr.setCell (p:=⟨go,i,none⟩) zn _⟩,au⟩
  have:=aI.set_ HOr.out i (.int .u8 ((R.getD i 0:Nat):Int))
  rw[<-yT,yS HRL.out hi32]at this
  exact this):P:=h
theorem pW(h:P:=by
 (go_enter func32,ntmps32;go_wp2_with (go_at_call 66;refine (HVA.out _).mono ?_;rintro e w2 ⟨rfl,hb2⟩;(have hX2:aV w2 w.heap.size fr till pat A na ca B nb cb S ns cs us:=WL;obtain⟨x0,x1,x2,x3,x4,x5,x6⟩:=hX2.facts));go_ret;exact⟨rfl,aG⟩)):P:=h
theorem lI(h:P:=by
 (try simp only[bP,DL,IsV,ai,Region.binds,and_true,true_and]at hd)
 simp only[aX,bQ,Act.put]
 (try simp only[hd])
 clear hd
 go_wp2
 exact⟨rfl,rfl,rfl,aG⟩):P:=h
theorem NF(h:P:=by
 subst hRR
 go_wp2_with (go_at_call 285;refine (H0.out _).mono ?_;rintro e w1 ⟨rfl,hb1⟩;have hX:bT w1 w.heap.size pk pt (.slice A' np ca') _:=Blk.keep bX hb1;have hY:bT w1 (w.heap.size+1) qk qt (.slice B' nq cb') _:=Blk.keep bY hb1;have hO:bT w1 (w.heap.size+1+1) 0 ⟨#[]⟩ (.slice none 0 0) false:=Blk.keep bO hb1;have hz1:w.heap.size+3<=w1.heap.size:=Fb;have hbw:Below w.heap.size w w1:=aN hbc hb1;clear x0 x1 x2 x3 y0 y1 y2 y3 o0 o1 o2 o3 q0 q1 q2 q3;obtain⟨x0,x1,x2,x3,_⟩:=hX.facts;obtain⟨y0,y1,y2,y3,_⟩:=hY.facts;obtain⟨o0,o1,o2,o3,q0,q1,q2,q3⟩:=hO.facts)
 have hO':=Blk.set_ (Blk.set_ (Blk.set_ (Blk.set_ (Blk.set_ (Blk.set_ hO 0 (.int .i64 mk)) 1 (.string mt)) 0 (.int .i64 mk)) 1 (.string mt)) 2 (.slice none 0 0)) 3 (.bool false);have hbE:=((((((hbw.setCell (p:=⟨w.heap.size+1+1,0,none⟩) aJ (.int .i64 mk)).setCell (p:=⟨w.heap.size+1+1,1,none⟩) aJ (.string mt)).setCell (p:=⟨w.heap.size+1+1,0,none⟩) aJ (.int .i64 mk)).setCell (p:=⟨w.heap.size+1+1,1,none⟩) aJ (.string mt)).setCell (p:=⟨w.heap.size+1+1,2,none⟩) aJ (.slice none 0 0)).setCell (p:=⟨w.heap.size+1+1,3,none⟩) aJ (.bool false));revert hO' hbE;generalize ((((((w1.setCell ⟨w.heap.size+1+1,0,none⟩ (.int .i64 mk)).setCell ⟨w.heap.size+1+1,1,none⟩ (.string mt)).setCell ⟨w.heap.size+1+1,0,none⟩ (.int .i64 mk)).setCell ⟨w.heap.size+1+1,1,none⟩ (.string mt)).setCell ⟨w.heap.size+1+1,2,none⟩ (.slice none 0 0)).setCell ⟨w.heap.size+1+1,3,none⟩ (.bool false))=W';intro hO' hbE;have hO2:bT W' (w.heap.size+1+1) mk mt (.slice none 0 0) false:=hO';obtain⟨p0,p1,p2,p3,_⟩:=hO2.facts;clear hO' o0 o1 o2 o3 x0 x1 x2 x3 y0 y1 y2 y3;exact bodyPost_ret (v:=.tuple #[.agg #[.int .i64 mk,.string mt,.slice none 0 0,.bool false],.bool false]) Fe rfl (nX.none_ _ _ _ _ _ _ hbE)):P:=h
theorem WV(h:P:=by
 go_enter func15,ntmps15
 go_upto_region 1 with fail
 generalize hw0:World.alloc _ _=w0
 have B0:fB w0 w.heap.size x:=⟨qU⟩
 have hb0:Below w.heap.size w w0:=sJ
 clear hw0
 obtain⟨y0,y1,y2,y3⟩:=B0.cells
 rw[HLN.out]at y3
 (go_wp2_with (go_at_call 50;refine (HN.out _).mono ?_;rintro e w2 ⟨rfl,hb2⟩;have B2:=B0.keep hb2;have hbw:=aN hb0 hb2;clear y0 y1 y2 y3;obtain⟨y0,y1,y2,y3⟩:=B2.cells;rw[HLN.out]at y3);go_ret;exact⟨rfl,aG⟩)):P:=h
theorem Jl(h:P:=by
 go_wp2_with (go_at_call 128;(first | (with_reducible refine (C5.out _ hbw).mono ?_) | (with_reducible refine (C6.out _ hbw).mono ?_));rintro e w2 ⟨rfl,hb2⟩;(replace hX:=Blk.keep hX hb2;replace hY:=Blk.keep hY hb2;replace hbw:=aN hbw hb2;clear x0 x1 x2 x3 x4 x5 x6 y0 y1 y2 y3 y4 y5;(obtain⟨x0,x1,x2,x3,x4,x5,x6⟩:=aV.facts hX;obtain⟨y0,y1,y2,y3,y4,y5⟩:=eu.facts hY)))
 all_goals (go_meet;exact⟨rfl,hX,hY,hbw⟩)):P:=h
theorem VO(h:P:=by
 go_enter func203,ntmps203;go_wp2_with (first | (go_at_call 261;refine (HL.out _).mono ?_;rintro e w1 ⟨rfl,hb1⟩;obtain⟨hc1,hf1⟩:=bg hb1;have hz1_0:w.heap.size<w1.heap.size:=jc;have hE1:=Env.keep (Env.keep hE (aU (Below.refl _ _) _)) hb1) | (go_at_call 260;refine (HC1.out _ hE1).mono ?_;rintro e w2 ⟨rfl,hb2⟩;obtain⟨hc2,hf2⟩:=bg hb2;have hz2_0:w.heap.size<w2.heap.size:=sS;have hE2:=Env.keep hE1 hb2;clear hE1) | (go_at_call 262;refine (HT.out _).mono ?_;rintro e wt ⟨rfl,hwt⟩;rw[hwt];clear hwt wt) | (go_at_call 260;refine (HC2.out _ hE2).mono ?_;rintro e w3 ⟨rfl,hb3⟩;obtain⟨hc3,hf3⟩:=bg hb3;have hz3_0:w.heap.size<w3.heap.size:=xI;have hE3:=Env.keep hE2 hb3) | (go_at_call 263;refine (uo _ _ _).mono ?_;rintro e X ⟨rfl,hX⟩;have cR:=xH R w3 X hX hR;have hbX:Below w3.heap.size w3 X:=xJ;clear hX) | (go_at_call 265;refine (JE _).mono ?_;rintro e w5 hres;rw[<-HR0.out aF]at hres;obtain⟨hbr,PA,Pc,rfl,hPR,hPA,hPc⟩:=HRs.out _ _ _ _ hres;clear hres cR;have hb5:Below w3.heap.size w3 w5:=aN hbX hbr;obtain⟨hc5,hf5⟩:=bg hb5;have hz5_0:w.heap.size<w5.heap.size:=xK;have hE5:=Env.keep hE3 hb5) | (go_at_call 266;refine (HP.out _ hE5).mono ?_;rintro e w6 hpp;obtain⟨hb6,QA,Qc,rfl,hQR,hQA⟩:=HPs.out _ _ _ hpp;clear hpp;obtain⟨hc6,hf6⟩:=bg hb6;have hz6_0:w.heap.size<w6.heap.size:=xM) | (go_at_call 94;refine (HN.out _).mono ?_;rintro e w7 ⟨rfl,hb7⟩;obtain⟨hc7,hf7⟩:=bg hb7;have hz7_0:w.heap.size<w7.heap.size:=xN))
 exact bodyPost_ret (v:=.tuple #[.agg #[.string ⟨#[]⟩,.slice none 0 0,.slice none 0 0],.int .i64 2]) AO rfl ⟨aG,none,0,none,0,rfl,aH.nil_ _ _ _,aH.nil_ _ _ _,(fun a ha=>jk),(fun a ha=>jk),Nat.le_refl _⟩):P:=h
theorem VQ(h:P:=by
 go_enter func203,ntmps203;go_wp2_with (first | (go_at_call 261;refine (HL.out _).mono ?_;rintro e w1 ⟨rfl,hb1⟩;obtain⟨hc1,hf1⟩:=bg hb1;have hz1_0:w.heap.size<w1.heap.size:=jc;have hE1:=Env.keep (Env.keep hE (aU (Below.refl _ _) _)) hb1) | (go_at_call 260;refine (HC1.out _ hE1).mono ?_;rintro e w2 ⟨rfl,hb2⟩;obtain⟨hc2,hf2⟩:=bg hb2;have hz2_0:w.heap.size<w2.heap.size:=sS;have hE2:=Env.keep hE1 hb2;clear hE1) | (go_at_call 262;refine (HT.out _).mono ?_;rintro e wt ⟨rfl,hwt⟩;rw[hwt];clear hwt wt) | (go_at_call 260;refine (HC2.out _ hE2).mono ?_;rintro e w3 ⟨rfl,hb3⟩;obtain⟨hc3,hf3⟩:=bg hb3;have hz3_0:w.heap.size<w3.heap.size:=xI;have hE3:=Env.keep hE2 hb3) | (go_at_call 263;refine (uo _ _ _).mono ?_;rintro e X ⟨rfl,hX⟩;have cR:=xH R w3 X hX hR;have hbX:Below w3.heap.size w3 X:=xJ;clear hX) | (go_at_call 265;refine cR.mono ?_;rintro e w5 hres;rw[HRR.out aF]at hres;obtain⟨hbr,PA,Pc,rfl,hPR,hPA,hPc⟩:=HRs.out _ _ _ _ hres;clear hres cR;have hb5:Below w3.heap.size w3 w5:=hbX.trans hbr;obtain⟨hc5,hf5⟩:=bg hb5;have hz5_0:w.heap.size<w5.heap.size:=xK;have hE5:=Env.keep hE3 hb5) | (go_at_call 266;refine (HP.out _ hE5).mono ?_;rintro e w6 hpp;obtain⟨hb6,QA,Qc,rfl,hQR,hQA⟩:=HPs.out _ _ _ hpp;clear hpp;obtain⟨hc6,hf6⟩:=bg hb6;have hz6_0:w.heap.size<w6.heap.size:=xM) | (go_at_call 94;refine (HN.out _).mono ?_;rintro e w7 ⟨rfl,hb7⟩;obtain⟨hc7,hf7⟩:=bg hb7;have hz7_0:w.heap.size<w7.heap.size:=xN))
 exact bodyPost_ret (v:=.tuple #[.agg #[.string ⟨#[]⟩,.slice none 0 0,.slice none 0 0],.int .i64 2]) AO rfl ⟨aG,none,0,none,0,rfl,aH.nil_ _ _ _,aH.nil_ _ _ _,(fun a ha=>jk),(fun a ha=>jk),Nat.le_refl _⟩):P:=h
theorem WA(h:P:=by
 have HV2:=HV.out
 simp only[Bool.false_and,Bool.and_false,Bool.false_eq_true,if_false]at HV2
 go_wp2_with (first | (go_at_call 188;refine (HS.out _).mono ?_;rintro e w3 ⟨A,c,rfl,hown,hb3⟩;have hX3:iP w3 w.heap.size ⟨#[]⟩ none 0 0 none 0 0 0:=Blk.keep hXc hb3;obtain⟨pb,po,u,rfl,hu,g0⟩:=(aH.of_own hown).at_ (k:=0) aA;(obtain rfl:u=.string C:=ou);clear hu;have gg:w3.cell? ⟨pb,po,none⟩=some (.string C):=g0;clear g0;have HR:=aB (aH.of_own hown);have hcap:=ru hown;clear hown;have hm0:(0:Int)<(m:Int)+1:=aA;have hm1:(1:Int)<=(m:Int)+1:=aA;have hm2:(m:Int)+1<=(c:Int):=aA) | (go_at_call 50;refine (HN.out _).mono ?_;rintro e w4 ⟨rfl,hb4⟩;have hX4:iP w4 w.heap.size ⟨#[]⟩ none 0 0 none 0 0 0:=Blk.keep hX3 hb4;have gg4:=aP hb4 gg;obtain⟨x0,x1,x2,x3,f0,f1,f2,f3⟩:=hX4.facts;have hz4:w.heap.size<w4.heap.size:=Blk.lt hX4) | (go_at_call 242;refine (HPT.out _ _ _ (EL ((HR.out.keep aG)) _ (fun h=>rf) hcap)).mono ?_;rintro e w5 hp5;obtain⟨hb5,PA,Pc,rfl,hPR,hPA⟩:=HPs.out _ _ _ hp5;clear hp5;have hX5:iP w5 w.heap.size ⟨#[]⟩ none 0 0 none 0 0 0:=Blk.keep hX4 hb5;have gg5:=aP hb5 gg4) | (go_at_call 243;refine (HQ.out _).mono ?_;rintro e w6 hq6;obtain⟨hb6,QA,Qc,rfl,hQR,hQA⟩:=HQs.out _ _ _ hq6;clear hq6;have hX6:iP w6 w.heap.size ⟨#[]⟩ none 0 0 none 0 0 0:=Blk.keep hX5 hb6;have gg6:=aP hb6 gg5;clear x0 x1 x2 x3 f0 f1 f2 f3;obtain⟨x0,x1,x2,x3,f0,f1,f2,f3⟩:=hX6.facts;have hz6:w.heap.size<w6.heap.size:=Blk.lt hX6))
 all_goals (rw[<-HV2];exact bodyPost_ret (v:=.agg #[.string ⟨#[]⟩,.slice none 0 0,.slice none 0 0,.int .i64 3]) Jb rfl (pK.err aG))):P:=h
theorem WC(h:P:=by
 clear HV1
 go_wp2_with (first | (go_at_call 188;refine (HS.out _).mono ?_;rintro e w3 ⟨A,c,rfl,hown,hb3⟩;have hX3:iP w3 w.heap.size ⟨#[]⟩ none 0 0 none 0 0 0:=Blk.keep hXc hb3;obtain⟨pb,po,u,rfl,hu,g0⟩:=(aH.of_own hown).at_ (k:=0) aA;(obtain rfl:u=.string C:=ou);clear hu;have gg:w3.cell? ⟨pb,po,none⟩=some (.string C):=g0;clear g0;have HR:=aB (aH.of_own hown);have hcap:=ru hown;clear hown;have hm0:(0:Int)<(m:Int)+1:=aA;have hm1:(1:Int)<=(m:Int)+1:=aA;have hm2:(m:Int)+1<=(c:Int):=aA) | (go_at_call 50;refine (HN.out _).mono ?_;rintro e w4 ⟨rfl,hb4⟩;have hX4:iP w4 w.heap.size ⟨#[]⟩ none 0 0 none 0 0 0:=Blk.keep hX3 hb4;have gg4:=aP hb4 gg;obtain⟨x0,x1,x2,x3,f0,f1,f2,f3⟩:=hX4.facts;have hz4:w.heap.size<w4.heap.size:=Blk.lt hX4) | (go_at_call 242;refine (HPT.out _ _ _ (EL ((HR.out.keep aG)) _ (fun h=>rf) hcap)).mono ?_;rintro e w5 hp5;obtain⟨hb5,PA,Pc,rfl,hPR,hPA⟩:=HPs.out _ _ _ hp5;clear hp5;have hX5:iP w5 w.heap.size ⟨#[]⟩ none 0 0 none 0 0 0:=Blk.keep hX4 hb5;have gg5:=aP hb5 gg4) | (go_at_call 243;refine (HQ.out _).mono ?_;rintro e w6 hq6;obtain⟨hb6,QA,Qc,rfl,hQR,hQA⟩:=HQs.out _ _ _ hq6;clear hq6;have hX6:iP w6 w.heap.size ⟨#[]⟩ none 0 0 none 0 0 0:=Blk.keep hX5 hb6;have gg6:=aP hb6 gg5;clear x0 x1 x2 x3 f0 f1 f2 f3;obtain⟨x0,x1,x2,x3,f0,f1,f2,f3⟩:=hX6.facts;have hz6:w.heap.size<w6.heap.size:=Blk.lt hX6))
 all_goals (rw[<-HV2];exact bodyPost_ret (v:=.agg #[.string ⟨#[]⟩,.slice none 0 0,.slice none 0 0,.int .i64 2]) Jb rfl (pK.err aG))):P:=h
theorem Xj(h:P:=by
 clear hK
 go_enter func110,ntmps110
 go_wp2_with (first | (go_at_call 172;refine (HC.out _ aG).mono ?_;rintro e w2 ⟨g,cap,rfl,hown,hb2⟩;have c0:=aP hb2 (Boxed.new w 25 (.slice B nb cb)).cell;have hown2:=(show w2.ownsRow (w.heap.size+1) _ _ _ _ _ from Xd);have hbk:=(hown2.lt g rfl).1;clear hown) | (go_at_call 171;refine (HD.out _ _ _ c0 aG hown2).mono ?_;rintro e w3 ⟨rfl,hR,hb3⟩))
 go_ret2
 exact⟨aN (aU (Below.refl _ _) _) (hb2.trans (hb3.mono aF)),_,_,rfl,hR,fun _ a ha=>Xa⟩):P:=h
theorem Xh(h:P:=by
 clear hK
 go_enter func109,ntmps109
 go_wp2_with (first | (go_at_call 169;refine (HC.out _ aG).mono ?_;rintro e w2 ⟨g,cap,rfl,hown,hb2⟩;have c0:=aP hb2 (Boxed.new w 24 (.slice B nb cb)).cell;have hown2:=(show w2.ownsRow (w.heap.size+1) _ _ _ _ _ from Xd);have hbk:=(hown2.lt g rfl).1;clear hown) | (go_at_call 168;refine (HD.out _ _ _ c0 aG hown2).mono ?_;rintro e w3 ⟨rfl,hR,hb3⟩))
 go_ret2
 exact⟨aN (aU (Below.refl _ _) _) (hb2.trans (hb3.mono aF)),_,_,rfl,hR,fun _ a ha=>Xa⟩):P:=h
theorem Je(h:P:=by
 go_enter func127,ntmps127
 go_wp2_with (first | (go_at_call 130;refine (HC.out _).mono ?_;rintro e w1 ⟨hb1,A,c,rfl,hR⟩;have HR:=aB hR;clear hR) | (go_at_call 84;refine (HD.out _).mono ?_;rintro e w2 ⟨rfl,hb2⟩;have hX2:gG w2 w1.heap.size cu (.slice A m c) _:=(hb2.block w1.heap.size aF).trans (World.alloc_heap_new _ _)) | (go_at_call 186;refine (HP.out _).mono ?_;rintro e w3 ⟨hb3,B,cb,D,cd,rfl,hB,hD⟩;have HB:=aB hB;clear hB hD;have hX3:gG w3 w1.heap.size cu (.slice A m c) _:=Blk.keep hX2 hb3;obtain⟨x0,x1,x2,_⟩:=hX3.facts;have hz3:w1.heap.size<w3.heap.size:=Blk.lt hX3))
 all_goals (rw[WI];go_wp2)
 all_goals (go_ret;exact⟨rfl,aG⟩)):P:=h
theorem MZ(h:P:=by
 have hf0:0<f:=by
  rcases Nat.eq_zero_or_pos f with h0 | h0
  ·subst h0;simp at hz;omega
  ·exact h0
 have hz2:z / 128<128 ^ (f-1+1):=by
  rw[show f-1+1=f by omega]
  rw[Nat.pow_succ]at hz
  exact Nat.div_lt_of_lt_mul (by rw[Nat.mul_comm];exact hz)
 have HV1:=aB hV1
 have HZ2:=aB hz2
 clear HVA hV1 hz2 hz
 go_wp2_with (at_builtin;refine wpList_append_own _ rfl _ _ 105 rfl w.heap.size 5 i0 (.int .u8 0) 1 1 underlying105 HI.out.1 HI.out.2.1 HI.out.2.2.1 HI.out.2.2.2 rfl aK _ _ _ rfl (hown.alloc _) ⟨wr.heap.size,0,none⟩ 1 1 [.int .u8 ((z % 128+128:Nat):Int)] rfl rfl (cell_one_new _ _ _) fG cZ aA aJ ?_;intro v' w3 hown1 hgrow1 _;obtain⟨g1,cap1,rfl⟩:=ownsRow_succ hown1;have hb3:Below w.heap.size w w3:=(hbr.alloc hbs _).grown hgrow1 aJ (fun r e=>dK hown r e);have hbs3:=hb3.size;clear hown)
 have hal:(acc++[z % 128+128]).length=k+1:=by rw[List.length_append,<-HKL.out];rfl
 refine⟨⟨f-1,z / 128,acc++[z % 128+128],some ⟨g1,0,none⟩,cap1,aF,by rw[hal],HZ2.out,aA,by rw[hal];have:=HKL.out;omega,aB ?_,?_,hb3⟩,?_⟩
 ·rw[HV1.out,show f-1+3=f+2 by omega]
 ·rw[hal,oZ];exact hown1
 ·simp[intOf];omega):P:=h
theorem EO(h:P:=by
 go_wp2_with (((first | (go_at_call 32;refine (C1.out _ aG).mono ?_) | (go_at_call 39;refine (C2.out _).mono ?_));rintro e w2 ⟨rfl,hb2⟩;(replace hX:=Blk.keep hX hb2;replace hY:=Blk.keep hY hb2;replace hbw:=aN hbw hb2;clear x0 x1 x2 x3 x4 x5 x6 y0 y1 y2 y3 y4 y5;(obtain⟨x0,x1,x2,x3,x4,x5,x6⟩:=aV.facts hX;obtain⟨y0,y1,y2,y3,y4,y5⟩:=eu.facts hY))))
 all_goals (go_meet;exact⟨rfl,hX,hY,hbw⟩)):P:=h
theorem MP(h:P:=by
 have hk0:(0:Int)<=(k:Int):=aA
 have hk1:(k:Int)<(n:Int):=aA
 have htk:(xs.map f).take (k+1)=(xs.map f).take k++[f x]:=by rw[List.take_add_one,List.getElem?_map,hx];rfl
 have HTK:=aB htk
 have HX:=aB hx
 clear hcell hx htk
 go_wp2_with (first | (go_at_fn g;refine (HF.out x (List.mem_of_getElem? HX.out) _ aG).mono ?_;rintro e w2 ⟨rfl,hb2⟩) | (at_builtin;refine wpList_append_own _ rfl _ _ 24 rfl w.heap.size 9 i0 (.string ⟨#[]⟩) 1 16 underlying24 HI.out.1 HI.out.2.1 HI.out.2.2.1 HI.out.2.2.2 rfl aK _ _ _ rfl ((dV hown hb2).alloc _) ⟨w2.heap.size,0,none⟩ 1 1 [.string (f x)] rfl rfl (cell_one_new _ _ _) fG cZ aA MK ?_;intro v' w3 hown' hgrow _;obtain⟨g',cap',rfl⟩:=ownsRow_succ hown'))
 refine⟨⟨k+1,some ⟨g',0,none⟩,cap',⟨rfl,aj,aA⟩,?_,?_⟩,au⟩
 ·rw[HTK.out,List.map_append];exact hown'
 ·have h1:=hbr.size
  have h2:=hb2.size
  exact ((hbr.trans (hb2.mono h1)).alloc aA _).grown hgrow aJ (fun r e=>dK hown r e)):P:=h
theorem FY(h:P:=by
 go_enter func86,ntmps86
 go_wp2_with (first | (go_at_call 147;refine (HC.out _ hE).mono ?_;rintro e w1 ⟨hb1,A,c,rfl,hRp⟩) | (go_at_call 148;refine (HD.out _ (Env.keep (Env.keep hE hb1) (aU (Below.refl _ _) _))).mono ?_;rintro e w2 ⟨hb2,B,cb,D,cd,rfl,hRq,_⟩;obtain⟨hc2,hf2⟩:=bg hb2;have hz2:w1.heap.size<w2.heap.size:=yR) | (go_at_call 149;refine (HH.out _).mono ?_;rintro e w3 ⟨rfl,hb3⟩;obtain⟨hc3,hf3⟩:=bg hb3;have hz3:w2.heap.size<w3.heap.size:=BQ))
 go_ret
 exact⟨rfl,aG⟩):P:=h
theorem Vs(h:P:=by
 go_enter func130,ntmps130
 go_wp2_with (first | (go_at_call 188;refine (HS.out _).mono ?_;rintro e w1 ⟨A,c,rfl,hown,hb1⟩;have hX1:gG w1 w.heap.size ⟨#[]⟩ (.slice none 0 0) false:=Blk.keep (World.alloc_heap_new _ _) hb1;obtain⟨pb,po,u,rfl,hu,g0⟩:=(aH.of_own hown).at_ (k:=0) aA;(obtain rfl:u=.string l0:=ou);clear hu;have gg:w1.cell? ⟨pb,po,none⟩=some (.string l0):=g0;clear g0;have hR1:=aH.of_own hown;clear hown;obtain⟨x0,x1,x2,f0,f1,f2⟩:=hX1.facts;have hz1:w.heap.size<w1.heap.size:=Blk.lt hX1) | (go_at_call 50;refine (HN.out _).mono ?_;rintro e w2 ⟨rfl,hb2⟩;have hX2:gG w2 w.heap.size ⟨#[]⟩ (.slice none 0 0) false:=Blk.keep hX1 hb2;have gg2:=aP hb2 gg;have hR2:=hR1.keep hb2;clear x0 x1 x2 f0 f1 f2;obtain⟨x0,x1,x2,f0,f1,f2⟩:=hX2.facts;have hz2:w.heap.size<w2.heap.size:=Blk.lt hX2))
 rw[<-HV.out,HNO.out]
 exact bodyPost_ret (v:=.tuple #[.agg #[.string ⟨#[]⟩,.slice none 0 0,.bool false],.bool false]) JW rfl ⟨aG,rfl⟩):P:=h
theorem VD(h:P:=by
 have he:t=64:=aA
 have HW2:Hid (ah wr (w.heap.size+1) 265 S):=aB (by
  have:=HW.out
  rw[he,aJt HS.out.len]at this;exact this)
 have hl:(w32 S).length=64:=by rw[rG,HS.out.len]
 have hi:(prog.info? 265).map (·.size)=some (w32 S).toArray.size:=by rw[List.size_toArray,hl];kernel_rfl
 have hpl:(w32 (pre S 0)).toArray.size=(w32 S).toArray.size:=aRg
 have h1:(w32 S).toArray.all (·.oneCell')=true:=LQ
 clear he HW
 go_wp2_with (first | (refine wpList_load_row rfl _ _ rfl (w.heap.size+1) rfl _ (w32 S).toArray (0,0) _ HW2.out underlying265 rfl hi ?_) | (refine wpList_store_row rfl _ _ _ rfl w.heap.size (w32 S).toArray rfl rfl _ _ HZ.out hi hpl h1 ?_))
 refine bodyPost_ret (v:=.agg (w32 S).toArray) ?_ rfl ⟨rfl,?_⟩
 ·exact results_cell_row rfl _ _ w.heap.size _ _ (0,0) _ rfl (setRow_heap _ _ _ _ _ _ HZ.out) underlying265 rfl hi
 ·exact below_setRow hbw (Nat.le_refl _) _):P:=h
theorem OJ(h:P:=by
 clear hbad
 go_enter func174,ntmps174
 go_wp2_with (first | (go_at_call 147;refine (H1.out _ (Env.keep hE (aU (Below.refl _ _) _))).mono ?_;rintro e w1 ⟨hb1,k1,t1,A1,n1,d1,b1,rfl⟩;have hE1:=Env.keep hE (fE _ hb1);have hB1:bT w1 w.heap.size 0 ⟨#[]⟩ (.slice none 0 0) false:=(hb1.block w.heap.size aF).trans (World.alloc_heap_new _ _);clear hE) | (go_at_call 147;refine (H2.out _ (Env.keep hE1 (aU (Below.refl _ _) _))).mono ?_;rintro e w2 ⟨hb2,k2,t2,A2,n2,d2,b2,rfl⟩;have hB2:bT w2 w.heap.size 0 ⟨#[]⟩ (.slice none 0 0) false:=Blk.keep hB1 (fE _ hb2);have hbw2:Below w.heap.size w w2:=aN (fE _ hb1) (fE _ hb2);obtain⟨c0,c1,c2,c3,f0,f1,f2,f3⟩:=hB2.facts;have hz2:w.heap.size<w2.heap.size:=Blk.lt hB2;clear hE1))
 exact bodyPost_ret (v:=.tuple #[.agg #[.int .i64 0,.string ⟨#[]⟩,.slice none 0 0,.bool false],.bool false,.int .i64 1]) aRl rfl (uI.none_ _ _ _ _ _ _ aG)):P:=h
theorem Gf(h:P:=by
 clear hV2
 (go_enter func49,ntmps49;go_wp2_with (first | (go_at_call 100;(first | (refine (C1.out _ aG).mono ?_;clear C1) | refine (C2.out _ aG).mono ?_);rintro e w2 ⟨rfl,hb2⟩;(have hX2:aV w2 w.heap.size fr till ⟨#[]⟩ A cl.length ca B co.length cb S si.length cs us:=EY;obtain⟨x0,x1,x2,x3,x4,x5,x6⟩:=hX2.facts)) | (go_at_call 103;refine (C3.out _ aG).mono ?_;rintro e w2 ⟨rfl,hb2⟩));go_ret;exact⟨rfl,aG⟩)):P:=h
theorem JY(h:P:=by
 clear hv h1
 go_enter func258,ntmps258
 go_wp2_with (go_at_call 50;refine (H1.out _).mono ?_;rintro e w1 ⟨rfl,hb1⟩;have hX1:oI w1 w.heap.size c P np cp Q nq cq:=Blk.keep (World.alloc_heap_new _ _) hb1;have x1:w1.cell? ⟨w.heap.size,1,none⟩=some (.slice P np cp):=Blk.cell hX1 1;have x2:w1.cell? ⟨w.heap.size,2,none⟩=some (.slice Q nq cq):=Blk.cell hX1 2)
 go_ret
 exact⟨rfl,aG⟩):P:=h
theorem Vt(h:P:=by
 go_wp2_with (go_at_call 189;refine (HP.out _).mono ?_;rintro e w4 ⟨rfl,hb4⟩;have hP4:gG w4 w.heap.size ⟨#[]⟩ (.slice none 0 0) false:=Blk.keep hP hb4;have hB4:gG w4 w2.heap.size l0 (.slice A' acc.length c') false:=Blk.keep hB hb4;have hown4:=dV hown hb4;have hbw4:=aN hbw hb4;have hFr4:∀ j,j<w2.heap.size->w4.heap[j]? = w2.heap[j]?:=(fun j q1=>(hb4.block j aA).trans (hFr j q1));have hzr4:w2.heap.size+1<=w4.heap.size:=Nat.le_trans hzr hb4.size;have hcell4:=aP hb4 hcell;clear x0 x1 x2 f0 f1 f2 y0 y1 y2 g0 g1 g2;obtain⟨x0,x1,x2,f0,f1,f2⟩:=hP4.facts;obtain⟨y0,y1,y2,g0,g1,g2⟩:=hB4.facts)
 rw[<-HV.out,HV2.out,HNO.out]
 exact bodyPost_ret (v:=.tuple #[.agg #[.string ⟨#[]⟩,.slice none 0 0,.bool false],.bool false]) JW rfl ⟨aG,rfl⟩):P:=h
theorem MV(h:P:=by
 have hm:(z:Int) % 256=z:=aA
 have HV1:=aB hV1
 clear HVA hV1
 go_wp2_with (at_builtin;refine wpList_append_own _ rfl _ _ 105 rfl w.heap.size 5 i0 (.int .u8 0) 1 1 underlying105 HI.out.1 HI.out.2.1 HI.out.2.2.1 HI.out.2.2.2 rfl aK _ _ _ rfl (hown.alloc _) ⟨wr.heap.size,0,none⟩ 1 1 [.int .u8 (z:Int)] rfl rfl (cell_one_new _ _ _) fG cZ aA aJ ?_;intro v' w3 hown1 hgrow1 _;obtain⟨g1,cap1,rfl⟩:=ownsRow_succ hown1;have hb3:Below w.heap.size w w3:=(hbr.alloc hbs _).grown hgrow1 aJ (fun r e=>dK hown r e);have hbs3:=hb3.size;clear hown)
 go_ret
 refine⟨some ⟨g1,0,none⟩,cap1,?_,?_,hb3⟩
 ·rw[HV1.out,List.length_append,<-HKL.out];rfl
 ·rw[HV1.out,List.length_append,<-HKL.out,oZ];exact hown1):P:=h
theorem XD(h:P:=by
 simp only[aX,List.take_succ_cons,List.take_zero,List.drop_succ_cons,List.drop_zero,Act.put,aW,ai]
 refine⟨fun W hS=>?_,fun W hS=>?_,fun W hS=>?_,fun W hS=>?_,fun W hS=>?_,fun W hS=>?_,fun W hS=>?_,fun W hS=>?_,trivial⟩
 all_goals
  obtain⟨y0,y1,y2,y3⟩:=hS.t.cells
  rw[HLN.out,HXA.out]at y3
  have hbW:=hS.b
  go_wp2_with (first
   | (refine ja aC 27 _ rfl ⟨b,o+k*7,none⟩ (.agg UX) rfl (HCX.out _ hbW) ?_)
   | (refine ja aC 59 _ rfl ⟨w.heap.size+1,0,none⟩ (.agg X) rfl (vC hS.a HAS.out) ?_)
   | (go_at_call 65;refine (HHH.out _ hbW).mono ?_;rintro e w4 ⟨rfl,hb4⟩))
  exact⟨rfl,rfl,qp⟩):P:=h
theorem MQ(h:P:=by
 obtain rfl:k=n:=aA
 have ht:(xs.map f).take k=xs.map f:=List.take_of_length_le (by simp;have:=HL.out;omega)
 rw[ht]at hown
 have cJ:=ZQ A' k c' (xs.map f) wr w.heap.size hown HLEN.out hn
 have HJ:=aB cJ
 have cO:=fun (b cc:Nat) (W:World) h0 h1=>BC b cc (jh (xs.map f)) ⟨#[126]⟩ W h0 h1
 have hVO:=HV.out
 rw[<-hVO]at cO
 generalize jh (xs.map f)=T at *
 have HO:=aB cO
 clear cJ cO hVO HV ht hown
 go_wp2_with (first | (go_at_call 72;refine HJ.out.mono ?_;rintro e w2 ⟨rfl,hb2⟩) | (go_at_call 108;refine (HO.out _ _ _ (FO _ _ _ _ _ aF).1 (FO _ _ _ _ _ aF).2).mono ?_;rintro e w3 ⟨rfl,hb3⟩))
 go_ret
 exact⟨rfl,aG⟩):P:=h
theorem Wv(h:P:=by
 simp only[aX,List.take_succ_cons,List.take_zero,List.drop_succ_cons,List.drop_zero,Act.put,aW,ai]
 refine⟨fun W hS=>?_,fun W hS=>?_,fun W hS=>?_,fun W hS=>?_,fun W hS=>?_,fun W hS=>?_,fun W hS=>?_,fun W hS=>?_,fun W hS=>?_,fun W hS=>?_,fun W hS=>?_,fun W hS=>?_,fun W hS=>?_,fun W hS=>?_,fun W hS=>?_,fun W hS=>?_,fun W hS=>?_,fun W hS=>?_,fun W hS=>?_,trivial⟩
 all_goals
  go_wp2_with (first | (refine ja aC 23 _ rfl ⟨b,o+k*5,none⟩ (.agg XK) rfl (HLW.out _ hS) ?_) | (refine ja aC 23 _ rfl ⟨b,o+(k-1)*5,none⟩ (.agg YK) rfl (HLP.out _ hS) ?_) | (go_at_call 60;refine (HBF.out _).mono ?_;rintro e w2 ⟨rfl,hb2⟩))
  exact⟨rfl,rfl,qp⟩):P:=h
theorem Sj(h:P:=by
 go_wp2_with (go_at_call 112;refine (KC.out _).mono ?_;rintro e w4 ⟨rfl,rfl⟩)
 obtain⟨p0,p1,p2,p3,p4,p5,p6⟩:=(HZ.out.put 0 0 ⟨#[]⟩ none 0 0 none 0 0 none 0 0 0).facts
 clear c0 c1 c2 c3 c4 c5 c6 z0 z1 z2 z3 z4 z5 z6 q00 q10 q20 q30 q40 q50 q60
 exact bodyPost_ret (v:=.tuple #[.agg #[.int .i64 0,.int .i64 0,.string ⟨#[]⟩,.slice none 0 0,.slice none 0 0,.slice none 0 0,.int .i64 0],.int .i64 0]) Sl rfl ⟨QS HBW.out aA _ _ _ _ _ _ _,⟨none,0,none,0,none,0⟩,rfl,⟨aH.nil_ _ _ _,aH.nil_ _ _ _,aH.nil_ _ _ _⟩,⟨fun h=>absurd h (Nat.lt_irrefl 0),fun h=>absurd h (Nat.lt_irrefl 0),fun h=>absurd h (Nat.lt_irrefl 0)⟩⟩):P:=h
theorem TW(h:P:=by
 show (if _ then ((List.range 16).mapM fun i=>prog.keyLits (d+1) 5 (([.int .u8 a0,.int .u8 a1,.int .u8 a2,.int .u8 a3,.int .u8 a4,.int .u8 a5,.int .u8 a6,.int .u8 a7,.int .u8 a8,.int .u8 a9,.int .u8 a10,.int .u8 a11,.int .u8 a12,.int .u8 a13,.int .u8 a14,.int .u8 a15]:List Value).drop (i*prog.cellsOf 5) |>.take (prog.cellsOf 5))).map List.flatten else none)=_
 rw[if_pos aC,show prog.cellsOf 5=1 by kernel_rfl,show List.range 16=[0,1,2,3,4,5,6,7,8,9,10,11,12,13,14,15] from rfl]
 simp[kC d a0 h0,kC d a1 h1,kC d a2 h2,kC d a3 h3,kC d a4 h4,kC d a5 h5,kC d a6 h6,kC d a7 h7,kC d a8 h8,kC d a9 h9,kC d a10 h10,kC d a11 h11,kC d a12 h12,kC d a13 h13,kC d a14 h14,kC d a15 h15]):P:=h
theorem Si(h:P:=by
 (try simp only[Act.put,aW])
 refine wpAnyH_ready (rs:=[23]) aC aF ?_
 refine AllReadyH.cons (o:=_) rfl (fun K hK=>?_) ?_
 ·go_simp
  refine hK.out _ _ ?_ (fun hHeld=>?_)
  ·(try dsimp only)
   (go_split_ands;refine⟨sG ?_ bH,sG ?_ bH,sG ?_ bH,sG ?_ bH,sG ?_ bH,sG ?_ bH,sG ?_ bH,sG ?_ bH,aDl ?_ aA⟩ <;> assumption)
  clear hK K
  (try simp only[Act.put,aW])
  refine wpAnyH_done aC ?_ _
  refine NoPanic.normal ?_
  go_wp2_with fail
  go_meet
  exact⟨_,rfl,hC3.put _ _ _ _ _ _ _ _ _ _ _ _ _,aA,je⟩
 exact AllReadyH.nil):P:=h
theorem sQ(h:P:=by
 go_wp2_with fail
 go_quiet (fail)
 go_wp2
 go_ret
 exact⟨rfl,aG⟩):P:=h
theorem Oh(h:P:=by
 obtain rfl:k=s.size:=aA
 have hback:∀ c,(convert 105 9 (.slice (some ⟨w.heap.size,0,none⟩) s.size c)).run prog wr=.ok (.string ⟨(gz s.data.toList).toArray⟩) wr:=fun c =>
  aAv wr 105 9 5 ⟨w.heap.size,0,none⟩ s.size c (gz s.data.toList) (by simp[gz]) underlying105 underlying5 underlying9 (fun j hj=>by
   have hj':j<s.size:=by rw[Lib.size_eq];simpa[gz] using hj
   have e:(⟨w.heap.size,0,none⟩:Addr).add j=⟨w.heap.size,j,none⟩:=oU
   rw[e,hB.cell,H.out j hj',aAw s j hj])
 go_wp2
 go_ret
 exact⟨rfl,hb⟩):P:=h
theorem Xm(h:P:=by
 refine wp_region_quiet_below aC aC ?_;(repeat (any_goals (first | go_big_quiet_step ((first | exact fF HN.out _ _ | exact fF HW.out _ _)) | quiet_step ((first | exact fF HN.out _ _ | exact fF HW.out _ _)))));refine wpQuiet_nil ?_;intro _ hwq;obtain⟨⟨dq,osq⟩,hwq⟩:=hwq;subst hwq;have hb3:=below_regrown (wr.alloc (.cells #[.string q1,.string q2] 298)) dq osq;generalize grow (redrawn (wr.alloc (.cells #[.string q1,.string q2] 298)) dq) osq=w3 at *
 go_wp2
 go_ret2
 exact⟨rfl,aG⟩):P:=h
theorem I4(h:P:=by
 rw[hv]
 rw[h1]at H1
 clear hv h1
 go_enter func204,ntmps204
 go_wp2_with (go_at_call 94;refine (H1.out _).mono ?_;rintro e w1 ⟨rfl,hb1⟩;obtain⟨hc1,hf1⟩:=bg hb1;have hz1_0:w.heap.size<w1.heap.size:=jc)
 go_ret2
 exact⟨rfl,aG⟩):P:=h
theorem WX(h:P:=by
 rw[hpx]at hc
 have HC:=aB hc
 have hVs:V=(x.L.drop (k+1)).all (fun y=>pr y.c):=by rw[HI.out];exact aPl (fun y=>pr y.c) _ _ _ hx hpx
 have HI2:=aB hVs
 clear hc hx hpx hVs
 go_wp2_with (first | (refine ay rfl _ _ rfl ⟨b,o+k*7,none⟩ xv rfl HLD.out ?_) | (((first | go_at_call 9 | go_at_call 32);refine (HC.out).mono ?_;rintro e w2 ⟨rfl,hb2⟩)))
 exact⟨⟨k+1,aA,aj,HI2,B.keep hb2,aN hb hb2⟩,au⟩):P:=h
theorem Wq(h:P:=by
 simp only[aX,List.take_succ_cons,List.take_zero,List.drop_succ_cons,List.drop_zero,Act.put,aW,ai]
 refine⟨fun W hS=>?_,fun W hS=>?_,fun W hS=>?_,fun W hS=>?_,fun W hS=>?_,fun W hS=>?_,fun W hS=>?_,fun W hS=>?_,fun W hS=>?_,fun W hS=>?_,fun W hS=>?_,fun W hS=>?_,fun W hS=>?_,fun W hS=>?_,fun W hS=>?_,fun W hS=>?_,fun W hS=>?_,fun W hS=>?_,fun W hS=>?_,trivial⟩
 all_goals
  go_wp2
  exact⟨rfl,rfl,qp⟩):P:=h
theorem IP(h:P:=by
 (try simp only[bP,DL,IsV,ai,Region.binds,and_true,true_and]at hd)
 simp only[aX,bQ,Act.put]
 (try simp only[hd])
 clear hd
 go_wp2
 exact⟨rfl,rfl,rfl,HxG.refl _⟩):P:=h
theorem V4(h:P:=by
 refine wp_region_quiet_below aC aC ?_;(repeat (any_goals (first | go_big_quiet_step ((first | exact fF HN.out _ _ | exact fF HW.out _ _)) | quiet_step ((first | exact fF HN.out _ _ | exact fF HW.out _ _)))));refine wpQuiet_nil ?_;intro _ hwq;obtain⟨⟨dq,osq⟩,hwq⟩:=hwq;subst hwq;have hb3:=below_regrown (wr) dq osq;generalize grow (redrawn (wr) dq) osq=w3 at *
 go_wp2
 go_ret
 exact⟨rfl,aG⟩):P:=h
theorem Xk(h:P:=by
 go_enter func84,ntmps84
 go_wp2_with (go_at_call 145;refine (HC.out _).mono ?_;rintro e w1 ⟨rfl,hb1⟩)
 go_ret
 exact⟨rfl,aG⟩):P:=h
theorem Jv(h:P:=by
 refine hK.out _ _ ⟨(setRow_other _ _ _ _ aA).trans hS4.1,below_setRow hS4.2 aA _⟩ (fun hS5=>?_)
 clear hK K
 (try simp only[Act.put,aW])
 refine wpAnyH_done aC ?_ _
 refine NoPanic.normal ?_
 have HB5:=aB hS5.2
 clear hS hS2 hS3 hS4 hS5
 go_wp2_with fail
 go_meet
 exact⟨_,_,rfl,rfl,aA,aA,aA,H2.out.1,H2.out.2.1,HB5.out⟩):P:=h
theorem uV(h:P:=by
 go_enter func43,ntmps43
 (go_wp2;go_ret;exact⟨dX zh,aG⟩)):P:=h
theorem WP(h:P:=by
 clear K7 e7
 go_wp2_with (go_at_call 129;refine (C7.out _ hbw).mono ?_;rintro e w2 ⟨rfl,hb2⟩;(replace hX:=Blk.keep hX hb2;replace hY:=Blk.keep hY hb2;replace hbw:=aN hbw hb2;clear x0 x1 x2 x3 x4 x5 x6 y0 y1 y2 y3 y4 y5;(obtain⟨x0,x1,x2,x3,x4,x5,x6⟩:=aV.facts hX;obtain⟨y0,y1,y2,y3,y4,y5⟩:=eu.facts hY)))
 all_goals (go_ret;exact⟨rfl,hbw⟩)):P:=h
theorem Rt(h:P:=by
 simp only[e5]
 clear hD9 e5
 refine wpList_store_row rfl 30 _ _ rfl (w.heap.size+2) DG rfl rfl _ ZS hS9.z HDI.out Cf HDO.out ?_
 go_wp2
 refine bodyPost_ret (v:=.agg DG) ?_ rfl ⟨rfl,?_⟩
 ·exact results_cell_row rfl _ _ (w.heap.size+2) _ _ (0,0) _ rfl (setRow_heap _ _ _ _ _ _ hS9.z) underlying30 rfl HDI.out
 ·exact below_setRow hS9.b aA _):P:=h
theorem JR(h:P:=by
 clear c1 c2
 go_enter func189,ntmps189
 go_wp2_with (go_at_call 105;refine (HW.out _).mono ?_;rintro e w1 ⟨rfl,hb1⟩)
 go_ret
 exact⟨dX aF,aG⟩):P:=h
theorem Rq(h:P:=by
 (try simp only[bP,DL,IsV,ai,Region.binds,and_true,true_and]at hd)
 obtain⟨⟨g,e2,hr5⟩,_⟩:=hd
 simp only[aX,bQ,Act.put]
 (try simp only[e2])
 have hbW:=hS.b
 go_wp2_with (go_at_call 56;refine (HO.out _ _ hr5 hbW).mono ?_;rintro e w5 ⟨rfl,hb5⟩)
 exact⟨rfl,rfl,rfl,aG⟩):P:=h
theorem wR(h:P:=by
 (first | (simp[go_sem];done) | (simp[go_sem, *];done))):P:=h
theorem xR(h:P:=by
 (go_enter func67,ntmps67;go_wp2;go_ret;exact⟨rfl,aG⟩)):P:=h
theorem y9(h:P:=by
 go_enter func126,ntmps126
 (go_wp2;go_ret;exact⟨dX zh,aG⟩)):P:=h
theorem Ku(h:P:=by
 go_wp2_with (first | (go_at_call 95;refine HKK.out.mono ?_;rintro e w3 ⟨rfl,q,hw3⟩;obtain⟨hb3,cJ⟩:=HJ.out q w3 hw3;clear hw3) | (go_at_call 72;refine cJ.mono ?_;rintro e w4 ⟨rfl,hb4⟩))
 go_ret2
 exact⟨rfl,aG⟩):P:=h
theorem WW(h:P:=by
 go_wp2_with (first | (refine ay rfl _ _ rfl ⟨b,o+k*7,none⟩ xv rfl HLD.out ?_) | (((first | go_at_call 9 | go_at_call 32);refine (HC.out).mono ?_;rintro e w2 ⟨rfl,hb2⟩)))
 go_ret
 exact⟨rfl,aN hb hb2⟩):P:=h
theorem Mc(h:P:=by
 obtain⟨A',c',rfl⟩:=uB hown1
 go_ret
 have hl:(V++nb s).length=k+s.size:=by rw[List.length_append,nT,<-HKL.out]
 refine⟨A',c',by rw[hl];rfl,?_,hb2.grown hgrow1 vT (fun r e=>dK hown r e)⟩
 rw[hl,oZ,<-Zc];exact hown1):P:=h
theorem UU(h:P:=by
 clear hok
 go_wp2_with (go_at_call 76;refine (wZ _).mono ?_;rintro e w4 ⟨rfl,hmw⟩;subst hmw)
 rw[HR.out]
 exact xA HSZ.out.p (HSZ.out.size (RI _ _ hi)) rfl rfl):P:=h
theorem Vo(h:P:=by
 have hne:x≠s:=fun e=>by rw[e]at he;simp at he
 have HK2:Hid (jC (xs.take (k+1)) s=false):=aB (aNl HK.out hx hne)
 clear HK hcell hx hne
 go_wp2
 exact⟨⟨k+1,aA,aj,HK2,hb⟩,au⟩):P:=h
theorem Dy(h:P:=by
 clear hV
 go_enter func9,ntmps9
 go_wp2
 go_ret
 exact⟨rfl,aG⟩):P:=h
theorem SH(h:P:=by
 obtain⟨cc,hcc⟩:∃ cc,cc=x.c:=⟨_,rfl⟩
 rw[<-hcc]at y3 hcap
 clear hcc
 go_wp2_with fail
 all_goals (go_meet;first | exact⟨_,_,rfl,fun h=>aA,rfl,rfl,rfl⟩ | trace_state)):P:=h
theorem Dz(h:P:=by
 go_enter func26,ntmps26
 go_wp2
 go_ret
 exact⟨rfl,aG⟩):P:=h
theorem Xn(h:P:=by
 (try simp only[hd])
 clear hd
 have hld:=jZ hS.y HYS.out
 go_wp2_with (refine ay rfl 27 _ rfl ⟨w.heap.size+1,0,none⟩ (.agg Y) rfl hld ?_)
 exact⟨rfl,rfl,rfl,aG⟩):P:=h
theorem U7(h:P:=by
 clear hl hsz hs HV
 go_wp2_with (go_at_call 207;refine (HW.out _ (HP.out.keep hbw) (HQ.out.keep hbw)).mono ?_;rintro e w3 ⟨rfl,hb3⟩)
 go_ret2
 exact⟨rfl,aG⟩):P:=h
theorem D5(h:P:=by
 go_enter func105,ntmps105
 go_wp2
 go_ret
 exact⟨rfl,aG⟩):P:=h
theorem JS(h:P:=by
 clear c1 c2
 go_enter func189,ntmps189
 go_wp2
 go_ret
 exact⟨rfl,aG⟩):P:=h
theorem Xo(h:P:=by
 (try simp only[hd])
 clear hd
 obtain⟨y0,y1,y2,y3⟩:=hS.2.t.cells
 rw[HLN.out,HXA.out]at y3
 go_wp2
 exact⟨rfl,rfl,rfl,aG⟩):P:=h
theorem V8(h:P:=by
 go_wp2_with (go_at_call 259;refine (HX.out _ (HP.out.keep aG) (HQ.out.keep aG)).mono ?_;rintro e w3 ⟨rfl,hb3⟩)
 go_ret
 exact⟨rfl,aG⟩):P:=h
theorem Ws(h:P:=by
 intro wz hSz
 simp only[aX,List.take_succ_cons,List.take_zero,List.drop_succ_cons,List.drop_zero,Act.put,aW,ai]
 go_wp2
 exact HF2.out _ hSz):P:=h
theorem Hl(h:P:=by
 go_enter func214,ntmps214
 go_wp2
 go_ret
 exact⟨dX (by simp[gW]),aG⟩):P:=h
theorem Vp(h:P:=by
 obtain rfl:V=false:=by
  rw[HV.out]
  have:=HK.out
  rwa [List.take_of_length_le dR]at this
 go_wp2
 go_ret
 exact⟨rfl,hb⟩):P:=h
theorem TI(h:P:=by
 have hld:=jZ hS.y HYS.out
 go_wp2_with (refine ay rfl 27 _ rfl ⟨w.heap.size+1,0,none⟩ (.agg Y) rfl hld ?_)
 exact⟨rfl,rfl,rfl,NG.refl _⟩):P:=h
theorem Ii(h:P:=by
 rw[hv]
 go_enter func104,ntmps104
 go_wp2
 go_ret
 exact⟨rfl,aG⟩):P:=h
theorem RP(h:P:=by
 rw[e1]
 clear e1
 go_enter func205,ntmps205
 go_wp2
 exact bodyPost_ret (v:=.agg #[.int .i64 0,.string s]) Hm rfl ⟨rfl,aG⟩):P:=h
theorem UO(h:P:=by
 go_wp2_with (go_at_call 76;refine (wZ _).mono ?_;rintro e w4 ⟨rfl,hmw⟩;subst hmw)
 rw[HR.out]
 exact xA HP1.out rfl rfl rfl):P:=h
theorem VW(h:P:=by
 go_wp2
 go_ret
 refine⟨dX ?_,aG⟩
 have:=HK.out
 rw[List.take_of_length_le yg]at this
 exact this.symm):P:=h
theorem Tq(h:P:=by
 go_wp2_with (go_at_call 47;refine HCC.out.mono ?_;rintro e w2 ⟨rfl,hb2⟩)
 go_ret
 exact⟨rfl,aN HB1.out hb2⟩):P:=h
theorem Xp(h:P:=by
 (try simp only[hd])
 clear hd
 go_wp2
 exact⟨rfl,⟨_,rfl,Ht W sx tx _ rfl⟩,rfl,aG⟩):P:=h
theorem SG(h:P:=by
 go_wp2_with (refine ay rfl 27 _ rfl ⟨b,o,none⟩ (.agg Y) rfl hld ?_)
 exact⟨rfl,rfl,rfl,aG⟩):P:=h
theorem Qz(h:P:=by
 go_enter func46,ntmps46
 go_wp2
 go_ret
 exact⟨dX (by rw[HV.out];simp;omega),aG⟩):P:=h
theorem TY(h:P:=by
 rw[if_pos aC,show prog.types.size+1=prog.types.size-1+1+1 by kernel_rfl,h]
 exact⟨_,rfl⟩):P:=h
theorem aB(h:P):RowKit.Hid P:=Lib.hid h
theorem rX(h:P:=by
 go_wp2_with (at_builtin;refine wpList_append_own _ rfl _ _ 105 rfl (w.heap.size+2) 5 i0 (.int .u8 0) 1 1 underlying105 HI.out.1 HI.out.2.1 HI.out.2.2.1 HI.out.2.2.2 rfl aK _ _ _ rfl (hown.alloc _) ⟨wr.heap.size,0,none⟩ 1 1 [_] rfl rfl (cell_one_new _ _ _) fG cZ aA aJ ?_;intro v' w3 hown1 hgrow1 _;obtain⟨g1,cap1,rfl⟩:=ownsRow_succ hown1;have hb3:Below w.heap.size w w3:=(hbr.alloc aA _).grown hgrow1 aJ (fun r e=>uC);have HB3:=aB (BV (hown.alloc _) hgrow1 aA (aI.alloc HBr.out _));have HZ3:=aB (BV (hown.alloc _) hgrow1 aA (aI.alloc HZr.out _));have hbs3:w.heap.size+1<w3.heap.size:=aI.lt HZ3.out;clear hown)
 have hown2:=NP (n:=1+p) hown1 aA XZ Xb
 refine⟨?_,tY⟩
 repeat apply Exists.intro
 first | (exact⟨⟨1,some ⟨g1,0,none⟩,cap1,aA,rfl,rfl,hown2,HB3,HZ3,hb3⟩,rfl⟩) | (exact⟨⟨2,some ⟨g1,0,none⟩,cap1,aA,rfl,rfl,hown2,HB3,HZ3,hb3⟩,rfl⟩) | (exact⟨⟨3,some ⟨g1,0,none⟩,cap1,aA,rfl,rfl,hown2,HB3,HZ3,hb3⟩,rfl⟩) | (exact⟨⟨4,some ⟨g1,0,none⟩,cap1,aA,rfl,rfl,hown2,HB3,HZ3,hb3⟩,rfl⟩) | (exact⟨⟨5,some ⟨g1,0,none⟩,cap1,aA,rfl,rfl,hown2,HB3,HZ3,hb3⟩,rfl⟩) | (exact⟨⟨6,some ⟨g1,0,none⟩,cap1,aA,rfl,rfl,hown2,HB3,HZ3,hb3⟩,rfl⟩) | (exact⟨⟨7,some ⟨g1,0,none⟩,cap1,aA,rfl,rfl,hown2,HB3,HZ3,hb3⟩,rfl⟩) | (exact⟨⟨8,some ⟨g1,0,none⟩,cap1,aA,rfl,rfl,hown2,HB3,HZ3,hb3⟩,rfl⟩)):P:=h
theorem sZ(h:P:=by
 go_wp2_with (at_builtin;refine wpList_append_own _ rfl _ _ 105 rfl w.heap.size 5 i0 (.int .u8 0) 1 1 underlying105 HI.out.1 HI.out.2.1 HI.out.2.2.1 HI.out.2.2.2 rfl aK _ _ _ rfl (hown.alloc _) ⟨wr.heap.size,0,none⟩ 1 1 [_] rfl rfl (cell_one_new _ _ _) fG cZ aA aJ ?_;intro v' w3 hown1 hgrow1 _;obtain⟨g1,cap1,rfl⟩:=ownsRow_succ hown1;have hb3:Below w.heap.size w w3:=(hbr.alloc aA _).grown hgrow1 aJ (fun r e=>dK hown r e);clear hown hgrow1)
 have hown2:=NP (n:=n+1+p) hown1 aA XZ Xb
 refine⟨?_,tY⟩
 repeat apply Exists.intro
 first | (exact⟨⟨1,some ⟨g1,0,none⟩,cap1,aA,rfl,rfl,hown2,hb3⟩,rfl⟩) | (exact⟨⟨2,some ⟨g1,0,none⟩,cap1,aA,rfl,rfl,hown2,hb3⟩,rfl⟩) | (exact⟨⟨3,some ⟨g1,0,none⟩,cap1,aA,rfl,rfl,hown2,hb3⟩,rfl⟩) | (exact⟨⟨4,some ⟨g1,0,none⟩,cap1,aA,rfl,rfl,hown2,hb3⟩,rfl⟩) | (exact⟨⟨5,some ⟨g1,0,none⟩,cap1,aA,rfl,rfl,hown2,hb3⟩,rfl⟩) | (exact⟨⟨6,some ⟨g1,0,none⟩,cap1,aA,rfl,rfl,hown2,hb3⟩,rfl⟩) | (exact⟨⟨7,some ⟨g1,0,none⟩,cap1,aA,rfl,rfl,hown2,hb3⟩,rfl⟩) | (exact⟨⟨8,some ⟨g1,0,none⟩,cap1,aA,rfl,rfl,hown2,hb3⟩,rfl⟩)):P:=h
theorem Xq(h:P:=by
 refine wp_region_quiet_below aC aC ?_;(repeat (any_goals (first | go_big_quiet_step ((first | exact fF HN.out _ _ | exact fF HW.out _ _)) | quiet_step ((first | exact fF HN.out _ _ | exact fF HW.out _ _)))));refine wpQuiet_nil ?_;intro _ hwq;obtain⟨⟨dq,osq⟩,hwq⟩:=hwq;subst hwq;have hb3:=below_regrown (wr.alloc (.cells #[.string q1,.string q2] 298)) dq osq;generalize grow (redrawn (wr.alloc (.cells #[.string q1,.string q2] 298)) dq) osq=w3 at *
 go_wp2
 first | (exact⟨⟨1,aA,rfl,HO,aG⟩,au⟩) | (exact⟨⟨j+1+1,aA,aj,HO,aG⟩,au⟩)):P:=h
theorem Po(h:P:=by
 obtain⟨hC,hD⟩:=gen A na ca xs hA aA h1
 have hxe:xs.isEmpty=false:=by cases xs;simp at hla;omega;rfl
 rw[hxe]at hF hK
 simp only[Bool.false_eq_true,if_false]at hF hK
 rw[<-hF,hxe,Bool.or_false]at hK
 rw[<-hF]at hD
 have HC:=aB hC
 have HD:=aB hD
 have hlen:(!F.isEmpty)=decide (0<F.length):=Xf
 rw[hlen]at hK
 have e0:((na:Int)==0)=false:=aJ
 generalize hm:F.length=m at *
 clear gen hA hB hbl hF hla hlb hC hD hxe hlen hm
 first | (exact Xg) | (exact Xi)):P:=h
theorem Pn(h:P:=by
 obtain⟨hC,hD⟩:=gen B nb cb ys hB aA h2
 have hye:ys.isEmpty=false:=by cases ys;simp at hlb;omega;rfl
 rw[<-hF,hye,Bool.or_false]at hK
 rw[<-hF]at hD
 have HC:=aB hC
 have HD:=aB hD
 have hlen:(!F.isEmpty)=decide (0<F.length):=Xf
 rw[hlen]at hK
 have e0:((nb:Int)==0)=false:=aJ
 generalize hm:F.length=m at *
 clear gen hA hB hbl hF hla hlb hC hD hye hlen hm
 first | (exact Xg) | (exact Xi)):P:=h
theorem V5(h:P:=by
 refine wp_region_quiet_below aC aC ?_;(repeat (any_goals (first | go_big_quiet_step ((first | exact fF HN.out _ _ | exact fF HW.out _ _)) | quiet_step ((first | exact fF HN.out _ _ | exact fF HW.out _ _)))));refine wpQuiet_nil ?_;intro _ hwq;obtain⟨⟨dq,osq⟩,hwq⟩:=hwq;subst hwq;have hb3:=below_regrown (wr) dq osq;generalize grow (redrawn (wr) dq) osq=w3 at *
 go_wp2
 first | (exact⟨⟨1,aj,aA,HO,Blk.keep hX aG,aG⟩,au⟩) | (exact⟨⟨j+1+1,aj,aA,HO,Blk.keep hX aG,aG⟩,au⟩)):P:=h
theorem WF(h:P:=by
 rw[if_neg aK]
 go_enter func145,ntmps145
 go_wp2_with (go_at_call 186;refine (HP.out _).mono ?_;rintro e w1 ⟨hb1,A,ca,B,cb,rfl,hA,hB⟩;have hX1:rU w1 w.heap.size ⟨#[]⟩ 0:=Blk.keep (World.alloc_heap_new _ _) hb1;obtain⟨x0,x1,f0,f1⟩:=hX1.facts;have hz1:w.heap.size<w1.heap.size:=Blk.lt hX1;have hz9:w1.heap.size≠w.heap.size:=aA;have HA:=aB hA;have HB:=aB hB;clear hA hB)
 first | (exact bodyPost_ret (v:=.agg #[.string ⟨#[]⟩,.int .i64 2]) Xl rfl ⟨rfl,aG⟩) | (exact bodyPost_ret (v:=.agg #[.string ⟨#[]⟩,.int .i64 3]) Xl rfl ⟨rfl,aG⟩)):P:=h
theorem Vd(h:P:=by
 clear hadd
 go_wp2_with fail
 have n1:¬ 9223372036854775807<S.size+1:=aA
 have n2:¬ 9223372036854775807<S.size+1+qk.size:=aA
 have n3:¬ 9223372036854775807<S.size+1+qk.size+1:=aA
 have n4:¬ 9223372036854775807<S.size+1+qk.size+1+qv.size:=aA
 go_quiet (fail)
 go_wp2
 first | (exact⟨⟨1,aj,aA,congrArg Value.string HS.out,Blk.keep hX aG,aG⟩,au⟩) | (exact⟨⟨j+1,aj,aA,congrArg Value.string HS.out,Blk.keep hX aG,aG⟩,au⟩)):P:=h
theorem Jn(h:P:=by
 (try simp only[bP,DL,IsV,ai,Region.binds,and_true,true_and]at hd)
 simp only[aX,List.take_succ_cons,List.take_zero,List.drop_succ_cons,List.drop_zero,Act.put,aW,ai]
 first | (exact Xn) | (exact Xp) | (exact Xo)):P:=h
theorem SY(h:P:=by
 clear hK K
 (try simp only[Act.put,aW])
 refine wpAnyH_done aC ?_ _
 refine NoPanic.normal ?_
 go_wp2_with fail
 go_meet
 first | (exact⟨_,_,rfl,rfl,aA,aA,aA,heap_alloc2_old w2 _ _,heap_alloc2_new w2 _ _,aG⟩) | (exact⟨_,_,rfl,rfl,aA,aA,aA,heap_alloc2_new w2 _ _,heap_alloc2_old w2 _ _,aG⟩) | (exact⟨_,rfl,World.alloc_heap_new _ _,BQ,je⟩)):P:=h
theorem H5(h:P:=by
 (try simp only[bP,DL,IsV,ai,Region.binds,and_true,true_and]at hd)
 simp only[aX,bQ,Act.put]
 (try simp only[hd])
 clear hd
 go_wp2
 first | (exact⟨rfl,⟨_,rfl,Ht W2 _ tx _ rfl⟩,rfl,aG⟩) | (exact⟨rfl,⟨_,rfl,aHk W sa sb sc _ rfl⟩,rfl,aG⟩) | (exact⟨rfl,(congrArg (Value.int .u8) HQ1.out:Value.int .u8 _=Value.int .u8 _),rfl,HxG.refl _⟩)):P:=h
theorem Oq(h:P:=by
 go_enter func101,ntmps101
 go_wp2_with (first | (go_at_call 163;refine (HC.out _).mono ?_;rintro e w1 ⟨rfl,rfl⟩) | (go_at_call 99;refine (HVA.out _ (Env.keep HE.out aG)).mono ?_;rintro e w2 ⟨rfl,hb2⟩))
 go_ret
 first | (exact⟨dX aF,aG⟩) | (exact⟨rfl,aG⟩)):P:=h
theorem Hw(h:P:=by
 (try simp only[bP,DL,IsV,ai,Region.binds,and_true,true_and]at hd)
 simp only[aX,bQ,Act.put]
 first | (exact Xn) | (exact Xp) | (exact Xo)):P:=h
theorem TJ(h:P:=by
 (try simp only[bP,DL,IsV,ai,Region.binds,and_true,true_and]at hd)
 simp only[aX,bQ,Act.put]
 (try simp only[hd])
 clear hd
 have hsW:=hS.s
 go_wp2
 first | (exact⟨rfl,rfl,rfl,NG.refl _⟩) | (exact⟨rfl,⟨_,rfl,World.ownsRow_lit (base:=w.heap.size+1) (e:=9) (size:=1) W #[.string (ae x.t.cust),.string (ae x.t.ser),.string x.t.id] 3 aA cZ rfl⟩,rfl,aG⟩)):P:=h
theorem FU(h:P:=by
 clear hcell hcell2 hx
 go_wp2_with fail
 go_quiet (fail)
 go_wp2
 first | (exact⟨⟨k+1,aj,aA,Blk.keep hX aG,Blk.keep hY aG,aG⟩,au⟩) | (exact⟨⟨j+1,aj,aA,Blk.keep hX aG,Blk.keep hY aG,aG⟩,au⟩) | (exact⟨⟨i+1,aj,aA,Blk.keep hX aG,Blk.keep hY aG,aG⟩,au⟩)):P:=h
theorem Ve(h:P:=by
 refine⟨h.1,fun hn=>?_⟩
 obtain⟨b,o,e,hc⟩:=h.2 hn
 injection e with e
 injection e with e1 e2
 subst e1;subst e2
 refine⟨gm,0,rfl,fun j u hj=>?_⟩
 first | (exact (World.cell?_of_block (w:=W) (setRow_other W k gm ds hk)).trans (hc j u hj)) | (exact (World.cell?_of_block (w:=W) (heap_setCell_other W q gm v hk)).trans (hc j u hj))):P:=h
theorem Wu(h:P:=by
 intro wz hSz
 simp only[aX,List.take_succ_cons,List.take_zero,List.drop_succ_cons,List.drop_zero,Act.put,aW,ai]
 go_wp2
 first | (exact⟨⟨1,⟨aj,aA⟩,HK2,hSz⟩,au⟩) | (exact⟨⟨k+1,⟨aj,aA⟩,HK2,hSz⟩,au⟩)):P:=h
theorem QF(h:P:=by
 intro x hx
 obtain⟨n,hn,rfl⟩:=List.mem_map.1 hx
 have:=hc.si n hn
 unfold ed at this
 simp only[decide_eq_true_eq]at this
 first | (exact (qN n this.1).2.1) | (exact wI n this.1)):P:=h
theorem UR(h:P:=by
 go_wp2_with (go_at_call 76;refine (wZ _).mono ?_;rintro e w4 ⟨rfl,hmw⟩;subst hmw)
 rw[HR.out]
 first | (exact xA hS3.p (hS3.size rfl) rfl rfl) | (exact xA HS.out.p (HS.out.size rfl) rfl rfl)):P:=h
theorem Om(h:P:=by
 subst h0
 obtain rfl:xs=[]:=List.eq_nil_of_length_eq_zero hl
 go_enter func89,ntmps89
 go_wp2
 go_ret
 first | (exact⟨rfl,Below.refl _ _⟩) | (exact⟨rfl,rfl⟩)):P:=h
theorem Ol(h:P:=by
 subst h0
 obtain rfl:xs=[]:=List.eq_nil_of_length_eq_zero hl
 go_enter func88,ntmps88
 go_wp2
 go_ret
 first | (exact⟨rfl,Below.refl _ _⟩) | (exact⟨rfl,rfl⟩)):P:=h
theorem LU(h:P:=by
 refine AllReadyH.cons (o:=_) rfl (fun K hK=>?_) ?_
 ·go_simp
  refine hK.out _ _ ?_ (fun hHeld=>?_)
  ·exact yA
  clear hK K
  (try simp only[Act.put,aW])
  refine wpAnyH_ready (rs:=[8]) aC aF ?_
  refine AllReadyH.cons (o:=_) rfl (fun K hK=>?_) ?_
  ·go_simp
   refine hK.out _ _ ?_ (fun hHeld=>?_)
   ·exact yA
   clear hK K
   (try simp only[Act.put,aW])
   refine wpAnyH_ready (rs:=[9]) aC aF ?_
   refine AllReadyH.cons (o:=_) rfl (fun K hK=>?_) ?_
   ·go_simp
    refine hK.out _ _ ?_ (fun hHeld=>?_)
    ·exact yA
    exact SY
   exact AllReadyH.nil
  exact AllReadyH.nil
 exact AllReadyH.nil):P:=h
theorem V7(h:P:=by
 clear hpk HF HTr
 go_wp2_with fail
 have k1:=cell_regrown hc1;have k2:=cell_regrown hc2;have k3:=cell_regrown x2;have k4:=cell_regrown hc4
 first | (exact V5) | (exact V4)):P:=h
theorem U6(h:P:=by
 clear hpk HF HTr
 go_wp2_with fail
 have k1:=cell_regrown f1;have k2:=cell_regrown f2;have k3:=cell_regrown f3;have k4:=cell_regrown f4
 first | (exact Xq) | (exact Xm)):P:=h
theorem U5(h:P:=by
 go_wp2_with fail
 have k1:=cell_regrown f1;have k2:=cell_regrown f2;have k3:=cell_regrown f3
 first | (exact Xm) | (exact Xq)):P:=h
end Go.Proofs
