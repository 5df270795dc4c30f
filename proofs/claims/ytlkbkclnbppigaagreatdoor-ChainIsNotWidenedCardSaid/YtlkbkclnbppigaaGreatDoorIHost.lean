/- Proofs that are used in many places. -/
import Derived.Lib.Hide
import Derived.Deep.AppendLies
import Derived.Deep.DeepCutAuto
import Derived.Deep.DeepHandedRow
import Derived.Deep.RegionHeld3
import Derived.Deep.RegionHeldLaw
import Derived.Deep.Upon
import Derived.Laws.CopyOwn
import Derived.Laws.EntriesVeiled
import Derived.Lib.AppendZeros
import Derived.Lib.ItoaLen
import Derived.Lib.QuietBelow
import Derived.Lib.SmallJoins
import Derived.Maps.OwnIn
import Derived.RangeFuncNested
import Derived.StillTailTactics
import Derived.Stop.LaidErr
import Derived.WalkLawsBesides
import Derived.WalkSpells
import Derived.OwnWalk
import Derived.BigQuiet
import Derived.Shelf.Abstract
set_option maxHeartbeats 2000000
namespace Go.Proofs
set_option linter.unusedVariables false
variable {P:Prop}
theorem ag{α:Type}:(∀(l:List α)(i:Nat)(a:α),l.toArray.setIfInBounds i a=(l.set i a).toArray)/\(∀(a b:α)(n:Nat)(l:List α),(a::l).set (n+1) b=a::l.set n b)/\(∀(a b:α)(l:List α),(a::l).set 0 b=b::l):=⟨fun _ _ _=>List.setIfInBounds_toArray ..,fun _ _ _ _=>rfl,fun _ _ _=>rfl⟩
theorem bV{α:Type}:(∀(a d:α)(l:List α),(a::l).getD 0 d=a)/\(∀(a d:α)(n:Nat)(l:List α),(a::l).getD (n+1) d=l.getD n d):=⟨fun _ _ _=>rfl,fun _ _ _ _=>rfl⟩
theorem aO{α:Type}{a:Option α}{f g:α}(h:a=some f)(e:f=g:=by kernel_rfl):a=some g:=h.trans (congrArg some e)
theorem aBf{P:Program}{f:FuncId}{x:Array Value}{w:World}{v:Value}{B:World->Prop}{Q:Ending->World->Prop}(h:Calls P f x w fun e w=>e=.returned v/\B w)(k:∀ w,B w->Q (.returned v) w):Calls P f x w Q:=h.mono fun _ _ h=>h.1▸k _ h.2
abbrev bf:Array Value:=#[.int .i64 0,.int .i64 0,.string ⟨#[]⟩,.slice none 0 0,.int .u8 0,.int .u8 0,.int .u8 0,.int .u8 0,.int .u8 0,.int .u8 0,.int .u8 0,.int .u8 0,.int .u8 0,.int .u8 0,.int .u8 0,.int .u8 0,.int .u8 0,.int .u8 0,.int .u8 0,.int .u8 0]
abbrev aBg:Array Value:=#[.int .i64 0,.int .i64 0,.string ⟨#[]⟩,.slice none 0 0,.int .u8 0,.int .u8 0,.int .u8 0,.int .u8 0,.int .u8 0,.int .u8 0,.int .u8 0,.int .u8 0,.int .u8 0,.int .u8 0,.int .u8 0,.int .u8 0,.int .u8 0,.int .u8 0,.int .u8 0,.int .u8 0,.int .i64 0]
abbrev fU:Array Value:=#[.int .i64 0,.int .i64 0,.string ⟨#[]⟩,.slice none 0 0,.slice none 0 0,.slice none 0 0,.int .i64 0]
abbrev aF(a b:World):=RowKit.Below a.heap.size a b
theorem kM{α:Type}:(∀(a:α)(n:Nat)(l:List α),(a::l).take (n+1)=a::l.take n)/\(∀ l:List α,l.take 0=[])/\(∀(a:α)(n:Nat)(l:List α),(a::l).drop (n+1)=l.drop n)/\(∀ l:List α,l.drop 0=l):=⟨fun _ _ _=>rfl,fun _=>rfl,fun _ _ _=>rfl,fun _=>rfl⟩
abbrev aC:=ByteArray
theorem aB(h:P:=by omega):P:=h
theorem aP(h:P:=by simp;omega):P:=h
theorem aH(h:P:=by simp):P:=h
theorem EU(h:P:=by first | exact Blk.keep hX2 hb2 | exact Blk.keep (World.alloc_heap_new _ _) hb2):P:=h
theorem Pn(h:P:=by rw[HV.out];(rw[Bool.eq_iff_iff];simp only[decide_eq_true_eq,Bool.false_eq_true,eq_self,false_iff,iff_false,true_iff,iff_true];omega)):P:=h
theorem ay(h:P:=by dsimp only;omega):P:=h
theorem aK(h:P:=by decide):P:=h
theorem gZ(h:P:=by have:=hd _ (Array.mem_of_getElem? (i:=0) rfl) rfl;exact this):P:=h
theorem iQ(h:P:=by have:=hb1.size;(try simp at this);omega):P:=h
theorem dD(h:P:=by simp[intOf];omega):P:=h
theorem dh(h:P:=by unfold maxLen;omega):P:=h
theorem uC(h:P:=by rw[hX];exact aU (aU (aU (Below.refl _ _) _) _) _):P:=h
theorem qA(h:P:=by have:=hb2.size;(try simp at this);omega):P:=h
theorem jA(h:P:=by have:=hf1 h a ha;dsimp only;omega):P:=h
theorem jJ(h:P:=by simp[Value.oneCell']):P:=h
theorem uB(h:P:=by have:=hb3.size;(try simp at this);omega):P:=h
theorem uD(h:P:=by have:=hb5.size;(try simp at this);omega):P:=h
theorem uF(h:P:=by have:=hb6.size;(try simp at this);omega):P:=h
theorem uG(h:P:=by have:=hb7.size;(try simp at this);omega):P:=h
theorem jk(h:P:=by have:=hf2 h a ha;dsimp only;omega):P:=h
theorem dJ(h:P:=by assumption):P:=h
theorem jK(h:P:=by have:=hA.1;simp at this;omega):P:=h
theorem qV(h:P:=by have:=hd _ (Array.mem_of_getElem? (i:=1) rfl) rfl;exact this):P:=h
theorem vN(h:P:=by rw[<-hw0];exact World.alloc_heap_new w _):P:=h
theorem kw(h:P:=by have:=hf3 h a ha;dsimp only;omega):P:=h
theorem uN(h:P:=by have:=run_endLoop (P:=P) hl (by rw[hrec];simp);rw[hrec]at this;exact this):P:=h
theorem gV(h:P:=by have:=HL.out;omega):P:=h
theorem yY(h:P:=by rw[<-hw0];exact aU (Below.refl _ _) _):P:=h
theorem eX(h:P:=by rw[hy];decide):P:=h
theorem bC(h:P:=by rfl):P:=h
theorem nH(h:P:=by unfold Addr.add;split <;> simp_all):P:=h
theorem aAt(h:P:=by simp[Sha.bytes8,Sha.bytes4] <;> omega):P:=h
theorem Au(h:P:=by have:=fE hown r e;omega):P:=h
theorem Po(h:P:=by cases ha;show w.heap.size<=g;omega):P:=h
theorem uI(h:P:=by rw[<-hwx];exact below_setRow (fJ _ _) (Nat.le_refl _) _):P:=h
theorem lw(h:P:=by simp <;> omega):P:=h
theorem ku(h:P:=by rw[HKS.out];exact kJ):P:=h
theorem aAu(h:P:=by rw[hal,hpc];exact rX hown7 (fun j hj=>Below.heap_setCell _ _ _ _ (by simp;omega))):P:=h
theorem um(h:P:=by have:=hb2.size;simp at this;omega):P:=h
theorem jd(h:P:=by cases ha):P:=h
theorem Dc(h:P:=by simp only[qp];repeat' (first | apply And.intro | exact vU _ | exact trivial)):P:=h
theorem zD(h:P:=by injection e with e;subst e;show w.heap.size+2≠_;omega):P:=h
theorem Gs(h:P:=by have:=hgrow.size;simp[World.setCell]at this ⊢;omega):P:=h
theorem sW(h:P:=by rw[List.size_toArray];exact hR.size):P:=h
theorem xn(h:P:=by have:=hb3.size;simp at this;omega):P:=h
theorem AY(h:P:=by have:=fE hown _ e.symm;omega):P:=h
theorem gB(h:P:=by simp[hx]):P:=h
theorem xI(h:P:=by rw[hwe];exact HVd.out.far _ _ (by simp;omega)):P:=h
theorem xJ(h:P:=by rw[hwe];exact HEd.out.far _ _ (by simp;omega)):P:=h
theorem zO(h:P:=by rw[hK];simpa using hm0):P:=h
theorem Mc(h:P:=by rw[<-hw3];exact below_setRow ((Below.refl _ _).alloc (Nat.le_refl _) _) (Nat.le_refl _) _):P:=h
theorem Nb(h:P:=by rw[<-hw5];exact below_setRow ((Below.refl _ _).alloc (Nat.le_refl _) _) (Nat.le_refl _) _):P:=h
theorem OU(h:P:=by have h8:=h.1 e he;rw[hb]at h8;simpa using h8):P:=h
theorem lI(h:P:=by simpa using hj):P:=h
theorem xX(h:P:=by have:=fE hown a.block (by rw[ha];rfl);omega):P:=h
theorem qB(h:P:=by rw[List.all_toArray];rfl):P:=h
theorem wK(h:P:=by first | (simp;done) | (simp;omega)):P:=h
theorem wL(h:P:=by rw[oG HS.out.len (by omega)];omega):P:=h
theorem aAv(h:P:=by rw[HPL.out];exact ((((hPR.keep (aV hb6 hb7)).set_ _ _ hA1).set_ _ _ hA1).set_ _ _ hA1)):P:=h
theorem o6(h:P:=by have:=HN.out;omega):P:=h
theorem Cj(h:P:=by rcases hev with ⟨h,_⟩ | ⟨_,h⟩;exact h;cases h):P:=h
theorem oH(h:P:=by rw[<-hw0];exact aJ):P:=h
theorem xK(h:P:=by rw[hwe];exact HZd.out.far _ _ (by simp)):P:=h
theorem vw(h:P:=by rw[hi];exact Bool.false_ne_true):P:=h
theorem rM(h:P:=by simp[intOf]):P:=h
theorem Dx(h:P:=by have:=hb.size;rw[HW0.out]at this;simp at this;omega):P:=h
theorem aAw(h:P:=by rw[HQL.out];exact ((((hQR.keep hb7).set_ _ _ hB1).set_ _ _ hB1).set_ _ _ hB1)):P:=h
theorem Pq(h:P:=by have:=hD.2.1;rwa [same undef]at this):P:=h
theorem vO(h:P:=by rw[List.length_append];omega):P:=h
theorem zF(h:P:=by rw[hy];exact fun c hc=>(tq hc).fits):P:=h
theorem Ac(h:P:=by rw[List.all_toArray,List.all_eq_true];exact Ry):P:=h
theorem yS(h:P:=by rw[Lib.toList_data];simpa using hx):P:=h
theorem mZ(h:P:=by cases e;omega):P:=h
theorem zu(h:P:=by rw[Lib.toList_data]at e;rw[Lib.size_eq,e];rfl):P:=h
theorem GN(h:P:=by have:=hb2.size;have:=hbr.size;simp at *;omega):P:=h
theorem xw(h:P:=by rw[HOUT.out i hi32,h4,HY.out];rfl):P:=h
theorem Pv(h:P:=by simpa using hown):P:=h
theorem uf(h:P:=by rw[<-Lib.size_eq];exact h):P:=h
theorem LV(h:P:=by have:=WG (fun x=>decide (gJ x p s<0)) L;have:=hA.1;unfold gK;omega):P:=h
theorem Px(h:P:=by have:=h8.2.1;rwa [same v]at this):P:=h
theorem Jc(h:P:=by rw[beq_eq_false_iff_ne];rintro rfl;exact absurd hb.1 (by decide)):P:=h
theorem zU(h:P:=by first | exact Below.refl _ _ | assumption):P:=h
theorem nD(h:P:=by simpa using h):P:=h
theorem MZ(h:P:=by rw[<-hw3];exact setRow_heap _ _ _ _ _ _ (heap_alloc_new wr _)):P:=h
theorem Na(h:P:=by rw[<-hw5];exact setRow_heap _ _ _ _ _ _ (heap_alloc_new w4 _)):P:=h
theorem PO(h:P:=by cases A <;> simp[Builtin.firstCells,loadCells,loadCellsFrom]):P:=h
theorem yJ(h:P:=by cases xs;simp at hl;omega;rfl):P:=h
theorem tK(h:P:=by have:=HZ1.out;omega):P:=h
theorem nP(h:P:=by rw[hV2];simp):P:=h
theorem yT(h:P:=by rw[Lib.toList_data];exact hx):P:=h
theorem N9(h:P:=by rw[<-hw0];exact⟨World.alloc_heap_new w _,aJ,by simp⟩):P:=h
theorem vY(h:P:=by have:=(hr r e).1;omega):P:=h
theorem OY(h:P:=by rw[<-hwb];exact below_setRow (fJ _ _) (Nat.le_refl _) _):P:=h
theorem xZ(h:P:=by rw[<-Lib.size_eq];exact h0):P:=h
theorem aAx(h:P:=by show w.heap.size<=go;omega):P:=h
theorem Oh(h:P:=by rintro W W' ⟨v,rfl⟩;exact KeepsOthers.setCell _ _ _):P:=h
theorem xA(h:P:=by rw[hq]at hi;simpa using hi):P:=h
theorem Kr(h:P:=by rcases hev with ⟨_,h⟩ | ⟨h,_⟩;cases h;exact h):P:=h
theorem tH(h:P:=by intro c h;cases h):P:=h
theorem MV(h:P:=by rw[<-hw6];exact below_setRow (Below.refl _ _) hgz _):P:=h
theorem NL(h:P:=by rw[hW6];exact aX.put hres5 _ _ _ _ _ _ _ _ _ _ _ _ _):P:=h
theorem uh(h:P:=by have:=hb2.size;omega):P:=h
theorem aAy(h:P:=by rw[TR];omega):P:=h
theorem MS(h:P:=by rw[hSQ,List.size_toArray,dU];exact (MP k x.t i).len):P:=h
theorem AB(h:P:=by have:=hA _ rfl;simp at this;omega):P:=h
theorem BI(h:P:=by cases a;exact absurd rfl ha;rfl):P:=h
theorem aAz(h:P:=by rw[HV.out];simp):P:=h
theorem DW(h:P:=by rw[n7];exact Bool.false_ne_true):P:=h
theorem aBa(h:P:=by rw[hal];exact Blk.set_ hB7 2 _):P:=h
theorem xH(h:P:=by rw[hwd];exact hbj.drew):P:=h
theorem nG(h:P:=by simp at h):P:=h
theorem rJ(h:P:=by simpa using ho):P:=h
theorem uT(h:P:=by simpa using hx):P:=h
theorem AX(h:P:=by have:=hown.1;simpa using this):P:=h
theorem Ag(h:P:=by have:=hB.1;simp at this;omega):P:=h
theorem BQ(h:P:=by have:=hR.1;simp at this;omega):P:=h
theorem xB(h:P:=by rw[hwd];exact HVj.out):P:=h
theorem xC(h:P:=by rw[hwd];exact HEj.out):P:=h
theorem xG(h:P:=by rw[hwd];exact HZj.out):P:=h
theorem C9(h:P:=by have:=h.lo;have:=h.two;omega):P:=h
theorem vK(h:P:=by simp at hl;omega):P:=h
theorem zY(h:P:=by have:=hR.1;simpa using this):P:=h
theorem Aq(h:P:=by have:=hb1.size;omega):P:=h
theorem yx(h:P:=by have:=hbw.size;omega):P:=h
theorem Py(h:P:=by have:=hPA a ha;omega):P:=h
theorem Pz(h:P:=by have:=hQA a ha;omega):P:=h
theorem EF(h:P:=by unfold maxLen;rw[mg];omega):P:=h
theorem vX(h:P:=by rw[<-hw0];simp):P:=h
theorem rU(h:P:=by rw[lG];omega):P:=h
theorem aBb(h:P:=by have:=hbw.size;simp;omega):P:=h
theorem AU(h:P:=by simp[World.setCell];omega):P:=h
theorem Dk(h:P:=by have:=hback e he hb;omega):P:=h
theorem DY(h:P:=by rw[ha];rfl):P:=h
theorem AQ(h:P:=by simpa using q2):P:=h
theorem xE(h:P:=by rw[hwd];exact HB0):P:=h
theorem oV(h:P:=by simp[hp]):P:=h
theorem aBh(h:P:=by rw[hrec];simp):P:=h
theorem wX(h:P:=by simpa using this):P:=h
theorem O3(h:P:=by simp at hj;omega):P:=h
theorem P5(h:P:=by cases F <;> simp):P:=h
theorem ug(h:P:=by rw[dU];omega):P:=h
theorem qH(h:P:=by simp[hy]):P:=h
theorem E5(h:P:=by
 rw[Nat.zero_add]at hD
 generalize hb:aZ (l.take m) V 0 a=b at *
 have hput:=hput V
 rw[hb]at hput
 obtain⟨o',d,ho',hback,hdo,hdl,hdd⟩:=fair i hilt
 obtain rfl:o=o':=by rw[List.getElem?_toArray]at ho;exact Option.some.inj (ho.symm.trans ho')
 have hdist:∀ t i j,i<m->j<m->bM l.toArray i=some t->bM l.toArray j=some t->i=j:=by
  intro t i j hi hj h1 h2
  obtain⟨oi,di,hoi,_,hdi,_,hddi⟩:=fair i hi
  have e1:bM l.toArray i=some di:=by unfold bM;rw[List.getElem?_toArray,hoi];exact hdi
  by_cases hij:j=i
  ·exact hij.symm
  ·exact absurd (by rw[h2,<-h1,e1]) (hddi j hij)
 have look:∀ t∈o.looksAt l.toArray,a'.tmps[t]? = b.tmps[t]?:=by
  intro t ht
  have h:=List.all_eq_true.1 hdep i (List.mem_range.2 hilt)
  rw[ho]at h
  dsimp only at h
  rw[Bool.and_eq_true,List.all_eq_true]at h
  have h2:=h.2 t ht
  rw[Bool.or_eq_true]at h2
  rcases h2 with h2 | h2
  ·have hoff:∀ j,j<m->bM l.toArray j≠some t:=fun j hj=>by
    have:=List.all_eq_true.1 h2 j (List.mem_range.2 hj)
    simpa using this
   rw[hA.off t hoff,hput,EN _ _ _ m hoff]
  ·rw[Array.any_eq_true']at h2
   obtain⟨e,he,h2⟩:=h2
   rw[Bool.and_eq_true,Bool.and_eq_true,decide_eq_true_eq,beq_iff_eq]at h2
   obtain⟨⟨hbd,hem⟩,hdt⟩:=h2
   have hv:iE l.toArray a' e.on=V e.on:=by rw[hV]
   obtain⟨oe,de,hoe,_,hde,hdel,_⟩:=fair e.on hem
   have e1:bM l.toArray e.on=some de:=by unfold bM;rw[List.getElem?_toArray,hoe];exact hde
   obtain rfl:de=t:=Option.some.inj (e1.symm.trans hdt)
   unfold iE at hv
   rw[e1]at hv
   dsimp only at hv
   rw[hput,zN _ _ _ hdel m (hdist de) e.on hem e1]
   have hlt:de<a'.tmps.size:=by rw[hA.size];exact hdel
   rw[Array.getD_eq_getD_getElem?,Array.getElem?_eq_getElem hlt]at hv
   rw[Array.getElem?_eq_getElem hlt,<-hv]
   rfl
 have hex:execOp a'.eval o=execOp b.eval o:=by
  refine execOp_congr o (fun cs bl hs=>?_) (fun x hx=>?_)
  ·have h:=List.all_eq_true.1 hdep i (List.mem_range.2 hilt)
   rw[ho]at h
   dsimp only at h
   rw[hs]at h
   cases h
  ·cases x with
   | tmp t =>
    have:=look t (List.mem_append_left _ (List.mem_filterMap.2 ⟨.tmp t,uT,rfl⟩))
    show a'.tmps.getD t undef=b.tmps.getD t undef
    rw[Array.getD_eq_getD_getElem?,Array.getD_eq_getD_getElem?,this]
   | _=>rfl
 have hwt:Region.wanted o (yielded l.toArray a'.tmps)=Region.wanted o (yielded l.toArray b.tmps):=by
  unfold Region.wanted
  cases hg:o.guard with
  | none=>rfl
  | some gw =>
   obtain⟨g,want⟩:=gw
   dsimp only
   rw[PU (fun d hd=>look d ?_)]
   refine List.mem_append_right _ ?_
   rw[hg]
   dsimp only
   unfold bM at hd
   rw[hd]
   simp
 have hbs:b.tmps.size=a.tmps.size:=by rw[hput,zM]
 have same:∀ v,wY o (b.put o.dst v)=v:=by
  intro v
  unfold wY
  rw[hdo]
  have hlt:d<b.tmps.size:=by rw[hbs];exact hdl
  simp[Act.put,hlt]
 unfold wpOp
 rw[ho]
 dsimp only
 rw[hwt]
 unfold wpList at hD
 split
 ·rename_i hw
  rw[if_pos hw]at hD
  rcases hD with hD | ⟨_,a9,w9,h9,_⟩
  ·refine .inl ?_
   unfold Oper.wp at hD ⊢
   rw[hex]
   generalize (execOp b.eval o).run P W=r at hD ⊢
   cases r with
   | ok n w9 =>
    cases n with
    | value v=>exact⟨v,rfl,(by have:=hD.2.1;rwa [same v]at this),hD.2.2.2,trivial⟩
    | skip=>exact⟨undef,rfl,Pq,hD.2.2.2,trivial⟩
    | defer dd =>
     exfalso
     have h3:({ b with defers:=dd :: b.defers }.put o.dst undef).defers=b.defers:=hD.2.2.1
     rw[PP]at h3
     have:=congrArg List.length h3
     simp at this
    | enter f args =>
     refine Calls.mono hD ?_
     intro e w8 h8
     cases e with
     | returned v=>exact⟨v,rfl,Px,h8.2.2.2,trivial⟩
     | panicked c=>cases h8.1
     | outgrown=>obtain⟨_,_,h7,_⟩:=h8;cases h7
    | row r args =>
     refine Rows.mono hD ?_
     intro v w8 h8
     exact⟨v,rfl,Px,h8.2.2.2,trivial⟩
    | _=>exact hD.elim
   | halt h w9 =>
    cases h with
    | panic v=>exact absurd hD.1 (by intro h;cases h)
    | _=>exact hD.elim
  ·cases h9
 ·rename_i hw
  rw[if_neg hw]at hD
  exact⟨undef,rfl,Pq,hD.2.2.2,trivial⟩):P:=h
theorem zZ(h:P:=by
 refine⟨o,d,rfl,fun e he hb=>OU,hd,?_⟩
 have h2:=h.2
 rw[hd]at h2
 dsimp only at h2
 rw[Bool.and_eq_true,decide_eq_true_eq,List.all_eq_true]at h2
 refine⟨h2.1,fun j hj=>?_⟩
 rcases Nat.lt_or_ge j l.toArray.size with hl | hl
 ·have:=h2.2 j (List.mem_range.2 hl)
  simp only[Bool.or_eq_true,beq_iff_eq,bne_iff_ne]at this
  exact this.resolve_left (fun e=>hj e.symm)
 ·unfold bM
  rw[Array.getElem?_eq_none hl]
  simp):P:=h
theorem xy(h:P:=by
 rw[hcast]
 refine⟨⟨i+1,aB,bg,aA ?_,aA (aN.far HBr.out _ _ aP),aA (aN.far HZr.out _ _ aP),hbr.setCell (p:=⟨go,i,none⟩) aAx _⟩,dD⟩
 have:=aN.set_ HOr.out i (.int .u8 ((R.getD i 0:Nat):Int))
 rw[<-TN,TK HRL.out hi32]at this
 exact this):P:=h
theorem DV(h:P:=by
 intro ho L a w hC hi hl hJ hG hA hd
 have t5:a.eval (.tmp 5)=.pointer (some ⟨nb,0,none⟩):=pF hA aG
 have u5:=(dM a 5).trans t5
 have n0:w.cell? ⟨nb,0,none⟩=some (.func (.func 138) #[.pointer (some ⟨g,0,none⟩)] #[]):=PS.n0 hJ
 exact kR (W':=w) ho rfl NK ⟨rfl,But.refl _ _,hJ⟩):P:=h
theorem y7(h:P:=by
 intro ho L a w hC hi hl hJ hG hA hd
 have t4:a.eval (.tmp 4)=.pointer (some ⟨g,0,none⟩):=pF hA aG
 have u4:=(dM a 4).trans t4
 exact kR (W':=w) ho rfl aBc ⟨rfl,But.refl _ _,hJ⟩):P:=h
theorem zf(h:P:=by
 unfold iP
 have:=D6 l.toArray (l.take m) V 0 a (fun j hj=>by
  rw[List.getElem?_take_of_lt O3]
  simp)
 rw[List.length_take,Nat.min_eq_left hml]at this
 rw[<-this,List.range_eq_range']):P:=h
theorem PZ(h:P:=by
 have hXz:=hbX.size;have hA1:∀ a,PA=some a->a.block≠w.heap.size:=(fun a ha=>Py);have hB1:∀ a,QA=some a->a.block≠w.heap.size:=(fun a ha=>Pz);refine bodyPost_ret (v:=.tuple #[.agg #[.string C,.slice PA np Pc,.slice QA nq Qc],.int .i64 0]) wM rfl ⟨aJ,PA,Pc,QA,Qc,by rw[HPL.out,HQL.out],aAv,aAw,fun a ha=>Py,fun a ha=>Pz,by rw[HPL.out];exact hPc⟩):P:=h
theorem IA(h:P:=by
 rw[bytesLess_eq,Lib.toList_data,Lib.toList_data,Bool.eq_iff_iff]
 simp only[Bool.not_eq_true',Bool.or_eq_false_iff,decide_eq_false_iff_not,beq_eq_false_iff_ne,decide_eq_true_eq]
 constructor
 ·rintro⟨h1,h2⟩;exact Ed _ _ h2 h1
 ·intro h
  exact⟨fun h1=>List.lt_irrefl _ (List.lt_trans h h1),fun e=>List.lt_irrefl _ (by rw[e]at h;exact h)⟩):P:=h
theorem uw(h:P:=by
 refine bodyPost_ret (results_none rfl _ _ _) rfl ?_
 exact⟨⟨_,rfl⟩,.inr hJx'⟩):P:=h
theorem zJ(h:P:=by
 rcases hrow.2 with ⟨hv,h0⟩ | ⟨g,cap,cur,hv,_⟩
 ·exact⟨none,0,by rw[hv,h0]⟩
 ·exact⟨_,_,hv⟩):P:=h
theorem Oj(h:P:=by
 obtain⟨k1,k2,k3,k4,k5⟩:=Zf (B:=(((w.alloc (.cells #[.slice none 0 0] 24)).alloc (.cells #[.bool false] 4)).alloc (.cells #[.slice none 0 0] 24)).heap.size) hb h3 h4 hbw hsz6 hb2
 exact⟨k1,rfl,hn,k2,k3,k4,k5⟩):P:=h
theorem Dz(h:P:=by
 simp only[ho,hx,Instr.loadAt,Instr.sureAddr,Sem.run_bind,Sem.run_pure,Result.andThen_ok,hl]
 exact hK _ _ h):P:=h
theorem JX(h:P:=by
 have:∀(l:List aY)(s:List Nat),dm s->dm (l.foldl je s):=by
  intro l
  induction l with
  | nil=>exact fun s h=>h
  | cons c l ih=>exact fun s _=>ih _ (qC _ _)
 exact this _ _ (qC _ _)):P:=h
theorem AC(h:P:=by
 obtain⟨hl2,rfl⟩:=List.getElem?_eq_some_iff.1 hp
 exact List.drop_eq_getElem_cons hl2):P:=h
theorem JI(h:P:=by
 refine⟨hB.1,fun h=>?_⟩
 obtain⟨b,o,rfl,hc⟩:=hB.2 h
 have:=hBl h _ rfl
 simp only at this
 exact⟨b,o,rfl,fun j u hu=>(hV _ aP aP).trans (hc j u hu)⟩):P:=h
theorem JL(h:P:=by
 rintro e w' ⟨v',rfl,hown,_,hb⟩
 rw[List.take_of_length_le aB]at hown
 rcases hown.2 with ⟨_,h⟩ | ⟨g,cap,cur,rfl,r⟩
 ·omega
 ·exact⟨g,cap,rfl,hown,hb⟩):P:=h
theorem JH(h:P:=by
 intro j hj
 have hj':j<zs.length:=lI
 refine⟨?_,hown.frozenAt (0+j)⟩
 have:=hown.cellAt (0+j) aB
 rw[this]
 simp[List.getElem?_eq_getElem hj',getElem!_pos,hj']):P:=h
theorem NP(h:P:=by
 have h1:=hK5.out
 rw[e]at h1
 have h2:wc.heap[w0.heap.size]? = _:=hres5
 rw[h1]at h2
 cases h2):P:=h
theorem Et(h:P:=by
 refine⟨rfl,rfl,rfl,by simp[putRow,mapBlock,Sort.ahead],fun k hk hne=>?_⟩
 have:g≠k:=fun e=>hne (by rw[e])
 simp[putRow,mapBlock,Sort.ahead,Array.getElem?_modify,this]):P:=h
theorem LZ(h:P:=by
 subst hg
 refine⟨rfl,fun _=>⟨_,_,rfl,fun j u hu=>?_⟩⟩
 rw[Nat.zero_add,cell_of_row _ _ _ _ _ _ (World.alloc_heap_new W (.cells #[.string s] 9))]
 simpa using hu):P:=h
theorem JJ(h:P:=by
 rw[getElem!_pos _ _ (by simpa using hj2)]
 simp only[List.getElem_toArray]
 rw[List.getElem_append_left hjl]
 exact (List.getElem?_eq_some_iff.1 hx).2):P:=h
theorem zg(h:P:=by
 have:=(List.getElem?_eq_some_iff.1 hi).1
 rw[List.length_take]at this;omega):P:=h
theorem JM(h:P:=by
 rintro e w' ⟨v',rfl,hown,_,hb⟩
 rcases hown.2 with ⟨rfl,_⟩ | ⟨g,cap,cur,rfl,r⟩
 ·exact⟨none,0,rfl,hb⟩
 ·exact⟨_,_,rfl,hb⟩):P:=h
theorem GG(h:P:=by
 exact bodyPost_ret (v:=.tuple #[.agg #[.int .i64 0,.string ⟨#[]⟩,.slice none 0 0,.bool false],.bool false]) xW rfl (lH.none_ 0 _ _ _ _ _ aJ)):P:=h
theorem GU(h:P:=by
 subst hg
 have h:Blk (W.alloc (.cells #[a,b] t)) W.heap.size t #[a,b] (0,0):=World.alloc_heap_new _ _
 exact⟨Blk.cell h 0,Blk.cell h 1⟩):P:=h
theorem JK(h:P:=by
 refine hc j _ ?_
 rw[List.getElem?_map,List.getElem?_eq_getElem hj]
 simp[List.getD_eq_getElem?_getD,List.getElem?_eq_getElem hj]):P:=h
theorem Ns(h:P:=by
 cases r
 ·exact (decide_eq_false (fun e=>by have:=key.2 e;cases this)).symm
 ·exact (decide_eq_true (key.1 rfl)).symm):P:=h
theorem Me(h:P:=by
 intro e
 subst e
 unfold aQ at hx
 rw[hx]at ho
 injection ho with ho
 subst ho
 cases hc):P:=h
theorem NV(h:P:=by
 rw[HRR.out,HE1.out]
 exact⟨below_setRow HS1.out.b aB _,vZ,rfl,yz _,rfl,fun h=>absurd h aK⟩):P:=h
theorem Gv(h:P:=by
 rcases Nat.lt_or_ge g w.heap.size with hl | hl
 ·exact hl
 ·rw[Array.getElem?_eq_none hl]at h;cases h):P:=h
theorem IV(h:P:=by
 obtain⟨hl2,rfl⟩:=List.getElem?_eq_some_iff.1 hx
 exact List.drop_eq_getElem_cons hl2):P:=h
theorem NI(h:P:=by
 exact qi rfl _ _ (w.heap.size+2) _ _ rfl rfl (dY (setRow_heap _ _ _ _ _ _ HR5.out) HTS.out)):P:=h
theorem NU(h:P:=by
 exact qi rfl _ _ (w.heap.size+2) _ _ rfl rfl (dY (setRow_heap _ _ _ _ _ _ HS1.out.z) rfl)):P:=h
theorem Ko(h:P:=by
 rintro e w' ⟨N,rfl,_,_,hb⟩
 exact⟨⟨_,rfl,.inr ⟨⟨_,_,rfl⟩,rfl⟩⟩,hb⟩):P:=h
theorem IW(h:P:=by
 refine⟨⟨k+1,aB,bg,aA (by have:=HI.out;simpa using this),aV hb hb2⟩,dD⟩):P:=h
theorem MO(h:P:=by
 rw[Nat.add_sub_cancel,Nat.add_sub_cancel,List.take_add_one,ht,List.foldl_append]
 rfl):P:=h
theorem P6(h:P:=by
 by_cases hm0:0<m
 ·obtain rfl:K=true:=zO
  have e1:(0:Int)<(m:Int):=aB
  exact P7
 ·obtain rfl:K=false:=zO
  obtain rfl:m=0:=aB
  exact P7):P:=h
theorem P8(h:P:=by
 by_cases hm0:0<m
 ·obtain rfl:K=true:=zO
  have e1:(0:Int)<(m:Int):=aB
  exact P9
 ·obtain rfl:K=false:=zO
  obtain rfl:m=0:=aB
  exact P9):P:=h
theorem BX(h:P:=by
 obtain rfl:V=false:=by rw[hV2];rfl
 clear hV2
 exact ry):P:=h
theorem aG(h:P:=by kernel_rfl):P:=h
theorem wM(h:P:=by simp[results,results203,go_sem, *]):P:=h
theorem jH(h:P:=by go_split_ands;assumption):P:=h
theorem bg(h:P:=by go_num):P:=h
theorem xW(h:P:=by simp[results,results147,go_sem,c0,c1,c2,c3]):P:=h
theorem iD(h:P:=by simp[go_sem]):P:=h
theorem kN(h:P:=by simp[go_sem, *]):P:=h
theorem NF(h:P:=by simp only[results,results54];simp[go_sem,p0,p1,p2,p3,p4,p5,p6]):P:=h
theorem Ar(h:P:=by simp[results,results226,go_sem,p0,p1,p2,p3]):P:=h
theorem lF(h:P:=by kernel_rfl ):P:=h
theorem DJ(h:P:=by simp[results,results205,go_sem]):P:=h
theorem aBd(h:P:=by simp[results,results174,go_sem,hz2,c0,c1,c2,c3,f0,f1,f2,f3]):P:=h
theorem IK(h:P:=by simp[results,results174,go_sem,hz3,c0,c1,c2,c3,f0,f1,f2,f3]):P:=h
theorem EH(h:P:=by rw[hb'.cell (by simp)];simp[go_sem]):P:=h
theorem NK(h:P:=by simp[go_sem,execOp,u5,n0]):P:=h
theorem NQ(h:P:=by simp[results,results78,go_sem,r0,r1,r2,r3,r4,r5,r6]):P:=h
theorem sS(h:P:=by simp[hc1,go_sem]):P:=h
theorem aBc(h:P:=by simp[go_sem,execOp,u4]):P:=h
theorem pJ(h:P:=by
 (go_enter func41,ntmps41;go_wp2_with fail;rw[<-HW.out];refine wp_region_quiet_below aG aG ?_;(repeat (any_goals (first | go_big_quiet_step ((first | (with_reducible exact jT C1.out _ _) | (with_reducible exact jT C2.out _ _) | (with_reducible exact jT C3.out _ _) | (with_reducible exact jT C4.out _ _) | (with_reducible exact jT C5.out _ _) | (with_reducible exact jT C6.out _ _) | (with_reducible exact jT C7.out _ _))) | quiet_step ((first | (with_reducible exact jT C1.out _ _) | (with_reducible exact jT C2.out _ _) | (with_reducible exact jT C3.out _ _) | (with_reducible exact jT C4.out _ _) | (with_reducible exact jT C5.out _ _) | (with_reducible exact jT C6.out _ _) | (with_reducible exact jT C7.out _ _))))));refine wpQuiet_nil ?_;intro _ hwq;obtain⟨⟨dq,osq⟩,hwq⟩:=hwq;subst hwq;have hbq:=below_regrown (W0) dq osq;generalize grow (redrawn (W0) dq) osq=wq at *;go_wp2;go_ret;exact⟨rfl,aV HB0.out hbq⟩)):P:=h
theorem AP(h:P:=by
 have HSO:=aA hsome;clear hsome hcmp hok
 go_wp2_with (first | (go_at_call 162;refine (HW.out _).mono ?_;rintro e w4 ⟨rfl,hb4⟩;replace hB:bJ w4 w.heap.size kd tx (.slice A' acc.length c') false:=Blk.keep hB hb4;replace hown:=fZ hown hb4;replace hbw:=hbw.trans (hb4.mono aB);replace hFr:∀ j,j<w3.heap.size->j≠w.heap.size->w4.heap[j]? = w3.heap[j]?:=(fun j q1 q2=>(hb4.block j aB).trans (hFr j q1 q2));replace hzr:w3.heap.size<=w4.heap.size:=Nat.le_trans hzr hb4.size;clear c0 c1 c2 c3 f0 f1 f2 f3;obtain⟨c0,c1,c2,c3,f0,f1,f2,f3⟩:=hB.facts;clear HW) | (go_at_call 206;refine (HH.out _).mono ?_;rintro e w5 ⟨rfl,hw5⟩;rw[hw5];clear hw5 w5) | (go_at_call 162;refine (HX.out _).mono ?_;rintro e w5 ⟨rfl,hb5⟩;replace hB:bJ w5 w.heap.size kd tx (.slice A' acc.length c') false:=Blk.keep hB hb5;replace hown:=fZ hown hb5;replace hbw:=hbw.trans (hb5.mono aB);replace hFr:∀ j,j<w3.heap.size->j≠w.heap.size->w5.heap[j]? = w3.heap[j]?:=(fun j q1 q2=>(hb5.block j aB).trans (hFr j q1 q2));replace hzr:w3.heap.size<=w5.heap.size:=Nat.le_trans hzr hb5.size;clear c0 c1 c2 c3 f0 f1 f2 f3;obtain⟨c0,c1,c2,c3,f0,f1,f2,f3⟩:=hB.facts;clear HX))
 go_region_law (first | (go_simp;go_at_call 205;refine (HP2.out _).mono ?_;rintro e w6 ⟨rfl,hb6⟩;replace hb6:=F7 hb6;replace hB:bJ w6 w.heap.size kd tx (.slice A' acc.length c') false:=Blk.keep hB hb6;replace hown:=fZ hown hb6;replace hbw:=hbw.trans (hb6.mono aB);replace hFr:∀ j,j<w3.heap.size->j≠w.heap.size->w6.heap[j]? = w3.heap[j]?:=(fun j q1 q2=>(hb6.block j aB).trans (hFr j q1 q2));replace hzr:w3.heap.size<=w6.heap.size:=Nat.le_trans hzr hb6.size;have hz6:w.heap.size<w6.heap.size:=aB;clear c0 c1 c2 c3 f0 f1 f2 f3;obtain⟨c0,c1,c2,c3,f0,f1,f2,f3⟩:=hB.facts) | (refine step_append_lies _ bC _ _ _ bC w3.heap.size 192 i0 (.agg #[.int .i64 0,.string ⟨#[]⟩]) 2 24 underlying193 HI.out.1 HI.out.2.1 HI.out.2.2.1 HI.out.2.2.2 bC aB (.slice A' acc.length c') acc.length (eG acc) bC (hown.alloc _) ⟨w6.heap.size,0,none⟩ 1 1 [.int .i64 pk,.string pt] bC bC (World.news_of_block (cs:=#[.int .i64 pk,.string pt]) (t:=192) (fr:=(0,0)) (World.alloc_heap_new w6 _)) jJ aB dh aB aP (w6.heap.size+1) aH ?_;intro gg cap w7 hown7 hgrow hat hlt7;have hB7:bJ w7 w.heap.size kd tx (.slice A' acc.length c') false:=(hgrow.block w.heap.size aP (fun e=>AY)).trans ((Below.heap_alloc w6 _ w.heap.size aB).trans hB);clear c0 c1 c2 c3 f0 f1 f2 f3;obtain⟨c0,c1,c2,c3,f0,f1,f2,f3⟩:=hB7.facts));all_goals go_wp2;all_goals (have hal:(acc++[(⟨pk,pt⟩:bI)]).length=acc.length+1:=aH;have hpc:eG (acc++[⟨pk,pt⟩])=eG acc++[.int .i64 pk,.string pt]:=(by simp[eG]);refine⟨⟨k+1,acc++[⟨pk,pt⟩],some ⟨gg,0,none⟩,cap,false,⟨bg,aB,aP⟩,aA (.inl ⟨rfl,HSO.out⟩),aBa,aAu,((hbw.alloc hbw.size _).grown hgrow aBb (fun r e=>Au)).setCell (p:=⟨w.heap.size,2,none⟩) aH _,fun j q1 q2=>(Below.heap_setCell _ _ _ _ AQ).trans ((hgrow.block j aP (fun e=>AY)).trans ((Below.heap_alloc w6 _ j aB).trans (hFr j q1 q2))),Gs⟩,dD⟩)):P:=h
theorem sQ(h:P:=by
 go_enter func14,ntmps14
 go_upto_region 1 with fail
 generalize hw0:World.alloc _ _=w0
 have B0:fQ w0 w.heap.size x:=⟨vN⟩
 have hb0:aF w w0:=yY
 clear hw0
 obtain⟨y0,y1,y2,y3⟩:=B0.cells
 rw[HLN.out]at y3
 go_wp2_with (first | (go_at_call 45;refine (HT.out _ _ (XP _ _ _ aH)).mono ?_;rintro e w2 ⟨rfl,hb2⟩;have hb12:aF w0 w2:=aJ;have B2:=B0.keep hb12;clear y0 y1 y2 y3;obtain⟨y0,y1,y2,y3⟩:=B2.cells;rw[HLN.out]at y3;have hw2:=aV hb0 hb12) | (go_at_call 46;refine (HP1.out _).mono ?_;rintro e w3 ⟨rfl,hb3⟩;clear HP1;have B3:=B2.keep hb3;clear y0 y1 y2 y3;obtain⟨y0,y1,y2,y3⟩:=B3.cells;rw[HLN.out]at y3;have hw3:=aV hw2 hb3) | (go_at_call 46;refine (HP2.out _).mono ?_;rintro e w4 ⟨rfl,hb4⟩;clear HP2;have B4:=B3.keep hb4;clear y0 y1 y2 y3;obtain⟨y0,y1,y2,y3⟩:=B4.cells;rw[HLN.out]at y3;have hw4:=aV hw3 hb4) | (go_at_call 47;refine (HC.out _ hw4).mono ?_;rintro e w5 ⟨rfl,hb5⟩))
 go_ret
 exact⟨fV aAz,aJ⟩):P:=h
theorem mX(h:P:=by
 (go_enter func49,ntmps49;go_wp2_with (first | ((first | (go_at_call 99;refine (HVA.out _ (Env.keep HE.out aJ)).mono ?_) | (go_at_call 100;(first | (refine (C1.out _ aJ).mono ?_;clear C1) | refine (C2.out _ aJ).mono ?_)));rintro e w2 ⟨rfl,hb2⟩;(have hX2:aX w2 w.heap.size fr till pat A cl.length ca B co.length cb S si.length cs us:=EU;obtain⟨x0,x1,x2,x3,x4,x5,x6⟩:=hX2.facts)) | (go_at_call 103;refine (C3.out _ aJ).mono ?_;rintro e w2 ⟨rfl,hb2⟩));go_ret;exact⟨rfl,aJ⟩)):P:=h
theorem ry(h:P:=by
 (go_enter func85,ntmps85;go_wp2_with (((first | (go_at_call 146;refine (C1.out _ (Env.keep HE.out aJ)).mono ?_) | (go_at_call 101;refine (C2.out _ (Env.keep HE.out aJ)).mono ?_) | (go_at_call 102;refine (C3.out _).mono ?_) | (go_at_call 104;refine (C4.out _).mono ?_));rintro e w2 ⟨rfl,hb2⟩;(have hX2:Blk w2 w.heap.size 59 #[.string ad,.string cl,.string co,.int .i64 si,.int .i64 lo,.int .i64 hi] (0,0):=EU;have x0:=hX2.cell 0;have x1:=hX2.cell 1;have x2:=hX2.cell 2;have x3:=hX2.cell 3;have x4:=hX2.cell 4;have x5:=hX2.cell 5)));go_ret;exact⟨rfl,aJ⟩)):P:=h
theorem Gn(h:P:=by
 obtain⟨k,⟨rfl,hk⟩,HK,hbr⟩:=hrel
 by_cases hlt:k<n
 ·obtain⟨p',hp'⟩:∃ p,ps[k]? = some p:=⟨_,List.getElem?_eq_getElem o6⟩
  obtain⟨x',hx'⟩:∃ p,ap[k]? = some p:=⟨_,List.getElem?_eq_getElem (by have:=HNA.out;omega)⟩
  obtain⟨hpk,hpt⟩:=h3 p' (List.mem_of_getElem? hp')
  have hxz:=hapz x' (List.mem_of_getElem? hx')
  obtain⟨pb,po,rfl,hcell⟩:=(hRp3.keep hbr).2 aB
  obtain⟨qb,qo,rfl,hcellq⟩:=(hRq3.keep hbr).2 aB
  obtain⟨e1,e2⟩:=xY ps k p' hp'
  have hc1:wr.cell? ⟨pb,po+k*2,none⟩=_:=hcell _ _ e1
  have hc2:wr.cell? ⟨pb,po+k*2+1,none⟩=_:=hcell _ _ e2
  have hc3:wr.cell? ⟨qb,qo+k,none⟩=some (.string x'):=hcellq _ _ (by simp[hx'])
  have hdp:ps.drop k=p' :: ps.drop (k+1):=by
   obtain⟨hl2,rfl⟩:=List.getElem?_eq_some_iff.1 hp'
   exact List.drop_eq_getElem_cons hl2
  have hdx:ap.drop k=x' :: ap.drop (k+1):=by
   obtain⟨hl2,rfl⟩:=List.getElem?_eq_some_iff.1 hx'
   exact List.drop_eq_getElem_cons hl2
  have hm:=HK.out
  rw[hdp,hdx,eH]at hm
  have cW:=fun W=>Aj p'.kind p'.text x' W aB aB hpk
  obtain⟨pk,pt⟩:=p'
  dsimp only at hc1 hc2 cW hm
  have y2r:=aW hbr y2
  have g1:(wr.alloc (.cells #[.int .i64 pk,.string pt] 192)).cell? ⟨wr.heap.size,0,none⟩=some (.int .i64 pk):=iD
  have g2:(wr.alloc (.cells #[.int .i64 pk,.string pt] 192)).cell? ⟨wr.heap.size,1,none⟩=some (.string pt):=iD
  have g3:(wr.alloc (.cells #[.int .i64 pk,.string pt] 192)).cell? ⟨w2.heap.size,1,none⟩=some (.slice (some ⟨qb,qo,none⟩) na cb):=aW (aU (Below.refl _ _) _) y2r
  have g4:(wr.alloc (.cells #[.int .i64 pk,.string pt] 192)).cell? ⟨qb,qo+k,none⟩=some (.string x'):=aW (aU (Below.refl _ _) _) hc3
  have hk0:(0:Int)<=(k:Int):=aB
  have hkm:(k:Int)<(na:Int):=aB
  clear hp' hx' hcell hcellq e1 e2 hdp hdx HK
  cases hh:dW pk pt x'
  ·rw[hh]at cW hm
   have HW:=aA cW
   have HM2:=aA hm
   clear cW hm hh
   go_wp2_with fail
   have k1:=cell_regrown g1;have k2:=cell_regrown g2;have k3:=cell_regrown g3;have k4:=cell_regrown g4
   refine wp_region_quiet_below aG aG ?_;(repeat (any_goals (first | go_big_quiet_step ((first | exact jS HW.out _ _)) | quiet_step ((first | exact jS HW.out _ _)))));refine wpQuiet_nil ?_;intro _ hwq;obtain⟨⟨dq,osq⟩,hwq⟩:=hwq;subst hwq;have hb4:=below_regrown (wr.alloc (.cells #[.int .i64 pk,.string pt] 192)) dq osq;generalize grow (redrawn (wr.alloc (.cells #[.int .i64 pk,.string pt] 192)) dq) osq=w4 at *
   go_wp2
   go_ret
   exact⟨fV (by have:=HM2.out;simpa using this),aJ⟩
  ·rw[hh]at cW hm
   have HW:=aA cW
   have HM2:Hid (eH (ps.drop (k+1)) (ap.drop (k+1))=res):=aA (by simpa using hm)
   clear cW hm hh
   go_wp2_with fail
   have k1:=cell_regrown g1;have k2:=cell_regrown g2;have k3:=cell_regrown g3;have k4:=cell_regrown g4
   refine wp_region_quiet_below aG aG ?_;(repeat (any_goals (first | go_big_quiet_step ((first | exact jS HW.out _ _)) | quiet_step ((first | exact jS HW.out _ _)))));refine wpQuiet_nil ?_;intro _ hwq;obtain⟨⟨dq,osq⟩,hwq⟩:=hwq;subst hwq;have hb4:=below_regrown (wr.alloc (.cells #[.int .i64 pk,.string pt] 192)) dq osq;generalize grow (redrawn (wr.alloc (.cells #[.int .i64 pk,.string pt] 192)) dq) osq=w4 at *
   go_wp2
   exact⟨⟨k+1,⟨bg,aB⟩,HM2,aV (aU hbr _) hb4⟩,dD⟩
 ·obtain rfl:k=n:=aB
  have hm:res=true:=by
   have:=HK.out
   rw[HN.out,List.drop_eq_nil_of_le (Nat.le_refl _),eH]at this
   exact this.symm
  subst hm
  go_wp2
  go_ret
  exact⟨rfl,aJ⟩):P:=h
theorem ni(h:P:=by
 (try dsimp only)
 (go_split_ands;refine⟨?_,?_,?_,?_,?_,?_,?_,?_,?_⟩ <;> first | assumption | (refine aW hb3 ?_;assumption) | (refine aV ?_ hb3;assumption) | (refine Lib.cell?_alloc_some _ ?_;assumption) | (refine aU ?_ _;assumption) | ((repeat (first | exact .refl _ _ | assumption | refine .drew ?_ | refine aU ?_ _ | refine oK ?_ _ | refine .setCell ?_ lw _ | refine aV ?_ dJ));done) | (simp[go_sem, *];done))):P:=h
theorem ES(h:P:=by
 go_enter func203,ntmps203;go_wp2_with (first | (go_at_call 261;refine (HL.out _).mono ?_;rintro e w1 ⟨rfl,hb1⟩;obtain⟨hc1,hf1⟩:=bT hb1;have hz1_0:w.heap.size<w1.heap.size:=iQ;have hE1:=Env.keep (Env.keep hE (aU (Below.refl _ _) _)) hb1) | (go_at_call 260;refine (HC1.out _ hE1).mono ?_;rintro e w2 ⟨rfl,hb2⟩;obtain⟨hc2,hf2⟩:=bT hb2;have hz2_0:w.heap.size<w2.heap.size:=qA;have hE2:=Env.keep hE1 hb2;clear hE1) | (go_at_call 262;refine (HT.out _).mono ?_;rintro e wt ⟨rfl,hwt⟩;rw[hwt];clear hwt wt) | (go_at_call 260;refine (HC2.out _ hE2).mono ?_;rintro e w3 ⟨rfl,hb3⟩;obtain⟨hc3,hf3⟩:=bT hb3;have hz3_0:w.heap.size<w3.heap.size:=uB;have hE3:=Env.keep hE2 hb3) | (go_at_call 263;refine (rC _ _ _).mono ?_;rintro e X ⟨rfl,hX⟩;have cR:=uA R w3 X hX hR;have hbX:aF w3 X:=uC;clear hX) | (go_at_call 265;refine (EQ _).mono ?_;rintro e w5 hres;rw[<-HR0.out aH]at hres;obtain⟨hbr,PA,Pc,rfl,hPR,hPA,hPc⟩:=HRs.out _ _ _ _ hres;clear hres cR;have hb5:aF w3 w5:=aV hbX hbr;obtain⟨hc5,hf5⟩:=bT hb5;have hz5_0:w.heap.size<w5.heap.size:=uD;have hE5:=Env.keep hE3 hb5) | (go_at_call 266;refine (HP.out _ hE5).mono ?_;rintro e w6 hpp;obtain⟨hb6,QA,Qc,rfl,hQR,hQA⟩:=HPs.out _ _ _ hpp;clear hpp;obtain⟨hc6,hf6⟩:=bT hb6;have hz6_0:w.heap.size<w6.heap.size:=uF) | (go_at_call 94;refine (HN.out _).mono ?_;rintro e w7 ⟨rfl,hb7⟩;obtain⟨hc7,hf7⟩:=bT hb7;have hz7_0:w.heap.size<w7.heap.size:=uG))
 exact bodyPost_ret (v:=.tuple #[.agg #[.string ⟨#[]⟩,.slice none 0 0,.slice none 0 0],.int .i64 3]) wM rfl ⟨aJ,none,0,none,0,rfl,aI.nil_ _ _ _,aI.nil_ _ _ _,(fun a ha=>jd),(fun a ha=>jd),Nat.le_refl _⟩):P:=h
theorem ET(h:P:=by
 go_enter func203,ntmps203;go_wp2_with (first | (go_at_call 261;refine (HL.out _).mono ?_;rintro e w1 ⟨rfl,hb1⟩;obtain⟨hc1,hf1⟩:=bT hb1;have hz1_0:w.heap.size<w1.heap.size:=iQ;have hE1:=Env.keep (Env.keep hE (aU (Below.refl _ _) _)) hb1) | (go_at_call 260;refine (HC1.out _ hE1).mono ?_;rintro e w2 ⟨rfl,hb2⟩;obtain⟨hc2,hf2⟩:=bT hb2;have hz2_0:w.heap.size<w2.heap.size:=qA;have hE2:=Env.keep hE1 hb2;clear hE1) | (go_at_call 262;refine (HT.out _).mono ?_;rintro e wt ⟨rfl,hwt⟩;rw[hwt];clear hwt wt) | (go_at_call 260;refine (HC2.out _ hE2).mono ?_;rintro e w3 ⟨rfl,hb3⟩;obtain⟨hc3,hf3⟩:=bT hb3;have hz3_0:w.heap.size<w3.heap.size:=uB;have hE3:=Env.keep hE2 hb3) | (go_at_call 263;refine (rC _ _ _).mono ?_;rintro e X ⟨rfl,hX⟩;have cR:=uA R w3 X hX hR;have hbX:aF w3 X:=uC;clear hX) | (go_at_call 265;refine cR.mono ?_;rintro e w5 hres;rw[HRR.out aH]at hres;obtain⟨hbr,PA,Pc,rfl,hPR,hPA,hPc⟩:=HRs.out _ _ _ _ hres;clear hres cR;have hb5:aF w3 w5:=hbX.trans hbr;obtain⟨hc5,hf5⟩:=bT hb5;have hz5_0:w.heap.size<w5.heap.size:=uD;have hE5:=Env.keep hE3 hb5) | (go_at_call 266;refine (HP.out _ hE5).mono ?_;rintro e w6 hpp;obtain⟨hb6,QA,Qc,rfl,hQR,hQA⟩:=HPs.out _ _ _ hpp;clear hpp;obtain⟨hc6,hf6⟩:=bT hb6;have hz6_0:w.heap.size<w6.heap.size:=uF) | (go_at_call 94;refine (HN.out _).mono ?_;rintro e w7 ⟨rfl,hb7⟩;obtain⟨hc7,hf7⟩:=bT hb7;have hz7_0:w.heap.size<w7.heap.size:=uG))
 exact bodyPost_ret (v:=.tuple #[.agg #[.string ⟨#[]⟩,.slice none 0 0,.slice none 0 0],.int .i64 3]) wM rfl ⟨aJ,none,0,none,0,rfl,aI.nil_ _ _ _,aI.nil_ _ _ _,(fun a ha=>jd),(fun a ha=>jd),Nat.le_refl _⟩):P:=h
theorem AO(h:P:=by
 have HNO:=aA hnone;clear hnone hcmp hok
 go_wp2_with (first | (go_at_call 162;refine (HW.out _).mono ?_;rintro e w4 ⟨rfl,hb4⟩;replace hB:bJ w4 w.heap.size kd tx (.slice A' acc.length c') false:=Blk.keep hB hb4;replace hown:=fZ hown hb4;replace hbw:=hbw.trans (hb4.mono aB);replace hFr:∀ j,j<w3.heap.size->j≠w.heap.size->w4.heap[j]? = w3.heap[j]?:=(fun j q1 q2=>(hb4.block j aB).trans (hFr j q1 q2));replace hzr:w3.heap.size<=w4.heap.size:=Nat.le_trans hzr hb4.size;clear c0 c1 c2 c3 f0 f1 f2 f3;obtain⟨c0,c1,c2,c3,f0,f1,f2,f3⟩:=hB.facts;clear HW) | (go_at_call 206;refine (HH.out _).mono ?_;rintro e w5 ⟨rfl,hw5⟩;rw[hw5];clear hw5 w5) | (go_at_call 162;refine (HX.out _).mono ?_;rintro e w5 ⟨rfl,hb5⟩;replace hB:bJ w5 w.heap.size kd tx (.slice A' acc.length c') false:=Blk.keep hB hb5;replace hown:=fZ hown hb5;replace hbw:=hbw.trans (hb5.mono aB);replace hFr:∀ j,j<w3.heap.size->j≠w.heap.size->w5.heap[j]? = w3.heap[j]?:=(fun j q1 q2=>(hb5.block j aB).trans (hFr j q1 q2));replace hzr:w3.heap.size<=w5.heap.size:=Nat.le_trans hzr hb5.size;clear c0 c1 c2 c3 f0 f1 f2 f3;obtain⟨c0,c1,c2,c3,f0,f1,f2,f3⟩:=hB.facts;clear HX))
 rw[HNO.out];exact bodyPost_ret (v:=.tuple #[.agg #[.int .i64 kd,.string tx,.slice A' acc.length c',.bool false],.bool false]) xW rfl (lH.none_ _ _ _ _ _ _ aJ)):P:=h
theorem uX(h:P:=by
 (try dsimp only)
 first | (go_split_ands;exact⟨aW (aU (Below.refl _ _) _) ‹_›,aW (aU (Below.refl _ _) _) ‹_›,aW (aU (Below.refl _ _) _) ‹_›,aW (aU (Below.refl _ _) _) ‹_›,aW (aU (Below.refl _ _) _) ‹_›,aW (aU (Below.refl _ _) _) ‹_›,aW (aU (Below.refl _ _) _) ‹_›,aW (aU (Below.refl _ _) _) ‹_›⟩) | go_keep):P:=h
theorem jh(h:P:=by
 (try simp only[bQ,DL,IsV,bV,Region.binds,and_true,true_and]at hd)
 simp only[aZ,bH,Act.put]
 (try simp only[hd])
 clear hd
 go_wp2
 exact⟨rfl,rfl,rfl,aJ⟩):P:=h
theorem Gq(h:P:=by
 subst hRR
 go_wp2_with (go_at_call 285;refine (H0.out _).mono ?_;rintro e w1 ⟨rfl,hb1⟩;have hX:bJ w1 w.heap.size pk pt (.slice A' np ca') _:=Blk.keep bX hb1;have hY:bJ w1 (w.heap.size+1) qk qt (.slice B' nq cb') _:=Blk.keep bY hb1;have hO:bJ w1 (w.heap.size+1+1) 0 ⟨#[]⟩ (.slice none 0 0) false:=Blk.keep bO hb1;have hz1:w.heap.size+3<=w1.heap.size:=Aq;have hbw:aF w w1:=aV hbc hb1;clear x0 x1 x2 x3 y0 y1 y2 y3 o0 o1 o2 o3 q0 q1 q2 q3;obtain⟨x0,x1,x2,x3,_⟩:=hX.facts;obtain⟨y0,y1,y2,y3,_⟩:=hY.facts;obtain⟨o0,o1,o2,o3,q0,q1,q2,q3⟩:=hO.facts)
 have hO':=Blk.set_ (Blk.set_ (Blk.set_ (Blk.set_ (Blk.set_ (Blk.set_ hO 0 (.int .i64 mk)) 1 (.string mt)) 0 (.int .i64 mk)) 1 (.string mt)) 2 (.slice none 0 0)) 3 (.bool false);have hbE:=((((((hbw.setCell (p:=⟨w.heap.size+1+1,0,none⟩) aP (.int .i64 mk)).setCell (p:=⟨w.heap.size+1+1,1,none⟩) aP (.string mt)).setCell (p:=⟨w.heap.size+1+1,0,none⟩) aP (.int .i64 mk)).setCell (p:=⟨w.heap.size+1+1,1,none⟩) aP (.string mt)).setCell (p:=⟨w.heap.size+1+1,2,none⟩) aP (.slice none 0 0)).setCell (p:=⟨w.heap.size+1+1,3,none⟩) aP (.bool false));revert hO' hbE;generalize ((((((w1.setCell ⟨w.heap.size+1+1,0,none⟩ (.int .i64 mk)).setCell ⟨w.heap.size+1+1,1,none⟩ (.string mt)).setCell ⟨w.heap.size+1+1,0,none⟩ (.int .i64 mk)).setCell ⟨w.heap.size+1+1,1,none⟩ (.string mt)).setCell ⟨w.heap.size+1+1,2,none⟩ (.slice none 0 0)).setCell ⟨w.heap.size+1+1,3,none⟩ (.bool false))=W';intro hO' hbE;have hO2:bJ W' (w.heap.size+1+1) mk mt (.slice none 0 0) false:=hO';obtain⟨p0,p1,p2,p3,_⟩:=hO2.facts;clear hO' o0 o1 o2 o3 x0 x1 x2 x3 y0 y1 y2 y3;exact bodyPost_ret (v:=.tuple #[.agg #[.int .i64 mk,.string mt,.slice none 0 0,.bool false],.bool false]) Ar rfl (lH.none_ _ _ _ _ _ _ hbE)):P:=h
theorem PY(h:P:=by
 go_enter func203,ntmps203;go_wp2_with (first | (go_at_call 261;refine (HL.out _).mono ?_;rintro e w1 ⟨rfl,hb1⟩;obtain⟨hc1,hf1⟩:=bT hb1;have hz1_0:w.heap.size<w1.heap.size:=iQ;have hE1:=Env.keep (Env.keep hE (aU (Below.refl _ _) _)) hb1) | (go_at_call 260;refine (HC1.out _ hE1).mono ?_;rintro e w2 ⟨rfl,hb2⟩;obtain⟨hc2,hf2⟩:=bT hb2;have hz2_0:w.heap.size<w2.heap.size:=qA;have hE2:=Env.keep hE1 hb2;clear hE1) | (go_at_call 262;refine (HT.out _).mono ?_;rintro e wt ⟨rfl,hwt⟩;rw[hwt];clear hwt wt) | (go_at_call 260;refine (HC2.out _ hE2).mono ?_;rintro e w3 ⟨rfl,hb3⟩;obtain⟨hc3,hf3⟩:=bT hb3;have hz3_0:w.heap.size<w3.heap.size:=uB;have hE3:=Env.keep hE2 hb3) | (go_at_call 263;refine (rC _ _ _).mono ?_;rintro e X ⟨rfl,hX⟩;have cR:=uA R w3 X hX hR;have hbX:aF w3 X:=uC;clear hX) | (go_at_call 265;refine (EQ _).mono ?_;rintro e w5 hres;rw[<-HR0.out aH]at hres;obtain⟨hbr,PA,Pc,rfl,hPR,hPA,hPc⟩:=HRs.out _ _ _ _ hres;clear hres cR;have hb5:aF w3 w5:=aV hbX hbr;obtain⟨hc5,hf5⟩:=bT hb5;have hz5_0:w.heap.size<w5.heap.size:=uD;have hE5:=Env.keep hE3 hb5) | (go_at_call 266;refine (HP.out _ hE5).mono ?_;rintro e w6 hpp;obtain⟨hb6,QA,Qc,rfl,hQR,hQA⟩:=HPs.out _ _ _ hpp;clear hpp;obtain⟨hc6,hf6⟩:=bT hb6;have hz6_0:w.heap.size<w6.heap.size:=uF) | (go_at_call 94;refine (HN.out _).mono ?_;rintro e w7 ⟨rfl,hb7⟩;obtain⟨hc7,hf7⟩:=bT hb7;have hz7_0:w.heap.size<w7.heap.size:=uG))
 exact bodyPost_ret (v:=.tuple #[.agg #[.string ⟨#[]⟩,.slice none 0 0,.slice none 0 0],.int .i64 2]) wM rfl ⟨aJ,none,0,none,0,rfl,aI.nil_ _ _ _,aI.nil_ _ _ _,(fun a ha=>jd),(fun a ha=>jd),Nat.le_refl _⟩):P:=h
theorem Pg(h:P:=by
 go_enter func203,ntmps203;go_wp2_with (first | (go_at_call 261;refine (HL.out _).mono ?_;rintro e w1 ⟨rfl,hb1⟩;obtain⟨hc1,hf1⟩:=bT hb1;have hz1_0:w.heap.size<w1.heap.size:=iQ;have hE1:=Env.keep (Env.keep hE (aU (Below.refl _ _) _)) hb1) | (go_at_call 260;refine (HC1.out _ hE1).mono ?_;rintro e w2 ⟨rfl,hb2⟩;obtain⟨hc2,hf2⟩:=bT hb2;have hz2_0:w.heap.size<w2.heap.size:=qA;have hE2:=Env.keep hE1 hb2;clear hE1) | (go_at_call 262;refine (HT.out _).mono ?_;rintro e wt ⟨rfl,hwt⟩;rw[hwt];clear hwt wt) | (go_at_call 260;refine (HC2.out _ hE2).mono ?_;rintro e w3 ⟨rfl,hb3⟩;obtain⟨hc3,hf3⟩:=bT hb3;have hz3_0:w.heap.size<w3.heap.size:=uB;have hE3:=Env.keep hE2 hb3) | (go_at_call 263;refine (rC _ _ _).mono ?_;rintro e X ⟨rfl,hX⟩;have cR:=uA R w3 X hX hR;have hbX:aF w3 X:=uC;clear hX) | (go_at_call 265;refine cR.mono ?_;rintro e w5 hres;rw[HRR.out aH]at hres;obtain⟨hbr,PA,Pc,rfl,hPR,hPA,hPc⟩:=HRs.out _ _ _ _ hres;clear hres cR;have hb5:aF w3 w5:=hbX.trans hbr;obtain⟨hc5,hf5⟩:=bT hb5;have hz5_0:w.heap.size<w5.heap.size:=uD;have hE5:=Env.keep hE3 hb5) | (go_at_call 266;refine (HP.out _ hE5).mono ?_;rintro e w6 hpp;obtain⟨hb6,QA,Qc,rfl,hQR,hQA⟩:=HPs.out _ _ _ hpp;clear hpp;obtain⟨hc6,hf6⟩:=bT hb6;have hz6_0:w.heap.size<w6.heap.size:=uF) | (go_at_call 94;refine (HN.out _).mono ?_;rintro e w7 ⟨rfl,hb7⟩;obtain⟨hc7,hf7⟩:=bT hb7;have hz7_0:w.heap.size<w7.heap.size:=uG))
 exact bodyPost_ret (v:=.tuple #[.agg #[.string ⟨#[]⟩,.slice none 0 0,.slice none 0 0],.int .i64 2]) wM rfl ⟨aJ,none,0,none,0,rfl,aI.nil_ _ _ _,aI.nil_ _ _ _,(fun a ha=>jd),(fun a ha=>jd),Nat.le_refl _⟩):P:=h
theorem P9(h:P:=by
 clear hK
 go_enter func110,ntmps110
 go_wp2_with (first | (go_at_call 172;refine (HC.out _ aJ).mono ?_;rintro e w2 ⟨g,cap,rfl,hown,hb2⟩;have c0:=aW hb2 (Boxed.new w 25 (.slice B nb cb)).cell;have hown2:=(show w2.ownsRow (w.heap.size+1) _ _ _ _ _ from Pv);have hbk:=(hown2.lt g rfl).1;clear hown) | (go_at_call 171;refine (HD.out _ _ _ c0 aJ hown2).mono ?_;rintro e w3 ⟨rfl,hR,hb3⟩))
 go_ret2
 exact⟨aV (aU (Below.refl _ _) _) (hb2.trans (hb3.mono aH)),_,_,rfl,hR,fun _ a ha=>Po⟩):P:=h
theorem P7(h:P:=by
 clear hK
 go_enter func109,ntmps109
 go_wp2_with (first | (go_at_call 169;refine (HC.out _ aJ).mono ?_;rintro e w2 ⟨g,cap,rfl,hown,hb2⟩;have c0:=aW hb2 (Boxed.new w 24 (.slice B nb cb)).cell;have hown2:=(show w2.ownsRow (w.heap.size+1) _ _ _ _ _ from Pv);have hbk:=(hown2.lt g rfl).1;clear hown) | (go_at_call 168;refine (HD.out _ _ _ c0 aJ hown2).mono ?_;rintro e w3 ⟨rfl,hR,hb3⟩))
 go_ret2
 exact⟨aV (aU (Below.refl _ _) _) (hb2.trans (hb3.mono aH)),_,_,rfl,hR,fun _ a ha=>Po⟩):P:=h
theorem GX(h:P:=by
 have hk0:(0:Int)<=(k:Int):=aB
 have hk1:(k:Int)<(n:Int):=aB
 have htk:(xs.map f).take (k+1)=(xs.map f).take k++[f x]:=by rw[List.take_add_one,List.getElem?_map,hx];rfl
 have HTK:=aA htk
 have HX:=aA hx
 clear hcell hx htk
 go_wp2_with (first | (go_at_fn g;refine (HF.out x (List.mem_of_getElem? HX.out) _ aJ).mono ?_;rintro e w2 ⟨rfl,hb2⟩) | (at_builtin;refine wpList_append_own _ rfl _ _ 24 rfl w.heap.size 9 i0 (.string ⟨#[]⟩) 1 16 underlying24 HI.out.1 HI.out.2.1 HI.out.2.2.1 HI.out.2.2.2 rfl aK _ _ _ rfl ((fZ hown hb2).alloc _) ⟨w2.heap.size,0,none⟩ 1 1 [.string (f x)] rfl rfl (cell_one_new _ _ _) jJ dh aB GN ?_;intro v' w3 hown' hgrow _;obtain⟨g',cap',rfl⟩:=ownsRow_succ hown'))
 refine⟨⟨k+1,some ⟨g',0,none⟩,cap',⟨rfl,bg,aB⟩,?_,?_⟩,dD⟩
 ·rw[HTK.out,List.map_append];exact hown'
 ·have h1:=hbr.size
  have h2:=hb2.size
  exact ((hbr.trans (hb2.mono h1)).alloc aB _).grown hgrow aP (fun r e=>fE hown r e)):P:=h
theorem Ak(h:P:=by
 go_enter func86,ntmps86
 go_wp2_with (first | (go_at_call 147;refine (HC.out _ hE).mono ?_;rintro e w1 ⟨hb1,A,c,rfl,hRp⟩) | (go_at_call 148;refine (HD.out _ (Env.keep (Env.keep hE hb1) (aU (Below.refl _ _) _))).mono ?_;rintro e w2 ⟨hb2,B,cb,D,cd,rfl,hRq,_⟩;obtain⟨hc2,hf2⟩:=bT hb2;have hz2:w1.heap.size<w2.heap.size:=um) | (go_at_call 149;refine (HH.out _).mono ?_;rintro e w3 ⟨rfl,hb3⟩;obtain⟨hc3,hf3⟩:=bT hb3;have hz3:w2.heap.size<w3.heap.size:=xn))
 go_ret
 exact⟨rfl,aJ⟩):P:=h
theorem IJ(h:P:=by
 clear hbad
 go_enter func174,ntmps174
 go_wp2_with (first | (go_at_call 147;refine (H1.out _ (Env.keep hE (aU (Below.refl _ _) _))).mono ?_;rintro e w1 ⟨hb1,k1,t1,A1,n1,d1,b1,rfl⟩;have hE1:=Env.keep hE (dZ _ hb1);have hB1:bJ w1 w.heap.size 0 ⟨#[]⟩ (.slice none 0 0) false:=(hb1.block w.heap.size aH).trans (World.alloc_heap_new _ _);clear hE) | (go_at_call 147;refine (H2.out _ (Env.keep hE1 (aU (Below.refl _ _) _))).mono ?_;rintro e w2 ⟨hb2,k2,t2,A2,n2,d2,b2,rfl⟩;have hB2:bJ w2 w.heap.size 0 ⟨#[]⟩ (.slice none 0 0) false:=Blk.keep hB1 (dZ _ hb2);have hbw2:aF w w2:=aV (dZ _ hb1) (dZ _ hb2);obtain⟨c0,c1,c2,c3,f0,f1,f2,f3⟩:=hB2.facts;have hz2:w.heap.size<w2.heap.size:=Blk.lt hB2;clear hE1))
 exact bodyPost_ret (v:=.tuple #[.agg #[.int .i64 0,.string ⟨#[]⟩,.slice none 0 0,.bool false],.bool false,.int .i64 1]) aBd rfl (qU.none_ _ _ _ _ _ _ aJ)):P:=h
theorem Ba(h:P:=by
 clear hV2
 (go_enter func49,ntmps49;go_wp2_with (first | (go_at_call 100;(first | (refine (C1.out _ aJ).mono ?_;clear C1) | refine (C2.out _ aJ).mono ?_);rintro e w2 ⟨rfl,hb2⟩;(have hX2:aX w2 w.heap.size fr till ⟨#[]⟩ A cl.length ca B co.length cb S si.length cs us:=EU;obtain⟨x0,x1,x2,x3,x4,x5,x6⟩:=hX2.facts)) | (go_at_call 103;refine (C3.out _ aJ).mono ?_;rintro e w2 ⟨rfl,hb2⟩));go_ret;exact⟨rfl,aJ⟩)):P:=h
theorem GY(h:P:=by
 obtain rfl:k=n:=aB
 have ht:(xs.map f).take k=xs.map f:=List.take_of_length_le (by simp;have:=HL.out;omega)
 rw[ht]at hown
 have cJ:=SY A' k c' (xs.map f) wr w.heap.size hown HLEN.out hn
 have HJ:=aA cJ
 have cO:=fun (b cc:Nat) (W:World) h0 h1=>xQ b cc (jr (xs.map f)) ⟨#[126]⟩ W h0 h1
 have hVO:=HV.out
 rw[<-hVO]at cO
 generalize jr (xs.map f)=T at *
 have HO:=aA cO
 clear cJ cO hVO HV ht hown
 go_wp2_with (first | (go_at_call 72;refine HJ.out.mono ?_;rintro e w2 ⟨rfl,hb2⟩) | (go_at_call 108;refine (HO.out _ _ _ (AZ _ _ _ _ _ aH).1 (AZ _ _ _ _ _ aH).2).mono ?_;rintro e w3 ⟨rfl,hb3⟩))
 go_ret
 exact⟨rfl,aJ⟩):P:=h
theorem Np(h:P:=by
 show (if _ then ((List.range 16).mapM fun i=>prog.keyLits (d+1) 5 (([.int .u8 a0,.int .u8 a1,.int .u8 a2,.int .u8 a3,.int .u8 a4,.int .u8 a5,.int .u8 a6,.int .u8 a7,.int .u8 a8,.int .u8 a9,.int .u8 a10,.int .u8 a11,.int .u8 a12,.int .u8 a13,.int .u8 a14,.int .u8 a15]:List Value).drop (i*prog.cellsOf 5) |>.take (prog.cellsOf 5))).map List.flatten else none)=_
 rw[if_pos aG,show prog.cellsOf 5=1 by kernel_rfl,show List.range 16=[0,1,2,3,4,5,6,7,8,9,10,11,12,13,14,15] from rfl]
 simp[jB d a0 h0,jB d a1 h1,jB d a2 h2,jB d a3 h3,jB d a4 h4,jB d a5 h5,jB d a6 h6,jB d a7 h7,jB d a8 h8,jB d a9 h9,jB d a10 h10,jB d a11 h11,jB d a12 h12,jB d a13 h13,jB d a14 h14,jB d a15 h15]):P:=h
theorem ND(h:P:=by
 (try simp only[Act.put,ag])
 refine wpAnyH_ready (rs:=[23]) aG aH ?_
 refine AllReadyH.cons (o:=_) rfl (fun K hK=>?_) ?_
 ·go_simp
  refine hK.out _ _ ?_ (fun hHeld=>?_)
  ·(try dsimp only)
   (go_split_ands;refine⟨pV ?_ ay,pV ?_ ay,pV ?_ ay,pV ?_ ay,pV ?_ ay,pV ?_ ay,pV ?_ ay,pV ?_ ay,V9 ?_ aB⟩ <;> assumption)
  clear hK K
  (try simp only[Act.put,ag])
  refine wpAnyH_done aG ?_ _
  refine NoPanic.normal ?_
  go_wp2_with fail
  go_meet
  exact⟨_,rfl,hC3.put _ _ _ _ _ _ _ _ _ _ _ _ _,aB,jH⟩
 exact AllReadyH.nil):P:=h
theorem NE(h:P:=by
 go_wp2_with (go_at_call 112;refine (KC.out _).mono ?_;rintro e w4 ⟨rfl,rfl⟩)
 obtain⟨p0,p1,p2,p3,p4,p5,p6⟩:=(HZ.out.put 0 0 ⟨#[]⟩ none 0 0 none 0 0 none 0 0 0).facts
 clear c0 c1 c2 c3 c4 c5 c6 z0 z1 z2 z3 z4 z5 z6 q00 q10 q20 q30 q40 q50 q60
 exact bodyPost_ret (v:=.tuple #[.agg fU,.int .i64 0]) NF rfl ⟨Js HBW.out aB _ _ _ _ _ _ _,⟨none,0,none,0,none,0⟩,rfl,⟨aI.nil_ _ _ _,aI.nil_ _ _ _,aI.nil_ _ _ _⟩,⟨fun h=>absurd h (Nat.lt_irrefl 0),fun h=>absurd h (Nat.lt_irrefl 0),fun h=>absurd h (Nat.lt_irrefl 0)⟩⟩):P:=h
theorem QB(h:P:=by
 refine wp_region_quiet_below aG aG ?_;(repeat (any_goals (first | go_big_quiet_step ((first | exact jS HN.out _ _ | exact jS HW.out _ _)) | quiet_step ((first | exact jS HN.out _ _ | exact jS HW.out _ _)))));refine wpQuiet_nil ?_;intro _ hwq;obtain⟨⟨dq,osq⟩,hwq⟩:=hwq;subst hwq;have hb3:=below_regrown (wr.alloc (.cells #[.string q1,.string q2] 298)) dq osq;generalize grow (redrawn (wr.alloc (.cells #[.string q1,.string q2] 298)) dq) osq=w3 at *
 go_wp2
 go_ret2
 exact⟨rfl,aJ⟩):P:=h
theorem EG(h:P:=by
 rw[hv]
 rw[h1]at H1
 clear hv h1
 go_enter func204,ntmps204
 go_wp2_with (go_at_call 94;refine (H1.out _).mono ?_;rintro e w1 ⟨rfl,hb1⟩;obtain⟨hc1,hf1⟩:=bT hb1;have hz1_0:w.heap.size<w1.heap.size:=iQ)
 go_ret2
 exact⟨rfl,aJ⟩):P:=h
theorem Dh(h:P:=by
 (try simp only[bQ,DL,IsV,bV,Region.binds,and_true,true_and]at hd)
 simp only[aZ,bH,Act.put]
 (try simp only[hd])
 clear hd
 go_wp2
 exact⟨rfl,rfl,rfl,HxG.refl _⟩):P:=h
theorem EZ(h:P:=by
 refine hK.out _ _ ⟨(setRow_other _ _ _ _ aB).trans hS4.1,below_setRow hS4.2 aB _⟩ (fun hS5=>?_)
 clear hK K
 (try simp only[Act.put,ag])
 refine wpAnyH_done aG ?_ _
 refine NoPanic.normal ?_
 have HB5:=aA hS5.2
 clear hS hS2 hS3 hS4 hS5
 go_wp2_with fail
 go_meet
 exact⟨_,_,rfl,rfl,aB,aB,aB,H2.out.1,H2.out.2.1,HB5.out⟩):P:=h
theorem qh(h:P:=by
 go_enter func43,ntmps43
 (go_wp2;go_ret;exact⟨fV Pn,aJ⟩)):P:=h
theorem MM(h:P:=by
 (try simp only[bQ,DL,IsV,bV,Region.binds,and_true,true_and]at hd)
 obtain⟨⟨g,e2,hr5⟩,_⟩:=hd
 simp only[aZ,bH,Act.put]
 (try simp only[e2])
 have hbW:=hS.b
 go_wp2_with (go_at_call 56;refine (HO.out _ _ hr5 hbW).mono ?_;rintro e w5 ⟨rfl,hb5⟩)
 exact⟨rfl,rfl,rfl,aJ⟩):P:=h
theorem su(h:P:=by
 (first | (simp[go_sem];done) | (simp[go_sem, *];done))):P:=h
theorem vI(h:P:=by
 go_enter func126,ntmps126
 (go_wp2;go_ret;exact⟨fV Pn,aJ⟩)):P:=h
theorem Ew(h:P:=by
 go_wp2_with (first | (go_at_call 95;refine HKK.out.mono ?_;rintro e w3 ⟨rfl,q,hw3⟩;obtain⟨hb3,cJ⟩:=HJ.out q w3 hw3;clear hw3) | (go_at_call 72;refine cJ.mono ?_;rintro e w4 ⟨rfl,hb4⟩))
 go_ret2
 exact⟨rfl,aJ⟩):P:=h
theorem Oa(h:P:=by
 clear hok
 go_wp2_with (go_at_call 76;refine (tX _).mono ?_;rintro e w4 ⟨rfl,hmw⟩;subst hmw)
 rw[HR.out]
 exact tZ HSZ.out.p (HSZ.out.size (Lh _ _ hi)) rfl rfl):P:=h
theorem MW(h:P:=by
 obtain⟨cc,hcc⟩:∃ cc,cc=x.c:=⟨_,rfl⟩
 rw[<-hcc]at y3 hcap
 clear hcc
 go_wp2_with fail
 all_goals (go_meet;first | exact⟨_,_,rfl,fun h=>aB,rfl,rfl,rfl⟩ | trace_state)):P:=h
theorem PK(h:P:=by
 clear hl hsz hs HV
 go_wp2_with (go_at_call 207;refine (HW.out _ (HP.out.keep hbw) (HQ.out.keep hbw)).mono ?_;rintro e w3 ⟨rfl,hb3⟩)
 go_ret2
 exact⟨rfl,aJ⟩):P:=h
theorem DI(h:P:=by
 go_enter func214,ntmps214
 go_wp2
 go_ret
 exact⟨fV (by simp[fC]),aJ⟩):P:=h
theorem NW(h:P:=by
 have hld:=iO hS.y HYS.out
 go_wp2_with (refine bD rfl 27 _ rfl ⟨w.heap.size+1,0,none⟩ (.agg Y) rfl hld ?_)
 exact⟨rfl,rfl,rfl,NG.refl _⟩):P:=h
theorem Dy(h:P:=by
 rw[hv]
 go_enter func104,ntmps104
 go_wp2
 go_ret
 exact⟨rfl,aJ⟩):P:=h
theorem Lp(h:P:=by
 rw[e1]
 clear e1
 go_enter func205,ntmps205
 go_wp2
 exact bodyPost_ret (v:=.agg #[.int .i64 0,.string s]) DJ rfl ⟨rfl,aJ⟩):P:=h
theorem OW(h:P:=by
 go_wp2_with (go_at_call 76;refine (tX _).mono ?_;rintro e w4 ⟨rfl,hmw⟩;subst hmw)
 rw[HR.out]
 exact tZ HP1.out rfl rfl rfl):P:=h
theorem Nz(h:P:=by
 go_wp2_with (go_at_call 47;refine HCC.out.mono ?_;rintro e w2 ⟨rfl,hb2⟩)
 go_ret
 exact⟨rfl,aV HB1.out hb2⟩):P:=h
theorem Oz(h:P:=by
 go_enter func102,ntmps102
 go_wp2_with fail
 go_quiet (fail)
 go_wp2
 go_ret
 exact⟨rfl,aJ⟩):P:=h
theorem LY(h:P:=by
 go_enter func46,ntmps46
 go_wp2
 go_ret
 exact⟨fV (by rw[HV.out];simp;omega),aJ⟩):P:=h
theorem Nq(h:P:=by
 rw[if_pos aG,show prog.types.size+1=prog.types.size-1+1+1 by kernel_rfl,h]
 exact⟨_,rfl⟩):P:=h
theorem aA(h:P):RowKit.Hid P:=Lib.hid h
theorem o7(h:P:=by
 go_wp2_with (at_builtin;refine wpList_append_own _ rfl _ _ 105 rfl (w.heap.size+2) 5 i0 (.int .u8 0) 1 1 underlying105 HI.out.1 HI.out.2.1 HI.out.2.2.1 HI.out.2.2.2 rfl aK _ _ _ rfl (hown.alloc _) ⟨wr.heap.size,0,none⟩ 1 1 [_] rfl rfl (cell_one_new _ _ _) jJ dh aB aP ?_;intro v' w3 hown1 hgrow1 _;obtain⟨g1,cap1,rfl⟩:=ownsRow_succ hown1;have hb3:aF w w3:=(hbr.alloc aB _).grown hgrow1 aP (fun r e=>Au);have HB3:=aA (xu (hown.alloc _) hgrow1 aB (aN.alloc HBr.out _));have HZ3:=aA (xu (hown.alloc _) hgrow1 aB (aN.alloc HZr.out _));have hbs3:w.heap.size+1<w3.heap.size:=aN.lt HZ3.out;clear hown)
 have hown2:=TT (n:=1+p) hown1 aB aAt aAy
 refine⟨?_,rM⟩
 repeat apply Exists.intro
 first | (exact⟨⟨1,some ⟨g1,0,none⟩,cap1,aB,rfl,rfl,hown2,HB3,HZ3,hb3⟩,rfl⟩) | (exact⟨⟨2,some ⟨g1,0,none⟩,cap1,aB,rfl,rfl,hown2,HB3,HZ3,hb3⟩,rfl⟩) | (exact⟨⟨3,some ⟨g1,0,none⟩,cap1,aB,rfl,rfl,hown2,HB3,HZ3,hb3⟩,rfl⟩) | (exact⟨⟨4,some ⟨g1,0,none⟩,cap1,aB,rfl,rfl,hown2,HB3,HZ3,hb3⟩,rfl⟩) | (exact⟨⟨5,some ⟨g1,0,none⟩,cap1,aB,rfl,rfl,hown2,HB3,HZ3,hb3⟩,rfl⟩) | (exact⟨⟨6,some ⟨g1,0,none⟩,cap1,aB,rfl,rfl,hown2,HB3,HZ3,hb3⟩,rfl⟩) | (exact⟨⟨7,some ⟨g1,0,none⟩,cap1,aB,rfl,rfl,hown2,HB3,HZ3,hb3⟩,rfl⟩) | (exact⟨⟨8,some ⟨g1,0,none⟩,cap1,aB,rfl,rfl,hown2,HB3,HZ3,hb3⟩,rfl⟩)):P:=h
theorem QC(h:P:=by
 refine wp_region_quiet_below aG aG ?_;(repeat (any_goals (first | go_big_quiet_step ((first | exact jS HN.out _ _ | exact jS HW.out _ _)) | quiet_step ((first | exact jS HN.out _ _ | exact jS HW.out _ _)))));refine wpQuiet_nil ?_;intro _ hwq;obtain⟨⟨dq,osq⟩,hwq⟩:=hwq;subst hwq;have hb3:=below_regrown (wr.alloc (.cells #[.string q1,.string q2] 298)) dq osq;generalize grow (redrawn (wr.alloc (.cells #[.string q1,.string q2] 298)) dq) osq=w3 at *
 go_wp2
 first | (exact⟨⟨1,aB,rfl,HO,aJ⟩,dD⟩) | (exact⟨⟨j+1+1,aB,bg,HO,aJ⟩,dD⟩)):P:=h
theorem JQ(h:P:=by
 obtain⟨hC,hD⟩:=gen A na ca xs hA aB h1
 have hxe:xs.isEmpty=false:=by cases xs;simp at hla;omega;rfl
 rw[hxe]at hF hK
 simp only[Bool.false_eq_true,if_false]at hF hK
 rw[<-hF,hxe,Bool.or_false]at hK
 rw[<-hF]at hD
 have HC:=aA hC
 have HD:=aA hD
 have hlen:(!F.isEmpty)=decide (0<F.length):=P5
 rw[hlen]at hK
 have e0:((na:Int)==0)=false:=aP
 generalize hm:F.length=m at *
 clear gen hA hB hbl hF hla hlb hC hD hxe hlen hm
 first | (exact P6) | (exact P8)):P:=h
theorem yg(h:P:=by
 (try simp only[bQ,DL,IsV,bV,Region.binds,and_true,true_and]at hd)
 simp only[aZ,bH,Act.put]
 (try simp only[hd])
 clear hd
 go_wp2
 first | (exact⟨rfl,⟨_,rfl,MK W sx tx _ rfl⟩,rfl,aJ⟩) | (exact⟨rfl,⟨_,rfl,MK W2 _ tx _ rfl⟩,rfl,aJ⟩) | (exact⟨rfl,⟨_,rfl,Yf W sa sb sc _ rfl⟩,rfl,aJ⟩) | (exact⟨rfl,(congrArg (Value.int .u8) HQ1.out:Value.int .u8 _=Value.int .u8 _),rfl,HxG.refl _⟩)):P:=h
theorem JP(h:P:=by
 obtain⟨hC,hD⟩:=gen B nb cb ys hB aB h2
 have hye:ys.isEmpty=false:=by cases ys;simp at hlb;omega;rfl
 rw[<-hF,hye,Bool.or_false]at hK
 rw[<-hF]at hD
 have HC:=aA hC
 have HD:=aA hD
 have hlen:(!F.isEmpty)=decide (0<F.length):=P5
 rw[hlen]at hK
 have e0:((nb:Int)==0)=false:=aP
 generalize hm:F.length=m at *
 clear gen hA hB hbl hF hla hlb hC hD hye hlen hm
 first | (exact P6) | (exact P8)):P:=h
theorem NC(h:P:=by
 clear hK K
 (try simp only[Act.put,ag])
 refine wpAnyH_done aG ?_ _
 refine NoPanic.normal ?_
 go_wp2_with fail
 go_meet
 first | (exact⟨_,_,rfl,rfl,aB,aB,aB,heap_alloc2_old w2 _ _,heap_alloc2_new w2 _ _,aJ⟩) | (exact⟨_,_,rfl,rfl,aB,aB,aB,heap_alloc2_new w2 _ _,heap_alloc2_old w2 _ _,aJ⟩) | (exact⟨_,rfl,World.alloc_heap_new _ _,xn,jH⟩)):P:=h
theorem Ig(h:P:=by
 go_enter func101,ntmps101
 go_wp2_with (first | (go_at_call 163;refine (HC.out _).mono ?_;rintro e w1 ⟨rfl,rfl⟩) | (go_at_call 99;refine (HVA.out _ (Env.keep HE.out aJ)).mono ?_;rintro e w2 ⟨rfl,hb2⟩))
 go_ret
 first | (exact⟨fV aH,aJ⟩) | (exact⟨rfl,aJ⟩)):P:=h
theorem NY(h:P:=by
 (try simp only[bQ,DL,IsV,bV,Region.binds,and_true,true_and]at hd)
 simp only[aZ,bH,Act.put]
 (try simp only[hd])
 clear hd
 have hsW:=hS.s
 go_wp2
 first | (exact⟨rfl,rfl,rfl,NG.refl _⟩) | (exact⟨rfl,⟨_,rfl,World.ownsRow_lit (base:=w.heap.size+1) (e:=9) (size:=1) W #[.string (ai x.t.cust),.string (ai x.t.ser),.string x.t.id] 3 aB dh rfl⟩,rfl,aJ⟩)):P:=h
theorem Ah(h:P:=by
 clear hcell hcell2 hx
 go_wp2_with fail
 go_quiet (fail)
 go_wp2
 first | (exact⟨⟨k+1,bg,aB,Blk.keep hX aJ,Blk.keep hY aJ,aJ⟩,dD⟩) | (exact⟨⟨j+1,bg,aB,Blk.keep hX aJ,Blk.keep hY aJ,aJ⟩,dD⟩) | (exact⟨⟨i+1,bg,aB,Blk.keep hX aJ,Blk.keep hY aJ,aJ⟩,dD⟩)):P:=h
theorem Jh(h:P:=by
 intro x hx
 obtain⟨n,hn,rfl⟩:=List.mem_map.1 hx
 have:=hc.si n hn
 unfold jb at this
 simp only[decide_eq_true_eq]at this
 first | (exact (pR n this.1).2.1) | (exact sN n this.1)):P:=h
theorem OZ(h:P:=by
 go_wp2_with (go_at_call 76;refine (tX _).mono ?_;rintro e w4 ⟨rfl,hmw⟩;subst hmw)
 rw[HR.out]
 first | (exact tZ hS3.p (hS3.size rfl) rfl rfl) | (exact tZ HS.out.p (HS.out.size rfl) rfl rfl)):P:=h
theorem Ic(h:P:=by
 subst h0
 obtain rfl:xs=[]:=List.eq_nil_of_length_eq_zero hl
 go_enter func89,ntmps89
 go_wp2
 go_ret
 first | (exact⟨rfl,Below.refl _ _⟩) | (exact⟨rfl,rfl⟩)):P:=h
theorem Ib(h:P:=by
 subst h0
 obtain rfl:xs=[]:=List.eq_nil_of_length_eq_zero hl
 go_enter func88,ntmps88
 go_wp2
 go_ret
 first | (exact⟨rfl,Below.refl _ _⟩) | (exact⟨rfl,rfl⟩)):P:=h
theorem FN(h:P:=by
 refine AllReadyH.cons (o:=_) rfl (fun K hK=>?_) ?_
 ·go_simp
  refine hK.out _ _ ?_ (fun hHeld=>?_)
  ·exact uX
  clear hK K
  (try simp only[Act.put,ag])
  refine wpAnyH_ready (rs:=[8]) aG aH ?_
  refine AllReadyH.cons (o:=_) rfl (fun K hK=>?_) ?_
  ·go_simp
   refine hK.out _ _ ?_ (fun hHeld=>?_)
   ·exact uX
   clear hK K
   (try simp only[Act.put,ag])
   refine wpAnyH_ready (rs:=[9]) aG aH ?_
   refine AllReadyH.cons (o:=_) rfl (fun K hK=>?_) ?_
   ·go_simp
    refine hK.out _ _ ?_ (fun hHeld=>?_)
    ·exact uX
    exact NC
   exact AllReadyH.nil
  exact AllReadyH.nil
 exact AllReadyH.nil):P:=h
theorem PH(h:P:=by
 clear hpk HF HTr
 go_wp2_with fail
 have k1:=cell_regrown f1;have k2:=cell_regrown f2;have k3:=cell_regrown f3;have k4:=cell_regrown f4
 first | (exact QC) | (exact QB)):P:=h
theorem PG(h:P:=by
 go_wp2_with fail
 have k1:=cell_regrown f1;have k2:=cell_regrown f2;have k3:=cell_regrown f3
 first | (exact QB) | (exact QC)):P:=h
end Go.Proofs
