/- What 'Parse' returns. -/
import Derived.Test.YtlkbkclnbppigaaGreatDoorJZ7
import Derived.Test.YtlkbkclnbppigaaGreatDoorJZ8
set_option maxHeartbeats 4000000
namespace Go.Proofs.YtlkbkclnbppigaaGreatDoor
open Tryz
open Go.RowKit Go.Sort
set_option linter.unusedVariables false
set_option linter.unusedSimpArgs false
set_option maxRecDepth 100000
structure Adr where
 cust:ByteArray
 path:List ByteArray
 query:List (ByteArray × ByteArray)
def kK:Adr:=⟨⟨#[]⟩,[],[]⟩
def bu(s:ByteArray):List UInt8 × List UInt8 × Bool:=Lib.cut (gz s.data.toList) [63]
def dY(s:ByteArray):List UInt8 × List UInt8 × Bool:=Lib.cut (Lib.trimSuffix (bu s).1 [47]) [47]
def pI(c:ByteArray)(nm:Bool)(rr:Option (List ByteArray))(qq:Option (List (ByteArray × ByteArray))):Adr × Int :=
 match nm,rr,qq with
 | true,some p,some q=>if p.length<=32/\q.length<=16 then (⟨c,p,q⟩,0) else (kK,2)
 | _,_,_=>(kK,3)
def lV(t:List UInt8 × List UInt8 × Bool):Option (List ByteArray):=if t.2.2 then eF [] (splitB 47 (toB t.2.1)) else some []
def bU(s:ByteArray):Adr × Int :=
 if 4096<s.size then (kK,2)
 else pI (toB (dY s).1) (bI (toB (dY s).1)) (lV (dY s)) (kN (toB (bu s).2.1))
def JD(r:Adr × Int)(w:World)(e:Ending)(w':World):Prop :=
 Below w.heap.size w w'/\∃ A ca B cb,e=.returned (.tuple #[.agg #[.string r.1.cust,.slice A r.1.path.length ca,.slice B r.1.query.length cb],.int .i64 r.2]) /\
  aH w' 1 A r.1.path.length (r.1.path.map .string)/\aH w' 2 B r.1.query.length (dS r.1.query)/\(∀ a,A=some a->w.heap.size<=a.block)/\(∀ a,B=some a->w.heap.size<=a.block)/\r.1.path.length<=ca
theorem aH.set_{w:World}{size n:Nat}{A:Option Addr}{vs:List Value}(h:aH w size A n vs)(p:Addr)(x:Value)(hp:∀ a,A=some a->a.block≠p.block):aH (w.setCell p x) size A n vs:=by
 refine⟨h.1,fun hn=>?_⟩;obtain⟨b,o,rfl,hc⟩:=h.2 hn;exact⟨b,o,rfl,fun j u hu=>(World.cell?_setCell_other w p ⟨b,o+j,none⟩ x (by intro e;exact hp _ rfl (by rw[e]))).trans (hc j u hu)⟩
theorem GX(l:List UInt8):(gz l).length=l.length:=by simp[gz]
theorem GV(l q:List UInt8):(Lib.trimSuffix l q).length<=l.length:=by
 unfold Lib.trimSuffix;split
 ·simp
 ·exact Nat.le_refl _
theorem xH(s:ByteArray)(w X:World)(hX:X=((w.alloc (.cells #[.string s] 9)).alloc (.cells #[.string ⟨#[47]⟩] 9)).alloc (.cells #[.int .i64 0] 3))(hs:s.size<=4096) :
  Calls prog 265 #[.func (.func 316) #[] #[.pointer (some ⟨w.heap.size+1,0,none⟩),.pointer (some ⟨w.heap.size,0,none⟩),.pointer (some ⟨w.heap.size+1+1,0,none⟩)]] X (xC (eF [] (splitB 47 s)) X w.heap.size):=by
 have b0:Boxed X w.heap.size 9 (.string s):=by
  rw[hX];exact ((Boxed.new w _ _).alloc _).alloc _
 have b1:Boxed X (w.heap.size+1) 9 (.string ⟨#[47]⟩):=by
  have:=Boxed.new (w.alloc (.cells #[.string s] 9)) 9 (.string ⟨#[47]⟩);rw[World.size_alloc]at this;rw[hX];exact this.alloc _
 have b2:Boxed X (w.heap.size+1+1) 3 (.int .i64 0):=by
  have:=Boxed.new ((w.alloc (.cells #[.string s] 9)).alloc (.cells #[.string ⟨#[47]⟩] 9)) 3 (.int .i64 0);rw[World.size_alloc,World.size_alloc]at this;rw[hX];exact this
 have hz:X.heap.size=w.heap.size+1+1+1:=by rw[hX];simp
 have hn:=oq 47 s;exact Ub 316 w.heap.size _ (enters_of func316 aC rfl) (Bg w.heap.size) (splitB 47 s) X w.heap.size (w.heap.size+3) aA
  (OT w.heap.size 47 s X aA b0.cell b1.cell b2.cell b0.frozen) (aIw _ _ _ (Nat.le_refl _) aA) aA aA (fun p hp=>by have:=nY 47 s p hp;omega)
theorem aKa(v:Value)(w:World):Calls prog 264 #[v] w fun e w'=>(∃ u,e=.returned u)/\w'=w:=by
 go_enter func264,ntmps264;go_wp2;go_end0;exact⟨⟨_,rfl⟩,rfl⟩
theorem JE(w:World):Calls prog 265 #[.func (.func 264) #[] #[]] w (xC (some []) w w.heap.size):=by
 refine Ub 264 w.heap.size #[] (enters_of func264 aC rfl) (fun _ _=>False) [] w 0 0 aA ?_ (aIx _ _) (Nat.le_refl _) aF aF;intro l J Jx W _ _ _ _ h0;refine (callsIn_wide.2 (aKa _ W)).mono ?_;rintro e w' ⟨hu,rfl⟩;exact⟨hu,.inl h0⟩
theorem xC.some_{rr:Option (List ByteArray)}{X w':World}{b:Nat}{e:Ending}(h:xC rr X b e w'):Below b X w'/\∃ A c,e=.returned (.tuple #[.slice A (rr.getD []).length c,.bool rr.isSome])/\aH w' 1 A (rr.getD []).length ((rr.getD []).map .string)/\(∀ a,A=some a->X.heap.size<=a.block)/\(rr.getD []).length<=c:=by
 obtain⟨hb,h⟩:=h;cases rr with
 | none=>exact⟨hb,none,0,h,aH.nil_ _ _ _,fun a ha=>jk,Nat.le_refl _⟩
 | some p=>exact⟨hb,h⟩
theorem iO.some_{qq:Option (List (ByteArray × ByteArray))}{X w':World}{e:Ending}(h:iO qq X e w'):Below X.heap.size X w'/\∃ B c,e=.returned (.tuple #[.slice B (qq.getD []).length c,.bool qq.isSome])/\aH w' 2 B (qq.getD []).length (dS (qq.getD []))/\∀ a,B=some a->X.heap.size<=a.block:=by
 obtain⟨hb,h⟩:=h;cases qq with
 | none=>exact⟨hb,none,0,h,aH.nil_ _ _ _,fun a ha=>jk⟩
 | some p=>exact⟨hb,h⟩
theorem aKb(s:ByteArray)(w:World)(hs:4096<s.size):Calls prog 203 #[.string s] w (JD (kK,2) w):=by
 go_enter func203,ntmps203;go_wp2;exact bodyPost_ret (v:=.tuple #[.agg #[.string ⟨#[]⟩,.slice none 0 0,.slice none 0 0],.int .i64 2]) (by simp[results,results203,go_sem]) rfl ⟨aG,none,0,none,0,rfl,aH.nil_ _ _ _,aH.nil_ _ _ _,(fun a ha=>jk),(fun a ha=>jk),Nat.le_refl _⟩
theorem aKc(s Lb L Q T C R:ByteArray)(b1 more nm:Bool)(rr:Option (List ByteArray))(qq:Option (List (ByteArray × ByteArray)))(w:World)(hs:s.size<=4096)(hR:R.size<=4096)(hE:Env w)
  (HL:Hid (∀ W,Calls prog 261 #[.string s] W (Ret W (.string Lb))))
  (HC1:Hid (∀ W,Env W->Calls prog 260 #[.string Lb,.string ⟨#[63]⟩] W (Ret W (.tuple #[.string L,.string Q,.bool b1]))))
  (HT:Hid (∀ W,Calls prog 262 #[.string L,.string ⟨#[47]⟩] W fun e w'=>e=.returned (.string T)/\w'=W))
  (HC2:Hid (∀ W,Env W->Calls prog 260 #[.string T,.string ⟨#[47]⟩] W (Ret W (.tuple #[.string C,.string R,.bool more]))))
  (HRR:Hid (more=true->eF [] (splitB 47 R)=rr)) (HR0:Hid (more=false->rr=some []))
  (HP:Hid (∀ W,Env W->Calls prog 266 #[.string Q] W (iO qq W)))
  (HN:Hid (∀ W,Calls prog 94 #[.string C] W (Ret W (.bool nm)))) :
  Calls prog 203 #[.string s] w (JD (pI C nm rr qq) w):=by
 obtain⟨ps,np,o1,hps,hnp,ho1⟩:∃ ps np o1,ps=rr.getD []/\np=(rr.getD []).length/\o1=rr.isSome:=⟨_,_,_,rfl,rfl,rfl⟩;obtain⟨qs,nq,o2,hqs,hnq,ho2⟩:∃ qs nq o2,qs=qq.getD []/\nq=(qq.getD []).length/\o2=qq.isSome:=⟨_,_,_,rfl,rfl,rfl⟩;have HRs:Hid (∀ X e w' b,xC rr X b e w'->Below b X w'/\∃ A c,e=.returned (.tuple #[.slice A np c,.bool o1])/\aH w' 1 A np (ps.map .string)/\(∀ a,A=some a->X.heap.size<=a.block)/\np<=c):=aB (fun X e w' b h=>by rw[hps,hnp,ho1];exact h.some_);have HPs:Hid (∀ X e w',iO qq X e w'->Below X.heap.size X w'/\∃ A c,e=.returned (.tuple #[.slice A nq c,.bool o2])/\aH w' 2 A nq (dS qs)/\∀ a,A=some a->X.heap.size<=a.block):=aB (fun X e w' h=>by rw[hqs,hnq,ho2];exact h.some_);have hv:pI C nm rr qq=if nm&&o1&&o2 then (if np<=32/\nq<=16 then (⟨C,ps,qs⟩,0) else (kK,2)) else (kK,3):=by
  exact VN
 rw[hv];have HPL:Hid (ps.length=np):=aB (by rw[hps,hnp]);have HQL:Hid (qs.length=nq):=aB (by rw[hqs,hnq]);clear hv hps hnp ho1 hqs hnq ho2;have hd:decide ((4096:Int)<(s.size:Int))=false:=aJ;cases more
 ·cases nm
  ·simp only[Bool.false_and,Bool.false_eq_true,if_false];exact JF
  cases o1
  ·simp only[Bool.true_and,Bool.false_and,Bool.false_eq_true,if_false];exact JF
  cases o2
  ·simp only[Bool.true_and,Bool.and_false,Bool.false_eq_true,if_false];exact JF
  simp only[Bool.and_self,if_true];by_cases hnp:np<=32;rotate_left
  ·rw[if_neg (fun h=>hnp h.1)];have hd1:decide ((32:Int)<(np:Int))=true:=aJ;exact VO
  have hd1:decide ((32:Int)<(np:Int))=false:=aJ;by_cases hnq:nq<=16;rotate_left
  ·rw[if_neg (fun h=>hnq h.2)];have hd2:decide ((16:Int)<(nq:Int))=true:=aJ;exact VO
  have hd2:decide ((16:Int)<(nq:Int))=false:=aJ;rw[if_pos ⟨hnp,hnq⟩];go_enter func203,ntmps203;go_wp2_with (first | (go_at_call 261;refine (HL.out _).mono ?_;rintro e w1 ⟨rfl,hb1⟩;obtain⟨hc1,hf1⟩:=bg hb1;have hz1_0:w.heap.size<w1.heap.size:=jc;have hE1:=Env.keep (Env.keep hE (aU (Below.refl _ _) _)) hb1) | (go_at_call 260;refine (HC1.out _ hE1).mono ?_;rintro e w2 ⟨rfl,hb2⟩;obtain⟨hc2,hf2⟩:=bg hb2;have hz2_0:w.heap.size<w2.heap.size:=sS;have hE2:=Env.keep hE1 hb2;clear hE1) | (go_at_call 262;refine (HT.out _).mono ?_;rintro e wt ⟨rfl,hwt⟩;rw[hwt];clear hwt wt) | (go_at_call 260;refine (HC2.out _ hE2).mono ?_;rintro e w3 ⟨rfl,hb3⟩;obtain⟨hc3,hf3⟩:=bg hb3;have hz3_0:w.heap.size<w3.heap.size:=xI;have hE3:=Env.keep hE2 hb3) | (go_at_call 263;refine (uo _ _ _).mono ?_;rintro e X ⟨rfl,hX⟩;have cR:=xH R w3 X hX hR;have hbX:Below w3.heap.size w3 X:=xJ;clear hX) | (go_at_call 265;refine (JE _).mono ?_;rintro e w5 hres;rw[<-HR0.out aF]at hres;obtain⟨hbr,PA,Pc,rfl,hPR,hPA,hPc⟩:=HRs.out _ _ _ _ hres;clear hres cR;have hb5:Below w3.heap.size w3 w5:=aN hbX hbr;obtain⟨hc5,hf5⟩:=bg hb5;have hz5_0:w.heap.size<w5.heap.size:=xK;have hE5:=Env.keep hE3 hb5) | (go_at_call 266;refine (HP.out _ hE5).mono ?_;rintro e w6 hpp;obtain⟨hb6,QA,Qc,rfl,hQR,hQA⟩:=HPs.out _ _ _ hpp;clear hpp;obtain⟨hc6,hf6⟩:=bg hb6;have hz6_0:w.heap.size<w6.heap.size:=xM) | (go_at_call 94;refine (HN.out _).mono ?_;rintro e w7 ⟨rfl,hb7⟩;obtain⟨hc7,hf7⟩:=bg hb7;have hz7_0:w.heap.size<w7.heap.size:=xN));exact VP
 ·cases nm
  ·simp only[Bool.false_and,Bool.false_eq_true,if_false];exact JG
  cases o1
  ·simp only[Bool.true_and,Bool.false_and,Bool.false_eq_true,if_false];exact JG
  cases o2
  ·simp only[Bool.true_and,Bool.and_false,Bool.false_eq_true,if_false];exact JG
  simp only[Bool.and_self,if_true];by_cases hnp:np<=32;rotate_left
  ·rw[if_neg (fun h=>hnp h.1)];have hd1:decide ((32:Int)<(np:Int))=true:=aJ;exact VQ
  have hd1:decide ((32:Int)<(np:Int))=false:=aJ;by_cases hnq:nq<=16;rotate_left
  ·rw[if_neg (fun h=>hnq h.2)];have hd2:decide ((16:Int)<(nq:Int))=true:=aJ;exact VQ
  have hd2:decide ((16:Int)<(nq:Int))=false:=aJ;rw[if_pos ⟨hnp,hnq⟩];go_enter func203,ntmps203;go_wp2_with (first | (go_at_call 261;refine (HL.out _).mono ?_;rintro e w1 ⟨rfl,hb1⟩;obtain⟨hc1,hf1⟩:=bg hb1;have hz1_0:w.heap.size<w1.heap.size:=jc;have hE1:=Env.keep (Env.keep hE (aU (Below.refl _ _) _)) hb1) | (go_at_call 260;refine (HC1.out _ hE1).mono ?_;rintro e w2 ⟨rfl,hb2⟩;obtain⟨hc2,hf2⟩:=bg hb2;have hz2_0:w.heap.size<w2.heap.size:=sS;have hE2:=Env.keep hE1 hb2;clear hE1) | (go_at_call 262;refine (HT.out _).mono ?_;rintro e wt ⟨rfl,hwt⟩;rw[hwt];clear hwt wt) | (go_at_call 260;refine (HC2.out _ hE2).mono ?_;rintro e w3 ⟨rfl,hb3⟩;obtain⟨hc3,hf3⟩:=bg hb3;have hz3_0:w.heap.size<w3.heap.size:=xI;have hE3:=Env.keep hE2 hb3) | (go_at_call 263;refine (uo _ _ _).mono ?_;rintro e X ⟨rfl,hX⟩;have cR:=xH R w3 X hX hR;have hbX:Below w3.heap.size w3 X:=xJ;clear hX) | (go_at_call 265;refine cR.mono ?_;rintro e w5 hres;rw[HRR.out aF]at hres;obtain⟨hbr,PA,Pc,rfl,hPR,hPA,hPc⟩:=HRs.out _ _ _ _ hres;clear hres cR;have hb5:Below w3.heap.size w3 w5:=hbX.trans hbr;obtain⟨hc5,hf5⟩:=bg hb5;have hz5_0:w.heap.size<w5.heap.size:=xK;have hE5:=Env.keep hE3 hb5) | (go_at_call 266;refine (HP.out _ hE5).mono ?_;rintro e w6 hpp;obtain⟨hb6,QA,Qc,rfl,hQR,hQA⟩:=HPs.out _ _ _ hpp;clear hpp;obtain⟨hc6,hf6⟩:=bg hb6;have hz6_0:w.heap.size<w6.heap.size:=xM) | (go_at_call 94;refine (HN.out _).mono ?_;rintro e w7 ⟨rfl,hb7⟩;obtain⟨hc7,hf7⟩:=bg hb7;have hz7_0:w.heap.size<w7.heap.size:=xN));exact VP
theorem LX(s:ByteArray)(w:World)(hs:s.size<=4294967281)(hE:Env w):Calls prog 203 #[.string s] w (JD (bU s) w):=by
 by_cases h:4096<s.size
 ·have:=aKb s w h;unfold bU;rw[if_pos h];exact this
 have h1:=zY (gz s.data.toList) [63];have h2:=zZ (gz s.data.toList) [63];have h3:=GV (bu s).1 [47];have h4:=zY (Lib.trimSuffix (bu s).1 [47]) [47];have h5:=zZ (Lib.trimSuffix (bu s).1 [47]) [47];have h0:=GX s.data.toList;rw[<-Lib.size_eq]at h0;have:=aKc s (toB (gz s.data.toList)) (toB (bu s).1) (toB (bu s).2.1) (toB (Lib.trimSuffix (bu s).1 [47])) (toB (dY s).1) (toB (dY s).2.1) (bu s).2.2 (dY s).2.2 (bI (toB (dY s).1)) (lV (dY s)) (kN (toB (bu s).2.1)) w aA (by rw[nK];unfold dY bu at *;omega) hE
  (aB fun W=>aAx s W hs) (aB fun W h=>Iq (toB (gz s.data.toList)) 63 W xE h) (aB fun W=>strings_TrimSuffix (toB (bu s).1) ⟨#[47]⟩ W Du)
  (aB fun W h=>Iq (toB (Lib.trimSuffix (bu s).1 [47])) 47 W (by rw[nK];unfold bu at *;omega) h) (aB fun hm=>by unfold lV;rw[if_pos hm]) (aB fun hm=>by unfold lV;rw[if_neg (by simp[hm])])
  (aB fun W h=>aJs (toB (bu s).2.1) W Du h) (aB fun W=>vP (toB (dY s).1) W (by rw[nK];unfold dY bu at *;omega))
 unfold bU;rw[if_neg h];exact this
theorem VR:∀(ps out r:List ByteArray),(∀ p∈out,bC p=true)->eF out ps=some r->∀ p∈r,bC p=true
 | [],out,r,h,e=>by simp[eF]at e;subst e;exact h
 | p :: ps,out,r,h,e=>by
  rw[eF]at e;cases hs:ik out p with
  | none=>rw[hs]at e;cases e
  | some o =>
   rw[hs,Option.bind_some]at e;refine VR ps o r (fun q hq=>?_) e;unfold ik at hs;split at hs
   ·injection hs with hs;subst hs;exact h q hq
   ·split at hs
    ·injection hs with hs;subst hs;exact h q (List.dropLast_subset _ hq)
    ·split at hs
     ·injection hs with hs;subst hs
      rcases List.mem_append.1 hq with hq | hq
      ·exact h q hq
      ·rw[List.mem_singleton.1 hq];assumption
     ·cases hs
theorem VS:∀(ps:List ByteArray)(acc r:List (List UInt8 × List UInt8)),(∀ q∈acc,bI (toB q.1)=true/\bC (toB q.2)=true)->gp acc ps=some r->∀ q∈r,bI (toB q.1)=true/\bC (toB q.2)=true
 | [],acc,r,h,e=>by simp[gp]at e;subst e;exact h
 | p :: ps,acc,r,h,e=>by
  rw[gp]at e;cases hs:qJ p with
  | none=>rw[hs]at e;cases e
  | some x =>
   rw[hs]at e;refine VS ps _ r (fun q hq=>?_) e;rcases List.mem_append.1 hq with hq | hq
   ·exact h q hq
   ·rw[List.mem_singleton.1 hq];unfold qJ at hs;split at hs
    ·rename_i hc;simp only[Bool.and_eq_true]at hc;injection hs with hs;subst hs
     exact⟨hc.1.2,hc.2⟩
    ·cases hs
def GI(q:List (ByteArray × ByteArray)):Prop:=q.Pairwise fun a b=>a.1.data.toList<b.1.data.toList
theorem aKd(s:ByteArray)(r:List (ByteArray × ByteArray))(h:kN s=some r):(∀ q∈r,bI q.1=true/\bC q.2=true)/\GI r:=by
 unfold kN at h;split at h
 ·injection h with h;subst h;exact⟨aF,List.Pairwise.nil⟩
 ·cases hq:gp [] (splitB 38 s) with
  | none=>rw[hq]at h;cases h
  | some acc =>
   rw[hq,Option.map_some]at h;injection h with h;subst h
   constructor
   ·intro q hq';obtain⟨x,hx,rfl⟩:=List.mem_map.1 hq';exact VS _ _ _ aF hq x (U0 hx)
   ·exact List.pairwise_map.2 ((AY acc).2.2.1)
structure GH(a:Adr):Prop where
 name:bI a.cust=true
 words:∀ p∈a.path,bC p=true
 parts:a.path.length<=32
 pairs:a.query.length<=16
 query:∀ q∈a.query,bI q.1=true/\bC q.2=true
 up:GI a.query
theorem yP(s:ByteArray)(h:(bU s).2=0):GH (bU s).1:=by
 unfold bU at h ⊢;split at h
 ·cases h
 ·rename_i hs;rw[if_neg hs];generalize hrr:lV (dY s)=rr at h ⊢;generalize hqq:kN (toB (bu s).2.1)=qq at h ⊢;generalize hnm:bI (toB (dY s).1)=nm at h ⊢;unfold pI at h ⊢;split at h
  ·split at h
   ·rename_i hl;simp only[hl,and_self,if_true];have hp:=aKd _ _ hqq;refine⟨hnm,?_,hl.1,hl.2,hp.1,hp.2⟩;unfold lV at hrr;split at hrr
    ·exact VR _ _ _ aF hrr
    ·injection hrr with hrr;subst hrr;simp
   ·cases h
  ·cases h
theorem NC(s:ByteArray)(h:(bU s).2≠0):(bU s).1=kK:=by
 unfold bU at h ⊢;split
 ·rfl
 ·rename_i hs;rw[if_neg hs]at h;generalize lV (dY s)=rr at h ⊢;generalize kN (toB (bu s).2.1)=qq at h ⊢;generalize bI (toB (dY s).1)=nm at h ⊢;unfold pI at h ⊢;split
  ·split
   ·rename_i hl;exact absurd (by simp[hl]) h
   ·rfl
  ·rfl
theorem Ar(s:ByteArray):(bU s).2=0\/(bU s).2=2\/(bU s).2=3:=by
 unfold bU;split
 ·simp
 ·unfold pI;split
  ·split <;> simp
  ·simp
theorem VT:∀ l:List (List UInt8),(∀ p∈l,p.length<=64)->(dO l).length<=l.length*65
 | [],_=>by simp[dO]
 | p :: l,h=>by
  have h1:=h p aF;have h2:=VT l (fun q hq=>h q (by simp[hq]));simp only[dO,List.flatMap_cons,List.length_append,List.length_cons]at h2 ⊢;omega
theorem VU:∀(sep:UInt8)(l:List (List UInt8 × List UInt8)),(∀ p∈l,p.1.length<=64/\p.2.length<=64)->(gB sep l).length<=l.length*130
 | _,[],_=>by simp[gB]
 | _,p :: l,h=>by
  have h1:=h p aF;have h2:=VU 38 l (fun q hq=>h q (by simp[hq]));simp only[gB,List.length_append,List.length_cons]at h2 ⊢;omega
theorem aKe{a:Adr}(h:GH a):(W06 a.cust a.path a.query).length<=10000:=by
 have h1:=VT (bD a.path) (by
  intro p hp;obtain⟨x,hx,rfl⟩:=List.mem_map.1 hp;have:=yQ (h.words x hx);rw[Lib.size_eq]at this;exact this)
 have h2:=VU 63 (dW a.query) (by
  intro p hp;obtain⟨x,hx,rfl⟩:=List.mem_map.1 hp;have h3:=rD (h.query x hx).1;have h4:=yQ (h.query x hx).2;rw[Lib.size_eq]at h3 h4;exact⟨h3,h4⟩)
 have h3:=rD h.name;rw[Lib.size_eq]at h3;have h4:=h.parts;have h5:=h.pairs;simp only[bD,dW,List.length_map]at h1 h2;simp only[W06,lW,List.length_append,bD,dW];omega
theorem Eo(s:ByteArray):(W06 (bU s).1.cust (bU s).1.path (bU s).1.query).length<=10000:=by
 by_cases h:(bU s).2=0
 ·exact aKe (yP s h)
 ·rw[NC s h];simp[kK,W06,lW,dO,gB,bD,dW]
structure WoS(w:World)(L Z:List Nat)(W:World):Prop where
 a:ah W (w.heap.size+1) 265 L
 b:ah W w.heap.size 265 Z
 c:Below w.heap.size w W
theorem WoS.keep{w W W':World}{L Z:List Nat}(h:WoS w L Z W)(hb:Below W.heap.size W W'):WoS w L Z W':=⟨h.a.keep hb,h.b.keep hb,aN h.c hb⟩
end Go.Proofs.YtlkbkclnbppigaaGreatDoor
