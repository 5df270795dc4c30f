/- What 'Parse' returns. -/
import Derived.Test.YtlkbkclnbppigaaGreatDoorIZ7
import Derived.Test.YtlkbkclnbppigaaGreatDoorIZ8
set_option maxHeartbeats 4000000
namespace Go.Proofs.YtlkbkclnbppigaaGreatDoor
open Tryz
open Go.RowKit Go.Sort
set_option linter.unusedVariables false
set_option linter.unusedSimpArgs false
set_option maxRecDepth 100000
structure Adr where
 cust:aC
 path:List aC
 query:List (aC × aC)
def mJ:Adr:=⟨⟨#[]⟩,[],[]⟩
def dR(s:aC):List UInt8 × List UInt8 × Bool:=Lib.cut (iI s.data.toList) [63]
def dw(s:aC):List UInt8 × List UInt8 × Bool:=Lib.cut (Lib.trimSuffix (dR s).1 [47]) [47]
def pI(c:aC)(nm:Bool)(rr:Option (List aC))(qq:Option (List (aC × aC))):Adr × Int :=
 match nm,rr,qq with
 | true,some p,some q=>if p.length<=32/\q.length<=16 then (⟨c,p,q⟩,0) else (mJ,2)
 | _,_,_=>(mJ,3)
def mW(t:List UInt8 × List UInt8 × Bool):Option (List aC):=if t.2.2 then gp [] (splitB 47 (toB t.2.1)) else some []
def dB(s:aC):Adr × Int :=
 if 4096<s.size then (mJ,2)
 else pI (toB (dw s).1) (bU (toB (dw s).1)) (mW (dw s)) (lN (toB (dR s).2.1))
def EP(r:Adr × Int)(w:World)(e:Ending)(w':World):Prop :=
 aF w w'/\∃ A ca B cb,e=.returned (.tuple #[.agg #[.string r.1.cust,.slice A r.1.path.length ca,.slice B r.1.query.length cb],.int .i64 r.2]) /\
  aI w' 1 A r.1.path.length (r.1.path.map .string)/\aI w' 2 B r.1.query.length (eY r.1.query)/\(∀ a,A=some a->w.heap.size<=a.block)/\(∀ a,B=some a->w.heap.size<=a.block)/\r.1.path.length<=ca
theorem aI.set_{w:World}{size n:Nat}{A:Option Addr}{vs:List Value}(h:aI w size A n vs)(p:Addr)(x:Value)(hp:∀ a,A=some a->a.block≠p.block):aI (w.setCell p x) size A n vs:=by
 refine⟨h.1,fun hn=>?_⟩;obtain⟨b,o,rfl,hc⟩:=h.2 hn;exact⟨b,o,rfl,fun j u hu=>(World.cell?_setCell_other w p ⟨b,o+j,none⟩ x (by intro e;exact hp _ rfl (by rw[e]))).trans (hc j u hu)⟩
theorem Iy(l:List UInt8):(iI l).length=l.length:=by simp[iI]
theorem Iw(l q:List UInt8):(Lib.trimSuffix l q).length<=l.length:=by
 unfold Lib.trimSuffix;split
 ·simp
 ·exact Nat.le_refl _
theorem uA(s:aC)(w X:World)(hX:X=((w.alloc (.cells #[.string s] 9)).alloc (.cells #[.string ⟨#[47]⟩] 9)).alloc (.cells #[.int .i64 0] 3))(hs:s.size<=4096) :
  Calls prog 265 #[.func (.func 316) #[] #[.pointer (some ⟨w.heap.size+1,0,none⟩),.pointer (some ⟨w.heap.size,0,none⟩),.pointer (some ⟨w.heap.size+1+1,0,none⟩)]] X (tu (gp [] (splitB 47 s)) X w.heap.size):=by
 have b0:Boxed X w.heap.size 9 (.string s):=by
  rw[hX];exact ((Boxed.new w _ _).alloc _).alloc _
 have b1:Boxed X (w.heap.size+1) 9 (.string ⟨#[47]⟩):=by
  have:=Boxed.new (w.alloc (.cells #[.string s] 9)) 9 (.string ⟨#[47]⟩);rw[World.size_alloc]at this;rw[hX];exact this.alloc _
 have b2:Boxed X (w.heap.size+1+1) 3 (.int .i64 0):=by
  have:=Boxed.new ((w.alloc (.cells #[.string s] 9)).alloc (.cells #[.string ⟨#[47]⟩] 9)) 3 (.int .i64 0);rw[World.size_alloc,World.size_alloc]at this;rw[hX];exact this
 have hz:X.heap.size=w.heap.size+1+1+1:=by rw[hX];simp
 have hn:=qM 47 s;exact Oi 316 w.heap.size _ (enters_of func316 aG rfl) (yG w.heap.size) (splitB 47 s) X w.heap.size (w.heap.size+3) aB
  (IQ w.heap.size 47 s X aB b0.cell b1.cell b2.cell b0.frozen) (Zd _ _ _ (Nat.le_refl _) aB) aB aB (fun p hp=>by have:=oU 47 s p hp;omega)
theorem aAo(v:Value)(w:World):Calls prog 264 #[v] w fun e w'=>(∃ u,e=.returned u)/\w'=w:=by
 go_enter func264,ntmps264;go_wp2;go_end0;exact⟨⟨_,rfl⟩,rfl⟩
theorem EQ(w:World):Calls prog 265 #[.func (.func 264) #[] #[]] w (tu (some []) w w.heap.size):=by
 refine Oi 264 w.heap.size #[] (enters_of func264 aG rfl) (fun _ _=>False) [] w 0 0 aB ?_ (Ze _ _) (Nat.le_refl _) aH aH;intro l J Jx W _ _ _ _ h0;refine (callsIn_wide.2 (aAo _ W)).mono ?_;rintro e w' ⟨hu,rfl⟩;exact⟨hu,.inl h0⟩
theorem tu.some_{rr:Option (List aC)}{X w':World}{b:Nat}{e:Ending}(h:tu rr X b e w'):Below b X w'/\∃ A c,e=.returned (.tuple #[.slice A (rr.getD []).length c,.bool rr.isSome])/\aI w' 1 A (rr.getD []).length ((rr.getD []).map .string)/\(∀ a,A=some a->X.heap.size<=a.block)/\(rr.getD []).length<=c:=by
 obtain⟨hb,h⟩:=h;cases rr with
 | none=>exact⟨hb,none,0,h,aI.nil_ _ _ _,fun a ha=>jd,Nat.le_refl _⟩
 | some p=>exact⟨hb,h⟩
theorem nT.some_{qq:Option (List (aC × aC))}{X w':World}{e:Ending}(h:nT qq X e w'):aF X w'/\∃ B c,e=.returned (.tuple #[.slice B (qq.getD []).length c,.bool qq.isSome])/\aI w' 2 B (qq.getD []).length (eY (qq.getD []))/\∀ a,B=some a->X.heap.size<=a.block:=by
 obtain⟨hb,h⟩:=h;cases qq with
 | none=>exact⟨hb,none,0,h,aI.nil_ _ _ _,fun a ha=>jd⟩
 | some p=>exact⟨hb,h⟩
theorem aAp(s:aC)(w:World)(hs:4096<s.size):Calls prog 203 #[.string s] w (EP (mJ,2) w):=by
 go_enter func203,ntmps203;go_wp2;exact bodyPost_ret (v:=.tuple #[.agg #[.string ⟨#[]⟩,.slice none 0 0,.slice none 0 0],.int .i64 2]) (by simp[results,results203,go_sem]) rfl ⟨aJ,none,0,none,0,rfl,aI.nil_ _ _ _,aI.nil_ _ _ _,(fun a ha=>jd),(fun a ha=>jd),Nat.le_refl _⟩
theorem aAq(s Lb L Q T C R:aC)(b1 more nm:Bool)(rr:Option (List aC))(qq:Option (List (aC × aC)))(w:World)(hs:s.size<=4096)(hR:R.size<=4096)(hE:Env w)
  (HL:Hid (∀ W,Calls prog 261 #[.string s] W (Ret W (.string Lb))))
  (HC1:Hid (∀ W,Env W->Calls prog 260 #[.string Lb,.string ⟨#[63]⟩] W (Ret W (.tuple #[.string L,.string Q,.bool b1]))))
  (HT:Hid (∀ W,Calls prog 262 #[.string L,.string ⟨#[47]⟩] W fun e w'=>e=.returned (.string T)/\w'=W))
  (HC2:Hid (∀ W,Env W->Calls prog 260 #[.string T,.string ⟨#[47]⟩] W (Ret W (.tuple #[.string C,.string R,.bool more]))))
  (HRR:Hid (more=true->gp [] (splitB 47 R)=rr)) (HR0:Hid (more=false->rr=some []))
  (HP:Hid (∀ W,Env W->Calls prog 266 #[.string Q] W (nT qq W)))
  (HN:Hid (∀ W,Calls prog 94 #[.string C] W (Ret W (.bool nm)))) :
  Calls prog 203 #[.string s] w (EP (pI C nm rr qq) w):=by
 obtain⟨ps,np,o1,hps,hnp,ho1⟩:∃ ps np o1,ps=rr.getD []/\np=(rr.getD []).length/\o1=rr.isSome:=⟨_,_,_,rfl,rfl,rfl⟩;obtain⟨qs,nq,o2,hqs,hnq,ho2⟩:∃ qs nq o2,qs=qq.getD []/\nq=(qq.getD []).length/\o2=qq.isSome:=⟨_,_,_,rfl,rfl,rfl⟩;have HRs:Hid (∀ X e w' b,tu rr X b e w'->Below b X w'/\∃ A c,e=.returned (.tuple #[.slice A np c,.bool o1])/\aI w' 1 A np (ps.map .string)/\(∀ a,A=some a->X.heap.size<=a.block)/\np<=c):=aA (fun X e w' b h=>by rw[hps,hnp,ho1];exact h.some_);have HPs:Hid (∀ X e w',nT qq X e w'->aF X w'/\∃ A c,e=.returned (.tuple #[.slice A nq c,.bool o2])/\aI w' 2 A nq (eY qs)/\∀ a,A=some a->X.heap.size<=a.block):=aA (fun X e w' h=>by rw[hqs,hnq,ho2];exact h.some_);have hv:pI C nm rr qq=if nm&&o1&&o2 then (if np<=32/\nq<=16 then (⟨C,ps,qs⟩,0) else (mJ,2)) else (mJ,3):=by
  rw[hps,hnp,ho1,hqs,hnq,ho2];cases nm <;> cases rr <;> cases qq <;> simp[pI]
 rw[hv];have HPL:Hid (ps.length=np):=aA (by rw[hps,hnp]);have HQL:Hid (qs.length=nq):=aA (by rw[hqs,hnq]);clear hv hps hnp ho1 hqs hnq ho2;have hd:decide ((4096:Int)<(s.size:Int))=false:=aP;cases more
 ·cases nm
  ·simp only[Bool.false_and,Bool.false_eq_true,if_false];exact ES
  cases o1
  ·simp only[Bool.true_and,Bool.false_and,Bool.false_eq_true,if_false];exact ES
  cases o2
  ·simp only[Bool.true_and,Bool.and_false,Bool.false_eq_true,if_false];exact ES
  simp only[Bool.and_self,if_true];by_cases hnp:np<=32;rotate_left
  ·rw[if_neg (fun h=>hnp h.1)];have hd1:decide ((32:Int)<(np:Int))=true:=aP;exact PY
  have hd1:decide ((32:Int)<(np:Int))=false:=aP;by_cases hnq:nq<=16;rotate_left
  ·rw[if_neg (fun h=>hnq h.2)];have hd2:decide ((16:Int)<(nq:Int))=true:=aP;exact PY
  have hd2:decide ((16:Int)<(nq:Int))=false:=aP;rw[if_pos ⟨hnp,hnq⟩];go_enter func203,ntmps203;go_wp2_with (first | (go_at_call 261;refine (HL.out _).mono ?_;rintro e w1 ⟨rfl,hb1⟩;obtain⟨hc1,hf1⟩:=bT hb1;have hz1_0:w.heap.size<w1.heap.size:=iQ;have hE1:=Env.keep (Env.keep hE (aU (Below.refl _ _) _)) hb1) | (go_at_call 260;refine (HC1.out _ hE1).mono ?_;rintro e w2 ⟨rfl,hb2⟩;obtain⟨hc2,hf2⟩:=bT hb2;have hz2_0:w.heap.size<w2.heap.size:=qA;have hE2:=Env.keep hE1 hb2;clear hE1) | (go_at_call 262;refine (HT.out _).mono ?_;rintro e wt ⟨rfl,hwt⟩;rw[hwt];clear hwt wt) | (go_at_call 260;refine (HC2.out _ hE2).mono ?_;rintro e w3 ⟨rfl,hb3⟩;obtain⟨hc3,hf3⟩:=bT hb3;have hz3_0:w.heap.size<w3.heap.size:=uB;have hE3:=Env.keep hE2 hb3) | (go_at_call 263;refine (rC _ _ _).mono ?_;rintro e X ⟨rfl,hX⟩;have cR:=uA R w3 X hX hR;have hbX:aF w3 X:=uC;clear hX) | (go_at_call 265;refine (EQ _).mono ?_;rintro e w5 hres;rw[<-HR0.out aH]at hres;obtain⟨hbr,PA,Pc,rfl,hPR,hPA,hPc⟩:=HRs.out _ _ _ _ hres;clear hres cR;have hb5:aF w3 w5:=aV hbX hbr;obtain⟨hc5,hf5⟩:=bT hb5;have hz5_0:w.heap.size<w5.heap.size:=uD;have hE5:=Env.keep hE3 hb5) | (go_at_call 266;refine (HP.out _ hE5).mono ?_;rintro e w6 hpp;obtain⟨hb6,QA,Qc,rfl,hQR,hQA⟩:=HPs.out _ _ _ hpp;clear hpp;obtain⟨hc6,hf6⟩:=bT hb6;have hz6_0:w.heap.size<w6.heap.size:=uF) | (go_at_call 94;refine (HN.out _).mono ?_;rintro e w7 ⟨rfl,hb7⟩;obtain⟨hc7,hf7⟩:=bT hb7;have hz7_0:w.heap.size<w7.heap.size:=uG));exact PZ
 ·cases nm
  ·simp only[Bool.false_and,Bool.false_eq_true,if_false];exact ET
  cases o1
  ·simp only[Bool.true_and,Bool.false_and,Bool.false_eq_true,if_false];exact ET
  cases o2
  ·simp only[Bool.true_and,Bool.and_false,Bool.false_eq_true,if_false];exact ET
  simp only[Bool.and_self,if_true];by_cases hnp:np<=32;rotate_left
  ·rw[if_neg (fun h=>hnp h.1)];have hd1:decide ((32:Int)<(np:Int))=true:=aP;exact Pg
  have hd1:decide ((32:Int)<(np:Int))=false:=aP;by_cases hnq:nq<=16;rotate_left
  ·rw[if_neg (fun h=>hnq h.2)];have hd2:decide ((16:Int)<(nq:Int))=true:=aP;exact Pg
  have hd2:decide ((16:Int)<(nq:Int))=false:=aP;rw[if_pos ⟨hnp,hnq⟩];go_enter func203,ntmps203;go_wp2_with (first | (go_at_call 261;refine (HL.out _).mono ?_;rintro e w1 ⟨rfl,hb1⟩;obtain⟨hc1,hf1⟩:=bT hb1;have hz1_0:w.heap.size<w1.heap.size:=iQ;have hE1:=Env.keep (Env.keep hE (aU (Below.refl _ _) _)) hb1) | (go_at_call 260;refine (HC1.out _ hE1).mono ?_;rintro e w2 ⟨rfl,hb2⟩;obtain⟨hc2,hf2⟩:=bT hb2;have hz2_0:w.heap.size<w2.heap.size:=qA;have hE2:=Env.keep hE1 hb2;clear hE1) | (go_at_call 262;refine (HT.out _).mono ?_;rintro e wt ⟨rfl,hwt⟩;rw[hwt];clear hwt wt) | (go_at_call 260;refine (HC2.out _ hE2).mono ?_;rintro e w3 ⟨rfl,hb3⟩;obtain⟨hc3,hf3⟩:=bT hb3;have hz3_0:w.heap.size<w3.heap.size:=uB;have hE3:=Env.keep hE2 hb3) | (go_at_call 263;refine (rC _ _ _).mono ?_;rintro e X ⟨rfl,hX⟩;have cR:=uA R w3 X hX hR;have hbX:aF w3 X:=uC;clear hX) | (go_at_call 265;refine cR.mono ?_;rintro e w5 hres;rw[HRR.out aH]at hres;obtain⟨hbr,PA,Pc,rfl,hPR,hPA,hPc⟩:=HRs.out _ _ _ _ hres;clear hres cR;have hb5:aF w3 w5:=hbX.trans hbr;obtain⟨hc5,hf5⟩:=bT hb5;have hz5_0:w.heap.size<w5.heap.size:=uD;have hE5:=Env.keep hE3 hb5) | (go_at_call 266;refine (HP.out _ hE5).mono ?_;rintro e w6 hpp;obtain⟨hb6,QA,Qc,rfl,hQR,hQA⟩:=HPs.out _ _ _ hpp;clear hpp;obtain⟨hc6,hf6⟩:=bT hb6;have hz6_0:w.heap.size<w6.heap.size:=uF) | (go_at_call 94;refine (HN.out _).mono ?_;rintro e w7 ⟨rfl,hb7⟩;obtain⟨hc7,hf7⟩:=bT hb7;have hz7_0:w.heap.size<w7.heap.size:=uG));exact PZ
theorem FP(s:aC)(w:World)(hs:s.size<=4294967281)(hE:Env w):Calls prog 203 #[.string s] w (EP (dB s) w):=by
 by_cases h:4096<s.size
 ·have:=aAp s w h;unfold dB;rw[if_pos h];exact this
 have h1:=EC (iI s.data.toList) [63];have h2:=ED (iI s.data.toList) [63];have h3:=Iw (dR s).1 [47];have h4:=EC (Lib.trimSuffix (dR s).1 [47]) [47];have h5:=ED (Lib.trimSuffix (dR s).1 [47]) [47];have h0:=Iy s.data.toList;rw[<-Lib.size_eq]at h0;have:=aAq s (toB (iI s.data.toList)) (toB (dR s).1) (toB (dR s).2.1) (toB (Lib.trimSuffix (dR s).1 [47])) (toB (dw s).1) (toB (dw s).2.1) (dR s).2.2 (dw s).2.2 (bU (toB (dw s).1)) (mW (dw s)) (lN (toB (dR s).2.1)) w aB (by rw[mg];unfold dw dR at *;omega) hE
  (aA fun W=>Uk s W hs) (aA fun W h=>D8 (toB (iI s.data.toList)) 63 W (by rw[mg];omega) h) (aA fun W=>strings_TrimSuffix (toB (dR s).1) ⟨#[47]⟩ W (by rw[mg];unfold dR;omega))
  (aA fun W h=>D8 (toB (Lib.trimSuffix (dR s).1 [47])) 47 W (by rw[mg];unfold dR at *;omega) h) (aA fun hm=>by unfold mW;rw[if_pos hm]) (aA fun hm=>by unfold mW;rw[if_neg (by simp[hm])])
  (aA fun W h=>aAc (toB (dR s).2.1) W (by rw[mg];unfold dR;omega) h) (aA fun W=>rW (toB (dw s).1) W (by rw[mg];unfold dw dR at *;omega))
 unfold dB;rw[if_neg h];exact this
theorem Ph:∀(ps out r:List aC),(∀ p∈out,bW p=true)->gp out ps=some r->∀ p∈r,bW p=true
 | [],out,r,h,e=>by simp[gp]at e;subst e;exact h
 | p :: ps,out,r,h,e=>by
  rw[gp]at e;cases hs:kT out p with
  | none=>rw[hs]at e;cases e
  | some o =>
   rw[hs,Option.bind_some]at e;refine Ph ps o r (fun q hq=>?_) e;unfold kT at hs;split at hs
   ·injection hs with hs;subst hs;exact h q hq
   ·split at hs
    ·injection hs with hs;subst hs;exact h q (List.dropLast_subset _ hq)
    ·split at hs
     ·injection hs with hs;subst hs
      rcases List.mem_append.1 hq with hq | hq
      ·exact h q hq
      ·rw[List.mem_singleton.1 hq];assumption
     ·cases hs
theorem Pi:∀(ps:List aC)(acc r:List (List UInt8 × List UInt8)),(∀ q∈acc,bU (toB q.1)=true/\bW (toB q.2)=true)->gI acc ps=some r->∀ q∈r,bU (toB q.1)=true/\bW (toB q.2)=true
 | [],acc,r,h,e=>by simp[gI]at e;subst e;exact h
 | p :: ps,acc,r,h,e=>by
  rw[gI]at e;cases hs:ru p with
  | none=>rw[hs]at e;cases e
  | some x =>
   rw[hs]at e;refine Pi ps _ r (fun q hq=>?_) e;rcases List.mem_append.1 hq with hq | hq
   ·exact h q hq
   ·rw[List.mem_singleton.1 hq];unfold ru at hs;split at hs
    ·rename_i hc;simp only[Bool.and_eq_true]at hc;injection hs with hs;subst hs
     exact⟨hc.1.2,hc.2⟩
    ·cases hs
def BN(q:List (aC × aC)):Prop:=q.Pairwise fun a b=>a.1.data.toList<b.1.data.toList
theorem aAr(s:aC)(r:List (aC × aC))(h:lN s=some r):(∀ q∈r,bU q.1=true/\bW q.2=true)/\BN r:=by
 unfold lN at h;split at h
 ·injection h with h;subst h;exact⟨aH,List.Pairwise.nil⟩
 ·cases hq:gI [] (splitB 38 s) with
  | none=>rw[hq]at h;cases h
  | some acc =>
   rw[hq,Option.map_some]at h;injection h with h;subst h
   constructor
   ·intro q hq';obtain⟨x,hx,rfl⟩:=List.mem_map.1 hq';exact Pi _ _ _ aH hq x (O8 hx)
   ·exact List.pairwise_map.2 ((zW acc).2.2.1)
structure BM(a:Adr):Prop where
 name:bU a.cust=true
 words:∀ p∈a.path,bW p=true
 parts:a.path.length<=32
 pairs:a.query.length<=16
 query:∀ q∈a.query,bU q.1=true/\bW q.2=true
 up:BN a.query
theorem Ai(s:aC)(h:(dB s).2=0):BM (dB s).1:=by
 unfold dB at h ⊢;split at h
 ·cases h
 ·rename_i hs;rw[if_neg hs];generalize hrr:mW (dw s)=rr at h ⊢;generalize hqq:lN (toB (dR s).2.1)=qq at h ⊢;generalize hnm:bU (toB (dw s).1)=nm at h ⊢;unfold pI at h ⊢;split at h
  ·split at h
   ·rename_i hl;simp only[hl,and_self,if_true];have hp:=aAr _ _ hqq;refine⟨hnm,?_,hl.1,hl.2,hp.1,hp.2⟩;unfold mW at hrr;split at hrr
    ·exact Ph _ _ _ aH hrr
    ·injection hrr with hrr;subst hrr;simp
   ·cases h
  ·cases h
theorem Gm(s:aC)(h:(dB s).2≠0):(dB s).1=mJ:=by
 unfold dB at h ⊢;split
 ·rfl
 ·rename_i hs;rw[if_neg hs]at h;generalize mW (dw s)=rr at h ⊢;generalize lN (toB (dR s).2.1)=qq at h ⊢;generalize bU (toB (dw s).1)=nm at h ⊢;unfold pI at h ⊢;split
  ·split
   ·rename_i hl;exact absurd (by simp[hl]) h
   ·rfl
  ·rfl
theorem zn(s:aC):(dB s).2=0\/(dB s).2=2\/(dB s).2=3:=by
 unfold dB;split
 ·simp
 ·unfold pI;split
  ·split <;> simp
  ·simp
theorem Pj:∀ l:List (List UInt8),(∀ p∈l,p.length<=64)->(dF l).length<=l.length*65
 | [],_=>by simp[dF]
 | p :: l,h=>by
  have h1:=h p aH;have h2:=Pj l (fun q hq=>h q (by simp[hq]));simp only[dF,List.flatMap_cons,List.length_append,List.length_cons]at h2 ⊢;omega
theorem Pm:∀(sep:UInt8)(l:List (List UInt8 × List UInt8)),(∀ p∈l,p.1.length<=64/\p.2.length<=64)->(eQ sep l).length<=l.length*130
 | _,[],_=>by simp[eQ]
 | _,p :: l,h=>by
  have h1:=h p aH;have h2:=Pm 38 l (fun q hq=>h q (by simp[hq]));simp only[eQ,List.length_append,List.length_cons]at h2 ⊢;omega
theorem aAs{a:Adr}(h:BM a):(W06 a.cust a.path a.query).length<=10000:=by
 have h1:=Pj (az a.path) (by
  intro p hp;obtain⟨x,hx,rfl⟩:=List.mem_map.1 hp;have:=xm (h.words x hx);rw[Lib.size_eq]at this;exact this)
 have h2:=Pm 63 (fO a.query) (by
  intro p hp;obtain⟨x,hx,rfl⟩:=List.mem_map.1 hp;have h3:=rH (h.query x hx).1;have h4:=xm (h.query x hx).2;rw[Lib.size_eq]at h3 h4;exact⟨h3,h4⟩)
 have h3:=rH h.name;rw[Lib.size_eq]at h3;have h4:=h.parts;have h5:=h.pairs;simp only[az,fO,List.length_map]at h1 h2;simp only[W06,kU,List.length_append,az,fO];omega
theorem FQ(s:aC):(W06 (dB s).1.cust (dB s).1.path (dB s).1.query).length<=10000:=by
 by_cases h:(dB s).2=0
 ·exact aAs (Ai s h)
 ·rw[Gm s h];simp[mJ,W06,kU,dF,eQ,az,fO]
structure WoS(w:World)(L Z:List Nat)(W:World):Prop where
 a:au W (w.heap.size+1) 265 L
 b:au W w.heap.size 265 Z
 c:aF w W
theorem WoS.keep{w W W':World}{L Z:List Nat}(h:WoS w L Z W)(hb:aF W W'):WoS w L Z W':=⟨h.a.keep hb,h.b.keep hb,aV h.c hb⟩
end Go.Proofs.YtlkbkclnbppigaaGreatDoor
