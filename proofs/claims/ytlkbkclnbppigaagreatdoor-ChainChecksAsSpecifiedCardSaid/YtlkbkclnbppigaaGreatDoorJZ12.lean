/- What 'Canonical' and 'read' return. -/
import Derived.Test.YtlkbkclnbppigaaGreatDoorJZ9
import Derived.Test.YtlkbkclnbppigaaGreatDoorJZ10
import Derived.Test.YtlkbkclnbppigaaGreatDoorJZ11
set_option maxHeartbeats 4000000
namespace Go.Proofs.YtlkbkclnbppigaaGreatDoor
open Tryz
open Go.RowKit Go.Sort
set_option linter.unusedVariables false
set_option linter.unusedSimpArgs false
set_option maxRecDepth 100000
def yC(s:ByteArray):Value:=if (bU s).2=0 then jd (bU s).1.cust (bU s).1.path (bU s).1.query else .tuple #[.string ⟨#[]⟩,.int .i64 (bU s).2]
theorem Ym(s:ByteArray)(w:World)(hs:s.size<=4294967281)(hE:Env w):Calls prog 146 #[.string s] w (Ret w (yC s)):=by
 have cP:=LX s w hs hE;have he:=Ar s;have hbd:=Eo s;unfold yC;generalize bU s=r at *;obtain⟨⟨c,ps,qs⟩,er⟩:=r;dsimp only at he hbd ⊢;have HP:=aB cP;have HB:=aB hbd;clear cP hbd;rcases he with rfl | rfl | rfl
 ·simp only[if_true];generalize hv:jd c ps qs=V;have cT:∀ A ca B cb W,aH W 1 A ps.length (ps.map .string)->aH W 2 B qs.length (dS qs)->Calls prog 204 #[.agg #[.string c,.slice A ps.length ca,.slice B qs.length cb]] W (Ret W V):=fun A ca B cb W h1 h2=>by
   rw[<-hv];exact Yp c A B ps.length ca qs.length cb ps qs W h1 h2 yD
  have HT:=aB cT;obtain⟨x,y,hxy⟩:∃ x y,V=.tuple #[.string x,.int .i64 y]:=by
   rw[<-hv];unfold jd;split <;> exact⟨_,_,rfl⟩
  clear cT hv;subst hxy;go_enter func146,ntmps146;go_wp2_with (first | (go_at_call 203;refine HP.out.mono ?_;rintro e w1 ⟨hb1,A,ca,B,cb,rfl,hA,hB,_,_⟩) | (go_at_call 204;refine (HT.out _ _ _ _ _ ?_ ?_).mono ?_;exact hA.keep aG;exact hB.keep aG;rintro e w2 ⟨rfl,hb2⟩));go_ret2;exact⟨rfl,aG⟩
 all_goals
  rw[if_neg aK];go_enter func146,ntmps146;go_wp2_with (go_at_call 203;refine HP.out.mono ?_;rintro e w1 ⟨hb1,A,ca,B,cb,rfl,hA,hB,_,_⟩);go_ret2;exact⟨rfl,aG⟩
def iK(s:ByteArray):Bool:=decide ((bU s).2=0)&&(ByteArray.toList ⟨(W06 (bU s).1.cust (bU s).1.path (bU s).1.query).toArray⟩ == s.toList)
def yE(a:Adr)(ok:Bool)(w:World)(e:Ending)(w':World):Prop :=
 Below w.heap.size w w'/\∃ A ca B cb,e=.returned (.tuple #[.agg #[.string a.cust,.slice A a.path.length ca,.slice B a.query.length cb],.bool ok])/\aH w' 1 A a.path.length (a.path.map .string)/\aH w' 2 B a.query.length (dS a.query)
theorem yE.mk_{c:ByteArray}{ps:List ByteArray}{qs:List (ByteArray × ByteArray)}{ok:Bool}{w w':World}{A B:Option Addr}{ca cb:Nat}(hb:Below w.heap.size w w')(hA:aH w' 1 A ps.length (ps.map .string))(hB:aH w' 2 B qs.length (dS qs)) :
  yE ⟨c,ps,qs⟩ ok w (.returned (.tuple #[.agg #[.string c,.slice A ps.length ca,.slice B qs.length cb],.bool ok])) w':=⟨hb,A,ca,B,cb,rfl,hA,hB⟩
theorem Yq(s:ByteArray)(w:World)(hs:s.size<=4294967281)(hE:Env w):Calls prog 148 #[.string s] w (yE (bU s).1 (iK s) w):=by
 have cP:=fun W h=>LX s W hs h
 have he:=Ar s;have hbd:=Eo s;unfold iK;generalize bU s=r at *;obtain⟨⟨c,ps,qs⟩,er⟩:=r;dsimp only at he hbd ⊢;have HP:=aB cP;have HB:=aB hbd;clear cP hbd;generalize hT:(ByteArray.mk (W06 c ps qs).toArray)=T;have cW:∀ A ca B cb W,aH W 1 A ps.length (ps.map .string)->aH W 2 B qs.length (dS qs)->Calls prog 207 #[.agg #[.string c,.slice A ps.length ca,.slice B qs.length cb]] W (Ret W (.string T)):=fun A ca B cb W h1 h2=>by
  rw[<-hT];exact LY c A B ps.length ca qs.length cb ps qs W h1 h2 yD
 have HW:=aB cW;clear cW hT;rcases he with rfl | he
 ·simp only[decide_true,Bool.true_and];generalize hq:(T.toList==s.toList)=q;have HQ:=aB hq;clear hq;go_enter func148,ntmps148;go_wp2_with (go_at_call 203;refine (HP.out _ (hE.keep (aU (Below.refl _ _) _))).mono ?_;rintro e w1 ⟨hb1,A,ca,B,cb,rfl,hA,hB,hA1,hB1,_⟩;obtain⟨hc1,hf1⟩:=bg hb1;have hz1_0:w.heap.size<w1.heap.size:=jc);have f1:(w1.alloc (.cells #[.string c,.slice A ps.length ca,.slice B qs.length cb] 200)).cell? ⟨w1.heap.size,0,none⟩=some (.string c):=jP;have f2:(w1.alloc (.cells #[.string c,.slice A ps.length ca,.slice B qs.length cb] 200)).cell? ⟨w1.heap.size,1,none⟩=some (.slice A ps.length ca):=jP;have f3:(w1.alloc (.cells #[.string c,.slice A ps.length ca,.slice B qs.length cb] 200)).cell? ⟨w1.heap.size,2,none⟩=some (.slice B qs.length cb):=jP;have f4:(w1.alloc (.cells #[.string c,.slice A ps.length ca,.slice B qs.length cb] 200)).cell? ⟨w.heap.size,0,none⟩=some (.string ⟨#[]⟩):=mY;have f5:(w1.alloc (.cells #[.string c,.slice A ps.length ca,.slice B qs.length cb] 200)).cell? ⟨w.heap.size,1,none⟩=some (.slice none 0 0):=mY;have f6:(w1.alloc (.cells #[.string c,.slice A ps.length ca,.slice B qs.length cb] 200)).cell? ⟨w.heap.size,2,none⟩=some (.slice none 0 0):=mY;have f7:(w1.alloc (.cells #[.string c,.slice A ps.length ca,.slice B qs.length cb] 200)).frozen? ⟨w.heap.size,0,none⟩=false:=mY;have f8:(w1.alloc (.cells #[.string c,.slice A ps.length ca,.slice B qs.length cb] 200)).frozen? ⟨w.heap.size,1,none⟩=false:=mY;have f9:(w1.alloc (.cells #[.string c,.slice A ps.length ca,.slice B qs.length cb] 200)).frozen? ⟨w.heap.size,2,none⟩=false:=mY;have hA2:∀ a,A=some a->a.block≠w.heap.size:=fun a ha=>by have:=hA1 a ha;simp at this;omega
  have hB2:∀ a,B=some a->a.block≠w.heap.size:=fun a ha=>by have:=hB1 a ha;simp at this;omega
  have hA3:=hA.keep (aU (Below.refl _ w1) (.cells #[.string c,.slice A ps.length ca,.slice B qs.length cb] 200));have hB3:=hB.keep (aU (Below.refl _ w1) (.cells #[.string c,.slice A ps.length ca,.slice B qs.length cb] 200));have hb3:=aU (fE _ hb1) (.cells #[.string c,.slice A ps.length ca,.slice B qs.length cb] 200);have hne:w1.heap.size≠w.heap.size:=aA;clear hc1 hf1 hA hB hA1 hB1;generalize hW0:w1.alloc (.cells #[.string c,.slice A ps.length ca,.slice B qs.length cb] 200)=W0 at *;clear hW0;go_region_held3 (fun w'=>w'.cell? ⟨w1.heap.size,0,none⟩=some (.string c)/\w'.cell? ⟨w1.heap.size,1,none⟩=some (.slice A ps.length ca)/\w'.cell? ⟨w1.heap.size,2,none⟩=some (.slice B qs.length cb)/\w'.cell? ⟨w.heap.size,0,none⟩=some (rd w' ⟨w.heap.size,0,none⟩)/\w'.cell? ⟨w.heap.size,1,none⟩=some (rd w' ⟨w.heap.size,1,none⟩)/\w'.cell? ⟨w.heap.size,2,none⟩=some (rd w' ⟨w.heap.size,2,none⟩)/\w'.frozen? ⟨w.heap.size,0,none⟩=false/\w'.frozen? ⟨w.heap.size,1,none⟩=false/\w'.frozen? ⟨w.heap.size,2,none⟩=false/\aH w' 1 A ps.length (ps.map .string)/\aH w' 2 B qs.length (dS qs)/\Below w.heap.size w w')
   (first | exact⟨f1,f2,f3,tK f4,tK f5,tK f6,f7,f8,f9,hA3,hB3,Below.drew hb3⟩ | (go_split_ands;exact⟨aP hb2 ‹_›,aP hb2 ‹_›,aP hb2 ‹_›,xg hb2 ‹_›,xg hb2 ‹_›,xg hb2 ‹_›,eY hb2 (bf ‹_›) ‹_›,eY hb2 (bf ‹_›) ‹_›,eY hb2 (bf ‹_›) ‹_›,aH.keep ‹_› hb2,aH.keep ‹_› hb2,aN ‹_› hb2⟩) | (go_split_ands;refine⟨?_,?_,?_,lN (lN (lN ‹_›)),lN (lN (lN ‹_›)),lN (lN (lN ‹_›)),?_,?_,?_,((aH.set_ ‹_› _ _ hA2).set_ _ _ hA2).set_ _ _ hA2,((aH.set_ ‹_› _ _ hB2).set_ _ _ hB2).set_ _ _ hB2,?_⟩ <;> first | (simp[go_sem, *];done) | (repeat (first | exact .refl _ _ | assumption | refine .drew ?_ | refine aU ?_ _ | refine qw ?_ _ | refine .setCell ?_ oP _ | refine aN ?_ dZ))))
   ((go_at_call 207;refine (HW.out _ _ _ _ _ je je).mono ?_;rintro e w2 ⟨rfl,hb2⟩))
  go_wp2;exact bodyPost_ret (v:=.tuple #[.agg #[.string c,.slice A ps.length ca,.slice B qs.length cb],.bool q]) (by have g4:=aP (w:=W0.drew) hb2 f4;have g5:=aP (w:=W0.drew) hb2 f5;have g6:=aP (w:=W0.drew) hb2 f6;simp[results,results148,go_sem,g4,g5,g6,HQ.out]) rfl (yE.mk_ je je je)
 rcases he with rfl | rfl
 all_goals
  rw[show (decide ((_:Int)=0))=false from rfl,Bool.false_and];go_enter func148,ntmps148;go_wp2_with (go_at_call 203;refine (HP.out _ (hE.keep (aU (Below.refl _ _) _))).mono ?_;rintro e w1 ⟨hb1,A,ca,B,cb,rfl,hA,hB,hA1,hB1,_⟩;obtain⟨hc1,hf1⟩:=bg hb1;have hz1_0:w.heap.size<w1.heap.size:=jc);have f1:(w1.alloc (.cells #[.string c,.slice A ps.length ca,.slice B qs.length cb] 200)).cell? ⟨w1.heap.size,0,none⟩=some (.string c):=jP;have f2:(w1.alloc (.cells #[.string c,.slice A ps.length ca,.slice B qs.length cb] 200)).cell? ⟨w1.heap.size,1,none⟩=some (.slice A ps.length ca):=jP;have f3:(w1.alloc (.cells #[.string c,.slice A ps.length ca,.slice B qs.length cb] 200)).cell? ⟨w1.heap.size,2,none⟩=some (.slice B qs.length cb):=jP;have f4:(w1.alloc (.cells #[.string c,.slice A ps.length ca,.slice B qs.length cb] 200)).cell? ⟨w.heap.size,0,none⟩=some (.string ⟨#[]⟩):=mY;have f5:(w1.alloc (.cells #[.string c,.slice A ps.length ca,.slice B qs.length cb] 200)).cell? ⟨w.heap.size,1,none⟩=some (.slice none 0 0):=mY;have f6:(w1.alloc (.cells #[.string c,.slice A ps.length ca,.slice B qs.length cb] 200)).cell? ⟨w.heap.size,2,none⟩=some (.slice none 0 0):=mY;have f7:(w1.alloc (.cells #[.string c,.slice A ps.length ca,.slice B qs.length cb] 200)).frozen? ⟨w.heap.size,0,none⟩=false:=mY;have f8:(w1.alloc (.cells #[.string c,.slice A ps.length ca,.slice B qs.length cb] 200)).frozen? ⟨w.heap.size,1,none⟩=false:=mY;have f9:(w1.alloc (.cells #[.string c,.slice A ps.length ca,.slice B qs.length cb] 200)).frozen? ⟨w.heap.size,2,none⟩=false:=mY;have hA2:∀ a,A=some a->a.block≠w.heap.size:=fun a ha=>by have:=hA1 a ha;simp at this;omega
  have hB2:∀ a,B=some a->a.block≠w.heap.size:=fun a ha=>by have:=hB1 a ha;simp at this;omega
  have hA3:=hA.keep (aU (Below.refl _ w1) (.cells #[.string c,.slice A ps.length ca,.slice B qs.length cb] 200));have hB3:=hB.keep (aU (Below.refl _ w1) (.cells #[.string c,.slice A ps.length ca,.slice B qs.length cb] 200));have hb3:=aU (fE _ hb1) (.cells #[.string c,.slice A ps.length ca,.slice B qs.length cb] 200);have hne:w1.heap.size≠w.heap.size:=aA;clear hc1 hf1 hA hB hA1 hB1;generalize hW0:w1.alloc (.cells #[.string c,.slice A ps.length ca,.slice B qs.length cb] 200)=W0 at *;clear hW0;go_big_region;go_wp2;exact bodyPost_ret (v:=.tuple #[.agg #[.string c,.slice A ps.length ca,.slice B qs.length cb],.bool false]) (by simp[results,results148,go_sem,f4,f5,f6]) rfl (yE.mk_ aG (((hA3.set_ _ _ hA2).set_ _ _ hA2).set_ _ _ hA2) (((hB3.set_ _ _ hB2).set_ _ _ hB2).set_ _ _ hB2))
theorem Au(c:UInt8):∀(k:Nat)(s:ByteArray),Lib.countB s ⟨#[c]⟩=k->Lib.splitB ⟨#[c]⟩ 0 k s=splitB c s
 | k,s,h=>by
  have hidx:Lib.indexB s ⟨#[c]⟩=Lib.indexByte s.data.toList c:=Lib.index_one s.data.toList c;by_cases hm:Lib.indexB s ⟨#[c]⟩ = -1
  ·rw[Lib.splitB_miss _ _ _ _ hm,splitB_miss c s aA]
  ·have hge:=Lib.index_ge s.data.toList [c];obtain⟨i,hi⟩:∃ i:Nat,Lib.indexB s ⟨#[c]⟩=i:=by
    have:Lib.indexB s ⟨#[c]⟩=Lib.index s.data.toList [c]:=rfl;exact⟨(Lib.indexB s ⟨#[c]⟩).toNat,aA⟩
   have hcount:=Lib.countB_hit s ⟨#[c]⟩ i (Nat.le_refl _) hi;cases k with
   | zero=>omega
   | succ k =>
    rw[Lib.splitB_hit _ _ _ _ i hi,(splitB_hit c s i (by rw[<-hidx];exact hi)).1];rw[show i+0=i from rfl];congr 1;exact Au c k _ aA
theorem LZ(c:UInt8)(s:ByteArray):Lib.countB s ⟨#[c]⟩ + 1=(splitB c s).length:=by
 rw[<-Au c _ s rfl];exact (Lib.splitB_all ⟨#[c]⟩ (Nat.le_refl _) 0 _ s rfl).symm
theorem Yr(w:World)(t:TypeId)(vs:List Value)(n:Nat)(hn:vs.length=n):aH (w.alloc (.cells vs.toArray t)) 1 (some ⟨w.heap.size,0,none⟩) n vs :=
 ⟨aA,fun _=>⟨_,_,rfl,fun j u hu=>by
  have:=World.news_of_block (w:=w.alloc (.cells vs.toArray t)) (World.alloc_heap_new w (.cells vs.toArray t)) j u (by simpa using hu)
  have hadd:(⟨w.heap.size,0,none⟩:Addr).add j=⟨w.heap.size,0+j,none⟩:=oU
  rw[hadd]at this;exact this⟩⟩
def Yt(ps:List ByteArray)(w:World)(e:Ending)(w':World):Prop:=Below w.heap.size w w'/\∃ A c,e=.returned (.slice A ps.length c)/\aH w' 1 A ps.length (ps.map .string)/\(∀ a,A=some a->w.heap.size<=a.block)/\ps.length<=c
theorem Yu(s:ByteArray)(c:UInt8)(w:World)(hs:s.size<=4294967200)(hE:Env w):Calls prog 75 #[.string s,.string ⟨#[c]⟩] w (Yt (splitB c s) w):=by
 obtain⟨m,hm⟩:=hE;refine (strings_Split s ⟨#[c]⟩ m w aA hm (Nat.le_refl _)).mono ?_;rintro e w' ⟨rfl,rfl⟩;rw[LZ,Au c _ s rfl];exact⟨aU (Below.refl _ _) _,_,_,rfl,Yr _ _ _ _ aF,fun a ha=>by injection ha with ha;subst ha;exact Nat.le_refl _,Nat.le_refl _⟩
def La(r:List ByteArray × Int)(w:World)(e:Ending)(w':World):Prop:=Below w.heap.size w w'/\∃ A c,e=.returned (.tuple #[.slice A r.1.length c,.int .i64 r.2])/\aH w' 1 A r.1.length (r.1.map .string)
theorem La.none_{w w':World}{er:Int}(hb:Below w.heap.size w w'):La ([],er) w (.returned (.tuple #[.slice none 0 0,.int .i64 er])) w':=⟨hb,none,0,rfl,aH.nil_ _ _ _⟩
theorem Yv(a b:List UInt8)(c:UInt8)(h:c ∉ a):Lib.index (a++c :: b) [c]=a.length:=by
 rw[Lib.index_one];induction a with
 | nil=>simp[tZ]
 | cons x a ih =>
  simp only[List.mem_cons,not_or]at h;rw[List.cons_append,tZ,if_neg (fun e=>h.1 e.symm),ih h.2,if_neg aA];simp
theorem Aw(a:List UInt8)(c:UInt8)(h:c ∉ a):Lib.indexByte a c = -1:=by
 induction a with
 | nil=>rfl
 | cons x a ih =>
  simp only[List.mem_cons,not_or]at h;rw[tZ,if_neg (fun e=>h.1 e.symm),ih h.2,if_pos rfl]
theorem Yw(a:List UInt8)(c:UInt8)(h:c ∉ a):Lib.index a [c] = -1:=by
 rw[Lib.index_one];exact Aw a c h
theorem Yx(a:List UInt8)(c:UInt8)(h:Lib.indexByte a c<0):c ∉ a:=by
 induction a with
 | nil=>simp
 | cons x a ih =>
  have:=Az c a;rw[tZ]at h;split at h
  ·omega
  ·rename_i hne;split at h
   ·rename_i he;simp only[List.mem_cons,not_or];exact⟨fun e=>hne e.symm,ih aA⟩
   ·omega
theorem Ep(a b:List UInt8)(c:UInt8)(h:c ∉ a):Lib.cut (a++c :: b) [c]=(a,b,true):=by
 unfold Lib.cut;rw[Yv a b c h,if_pos aA];simp
theorem Es(a:List UInt8)(c:UInt8)(h:c ∉ a):Lib.cut a [c]=(a,[],false):=by
 unfold Lib.cut;rw[Yw a c h,if_neg aA]
theorem A8(a b:List UInt8)(c:UInt8)(h:c ∉ a):dJ c (a++c :: b)=a :: dJ c b:=by
 induction a with
 | nil=>simp[dJ]
 | cons x a ih =>
  simp only[List.mem_cons,not_or]at h;rw[List.cons_append,dJ,if_neg (fun e=>h.1 e.symm),ih h.2]
theorem BB(a:List UInt8)(c:UInt8)(h:c ∉ a):dJ c a=[a]:=Et c a (by rw[Aw a c h];omega)
theorem Lc:∀(x:List UInt8)(l:List (List UInt8)),47 ∉ x->(∀ y∈l,47 ∉ y)->dJ 47 (x++dO l)=x :: l
 | x,[],h,_=>by simp[dO,BB x 47 h]
 | x,y :: l,h,hl=>by
  have e:x++dO (y :: l)=x++47 :: (y++dO l):=by simp[dO]
  rw[e,A8 _ _ _ h,Lc y l (hl y aF) (fun z hz=>hl z (by simp[hz]))]
theorem vJ(b:UInt8)(h:fQ b=true):b≠47/\b≠63/\b≠38/\b≠61/\b≠42/\b≠44/\¬ (65<=b.toNat/\b.toNat<=90):=by
 unfold fQ jf at h;simp only[decide_eq_true_eq]at h;have k:∀ c:Nat,c<256->b.toNat≠c->b≠UInt8.ofNat c:=fun c hc h e=>h (by rw[e,UInt8.toNat_ofNat'];omega)
 exact⟨k 47 aA aA,k 63 aA aA,k 38 aA aA,k 61 aA aA,k 42 aA aA,k 44 aA aA,aA⟩
theorem oV{s:ByteArray}(h:bC s=true):∀ b∈s.data.toList,fQ b=true:=by
 unfold bC at h;simp only[Bool.and_eq_true,List.all_eq_true]at h;exact h.2
theorem oW{s:ByteArray}(h:bI s=true):bC s=true:=by
 unfold bI at h;simp only[Bool.and_eq_true]at h;exact h.1
theorem rH{s:ByteArray}(h:bC s=true):47 ∉ s.data.toList/\63 ∉ s.data.toList/\38 ∉ s.data.toList/\61 ∉ s.data.toList/\42 ∉ s.data.toList/\44 ∉ s.data.toList :=
 ⟨fun hm=>(vJ _ (oV h _ hm)).1 rfl,fun hm=>(vJ _ (oV h _ hm)).2.1 rfl,fun hm=>(vJ _ (oV h _ hm)).2.2.1 rfl,fun hm=>(vJ _ (oV h _ hm)).2.2.2.1 rfl,fun hm=>(vJ _ (oV h _ hm)).2.2.2.2.1 rfl,fun hm=>(vJ _ (oV h _ hm)).2.2.2.2.2.1 rfl⟩
theorem yF{s:ByteArray}(h:bC s=true):s.data.toList ≠ []/\s.data.toList ≠ [46]/\s.data.toList ≠ [46,46]/\s.size<=64:=by
 unfold bC at h;simp only[Bool.and_eq_true,Bool.not_eq_true',decide_eq_true_eq,Lib.toList_data]at h;obtain⟨⟨⟨⟨h1,h2⟩,h3⟩,h4⟩,_⟩:=h;exact⟨by intro e;simp[e]at h1,by intro e;simp[e]at h3,by intro e;simp[e]at h4,h2⟩
theorem Ld(a b:ByteArray):(a.toList==b.toList)=true↔a=b:=by
 rw[Lib.toList_data,Lib.toList_data,beq_iff_eq];exact⟨dP,fun h=>by rw[h]⟩
theorem Yy(t w:ByteArray):dQ 0 t w=true↔t=w:=by
 unfold dQ;rw[if_pos rfl];exact Ld t w
theorem vK(t w:ByteArray):dQ 1 t w=true↔t.size<w.size/\t.data.toList <:+ w.data.toList:=by
 unfold dQ;rw[if_neg aK,if_pos rfl];simp only[Bool.and_eq_true,decide_eq_true_eq,Lib.hasSuffix,List.isSuffixOf_iff_suffix]
theorem pz(t w:ByteArray):dQ 2 t w=true:=by
 unfold dQ;rw[if_neg aK,if_neg aK]
theorem Yz(k:Nat)(t t2:ByteArray):gW k t 0 t2=dQ k t t2:=by
 unfold gW;rw[if_pos rfl]
theorem Y0(k:Nat)(t t2:ByteArray):gW k t 1 t2=true↔k=2\/(k=1/\t.data.toList <:+ t2.data.toList):=by
 unfold gW;rw[if_neg aK,if_pos rfl];simp only[Bool.or_eq_true,Bool.and_eq_true,beq_iff_eq,Lib.hasSuffix,List.isSuffixOf_iff_suffix]
theorem Y6(k:Nat)(t t2:ByteArray):gW k t 2 t2=true↔k=2:=by
 unfold gW;rw[if_neg aK,if_neg aK,beq_iff_eq]
def iE(p:bJ):Prop :=
 (p.kind=0/\bC p.text=true)\/(p.kind=1/\∃ s:ByteArray,bC s=true/\s.size<=32/\p.text.data.toList=46 :: s.data.toList)\/(p.kind=2/\p.text=⟨#[]⟩)
def qA(p:bJ):Prop:=(p.kind=0/\bI p.text=true)\/(p.kind=2/\p.text=⟨#[]⟩)
theorem qA.part{p:bJ}(h:qA p):iE p:=by
 rcases h with ⟨h1,h2⟩ | h
 ·exact .inl ⟨h1,oW h2⟩
 ·exact .inr (.inr h)
theorem iL(s:ByteArray):s.size=s.data.toList.length:=Lib.size_eq s
theorem Le{p q:bJ}(hq:iE q)(h:gW p.kind p.text q.kind q.text=true)(w:ByteArray)(hw:dQ q.kind q.text w=true):dQ p.kind p.text w=true:=by
 obtain⟨k,t⟩:=p;obtain⟨k2,t2⟩:=q;dsimp only at *;rcases hq with ⟨hk,_⟩ | ⟨hk,_⟩ | ⟨hk,_⟩ <;> dsimp only at hk <;> subst hk
 ·rw[Yz]at h;rw[Yy]at hw;subst hw;exact h
 ·rw[vK]at hw;rcases (Y0 k t t2).1 h with rfl | ⟨rfl,hs⟩
  ·exact pz _ _
  ·rw[vK];have:=hs.length_le;rw[<-iL,<-iL]at this;exact⟨aA,hs.trans hw.2⟩
 ·rw[Y6]at h;subst h;exact pz _ _
theorem Lh{p q:bJ}(hp:iE p)(hq:iE q)(h:qB p q=true)(w:ByteArray) :
  dQ (gX p q).kind (gX p q).text w=(dQ p.kind p.text w&&dQ q.kind q.text w):=by
 unfold qB at h;unfold gX;cases hc:gW p.kind p.text q.kind q.text
 ·rw[hc,Bool.false_or]at h;simp only[Bool.false_eq_true,if_false];cases hw:dQ p.kind p.text w
  ·rfl
  ·rw[Le hp h w hw];rfl
 ·simp only[if_true];cases hw:dQ q.kind q.text w
  ·rw[Bool.and_false]
  ·rw[Le hq hc w hw];rfl
theorem Y7{p q:bJ}(hp:iE p)(hq:iE q):iE (gX p q):=by
 unfold gX;split <;> assumption
theorem Y8{p q:bJ}(hp:qA p)(hq:qA q):qA (gX p q):=by
 unfold gX;split <;> assumption
structure af where
 A:Option Addr
 ca:Nat
 B:Option Addr
 cb:Nat
 S:Option Addr
 cs:Nat
structure bz(w:World)(c:aZ)(m:af):Prop where
 cl:aH w 1 m.A c.cl.length (c.cl.map .string)
 co:aH w 1 m.B c.co.length (c.co.map .string)
 si:aH w 1 m.S c.si.length (c.si.map (.int .i64))
theorem bz.keep{w w':World}{c:aZ}{m:af}(h:bz w c m)(hb:Below w.heap.size w w'):bz w' c m:=⟨h.cl.keep hb,h.co.keep hb,h.si.keep hb⟩
def af.val(c:aZ)(m:af):Value:=.agg #[.int .i64 c.fr,.int .i64 c.till,.string c.pat,.slice m.A c.cl.length m.ca,.slice m.B c.co.length m.cb,.slice m.S c.si.length m.cs,.int .i64 c.us]
def aV(w:World)(g:Nat)(fr till:Int)(pat:ByteArray)(A:Option Addr)(na ca:Nat)(B:Option Addr)(nb cb:Nat)(S:Option Addr)(ns cs:Nat)(us:Int):Prop:=Blk w g 27 #[.int .i64 fr,.int .i64 till,.string pat,.slice A na ca,.slice B nb cb,.slice S ns cs,.int .i64 us] (0,0)
section
variable {w:World} {g:Nat} {fr till us:Int} {pat:ByteArray} {A B S:Option Addr} {na ca nb cb ns cs:Nat}
theorem aV.facts(h:aV w g fr till pat A na ca B nb cb S ns cs us) :
  w.cell? ⟨g,0,none⟩=some (.int .i64 fr)/\w.cell? ⟨g,1,none⟩=some (.int .i64 till)/\w.cell? ⟨g,2,none⟩=some (.string pat)/\w.cell? ⟨g,3,none⟩=some (.slice A na ca)/\w.cell? ⟨g,4,none⟩=some (.slice B nb cb)/\w.cell? ⟨g,5,none⟩=some (.slice S ns cs)/\w.cell? ⟨g,6,none⟩=some (.int .i64 us) :=
 ⟨Blk.cell h 0,Blk.cell h 1,Blk.cell h 2,Blk.cell h 3,Blk.cell h 4,Blk.cell h 5,Blk.cell h 6⟩
end
theorem BC(g c:Nat)(a b:ByteArray)(w:World)(h0:w.cell? ⟨g,0,none⟩=some (.string a))(h1:w.cell? ⟨g,1,none⟩=some (.string b)):Calls prog 108 #[.slice (some ⟨g,0,none⟩) 2 c] w (Ret w (.string (if a.size=0 then b else a))):=by
 have hE:∀ s:ByteArray,s.size=0->s=⟨#[]⟩:=fun s h=>dP (List.eq_nil_of_length_eq_zero vM)
 have hN:∀ s:ByteArray,s.size≠0->¬ s.toList=[]:=fun s h e=>h vN
 obtain⟨V,hV⟩:∃ V,V=if a.size=0 then b else a:=⟨_,rfl⟩
 rw[<-hV];have HV:=aB hV;have H0:=aB h0;have H1:=aB h1;clear h0 h1 hV;go_enter func108,ntmps108;go_wp2;go_loopw [8] (fun vi wr=>∃ k:Nat,vi=.int .i64 k/\k<=2/\Hid ((0<k->a.size=0)/\(1<k->b.size=0))/\Below w.heap.size w wr) (fun i _=>2-(intOf i).toNat)
 case atStart=>exact⟨0,rfl,aA,aB ⟨fun h=>aA,fun h=>aA⟩,Below.refl _ _⟩
 case round =>
  obtain⟨k,rfl,hk,HK,hbr⟩:=hrel;have c0:=aP hbr H0.out;have c1:=aP hbr H1.out;by_cases hlt:k<2
  ·rcases k with _ | _ | k
   ·by_cases hs:a.size=0
    ·have ha:=hE a hs;have HK2:Hid ((0<1->a.size=0)/\(1<1->b.size=0)):=aB ⟨fun _=>hs,fun h=>aA⟩;rw[ha]at c0;clear HK ha;go_wp2;exact⟨⟨1,aj,aA,HK2,hbr⟩,by simp[intOf];try omega⟩
    ·have hn:=hN a hs;have hn2:(a.toList == [])=false:=by simpa using hn
     obtain rfl:V=a:=by rw[HV.out,if_neg hs]
     clear HK;go_wp2;go_ret;exact⟨rfl,hbr⟩
   ·have hs:=HK.out.1 aA;obtain rfl:V=b:=by rw[HV.out,if_pos hs]
    by_cases hs2:V.size=0
    ·have hb:=hE V hs2;have HK2:Hid ((0<2->a.size=0)/\(1<2->V.size=0)):=aB ⟨fun _=>hs,fun _=>hs2⟩;rw[hb]at c1;clear HK hb;go_wp2;exact⟨⟨2,aj,aA,HK2,hbr⟩,by simp[intOf];try omega⟩
    ·have hn:=hN V hs2;have hn2:(V.toList == [])=false:=by simpa using hn
     clear HK;go_wp2;go_ret;exact⟨rfl,hbr⟩
   ·omega
  ·obtain rfl:k=2:=aA;have hs:=HK.out.1 aA;have hs2:=HK.out.2 aA;obtain rfl:V=⟨#[]⟩:=by rw[HV.out,if_pos hs,hE b hs2]
   go_wp2;go_ret;exact⟨rfl,hbr⟩
def nb(s:ByteArray):List Nat:=s.data.toList.map (·.toNat)
theorem nT(s:ByteArray):(nb s).length=s.size:=by
 unfold nb;rw[List.length_map,Array.length_toList];rfl
theorem Lj(s:ByteArray):∀ x∈nb s,x<256:=by
 intro x hx;obtain⟨b,_,rfl⟩:=List.mem_map.1 hx;exact b.toNat_lt
theorem Ll(s:ByteArray):kZ s=b8 (nb s):=by
 unfold kZ b8 nb;rw[List.map_map];rfl
def stL(s:Sha.St):List Nat:=[s.a,s.b,s.c,s.d,s.e,s.f,s.g,s.h]
def bZ(s:Sha.St)(blk:List Nat)(n:Nat):List Value:=w32 (stL s)++(b8 blk++[.int .u64 (n:Int)])
theorem dH(l:List Nat):(b8 l).length=l.length:=by simp[b8]
theorem oZ(a b:List Nat):b8 (a++b)=b8 a++b8 b:=by simp[b8]
theorem Eu(a:List Nat)(k:Nat):b8 (a.take k)=(b8 a).take k:=by simp[b8]
theorem Y9(a:List Nat)(k:Nat):b8 (a.drop k)=(b8 a).drop k:=by simp[b8]
theorem mQ(L:List Nat):∀ v∈b8 L,v.oneCell'=true:=by
 intro v hv;obtain⟨_,_,rfl⟩:=List.mem_map.1 hv;rfl
section
variable {s:Sha.St} {blk:List Nat} {n:Nat}
theorem nU(s:Sha.St):(w32 (stL s)).length=8:=rfl
theorem rJ(h:blk.length=64):(bZ s blk n).length=73:=by
 unfold bZ;rw[List.length_append,List.length_append,nU,dH,h];rfl
theorem ZB(h:blk.length=64){j:Nat}(hj:j<64):(bZ s blk n)[8+j]? = some (.int .u8 (blk.getD j 0:Nat)):=by
 unfold bZ;rw[List.getElem?_append_right vO,nU,Nat.add_sub_cancel_left,List.getElem?_append_left yG];exact lT blk aA
theorem BD(h:blk.length=64):(bZ s blk n)[72]? = some (.int .u64 (n:Int)):=by
 unfold bZ;rw[List.getElem?_append_right vO,nU,List.getElem?_append_right yG,dH,h];rfl
theorem qC{j:Nat}{v:Value}(h:(w32 (stL s))[j]? = some v):(bZ s blk n)[j]? = some v:=by
 unfold bZ;rw[List.getElem?_append_left (List.getElem?_eq_some_iff.1 h).1];exact h
theorem ZE(h:blk.length=64){a:Nat}{x:List Nat}(hx:a+x.length<=64):splice (bZ s blk n) (8+a) (b8 x)=bZ s (Sha.put blk a x) n:=by
 unfold splice bZ Sha.put;rw[List.take_append,List.take_of_length_le vO,nU,Nat.add_sub_cancel_left,List.take_append_of_le_length yG,dH,
  List.drop_append,List.drop_eq_nil_of_le vO,nU,show 8+a+x.length-8=a+x.length by omega,List.nil_append,List.drop_append_of_le_length yG]
 simp only[oZ,Eu,Y9,List.append_assoc]
theorem ZG(s':Sha.St):splice (bZ s blk n) 0 (w32 (stL s'))=bZ s' blk n:=by
 unfold splice bZ;rw[List.take_zero,List.nil_append,nU,List.drop_append,List.drop_eq_nil_of_le vO,nU];rfl
theorem ZH(h:blk.length=64)(n':Nat):(bZ s blk n).set 72 (.int .u64 (n':Int))=bZ s blk n':=by
 unfold bZ;rw[List.set_append_right _ _ vO,nU,List.set_append_right _ _ yG,dH,h];rfl
theorem ZI:∀ v∈bZ s blk n,v.oneCell'=true:=by
 intro v hv;unfold bZ at hv;rcases List.mem_append.1 hv with hv | hv
 ·exact yB _ v hv
 ·rcases List.mem_append.1 hv with hv | hv
  ·exact mQ _ v hv
  ·rw[List.mem_singleton.1 hv];rfl
end
def jR(m:List Nat)(v:Value):Prop:=∃ st blk,v=.agg (bZ st blk m.length).toArray/\Sha.Str m st blk/\∀ x∈blk,x<256
theorem ZJ{blk x:List Nat}{a:Nat}(h:∀ z∈blk,z<256)(hx:∀ z∈x,z<256):∀ z∈Sha.put blk a x,z<256:=by
 intro z hz;unfold Sha.put at hz;rcases List.mem_append.1 hz with hz | hz
 ·exact h z (List.mem_of_mem_take hz)
 ·rcases List.mem_append.1 hz with hz | hz
  ·exact hx z hz
  ·exact h z (List.mem_of_mem_drop hz)
theorem yH(s:ByteArray)(k:Nat)(h:k<s.size):s[k]=s.data.toList[k]' vM:=by simp;rfl
end Go.Proofs.YtlkbkclnbppigaaGreatDoor
