/- What 'Canonical' and 'read' return. -/
import Derived.Test.YtlkbkclnbppigaaGreatDoorIZ9
import Derived.Test.YtlkbkclnbppigaaGreatDoorIZ10
import Derived.Test.YtlkbkclnbppigaaGreatDoorIZ11
set_option maxHeartbeats 4000000
namespace Go.Proofs.YtlkbkclnbppigaaGreatDoor
open Tryz
open Go.RowKit Go.Sort
set_option linter.unusedVariables false
set_option linter.unusedSimpArgs false
set_option maxRecDepth 100000
def uY(s:aC):Value:=if (dB s).2=0 then iR (dB s).1.cust (dB s).1.path (dB s).1.query else .tuple #[.string ⟨#[]⟩,.int .i64 (dB s).2]
theorem RI(s:aC)(w:World)(hs:s.size<=4294967281)(hE:Env w):Calls prog 146 #[.string s] w (Ret w (uY s)):=by
 have cP:=FP s w hs hE;have he:=zn s;have hbd:=FQ s;unfold uY;generalize dB s=r at *;obtain⟨⟨c,ps,qs⟩,er⟩:=r;dsimp only at he hbd ⊢;have HP:=aA cP;have HB:=aA hbd;clear cP hbd;rcases he with rfl | rfl | rfl
 ·simp only[if_true];generalize hv:iR c ps qs=V;have cT:∀ A ca B cb W,aI W 1 A ps.length (ps.map .string)->aI W 2 B qs.length (eY qs)->Calls prog 204 #[.agg #[.string c,.slice A ps.length ca,.slice B qs.length cb]] W (Ret W V):=fun A ca B cb W h1 h2=>by
   rw[<-hv];exact RJ c A B ps.length ca qs.length cb ps qs W h1 h2 (by have:=HB.out;omega)
  have HT:=aA cT;obtain⟨x,y,hxy⟩:∃ x y,V=.tuple #[.string x,.int .i64 y]:=by
   rw[<-hv];unfold iR;split <;> exact⟨_,_,rfl⟩
  clear cT hv;subst hxy;go_enter func146,ntmps146;go_wp2_with (first | (go_at_call 203;refine HP.out.mono ?_;rintro e w1 ⟨hb1,A,ca,B,cb,rfl,hA,hB,_,_⟩) | (go_at_call 204;refine (HT.out _ _ _ _ _ ?_ ?_).mono ?_;exact hA.keep aJ;exact hB.keep aJ;rintro e w2 ⟨rfl,hb2⟩));go_ret2;exact⟨rfl,aJ⟩
 all_goals
  rw[if_neg aK];go_enter func146,ntmps146;go_wp2_with (go_at_call 203;refine HP.out.mono ?_;rintro e w1 ⟨hb1,A,ca,B,cb,rfl,hA,hB,_,_⟩);go_ret2;exact⟨rfl,aJ⟩
def qJ(s:aC):Bool:=decide ((dB s).2=0)&&(ByteArray.toList ⟨(W06 (dB s).1.cust (dB s).1.path (dB s).1.query).toArray⟩ == s.toList)
def uZ(a:Adr)(ok:Bool)(w:World)(e:Ending)(w':World):Prop :=
 aF w w'/\∃ A ca B cb,e=.returned (.tuple #[.agg #[.string a.cust,.slice A a.path.length ca,.slice B a.query.length cb],.bool ok])/\aI w' 1 A a.path.length (a.path.map .string)/\aI w' 2 B a.query.length (eY a.query)
theorem uZ.mk_{c:aC}{ps:List aC}{qs:List (aC × aC)}{ok:Bool}{w w':World}{A B:Option Addr}{ca cb:Nat}(hb:aF w w')(hA:aI w' 1 A ps.length (ps.map .string))(hB:aI w' 2 B qs.length (eY qs)) :
  uZ ⟨c,ps,qs⟩ ok w (.returned (.tuple #[.agg #[.string c,.slice A ps.length ca,.slice B qs.length cb],.bool ok])) w':=⟨hb,A,ca,B,cb,rfl,hA,hB⟩
theorem RN(s:aC)(w:World)(hs:s.size<=4294967281)(hE:Env w):Calls prog 148 #[.string s] w (uZ (dB s).1 (qJ s) w):=by
 have cP:=fun W h=>FP s W hs h
 have he:=zn s;have hbd:=FQ s;unfold qJ;generalize dB s=r at *;obtain⟨⟨c,ps,qs⟩,er⟩:=r;dsimp only at he hbd ⊢;have HP:=aA cP;have HB:=aA hbd;clear cP hbd;generalize hT:(ByteArray.mk (W06 c ps qs).toArray)=T;have cW:∀ A ca B cb W,aI W 1 A ps.length (ps.map .string)->aI W 2 B qs.length (eY qs)->Calls prog 207 #[.agg #[.string c,.slice A ps.length ca,.slice B qs.length cb]] W (Ret W (.string T)):=fun A ca B cb W h1 h2=>by
  rw[<-hT];exact FU c A B ps.length ca qs.length cb ps qs W h1 h2 (by have:=HB.out;omega)
 have HW:=aA cW;clear cW hT;rcases he with rfl | he
 ·simp only[decide_true,Bool.true_and];generalize hq:(T.toList==s.toList)=q;have HQ:=aA hq;clear hq;go_enter func148,ntmps148;go_wp2_with (go_at_call 203;refine (HP.out _ (hE.keep (aU (Below.refl _ _) _))).mono ?_;rintro e w1 ⟨hb1,A,ca,B,cb,rfl,hA,hB,hA1,hB1,_⟩;obtain⟨hc1,hf1⟩:=bT hb1;have hz1_0:w.heap.size<w1.heap.size:=iQ);have f1:(w1.alloc (.cells #[.string c,.slice A ps.length ca,.slice B qs.length cb] 200)).cell? ⟨w1.heap.size,0,none⟩=some (.string c):=iD;have f2:(w1.alloc (.cells #[.string c,.slice A ps.length ca,.slice B qs.length cb] 200)).cell? ⟨w1.heap.size,1,none⟩=some (.slice A ps.length ca):=iD;have f3:(w1.alloc (.cells #[.string c,.slice A ps.length ca,.slice B qs.length cb] 200)).cell? ⟨w1.heap.size,2,none⟩=some (.slice B qs.length cb):=iD;have f4:(w1.alloc (.cells #[.string c,.slice A ps.length ca,.slice B qs.length cb] 200)).cell? ⟨w.heap.size,0,none⟩=some (.string ⟨#[]⟩):=kN;have f5:(w1.alloc (.cells #[.string c,.slice A ps.length ca,.slice B qs.length cb] 200)).cell? ⟨w.heap.size,1,none⟩=some (.slice none 0 0):=kN;have f6:(w1.alloc (.cells #[.string c,.slice A ps.length ca,.slice B qs.length cb] 200)).cell? ⟨w.heap.size,2,none⟩=some (.slice none 0 0):=kN;have f7:(w1.alloc (.cells #[.string c,.slice A ps.length ca,.slice B qs.length cb] 200)).frozen? ⟨w.heap.size,0,none⟩=false:=kN;have f8:(w1.alloc (.cells #[.string c,.slice A ps.length ca,.slice B qs.length cb] 200)).frozen? ⟨w.heap.size,1,none⟩=false:=kN;have f9:(w1.alloc (.cells #[.string c,.slice A ps.length ca,.slice B qs.length cb] 200)).frozen? ⟨w.heap.size,2,none⟩=false:=kN;have hA2:∀ a,A=some a->a.block≠w.heap.size:=fun a ha=>by have:=hA1 a ha;simp at this;omega
  have hB2:∀ a,B=some a->a.block≠w.heap.size:=fun a ha=>by have:=hB1 a ha;simp at this;omega
  have hA3:=hA.keep (aU (Below.refl _ w1) (.cells #[.string c,.slice A ps.length ca,.slice B qs.length cb] 200));have hB3:=hB.keep (aU (Below.refl _ w1) (.cells #[.string c,.slice A ps.length ca,.slice B qs.length cb] 200));have hb3:=aU (dZ _ hb1) (.cells #[.string c,.slice A ps.length ca,.slice B qs.length cb] 200);have hne:w1.heap.size≠w.heap.size:=aB;clear hc1 hf1 hA hB hA1 hB1;generalize hW0:w1.alloc (.cells #[.string c,.slice A ps.length ca,.slice B qs.length cb] 200)=W0 at *;clear hW0;go_region_held3 (fun w'=>w'.cell? ⟨w1.heap.size,0,none⟩=some (.string c)/\w'.cell? ⟨w1.heap.size,1,none⟩=some (.slice A ps.length ca)/\w'.cell? ⟨w1.heap.size,2,none⟩=some (.slice B qs.length cb)/\w'.cell? ⟨w.heap.size,0,none⟩=some (rd w' ⟨w.heap.size,0,none⟩)/\w'.cell? ⟨w.heap.size,1,none⟩=some (rd w' ⟨w.heap.size,1,none⟩)/\w'.cell? ⟨w.heap.size,2,none⟩=some (rd w' ⟨w.heap.size,2,none⟩)/\w'.frozen? ⟨w.heap.size,0,none⟩=false/\w'.frozen? ⟨w.heap.size,1,none⟩=false/\w'.frozen? ⟨w.heap.size,2,none⟩=false/\aI w' 1 A ps.length (ps.map .string)/\aI w' 2 B qs.length (eY qs)/\aF w w')
   (first | exact⟨f1,f2,f3,qE f4,qE f5,qE f6,f7,f8,f9,hA3,hB3,Below.drew hb3⟩ | (go_split_ands;exact⟨aW hb2 ‹_›,aW hb2 ‹_›,aW hb2 ‹_›,uM hb2 ‹_›,uM hb2 ‹_›,uM hb2 ‹_›,dV hb2 (bu ‹_›) ‹_›,dV hb2 (bu ‹_›) ‹_›,dV hb2 (bu ‹_›) ‹_›,aI.keep ‹_› hb2,aI.keep ‹_› hb2,aV ‹_› hb2⟩) | (go_split_ands;refine⟨?_,?_,?_,jm (jm (jm ‹_›)),jm (jm (jm ‹_›)),jm (jm (jm ‹_›)),?_,?_,?_,((aI.set_ ‹_› _ _ hA2).set_ _ _ hA2).set_ _ _ hA2,((aI.set_ ‹_› _ _ hB2).set_ _ _ hB2).set_ _ _ hB2,?_⟩ <;> first | (simp[go_sem, *];done) | (repeat (first | exact .refl _ _ | assumption | refine .drew ?_ | refine aU ?_ _ | refine oK ?_ _ | refine .setCell ?_ lw _ | refine aV ?_ dJ))))
   ((go_at_call 207;refine (HW.out _ _ _ _ _ jH jH).mono ?_;rintro e w2 ⟨rfl,hb2⟩))
  go_wp2;exact bodyPost_ret (v:=.tuple #[.agg #[.string c,.slice A ps.length ca,.slice B qs.length cb],.bool q]) (by have g4:=aW (w:=W0.drew) hb2 f4;have g5:=aW (w:=W0.drew) hb2 f5;have g6:=aW (w:=W0.drew) hb2 f6;simp[results,results148,go_sem,g4,g5,g6,HQ.out]) rfl (uZ.mk_ jH jH jH)
 rcases he with rfl | rfl
 all_goals
  rw[show (decide ((_:Int)=0))=false from rfl,Bool.false_and];go_enter func148,ntmps148;go_wp2_with (go_at_call 203;refine (HP.out _ (hE.keep (aU (Below.refl _ _) _))).mono ?_;rintro e w1 ⟨hb1,A,ca,B,cb,rfl,hA,hB,hA1,hB1,_⟩;obtain⟨hc1,hf1⟩:=bT hb1;have hz1_0:w.heap.size<w1.heap.size:=iQ);have f1:(w1.alloc (.cells #[.string c,.slice A ps.length ca,.slice B qs.length cb] 200)).cell? ⟨w1.heap.size,0,none⟩=some (.string c):=iD;have f2:(w1.alloc (.cells #[.string c,.slice A ps.length ca,.slice B qs.length cb] 200)).cell? ⟨w1.heap.size,1,none⟩=some (.slice A ps.length ca):=iD;have f3:(w1.alloc (.cells #[.string c,.slice A ps.length ca,.slice B qs.length cb] 200)).cell? ⟨w1.heap.size,2,none⟩=some (.slice B qs.length cb):=iD;have f4:(w1.alloc (.cells #[.string c,.slice A ps.length ca,.slice B qs.length cb] 200)).cell? ⟨w.heap.size,0,none⟩=some (.string ⟨#[]⟩):=kN;have f5:(w1.alloc (.cells #[.string c,.slice A ps.length ca,.slice B qs.length cb] 200)).cell? ⟨w.heap.size,1,none⟩=some (.slice none 0 0):=kN;have f6:(w1.alloc (.cells #[.string c,.slice A ps.length ca,.slice B qs.length cb] 200)).cell? ⟨w.heap.size,2,none⟩=some (.slice none 0 0):=kN;have f7:(w1.alloc (.cells #[.string c,.slice A ps.length ca,.slice B qs.length cb] 200)).frozen? ⟨w.heap.size,0,none⟩=false:=kN;have f8:(w1.alloc (.cells #[.string c,.slice A ps.length ca,.slice B qs.length cb] 200)).frozen? ⟨w.heap.size,1,none⟩=false:=kN;have f9:(w1.alloc (.cells #[.string c,.slice A ps.length ca,.slice B qs.length cb] 200)).frozen? ⟨w.heap.size,2,none⟩=false:=kN;have hA2:∀ a,A=some a->a.block≠w.heap.size:=fun a ha=>by have:=hA1 a ha;simp at this;omega
  have hB2:∀ a,B=some a->a.block≠w.heap.size:=fun a ha=>by have:=hB1 a ha;simp at this;omega
  have hA3:=hA.keep (aU (Below.refl _ w1) (.cells #[.string c,.slice A ps.length ca,.slice B qs.length cb] 200));have hB3:=hB.keep (aU (Below.refl _ w1) (.cells #[.string c,.slice A ps.length ca,.slice B qs.length cb] 200));have hb3:=aU (dZ _ hb1) (.cells #[.string c,.slice A ps.length ca,.slice B qs.length cb] 200);have hne:w1.heap.size≠w.heap.size:=aB;clear hc1 hf1 hA hB hA1 hB1;generalize hW0:w1.alloc (.cells #[.string c,.slice A ps.length ca,.slice B qs.length cb] 200)=W0 at *;clear hW0;go_big_region;go_wp2;exact bodyPost_ret (v:=.tuple #[.agg #[.string c,.slice A ps.length ca,.slice B qs.length cb],.bool false]) (by simp[results,results148,go_sem,f4,f5,f6]) rfl (uZ.mk_ aJ (((hA3.set_ _ _ hA2).set_ _ _ hA2).set_ _ _ hA2) (((hB3.set_ _ _ hB2).set_ _ _ hB2).set_ _ _ hB2))
theorem xM(c:UInt8):∀(k:Nat)(s:aC),Lib.countB s ⟨#[c]⟩=k->Lib.splitB ⟨#[c]⟩ 0 k s=splitB c s
 | k,s,h=>by
  have hidx:Lib.indexB s ⟨#[c]⟩=Lib.indexByte s.data.toList c:=Lib.index_one s.data.toList c;by_cases hm:Lib.indexB s ⟨#[c]⟩ = -1
  ·rw[Lib.splitB_miss _ _ _ _ hm,splitB_miss c s aB]
  ·have hge:=Lib.index_ge s.data.toList [c];obtain⟨i,hi⟩:∃ i:Nat,Lib.indexB s ⟨#[c]⟩=i:=by
    have:Lib.indexB s ⟨#[c]⟩=Lib.index s.data.toList [c]:=rfl;exact⟨(Lib.indexB s ⟨#[c]⟩).toNat,aB⟩
   have hcount:=Lib.countB_hit s ⟨#[c]⟩ i (Nat.le_refl _) hi;cases k with
   | zero=>omega
   | succ k =>
    rw[Lib.splitB_hit _ _ _ _ i hi,(splitB_hit c s i (by rw[<-hidx];exact hi)).1];rw[show i+0=i from rfl];congr 1;exact xM c k _ aB
theorem FV(c:UInt8)(s:aC):Lib.countB s ⟨#[c]⟩ + 1=(splitB c s).length:=by
 rw[<-xM c _ s rfl];exact (Lib.splitB_all ⟨#[c]⟩ (Nat.le_refl _) 0 _ s rfl).symm
theorem RP(w:World)(t:TypeId)(vs:List Value)(n:Nat)(hn:vs.length=n):aI (w.alloc (.cells vs.toArray t)) 1 (some ⟨w.heap.size,0,none⟩) n vs :=
 ⟨aB,fun _=>⟨_,_,rfl,fun j u hu=>by
  have:=World.news_of_block (w:=w.alloc (.cells vs.toArray t)) (World.alloc_heap_new w (.cells vs.toArray t)) j u (by simpa using hu)
  have hadd:(⟨w.heap.size,0,none⟩:Addr).add j=⟨w.heap.size,0+j,none⟩:=nH
  rw[hadd]at this;exact this⟩⟩
def RQ(ps:List aC)(w:World)(e:Ending)(w':World):Prop:=aF w w'/\∃ A c,e=.returned (.slice A ps.length c)/\aI w' 1 A ps.length (ps.map .string)/\(∀ a,A=some a->w.heap.size<=a.block)/\ps.length<=c
theorem RU(s:aC)(c:UInt8)(w:World)(hs:s.size<=4294967200)(hE:Env w):Calls prog 75 #[.string s,.string ⟨#[c]⟩] w (RQ (splitB c s) w):=by
 obtain⟨m,hm⟩:=hE;refine (strings_Split s ⟨#[c]⟩ m w aB hm (Nat.le_refl _)).mono ?_;rintro e w' ⟨rfl,rfl⟩;rw[FV,xM c _ s rfl];exact⟨aU (Below.refl _ _) _,_,_,rfl,RP _ _ _ _ aH,fun a ha=>by injection ha with ha;subst ha;exact Nat.le_refl _,Nat.le_refl _⟩
def FY(r:List aC × Int)(w:World)(e:Ending)(w':World):Prop:=aF w w'/\∃ A c,e=.returned (.tuple #[.slice A r.1.length c,.int .i64 r.2])/\aI w' 1 A r.1.length (r.1.map .string)
theorem FY.none_{w w':World}{er:Int}(hb:aF w w'):FY ([],er) w (.returned (.tuple #[.slice none 0 0,.int .i64 er])) w':=⟨hb,none,0,rfl,aI.nil_ _ _ _⟩
theorem RV(a b:List UInt8)(c:UInt8)(h:c ∉ a):Lib.index (a++c :: b) [c]=a.length:=by
 rw[Lib.index_one];induction a with
 | nil=>simp[qK]
 | cons x a ih =>
  simp only[List.mem_cons,not_or]at h;rw[List.cons_append,qK,if_neg (fun e=>h.1 e.symm),ih h.2,if_neg aB];simp
theorem xN(a:List UInt8)(c:UInt8)(h:c ∉ a):Lib.indexByte a c = -1:=by
 induction a with
 | nil=>rfl
 | cons x a ih =>
  simp only[List.mem_cons,not_or]at h;rw[qK,if_neg (fun e=>h.1 e.symm),ih h.2,if_pos rfl]
theorem RX(a:List UInt8)(c:UInt8)(h:c ∉ a):Lib.index a [c] = -1:=by
 rw[Lib.index_one];exact xN a c h
theorem RY(a:List UInt8)(c:UInt8)(h:Lib.indexByte a c<0):c ∉ a:=by
 induction a with
 | nil=>simp
 | cons x a ih =>
  have:=xO c a;rw[qK]at h;split at h
  ·omega
  ·rename_i hne;split at h
   ·rename_i he;simp only[List.mem_cons,not_or];exact⟨fun e=>hne e.symm,ih aB⟩
   ·omega
theorem RZ(a b:List UInt8)(c:UInt8)(h:c ∉ a):Lib.cut (a++c :: b) [c]=(a,b,true):=by
 unfold Lib.cut;rw[RV a b c h,if_pos aB];simp
theorem Rf(a:List UInt8)(c:UInt8)(h:c ∉ a):Lib.cut a [c]=(a,[],false):=by
 unfold Lib.cut;rw[RX a c h,if_neg aB]
theorem FZ(a b:List UInt8)(c:UInt8)(h:c ∉ a):dO c (a++c :: b)=a :: dO c b:=by
 induction a with
 | nil=>simp[dO]
 | cons x a ih =>
  simp only[List.mem_cons,not_or]at h;rw[List.cons_append,dO,if_neg (fun e=>h.1 e.symm),ih h.2]
theorem Fa(a:List UInt8)(c:UInt8)(h:c ∉ a):dO c a=[a]:=zq c a (by rw[xN a c h];omega)
theorem Fb:∀(x:List UInt8)(l:List (List UInt8)),47 ∉ x->(∀ y∈l,47 ∉ y)->dO 47 (x++dF l)=x :: l
 | x,[],h,_=>by simp[dF,Fa x 47 h]
 | x,y :: l,h,hl=>by
  have e:x++dF (y :: l)=x++47 :: (y++dF l):=by simp[dF]
  rw[e,FZ _ _ _ h,Fb y l (hl y aH) (fun z hz=>hl z (by simp[hz]))]
theorem rO(b:UInt8)(h:jW b=true):b≠47/\b≠63/\b≠38/\b≠61/\b≠42/\b≠44/\¬ (65<=b.toNat/\b.toNat<=90):=by
 unfold jW jX at h;simp only[decide_eq_true_eq]at h;have k:∀ c:Nat,c<256->b.toNat≠c->b≠UInt8.ofNat c:=fun c hc h e=>h (by rw[e,UInt8.toNat_ofNat'];omega)
 exact⟨k 47 aB aB,k 63 aB aB,k 38 aB aB,k 61 aB aB,k 42 aB aB,k 44 aB aB,aB⟩
theorem mD{s:aC}(h:bW s=true):∀ b∈s.data.toList,jW b=true:=by
 unfold bW at h;simp only[Bool.and_eq_true,List.all_eq_true]at h;exact h.2
theorem nI{s:aC}(h:bU s=true):bW s=true:=by
 unfold bU at h;simp only[Bool.and_eq_true]at h;exact h.1
theorem rP{s:aC}(h:bW s=true):47 ∉ s.data.toList/\63 ∉ s.data.toList/\38 ∉ s.data.toList/\61 ∉ s.data.toList/\42 ∉ s.data.toList/\44 ∉ s.data.toList :=
 ⟨fun hm=>(rO _ (mD h _ hm)).1 rfl,fun hm=>(rO _ (mD h _ hm)).2.1 rfl,fun hm=>(rO _ (mD h _ hm)).2.2.1 rfl,fun hm=>(rO _ (mD h _ hm)).2.2.2.1 rfl,fun hm=>(rO _ (mD h _ hm)).2.2.2.2.1 rfl,fun hm=>(rO _ (mD h _ hm)).2.2.2.2.2.1 rfl⟩
theorem xP{s:aC}(h:bW s=true):s.data.toList ≠ []/\s.data.toList ≠ [46]/\s.data.toList ≠ [46,46]/\s.size<=64:=by
 unfold bW at h;simp only[Bool.and_eq_true,Bool.not_eq_true',decide_eq_true_eq,Lib.toList_data]at h;obtain⟨⟨⟨⟨h1,h2⟩,h3⟩,h4⟩,_⟩:=h;exact⟨by intro e;simp[e]at h1,by intro e;simp[e]at h3,by intro e;simp[e]at h4,h2⟩
theorem Rh(a b:aC):(a.toList==b.toList)=true↔a=b:=by
 rw[Lib.toList_data,Lib.toList_data,beq_iff_eq];exact⟨fK,fun h=>by rw[h]⟩
theorem Ri(t w:aC):dW 0 t w=true↔t=w:=by
 unfold dW;rw[if_pos rfl];exact Rh t w
theorem Fe(t w:aC):dW 1 t w=true↔t.size<w.size/\t.data.toList <:+ w.data.toList:=by
 unfold dW;rw[if_neg aK,if_pos rfl];simp only[Bool.and_eq_true,decide_eq_true_eq,Lib.hasSuffix,List.isSuffixOf_iff_suffix]
theorem Ff(t w:aC):dW 2 t w=true:=by
 unfold dW;rw[if_neg aK,if_neg aK]
theorem Rj(k:Nat)(t t2:aC):fC k t 0 t2=dW k t t2:=by
 unfold fC;rw[if_pos rfl]
theorem Rk(k:Nat)(t t2:aC):fC k t 1 t2=true↔k=2\/(k=1/\t.data.toList <:+ t2.data.toList):=by
 unfold fC;rw[if_neg aK,if_pos rfl];simp only[Bool.or_eq_true,Bool.and_eq_true,beq_iff_eq,Lib.hasSuffix,List.isSuffixOf_iff_suffix]
theorem Rl(k:Nat)(t t2:aC):fC k t 2 t2=true↔k=2:=by
 unfold fC;rw[if_neg aK,if_neg aK,beq_iff_eq]
def gU(p:bI):Prop :=
 (p.kind=0/\bW p.text=true)\/(p.kind=1/\∃ s:aC,bW s=true/\s.size<=32/\p.text.data.toList=46 :: s.data.toList)\/(p.kind=2/\p.text=⟨#[]⟩)
def oP(p:bI):Prop:=(p.kind=0/\bU p.text=true)\/(p.kind=2/\p.text=⟨#[]⟩)
theorem oP.part{p:bI}(h:oP p):gU p:=by
 rcases h with ⟨h1,h2⟩ | h
 ·exact .inl ⟨h1,nI h2⟩
 ·exact .inr (.inr h)
theorem jY(s:aC):s.size=s.data.toList.length:=Lib.size_eq s
theorem Fg{p q:bI}(hq:gU q)(h:fC p.kind p.text q.kind q.text=true)(w:aC)(hw:dW q.kind q.text w=true):dW p.kind p.text w=true:=by
 obtain⟨k,t⟩:=p;obtain⟨k2,t2⟩:=q;dsimp only at *;rcases hq with ⟨hk,_⟩ | ⟨hk,_⟩ | ⟨hk,_⟩ <;> dsimp only at hk <;> subst hk
 ·rw[Rj]at h;rw[Ri]at hw;subst hw;exact h
 ·rw[Fe]at hw;rcases (Rk k t t2).1 h with rfl | ⟨rfl,hs⟩
  ·exact Ff _ _
  ·rw[Fe];have:=hs.length_le;rw[<-jY,<-jY]at this;exact⟨aB,hs.trans hw.2⟩
 ·rw[Rl]at h;subst h;exact Ff _ _
theorem Fh{p q:bI}(hp:gU p)(hq:gU q)(h:nJ p q=true)(w:aC) :
  dW (fD p q).kind (fD p q).text w=(dW p.kind p.text w&&dW q.kind q.text w):=by
 unfold nJ at h;unfold fD;cases hc:fC p.kind p.text q.kind q.text
 ·rw[hc,Bool.false_or]at h;simp only[Bool.false_eq_true,if_false];cases hw:dW p.kind p.text w
  ·rfl
  ·rw[Fg hp h w hw];rfl
 ·simp only[if_true];cases hw:dW q.kind q.text w
  ·rw[Bool.and_false]
  ·rw[Fg hq hc w hw];rfl
theorem Rn{p q:bI}(hp:gU p)(hq:gU q):gU (fD p q):=by
 unfold fD;split <;> assumption
theorem Ro{p q:bI}(hp:oP p)(hq:oP q):oP (fD p q):=by
 unfold fD;split <;> assumption
structure ae where
 A:Option Addr
 ca:Nat
 B:Option Addr
 cb:Nat
 S:Option Addr
 cs:Nat
structure dA(w:World)(c:aY)(m:ae):Prop where
 cl:aI w 1 m.A c.cl.length (c.cl.map .string)
 co:aI w 1 m.B c.co.length (c.co.map .string)
 si:aI w 1 m.S c.si.length (c.si.map (.int .i64))
theorem dA.keep{w w':World}{c:aY}{m:ae}(h:dA w c m)(hb:aF w w'):dA w' c m:=⟨h.cl.keep hb,h.co.keep hb,h.si.keep hb⟩
def ae.val(c:aY)(m:ae):Value:=.agg #[.int .i64 c.fr,.int .i64 c.till,.string c.pat,.slice m.A c.cl.length m.ca,.slice m.B c.co.length m.cb,.slice m.S c.si.length m.cs,.int .i64 c.us]
def aX(w:World)(g:Nat)(fr till:Int)(pat:aC)(A:Option Addr)(na ca:Nat)(B:Option Addr)(nb cb:Nat)(S:Option Addr)(ns cs:Nat)(us:Int):Prop:=Blk w g 27 #[.int .i64 fr,.int .i64 till,.string pat,.slice A na ca,.slice B nb cb,.slice S ns cs,.int .i64 us] (0,0)
section
variable {w:World} {g:Nat} {fr till us:Int} {pat:aC} {A B S:Option Addr} {na ca nb cb ns cs:Nat}
theorem aX.facts(h:aX w g fr till pat A na ca B nb cb S ns cs us) :
  w.cell? ⟨g,0,none⟩=some (.int .i64 fr)/\w.cell? ⟨g,1,none⟩=some (.int .i64 till)/\w.cell? ⟨g,2,none⟩=some (.string pat)/\w.cell? ⟨g,3,none⟩=some (.slice A na ca)/\w.cell? ⟨g,4,none⟩=some (.slice B nb cb)/\w.cell? ⟨g,5,none⟩=some (.slice S ns cs)/\w.cell? ⟨g,6,none⟩=some (.int .i64 us) :=
 ⟨Blk.cell h 0,Blk.cell h 1,Blk.cell h 2,Blk.cell h 3,Blk.cell h 4,Blk.cell h 5,Blk.cell h 6⟩
end
theorem xQ(g c:Nat)(a b:aC)(w:World)(h0:w.cell? ⟨g,0,none⟩=some (.string a))(h1:w.cell? ⟨g,1,none⟩=some (.string b)):Calls prog 108 #[.slice (some ⟨g,0,none⟩) 2 c] w (Ret w (.string (if a.size=0 then b else a))):=by
 have hE:∀ s:aC,s.size=0->s=⟨#[]⟩:=fun s h=>fK (List.eq_nil_of_length_eq_zero uf)
 have hN:∀ s:aC,s.size≠0->¬ s.toList=[]:=fun s h e=>h zu
 obtain⟨V,hV⟩:∃ V,V=if a.size=0 then b else a:=⟨_,rfl⟩
 rw[<-hV];have HV:=aA hV;have H0:=aA h0;have H1:=aA h1;clear h0 h1 hV;go_enter func108,ntmps108;go_wp2;go_loopw [8] (fun vi wr=>∃ k:Nat,vi=.int .i64 k/\k<=2/\Hid ((0<k->a.size=0)/\(1<k->b.size=0))/\aF w wr) (fun i _=>2-(intOf i).toNat)
 case atStart=>exact⟨0,rfl,aB,aA ⟨fun h=>aB,fun h=>aB⟩,Below.refl _ _⟩
 case round =>
  obtain⟨k,rfl,hk,HK,hbr⟩:=hrel;have c0:=aW hbr H0.out;have c1:=aW hbr H1.out;by_cases hlt:k<2
  ·rcases k with _ | _ | k
   ·by_cases hs:a.size=0
    ·have ha:=hE a hs;have HK2:Hid ((0<1->a.size=0)/\(1<1->b.size=0)):=aA ⟨fun _=>hs,fun h=>aB⟩;rw[ha]at c0;clear HK ha;go_wp2;exact⟨⟨1,bg,aB,HK2,hbr⟩,by simp[intOf];try omega⟩
    ·have hn:=hN a hs;have hn2:(a.toList == [])=false:=by simpa using hn
     obtain rfl:V=a:=by rw[HV.out,if_neg hs]
     clear HK;go_wp2;go_ret;exact⟨rfl,hbr⟩
   ·have hs:=HK.out.1 aB;obtain rfl:V=b:=by rw[HV.out,if_pos hs]
    by_cases hs2:V.size=0
    ·have hb:=hE V hs2;have HK2:Hid ((0<2->a.size=0)/\(1<2->V.size=0)):=aA ⟨fun _=>hs,fun _=>hs2⟩;rw[hb]at c1;clear HK hb;go_wp2;exact⟨⟨2,bg,aB,HK2,hbr⟩,by simp[intOf];try omega⟩
    ·have hn:=hN V hs2;have hn2:(V.toList == [])=false:=by simpa using hn
     clear HK;go_wp2;go_ret;exact⟨rfl,hbr⟩
   ·omega
  ·obtain rfl:k=2:=aB;have hs:=HK.out.1 aB;have hs2:=HK.out.2 aB;obtain rfl:V=⟨#[]⟩:=by rw[HV.out,if_pos hs,hE b hs2]
   go_wp2;go_ret;exact⟨rfl,hbr⟩
def nb(s:aC):List Nat:=s.data.toList.map (·.toNat)
theorem mF(s:aC):(nb s).length=s.size:=by
 unfold nb;rw[List.length_map,Array.length_toList];rfl
theorem Fj(s:aC):∀ x∈nb s,x<256:=by
 intro x hx;obtain⟨b,_,rfl⟩:=List.mem_map.1 hx;exact b.toNat_lt
theorem Fp(s:aC):jZ s=b8 (nb s):=by
 unfold jZ b8 nb;rw[List.map_map];rfl
def stL(s:Sha.St):List Nat:=[s.a,s.b,s.c,s.d,s.e,s.f,s.g,s.h]
def bP(s:Sha.St)(blk:List Nat)(n:Nat):List Value:=w32 (stL s)++(b8 blk++[.int .u64 (n:Int)])
theorem dU(l:List Nat):(b8 l).length=l.length:=by simp[b8]
theorem rQ(a b:List Nat):b8 (a++b)=b8 a++b8 b:=by simp[b8]
theorem zx(a:List Nat)(k:Nat):b8 (a.take k)=(b8 a).take k:=by simp[b8]
theorem Rq(a:List Nat)(k:Nat):b8 (a.drop k)=(b8 a).drop k:=by simp[b8]
theorem nC(L:List Nat):∀ v∈b8 L,v.oneCell'=true:=by
 intro v hv;obtain⟨_,_,rfl⟩:=List.mem_map.1 hv;rfl
section
variable {s:Sha.St} {blk:List Nat} {n:Nat}
theorem lG(s:Sha.St):(w32 (stL s)).length=8:=rfl
theorem oQ(h:blk.length=64):(bP s blk n).length=73:=by
 unfold bP;rw[List.length_append,List.length_append,lG,dU,h];rfl
theorem Rt(h:blk.length=64){j:Nat}(hj:j<64):(bP s blk n)[8+j]? = some (.int .u8 (blk.getD j 0:Nat)):=by
 unfold bP;rw[List.getElem?_append_right rU,lG,Nat.add_sub_cancel_left,List.getElem?_append_left ug];exact qL blk aB
theorem xR(h:blk.length=64):(bP s blk n)[72]? = some (.int .u64 (n:Int)):=by
 unfold bP;rw[List.getElem?_append_right rU,lG,List.getElem?_append_right ug,dU,h];rfl
theorem nK{j:Nat}{v:Value}(h:(w32 (stL s))[j]? = some v):(bP s blk n)[j]? = some v:=by
 unfold bP;rw[List.getElem?_append_left (List.getElem?_eq_some_iff.1 h).1];exact h
theorem Ru(h:blk.length=64){a:Nat}{x:List Nat}(hx:a+x.length<=64):splice (bP s blk n) (8+a) (b8 x)=bP s (Sha.put blk a x) n:=by
 unfold splice bP Sha.put;rw[List.take_append,List.take_of_length_le rU,lG,Nat.add_sub_cancel_left,List.take_append_of_le_length ug,dU,
  List.drop_append,List.drop_eq_nil_of_le rU,lG,show 8+a+x.length-8=a+x.length by omega,List.nil_append,List.drop_append_of_le_length ug]
 simp only[rQ,zx,Rq,List.append_assoc]
theorem Rw(s':Sha.St):splice (bP s blk n) 0 (w32 (stL s'))=bP s' blk n:=by
 unfold splice bP;rw[List.take_zero,List.nil_append,lG,List.drop_append,List.drop_eq_nil_of_le rU,lG];rfl
theorem Rx(h:blk.length=64)(n':Nat):(bP s blk n).set 72 (.int .u64 (n':Int))=bP s blk n':=by
 unfold bP;rw[List.set_append_right _ _ rU,lG,List.set_append_right _ _ ug,dU,h];rfl
theorem Ry:∀ v∈bP s blk n,v.oneCell'=true:=by
 intro v hv;unfold bP at hv;rcases List.mem_append.1 hv with hv | hv
 ·exact uV _ v hv
 ·rcases List.mem_append.1 hv with hv | hv
  ·exact nC _ v hv
  ·rw[List.mem_singleton.1 hv];rfl
end
def iF(m:List Nat)(v:Value):Prop:=∃ st blk,v=.agg (bP st blk m.length).toArray/\Sha.Str m st blk/\∀ x∈blk,x<256
theorem Rz{blk x:List Nat}{a:Nat}(h:∀ z∈blk,z<256)(hx:∀ z∈x,z<256):∀ z∈Sha.put blk a x,z<256:=by
 intro z hz;unfold Sha.put at hz;rcases List.mem_append.1 hz with hz | hz
 ·exact h z (List.mem_of_mem_take hz)
 ·rcases List.mem_append.1 hz with hz | hz
  ·exact hx z hz
  ·exact h z (List.mem_of_mem_drop hz)
theorem SE(s:aC)(k:Nat)(h:k<s.size):s[k]=s.data.toList[k]' uf:=by simp;rfl
end Go.Proofs.YtlkbkclnbppigaaGreatDoor
