/- What 'Canonical' and 'read' return. -/
import Derived.Test.YticlbkficolocaaGreatDoorIZ8
import Derived.Test.YticlbkficolocaaGreatDoorIZ9
import Derived.Test.YticlbkficolocaaGreatDoorIZ3
set_option maxHeartbeats 2000000
namespace Go.Proofs.YticlbkficolocaaGreatDoor
open Go.RowKit Go.Sort
set_option linter.unusedVariables false
set_option linter.unusedSimpArgs false
set_option maxRecDepth 100000
def canonV (s:ByteArray):Value:=if (QW s).2=0 then Vd (QW s).1.cust (QW s).1.path (QW s).1.query else .tuple #[.string ⟨#[]⟩,.int .i64 (QW s).2]
theorem canonical_any (s:ByteArray) (w:World) (hs:s.size≤4294967281) (hE:Env w):Calls Tryz.prog 160 #[.string s] w (Zx w (canonV s)):=by
 have cP:=parse_any s w hs hE
 have he:=parse_errno s
 have hbd:=parse_bound s
 unfold canonV
 generalize QW s=r at *
 obtain⟨⟨c,ps,qs⟩,er⟩:=r
 dsimp only at he hbd ⊢
 have HP:=Lib.hid cP
 have HB:=Lib.hid hbd
 clear cP hbd
 rcases he with rfl | rfl | rfl
 ·simp only[if_true]
  generalize hv:Vd c ps qs=V
  have cT:∀ A ca B cb W,Reads W 1 A ps.length (ps.map .string)→Reads W 2 B qs.length (Zp qs)→Calls Tryz.prog 187 #[.agg #[.string c,.slice A ps.length ca,.slice B qs.length cb]] W (Zx W V):=fun A ca B cb W h1 h2=>by
   rw[←hv]
   exact text_any c A B ps.length ca qs.length cb ps qs W h1 h2 (by have:=HB.out;omega)
  have HT:=Lib.hid cT
  obtain⟨x,y,hxy⟩:∃ x y,V=.tuple #[.string x,.int .i64 y]:=by
   rw[←hv];unfold Vd;split <;> exact⟨_,_,rfl⟩
  clear cT hv
  subst hxy
  go_enter Tryz.func160,Tryz.ntmps160
  go_wp2_with (first | (go_at_call 93;refine HP.out.mono ?_;rintro e w1 ⟨hb1,A,ca,B,cb,rfl,hA,hB,_,_⟩) | (go_at_call 187;refine (HT.out _ _ _ _ _ ?_ ?_).mono ?_;exact hA.keep Qz;exact hB.keep Qz;rintro e w2 ⟨rfl,hb2⟩))
  go_ret2
  exact⟨rfl,Qz⟩
 all_goals
  rw[if_neg (by decide)]
  go_enter Tryz.func160,Tryz.ntmps160
  go_wp2_with (go_at_call 93;refine HP.out.mono ?_;rintro e w1 ⟨hb1,A,ca,B,cb,rfl,hA,hB,_,_⟩)
  go_ret2
  exact⟨rfl,Qz⟩
def readB (s:ByteArray):Bool:=decide ((QW s).2=0)&&(ByteArray.toList ⟨(Us (QW s).1.cust (QW s).1.path (QW s).1.query).toArray⟩ == s.toList)
def ReadP (a:Adr) (ok:Bool) (w:World) (e:Ending) (w':World):Prop :=
 Below w.heap.size w w'∧∃ A ca B cb,e=.returned (.tuple #[.agg #[.string a.cust,.slice A a.path.length ca,.slice B a.query.length cb],.bool ok])∧Reads w' 1 A a.path.length (a.path.map .string)∧Reads w' 2 B a.query.length (Zp a.query)
theorem ReadP.mk_ {c:ByteArray} {ps:List ByteArray} {qs:List (ByteArray × ByteArray)} {ok:Bool} {w w':World} {A B:Option Addr} {ca cb:Nat} (hb:Below w.heap.size w w') (hA:Reads w' 1 A ps.length (ps.map .string)) (hB:Reads w' 2 B qs.length (Zp qs)) :
  ReadP ⟨c,ps,qs⟩ ok w (.returned (.tuple #[.agg #[.string c,.slice A ps.length ca,.slice B qs.length cb],.bool ok])) w':=⟨hb,A,ca,B,cb,rfl,hA,hB⟩
theorem read_any (s:ByteArray) (w:World) (hs:s.size≤4294967281) (hE:Env w):Calls Tryz.prog 46 #[.string s] w (ReadP (QW s).1 (readB s) w):=by
 have cP:=fun W h=>parse_any s W hs h
 have he:=parse_errno s
 have hbd:=parse_bound s
 unfold readB
 generalize QW s=r at *
 obtain⟨⟨c,ps,qs⟩,er⟩:=r
 dsimp only at he hbd ⊢
 have HP:=Lib.hid cP
 have HB:=Lib.hid hbd
 clear cP hbd
 generalize hT:(ByteArray.mk (Us c ps qs).toArray)=T
 have cW:∀ A ca B cb W,Reads W 1 A ps.length (ps.map .string)→Reads W 2 B qs.length (Zp qs)→Calls Tryz.prog 94 #[.agg #[.string c,.slice A ps.length ca,.slice B qs.length cb]] W (Zx W (.string T)):=fun A ca B cb W h1 h2=>by
  rw[←hT]
  exact write_any c A B ps.length ca qs.length cb ps qs W h1 h2 (by have:=HB.out;omega)
 have HW:=Lib.hid cW
 clear cW hT
 rcases he with rfl | he
 ·simp only[decide_true,Bool.true_and]
  generalize hq:(T.toList==s.toList)=q
  have HQ:=Lib.hid hq
  clear hq
  go_enter Tryz.func46,Tryz.ntmps46
  go_wp2_with (go_at_call 93;refine (HP.out _ (hE.keep (Qk (Below.refl _ _) _))).mono ?_;rintro e w1 ⟨hb1,A,ca,B,cb,rfl,hA,hB,hA1,hB1,_⟩;obtain⟨hc1,hf1⟩:=Qe hb1;have hz1_0:w.heap.size<w1.heap.size:=(by have:=hb1.size;(try simp at this);omega))
  have f1:(w1.alloc (.cells #[.string c,.slice A ps.length ca,.slice B qs.length cb] 109)).cell? ⟨w1.heap.size,0,none⟩=some (.string c):=by simp[go_sem]
  have f2:(w1.alloc (.cells #[.string c,.slice A ps.length ca,.slice B qs.length cb] 109)).cell? ⟨w1.heap.size,1,none⟩=some (.slice A ps.length ca):=by simp[go_sem]
  have f3:(w1.alloc (.cells #[.string c,.slice A ps.length ca,.slice B qs.length cb] 109)).cell? ⟨w1.heap.size,2,none⟩=some (.slice B qs.length cb):=by simp[go_sem]
  have f4:(w1.alloc (.cells #[.string c,.slice A ps.length ca,.slice B qs.length cb] 109)).cell? ⟨w.heap.size,0,none⟩=some (.string ⟨#[]⟩):=by simp[go_sem, *]
  have f5:(w1.alloc (.cells #[.string c,.slice A ps.length ca,.slice B qs.length cb] 109)).cell? ⟨w.heap.size,1,none⟩=some (.slice none 0 0):=by simp[go_sem, *]
  have f6:(w1.alloc (.cells #[.string c,.slice A ps.length ca,.slice B qs.length cb] 109)).cell? ⟨w.heap.size,2,none⟩=some (.slice none 0 0):=by simp[go_sem, *]
  have f7:(w1.alloc (.cells #[.string c,.slice A ps.length ca,.slice B qs.length cb] 109)).frozen? ⟨w.heap.size,0,none⟩=false:=by simp[go_sem, *]
  have f8:(w1.alloc (.cells #[.string c,.slice A ps.length ca,.slice B qs.length cb] 109)).frozen? ⟨w.heap.size,1,none⟩=false:=by simp[go_sem, *]
  have f9:(w1.alloc (.cells #[.string c,.slice A ps.length ca,.slice B qs.length cb] 109)).frozen? ⟨w.heap.size,2,none⟩=false:=by simp[go_sem, *]
  have hA2:∀ a,A=some a→a.block≠w.heap.size:=fun a ha=>by have:=hA1 a ha;simp at this;omega
  have hB2:∀ a,B=some a→a.block≠w.heap.size:=fun a ha=>by have:=hB1 a ha;simp at this;omega
  have hA3:=hA.keep (Qk (Below.refl _ w1) (.cells #[.string c,.slice A ps.length ca,.slice B qs.length cb] 109))
  have hB3:=hB.keep (Qk (Below.refl _ w1) (.cells #[.string c,.slice A ps.length ca,.slice B qs.length cb] 109))
  have hb3:=Qk (Za _ hb1) (.cells #[.string c,.slice A ps.length ca,.slice B qs.length cb] 109)
  have hne:w1.heap.size≠w.heap.size:=by omega
  clear hc1 hf1 hA hB hA1 hB1
  generalize hW0:w1.alloc (.cells #[.string c,.slice A ps.length ca,.slice B qs.length cb] 109)=W0 at *
  clear hW0
  go_region_held3 (fun w'=>w'.cell? ⟨w1.heap.size,0,none⟩=some (.string c)∧w'.cell? ⟨w1.heap.size,1,none⟩=some (.slice A ps.length ca)∧w'.cell? ⟨w1.heap.size,2,none⟩=some (.slice B qs.length cb)∧w'.cell? ⟨w.heap.size,0,none⟩=some (rd w' ⟨w.heap.size,0,none⟩)∧w'.cell? ⟨w.heap.size,1,none⟩=some (rd w' ⟨w.heap.size,1,none⟩)∧w'.cell? ⟨w.heap.size,2,none⟩=some (rd w' ⟨w.heap.size,2,none⟩)∧w'.frozen? ⟨w.heap.size,0,none⟩=false∧w'.frozen? ⟨w.heap.size,1,none⟩=false∧w'.frozen? ⟨w.heap.size,2,none⟩=false∧Reads w' 1 A ps.length (ps.map .string)∧Reads w' 2 B qs.length (Zp qs)∧Below w.heap.size w w')
   (first | exact⟨f1,f2,f3,rd_of f4,rd_of f5,rd_of f6,f7,f8,f9,hA3,hB3,Below.drew hb3⟩ | (go_split_ands;exact⟨Qq hb2 ‹_›,Qq hb2 ‹_›,Qq hb2 ‹_›,rd_keep hb2 ‹_›,rd_keep hb2 ‹_›,rd_keep hb2 ‹_›,Q9 hb2 (cell_lt ‹_›) ‹_›,Q9 hb2 (cell_lt ‹_›) ‹_›,Q9 hb2 (cell_lt ‹_›) ‹_›,Reads.keep ‹_› hb2,Reads.keep ‹_› hb2,Qj ‹_› hb2⟩) | (go_split_ands;refine⟨?_,?_,?_,Ua (Ua (Ua ‹_›)),Ua (Ua (Ua ‹_›)),Ua (Ua (Ua ‹_›)),?_,?_,?_,((Reads.set_ ‹_› _ _ hA2).set_ _ _ hA2).set_ _ _ hA2,((Reads.set_ ‹_› _ _ hB2).set_ _ _ hB2).set_ _ _ hB2,?_⟩ <;> first | (simp[go_sem, *];done) | (repeat (first | exact .refl _ _ | assumption | refine .drew ?_ | refine Qk ?_ _ | refine bdrewN ?_ _ | refine .setCell ?_ (by simp <;> omega) _ | refine Qj ?_ (by assumption)))))
   ((go_at_call 94;refine (HW.out _ _ _ _ _ (by go_split_ands;assumption) (by go_split_ands;assumption)).mono ?_;rintro e w2 ⟨rfl,hb2⟩))
  go_wp2
  exact bodyPost_ret (v:=.tuple #[.agg #[.string c,.slice A ps.length ca,.slice B qs.length cb],.bool q]) (by have g4:=Qq (w:=W0.drew) hb2 f4;have g5:=Qq (w:=W0.drew) hb2 f5;have g6:=Qq (w:=W0.drew) hb2 f6;simp[results,Tryz.results46,go_sem,g4,g5,g6,HQ.out]) rfl (ReadP.mk_ (by go_split_ands;assumption) (by go_split_ands;assumption) (by go_split_ands;assumption))
 rcases he with rfl | rfl
 all_goals
  rw[show (decide ((_:Int)=0))=false from rfl,Bool.false_and]
  go_enter Tryz.func46,Tryz.ntmps46
  go_wp2_with (go_at_call 93;refine (HP.out _ (hE.keep (Qk (Below.refl _ _) _))).mono ?_;rintro e w1 ⟨hb1,A,ca,B,cb,rfl,hA,hB,hA1,hB1,_⟩;obtain⟨hc1,hf1⟩:=Qe hb1;have hz1_0:w.heap.size<w1.heap.size:=(by have:=hb1.size;(try simp at this);omega))
  have f1:(w1.alloc (.cells #[.string c,.slice A ps.length ca,.slice B qs.length cb] 109)).cell? ⟨w1.heap.size,0,none⟩=some (.string c):=by simp[go_sem]
  have f2:(w1.alloc (.cells #[.string c,.slice A ps.length ca,.slice B qs.length cb] 109)).cell? ⟨w1.heap.size,1,none⟩=some (.slice A ps.length ca):=by simp[go_sem]
  have f3:(w1.alloc (.cells #[.string c,.slice A ps.length ca,.slice B qs.length cb] 109)).cell? ⟨w1.heap.size,2,none⟩=some (.slice B qs.length cb):=by simp[go_sem]
  have f4:(w1.alloc (.cells #[.string c,.slice A ps.length ca,.slice B qs.length cb] 109)).cell? ⟨w.heap.size,0,none⟩=some (.string ⟨#[]⟩):=by simp[go_sem, *]
  have f5:(w1.alloc (.cells #[.string c,.slice A ps.length ca,.slice B qs.length cb] 109)).cell? ⟨w.heap.size,1,none⟩=some (.slice none 0 0):=by simp[go_sem, *]
  have f6:(w1.alloc (.cells #[.string c,.slice A ps.length ca,.slice B qs.length cb] 109)).cell? ⟨w.heap.size,2,none⟩=some (.slice none 0 0):=by simp[go_sem, *]
  have f7:(w1.alloc (.cells #[.string c,.slice A ps.length ca,.slice B qs.length cb] 109)).frozen? ⟨w.heap.size,0,none⟩=false:=by simp[go_sem, *]
  have f8:(w1.alloc (.cells #[.string c,.slice A ps.length ca,.slice B qs.length cb] 109)).frozen? ⟨w.heap.size,1,none⟩=false:=by simp[go_sem, *]
  have f9:(w1.alloc (.cells #[.string c,.slice A ps.length ca,.slice B qs.length cb] 109)).frozen? ⟨w.heap.size,2,none⟩=false:=by simp[go_sem, *]
  have hA2:∀ a,A=some a→a.block≠w.heap.size:=fun a ha=>by have:=hA1 a ha;simp at this;omega
  have hB2:∀ a,B=some a→a.block≠w.heap.size:=fun a ha=>by have:=hB1 a ha;simp at this;omega
  have hA3:=hA.keep (Qk (Below.refl _ w1) (.cells #[.string c,.slice A ps.length ca,.slice B qs.length cb] 109))
  have hB3:=hB.keep (Qk (Below.refl _ w1) (.cells #[.string c,.slice A ps.length ca,.slice B qs.length cb] 109))
  have hb3:=Qk (Za _ hb1) (.cells #[.string c,.slice A ps.length ca,.slice B qs.length cb] 109)
  have hne:w1.heap.size≠w.heap.size:=by omega
  clear hc1 hf1 hA hB hA1 hB1
  generalize hW0:w1.alloc (.cells #[.string c,.slice A ps.length ca,.slice B qs.length cb] 109)=W0 at *
  clear hW0
  go_big_region
  go_wp2
  exact bodyPost_ret (v:=.tuple #[.agg #[.string c,.slice A ps.length ca,.slice B qs.length cb],.bool false]) (by simp[results,Tryz.results46,go_sem,f4,f5,f6]) rfl (ReadP.mk_ Qz (((hA3.set_ _ _ hA2).set_ _ _ hA2).set_ _ _ hA2) (((hB3.set_ _ _ hB2).set_ _ _ hB2).set_ _ _ hB2))
theorem split_eq (c:UInt8):∀ (k:Nat) (s:ByteArray),Lib.countB s ⟨#[c]⟩=k→Lib.splitB ⟨#[c]⟩ 0 k s=splitB c s
 | k,s,h=>by
  have hidx:Lib.indexB s ⟨#[c]⟩=Lib.indexByte s.data.toList c:=Lib.index_one s.data.toList c
  by_cases hm:Lib.indexB s ⟨#[c]⟩ = -1
  ·rw[Lib.splitB_miss _ _ _ _ hm,splitB_miss c s (by omega)]
  ·have hge:=Lib.index_ge s.data.toList [c]
   obtain⟨i,hi⟩:∃ i:Nat,Lib.indexB s ⟨#[c]⟩=i:=by
    have:Lib.indexB s ⟨#[c]⟩=Lib.index s.data.toList [c]:=rfl
    exact⟨(Lib.indexB s ⟨#[c]⟩).toNat,by omega⟩
   have hcount:=Lib.countB_hit s ⟨#[c]⟩ i (Nat.le_refl _) hi
   cases k with
   | zero=>omega
   | succ k =>
    rw[Lib.splitB_hit _ _ _ _ i hi,(splitB_hit c s i (by rw[←hidx];exact hi)).1]
    rw[show i+0=i from rfl]
    congr 1
    exact split_eq c k _ (by omega)
theorem count_split (c:UInt8) (s:ByteArray):Lib.countB s ⟨#[c]⟩ + 1=(splitB c s).length:=by
 rw[←split_eq c _ s rfl]
 exact (Lib.splitB_all ⟨#[c]⟩ (Nat.le_refl _) 0 _ s rfl).symm
theorem reads_new (w:World) (t:TypeId) (vs:List Value) (n:Nat) (hn:vs.length=n):Reads (w.alloc (.cells vs.toArray t)) 1 (some ⟨w.heap.size,0,none⟩) n vs :=
 ⟨by omega,fun _=>⟨_,_,rfl,fun j u hu=>by
  have:=World.news_of_block (w:=w.alloc (.cells vs.toArray t)) (World.alloc_heap_new w (.cells vs.toArray t)) j u (by simpa using hu)
  have hadd:(⟨w.heap.size,0,none⟩:Addr).add j=⟨w.heap.size,0+j,none⟩:=by unfold Addr.add;split <;> simp_all
  rw[hadd]at this;exact this⟩⟩
def ListPost (ps:List ByteArray) (w:World) (e:Ending) (w':World):Prop:=Below w.heap.size w w'∧∃ A c,e=.returned (.slice A ps.length c)∧Reads w' 1 A ps.length (ps.map .string)∧(∀ a,A=some a→w.heap.size≤a.block)∧ps.length≤c
theorem split_any (s:ByteArray) (c:UInt8) (w:World) (hs:s.size≤4294967200) (hE:Env w):Calls Tryz.prog 88 #[.string s,.string ⟨#[c]⟩] w (ListPost (splitB c s) w):=by
 obtain⟨m,hm⟩:=hE
 refine (Tryz.strings_Split s ⟨#[c]⟩ m w (by omega) hm (Nat.le_refl _)).mono ?_
 rintro e w' ⟨rfl,rfl⟩
 rw[count_split,split_eq c _ s rfl]
 exact⟨Qk (Below.refl _ _) _,_,_,rfl,reads_new _ _ _ _ (by simp),fun a ha=>by injection ha with ha;subst ha;exact Nat.le_refl _,Nat.le_refl _⟩
def splitR (s:ByteArray):List ByteArray × Int :=
 if s.toList.isEmpty then ([],0) else if (Ze (splitB 44 s)).2=0∧((Ze (splitB 44 s)).1.toList==s.toList)=true then (splitB 44 s,0) else ([],3)
def SplitPost (r:List ByteArray × Int) (w:World) (e:Ending) (w':World):Prop:=Below w.heap.size w w'∧∃ A c,e=.returned (.tuple #[.slice A r.1.length c,.int .i64 r.2])∧Reads w' 1 A r.1.length (r.1.map .string)
theorem SplitPost.none_ {w w':World} {er:Int} (hb:Below w.heap.size w w'):SplitPost ([],er) w (.returned (.tuple #[.slice none 0 0,.int .i64 er])) w':=⟨hb,none,0,rfl,Reads.nil_ _ _ _⟩
def YQ (s tag:ByteArray):Bool:=Lib.containsS (splitR s).1 tag
theorem index_hit (a b:List UInt8) (c:UInt8) (h:c ∉ a):Lib.index (a++c :: b) [c]=a.length:=by
 rw[Lib.index_one]
 induction a with
 | nil=>simp[Xc]
 | cons x a ih =>
  simp only[List.mem_cons,not_or]at h
  rw[List.cons_append,Xc,if_neg (fun e=>h.1 e.symm),ih h.2,if_neg (by omega)]
  simp
theorem Jo (a:List UInt8) (c:UInt8) (h:c ∉ a):Lib.indexByte a c = -1:=by
 induction a with
 | nil=>rfl
 | cons x a ih =>
  simp only[List.mem_cons,not_or]at h
  rw[Xc,if_neg (fun e=>h.1 e.symm),ih h.2,if_pos rfl]
theorem index_miss (a:List UInt8) (c:UInt8) (h:c ∉ a):Lib.index a [c] = -1:=by
 rw[Lib.index_one];exact Jo a c h
theorem indexByte_mem (a:List UInt8) (c:UInt8) (h:Lib.indexByte a c<0):c ∉ a:=by
 induction a with
 | nil=>simp
 | cons x a ih =>
  have:=indexByte_ge c a
  rw[Xc]at h
  split at h
  ·omega
  ·rename_i hne
   split at h
   ·rename_i he
    simp only[List.mem_cons,not_or]
    exact⟨fun e=>hne e.symm,ih (by omega)⟩
   ·omega
theorem cut_hit (a b:List UInt8) (c:UInt8) (h:c ∉ a):Lib.cut (a++c :: b) [c]=(a,b,true):=by
 unfold Lib.cut
 rw[index_hit a b c h,if_pos (by omega)]
 simp
theorem cut_none (a:List UInt8) (c:UInt8) (h:c ∉ a):Lib.cut a [c]=(a,[],false):=by
 unfold Lib.cut
 rw[index_miss a c h,if_neg (by omega)]
theorem split_hit (a b:List UInt8) (c:UInt8) (h:c ∉ a):Zz c (a++c :: b)=a :: Zz c b:=by
 induction a with
 | nil=>simp[Zz]
 | cons x a ih =>
  simp only[List.mem_cons,not_or]at h
  rw[List.cons_append,Zz,if_neg (fun e=>h.1 e.symm),ih h.2]
theorem Y2 (a:List UInt8) (c:UInt8) (h:c ∉ a):Zz c a=[a]:=splitL_miss c a (by rw[Jo a c h];omega)
theorem split_path:∀ (x:List UInt8) (l:List (List UInt8)),47 ∉ x→(∀ y∈l,47 ∉ y)→Zz 47 (x++Zv l)=x :: l
 | x,[],h,_=>by simp[Zv,Y2 x 47 h]
 | x,y :: l,h,hl=>by
  have e:x++Zv (y :: l)=x++47 :: (y++Zv l):=by simp[Zv]
  rw[e,split_hit _ _ _ h,split_path y l (hl y (by simp)) (fun z hz=>hl z (by simp[hz]))]
def pairT (q:List UInt8 × List UInt8):List UInt8:=q.1++61 :: q.2
theorem split_query:∀ (q:List UInt8 × List UInt8) (l:List (List UInt8 × List UInt8)),38 ∉ pairT q→(∀ r∈l,38 ∉ pairT r)→Zz 38 (pairT q++Zu 38 l)=(q :: l).map pairT
 | q,[],h,_=>by simp[Zu,Y2 _ 38 h]
 | q,r :: l,h,hl=>by
  have e:pairT q++Zu 38 (r :: l)=pairT q++38 :: (pairT r++Zu 38 l):=by simp[Zu,pairT]
  rw[e,split_hit _ _ _ h,split_query r l (hl r (by simp)) (fun z hz=>hl z (by simp[hz]))]
  rfl
theorem Je (b:UInt8) (h:Z8 b=true):b≠47∧b≠63∧b≠38∧b≠61∧b≠42∧b≠44∧¬ (65≤b.toNat∧b.toNat≤90):=by
 unfold Z8 KY at h
 simp only[decide_eq_true_eq]at h
 have k:∀ c:Nat,c<256→b.toNat≠c→b≠UInt8.ofNat c:=fun c hc h e=>h (by rw[e,UInt8.toNat_ofNat'];omega)
 exact⟨k 47 (by omega) (by omega),k 63 (by omega) (by omega),k 38 (by omega) (by omega),k 61 (by omega) (by omega),k 42 (by omega) (by omega),k 44 (by omega) (by omega),by omega⟩
theorem ZX {s:ByteArray} (h:Qg s=true):∀ b∈s.data.toList,Z8 b=true:=by
 unfold Qg at h
 simp only[Bool.and_eq_true,List.all_eq_true]at h
 exact h.2
theorem Xz {s:ByteArray} (h:Qy s=true):Qg s=true:=by
 unfold Qy at h
 simp only[Bool.and_eq_true]at h
 exact h.1
theorem X5 {s:ByteArray} (h:Qg s=true):47 ∉ s.data.toList∧63 ∉ s.data.toList∧38 ∉ s.data.toList∧61 ∉ s.data.toList∧42 ∉ s.data.toList∧44 ∉ s.data.toList :=
 ⟨fun hm=>(Je _ (ZX h _ hm)).1 rfl,fun hm=>(Je _ (ZX h _ hm)).2.1 rfl,fun hm=>(Je _ (ZX h _ hm)).2.2.1 rfl,fun hm=>(Je _ (ZX h _ hm)).2.2.2.1 rfl,fun hm=>(Je _ (ZX h _ hm)).2.2.2.2.1 rfl,fun hm=>(Je _ (ZX h _ hm)).2.2.2.2.2.1 rfl⟩
theorem Uy {s:ByteArray} (h:Qg s=true):s.data.toList ≠ []∧s.data.toList ≠ [46]∧s.data.toList ≠ [46,46]∧s.size≤64:=by
 unfold Qg at h
 simp only[Bool.and_eq_true,Bool.not_eq_true',decide_eq_true_eq,Lib.toList_data]at h
 obtain⟨⟨⟨⟨h1,h2⟩,h3⟩,h4⟩,_⟩:=h
 exact⟨by intro e;simp[e]at h1,by intro e;simp[e]at h3,by intro e;simp[e]at h4,h2⟩
theorem low_same:∀ l:List UInt8,(∀ b∈l,¬ (65≤b.toNat∧b.toNat≤90))→Y8 l=l
 | [],_=>rfl
 | b :: l,h=>by
  have h1:=h b (by simp)
  have h2:=low_same l (fun c hc=>h c (by simp[hc]))
  unfold Y8 at h2 ⊢
  rw[List.map_cons,h2]
  congr 1
  unfold lowN
  rw[if_neg h1]
  exact UInt8.ofNat_toNat
theorem res_words:∀ (l out:List ByteArray),(∀ p∈l,Qg p=true)→Yx out l=some (out++l)
 | [],out,_=>by simp[Yx]
 | p :: l,out,h=>by
  have hp:=h p (by simp)
  obtain⟨h1,h2,h3,_⟩:=Uy hp
  have e:Jc out p=some (out++[p]):=by
   unfold Jc
   rw[Lib.toList_data,if_neg (by simp[h2]),if_neg (by simp[h3]),if_pos hp]
  rw[Yx,e,Option.bind_some,res_words l _ (fun q hq=>h q (by simp[hq]))]
  simp
theorem parsePair_of {k v:List UInt8} (hk:Qy (Zd k)=true) (hv:Qg (Zd v)=true):Uk (Zd (pairT (k,v)))=some (k,v):=by
 have h61:61 ∉ k:=(X5 (Xz hk)).2.2.2.1
 have e:Lib.cut (pairT (k,v)) [61]=(k,v,true):=cut_hit k v 61 h61
 unfold Uk
 rw[show (Zd (pairT (k,v))).data.toList=pairT (k,v) from rfl,e]
 simp[hk,hv]
theorem qAcc_of:∀ (l acc:List (List UInt8 × List UInt8)),(∀ q∈l,Qy (Zd q.1)=true∧Qg (Zd q.2)=true)→VU acc (l.map fun q=>Zd (pairT q))=some (acc++l)
 | [],acc,_=>by simp[VU]
 | q :: l,acc,h=>by
  have hq:=h q (by simp)
  rw[List.map_cons,VU,parsePair_of hq.1 hq.2]
  simp only
  rw[qAcc_of l _ (fun r hr=>h r (by simp[hr]))]
  simp
theorem insL_last (p:List UInt8 × List UInt8):∀ acc:List (List UInt8 × List UInt8),(∀ q∈acc,q.1<p.1)→insL acc p=acc++[p]
 | [],_=>rfl
 | q :: acc,h=>by
  have h1:=h q (by simp)
  rw[insL,if_neg (fun e=>List.lt_irrefl _ (by rw[←e]at h1;exact h1)),if_neg (fun e=>List.lt_irrefl _ (List.lt_trans h1 e)),insL_last p acc (fun r hr=>h r (by simp[hr]))]
  rfl
theorem fold_sorted:∀ (l acc:List (List UInt8 × List UInt8)),WU (acc++l)→l.foldl insL acc=acc++l
 | [],acc,_=>by simp
 | p :: l,acc,h=>by
  have h1:=List.pairwise_append.1 h
  rw[List.foldl_cons,insL_last p acc (fun q hq=>h1.2.2 q hq p (by simp)),fold_sorted l (acc++[p]) (by simpa using h)]
  simp
theorem pairs_sorted (l:List (List UInt8 × List UInt8)) (h:WU l):JQ l=l:=by
 have:=fold_sorted l [] (by simpa using h)
 simpa[JQ] using this
theorem toB_data (s:ByteArray):Zd s.data.toList=s:=Qm rfl
theorem pairsB_of (qs:List (ByteArray × ByteArray)) (q:ByteArray × ByteArray) (h:∀ r∈q :: qs,Qy r.1=true∧Qg r.2=true) (hup:KeysUp (q :: qs)) :
  JZ (Zd (pairT (q.1.data.toList,q.2.data.toList)++Zu 38 (Zh qs)))=some (q :: qs):=by
 have h38:∀ r∈q :: qs,38 ∉ pairT (r.1.data.toList,r.2.data.toList):=by
  intro r hr
  have h1:=(X5 (Xz (h r hr).1)).2.2.1
  have h2:=(X5 (h r hr).2).2.2.1
  simp[pairT,h1,h2]
 have hs:=split_query (q.1.data.toList,q.2.data.toList) (Zh qs) (h38 q (by simp)) (by
  intro r hr
  obtain⟨x,hx,rfl⟩:=List.mem_map.1 hr
  exact h38 x (by simp[hx]))
 unfold JZ
 have hne:¬ ((Zd (pairT (q.1.data.toList,q.2.data.toList)++Zu 38 (Zh qs))).toList.isEmpty=true):=by
  rw[Lib.toList_data];simp[Zd,pairT]
 rw[if_neg hne]
 have hsp:splitB 38 (Zd (pairT (q.1.data.toList,q.2.data.toList)++Zu 38 (Zh qs)))=(Zh (q :: qs)).map fun r=>Zd (pairT r):=by
  unfold splitB
  rw[show (Zd (pairT (q.1.data.toList,q.2.data.toList)++Zu 38 (Zh qs))).data.toList=pairT (q.1.data.toList,q.2.data.toList)++Zu 38 (Zh qs) from rfl,hs]
  simp[Zh,Zd]
 rw[hsp,qAcc_of _ [] (by
  intro r hr
  obtain⟨x,hx,rfl⟩:=List.mem_map.1 hr
  have:=h x hx
  rw[toB_data,toB_data];exact this)]
 simp only[List.nil_append,Option.map_some]
 rw[pairs_sorted _ (by
  unfold WU Zh
  exact List.pairwise_map.2 hup)]
 congr 1
 unfold Zh
 rw[List.map_map]
 conv=>rhs;rw[←List.map_id (q :: qs)]
 refine List.map_congr_left fun x _=>?_
 simp[toB_data]
theorem path_letters (xs:List ByteArray) (h:∀ p∈xs,Qg p=true) (b:UInt8) (hb:b∈Zv (lists xs)):b=47∨Z8 b=true:=by
 unfold Zv lists at hb
 obtain⟨l,hl,hb⟩:=List.mem_flatMap.1 hb
 obtain⟨x,hx,rfl⟩:=List.mem_map.1 hl
 rcases List.mem_cons.1 hb with h1 | h1
 ·exact .inl h1
 ·exact .inr (ZX (h x hx) b h1)
theorem query_letters:∀ (sep:UInt8) (qs:List (ByteArray × ByteArray)),(∀ r∈qs,Qy r.1=true∧Qg r.2=true)→∀ b,b∈Zu sep (Zh qs)→b=sep∨b=38∨b=61∨Z8 b=true
 | sep,[],_,b,hb=>by simp[Zh,Zu]at hb
 | sep,q :: qs,h,b,hb=>by
  have e:Zu sep (Zh (q :: qs))=sep :: (q.1.data.toList++61 :: q.2.data.toList)++Zu 38 (Zh qs):=rfl
  rw[e]at hb
  have hq:=h q (by simp)
  simp only[List.cons_append,List.mem_cons,List.mem_append]at hb
  rcases hb with h1 | (h1 | h1 | h1) | h1
  ·exact .inl h1
  ·exact .inr (.inr (.inr (ZX (Xz hq.1) b h1)))
  ·exact .inr (.inr (.inl h1))
  ·exact .inr (.inr (.inr (ZX hq.2 b h1)))
  ·rcases query_letters 38 qs (fun r hr=>h r (by simp[hr])) b h1 with h2 | h2
   ·exact .inr (.inl h2)
   ·exact .inr h2
theorem noCap_of {b:UInt8} (h:b=47∨b=63∨b=38∨b=61∨Z8 b=true):¬ (65≤b.toNat∧b.toNat≤90):=by
 rcases h with rfl | rfl | rfl | rfl | h
 ·decide
 ·decide
 ·decide
 ·decide
 ·exact (Je b h).2.2.2.2.2.2
theorem adr_noCap {a:Adr} (h:Un a):∀ b∈Us a.cust a.path a.query,¬ (65≤b.toNat∧b.toNat≤90):=by
 intro b hb
 unfold Us JV at hb
 simp only[List.mem_append]at hb
 refine noCap_of ?_
 rcases hb with (h1 | h1) | h1
 ·exact .inr (.inr (.inr (.inr (ZX (Xz h.name) b h1))))
 ·rcases path_letters _ h.words b h1 with h2 | h2
  ·exact .inl h2
  ·exact .inr (.inr (.inr (.inr h2)))
 ·rcases query_letters 63 _ h.query b h1 with h2 | h2 | h2 | h2
  ·exact .inr (.inl h2)
  ·exact .inr (.inr (.inl h2))
  ·exact .inr (.inr (.inr (.inl h2)))
  ·exact .inr (.inr (.inr (.inr h2)))
theorem pairsB_nil:JZ (Zd [])=some []:=by
 unfold JZ
 rw[if_pos (by rw[Lib.toList_data];rfl)]
def frontL (a:Adr):List UInt8:=a.cust.data.toList++Zv (lists a.path)
theorem front_no63 {a:Adr} (h:Un a):63 ∉ frontL a:=by
 intro hm
 unfold frontL at hm
 rcases List.mem_append.1 hm with h1 | h1
 ·exact (X5 (Xz h.name)).2.1 h1
 ·rcases path_letters _ h.words _ h1 with h2 | h2
  ·exact absurd h2 (by decide)
  ·exact (Je _ h2).2.1 rfl
theorem left_of {a:Adr} (h:Un a):(Xr (Zd (Us a.cust a.path a.query))).1=frontL a∧JZ (Zd (Xr (Zd (Us a.cust a.path a.query))).2.1)=some a.query:=by
 unfold Xr
 rw[show (Zd (Us a.cust a.path a.query)).data.toList=Us a.cust a.path a.query from rfl,low_same _ (adr_noCap h)]
 have e:Us a.cust a.path a.query=frontL a++Zu 63 (Zh a.query):=rfl
 rw[e]
 cases hq:a.query with
 | nil =>
  rw[show Zu 63 (Zh [])=[] from rfl,List.append_nil,cut_none _ _ (front_no63 h)]
  exact⟨rfl,pairsB_nil⟩
 | cons q qs =>
  have e2:Zu 63 (Zh (q :: qs))=63 :: (pairT (q.1.data.toList,q.2.data.toList)++Zu 38 (Zh qs)):=by
   simp[Zh,Zu,pairT]
  rw[e2,cut_hit _ _ _ (front_no63 h)]
  exact⟨rfl,pairsB_of qs q (by rw[←hq];exact h.query) (by rw[←hq];exact h.up)⟩
theorem trim_none (l:List UInt8) (x:UInt8) (hx:x≠47):Lib.trimSuffix (l++[x]) [47]=l++[x]:=by
 unfold Lib.trimSuffix
 rw[if_neg]
 unfold Lib.hasSuffix
 intro h
 rw[List.isSuffixOf_iff_suffix]at h
 obtain⟨t,ht⟩:=h
 have:=(List.append_inj' ht rfl).2
 simp at this
 exact hx this.symm
theorem word_end {s:ByteArray} (h:Qg s=true):∃ l x,s.data.toList=l++[x]∧x≠47:=by
 have hne:=(Uy h).1
 refine⟨s.data.toList.dropLast,s.data.toList.getLast hne,(List.dropLast_concat_getLast hne).symm,?_⟩
 exact (Je _ (ZX h _ (List.getLast_mem hne))).1
theorem front_end {a:Adr} (h:Un a):∃ l x,frontL a=l++[x]∧x≠47:=by
 unfold frontL
 rcases List.eq_nil_or_concat a.path with hp | ⟨p,x,hp⟩
 ·rw[hp]
  obtain⟨l,x,h1,h2⟩:=word_end (Xz h.name)
  exact⟨l,x,by simp[lists,Zv,h1],h2⟩
 ·obtain⟨l,y,h1,h2⟩:=word_end (h.words x (by rw[hp];simp))
  refine⟨a.cust.data.toList++(Zv (lists p)++47 :: l),y,?_,h2⟩
  rw[hp]
  simp[lists,Zv,h1]
theorem cust_of {a:Adr} (h:Un a):(XJ (Zd (Us a.cust a.path a.query))).1=a.cust.data.toList∧pathB (XJ (Zd (Us a.cust a.path a.query)))=some a.path:=by
 obtain⟨l,x,he,hx⟩:=front_end h
 have hc:=(X5 (Xz h.name)).1
 unfold XJ
 rw[(left_of h).1,he,trim_none l x hx,←he]
 unfold frontL
 cases hp:a.path with
 | nil =>
  rw[show Zv (lists [])=[] from rfl,List.append_nil,cut_none _ _ hc]
  exact⟨rfl,rfl⟩
 | cons p ps =>
  have e2:Zv (lists (p :: ps))=47 :: (p.data.toList++Zv (lists ps)):=by simp[Zv,lists]
  have hw:∀ q∈p :: ps,Qg q=true:=by rw[←hp];exact h.words
  rw[e2,cut_hit _ _ _ hc]
  refine⟨rfl,?_⟩
  unfold pathB
  simp only[if_true]
  have hs:=split_path p.data.toList (lists ps) (X5 (hw p (by simp))).1 (by
   intro y hy
   obtain⟨z,hz,rfl⟩:=List.mem_map.1 hy
   exact (X5 (hw z (by simp[hz]))).1)
  have hsp:splitB 47 (Zd (p.data.toList++Zv (lists ps)))=p :: ps:=by
   unfold splitB
   rw[show (Zd (p.data.toList++Zv (lists ps))).data.toList=p.data.toList++Zv (lists ps) from rfl,hs]
   have:∀ z:ByteArray,(⟨z.data.toList.toArray⟩:ByteArray)=z:=fun z=>Qm rfl
   simp[lists,Function.comp_def]
  rw[hsp,res_words _ _ hw]
  rfl
theorem parse_write {a:Adr} (h:Un a) (hs:(Us a.cust a.path a.query).length≤4096):QW (Zd (Us a.cust a.path a.query))=(a,0):=by
 unfold QW
 have hz:¬ 4096<(Zd (Us a.cust a.path a.query)).size:=by
  rw[Lib.size_eq,show (Zd (Us a.cust a.path a.query)).data.toList=Us a.cust a.path a.query from rfl];omega
 rw[if_neg hz,(cust_of h).1,(cust_of h).2,(left_of h).2,toB_data,h.name]
 unfold adrOf
 simp only
 rw[if_pos ⟨h.parts,h.pairs⟩]
theorem read_write {a:Adr} (h:Un a) (hs:(Us a.cust a.path a.query).length≤4096):readB (Zd (Us a.cust a.path a.query))=true:=by
 unfold readB
 rw[parse_write h hs]
 simp[Zd]
theorem Yi (a b:ByteArray):(a.toList==b.toList)=true↔a=b:=by
 rw[Lib.toList_data,Lib.toList_data,beq_iff_eq]
 exact⟨Qm,fun h=>by rw[h]⟩
theorem Y9 (s:ByteArray):Qg s=true↔s.data.toList ≠ []∧s.data.toList ≠ [46]∧s.data.toList ≠ [46,46]∧s.size≤64∧∀ b∈s.data.toList,Z8 b=true:=by
 constructor
 ·intro h
  obtain⟨h1,h2,h3,h4⟩:=Uy h
  exact⟨h1,h2,h3,h4,ZX h⟩
 ·rintro⟨h1,h2,h3,h4,h5⟩
  unfold Qg
  rw[Lib.toList_data]
  simp only[Bool.and_eq_true,Bool.not_eq_true',decide_eq_true_eq,List.all_eq_true,beq_eq_false_iff_ne]
  exact⟨⟨⟨⟨by simpa using h1,h4⟩,h2⟩,h3⟩,h5⟩
theorem isName_iff (s:ByteArray):Qy s=true↔Qg s=true∧46 ∉ s.data.toList:=by
 unfold Qy
 simp only[Bool.and_eq_true,Bool.not_eq_true',decide_eq_false_iff_not]
 constructor
 ·rintro⟨h1,h2⟩
  exact⟨h1,indexByte_mem _ _ (by omega)⟩
 ·rintro⟨h1,h2⟩
  exact⟨h1,by rw[Jo _ _ h2];omega⟩
theorem has0 (t w:ByteArray):Jw 0 t w=true↔t=w:=by
 unfold Jw;rw[if_pos rfl];exact Yi t w
theorem has1 (t w:ByteArray):Jw 1 t w=true↔t.size<w.size∧t.data.toList <:+ w.data.toList:=by
 unfold Jw
 rw[if_neg (by decide),if_pos rfl]
 simp only[Bool.and_eq_true,decide_eq_true_eq,Lib.hasSuffix,List.isSuffixOf_iff_suffix]
theorem has2 (t w:ByteArray):Jw 2 t w=true:=by
 unfold Jw;rw[if_neg (by decide),if_neg (by decide)]
theorem cov0 (k:Nat) (t t2:ByteArray):Zb k t 0 t2=Jw k t t2:=by
 unfold Zb;rw[if_pos rfl]
theorem cov1 (k:Nat) (t t2:ByteArray):Zb k t 1 t2=true↔k=2∨(k=1∧t.data.toList <:+ t2.data.toList):=by
 unfold Zb
 rw[if_neg (by decide),if_pos rfl]
 simp only[Bool.or_eq_true,Bool.and_eq_true,beq_iff_eq,Lib.hasSuffix,List.isSuffixOf_iff_suffix]
theorem cov2 (k:Nat) (t t2:ByteArray):Zb k t 2 t2=true↔k=2:=by
 unfold Zb
 rw[if_neg (by decide),if_neg (by decide),beq_iff_eq]
def Qa (p:Part):Prop :=
 (p.kind=0∧Qg p.text=true)∨(p.kind=1∧∃ s:ByteArray,Qg s=true∧s.size≤32∧p.text.data.toList=46 :: s.data.toList)∨(p.kind=2∧p.text=⟨#[]⟩)
def Jj (p:Part):Prop:=(p.kind=0∧Qy p.text=true)∨(p.kind=2∧p.text=⟨#[]⟩)
theorem Jj.part {p:Part} (h:Jj p):Qa p:=by
 rcases h with ⟨h1,h2⟩ | h
 ·exact .inl ⟨h1,Xz h2⟩
 ·exact .inr (.inr h)
theorem Qn (s:ByteArray):s.size=s.data.toList.length:=Lib.size_eq s
theorem covers_sound {p q:Part} (hq:Qa q) (h:Zb p.kind p.text q.kind q.text=true) (w:ByteArray) (hw:Jw q.kind q.text w=true):Jw p.kind p.text w=true:=by
 obtain⟨k,t⟩:=p
 obtain⟨k2,t2⟩:=q
 dsimp only at *
 rcases hq with ⟨hk,_⟩ | ⟨hk,_⟩ | ⟨hk,_⟩ <;> dsimp only at hk <;> subst hk
 ·rw[cov0]at h
  rw[has0]at hw
  subst hw
  exact h
 ·rw[has1]at hw
  rcases (cov1 k t t2).1 h with rfl | ⟨rfl,hs⟩
  ·exact has2 _ _
  ·rw[has1]
   have:=hs.length_le
   rw[←Qn,←Qn]at this
   exact⟨by omega,hs.trans hw.2⟩
 ·rw[cov2]at h
  subst h
  exact has2 _ _
theorem letter_ab {c:UInt8} (hc:c=97∨c=98):Z8 c=true∧c≠46:=by
 rcases hc with rfl | rfl <;> exact⟨by decide,by decide⟩
theorem with_data (k:Nat) (t:ByteArray) (c:UInt8):(XV k t ⟨#[c]⟩).data.toList=if k=0 then t.data.toList else if k=1 then c :: t.data.toList else [c]:=by
 unfold XV
 split
 ·rfl
 ·split
  ·simp
  ·rfl
theorem word_one {c:UInt8} (hc:c=97∨c=98):Qy ⟨#[c]⟩=true:=by
 rcases hc with rfl | rfl <;> decide +kernel
theorem with_fit {p:Part} (hp:Qa p) {c:UInt8} (hc:c=97∨c=98):Qg (XV p.kind p.text ⟨#[c]⟩)=true∧Jw p.kind p.text (XV p.kind p.text ⟨#[c]⟩)=true:=by
 obtain⟨k,t⟩:=p
 rcases hp with ⟨hk,hw⟩ | ⟨hk,s,hs,hs2,ht⟩ | ⟨hk,hw⟩ <;> dsimp only at * <;> subst hk
 ·have e:XV 0 t ⟨#[c]⟩=t:=rfl
  rw[e,has0]
  exact⟨hw,rfl⟩
 ·have e:=with_data 1 t c
  rw[if_neg (by decide),if_pos rfl]at e
  have hz:t.size=s.size+1:=by rw[Qn,Qn,ht];rfl
  have hz2:(XV 1 t ⟨#[c]⟩).size=t.size+1:=by rw[Qn,Qn,e];rfl
  rw[has1,Y9,e,hz2]
  obtain⟨g1,g2,g3,g4,g5⟩:=(Y9 s).1 hs
  refine⟨⟨by simp,by rw[ht];simp,?_,by omega,?_⟩,by omega,List.suffix_cons _ _⟩
  ·rw[ht];intro h
   injection h with h1 h2
   exact (letter_ab hc).2 h1
  ·intro b hb
   rw[ht]at hb
   rcases List.mem_cons.1 hb with rfl | hb
   ·exact (letter_ab hc).1
   ·rcases List.mem_cons.1 hb with rfl | hb
    ·decide
    ·exact g5 b hb
 ·have e:XV 2 t ⟨#[c]⟩=⟨#[c]⟩:=rfl
  rw[e]
  exact⟨Xz (word_one hc),has2 _ _⟩
theorem with_cust {p:Part} (hp:Jj p) {c:UInt8} (hc:c=97∨c=98):Qy (XV p.kind p.text ⟨#[c]⟩)=true:=by
 obtain⟨k,t⟩:=p
 rcases hp with ⟨hk,hw⟩ | ⟨hk,hw⟩ <;> dsimp only at * <;> subst hk
 ·exact hw
 ·exact word_one hc
theorem suffix_total {a b w:List UInt8} (ha:a <:+ w) (hb:b <:+ w):a <:+ b∨b <:+ a:=by
 rcases Nat.le_total a.length b.length with h | h
 ·exact .inl (List.suffix_of_suffix_length_le ha hb h)
 ·exact .inr (List.suffix_of_suffix_length_le hb ha h)
theorem not_meets {p q:Part} (hp:Qa p) (hq:Qa q) (h:Xb p q=false) (w:ByteArray) (h1:Jw p.kind p.text w=true) (h2:Jw q.kind q.text w=true):False:=by
 unfold Xb at h
 rw[Bool.or_eq_false_iff]at h
 obtain⟨k,t⟩:=p
 obtain⟨k2,t2⟩:=q
 dsimp only at *
 have n1:Zb k t k2 t2≠true:=by rw[h.1];decide
 have n2:Zb k2 t2 k t≠true:=by rw[h.2];decide
 rcases hp with ⟨hk,_⟩ | ⟨hk,_⟩ | ⟨hk,_⟩ <;> dsimp only at hk <;> subst hk
 ·rw[has0]at h1;subst h1
  rw[cov0]at n2
  exact n2 h2
 ·rcases hq with ⟨hk,_⟩ | ⟨hk,_⟩ | ⟨hk,_⟩ <;> dsimp only at hk <;> subst hk
  ·rw[has0]at h2;subst h2
   rw[cov0]at n1
   exact n1 h1
  ·rw[has1]at h1 h2
   rcases suffix_total h1.2 h2.2 with e | e
   ·exact n1 ((cov1 _ _ _).2 (.inr ⟨rfl,e⟩))
   ·exact n2 ((cov1 _ _ _).2 (.inr ⟨rfl,e⟩))
  ·exact n2 ((cov1 _ _ _).2 (.inl rfl))
 ·rcases hq with ⟨hk,_⟩ | ⟨hk,_⟩ | ⟨hk,_⟩ <;> dsimp only at hk <;> subst hk
  ·rw[cov0]at n1;exact n1 (has2 _ _)
  ·exact n1 ((cov1 _ _ _).2 (.inl rfl))
  ·exact n1 ((cov2 _ _ _).2 rfl)
theorem meets_has {p q:Part} (hp:Qa p) (hq:Qa q) (h:Xb p q=true) (w:ByteArray) :
  Jw (X7 p q).kind (X7 p q).text w=(Jw p.kind p.text w&&Jw q.kind q.text w):=by
 unfold Xb at h
 unfold X7
 cases hc:Zb p.kind p.text q.kind q.text
 ·rw[hc,Bool.false_or]at h
  simp only[Bool.false_eq_true,if_false]
  cases hw:Jw p.kind p.text w
  ·rfl
  ·rw[covers_sound hp h w hw];rfl
 ·simp only[if_true]
  cases hw:Jw q.kind q.text w
  ·rw[Bool.and_false]
  ·rw[covers_sound hq hc w hw];rfl
theorem meetP_fit {p q:Part} (hp:Qa p) (hq:Qa q):Qa (X7 p q):=by
 unfold X7;split <;> assumption
theorem meetP_cust {p q:Part} (hp:Jj p) (hq:Jj q):Jj (X7 p q):=by
 unfold X7;split <;> assumption
theorem covers_anti {p q:Part} (hp:Qa p) (hq:Qa q) (h1:Zb p.kind p.text q.kind q.text=true) (h2:Zb q.kind q.text p.kind p.text=true):p=q:=by
 obtain⟨k,t⟩:=p
 obtain⟨k2,t2⟩:=q
 dsimp only at *
 rcases hp with ⟨hk,_⟩ | ⟨hk,_⟩ | ⟨hk,ht⟩ <;> dsimp only at hk <;> subst hk <;>
  rcases hq with ⟨hk,_⟩ | ⟨hk,_⟩ | ⟨hk,ht2⟩ <;> dsimp only at hk <;> subst hk
 ·rw[cov0,has0]at h1;rw[h1]
 ·rw[cov1]at h1;omega
 ·rw[cov2]at h1;omega
 ·rw[cov1]at h2;omega
 ·have e1:=(cov1 _ _ _).1 h1
  have e2:=(cov1 _ _ _).1 h2
  rcases e1 with e1 | ⟨_,e1⟩
  ·omega
  rcases e2 with e2 | ⟨_,e2⟩
  ·omega
  rw[Qm (e1.eq_of_length_le e2.length_le)]
 ·rw[cov2]at h1;omega
 ·rw[cov2]at h2;omega
 ·rw[cov2]at h2;omega
 ·dsimp only at ht ht2;rw[ht,ht2]
theorem at_split (l:List UInt8) (k:Nat) (hk:k<l.length):l=l.take k++l[k] :: l.drop (k+1):=by
 rw[←List.drop_eq_getElem_cons hk,List.take_append_drop]
theorem byte_at (s:ByteArray) (k:Nat) (h:k<s.size):s[k]=s.data.toList[k]'(by rw[←Lib.size_eq];exact h):=by simp;rfl
end Go.Proofs.YticlbkficolocaaGreatDoor
