/- What 'Canonical' and 'read' return. -/
import Derived.Test.YtlkbkclnbppigaaGreatDoorIZ10
import Derived.Test.YtlkbkclnbppigaaGreatDoorIZ11
import Derived.Deep.DeepCutAuto
set_option maxHeartbeats 4000000
namespace Go.Proofs.YtlkbkclnbppigaaGreatDoor
open Go.RowKit Go.Sort
set_option linter.unusedVariables false
set_option linter.unusedSimpArgs false
set_option maxRecDepth 100000
def canonV (s:ByteArray):Value:=if (parseB s).2=0 then textV (parseB s).1.cust (parseB s).1.path (parseB s).1.query else .tuple #[.string ⟨#[]⟩,.int .i64 (parseB s).2]
theorem canonical_any (s:ByteArray) (w:World) (hs:s.size≤4294967281) (hE:Env w):Calls Tryz.prog 146 #[.string s] w (Ret w (canonV s)):=by
 have cP:=parse_any s w hs hE
 have he:=parse_errno s
 have hbd:=parse_bound s
 unfold canonV
 generalize parseB s=r at *
 obtain⟨⟨c,ps,qs⟩,er⟩:=r
 dsimp only at he hbd ⊢
 have HP:=Lib.hid cP
 have HB:=Lib.hid hbd
 clear cP hbd
 rcases he with rfl | rfl | rfl
 ·simp only[if_true]
  generalize hv:textV c ps qs=V
  have cT:∀ A ca B cb W,Reads W 1 A ps.length (ps.map .string)→Reads W 2 B qs.length (pairCells qs)→Calls Tryz.prog 204 #[.agg #[.string c,.slice A ps.length ca,.slice B qs.length cb]] W (Ret W V):=fun A ca B cb W h1 h2=>by
   rw[←hv]
   exact text_any c A B ps.length ca qs.length cb ps qs W h1 h2 (by have:=HB.out;omega)
  have HT:=Lib.hid cT
  obtain⟨x,y,hxy⟩:∃ x y,V=.tuple #[.string x,.int .i64 y]:=by
   rw[←hv];unfold textV;split <;> exact⟨_,_,rfl⟩
  clear cT hv
  subst hxy
  go_enter Tryz.func146,Tryz.ntmps146
  go_wp2_with (first | (go_at_call 203;refine HP.out.mono ?_;rintro e w1 ⟨hb1,A,ca,B,cb,rfl,hA,hB,_,_⟩) | (go_at_call 204;refine (HT.out _ _ _ _ _ ?_ ?_).mono ?_;exact hA.keep belB;exact hB.keep belB;rintro e w2 ⟨rfl,hb2⟩))
  go_ret2
  exact⟨rfl,belB⟩
 all_goals
  rw[if_neg (by decide)]
  go_enter Tryz.func146,Tryz.ntmps146
  go_wp2_with (go_at_call 203;refine HP.out.mono ?_;rintro e w1 ⟨hb1,A,ca,B,cb,rfl,hA,hB,_,_⟩)
  go_ret2
  exact⟨rfl,belB⟩
def readB (s:ByteArray):Bool:=decide ((parseB s).2=0)&&(ByteArray.toList ⟨(W06 (parseB s).1.cust (parseB s).1.path (parseB s).1.query).toArray⟩ == s.toList)
def ReadP (a:Adr) (ok:Bool) (w:World) (e:Ending) (w':World):Prop :=
 Below w.heap.size w w'∧∃ A ca B cb,e=.returned (.tuple #[.agg #[.string a.cust,.slice A a.path.length ca,.slice B a.query.length cb],.bool ok])∧Reads w' 1 A a.path.length (a.path.map .string)∧Reads w' 2 B a.query.length (pairCells a.query)
theorem ReadP.mk_ {c:ByteArray} {ps:List ByteArray} {qs:List (ByteArray × ByteArray)} {ok:Bool} {w w':World} {A B:Option Addr} {ca cb:Nat} (hb:Below w.heap.size w w') (hA:Reads w' 1 A ps.length (ps.map .string)) (hB:Reads w' 2 B qs.length (pairCells qs)) :
  ReadP ⟨c,ps,qs⟩ ok w (.returned (.tuple #[.agg #[.string c,.slice A ps.length ca,.slice B qs.length cb],.bool ok])) w':=⟨hb,A,ca,B,cb,rfl,hA,hB⟩
theorem read_any (s:ByteArray) (w:World) (hs:s.size≤4294967281) (hE:Env w):Calls Tryz.prog 148 #[.string s] w (ReadP (parseB s).1 (readB s) w):=by
 have cP:=fun W h=>parse_any s W hs h
 have he:=parse_errno s
 have hbd:=parse_bound s
 unfold readB
 generalize parseB s=r at *
 obtain⟨⟨c,ps,qs⟩,er⟩:=r
 dsimp only at he hbd ⊢
 have HP:=Lib.hid cP
 have HB:=Lib.hid hbd
 clear cP hbd
 generalize hT:(ByteArray.mk (W06 c ps qs).toArray)=T
 have cW:∀ A ca B cb W,Reads W 1 A ps.length (ps.map .string)→Reads W 2 B qs.length (pairCells qs)→Calls Tryz.prog 207 #[.agg #[.string c,.slice A ps.length ca,.slice B qs.length cb]] W (Ret W (.string T)):=fun A ca B cb W h1 h2=>by
  rw[←hT]
  exact write_any c A B ps.length ca qs.length cb ps qs W h1 h2 (by have:=HB.out;omega)
 have HW:=Lib.hid cW
 clear cW hT
 rcases he with rfl | he
 ·simp only[decide_true,Bool.true_and]
  generalize hq:(T.toList==s.toList)=q
  have HQ:=Lib.hid hq
  clear hq
  go_enter Tryz.func148,Tryz.ntmps148
  go_wp2_with (go_at_call 203;refine (HP.out _ (hE.keep (balloc (Below.refl _ _) _))).mono ?_;rintro e w1 ⟨hb1,A,ca,B,cb,rfl,hA,hB,hA1,hB1,_⟩;obtain⟨hc1,hf1⟩:=bcell hb1;have hz1_0:w.heap.size<w1.heap.size:=(by have:=hb1.size;(try simp at this);omega))
  have f1:(w1.alloc (.cells #[.string c,.slice A ps.length ca,.slice B qs.length cb] 200)).cell? ⟨w1.heap.size,0,none⟩=some (.string c):=by simp[go_sem]
  have f2:(w1.alloc (.cells #[.string c,.slice A ps.length ca,.slice B qs.length cb] 200)).cell? ⟨w1.heap.size,1,none⟩=some (.slice A ps.length ca):=by simp[go_sem]
  have f3:(w1.alloc (.cells #[.string c,.slice A ps.length ca,.slice B qs.length cb] 200)).cell? ⟨w1.heap.size,2,none⟩=some (.slice B qs.length cb):=by simp[go_sem]
  have f4:(w1.alloc (.cells #[.string c,.slice A ps.length ca,.slice B qs.length cb] 200)).cell? ⟨w.heap.size,0,none⟩=some (.string ⟨#[]⟩):=by simp[go_sem, *]
  have f5:(w1.alloc (.cells #[.string c,.slice A ps.length ca,.slice B qs.length cb] 200)).cell? ⟨w.heap.size,1,none⟩=some (.slice none 0 0):=by simp[go_sem, *]
  have f6:(w1.alloc (.cells #[.string c,.slice A ps.length ca,.slice B qs.length cb] 200)).cell? ⟨w.heap.size,2,none⟩=some (.slice none 0 0):=by simp[go_sem, *]
  have f7:(w1.alloc (.cells #[.string c,.slice A ps.length ca,.slice B qs.length cb] 200)).frozen? ⟨w.heap.size,0,none⟩=false:=by simp[go_sem, *]
  have f8:(w1.alloc (.cells #[.string c,.slice A ps.length ca,.slice B qs.length cb] 200)).frozen? ⟨w.heap.size,1,none⟩=false:=by simp[go_sem, *]
  have f9:(w1.alloc (.cells #[.string c,.slice A ps.length ca,.slice B qs.length cb] 200)).frozen? ⟨w.heap.size,2,none⟩=false:=by simp[go_sem, *]
  have hA2:∀ a,A=some a→a.block≠w.heap.size:=fun a ha=>by have:=hA1 a ha;simp at this;omega
  have hB2:∀ a,B=some a→a.block≠w.heap.size:=fun a ha=>by have:=hB1 a ha;simp at this;omega
  have hA3:=hA.keep (balloc (Below.refl _ w1) (.cells #[.string c,.slice A ps.length ca,.slice B qs.length cb] 200))
  have hB3:=hB.keep (balloc (Below.refl _ w1) (.cells #[.string c,.slice A ps.length ca,.slice B qs.length cb] 200))
  have hb3:=balloc (blater _ hb1) (.cells #[.string c,.slice A ps.length ca,.slice B qs.length cb] 200)
  have hne:w1.heap.size≠w.heap.size:=by omega
  clear hc1 hf1 hA hB hA1 hB1
  generalize hW0:w1.alloc (.cells #[.string c,.slice A ps.length ca,.slice B qs.length cb] 200)=W0 at *
  clear hW0
  go_region_held3 (fun w'=>w'.cell? ⟨w1.heap.size,0,none⟩=some (.string c)∧w'.cell? ⟨w1.heap.size,1,none⟩=some (.slice A ps.length ca)∧w'.cell? ⟨w1.heap.size,2,none⟩=some (.slice B qs.length cb)∧w'.cell? ⟨w.heap.size,0,none⟩=some (rd w' ⟨w.heap.size,0,none⟩)∧w'.cell? ⟨w.heap.size,1,none⟩=some (rd w' ⟨w.heap.size,1,none⟩)∧w'.cell? ⟨w.heap.size,2,none⟩=some (rd w' ⟨w.heap.size,2,none⟩)∧w'.frozen? ⟨w.heap.size,0,none⟩=false∧w'.frozen? ⟨w.heap.size,1,none⟩=false∧w'.frozen? ⟨w.heap.size,2,none⟩=false∧Reads w' 1 A ps.length (ps.map .string)∧Reads w' 2 B qs.length (pairCells qs)∧Below w.heap.size w w')
   (first | exact⟨f1,f2,f3,rd_of f4,rd_of f5,rd_of f6,f7,f8,f9,hA3,hB3,Below.drew hb3⟩ | (go_split_ands;exact⟨cell_keep hb2 ‹_›,cell_keep hb2 ‹_›,cell_keep hb2 ‹_›,rd_keep hb2 ‹_›,rd_keep hb2 ‹_›,rd_keep hb2 ‹_›,frozen_keep hb2 (cell_lt ‹_›) ‹_›,frozen_keep hb2 (cell_lt ‹_›) ‹_›,frozen_keep hb2 (cell_lt ‹_›) ‹_›,Reads.keep ‹_› hb2,Reads.keep ‹_› hb2,bstep ‹_› hb2⟩) | (go_split_ands;refine⟨?_,?_,?_,rd_set (rd_set (rd_set ‹_›)),rd_set (rd_set (rd_set ‹_›)),rd_set (rd_set (rd_set ‹_›)),?_,?_,?_,((Reads.set_ ‹_› _ _ hA2).set_ _ _ hA2).set_ _ _ hA2,((Reads.set_ ‹_› _ _ hB2).set_ _ _ hB2).set_ _ _ hB2,?_⟩ <;> first | (simp[go_sem, *];done) | (repeat (first | exact .refl _ _ | assumption | refine .drew ?_ | refine balloc ?_ _ | refine bdrewN ?_ _ | refine .setCell ?_ (by simp <;> omega) _ | refine bstep ?_ (by assumption)))))
   ((go_at_call 207;refine (HW.out _ _ _ _ _ (by go_split_ands;assumption) (by go_split_ands;assumption)).mono ?_;rintro e w2 ⟨rfl,hb2⟩))
  go_wp2
  exact bodyPost_ret (v:=.tuple #[.agg #[.string c,.slice A ps.length ca,.slice B qs.length cb],.bool q]) (by have g4:=cell_keep (w:=W0.drew) hb2 f4;have g5:=cell_keep (w:=W0.drew) hb2 f5;have g6:=cell_keep (w:=W0.drew) hb2 f6;simp[results,Tryz.results148,go_sem,g4,g5,g6,HQ.out]) rfl (ReadP.mk_ (by go_split_ands;assumption) (by go_split_ands;assumption) (by go_split_ands;assumption))
 rcases he with rfl | rfl
 all_goals
  rw[show (decide ((_:Int)=0))=false from rfl,Bool.false_and]
  go_enter Tryz.func148,Tryz.ntmps148
  go_wp2_with (go_at_call 203;refine (HP.out _ (hE.keep (balloc (Below.refl _ _) _))).mono ?_;rintro e w1 ⟨hb1,A,ca,B,cb,rfl,hA,hB,hA1,hB1,_⟩;obtain⟨hc1,hf1⟩:=bcell hb1;have hz1_0:w.heap.size<w1.heap.size:=(by have:=hb1.size;(try simp at this);omega))
  have f1:(w1.alloc (.cells #[.string c,.slice A ps.length ca,.slice B qs.length cb] 200)).cell? ⟨w1.heap.size,0,none⟩=some (.string c):=by simp[go_sem]
  have f2:(w1.alloc (.cells #[.string c,.slice A ps.length ca,.slice B qs.length cb] 200)).cell? ⟨w1.heap.size,1,none⟩=some (.slice A ps.length ca):=by simp[go_sem]
  have f3:(w1.alloc (.cells #[.string c,.slice A ps.length ca,.slice B qs.length cb] 200)).cell? ⟨w1.heap.size,2,none⟩=some (.slice B qs.length cb):=by simp[go_sem]
  have f4:(w1.alloc (.cells #[.string c,.slice A ps.length ca,.slice B qs.length cb] 200)).cell? ⟨w.heap.size,0,none⟩=some (.string ⟨#[]⟩):=by simp[go_sem, *]
  have f5:(w1.alloc (.cells #[.string c,.slice A ps.length ca,.slice B qs.length cb] 200)).cell? ⟨w.heap.size,1,none⟩=some (.slice none 0 0):=by simp[go_sem, *]
  have f6:(w1.alloc (.cells #[.string c,.slice A ps.length ca,.slice B qs.length cb] 200)).cell? ⟨w.heap.size,2,none⟩=some (.slice none 0 0):=by simp[go_sem, *]
  have f7:(w1.alloc (.cells #[.string c,.slice A ps.length ca,.slice B qs.length cb] 200)).frozen? ⟨w.heap.size,0,none⟩=false:=by simp[go_sem, *]
  have f8:(w1.alloc (.cells #[.string c,.slice A ps.length ca,.slice B qs.length cb] 200)).frozen? ⟨w.heap.size,1,none⟩=false:=by simp[go_sem, *]
  have f9:(w1.alloc (.cells #[.string c,.slice A ps.length ca,.slice B qs.length cb] 200)).frozen? ⟨w.heap.size,2,none⟩=false:=by simp[go_sem, *]
  have hA2:∀ a,A=some a→a.block≠w.heap.size:=fun a ha=>by have:=hA1 a ha;simp at this;omega
  have hB2:∀ a,B=some a→a.block≠w.heap.size:=fun a ha=>by have:=hB1 a ha;simp at this;omega
  have hA3:=hA.keep (balloc (Below.refl _ w1) (.cells #[.string c,.slice A ps.length ca,.slice B qs.length cb] 200))
  have hB3:=hB.keep (balloc (Below.refl _ w1) (.cells #[.string c,.slice A ps.length ca,.slice B qs.length cb] 200))
  have hb3:=balloc (blater _ hb1) (.cells #[.string c,.slice A ps.length ca,.slice B qs.length cb] 200)
  have hne:w1.heap.size≠w.heap.size:=by omega
  clear hc1 hf1 hA hB hA1 hB1
  generalize hW0:w1.alloc (.cells #[.string c,.slice A ps.length ca,.slice B qs.length cb] 200)=W0 at *
  clear hW0
  go_big_region
  go_wp2
  exact bodyPost_ret (v:=.tuple #[.agg #[.string c,.slice A ps.length ca,.slice B qs.length cb],.bool false]) (by simp[results,Tryz.results148,go_sem,f4,f5,f6]) rfl (ReadP.mk_ belB (((hA3.set_ _ _ hA2).set_ _ _ hA2).set_ _ _ hA2) (((hB3.set_ _ _ hB2).set_ _ _ hB2).set_ _ _ hB2))
theorem split_eq (c:UInt8):∀ (k:Nat) (s:ByteArray),Lib.countB s ⟨#[c]⟩=k→Lib.splitB ⟨#[c]⟩ 0 k s=splitB c s
 | k,s,h=>by
  have hidx:Lib.indexB s ⟨#[c]⟩=Lib.indexByte s.data.toList c:=Lib.index_one s.data.toList c
  by_cases hm:Lib.indexB s ⟨#[c]⟩ = -1
  ·rw[Lib.splitB_miss _ _ _ _ hm,splitB_miss c s (by omega)]
  ·have hge:=Lib.index_ge s.data.toList [c]
   obtain⟨i,hi⟩:∃ i:Nat,Lib.indexB s ⟨#[c]⟩=i:=by
    have:Lib.indexB s ⟨#[c]⟩=Lib.index s.data.toList [c]:=rfl
    exact⟨(Lib.indexB s ⟨#[c]⟩).toNat,by omega⟩
   have hcount:=Lib.countB_hit s ⟨#[c]⟩ i (Nat.le_refl _) hi
   cases k with
   | zero=>omega
   | succ k =>
    rw[Lib.splitB_hit _ _ _ _ i hi,(splitB_hit c s i (by rw[←hidx];exact hi)).1]
    rw[show i+0=i from rfl]
    congr 1
    exact split_eq c k _ (by omega)
theorem count_split (c:UInt8) (s:ByteArray):Lib.countB s ⟨#[c]⟩ + 1=(splitB c s).length:=by
 rw[←split_eq c _ s rfl]
 exact (Lib.splitB_all ⟨#[c]⟩ (Nat.le_refl _) 0 _ s rfl).symm
theorem reads_new (w:World) (t:TypeId) (vs:List Value) (n:Nat) (hn:vs.length=n):Reads (w.alloc (.cells vs.toArray t)) 1 (some ⟨w.heap.size,0,none⟩) n vs :=
 ⟨by omega,fun _=>⟨_,_,rfl,fun j u hu=>by
  have:=World.news_of_block (w:=w.alloc (.cells vs.toArray t)) (World.alloc_heap_new w (.cells vs.toArray t)) j u (by simpa using hu)
  have hadd:(⟨w.heap.size,0,none⟩:Addr).add j=⟨w.heap.size,0+j,none⟩:=by unfold Addr.add;split <;> simp_all
  rw[hadd]at this;exact this⟩⟩
def ListPost (ps:List ByteArray) (w:World) (e:Ending) (w':World):Prop:=Below w.heap.size w w'∧∃ A c,e=.returned (.slice A ps.length c)∧Reads w' 1 A ps.length (ps.map .string)∧(∀ a,A=some a→w.heap.size≤a.block)∧ps.length≤c
theorem split_any (s:ByteArray) (c:UInt8) (w:World) (hs:s.size≤4294967200) (hE:Env w):Calls Tryz.prog 75 #[.string s,.string ⟨#[c]⟩] w (ListPost (splitB c s) w):=by
 obtain⟨m,hm⟩:=hE
 refine (Tryz.strings_Split s ⟨#[c]⟩ m w (by omega) hm (Nat.le_refl _)).mono ?_
 rintro e w' ⟨rfl,rfl⟩
 rw[count_split,split_eq c _ s rfl]
 exact⟨balloc (Below.refl _ _) _,_,_,rfl,reads_new _ _ _ _ (by simp),fun a ha=>by injection ha with ha;subst ha;exact Nat.le_refl _,Nat.le_refl _⟩
def SplitPost (r:List ByteArray × Int) (w:World) (e:Ending) (w':World):Prop:=Below w.heap.size w w'∧∃ A c,e=.returned (.tuple #[.slice A r.1.length c,.int .i64 r.2])∧Reads w' 1 A r.1.length (r.1.map .string)
theorem SplitPost.none_ {w w':World} {er:Int} (hb:Below w.heap.size w w'):SplitPost ([],er) w (.returned (.tuple #[.slice none 0 0,.int .i64 er])) w':=⟨hb,none,0,rfl,Reads.nil_ _ _ _⟩
theorem index_hit (a b:List UInt8) (c:UInt8) (h:c ∉ a):Lib.index (a++c :: b) [c]=a.length:=by
 rw[Lib.index_one]
 induction a with
 | nil=>simp[indexByte_cons]
 | cons x a ih =>
  simp only[List.mem_cons,not_or]at h
  rw[List.cons_append,indexByte_cons,if_neg (fun e=>h.1 e.symm),ih h.2,if_neg (by omega)]
  simp
theorem indexByte_miss (a:List UInt8) (c:UInt8) (h:c ∉ a):Lib.indexByte a c = -1:=by
 induction a with
 | nil=>rfl
 | cons x a ih =>
  simp only[List.mem_cons,not_or]at h
  rw[indexByte_cons,if_neg (fun e=>h.1 e.symm),ih h.2,if_pos rfl]
theorem index_miss (a:List UInt8) (c:UInt8) (h:c ∉ a):Lib.index a [c] = -1:=by
 rw[Lib.index_one];exact indexByte_miss a c h
theorem indexByte_mem (a:List UInt8) (c:UInt8) (h:Lib.indexByte a c<0):c ∉ a:=by
 induction a with
 | nil=>simp
 | cons x a ih =>
  have:=indexByte_ge c a
  rw[indexByte_cons]at h
  split at h
  ·omega
  ·rename_i hne
   split at h
   ·rename_i he
    simp only[List.mem_cons,not_or]
    exact⟨fun e=>hne e.symm,ih (by omega)⟩
   ·omega
theorem cut_hit (a b:List UInt8) (c:UInt8) (h:c ∉ a):Lib.cut (a++c :: b) [c]=(a,b,true):=by
 unfold Lib.cut
 rw[index_hit a b c h,if_pos (by omega)]
 simp
theorem cut_none (a:List UInt8) (c:UInt8) (h:c ∉ a):Lib.cut a [c]=(a,[],false):=by
 unfold Lib.cut
 rw[index_miss a c h,if_neg (by omega)]
theorem split_hit (a b:List UInt8) (c:UInt8) (h:c ∉ a):splitL c (a++c :: b)=a :: splitL c b:=by
 induction a with
 | nil=>simp[splitL]
 | cons x a ih =>
  simp only[List.mem_cons,not_or]at h
  rw[List.cons_append,splitL,if_neg (fun e=>h.1 e.symm),ih h.2]
theorem split_none (a:List UInt8) (c:UInt8) (h:c ∉ a):splitL c a=[a]:=splitL_miss c a (by rw[indexByte_miss a c h];omega)
theorem split_path:∀ (x:List UInt8) (l:List (List UInt8)),47 ∉ x→(∀ y∈l,47 ∉ y)→splitL 47 (x++pathL l)=x :: l
 | x,[],h,_=>by simp[pathL,split_none x 47 h]
 | x,y :: l,h,hl=>by
  have e:x++pathL (y :: l)=x++47 :: (y++pathL l):=by simp[pathL]
  rw[e,split_hit _ _ _ h,split_path y l (hl y (by simp)) (fun z hz=>hl z (by simp[hz]))]
theorem letter_no (b:UInt8) (h:letterB b=true):b≠47∧b≠63∧b≠38∧b≠61∧b≠42∧b≠44∧¬ (65≤b.toNat∧b.toNat≤90):=by
 unfold letterB isLetN at h
 simp only[decide_eq_true_eq]at h
 have k:∀ c:Nat,c<256→b.toNat≠c→b≠UInt8.ofNat c:=fun c hc h e=>h (by rw[e,UInt8.toNat_ofNat'];omega)
 exact⟨k 47 (by omega) (by omega),k 63 (by omega) (by omega),k 38 (by omega) (by omega),k 61 (by omega) (by omega),k 42 (by omega) (by omega),k 44 (by omega) (by omega),by omega⟩
theorem word_letters {s:ByteArray} (h:isWordB s=true):∀ b∈s.data.toList,letterB b=true:=by
 unfold isWordB at h
 simp only[Bool.and_eq_true,List.all_eq_true]at h
 exact h.2
theorem name_word {s:ByteArray} (h:isNameB s=true):isWordB s=true:=by
 unfold isNameB at h
 simp only[Bool.and_eq_true]at h
 exact h.1
theorem word_no {s:ByteArray} (h:isWordB s=true):47 ∉ s.data.toList∧63 ∉ s.data.toList∧38 ∉ s.data.toList∧61 ∉ s.data.toList∧42 ∉ s.data.toList∧44 ∉ s.data.toList :=
 ⟨fun hm=>(letter_no _ (word_letters h _ hm)).1 rfl,fun hm=>(letter_no _ (word_letters h _ hm)).2.1 rfl,fun hm=>(letter_no _ (word_letters h _ hm)).2.2.1 rfl,fun hm=>(letter_no _ (word_letters h _ hm)).2.2.2.1 rfl,fun hm=>(letter_no _ (word_letters h _ hm)).2.2.2.2.1 rfl,fun hm=>(letter_no _ (word_letters h _ hm)).2.2.2.2.2.1 rfl⟩
theorem word_ne {s:ByteArray} (h:isWordB s=true):s.data.toList ≠ []∧s.data.toList ≠ [46]∧s.data.toList ≠ [46,46]∧s.size≤64:=by
 unfold isWordB at h
 simp only[Bool.and_eq_true,Bool.not_eq_true',decide_eq_true_eq,Lib.toList_data]at h
 obtain⟨⟨⟨⟨h1,h2⟩,h3⟩,h4⟩,_⟩:=h
 exact⟨by intro e;simp[e]at h1,by intro e;simp[e]at h3,by intro e;simp[e]at h4,h2⟩
theorem beq_bytes (a b:ByteArray):(a.toList==b.toList)=true↔a=b:=by
 rw[Lib.toList_data,Lib.toList_data,beq_iff_eq]
 exact⟨bytes_ext,fun h=>by rw[h]⟩
theorem has0 (t w:ByteArray):hasP 0 t w=true↔t=w:=by
 unfold hasP;rw[if_pos rfl];exact beq_bytes t w
theorem has1 (t w:ByteArray):hasP 1 t w=true↔t.size<w.size∧t.data.toList <:+ w.data.toList:=by
 unfold hasP
 rw[if_neg (by decide),if_pos rfl]
 simp only[Bool.and_eq_true,decide_eq_true_eq,Lib.hasSuffix,List.isSuffixOf_iff_suffix]
theorem has2 (t w:ByteArray):hasP 2 t w=true:=by
 unfold hasP;rw[if_neg (by decide),if_neg (by decide)]
theorem cov0 (k:Nat) (t t2:ByteArray):coversP k t 0 t2=hasP k t t2:=by
 unfold coversP;rw[if_pos rfl]
theorem cov1 (k:Nat) (t t2:ByteArray):coversP k t 1 t2=true↔k=2∨(k=1∧t.data.toList <:+ t2.data.toList):=by
 unfold coversP
 rw[if_neg (by decide),if_pos rfl]
 simp only[Bool.or_eq_true,Bool.and_eq_true,beq_iff_eq,Lib.hasSuffix,List.isSuffixOf_iff_suffix]
theorem cov2 (k:Nat) (t t2:ByteArray):coversP k t 2 t2=true↔k=2:=by
 unfold coversP
 rw[if_neg (by decide),if_neg (by decide),beq_iff_eq]
def PartFit (p:Part):Prop :=
 (p.kind=0∧isWordB p.text=true)∨(p.kind=1∧∃ s:ByteArray,isWordB s=true∧s.size≤32∧p.text.data.toList=46 :: s.data.toList)∨(p.kind=2∧p.text=⟨#[]⟩)
def CustFit (p:Part):Prop:=(p.kind=0∧isNameB p.text=true)∨(p.kind=2∧p.text=⟨#[]⟩)
theorem CustFit.part {p:Part} (h:CustFit p):PartFit p:=by
 rcases h with ⟨h1,h2⟩ | h
 ·exact .inl ⟨h1,name_word h2⟩
 ·exact .inr (.inr h)
theorem size_data (s:ByteArray):s.size=s.data.toList.length:=Lib.size_eq s
theorem covers_sound {p q:Part} (hq:PartFit q) (h:coversP p.kind p.text q.kind q.text=true) (w:ByteArray) (hw:hasP q.kind q.text w=true):hasP p.kind p.text w=true:=by
 obtain⟨k,t⟩:=p
 obtain⟨k2,t2⟩:=q
 dsimp only at *
 rcases hq with ⟨hk,_⟩ | ⟨hk,_⟩ | ⟨hk,_⟩ <;> dsimp only at hk <;> subst hk
 ·rw[cov0]at h
  rw[has0]at hw
  subst hw
  exact h
 ·rw[has1]at hw
  rcases (cov1 k t t2).1 h with rfl | ⟨rfl,hs⟩
  ·exact has2 _ _
  ·rw[has1]
   have:=hs.length_le
   rw[←size_data,←size_data]at this
   exact⟨by omega,hs.trans hw.2⟩
 ·rw[cov2]at h
  subst h
  exact has2 _ _
theorem meets_has {p q:Part} (hp:PartFit p) (hq:PartFit q) (h:meetsP p q=true) (w:ByteArray) :
  hasP (meetP p q).kind (meetP p q).text w=(hasP p.kind p.text w&&hasP q.kind q.text w):=by
 unfold meetsP at h
 unfold meetP
 cases hc:coversP p.kind p.text q.kind q.text
 ·rw[hc,Bool.false_or]at h
  simp only[Bool.false_eq_true,if_false]
  cases hw:hasP p.kind p.text w
  ·rfl
  ·rw[covers_sound hp h w hw];rfl
 ·simp only[if_true]
  cases hw:hasP q.kind q.text w
  ·rw[Bool.and_false]
  ·rw[covers_sound hq hc w hw];rfl
theorem meetP_fit {p q:Part} (hp:PartFit p) (hq:PartFit q):PartFit (meetP p q):=by
 unfold meetP;split <;> assumption
theorem meetP_cust {p q:Part} (hp:CustFit p) (hq:CustFit q):CustFit (meetP p q):=by
 unfold meetP;split <;> assumption
structure CondMem where
 A:Option Addr
 ca:Nat
 B:Option Addr
 cb:Nat
 S:Option Addr
 cs:Nat
structure CondReads (w:World) (c:CondV) (m:CondMem):Prop where
 cl:Reads w 1 m.A c.cl.length (c.cl.map .string)
 co:Reads w 1 m.B c.co.length (c.co.map .string)
 si:Reads w 1 m.S c.si.length (c.si.map (.int .i64))
theorem CondReads.keep {w w':World} {c:CondV} {m:CondMem} (h:CondReads w c m) (hb:Below w.heap.size w w'):CondReads w' c m:=⟨h.cl.keep hb,h.co.keep hb,h.si.keep hb⟩
def CondMem.val (c:CondV) (m:CondMem):Value:=.agg #[.int .i64 c.fr,.int .i64 c.till,.string c.pat,.slice m.A c.cl.length m.ca,.slice m.B c.co.length m.cb,.slice m.S c.si.length m.cs,.int .i64 c.us]
def CBox (w:World) (g:Nat) (fr till:Int) (pat:ByteArray) (A:Option Addr) (na ca:Nat) (B:Option Addr) (nb cb:Nat) (S:Option Addr) (ns cs:Nat) (us:Int):Prop:=Blk w g 27 #[.int .i64 fr,.int .i64 till,.string pat,.slice A na ca,.slice B nb cb,.slice S ns cs,.int .i64 us] (0,0)
section
variable {w:World} {g:Nat} {fr till us:Int} {pat:ByteArray} {A B S:Option Addr} {na ca nb cb ns cs:Nat}
theorem CBox.facts (h:CBox w g fr till pat A na ca B nb cb S ns cs us) :
  w.cell? ⟨g,0,none⟩=some (.int .i64 fr)∧w.cell? ⟨g,1,none⟩=some (.int .i64 till)∧w.cell? ⟨g,2,none⟩=some (.string pat)∧w.cell? ⟨g,3,none⟩=some (.slice A na ca)∧w.cell? ⟨g,4,none⟩=some (.slice B nb cb)∧w.cell? ⟨g,5,none⟩=some (.slice S ns cs)∧w.cell? ⟨g,6,none⟩=some (.int .i64 us) :=
 ⟨Blk.cell h 0,Blk.cell h 1,Blk.cell h 2,Blk.cell h 3,Blk.cell h 4,Blk.cell h 5,Blk.cell h 6⟩
end
def fewC (na nb ns:Nat) (pat:ByteArray) (cl co:List ByteArray):Bool:=decide (na≤40)&&decide (nb≤40)&&decide (ns≤70)&&decide (pat.size≤1000)&&cl.all (fun x=>decide (x.size≤100))&&co.all (fun x=>decide (x.size≤100))
theorem all_take2 {α:Type} {p:α→Bool} {l:List α} {k:Nat} {x:α} (h:(l.take k).all p=true) (hx:l[k]? = some x) (hp:p x=true):(l.take (k+1)).all p=true:=by
 rw[List.take_add_one,hx]
 simp[h,hp]
theorem all_false2 {α:Type} {p:α→Bool} {l:List α} {k:Nat} {x:α} (hx:l[k]? = some x) (hp:p x=false):l.all p=false:=by
 rw[List.all_eq_false]
 exact⟨x,List.mem_of_getElem? hx,by rw[hp];decide⟩
theorem rFew_any (fr till us:Int) (pat:ByteArray) (A B S:Option Addr) (na ca nb cb ns cs:Nat) (cl co:List ByteArray) (w:World) (hA:Reads w 1 A na (cl.map .string)) (hB:Reads w 1 B nb (co.map .string)) :
  Calls Tryz.prog 9 #[.agg #[.int .i64 fr,.int .i64 till,.string pat,.slice A na ca,.slice B nb cb,.slice S ns cs,.int .i64 us]] w (Ret w (.bool (fewC na nb ns pat cl co))):=by
 have hna:cl.length=na:=by have:=hA.1;simp at this;omega
 have hnb:co.length=nb:=by have:=hB.1;simp at this;omega
 obtain⟨V,hV⟩:∃ V,V=fewC na nb ns pat cl co:=⟨_,rfl⟩
 rw[←hV]
 unfold fewC at hV
 have HA:=Lib.hid hA;have HB:=Lib.hid hB;have HNA:=Lib.hid hna;have HNB:=Lib.hid hnb
 clear hA hB hna hnb
 by_cases h1:na≤40
 rotate_left
 ·obtain rfl:V=false:=by rw[hV];simp[h1]
  have d1:decide ((40:Int)<(na:Int))=true:=decide_eq_true (by omega)
  clear hV
  go_enter Tryz.func9,Tryz.ntmps9
  go_wp2
  go_ret
  exact⟨rfl,belB⟩
 have d1:decide ((40:Int)<(na:Int))=false:=decide_eq_false (by omega)
 by_cases h2:nb≤40
 rotate_left
 ·obtain rfl:V=false:=by rw[hV];simp[h2]
  have d2:decide ((40:Int)<(nb:Int))=true:=decide_eq_true (by omega)
  clear hV
  go_enter Tryz.func9,Tryz.ntmps9
  go_wp2
  go_ret
  exact⟨rfl,belB⟩
 have d2:decide ((40:Int)<(nb:Int))=false:=decide_eq_false (by omega)
 by_cases h3:ns≤70
 rotate_left
 ·obtain rfl:V=false:=by rw[hV];simp[h3]
  have d3:decide ((70:Int)<(ns:Int))=true:=decide_eq_true (by omega)
  clear hV
  go_enter Tryz.func9,Tryz.ntmps9
  go_wp2
  go_ret
  exact⟨rfl,belB⟩
 have d3:decide ((70:Int)<(ns:Int))=false:=decide_eq_false (by omega)
 by_cases h4:pat.size≤1000
 rotate_left
 ·obtain rfl:V=false:=by rw[hV];simp[h4]
  have d4:decide ((1000:Int)<(pat.size:Int))=true:=decide_eq_true (by omega)
  clear hV
  go_enter Tryz.func9,Tryz.ntmps9
  go_wp2
  go_ret
  exact⟨rfl,belB⟩
 have d4:decide ((1000:Int)<(pat.size:Int))=false:=decide_eq_false (by omega)
 have hv2:V=(cl.all (fun x=>decide (x.size≤100))&&co.all (fun x=>decide (x.size≤100))):=by rw[hV];simp[h1,h2,h3,h4]
 have HV:=Lib.hid hv2
 clear hV hv2
 go_enter Tryz.func9,Tryz.ntmps9
 go_wp2
 have hX0:CBox (w.alloc (.cells #[.int .i64 fr,.int .i64 till,.string pat,.slice A na ca,.slice B nb cb,.slice S ns cs,.int .i64 us] 27)) w.heap.size fr till pat A na ca B nb cb S ns cs us:=World.alloc_heap_new _ _
 go_loopw [3] (fun vi wr=>∃ k:Nat,vi=.int .i64 k∧k≤na∧Hid ((cl.take k).all (fun x=>decide (x.size≤100))=true)∧CBox wr w.heap.size fr till pat A na ca B nb cb S ns cs us∧Below w.heap.size w wr) (fun i _=>na-(intOf i).toNat)
 case atStart=>exact⟨0,rfl,Nat.zero_le _,Lib.hid (by simp),hX0,balloc (Below.refl _ _) _⟩
 case round =>
  clear hX0
  obtain⟨k,rfl,hk,HK,hX,hbr⟩:=hrel
  obtain⟨x0,x1,x2,x3,x4,x5,x6⟩:=hX.facts
  by_cases hlt:k<na
  ·obtain⟨x,hx⟩:∃ x,cl[k]? = some x:=⟨_,List.getElem?_eq_getElem (by have:=HNA.out;omega)⟩
   obtain⟨b,o,rfl,hcell⟩:=(HA.out.keep hbr).2 (by omega)
   have hc1:wr.cell? ⟨b,o+k,none⟩=some (.string x):=hcell k _ (by simp[hx])
   have hk0:(0:Int)≤(k:Int):=by omega
   have hk1:(k:Int)<(na:Int):=by omega
   by_cases hs:x.size≤100
   ·have HK2:Hid ((cl.take (k+1)).all (fun x=>decide (x.size≤100))=true):=Lib.hid (all_take2 HK.out hx (by simpa using hs))
    have d5:decide ((100:Int)<(x.size:Int))=false:=decide_eq_false (by omega)
    clear hcell hx HK
    go_wp2
    exact⟨⟨k+1,by go_num,by omega,HK2,hX,hbr⟩,by simp[intOf];omega⟩
   ·obtain rfl:V=false:=by rw[HV.out,all_false2 hx (by simpa using hs)];rfl
    have d5:decide ((100:Int)<(x.size:Int))=true:=decide_eq_true (by omega)
    clear hcell hx HK
    go_wp2
    go_ret
    exact⟨rfl,hbr⟩
  ·obtain rfl:k=na:=by omega
   have hall:cl.all (fun x=>decide (x.size≤100))=true:=by
    have:=HK.out
    rwa [List.take_of_length_le (by have:=HNA.out;omega)]at this
   have hv3:V=co.all (fun x=>decide (x.size≤100)):=by rw[HV.out,hall,Bool.true_and]
   have HV2:=Lib.hid hv3
   clear hall hv3 HK HV
   go_wp2
   clear x0 x1 x2 x3 x4 x5 x6
   obtain⟨wo,rfl⟩:∃ wo:World,wo=wr:=⟨_,rfl⟩
   go_loopw [4] (fun vi wz=>∃ j:Nat,vi=.int .i64 j∧j≤nb∧Hid ((co.take j).all (fun x=>decide (x.size≤100))=true)∧CBox wz w.heap.size fr till pat A k ca B nb cb S ns cs us∧Below w.heap.size w wz) (fun i _=>nb-(intOf i).toNat)
   case atStart=>exact⟨0,rfl,Nat.zero_le _,Lib.hid (by simp),hX,hbr⟩
   case round =>
    clear hX hbr
    obtain⟨j,rfl,hj,HJ,hX,hbr⟩:=hrel
    obtain⟨x0,x1,x2,x3,x4,x5,x6⟩:=hX.facts
    by_cases hlt2:j<nb
    ·obtain⟨x,hx⟩:∃ x,co[j]? = some x:=⟨_,List.getElem?_eq_getElem (by have:=HNB.out;omega)⟩
     obtain⟨b,o,rfl,hcell⟩:=(HB.out.keep hbr).2 (by omega)
     have hc1:wr.cell? ⟨b,o+j,none⟩=some (.string x):=hcell j _ (by simp[hx])
     have hj0:(0:Int)≤(j:Int):=by omega
     have hj1:(j:Int)<(nb:Int):=by omega
     by_cases hs:x.size≤100
     ·have HJ2:Hid ((co.take (j+1)).all (fun x=>decide (x.size≤100))=true):=Lib.hid (all_take2 HJ.out hx (by simpa using hs))
      have d5:decide ((100:Int)<(x.size:Int))=false:=decide_eq_false (by omega)
      clear hcell hx HJ
      go_wp2
      exact⟨⟨j+1,by go_num,by omega,HJ2,hX,hbr⟩,by simp[intOf];omega⟩
     ·obtain rfl:V=false:=by rw[HV2.out,all_false2 hx (by simpa using hs)]
      have d5:decide ((100:Int)<(x.size:Int))=true:=decide_eq_true (by omega)
      clear hcell hx HJ
      go_wp2
      go_ret
      exact⟨rfl,hbr⟩
    ·obtain rfl:j=nb:=by omega
     have hall:co.all (fun x=>decide (x.size≤100))=true:=by
      have:=HJ.out
      rwa [List.take_of_length_le (by have:=HNB.out;omega)]at this
     obtain rfl:V=true:=by rw[HV2.out,hall]
     go_wp2
     go_ret
     exact⟨rfl,hbr⟩
theorem cmpOr_any (g c:Nat) (a b:ByteArray) (w:World) (h0:w.cell? ⟨g,0,none⟩=some (.string a)) (h1:w.cell? ⟨g,1,none⟩=some (.string b)):Calls Tryz.prog 108 #[.slice (some ⟨g,0,none⟩) 2 c] w (Ret w (.string (if a.size=0 then b else a))):=by
 have hE:∀ s:ByteArray,s.size=0→s=⟨#[]⟩:=fun s h=>bytes_ext (List.eq_nil_of_length_eq_zero (by rw[←Lib.size_eq];exact h))
 have hN:∀ s:ByteArray,s.size≠0→¬ s.toList=[]:=fun s h e=>h (by rw[Lib.toList_data]at e;rw[Lib.size_eq,e];rfl)
 obtain⟨V,hV⟩:∃ V,V=if a.size=0 then b else a:=⟨_,rfl⟩
 rw[←hV]
 have HV:=Lib.hid hV
 have H0:=Lib.hid h0
 have H1:=Lib.hid h1
 clear h0 h1 hV
 go_enter Tryz.func108,Tryz.ntmps108
 go_wp2
 go_loopw [8] (fun vi wr=>∃ k:Nat,vi=.int .i64 k∧k≤2∧Hid ((0<k→a.size=0)∧(1<k→b.size=0))∧Below w.heap.size w wr) (fun i _=>2-(intOf i).toNat)
 case atStart=>exact⟨0,rfl,by omega,Lib.hid ⟨fun h=>by omega,fun h=>by omega⟩,Below.refl _ _⟩
 case round =>
  obtain⟨k,rfl,hk,HK,hbr⟩:=hrel
  have c0:=cell_keep hbr H0.out
  have c1:=cell_keep hbr H1.out
  by_cases hlt:k<2
  ·rcases k with _ | _ | k
   ·by_cases hs:a.size=0
    ·have ha:=hE a hs
     have HK2:Hid ((0<1→a.size=0)∧(1<1→b.size=0)):=Lib.hid ⟨fun _=>hs,fun h=>by omega⟩
     rw[ha]at c0
     clear HK ha
     go_wp2
     exact⟨⟨1,by go_num,by omega,HK2,hbr⟩,by simp[intOf];try omega⟩
    ·have hn:=hN a hs
     have hn2:(a.toList == [])=false:=by simpa using hn
     obtain rfl:V=a:=by rw[HV.out,if_neg hs]
     clear HK
     go_wp2
     go_ret
     exact⟨rfl,hbr⟩
   ·have hs:=HK.out.1 (by omega)
    obtain rfl:V=b:=by rw[HV.out,if_pos hs]
    by_cases hs2:V.size=0
    ·have hb:=hE V hs2
     have HK2:Hid ((0<2→a.size=0)∧(1<2→V.size=0)):=Lib.hid ⟨fun _=>hs,fun _=>hs2⟩
     rw[hb]at c1
     clear HK hb
     go_wp2
     exact⟨⟨2,by go_num,by omega,HK2,hbr⟩,by simp[intOf];try omega⟩
    ·have hn:=hN V hs2
     have hn2:(V.toList == [])=false:=by simpa using hn
     clear HK
     go_wp2
     go_ret
     exact⟨rfl,hbr⟩
   ·omega
  ·obtain rfl:k=2:=by omega
   have hs:=HK.out.1 (by omega)
   have hs2:=HK.out.2 (by omega)
   obtain rfl:V=⟨#[]⟩:=by rw[HV.out,if_pos hs,hE b hs2]
   go_wp2
   go_ret
   exact⟨rfl,hbr⟩
theorem byte_at (s:ByteArray) (k:Nat) (h:k<s.size):s[k]=s.data.toList[k]'(by rw[←Lib.size_eq];exact h):=by simp;rfl
end Go.Proofs.YtlkbkclnbppigaaGreatDoor
