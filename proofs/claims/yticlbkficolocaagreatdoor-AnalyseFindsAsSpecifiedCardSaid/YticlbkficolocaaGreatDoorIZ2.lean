/- A range over a function whose iterator yields a known list of values and may write cells of its own (the relation T) between two rounds. (Turned from the kit's own law for iterators that only read.) -/
import Derived.Test.YticlbkficolocaaGreatDoorIZ0
import Derived.RangeFuncNested
import Derived.RangeFuncBound
set_option maxHeartbeats 4000000
namespace Go.Proofs.YticlbkficolocaaGreatDoor
open Go.RowKit Go.Sort
set_option linter.unusedVariables false
set_option linter.unusedSimpArgs false
def J6 (lo hi:Nat) (W W':World):Prop:=∀ k,lo≤k→k<hi→W'.heap[k]? = W.heap[k]?
theorem J6.refl (lo hI0:Nat) (W:World):J6 lo hI0 W W:=fun _ _ _=>rfl
theorem J6.trans {lo hi:Nat} {A B C:World} (h:J6 lo hi A B) (k:J6 lo hi B C):J6 lo hi A C:=fun i h1 h2=>(k i h1 h2).trans (h i h1 h2)
theorem Below.keepsIn {B lo hI0:Nat} {W W':World} (h:Below B W W') (hh:hI0≤B):J6 lo hI0 W W':=fun k _ h2=>h.block k (by omega)
def Iter (P:Program) (gf:Nat) (lb:Array Value) (xs:List Value) (T:World→World→Prop) (lo hI0:Nat) (w:World):Prop :=
 ∀ (l:Nat) (J:Nat→World→Prop) (Jx:World→Prop) (W:World),Below w.heap.size w W→AbidesFrom W.heap.size J→(∀ k W W',J k W→T W W'→J k W') →
  (∀ k x W1,xs[k]? = some x→J k W1→YieldAt Fence.wide 0 P l #[x] W1 fun e W' =>
   (e=.returned (.bool true)∧J (k+1) W'∧J6 lo hI0 W1 W')∨(e=.returned (.bool false)∧Jx W')) →
  J 0 W →
  CallsIn Fence.wide 0 P gf (#[.func (.yield l) #[] #[]]++lb) W fun e W'=>(∃ v,e=.returned v)∧(J xs.length W'∨Jx W')
def roundPostI (B lo hI0:Nat) (I:Nat→World→Prop) (Ix:Code→World→Prop) (k:Nat) (W:World):Exit→Act→World→Prop
 | .normal,_,W'=>KeepsFrom B W W'∧J6 lo hI0 W W'∧I k W'
 | .ret,_,W'=>KeepsFrom B W W'∧Ix .ret W'
 | .exit id,_,W'=>KeepsFrom B W W'∧Ix (.exit id) W'
 | .goto t,_,W'=>KeepsFrom B W W'∧Ix (.goto t) W'
 | .panic _,_,_=>False
 | .outgrown,_,_=>False
theorem range_law {P:Program} {g:Operand} {p:Tmp} {assign body:Code} {Q:Exit→Act→World→Prop} {a:Act} {w:World}
  {gf:Nat} {lb:Array Value} (hg:a.eval g=.func (.func gf) #[] lb) (eg:∀ args w,(callFunc gf args).run P w=.ok (.enter gf args) w)
  {xs:List Value} {T:World→World→Prop} {lo hI0:Nat} {w0:World} (hseq:Iter P gf lb xs T lo hI0 w0) (hb0:Below w0.heap.size w0 w) (hn:hI0≤w.heap.size)
  (I:Nat→World→Prop) (Ix:Code→World→Prop) (hI:OwnFrom w.heap.size I) (hIx:∀ c,OwnFrom w.heap.size (fun (_:Unit)=>Ix c)) (h0:I 0 w)
  (hT:∀ k W W',I k W→T W W'→I k W') (hTk:∀ W W',T W W'→KeepsOthers W W') (a₁:Value→Act)
  (hassign:∀ (l:Nat) (x:Value) (W:World) (K:Act→World→Prop),x∈xs→K (a₁ x) W →
   assign.wpIn (Fence.wide.inRound l) 0 P (Exit.then K (fun _ _ _=>False)) { tmps:=(#[p].zip #[x]).foldl (fun t (p,v)=>t.setIfInBounds p v) a.tmps,defers:=[] } W)
  (hbody:∀ (l k:Nat) (x:Value) (W:World),xs[k]? = some x→I k W→body.wpIn (Fence.wide.inRound l) 0 P (roundPostI w.heap.size lo hI0 I Ix (k+1) W) (a₁ x) W)
  (hdone:∀ (D:Nat) (W:World),w.heap.size≤D→I xs.length W→W.heap[D]? = some (.deferred (some []))→Q .normal { a with defers:={ target:=.collected D,args:=#[] } :: a.defers } W)
  (hstop:∀ (D:Nat) (c:Code) (W:World),w.heap.size≤D→Ix c W→W.heap[D]? = some (.deferred (some []))→c.wpIn Fence.wide 0 P Q { a with defers:={ target:=.collected D,args:=#[] } :: a.defers } W) :
  (Code.rangeFunc g #[p] assign body).wpIn Fence.wide 0 P Q a w:=by
 refine wpIn_rangeFunc ?_
 intro fn hfn
 obtain⟨rec,hrec⟩:∃ rec:LoopState→Option Code→Loop,rec=fun st pe=>{ state:=st,pending:=pe,fn,tmps:=a.tmps,params:=#[p],assign,body,defers:=w.heap.size }:=⟨_,rfl⟩
 obtain⟨W1,hW1⟩:∃ W1,(w.alloc (.deferred (some []))).alloc (.loop (rec .ready none))=W1:=⟨_,rfl⟩
 have hL1:W1.heap[w.heap.size+1]? = some (.loop (rec .ready none)):=by
  rw[←hW1];have:=World.alloc_heap_new (w.alloc (.deferred (some []))) (.loop (rec .ready none));rwa [World.size_alloc]at this
 have hK1:W1.heap[w.heap.size]? = some (.deferred (some [])):=by
  rw[←hW1];exact (Below.heap_alloc _ _ _ (by simp)).trans (World.alloc_heap_new w _)
 have hI1:I 0 W1:=by rw[←hW1];exact hI.alloc _ (hI.alloc _ h0)
 have hb1:Below w0.heap.size w0 W1:=by rw[←hW1];exact Qk (Qk hb0 _) _
 have hbk:∀ (W:World) (l:Nat) (o:Obj),w.heap.size≤l→l<W.heap.size→J6 lo hI0 W (W.putObj l o):=fun W l o h1 h2 k _ hk=>World.putObj_heap_other (by omega)
 refine⟨w.heap.size+1,[{ target:=.collected w.heap.size,args:=#[] }],W1,{ target:=.fn (.func gf) lb,args:=#[.func (.yield (w.heap.size+1)) #[] #[]] },W1,gf,
  #[.func (.yield (w.heap.size+1)) #[] #[]]++lb,W1,?_,?_,?_,?_,(fun h=>(by cases h)),?_⟩
 ·rw[←hW1,hrec];exact run_enterLoop_outer _ _ _ _ _
 ·simp only[resolve,hg]
  simp[go_sem]
 ·intro f' hf';trivial
 ·simp[invoke,go_sem,eg]
 ·have hnw:∀ {A B:World} {row:Option Nat},(∀ r,row=some r→W1.heap.size≤r∧∃ o:Obj,A.heap[r]? = some o∧o.isWalk=true)→(∀ r,row=some r→w.heap.size≤r∧∃ o:Obj,A.heap[r]? = some o∧o.isCells=false) :=
   fun hr r e=>by obtain⟨hB,o,ho,hw⟩:=hr r e;exact⟨by rw[←hW1]at hB;simp at hB;omega,o,ho,Obj.not_cells_of_walk hw⟩
  refine (hseq (w.heap.size+1)
   (fun k W=>I k W∧W.heap[w.heap.size+1]? = some (.loop (rec .ready none))∧W.heap[w.heap.size]? = some (.deferred (some [])))
   (fun W=>∃ c,Ix c W∧W.heap[w.heap.size+1]? = some (.loop (rec .done (some c)))∧W.heap[w.heap.size]? = some (.deferred (some [])))
   W1 hb1
   (fun s A B row hs hg' hr=>⟨hI s A B row hs.1 hg' (hnw (B:=B) hr),(grownBy_keeps hg' (fun r e=>(hr r e).2) hs.2.1 rfl).trans hs.2.1,(grownBy_keeps hg' (fun r e=>(hr r e).2) hs.2.2 rfl).trans hs.2.2⟩)
   (fun k A B hs ht=>⟨hT k A B hs.1 ht,(hTk A B ht).same _ _ hs.2.1 rfl,(hTk A B ht).same _ _ hs.2.2 rfl⟩)
   ?_ ⟨hI1,hL1,hK1⟩).mono ?_
  ·rintro k x W hx ⟨hi,hl,hk⟩
   have hlt:w.heap.size+1<W.heap.size:=(Array.getElem?_eq_some_iff.1 hl).1
   have hy:=run_yield (P:=P) (args:=#[x]) hl (by rw[hrec];rfl)
   rw[hrec]at hy
   refine⟨fn,_,assign,body,hy,roundIn_of_wpIn hfn (hassign _ x W _ (List.mem_of_getElem? hx) ⟨_,run_beginRound hl (by rw[hrec]),?_⟩)⟩
   have hl2:(W.putObj (w.heap.size+1) (.loop { rec .ready none with state:=.busy })).heap[w.heap.size+1]? = some (.loop { rec .ready none with state:=.busy }):=World.putObj_heap_same hlt
   have hk2:(W.putObj (w.heap.size+1) (.loop { rec .ready none with state:=.busy })).heap[w.heap.size]? = some (.deferred (some [])):=(World.putObj_heap_other (by omega)).trans hk
   have hw2:J6 lo hI0 W (W.putObj (w.heap.size+1) (.loop { rec .ready none with state:=.busy })):=hbk _ _ _ (by omega) hlt
   refine wpIn_mono (hbody _ k x _ hx (hI.putObj _ hi (by omega) hl rfl)) ?_
   have fin:∀ (jump:Option Code) (W3:World),KeepsFrom w.heap.size (W.putObj (w.heap.size+1) (.loop { rec .ready none with state:=.busy })) W3 →
     (Instr.endRound (w.heap.size+1) jump).run P W3=.ok (.bool jump.isNone) (W3.putObj (w.heap.size+1) (.loop (rec (if jump.isNone then .ready else .done) jump))) ∧
     W3.heap[w.heap.size+1]? = some (.loop { rec .ready none with state:=.busy }) ∧
     (W3.putObj (w.heap.size+1) (.loop (rec (if jump.isNone then .ready else .done) jump))).heap[w.heap.size+1]? = some (.loop (rec (if jump.isNone then .ready else .done) jump)) ∧
     (W3.putObj (w.heap.size+1) (.loop (rec (if jump.isNone then .ready else .done) jump))).heap[w.heap.size]? = some (.deferred (some [])):=fun jump W3 hk3=>by
    have hl3:=hk3.same _ _ (by omega) hl2 rfl
    have:=run_endRound (P:=P) jump hl3
    rw[hrec]at this ⊢
    exact⟨this,by rw[hrec]at hl3;exact hl3,World.putObj_heap_same (Array.getElem?_eq_some_iff.1 hl3).1,(World.putObj_heap_other (by omega)).trans (hk3.same _ _ (Nat.le_refl _) hk2 rfl)⟩
   rintro e a3 W3 hp
   cases e with
   | normal =>
    obtain⟨hk3,hkp3,hi3⟩:=hp
    obtain⟨hr,hl3,hl4,hk4⟩:=fin none W3 hk3
    have hlt3:=(Array.getElem?_eq_some_iff.1 hl3).1
    exact⟨_,_,hr,.inl ⟨rfl,⟨hI.putObj _ hi3 (by omega) hl3 rfl,hl4,hk4⟩,(hw2.trans hkp3).trans (hbk _ _ _ (by omega) hlt3)⟩⟩
   | ret =>
    obtain⟨hk3,hi3⟩:=hp
    obtain⟨hr,hl3,hl4,hk4⟩:=fin (some .ret) W3 hk3
    exact⟨_,_,hr,.inr ⟨rfl,.ret,(hIx _).putObj (s:=()) _ hi3 (by omega) hl3 rfl,hl4,hk4⟩⟩
   | exit id =>
    obtain⟨hk3,hi3⟩:=hp
    obtain⟨hr,hl3,hl4,hk4⟩:=fin (some (.exit id)) W3 hk3
    exact⟨_,_,hr,.inr ⟨rfl,.exit id,(hIx _).putObj (s:=()) _ hi3 (by omega) hl3 rfl,hl4,hk4⟩⟩
   | goto t =>
    obtain⟨hk3,hi3⟩:=hp
    obtain⟨hr,hl3,hl4,hk4⟩:=fin (some (.goto t)) W3 hk3
    exact⟨_,_,hr,.inr ⟨rfl,.goto t,(hIx _).putObj (s:=()) _ hi3 (by omega) hl3 rfl,hl4,hk4⟩⟩
   | panic ch=>exact hp.elim
   | outgrown=>exact hp.elim
  ·rintro e W2 ⟨⟨v,rfl⟩,(⟨hi,hl,hk⟩ | ⟨c,hi,hl,hk⟩)⟩
   ·exact⟨none,_,by have:=run_endLoop (P:=P) hl (by rw[hrec];simp);rw[hrec]at this;exact this,hdone _ _ (Nat.le_refl _) (hI.putObj _ hi (by omega) hl rfl) ((World.putObj_heap_other (by omega)).trans hk)⟩
   ·exact⟨some c,_,by have:=run_endLoop (P:=P) hl (by rw[hrec];simp);rw[hrec]at this;exact this,hstop _ c _ (Nat.le_refl _) ((hIx c).putObj (s:=()) _ hi (by omega) hl rfl) ((World.putObj_heap_other (by omega)).trans hk)⟩
set_option maxRecDepth 100000
attribute [local go_sem] Oper.semAt_some
def Zz (c:UInt8):List UInt8→List (List UInt8)
 | []=>[[]]
 | b :: r=>if b=c then [] :: Zz c r else match Zz c r with
  | []=>[[b]]
  | p :: ps=>(b :: p) :: ps
theorem Yd (c:UInt8) (l:List UInt8):Zz c l ≠ []:=by
 cases l with
 | nil=>simp[Zz]
 | cons b r=>unfold Zz;split <;> (try split) <;> simp
theorem Xc (b c:UInt8) (l:List UInt8):Lib.indexByte (b :: l) c=if b=c then 0 else if Lib.indexByte l c = -1 then -1 else Lib.indexByte l c+1:=by
 rw[Lib.indexByte];simp only[beq_iff_eq]
theorem indexByte_ge (c:UInt8):∀ l:List UInt8,-1≤Lib.indexByte l c
 | []=>by simp[Lib.indexByte]
 | b :: l=>by have:=indexByte_ge c l;rw[Xc];split <;> (try split) <;> omega
theorem splitL_miss (c:UInt8):∀ l:List UInt8,Lib.indexByte l c<0→Zz c l=[l]
 | [],_=>rfl
 | b :: r,h=>by
  rw[Xc]at h
  have hg:=indexByte_ge c r
  unfold Zz
  by_cases e:b=c
  ·rw[if_pos e]at h;omega
  ·rw[if_neg e]at h
   have hr:Lib.indexByte r c<0:=by split at h <;> omega
   rw[if_neg e,splitL_miss c r hr]
theorem splitL_hit (c:UInt8):∀ (l:List UInt8) (i:Nat),Lib.indexByte l c=i→Zz c l=l.take i :: Zz c (l.drop (i+1))∧i<l.length
 | [],i,h=>by simp[Lib.indexByte]at h
 | b :: r,i,h=>by
  rw[Xc]at h
  have hg:=indexByte_ge c r
  rw[Zz]
  by_cases e:b=c
  ·rw[if_pos e]at h
   obtain rfl:i=0:=by omega
   rw[if_pos e]
   simp
  ·rw[if_neg e]at h ⊢
   by_cases h2:Lib.indexByte r c = -1
   ·rw[if_pos h2]at h;omega
   ·rw[if_neg h2]at h
    obtain⟨j,hj⟩:∃ j:Nat,Lib.indexByte r c=j:=⟨(Lib.indexByte r c).toNat,by omega⟩
    obtain rfl:i=j+1:=by omega
    obtain⟨e1,e2⟩:=splitL_hit c r j hj
    rw[e1]
    simp
    exact e2
def splitB (c:UInt8) (s:ByteArray):List ByteArray:=(Zz c s.data.toList).map fun l=>⟨l.toArray⟩
theorem Qm {a b:ByteArray} (h:a.data.toList=b.data.toList):a=b:=by
 obtain⟨⟨a⟩⟩:=a;obtain⟨⟨b⟩⟩:=b;simp at h;rw[h]
theorem splitB_miss (c:UInt8) (s:ByteArray) (h:Lib.indexByte s.data.toList c<0):splitB c s=[s]:=by
 unfold splitB;rw[splitL_miss c _ h];rfl
theorem splitB_hit (c:UInt8) (s:ByteArray) (i:Nat) (h:Lib.indexByte s.data.toList c=i):splitB c s=s.extract 0 i :: splitB c (s.extract (i+1) s.size)∧i<s.size:=by
 obtain⟨e1,e2⟩:=splitL_hit c _ i h
 unfold splitB
 rw[e1,Lib.extract_to_end,List.map_cons]
 refine⟨congrArg (· :: _) (Qm ?_),by rw[Lib.size_eq];exact e2⟩
 rw[Lib.extract_data];simp
theorem drop_head {α:Type} {l:List α} {k:Nat} {x:α} {r:List α} (h:l.drop k=x :: r):l[k]? = some x:=by
 have:=List.getElem?_drop (xs:=l) (i:=k) (j:=0)
 rw[h]at this;simpa using this.symm
def Turns (b:Nat) (W W':World):Prop:=∃ v,W'=W.setCell ⟨b,0,none⟩ v
def curLen (w:World) (b:Nat):Nat:=match w.cell? ⟨b,0,none⟩ with
 | some (.string s)=>s.size
 | _=>0
theorem splitSeq_iter (b:Nat) (c:UInt8) (s:ByteArray) (w:World) (hs:s.size≤4294967281)
  (h0:w.cell? ⟨b,0,none⟩=some (.string s)) (h1:w.cell? ⟨b+1,0,none⟩=some (.string ⟨#[c]⟩)) (h2:w.cell? ⟨b+2,0,none⟩=some (.int .i64 0)) (hf:w.frozen? ⟨b,0,none⟩=false) :
  Iter Tryz.prog 207 #[.pointer (some ⟨b+1,0,none⟩),.pointer (some ⟨b,0,none⟩),.pointer (some ⟨b+2,0,none⟩)] ((splitB c s).map .string) (Turns b) b (b+3) w:=by
 intro l J Jx W hW _ hJT hY hJ0
 have g0:=Qq hW h0
 have g1:=Qq hW h1
 have g2:=Qq hW h2
 have gf:=Q9 hW (cell_lt h0) hf
 clear h0 h1 h2 hf hW w
 refine callsIn_of_wp Tryz.func207 rfl trivial ?_ rfl
 simp only[Tryz.ntmps207,List.size_toArray,List.length_cons,List.length_nil,Nat.reduceAdd,Nat.reduceSub,Array.replicate_succ,Array.replicate_zero,List.push_toArray,List.append_toArray,List.nil_append,List.cons_append]
 have HJT:=Lib.hid hJT;have HY:=Lib.hid hY
 clear hJT hY
 gi_wp2
 gi_loopw [7] (fun _ wr=>∃ (k:Nat) (cur:ByteArray),Hid ((splitB c s).drop k=splitB c cur)∧cur.size≤4294967281∧wr.cell? ⟨b,0,none⟩=some (.string cur)∧wr.cell? ⟨b+1,0,none⟩=some (.string ⟨#[c]⟩)∧wr.cell? ⟨b+2,0,none⟩=some (.int .i64 0)∧wr.frozen? ⟨b,0,none⟩=false∧J k wr)
  (fun _ wr=>curLen wr b)
 case atStart=>exact⟨0,s,Lib.hid (by simp),hs,g0,g1,g2,gf,hJ0⟩
 case round =>
  clear g0 g1 g2 gf hJ0
  obtain⟨k,cur,HD,hcur,g0,g1,g2,gf,hJ⟩:=hrel
  have HM:=Lib.hid (show curLen wr b=cur.size by simp[curLen,g0])
  by_cases hi:Lib.indexByte cur.data.toList c<0
  ·have hd:=HD.out
   rw[splitB_miss c cur hi]at hd
   have hx:((splitB c s).map Value.string)[k]? = some (.string cur):=by
    have:(splitB c s)[k]? = some cur:=drop_head hd
    simp[this]
   have hlen:k+1=(splitB c s).length:=by
    have:=congrArg List.length hd
    simp at this;omega
   obtain⟨fn,tmps,assign,body,hy,hR⟩:=HY.out k _ wr hx hJ
   have HL:=Lib.hid hlen
   clear hd hx hlen HY HJT HD
   obtain⟨ix,hix⟩:∃ ix,Lib.indexByte cur.data.toList c=ix:=⟨_,rfl⟩
   have cI:=Tryz.strings_Index_one cur c wr
   rw[hix]at cI hi
   have HI:=Lib.hid cI
   clear cI hix
   gi_wp2_with (refine⟨trivial,rfl,?_⟩;gi_at_call 103;refine (callsIn_wide.2 HI.out).mono ?_;rintro e w' ⟨rfl,hw'⟩;rw[hw'])
   refine⟨rfl,hR.mono ?_⟩
   rintro e W' (⟨rfl,hJ',hk'⟩ | ⟨rfl,hJx'⟩)
   ·gi_wp2
    go_end0
    exact⟨⟨_,rfl⟩,.inl (by rw[List.length_map,←HL.out];exact hJ')⟩
   ·gi_wp2
    go_end0
    exact⟨⟨_,rfl⟩,.inr hJx'⟩
  ·obtain⟨i,hix⟩:∃ i:Nat,Lib.indexByte cur.data.toList c=i:=⟨(Lib.indexByte cur.data.toList c).toNat,by omega⟩
   obtain⟨hd,hil⟩:=splitB_hit c cur i hix
   rw[←HD.out]at hd
   have hx:((splitB c s).map Value.string)[k]? = some (.string (cur.extract 0 i)):=by
    have:(splitB c s)[k]? = some (cur.extract 0 i):=drop_head hd
    simp[this]
   have hd2:(splitB c s).drop (k+1)=splitB c (cur.extract (i+1) cur.size):=by
    have:=congrArg (List.drop 1) hd
    simpa[List.drop_drop] using this
   obtain⟨fn,tmps,assign,body,hy,hR⟩:=HY.out k _ wr hx hJ
   have HD2:=Lib.hid hd2
   have cI:=Tryz.strings_Index_one cur c wr
   rw[hix]at cI
   have HI:=Lib.hid cI
   have hsz:(cur.extract (i+1) cur.size).size≤cur.size-(i+1):=by simp
   clear hd hx hd2 cI hix HD hi
   gi_wp2_with (refine⟨trivial,rfl,?_⟩;gi_at_call 103;refine (callsIn_wide.2 HI.out).mono ?_;rintro e w' ⟨rfl,hw'⟩;rw[hw'])
   refine⟨rfl,hR.mono ?_⟩
   rintro e W' (⟨rfl,hJ',hk'⟩ | ⟨rfl,hJx'⟩)
   ·have e0:W'.cell? ⟨b,0,none⟩=some (.string cur):=(World.cell?_of_block (hk' _ (by simp) (by simp))).trans g0
    have e1:W'.cell? ⟨b+1,0,none⟩=some (.string ⟨#[c]⟩):=(World.cell?_of_block (hk' _ (by simp) (by simp))).trans g1
    have e2:W'.cell? ⟨b+2,0,none⟩=some (.int .i64 0):=(World.cell?_of_block (hk' _ (by simp) (by simp))).trans g2
    have ef:W'.frozen? ⟨b,0,none⟩=false:=(World.frozen?_of_block (hk' _ (by simp) (by simp))).trans gf
    clear g0 g1 g2 gf
    gi_wp2
    have hst:(W'.setCell ⟨b,0,none⟩ (.string (cur.extract (i+1) cur.size))).cell? ⟨b,0,none⟩=some (.string (cur.extract (i+1) cur.size)):=World.cell?_setCell_same' _ _ _ (by rw[e0];rfl)
    refine⟨⟨k+1,_,HD2,by omega,hst,?_,?_,by rw[World.frozen?_setCell];exact ef,HJT.out _ _ _ hJ' ⟨_,rfl⟩⟩,?_⟩
    ·rw[World.cell?_setCell_other _ _ _ _ (by simp)];exact e1
    ·rw[World.cell?_setCell_other _ _ _ _ (by simp)];exact e2
    ·rw[HM.out,curLen,hst];dsimp only;omega
   ·gi_wp2
    refine bodyPost_ret (results_none rfl _ _ _) rfl ?_
    exact⟨⟨_,rfl⟩,.inr hJx'⟩
def idxFrom (p:ByteArray→Bool):List ByteArray→Nat→Int
 | [],_=>-1
 | x :: r,k=>if p x then k else idxFrom p r (k+1)
theorem UV (p:ByteArray→Bool):∀ (l:List ByteArray) (k:Nat),decide (0≤idxFrom p l k)=l.any p
 | [],k=>by simp[idxFrom]
 | x :: r,k=>by
  unfold idxFrom
  cases h:p x
  ·simp[h,UV p r (k+1)]
  ·simp[h]
theorem JJ {xs:List ByteArray} {k:Nat} {u:Value} (h:(xs.map Value.string)[k]? = some u):∃ x,xs[k]? = some x∧u=.string x:=by
 rw[List.getElem?_map,Option.map_eq_some_iff]at h
 obtain⟨x,hx,rfl⟩:=h
 exact⟨x,hx,rfl⟩
theorem indexFunc_any (g:Nat) (eg:∀ args w,(callFunc g args).run Tryz.prog w=.ok (.enter g args) w) (p:ByteArray→Bool) (A:Option Addr) (n c:Nat) (xs:List ByteArray) (w:World)
  (hp:∀ x∈xs,∀ W,Calls Tryz.prog g #[.string x] W (Zx W (.bool (p x)))) (hA:Reads w 1 A n (xs.map .string)) (hn:n≤1000000000) :
  Calls Tryz.prog 49 #[.slice A n c,.func (.func g) #[] #[]] w (Zx w (.int .i64 (idxFrom p xs 0))):=by
 have hl:n≤xs.length∧xs.length≤n:=by have:=hA.1;simp at this;omega
 have HP:=Lib.hid hp;have HA:=Lib.hid hA
 clear hp hA
 go_enter Tryz.func49,Tryz.ntmps49
 go_wp2
 go_loopw [8] (fun i wr=>∃ k:Nat,k≤n∧i=.int .i64 k∧Hid (idxFrom p xs 0=idxFrom p (xs.drop k) k)∧Below w.heap.size w wr) (fun i _=>n-(intOf i).toNat)
 case atStart=>exact⟨0,by omega,rfl,Lib.hid rfl,Below.refl _ _⟩
 case round =>
  obtain⟨k,hk,rfl,HI,hb⟩:=hrel
  by_cases hlt:k<n
  ·obtain⟨pb,po,u,rfl,hu,hcell⟩:=(HA.out.keep hb).at_ hlt
   obtain⟨x,hx,rfl⟩:=JJ hu
   clear hu
   have hc:=fun W=>HP.out x (List.mem_of_getElem? hx) W
   have hd:xs.drop k=x :: xs.drop (k+1):=by
    obtain⟨hl2,rfl⟩:=List.getElem?_eq_some_iff.1 hx
    exact List.drop_eq_getElem_cons hl2
   have HI2:=HI.out
   rw[hd,idxFrom]at HI2
   clear hd hx HI
   have HI:=Lib.hid HI2
   clear HI2
   cases hpx:p x
   all_goals
    rw[hpx]at hc HI
    have HC:=Lib.hid hc
    clear hc hpx
    go_wp2_with (go_at_fn g;refine (HC.out _).mono ?_;rintro e w2 ⟨rfl,hb2⟩)
   ·refine⟨⟨k+1,by omega,by go_num,Lib.hid (by have:=HI.out;simpa using this),Qj hb hb2⟩,by simp[intOf];omega⟩
   ·go_ret
    have:=HI.out
    exact⟨Kq (by rw[this];simp),Qj hb hb2⟩
  ·have he:idxFrom p xs 0 = -1:=by rw[HI.out,List.drop_eq_nil_of_le (by omega)];rfl
   have HE:=Lib.hid he
   clear he HI
   go_wp2
   go_ret
   exact⟨Kq HE.out.symm,hb⟩
theorem Yr (g:Nat) (eg:∀ args w,(callFunc g args).run Tryz.prog w=.ok (.enter g args) w) (p:ByteArray→Bool) (A:Option Addr) (n c:Nat) (xs:List ByteArray) (w:World)
  (hp:∀ x∈xs,∀ W,Calls Tryz.prog g #[.string x] W (Zx W (.bool (p x)))) (hA:Reads w 1 A n (xs.map .string)) (hn:n≤1000000000) :
  Calls Tryz.prog 24 #[.slice A n c,.func (.func g) #[] #[]] w (Zx w (.bool (xs.any p))):=by
 rw[←UV p xs 0]
 have H:=Lib.hid (indexFunc_any g eg p A n c xs w hp hA hn)
 clear hp hA
 generalize idxFrom p xs 0=r at H ⊢
 go_enter Tryz.func24,Tryz.ntmps24
 go_wp2_with (go_at_call 49;refine H.out.mono ?_;rintro e w2 ⟨rfl,hb2⟩)
 go_ret
 exact⟨rfl,hb2⟩
theorem notWord_any (x:ByteArray) (w:World) (hx:x.size≤4294967281):Calls Tryz.prog 210 #[.string x] w (Zx w (.bool (!Qg x))):=by
 go_enter Tryz.func210,Tryz.ntmps210
 go_wp2_with (go_at_call 91;refine (Jn x _ hx).mono ?_;rintro e w1 ⟨rfl,hb1⟩)
 go_ret
 exact⟨rfl,Qz⟩
theorem notName_any (x:ByteArray) (w:World) (hx:x.size≤4294967281):Calls Tryz.prog 115 #[.string x] w (Zx w (.bool (!Qy x))):=by
 go_enter Tryz.func115,Tryz.ntmps115
 go_wp2_with (go_at_call 89;refine (U3 x _ hx).mono ?_;rintro e w1 ⟨rfl,hb1⟩)
 go_ret
 exact⟨rfl,Qz⟩
theorem sizeBuilder:(Tryz.prog.info? 186).map (·.size)=some 2:=by kernel_rfl
theorem liesBuilder:liesAt Tryz.prog Tryz.prog.depth 186 (2 / Tryz.prog.cellsOf 186) 0 186 1=true:=by kernel_rfl
theorem infoByte:(Tryz.prog.info? 5).map (fun i=>(i.zero,i.size,i.bytes))=some (some (.int .u8 0),1,1):=by kernel_rfl
theorem copyCheck_used (b:Nat) (w:World) (h0:w.cell? ⟨b,0,none⟩=some (.pointer (some ⟨b,0,none⟩))) :
  Calls Tryz.prog 186 #[.pointer (some ⟨b,0,none⟩)] w fun e w'=>e=.returned (.tuple #[])∧w'=w:=by
 obtain⟨j,hj,_⟩:=Option.map_eq_some_iff.1 sizeBuilder
 go_enter Tryz.func186,Tryz.ntmps186
 go_wp2
 rw[Lib.run_neq_ptr_same w _ Tryz.underlying183 hj]
 go_wp2
 go_end0
 exact⟨rfl,rfl⟩
theorem copyCheck_fresh (b:Nat) (w:World) (h0:w.cell? ⟨b,0,none⟩=some (.pointer none)) (hsh:w.shape? b=some (186,2)) (hfz:w.frozen? ⟨b,0,none⟩=false) :
  Calls Tryz.prog 186 #[.pointer (some ⟨b,0,none⟩)] w fun e w'=>e=.returned (.tuple #[])∧w'=w.setCell ⟨b,0,none⟩ (.pointer (some ⟨b,0,none⟩)):=by
 obtain⟨j,hj,hjs⟩:=Option.map_eq_some_iff.1 sizeBuilder
 go_enter Tryz.func186,Tryz.ntmps186
 go_wp2
 rw[Lib.run_to_unsafe w ⟨b,0,none⟩ Tryz.underlying183 Tryz.underlying222 hj (by rw[hjs];decide) hsh (Nat.zero_lt_succ 1)]
 simp only[Result.andThen]
 rw[Oper.upon_value]
 go_wp2
 rw[run_callFunc_extern Tryz.func209 (by kernel_rfl) (by kernel_rfl) (by kernel_rfl) (e:=Extern.AbiNoEscape.same) (by kernel_rfl)]
 rw[Lib.run_noEscape]
 simp only[Result.andThen]
 rw[Oper.upon_value]
 go_wp2
 rw[Lib.run_from_unsafe w ⟨b,0,none⟩ Tryz.underlying222 Tryz.underlying183 hj hsh liesBuilder]
 simp only[Result.andThen]
 rw[Oper.upon_value]
 go_wp2
 go_end0
 exact⟨rfl,rfl⟩
theorem copyCheck_any (B b:Nat) (bs:List Value) (w:World) (h:Lib.IsBuilder 186 5 B b bs w) :
  Calls Tryz.prog 186 #[.pointer (some ⟨b,0,none⟩)] w fun e w'=>e=.returned (.tuple #[])∧(Lib.BuilderAt 186 5 B b (.pointer (some ⟨b,0,none⟩)) bs w'∧Below B w w'):=by
 rcases h with h | h
 ·refine (copyCheck_fresh b w h.cell0 h.shape h.frozen0).mono ?_
  rintro e w' ⟨rfl,rfl⟩
  exact⟨rfl,h.used _,(Below.refl B w).setCell (p:=⟨b,0,none⟩) h.1 _⟩
 ·refine (copyCheck_used b w h.cell0).mono ?_
  rintro e w' ⟨rfl,rfl⟩
  exact⟨rfl,h,Below.refl B _⟩
theorem JK (B b:Nat) (bs:List Value) (s:ByteArray) (w:World) (h:Lib.IsBuilder 186 5 B b bs w) (hlen:bs.length+s.size≤140737488355328) (hBw:B≤w.heap.size) :
  Calls Tryz.prog 157 #[.pointer (some ⟨b,0,none⟩),.string s] w fun e w'=>e=.returned (.tuple #[.int .i64 s.size,.nilIface])∧(Lib.BuilderAt 186 5 B b (.pointer (some ⟨b,0,none⟩)) (bs++Lib.strCells s) w'∧Below B w w'):=by
 obtain⟨i0,hi,hz0,hz1,hz2⟩:=info_parts infoByte
 go_enter Tryz.func157,Tryz.ntmps157
 go_wp2_with (go_at_call 186;refine (copyCheck_any B b bs _ h).mono ?_)
 rintro e w1 ⟨rfl,h1,hb1⟩
 obtain⟨hB,v,hbk,hown,hne⟩:=h1
 have c0:w1.cell? ⟨b,0,none⟩=some (.pointer (some ⟨b,0,none⟩)):=by rw[Lib.cell_of_heap hbk];rfl
 have c1:w1.cell? ⟨b,1,none⟩=some v:=by rw[Lib.cell_of_heap hbk];rfl
 go_wp2_with (at_builtin;refine Lib.wpList_append_own_string _ rfl _ _ 184 9 rfl B 5 i0 Tryz.underlying184 Tryz.underlying9 hi hz0 hz1 hz2 _ _ _ rfl hown s rfl ?c3 ?c4 ?c5 ?_)
 case c3=>unfold maxLen;omega
 case c4=>omega
 case c5=>have:=hb1.size;omega
 intro v' w2 hown' hgrow _
 have hlt:b<w1.heap.size:=by
  rcases Nat.lt_or_ge b w1.heap.size with h' | h'
  ·exact h'
  ·simp[Array.getElem?_eq_none h']at hbk
 have hb2:w2.heap[b]? = some (.cells #[.pointer (some ⟨b,0,none⟩),v] 186 (0,0)):=by
  rw[hgrow.block b hlt (fun e=>hne e.symm)]
  exact hbk
 have d0:w2.cell? ⟨b,0,none⟩=some (.pointer (some ⟨b,0,none⟩)):=by rw[Lib.cell_of_heap hb2];rfl
 have d1:w2.cell? ⟨b,1,none⟩=some v:=by rw[Lib.cell_of_heap hb2];rfl
 have f1:w2.frozen? ⟨b,1,none⟩=false:=Lib.frozen_of_heap hb2 1
 obtain⟨ao,n',cap,rfl⟩:∃ ao n' cap,v'=.slice ao n' cap:=by
  rcases hown'.2 with ⟨hv,_⟩ | ⟨g,cap,cur,hv,_⟩
  ·exact⟨_,_,_,hv⟩
  ·exact⟨_,_,_,hv⟩
 go_wp2
 go_ret2
 refine⟨rfl,?_,?_⟩
 ·exact Lib.BuilderAt.put (T:=186) (e:=5) hB hb2 (bs':=bs++Lib.strCells s) (by simpa[Lib.strCells_length] using hown') (by decide)
 ·exact (hb1.grown hgrow (by have:=hb1.size;omega) (fun k hk=>(hown.lt k hk).1)).setCell (p:=⟨b,1,none⟩) hB _
def lowN (n:Nat):Nat:=if 65≤n∧n≤90 then n+32 else n
def Y8 (l:List UInt8):List UInt8:=l.map fun b=>UInt8.ofNat (lowN b.toNat)
theorem lowN_lt (b:UInt8):lowN b.toNat<256:=by have:=b.toNat_lt;unfold lowN;split <;> omega
def Qv (w:World) (g:Nat) (t:TypeId) (cs:Array Value) (fr:Nat × Nat):Prop:=w.heap[g]? = some (.cells cs t fr)
section
variable {w w':World} {g:Nat} {t:TypeId} {cs:Array Value} {fr:Nat × Nat}
theorem Qv.lt (h:Qv w g t cs fr):g<w.heap.size:=by
 rcases Nat.lt_or_ge g w.heap.size with hlt | hge
 ·exact hlt
 ·unfold Qv at h;rw[Array.getElem?_eq_none hge]at h;cases h
theorem Qv.cell (h:Qv w g t cs fr) (i:Nat):w.cell? ⟨g,i,none⟩=cs[i]?:=cell_of_row w g i cs t fr h
theorem Qv.free (h:Qv w g t cs fr) (i:Nat) (hi:i<fr.1):w.frozen? ⟨g,i,none⟩=false:=by
 unfold Qv at h
 simp[World.frozen?,h]
 omega
theorem Qv.keep (h:Qv w g t cs fr) (hb:Below w.heap.size w w'):Qv w' g t cs fr:=(hb.block g h.lt).trans h
theorem Qv.set_ (h:Qv w g t cs fr) (i:Nat) (u:Value):Qv (w.setCell ⟨g,i,none⟩ u) g t (cs.setIfInBounds i u) fr:=by
 unfold Qv at h ⊢
 simp[World.setCell,Array.getElem?_modify,h]
end
theorem run_back {P:Program} (w:World) (src dst e:TypeId) (a:Addr) (n cap:Nat) (l:List UInt8) (hn:l.length=n) (hs:P.underlying src=some (.slice e)) (he:P.underlying e=some (.int .u8)) (hd:P.underlying dst=some .string)
  (hc:∀ j (hj:j<l.length),w.cell? (a.add j)=some (.int .u8 (l[j].toNat:Int))) :
  (convert src dst (.slice (some a) n cap)).run P w=.ok (.string ⟨l.toArray⟩) w:=by subst hn;exact run_convert_bytes_back w src dst e a cap l hs he hd hc
def Vh (s:ByteArray) (k j:Nat):Int:=if j<k then (lowN (s.data.toList[j]?.getD 0).toNat:Nat) else ((s.data.toList[j]?.getD 0).toNat:Nat)
theorem lowAt_step (s:ByteArray) (k j:Nat):Vh s (k+1) j=if j=k then (if 65≤Vh s k k∧Vh s k k≤90 then Vh s k k+97-65 else Vh s k k) else Vh s k j:=by
 unfold Vh
 by_cases h:j=k
 ·subst h
  simp only[Nat.lt_irrefl,if_false,if_true,Nat.lt_add_one,lowN]
  split <;> split <;> omega
 ·simp only[h,if_false]
  split <;> split <;> first | rfl | omega
theorem lowAt_bd (s:ByteArray) (k j:Nat):0≤Vh s k j∧Vh s k j<256:=by
 unfold Vh
 have h1:=(s.data.toList[j]?.getD 0).toNat_lt
 have h2:=lowN_lt (s.data.toList[j]?.getD 0)
 split <;> omega
theorem lowAt_end (s:ByteArray) (j:Nat) (hj:j<(Y8 s.data.toList).length):Vh s s.size j=((Y8 s.data.toList)[j].toNat:Nat):=by
 have hl:j<s.data.toList.length:=by simpa[Y8] using hj
 have:j<s.size:=by rw[Lib.size_eq];exact hl
 unfold Vh
 rw[if_pos this]
 have h2:=lowN_lt s.data.toList[j]
 simp only[Y8,List.getElem_map,List.getElem?_eq_getElem hl,Option.getD_some,UInt8.toNat_ofNat']
 omega
theorem lower_any (s:ByteArray) (w:World) (hs:s.size≤4294967281):Calls Tryz.prog 152 #[.string s] w (Zx w (.string ⟨(Y8 s.data.toList).toArray⟩)):=by
 have hcv:=fun W=>run_bytes_of_string (P:=Tryz.prog) W 9 184 5 s Tryz.underlying9 Tryz.underlying184 Tryz.underlying5
 go_enter Tryz.func152,Tryz.ntmps152
 go_wp2
 clear hcv
 obtain⟨R,hR⟩:∃ R,bytesRow s (grownCap w s.size 0 5)=R:=⟨_,rfl⟩
 obtain⟨C,hC⟩:∃ C,grownCap w s.size 0 5=C:=⟨_,rfl⟩
 have hrow:∀ j,j<s.size→R[j]? = some (.int .u8 (Vh s 0 j)):=by
  intro j hj
  rw[←hR,bytesRow_at _ _ _ hj]
  simp only[Vh,Nat.not_lt_zero,if_false]
  have hl:j<s.data.toList.length:=by rw[←Lib.size_eq];exact hj
  rw[List.getElem?_eq_getElem hl]
  rfl
 have hRs:s.size≤R.size:=by rw[←hR];simp only[bytesRow,Array.size_append,Array.size_map];exact Nat.le_add_right _ _
 rw[hR,hC]
 clear hR hC
 go_loopw [10] (fun i wr=>∃ (k:Nat) (R':Array Value),k≤s.size∧i=.int .i64 k∧Qv wr w.heap.size 5 R' (R.size,R.size+1)∧(∀ j,j<s.size→R'[j]? = some (.int .u8 (Vh s k j)))∧Below w.heap.size w wr) (fun i _=>s.size-(intOf i).toNat)
 case atStart=>exact⟨0,R,by omega,rfl,heap_alloc_new w _,hrow,Qz⟩
 case round =>
  obtain⟨k,R',hk,rfl,hB,hr,hb⟩:=hrel
  have H:=Lib.hid hr
  clear hr hrow
  by_cases hlt:k<s.size
  ·have hcell:wr.cell? ⟨w.heap.size,k,none⟩=some (.int .u8 (Vh s k k)):=by rw[hB.cell];exact H.out k hlt
   have hfree:=hB.free k (by simp;omega)
   have hbd:=lowAt_bd s k k
   go_wp2
   ·refine⟨⟨k+1,_,by omega,by go_num,hB.set_ k _,fun j hj=>?_,Qz⟩,by simp[intOf];omega⟩
    rw[Array.getElem?_setIfInBounds,lowAt_step]
    have hkR:k<R'.size:=by
     have:=H.out k hlt
     exact (Array.getElem?_eq_some_iff.1 this).1
    by_cases e:k=j
    ·subst e
     rw[if_pos rfl,if_pos hkR,if_pos rfl,if_pos ⟨by assumption,by assumption⟩]
    ·rw[if_neg e,if_neg (Ne.symm e)]
     exact H.out j hj
   all_goals
    refine⟨⟨k+1,_,by omega,by go_num,hB,fun j hj=>?_,hb⟩,by simp[intOf];omega⟩
    rw[H.out j hj,lowAt_step]
    by_cases e:j=k
    ·subst e
     rw[if_pos rfl,if_neg (by omega)]
    ·rw[if_neg e]
  ·obtain rfl:k=s.size:=by omega
   have hback:∀ c,(convert 184 9 (.slice (some ⟨w.heap.size,0,none⟩) s.size c)).run Tryz.prog wr=.ok (.string ⟨(Y8 s.data.toList).toArray⟩) wr:=fun c =>
    run_back wr 184 9 5 ⟨w.heap.size,0,none⟩ s.size c (Y8 s.data.toList) (by simp[Y8]) Tryz.underlying184 Tryz.underlying5 Tryz.underlying9 (fun j hj=>by
     have hj':j<s.size:=by rw[Lib.size_eq];simpa[Y8] using hj
     have e:(⟨w.heap.size,0,none⟩:Addr).add j=⟨w.heap.size,j,none⟩:=by unfold Addr.add;split <;> simp_all
     rw[e,hB.cell,H.out j hj',lowAt_end s j hj])
   go_wp2
   go_ret
   exact⟨rfl,hb⟩
section
variable {α:Type}
def Jt (lt:α→α→Bool) (right:α→Bool) (l:List α) (k:Nat):Bool:=match l[k]? with
 | none=>true
 | some x=>right x&&(k==0||(match l[k-1]? with
  | none=>true
  | some y=>lt y x))
def setB (lt:α→α→Bool) (right:α→Bool) (most:Nat) (l:List α):Bool:=(List.range l.length).all (Jt lt right l)&&decide (l.length≤most)
end
def KQ (a b:ByteArray):Bool:=decide (a.data.toList<b.data.toList)
def ltI (a b:Int):Bool:=decide (a<b)
def Zn (s:ByteArray):Bool:=decide (s.size=2)&&s.data.toList.all fun b=>decide (97≤b.toNat∧b.toNat≤122)
def Jb (n:Int):Bool:=decide (0≤n∧n<64)
structure ZV where
 fr:Int
 till:Int
 pat:ByteArray
 cl:List ByteArray
 co:List ByteArray
 si:List Int
 us:Int
def zeroC:ZV:=⟨0,0,⟨#[]⟩,[],[],[],0⟩
end Go.Proofs.YticlbkficolocaaGreatDoor
