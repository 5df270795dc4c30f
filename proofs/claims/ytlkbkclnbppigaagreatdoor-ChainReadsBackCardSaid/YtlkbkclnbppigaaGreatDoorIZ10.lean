/- What 'Parse' returns. -/
import Derived.Test.YtlkbkclnbppigaaGreatDoorIZ8
import Derived.Test.YtlkbkclnbppigaaGreatDoorIZ9
set_option maxHeartbeats 4000000
namespace Go.Proofs.YtlkbkclnbppigaaGreatDoor
open Go.RowKit Go.Sort
set_option linter.unusedVariables false
set_option linter.unusedSimpArgs false
set_option maxRecDepth 100000
structure Adr where
 cust:ByteArray
 path:List ByteArray
 query:List (ByteArray × ByteArray)
def noAdr:Adr:=⟨⟨#[]⟩,[],[]⟩
def leftL (s:ByteArray):List UInt8 × List UInt8 × Bool:=Lib.cut (lowL s.data.toList) [63]
def custL (s:ByteArray):List UInt8 × List UInt8 × Bool:=Lib.cut (Lib.trimSuffix (leftL s).1 [47]) [47]
def adrOf (c:ByteArray) (nm:Bool) (rr:Option (List ByteArray)) (qq:Option (List (ByteArray × ByteArray))):Adr × Int :=
 match nm,rr,qq with
 | true,some p,some q=>if p.length≤32∧q.length≤16 then (⟨c,p,q⟩,0) else (noAdr,2)
 | _,_,_=>(noAdr,3)
def pathB (t:List UInt8 × List UInt8 × Bool):Option (List ByteArray):=if t.2.2 then resB [] (splitB 47 (toB t.2.1)) else some []
def parseB (s:ByteArray):Adr × Int :=
 if 4096<s.size then (noAdr,2)
 else adrOf (toB (custL s).1) (isNameB (toB (custL s).1)) (pathB (custL s)) (pairsB (toB (leftL s).2.1))
def AdrPost (r:Adr × Int) (w:World) (e:Ending) (w':World):Prop :=
 Below w.heap.size w w'∧∃ A ca B cb,e=.returned (.tuple #[.agg #[.string r.1.cust,.slice A r.1.path.length ca,.slice B r.1.query.length cb],.int .i64 r.2]) ∧
  Reads w' 1 A r.1.path.length (r.1.path.map .string)∧Reads w' 2 B r.1.query.length (pairCells r.1.query)∧(∀ a,A=some a→w.heap.size≤a.block)∧(∀ a,B=some a→w.heap.size≤a.block)∧r.1.path.length≤ca
theorem Reads.set_ {w:World} {size n:Nat} {A:Option Addr} {vs:List Value} (h:Reads w size A n vs) (p:Addr) (x:Value) (hp:∀ a,A=some a→a.block≠p.block):Reads (w.setCell p x) size A n vs:=by
 refine⟨h.1,fun hn=>?_⟩
 obtain⟨b,o,rfl,hc⟩:=h.2 hn
 exact⟨b,o,rfl,fun j u hu=>(World.cell?_setCell_other w p ⟨b,o+j,none⟩ x (by intro e;exact hp _ rfl (by rw[e]))).trans (hc j u hu)⟩
theorem lowL_len (l:List UInt8):(lowL l).length=l.length:=by simp[lowL]
theorem trim_len (l q:List UInt8):(Lib.trimSuffix l q).length≤l.length:=by
 unfold Lib.trimSuffix;split
 ·simp
 ·exact Nat.le_refl _
theorem resolve_parts (s:ByteArray) (w X:World) (hX:X=((w.alloc (.cells #[.string s] 9)).alloc (.cells #[.string ⟨#[47]⟩] 9)).alloc (.cells #[.int .i64 0] 3)) (hs:s.size≤4096) :
  Calls Tryz.prog 265 #[.func (.func 316) #[] #[.pointer (some ⟨w.heap.size+1,0,none⟩),.pointer (some ⟨w.heap.size,0,none⟩),.pointer (some ⟨w.heap.size+1+1,0,none⟩)]] X (ResPost (resB [] (splitB 47 s)) X w.heap.size):=by
 have b0:Boxed X w.heap.size 9 (.string s):=by
  rw[hX];exact ((Boxed.new w _ _).alloc _).alloc _
 have b1:Boxed X (w.heap.size+1) 9 (.string ⟨#[47]⟩):=by
  have:=Boxed.new (w.alloc (.cells #[.string s] 9)) 9 (.string ⟨#[47]⟩)
  rw[World.size_alloc]at this
  rw[hX];exact this.alloc _
 have b2:Boxed X (w.heap.size+1+1) 3 (.int .i64 0):=by
  have:=Boxed.new ((w.alloc (.cells #[.string s] 9)).alloc (.cells #[.string ⟨#[47]⟩] 9)) 3 (.int .i64 0)
  rw[World.size_alloc,World.size_alloc]at this
  rw[hX];exact this
 have hz:X.heap.size=w.heap.size+1+1+1:=by rw[hX];simp
 have hn:=splitB_num 47 s
 exact resolve_any 316 w.heap.size _ (enters_of Tryz.func316 (by kernel_rfl) rfl) (Turns w.heap.size) (splitB 47 s) X w.heap.size (w.heap.size+3) (by omega)
  (splitSeq_iter w.heap.size 47 s X (by omega) b0.cell b1.cell b2.cell b0.frozen) (tame_turns _ _ _ (Nat.le_refl _) (by omega)) (by omega) (by omega) (fun p hp=>by have:=splitB_size 47 s p hp;omega)
theorem parse1_any (v:Value) (w:World):Calls Tryz.prog 264 #[v] w fun e w'=>(∃ u,e=.returned u)∧w'=w:=by
 go_enter Tryz.func264,Tryz.ntmps264
 go_wp2
 go_end0
 exact⟨⟨_,rfl⟩,rfl⟩
theorem resolve_none (w:World):Calls Tryz.prog 265 #[.func (.func 264) #[] #[]] w (ResPost (some []) w w.heap.size):=by
 refine resolve_any 264 w.heap.size #[] (enters_of Tryz.func264 (by kernel_rfl) rfl) (fun _ _=>False) [] w 0 0 (by omega) ?_ (tame_none _ _) (Nat.le_refl _) (by simp) (by simp)
 intro l J Jx W _ _ _ _ h0
 refine (callsIn_wide.2 (parse1_any _ W)).mono ?_
 rintro e w' ⟨hu,rfl⟩
 exact⟨hu,.inl h0⟩
theorem ResPost.some_ {rr:Option (List ByteArray)} {X w':World} {b:Nat} {e:Ending} (h:ResPost rr X b e w'):Below b X w'∧∃ A c,e=.returned (.tuple #[.slice A (rr.getD []).length c,.bool rr.isSome])∧Reads w' 1 A (rr.getD []).length ((rr.getD []).map .string)∧(∀ a,A=some a→X.heap.size≤a.block)∧(rr.getD []).length≤c:=by
 obtain⟨hb,h⟩:=h
 cases rr with
 | none=>exact⟨hb,none,0,h,Reads.nil_ _ _ _,fun a ha=>(by cases ha),Nat.le_refl _⟩
 | some p=>exact⟨hb,h⟩
theorem PairsPost.some_ {qq:Option (List (ByteArray × ByteArray))} {X w':World} {e:Ending} (h:PairsPost qq X e w'):Below X.heap.size X w'∧∃ B c,e=.returned (.tuple #[.slice B (qq.getD []).length c,.bool qq.isSome])∧Reads w' 2 B (qq.getD []).length (pairCells (qq.getD []))∧∀ a,B=some a→X.heap.size≤a.block:=by
 obtain⟨hb,h⟩:=h
 cases qq with
 | none=>exact⟨hb,none,0,h,Reads.nil_ _ _ _,fun a ha=>(by cases ha)⟩
 | some p=>exact⟨hb,h⟩
theorem parse_long (s:ByteArray) (w:World) (hs:4096<s.size):Calls Tryz.prog 203 #[.string s] w (AdrPost (noAdr,2) w):=by
 go_enter Tryz.func203,Tryz.ntmps203
 go_wp2
 exact bodyPost_ret (v:=.tuple #[.agg #[.string ⟨#[]⟩,.slice none 0 0,.slice none 0 0],.int .i64 2]) (by simp[results,Tryz.results203,go_sem]) rfl ⟨belB,none,0,none,0,rfl,Reads.nil_ _ _ _,Reads.nil_ _ _ _,(fun a ha=>by cases ha),(fun a ha=>by cases ha),Nat.le_refl _⟩
theorem parse_core (s Lb L Q T C R:ByteArray) (b1 more nm:Bool) (rr:Option (List ByteArray)) (qq:Option (List (ByteArray × ByteArray))) (w:World) (hs:s.size≤4096) (hR:R.size≤4096) (hE:Env w)
  (HL:Hid (∀ W,Calls Tryz.prog 261 #[.string s] W (Ret W (.string Lb))))
  (HC1:Hid (∀ W,Env W→Calls Tryz.prog 260 #[.string Lb,.string ⟨#[63]⟩] W (Ret W (.tuple #[.string L,.string Q,.bool b1]))))
  (HT:Hid (∀ W,Calls Tryz.prog 262 #[.string L,.string ⟨#[47]⟩] W fun e w'=>e=.returned (.string T)∧w'=W))
  (HC2:Hid (∀ W,Env W→Calls Tryz.prog 260 #[.string T,.string ⟨#[47]⟩] W (Ret W (.tuple #[.string C,.string R,.bool more]))))
  (HRR:Hid (more=true→resB [] (splitB 47 R)=rr)) (HR0:Hid (more=false→rr=some []))
  (HP:Hid (∀ W,Env W→Calls Tryz.prog 266 #[.string Q] W (PairsPost qq W)))
  (HN:Hid (∀ W,Calls Tryz.prog 94 #[.string C] W (Ret W (.bool nm)))) :
  Calls Tryz.prog 203 #[.string s] w (AdrPost (adrOf C nm rr qq) w):=by
 obtain⟨ps,np,o1,hps,hnp,ho1⟩:∃ ps np o1,ps=rr.getD []∧np=(rr.getD []).length∧o1=rr.isSome:=⟨_,_,_,rfl,rfl,rfl⟩
 obtain⟨qs,nq,o2,hqs,hnq,ho2⟩:∃ qs nq o2,qs=qq.getD []∧nq=(qq.getD []).length∧o2=qq.isSome:=⟨_,_,_,rfl,rfl,rfl⟩
 have HRs:Hid (∀ X e w' b,ResPost rr X b e w'→Below b X w'∧∃ A c,e=.returned (.tuple #[.slice A np c,.bool o1])∧Reads w' 1 A np (ps.map .string)∧(∀ a,A=some a→X.heap.size≤a.block)∧np≤c):=Lib.hid (fun X e w' b h=>by rw[hps,hnp,ho1];exact h.some_)
 have HPs:Hid (∀ X e w',PairsPost qq X e w'→Below X.heap.size X w'∧∃ A c,e=.returned (.tuple #[.slice A nq c,.bool o2])∧Reads w' 2 A nq (pairCells qs)∧∀ a,A=some a→X.heap.size≤a.block):=Lib.hid (fun X e w' h=>by rw[hqs,hnq,ho2];exact h.some_)
 have hv:adrOf C nm rr qq=if nm&&o1&&o2 then (if np≤32∧nq≤16 then (⟨C,ps,qs⟩,0) else (noAdr,2)) else (noAdr,3):=by
  rw[hps,hnp,ho1,hqs,hnq,ho2]
  cases nm <;> cases rr <;> cases qq <;> simp[adrOf]
 rw[hv]
 have HPL:Hid (ps.length=np):=Lib.hid (by rw[hps,hnp])
 have HQL:Hid (qs.length=nq):=Lib.hid (by rw[hqs,hnq])
 clear hv hps hnp ho1 hqs hnq ho2
 have hd:decide ((4096:Int)<(s.size:Int))=false:=by simp;omega
 cases more
 ·cases nm
  ·simp only[Bool.false_and,Bool.false_eq_true,if_false]
   go_enter Tryz.func203,Tryz.ntmps203;go_wp2_with (first | (go_at_call 261;refine (HL.out _).mono ?_;rintro e w1 ⟨rfl,hb1⟩;obtain⟨hc1,hf1⟩:=bcell hb1;have hz1_0:w.heap.size<w1.heap.size:=(by have:=hb1.size;(try simp at this);omega);have hE1:=Env.keep (Env.keep hE (balloc (Below.refl _ _) _)) hb1) | (go_at_call 260;refine (HC1.out _ hE1).mono ?_;rintro e w2 ⟨rfl,hb2⟩;obtain⟨hc2,hf2⟩:=bcell hb2;have hz2_0:w.heap.size<w2.heap.size:=(by have:=hb2.size;(try simp at this);omega);have hE2:=Env.keep hE1 hb2;clear hE1) | (go_at_call 262;refine (HT.out _).mono ?_;rintro e wt ⟨rfl,hwt⟩;rw[hwt];clear hwt wt) | (go_at_call 260;refine (HC2.out _ hE2).mono ?_;rintro e w3 ⟨rfl,hb3⟩;obtain⟨hc3,hf3⟩:=bcell hb3;have hz3_0:w.heap.size<w3.heap.size:=(by have:=hb3.size;(try simp at this);omega);have hE3:=Env.keep hE2 hb3) | (go_at_call 263;refine (splitSeq_any _ _ _).mono ?_;rintro e X ⟨rfl,hX⟩;have cR:=resolve_parts R w3 X hX hR;have hbX:Below w3.heap.size w3 X:=(by rw[hX];exact balloc (balloc (balloc (Below.refl _ _) _) _) _);clear hX) | (go_at_call 265;refine (resolve_none _).mono ?_;rintro e w5 hres;rw[←HR0.out (by simp)]at hres;obtain⟨hbr,PA,Pc,rfl,hPR,hPA,hPc⟩:=HRs.out _ _ _ _ hres;clear hres cR;have hb5:Below w3.heap.size w3 w5:=bstep hbX hbr;obtain⟨hc5,hf5⟩:=bcell hb5;have hz5_0:w.heap.size<w5.heap.size:=(by have:=hb5.size;(try simp at this);omega);have hE5:=Env.keep hE3 hb5) | (go_at_call 266;refine (HP.out _ hE5).mono ?_;rintro e w6 hpp;obtain⟨hb6,QA,Qc,rfl,hQR,hQA⟩:=HPs.out _ _ _ hpp;clear hpp;obtain⟨hc6,hf6⟩:=bcell hb6;have hz6_0:w.heap.size<w6.heap.size:=(by have:=hb6.size;(try simp at this);omega)) | (go_at_call 94;refine (HN.out _).mono ?_;rintro e w7 ⟨rfl,hb7⟩;obtain⟨hc7,hf7⟩:=bcell hb7;have hz7_0:w.heap.size<w7.heap.size:=(by have:=hb7.size;(try simp at this);omega)))
   exact bodyPost_ret (v:=.tuple #[.agg #[.string ⟨#[]⟩,.slice none 0 0,.slice none 0 0],.int .i64 3]) (by simp[results,Tryz.results203,go_sem, *]) rfl ⟨belB,none,0,none,0,rfl,Reads.nil_ _ _ _,Reads.nil_ _ _ _,(fun a ha=>by cases ha),(fun a ha=>by cases ha),Nat.le_refl _⟩
  cases o1
  ·simp only[Bool.true_and,Bool.false_and,Bool.false_eq_true,if_false]
   go_enter Tryz.func203,Tryz.ntmps203;go_wp2_with (first | (go_at_call 261;refine (HL.out _).mono ?_;rintro e w1 ⟨rfl,hb1⟩;obtain⟨hc1,hf1⟩:=bcell hb1;have hz1_0:w.heap.size<w1.heap.size:=(by have:=hb1.size;(try simp at this);omega);have hE1:=Env.keep (Env.keep hE (balloc (Below.refl _ _) _)) hb1) | (go_at_call 260;refine (HC1.out _ hE1).mono ?_;rintro e w2 ⟨rfl,hb2⟩;obtain⟨hc2,hf2⟩:=bcell hb2;have hz2_0:w.heap.size<w2.heap.size:=(by have:=hb2.size;(try simp at this);omega);have hE2:=Env.keep hE1 hb2;clear hE1) | (go_at_call 262;refine (HT.out _).mono ?_;rintro e wt ⟨rfl,hwt⟩;rw[hwt];clear hwt wt) | (go_at_call 260;refine (HC2.out _ hE2).mono ?_;rintro e w3 ⟨rfl,hb3⟩;obtain⟨hc3,hf3⟩:=bcell hb3;have hz3_0:w.heap.size<w3.heap.size:=(by have:=hb3.size;(try simp at this);omega);have hE3:=Env.keep hE2 hb3) | (go_at_call 263;refine (splitSeq_any _ _ _).mono ?_;rintro e X ⟨rfl,hX⟩;have cR:=resolve_parts R w3 X hX hR;have hbX:Below w3.heap.size w3 X:=(by rw[hX];exact balloc (balloc (balloc (Below.refl _ _) _) _) _);clear hX) | (go_at_call 265;refine (resolve_none _).mono ?_;rintro e w5 hres;rw[←HR0.out (by simp)]at hres;obtain⟨hbr,PA,Pc,rfl,hPR,hPA,hPc⟩:=HRs.out _ _ _ _ hres;clear hres cR;have hb5:Below w3.heap.size w3 w5:=bstep hbX hbr;obtain⟨hc5,hf5⟩:=bcell hb5;have hz5_0:w.heap.size<w5.heap.size:=(by have:=hb5.size;(try simp at this);omega);have hE5:=Env.keep hE3 hb5) | (go_at_call 266;refine (HP.out _ hE5).mono ?_;rintro e w6 hpp;obtain⟨hb6,QA,Qc,rfl,hQR,hQA⟩:=HPs.out _ _ _ hpp;clear hpp;obtain⟨hc6,hf6⟩:=bcell hb6;have hz6_0:w.heap.size<w6.heap.size:=(by have:=hb6.size;(try simp at this);omega)) | (go_at_call 94;refine (HN.out _).mono ?_;rintro e w7 ⟨rfl,hb7⟩;obtain⟨hc7,hf7⟩:=bcell hb7;have hz7_0:w.heap.size<w7.heap.size:=(by have:=hb7.size;(try simp at this);omega)))
   exact bodyPost_ret (v:=.tuple #[.agg #[.string ⟨#[]⟩,.slice none 0 0,.slice none 0 0],.int .i64 3]) (by simp[results,Tryz.results203,go_sem, *]) rfl ⟨belB,none,0,none,0,rfl,Reads.nil_ _ _ _,Reads.nil_ _ _ _,(fun a ha=>by cases ha),(fun a ha=>by cases ha),Nat.le_refl _⟩
  cases o2
  ·simp only[Bool.true_and,Bool.and_false,Bool.false_eq_true,if_false]
   go_enter Tryz.func203,Tryz.ntmps203;go_wp2_with (first | (go_at_call 261;refine (HL.out _).mono ?_;rintro e w1 ⟨rfl,hb1⟩;obtain⟨hc1,hf1⟩:=bcell hb1;have hz1_0:w.heap.size<w1.heap.size:=(by have:=hb1.size;(try simp at this);omega);have hE1:=Env.keep (Env.keep hE (balloc (Below.refl _ _) _)) hb1) | (go_at_call 260;refine (HC1.out _ hE1).mono ?_;rintro e w2 ⟨rfl,hb2⟩;obtain⟨hc2,hf2⟩:=bcell hb2;have hz2_0:w.heap.size<w2.heap.size:=(by have:=hb2.size;(try simp at this);omega);have hE2:=Env.keep hE1 hb2;clear hE1) | (go_at_call 262;refine (HT.out _).mono ?_;rintro e wt ⟨rfl,hwt⟩;rw[hwt];clear hwt wt) | (go_at_call 260;refine (HC2.out _ hE2).mono ?_;rintro e w3 ⟨rfl,hb3⟩;obtain⟨hc3,hf3⟩:=bcell hb3;have hz3_0:w.heap.size<w3.heap.size:=(by have:=hb3.size;(try simp at this);omega);have hE3:=Env.keep hE2 hb3) | (go_at_call 263;refine (splitSeq_any _ _ _).mono ?_;rintro e X ⟨rfl,hX⟩;have cR:=resolve_parts R w3 X hX hR;have hbX:Below w3.heap.size w3 X:=(by rw[hX];exact balloc (balloc (balloc (Below.refl _ _) _) _) _);clear hX) | (go_at_call 265;refine (resolve_none _).mono ?_;rintro e w5 hres;rw[←HR0.out (by simp)]at hres;obtain⟨hbr,PA,Pc,rfl,hPR,hPA,hPc⟩:=HRs.out _ _ _ _ hres;clear hres cR;have hb5:Below w3.heap.size w3 w5:=bstep hbX hbr;obtain⟨hc5,hf5⟩:=bcell hb5;have hz5_0:w.heap.size<w5.heap.size:=(by have:=hb5.size;(try simp at this);omega);have hE5:=Env.keep hE3 hb5) | (go_at_call 266;refine (HP.out _ hE5).mono ?_;rintro e w6 hpp;obtain⟨hb6,QA,Qc,rfl,hQR,hQA⟩:=HPs.out _ _ _ hpp;clear hpp;obtain⟨hc6,hf6⟩:=bcell hb6;have hz6_0:w.heap.size<w6.heap.size:=(by have:=hb6.size;(try simp at this);omega)) | (go_at_call 94;refine (HN.out _).mono ?_;rintro e w7 ⟨rfl,hb7⟩;obtain⟨hc7,hf7⟩:=bcell hb7;have hz7_0:w.heap.size<w7.heap.size:=(by have:=hb7.size;(try simp at this);omega)))
   exact bodyPost_ret (v:=.tuple #[.agg #[.string ⟨#[]⟩,.slice none 0 0,.slice none 0 0],.int .i64 3]) (by simp[results,Tryz.results203,go_sem, *]) rfl ⟨belB,none,0,none,0,rfl,Reads.nil_ _ _ _,Reads.nil_ _ _ _,(fun a ha=>by cases ha),(fun a ha=>by cases ha),Nat.le_refl _⟩
  simp only[Bool.and_self,if_true]
  by_cases hnp:np≤32
  rotate_left
  ·rw[if_neg (fun h=>hnp h.1)]
   have hd1:decide ((32:Int)<(np:Int))=true:=by simp;omega
   go_enter Tryz.func203,Tryz.ntmps203;go_wp2_with (first | (go_at_call 261;refine (HL.out _).mono ?_;rintro e w1 ⟨rfl,hb1⟩;obtain⟨hc1,hf1⟩:=bcell hb1;have hz1_0:w.heap.size<w1.heap.size:=(by have:=hb1.size;(try simp at this);omega);have hE1:=Env.keep (Env.keep hE (balloc (Below.refl _ _) _)) hb1) | (go_at_call 260;refine (HC1.out _ hE1).mono ?_;rintro e w2 ⟨rfl,hb2⟩;obtain⟨hc2,hf2⟩:=bcell hb2;have hz2_0:w.heap.size<w2.heap.size:=(by have:=hb2.size;(try simp at this);omega);have hE2:=Env.keep hE1 hb2;clear hE1) | (go_at_call 262;refine (HT.out _).mono ?_;rintro e wt ⟨rfl,hwt⟩;rw[hwt];clear hwt wt) | (go_at_call 260;refine (HC2.out _ hE2).mono ?_;rintro e w3 ⟨rfl,hb3⟩;obtain⟨hc3,hf3⟩:=bcell hb3;have hz3_0:w.heap.size<w3.heap.size:=(by have:=hb3.size;(try simp at this);omega);have hE3:=Env.keep hE2 hb3) | (go_at_call 263;refine (splitSeq_any _ _ _).mono ?_;rintro e X ⟨rfl,hX⟩;have cR:=resolve_parts R w3 X hX hR;have hbX:Below w3.heap.size w3 X:=(by rw[hX];exact balloc (balloc (balloc (Below.refl _ _) _) _) _);clear hX) | (go_at_call 265;refine (resolve_none _).mono ?_;rintro e w5 hres;rw[←HR0.out (by simp)]at hres;obtain⟨hbr,PA,Pc,rfl,hPR,hPA,hPc⟩:=HRs.out _ _ _ _ hres;clear hres cR;have hb5:Below w3.heap.size w3 w5:=bstep hbX hbr;obtain⟨hc5,hf5⟩:=bcell hb5;have hz5_0:w.heap.size<w5.heap.size:=(by have:=hb5.size;(try simp at this);omega);have hE5:=Env.keep hE3 hb5) | (go_at_call 266;refine (HP.out _ hE5).mono ?_;rintro e w6 hpp;obtain⟨hb6,QA,Qc,rfl,hQR,hQA⟩:=HPs.out _ _ _ hpp;clear hpp;obtain⟨hc6,hf6⟩:=bcell hb6;have hz6_0:w.heap.size<w6.heap.size:=(by have:=hb6.size;(try simp at this);omega)) | (go_at_call 94;refine (HN.out _).mono ?_;rintro e w7 ⟨rfl,hb7⟩;obtain⟨hc7,hf7⟩:=bcell hb7;have hz7_0:w.heap.size<w7.heap.size:=(by have:=hb7.size;(try simp at this);omega)))
   exact bodyPost_ret (v:=.tuple #[.agg #[.string ⟨#[]⟩,.slice none 0 0,.slice none 0 0],.int .i64 2]) (by simp[results,Tryz.results203,go_sem, *]) rfl ⟨belB,none,0,none,0,rfl,Reads.nil_ _ _ _,Reads.nil_ _ _ _,(fun a ha=>by cases ha),(fun a ha=>by cases ha),Nat.le_refl _⟩
  have hd1:decide ((32:Int)<(np:Int))=false:=by simp;omega
  by_cases hnq:nq≤16
  rotate_left
  ·rw[if_neg (fun h=>hnq h.2)]
   have hd2:decide ((16:Int)<(nq:Int))=true:=by simp;omega
   go_enter Tryz.func203,Tryz.ntmps203;go_wp2_with (first | (go_at_call 261;refine (HL.out _).mono ?_;rintro e w1 ⟨rfl,hb1⟩;obtain⟨hc1,hf1⟩:=bcell hb1;have hz1_0:w.heap.size<w1.heap.size:=(by have:=hb1.size;(try simp at this);omega);have hE1:=Env.keep (Env.keep hE (balloc (Below.refl _ _) _)) hb1) | (go_at_call 260;refine (HC1.out _ hE1).mono ?_;rintro e w2 ⟨rfl,hb2⟩;obtain⟨hc2,hf2⟩:=bcell hb2;have hz2_0:w.heap.size<w2.heap.size:=(by have:=hb2.size;(try simp at this);omega);have hE2:=Env.keep hE1 hb2;clear hE1) | (go_at_call 262;refine (HT.out _).mono ?_;rintro e wt ⟨rfl,hwt⟩;rw[hwt];clear hwt wt) | (go_at_call 260;refine (HC2.out _ hE2).mono ?_;rintro e w3 ⟨rfl,hb3⟩;obtain⟨hc3,hf3⟩:=bcell hb3;have hz3_0:w.heap.size<w3.heap.size:=(by have:=hb3.size;(try simp at this);omega);have hE3:=Env.keep hE2 hb3) | (go_at_call 263;refine (splitSeq_any _ _ _).mono ?_;rintro e X ⟨rfl,hX⟩;have cR:=resolve_parts R w3 X hX hR;have hbX:Below w3.heap.size w3 X:=(by rw[hX];exact balloc (balloc (balloc (Below.refl _ _) _) _) _);clear hX) | (go_at_call 265;refine (resolve_none _).mono ?_;rintro e w5 hres;rw[←HR0.out (by simp)]at hres;obtain⟨hbr,PA,Pc,rfl,hPR,hPA,hPc⟩:=HRs.out _ _ _ _ hres;clear hres cR;have hb5:Below w3.heap.size w3 w5:=bstep hbX hbr;obtain⟨hc5,hf5⟩:=bcell hb5;have hz5_0:w.heap.size<w5.heap.size:=(by have:=hb5.size;(try simp at this);omega);have hE5:=Env.keep hE3 hb5) | (go_at_call 266;refine (HP.out _ hE5).mono ?_;rintro e w6 hpp;obtain⟨hb6,QA,Qc,rfl,hQR,hQA⟩:=HPs.out _ _ _ hpp;clear hpp;obtain⟨hc6,hf6⟩:=bcell hb6;have hz6_0:w.heap.size<w6.heap.size:=(by have:=hb6.size;(try simp at this);omega)) | (go_at_call 94;refine (HN.out _).mono ?_;rintro e w7 ⟨rfl,hb7⟩;obtain⟨hc7,hf7⟩:=bcell hb7;have hz7_0:w.heap.size<w7.heap.size:=(by have:=hb7.size;(try simp at this);omega)))
   exact bodyPost_ret (v:=.tuple #[.agg #[.string ⟨#[]⟩,.slice none 0 0,.slice none 0 0],.int .i64 2]) (by simp[results,Tryz.results203,go_sem, *]) rfl ⟨belB,none,0,none,0,rfl,Reads.nil_ _ _ _,Reads.nil_ _ _ _,(fun a ha=>by cases ha),(fun a ha=>by cases ha),Nat.le_refl _⟩
  have hd2:decide ((16:Int)<(nq:Int))=false:=by simp;omega
  rw[if_pos ⟨hnp,hnq⟩]
  go_enter Tryz.func203,Tryz.ntmps203;go_wp2_with (first | (go_at_call 261;refine (HL.out _).mono ?_;rintro e w1 ⟨rfl,hb1⟩;obtain⟨hc1,hf1⟩:=bcell hb1;have hz1_0:w.heap.size<w1.heap.size:=(by have:=hb1.size;(try simp at this);omega);have hE1:=Env.keep (Env.keep hE (balloc (Below.refl _ _) _)) hb1) | (go_at_call 260;refine (HC1.out _ hE1).mono ?_;rintro e w2 ⟨rfl,hb2⟩;obtain⟨hc2,hf2⟩:=bcell hb2;have hz2_0:w.heap.size<w2.heap.size:=(by have:=hb2.size;(try simp at this);omega);have hE2:=Env.keep hE1 hb2;clear hE1) | (go_at_call 262;refine (HT.out _).mono ?_;rintro e wt ⟨rfl,hwt⟩;rw[hwt];clear hwt wt) | (go_at_call 260;refine (HC2.out _ hE2).mono ?_;rintro e w3 ⟨rfl,hb3⟩;obtain⟨hc3,hf3⟩:=bcell hb3;have hz3_0:w.heap.size<w3.heap.size:=(by have:=hb3.size;(try simp at this);omega);have hE3:=Env.keep hE2 hb3) | (go_at_call 263;refine (splitSeq_any _ _ _).mono ?_;rintro e X ⟨rfl,hX⟩;have cR:=resolve_parts R w3 X hX hR;have hbX:Below w3.heap.size w3 X:=(by rw[hX];exact balloc (balloc (balloc (Below.refl _ _) _) _) _);clear hX) | (go_at_call 265;refine (resolve_none _).mono ?_;rintro e w5 hres;rw[←HR0.out (by simp)]at hres;obtain⟨hbr,PA,Pc,rfl,hPR,hPA,hPc⟩:=HRs.out _ _ _ _ hres;clear hres cR;have hb5:Below w3.heap.size w3 w5:=bstep hbX hbr;obtain⟨hc5,hf5⟩:=bcell hb5;have hz5_0:w.heap.size<w5.heap.size:=(by have:=hb5.size;(try simp at this);omega);have hE5:=Env.keep hE3 hb5) | (go_at_call 266;refine (HP.out _ hE5).mono ?_;rintro e w6 hpp;obtain⟨hb6,QA,Qc,rfl,hQR,hQA⟩:=HPs.out _ _ _ hpp;clear hpp;obtain⟨hc6,hf6⟩:=bcell hb6;have hz6_0:w.heap.size<w6.heap.size:=(by have:=hb6.size;(try simp at this);omega)) | (go_at_call 94;refine (HN.out _).mono ?_;rintro e w7 ⟨rfl,hb7⟩;obtain⟨hc7,hf7⟩:=bcell hb7;have hz7_0:w.heap.size<w7.heap.size:=(by have:=hb7.size;(try simp at this);omega)))
  have hXz:=hbX.size;have hA1:∀ a,PA=some a→a.block≠w.heap.size:=(fun a ha=>by have:=hPA a ha;omega);have hB1:∀ a,QA=some a→a.block≠w.heap.size:=(fun a ha=>by have:=hQA a ha;omega);refine bodyPost_ret (v:=.tuple #[.agg #[.string C,.slice PA np Pc,.slice QA nq Qc],.int .i64 0]) (by simp[results,Tryz.results203,go_sem, *]) rfl ⟨belB,PA,Pc,QA,Qc,by rw[HPL.out,HQL.out],by rw[HPL.out];exact ((((hPR.keep (bstep hb6 hb7)).set_ _ _ hA1).set_ _ _ hA1).set_ _ _ hA1),by rw[HQL.out];exact ((((hQR.keep hb7).set_ _ _ hB1).set_ _ _ hB1).set_ _ _ hB1),fun a ha=>by have:=hPA a ha;omega,fun a ha=>by have:=hQA a ha;omega,by rw[HPL.out];exact hPc⟩
 ·cases nm
  ·simp only[Bool.false_and,Bool.false_eq_true,if_false]
   go_enter Tryz.func203,Tryz.ntmps203;go_wp2_with (first | (go_at_call 261;refine (HL.out _).mono ?_;rintro e w1 ⟨rfl,hb1⟩;obtain⟨hc1,hf1⟩:=bcell hb1;have hz1_0:w.heap.size<w1.heap.size:=(by have:=hb1.size;(try simp at this);omega);have hE1:=Env.keep (Env.keep hE (balloc (Below.refl _ _) _)) hb1) | (go_at_call 260;refine (HC1.out _ hE1).mono ?_;rintro e w2 ⟨rfl,hb2⟩;obtain⟨hc2,hf2⟩:=bcell hb2;have hz2_0:w.heap.size<w2.heap.size:=(by have:=hb2.size;(try simp at this);omega);have hE2:=Env.keep hE1 hb2;clear hE1) | (go_at_call 262;refine (HT.out _).mono ?_;rintro e wt ⟨rfl,hwt⟩;rw[hwt];clear hwt wt) | (go_at_call 260;refine (HC2.out _ hE2).mono ?_;rintro e w3 ⟨rfl,hb3⟩;obtain⟨hc3,hf3⟩:=bcell hb3;have hz3_0:w.heap.size<w3.heap.size:=(by have:=hb3.size;(try simp at this);omega);have hE3:=Env.keep hE2 hb3) | (go_at_call 263;refine (splitSeq_any _ _ _).mono ?_;rintro e X ⟨rfl,hX⟩;have cR:=resolve_parts R w3 X hX hR;have hbX:Below w3.heap.size w3 X:=(by rw[hX];exact balloc (balloc (balloc (Below.refl _ _) _) _) _);clear hX) | (go_at_call 265;refine cR.mono ?_;rintro e w5 hres;rw[HRR.out (by simp)]at hres;obtain⟨hbr,PA,Pc,rfl,hPR,hPA,hPc⟩:=HRs.out _ _ _ _ hres;clear hres cR;have hb5:Below w3.heap.size w3 w5:=hbX.trans hbr;obtain⟨hc5,hf5⟩:=bcell hb5;have hz5_0:w.heap.size<w5.heap.size:=(by have:=hb5.size;(try simp at this);omega);have hE5:=Env.keep hE3 hb5) | (go_at_call 266;refine (HP.out _ hE5).mono ?_;rintro e w6 hpp;obtain⟨hb6,QA,Qc,rfl,hQR,hQA⟩:=HPs.out _ _ _ hpp;clear hpp;obtain⟨hc6,hf6⟩:=bcell hb6;have hz6_0:w.heap.size<w6.heap.size:=(by have:=hb6.size;(try simp at this);omega)) | (go_at_call 94;refine (HN.out _).mono ?_;rintro e w7 ⟨rfl,hb7⟩;obtain⟨hc7,hf7⟩:=bcell hb7;have hz7_0:w.heap.size<w7.heap.size:=(by have:=hb7.size;(try simp at this);omega)))
   exact bodyPost_ret (v:=.tuple #[.agg #[.string ⟨#[]⟩,.slice none 0 0,.slice none 0 0],.int .i64 3]) (by simp[results,Tryz.results203,go_sem, *]) rfl ⟨belB,none,0,none,0,rfl,Reads.nil_ _ _ _,Reads.nil_ _ _ _,(fun a ha=>by cases ha),(fun a ha=>by cases ha),Nat.le_refl _⟩
  cases o1
  ·simp only[Bool.true_and,Bool.false_and,Bool.false_eq_true,if_false]
   go_enter Tryz.func203,Tryz.ntmps203;go_wp2_with (first | (go_at_call 261;refine (HL.out _).mono ?_;rintro e w1 ⟨rfl,hb1⟩;obtain⟨hc1,hf1⟩:=bcell hb1;have hz1_0:w.heap.size<w1.heap.size:=(by have:=hb1.size;(try simp at this);omega);have hE1:=Env.keep (Env.keep hE (balloc (Below.refl _ _) _)) hb1) | (go_at_call 260;refine (HC1.out _ hE1).mono ?_;rintro e w2 ⟨rfl,hb2⟩;obtain⟨hc2,hf2⟩:=bcell hb2;have hz2_0:w.heap.size<w2.heap.size:=(by have:=hb2.size;(try simp at this);omega);have hE2:=Env.keep hE1 hb2;clear hE1) | (go_at_call 262;refine (HT.out _).mono ?_;rintro e wt ⟨rfl,hwt⟩;rw[hwt];clear hwt wt) | (go_at_call 260;refine (HC2.out _ hE2).mono ?_;rintro e w3 ⟨rfl,hb3⟩;obtain⟨hc3,hf3⟩:=bcell hb3;have hz3_0:w.heap.size<w3.heap.size:=(by have:=hb3.size;(try simp at this);omega);have hE3:=Env.keep hE2 hb3) | (go_at_call 263;refine (splitSeq_any _ _ _).mono ?_;rintro e X ⟨rfl,hX⟩;have cR:=resolve_parts R w3 X hX hR;have hbX:Below w3.heap.size w3 X:=(by rw[hX];exact balloc (balloc (balloc (Below.refl _ _) _) _) _);clear hX) | (go_at_call 265;refine cR.mono ?_;rintro e w5 hres;rw[HRR.out (by simp)]at hres;obtain⟨hbr,PA,Pc,rfl,hPR,hPA,hPc⟩:=HRs.out _ _ _ _ hres;clear hres cR;have hb5:Below w3.heap.size w3 w5:=hbX.trans hbr;obtain⟨hc5,hf5⟩:=bcell hb5;have hz5_0:w.heap.size<w5.heap.size:=(by have:=hb5.size;(try simp at this);omega);have hE5:=Env.keep hE3 hb5) | (go_at_call 266;refine (HP.out _ hE5).mono ?_;rintro e w6 hpp;obtain⟨hb6,QA,Qc,rfl,hQR,hQA⟩:=HPs.out _ _ _ hpp;clear hpp;obtain⟨hc6,hf6⟩:=bcell hb6;have hz6_0:w.heap.size<w6.heap.size:=(by have:=hb6.size;(try simp at this);omega)) | (go_at_call 94;refine (HN.out _).mono ?_;rintro e w7 ⟨rfl,hb7⟩;obtain⟨hc7,hf7⟩:=bcell hb7;have hz7_0:w.heap.size<w7.heap.size:=(by have:=hb7.size;(try simp at this);omega)))
   exact bodyPost_ret (v:=.tuple #[.agg #[.string ⟨#[]⟩,.slice none 0 0,.slice none 0 0],.int .i64 3]) (by simp[results,Tryz.results203,go_sem, *]) rfl ⟨belB,none,0,none,0,rfl,Reads.nil_ _ _ _,Reads.nil_ _ _ _,(fun a ha=>by cases ha),(fun a ha=>by cases ha),Nat.le_refl _⟩
  cases o2
  ·simp only[Bool.true_and,Bool.and_false,Bool.false_eq_true,if_false]
   go_enter Tryz.func203,Tryz.ntmps203;go_wp2_with (first | (go_at_call 261;refine (HL.out _).mono ?_;rintro e w1 ⟨rfl,hb1⟩;obtain⟨hc1,hf1⟩:=bcell hb1;have hz1_0:w.heap.size<w1.heap.size:=(by have:=hb1.size;(try simp at this);omega);have hE1:=Env.keep (Env.keep hE (balloc (Below.refl _ _) _)) hb1) | (go_at_call 260;refine (HC1.out _ hE1).mono ?_;rintro e w2 ⟨rfl,hb2⟩;obtain⟨hc2,hf2⟩:=bcell hb2;have hz2_0:w.heap.size<w2.heap.size:=(by have:=hb2.size;(try simp at this);omega);have hE2:=Env.keep hE1 hb2;clear hE1) | (go_at_call 262;refine (HT.out _).mono ?_;rintro e wt ⟨rfl,hwt⟩;rw[hwt];clear hwt wt) | (go_at_call 260;refine (HC2.out _ hE2).mono ?_;rintro e w3 ⟨rfl,hb3⟩;obtain⟨hc3,hf3⟩:=bcell hb3;have hz3_0:w.heap.size<w3.heap.size:=(by have:=hb3.size;(try simp at this);omega);have hE3:=Env.keep hE2 hb3) | (go_at_call 263;refine (splitSeq_any _ _ _).mono ?_;rintro e X ⟨rfl,hX⟩;have cR:=resolve_parts R w3 X hX hR;have hbX:Below w3.heap.size w3 X:=(by rw[hX];exact balloc (balloc (balloc (Below.refl _ _) _) _) _);clear hX) | (go_at_call 265;refine cR.mono ?_;rintro e w5 hres;rw[HRR.out (by simp)]at hres;obtain⟨hbr,PA,Pc,rfl,hPR,hPA,hPc⟩:=HRs.out _ _ _ _ hres;clear hres cR;have hb5:Below w3.heap.size w3 w5:=hbX.trans hbr;obtain⟨hc5,hf5⟩:=bcell hb5;have hz5_0:w.heap.size<w5.heap.size:=(by have:=hb5.size;(try simp at this);omega);have hE5:=Env.keep hE3 hb5) | (go_at_call 266;refine (HP.out _ hE5).mono ?_;rintro e w6 hpp;obtain⟨hb6,QA,Qc,rfl,hQR,hQA⟩:=HPs.out _ _ _ hpp;clear hpp;obtain⟨hc6,hf6⟩:=bcell hb6;have hz6_0:w.heap.size<w6.heap.size:=(by have:=hb6.size;(try simp at this);omega)) | (go_at_call 94;refine (HN.out _).mono ?_;rintro e w7 ⟨rfl,hb7⟩;obtain⟨hc7,hf7⟩:=bcell hb7;have hz7_0:w.heap.size<w7.heap.size:=(by have:=hb7.size;(try simp at this);omega)))
   exact bodyPost_ret (v:=.tuple #[.agg #[.string ⟨#[]⟩,.slice none 0 0,.slice none 0 0],.int .i64 3]) (by simp[results,Tryz.results203,go_sem, *]) rfl ⟨belB,none,0,none,0,rfl,Reads.nil_ _ _ _,Reads.nil_ _ _ _,(fun a ha=>by cases ha),(fun a ha=>by cases ha),Nat.le_refl _⟩
  simp only[Bool.and_self,if_true]
  by_cases hnp:np≤32
  rotate_left
  ·rw[if_neg (fun h=>hnp h.1)]
   have hd1:decide ((32:Int)<(np:Int))=true:=by simp;omega
   go_enter Tryz.func203,Tryz.ntmps203;go_wp2_with (first | (go_at_call 261;refine (HL.out _).mono ?_;rintro e w1 ⟨rfl,hb1⟩;obtain⟨hc1,hf1⟩:=bcell hb1;have hz1_0:w.heap.size<w1.heap.size:=(by have:=hb1.size;(try simp at this);omega);have hE1:=Env.keep (Env.keep hE (balloc (Below.refl _ _) _)) hb1) | (go_at_call 260;refine (HC1.out _ hE1).mono ?_;rintro e w2 ⟨rfl,hb2⟩;obtain⟨hc2,hf2⟩:=bcell hb2;have hz2_0:w.heap.size<w2.heap.size:=(by have:=hb2.size;(try simp at this);omega);have hE2:=Env.keep hE1 hb2;clear hE1) | (go_at_call 262;refine (HT.out _).mono ?_;rintro e wt ⟨rfl,hwt⟩;rw[hwt];clear hwt wt) | (go_at_call 260;refine (HC2.out _ hE2).mono ?_;rintro e w3 ⟨rfl,hb3⟩;obtain⟨hc3,hf3⟩:=bcell hb3;have hz3_0:w.heap.size<w3.heap.size:=(by have:=hb3.size;(try simp at this);omega);have hE3:=Env.keep hE2 hb3) | (go_at_call 263;refine (splitSeq_any _ _ _).mono ?_;rintro e X ⟨rfl,hX⟩;have cR:=resolve_parts R w3 X hX hR;have hbX:Below w3.heap.size w3 X:=(by rw[hX];exact balloc (balloc (balloc (Below.refl _ _) _) _) _);clear hX) | (go_at_call 265;refine cR.mono ?_;rintro e w5 hres;rw[HRR.out (by simp)]at hres;obtain⟨hbr,PA,Pc,rfl,hPR,hPA,hPc⟩:=HRs.out _ _ _ _ hres;clear hres cR;have hb5:Below w3.heap.size w3 w5:=hbX.trans hbr;obtain⟨hc5,hf5⟩:=bcell hb5;have hz5_0:w.heap.size<w5.heap.size:=(by have:=hb5.size;(try simp at this);omega);have hE5:=Env.keep hE3 hb5) | (go_at_call 266;refine (HP.out _ hE5).mono ?_;rintro e w6 hpp;obtain⟨hb6,QA,Qc,rfl,hQR,hQA⟩:=HPs.out _ _ _ hpp;clear hpp;obtain⟨hc6,hf6⟩:=bcell hb6;have hz6_0:w.heap.size<w6.heap.size:=(by have:=hb6.size;(try simp at this);omega)) | (go_at_call 94;refine (HN.out _).mono ?_;rintro e w7 ⟨rfl,hb7⟩;obtain⟨hc7,hf7⟩:=bcell hb7;have hz7_0:w.heap.size<w7.heap.size:=(by have:=hb7.size;(try simp at this);omega)))
   exact bodyPost_ret (v:=.tuple #[.agg #[.string ⟨#[]⟩,.slice none 0 0,.slice none 0 0],.int .i64 2]) (by simp[results,Tryz.results203,go_sem, *]) rfl ⟨belB,none,0,none,0,rfl,Reads.nil_ _ _ _,Reads.nil_ _ _ _,(fun a ha=>by cases ha),(fun a ha=>by cases ha),Nat.le_refl _⟩
  have hd1:decide ((32:Int)<(np:Int))=false:=by simp;omega
  by_cases hnq:nq≤16
  rotate_left
  ·rw[if_neg (fun h=>hnq h.2)]
   have hd2:decide ((16:Int)<(nq:Int))=true:=by simp;omega
   go_enter Tryz.func203,Tryz.ntmps203;go_wp2_with (first | (go_at_call 261;refine (HL.out _).mono ?_;rintro e w1 ⟨rfl,hb1⟩;obtain⟨hc1,hf1⟩:=bcell hb1;have hz1_0:w.heap.size<w1.heap.size:=(by have:=hb1.size;(try simp at this);omega);have hE1:=Env.keep (Env.keep hE (balloc (Below.refl _ _) _)) hb1) | (go_at_call 260;refine (HC1.out _ hE1).mono ?_;rintro e w2 ⟨rfl,hb2⟩;obtain⟨hc2,hf2⟩:=bcell hb2;have hz2_0:w.heap.size<w2.heap.size:=(by have:=hb2.size;(try simp at this);omega);have hE2:=Env.keep hE1 hb2;clear hE1) | (go_at_call 262;refine (HT.out _).mono ?_;rintro e wt ⟨rfl,hwt⟩;rw[hwt];clear hwt wt) | (go_at_call 260;refine (HC2.out _ hE2).mono ?_;rintro e w3 ⟨rfl,hb3⟩;obtain⟨hc3,hf3⟩:=bcell hb3;have hz3_0:w.heap.size<w3.heap.size:=(by have:=hb3.size;(try simp at this);omega);have hE3:=Env.keep hE2 hb3) | (go_at_call 263;refine (splitSeq_any _ _ _).mono ?_;rintro e X ⟨rfl,hX⟩;have cR:=resolve_parts R w3 X hX hR;have hbX:Below w3.heap.size w3 X:=(by rw[hX];exact balloc (balloc (balloc (Below.refl _ _) _) _) _);clear hX) | (go_at_call 265;refine cR.mono ?_;rintro e w5 hres;rw[HRR.out (by simp)]at hres;obtain⟨hbr,PA,Pc,rfl,hPR,hPA,hPc⟩:=HRs.out _ _ _ _ hres;clear hres cR;have hb5:Below w3.heap.size w3 w5:=hbX.trans hbr;obtain⟨hc5,hf5⟩:=bcell hb5;have hz5_0:w.heap.size<w5.heap.size:=(by have:=hb5.size;(try simp at this);omega);have hE5:=Env.keep hE3 hb5) | (go_at_call 266;refine (HP.out _ hE5).mono ?_;rintro e w6 hpp;obtain⟨hb6,QA,Qc,rfl,hQR,hQA⟩:=HPs.out _ _ _ hpp;clear hpp;obtain⟨hc6,hf6⟩:=bcell hb6;have hz6_0:w.heap.size<w6.heap.size:=(by have:=hb6.size;(try simp at this);omega)) | (go_at_call 94;refine (HN.out _).mono ?_;rintro e w7 ⟨rfl,hb7⟩;obtain⟨hc7,hf7⟩:=bcell hb7;have hz7_0:w.heap.size<w7.heap.size:=(by have:=hb7.size;(try simp at this);omega)))
   exact bodyPost_ret (v:=.tuple #[.agg #[.string ⟨#[]⟩,.slice none 0 0,.slice none 0 0],.int .i64 2]) (by simp[results,Tryz.results203,go_sem, *]) rfl ⟨belB,none,0,none,0,rfl,Reads.nil_ _ _ _,Reads.nil_ _ _ _,(fun a ha=>by cases ha),(fun a ha=>by cases ha),Nat.le_refl _⟩
  have hd2:decide ((16:Int)<(nq:Int))=false:=by simp;omega
  rw[if_pos ⟨hnp,hnq⟩]
  go_enter Tryz.func203,Tryz.ntmps203;go_wp2_with (first | (go_at_call 261;refine (HL.out _).mono ?_;rintro e w1 ⟨rfl,hb1⟩;obtain⟨hc1,hf1⟩:=bcell hb1;have hz1_0:w.heap.size<w1.heap.size:=(by have:=hb1.size;(try simp at this);omega);have hE1:=Env.keep (Env.keep hE (balloc (Below.refl _ _) _)) hb1) | (go_at_call 260;refine (HC1.out _ hE1).mono ?_;rintro e w2 ⟨rfl,hb2⟩;obtain⟨hc2,hf2⟩:=bcell hb2;have hz2_0:w.heap.size<w2.heap.size:=(by have:=hb2.size;(try simp at this);omega);have hE2:=Env.keep hE1 hb2;clear hE1) | (go_at_call 262;refine (HT.out _).mono ?_;rintro e wt ⟨rfl,hwt⟩;rw[hwt];clear hwt wt) | (go_at_call 260;refine (HC2.out _ hE2).mono ?_;rintro e w3 ⟨rfl,hb3⟩;obtain⟨hc3,hf3⟩:=bcell hb3;have hz3_0:w.heap.size<w3.heap.size:=(by have:=hb3.size;(try simp at this);omega);have hE3:=Env.keep hE2 hb3) | (go_at_call 263;refine (splitSeq_any _ _ _).mono ?_;rintro e X ⟨rfl,hX⟩;have cR:=resolve_parts R w3 X hX hR;have hbX:Below w3.heap.size w3 X:=(by rw[hX];exact balloc (balloc (balloc (Below.refl _ _) _) _) _);clear hX) | (go_at_call 265;refine cR.mono ?_;rintro e w5 hres;rw[HRR.out (by simp)]at hres;obtain⟨hbr,PA,Pc,rfl,hPR,hPA,hPc⟩:=HRs.out _ _ _ _ hres;clear hres cR;have hb5:Below w3.heap.size w3 w5:=hbX.trans hbr;obtain⟨hc5,hf5⟩:=bcell hb5;have hz5_0:w.heap.size<w5.heap.size:=(by have:=hb5.size;(try simp at this);omega);have hE5:=Env.keep hE3 hb5) | (go_at_call 266;refine (HP.out _ hE5).mono ?_;rintro e w6 hpp;obtain⟨hb6,QA,Qc,rfl,hQR,hQA⟩:=HPs.out _ _ _ hpp;clear hpp;obtain⟨hc6,hf6⟩:=bcell hb6;have hz6_0:w.heap.size<w6.heap.size:=(by have:=hb6.size;(try simp at this);omega)) | (go_at_call 94;refine (HN.out _).mono ?_;rintro e w7 ⟨rfl,hb7⟩;obtain⟨hc7,hf7⟩:=bcell hb7;have hz7_0:w.heap.size<w7.heap.size:=(by have:=hb7.size;(try simp at this);omega)))
  have hXz:=hbX.size;have hA1:∀ a,PA=some a→a.block≠w.heap.size:=(fun a ha=>by have:=hPA a ha;omega);have hB1:∀ a,QA=some a→a.block≠w.heap.size:=(fun a ha=>by have:=hQA a ha;omega);refine bodyPost_ret (v:=.tuple #[.agg #[.string C,.slice PA np Pc,.slice QA nq Qc],.int .i64 0]) (by simp[results,Tryz.results203,go_sem, *]) rfl ⟨belB,PA,Pc,QA,Qc,by rw[HPL.out,HQL.out],by rw[HPL.out];exact ((((hPR.keep (bstep hb6 hb7)).set_ _ _ hA1).set_ _ _ hA1).set_ _ _ hA1),by rw[HQL.out];exact ((((hQR.keep hb7).set_ _ _ hB1).set_ _ _ hB1).set_ _ _ hB1),fun a ha=>by have:=hPA a ha;omega,fun a ha=>by have:=hQA a ha;omega,by rw[HPL.out];exact hPc⟩
theorem parse_any (s:ByteArray) (w:World) (hs:s.size≤4294967281) (hE:Env w):Calls Tryz.prog 203 #[.string s] w (AdrPost (parseB s) w):=by
 by_cases h:4096<s.size
 ·have:=parse_long s w h
  unfold parseB
  rw[if_pos h]
  exact this
 have h1:=cut_fst_len (lowL s.data.toList) [63]
 have h2:=cut_snd_len (lowL s.data.toList) [63]
 have h3:=trim_len (leftL s).1 [47]
 have h4:=cut_fst_len (Lib.trimSuffix (leftL s).1 [47]) [47]
 have h5:=cut_snd_len (Lib.trimSuffix (leftL s).1 [47]) [47]
 have h0:=lowL_len s.data.toList
 rw[←Lib.size_eq]at h0
 have:=parse_core s (toB (lowL s.data.toList)) (toB (leftL s).1) (toB (leftL s).2.1) (toB (Lib.trimSuffix (leftL s).1 [47])) (toB (custL s).1) (toB (custL s).2.1) (leftL s).2.2 (custL s).2.2 (isNameB (toB (custL s).1)) (pathB (custL s)) (pairsB (toB (leftL s).2.1)) w (by omega) (by rw[toB_size];unfold custL leftL at *;omega) hE
  (Lib.hid fun W=>lower_any s W hs) (Lib.hid fun W h=>cut_any (toB (lowL s.data.toList)) 63 W (by rw[toB_size];omega) h) (Lib.hid fun W=>Tryz.strings_TrimSuffix (toB (leftL s).1) ⟨#[47]⟩ W (by rw[toB_size];unfold leftL;omega))
  (Lib.hid fun W h=>cut_any (toB (Lib.trimSuffix (leftL s).1 [47])) 47 W (by rw[toB_size];unfold leftL at *;omega) h) (Lib.hid fun hm=>by unfold pathB;rw[if_pos hm]) (Lib.hid fun hm=>by unfold pathB;rw[if_neg (by simp[hm])])
  (Lib.hid fun W h=>pairs_any (toB (leftL s).2.1) W (by rw[toB_size];unfold leftL;omega) h) (Lib.hid fun W=>isName_any (toB (custL s).1) W (by rw[toB_size];unfold custL leftL at *;omega))
 unfold parseB
 rw[if_neg h]
 exact this
theorem resB_words:∀ (ps out r:List ByteArray),(∀ p∈out,isWordB p=true)→resB out ps=some r→∀ p∈r,isWordB p=true
 | [],out,r,h,e=>by simp[resB]at e;subst e;exact h
 | p :: ps,out,r,h,e=>by
  rw[resB]at e
  cases hs:resStep out p with
  | none=>rw[hs]at e;cases e
  | some o =>
   rw[hs,Option.bind_some]at e
   refine resB_words ps o r (fun q hq=>?_) e
   unfold resStep at hs
   split at hs
   ·injection hs with hs;subst hs;exact h q hq
   ·split at hs
    ·injection hs with hs;subst hs;exact h q (List.dropLast_subset _ hq)
    ·split at hs
     ·injection hs with hs;subst hs
      rcases List.mem_append.1 hq with hq | hq
      ·exact h q hq
      ·rw[List.mem_singleton.1 hq];assumption
     ·cases hs
theorem qAcc_words:∀ (ps:List ByteArray) (acc r:List (List UInt8 × List UInt8)),(∀ q∈acc,isNameB (toB q.1)=true∧isWordB (toB q.2)=true)→qAcc acc ps=some r→∀ q∈r,isNameB (toB q.1)=true∧isWordB (toB q.2)=true
 | [],acc,r,h,e=>by simp[qAcc]at e;subst e;exact h
 | p :: ps,acc,r,h,e=>by
  rw[qAcc]at e
  cases hs:parsePair p with
  | none=>rw[hs]at e;cases e
  | some x =>
   rw[hs]at e
   refine qAcc_words ps _ r (fun q hq=>?_) e
   rcases List.mem_append.1 hq with hq | hq
   ·exact h q hq
   ·rw[List.mem_singleton.1 hq]
    unfold parsePair at hs
    split at hs
    ·rename_i hc
     simp only[Bool.and_eq_true]at hc
     injection hs with hs;subst hs
     exact⟨hc.1.2,hc.2⟩
    ·cases hs
def KeysUp (q:List (ByteArray × ByteArray)):Prop:=q.Pairwise fun a b=>a.1.data.toList<b.1.data.toList
theorem pairsB_good (s:ByteArray) (r:List (ByteArray × ByteArray)) (h:pairsB s=some r):(∀ q∈r,isNameB q.1=true∧isWordB q.2=true)∧KeysUp r:=by
 unfold pairsB at h
 split at h
 ·injection h with h;subst h;exact⟨by simp,List.Pairwise.nil⟩
 ·cases hq:qAcc [] (splitB 38 s) with
  | none=>rw[hq]at h;cases h
  | some acc =>
   rw[hq,Option.map_some]at h
   injection h with h;subst h
   constructor
   ·intro q hq'
    obtain⟨x,hx,rfl⟩:=List.mem_map.1 hq'
    exact qAcc_words _ _ _ (by simp) hq x (mem_pairsL hx)
   ·exact List.pairwise_map.2 ((good_pairs acc).2.2.1)
structure AdrGood (a:Adr):Prop where
 name:isNameB a.cust=true
 words:∀ p∈a.path,isWordB p=true
 parts:a.path.length≤32
 pairs:a.query.length≤16
 query:∀ q∈a.query,isNameB q.1=true∧isWordB q.2=true
 up:KeysUp a.query
theorem parse_good (s:ByteArray) (h:(parseB s).2=0):AdrGood (parseB s).1:=by
 unfold parseB at h ⊢
 split at h
 ·cases h
 ·rename_i hs
  rw[if_neg hs]
  generalize hrr:pathB (custL s)=rr at h ⊢
  generalize hqq:pairsB (toB (leftL s).2.1)=qq at h ⊢
  generalize hnm:isNameB (toB (custL s).1)=nm at h ⊢
  unfold adrOf at h ⊢
  split at h
  ·split at h
   ·rename_i hl
    simp only[hl,and_self,if_true]
    have hp:=pairsB_good _ _ hqq
    refine⟨hnm,?_,hl.1,hl.2,hp.1,hp.2⟩
    unfold pathB at hrr
    split at hrr
    ·exact resB_words _ _ _ (by simp) hrr
    ·injection hrr with hrr;subst hrr;simp
   ·cases h
  ·cases h
theorem parse_err (s:ByteArray) (h:(parseB s).2≠0):(parseB s).1=noAdr:=by
 unfold parseB at h ⊢
 split
 ·rfl
 ·rename_i hs
  rw[if_neg hs]at h
  generalize pathB (custL s)=rr at h ⊢
  generalize pairsB (toB (leftL s).2.1)=qq at h ⊢
  generalize isNameB (toB (custL s).1)=nm at h ⊢
  unfold adrOf at h ⊢
  split
  ·split
   ·rename_i hl;exact absurd (by simp[hl]) h
   ·rfl
  ·rfl
theorem parse_errno (s:ByteArray):(parseB s).2=0∨(parseB s).2=2∨(parseB s).2=3:=by
 unfold parseB
 split
 ·simp
 ·unfold adrOf
  split
  ·split <;> simp
  ·simp
theorem pathL_bound:∀ l:List (List UInt8),(∀ p∈l,p.length≤64)→(pathL l).length≤l.length*65
 | [],_=>by simp[pathL]
 | p :: l,h=>by
  have h1:=h p (by simp)
  have h2:=pathL_bound l (fun q hq=>h q (by simp[hq]))
  simp only[pathL,List.flatMap_cons,List.length_append,List.length_cons]at h2 ⊢
  omega
theorem queryL_bound:∀ (sep:UInt8) (l:List (List UInt8 × List UInt8)),(∀ p∈l,p.1.length≤64∧p.2.length≤64)→(queryL sep l).length≤l.length*130
 | _,[],_=>by simp[queryL]
 | _,p :: l,h=>by
  have h1:=h p (by simp)
  have h2:=queryL_bound 38 l (fun q hq=>h q (by simp[hq]))
  simp only[queryL,List.length_append,List.length_cons]at h2 ⊢
  omega
theorem good_bound {a:Adr} (h:AdrGood a):(W06 a.cust a.path a.query).length≤10000:=by
 have h1:=pathL_bound (lists a.path) (by
  intro p hp
  obtain⟨x,hx,rfl⟩:=List.mem_map.1 hp
  have:=size_of_word (h.words x hx)
  rw[Lib.size_eq]at this;exact this)
 have h2:=queryL_bound 63 (lists2 a.query) (by
  intro p hp
  obtain⟨x,hx,rfl⟩:=List.mem_map.1 hp
  have h3:=size_of_name (h.query x hx).1
  have h4:=size_of_word (h.query x hx).2
  rw[Lib.size_eq]at h3 h4;exact⟨h3,h4⟩)
 have h3:=size_of_name h.name
 rw[Lib.size_eq]at h3
 have h4:=h.parts
 have h5:=h.pairs
 simp only[lists,lists2,List.length_map]at h1 h2
 simp only[W06,writeL,List.length_append,lists,lists2]
 omega
theorem parse_bound (s:ByteArray):(W06 (parseB s).1.cust (parseB s).1.path (parseB s).1.query).length≤10000:=by
 by_cases h:(parseB s).2=0
 ·exact good_bound (parse_good s h)
 ·rw[parse_err s h]
  simp[noAdr,W06,writeL,pathL,queryL,lists,lists2]
structure WoS (w:World) (L Z:List Nat) (W:World):Prop where
 a:Row32 W (w.heap.size+1) 265 L
 b:Row32 W w.heap.size 265 Z
 c:Below w.heap.size w W
theorem WoS.keep {w W W':World} {L Z:List Nat} (h:WoS w L Z W) (hb:Below W.heap.size W W'):WoS w L Z W':=⟨h.a.keep hb,h.b.keep hb,bstep h.c hb⟩
end Go.Proofs.YtlkbkclnbppigaaGreatDoor
