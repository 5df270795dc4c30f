/- Seals and digests: equal or not. -/
import Derived.Test.YtlkbkclnbppigaaGreatDoorIZ38
import Derived.Test.YtlkbkclnbppigaaGreatDoorIZ39
set_option maxHeartbeats 16000000
namespace Go.Proofs.YtlkbkclnbppigaaGreatDoor
open Go.RowKit Go.Sort
set_option linter.unusedVariables false
set_option linter.unusedSimpArgs false
set_option maxRecDepth 100000
theorem key_u8 (d:Nat) (a:Int) (h:(Lit.int .u8 a).wf=true):Tryz.prog.keyLits (d+1) 5 [.int .u8 a]=some [.int .u8 a]:=by
 unfold Program.keyLits
 rw[Tryz.underlying5]
 show (if IntKind.u8=IntKind.u8∧(Lit.int .u8 a).wf=true then some [Lit.int .u8 a] else none)=_
 rw[if_pos ⟨rfl,h⟩]
theorem u8_wf (x:Nat) (h:x<256):(Lit.int .u8 (x:Int)).wf=true:=by
 have:∀ n:Nat,n<256→(Lit.int .u8 (n:Int)).wf=true:=by decide
 exact this x h
theorem b8_inj {s z:List Nat} (h:b8 s=b8 z):s=z:=by
 unfold b8 at h
 induction s generalizing z with
 | nil=>cases z with
  | nil=>rfl
  | cons b z=>simp at h
 | cons a s ih =>
  cases z with
  | nil=>simp at h
  | cons b z =>
   simp only[List.map_cons,List.cons.injEq]at h
   obtain⟨h1,h2⟩:=h
   injection h1 with _ h1
   rw[ih h2,Int.ofNat.inj h1]
theorem sl_lits (d:Nat) (a0 a1 a2 a3 a4 a5 a6 a7 a8 a9 a10 a11 a12 a13 a14 a15:Int) (h0:(Lit.int .u8 a0).wf=true) (h1:(Lit.int .u8 a1).wf=true) (h2:(Lit.int .u8 a2).wf=true) (h3:(Lit.int .u8 a3).wf=true) (h4:(Lit.int .u8 a4).wf=true) (h5:(Lit.int .u8 a5).wf=true) (h6:(Lit.int .u8 a6).wf=true) (h7:(Lit.int .u8 a7).wf=true) (h8:(Lit.int .u8 a8).wf=true) (h9:(Lit.int .u8 a9).wf=true) (h10:(Lit.int .u8 a10).wf=true) (h11:(Lit.int .u8 a11).wf=true) (h12:(Lit.int .u8 a12).wf=true) (h13:(Lit.int .u8 a13).wf=true) (h14:(Lit.int .u8 a14).wf=true) (h15:(Lit.int .u8 a15).wf=true):Tryz.prog.keyLits (d+1+1) 30 [.int .u8 a0,.int .u8 a1,.int .u8 a2,.int .u8 a3,.int .u8 a4,.int .u8 a5,.int .u8 a6,.int .u8 a7,.int .u8 a8,.int .u8 a9,.int .u8 a10,.int .u8 a11,.int .u8 a12,.int .u8 a13,.int .u8 a14,.int .u8 a15]=some [.int .u8 a0,.int .u8 a1,.int .u8 a2,.int .u8 a3,.int .u8 a4,.int .u8 a5,.int .u8 a6,.int .u8 a7,.int .u8 a8,.int .u8 a9,.int .u8 a10,.int .u8 a11,.int .u8 a12,.int .u8 a13,.int .u8 a14,.int .u8 a15]:=by
 unfold Program.keyLits
 rw[Tryz.underlying30]
 show (if _ then ((List.range 16).mapM fun i=>Tryz.prog.keyLits (d+1) 5 (([.int .u8 a0,.int .u8 a1,.int .u8 a2,.int .u8 a3,.int .u8 a4,.int .u8 a5,.int .u8 a6,.int .u8 a7,.int .u8 a8,.int .u8 a9,.int .u8 a10,.int .u8 a11,.int .u8 a12,.int .u8 a13,.int .u8 a14,.int .u8 a15]:List Value).drop (i*Tryz.prog.cellsOf 5) |>.take (Tryz.prog.cellsOf 5))).map List.flatten else none)=_
 rw[if_pos (by kernel_rfl),show Tryz.prog.cellsOf 5=1 by kernel_rfl,show List.range 16=[0,1,2,3,4,5,6,7,8,9,10,11,12,13,14,15] from rfl]
 simp[key_u8 d a0 h0,key_u8 d a1 h1,key_u8 d a2 h2,key_u8 d a3 h3,key_u8 d a4 h4,key_u8 d a5 h5,key_u8 d a6 h6,key_u8 d a7 h7,key_u8 d a8 h8,key_u8 d a9 h9,key_u8 d a10 h10,key_u8 d a11 h11,key_u8 d a12 h12,key_u8 d a13 h13,key_u8 d a14 h14,key_u8 d a15 h15]
theorem sl_key (a0 a1 a2 a3 a4 a5 a6 a7 a8 a9 a10 a11 a12 a13 a14 a15:Int) (h0:(Lit.int .u8 a0).wf=true) (h1:(Lit.int .u8 a1).wf=true) (h2:(Lit.int .u8 a2).wf=true) (h3:(Lit.int .u8 a3).wf=true) (h4:(Lit.int .u8 a4).wf=true) (h5:(Lit.int .u8 a5).wf=true) (h6:(Lit.int .u8 a6).wf=true) (h7:(Lit.int .u8 a7).wf=true) (h8:(Lit.int .u8 a8).wf=true) (h9:(Lit.int .u8 a9).wf=true) (h10:(Lit.int .u8 a10).wf=true) (h11:(Lit.int .u8 a11).wf=true) (h12:(Lit.int .u8 a12).wf=true) (h13:(Lit.int .u8 a13).wf=true) (h14:(Lit.int .u8 a14).wf=true) (h15:(Lit.int .u8 a15).wf=true):∃ l,Go.keyOf Tryz.prog 30 (.agg #[.int .u8 a0,.int .u8 a1,.int .u8 a2,.int .u8 a3,.int .u8 a4,.int .u8 a5,.int .u8 a6,.int .u8 a7,.int .u8 a8,.int .u8 a9,.int .u8 a10,.int .u8 a11,.int .u8 a12,.int .u8 a13,.int .u8 a14,.int .u8 a15])=some l:=by
 have h:=sl_lits (Tryz.prog.types.size-1) a0 a1 a2 a3 a4 a5 a6 a7 a8 a9 a10 a11 a12 a13 a14 a15 h0 h1 h2 h3 h4 h5 h6 h7 h8 h9 h10 h11 h12 h13 h14 h15
 unfold Go.keyOf
 rw[Tryz.underlying30]
 show ∃ l,(if (Tryz.prog.keyType 30&&Value.formed Tryz.prog 30 (.agg #[.int .u8 a0,.int .u8 a1,.int .u8 a2,.int .u8 a3,.int .u8 a4,.int .u8 a5,.int .u8 a6,.int .u8 a7,.int .u8 a8,.int .u8 a9,.int .u8 a10,.int .u8 a11,.int .u8 a12,.int .u8 a13,.int .u8 a14,.int .u8 a15]))=true then (Tryz.prog.keyLits (Tryz.prog.types.size+1) 30 [.int .u8 a0,.int .u8 a1,.int .u8 a2,.int .u8 a3,.int .u8 a4,.int .u8 a5,.int .u8 a6,.int .u8 a7,.int .u8 a8,.int .u8 a9,.int .u8 a10,.int .u8 a11,.int .u8 a12,.int .u8 a13,.int .u8 a14,.int .u8 a15]).map (fun ls=>Lit.string (keyBytes ls)) else none)=some l
 rw[if_pos (by kernel_rfl),show Tryz.prog.types.size+1=Tryz.prog.types.size-1+1+1 by kernel_rfl,h]
 exact⟨_,rfl⟩
theorem sl_keyOf (s:List Nat) (h:SealOk s):∃ l,keyOf Tryz.prog 30 (.agg (b8 s).toArray)=some l:=by
 obtain⟨hl,hlt⟩:=h
 have wf:∀ x∈s,(Lit.int .u8 (x:Int)).wf=true:=fun x hx=>by
  have:=hlt x hx
  exact u8_wf x this
 match s,hl,wf with
 | a0 :: a1 :: a2 :: a3 :: a4 :: a5 :: a6 :: a7 :: a8 :: a9 :: a10 :: a11 :: a12 :: a13 :: a14 :: a15 :: [],_,wf =>
  exact sl_key a0 a1 a2 a3 a4 a5 a6 a7 a8 a9 a10 a11 a12 a13 a14 a15 (wf _ (by simp)) (wf _ (by simp)) (wf _ (by simp)) (wf _ (by simp)) (wf _ (by simp)) (wf _ (by simp)) (wf _ (by simp)) (wf _ (by simp)) (wf _ (by simp)) (wf _ (by simp)) (wf _ (by simp)) (wf _ (by simp)) (wf _ (by simp)) (wf _ (by simp)) (wf _ (by simp)) (wf _ (by simp))
theorem sl_eqIn (s z:List Nat) (hs:SealOk s) (hz:SealOk z) (W:World):(Op.equalIn 10000 30 (.agg (b8 s).toArray) (.agg (b8 z).toArray)).run Tryz.prog W=.ok (decide (s=z)) W:=by
 obtain⟨l,hl⟩:=sl_keyOf s hs
 obtain⟨m,hm⟩:=sl_keyOf z hz
 obtain⟨r,hr,hi⟩:=run_equal_deep (P:=Tryz.prog) W (m:=3) (by omega) (k:=30) (by kernel_rfl) (by rw[Tryz.underlying30]) hl hm
 have h2:(Op.equalIn 10000 30 (.agg (b8 s).toArray) (.agg (b8 z).toArray)).run Tryz.prog W=.ok r W:=hr
 rw[h2]
 congr 1
 have key:r=true↔s=z:=by
  rw[hi]
  constructor
  ·intro e
   subst e
   have:=keyOf_inj_deep (P:=Tryz.prog) (m:=3) (k:=30) (by kernel_rfl) (by rw[Tryz.underlying30]) hl hm
   injection this with this
   exact b8_inj (by simpa using this)
  ·rintro rfl
   rw[hl]at hm
   exact Option.some.inj hm
 cases r
 ·exact (decide_eq_false (fun e=>by have:=key.2 e;cases this)).symm
 ·exact (decide_eq_true (key.1 rfl)).symm
theorem sl_neq (s z:List Nat) (hs:SealOk s) (hz:SealOk z) (W:World):(binOp .neq 30 (.agg (b8 s).toArray) (.agg (b8 z).toArray)).run Tryz.prog W=.ok (.bool (!decide (s=z))) W:=by
 rw[run_neq_struct,sl_eqIn s z hs hz];rfl
theorem dg_lits (d:Nat) (a0 a1 a2 a3 a4 a5 a6 a7 a8 a9 a10 a11 a12 a13 a14 a15:Int) (h0:(Lit.int .u8 a0).wf=true) (h1:(Lit.int .u8 a1).wf=true) (h2:(Lit.int .u8 a2).wf=true) (h3:(Lit.int .u8 a3).wf=true) (h4:(Lit.int .u8 a4).wf=true) (h5:(Lit.int .u8 a5).wf=true) (h6:(Lit.int .u8 a6).wf=true) (h7:(Lit.int .u8 a7).wf=true) (h8:(Lit.int .u8 a8).wf=true) (h9:(Lit.int .u8 a9).wf=true) (h10:(Lit.int .u8 a10).wf=true) (h11:(Lit.int .u8 a11).wf=true) (h12:(Lit.int .u8 a12).wf=true) (h13:(Lit.int .u8 a13).wf=true) (h14:(Lit.int .u8 a14).wf=true) (h15:(Lit.int .u8 a15).wf=true):Tryz.prog.keyLits (d+1+1) 51 [.int .u8 a0,.int .u8 a1,.int .u8 a2,.int .u8 a3,.int .u8 a4,.int .u8 a5,.int .u8 a6,.int .u8 a7,.int .u8 a8,.int .u8 a9,.int .u8 a10,.int .u8 a11,.int .u8 a12,.int .u8 a13,.int .u8 a14,.int .u8 a15]=some [.int .u8 a0,.int .u8 a1,.int .u8 a2,.int .u8 a3,.int .u8 a4,.int .u8 a5,.int .u8 a6,.int .u8 a7,.int .u8 a8,.int .u8 a9,.int .u8 a10,.int .u8 a11,.int .u8 a12,.int .u8 a13,.int .u8 a14,.int .u8 a15]:=by
 unfold Program.keyLits
 rw[Tryz.underlying51]
 show (if _ then ((List.range 16).mapM fun i=>Tryz.prog.keyLits (d+1) 5 (([.int .u8 a0,.int .u8 a1,.int .u8 a2,.int .u8 a3,.int .u8 a4,.int .u8 a5,.int .u8 a6,.int .u8 a7,.int .u8 a8,.int .u8 a9,.int .u8 a10,.int .u8 a11,.int .u8 a12,.int .u8 a13,.int .u8 a14,.int .u8 a15]:List Value).drop (i*Tryz.prog.cellsOf 5) |>.take (Tryz.prog.cellsOf 5))).map List.flatten else none)=_
 rw[if_pos (by kernel_rfl),show Tryz.prog.cellsOf 5=1 by kernel_rfl,show List.range 16=[0,1,2,3,4,5,6,7,8,9,10,11,12,13,14,15] from rfl]
 simp[key_u8 d a0 h0,key_u8 d a1 h1,key_u8 d a2 h2,key_u8 d a3 h3,key_u8 d a4 h4,key_u8 d a5 h5,key_u8 d a6 h6,key_u8 d a7 h7,key_u8 d a8 h8,key_u8 d a9 h9,key_u8 d a10 h10,key_u8 d a11 h11,key_u8 d a12 h12,key_u8 d a13 h13,key_u8 d a14 h14,key_u8 d a15 h15]
theorem dg_key (a0 a1 a2 a3 a4 a5 a6 a7 a8 a9 a10 a11 a12 a13 a14 a15:Int) (h0:(Lit.int .u8 a0).wf=true) (h1:(Lit.int .u8 a1).wf=true) (h2:(Lit.int .u8 a2).wf=true) (h3:(Lit.int .u8 a3).wf=true) (h4:(Lit.int .u8 a4).wf=true) (h5:(Lit.int .u8 a5).wf=true) (h6:(Lit.int .u8 a6).wf=true) (h7:(Lit.int .u8 a7).wf=true) (h8:(Lit.int .u8 a8).wf=true) (h9:(Lit.int .u8 a9).wf=true) (h10:(Lit.int .u8 a10).wf=true) (h11:(Lit.int .u8 a11).wf=true) (h12:(Lit.int .u8 a12).wf=true) (h13:(Lit.int .u8 a13).wf=true) (h14:(Lit.int .u8 a14).wf=true) (h15:(Lit.int .u8 a15).wf=true):∃ l,Go.keyOf Tryz.prog 51 (.agg #[.int .u8 a0,.int .u8 a1,.int .u8 a2,.int .u8 a3,.int .u8 a4,.int .u8 a5,.int .u8 a6,.int .u8 a7,.int .u8 a8,.int .u8 a9,.int .u8 a10,.int .u8 a11,.int .u8 a12,.int .u8 a13,.int .u8 a14,.int .u8 a15])=some l:=by
 have h:=dg_lits (Tryz.prog.types.size-1) a0 a1 a2 a3 a4 a5 a6 a7 a8 a9 a10 a11 a12 a13 a14 a15 h0 h1 h2 h3 h4 h5 h6 h7 h8 h9 h10 h11 h12 h13 h14 h15
 unfold Go.keyOf
 rw[Tryz.underlying51]
 show ∃ l,(if (Tryz.prog.keyType 51&&Value.formed Tryz.prog 51 (.agg #[.int .u8 a0,.int .u8 a1,.int .u8 a2,.int .u8 a3,.int .u8 a4,.int .u8 a5,.int .u8 a6,.int .u8 a7,.int .u8 a8,.int .u8 a9,.int .u8 a10,.int .u8 a11,.int .u8 a12,.int .u8 a13,.int .u8 a14,.int .u8 a15]))=true then (Tryz.prog.keyLits (Tryz.prog.types.size+1) 51 [.int .u8 a0,.int .u8 a1,.int .u8 a2,.int .u8 a3,.int .u8 a4,.int .u8 a5,.int .u8 a6,.int .u8 a7,.int .u8 a8,.int .u8 a9,.int .u8 a10,.int .u8 a11,.int .u8 a12,.int .u8 a13,.int .u8 a14,.int .u8 a15]).map (fun ls=>Lit.string (keyBytes ls)) else none)=some l
 rw[if_pos (by kernel_rfl),show Tryz.prog.types.size+1=Tryz.prog.types.size-1+1+1 by kernel_rfl,h]
 exact⟨_,rfl⟩
theorem dg_keyOf (s:List Nat) (h:SealOk s):∃ l,keyOf Tryz.prog 51 (.agg (b8 s).toArray)=some l:=by
 obtain⟨hl,hlt⟩:=h
 have wf:∀ x∈s,(Lit.int .u8 (x:Int)).wf=true:=fun x hx=>by
  have:=hlt x hx
  exact u8_wf x this
 match s,hl,wf with
 | a0 :: a1 :: a2 :: a3 :: a4 :: a5 :: a6 :: a7 :: a8 :: a9 :: a10 :: a11 :: a12 :: a13 :: a14 :: a15 :: [],_,wf =>
  exact dg_key a0 a1 a2 a3 a4 a5 a6 a7 a8 a9 a10 a11 a12 a13 a14 a15 (wf _ (by simp)) (wf _ (by simp)) (wf _ (by simp)) (wf _ (by simp)) (wf _ (by simp)) (wf _ (by simp)) (wf _ (by simp)) (wf _ (by simp)) (wf _ (by simp)) (wf _ (by simp)) (wf _ (by simp)) (wf _ (by simp)) (wf _ (by simp)) (wf _ (by simp)) (wf _ (by simp)) (wf _ (by simp))
theorem dg_eqIn (s z:List Nat) (hs:SealOk s) (hz:SealOk z) (W:World):(Op.equalIn 10000 51 (.agg (b8 s).toArray) (.agg (b8 z).toArray)).run Tryz.prog W=.ok (decide (s=z)) W:=by
 obtain⟨l,hl⟩:=dg_keyOf s hs
 obtain⟨m,hm⟩:=dg_keyOf z hz
 obtain⟨r,hr,hi⟩:=run_equal_deep (P:=Tryz.prog) W (m:=3) (by omega) (k:=51) (by kernel_rfl) (by rw[Tryz.underlying51]) hl hm
 have h2:(Op.equalIn 10000 51 (.agg (b8 s).toArray) (.agg (b8 z).toArray)).run Tryz.prog W=.ok r W:=hr
 rw[h2]
 congr 1
 have key:r=true↔s=z:=by
  rw[hi]
  constructor
  ·intro e
   subst e
   have:=keyOf_inj_deep (P:=Tryz.prog) (m:=3) (k:=51) (by kernel_rfl) (by rw[Tryz.underlying51]) hl hm
   injection this with this
   exact b8_inj (by simpa using this)
  ·rintro rfl
   rw[hl]at hm
   exact Option.some.inj hm
 cases r
 ·exact (decide_eq_false (fun e=>by have:=key.2 e;cases this)).symm
 ·exact (decide_eq_true (key.1 rfl)).symm
attribute [local go_sem high] List.getD_cons_zero
theorem key_eqIn (k:KeyV) (W:World):(Op.equalIn 10000 23 (.agg k.arr) (.agg k.arr)).run Tryz.prog W=.ok true W:=by
 show (Op.equalIn 10000 23 (.agg #[.int .i64 k.party,.int .i64 k.ser,.string k.secret,.int .i64 k.fr,.int .i64 k.till]) (.agg #[.int .i64 k.party,.int .i64 k.ser,.string k.secret,.int .i64 k.fr,.int .i64 k.till])).run Tryz.prog W=_
 simp[go_sem]
theorem key_neq (k:KeyV) (W:World):(binOp .neq 23 (.agg k.arr) (.agg k.arr)).run Tryz.prog W=.ok (.bool false) W:=by
 rw[run_neq_struct,key_eqIn];rfl
theorem tok_seal {x:TokM} {w:World} (hR:TokReads w x) {W:World} {g:Nat} (h:TBox W g x):(loadVar 30 ⟨g,4,none⟩).run Tryz.prog W=.ok (.agg (b8 x.t.sl).toArray) W :=
 run_loadVar_at (P:=Tryz.prog) W g 4 32 30 x.cells (b8 x.t.sl) (0,0) _ h.box (fun j v hv=>by
  unfold TokM.cells tokCells
  rw[List.getElem?_append_right (by simp)]
  simpa using hv) Tryz.underlying30 rfl (by rw[b8_len,hR.sl.len];exact infSeal)
structure GeS (w:World) (x:TokM) (PX:Array Value) (g:Nat) (KX:Array Value) (W:World):Prop where
 t:TBox W w.heap.size x
 p:Box1 W (w.heap.size+1) 57 PX
 k:Box1 W g 23 KX
 b:Below w.heap.size w W
theorem GeS.keep {w W W':World} {x:TokM} {PX KX:Array Value} {g:Nat} (h:GeS w x PX g KX W) (hb:Below W.heap.size W W'):GeS w x PX g KX W':=⟨h.t.keep hb,h.p.keep hb,h.k.keep hb,bstep h.b hb⟩
theorem find_has {L:List KeyV} {p s:Int} {k:KeyV} (h:findK L p s=some k):k∈L∧k.party=p∧k.ser=s:=by
 unfold findK at h
 have h1:=List.find?_some h
 simp only[decide_eq_true_eq]at h1
 exact⟨List.mem_of_find?_eq_some h,h1.1,h1.2⟩
theorem genuine_any (A:Option Addr) (n c:Nat) (L:List KeyV) (x:TokM) (lo hi:Int) (w:World) (hA:KeysRead w A n L) (hn:n≤100000) (hL:RingOk L) (hR:TokReads w x) (hc:∀ y∈x.L,CoOk y.c) (h1:1≤x.t.conds.length) (hn2:x.t.conds.length≤1000) (hid:x.t.id.size≤1000000) (hp:InK x.t.cust) (hs:InK x.t.ser) (hK:Ks w) (hE:Env w) (hTb:Tab w) :
  Calls Tryz.prog 27 #[.slice A n c,x.val,perV lo hi] w (Ret w (.int .i64 (genuineT L x.t lo hi))):=by
 have hF:=fun (W:World) (hb:Below w.heap.size w W)=>find_any A n c L x.t.cust x.t.ser W (hA.keep hb) hn hL hp hs
 obtain⟨V,hV⟩:∃ V,V=genuineT L x.t lo hi:=⟨_,rfl⟩
 rw[←hV]
 unfold genuineT at hV
 have HF:=Lib.hid hF
 have hx0:x.cells.toArray[0]? = some (.int .i64 x.t.cust):=rfl
 have hx1:x.cells.toArray[1]? = some (.int .i64 x.t.ser):=rfl
 have hXS:x.cells.toArray.size=20:=by rw[List.size_toArray];exact hR.size
 have hts:=fun (W:World) (g:Nat) (h:TBox W g x)=>tok_seal hR h
 have HTS:=Lib.hid hts;have HXS:=Lib.hid hXS
 obtain⟨PX,hPX⟩:∃ PX:Array Value,perV lo hi=.agg PX∧PX.size=2:=⟨#[.int .i64 lo,.int .i64 hi],rfl,rfl⟩
 obtain⟨hPX,hPS⟩:=hPX
 have HPS:=Lib.hid hPS
 clear hF hts hXS hPS hA
 unfold TokM.val
 cases hfk:findK L x.t.cust x.t.ser with
 | none =>
  rw[hfk]at hV HF
  obtain rfl:V=5:=hV
  have hz:((none:Option KeyV).getD zeroK).val=.agg (#[.int .i64 0,.int .i64 0,.string ⟨#[]⟩,.int .i64 0,.int .i64 0]:Array Value):=rfl
  rw[hz]at HF
  clear hfk hz hR hc hK hE hTb hL hx0 hx1
  rw[hPX]
  go_enter Tryz.func27,Tryz.ntmps27
  go_upto_region 1 with fail
  generalize hw0:World.alloc _ _=w0
  have hb0:Below w.heap.size w w0:=by rw[←hw0];exact belB
  have hT0:TBox w0 w.heap.size x:=by rw[←hw0];exact⟨(alloc2_box w _ _).1⟩
  obtain⟨y0,y1,y2,y3⟩:=hT0.cells
  clear hw0 hT0
  go_wp2_with (first
   | (go_at_call 61;refine (HF.out _ hb0).mono ?_;rintro e w1 ⟨rfl,hb1⟩)
   | (refine wpList_store_row rfl _ _ _ rfl w1.heap.size (#[.int .i64 0,.int .i64 0,.string ⟨#[]⟩,.int .i64 0,.int .i64 0]:Array Value) rfl rfl _ (#[.int .i64 0,.int .i64 0,.string ⟨#[]⟩,.int .i64 0,.int .i64 0]:Array Value) (heap_alloc_new w1 _) infKey rfl (by rw[List.all_toArray];rfl) ?_))
  go_ret
  exact⟨rfl,bstep (bstep hb0 hb1) (below_setRow ((Below.refl _ _).alloc (Nat.le_refl _) _) (Nat.le_refl _) _)⟩
 | some k =>
  obtain⟨hmem,hpt,-⟩:=find_has hfk
  have hvk:=hL.each k hmem
  rw[hfk]at hV HF
  replace hV:V=if countsK k lo hi then (if rightS k x.t=x.t.sl then 0 else 8) else 9:=hV
  have hz:((some k).getD zeroK).val=.agg k.arr:=rfl
  rw[hz]at HF
  have hks:k.secret.size≤1000000:=by
   unfold validK at hvk
   simp only[decide_eq_true_eq]at hvk
   omega
  have hcur:=fun (g o c:Nat) (W:World) hld=>current_any g o c k lo hi W hld
  rw[hpt,hPX]at hcur
  have hrt:=fun (W:World) (hb:Below w.heap.size w W)=>right_any k x W (hR.keep hb) hc h1 hn2 hks hid (hK.keep hb) (hE.keep hb) (hTb.keep hb)
  rw[KeyV.val_arr]at hrt
  unfold TokM.val at hrt
  have hkl:k.arr=(#[.int .i64 k.party,.int .i64 k.ser,.string k.secret,.int .i64 k.fr,.int .i64 k.till]:Array Value):=rfl
  have hkneq:=key_neq k
  have hKS:k.arr.size=5:=k.arr_size
  have hK1:=k.arr_one
  have hseq:=fun W=>sl_eqIn (rightS k x.t) x.t.sl (right_ok k x.t) hR.sl W
  generalize countsK k lo hi=ct at *
  have hdec:decide (rightS k x.t=x.t.sl)=true∨decide (rightS k x.t=x.t.sl)=false:=by cases decide (rightS k x.t=x.t.sl) <;> simp
  obtain⟨q,hq⟩:∃ q,q=decide (rightS k x.t=x.t.sl):=⟨_,rfl⟩
  have hV2:V=if ct then (if q then 0 else 8) else 9:=by rw[hV,hq];cases ct <;> simp
  rw[←hq]at hseq
  clear hV hdec hq hfk hmem hvk hz hL hR hc hK hE hTb
  generalize (b8 (rightS k x.t)).toArray=RS at *
  generalize hTL:(b8 x.t.sl).toArray=TL at *
  rw[hPX]
  generalize hKX:k.arr=KX at *
  have HKL:=Lib.hid hkl;have HCU:=Lib.hid hcur;have HRT:=Lib.hid hrt;have HNE:=Lib.hid hkneq;have HKS:=Lib.hid hKS;have HK1:=Lib.hid hK1;have HSE:=Lib.hid hseq;have HVV:=Lib.hid hV2;have HX0:=Lib.hid hx0
  clear hkl hcur hrt hkneq hKS hK1 hseq hV2 hKX hTL hx0 hx1 hPX hpt
  go_enter Tryz.func27,Tryz.ntmps27
  go_upto_region 1 with fail
  generalize hw0:World.alloc _ _=w0
  have hb0:Below w.heap.size w w0:=by rw[←hw0];exact belB
  have hT0:TBox w0 w.heap.size x:=by rw[←hw0];exact⟨(alloc2_box w _ _).1⟩
  have hP0:Box1 w0 (w.heap.size+1) 57 PX:=by rw[←hw0];exact (alloc2_box w _ _).2
  obtain⟨y0,y1,y2,y3⟩:=hT0.cells
  clear hw0
  go_upto_region 2 with (first
   | (go_at_call 61;refine (HF.out _ hb0).mono ?_;rintro e w1 ⟨rfl,hb1⟩)
   | (refine wpList_store_row rfl _ _ _ rfl w1.heap.size KX rfl rfl _ (#[.int .i64 0,.int .i64 0,.string ⟨#[]⟩,.int .i64 0,.int .i64 0]:Array Value) (heap_alloc_new w1 _) (by rw[HKS.out];exact infKey) (by rw[HKS.out];rfl) HK1.out ?_))
  (try dsimp only[Act.put])
  generalize hw2:World.setRow _ _ _=w2
  have hk2:Box1 w2 w1.heap.size 23 KX:=by rw[←hw2];exact setRow_heap _ _ _ _ _ _ (heap_alloc_new w1 _)
  have hb2:Below w1.heap.size w1 w2:=by rw[←hw2];exact below_setRow ((Below.refl _ _).alloc (Nat.le_refl _) _) (Nat.le_refl _) _
  obtain⟨g,hg⟩:∃ g,g=w1.heap.size:=⟨_,rfl⟩
  have hS2:GeS w x PX g KX w2:=⟨(hT0.keep hb1).keep hb2,(hP0.keep hb1).keep hb2,by rw[hg];exact hk2,bstep (bstep hb0 hb1) hb2⟩
  rw[←hg]
  clear hg hw2 hT0 hP0 hk2 hb0 hb1 hb2 y0 y1 y2 y3 HF
  have HS2:=Lib.hid hS2
  obtain⟨y0,y1,y2,y3⟩:=hS2.t.cells
  have hlk:(loadVar 23 ⟨g,0,none⟩).run Tryz.prog w2=.ok (.agg (#[.int .i64 k.party,.int .i64 k.ser,.string k.secret,.int .i64 k.fr,.int .i64 k.till]:Array Value)) w2:=by rw[←HKL.out];exact keyRow hS2.k (by rw[HKS.out];exact infKey)
  go_upto_region 4 with fail
  have hlp2:∀ W:World,Below w2.heap.size w2 W→(loadVar 57 ⟨w.heap.size+1,0,none⟩).run Tryz.prog W=.ok (.agg PX) W:=fun W hb=>(hS2.p.keep hb).period HPS.out
  have HLP:=Lib.hid hlp2
  have hcc:=HCU.out w2.heap.size 0 1 (w2.alloc (.cells (#[.int .i64 k.party,.int .i64 k.ser,.string k.secret,.int .i64 k.fr,.int .i64 k.till]:Array Value) 23)) (fun W hb=>by
   have:Box1 (w2.alloc (.cells (#[.int .i64 k.party,.int .i64 k.ser,.string k.secret,.int .i64 k.fr,.int .i64 k.till]:Array Value) 23)) w2.heap.size 23 (#[.int .i64 k.party,.int .i64 k.ser,.string k.secret,.int .i64 k.fr,.int .i64 k.till]:Array Value):=heap_alloc_new w2 _
   rw[HKL.out]
   exact keyRow (this.keep hb) infKey)
  have hb3:=below_alloc w2 (.cells (#[.int .i64 k.party,.int .i64 k.ser,.string k.secret,.int .i64 k.fr,.int .i64 k.till]:Array Value) 23)
  have HCC:=Lib.hid hcc
  have hy0:∀ W:World,Below w2.heap.size w2 W→W.cell? ⟨w.heap.size,0,none⟩=some (.int .i64 x.t.cust):=fun W hb=>cell_keep hb y0
  have z0:=hy0 _ hb3
  have hlp3:=HLP.out _ hb3
  clear hcc hlp2 hS2 hy0
  cases ct
  ·obtain rfl:V=9:=HVV.out
   clear HVV
   go_wp2_with (first
    | (refine wpList_load_addr rfl 23 _ rfl ⟨g,0,none⟩ (.agg (#[.int .i64 k.party,.int .i64 k.ser,.string k.secret,.int .i64 k.fr,.int .i64 k.till]:Array Value)) rfl hlk ?_)
    | (refine wpList_load_addr rfl 57 _ rfl ⟨w.heap.size+1,0,none⟩ (.agg PX) rfl hlp3 ?_)
    | (go_at_call 62;refine HCC.out.mono ?_;rintro e w5 ⟨rfl,hb5⟩)
    | (refine wpList_store_row rfl _ _ _ rfl w5.heap.size (#[.int .i64 0,.int .i64 0,.string ⟨#[]⟩,.int .i64 0,.int .i64 0]:Array Value) rfl rfl _ (#[.int .i64 0,.int .i64 0,.string ⟨#[]⟩,.int .i64 0,.int .i64 0]:Array Value) (heap_alloc_new w5 _) infKey rfl (by rw[List.all_toArray];rfl) ?_))
   go_ret
   exact⟨rfl,bstep (bstep (bstep HS2.out.b hb3) hb5) (below_setRow ((Below.refl _ _).alloc (Nat.le_refl _) _) (Nat.le_refl _) _)⟩
  have hV3:V=if q then 0 else 8:=HVV.out
  clear HVV
  have HB3:=Lib.hid hb3
  go_upto_region 5 with (first
   | (refine wpList_load_addr rfl 23 _ rfl ⟨g,0,none⟩ (.agg (#[.int .i64 k.party,.int .i64 k.ser,.string k.secret,.int .i64 k.fr,.int .i64 k.till]:Array Value)) rfl hlk ?_)
   | (refine wpList_load_addr rfl 57 _ rfl ⟨w.heap.size+1,0,none⟩ (.agg PX) rfl hlp3 ?_)
   | (go_at_call 62;refine HCC.out.mono ?_;rintro e w5 ⟨rfl,hb5⟩;clear HCC;have HB5:=Lib.hid hb5;clear hb5)
   | (refine wpList_store_row rfl _ _ _ rfl w5.heap.size KX rfl rfl _ (#[.int .i64 0,.int .i64 0,.string ⟨#[]⟩,.int .i64 0,.int .i64 0]:Array Value) (heap_alloc_new w5 _) (by rw[HKS.out];exact infKey) (by rw[HKS.out];rfl) HK1.out ?_))
  (try dsimp only[Act.put])
  generalize hw6:World.setRow _ _ _=w6
  have hk6:Box1 w6 w5.heap.size 23 KX:=by rw[←hw6];exact setRow_heap _ _ _ _ _ _ (heap_alloc_new w5 _)
  have hb6:Below w5.heap.size w5 w6:=by rw[←hw6];exact below_setRow ((Below.refl _ _).alloc (Nat.le_refl _) _) (Nat.le_refl _) _
  have hS6:=((HS2.out.keep HB3.out).keep HB5.out).keep hb6
  obtain⟨h,hh⟩:∃ h,h=w5.heap.size:=⟨_,rfl⟩
  rw[←hh]at hk6 ⊢
  have hl1:=keyRow hk6 (by rw[HKS.out];exact infKey)
  have hl2:=keyRow hS6.k (by rw[HKS.out];exact infKey)
  have HS6:=Lib.hid hS6;have HL1:=Lib.hid hl1;have HL2:=Lib.hid hl2
  clear hh hw6 hb6 hk6 hS6 hl1 hl2 HS2 hlk hlp3 HLP z0 y0 y1 y2 y3 HB3 HB5 hb3
  generalize hv29:Value.tuple #[Value.agg KX,Value.int .i64 0]=v29
  clear hv29
  have hne:=HNE.out
  have hHH:=HS6.out.t.cells
  go_upto_region 7 with (first
   | (go_big_want;refine wp_load_addr 23 _ rfl ⟨h,0,none⟩ (.agg KX) rfl HL1.out ?_;simp only[putL,putF,Act.put])
   | (go_big_want;refine wp_load_addr 23 _ rfl ⟨g,0,none⟩ (.agg KX) rfl HL2.out ?_;simp only[putL,putF,Act.put]))
  clear hne hHH HL1 HL2 HNE
  refine wp_detD 6 (by kernel_rfl) (by kernel_rfl) (by kernel_rfl) (DL [IsV (.agg KX),IsV (.agg x.cells.toArray),IsV (.agg RS),IsV (.pointer (some ⟨w.heap.size,4,none⟩)),IsV (.agg TL),IsV (.bool (!q))]) (DL.keep _ (by simp only[KeepAll];repeat' (first | apply And.intro | exact keeps_is _ | exact trivial))) (GeS w x PX g KX) (HS6.out.keep (Below.drew (Below.refl _ _))) (fun _ _ h hb=>h.keep hb) ?_ ?_
  ·dsimp only[List.take_succ_cons,List.take_zero,DetD]
   refine⟨fun vals W hS hd=>?_,fun vals W hS hd=>?_,fun vals W hS hd=>?_,fun vals W hS hd=>?_,fun vals W hS hd=>?_,fun vals W hS hd=>?_,trivial⟩
   ·(try simp only[DepsL,DL,IsV,List.getD_cons_zero,List.getD_cons_succ,Region.binds,and_true,true_and]at hd)
    simp only[putL,putF,Act.put]
    (try simp only[hd])
    clear hd
    have hld:=keyRow hS.k (by rw[HKS.out];exact infKey)
    go_wp2_with (refine wpList_load_addr rfl 23 _ rfl ⟨g,0,none⟩ (.agg KX) rfl hld ?_)
    exact⟨rfl,rfl,rfl,belB⟩
   ·(try simp only[DepsL,DL,IsV,List.getD_cons_zero,List.getD_cons_succ,Region.binds,and_true,true_and]at hd)
    simp only[putL,putF,Act.put]
    (try simp only[hd])
    clear hd
    have hld:=tok_row hS.t.box HXS.out
    go_wp2_with (refine wpList_load_addr rfl 32 _ rfl ⟨w.heap.size,0,none⟩ (.agg x.cells.toArray) rfl hld ?_)
    exact⟨rfl,rfl,rfl,belB⟩
   ·(try simp only[DepsL,DL,IsV,List.getD_cons_zero,List.getD_cons_succ,Region.binds,and_true,true_and]at hd)
    simp only[putL,putF,Act.put]
    (try simp only[hd])
    clear hd
    have hbW:=hS.b
    go_wp2_with (go_at_call 44;refine (HRT.out _ hbW).mono ?_;rintro e w5 ⟨rfl,hb5⟩)
    exact⟨rfl,rfl,rfl,belB⟩
   ·(try simp only[DepsL,DL,IsV,List.getD_cons_zero,List.getD_cons_succ,Region.binds,and_true,true_and]at hd)
    simp only[putL,putF,Act.put]
    (try simp only[hd])
    clear hd
    go_wp2
    exact⟨rfl,rfl,rfl,belB⟩
   ·(try simp only[DepsL,DL,IsV,List.getD_cons_zero,List.getD_cons_succ,Region.binds,and_true,true_and]at hd)
    simp only[putL,putF,Act.put]
    (try simp only[hd])
    clear hd
    have hld:=HTS.out W _ hS.t
    go_wp2_with (refine wpList_load_addr rfl 30 _ rfl ⟨w.heap.size,4,none⟩ (.agg TL) rfl hld ?_)
    exact⟨rfl,rfl,rfl,belB⟩
   ·(try simp only[DepsL,DL,IsV,List.getD_cons_zero,List.getD_cons_succ,Region.binds,and_true,true_and]at hd)
    simp only[putL,putF,Act.put]
    obtain⟨hd1,hd2⟩:=hd
    (try simp only[hd1,hd2])
    clear hd1 hd2
    have hse:=HSE.out W
    go_wp2
    exact⟨rfl,rfl,rfl,belB⟩
  ·intro vals w9 hS9 hD9
   have e5:vals 5=.bool (!q):=hD9 5 (by omega)
   simp only[putL,putF,Act.put]
   simp only[e5]
   clear hD9 e5
   cases q
   ·obtain rfl:V=8:=hV3
    go_wp2
    go_ret
    exact⟨rfl,hS9.b⟩
   ·obtain rfl:V=0:=hV3
    go_wp2
    go_ret
    exact⟨rfl,hS9.b⟩
def askL (a:AskV):List Value:=[.string a.addr,.string a.client,.string a.country,.int .i64 a.site,.int .i64 a.lo,.int .i64 a.hi]
theorem ask_val (a:AskV):a.val=.agg (askL a).toArray:=rfl
theorem ask_row {w:World} {g:Nat} {X:Array Value} {t:TypeId} (hg:w.heap[g]? = some (.cells X t (0,0))) (hs:X.size=6):(loadVar 59 ⟨g,0,none⟩).run Tryz.prog w=.ok (.agg X) w :=
 run_loadVar_row (P:=Tryz.prog) w g _ 59 X _ _ hg Tryz.underlying59 rfl (by rw[hs];kernel_rfl)
theorem ask_at {W:World} {g:Nat} {a:AskV} (h:Box1 W g 59 (askL a).toArray):(loadVar 57 ⟨g,4,none⟩).run Tryz.prog W=.ok (perV a.lo a.hi) W :=
 run_loadVar_at (P:=Tryz.prog) W g 4 59 57 (askL a) [.int .i64 a.lo,.int .i64 a.hi] (0,0) _ h (fun j v hv=>by
  match j,hv with
  | 0,hv=>exact hv
  | 1,hv=>exact hv
  | j+2,hv=>simp at hv) Tryz.underlying57 rfl (by kernel_rfl)
theorem tcheck1_any (c:CondV) (m:CondMem) (a:AskV) (g:Nat) (w:World) (hR:CondReads w c m) (hc:CondFits c) (ha:AskFits a) (hE:Env w) (hb:Box1 w g 59 (askL a).toArray):Calls Tryz.prog 64 #[CondMem.val c m,.pointer (some ⟨g,0,none⟩)] w (Ret w (.bool (!holdsC c a))):=by
 have hh:=fun (W:World) (hb:Below w.heap.size w W)=>holds_any c m a W (hR.keep hb) hc ha (hE.keep hb)
 rw[ask_val]at hh
 have hS:(askL a).toArray.size=6:=rfl
 generalize (askL a).toArray=X at *
 obtain⟨Y,hY,hYS⟩:∃ Y:Array Value,CondMem.val c m=.agg Y∧Y.size=7:=⟨_,rfl,rfl⟩
 rw[hY]at hh ⊢
 have HH:=Lib.hid hh;have HX:=Lib.hid hb;have HS:=Lib.hid hS;have HYS:=Lib.hid hYS
 clear hh hb hS hYS hY hR hE
 generalize holdsC c a=q at *
 go_enter Tryz.func64,Tryz.ntmps64
 go_upto_region 1 with fail
 generalize hw0:World.alloc _ _=w0
 have hb0:Below w.heap.size w w0:=by rw[←hw0];exact balloc (Below.refl _ _) _
 have hy0:Box1 w0 w.heap.size 27 Y:=by rw[←hw0];exact World.alloc_heap_new w _
 have hldc:=cond_row hy0 HYS.out
 have hlda:=ask_row (HX.out.keep hb0) HS.out
 clear hw0 hy0
 go_wp2_with (first
  | (refine wpList_load_addr rfl 27 _ rfl ⟨w.heap.size,0,none⟩ (.agg Y) rfl hldc ?_)
  | (refine wpList_load_addr rfl 59 _ rfl ⟨g,0,none⟩ (.agg X) rfl hlda ?_)
  | (go_at_call 41;refine (HH.out _ hb0).mono ?_;rintro e w1 ⟨rfl,hb1⟩))
 go_ret
 exact⟨rfl,bstep hb0 hb1⟩
theorem any_all (t:TokV) (x:TokM) (a:AskV) (h:x.L.map (·.c)=t.conds):x.L.any (fun y=>!holdsC y.c a) = !t.conds.all (fun c=>holdsC c a):=by
 rw[←h,List.all_map,List.any_eq_not_all_not]
 congr 2
 funext y
 simp
structure ChS (w:World) (x:TokM) (X:Array Value) (W:World):Prop where
 t:TBox W w.heap.size x
 a:Box1 W (w.heap.size+1) 59 X
 b:Below w.heap.size w W
theorem ChS.keep {w W W':World} {x:TokM} {X:Array Value} (h:ChS w x X W) (hb:Below W.heap.size W W'):ChS w x X W':=⟨h.t.keep hb,h.a.keep hb,bstep h.b hb⟩
theorem check25_any (A:Option Addr) (n c:Nat) (L:List KeyV) (x:TokM) (a:AskV) (w:World) (hA:KeysRead w A n L) (hn:n≤100000) (hL:RingOk L) (hR:TokReads w x) (hc:∀ y∈x.L,CoOk y.c) (ha:AskFits a) (h1:1≤x.t.conds.length) (hn2:x.t.conds.length≤1000) (hid:x.t.id.size≤1000000) (hp:InK x.t.cust) (hs:InK x.t.ser) (hK:Ks w) (hE:Env w) (hTb:Tab w) :
  Calls Tryz.prog 29 #[.slice A n c,x.val,a.val] w (Ret w (.int .i64 (checkT L x.t a))):=by
 have hG:=fun (W:World) (hb:Below w.heap.size w W)=>genuine_any A n c L x a.lo a.hi W (hA.keep hb) hn hL (hR.keep hb) hc h1 hn2 hid hp hs (hK.keep hb) (hE.keep hb) (hTb.keep hb)
 have hC:=fun (g:Nat) (W:World) (hb:Below w.heap.size w W) (hx:Box1 W g 59 (askL a).toArray)=>containsT_any 64 (enters_of Tryz.func64 (by kernel_rfl) rfl) #[.pointer (some ⟨g,0,none⟩)] (fun y=>!holdsC y.c a) x.A x.t.conds.length x.c x.L W
  (fun y hy W2 hb2=>tcheck1_any y.c y.m a g W2 (((hR.conds.each y hy).keep hb).keep hb2) (hc y hy).fits ha ((hE.keep hb).keep hb2) (hx.keep hb2)) (hR.conds.keep hb) (by omega)
 rw[any_all x.t x a hR.same]at hC
 have hat:=fun (W:World) (g:Nat) (h:Box1 W g 59 (askL a).toArray)=>ask_at h
 have hV:checkT L x.t a=if genuineT L x.t a.lo a.hi=0 then (if x.t.conds.all fun c=>holdsC c a then 0 else 250) else genuineT L x.t a.lo a.hi:=rfl
 rw[hV,ask_val]
 generalize genuineT L x.t a.lo a.hi=e at *
 generalize (x.t.conds.all fun c=>holdsC c a)=q at *
 have hTS:x.cells.toArray.size=20:=by rw[List.size_toArray];exact hR.size
 obtain⟨P,hP⟩:∃ P,perV a.lo a.hi=.agg P:=⟨_,rfl⟩
 rw[hP]at hG hat
 generalize (askL a).toArray=X at *
 unfold TokM.val at hG ⊢
 have HG:=Lib.hid hG;have HC:=Lib.hid hC;have HAT:=Lib.hid hat;have HTS:=Lib.hid hTS
 obtain⟨n2,hln⟩:∃ n2,x.t.conds.length=n2:=⟨_,rfl⟩
 rw[hln]at HC
 have HLN:=Lib.hid hln
 clear hG hC hat hTS hV hP hln hA hL hR hc ha hK hE hTb
 go_enter Tryz.func29,Tryz.ntmps29
 go_upto_region 1 with fail
 generalize hw0:World.alloc _ _=w0
 have hS0:ChS w x X w0:=by
  rw[←hw0]
  exact⟨⟨(alloc2_box w _ _).1⟩,(alloc2_box w _ _).2,belB⟩
 have HS0:=Lib.hid hS0
 have hldt:=tok_row hS0.t.box HTS.out
 have hlda:=HAT.out w0 _ hS0.a
 have hb0:=hS0.b
 clear hw0 hS0
 by_cases he:e=0
 ·subst he
  rw[if_pos rfl]
  go_upto_region 4 with (first
   | (refine wpList_load_addr rfl 32 _ rfl ⟨w.heap.size,0,none⟩ (.agg x.cells.toArray) rfl hldt ?_)
   | (refine wpList_load_addr rfl 57 _ rfl ⟨w.heap.size+1,4,none⟩ (.agg P) rfl hlda ?_)
   | (go_at_call 27;refine (HG.out _ hb0).mono ?_;rintro e w1 ⟨rfl,hb1⟩))
  have hS1:=HS0.out.keep hb1
  obtain⟨y0,y1,y2,y3⟩:=hS1.t.cells
  rw[HLN.out]at y3
  have hcc:=HC.out _ w1 hS1.b hS1.a
  have HCC:=Lib.hid hcc;have HB1:=Lib.hid hS1.b
  have hmf:∀ (fn:Fn) (first cap:Array Value) (w:World),(Instr.makeFunc fn first cap).run Tryz.prog w=.ok (.func fn first cap) w:=fun _ _ _ _=>rfl
  clear hcc hS1 hldt hlda HS0 hb0
  cases q
  ·go_wp2_with (go_at_call 47;refine HCC.out.mono ?_;rintro e w2 ⟨rfl,hb2⟩)
   go_ret
   exact⟨rfl,bstep HB1.out hb2⟩
  ·go_wp2_with (go_at_call 47;refine HCC.out.mono ?_;rintro e w2 ⟨rfl,hb2⟩)
   go_ret
   exact⟨rfl,bstep HB1.out hb2⟩
 ·rw[if_neg he]
  have he2:(e != 0)=true:=by simpa using he
  go_wp2_with (first
   | (refine wpList_load_addr rfl 32 _ rfl ⟨w.heap.size,0,none⟩ (.agg x.cells.toArray) rfl hldt ?_)
   | (refine wpList_load_addr rfl 57 _ rfl ⟨w.heap.size+1,4,none⟩ (.agg P) rfl hlda ?_)
   | (go_at_call 27;refine (HG.out _ hb0).mono ?_;rintro e w1 ⟨rfl,hb1⟩))
  go_ret
  exact⟨rfl,bstep HS0.out.b hb1⟩
theorem own_grown {w w':World} {base size n:Nat} {e:TypeId} {v:Value} {xs:List Value} {bk:Option Nat} (h:w.ownsRow base e size v n xs) (hg:w.grownBy w' bk) (hne:v.ownBlock=none∨v.ownBlock≠bk):w'.ownsRow base e size v n xs:=by
 refine⟨h.1,?_⟩
 rcases h.2 with ⟨h4,h5⟩ | ⟨g,cap,cur,rfl,hbg,hg2,hr⟩
 ·exact .inl ⟨h4,h5⟩
 ·refine .inr ⟨g,cap,cur,rfl,hbg,?_,hr⟩
  rcases hne with h | h
  ·cases h
  ·exact (hg.block g (Array.getElem?_eq_some_iff.1 hg2).1 (fun e=>h e)).trans hg2
theorem own_type_ne25 {w:World} {b1 b2 s1 s2 n1 n2:Nat} {e1 e2:TypeId} {v1 v2:Value} {x1 x2:List Value} (h1:w.ownsRow b1 e1 s1 v1 n1 x1) (h2:w.ownsRow b2 e2 s2 v2 n2 x2) (he:e1≠e2):v1.ownBlock=none∨v1.ownBlock≠v2.ownBlock:=by
 rcases h1.2 with ⟨rfl,_⟩ | ⟨g,cap,cur,rfl,_,hg,_⟩
 ·exact .inl rfl
 ·rcases h2.2 with ⟨rfl,_⟩ | ⟨g',cap',cur',rfl,_,hg',_⟩
  ·exact .inr (by simp[Value.ownBlock])
  ·refine .inr fun e=>?_
   simp only[Value.ownBlock,Option.some.injEq]at e
   subst e
   rw[hg]at hg'
   injection hg' with hg'
   injection hg' with _ hg'
   exact he hg'
structure HxG (n0 n:Nat) (xs ys:List Value) (a b:World):Prop where
 low:Below n0 a b
 r1:∀ v,a.ownsRow n0 5 1 v n xs→b.ownsRow n0 5 1 v n xs
 r2:∀ v,a.ownsRow n0 5 1 v (n+2) (xs++ys)→b.ownsRow n0 5 1 v (n+2) (xs++ys)
 r3:∀ v,a.ownsRow n0 5 1 v 2 ys→b.ownsRow n0 5 1 v 2 ys
 st:∀ v k zs,a.ownsRow n0 9 1 v k zs→b.ownsRow n0 9 1 v k zs
theorem HxG.refl {n0 n:Nat} {xs ys:List Value} (a:World):HxG n0 n xs ys a a:=⟨Below.refl _ _,fun _ h=>h,fun _ h=>h,fun _ h=>h,fun _ _ _ h=>h⟩
theorem HxG.trans {n0 n:Nat} {xs ys:List Value} (a b c:World) (h:HxG n0 n xs ys a b) (k:HxG n0 n xs ys b c):HxG n0 n xs ys a c :=
 ⟨h.low.trans k.low,fun v x=>k.r1 v (h.r1 v x),fun v x=>k.r2 v (h.r2 v x),fun v x=>k.r3 v (h.r3 v x),fun v i z x=>k.st v i z (h.st v i z x)⟩
theorem HxG.of {n0 n:Nat} {xs ys:List Value} {a b:World} (h:Below a.heap.size a b) (h0:n0≤a.heap.size):HxG n0 n xs ys a b :=
 ⟨h.mono h0,fun _ x=>ownsRow_keep x h,fun _ x=>ownsRow_keep x h,fun _ x=>ownsRow_keep x h,fun _ _ _ x=>ownsRow_keep x h⟩
def hexN (s:List Nat):List Nat:=(hexL s).map UInt8.toNat
theorem hexN_lt (s:List Nat):∀ x∈hexN s,x<256:=by
 intro x hx
 obtain⟨b,_,rfl⟩:=List.mem_map.1 hx
 exact b.toNat_lt
theorem toN_hexN (s:List Nat):toN (hexN s)=hexB s:=by
 unfold toN hexN hexB
 rw[List.map_map]
 congr 2
 conv=>rhs;rw[←List.map_id (hexL s)]
 exact List.map_congr_left fun b _=>by simp
theorem hexN_snoc (s:List Nat) (a:Nat):hexN (s++[a])=hexN s++[(hexD (a / 16)).toNat,(hexD (a % 16)).toNat]:=by
 unfold hexN hexL
 simp
theorem hexN_len (s:List Nat):(hexN s).length=2*s.length:=by
 unfold hexN
 rw[List.length_map]
 induction s with
 | nil=>rfl
 | cons n s ih=>show (hexD (n / 16) :: hexD (n % 16) :: hexL s).length=_;simp[ih];omega
theorem run_index_sl (W:World) (l:List Nat) (j a:Nat) (h:l[j]? = some a) (hl:l.length=16):(Instr.index 30 (.agg (b8 l).toArray) (.int .i64 j)).run Tryz.prog W=.ok (.int .u8 (a:Int)) W:=by
 have h1:=run_underlying Tryz.underlying30 W
 have h2:=run_underlying Tryz.underlying5 W
 have h4:(b8 l)[j]? = some (.int .u8 (a:Int)):=by unfold b8;rw[List.getElem?_map,h];rfl
 have hj:j<16:=by rw[←hl];exact (List.getElem?_eq_some_iff.1 h).1
 have h5:(0:Int)≤(j:Int)∧(j:Int)<16:=by omega
 simp[Instr.index,asIntOf,h1,h2,h4,hj,go_sem]
theorem run_index_hex (W:World) (n:Nat) (h:n<16):(Instr.index 9 (.string ⟨#[48,49,50,51,52,53,54,55,56,57,97,98,99,100,101,102]⟩) (.int .u8 (n:Int))).run Tryz.prog W=.ok (.int .u8 ((hexD n).toNat:Int)) W:=by
 have h1:=run_underlying Tryz.underlying9 W
 have key:∀ n:Nat,n<16→(⟨#[48,49,50,51,52,53,54,55,56,57,97,98,99,100,101,102]⟩:ByteArray)[n]? = some (hexD n):=by decide
 have h5:(0:Int)≤(n:Int):=by omega
 simp[Instr.index,asIntOf,h1,key n h,h5,go_sem]
end Go.Proofs.YtlkbkclnbppigaaGreatDoor
