/- What the condition package's Parse returns. -/
import Derived.Test.YtlkbkclnbppigaaGreatDoorIZ33
namespace Go.Proofs.YtlkbkclnbppigaaGreatDoor
open Go.RowKit Go.Sort
set_option linter.unusedVariables false
set_option linter.unusedSimpArgs false
set_option maxRecDepth 100000
attribute [local go_sem] Oper.semAt_some
def D3 (nb g:Nat) (Ls:List ByteArray) (j:Nat) (v:Value) (w:World):Prop :=
 match j with
 | 0=>v=.func (.func 138) #[.pointer (some ⟨g,0,none⟩)] #[]
 | 1=>v=.pointer (some ⟨g,0,none⟩)
 | 2=>v=.string (Ls.getD 0 tilde)
 | 3=>v=.int .i64 (atoiN (Ls.getD 0 tilde))
 | 4=>v=.func (.func 138) #[.pointer (some ⟨g,0,none⟩)] #[]
 | 5=>v=.pointer (some ⟨g,0,none⟩)
 | 6=>v=.string (Ls.getD 1 tilde)
 | 7=>v=.int .i64 (atoiN (Ls.getD 1 tilde))
 | 8=>v=.pointer (some ⟨g,0,none⟩)
 | 9=>v=.string (Ls.getD 2 tilde)
 | 10=>v=.agg #[.int .i64 (atoiN (Ls.getD 0 tilde)),.int .i64 (atoiN (Ls.getD 1 tilde)),.string (Ls.getD 2 tilde),.slice none 0 0,.slice none 0 0,.slice none 0 0,.int .i64 0]
 | 11=>∃ cb,v=.pointer (some ⟨cb,0,none⟩)∧nb<cb∧CBox w cb 0 0 ⟨#[]⟩ none 0 0 none 0 0 none 0 0 0
 | _=>True
def D9 (nb g cb:Nat) (A6:Option Addr) (k c6:Nat) (p:ByteArray) (j:Nat) (v:Value) (w:World):Prop :=
 match j with
 | 0=>v=.pointer (some ⟨cb,5,none⟩)
 | 1=>v=.slice A6 k c6
 | 2=>v=.func (.func 138) #[.pointer (some ⟨g,0,none⟩)] #[]
 | 3=>v=.string p
 | 4=>v=.int .i64 (atoiN p)
 | 5=>∃ bb,v=.slice (some ⟨bb,0,none⟩) 1 1∧g<bb∧w.cell? ⟨bb,0,none⟩=some (.int .i64 (atoiN p))
 | _=>True
theorem D9.keep {nb g cb:Nat} {A6:Option Addr} {k c6:Nat} {p:ByteArray} (j:Nat) (v:Value) (w w':World) (h:D9 nb g cb A6 k c6 p j v w) (hb:But g w w'):D9 nb g cb A6 k c6 p j v w':=by
 unfold D9 at h
 split at h
 all_goals first
  | exact h
  | (obtain⟨bb,e,hc,hx⟩:=h;exact⟨bb,e,hc,hb.cell hx (by simp;omega)⟩)
  | (unfold D9;split <;> first | trivial | (exfalso;simp_all;done))
def D10 (nb g:Nat) (Ls:List ByteArray) (j:Nat) (v:Value) (w:World):Prop :=
 match j with
 | 0=>v=.func (.func 138) #[.pointer (some ⟨g,0,none⟩)] #[]
 | 1=>v=.pointer (some ⟨g,0,none⟩)
 | 2=>v=.string (Ls.getD 6 tilde)
 | 3=>v=.int .i64 (atoiN (Ls.getD 6 tilde))
 | _=>True
theorem D10.keep {nb g:Nat} {Ls:List ByteArray} (j:Nat) (v:Value) (w w':World) (h:D10 nb g Ls j v w) (hb:But g w w'):D10 nb g Ls j v w':=by
 unfold D10 at h
 split at h
 all_goals first
  | exact h
  | (unfold D10;split <;> first | trivial | (exfalso;simp_all;done))
def J10 (w0:World) (nb g:Nat) (Ls:List ByteArray) (b9:Bool) (l:Nat→Bool) (w:World):Prop:=PS w0 w nb g Ls (bif l 2 then 7 else 6) (b9||(l 2&&decide (Ls.length≤6))||(l 3&&atoiBad (Ls.getD 6 tilde)))
def PI (w0:World) (nb g cb hi:Nat) (Ls X3 X4 X5:List ByteArray) (b8:Bool) (N0 N1:Int) (PT:ByteArray) (A3 A4:Option Addr) (c3 c4 k:Nat) (W:World):Prop :=
 ∃ A5 c5,CBox W cb N0 N1 PT A3 X3.length c3 A4 X4.length c4 A5 k c5 0∧W.ownsRow hi 3 1 (.slice A5 k c5) k ((X5.take k).map fun x=>.int .i64 (atoiN x))∧Reads W 1 A3 X3.length (X3.map .string)∧Reads W 1 A4 X4.length (X4.map .string)∧PS w0 W nb g Ls 6 (b8||(X5.take k).any atoiBad)∧hi≤W.heap.size
theorem PI.own {w0:World} {nb g cb hi B:Nat} {Ls X3 X4 X5:List ByteArray} {b8:Bool} {N0 N1:Int} {PT:ByteArray} {A3 A4:Option Addr} {c3 c4:Nat} (hB:w0.heap.size≤B):OwnFrom B (PI w0 nb g cb hi Ls X3 X4 X5 b8 N0 N1 PT A3 A4 c3 c4):=by
 rintro k W W' row ⟨A5,c5,h1,h2,h3,h4,h5,h6⟩ hg hr
 have hc:Calm W W' row:=⟨hg,fun r e=>(hr r e).2⟩
 exact⟨A5,c5,Blk.calm h1 hc,own_calm h2 hc,h3.calm hc,h4.calm hc,h5.calm hc (fun r e=>by have:=(hr r e).1;omega),Nat.le_trans h6 hg.size⟩
theorem D3.keep {nb g:Nat} {Ls:List ByteArray} (hg:g<nb) (j:Nat) (v:Value) (w w':World) (h:D3 nb g Ls j v w) (hb:But g w w'):D3 nb g Ls j v w':=by
 unfold D3 at h
 split at h
 all_goals first
  | exact h
  | (obtain⟨cb,e,hc,hx⟩:=h;exact⟨cb,e,hc,hb.blk hx (by omega)⟩)
  | (unfold D3;split <;> first | trivial | (exfalso;simp_all;done))
def b3 (Ls:List ByteArray) (l:Nat→Bool):Bool:=(l 2&&decide (Ls.length≤0))||(l 3&&atoiBad (Ls.getD 0 tilde))||(l 6&&decide (Ls.length≤1))||(l 7&&atoiBad (Ls.getD 1 tilde))||(l 9&&decide (Ls.length≤2))
def J3 (w0:World) (nb g:Nat) (Ls:List ByteArray) (l:Nat→Bool) (w:World):Prop:=PS w0 w nb g Ls (bif l 9 then 3 else bif l 6 then 2 else bif l 2 then 1 else 0) (b3 Ls l)
def Beh (g:Nat) (A:Option Addr) (n:Nat):Prop:=0<n→∀ a,A=some a→g<a.block
theorem Beh.off {g:Nat} {A:Option Addr} {n:Nat} (h:Beh g A n):0<n→∀ a,A=some a→a.block≠g:=fun h0 a ha=>by have:=h h0 a ha;omega
theorem bad_seq (n:Nat) (a0 a1 a5 a6:Bool):(!decide (n=7)||a0||a1||a5||a6)=false↔((((false||decide (n≤0)||a0||decide (n≤1)||a1||decide (n≤2))||decide (n≤3)||decide (n≤4)||decide (n≤5))||a5)||decide (n≤6)||a6)=false∧n≤7:=by
 cases a0 <;> cases a1 <;> cases a5 <;> cases a6 <;> simp <;> omega
theorem join_sum (c:UInt8) (l:List (List UInt8)):(Lib.join l [c]).length≤Lib.lens l+l.length:=by
 cases l with
 | nil=>simp[Lib.join_nil]
 | cons x r =>
  rw[Lib.join_cons,List.length_append,Lib.joinTail_length]
  simp only[Lib.lens,List.map_cons,List.sum_cons,List.length_cons,List.length_nil,Nat.zero_add,Nat.one_mul]
  omega
theorem textC_size7 {c:CondV} (hv:validC c=true) (hf:fewV c=true):(textC c).size≤6000:=by
 have ok:=(valid_iff c).1 hv
 unfold fewV fewC at hf
 simp only[Bool.and_eq_true,decide_eq_true_eq,List.all_eq_true]at hf
 obtain⟨⟨⟨⟨⟨h1,h2⟩,h3⟩,h4⟩,h5⟩,h6⟩:=hf
 have f0:=itoa_size2 c.fr ok.fr0 (by have:=ok.fr1;omega)
 have f1:=itoa_size2 c.till ok.to0 ok.to1
 have f6:=itoa_size2 c.us ok.us0 (by have:=ok.us1;omega)
 have f2:(orT c.pat ⟨#[126]⟩).size≤1000:=orT_size2 h4 (by decide)
 have f3:=joinT_size c.cl 100 32 (fun x hx=>h5 x hx) ok.clLen
 have f4:=joinT_size c.co 2 32 (fun x hx=>by
  have:=ok.co x hx
  unfold countryB at this
  simp only[Bool.and_eq_true,decide_eq_true_eq]at this
  omega) ok.coLen
 have f5:=joinT_size (c.si.map itoaB) 13 64 (by
  intro x hx
  obtain⟨n,hn,rfl⟩:=List.mem_map.1 hx
  have hs:=ok.si n hn
  simp only[siteB,Bool.and_eq_true,decide_eq_true_eq]at hs
  exact itoa_size2 n (by omega) (by omega)) (by rw[List.length_map];exact ok.siLen)
 have hj:=join_sum 32 ((fieldsC c).map (·.data.toList))
 unfold textC
 rw[Lib.size_eq]
 show (Lib.join _ _).length≤_
 have hl:((fieldsC c).map (·.data.toList)).length=7:=rfl
 have he:Lib.lens ((fieldsC c).map (·.data.toList))=(itoaB c.fr).size+(itoaB c.till).size+(orT c.pat ⟨#[126]⟩).size+(joinT c.cl).size+(joinT c.co).size+(joinT (c.si.map itoaB)).size+(itoaB c.us).size:=by
  simp only[Lib.lens,fieldsC,List.map_cons,List.map_nil,List.sum_cons,List.sum_nil,Lib.size_eq]
  omega
 rw[hl,he]at hj
 omega
theorem fieldsT_size {t:TokV} (hv:validT t=true) (hf:fewTk t=true) (hs:SealOk t.sl):∀ x∈fieldsT t,x.size≤6000:=by
 have ok:=(validT_iff t).1 hv
 unfold fewTk at hf
 simp only[Bool.and_eq_true,decide_eq_true_eq,List.all_eq_true]at hf
 obtain⟨h1,h2,h3⟩:=hf
 have a0:=ok.c0;have a1:=ok.c1;have b0:=ok.s0;have b1:=ok.s1
 intro x hx
 unfold fieldsT at hx
 simp only[List.mem_cons,List.mem_append,List.mem_map,List.not_mem_nil,or_false]at hx
 rcases hx with rfl | rfl | rfl | ⟨c,hc,rfl⟩ | rfl
 ·have:=itoa_size2 t.cust (by omega) (by omega);omega
 ·have:=itoa_size2 t.ser (by omega) (by omega);omega
 ·omega
 ·exact textC_size7 (ok.all c hc) (h1 c hc)
 ·rw[hexB_size _ hs.len];omega
theorem textT_size {t:TokV} (hv:validT t=true) (hf:fewTk t=true) (hs:SealOk t.sl):(textT t).size≤131072:=by
 have ok:=(validT_iff t).1 hv
 have hz:=fieldsT_size hv hf hs
 have hn:=ok.n1
 have hl:(fieldsT t).length=t.conds.length+4:=by simp[fieldsT]
 have h1:=lens_le' 6000 ((fieldsT t).map (·.data.toList)) (by
  intro y hy
  obtain⟨z,hzm,rfl⟩:=List.mem_map.1 hy
  have:=hz z hzm
  rwa [Lib.size_eq]at this)
 have hj:=join_sum 59 ((fieldsT t).map (·.data.toList))
 rw[List.length_map]at h1 hj
 unfold textT sepT
 rw[Lib.size_eq]
 show (Lib.join _ _).length≤_
 omega
theorem split_size (c:UInt8) (s:ByteArray) (n:Nat) (h:s.size≤n):∀ x∈splitB c s,x.size≤n:=fun x hx=>Nat.le_trans (splitB_size c s x hx) h
theorem split_backT {t:TokV} (hv:validT t=true) (hf:fewTk t=true) (hs:SealOk t.sl):∀ x∈splitB 59 (textT t),x.size≤100000:=fun x hx=>by
 rw[split_textT ((validT_iff t).1 hv) hs]at hx
 exact Nat.le_trans (fieldsT_size hv hf hs x hx) (by decide)
end Go.Proofs.YtlkbkclnbppigaaGreatDoor
