/- The parts of a pattern: what has, covers, with, without, String, meet and partOf return. -/
import Derived.Test.YticlbkficolocaaGreatDoorIZ0
import Derived.StillTail
set_option maxHeartbeats 2000000
namespace Go.Proofs.YticlbkficolocaaGreatDoor
open Go.RowKit Go.Sort
set_option linter.unusedVariables false
set_option linter.unusedSimpArgs false
theorem YZ (s t:ByteArray):Lib.hasSuffix s.data.toList t.data.toList=(decide (t.size≤s.size)&&((s.extract (s.size-t.size) s.size).toList==t.toList)):=by
 unfold Lib.hasSuffix
 rw[Lib.toList_data,Lib.toList_data,Lib.extract_data,Lib.size_eq,Lib.size_eq,Bool.eq_iff_iff]
 simp only[List.isSuffixOf_iff_suffix,Bool.and_eq_true,decide_eq_true_eq,beq_iff_eq]
 constructor
 ·intro h
  have hl:=h.length_le
  refine⟨hl,?_⟩
  rw[List.take_of_length_le (by simp)]
  obtain⟨p,hp⟩:=h
  rw[←hp];simp
 ·rintro⟨_,h⟩
  rw[←h]
  simp[List.take_of_length_le]
  exact List.drop_suffix _ _
theorem hasSuffix_any (s t:ByteArray) (w:World) (hs:s.size≤4294967281) (ht:t.size≤4294967281) :
  Calls Tryz.prog 95 #[.string s,.string t] w (Zx w (.bool (Lib.hasSuffix s.data.toList t.data.toList))):=by
 by_cases h:(t.size:Int)≤s.size
 ·go_enter Tryz.func95,Tryz.ntmps95
  go_wp2
  go_ret
  exact⟨QY (by rw[YZ];simp[show t.size≤s.size by omega]),Qz⟩
 ·go_enter Tryz.func95,Tryz.ntmps95
  go_wp2
  go_ret
  exact⟨QY (by rw[YZ];simp[show ¬ t.size≤s.size by omega]),Qz⟩
structure Part where
 kind:Nat
 text:ByteArray
def Jw (k:Nat) (t s:ByteArray):Bool:=if k=0 then t.toList==s.toList else if k=1 then decide (t.size<s.size)&&Lib.hasSuffix s.data.toList t.data.toList else true
def Zb (k:Nat) (t:ByteArray) (k2:Nat) (t2:ByteArray):Bool :=
 if k2=0 then Jw k t t2 else if k2=1 then k==2||(k==1&&Lib.hasSuffix t2.data.toList t.data.toList) else k==2
def XV (k:Nat) (t b:ByteArray):ByteArray:=if k=0 then t else if k=1 then b++t else b
theorem has_any (k:Nat) (t s:ByteArray) (w:World) (hs:s.size≤4294967281) (ht:t.size≤4294967281) (hk:k≤2) :
  Calls Tryz.prog 47 #[.agg #[.int .i64 k,.string t],.string s] w (Zx w (.bool (Jw k t s))):=by
 have hk':k=0∨k=1∨k=2:=by omega
 rcases hk' with rfl | rfl | rfl
 ·go_enter Tryz.func47,Tryz.ntmps47
  go_wp2
  go_ret
  exact⟨QY (by simp[Jw]),Qz⟩
 ·by_cases h:(t.size:Int)<s.size
  ·go_enter Tryz.func47,Tryz.ntmps47
   go_wp2_with (go_at_call 95;refine (hasSuffix_any s t _ hs ht).mono ?_;rintro e w1 ⟨rfl,hb1⟩)
   go_ret
   exact⟨QY (by simp[Jw];omega),Qz⟩
  ·go_enter Tryz.func47,Tryz.ntmps47
   go_wp2
   go_ret
   exact⟨QY (by simp[Jw];omega),Qz⟩
 ·go_enter Tryz.func47,Tryz.ntmps47
  go_wp2
  go_ret
  exact⟨QY (by simp[Jw]),Qz⟩
theorem covers_any (k k2:Nat) (t t2:ByteArray) (w:World) (ht2:t2.size≤4294967281) (ht:t.size≤4294967281) (hk:k≤2) (hk2:k2≤2) :
  Calls Tryz.prog 201 #[.agg #[.int .i64 k,.string t],.agg #[.int .i64 k2,.string t2]] w (Zx w (.bool (Zb k t k2 t2))):=by
 have hk':k2=0∨k2=1∨k2=2:=by omega
 rcases hk' with rfl | rfl | rfl
 ·go_enter Tryz.func201,Tryz.ntmps201
  go_wp2_with (go_at_call 47;refine (has_any k t t2 _ ht2 ht hk).mono ?_;rintro e w1 ⟨rfl,hb1⟩)
  go_ret
  exact⟨QY (by simp[Zb]),Qz⟩
 ·have hk'':k=0∨k=1∨k=2:=by omega
  rcases hk'' with rfl | rfl | rfl
  ·go_enter Tryz.func201,Tryz.ntmps201
   go_wp2
   go_ret
   exact⟨QY (by simp[Zb]),Qz⟩
  ·go_enter Tryz.func201,Tryz.ntmps201
   go_wp2_with (go_at_call 95;refine (hasSuffix_any t2 t _ ht2 ht).mono ?_;rintro e w1 ⟨rfl,hb1⟩)
   go_ret
   exact⟨QY (by simp[Zb]),Qz⟩
  ·go_enter Tryz.func201,Tryz.ntmps201
   go_wp2
   go_ret
   exact⟨QY (by simp[Zb]),Qz⟩
 ·have hk'':k=0∨k=1∨k=2:=by omega
  rcases hk'' with rfl | rfl | rfl
  all_goals
   go_enter Tryz.func201,Tryz.ntmps201
   go_wp2
   go_ret
   exact⟨QY (by simp[Zb]),Qz⟩
theorem with_any (k:Nat) (t b:ByteArray) (w:World) (hs:b.size≤4294967281) (ht:t.size≤4294967281) (hk:k≤2) :
  Calls Tryz.prog 68 #[.agg #[.int .i64 k,.string t],.string b] w (Zx w (.string (XV k t b))):=by
 have hk':k=0∨k=1∨k=2:=by omega
 rcases hk' with rfl | rfl | rfl
 all_goals
  go_enter Tryz.func68,Tryz.ntmps68
  go_wp2
  go_ret
  exact⟨ret_str (by simp[XV]),Qz⟩
def withoutP (k:Nat) (t:ByteArray) (k2:Nat) (t2:ByteArray):ByteArray:=if Jw k2 t2 (XV k t ⟨#[97]⟩) then XV k t ⟨#[98]⟩ else XV k t ⟨#[97]⟩
theorem withP_size (k:Nat) (t b:ByteArray):(XV k t b).size≤t.size+b.size:=by
 unfold XV;split <;> (try split) <;> simp <;> omega
def Qp (k:Nat) (t:ByteArray):ByteArray:=if k=0 then t else ⟨#[42]⟩++t
theorem stringP_any (k:Nat) (t:ByteArray) (w:World) (ht:t.size≤4294967200) (hk:k≤2) :
  Calls Tryz.prog 126 #[.agg #[.int .i64 k,.string t]] w (Zx w (.string (Qp k t))):=by
 have hk':k=0∨k=1∨k=2:=by omega
 rcases hk' with rfl | rfl | rfl
 all_goals
  go_enter Tryz.func126,Tryz.ntmps126
  go_wp2
  go_ret
  exact⟨ret_str (by simp[Qp]),Qz⟩
def Part.val (p:Part):Value:=.agg #[.int .i64 p.kind,.string p.text]
def Q7 (s:ByteArray):Part :=
 if s.size<1 then ⟨0,s⟩ else if !((s.extract 0 1).toList == [42]) then ⟨0,s⟩ else if !((s.extract 1 s.size).toList.isEmpty) then ⟨1,s.extract 1 s.size⟩ else ⟨2,⟨#[]⟩⟩
theorem partOf_any (s:ByteArray) (w:World) (hs:s.size≤4294967200) :
  Calls Tryz.prog 90 #[.string s] w (Zx w (Q7 s).val):=by
 by_cases h1:(1:Int)≤s.size
 ·have e0:¬ s.size<1:=by omega
  cases h2:((s.extract 0 1).toList == [42])
  ·have e1:(Q7 s).val=.agg #[.int .i64 0,.string s]:=by simp[Q7,Part.val,e0,h2]
   rw[e1]
   clear e1
   go_enter Tryz.func90,Tryz.ntmps90
   go_wp2
   exact bodyPost_ret (v:=.agg #[.int .i64 0,.string s]) (by simp[results,Tryz.results90,go_sem]) rfl ⟨rfl,Qz⟩
  ·cases h3:(s.extract 1 s.size).toList.isEmpty
   ·have e1:(Q7 s).val=.agg #[.int .i64 1,.string (s.extract 1 s.size)]:=by simp[Q7,Part.val,e0,h2,h3]
    rw[e1]
    clear e1
    go_enter Tryz.func90,Tryz.ntmps90
    go_wp2
    exact bodyPost_ret (v:=.agg #[.int .i64 1,.string (s.extract 1 s.size)]) (by simp[results,Tryz.results90,go_sem]) rfl ⟨rfl,Qz⟩
   ·have e1:(Q7 s).val=.agg #[.int .i64 2,.string ⟨#[]⟩]:=by simp[Q7,Part.val,e0,h2,h3]
    rw[e1]
    clear e1
    go_enter Tryz.func90,Tryz.ntmps90
    go_wp2
    exact bodyPost_ret (v:=.agg #[.int .i64 2,.string ⟨#[]⟩]) (by simp[results,Tryz.results90,go_sem]) rfl ⟨rfl,Qz⟩
 ·have e1:(Q7 s).val=.agg #[.int .i64 0,.string s]:=by simp[Q7,Part.val,show s.size<1 by omega]
  rw[e1]
  clear e1
  go_enter Tryz.func90,Tryz.ntmps90
  go_wp2
  exact bodyPost_ret (v:=.agg #[.int .i64 0,.string s]) (by simp[results,Tryz.results90,go_sem]) rfl ⟨rfl,Qz⟩
def X7 (p q:Part):Part:=if Zb p.kind p.text q.kind q.text then q else p
def Xb (p q:Part):Bool:=Zb p.kind p.text q.kind q.text||Zb q.kind q.text p.kind p.text
theorem meetP_any (k k2:Nat) (t t2:ByteArray) (w:World) (ht2:t2.size≤4294967281) (ht:t.size≤4294967281) (hk:k≤2) (hk2:k2≤2) :
  Calls Tryz.prog 174 #[.agg #[.int .i64 k,.string t],.agg #[.int .i64 k2,.string t2]] w (Zx w (.tuple #[(X7 ⟨k,t⟩ ⟨k2,t2⟩).val,.bool (Xb ⟨k,t⟩ ⟨k2,t2⟩)])):=by
 have c1:∀ W,Calls Tryz.prog 201 #[.agg #[.int .i64 k,.string t],.agg #[.int .i64 k2,.string t2]] W (Zx W (.bool (Zb k t k2 t2))):=fun W=>covers_any k k2 t t2 W ht2 ht hk hk2
 have c2:∀ W,Calls Tryz.prog 201 #[.agg #[.int .i64 k2,.string t2],.agg #[.int .i64 k,.string t]] W (Zx W (.bool (Zb k2 t2 k t))):=fun W=>covers_any k2 k t2 t W ht ht2 hk2 hk
 have H1:=Lib.hid c1;have H2:=Lib.hid c2
 clear c1 c2
 unfold X7 Xb
 dsimp only
 cases hh:Zb k t k2 t2
 all_goals
  rw[hh]at H1
  simp only[Bool.false_eq_true,if_false,if_true,Bool.false_or,Bool.true_or]
  clear hh
  unfold Part.val
  dsimp only
  go_enter Tryz.func174,Tryz.ntmps174
  go_wp2_with fail
  refine (H1.out _).mono ?_
  rintro e w1 ⟨rfl,hb1⟩
  obtain⟨hc1,hf1⟩:=Qe hb1;have hz1_0:w.heap.size<w1.heap.size:=(by have:=hb1.size;(try simp at this);omega);have hz1_1:w.heap.size+1<w1.heap.size:=(by have:=hb1.size;(try simp at this);omega);have hz1_2:w.heap.size+1+1<w1.heap.size:=(by have:=hb1.size;(try simp at this);omega)
 ·go_wp2_with fail
  have f1:w1.cell? ⟨w.heap.size,0,none⟩=some (.int .i64 k):=by simp[hc1,go_sem]
  have f2:w1.cell? ⟨w.heap.size,1,none⟩=some (.string t):=by simp[hc1,go_sem]
  have f3:w1.cell? ⟨w.heap.size+1,0,none⟩=some (.int .i64 k2):=by simp[hc1,go_sem]
  have f4:w1.cell? ⟨w.heap.size+1,1,none⟩=some (.string t2):=by simp[hc1,go_sem]
  have f5:w1.cell? ⟨w.heap.size+1+1,0,none⟩=some (.int .i64 0):=by simp[hc1,go_sem]
  have f6:w1.cell? ⟨w.heap.size+1+1,1,none⟩=some (.string ⟨#[]⟩):=by simp[hc1,go_sem]
  have f7:w1.frozen? ⟨w.heap.size+1+1,0,none⟩=false:=by simp[hf1,go_sem]
  have f8:w1.frozen? ⟨w.heap.size+1+1,1,none⟩=false:=by simp[hf1,go_sem]
  clear hc1 hf1
  go_region_held3 (fun w'=>w'.cell? ⟨w.heap.size,0,none⟩=some (.int .i64 k)∧w'.cell? ⟨w.heap.size,1,none⟩=some (.string t)∧w'.cell? ⟨w.heap.size+1,0,none⟩=some (.int .i64 k2)∧w'.cell? ⟨w.heap.size+1,1,none⟩=some (.string t2)∧w'.cell? ⟨w.heap.size+1+1,0,none⟩=some (rd w' ⟨w.heap.size+1+1,0,none⟩)∧w'.cell? ⟨w.heap.size+1+1,1,none⟩=some (rd w' ⟨w.heap.size+1+1,1,none⟩)∧w'.frozen? ⟨w.heap.size+1+1,0,none⟩=false∧w'.frozen? ⟨w.heap.size+1+1,1,none⟩=false∧Below w.heap.size w w')
   (first | exact⟨f1,f2,f3,f4,rd_of f5,rd_of f6,f7,f8,Below.drew Qz⟩ | (go_split_ands;exact⟨Qq hb2 ‹_›,Qq hb2 ‹_›,Qq hb2 ‹_›,Qq hb2 ‹_›,rd_keep hb2 ‹_›,rd_keep hb2 ‹_›,Q9 hb2 (cell_lt ‹_›) ‹_›,Q9 hb2 (cell_lt ‹_›) ‹_›,Qj ‹_› hb2⟩) | (go_split_ands;refine⟨?_,?_,?_,?_,Ua (Ua ‹_›),Ua (Ua ‹_›),?_,?_,?_⟩ <;> first | (simp[go_sem, *];done) | (repeat (first | exact .refl _ _ | assumption | refine .drew ?_ | refine Qk ?_ _ | refine bdrewN ?_ _ | refine .setCell ?_ (by simp <;> omega) _ | refine Qj ?_ (by assumption)))))
   ((go_at_call 201;refine (H2.out _).mono ?_;rintro e w2 ⟨rfl,hb2⟩))
  go_wp2
  exact bodyPost_ret (v:=.tuple #[.agg #[.int .i64 k,.string t],.bool (Zb k2 t2 k t)]) (by have g5:=Qq (w:=w1.drew) hb2 f5;have g6:=Qq (w:=w1.drew) hb2 f6;simp[results,Tryz.results174,go_sem,g5,g6]) rfl ⟨rfl,by go_split_ands;assumption⟩
 ·go_wp2_with fail
  exact bodyPost_ret (v:=.tuple #[.agg #[.int .i64 k2,.string t2],.bool true]) (by simp[results,Tryz.results174,go_sem,hc1]) rfl ⟨rfl,Qz⟩
set_option maxRecDepth 100000
theorem rLetter_any (c:Nat) (w:World) (hc:c<256):Calls Tryz.prog 179 #[.int .u8 c] w (Zx w (.bool (KY c))):=by
 go_enter Tryz.func179,Tryz.ntmps179
 go_wp2
 all_goals
  go_ret
  exact⟨QY (by first | (rw[Bool.eq_iff_iff];simp[KY];done) | (rw[Bool.eq_iff_iff];simp[KY];omega)),Qz⟩
def Ya (c:Nat) (l:List UInt8):Bool:=l.any fun b=>b.toNat==c
theorem VZ (s:ByteArray) (k:Nat) (h:k<s.size):s.data.toList.take (k+1)=s.data.toList.take k++[s[k]]:=by
 rw[List.take_succ_eq_append_getElem (by simpa using h)];rfl
theorem byte_int (b:UInt8) (c:Nat):((b.toNat:Int)==(c:Int))=(b.toNat==c):=by
 rw[Bool.eq_iff_iff,beq_iff_eq,beq_iff_eq];omega
theorem rHas_any (s:ByteArray) (c:Nat) (w:World) (hs:s.size≤4294967281):Calls Tryz.prog 132 #[.string s,.int .u8 c] w (Zx w (.bool (Ya c s.data.toList))):=by
 go_enter Tryz.func132,Tryz.ntmps132
 go_wp2
 go_loop [5] (fun i=>∃ k:Nat,i=.int .i64 k∧k≤s.size∧Hid (Ya c (s.data.toList.take k)=false)) (fun i=>s.size-(intOf i).toNat)
 case atStart=>exact⟨0,rfl,Nat.zero_le _,Lib.hid (by simp[Ya])⟩
 case round =>
  obtain⟨k,rfl,hk,HK⟩:=hrel
  by_cases hlt:k<s.size
  ·have ht:Ya c (s.data.toList.take (k+1))=(Ya c (s.data.toList.take k)||(s[k].toNat==c)):=by rw[VZ s k hlt];simp[Ya]
   have hd:=byte_int s[k] c
   cases hb:(s[k].toNat==c)
   ·rw[hb]at ht hd
    have HK2:Hid (Ya c (s.data.toList.take (k+1))=false):=Lib.hid (by rw[ht,HK.out];rfl)
    clear ht hb HK
    go_wp2
    go_round
    case rel=>exact⟨k+1,by go_num,by omega,HK2⟩
    case measure=>simp[intOf];omega
   ·rw[hb]at ht hd
    have HK2:Hid (Ya c s.data.toList=true):=Lib.hid (by
     have h2:Ya c (s.data.toList.take (k+1))=true:=by rw[ht,Bool.or_true]
     unfold Ya at h2 ⊢
     rw[List.any_eq_true]at h2 ⊢
     obtain⟨x,hx,h3⟩:=h2
     exact⟨x,List.mem_of_mem_take hx,h3⟩)
    clear ht hb HK
    go_wp2
    go_ret
    exact⟨QY HK2.out.symm,Qz⟩
  ·go_wp2
   go_ret
   refine⟨QY ?_,Qz⟩
   have:=HK.out
   rw[List.take_of_length_le (by rw[←Lib.size_eq];omega)]at this
   exact this.symm
theorem rWord_any (s:ByteArray) (w:World) (hs:s.size≤4294967281):Calls Tryz.prog 131 #[.string s] w (Zx w (.bool (Qg s))):=by
 by_cases h0:s.size=0
 ·have d0:((s.size:Int)==0)=true:=by simp[h0]
  have hv:Qg s=false:=by
   have:s.data.toList=[]:=List.eq_nil_of_length_eq_zero (by rw[←Lib.size_eq];exact h0)
   simp[Qg,Lib.toList_data,this]
  rw[hv];clear hv h0
  go_enter Tryz.func131,Tryz.ntmps131
  go_wp2
  go_ret
  exact⟨rfl,Qz⟩
 have d0:((s.size:Int)==0)=false:=beq_eq_false_iff_ne.2 (by omega)
 by_cases h1:s.size≤64
 rotate_left
 ·have d1:decide ((64:Int)<(s.size:Int))=true:=decide_eq_true (by omega)
  have hv:Qg s=false:=by simp[Qg,h1]
  rw[hv];clear hv
  go_enter Tryz.func131,Tryz.ntmps131
  go_wp2
  go_ret
  exact⟨rfl,Qz⟩
 have d1:decide ((64:Int)<(s.size:Int))=false:=decide_eq_false (by omega)
 cases h2:(s.toList == [46])
 rotate_left
 ·have hv:Qg s=false:=by simp[Qg,h2]
  rw[hv];clear hv
  go_enter Tryz.func131,Tryz.ntmps131
  go_wp2
  go_ret
  exact⟨rfl,Qz⟩
 cases h3:(s.toList == [46,46])
 rotate_left
 ·have hv:Qg s=false:=by simp[Qg,h3]
  rw[hv];clear hv
  go_enter Tryz.func131,Tryz.ntmps131
  go_wp2
  go_ret
  exact⟨rfl,Qz⟩
 have hv:Qg s=s.data.toList.all Z8:=by
  have:s.toList.isEmpty=false:=by
   rw[Lib.toList_data]
   cases hl:s.data.toList with
   | nil=>rw[Lib.size_eq,hl]at h0;simp at h0
   | cons _ _=>rfl
  simp[Qg,h2,h3,this,h1]
 rw[hv];clear hv
 go_enter Tryz.func131,Tryz.ntmps131
 go_wp2
 go_loopw [3] (fun i wr=>∃ k:Nat,i=.int .i64 k∧k≤s.size∧Hid ((s.data.toList.take k).all Z8=true)∧Below w.heap.size w wr) (fun i _=>s.size-(intOf i).toNat)
 case atStart=>exact⟨0,rfl,Nat.zero_le _,Lib.hid (by simp),Below.refl _ _⟩
 case round =>
  obtain⟨k,rfl,hk,HK,hbr⟩:=hrel
  by_cases hlt:k<s.size
  ·have ht:(s.data.toList.take (k+1)).all Z8=((s.data.toList.take k).all Z8&&Z8 s[k]):=by rw[VZ s k hlt];simp
   have cL:=fun W=>rLetter_any s[k].toNat W (s[k].toNat_lt)
   unfold Z8 at ht
   generalize KY s[k].toNat=b at *
   cases b
   ·have HK2:Hid (s.data.toList.all Z8=false):=Lib.hid (by
     have h2:(s.data.toList.take (k+1)).all Z8=false:=by unfold Z8;rw[ht,Bool.and_false]
     rw[List.all_eq_false]at h2 ⊢
     obtain⟨x,hx,h3⟩:=h2
     exact⟨x,List.mem_of_mem_take hx,h3⟩)
    clear ht HK
    have HL:=Lib.hid cL
    clear cL
    go_wp2_with (go_at_call 179;refine (HL.out _).mono ?_;rintro e w1 ⟨rfl,hb1⟩)
    go_ret
    exact⟨QY HK2.out.symm,Qz⟩
   ·have HK2:Hid ((s.data.toList.take (k+1)).all Z8=true):=Lib.hid (by have:=HK.out;unfold Z8 at this ⊢;rw[ht,this];rfl)
    clear ht HK
    have HL:=Lib.hid cL
    clear cL
    go_wp2_with (go_at_call 179;refine (HL.out _).mono ?_;rintro e w1 ⟨rfl,hb1⟩)
    exact⟨⟨k+1,by go_num,by omega,HK2,Qz⟩,by simp[intOf];omega⟩
  ·go_wp2
   go_ret
   refine⟨QY ?_,Qz⟩
   have:=HK.out
   rw[List.take_of_length_le (by rw[←Lib.size_eq];omega)]at this
   exact this.symm
theorem anyEq_46 (s:ByteArray):(Qg s&&!Ya 46 s.data.toList)=Qy s:=by
 unfold Qy
 congr 2
 rw[Bool.eq_iff_iff,decide_eq_true_eq]
 unfold Ya
 generalize s.data.toList=l
 induction l with
 | nil=>simp[Lib.indexByte]
 | cons b l ih =>
  rw[Lib.indexByte,List.any_cons,Bool.or_eq_true]
  have hb:(b.toNat==46)=true↔(b==46)=true:=by
   rw[beq_iff_eq,beq_iff_eq,←UInt8.toNat_inj];rfl
  rw[hb,ih]
  split
  ·simp[*]
  ·split
   ·rename_i h2
    simp only[beq_iff_eq]at h2
    simp[*]
   ·rename_i h1 h2
    simp only[beq_iff_eq]at h2
    have : -1≤Lib.indexByte l 46:=by
     rw[←Lib.index_one];exact Lib.index_ge _ _
    simp only[h1,false_or,Bool.false_eq_true]
    omega
theorem Ue (s:ByteArray) (w:World) (hs:s.size≤4294967281):Calls Tryz.prog 73 #[.string s] w (Zx w (.bool (Qy s))):=by
 have cW:=fun W=>rWord_any s W hs
 have cH:=fun W=>rHas_any s 46 W hs
 rw[←anyEq_46]
 generalize Qg s=b at *
 generalize Ya 46 s.data.toList=h at *
 have HH:=Lib.hid cH
 have HW:=Lib.hid cW
 clear cH cW
 cases b
 ·go_enter Tryz.func73,Tryz.ntmps73
  go_wp2_with (go_at_call 131;refine (HW.out _).mono ?_;rintro e w1 ⟨rfl,hb1⟩)
  go_ret
  exact⟨rfl,Qz⟩
 ·go_enter Tryz.func73,Tryz.ntmps73
  go_wp2_with (first | (go_at_call 131;refine (HW.out _).mono ?_;rintro e w1 ⟨rfl,hb1⟩) | (go_at_call 132;refine (HH.out _).mono ?_;rintro e w2 ⟨rfl,hb2⟩))
  go_ret
  exact⟨QY (by simp),Qz⟩
section
variable {P:Program} {ops:Array Oper} {Q:Exit→Act→World→Prop} {md:Region.Mode} {step:Nat→(Act→World→Prop)→Act→World→Prop}
def cntU (n:Nat) (listed:Array Bool):Nat:=(List.range n).countP fun i=>!listed.getD i true
theorem countP_drop {α:Type} (p q:α→Bool) (h:∀ x,q x=true→p x=true):∀ (l:List α) (i:α),i∈l→p i=true→q i=false→l.countP q<l.countP p
 | [],i,hi,_,_=>by cases hi
 | x :: l,i,hi,h1,h2=>by
  have hle:∀ l:List α,l.countP q≤l.countP p:=fun l=>List.countP_mono_left (fun x _ hx=>h x hx)
  rcases List.mem_cons.1 hi with rfl | hi
  ·rw[List.countP_cons_of_pos h1,List.countP_cons_of_neg (by simp[h2])]
   have:=hle l;omega
  ·have ih:=countP_drop p q h l i hi h1 h2
   by_cases hq:q x=true
   ·rw[List.countP_cons_of_pos hq,List.countP_cons_of_pos (h x hq)];omega
   ·rw[List.countP_cons_of_neg hq]
    by_cases hp:p x=true
    ·rw[List.countP_cons_of_pos hp];omega
    ·rw[List.countP_cons_of_neg hp];exact ih
theorem cntU_drop {listed:Array Bool} {i n:Nat} (hi:i<n) (h:listed.getD i true=false):cntU n (listed.setIfInBounds i true)<cntU n listed:=by
 have hlt:i<listed.size:=by
  rcases Nat.lt_or_ge i listed.size with h' | h'
  ·exact h'
  ·simp[Array.getElem?_eq_none h']at h
 refine countP_drop _ _ (fun x hx=>?_) _ i (List.mem_range.2 hi) (by rw[h];rfl) (by simp[hlt])
 by_cases hxi:i=x
 ·subst hxi
  simp[hlt]at hx
 ·rw[getD_set_ne true hxi]at hx
  exact hx
def anyG (md:Region.Mode) (ops:Array Oper) (Q:Exit→Act→World→Prop) (step:Nat→(Act→World→Prop)→Act→World→Prop):Nat→Array Bool→Act→World→Prop
 | 0,listed,a,w=>Region.ready md ops listed=[]∧Q .normal a w
 | n+1,listed,a,w=>(Region.ready md ops listed=[]→Q .normal a w)∧∀ i∈Region.ready md ops listed,step i (anyG md ops Q step n (listed.setIfInBounds i true)) a w
def Mono (step:Nat→(Act→World→Prop)→Act→World→Prop):Prop:=∀ (i:Nat) (K K':Act→World→Prop) (a:Act) (w:World),(∀ a w,K a w→K' a w)→step i K a w→step i K' a w
theorem mono_op:Mono (wpOp P ops Q):=fun _ _ _ _ _ h hh=>wpOp_mono h hh
theorem any_of_G:∀ (n:Nat) (listed:Array Bool) (a:Act) (w:World),anyG md ops Q (wpOp P ops Q) n listed a w→wpAny P md ops Q n listed a w
 | 0,_,_,_,h=>h
 | n+1,_,_,_,h=>⟨h.1,fun i hi=>wpOp_mono (fun a w=>any_of_G n _ a w) (h.2 i hi)⟩
theorem G_of_any:∀ (n:Nat) (listed:Array Bool) (a:Act) (w:World),wpAny P md ops Q n listed a w→anyG md ops Q (wpOp P ops Q) n listed a w
 | 0,_,_,_,h=>h
 | n+1,_,_,_,h=>⟨h.1,fun i hi=>wpOp_mono (fun a w=>G_of_any n _ a w) (h.2 i hi)⟩
theorem wpAny_inv (hmono:Mono step) (m:Nat) (hm:m≤ops.size) (I:Array Bool→Act→World→Prop)
  (hstep:∀ listed a w,I listed a w→(∃ i,i<m∧listed.getD i true=false)→∀ i∈Region.ready md ops listed,i<m∧step i (fun a' w'=>I (listed.setIfInBounds i true) a' w') a w)
  (hsome:∀ listed a w,I listed a w→(∃ i,i<m∧listed.getD i true=false)→Region.ready md ops listed ≠ [])
  (r:Nat) (hend:∀ listed a w,I listed a w→(∀ i,i<m→listed.getD i true=true)→anyG md ops Q step r listed a w) :
  ∀ (k:Nat) (listed:Array Bool) (a:Act) (w:World),cntU m listed=k→I listed a w→anyG md ops Q step (r+k) listed a w
 | 0,listed,a,w,hc,hI=>by
  refine hend listed a w hI (fun i hi=>?_)
  cases hl:listed.getD i true with
  | true=>rfl
  | false =>
   have:0<cntU m listed:=List.countP_pos_iff.2 ⟨i,List.mem_range.2 hi,by rw[hl];rfl⟩
   omega
 | k+1,listed,a,w,hc,hI=>by
  have hex:∃ i,i<m∧listed.getD i true=false:=by
   have:0<cntU m listed:=by omega
   obtain⟨i,hi,hl⟩:=List.countP_pos_iff.1 this
   exact⟨i,List.mem_range.1 hi,by simpa using hl⟩
  refine⟨fun h=>absurd h (hsome _ _ _ hI hex),fun i hi=>?_⟩
  obtain⟨him,hw⟩:=hstep _ _ _ hI hex i hi
  have hli:=(mem_ready.1 hi).1
  have hdrop:∀ k',cntU m (listed.setIfInBounds i true)=k'→k'≤k:=fun k' h=>by have:=cntU_drop him hli;omega
  have hup:cntU m listed≤cntU m (listed.setIfInBounds i true)+1:=by
   unfold cntU
   have key:∀ l:List Nat,l.Nodup→l.countP (fun j=>!listed.getD j true)≤l.countP (fun j=>!(listed.setIfInBounds i true).getD j true)+(if i∈l then 1 else 0):=by
    intro l
    induction l with
    | nil=>intro _;simp
    | cons x l ih =>
     intro hn
     have hn':=List.nodup_cons.1 hn
     have ih':=ih hn'.2
     by_cases hxi:i=x
     ·subst hxi
      rw[if_neg hn'.1]at ih'
      rw[if_pos (by simp),List.countP_cons,List.countP_cons]
      split <;> split <;> omega
     ·have e:((!(listed.setIfInBounds i true).getD x true):Bool) = !listed.getD x true:=by rw[getD_set_ne true hxi]
      rw[List.countP_cons,List.countP_cons]
      simp only[e]
      have hm2:(if i∈x :: l then 1 else 0)=(if i∈l then 1 else 0):=by
       simp only[List.mem_cons,hxi,false_or]
      rw[hm2]
      split <;> omega
   have:=key (List.range m) List.nodup_range
   split at this <;> omega
  have hk:cntU m (listed.setIfInBounds i true)=k:=by have:=cntU_drop him hli;omega
  exact hmono _ _ _ _ _ (fun a' w' h'=>wpAny_inv hmono m hm I hstep hsome r hend k _ a' w' hk h') hw
def Zm (ops:Array Oper) (i:Nat):Option Tmp:=(ops[i]?).bind (·.dst)
def J9 (ops:Array Oper) (a:Act) (j:Nat):Value:=match Zm ops j with
 | some d=>a.tmps.getD d undef
 | none=>undef
structure Agree (ops:Array Oper) (a1 a:Act):Prop where
 defers:a.defers=a1.defers
 size:a.tmps.size=a1.tmps.size
 off:∀ t,(∀ j,Zm ops j≠some t)→a.tmps[t]? = a1.tmps[t]?
theorem Agree.put {a1 a:Act} (h:Agree ops a1 a) (i:Nat) (v:Value):Agree ops a1 (a.put (Zm ops i) v):=by
 cases hd:Zm ops i with
 | none=>exact h
 | some d =>
  refine⟨h.defers,by simpa[Act.put] using h.size,fun t ht=>?_⟩
  have hne:d≠t:=fun e=>ht i (by rw[hd,e])
  simp only[Act.put,Array.getElem?_setIfInBounds_ne hne]
  exact h.off t ht
theorem Agree.eval {a1 a:Act} (h:Agree ops a1 a) {t:Nat} (ht:∀ j,Zm ops j≠some t):a.eval (.tmp t)=a1.eval (.tmp t):=by
 show a.tmps.getD t undef=a1.tmps.getD t undef
 have:=h.off t ht
 simp only[Array.getD_eq_getD_getElem?,this]
def Vg (ops:Array Oper) (a1:Act) (vals:Nat→Value) (m:Nat):Act:=(List.range m).foldl (fun a j=>a.put (Zm ops j) (vals j)) a1
structure AgreeM (ops:Array Oper) (m:Nat) (a1 a:Act):Prop where
 defers:a.defers=a1.defers
 size:a.tmps.size=a1.tmps.size
 off:∀ t,(∀ j,j<m→Zm ops j≠some t)→a.tmps[t]? = a1.tmps[t]?
theorem putTo_eq {m:Nat} {a1 a:Act} (h:AgreeM ops m a1 a):Vg ops a1 (J9 ops a) m=a:=by
 unfold Vg
 have key:∀ (l:List Nat) (b:Act),b.defers=a.defers→b.tmps.size=a.tmps.size→(∀ t,b.tmps[t]? = a.tmps[t]?∨∃ j∈l,Zm ops j=some t)→l.foldl (fun a' j=>a'.put (Zm ops j) (J9 ops a j)) b=a:=by
  intro l
  induction l with
  | nil =>
   intro b h1 h2 h3
   obtain⟨bt,bd⟩:=b
   obtain⟨at',ad⟩:=a
   have e1:bt=at':=Array.ext_getElem? fun t=>(h3 t).resolve_right (by rintro⟨j,hj,_⟩;cases hj)
   have e2:bd=ad:=h1
   rw[e1,e2];rfl
  | cons j l ih =>
   intro b h1 h2 h3
   rw[List.foldl_cons]
   cases hd:Zm ops j with
   | none =>
    refine ih _ h1 h2 (fun t=>?_)
    rcases h3 t with h | ⟨j',hj',ht⟩
    ·exact .inl h
    ·rcases List.mem_cons.1 hj' with rfl | hj'
     ·rw[hd]at ht;cases ht
     ·exact .inr ⟨j',hj',ht⟩
   | some d =>
    refine ih _ h1 (by simpa[Act.put] using h2) (fun t=>?_)
    by_cases hdt:d=t
    ·subst hdt
     refine .inl ?_
     simp only[Act.put,J9,hd]
     rcases Nat.lt_or_ge d b.tmps.size with hl | hl
     ·have hl2:d<a.tmps.size:=h2▸hl
      simp[hl,hl2]
     ·have hl2:a.tmps.size≤d:=h2▸hl
      rw[Array.getElem?_eq_none (by simpa using hl),Array.getElem?_eq_none hl2]
    ·rcases h3 t with h | ⟨j',hj',ht⟩
     ·exact .inl (by simp only[Act.put,Array.getElem?_setIfInBounds_ne hdt];exact h)
     ·rcases List.mem_cons.1 hj' with rfl | hj'
      ·rw[hd]at ht;injection ht with ht;exact absurd ht hdt
      ·exact .inr ⟨j',hj',ht⟩
 refine key _ a1 h.defers.symm h.size.symm (fun t=>?_)
 by_cases ht:∃ j,j<m∧Zm ops j=some t
 ·obtain⟨j,hj,e⟩:=ht
  exact .inr ⟨j,List.mem_range.2 hj,e⟩
 ·exact .inl (h.off t (fun j hj e=>ht ⟨j,hj,e⟩)).symm
def Region.fair (ops:Array Oper) (md:Region.Mode) (m size:Nat):Bool :=
 (List.range m).all fun i=>match ops[i]? with
  | none=>false
  | some o=>o.after.all (fun e=>decide (e.on<i))&&(match o.dst with
   | none=>false
   | some d=>decide (d<size)&&(List.range ops.size).all fun j=>i==j||Zm ops j != some d)
def Region.behind (ops:Array Oper) (md:Region.Mode):Nat→Nat→Nat→Bool
 | 0,_,_=>false
 | n+1,i,j=>match ops[i]? with
  | none=>false
  | some o=>(o.after.any fun e=>e.on==j&&Region.binds md e)||o.after.any fun e=>Region.binds md e&&Region.behind ops md n e.on j
def Region.last (ops:Array Oper) (md:Region.Mode) (m:Nat):Bool :=
 (List.range ops.size).all fun i=>decide (i<m)||(List.range m).all fun j=>Region.behind ops md ops.size i j
def Closed (ops:Array Oper) (md:Region.Mode) (L:Nat→Bool):Prop:=∀ j o,L j=true→ops[j]? = some o→∀ e∈o.after,Region.binds md e=true→L e.on=true
theorem behind_listed {L:Nat→Bool} (hC:Closed ops md L):∀ (n i j:Nat) (o:Oper),Region.behind ops md n i j=true→ops[i]? = some o→(∀ e∈o.after,Region.binds md e=true→L e.on=true)→L j=true
 | 0,_,_,_,h,_,_=>by cases h
 | n+1,i,j,o,h,ho,hd=>by
  unfold Region.behind at h
  rw[ho]at h
  dsimp only at h
  rw[Bool.or_eq_true,Array.any_eq_true',Array.any_eq_true']at h
  rcases h with ⟨e,he,h⟩ | ⟨e,he,h⟩
  ·rw[Bool.and_eq_true,beq_iff_eq]at h
   rw[←h.1];exact hd e he h.2
  ·rw[Bool.and_eq_true]at h
   have hl:=hd e he h.1
   cases ho2:ops[e.on]? with
   | none =>
    exfalso
    have h2:=h.2
    cases n with
    | zero=>cases h2
    | succ n=>unfold Region.behind at h2;rw[ho2]at h2;cases h2
   | some o2=>exact behind_listed hC n e.on j o2 h.2 ho2 (fun e' he' hb'=>hC e.on o2 hl ho2 e' he' hb')
theorem wpAny_free (hmono:Mono step) (m r:Nat) (hm:m≤ops.size) (a1:Act) (w1:World) (G:World→World→Prop) (hrefl:∀ w,G w w) (htr:∀ a b c,G a b→G b c→G a c)
  (D:Nat→Value→World→Prop) (hD:∀ i v w w',D i v w→G w w'→D i v w')
  (J:(Nat→Bool)→World→Prop) (hJ0:J (fun _=>false) w1)
  (hfair:Region.fair ops md m a1.tmps.size=true) (hlast:Region.last ops md m=true)
  (hop:∀ i o,i<m→ops[i]? = some o→∀ L a w,Closed ops md L→L i=false→(∀ e∈o.after,Region.binds md e=true→L e.on=true)→J L w→G w1 w→AgreeM ops m a1 a→(∀ e∈o.after,Region.binds md e=true→D e.on (J9 ops a e.on) w)→step i (fun a' w'=>∃ v,a'=a.put o.dst v∧D i v w'∧G w w'∧J (fun j=>decide (j=i)||L j) w') a w)
  (hend:∀ (vals:Nat→Value) w,G w1 w→J (fun j=>decide (j<m)) w→(∀ j,j<m→D j (vals j) w)→anyG md ops Q step r ((List.replicate m true++List.replicate (ops.size-m) false).toArray) (Vg ops a1 vals m) w) :
  anyG md ops Q step (r+m) (Array.replicate ops.size false) a1 w1:=by
 have fair:∀ i,i<m→∃ o d,ops[i]? = some o∧(∀ e∈o.after,e.on<i)∧o.dst=some d∧d<a1.tmps.size∧∀ j,j≠i→Zm ops j≠some d:=by
  intro i hi
  have h:=List.all_eq_true.1 hfair i (List.mem_range.2 hi)
  cases ho:ops[i]? with
  | none=>rw[ho]at h;cases h
  | some o =>
   rw[ho]at h
   dsimp only at h
   rw[Bool.and_eq_true,Array.all_eq_true']at h
   cases hd:o.dst with
   | none=>rw[hd]at h;cases h.2
   | some d =>
    refine⟨o,d,rfl,fun e he=>by simpa using h.1 e he,hd,?_⟩
    have h2:=h.2
    rw[hd]at h2
    dsimp only at h2
    rw[Bool.and_eq_true,decide_eq_true_eq,List.all_eq_true]at h2
    refine⟨h2.1,fun j hj=>?_⟩
    rcases Nat.lt_or_ge j ops.size with hl | hl
    ·have:=h2.2 j (List.mem_range.2 hl)
     simp only[Bool.or_eq_true,beq_iff_eq,bne_iff_ne]at this
     exact this.resolve_left (fun e=>hj e.symm)
    ·unfold Zm
     rw[Array.getElem?_eq_none hl]
     simp
 have last:∀ i o (L:Nat→Bool),Closed ops md L→m≤i→ops[i]? = some o→(∀ e∈o.after,Region.binds md e=true→L e.on=true)→∀ j,j<m→L j=true:=by
  intro i o L hC hi ho hd j hj
  have hlt:i<ops.size:=(Array.getElem?_eq_some_iff.1 ho).1
  have h:=List.all_eq_true.1 hlast i (List.mem_range.2 hlt)
  rw[decide_eq_false (by omega),Bool.false_or]at h
  exact behind_listed hC _ i j o (List.all_eq_true.1 h j (List.mem_range.2 hj)) ho hd
 have getD_same:∀ (listed:Array Bool) (j:Nat),listed.size=ops.size→j<ops.size→listed.getD j true=listed.getD j false:=by
  intro listed j h1 h2
  have:j<listed.size:=by omega
  simp[this]
 refine wpAny_inv hmono m hm (fun listed a w=>listed.size=ops.size∧(Closed ops md (fun j=>listed.getD j false)∧J (fun j=>listed.getD j false) w)∧AgreeM ops m a1 a∧G w1 w∧(∀ j,m≤j→j<ops.size→listed.getD j true=false)∧(∀ j,j<m→listed.getD j true=true→D j (J9 ops a j) w)) ?_ ?_ r ?_ m _ a1 w1 ?_ ?_
 ·rintro listed a w ⟨hs,⟨hC,hJ⟩,hA,hG,hR,hF⟩ ⟨u,hu,hul⟩ i hi
  obtain⟨hil,o,ho,hall⟩:=mem_ready.1 hi
  have him:i<m:=by
   rcases Nat.lt_or_ge i m with h | h
   ·exact h
   ·have:=last i o _ hC h ho hall u hu
    rw[←getD_same listed u hs (by omega),hul]at this
    cases this
  obtain⟨o',d,ho',hback,hd,hdl,hdd⟩:=fair i him
  obtain rfl:o=o':=Option.some.inj (ho.symm.trans ho')
  have hdo:Zm ops i=some d:=by unfold Zm;rw[ho];exact hd
  have hil':listed.getD i false=false:=by rw[←getD_same listed i hs (by omega)];exact hil
  refine⟨him,hmono _ _ _ _ _ ?_ (hop i o him ho _ a w hC hil' hall hJ hG hA (fun e he hb=>hF e.on (by have:=hback e he;omega) (by rw[getD_same listed e.on hs (by have:=hback e he;omega)];exact hall e he hb)))⟩
  rintro a' w' ⟨v,rfl,hv,hg,hj⟩
  have hset:(fun j=>(listed.setIfInBounds i true).getD j false)=(fun j=>decide (j=i)||listed.getD j false):=by
   funext j
   by_cases hji:j=i
   ·subst hji
    have:j<listed.size:=by omega
    simp[this]
   ·rw[getD_set_ne false (Ne.symm hji),decide_eq_false hji,Bool.false_or]
  rw[hd]
  refine⟨by simpa using hs,⟨fun j o9 hl ho9 e he hb=>?_,by rw[hset];exact hj⟩,⟨hA.defers,by simpa[Act.put] using hA.size,fun t ht=>?_⟩,htr _ _ _ hG hg,fun j hj hj2=>?_,fun j hj hl=>?_⟩
  ·have hl':(decide (j=i)||listed.getD j false)=true:=by rw[←congrFun hset j];exact hl
   show (fun j=>(listed.setIfInBounds i true).getD j false) e.on=true
   rw[hset]
   rw[Bool.or_eq_true,decide_eq_true_eq]at hl'
   rcases hl' with rfl | hl'
   ·obtain rfl:o=o9:=Option.some.inj (ho.symm.trans ho9)
    simp[hall e he hb]
   ·simp[hC j o9 hl' ho9 e he hb]
  ·have hne:d≠t:=fun e=>ht i him (by rw[hdo,e])
   simp only[Act.put,Array.getElem?_setIfInBounds_ne hne]
   exact hA.off t ht
  ·rw[getD_set_ne true (by omega)];exact hR j hj hj2
  ·by_cases hji:j=i
   ·subst hji
    have e:J9 ops (a.put (some d) v) j=v:=by
     unfold J9
     rw[hdo]
     have:d<a.tmps.size:=by rw[hA.size];exact hdl
     simp[Act.put,this]
    rw[e];exact hv
   ·rw[getD_set_ne true (Ne.symm hji)]at hl
    have e:J9 ops (a.put (some d) v) j=J9 ops a j:=by
     unfold J9
     cases hj3:Zm ops j with
     | none=>rfl
     | some d' =>
      have hne:d≠d':=fun e=>hdd j hji (by rw[hj3,e])
      simp[Act.put,Array.getElem?_setIfInBounds_ne hne]
    rw[e]
    exact hD _ _ _ _ (hF j hj hl) hg
 ·rintro listed a w ⟨hs,⟨hC,hJ⟩,hA,hG,hR,hF⟩ ⟨u,hu,hul⟩
  have key:∀ n i,i≤n→i<m→listed.getD i true=false→Region.ready md ops listed ≠ []:=by
   intro n
   induction n with
   | zero =>
    intro i hi him hil
    obtain rfl:i=0:=by omega
    obtain⟨o,d,ho,hback,_⟩:=fair 0 him
    have:0∈Region.ready md ops listed:=mem_ready.2 ⟨hil,o,ho,fun e he _=>by have:=hback e he;omega⟩
    intro h;rw[h]at this;cases this
   | succ n ih =>
    intro i hi him hil
    obtain⟨o,d,ho,hback,_⟩:=fair i him
    by_cases hall:∀ e∈o.after,Region.binds md e=true→listed.getD e.on false=true
    ·have:i∈Region.ready md ops listed:=mem_ready.2 ⟨hil,o,ho,hall⟩
     intro h;rw[h]at this;cases this
    ·obtain⟨e,he⟩:=Classical.not_forall.1 hall
     obtain⟨he1,he⟩:=Classical.not_imp.1 he
     obtain⟨he2,he⟩:=Classical.not_imp.1 he
     have hlt:=hback e he1
     refine ih e.on (by omega) (by omega) ?_
     rw[getD_same listed e.on hs (by omega)]
     simpa using he
  exact key u u (Nat.le_refl _) hu hul
 ·rintro listed a w ⟨hs,⟨hC,hJ⟩,hA,hG,hR,hF⟩ hall
  have hl:listed=(List.replicate m true++List.replicate (ops.size-m) false).toArray:=by
   refine Array.ext (by simp;omega) (fun i h1 h2=>?_)
   have hg:listed.getD i true=listed[i]:=by simp[h1]
   rw[←hg]
   rcases Nat.lt_or_ge i m with h | h
   ·rw[hall i h];simp[h]
   ·rw[hR i h (by omega)]
    simp only[List.getElem_toArray]
    rw[List.getElem_append_right (by simpa using h)]
    simp
  have hLm:(fun j=>listed.getD j false)=(fun j=>decide (j<m)):=by
   funext j
   rcases Nat.lt_or_ge j m with h | h
   ·rw[decide_eq_true h,←getD_same listed j hs (by omega)];exact hall j h
   ·rw[decide_eq_false (by omega)]
    rcases Nat.lt_or_ge j ops.size with h2 | h2
    ·rw[←getD_same listed j hs h2];exact hR j h h2
    ·simp[Array.getElem?_eq_none (show listed.size≤j by omega)]
  rw[hLm]at hJ
  rw[hl,←putTo_eq hA]
  exact hend _ w hG hJ (fun j hj=>hF j hj (hall j hj))
 ·unfold cntU
  have:∀ i∈List.range m,(!(Array.replicate ops.size false).getD i true)=true:=fun i hi=>by
   have:=List.mem_range.1 hi
   have h2:i<ops.size:=by omega
   simp[h2]
  rw[List.countP_eq_length.2 this,List.length_range]
 ·have h0:(fun j=>(Array.replicate ops.size false).getD j false)=(fun _=>false):=by
   funext j
   rcases Nat.lt_or_ge j ops.size with h | h
   ·simp[h]
   ·simp[Array.getElem?_eq_none (show (Array.replicate ops.size false).size≤j by simpa using h)]
  refine⟨by simp,⟨fun j o hl=>?_,by rw[h0];exact hJ0⟩,⟨rfl,rfl,fun _ _=>rfl⟩,hrefl _,fun j hj hj2=>by simp[hj2],fun j hj hl=>?_⟩
  ·have:=congrFun h0 j
   exact absurd (this.symm.trans hl) (by simp)
  ·have h2:j<ops.size:=by omega
   simp[h2]at hl
theorem wp_region_free {id:Nat} {a:Act} {w:World} (hm:P.follows .mixedOrders=true) (r m:Nat) (hrm:r+m=ops.size)
  (h:anyG .any ops Q (wpOp P ops Q) (r+m) (Array.replicate ops.size false) a { w with drawn:=w.drawn+1 }):(Code.region id ops true).wp P Q a w :=
 wp_region_any hm (by rw[hrm]at h;exact any_of_G _ _ _ _ h)
theorem G_of_seq (l:List Oper) (k:Nat) (listed:Array Bool) (a:Act) (w:World) (hl:∀ j,l[j]? = ops[k+j]?) (hB:Region.seqB md ops l.length k listed=true) (h:wpList P ops Q l a w):anyG md ops Q (wpOp P ops Q) l.length listed a w :=
 G_of_any _ _ _ _ (wpAny_of_seq l k listed a w hl hB h)
end
theorem flat_len {α:Type} {size:Nat} (cells:α→List Value):∀ L:List α,(∀ a∈L,(cells a).length=size)→(L.flatMap cells).length=L.length*size
 | [],_=>by simp
 | a :: L,h=>by
  rw[List.flatMap_cons,List.length_append,h a (by simp),flat_len cells L (fun b hb=>h b (by simp[hb])),List.length_cons,Nat.add_mul,Nat.one_mul,Nat.add_comm]
theorem flat_at {α:Type} {size:Nat} (cells:α→List Value):∀ (L:List α),(∀ a∈L,(cells a).length=size)→∀ (k j:Nat) (a:α),L[k]? = some a→j<size→(L.flatMap cells)[k*size+j]? = (cells a)[j]?
 | [],_,k,j,a,h,_=>by simp at h
 | b :: L,hl,0,j,a,h,hj=>by
  simp at h
  subst h
  rw[List.flatMap_cons,Nat.zero_mul,Nat.zero_add,List.getElem?_append_left (by rw[hl b (by simp)];exact hj)]
 | b :: L,hl,k+1,j,a,h,hj=>by
  rw[List.flatMap_cons,List.getElem?_append_right (by rw[hl b (by simp),Nat.add_mul];omega),hl b (by simp)]
  rw[show (k+1)*size+j-size=k*size+j by rw[Nat.add_mul];omega]
  exact flat_at cells L (fun c hc=>hl c (by simp[hc])) k j a (by simpa using h) hj
theorem Reads.row {α:Type} {size n:Nat} {w:World} {A:Option Addr} {cells:α→List Value} {L:List α} (h:Reads w size A n (L.flatMap cells)) (hl:∀ a∈L,(cells a).length=size) (hL:L.length=n) {k:Nat} {a:α} (hk:L[k]? = some a) :
  ∃ b o,A=some ⟨b,o,none⟩∧∀ j u,(cells a)[j]? = some u→w.cell? ⟨b,o+k*size+j,none⟩=some u:=by
 have hkl:=(List.getElem?_eq_some_iff.1 hk).1
 obtain⟨b,o,rfl,hc⟩:=h.2 (by omega)
 refine⟨b,o,rfl,fun j u hu=>?_⟩
 have hj:=(List.getElem?_eq_some_iff.1 hu).1
 rw[hl a (List.mem_of_getElem? hk)]at hj
 rw[Nat.add_assoc]
 exact hc _ u (by rw[flat_at cells L hl k j a hk hj];exact hu)
theorem Reads.drop {size n:Nat} {w:World} {A:Option Addr} {vs:List Value} (h:Reads w size A n vs):vs.length=n*size:=h.1
end Go.Proofs.YticlbkficolocaaGreatDoor
