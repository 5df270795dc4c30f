/- Plain: hexadecimal digits, read one pair after the other. -/
import Derived.Test.YtlkbkclnbppigaaGreatDoorJZ26
namespace Go.Proofs.YtlkbkclnbppigaaGreatDoor
open Tryz
open Go.RowKit Go.Sort
set_option linter.unusedVariables false
set_option linter.unusedSimpArgs false
set_option maxRecDepth 100000
def jL(b:UInt8):Int:=if kP b<16 then (kP b:Int) else -1
theorem aFd(b:UInt8):Lib.indexByte [48,49,50,51,52,53,54,55,56,57,97,98,99,100,101,102] b=jL b:=by
 have hb:b=UInt8.ofNat b.toNat:=aF;have hlt:=b.toNat_lt;have all:∀ n:Nat,n<256->Lib.indexByte [48,49,50,51,52,53,54,55,56,57,97,98,99,100,101,102] (UInt8.ofNat n)=jL (UInt8.ofNat n):=by decide +kernel
 rw[hb];exact all _ hlt
theorem sK(b:UInt8):0<=jL b↔kP b<16:=by unfold jL;split <;> omega
theorem Q9{b:UInt8}(h:0<=jL b):jL b=(kP b:Int):=by unfold jL at *;split <;> simp_all
def uhA(l:List UInt8)(i:Nat):UInt8:=l.getD (2*i) 0
def uhB(l:List UInt8)(i:Nat):UInt8:=l.getD (2*i+1) 0
def nH(l:List UInt8)(i:Nat):Prop:=0<=jL (uhA l i)/\0<=jL (uhB l i)
instance (l:List UInt8) (i:Nat):Decidable (nH l i):=by unfold nH;infer_instance
def uhV(l:List UInt8)(i:Nat):Nat:=16*kP (uhA l i)+kP (uhB l i)
def uhN(l:List UInt8)(n:Nat):List Nat:=(List.range n).map (uhV l)
theorem RD:∀(n:Nat)(l:List UInt8),l.length=2*n->(∀ i,i<n->nH l i)->oC l=some (uhN l n)
 | 0,l,hl,_=>by
  obtain rfl:l=[]:=List.eq_nil_of_length_eq_zero aA;rfl
 | n+1,l,hl,h=>by
  match l,hl with
  | a :: b :: r,hl =>
   have hr:r.length=2*n:=zC;obtain⟨h1,h2⟩:=h 0 aA;have h1':=(sK a).1 h1;have h2':=(sK b).1 h2;rw[oC,if_pos ⟨h1',h2'⟩,RD n r hr (fun i hi=>h (i+1) aA)];unfold uhN;rw[List.range_succ_eq_map,List.map_cons,List.map_map];rfl
theorem RH:∀(n:Nat)(l:List UInt8),l.length=2*n->∀ i,i<n->¬ nH l i->oC l=none
 | 0,_,_,i,hi,_=>aA
 | n+1,l,hl,i,hi,h=>by
  match l,hl with
  | a :: b :: r,hl =>
   have hr:r.length=2*n:=zC;rw[oC];split
   ·rename_i hv;cases i with
    | zero=>exact absurd ⟨(sK a).2 hv.1,(sK b).2 hv.2⟩ h
    | succ i=>rw[RH n r hr i aA h];rfl
   ·rfl
def lH(l:List UInt8)(i:Nat):List Nat:=uhN l i++List.replicate (16-i) 0
theorem Cb(l:List UInt8)(n:Nat):(uhN l n).length=n:=by simp[uhN]
theorem aFe(l:List UInt8):lH l 16=uhN l 16:=by simp[lH]
theorem RI(l:List UInt8)(i:Nat)(hi:i<=16):(lH l i).length=16:=by simp[lH,Cb];omega
theorem aFf(l:List UInt8)(i:Nat)(hi:i<16):lH l (i+1)=(lH l i).set i (uhV l i):=by
 unfold lH;rw[List.set_append,if_neg (by rw[Cb];omega),Cb,Nat.sub_self,show 16-i=(16-(i+1))+1 by omega,List.replicate_succ,List.set_cons_zero];unfold uhN;rw[List.range_succ,List.map_append,List.append_assoc];rfl
theorem aFg(s:List Nat)(i v:Nat):b8 (s.set i v)=(b8 s).set i (.int .u8 (v:Int)):=by unfold b8;rw[List.map_set]
theorem aFh{l:List UInt8}{i:Nat}(h:nH l i):uhV l i<256:=by
 have h1:=(sK _).1 h.1;have h2:=(sK _).1 h.2;unfold uhV;omega
theorem aFi(N0 N1:Int)(x:ByteArray)(A:Option Addr)(n c:Nat)(l:List UInt8)(i:Nat)(hi:i<16) :
  ((dA N0 N1 x A n c (lH l i)).toArray.setIfInBounds (4+i) (.int .u8 (uhV l i:Int)))=(dA N0 N1 x A n c (lH l (i+1))).toArray:=by
 rw[aFf l i hi,List.setIfInBounds_toArray];congr 1;unfold dA;rw[aFg,List.set_append,if_neg aF,show 4+i - [Value.int .i64 N0,.int .i64 N1,.string x,.slice A n c].length=i by simp]
theorem aFj{l:List UInt8}(h:∀ i,i<16->nH l i):eU (uhN l 16):=by
 refine⟨Cb l 16,fun x hx=>?_⟩;obtain⟨i,hi,rfl⟩:=List.mem_map.1 hx;exact aFh (h i (List.mem_range.1 hi))
end Go.Proofs.YtlkbkclnbppigaaGreatDoor
