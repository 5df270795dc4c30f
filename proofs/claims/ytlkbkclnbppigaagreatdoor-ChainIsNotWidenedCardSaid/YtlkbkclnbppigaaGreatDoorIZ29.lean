/- Plain: hexadecimal digits, read one pair after the other. -/
import Derived.Test.YtlkbkclnbppigaaGreatDoorIZ26
namespace Go.Proofs.YtlkbkclnbppigaaGreatDoor
open Tryz
open Go.RowKit Go.Sort
set_option linter.unusedVariables false
set_option linter.unusedSimpArgs false
set_option maxRecDepth 100000
def gy(b:UInt8):Int:=if jO b<16 then (jO b:Int) else -1
theorem XR(b:UInt8):Lib.indexByte [48,49,50,51,52,53,54,55,56,57,97,98,99,100,101,102] b=gy b:=by
 have hb:b=UInt8.ofNat b.toNat:=aH;have hlt:=b.toNat_lt;have all:∀ n:Nat,n<256->Lib.indexByte [48,49,50,51,52,53,54,55,56,57,97,98,99,100,101,102] (UInt8.ofNat n)=gy (UInt8.ofNat n):=by decide +kernel
 rw[hb];exact all _ hlt
theorem pg(b:UInt8):0<=gy b↔jO b<16:=by unfold gy;split <;> omega
theorem Lc{b:UInt8}(h:0<=gy b):gy b=(jO b:Int):=by unfold gy at *;split <;> simp_all
def uhA(l:List UInt8)(i:Nat):UInt8:=l.getD (2*i) 0
def uhB(l:List UInt8)(i:Nat):UInt8:=l.getD (2*i+1) 0
def kY(l:List UInt8)(i:Nat):Prop:=0<=gy (uhA l i)/\0<=gy (uhB l i)
instance (l:List UInt8) (i:Nat):Decidable (kY l i):=by unfold kY;infer_instance
def uhV(l:List UInt8)(i:Nat):Nat:=16*jO (uhA l i)+jO (uhB l i)
def uhN(l:List UInt8)(n:Nat):List Nat:=(List.range n).map (uhV l)
theorem Ld:∀(n:Nat)(l:List UInt8),l.length=2*n->(∀ i,i<n->kY l i)->lU l=some (uhN l n)
 | 0,l,hl,_=>by
  obtain rfl:l=[]:=List.eq_nil_of_length_eq_zero aB;rfl
 | n+1,l,hl,h=>by
  match l,hl with
  | a :: b :: r,hl =>
   have hr:r.length=2*n:=vK;obtain⟨h1,h2⟩:=h 0 aB;have h1':=(pg a).1 h1;have h2':=(pg b).1 h2;rw[lU,if_pos ⟨h1',h2'⟩,Ld n r hr (fun i hi=>h (i+1) aB)];unfold uhN;rw[List.range_succ_eq_map,List.map_cons,List.map_map];rfl
theorem Le:∀(n:Nat)(l:List UInt8),l.length=2*n->∀ i,i<n->¬ kY l i->lU l=none
 | 0,_,_,i,hi,_=>aB
 | n+1,l,hl,i,hi,h=>by
  match l,hl with
  | a :: b :: r,hl =>
   have hr:r.length=2*n:=vK;rw[lU];split
   ·rename_i hv;cases i with
    | zero=>exact absurd ⟨(pg a).2 hv.1,(pg b).2 hv.2⟩ h
    | succ i=>rw[Le n r hr i aB h];rfl
   ·rfl
def jg(l:List UInt8)(i:Nat):List Nat:=uhN l i++List.replicate (16-i) 0
theorem yc(l:List UInt8)(n:Nat):(uhN l n).length=n:=by simp[uhN]
theorem XU(l:List UInt8):jg l 16=uhN l 16:=by simp[jg]
theorem Lh(l:List UInt8)(i:Nat)(hi:i<=16):(jg l i).length=16:=by simp[jg,yc];omega
theorem XW(l:List UInt8)(i:Nat)(hi:i<16):jg l (i+1)=(jg l i).set i (uhV l i):=by
 unfold jg;rw[List.set_append,if_neg (by rw[yc];omega),yc,Nat.sub_self,show 16-i=(16-(i+1))+1 by omega,List.replicate_succ,List.set_cons_zero];unfold uhN;rw[List.range_succ,List.map_append,List.append_assoc];rfl
theorem XY(s:List Nat)(i v:Nat):b8 (s.set i v)=(b8 s).set i (.int .u8 (v:Int)):=by unfold b8;rw[List.map_set]
theorem XZ{l:List UInt8}{i:Nat}(h:kY l i):uhV l i<256:=by
 have h1:=(pg _).1 h.1;have h2:=(pg _).1 h.2;unfold uhV;omega
theorem Xa(N0 N1:Int)(x:aC)(A:Option Addr)(n c:Nat)(l:List UInt8)(i:Nat)(hi:i<16) :
  ((bn N0 N1 x A n c (jg l i)).toArray.setIfInBounds (4+i) (.int .u8 (uhV l i:Int)))=(bn N0 N1 x A n c (jg l (i+1))).toArray:=by
 rw[XW l i hi,List.setIfInBounds_toArray];congr 1;unfold bn;rw[XY,List.set_append,if_neg aH,show 4+i - [Value.int .i64 N0,.int .i64 N1,.string x,.slice A n c].length=i by simp]
theorem Xb{l:List UInt8}(h:∀ i,i<16->kY l i):dm (uhN l 16):=by
 refine⟨yc l 16,fun x hx=>?_⟩;obtain⟨i,hi,rfl⟩:=List.mem_map.1 hx;exact XZ (h i (List.mem_range.1 hi))
end Go.Proofs.YtlkbkclnbppigaaGreatDoor
