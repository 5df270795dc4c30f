/- Plain: layer 25's example. -/
import Derived.Test.YtlkbkclnbppigaaGreatDoorIZ28
namespace Go.Proofs.YtlkbkclnbppigaaGreatDoor
open Go.RowKit Go.Sort
set_option linter.unusedVariables false
set_option linter.unusedSimpArgs false
set_option maxRecDepth 100000
def kS:KeyV:=⟨9,1,(⟨#[107]⟩:ByteArray),0,1000⟩
def aS:CondV:=⟨0,100,(⟨#[97,99,109,101,47,42,42]⟩:ByteArray),[],[],[],0⟩
def bS:CondV:=⟨10,50,⟨#[]⟩,[],[],[],0⟩
def mS:CondV:=⟨10,50,(⟨#[97,99,109,101,47,42,42]⟩:ByteArray),[],[],[],0⟩
def earlyS:AskV:=⟨(⟨#[97,99,109,101,47,120]⟩:ByteArray),(⟨#[98,111,98]⟩:ByteArray),(⟨#[100,101]⟩:ByteArray),0,5,5⟩
def laterS:AskV:=⟨(⟨#[97,99,109,101,47,120]⟩:ByteArray),(⟨#[98,111,98]⟩:ByteArray),(⟨#[100,101]⟩:ByteArray),0,20,21⟩
def otherS:AskV:=⟨(⟨#[98,111,108,116,47,120]⟩:ByteArray),(⟨#[98,111,98]⟩:ByteArray),(⟨#[100,101]⟩:ByteArray),0,5,5⟩
def sl1:List Nat:=rightS kS ⟨9,1,(⟨#[102,105,108,109]⟩:ByteArray),[aS],zeroS⟩
def sl2:List Nat:=nextS sl1 bS
def tS:TokV:=⟨9,1,(⟨#[102,105,108,109]⟩:ByteArray),[aS],sl1⟩
def nS:TokV:=⟨9,1,(⟨#[102,105,108,109]⟩:ByteArray),[aS,bS],sl2⟩
def cutS:TokV:=⟨9,1,(⟨#[102,105,108,109]⟩:ByteArray),[aS],sl2⟩
theorem sn_a:validC aS=true:=by kernel_rfl
theorem sn_b:validC bS=true:=by kernel_rfl
theorem sn_k:validK kS=true:=by kernel_rfl
theorem sn_t0:validT ⟨9,1,(⟨#[102,105,108,109]⟩:ByteArray),[aS],zeroS⟩=true:=by kernel_rfl
theorem sn_n:validT nS=true:=by
 have h:=(validT_iff _).1 sn_t0
 exact (validT_iff nS).2 ⟨h.c0,h.c1,h.s0,h.s1,h.id,by decide,by decide,fun c hc=>by
  simp only[nS,List.mem_cons,List.not_mem_nil,or_false]at hc
  rcases hc with rfl | rfl
  ·exact sn_a
  ·exact sn_b⟩
theorem sn_ne:(sl1==sl2)=false:=by kernel_rfl
theorem sn_ne2:¬ sl1=sl2:=fun h=>by have h2:=sn_ne;rw[h]at h2;simp at h2
theorem mint_S:mintT kS (⟨#[102,105,108,109]⟩:ByteArray) aS=(tS,0):=by
 unfold mintT
 rw[sn_k,show validT ⟨kS.party,kS.ser,(⟨#[102,105,108,109]⟩:ByteArray),[aS],zeroS⟩=true from sn_t0]
 rfl
theorem narrow_S:narrowT tS bS=(nS,0):=by
 unfold narrowT
 rw[sn_b]
 rfl
theorem mean_S:meanT nS.conds=mS:=by
 show meetC aS bS=mS
 kernel_rfl
theorem hold1:holdsC aS earlyS=true:=by kernel_rfl
theorem hold2:holdsC bS earlyS=false:=by kernel_rfl
theorem hold3:holdsC aS laterS=true:=by kernel_rfl
theorem hold4:holdsC bS laterS=true:=by kernel_rfl
theorem hold5:holdsC aS otherS=false:=by kernel_rfl
theorem gen_S (t:TokV) (hc:t.cust=9) (hs:t.ser=1) (lo hi:Int) (h:countsK kS lo hi=true):genuineT [kS] t lo hi=if rightS kS t=t.sl then 0 else 8:=by
 have hf:findK [kS] t.cust t.ser=some kS:=by
  rw[hc,hs]
  kernel_rfl
 unfold genuineT
 rw[hf]
 show (if countsK kS lo hi=true then (if rightS kS t=t.sl then (0:Int) else 8) else 9)=_
 rw[if_pos h]
theorem chk1:checkT [kS] tS earlyS=0:=by
 unfold checkT
 rw[gen_S tS rfl rfl _ _ rfl,if_pos (show rightS kS tS=tS.sl from rfl),if_pos rfl]
 show (if (holdsC aS earlyS&&true)=true then (0:Int) else 250)=0
 rw[hold1];rfl
theorem chk2:checkT [kS] nS earlyS=250:=by
 unfold checkT
 rw[gen_S nS rfl rfl _ _ rfl,if_pos (show rightS kS nS=nS.sl from rfl),if_pos rfl]
 show (if (holdsC aS earlyS&&(holdsC bS earlyS&&true))=true then (0:Int) else 250)=250
 rw[hold1,hold2];rfl
theorem chk3:checkT [kS] nS laterS=0:=by
 unfold checkT
 rw[gen_S nS rfl rfl _ _ rfl,if_pos (show rightS kS nS=nS.sl from rfl),if_pos rfl]
 show (if (holdsC aS laterS&&(holdsC bS laterS&&true))=true then (0:Int) else 250)=0
 rw[hold3,hold4];rfl
theorem chk4:checkT [kS] cutS laterS=8:=by
 unfold checkT
 rw[gen_S cutS rfl rfl _ _ rfl,if_neg (show ¬ rightS kS cutS=cutS.sl from sn_ne2)]
 rfl
theorem chk5:checkT [kS] tS otherS=250:=by
 unfold checkT
 rw[gen_S tS rfl rfl _ _ rfl,if_pos (show rightS kS tS=tS.sl from rfl),if_pos rfl]
 show (if (holdsC aS otherS&&true)=true then (0:Int) else 250)=250
 rw[hold5];rfl
theorem sl1_ok:SealOk sl1:=right_ok _ _
theorem sl2_ok:SealOk sl2:=ofD_ok _ _
theorem back_S:readT (textT nS)=some nS:=readT_text sn_n sl2_ok
theorem ident_S:identT tS=identT nS:=rfl
def digV (b:UInt8):Int:=if hexV b<16 then (hexV b:Int) else -1
theorem idx_hex (b:UInt8):Lib.indexByte [48,49,50,51,52,53,54,55,56,57,97,98,99,100,101,102] b=digV b:=by
 have hb:b=UInt8.ofNat b.toNat:=by simp
 have hlt:=b.toNat_lt
 have all:∀ n:Nat,n<256→Lib.indexByte [48,49,50,51,52,53,54,55,56,57,97,98,99,100,101,102] (UInt8.ofNat n)=digV (UInt8.ofNat n):=by decide +kernel
 rw[hb]
 exact all _ hlt
theorem digV_ok (b:UInt8):0≤digV b↔hexV b<16:=by unfold digV;split <;> omega
theorem digV_val {b:UInt8} (h:0≤digV b):digV b=(hexV b:Int):=by unfold digV at *;split <;> simp_all
def uhA (l:List UInt8) (i:Nat):UInt8:=l.getD (2*i) 0
def uhB (l:List UInt8) (i:Nat):UInt8:=l.getD (2*i+1) 0
def uhOk (l:List UInt8) (i:Nat):Prop:=0≤digV (uhA l i)∧0≤digV (uhB l i)
instance (l:List UInt8) (i:Nat):Decidable (uhOk l i):=by unfold uhOk;infer_instance
def uhV (l:List UInt8) (i:Nat):Nat:=16*hexV (uhA l i)+hexV (uhB l i)
def uhN (l:List UInt8) (n:Nat):List Nat:=(List.range n).map (uhV l)
theorem unhex_good:∀ (n:Nat) (l:List UInt8),l.length=2*n→(∀ i,i<n→uhOk l i)→unhex l=some (uhN l n)
 | 0,l,hl,_=>by
  obtain rfl:l=[]:=List.eq_nil_of_length_eq_zero (by omega)
  rfl
 | n+1,l,hl,h=>by
  match l,hl with
  | a :: b :: r,hl =>
   have hr:r.length=2*n:=by simp at hl;omega
   obtain⟨h1,h2⟩:=h 0 (by omega)
   have h1':=(digV_ok a).1 h1
   have h2':=(digV_ok b).1 h2
   rw[unhex,if_pos ⟨h1',h2'⟩,unhex_good n r hr (fun i hi=>h (i+1) (by omega))]
   unfold uhN
   rw[List.range_succ_eq_map,List.map_cons,List.map_map]
   rfl
theorem unhex_bad:∀ (n:Nat) (l:List UInt8),l.length=2*n→∀ i,i<n→¬ uhOk l i→unhex l=none
 | 0,_,_,i,hi,_=>by omega
 | n+1,l,hl,i,hi,h=>by
  match l,hl with
  | a :: b :: r,hl =>
   have hr:r.length=2*n:=by simp at hl;omega
   rw[unhex]
   split
   ·rename_i hv
    cases i with
    | zero=>exact absurd ⟨(digV_ok a).2 hv.1,(digV_ok b).2 hv.2⟩ h
    | succ i=>rw[unhex_bad n r hr i (by omega) h];rfl
   ·rfl
def sealI (l:List UInt8) (i:Nat):List Nat:=uhN l i++List.replicate (16-i) 0
theorem uhN_len (l:List UInt8) (n:Nat):(uhN l n).length=n:=by simp[uhN]
theorem sealI_end (l:List UInt8):sealI l 16=uhN l 16:=by simp[sealI]
theorem sealI_len (l:List UInt8) (i:Nat) (hi:i≤16):(sealI l i).length=16:=by simp[sealI,uhN_len];omega
theorem sealI_succ (l:List UInt8) (i:Nat) (hi:i<16):sealI l (i+1)=(sealI l i).set i (uhV l i):=by
 unfold sealI
 rw[List.set_append,if_neg (by rw[uhN_len];omega),uhN_len,Nat.sub_self,show 16-i=(16-(i+1))+1 by omega,List.replicate_succ,List.set_cons_zero]
 unfold uhN
 rw[List.range_succ,List.map_append,List.append_assoc]
 rfl
theorem b8_setT (s:List Nat) (i v:Nat):b8 (s.set i v)=(b8 s).set i (.int .u8 (v:Int)):=by unfold b8;rw[List.map_set]
theorem uhV_lt {l:List UInt8} {i:Nat} (h:uhOk l i):uhV l i<256:=by
 have h1:=(digV_ok _).1 h.1
 have h2:=(digV_ok _).1 h.2
 unfold uhV;omega
theorem tok_put (N0 N1:Int) (x:ByteArray) (A:Option Addr) (n c:Nat) (l:List UInt8) (i:Nat) (hi:i<16) :
  ((tokCells N0 N1 x A n c (sealI l i)).toArray.setIfInBounds (4+i) (.int .u8 (uhV l i:Int)))=(tokCells N0 N1 x A n c (sealI l (i+1))).toArray:=by
 rw[sealI_succ l i hi,List.setIfInBounds_toArray]
 congr 1
 unfold tokCells
 rw[b8_setT,List.set_append,if_neg (by simp),show 4+i - [Value.int .i64 N0,.int .i64 N1,.string x,.slice A n c].length=i by simp]
theorem uhN_ok {l:List UInt8} (h:∀ i,i<16→uhOk l i):SealOk (uhN l 16):=by
 refine⟨uhN_len l 16,fun x hx=>?_⟩
 obtain⟨i,hi,rfl⟩:=List.mem_map.1 hx
 exact uhV_lt (h i (List.mem_range.1 hi))
end Go.Proofs.YtlkbkclnbppigaaGreatDoor
