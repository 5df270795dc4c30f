/- A message grows: Stream.Add. -/
import Derived.Test.YtlkbkclnbppigaaGreatDoorIZ12
set_option maxHeartbeats 4000000
namespace Go.Proofs.YtlkbkclnbppigaaGreatDoor
open Go.RowKit Go.Sort
set_option linter.unusedVariables false
set_option linter.unusedSimpArgs false
set_option maxRecDepth 100000
def nb (s:ByteArray):List Nat:=s.data.toList.map (·.toNat)
theorem nb_len (s:ByteArray):(nb s).length=s.size:=by
 unfold nb
 rw[List.length_map,Array.length_toList];rfl
theorem nb_lt (s:ByteArray):∀ x∈nb s,x<256:=by
 intro x hx
 obtain⟨b,_,rfl⟩:=List.mem_map.1 hx
 exact b.toNat_lt
theorem txt_nb (s:ByteArray):txtCells s=b8 (nb s):=by
 unfold txtCells b8 nb
 rw[List.map_map];rfl
def stL (s:Sha.St):List Nat:=[s.a,s.b,s.c,s.d,s.e,s.f,s.g,s.h]
def strLH (s:Sha.St) (blk:List Nat) (n:Nat):List Value:=w32 (stL s)++(b8 blk++[.int .u64 (n:Int)])
theorem b8_len (l:List Nat):(b8 l).length=l.length:=by simp[b8]
theorem b8_app (a b:List Nat):b8 (a++b)=b8 a++b8 b:=by simp[b8]
theorem b8_take (a:List Nat) (k:Nat):b8 (a.take k)=(b8 a).take k:=by simp[b8]
theorem b8_drop (a:List Nat) (k:Nat):b8 (a.drop k)=(b8 a).drop k:=by simp[b8]
theorem b8_one (L:List Nat):∀ v∈b8 L,v.oneCell'=true:=by
 intro v hv
 obtain⟨_,_,rfl⟩:=List.mem_map.1 hv
 rfl
section
variable {s:Sha.St} {blk:List Nat} {n:Nat}
theorem stL_len (s:Sha.St):(w32 (stL s)).length=8:=rfl
theorem strLH_len (h:blk.length=64):(strLH s blk n).length=73:=by
 unfold strLH
 rw[List.length_append,List.length_append,stL_len,b8_len,h];rfl
theorem strL_blk (h:blk.length=64) {j:Nat} (hj:j<64):(strLH s blk n)[8+j]? = some (.int .u8 (blk.getD j 0:Nat)):=by
 unfold strLH
 rw[List.getElem?_append_right (by rw[stL_len];omega),stL_len,Nat.add_sub_cancel_left,List.getElem?_append_left (by rw[b8_len];omega)]
 exact b8_at blk (by omega)
theorem strL_n (h:blk.length=64):(strLH s blk n)[72]? = some (.int .u64 (n:Int)):=by
 unfold strLH
 rw[List.getElem?_append_right (by rw[stL_len];omega),stL_len,List.getElem?_append_right (by rw[b8_len];omega),b8_len,h]
 rfl
theorem strL_st {j:Nat} {v:Value} (h:(w32 (stL s))[j]? = some v):(strLH s blk n)[j]? = some v:=by
 unfold strLH
 rw[List.getElem?_append_left (List.getElem?_eq_some_iff.1 h).1];exact h
theorem strL_put (h:blk.length=64) {a:Nat} {x:List Nat} (hx:a+x.length≤64):splice (strLH s blk n) (8+a) (b8 x)=strLH s (Sha.put blk a x) n:=by
 unfold splice strLH Sha.put
 rw[List.take_append,List.take_of_length_le (by rw[stL_len];omega),stL_len,Nat.add_sub_cancel_left,List.take_append_of_le_length (by rw[b8_len];omega),b8_len,
  List.drop_append,List.drop_eq_nil_of_le (by rw[stL_len];omega),stL_len,show 8+a+x.length-8=a+x.length by omega,List.nil_append,List.drop_append_of_le_length (by rw[b8_len];omega)]
 simp only[b8_app,b8_take,b8_drop,List.append_assoc]
theorem strL_st_put (s':Sha.St):splice (strLH s blk n) 0 (w32 (stL s'))=strLH s' blk n:=by
 unfold splice strLH
 rw[List.take_zero,List.nil_append,stL_len,List.drop_append,List.drop_eq_nil_of_le (by rw[stL_len];omega),stL_len]
 rfl
theorem strL_set (h:blk.length=64) (n':Nat):(strLH s blk n).set 72 (.int .u64 (n':Int))=strLH s blk n':=by
 unfold strLH
 rw[List.set_append_right _ _ (by rw[stL_len];omega),stL_len,List.set_append_right _ _ (by rw[b8_len];omega),b8_len,h]
 rfl
theorem strL_one:∀ v∈strLH s blk n,v.oneCell'=true:=by
 intro v hv
 unfold strLH at hv
 rcases List.mem_append.1 hv with hv | hv
 ·exact w32_one _ v hv
 ·rcases List.mem_append.1 hv with hv | hv
  ·exact b8_one _ v hv
  ·rw[List.mem_singleton.1 hv];rfl
end
def StrV (m:List Nat) (v:Value):Prop:=∃ st blk,v=.agg (strLH st blk m.length).toArray∧Sha.Str m st blk∧∀ x∈blk,x<256
theorem put_lt {blk x:List Nat} {a:Nat} (h:∀ z∈blk,z<256) (hx:∀ z∈x,z<256):∀ z∈Sha.put blk a x,z<256:=by
 intro z hz
 unfold Sha.put at hz
 rcases List.mem_append.1 hz with hz | hz
 ·exact h z (List.mem_of_mem_take hz)
 ·rcases List.mem_append.1 hz with hz | hz
  ·exact hx z hz
  ·exact h z (List.mem_of_mem_drop hz)
theorem inf64b:(Tryz.prog.info? 5).map (·.size)=some 1:=by kernel_rfl
theorem run_slice64 (W:World) (g a:Nat) (ha:a<64):(Instr.sliceAt 149 (.pointer (some ⟨g,8,none⟩)) (some (.int .i64 (a:Int))) none none).run Tryz.prog W=.ok (.slice (some ⟨g,8+a,none⟩) (64-a) (64-a)) W:=by
 have h1:=run_underlying Tryz.underlying149 W
 have hi:=inf64b
 cases hq:Tryz.prog.info? 5 with
 | none=>rw[hq]at hi;cases hi
 | some i =>
  have hs:i.size=1:=by rw[hq]at hi;simpa using hi
  have e1:¬ (64:Nat)=a:=by omega
  have e2:(a:Int)≤64:=by omega
  by_cases h0:a=0
  ·subst h0
   simp[Instr.sliceAt,h1,Instr.sureAddr,Instr.sliceBounds,run_sliceBound,sizeOf,typeInfo,hq,hs,e1,Addr.add]
  ·simp[Instr.sliceAt,h1,Instr.sureAddr,Instr.sliceBounds,run_sliceBound,sizeOf,typeInfo,hq,hs,e1,e2,h0,Addr.add]
def AddPost (m:List Nat) (w:World) (e:Ending) (w':World):Prop:=(∃ v,e=.returned v∧StrV m v)∧Below w.heap.size w w'
theorem add_any (m:List Nat) (v:Value) (s:ByteArray) (w:World) (hv:StrV m v) (hlen:m.length+s.size≤1000000000000) (hK:Ks w) :
  Calls Tryz.prog 118 #[v,.string s] w (AddPost (m++nb s) w):=by
 obtain⟨st,blk,rfl,hst,hbk⟩:=hv
 obtain⟨X,hX⟩:∃ X,X=(strLH st blk m.length).toArray:=⟨_,rfl⟩
 rw[←hX]
 have HK:=Lib.hid hK;have HX:=Lib.hid hX;have HST:=Lib.hid hst;have HBK:=Lib.hid hbk
 clear hK hX hst hbk
 go_enter Tryz.func118,Tryz.ntmps118
 go_wp2
 go_loopw [1] (fun v wr=>∃ (k:Nat) (x:ByteArray) (st:Sha.St) (blk:List Nat) (Z:List Value),k≤s.size∧v=.string x∧x.size=s.size-k∧Hid (x.data.toList=s.data.toList.drop k)∧Hid (Sha.Str (m++(nb s).take k) st blk)∧Hid (∀ y∈blk,y<256)∧Hid (RowV wr w.heap.size 152 (strLH st blk (m.length+k)))∧Hid (RowV wr (w.heap.size+1) 152 Z)∧Hid (Z.length=73)∧Below w.heap.size w wr) (fun v _=>match v with | .string t=>t.size | _=>0)
 case atStart =>
  refine⟨0,s,st,blk,Tryz.zeroCells152.toList,by omega,rfl,by omega,Lib.hid rfl,Lib.hid ?_,HBK,Lib.hid ?_,Lib.hid ?_,Lib.hid ?_,belB⟩
  ·rw[List.take_zero,List.append_nil];exact HST.out
  ·have:=HX.out
   rw[Nat.add_zero]
   exact (heap_alloc2_old w _ _).trans (by rw[this])
  ·exact (heap_alloc2_new w _ _).trans (by simp)
  ·kernel_rfl
 case round =>
  obtain⟨k,x,st,blk,Z,hk,rfl,hxs,HXD,HST,HBK,HB,HZ,HZL,hb⟩:=hrel
  clear HX
  by_cases h0:x.size=0
  ·have e1:x.toList.isEmpty=true:=by
    rw[Lib.toList_data,List.isEmpty_iff]
    exact List.eq_nil_of_length_eq_zero (by rw[←Lib.size_eq];exact h0)
   have hks:k=s.size:=by omega
   have hall:(nb s).take k=nb s:=List.take_of_length_le (by rw[nb_len];omega)
   have hst2:=HST.out
   rw[hall]at hst2
   have hml:(m++nb s).length=m.length+k:=by rw[List.length_append,nb_len,hks]
   have hl73:(strLH st blk (m.length+k)).toArray.size=73:=by rw[List.size_toArray,strLH_len hst2.len]
   have hi:(Tryz.prog.info? 152).map (·.size)=some (strLH st blk (m.length+k)).toArray.size:=by rw[hl73];kernel_rfl
   have hz:Z.toArray.size=(strLH st blk (m.length+k)).toArray.size:=by rw[hl73,List.size_toArray];exact HZL.out
   have h1:(strLH st blk (m.length+k)).toArray.all (·.oneCell')=true:=by rw[List.all_toArray,List.all_eq_true];exact strL_one
   have hB:wr.heap[w.heap.size]? = some (.cells (strLH st blk (m.length+k)).toArray 152 (0,0)):=HB.out
   have hv:StrV (m++nb s) (.agg (strLH st blk (m.length+k)).toArray):=⟨st,blk,by rw[hml],hst2,HBK.out⟩
   have HI:=Lib.hid hi;have HZS:=Lib.hid hz;have H1:=Lib.hid h1;have HBB:=Lib.hid hB;have HV:=Lib.hid hv
   clear hks hall hst2 hml hl73 hi hz h1 hB hv HB HST HBK
   generalize (strLH st blk (m.length+k)).toArray=Y at *
   go_wp2_with (first | (refine wpList_load_row rfl _ _ rfl w.heap.size rfl _ Y (0,0) _ HBB.out Tryz.underlying152 rfl HI.out ?_) | (refine wpList_store_row rfl _ _ _ rfl (w.heap.size+1) Y rfl rfl _ _ HZ.out HI.out HZS.out H1.out ?_))
   refine bodyPost_ret (v:=.agg Y) ?_ rfl ⟨⟨_,rfl,HV.out⟩,?_⟩
   ·exact results_cell_row rfl _ _ (w.heap.size+1) _ _ (0,0) _ rfl (setRow_heap _ _ _ _ _ _ HZ.out) Tryz.underlying152 rfl HI.out
   ·exact below_setRow hb (by omega) _
  ·have e1:x.toList.isEmpty=false:=by
    rw[Lib.toList_data]
    cases h:x.data.toList with
    | nil=>exact absurd (by rw[Lib.size_eq,h];rfl) h0
    | cons a l=>rfl
   obtain⟨N,hN⟩:∃ N,N=m.length+k:=⟨_,rfl⟩
   rw[←hN]at HB
   have hN2:N≤1000000000000:=by omega
   obtain⟨a,ha⟩:∃ a,a=N % 64:=⟨_,rfl⟩
   have ha64:a<64:=by omega
   have haN:(N:Int) % 64=(a:Int):=by omega
   obtain⟨q,hq⟩:∃ q,q=Nat.min x.size (64-a):=⟨_,rfl⟩
   have hq1:q≤x.size:=by rw[hq];exact Nat.min_le_left _ _
   have hq2:q≤64-a:=by rw[hq];exact Nat.min_le_right _ _
   have hq3:0<q:=by rw[hq];exact Nat.lt_min.2 ⟨by omega,by omega⟩
   have hbl:blk.length=64:=HST.out.len
   have cn:wr.cell? ⟨w.heap.size,72,none⟩=some (.int .u64 (N:Int)):=RowV.cell HB.out (strL_n hbl)
   have HN:=Lib.hid hN;have HA:=Lib.hid ha;have HQ:=Lib.hid hq;have HBL:=Lib.hid hbl
   clear hN ha hq hbl
   have hcs:(txtCells x).take q=b8 ((nb x).take q):=by rw[txt_nb,b8_take]
   have hcl:((txtCells x).take q).length=q:=by rw[List.length_take,txtCells_len];omega
   have hfit:8+a+((txtCells x).take q).length≤(strLH st blk N).length:=by rw[hcl,strLH_len HBL.out];omega
   have hsp:splice (strLH st blk N) (8+a) ((txtCells x).take q)=strLH st (Sha.put blk a ((nb x).take q)) N:=by
    rw[hcs];exact strL_put HBL.out (by rw[List.length_take,nb_len];omega)
   have hqm:(txtCells x).take q=(txtCells x).take (Nat.min x.size (64-a)):=by rw[HQ.out]
   obtain⟨cs,hcs2⟩:∃ cs,cs=(txtCells x).take q:=⟨_,rfl⟩
   rw[←hcs2]at hcl hfit hsp hqm
   have HCL:=Lib.hid hcl;have HF:=Lib.hid hfit;have HSP:=Lib.hid hsp;have HQM:=Lib.hid hqm
   clear hcs hcl hfit hsp hqm hcs2
   have hsl:∀ W,(Instr.sliceAt 149 (.pointer (some ⟨w.heap.size,8,none⟩)) (some (.int .i64 (a:Int))) none none).run Tryz.prog W=.ok (.slice (some ⟨w.heap.size,8+a,none⟩) (64-a) (64-a)) W:=fun W=>run_slice64 W w.heap.size a ha64
   go_upto_region 4 with (refine wpList_copy_str rfl _ _ _ _ rfl 5 Tryz.underlying105 (by kernel_rfl) w.heap.size (8+a) (64-a) (64-a) x rfl rfl (strLH st blk N) _ HB.out cs HQM.out HF.out q HCL.out ?_)
   obtain⟨w3,hw3⟩:∃ x:World,x=wr.setRow w.heap.size (splice (strLH st blk N) (8+a) cs).toArray:=⟨_,rfl⟩
   rw[←hw3]
   have hB3:RowV w3 w.heap.size 152 (strLH st (Sha.put blk a ((nb x).take q)) N):=by rw[hw3,←HSP.out];exact RowV.row HB.out _
   have hZ3:RowV w3 (w.heap.size+1) 152 Z:=by rw[hw3];exact RowV.row_far HZ.out _ _ (by omega)
   have hb3:Below w.heap.size w w3:=by rw[hw3];exact below_setRow hb (Nat.le_refl _) _
   clear hw3 cn
   have hpl:(Sha.put blk a ((nb x).take q)).length=64:=by rw[Sha.put_len (by rw[List.length_take,nb_len,HBL.out];omega)];exact HBL.out
   have hpb:∀ y∈Sha.put blk a ((nb x).take q),y<256:=put_lt HBK.out fun z hz=>nb_lt x z (List.mem_of_mem_take hz)
   have hnk:(nb s).take (k+q)=(nb s).take k++(nb x).take q:=by
    have:nb x=(nb s).drop k:=by unfold nb;rw[HXD.out,List.map_drop]
    rw[this,List.take_add]
   have hml:(m++(nb s).take k).length % 64=a:=by rw[HA.out,HN.out,List.length_append,List.length_take,nb_len,Nat.min_eq_left hk]
   have hN3:m.length+(k+q)=N+q:=by rw[HN.out];omega
   have hxq:((nb x).take q).length=q:=by rw[List.length_take,nb_len];omega
   have hxd:(x.extract q (s.size-k)).data.toList=s.data.toList.drop (k+q):=by
    rw[show s.size-k=x.size by omega,Lib.extract_to_end,HXD.out,List.drop_drop]
   have hxz:(x.extract q (s.size-k)).size=s.size-(k+q):=by rw[ByteArray.size_extract];omega
   have c3:w3.cell? ⟨w.heap.size,72,none⟩=some (.int .u64 (N:Int)):=RowV.cell hB3 (strL_n hpl)
   have f3:w3.frozen? ⟨w.heap.size,72,none⟩=false:=RowV.free hB3 72
   have hq0:(0:Int)≤q:=by omega
   have hz3:w.heap.size+1<w3.heap.size:=RowV.lt hZ3
   have HB3:=Lib.hid hB3;have HZ3:=Lib.hid hZ3;have HPL:=Lib.hid hpl;have HPB:=Lib.hid hpb;have HNK:=Lib.hid hnk;have HML:=Lib.hid hml;have HN3:=Lib.hid hN3;have HXQ:=Lib.hid hxq;have HXD3:=Lib.hid hxd;have HXZ:=Lib.hid hxz
   clear hB3 hZ3 hpl hpb hnk hml hN3 hxq hxd hxz HB HZ HSP HQM HF HCL
   have hn3:((N:Int)+q)=((N+q:Nat):Int):=by omega
   have hB4:RowV (w3.setCell ⟨w.heap.size,72,none⟩ (.int .u64 ((N:Int)+q))) w.heap.size 152 (strLH st (Sha.put blk a ((nb x).take q)) (N+q)):=by
    rw[hn3,←strL_set (n:=N) HPL.out (N+q)];exact RowV.set_ HB3.out 72 _
   have hZ4:RowV (w3.setCell ⟨w.heap.size,72,none⟩ (.int .u64 ((N:Int)+q))) (w.heap.size+1) 152 Z:=RowV.far HZ3.out _ _ (by simp)
   have HB4:=Lib.hid hB4;have HZ4:=Lib.hid hZ4
   clear hn3 hB4 hZ4
   by_cases hf:a+q=64
   ·have e2:((a:Int)+q==64)=true:=by simp;omega
    have hst2:=HST.out.full ((nb x).take q) (by rw[HML.out,HXQ.out];exact hf)
    rw[HML.out]at hst2
    have hok:=HST.out.ok
    have HS2:=Lib.hid hst2
    clear hst2
    go_wp2_with fail
    obtain⟨wd,hwd⟩:∃ y:World,y=(w3.setCell ⟨w.heap.size,72,none⟩ (.int .u64 ((N:Int)+q))).drew:=⟨_,rfl⟩
    have hBd:RowV wd w.heap.size 152 (strLH st (Sha.put blk a ((nb x).take q)) (N+q)):=by rw[hwd];exact HB4.out
    have hZd:RowV wd (w.heap.size+1) 152 Z:=by rw[hwd];exact HZ4.out
    have hbd:Below w.heap.size w wd:=by rw[hwd];exact (hb3.setCell (p:=⟨w.heap.size,72,none⟩) (Nat.le_refl _) _).drew
    have x0:wd.cell? ⟨w.heap.size,0,none⟩=some (.int .u32 (st.a:Int)):=RowV.cell hBd (strL_st rfl)
    have x1:wd.cell? ⟨w.heap.size,1,none⟩=some (.int .u32 (st.b:Int)):=RowV.cell hBd (strL_st rfl)
    have x2:wd.cell? ⟨w.heap.size,2,none⟩=some (.int .u32 (st.c:Int)):=RowV.cell hBd (strL_st rfl)
    have x3:wd.cell? ⟨w.heap.size,3,none⟩=some (.int .u32 (st.d:Int)):=RowV.cell hBd (strL_st rfl)
    have x4:wd.cell? ⟨w.heap.size,4,none⟩=some (.int .u32 (st.e:Int)):=RowV.cell hBd (strL_st rfl)
    have x5:wd.cell? ⟨w.heap.size,5,none⟩=some (.int .u32 (st.f:Int)):=RowV.cell hBd (strL_st rfl)
    have x6:wd.cell? ⟨w.heap.size,6,none⟩=some (.int .u32 (st.g:Int)):=RowV.cell hBd (strL_st rfl)
    have x7:wd.cell? ⟨w.heap.size,7,none⟩=some (.int .u32 (st.h:Int)):=RowV.cell hBd (strL_st rfl)
    have hR:Reads wd 1 (some ⟨w.heap.size,8,none⟩) 64 (b8 (Sha.put blk a ((nb x).take q))):=by
     refine⟨by rw[b8_len,HPL.out],fun _=>⟨_,_,rfl,fun j u hu=>?_⟩⟩
     have hj:j<64:=by have:=(List.getElem?_eq_some_iff.1 hu).1;rw[b8_len,HPL.out]at this;exact this
     rw[b8_at _ (by rw[HPL.out];exact hj)]at hu
     rw[←Option.some.inj hu]
     exact RowV.cell hBd (strL_blk HPL.out hj)
    have hco:=compress_any st hok (some ⟨w.heap.size,8,none⟩) 64 _ wd hR HPB.out (by omega) (by omega) (HK.out.keep hbd)
    have hfit:0+(w32 (stL (Sha.comp st (Sha.put blk a ((nb x).take q))))).length≤(strLH st (Sha.put blk a ((nb x).take q)) (N+q)).length:=by rw[strLH_len HPL.out,stL_len];omega
    have hspl:splice (strLH st (Sha.put blk a ((nb x).take q)) (N+q)) 0 (w32 (stL (Sha.comp st (Sha.put blk a ((nb x).take q)))))=strLH (Sha.comp st (Sha.put blk a ((nb x).take q))) (Sha.put blk a ((nb x).take q)) (N+q):=strL_st_put _
    generalize Sha.put blk a ((nb x).take q)=bl2 at *
    generalize Sha.comp st bl2=st2 at *
    have HCO:=Lib.hid hco;have HWD:=Lib.hid hwd;have HBd:=Lib.hid hBd;have HZd:=Lib.hid hZd;have HFT:=Lib.hid hfit;have HSPL:=Lib.hid hspl
    have hi8:(Tryz.prog.info? 148).map (·.size)=some (w32 (stL st2)).length:=by rw[stL_len];kernel_rfl
    have HI8:=Lib.hid hi8
    clear hco hwd hBd hZd hR hok hfit hspl hi8
    refine wp_region_still_tail 4 (by kernel_rfl) (by kernel_rfl) ?_
    simp only[List.take_succ_cons,List.take_zero,List.drop_succ_cons,List.drop_zero]
    change wpStill _ _ (w3.setCell ⟨w.heap.size,72,none⟩ (.int .u64 ((N:Int)+q))).drew _ _ _
    rw[←HWD.out]
    repeat still_step
    refine wpStill_nil ?_
    change wpList _ _ _ _ _ (w3.setCell ⟨w.heap.size,72,none⟩ (.int .u64 ((N:Int)+q))).drew
    rw[←HWD.out]
    clear x0 x1 x2 x3 x4 x5 x6 x7
    go_wp2_with (first | (go_at_call 178;refine HCO.out.mono ?_;rintro e w5 ⟨rfl,hb5⟩) | (refine wpList_store_at rfl _ _ _ rfl w.heap.size 0 (w32 (stL st2)) rfl rfl _ _ (RowV.keep HBd.out hb5) HI8.out HFT.out (w32_one _) ?_))
    (try simp only[Act.put,List.setIfInBounds_toArray,List.set_cons_succ,List.set_cons_zero])
    go_roundw
    case measure =>
     rename_i t2 he2 z t1 he1
     have h1:Value.string x=.string t1:=he1
     have h2:Value.string (x.extract q (s.size-k))=.string t2:=he2
     injection h1 with h1
     injection h2 with h2
     rw[←h1,←h2,HXZ.out];omega
    case rel =>
    refine⟨k+q,x.extract q (s.size-k),st2,bl2,Z,by omega,rfl,HXZ.out,HXD3,Lib.hid ?_,HPB,Lib.hid ?_,Lib.hid ?_,HZL,?_⟩
    ·rw[HNK.out,←List.append_assoc];exact HS2.out
    ·rw[HN3.out,←HSPL.out];exact RowV.row (RowV.keep HBd.out hb5) _
    ·exact RowV.row_far (RowV.keep HZd.out hb5) _ _ (by omega)
    ·exact below_setRow (hbd.trans (hb5.mono hbd.size)) (Nat.le_refl _) _
   ·have e2:((a:Int)+q==64)=false:=by simp;omega
    have hst2:=HST.out.step ((nb x).take q) (by rw[HML.out,HXQ.out];omega)
    rw[HML.out]at hst2
    have HS2:=Lib.hid hst2
    clear hst2
    go_wp2_with fail
    refine⟨⟨k+q,x.extract q (s.size-k),st,Sha.put blk a ((nb x).take q),Z,by omega,rfl,HXZ.out,HXD3,Lib.hid ?_,HPB,Lib.hid ?_,HZ4,HZL,hb3.setCell (p:=⟨w.heap.size,72,none⟩) (Nat.le_refl _) _⟩,?_⟩
    ·rw[HNK.out,←List.append_assoc];exact HS2.out
    ·rw[HN3.out];exact HB4.out
    ·show (x.extract q (s.size-k)).size<x.size
     rw[HXZ.out];omega
end Go.Proofs.YtlkbkclnbppigaaGreatDoor
