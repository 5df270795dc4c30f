/- What the condition package's join returns. -/
import Derived.Test.YtlkbkclnbppigaaGreatDoorIZ12
import Derived.Lib.SmallJoins
set_option maxHeartbeats 4000000
namespace Go.Proofs.YtlkbkclnbppigaaGreatDoor
open Tryz
open Go.RowKit Go.Sort
set_option linter.unusedVariables false
set_option linter.unusedSimpArgs false
set_option maxRecDepth 100000
def Tab(w:World):Prop:=Lib.TabIs prog w "internal/strconv.uint64pow10" .u64 Lib.pow10Tab
theorem SX:prog.globalNamed "internal/strconv.uint64pow10" = some 3:=by kernel_rfl
theorem Tab.keep{w w':World}(h:Tab w)(hb:aF w w'):Tab w':=Go.Joins.tab_stays SX h hb (Nat.le_refl _)
def orT(a b:aC):aC:=if a.size=0 then b else a
def jr(xs:List aC):aC:=⟨(Lib.join (xs.map (·.data.toList)) [44]).toArray⟩
def dn(xs:List aC):aC:=orT (jr xs) ⟨#[126]⟩
def ai(n:Int):aC:=⟨(Lib.itoa n).toArray⟩
theorem oq(n:Int)(w:World)(h0 : -9223372036854775808<=n)(h1:n<=9223372036854775807)(ht:Tab w):Calls prog 57 #[.int .i64 n] w (Ret w (.string (ai n))) :=
 (strconv_Itoa n h0 h1 w ht).mono fun e w' ⟨he,k,os,hw⟩=>⟨he,by rw[hw];exact below_grown w k os⟩
theorem GR(s:aC)(w:World)(hs:s.size<=281474976710656):Calls prog 191 #[.string s] w (Ret w (.string s)):=by
 have HC:=aA (fun W=>stringslite_Clone s W hs);go_enter func191,ntmps191;go_wp2_with (go_at_call 246;refine (HC.out _).mono ?_;rintro e w2 ⟨rfl,hb2⟩);go_ret;exact⟨rfl,aJ⟩
theorem SY(A:Option Addr)(n c:Nat)(ws:List aC)(W:World)(base:Nat)(hown:W.ownsRow base 9 1 (.slice A n c) n (ws.map .string))(hlen:(Lib.join (ws.map (·.data.toList)) [44]).length<=140737488355328)(hn:n<=1000000) :
  Calls prog 72 #[.slice A n c,.string ⟨#[44]⟩] W (Ret W (.string (jr ws))):=by
 have hl:ws.length=n:=AX;rcases hown.2 with ⟨h,h0⟩ | ⟨g',cap,cur,he,hb,hh,h1,h2,h3,h4⟩
 ·injection h with e1 e2 e3
  subst e1;subst h0;obtain rfl:ws=[]:=List.eq_nil_of_length_eq_zero hl;refine (strings_Join_none none c ⟨#[44]⟩ W).mono fun e w' ⟨h5,h6⟩=>⟨?_,by rw[h6];exact Below.refl _ _⟩
  rw[h5];rfl
 ·injection he with e1 e2 e3
  subst e1;subst e3;have hcells:=World.ownsRow.cells hown (g:=g') rfl;have:=strings_Join g' 0 c ws ⟨#[44]⟩ W (by
   intro j x hx;have h9:=hcells j (.string x) gB;unfold Addr.add at h9;split at h9 <;> simp_all) ((hown.lt g' rfl).2) aB aB hlen
  rw[hl]at this;exact this
theorem AZ(W:World)(t:Nat)(a b:Value)(g:Nat)(hg:g=W.heap.size):(W.alloc (.cells #[a,b] t)).cell? ⟨g,0,none⟩=some a/\(W.alloc (.cells #[a,b] t)).cell? ⟨g,1,none⟩=some b:=by
 exact GU
theorem GV(g:Nat)(eg:∀ args w,(callFunc g args).run prog w=.ok (.enter g args) w)(f:aC->aC)(A:Option Addr)(n c:Nat)(xs:List aC)(w:World)
  (hf:∀ x∈xs,∀ W,aF w W->Calls prog g #[.string x] W (Ret W (.string (f x)))) (hA:aI w 1 A n (xs.map .string)) (hn:n<=1000000) (hlen:(Lib.join ((xs.map f).map (·.data.toList)) [44]).length<=140737488355328) :
  Calls prog 192 #[.slice A n c,.func (.func g) #[] #[]] w (Ret w (.string (dn (xs.map f)))):=by
 have hl:xs.length=n:=jK;obtain⟨i0,hi0,hz0,hz1,hz2⟩:=info_parts rY;have HI:Hid ((prog.info? 9=some i0)/\i0.zero=some (.string ⟨#[]⟩)/\i0.size=1/\i0.bytes=16):=aA ⟨hi0,hz0,hz1,hz2⟩;have HF:=aA hf;have HA:=aA hA;have HL:=aA hl;have HLEN:=aA hlen;unfold dn orT;obtain⟨V,hV⟩:∃ V,V=(if (jr (xs.map f)).size=0 then (⟨#[126]⟩:aC) else jr (xs.map f)):=⟨_,rfl⟩;rw[<-hV];have HV:=aA hV;clear hf hA hl hi0 hz0 hz1 hz2 hlen hV;go_enter func192,ntmps192;go_wp2_with fail;go_loopw [5,10] (fun va vi wr=>∃(k:Nat)(A':Option Addr)(c':Nat),(va=.slice A' k c'/\vi=.int .i64 k/\k<=n)/\wr.ownsRow w.heap.size 9 1 (.slice A' k c') k (((xs.map f).take k).map .string)/\aF w wr) (fun _ vi _=>n-(intOf vi).toNat)
 case atStart=>exact⟨0,none,0,⟨rfl,rfl,Nat.zero_le _⟩,World.ownsRow_nil _ _ _ _,Below.refl _ _⟩
 case round =>
  obtain⟨k,A',c',⟨rfl,rfl,hk⟩,hown,hbr⟩:=hrel;by_cases hlt:k<n
  ·obtain⟨x,hx⟩:∃ x,xs[k]? = some x:=⟨_,List.getElem?_eq_getElem gV⟩;obtain⟨pb,po,rfl,hcell⟩:=(HA.out.keep hbr).2 aB;have hc1:wr.cell? ⟨pb,po+k,none⟩=some (.string x):=hcell k _ gB;exact GX
  ·exact GY
theorem Si(g:Nat)(eg:∀ args w,(callFunc g args).run prog w=.ok (.enter g args) w)(f:Int->aC)(A:Option Addr)(n c:Nat)(xs:List Int)(w:World)
  (hf:∀ x∈xs,∀ W,aF w W->Calls prog g #[.int .i64 x] W (Ret W (.string (f x)))) (hA:aI w 1 A n (xs.map (.int .i64))) (hn:n<=1000000) (hlen:(Lib.join ((xs.map f).map (·.data.toList)) [44]).length<=140737488355328) :
  Calls prog 193 #[.slice A n c,.func (.func g) #[] #[]] w (Ret w (.string (dn (xs.map f)))):=by
 have hl:xs.length=n:=jK;obtain⟨i0,hi0,hz0,hz1,hz2⟩:=info_parts rY;have HI:Hid ((prog.info? 9=some i0)/\i0.zero=some (.string ⟨#[]⟩)/\i0.size=1/\i0.bytes=16):=aA ⟨hi0,hz0,hz1,hz2⟩;have HF:=aA hf;have HA:=aA hA;have HL:=aA hl;have HLEN:=aA hlen;unfold dn orT;obtain⟨V,hV⟩:∃ V,V=(if (jr (xs.map f)).size=0 then (⟨#[126]⟩:aC) else jr (xs.map f)):=⟨_,rfl⟩;rw[<-hV];have HV:=aA hV;clear hf hA hl hi0 hz0 hz1 hz2 hlen hV;go_enter func193,ntmps193;go_wp2_with fail;go_loopw [5,10] (fun va vi wr=>∃(k:Nat)(A':Option Addr)(c':Nat),(va=.slice A' k c'/\vi=.int .i64 k/\k<=n)/\wr.ownsRow w.heap.size 9 1 (.slice A' k c') k (((xs.map f).take k).map .string)/\aF w wr) (fun _ vi _=>n-(intOf vi).toNat)
 case atStart=>exact⟨0,none,0,⟨rfl,rfl,Nat.zero_le _⟩,World.ownsRow_nil _ _ _ _,Below.refl _ _⟩
 case round =>
  obtain⟨k,A',c',⟨rfl,rfl,hk⟩,hown,hbr⟩:=hrel;by_cases hlt:k<n
  ·obtain⟨x,hx⟩:∃ x,xs[k]? = some x:=⟨_,List.getElem?_eq_getElem gV⟩;obtain⟨pb,po,rfl,hcell⟩:=(HA.out.keep hbr).2 aB;have hc1:wr.cell? ⟨pb,po+k,none⟩=some (.int .i64 x):=hcell k _ gB;exact GX
  ·exact GY
def GZ(ps:List aC)(w:World)(e:Ending)(w':World):Prop:=∃ A c,e=.returned (.slice A ps.length c)/\w'.ownsRow w.heap.size 9 1 (.slice A ps.length c) ps.length (ps.map .string)/\aF w w'
theorem Sj:(prog.info? 5).map (·.size)=some 1:=by kernel_rfl
theorem Sl(W:World)(g a:Nat)(ha:a<64):(Instr.sliceAt 149 (.pointer (some ⟨g,8,none⟩)) (some (.int .i64 (a:Int))) none none).run prog W=.ok (.slice (some ⟨g,8+a,none⟩) (64-a) (64-a)) W:=by
 have h1:=run_underlying underlying149 W;have hi:=Sj;cases hq:prog.info? 5 with
 | none=>rw[hq]at hi;cases hi
 | some i =>
  have hs:i.size=1:=xA;have e1:¬ (64:Nat)=a:=aB;have e2:(a:Int)<=64:=aB;by_cases h0:a=0
  ·subst h0;simp[Instr.sliceAt,h1,Instr.sureAddr,Instr.sliceBounds,run_sliceBound,sizeOf,typeInfo,hq,hs,e1,Addr.add]
  ·simp[Instr.sliceAt,h1,Instr.sureAddr,Instr.sliceBounds,run_sliceBound,sizeOf,typeInfo,hq,hs,e1,e2,h0,Addr.add]
def Sm(m:List Nat)(w:World)(e:Ending)(w':World):Prop:=(∃ v,e=.returned v/\iF m v)/\aF w w'
theorem Aa(m:List Nat)(v:Value)(s:aC)(w:World)(hv:iF m v)(hlen:m.length+s.size<=1000000000000)(hK:Ks w) :
  Calls prog 118 #[v,.string s] w (Sm (m++nb s) w):=by
 obtain⟨st,blk,rfl,hst,hbk⟩:=hv;obtain⟨X,hX⟩:∃ X,X=(bP st blk m.length).toArray:=⟨_,rfl⟩;rw[<-hX];have HK:=aA hK;have HX:=aA hX;have HST:=aA hst;have HBK:=aA hbk;clear hK hX hst hbk;go_enter func118,ntmps118;go_wp2;go_loopw [1] (fun v wr=>∃(k:Nat)(x:aC)(st:Sha.St)(blk:List Nat)(Z:List Value),k<=s.size/\v=.string x/\x.size=s.size-k/\Hid (x.data.toList=s.data.toList.drop k)/\Hid (Sha.Str (m++(nb s).take k) st blk)/\Hid (∀ y∈blk,y<256)/\Hid (aN wr w.heap.size 152 (bP st blk (m.length+k)))/\Hid (aN wr (w.heap.size+1) 152 Z)/\Hid (Z.length=73)/\aF w wr) (fun v _=>match v with | .string t=>t.size | _=>0)
 case atStart =>
  refine⟨0,s,st,blk,zeroCells152.toList,aB,rfl,aB,aA rfl,aA ?_,HBK,aA ?_,aA ?_,aA ?_,aJ⟩
  ·rw[List.take_zero,List.append_nil];exact HST.out
  ·have:=HX.out;rw[Nat.add_zero];exact (heap_alloc2_old w _ _).trans (by rw[this])
  ·exact (heap_alloc2_new w _ _).trans aH
  ·kernel_rfl
 case round =>
  obtain⟨k,x,st,blk,Z,hk,rfl,hxs,HXD,HST,HBK,HB,HZ,HZL,hb⟩:=hrel;clear HX;by_cases h0:x.size=0
  ·have e1:x.toList.isEmpty=true:=by
    rw[Lib.toList_data,List.isEmpty_iff];exact List.eq_nil_of_length_eq_zero xZ
   have hks:k=s.size:=aB;have hall:(nb s).take k=nb s:=List.take_of_length_le (by rw[mF];omega);have hst2:=HST.out;rw[hall]at hst2;have hml:(m++nb s).length=m.length+k:=by rw[List.length_append,mF,hks]
   have hl73:(bP st blk (m.length+k)).toArray.size=73:=by rw[List.size_toArray,oQ hst2.len]
   have hi:(prog.info? 152).map (·.size)=some (bP st blk (m.length+k)).toArray.size:=by rw[hl73];kernel_rfl
   have hz:Z.toArray.size=(bP st blk (m.length+k)).toArray.size:=by rw[hl73,List.size_toArray];exact HZL.out
   have h1:(bP st blk (m.length+k)).toArray.all (·.oneCell')=true:=Ac;have hB:wr.heap[w.heap.size]? = some (.cells (bP st blk (m.length+k)).toArray 152 (0,0)):=HB.out;have hv:iF (m++nb s) (.agg (bP st blk (m.length+k)).toArray):=⟨st,blk,by rw[hml],hst2,HBK.out⟩;have HI:=aA hi;have HZS:=aA hz;have H1:=aA h1;have HBB:=aA hB;have HV:=aA hv;clear hks hall hst2 hml hl73 hi hz h1 hB hv HB HST HBK;generalize (bP st blk (m.length+k)).toArray=Y at *;go_wp2_with (first | (refine wpList_load_row rfl _ _ rfl w.heap.size rfl _ Y (0,0) _ HBB.out underlying152 rfl HI.out ?_) | (refine wpList_store_row rfl _ _ _ rfl (w.heap.size+1) Y rfl rfl _ _ HZ.out HI.out HZS.out H1.out ?_));refine bodyPost_ret (v:=.agg Y) ?_ rfl ⟨⟨_,rfl,HV.out⟩,?_⟩
   ·exact results_cell_row rfl _ _ (w.heap.size+1) _ _ (0,0) _ rfl (setRow_heap _ _ _ _ _ _ HZ.out) underlying152 rfl HI.out
   ·exact below_setRow hb aB _
  ·have e1:x.toList.isEmpty=false:=by
    rw[Lib.toList_data];cases h:x.data.toList with
    | nil=>exact absurd (by rw[Lib.size_eq,h];rfl) h0
    | cons a l=>rfl
   obtain⟨N,hN⟩:∃ N,N=m.length+k:=⟨_,rfl⟩;rw[<-hN]at HB;have hN2:N<=1000000000000:=aB;obtain⟨a,ha⟩:∃ a,a=N % 64:=⟨_,rfl⟩;have ha64:a<64:=aB;have haN:(N:Int) % 64=(a:Int):=aB;obtain⟨q,hq⟩:∃ q,q=Nat.min x.size (64-a):=⟨_,rfl⟩;have hq1:q<=x.size:=by rw[hq];exact Nat.min_le_left _ _
   have hq2:q<=64-a:=by rw[hq];exact Nat.min_le_right _ _
   have hq3:0<q:=by rw[hq];exact Nat.lt_min.2 ⟨aB,aB⟩
   have hbl:blk.length=64:=HST.out.len;have cn:wr.cell? ⟨w.heap.size,72,none⟩=some (.int .u64 (N:Int)):=aN.cell HB.out (xR hbl);have HN:=aA hN;have HA:=aA ha;have HQ:=aA hq;have HBL:=aA hbl;clear hN ha hq hbl;have hcs:(jZ x).take q=b8 ((nb x).take q):=by rw[Fp,zx]
   have hcl:((jZ x).take q).length=q:=by rw[List.length_take,Gf];omega
   have hfit:8+a+((jZ x).take q).length<=(bP st blk N).length:=by rw[hcl,oQ HBL.out];omega
   have hsp:splice (bP st blk N) (8+a) ((jZ x).take q)=bP st (Sha.put blk a ((nb x).take q)) N:=by
    rw[hcs];exact Ru HBL.out (by rw[List.length_take,mF];omega)
   have hqm:(jZ x).take q=(jZ x).take (Nat.min x.size (64-a)):=by rw[HQ.out]
   obtain⟨cs,hcs2⟩:∃ cs,cs=(jZ x).take q:=⟨_,rfl⟩;rw[<-hcs2]at hcl hfit hsp hqm;have HCL:=aA hcl;have HF:=aA hfit;have HSP:=aA hsp;have HQM:=aA hqm;clear hcs hcl hfit hsp hqm hcs2;have hsl:∀ W,(Instr.sliceAt 149 (.pointer (some ⟨w.heap.size,8,none⟩)) (some (.int .i64 (a:Int))) none none).run prog W=.ok (.slice (some ⟨w.heap.size,8+a,none⟩) (64-a) (64-a)) W:=fun W=>Sl W w.heap.size a ha64
   go_upto_region 4 with (refine Sr rfl _ _ _ _ rfl 5 underlying105 aG w.heap.size (8+a) (64-a) (64-a) x rfl rfl (bP st blk N) _ HB.out cs HQM.out HF.out q HCL.out ?_)
   obtain⟨w3,hw3⟩:∃ x:World,x=wr.setRow w.heap.size (splice (bP st blk N) (8+a) cs).toArray:=⟨_,rfl⟩;rw[<-hw3];have hB3:aN w3 w.heap.size 152 (bP st (Sha.put blk a ((nb x).take q)) N):=by rw[hw3,<-HSP.out];exact aN.row HB.out _
   have hZ3:aN w3 (w.heap.size+1) 152 Z:=by rw[hw3];exact aN.row_far HZ.out _ _ aB
   have hb3:aF w w3:=by rw[hw3];exact below_setRow hb (Nat.le_refl _) _
   clear hw3 cn;have hpl:(Sha.put blk a ((nb x).take q)).length=64:=by rw[Sha.put_len (by rw[List.length_take,mF,HBL.out];omega)];exact HBL.out
   have hpb:∀ y∈Sha.put blk a ((nb x).take q),y<256:=Rz HBK.out fun z hz=>Fj x z (List.mem_of_mem_take hz)
   have hnk:(nb s).take (k+q)=(nb s).take k++(nb x).take q:=by
    have:nb x=(nb s).drop k:=by unfold nb;rw[HXD.out,List.map_drop]
    rw[this,List.take_add]
   have hml:(m++(nb s).take k).length % 64=a:=by rw[HA.out,HN.out,List.length_append,List.length_take,mF,Nat.min_eq_left hk]
   have hN3:m.length+(k+q)=N+q:=by rw[HN.out];omega
   have hxq:((nb x).take q).length=q:=by rw[List.length_take,mF];omega
   have hxd:(x.extract q (s.size-k)).data.toList=s.data.toList.drop (k+q):=by
    rw[show s.size-k=x.size by omega,Lib.extract_to_end,HXD.out,List.drop_drop]
   have hxz:(x.extract q (s.size-k)).size=s.size-(k+q):=by rw[ByteArray.size_extract];omega
   have c3:w3.cell? ⟨w.heap.size,72,none⟩=some (.int .u64 (N:Int)):=aN.cell hB3 (xR hpl);have f3:w3.frozen? ⟨w.heap.size,72,none⟩=false:=aN.free hB3 72;have hq0:(0:Int)<=q:=aB;have hz3:w.heap.size+1<w3.heap.size:=aN.lt hZ3;have HB3:=aA hB3;have HZ3:=aA hZ3;have HPL:=aA hpl;have HPB:=aA hpb;have HNK:=aA hnk;have HML:=aA hml;have HN3:=aA hN3;have HXQ:=aA hxq;have HXD3:=aA hxd;have HXZ:=aA hxz;clear hB3 hZ3 hpl hpb hnk hml hN3 hxq hxd hxz HB HZ HSP HQM HF HCL;have hn3:((N:Int)+q)=((N+q:Nat):Int):=aB;have hB4:aN (w3.setCell ⟨w.heap.size,72,none⟩ (.int .u64 ((N:Int)+q))) w.heap.size 152 (bP st (Sha.put blk a ((nb x).take q)) (N+q)):=by
    rw[hn3,<-Rx (n:=N) HPL.out (N+q)];exact aN.set_ HB3.out 72 _
   have hZ4:aN (w3.setCell ⟨w.heap.size,72,none⟩ (.int .u64 ((N:Int)+q))) (w.heap.size+1) 152 Z:=aN.far HZ3.out _ _ aH;have HB4:=aA hB4;have HZ4:=aA hZ4;clear hn3 hB4 hZ4;by_cases hf:a+q=64
   ·have e2:((a:Int)+q==64)=true:=aP;have hst2:=HST.out.full ((nb x).take q) (by rw[HML.out,HXQ.out];exact hf);rw[HML.out]at hst2;have hok:=HST.out.ok;have HS2:=aA hst2;clear hst2;go_wp2_with fail;obtain⟨wd,hwd⟩:∃ y:World,y=(w3.setCell ⟨w.heap.size,72,none⟩ (.int .u64 ((N:Int)+q))).drew:=⟨_,rfl⟩;have hBd:aN wd w.heap.size 152 (bP st (Sha.put blk a ((nb x).take q)) (N+q)):=by rw[hwd];exact HB4.out
    have hZd:aN wd (w.heap.size+1) 152 Z:=by rw[hwd];exact HZ4.out
    have hbd:aF w wd:=by rw[hwd];exact (hb3.setCell (p:=⟨w.heap.size,72,none⟩) (Nat.le_refl _) _).drew
    have x0:wd.cell? ⟨w.heap.size,0,none⟩=some (.int .u32 (st.a:Int)):=aN.cell hBd (nK rfl);have x1:wd.cell? ⟨w.heap.size,1,none⟩=some (.int .u32 (st.b:Int)):=aN.cell hBd (nK rfl);have x2:wd.cell? ⟨w.heap.size,2,none⟩=some (.int .u32 (st.c:Int)):=aN.cell hBd (nK rfl);have x3:wd.cell? ⟨w.heap.size,3,none⟩=some (.int .u32 (st.d:Int)):=aN.cell hBd (nK rfl);have x4:wd.cell? ⟨w.heap.size,4,none⟩=some (.int .u32 (st.e:Int)):=aN.cell hBd (nK rfl);have x5:wd.cell? ⟨w.heap.size,5,none⟩=some (.int .u32 (st.f:Int)):=aN.cell hBd (nK rfl);have x6:wd.cell? ⟨w.heap.size,6,none⟩=some (.int .u32 (st.g:Int)):=aN.cell hBd (nK rfl);have x7:wd.cell? ⟨w.heap.size,7,none⟩=some (.int .u32 (st.h:Int)):=aN.cell hBd (nK rfl);have hR:aI wd 1 (some ⟨w.heap.size,8,none⟩) 64 (b8 (Sha.put blk a ((nb x).take q))):=by
     refine⟨by rw[dU,HPL.out],fun _=>⟨_,_,rfl,fun j u hu=>?_⟩⟩;have hj:j<64:=by have:=(List.getElem?_eq_some_iff.1 hu).1;rw[dU,HPL.out]at this;exact this
     rw[qL _ (by rw[HPL.out];exact hj)]at hu;rw[<-Option.some.inj hu];exact aN.cell hBd (Rt HPL.out hj)
    have hco:=RD st hok (some ⟨w.heap.size,8,none⟩) 64 _ wd hR HPB.out aB aB (HK.out.keep hbd);have hfit:0+(w32 (stL (Sha.comp st (Sha.put blk a ((nb x).take q))))).length<=(bP st (Sha.put blk a ((nb x).take q)) (N+q)).length:=by rw[oQ HPL.out,lG];omega
    have hspl:splice (bP st (Sha.put blk a ((nb x).take q)) (N+q)) 0 (w32 (stL (Sha.comp st (Sha.put blk a ((nb x).take q)))))=bP (Sha.comp st (Sha.put blk a ((nb x).take q))) (Sha.put blk a ((nb x).take q)) (N+q):=Rw _;generalize Sha.put blk a ((nb x).take q)=bl2 at *;generalize Sha.comp st bl2=st2 at *;have HCO:=aA hco;have HWD:=aA hwd;have HBd:=aA hBd;have HZd:=aA hZd;have HFT:=aA hfit;have HSPL:=aA hspl;have hi8:(prog.info? 148).map (·.size)=some (w32 (stL st2)).length:=by rw[lG];kernel_rfl
    have HI8:=aA hi8;clear hco hwd hBd hZd hR hok hfit hspl hi8;refine wp_region_still_tail 4 aG aG ?_;simp only[kM];change wpStill _ _ (w3.setCell ⟨w.heap.size,72,none⟩ (.int .u64 ((N:Int)+q))).drew _ _ _;rw[<-HWD.out];repeat still_step
    refine wpStill_nil ?_;change wpList _ _ _ _ _ (w3.setCell ⟨w.heap.size,72,none⟩ (.int .u64 ((N:Int)+q))).drew;rw[<-HWD.out];clear x0 x1 x2 x3 x4 x5 x6 x7;go_wp2_with (first | (go_at_call 178;refine HCO.out.mono ?_;rintro e w5 ⟨rfl,hb5⟩) | (refine wQ rfl _ _ _ rfl w.heap.size 0 (w32 (stL st2)) rfl rfl _ _ (aN.keep HBd.out hb5) HI8.out HFT.out (uV _) ?_));(try simp only[Act.put,ag]);go_roundw
    case measure =>
     rename_i t2 he2 z t1 he1;have h1:Value.string x=.string t1:=he1;have h2:Value.string (x.extract q (s.size-k))=.string t2:=he2;injection h1 with h1
     injection h2 with h2
     rw[<-h1,<-h2,HXZ.out];omega
    case rel =>
    refine⟨k+q,x.extract q (s.size-k),st2,bl2,Z,aB,rfl,HXZ.out,HXD3,aA ?_,HPB,aA ?_,aA ?_,HZL,?_⟩
    ·rw[HNK.out,<-List.append_assoc];exact HS2.out
    ·rw[HN3.out,<-HSPL.out];exact aN.row (aN.keep HBd.out hb5) _
    ·exact aN.row_far (aN.keep HZd.out hb5) _ _ aB
    ·exact below_setRow (hbd.trans (hb5.mono hbd.size)) (Nat.le_refl _) _
   ·have e2:((a:Int)+q==64)=false:=aP;have hst2:=HST.out.step ((nb x).take q) (by rw[HML.out,HXQ.out];omega);rw[HML.out]at hst2;have HS2:=aA hst2;clear hst2;go_wp2_with fail;refine⟨⟨k+q,x.extract q (s.size-k),st,Sha.put blk a ((nb x).take q),Z,aB,rfl,HXZ.out,HXD3,aA ?_,HPB,aA ?_,HZ4,HZL,hb3.setCell (p:=⟨w.heap.size,72,none⟩) (Nat.le_refl _) _⟩,?_⟩
    ·rw[HNK.out,<-List.append_assoc];exact HS2.out
    ·rw[HN3.out];exact HB4.out
    ·show (x.extract q (s.size-k)).size<x.size;rw[HXZ.out];omega
def Ad(l:List Nat)(w:World)(e:Ending)(w':World):Prop:=∃ A c,e=.returned (.slice A l.length c)/\w'.ownsRow w.heap.size 5 1 (.slice A l.length c) l.length (b8 l)/\aF w w'
theorem Ae:(prog.info? 5).map (fun i=>(i.zero,i.size,i.bytes))=some (some (.int .u8 0),1,1):=by kernel_rfl
theorem Su(y:Nat)(hy:y<256):y|||128=y % 128+128:=by
 have:∀ y:Fin 256,y.val|||128=y.val % 128+128:=aK
 exact this ⟨y,hy⟩
theorem Sv(z:Nat):bits .or .u8 ((z:Int) % 256) 128=((z % 128+128:Nat):Int):=by
 have h:=u8_or_nat (z % 256) 128 (Nat.mod_lt _ aK) aK;rw[Su _ (Nat.mod_lt _ aK),Nat.mod_mod_of_dvd z (by decide:128 ∣ 256)]at h;have e:((z % 256:Nat):Int)=(z:Int) % 256:=aH;rw[e]at h;exact h
theorem Sz(n:Nat)(hn:n<=4611686018427387903):bits .xor .u64 ((n:Int)*2) 0=((2*n:Nat):Int):=by
 have h:=u64_xor_nat (2*n) 0 aB aK;rw[Nat.xor_zero]at h;have e:((2*n:Nat):Int)=(n:Int)*2:=aB;rw[e]at h ⊢;exact h
theorem S9(n:Nat)(w:World)(hn:n<=1000000000000):Calls prog 179 #[.int .i64 (n:Int)] w (Ad (Sha.vint (2*n)) w):=by
 obtain⟨i0,hi,hz0,hz1,hz2⟩:=info_parts Ae;have HI:=aA (And.intro hi (And.intro hz0 (And.intro hz1 hz2)));clear hi hz0 hz1 hz2;have hzz:=Sz n aB;obtain⟨V,hV⟩:∃ V,V=Sha.vint (2*n):=⟨_,rfl⟩;rw[<-hV];have HV:=aA hV;clear hV;have e63:(n:Int) / 9223372036854775808=0:=aB;go_enter func179,ntmps179;go_wp2;go_loopw [3,4] (fun zv ov wr=>∃(f z:Nat)(acc:List Nat)(A:Option Addr)(c:Nat),zv=.int .u64 (z:Int)/\ov=.slice A acc.length c/\z<128 ^ (f+1)/\f<=7/\acc.length+f=7/\Hid (V=acc++Sha.vintF (f+3) z)/\wr.ownsRow w.heap.size 5 1 (.slice A acc.length c) acc.length (b8 acc)/\aF w wr) (fun zv _ _=>(intOf zv).toNat)
 case atStart =>
  refine⟨7,2*n,[],none,0,aH,rfl,aP,aB,rfl,aA ?_,World.ownsRow_nil _ _ _ _,Below.refl _ _⟩;rw[HV.out];rfl
 case round =>
  obtain⟨f,z,acc,A,c,rfl,rfl,hz,hf,hfl,HVA,hown,hbr⟩:=hrel;have hbs:=hbr.size;have hzb:z<128 ^ 8:=Nat.lt_of_lt_of_le hz (Nat.pow_le_pow_right aK aB);have hz0:(0:Int)<=z:=aB;have hor:=Sv z;obtain⟨k,hk⟩:∃ k,k=acc.length:=⟨_,rfl⟩;have hkk:k<=7:=aB;have HKL:=aA hk;rw[<-hk]at hown ⊢;clear hk;by_cases h:z<128
  ·have hV1:V=acc++[z]:=by
    rw[HVA.out];show acc++(if z<128 then [z] else _)=_;rw[if_pos h]
   have d1:decide (127<(z:Int))=false:=aP;have hm:(z:Int) % 256=z:=aB;have HV1:=aA hV1;clear HVA hV1;go_wp2_with (at_builtin;refine wpList_append_own _ rfl _ _ 105 rfl w.heap.size 5 i0 (.int .u8 0) 1 1 underlying105 HI.out.1 HI.out.2.1 HI.out.2.2.1 HI.out.2.2.2 rfl aK _ _ _ rfl (hown.alloc _) ⟨wr.heap.size,0,none⟩ 1 1 [.int .u8 (z:Int)] rfl rfl (cell_one_new _ _ _) jJ dh aB aP ?_;intro v' w3 hown1 hgrow1 _;obtain⟨g1,cap1,rfl⟩:=ownsRow_succ hown1;have hb3:aF w w3:=(hbr.alloc hbs _).grown hgrow1 aP (fun r e=>fE hown r e);have hbs3:=hb3.size;clear hown);go_ret;refine⟨some ⟨g1,0,none⟩,cap1,?_,?_,hb3⟩
   ·rw[HV1.out,List.length_append,<-HKL.out];rfl
   ·rw[HV1.out,List.length_append,<-HKL.out,rQ];exact hown1
  ·have hV1:V=(acc++[z % 128+128])++Sha.vintF (f+2) (z / 128):=by
    rw[HVA.out];show acc++(if z<128 then [z] else (z % 128+128) :: Sha.vintF (f+2) (z / 128))=_;rw[if_neg h,List.append_assoc];rfl
   have d1:decide (127<(z:Int))=true:=aP;have hf0:0<f:=by
    rcases Nat.eq_zero_or_pos f with h0 | h0
    ·subst h0;simp at hz;omega
    ·exact h0
   have hz2:z / 128<128 ^ (f-1+1):=by
    rw[show f-1+1=f by omega];rw[Nat.pow_succ]at hz;exact Nat.div_lt_of_lt_mul (by rw[Nat.mul_comm];exact hz)
   have HV1:=aA hV1;have HZ2:=aA hz2;clear HVA hV1 hz2 hz;go_wp2_with (at_builtin;refine wpList_append_own _ rfl _ _ 105 rfl w.heap.size 5 i0 (.int .u8 0) 1 1 underlying105 HI.out.1 HI.out.2.1 HI.out.2.2.1 HI.out.2.2.2 rfl aK _ _ _ rfl (hown.alloc _) ⟨wr.heap.size,0,none⟩ 1 1 [.int .u8 ((z % 128+128:Nat):Int)] rfl rfl (cell_one_new _ _ _) jJ dh aB aP ?_;intro v' w3 hown1 hgrow1 _;obtain⟨g1,cap1,rfl⟩:=ownsRow_succ hown1;have hb3:aF w w3:=(hbr.alloc hbs _).grown hgrow1 aP (fun r e=>fE hown r e);have hbs3:=hb3.size;clear hown);have hal:(acc++[z % 128+128]).length=k+1:=by rw[List.length_append,<-HKL.out];rfl
   refine⟨⟨f-1,z / 128,acc++[z % 128+128],some ⟨g1,0,none⟩,cap1,aH,by rw[hal],HZ2.out,aB,by rw[hal];have:=HKL.out;omega,aA ?_,?_,hb3⟩,?_⟩
   ·rw[HV1.out,show f-1+3=f+2 by omega]
   ·rw[hal,rQ];exact hown1
   ·simp[intOf];omega
theorem Af{w:World}{base n:Nat}{e:TypeId}{v:Value}{xs:List Value}(h:w.ownsRow base e 1 v n xs):∃ A c,v=.slice A n c:=by
 rcases h.2 with ⟨rfl,hx⟩ | ⟨g,cap,cur,rfl,_⟩
 ·have:=h.1;rw[hx]at this;have hn:n=0:=by simp at this;omega
  subst hn;exact⟨none,0,rfl⟩
 ·exact⟨_,_,rfl⟩
theorem TA(s:aC):Lib.strCells s=b8 (nb s):=Fp s
theorem TB(s:aC)(w:World)(hs:s.size<=1000000000000):Calls prog 119 #[.string s] w (Ad (Sha.wireB (nb s)) w):=by
 obtain⟨i0,hi,hz0,hz1,hz2⟩:=info_parts Ae;have HI:=aA (And.intro hi (And.intro hz0 (And.intro hz1 hz2)));clear hi hz0 hz1 hz2;have hin:=S9 s.size w hs;obtain⟨V,hV⟩:∃ V,V=Sha.vint (2*s.size):=⟨_,rfl⟩;have hW:Sha.wireB (nb s)=V++nb s:=by unfold Sha.wireB;rw[mF,hV]
 rw[<-hV]at hin;rw[hW];have hVl:V.length<=11:=by rw[hV];exact Sha.vint_len _
 obtain⟨k,hk⟩:∃ k,k=V.length:=⟨_,rfl⟩;have hkk:k<=11:=aB;have HKL:=aA hk;unfold Ad at hin;rw[<-hk]at hin;have HIN:=aA hin;clear hin hV hW hVl hk;go_enter func119,ntmps119;go_wp2_with (first | (go_at_call 179;refine HIN.out.mono ?_;rintro e w2 ⟨A,c,rfl,hown,hb2⟩) | (at_builtin;refine Lib.wpList_append_own_string _ rfl _ _ 105 9 rfl w.heap.size 5 i0 underlying105 underlying9 HI.out.1 HI.out.2.1 HI.out.2.2.1 HI.out.2.2.2 _ _ _ rfl hown s rfl dh aB uh ?_;intro v' w3 hown1 hgrow1 _));obtain⟨A',c',rfl⟩:=Af hown1;go_ret;have hl:(V++nb s).length=k+s.size:=by rw[List.length_append,mF,<-HKL.out]
 refine⟨A',c',by rw[hl];rfl,?_,hb2.grown hgrow1 uh (fun r e=>fE hown r e)⟩;rw[hl,rQ,<-TA];exact hown1
def toN(l:List Nat):aC:=⟨(l.map UInt8.ofNat).toArray⟩
theorem xe{l:List Nat}(h:∀ x∈l,x<256):nb (toN l)=l:=by
 unfold nb toN;simp only[List.map_map]
 conv=>rhs;rw[<-List.map_id l]
 apply List.map_congr_left;intro x hx;have:=h x hx;simp[Nat.mod_eq_of_lt this]
theorem xg(l:List Nat):(toN l).size=l.length:=by simp[toN,ByteArray.size]
theorem ui(W:World)(A:Option Addr)(n c:Nat)(l:List Nat)(hl:l.length=n)(h:∀ x∈l,x<256)(hn:0<n)(hR:aI W 1 A n (b8 l)):(convert 105 9 (.slice A n c)).run prog W=.ok (.string (toN l)) W:=by
 obtain⟨b,o,rfl,hc⟩:=hR.2 hn;have hL:(l.map UInt8.ofNat).length=n:=by rw[List.length_map,hl]
 subst hL;refine run_convert_bytes_back W _ _ 5 ⟨b,o,none⟩ c (l.map UInt8.ofNat) underlying105 underlying5 underlying9 (fun j hj=>?_);have hj':j<l.length:=lI;have e:(⟨b,o,none⟩:Addr).add j=⟨b,o+j,none⟩:=nH;rw[e,hc j _ (qL l hj')];have hx:=h l[j] (List.getElem_mem hj');simp[List.getD_eq_getElem?_getD,List.getElem?_eq_getElem hj',Nat.mod_eq_of_lt hx]
theorem Gg{w:World}{base n c:Nat}{A:Option Addr}{xs:List Value}(h:w.ownsRow base 5 1 (.slice A n c) n xs):aI w 1 A n xs:=aI.of_own h
theorem Gh(s:aC)(hs:s.size<=1000000000000):∀ x∈Sha.wireB (nb s),x<256:=by
 intro x hx;unfold Sha.wireB at hx;rcases List.mem_append.1 hx with hx | hx
 ·refine Sha.vintF_lt 10 _ ?_ x hx;rw[mF];exact Nat.lt_of_le_of_lt (by omega:2*s.size<=2000000000000) aK
 ·exact Fj s x hx
def Gi(w:World)(g:Nat)(s:aC)(e:Int):Prop:=Blk w g 187 #[.string s,.int .i64 e] (0,0)
theorem lJ{w:World}{g:Nat}{t:TypeId}{cs:Array Value}(h:Blk w g t cs (0,0))(i:Nat):w.frozen? ⟨g,i,none⟩=false:=by
 unfold Blk at h;simp[World.frozen?,h]
theorem Gi.facts{w:World}{g:Nat}{s:aC}{e:Int}(h:Gi w g s e):w.cell? ⟨g,0,none⟩=some (.string s)/\w.cell? ⟨g,1,none⟩=some (.int .i64 e)/\w.frozen? ⟨g,0,none⟩=false/\w.frozen? ⟨g,1,none⟩=false :=
 ⟨Blk.cell h 0,Blk.cell h 1,lJ h 0,lJ h 1⟩
end Go.Proofs.YtlkbkclnbppigaaGreatDoor
