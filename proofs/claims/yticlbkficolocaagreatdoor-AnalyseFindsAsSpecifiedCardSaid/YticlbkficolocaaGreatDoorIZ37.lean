/- The bounds of layer 24's first law. -/
import Derived.Test.YticlbkficolocaaGreatDoorIZ35
import Derived.Test.YticlbkficolocaaGreatDoorIZ34
set_option maxHeartbeats 8000000
namespace Go.Proofs.YticlbkficolocaaGreatDoor
open Go.RowKit Go.Sort
set_option linter.unusedVariables false
set_option linter.unusedSimpArgs false
set_option maxRecDepth 100000
def shortB (p:ByteArray) (bs:List ByteArray):Bool:=(bs.all fun b=>decide (b.size≤300))&&(decide (p.size≤300)&&(decide (bs.length≤10)||(decide (64<bs.length)&&decide (bs.length<100))))
theorem short_facts {p:ByteArray} {bs:List ByteArray} (h:shortB p bs=true):(∀ b∈bs,b.size≤300)∧p.size≤300∧(bs.length≤10∨64<bs.length∧bs.length<100):=by
 unfold shortB at h
 simp only[Bool.and_eq_true,Bool.or_eq_true,decide_eq_true_eq,List.all_eq_true]at h
 exact h
theorem short_any (p:ByteArray) (A:Option Addr) (n c:Nat) (bs:List ByteArray) (w:World) (hR:Reads w 1 A n (bs.map .string)) (hn:n≤9223372036854775807) :
  Calls Tryz.prog 4 #[.string p,.slice A n c] w (Zx w (.bool (shortB p bs))):=by
 have hl:bs.length=n:=by have:=hR.1;simpa using this
 obtain⟨Z,hZ⟩:∃ Z,Z=shortB p bs:=⟨_,rfl⟩
 rw[←hZ]
 unfold shortB at hZ
 rw[hl]at hZ
 obtain⟨f,hf⟩:∃ f:ByteArray→Bool,f=fun b=>decide (b.size≤300):=⟨_,rfl⟩
 rw[←hf]at hZ
 obtain⟨V,hV⟩:∃ V,V=bs.all f:=⟨_,rfl⟩
 rw[←hV]at hZ
 have HA:=Lib.hid hR;have HL:=Lib.hid hl;have HV:=Lib.hid hV;have HF:=Lib.hid hf
 have f1:∀ v:Bool,v=Z→Ending.returned (.bool v)=Ending.returned (.bool Z):=fun v h=>by rw[h]
 have F1:=Lib.hid f1;have HZ:=Lib.hid hZ
 clear hR hl hV hf f1 hZ
 go_enter Tryz.func4,Tryz.ntmps4
 go_wp2
 go_loopw [5] (fun i wr=>∃ k:Nat,k≤n∧i=.int .i64 k∧Hid (V=(bs.drop k).all f)∧Below w.heap.size w wr) (fun i _=>n-(intOf i).toNat)
 case atStart=>exact⟨0,by omega,rfl,Lib.hid (by rw[HV.out];rfl),Below.refl _ _⟩
 case round =>
  obtain⟨k,hk,rfl,HI,hb⟩:=hrel
  by_cases hlt:k<n
  ·obtain⟨b,o,u,rfl,hu,hcell⟩:=(HA.out.keep hb).at_ hlt
   obtain⟨x,hx,rfl⟩:=JJ hu
   have hk0:(0:Int)≤(k:Int):=by omega
   have hk1:(k:Int)<(n:Int):=by omega
   clear hu
   by_cases hz:x.size≤300
   ·have hpx:f x=true:=by rw[HF.out];exact decide_eq_true hz
    have hVs:V=(bs.drop (k+1)).all f:=by rw[HI.out];exact all_step _ _ _ _ hx hpx
    have HI2:=Lib.hid hVs
    clear hx hpx hVs
    go_wp2
    exact⟨⟨k+1,by omega,by go_num,HI2,hb⟩,by simp[intOf];omega⟩
   ·have hpx:f x=false:=by rw[HF.out];exact decide_eq_false hz
    have hVf:V=false:=by rw[HI.out];exact all_stop _ _ _ _ hx hpx
    subst hVf
    clear hx hpx
    go_wp2
    go_ret
    exact⟨F1.out _ (by rw[HZ.out,Bool.false_and]),hb⟩
  ·have hVt:V=true:=by rw[HI.out,List.drop_eq_nil_of_le (by have:=HL.out;omega)];rfl
   subst hVt
   rcases Nat.lt_or_ge 300 p.size with h1 | h1
   ·go_wp2
    go_ret
    exact⟨F1.out _ (by rw[HZ.out,Bool.eq_iff_iff];simp;omega),hb⟩
   ·rcases Nat.lt_or_ge 10 n with h2 | h2
    ·rcases Nat.lt_or_ge 64 n with h3 | h3
     ·go_wp2
      go_ret
      exact⟨F1.out _ (by rw[HZ.out,Bool.eq_iff_iff];simp;omega),hb⟩
     ·go_wp2
      go_ret
      exact⟨F1.out _ (by rw[HZ.out,Bool.eq_iff_iff];simp;omega),hb⟩
    ·go_wp2
     go_ret
     exact⟨F1.out _ (by rw[HZ.out,Bool.eq_iff_iff];simp;omega),hb⟩
structure CkS (w:World) (PL:Array Value) (W:World):Prop where
 p:Zl W w.heap.size 25 PL
 b:Below w.heap.size w W
theorem CkS.keep {w W W':World} {PL:Array Value} (h:CkS w PL W) (hb:Below W.heap.size W W'):CkS w PL W':=⟨h.p.keep hb,Qj h.b hb⟩
theorem hasN_take (L:List Qh) (nm:ByteArray):∀ k,Yk (Vw L k) nm=(L.take k).any fun x=>decide (nm.data.toList=x.r.name.data.toList):=by
 intro k
 unfold Yk Vw
 rw[List.any_reverse,List.any_map]
 rfl
theorem rCheck22_any (cust:ByteArray) (party:Int) (A:Option Addr) (n c:Nat) (L:List Qh) (w:World) (hL:Qs w A n L) (hf:∀ x∈L,Zw x.r) (hcs:cust.size≤100000) :
  Calls Tryz.prog 41 #[polV cust party A n c] w (Zx w (.int .i64 (Ju cust party (L.map (·.r))))):=by
 have hl:L.length=n:=hL.len
 have cN:=fun (W:World)=>Ue cust W (by omega)
 have cV:=fun (x:Qh) (hx:x∈L) (W:World) (hb:Below w.heap.size w W)=>rValid22_any x W ((hL.each x hx).keep hb) (hf x hx)
 have cB:=fun (x:Qh) (hx:x∈L) (W:World)=>rBegins_any x.r.pat cust W (by have:=(hf x hx).pat;omega) hcs
 unfold polV
 by_cases hn1:Qy cust=false∨party<1∨1073741824<party
 ·have e1:Ju cust party (L.map (·.r))=1:=by unfold Ju;rw[if_pos hn1]
  rw[e1]
  clear e1 hL hf cV cB
  cases hnm:Qy cust
  ·rw[hnm]at cN
   have HN:=Lib.hid cN
   clear cN hnm hn1
   go_enter Tryz.func41,Tryz.ntmps41
   go_wp2_with (first | (go_at_call 73;refine (HN.out _).mono ?_;rintro e w2 ⟨rfl,hb2⟩;have B2:Zl w2 w.heap.size 25 #[.string cust,.int .i64 party,.slice A n c]:=Zl.keep (heap_alloc_new w _) hb2;have y0:w2.cell? ⟨w.heap.size,0,none⟩=some (.string cust):=B2.cell rfl;have y1:w2.cell? ⟨w.heap.size,1,none⟩=some (.int .i64 party):=B2.cell rfl;have y2:w2.cell? ⟨w.heap.size,2,none⟩=some (.slice A n c):=B2.cell rfl))
   go_ret
   exact⟨rfl,Qz⟩
  ·have hn2:party<1∨1073741824<party:=hn1.resolve_left (by rw[hnm];simp)
   rw[hnm]at cN
   have HN:=Lib.hid cN
   clear cN hnm hn1
   by_cases hp1:party<1
   ·clear hn2
    go_enter Tryz.func41,Tryz.ntmps41
    go_wp2_with (first | (go_at_call 73;refine (HN.out _).mono ?_;rintro e w2 ⟨rfl,hb2⟩;have B2:Zl w2 w.heap.size 25 #[.string cust,.int .i64 party,.slice A n c]:=Zl.keep (heap_alloc_new w _) hb2;have y0:w2.cell? ⟨w.heap.size,0,none⟩=some (.string cust):=B2.cell rfl;have y1:w2.cell? ⟨w.heap.size,1,none⟩=some (.int .i64 party):=B2.cell rfl;have y2:w2.cell? ⟨w.heap.size,2,none⟩=some (.slice A n c):=B2.cell rfl))
    go_ret
    exact⟨rfl,Qz⟩
   ·have hp2:1073741824<party:=hn2.resolve_left hp1
    clear hn2
    go_enter Tryz.func41,Tryz.ntmps41
    go_wp2_with (first | (go_at_call 73;refine (HN.out _).mono ?_;rintro e w2 ⟨rfl,hb2⟩;have B2:Zl w2 w.heap.size 25 #[.string cust,.int .i64 party,.slice A n c]:=Zl.keep (heap_alloc_new w _) hb2;have y0:w2.cell? ⟨w.heap.size,0,none⟩=some (.string cust):=B2.cell rfl;have y1:w2.cell? ⟨w.heap.size,1,none⟩=some (.int .i64 party):=B2.cell rfl;have y2:w2.cell? ⟨w.heap.size,2,none⟩=some (.slice A n c):=B2.cell rfl))
    go_ret
    exact⟨rfl,Qz⟩
 ·have e0:Qy cust=true∧1≤party∧party≤1073741824:=by
   refine⟨?_,?_,?_⟩
   ·cases h:Qy cust
    ·exact absurd (.inl h) hn1
    ·rfl
   ·exact Int.not_lt.1 (fun h=>hn1 (.inr (.inl h)))
   ·exact Int.not_lt.1 (fun h=>hn1 (.inr (.inr h)))
  obtain⟨hnm,hp1,hp2⟩:=e0
  have e1:Ju cust party (L.map (·.r))=if 64<n then 2 else U6 cust (L.map (·.r)) []:=by unfold Ju;rw[if_neg hn1,List.length_map,hl]
  rw[e1]
  have hcut:=fun (p:ByteArray)=>begB_cut (p:=p) hnm
  rw[hnm]at cN
  clear e1 hn1 hnm
  have HN:=Lib.hid cN
  have q1:decide (party<1)=false:=decide_eq_false (by omega)
  have q2:decide (1073741824<party)=false:=decide_eq_false (by omega)
  by_cases h64:64<n
  ·rw[if_pos h64]
   have q3:decide ((64:Int)<(n:Int))=true:=decide_eq_true (by omega)
   clear hL hf cV cB cN hl hcut
   go_enter Tryz.func41,Tryz.ntmps41
   go_wp2_with (first | (go_at_call 73;refine (HN.out _).mono ?_;rintro e w2 ⟨rfl,hb2⟩;have B2:Zl w2 w.heap.size 25 #[.string cust,.int .i64 party,.slice A n c]:=Zl.keep (heap_alloc_new w _) hb2;have y0:w2.cell? ⟨w.heap.size,0,none⟩=some (.string cust):=B2.cell rfl;have y1:w2.cell? ⟨w.heap.size,1,none⟩=some (.int .i64 party):=B2.cell rfl;have y2:w2.cell? ⟨w.heap.size,2,none⟩=some (.slice A n c):=B2.cell rfl))
   go_ret
   exact⟨rfl,Qz⟩
  rw[if_neg h64]
  have q3:decide ((64:Int)<(n:Int))=false:=decide_eq_false (by omega)
  obtain⟨V,hV⟩:∃ V,V=U6 cust (L.map (·.r)) []:=⟨_,rfl⟩
  rw[←hV]
  have HV:=Lib.hid hV;have HL:=Lib.hid hL;have HLN:=Lib.hid hl;have HCV:=Lib.hid cV;have HCB:=Lib.hid cB;have HCUT:=Lib.hid hcut
  clear hV hL hl cV cB hf cN hcut
  go_enter Tryz.func41,Tryz.ntmps41
  go_upto_region 6 with (first | (go_at_call 73;refine (HN.out _).mono ?_;rintro e w2 ⟨rfl,hb2⟩;have B2:Zl w2 w.heap.size 25 #[.string cust,.int .i64 party,.slice A n c]:=Zl.keep (heap_alloc_new w _) hb2;have y0:w2.cell? ⟨w.heap.size,0,none⟩=some (.string cust):=B2.cell rfl;have y1:w2.cell? ⟨w.heap.size,1,none⟩=some (.int .i64 party):=B2.cell rfl;have y2:w2.cell? ⟨w.heap.size,2,none⟩=some (.slice A n c):=B2.cell rfl))
  obtain⟨PL,hPL⟩:∃ PL:Array Value,PL=#[.string cust,.int .i64 party,.slice A n c]:=⟨_,rfl⟩
  rw[←hPL]at B2
  have HC0:=Lib.hid (show PL[0]? = some (.string cust) by rw[hPL];rfl)
  have HC2:=Lib.hid (show PL[2]? = some (.slice A n c) by rw[hPL];rfl)
  have HS0:=Lib.hid (CkS.mk B2 (show Below w.heap.size w w2 from Qz))
  clear hPL B2 hb2 y0 y1 y2 q1 q2 q3 hp1 hp2
  have y2:=HS0.out.p.cell HC2.out
  go_wp2_with fail
  clear y2
  go_loopw [4] (fun iv wr=>∃ k:Nat,k≤n∧iv=.int .i64 k∧Hid (V=U6 cust ((L.drop k).map (·.r)) (Vw L k))∧Hid (CkS w PL wr)) (fun iv _=>n-(intOf iv).toNat)
  case atStart=>exact⟨0,by omega,rfl,Lib.hid (by rw[HV.out];rfl),HS0⟩
  case round =>
   obtain⟨k,hk,rfl,HI,HS⟩:=hrel
   clear HS0
   have y2:=HS.out.p.cell HC2.out
   have y0:=HS.out.p.cell HC0.out
   by_cases hlt:k<n
   ·obtain⟨x,hx⟩:∃ x,L[k]? = some x:=⟨_,List.getElem?_eq_getElem (by have:=HLN.out;omega)⟩
    obtain⟨_,b,o,rfl,hcell⟩:=(HL.out.keep HS.out.b).at_ hx
    have hld:=Uj wr b (o+k*18) x hcell
    have hd:L.drop k=x :: L.drop (k+1):=by
     obtain⟨hl2,rfl⟩:=List.getElem?_eq_some_iff.1 hx
     exact List.drop_eq_getElem_cons hl2
    have hVA:=HI.out
    rw[hd,List.map_cons,U6]at hVA
    have hsucc:=namesK_succ hx
    have hxm:=List.mem_of_getElem? hx
    have hval:=HCV.out x hxm
    have hbg:=HCB.out x hxm
    rw[HCUT.out]at hbg
    have hk0:(0:Int)≤(k:Int):=by omega
    have hk1:(k:Int)<(n:Int):=by omega
    have hcl:∀ (m:Nat) (y:Qh),L[m]? = some y→∀ W,Below w.heap.size w W→∀ j u,y.cells[j]? = some u→W.cell? ⟨b,o+m*18+j,none⟩=some u:=by
     intro m y hy W hb
     obtain⟨_,b',o',e,hc⟩:=(HL.out.keep hb).at_ hy
     injection e with e
     injection e with e1 e2
     subst e1;subst e2
     exact hc
    have HCL:=Lib.hid hcl
    have hpat:∀ W,Below w.heap.size w W→W.cell? ⟨b,o+k*18+1,none⟩=some (.string x.r.pat):=fun W hb=>hcl k x hx W hb 1 _ rfl
    have hnam:∀ W,Below w.heap.size w W→W.cell? ⟨b,o+k*18,none⟩=some (.string x.r.name):=fun W hb=>by have:=hcl k x hx W hb 0 _ rfl;rwa [Nat.add_zero]at this
    have hht:=hasN_take L x.r.name k
    unfold Qh.val at hld hval
    generalize x.cells.toArray=X at *
    generalize sameB (cutB x.r.pat) cust=bg at *
    generalize X0 x.r=vb at *
    generalize x.r.pat=pt at *
    generalize x.r.name=nm at *
    generalize Yk (Vw L k) nm=sb at *
    have HLD:=Lib.hid hld;have HSU:=Lib.hid hsucc;have HVAL:=Lib.hid hval;have HBG:=Lib.hid hbg;have HPAT:=Lib.hid hpat;have HNAM:=Lib.hid hnam;have HHT:=Lib.hid hht
    clear hld hsucc hval hbg hpat hnam hht hd hcell hx hxm hcl HI
    cases vb
    ·rw[if_pos rfl]at hVA
     subst hVA
     go_wp2_with (first | (refine Qw rfl 57 _ rfl ⟨b,o+k*18,none⟩ (.agg X) rfl HLD.out ?_) | (go_at_call 76;refine (HVAL.out _ HS.out.b).mono ?_;rintro e w3 ⟨rfl,hb3⟩;have hS3:=HS.out.keep hb3))
     go_ret
     exact⟨rfl,hS3.b⟩
    rw[if_neg (by simp)]at hVA
    have HVA:=Lib.hid hVA
    clear hVA
    go_upto_region 12 with (first | (refine Qw rfl 57 _ rfl ⟨b,o+k*18,none⟩ (.agg X) rfl HLD.out ?_) | (go_at_call 76;refine (HVAL.out _ HS.out.b).mono ?_;rintro e w3 ⟨rfl,hb3⟩;have hS3:=HS.out.keep hb3))
    have HS3:=Lib.hid hS3
    clear hS3 y0 y2 HLD HVAL hb3
    refine Xo 10 (by kernel_rfl) (by kernel_rfl) (by kernel_rfl) (fun i=>[.pointer (some ⟨w.heap.size,2,none⟩),.slice (some ⟨b,o,none⟩) n c,.int .i64 k,.pointer (some ⟨b,o+k*18,none⟩),.pointer (some ⟨b,o+k*18+1,none⟩),.string pt,.pointer (some ⟨w.heap.size,0,none⟩),.string cust,.bool bg,.bool (!bg)].getD i undef) (CkS w PL) (HS3.out.keep (Below.drew (Below.refl _ _))) (fun _ _ h hb=>h.keep hb) ?_ ?_
    ·simp only[QU,Zj,Act.put]
     refine⟨fun W hS=>?_,fun W hS=>?_,fun W hS=>?_,fun W hS=>?_,fun W hS=>?_,fun W hS=>?_,fun W hS=>?_,fun W hS=>?_,fun W hS=>?_,fun W hS=>?_,trivial⟩
     all_goals
      have hbw:=hS.b
      have y0:=hS.p.cell HC0.out
      have y2:=hS.p.cell HC2.out
      have yp:=HPAT.out _ hbw
      go_wp2_with (go_at_call 83;refine (HBG.out _).mono ?_;rintro e w2 ⟨rfl,hb2⟩)
      exact⟨rfl,rfl,Qz⟩
    intro w4 hS4
    have hb4:=hS4.b
    have HS4:=Lib.hid hS4
    clear hS4 HS3 HBG HPAT
    simp only[QU,Zj,Act.put]
    have hVA:=HVA.out
    cases bg
    ·rw[if_pos rfl]at hVA
     subst hVA
     go_wp2_with fail
     go_ret
     exact⟨rfl,hb4⟩
    rw[if_neg (by simp)]at hVA
    have HVB:=Lib.hid hVA
    clear hVA HVA hb4
    go_wp2_with fail
    obtain⟨wo,rfl⟩:∃ wo:World,wo=wr:=⟨_,rfl⟩
    go_loopw [5] (fun iv wr=>∃ m:Nat,m≤k∧iv=.int .i64 m∧Hid (((L.take m).any fun x=>decide (nm.data.toList=x.r.name.data.toList))=false)∧Hid (CkS w PL wr)) (fun iv _=>k-(intOf iv).toNat)
    case atStart=>exact⟨0,by omega,rfl,Lib.hid rfl,HS4⟩
    case round =>
     obtain⟨m,hm,rfl,HNO,HSr⟩:=hrel
     clear HS4 HS
     have y2:=HSr.out.p.cell HC2.out
     have hbr:=HSr.out.b
     by_cases hmk:m<k
     ·obtain⟨y,hy⟩:∃ y,L[m]? = some y:=⟨_,List.getElem?_eq_getElem (by have:=HLN.out;omega)⟩
      have c1:wr.cell? ⟨b,o+m*18,none⟩=some (.string y.r.name):=by have:=HCL.out m y hy wr hbr 0 _ rfl;rwa [Nat.add_zero]at this
      have c2:=HNAM.out wr hbr
      have hm0:(0:Int)≤(m:Int):=by omega
      have hm1:(m:Int)<(n:Int):=by omega
      have dm:decide ((m:Int)<(k:Int))=true:=decide_eq_true (by omega)
      have htk:((L.take (m+1)).any fun x=>decide (nm.data.toList=x.r.name.data.toList))=decide (nm.data.toList=y.r.name.data.toList):=by
       rw[List.take_add_one,hy,List.any_append,HNO.out]
       simp
      have hmem:decide (nm.data.toList=y.r.name.data.toList)=true→sb=true:=fun h=>by
       rw[HHT.out,List.any_eq_true]
       exact⟨y,List.mem_of_getElem? (by rw[List.getElem?_take_of_lt hmk];exact hy),h⟩
      generalize y.r.name=ny at *
      have heq:(ny.toList==nm.toList)=decide (nm.data.toList=ny.data.toList):=by
       rw[toL,toL,Bool.eq_iff_iff,beq_iff_eq,decide_eq_true_eq]
       exact eq_comm
      have HTK:=Lib.hid htk;have HMEM:=Lib.hid hmem
      clear htk hmem hy
      cases hd:decide (nm.data.toList=ny.data.toList)
      ·rw[hd]at heq
       rw[hd]at HTK
       clear hd HMEM
       go_wp2_with fail
       go_quiet (fail)
       go_wp2
       exact⟨⟨m+1,by omega,by go_num,Lib.hid HTK.out,Lib.hid (HSr.out.keep (bdrewN (Below.refl _ _) _))⟩,by simp[intOf];omega⟩
      ·rw[hd]at heq
       have hsb:=HMEM.out hd
       have hV:=HVB.out
       rw[if_pos hsb]at hV
       clear hd HMEM hsb
       subst hV
       go_wp2_with fail
       go_quiet (fail)
       go_wp2
       go_ret
       exact⟨rfl,Qz⟩
     ·have hmk2:m=k:=by omega
      have hsb:sb=false:=by
       rw[HHT.out,←hmk2]
       exact HNO.out
      have hV:=HVB.out
      rw[if_neg (by rw[hsb];simp)]at hV
      have dm:decide ((m:Int)<(k:Int))=false:=decide_eq_false (by omega)
      have HV2:=Lib.hid (show V=U6 cust ((L.drop (k+1)).map (·.r)) (Vw L (k+1)) by rw[HSU.out];exact hV)
      generalize (m:Int)=mI at *
      clear hV hsb hmk2 hmk hm HNO y2
      go_wp2_with fail
      exact⟨⟨k+1,by omega,by go_num,HV2,HSr⟩,by simp[intOf];omega⟩
   ·have hVz:V=0:=by rw[HI.out,List.drop_eq_nil_of_le (by have:=HLN.out;omega)];rfl
    have hbr:=HS.out.b
    subst hVz
    go_wp2_with fail
    go_ret
    exact⟨rfl,hbr⟩
end Go.Proofs.YticlbkficolocaaGreatDoor
