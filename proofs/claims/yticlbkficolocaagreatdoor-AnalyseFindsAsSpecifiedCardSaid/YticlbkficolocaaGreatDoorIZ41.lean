/- The reference of analyse: Valid, among, before. -/
import Derived.Test.YticlbkficolocaaGreatDoorIZ38
set_option maxHeartbeats 8000000
namespace Go.Proofs.YticlbkficolocaaGreatDoor
open Go.RowKit Go.Sort
set_option linter.unusedVariables false
set_option linter.unusedSimpArgs false
set_option maxRecDepth 100000
theorem Vt (A:Option Addr) (n c:Nat) (L:List Qh) (w:World) (hL:Qs w A n L) (hf:∀ x∈L,Zw x.r) (hn:n≤1000000):Calls Tryz.prog 36 #[.slice A n c] w (Zx w (.bool (Xp L))):=by
 have hl:L.length=n:=hL.len
 obtain⟨V,hV⟩:∃ V,V=Xp L:=⟨_,rfl⟩
 rw[←hV]
 unfold Xp at hV
 have cV:=fun (x:Qh) (hx:x∈L) (W:World) (hb:Below w.heap.size w W)=>rValid22_any x W ((hL.each x hx).keep hb) (hf x hx)
 have cK:=fun (x:Qh) (hx:x∈L) (W:World) (hb:Below w.heap.size w W)=>rCheck23_any x.V x.r.vary.length x.cv x.L W (((hL.each x hx).keep hb).varys) (fits_at (hL.each x hx) (hf x hx)) (hf x hx).nv
 have HL:=Lib.hid hL;have HLN:=Lib.hid hl;have HCV:=Lib.hid cV;have HCK:=Lib.hid cK;have HV:=Lib.hid hV
 clear hL hf cV cK hV
 by_cases h64:64<n
 ·obtain rfl:V=false:=by rw[HV.out,decide_eq_false (by omega)];rfl
  have d:decide ((64:Int)<(n:Int))=true:=decide_eq_true (by omega)
  clear hl
  go_enter Tryz.func36,Tryz.ntmps36
  go_wp2_with fail
  go_ret
  exact⟨rfl,Qz⟩
 have d:decide ((64:Int)<(n:Int))=false:=decide_eq_false (by omega)
 have hv2:V=L.all Xn:=by rw[HV.out,decide_eq_true (by omega),Bool.true_and]
 have HV2:=Lib.hid hv2
 clear hl hv2 HV
 go_enter Tryz.func36,Tryz.ntmps36
 go_wp2_with fail
 go_loopw [3] (fun iv wr=>∃ k:Nat,k≤n∧iv=.int .i64 k∧Hid ((L.take k).all Xn=true)∧Below w.heap.size w wr) (fun iv _=>n-(intOf iv).toNat)
 case atStart=>exact⟨0,by omega,rfl,Lib.hid rfl,Below.refl _ _⟩
 case round =>
  obtain⟨k,hk,rfl,HK,hbr⟩:=hrel
  by_cases hlt:k<n
  ·obtain⟨x,hx⟩:∃ x,L[k]? = some x:=⟨_,List.getElem?_eq_getElem (by have:=HLN.out;omega)⟩
   have hxm:=List.mem_of_getElem? hx
   obtain⟨_,b,o,rfl,hcell⟩:=(HL.out.keep hbr).at_ hx
   have hld:=Uj wr b (o+k*18) x hcell
   have c7:wr.cell? ⟨b,o+k*18+7,none⟩=some (.slice x.V x.r.vary.length x.cv):=hcell 7 _ rfl
   have hcv:=HCV.out x hxm
   have hck:=HCK.out x hxm
   have hro:Xn x=(X0 x.r&&decide (XU x.L=0)):=rfl
   have hbad:Xn x=false→V=false:=fun h=>by
    rw[HV2.out,List.all_eq_false]
    exact⟨x,hxm,by rw[h];decide⟩
   have hgood:Xn x=true→(L.take (k+1)).all Xn=true:=fun h=>by rw[List.take_add_one,hx,List.all_append,HK.out];simp[h]
   have hk0:(0:Int)≤(k:Int):=by omega
   have hk1:(k:Int)<(n:Int):=by omega
   unfold Qh.val at hld hcv
   generalize x.cells.toArray=X at *
   generalize X0 x.r=b1 at *
   generalize XU x.L=e1 at *
   have HLD:=Lib.hid hld;have HBAD:=Lib.hid hbad;have HGOOD:=Lib.hid hgood;have HC7:=Lib.hid c7
   clear hld hcell hx hxm hbad hgood HK c7
   cases b1
   ·obtain rfl:V=false:=HBAD.out (by rw[hro];rfl)
    have HA:=Lib.hid hcv
    clear hcv hck hro
    go_wp2_with (first | (refine Qw rfl _ _ rfl ⟨b,o+k*18,none⟩ (.agg X) rfl HLD.out ?_) | (go_at_call 76;refine (HA.out _ hbr).mono ?_;rintro e w2 ⟨rfl,hb2⟩))
    go_ret
    exact⟨rfl,Qj hbr hb2⟩
   ·have HA:=Lib.hid hcv
    by_cases h0:e1=0
    ·subst h0
     have HG2:=Lib.hid (HGOOD.out (by rw[hro];rfl))
     have HB:=Lib.hid hck
     clear hcv hck hro HGOOD HBAD
     go_wp2_with (first | (refine Qw rfl _ _ rfl ⟨b,o+k*18,none⟩ (.agg X) rfl HLD.out ?_) | (go_at_call 76;refine (HA.out _ hbr).mono ?_;rintro e w2 ⟨rfl,hb2⟩;have c7:=Qq hb2 HC7.out) | (go_at_call 77;refine (HB.out _ (Qj hbr hb2)).mono ?_;rintro e w3 ⟨rfl,hb3⟩))
     exact⟨⟨k+1,by omega,by go_num,HG2,Qj (Qj hbr hb2) hb3⟩,by simp[intOf];omega⟩
    ·obtain rfl:V=false:=HBAD.out (by rw[hro,decide_eq_false h0];rfl)
     have e2:(e1==0)=false:=beq_eq_false_iff_ne.2 h0
     have e3:(e1 != 0)=true:=bne_iff_ne.2 h0
     have HB:=Lib.hid hck
     clear hcv hck hro HGOOD HBAD h0
     go_wp2_with (first | (refine Qw rfl _ _ rfl ⟨b,o+k*18,none⟩ (.agg X) rfl HLD.out ?_) | (go_at_call 76;refine (HA.out _ hbr).mono ?_;rintro e w2 ⟨rfl,hb2⟩;have c7:=Qq hb2 HC7.out) | (go_at_call 77;refine (HB.out _ (Qj hbr hb2)).mono ?_;rintro e w3 ⟨rfl,hb3⟩))
     go_ret
     exact⟨rfl,Qj (Qj hbr hb2) hb3⟩
  ·obtain rfl:V=true:=by
    rw[HV2.out]
    have:=HK.out
    rwa [List.take_of_length_le (by have:=HLN.out;omega)]at this
   clear HK
   go_wp2_with fail
   go_ret
   exact⟨rfl,hbr⟩
structure AmS (w:World) (A:Option Addr) (na:Nat) (B:Option Addr) (nb:Nat) (xs ys:List ByteArray) (W:World):Prop where
 a:Reads W 1 A na (xs.map .string)
 b:Reads W 1 B nb (ys.map .string)
 w:Below w.heap.size w W
theorem AmS.keep {w:World} {A:Option Addr} {na:Nat} {B:Option Addr} {nb:Nat} {xs ys:List ByteArray} {W W':World} (h:AmS w A na B nb xs ys W) (hb:Below W.heap.size W W'):AmS w A na B nb xs ys W':=⟨h.a.keep hb,h.b.keep hb,Qj h.w hb⟩
theorem rAmong24_any (A:Option Addr) (na ca:Nat) (B:Option Addr) (nb cb:Nat) (xs ys:List ByteArray) (w:World) (hA:Reads w 1 A na (xs.map .string)) (hB:Reads w 1 B nb (ys.map .string)) (h1:na≤1000000) (h2:nb≤1000000) :
  Calls Tryz.prog 80 #[.slice A na ca,.slice B nb cb] w (Zx w (.bool (subB xs ys))):=by
 have hla:xs.length=na:=by have:=hA.1;simp at this;omega
 have hlb:ys.length=nb:=by have:=hB.1;simp at this;omega
 obtain⟨V,hV⟩:∃ V,V=subB xs ys:=⟨_,rfl⟩
 rw[←hV]
 have HV:=Lib.hid hV
 have HS:=Lib.hid (AmS.mk (w:=w) hA hB (Below.refl _ _))
 have HLA:=Lib.hid hla;have HLB:=Lib.hid hlb
 clear hV hA hB hla hlb
 go_enter Tryz.func80,Tryz.ntmps80
 go_wp2_with fail
 go_loopw [5] (fun iv wr=>∃ i:Nat,i≤na∧iv=.int .i64 i∧Hid (subB (xs.take i) ys=true)∧Hid (AmS w A na B nb xs ys wr)) (fun iv _=>na-(intOf iv).toNat)
 case atStart=>exact⟨0,by omega,rfl,Lib.hid rfl,HS⟩
 case round =>
  obtain⟨i,hi,rfl,HI,HSr⟩:=hrel
  clear HS
  by_cases hil:i<na
  ·obtain⟨t,ht⟩:∃ t,xs[i]? = some t:=⟨_,List.getElem?_eq_getElem (by have:=HLA.out;omega)⟩
   obtain⟨wo,rfl⟩:∃ wo:World,wo=wr:=⟨_,rfl⟩
   obtain⟨ab,ao,rfl,_⟩:=HSr.out.a.2 (by omega)
   have HT:=Lib.hid ht
   have hi0:(0:Int)≤(i:Int):=by omega
   have hi1:(i:Int)<(na:Int):=by omega
   clear ht
   go_wp2_with fail
   go_loopw [6,7] (fun fv iv wr=>∃ (k:Nat) (fd:Bool),k≤nb∧iv=.int .i64 k∧fv=.bool fd∧Hid (fd=Lib.containsS (ys.take k) t)∧Hid (AmS w (some ⟨ab,ao,none⟩) na B nb xs ys wr)) (fun _ iv _=>nb-(intOf iv).toNat)
   case atStart=>exact⟨0,false,by omega,rfl,rfl,Lib.hid (by rfl),HSr⟩
   case round =>
    obtain⟨k,fd,hk,rfl,rfl,HF,HSk⟩:=hrel
    by_cases hkl:k<nb
    ·obtain⟨u,hu⟩:∃ u,ys[k]? = some u:=⟨_,List.getElem?_eq_getElem (by have:=HLB.out;omega)⟩
     obtain⟨bb,bo,rfl,_⟩:=HSk.out.b.2 (by omega)
     have hcl:∀ W,AmS w (some ⟨ab,ao,none⟩) na (some ⟨bb,bo,none⟩) nb xs ys W→W.cell? ⟨ab,ao+i,none⟩=some (.string t)∧W.cell? ⟨bb,bo+k,none⟩=some (.string u):=fun W hS=>by
      obtain⟨b1,o1,he,hc⟩:=hS.a.2 (by omega)
      injection he with he
      injection he with e1 e2 _
      subst e1;subst e2
      obtain⟨b2,o2,he,hc2⟩:=hS.b.2 (by omega)
      injection he with he
      injection he with e1 e2 _
      subst e1;subst e2
      exact⟨hc i _ (by simp[HT.out]),hc2 k _ (by simp[hu])⟩
     have HCL:=Lib.hid hcl
     obtain⟨eb,heb⟩:∃ eb,eb=(t.toList==u.toList):=⟨_,rfl⟩
     have heb2:=heb.symm
     have hnx:(fd||eb)=Lib.containsS (ys.take (k+1)) t:=by
      rw[List.take_add_one,hu,Bool.eq_iff_iff,Lib.containsS_iff,HF.out,heb,Bool.or_eq_true,Lib.containsS_iff,Yi]
      simp
     have HNX:=Lib.hid hnx
     clear hcl hnx heb hu HF
     have hk0:(0:Int)≤(k:Int):=by omega
     have hk1:(k:Int)<(nb:Int):=by omega
     go_upto_region 8 with fail
     cases fd
     ·skip
      refine Xo 12 (by kernel_rfl) (by kernel_rfl) (by kernel_rfl) (fun q9=>[.bool false,.bool false,.slice (some ⟨ab,ao,none⟩) na ca,.int .i64 i,.pointer (some ⟨ab,ao+i,none⟩),.string t,.slice (some ⟨bb,bo,none⟩) nb cb,.int .i64 k,.pointer (some ⟨bb,bo+k,none⟩),.string u,.bool eb,.bool eb].getD q9 undef) (AmS w (some ⟨ab,ao,none⟩) na (some ⟨bb,bo,none⟩) nb xs ys) (HSk.out.keep (RowKit.Below.drew (RowKit.Below.refl _ _))) (fun _ _ h hb=>h.keep hb) ?_ ?_
      ·simp only[QU,Zj,Act.put]
       refine⟨fun W hS=>?_,fun W hS=>?_,fun W hS=>?_,fun W hS=>?_,fun W hS=>?_,fun W hS=>?_,fun W hS=>?_,fun W hS=>?_,fun W hS=>?_,fun W hS=>?_,fun W hS=>?_,fun W hS=>?_,trivial⟩
       all_goals
        obtain⟨e1,e2⟩:=HCL.out W hS
        go_wp2
        exact⟨rfl,rfl,Qz⟩
      intro w9 hS9
      have HS9:=Lib.hid hS9
      clear hS9 heb2
      simp only[QU,Zj,Act.put]
      go_wp2
      exact⟨⟨k+1,eb,by omega,by go_num,rfl,Lib.hid (by rw[←HNX.out];rfl),HS9⟩,by simp[intOf];omega⟩
     ·skip
      refine Xo 12 (by kernel_rfl) (by kernel_rfl) (by kernel_rfl) (fun q9=>[.bool true,.bool true,undef,undef,undef,undef,undef,undef,undef,undef,undef,.bool true].getD q9 undef) (AmS w (some ⟨ab,ao,none⟩) na (some ⟨bb,bo,none⟩) nb xs ys) (HSk.out.keep (RowKit.Below.drew (RowKit.Below.refl _ _))) (fun _ _ h hb=>h.keep hb) ?_ ?_
      ·simp only[QU,Zj,Act.put]
       refine⟨fun W hS=>?_,fun W hS=>?_,fun W hS=>?_,fun W hS=>?_,fun W hS=>?_,fun W hS=>?_,fun W hS=>?_,fun W hS=>?_,fun W hS=>?_,fun W hS=>?_,fun W hS=>?_,fun W hS=>?_,trivial⟩
       all_goals
        skip
        go_wp2
        exact⟨rfl,rfl,Qz⟩
      intro w9 hS9
      have HS9:=Lib.hid hS9
      clear hS9 heb2
      simp only[QU,Zj,Act.put]
      go_wp2
      exact⟨⟨k+1,true,by omega,by go_num,rfl,Lib.hid (by rw[←HNX.out];rfl),HS9⟩,by simp[intOf];omega⟩
    ·obtain rfl:k=nb:=by omega
     have hf:=HF.out
     rw[List.take_of_length_le (by have:=HLB.out;omega)]at hf
     cases fd
     ·obtain rfl:V=false:=by
       rw[HV.out]
       unfold subB
       rw[List.all_eq_false]
       exact⟨t,List.mem_of_getElem? HT.out,by rw[←hf];decide⟩
      have hbr:=HSk.out.w
      clear hf HF
      go_wp2_with fail
      go_ret
      exact⟨rfl,hbr⟩
     ·have HI2:Hid (subB (xs.take (i+1)) ys=true):=Lib.hid (by
       have h9:=HI.out
       unfold subB at h9 ⊢
       rw[List.take_add_one,HT.out,List.all_append,h9]
       simp[←hf])
      clear hf HF
      go_wp2_with fail
      exact⟨⟨i+1,by omega,by go_num,HI2,HSk⟩,by simp[intOf];omega⟩
  ·obtain rfl:V=true:=by
    rw[HV.out]
    have:=HI.out
    rwa [List.take_of_length_le (by have:=HLA.out;omega)]at this
   have hbr:=HSr.out.w
   clear HI
   go_wp2_with fail
   go_ret
   exact⟨rfl,hbr⟩
structure BeS (w:World) (A:Option Addr) (n:Nat) (L:List Qh) (W:World):Prop where
 l:Qs W A n L
 w:Below w.heap.size w W
theorem BeS.keep {w:World} {A:Option Addr} {n:Nat} {L:List Qh} {W W':World} (h:BeS w A n L W) (hb:Below W.heap.size W W'):BeS w A n L W':=⟨h.l.keep hb,Qj h.w hb⟩
def BefRPost (bs:List ByteArray) (w:World) (e:Ending) (w':World):Prop:=Below w.heap.size w w'∧∃ B d,e=.returned (.slice B bs.length d)∧Reads w' 1 B bs.length (bs.map .string)
theorem rBefore24_any (A:Option Addr) (n c i:Nat) (L:List Qh) (x:Qh) (w:World) (hL:Qs w A n L) (hx:L[i]? = some x) (hn:n≤1000) (hf:∀ y∈L,Zw y.r) :
  Calls Tryz.prog 38 #[.slice A n c,.int .i64 (i:Int)] w (BefRPost (Z5 L x.r.tags i) w):=by
 have hl:L.length=n:=hL.len
 have hin:i<n:=by have:=(List.getElem?_eq_some_iff.1 hx).1;omega
 have hxm:=List.mem_of_getElem? hx
 obtain⟨i0,hi0,hz0,hz1,hz2⟩:=info_parts V4
 have HI:=Lib.hid (And.intro hi0 (And.intro hz0 (And.intro hz1 hz2)))
 have cA:=fun (y:Qh) (hy:y∈L) (W:World) (hW:Qs W A n L)=>rAmong24_any y.T y.r.tags.length y.ct x.T x.r.tags.length x.ct y.r.tags x.r.tags W (hW.each y hy).tags (hW.each x hxm).tags (by have:=(hf y hy).nt;omega) (by have:=(hf x hxm).nt;omega)
 obtain⟨P,hP⟩:∃ P,P=BefRPost (Z5 L x.r.tags i) w:=⟨_,rfl⟩
 rw[←hP]
 have HP:=Lib.hid hP
 have HS:=Lib.hid (BeS.mk (w:=w) hL (Below.refl _ _))
 have HX:=Lib.hid hx;have HCA:=Lib.hid cA;have HLN:=Lib.hid hl
 obtain⟨_,b,o,rfl,_⟩:=hL.at_ hx
 have HL0:=Lib.hid hL
 clear hi0 hz0 hz1 hz2 hP hL cA hf hx hxm hl
 have HO0:=Lib.hid (show w.ownsRow w.heap.size 9 1 (.slice none 0 0) (Z5 L x.r.tags 0).length ((Z5 L x.r.tags 0).map .string) from World.ownsRow_nil _ _ _ _)
 go_enter Tryz.func38,Tryz.ntmps38
 go_wp2_with fail
 go_loopw [5,6] (fun ov iv wr=>∃ (k:Nat) (B:Option Addr) (d:Nat),k≤i∧iv=.int .i64 k∧ov=.slice B (Z5 L x.r.tags k).length d∧Hid (wr.ownsRow w.heap.size 9 1 (.slice B (Z5 L x.r.tags k).length d) (Z5 L x.r.tags k).length ((Z5 L x.r.tags k).map .string))∧Hid (BeS w (some ⟨b,o,none⟩) n L wr)) (fun _ iv _=>i-(intOf iv).toNat)
 case atStart=>exact⟨0,none,0,by omega,rfl,rfl,HO0,HS⟩
 case round =>
  obtain⟨k,B,d,hk,rfl,rfl,HO,HSr⟩:=hrel
  clear HO0
  by_cases hlk:k<i
  ·obtain⟨y,hy⟩:∃ y,L[k]? = some y:=⟨_,List.getElem?_eq_getElem (by have:=HLN.out;omega)⟩
   have hym:=List.mem_of_getElem? hy
   have hcl:∀ W,BeS w (some ⟨b,o,none⟩) n L W→W.cell? ⟨b,o+k*18+2,none⟩=some (.slice y.T y.r.tags.length y.ct)∧W.cell? ⟨b,o+i*18+2,none⟩=some (.slice x.T x.r.tags.length x.ct)∧W.cell? ⟨b,o+k*18+1,none⟩=some (.string y.r.pat):=fun W hS=>by
    obtain⟨_,b1,o1,he,hc⟩:=hS.l.at_ hy
    injection he with he
    injection he with e1 e2 _
    subst e1;subst e2
    obtain⟨_,b2,o2,he,hc2⟩:=hS.l.at_ HX.out
    injection he with he
    injection he with e1 e2 _
    subst e1;subst e2
    exact⟨hc 2 _ rfl,hc2 2 _ rfl,hc 1 _ rfl⟩
   have ham:=fun W (hS:BeS w (some ⟨b,o,none⟩) n L W)=>HCA.out y hym W hS.l
   have hsucc:=befK_succ (ts:=x.r.tags) hy
   have hkl:=Wu L x.r.tags k
   obtain⟨sb,hsb⟩:∃ sb,sb=subB y.r.tags x.r.tags:=⟨_,rfl⟩
   rw[←hsb]at hsucc
   simp only[←hsb]at ham
   have HCL:=Lib.hid hcl;have HAM:=Lib.hid ham;have HSU:=Lib.hid hsucc
   clear hcl ham hsucc hy hym hsb
   have hk0:(0:Int)≤(k:Int):=by omega
   have hk1:(k:Int)<(n:Int):=by omega
   have hi0:(0:Int)≤(i:Int):=by omega
   have hi1:(i:Int)<(n:Int):=by omega
   go_upto_region 5 with fail
   refine Xo 11 (by kernel_rfl) (by kernel_rfl) (by kernel_rfl) (fun q9=>[.slice (some ⟨b,o,none⟩) n c,.int .i64 k,.pointer (some ⟨b,o+k*18,none⟩),.pointer (some ⟨b,o+k*18+2,none⟩),.slice y.T y.r.tags.length y.ct,.slice (some ⟨b,o,none⟩) n c,.int .i64 i,.pointer (some ⟨b,o+i*18,none⟩),.pointer (some ⟨b,o+i*18+2,none⟩),.slice x.T x.r.tags.length x.ct,.bool sb].getD q9 undef) (fun W=>BeS w (some ⟨b,o,none⟩) n L W∧RowKit.Below wr.heap.size wr W) ⟨HSr.out.keep (RowKit.Below.drew (RowKit.Below.refl _ _)),RowKit.Below.drew (RowKit.Below.refl _ _)⟩ (fun _ _ h hb=>⟨h.1.keep hb,Qj h.2 hb⟩) ?_ ?_
   ·simp only[QU,Zj,Act.put]
    refine⟨fun W hS=>?_,fun W hS=>?_,fun W hS=>?_,fun W hS=>?_,fun W hS=>?_,fun W hS=>?_,fun W hS=>?_,fun W hS=>?_,fun W hS=>?_,fun W hS=>?_,fun W hS=>?_,trivial⟩
    rotate_left 10
    ·go_wp2_with (go_at_call 80;refine (HAM.out _ hS.1).mono ?_;rintro e w2 ⟨rfl,hb2⟩)
     exact⟨rfl,rfl,Qz⟩
    all_goals
     obtain⟨e1,e2,e3⟩:=HCL.out W hS.1
     go_wp2
     exact⟨rfl,rfl,Qz⟩
   intro w9 hS9
   have HS9:=Lib.hid hS9.1
   obtain⟨z1,z2,z3⟩:=HCL.out w9 hS9.1
   have HO9:=Lib.hid (Ql HO.out hS9.2)
   have hs9:w.heap.size≤w9.heap.size:=hS9.1.w.size
   clear hS9 HO
   cases sb
   ·have hsu:=HSU.out
    rw[if_neg (by decide)]at hsu
    have HSU2:=Lib.hid hsu
    clear hsu HSU
    simp only[QU,Zj,Act.put]
    go_wp2
    have hsu:=HSU2.out
    exact⟨⟨k+1,B,d,by omega,by go_num,by rw[hsu],by rw[hsu];exact HO9,HS9⟩,by simp[intOf];omega⟩
   ·have hsu:=HSU.out
    rw[if_pos rfl]at hsu
    have hsl:(Z5 L x.r.tags (k+1)).length=(Z5 L x.r.tags k).length+1:=by rw[hsu];simp
    have HSU2:=Lib.hid hsu;have HSL:=Lib.hid hsl
    clear hsu HSU hsl
    simp only[QU,Zj,Act.put]
    go_wp2_with (at_builtin;refine wpList_append_own _ rfl _ _ 22 rfl w.heap.size 9 i0 (.string ⟨#[]⟩) 1 16 Tryz.underlying22 HI.out.1 HI.out.2.1 HI.out.2.2.1 HI.out.2.2.2 rfl (by decide) _ _ _ rfl (HO9.out.alloc _) ⟨w9.heap.size,0,none⟩ 1 1 [.string y.r.pat] rfl rfl (cell_one_new _ _ _) (by simp[Value.oneCell']) (by unfold maxLen;omega) (by omega) (by simp;omega) ?_;intro v' w8 hown' hgrow _;obtain⟨g',cap',rfl⟩:=ownsRow_succ hown')
    have hb8:RowKit.Below w.heap.size w9 w8:=((RowKit.Below.refl w.heap.size w9).alloc (by omega) _).grown hgrow (by simp;omega) (fun r e=>Qu HO9.out r e)
    have hsu:=HSU2.out;have hsl:=HSL.out
    exact⟨⟨k+1,some ⟨g',0,none⟩,cap',by omega,by go_num,by rw[hsl],by rw[hsl,hsu,List.map_append];exact Lib.hid hown',Lib.hid ⟨HL0.out.keep (HS9.out.w.trans hb8),HS9.out.w.trans hb8⟩⟩,by simp[intOf];omega⟩
  ·obtain rfl:k=i:=by omega
   have hre:=Reads.of_own HO.out
   have hbr:=HSr.out.w
   have HRE:=Lib.hid hre
   clear hre HO
   go_wp2_with fail
   rw[HP.out]
   exact⟨hbr,B,d,rfl,HRE.out⟩
end Go.Proofs.YticlbkficolocaaGreatDoor
