/- What 'Match' returns. -/
import Derived.Test.YtlkbkclnbppigaaGreatDoorIZ15
set_option maxHeartbeats 4000000
namespace Go.Proofs.YtlkbkclnbppigaaGreatDoor
open Go.RowKit Go.Sort
set_option linter.unusedVariables false
set_option linter.unusedSimpArgs false
set_option maxRecDepth 100000
structure PatGood (p:Pat):Prop where
 kind:p.cust.kind≤2
 text:p.cust.text.size≤100000
 parts:PartsOk p.parts
 num:p.parts.length≤32
theorem cmpL_good:∀ (l:List ByteArray) (acc:List Part) (r:List Part × Bool),(∀ x∈l,x.size≤100000)→PartsOk acc→cmpL l acc=some r→PartsOk r.1∧r.1.length≤acc.length+l.length
 | [],acc,r,_,h,e=>by simp[cmpL]at e;subst e;exact⟨h,by simp⟩
 | w :: l,acc,r,hl,h,e=>by
  rw[cmpL]at e
  split at e
  ·injection e with e;subst e;exact⟨h,by simp⟩
  ·split at e
   ·have hw:=hl w (by simp)
    have:=cmpL_good l (acc++[partOfP w]) r (fun x hx=>hl x (by simp[hx])) (by
     intro x hx
     rcases List.mem_append.1 hx with hx | hx
     ·exact h x hx
     ·rw[List.mem_singleton.1 hx]
      exact⟨partOfP_kind w,Nat.le_trans (partOfP_size w) hw⟩) e
    refine⟨this.1,?_⟩
    have h2:=this.2
    simp at h2 ⊢;omega
   ·cases e
theorem compile_good (s:ByteArray) (hs:s.size≤100000) (p:Pat) (h:compileB s=some p):PatGood p:=by
 unfold compileB at h
 have hsz:=splitB_size 47 s
 generalize splitB 47 s=l at *
 cases l with
 | nil=>cases h
 | cons l0 r =>
  simp only[compL]at h
  split at h
  ·rename_i hc
   rw[Bool.and_eq_true,decide_eq_true_eq]at hc
   cases hq:cmpL r [] with
   | none=>rw[hq]at h;cases h
   | some x =>
    rw[hq,Option.map_some]at h
    injection h with h
    subst h
    have h0:=hsz l0 (by simp)
    have:=cmpL_good r [] x (fun y hy=>Nat.le_trans (hsz y (by simp[hy])) hs) (fun y hy=>by cases hy) hq
    exact⟨partOfP_kind l0,by have:=partOfP_size l0;show (partOfP l0).text.size≤_;omega,this.1,by have h1:=hc.1;have h2:=this.2;show x.1.length≤32;simp at h2;omega⟩
  ·cases h
def matchesL:List Part→List ByteArray→Bool
 | [],_=>true
 | p :: ps,w :: ws=>hasP p.kind p.text w&&matchesL ps ws
 | _ :: _,[]=>false
def matchP (x:Pat) (a:Adr):Bool :=
 hasP x.cust.kind x.cust.text a.cust&&!decide (a.path.length<x.parts.length)&&!(decide (x.parts.length<a.path.length)&&!x.tail)&&matchesL x.parts a.path
def matchB (p q:ByteArray):Bool:=match compileB p with
 | none=>false
 | some x=>readB q&&matchP x (parseB q).1
theorem match_any (p q:ByteArray) (w:World) (hp:p.size≤100000) (hq:q.size≤100000) (hE:Env w):Calls Tryz.prog 86 #[.string p,.string q] w (Ret w (.bool (matchB p q))):=by
 have c1:=fun W h=>compile_any p W hp h
 have c2:=fun W h=>read_any q W (by omega) h
 have hg:=compile_good p hp
 unfold matchB
 have hcs:(parseB q).1.cust.size≤100000∧(parseB q).1.path.length≤32∧∀ x∈(parseB q).1.path,x.size≤64:=by
  rcases parse_errno q with h | h | h
  ·have:=parse_good q h
   exact⟨by have:=size_of_name this.name;omega,this.parts,fun x hx=>size_of_word (this.words x hx)⟩
  all_goals rw[parse_err q (by omega)];exact⟨by decide,by decide,by simp[noAdr]⟩
 generalize compileB p=r at *
 generalize readB q=k2 at *
 generalize (parseB q).1=a at *
 obtain⟨ac,ap,aq⟩:=a
 dsimp only at hcs
 obtain⟨hac,hap,hapz⟩:=hcs
 have HD:=Lib.hid c2
 have HC:=Lib.hid c1
 clear c1 c2
 cases r with
 | none =>
  clear hg
  dsimp only
  go_enter Tryz.func86,Tryz.ntmps86
  go_wp2_with (first | (go_at_call 147;refine (HC.out _ hE).mono ?_;rintro e w1 ⟨hb1,k,t,A,n,c,b,rfl⟩) | (go_at_call 148;refine (HD.out _ (Env.keep (Env.keep hE hb1) (balloc (Below.refl _ _) _))).mono ?_;rintro e w2 ⟨hb2,B,cb,D,cd,rfl,hRq,_⟩;obtain⟨hc2,hf2⟩:=bcell hb2;have hz2:w1.heap.size<w2.heap.size:=(by have:=hb2.size;simp at this;omega)))
  go_ret
  exact⟨rfl,belB⟩
 | some x =>
  obtain⟨h1,h2,h3,h4⟩:=hg x rfl
  clear hg
  obtain⟨⟨kd,tx⟩,ps,tl⟩:=x
  dsimp only at h1 h2 h3 h4 ⊢
  unfold matchP
  dsimp only
  obtain⟨n,hn⟩:∃ n,n=ps.length:=⟨_,rfl⟩
  obtain⟨na,hna⟩:∃ na,na=ap.length:=⟨_,rfl⟩
  rw[←hn,←hna]
  have HC':Hid (∀ W,Env W→Calls Tryz.prog 147 #[.string p] W fun e w'=>Below W.heap.size W w'∧∃ A c,e=.returned (.tuple #[.agg #[.int .i64 kd,.string tx,.slice A n c,.bool tl],.bool true])∧Reads w' 2 A n (partCells ps)):=Lib.hid (fun W h=>by rw[hn];exact (HC.out W h).mono (by rintro e w' ⟨hb,A,c,rfl,hR,_⟩;exact⟨hb,A,c,rfl,hR⟩))
  have HD':Hid (∀ W,Env W→Calls Tryz.prog 148 #[.string q] W fun e w'=>Below W.heap.size W w'∧∃ B cb D cd,e=.returned (.tuple #[.agg #[.string ac,.slice B na cb,.slice D aq.length cd],.bool k2])∧Reads w' 1 B na (ap.map .string)∧True):=Lib.hid (fun W h=>(HD.out W h).mono (by
   rintro e w' ⟨hb,A,ca,B,cb,rfl,h5,h6⟩;rw[hna];exact⟨hb,A,ca,B,cb,rfl,h5,trivial⟩))
  have HN:=Lib.hid hn
  have HNA:=Lib.hid hna
  rw[←hn]at h4
  rw[←hna]at hap
  clear HC HD hn hna
  have HC:=HC';have HD:=HD'
  clear HC' HD'
  have cH:=fun W=>has_any kd tx ac W (by omega) (by omega) h1
  generalize hasP kd tx ac=k3 at *
  have HH:=Lib.hid cH
  clear cH
  cases k2
  ·simp only[Bool.false_and]
   go_enter Tryz.func86,Tryz.ntmps86
   go_wp2_with (first | (go_at_call 147;refine (HC.out _ hE).mono ?_;rintro e w1 ⟨hb1,A,c,rfl,hRp⟩) | (go_at_call 148;refine (HD.out _ (Env.keep (Env.keep hE hb1) (balloc (Below.refl _ _) _))).mono ?_;rintro e w2 ⟨hb2,B,cb,D,cd,rfl,hRq,_⟩;obtain⟨hc2,hf2⟩:=bcell hb2;have hz2:w1.heap.size<w2.heap.size:=(by have:=hb2.size;simp at this;omega)))
   go_ret
   exact⟨rfl,belB⟩
  cases k3
  ·simp only[Bool.false_and,Bool.and_false]
   go_enter Tryz.func86,Tryz.ntmps86
   go_wp2_with (first | (go_at_call 147;refine (HC.out _ hE).mono ?_;rintro e w1 ⟨hb1,A,c,rfl,hRp⟩) | (go_at_call 148;refine (HD.out _ (Env.keep (Env.keep hE hb1) (balloc (Below.refl _ _) _))).mono ?_;rintro e w2 ⟨hb2,B,cb,D,cd,rfl,hRq,_⟩;obtain⟨hc2,hf2⟩:=bcell hb2;have hz2:w1.heap.size<w2.heap.size:=(by have:=hb2.size;simp at this;omega)) | (go_at_call 149;refine (HH.out _).mono ?_;rintro e w3 ⟨rfl,hb3⟩;obtain⟨hc3,hf3⟩:=bcell hb3;have hz3:w2.heap.size<w3.heap.size:=(by have:=hb3.size;simp at this;omega)))
   go_ret
   exact⟨rfl,belB⟩
  by_cases hlt:na<n
  ·have hd1:decide ((na:Int)<(n:Int))=true:=by simp;omega
   rw[show decide (na<n)=true by simpa using hlt]
   simp only[Bool.not_true,Bool.and_false,Bool.false_and]
   go_enter Tryz.func86,Tryz.ntmps86
   go_wp2_with (first | (go_at_call 147;refine (HC.out _ hE).mono ?_;rintro e w1 ⟨hb1,A,c,rfl,hRp⟩) | (go_at_call 148;refine (HD.out _ (Env.keep (Env.keep hE hb1) (balloc (Below.refl _ _) _))).mono ?_;rintro e w2 ⟨hb2,B,cb,D,cd,rfl,hRq,_⟩;obtain⟨hc2,hf2⟩:=bcell hb2;have hz2:w1.heap.size<w2.heap.size:=(by have:=hb2.size;simp at this;omega)) | (go_at_call 149;refine (HH.out _).mono ?_;rintro e w3 ⟨rfl,hb3⟩;obtain⟨hc3,hf3⟩:=bcell hb3;have hz3:w2.heap.size<w3.heap.size:=(by have:=hb3.size;simp at this;omega)))
   go_ret
   exact⟨rfl,belB⟩
  have hd1:decide ((na:Int)<(n:Int))=false:=by simp;omega
  rw[show decide (na<n)=false by simpa using hlt]
  simp only[Bool.not_false,Bool.and_true,Bool.true_and]
  have hrest:(n<na∧tl=false)∨(¬ n<na)∨(n<na∧tl=true):=by cases tl <;> simp <;> omega
  rcases hrest with ⟨hgt,rfl⟩ | hgt | ⟨hgt,rfl⟩
  ·have hd2:decide ((n:Int)<(na:Int))=true:=by simp;omega
   rw[show decide (n<na)=true by simpa using hgt]
   simp only[Bool.not_false,Bool.and_self,Bool.not_true,Bool.false_and]
   go_enter Tryz.func86,Tryz.ntmps86
   go_wp2_with (first | (go_at_call 147;refine (HC.out _ hE).mono ?_;rintro e w1 ⟨hb1,A,c,rfl,hRp⟩) | (go_at_call 148;refine (HD.out _ (Env.keep (Env.keep hE hb1) (balloc (Below.refl _ _) _))).mono ?_;rintro e w2 ⟨hb2,B,cb,D,cd,rfl,hRq,_⟩;obtain⟨hc2,hf2⟩:=bcell hb2;have hz2:w1.heap.size<w2.heap.size:=(by have:=hb2.size;simp at this;omega)) | (go_at_call 149;refine (HH.out _).mono ?_;rintro e w3 ⟨rfl,hb3⟩;obtain⟨hc3,hf3⟩:=bcell hb3;have hz3:w2.heap.size<w3.heap.size:=(by have:=hb3.size;simp at this;omega)))
   go_ret
   exact⟨rfl,belB⟩
  ·have hd2:decide ((n:Int)<(na:Int))=false:=by simp;omega
   rw[show decide (n<na)=false by simpa using hgt]
   simp only[Bool.false_and,Bool.not_false,Bool.true_and]
   generalize hres:matchesL ps ap=res
   have HRES:=Lib.hid hres
   clear hres
   go_enter Tryz.func86,Tryz.ntmps86
   go_wp2_with (first | (go_at_call 147;refine (HC.out _ hE).mono ?_;rintro e w1 ⟨hb1,A,c,rfl,hRp⟩) | (go_at_call 148;refine (HD.out _ (Env.keep (Env.keep hE hb1) (balloc (Below.refl _ _) _))).mono ?_;rintro e w2 ⟨hb2,B,cb,D,cd,rfl,hRq,_⟩;obtain⟨hc2,hf2⟩:=bcell hb2;have hz2:w1.heap.size<w2.heap.size:=(by have:=hb2.size;simp at this;omega)) | (go_at_call 149;refine (HH.out _).mono ?_;rintro e w3 ⟨rfl,hb3⟩;obtain⟨hc3,hf3⟩:=bcell hb3;have hz3:w2.heap.size<w3.heap.size:=(by have:=hb3.size;simp at this;omega)))
   have y2:w3.cell? ⟨w2.heap.size,1,none⟩=some (.slice B na cb):=(hc3 _ _ (by simp)).trans (by simp[go_sem])
   have hRp3:Reads w3 2 A n (partCells ps):=hRp.keep belB
   have hRq3:Reads w3 1 B na (ap.map .string):=hRq.keep belB
   have hbw3:Below w.heap.size w w3:=belB
   have hnna:n≤na:=by omega
   clear hc2 hf2 hc3 hf3 hRp hRq
   go_loopw [61] (fun vi wr=>∃ k:Nat,(vi=.int .i64 k∧k≤n)∧Hid (matchesL (ps.drop k) (ap.drop k)=res)∧Below w3.heap.size w3 wr) (fun vi _=>n-(intOf vi).toNat)
   case atStart=>exact⟨0,⟨rfl,Nat.zero_le _⟩,HRES,Below.refl _ _⟩
   case round =>
    obtain⟨k,⟨rfl,hk⟩,HK,hbr⟩:=hrel
    by_cases hlt:k<n
    ·obtain⟨p',hp'⟩:∃ p,ps[k]? = some p:=⟨_,List.getElem?_eq_getElem (by have:=HN.out;omega)⟩
     obtain⟨x',hx'⟩:∃ p,ap[k]? = some p:=⟨_,List.getElem?_eq_getElem (by have:=HNA.out;omega)⟩
     obtain⟨hpk,hpt⟩:=h3 p' (List.mem_of_getElem? hp')
     have hxz:=hapz x' (List.mem_of_getElem? hx')
     obtain⟨pb,po,rfl,hcell⟩:=(hRp3.keep hbr).2 (by omega)
     obtain⟨qb,qo,rfl,hcellq⟩:=(hRq3.keep hbr).2 (by omega)
     obtain⟨e1,e2⟩:=partCells_at ps k p' hp'
     have hc1:wr.cell? ⟨pb,po+k*2,none⟩=_:=hcell _ _ e1
     have hc2:wr.cell? ⟨pb,po+k*2+1,none⟩=_:=hcell _ _ e2
     have hc3:wr.cell? ⟨qb,qo+k,none⟩=some (.string x'):=hcellq _ _ (by simp[hx'])
     have hdp:ps.drop k=p' :: ps.drop (k+1):=by
      obtain⟨hl2,rfl⟩:=List.getElem?_eq_some_iff.1 hp'
      exact List.drop_eq_getElem_cons hl2
     have hdx:ap.drop k=x' :: ap.drop (k+1):=by
      obtain⟨hl2,rfl⟩:=List.getElem?_eq_some_iff.1 hx'
      exact List.drop_eq_getElem_cons hl2
     have hm:=HK.out
     rw[hdp,hdx,matchesL]at hm
     have cW:=fun W=>has_any p'.kind p'.text x' W (by omega) (by omega) hpk
     obtain⟨pk,pt⟩:=p'
     dsimp only at hc1 hc2 cW hm
     have y2r:=cell_keep hbr y2
     have g1:(wr.alloc (.cells #[.int .i64 pk,.string pt] 192)).cell? ⟨wr.heap.size,0,none⟩=some (.int .i64 pk):=by simp[go_sem]
     have g2:(wr.alloc (.cells #[.int .i64 pk,.string pt] 192)).cell? ⟨wr.heap.size,1,none⟩=some (.string pt):=by simp[go_sem]
     have g3:(wr.alloc (.cells #[.int .i64 pk,.string pt] 192)).cell? ⟨w2.heap.size,1,none⟩=some (.slice (some ⟨qb,qo,none⟩) na cb):=cell_keep (balloc (Below.refl _ _) _) y2r
     have g4:(wr.alloc (.cells #[.int .i64 pk,.string pt] 192)).cell? ⟨qb,qo+k,none⟩=some (.string x'):=cell_keep (balloc (Below.refl _ _) _) hc3
     have hk0:(0:Int)≤(k:Int):=by omega
     have hkm:(k:Int)<(na:Int):=by omega
     clear hp' hx' hcell hcellq e1 e2 hdp hdx HK
     cases hh:hasP pk pt x'
     ·rw[hh]at cW hm
      have HW:=Lib.hid cW
      have HM2:=Lib.hid hm
      clear cW hm hh
      go_wp2_with fail
      have k1:=cell_regrown g1;have k2:=cell_regrown g2;have k3:=cell_regrown g3;have k4:=cell_regrown g4
      refine wp_region_quiet_below (by kernel_rfl) (by kernel_rfl) ?_;(repeat (any_goals (first | go_big_quiet_step ((first | exact qcalls HW.out _ _)) | quiet_step ((first | exact qcalls HW.out _ _)))));refine wpQuiet_nil ?_;intro _ hwq;obtain⟨⟨dq,osq⟩,hwq⟩:=hwq;subst hwq;have hb4:=below_regrown (wr.alloc (.cells #[.int .i64 pk,.string pt] 192)) dq osq;generalize grow (redrawn (wr.alloc (.cells #[.int .i64 pk,.string pt] 192)) dq) osq=w4 at *
      go_wp2
      go_ret
      exact⟨ret_bool (by have:=HM2.out;simpa using this),belB⟩
     ·rw[hh]at cW hm
      have HW:=Lib.hid cW
      have HM2:Hid (matchesL (ps.drop (k+1)) (ap.drop (k+1))=res):=Lib.hid (by simpa using hm)
      clear cW hm hh
      go_wp2_with fail
      have k1:=cell_regrown g1;have k2:=cell_regrown g2;have k3:=cell_regrown g3;have k4:=cell_regrown g4
      refine wp_region_quiet_below (by kernel_rfl) (by kernel_rfl) ?_;(repeat (any_goals (first | go_big_quiet_step ((first | exact qcalls HW.out _ _)) | quiet_step ((first | exact qcalls HW.out _ _)))));refine wpQuiet_nil ?_;intro _ hwq;obtain⟨⟨dq,osq⟩,hwq⟩:=hwq;subst hwq;have hb4:=below_regrown (wr.alloc (.cells #[.int .i64 pk,.string pt] 192)) dq osq;generalize grow (redrawn (wr.alloc (.cells #[.int .i64 pk,.string pt] 192)) dq) osq=w4 at *
      go_wp2
      exact⟨⟨k+1,⟨by go_num,by omega⟩,HM2,bstep (balloc hbr _) hb4⟩,by simp[intOf];omega⟩
    ·obtain rfl:k=n:=by omega
     have hm:res=true:=by
      have:=HK.out
      rw[HN.out,List.drop_eq_nil_of_le (Nat.le_refl _),matchesL]at this
      exact this.symm
     subst hm
     go_wp2
     go_ret
     exact⟨rfl,belB⟩
  ·have hd2:decide ((n:Int)<(na:Int))=true:=by simp;omega
   rw[show decide (n<na)=true by simpa using hgt]
   simp only[Bool.not_true,Bool.and_false,Bool.not_false,Bool.true_and]
   generalize hres:matchesL ps ap=res
   have HRES:=Lib.hid hres
   clear hres
   go_enter Tryz.func86,Tryz.ntmps86
   go_wp2_with (first | (go_at_call 147;refine (HC.out _ hE).mono ?_;rintro e w1 ⟨hb1,A,c,rfl,hRp⟩) | (go_at_call 148;refine (HD.out _ (Env.keep (Env.keep hE hb1) (balloc (Below.refl _ _) _))).mono ?_;rintro e w2 ⟨hb2,B,cb,D,cd,rfl,hRq,_⟩;obtain⟨hc2,hf2⟩:=bcell hb2;have hz2:w1.heap.size<w2.heap.size:=(by have:=hb2.size;simp at this;omega)) | (go_at_call 149;refine (HH.out _).mono ?_;rintro e w3 ⟨rfl,hb3⟩;obtain⟨hc3,hf3⟩:=bcell hb3;have hz3:w2.heap.size<w3.heap.size:=(by have:=hb3.size;simp at this;omega)))
   have y2:w3.cell? ⟨w2.heap.size,1,none⟩=some (.slice B na cb):=(hc3 _ _ (by simp)).trans (by simp[go_sem])
   have hRp3:Reads w3 2 A n (partCells ps):=hRp.keep belB
   have hRq3:Reads w3 1 B na (ap.map .string):=hRq.keep belB
   have hbw3:Below w.heap.size w w3:=belB
   have hnna:n≤na:=by omega
   clear hc2 hf2 hc3 hf3 hRp hRq
   go_loopw [61] (fun vi wr=>∃ k:Nat,(vi=.int .i64 k∧k≤n)∧Hid (matchesL (ps.drop k) (ap.drop k)=res)∧Below w3.heap.size w3 wr) (fun vi _=>n-(intOf vi).toNat)
   case atStart=>exact⟨0,⟨rfl,Nat.zero_le _⟩,HRES,Below.refl _ _⟩
   case round =>
    obtain⟨k,⟨rfl,hk⟩,HK,hbr⟩:=hrel
    by_cases hlt:k<n
    ·obtain⟨p',hp'⟩:∃ p,ps[k]? = some p:=⟨_,List.getElem?_eq_getElem (by have:=HN.out;omega)⟩
     obtain⟨x',hx'⟩:∃ p,ap[k]? = some p:=⟨_,List.getElem?_eq_getElem (by have:=HNA.out;omega)⟩
     obtain⟨hpk,hpt⟩:=h3 p' (List.mem_of_getElem? hp')
     have hxz:=hapz x' (List.mem_of_getElem? hx')
     obtain⟨pb,po,rfl,hcell⟩:=(hRp3.keep hbr).2 (by omega)
     obtain⟨qb,qo,rfl,hcellq⟩:=(hRq3.keep hbr).2 (by omega)
     obtain⟨e1,e2⟩:=partCells_at ps k p' hp'
     have hc1:wr.cell? ⟨pb,po+k*2,none⟩=_:=hcell _ _ e1
     have hc2:wr.cell? ⟨pb,po+k*2+1,none⟩=_:=hcell _ _ e2
     have hc3:wr.cell? ⟨qb,qo+k,none⟩=some (.string x'):=hcellq _ _ (by simp[hx'])
     have hdp:ps.drop k=p' :: ps.drop (k+1):=by
      obtain⟨hl2,rfl⟩:=List.getElem?_eq_some_iff.1 hp'
      exact List.drop_eq_getElem_cons hl2
     have hdx:ap.drop k=x' :: ap.drop (k+1):=by
      obtain⟨hl2,rfl⟩:=List.getElem?_eq_some_iff.1 hx'
      exact List.drop_eq_getElem_cons hl2
     have hm:=HK.out
     rw[hdp,hdx,matchesL]at hm
     have cW:=fun W=>has_any p'.kind p'.text x' W (by omega) (by omega) hpk
     obtain⟨pk,pt⟩:=p'
     dsimp only at hc1 hc2 cW hm
     have y2r:=cell_keep hbr y2
     have g1:(wr.alloc (.cells #[.int .i64 pk,.string pt] 192)).cell? ⟨wr.heap.size,0,none⟩=some (.int .i64 pk):=by simp[go_sem]
     have g2:(wr.alloc (.cells #[.int .i64 pk,.string pt] 192)).cell? ⟨wr.heap.size,1,none⟩=some (.string pt):=by simp[go_sem]
     have g3:(wr.alloc (.cells #[.int .i64 pk,.string pt] 192)).cell? ⟨w2.heap.size,1,none⟩=some (.slice (some ⟨qb,qo,none⟩) na cb):=cell_keep (balloc (Below.refl _ _) _) y2r
     have g4:(wr.alloc (.cells #[.int .i64 pk,.string pt] 192)).cell? ⟨qb,qo+k,none⟩=some (.string x'):=cell_keep (balloc (Below.refl _ _) _) hc3
     have hk0:(0:Int)≤(k:Int):=by omega
     have hkm:(k:Int)<(na:Int):=by omega
     clear hp' hx' hcell hcellq e1 e2 hdp hdx HK
     cases hh:hasP pk pt x'
     ·rw[hh]at cW hm
      have HW:=Lib.hid cW
      have HM2:=Lib.hid hm
      clear cW hm hh
      go_wp2_with fail
      have k1:=cell_regrown g1;have k2:=cell_regrown g2;have k3:=cell_regrown g3;have k4:=cell_regrown g4
      refine wp_region_quiet_below (by kernel_rfl) (by kernel_rfl) ?_;(repeat (any_goals (first | go_big_quiet_step ((first | exact qcalls HW.out _ _)) | quiet_step ((first | exact qcalls HW.out _ _)))));refine wpQuiet_nil ?_;intro _ hwq;obtain⟨⟨dq,osq⟩,hwq⟩:=hwq;subst hwq;have hb4:=below_regrown (wr.alloc (.cells #[.int .i64 pk,.string pt] 192)) dq osq;generalize grow (redrawn (wr.alloc (.cells #[.int .i64 pk,.string pt] 192)) dq) osq=w4 at *
      go_wp2
      go_ret
      exact⟨ret_bool (by have:=HM2.out;simpa using this),belB⟩
     ·rw[hh]at cW hm
      have HW:=Lib.hid cW
      have HM2:Hid (matchesL (ps.drop (k+1)) (ap.drop (k+1))=res):=Lib.hid (by simpa using hm)
      clear cW hm hh
      go_wp2_with fail
      have k1:=cell_regrown g1;have k2:=cell_regrown g2;have k3:=cell_regrown g3;have k4:=cell_regrown g4
      refine wp_region_quiet_below (by kernel_rfl) (by kernel_rfl) ?_;(repeat (any_goals (first | go_big_quiet_step ((first | exact qcalls HW.out _ _)) | quiet_step ((first | exact qcalls HW.out _ _)))));refine wpQuiet_nil ?_;intro _ hwq;obtain⟨⟨dq,osq⟩,hwq⟩:=hwq;subst hwq;have hb4:=below_regrown (wr.alloc (.cells #[.int .i64 pk,.string pt] 192)) dq osq;generalize grow (redrawn (wr.alloc (.cells #[.int .i64 pk,.string pt] 192)) dq) osq=w4 at *
      go_wp2
      exact⟨⟨k+1,⟨by go_num,by omega⟩,HM2,bstep (balloc hbr _) hb4⟩,by simp[intOf];omega⟩
    ·obtain rfl:k=n:=by omega
     have hm:res=true:=by
      have:=HK.out
      rw[HN.out,List.drop_eq_nil_of_le (Nat.le_refl _),matchesL]at this
      exact this.symm
     subst hm
     go_wp2
     go_ret
     exact⟨rfl,belB⟩
def mtL:List Part→List Part→List Part→Option (List Part)
 | acc,[],_=>some acc
 | acc,a :: r,[]=>mtL (acc++[a]) r []
 | acc,a :: r,b :: q=>if meetsP a b then mtL (acc++[meetP a b]) r q else none
def commonO (x y:Pat):Option Pat :=
 if !meetsP x.cust y.cust||(decide (y.parts.length<x.parts.length)&&!y.tail) then none else (mtL [] x.parts y.parts).map fun l=>⟨meetP x.cust y.cust,l,x.tail&&y.tail⟩
def commonP (x y:Pat):Option Pat:=if x.parts.length<y.parts.length then commonO y x else commonO x y
def patV (x:Pat) (A:Option Addr) (c:Nat):Value:=.agg #[.int .i64 x.cust.kind,.string x.cust.text,.slice A x.parts.length c,.bool x.tail]
theorem PBox.set2 {w:World} {g k k2:Nat} {t t2:ByteArray} {v v2:Value} {b b2:Bool} (h:PBox w g k t v b) :
  PBox ((((w.setCell ⟨g,0,none⟩ (.int .i64 k2)).setCell ⟨g,1,none⟩ (.string t2)).setCell ⟨g,2,none⟩ v2).setCell ⟨g,3,none⟩ (.bool b2)) g k2 t2 v2 b2 :=
 Blk.set_ (Blk.set_ (Blk.set_ (Blk.set_ h 0 (.int .i64 k2)) 1 (.string t2)) 2 v2) 3 (.bool b2)
theorem PBox.far {w:World} {g k:Nat} {t:ByteArray} {v:Value} {b:Bool} (h:PBox w g k t v b) (p:Addr) (u:Value) (hp:g≠p.block):PBox (w.setCell p u) g k t v b:=(Below.heap_setCell w p u g hp).trans h
theorem meet_any (p q:Part) (w:World) (h1:p.kind≤2) (h2:q.kind≤2) (h3:p.text.size≤100000) (h4:q.text.size≤100000) :
  Calls Tryz.prog 285 #[.agg #[.int .i64 p.kind,.string p.text],.agg #[.int .i64 q.kind,.string q.text]] w (Ret w (.tuple #[.agg #[.int .i64 (meetP p q).kind,.string (meetP p q).text],.bool (meetsP p q)])):=meetP_any p.kind q.kind p.text q.text w (by omega) (by omega) h1 h2
theorem meetP_ok {p q:Part} (h1:p.kind≤2) (h2:q.kind≤2) (h3:p.text.size≤100000) (h4:q.text.size≤100000):(meetP p q).kind≤2∧(meetP p q).text.size≤100000:=by
 unfold meetP;split
 ·exact⟨h2,h4⟩
 ·exact⟨h1,h3⟩
theorem box3 (w:World) (a b c:Obj):(((w.alloc a).alloc b).alloc c).heap[w.heap.size]? = some a∧(((w.alloc a).alloc b).alloc c).heap[w.heap.size+1]? = some b∧(((w.alloc a).alloc b).alloc c).heap[w.heap.size+1+1]? = some c:=by
 have h1:=World.alloc_heap_new w a
 have h2:=World.alloc_heap_new (w.alloc a) b
 have h3:=World.alloc_heap_new ((w.alloc a).alloc b) c
 rw[World.size_alloc]at h2
 rw[World.size_alloc,World.size_alloc]at h3
 exact⟨(Below.heap_alloc _ _ _ (by simp;omega)).trans ((Below.heap_alloc _ _ _ (by simp)).trans h1),(Below.heap_alloc _ _ _ (by simp)).trans h2,h3⟩
def Swap (w:World) (R:Option Pat) (wx:World):Prop:=∃ (X Y:Pat) (A B:Option Addr) (ca cb:Nat),
 Reads w 2 A X.parts.length (partCells X.parts)∧Reads w 2 B Y.parts.length (partCells Y.parts)∧PatGood X∧PatGood Y∧R=commonO X Y ∧
 PBox wx w.heap.size X.cust.kind X.cust.text (.slice A X.parts.length ca) X.tail∧PBox wx (w.heap.size+1) Y.cust.kind Y.cust.text (.slice B Y.parts.length cb) Y.tail∧PBox wx (w.heap.size+1+1) 0 ⟨#[]⟩ (.slice none 0 0) false ∧
 Below w.heap.size w wx∧wx.heap.size=w.heap.size+1+1+1
theorem common_any (x y:Pat) (A B:Option Addr) (ca cb:Nat) (w:World) (hA:Reads w 2 A x.parts.length (partCells x.parts)) (hB:Reads w 2 B y.parts.length (partCells y.parts)) (hx:PatGood x) (hy:PatGood y) :
  Calls Tryz.prog 226 #[patV x A ca,patV y B cb] w (CompPost (commonP x y) w):=by
 obtain⟨i0,hi0,hz0,hz1,hz2⟩:=info_parts infoPart
 have HI:Hid ((Tryz.prog.info? 192=some i0)∧i0.zero=some (.agg #[.int .i64 0,.string ⟨#[]⟩])∧i0.size=2∧i0.bytes=24):=Lib.hid ⟨hi0,hz0,hz1,hz2⟩
 clear hi0 hz0 hz1 hz2
 obtain⟨R,hR⟩:∃ R,R=commonP x y:=⟨_,rfl⟩
 rw[←hR]
 have hsw:∀ wx,PBox wx w.heap.size y.cust.kind y.cust.text (.slice B y.parts.length cb) y.tail→PBox wx (w.heap.size+1) x.cust.kind x.cust.text (.slice A x.parts.length ca) x.tail→PBox wx (w.heap.size+1+1) 0 ⟨#[]⟩ (.slice none 0 0) false →
   Below w.heap.size w wx→wx.heap.size=w.heap.size+1+1+1→x.parts.length<y.parts.length→Swap w R wx:=fun wx h1 h2 h3 h4 h5 h6=>⟨y,x,B,A,cb,ca,hB,hA,hy,hx,by rw[hR,commonP,if_pos h6],h1,h2,h3,h4,h5⟩
 have hst:∀ wx,PBox wx w.heap.size x.cust.kind x.cust.text (.slice A x.parts.length ca) x.tail→PBox wx (w.heap.size+1) y.cust.kind y.cust.text (.slice B y.parts.length cb) y.tail→PBox wx (w.heap.size+1+1) 0 ⟨#[]⟩ (.slice none 0 0) false →
   Below w.heap.size w wx→wx.heap.size=w.heap.size+1+1+1→¬ x.parts.length<y.parts.length→Swap w R wx:=fun wx h1 h2 h3 h4 h5 h6=>⟨x,y,A,B,ca,cb,hA,hB,hx,hy,by rw[hR,commonP,if_neg h6],h1,h2,h3,h4,h5⟩
 have hxn:=hx.num
 have hyn:=hy.num
 have HSW:=Lib.hid hsw
 have HST:=Lib.hid hst
 clear hsw hst hR hA hB hx hy
 unfold patV
 obtain⟨⟨xk,xt⟩,xs,xl⟩:=x
 obtain⟨⟨yk,yt⟩,ys,yl⟩:=y
 dsimp only at hxn hyn HSW HST ⊢
 generalize xs.length=n at *
 generalize ys.length=m at *
 go_enter Tryz.func226,Tryz.ntmps226
 go_upto_if 14 with fail
 go_cut [] (fun wx=>Swap w R wx)
 case first =>
  have hbl:∀ a b c,Below w.heap.size w (((w.alloc a).alloc b).alloc c):=fun a b c=>balloc (balloc (balloc (Below.refl _ _) _) _) _
  have hb3:=box3 w
  have HBL:=Lib.hid hbl
  have HB3:=Lib.hid hb3
  clear hbl hb3
  by_cases hlt:n<m
  ·have hd:decide ((n:Int)<(m:Int))=true:=by simp;omega
   have HLT:=Lib.hid hlt
   clear hlt
   go_wp2_with fail
   go_meet
   exact HSW.out _ (HB3.out _ _ _).1 (HB3.out _ _ _).2.1 (HB3.out _ _ _).2.2 (HBL.out _ _ _) (by simp) HLT.out
  ·have hd:decide ((n:Int)<(m:Int))=false:=by simp;omega
   have HLT:=Lib.hid hlt
   clear hlt
   go_wp2_with fail
   go_meet
   exact HST.out _ (HB3.out _ _ _).1 (HB3.out _ _ _).2.1 (HB3.out _ _ _).2.2 (HBL.out _ _ _) (by simp) HLT.out
 case rest =>
  obtain⟨X,Y,A',B',ca',cb',hA,hB,hX,hY,hRR,bX,bY,bO,hbc,hzc⟩:=hcut
  clear HSW HST hxn hyn
  obtain⟨⟨pk,pt⟩,ps,pl⟩:=X
  obtain⟨⟨qk,qt⟩,qs,ql⟩:=Y
  have c0:=fun W=>meet_any ⟨pk,pt⟩ ⟨qk,qt⟩ W hX.kind hY.kind hX.text hY.text
  obtain⟨-,-,hps,hpn⟩:=hX
  obtain⟨-,-,hqs,hqn⟩:=hY
  dsimp only at *
  unfold commonO at hRR
  dsimp only at hRR
  obtain⟨np,hnp⟩:∃ np,np=ps.length:=⟨_,rfl⟩
  obtain⟨nq,hnq⟩:∃ nq,nq=qs.length:=⟨_,rfl⟩
  rw[←hnp]at hA bX hpn hRR
  rw[←hnq]at hB bY hqn hRR
  generalize meetP ⟨pk,pt⟩ ⟨qk,qt⟩=mp at *
  generalize meetsP ⟨pk,pt⟩ ⟨qk,qt⟩=b0 at *
  obtain⟨mk,mt⟩:=mp
  dsimp only at c0
  have H0:=Lib.hid c0
  have HN:=Lib.hid hnp
  have HM:=Lib.hid hnq
  have HA:=Lib.hid hA
  have HB:=Lib.hid hB
  have HPS:=Lib.hid hps
  have HQS:=Lib.hid hqs
  obtain⟨x0,x1,x2,x3,_⟩:=bX.facts
  obtain⟨y0,y1,y2,y3,_⟩:=bY.facts
  obtain⟨o0,o1,o2,o3,q0,q1,q2,q3⟩:=bO.facts
  clear c0 hnp hnq hA hB hps hqs
  cases b0
  ·simp only[Bool.not_false,Bool.true_or,if_true]at hRR
   subst hRR
   go_wp2_with (go_at_call 285;refine (H0.out _).mono ?_;rintro e w1 ⟨rfl,hb1⟩;have hX:PBox w1 w.heap.size pk pt (.slice A' np ca') _:=Blk.keep bX hb1;have hY:PBox w1 (w.heap.size+1) qk qt (.slice B' nq cb') _:=Blk.keep bY hb1;have hO:PBox w1 (w.heap.size+1+1) 0 ⟨#[]⟩ (.slice none 0 0) false:=Blk.keep bO hb1;have hz1:w.heap.size+3≤w1.heap.size:=(by have:=hb1.size;omega);have hbw:Below w.heap.size w w1:=bstep hbc hb1;clear x0 x1 x2 x3 y0 y1 y2 y3 o0 o1 o2 o3 q0 q1 q2 q3;obtain⟨x0,x1,x2,x3,_⟩:=hX.facts;obtain⟨y0,y1,y2,y3,_⟩:=hY.facts;obtain⟨o0,o1,o2,o3,q0,q1,q2,q3⟩:=hO.facts)
   have hO':=Blk.set_ (Blk.set_ (Blk.set_ (Blk.set_ (Blk.set_ (Blk.set_ hO 0 (.int .i64 mk)) 1 (.string mt)) 0 (.int .i64 mk)) 1 (.string mt)) 2 (.slice none 0 0)) 3 (.bool false);have hbE:=((((((hbw.setCell (p:=⟨w.heap.size+1+1,0,none⟩) (by simp;omega) (.int .i64 mk)).setCell (p:=⟨w.heap.size+1+1,1,none⟩) (by simp;omega) (.string mt)).setCell (p:=⟨w.heap.size+1+1,0,none⟩) (by simp;omega) (.int .i64 mk)).setCell (p:=⟨w.heap.size+1+1,1,none⟩) (by simp;omega) (.string mt)).setCell (p:=⟨w.heap.size+1+1,2,none⟩) (by simp;omega) (.slice none 0 0)).setCell (p:=⟨w.heap.size+1+1,3,none⟩) (by simp;omega) (.bool false));revert hO' hbE;generalize ((((((w1.setCell ⟨w.heap.size+1+1,0,none⟩ (.int .i64 mk)).setCell ⟨w.heap.size+1+1,1,none⟩ (.string mt)).setCell ⟨w.heap.size+1+1,0,none⟩ (.int .i64 mk)).setCell ⟨w.heap.size+1+1,1,none⟩ (.string mt)).setCell ⟨w.heap.size+1+1,2,none⟩ (.slice none 0 0)).setCell ⟨w.heap.size+1+1,3,none⟩ (.bool false))=W';intro hO' hbE;have hO2:PBox W' (w.heap.size+1+1) mk mt (.slice none 0 0) false:=hO';obtain⟨p0,p1,p2,p3,_⟩:=hO2.facts;clear hO' o0 o1 o2 o3 x0 x1 x2 x3 y0 y1 y2 y3;exact bodyPost_ret (v:=.tuple #[.agg #[.int .i64 mk,.string mt,.slice none 0 0,.bool false],.bool false]) (by simp[results,Tryz.results226,go_sem,p0,p1,p2,p3]) rfl (CompPost.none_ _ _ _ _ _ _ hbE)
  simp only[Bool.not_true,Bool.false_or]at hRR
  have hcase:(nq<np∧ql=false)∨(nq<np∧ql=true)∨¬ nq<np:=by cases ql <;> simp <;> omega
  have hthr:(nq<np∧ql=false)∨(decide (nq<np)&&!ql)=false:=by cases ql <;> simp <;> omega
  rcases hthr with ⟨hgt,rfl⟩ | hthr
  ·have hd2:decide ((nq:Int)<(np:Int))=true:=by simp;omega
   rw[show decide (nq<np)=true by simpa using hgt]at hRR
   simp only[Bool.not_false,Bool.and_self,if_true]at hRR
   subst hRR
   go_wp2_with (go_at_call 285;refine (H0.out _).mono ?_;rintro e w1 ⟨rfl,hb1⟩;have hX:PBox w1 w.heap.size pk pt (.slice A' np ca') _:=Blk.keep bX hb1;have hY:PBox w1 (w.heap.size+1) qk qt (.slice B' nq cb') _:=Blk.keep bY hb1;have hO:PBox w1 (w.heap.size+1+1) 0 ⟨#[]⟩ (.slice none 0 0) false:=Blk.keep bO hb1;have hz1:w.heap.size+3≤w1.heap.size:=(by have:=hb1.size;omega);have hbw:Below w.heap.size w w1:=bstep hbc hb1;clear x0 x1 x2 x3 y0 y1 y2 y3 o0 o1 o2 o3 q0 q1 q2 q3;obtain⟨x0,x1,x2,x3,_⟩:=hX.facts;obtain⟨y0,y1,y2,y3,_⟩:=hY.facts;obtain⟨o0,o1,o2,o3,q0,q1,q2,q3⟩:=hO.facts)
   have hO':=Blk.set_ (Blk.set_ (Blk.set_ (Blk.set_ (Blk.set_ (Blk.set_ hO 0 (.int .i64 mk)) 1 (.string mt)) 0 (.int .i64 mk)) 1 (.string mt)) 2 (.slice none 0 0)) 3 (.bool false);have hbE:=((((((hbw.setCell (p:=⟨w.heap.size+1+1,0,none⟩) (by simp;omega) (.int .i64 mk)).setCell (p:=⟨w.heap.size+1+1,1,none⟩) (by simp;omega) (.string mt)).setCell (p:=⟨w.heap.size+1+1,0,none⟩) (by simp;omega) (.int .i64 mk)).setCell (p:=⟨w.heap.size+1+1,1,none⟩) (by simp;omega) (.string mt)).setCell (p:=⟨w.heap.size+1+1,2,none⟩) (by simp;omega) (.slice none 0 0)).setCell (p:=⟨w.heap.size+1+1,3,none⟩) (by simp;omega) (.bool false));revert hO' hbE;generalize ((((((w1.setCell ⟨w.heap.size+1+1,0,none⟩ (.int .i64 mk)).setCell ⟨w.heap.size+1+1,1,none⟩ (.string mt)).setCell ⟨w.heap.size+1+1,0,none⟩ (.int .i64 mk)).setCell ⟨w.heap.size+1+1,1,none⟩ (.string mt)).setCell ⟨w.heap.size+1+1,2,none⟩ (.slice none 0 0)).setCell ⟨w.heap.size+1+1,3,none⟩ (.bool false))=W';intro hO' hbE;have hO2:PBox W' (w.heap.size+1+1) mk mt (.slice none 0 0) false:=hO';obtain⟨p0,p1,p2,p3,_⟩:=hO2.facts;clear hO' o0 o1 o2 o3 x0 x1 x2 x3 y0 y1 y2 y3;exact bodyPost_ret (v:=.tuple #[.agg #[.int .i64 mk,.string mt,.slice none 0 0,.bool false],.bool false]) (by simp[results,Tryz.results226,go_sem,p0,p1,p2,p3]) rfl (CompPost.none_ _ _ _ _ _ _ hbE)
  ·rw[hthr]at hRR
   simp only[Bool.false_eq_true,if_false]at hRR
   have HR:=Lib.hid hRR
   clear hRR
   have HTH:=Lib.hid hthr
   have HCA:=Lib.hid hcase
   clear hthr hcase
   go_upto_region 4 with (go_at_call 285;refine (H0.out _).mono ?_;rintro e w1 ⟨rfl,hb1⟩;have hX:PBox w1 w.heap.size pk pt (.slice A' np ca') _:=Blk.keep bX hb1;have hY:PBox w1 (w.heap.size+1) qk qt (.slice B' nq cb') _:=Blk.keep bY hb1;have hO:PBox w1 (w.heap.size+1+1) 0 ⟨#[]⟩ (.slice none 0 0) false:=Blk.keep bO hb1;have hz1:w.heap.size+3≤w1.heap.size:=(by have:=hb1.size;omega);have hbw:Below w.heap.size w w1:=bstep hbc hb1;clear x0 x1 x2 x3 y0 y1 y2 y3 o0 o1 o2 o3 q0 q1 q2 q3;obtain⟨x0,x1,x2,x3,_⟩:=hX.facts;obtain⟨y0,y1,y2,y3,_⟩:=hY.facts;obtain⟨o0,o1,o2,o3,q0,q1,q2,q3⟩:=hO.facts)
   clear H0 bX bY bO x0 x1 x2 x3 y0 y1 y2 y3 o0 o1 o2 o3 q0 q1 q2 q3
   obtain⟨W0,hW0⟩:∃ W0,W0=(w1.setCell ⟨w.heap.size+1+1,0,none⟩ (.int .i64 mk)).setCell ⟨w.heap.size+1+1,1,none⟩ (.string mt):=⟨_,rfl⟩
   have hO0:PBox W0 (w.heap.size+1+1) mk mt (.slice none 0 0) false:=by rw[hW0];exact Blk.set_ (Blk.set_ hO 0 (.int .i64 mk)) 1 (.string mt)
   have hF0:∀ j,j≠w.heap.size+1+1→W0.heap[j]? = w1.heap[j]?:=fun j hj=>by rw[hW0,Below.heap_setCell _ _ _ _ (by simpa using hj),Below.heap_setCell _ _ _ _ (by simpa using hj)]
   have hz0:W0.heap.size=w1.heap.size:=by rw[hW0];simp[World.setCell]
   have hbw0:Below w.heap.size w W0:=by rw[hW0];exact (hbw.setCell (p:=⟨w.heap.size+1+1,0,none⟩) (by simp;omega) _).setCell (p:=⟨w.heap.size+1+1,1,none⟩) (by simp;omega) _
   have hX0:PBox W0 w.heap.size pk pt (.slice A' np ca') pl:=(hF0 _ (by omega)).trans hX
   have hY0:PBox W0 (w.heap.size+1) qk qt (.slice B' nq cb') ql:=(hF0 _ (by omega)).trans hY
   obtain⟨x0,x1,x2,x3,_⟩:=hX0.facts
   obtain⟨y0,y1,y2,y3,_⟩:=hY0.facts
   obtain⟨o0,o1,o2,o3,q0,q1,q2,q3⟩:=hO0.facts
   have HO0:=Lib.hid hO0;have HF0:=Lib.hid hF0;have HX0:=Lib.hid hX0;have HY0:=Lib.hid hY0;have HX:=Lib.hid hX;have HY:=Lib.hid hY;have HZ0:=Lib.hid hz0
   rw[←hW0]
   clear hW0 hO hX hY hO0 hF0 hX0 hY0 hz0
   go_cut [41] (fun c wx=>c=.bool false∧wx=W0)
   case first =>
    rcases HCA.out with ⟨_,e⟩ | ⟨hgt,e⟩ | hgt
    ·have:=HTH.out;rw[e]at this;simp at this;omega
    ·subst e
     have hd2:decide ((nq:Int)<(np:Int))=true:=by simp;omega
     have hd3:decide (nq<np)=true:=decide_eq_true hgt
     go_wp2_with fail
     go_meet
     exact⟨rfl,rfl⟩
    ·have hd2:decide ((nq:Int)<(np:Int))=false:=by simp;omega
     have hd3:decide (nq<np)=false:=decide_eq_false hgt
     go_wp2_with fail
     go_meet
     exact⟨rfl,rfl⟩
   case rest =>
    obtain⟨rfl,rfl⟩:=hcut
    go_upto_region 6 with fail
    go_cut [] (fun wx=>PBox wx (w.heap.size+1+1) mk mt (.slice none 0 0) (pl&&ql)∧(∀ j,j≠w.heap.size+1+1→wx.heap[j]? = w1.heap[j]?)∧Below w.heap.size w wx∧wx.heap.size=w1.heap.size)
    case first =>
     cases pl <;> cases ql
     all_goals
      go_wp2_with fail
      go_meet
      exact⟨Blk.set_ HO0.out 3 _,fun j hj=>(Below.heap_setCell _ _ _ _ (by simpa using hj)).trans (HF0.out j hj),hbw0.setCell (by simp;omega) _,by simp[World.setCell];exact HZ0.out⟩
    case rest =>
     obtain⟨hO6,hF6,hb6,hz6⟩:=hcut
     have hX6:PBox wc w.heap.size pk pt (.slice A' np ca') pl:=(hF6 _ (by omega)).trans HX.out
     obtain⟨tl,htl⟩:∃ tl,tl=(pl&&ql):=⟨_,rfl⟩
     rw[←htl]at hO6
     have HTL:=Lib.hid htl
     clear htl HTH HCA hbw0 x0 x1 x2 x3 y0 y1 y2 y3 o0 o1 o2 o3 q0 q1 q2 q3
     obtain⟨x0,x1,x2,x3,_⟩:=hX6.facts
     have HO6:=Lib.hid hO6;have HF6:=Lib.hid hF6;have HZ6:=Lib.hid hz6
     clear hX6 hO6 hF6 hz6
     go_wp2_with fail
     go_loopw [53] (fun vi wr=>∃ (k:Nat) (acc:List Part) (A1:Option Addr) (c1:Nat),(vi=.int .i64 k∧k≤np∧acc.length=k)∧Hid (mtL [] ps qs=mtL acc (ps.drop k) (qs.drop k))∧PBox wr (w.heap.size+1+1) mk mt (.slice A1 k c1) tl ∧
      wr.ownsRow w1.heap.size 192 2 (.slice A1 k c1) k (partCells acc)∧Below w.heap.size w wr∧Hid (∀ j,j<w1.heap.size→j≠w.heap.size+1+1→wr.heap[j]? = w1.heap[j]?)∧w1.heap.size≤wr.heap.size) (fun vi _=>np-(intOf vi).toNat)
     case atStart=>exact⟨0,[],none,0,⟨rfl,Nat.zero_le _,rfl⟩,Lib.hid (by simp),HO6.out,World.ownsRow_nil _ _ _ _,hb6,Lib.hid (fun j _ hj=>HF6.out j hj),by have:=HZ6.out;omega⟩
     case round =>
      clear x0 x1 x2 x3
      obtain⟨k,acc,A1,c1,⟨rfl,hk,hak⟩,HC,hB,hown,hbw2,HFR,hzr⟩:=hrel
      have hYr:PBox wr (w.heap.size+1) qk qt (.slice B' nq cb') ql:=(HFR.out _ (by omega) (by omega)).trans HY.out
      obtain⟨y0,y1,y2,y3,_⟩:=hYr.facts
      obtain⟨o0,o1,o2,o3,q0,q1,q2,q3⟩:=hB.facts
      have HAK:=Lib.hid hak
      clear hak
      have hs1:w.heap.size+1<wr.heap.size:=by omega
      have hs2:w.heap.size+1+1<wr.heap.size:=by omega
      by_cases hkn:k<np
      ·obtain⟨a,ha⟩:∃ p,ps[k]? = some p:=⟨_,List.getElem?_eq_getElem (by have:=HN.out;omega)⟩
       obtain⟨hak1,hak2⟩:=HPS.out a (List.mem_of_getElem? ha)
       obtain⟨pb,po,rfl,hcell⟩:=(HA.out.keep hbw2).2 (by omega)
       obtain⟨e1,e2⟩:=partCells_at ps k a ha
       have hc1:wr.cell? ⟨pb,po+k*2,none⟩=_:=hcell _ _ e1
       have hc2:wr.cell? ⟨pb,po+k*2+1,none⟩=_:=hcell _ _ e2
       have hdx:ps.drop k=a :: ps.drop (k+1):=by
        obtain⟨hl2,rfl⟩:=List.getElem?_eq_some_iff.1 ha
        exact List.drop_eq_getElem_cons hl2
       have hmt:=HC.out
       rw[hdx]at hmt
       obtain⟨ak,at'⟩:=a
       dsimp only at hc1 hc2 hmt hak1 hak2
       have HMT:=Lib.hid hmt
       clear ha hcell e1 e2 hdx HC hmt
       go_upto_if 62 with fail
       go_cut [] (fun wx=>∃ (ck:Nat) (ct:ByteArray),(ck≤2∧ct.size≤100000)∧Blk wx wr.heap.size 192 #[.int .i64 ck,.string ct] (0,0)∧Below wr.heap.size wr wx∧Hid (mtL [] ps qs=mtL (acc++[⟨ck,ct⟩]) (ps.drop (k+1)) (qs.drop (k+1))))
       case first =>
        by_cases hkm:k<nq
        ·have hd:decide (k<nq)=true:=decide_eq_true hkm
         obtain⟨b,hb⟩:∃ p,qs[k]? = some p:=⟨_,List.getElem?_eq_getElem (by have:=HM.out;omega)⟩
         obtain⟨hbk1,hbk2⟩:=HQS.out b (List.mem_of_getElem? hb)
         obtain⟨qb,qo,rfl,hcell⟩:=(HB.out.keep hbw2).2 (by omega)
         obtain⟨e1,e2⟩:=partCells_at qs k b hb
         have hc3:wr.cell? ⟨qb,qo+k*2,none⟩=_:=hcell _ _ e1
         have hc4:wr.cell? ⟨qb,qo+k*2+1,none⟩=_:=hcell _ _ e2
         have hdy:qs.drop k=b :: qs.drop (k+1):=by
          obtain⟨hl2,rfl⟩:=List.getElem?_eq_some_iff.1 hb
          exact List.drop_eq_getElem_cons hl2
         have hmt:=HMT.out
         rw[hdy,mtL]at hmt
         obtain⟨bk,bt⟩:=b
         dsimp only at hc3 hc4 hbk1 hbk2
         have cM:=fun W=>meet_any ⟨ak,at'⟩ ⟨bk,bt⟩ W hak1 hbk1 hak2 hbk2
         have hok:=meetP_ok (p:=⟨ak,at'⟩) (q:=⟨bk,bt⟩) hak1 hbk1 hak2 hbk2
         have hqb:qb<wr.heap.size:=cell_lt (a:=⟨qb,qo+k*2,none⟩) hc3
         dsimp only at cM
         generalize meetP ⟨ak,at'⟩ ⟨bk,bt⟩=mp at *
         generalize meetsP ⟨ak,at'⟩ ⟨bk,bt⟩=b1 at *
         obtain⟨ck,ct⟩:=mp
         dsimp only at cM hok
         have HMM:=Lib.hid cM
         have HMT2:=Lib.hid hmt
         have hk0:(0:Int)≤(k:Int):=by omega
         have hki:(k:Int)<(nq:Int):=by omega
         clear hb hcell e1 e2 hdy hmt cM HMT
         go_upto_region 11 with fail
         go_cut [5] (fun c wx=>c=.bool b1∧Blk wx wr.heap.size 192 #[.int .i64 ck,.string ct] (0,0)∧Below wr.heap.size wr wx)
         case first =>
          have g1:(wr.alloc (.cells #[.int .i64 ak,.string at'] 192)).cell? ⟨wr.heap.size,0,none⟩=some (.int .i64 ak):=by simp[go_sem]
          have g2:(wr.alloc (.cells #[.int .i64 ak,.string at'] 192)).cell? ⟨wr.heap.size,1,none⟩=some (.string at'):=by simp[go_sem]
          go_region_law (go_simp;go_at_call 285;refine (HMM.out _).mono ?_;rintro e w2 ⟨rfl,hb2⟩;replace hb2:=undrew hb2;have hT:Blk w2 wr.heap.size 192 #[.int .i64 ak,.string at'] (0,0):=(hb2.block wr.heap.size (by simp)).trans (World.alloc_heap_new _ _);have hT0:=hT.cell 0;have hT1:=hT.cell 1;have hF0:=hT.free0 0;have hF1:=hT.free0 1)
          all_goals go_wp2_with fail
          all_goals go_meet
          all_goals exact⟨rfl,Blk.set_ (Blk.set_ hT 0 (.int .i64 ck)) 1 (.string ct),((blater _ hb2).setCell (p:=⟨wr.heap.size,0,none⟩) (Nat.le_refl _) _).setCell (p:=⟨wr.heap.size,1,none⟩) (Nat.le_refl _) _⟩
         case rest =>
          obtain⟨rfl,hT,hbT⟩:=hcut
          cases b1
          ·have hRn:R=none:=by
            have:=HMT2.out
            simp only[Bool.false_eq_true,if_false]at this
            rw[HR.out,this];rfl
           subst hRn
           have hB2:PBox wc (w.heap.size+1+1) mk mt (.slice A1 k c1) tl:=(hbT.block _ hs2).trans hB
           have hbE:Below w.heap.size w wc:=bstep hbw2 hbT
           clear HR HMT2 hown hB y0 y1 y2 y3 o0 o1 o2 o3 q0 q1 q2 q3 hc1 hc2 hc3 hc4
           obtain⟨o0,o1,o2,o3,q0,q1,q2,q3⟩:=hB2.facts
           go_wp2_with fail
           have hB3:PBox _ (w.heap.size+1+1) mk mt (.slice A1 k c1) tl:=PBox.set2 (k2:=mk) (t2:=mt) (v2:=.slice A1 k c1) (b2:=tl) hB2
           have hbE2:=(((hbE.setCell (p:=⟨w.heap.size+1+1,0,none⟩) (by simp;omega) (.int .i64 mk)).setCell (p:=⟨w.heap.size+1+1,1,none⟩) (by simp;omega) (.string mt)).setCell (p:=⟨w.heap.size+1+1,2,none⟩) (by simp;omega) (.slice A1 k c1)).setCell (p:=⟨w.heap.size+1+1,3,none⟩) (by simp;omega) (.bool tl)
           revert hB3 hbE2
           generalize ((((wc.setCell ⟨w.heap.size+1+1,0,none⟩ (.int .i64 mk)).setCell ⟨w.heap.size+1+1,1,none⟩ (.string mt)).setCell ⟨w.heap.size+1+1,2,none⟩ (.slice A1 k c1)).setCell ⟨w.heap.size+1+1,3,none⟩ (.bool tl))=W'
           intro hB3 hbE2
           obtain⟨p0,p1,p2,p3,_⟩:=hB3.facts
           clear o0 o1 o2 o3 q0 q1 q2 q3
           exact bodyPost_ret (v:=.tuple #[.agg #[.int .i64 mk,.string mt,.slice A1 k c1,.bool tl],.bool false]) (by simp[results,Tryz.results226,go_sem,p0,p1,p2,p3]) rfl (CompPost.none_ _ _ _ _ _ _ hbE2)
          ·have HMT3:Hid (mtL [] ps qs=mtL (acc++[⟨ck,ct⟩]) (ps.drop (k+1)) (qs.drop (k+1))):=Lib.hid (by have:=HMT2.out;simpa using this)
           clear HMT2
           go_wp2_with fail
           go_meet
           exact⟨ck,ct,hok,hT,hbT,HMT3⟩
        ·have hd:decide (k<nq)=false:=decide_eq_false hkm
         have hyd:∀ j,k≤j→qs.drop j=[]:=fun j hj=>List.drop_eq_nil_of_le (by have:=HM.out;omega)
         have HC2:Hid (mtL [] ps qs=mtL (acc++[⟨ak,at'⟩]) (ps.drop (k+1)) (qs.drop (k+1))):=Lib.hid (by have:=HMT.out;rw[hyd k (Nat.le_refl _),mtL]at this;rw[hyd (k+1) (by omega)];exact this)
         clear hyd HMT
         go_wp2_with fail
         go_meet
         exact⟨ak,at',⟨hak1,hak2⟩,World.alloc_heap_new _ _,balloc (Below.refl _ _) _,HC2⟩
       case rest =>
        obtain⟨ck,ct,⟨hck1,hck2⟩,hT,hbT,HC2⟩:=hcut
        have hB2:PBox wc (w.heap.size+1+1) mk mt (.slice A1 k c1) tl:=(hbT.block _ hs2).trans hB
        have hown2:=ownsRow_keep hown hbT
        have hbw3:Below w.heap.size w wc:=bstep hbw2 hbT
        have hzc2:=hbT.size
        have HFR2:Hid (∀ j,j<w1.heap.size→j≠w.heap.size+1+1→wc.heap[j]? = w1.heap[j]?):=Lib.hid (fun j q1 q2=>(hbT.block j (by omega)).trans (HFR.out j q1 q2))
        clear HMT hown hB y0 y1 y2 y3 o0 o1 o2 o3 q0 q1 q2 q3 hc1 hc2 HFR
        obtain⟨o0,o1,o2,o3,q0,q1,q2,q3⟩:=hB2.facts
        have hT0:=hT.cell 0
        have hT1:=hT.cell 1
        go_wp2_with (at_builtin;refine wpList_append_own _ rfl _ _ 193 rfl w1.heap.size 192 i0 (.agg #[.int .i64 0,.string ⟨#[]⟩]) 2 24 Tryz.underlying193 HI.out.1 HI.out.2.1 HI.out.2.2.1 HI.out.2.2.2 rfl (by decide) _ _ _ rfl (hown2.alloc _) ⟨wc.heap.size,0,none⟩ 1 1 [.int .i64 ck,.string ct] rfl rfl (World.news_of_block (cs:=#[.int .i64 ck,.string ct]) (t:=192) (fr:=(0,0)) (World.alloc_heap_new wc _)) (by simp[Value.oneCell']) (by unfold maxLen;omega) (by omega) (by simp;omega) ?_;intro v' w3 hown' hgrow _;obtain⟨g',cap',rfl⟩:=ownsRow_succ hown';have hB3:PBox w3 (w.heap.size+1+1) mk mt (.slice A1 k c1) tl:=(hgrow.block _ (by simp;omega) (fun e=>by have:=ownsRow_block hown2 _ e.symm;omega)).trans ((Below.heap_alloc wc _ _ (by omega)).trans hB2);clear o0 o1 o2 o3 q0 q1 q2 q3;obtain⟨o0,o1,o2,o3,q0,q1,q2,q3⟩:=hB3.facts)
        have hal:(acc++[(⟨ck,ct⟩:Part)]).length=k+1:=by have:=HAK.out;simp;omega
        have hpc:partCells (acc++[⟨ck,ct⟩])=partCells acc++[.int .i64 ck,.string ct]:=by simp[partCells]
        exact⟨⟨k+1,acc++[⟨ck,ct⟩],some ⟨g',0,none⟩,cap',⟨by go_num,by omega,hal⟩,HC2,Blk.set_ hB3 2 _,by rw[hpc];exact ownsRow_same hown' (fun j hj=>Below.heap_setCell _ _ _ _ (by simp;omega)),((hbw3.alloc (by omega) _).grown hgrow (by simp;omega) (fun r e=>by have:=ownsRow_block hown2 r e;omega)).setCell (p:=⟨w.heap.size+1+1,2,none⟩) (by simp;omega) _,Lib.hid (fun j q1 q2=>(Below.heap_setCell _ _ _ _ (by simpa using q2)).trans ((hgrow.block j (by simp;omega) (fun e=>by have:=ownsRow_block hown2 _ e.symm;omega)).trans ((Below.heap_alloc wc _ j (by omega)).trans (HFR2.out j q1 q2)))),by have:=hgrow.size;simp[World.setCell]at this ⊢;omega⟩,by simp[intOf];omega⟩
      ·obtain rfl:k=np:=by omega
       go_wp2_with fail
       have hend:mtL [] ps qs=some acc:=by
        rw[HC.out,List.drop_eq_nil_of_le (by have:=HN.out;omega)]
        cases (qs.drop k) <;> rfl
       have hRs:R=some ⟨⟨mk,mt⟩,acc,tl⟩:=by rw[HR.out,hend,HTL.out];rfl
       subst hRs
       have hob:∀ a,A1=some a→a.block≠w.heap.size+1+1:=fun a ha=>by have:=ownsRow_block hown a.block (by rw[ha];rfl);omega
       have hob2:∀ a,A1=some a→w.heap.size≤a.block:=fun a ha=>by have:=ownsRow_block hown a.block (by rw[ha];rfl);omega
       have hbE:=hbw2
       have hB3:PBox _ (w.heap.size+1+1) mk mt (.slice A1 k c1) tl:=PBox.set2 (k2:=mk) (t2:=mt) (v2:=.slice A1 k c1) (b2:=tl) hB
       have hbE2:=(((hbE.setCell (p:=⟨w.heap.size+1+1,0,none⟩) (by simp;omega) (.int .i64 mk)).setCell (p:=⟨w.heap.size+1+1,1,none⟩) (by simp;omega) (.string mt)).setCell (p:=⟨w.heap.size+1+1,2,none⟩) (by simp;omega) (.slice A1 k c1)).setCell (p:=⟨w.heap.size+1+1,3,none⟩) (by simp;omega) (.bool tl)
       have hRd:Reads ((((wr.setCell ⟨w.heap.size+1+1,0,none⟩ (.int .i64 mk)).setCell ⟨w.heap.size+1+1,1,none⟩ (.string mt)).setCell ⟨w.heap.size+1+1,2,none⟩ (.slice A1 k c1)).setCell ⟨w.heap.size+1+1,3,none⟩ (.bool tl)) 2 A1 k (partCells acc):=((((Reads.of_own hown).set_ _ _ hob).set_ _ _ hob).set_ _ _ hob).set_ _ _ hob
       revert hB3 hbE2 hRd
       generalize ((((wr.setCell ⟨w.heap.size+1+1,0,none⟩ (.int .i64 mk)).setCell ⟨w.heap.size+1+1,1,none⟩ (.string mt)).setCell ⟨w.heap.size+1+1,2,none⟩ (.slice A1 k c1)).setCell ⟨w.heap.size+1+1,3,none⟩ (.bool tl))=W'
       intro hB3 hbE2 hRd
       obtain⟨p0,p1,p2,p3,_⟩:=hB3.facts
       clear o0 o1 o2 o3 q0 q1 q2 q3 y0 y1 y2 y3
       exact bodyPost_ret (v:=.tuple #[.agg #[.int .i64 mk,.string mt,.slice A1 k c1,.bool tl],.bool true]) (by simp[results,Tryz.results226,go_sem,p0,p1,p2,p3]) rfl ⟨hbE2,A1,c1,by rw[HAK.out],by rw[HAK.out];exact hRd,hob2⟩
end Go.Proofs.YtlkbkclnbppigaaGreatDoor
