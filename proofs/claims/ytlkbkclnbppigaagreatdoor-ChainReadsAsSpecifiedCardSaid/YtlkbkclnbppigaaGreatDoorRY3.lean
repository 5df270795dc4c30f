/- What the specification's Parse of conditions returns. -/
import Derived.Test.YtlkbkclnbppigaaGreatDoorRY2
set_option maxHeartbeats 16000000
namespace Go.Proofs.YtlkbkclnbppigaaGreatDoor
open Go.RowKit Go.Sort
set_option linter.unusedVariables false
set_option linter.unusedSimpArgs false
set_option maxRecDepth 100000
theorem wI.of_own {w:World} {base n c:Nat} {e:TypeId} {A:Option Addr} {xs:List Value} (h:w.ownsRow base e 1 (.slice A n c) n xs):wI w A n e:=fun h0=>by
 rcases h.2 with ⟨_,h1⟩ | ⟨g,cap,cur,hv,_,hB,_⟩
 ·omega
 ·injection hv with hv
  exact⟨g,0,cur,(0,0),hv,hB⟩
theorem rListOwn (s:aC) (w:World) (hs:s.size≤4294967281):Calls Tryz.prog 144 #[.string s] w (GZ (cZ s) w):=by
 have cF:=fun W=>rFields_any s 44 W hs
 unfold cZ
 by_cases h:s.data.toList=[126]
 ·have e1:(s.toList == [126])=true:=by rw[Lib.toList_data];simpa using h
  have e2:s.toList=[126]:=by rw[Lib.toList_data];exact h
  rw[if_pos h]
  go_enter Tryz.func144,Tryz.ntmps144
  go_wp2
  go_ret
  exact⟨none,0,rfl,World.ownsRow_nil _ _ _ _,aJ⟩
 ·have e1:(s.toList == [126])=false:=by rw[Lib.toList_data];simpa using h
  have e2:¬ s.toList=[126]:=by rw[Lib.toList_data];exact h
  rw[if_neg h]
  generalize splitB 44 s=ps at *
  have HF:=Lib.hid cF
  clear cF
  go_enter Tryz.func144,Tryz.ntmps144
  go_wp2_with (go_at_call 142;refine (HF.out _).mono ?_;rintro e w2 ⟨A,c,rfl,hR,hb2⟩)
  go_ret
  exact⟨A,c,rfl,hR,aJ⟩
structure Far (B g:Nat) (w w':World):Prop where
 os:w'.os=w.os
 tape:w'.tape=w.tape
 output:w'.output=w.output
 size:w.heap.size≤w'.heap.size
 block:∀ k,k<B→k≠g→w'.heap[k]? = w.heap[k]?
section
variable {B g:Nat} {w w' w'':World}
theorem Far.refl (B g:Nat) (w:World):Far B g w w:=⟨rfl,rfl,rfl,Nat.le_refl _,fun _ _ _=>rfl⟩
theorem Far.trans (h:Far B g w w') (k:Far B g w' w''):Far B g w w'':=⟨k.os.trans h.os,k.tape.trans h.tape,k.output.trans h.output,Nat.le_trans h.size k.size,fun i h1 h2=>(k.block i h1 h2).trans (h.block i h1 h2)⟩
theorem Far.of_below (h:Below B w w'):Far B g w w':=⟨h.os,h.tape,h.output,h.size,fun k hk _=>h.block k hk⟩
theorem Far.blk (h:Far B g w w') {b:Nat} {t:TypeId} {cs:Array Value} {fr:Nat × Nat} (hx:Blk w b t cs fr) (hb:b<B) (hn:b≠g):Blk w' b t cs fr:=(h.block b hb hn).trans hx
theorem Far.reads (h:Far B g w w') {A:Option Addr} {n:Nat} {vs:List Value} (hR:aI w 1 A n vs) (hn:0<n→∀ a,A=some a→a.block<B∧a.block≠g):aI w' 1 A n vs:=by
 refine⟨hR.1,fun h0=>?_⟩
 obtain⟨b,o,e,hc⟩:=hR.2 h0
 exact⟨b,o,e,fun j u hu=>(World.cell?_of_block (h.block b (hn h0 _ e).1 (hn h0 _ e).2)).trans (hc j u hu)⟩
theorem Far.below (h:Far B g w w') {B0:Nat} (h1:B0≤g) (h2:B0≤B):Below B0 w w':=⟨h.os,h.tape,h.output,h.size,fun k hk=>h.block k (by omega) (by omega)⟩
end
def D4 (b o c H:Nat) (F0 F1 F3 F4 F6:aC) (j:Nat) (v:Value) (w:World):Prop :=
 match j with
 | 0=>v=.slice (some ⟨b,o,none⟩) 7 c
 | 1=>v=.pointer (some ⟨b,o,none⟩)
 | 2=>v=.string F0
 | 3=>v=.int .i64 (sJ F0)
 | 4=>v=.slice (some ⟨b,o,none⟩) 7 c
 | 5=>v=.pointer (some ⟨b,o+1,none⟩)
 | 6=>v=.string F1
 | 7=>v=.int .i64 (sJ F1)
 | 8=>v=.slice (some ⟨b,o,none⟩) 7 c
 | 9=>v=.pointer (some ⟨b,o+3,none⟩)
 | 10=>v=.string F3
 | 11=>∃ A3 c3,v=.slice A3 (cZ F3).length c3∧aI w 1 A3 (cZ F3).length ((cZ F3).map .string)∧wI w A3 (cZ F3).length 9∧(0<(cZ F3).length→∀ a,A3=some a→H≤a.block)
 | 12=>v=.slice (some ⟨b,o,none⟩) 7 c
 | 13=>v=.pointer (some ⟨b,o+4,none⟩)
 | 14=>v=.string F4
 | 15=>∃ A4 c4,v=.slice A4 (cZ F4).length c4∧aI w 1 A4 (cZ F4).length ((cZ F4).map .string)∧wI w A4 (cZ F4).length 9∧(0<(cZ F4).length→∀ a,A4=some a→H≤a.block)
 | 16=>v=.slice (some ⟨b,o,none⟩) 7 c
 | 17=>v=.pointer (some ⟨b,o+6,none⟩)
 | 18=>v=.string F6
 | 19=>v=.int .i64 (sJ F6)
 | 20=>∃ A3 c3 A4 c4,v=.agg #[.int .i64 (sJ F0),.int .i64 (sJ F1),.string ⟨#[]⟩,.slice A3 (cZ F3).length c3,.slice A4 (cZ F4).length c4,.slice none 0 0,.int .i64 (sJ F6)]∧aI w 1 A3 (cZ F3).length ((cZ F3).map .string)∧wI w A3 (cZ F3).length 9∧aI w 1 A4 (cZ F4).length ((cZ F4).map .string)∧wI w A4 (cZ F4).length 9∧(0<(cZ F3).length→∀ a,A3=some a→H≤a.block)∧(0<(cZ F4).length→∀ a,A4=some a→H≤a.block)
 | 21=>∃ g,v=.pointer (some ⟨g,0,none⟩)∧H≤g∧aX w g 0 0 ⟨#[]⟩ none 0 0 none 0 0 none 0 0 0
 | _=>True
theorem D4.keep {b o c H:Nat} {F0 F1 F3 F4 F6:aC} (j:Nat) (v:Value) (w w':World) (h:D4 b o c H F0 F1 F3 F4 F6 j v w) (hb:Below w.heap.size w w'):D4 b o c H F0 F1 F3 F4 F6 j v w':=by
 unfold D4 at h
 split at h
 all_goals first
  | exact h
  | (obtain⟨A,c,e,hR,hT,hF⟩:=h;exact⟨A,c,e,hR.keep hb,hT.keep hb,hF⟩)
  | (obtain⟨A3,c3,A4,c4,e,r1,u1,r2,u2,f1,f2⟩:=h;exact⟨A3,c3,A4,c4,e,r1.keep hb,u1.keep hb,r2.keep hb,u2.keep hb,f1,f2⟩)
  | (obtain⟨g,e,hg,hx⟩:=h;exact⟨g,e,hg,Blk.keep hx hb⟩)
  | (unfold D4;split <;> first | trivial | (exfalso;simp_all;done))
def E11 (g:Nat) (AS:Option Addr) (k cS qb qo n cl:Nat) (x:aC) (j:Nat) (v:Value) (w:World):Prop :=
 match j with
 | 0=>v=.pointer (some ⟨g,5,none⟩)
 | 1=>v=.slice AS k cS
 | 2=>v=.slice (some ⟨qb,qo,none⟩) n cl
 | 3=>v=.int .i64 k
 | 4=>v=.pointer (some ⟨qb,qo+k,none⟩)
 | 5=>v=.string x
 | 6=>v=.int .i64 (sJ x)
 | 7=>∃ bb,v=.slice (some ⟨bb,0,none⟩) 1 1∧w.cell? ⟨bb,0,none⟩=some (.int .i64 (sJ x))
 | _=>True
theorem E11.keep {g:Nat} {AS:Option Addr} {k cS qb qo n cl:Nat} {x:aC} (j:Nat) (v:Value) (w w':World) (h:E11 g AS k cS qb qo n cl x j v w) (hb:Below w.heap.size w w'):E11 g AS k cS qb qo n cl x j v w':=by
 unfold E11 at h
 split at h
 all_goals first
  | exact h
  | (obtain⟨b,e,hc⟩:=h;exact⟨b,e,aW hb hc⟩)
  | (unfold E11;split <;> first | trivial | (exfalso;simp_all;done))
def RMadePostF (X:aY) (f:Int) (w:World) (e:Ending) (w':World):Prop:=Below w.heap.size w w'∧∃ n:ae,e=.returned (.agg #[.int .i64 X.fr,.int .i64 X.till,.string X.pat,.slice n.A X.cl.length n.ca,.slice n.B X.co.length n.cb,.slice n.S X.si.length n.cs,.int .i64 X.us,.int .i64 f])∧dA w' X n∧(0<X.cl.length→∀ a,n.A=some a→w.heap.size≤a.block)∧(0<X.co.length→∀ a,n.B=some a→w.heap.size≤a.block)∧(0<X.si.length→∀ a,n.S=some a→w.heap.size≤a.block)
theorem rParse21F_any (s:aC) (w:World) (hs:s.size≤100000) :
  Calls Tryz.prog 82 #[.string s] w (RMadePostF ((pU s).getD ed) (if (pU s).isSome then 0 else 3) w):=by
 have hz:∀ k,((splitB 32 s).getD k aT).size≤100000:=by
  intro k
  rw[List.getD_eq_getElem?_getD]
  cases h:(splitB 32 s)[k]? with
  | none=>show aT.size≤_;decide
  | some x=>have:=oU 32 s x (List.mem_of_getElem? h);simp;omega
 have hf:=fun W=>rFields_any s 32 W (by omega)
 obtain⟨X,hX⟩:∃ X,X=(pU s).getD ed:=⟨_,rfl⟩
 obtain⟨ER,hER⟩:∃ x:Int,x=(if (pU s).isSome then 0 else 3):=⟨_,rfl⟩
 rw[←hX,←hER]
 unfold pU at hX hER
 have hft:=MR sJ (splitB 32 s) (MQ s hs)
 have hsz:∀ x∈splitB 32 s,x.size≤100000:=fun x hx=>by have:=oU 32 s x hx;omega
 generalize splitB 32 s=Ls at *
 have HFT:=Lib.hid hft;have HSZ:=Lib.hid hsz;clear hft hsz
 have HF:=Lib.hid hf;have HX:=Lib.hid hX;have HER:=Lib.hid hER;have HZ0:=Lib.hid hz
 clear hf hX hER hz
 go_enter Tryz.func82,Tryz.ntmps82
 go_upto_region 2 with (go_at_call 142;refine (HF.out _).mono ?_;rintro e w2 ⟨A,c,rfl,hown,hb2⟩)
 have hM:Blk w2 w.heap.size 90 #[.int .i64 0,.int .i64 0,.string ⟨#[]⟩,.slice none 0 0,.slice none 0 0,.slice none 0 0,.int .i64 0,.int .i64 0] (0,0):=Blk.keep (World.alloc_heap_new _ _) hb2
 have hbw:Below w.heap.size w w2:=(aU (Below.refl _ _) _).trans (hb2.mono (by simp))
 have hRd:=aI.of_own hown
 clear hown hb2 HF
 obtain⟨n,hn⟩:∃ n,n=Ls.length:=⟨_,rfl⟩
 rw[←hn]at hRd ⊢
 by_cases h7:n=7
 ·subst h7
  obtain⟨F0,F1,F2,F3,F4,F5,F6,rfl⟩:=list7 hn.symm
  obtain⟨b,o,rfl,hcell⟩:=hRd.2 (by decide)
  have hlb:b<w2.heap.size:=yR hRd (by decide) _ rfl
  have hc0:w2.cell? ⟨b,o,none⟩=some (.string F0):=hcell 0 _ rfl
  have hc1:w2.cell? ⟨b,o+1,none⟩=some (.string F1):=hcell 1 _ rfl
  have hc2:w2.cell? ⟨b,o+2,none⟩=some (.string F2):=hcell 2 _ rfl
  have hc3:w2.cell? ⟨b,o+3,none⟩=some (.string F3):=hcell 3 _ rfl
  have hc4:w2.cell? ⟨b,o+4,none⟩=some (.string F4):=hcell 4 _ rfl
  have hc5:w2.cell? ⟨b,o+5,none⟩=some (.string F5):=hcell 5 _ rfl
  have hc6:w2.cell? ⟨b,o+6,none⟩=some (.string F6):=hcell 6 _ rfl
  have hbd:w2.heap.size≤w2.drew.heap.size:=Nat.le_refl _
  have HC0:=Lib.hid (aW (Below.drew (Below.refl _ _)) hc0);have HC1:=Lib.hid (aW (Below.drew (Below.refl _ _)) hc1);have HC3:=Lib.hid (aW (Below.drew (Below.refl _ _)) hc3);have HC4:=Lib.hid (aW (Below.drew (Below.refl _ _)) hc4);have HC6:=Lib.hid (aW (Below.drew (Below.refl _ _)) hc6)
  have HC2:=Lib.hid hc2;have HC5:=Lib.hid hc5
  have HZ:Hid (F0.size≤4294967281∧F1.size≤4294967281∧F3.size≤4294967281∧F4.size≤4294967281∧F6.size≤4294967281):=Lib.hid ⟨Nat.le_trans (HZ0.out 0) (by decide),Nat.le_trans (HZ0.out 1) (by decide),Nat.le_trans (HZ0.out 3) (by decide),Nat.le_trans (HZ0.out 4) (by decide),Nat.le_trans (HZ0.out 6) (by decide)⟩
  have hz5:F5.size≤100000:=HZ0.out 5
  clear hc0 hc1 hc2 hc3 hc4 hc5 hc6 hcell hRd hn hbd
  go_upto_region 4 with fail
  go_cut [4] (fun v wx=>∃ g,v=.pointer (some ⟨g,0,none⟩)∧(w2.heap.size≤g∧g<wx.heap.size)∧(∃ A3 c3 A4 c4,aX wx g (sJ F0) (sJ F1) ⟨#[]⟩ A3 (cZ F3).length c3 A4 (cZ F4).length c4 none 0 0 (sJ F6)∧(aI wx 1 A3 (cZ F3).length ((cZ F3).map .string)∧aI wx 1 A4 (cZ F4).length ((cZ F4).map .string))∧(0<(cZ F3).length→∀ a,A3=some a→a.block≠g)∧(0<(cZ F4).length→∀ a,A4=some a→a.block≠g)∧(0<(cZ F3).length→∀ a,A3=some a→a.block≠w.heap.size)∧(0<(cZ F4).length→∀ a,A4=some a→a.block≠w.heap.size)∧(0<(cZ F3).length→∀ a,A3=some a→w2.heap.size≤a.block)∧(0<(cZ F4).length→∀ a,A4=some a→w2.heap.size≤a.block))∧Below w2.heap.size w2 wx)
  case first =>
   refine qI 22 (by kernel_rfl) (by kernel_rfl) (fun a b=>Below a.heap.size a b) (fun a=>Below.refl _ _) (fun a b c h k=>h.trans (k.mono h.size)) (D4 b o c w2.heap.size F0 F1 F3 F4 F6) D4.keep (fun _ _=>True) trivial ?_ ?_
   ·skip
    refine dL ?_ (dL ?_ (dL ?_ (dL ?_ (dL ?_ (dL ?_ (dL ?_ (dL ?_ (dL ?_ (dL ?_ (dL ?_ (dL ?_ (dL ?_ (dL ?_ (dL ?_ (dL ?_ (dL ?_ (dL ?_ (dL ?_ (dL ?_ (dL ?_ (dL ?_ (uu))))))))))))))))))))))
    ·intro ho L a W hC hi hl hJ hG hA hd
     have t3:a.eval (.tmp 3)=.slice (some ⟨b,o,none⟩) 7 c:=pF hA (by kernel_rfl)
     have u3:=(dM a 3).trans t3
     exact kR (W':=W) ho rfl (by simp[go_sem,execOp,u3]) ⟨rfl,Below.refl _ _,trivial⟩
    ·intro ho L a W hC hi hl hJ hG hA hd
     have t14:a.eval (.tmp 14)=.slice (some ⟨b,o,none⟩) 7 c:=by have:=hd _ (Array.mem_of_getElem? (i:=0) rfl) rfl;exact this
     have u14:=(dM a 14).trans t14
     exact kR (W':=W) ho rfl (by simp[go_sem,execOp,u14]) ⟨rfl,Below.refl _ _,trivial⟩
    ·intro ho L a W hC hi hl hJ hG hA hd
     have t15:a.eval (.tmp 15)=.pointer (some ⟨b,o,none⟩):=by have:=hd _ (Array.mem_of_getElem? (i:=0) rfl) rfl;exact this
     have u15:=(dM a 15).trans t15
     have hcj:=aW hG (HC0.out)
     exact kR (W':=W) ho rfl (by simp[go_sem,execOp,u15,hcj]) ⟨rfl,Below.refl _ _,trivial⟩
    ·intro ho L a W hC hi hl hJ hG hA hd
     have t16:a.eval (.tmp 16)=.string F0:=by have:=hd _ (Array.mem_of_getElem? (i:=0) rfl) rfl;exact this
     have u16:=(dM a 16).trans t16
     refine lM (f:=143) (args:=#[.string F0]) ho rfl (by simp[go_sem,execOp,u16]) ?_
     refine (rNumber_any F0 W (HZ.out.1)).mono ?_
     rintro e W' ⟨rfl,hb'⟩
     exact⟨_,rfl,rfl,hb',trivial⟩
    ·intro ho L a W hC hi hl hJ hG hA hd
     have t3:a.eval (.tmp 3)=.slice (some ⟨b,o,none⟩) 7 c:=pF hA (by kernel_rfl)
     have u3:=(dM a 3).trans t3
     exact kR (W':=W) ho rfl (by simp[go_sem,execOp,u3]) ⟨rfl,Below.refl _ _,trivial⟩
    ·intro ho L a W hC hi hl hJ hG hA hd
     have t18:a.eval (.tmp 18)=.slice (some ⟨b,o,none⟩) 7 c:=by have:=hd _ (Array.mem_of_getElem? (i:=0) rfl) rfl;exact this
     have u18:=(dM a 18).trans t18
     exact kR (W':=W) ho rfl (by simp[go_sem,execOp,u18]) ⟨rfl,Below.refl _ _,trivial⟩
    ·intro ho L a W hC hi hl hJ hG hA hd
     have t19:a.eval (.tmp 19)=.pointer (some ⟨b,o+1,none⟩):=by have:=hd _ (Array.mem_of_getElem? (i:=0) rfl) rfl;exact this
     have u19:=(dM a 19).trans t19
     have hcj:=aW hG (HC1.out)
     exact kR (W':=W) ho rfl (by simp[go_sem,execOp,u19,hcj]) ⟨rfl,Below.refl _ _,trivial⟩
    ·intro ho L a W hC hi hl hJ hG hA hd
     have t20:a.eval (.tmp 20)=.string F1:=by have:=hd _ (Array.mem_of_getElem? (i:=0) rfl) rfl;exact this
     have u20:=(dM a 20).trans t20
     refine lM (f:=143) (args:=#[.string F1]) ho rfl (by simp[go_sem,execOp,u20]) ?_
     refine (rNumber_any F1 W (HZ.out.2.1)).mono ?_
     rintro e W' ⟨rfl,hb'⟩
     exact⟨_,rfl,rfl,hb',trivial⟩
    ·intro ho L a W hC hi hl hJ hG hA hd
     have t3:a.eval (.tmp 3)=.slice (some ⟨b,o,none⟩) 7 c:=pF hA (by kernel_rfl)
     have u3:=(dM a 3).trans t3
     exact kR (W':=W) ho rfl (by simp[go_sem,execOp,u3]) ⟨rfl,Below.refl _ _,trivial⟩
    ·intro ho L a W hC hi hl hJ hG hA hd
     have t22:a.eval (.tmp 22)=.slice (some ⟨b,o,none⟩) 7 c:=by have:=hd _ (Array.mem_of_getElem? (i:=0) rfl) rfl;exact this
     have u22:=(dM a 22).trans t22
     exact kR (W':=W) ho rfl (by simp[go_sem,execOp,u22]) ⟨rfl,Below.refl _ _,trivial⟩
    ·intro ho L a W hC hi hl hJ hG hA hd
     have t23:a.eval (.tmp 23)=.pointer (some ⟨b,o+3,none⟩):=by have:=hd _ (Array.mem_of_getElem? (i:=0) rfl) rfl;exact this
     have u23:=(dM a 23).trans t23
     have hcj:=aW hG (HC3.out)
     exact kR (W':=W) ho rfl (by simp[go_sem,execOp,u23,hcj]) ⟨rfl,Below.refl _ _,trivial⟩
    ·intro ho L a W hC hi hl hJ hG hA hd
     have t24:a.eval (.tmp 24)=.string F3:=by have:=hd _ (Array.mem_of_getElem? (i:=0) rfl) rfl;exact this
     have u24:=(dM a 24).trans t24
     refine lM (f:=144) (args:=#[.string F3]) ho rfl (by simp[go_sem,execOp,u24]) ?_
     refine (rListOwn F3 W (HZ.out.2.2.1)).mono ?_
     rintro e W' ⟨A,c',rfl,ho',hb'⟩
     exact⟨_,rfl,⟨A,c',rfl,aI.of_own ho',wI.of_own ho',fun h0 a ha=>Nat.le_trans (show w2.heap.size≤W.heap.size from hG.size) (Ky ho' a.block (by rw[ha];rfl)).1⟩,hb',trivial⟩
    ·intro ho L a W hC hi hl hJ hG hA hd
     have t3:a.eval (.tmp 3)=.slice (some ⟨b,o,none⟩) 7 c:=pF hA (by kernel_rfl)
     have u3:=(dM a 3).trans t3
     exact kR (W':=W) ho rfl (by simp[go_sem,execOp,u3]) ⟨rfl,Below.refl _ _,trivial⟩
    ·intro ho L a W hC hi hl hJ hG hA hd
     have t26:a.eval (.tmp 26)=.slice (some ⟨b,o,none⟩) 7 c:=by have:=hd _ (Array.mem_of_getElem? (i:=0) rfl) rfl;exact this
     have u26:=(dM a 26).trans t26
     exact kR (W':=W) ho rfl (by simp[go_sem,execOp,u26]) ⟨rfl,Below.refl _ _,trivial⟩
    ·intro ho L a W hC hi hl hJ hG hA hd
     have t27:a.eval (.tmp 27)=.pointer (some ⟨b,o+4,none⟩):=by have:=hd _ (Array.mem_of_getElem? (i:=0) rfl) rfl;exact this
     have u27:=(dM a 27).trans t27
     have hcj:=aW hG (HC4.out)
     exact kR (W':=W) ho rfl (by simp[go_sem,execOp,u27,hcj]) ⟨rfl,Below.refl _ _,trivial⟩
    ·intro ho L a W hC hi hl hJ hG hA hd
     have t28:a.eval (.tmp 28)=.string F4:=by have:=hd _ (Array.mem_of_getElem? (i:=0) rfl) rfl;exact this
     have u28:=(dM a 28).trans t28
     refine lM (f:=144) (args:=#[.string F4]) ho rfl (by simp[go_sem,execOp,u28]) ?_
     refine (rListOwn F4 W (HZ.out.2.2.2.1)).mono ?_
     rintro e W' ⟨A,c',rfl,ho',hb'⟩
     exact⟨_,rfl,⟨A,c',rfl,aI.of_own ho',wI.of_own ho',fun h0 a ha=>Nat.le_trans (show w2.heap.size≤W.heap.size from hG.size) (Ky ho' a.block (by rw[ha];rfl)).1⟩,hb',trivial⟩
    ·intro ho L a W hC hi hl hJ hG hA hd
     have t3:a.eval (.tmp 3)=.slice (some ⟨b,o,none⟩) 7 c:=pF hA (by kernel_rfl)
     have u3:=(dM a 3).trans t3
     exact kR (W':=W) ho rfl (by simp[go_sem,execOp,u3]) ⟨rfl,Below.refl _ _,trivial⟩
    ·intro ho L a W hC hi hl hJ hG hA hd
     have t30:a.eval (.tmp 30)=.slice (some ⟨b,o,none⟩) 7 c:=by have:=hd _ (Array.mem_of_getElem? (i:=0) rfl) rfl;exact this
     have u30:=(dM a 30).trans t30
     exact kR (W':=W) ho rfl (by simp[go_sem,execOp,u30]) ⟨rfl,Below.refl _ _,trivial⟩
    ·intro ho L a W hC hi hl hJ hG hA hd
     have t31:a.eval (.tmp 31)=.pointer (some ⟨b,o+6,none⟩):=by have:=hd _ (Array.mem_of_getElem? (i:=0) rfl) rfl;exact this
     have u31:=(dM a 31).trans t31
     have hcj:=aW hG (HC6.out)
     exact kR (W':=W) ho rfl (by simp[go_sem,execOp,u31,hcj]) ⟨rfl,Below.refl _ _,trivial⟩
    ·intro ho L a W hC hi hl hJ hG hA hd
     have t32:a.eval (.tmp 32)=.string F6:=by have:=hd _ (Array.mem_of_getElem? (i:=0) rfl) rfl;exact this
     have u32:=(dM a 32).trans t32
     refine lM (f:=143) (args:=#[.string F6]) ho rfl (by simp[go_sem,execOp,u32]) ?_
     refine (rNumber_any F6 W (HZ.out.2.2.2.2)).mono ?_
     rintro e W' ⟨rfl,hb'⟩
     exact⟨_,rfl,rfl,hb',trivial⟩
    ·intro ho L a W hC hi hl hJ hG hA hd
     have t17:a.eval (.tmp 17)=.int .i64 (sJ F0):=by have:=hd _ (Array.mem_of_getElem? (i:=0) rfl) rfl;exact this
     have u17:=(dM a 17).trans t17
     have t21:a.eval (.tmp 21)=.int .i64 (sJ F1):=by have:=hd _ (Array.mem_of_getElem? (i:=1) rfl) rfl;exact this
     have u21:=(dM a 21).trans t21
     obtain⟨A3,c3,t25,x25_0,x25_1,x25_2⟩:∃ A3 c3,a.eval (.tmp 25)=.slice A3 (cZ F3).length c3∧aI W 1 A3 (cZ F3).length ((cZ F3).map .string)∧wI W A3 (cZ F3).length 9∧(0<(cZ F3).length→∀ a,A3=some a→w2.heap.size≤a.block):=by have:=hd _ (Array.mem_of_getElem? (i:=2) rfl) rfl;exact this
     have u25:=(dM a 25).trans t25
     obtain⟨A4,c4,t29,x29_0,x29_1,x29_2⟩:∃ A4 c4,a.eval (.tmp 29)=.slice A4 (cZ F4).length c4∧aI W 1 A4 (cZ F4).length ((cZ F4).map .string)∧wI W A4 (cZ F4).length 9∧(0<(cZ F4).length→∀ a,A4=some a→w2.heap.size≤a.block):=by have:=hd _ (Array.mem_of_getElem? (i:=3) rfl) rfl;exact this
     have u29:=(dM a 29).trans t29
     have t33:a.eval (.tmp 33)=.int .i64 (sJ F6):=by have:=hd _ (Array.mem_of_getElem? (i:=4) rfl) rfl;exact this
     have u33:=(dM a 33).trans t33
     exact kR (v:=.agg #[.int .i64 (sJ F0),.int .i64 (sJ F1),.string ⟨#[]⟩,.slice A3 (cZ F3).length c3,.slice A4 (cZ F4).length c4,.slice none 0 0,.int .i64 (sJ F6)]) (W':=W) ho rfl (by simp[go_sem,execOp,u17,u21,u25,u29,u33]) ⟨⟨A3,c3,A4,c4,rfl,x25_0,x25_1,x29_0,x29_1,x25_2,x29_2⟩,Below.refl _ _,trivial⟩
    ·intro ho L a W hC hi hl hJ hG hA hd
     exact kR (v:=.pointer (some ⟨W.heap.size,0,none⟩)) (W':=W.alloc (.cells #[.int .i64 0,.int .i64 0,.string ⟨#[]⟩,.slice none 0 0,.slice none 0 0,.slice none 0 0,.int .i64 0] 27)) ho rfl (by simp[go_sem,execOp]) ⟨⟨W.heap.size,rfl,hG.size,World.alloc_heap_new _ _⟩,aU (Below.refl _ _) _,trivial⟩
   ·intro vals w' hG _ hD
    obtain⟨A3,c3,A4,c4,e20,q1,u1,q2,u2,f3,f4⟩:∃ A3 c3 A4 c4,vals 20=.agg #[.int .i64 (sJ F0),.int .i64 (sJ F1),.string ⟨#[]⟩,.slice A3 (cZ F3).length c3,.slice A4 (cZ F4).length c4,.slice none 0 0,.int .i64 (sJ F6)]∧aI w' 1 A3 (cZ F3).length ((cZ F3).map .string)∧wI w' A3 (cZ F3).length 9∧aI w' 1 A4 (cZ F4).length ((cZ F4).map .string)∧wI w' A4 (cZ F4).length 9∧(0<(cZ F3).length→∀ a,A3=some a→w2.heap.size≤a.block)∧(0<(cZ F4).length→∀ a,A4=some a→w2.heap.size≤a.block):=hD 20 (by omega)
    obtain⟨g,e21,hg,hbox⟩:∃ g,vals 21=.pointer (some ⟨g,0,none⟩)∧w2.heap.size≤g∧aX w' g 0 0 ⟨#[]⟩ none 0 0 none 0 0 none 0 0 0:=hD 21 (by omega)
    have hbd:Below w2.heap.size w2 w':=(Below.drew (Below.refl _ _)).trans hG
    dsimp only[List.drop,List.take,aZ]
    rw[e20,e21]
    obtain⟨x0,x1,x2,x3,x4,x5,x6⟩:=aX.facts hbox
    have z0:=Blk.free0 hbox 0;have z1:=Blk.free0 hbox 1;have z2:=Blk.free0 hbox 2;have z3:=Blk.free0 hbox 3;have z4:=Blk.free0 hbox 4;have z5:=Blk.free0 hbox 5;have z6:=Blk.free0 hbox 6
    have hgl:=Blk.lt hbox
    have hMd:=Blk.keep hM hbd
    clear hG hD HC0 HC1 HC2 HC3 HC4 HC5 HC6
    go_wp2
    go_meet
    have hb7:=DD (w:=w') (g:=g) (v0:=.int .i64 (sJ F0)) (v1:=.int .i64 (sJ F1)) (v2:=.string ⟨#[]⟩) (v3:=.slice A3 (cZ F3).length c3) (v4:=.slice A4 (cZ F4).length c4) (v5:=.slice none 0 0) (v6:=.int .i64 (sJ F6))
    exact⟨g,rfl,⟨hg,Nat.lt_of_lt_of_le hgl hb7.size⟩,⟨A3,c3,A4,c4,aX.put hbox _ _ _ _ _ _ _ _ _ _ _ _ _,⟨hb7.reads q1 (u1.off hbox (by decide)),hb7.reads q2 (u2.off hbox (by decide))⟩,u1.off hbox (by decide),u2.off hbox (by decide),u1.off hMd (by decide),u2.off hMd (by decide),f3,f4⟩,hbd.trans (hb7.below hg hbd.size)⟩
  case rest =>
   clear HC0 HC1 HC3 HC4 HC6 HZ
   obtain⟨g,rfl,⟨hg,hgl⟩,⟨A3,c3,A4,c4,hB,⟨q1,q2⟩,o1,o2,ov3,ov4,fr3,fr4⟩,hb4⟩:=hcut
   have HV:=Lib.hid (And.intro ov3 ov4)
   have hwl2:=hbw.size
   have HFR:Hid ((0<(cZ F3).length→∀ a,A3=some a→w.heap.size≤a.block)∧(0<(cZ F4).length→∀ a,A4=some a→w.heap.size≤a.block)):=Lib.hid ⟨fun h0 a ha=>Nat.le_trans hwl2 (fr3 h0 a ha),fun h0 a ha=>Nat.le_trans hwl2 (fr4 h0 a ha)⟩
   clear ov3 ov4 fr3 fr4 hwl2
   have hM4:=Blk.keep hM hb4
   have hbw4:=aV hbw hb4
   have hwg:w.heap.size<g:=Nat.lt_of_lt_of_le (Blk.lt hM) hg
   have hc2:=aW hb4 HC2.out
   have hc5:=aW hb4 HC5.out
   have hbg:b≠g:=by omega
   have l3:=yR q1
   have l4:=yR q2
   clear hM hbw HC2 HC5 hb4
   obtain⟨x0,x1,x2,x3,x4,x5,x6⟩:=aX.facts hB
   have z2:=Blk.free0 hB 2
   go_upto_if 38 with fail
   go_cut [] (fun wx=>aX wx g (sJ F0) (sJ F1) (unT F2) A3 (cZ F3).length c3 A4 (cZ F4).length c4 none 0 0 (sJ F6)∧But g wc wx)
   case first =>
    clear l3 l4 hc5 hM4 hbw4 o1 o2 q1 q2
    by_cases hx:F2.data.toList=[126]
    ·have e1:(F2.toList == [126])=true:=by rw[Lib.toList_data];simpa using hx
     have hU:unT F2=⟨#[]⟩:=by unfold unT;rw[if_pos hx]
     clear hx
     rw[e1]
     go_wp2
     go_meet
     rw[hU]
     exact⟨hB,But.refl _ _⟩
    ·have e1:(F2.toList == [126])=false:=by rw[Lib.toList_data];simpa using hx
     have hU:unT F2=F2:=by unfold unT;rw[if_neg hx]
     clear hx
     rw[e1]
     go_wp2
     go_meet
     rw[hU]
     exact⟨aX.s2 hB _,But.set _ _ _ _⟩
   case rest =>
    clear x0 x1 x2 x3 x4 x5 x6 z2 hB hc2
    obtain⟨hB,hbut⟩:=hcut
    have q1:=hbut.reads q1 o1
    have q2:=hbut.reads q2 o2
    have hM:=hbut.blk hM4 (by omega)
    have hbw:=hbw4.trans (hbut.below (B:=w.heap.size) (by omega) hbw4.size)
    have hc5:=hbut.cell hc5 hbg
    have l3:=yR q1
    have l4:=yR q2
    have hgl2:=Nat.lt_of_lt_of_le hgl hbut.size
    obtain⟨PT,hPT⟩:∃ P,P=unT F2:=⟨_,rfl⟩
    rw[←hPT]at hB
    have HPT:=Lib.hid hPT
    clear hPT hbut hM4 hbw4
    obtain⟨X5,hX5⟩:∃ X,X=cZ F5:=⟨_,rfl⟩
    obtain⟨n5,hn5⟩:∃ n,n=X5.length:=⟨_,rfl⟩
    have hxs:∀ x∈X5,x.size≤100000:=by rw[hX5];intro x hx;have:=Kv F5 x hx;omega
    have hn5b:n5≤100001:=by rw[hn5,hX5];have:=Ku F5;omega
    have hli:∀ W,Calls Tryz.prog 144 #[.string F5] W fun e w'=>∃ A c,e=.returned (.slice A n5 c)∧w'.ownsRow W.heap.size 9 1 (.slice A n5 c) n5 (X5.map .string)∧Below W.heap.size W w':=by
     intro W
     have h:=rListOwn F5 W (by omega)
     rw[hn5,hX5]
     exact h
    have HLI:=Lib.hid hli;have HX5:=Lib.hid hX5;have HN5:=Lib.hid hn5;have HXS:=Lib.hid hxs
    clear hli hX5 hn5 hxs
    obtain⟨i0,hi0,hz0,hz1,hz2⟩:=info_parts infoInt7
    have HI:Hid ((Tryz.prog.info? 3=some i0)∧i0.zero=some (.int .i64 0)∧i0.size=1∧i0.bytes=8):=Lib.hid ⟨hi0,hz0,hz1,hz2⟩
    clear hi0 hz0 hz1 hz2
    have hwg2:w.heap.size<g:=hwg
    go_wp2_with (go_at_call 144;refine (HLI.out _).mono ?_;rintro e w3 ⟨AL,cl,rfl,howl,hb3⟩)
    clear hc5
    obtain⟨hi,hhi⟩:∃ hi,hi=w3.heap.size:=⟨_,rfl⟩
    have hRl:=aI.of_own howl
    have l5:=yR hRl
    have hs3:=hb3.size
    have hB3:aX w3 g (sJ F0) (sJ F1) PT A3 (cZ F3).length c3 A4 (cZ F4).length c4 none 0 0 (sJ F6):=Blk.keep hB hb3
    have HH0:=Lib.hid (show (aI w3 1 A3 (cZ F3).length ((cZ F3).map .string)∧aI w3 1 A4 (cZ F4).length ((cZ F4).map .string)∧aI w3 1 AL n5 (X5.map .string)∧Blk w3 w.heap.size 90 #[.int .i64 0,.int .i64 0,.string ⟨#[]⟩,.slice none 0 0,.slice none 0 0,.slice none 0 0,.int .i64 0,.int .i64 0] (0,0)∧Below w.heap.size w w3) from⟨q1.keep hb3,q2.keep hb3,hRl,Blk.keep hM hb3,aV hbw hb3⟩)
    have hl3:0<(cZ F3).length→∀ a,A3=some a→a.block<hi:=fun h0 a ha=>by have:=l3 h0 a ha;omega
    have hl4:0<(cZ F4).length→∀ a,A4=some a→a.block<hi:=fun h0 a ha=>by have:=l4 h0 a ha;omega
    have hl5:0<n5→∀ a,AL=some a→a.block<hi:=by rw[hhi];exact l5
    have hgi:g<hi:=by omega
    have hhi2:hi≤w3.heap.size:=Nat.le_of_eq hhi
    have HO:Hid (w.heap.size<g∧w.heap.size<hi):=Lib.hid ⟨hwg2,by omega⟩
    have HL:Hid ((0<(cZ F3).length→∀ a,A3=some a→a.block<hi)∧(0<(cZ F4).length→∀ a,A4=some a→a.block<hi)∧(0<n5→∀ a,AL=some a→a.block<hi)):=Lib.hid ⟨hl3,hl4,hl5⟩
    have o5:0<n5→∀ a,AL=some a→a.block≠g:=fun h0 a ha=>by have:=(Ky howl a.block (by rw[ha];rfl)).1;omega
    have HW:=Lib.hid (And.intro o1 (And.intro o2 o5))
    clear q1 q2 l3 l4 l5 hM hbw hRl howl hb3 hB hl3 hl4 hl5 hs3 hhi o1 o2 o5 hz5 HSZ HLI hgl2 hgl hg hlb hbg
    go_loopw [6] (fun vi wr=>∃ (k:Nat) (AS:Option Addr) (cS:Nat),(vi=.int .i64 k∧k≤n5)∧aX wr g (sJ F0) (sJ F1) PT A3 (cZ F3).length c3 A4 (cZ F4).length c4 AS k cS (sJ F6)∧wr.ownsRow hi 3 1 (.slice AS k cS) k ((X5.take k).map fun x=>.int .i64 (sJ x))∧Hid (aI wr 1 A3 (cZ F3).length ((cZ F3).map .string)∧aI wr 1 A4 (cZ F4).length ((cZ F4).map .string)∧aI wr 1 AL n5 (X5.map .string)∧Blk wr w.heap.size 90 #[.int .i64 0,.int .i64 0,.string ⟨#[]⟩,.slice none 0 0,.slice none 0 0,.slice none 0 0,.int .i64 0,.int .i64 0] (0,0)∧Below w.heap.size w wr)∧hi≤wr.heap.size) (fun i _=>n5-(intOf i).toNat)
    case atStart=>exact⟨0,none,0,⟨rfl,Nat.zero_le _⟩,hB3,World.ownsRow_nil _ _ _ _,HH0,hhi2⟩
    case round =>
     obtain⟨k,AS,cS,⟨rfl,hk⟩,hB,hown,hHo,hsz⟩:=hrel
     clear hB3 HH0 hhi2
     by_cases hlt:k<n5
     ·obtain⟨x,hx⟩:∃ x,X5[k]? = some x:=⟨_,List.getElem?_eq_getElem (by have:=HN5.out;omega)⟩
      obtain⟨qb,qo,rfl,hcell⟩:=hHo.out.2.2.1.2 (by omega)
      have hcx0:wr.cell? ⟨qb,qo+k,none⟩=some (.string x):=hcell k _ (by simp[hx])
      have hxz:=HXS.out x (List.mem_of_getElem? hx)
      have htk:(X5.take (k+1)).map (fun x=>Value.int .i64 (sJ x))=(X5.take k).map (fun x=>Value.int .i64 (sJ x))++[.int .i64 (sJ x)]:=by rw[List.take_add_one,hx];simp
      have HTK:=Lib.hid htk
      clear hx htk hcell
      have hk0:(0:Int)≤(k:Int):=by omega
      have hk1:(k:Int)<(n5:Int):=by omega
      have hcx:=aW (Below.drew (Below.refl _ _)) hcx0
      have hBd:aX wr.drew g (sJ F0) (sJ F1) PT A3 (cZ F3).length c3 A4 (cZ F4).length c4 AS k cS (sJ F6):=Blk.keep hB (Below.drew (Below.refl _ _))
      have hc5:=Blk.cell hBd 5
      simp only[List.getElem?_toArray,List.getElem?_cons_zero,List.getElem?_cons_succ]at hc5
      clear hcx0
      go_upto_region 11 with fail
      refine qI 8 (by kernel_rfl) (by kernel_rfl) (fun a b=>Below a.heap.size a b) (fun a=>Below.refl _ _) (fun a b c h k=>h.trans (k.mono h.size)) (E11 g AS k cS qb qo n5 cl x) E11.keep (fun _ _=>True) trivial ?_ ?_
      ·skip
       refine dL ?_ (dL ?_ (dL ?_ (dL ?_ (dL ?_ (dL ?_ (dL ?_ (dL ?_ (uu))))))))
       ·intro ho L a W hC hi hl hJ hG hA hd
        have t4:a.eval (.tmp 4)=.pointer (some ⟨g,0,none⟩):=pF hA (by kernel_rfl)
        have u4:=(dM a 4).trans t4
        exact kR (W':=W) ho rfl (by simp[go_sem,execOp,u4]) ⟨rfl,Below.refl _ _,trivial⟩
       ·intro ho L a W hC hi hl hJ hG hA hd
        have t53:a.eval (.tmp 53)=.pointer (some ⟨g,5,none⟩):=by have:=hd _ (Array.mem_of_getElem? (i:=0) rfl) rfl;exact this
        have u53:=(dM a 53).trans t53
        have hx5:=aW hG hc5
        exact kR (W':=W) ho rfl (by simp[go_sem,execOp,u53,hx5]) ⟨rfl,Below.refl _ _,trivial⟩
       ·intro ho L a W hC hi hl hJ hG hA hd
        have t5:a.eval (.tmp 5)=.slice (some ⟨qb,qo,none⟩) n5 cl:=pF hA (by kernel_rfl)
        have u5:=(dM a 5).trans t5
        exact kR (W':=W) ho rfl (by simp[go_sem,execOp,u5]) ⟨rfl,Below.refl _ _,trivial⟩
       ·intro ho L a W hC hi hl hJ hG hA hd
        have t6:a.eval (.tmp 6)=.int .i64 k:=pF hA (by kernel_rfl)
        have u6:=(dM a 6).trans t6
        exact kR (W':=W) ho rfl (by simp[go_sem,execOp,u6]) ⟨rfl,Below.refl _ _,trivial⟩
       ·intro ho L a W hC hi hl hJ hG hA hd
        have t55:a.eval (.tmp 55)=.slice (some ⟨qb,qo,none⟩) n5 cl:=by have:=hd _ (Array.mem_of_getElem? (i:=0) rfl) rfl;exact this
        have u55:=(dM a 55).trans t55
        have t56:a.eval (.tmp 56)=.int .i64 k:=by have:=hd _ (Array.mem_of_getElem? (i:=1) rfl) rfl;exact this
        have u56:=(dM a 56).trans t56
        exact kR (W':=W) ho rfl (by simp[go_sem,execOp,u55,u56,hk0,hk1]) ⟨rfl,Below.refl _ _,trivial⟩
       ·intro ho L a W hC hi hl hJ hG hA hd
        have t57:a.eval (.tmp 57)=.pointer (some ⟨qb,qo+k,none⟩):=by have:=hd _ (Array.mem_of_getElem? (i:=0) rfl) rfl;exact this
        have u57:=(dM a 57).trans t57
        have hcj:=aW hG hcx
        exact kR (W':=W) ho rfl (by simp[go_sem,execOp,u57,hcj]) ⟨rfl,Below.refl _ _,trivial⟩
       ·intro ho L a W hC hi hl hJ hG hA hd
        have t58:a.eval (.tmp 58)=.string x:=by have:=hd _ (Array.mem_of_getElem? (i:=0) rfl) rfl;exact this
        have u58:=(dM a 58).trans t58
        refine lM (f:=143) (args:=#[.string x]) ho rfl (by simp[go_sem,execOp,u58]) ?_
        refine (rNumber_any x W (by omega)).mono ?_
        rintro e W' ⟨rfl,hb'⟩
        exact⟨_,rfl,rfl,hb',trivial⟩
       ·intro ho L a W hC hi hl hJ hG hA hd
        have t59:a.eval (.tmp 59)=.int .i64 (sJ x):=by have:=hd _ (Array.mem_of_getElem? (i:=0) rfl) rfl;exact this
        have u59:=(dM a 59).trans t59
        exact kR (v:=.slice (some ⟨W.heap.size,0,none⟩) 1 1) (W':=W.alloc (.cells #[.int .i64 (sJ x)] 3)) ho rfl (by simp[go_sem,execOp,u59]) ⟨⟨_,rfl,Blk.cell (World.alloc_heap_new W (.cells #[.int .i64 (sJ x)] 3)) 0⟩,aU (Below.refl _ _) _,trivial⟩
      ·intro vals w' hG _ hD
       have e1:vals 1=.slice AS k cS:=hD 1 (by omega)
       obtain⟨bb,e7,hbc⟩:∃ bb,vals 7=.slice (some ⟨bb,0,none⟩) 1 1∧w'.cell? ⟨bb,0,none⟩=some (.int .i64 (sJ x)):=hD 7 (by omega)
       have hgs:wr.heap.size≤w'.heap.size:=hG.size
       have hG0:Below wr.heap.size wr w':=(Below.drew (Below.refl _ _)).trans hG
       have hB2:aX w' g (sJ F0) (sJ F1) PT A3 (cZ F3).length c3 A4 (cZ F4).length c4 AS k cS (sJ F6):=Blk.keep hB hG0
       have ho:=HO.out
       have hown2:=Kw (c:=w.heap.size) hown (But.of_below hG0) ho.2
       have hHo2:=hHo.out
       dsimp only[List.drop,List.take,aZ]
       rw[e1,e7]
       simp only[Act.put,List.setIfInBounds_toArray,List.set_cons_succ,List.set_cons_zero]
       refine wpList_append_own _ rfl (.tmp 54) (.tmp 60) 25 rfl hi 3 i0 (.int .i64 0) 1 8 Tryz.underlying25 HI.out.1 HI.out.2.1 HI.out.2.2.1 HI.out.2.2.2 rfl (by decide) _ k _ rfl hown2 ⟨bb,0,none⟩ 1 1 [.int .i64 (sJ x)] rfl rfl (Wn hbc) (by simp[Value.oneCell']) (by unfold maxLen;omega) (by omega) (by omega) ?_
       intro v' w3 hown3 hgrow _
       obtain⟨g',cap',rfl⟩:=ownsRow_succ hown3
       have hrc:=Ky hown2
       have hbl:=Wj hgrow (fun r e=>(hrc r e).1) (Nat.le_trans hsz hgs)
       have hB4:aX w3 g (sJ F0) (sJ F1) PT A3 (cZ F3).length c3 A4 (cZ F4).length c4 AS k cS (sJ F6):=(hbl.block g hgi).trans hB2
       obtain⟨hl3,hl4,hl5⟩:=HL.out
       have r3:=DF (hHo2.1.keep hG0) hbl hl3
       have r4:=DF (hHo2.2.1.keep hG0) hbl hl4
       have r5:=DF (hHo2.2.2.1.keep hG0) hbl hl5
       have hM4:=(hbl.block w.heap.size ho.2).trans (Blk.keep hHo2.2.2.2.1 hG0)
       have hbw4:=(aV hHo2.2.2.2.2 hG0).trans (hbl.mono (Nat.le_of_lt ho.2))
       have hs3:=hgrow.size
       have x5:=Blk.cell hB4 5
       simp only[List.getElem?_toArray,List.getElem?_cons_zero,List.getElem?_cons_succ]at x5
       have z5:=Blk.free0 hB4 5
       have lg:=Blk.lt hB4
       clear hB hB2 hBd hown hown2 hHo hHo2 hl3 hl4 hl5 hrc e1 e7 hD hbc hG hG0 hc5 hcx
       go_wp2
       exact⟨⟨k+1,some ⟨g',0,none⟩,cap',⟨by go_num,by omega⟩,hB4.s5 _ _ _,Kw (by rw[HTK.out];exact hown3) (But.set _ g 5 _) hgi,Lib.hid ⟨(But.set _ g 5 _).reads r3 HW.out.1,(But.set _ g 5 _).reads r4 HW.out.2.1,(But.set _ g 5 _).reads r5 HW.out.2.2,(But.set _ g 5 _).blk hM4 (by omega),hbw4.trans ((But.set _ g 5 _).below (by omega) hbw4.size)⟩,by simp[World.setCell];omega⟩,by simp[intOf];omega⟩
     ·obtain rfl:n5=k:=by omega
      rw[List.take_of_length_le (Nat.le_of_eq HN5.out.symm)]at hown
      have hCR:dA wr (fP sJ [F0,F1,F2,F3,F4,F5,F6]) ⟨A3,c3,A4,c4,AS,cS⟩:=by
       refine⟨hHo.out.1,hHo.out.2.1,?_⟩
       show aI wr 1 AS ((cZ F5).map sJ).length (((cZ F5).map sJ).map (.int .i64))
       rw[List.length_map,List.map_map,←HX5.out,←HN5.out]
       exact aI.of_own hown
      have ht:=rText_all (fP sJ [F0,F1,F2,F3,F4,F5,F6]) ⟨A3,c3,A4,c4,AS,cS⟩ wr hCR HFT.out
      have ec:ae.val (fP sJ [F0,F1,F2,F3,F4,F5,F6]) ⟨A3,c3,A4,c4,AS,cS⟩=.agg #[.int .i64 (sJ F0),.int .i64 (sJ F1),.string PT,.slice A3 (cZ F3).length c3,.slice A4 (cZ F4).length c4,.slice AS n5 cS,.int .i64 (sJ F6)]:=by
       show Value.agg #[.int .i64 (sJ F0),.int .i64 (sJ F1),.string (unT F2),.slice A3 (cZ F3).length c3,.slice A4 (cZ F4).length c4,.slice AS ((cZ F5).map sJ).length cS,.int .i64 (sJ F6)]=_
       rw[←HPT.out,List.length_map,←HX5.out,←HN5.out]
      rw[ec]at ht
      have h01:=textE_err (fP sJ [F0,F1,F2,F3,F4,F5,F6])
      have hiff:([F0,F1,F2,F3,F4,F5,F6].length=7∧bF (fP sJ [F0,F1,F2,F3,F4,F5,F6])=true∧bK (fP sJ [F0,F1,F2,F3,F4,F5,F6])=s)↔((kZ (fP sJ [F0,F1,F2,F3,F4,F5,F6])).2=0∧(kZ (fP sJ [F0,F1,F2,F3,F4,F5,F6])).1=s):=by
       rw[Xv]
       exact⟨fun h=>h.2,fun h=>⟨rfl,h⟩⟩
      generalize kZ (fP sJ [F0,F1,F2,F3,F4,F5,F6])=TE at *
      obtain⟨T1,T2⟩:=TE
      dsimp only at ht h01 hiff
      have lS:0<n5→∀ a,AS=some a→hi≤a.block:=fun h0 a ha=>(Ky hown a.block (by rw[ha];rfl)).1
      have HTX:=Lib.hid ht;have HIF:=Lib.hid hiff
      clear ht hiff hCR ec hlt hk
      obtain⟨x0,x1,x2,x3,x4,x5,x6⟩:=aX.facts hB
      have lg:=Blk.lt hB
      rcases h01 with rfl | rfl
      ·cases hts:(T1.toList==s.toList)
       ·have hno:¬ ([F0,F1,F2,F3,F4,F5,F6].length=7∧bF (fP sJ [F0,F1,F2,F3,F4,F5,F6])=true∧bK (fP sJ [F0,F1,F2,F3,F4,F5,F6])=s):=fun h=>by have h1:=(HIF.out.1 h).2;rw[h1]at hts;simp at hts
        go_upto_if 73 with (go_at_call 131;refine (HTX.out).mono ?_;rintro e w5 ⟨rfl,hb5⟩)
        obtain⟨W6,hW6⟩:∃ W6,W6=w5.alloc (.cells #[.string T1,.int .i64 0] 169):=⟨_,rfl⟩
        have hk6:Below wr.heap.size wr W6:=by rw[hW6];exact hb5.trans (aU (Below.refl _ _) _ |>.mono hb5.size)
        rw[←hW6]
        clear hW6 hb5
        have hM:Blk W6 w.heap.size 90 #[.int .i64 0,.int .i64 0,.string ⟨#[]⟩,.slice none 0 0,.slice none 0 0,.slice none 0 0,.int .i64 0,.int .i64 0] (0,0):=Blk.keep hHo.out.2.2.2.1 hk6
        have hbw:Below w.heap.size w W6:=aV hHo.out.2.2.2.2 hk6
        have hB6:aX W6 g (sJ F0) (sJ F1) PT A3 (cZ F3).length c3 A4 (cZ F4).length c4 AS n5 cS (sJ F6):=Blk.keep hB hk6
        have hR3:=hHo.out.1.keep hk6
        have hR4:=hHo.out.2.1.keep hk6
        have hR5:=(aI.of_own hown).keep hk6
        obtain⟨x0,x1,x2,x3,x4,x5,x6⟩:=aX.facts hB6
        have lg6:=Blk.lt hB6
        (have m0:=Blk.cell hM 0;have m1:=Blk.cell hM 1;have m2:=Blk.cell hM 2;have m3:=Blk.cell hM 3;have m4:=Blk.cell hM 4;have m5:=Blk.cell hM 5;have m6:=Blk.cell hM 6;have m7:=Blk.cell hM 7;have f0:=Blk.free0 hM 0;have f1:=Blk.free0 hM 1;have f2:=Blk.free0 hM 2;have f3:=Blk.free0 hM 3;have f4:=Blk.free0 hM 4;have f5:=Blk.free0 hM 5;have f6:=Blk.free0 hM 6;have f7:=Blk.free0 hM 7;have hzM:=Blk.lt hM;simp only[List.getElem?_toArray,List.getElem?_cons_zero,List.getElem?_cons_succ]at m0 m1 m2 m3 m4 m5 m6 m7)
        clear hB hown
        have hcond:¬ ([F0,F1,F2,F3,F4,F5,F6].length=7∧bF (fP sJ [F0,F1,F2,F3,F4,F5,F6])=true∧bK (fP sJ [F0,F1,F2,F3,F4,F5,F6])=s):=hno
        obtain rfl:X=ed:=by rw[HX.out,if_neg hcond];rfl
        obtain rfl:ER=3:=by rw[HER.out,if_neg hcond];rfl
        clear hcond hno
        go_wp2
        clear x0 x1 x2 x3 x4 x5 x6
        have hP:=blk_put8 hM (.int .i64 0) (.int .i64 0) (.string ⟨#[]⟩) (.slice none 0 0) (.slice none 0 0) (.slice none 0 0) (.int .i64 0) (.int .i64 3);have r0:=Blk.cell hP 0;have r1:=Blk.cell hP 1;have r2:=Blk.cell hP 2;have r3:=Blk.cell hP 3;have r4:=Blk.cell hP 4;have r5:=Blk.cell hP 5;have r6:=Blk.cell hP 6;have r7:=Blk.cell hP 7;simp only[List.getElem?_toArray,List.getElem?_cons_zero,List.getElem?_cons_succ]at r0 r1 r2 r3 r4 r5 r6 r7;(clear m0 m1 m2 m3 m4 m5 m6 m7 f0 f1 f2 f3 f4 f5 f6 f7)
        exact bodyPost_ret (v:=.agg #[.int .i64 0,.int .i64 0,.string ⟨#[]⟩,.slice none 0 0,.slice none 0 0,.slice none 0 0,.int .i64 0,.int .i64 3]) (by simp only[results,Tryz.results82];simp[go_sem,r0,r1,r2,r3,r4,r5,r6,r7]) rfl ⟨below_put8 hbw (Nat.le_refl _) _ _ _ _ _ _ _ _,⟨none,0,none,0,none,0⟩,rfl,⟨aI.nil_ _ _ _,aI.nil_ _ _ _,aI.nil_ _ _ _⟩,fun h=>absurd h (Nat.lt_irrefl 0),fun h=>absurd h (Nat.lt_irrefl 0),fun h=>absurd h (Nat.lt_irrefl 0)⟩
       ·have hyes : [F0,F1,F2,F3,F4,F5,F6].length=7∧bF (fP sJ [F0,F1,F2,F3,F4,F5,F6])=true∧bK (fP sJ [F0,F1,F2,F3,F4,F5,F6])=s:=HIF.out.2 ⟨rfl,by rw[beq_iff_eq,Lib.toList_data,Lib.toList_data]at hts;exact fK hts⟩
        go_upto_if 73 with (go_at_call 131;refine (HTX.out).mono ?_;rintro e w5 ⟨rfl,hb5⟩)
        obtain⟨W6,hW6⟩:∃ W6,W6=w5.alloc (.cells #[.string T1,.int .i64 0] 169):=⟨_,rfl⟩
        have hk6:Below wr.heap.size wr W6:=by rw[hW6];exact hb5.trans (aU (Below.refl _ _) _ |>.mono hb5.size)
        rw[←hW6]
        clear hW6 hb5
        have hM:Blk W6 w.heap.size 90 #[.int .i64 0,.int .i64 0,.string ⟨#[]⟩,.slice none 0 0,.slice none 0 0,.slice none 0 0,.int .i64 0,.int .i64 0] (0,0):=Blk.keep hHo.out.2.2.2.1 hk6
        have hbw:Below w.heap.size w W6:=aV hHo.out.2.2.2.2 hk6
        have hB6:aX W6 g (sJ F0) (sJ F1) PT A3 (cZ F3).length c3 A4 (cZ F4).length c4 AS n5 cS (sJ F6):=Blk.keep hB hk6
        have hR3:=hHo.out.1.keep hk6
        have hR4:=hHo.out.2.1.keep hk6
        have hR5:=(aI.of_own hown).keep hk6
        obtain⟨x0,x1,x2,x3,x4,x5,x6⟩:=aX.facts hB6
        have lg6:=Blk.lt hB6
        (have m0:=Blk.cell hM 0;have m1:=Blk.cell hM 1;have m2:=Blk.cell hM 2;have m3:=Blk.cell hM 3;have m4:=Blk.cell hM 4;have m5:=Blk.cell hM 5;have m6:=Blk.cell hM 6;have m7:=Blk.cell hM 7;have f0:=Blk.free0 hM 0;have f1:=Blk.free0 hM 1;have f2:=Blk.free0 hM 2;have f3:=Blk.free0 hM 3;have f4:=Blk.free0 hM 4;have f5:=Blk.free0 hM 5;have f6:=Blk.free0 hM 6;have f7:=Blk.free0 hM 7;have hzM:=Blk.lt hM;simp only[List.getElem?_toArray,List.getElem?_cons_zero,List.getElem?_cons_succ]at m0 m1 m2 m3 m4 m5 m6 m7)
        clear hB hown
        obtain rfl:X=fP sJ [F0,F1,F2,F3,F4,F5,F6]:=by rw[HX.out,if_pos hyes];rfl
        obtain rfl:ER=0:=by rw[HER.out,if_pos hyes];rfl
        clear hyes
        go_wp2
        clear x0 x1 x2 x3 x4 x5 x6
        have hP:=blk_put8 hM (.int .i64 (sJ F0)) (.int .i64 (sJ F1)) (.string PT) (.slice A3 (cZ F3).length c3) (.slice A4 (cZ F4).length c4) (.slice AS n5 cS) (.int .i64 (sJ F6)) (.int .i64 0);have r0:=Blk.cell hP 0;have r1:=Blk.cell hP 1;have r2:=Blk.cell hP 2;have r3:=Blk.cell hP 3;have r4:=Blk.cell hP 4;have r5:=Blk.cell hP 5;have r6:=Blk.cell hP 6;have r7:=Blk.cell hP 7;simp only[List.getElem?_toArray,List.getElem?_cons_zero,List.getElem?_cons_succ]at r0 r1 r2 r3 r4 r5 r6 r7;(clear m0 m1 m2 m3 m4 m5 m6 m7 f0 f1 f2 f3 f4 f5 f6 f7)
        refine bodyPost_ret (v:=.agg #[.int .i64 (sJ F0),.int .i64 (sJ F1),.string PT,.slice A3 (cZ F3).length c3,.slice A4 (cZ F4).length c4,.slice AS n5 cS,.int .i64 (sJ F6),.int .i64 0]) (by simp only[results,Tryz.results82];simp[go_sem,r0,r1,r2,r3,r4,r5,r6,r7]) rfl ⟨below_put8 hbw (Nat.le_refl _) _ _ _ _ _ _ _ _,⟨A3,c3,A4,c4,AS,cS⟩,?_,⟨?_,?_,?_⟩,HFR.out.1,HFR.out.2,fun h0 a ha=>?_⟩
        ·show Ending.returned (Value.agg #[.int .i64 (sJ F0),.int .i64 (sJ F1),.string PT,.slice A3 (cZ F3).length c3,.slice A4 (cZ F4).length c4,.slice AS n5 cS,.int .i64 (sJ F6),.int .i64 0])=.returned (Value.agg #[.int .i64 (sJ F0),.int .i64 (sJ F1),.string (unT F2),.slice A3 (cZ F3).length c3,.slice A4 (cZ F4).length c4,.slice AS ((cZ F5).map sJ).length cS,.int .i64 (sJ F6),.int .i64 0])
         rw[HPT.out,List.length_map,←HX5.out,←HN5.out]
        ·exact put8_but.reads hR3 HV.out.1
        ·exact put8_but.reads hR4 HV.out.2
        ·show aI _ 1 AS ((cZ F5).map sJ).length (((cZ F5).map sJ).map (.int .i64))
         rw[List.length_map,List.map_map,←HX5.out,←HN5.out]
         exact put8_but.reads hR5 (fun h0 a ha=>by have h1:=lS h0 a ha;have h2:=HO.out.2;omega)
        ·have h0':0<n5:=by
          have h3:0<((cZ F5).map sJ).length:=h0
          rw[List.length_map,←HX5.out,←HN5.out]at h3
          exact h3
         have h1:=lS h0' a ha
         have h2:=HO.out.2
         omega
      ·have hno:¬ ([F0,F1,F2,F3,F4,F5,F6].length=7∧bF (fP sJ [F0,F1,F2,F3,F4,F5,F6])=true∧bK (fP sJ [F0,F1,F2,F3,F4,F5,F6])=s):=fun h=>by have h1:=(HIF.out.1 h).1;simp at h1
       go_upto_if 73 with (go_at_call 131;refine (HTX.out).mono ?_;rintro e w5 ⟨rfl,hb5⟩)
       obtain⟨W6,hW6⟩:∃ W6,W6=w5.alloc (.cells #[.string T1,.int .i64 1] 169):=⟨_,rfl⟩
       have hk6:Below wr.heap.size wr W6:=by rw[hW6];exact hb5.trans (aU (Below.refl _ _) _ |>.mono hb5.size)
       rw[←hW6]
       clear hW6 hb5
       have hM:Blk W6 w.heap.size 90 #[.int .i64 0,.int .i64 0,.string ⟨#[]⟩,.slice none 0 0,.slice none 0 0,.slice none 0 0,.int .i64 0,.int .i64 0] (0,0):=Blk.keep hHo.out.2.2.2.1 hk6
       have hbw:Below w.heap.size w W6:=aV hHo.out.2.2.2.2 hk6
       have hB6:aX W6 g (sJ F0) (sJ F1) PT A3 (cZ F3).length c3 A4 (cZ F4).length c4 AS n5 cS (sJ F6):=Blk.keep hB hk6
       have hR3:=hHo.out.1.keep hk6
       have hR4:=hHo.out.2.1.keep hk6
       have hR5:=(aI.of_own hown).keep hk6
       obtain⟨x0,x1,x2,x3,x4,x5,x6⟩:=aX.facts hB6
       have lg6:=Blk.lt hB6
       (have m0:=Blk.cell hM 0;have m1:=Blk.cell hM 1;have m2:=Blk.cell hM 2;have m3:=Blk.cell hM 3;have m4:=Blk.cell hM 4;have m5:=Blk.cell hM 5;have m6:=Blk.cell hM 6;have m7:=Blk.cell hM 7;have f0:=Blk.free0 hM 0;have f1:=Blk.free0 hM 1;have f2:=Blk.free0 hM 2;have f3:=Blk.free0 hM 3;have f4:=Blk.free0 hM 4;have f5:=Blk.free0 hM 5;have f6:=Blk.free0 hM 6;have f7:=Blk.free0 hM 7;have hzM:=Blk.lt hM;simp only[List.getElem?_toArray,List.getElem?_cons_zero,List.getElem?_cons_succ]at m0 m1 m2 m3 m4 m5 m6 m7)
       clear hB hown
       have hcond:¬ ([F0,F1,F2,F3,F4,F5,F6].length=7∧bF (fP sJ [F0,F1,F2,F3,F4,F5,F6])=true∧bK (fP sJ [F0,F1,F2,F3,F4,F5,F6])=s):=hno
       obtain rfl:X=ed:=by rw[HX.out,if_neg hcond];rfl
       obtain rfl:ER=3:=by rw[HER.out,if_neg hcond];rfl
       clear hcond hno
       go_wp2
       clear x0 x1 x2 x3 x4 x5 x6
       have hP:=blk_put8 hM (.int .i64 0) (.int .i64 0) (.string ⟨#[]⟩) (.slice none 0 0) (.slice none 0 0) (.slice none 0 0) (.int .i64 0) (.int .i64 3);have r0:=Blk.cell hP 0;have r1:=Blk.cell hP 1;have r2:=Blk.cell hP 2;have r3:=Blk.cell hP 3;have r4:=Blk.cell hP 4;have r5:=Blk.cell hP 5;have r6:=Blk.cell hP 6;have r7:=Blk.cell hP 7;simp only[List.getElem?_toArray,List.getElem?_cons_zero,List.getElem?_cons_succ]at r0 r1 r2 r3 r4 r5 r6 r7;(clear m0 m1 m2 m3 m4 m5 m6 m7 f0 f1 f2 f3 f4 f5 f6 f7)
       exact bodyPost_ret (v:=.agg #[.int .i64 0,.int .i64 0,.string ⟨#[]⟩,.slice none 0 0,.slice none 0 0,.slice none 0 0,.int .i64 0,.int .i64 3]) (by simp only[results,Tryz.results82];simp[go_sem,r0,r1,r2,r3,r4,r5,r6,r7]) rfl ⟨below_put8 hbw (Nat.le_refl _) _ _ _ _ _ _ _ _,⟨none,0,none,0,none,0⟩,rfl,⟨aI.nil_ _ _ _,aI.nil_ _ _ _,aI.nil_ _ _ _⟩,fun h=>absurd h (Nat.lt_irrefl 0),fun h=>absurd h (Nat.lt_irrefl 0),fun h=>absurd h (Nat.lt_irrefl 0)⟩
 ·have hcond:¬ (Ls.length=7∧bF (fP sJ Ls)=true∧bK (fP sJ Ls)=s):=fun h=>h7 (hn.trans h.1)
  obtain rfl:X=ed:=by rw[HX.out,if_neg hcond];rfl
  obtain rfl:ER=3:=by rw[HER.out,if_neg hcond];rfl
  clear hcond
  have e1:((n:Int)==7)=false:=by simp;omega
  have e2:((n:Int) != 7)=true:=by simp;omega
  have e3:¬ (n:Int)=7:=by omega
  clear HX HER HZ0 HSZ HFT hRd hn h7
  (have m0:=Blk.cell hM 0;have m1:=Blk.cell hM 1;have m2:=Blk.cell hM 2;have m3:=Blk.cell hM 3;have m4:=Blk.cell hM 4;have m5:=Blk.cell hM 5;have m6:=Blk.cell hM 6;have m7:=Blk.cell hM 7;have f0:=Blk.free0 hM 0;have f1:=Blk.free0 hM 1;have f2:=Blk.free0 hM 2;have f3:=Blk.free0 hM 3;have f4:=Blk.free0 hM 4;have f5:=Blk.free0 hM 5;have f6:=Blk.free0 hM 6;have f7:=Blk.free0 hM 7;have hzM:=Blk.lt hM;simp only[List.getElem?_toArray,List.getElem?_cons_zero,List.getElem?_cons_succ]at m0 m1 m2 m3 m4 m5 m6 m7)
  go_wp2
  clear e1 e2 e3
  have hP:=blk_put8 hM (.int .i64 0) (.int .i64 0) (.string ⟨#[]⟩) (.slice none 0 0) (.slice none 0 0) (.slice none 0 0) (.int .i64 0) (.int .i64 3);have r0:=Blk.cell hP 0;have r1:=Blk.cell hP 1;have r2:=Blk.cell hP 2;have r3:=Blk.cell hP 3;have r4:=Blk.cell hP 4;have r5:=Blk.cell hP 5;have r6:=Blk.cell hP 6;have r7:=Blk.cell hP 7;simp only[List.getElem?_toArray,List.getElem?_cons_zero,List.getElem?_cons_succ]at r0 r1 r2 r3 r4 r5 r6 r7;(clear m0 m1 m2 m3 m4 m5 m6 m7 f0 f1 f2 f3 f4 f5 f6 f7)
  exact bodyPost_ret (v:=.agg #[.int .i64 0,.int .i64 0,.string ⟨#[]⟩,.slice none 0 0,.slice none 0 0,.slice none 0 0,.int .i64 0,.int .i64 3]) (by simp only[results,Tryz.results82];simp[go_sem,r0,r1,r2,r3,r4,r5,r6,r7]) rfl ⟨below_put8 hbw (Nat.le_refl _) _ _ _ _ _ _ _ _,⟨none,0,none,0,none,0⟩,rfl,⟨aI.nil_ _ _ _,aI.nil_ _ _ _,aI.nil_ _ _ _⟩,fun h=>absurd h (Nat.lt_irrefl 0),fun h=>absurd h (Nat.lt_irrefl 0),fun h=>absurd h (Nat.lt_irrefl 0)⟩
theorem tokF_eqN {num:aC→Int} {F:List aC} {n:Nat} {z x0 x1 x2:aC} (hn:F.length=n) (h0:5≤n) (hz:F[n-1]? = some z) (e0:F.getD 0 aT=x0) (e1:F.getD 1 aT=x1) (e2:F.getD 2 aT=x2) {s:List Nat} (hs:lU z.data.toList=some s) :
  sO num eF F=⟨num x0,num x1,x2,((fB F).take (n-4)).map cvF,s⟩:=by
 have hl:F.getLastD aT=z:=by
  rw[List.getLastD_eq_getLast?,List.getLast?_eq_getElem?,hn,hz];rfl
 have hd:(F.drop 3).dropLast=(fB F).take (n-4):=by
  unfold fB
  rw[List.dropLast_eq_take,List.length_drop,hn]
  congr 1
 unfold sO
 rw[hl,hd,e0,e1,e2,hs]
 rfl
theorem readTR_C (s:aC):readTR s=if okF eF (splitB 59 s)&&gX (sO decTk eF (splitB 59 s)) then some (sO decTk eF (splitB 59 s)) else none:=by
 rw[show eF=pU from funext Vp];rfl
structure E0 (w W:World):Prop where
 e:aQ W w.heap.size 40 (#[.int .i64 0,.int .i64 0,.string ⟨#[]⟩,.slice none 0 0,.int .u8 0,.int .u8 0,.int .u8 0,.int .u8 0,.int .u8 0,.int .u8 0,.int .u8 0,.int .u8 0,.int .u8 0,.int .u8 0,.int .u8 0,.int .u8 0,.int .u8 0,.int .u8 0,.int .u8 0,.int .u8 0,.int .i64 0]:Array Value)
 b:Below w.heap.size w W
theorem E0.keep {w W W':World} (h:E0 w W) (hb:Below W.heap.size W W'):E0 w W':=⟨h.e.keep hb,aV h.b hb⟩
theorem E0.low {w W W':World} {g:Nat} (h:E0 w W) (hb:Below g W W') (hg:w.heap.size<g):E0 w W':=⟨(hb.block _ hg).trans h.e,h.b.trans (hb.mono (by omega))⟩
structure RcS (w:World) (gT gF oF n0:Nat) (F:List aC) (n:Nat) (N0 N1:Int) (x2:aC) (s:List Nat) (k:Nat) (L:List CoM) (A:Option Addr) (c:Nat) (W:World):Prop where
 p:E0 w W
 t:aQ W gT 32 (bn N0 N1 x2 A k c s).toArray
 r:aI W 1 (some ⟨gF,oF,none⟩) n (F.map .string)
 own:W.ownsRow n0 27 7 (.slice A k c) k (L.flatMap CoM.cells)
 each:∀ y∈L,dA W y.c y.m
 fresh:∀ y∈L,sZ n0 y.c y.m
 apart:∀ y∈L,∀ g,(Value.slice A k c).ownBlock=some g→fA g y.c y.m
 len:L.length=k
 val:L.map (·.c)=((fB F).take k).map cvF
 ok:∀ x∈(fB F).take k,(eF x).isSome=true
 sz:n0≤W.heap.size
 o:w.heap.size<gT∧gT<n0∧w.heap.size<gF∧gF<n0∧gT≠gF
section
variable {w W W':World} {gT gF oF n0:Nat} {F:List aC} {n:Nat} {N0 N1:Int} {x2:aC} {s:List Nat} {k:Nat} {L:List CoM} {A:Option Addr} {c:Nat}
theorem RcS.keep (h:RcS w gT gF oF n0 F n N0 N1 x2 s k L A c W) (hb:Below W.heap.size W W'):RcS w gT gF oF n0 F n N0 N1 x2 s k L A c W' :=
 ⟨h.p.keep hb,h.t.keep hb,h.r.keep hb,fZ h.own hb,fun y hy=>(h.each y hy).keep hb,h.fresh,h.apart,h.len,h.val,h.ok,Nat.le_trans h.sz hb.size,h.o⟩
theorem RcS.size (h:RcS w gT gF oF n0 F n N0 N1 x2 s k L A c W) (hs:s.length=16):(bn N0 N1 x2 A k c s).toArray.size=20:=DR _ _ _ _ _ _ _ hs
theorem RcS.field (h:RcS w gT gF oF n0 F n N0 N1 x2 s k L A c W) {j:Nat} {x:aC} (hj:F[j]? = some x) (hn:0<n):W.cell? ⟨gF,oF+j,none⟩=some (.string x):=by
 obtain⟨b,o,e,hc⟩:=h.r.2 hn
 injection e with e
 injection e with e1 e2
 subst e1;subst e2
 exact hc j (.string x) (by rw[List.getElem?_map,hj];rfl)
theorem RcS.row3 (h:RcS w gT gF oF n0 F n N0 N1 x2 s k L A c W):W.cell? ⟨gT,3,none⟩=some (.slice A k c):=h.t.cell (k:=3) rfl
theorem RcS.free (h:RcS w gT gF oF n0 F n N0 N1 x2 s k L A c W) (j:Nat):W.frozen? ⟨gT,j,none⟩=false:=frozen_of_row _ _ j _ _ h.t
theorem RcS.grown {x:aC} {y:CoM} {g cap:Nat} (h:RcS w gT gF oF n0 F n N0 N1 x2 s k L A c W) (hn:0<n)
  (hx:F[3+k]? = some x) (hr:(eF x).isSome=true) (hyc:y.c=cvF x) (hy:dA W y.c y.m) (hyf:sZ n0 y.c y.m) (hya:∀ g,(Value.slice A k c).ownBlock=some g→fA g y.c y.m)
  (hown:W'.ownsRow n0 27 7 (.slice (some ⟨g,0,none⟩) (k+1) cap) (k+1) (L.flatMap CoM.cells++y.cells)) (hg:W.grownBy W' (Value.slice A k c).ownBlock) (hgg:(Value.slice A k c).ownBlock=some g∨g=W.heap.size) :
  RcS w gT gF oF n0 F n N0 N1 x2 s (k+1) (L++[y]) (some ⟨g,0,none⟩) cap (W'.setCell ⟨gT,3,none⟩ (.slice (some ⟨g,0,none⟩) (k+1) cap)):=by
 have hlo:∀ r,(Value.slice A k c).ownBlock=some r→n0≤r∧r<W.heap.size:=fun r hr=>h.own.lt r hr
 have hsz:=h.sz
 obtain⟨o1,o2,o3,o4,o5⟩:=h.o
 have hlow:Below n0 W W':=(Below.refl _ _).grown hg hsz (fun r hr=>(hlo r hr).1)
 have hcond:∀ z:CoM,dA W z.c z.m→(∀ g,(Value.slice A k c).ownBlock=some g→fA g z.c z.m)→dA W' z.c z.m:=by
  intro z hz ha
  cases hob:(Value.slice A k c).ownBlock with
  | none =>
   rw[hob]at hg
   exact hz.keep ((Below.refl _ _).grown hg (Nat.le_refl _) (fun r hr=>by cases hr))
  | some g0 =>
   rw[hob]at hg
   have hag:=ha g0 hob
   exact⟨Dj hg hz.cl (fun h0 a he=>hag.cl h0 a he),Dj hg hz.co (fun h0 a he=>hag.co h0 a he),Dj hg hz.si (fun h0 a he=>hag.si h0 a he)⟩
 have hap:∀ z:CoM,dA W z.c z.m→(∀ g,(Value.slice A k c).ownBlock=some g→fA g z.c z.m)→fA g z.c z.m:=by
  intro z hz ha
  rcases hgg with hgg | hgg
  ·exact ha g hgg
  ·exact fA.of_reads hz (by omega)
 have hother:∀ j,j≠gT→(W'.setCell ⟨gT,3,none⟩ (.slice (some ⟨g,0,none⟩) (k+1) cap)).heap[j]? = W'.heap[j]?:=fun j hj=>heap_setCell_other _ _ _ _ hj
 have hp':=h.p.low hlow (by omega)
 have ht':aQ W' gT 32 (bn N0 N1 x2 A k c s).toArray:=(hlow.block _ o2).trans h.t
 have hset:(bn N0 N1 x2 A k c s).toArray.setIfInBounds 3 (.slice (some ⟨g,0,none⟩) (k+1) cap)=(bn N0 N1 x2 (some ⟨g,0,none⟩) (k+1) cap s).toArray:=by
  rw[List.setIfInBounds_toArray];rfl
 have hgl:n0≤g:=by
  rcases hgg with hgg | hgg
  ·exact (hlo g hgg).1
  ·omega
 have hW'sz:n0≤W'.heap.size:=Nat.le_trans hsz hlow.size
 have hm:=ZG hx
 refine⟨⟨?_,?_⟩,?_,?_,?_,?_,?_,?_,?_,?_,?_,?_,h.o⟩
 ·exact (hother _ (by omega)).trans hp'.e
 ·exact hp'.b.setCell (p:=⟨gT,3,none⟩) (Nat.le_of_lt o1) _
 ·rw[←hset];exact heap_setCell_same _ _ _ _ _ _ ht'
 ·have hrr:aI W' 1 (some ⟨gF,oF,none⟩) n (F.map .string):=DF h.r hlow (fun _ a e=>by injection e with e;subst e;exact o4)
  exact qw (g:=gT) (fun j hj=>hother j hj) hrr (fun _ a e=>by injection e with e;subst e;exact fun e2=>o5 e2.symm)
 ·have e:(L++[y]).flatMap CoM.cells=L.flatMap CoM.cells++y.cells:=by simp
  rw[e]
  obtain⟨h1,h2⟩:=hown
  refine⟨h1,?_⟩
  rcases h2 with ⟨h3,_⟩ | ⟨g2,cap2,cur,e2,hb,hh,hr⟩
  ·cases h3
  ·injection e2 with e3 e4 e5
   injection e3 with e3
   injection e3 with e3
   subst e3;subst e5
   exact .inr ⟨g,cap,cur,rfl,hb,(hother _ (by omega)).trans hh,hr⟩
 ·intro z hz
  rcases List.mem_append.1 hz with hz | hz
  ·exact tJ (g:=gT) (fun j hj=>hother j hj) (hcond z (h.each z hz) (h.apart z hz)) (fA.of_fresh (h.fresh z hz) o2)
  ·rw[List.mem_singleton.1 hz]
   exact tJ (g:=gT) (fun j hj=>hother j hj) (hcond y hy hya) (fA.of_fresh hyf o2)
 ·intro z hz
  rcases List.mem_append.1 hz with hz | hz
  ·exact h.fresh z hz
  ·rw[List.mem_singleton.1 hz];exact hyf
 ·intro z hz g2 hg2
  have e:g=g2:=Option.some.inj hg2
  subst e
  rcases List.mem_append.1 hz with hz | hz
  ·exact hap z (h.each z hz) (h.apart z hz)
  ·rw[List.mem_singleton.1 hz];exact hap y hy hya
 ·rw[List.length_append,h.len];rfl
 ·rw[hm,List.map_append,List.map_append,h.val]
  show _++[y.c]=_++[cvF x]
  rw[hyc]
 ·rw[hm]
  intro z hz
  rcases List.mem_append.1 hz with hz | hz
  ·exact h.ok z hz
  ·rw[List.mem_singleton.1 hz];exact hr
 ·show _≤(W'.setCell _ _).heap.size
  rw[World.size_setCell];exact hW'sz
theorem RcS.put {l:List UInt8} {i:Nat} (h:RcS w gT gF oF n0 F n N0 N1 x2 (jg l i) k L A c W) (hi:i<16) :
  RcS w gT gF oF n0 F n N0 N1 x2 (jg l (i+1)) k L A c (W.setCell ⟨gT,4+i,none⟩ (.int .u8 (uhV l i:Int))):=by
 have hother:∀ j,j≠gT→(W.setCell ⟨gT,4+i,none⟩ (.int .u8 (uhV l i:Int))).heap[j]? = W.heap[j]?:=fun j hj=>heap_setCell_other _ _ _ _ hj
 obtain⟨o1,o2,o3,o4,o5⟩:=h.o
 refine⟨⟨?_,?_⟩,?_,?_,?_,?_,h.fresh,h.apart,h.len,h.val,h.ok,?_,h.o⟩
 ·exact (hother _ (by omega)).trans h.p.e
 ·exact h.p.b.setCell (p:=⟨gT,4+i,none⟩) (Nat.le_of_lt o1) _
 ·rw[←Xa _ _ _ _ _ _ _ _ hi];exact heap_setCell_same _ _ _ _ _ _ h.t
 ·exact qw (g:=gT) (fun j hj=>hother j hj) h.r (fun _ a e=>by injection e with e;subst e;exact fun e2=>o5 e2.symm)
 ·obtain⟨h1,h2⟩:=h.own
  refine⟨h1,?_⟩
  rcases h2 with h3 | ⟨g2,cap2,cur,e2,hb,hh,hr⟩
  ·exact .inl h3
  ·exact .inr ⟨g2,cap2,cur,e2,hb,(hother _ (by omega)).trans hh,hr⟩
 ·intro z hz
  exact tJ (g:=gT) (fun j hj=>hother j hj) (h.each z hz) (fA.of_fresh (h.fresh z hz) o2)
 ·show _≤(W.setCell _ _).heap.size
  rw[World.size_setCell];exact h.sz
theorem RcS.tok (h:RcS w gT gF oF n0 F n N0 N1 x2 s k L A c W) (hs:dm s) :
  bZ W ⟨⟨N0,N1,x2,((fB F).take k).map cvF,s⟩,A,c,L⟩∧(⟨⟨N0,N1,x2,((fB F).take k).map cvF,s⟩,A,c,L⟩:ah).cells.toArray=(bn N0 N1 x2 A k c s).toArray∧(((fB F).take k).map cvF).length=k:=by
 have hl:(((fB F).take k).map cvF).length=k:=by rw[←h.val,List.length_map];exact h.len
 have hrd:aI W 7 A k (L.flatMap CoM.cells)∧k≤c:=by
  refine⟨aI.of_own h.own,?_⟩
  rcases h.own.2 with ⟨e,_⟩ | ⟨g2,cap2,cur,e,hb,hh,hnc,_⟩
  ·injection e with e3 e4 e5
   omega
  ·injection e with e3 e4 e5
   omega
 refine⟨⟨h.val,⟨?_,?_,h.each⟩,hs,?_⟩,?_,hl⟩
 ·show L.length=(((fB F).take k).map cvF).length
  rw[hl];exact h.len
 ·show aI W 7 A (((fB F).take k).map cvF).length _
  rw[hl];exact hrd.1
 ·show (((fB F).take k).map cvF).length≤c
  rw[hl];exact hrd.2
 ·unfold ah.cells
  show (bn N0 N1 x2 A (((fB F).take k).map cvF).length c s).toArray=_
  rw[hl]
theorem RcS.byte {i:Nat} (h:RcS w gT gF oF n0 F n N0 N1 x2 s k L A c W) (hs:s.length=16) (hi:i<16):∃ v,W.cell? ⟨gT,4+i,none⟩=some v:=by
 have hsz:=h.size hs
 exact⟨_,h.t.cell (k:=4+i) (Array.getElem?_eq_getElem (by omega))⟩
theorem RcS.fits (h:RcS w gT gF oF n0 F n N0 N1 x2 s k L A c W) (hF:∀ x∈F,x.size≤100000):∀ y∈L,dE y.c:=by
 intro y hy
 have hm:y.c∈((fB F).take k).map cvF:=by rw[←h.val];exact List.mem_map_of_mem hy
 obtain⟨x,hx,e⟩:=List.mem_map.1 hm
 rw[←e]
 have:=Xu x (hF x (List.mem_of_mem_drop (List.mem_of_mem_take hx)))
 rw[←Vp]at this
 exact this
end
theorem tok_past {w W:World} {y:ah} {X:Array Value} (h:bZ W y) (ha:0<y.t.conds.length→∀ a,y.A=some a→a.block≠w.heap.size) (hc:∀ x∈y.L,fA w.heap.size x.c x.m):bZ (W.setRow w.heap.size X) y :=
 ⟨h.same,⟨h.conds.len,qw (fun k hk=>setRow_other _ _ _ _ hk) h.conds.rows ha,fun x hx=>tJ (g:=w.heap.size) (fun k hk=>setRow_other _ _ _ _ hk) (h.conds.each x hx) (hc x hx)⟩,h.sl,h.cap⟩
end Go.Proofs.YtlkbkclnbppigaaGreatDoor
