/- Patterns: their words, an example, their string; Valid. -/
import Derived.Test.YticlbkficolocaaGreatDoorIZ11
import Derived.Test.YticlbkficolocaaGreatDoorIZ12
set_option maxHeartbeats 4000000
namespace Go.Proofs.YticlbkficolocaaGreatDoor
open Go.RowKit Go.Sort
set_option linter.unusedVariables false
set_option linter.unusedSimpArgs false
set_option maxRecDepth 100000
theorem Yu (s:ByteArray) (w:World) (hs:s.size≤100000) (hE:Env w):Calls Tryz.prog 23 #[.string s] w (Zx w (.bool (Qx s).isSome)):=by
 have cC:=WJ s w hs hE
 generalize Qx s=r at *
 have HC:=Lib.hid cC
 clear cC
 cases r with
 | none =>
  go_enter Tryz.func23,Tryz.ntmps23
  go_wp2_with (go_at_call 45;refine HC.out.mono ?_;rintro e w1 ⟨hb1,k,t,A,n,c,b,rfl⟩)
  go_ret
  exact⟨rfl,Qz⟩
 | some p =>
  go_enter Tryz.func23,Tryz.ntmps23
  go_wp2_with (go_at_call 45;refine HC.out.mono ?_;rintro e w1 ⟨hb1,A,c,rfl,hR⟩)
  go_ret
  exact⟨rfl,Qz⟩
theorem Ja (qs:List Part):∀ (k:Nat) (q:Part),qs[k]? = some q→(QZ qs)[k*2]? = some (.int .i64 q.kind)∧(QZ qs)[k*2+1]? = some (.string q.text):=by
 induction qs with
 | nil=>intro k q h;simp at h
 | cons a qs ih =>
  intro k q h
  cases k with
  | zero=>simp at h;subst h;simp[QZ]
  | succ k =>
   have:=ih k q (by simpa using h)
   rw[show (k+1)*2=k*2+2 by omega]
   simpa[QZ] using this
theorem Yf (qs:List Part):(QZ qs).length=qs.length*2:=by induction qs <;> simp_all [QZ];omega
def Xl (ps:List Part):List ByteArray:=ps.map fun p=>XV p.kind p.text ⟨#[97]⟩
def UQ (ps:List Part):Prop:=∀ p∈ps,p.kind≤2∧p.text.size≤100000
theorem words_any (kd:Nat) (tx:ByteArray) (A:Option Addr) (n c:Nat) (tl:Bool) (ps:List Part) (w:World) (hR:Reads w 2 A n (QZ ps)) (hok:UQ ps) (hn:n≤100000) :
  Calls Tryz.prog 69 #[.agg #[.int .i64 kd,.string tx,.slice A n c,.bool tl]] w fun e w'=>∃ A' c',e=.returned (.slice A' n c')∧w'.ownsRow w.heap.size 9 1 (.slice A' n c') n ((Xl ps).map .string)∧Below w.heap.size w w':=by
 have hpn:ps.length=n:=by have:=hR.1;rw[Yf]at this;omega
 obtain⟨i0,hi0,hz0,hz1,hz2⟩:=info_parts V3
 have HI:Hid ((Tryz.prog.info? 9=some i0)∧i0.zero=some (.string ⟨#[]⟩)∧i0.size=1∧i0.bytes=16):=Lib.hid ⟨hi0,hz0,hz1,hz2⟩
 have HOK:=Lib.hid hok
 have HR:=Lib.hid hR
 have HPN:=Lib.hid hpn
 clear hi0 hz0 hz1 hz2 hok hR hpn
 go_enter Tryz.func69,Tryz.ntmps69
 go_wp2_with fail
 go_loopw [3,9] (fun va vi wr=>∃ (k:Nat) (A':Option Addr) (c':Nat),(va=.slice A' k c'∧vi=.int .i64 k∧k≤n)∧wr.ownsRow w.heap.size 9 1 (.slice A' k c') k (((Xl ps).take k).map .string)∧Below w.heap.size w wr) (fun _ vi _=>n-(intOf vi).toNat)
 case atStart=>exact⟨0,none,0,⟨rfl,rfl,Nat.zero_le _⟩,World.ownsRow_nil _ _ _ _,Qk (Below.refl _ _) _⟩
 case round =>
  obtain⟨k,A',c',⟨rfl,rfl,hk⟩,hown,hbr⟩:=hrel
  by_cases hlt:k<n
  ·obtain⟨p,hp⟩:∃ p,ps[k]? = some p:=⟨_,List.getElem?_eq_getElem (by have:=HPN.out;omega)⟩
   obtain⟨hpk,hpt⟩:=HOK.out p (List.mem_of_getElem? hp)
   obtain⟨pb,po,rfl,hcell⟩:=(HR.out.keep hbr).2 (by omega)
   obtain⟨e1,e2⟩:=Ja ps k p hp
   have hc1:wr.cell? ⟨pb,po+k*2,none⟩=_:=hcell _ _ e1
   have hc2:wr.cell? ⟨pb,po+k*2+1,none⟩=_:=hcell _ _ e2
   have hwl:(Xl ps)[k]? = some (XV p.kind p.text ⟨#[97]⟩):=by simp[Xl,hp]
   have htk:(Xl ps).take (k+1)=(Xl ps).take k++[XV p.kind p.text ⟨#[97]⟩]:=by rw[List.take_add_one,hwl];rfl
   have HTK:=Lib.hid htk
   have cW:=fun W=>with_any p.kind p.text ⟨#[97]⟩ W (by decide) (by omega) hpk
   clear hp hcell e1 e2 hwl htk
   generalize XV p.kind p.text ⟨#[97]⟩=x at *
   obtain⟨pk,pt⟩:=p
   dsimp only at *
   have HW:=Lib.hid cW
   clear cW
   go_wp2_with (first | (go_at_call 68;refine (HW.out _).mono ?_;rintro e w2 ⟨rfl,hb2⟩) | (at_builtin;refine wpList_append_own _ rfl _ _ 22 rfl w.heap.size 9 i0 (.string ⟨#[]⟩) 1 16 Tryz.underlying22 HI.out.1 HI.out.2.1 HI.out.2.2.1 HI.out.2.2.2 rfl (by decide) _ _ _ rfl ((Ql (hown.alloc _) hb2).alloc _) ⟨w2.heap.size,0,none⟩ 1 1 [.string x] rfl rfl (cell_one_new _ _ _) (by simp[Value.oneCell']) (by unfold maxLen;omega) (by omega) (by have:=hb2.size;have:=hbr.size;simp at *;omega) ?_;intro v' w3 hown' hgrow _;obtain⟨g',cap',rfl⟩:=ownsRow_succ hown'))
   refine⟨⟨k+1,some ⟨g',0,none⟩,cap',⟨rfl,by go_num,by omega⟩,?_,?_⟩,by simp[intOf];omega⟩
   ·rw[HTK.out,List.map_append];exact hown'
   ·have h1:=hbr.size
    have h2:=hb2.size
    simp at h2
    exact ((hbr.trans (Za _ hb2 |>.mono h1)).alloc (by omega) _).grown hgrow (by simp;omega) (fun r e=>Qu hown r e)
  ·obtain rfl:k=n:=by omega
   go_wp2
   go_ret
   exact⟨A',c',rfl,by have:(Xl ps).take k=Xl ps:=List.take_of_length_le (by simp[Xl];have:=HPN.out;omega);rw[this]at hown;exact hown,hbr⟩
theorem lens_le' (B:Nat):∀ l:List (List UInt8),(∀ x∈l,x.length≤B)→Lib.lens l≤l.length*B
 | [],_=>by simp[Lib.lens]
 | x :: l,h=>by
  have h1:=h x (by simp)
  have h2:=lens_le' B l (fun y hy=>h y (by simp[hy]))
  simp only[Lib.lens,List.map_cons,List.sum_cons,List.length_cons]at h2 ⊢
  rw[Nat.succ_mul]
  omega
def Xt (ws:List ByteArray):ByteArray:=Zd (Lib.join (lists ws) [47])
theorem join_any (g n c:Nat) (ws:List ByteArray) (W:World) (base:Nat) (hown:W.ownsRow base 9 1 (.slice (some ⟨g,0,none⟩) n c) n (ws.map .string)) (hn:n≤100100) (hsz:∀ x∈ws,x.size≤200000) :
  Calls Tryz.prog 107 #[.slice (some ⟨g,0,none⟩) n c,.string ⟨#[47]⟩] W (Zx W (.string (Xt ws))):=by
 have hl:ws.length=n:=by have:=hown.1;simpa using this
 rcases hown.2 with ⟨h,_⟩ | ⟨g',cap,cur,he,hb,hh,h1,h2,h3,h4⟩
 ·cases h
 ·injection he with e1 e2 e3
  injection e1 with e1
  injection e1 with e1
  subst e1;subst e3
  have hcells:=World.ownsRow.cells hown (g:=g) rfl
  have hlen:(Lib.join (lists ws) [47]).length≤140737488355328:=by
   cases ws with
   | nil=>simp[lists,Lib.join_nil]
   | cons x r =>
    have hx:=hsz x (by simp)
    have hr:=lens_le' 200000 (lists r) (by
     intro y hy
     obtain⟨z,hz,rfl⟩:=List.mem_map.1 hy
     have:=hsz z (by simp[hz]);rw[Lib.size_eq]at this;exact this)
    rw[Lib.size_eq]at hx
    simp only[lists,List.map_cons]at hr ⊢
    rw[Lib.join_cons,List.length_append,Lib.joinTail_length]
    simp only[List.length_singleton,List.length_cons,List.length_map,List.length_nil,Nat.zero_add,Nat.one_mul]at hr hl ⊢
    omega
  have:=Tryz.strings_Join g 0 c ws ⟨#[47]⟩ W (by
   intro j x hx
   have:=hcells j (.string x) (by simp[hx])
   unfold Addr.add at this;split at this <;> simp_all) ((Array.getElem?_eq_some_iff.1 hh).1) (by omega) (by omega) hlen
  rw[hl]at this
  exact this
theorem Ws (w:World) (x:ByteArray):(w.alloc (.cells #[.string x] 9)).ownsRow w.heap.size 9 1 (.slice (some ⟨w.heap.size,0,none⟩) 1 1) 1 [.string x] :=
 ⟨rfl,.inr ⟨w.heap.size,1,#[.string x],rfl,Nat.le_refl _,World.alloc_heap_new _ _,Nat.le_refl _,by unfold maxLen;omega,rfl,rfl⟩⟩
theorem example_any (cu:ByteArray) (A:Option Addr) (n c:Nat) (ws:List ByteArray) (w:World) (hR:Reads w 1 A n (ws.map .string)) (hn:n≤100000) (hcu:cu.size≤200000) (hsz:∀ x∈ws,x.size≤200000) :
  Calls Tryz.prog 67 #[.string cu,.slice A n c] w (Zx w (.string (Xt (cu :: ws)))):=by
 have hl:ws.length=n:=by have:=hR.1;simpa using this
 obtain⟨i0,hi0,hz0,hz1,hz2⟩:=info_parts V3
 have HI:Hid ((Tryz.prog.info? 9=some i0)∧i0.zero=some (.string ⟨#[]⟩)∧i0.size=1∧i0.bytes=16):=Lib.hid ⟨hi0,hz0,hz1,hz2⟩
 clear hi0 hz0 hz1 hz2
 have hsz':∀ x∈cu :: ws,x.size≤200000:=by
  intro x hx
  rcases List.mem_cons.1 hx with rfl | hx
  ·exact hcu
  ·exact hsz x hx
 have HS:=Lib.hid hsz'
 by_cases h0:A=none
 ·subst h0
  have hn0:n=0:=by
   rcases Nat.eq_zero_or_pos n with h | h
   ·exact h
   ·obtain⟨_,_,h,_⟩:=hR.2 h;cases h
  subst hn0
  have hws:ws=[]:=List.eq_nil_of_length_eq_zero hl
  subst hws
  have cJ:=join_any w.heap.size 1 1 [cu] _ _ (Ws w cu) (by omega) HS.out
  go_enter Tryz.func67,Tryz.ntmps67
  go_wp2_with (go_at_call 107;refine cJ.mono ?_;rintro e w2 ⟨rfl,hb2⟩)
  go_ret
  exact⟨rfl,Qz⟩
 ·obtain⟨ad,rfl⟩:=Option.ne_none_iff_exists'.1 h0
  have hnews:∀ j u,(ws.map Value.string)[j]? = some u→(w.alloc (.cells #[.string cu] 9)).cell? (ad.add j)=some u:=by
   intro j u hu
   have hjl:=(List.getElem?_eq_some_iff.1 hu).1
   obtain⟨b,o,he,hc⟩:=hR.2 (by simp at hjl;omega)
   injection he with he;subst he
   rw[Addr.add_lit]
   exact Qq (Qk (Below.refl _ w) _) (hc j u hu)
  have HN:=Lib.hid hnews
  have HL:=Lib.hid hl
  clear hnews hR h0 hl hsz'
  go_enter Tryz.func67,Tryz.ntmps67
  go_wp2_with (at_builtin;refine wpList_append_own _ rfl _ _ 22 rfl w.heap.size 9 i0 (.string ⟨#[]⟩) 1 16 Tryz.underlying22 HI.out.1 HI.out.2.1 HI.out.2.2.1 HI.out.2.2.2 rfl (by decide) _ _ _ rfl (Ws w cu) ad n c (ws.map .string) rfl (by have:=HL.out;simp;omega) HN.out (by intro u hu;obtain⟨x,_,rfl⟩:=List.mem_map.1 hu;rfl) (by unfold maxLen;omega) (by omega) (by simp) ?_;intro v' w3 hown' hgrow hnil)
  obtain⟨A',c',rfl⟩:∃ A' c',v'=.slice (some ⟨A',0,none⟩) (1+n) c':=by
   rcases hown'.2 with ⟨h,h2⟩ | ⟨g,cap,cur,h,_⟩
   ·omega
   ·exact⟨_,_,h⟩
  have cJ:=join_any A' (1+n) c' (cu :: ws) w3 w.heap.size hown' (by omega) HS.out
  have hb3:=(Qk (Below.refl _ w) (.cells #[.string cu] 9)).grown hgrow (by simp) (fun r e=>Qu (Ws w cu) r e)
  clear hgrow hown' hnil
  go_wp2_with (go_at_call 107;refine cJ.mono ?_;rintro e w4 ⟨rfl,hb4⟩)
  go_ret
  exact⟨rfl,Qz⟩
def Zg (ps:List Part):List ByteArray:=ps.map fun p=>Qp p.kind p.text
def VW (p:Z7):ByteArray:=Xt (Qp p.cust.kind p.cust.text :: Zg p.parts++(if p.tail then [⟨#[42,42]⟩] else []))
theorem XW (k:Nat) (t:ByteArray):(Qp k t).size≤t.size+1:=by
 unfold Qp;split
 ·omega
 ·rw[ByteArray.size_append];have:(⟨#[42]⟩:ByteArray).size=1:=rfl;omega
theorem patString_any (kd:Nat) (tx:ByteArray) (A:Option Addr) (n c:Nat) (tl:Bool) (ps:List Part) (w:World) (hR:Reads w 2 A n (QZ ps)) (hok:UQ ps) (hn:n≤100000) (hkd:kd≤2) (htx:tx.size≤100000) :
  Calls Tryz.prog 64 #[.agg #[.int .i64 kd,.string tx,.slice A n c,.bool tl]] w (Zx w (.string (VW ⟨⟨kd,tx⟩,ps,tl⟩))):=by
 have hpn:ps.length=n:=by have:=hR.1;rw[Yf]at this;omega
 obtain⟨i0,hi0,hz0,hz1,hz2⟩:=info_parts V3
 have HI:Hid ((Tryz.prog.info? 9=some i0)∧i0.zero=some (.string ⟨#[]⟩)∧i0.size=1∧i0.bytes=16):=Lib.hid ⟨hi0,hz0,hz1,hz2⟩
 have HOK:=Lib.hid hok
 have HR:=Lib.hid hR
 have HPN:=Lib.hid hpn
 have c0:=fun W=>stringP_any kd tx W (by omega) hkd
 have hs0:=XW kd tx
 have hsl:∀ x∈Zg ps,x.size≤200000:=by
  intro x hx
  obtain⟨p,hp,rfl⟩:=List.mem_map.1 hx
  have h1:=XW p.kind p.text
  have h2:=(hok p hp).2
  omega
 have HSL:=Lib.hid hsl
 have hv:VW ⟨⟨kd,tx⟩,ps,tl⟩=Xt (Qp kd tx :: Zg ps++(if tl then [⟨#[42,42]⟩] else [])):=rfl
 rw[hv]
 generalize Qp kd tx=s0 at *
 generalize hVe:Xt (s0 :: Zg ps++(if tl then [⟨#[42,42]⟩] else []))=V
 have HV:=Lib.hid hVe
 have HS0:Hid (s0.size≤200000):=Lib.hid (by omega)
 clear hVe hs0
 have H0:=Lib.hid c0
 clear hi0 hz0 hz1 hz2 hok hR hpn c0 hv hsl
 go_enter Tryz.func64,Tryz.ntmps64
 go_wp2_with (go_at_call 126;refine (H0.out _).mono ?_;rintro e w1 ⟨rfl,hb1⟩;obtain⟨hc1,hf1⟩:=Qe hb1;have hz1_0:w.heap.size<w1.heap.size:=(by have:=hb1.size;(try simp at this);omega))
 have hbp:Below w.heap.size w w1:=Za _ hb1
 have hX:Qv w1 w.heap.size 104 #[.int .i64 kd,.string tx,.slice A n c,.bool tl] (0,0):=(hb1.block w.heap.size (by simp)).trans (World.alloc_heap_new _ _)
 have ho1:=Ws w1 s0
 have hX2:Qv (w1.alloc (.cells #[.string s0] 9)) w.heap.size 104 #[.int .i64 kd,.string tx,.slice A n c,.bool tl] (0,0):=Qv.keep hX (Qk (Below.refl _ _) _)
 have hb2:Below w.heap.size w (w1.alloc (.cells #[.string s0] 9)):=Qk hbp _
 have hb21:Below w1.heap.size w1 (w1.alloc (.cells #[.string s0] 9)):=Qk (Below.refl _ _) _
 obtain⟨W0,hW0⟩:∃ W0,W0=w1.alloc (.cells #[.string s0] 9):=⟨_,rfl⟩
 have hzz:w.heap.size<w1.heap.size:=by omega
 have hz0:W0.heap.size=w1.heap.size+1:=by rw[hW0];simp
 rw[←hW0]at ho1 hX2 hb2 hb21 ⊢
 clear hW0 hc1 hf1
 go_loopw [3,13] (fun va vi wr=>∃ (k:Nat) (A':Nat) (c':Nat),(va=.slice (some ⟨A',0,none⟩) (k+1) c'∧vi=.int .i64 k∧k≤n)∧wr.ownsRow w1.heap.size 9 1 (.slice (some ⟨A',0,none⟩) (k+1) c') (k+1) ((s0 :: (Zg ps).take k).map .string)∧Qv wr w.heap.size 104 #[.int .i64 kd,.string tx,.slice A n c,.bool tl] (0,0)∧Below w1.heap.size w1 wr) (fun _ vi _=>n-(intOf vi).toNat)
 case atStart=>exact⟨0,w1.heap.size,1,⟨rfl,rfl,Nat.zero_le _⟩,by simpa using ho1,hX2,hb21⟩
 case round =>
  clear ho1 hX2 hb2 hb21 hz0 hX
  obtain⟨k,A',c',⟨rfl,rfl,hk⟩,hown,hX,hbr⟩:=hrel
  have x2:wr.cell? ⟨w.heap.size,2,none⟩=some (.slice A n c):=Qv.cell hX 2
  have x3:wr.cell? ⟨w.heap.size,3,none⟩=some (.bool tl):=Qv.cell hX 3
  by_cases hlt:k<n
  ·obtain⟨p,hp⟩:∃ p,ps[k]? = some p:=⟨_,List.getElem?_eq_getElem (by have:=HPN.out;omega)⟩
   obtain⟨hpk,hpt⟩:=HOK.out p (List.mem_of_getElem? hp)
   obtain⟨pb,po,rfl,hcell⟩:=((HR.out.keep hbp).keep hbr).2 (by omega)
   obtain⟨e1,e2⟩:=Ja ps k p hp
   have hc1:wr.cell? ⟨pb,po+k*2,none⟩=_:=hcell _ _ e1
   have hc2:wr.cell? ⟨pb,po+k*2+1,none⟩=_:=hcell _ _ e2
   have hwl:(Zg ps)[k]? = some (Qp p.kind p.text):=by simp[Zg,hp]
   have htk:s0 :: (Zg ps).take (k+1)=(s0 :: (Zg ps).take k)++[Qp p.kind p.text]:=by rw[List.take_add_one,hwl];rfl
   have HTK:=Lib.hid htk
   have cW:=fun W=>stringP_any p.kind p.text W (by omega) hpk
   clear hp hcell e1 e2 hwl htk
   generalize Qp p.kind p.text=x at *
   obtain⟨pk,pt⟩:=p
   dsimp only at *
   have HW:=Lib.hid cW
   clear cW
   go_wp2_with (first | (go_at_call 126;refine (HW.out _).mono ?_;rintro e w2 ⟨rfl,hb2⟩) | (at_builtin;refine wpList_append_own _ rfl _ _ 22 rfl w1.heap.size 9 i0 (.string ⟨#[]⟩) 1 16 Tryz.underlying22 HI.out.1 HI.out.2.1 HI.out.2.2.1 HI.out.2.2.2 rfl (by decide) _ _ _ rfl ((Ql (hown.alloc _) hb2).alloc _) ⟨w2.heap.size,0,none⟩ 1 1 [.string x] rfl rfl (cell_one_new _ _ _) (by simp[Value.oneCell']) (by unfold maxLen;omega) (by omega) (by have:=hb2.size;have:=hbr.size;simp at *;omega) ?_;intro v' w3 hown' hgrow _;obtain⟨g',cap',rfl⟩:=ownsRow_succ hown'))
   have h1:=hbr.size
   have h2:=hb2.size
   simp at h2
   refine⟨⟨k+1,g',cap',⟨rfl,by go_num,by omega⟩,?_,?_,?_⟩,by simp[intOf];omega⟩
   ·rw[HTK.out,List.map_append];exact hown'
   ·refine (hgrow.block w.heap.size (by simp;omega) (fun e=>by have:=Qu hown _ e.symm;omega)).trans ?_
    exact Qv.keep (Qv.keep hX (Za _ hb2)) (Qk (Below.refl _ _) _)
   ·exact ((hbr.trans (Za _ hb2 |>.mono h1)).alloc (by omega) _).grown hgrow (by simp;omega) (fun r e=>Qu hown r e)
  ·obtain rfl:k=n:=by omega
   have htk:(Zg ps).take k=Zg ps:=List.take_of_length_le (by simp[Zg];have:=HPN.out;omega)
   rw[htk]at hown
   have hbw:Below w.heap.size w wr:=hbp.trans (hbr.mono (by omega))
   have hs0z:=HS0.out
   have hall:∀ x∈s0 :: Zg ps,x.size≤200000:=by
    intro x hx
    rcases List.mem_cons.1 hx with rfl | hx
    ·exact HS0.out
    ·exact HSL.out x hx
   have HALL:=Lib.hid hall
   clear hall htk
   cases tl
   ·have cJ:=join_any A' (k+1) c' _ wr _ hown (by omega) HALL.out
    have hVv:=HV.out
    simp only[Bool.false_eq_true,if_false,List.append_nil]at hVv
    rw[hVv]at cJ
    have HJ:=Lib.hid cJ
    clear cJ hVv
    go_wp2_with (go_at_call 107;refine HJ.out.mono ?_;rintro e w4 ⟨rfl,hb4⟩)
    go_ret
    exact⟨rfl,Qj hbw hb4⟩
   ·have hVv:=HV.out
    simp only[if_true]at hVv
    have HVV:=Lib.hid hVv
    clear hVv
    go_wp2_with (at_builtin;refine wpList_append_own _ rfl _ _ 22 rfl w1.heap.size 9 i0 (.string ⟨#[]⟩) 1 16 Tryz.underlying22 HI.out.1 HI.out.2.1 HI.out.2.2.1 HI.out.2.2.2 rfl (by decide) _ _ _ rfl (hown.alloc _) ⟨wr.heap.size,0,none⟩ 1 1 [.string ⟨#[42,42]⟩] rfl rfl (cell_one_new _ _ _) (by simp[Value.oneCell']) (by unfold maxLen;omega) (by omega) (by have:=hbr.size;simp at *;omega) ?_;intro v' w3 hown' hgrow _;obtain⟨g',cap',rfl⟩:=ownsRow_succ hown')
    have h1:=hbr.size
    have hb3:Below w1.heap.size w1 w3:=(hbr.alloc h1 _).grown hgrow (by simp;omega) (fun r e=>Qu hown r e)
    have cJ:=join_any g' (k+1+1) cap' ((s0 :: Zg ps)++[⟨#[42,42]⟩]) w3 w1.heap.size (by rw[List.map_append];exact hown') (by omega) (by
     intro x hx
     rcases List.mem_append.1 hx with hx | hx
     ·exact HALL.out x hx
     ·rw[List.mem_singleton.1 hx];decide)
    rw[HVV.out]at cJ
    have HJ:=Lib.hid cJ
    clear cJ hgrow hown'
    have hbw3:Below w.heap.size w w3:=hbp.trans (hb3.mono (by omega))
    go_wp2_with (go_at_call 107;refine HJ.out.mono ?_;rintro e w4 ⟨rfl,hb4⟩)
    go_ret
    exact⟨rfl,Qj hbw3 hb4⟩
structure Kt (p:Z7):Prop where
 kind:p.cust.kind≤2
 text:p.cust.text.size≤100000
 parts:UQ p.parts
 num:p.parts.length≤32
theorem cmpL_good:∀ (l:List ByteArray) (acc:List Part) (r:List Part × Bool),(∀ x∈l,x.size≤100000)→UQ acc→cmpL l acc=some r→UQ r.1∧r.1.length≤acc.length+l.length
 | [],acc,r,_,h,e=>by simp[cmpL]at e;subst e;exact⟨h,by simp⟩
 | w :: l,acc,r,hl,h,e=>by
  rw[cmpL]at e
  split at e
  ·injection e with e;subst e;exact⟨h,by simp⟩
  ·split at e
   ·have hw:=hl w (by simp)
    have:=cmpL_good l (acc++[Q7 w]) r (fun x hx=>hl x (by simp[hx])) (by
     intro x hx
     rcases List.mem_append.1 hx with hx | hx
     ·exact h x hx
     ·rw[List.mem_singleton.1 hx]
      exact⟨partOfP_kind w,Nat.le_trans (partOfP_size w) hw⟩) e
    refine⟨this.1,?_⟩
    have h2:=this.2
    simp at h2 ⊢;omega
   ·cases e
theorem X6 (s:ByteArray) (hs:s.size≤100000) (p:Z7) (h:Qx s=some p):Kt p:=by
 unfold Qx at h
 have hsz:=Jm 47 s
 generalize splitB 47 s=l at *
 cases l with
 | nil=>cases h
 | cons l0 r =>
  simp only[Vq]at h
  split at h
  ·rename_i hc
   rw[Bool.and_eq_true,decide_eq_true_eq]at hc
   cases hq:cmpL r [] with
   | none=>rw[hq]at h;cases h
   | some x =>
    rw[hq,Option.map_some]at h
    injection h with h
    subst h
    have h0:=hsz l0 (by simp)
    have:=cmpL_good r [] x (fun y hy=>Nat.le_trans (hsz y (by simp[hy])) hs) (fun y hy=>by cases hy) hq
    exact⟨partOfP_kind l0,by have:=partOfP_size l0;show (Q7 l0).text.size≤_;omega,this.1,by have h1:=hc.1;have h2:=this.2;show x.1.length≤32;simp at h2;omega⟩
  ·cases h
def QQ:List Part→List ByteArray→Bool
 | [],_=>true
 | p :: ps,w :: ws=>Jw p.kind p.text w&&QQ ps ws
 | _ :: _,[]=>false
def Xu (x:Z7) (a:Adr):Bool :=
 Jw x.cust.kind x.cust.text a.cust&&!decide (a.path.length<x.parts.length)&&!(decide (x.parts.length<a.path.length)&&!x.tail)&&QQ x.parts a.path
def Zk (p q:ByteArray):Bool:=match Qx p with
 | none=>false
 | some x=>readB q&&Xu x (QW q).1
theorem match_any (p q:ByteArray) (w:World) (hp:p.size≤100000) (hq:q.size≤100000) (hE:Env w):Calls Tryz.prog 21 #[.string p,.string q] w (Zx w (.bool (Zk p q))):=by
 have c1:=fun W h=>WJ p W hp h
 have c2:=fun W h=>read_any q W (by omega) h
 have hg:=X6 p hp
 unfold Zk
 have hcs:(QW q).1.cust.size≤100000∧(QW q).1.path.length≤32∧∀ x∈(QW q).1.path,x.size≤64:=by
  rcases parse_errno q with h | h | h
  ·have:=parse_good q h
   exact⟨by have:=KJ this.name;omega,this.parts,fun x hx=>Ub (this.words x hx)⟩
  all_goals rw[parse_err q (by omega)];exact⟨by decide,by decide,by simp[noAdr]⟩
 generalize Qx p=r at *
 generalize readB q=k2 at *
 generalize (QW q).1=a at *
 obtain⟨ac,ap,aq⟩:=a
 dsimp only at hcs
 obtain⟨hac,hap,hapz⟩:=hcs
 have HD:=Lib.hid c2
 have HC:=Lib.hid c1
 clear c1 c2
 cases r with
 | none =>
  clear hg
  dsimp only
  go_enter Tryz.func21,Tryz.ntmps21
  go_wp2_with (first | (go_at_call 45;refine (HC.out _ hE).mono ?_;rintro e w1 ⟨hb1,k,t,A,n,c,b,rfl⟩) | (go_at_call 46;refine (HD.out _ (Env.keep (Env.keep hE hb1) (Qk (Below.refl _ _) _))).mono ?_;rintro e w2 ⟨hb2,B,cb,D,cd,rfl,hRq,_⟩;obtain⟨hc2,hf2⟩:=Qe hb2;have hz2:w1.heap.size<w2.heap.size:=(by have:=hb2.size;simp at this;omega)))
  go_ret
  exact⟨rfl,Qz⟩
 | some x =>
  obtain⟨h1,h2,h3,h4⟩:=hg x rfl
  clear hg
  obtain⟨⟨kd,tx⟩,ps,tl⟩:=x
  dsimp only at h1 h2 h3 h4 ⊢
  unfold Xu
  dsimp only
  obtain⟨n,hn⟩:∃ n,n=ps.length:=⟨_,rfl⟩
  obtain⟨na,hna⟩:∃ na,na=ap.length:=⟨_,rfl⟩
  rw[←hn,←hna]
  have HC':Hid (∀ W,Env W→Calls Tryz.prog 45 #[.string p] W fun e w'=>Below W.heap.size W w'∧∃ A c,e=.returned (.tuple #[.agg #[.int .i64 kd,.string tx,.slice A n c,.bool tl],.bool true])∧Reads w' 2 A n (QZ ps)):=Lib.hid (fun W h=>by rw[hn];exact (HC.out W h).mono (by rintro e w' ⟨hb,A,c,rfl,hR,_⟩;exact⟨hb,A,c,rfl,hR⟩))
  have HD':Hid (∀ W,Env W→Calls Tryz.prog 46 #[.string q] W fun e w'=>Below W.heap.size W w'∧∃ B cb D cd,e=.returned (.tuple #[.agg #[.string ac,.slice B na cb,.slice D aq.length cd],.bool k2])∧Reads w' 1 B na (ap.map .string)∧True):=Lib.hid (fun W h=>(HD.out W h).mono (by
   rintro e w' ⟨hb,A,ca,B,cb,rfl,h5,h6⟩;rw[hna];exact⟨hb,A,ca,B,cb,rfl,h5,trivial⟩))
  have HN:=Lib.hid hn
  have HNA:=Lib.hid hna
  rw[←hn]at h4
  rw[←hna]at hap
  clear HC HD hn hna
  have HC:=HC';have HD:=HD'
  clear HC' HD'
  have cH:=fun W=>has_any kd tx ac W (by omega) (by omega) h1
  generalize Jw kd tx ac=k3 at *
  have HH:=Lib.hid cH
  clear cH
  cases k2
  ·simp only[Bool.false_and]
   go_enter Tryz.func21,Tryz.ntmps21
   go_wp2_with (first | (go_at_call 45;refine (HC.out _ hE).mono ?_;rintro e w1 ⟨hb1,A,c,rfl,hRp⟩) | (go_at_call 46;refine (HD.out _ (Env.keep (Env.keep hE hb1) (Qk (Below.refl _ _) _))).mono ?_;rintro e w2 ⟨hb2,B,cb,D,cd,rfl,hRq,_⟩;obtain⟨hc2,hf2⟩:=Qe hb2;have hz2:w1.heap.size<w2.heap.size:=(by have:=hb2.size;simp at this;omega)))
   go_ret
   exact⟨rfl,Qz⟩
  cases k3
  ·simp only[Bool.false_and,Bool.and_false]
   go_enter Tryz.func21,Tryz.ntmps21
   go_wp2_with (first | (go_at_call 45;refine (HC.out _ hE).mono ?_;rintro e w1 ⟨hb1,A,c,rfl,hRp⟩) | (go_at_call 46;refine (HD.out _ (Env.keep (Env.keep hE hb1) (Qk (Below.refl _ _) _))).mono ?_;rintro e w2 ⟨hb2,B,cb,D,cd,rfl,hRq,_⟩;obtain⟨hc2,hf2⟩:=Qe hb2;have hz2:w1.heap.size<w2.heap.size:=(by have:=hb2.size;simp at this;omega)) | (go_at_call 47;refine (HH.out _).mono ?_;rintro e w3 ⟨rfl,hb3⟩;obtain⟨hc3,hf3⟩:=Qe hb3;have hz3:w2.heap.size<w3.heap.size:=(by have:=hb3.size;simp at this;omega)))
   go_ret
   exact⟨rfl,Qz⟩
  by_cases hlt:na<n
  ·have hd1:decide ((na:Int)<(n:Int))=true:=by simp;omega
   rw[show decide (na<n)=true by simpa using hlt]
   simp only[Bool.not_true,Bool.and_false,Bool.false_and]
   go_enter Tryz.func21,Tryz.ntmps21
   go_wp2_with (first | (go_at_call 45;refine (HC.out _ hE).mono ?_;rintro e w1 ⟨hb1,A,c,rfl,hRp⟩) | (go_at_call 46;refine (HD.out _ (Env.keep (Env.keep hE hb1) (Qk (Below.refl _ _) _))).mono ?_;rintro e w2 ⟨hb2,B,cb,D,cd,rfl,hRq,_⟩;obtain⟨hc2,hf2⟩:=Qe hb2;have hz2:w1.heap.size<w2.heap.size:=(by have:=hb2.size;simp at this;omega)) | (go_at_call 47;refine (HH.out _).mono ?_;rintro e w3 ⟨rfl,hb3⟩;obtain⟨hc3,hf3⟩:=Qe hb3;have hz3:w2.heap.size<w3.heap.size:=(by have:=hb3.size;simp at this;omega)))
   go_ret
   exact⟨rfl,Qz⟩
  have hd1:decide ((na:Int)<(n:Int))=false:=by simp;omega
  rw[show decide (na<n)=false by simpa using hlt]
  simp only[Bool.not_false,Bool.and_true,Bool.true_and]
  have hrest:(n<na∧tl=false)∨(¬ n<na)∨(n<na∧tl=true):=by cases tl <;> simp <;> omega
  rcases hrest with ⟨hgt,rfl⟩ | hgt | ⟨hgt,rfl⟩
  ·have hd2:decide ((n:Int)<(na:Int))=true:=by simp;omega
   rw[show decide (n<na)=true by simpa using hgt]
   simp only[Bool.not_false,Bool.and_self,Bool.not_true,Bool.false_and]
   go_enter Tryz.func21,Tryz.ntmps21
   go_wp2_with (first | (go_at_call 45;refine (HC.out _ hE).mono ?_;rintro e w1 ⟨hb1,A,c,rfl,hRp⟩) | (go_at_call 46;refine (HD.out _ (Env.keep (Env.keep hE hb1) (Qk (Below.refl _ _) _))).mono ?_;rintro e w2 ⟨hb2,B,cb,D,cd,rfl,hRq,_⟩;obtain⟨hc2,hf2⟩:=Qe hb2;have hz2:w1.heap.size<w2.heap.size:=(by have:=hb2.size;simp at this;omega)) | (go_at_call 47;refine (HH.out _).mono ?_;rintro e w3 ⟨rfl,hb3⟩;obtain⟨hc3,hf3⟩:=Qe hb3;have hz3:w2.heap.size<w3.heap.size:=(by have:=hb3.size;simp at this;omega)))
   go_ret
   exact⟨rfl,Qz⟩
  ·have hd2:decide ((n:Int)<(na:Int))=false:=by simp;omega
   rw[show decide (n<na)=false by simpa using hgt]
   simp only[Bool.false_and,Bool.not_false,Bool.true_and]
   generalize hres:QQ ps ap=res
   have HRES:=Lib.hid hres
   clear hres
   go_enter Tryz.func21,Tryz.ntmps21
   go_wp2_with (first | (go_at_call 45;refine (HC.out _ hE).mono ?_;rintro e w1 ⟨hb1,A,c,rfl,hRp⟩) | (go_at_call 46;refine (HD.out _ (Env.keep (Env.keep hE hb1) (Qk (Below.refl _ _) _))).mono ?_;rintro e w2 ⟨hb2,B,cb,D,cd,rfl,hRq,_⟩;obtain⟨hc2,hf2⟩:=Qe hb2;have hz2:w1.heap.size<w2.heap.size:=(by have:=hb2.size;simp at this;omega)) | (go_at_call 47;refine (HH.out _).mono ?_;rintro e w3 ⟨rfl,hb3⟩;obtain⟨hc3,hf3⟩:=Qe hb3;have hz3:w2.heap.size<w3.heap.size:=(by have:=hb3.size;simp at this;omega)))
   have y2:w3.cell? ⟨w2.heap.size,1,none⟩=some (.slice B na cb):=(hc3 _ _ (by simp)).trans (by simp[go_sem])
   have hRp3:Reads w3 2 A n (QZ ps):=hRp.keep Qz
   have hRq3:Reads w3 1 B na (ap.map .string):=hRq.keep Qz
   have hbw3:Below w.heap.size w w3:=Qz
   have hnna:n≤na:=by omega
   clear hc2 hf2 hc3 hf3 hRp hRq
   go_loopw [61] (fun vi wr=>∃ k:Nat,(vi=.int .i64 k∧k≤n)∧Hid (QQ (ps.drop k) (ap.drop k)=res)∧Below w3.heap.size w3 wr) (fun vi _=>n-(intOf vi).toNat)
   case atStart=>exact⟨0,⟨rfl,Nat.zero_le _⟩,HRES,Below.refl _ _⟩
   case round =>
    obtain⟨k,⟨rfl,hk⟩,HK,hbr⟩:=hrel
    by_cases hlt:k<n
    ·obtain⟨p',hp'⟩:∃ p,ps[k]? = some p:=⟨_,List.getElem?_eq_getElem (by have:=HN.out;omega)⟩
     obtain⟨x',hx'⟩:∃ p,ap[k]? = some p:=⟨_,List.getElem?_eq_getElem (by have:=HNA.out;omega)⟩
     obtain⟨hpk,hpt⟩:=h3 p' (List.mem_of_getElem? hp')
     have hxz:=hapz x' (List.mem_of_getElem? hx')
     obtain⟨pb,po,rfl,hcell⟩:=(hRp3.keep hbr).2 (by omega)
     obtain⟨qb,qo,rfl,hcellq⟩:=(hRq3.keep hbr).2 (by omega)
     obtain⟨e1,e2⟩:=Ja ps k p' hp'
     have hc1:wr.cell? ⟨pb,po+k*2,none⟩=_:=hcell _ _ e1
     have hc2:wr.cell? ⟨pb,po+k*2+1,none⟩=_:=hcell _ _ e2
     have hc3:wr.cell? ⟨qb,qo+k,none⟩=some (.string x'):=hcellq _ _ (by simp[hx'])
     have hdp:ps.drop k=p' :: ps.drop (k+1):=by
      obtain⟨hl2,rfl⟩:=List.getElem?_eq_some_iff.1 hp'
      exact List.drop_eq_getElem_cons hl2
     have hdx:ap.drop k=x' :: ap.drop (k+1):=by
      obtain⟨hl2,rfl⟩:=List.getElem?_eq_some_iff.1 hx'
      exact List.drop_eq_getElem_cons hl2
     have hm:=HK.out
     rw[hdp,hdx,QQ]at hm
     have cW:=fun W=>has_any p'.kind p'.text x' W (by omega) (by omega) hpk
     obtain⟨pk,pt⟩:=p'
     dsimp only at hc1 hc2 cW hm
     have y2r:=Qq hbr y2
     have g1:(wr.alloc (.cells #[.int .i64 pk,.string pt] 101)).cell? ⟨wr.heap.size,0,none⟩=some (.int .i64 pk):=by simp[go_sem]
     have g2:(wr.alloc (.cells #[.int .i64 pk,.string pt] 101)).cell? ⟨wr.heap.size,1,none⟩=some (.string pt):=by simp[go_sem]
     have g3:(wr.alloc (.cells #[.int .i64 pk,.string pt] 101)).cell? ⟨w2.heap.size,1,none⟩=some (.slice (some ⟨qb,qo,none⟩) na cb):=Qq (Qk (Below.refl _ _) _) y2r
     have g4:(wr.alloc (.cells #[.int .i64 pk,.string pt] 101)).cell? ⟨qb,qo+k,none⟩=some (.string x'):=Qq (Qk (Below.refl _ _) _) hc3
     have hk0:(0:Int)≤(k:Int):=by omega
     have hkm:(k:Int)<(na:Int):=by omega
     clear hp' hx' hcell hcellq e1 e2 hdp hdx HK
     cases hh:Jw pk pt x'
     ·rw[hh]at cW hm
      have HW:=Lib.hid cW
      have HM2:=Lib.hid hm
      clear cW hm hh
      go_wp2_with fail
      have k1:=cell_regrown g1;have k2:=cell_regrown g2;have k3:=cell_regrown g3;have k4:=cell_regrown g4
      refine wp_region_quiet_below (by kernel_rfl) (by kernel_rfl) ?_;(repeat (any_goals (first | go_big_quiet_step ((first | exact Xy HW.out _ _)) | quiet_step ((first | exact Xy HW.out _ _)))));refine wpQuiet_nil ?_;intro _ hwq;obtain⟨⟨dq,osq⟩,hwq⟩:=hwq;subst hwq;have hb4:=below_regrown (wr.alloc (.cells #[.int .i64 pk,.string pt] 101)) dq osq;generalize grow (redrawn (wr.alloc (.cells #[.int .i64 pk,.string pt] 101)) dq) osq=w4 at *
      go_wp2
      go_ret
      exact⟨QY (by have:=HM2.out;simpa using this),Qz⟩
     ·rw[hh]at cW hm
      have HW:=Lib.hid cW
      have HM2:Hid (QQ (ps.drop (k+1)) (ap.drop (k+1))=res):=Lib.hid (by simpa using hm)
      clear cW hm hh
      go_wp2_with fail
      have k1:=cell_regrown g1;have k2:=cell_regrown g2;have k3:=cell_regrown g3;have k4:=cell_regrown g4
      refine wp_region_quiet_below (by kernel_rfl) (by kernel_rfl) ?_;(repeat (any_goals (first | go_big_quiet_step ((first | exact Xy HW.out _ _)) | quiet_step ((first | exact Xy HW.out _ _)))));refine wpQuiet_nil ?_;intro _ hwq;obtain⟨⟨dq,osq⟩,hwq⟩:=hwq;subst hwq;have hb4:=below_regrown (wr.alloc (.cells #[.int .i64 pk,.string pt] 101)) dq osq;generalize grow (redrawn (wr.alloc (.cells #[.int .i64 pk,.string pt] 101)) dq) osq=w4 at *
      go_wp2
      exact⟨⟨k+1,⟨by go_num,by omega⟩,HM2,Qj (Qk hbr _) hb4⟩,by simp[intOf];omega⟩
    ·obtain rfl:k=n:=by omega
     have hm:res=true:=by
      have:=HK.out
      rw[HN.out,List.drop_eq_nil_of_le (Nat.le_refl _),QQ]at this
      exact this.symm
     subst hm
     go_wp2
     go_ret
     exact⟨rfl,Qz⟩
  ·have hd2:decide ((n:Int)<(na:Int))=true:=by simp;omega
   rw[show decide (n<na)=true by simpa using hgt]
   simp only[Bool.not_true,Bool.and_false,Bool.not_false,Bool.true_and]
   generalize hres:QQ ps ap=res
   have HRES:=Lib.hid hres
   clear hres
   go_enter Tryz.func21,Tryz.ntmps21
   go_wp2_with (first | (go_at_call 45;refine (HC.out _ hE).mono ?_;rintro e w1 ⟨hb1,A,c,rfl,hRp⟩) | (go_at_call 46;refine (HD.out _ (Env.keep (Env.keep hE hb1) (Qk (Below.refl _ _) _))).mono ?_;rintro e w2 ⟨hb2,B,cb,D,cd,rfl,hRq,_⟩;obtain⟨hc2,hf2⟩:=Qe hb2;have hz2:w1.heap.size<w2.heap.size:=(by have:=hb2.size;simp at this;omega)) | (go_at_call 47;refine (HH.out _).mono ?_;rintro e w3 ⟨rfl,hb3⟩;obtain⟨hc3,hf3⟩:=Qe hb3;have hz3:w2.heap.size<w3.heap.size:=(by have:=hb3.size;simp at this;omega)))
   have y2:w3.cell? ⟨w2.heap.size,1,none⟩=some (.slice B na cb):=(hc3 _ _ (by simp)).trans (by simp[go_sem])
   have hRp3:Reads w3 2 A n (QZ ps):=hRp.keep Qz
   have hRq3:Reads w3 1 B na (ap.map .string):=hRq.keep Qz
   have hbw3:Below w.heap.size w w3:=Qz
   have hnna:n≤na:=by omega
   clear hc2 hf2 hc3 hf3 hRp hRq
   go_loopw [61] (fun vi wr=>∃ k:Nat,(vi=.int .i64 k∧k≤n)∧Hid (QQ (ps.drop k) (ap.drop k)=res)∧Below w3.heap.size w3 wr) (fun vi _=>n-(intOf vi).toNat)
   case atStart=>exact⟨0,⟨rfl,Nat.zero_le _⟩,HRES,Below.refl _ _⟩
   case round =>
    obtain⟨k,⟨rfl,hk⟩,HK,hbr⟩:=hrel
    by_cases hlt:k<n
    ·obtain⟨p',hp'⟩:∃ p,ps[k]? = some p:=⟨_,List.getElem?_eq_getElem (by have:=HN.out;omega)⟩
     obtain⟨x',hx'⟩:∃ p,ap[k]? = some p:=⟨_,List.getElem?_eq_getElem (by have:=HNA.out;omega)⟩
     obtain⟨hpk,hpt⟩:=h3 p' (List.mem_of_getElem? hp')
     have hxz:=hapz x' (List.mem_of_getElem? hx')
     obtain⟨pb,po,rfl,hcell⟩:=(hRp3.keep hbr).2 (by omega)
     obtain⟨qb,qo,rfl,hcellq⟩:=(hRq3.keep hbr).2 (by omega)
     obtain⟨e1,e2⟩:=Ja ps k p' hp'
     have hc1:wr.cell? ⟨pb,po+k*2,none⟩=_:=hcell _ _ e1
     have hc2:wr.cell? ⟨pb,po+k*2+1,none⟩=_:=hcell _ _ e2
     have hc3:wr.cell? ⟨qb,qo+k,none⟩=some (.string x'):=hcellq _ _ (by simp[hx'])
     have hdp:ps.drop k=p' :: ps.drop (k+1):=by
      obtain⟨hl2,rfl⟩:=List.getElem?_eq_some_iff.1 hp'
      exact List.drop_eq_getElem_cons hl2
     have hdx:ap.drop k=x' :: ap.drop (k+1):=by
      obtain⟨hl2,rfl⟩:=List.getElem?_eq_some_iff.1 hx'
      exact List.drop_eq_getElem_cons hl2
     have hm:=HK.out
     rw[hdp,hdx,QQ]at hm
     have cW:=fun W=>has_any p'.kind p'.text x' W (by omega) (by omega) hpk
     obtain⟨pk,pt⟩:=p'
     dsimp only at hc1 hc2 cW hm
     have y2r:=Qq hbr y2
     have g1:(wr.alloc (.cells #[.int .i64 pk,.string pt] 101)).cell? ⟨wr.heap.size,0,none⟩=some (.int .i64 pk):=by simp[go_sem]
     have g2:(wr.alloc (.cells #[.int .i64 pk,.string pt] 101)).cell? ⟨wr.heap.size,1,none⟩=some (.string pt):=by simp[go_sem]
     have g3:(wr.alloc (.cells #[.int .i64 pk,.string pt] 101)).cell? ⟨w2.heap.size,1,none⟩=some (.slice (some ⟨qb,qo,none⟩) na cb):=Qq (Qk (Below.refl _ _) _) y2r
     have g4:(wr.alloc (.cells #[.int .i64 pk,.string pt] 101)).cell? ⟨qb,qo+k,none⟩=some (.string x'):=Qq (Qk (Below.refl _ _) _) hc3
     have hk0:(0:Int)≤(k:Int):=by omega
     have hkm:(k:Int)<(na:Int):=by omega
     clear hp' hx' hcell hcellq e1 e2 hdp hdx HK
     cases hh:Jw pk pt x'
     ·rw[hh]at cW hm
      have HW:=Lib.hid cW
      have HM2:=Lib.hid hm
      clear cW hm hh
      go_wp2_with fail
      have k1:=cell_regrown g1;have k2:=cell_regrown g2;have k3:=cell_regrown g3;have k4:=cell_regrown g4
      refine wp_region_quiet_below (by kernel_rfl) (by kernel_rfl) ?_;(repeat (any_goals (first | go_big_quiet_step ((first | exact Xy HW.out _ _)) | quiet_step ((first | exact Xy HW.out _ _)))));refine wpQuiet_nil ?_;intro _ hwq;obtain⟨⟨dq,osq⟩,hwq⟩:=hwq;subst hwq;have hb4:=below_regrown (wr.alloc (.cells #[.int .i64 pk,.string pt] 101)) dq osq;generalize grow (redrawn (wr.alloc (.cells #[.int .i64 pk,.string pt] 101)) dq) osq=w4 at *
      go_wp2
      go_ret
      exact⟨QY (by have:=HM2.out;simpa using this),Qz⟩
     ·rw[hh]at cW hm
      have HW:=Lib.hid cW
      have HM2:Hid (QQ (ps.drop (k+1)) (ap.drop (k+1))=res):=Lib.hid (by simpa using hm)
      clear cW hm hh
      go_wp2_with fail
      have k1:=cell_regrown g1;have k2:=cell_regrown g2;have k3:=cell_regrown g3;have k4:=cell_regrown g4
      refine wp_region_quiet_below (by kernel_rfl) (by kernel_rfl) ?_;(repeat (any_goals (first | go_big_quiet_step ((first | exact Xy HW.out _ _)) | quiet_step ((first | exact Xy HW.out _ _)))));refine wpQuiet_nil ?_;intro _ hwq;obtain⟨⟨dq,osq⟩,hwq⟩:=hwq;subst hwq;have hb4:=below_regrown (wr.alloc (.cells #[.int .i64 pk,.string pt] 101)) dq osq;generalize grow (redrawn (wr.alloc (.cells #[.int .i64 pk,.string pt] 101)) dq) osq=w4 at *
      go_wp2
      exact⟨⟨k+1,⟨by go_num,by omega⟩,HM2,Qj (Qk hbr _) hb4⟩,by simp[intOf];omega⟩
    ·obtain rfl:k=n:=by omega
     have hm:res=true:=by
      have:=HK.out
      rw[HN.out,List.drop_eq_nil_of_le (Nat.le_refl _),QQ]at this
      exact this.symm
     subst hm
     go_wp2
     go_ret
     exact⟨rfl,Qz⟩
theorem Ym (x y:ByteArray):(Op.bytesLess x.toList y.toList||x.toList==y.toList) = !KQ y x:=le_prev x y
def Vu (l:List ByteArray):Bool:=(List.range l.length).all (Jt KQ (fun _=>true) l)
theorem asc_at {l:List ByteArray} {k:Nat} {x y:ByteArray} (hx:l[k+1]? = some x) (hy:l[k]? = some y):Jt KQ (fun _=>true) l (k+1)=KQ y x:=by
 unfold Jt
 rw[hx,Nat.add_sub_cancel,hy]
 simp
theorem asc_fail {l:List ByteArray} {k:Nat} (hk:k<l.length) (h2:Jt KQ (fun _=>true) l k=false):Vu l=false:=by
 unfold Vu
 rw[List.all_eq_false]
 exact⟨k,by simpa using hk,by rw[h2];simp⟩
theorem rAscend_any (A:Option Addr) (n c:Nat) (xs:List ByteArray) (w:World) (hA:Reads w 1 A n (xs.map .string)) (hn:n≤1000000000):Calls Tryz.prog 140 #[.slice A n c] w (Zx w (.bool (Vu xs))):=by
 have hl:xs.length=n:=by have:=hA.1;simp at this;omega
 obtain⟨V,hV⟩:∃ V,V=Vu xs:=⟨_,rfl⟩
 rw[←hV]
 have HA:=Lib.hid hA;have HL:=Lib.hid hl;have HV:=Lib.hid hV
 clear hA hl hV
 go_enter Tryz.func140,Tryz.ntmps140
 go_wp2
 go_loopw [3] (fun i wr=>∃ k:Nat,k≤n∧i=.int .i64 (k+1:Nat)∧Hid ((List.range (k+1)).all (Jt KQ (fun _=>true) xs)=true)∧Below w.heap.size w wr) (fun i _=>n+1-(intOf i).toNat)
 case atStart=>exact⟨0,by omega,rfl,Lib.hid (by simp[Jt];cases xs[0]? <;> rfl),Below.refl _ _⟩
 case round =>
  obtain⟨k,hk,rfl,HK,hb⟩:=hrel
  by_cases hlt:k+1<n
  ·obtain⟨x,hx⟩:∃ x,xs[k+1]? = some x:=⟨_,List.getElem?_eq_getElem (by have:=HL.out;omega)⟩
   obtain⟨y,hy⟩:∃ y,xs[k]? = some y:=⟨_,List.getElem?_eq_getElem (by have:=HL.out;omega)⟩
   obtain⟨pb,po,rfl,hcell⟩:=(HA.out.keep hb).2 (by omega)
   have hc1:wr.cell? ⟨pb,po+(k+1),none⟩=some (.string x):=hcell (k+1) _ (by simp[hx])
   have hc2:wr.cell? ⟨pb,po+k,none⟩=some (.string y):=hcell k _ (by simp[hy])
   have hk0:(0:Int)≤(k:Int):=by omega
   have hk1:(k:Int)<(n:Int):=by omega
   have hk2:(0:Int)≤(k:Int)+1:=by omega
   have hk3:(k:Int)+1<(n:Int):=by omega
   have hle:=Ym x y
   have hat:=asc_at hx hy
   cases ht:KQ y x
   ·obtain rfl:V=false:=by rw[HV.out];exact asc_fail (k:=k+1) (by have:=HL.out;omega) (by rw[hat,ht])
    rw[ht]at hle
    clear HK hcell hx hy hat ht
    go_wp2_with fail
    go_quiet (fail)
    go_wp2
    go_ret
    exact⟨rfl,Qz⟩
   ·have HK2:Hid ((List.range (k+1+1)).all (Jt KQ (fun _=>true) xs)=true):=Lib.hid (X9 HK.out (by rw[hat,ht]))
    rw[ht]at hle
    clear HK hcell hx hy hat ht
    go_wp2_with fail
    go_quiet (fail)
    go_wp2
    exact⟨⟨k+1,by omega,by go_num,HK2,Qz⟩,by simp[intOf];omega⟩
  ·obtain rfl:V=true:=by
    rw[HV.out]
    unfold Vu
    rw[List.all_eq_true]
    intro j hj
    have:=HK.out
    rw[List.all_eq_true]at this
    exact this j (by simp at hj ⊢;have:=HL.out;omega)
   go_wp2
   go_ret
   exact⟨rfl,hb⟩
end Go.Proofs.YticlbkficolocaaGreatDoor
