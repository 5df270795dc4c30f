/- An address that a pattern matches, made of words that no other pattern names: analyse.example. -/
import Derived.Test.YticlbkficolocaaGreatDoorIZ33
import Derived.Test.YticlbkficolocaaGreatDoorIZ32
set_option maxHeartbeats 8000000
namespace Go.Proofs.YticlbkficolocaaGreatDoor
open Go.RowKit Go.Sort
set_option linter.unusedVariables false
set_option linter.unusedSimpArgs false
set_option maxRecDepth 100000
open Go.Maps
theorem but_grown {w w':World} {g:Nat} (h:But g w w'):w.grownBy w' (some g):=⟨h.os,h.tape,h.output,h.size,fun k hk hn=>h.block k hk (fun e=>hn (by rw[e]))⟩
theorem own_but {w w':World} {g b base t cap:Nat} {e:TypeId} {xs:List Value} (h:w.ownsRow base e 1 (.slice (some ⟨b,0,none⟩) t cap) t xs) (hb:But g w w') (hn:b≠g):w'.ownsRow base e 1 (.slice (some ⟨b,0,none⟩) t cap) t xs :=
 h.kept (but_grown hb) (.inr (fun e=>hn (Option.some.inj e)))
theorem cust_star {p:Part} (hp:Jj p):((Qp p.kind p.text).toList == [42])=decide (p.kind≠0):=by
 rw[Lib.toList_data]
 rcases hp with ⟨hk,hw⟩ | ⟨hk,ht⟩
 ·rw[decide_eq_false (by omega)]
  have e:Qp p.kind p.text=p.text:=by unfold Qp;rw[if_pos hk]
  rw[e,beq_eq_false_iff_ne]
  intro h
  exact (X5 (Xz hw)).2.2.2.2.1 (by rw[h];simp)
 ·rw[decide_eq_true (by omega),Jl,if_neg (by omega),ht]
  rfl
def lenV:Value→Nat | .slice _ n _=>n | _=>0
def rowW (x:Z7) (cu:ByteArray) (t:Nat):List ByteArray:=cu :: Zg x.parts++List.replicate (t-(x.parts.length+1)) starS
theorem rowW_zero (x:Z7) (cu:ByteArray):rowW x cu (x.parts.length+1)=cu :: Zg x.parts:=by simp[rowW]
theorem rowW_succ (x:Z7) (cu:ByteArray) (t:Nat) (h:x.parts.length+1≤t):rowW x cu (t+1)=rowW x cu t++[starS]:=by
 unfold rowW
 rw[show t+1-(x.parts.length+1)=t-(x.parts.length+1)+1 by omega,List.replicate_succ']
 simp
theorem rowW_full (x:Z7) (cu:ByteArray) (m:Nat) (h:x.parts.length≤m):rowW x cu (m+1)=cu :: Zg (ZW x m):=by
 unfold rowW
 rw[partsM_str,show m+1-(x.parts.length+1)=m-x.parts.length by omega]
 rfl
def rowI (x:Z7) (m:Nat) (cu:ByteArray) (ws:List ByteArray) (i:Nat):List ByteArray:=cu :: (ws++(Zg (ZW x m)).drop i)
theorem made_word {named:List ByteArray} {p:Part} (h0:p.kind=0):Ux named p (Qp p.kind p.text):=.inl ⟨h0,by unfold Qp;rw[if_pos h0]⟩
theorem made_fresh {bs:List ByteArray} {p:Part} {j:Nat} (hk:p.kind≠0) (hj:j≤1000000) (h:Yk (Zc bs).reverse (wE j p.text)=false):Ux (Zc bs) p (wE j p.text) :=
 .inr ⟨hk,j,hj,rfl,fun hm=>by
  have:=(hasN_iff (Zc bs).reverse (wE j p.text)).2 (List.mem_reverse.2 hm)
  rw[h]at this
  cases this⟩
theorem infStrU:(Tryz.prog.info? 9).map (fun i=>(i.zero,i.size,i.bytes))=some (some (.string ⟨#[]⟩),1,16):=by kernel_rfl
theorem Xd.low {gb gm gn N k B:Nat} {named:List ByteArray} {w w':World} (h:Xd gb gm gn N named k w) (hb:Below B w w') (h1:gb<B) (h2:gm<B) (h3:gn<B):Xd gb gm gn N named k w' :=
 ⟨(hb.block gb h1).trans h.b,KW h.m hb h2,(hb.block gn h3).trans h.n,h.d1,h.d2⟩
theorem rowI_at {x:Z7} {m i:Nat} {cu:ByteArray} {ws:List ByteArray} {p:Part} (hl:ws.length=i) (hp:(ZW x m)[i]? = some p):(rowI x m cu ws i)[i+1]? = some (Qp p.kind p.text):=by
 unfold rowI
 rw[List.getElem?_cons_succ,List.getElem?_append_right (by omega),hl,Nat.sub_self,List.getElem?_drop,Nat.add_zero]
 simp[Zg,hp]
theorem rowI_set {x:Z7} {m i:Nat} {cu s:ByteArray} {ws:List ByteArray} (hl:ws.length=i) (hi:i<(ZW x m).length):(rowI x m cu ws i).set (i+1) s=rowI x m cu (ws++[s]) (i+1):=by
 unfold rowI
 have hd:(Zg (ZW x m)).drop i=(Zg (ZW x m))[i]'(by simpa[Zg] using hi) :: (Zg (ZW x m)).drop (i+1):=List.drop_eq_getElem_cons _
 rw[List.set_cons_succ,List.set_append_right _ _ (by omega),hl,Nat.sub_self,hd,List.set_cons_zero]
 simp
theorem rowI_zero (x:Z7) (m:Nat) (cu:ByteArray):rowI x m cu [] 0=cu :: Zg (ZW x m):=rfl
theorem rowI_end {x:Z7} {m:Nat} {cu:ByteArray} {ws:List ByteArray} (hm:x.parts.length≤m):rowI x m cu ws m=cu :: ws:=by
 unfold rowI
 rw[List.drop_of_length_le (by simp[Zg,KU x m hm])]
 simp
def ExI (bs:List ByteArray) (x:Z7) (m:Nat) (cu:ByteArray) (gb gm gn N g cap B:Nat) (w:World) (i:Nat) (wr:World):Prop :=
 ∃ ws k,Made (Zc bs) ((ZW x m).take i) ws∧k≤(i+1)*6021∧Xd gb gm gn N (Zc bs).reverse k wr∧wr.ownsRow B 9 1 (.slice (some ⟨g,0,none⟩) (m+1) cap) (m+1) ((rowI x m cu ws i).map .string)∧Below w.heap.size w wr∧B<wr.heap.size
def InI (bs:List ByteArray) (p:Part) (gb gm gn N a:Nat) (wo:World) (s:ByteArray) (wr:World):Prop :=
 ∃ k,a≤k∧k≤a+6021∧Xd gb gm gn N (Zc bs).reverse k wr∧But gn wo wr∧((s=Qp p.kind p.text∧p.kind≠0∧k≤a+6020∧∀ j,a≤j→j<k→wN j∈(Zc bs).reverse∨wE j p.text∈(Zc bs).reverse)∨(Ux (Zc bs) p s∧Lib.hasPrefix s.data.toList [42]=false))
theorem wE_plain {p:Part} (hp:Qa p) (j:Nat):Lib.hasPrefix (wE j p.text).data.toList [42]=false:=by
 rw[Y1]
 unfold wL
 rfl
theorem But.put {g b o:Nat} {w w':World} {v:Value} (h:But g w w') (hb:w.heap.size≤b):But g w (w'.setCell ⟨b,o,none⟩ v) :=
 ⟨h.os,h.tape,h.output,by have:=h.size;simpa[World.setCell] using this,fun k hk hn=>(Below.heap_setCell _ _ _ _ (by show k≠b;omega)).trans (h.block k hk hn)⟩
def D24 (gb gn:Nat) (r:Nat) (p:Part) (wz:World) (j:Nat) (v:Value) (w:World):Prop :=
 match j with
 | 0=>v=.func (.func 164) #[] #[.pointer (some ⟨gn,0,none⟩),.pointer (some ⟨gb,0,none⟩)]
 | 1=>v=.string (wN r)
 | 2=>v=.string (Qp p.kind p.text)
 | 3=>v=.string p.text
 | 4=>v=.string (wE r p.text)
 | 5=>∃ b,v=.pointer (some ⟨b,0,none⟩)∧wz.heap.size≤b∧Qv w b 9 #[.string ⟨#[]⟩] (0,0)
 | _=>True
theorem D24.keep {gb gn r:Nat} {p:Part} {wz:World} (hg:gn<wz.heap.size) (j:Nat) (v:Value) (w w':World) (h:D24 gb gn r p wz j v w) (hb:But gn w w'):D24 gb gn r p wz j v w':=by
 unfold D24 at h ⊢
 split at h
 ·exact h
 ·exact h
 ·exact h
 ·exact h
 ·exact h
 ·obtain⟨b,e,h1,h2⟩:=h
  exact⟨b,e,h1,hb.blk h2 (by omega)⟩
 ·trivial
def J24 (gb gm gn N k r:Nat) (nm:List ByteArray) (wz:World) (L:Nat→Bool) (w:World):Prop:=Xd gb gm gn N nm (bif L 1 then r+1 else k) w∧But gn wz w
theorem exampl_any (p:ByteArray) (x:Z7) (m:Nat) (A:Option Addr) (n c:Nat) (bs:List ByteArray) (w:World) (hx:Qx p=some x) (hp:p.size≤100000) (hm:x.parts.length≤m) (h32:m≤32)
  (hR:Reads w 1 A n (bs.map .string)) (hn:n≤10) (hs:∀ b∈bs,b.size≤300) (hE:Env w) (hT:Tab w) :
  Calls Tryz.prog 52 #[.string p,.int .i64 (m:Int),.slice A n c] w fun e w'=>∃ cu ws,e=.returned (.string (Xt (cu :: ws)))∧Ux (Zc bs) x.cust cu∧Made (Zc bs) (ZW x m) ws∧Below w.heap.size w w':=by
 have hfit:=Zq hx
 have hbl:bs.length=n:=by have:=hR.1;simpa using this
 have hnum:(Zc bs).reverse.length≤3010:=by
  rw[List.length_reverse]
  have h1:=namedL_num 300 bs hs
  have h2:=Nat.mul_le_mul_right (300+1) (show bs.length≤10 by omega)
  omega
 have cU:=unnamed_any A n c bs w hR (by omega) (fun b hb=>by have:=hs b hb;omega) hE
 have cT:=fun W=>Tryz.strings_TrimSuffix p ⟨#[47,42,42]⟩ W (by omega)
 have htr:=fix_trim hx
 have hfs:(fixS x).size≤100000:=by
  rw[←htr,Qn]
  have:=Lib.trimSuffix_le p.data.toList [47,42,42]
  rw[←Lib.size_eq]at this
  simp only
  omega
 have cS:=fun W (hb:Below w.heap.size w W)=>splitOwn_any (fixS x) 47 W (by omega) (Env.keep hE hb)
 rw[fix_split hfit,fix_len]at cS
 have cN:=fun (y:ByteArray) (b:Nat) (W:World) (hb:Below w.heap.size w W) (hc:W.cell? ⟨b,0,none⟩=some (.string y))=>anyNamed_any A n c bs y b W (hR.keep hb) (by omega) (fun q hq=>by have:=hs q hq;omega) hc (Env.keep hE hb)
 have HU:=Lib.hid cU;have HTR:=Lib.hid cT;have HTE:=Lib.hid htr;have HSP:=Lib.hid cS;have HNA:=Lib.hid cN;have HT:=Lib.hid hT;have HX:=Lib.hid hfit;have HNUM:=Lib.hid hnum
 clear cU cT htr cS cN hT hfit hnum hE hs hR hfs hx hbl
 have hmf:∀ (fn:Fn) (first cap:Array Value) (w:World),(Instr.makeFunc fn first cap).run Tryz.prog w=.ok (.func fn first cap) w:=fun _ _ _ _=>rfl
 go_enter Tryz.func52,Tryz.ntmps52
 go_upto_region 3 with (first | (go_at_call 104;refine HU.out.mono ?_;rintro e w1 ⟨gb,gm,gn,N,rfl,hW1,hg1,hb1⟩;have HW1:=Lib.hid hW1;clear hW1) | (go_at_call 105;refine (HTR.out _).mono ?_;rintro e wt ⟨rfl,hwt⟩;rw[hwt];clear hwt wt) | (go_at_call 88;rw[HTE.out];refine (HSP.out _ hb1).mono ?_;rintro e w2 ⟨rfl,hown2,hb2⟩))
 have hc0:w2.cell? ⟨w1.heap.size,0,none⟩=some (.string (Qp x.cust.kind x.cust.text)):=by
  rw[hown2.cellAt 0 (by omega)];rfl
 have hst:=cust_star HX.out.cust
 obtain⟨b0,hb0⟩:∃ b0,b0=decide (x.cust.kind≠0):=⟨_,rfl⟩
 rw[←hb0]at hst
 have HB0:=Lib.hid hb0;have HOW:=Lib.hid hown2
 have hbb:=HW1.out.b.lt
 have hbm:=HW1.out.m.lt
 have hbn:=HW1.out.n.lt
 clear hown2 hb0
 go_upto_if 20 with fail
 clear hc0
 go_cut [] (fun wx=>∃ (cu:ByteArray) (k:Nat),Ux (Zc bs) x.cust cu∧k≤6021∧Hid (Xd gb gm gn N (Zc bs).reverse k wx)∧Hid (wx.ownsRow w1.heap.size 9 1 (.slice (some ⟨w1.heap.size,0,none⟩) (x.parts.length+1) (x.parts.length+1)) (x.parts.length+1) ((cu :: Zg x.parts).map .string))∧Below w.heap.size w wx∧w1.heap.size<wx.heap.size)
 case first =>
  have hs2:=hb2.size
  have hlt2:w1.heap.size<w2.heap.size:=(HOW.out.lt _ rfl).2
  cases b0
  ·have hk0:x.cust.kind=0:=by have:=HB0.out;simpa using this.symm
   go_wp2_with fail
   go_meet
   exact⟨Qp x.cust.kind x.cust.text,0,made_word hk0,by omega,Lib.hid (HW1.out.keep hb2),HOW,Qj hb1 hb2,hlt2⟩
  ·have hk0:x.cust.kind≠0:=by have:=HB0.out;simpa using this.symm
   have htx:x.cust.text=⟨#[]⟩:=by
    rcases HX.out.cust with ⟨h,_⟩ | ⟨_,h⟩
    ·exact absurd h hk0
    ·exact h
   have cW:=word_any gb gm gn N 0 (Zc bs).reverse w2 (HW1.out.keep hb2) (by omega) (by have:=HNUM.out;omega) (fun W h=>HT.out.keep ((Qj hb1 hb2).trans (h.below (by omega) (by have:=hb1.size;omega))))
   have hnl:=next_le (Zc bs).reverse 0
   have hns:=next_stop (Zc bs).reverse 0
   have hnn:=HNUM.out
   obtain⟨r,hr⟩:∃ r,r=Wi (Zc bs).reverse 0:=⟨_,rfl⟩
   rw[←hr]at cW hnl hns
   have HWD:=Lib.hid cW;have HNS:=Lib.hid hns
   clear cW hns hr
   go_wp2_with (go_at_call 164;refine HWD.out.mono ?_;rintro e w3 ⟨rfl,hW3,hbu3⟩;have hown3:=own_but HOW.out hbu3 (by omega);have y3:w3.cell? ⟨w1.heap.size,0,none⟩=some (.string (Qp x.cust.kind x.cust.text)):=(by rw[hown3.cellAt 0 (by omega)];rfl);have z3:=hown3.frozenAt 0)
   go_meet
   have hbu4:=But.set w3 w1.heap.size 0 (.string (wN r))
   refine⟨wN r,r+1,?_,by omega,Lib.hid (hW3.but hbu4 (by omega) (by omega) (by omega)),Lib.hid (hown3.stored 0 _).1,((Qj hb1 hb2).trans (hbu3.below (by omega) (by omega))).trans (hbu4.below (by omega) (by have:=hbu3.size;omega)),?_⟩
   ·have:=made_fresh (bs:=bs) (p:=x.cust) (j:=r) hk0 (by omega) (by rw[htx,wE_nil];exact HNS.out)
    rwa [htx,wE_nil]at this
   ·have:=hbu3.size
    simp[World.setCell];omega
 case rest =>
  obtain⟨cu,k0,hcu,hk0,HWS,HRW,hbx,hlx⟩:=hcut
  have hg3:gb<w1.heap.size∧gm<w1.heap.size∧gn<w1.heap.size:=⟨hbb,hbm,hbn⟩
  clear hst HB0 HOW hb2 HTR HSP HTE HU HW1 w2
  obtain⟨i0,hi0,hz0,hz1,hz2⟩:=info_parts infStrU
  have HI:=Lib.hid (And.intro hi0 (And.intro hz0 (And.intro hz1 hz2)))
  clear hi0 hz0 hz1 hz2
  have hrow:Hid (wc.ownsRow w1.heap.size 9 1 (.slice (some ⟨w1.heap.size,0,none⟩) (x.parts.length+1) (x.parts.length+1)) (x.parts.length+1) ((rowW x cu (x.parts.length+1)).map .string)):=by rw[rowW_zero];exact HRW
  clear HRW
  go_wp2_with fail
  go_loopw [8] (fun v wr=>∃ t g cap:Nat,v=.slice (some ⟨g,0,none⟩) t cap∧x.parts.length+1≤t∧t≤m+1∧Hid (Xd gb gm gn N (Zc bs).reverse k0 wr)∧Hid (wr.ownsRow w1.heap.size 9 1 (.slice (some ⟨g,0,none⟩) t cap) t ((rowW x cu t).map .string))∧Below w.heap.size w wr∧w1.heap.size<wr.heap.size) (fun v _=>m+1-lenV v)
  case atStart=>exact⟨x.parts.length+1,_,_,rfl,by omega,by omega,HWS,hrow,hbx,hlx⟩
  case round =>
   obtain⟨t,g,cap,rfl,ht1,ht2,HS,HR,hb,hl⟩:=hrel
   clear HWS hrow hbx hlx
   by_cases htm:t≤m
   ·have hle:decide ((t:Int)≤(m:Int))=true:=decide_eq_true (by omega)
    have hb8:=HR.out
    go_wp2_with (at_builtin;refine wpList_append_own _ rfl _ _ 22 rfl w1.heap.size 9 i0 (.string ⟨#[]⟩) 1 16 Tryz.underlying22 HI.out.1 HI.out.2.1 HI.out.2.2.1 HI.out.2.2.2 rfl (by decide) _ _ _ rfl (HR.out.alloc _) ⟨wr.heap.size,0,none⟩ 1 1 [.string starS] rfl rfl (cell_one_new _ _ _) (by simp[Value.oneCell']) (by unfold maxLen;omega) (by omega) (by simp;omega) ?_;intro v' w3 hown' hgrow _;obtain⟨g',cap',rfl⟩:=ownsRow_succ hown')
    have hb3:Below w1.heap.size wr w3:=((Below.refl _ _).alloc (by omega) _).grown hgrow (by simp;omega) (fun r e=>Qu HR.out r e)
    have hs3:=hb3.size
    exact⟨⟨t+1,g',cap',rfl,by omega,by omega,Lib.hid (HS.out.low hb3 hg3.1 hg3.2.1 hg3.2.2),Lib.hid (by rw[rowW_succ x cu t ht1,List.map_append];exact hown'),hb.trans (hb3.mono hb1.size),by omega⟩,by simp[lenV];omega⟩
   ·obtain rfl:t=m+1:=by omega
    have hle:((m:Int)+1≤(m:Int))=False:=eq_false (by omega)
    have hle2:decide ((m:Int)+1≤(m:Int))=false:=decide_eq_false (by omega)
    have hcap:m+1≤cap:=by
     rcases HR.out.2 with ⟨h,_⟩ | ⟨g',cap',cur,h,_,_,h1,_⟩
     ·cases h
     ·injection h with _ _ h3
      omega
    have hgn:w1.heap.size≤g:=(HR.out.lt g rfl).1
    have hinit:ExI bs x m cu gb gm gn N g cap w1.heap.size w 0 wr:=⟨[],k0,by rw[List.take_zero];exact Made.nil _,by omega,HS.out,by rw[rowI_zero,←rowW_full x cu m hm];exact HR.out,hb,hl⟩
    have HIN:=Lib.hid hinit
    clear hinit HS HR hb hl
    obtain⟨wo,rfl⟩:∃ wo:World,wo=wr:=⟨_,rfl⟩
    go_upto_region 7 with fail
    clear hle hle2
    go_cut [33,34,35] (fun v33 v34 v35 wx=>∃ o cp:Nat,v33=.slice (some ⟨g,o,none⟩) m cp∧(0<m→o=1)∧v34=.int .i64 m∧v35=.int .i64 0∧wx=wo)
    case first =>
     have hm1:(1:Int)≤(m:Int)+1:=by omega
     rcases Nat.lt_or_ge 1 cap with hc1 | hc1
     ·have hc2:(1:Int)≤(cap:Int):=by omega
      go_wp2_with fail
      go_meet
      exact⟨1,cap-1,rfl,fun _=>rfl,rfl,rfl,rfl⟩
     ·obtain rfl:cap=1:=by omega
      obtain rfl:m=0:=by omega
      go_wp2_with fail
      go_meet
      exact⟨0,0,rfl,fun h=>by omega,rfl,rfl,rfl⟩
    case rest =>
     obtain⟨o,cp,rfl,ho1,rfl,rfl,rfl⟩:=hcut
     go_wp2_with fail
     go_loopw [35] (fun iv wr=>∃ i:Nat,i≤m∧iv=.int .i64 i∧Hid (ExI bs x m cu gb gm gn N g cap w1.heap.size w i wr)) (fun iv _=>m-(intOf iv).toNat)
     case atStart=>exact⟨0,by omega,rfl,HIN⟩
     case round =>
      obtain⟨i,hi,rfl,HX2⟩:=hrel
      clear HIN
      obtain⟨ws,a,hmade,ha,hS,hown,hb,hl⟩:=HX2.out
      clear HX2
      have HMA:=Lib.hid hmade;have HS:=Lib.hid hS;have HOW:=Lib.hid hown
      clear hmade hS hown
      by_cases hlt:i<m
      ·obtain rfl:o=1:=ho1 (by omega)
       clear ho1
       have hws:=HMA.out.len
       rw[List.length_take,KU x m hm,Nat.min_eq_left (by omega)]at hws
       obtain⟨pp,hpp⟩:∃ pp,(ZW x m)[i]? = some pp:=⟨_,List.getElem?_eq_getElem (by rw[KU x m hm];exact hlt)⟩
       have hfp:=VY HX.out m pp (List.mem_of_getElem? hpp)
       have hat:∀ W:World,W.ownsRow w1.heap.size 9 1 (.slice (some ⟨g,0,none⟩) (m+1) cap) (m+1) ((rowI x m cu ws i).map .string)→W.cell? ⟨g,i+1,none⟩=some (.string (Qp pp.kind pp.text)):=fun W h=>by
        rw[h.cellAt (i+1) (by omega),List.getElem?_map,rowI_at hws hpp];rfl
       have hcS:wr.cell? ⟨g,1+i,none⟩=some (.string (Qp pp.kind pp.text)):=by rw[Nat.add_comm];exact hat wr HOW.out
       have HAT:=Lib.hid hat;have HFP:=Lib.hid hfp;have HPP:=Lib.hid hpp;have HWL:=Lib.hid hws
       clear hat hfp hpp hws
       have hi0:(0:Int)≤(i:Int):=by omega
       have hi1:(i:Int)<(m:Int):=by omega
       obtain⟨wq,rfl⟩:∃ wq:World,wq=wr:=⟨_,rfl⟩
       have hfirst:InI bs pp gb gm gn N a wq (Qp pp.kind pp.text) wq:=⟨a,Nat.le_refl _,by omega,HS.out,But.refl _ _,by
        by_cases hk:pp.kind=0
        ·exact .inr ⟨made_word hk,(str_plain HFP.out hk).1⟩
        ·exact .inl ⟨rfl,hk,by omega,fun j h1 h2=>by omega⟩⟩
       have HF:=Lib.hid hfirst
       clear hfirst
       go_wp2_with fail
       clear hcS hi0 hi1
       go_loopw [10] (fun v wr=>∃ s:ByteArray,v=.string s∧Hid (InI bs pp gb gm gn N a wq s wr)) (fun _ wr=>a+6022-ctrN gn wr)
       case atStart=>exact⟨_,rfl,HF⟩
       case round =>
        obtain⟨s,rfl,HIn⟩:=hrel
        obtain⟨k,hk1,hk2,hS2,hbu,hcase⟩:=HIn.out
        clear HF HIn
        have hpx:=fun W=>Tryz.strings_HasPrefix s ⟨#[42]⟩ W
        have hown2:=own_but HOW.out hbu (by omega)
        have hbz:Below w.heap.size w wr:=hb.trans (hbu.below (by omega) (by have:=hb.size;omega))
        rcases hcase with ⟨rfl,hkd,hk3,hpass⟩ | ⟨hmd,hnp⟩
        ·have hdat:=str_starred hkd
         have hsz:1≤(Qp pp.kind pp.text).size:=by rw[Qn,hdat];simp
         have hext:(Qp pp.kind pp.text).extract 1 (Qp pp.kind pp.text).size=pp.text:=Qm (by rw[extract_data,hdat];rfl)
         have hssz:(Qp pp.kind pp.text).size≤66:=str_size2 HFP.out
         have hpx2:∀ W,Calls Tryz.prog 92 #[.string (Qp pp.kind pp.text),.string ⟨#[42]⟩] W fun e w'=>e=.returned (.bool true)∧w'=W:=fun W=>by
          have:=hpx W
          rw[hdat]at this
          exact this
         have htsz:pp.text.size≤66:=by
          have h1:=congrArg List.length hdat
          rw[←Qn,List.length_cons,←Qn]at h1
          omega
         obtain⟨r,hr⟩:∃ r,r=Wi (Zc bs).reverse k:=⟨_,rfl⟩
         have hnn:=HNUM.out
         have hkr:k≤r:=by rw[hr];exact next_ge _ _
         have hpr:∀ j,a≤j→j<r→wN j∈(Zc bs).reverse∨wE j pp.text∈(Zc bs).reverse:=fun j h1 h2=>by
          rcases Nat.lt_or_ge j k with h3 | h3
          ·exact hpass j h1 h3
          ·exact .inl ((hasN_iff _ _).1 (next_pass h3 (by rw[←hr];exact h2)))
         have hra:r≤a+6020:=by have:=few_passed _ _ a r hpr;omega
         have hwsz:(wN r).size≤14:=by rw[Qn,Vp];exact wL_len r (by omega)
         have cW:=fun (W:World) (h1:Xd gb gm gn N (Zc bs).reverse k W) (h2:But gn wr W)=>word_any gb gm gn N k (Zc bs).reverse W h1 (by omega) (by omega) (fun W' h=>HT.out.keep (hbz.trans ((h2.trans h).below (by omega) (by have:=hbz.size;omega))))
         rw[←hr]at cW
         have hmk:=hS2.ctr
         have HHP:=Lib.hid hpx2;have HOW2:=Lib.hid hown2;have HS2:=Lib.hid hS2;have HPR:=Lib.hid hpr;have HCW:=Lib.hid cW;have HEX:=Lib.hid hext;have HRR:=Lib.hid hr
         have hgl:=hS2.n.lt
         clear hpx hpx2 hown2 hS2 hpass hpr cW hext hr hdat
         go_upto_region 11 with (go_at_call 92;refine (HHP.out _).mono ?_;rintro e w' ⟨rfl,hww⟩;rw[hww];clear hww w')
         refine wp_free 6 (by kernel_rfl) (by kernel_rfl) (But gn) (But.refl gn) (fun a b c=>But.trans) (D24 gb gn r pp wr) (D24.keep hgl) (J24 gb gm gn N k r (Zc bs).reverse wr) ?_ ?_ ?_
         ·exact⟨HS2.out.keep (Below.drew (Below.refl _ _)),(But.refl _ _).drew⟩
         ·refine Yh ?_ (Yh ?_ (Yh ?_ (Yh ?_ (Yh ?_ (Yh ?_ ops_nil)))))
          ·intro ho L a w hC hi hl hJ hG hA hd
           have t7:a.eval (.tmp 7)=.func (.func 164) #[] #[.pointer (some ⟨gn,0,none⟩),.pointer (some ⟨gb,0,none⟩)]:=agree_eval hA (by kernel_rfl)
           have u7:=(tmp_eq a 7).trans t7
           exact Yo (W':=w) ho rfl (by simp[go_sem,execOp,u7]) ⟨rfl,But.refl _ _,hJ⟩
          ·intro ho L a w hC hi hl hJ hG hA hd
           have t42:a.eval (.tmp 42)=.func (.func 164) #[] #[.pointer (some ⟨gn,0,none⟩),.pointer (some ⟨gb,0,none⟩)]:=by have:=hd _ (Array.mem_of_getElem? (i:=0) rfl) rfl;exact this
           have u42:=(tmp_eq a 42).trans t42
           have hJ':Xd gb gm gn N (Zc bs).reverse k w∧But gn wr w:=by simpa[J24,hi] using hJ
           refine free_call (f:=164) (args:=#[.pointer (some ⟨gn,0,none⟩),.pointer (some ⟨gb,0,none⟩)]) ho rfl (by simp[go_sem,execOp,u42]) ?_
           refine (HCW.out w hJ'.1 hJ'.2).mono ?_
           rintro e W' ⟨rfl,hW',hbu'⟩
           exact⟨_,rfl,rfl,hbu',by simpa[J24] using And.intro hW' (hJ'.2.trans hbu')⟩
          ·intro ho L a w hC hi hl hJ hG hA hd
           have t10:a.eval (.tmp 10)=.string (Qp pp.kind pp.text):=agree_eval hA (by kernel_rfl)
           have u10:=(tmp_eq a 10).trans t10
           exact Yo (W':=w) ho rfl (by simp[go_sem,execOp,u10]) ⟨rfl,But.refl _ _,hJ⟩
          ·intro ho L a w hC hi hl hJ hG hA hd
           have t44:a.eval (.tmp 44)=.string (Qp pp.kind pp.text):=by have:=hd _ (Array.mem_of_getElem? (i:=0) rfl) rfl;exact this
           have u44:=(tmp_eq a 44).trans t44
           have hext:=HEX.out
           have hs1:(1:Int)≤((Qp pp.kind pp.text).size:Int):=by omega
           exact Yo (v:=.string pp.text) (W':=w) ho rfl (by simp[go_sem,execOp,u44,hsz,hs1,hext]) ⟨rfl,But.refl _ _,hJ⟩
          ·intro ho L a w hC hi hl hJ hG hA hd
           have t43:a.eval (.tmp 43)=.string (wN r):=by have:=hd _ (Array.mem_of_getElem? (i:=0) rfl) rfl;exact this
           have u43:=(tmp_eq a 43).trans t43
           have t45:a.eval (.tmp 45)=.string pp.text:=by have:=hd _ (Array.mem_of_getElem? (i:=1) rfl) rfl;exact this
           have u45:=(tmp_eq a 45).trans t45
           have hcat:(wN r).size+pp.text.size≤9223372036854775807:=by omega
           exact Yo (v:=.string (wE r pp.text)) (W':=w) ho rfl (by simp[go_sem,execOp,u43,u45,wE,hcat]) ⟨rfl,But.refl _ _,hJ⟩
          ·intro ho L a w hC hi hl hJ hG hA hd
           have hlt:=hG.size
           have hJ':Xd gb gm gn N (Zc bs).reverse (bif L 1 then r+1 else k) w∧But gn wr w:=hJ
           have hal:Below w.heap.size w (w.alloc (.cells #[.string ⟨#[]⟩] 9)):=Qk (Below.refl _ _) _
           exact Yo (v:=.pointer (some ⟨w.heap.size,0,none⟩)) (W':=w.alloc (.cells #[.string ⟨#[]⟩] 9)) ho rfl (by simp[go_sem,execOp]) ⟨⟨w.heap.size,rfl,hlt,World.alloc_heap_new _ _⟩,But.of_below hal,⟨hJ'.1.keep hal,hJ'.2.trans (But.of_below hal)⟩⟩
         ·intro vals w' hG hJ hDv
          have hJ':Xd gb gm gn N (Zc bs).reverse (r+1) w'∧But gn wr w':=by simpa[J24] using hJ
          have e4:vals 4=.string (wE r pp.text):=hDv 4 (by omega)
          obtain⟨bx,e5,hbx,hBX⟩:∃ b,vals 5=.pointer (some ⟨b,0,none⟩)∧wr.heap.size≤b∧Qv w' b 9 #[.string ⟨#[]⟩] (0,0):=hDv 5 (by omega)
          clear hDv hJ hG
          dsimp only[List.drop,List.take,QU]
          simp only[e4,e5,Act.put,List.setIfInBounds_toArray,List.set_cons_zero,List.set_cons_succ]
          have y5:=hBX.cell 0
          simp only[List.getElem?_toArray,List.getElem?_cons_zero]at y5
          have z5:=hBX.free0 0
          have HJ:=Lib.hid hJ'
          have hbl:=hBX.lt
          have hlw:=hbu.size
          clear hJ' e4 e5 hBX HOW2
          obtain⟨XE,hXE⟩:∃ XE,XE=wE r pp.text:=⟨_,rfl⟩
          rw[←hXE]
          go_upto_region 12 with fail
          generalize hw3:World.setCell _ _ _=w3
          have hS3:Xd gb gm gn N (Zc bs).reverse (r+1) w3:=by
           rw[←hw3]
           exact HJ.out.1.but (But.set _ bx 0 _) (by omega) (by omega) (by omega)
          have hB3:But gn wr w3:=by
           rw[←hw3]
           exact HJ.out.2.put hbx
          have cx:w3.cell? ⟨bx,0,none⟩=some (.string XE):=by
           rw[←hw3]
           rw[hXE]
           exact World.cell?_setCell_same' _ _ _ (by rw[y5];rfl)
          clear hw3 y5 z5 hbl HJ
          have hbw3:Below w.heap.size w w3:=hbz.trans (hB3.below (by omega) (by have:=hbz.size;omega))
          have cN3:=HNA.out XE bx w3 hbw3 cx
          have HX3:=Lib.hid hXE;have HS3:=Lib.hid hS3;have HB3:=Lib.hid hB3
          clear hXE hS3 hB3
          cases hh:Yk (Zc bs).reverse XE
          ·rw[hh]at cN3
           have HN3:=Lib.hid cN3
           clear cN3
           go_wp2_with (go_at_call 24;refine HN3.out.mono ?_;rintro e w4 ⟨rfl,hb4⟩;have c4:=Qq hb4 cx)
           have hS4:=HS3.out.keep hb4
           have hc4:=hS4.ctr
           have hfit:InI bs pp gb gm gn N a wq XE w4:=⟨r+1,by omega,by omega,hS4,hbu.trans (HB3.out.trans (But.of_below hb4)),.inr ⟨by rw[HX3.out];exact made_fresh hkd (by omega) (by rw[←HX3.out];exact hh),by rw[HX3.out];exact wE_plain HFP.out r⟩⟩
           exact⟨⟨XE,rfl,Lib.hid hfit⟩,by omega⟩
          ·rw[hh]at cN3
           have HN3:=Lib.hid cN3
           clear cN3
           have hp2:∀ j,a≤j→j<r+1→wN j∈(Zc bs).reverse∨wE j pp.text∈(Zc bs).reverse:=fun j h1 h2=>by
            rcases Nat.lt_or_ge j r with h3 | h3
            ·exact HPR.out j h1 h3
            ·obtain rfl:j=r:=by omega
             exact .inr ((hasN_iff _ _).1 (by rw[←HX3.out];exact hh))
           have hra2:r+1≤a+6020:=by have:=few_passed _ _ a (r+1) hp2;omega
           have HP2:=Lib.hid hp2
           clear hp2 hh
           go_wp2_with (go_at_call 24;refine HN3.out.mono ?_;rintro e w4 ⟨rfl,hb4⟩)
           have hS4:=HS3.out.keep hb4
           have hc4:=hS4.ctr
           have hfit:InI bs pp gb gm gn N a wq (Qp pp.kind pp.text) w4:=⟨r+1,by omega,by omega,hS4,hbu.trans (HB3.out.trans (But.of_below hb4)),.inl ⟨rfl,hkd,hra2,HP2.out⟩⟩
           exact⟨⟨_,rfl,Lib.hid hfit⟩,by omega⟩
        ·have hpx2:∀ W,Calls Tryz.prog 92 #[.string s,.string ⟨#[42]⟩] W fun e w'=>e=.returned (.bool false)∧w'=W:=fun W=>by
          have:=hpx W
          rw[hnp]at this
          exact this
         have HHP:=Lib.hid hpx2;have HOW2:=Lib.hid hown2;have HS2:=Lib.hid hS2;have HMD:=Lib.hid hmd
         have yc:=HAT.out wr hown2
         have zc:=hown2.frozenAt (i+1)
         clear hpx hpx2 hown2 hS2 hnp hmd
         go_wp2_with (go_at_call 92;refine (HHP.out _).mono ?_;rintro e w' ⟨rfl,hww⟩;rw[hww];clear hww w')
         have hset:=But.set wr g (i+1) (.string s)
         have hlw:=hbu.size
         refine⟨⟨i+1,by omega,by go_num,Lib.hid ⟨ws++[s],k,?_,by omega,HS2.out.but hset (by omega) (by omega) (by omega),?_,hbz.trans (hset.below (by omega) (by have:=hbz.size;omega)),by simp[World.setCell];omega⟩⟩,by simp[intOf];omega⟩
         ·rw[List.take_add_one,HPP.out]
          exact HMA.out.snoc HMD.out
         ·have h1:=(HOW2.out.stored (i+1) (.string s)).1
          rw[←rowI_set HWL.out (by rw[KU x m hm];exact hlt),List.map_set]
          exact h1
      ·obtain rfl:i=m:=by omega
       rw[rowI_end hm]at HOW
       have hlen:=HMA.out.len
       rw[List.take_of_length_le (by rw[KU x i hm];omega)]at HMA
       have hpf:=VY HX.out i
       have hwz:∀ y∈cu :: ws,y.size≤200000:=by
        intro y hy
        rcases List.mem_cons.1 hy with rfl | hy
        ·have:=(Uy (Xz (hcu.name HX.out.cust))).2.2.2
         omega
        ·obtain⟨k,hk⟩:=List.mem_iff_getElem?.1 hy
         have hk2:=(List.getElem?_eq_some_iff.1 hk).1
         have h3:(ZW x i)[k]? = some ((ZW x i)[k]'(by rw[←HMA.out.len];exact hk2)):=List.getElem?_eq_getElem _
         have:=(Uy ((HMA.out.each k _ y h3 hk).word (hpf _ (List.getElem_mem _)))).2.2.2
         omega
       have cJ:=join_any g (i+1) cap (cu :: ws) wr w1.heap.size HOW.out (by omega) hwz
       have HJ:=Lib.hid cJ;have HWS:=Lib.hid hb
       clear cJ hwz
       go_wp2_with (go_at_call 107;refine HJ.out.mono ?_;rintro e w9 ⟨rfl,hb9⟩)
       go_ret
       exact⟨cu,ws,rfl,hcu,HMA.out,Qj hb hb9⟩
end Go.Proofs.YticlbkficolocaaGreatDoor
namespace Go.Proofs.YticlbkficolocaaGreatDoor
open Go.RowKit Go.Sort
set_option linter.unusedVariables false
set_option linter.unusedSimpArgs false
set_option maxRecDepth 100000
theorem isMatched1_any (q a:ByteArray) (b:Nat) (w:World) (hc:w.cell? ⟨b,0,none⟩=some (.string a)) (hq:q.size≤100000) (ha:a.size≤100000) (hE:Env w):Calls Tryz.prog 108 #[.string q,.pointer (some ⟨b,0,none⟩)] w (Zx w (.bool (Zk q a))):=by
 have HH:=Lib.hid (match_any q a w hq ha hE)
 clear hE
 generalize Zk q a=v at *
 go_enter Tryz.func108,Tryz.ntmps108
 go_wp2_with (go_at_call 21;refine HH.out.mono ?_;rintro e w2 ⟨rfl,hb2⟩)
 go_ret
 exact⟨rfl,hb2⟩
theorem isMatched_any (a:ByteArray) (A:Option Addr) (n c:Nat) (bs:List ByteArray) (w:World) (hR:Reads w 1 A n (bs.map .string)) (hn:n≤1000) (hs:∀ b∈bs,b.size≤100000) (ha:a.size≤100000) (hE:Env w) :
  Calls Tryz.prog 53 #[.slice A n c,.string a] w (Zx w (.bool (bs.any fun q=>Zk q a))):=by
 have hb0:∀ W (hb:Below w.heap.size w W) (b:Nat),W.cell? ⟨b,0,none⟩=some (.string a)→Calls Tryz.prog 24 #[.slice A n c,.func (.func 108) #[] #[.pointer (some ⟨b,0,none⟩)]] W (Zx W (.bool (bs.any fun q=>Zk q a))):=fun W hb b hc =>
  WX 108 (enters_of Tryz.func108 (by kernel_rfl) rfl) (.pointer (some ⟨b,0,none⟩)) (fun q=>Zk q a) A n c bs W (fun y hy W' hb'=>isMatched1_any y a b W' (Qq hb' hc) (hs y hy) ha (Env.keep hE (Qj hb hb'))) (hR.keep hb) (by omega)
 generalize (bs.any fun q=>Zk q a)=v at *
 have hmf:∀ (fn:Fn) (first cap:Array Value) (w:World),(Instr.makeFunc fn first cap).run Tryz.prog w=.ok (.func fn first cap) w:=fun _ _ _ _=>rfl
 have HC:=Lib.hid hb0
 clear hb0 hR hE hs
 go_enter Tryz.func53,Tryz.ntmps53
 go_wp2_with (go_at_call 24;refine (HC.out _ Qz w.heap.size (by exact ((cell_of_row _ _ 0 _ _ _ (World.alloc_heap_new w _)).trans rfl))).mono ?_;rintro e w3 ⟨rfl,hb3⟩)
 go_ret
 exact⟨rfl,Qz⟩
theorem cutSuf_any (p:ByteArray) (x:Z7) (w:World) (hx:Qx p=some x) (hp:p.size≤100000):Calls Tryz.prog 50 #[.string p,.string ⟨#[47,42,42]⟩] w (Zx w (.tuple #[.string (fixS x),.bool x.tail])):=by
 have hh:=fix_has hx
 have ht:=fix_trim hx
 refine (Tryz.strings_CutSuffix p ⟨#[47,42,42]⟩ w (by omega)).mono ?_
 rintro e w' ⟨rfl,rfl⟩
 refine⟨?_,Below.refl _ _⟩
 rw[ht,hh]
theorem join_size {c:ByteArray} {ws:List ByteArray} (hc:Qy c=true) (hw:∀ w∈ws,Qg w=true) (hn:ws.length≤32):(Xt (c :: ws)).size≤4096:=by
 rw[joinS_write,Xw]
 exact adr_short hc hw hn
theorem gapT_any (p:ByteArray) (x:Z7) (ys:List Z7) (A:Option Addr) (n c:Nat) (bs:List ByteArray) (w:World) (hx:Qx p=some x) (hy:bs.map Qx=ys.map some) (hp:p.size≤100000)
  (hR:Reads w 1 A n (bs.map .string)) (hn:n≤10) (hs:∀ b∈bs,b.size≤300) (hE:Env w) (hT:Tab w) :
  Calls Tryz.prog 26 #[.string p,.slice A n c] w fun e w'=>∃ s is,e=.returned (.tuple #[.string s,.bool is])∧ZU p bs s is∧s.size≤4096∧Below w.heap.size w w':=by
 have hfit:=Zq hx
 have hnum:=hfit.num
 have hmost:=most_le hfit
 have hml:x.parts.length≤J7 x:=by
  unfold J7
  split <;> omega
 have cC:=fun W=>cutSuf_any p x W hx hp
 have cN:=fun W=>Tryz.strings_Count_one (fixS x) 47 W
 rw[fix_count hfit]at cN
 have cX:=fun (k:Nat) (hk:x.parts.length+k≤32) (W:World) (hb:Below w.heap.size w W)=>exampl_any p x (x.parts.length+k) A n c bs W hx hp (by omega) hk (hR.keep hb) hn hs (hE.keep hb) (hT.keep hb)
 have cM:=fun (a:ByteArray) (ha:a.size≤100000) (W:World) (hb:Below w.heap.size w W)=>isMatched_any a A n c bs W (hR.keep hb) (by omega) (fun b h=>by have:=hs b h;omega) ha (hE.keep hb)
 obtain⟨l,hl⟩:∃ l,l=x.parts.length:=⟨_,rfl⟩
 obtain⟨N,hN⟩:∃ N,N=J7 x+1-l:=⟨_,rfl⟩
 have hNT:x.tail=true→(32:Int)-(l:Int)+1=(N:Int):=fun h=>by
  have e:J7 x=32:=by unfold J7;rw[if_pos h]
  omega
 have hNF:x.tail=false→(l:Int)-(l:Int)+1=(N:Int):=fun h=>by
  have e:J7 x=x.parts.length:=by unfold J7;rw[if_neg (by rw[h];decide)]
  omega
 obtain⟨tl,htl⟩:∃ tl,tl=x.tail:=⟨_,rfl⟩
 rw[←htl]at cC hNT hNF
 clear htl
 have HNT:=Lib.hid hNT;have HNF:=Lib.hid hNF
 clear hNT hNF
 have hNP:∀ k,k<N→l+k≤J7 x∧l+k≤32:=fun k hk=>by omega
 rw[←hl]at cN cX
 have cX2:∀ k,k<N→∀ W,Below w.heap.size w W→Calls Tryz.prog 52 #[.string p,.int .i64 ((l:Int)+(k:Int)),.slice A n c] W fun e w'=>∃ cu ws,e=.returned (.string (Xt (cu :: ws)))∧Ux (Zc bs) x.cust cu∧Made (Zc bs) (ZW x (l+k)) ws∧Below W.heap.size W w':=fun k hk W hb=>by
  have:=cX k (hNP k hk).2 W hb
  rwa [show (((l+k:Nat)):Int)=(l:Int)+(k:Int) from by omega]at this
 have HC:=Lib.hid cC;have HN:=Lib.hid cN;have HX:=Lib.hid cX2;have HM:=Lib.hid cM;have HNP:=Lib.hid hNP;have HF:=Lib.hid hfit;have HP:=Lib.hid hx;have HY:=Lib.hid hy;have HLL:=Lib.hid hl;have HNN:=Lib.hid hN
 have hl32:l≤32:=by omega
 clear cC cN cX cX2 cM hNP hfit hx hy hE hT hR hs hnum hmost hml hl hN
 go_enter Tryz.func26,Tryz.ntmps26
 go_upto_if 20 with (first | (go_at_call 50;refine (HC.out _).mono ?_;rintro e w2 ⟨rfl,hb2⟩) | (go_at_call 51;refine (HN.out _).mono ?_;rintro e w' ⟨rfl,hww⟩;rw[hww];clear hww w'))
 go_cut [9] (fun v9 wx=>(∃ M:Int,v9=.int .i64 M∧M-(l:Int)+1=(N:Int)∧M≤32)∧wx=w2)
 case first =>
  cases tl
  all_goals
   go_wp2_with fail
   go_meet
   first
    | exact⟨⟨_,rfl,HNT.out (by simp),by omega⟩,rfl⟩
    | exact⟨⟨_,rfl,HNF.out (by simp),by omega⟩,rfl⟩
 case rest =>
  obtain⟨⟨M,rfl,hM,hM32⟩,rfl⟩:=hcut
  clear HNT HNF
  go_upto_region 6 with fail
  go_cut [24,25] (fun v24 v25 wx=>v24=.int .i64 (N:Int)∧v25=.int .i64 0∧wx=wc)
  case first =>
   go_wp2_with fail
   go_meet
   rw[←hM]
   exact⟨rfl,rfl,rfl⟩
  case rest =>
   obtain⟨rfl,rfl,rfl⟩:=hcut
   go_wp2_with fail
   go_loopw [25] (fun iv wr=>∃ k:Nat,k≤N∧iv=.int .i64 k∧Hid (YW x ys k)∧Below w.heap.size w wr) (fun iv _=>N-(intOf iv).toNat)
   case atStart=>exact⟨0,by omega,rfl,Lib.hid (YW.zero x ys),hb2⟩
   case round =>
    obtain⟨k,hk,rfl,HMI,hb⟩:=hrel
    clear hb2
    by_cases hlt:k<N
    ·have hk0:(0:Int)≤(k:Int):=by omega
     have hk1:(k:Int)<(N:Int):=by omega
     have hnp:=HNP.out k hlt
     have hcX:=HX.out k hlt wr hb
     have HCX:=Lib.hid hcX
     clear hcX
     go_upto_region 10 with (go_at_call 52;refine HCX.out.mono ?_;rintro e w3 ⟨cu,ws,rfl,hmc,hmw,hb3⟩)
     have hnamed:=named_all HY.out
     have hml:x.parts.length≤l+k:=by have:=HLL.out;omega
     have hex:=exam_of hnamed HF.out hml hmc hmw
     have hws:ws.length≤32:=by rw[hex.len];exact hnp.2
     have hsz:=join_size hex.name hex.words hws
     have hcM:=HM.out (Xt (cu :: ws)) (by omega) w3 (Qj hb hb3)
     have hem:=ex_match HY.out HF.out hml hnp.2 hex
     have HEX:=Lib.hid hex;have HEM:=Lib.hid hem
     clear hmc hmw hnamed hex hem
     cases hv:(bs.any fun q=>Zk q (Xt (cu :: ws)))
     ·rw[hv]at hcM
      have HCM:=Lib.hid hcM;have HV:=Lib.hid hv
      clear hcM hv
      have hpost:ZU p bs (Xt (cu :: ws)) true:=gap_hit HP.out HY.out (by have:=HLL.out;have:=hnp.1;omega) HMI.out HV.out (by have:=HEX.out;rwa [HLL.out]at this)
      have HPO:=Lib.hid hpost
      clear hpost
      go_wp2_with (go_at_call 53;refine HCM.out.mono ?_;rintro e w4 ⟨rfl,hb4⟩)
      go_ret2
      exact⟨_,_,rfl,HPO.out,hsz,Qj (Qj hb hb3) hb4⟩
     ·rw[hv]at hcM
      have HCM:=Lib.hid hcM
      have HMI2:=Lib.hid (HMI.out.succ (by rw[←HLL.out,←HEM.out];exact hv))
      clear hcM hv
      go_wp2_with (go_at_call 53;refine HCM.out.mono ?_;rintro e w4 ⟨rfl,hb4⟩)
      exact⟨⟨k+1,by omega,by go_num,HMI2,Qj (Qj hb hb3) hb4⟩,by simp[intOf];omega⟩
    ·obtain rfl:k=N:=by omega
     have hpost:ZU p bs ⟨#[]⟩ false:=gap_miss HP.out HY.out (by rw[←HLL.out,←HNN.out];exact HMI.out)
     have HPO:=Lib.hid hpost
     clear hpost
     go_wp2_with fail
     go_ret2
     exact⟨_,_,rfl,HPO.out,by decide,hb⟩
theorem gap1_any (q:ByteArray) (w:World) (hq:q.size≤100000) (hE:Env w):Calls Tryz.prog 25 #[.string q] w (Zx w (.bool (!(Qx q).isSome))):=by
 have HH:=Lib.hid (Yu q w hq hE)
 clear hE
 generalize (Qx q).isSome=v at *
 go_enter Tryz.func25,Tryz.ntmps25
 go_wp2_with (go_at_call 23;refine HH.out.mono ?_;rintro e w2 ⟨rfl,hb2⟩)
 go_ret
 exact⟨rfl,hb2⟩
def Wj (p:ByteArray) (bs:List ByteArray):Bool:=(Qx p).isSome&&decide (bs.length≤64)&&bs.all fun q=>(Qx q).isSome
theorem all_comp:∀ bs:List ByteArray,(bs.all fun q=>(Qx q).isSome)=true→∃ ys:List Z7,bs.map Qx=ys.map some
 | [],_=>⟨[],rfl⟩
 | b :: bs,h=>by
  rw[List.all_cons,Bool.and_eq_true]at h
  obtain⟨y,hy⟩:=Option.isSome_iff_exists.1 h.1
  obtain⟨ys,e⟩:=all_comp bs h.2
  exact⟨y :: ys,by rw[List.map_cons,List.map_cons,hy,e]⟩
def GapRes (p:ByteArray) (bs:List ByteArray) (s:ByteArray) (is:Bool) (er:Int):Prop :=
 (Wj p bs=false∧s=⟨#[]⟩∧is=false∧er=1)∨(Wj p bs=true∧er=0∧ZU p bs s is∧s.size≤4096)
theorem gap_any (p:ByteArray) (A:Option Addr) (n c:Nat) (bs:List ByteArray) (w:World) (hp:p.size≤100000) (hR:Reads w 1 A n (bs.map .string)) (hn:n≤10∨64<n∧n≤1000) (hs:∀ b∈bs,b.size≤300) (hE:Env w) (hT:Tab w) :
  Calls Tryz.prog 7 #[.string p,.slice A n c] w fun e w'=>∃ s is er,e=.returned (.tuple #[.string s,.bool is,.int .i64 er])∧GapRes p bs s is er∧Below w.heap.size w w':=by
 have hbl:bs.length=n:=by have:=hR.1;simpa using this
 have cV:=fun (W:World) (hb:Below w.heap.size w W)=>Yu p W hp (hE.keep hb)
 have cA:=fun (W:World) (hb:Below w.heap.size w W)=>containsFuncS0_any 25 (enters_of Tryz.func25 (by kernel_rfl) rfl) (fun q=>!(Qx q).isSome) A n c bs W (fun y hy W' hb'=>gap1_any y W' (by have:=hs y hy;omega) (hE.keep (Qj hb hb'))) (hR.keep hb) (by omega)
 have hany:(bs.any fun q=>!(Qx q).isSome) = !(bs.all fun q=>(Qx q).isSome):=by rw[List.all_eq_not_any_not];simp
 rw[hany]at cA
 clear hany
 have cG:=fun (x:Z7) (hx:Qx p=some x) (h:(bs.all fun q=>(Qx q).isSome)=true) (h10:n≤10) (W:World) (hb:Below w.heap.size w W)=>show Calls Tryz.prog 26 #[.string p,.slice A n c] W fun e w'=>∃ s is,e=.returned (.tuple #[.string s,.bool is])∧ZU p bs s is∧s.size≤4096∧Below W.heap.size W w' by
  obtain⟨ys,e⟩:=all_comp bs h
  exact gapT_any p x ys A n c bs W hx e hp (hR.keep hb) h10 hs (hE.keep hb) (hT.keep hb)
 have HV:=Lib.hid cV;have HA:=Lib.hid cA;have HG:=Lib.hid cG;have HBL:=Lib.hid hbl
 clear cV cA cG hE hT hR hs
 have fail_:Wj p bs=false→GapRes p bs ⟨#[]⟩ false 1:=fun h=>.inl ⟨h,rfl,rfl,rfl⟩
 have HFA:=Lib.hid fail_
 clear fail_
 cases hv:(Qx p).isSome
 ·have hf:Wj p bs=false:=by unfold Wj;rw[hv];rfl
  have HF:=Lib.hid (HFA.out hf)
  rw[hv]at HV
  clear hf hv HFA hbl
  go_enter Tryz.func7,Tryz.ntmps7
  go_wp2_with (go_at_call 23;refine (HV.out _ (Below.refl _ _)).mono ?_;rintro e w2 ⟨rfl,hb2⟩)
  go_ret3
  exact⟨_,_,_,rfl,HF.out,hb2⟩
 ·rw[hv]at HV
  by_cases h64:64<n
  ·have hf:Wj p bs=false:=by unfold Wj;rw[hv,decide_eq_false (by omega)];rfl
   have HF:=Lib.hid (HFA.out hf)
   have h6:decide ((64:Int)<(n:Int))=true:=decide_eq_true (by omega)
   clear hf hv HFA hbl
   go_enter Tryz.func7,Tryz.ntmps7
   go_wp2_with (go_at_call 23;refine (HV.out _ (Below.refl _ _)).mono ?_;rintro e w2 ⟨rfl,hb2⟩)
   go_ret3
   exact⟨_,_,_,rfl,HF.out,hb2⟩
  ·have h6:decide ((64:Int)<(n:Int))=false:=decide_eq_false (by omega)
   have h10:n≤10:=by omega
   cases ha:(bs.all fun q=>(Qx q).isSome)
   ·have hf:Wj p bs=false:=by unfold Wj;rw[ha,Bool.and_false]
    have HF:=Lib.hid (HFA.out hf)
    rw[ha]at HA
    clear hf hv ha HFA hbl
    go_enter Tryz.func7,Tryz.ntmps7
    go_wp2_with (first | (go_at_call 23;refine (HV.out _ (Below.refl _ _)).mono ?_;rintro e w2 ⟨rfl,hb2⟩) | (go_at_call 24;refine (HA.out _ hb2).mono ?_;rintro e w3 ⟨rfl,hb3⟩))
    go_ret3
    exact⟨_,_,_,rfl,HF.out,Qj hb2 hb3⟩
   ·have hf:Wj p bs=true:=by unfold Wj;rw[hv,ha,decide_eq_true (by omega)];rfl
    obtain⟨x,hx⟩:=Option.isSome_iff_exists.1 hv
    have HG2:=Lib.hid (HG.out x hx ha h10)
    rw[ha]at HA
    have HF:=Lib.hid hf
    clear hf hv ha hx HFA hbl HG
    go_enter Tryz.func7,Tryz.ntmps7
    go_wp2_with (first | (go_at_call 23;refine (HV.out _ (Below.refl _ _)).mono ?_;rintro e w2 ⟨rfl,hb2⟩) | (go_at_call 24;refine (HA.out _ hb2).mono ?_;rintro e w3 ⟨rfl,hb3⟩) | (go_at_call 26;refine (HG2.out _ (Qj hb2 hb3)).mono ?_;rintro e w4 ⟨s,is,rfl,hpo,hsz,hb4⟩;have HPO:=Lib.hid hpo;clear hpo))
    go_ret3
    exact⟨_,_,_,rfl,.inr ⟨HF.out,rfl,HPO.out,hsz⟩,Qj (Qj hb2 hb3) hb4⟩
end Go.Proofs.YticlbkficolocaaGreatDoor
