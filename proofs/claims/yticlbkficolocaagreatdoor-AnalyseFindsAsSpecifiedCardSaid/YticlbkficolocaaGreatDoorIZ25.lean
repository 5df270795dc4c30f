/- The reference of analyse: at. -/
import Derived.Test.YticlbkficolocaaGreatDoorIZ21
import Derived.Test.YticlbkficolocaaGreatDoorIZ22
set_option maxHeartbeats 8000000
namespace Go.Proofs.YticlbkficolocaaGreatDoor
open Go.RowKit Go.Sort
set_option linter.unusedVariables false
set_option linter.unusedSimpArgs false
set_option maxRecDepth 100000
structure U8 where
 x:Z7
 A:Option Addr
 c:Nat
def U8.cells (y:U8):List Value:=[.string (Qr y.x.cust),.slice y.A y.x.parts.length y.c,.bool y.x.tail]
def U8.val (y:U8):Value:=.agg y.cells.toArray
theorem U8.cells_len (y:U8):y.cells.length=3:=rfl
def Uh (w:World) (y:U8):Prop:=Reads w 1 y.A y.x.parts.length ((Zg y.x.parts).map .string)
theorem Uh.keep {w w':World} {y:U8} (h:Uh w y) (hb:Below w.heap.size w w'):Uh w' y:=Reads.keep h hb
theorem cust_cov {p q:Part} (hp:Jj p) (hq:Jj q):Zb p.kind p.text q.kind q.text=((Qr p).toList == [42]||(Qr p).toList==(Qr q).toList):=by
 rw[←U4 hp.part hq.part]
 unfold covB
 have hs:Yq (Qr p)=false:=by
  rcases hp with ⟨h1,h2⟩ | ⟨h1,h2⟩
  ·rw[str0 h1]
   exact sufB_word ((isName_iff _).1 h2).1
  ·unfold Qr
   rw[h1,h2]
   decide
 rw[hs]
 simp
structure AtS (w:World) (y z:U8) (W:World):Prop where
 p:Qv W w.heap.size 77 #[.string (Qr y.x.cust),.slice y.A y.x.parts.length y.c,.bool y.x.tail] (0,0)
 q:Qv W (w.heap.size+1) 77 #[.string (Qr z.x.cust),.slice z.A z.x.parts.length z.c,.bool z.x.tail] (0,0)
 b:Below w.heap.size w W
theorem AtS.keep {w:World} {y z:U8} {W W':World} (h:AtS w y z W) (hb:Below W.heap.size W W'):AtS w y z W':=⟨h.p.keep hb,h.q.keep hb,Qj h.b hb⟩
theorem AtS.facts {w:World} {y z:U8} {W:World} (h:AtS w y z W):W.cell? ⟨w.heap.size,0,none⟩=some (.string (Qr y.x.cust))∧W.cell? ⟨w.heap.size,1,none⟩=some (.slice y.A y.x.parts.length y.c)∧W.cell? ⟨w.heap.size,2,none⟩=some (.bool y.x.tail)∧W.cell? ⟨w.heap.size+1,0,none⟩=some (.string (Qr z.x.cust))∧W.cell? ⟨w.heap.size+1,1,none⟩=some (.slice z.A z.x.parts.length z.c) :=
 ⟨Qv.cell h.p 0,Qv.cell h.p 1,Qv.cell h.p 2,Qv.cell h.q 0,Qv.cell h.q 1⟩
theorem rPartCovers_any (p q:ByteArray) (w:World) (hp:p.size≤4294967200) (hq:q.size≤4294967200):Calls Tryz.prog 75 #[.string p,.string q] w (Zx w (.bool (covB p q))):=by
 have hc:=UK p q w hp hq
 generalize covB p q=v at *
 have HC:=Lib.hid hc
 clear hc
 go_enter Tryz.func75,Tryz.ntmps75
 go_wp2_with (go_at_call 82;refine HC.out.mono ?_;rintro e w2 ⟨rfl,hb2⟩)
 go_ret
 exact⟨rfl,hb2⟩
theorem strP_star:Qr star=⟨#[42]⟩:=rfl
theorem part_size {p:Part} (h:Qa p):(Qr p).size≤66:=by
 have hk:p.kind=0∨p.kind≠0:=by omega
 unfold Qr
 rw[Qn,Jl]
 rcases h with ⟨hk,hw⟩ | ⟨hk,s,hs,hs2,ht⟩ | ⟨hk,ht⟩
 ·have:=(Uy hw).2.2.2
  rw[Qn]at this
  rw[if_pos hk];omega
 ·rw[if_neg (by omega),ht]
  rw[Qn]at hs2
  simp only[List.length_cons];omega
 ·rw[if_neg (by omega),ht]
  decide
theorem rAt24_any (y z:U8) (m:Nat) (w:World) (hy:Uh w y) (hz:Uh w z) (fy:Zt y.x) (fz:Zt z.x) (hm:m≤1000) (hzm:z.x.parts.length≤m) :
  Calls Tryz.prog 35 #[y.val,z.val,.int .i64 (m:Int)] w (Zx w (.bool (atB y.x z.x m))):=by
 have hyn:=fy.num
 obtain⟨V,hV⟩:∃ V,V=atB y.x z.x m:=⟨_,rfl⟩
 rw[←hV]
 unfold atB at hV
 rw[cust_cov fy.cust fz.cust]at hV
 have hpl:=KU z.x m hzm
 have hpf:=VY fz m
 have hpg:∀ k,k<m→∃ r,(ZW z.x m)[k]? = some r∧Qa r∧Qr r=(if h:k<z.x.parts.length then Qr (z.x.parts[k]) else ⟨#[42]⟩):=by
  intro k hk
  obtain⟨r,hr⟩:∃ r,(ZW z.x m)[k]? = some r:=⟨_,List.getElem?_eq_getElem (by omega)⟩
  refine⟨r,hr,hpf r (List.mem_of_getElem? hr),?_⟩
  unfold ZW at hr
  split
  ·rename_i h
   rw[List.getElem?_append_left h,List.getElem?_eq_getElem h]at hr
   rw[Option.some.inj hr]
  ·rename_i h
   rw[List.getElem?_append_right (by omega),List.getElem?_replicate]at hr
   split at hr
   ·rw[←Option.some.inj hr];exact strP_star
   ·cases hr
 have cC:=fun (p q:Part) (hp:Qa p) (hq:Qa q) (W:World)=>rPartCovers_any (Qr p) (Qr q) W (by have:=part_size hp;omega) (by have:=part_size hq;omega)
 have cK:∀ (p q:Part),Qa p→Qa q→∀ W:World,Calls Tryz.prog 75 #[.string (Qr p),.string (Qr q)] W (Zx W (.bool (Zb p.kind p.text q.kind q.text))):=fun p q hp hq W=>by
  rw[←U4 hp hq];exact cC p q hp hq W
 clear cC
 have HY:=Lib.hid hy;have HZ:=Lib.hid hz;have HV:=Lib.hid hV;have HC:=Lib.hid cK;have HPL:=Lib.hid hpl;have HPG:=Lib.hid hpg;have HFY:=Lib.hid fy.parts
 clear hy hz hV cK hpl hpf hpg fy fz
 show Calls Tryz.prog 35 #[.agg #[.string (Qr y.x.cust),.slice y.A y.x.parts.length y.c,.bool y.x.tail],.agg #[.string (Qr z.x.cust),.slice z.A z.x.parts.length z.c,.bool z.x.tail],.int .i64 (m:Int)] w (Zx w (.bool V))
 go_enter Tryz.func35,Tryz.ntmps35
 go_upto_region 1 with fail
 generalize hw0:World.alloc _ _=w0
 have hS:AtS w y z w0:=by
  rw[←hw0]
  exact⟨heap_alloc2_old w _ _,heap_alloc2_new w _ _,Qk (Qk (Below.refl _ _) _) _⟩
 clear hw0
 have HS:=Lib.hid hS
 obtain⟨x0,x1,x2,x3,x4⟩:=hS.facts
 clear hS
 obtain⟨hd,hhd⟩:∃ hd,hd=((((Qr y.x.cust).toList == [42]||(Qr y.x.cust).toList==(Qr z.x.cust).toList)&&!decide (m<y.x.parts.length))&&!(decide (y.x.parts.length<m)&&!y.x.tail)):=⟨_,rfl⟩
 have HHD:=Lib.hid hhd
 have hv2:=HV.out
 rw[←hhd]at hv2
 have HV2:=Lib.hid hv2
 clear hv2 HV hhd
 go_cut [37] (fun v wx=>v=.bool (!hd)∧wx=w0)
 case first =>
  have hh:=HHD.out
  generalize y.x.parts.length=ny at *
  generalize y.x.tail=tl at *
  generalize Qr y.x.cust=cy at *
  generalize Qr z.x.cust=cz at *
  have hn1:(cy.toList != [42]) = !(cy.toList == [42]):=rfl
  have hn2:(cy.toList != cz.toList) = !(cy.toList==cz.toList):=rfl
  generalize hb1:(cy.toList == [42])=b1 at *
  generalize hb2:(cy.toList==cz.toList)=b2 at *
  by_cases g1:m<ny
  ·have e1:decide ((m:Int)<(ny:Int))=true:=decide_eq_true (by omega)
   have e2:decide (m<ny)=true:=decide_eq_true g1
   have e3:decide (ny<m)=false:=decide_eq_false (by omega)
   rw[e2,e3]at hh
   clear g1
   cases b1
   ·cases b2
    all_goals
     go_wp2_with fail
     go_meet
     exact⟨by rw[hh];cases tl <;> rfl,rfl⟩
   ·go_wp2_with fail
    go_meet
    exact⟨by rw[hh];cases tl <;> rfl,rfl⟩
  have e1:decide ((m:Int)<(ny:Int))=false:=decide_eq_false (by omega)
  have e2:decide (m<ny)=false:=decide_eq_false g1
  by_cases g2:ny<m
  ·have e3:decide ((ny:Int)<(m:Int))=true:=decide_eq_true (by omega)
   have e4:decide (ny<m)=true:=decide_eq_true g2
   rw[e2,e4]at hh
   clear g1 g2
   cases b1
   ·cases b2
    all_goals
     cases tl
     all_goals
      go_wp2_with fail
      go_meet
      exact⟨by rw[hh];rfl,rfl⟩
   ·cases tl
    all_goals
     go_wp2_with fail
     go_meet
     exact⟨by rw[hh];rfl,rfl⟩
  ·have e3:decide ((ny:Int)<(m:Int))=false:=decide_eq_false (by omega)
   have e4:decide (ny<m)=false:=decide_eq_false g2
   rw[e2,e4]at hh
   clear g1 g2
   cases b1
   ·cases b2
    all_goals
     go_wp2_with fail
     go_meet
     exact⟨by rw[hh];rfl,rfl⟩
   ·go_wp2_with fail
    go_meet
    exact⟨by rw[hh];rfl,rfl⟩
 case rest =>
  obtain⟨rfl,rfl⟩:=hcut
  have hbr0:=HS.out.b
  cases hdv:hd
  ·obtain rfl:V=false:=by rw[HV2.out,hdv];rfl
   simp only[Bool.not_false]
   go_wp2_with fail
   go_ret
   exact⟨rfl,hbr0⟩
  have hv3:=HV2.out
  rw[hdv,Bool.true_and]at hv3
  have hym:y.x.parts.length≤m:=by
   have h9:=HHD.out
   rw[hdv]at h9
   have h8:=h9.symm
   simp only[Bool.and_eq_true,Bool.not_eq_true',decide_eq_false_iff_not]at h8
   omega
  have HV3:=Lib.hid hv3
  clear hv3 HV2 HHD hbr0 x0 x1 x2 x3 x4
  simp only[Bool.not_true]
  go_wp2_with fail
  go_loopw [7] (fun iv wr=>∃ k:Nat,k≤y.x.parts.length∧iv=.int .i64 k∧Hid (V=Wv (y.x.parts.drop k) ((ZW z.x m).drop k))∧Hid (AtS w y z wr)) (fun iv _=>y.x.parts.length-(intOf iv).toNat)
  case atStart=>exact⟨0,by omega,rfl,HV3,HS⟩
  case round =>
   obtain⟨k,hk,rfl,HK,HSr⟩:=hrel
   clear HS HV3
   obtain⟨x0,x1,x2,x3,x4⟩:=HSr.out.facts
   by_cases hlt:k<y.x.parts.length
   ·obtain⟨p,hp⟩:∃ p,y.x.parts[k]? = some p:=⟨_,List.getElem?_eq_getElem hlt⟩
    obtain⟨r,hr,hrf,hrs⟩:=HPG.out k (by omega)
    have hpf:=HFY.out p (List.mem_of_getElem? hp)
    have hcc:=HC.out p r hpf hrf
    have hd1:y.x.parts.drop k=p :: y.x.parts.drop (k+1):=by
     obtain⟨hl2,rfl⟩:=List.getElem?_eq_some_iff.1 hp
     exact List.drop_eq_getElem_cons hl2
    have hd2:(ZW z.x m).drop k=r :: (ZW z.x m).drop (k+1):=by
     obtain⟨hl2,rfl⟩:=List.getElem?_eq_some_iff.1 hr
     exact List.drop_eq_getElem_cons hl2
    have hv:=HK.out
    rw[hd1,hd2,Wv]at hv
    obtain⟨pb,po,hA,hcell⟩:=(Uh.keep HY.out HSr.out.b).2 (by omega)
    rw[hA]at x1
    clear hA
    have c1:wr.cell? ⟨pb,po+k,none⟩=some (.string (Qr p)):=hcell k _ (by unfold Zg;simp[hp,Qr])
    have hk0:(0:Int)≤(k:Int):=by omega
    have hk1:(k:Int)<(y.x.parts.length:Int):=by omega
    generalize Zb p.kind p.text r.kind r.text=cv at *
    have HCC:=Lib.hid hcc;have HVV:=Lib.hid hv;have HRS:=Lib.hid hrs
    clear hcc hv hd1 hd2 hpf hrf hp hr hcell HK hrs
    go_upto_if 49 with fail
    go_cut [8] (fun v wx=>v=.string (Qr r)∧wx=wr)
    case first =>
     have hrs:=HRS.out
     by_cases hkz:k<z.x.parts.length
     ·rw[dif_pos hkz]at hrs
      obtain⟨qb,qo,hB,hcell⟩:=(Uh.keep HZ.out HSr.out.b).2 (by omega)
      rw[hB]at x4
      clear hB
      have c2:wr.cell? ⟨qb,qo+k,none⟩=some (.string (Qr r)):=by
       rw[hrs]
       exact hcell k _ (by unfold Zg;simp[List.getElem?_eq_getElem hkz,Qr])
      have hk2:(k:Int)<(z.x.parts.length:Int):=by omega
      clear hrs hcell
      go_wp2_with fail
      go_meet
      exact⟨rfl,rfl⟩
     ·rw[dif_neg hkz]at hrs
      have d2:decide ((k:Int)<(z.x.parts.length:Int))=false:=decide_eq_false (by omega)
      have HRR:=Lib.hid hrs
      clear hrs
      go_wp2_with fail
      go_meet
      exact⟨by rw[HRR.out],rfl⟩
    case rest =>
     obtain⟨rfl,rfl⟩:=hcut
     cases cv
     ·obtain rfl:V=false:=by rw[HVV.out];rfl
      go_wp2_with (go_at_call 75;refine (HCC.out _).mono ?_;rintro e w2 ⟨rfl,hb2⟩)
      go_ret
      exact⟨rfl,Qj HSr.out.b hb2⟩
     ·have hv4:V=Wv (y.x.parts.drop (k+1)) ((ZW z.x m).drop (k+1)):=by rw[HVV.out];rfl
      have HV4:=Lib.hid hv4
      clear hv4 HVV
      go_wp2_with (go_at_call 75;refine (HCC.out _).mono ?_;rintro e w2 ⟨rfl,hb2⟩)
      exact⟨⟨k+1,by omega,by go_num,HV4,Lib.hid (HSr.out.keep hb2)⟩,by simp[intOf];omega⟩
   ·obtain rfl:V=true:=by
     rw[HK.out,List.drop_eq_nil_of_le (by omega),Wv]
    have hbr:=HSr.out.b
    clear HK
    go_wp2_with fail
    go_ret
    exact⟨rfl,hbr⟩
theorem ofType_own {W:World} {base n c:Nat} {e:TypeId} {A:Option Addr} {xs:List Value} (h:W.ownsRow base e 1 (.slice A n c) n xs):Ul W A n e:=by
 intro h0
 rcases h.2 with ⟨e1,e2⟩ | ⟨g,cap,cur,e1,_,e2,_⟩
 ·omega
 ·injection e1 with e1 _ _
  exact⟨g,0,cur,(0,0),e1,e2⟩
theorem Ul.set_ {W:World} {A:Option Addr} {n:Nat} {t:TypeId} (h:Ul W A n t) (p:Addr) (u:Value) (hne:∀ a,A=some a→a.block≠p.block):Ul (W.setCell p u) A n t:=fun h0=>by
 obtain⟨b,o,cs,fr,e,hB⟩:=h h0
 exact⟨b,o,cs,fr,e,(Below.heap_setCell _ _ _ _ (hne _ e)).trans hB⟩
def RCompPostT (r:Option Z7) (w:World) (e:Ending) (w':World):Prop :=
 Below w.heap.size w w'∧match r with
 | none=>e=.returned (.tuple #[.agg #[.string ⟨#[]⟩,.slice none 0 0,.bool false],.bool false])
 | some x=>∃ A c,e=.returned (.tuple #[.agg #[.string (Qr x.cust),.slice A x.parts.length c,.bool x.tail],.bool true])∧Reads w' 1 A x.parts.length ((Zg x.parts).map .string)∧Ul w' A x.parts.length 9
theorem rCompileT_any (s:ByteArray) (w:World) (hs:s.size≤100000):Calls Tryz.prog 34 #[.string s] w (RCompPostT (Qx s) w):=by
 have cS:=fun W=>rSplit_any s 47 W (by omega)
 have hsz:=Jm 47 s
 have hnum:=Ku 47 s
 have hne:splitB 47 s ≠ []:=by
  intro h
  have:=congrArg List.length h
  unfold splitB at this
  rw[List.length_map]at this
  exact Yd 47 s.data.toList (List.eq_nil_of_length_eq_zero this)
 unfold Qx
 generalize splitB 47 s=l at *
 obtain⟨l0,r,rfl⟩:=List.exists_cons_of_ne_nil hne
 have hl0:l0.size≤100000:=Nat.le_trans (hsz l0 (by simp)) hs
 have cN:=fun W=>Ue l0 W (by omega)
 obtain⟨m,hm⟩:∃ m,m=r.length:=⟨_,rfl⟩
 have HS:Hid (∀ W,Calls Tryz.prog 72 #[.string s,.int .u8 47] W (fun e w'=>∃ A c,e=.returned (.slice A (m+1) c)∧w'.ownsRow W.heap.size 9 1 (.slice A (m+1) c) (m+1) ((l0 :: r).map .string)∧Below W.heap.size W w')):=Lib.hid (by rw[hm];exact cS)
 have HN:=Lib.hid cN
 have HM:=Lib.hid hm
 have hm9:m≤100001:=by rw[hm];simp at hnum;omega
 have hv:Vq (l0 :: r)=if decide (m≤32)&&Xq l0 then (cmpL r []).map fun x=>⟨Q7 l0,x.1,x.2⟩ else none:=by rw[U5,hm]
 have hn0:(0:Int)<(m:Int)+1:=by omega
 generalize hV:RCompPostT (Vq (l0 :: r)) w=V
 have HV:=Lib.hid hV
 have HSZ:Hid (∀ p∈r,p.size≤100000):=Lib.hid (fun p hp=>Nat.le_trans (hsz p (by simp[hp])) hs)
 obtain⟨i0,hi0,hz0,hz1,hz2⟩:=info_parts V3
 have HI:Hid ((Tryz.prog.info? 9=some i0)∧i0.zero=some (.string ⟨#[]⟩)∧i0.size=1∧i0.bytes=16):=Lib.hid ⟨hi0,hz0,hz1,hz2⟩
 clear hne cS cN hm hsz hnum hV hi0 hz0 hz1 hz2
 cases hho:Xq l0
 ·have HNO:Hid (Vq (l0 :: r)=none):=Lib.hid (by rw[hv,hho];simp)
  unfold Xq at hho
  simp only[Bool.or_eq_false_iff]at hho
  obtain⟨h1,h2⟩:=hho
  have h1':¬ l0.toList=[42]:=by simpa using h1
  rw[h2]at HN
  clear h2 hv
  go_enter Tryz.func34,Tryz.ntmps34
  go_wp2_with (first | (go_at_call 72;refine (HS.out _).mono ?_;rintro e w1 ⟨A,c,rfl,hown,hb1⟩;have hX1:QJ w1 w.heap.size ⟨#[]⟩ (.slice none 0 0) false:=Qv.keep (World.alloc_heap_new _ _) hb1;obtain⟨pb,po,u,rfl,hu,g0⟩:=(Reads.of_own hown).at_ (k:=0) (by omega);(obtain rfl:u=.string l0:=(by simpa using hu.symm));clear hu;have gg:w1.cell? ⟨pb,po,none⟩=some (.string l0):=g0;clear g0;have hR1:=Reads.of_own hown;clear hown;obtain⟨x0,x1,x2,f0,f1,f2⟩:=hX1.facts;have hz1:w.heap.size<w1.heap.size:=Qv.lt hX1) | (go_at_call 73;refine (HN.out _).mono ?_;rintro e w2 ⟨rfl,hb2⟩;have hX2:QJ w2 w.heap.size ⟨#[]⟩ (.slice none 0 0) false:=Qv.keep hX1 hb2;have gg2:=Qq hb2 gg;have hR2:=hR1.keep hb2;clear x0 x1 x2 f0 f1 f2;obtain⟨x0,x1,x2,f0,f1,f2⟩:=hX2.facts;have hz2:w.heap.size<w2.heap.size:=Qv.lt hX2))
  rw[←HV.out,HNO.out]
  exact bodyPost_ret (v:=.tuple #[.agg #[.string ⟨#[]⟩,.slice none 0 0,.bool false],.bool false]) (by simp[results,Tryz.results34,go_sem,hz2,x0,x1,x2,f0,f1,f2]) rfl ⟨Qz,rfl⟩
 have hho2:((l0.toList == [42])=true∧l0.toList=[42])∨((l0.toList == [42])=false∧¬ l0.toList=[42]∧Qy l0=true):=by
  have hho':=hho
  unfold Xq at hho'
  cases h:(l0.toList == [42])
  ·right;exact⟨rfl,by simpa using h,by simpa[h] using hho'⟩
  ·left;exact⟨rfl,by simpa using h⟩
 by_cases hbig:m≤32
 rotate_left
 ·have HNO:Hid (Vq (l0 :: r)=none):=Lib.hid (by rw[hv];simp[hbig])
  have hd:decide ((32:Int)<(m:Int))=true:=by simp;omega
  clear hv hho
  rcases hho2 with ⟨h1,h1'⟩ | ⟨h1,h1',h2⟩
  ·go_enter Tryz.func34,Tryz.ntmps34
   go_wp2_with (first | (go_at_call 72;refine (HS.out _).mono ?_;rintro e w1 ⟨A,c,rfl,hown,hb1⟩;have hX1:QJ w1 w.heap.size ⟨#[]⟩ (.slice none 0 0) false:=Qv.keep (World.alloc_heap_new _ _) hb1;obtain⟨pb,po,u,rfl,hu,g0⟩:=(Reads.of_own hown).at_ (k:=0) (by omega);(obtain rfl:u=.string l0:=(by simpa using hu.symm));clear hu;have gg:w1.cell? ⟨pb,po,none⟩=some (.string l0):=g0;clear g0;have hR1:=Reads.of_own hown;clear hown;obtain⟨x0,x1,x2,f0,f1,f2⟩:=hX1.facts;have hz1:w.heap.size<w1.heap.size:=Qv.lt hX1) | (go_at_call 73;refine (HN.out _).mono ?_;rintro e w2 ⟨rfl,hb2⟩;have hX2:QJ w2 w.heap.size ⟨#[]⟩ (.slice none 0 0) false:=Qv.keep hX1 hb2;have gg2:=Qq hb2 gg;have hR2:=hR1.keep hb2;clear x0 x1 x2 f0 f1 f2;obtain⟨x0,x1,x2,f0,f1,f2⟩:=hX2.facts;have hz2:w.heap.size<w2.heap.size:=Qv.lt hX2))
   rw[←HV.out,HNO.out]
   exact bodyPost_ret (v:=.tuple #[.agg #[.string ⟨#[]⟩,.slice none 0 0,.bool false],.bool false]) (by simp[results,Tryz.results34,go_sem,hz1,x0,x1,x2,f0,f1,f2]) rfl ⟨Qz,rfl⟩
  ·rw[h2]at HN
   go_enter Tryz.func34,Tryz.ntmps34
   go_wp2_with (first | (go_at_call 72;refine (HS.out _).mono ?_;rintro e w1 ⟨A,c,rfl,hown,hb1⟩;have hX1:QJ w1 w.heap.size ⟨#[]⟩ (.slice none 0 0) false:=Qv.keep (World.alloc_heap_new _ _) hb1;obtain⟨pb,po,u,rfl,hu,g0⟩:=(Reads.of_own hown).at_ (k:=0) (by omega);(obtain rfl:u=.string l0:=(by simpa using hu.symm));clear hu;have gg:w1.cell? ⟨pb,po,none⟩=some (.string l0):=g0;clear g0;have hR1:=Reads.of_own hown;clear hown;obtain⟨x0,x1,x2,f0,f1,f2⟩:=hX1.facts;have hz1:w.heap.size<w1.heap.size:=Qv.lt hX1) | (go_at_call 73;refine (HN.out _).mono ?_;rintro e w2 ⟨rfl,hb2⟩;have hX2:QJ w2 w.heap.size ⟨#[]⟩ (.slice none 0 0) false:=Qv.keep hX1 hb2;have gg2:=Qq hb2 gg;have hR2:=hR1.keep hb2;clear x0 x1 x2 f0 f1 f2;obtain⟨x0,x1,x2,f0,f1,f2⟩:=hX2.facts;have hz2:w.heap.size<w2.heap.size:=Qv.lt hX2))
   rw[←HV.out,HNO.out]
   exact bodyPost_ret (v:=.tuple #[.agg #[.string ⟨#[]⟩,.slice none 0 0,.bool false],.bool false]) (by simp[results,Tryz.results34,go_sem,hz2,x0,x1,x2,f0,f1,f2]) rfl ⟨Qz,rfl⟩
 have hd:decide ((32:Int)<(m:Int))=false:=by simp;omega
 have hv2:Vq (l0 :: r)=(cmpL r []).map fun x=>⟨Q7 l0,x.1,x.2⟩:=by rw[hv,hho];simp[hbig]
 have hst:Qr (Q7 l0)=l0:=str_head hho
 have HV2:=Lib.hid hv2
 have HST:=Lib.hid hst
 clear hv hho hv2 hst
 rcases hho2 with ⟨h1,h1'⟩ | ⟨h1,h1',h2⟩
 rotate_left
 rw[h2]at HN;clear h2
 rotate_left
 all_goals
  go_enter Tryz.func34,Tryz.ntmps34
  go_wp2_with (first | (go_at_call 72;refine (HS.out _).mono ?_;rintro e w1 ⟨A,c,rfl,hown,hb1⟩;have hX1:QJ w1 w.heap.size ⟨#[]⟩ (.slice none 0 0) false:=Qv.keep (World.alloc_heap_new _ _) hb1;obtain⟨pb,po,u,rfl,hu,g0⟩:=(Reads.of_own hown).at_ (k:=0) (by omega);(obtain rfl:u=.string l0:=(by simpa using hu.symm));clear hu;have gg:w1.cell? ⟨pb,po,none⟩=some (.string l0):=g0;clear g0;have hR1:=Reads.of_own hown;clear hown;obtain⟨x0,x1,x2,f0,f1,f2⟩:=hX1.facts;have hz1:w.heap.size<w1.heap.size:=Qv.lt hX1) | (go_at_call 73;refine (HN.out _).mono ?_;rintro e w2 ⟨rfl,hb2⟩;have hX2:QJ w2 w.heap.size ⟨#[]⟩ (.slice none 0 0) false:=Qv.keep hX1 hb2;have gg2:=Qq hb2 gg;have hR2:=hR1.keep hb2;clear x0 x1 x2 f0 f1 f2;obtain⟨x0,x1,x2,f0,f1,f2⟩:=hX2.facts;have hz2:w.heap.size<w2.heap.size:=Qv.lt hX2))
 rotate_left
 have hX1':=hX2
 have hbA:Below w.heap.size w w2:=Qz
 clear hX1 hR1 gg hb1 hb2
 rotate_left
 obtain⟨w2,rfl⟩:∃ x:World,x=w1:=⟨_,rfl⟩
 have hX1':=hX1
 have hR2:=hR1
 have gg2:=gg
 have hz2:=hz1
 have hbA:Below w.heap.size w w2:=Qz
 clear hX1 hR1 gg hb1
 all_goals
  clear x0 x1 x2 f0 f1 f2
  have HRd:=Lib.hid hR2
  have hpb:pb<w2.heap.size:=cell_lt gg2
  have hB0:QJ (w2.alloc (.cells #[.string l0,.slice none 0 0,.bool false] 77)) w2.heap.size l0 (.slice none 0 0) false:=World.alloc_heap_new _ _
  have hP0:QJ (w2.alloc (.cells #[.string l0,.slice none 0 0,.bool false] 77)) w.heap.size ⟨#[]⟩ (.slice none 0 0) false:=(Below.heap_alloc _ _ _ hz2).trans hX1'
  clear hR2 gg2 hX1'
  go_loopw [6] (fun vi wr=>∃ (k:Nat) (acc:List Part) (A':Option Addr) (c':Nat) (tl:Bool),(vi=.int .i64 ((k:Int)+1)∧k≤m∧acc.length≤k)∧Hid (CmpI r k acc tl)∧QJ wr w2.heap.size l0 (.slice A' acc.length c') tl∧QJ wr w.heap.size ⟨#[]⟩ (.slice none 0 0) false ∧
    wr.ownsRow (w2.heap.size+1) 9 1 (.slice A' acc.length c') acc.length ((Zg acc).map .string)∧Below w.heap.size w wr∧(∀ j,j<w2.heap.size→wr.heap[j]? = w2.heap[j]?)∧w2.heap.size+1≤wr.heap.size) (fun vi _=>m+1-(intOf vi).toNat)
  case atStart=>exact⟨0,[],none,0,false,⟨rfl,Nat.zero_le _,Nat.le_refl _⟩,Lib.hid (.inl ⟨rfl,by simp⟩),hB0,hP0,World.ownsRow_nil _ _ _ _,Qz,fun j hj=>Below.heap_alloc _ _ _ hj,by simp⟩
  case round =>
   clear hB0 hP0
   obtain⟨k,acc,A',c',tl,⟨rfl,hk,hak⟩,HC,hB,hP,hown,hbw,hFr,hzr⟩:=hrel
   obtain⟨x0,x1,x2,f0,f1,f2⟩:=hP.facts
   obtain⟨y0,y1,y2,g0,g1,g2⟩:=hB.facts
   by_cases hlt:k<m
   ·obtain⟨p,hp⟩:∃ p,r[k]? = some p:=⟨_,List.getElem?_eq_getElem (by have:=HM.out;omega)⟩
    have hps:=HSZ.out p (List.mem_of_getElem? hp)
    have hcell:wr.cell? ⟨pb,po+(k+1),none⟩=some (.string p):=by
     obtain⟨b',o',e',hc'⟩:=HRd.out.2 (by omega)
     injection e' with e';injection e' with e1 e2;subst e1;subst e2
     have:=hc' (k+1) (.string p) (by simp[hp])
     exact (World.cell?_of_block (hFr pb hpb)).trans this
    obtain⟨rfl,hcmp⟩:tl=false∧cmpL r []=cmpL (r.drop k) acc:=by
     rcases HC.out with h | ⟨_,h,_⟩
     ·exact h
     ·exfalso;have:=HM.out;omega
    have hd2:r.drop k=p :: r.drop (k+1):=by
     obtain⟨hl2,rfl⟩:=List.getElem?_eq_some_iff.1 hp
     exact List.drop_eq_getElem_cons hl2
    rw[hd2,cmpL]at hcmp
    have hemp:(r.drop (k+1)).isEmpty=decide (k+1=m):=by
     have:=HM.out
     by_cases h:k+1=m
     ·rw[List.drop_eq_nil_of_le (by omega)];simp[h]
     ·simp[h];omega
    rw[hemp]at hcmp
    have hk0:(0:Int)≤(k:Int)+1:=by omega
    have hkm:(k:Int)+1<(m:Int)+1:=by omega
    clear hd2 hemp hp HC HRd
    have cP:=fun W=>rPart_any p W (by omega)
    rw[part_ok]at cP
    cases h2s:(p.toList == [42,42])
    ·simp only[h2s,Bool.false_and,Bool.false_eq_true,if_false]at hcmp
     cases hok:Kv p
     ·have HNO:Hid (cmpL r []=none):=Lib.hid (by rw[hcmp,hok];rfl)
      rw[hok]at cP
      have HP:=Lib.hid cP
      clear hcmp cP hok
      go_wp2_with (go_at_call 74;refine (HP.out _).mono ?_;rintro e w4 ⟨rfl,hb4⟩;have hP4:QJ w4 w.heap.size ⟨#[]⟩ (.slice none 0 0) false:=Qv.keep hP hb4;have hB4:QJ w4 w2.heap.size l0 (.slice A' acc.length c') false:=Qv.keep hB hb4;have hown4:=Ql hown hb4;have hbw4:=Qj hbw hb4;have hFr4:∀ j,j<w2.heap.size→w4.heap[j]? = w2.heap[j]?:=(fun j q1=>(hb4.block j (by omega)).trans (hFr j q1));have hzr4:w2.heap.size+1≤w4.heap.size:=Nat.le_trans hzr hb4.size;have hcell4:=Qq hb4 hcell;clear x0 x1 x2 f0 f1 f2 y0 y1 y2 g0 g1 g2;obtain⟨x0,x1,x2,f0,f1,f2⟩:=hP4.facts;obtain⟨y0,y1,y2,g0,g1,g2⟩:=hB4.facts)
      rw[←HV.out,HV2.out,HNO.out]
      exact bodyPost_ret (v:=.tuple #[.agg #[.string ⟨#[]⟩,.slice none 0 0,.bool false],.bool false]) (by simp[results,Tryz.results34,go_sem,hz2,x0,x1,x2,f0,f1,f2]) rfl ⟨Qz,rfl⟩
     ·have HSO:Hid (cmpL r []=cmpL (r.drop (k+1)) (acc++[Q7 p])):=Lib.hid (by rw[hcmp,hok];rfl)
      have HSL:=Lib.hid (strL_snoc acc p hok)
      rw[hok]at cP
      have HP:=Lib.hid cP
      clear hcmp cP hok
      go_wp2_with (go_at_call 74;refine (HP.out _).mono ?_;rintro e w4 ⟨rfl,hb4⟩;have hP4:QJ w4 w.heap.size ⟨#[]⟩ (.slice none 0 0) false:=Qv.keep hP hb4;have hB4:QJ w4 w2.heap.size l0 (.slice A' acc.length c') false:=Qv.keep hB hb4;have hown4:=Ql hown hb4;have hbw4:=Qj hbw hb4;have hFr4:∀ j,j<w2.heap.size→w4.heap[j]? = w2.heap[j]?:=(fun j q1=>(hb4.block j (by omega)).trans (hFr j q1));have hzr4:w2.heap.size+1≤w4.heap.size:=Nat.le_trans hzr hb4.size;have hcell4:=Qq hb4 hcell;clear x0 x1 x2 f0 f1 f2 y0 y1 y2 g0 g1 g2;obtain⟨x0,x1,x2,f0,f1,f2⟩:=hP4.facts;obtain⟨y0,y1,y2,g0,g1,g2⟩:=hB4.facts)
      have hown4d:w4.drew.ownsRow (w2.heap.size+1) 9 1 (.slice A' acc.length c') acc.length ((Zg acc).map .string):=hown4
      have y1d:w4.drew.cell? ⟨w2.heap.size,1,none⟩=some (.slice A' acc.length c'):=y1
      have hcd:w4.drew.cell? ⟨pb,po+(k+1),none⟩=some (.string p):=hcell4
      have hzz:w2.heap.size<w4.heap.size:=by omega
      have hzp:pb<w4.heap.size:=by omega
      have y1e:(w4.alloc (.cells #[.string p] 9)).cell? ⟨w2.heap.size,1,none⟩=some (.slice A' acc.length c'):=(World.cell?_of_block (Below.heap_alloc w4 _ _ hzz)).trans y1
      go_region_law ((refine step_append_lies _ (by rfl) _ _ _ (by rfl) (w2.heap.size+1) 9 i0 (.string ⟨#[]⟩) 1 16 Tryz.underlying22 HI.out.1 HI.out.2.1 HI.out.2.2.1 HI.out.2.2.2 (by rfl) (by omega) (.slice A' acc.length c') acc.length ((Zg acc).map .string) (by rfl) (hown4d.alloc _) ⟨w4.heap.size,0,none⟩ 1 1 [.string p] (by rfl) (by rfl) (World.news_of_block (cs:=#[.string p]) (t:=9) (fr:=(0,0)) (World.alloc_heap_new w4.drew _)) (by simp[Value.oneCell']) (by omega) (by unfold maxLen;omega) (by omega) (by simp;omega) (w4.heap.size+1) (by simp) ?_;intro gg cap w7 hown7 hgrow hat hlt7;have hB7:QJ w7 w2.heap.size l0 (.slice A' acc.length c') false:=(hgrow.block w2.heap.size (by simp;omega) (fun e=>by have:=Qu hown4 _ e.symm;omega)).trans ((Below.heap_alloc w4.drew _ w2.heap.size (show w2.heap.size<w4.heap.size by omega)).trans hB4);clear y0 y1 y2 g0 g1 g2;obtain⟨y0,y1,y2,g0,g1,g2⟩:=hB7.facts))
      all_goals go_wp2
      all_goals
       have hal:(acc++[Q7 p]).length=acc.length+1:=by simp
       have hb7:Below w.heap.size w w7:=((Below.drew hbw4).alloc hbw4.size _).grown hgrow (by have:=hbw4.size;simp;omega) (fun r e=>by have:=Qu hown4 r e;omega)
       have hP7:QJ w7 w.heap.size ⟨#[]⟩ (.slice none 0 0) false:=(hgrow.block w.heap.size (by simp;omega) (fun e=>by have:=Qu hown4 _ e.symm;omega)).trans ((Below.heap_alloc w4.drew _ _ (show w.heap.size<w4.heap.size by omega)).trans hP4)
       refine⟨⟨k+1,acc++[Q7 p],some ⟨gg,0,none⟩,cap,false,⟨by go_num,by omega,by simp;omega⟩,Lib.hid (.inl ⟨rfl,HSO.out⟩),by rw[hal];exact Qv.set_ hB7 1 _,(Below.heap_setCell _ _ _ _ (by simp;omega)).trans hP7,by rw[hal,HSL.out,List.map_append];exact Xv hown7 (fun j hj=>Below.heap_setCell _ _ _ _ (by simp;omega)),hb7.setCell (p:=⟨w2.heap.size,1,none⟩) (by simp;omega) _,fun j q1=>(Below.heap_setCell _ _ _ _ (by simp;omega)).trans ((hgrow.block j (by simp;omega) (fun e=>by have:=Qu hown4 _ e.symm;omega)).trans ((Below.heap_alloc w4.drew _ j (show j<w4.heap.size by omega)).trans (hFr4 j q1))),by have:=hgrow.size;simp[World.setCell]at this ⊢;omega⟩,by simp[intOf];omega⟩
    ·obtain rfl:p=⟨#[42,42]⟩:=Qm (by rw[←Lib.toList_data];simpa using h2s)
     by_cases hlast:k+1=m
     ·obtain rfl:m=k+1:=hlast.symm
      have hlb:((k:Int)+1==((k+1:Nat):Int))=true:=by simp
      rw[h2s,show decide (k+1=k+1)=true by simp]at hcmp
      simp only[Bool.and_self,if_true]at hcmp
      have HH:=Lib.hid hcmp
      clear hcmp cP
      go_wp2
      exact⟨⟨k+1,acc,A',c',true,⟨by go_num,by omega,by omega⟩,Lib.hid (.inr ⟨rfl,HM.out,HH.out⟩),Qv.set_ hB 2 (.bool true),(Below.heap_setCell _ _ _ _ (by first | (simp;done) | (simp;omega))).trans hP,Xv hown (fun j hj=>Below.heap_setCell _ _ _ _ (by first | (simp;done) | (simp;omega))),hbw.setCell (p:=⟨w2.heap.size,2,none⟩) (by first | (simp;done) | (simp;omega)) _,
       fun j q1=>(Below.heap_setCell _ _ _ _ (by first | (simp;done) | (simp;omega))).trans (hFr j q1),by first | (simp[World.setCell];done) | (simp[World.setCell];omega)⟩,by simp[intOf];omega⟩
     ·have hlb:((k:Int)+1==(m:Int))=false:=by simp;omega
      have HNO:Hid (cmpL r []=none):=Lib.hid (by rw[hcmp,show decide (k+1=m)=false by simpa using hlast,Ud];simp)
      rw[Ud]at cP
      have HP:=Lib.hid cP
      clear hcmp cP
      go_wp2_with (go_at_call 74;refine (HP.out _).mono ?_;rintro e w4 ⟨rfl,hb4⟩;have hP4:QJ w4 w.heap.size ⟨#[]⟩ (.slice none 0 0) false:=Qv.keep hP hb4;have hB4:QJ w4 w2.heap.size l0 (.slice A' acc.length c') false:=Qv.keep hB hb4;have hown4:=Ql hown hb4;have hbw4:=Qj hbw hb4;have hFr4:∀ j,j<w2.heap.size→w4.heap[j]? = w2.heap[j]?:=(fun j q1=>(hb4.block j (by omega)).trans (hFr j q1));have hzr4:w2.heap.size+1≤w4.heap.size:=Nat.le_trans hzr hb4.size;have hcell4:=Qq hb4 hcell;clear x0 x1 x2 f0 f1 f2 y0 y1 y2 g0 g1 g2;obtain⟨x0,x1,x2,f0,f1,f2⟩:=hP4.facts;obtain⟨y0,y1,y2,g0,g1,g2⟩:=hB4.facts)
      rw[←HV.out,HV2.out,HNO.out]
      exact bodyPost_ret (v:=.tuple #[.agg #[.string ⟨#[]⟩,.slice none 0 0,.bool false],.bool false]) (by simp[results,Tryz.results34,go_sem,hz2,x0,x1,x2,f0,f1,f2]) rfl ⟨Qz,rfl⟩
   ·obtain rfl:k=m:=by omega
    have HE:Hid (cmpL r []=some (acc,tl)):=Lib.hid (by
     rcases HC.out with ⟨h,e⟩ | ⟨h,_,e⟩
     ·rw[e,h,HM.out,List.drop_eq_nil_of_le (Nat.le_refl _),cmpL]
     ·rw[e,h])
    have hob:∀ a,A'=some a→a.block≠w.heap.size:=fun a ha=>by have:=Qu hown a.block (by rw[ha];rfl);omega
    have hRr:=Reads.of_own hown
    have hTr:=ofType_own hown
    clear HC
    go_wp2
    rw[←HV.out,HV2.out,HE.out]
    exact bodyPost_ret (v:=.tuple #[.agg #[.string l0,.slice A' acc.length c',.bool tl],.bool true]) (by simp[results,Tryz.results34,go_sem,hz2,x0,x1,x2,f0,f1,f2]) rfl ⟨Qz,A',c',by rw[HST.out],(((hRr.set_ _ _ hob).set_ _ _ hob).set_ _ _ hob),(((hTr.set_ _ _ hob).set_ _ _ hob).set_ _ _ hob)⟩
def KBox (w:World) (g:Nat) (b:Bool) (e:Int):Prop:=Qv w g 91 #[.bool b,.int .i64 e] (0,0)
theorem KBox.facts {w:World} {g:Nat} {b:Bool} {e:Int} (h:KBox w g b e):w.cell? ⟨g,0,none⟩=some (.bool b)∧w.cell? ⟨g,1,none⟩=some (.int .i64 e)∧w.frozen? ⟨g,0,none⟩=false∧w.frozen? ⟨g,1,none⟩=false :=
 ⟨Qv.cell h 0,Qv.cell h 1,Qd h 0,Qd h 1⟩
def CompAs (s:ByteArray) (x:Z7) (cu:ByteArray) (n:Nat) (tl:Bool):Prop :=
 ∀ W,Calls Tryz.prog 34 #[.string s] W (fun e w'=>Below W.heap.size W w'∧∃ A c,e=.returned (.tuple #[.agg #[.string cu,.slice A n c,.bool tl],.bool true])∧Reads w' 1 A n ((Zg x.parts).map .string))
theorem compAs {s:ByteArray} {x:Z7} (hs:s.size≤100000) (hx:Qx s=some x):CompAs s x (Qr x.cust) x.parts.length x.tail:=fun W=>by
 have:=Va s W hs
 rw[hx]at this
 exact this
theorem compNo {s:ByteArray} (hs:s.size≤100000) (hx:Qx s=none):∀ W,Calls Tryz.prog 34 #[.string s] W (fun e w'=>Below W.heap.size W w'∧∃ (c:ByteArray) (A:Option Addr) (n k:Nat) (t:Bool),e=.returned (.tuple #[.agg #[.string c,.slice A n k,.bool t],.bool false])):=fun W=>by
 have:=(Va s W hs).mono (fun e w' h=>h.any_)
 rw[hx]at this
 exact this
theorem compAny {s:ByteArray} (hs:s.size≤100000):∀ W,Calls Tryz.prog 34 #[.string s] W (fun e w'=>Below W.heap.size W w'∧∃ (c:ByteArray) (A:Option Addr) (n k:Nat) (t:Bool),e=.returned (.tuple #[.agg #[.string c,.slice A n k,.bool t],.bool (Qx s).isSome])):=fun W =>
 (Va s W hs).mono (fun e w' h=>h.any_)
def meetL (xs ys:List Part):Bool:=(mtL [] xs ys).isSome
theorem mtL_isSome:∀ (xs ys acc:List Part),(mtL acc xs ys).isSome=true↔∀ (k:Nat) (p q:Part),xs[k]? = some p→ys[k]? = some q→Xb p q=true
 | [],ys,acc=>by simp[mtL]
 | a :: xs,[],acc=>by
  rw[mtL,mtL_isSome xs []]
  simp
 | a :: xs,b :: ys,acc=>by
  rw[mtL]
  cases hm:Xb a b
  ·simp only[Bool.false_eq_true,if_false,Option.isSome_none,false_iff]
   intro h
   have:=h 0 a b rfl rfl
   rw[hm]at this;cases this
  ·rw[if_pos rfl,mtL_isSome xs ys]
   constructor
   ·intro h k p q hp hq
    cases k with
    | zero=>simp at hp hq;rw[←hp,←hq];exact hm
    | succ k=>exact h k p q (by simpa using hp) (by simpa using hq)
   ·intro h k p q hp hq
    exact h (k+1) p q (by simpa using hp) (by simpa using hq)
theorem Yl (xs ys:List Part):meetL xs ys=true↔∀ (k:Nat) (p q:Part),xs[k]? = some p→ys[k]? = some q→Xb p q=true:=mtL_isSome xs ys []
theorem meetsP_comm (p q:Part):Xb p q=Xb q p:=by unfold Xb;exact Bool.or_comm _ _
theorem meetL_comm (xs ys:List Part):meetL xs ys=meetL ys xs:=by
 rw[Bool.eq_iff_iff,Yl,Yl]
 exact⟨fun h k p q hp hq=>by rw[meetsP_comm];exact h k q p hq hp,fun h k p q hp hq=>by rw[meetsP_comm];exact h k q p hq hp⟩
theorem commonO_isSome (x y:Z7):(Jd x y).isSome=(Xb x.cust y.cust&&!(decide (y.parts.length<x.parts.length)&&!y.tail)&&meetL x.parts y.parts):=by
 unfold Jd meetL
 cases hm:Xb x.cust y.cust
 ·simp
 ·cases hd:(decide (y.parts.length<x.parts.length)&&!y.tail)
  ·simp
  ·simp
theorem common_isSome (x y:Z7):(QK x y).isSome=(Xb x.cust y.cust&&!(decide (x.parts.length<y.parts.length)&&!x.tail)&&!(decide (y.parts.length<x.parts.length)&&!y.tail)&&meetL x.parts y.parts):=by
 unfold QK
 by_cases h:x.parts.length<y.parts.length
 ·rw[if_pos h,commonO_isSome,meetsP_comm,meetL_comm,decide_eq_true h,decide_eq_false (show ¬ y.parts.length<x.parts.length by omega)]
  simp
 ·rw[if_neg h,commonO_isSome,decide_eq_false h]
  simp
theorem cust_meets {p q:Part} (hp:Jj p) (hq:Jj q):Xb p q=((Qr p).toList == [42]||(Qr q).toList == [42]||(Qr p).toList==(Qr q).toList):=by
 unfold Xb
 rw[cust_cov hp hq,cust_cov hq hp]
 have e:((Qr q).toList==(Qr p).toList)=((Qr p).toList==(Qr q).toList):=by
  rw[Bool.eq_iff_iff,beq_iff_eq,beq_iff_eq];exact eq_comm
 rw[e]
 cases ((Qr p).toList == [42]) <;> cases ((Qr q).toList == [42]) <;> cases ((Qr p).toList==(Qr q).toList) <;> rfl
theorem part_meets {p q:Part} (hp:Qa p) (hq:Qa q):meetsB (Qr p) (Qr q)=Xb p q:=by
 unfold meetsB Xb
 rw[U4 hp hq,U4 hq hp]
theorem mtL_at:∀ (xs ys acc r:List Part),mtL acc xs ys=some r→∃ r',r=acc++r'∧r'.length=xs.length∧∀ (k:Nat) (a:Part),xs[k]? = some a→r'[k]? = some (match ys[k]? with | some b=>X7 a b | none=>a)
 | [],ys,acc,r,e=>by
  simp[mtL]at e;subst e
  exact⟨[],by simp,rfl,by simp⟩
 | a :: xs,[],acc,r,e=>by
  rw[mtL]at e
  obtain⟨r',h1,h2,h3⟩:=mtL_at xs [] (acc++[a]) r e
  refine⟨a :: r',by rw[h1];simp,by simp[h2],fun k b hb=>?_⟩
  cases k with
  | zero=>simp at hb ⊢;exact hb
  | succ k =>
   have:=h3 k b (by simpa using hb)
   simpa using this
 | a :: xs,b :: ys,acc,r,e=>by
  rw[mtL]at e
  split at e
  ·obtain⟨r',h1,h2,h3⟩:=mtL_at xs ys (acc++[X7 a b]) r e
   refine⟨X7 a b :: r',by rw[h1];simp,by simp[h2],fun k c hc=>?_⟩
   cases k with
   | zero=>simp at hc ⊢;rw[hc]
   | succ k =>
    have:=h3 k c (by simpa using hc)
    simpa using this
  ·cases e
def wAt (x y:Z7) (k:Nat):ByteArray :=
 let w:=match x.parts[k]? with
  | some a=>Qr a
  | none=>⟨#[42]⟩
 match y.parts[k]? with
 | some b=>if covB w (Qr b) then Qr b else w
 | none=>w
theorem strP_meet {a b:Part} (ha:Qa a) (hb:Qa b):Qr (X7 a b)=if covB (Qr a) (Qr b) then Qr b else Qr a:=by
 unfold X7
 rw[U4 ha hb]
 split <;> rfl
theorem strP_meet2 {a b:Part} (ha:Qa a) (hb:Qa b) (hm:Xb a b=true):Qr (X7 b a)=if covB (Qr a) (Qr b) then Qr b else Qr a:=by
 unfold X7
 rw[U4 ha hb]
 unfold Xb at hm
 cases h1:Zb a.kind a.text b.kind b.text
 ·rw[h1,Bool.false_or]at hm
  rw[if_pos hm];rfl
 ·rw[if_pos rfl]
  split
  ·rename_i h2
   rw[covers_anti ha hb h1 h2]
  ·rfl
theorem common_at {x y z:Z7} (hx:Zt x) (hy:Zt y) (h:QK x y=some z):z.tail=(x.tail&&y.tail)∧z.parts.length=max x.parts.length y.parts.length∧(∀ k,k<max x.parts.length y.parts.length→(Zg z.parts)[k]? = some (wAt x y k))∧Qr z.cust=if (Qr x.cust).toList == [42] then Qr y.cust else Qr x.cust:=by
 have hsome:(QK x y).isSome=true:=by rw[h];rfl
 rw[common_isSome]at hsome
 simp only[Bool.and_eq_true]at hsome
 obtain⟨⟨⟨hc,hg1⟩,hg2⟩,hl⟩:=hsome
 rw[Yl]at hl
 have hfx:∀ (k:Nat) (a:Part),x.parts[k]? = some a→Qa a:=fun k a ha=>hx.parts a (List.mem_of_getElem? ha)
 have hfy:∀ (k:Nat) (a:Part),y.parts[k]? = some a→Qa a:=fun k a ha=>hy.parts a (List.mem_of_getElem? ha)
 have hcv:=cust_cov hx.cust hy.cust
 have hcv2:=cust_cov hy.cust hx.cust
 rw[cust_meets hx.cust hy.cust]at hc
 unfold QK at h
 by_cases hlt:x.parts.length<y.parts.length
 ·rw[if_pos hlt]at h
  unfold Jd at h
  split at h
  ·cases h
  ·cases hm:mtL [] y.parts x.parts with
   | none=>rw[hm]at h;cases h
   | some l =>
    rw[hm,Option.map_some]at h
    injection h with h
    subst h
    obtain⟨r',h1,h2,h3⟩:=mtL_at _ _ _ _ hm
    rw[List.nil_append]at h1
    subst h1
    refine⟨Bool.and_comm _ _,by dsimp only;omega,fun k hk=>?_,?_⟩
    ·obtain⟨b,hb⟩:∃ b,y.parts[k]? = some b:=⟨_,List.getElem?_eq_getElem (by omega)⟩
     have h4:=h3 k b hb
     unfold Zg
     dsimp only
     rw[List.getElem?_map,h4,Option.map_some]
     congr 1
     show Qr _=_
     unfold wAt
     rw[hb]
     cases ha:x.parts[k]? with
     | none =>
      dsimp only
      rw[if_pos]
      unfold covB
      rw[show ((⟨#[42]⟩:ByteArray).toList == [42])=true by rw[Lib.toList_data];rfl]
      rfl
     | some a=>exact strP_meet2 (hfx k a ha) (hfy k b hb) (hl k a b ha hb)
    ·dsimp only
     unfold X7
     rw[hcv2]
     cases e1:((Qr x.cust).toList == [42])
     ·rw[e1,Bool.false_or]at hc
      have e3:((Qr y.cust).toList==(Qr x.cust).toList)=((Qr x.cust).toList==(Qr y.cust).toList):=by
       rw[Bool.eq_iff_iff,beq_iff_eq,beq_iff_eq];exact eq_comm
      rw[e3,hc];rfl
     ·cases e2:((Qr y.cust).toList == [42])
      ·have e3:((Qr y.cust).toList==(Qr x.cust).toList)=false:=by
        rw[beq_eq_false_iff_ne]
        intro h
        rw[h]at e2
        rw[e1]at e2;cases e2
       rw[e3];rfl
      ·have:Qr x.cust=Qr y.cust:=by
        rw[beq_iff_eq]at e1 e2
        exact (Yi _ _).1 (by rw[e1,e2];rfl)
       rw[Bool.true_or,if_pos rfl,if_pos rfl,this]
 ·rw[if_neg hlt]at h
  unfold Jd at h
  split at h
  ·cases h
  ·cases hm:mtL [] x.parts y.parts with
   | none=>rw[hm]at h;cases h
   | some l =>
    rw[hm,Option.map_some]at h
    injection h with h
    subst h
    obtain⟨r',h1,h2,h3⟩:=mtL_at _ _ _ _ hm
    rw[List.nil_append]at h1
    subst h1
    refine⟨rfl,by dsimp only;omega,fun k hk=>?_,?_⟩
    ·obtain⟨a,ha⟩:∃ a,x.parts[k]? = some a:=⟨_,List.getElem?_eq_getElem (by omega)⟩
     have h4:=h3 k a ha
     unfold Zg
     dsimp only
     rw[List.getElem?_map,h4,Option.map_some]
     congr 1
     show Qr _=_
     unfold wAt
     rw[ha]
     cases hb:y.parts[k]? with
     | none=>rfl
     | some b=>exact strP_meet (hfx k a ha) (hfy k b hb)
    ·dsimp only
     unfold X7
     rw[hcv]
     cases e1:((Qr x.cust).toList == [42])
     ·rw[Bool.false_or]
      cases e3:((Qr x.cust).toList==(Qr y.cust).toList)
      ·rfl
      ·rw[if_pos rfl,(Yi _ _).1 e3];rfl
     ·rfl
end Go.Proofs.YticlbkficolocaaGreatDoor
