/- What the condition package's Meet returns, and that its lists are new. -/
import Derived.Test.YtlkbkclnbppigaaGreatDoorIZ30
set_option maxHeartbeats 8000000
namespace Go.Proofs.YtlkbkclnbppigaaGreatDoor
open Tryz
open Go.RowKit Go.Sort
set_option linter.unusedVariables false
set_option linter.unusedSimpArgs false
set_option maxRecDepth 100000
structure sZ(g:Nat)(c:aY)(m:ae):Prop where
 cl:0<c.cl.length->∀ a,m.A=some a->g<=a.block
 co:0<c.co.length->∀ a,m.B=some a->g<=a.block
 si:0<c.si.length->∀ a,m.S=some a->g<=a.block
theorem Xz(a b:aY)(ma mb:ae)(w:World)(hRa:dA w a ma)(hRb:dA w b mb)(hfa:dE a)(hfb:dE b)(hva:bF a=true)(hvb:bF b=true)(hE:Env w) :
  Calls prog 54 #[ae.val a ma,ae.val b mb] w fun e w'=>aF w w'/\∃ m,e=.returned (.tuple #[ae.val (iH a b) m,.int .i64 0])/\dA w' (iH a b) m/\sZ w.heap.size (iH a b) m:=by
 have c1:=fun W (hb:aF w W)=>hva▸qX a ma W (hRa.keep hb) hfa.p hfa.cl hfa.co hfa.n1 hfa.n2 hfa.n3 (hE.keep hb)
 have c2:=fun W (hb:aF w W)=>hvb▸qX b mb W (hRb.keep hb) hfb.p hfb.cl hfb.co hfb.n1 hfb.n2 hfb.n3 (hE.keep hb)
 have c3:=fun (g c:Nat) (W:World) h0 h1=>xQ g c a.pat b.pat W h0 h1
 have c4:=fun W (hb:aF w W)=>JO ma.A a.cl.length ma.ca mb.A b.cl.length mb.ca a.cl b.cl W (hRa.cl.keep hb) (hRb.cl.keep hb) hfa.n1 hfb.n1
 have c5:=fun W (hb:aF w W)=>JO ma.B a.co.length ma.cb mb.B b.co.length mb.cb a.co b.co W (hRa.co.keep hb) (hRb.co.keep hb) hfa.n2 hfb.n2
 have c6:=fun W (hb:aF w W)=>VY ma.S a.si.length ma.cs mb.S b.si.length mb.cs a.si b.si W (hRa.si.keep hb) (hRb.si.keep hb) hfa.n3 hfb.n3
 have c7:=fun W (hb:aF w W)=>UV a.pat b.pat W hfa.p hfb.p (hE.keep hb)
 have hpm1:=fun h=>@CY a.pat b.pat h
 have hpm2:=fun h1 h2=>V8 (Jp hva) (Jp hvb) h1 h2
 have hme:=Jq a b;unfold CX at hme;unfold Bi at c4 c5;unfold Bj at c6;generalize iH a b=M at *;generalize eP a.cl b.cl=F1 at *;generalize eP a.co b.co=F2 at *;generalize eP a.si b.si=F3 at *;generalize gW a.cl b.cl=k1 at *;generalize gW a.co b.co=k2 at *;generalize gW a.si b.si=k3 at *;generalize nV a.pat b.pat=pm at *;generalize qf a.pat b.pat=kp at *;obtain⟨fa,ta,pa,cla,coa,sia,ua⟩:=a;obtain⟨fb,tb,pb,clb,cob,sib,ub⟩:=b;obtain⟨A,ca,B,cb,S,cs⟩:=ma;obtain⟨A',ca',B',cb',S',cs'⟩:=mb;unfold ae.val at c1 c2
 conv=>arg 3;unfold ae.val
 dsimp only at c1 c2 c3 c4 c5 c6 c7 hpm1 hpm2 hme ⊢;generalize hna:cla.length=na at *;generalize hnb:coa.length=nb at *;generalize hns:sia.length=ns at *;generalize hna':clb.length=na' at *;generalize hnb':cob.length=nb' at *;generalize hns':sib.length=ns' at *;generalize hpo:(if pa.size=0 then pb else pa)=po at *;have hpe:=fun (h:pa.size=0\/pb.size=0)=>((hpm1 h).1.symm:po=pm)
 have C1:=aA c1;have C2:=aA c2;have C3:=aA c3;have C4:=aA c4;have C5:=aA c5;have C6:=aA c6;have C7:=aA c7;have PM1:=aA hpm1;have PM2:=aA hpm2;have PE:=aA hpe;have HM:=aA hme;clear c1 c2 c3 c4 c5 c6 c7 hpm1 hpm2 hpe hme hpo hRa hRb hfa hfb hva hvb hE hna hnb hns hna' hnb' hns';go_enter func54,ntmps54;go_upto_region 3 with (((first | (go_at_call 49;refine (C1.out _ aJ).mono ?_;rintro e w2 ⟨rfl,hb2⟩;have hbw:aF w w2:=aJ;clear C1) | (go_at_call 49;refine (C2.out _ hbw).mono ?_;rintro e w2 ⟨rfl,hb2⟩;replace hbw:=aV hbw hb2;clear C2));(have hX2:aX w2 w.heap.size fa ta pa A na ca B nb cb S ns cs ua:=(by first | exact Blk.keep hX2 hb2 | exact Blk.keep (CW _ _ _ _).1 hb2));(have hY2:aX w2 (w.heap.size+1) fb tb pb A' na' ca' B' nb' cb' S' ns' cs' ub:=(by first | exact Blk.keep hY2 hb2 | exact Blk.keep (CW _ _ _ _).2.1 hb2));(have hZ2:aX w2 (w.heap.size+1+1) 0 0 ⟨#[]⟩ none 0 0 none 0 0 none 0 0 0:=(by first | exact Blk.keep hZ2 hb2 | exact Blk.keep (CW _ _ _ _).2.2 hb2));(try clear x0 x1 x2 x3 x4 x5 x6 y0 y1 y2 y3 y4 y5 y6);(obtain⟨x0,x1,x2,x3,x4,x5,x6⟩:=hX2.facts;obtain⟨y0,y1,y2,y3,y4,y5,y6⟩:=hY2.facts)))
 have hz:=Blk.lt hZ2;have HX2:=aA hX2;have HY2:=aA hY2;have HZ2:=aA hZ2;have HBW:=aA hbw;clear hX2 hY2 hZ2 hbw hb2;go_cut [6] (fun s6 wx=>∃ gc:Nat,s6=.pointer (some ⟨gc,0,none⟩)/\aX wx gc (max fa fb) (min ta tb) po none 0 0 none 0 0 none 0 0 (max ua ub)/\w2.heap.size<=gc/\aF w2 wx)
 case first =>
  refine wp_region_noPanic ?_;refine wp_region_held_drew (S:=(fun w'=>w'.cell? ⟨w.heap.size,0,none⟩=some (.int .i64 fa)/\w'.cell? ⟨w.heap.size,1,none⟩=some (.int .i64 ta)/\w'.cell? ⟨w.heap.size,2,none⟩=some (.string pa)/\w'.cell? ⟨w.heap.size,6,none⟩=some (.int .i64 ua)/\w'.cell? ⟨w.heap.size+1,0,none⟩=some (.int .i64 fb)/\w'.cell? ⟨w.heap.size+1,1,none⟩=some (.int .i64 tb)/\w'.cell? ⟨w.heap.size+1,2,none⟩=some (.string pb)/\w'.cell? ⟨w.heap.size+1,6,none⟩=some (.int .i64 ub)/\aF w2 w')) aG ⟨x0,x1,x2,x6,y0,y1,y2,y6,Below.drew (Below.refl _ _)⟩ (fun hHeld=>?_);refine wpAnyH_take (i:=0) (oi:=_) (v:=?v1) rfl aG aG aG (fun _ _ _ h=>h) (Or.inl ⟨bC,?h1⟩) dJ ?r1
  case h1=>(intro w hSw;(try dsimp only at hSw);go_simp;try with_reducible rfl)
  (try simp only[Act.put,ag]);refine wpAnyH_take (i:=1) (oi:=_) (v:=?v2) rfl aG aG aG (fun _ _ _ h=>h) (Or.inl ⟨bC,?h2⟩) dJ ?r2
  case h2=>(intro w hSw;(try dsimp only at hSw);go_simp;try with_reducible rfl)
  (try simp only[Act.put,ag]);refine wpAnyH_take (i:=2) (oi:=_) (v:=?v3) rfl aG aG aG (fun _ _ _ h=>h) (Or.inl ⟨bC,?h3⟩) dJ ?r3
  case h3=>(intro w hSw;(try dsimp only at hSw);go_simp;try with_reducible rfl)
  (try simp only[Act.put,ag]);refine wpAnyH_take (i:=3) (oi:=_) (v:=?v4) rfl aG aG aG (fun _ _ _ h=>h) (Or.inl ⟨bC,?h4⟩) dJ ?r4
  case h4=>(intro w hSw;(try dsimp only at hSw);go_simp;try with_reducible rfl)
  (try simp only[Act.put,ag]);refine wpAnyH_take (i:=4) (oi:=_) (v:=?v5) rfl aG aG aG (fun _ _ _ h=>h) (Or.inl ⟨bC,?h5⟩) dJ ?r5
  case h5=>(intro w hSw;(try dsimp only at hSw);go_simp;try with_reducible rfl)
  (try simp only[Act.put,ag]);refine wpAnyH_take (i:=5) (oi:=_) (v:=?v6) rfl aG aG aG (fun _ _ _ h=>h) (Or.inl ⟨bC,?h6⟩) dJ ?r6
  case h6=>(intro w hSw;(try dsimp only at hSw);go_simp;try with_reducible rfl)
  (try simp only[Act.put,ag]);refine wpAnyH_take (i:=6) (oi:=_) (v:=?v7) rfl aG aG aG (fun _ _ _ h=>h) (Or.inl ⟨bC,?h7⟩) dJ ?r7
  case h7=>(intro w hSw;(try dsimp only at hSw);go_simp;try with_reducible rfl)
  (try simp only[Act.put,ag]);refine wpAnyH_take (i:=7) (oi:=_) (v:=?v8) rfl aG aG aG (fun _ _ _ h=>h) (Or.inl ⟨bC,?h8⟩) dJ ?r8
  case h8=>(intro w hSw;(try dsimp only at hSw);go_simp;try with_reducible rfl)
  (try simp only[Act.put,ag]);refine wpAnyH_take (i:=8) (oi:=_) (v:=?v9) rfl aG aG aG (fun _ _ _ h=>h) (Or.inl ⟨bC,?h9⟩) dJ ?r9
  case h9=>(intro w hSw;(try dsimp only at hSw);go_simp;try with_reducible rfl)
  (try simp only[Act.put,ag]);refine wpAnyH_take (i:=9) (oi:=_) (v:=?v10) rfl aG aG aG (fun _ _ _ h=>h) (Or.inl ⟨bC,?h10⟩) dJ ?r10
  case h10=>(intro w hSw;(try dsimp only at hSw);go_simp;try with_reducible rfl)
  (try simp only[Act.put,ag]);refine wpAnyH_take (i:=10) (oi:=_) (v:=?v11) rfl aG aG aG (fun _ _ _ h=>h) (Or.inl ⟨bC,?h11⟩) dJ ?r11
  case h11=>(intro w hSw;(try dsimp only at hSw);go_simp;try with_reducible rfl)
  (try simp only[Act.put,ag]);refine wpAnyH_take (i:=11) (oi:=_) (v:=?v12) rfl aG aG aG (fun _ _ _ h=>h) (Or.inl ⟨bC,?h12⟩) dJ ?r12
  case h12=>(intro w hSw;(try dsimp only at hSw);go_simp;try with_reducible rfl)
  (try simp only[Act.put,ag]);refine wpAnyH_take (i:=12) (oi:=_) (v:=?v13) rfl aG aG aG (fun _ _ _ h=>h) (Or.inl ⟨bC,?h13⟩) dJ ?r13
  case h13=>(intro w hSw;(try dsimp only at hSw);go_simp;try with_reducible rfl)
  (try simp only[Act.put,ag]);refine wpAnyH_take (i:=13) (oi:=_) (v:=?v14) rfl aG aG aG (fun _ _ _ h=>h) (Or.inl ⟨bC,?h14⟩) dJ ?r14
  case h14=>(intro w hSw;(try dsimp only at hSw);go_simp;try with_reducible rfl)
  (try simp only[Act.put,ag]);refine wpAnyH_take (i:=16) (oi:=_) (v:=?v15) rfl aG aG aG (fun _ _ _ h=>h) (Or.inl ⟨bC,?h15⟩) dJ ?r15
  case h15=>(intro w hSw;(try dsimp only at hSw);go_simp;try with_reducible rfl)
  (try simp only[Act.put,ag]);refine wpAnyH_take (i:=17) (oi:=_) (v:=?v16) rfl aG aG aG (fun _ _ _ h=>h) (Or.inl ⟨bC,?h16⟩) dJ ?r16
  case h16=>(intro w hSw;(try dsimp only at hSw);go_simp;try with_reducible rfl)
  (try simp only[Act.put,ag]);refine wpAnyH_take (i:=18) (oi:=_) (v:=?v17) rfl aG aG aG (fun _ _ _ h=>h) (Or.inl ⟨bC,?h17⟩) dJ ?r17
  case h17=>(intro w hSw;(try dsimp only at hSw);go_simp;try with_reducible rfl)
  (try simp only[Act.put,ag]);refine wpAnyH_take (i:=19) (oi:=_) (v:=?v18) rfl aG aG aG (fun _ _ _ h=>h) (Or.inl ⟨bC,?h18⟩) dJ ?r18
  case h18=>(intro w hSw;(try dsimp only at hSw);go_simp;try with_reducible rfl)
  (try simp only[Act.put,ag]);refine wpAnyH_take (i:=20) (oi:=_) (v:=?v19) rfl aG aG aG (fun _ _ _ h=>h) (Or.inl ⟨bC,?h19⟩) dJ ?r19
  case h19=>(intro w hSw;(try dsimp only at hSw);go_simp;try with_reducible rfl)
  (try simp only[Act.put,ag]);refine wpAnyH_ready (rs:=[14,22]) aG aH ?_;refine AllReadyH.cons (o:=_) rfl (fun K hK=>?_) ?_
  ·go_simp;refine hK.out _ _ ?_ (fun hHeld=>?_)
   ·exact ni
   clear hK K;(try simp only[Act.put,ag]);refine wpAnyH_ready (rs:=[15,22]) aG aH ?_;refine AllReadyH.cons (o:=_) rfl (fun K hK=>?_) ?_
   ·go_simp;refine (C3.out _ _ _ ?_ ?_).mono ?_
    ·exact su
    ·exact su
    rintro e w3 ⟨rfl,hb3⟩;(try go_wp2_with fail);refine hK.out _ _ ?_ (fun hHeld=>?_)
    ·exact ni
    clear hK K;(try simp only[Act.put,ag]);refine wpAnyH_take (i:=21) (oi:=_) (v:=?v20) rfl aG aG aG (fun _ _ _ h=>h) (Or.inl ⟨bC,?h20⟩) dJ ?r20
    case h20=>(intro w hSw;(try dsimp only at hSw);go_simp;try with_reducible rfl)
    (try simp only[Act.put,ag]);refine wpAnyH_ready (rs:=[22]) aG aH ?_;refine AllReadyH.cons (o:=_) rfl (fun K hK=>?_) ?_
    ·go_simp;refine hK.out _ _ ?_ (fun hHeld=>?_)
     ·exact ni
     clear hK K;(try simp only[Act.put,ag]);refine wpAnyH_ready (rs:=[23]) aG aH ?_;refine AllReadyH.cons (o:=_) rfl (fun K hK=>?_) ?_
     ·go_simp;refine hK.out _ _ ?_ (fun hHeld=>?_)
      ·exact ni
      exact NC
     exact AllReadyH.nil
    exact AllReadyH.nil
   refine AllReadyH.cons (o:=_) rfl (fun K hK=>?_) ?_
   ·go_simp;refine hK.out _ _ ?_ (fun hHeld=>?_)
    ·exact ni
    clear hK K;(try simp only[Act.put,ag]);refine wpAnyH_ready (rs:=[15]) aG aH ?_;refine AllReadyH.cons (o:=_) rfl (fun K hK=>?_) ?_
    ·go_simp;refine (C3.out _ _ _ ?_ ?_).mono ?_
     ·exact su
     ·exact su
     rintro e w3 ⟨rfl,hb3⟩;have hC3:aX w3 (w2.heap.size+1) 0 0 ⟨#[]⟩ none 0 0 none 0 0 none 0 0 0:=Blk.keep (by exact (vC w2 _ _).2) hb3;obtain⟨c0,c1,c2,c3,c4,c5,c6⟩:=hC3.facts;have f0:=Blk.free0 hC3 0;have f1:=Blk.free0 hC3 1;have f2:=Blk.free0 hC3 2;have f3:=Blk.free0 hC3 3;have f4:=Blk.free0 hC3 4;have f5:=Blk.free0 hC3 5;have f6:=Blk.free0 hC3 6;(try go_wp2_with fail);refine hK.out _ _ ?_ (fun hHeld=>?_)
     ·exact ni
     clear hK K;(try simp only[Act.put,ag]);refine wpAnyH_take (i:=21) (oi:=_) (v:=?v21) rfl aG aG aG (fun _ _ _ h=>h) (Or.inl ⟨bC,?h21⟩) dJ ?r21
     case h21=>(intro w hSw;(try dsimp only at hSw);go_simp;try with_reducible rfl)
     exact ND
    exact AllReadyH.nil
   exact AllReadyH.nil
  refine AllReadyH.cons (o:=_) rfl (fun K hK=>?_) ?_
  ·go_simp;refine hK.out _ _ ?_ (fun hHeld=>?_)
   ·exact ni
   clear hK K;(try simp only[Act.put,ag]);refine wpAnyH_ready (rs:=[14]) aG aH ?_;refine AllReadyH.cons (o:=_) rfl (fun K hK=>?_) ?_
   ·go_simp;refine hK.out _ _ ?_ (fun hHeld=>?_)
    ·exact ni
    clear hK K;(try simp only[Act.put,ag]);refine wpAnyH_ready (rs:=[15]) aG aH ?_;refine AllReadyH.cons (o:=_) rfl (fun K hK=>?_) ?_
    ·go_simp;refine (C3.out _ _ _ ?_ ?_).mono ?_
     ·exact su
     ·exact su
     rintro e w3 ⟨rfl,hb3⟩;have hC3:aX w3 w2.heap.size 0 0 ⟨#[]⟩ none 0 0 none 0 0 none 0 0 0:=Blk.keep (by exact (vC w2 _ _).1) hb3;obtain⟨c0,c1,c2,c3,c4,c5,c6⟩:=hC3.facts;have f0:=Blk.free0 hC3 0;have f1:=Blk.free0 hC3 1;have f2:=Blk.free0 hC3 2;have f3:=Blk.free0 hC3 3;have f4:=Blk.free0 hC3 4;have f5:=Blk.free0 hC3 5;have f6:=Blk.free0 hC3 6;(try go_wp2_with fail);refine hK.out _ _ ?_ (fun hHeld=>?_)
     ·exact ni
     clear hK K;(try simp only[Act.put,ag]);refine wpAnyH_take (i:=21) (oi:=_) (v:=?v22) rfl aG aG aG (fun _ _ _ h=>h) (Or.inl ⟨bC,?h22⟩) dJ ?r22
     case h22=>(intro w hSw;(try dsimp only at hSw);go_simp;try with_reducible rfl)
     exact ND
    exact AllReadyH.nil
   exact AllReadyH.nil
  exact AllReadyH.nil
 case rest =>
  obtain⟨gc,rfl,hC,hgc,hbc⟩:=hcut;have hX2:aX wc w.heap.size fa ta pa A na ca B nb cb S ns cs ua:=Blk.keep HX2.out hbc;have hY2:aX wc (w.heap.size+1) fb tb pb A' na' ca' B' nb' cb' S' ns' cs' ub:=Blk.keep HY2.out hbc;clear x0 x1 x2 x3 x4 x5 x6 y0 y1 y2 y3 y4 y5 y6;(obtain⟨x0,x1,x2,x3,x4,x5,x6⟩:=hX2.facts;obtain⟨y0,y1,y2,y3,y4,y5,y6⟩:=hY2.facts);obtain⟨wo,rfl⟩:∃ wo:World,wo=wc:=⟨_,rfl⟩;have HX3:=aA hX2;have HY3:=aA hY2;have HC:=aA hC;have HBC:=aA hbc;clear hX2 hY2 hC hbc;obtain⟨t,ht⟩:∃ t,t=decide (0<ua/\0<ub):=⟨_,rfl⟩;have HT:=aA ht;clear ht;go_upto_region 4 with fail
  go_cut [46] (fun v wx=>v=.bool t/\wx=wo)
  case first =>
   have ht:=HT.out;by_cases h1:0<ua
   ·have d1:decide (0<ua)=true:=decide_eq_true h1;by_cases h2:0<ub
    ·obtain rfl:t=true:=by rw[ht];simp[h1,h2]
     have d2:decide (0<ub)=true:=decide_eq_true h2;clear ht h1 h2;go_wp2_with fail;go_meet;exact⟨rfl,rfl⟩
    ·obtain rfl:t=false:=by rw[ht];simp[h2]
     have d2:decide (0<ub)=false:=decide_eq_false h2;clear ht h1 h2;go_wp2_with fail;go_meet;exact⟨rfl,rfl⟩
   ·obtain rfl:t=false:=by rw[ht];simp[h1]
    have d1:decide (0<ua)=false:=decide_eq_false h1;clear ht h1;go_wp2_with fail;go_meet;exact⟨rfl,rfl⟩
  case rest =>
   obtain⟨rfl,rfl⟩:=hcut;go_upto_if 46 with fail
   go_cut [] (fun wx=>aX wx gc (max fa fb) (min ta tb) po none 0 0 none 0 0 none 0 0 (fF ua ub)/\aF w2 wx)
   case first =>
    have hCo:=HC.out;cases t
    ·have hu:fF ua ub=max ua ub:=by unfold fF;rw[if_neg (of_decide_eq_false HT.out.symm)]
     have HU:=aA hu;clear hu;go_wp2_with fail;go_meet;exact⟨by rw[HU.out];exact hCo,HBC.out⟩
    ·have hu:fF ua ub=min ua ub:=by unfold fF;rw[if_pos (of_decide_eq_true HT.out.symm)]
     have HU:=aA hu;obtain⟨c0,c1,c2,c3,c4,c5,c6⟩:=hCo.facts;have f6:=Blk.free0 hCo 6;clear hu;go_wp2_with fail;go_meet;exact⟨by rw[HU.out];exact hCo.s6 _,HBC.out.setCell (p:=⟨gc,6,none⟩) hgc _⟩
   case rest =>
    obtain⟨hC,hbc⟩:=hcut;clear HC HBC HT x0 x1 x2 x3 x4 x5 x6 y0 y1 y2 y3 y4 y5 y6;have HC:=aA hC;have HBC:=aA hbc;clear hC hbc;obtain⟨wq,rfl⟩:∃ wq:World,wq=wc:=⟨_,rfl⟩;have hmk:=Wx wq;go_upto_region 7 with fail
    clear hmk;obtain⟨gk,hgk⟩:∃ gk,gk=wq.heap.size:=⟨_,rfl⟩;obtain⟨W7,hW7⟩:∃ W7,W7=wq.alloc (.cells #[.bool false,.bool false,.bool false,.bool false] 4):=⟨_,rfl⟩;have hb7:aF wq W7:=by rw[hW7];exact aU (Below.refl _ _) _
    have hO7:dP W7 gk false false false false:=by rw[hW7,hgk];exact World.alloc_heap_new _ _
    have hgk2:gc<gk:=by rw[hgk];exact Blk.lt HC.out
    have hgkl:gk<W7.heap.size:=Blk.lt hO7;rw[<-hW7,<-hgk];have hC7:aX W7 gc (max fa fb) (min ta tb) po none 0 0 none 0 0 none 0 0 (fF ua ub):=Blk.keep HC.out hb7;have hX7:aX W7 w.heap.size fa ta pa A na ca B nb cb S ns cs ua:=Blk.keep (Blk.keep HX2.out HBC.out) hb7;have hY7:aX W7 (w.heap.size+1) fb tb pb A' na' ca' B' nb' cb' S' ns' cs' ub:=Blk.keep (Blk.keep HY2.out HBC.out) hb7;have hZ7:aX W7 (w.heap.size+1+1) 0 0 ⟨#[]⟩ none 0 0 none 0 0 none 0 0 0:=Blk.keep (Blk.keep HZ2.out HBC.out) hb7;have hbw7:=aV (aV HBW.out HBC.out) hb7;have hgc2:w.heap.size+1+1<gc:=aB;have hwgk:w.heap.size<=gk:=aB;clear hgk hW7 hb7 HC HBC HX2 HY2 HZ2 HBW HX3 HY3 hz hgc;obtain⟨x0,x1,x2,x3,x4,x5,x6⟩:=hX7.facts;obtain⟨y0,y1,y2,y3,y4,y5,y6⟩:=hY7.facts;go_upto_region 8 with (go_at_call 109;refine (C4.out _ hbw7).mono ?_;rintro e w3 ⟨hb3,S1,q1,rfl,hR,hf⟩;have hC3:=Blk.keep hC7 hb3;have hO3:dP w3 gk false false false false:=Blk.keep hO7 hb3;have e3:=Blk.cell hC3 3;have f3:=Blk.free0 hC3 3;obtain⟨o0,o1,o2,o3⟩:=hO3.facts;have g0:=Blk.free0 hO3 0;have g1:=Blk.free0 hO3 1;have g2:=Blk.free0 hO3 2;have g3:=Blk.free0 hO3 3)
    obtain⟨W8,hW⟩:∃ W,W=(w3.setCell ⟨gc,3,none⟩ (.slice S1 F1.length q1)).setCell ⟨gk,0,none⟩ (.bool k1):=⟨_,rfl⟩;have hC4:aX w3 gc (max fa fb) (min ta tb) po none 0 0 none 0 0 none 0 0 (fF ua ub):=hC3;have hC8:aX W8 gc (max fa fb) (min ta tb) po S1 F1.length q1 none 0 0 none 0 0 (fF ua ub):=by rw[hW];exact (Blk.far (hC4.s3 S1 F1.length q1) ⟨gk,0,none⟩ _ ay)
    have hO8:dP W8 gk k1 false false false:=by rw[hW];exact (dP.s0 ((Blk.far hO3 ⟨gc,3,none⟩ _ ay):dP _ gk false false false false) k1)
    have hX8:aX W8 w.heap.size fa ta pa A na ca B nb cb S ns cs ua:=by rw[hW];exact (Blk.far (Blk.far (Blk.keep hX7 hb3) ⟨gc,3,none⟩ _ ay) ⟨gk,0,none⟩ _ ay)
    have hY8:aX W8 (w.heap.size+1) fb tb pb A' na' ca' B' nb' cb' S' ns' cs' ub:=by rw[hW];exact (Blk.far (Blk.far (Blk.keep hY7 hb3) ⟨gc,3,none⟩ _ ay) ⟨gk,0,none⟩ _ ay)
    have hZ8:aX W8 (w.heap.size+1+1) 0 0 ⟨#[]⟩ none 0 0 none 0 0 none 0 0 0:=by rw[hW];exact (Blk.far (Blk.far (Blk.keep hZ7 hb3) ⟨gc,3,none⟩ _ ay) ⟨gk,0,none⟩ _ ay)
    have hbw8:aF w W8:=by rw[hW];exact (iq (iq (aV hbw7 hb3) ay) ay)
    have hgl:gk<W7.heap.size:=Blk.lt hO7;have hf1:0<F1.length->∀ a,S1=some a->gk<a.block:=fun h a ha=>by have:=hf h a ha;omega
    have hR18:aI W8 1 S1 F1.length (F1.map .string):=by rw[hW];exact (dC (dC hR ⟨gc,3,none⟩ _ (fun h a ha=>jA)) ⟨gk,0,none⟩ _ (fun h a ha=>jA))
    rw[<-hW];clear hW hC3 hC4 hO3 e3 f3 o0 o1 o2 o3 g0 g1 g2 g3 hR hf hb3 x0 x1 x2 x3 x4 x5 x6 y0 y1 y2 y3 y4 y5 y6 hC7 hO7 hX7 hY7 hZ7 hbw7;obtain⟨x0,x1,x2,x3,x4,x5,x6⟩:=hX8.facts;obtain⟨y0,y1,y2,y3,y4,y5,y6⟩:=hY8.facts;go_upto_region 9 with (go_at_call 109;refine (C5.out _ hbw8).mono ?_;rintro e w3 ⟨hb3,S2,q2,rfl,hR,hf⟩;have hC3:=Blk.keep hC8 hb3;have hO3:dP w3 gk k1 false false false:=Blk.keep hO8 hb3;have e3:=Blk.cell hC3 4;have f3:=Blk.free0 hC3 4;obtain⟨o0,o1,o2,o3⟩:=hO3.facts;have g0:=Blk.free0 hO3 0;have g1:=Blk.free0 hO3 1;have g2:=Blk.free0 hO3 2;have g3:=Blk.free0 hO3 3)
    obtain⟨W9,hW⟩:∃ W,W=(w3.setCell ⟨gc,4,none⟩ (.slice S2 F2.length q2)).setCell ⟨gk,1,none⟩ (.bool k2):=⟨_,rfl⟩;have hC4:aX w3 gc (max fa fb) (min ta tb) po S1 F1.length q1 none 0 0 none 0 0 (fF ua ub):=hC3;have hC9:aX W9 gc (max fa fb) (min ta tb) po S1 F1.length q1 S2 F2.length q2 none 0 0 (fF ua ub):=by rw[hW];exact (Blk.far (hC4.s4 S2 F2.length q2) ⟨gk,1,none⟩ _ ay)
    have hO9:dP W9 gk k1 k2 false false:=by rw[hW];exact (dP.s1 ((Blk.far hO3 ⟨gc,4,none⟩ _ ay):dP _ gk k1 false false false) k2)
    have hX9:aX W9 w.heap.size fa ta pa A na ca B nb cb S ns cs ua:=by rw[hW];exact (Blk.far (Blk.far (Blk.keep hX8 hb3) ⟨gc,4,none⟩ _ ay) ⟨gk,1,none⟩ _ ay)
    have hY9:aX W9 (w.heap.size+1) fb tb pb A' na' ca' B' nb' cb' S' ns' cs' ub:=by rw[hW];exact (Blk.far (Blk.far (Blk.keep hY8 hb3) ⟨gc,4,none⟩ _ ay) ⟨gk,1,none⟩ _ ay)
    have hZ9:aX W9 (w.heap.size+1+1) 0 0 ⟨#[]⟩ none 0 0 none 0 0 none 0 0 0:=by rw[hW];exact (Blk.far (Blk.far (Blk.keep hZ8 hb3) ⟨gc,4,none⟩ _ ay) ⟨gk,1,none⟩ _ ay)
    have hbw9:aF w W9:=by rw[hW];exact (iq (iq (aV hbw8 hb3) ay) ay)
    have hgl:gk<W8.heap.size:=Blk.lt hO8;have hf2:0<F2.length->∀ a,S2=some a->gk<a.block:=fun h a ha=>by have:=hf h a ha;omega
    have hR29:aI W9 1 S2 F2.length (F2.map .string):=by rw[hW];exact (dC (dC hR ⟨gc,4,none⟩ _ (fun h a ha=>jk)) ⟨gk,1,none⟩ _ (fun h a ha=>jk))
    have hR19:aI W9 1 S1 F1.length (F1.map .string):=by rw[hW];exact (dC (dC (hR18.keep hb3) ⟨gc,4,none⟩ _ (fun h a ha=>jA)) ⟨gk,1,none⟩ _ (fun h a ha=>jA))
    rw[<-hW];clear hW hC3 hC4 hO3 e3 f3 o0 o1 o2 o3 g0 g1 g2 g3 hR hf hb3 x0 x1 x2 x3 x4 x5 x6 y0 y1 y2 y3 y4 y5 y6 hC8 hO8 hX8 hY8 hZ8 hbw8 hR18;obtain⟨x0,x1,x2,x3,x4,x5,x6⟩:=hX9.facts;obtain⟨y0,y1,y2,y3,y4,y5,y6⟩:=hY9.facts;go_upto_region 11 with (go_at_call 110;refine (C6.out _ hbw9).mono ?_;rintro e w3 ⟨hb3,S3,q3,rfl,hR,hf⟩;have hC3:=Blk.keep hC9 hb3;have hO3:dP w3 gk k1 k2 false false:=Blk.keep hO9 hb3;have e3:=Blk.cell hC3 5;have f3:=Blk.free0 hC3 5;obtain⟨o0,o1,o2,o3⟩:=hO3.facts;have g0:=Blk.free0 hO3 0;have g1:=Blk.free0 hO3 1;have g2:=Blk.free0 hO3 2;have g3:=Blk.free0 hO3 3)
    obtain⟨W11,hW⟩:∃ W,W=((w3.setCell ⟨gc,5,none⟩ (.slice S3 F3.length q3)).setCell ⟨gk,2,none⟩ (.bool k3)).setCell ⟨gk,3,none⟩ (.bool true):=⟨_,rfl⟩;have hC4:aX w3 gc (max fa fb) (min ta tb) po S1 F1.length q1 S2 F2.length q2 none 0 0 (fF ua ub):=hC3;have hC11:aX W11 gc (max fa fb) (min ta tb) po S1 F1.length q1 S2 F2.length q2 S3 F3.length q3 (fF ua ub):=by rw[hW];exact (Blk.far (Blk.far (hC4.s5 S3 F3.length q3) ⟨gk,2,none⟩ _ ay) ⟨gk,3,none⟩ _ ay)
    have hO11:dP W11 gk k1 k2 k3 true:=by rw[hW];exact (dP.s3 (dP.s2 ((Blk.far hO3 ⟨gc,5,none⟩ _ ay):dP _ gk k1 k2 false false) k3) true)
    have hX11:aX W11 w.heap.size fa ta pa A na ca B nb cb S ns cs ua:=by rw[hW];exact (Blk.far (Blk.far (Blk.far (Blk.keep hX9 hb3) ⟨gc,5,none⟩ _ ay) ⟨gk,2,none⟩ _ ay) ⟨gk,3,none⟩ _ ay)
    have hY11:aX W11 (w.heap.size+1) fb tb pb A' na' ca' B' nb' cb' S' ns' cs' ub:=by rw[hW];exact (Blk.far (Blk.far (Blk.far (Blk.keep hY9 hb3) ⟨gc,5,none⟩ _ ay) ⟨gk,2,none⟩ _ ay) ⟨gk,3,none⟩ _ ay)
    have hZ11:aX W11 (w.heap.size+1+1) 0 0 ⟨#[]⟩ none 0 0 none 0 0 none 0 0 0:=by rw[hW];exact (Blk.far (Blk.far (Blk.far (Blk.keep hZ9 hb3) ⟨gc,5,none⟩ _ ay) ⟨gk,2,none⟩ _ ay) ⟨gk,3,none⟩ _ ay)
    have hbw11:aF w W11:=by rw[hW];exact (iq (iq (iq (aV hbw9 hb3) ay) ay) ay)
    have hgl:gk<W9.heap.size:=Blk.lt hO9;have hf3:0<F3.length->∀ a,S3=some a->gk<a.block:=fun h a ha=>by have:=hf h a ha;omega
    have hR311:aI W11 1 S3 F3.length (F3.map (.int .i64)):=by rw[hW];exact (dC (dC (dC hR ⟨gc,5,none⟩ _ (fun h a ha=>kw)) ⟨gk,2,none⟩ _ (fun h a ha=>kw)) ⟨gk,3,none⟩ _ (fun h a ha=>kw))
    have hR111:aI W11 1 S1 F1.length (F1.map .string):=by rw[hW];exact (dC (dC (dC (hR19.keep hb3) ⟨gc,5,none⟩ _ (fun h a ha=>jA)) ⟨gk,2,none⟩ _ (fun h a ha=>jA)) ⟨gk,3,none⟩ _ (fun h a ha=>jA))
    have hR211:aI W11 1 S2 F2.length (F2.map .string):=by rw[hW];exact (dC (dC (dC (hR29.keep hb3) ⟨gc,5,none⟩ _ (fun h a ha=>jk)) ⟨gk,2,none⟩ _ (fun h a ha=>jk)) ⟨gk,3,none⟩ _ (fun h a ha=>jk))
    rw[<-hW];clear hW hC3 hC4 hO3 e3 f3 o0 o1 o2 o3 g0 g1 g2 g3 hR hf hb3 x0 x1 x2 x3 x4 x5 x6 y0 y1 y2 y3 y4 y5 y6 hC9 hO9 hX9 hY9 hZ9 hbw9 hR19 hR29;have HC:=aA hC11;have HO:=aA hO11;have HX:=aA hX11;have HY:=aA hY11;have HZ:=aA hZ11;have HBW:=aA hbw11;have HR1:=aA hR111;have HR2:=aA hR211;have HR3:=aA hR311;obtain⟨x0,x1,x2,x3,x4,x5,x6⟩:=hX11.facts;obtain⟨y0,y1,y2,y3,y4,y5,y6⟩:=hY11.facts;clear hC11 hO11 hX11 hY11 hZ11 hbw11 hR111 hR211 hR311;obtain⟨t2,ht2⟩:∃ t2,t2 = !(decide (pa.size=0)||decide (pb.size=0)):=⟨_,rfl⟩;have HT:=aA ht2;clear ht2;go_cut [96] (fun v wx=>v=.bool t2/\wx=W11)
    case first =>
     have ne:∀ s:aC,s.size≠0->¬ s.toList=[]:=fun s h e=>h zu
     by_cases h1:pa.size=0
     ·obtain rfl:t2=false:=by rw[HT.out];simp[h1]
      obtain rfl:pa=⟨#[]⟩:=Jr h1;clear h1 HT ne;go_wp2_with fail;go_meet;exact⟨rfl,rfl⟩
     have n1:=ne pa h1;have m1:(pa.toList == [])=false:=by simpa using n1
     have m1':(pa.toList != [])=true:=by simpa using n1
     by_cases h2:pb.size=0
     ·obtain rfl:t2=false:=by rw[HT.out];simp[h2]
      obtain rfl:pb=⟨#[]⟩:=Jr h2;clear h1 h2 HT ne;go_wp2_with fail;go_meet;exact⟨rfl,rfl⟩
     have n2:=ne pb h2;have m2:(pb.toList == [])=false:=by simpa using n2
     have m2':(pb.toList != [])=true:=by simpa using n2
     obtain rfl:t2=true:=by rw[HT.out];simp[h1,h2]
     clear h1 h2 HT ne;go_wp2_with fail;go_meet;exact⟨rfl,rfl⟩
    case rest =>
     obtain⟨rfl,rfl⟩:=hcut;go_upto_if 96 with fail
     go_cut [] (fun wx=>aX wx gc (max fa fb) (min ta tb) pm S1 F1.length q1 S2 F2.length q2 S3 F3.length q3 (fF ua ub)/\dP wx gk k1 k2 k3 kp/\aX wx (w.heap.size+1+1) 0 0 ⟨#[]⟩ none 0 0 none 0 0 none 0 0 0/\aI wx 1 S1 F1.length (F1.map .string)/\aI wx 1 S2 F2.length (F2.map .string)/\aI wx 1 S3 F3.length (F3.map (.int .i64))/\aF w wx)
     case first =>
      cases t2
      ·have hor:pa.size=0\/pb.size=0:=by by_cases h1:pa.size=0;exact .inl h1;by_cases h2:pb.size=0;exact .inr h2;have:=HT.out;simp[h1,h2]at this
       have hk:=(PM1.out hor).2;have hp:=PE.out hor;subst hk;subst hp;clear hor HT PM1 PM2 PE x0 x1 x2 x3 x4 x5 x6 y0 y1 y2 y3 y4 y5 y6;go_wp2_with fail;go_meet;exact⟨HC.out,HO.out,HZ.out,HR1.out,HR2.out,HR3.out,HBW.out⟩
      ·have hn1:pa.size≠0:=fun h=>by have:=HT.out;simp[h]at this
       have hn2:pb.size≠0:=fun h=>by have:=HT.out;simp[h]at this
       have c7:=C7.out;rw[PM2.out hn1 hn2]at c7;have K7:=aA c7;clear hn1 hn2 c7 HT PM1 PM2 PE;go_wp2_with (go_at_call 111;refine (K7.out _ HBW.out).mono ?_;rintro e w3 ⟨rfl,hb3⟩;have hC3:aX w3 gc (max fa fb) (min ta tb) po S1 F1.length q1 S2 F2.length q2 S3 F3.length q3 (fF ua ub):=Blk.keep HC.out hb3;have hO3:dP w3 gk k1 k2 k3 true:=Blk.keep HO.out hb3;have e2:=Blk.cell hC3 2;have f2:=Blk.free0 hC3 2;have o3:=Blk.cell hO3 3;have g3:=Blk.free0 hO3 3);go_meet;exact⟨Blk.far (hC3.s2 pm) ⟨gk,3,none⟩ _ ay,dP.s3 (Blk.far hO3 ⟨gc,2,none⟩ _ ay:dP _ gk k1 k2 k3 true) kp,(Blk.far (Blk.far (Blk.keep HZ.out hb3) ⟨gc,2,none⟩ _ ay) ⟨gk,3,none⟩ _ ay),(dC (dC (HR1.out.keep hb3) ⟨gc,2,none⟩ _ (fun h a ha=>jA)) ⟨gk,3,none⟩ _ (fun h a ha=>jA)),(dC (dC (HR2.out.keep hb3) ⟨gc,2,none⟩ _ (fun h a ha=>jk)) ⟨gk,3,none⟩ _ (fun h a ha=>jk)),(dC (dC (HR3.out.keep hb3) ⟨gc,2,none⟩ _ (fun h a ha=>kw)) ⟨gk,3,none⟩ _ (fun h a ha=>kw)),iq (iq (aV HBW.out hb3) ay) ay⟩
     case rest =>
      obtain⟨hC,hO,hZ,hR1,hR2,hR3,hbw⟩:=hcut;clear HC HO HX HY HZ HR1 HR2 HR3 HBW HT PM1 PM2 PE x0 x1 x2 x3 x4 x5 x6 y0 y1 y2 y3 y4 y5 y6;obtain⟨c0,c1,c2,c3,c4,c5,c6⟩:=hC.facts;obtain⟨z0,z1,z2,z3,z4,z5,z6⟩:=hZ.facts;have q00:=Blk.free0 hZ 0;have q10:=Blk.free0 hZ 1;have q20:=Blk.free0 hZ 2;have q30:=Blk.free0 hZ 3;have q40:=Blk.free0 hZ 4;have q50:=Blk.free0 hZ 5;have q60:=Blk.free0 hZ 6;obtain⟨kk,hkk⟩:∃ kk,kk=(k1&&k2&&k3&&kp):=⟨_,rfl⟩;have cC:=fun c=>Wu gk c k1 k2 k3 kp wc hO
      rw[<-hkk]at cC;have hM:=HM.out;rw[<-hkk]at hM;have KC:=aA cC;have HMM:=aA hM;have HZ:=aA hZ;have HR1:=aA hR1;have HR2:=aA hR2;have HR3:=aA hR3;have HBW:=aA hbw;clear cC hM hkk hO hC hZ hR1 hR2 hR3 hbw HM;by_cases ht:max fa fb<min ta tb;rotate_left
      ·have d1:decide (min ta tb<=max fa fb)=true:=decide_eq_true aB;obtain rfl:M=ed:=by rw[HMM.out,decide_eq_false ht];rfl
       exact NE
      have d1:decide (min ta tb<=max fa fb)=false:=decide_eq_false aB;cases kk
      ·obtain rfl:M=ed:=by rw[HMM.out,Bool.and_false];rfl
       exact NE
      ·obtain rfl:M=⟨max fa fb,min ta tb,pm,F1,F2,F3,fF ua ub⟩:=by rw[HMM.out,decide_eq_true ht];rfl
       go_wp2_with (go_at_call 112;refine (KC.out _).mono ?_;rintro e w4 ⟨rfl,rfl⟩);obtain⟨p0,p1,p2,p3,p4,p5,p6⟩:=(HZ.out.put (max fa fb) (min ta tb) pm S1 F1.length q1 S2 F2.length q2 S3 F3.length q3 (fF ua ub)).facts;clear c0 c1 c2 c3 c4 c5 c6 z0 z1 z2 z3 z4 z5 z6 q00 q10 q20 q30 q40 q50 q60;exact bodyPost_ret (v:=.tuple #[.agg #[.int .i64 (max fa fb),.int .i64 (min ta tb),.string pm,.slice S1 F1.length q1,.slice S2 F2.length q2,.slice S3 F3.length q3,.int .i64 (fF ua ub)],.int .i64 0]) NF rfl ⟨Js HBW.out aB _ _ _ _ _ _ _,⟨S1,q1,S2,q2,S3,q3⟩,rfl,⟨(dC (dC (dC (dC (dC (dC (dC HR1.out ⟨w.heap.size+1+1,0,none⟩ _ (fun h a ha=>jA)) ⟨w.heap.size+1+1,1,none⟩ _ (fun h a ha=>jA)) ⟨w.heap.size+1+1,2,none⟩ _ (fun h a ha=>jA)) ⟨w.heap.size+1+1,3,none⟩ _ (fun h a ha=>jA)) ⟨w.heap.size+1+1,4,none⟩ _ (fun h a ha=>jA)) ⟨w.heap.size+1+1,5,none⟩ _ (fun h a ha=>jA)) ⟨w.heap.size+1+1,6,none⟩ _ (fun h a ha=>jA)),(dC (dC (dC (dC (dC (dC (dC HR2.out ⟨w.heap.size+1+1,0,none⟩ _ (fun h a ha=>jk)) ⟨w.heap.size+1+1,1,none⟩ _ (fun h a ha=>jk)) ⟨w.heap.size+1+1,2,none⟩ _ (fun h a ha=>jk)) ⟨w.heap.size+1+1,3,none⟩ _ (fun h a ha=>jk)) ⟨w.heap.size+1+1,4,none⟩ _ (fun h a ha=>jk)) ⟨w.heap.size+1+1,5,none⟩ _ (fun h a ha=>jk)) ⟨w.heap.size+1+1,6,none⟩ _ (fun h a ha=>jk)),(dC (dC (dC (dC (dC (dC (dC HR3.out ⟨w.heap.size+1+1,0,none⟩ _ (fun h a ha=>kw)) ⟨w.heap.size+1+1,1,none⟩ _ (fun h a ha=>kw)) ⟨w.heap.size+1+1,2,none⟩ _ (fun h a ha=>kw)) ⟨w.heap.size+1+1,3,none⟩ _ (fun h a ha=>kw)) ⟨w.heap.size+1+1,4,none⟩ _ (fun h a ha=>kw)) ⟨w.heap.size+1+1,5,none⟩ _ (fun h a ha=>kw)) ⟨w.heap.size+1+1,6,none⟩ _ (fun h a ha=>kw))⟩,⟨fun h a ha=>(by have:=hf1 h a ha;omega),fun h a ha=>(by have:=hf2 h a ha;omega),fun h a ha=>(by have:=hf3 h a ha;omega)⟩⟩
end Go.Proofs.YtlkbkclnbppigaaGreatDoor
