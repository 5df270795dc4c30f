/- The reference of analyse: Gap. -/
import Derived.Test.YticlbkficolocaaGreatDoorIZ40
set_option maxHeartbeats 16000000
namespace Go.Proofs.YticlbkficolocaaGreatDoor
open Go.RowKit Go.Sort
set_option linter.unusedVariables false
set_option linter.unusedSimpArgs false
set_option maxRecDepth 100000
theorem infPat24:(Tryz.prog.info? 77).map (fun i=>(i.zero,i.size,i.bytes))=some (some (.agg #[.string ⟨#[]⟩,.slice none 0 0,.bool false]),3,48):=by kernel_rfl
structure Vb (w:World) (y:U8):Prop where
 r:Uh w y
 t:Ul w y.A y.x.parts.length 9
theorem Vb.keep {w w':World} {y:U8} (h:Vb w y) (hb:Below w.heap.size w w'):Vb w' y:=⟨h.r.keep hb,h.t.keep hb⟩
theorem Vb.grown {W W':World} {base n:Nat} {v:Value} {xs:List Value} {y:U8} (h:Vb W y) (ho:W.ownsRow base 77 3 v n xs) (hg:W.grownBy W' v.ownBlock):Vb W' y:=by
 rcases Nat.eq_zero_or_pos y.x.parts.length with h0 | h0
 ·exact⟨⟨h.r.1,fun h=>absurd h (by omega)⟩,fun h=>absurd h (by omega)⟩
 ·obtain⟨b,o,cs,fr,hA,hB⟩:=h.t h0
  have hbl:b<W.heap.size:=(Array.getElem?_eq_some_iff.1 hB).1
  have hne:some b≠v.ownBlock:=by
   intro he
   obtain⟨cs',hc⟩:=own_cells_type ho he.symm
   have h3:=hB.symm.trans hc
   injection h3 with h3
   injection h3 with _ h3 _
   exact absurd h3 (by decide)
  have hblk:W'.heap[b]? = W.heap[b]?:=hg.block b hbl (by first | exact hne | exact fun e=>hne e.symm)
  refine⟨⟨h.r.1,fun _=>?_⟩,fun _=>⟨b,o,cs,fr,hA,hblk.trans hB⟩⟩
  obtain⟨b',o',hA',hc⟩:=h.r.2 h0
  rw[hA]at hA'
  injection hA' with hA'
  injection hA' with e1 e2 _
  subst e1;subst e2
  exact⟨b,o,hA,fun j u hu=>(World.cell?_of_block hblk).trans (hc j u hu)⟩
theorem cells_new (w:World) (xs:List Value) (t:TypeId) (g:Nat) (hg:g=w.heap.size):∀ j u,xs[j]? = some u→(w.alloc (.cells xs.toArray t)).cell? ((⟨g,0,none⟩:Addr).add j)=some u:=by
 subst hg
 intro j u hu
 rw[show (⟨w.heap.size,0,none⟩:Addr).add j=⟨w.heap.size,j,none⟩ by unfold Addr.add;split <;> simp_all]
 exact (cell_of_row _ _ j _ _ _ (World.alloc_heap_new w _)).trans (by simpa using hu)
def compAll:List ByteArray→Option (List Z7)
 | []=>some []
 | b :: bs=>match Qx b with
  | none=>none
  | some y=>(compAll bs).map (y :: ·)
theorem YK:∀ (bs:List ByteArray) (ys:List Z7),bs.map Qx=ys.map some→compAll bs=some ys
 | [],[],_=>rfl
 | [],_ :: _,h=>by simp at h
 | _ :: _,[],h=>by simp at h
 | b :: bs,y :: ys,h=>by
  rw[List.map_cons,List.map_cons,List.cons.injEq]at h
  rw[compAll,h.1,YK bs ys h.2];rfl
theorem YJ:∀ (bs:List ByteArray) (b:ByteArray),b∈bs→Qx b=none→compAll bs=none
 | [],b,h,_=>by cases h
 | c :: bs,b,h,hb=>by
  rw[compAll]
  rcases List.mem_cons.1 h with rfl | h
  ·rw[hb]
  ·cases Qx c with
   | none=>rfl
   | some y=>rw[YJ bs b h hb];rfl
def Jq (p:ByteArray) (bs:List ByteArray):Bool × Int:=match Qx p with
 | none=>(false,1)
 | some x=>if 64<bs.length then (false,1) else match compAll bs with
  | none=>(false,1)
  | some ys=>((gapN x ys).isSome,0)
theorem gapN_yes {x:Z7} {ys:List Z7} {j:Nat} (h1:x.parts.length≤j) (h2:j≤J7 x) (h:ys.any (fun y=>atB y x j)=false):(gapN x ys).isSome=true:=by
 unfold gapN
 rw[List.find?_isSome]
 refine⟨j,List.mem_range'.2 ⟨j-x.parts.length,by omega,by omega⟩,?_⟩
 rw[List.all_eq_true]
 intro y hy
 have:=List.any_eq_false.1 h y hy
 simpa using this
theorem gapN_no {x:Z7} {ys:List Z7} (h:∀ j,x.parts.length≤j→j≤J7 x→ys.any (fun y=>atB y x j)=true):(gapN x ys).isSome=false:=by
 unfold gapN
 rw[Option.isSome_eq_false_iff,Option.isNone_iff_eq_none,List.find?_eq_none]
 intro j hj
 obtain⟨i,hi,rfl⟩:=List.mem_range'.1 hj
 have h3:=h (x.parts.length+1*i) (by omega) (by omega)
 rw[List.any_eq_true]at h3
 obtain⟨y,hy,hyy⟩:=h3
 rw[List.all_eq_true]
 intro h4
 have:=h4 y hy
 rw[hyy]at this;cases this
structure GaS (w:World) (gx:Nat) (xm:U8) (A:Option Addr) (n:Nat) (bs:List ByteArray) (W:World):Prop where
 k:Qv W w.heap.size 45 #[.bool false,.int .i64 0] (0,0)
 x:Qv W gx 77 #[.string (Qr xm.x.cust),.slice xm.A xm.x.parts.length xm.c,.bool xm.x.tail] (0,0)
 p:Vb W xm
 s:Reads W 1 A n (bs.map .string)
 b:Below w.heap.size w W
theorem GaS.keep {w:World} {gx:Nat} {xm:U8} {A:Option Addr} {n:Nat} {bs:List ByteArray} {W W':World} (h:GaS w gx xm A n bs W) (hb:Below W.heap.size W W'):GaS w gx xm A n bs W':=⟨h.k.keep hb,h.x.keep hb,h.p.keep hb,h.s.keep hb,Qj h.b hb⟩
theorem GaS.facts {w:World} {gx:Nat} {xm:U8} {A:Option Addr} {n:Nat} {bs:List ByteArray} {W:World} (h:GaS w gx xm A n bs W):(W.cell? ⟨w.heap.size,0,none⟩=some (.bool false)∧W.cell? ⟨w.heap.size,1,none⟩=some (.int .i64 0)∧W.frozen? ⟨w.heap.size,0,none⟩=false∧W.frozen? ⟨w.heap.size,1,none⟩=false∧w.heap.size<W.heap.size)∧W.cell? ⟨gx,0,none⟩=some (.string (Qr xm.x.cust))∧W.cell? ⟨gx,1,none⟩=some (.slice xm.A xm.x.parts.length xm.c)∧W.cell? ⟨gx,2,none⟩=some (.bool xm.x.tail)∧gx<W.heap.size :=
 ⟨⟨Qv.cell h.k 0,Qv.cell h.k 1,Qd h.k 0,Qd h.k 1,Qv.lt h.k⟩,Qv.cell h.x 0,Qv.cell h.x 1,Qv.cell h.x 2,Qv.lt h.x⟩
structure GbS (w:World) (gx:Nat) (xm:U8) (A:Option Addr) (n:Nat) (bs:List ByteArray) (L:Option Addr) (M:List U8) (W:World):Prop where
 a:GaS w gx xm A n bs W
 l:Reads W 3 L n (M.flatMap U8.cells)
 e:∀ y∈M,Uh W y
theorem GbS.keep {w:World} {gx:Nat} {xm:U8} {A:Option Addr} {n:Nat} {bs:List ByteArray} {L:Option Addr} {M:List U8} {W W':World} (h:GbS w gx xm A n bs L M W) (hb:RowKit.Below W.heap.size W W'):GbS w gx xm A n bs L M W':=⟨h.a.keep hb,h.l.keep hb,fun y hy=>(h.e y hy).keep hb⟩
theorem Y4 (p:ByteArray) (A:Option Addr) (n c:Nat) (bs:List ByteArray) (w:World) (hp:p.size≤100000) (hR:Reads w 1 A n (bs.map .string)) (hn:n≤1000) (hs:∀ b∈bs,b.size≤100000) :
  Calls Tryz.prog 13 #[.string p,.slice A n c] w (Zx w (.agg #[.bool (Jq p bs).1,.int .i64 (Jq p bs).2])):=by
 have hbl:bs.length=n:=by have:=hR.1;simpa using this
 obtain⟨i0,hi0,hz0,hz1,hz2⟩:=info_parts infPat24
 have HI:=Lib.hid (And.intro hi0 (And.intro hz0 (And.intro hz1 hz2)))
 have cP:=fun W=>rCompileT_any p W hp
 have cB:=fun (b:ByteArray) (hb:b∈bs) W=>rCompileT_any b W (hs b hb)
 obtain⟨V,E,hVE⟩:∃ V E,Jq p bs=(V,E):=⟨_,_,rfl⟩
 rw[hVE]
 show Calls Tryz.prog 13 #[.string p,.slice A n c] w (Zx w (.agg #[.bool V,.int .i64 E]))
 unfold Jq at hVE
 have HR:=Lib.hid hR;have HBL:=Lib.hid hbl;have HCB:=Lib.hid cB
 cases hx:Qx p with
 | none =>
  rw[hx]at hVE cP
  obtain⟨rfl,rfl⟩:false=V∧(1:Int)=E:=by injection hVE with h1 h2;exact⟨h1,h2⟩
  have HC:=Lib.hid cP
  clear cP cB hVE hR hbl hi0 hz0 hz1 hz2 hs hx
  go_enter Tryz.func13,Tryz.ntmps13
  go_upto_region 1 with fail
  generalize hw0:World.alloc _ _=w0
  have hk:Qv w0 w.heap.size 45 #[.bool false,.int .i64 0] (0,0):=by rw[←hw0];exact World.alloc_heap_new w _
  have hb0:Below w.heap.size w w0:=by rw[←hw0];exact Qk (Below.refl _ _) _
  clear hw0
  go_wp2_with (go_at_call 34;refine (HC.out _).mono ?_;rintro e w2 ⟨hb2,rfl⟩;have hk2:=Qv.keep hk hb2;have k0:=Qv.cell hk2 0;have k1:=Qv.cell hk2 1;have g0:=Qd hk2 0;have g1:=Qd hk2 1;have hz:=Qv.lt hk2)
  exact bodyPost_ret (v:=.agg #[.bool false,.int .i64 1]) (by simp[results,Tryz.results13,go_sem,hz,k0,k1,g0,g1]) rfl ⟨rfl,Qz⟩
 | some x =>
  have fx:=Zq hx
  have hx32:=fx.num
  rw[hx]at hVE cP
  dsimp only at hVE
  have HC:Hid (∀ W,Calls Tryz.prog 34 #[.string p] W (fun e w'=>Below W.heap.size W w'∧∃ A c,e=.returned (.tuple #[.agg #[.string (Qr x.cust),.slice A x.parts.length c,.bool x.tail],.bool true])∧Reads w' 1 A x.parts.length ((Zg x.parts).map .string)∧Ul w' A x.parts.length 9)):=Lib.hid cP
  clear cP
  by_cases h64:64<n
  ·rw[hbl,if_pos h64]at hVE
   obtain⟨rfl,rfl⟩:false=V∧(1:Int)=E:=by injection hVE with h1 h2;exact⟨h1,h2⟩
   have d64:decide ((64:Int)<(n:Int))=true:=decide_eq_true (by omega)
   clear cB hVE hR hbl hi0 hz0 hz1 hz2 hs hx
   go_enter Tryz.func13,Tryz.ntmps13
   go_upto_region 1 with fail
   generalize hw0:World.alloc _ _=w0
   have hk:Qv w0 w.heap.size 45 #[.bool false,.int .i64 0] (0,0):=by rw[←hw0];exact World.alloc_heap_new w _
   have hb0:Below w.heap.size w w0:=by rw[←hw0];exact Qk (Below.refl _ _) _
   clear hw0
   go_wp2_with (go_at_call 34;refine (HC.out _).mono ?_;rintro e w2 ⟨hb2,XA,xc,rfl,_,_⟩;have hk2:=Qv.keep hk hb2;have k0:=Qv.cell hk2 0;have k1:=Qv.cell hk2 1;have g0:=Qd hk2 0;have g1:=Qd hk2 1;have hz:=Qv.lt hk2)
   exact bodyPost_ret (v:=.agg #[.bool false,.int .i64 1]) (by simp[results,Tryz.results13,go_sem,hz,k0,k1,g0,g1]) rfl ⟨rfl,Qz⟩
  have d64:decide ((64:Int)<(n:Int))=false:=decide_eq_false (by omega)
  rw[hbl,if_neg h64]at hVE
  have HVE:=Lib.hid hVE;have HFX:=Lib.hid fx
  clear cB hVE hR hbl hi0 hz0 hz1 hz2 hs hx fx h64
  go_enter Tryz.func13,Tryz.ntmps13
  go_upto_region 1 with fail
  generalize hw0:World.alloc _ _=w0
  have hk:Qv w0 w.heap.size 45 #[.bool false,.int .i64 0] (0,0):=by rw[←hw0];exact World.alloc_heap_new w _
  have hb0:Below w.heap.size w w0:=by rw[←hw0];exact Qk (Below.refl _ _) _
  clear hw0
  go_upto_region 4 with (go_at_call 34;refine (HC.out _).mono ?_;rintro e w2 ⟨hb2,XA,xc,rfl,hr2,ht2⟩)
  generalize hw3:World.alloc _ _=w3
  have hb3:Below w2.heap.size w2 w3:=by rw[←hw3];exact Qk (Below.refl _ _) _
  have hS3:GaS w w2.heap.size ⟨x,XA,xc⟩ A n bs w3:=⟨Qv.keep hk (Qj hb2 hb3),by rw[←hw3];exact World.alloc_heap_new w2 _,(Vb.mk hr2 ht2:Vb w2 ⟨x,XA,xc⟩).keep hb3,HR.out.keep (Qj hb0 (Qj hb2 hb3)),Qj hb0 (Qj hb2 hb3)⟩
  have HS3:=Lib.hid hS3
  clear hw3 hS3 hk hb0 hb2 hb3 hr2 ht2 HC HR
  obtain⟨gx,hgx⟩:∃ gx,gx=w2.heap.size:=⟨_,rfl⟩
  rw[←hgx]at HS3 ⊢
  clear hgx
  have HO0:=Lib.hid (show w3.ownsRow w3.heap.size 77 3 (.slice none 0 0) 0 (([]:List U8).flatMap U8.cells) from World.ownsRow_nil _ _ _ _)
  go_wp2_with fail
  go_loopw [7,8] (fun ov iv wr=>∃ (k:Nat) (Bq:Option Addr) (q:Nat) (M:List U8),k≤n∧iv=.int .i64 k∧sampO ov k Bq q∧Hid (wr.ownsRow w3.heap.size 77 3 (.slice Bq k q) k (M.flatMap U8.cells))∧Hid ((bs.take k).map Qx=(M.map (·.x)).map some)∧Hid (∀ y∈M,Vb wr y)∧Hid (GaS w gx ⟨x,XA,xc⟩ A n bs wr)∧Below w3.heap.size w3 wr) (fun _ iv _=>n-(intOf iv).toNat)
  case atStart=>exact⟨0,none,0,[],by omega,rfl,rfl,HO0,Lib.hid rfl,Lib.hid (fun y hy=>by cases hy),HS3,Below.refl _ _⟩
  case round =>
   obtain⟨k,Bq,q,M,hk,rfl,hov,HO,HM,HE,HSr,hb⟩:=hrel
   unfold sampO at hov
   subst hov
   clear HO0
   have hsz:=hb.size
   by_cases hlt:k<n
   ·obtain⟨b,hbk⟩:∃ b,bs[k]? = some b:=⟨_,List.getElem?_eq_getElem (by have:=HBL.out;omega)⟩
    have hbm:=List.mem_of_getElem? hbk
    have hcb:=HCB.out b hbm
    obtain⟨pb,po,rfl,hcell⟩:=HSr.out.s.2 (by omega)
    have c1:wr.cell? ⟨pb,po+k,none⟩=some (.string b):=hcell k _ (by simp[hbk])
    have hk0:(0:Int)≤(k:Int):=by omega
    have hk1:(k:Int)<(n:Int):=by omega
    cases hy:Qx b with
    | none =>
     have hve:=HVE.out
     rw[YJ bs b hbm hy]at hve
     obtain⟨rfl,rfl⟩:false=V∧(1:Int)=E:=by injection hve with h1 h2;exact⟨h1,h2⟩
     rw[hy]at hcb
     have HC:=Lib.hid hcb
     clear hcb hve hcell hbk hbm hy
     go_wp2_with (go_at_call 34;refine (HC.out _).mono ?_;rintro e w4 ⟨hb4,rfl⟩;have hk2:=Qv.keep HSr.out.k hb4;have k0:=Qv.cell hk2 0;have k1:=Qv.cell hk2 1;have g0:=Qd hk2 0;have g1:=Qd hk2 1;have hz:=Qv.lt hk2;have hbw:=Qj HSr.out.b hb4)
     exact bodyPost_ret (v:=.agg #[.bool false,.int .i64 1]) (by simp[results,Tryz.results13,go_sem,hz,k0,k1,g0,g1]) rfl ⟨rfl,Qz⟩
    | some y =>
     rw[hy]at hcb
     have HC:Hid (∀ W,Calls Tryz.prog 34 #[.string b] W (fun e w'=>Below W.heap.size W w'∧∃ A c,e=.returned (.tuple #[.agg #[.string (Qr y.cust),.slice A y.parts.length c,.bool y.tail],.bool true])∧Reads w' 1 A y.parts.length ((Zg y.parts).map .string)∧Ul w' A y.parts.length 9)):=Lib.hid hcb
     have HM2:=Lib.hid (show (bs.take (k+1)).map Qx=((M.map (·.x))++[y]).map some by rw[List.take_add_one,hbk,List.map_append,HM.out,List.map_append];simp[hy])
     clear hcb hcell hbk hbm hy
     go_wp2_with (first
      | (go_at_call 34;refine (HC.out _).mono ?_;rintro e w4 ⟨hb4,YA,yc,rfl,hr4,ht4⟩;have hs4:=hb4.size)
      | (at_builtin;refine wpList_append_own _ rfl _ _ 80 rfl w3.heap.size 77 i0 (.agg #[.string ⟨#[]⟩,.slice none 0 0,.bool false]) 3 48 Tryz.underlying80 HI.out.1 HI.out.2.1 HI.out.2.2.1 HI.out.2.2.2 rfl (by decide) _ _ _ rfl (((Ql HO.out hb4).alloc _).alloc _) ⟨w4.heap.size+1,0,none⟩ 1 1 [.string (Qr y.cust),.slice YA y.parts.length yc,.bool y.tail] rfl rfl (cells_new _ [.string (Qr y.cust),.slice YA y.parts.length yc,.bool y.tail] _ _ (by simp)) (by simp[Value.oneCell']) (by unfold maxLen;omega) (by omega) (by simp;omega) ?_;intro v' w8 hown' hgrow _;obtain⟨g',cap',rfl⟩:=ownsRow_succ hown'))
     have hb8:RowKit.Below w3.heap.size w4 w8:=(((RowKit.Below.refl w3.heap.size w4).alloc (by omega) _).alloc (by simp;omega) _).grown hgrow (by simp;omega) (fun r e=>Qu HO.out r e)
     have ho4:=((Ql HO.out hb4).alloc (.cells #[.string (Qr y.cust),.slice YA y.parts.length yc,.bool y.tail] 77)).alloc (.cells #[.string (Qr y.cust),.slice YA y.parts.length yc,.bool y.tail] 77)
     have hba:RowKit.Below w4.heap.size w4 ((w4.alloc (.cells #[.string (Qr y.cust),.slice YA y.parts.length yc,.bool y.tail] 77)).alloc (.cells #[.string (Qr y.cust),.slice YA y.parts.length yc,.bool y.tail] 77)):=Qk (Qk (RowKit.Below.refl _ _) _) _
     refine⟨⟨k+1,some ⟨g',0,none⟩,cap',M++[⟨y,YA,yc⟩],by omega,by go_num,rfl,Lib.hid (by rw[List.flatMap_append];exact hown'),Lib.hid (by rw[List.map_append];exact HM2.out),Lib.hid (fun z hz=>?_),Lib.hid ?_,(hb.trans (hb4.mono hsz)).trans hb8⟩,by simp[intOf];omega⟩
     ·rcases List.mem_append.1 hz with hz | hz
      ·exact (((HE.out z hz).keep hb4).keep hba).grown ho4 hgrow
      ·rw[List.mem_singleton.1 hz]
       exact ((Vb.mk hr4 ht4:Vb w4 ⟨y,YA,yc⟩).keep hba).grown ho4 hgrow
     ·exact HS3.out.keep ((hb.trans (hb4.mono hsz)).trans hb8)
   ·obtain rfl:k=n:=by omega
    have hmm:=HM.out
    rw[List.take_of_length_le (by have:=HBL.out;omega)]at hmm
    have hve:=HVE.out
    rw[YK bs (M.map (·.x)) hmm]at hve
    obtain⟨hv1,rfl⟩:(gapN x (M.map (·.x))).isSome=V∧(0:Int)=E:=by injection hve with h1 h2;exact⟨h1,h2⟩
    have hml:M.length=k:=by
     have h9:=congrArg List.length hmm
     simp at h9
     have:=HBL.out
     omega
    have hfit:∀ y∈M,Zt y.x:=fun y hy=>by
     have h9:some y.x∈bs.map Qx:=by rw[hmm];exact List.mem_map.2 ⟨y.x,List.mem_map.2 ⟨y,hy,rfl⟩,rfl⟩
     obtain⟨b,_,hb9⟩:=List.mem_map.1 h9
     exact Zq hb9
    have hG:GbS w gx ⟨x,XA,xc⟩ A k bs Bq M wr:=⟨HSr.out,Reads.of_own HO.out,fun y hy=>(HE.out y hy).r⟩
    have HG:=Lib.hid hG;have HV1:=Lib.hid hv1;have HML:=Lib.hid hml;have HFT:=Lib.hid hfit
    have hmost:=most_le HFX.out
    obtain⟨n,hnk⟩:∃ n,n=k:=⟨_,rfl⟩
    obtain⟨ys,hys⟩:∃ ys,ys=M.map (·.x):=⟨_,rfl⟩
    rw[←hys]at HV1
    have HYS:=Lib.hid hys
    obtain⟨_,y0,y1,y2,_⟩:=HG.out.a.facts
    dsimp only at y0 y1 y2
    clear hG hv1 hml hfit hve hmm HVE HSr HE HM HO HS3 hb hsz HCB hys
    subst hnk
    go_upto_if 53 with fail
    go_cut [11] (fun v wx=>v=.int .i64 (J7 x:Int)∧wx=wr)
    case first =>
     have hmp:(J7 x:Int)=if x.tail=true then 32 else (x.parts.length:Int):=by unfold J7;split <;> rfl
     cases htl:x.tail
     ·rw[htl,if_neg (by decide)]at hmp
      have HMP:=Lib.hid hmp
      clear hmp
      go_wp2_with fail
      go_meet
      exact⟨by rw[HMP.out],rfl⟩
     ·rw[htl,if_pos rfl]at hmp
      have HMP:=Lib.hid hmp
      clear hmp
      go_wp2_with fail
      go_meet
      exact⟨by rw[HMP.out],rfl⟩
    case rest =>
     obtain⟨rfl,rfl⟩:=hcut
     obtain⟨mp,hmp⟩:∃ mp,mp=J7 x:=⟨_,rfl⟩
     have HMP:=Lib.hid hmp
     rw[←hmp]at hmost ⊢
     have hxm:x.parts.length≤mp+1:=by
      rw[hmp];unfold J7;split <;> omega
     clear hmp
     go_wp2_with fail
     clear y0 y1 y2
     go_loopw [12] (fun iv wr=>∃ j:Nat,x.parts.length≤j∧j≤mp+1∧iv=.int .i64 j∧Hid (∀ i,x.parts.length≤i→i<j→ys.any (fun y=>atB y x i)=true)∧Hid (GbS w gx ⟨x,XA,xc⟩ A n bs Bq M wr)) (fun iv _=>mp+1-(intOf iv).toNat)
     case atStart=>exact⟨x.parts.length,Nat.le_refl _,hxm,rfl,Lib.hid (fun i h1 h2=>absurd h1 (by omega)),HG⟩
     case round =>
      obtain⟨j,hxj,hjm,rfl,HJ,HGj⟩:=hrel
      clear HG
      obtain⟨wo,hwo⟩:∃ wo:World,wo=wr:=⟨_,rfl⟩
      by_cases hle:j≤mp
      ·have d1:decide ((j:Int)≤(mp:Int))=true:=decide_eq_true (by omega)
       go_wp2_with fail
       clear hwo
       go_loopw [13,14] (fun mv iv wr=>∃ (i:Nat) (mt:Bool),i≤n∧iv=.int .i64 i∧mv=.bool mt∧Hid (mt=(ys.take i).any (fun y=>atB y x j))∧Hid (GbS w gx ⟨x,XA,xc⟩ A n bs Bq M wr)) (fun _ iv _=>n-(intOf iv).toNat)
       case atStart=>exact⟨0,false,by omega,rfl,rfl,Lib.hid rfl,HGj⟩
       case round =>
        obtain⟨i,mt,hin,rfl,rfl,HMT,HGi⟩:=hrel
        by_cases hil:i<n
        ·obtain⟨y,hy⟩:∃ y,M[i]? = some y:=⟨_,List.getElem?_eq_getElem (by have:=HML.out;omega)⟩
         have hym:=List.mem_of_getElem? hy
         obtain⟨lb,lo,rfl,_⟩:=HGi.out.l.2 (by omega)
         have hcl:∀ W,GbS w gx ⟨x,XA,xc⟩ A n bs (some ⟨lb,lo,none⟩) M W→W.cell? ⟨lb,lo+i*3,none⟩=some (.string (Qr y.x.cust))∧W.cell? ⟨lb,lo+i*3+1,none⟩=some (.slice y.A y.x.parts.length y.c)∧W.cell? ⟨lb,lo+i*3+2,none⟩=some (.bool y.x.tail)∧W.cell? ⟨gx,0,none⟩=some (.string (Qr x.cust))∧W.cell? ⟨gx,1,none⟩=some (.slice XA x.parts.length xc)∧W.cell? ⟨gx,2,none⟩=some (.bool x.tail):=fun W hS=>by
          obtain⟨b',o',he,hc⟩:=Reads.row hS.l (fun a _=>a.cells_len) HML.out hy
          injection he with he
          injection he with e1 e2 _
          subst e1;subst e2
          obtain⟨_,f0,f1,f2,_⟩:=hS.a.facts
          exact⟨hc 0 _ rfl,hc 1 _ rfl,hc 2 _ rfl,f0,f1,f2⟩
         have hat:=fun W (hS:GbS w gx ⟨x,XA,xc⟩ A n bs (some ⟨lb,lo,none⟩) M W)=>rAt24_any y ⟨x,XA,xc⟩ j W (hS.e y hym) hS.a.p.r (HFT.out y hym) HFX.out (by omega) hxj
         have htk:ys.take (i+1)=ys.take i++[y.x]:=by rw[HYS.out,List.take_add_one,List.getElem?_map,hy];rfl
         obtain⟨at1,ha1⟩:∃ at1,at1=atB y.x x j:=⟨_,rfl⟩
         have hat2:∀ W,GbS w gx ⟨x,XA,xc⟩ A n bs (some ⟨lb,lo,none⟩) M W→Calls Tryz.prog 35 #[.agg #[.string (Qr y.x.cust),.slice y.A y.x.parts.length y.c,.bool y.x.tail],.agg #[.string (Qr x.cust),.slice XA x.parts.length xc,.bool x.tail],.int .i64 (j:Int)] W (Zx W (.bool at1)):=fun W hS=>by rw[ha1];exact hat W hS
         have hnx:(mt||at1)=(ys.take (i+1)).any (fun y=>atB y x j):=by rw[htk,List.any_append,←HMT.out,ha1];simp
         have HCL:=Lib.hid hcl;have HAT:=Lib.hid hat2;have HNX:=Lib.hid hnx
         clear hcl hat hat2 htk ha1 hnx hy hym HMT
         have hi0:(0:Int)≤(i:Int):=by omega
         have hi1:(i:Int)<(n:Int):=by omega
         go_upto_region 22 with fail
         cases mt
         ·skip
          refine Xo 10 (by kernel_rfl) (by kernel_rfl) (by kernel_rfl) (fun q9=>[.bool false,.bool false,.slice (some ⟨lb,lo,none⟩) n q,.int .i64 i,.pointer (some ⟨lb,lo+i*3,none⟩),.agg #[.string (Qr y.x.cust),.slice y.A y.x.parts.length y.c,.bool y.x.tail],.agg #[.string (Qr x.cust),.slice XA x.parts.length xc,.bool x.tail],.int .i64 j,.bool at1,.bool at1].getD q9 undef) (GbS w gx ⟨x,XA,xc⟩ A n bs (some ⟨lb,lo,none⟩) M) (HGi.out.keep (RowKit.Below.drew (RowKit.Below.refl _ _))) (fun _ _ h hb=>h.keep hb) ?_ ?_
          ·simp only[QU,Zj,Act.put]
           refine⟨fun W hS=>?_,fun W hS=>?_,fun W hS=>?_,fun W hS=>?_,fun W hS=>?_,fun W hS=>?_,fun W hS=>?_,fun W hS=>?_,fun W hS=>?_,fun W hS=>?_,trivial⟩
           rotate_left 8
           ·go_wp2_with (go_at_call 35;refine (HAT.out _ hS).mono ?_;rintro e w2 ⟨rfl,hb2⟩)
            exact⟨rfl,rfl,Qz⟩
           all_goals
            obtain⟨e1,e2,e3,e4,e5,e6⟩:=HCL.out W hS
            go_wp2
            exact⟨rfl,rfl,Qz⟩
          intro w9 hS9
          have HS9:=Lib.hid hS9
          clear hS9
          simp only[QU,Zj,Act.put]
          go_wp2
          exact⟨⟨i+1,at1,by omega,by go_num,rfl,Lib.hid (by rw[←HNX.out];rfl),HS9⟩,by simp[intOf];omega⟩
         ·skip
          refine Xo 10 (by kernel_rfl) (by kernel_rfl) (by kernel_rfl) (fun q9=>[.bool true,.bool true,undef,undef,undef,undef,undef,undef,undef,.bool true].getD q9 undef) (GbS w gx ⟨x,XA,xc⟩ A n bs (some ⟨lb,lo,none⟩) M) (HGi.out.keep (RowKit.Below.drew (RowKit.Below.refl _ _))) (fun _ _ h hb=>h.keep hb) ?_ ?_
          ·simp only[QU,Zj,Act.put]
           refine⟨fun W hS=>?_,fun W hS=>?_,fun W hS=>?_,fun W hS=>?_,fun W hS=>?_,fun W hS=>?_,fun W hS=>?_,fun W hS=>?_,fun W hS=>?_,fun W hS=>?_,trivial⟩
           all_goals
            skip
            go_wp2
            exact⟨rfl,rfl,Qz⟩
          intro w9 hS9
          have HS9:=Lib.hid hS9
          clear hS9
          simp only[QU,Zj,Act.put]
          go_wp2
          exact⟨⟨i+1,true,by omega,by go_num,rfl,Lib.hid (by rw[←HNX.out];rfl),HS9⟩,by simp[intOf];omega⟩
        ·obtain rfl:i=n:=by omega
         have hmt:=HMT.out
         rw[List.take_of_length_le (by rw[HYS.out,List.length_map];have:=HML.out;omega)]at hmt
         cases mt
         ·obtain rfl:V=true:=by
           rw[←HV1.out]
           exact gapN_yes hxj (by rw[←HMP.out];exact hle) hmt.symm
          obtain⟨⟨k0,k1,g0,g1,hz⟩,_⟩:=HGi.out.a.facts
          have hbr:=HGi.out.a.b
          clear hmt HMT HV1
          go_wp2_with fail
          exact bodyPost_ret (v:=.agg #[.bool true,.int .i64 0]) (by simp[results,Tryz.results13,go_sem,hz,k0,k1,g0,g1]) rfl ⟨rfl,Qz⟩
         ·have HJ2:Hid (∀ i,x.parts.length≤i→i<j+1→ys.any (fun y=>atB y x i)=true):=Lib.hid (fun t h1 h2=>by
           rcases Nat.lt_succ_iff_lt_or_eq.1 h2 with h3 | h3
           ·exact HJ.out t h1 h3
           ·subst h3;exact hmt.symm)
          clear hmt HMT
          go_wp2_with fail
          exact⟨⟨j+1,by omega,by omega,by go_num,HJ2,HGi⟩,by simp[intOf];omega⟩
      ·have d1:decide ((j:Int)≤(mp:Int))=false:=decide_eq_false (by omega)
       obtain rfl:V=false:=by
        rw[←HV1.out]
        exact gapN_no (fun t h1 h2=>HJ.out t h1 (by rw[←HMP.out]at h2;omega))
       obtain⟨⟨k0,k1,g0,g1,hz⟩,_⟩:=HGj.out.a.facts
       have hbr:=HGj.out.a.b
       clear HJ HV1 hwo
       go_wp2_with fail
       exact bodyPost_ret (v:=.agg #[.bool false,.int .i64 0]) (by simp[results,Tryz.results13,go_sem,hz,k0,k1,g0,g1]) rfl ⟨rfl,Qz⟩
structure WrS (w:World) (A:Option Addr) (n:Nat) (L:List Qo) (B:Option Addr) (xs:List ByteArray) (W:World):Prop where
 l:QX W A n L
 r:Reads W 1 B n (xs.map .string)
 b:Below w.heap.size w W
theorem WrS.keep {w:World} {A:Option Addr} {n:Nat} {L:List Qo} {B:Option Addr} {xs:List ByteArray} {W W':World} (h:WrS w A n L B xs W) (hb:Below W.heap.size W W'):WrS w A n L B xs W':=⟨h.l.keep hb,h.r.keep hb,Qj h.b hb⟩
theorem rWritten23_any (A:Option Addr) (n c:Nat) (L:List Qo) (B:Option Addr) (d:Nat) (xs:List ByteArray) (w:World) (hL:QX w A n L) (hR:Reads w 1 B n (xs.map .string)) (hf:∀ x∈L,Xi x.v) (hx:∀ x∈xs,x.size≤200) (hn:n≤10) :
  Calls Tryz.prog 144 #[.slice A n c,.slice B n d] w (Zx w (.string (Yz 38 (List.zipWith kpB (L.map (·.v)) xs)))):=by
 have hl:L.length=n:=hL.len
 have hxl:xs.length=n:=by have:=hR.1;simp at this;omega
 obtain⟨ps,hps⟩:∃ ps,ps=List.zipWith kpB (L.map (·.v)) xs:=⟨_,rfl⟩
 have hpl:ps.length=n:=by rw[hps];simp;omega
 have hpz:∀ p∈ps,p.size≤801:=by
  intro p hp
  rw[hps]at hp
  obtain⟨v,hv,x,hxx,rfl⟩:=mem_zip _ _ _ hp
  obtain⟨y,hy,rfl⟩:=List.mem_map.1 hv
  have h1:=kpB_size y.v x
  have h2:=(hf y hy).h
  have h3:=hx x hxx
  omega
 have hpk:∀ (k:Nat) (y:Qo) (x:ByteArray),L[k]? = some y→xs[k]? = some x→ps[k]? = some (kpB y.v x):=fun k y x h1 h2=>by rw[hps,List.getElem?_zipWith,List.getElem?_map,h1,h2];rfl
 obtain⟨V,hV⟩:∃ V,V=Yz 38 ps:=⟨_,rfl⟩
 rw[←hps,←hV]
 have cE:=fun (x:ByteArray) (h:x∈xs) (W:World)=>rEscaped23_any x W (by have:=hx x h;omega)
 have hsz:∀ k,(Yz 38 (ps.take k)).size≤9000:=fun k=>by
  have h1:=join_most 38 801 ((ps.take k).map (·.data.toList)) (by
   intro y hy
   obtain⟨p,hp,rfl⟩:=List.mem_map.1 hy
   have:=hpz p (List.mem_of_mem_take hp)
   rw[Lib.size_eq]at this;exact this)
  have h2:((ps.take k).map (·.data.toList)).length≤10:=by simp;omega
  have h3:(Yz 38 (ps.take k)).size=(Lib.join ((ps.take k).map (·.data.toList)) [38]).length:=by unfold Yz;rfl
  have h4:=Nat.mul_le_mul_right 802 h2
  omega
 have hS0:WrS w A n L B xs w:=⟨hL,hR,Below.refl _ _⟩
 have HS:=Lib.hid hS0;have HLN:=Lib.hid hl;have HXL:=Lib.hid hxl;have HPL:=Lib.hid hpl;have HPK:=Lib.hid hpk;have HV:=Lib.hid hV;have HE:=Lib.hid cE;have HSZ:=Lib.hid hsz;have HXZ:=Lib.hid hx;have HF:=Lib.hid hf
 clear hL hR hf hx hl hxl hps hpl hpz hpk hV cE hsz hS0
 go_enter Tryz.func144,Tryz.ntmps144
 go_wp2_with fail
 go_loopw [5,6] (fun ov iv wr=>∃ (k:Nat) (acc:ByteArray),k≤n∧iv=.int .i64 k∧ov=.string acc∧Hid (acc=Yz 38 (ps.take k))∧Hid (WrS w A n L B xs wr)) (fun _ iv _=>n-(intOf iv).toNat)
 case atStart=>exact⟨0,⟨#[]⟩,by omega,rfl,rfl,Lib.hid rfl,HS⟩
 case round =>
  obtain⟨k,acc,hk,rfl,rfl,HA,HSr⟩:=hrel
  clear HS
  have hz:acc.size≤9000:=by rw[HA.out];exact HSZ.out k
  by_cases hlt:k<n
  ·obtain⟨y,hy⟩:∃ y,L[k]? = some y:=⟨_,List.getElem?_eq_getElem (by have:=HLN.out;omega)⟩
   obtain⟨x,hx⟩:∃ x,xs[k]? = some x:=⟨_,List.getElem?_eq_getElem (by have:=HXL.out;omega)⟩
   have hst:=sepT_step 38 ps k _ (HPK.out k y x hy hx)
   obtain⟨acc1,ha1⟩:∃ acc1:ByteArray,acc1=if k=0 then acc else acc++⟨#[38]⟩:=⟨_,rfl⟩
   have hz1:acc1.size≤9001:=by
    rw[ha1];split
    ·omega
    ·rw[Ug];have:(⟨#[38]⟩:ByteArray).size=1:=rfl;omega
   have hnext:Yz 38 (ps.take (k+1))=((acc1++y.v.header)++⟨#[61]⟩)++Zd (Jy x.data.toList):=by
    rw[hst,ha1]
    split
    ·rename_i h0
     subst h0
     rw[HA.out]
     refine Qm ?_
     unfold kpB
     simp only[Vx,List.take_zero]
     rfl
    ·rw[HA.out]
     refine Qm ?_
     unfold kpB
     simp only[Vx,List.append_assoc]
   have hxm:=List.mem_of_getElem? hx
   have hym:=List.mem_of_getElem? hy
   have hhz:=(HF.out y hym).h
   have hcE:=HE.out x hxm
   have hez:(Zd (Jy x.data.toList)).size≤600:=by
    rw[Xw]
    have h1:=Yp x.data.toList
    have h2:=HXZ.out x hxm
    rw[Lib.size_eq]at h2
    omega
   obtain⟨_,ab,ao,rfl,_⟩:=HSr.out.l.at_ hy
   obtain⟨bb,bo,rfl,_⟩:=HSr.out.r.2 (by omega)
   have hcl:∀ W,WrS w (some ⟨ab,ao,none⟩) n L (some ⟨bb,bo,none⟩) xs W→W.cell? ⟨ab,ao+k*3,none⟩=some (.string y.v.header)∧W.cell? ⟨bb,bo+k,none⟩=some (.string x):=fun W hS=>by
    obtain⟨_,b',o',he,hc⟩:=hS.l.at_ hy
    injection he with he
    injection he with he1 he2
    subst he1;subst he2
    obtain⟨b',o',he,hc2⟩:=hS.r.2 (by omega)
    injection he with he
    injection he with he1 he2
    subst he1;subst he2
    exact⟨hc 0 _ rfl,hc2 k _ (by simp[hx])⟩
   have HCL:=Lib.hid hcl;have HNX:=Lib.hid hnext;have HCE:=Lib.hid hcE;have HA1:=Lib.hid ha1
   clear hcl hnext hst hcE hx hy hxm hym ha1
   have hk0:(0:Int)≤(k:Int):=by omega
   have hk1:(k:Int)<(n:Int):=by omega
   generalize Zd (Jy x.data.toList)=ex at *
   generalize y.v.header=hd at *
   go_upto_if 14 with fail
   go_cut [5] (fun v wx=>v=.string acc1∧wx=wr)
   case first =>
    by_cases h0:k=0
    ·have d0:decide ((0:Int)<(k:Int))=false:=decide_eq_false (by omega)
     have d1:decide (0<k)=false:=decide_eq_false (by omega)
     have d2:¬ 0<k:=by omega
     have he:acc1=acc:=by rw[HA1.out,if_pos h0]
     have HEE:=Lib.hid he
     clear h0 he
     go_wp2_with fail
     go_meet
     exact⟨by rw[HEE.out],rfl⟩
    ·have d0:decide ((0:Int)<(k:Int))=true:=decide_eq_true (by omega)
     have d1:decide (0<k)=true:=decide_eq_true (by omega)
     have d2:0<k:=by omega
     have he:acc1=acc++⟨#[38]⟩:=by rw[HA1.out,if_neg h0]
     have z1:(acc++⟨#[38]⟩).size=acc.size+1:=Ug _ _
     have HEE:=Lib.hid he
     clear h0 he
     go_wp2_with fail
     go_meet
     exact⟨by rw[HEE.out],rfl⟩
   case rest =>
    obtain⟨rfl,rfl⟩:=hcut
    have z1:(acc1++hd).size=acc1.size+hd.size:=Ug _ _
    have z2:((acc1++hd)++⟨#[61]⟩).size=acc1.size+hd.size+1:=by rw[Ug,z1];rfl
    have z3:(((acc1++hd)++⟨#[61]⟩)++ex).size=acc1.size+hd.size+1+ex.size:=by rw[Ug,z2]
    go_upto_region 7 with fail
    refine Xo 14 (by kernel_rfl) (by kernel_rfl) (by kernel_rfl) (fun q=>[.string acc1,.slice (some ⟨ab,ao,none⟩) n c,.int .i64 k,.pointer (some ⟨ab,ao+k*3,none⟩),.pointer (some ⟨ab,ao+k*3,none⟩),.string hd,.string (acc1++hd),.string ((acc1++hd)++⟨#[61]⟩),.slice (some ⟨bb,bo,none⟩) n d,.int .i64 k,.pointer (some ⟨bb,bo+k,none⟩),.string x,.string ex,.string (((acc1++hd)++⟨#[61]⟩)++ex)].getD q undef) (WrS w (some ⟨ab,ao,none⟩) n L (some ⟨bb,bo,none⟩) xs) (HSr.out.keep (Below.drew (Below.refl _ _))) (fun _ _ h hb=>h.keep hb) ?_ ?_
    ·simp only[QU,Zj,Act.put]
     refine⟨fun W hS=>?_,fun W hS=>?_,fun W hS=>?_,fun W hS=>?_,fun W hS=>?_,fun W hS=>?_,fun W hS=>?_,fun W hS=>?_,fun W hS=>?_,fun W hS=>?_,fun W hS=>?_,fun W hS=>?_,fun W hS=>?_,fun W hS=>?_,trivial⟩
     all_goals
      obtain⟨y1,y2⟩:=HCL.out W hS
      go_wp2_with (go_at_call 180;refine (HCE.out _).mono ?_;rintro e w2 ⟨rfl,hb2⟩)
      exact⟨rfl,rfl,Qz⟩
    intro w9 hS9
    have HS9:=Lib.hid hS9
    clear hS9
    simp only[QU,Zj,Act.put]
    go_wp2
    exact⟨⟨k+1,_,by omega,by go_num,rfl,Lib.hid HNX.out.symm,HS9⟩,by simp[intOf];omega⟩
  ·have hVe:V=acc:=by rw[HV.out,HA.out,List.take_of_length_le (by have:=HPL.out;omega)]
   subst hVe
   have hbr:=HSr.out.b
   go_wp2_with fail
   go_ret
   exact⟨rfl,hbr⟩
theorem rKey23_any (A:Option Addr) (n c:Nat) (L:List Qo) (HA:Option Addr) (m d:Nat) (H:List Hdr) (w:World) (hL:QX w A n L) (hH:X4 w HA m H) (hf:∀ x∈L,Xi x.v) (hn:n≤10) (hm:m≤1000) :
  Calls Tryz.prog 87 #[.slice A n c,.slice HA m d] w (Zx w (.string (keyB (L.map (·.v)) H))):=by
 have hl:L.length=n:=hL.len
 obtain⟨i0,hi0,hz0,hz1,hz2⟩:=info_parts V4
 have HI:=Lib.hid (And.intro hi0 (And.intro hz0 (And.intro hz1 hz2)))
 obtain⟨ps,hps⟩:∃ ps,ps=L.map fun y=>ZK y.v H:=⟨_,rfl⟩
 have hpl:ps.length=n:=by rw[hps,List.length_map];exact hl
 have hpk:∀ (k:Nat) (y:Qo),L[k]? = some y→ps[k]? = some (ZK y.v H):=fun k y h1=>by rw[hps,List.getElem?_map,h1];rfl
 have hpz:∀ p∈ps,p.size≤200:=by
  intro p hp
  rw[hps]at hp
  obtain⟨y,hy,rfl⟩:=List.mem_map.1 hp
  exact value_size _ _ (hf y hy)
 have cV:=fun (y:Qo) (hy:y∈L) (W:World) (hb:Below w.heap.size w W)=>rValueOf23_any y HA m d H W (hH.keep hb) (Zr.keep (hL.each y hy) hb) hm (by have:=(hf y hy).n;omega)
 have cK:=fun (W:World) (hb:Below w.heap.size w W) (B:Option Addr) (d2:Nat) (hR:Reads W 1 B n (ps.map .string))=>rWritten23_any A n c L B d2 ps W (hL.keep hb) hR hf hpz hn
 have hke:Yz 38 (List.zipWith kpB (L.map (·.v)) ps)=keyB (L.map (·.v)) H:=by
  unfold keyB
  rw[hps,List.map_map];rfl
 rw[hke]at cK
 generalize keyB (L.map (·.v)) H=V at *
 have HL:=Lib.hid hL;have HLN:=Lib.hid hl;have HPL:=Lib.hid hpl;have HPK:=Lib.hid hpk;have HV:=Lib.hid cV;have HK:=Lib.hid cK
 clear hi0 hz0 hz1 hz2 hL hH hf hl hps hpl hpz hpk cV cK hke
 go_enter Tryz.func87,Tryz.ntmps87
 go_wp2_with fail
 go_loopw [5,6] (fun ov iv wr=>∃ (k:Nat) (B:Option Addr) (q:Nat),k≤n∧iv=.int .i64 k∧ov=.slice B k q∧Hid (wr.ownsRow w.heap.size 9 1 (.slice B k q) k ((ps.take k).map .string))∧Below w.heap.size w wr) (fun _ iv _=>n-(intOf iv).toNat)
 case atStart=>exact⟨0,none,0,by omega,rfl,rfl,Lib.hid (World.ownsRow_nil _ _ _ _),Below.refl _ _⟩
 case round =>
  obtain⟨k,B,q,hk,rfl,rfl,HO,hbr⟩:=hrel
  by_cases hlt:k<n
  ·obtain⟨y,hy⟩:∃ y,L[k]? = some y:=⟨_,List.getElem?_eq_getElem (by have:=HLN.out;omega)⟩
   have hpk:=HPK.out k y hy
   have htk:ps.take (k+1)=ps.take k++[ZK y.v H]:=by rw[List.take_add_one,hpk];rfl
   have hval:=HV.out y (List.mem_of_getElem? hy)
   obtain⟨_,b,o,rfl,hcell⟩:=(HL.out.keep hbr).at_ hy
   have hld:=Jf wr b (o+k*3) y hcell
   unfold Qo.val at hld hval
   generalize y.cells.toArray=X at *
   generalize ZK y.v H=vv at *
   have HLD:=Lib.hid hld;have HVA:=Lib.hid hval;have HTK:=Lib.hid htk
   clear hld hval hcell hy hpk htk
   have hk0:(0:Int)≤(k:Int):=by omega
   have hk1:(k:Int)<(n:Int):=by omega
   have hsr:=hbr.size
   go_wp2_with (first | (refine Qw rfl 98 _ rfl ⟨b,o+k*3,none⟩ (.agg X) rfl HLD.out ?_) | (go_at_call 143;refine (HVA.out _ hbr).mono ?_;rintro e w7 ⟨rfl,hb7⟩;have hs7:=hb7.size) | (at_builtin;refine wpList_append_own _ rfl _ _ 22 rfl w.heap.size 9 i0 (.string ⟨#[]⟩) 1 16 Tryz.underlying22 HI.out.1 HI.out.2.1 HI.out.2.2.1 HI.out.2.2.2 rfl (by decide) _ _ _ rfl ((Ql HO.out hb7).alloc _) ⟨w7.heap.size,0,none⟩ 1 1 [.string vv] rfl rfl (Vz _ _ _ _ rfl) (by simp[Value.oneCell']) (by unfold maxLen;omega) (by omega) (by simp;omega) ?_;intro v' w8 hown' hgrow _;obtain⟨g',cap',rfl⟩:=ownsRow_succ hown'))
   have hb8:RowKit.Below w.heap.size w7 w8:=((RowKit.Below.refl w.heap.size w7).alloc (by omega) _).grown hgrow (by simp;omega) (fun r e=>Qu HO.out r e)
   exact⟨⟨k+1,some ⟨g',0,none⟩,cap',by omega,by go_num,rfl,Lib.hid (by rw[HTK.out,List.map_append];exact hown'),(Qj hbr hb7).trans hb8⟩,by simp[intOf];omega⟩
  ·obtain rfl:k=n:=by omega
   have hown:=HO.out
   rw[List.take_of_length_le (by have:=HPL.out;omega)]at hown
   have hj:=HK.out wr hbr B q (Reads.of_own hown)
   have HJ:=Lib.hid hj
   clear hj hown HO
   go_wp2_with (go_at_call 144;refine HJ.out.mono ?_;rintro e w4 ⟨rfl,hb4⟩)
   go_ret
   exact⟨rfl,Qj hbr hb4⟩
end Go.Proofs.YticlbkficolocaaGreatDoor
