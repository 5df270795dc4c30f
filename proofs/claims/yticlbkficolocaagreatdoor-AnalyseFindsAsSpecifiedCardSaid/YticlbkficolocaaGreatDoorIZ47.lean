/- The reference of analyse: Unruled. -/
import Derived.Test.YticlbkficolocaaGreatDoorIZ45
import Derived.Test.YticlbkficolocaaGreatDoorIZ46
set_option maxHeartbeats 8000000
namespace Go.Proofs.YticlbkficolocaaGreatDoor
open Go.RowKit Go.Sort
set_option linter.unusedVariables false
set_option linter.unusedSimpArgs false
set_option maxRecDepth 100000
theorem infPolUR:(Tryz.prog.info? 25).map (·.size)=some 3:=by kernel_rfl
theorem unPolR {W:World} {g:Nat} {cust:ByteArray} {party:Int} {A:Option Addr} {n c:Nat} (h:Zl W g 25 #[.string cust,.int .i64 party,.slice A n c]):(loadVar 25 ⟨g,0,none⟩).run Tryz.prog W=.ok (.agg #[.string cust,.int .i64 party,.slice A n c]) W :=
 run_loadVar_row (P:=Tryz.prog) W g _ 25 _ _ _ h Tryz.underlying25 rfl infPolUR
theorem box1_low {B:Nat} {W W':World} {g:Nat} {t:TypeId} {X:Array Value} (h:Zl W g t X) (hb:RowKit.Below B W W') (hg:g<B):Zl W' g t X:=(hb.block g hg).trans h
theorem blk_low {B:Nat} {W W':World} {g:Nat} {t:TypeId} {X:Array Value} (h:Qv W g t X (0,0)) (hb:RowKit.Below B W W') (hg:g<B):Qv W' g t X (0,0):=(hb.block g hg).trans h
def unRef (cust:ByteArray) (party:Int) (L:List Qh):Bool × Int:=if Ju cust party (L.map (·.r))=0 then Jq (Ut cust) (KX L L.length) else (false,1)
theorem unrK_size {L:List Qh} (hf:∀ x∈L,Zw x.r) (k:Nat):∀ q∈KX L k,q.size≤300:=fun q hq=>by
 unfold KX at hq
 obtain⟨y,hy,rfl⟩:=List.mem_map.1 hq
 have hyl:=List.mem_of_mem_take (List.mem_filter.1 hy).1
 have:=(hf y hyl).pat
 omega
theorem rUnruled24_any (cust:ByteArray) (party:Int) (A:Option Addr) (n c:Nat) (L:List Qh) (w:World) (hL:Qs w A n L) (hf:∀ x∈L,Zw x.r) (hn:n≤1000) (hcs:cust.size≤100) :
  Calls Tryz.prog 16 #[polV cust party A n c] w (Zx w (.agg #[.bool (unRef cust party L).1,.int .i64 (unRef cust party L).2])):=by
 have hlen:=hL.len
 have cC:=fun (W:World) (hb:Below w.heap.size w W)=>rCheck22_any cust party A n c L W (hL.keep hb) hf (by omega)
 unfold polV at cC ⊢
 obtain⟨i0,hi0,hz0,hz1,hz2⟩:=info_parts V4
 have HI:=Lib.hid (And.intro hi0 (And.intro hz0 (And.intro hz1 hz2)))
 clear hi0 hz0 hz1 hz2
 have hgap:=fun (W:World) (B:Option Addr) (d:Nat) (hR:Reads W 1 B (KX L n).length ((KX L n).map .string))=>Y4 (Ut cust) B (KX L n).length d (KX L n) W (by unfold Ut;rw[ByteArray.size_append];have:(⟨#[47,42,42]⟩:ByteArray).size=3:=rfl;omega) hR (by have:=unrK_len L n;omega) (fun q hq=>by have:=unrK_size hf n q hq;omega)
 obtain⟨R,hR⟩:∃ R,R=unRef cust party L:=⟨_,rfl⟩
 rw[←hR]
 unfold unRef at hR
 rw[hlen]at hR
 obtain⟨q,hq⟩:∃ q,q=Ju cust party (L.map (·.r)):=⟨_,rfl⟩
 rw[←hq]at cC hR
 have HC:=Lib.hid cC;have HG:=Lib.hid hgap;have HL:=Lib.hid hL;have HLN:=Lib.hid hlen
 clear cC hgap hL hf hlen hq
 by_cases h0:q=0
 rotate_left
 ·rw[if_neg h0]at hR
  subst hR
  have e1:(q==0)=false:=beq_eq_false_iff_ne.2 h0
  have e2:(q != 0)=true:=bne_iff_ne.2 h0
  go_enter Tryz.func16,Tryz.ntmps16
  go_upto_region 1 with fail
  generalize hw0:World.alloc _ _=w0
  have hk:Qv w0 (w.heap.size+1) 45 #[.bool false,.int .i64 0] (0,0):=by rw[←hw0];have h9:Qv ((w.alloc (.cells #[.string cust,.int .i64 party,.slice A n c] 25)).alloc (.cells #[.bool false,.int .i64 0] 45)) (w.alloc (.cells #[.string cust,.int .i64 party,.slice A n c] 25)).heap.size 45 #[.bool false,.int .i64 0] (0,0):=World.alloc_heap_new _ _;have h8:(w.alloc (.cells #[.string cust,.int .i64 party,.slice A n c] 25)).heap.size=w.heap.size+1:=(by simp);rw[h8]at h9;exact h9
  have hS:Zl w0 w.heap.size 25 #[.string cust,.int .i64 party,.slice A n c]:=by rw[←hw0];exact box1_low (heap_alloc_new w _) (RowKit.Below.alloc (RowKit.Below.refl (w.heap.size+1) _) (by simp) _) (by omega)
  have hb0:Below w.heap.size w w0:=by rw[←hw0];exact Qk (Qk (Below.refl _ _) _) _
  clear hw0
  go_wp2_with (first | (refine Qw rfl 25 _ rfl ⟨w.heap.size,0,none⟩ (.agg #[.string cust,.int .i64 party,.slice A n c]) rfl (unPolR hS) ?_) | (go_at_call 41;refine (HC.out _ hb0).mono ?_;rintro e w2 ⟨rfl,hb2⟩;have hk2:=Qv.keep hk hb2;have k0:=Qv.cell hk2 0;have k1:=Qv.cell hk2 1;have g0:=Qd hk2 0;have g1:=Qd hk2 1;have hz:=Qv.lt hk2))
  exact bodyPost_ret (v:=.agg #[.bool false,.int .i64 1]) (by simp[results,Tryz.results16,go_sem,hz,k0,k1,g0,g1]) rfl ⟨rfl,Qz⟩
 rw[if_pos h0]at hR
 have e1:(q==0)=true:=beq_iff_eq.2 h0
 have e2:(q != 0)=false:=bne_eq_false_iff_eq.2 h0
 have HR:=Lib.hid hR
 clear hR
 go_enter Tryz.func16,Tryz.ntmps16
 go_upto_region 1 with fail
 generalize hw0:World.alloc _ _=w0
 have hk:Qv w0 (w.heap.size+1) 45 #[.bool false,.int .i64 0] (0,0):=by rw[←hw0];have h9:Qv ((w.alloc (.cells #[.string cust,.int .i64 party,.slice A n c] 25)).alloc (.cells #[.bool false,.int .i64 0] 45)) (w.alloc (.cells #[.string cust,.int .i64 party,.slice A n c] 25)).heap.size 45 #[.bool false,.int .i64 0] (0,0):=World.alloc_heap_new _ _;have h8:(w.alloc (.cells #[.string cust,.int .i64 party,.slice A n c] 25)).heap.size=w.heap.size+1:=(by simp);rw[h8]at h9;exact h9
 have hS:Zl w0 w.heap.size 25 #[.string cust,.int .i64 party,.slice A n c]:=by rw[←hw0];exact box1_low (heap_alloc_new w _) (RowKit.Below.alloc (RowKit.Below.refl (w.heap.size+1) _) (by simp) _) (by omega)
 have hb0:Below w.heap.size w w0:=by rw[←hw0];exact Qk (Qk (Below.refl _ _) _) _
 clear hw0
 go_upto_region 3 with (first | (refine Qw rfl 25 _ rfl ⟨w.heap.size,0,none⟩ (.agg #[.string cust,.int .i64 party,.slice A n c]) rfl (unPolR hS) ?_) | (go_at_call 41;refine (HC.out _ hb0).mono ?_;rintro e w2 ⟨rfl,hb2⟩;have hk2:=Qv.keep hk hb2;have k0:=Qv.cell hk2 0;have k1:=Qv.cell hk2 1;have g0:=Qd hk2 0;have g1:=Qd hk2 1;have hz:=Qv.lt hk2))
 have hS2:=hS.keep hb2
 have hb20:=Qj hb0 hb2
 have c2:w2.cell? ⟨w.heap.size,2,none⟩=some (.slice A n c):=hS2.cell rfl
 have HS2:=Lib.hid hS2;have HK2:=Lib.hid hk2
 have HO0:=Lib.hid (show w2.ownsRow (w.heap.size+2) 9 1 (.slice none 0 0) (KX L 0).length ((KX L 0).map .string) from World.ownsRow_nil _ _ _ _)
 clear hS2 hk2 hS hk hb0 hb2 k0 k1 g0 g1 e1 e2
 go_wp2_with fail
 clear c2
 go_loopw [3,4] (fun ov iv wr=>∃ (k:Nat) (B:Option Addr) (d:Nat),k≤n∧iv=.int .i64 k∧ov=.slice B (KX L k).length d∧Hid (wr.ownsRow (w.heap.size+2) 9 1 (.slice B (KX L k).length d) (KX L k).length ((KX L k).map .string))∧Hid (Zl wr w.heap.size 25 #[.string cust,.int .i64 party,.slice A n c])∧Hid (Qv wr (w.heap.size+1) 45 #[.bool false,.int .i64 0] (0,0))∧Below w.heap.size w wr∧w.heap.size+2≤wr.heap.size) (fun _ iv _=>n-(intOf iv).toNat)
 case atStart=>exact⟨0,none,0,by omega,rfl,rfl,HO0,HS2,HK2,hb20,by omega⟩
 case round =>
  obtain⟨k,B,d,hk,rfl,rfl,HO,HS,HK,hbr,hsr⟩:=hrel
  clear HO0 HS2 HK2 hb20
  have c2:wr.cell? ⟨w.heap.size,2,none⟩=some (.slice A n c):=HS.out.cell rfl
  by_cases hlk:k<n
  ·obtain⟨y,hy⟩:∃ y,L[k]? = some y:=⟨_,List.getElem?_eq_getElem (by have:=HLN.out;omega)⟩
   obtain⟨_,b,o,rfl,hcell⟩:=(HL.out.keep hbr).at_ hy
   have y2:wr.cell? ⟨b,o+k*18+2,none⟩=some (.slice y.T y.r.tags.length y.ct):=hcell 2 _ rfl
   have y1:wr.cell? ⟨b,o+k*18+1,none⟩=some (.string y.r.pat):=hcell 1 _ rfl
   have hsucc:=unrK_succ hy
   have hkl:=unrK_len L k
   have hte:y.r.tags.isEmpty=decide (y.r.tags.length=0):=by cases y.r.tags <;> rfl
   rw[hte]at hsucc
   generalize y.r.tags.length=tl at *
   generalize y.T=T at *
   generalize y.ct=ct at *
   generalize y.r.pat=pt at *
   have HSU:=Lib.hid hsucc
   clear hcell hy hsucc hte
   have hk0:(0:Int)≤(k:Int):=by omega
   have hk1:(k:Int)<(n:Int):=by omega
   by_cases htl:tl=0
   rotate_left
   ·have hsu:=HSU.out
    rw[decide_eq_false htl,if_neg (by decide)]at hsu
    have e3:((tl:Int)==0)=false:=beq_eq_false_iff_ne.2 (by omega)
    have HSU2:=Lib.hid hsu
    clear hsu HSU
    go_wp2_with fail
    have hsu:=HSU2.out
    refine⟨⟨k+1,B,d,by omega,by go_num,by rw[hsu],by rw[hsu];exact HO,HS,HK,hbr,by omega⟩,by simp[intOf];omega⟩
   ·subst htl
    have hsu:=HSU.out
    rw[decide_eq_true rfl,if_pos rfl]at hsu
    have hsl:(KX L (k+1)).length=(KX L k).length+1:=by rw[hsu];simp
    have HSU2:=Lib.hid hsu;have HSL:=Lib.hid hsl
    clear hsu HSU hsl
    go_wp2_with (at_builtin;refine wpList_append_own _ rfl _ _ 22 rfl (w.heap.size+2) 9 i0 (.string ⟨#[]⟩) 1 16 Tryz.underlying22 HI.out.1 HI.out.2.1 HI.out.2.2.1 HI.out.2.2.2 rfl (by decide) _ _ _ rfl (HO.out.alloc _) ⟨wr.heap.size,0,none⟩ 1 1 [.string pt] rfl rfl (cell_one_new _ _ _) (by simp[Value.oneCell']) (by unfold maxLen;omega) (by omega) (by simp;omega) ?_;intro v' w8 hown' hgrow _;obtain⟨g',cap',rfl⟩:=ownsRow_succ hown')
    have hb8:RowKit.Below (w.heap.size+2) wr w8:=((RowKit.Below.refl _ _).alloc (by omega) _).grown hgrow (by simp;omega) (fun r e=>Qu HO.out r e)
    have hs8:=hb8.size
    have hsu:=HSU2.out;have hsl:=HSL.out
    refine⟨⟨k+1,some ⟨g',0,none⟩,cap',by omega,by go_num,by rw[hsl],by rw[hsl,hsu,List.map_append];exact Lib.hid hown',Lib.hid (box1_low HS.out hb8 (by omega)),Lib.hid (blk_low HK.out hb8 (by omega)),hbr.trans (hb8.mono (by omega)),by omega⟩,by simp[intOf];omega⟩
  ·obtain rfl:k=n:=by omega
   have hre:=Reads.of_own HO.out
   have c0:wr.cell? ⟨w.heap.size,0,none⟩=some (.string cust):=HS.out.cell rfl
   have hG:=HG.out wr B d hre
   rw[←HR.out]at hG
   unfold Ut at hG
   have HG2:=Lib.hid hG
   clear hG HG HO hre
   go_upto_region 9 with fail
   go_wp2_with (go_at_call 13;refine HG2.out.mono ?_;rintro e w3 ⟨rfl,hb3⟩;have hk3:=Qv.keep HK.out hb3;have k0:=Qv.cell hk3 0;have k1:=Qv.cell hk3 1;have g0:=Qd hk3 0;have g1:=Qd hk3 1;have hz:=Qv.lt hk3)
   exact bodyPost_ret (v:=.agg #[.bool R.1,.int .i64 R.2]) (by simp[results,Tryz.results16,go_sem,hz,k0,k1,g0,g1]) rfl ⟨rfl,Qz⟩
theorem infPt24:(Tryz.prog.info? 94).map (·.size)=some 3:=by kernel_rfl
def AlP (base:Nat):Value→World→Prop:=fun v W=>∃ g,v=.pointer (some ⟨g,0,none⟩)∧Qv W g 94 #[.slice none 0 0,.slice none 0 0,.bool false] (0,0)∧base≤g
theorem keeps_alP (base:Nat):Keeps (AlP base):=fun _ _ _ ⟨g,e,hk,hg⟩ hb=>⟨g,e,Qv.keep hk hb,hg⟩
def SplP (a b:List Zo) (is:Bool):Prop:=(is=false∧∀ v∈b,GoodV a b v)∨(is=true∧∃ g h,ZY a g h=true∧ZY b g h=false)
def SplX (a b:List Zo):Value→World→Prop:=fun v _=>∃ x y is,v=.agg #[x,y,.bool is]∧x.oneCell'=true∧y.oneCell'=true∧SplP a b is
theorem keeps_spl (a b:List Zo):Keeps (SplX a b):=fun _ _ _ h _=>h
def RShd (L:List Qh) (i k:Int) (is:Bool) (er:Int):Prop :=
 ((Vl L i k).1=false∧is=false∧er=(Vl L i k).2)∨((Vl L i k).1=true∧er=0∧∃ x y,L[i.toNat]? = some x∧L[k.toNat]? = some y∧SplP (x.L.map (·.v)) (y.L.map (·.v)) is)
theorem clRef_at {L:List Qh} {i k:Int} (h:(Vl L i k).1=true):(Vl L i k).2=0∧Xp L=true∧∃ (a b:Nat) (x y:Qh),i=(a:Int)∧k=(b:Int)∧a<b∧L[a]? = some x∧L[b]? = some y:=by
 unfold Vl at h ⊢
 by_cases hok:Yt L i k=true
 ·rw[if_pos hok]at h ⊢
  unfold Yt at hok
  simp only[Bool.and_eq_true,decide_eq_true_eq]at hok
  obtain⟨h1,h2,h3,h4⟩:=hok
  obtain⟨a,rfl⟩:∃ a:Nat,i=(a:Int):=⟨i.toNat,by omega⟩
  obtain⟨b,rfl⟩:∃ b:Nat,k=(b:Int):=⟨k.toNat,by omega⟩
  obtain⟨x,hx⟩:∃ x,L[a]? = some x:=⟨_,List.getElem?_eq_getElem (by omega)⟩
  obtain⟨y,hy⟩:∃ y,L[b]? = some y:=⟨_,List.getElem?_eq_getElem (by omega)⟩
  rw[Int.toNat_natCast,Int.toNat_natCast,hx,hy]
  exact⟨rfl,h1,a,b,x,y,rfl,rfl,by omega,hx,hy⟩
 ·rw[if_neg hok]at h
  cases h
theorem infKnB:(Tryz.prog.info? 45).map (·.size)=some 2:=by kernel_rfl
theorem known_load {W:World} {g:Nat} {b:Bool} {e:Int} (h:Zl W g 45 #[.bool b,.int .i64 e]):(loadVar 45 ⟨g,0,none⟩).run Tryz.prog W=.ok (.agg #[.bool b,.int .i64 e]) W :=
 run_loadVar_row (P:=Tryz.prog) W g _ 45 _ _ _ h Tryz.underlying45 rfl infKnB
theorem rShared24_any (A:Option Addr) (n c:Nat) (i k:Int) (L:List Qh) (w:World) (hL:Qs w A n L) (hf:∀ x∈L,Zw x.r) (hn:n≤1000) :
  Calls Tryz.prog 18 #[.slice A n c,.int .i64 i,.int .i64 k] w fun e w'=>∃ is er,e=.returned (.agg #[.bool is,.int .i64 er])∧RShd L i k is er∧Below w.heap.size w w':=by
 have hlen:=hL.len
 have cC:=fun W (hb:Below w.heap.size w W)=>rClash24_any A n c i k L W (hL.keep hb) hf hn
 obtain⟨ci,hci0⟩:∃ ci,ci=(Vl L i k).1:=⟨_,rfl⟩
 obtain⟨ce,hce0⟩:∃ ce,ce=(Vl L i k).2:=⟨_,rfl⟩
 rw[←hci0,←hce0]at cC
 have HC:=Lib.hid cC
 cases hci:ci
 ·have hr:RShd L i k false ce:=.inl ⟨by rw[←hci0,hci],rfl,hce0⟩
  have HR:=Lib.hid hr
  clear cC hr hci0 hce0 hL hf hlen
  by_cases he:ce=0
  ·have e2:(ce==0)=true:=beq_iff_eq.2 he
   have e3:(ce != 0)=false:=bne_eq_false_iff_eq.2 he
   go_enter Tryz.func18,Tryz.ntmps18
   go_upto_region 1 with fail
   generalize hw0:World.alloc _ _=w0
   have hk:Qv w0 w.heap.size 45 #[.bool false,.int .i64 0] (0,0):=by rw[←hw0];exact World.alloc_heap_new w _
   have hb0:Below w.heap.size w w0:=by rw[←hw0];exact Qk (Below.refl _ _) _
   clear hw0
   go_upto_region 2 with (go_at_call 17;refine (HC.out _ hb0).mono ?_;rintro e w2 ⟨rfl,hb2⟩)
   generalize hw3:World.alloc _ _=w3
   have h7:Qv w3 w2.heap.size 45 #[.bool ci,.int .i64 ce] (0,0):=by rw[←hw3];(try rw[hci]);(try rw[he]);exact World.alloc_heap_new w2 _
   have hb3:Below w2.heap.size w2 w3:=by rw[←hw3];exact Qk (Below.refl _ _) _
   have hk3:=Qv.keep (Qv.keep hk hb2) hb3
   have hbw3:=Qj (Qj hb0 hb2) hb3
   obtain⟨g7,hg7⟩:∃ g7,g7=w2.heap.size:=⟨_,rfl⟩
   rw[←hg7]at h7 ⊢
   clear hg7 hw3 hk hb0 hb2 hb3 w2 w0
   have c70:=Qv.cell h7 0
   have c71:=Qv.cell h7 1
   (have k0:=Qv.cell hk3 0;have k1:=Qv.cell hk3 1;have g0:=Qd hk3 0;have g1:=Qd hk3 1;have hz:=Qv.lt hk3)
   go_wp2_with (refine Qw rfl 45 _ rfl ⟨g7,0,none⟩ (.agg #[.bool ci,.int .i64 ce]) rfl (known_load h7) ?_)
   exact bodyPost_ret (v:=.agg #[.bool false,.int .i64 0]) (by simp[results,Tryz.results18,go_sem,hz,k0,k1,g0,g1]) rfl ⟨_,_,rfl,by have h9:=HR.out;rw[he]at h9;exact h9,Qz⟩
  ·have e2:(ce==0)=false:=beq_eq_false_iff_ne.2 he
   have e3:(ce != 0)=true:=bne_iff_ne.2 he
   go_enter Tryz.func18,Tryz.ntmps18
   go_upto_region 1 with fail
   generalize hw0:World.alloc _ _=w0
   have hk:Qv w0 w.heap.size 45 #[.bool false,.int .i64 0] (0,0):=by rw[←hw0];exact World.alloc_heap_new w _
   have hb0:Below w.heap.size w w0:=by rw[←hw0];exact Qk (Below.refl _ _) _
   clear hw0
   go_upto_region 2 with (go_at_call 17;refine (HC.out _ hb0).mono ?_;rintro e w2 ⟨rfl,hb2⟩)
   generalize hw3:World.alloc _ _=w3
   have h7:Qv w3 w2.heap.size 45 #[.bool ci,.int .i64 ce] (0,0):=by rw[←hw3];(try rw[hci]);(try rw[he]);exact World.alloc_heap_new w2 _
   have hb3:Below w2.heap.size w2 w3:=by rw[←hw3];exact Qk (Below.refl _ _) _
   have hk3:=Qv.keep (Qv.keep hk hb2) hb3
   have hbw3:=Qj (Qj hb0 hb2) hb3
   obtain⟨g7,hg7⟩:∃ g7,g7=w2.heap.size:=⟨_,rfl⟩
   rw[←hg7]at h7 ⊢
   clear hg7 hw3 hk hb0 hb2 hb3 w2 w0
   have c70:=Qv.cell h7 0
   have c71:=Qv.cell h7 1
   (have k0:=Qv.cell hk3 0;have k1:=Qv.cell hk3 1;have g0:=Qd hk3 0;have g1:=Qd hk3 1;have hz:=Qv.lt hk3)
   go_wp2_with (refine Qw rfl 45 _ rfl ⟨g7,0,none⟩ (.agg #[.bool ci,.int .i64 ce]) rfl (known_load h7) ?_)
   exact bodyPost_ret (v:=.agg #[.bool false,.int .i64 ce]) (by simp[results,Tryz.results18,go_sem,hz,k0,k1,g0,g1]) rfl ⟨_,_,rfl,HR.out,Qz⟩
 obtain⟨hce2,hv,a,q,x,y,rfl,rfl,haq,hx,hy⟩:=clRef_at (by rw[←hci0,hci])
 have he:ce=0:=hce0.trans hce2
 have e2:(ce==0)=true:=beq_iff_eq.2 he
 have e3:(ce != 0)=false:=bne_eq_false_iff_eq.2 he
 have hr:∀ is,SplP (x.L.map (·.v)) (y.L.map (·.v)) is→RShd L (a:Int) (q:Int) is 0:=fun is h=>.inr ⟨by rw[←hci0,hci],rfl,x,y,by rw[Int.toNat_natCast];exact hx,by rw[Int.toNat_natCast];exact hy,h⟩
 have hxm:=List.mem_of_getElem? hx
 have hym:=List.mem_of_getElem? hy
 have ha:a<n:=by have:=(List.getElem?_eq_some_iff.1 hx).1;omega
 have hq:q<n:=by have:=(List.getElem?_eq_some_iff.1 hy).1;omega
 have cS:∀ W,Below w.heap.size w W→Calls Tryz.prog 43 #[.slice x.V x.r.vary.length x.cv,.slice y.V y.r.vary.length y.cv] W (RSplitPost (x.L.map (·.v)) (y.L.map (·.v)) W):=fun W hb=>rSplit23_any x.V x.r.vary.length x.cv x.L y.V y.r.vary.length y.cv y.L W (((hL.each x hxm).keep hb).varys) (((hL.each y hym).keep hb).varys) (fits_at (hL.each x hxm) (hf x hxm)) (fits_at (hL.each y hym) (hf y hym)) (hf x hxm).nv (hf y hym).nv (Uu hv hxm).2
 have hcl:∃ b o,A=some ⟨b,o,none⟩∧w.cell? ⟨b,o+a*18+7,none⟩=some (.slice x.V x.r.vary.length x.cv)∧w.cell? ⟨b,o+q*18+7,none⟩=some (.slice y.V y.r.vary.length y.cv):=by
  obtain⟨_,b,o,e,hcell⟩:=hL.at_ hx
  obtain⟨_,b2,o2,e2,hcell2⟩:=hL.at_ hy
  rw[e]at e2
  injection e2 with e2
  injection e2 with e3 e4 _
  subst e3;subst e4
  exact⟨b,o,e,hcell 7 _ rfl,hcell2 7 _ rfl⟩
 obtain⟨b,o,rfl,hc1,hc2⟩:=hcl
 have HS:=Lib.hid cS;have HR:=Lib.hid hr;have HC1:=Lib.hid hc1;have HC2:=Lib.hid hc2;have HK2:=Lib.hid infPt24
 have ha0:(0:Int)≤(a:Int):=by omega
 have ha1:(a:Int)<(n:Int):=by omega
 have hq0:(0:Int)≤(q:Int):=by omega
 have hq1:(q:Int)<(n:Int):=by omega
 clear cS hr hc1 hc2 hx hy hxm hym cC hv hL hf hlen hci0 hce0 hce2 haq
 go_enter Tryz.func18,Tryz.ntmps18
 go_upto_region 1 with fail
 generalize hw0:World.alloc _ _=w0
 have hk:Qv w0 w.heap.size 45 #[.bool false,.int .i64 0] (0,0):=by rw[←hw0];exact World.alloc_heap_new w _
 have hb0:Below w.heap.size w w0:=by rw[←hw0];exact Qk (Below.refl _ _) _
 clear hw0
 go_upto_region 2 with (go_at_call 17;refine (HC.out _ hb0).mono ?_;rintro e w2 ⟨rfl,hb2⟩)
 generalize hw3:World.alloc _ _=w3
 have h7:Qv w3 w2.heap.size 45 #[.bool ci,.int .i64 ce] (0,0):=by rw[←hw3];(try rw[hci]);(try rw[he]);exact World.alloc_heap_new w2 _
 have hb3:Below w2.heap.size w2 w3:=by rw[←hw3];exact Qk (Below.refl _ _) _
 have hk3:=Qv.keep (Qv.keep hk hb2) hb3
 have hbw3:=Qj (Qj hb0 hb2) hb3
 obtain⟨g7,hg7⟩:∃ g7,g7=w2.heap.size:=⟨_,rfl⟩
 rw[←hg7]at h7 ⊢
 clear hg7 hw3 hk hb0 hb2 hb3 w2 w0
 have c70:=Qv.cell h7 0
 have c71:=Qv.cell h7 1
 go_upto_region 4 with fail
 clear c70 c71 h7
 refine Ye 12 (by kernel_rfl) (by kernel_rfl) (by kernel_rfl) (DL [Jz (.slice (some ⟨b,o,none⟩) n c),Jz (.int .i64 (a:Int)),Jz (.pointer (some ⟨b,o+a*18,none⟩)),Jz (.pointer (some ⟨b,o+a*18+7,none⟩)),Jz (.slice x.V x.r.vary.length x.cv),Jz (.slice (some ⟨b,o,none⟩) n c),Jz (.int .i64 (q:Int)),Jz (.pointer (some ⟨b,o+q*18,none⟩)),Jz (.pointer (some ⟨b,o+q*18+7,none⟩)),Jz (.slice y.V y.r.vary.length y.cv),SplX (x.L.map (·.v)) (y.L.map (·.v)),AlP w3.heap.size]) (DL.keep _ (by simp only[WY];repeat' (first | apply And.intro | exact Uf _ | exact keeps_alP _ | exact keeps_spl _ _ | exact trivial))) (fun W=>RowKit.Below w3.heap.size w3 W) (RowKit.Below.drew (RowKit.Below.refl _ _)) (fun _ _ h hb=>Qj h hb) ?_ ?_
 ·dsimp only[List.take_succ_cons,List.take_zero,DetD]
  refine⟨fun vals W hS hd=>?_,fun vals W hS hd=>?_,fun vals W hS hd=>?_,fun vals W hS hd=>?_,fun vals W hS hd=>?_,fun vals W hS hd=>?_,fun vals W hS hd=>?_,fun vals W hS hd=>?_,fun vals W hS hd=>?_,fun vals W hS hd=>?_,fun vals W hS hd=>?_,fun vals W hS hd=>?_,trivial⟩
  rotate_left 10
  ·(try simp only[Ky,DL,Jz,List.getD_cons_zero,List.getD_cons_succ,Region.binds,and_true,true_and]at hd)
   simp only[QU,Zj,Act.put]
   (try simp only[hd])
   clear hd
   go_wp2_with (go_at_call 43;refine (HS.out _ (Qj hbw3 hS)).mono ?_;rintro e w5 ⟨hb5,X,Y,is,rfl,hX,hY,hP⟩)
   exact⟨rfl,⟨X,Y,is,rfl,hX,hY,hP⟩,rfl,Qz⟩
  ·(try simp only[Ky,DL,Jz,List.getD_cons_zero,List.getD_cons_succ,Region.binds,and_true,true_and]at hd)
   simp only[QU,Zj,Act.put]
   (try simp only[hd])
   clear hd
   have hsz:=hS.size
   go_wp2
   exact⟨rfl,⟨_,rfl,World.alloc_heap_new W _,hsz⟩,rfl,Qz⟩
  all_goals
   (try simp only[Ky,DL,Jz,List.getD_cons_zero,List.getD_cons_succ,Region.binds,and_true,true_and]at hd)
   simp only[QU,Zj,Act.put]
   (try simp only[hd])
   clear hd
   have y1:=Qq (Qj hbw3 hS) HC1.out
   have y2:=Qq (Qj hbw3 hS) HC2.out
   go_wp2
   exact⟨rfl,rfl,rfl,Qz⟩
 ·intro vals w9 hS9 hD
  obtain⟨X,Y,is,e8,hX,hY,hP⟩:SplX (x.L.map (fun z:Qo=>z.v)) (y.L.map (fun z:Qo=>z.v)) (vals 10) w9:=hD 10 (by omega)
  obtain⟨g,e9,hg9,hgz⟩:AlP w3.heap.size (vals 11) w9:=hD 11 (by omega)
  have HP:=Lib.hid hP
  simp only[QU,Zj,Act.put]
  simp only[e8,e9]
  clear hD e8 e9 hP
  refine wpList_store_row rfl 94 _ _ rfl g #[X,Y,.bool is] rfl rfl _ #[.slice none 0 0,.slice none 0 0,.bool false] hg9 HK2.out rfl (by rw[List.all_toArray,List.all_cons,List.all_cons,List.all_cons,List.all_nil,hX,hY];rfl) ?_
  generalize hw6:World.setRow _ _ _=w6
  have hg6:Qv w6 g 94 #[X,Y,.bool is] (0,0):=by rw[←hw6];exact setRow_heap _ _ _ _ _ _ hg9
  have hb6:RowKit.Below w3.heap.size w3 w6:=by rw[←hw6];exact below_setRow hS9 hgz _
  have hk6:=Qv.keep hk3 hb6
  have k0:=Qv.cell hk6 0
  have k1:=Qv.cell hk6 1
  have g0:=Qd hk6 0
  have g1:=Qd hk6 1
  have hz:=Qv.lt hk6
  have c0:=Qv.cell hg6 2
  have hgl:=Qv.lt hg6
  clear hw6 hg9 hS9 hk3 hX hY
  go_wp2
  exact bodyPost_ret (v:=.agg #[.bool is,.int .i64 0]) (by simp[results,Tryz.results18,go_sem,hz,k0,k1,g0,g1]) rfl ⟨_,_,rfl,HR.out _ HP.out,Qz⟩
theorem infPolU:(Tryz.prog.info? 25).map (·.size)=some 3:=by kernel_rfl
theorem unPol {W:World} {g:Nat} {cust:ByteArray} {party:Int} {A:Option Addr} {n c:Nat} (h:Zl W g 25 #[.string cust,.int .i64 party,.slice A n c]):(loadVar 25 ⟨g,0,none⟩).run Tryz.prog W=.ok (.agg #[.string cust,.int .i64 party,.slice A n c]) W :=
 run_loadVar_row (P:=Tryz.prog) W g _ 25 _ _ _ h Tryz.underlying25 rfl infPolU
theorem Zl.low {B:Nat} {W W':World} {g:Nat} {t:TypeId} {X:Array Value} (h:Zl W g t X) (hb:Below B W W') (hg:g<B):Zl W' g t X:=(hb.block g hg).trans h
theorem checkU_ok (cust:ByteArray):∀ (l:List Vm) (seen:List ByteArray),U6 cust l seen=0→∀ r∈l,X0 r=true
 | [],_,_,r,h=>by cases h
 | x :: l,seen,h,r,hr=>by
  unfold U6 at h
  split at h
  ·cases h
  ·rename_i h1
   split at h
   ·cases h
   ·split at h
    ·cases h
    ·rcases List.mem_cons.1 hr with rfl | hr
     ·simpa using h1
     ·exact checkU_ok cust l _ h r hr
theorem checkU {cust:ByteArray} {party:Int} {l:List Vm} (h:Ju cust party l=0):Qy cust=true∧∀ r∈l,X0 r=true:=by
 unfold Ju at h
 split at h
 ·cases h
 ·rename_i h1
  split at h
  ·cases h
  ·refine⟨?_,checkU_ok _ _ _ h⟩
   cases hc:Qy cust
   ·exact absurd (.inl hc) h1
   ·rfl
def UnPost (cust:ByteArray) (party:Int) (L:List Qh) (w:World) (e:Ending) (w':World):Prop :=
 Below w.heap.size w w'∧((Ju cust party (L.map (·.r))≠0∧e=.returned (.tuple #[.string ⟨#[]⟩,.bool false,.int .i64 1]))∨(Ju cust party (L.map (·.r))=0∧∃ s is,e=.returned (.tuple #[.string s,.bool is,.int .i64 0])∧ZU (Ut cust) (KX L L.length) s is∧s.size≤4096))
theorem unruled_any (cust:ByteArray) (party:Int) (A:Option Addr) (n c:Nat) (L:List Qh) (w:World) (hL:Qs w A n L) (hf:∀ x∈L,Zw x.r) (hn:n≤10) (hcs:cust.size≤100) (hE:Env w) (hT:Tab w) :
  Calls Tryz.prog 10 #[polV cust party A n c] w (UnPost cust party L w):=by
 have hlen:=hL.len
 have cC:=fun (W:World) (hb:Below w.heap.size w W)=>check_any cust party A n c L W (hL.keep hb) hf (by omega) (hE.keep hb)
 unfold polV at cC ⊢
 obtain⟨i0,hi0,hz0,hz1,hz2⟩:=info_parts V4
 have HI:=Lib.hid (And.intro hi0 (And.intro hz0 (And.intro hz1 hz2)))
 clear hi0 hz0 hz1 hz2
 have hgap:=fun (h0:Ju cust party (L.map (·.r))=0) (W:World) (hb:Below w.heap.size w W) (B:Option Addr) (d:Nat) (hR:Reads W 1 B (KX L n).length ((KX L n).map .string))=>show Calls Tryz.prog 26 #[.string (Ut cust),.slice B (KX L n).length d] W fun e w'=>∃ s is,e=.returned (.tuple #[.string s,.bool is])∧ZU (Ut cust) (KX L n) s is∧s.size≤4096∧Below W.heap.size W w' by
  obtain⟨h1,h2⟩:=checkU h0
  have hall:((KX L n).all fun q=>(Qx q).isSome)=true:=by
   rw[List.all_eq_true]
   intro q hq
   unfold KX at hq
   obtain⟨y,hy,rfl⟩:=List.mem_map.1 hq
   have hyl:=List.mem_of_mem_take (List.mem_filter.1 hy).1
   exact (rule_ok (h2 y.r (List.mem_map.2 ⟨y,hyl,rfl⟩))).pat
  obtain⟨ys,e⟩:=all_comp _ hall
  have hul:=unrK_len L n
  exact gapT_any (Ut cust) _ ys B (KX L n).length d (KX L n) W (whole_comp h1) e (by unfold Ut;rw[ByteArray.size_append];have:(⟨#[47,42,42]⟩:ByteArray).size=3:=rfl;omega) hR (by omega) (fun q hq=>by
   unfold KX at hq
   obtain⟨y,hy,rfl⟩:=List.mem_map.1 hq
   have hyl:=List.mem_of_mem_take (List.mem_filter.1 hy).1
   have:=(hf y hyl).pat
   omega) (hE.keep hb) (hT.keep hb)
 obtain⟨P,hP⟩:∃ P,P=UnPost cust party L w:=⟨_,rfl⟩
 rw[←hP]
 have HP:=Lib.hid hP
 obtain⟨q,hq⟩:∃ q,q=Ju cust party (L.map (·.r)):=⟨_,rfl⟩
 rw[←hq]at cC hgap
 have HQ:=Lib.hid hq
 have HC:=Lib.hid cC;have HG:=Lib.hid hgap;have HL:=Lib.hid hL;have HLN:=Lib.hid hlen
 clear hP cC hgap hL hf hlen hq hE hT
 by_cases h0:q=0
 rotate_left
 ·have e1:(q==0)=false:=beq_eq_false_iff_ne.2 h0
  have e2:(q != 0)=true:=bne_iff_ne.2 h0
  go_enter Tryz.func10,Tryz.ntmps10
  go_upto_region 1 with fail
  generalize hw0:World.alloc _ _=w0
  have hS:Zl w0 w.heap.size 25 #[.string cust,.int .i64 party,.slice A n c]:=by rw[←hw0];exact heap_alloc_new w _
  have hbw:Below w.heap.size w w0:=by rw[←hw0];exact Qk (Below.refl _ _) _
  clear hw0
  go_wp2_with (first | (refine Qw rfl 25 _ rfl ⟨w.heap.size,0,none⟩ (.agg #[.string cust,.int .i64 party,.slice A n c]) rfl (unPol hS) ?_) | (go_at_call 31;refine (HC.out _ hbw).mono ?_;rintro e w2 ⟨rfl,hb2⟩))
  go_ret3
  rw[HP.out]
  exact⟨Qj hbw hb2,.inl ⟨by rw[←HQ.out];exact h0,rfl⟩⟩
 ·subst h0
  go_enter Tryz.func10,Tryz.ntmps10
  go_upto_region 1 with fail
  generalize hw0:World.alloc _ _=w0
  have hS:Zl w0 w.heap.size 25 #[.string cust,.int .i64 party,.slice A n c]:=by rw[←hw0];exact heap_alloc_new w _
  have hbw:Below w.heap.size w w0:=by rw[←hw0];exact Qk (Below.refl _ _) _
  have hs0:w.heap.size+1≤w0.heap.size:=by rw[←hw0];simp
  clear hw0
  go_upto_region 3 with (first | (refine Qw rfl 25 _ rfl ⟨w.heap.size,0,none⟩ (.agg #[.string cust,.int .i64 party,.slice A n c]) rfl (unPol hS) ?_) | (go_at_call 31;refine (HC.out _ hbw).mono ?_;rintro e w2 ⟨rfl,hb2⟩))
  have hS2:=hS.keep hb2
  have hbw2:=Qj hbw hb2
  have hs2:=hb2.size
  clear hS
  have c2:w2.cell? ⟨w.heap.size,2,none⟩=some (.slice A n c):=hS2.cell rfl
  have HS2:=Lib.hid hS2
  have hown0:w2.ownsRow (w.heap.size+1) 9 1 (.slice none 0 0) (KX L 0).length ((KX L 0).map .string):=World.ownsRow_nil _ _ _ _
  have HO0:=Lib.hid hown0
  clear hS2 hown0 hbw hb2
  go_wp2_with fail
  clear c2
  go_loopw [5,16] (fun ov iv wr=>∃ (k:Nat) (B:Option Addr) (d:Nat),k≤n∧iv=.int .i64 k∧ov=.slice B (KX L k).length d∧Hid (wr.ownsRow (w.heap.size+1) 9 1 (.slice B (KX L k).length d) (KX L k).length ((KX L k).map .string))∧Hid (Zl wr w.heap.size 25 #[.string cust,.int .i64 party,.slice A n c])∧Below w.heap.size w wr∧w.heap.size+1≤wr.heap.size) (fun _ iv _=>n-(intOf iv).toNat)
  case atStart=>exact⟨0,none,0,by omega,rfl,rfl,HO0,HS2,hbw2,by omega⟩
  case round =>
   obtain⟨k,B,d,hk,rfl,rfl,HO,HS,hbr,hsr⟩:=hrel
   clear HO0 HS2 hbw2
   by_cases hlk:k<n
   ·obtain⟨y,hy⟩:∃ y,L[k]? = some y:=⟨_,List.getElem?_eq_getElem (by have:=HLN.out;omega)⟩
    obtain⟨_,b,o,rfl,hcell⟩:=(HL.out.keep hbr).at_ hy
    have hld:=Uj wr b (o+k*18) y hcell
    have hsucc:=unrK_succ hy
    have hkl:=unrK_len L k
    have hc1:y.cells.toArray[1]? = some (.string y.r.pat):=rfl
    have hc2:y.cells.toArray[2]? = some (.slice y.T y.r.tags.length y.ct):=rfl
    have hone:y.cells.toArray.all (·.oneCell')=true:=by rw[List.all_toArray];rfl
    have hsz2:y.cells.toArray.size=18:=by rw[List.size_toArray,y.cells_len]
    have hi18:(Tryz.prog.info? 57).map (·.size)=some y.cells.toArray.size:=by rw[hsz2];exact infRule
    have hsz:y.cells.toArray.size=(#[.string ⟨#[]⟩,.string ⟨#[]⟩,.slice none 0 0,.int .i64 0,.int .i64 0,.int .i64 0,.int .i64 0,.slice none 0 0,.int .i64 0,.int .i64 0,.string ⟨#[]⟩,.slice none 0 0,.slice none 0 0,.slice none 0 0,.int .i64 0,.bool false,.int .i64 0,.string ⟨#[]⟩]:Array Value).size:=by rw[hsz2];rfl
    unfold Qh.val at hld
    generalize y.cells.toArray=X at *
    have hte:y.r.tags.isEmpty=decide (y.r.tags.length=0):=by cases y.r.tags <;> rfl
    rw[hte]at hsucc
    generalize y.r.tags.length=tl at *
    generalize y.T=T at *
    generalize y.ct=ct at *
    generalize y.r.pat=pt at *
    have HLD:=Lib.hid hld;have HC1:=Lib.hid hc1;have HC2:=Lib.hid hc2;have HON:=Lib.hid hone;have HI18:=Lib.hid hi18;have HSZ:=Lib.hid hsz;have HSU:=Lib.hid hsucc
    clear hld hc1 hc2 hone hsz2 hi18 hsz hcell hy hsucc hte
    have hk0:(0:Int)≤(k:Int):=by omega
    have hk1:(k:Int)<(n:Int):=by omega
    have hsg:wr.heap.size<wr.heap.size+1:=by omega
    by_cases htl:tl=0
    rotate_left
    ·have hsu:=HSU.out
     rw[decide_eq_false htl,if_neg (by decide)]at hsu
     have e3:((tl:Int)==0)=false:=beq_eq_false_iff_ne.2 (by omega)
     have e4:decide ((tl:Int)=0)=false:=decide_eq_false (by omega)
     have HSU2:=Lib.hid hsu
     clear hsu HSU
     go_wp2_with (first | (refine Qw rfl 57 _ rfl ⟨b,o+k*18,none⟩ (.agg X) rfl HLD.out ?_) | (refine wpList_store_row rfl 57 _ _ rfl wr.heap.size X rfl rfl _ #[.string ⟨#[]⟩,.string ⟨#[]⟩,.slice none 0 0,.int .i64 0,.int .i64 0,.int .i64 0,.int .i64 0,.slice none 0 0,.int .i64 0,.int .i64 0,.string ⟨#[]⟩,.slice none 0 0,.slice none 0 0,.slice none 0 0,.int .i64 0,.bool false,.int .i64 0,.string ⟨#[]⟩] ((heap_alloc_new wr _).trans rfl) HI18.out HSZ.out.symm HON.out ?_;generalize hw6:World.setRow _ _ _=w6;have B6:Zl w6 wr.heap.size 57 X:=(by rw[←hw6];exact setRow_heap _ _ _ _ _ _ (heap_alloc_new wr _));have hb6:Below wr.heap.size wr w6:=(by rw[←hw6];exact below_setRow ((Below.refl _ _).alloc (Nat.le_refl _) _) (Nat.le_refl _) _);clear hw6;have hs6:=hb6.size;have x2:=B6.cell HC2.out;have x1:=B6.cell HC1.out))
     have hsu:=HSU2.out
     refine⟨⟨k+1,B,d,by omega,by go_num,by rw[hsu],by rw[hsu];exact Lib.hid (Ql HO.out hb6),Lib.hid (HS.out.keep hb6),Qj hbr hb6,by omega⟩,by simp[intOf];omega⟩
    ·subst htl
     have hsu:=HSU.out
     rw[decide_eq_true rfl,if_pos rfl]at hsu
     have hsl:(KX L (k+1)).length=(KX L k).length+1:=by rw[hsu];simp
     have HSU2:=Lib.hid hsu;have HSL:=Lib.hid hsl
     clear hsu HSU hsl
     go_wp2_with (first | (refine Qw rfl 57 _ rfl ⟨b,o+k*18,none⟩ (.agg X) rfl HLD.out ?_) | (refine wpList_store_row rfl 57 _ _ rfl wr.heap.size X rfl rfl _ #[.string ⟨#[]⟩,.string ⟨#[]⟩,.slice none 0 0,.int .i64 0,.int .i64 0,.int .i64 0,.int .i64 0,.slice none 0 0,.int .i64 0,.int .i64 0,.string ⟨#[]⟩,.slice none 0 0,.slice none 0 0,.slice none 0 0,.int .i64 0,.bool false,.int .i64 0,.string ⟨#[]⟩] ((heap_alloc_new wr _).trans rfl) HI18.out HSZ.out.symm HON.out ?_;generalize hw6:World.setRow _ _ _=w6;have B6:Zl w6 wr.heap.size 57 X:=(by rw[←hw6];exact setRow_heap _ _ _ _ _ _ (heap_alloc_new wr _));have hb6:Below wr.heap.size wr w6:=(by rw[←hw6];exact below_setRow ((Below.refl _ _).alloc (Nat.le_refl _) _) (Nat.le_refl _) _);clear hw6;have hs6:=hb6.size;have x2:=B6.cell HC2.out;have x1:=B6.cell HC1.out) | (at_builtin;refine wpList_append_own _ rfl _ _ 22 rfl (w.heap.size+1) 9 i0 (.string ⟨#[]⟩) 1 16 Tryz.underlying22 HI.out.1 HI.out.2.1 HI.out.2.2.1 HI.out.2.2.2 rfl (by decide) _ _ _ rfl ((Ql HO.out hb6).alloc _) ⟨w6.heap.size,0,none⟩ 1 1 [.string pt] rfl rfl (cell_one_new _ _ _) (by simp[Value.oneCell']) (by unfold maxLen;omega) (by omega) (by simp;omega) ?_;intro v' w8 hown' hgrow _;obtain⟨g',cap',rfl⟩:=ownsRow_succ hown'))
     have hb8:Below (w.heap.size+1) w6 w8:=((Below.refl _ _).alloc (by omega) _).grown hgrow (by simp;omega) (fun r e=>Qu HO.out r e)
     have hs8:=hb8.size
     have hsu:=HSU2.out;have hsl:=HSL.out
     refine⟨⟨k+1,some ⟨g',0,none⟩,cap',by omega,by go_num,by rw[hsl],by rw[hsl,hsu,List.map_append];exact Lib.hid hown',Lib.hid ((HS.out.keep hb6).low hb8 (by omega)),(Qj hbr hb6).trans (hb8.mono (by omega)),by omega⟩,by simp[intOf];omega⟩
   ·obtain rfl:k=n:=by omega
    have hre:=Reads.of_own HO.out
    have HRE:=Lib.hid hre
    have c0:wr.cell? ⟨w.heap.size,0,none⟩=some (.string cust):=HS.out.cell rfl
    clear hre HO
    have hG:=HG.out (by simp) wr hbr B d HRE.out
    unfold Ut at hG
    have HG2:=Lib.hid hG
    clear hG HG
    go_upto_region 10 with fail
    go_wp2_with fail
    refine HG2.out.mono ?_
    rintro e w3 ⟨s,is,rfl,hgp,hgz,hb3⟩
    have HGP:=Lib.hid hgp;have HGZ:=Lib.hid hgz
    clear hgp hgz c0 HG2
    go_wp2_with fail
    go_ret3
    rw[HP.out]
    exact⟨Qj hbr hb3,.inr ⟨HQ.out.symm,s,is,rfl,by rw[HLN.out];exact HGP.out,HGZ.out⟩⟩
theorem UW {p:ByteArray} {bs:List ByteArray} {s:ByteArray} {is:Bool} (h:ZU p bs s is) (hn:bs.length≤64):Jq p bs=(is,0):=by
 have h2:=h
 obtain⟨x,ys,hx,hb,_⟩:=h2
 unfold Jq
 rw[hx]
 dsimp only
 rw[if_neg (by omega),YK bs ys hb]
 dsimp only
 rw[gap_is h hx hb]
theorem gapRef_no {p:ByteArray} {bs:List ByteArray} (h:Wj p bs=false):Jq p bs=(false,1):=by
 unfold Jq
 cases hx:Qx p with
 | none=>rfl
 | some x =>
  dsimp only
  by_cases hn:64<bs.length
  ·rw[if_pos hn]
  ·rw[if_neg hn]
   have hall:(bs.all fun q=>(Qx q).isSome)=false:=by
    unfold Wj at h
    rw[hx,decide_eq_true (by omega)]at h
    exact h
   rw[List.all_eq_false]at hall
   obtain⟨q,hq,hqn⟩:=hall
   rw[YJ bs q hq (by cases hc:Qx q with
    | none=>rfl
    | some y=>rw[hc]at hqn;exact absurd rfl hqn)]
theorem gap_link {p:ByteArray} {bs:List ByteArray} {s:ByteArray} {is:Bool} {er:Int} (h:GapRes p bs s is er):Jq p bs=(is,er):=by
 rcases h with ⟨h1,_,rfl,rfl⟩ | ⟨h1,rfl,h2,_⟩
 ·exact gapRef_no h1
 ·refine UW h2 ?_
  unfold Wj at h1
  rw[Bool.and_eq_true,Bool.and_eq_true,decide_eq_true_eq]at h1
  exact h1.1.2
theorem sh_link {L:List Qh} {i:Int} {s:ByteArray} {is:Bool} {er:Int} (hn:L.length≤64) (h:ShRes L i s is er):shRef L i=(is,er):=by
 unfold shRef
 rcases h with ⟨h1,_,rfl,rfl⟩ | ⟨h1,rfl,x,hx,h2⟩
 ·rw[if_neg (by rw[h1];decide)]
 ·rw[if_pos h1,hx]
  dsimp only
  have hi:i.toNat<L.length:=(List.getElem?_eq_some_iff.1 hx).1
  rcases h2 with ⟨h3,_,rfl⟩ | ⟨h3,g,rfl,h4,_⟩
  ·rw[if_neg h3]
  ·rw[if_pos h3,UW h4 (by have:=Wu L x.r.tags i.toNat;omega)]
theorem deRef_bad {L:List Qh} {i:Int} (h:Uo L i=false):deRef L i=(false,1):=by
 unfold deRef
 rw[if_neg (by rw[h];decide)]
theorem deRef_good {L:List Qh} {k:Nat} {x:Qh} (h:Uo L (k:Int)=true) (hx:L[k]? = some x):deRef L (k:Int)=deAt x (Z5 L x.r.tags k):=by
 unfold deRef
 rw[if_pos h,Int.toNat_natCast,hx]
theorem de_link {L:List Qh} {k:Nat} {x:Qh} {a:Kr} {is:Bool} (hn:L.length≤64) (hx:L[k]? = some x) (h:DeadAt L k x a is):deAt x (Z5 L x.r.tags k)=(is,0):=by
 have hk:k<L.length:=(List.getElem?_eq_some_iff.1 hx).1
 have hl:=Wu L x.r.tags k
 unfold deAt
 rcases h with ⟨rfl,_,h⟩ | ⟨rfl,h1,h2,m,s,h3,h4,_⟩
 ·by_cases ht:(Ze x.r.tags).2=0
  ·rw[if_pos ht]
   by_cases hl2:x.r.allow.till≤x.r.allow.fr
   ·rw[if_pos hl2]
   ·rw[if_neg hl2]
    rcases h with h | h | ⟨_,h⟩ | ⟨_,_,m,s,h3,h4⟩
    ·exact absurd ht h
    ·exact absurd h hl2
    ·rw[h]
    ·rw[h3]
     dsimp only
     rw[UW h4 (by omega)]
     rfl
  ·rw[if_neg ht]
 ·rw[if_pos h1,if_neg (by omega),h3]
  dsimp only
  rw[UW h4 (by omega)]
  rfl
theorem cl_link {L:List Qh} {i k:Int} {s:ByteArray} {is:Bool} {er:Int} (h:ClRes L i k s is er):Vl L i k=(is,er):=by
 unfold Vl
 rcases h with ⟨h1,_,rfl,rfl⟩ | ⟨h1,rfl,x,y,px,py,hx,hy,hpx,hpy,rfl,_⟩
 ·rw[if_neg (by rw[h1];decide)]
 ·rw[if_pos h1,hx,hy]
  dsimp only
  unfold meetR
  rw[hpx,hpy]
theorem shd_link {L:List Qh} {i k:Int} {w':World} {s:ByteArray} {g h:ZQ} {is:Bool} {er:Int} {is':Bool} {er':Int} (h1:ShdRes L i k w' s g h is er) (h2:RShd L i k is' er'):is'=is∧er'=er:=by
 obtain⟨s1,is1,er1,hc,h1⟩:=h1
 have hl:=cl_link hc
 unfold RShd at h2
 rw[hl]at h2
 dsimp only at h2
 rcases h1 with ⟨rfl,rfl,rfl⟩ | ⟨rfl,rfl,x,y,hx,hy,h1⟩
 ·rcases h2 with ⟨_,rfl,rfl⟩ | ⟨h,_⟩
  ·exact⟨rfl,rfl⟩
  ·cases h
 ·rcases h2 with ⟨h,_⟩ | ⟨_,rfl,x',y',hx',hy',h2⟩
  ·cases h
  ·obtain rfl:x=x':=Option.some.inj (hx.symm.trans hx')
   obtain rfl:y=y':=Option.some.inj (hy.symm.trans hy')
   have hv:Xp L=true:=(clRef_at (by rw[hl])).2.1
   have ha:HdrOk (x.L.map (·.v)):=check_hdr (Uu hv (List.mem_of_getElem? hx)).2
   have hb:HdrOk (y.L.map (·.v)):=check_hdr (Uu hv (List.mem_of_getElem? hy)).2
   refine⟨?_,rfl⟩
   rcases h1 with ⟨rfl,h3⟩ | ⟨rfl,_,_,_,h4,h5⟩
   ·rcases h2 with ⟨rfl,_⟩ | ⟨_,p,q,h6,h7⟩
    ·rfl
    ·rw[apart_none ha hb h3 p q h6]at h7;cases h7
   ·rcases h2 with ⟨_,h3⟩ | ⟨rfl,_⟩
    ·rw[apart_none ha hb h3 g.h h.h h4]at h5;cases h5
    ·rfl
theorem dead_all (A:Option Addr) (n c:Nat) (i:Int) (L:List Qh) (w:World) (hL:Qs w A n L) (hf:∀ x∈L,Zw x.r) (hcp:∀ x∈L,Jk x) (hcap:n≤c) (hn:n≤10) (hE:Env w) (hT:Tab w) :
  Calls Tryz.prog 9 #[.slice A n c,.int .i64 i] w fun e w'=>∃ a is er,e=.returned (.tuple #[Kr.val a,.bool is,.int .i64 er])∧deRef L i=(is,er)∧Below w.heap.size w w':=by
 have hlen:=hL.len
 cases hok:Uo L i
 ·refine (dead_bad A n c i L w hlen hok hn (fun W hb=>WQ A n c L W (hL.keep hb) hf hcp (by omega) (hE.keep hb))).mono ?_
  rintro e w' ⟨rfl,hb⟩
  exact⟨UU,false,1,rfl,deRef_bad hok,hb⟩
 ·have h2:=hok
  unfold Uo at h2
  rw[Bool.and_eq_true,Bool.and_eq_true,decide_eq_true_eq,decide_eq_true_eq]at h2
  obtain⟨hv,h0,h1⟩:=h2
  obtain⟨k,rfl⟩:∃ k:Nat,i=(k:Int):=⟨i.toNat,by omega⟩
  obtain⟨x,hx⟩:∃ x,L[k]? = some x:=⟨_,List.getElem?_eq_getElem (by omega)⟩
  refine (dead_good A n c k L x w hL hf hcp hcap hn hE hT hv hx).mono ?_
  rintro e w' ⟨a,is,rfl,ha,hb⟩
  exact⟨a,is,0,rfl,(deRef_good hok hx).trans (de_link (by omega) hx ha),hb⟩
theorem rDead24_any (A:Option Addr) (n c:Nat) (i:Int) (L:List Qh) (w:World) (hL:Qs w A n L) (hf:∀ x∈L,Zw x.r) (hn:n≤1000) :
  Calls Tryz.prog 15 #[.slice A n c,.int .i64 i] w (Zx w (.agg #[.bool (deRef L i).1,.int .i64 (deRef L i).2])):=by
 have hlen:=hL.len
 cases hok:Uo L i
 ·rw[deRef_bad hok]
  exact rDead24_bad A n c i L w hL hf hn hok
 ·have h2:=hok
  unfold Uo at h2
  rw[Bool.and_eq_true,Bool.and_eq_true,decide_eq_true_eq,decide_eq_true_eq]at h2
  obtain⟨hv,h0,h1⟩:=h2
  obtain⟨k,rfl⟩:∃ k:Nat,i=(k:Int):=⟨i.toNat,by omega⟩
  obtain⟨x,hx⟩:∃ x,L[k]? = some x:=⟨_,List.getElem?_eq_getElem (by omega)⟩
  rw[deRef_good hok hx]
  exact rDead24_good A n c k L x w hL hf hn hv hx
theorem unruled_all (cust:ByteArray) (party:Int) (A:Option Addr) (n c:Nat) (L:List Qh) (w:World) (hL:Qs w A n L) (hf:∀ x∈L,Zw x.r) (hn:n≤10) (hcs:cust.size≤100) (hE:Env w) (hT:Tab w) :
  Calls Tryz.prog 10 #[polV cust party A n c] w fun e w'=>∃ s is er,e=.returned (.tuple #[.string s,.bool is,.int .i64 er])∧unRef cust party L=(is,er)∧Below w.heap.size w w':=by
 have hlen:=hL.len
 refine (unruled_any cust party A n c L w hL hf hn hcs hE hT).mono ?_
 rintro e w' ⟨hb,⟨h1,rfl⟩ | ⟨h1,s,is,rfl,h2,_⟩⟩
 ·exact⟨_,_,_,rfl,by unfold unRef;rw[if_neg h1],hb⟩
 ·exact⟨_,_,_,rfl,by unfold unRef;rw[if_pos h1];exact UW h2 (by have:=unrK_len L L.length;omega),hb⟩
end Go.Proofs.YticlbkficolocaaGreatDoor
