/- analyse.before. -/
import Derived.Test.YticlbkficolocaaGreatDoorIZ34
set_option maxHeartbeats 8000000
namespace Go.Proofs.YticlbkficolocaaGreatDoor
open Go.RowKit Go.Sort
set_option linter.unusedVariables false
set_option linter.unusedSimpArgs false
set_option maxRecDepth 100000
def BefPost (L:List Qh) (x:Qh) (i:Nat) (w:World) (e:Ending) (w':World):Prop :=
 Below w.heap.size w w'∧(((Ze x.r.tags).2≠0∧e=.returned (.tuple #[.slice none 0 0,.bool false]))∨((Ze x.r.tags).2=0∧∃ B d,e=.returned (.tuple #[.slice B (Z5 L x.r.tags i).length d,.bool true])∧Reads w' 1 B (Z5 L x.r.tags i).length ((Z5 L x.r.tags i).map .string)))
theorem V4:(Tryz.prog.info? 9).map (fun i=>(i.zero,i.size,i.bytes))=some (some (.string ⟨#[]⟩),1,16):=by kernel_rfl
theorem befor_any (A:Option Addr) (n c i:Nat) (L:List Qh) (x:Qh) (w:World) (hL:Qs w A n L) (hx:L[i]? = some x) (hn:n≤1000) (hcap:n≤c) (hf:∀ y∈L,Zw y.r) :
  Calls Tryz.prog 28 #[.slice A n c,.int .i64 (i:Int)] w (BefPost L x i w):=by
 obtain⟨hr,b,o,rfl,hcell⟩:=hL.at_ hx
 have hlen:=hL.len
 have hlt:i<n:=by have:=(List.getElem?_eq_some_iff.1 hx).1;omega
 have hxm:=List.mem_of_getElem? hx
 have hbox:LiS w.heap.size (some ⟨b,o,none⟩) n c i ((w.alloc (.cells #[.slice (some ⟨b,o,none⟩) n c] 23)).alloc (.cells #[.int .i64 (i:Int)] 3)):=⟨heap_alloc2_old w _ _,heap_alloc2_new w _ _⟩
 have cT:=fun (W:World) (hb:Below w.heap.size w W)=>tags_any x.T x.r.tags.length x.ct x.r.tags W (hr.tags.keep hb) (by have:=(hf x hxm).nt;omega) (fun p hp=>by have:=(hf x hxm).t p hp;omega)
 have cF:=fun (y:Qh) (hy:y∈L) (W:World) (hb:Below w.heap.size w W) (hS:LiS w.heap.size (some ⟨b,o,none⟩) n c i W)=>containsFuncS2_any 59 (enters_of Tryz.func59 (by kernel_rfl) rfl) (.pointer (some ⟨w.heap.size,0,none⟩)) (.pointer (some ⟨w.heap.size+1,0,none⟩)) (fun t=>!Lib.containsS x.r.tags t) y.T y.r.tags.length y.ct y.r.tags W (fun t _ W' hb'=>bef1_any t w.heap.size (some ⟨b,o,none⟩) n c i L x W' (hS.keep hb') (hL.keep (Qj hb hb')) hx hn (by have:=(hf x hxm).nt;omega)) ((hL.each y hy).tags.keep hb) (by have:=(hf y hy).nt;omega)
 have hcT:w.cell? ⟨b,o+i*18+2,none⟩=some (.slice x.T x.r.tags.length x.ct):=hcell 2 _ rfl
 obtain⟨i0,hi0,hz0,hz1,hz2⟩:=info_parts V4
 have HI:=Lib.hid (And.intro hi0 (And.intro hz0 (And.intro hz1 hz2)))
 clear hi0 hz0 hz1 hz2
 obtain⟨P,hP⟩:∃ P,P=BefPost L x i w:=⟨_,rfl⟩
 rw[←hP]
 have HP:=Lib.hid hP
 unfold tagsV at cT
 obtain⟨tv,htv⟩:∃ tv,tv=Ze x.r.tags:=⟨_,rfl⟩
 rw[←htv]at cT
 obtain⟨T,er⟩:=tv
 have HTV:=Lib.hid htv
 have hmf:∀ (fn:Fn) (first cap:Array Value) (w:World),(Instr.makeFunc fn first cap).run Tryz.prog w=.ok (.func fn first cap) w:=fun _ _ _ _=>rfl
 have HT:=Lib.hid cT;have HF:=Lib.hid cF;have HL:=Lib.hid hL;have HLN:=Lib.hid hlen;have HBX:=Lib.hid hbox
 clear hP cT cF hL hf hr hcell htv hbox hlen hxm
 have hi1:(0:Int)≤(i:Int):=by omega
 have hi2:(i:Int)<(n:Int):=by omega
 have hi3:(i:Int)≤(c:Int):=by omega
 by_cases h0:er=0
 rotate_left
 ·have e1:(er==0)=false:=beq_eq_false_iff_ne.2 h0
  have e2:(er != 0)=true:=bne_iff_ne.2 h0
  go_enter Tryz.func28,Tryz.ntmps28
  go_upto_region 1 with fail
  generalize hw0:World.alloc _ _=w0
  have hS:LiS w.heap.size (some ⟨b,o,none⟩) n c i w0:=by rw[←hw0];exact HBX.out
  have hbw:Below w.heap.size w w0:=by rw[←hw0];exact Qk (Qk (Below.refl _ _) _) _
  clear hw0
  have c0:w0.cell? ⟨w.heap.size,0,none⟩=some (.slice (some ⟨b,o,none⟩) n c):=hS.l.cell rfl
  have c1:w0.cell? ⟨w.heap.size+1,0,none⟩=some (.int .i64 i):=hS.i.cell rfl
  have c2:=Qq hbw hcT
  go_wp2_with (go_at_call 58;refine (HT.out _ hbw).mono ?_;rintro e w2 ⟨rfl,hb2⟩)
  rw[HP.out]
  exact⟨Qj hbw hb2,.inl ⟨by rw[←HTV.out];exact h0,rfl⟩⟩
 ·subst h0
  go_enter Tryz.func28,Tryz.ntmps28
  go_upto_region 1 with fail
  generalize hw0:World.alloc _ _=w0
  have hS:LiS w.heap.size (some ⟨b,o,none⟩) n c i w0:=by rw[←hw0];exact HBX.out
  have hbw:Below w.heap.size w w0:=by rw[←hw0];exact Qk (Qk (Below.refl _ _) _) _
  have hs0:w.heap.size+2≤w0.heap.size:=by rw[←hw0];simp
  clear hw0
  have c0:w0.cell? ⟨w.heap.size,0,none⟩=some (.slice (some ⟨b,o,none⟩) n c):=hS.l.cell rfl
  have c1:w0.cell? ⟨w.heap.size+1,0,none⟩=some (.int .i64 i):=hS.i.cell rfl
  have c2:=Qq hbw hcT
  go_upto_region 5 with (go_at_call 58;refine (HT.out _ hbw).mono ?_;rintro e w2 ⟨rfl,hb2⟩)
  have hS2:=hS.keep hb2
  have hbw2:=Qj hbw hb2
  have hs2:=hb2.size
  clear c0 c1 c2 hS
  have c0:w2.cell? ⟨w.heap.size,0,none⟩=some (.slice (some ⟨b,o,none⟩) n c):=hS2.l.cell rfl
  have c1:w2.cell? ⟨w.heap.size+1,0,none⟩=some (.int .i64 i):=hS2.i.cell rfl
  have HS2:=Lib.hid hS2
  have hown0:w2.ownsRow (w.heap.size+2) 9 1 (.slice none 0 0) (Z5 L x.r.tags 0).length ((Z5 L x.r.tags 0).map .string):=World.ownsRow_nil _ _ _ _
  have HO0:=Lib.hid hown0
  clear hS2 hown0 hbw hb2
  go_wp2_with fail
  clear c0 c1
  go_loopw [8,26] (fun ov iv wr=>∃ (k:Nat) (B:Option Addr) (d:Nat),k≤i∧iv=.int .i64 k∧ov=.slice B (Z5 L x.r.tags k).length d∧Hid (wr.ownsRow (w.heap.size+2) 9 1 (.slice B (Z5 L x.r.tags k).length d) (Z5 L x.r.tags k).length ((Z5 L x.r.tags k).map .string))∧Hid (LiS w.heap.size (some ⟨b,o,none⟩) n c i wr)∧Below w.heap.size w wr∧w.heap.size+2≤wr.heap.size) (fun _ iv _=>i-(intOf iv).toNat)
  case atStart=>exact⟨0,none,0,by omega,rfl,rfl,HO0,HS2,hbw2,by omega⟩
  case round =>
   obtain⟨k,B,d,hk,rfl,rfl,HO,HS,hbr,hsr⟩:=hrel
   clear HO0 HS2 hbw2
   by_cases hlk:k<i
   ·obtain⟨y,hy⟩:∃ y,L[k]? = some y:=⟨_,List.getElem?_eq_getElem (by have:=HLN.out;omega)⟩
    obtain⟨_,b',o',he,hcell⟩:=(HL.out.keep hbr).at_ hy
    injection he with he
    injection he with he1 he2 _
    subst he1;subst he2
    have hld:=Uj wr b (o+k*18) y hcell
    have hym:=List.mem_of_getElem? hy
    have hcf:=HF.out y hym
    have hsucc:=befK_succ (ts:=x.r.tags) hy
    have hkl:=Wu L x.r.tags k
    rw[sub_any]at hcf
    have hc1:y.cells.toArray[1]? = some (.string y.r.pat):=rfl
    have hc2:y.cells.toArray[2]? = some (.slice y.T y.r.tags.length y.ct):=rfl
    have hone:y.cells.toArray.all (·.oneCell')=true:=by rw[List.all_toArray];rfl
    have hsz2:y.cells.toArray.size=18:=by rw[List.size_toArray,y.cells_len]
    have hi18:(Tryz.prog.info? 57).map (·.size)=some y.cells.toArray.size:=by rw[hsz2];exact infRule
    have hsz:y.cells.toArray.size=(#[.string ⟨#[]⟩,.string ⟨#[]⟩,.slice none 0 0,.int .i64 0,.int .i64 0,.int .i64 0,.int .i64 0,.slice none 0 0,.int .i64 0,.int .i64 0,.string ⟨#[]⟩,.slice none 0 0,.slice none 0 0,.slice none 0 0,.int .i64 0,.bool false,.int .i64 0,.string ⟨#[]⟩]:Array Value).size:=by rw[hsz2];rfl
    unfold Qh.val at hld
    generalize y.cells.toArray=X at *
    generalize subB y.r.tags x.r.tags=sb at *
    have HLD:=Lib.hid hld;have HCF:=Lib.hid hcf;have HC1:=Lib.hid hc1;have HC2:=Lib.hid hc2;have HON:=Lib.hid hone;have HXS:=Lib.hid hsz2;have HI18:=Lib.hid hi18;have HSZ:=Lib.hid hsz;have HSU:=Lib.hid hsucc
    clear hld hcf hc1 hc2 hone hsz2 hi18 hsz hcell hy hym hsucc
    have hk0:(0:Int)≤(k:Int):=by omega
    have hk1:(k:Int)<(i:Int):=by omega
    have hsg:wr.heap.size<wr.heap.size+1:=by omega
    cases sb
    ·have hsu:=HSU.out
     rw[if_neg (by decide)]at hsu
     go_wp2_with (first | (refine Qw rfl 57 _ rfl ⟨b,o+k*18,none⟩ (.agg X) rfl HLD.out ?_) | (refine wpList_store_row rfl 57 _ _ rfl wr.heap.size X rfl rfl _ #[.string ⟨#[]⟩,.string ⟨#[]⟩,.slice none 0 0,.int .i64 0,.int .i64 0,.int .i64 0,.int .i64 0,.slice none 0 0,.int .i64 0,.int .i64 0,.string ⟨#[]⟩,.slice none 0 0,.slice none 0 0,.slice none 0 0,.int .i64 0,.bool false,.int .i64 0,.string ⟨#[]⟩] ((heap_alloc_new wr _).trans rfl) HI18.out HSZ.out.symm HON.out ?_;generalize hw6:World.setRow _ _ _=w6;have B6:Zl w6 wr.heap.size 57 X:=(by rw[←hw6];exact setRow_heap _ _ _ _ _ _ (heap_alloc_new wr _));have hb6:Below wr.heap.size wr w6:=(by rw[←hw6];exact below_setRow ((Below.refl _ _).alloc (Nat.le_refl _) _) (Nat.le_refl _) _);clear hw6;have x2:=B6.cell HC2.out;have x1:=B6.cell HC1.out) | (go_at_call 24;refine (HCF.out _ (Qj hbr hb6) (HS.out.keep hb6)).mono ?_;rintro e w7 ⟨rfl,hb7⟩))
     have hb67:=Qj hb6 hb7
     refine⟨⟨k+1,B,d,by omega,by go_num,by rw[hsu],by rw[hsu];exact Lib.hid (Ql HO.out hb67),Lib.hid (HS.out.keep hb67),Qj hbr hb67,by have:=hb67.size;omega⟩,by simp[intOf];omega⟩
    ·have hsu:=HSU.out
     rw[if_pos rfl]at hsu
     have hsl:(Z5 L x.r.tags (k+1)).length=(Z5 L x.r.tags k).length+1:=by rw[hsu];simp
     go_wp2_with (first | (refine Qw rfl 57 _ rfl ⟨b,o+k*18,none⟩ (.agg X) rfl HLD.out ?_) | (refine wpList_store_row rfl 57 _ _ rfl wr.heap.size X rfl rfl _ #[.string ⟨#[]⟩,.string ⟨#[]⟩,.slice none 0 0,.int .i64 0,.int .i64 0,.int .i64 0,.int .i64 0,.slice none 0 0,.int .i64 0,.int .i64 0,.string ⟨#[]⟩,.slice none 0 0,.slice none 0 0,.slice none 0 0,.int .i64 0,.bool false,.int .i64 0,.string ⟨#[]⟩] ((heap_alloc_new wr _).trans rfl) HI18.out HSZ.out.symm HON.out ?_;generalize hw6:World.setRow _ _ _=w6;have B6:Zl w6 wr.heap.size 57 X:=(by rw[←hw6];exact setRow_heap _ _ _ _ _ _ (heap_alloc_new wr _));have hb6:Below wr.heap.size wr w6:=(by rw[←hw6];exact below_setRow ((Below.refl _ _).alloc (Nat.le_refl _) _) (Nat.le_refl _) _);clear hw6;have x2:=B6.cell HC2.out;have x1:=B6.cell HC1.out) | (go_at_call 24;refine (HCF.out _ (Qj hbr hb6) (HS.out.keep hb6)).mono ?_;rintro e w7 ⟨rfl,hb7⟩;have hb67:=Qj hb6 hb7;have hs67:=hb67.size;have x1':=(B6.keep hb7).cell HC1.out) | (at_builtin;refine wpList_append_own _ rfl _ _ 22 rfl (w.heap.size+2) 9 i0 (.string ⟨#[]⟩) 1 16 Tryz.underlying22 HI.out.1 HI.out.2.1 HI.out.2.2.1 HI.out.2.2.2 rfl (by decide) _ _ _ rfl ((Ql HO.out hb67).alloc _) ⟨w7.heap.size,0,none⟩ 1 1 [.string y.r.pat] rfl rfl (cell_one_new _ _ _) (by simp[Value.oneCell']) (by unfold maxLen;omega) (by omega) (by simp;omega) ?_;intro v' w8 hown' hgrow _;obtain⟨g',cap',rfl⟩:=ownsRow_succ hown'))
     have hb8:Below (w.heap.size+2) w7 w8:=((Below.refl _ _).alloc (by omega) _).grown hgrow (by simp;omega) (fun r e=>Qu HO.out r e)
     have hs8:=hb8.size
     refine⟨⟨k+1,some ⟨g',0,none⟩,cap',by omega,by go_num,by rw[hsl],by rw[hsl,hsu,List.map_append];exact Lib.hid hown',Lib.hid ((HS.out.keep hb67).low hb8 (by omega)),(Qj hbr hb67).trans (hb8.mono (by omega)),by omega⟩,by simp[intOf];omega⟩
   ·obtain rfl:k=i:=by omega
    have hre:=Reads.of_own HO.out
    have HRE:=Lib.hid hre
    clear hre
    go_wp2_with fail
    rw[HP.out]
    exact⟨hbr,.inr ⟨by rw[←HTV.out],B,d,rfl,HRE.out⟩⟩
theorem writeByte_any (B b:Nat) (bs:List Value) (c:Int) (w:World) (h:Lib.IsBuilder 186 5 B b bs w) (hlen:bs.length+1≤140737488355328) (hBw:B≤w.heap.size) :
  Calls Tryz.prog 226 #[.pointer (some ⟨b,0,none⟩),.int .u8 c] w fun e w'=>e=.returned .nilIface∧(Lib.BuilderAt 186 5 B b (.pointer (some ⟨b,0,none⟩)) (bs++[.int .u8 c]) w'∧Below B w w'):=by
 obtain⟨i0,hi,hz0,hz1,hz2⟩:=info_parts infoByte
 go_enter Tryz.func226,Tryz.ntmps226
 go_wp2_with (go_at_call 186;refine (copyCheck_any B b bs _ h).mono ?_)
 rintro e w1 ⟨rfl,h1,hb1⟩
 obtain⟨hB,v,hbk,hown,hne⟩:=h1
 have c0:w1.cell? ⟨b,0,none⟩=some (.pointer (some ⟨b,0,none⟩)):=by rw[Lib.cell_of_heap hbk];rfl
 have c1:w1.cell? ⟨b,1,none⟩=some v:=by rw[Lib.cell_of_heap hbk];rfl
 have hlt:b<w1.heap.size:=by
  rcases Nat.lt_or_ge b w1.heap.size with h' | h'
  ·exact h'
  ·simp[Array.getElem?_eq_none h']at hbk
 go_wp2_with (at_builtin;refine wpList_append_own _ rfl _ _ 184 rfl B 5 i0 (.int .u8 0) 1 1 Tryz.underlying184 hi hz0 hz1 hz2 rfl (by decide) _ _ _ rfl (hown.alloc _) ⟨w1.heap.size,0,none⟩ 1 1 [.int .u8 c] rfl rfl (cell_one_new _ _ _) (by simp[Value.oneCell']) (by unfold maxLen;omega) (by omega) (by have:=hb1.size;simp;omega) ?_)
 intro v' w2 hown' hgrow _
 have hbk1:(w1.alloc (.cells #[.int .u8 c] 5)).heap[b]? = some (.cells #[.pointer (some ⟨b,0,none⟩),v] 186 (0,0)):=(heap_alloc_old w1 _ hlt).trans hbk
 have hb2:w2.heap[b]? = some (.cells #[.pointer (some ⟨b,0,none⟩),v] 186 (0,0)):=by
  rw[hgrow.block b (by simp;omega) (fun e=>hne e.symm)]
  exact hbk1
 have d0:w2.cell? ⟨b,0,none⟩=some (.pointer (some ⟨b,0,none⟩)):=by rw[Lib.cell_of_heap hb2];rfl
 have d1:w2.cell? ⟨b,1,none⟩=some v:=by rw[Lib.cell_of_heap hb2];rfl
 have f1:w2.frozen? ⟨b,1,none⟩=false:=Lib.frozen_of_heap hb2 1
 obtain⟨ao,n',cap,rfl⟩:∃ ao n' cap,v'=.slice ao n' cap:=by
  rcases hown'.2 with ⟨hv,_⟩ | ⟨g,cap,cur,hv,_⟩
  ·exact⟨_,_,_,hv⟩
  ·exact⟨_,_,_,hv⟩
 go_wp2
 go_ret
 refine⟨rfl,?_,?_⟩
 ·exact Lib.BuilderAt.put (T:=186) (e:=5) hB hb2 (bs':=bs++[.int .u8 c]) (by simpa using hown') (by decide)
 ·exact ((hb1.alloc (by have:=hb1.size;omega) _).grown hgrow (by have:=hb1.size;simp;omega) (fun k hk=>(hown.lt k hk).1)).setCell (p:=⟨b,1,none⟩) hB _
theorem escB_len (b:UInt8):(escB b).length≤3:=by
 unfold escB
 split
 ·decide
 ·split
  ·decide
  ·split <;> simp
theorem Yp:∀ s:List UInt8,(Jy s).length≤3*s.length
 | []=>by simp[Jy]
 | b :: s=>by
  have h1:=escB_len b
  have h2:=Yp s
  unfold Jy at h2 ⊢
  rw[List.flatMap_cons,List.length_append,List.length_cons]
  omega
theorem escL_succ (s:List UInt8) (k:Nat) (b:UInt8) (h:s[k]? = some b):Jy (s.take (k+1))=Jy (s.take k)++escB b:=by
 rw[List.take_add_one,h]
 unfold Jy
 rw[List.flatMap_append]
 simp
theorem escB_of (b:UInt8):escB b=if (b.toNat:Int)==37 then [37,50,53] else if (b.toNat:Int)==38 then [37,50,54] else if (b.toNat:Int)==61 then [37,51,100] else [b]:=by
 have h:∀ c:UInt8,(b=c)=(((b.toNat:Int)==(c.toNat:Int))=true):=fun c=>by
  rw[beq_iff_eq]
  apply propext
  constructor
  ·rintro rfl;rfl
  ·intro h;exact UInt8.toNat_inj.1 (by omega)
 unfold escB
 simp only[h]
 rfl
theorem escaped_any (s:ByteArray) (w:World) (hs:s.size≤100000):Calls Tryz.prog 204 #[.string s] w (Zx w (.string (Zd (Jy s.data.toList)))):=by
 have hB0:=Lib.fresh_isBuilder 186 5 w
 go_enter Tryz.func204,Tryz.ntmps204
 go_wp2_with fail
 go_loopw [7] (fun i wr=>∃ k:Nat,k≤s.size∧i=.int .i64 k∧Lib.IsBuilder 186 5 w.heap.size w.heap.size (Lib.byteCells (Jy (s.data.toList.take k))) wr∧Below w.heap.size w wr) (fun i _=>s.size-(intOf i).toNat)
 case atStart=>exact⟨0,Nat.zero_le _,rfl,hB0,Qz⟩
 case round =>
  obtain⟨k,hk,rfl,hB,hb⟩:=hrel
  clear hB0
  by_cases hlt:k<s.size
  ·have hl:k<s.data.toList.length:=by rw[←Lib.size_eq];exact hlt
   have hsk:s.data.toList[k]? = some s[k]:=by rw[List.getElem?_eq_getElem hl];simp;rfl
   have hsu:=escL_succ s.data.toList k s[k] hsk
   have hll:=Yp (s.data.toList.take k)
   have hll2:(Jy (s.data.toList.take k)).length≤3*k:=by rw[List.length_take]at hll;omega
   have HSU:=Lib.hid hsu;have HLL:=Lib.hid hll2
   clear hsk hsu hll hll2
   go_wp2_with (first | (go_at_call 157;refine (JK w.heap.size w.heap.size _ _ _ hB (by rw[Lib.byteCells_length];have:=HLL.out;simp only[Lib.size_eq,List.length_cons,List.length_nil];omega) hb.size).mono ?_;rintro e w2 ⟨rfl,hB2,hb2⟩) | (go_at_call 226;refine (writeByte_any w.heap.size w.heap.size _ _ _ hB (by rw[Lib.byteCells_length];have:=HLL.out;omega) hb.size).mono ?_;rintro e w2 ⟨rfl,hB2,hb2⟩))
   all_goals
    refine⟨⟨k+1,by omega,by go_num,?_,hb.trans hb2⟩,by simp[intOf];omega⟩
    rw[HSU.out,Yw,escB_of]
    first
     | (rw[if_pos (by assumption)];exact .inr hB2)
     | (rw[if_neg (by simp[*]),if_pos (by assumption)];exact .inr hB2)
     | (rw[if_neg (by simp[*]),if_neg (by simp[*]),if_pos (by assumption)];exact .inr hB2)
     | (rw[if_neg (by simp[*]),if_neg (by simp[*]),if_neg (by simp[*])];exact .inr hB2)
  ·obtain rfl:k=s.size:=by omega
   rw[List.take_of_length_le (by rw[Lib.size_eq];omega)]at hB
   go_wp2_with fail
   refine (Tryz.Builder_String_any w.heap.size w.heap.size (Jy s.data.toList) _ hB hb.size).mono ?_
   rintro e w2 ⟨rfl,hb2⟩
   go_wp2_with fail
   go_ret
   exact⟨rfl,hb.trans hb2⟩
def kpB (v:Zo) (x:ByteArray):ByteArray:=v.header++⟨#[61]⟩++Zd (Jy x.data.toList)
theorem kpB_data (v:Zo) (x:ByteArray):(kpB v x).data.toList=partV v x:=by
 unfold kpB partV
 simp[Zd]
theorem kpB_size (v:Zo) (x:ByteArray):(kpB v x).size≤v.header.size+1+3*x.size:=by
 unfold kpB
 have h:=Yp x.data.toList
 rw[ByteArray.size_append,ByteArray.size_append,Xw]
 have h1:(⟨#[61]⟩:ByteArray).size=1:=rfl
 rw[←Lib.size_eq]at h
 omega
theorem join_most (c:UInt8) (M:Nat):∀ l:List (List UInt8),(∀ x∈l,x.length≤M)→(Lib.join l [c]).length≤l.length*(M+1):=by
 have tl:∀ l:List (List UInt8),(∀ x∈l,x.length≤M)→(Lib.joinTail [c] l).length≤l.length*(M+1):=by
  intro l
  induction l with
  | nil=>intro _;simp[Lib.joinTail]
  | cons x l ih =>
   intro h
   have h1:=h x (by simp)
   have h2:=ih fun y hy=>h y (by simp[hy])
   have e:Lib.joinTail [c] (x :: l)=c :: (x++Lib.joinTail [c] l):=by simp[Lib.joinTail]
   rw[e,List.length_cons,List.length_append,List.length_cons,Nat.add_mul]
   omega
 intro l h
 cases l with
 | nil=>simp[Lib.join]
 | cons x l =>
  have h1:=h x (by simp)
  have h2:=tl l fun y hy=>h y (by simp[hy])
  rw[Lib.join_cons,List.length_append,List.length_cons,Nat.add_mul]
  omega
theorem mem_zip:∀ (l:List Zo) (xs:List ByteArray) (p:ByteArray),p∈List.zipWith kpB l xs→∃ v∈l,∃ x∈xs,p=kpB v x
 | [],_,p,h=>by simp at h
 | _ :: _,[],p,h=>by simp at h
 | v :: l,x :: xs,p,h=>by
  rw[List.zipWith_cons_cons]at h
  rcases List.mem_cons.1 h with rfl | h
  ·exact⟨v,by simp,x,by simp,rfl⟩
  ·obtain⟨v',h1,x',h2,e⟩:=mem_zip l xs p h
   exact⟨v',by simp[h1],x',by simp[h2],e⟩
def rowP (ps:List ByteArray) (n k:Nat):List Value:=(ps.take k).map .string++List.replicate (n-k) (.string ⟨#[]⟩)
theorem rowP_step (ps:List ByteArray) (n k:Nat) (p:ByteArray) (hk:k<n) (hp:ps[k]? = some p):(rowP ps n k).set k (.string p)=rowP ps n (k+1):=by
 have hl:((ps.take k).map Value.string).length=k:=by
  have:=(List.getElem?_eq_some_iff.1 hp).1
  rw[List.length_map,List.length_take];omega
 unfold rowP
 rw[List.set_append_right _ _ (by omega),hl,Nat.sub_self,show n-k=(n-(k+1))+1 by omega,List.replicate_succ,List.set_cons_zero,List.take_add_one,hp,List.map_append]
 simp
theorem rowP_end (ps:List ByteArray) (n:Nat) (h:ps.length=n):rowP ps n n=ps.map .string:=by
 unfold rowP
 rw[Nat.sub_self,List.take_of_length_le (by omega)]
 simp
theorem rowP_zero (ps:List ByteArray) (n:Nat):rowP ps n 0=(madeCells (Value.string ⟨#[]⟩).cells (n*1)).toList:=by
 unfold rowP
 rw[Nat.mul_one,show (Value.string ⟨#[]⟩).cells=#[.string ⟨#[]⟩] from rfl,toList_madeCells_one]
 simp
structure KeS (w:World) (bx:Nat) (X:Array Value) (g n:Nat) (row:List Value) (W:World):Prop where
 x:Zl W bx 98 X
 o:W.ownsRow w.heap.size 9 1 (.slice (some ⟨g,0,none⟩) n n) n row
 b:Below w.heap.size w W
theorem KeS.keep {w:World} {bx:Nat} {X:Array Value} {g n:Nat} {row:List Value} {W W':World} (h:KeS w bx X g n row W) (hb:Below W.heap.size W W'):KeS w bx X g n row W':=⟨h.x.keep hb,Ql h.o hb,Qj h.b hb⟩
theorem vkey_any (A:Option Addr) (n c:Nat) (L:List Qo) (B:Option Addr) (d:Nat) (xs:List ByteArray) (w:World) (hL:QX w A n L) (hR:Reads w 1 B n (xs.map .string)) (hf:∀ x∈L,Xi x.v) (hx:∀ x∈xs,x.size≤200) (hn:n≤10) :
  Calls Tryz.prog 178 #[.slice A n c,.slice B n d] w (Zx w (.string (Yz 38 (List.zipWith kpB (L.map (·.v)) xs)))):=by
 have hl:L.length=n:=hL.len
 have hxl:xs.length=n:=by have:=hR.1;simpa using this
 obtain⟨i0,hi0,hz0,hz1,hz2⟩:=info_parts V4
 have HI:=Lib.hid (And.intro hi0 (And.intro hz0 (And.intro hz1 hz2)))
 obtain⟨ps,hps⟩:∃ ps,ps=List.zipWith kpB (L.map (·.v)) xs:=⟨_,rfl⟩
 rw[←hps]
 have hpl:ps.length=n:=by rw[hps,List.length_zipWith,List.length_map];omega
 have hpz:∀ p∈ps,p.size≤1000:=by
  intro p hp
  rw[hps]at hp
  obtain⟨v,hv,x,hxm,rfl⟩:=mem_zip _ _ p hp
  obtain⟨y,hy,rfl⟩:=List.mem_map.1 hv
  have h1:=kpB_size y.v x
  have h2:=hx x hxm
  have h3:=(hf y hy).h
  omega
 have hpk:∀ (k:Nat) (y:Qo) (x:ByteArray),L[k]? = some y→xs[k]? = some x→ps[k]? = some (kpB y.v x):=fun k y x h1 h2=>by
  rw[hps,List.getElem?_zipWith,List.getElem?_map,h1,h2];rfl
 have HL:=Lib.hid hL;have HR:=Lib.hid hR;have HF:=Lib.hid hf;have HX:=Lib.hid hx;have HLN:=Lib.hid hl;have HXL:=Lib.hid hxl;have HPL:=Lib.hid hpl;have HPZ:=Lib.hid hpz;have HPK:=Lib.hid hpk
 clear hi0 hz0 hz1 hz2 hL hR hf hx hl hxl hps hpl hpz hpk
 go_enter Tryz.func178,Tryz.ntmps178
 go_wp2_with (refine wpList_make_full _ rfl _ _ 22 rfl w.heap.size 9 i0 (.string ⟨#[]⟩) 1 Tryz.underlying22 HI.out.1 HI.out.2.1 HI.out.2.2.1 .i64 .i64 n n n rfl rfl rfl rfl (by rw[HI.out.2.2.2];omega) (by unfold maxLen;omega) (by omega) ?_;intro w1 hown1 hgr1;have hb1:Below w.heap.size w w1:=(Below.refl _ _).grown hgr1 (Nat.le_refl _) (fun r e=>by cases e);have HOW:=Lib.hid hown1;clear hgr1 hown1)
 have hown1:=HOW.out
 rw[←rowP_zero ps n]at hown1
 have HOW1:=Lib.hid hown1
 clear hown1 HOW
 go_loopw [13] (fun iv wr=>∃ k:Nat,k≤n∧iv=.int .i64 k∧Hid (wr.ownsRow w.heap.size 9 1 (.slice (some ⟨w.heap.size,0,none⟩) n n) n (rowP ps n k))∧Below w.heap.size w wr) (fun iv _=>n-(intOf iv).toNat)
 case atStart=>exact⟨0,by omega,rfl,HOW1,hb1⟩
 case round =>
  obtain⟨k,hk,rfl,HO,hbr⟩:=hrel
  clear HOW1 hb1
  by_cases hlt:k<n
  ·obtain⟨y,hy⟩:∃ y,L[k]? = some y:=⟨_,List.getElem?_eq_getElem (by have:=HLN.out;omega)⟩
   obtain⟨x,hx⟩:∃ x,xs[k]? = some x:=⟨_,List.getElem?_eq_getElem (by have:=HXL.out;omega)⟩
   have hpk:=HPK.out k y x hy hx
   have hst:=rowP_step ps n k _ hlt hpk
   have hxz:=HX.out x (List.mem_of_getElem? hx)
   have hyz:=(HF.out y (List.mem_of_getElem? hy)).h
   obtain⟨_,b,o,rfl,hcell⟩:=(HL.out.keep hbr).at_ hy
   have hld:=Jf wr b (o+k*3) y hcell
   have hc0:y.cells.toArray[0]? = some (.string y.v.header):=rfl
   have hone:y.cells.toArray.all (·.oneCell')=true:=by rw[List.all_toArray];rfl
   have hsz2:y.cells.toArray.size=3:=by rw[List.size_toArray,y.cells_len]
   have hi3:(Tryz.prog.info? 98).map (·.size)=some y.cells.toArray.size:=by rw[hsz2];exact infVar
   have hsz:y.cells.toArray.size=(#[.string ⟨#[]⟩,.slice none 0 0,.string ⟨#[]⟩]:Array Value).size:=by rw[hsz2];rfl
   unfold Qo.val at hld
   unfold kpB at hst
   generalize y.cells.toArray=X at *
   generalize y.v.header=hd at *
   have HLD:=Lib.hid hld;have HC0:=Lib.hid hc0;have HON:=Lib.hid hone;have HXS:=Lib.hid hsz2;have HI3:=Lib.hid hi3;have HSZ:=Lib.hid hsz;have HST:=Lib.hid hst;have HXK:=Lib.hid hx
   clear hld hc0 hone hsz2 hi3 hsz hcell hx hy hpk hst
   obtain⟨bb,oo,u,hBe,hu,_⟩:=HR.out.at_ hlt
   subst hBe
   have hcx:∀ W,Below w.heap.size w W→W.cell? ⟨bb,oo+k,none⟩=some (.string x):=fun W hb=>by
    obtain⟨b',o',u',he,hu',hc⟩:=(HR.out.keep hb).at_ hlt
    injection he with he
    injection he with he1 he2
    subst he1;subst he2
    rw[List.getElem?_map,HXK.out]at hu'
    have:Value.string x=u':=Option.some.inj hu'
    rw[this];exact hc
   have HCX:=Lib.hid hcx
   clear hcx hu
   have hk0:(0:Int)≤(k:Int):=by omega
   have hk1:(k:Int)<(n:Int):=by omega
   go_upto_region 5 with (first | (refine Qw rfl 98 _ rfl ⟨b,o+k*3,none⟩ (.agg X) rfl HLD.out ?_) | (refine wpList_store_row rfl 98 _ _ rfl wr.heap.size X rfl rfl _ #[.string ⟨#[]⟩,.slice none 0 0,.string ⟨#[]⟩] ((heap_alloc_new wr _).trans rfl) HI3.out HSZ.out.symm HON.out ?_;generalize hw6:World.setRow _ _ _=w6;have B6:Zl w6 wr.heap.size 98 X:=(by rw[←hw6];exact setRow_heap _ _ _ _ _ _ (heap_alloc_new wr _));have hb6:Below wr.heap.size wr w6:=(by rw[←hw6];exact below_setRow ((Below.refl _ _).alloc (Nat.le_refl _) _) (Nat.le_refl _) _);clear hw6))
   have hks:KeS w wr.heap.size X w.heap.size n (rowP ps n k) w6:=⟨B6,Ql HO.out hb6,Qj hbr hb6⟩
   have HB:=Lib.hid hks
   have hes:=escaped_any x
   have hez:(Zd (Jy x.data.toList)).size≤600:=by
    have:=Yp x.data.toList
    rw[←Lib.size_eq]at this
    rw[Xw];omega
   obtain⟨bx,hbx⟩:∃ bx,bx=wr.heap.size:=⟨_,rfl⟩
   rw[←hbx]at HB
   rw[←hbx]
   have HES:=Lib.hid hes
   clear B6 hb6 hks HO hes hbx HLD HON HI3 HSZ HPK HF HX HL
   refine Xo 12 (by kernel_rfl) (by kernel_rfl) (by kernel_rfl) (fun i=>[.slice (some ⟨w.heap.size,0,none⟩) n n,.int .i64 k,.pointer (some ⟨bx,0,none⟩),.string hd,.string (hd++⟨#[61]⟩),.slice (some ⟨bb,oo,none⟩) n d,.int .i64 k,.pointer (some ⟨bb,oo+k,none⟩),.string x,.string (Zd (Jy x.data.toList)),.string (hd++⟨#[61]⟩++Zd (Jy x.data.toList)),.pointer (some ⟨w.heap.size,k,none⟩)].getD i undef) (KeS w bx X w.heap.size n (rowP ps n k)) (HB.out.keep (Below.drew (Below.refl _ _))) (fun _ _ h hb=>h.keep hb) ?_ ?_
   ·simp only[QU,Zj,Act.put]
    refine⟨fun W hS=>?_,fun W hS=>?_,fun W hS=>?_,fun W hS=>?_,fun W hS=>?_,fun W hS=>?_,fun W hS=>?_,fun W hS=>?_,fun W hS=>?_,fun W hS=>?_,fun W hS=>?_,fun W hS=>?_,trivial⟩
    all_goals
     have h0:=hS.x.cell HC0.out
     have hcW:=HCX.out W hS.b
     go_wp2_with (go_at_call 204;refine (HES.out _ (by omega)).mono ?_;rintro e w2 ⟨rfl,hb2⟩)
     all_goals first
      | exact⟨rfl,rfl,Qz⟩
      | (exfalso;omega)
   intro w9 hS9
   have hc9:w9.cell? ⟨w.heap.size,k,none⟩=some (.string ⟨#[]⟩):=by
    rw[hS9.o.cellAt k (by omega)]
    unfold rowP
    have hlk:((ps.take k).map Value.string).length=k:=by rw[List.length_map,List.length_take];have:=HPL.out;omega
    rw[List.getElem?_append_right (by omega),hlk,Nat.sub_self,List.getElem?_replicate,if_pos (by omega)]
   have hf9:=hS9.o.frozenAt k
   have HS9:=Lib.hid hS9
   clear hS9
   simp only[QU,Zj,Act.put]
   go_wp2
   refine⟨⟨k+1,by omega,by go_num,?_,HS9.out.b.setCell (p:=⟨w.heap.size,k,none⟩) (Nat.le_refl _) _⟩,by simp[intOf];omega⟩
   have hfin:=(HS9.out.o.stored k (.string (hd++⟨#[61]⟩++Zd (Jy x.data.toList)))).1
   rw[HST.out]at hfin
   exact Lib.hid hfin
  ·obtain rfl:k=n:=by omega
   have hown:=HO.out
   rw[rowP_end ps k HPL.out]at hown
   have hj:=sep_any 38 _ k k ps wr _ hown (by
    have:=join_most 38 1000 (ps.map (·.data.toList)) (fun x hx=>by
     obtain⟨p,hp,rfl⟩:=List.mem_map.1 hx
     rw[←Lib.size_eq];exact HPZ.out p hp)
    rw[List.length_map,HPL.out]at this
    omega)
   have HJ:=Lib.hid hj
   clear hj hown HO
   go_wp2_with (go_at_call 107;refine (HJ.out (by omega)).mono ?_;rintro e w4 ⟨rfl,hb4⟩)
   go_ret
   exact⟨rfl,Qj hbr hb4⟩
theorem rName23_any (s:ByteArray) (w:World) (hs:s.size≤1000000):Calls Tryz.prog 136 #[.string s] w (Zx w (.bool (Xh Uw s))):=by
 obtain⟨V,hV⟩:∃ V,V=Xh Uw s:=⟨_,rfl⟩
 rw[←hV]
 have HV:=Lib.hid hV
 clear hV
 go_enter Tryz.func136,Tryz.ntmps136
 go_wp2_with fail
 go_loopw [3] (fun i wr=>∃ k:Nat,k≤s.size∧i=.int .i64 k∧Hid ((s.data.toList.take k).all (fun b=>Uw b.toNat)=true)∧Below w.heap.size w wr) (fun i _=>s.size-(intOf i).toNat)
 case atStart=>exact⟨0,by omega,rfl,Lib.hid (by simp),Below.refl _ _⟩
 case round =>
  obtain⟨k,hk,rfl,HK,hb⟩:=hrel
  by_cases hlt:k<s.size
  ·have ht:=VZ s k hlt
   have hk0:(0:Int)≤(k:Int):=by omega
   have hk1:(k:Int)<(s.size:Int):=by omega
   have hcl:=u8_lt s[k]
   go_upto_region 5 with fail
   go_cut [32] (fun v wx=>v=.bool (!Uw s[k].toNat)∧wx=wr)
   case first =>
    clear ht HK
    generalize s[k].toNat=c at *
    go_wp2_with fail
    all_goals
     go_meet
     exact⟨congrArg Value.bool (by first | (rw[Bool.eq_iff_iff];simp[Uw];done) | (rw[Bool.eq_iff_iff];simp[Uw];omega)),rfl⟩
   case rest =>
    obtain⟨rfl,rfl⟩:=hcut
    cases hpb:Uw s[k].toNat
    ·obtain rfl:V=false:=by
      rw[HV.out]
      unfold Xh
      rw[Bool.and_eq_false_iff]
      refine .inl ?_
      rw[List.all_eq_false]
      exact⟨s[k],by
       have:s[k]∈s.data.toList.take (k+1):=by rw[ht];simp
       exact List.mem_of_mem_take this,by simp[hpb]⟩
     clear ht hpb
     simp only[Bool.not_false]
     go_wp2_with fail
     go_ret
     exact⟨rfl,hb⟩
    ·have HK2:Hid ((s.data.toList.take (k+1)).all (fun b=>Uw b.toNat)=true):=Lib.hid (by rw[ht,List.all_append,HK.out];simp[hpb])
     clear ht hpb
     simp only[Bool.not_true]
     go_wp2_with fail
     exact⟨⟨k+1,by omega,by go_num,HK2,hb⟩,by simp[intOf];omega⟩
  ·have hall:V=(decide (1≤s.size)&&decide (s.size≤64)):=by
    have:=HK.out
    rw[List.take_of_length_le (by rw[←Lib.size_eq];omega)]at this
    rw[HV.out,Xh,this,Bool.true_and]
   by_cases h1:1≤s.size
   ·have d1:decide ((1:Int)≤(s.size:Int))=true:=decide_eq_true (by omega)
    by_cases h2:s.size≤64
    ·have d2:decide ((s.size:Int)≤64)=true:=decide_eq_true (by omega)
     obtain rfl:V=true:=by rw[hall,decide_eq_true h1,decide_eq_true h2];rfl
     clear hall
     go_wp2_with fail
     go_ret
     exact⟨rfl,hb⟩
    ·have d2:decide ((s.size:Int)≤64)=false:=decide_eq_false (by omega)
     obtain rfl:V=false:=by rw[hall,decide_eq_false h2,Bool.and_false]
     clear hall
     go_wp2_with fail
     go_ret
     exact⟨rfl,hb⟩
   ·have d1:decide ((1:Int)≤(s.size:Int))=false:=decide_eq_false (by omega)
    obtain rfl:V=false:=by rw[hall,decide_eq_false h1,Bool.false_and]
    clear hall
    go_wp2_with fail
    go_ret
    exact⟨rfl,hb⟩
theorem rValue23_any (s:ByteArray) (w:World) (hs:s.size≤1000000):Calls Tryz.prog 137 #[.string s] w (Zx w (.bool (Xh Xf s))):=by
 obtain⟨V,hV⟩:∃ V,V=Xh Xf s:=⟨_,rfl⟩
 rw[←hV]
 have HV:=Lib.hid hV
 clear hV
 go_enter Tryz.func137,Tryz.ntmps137
 go_wp2_with fail
 go_loopw [3] (fun i wr=>∃ k:Nat,k≤s.size∧i=.int .i64 k∧Hid ((s.data.toList.take k).all (fun b=>Xf b.toNat)=true)∧Below w.heap.size w wr) (fun i _=>s.size-(intOf i).toNat)
 case atStart=>exact⟨0,by omega,rfl,Lib.hid (by simp),Below.refl _ _⟩
 case round =>
  obtain⟨k,hk,rfl,HK,hb⟩:=hrel
  by_cases hlt:k<s.size
  ·have ht:=VZ s k hlt
   have hk0:(0:Int)≤(k:Int):=by omega
   have hk1:(k:Int)<(s.size:Int):=by omega
   have hcl:=u8_lt s[k]
   go_upto_region 4 with fail
   go_cut [19] (fun v wx=>v=.bool (!Xf s[k].toNat)∧wx=wr)
   case first =>
    clear ht HK
    go_wp2_with fail
    all_goals
     go_meet
     exact⟨congrArg Value.bool (by first | (rw[Bool.eq_iff_iff];simp[Xf];done) | (rw[Bool.eq_iff_iff];simp[Xf];omega)),rfl⟩
   case rest =>
    obtain⟨rfl,rfl⟩:=hcut
    cases hpb:Xf s[k].toNat
    ·obtain rfl:V=false:=by
      rw[HV.out]
      unfold Xh
      rw[Bool.and_eq_false_iff]
      refine .inl ?_
      rw[List.all_eq_false]
      exact⟨s[k],by
       have:s[k]∈s.data.toList.take (k+1):=by rw[ht];simp
       exact List.mem_of_mem_take this,by simp[hpb]⟩
     clear ht hpb
     simp only[Bool.not_false]
     go_wp2_with fail
     go_ret
     exact⟨rfl,hb⟩
    ·have HK2:Hid ((s.data.toList.take (k+1)).all (fun b=>Xf b.toNat)=true):=Lib.hid (by rw[ht,List.all_append,HK.out];simp[hpb])
     clear ht hpb
     simp only[Bool.not_true]
     go_wp2_with fail
     exact⟨⟨k+1,by omega,by go_num,HK2,hb⟩,by simp[intOf];omega⟩
  ·have hall:V=(decide (1≤s.size)&&decide (s.size≤64)):=by
    have:=HK.out
    rw[List.take_of_length_le (by rw[←Lib.size_eq];omega)]at this
    rw[HV.out,Xh,this,Bool.true_and]
   by_cases h1:1≤s.size
   ·have d1:decide ((1:Int)≤(s.size:Int))=true:=decide_eq_true (by omega)
    by_cases h2:s.size≤64
    ·have d2:decide ((s.size:Int)≤64)=true:=decide_eq_true (by omega)
     obtain rfl:V=true:=by rw[hall,decide_eq_true h1,decide_eq_true h2];rfl
     clear hall
     go_wp2_with fail
     go_ret
     exact⟨rfl,hb⟩
    ·have d2:decide ((s.size:Int)≤64)=false:=decide_eq_false (by omega)
     obtain rfl:V=false:=by rw[hall,decide_eq_false h2,Bool.and_false]
     clear hall
     go_wp2_with fail
     go_ret
     exact⟨rfl,hb⟩
   ·have d1:decide ((1:Int)≤(s.size:Int))=false:=decide_eq_false (by omega)
    obtain rfl:V=false:=by rw[hall,decide_eq_false h1,Bool.false_and]
    clear hall
    go_wp2_with fail
    go_ret
    exact⟨rfl,hb⟩
theorem rHas23_any (A:Option Addr) (n c:Nat) (xs:List ByteArray) (s:ByteArray) (w:World) (hA:Reads w 1 A n (xs.map .string)) (hn:n≤1000000000):Calls Tryz.prog 138 #[.slice A n c,.string s] w (Zx w (.bool (Lib.containsS xs s))):=by
 have hl:xs.length=n:=by have:=hA.1;simp at this;omega
 obtain⟨V,hV⟩:∃ V,V=Lib.containsS xs s:=⟨_,rfl⟩
 rw[←hV]
 have HA:=Lib.hid hA;have HL:=Lib.hid hl;have HV:=Lib.hid hV
 clear hA hl hV
 go_enter Tryz.func138,Tryz.ntmps138
 go_wp2
 go_loopw [5] (fun i wr=>∃ k:Nat,k≤n∧i=.int .i64 k∧Hid (s ∉ xs.take k)∧Below w.heap.size w wr) (fun i _=>n-(intOf i).toNat)
 case atStart=>exact⟨0,by omega,rfl,Lib.hid (by simp),Below.refl _ _⟩
 case round =>
  obtain⟨k,hk,rfl,HK,hb⟩:=hrel
  by_cases hlt:k<n
  ·obtain⟨x,hx⟩:∃ x,xs[k]? = some x:=⟨_,List.getElem?_eq_getElem (by have:=HL.out;omega)⟩
   obtain⟨pb,po,rfl,hcell⟩:=(HA.out.keep hb).2 (by omega)
   have hc1:wr.cell? ⟨pb,po+k,none⟩=some (.string x):=hcell k _ (by simp[hx])
   have hk0:(0:Int)≤(k:Int):=by omega
   have hk1:(k:Int)<(n:Int):=by omega
   cases he:(x.toList==s.toList)
   ·have hne:x≠s:=fun e=>by rw[e]at he;simp at he
    have HK2:Hid (s ∉ xs.take (k+1)):=Lib.hid (by
     rw[List.take_add_one,hx]
     intro h
     rcases List.mem_append.1 h with h | h
     ·exact HK.out h
     ·simp at h;exact hne h.symm)
    clear HK hcell hx hne
    go_wp2
    exact⟨⟨k+1,by omega,by go_num,HK2,hb⟩,by simp[intOf];omega⟩
   ·obtain rfl:V=true:=by
     rw[HV.out,Lib.containsS_iff]
     have:x=s:=(Yi x s).1 he
     rw[←this]
     exact List.mem_of_getElem? hx
    clear HK hcell hx
    go_wp2
    go_ret
    exact⟨rfl,hb⟩
  ·obtain rfl:V=false:=by
    rw[HV.out,Bool.eq_false_iff,ne_eq,Lib.containsS_iff]
    have:=HK.out
    rwa [List.take_of_length_le (by have:=HL.out;omega)]at this
   go_wp2
   go_ret
   exact⟨rfl,hb⟩
theorem rOf23_any (A:Option Addr) (n c:Nat) (L:List Qo) (h:ByteArray) (w:World) (hL:QX w A n L) (hn:n≤1000000):Calls Tryz.prog 85 #[.slice A n c,.string h] w (Zx w (.int .i64 (ofV L h))):=by
 have hl:L.length=n:=hL.len
 obtain⟨V,hV⟩:∃ V,V=ofV L h:=⟨_,rfl⟩
 rw[←hV]
 unfold ofV at hV
 have HA:=Lib.hid hL;have HL:=Lib.hid hl;have HV:=Lib.hid hV
 clear hL hl hV
 go_enter Tryz.func85,Tryz.ntmps85
 go_wp2
 go_loopw [5] (fun i wr=>∃ k:Nat,k≤n∧i=.int .i64 k∧Hid (V=XZ (fun x:Qo=>x.v.header.toList==h.toList) (L.drop k) k)∧Below w.heap.size w wr) (fun i _=>n-(intOf i).toNat)
 case atStart=>exact⟨0,by omega,rfl,HV,Below.refl _ _⟩
 case round =>
  obtain⟨k,hk,rfl,HK,hb⟩:=hrel
  by_cases hlt:k<n
  ·obtain⟨x,hx⟩:∃ x,L[k]? = some x:=⟨_,List.getElem?_eq_getElem (by have:=HL.out;omega)⟩
   obtain⟨_,b,o,rfl,hcell⟩:=(HA.out.keep hb).at_ hx
   have hc1:wr.cell? ⟨b,o+k*3,none⟩=some (.string x.v.header):=hcell 0 _ rfl
   have hd:L.drop k=x :: L.drop (k+1):=by
    obtain⟨hl2,rfl⟩:=List.getElem?_eq_some_iff.1 hx
    exact List.drop_eq_getElem_cons hl2
   have hk0:(0:Int)≤(k:Int):=by omega
   have hk1:(k:Int)<(n:Int):=by omega
   have HI:=HK.out
   rw[hd,XZ]at HI
   cases he:(x.v.header.toList==h.toList)
   ·rw[he,if_neg (by decide)]at HI
    have HK2:=Lib.hid HI
    clear HK HI hcell hx hd
    go_wp2
    exact⟨⟨k+1,by omega,by go_num,HK2,hb⟩,by simp[intOf];omega⟩
   ·rw[he,if_pos rfl]at HI
    have HK2:=Lib.hid HI
    clear HK HI hcell hx hd
    go_wp2
    go_ret
    exact⟨Kq HK2.out.symm,hb⟩
  ·have he:V = -1:=by rw[HK.out,List.drop_eq_nil_of_le (by have:=HL.out;omega)];rfl
   subst he
   clear HK
   go_wp2
   go_ret
   exact⟨rfl,hb⟩
end Go.Proofs.YticlbkficolocaaGreatDoor
