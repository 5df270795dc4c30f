/- Plain: a search for a gap, one number of parts after the other; the words that an example is made of. -/
import Derived.Test.YticlbkficolocaaGreatDoorIZ30
import Derived.Test.YticlbkficolocaaGreatDoorIZ27
set_option maxHeartbeats 8000000
namespace Go.Proofs.YticlbkficolocaaGreatDoor
open Go.RowKit Go.Sort
set_option linter.unusedVariables false
set_option linter.unusedSimpArgs false
set_option maxRecDepth 100000
theorem find_from {f:Nat→Bool}:∀ (n a k:Nat),k<n→(∀ j,j<k→f (a+j)=false)→f (a+k)=true→(List.range' a n).find? f=some (a+k)
 | 0,_,_,h,_,_=>by omega
 | n+1,a,0,_,_,h=>by
  rw[List.range'_succ,List.find?_cons,show f a=true from h];rfl
 | n+1,a,k+1,hk,h0,h=>by
  have h1:f a=false:=h0 0 (by omega)
  have ih:=find_from (f:=f) n (a+1) k (by omega) (fun j hj=>by have:=h0 (j+1) (by omega);rwa [show a+(j+1)=a+1+j by omega]at this) (by rwa [show a+(k+1)=a+1+k by omega]at h)
  rw[List.range'_succ,List.find?_cons,h1]
  dsimp only
  rw[ih,show a+1+k=a+(k+1) by omega]
theorem find_not {f:Nat→Bool} (n a:Nat) (h:∀ j,j<n→f (a+j)=false):(List.range' a n).find? f=none:=by
 rw[List.find?_eq_none]
 intro y hy
 rw[List.mem_range'_1]at hy
 have:=h (y-a) (by omega)
 rw[show a+(y-a)=y by omega]at this
 rw[this];decide
theorem ex_match {bs:List ByteArray} {ys:List Z7} {x:Z7} {m:Nat} {c:ByteArray} {ws:List ByteArray} (hb:bs.map Qx=ys.map some) (hx:Zt x) (hm:x.parts.length≤m) (h32:m≤32) (he:Exam (partsOf ys) x m c ws) :
  (bs.any fun q=>Zk q (Xt (c :: ws)))=ys.any fun y=>atB y x m:=by
 have hl:ws.length≤32:=by rw[he.len];exact h32
 rw[Bool.eq_iff_iff,List.any_eq_true,List.any_eq_true]
 constructor
 ·rintro⟨q,hq,h⟩
  obtain⟨y,hy,e⟩:=back_of hb hq
  refine⟨y,hy,?_⟩
  rw[Wx e he.name he.words hl,exam_at hx (Zq e) (fun q hq=>List.mem_flatMap.2 ⟨y,hy,hq⟩) hm he]at h
  exact h
 ·rintro⟨y,hy,h⟩
  obtain⟨q,hq,e⟩:=fore_of hb hy
  refine⟨q,hq,?_⟩
  rw[Wx e he.name he.words hl,exam_at hx (Zq e) (fun q hq=>List.mem_flatMap.2 ⟨y,hy,hq⟩) hm he]
  exact h
theorem not_any {ys:List Z7} {x:Z7} {m:Nat}:(ys.all fun y=>!atB y x m) = !(ys.any fun y=>atB y x m):=by
 rw[Bool.eq_iff_iff]
 simp[List.all_eq_true]
def YW (x:Z7) (ys:List Z7) (k:Nat):Prop:=∀ j,j<k→(ys.any fun y=>atB y x (x.parts.length+j))=true
theorem YW.zero (x:Z7) (ys:List Z7):YW x ys 0:=fun j hj=>absurd hj (Nat.not_lt_zero j)
theorem YW.succ {x:Z7} {ys:List Z7} {k:Nat} (h:YW x ys k) (h2:(ys.any fun y=>atB y x (x.parts.length+k))=true):YW x ys (k+1):=by
 intro j hj
 rcases Nat.lt_or_ge j k with hl | hl
 ·exact h j hl
 ·obtain rfl:j=k:=by omega
  exact h2
theorem gap_hit {p:ByteArray} {bs:List ByteArray} {x:Z7} {ys:List Z7} {k:Nat} {c:ByteArray} {ws:List ByteArray} (hp:Qx p=some x) (hb:bs.map Qx=ys.map some) (hk:x.parts.length+k≤J7 x) (h0:YW x ys k)
  (h:(bs.any fun q=>Zk q (Xt (c :: ws)))=false) (he:Exam (partsOf ys) x (x.parts.length+k) c ws):ZU p bs (Xt (c :: ws)) true:=by
 have hx:=Zq hp
 have hm:=most_le hx
 refine⟨x,ys,hp,hb,.inr ⟨x.parts.length+k,c,ws,?_,rfl,rfl,he⟩⟩
 unfold gapN
 refine find_from _ _ _ (by omega) (fun j hj=>?_) ?_
 ·rw[not_any,h0 j hj];rfl
 ·rw[ex_match hb hx (by omega) (by omega) he]at h
  rw[not_any,h];rfl
theorem gap_miss {p:ByteArray} {bs:List ByteArray} {x:Z7} {ys:List Z7} (hp:Qx p=some x) (hb:bs.map Qx=ys.map some) (h0:YW x ys (J7 x+1-x.parts.length)):ZU p bs ⟨#[]⟩ false:=by
 refine⟨x,ys,hp,hb,.inl ⟨?_,rfl,rfl⟩⟩
 unfold gapN
 refine find_not _ _ (fun j hj=>?_)
 rw[not_any,h0 j hj];rfl
def Ux (named:List ByteArray) (p:Part) (w:ByteArray):Prop:=(p.kind=0∧w=p.text)∨(p.kind≠0∧∃ j,j≤1000000∧w=wE j p.text∧w ∉ named)
theorem Ux.fresh {named:List ByteArray} {qs:List Part} {p:Part} {w:ByteArray} (hq:∀ q∈qs,q.kind=0→q.text∈named) (h:Ux named p w):YY qs p w:=by
 rcases h with h | ⟨hk,j,_,rfl,hn⟩
 ·exact .inl h
 ·exact fresh_found hq hk hn
theorem Ux.word {named:List ByteArray} {p:Part} {w:ByteArray} (hp:Qa p) (h:Ux named p w):Qg w=true:=by
 rcases h with ⟨hk,rfl⟩ | ⟨hk,j,hj,rfl,_⟩
 ·rcases hp with ⟨_,h⟩ | ⟨h,_⟩ | ⟨h,_⟩
  ·exact h
  ·omega
  ·omega
 ·exact wE_word hp hk j hj
theorem wE_nil (j:Nat):wE j ⟨#[]⟩=wN j:=by
 refine Qm ?_
 rw[Y1,Vp]
 simp
theorem Ux.name {named:List ByteArray} {p:Part} {w:ByteArray} (hp:Jj p) (h:Ux named p w):Qy w=true:=by
 rcases h with ⟨hk,rfl⟩ | ⟨hk,j,hj,rfl,_⟩
 ·rcases hp with ⟨_,h⟩ | ⟨h,_⟩
  ·exact h
  ·omega
 ·rcases hp with ⟨h,_⟩ | ⟨_,h⟩
  ·omega
  ·rw[h,wE_nil];exact wN_name j hj
structure Made (named:List ByteArray) (ps:List Part) (ws:List ByteArray):Prop where
 len:ws.length=ps.length
 each:∀ (k:Nat) (p:Part) (w:ByteArray),ps[k]? = some p→ws[k]? = some w→Ux named p w
theorem Made.nil (named:List ByteArray):Made named [] []:=⟨rfl,fun k p w h=>by simp at h⟩
theorem Made.snoc {named:List ByteArray} {ps:List Part} {ws:List ByteArray} {p:Part} {w:ByteArray} (h:Made named ps ws) (hw:Ux named p w):Made named (ps++[p]) (ws++[w]):=by
 refine⟨by simp[h.len],fun k q v hq hv=>?_⟩
 rcases Nat.lt_or_ge k ps.length with hl | hl
 ·rw[List.getElem?_append_left hl]at hq
  rw[List.getElem?_append_left (by rw[h.len];exact hl)]at hv
  exact h.each k q v hq hv
 ·rw[List.getElem?_append_right hl]at hq
  rw[List.getElem?_append_right (by rw[h.len];exact hl),h.len]at hv
  have hk:k-ps.length=0:=by
   have:=(List.getElem?_eq_some_iff.1 hq).1
   simp at this;omega
  rw[hk]at hq hv
  simp at hq hv
  subst hq;subst hv
  exact hw
theorem exam_of {named:List ByteArray} {qs:List Part} {x:Z7} {m:Nat} {c:ByteArray} {ws:List ByteArray} (hq:∀ q∈qs,q.kind=0→q.text∈named) (hx:Zt x) (hm:x.parts.length≤m) (hc:Ux named x.cust c) (hw:Made named (ZW x m) ws):Exam qs x m c ws:=by
 have hl:=hw.len
 rw[KU x m hm]at hl
 refine⟨hc.name hx.cust,hc.fresh hq,fun w hww=>?_,hl,fun k p w h1 h2=>(hw.each k p w h1 h2).fresh hq⟩
 obtain⟨k,hk⟩:=List.mem_iff_getElem?.1 hww
 have hk2:=(List.getElem?_eq_some_iff.1 hk).1
 have h3:(ZW x m)[k]? = some ((ZW x m)[k]'(by rw[KU x m hm];omega)):=List.getElem?_eq_getElem _
 exact (hw.each k _ w h3 hk).word (VY hx m _ (List.getElem_mem _))
open Go.Maps
theorem splitOwn_any (s:ByteArray) (c:UInt8) (w:World) (hs:s.size≤1000000) (hE:Env w):Calls Tryz.prog 88 #[.string s,.string ⟨#[c]⟩] w fun e w'=>e=.returned (.slice (some ⟨w.heap.size,0,none⟩) (splitB c s).length (splitB c s).length)∧w'.ownsRow w.heap.size 9 1 (.slice (some ⟨w.heap.size,0,none⟩) (splitB c s).length (splitB c s).length) (splitB c s).length ((splitB c s).map .string)∧Below w.heap.size w w':=by
 obtain⟨m,hm⟩:=hE
 refine (Tryz.strings_Split s ⟨#[c]⟩ m w (by omega) hm (show 1≤1 from Nat.le_refl _)).mono ?_
 rintro e w' ⟨rfl,rfl⟩
 have he:=split_eq c _ s rfl
 have hl:=count_split c s
 rw[he,hl]
 refine⟨rfl,?_,Qk (Below.refl _ _) _⟩
 have hlen:(splitB c s).length≤s.size+1:=Ku c s
 have h:=World.ownsRow_lit (base:=w.heap.size) (e:=9) (size:=1) w ((splitB c s).map Value.string).toArray (splitB c s).length (Nat.le_refl _) (by unfold maxLen;omega) (by simp)
 simpa using h
theorem V6 (A:Option Addr) (n c:Nat) (ps:List ByteArray) (tag:ByteArray) (W:World) (hR:Reads W 1 A n (ps.map .string)) (hn:n≤1000000):Calls Tryz.prog 60 #[.slice A n c,.string tag] W (Zx W (.bool (Lib.containsS ps tag))):=by
 have hl:ps.length=n:=by have:=hR.1;simpa using this
 subst hl
 by_cases h0:ps=[]
 ·subst h0
  refine (Tryz.slices_Contains_string_empty A c tag W).mono ?_
  rintro e w' ⟨rfl,rfl⟩
  exact⟨rfl,Below.refl _ _⟩
 ·obtain⟨b,o,rfl,hc⟩:=hR.2 (List.length_pos_iff.2 h0)
  have:=Tryz.slices_Contains_string b o ps.length c ps tag W (Nat.le_refl _) (by omega) (fun j hj=>by
   refine hc j _ ?_
   rw[List.getElem?_map,List.getElem?_eq_getElem hj]
   simp[List.getD_eq_getElem?_getD,List.getElem?_eq_getElem hj])
  refine this.mono ?_
  rintro e w' ⟨rfl,rfl⟩
  rw[List.take_length]
  exact⟨rfl,Below.refl _ _⟩
def SpV (q:ByteArray):Value→World→Prop:=fun v W=>∃ g,v=.slice (some ⟨g,0,none⟩) (splitB 47 q).length (splitB 47 q).length∧Reads W 1 (some ⟨g,0,none⟩) (splitB 47 q).length ((splitB 47 q).map .string)
theorem keeps_sp (q:ByteArray):Keeps (SpV q):=fun _ _ _ ⟨g,e,hr⟩ hb=>⟨g,e,hr.keep hb⟩
theorem ex1_any (q x:ByteArray) (b:Nat) (w:World) (hc:w.cell? ⟨b,0,none⟩=some (.string x)) (hq:q.size≤100000) (hE:Env w):Calls Tryz.prog 106 #[.string q,.pointer (some ⟨b,0,none⟩)] w (Zx w (.bool (Lib.containsS (splitB 47 q) x))):=by
 have cS:=fun W (hb:Below w.heap.size w W)=>strSplit_any q 47 W (by omega) (Env.keep hE hb)
 have cK:=fun A n c W hR hn=>V6 A n c (splitB 47 q) x W hR hn
 have hnum:=Ku 47 q
 generalize Lib.containsS (splitB 47 q) x=v at *
 have HS:=Lib.hid cS;have HK:=Lib.hid cK;have HNUM:=Lib.hid hnum
 clear cS cK hnum
 go_enter Tryz.func106,Tryz.ntmps106
 go_upto_region 1 with fail
 refine Ye 4 (by kernel_rfl) (by kernel_rfl) (by kernel_rfl) (DL [Jz (.string q),SpV q,Jz (.string x),Jz (.bool v)]) (DL.keep _ ⟨Uf _,keeps_sp _,Uf _,Uf _,trivial⟩) (fun W=>Below w.heap.size w W∧W.cell? ⟨b,0,none⟩=some (.string x)) ⟨Below.drew (Below.refl _ _),hc⟩ (fun _ _ h hb=>⟨Qj h.1 hb,Qq hb h.2⟩) ?_ ?_
 ·dsimp only[List.take_succ_cons,List.take_zero,DetD]
  refine⟨fun vals W hS hd=>?_,fun vals W hS hd=>?_,fun vals W hS hd=>?_,fun vals W hS hd=>?_,trivial⟩
  ·(try simp only[Ky,DL,Jz,List.getD_cons_zero,List.getD_cons_succ,Region.binds,and_true,true_and]at hd)
   simp only[QU,Zj,Act.put]
   clear hd
   go_wp2
   exact⟨rfl,rfl,rfl,Qz⟩
  ·(try simp only[Ky,DL,Jz,List.getD_cons_zero,List.getD_cons_succ,Region.binds,and_true,true_and]at hd)
   simp only[QU,Zj,Act.put]
   (try simp only[hd])
   clear hd
   go_wp2_with (go_at_call 88;refine (HS.out W hS.1).mono ?_;rintro e w2 ⟨rfl,hR2,hb2⟩)
   exact⟨rfl,⟨_,rfl,hR2⟩,rfl,hb2⟩
  ·(try simp only[Ky,DL,Jz,List.getD_cons_zero,List.getD_cons_succ,Region.binds,and_true,true_and]at hd)
   simp only[QU,Zj,Act.put]
   clear hd
   have cc:=hS.2
   go_wp2
   exact⟨rfl,rfl,rfl,Qz⟩
  ·(try simp only[Ky,DL,Jz,List.getD_cons_zero,List.getD_cons_succ,Region.binds,and_true,true_and]at hd)
   obtain⟨⟨g,e1,hR1⟩,e2⟩:=hd
   simp only[QU,Zj,Act.put]
   simp only[e1,e2]
   go_wp2_with (go_at_call 60;refine (HK.out _ _ _ W hR1 (by have:=HNUM.out;omega)).mono ?_;rintro e w2 ⟨rfl,hb2⟩)
   exact⟨rfl,rfl,rfl,hb2⟩
 ·intro vals w9 hS9 hD
  have e3:vals 3=.bool v:=hD 3 (by omega)
  simp only[QU,Zj,Act.put]
  simp only[e3]
  have hbE:=hS9.1
  clear hD
  go_wp2
  go_ret
  exact⟨rfl,hbE⟩
theorem named_has (bs:List ByteArray) (x:ByteArray):(bs.any fun q=>Lib.containsS (splitB 47 q) x)=Yk (Zc bs).reverse x:=by
 rw[Bool.eq_iff_iff,List.any_eq_true,hasN_iff,List.mem_reverse]
 unfold Zc
 rw[List.mem_flatMap]
 exact exists_congr fun q=>and_congr_right fun _=>Lib.containsS_iff _ _
theorem anyNamed_any (A:Option Addr) (n c:Nat) (bs:List ByteArray) (x:ByteArray) (b:Nat) (w:World) (hR:Reads w 1 A n (bs.map .string)) (hn:n≤1000) (hs:∀ q∈bs,q.size≤100000) (hc:w.cell? ⟨b,0,none⟩=some (.string x)) (hE:Env w) :
  Calls Tryz.prog 24 #[.slice A n c,.func (.func 106) #[] #[.pointer (some ⟨b,0,none⟩)]] w (Zx w (.bool (Yk (Zc bs).reverse x))):=by
 rw[←named_has]
 exact WX 106 (enters_of Tryz.func106 (by kernel_rfl) rfl) (.pointer (some ⟨b,0,none⟩)) (fun q=>Lib.containsS (splitB 47 q) x) A n c bs w (fun y hy W hb=>ex1_any y x b W (Qq hb hc) (hs y hy) (Env.keep hE hb)) hR (by omega)
end Go.Proofs.YticlbkficolocaaGreatDoor
namespace Go.Proofs.YticlbkficolocaaGreatDoor
open Go.RowKit Go.Sort
set_option linter.unusedVariables false
set_option linter.unusedSimpArgs false
set_option maxRecDepth 100000
theorem rSpan22_any (n:Int) (w:World):Calls Tryz.prog 135 #[.int .i64 n] w (Zx w (.bool (Vf n))):=by
 unfold Vf
 by_cases h0:0≤n
 ·go_enter Tryz.func135,Tryz.ntmps135
  go_wp2
  go_ret
  exact⟨by simp[h0],Qz⟩
 ·go_enter Tryz.func135,Tryz.ntmps135
  go_wp2
  go_ret
  exact⟨by simp[h0];intros;omega,Qz⟩
theorem rValid22_of (x:Qh) (w:World) (hR:Xx w x) (hf:Zw x.r)
  (cC:∀ W,Below w.heap.size w W→Calls Tryz.prog 134 #[.slice x.T x.r.tags.length x.ct] W (Zx W (.bool (U0 x.r.tags)))) :
  Calls Tryz.prog 76 #[x.val] w (Zx w (.bool (X0 x.r))):=by
 have cA:=fun W=>Ue x.r.name W (by have:=hf.name;omega)
 have cB:=fun W=>rValid_any x.r.pat W (by have:=hf.pat;omega)
 have cD:=fun W (hb:Below w.heap.size w W)=>rValid21_any x.r.allow x.m W (hR.allow.keep hb) hf.c.p hf.c.cl hf.c.co hf.c.n1 hf.c.n2 hf.c.n3
 have HS:=Lib.hid (fun (n:Int) (W:World)=>rSpan22_any n W)
 obtain⟨V,hV⟩:∃ V,V=X0 x.r:=⟨_,rfl⟩
 rw[←hV]
 unfold X0 at hV
 rw[Qh.val_eq]
 unfold Zy.val at cD
 generalize Qy x.r.name=a1 at *
 generalize (Qx x.r.pat).isSome=a2 at *
 generalize U0 x.r.tags=a3 at *
 generalize Xj x.r.allow=a4 at *
 clear hR hf
 cases a1
 ·obtain rfl:V=false:=by rw[hV];simp
  have HA:=Lib.hid cA
  clear hV cA cB cC cD
  go_enter Tryz.func76,Tryz.ntmps76
  go_wp2_with (first | (go_at_call 73;refine (HA.out _).mono ?_;rintro e w2 ⟨rfl,hb2⟩;have R2:Qi w2 w.heap.size 57 x.cells:=Qi.keep (Qi.new w 57 x.cells) hb2;obtain⟨y0,y1,y2,y3,y4,y5,y6,y7,y8,y9,y10,y11,y12,y13,y14,y15,y16,y17⟩:=Q8 R2))
  go_ret
  exact⟨rfl,Qz⟩
 have HA:=Lib.hid cA
 clear cA
 cases a2
 ·obtain rfl:V=false:=by rw[hV];simp
  have HB:=Lib.hid cB
  clear hV cB cC cD
  go_enter Tryz.func76,Tryz.ntmps76
  go_wp2_with (first | (go_at_call 73;refine (HA.out _).mono ?_;rintro e w2 ⟨rfl,hb2⟩;have R2:Qi w2 w.heap.size 57 x.cells:=Qi.keep (Qi.new w 57 x.cells) hb2;obtain⟨y0,y1,y2,y3,y4,y5,y6,y7,y8,y9,y10,y11,y12,y13,y14,y15,y16,y17⟩:=Q8 R2) | (go_at_call 133;refine (HB.out _).mono ?_;rintro e w3 ⟨rfl,hb3⟩;have R3:Qi w3 w.heap.size 57 x.cells:=Qi.keep R2 hb3;clear y0 y1 y2 y3 y4 y5 y6 y7 y8 y9 y10 y11 y12 y13 y14 y15 y16 y17;obtain⟨y0,y1,y2,y3,y4,y5,y6,y7,y8,y9,y10,y11,y12,y13,y14,y15,y16,y17⟩:=Q8 R3))
  go_ret
  exact⟨rfl,Qz⟩
 have HB:=Lib.hid cB
 clear cB
 cases a3
 ·obtain rfl:V=false:=by rw[hV];simp
  have HC:=Lib.hid cC
  clear hV cC cD
  go_enter Tryz.func76,Tryz.ntmps76
  go_wp2_with (first | (go_at_call 73;refine (HA.out _).mono ?_;rintro e w2 ⟨rfl,hb2⟩;have R2:Qi w2 w.heap.size 57 x.cells:=Qi.keep (Qi.new w 57 x.cells) hb2;obtain⟨y0,y1,y2,y3,y4,y5,y6,y7,y8,y9,y10,y11,y12,y13,y14,y15,y16,y17⟩:=Q8 R2) | (go_at_call 133;refine (HB.out _).mono ?_;rintro e w3 ⟨rfl,hb3⟩;have R3:Qi w3 w.heap.size 57 x.cells:=Qi.keep R2 hb3;clear y0 y1 y2 y3 y4 y5 y6 y7 y8 y9 y10 y11 y12 y13 y14 y15 y16 y17;obtain⟨y0,y1,y2,y3,y4,y5,y6,y7,y8,y9,y10,y11,y12,y13,y14,y15,y16,y17⟩:=Q8 R3) | (go_at_call 134;refine (HC.out _ Qz).mono ?_;rintro e w4 ⟨rfl,hb4⟩;have R4:Qi w4 w.heap.size 57 x.cells:=Qi.keep R3 hb4;clear y0 y1 y2 y3 y4 y5 y6 y7 y8 y9 y10 y11 y12 y13 y14 y15 y16 y17;obtain⟨y0,y1,y2,y3,y4,y5,y6,y7,y8,y9,y10,y11,y12,y13,y14,y15,y16,y17⟩:=Q8 R4))
  go_ret
  exact⟨rfl,Qz⟩
 have HC:=Lib.hid cC
 clear cC
 cases a4
 ·obtain rfl:V=false:=by rw[hV];simp
  have HD:=Lib.hid cD
  clear hV cD
  go_enter Tryz.func76,Tryz.ntmps76
  go_wp2_with (first | (go_at_call 73;refine (HA.out _).mono ?_;rintro e w2 ⟨rfl,hb2⟩;have R2:Qi w2 w.heap.size 57 x.cells:=Qi.keep (Qi.new w 57 x.cells) hb2;obtain⟨y0,y1,y2,y3,y4,y5,y6,y7,y8,y9,y10,y11,y12,y13,y14,y15,y16,y17⟩:=Q8 R2) | (go_at_call 133;refine (HB.out _).mono ?_;rintro e w3 ⟨rfl,hb3⟩;have R3:Qi w3 w.heap.size 57 x.cells:=Qi.keep R2 hb3;clear y0 y1 y2 y3 y4 y5 y6 y7 y8 y9 y10 y11 y12 y13 y14 y15 y16 y17;obtain⟨y0,y1,y2,y3,y4,y5,y6,y7,y8,y9,y10,y11,y12,y13,y14,y15,y16,y17⟩:=Q8 R3) | (go_at_call 134;refine (HC.out _ Qz).mono ?_;rintro e w4 ⟨rfl,hb4⟩;have R4:Qi w4 w.heap.size 57 x.cells:=Qi.keep R3 hb4;clear y0 y1 y2 y3 y4 y5 y6 y7 y8 y9 y10 y11 y12 y13 y14 y15 y16 y17;obtain⟨y0,y1,y2,y3,y4,y5,y6,y7,y8,y9,y10,y11,y12,y13,y14,y15,y16,y17⟩:=Q8 R4) | (go_at_call 81;refine (HD.out _ Qz).mono ?_;rintro e w5 ⟨rfl,hb5⟩;have R5:Qi w5 w.heap.size 57 x.cells:=Qi.keep R4 hb5;clear y0 y1 y2 y3 y4 y5 y6 y7 y8 y9 y10 y11 y12 y13 y14 y15 y16 y17;obtain⟨y0,y1,y2,y3,y4,y5,y6,y7,y8,y9,y10,y11,y12,y13,y14,y15,y16,y17⟩:=Q8 R5))
  go_ret
  exact⟨rfl,Qz⟩
 have HD:=Lib.hid cD
 clear cD
 cases cE:Vf x.r.fresh
 ·obtain rfl:V=false:=by rw[hV,cE];simp
  have HE:=Lib.hid cE
  clear hV cE
  go_enter Tryz.func76,Tryz.ntmps76
  go_wp2_with (first | (go_at_call 73;refine (HA.out _).mono ?_;rintro e w2 ⟨rfl,hb2⟩;have R2:Qi w2 w.heap.size 57 x.cells:=Qi.keep (Qi.new w 57 x.cells) hb2;obtain⟨y0,y1,y2,y3,y4,y5,y6,y7,y8,y9,y10,y11,y12,y13,y14,y15,y16,y17⟩:=Q8 R2) | (go_at_call 133;refine (HB.out _).mono ?_;rintro e w3 ⟨rfl,hb3⟩;have R3:Qi w3 w.heap.size 57 x.cells:=Qi.keep R2 hb3;clear y0 y1 y2 y3 y4 y5 y6 y7 y8 y9 y10 y11 y12 y13 y14 y15 y16 y17;obtain⟨y0,y1,y2,y3,y4,y5,y6,y7,y8,y9,y10,y11,y12,y13,y14,y15,y16,y17⟩:=Q8 R3) | (go_at_call 134;refine (HC.out _ Qz).mono ?_;rintro e w4 ⟨rfl,hb4⟩;have R4:Qi w4 w.heap.size 57 x.cells:=Qi.keep R3 hb4;clear y0 y1 y2 y3 y4 y5 y6 y7 y8 y9 y10 y11 y12 y13 y14 y15 y16 y17;obtain⟨y0,y1,y2,y3,y4,y5,y6,y7,y8,y9,y10,y11,y12,y13,y14,y15,y16,y17⟩:=Q8 R4) | (go_at_call 81;refine (HD.out _ Qz).mono ?_;rintro e w5 ⟨rfl,hb5⟩;have R5:Qi w5 w.heap.size 57 x.cells:=Qi.keep R4 hb5;clear y0 y1 y2 y3 y4 y5 y6 y7 y8 y9 y10 y11 y12 y13 y14 y15 y16 y17;obtain⟨y0,y1,y2,y3,y4,y5,y6,y7,y8,y9,y10,y11,y12,y13,y14,y15,y16,y17⟩:=Q8 R5) | (go_at_call 135;refine (HS.out _ _).mono ?_;rintro e w6 ⟨rfl,hb6⟩;replace R5:=Qi.keep R5 hb6;clear y0 y1 y2 y3 y4 y5 y6 y7 y8 y9 y10 y11 y12 y13 y14 y15 y16 y17;obtain⟨y0,y1,y2,y3,y4,y5,y6,y7,y8,y9,y10,y11,y12,y13,y14,y15,y16,y17⟩:=Q8 R5;try simp only[HE.out]))
  go_ret
  exact⟨rfl,Qz⟩
 have HE:=Lib.hid cE
 rw[cE]at hV
 clear cE
 cases cF:Vf x.r.stale
 ·obtain rfl:V=false:=by rw[hV,cF];simp
  have HF:=Lib.hid cF
  clear hV cF
  go_enter Tryz.func76,Tryz.ntmps76
  go_wp2_with (first | (go_at_call 73;refine (HA.out _).mono ?_;rintro e w2 ⟨rfl,hb2⟩;have R2:Qi w2 w.heap.size 57 x.cells:=Qi.keep (Qi.new w 57 x.cells) hb2;obtain⟨y0,y1,y2,y3,y4,y5,y6,y7,y8,y9,y10,y11,y12,y13,y14,y15,y16,y17⟩:=Q8 R2) | (go_at_call 133;refine (HB.out _).mono ?_;rintro e w3 ⟨rfl,hb3⟩;have R3:Qi w3 w.heap.size 57 x.cells:=Qi.keep R2 hb3;clear y0 y1 y2 y3 y4 y5 y6 y7 y8 y9 y10 y11 y12 y13 y14 y15 y16 y17;obtain⟨y0,y1,y2,y3,y4,y5,y6,y7,y8,y9,y10,y11,y12,y13,y14,y15,y16,y17⟩:=Q8 R3) | (go_at_call 134;refine (HC.out _ Qz).mono ?_;rintro e w4 ⟨rfl,hb4⟩;have R4:Qi w4 w.heap.size 57 x.cells:=Qi.keep R3 hb4;clear y0 y1 y2 y3 y4 y5 y6 y7 y8 y9 y10 y11 y12 y13 y14 y15 y16 y17;obtain⟨y0,y1,y2,y3,y4,y5,y6,y7,y8,y9,y10,y11,y12,y13,y14,y15,y16,y17⟩:=Q8 R4) | (go_at_call 81;refine (HD.out _ Qz).mono ?_;rintro e w5 ⟨rfl,hb5⟩;have R5:Qi w5 w.heap.size 57 x.cells:=Qi.keep R4 hb5;clear y0 y1 y2 y3 y4 y5 y6 y7 y8 y9 y10 y11 y12 y13 y14 y15 y16 y17;obtain⟨y0,y1,y2,y3,y4,y5,y6,y7,y8,y9,y10,y11,y12,y13,y14,y15,y16,y17⟩:=Q8 R5) | (go_at_call 135;refine (HS.out _ _).mono ?_;rintro e w6 ⟨rfl,hb6⟩;replace R5:=Qi.keep R5 hb6;clear y0 y1 y2 y3 y4 y5 y6 y7 y8 y9 y10 y11 y12 y13 y14 y15 y16 y17;obtain⟨y0,y1,y2,y3,y4,y5,y6,y7,y8,y9,y10,y11,y12,y13,y14,y15,y16,y17⟩:=Q8 R5;try simp only[HE.out,HF.out]))
  go_ret
  exact⟨rfl,Qz⟩
 have HF:=Lib.hid cF
 rw[cF]at hV
 clear cF
 cases cG:Vf x.r.down
 ·obtain rfl:V=false:=by rw[hV,cG];simp
  have HG:=Lib.hid cG
  clear hV cG
  go_enter Tryz.func76,Tryz.ntmps76
  go_wp2_with (first | (go_at_call 73;refine (HA.out _).mono ?_;rintro e w2 ⟨rfl,hb2⟩;have R2:Qi w2 w.heap.size 57 x.cells:=Qi.keep (Qi.new w 57 x.cells) hb2;obtain⟨y0,y1,y2,y3,y4,y5,y6,y7,y8,y9,y10,y11,y12,y13,y14,y15,y16,y17⟩:=Q8 R2) | (go_at_call 133;refine (HB.out _).mono ?_;rintro e w3 ⟨rfl,hb3⟩;have R3:Qi w3 w.heap.size 57 x.cells:=Qi.keep R2 hb3;clear y0 y1 y2 y3 y4 y5 y6 y7 y8 y9 y10 y11 y12 y13 y14 y15 y16 y17;obtain⟨y0,y1,y2,y3,y4,y5,y6,y7,y8,y9,y10,y11,y12,y13,y14,y15,y16,y17⟩:=Q8 R3) | (go_at_call 134;refine (HC.out _ Qz).mono ?_;rintro e w4 ⟨rfl,hb4⟩;have R4:Qi w4 w.heap.size 57 x.cells:=Qi.keep R3 hb4;clear y0 y1 y2 y3 y4 y5 y6 y7 y8 y9 y10 y11 y12 y13 y14 y15 y16 y17;obtain⟨y0,y1,y2,y3,y4,y5,y6,y7,y8,y9,y10,y11,y12,y13,y14,y15,y16,y17⟩:=Q8 R4) | (go_at_call 81;refine (HD.out _ Qz).mono ?_;rintro e w5 ⟨rfl,hb5⟩;have R5:Qi w5 w.heap.size 57 x.cells:=Qi.keep R4 hb5;clear y0 y1 y2 y3 y4 y5 y6 y7 y8 y9 y10 y11 y12 y13 y14 y15 y16 y17;obtain⟨y0,y1,y2,y3,y4,y5,y6,y7,y8,y9,y10,y11,y12,y13,y14,y15,y16,y17⟩:=Q8 R5) | (go_at_call 135;refine (HS.out _ _).mono ?_;rintro e w6 ⟨rfl,hb6⟩;replace R5:=Qi.keep R5 hb6;clear y0 y1 y2 y3 y4 y5 y6 y7 y8 y9 y10 y11 y12 y13 y14 y15 y16 y17;obtain⟨y0,y1,y2,y3,y4,y5,y6,y7,y8,y9,y10,y11,y12,y13,y14,y15,y16,y17⟩:=Q8 R5;try simp only[HE.out,HF.out,HG.out]))
  go_ret
  exact⟨rfl,Qz⟩
 have HG:=Lib.hid cG
 rw[cG]at hV
 clear cG
 cases cH:Vf x.r.neg
 ·obtain rfl:V=false:=by rw[hV,cH];simp
  have HH:=Lib.hid cH
  clear hV cH
  go_enter Tryz.func76,Tryz.ntmps76
  go_wp2_with (first | (go_at_call 73;refine (HA.out _).mono ?_;rintro e w2 ⟨rfl,hb2⟩;have R2:Qi w2 w.heap.size 57 x.cells:=Qi.keep (Qi.new w 57 x.cells) hb2;obtain⟨y0,y1,y2,y3,y4,y5,y6,y7,y8,y9,y10,y11,y12,y13,y14,y15,y16,y17⟩:=Q8 R2) | (go_at_call 133;refine (HB.out _).mono ?_;rintro e w3 ⟨rfl,hb3⟩;have R3:Qi w3 w.heap.size 57 x.cells:=Qi.keep R2 hb3;clear y0 y1 y2 y3 y4 y5 y6 y7 y8 y9 y10 y11 y12 y13 y14 y15 y16 y17;obtain⟨y0,y1,y2,y3,y4,y5,y6,y7,y8,y9,y10,y11,y12,y13,y14,y15,y16,y17⟩:=Q8 R3) | (go_at_call 134;refine (HC.out _ Qz).mono ?_;rintro e w4 ⟨rfl,hb4⟩;have R4:Qi w4 w.heap.size 57 x.cells:=Qi.keep R3 hb4;clear y0 y1 y2 y3 y4 y5 y6 y7 y8 y9 y10 y11 y12 y13 y14 y15 y16 y17;obtain⟨y0,y1,y2,y3,y4,y5,y6,y7,y8,y9,y10,y11,y12,y13,y14,y15,y16,y17⟩:=Q8 R4) | (go_at_call 81;refine (HD.out _ Qz).mono ?_;rintro e w5 ⟨rfl,hb5⟩;have R5:Qi w5 w.heap.size 57 x.cells:=Qi.keep R4 hb5;clear y0 y1 y2 y3 y4 y5 y6 y7 y8 y9 y10 y11 y12 y13 y14 y15 y16 y17;obtain⟨y0,y1,y2,y3,y4,y5,y6,y7,y8,y9,y10,y11,y12,y13,y14,y15,y16,y17⟩:=Q8 R5) | (go_at_call 135;refine (HS.out _ _).mono ?_;rintro e w6 ⟨rfl,hb6⟩;replace R5:=Qi.keep R5 hb6;clear y0 y1 y2 y3 y4 y5 y6 y7 y8 y9 y10 y11 y12 y13 y14 y15 y16 y17;obtain⟨y0,y1,y2,y3,y4,y5,y6,y7,y8,y9,y10,y11,y12,y13,y14,y15,y16,y17⟩:=Q8 R5;try simp only[HE.out,HF.out,HG.out,HH.out]))
  go_ret
  exact⟨rfl,Qz⟩
 have HH:=Lib.hid cH
 rw[cH]at hV
 clear cH
 replace hV:V=(decide (x.r.vary.length≤8)&&decide (0≤x.r.cost)&&decide (x.r.cost≤1073741824)&&decide (x.r.prog.size≤64)):=by rw[hV];simp
 have HV:=Lib.hid hV
 clear hV
 go_enter Tryz.func76,Tryz.ntmps76
 go_upto_region 5 with (first | (go_at_call 73;refine (HA.out _).mono ?_;rintro e w2 ⟨rfl,hb2⟩;have R2:Qi w2 w.heap.size 57 x.cells:=Qi.keep (Qi.new w 57 x.cells) hb2;obtain⟨y0,y1,y2,y3,y4,y5,y6,y7,y8,y9,y10,y11,y12,y13,y14,y15,y16,y17⟩:=Q8 R2) | (go_at_call 133;refine (HB.out _).mono ?_;rintro e w3 ⟨rfl,hb3⟩;have R3:Qi w3 w.heap.size 57 x.cells:=Qi.keep R2 hb3;clear y0 y1 y2 y3 y4 y5 y6 y7 y8 y9 y10 y11 y12 y13 y14 y15 y16 y17;obtain⟨y0,y1,y2,y3,y4,y5,y6,y7,y8,y9,y10,y11,y12,y13,y14,y15,y16,y17⟩:=Q8 R3) | (go_at_call 134;refine (HC.out _ Qz).mono ?_;rintro e w4 ⟨rfl,hb4⟩;have R4:Qi w4 w.heap.size 57 x.cells:=Qi.keep R3 hb4;clear y0 y1 y2 y3 y4 y5 y6 y7 y8 y9 y10 y11 y12 y13 y14 y15 y16 y17;obtain⟨y0,y1,y2,y3,y4,y5,y6,y7,y8,y9,y10,y11,y12,y13,y14,y15,y16,y17⟩:=Q8 R4) | (go_at_call 81;refine (HD.out _ Qz).mono ?_;rintro e w5 ⟨rfl,hb5⟩;have R5:Qi w5 w.heap.size 57 x.cells:=Qi.keep R4 hb5;clear y0 y1 y2 y3 y4 y5 y6 y7 y8 y9 y10 y11 y12 y13 y14 y15 y16 y17;obtain⟨y0,y1,y2,y3,y4,y5,y6,y7,y8,y9,y10,y11,y12,y13,y14,y15,y16,y17⟩:=Q8 R5) | (go_at_call 135;refine (HS.out _ _).mono ?_;rintro e w6 ⟨rfl,hb6⟩;replace R5:=Qi.keep R5 hb6;clear y0 y1 y2 y3 y4 y5 y6 y7 y8 y9 y10 y11 y12 y13 y14 y15 y16 y17;obtain⟨y0,y1,y2,y3,y4,y5,y6,y7,y8,y9,y10,y11,y12,y13,y14,y15,y16,y17⟩:=Q8 R5;try simp only[HE.out,HF.out,HG.out,HH.out]))
 have hbE:Below w.heap.size w w6:=Qz
 clear y0 y1 y2 y3 y4 y5 y6 y8 y9 y10 y11 y12 y13 y14 y15 R5
 have hV:=HV.out
 clear HV HA HB HC HD HE HF HG HH HS
 by_cases t3:x.r.vary.length≤8
 rotate_left
 ·obtain rfl:V=false:=by rw[hV];simp only[decide_eq_false t3];simp
  have d3:decide ((x.r.vary.length:Int)≤8)=false:=decide_eq_false (by omega)
  clear hV
  go_wp2
  go_ret
  exact⟨rfl,hbE⟩
 have d3:decide ((x.r.vary.length:Int)≤8)=true:=decide_eq_true (by omega)
 by_cases t4:0≤x.r.cost
 rotate_left
 ·obtain rfl:V=false:=by rw[hV];simp only[decide_eq_false t4];simp
  have d4:decide (0≤x.r.cost)=false:=decide_eq_false t4
  clear hV
  go_wp2
  go_ret
  exact⟨rfl,hbE⟩
 have d4:decide (0≤x.r.cost)=true:=decide_eq_true t4
 by_cases t5:x.r.cost≤1073741824
 rotate_left
 ·obtain rfl:V=false:=by rw[hV];simp only[decide_eq_false t5];simp
  have d5:decide (x.r.cost≤1073741824)=false:=decide_eq_false t5
  clear hV
  go_wp2
  go_ret
  exact⟨rfl,hbE⟩
 have d5:decide (x.r.cost≤1073741824)=true:=decide_eq_true t5
 by_cases t6:x.r.prog.size≤64
 ·obtain rfl:V=true:=by rw[hV,decide_eq_true t3,d4,d5,decide_eq_true t6];rfl
  have d6:decide ((x.r.prog.size:Int)≤64)=true:=decide_eq_true (by omega)
  clear hV
  go_wp2
  go_ret
  exact⟨rfl,hbE⟩
 ·obtain rfl:V=false:=by rw[hV];simp only[decide_eq_false t6];simp
  have d6:decide ((x.r.prog.size:Int)≤64)=false:=decide_eq_false (by omega)
  clear hV
  go_wp2
  go_ret
  exact⟨rfl,hbE⟩
def KB (w:World) (g:Nat) (b:Bool) (e:Int):Prop:=Qv w g 86 #[.bool b,.int .i64 e] (0,0)
theorem KB.facts {w:World} {g:Nat} {b:Bool} {e:Int} (h:KB w g b e):w.cell? ⟨g,0,none⟩=some (.bool b)∧w.cell? ⟨g,1,none⟩=some (.int .i64 e):=⟨Qv.cell h 0,Qv.cell h 1⟩
theorem KB.keep {w w':World} {g:Nat} {b:Bool} {e:Int} (h:KB w g b e) (hb:Below w.heap.size w w'):KB w' g b e:=Qv.keep h hb
structure R9S (g:Nat) (X:Array Value) (w0:World) (W:World):Prop where
 x:Zl W g 57 X
 b:Below w0.heap.size w0 W
theorem R9S.keep {g:Nat} {X:Array Value} {w0 W W':World} (h:R9S g X w0 W) (hb:Below W.heap.size W W'):R9S g X w0 W':=⟨h.x.keep hb,Qj h.b hb⟩
theorem strs_one (l:List ByteArray):∀ u∈l.map Value.string,u.oneCell'=true:=by
 intro u hu
 obtain⟨s,_,rfl⟩:=List.mem_map.1 hu
 rfl
structure R13S (g:Nat) (Y:Array Value) (w0:World) (W:World):Prop where
 x:Zl W g 98 Y
 b:Below w0.heap.size w0 W
theorem R13S.keep {g:Nat} {Y:Array Value} {w0 W W':World} (h:R13S g Y w0 W) (hb:Below W.heap.size W W'):R13S g Y w0 W':=⟨h.x.keep hb,Qj h.b hb⟩
def openC:ZV:=⟨0,1099511627777,⟨#[]⟩,[],[],[],0⟩
def rOne (sg:Bool):Vm:=⟨(⟨#[114,49]⟩:ByteArray),(⟨#[97,99,109,101,47,110,101,119,115,47,42,42]⟩:ByteArray),[(⟨#[104,111,116]⟩:ByteArray)],10,0,0,0,[],openC,sg,0,⟨#[]⟩⟩
def rTwo (sg:Bool):Vm:=⟨(⟨#[114,50]⟩:ByteArray),(⟨#[97,99,109,101,47,42,42]⟩:ByteArray),[],100,50,1000,5,[],openC,sg,0,⟨#[]⟩⟩
def mOne (T:Nat) (sg:Bool):Qh:=⟨rOne sg,some ⟨T,0,none⟩,1,none,0,[],⟨none,0,none,0,none,0⟩⟩
def mTwo (sg:Bool):Qh:=⟨rTwo sg,none,0,none,0,[],⟨none,0,none,0,none,0⟩⟩
theorem ex_reads {W:World} {g T:Nat} {sg:Bool} (hr:Qi W g 57 (exOne T false++exTwo sg)) (ht:Qi W T 9 [.string (⟨#[104,111,116]⟩:ByteArray)]):Qs W (some ⟨g,0,none⟩) 2 [mOne T false,mTwo sg]:=by
 refine⟨rfl,⟨rfl,fun _=>⟨g,0,rfl,fun j u hu=>?_⟩⟩,?_⟩
 ·rw[Nat.zero_add]
  exact Qi.cell hr hu
 ·intro x hx
  simp only[List.mem_cons,List.not_mem_nil,or_false]at hx
  rcases hx with rfl | rfl
  ·exact⟨⟨rfl,fun _=>⟨T,0,rfl,fun j u hu=>by rw[Nat.zero_add];exact Qi.cell ht hu⟩⟩,Reads.nil_ _ _ _,rfl,fun y hy=>(by cases hy),⟨Reads.nil_ _ _ _,Reads.nil_ _ _ _,Reads.nil_ _ _ _⟩⟩
  ·exact⟨Reads.nil_ _ _ _,Reads.nil_ _ _ _,rfl,fun y hy=>(by cases hy),⟨Reads.nil_ _ _ _,Reads.nil_ _ _ _,Reads.nil_ _ _ _⟩⟩
theorem m1:Zk (⟨#[97,99,109,101,47,110,101,119,115,47,42,42]⟩:ByteArray) (⟨#[97,99,109,101,47,110,101,119,115,47,97]⟩:ByteArray)=true:=by decide +kernel
theorem m2:Zk (⟨#[97,99,109,101,47,42,42]⟩:ByteArray) (⟨#[97,99,109,101,47,110,101,119,115,47,97]⟩:ByteArray)=true:=by decide +kernel
theorem m3:Zk (⟨#[97,99,109,101,47,110,101,119,115,47,42,42]⟩:ByteArray) (⟨#[97,99,109,101]⟩:ByteArray)=false:=by decide +kernel
theorem m4:Zk (⟨#[97,99,109,101,47,42,42]⟩:ByteArray) (⟨#[97,99,109,101]⟩:ByteArray)=true:=by decide +kernel
theorem m5:Zk (⟨#[97,99,109,101,47,110,101,119,115,47,42,42]⟩:ByteArray) (⟨#[98,111,108,116,47,97]⟩:ByteArray)=false:=by decide +kernel
theorem m6:Zk (⟨#[97,99,109,101,47,42,42]⟩:ByteArray) (⟨#[98,111,108,116,47,97]⟩:ByteArray)=false:=by decide +kernel
def exPol (g:Nat):Array Value:=#[.string (⟨#[97,99,109,101]⟩:ByteArray),.int .i64 9,.slice (some ⟨g,0,none⟩) 2 2]
structure PolAt (g T pb:Nat) (sg:Bool) (W:World):Prop where
 row:Qi W g 57 (exOne T false++exTwo sg)
 tags:Qi W T 9 [.string (⟨#[104,111,116]⟩:ByteArray)]
 p:Zl W pb 25 (exPol g)
theorem PolAt.keep {g T pb:Nat} {sg:Bool} {W W':World} (h:PolAt g T pb sg W) (hb:Below W.heap.size W W'):PolAt g T pb sg W':=⟨h.row.keep hb,h.tags.keep hb,h.p.keep hb⟩
theorem PolAt.reads {g T pb:Nat} {sg:Bool} {W:World} (h:PolAt g T pb sg W):Qs W (some ⟨g,0,none⟩) 2 [mOne T false,mTwo sg]:=ex_reads h.row h.tags
end Go.Proofs.YticlbkficolocaaGreatDoor
