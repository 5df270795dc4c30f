/- What the condition package's both returns. -/
import Derived.Test.YtlkbkclnbppigaaGreatDoorIZ22
import Derived.Test.YtlkbkclnbppigaaGreatDoorIZ23
set_option maxHeartbeats 4000000
namespace Go.Proofs.YtlkbkclnbppigaaGreatDoor
open Go.RowKit Go.Sort
set_option linter.unusedVariables false
set_option linter.unusedSimpArgs false
set_option maxRecDepth 100000
theorem reads_lt0 {w:World} {A:Option Addr} {n:Nat} {vs:List Value} (hR:Reads w 1 A n vs) (hn:0<n):∀ a,A=some a→a.block<w.heap.size:=by
 intro a ha
 obtain⟨b,o,e,hc⟩:=hR.2 hn
 rw[e]at ha
 injection ha with ha
 subst ha
 have hl:0<vs.length:=by have:=hR.1;omega
 exact cell_lt (hc 0 _ (List.getElem?_eq_getElem hl))
theorem allowsS_same (A:Option Addr) (n c:Nat) (xs:List ByteArray) (x:ByteArray) (w:World) (hA:Reads w 1 A n (xs.map .string)) (hn:n≤1000000000):Calls Tryz.prog 88 #[.slice A n c,.string x] w fun e w'=>e=.returned (.bool (allowsL xs x))∧w'=w:=by
 have hl:xs.length=n:=by have:=hA.1;simp at this;omega
 rcases Nat.eq_zero_or_pos n with h0 | h0
 ·subst h0
  obtain rfl:xs=[]:=List.eq_nil_of_length_eq_zero hl
  go_enter Tryz.func88,Tryz.ntmps88
  go_wp2
  go_ret
  exact⟨rfl,rfl⟩
 ·have he:xs.isEmpty=false:=by cases xs;simp at hl;omega;rfl
  obtain⟨b,o,rfl,hc⟩:=hA.2 h0
  have cC:=fun (W:World) (hb:W=w)=>Tryz.slices_Contains_string b o n c xs x W (by omega) (by omega) (fun j hj=>by
    rw[hb]
    refine hc j _ ?_
    rw[List.getElem?_map,List.getElem?_eq_getElem hj]
    simp[List.getD_eq_getElem?_getD,List.getElem?_eq_getElem hj])
  rw[List.take_of_length_le (by omega)]at cC
  have hcs:Lib.containsS xs x=allowsL xs x:=by
   unfold allowsL
   rw[he,Bool.false_or,Bool.eq_iff_iff,Lib.containsS_iff]
   simp
  rw[hcs]at cC
  have HC:=Lib.hid cC
  have hn0:((n:Int)==0)=false:=by simp;omega
  clear cC hc hA hcs he
  generalize allowsL xs x=res at *
  go_enter Tryz.func88,Tryz.ntmps88
  go_wp2_with (go_at_call 150;refine (HC.out _ rfl).mono ?_;rintro e w2 ⟨rfl,rfl⟩)
  go_ret
  exact⟨rfl,rfl⟩
theorem both1S (bx:Nat) (B:Option Addr) (nb cb:Nat) (ys:List ByteArray) (x:ByteArray) (W:World) (h0:W.cell? ⟨bx,0,none⟩=some (.slice B nb cb)) (hB:Reads W 1 B nb (ys.map .string)) (hn:nb≤1000000000) :
  Calls Tryz.prog 170 #[.string x,.pointer (some ⟨bx,0,none⟩)] W fun e w'=>e=.returned (.bool (!allowsL ys x))∧w'=W:=by
 have cA:=allowsS_same B nb cb ys x W hB hn
 generalize allowsL ys x=r at *
 have HA:=Lib.hid cA
 clear cA hB
 go_enter Tryz.func170,Tryz.ntmps170
 go_wp2_with (go_at_call 88;refine HA.out.mono ?_;rintro e w2 ⟨rfl,rfl⟩)
 go_ret
 exact⟨rfl,rfl⟩
section
variable {α:Type} [Inhabited α]
theorem put_cell (enc:α→Value) (W:World) (n blk:Nat) (dk:Array α) (os:Array Obj) (a:Addr) (h:a.block≠blk) (hl:a.block<W.heap.size):(sortWorld enc W blk 0 n dk os).cell? a=W.cell? a:=by
 unfold sortWorld
 have e:(Sort.grow (putRow enc (Sort.ahead W n) blk 0 dk) os).cell? a=(putRow enc (Sort.ahead W n) blk 0 dk).cell? a :=
  World.cell?_of_block (Sort.heap_grow_old _ os (by rw[size_putRow];exact hl))
 rw[e,cell?_putRow_other enc _ blk 0 dk a (.inl h)]
 rfl
theorem grownBy_putA {w:World} {g n:Nat} (enc:α→Value) (d:Array α):w.grownBy (putRow enc (Sort.ahead w n) g 0 d) (some g):=by
 refine⟨rfl,rfl,rfl,by simp[putRow,mapBlock,Sort.ahead],fun k hk hne=>?_⟩
 have:g≠k:=fun e=>hne (by rw[e])
 simp[putRow,mapBlock,Sort.ahead,Array.getElem?_modify,this]
end
theorem zero9 (w:World):(zeroValue 9).run Tryz.prog w=.ok (.string ByteArray.empty) w:=by kernel_rfl
theorem delS (base blk cap n bx:Nat) (B:Option Addr) (nb cb:Nat) (zs ys:List ByteArray) (W:World) (h0:W.cell? ⟨bx,0,none⟩=some (.slice B nb cb)) (hB:Reads W 1 B nb (ys.map .string)) (hnb:nb≤1000000000) (hbx:bx<base) (hBl:0<nb→∀ a,B=some a→a.block<base) (hbw:base≤W.heap.size)
  (hown:W.ownsRow base 9 1 (.slice (some ⟨blk,0,none⟩) n cap) n (zs.map .string)) (hn:n≤1000000000) :
  Calls Tryz.prog 168 #[.slice (some ⟨blk,0,none⟩) n cap,.func (.func 170) #[] #[.pointer (some ⟨bx,0,none⟩)]] W fun e w'=>e=.returned (.slice (some ⟨blk,0,none⟩) (zs.filter (allowsL ys)).length cap)∧Reads w' 1 (some ⟨blk,0,none⟩) (zs.filter (allowsL ys)).length ((zs.filter (allowsL ys)).map .string)∧Below base W w':=by
 have hl:zs.length=n:=by have:=hown.1;simp at this;omega
 subst hl
 have hbk:base≤blk:=(hown.lt blk rfl).1
 have hblk:blk<W.heap.size:=(hown.lt blk rfl).2
 have hcap:zs.length≤cap:=ownsRow_cap hown
 have hH:Holds Value.string W blk 0 zs.toArray:=by
  intro j hj
  have hj':j<zs.length:=by simpa using hj
  refine⟨?_,hown.frozenAt (0+j)⟩
  have:=hown.cellAt (0+j) (by omega)
  rw[this]
  simp[List.getElem?_eq_getElem hj',getElem!_pos,hj']
 have key:∀ V:World,(∀ a:Addr,a.block≠blk→a.block<W.heap.size→V.cell? a=W.cell? a)→∀ x,FnGives Tryz.prog 170 #[.pointer (some ⟨bx,0,none⟩)] #[Value.string x] (.bool (!allowsL ys x)) V:=by
  intro V hV x
  have hz0:V.cell? ⟨bx,0,none⟩=some (.slice B nb cb):=(hV _ (by simp;omega) (by simp;omega)).trans h0
  have hzB:Reads V 1 B nb (ys.map .string):=by
   refine⟨hB.1,fun h=>?_⟩
   obtain⟨b,o,rfl,hc⟩:=hB.2 h
   have:=hBl h _ rfl
   simp only at this
   exact⟨b,o,rfl,fun j u hu=>(hV _ (by simp;omega) (by simp;omega)).trans (hc j u hu)⟩
  exact (both1S bx B nb cb ys x V hz0 hzB hnb).mono fun e w' ⟨h1,h2⟩=>⟨h1,0,by rw[h2];rfl⟩
 have:=Tryz.slices_DeleteFunc_f168 Value.string (fun _=>rfl) (fun x=>!allowsL ys x) 170 #[.pointer (some ⟨bx,0,none⟩)] (enters_of Tryz.func170 (by kernel_rfl) rfl) ByteArray.empty zero9 blk 0 cap zs.toArray W
  (fun V x hb=>key V (fun a _ hl=>hb.cell hl) x) (fun m os dk x _=>key _ (fun a h hl=>put_cell Value.string W m blk dk os a h hl) x) hH (by simp;omega) (by simpa using hcap)
 simp only[List.size_toArray,Bool.not_not]at this
 refine this.mono ?_
 rintro e w' ⟨rfl,q,rfl⟩
 refine⟨rfl,?_,?_⟩
 ·refine⟨by simp,fun _=>⟨blk,0,rfl,fun j u hu=>?_⟩⟩
  rw[List.getElem?_map,Option.map_eq_some_iff]at hu
  obtain⟨x,hx,rfl⟩:=hu
  have hjl:=(List.getElem?_eq_some_iff.1 hx).1
  have hfl:(zs.filter (allowsL ys)).length≤zs.length:=List.length_filter_le _ _
  have h1:=(holds_putRow Value.string (Sort.ahead W q) blk 0 zs.toArray ((zs.filter (allowsL ys))++List.replicate (zs.length-(zs.filter (allowsL ys)).length) ByteArray.empty).toArray hH (by simp;omega) j (by simp;omega)).1
  rw[h1]
  congr 1
  congr 1
  have hj2:j<(zs.filter (allowsL ys)++List.replicate (zs.length-(zs.filter (allowsL ys)).length) ByteArray.empty).length:=by simp;omega
  rw[getElem!_pos _ _ (by simpa using hj2)]
  simp only[List.getElem_toArray]
  rw[List.getElem_append_left hjl]
  exact (List.getElem?_eq_some_iff.1 hx).2
 ·exact (Below.refl base W).grown (grownBy_putA (n:=q) Value.string _) hbw (fun k hk=>by cases hk;exact hbk)
def BothPostS (xs ys:List ByteArray) (w:World) (e:Ending) (w':World):Prop :=
 Below w.heap.size w w'∧∃ S cs,e=.returned (.tuple #[.slice S (bothF xs ys).length cs,.bool (bothOk xs ys)])∧Reads w' 1 S (bothF xs ys).length ((bothF xs ys).map .string)∧(0<(bothF xs ys).length→∀ a,S=some a→w.heap.size≤a.block)
theorem delS0 (A:Option Addr) (c:Nat) (fv:Value) (w:World):Calls Tryz.prog 168 #[.slice A 0 c,fv] w fun e w'=>e=.returned (.slice A 0 c)∧w'=w:=by
 have HC:=Lib.hid (fun W=>Tryz.slices_IndexFunc_empty_f161 (α:=ByteArray) A c fv W)
 go_enter Tryz.func168,Tryz.ntmps168
 go_wp2_with (go_at_call 161;refine (HC.out _).mono ?_;rintro e w2 ⟨rfl,rfl⟩)
 go_ret
 exact⟨rfl,rfl⟩
theorem cloneS (A:Option Addr) (n c:Nat) (zs:List ByteArray) (w:World) (hA:Reads w 1 A n (zs.map .string)) (h0:0<n) (hn:n≤1000000):Calls Tryz.prog 169 #[.slice A n c] w fun e w'=>∃ g cap,e=.returned (.slice (some ⟨g,0,none⟩) n cap)∧w'.ownsRow w.heap.size 9 1 (.slice (some ⟨g,0,none⟩) n cap) n (zs.map .string)∧Below w.heap.size w w':=by
 have hl:zs.length=n:=by have:=hA.1;simp at this;omega
 obtain⟨b,o,rfl,hc⟩:=hA.2 h0
 refine (Tryz.slices_Clone_string b o n c zs w (by omega) (by omega) (fun j hj=>?_)).mono ?_
 ·refine hc j _ ?_
  rw[List.getElem?_map,List.getElem?_eq_getElem hj]
  simp[List.getD_eq_getElem?_getD,List.getElem?_eq_getElem hj]
 ·rintro e w' ⟨v',rfl,hown,_,hb⟩
  rw[List.take_of_length_le (by omega)]at hown
  rcases hown.2 with ⟨_,h⟩ | ⟨g,cap,cur,rfl,r⟩
  ·omega
  ·exact⟨g,cap,rfl,hown,hb⟩
theorem cloneS0 (A:Option Addr) (c:Nat) (w:World):Calls Tryz.prog 169 #[.slice A 0 c] w fun e w'=>∃ A' c',e=.returned (.slice A' 0 c')∧Below w.heap.size w w':=by
 cases A with
 | none=>exact (Tryz.slices_Clone_string_nil 0 c w).mono fun e w' ⟨h1,h2⟩=>⟨none,0,h1,by rw[h2];exact Below.refl _ _⟩
 | some a =>
  refine (Tryz.slices_Clone_string_zero a c w).mono ?_
  rintro e w' ⟨v',rfl,hown,_,hb⟩
  rcases hown.2 with ⟨rfl,_⟩ | ⟨g,cap,cur,rfl,r⟩
  ·exact⟨none,0,rfl,hb⟩
  ·exact⟨_,_,rfl,hb⟩
theorem bothS_any (A:Option Addr) (na ca:Nat) (B:Option Addr) (nb cb:Nat) (xs ys:List ByteArray) (w:World) (hA:Reads w 1 A na (xs.map .string)) (hB:Reads w 1 B nb (ys.map .string)) (h1:na≤1000000) (h2:nb≤1000000) :
  Calls Tryz.prog 109 #[.slice A na ca,.slice B nb cb] w (BothPostS xs ys w):=by
 have hla:xs.length=na:=by have:=hA.1;simp at this;omega
 have hlb:ys.length=nb:=by have:=hB.1;simp at this;omega
 have hbl:=fun (h:0<nb)=>reads_lt0 hB h
 have gen:∀ (L:Option Addr) (n c:Nat) (zs:List ByteArray),Reads w 1 L n (zs.map .string)→0<n→n≤1000000→(∀ W,Below w.heap.size w W→Calls Tryz.prog 169 #[.slice L n c] W fun e w'=>∃ g cap,e=.returned (.slice (some ⟨g,0,none⟩) n cap)∧w'.ownsRow W.heap.size 9 1 (.slice (some ⟨g,0,none⟩) n cap) n (zs.map .string)∧Below W.heap.size W w') ∧
   (∀ (g cap:Nat) (W:World),W.cell? ⟨w.heap.size,0,none⟩=some (.slice B nb cb)→Below w.heap.size w W→W.ownsRow (w.heap.size+1) 9 1 (.slice (some ⟨g,0,none⟩) n cap) n (zs.map .string)→Calls Tryz.prog 168 #[.slice (some ⟨g,0,none⟩) n cap,.func (.func 170) #[] #[.pointer (some ⟨w.heap.size,0,none⟩)]] W fun e w'=>e=.returned (.slice (some ⟨g,0,none⟩) (zs.filter (allowsL ys)).length cap)∧Reads w' 1 (some ⟨g,0,none⟩) (zs.filter (allowsL ys)).length ((zs.filter (allowsL ys)).map .string)∧Below (w.heap.size+1) W w'):=by
  intro L n c zs hL h0 hn
  refine⟨fun W hb=>cloneS L n c zs W (hL.keep hb) h0 hn,fun g cap W c0 hb hown=>?_⟩
  exact delS (w.heap.size+1) g cap n w.heap.size B nb cb zs ys W c0 (hB.keep hb) (by omega) (by omega) (fun h a ha=>by have:=hbl h a ha;omega) (by have:=cell_lt c0;simp only at this;omega) hown (by omega)
 obtain⟨F,hF⟩:∃ F,F=bothF xs ys:=⟨_,rfl⟩
 obtain⟨K,hK⟩:∃ K,K=bothOk xs ys:=⟨_,rfl⟩
 unfold BothPostS
 rw[←hF,←hK]
 unfold bothF at hF
 unfold bothOk bothF at hK
 by_cases ha:na=0
 ·subst ha
  obtain rfl:xs=[]:=List.eq_nil_of_length_eq_zero hla
  simp only[List.isEmpty_nil,if_true]at hF hK
  by_cases hb0:nb=0
  ·subst hb0
   obtain rfl:ys=[]:=List.eq_nil_of_length_eq_zero hlb
   obtain rfl:F=[]:=hF
   obtain rfl:K=true:=hK
   have HC:=Lib.hid (fun W=>cloneS0 B cb W)
   have HD:=Lib.hid (fun A c fv W=>delS0 A c fv W)
   clear gen hA hB hbl hla hlb
   go_enter Tryz.func109,Tryz.ntmps109
   go_wp2_with (first | (go_at_call 169;refine (HC.out _).mono ?_;rintro e w2 ⟨A',c',rfl,hb2⟩) | (go_at_call 168;refine (HD.out _ _ _ _).mono ?_;rintro e w3 ⟨rfl,rfl⟩))
   go_ret2
   exact⟨belB,A',c',rfl,Reads.nil_ _ _ _,fun h=>absurd h (by simp)⟩
  ·obtain⟨hC,hD⟩:=gen B nb cb ys hB (by omega) h2
   have hye:ys.isEmpty=false:=by cases ys;simp at hlb;omega;rfl
   rw[←hF,hye,Bool.or_false]at hK
   rw[←hF]at hD
   have HC:=Lib.hid hC
   have HD:=Lib.hid hD
   have hlen:(!F.isEmpty)=decide (0<F.length):=by cases F <;> simp
   rw[hlen]at hK
   have e0:((nb:Int)==0)=false:=by simp;omega
   generalize hm:F.length=m at *
   clear gen hA hB hbl hF hla hlb hC hD hye hlen hm
   by_cases hm0:0<m
   ·obtain rfl:K=true:=by rw[hK];simpa using hm0
    have e1:(0:Int)<(m:Int):=by omega
    clear hK
    go_enter Tryz.func109,Tryz.ntmps109
    go_wp2_with (first | (go_at_call 169;refine (HC.out _ belB).mono ?_;rintro e w2 ⟨g,cap,rfl,hown,hb2⟩;have c0:=cell_keep hb2 (Boxed.new w 24 (.slice B nb cb)).cell;have hown2:=(show w2.ownsRow (w.heap.size+1) _ _ _ _ _ from (by simpa using hown));have hbk:=(hown2.lt g rfl).1;clear hown) | (go_at_call 168;refine (HD.out _ _ _ c0 belB hown2).mono ?_;rintro e w3 ⟨rfl,hR,hb3⟩))
    go_ret2
    exact⟨bstep (balloc (Below.refl _ _) _) (hb2.trans (hb3.mono (by simp))),_,_,rfl,hR,fun _ a ha=>(by cases ha;show w.heap.size≤g;omega)⟩
   ·obtain rfl:K=false:=by rw[hK];simpa using hm0
    obtain rfl:m=0:=by omega
    clear hK
    go_enter Tryz.func109,Tryz.ntmps109
    go_wp2_with (first | (go_at_call 169;refine (HC.out _ belB).mono ?_;rintro e w2 ⟨g,cap,rfl,hown,hb2⟩;have c0:=cell_keep hb2 (Boxed.new w 24 (.slice B nb cb)).cell;have hown2:=(show w2.ownsRow (w.heap.size+1) _ _ _ _ _ from (by simpa using hown));have hbk:=(hown2.lt g rfl).1;clear hown) | (go_at_call 168;refine (HD.out _ _ _ c0 belB hown2).mono ?_;rintro e w3 ⟨rfl,hR,hb3⟩))
    go_ret2
    exact⟨bstep (balloc (Below.refl _ _) _) (hb2.trans (hb3.mono (by simp))),_,_,rfl,hR,fun _ a ha=>(by cases ha;show w.heap.size≤g;omega)⟩
 ·obtain⟨hC,hD⟩:=gen A na ca xs hA (by omega) h1
  have hxe:xs.isEmpty=false:=by cases xs;simp at hla;omega;rfl
  rw[hxe]at hF hK
  simp only[Bool.false_eq_true,if_false]at hF hK
  rw[←hF,hxe,Bool.or_false]at hK
  rw[←hF]at hD
  have HC:=Lib.hid hC
  have HD:=Lib.hid hD
  have hlen:(!F.isEmpty)=decide (0<F.length):=by cases F <;> simp
  rw[hlen]at hK
  have e0:((na:Int)==0)=false:=by simp;omega
  generalize hm:F.length=m at *
  clear gen hA hB hbl hF hla hlb hC hD hxe hlen hm
  by_cases hm0:0<m
  ·obtain rfl:K=true:=by rw[hK];simpa using hm0
   have e1:(0:Int)<(m:Int):=by omega
   clear hK
   go_enter Tryz.func109,Tryz.ntmps109
   go_wp2_with (first | (go_at_call 169;refine (HC.out _ belB).mono ?_;rintro e w2 ⟨g,cap,rfl,hown,hb2⟩;have c0:=cell_keep hb2 (Boxed.new w 24 (.slice B nb cb)).cell;have hown2:=(show w2.ownsRow (w.heap.size+1) _ _ _ _ _ from (by simpa using hown));have hbk:=(hown2.lt g rfl).1;clear hown) | (go_at_call 168;refine (HD.out _ _ _ c0 belB hown2).mono ?_;rintro e w3 ⟨rfl,hR,hb3⟩))
   go_ret2
   exact⟨bstep (balloc (Below.refl _ _) _) (hb2.trans (hb3.mono (by simp))),_,_,rfl,hR,fun _ a ha=>(by cases ha;show w.heap.size≤g;omega)⟩
  ·obtain rfl:K=false:=by rw[hK];simpa using hm0
   obtain rfl:m=0:=by omega
   clear hK
   go_enter Tryz.func109,Tryz.ntmps109
   go_wp2_with (first | (go_at_call 169;refine (HC.out _ belB).mono ?_;rintro e w2 ⟨g,cap,rfl,hown,hb2⟩;have c0:=cell_keep hb2 (Boxed.new w 24 (.slice B nb cb)).cell;have hown2:=(show w2.ownsRow (w.heap.size+1) _ _ _ _ _ from (by simpa using hown));have hbk:=(hown2.lt g rfl).1;clear hown) | (go_at_call 168;refine (HD.out _ _ _ c0 belB hown2).mono ?_;rintro e w3 ⟨rfl,hR,hb3⟩))
   go_ret2
   exact⟨bstep (balloc (Below.refl _ _) _) (hb2.trans (hb3.mono (by simp))),_,_,rfl,hR,fun _ a ha=>(by cases ha;show w.heap.size≤g;omega)⟩
theorem allowsI_same (A:Option Addr) (n c:Nat) (xs:List Int) (x:Int) (w:World) (hA:Reads w 1 A n (xs.map (.int .i64))) (hn:n≤1000000000):Calls Tryz.prog 89 #[.slice A n c,.int .i64 x] w fun e w'=>e=.returned (.bool (allowsL xs x))∧w'=w:=by
 have hl:xs.length=n:=by have:=hA.1;simp at this;omega
 rcases Nat.eq_zero_or_pos n with h0 | h0
 ·subst h0
  obtain rfl:xs=[]:=List.eq_nil_of_length_eq_zero hl
  go_enter Tryz.func89,Tryz.ntmps89
  go_wp2
  go_ret
  exact⟨rfl,rfl⟩
 ·have he:xs.isEmpty=false:=by cases xs;simp at hl;omega;rfl
  obtain⟨b,o,rfl,hc⟩:=hA.2 h0
  have cC:=fun (W:World) (hb:W=w)=>Tryz.slices_Contains_int b o n c xs x W (by omega) (by omega) (fun j hj=>by
    rw[hb]
    refine hc j _ ?_
    rw[List.getElem?_map,List.getElem?_eq_getElem hj]
    simp[List.getD_eq_getElem?_getD,List.getElem?_eq_getElem hj])
  rw[List.take_of_length_le (by omega)]at cC
  have hcs:xs.contains x=allowsL xs x:=by
   unfold allowsL
   rw[he,Bool.false_or]
  rw[hcs]at cC
  have HC:=Lib.hid cC
  have hn0:((n:Int)==0)=false:=by simp;omega
  clear cC hc hA hcs he
  generalize allowsL xs x=res at *
  go_enter Tryz.func89,Tryz.ntmps89
  go_wp2_with (go_at_call 151;refine (HC.out _ rfl).mono ?_;rintro e w2 ⟨rfl,rfl⟩)
  go_ret
  exact⟨rfl,rfl⟩
theorem both1I (bx:Nat) (B:Option Addr) (nb cb:Nat) (ys:List Int) (x:Int) (W:World) (h0:W.cell? ⟨bx,0,none⟩=some (.slice B nb cb)) (hB:Reads W 1 B nb (ys.map (.int .i64))) (hn:nb≤1000000000) :
  Calls Tryz.prog 173 #[.int .i64 x,.pointer (some ⟨bx,0,none⟩)] W fun e w'=>e=.returned (.bool (!allowsL ys x))∧w'=W:=by
 have cA:=allowsI_same B nb cb ys x W hB hn
 generalize allowsL ys x=r at *
 have HA:=Lib.hid cA
 clear cA hB
 go_enter Tryz.func173,Tryz.ntmps173
 go_wp2_with (go_at_call 89;refine HA.out.mono ?_;rintro e w2 ⟨rfl,rfl⟩)
 go_ret
 exact⟨rfl,rfl⟩
theorem zero3 (w:World):(zeroValue 3).run Tryz.prog w=.ok (.int .i64 0) w:=by kernel_rfl
theorem delI (base blk cap n bx:Nat) (B:Option Addr) (nb cb:Nat) (zs ys:List Int) (W:World) (h0:W.cell? ⟨bx,0,none⟩=some (.slice B nb cb)) (hB:Reads W 1 B nb (ys.map (.int .i64))) (hnb:nb≤1000000000) (hbx:bx<base) (hBl:0<nb→∀ a,B=some a→a.block<base) (hbw:base≤W.heap.size)
  (hown:W.ownsRow base 3 1 (.slice (some ⟨blk,0,none⟩) n cap) n (zs.map (.int .i64))) (hn:n≤1000000000) :
  Calls Tryz.prog 171 #[.slice (some ⟨blk,0,none⟩) n cap,.func (.func 173) #[] #[.pointer (some ⟨bx,0,none⟩)]] W fun e w'=>e=.returned (.slice (some ⟨blk,0,none⟩) (zs.filter (allowsL ys)).length cap)∧Reads w' 1 (some ⟨blk,0,none⟩) (zs.filter (allowsL ys)).length ((zs.filter (allowsL ys)).map (.int .i64))∧Below base W w':=by
 have hl:zs.length=n:=by have:=hown.1;simp at this;omega
 subst hl
 have hbk:base≤blk:=(hown.lt blk rfl).1
 have hblk:blk<W.heap.size:=(hown.lt blk rfl).2
 have hcap:zs.length≤cap:=ownsRow_cap hown
 have hH:Holds (Value.int .i64) W blk 0 zs.toArray:=by
  intro j hj
  have hj':j<zs.length:=by simpa using hj
  refine⟨?_,hown.frozenAt (0+j)⟩
  have:=hown.cellAt (0+j) (by omega)
  rw[this]
  simp[List.getElem?_eq_getElem hj',getElem!_pos,hj']
 have key:∀ V:World,(∀ a:Addr,a.block≠blk→a.block<W.heap.size→V.cell? a=W.cell? a)→∀ x,FnGives Tryz.prog 173 #[.pointer (some ⟨bx,0,none⟩)] #[(Value.int .i64) x] (.bool (!allowsL ys x)) V:=by
  intro V hV x
  have hz0:V.cell? ⟨bx,0,none⟩=some (.slice B nb cb):=(hV _ (by simp;omega) (by simp;omega)).trans h0
  have hzB:Reads V 1 B nb (ys.map (.int .i64)):=by
   refine⟨hB.1,fun h=>?_⟩
   obtain⟨b,o,rfl,hc⟩:=hB.2 h
   have:=hBl h _ rfl
   simp only at this
   exact⟨b,o,rfl,fun j u hu=>(hV _ (by simp;omega) (by simp;omega)).trans (hc j u hu)⟩
  exact (both1I bx B nb cb ys x V hz0 hzB hnb).mono fun e w' ⟨h1,h2⟩=>⟨h1,0,by rw[h2];rfl⟩
 have:=Tryz.slices_DeleteFunc_f171 (Value.int .i64) (fun _=>rfl) (fun x=>!allowsL ys x) 173 #[.pointer (some ⟨bx,0,none⟩)] (enters_of Tryz.func173 (by kernel_rfl) rfl) (0:Int) zero3 blk 0 cap zs.toArray W
  (fun V x hb=>key V (fun a _ hl=>hb.cell hl) x) (fun m os dk x _=>key _ (fun a h hl=>put_cell (Value.int .i64) W m blk dk os a h hl) x) hH (by simp;omega) (by simpa using hcap)
 simp only[List.size_toArray,Bool.not_not]at this
 refine this.mono ?_
 rintro e w' ⟨rfl,q,rfl⟩
 refine⟨rfl,?_,?_⟩
 ·refine⟨by simp,fun _=>⟨blk,0,rfl,fun j u hu=>?_⟩⟩
  rw[List.getElem?_map,Option.map_eq_some_iff]at hu
  obtain⟨x,hx,rfl⟩:=hu
  have hjl:=(List.getElem?_eq_some_iff.1 hx).1
  have hfl:(zs.filter (allowsL ys)).length≤zs.length:=List.length_filter_le _ _
  have h1:=(holds_putRow (Value.int .i64) (Sort.ahead W q) blk 0 zs.toArray ((zs.filter (allowsL ys))++List.replicate (zs.length-(zs.filter (allowsL ys)).length) (0:Int)).toArray hH (by simp;omega) j (by simp;omega)).1
  rw[h1]
  congr 1
  congr 1
  have hj2:j<(zs.filter (allowsL ys)++List.replicate (zs.length-(zs.filter (allowsL ys)).length) (0:Int)).length:=by simp;omega
  rw[getElem!_pos _ _ (by simpa using hj2)]
  simp only[List.getElem_toArray]
  rw[List.getElem_append_left hjl]
  exact (List.getElem?_eq_some_iff.1 hx).2
 ·exact (Below.refl base W).grown (grownBy_putA (n:=q) (Value.int .i64) _) hbw (fun k hk=>by cases hk;exact hbk)
def BothPostI (xs ys:List Int) (w:World) (e:Ending) (w':World):Prop :=
 Below w.heap.size w w'∧∃ S cs,e=.returned (.tuple #[.slice S (bothF xs ys).length cs,.bool (bothOk xs ys)])∧Reads w' 1 S (bothF xs ys).length ((bothF xs ys).map (.int .i64))∧(0<(bothF xs ys).length→∀ a,S=some a→w.heap.size≤a.block)
theorem delI0 (A:Option Addr) (c:Nat) (fv:Value) (w:World):Calls Tryz.prog 171 #[.slice A 0 c,fv] w fun e w'=>e=.returned (.slice A 0 c)∧w'=w:=by
 have HC:=Lib.hid (fun W=>Tryz.slices_IndexFunc_empty_f225 (α:=Int) A c fv W)
 go_enter Tryz.func171,Tryz.ntmps171
 go_wp2_with (go_at_call 225;refine (HC.out _).mono ?_;rintro e w2 ⟨rfl,rfl⟩)
 go_ret
 exact⟨rfl,rfl⟩
theorem cloneI (A:Option Addr) (n c:Nat) (zs:List Int) (w:World) (hA:Reads w 1 A n (zs.map (.int .i64))) (h0:0<n) (hn:n≤1000000):Calls Tryz.prog 172 #[.slice A n c] w fun e w'=>∃ g cap,e=.returned (.slice (some ⟨g,0,none⟩) n cap)∧w'.ownsRow w.heap.size 3 1 (.slice (some ⟨g,0,none⟩) n cap) n (zs.map (.int .i64))∧Below w.heap.size w w':=by
 have hl:zs.length=n:=by have:=hA.1;simp at this;omega
 obtain⟨b,o,rfl,hc⟩:=hA.2 h0
 refine (Tryz.slices_Clone_int b o n c zs w (by omega) (by omega) (fun j hj=>?_)).mono ?_
 ·refine hc j _ ?_
  rw[List.getElem?_map,List.getElem?_eq_getElem hj]
  simp[List.getD_eq_getElem?_getD,List.getElem?_eq_getElem hj]
 ·rintro e w' ⟨v',rfl,hown,_,hb⟩
  rw[List.take_of_length_le (by omega)]at hown
  rcases hown.2 with ⟨_,h⟩ | ⟨g,cap,cur,rfl,r⟩
  ·omega
  ·exact⟨g,cap,rfl,hown,hb⟩
theorem cloneI0 (A:Option Addr) (c:Nat) (w:World):Calls Tryz.prog 172 #[.slice A 0 c] w fun e w'=>∃ A' c',e=.returned (.slice A' 0 c')∧Below w.heap.size w w':=by
 cases A with
 | none=>exact (Tryz.slices_Clone_int_nil 0 c w).mono fun e w' ⟨h1,h2⟩=>⟨none,0,h1,by rw[h2];exact Below.refl _ _⟩
 | some a =>
  refine (Tryz.slices_Clone_int_zero a c w).mono ?_
  rintro e w' ⟨v',rfl,hown,_,hb⟩
  rcases hown.2 with ⟨rfl,_⟩ | ⟨g,cap,cur,rfl,r⟩
  ·exact⟨none,0,rfl,hb⟩
  ·exact⟨_,_,rfl,hb⟩
theorem bothI_any (A:Option Addr) (na ca:Nat) (B:Option Addr) (nb cb:Nat) (xs ys:List Int) (w:World) (hA:Reads w 1 A na (xs.map (.int .i64))) (hB:Reads w 1 B nb (ys.map (.int .i64))) (h1:na≤1000000) (h2:nb≤1000000) :
  Calls Tryz.prog 110 #[.slice A na ca,.slice B nb cb] w (BothPostI xs ys w):=by
 have hla:xs.length=na:=by have:=hA.1;simp at this;omega
 have hlb:ys.length=nb:=by have:=hB.1;simp at this;omega
 have hbl:=fun (h:0<nb)=>reads_lt0 hB h
 have gen:∀ (L:Option Addr) (n c:Nat) (zs:List Int),Reads w 1 L n (zs.map (.int .i64))→0<n→n≤1000000→(∀ W,Below w.heap.size w W→Calls Tryz.prog 172 #[.slice L n c] W fun e w'=>∃ g cap,e=.returned (.slice (some ⟨g,0,none⟩) n cap)∧w'.ownsRow W.heap.size 3 1 (.slice (some ⟨g,0,none⟩) n cap) n (zs.map (.int .i64))∧Below W.heap.size W w') ∧
   (∀ (g cap:Nat) (W:World),W.cell? ⟨w.heap.size,0,none⟩=some (.slice B nb cb)→Below w.heap.size w W→W.ownsRow (w.heap.size+1) 3 1 (.slice (some ⟨g,0,none⟩) n cap) n (zs.map (.int .i64))→Calls Tryz.prog 171 #[.slice (some ⟨g,0,none⟩) n cap,.func (.func 173) #[] #[.pointer (some ⟨w.heap.size,0,none⟩)]] W fun e w'=>e=.returned (.slice (some ⟨g,0,none⟩) (zs.filter (allowsL ys)).length cap)∧Reads w' 1 (some ⟨g,0,none⟩) (zs.filter (allowsL ys)).length ((zs.filter (allowsL ys)).map (.int .i64))∧Below (w.heap.size+1) W w'):=by
  intro L n c zs hL h0 hn
  refine⟨fun W hb=>cloneI L n c zs W (hL.keep hb) h0 hn,fun g cap W c0 hb hown=>?_⟩
  exact delI (w.heap.size+1) g cap n w.heap.size B nb cb zs ys W c0 (hB.keep hb) (by omega) (by omega) (fun h a ha=>by have:=hbl h a ha;omega) (by have:=cell_lt c0;simp only at this;omega) hown (by omega)
 obtain⟨F,hF⟩:∃ F,F=bothF xs ys:=⟨_,rfl⟩
 obtain⟨K,hK⟩:∃ K,K=bothOk xs ys:=⟨_,rfl⟩
 unfold BothPostI
 rw[←hF,←hK]
 unfold bothF at hF
 unfold bothOk bothF at hK
 by_cases ha:na=0
 ·subst ha
  obtain rfl:xs=[]:=List.eq_nil_of_length_eq_zero hla
  simp only[List.isEmpty_nil,if_true]at hF hK
  by_cases hb0:nb=0
  ·subst hb0
   obtain rfl:ys=[]:=List.eq_nil_of_length_eq_zero hlb
   obtain rfl:F=[]:=hF
   obtain rfl:K=true:=hK
   have HC:=Lib.hid (fun W=>cloneI0 B cb W)
   have HD:=Lib.hid (fun A c fv W=>delI0 A c fv W)
   clear gen hA hB hbl hla hlb
   go_enter Tryz.func110,Tryz.ntmps110
   go_wp2_with (first | (go_at_call 172;refine (HC.out _).mono ?_;rintro e w2 ⟨A',c',rfl,hb2⟩) | (go_at_call 171;refine (HD.out _ _ _ _).mono ?_;rintro e w3 ⟨rfl,rfl⟩))
   go_ret2
   exact⟨belB,A',c',rfl,Reads.nil_ _ _ _,fun h=>absurd h (by simp)⟩
  ·obtain⟨hC,hD⟩:=gen B nb cb ys hB (by omega) h2
   have hye:ys.isEmpty=false:=by cases ys;simp at hlb;omega;rfl
   rw[←hF,hye,Bool.or_false]at hK
   rw[←hF]at hD
   have HC:=Lib.hid hC
   have HD:=Lib.hid hD
   have hlen:(!F.isEmpty)=decide (0<F.length):=by cases F <;> simp
   rw[hlen]at hK
   have e0:((nb:Int)==0)=false:=by simp;omega
   generalize hm:F.length=m at *
   clear gen hA hB hbl hF hla hlb hC hD hye hlen hm
   by_cases hm0:0<m
   ·obtain rfl:K=true:=by rw[hK];simpa using hm0
    have e1:(0:Int)<(m:Int):=by omega
    clear hK
    go_enter Tryz.func110,Tryz.ntmps110
    go_wp2_with (first | (go_at_call 172;refine (HC.out _ belB).mono ?_;rintro e w2 ⟨g,cap,rfl,hown,hb2⟩;have c0:=cell_keep hb2 (Boxed.new w 25 (.slice B nb cb)).cell;have hown2:=(show w2.ownsRow (w.heap.size+1) _ _ _ _ _ from (by simpa using hown));have hbk:=(hown2.lt g rfl).1;clear hown) | (go_at_call 171;refine (HD.out _ _ _ c0 belB hown2).mono ?_;rintro e w3 ⟨rfl,hR,hb3⟩))
    go_ret2
    exact⟨bstep (balloc (Below.refl _ _) _) (hb2.trans (hb3.mono (by simp))),_,_,rfl,hR,fun _ a ha=>(by cases ha;show w.heap.size≤g;omega)⟩
   ·obtain rfl:K=false:=by rw[hK];simpa using hm0
    obtain rfl:m=0:=by omega
    clear hK
    go_enter Tryz.func110,Tryz.ntmps110
    go_wp2_with (first | (go_at_call 172;refine (HC.out _ belB).mono ?_;rintro e w2 ⟨g,cap,rfl,hown,hb2⟩;have c0:=cell_keep hb2 (Boxed.new w 25 (.slice B nb cb)).cell;have hown2:=(show w2.ownsRow (w.heap.size+1) _ _ _ _ _ from (by simpa using hown));have hbk:=(hown2.lt g rfl).1;clear hown) | (go_at_call 171;refine (HD.out _ _ _ c0 belB hown2).mono ?_;rintro e w3 ⟨rfl,hR,hb3⟩))
    go_ret2
    exact⟨bstep (balloc (Below.refl _ _) _) (hb2.trans (hb3.mono (by simp))),_,_,rfl,hR,fun _ a ha=>(by cases ha;show w.heap.size≤g;omega)⟩
 ·obtain⟨hC,hD⟩:=gen A na ca xs hA (by omega) h1
  have hxe:xs.isEmpty=false:=by cases xs;simp at hla;omega;rfl
  rw[hxe]at hF hK
  simp only[Bool.false_eq_true,if_false]at hF hK
  rw[←hF,hxe,Bool.or_false]at hK
  rw[←hF]at hD
  have HC:=Lib.hid hC
  have HD:=Lib.hid hD
  have hlen:(!F.isEmpty)=decide (0<F.length):=by cases F <;> simp
  rw[hlen]at hK
  have e0:((na:Int)==0)=false:=by simp;omega
  generalize hm:F.length=m at *
  clear gen hA hB hbl hF hla hlb hC hD hxe hlen hm
  by_cases hm0:0<m
  ·obtain rfl:K=true:=by rw[hK];simpa using hm0
   have e1:(0:Int)<(m:Int):=by omega
   clear hK
   go_enter Tryz.func110,Tryz.ntmps110
   go_wp2_with (first | (go_at_call 172;refine (HC.out _ belB).mono ?_;rintro e w2 ⟨g,cap,rfl,hown,hb2⟩;have c0:=cell_keep hb2 (Boxed.new w 25 (.slice B nb cb)).cell;have hown2:=(show w2.ownsRow (w.heap.size+1) _ _ _ _ _ from (by simpa using hown));have hbk:=(hown2.lt g rfl).1;clear hown) | (go_at_call 171;refine (HD.out _ _ _ c0 belB hown2).mono ?_;rintro e w3 ⟨rfl,hR,hb3⟩))
   go_ret2
   exact⟨bstep (balloc (Below.refl _ _) _) (hb2.trans (hb3.mono (by simp))),_,_,rfl,hR,fun _ a ha=>(by cases ha;show w.heap.size≤g;omega)⟩
  ·obtain rfl:K=false:=by rw[hK];simpa using hm0
   obtain rfl:m=0:=by omega
   clear hK
   go_enter Tryz.func110,Tryz.ntmps110
   go_wp2_with (first | (go_at_call 172;refine (HC.out _ belB).mono ?_;rintro e w2 ⟨g,cap,rfl,hown,hb2⟩;have c0:=cell_keep hb2 (Boxed.new w 25 (.slice B nb cb)).cell;have hown2:=(show w2.ownsRow (w.heap.size+1) _ _ _ _ _ from (by simpa using hown));have hbk:=(hown2.lt g rfl).1;clear hown) | (go_at_call 171;refine (HD.out _ _ _ c0 belB hown2).mono ?_;rintro e w3 ⟨rfl,hR,hb3⟩))
   go_ret2
   exact⟨bstep (balloc (Below.refl _ _) _) (hb2.trans (hb3.mono (by simp))),_,_,rfl,hR,fun _ a ha=>(by cases ha;show w.heap.size≤g;omega)⟩
def PairBox (w:World) (g:Nat) (k v:ByteArray):Prop:=Blk w g 298 #[.string k,.string v] (0,0)
theorem PairBox.facts {w:World} {g:Nat} {k v:ByteArray} (h:PairBox w g k v):w.cell? ⟨g,0,none⟩=some (.string k)∧w.cell? ⟨g,1,none⟩=some (.string v):=⟨Blk.cell h 0,Blk.cell h 1⟩
theorem PairsPost.none_ {w w':World} (hb:Below w.heap.size w w'):PairsPost none w (.returned (.tuple #[.slice none 0 0,.bool false])) w':=⟨hb,rfl⟩
def ReadBox (w:World) (g:Nat) (c:ByteArray) (A:Option Addr) (na ca:Nat) (B:Option Addr) (nb cb:Nat) (e:Int):Prop:=Blk w g 231 #[.string c,.slice A na ca,.slice B nb cb,.int .i64 e] (0,0)
theorem ReadBox.facts {w:World} {g:Nat} {c:ByteArray} {A B:Option Addr} {na ca nb cb:Nat} {e:Int} (h:ReadBox w g c A na ca B nb cb e) :
  w.cell? ⟨g,0,none⟩=some (.string c)∧w.cell? ⟨g,1,none⟩=some (.slice A na ca)∧w.cell? ⟨g,2,none⟩=some (.slice B nb cb)∧w.cell? ⟨g,3,none⟩=some (.int .i64 e) ∧
   w.frozen? ⟨g,0,none⟩=false∧w.frozen? ⟨g,1,none⟩=false∧w.frozen? ⟨g,2,none⟩=false∧w.frozen? ⟨g,3,none⟩=false :=
 ⟨Blk.cell h 0,Blk.cell h 1,Blk.cell h 2,Blk.cell h 3,blk_free0 h 0,blk_free0 h 1,blk_free0 h 2,blk_free0 h 3⟩
def RReadPost (r:Adr × Int) (w:World) (e:Ending) (w':World):Prop :=
 Below w.heap.size w w'∧∃ A ca B cb,e=.returned (.agg #[.string r.1.cust,.slice A r.1.path.length ca,.slice B r.1.query.length cb,.int .i64 r.2])∧Reads w' 1 A r.1.path.length (r.1.path.map .string)∧Reads w' 2 B r.1.query.length (pairCells r.1.query)
theorem RReadPost.err {w w':World} {er:Int} (hb:Below w.heap.size w w'):RReadPost (noAdr,er) w (.returned (.agg #[.string ⟨#[]⟩,.slice none 0 0,.slice none 0 0,.int .i64 er])) w':=⟨hb,none,0,none,0,rfl,Reads.nil_ _ _ _,Reads.nil_ _ _ _⟩
theorem RPathPost.some_ {rr:Option (List ByteArray)} {X w':World} {e:Ending} (h:RPathPost rr X e w'):Below X.heap.size X w'∧∃ A c,e=.returned (.tuple #[.slice A (rr.getD []).length c,.bool rr.isSome])∧Reads w' 1 A (rr.getD []).length ((rr.getD []).map .string)∧(∀ a,A=some a→X.heap.size≤a.block):=by
 obtain⟨hb,h⟩:=h
 cases rr with
 | none=>exact⟨hb,none,0,h,Reads.nil_ _ _ _,fun a ha=>(by cases ha)⟩
 | some p=>exact⟨hb,h⟩
end Go.Proofs.YtlkbkclnbppigaaGreatDoor
