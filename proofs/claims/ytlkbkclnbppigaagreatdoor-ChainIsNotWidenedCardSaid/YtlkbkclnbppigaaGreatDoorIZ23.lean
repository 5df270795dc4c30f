/- What the condition package's both returns. -/
import Derived.Test.YtlkbkclnbppigaaGreatDoorIZ20
import Derived.Test.YtlkbkclnbppigaaGreatDoorIZ21
set_option maxHeartbeats 4000000
namespace Go.Proofs.YtlkbkclnbppigaaGreatDoor
open Tryz
open Go.RowKit Go.Sort
set_option linter.unusedVariables false
set_option linter.unusedSimpArgs false
set_option maxRecDepth 100000
theorem JE{w:World}{A:Option Addr}{n:Nat}{vs:List Value}(hR:aI w 1 A n vs)(hn:0<n):∀ a,A=some a->a.block<w.heap.size:=by
 intro a ha;obtain⟨b,o,e,hc⟩:=hR.2 hn;rw[e]at ha;injection ha with ha
 subst ha;have hl:0<vs.length:=by have:=hR.1;omega
 exact bu (hc 0 _ (List.getElem?_eq_getElem hl))
theorem VI(A:Option Addr)(n c:Nat)(xs:List aC)(x:aC)(w:World)(hA:aI w 1 A n (xs.map .string))(hn:n<=1000000000):Calls prog 88 #[.slice A n c,.string x] w fun e w'=>e=.returned (.bool (bG xs x))/\w'=w:=by
 have hl:xs.length=n:=jK;rcases Nat.eq_zero_or_pos n with h0 | h0
 ·exact Ib
 ·have he:xs.isEmpty=false:=yJ;obtain⟨b,o,rfl,hc⟩:=hA.2 h0;have cC:=fun (W:World) (hb:W=w)=>slices_Contains_string b o n c xs x W aB aB (fun j hj=>by
    rw[hb];refine hc j _ ?_;rw[List.getElem?_map,List.getElem?_eq_getElem hj];simp[List.getD_eq_getElem?_getD,List.getElem?_eq_getElem hj])
  rw[List.take_of_length_le aB]at cC;have hcs:Lib.containsS xs x=bG xs x:=by
   unfold bG;rw[he,Bool.false_or,Bool.eq_iff_iff,Lib.containsS_iff];simp
  rw[hcs]at cC;have HC:=aA cC;have hn0:((n:Int)==0)=false:=aP;clear cC hc hA hcs he;generalize bG xs x=res at *;go_enter func88,ntmps88;go_wp2_with (go_at_call 150;refine (HC.out _ rfl).mono ?_;rintro e w2 ⟨rfl,rfl⟩);go_ret;exact⟨rfl,rfl⟩
theorem VJ(bx:Nat)(B:Option Addr)(nb cb:Nat)(ys:List aC)(x:aC)(W:World)(h0:W.cell? ⟨bx,0,none⟩=some (.slice B nb cb))(hB:aI W 1 B nb (ys.map .string))(hn:nb<=1000000000) :
  Calls prog 170 #[.string x,.pointer (some ⟨bx,0,none⟩)] W fun e w'=>e=.returned (.bool (!bG ys x))/\w'=W:=by
 have cA:=VI B nb cb ys x W hB hn;generalize bG ys x=r at *;have HA:=aA cA;clear cA hB;go_enter func170,ntmps170;go_wp2_with (go_at_call 88;refine HA.out.mono ?_;rintro e w2 ⟨rfl,rfl⟩);go_ret;exact⟨rfl,rfl⟩
section
variable {α:Type} [Inhabited α]
theorem JF(enc:α->Value)(W:World)(n blk:Nat)(dk:Array α)(os:Array Obj)(a:Addr)(h:a.block≠blk)(hl:a.block<W.heap.size):(sortWorld enc W blk 0 n dk os).cell? a=W.cell? a:=by
 unfold sortWorld;have e:(Sort.grow (putRow enc (Sort.ahead W n) blk 0 dk) os).cell? a=(putRow enc (Sort.ahead W n) blk 0 dk).cell? a :=
  World.cell?_of_block (Sort.heap_grow_old _ os (by rw[size_putRow];exact hl))
 rw[e,cell?_putRow_other enc _ blk 0 dk a (.inl h)];rfl
theorem JG{w:World}{g n:Nat}(enc:α->Value)(d:Array α):w.grownBy (putRow enc (Sort.ahead w n) g 0 d) (some g):=by
 exact Et
end
theorem VL(w:World):(zeroValue 9).run prog w=.ok (.string ByteArray.empty) w:=by kernel_rfl
theorem VM(base blk cap n bx:Nat)(B:Option Addr)(nb cb:Nat)(zs ys:List aC)(W:World)(h0:W.cell? ⟨bx,0,none⟩=some (.slice B nb cb))(hB:aI W 1 B nb (ys.map .string))(hnb:nb<=1000000000)(hbx:bx<base)(hBl:0<nb->∀ a,B=some a->a.block<base)(hbw:base<=W.heap.size)
  (hown:W.ownsRow base 9 1 (.slice (some ⟨blk,0,none⟩) n cap) n (zs.map .string)) (hn:n<=1000000000) :
  Calls prog 168 #[.slice (some ⟨blk,0,none⟩) n cap,.func (.func 170) #[] #[.pointer (some ⟨bx,0,none⟩)]] W fun e w'=>e=.returned (.slice (some ⟨blk,0,none⟩) (zs.filter (bG ys)).length cap)/\aI w' 1 (some ⟨blk,0,none⟩) (zs.filter (bG ys)).length ((zs.filter (bG ys)).map .string)/\Below base W w':=by
 have hl:zs.length=n:=by have:=hown.1;simp at this;omega
 subst hl;have hbk:base<=blk:=(hown.lt blk rfl).1;have hblk:blk<W.heap.size:=(hown.lt blk rfl).2;have hcap:zs.length<=cap:=Bh hown;have hH:Holds Value.string W blk 0 zs.toArray:=by
  exact JH
 have key:∀ V:World,(∀ a:Addr,a.block≠blk->a.block<W.heap.size->V.cell? a=W.cell? a)->∀ x,FnGives prog 170 #[.pointer (some ⟨bx,0,none⟩)] #[Value.string x] (.bool (!bG ys x)) V:=by
  intro V hV x;have hz0:V.cell? ⟨bx,0,none⟩=some (.slice B nb cb):=(hV _ aP aP).trans h0;have hzB:aI V 1 B nb (ys.map .string):=by
   exact JI
  exact (VJ bx B nb cb ys x V hz0 hzB hnb).mono fun e w' ⟨h1,h2⟩=>⟨h1,0,by rw[h2];rfl⟩
 have:=slices_DeleteFunc_f168 Value.string (fun _=>rfl) (fun x=>!bG ys x) 170 #[.pointer (some ⟨bx,0,none⟩)] (enters_of func170 aG rfl) ByteArray.empty VL blk 0 cap zs.toArray W
  (fun V x hb=>key V (fun a _ hl=>hb.cell hl) x) (fun m os dk x _=>key _ (fun a h hl=>JF Value.string W m blk dk os a h hl) x) hH aP (by simpa using hcap)
 simp only[List.size_toArray,Bool.not_not]at this;refine this.mono ?_;rintro e w' ⟨rfl,q,rfl⟩;refine⟨rfl,?_,?_⟩
 ·refine⟨aH,fun _=>⟨blk,0,rfl,fun j u hu=>?_⟩⟩;rw[List.getElem?_map,Option.map_eq_some_iff]at hu;obtain⟨x,hx,rfl⟩:=hu;have hjl:=(List.getElem?_eq_some_iff.1 hx).1;have hfl:(zs.filter (bG ys)).length<=zs.length:=List.length_filter_le _ _;have h1:=(holds_putRow Value.string (Sort.ahead W q) blk 0 zs.toArray ((zs.filter (bG ys))++List.replicate (zs.length-(zs.filter (bG ys)).length) ByteArray.empty).toArray hH aP j aP).1;rw[h1];congr 1;congr 1;have hj2:j<(zs.filter (bG ys)++List.replicate (zs.length-(zs.filter (bG ys)).length) ByteArray.empty).length:=aP;exact JJ
 ·exact (Below.refl base W).grown (JG (n:=q) Value.string _) hbw (fun k hk=>by cases hk;exact hbk)
def Bi(xs ys:List aC)(w:World)(e:Ending)(w':World):Prop :=
 aF w w'/\∃ S cs,e=.returned (.tuple #[.slice S (eP xs ys).length cs,.bool (gW xs ys)])/\aI w' 1 S (eP xs ys).length ((eP xs ys).map .string)/\(0<(eP xs ys).length->∀ a,S=some a->w.heap.size<=a.block)
theorem VN(A:Option Addr)(c:Nat)(fv:Value)(w:World):Calls prog 168 #[.slice A 0 c,fv] w fun e w'=>e=.returned (.slice A 0 c)/\w'=w:=by
 have HC:=aA (fun W=>slices_IndexFunc_empty_f161 (α:=aC) A c fv W);go_enter func168,ntmps168;go_wp2_with (go_at_call 161;refine (HC.out _).mono ?_;rintro e w2 ⟨rfl,rfl⟩);go_ret;exact⟨rfl,rfl⟩
theorem VO(A:Option Addr)(n c:Nat)(zs:List aC)(w:World)(hA:aI w 1 A n (zs.map .string))(h0:0<n)(hn:n<=1000000):Calls prog 169 #[.slice A n c] w fun e w'=>∃ g cap,e=.returned (.slice (some ⟨g,0,none⟩) n cap)/\w'.ownsRow w.heap.size 9 1 (.slice (some ⟨g,0,none⟩) n cap) n (zs.map .string)/\aF w w':=by
 have hl:zs.length=n:=jK;obtain⟨b,o,rfl,hc⟩:=hA.2 h0;refine (slices_Clone_string b o n c zs w aB aB (fun j hj=>?_)).mono ?_
 ·exact JK
 ·exact JL
theorem VP(A:Option Addr)(c:Nat)(w:World):Calls prog 169 #[.slice A 0 c] w fun e w'=>∃ A' c',e=.returned (.slice A' 0 c')/\aF w w':=by
 cases A with
 | none=>exact (slices_Clone_string_nil 0 c w).mono fun e w' ⟨h1,h2⟩=>⟨none,0,h1,by rw[h2];exact Below.refl _ _⟩
 | some a =>
  refine (slices_Clone_string_zero a c w).mono ?_;exact JM
theorem JO(A:Option Addr)(na ca:Nat)(B:Option Addr)(nb cb:Nat)(xs ys:List aC)(w:World)(hA:aI w 1 A na (xs.map .string))(hB:aI w 1 B nb (ys.map .string))(h1:na<=1000000)(h2:nb<=1000000) :
  Calls prog 109 #[.slice A na ca,.slice B nb cb] w (Bi xs ys w):=by
 have hla:xs.length=na:=jK;have hlb:ys.length=nb:=Ag;have hbl:=fun (h:0<nb)=>JE hB h
 have gen:∀(L:Option Addr)(n c:Nat)(zs:List aC),aI w 1 L n (zs.map .string)->0<n->n<=1000000->(∀ W,aF w W->Calls prog 169 #[.slice L n c] W fun e w'=>∃ g cap,e=.returned (.slice (some ⟨g,0,none⟩) n cap)/\w'.ownsRow W.heap.size 9 1 (.slice (some ⟨g,0,none⟩) n cap) n (zs.map .string)/\aF W w') /\
   (∀(g cap:Nat)(W:World),W.cell? ⟨w.heap.size,0,none⟩=some (.slice B nb cb)->aF w W->W.ownsRow (w.heap.size+1) 9 1 (.slice (some ⟨g,0,none⟩) n cap) n (zs.map .string)->Calls prog 168 #[.slice (some ⟨g,0,none⟩) n cap,.func (.func 170) #[] #[.pointer (some ⟨w.heap.size,0,none⟩)]] W fun e w'=>e=.returned (.slice (some ⟨g,0,none⟩) (zs.filter (bG ys)).length cap)/\aI w' 1 (some ⟨g,0,none⟩) (zs.filter (bG ys)).length ((zs.filter (bG ys)).map .string)/\Below (w.heap.size+1) W w'):=by
  intro L n c zs hL h0 hn
  refine⟨fun W hb=>VO L n c zs W (hL.keep hb) h0 hn,fun g cap W c0 hb hown=>?_⟩
  exact VM (w.heap.size+1) g cap n w.heap.size B nb cb zs ys W c0 (hB.keep hb) aB aB (fun h a ha=>by have:=hbl h a ha;omega) (by have:=bu c0;simp only at this;omega) hown aB
 obtain⟨F,hF⟩:∃ F,F=eP xs ys:=⟨_,rfl⟩;obtain⟨K,hK⟩:∃ K,K=gW xs ys:=⟨_,rfl⟩;unfold Bi;rw[<-hF,<-hK];unfold eP at hF;unfold gW eP at hK;by_cases ha:na=0
 ·subst ha;obtain rfl:xs=[]:=List.eq_nil_of_length_eq_zero hla;simp only[List.isEmpty_nil,if_true]at hF hK;by_cases hb0:nb=0
  ·subst hb0;obtain rfl:ys=[]:=List.eq_nil_of_length_eq_zero hlb;obtain rfl:F=[]:=hF;obtain rfl:K=true:=hK;have HC:=aA (fun W=>VP B cb W);have HD:=aA (fun A c fv W=>VN A c fv W);clear gen hA hB hbl hla hlb;go_enter func109,ntmps109;go_wp2_with (first | (go_at_call 169;refine (HC.out _).mono ?_;rintro e w2 ⟨A',c',rfl,hb2⟩) | (go_at_call 168;refine (HD.out _ _ _ _).mono ?_;rintro e w3 ⟨rfl,rfl⟩));go_ret2;exact⟨aJ,A',c',rfl,aI.nil_ _ _ _,fun h=>absurd h aH⟩
  ·exact JP
 ·exact JQ
theorem VQ(A:Option Addr)(n c:Nat)(xs:List Int)(x:Int)(w:World)(hA:aI w 1 A n (xs.map (.int .i64)))(hn:n<=1000000000):Calls prog 89 #[.slice A n c,.int .i64 x] w fun e w'=>e=.returned (.bool (bG xs x))/\w'=w:=by
 have hl:xs.length=n:=jK;rcases Nat.eq_zero_or_pos n with h0 | h0
 ·exact Ic
 ·have he:xs.isEmpty=false:=yJ;obtain⟨b,o,rfl,hc⟩:=hA.2 h0;have cC:=fun (W:World) (hb:W=w)=>slices_Contains_int b o n c xs x W aB aB (fun j hj=>by
    rw[hb];refine hc j _ ?_;rw[List.getElem?_map,List.getElem?_eq_getElem hj];simp[List.getD_eq_getElem?_getD,List.getElem?_eq_getElem hj])
  rw[List.take_of_length_le aB]at cC;have hcs:xs.contains x=bG xs x:=by
   unfold bG;rw[he,Bool.false_or]
  rw[hcs]at cC;have HC:=aA cC;have hn0:((n:Int)==0)=false:=aP;clear cC hc hA hcs he;generalize bG xs x=res at *;go_enter func89,ntmps89;go_wp2_with (go_at_call 151;refine (HC.out _ rfl).mono ?_;rintro e w2 ⟨rfl,rfl⟩);go_ret;exact⟨rfl,rfl⟩
theorem VR(bx:Nat)(B:Option Addr)(nb cb:Nat)(ys:List Int)(x:Int)(W:World)(h0:W.cell? ⟨bx,0,none⟩=some (.slice B nb cb))(hB:aI W 1 B nb (ys.map (.int .i64)))(hn:nb<=1000000000) :
  Calls prog 173 #[.int .i64 x,.pointer (some ⟨bx,0,none⟩)] W fun e w'=>e=.returned (.bool (!bG ys x))/\w'=W:=by
 have cA:=VQ B nb cb ys x W hB hn;generalize bG ys x=r at *;have HA:=aA cA;clear cA hB;go_enter func173,ntmps173;go_wp2_with (go_at_call 89;refine HA.out.mono ?_;rintro e w2 ⟨rfl,rfl⟩);go_ret;exact⟨rfl,rfl⟩
theorem VS(w:World):(zeroValue 3).run prog w=.ok (.int .i64 0) w:=by kernel_rfl
theorem VT(base blk cap n bx:Nat)(B:Option Addr)(nb cb:Nat)(zs ys:List Int)(W:World)(h0:W.cell? ⟨bx,0,none⟩=some (.slice B nb cb))(hB:aI W 1 B nb (ys.map (.int .i64)))(hnb:nb<=1000000000)(hbx:bx<base)(hBl:0<nb->∀ a,B=some a->a.block<base)(hbw:base<=W.heap.size)
  (hown:W.ownsRow base 3 1 (.slice (some ⟨blk,0,none⟩) n cap) n (zs.map (.int .i64))) (hn:n<=1000000000) :
  Calls prog 171 #[.slice (some ⟨blk,0,none⟩) n cap,.func (.func 173) #[] #[.pointer (some ⟨bx,0,none⟩)]] W fun e w'=>e=.returned (.slice (some ⟨blk,0,none⟩) (zs.filter (bG ys)).length cap)/\aI w' 1 (some ⟨blk,0,none⟩) (zs.filter (bG ys)).length ((zs.filter (bG ys)).map (.int .i64))/\Below base W w':=by
 have hl:zs.length=n:=by have:=hown.1;simp at this;omega
 subst hl;have hbk:base<=blk:=(hown.lt blk rfl).1;have hblk:blk<W.heap.size:=(hown.lt blk rfl).2;have hcap:zs.length<=cap:=Bh hown;have hH:Holds (Value.int .i64) W blk 0 zs.toArray:=by
  exact JH
 have key:∀ V:World,(∀ a:Addr,a.block≠blk->a.block<W.heap.size->V.cell? a=W.cell? a)->∀ x,FnGives prog 173 #[.pointer (some ⟨bx,0,none⟩)] #[(Value.int .i64) x] (.bool (!bG ys x)) V:=by
  intro V hV x;have hz0:V.cell? ⟨bx,0,none⟩=some (.slice B nb cb):=(hV _ aP aP).trans h0;have hzB:aI V 1 B nb (ys.map (.int .i64)):=by
   exact JI
  exact (VR bx B nb cb ys x V hz0 hzB hnb).mono fun e w' ⟨h1,h2⟩=>⟨h1,0,by rw[h2];rfl⟩
 have:=slices_DeleteFunc_f171 (Value.int .i64) (fun _=>rfl) (fun x=>!bG ys x) 173 #[.pointer (some ⟨bx,0,none⟩)] (enters_of func173 aG rfl) (0:Int) VS blk 0 cap zs.toArray W
  (fun V x hb=>key V (fun a _ hl=>hb.cell hl) x) (fun m os dk x _=>key _ (fun a h hl=>JF (Value.int .i64) W m blk dk os a h hl) x) hH aP (by simpa using hcap)
 simp only[List.size_toArray,Bool.not_not]at this;refine this.mono ?_;rintro e w' ⟨rfl,q,rfl⟩;refine⟨rfl,?_,?_⟩
 ·refine⟨aH,fun _=>⟨blk,0,rfl,fun j u hu=>?_⟩⟩;rw[List.getElem?_map,Option.map_eq_some_iff]at hu;obtain⟨x,hx,rfl⟩:=hu;have hjl:=(List.getElem?_eq_some_iff.1 hx).1;have hfl:(zs.filter (bG ys)).length<=zs.length:=List.length_filter_le _ _;have h1:=(holds_putRow (Value.int .i64) (Sort.ahead W q) blk 0 zs.toArray ((zs.filter (bG ys))++List.replicate (zs.length-(zs.filter (bG ys)).length) (0:Int)).toArray hH aP j aP).1;rw[h1];congr 1;congr 1;have hj2:j<(zs.filter (bG ys)++List.replicate (zs.length-(zs.filter (bG ys)).length) (0:Int)).length:=aP;exact JJ
 ·exact (Below.refl base W).grown (JG (n:=q) (Value.int .i64) _) hbw (fun k hk=>by cases hk;exact hbk)
def Bj(xs ys:List Int)(w:World)(e:Ending)(w':World):Prop :=
 aF w w'/\∃ S cs,e=.returned (.tuple #[.slice S (eP xs ys).length cs,.bool (gW xs ys)])/\aI w' 1 S (eP xs ys).length ((eP xs ys).map (.int .i64))/\(0<(eP xs ys).length->∀ a,S=some a->w.heap.size<=a.block)
theorem VU(A:Option Addr)(c:Nat)(fv:Value)(w:World):Calls prog 171 #[.slice A 0 c,fv] w fun e w'=>e=.returned (.slice A 0 c)/\w'=w:=by
 have HC:=aA (fun W=>slices_IndexFunc_empty_f225 (α:=Int) A c fv W);go_enter func171,ntmps171;go_wp2_with (go_at_call 225;refine (HC.out _).mono ?_;rintro e w2 ⟨rfl,rfl⟩);go_ret;exact⟨rfl,rfl⟩
theorem VV(A:Option Addr)(n c:Nat)(zs:List Int)(w:World)(hA:aI w 1 A n (zs.map (.int .i64)))(h0:0<n)(hn:n<=1000000):Calls prog 172 #[.slice A n c] w fun e w'=>∃ g cap,e=.returned (.slice (some ⟨g,0,none⟩) n cap)/\w'.ownsRow w.heap.size 3 1 (.slice (some ⟨g,0,none⟩) n cap) n (zs.map (.int .i64))/\aF w w':=by
 have hl:zs.length=n:=jK;obtain⟨b,o,rfl,hc⟩:=hA.2 h0;refine (slices_Clone_int b o n c zs w aB aB (fun j hj=>?_)).mono ?_
 ·exact JK
 ·exact JL
theorem VW(A:Option Addr)(c:Nat)(w:World):Calls prog 172 #[.slice A 0 c] w fun e w'=>∃ A' c',e=.returned (.slice A' 0 c')/\aF w w':=by
 cases A with
 | none=>exact (slices_Clone_int_nil 0 c w).mono fun e w' ⟨h1,h2⟩=>⟨none,0,h1,by rw[h2];exact Below.refl _ _⟩
 | some a =>
  refine (slices_Clone_int_zero a c w).mono ?_;exact JM
theorem VY(A:Option Addr)(na ca:Nat)(B:Option Addr)(nb cb:Nat)(xs ys:List Int)(w:World)(hA:aI w 1 A na (xs.map (.int .i64)))(hB:aI w 1 B nb (ys.map (.int .i64)))(h1:na<=1000000)(h2:nb<=1000000) :
  Calls prog 110 #[.slice A na ca,.slice B nb cb] w (Bj xs ys w):=by
 have hla:xs.length=na:=jK;have hlb:ys.length=nb:=Ag;have hbl:=fun (h:0<nb)=>JE hB h
 have gen:∀(L:Option Addr)(n c:Nat)(zs:List Int),aI w 1 L n (zs.map (.int .i64))->0<n->n<=1000000->(∀ W,aF w W->Calls prog 172 #[.slice L n c] W fun e w'=>∃ g cap,e=.returned (.slice (some ⟨g,0,none⟩) n cap)/\w'.ownsRow W.heap.size 3 1 (.slice (some ⟨g,0,none⟩) n cap) n (zs.map (.int .i64))/\aF W w') /\
   (∀(g cap:Nat)(W:World),W.cell? ⟨w.heap.size,0,none⟩=some (.slice B nb cb)->aF w W->W.ownsRow (w.heap.size+1) 3 1 (.slice (some ⟨g,0,none⟩) n cap) n (zs.map (.int .i64))->Calls prog 171 #[.slice (some ⟨g,0,none⟩) n cap,.func (.func 173) #[] #[.pointer (some ⟨w.heap.size,0,none⟩)]] W fun e w'=>e=.returned (.slice (some ⟨g,0,none⟩) (zs.filter (bG ys)).length cap)/\aI w' 1 (some ⟨g,0,none⟩) (zs.filter (bG ys)).length ((zs.filter (bG ys)).map (.int .i64))/\Below (w.heap.size+1) W w'):=by
  intro L n c zs hL h0 hn
  refine⟨fun W hb=>VV L n c zs W (hL.keep hb) h0 hn,fun g cap W c0 hb hown=>?_⟩
  exact VT (w.heap.size+1) g cap n w.heap.size B nb cb zs ys W c0 (hB.keep hb) aB aB (fun h a ha=>by have:=hbl h a ha;omega) (by have:=bu c0;simp only at this;omega) hown aB
 obtain⟨F,hF⟩:∃ F,F=eP xs ys:=⟨_,rfl⟩;obtain⟨K,hK⟩:∃ K,K=gW xs ys:=⟨_,rfl⟩;unfold Bj;rw[<-hF,<-hK];unfold eP at hF;unfold gW eP at hK;by_cases ha:na=0
 ·subst ha;obtain rfl:xs=[]:=List.eq_nil_of_length_eq_zero hla;simp only[List.isEmpty_nil,if_true]at hF hK;by_cases hb0:nb=0
  ·subst hb0;obtain rfl:ys=[]:=List.eq_nil_of_length_eq_zero hlb;obtain rfl:F=[]:=hF;obtain rfl:K=true:=hK;have HC:=aA (fun W=>VW B cb W);have HD:=aA (fun A c fv W=>VU A c fv W);clear gen hA hB hbl hla hlb;go_enter func110,ntmps110;go_wp2_with (first | (go_at_call 172;refine (HC.out _).mono ?_;rintro e w2 ⟨A',c',rfl,hb2⟩) | (go_at_call 171;refine (HD.out _ _ _ _).mono ?_;rintro e w3 ⟨rfl,rfl⟩));go_ret2;exact⟨aJ,A',c',rfl,aI.nil_ _ _ _,fun h=>absurd h aH⟩
  ·exact JP
 ·exact JQ
def JR(w:World)(g:Nat)(k v:aC):Prop:=Blk w g 298 #[.string k,.string v] (0,0)
theorem JR.facts{w:World}{g:Nat}{k v:aC}(h:JR w g k v):w.cell? ⟨g,0,none⟩=some (.string k)/\w.cell? ⟨g,1,none⟩=some (.string v):=⟨Blk.cell h 0,Blk.cell h 1⟩
theorem nT.none_{w w':World}(hb:aF w w'):nT none w (.returned (.tuple #[.slice none 0 0,.bool false])) w':=⟨hb,rfl⟩
def JS(w:World)(g:Nat)(c:aC)(A:Option Addr)(na ca:Nat)(B:Option Addr)(nb cb:Nat)(e:Int):Prop:=Blk w g 231 #[.string c,.slice A na ca,.slice B nb cb,.int .i64 e] (0,0)
theorem JS.facts{w:World}{g:Nat}{c:aC}{A B:Option Addr}{na ca nb cb:Nat}{e:Int}(h:JS w g c A na ca B nb cb e) :
  w.cell? ⟨g,0,none⟩=some (.string c)/\w.cell? ⟨g,1,none⟩=some (.slice A na ca)/\w.cell? ⟨g,2,none⟩=some (.slice B nb cb)/\w.cell? ⟨g,3,none⟩=some (.int .i64 e) /\
   w.frozen? ⟨g,0,none⟩=false/\w.frozen? ⟨g,1,none⟩=false/\w.frozen? ⟨g,2,none⟩=false/\w.frozen? ⟨g,3,none⟩=false :=
 ⟨Blk.cell h 0,Blk.cell h 1,Blk.cell h 2,Blk.cell h 3,lJ h 0,lJ h 1,lJ h 2,lJ h 3⟩
def JU(r:Adr × Int)(w:World)(e:Ending)(w':World):Prop :=
 aF w w'/\∃ A ca B cb,e=.returned (.agg #[.string r.1.cust,.slice A r.1.path.length ca,.slice B r.1.query.length cb,.int .i64 r.2])/\aI w' 1 A r.1.path.length (r.1.path.map .string)/\aI w' 2 B r.1.query.length (eY r.1.query)
theorem JU.err{w w':World}{er:Int}(hb:aF w w'):JU (mJ,er) w (.returned (.agg #[.string ⟨#[]⟩,.slice none 0 0,.slice none 0 0,.int .i64 er])) w':=⟨hb,none,0,none,0,rfl,aI.nil_ _ _ _,aI.nil_ _ _ _⟩
theorem G7.some_{rr:Option (List aC)}{X w':World}{e:Ending}(h:G7 rr X e w'):aF X w'/\∃ A c,e=.returned (.tuple #[.slice A (rr.getD []).length c,.bool rr.isSome])/\aI w' 1 A (rr.getD []).length ((rr.getD []).map .string)/\(∀ a,A=some a->X.heap.size<=a.block):=by
 obtain⟨hb,h⟩:=h;cases rr with
 | none=>exact⟨hb,none,0,h,aI.nil_ _ _ _,fun a ha=>jd⟩
 | some p=>exact⟨hb,h⟩
end Go.Proofs.YtlkbkclnbppigaaGreatDoor
