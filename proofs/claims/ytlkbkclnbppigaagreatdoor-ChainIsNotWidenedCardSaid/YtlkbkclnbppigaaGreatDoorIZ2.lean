/- The pieces of a text between the bytes c: 'splitL'; and strings.SplitSeq's iterator yields them. -/
import Derived.Test.YtlkbkclnbppigaaGreatDoorIZ1
import Derived.Test.YtlkbkclnbppigaaGreatDoorIZ0
import Derived.Laws.CopyOwn
set_option maxHeartbeats 4000000
namespace Go.Proofs.YtlkbkclnbppigaaGreatDoor
open Tryz
open Go.RowKit Go.Sort
set_option linter.unusedVariables false
set_option linter.unusedSimpArgs false
set_option maxRecDepth 100000
attribute [local go_sem] Oper.semAt_some
def dO(c:UInt8):List UInt8->List (List UInt8)
 | []=>[[]]
 | b :: r=>if b=c then [] :: dO c r else match dO c r with
  | []=>[[b]]
  | p :: ps=>(b :: p) :: ps
theorem F9(c:UInt8)(l:List UInt8):dO c l ≠ []:=by
 cases l with
 | nil=>simp[dO]
 | cons b r=>unfold dO;split <;> (try split) <;> simp
theorem qK(b c:UInt8)(l:List UInt8):Lib.indexByte (b :: l) c=if b=c then 0 else if Lib.indexByte l c = -1 then -1 else Lib.indexByte l c+1:=by
 rw[Lib.indexByte];simp only[beq_iff_eq]
theorem xO(c:UInt8):∀ l:List UInt8,-1<=Lib.indexByte l c
 | []=>by simp[Lib.indexByte]
 | b :: l=>by have:=xO c l;rw[qK];split <;> (try split) <;> omega
theorem zq(c:UInt8):∀ l:List UInt8,Lib.indexByte l c<0->dO c l=[l]
 | [],_=>rfl
 | b :: r,h=>by
  rw[qK]at h;have hg:=xO c r;unfold dO;by_cases e:b=c
  ·rw[if_pos e]at h;omega
  ·rw[if_neg e]at h;have hr:Lib.indexByte r c<0:=by split at h <;> omega
   rw[if_neg e,zq c r hr]
theorem IL(c:UInt8):∀(l:List UInt8)(i:Nat),Lib.indexByte l c=i->dO c l=l.take i :: dO c (l.drop (i+1))/\i<l.length
 | [],i,h=>by simp[Lib.indexByte]at h
 | b :: r,i,h=>by
  rw[qK]at h;have hg:=xO c r;rw[dO];by_cases e:b=c
  ·rw[if_pos e]at h;obtain rfl:i=0:=aB;rw[if_pos e];simp
  ·rw[if_neg e]at h ⊢;by_cases h2:Lib.indexByte r c = -1
   ·rw[if_pos h2]at h;omega
   ·rw[if_neg h2]at h;obtain⟨j,hj⟩:∃ j:Nat,Lib.indexByte r c=j:=⟨(Lib.indexByte r c).toNat,aB⟩;obtain rfl:i=j+1:=aB;obtain⟨e1,e2⟩:=IL c r j hj;rw[e1];simp;exact e2
def splitB(c:UInt8)(s:aC):List aC:=(dO c s.data.toList).map fun l=>⟨l.toArray⟩
theorem fK{a b:aC}(h:a.data.toList=b.data.toList):a=b:=by
 obtain⟨⟨a⟩⟩:=a;obtain⟨⟨b⟩⟩:=b;simp at h;rw[h]
theorem splitB_miss(c:UInt8)(s:aC)(h:Lib.indexByte s.data.toList c<0):splitB c s=[s]:=by
 unfold splitB;rw[zq c _ h];rfl
theorem splitB_hit(c:UInt8)(s:aC)(i:Nat)(h:Lib.indexByte s.data.toList c=i):splitB c s=s.extract 0 i :: splitB c (s.extract (i+1) s.size)/\i<s.size:=by
 obtain⟨e1,e2⟩:=IL c _ i h;unfold splitB;rw[e1,Lib.extract_to_end,List.map_cons];refine⟨congrArg (· :: _) (fK ?_),by rw[Lib.size_eq];exact e2⟩;rw[Lib.extract_data];simp
theorem IP{α:Type}{l:List α}{k:Nat}{x:α}{r:List α}(h:l.drop k=x :: r):l[k]? = some x:=by
 have:=List.getElem?_drop (xs:=l) (i:=k) (j:=0);rw[h]at this;simpa using this.symm
def yG(b:Nat)(W W':World):Prop:=∃ v,W'=W.setCell ⟨b,0,none⟩ v
def yH(w:World)(b:Nat):Nat:=match w.cell? ⟨b,0,none⟩ with
 | some (.string s)=>s.size
 | _=>0
theorem IQ(b:Nat)(c:UInt8)(s:aC)(w:World)(hs:s.size<=4294967281)
  (h0:w.cell? ⟨b,0,none⟩=some (.string s)) (h1:w.cell? ⟨b+1,0,none⟩=some (.string ⟨#[c]⟩)) (h2:w.cell? ⟨b+2,0,none⟩=some (.int .i64 0)) (hf:w.frozen? ⟨b,0,none⟩=false) :
  oL prog 316 #[.pointer (some ⟨b+1,0,none⟩),.pointer (some ⟨b,0,none⟩),.pointer (some ⟨b+2,0,none⟩)] ((splitB c s).map .string) (yG b) b (b+3) w:=by
 intro l J Jx W hW _ hJT hY hJ0;have g0:=aW hW h0;have g1:=aW hW h1;have g2:=aW hW h2;have gf:=dV hW (bu h0) hf;clear h0 h1 h2 hf hW w;refine callsIn_of_wp func316 rfl trivial ?_ rfl;simp only[ntmps316,List.size_toArray,List.length_cons,List.length_nil,Nat.reduceAdd,Nat.reduceSub,Array.replicate_succ,Array.replicate_zero,List.push_toArray,List.append_toArray,List.nil_append,List.cons_append];have HJT:=aA hJT;have HY:=aA hY;clear hJT hY
 gi_wp2
 gi_loopw [7] (fun _ wr=>∃(k:Nat)(cur:aC),Hid ((splitB c s).drop k=splitB c cur)/\cur.size<=4294967281/\wr.cell? ⟨b,0,none⟩=some (.string cur)/\wr.cell? ⟨b+1,0,none⟩=some (.string ⟨#[c]⟩)/\wr.cell? ⟨b+2,0,none⟩=some (.int .i64 0)/\wr.frozen? ⟨b,0,none⟩=false/\J k wr)
  (fun _ wr=>yH wr b)
 case atStart=>exact⟨0,s,aA aH,hs,g0,g1,g2,gf,hJ0⟩
 case round =>
  clear g0 g1 g2 gf hJ0;obtain⟨k,cur,HD,hcur,g0,g1,g2,gf,hJ⟩:=hrel;have HM:=aA (show yH wr b=cur.size by simp[yH,g0]);by_cases hi:Lib.indexByte cur.data.toList c<0
  ·have hd:=HD.out;rw[splitB_miss c cur hi]at hd;have hx:((splitB c s).map Value.string)[k]? = some (.string cur):=by
    have:(splitB c s)[k]? = some cur:=IP hd;simp[this]
   have hlen:k+1=(splitB c s).length:=by
    have:=congrArg List.length hd;simp at this;omega
   obtain⟨fn,tmps,assign,body,hy,hR⟩:=HY.out k _ wr hx hJ;have HL:=aA hlen;clear hd hx hlen HY HJT HD;obtain⟨ix,hix⟩:∃ ix,Lib.indexByte cur.data.toList c=ix:=⟨_,rfl⟩;have cI:=strings_Index_one cur c wr;rw[hix]at cI hi;have HI:=aA cI;clear cI hix
   gi_wp2_with (refine⟨trivial,rfl,?_⟩;gi_at_call 198;refine (callsIn_wide.2 HI.out).mono ?_;rintro e w' ⟨rfl,hw'⟩;rw[hw'])
   refine⟨rfl,hR.mono ?_⟩;rintro e W' (⟨rfl,hJ',hk'⟩ | ⟨rfl,hJx'⟩)
   ·gi_wp2
    go_end0;exact⟨⟨_,rfl⟩,.inl (by rw[List.length_map,<-HL.out];exact hJ')⟩
   ·gi_wp2
    go_end0;exact⟨⟨_,rfl⟩,.inr hJx'⟩
  ·obtain⟨i,hix⟩:∃ i:Nat,Lib.indexByte cur.data.toList c=i:=⟨(Lib.indexByte cur.data.toList c).toNat,aB⟩;obtain⟨hd,hil⟩:=splitB_hit c cur i hix;rw[<-HD.out]at hd;have hx:((splitB c s).map Value.string)[k]? = some (.string (cur.extract 0 i)):=by
    have:(splitB c s)[k]? = some (cur.extract 0 i):=IP hd;simp[this]
   have hd2:(splitB c s).drop (k+1)=splitB c (cur.extract (i+1) cur.size):=by
    have:=congrArg (List.drop 1) hd;simpa[List.drop_drop] using this
   obtain⟨fn,tmps,assign,body,hy,hR⟩:=HY.out k _ wr hx hJ;have HD2:=aA hd2;have cI:=strings_Index_one cur c wr;rw[hix]at cI;have HI:=aA cI;have hsz:(cur.extract (i+1) cur.size).size<=cur.size-(i+1):=aH;clear hd hx hd2 cI hix HD hi
   gi_wp2_with (refine⟨trivial,rfl,?_⟩;gi_at_call 198;refine (callsIn_wide.2 HI.out).mono ?_;rintro e w' ⟨rfl,hw'⟩;rw[hw'])
   refine⟨rfl,hR.mono ?_⟩;rintro e W' (⟨rfl,hJ',hk'⟩ | ⟨rfl,hJx'⟩)
   ·have e0:W'.cell? ⟨b,0,none⟩=some (.string cur):=(World.cell?_of_block (hk' _ aH aH)).trans g0;have e1:W'.cell? ⟨b+1,0,none⟩=some (.string ⟨#[c]⟩):=(World.cell?_of_block (hk' _ aH aH)).trans g1;have e2:W'.cell? ⟨b+2,0,none⟩=some (.int .i64 0):=(World.cell?_of_block (hk' _ aH aH)).trans g2;have ef:W'.frozen? ⟨b,0,none⟩=false:=(World.frozen?_of_block (hk' _ aH aH)).trans gf;clear g0 g1 g2 gf
    gi_wp2
    have hst:(W'.setCell ⟨b,0,none⟩ (.string (cur.extract (i+1) cur.size))).cell? ⟨b,0,none⟩=some (.string (cur.extract (i+1) cur.size)):=World.cell?_setCell_same' _ _ _ (by rw[e0];rfl);refine⟨⟨k+1,_,HD2,aB,hst,?_,?_,by rw[World.frozen?_setCell];exact ef,HJT.out _ _ _ hJ' ⟨_,rfl⟩⟩,?_⟩
    ·rw[World.cell?_setCell_other _ _ _ _ aH];exact e1
    ·rw[World.cell?_setCell_other _ _ _ _ aH];exact e2
    ·rw[HM.out,yH,hst];dsimp only;omega
   ·gi_wp2
    exact uw
def jX(c:Nat):Bool:=decide (97<=c/\c<=122\/48<=c/\c<=57\/c=45\/c=95\/c=46)
def jW(b:UInt8):Bool:=jX b.toNat
theorem UZ(c:Nat)(w:World):Calls prog 221 #[.int .i32 c] w (Ret w (.bool (jX c))):=by
 go_enter func221,ntmps221;go_wp2;all_goals
  go_ret;exact⟨fV (by first | (rw[Bool.eq_iff_iff];simp[jX];done) | (rw[Bool.eq_iff_iff];simp[jX];omega)),aJ⟩
theorem Ua(c:Nat)(w:World):Calls prog 220 #[.int .i32 c] w (Ret w (.bool (!jX c))):=by
 go_enter func220,ntmps220;go_wp2_with (go_at_call 221;refine (UZ c _).mono ?_;rintro e w1 ⟨rfl,hb1⟩);go_ret;exact⟨rfl,aJ⟩
theorem IR(s:aC):∀(f pos:Nat),s.size<=pos+f->decide (0<=Lib.idxFuncFrom (fun c=>!jX c) true s f pos)=(s.data.toList.drop pos).any (fun b=>!jW b)
 | 0,pos,h=>by
  have:s.data.toList.drop pos=[]:=List.drop_eq_nil_of_le (by rw[<-Lib.size_eq];omega);simp[Lib.idxFuncFrom,this]
 | f+1,pos,h=>by
  unfold Lib.idxFuncFrom;by_cases hp:pos<s.size
  ·have hl:pos<s.data.toList.length:=by rw[<-Lib.size_eq];exact hp
   have hd:s.data.toList.drop pos=s.data.toList[pos] :: s.data.toList.drop (pos+1):=List.drop_eq_getElem_cons hl;have hb:s.data.toList[pos]=s[pos]:=by simp;rfl
   rw[if_pos hp,hd,List.any_cons,hb];by_cases ha:(s[pos]'hp).toNat<128
   ·rw[Go.decode_ascii s pos hp ha];dsimp only;cases hx:jX (s[pos]'hp).toNat
    ·simp[jW,hx]
    ·have ih:=IR s f (pos+1) aB;simp only[Bool.not_true,Bool.false_eq_true,if_false,ih,jW,hx,Bool.false_or]
   ·have h2:=Go.decode_high s pos hp aB;have h3:jX (Utf8.decode s pos).1=false:=by simp only[jX,decide_eq_false_iff_not];omega
    have h4:jX (s[pos]'hp).toNat=false:=by simp only[jX,decide_eq_false_iff_not];omega
    simp[h3,jW,h4]
  ·have:s.data.toList.drop pos=[]:=List.drop_eq_nil_of_le (by rw[<-Lib.size_eq];omega);simp[hp,this]
def bW(s:aC):Bool:=!s.toList.isEmpty&&decide (s.size<=64)&&!(s.toList == [46])&&!(s.toList == [46,46])&&s.data.toList.all jW
theorem Ub(s:aC)(w:World):Calls prog 219 #[.string s,.func (.func 220) #[] #[]] w (Ret w (.bool (!s.data.toList.all jW))):=by
 refine (strings_ContainsFunc_grows 220 #[] (enters_of func220 aG rfl) (fun c=>!jX c) s w ?_).mono ?_
 ·intro W x _ _;exact Ua x W
 ·rintro e w1 ⟨rfl,hb⟩;refine⟨fV ?_,hb⟩;have:=IR s s.size 0 aB;rw[Lib.idxFunc,this];simp[List.all_eq_not_any_not]
theorem oW(s:aC)(w:World)(hs:s.size<=4294967281):Calls prog 162 #[.string s] w (Ret w (.bool (bW s))):=by
 by_cases h64:s.size<=64;all_goals
  go_enter func162,ntmps162;go_wp2_with (go_at_call 219;refine (Ub s _).mono ?_;rintro e w1 ⟨rfl,hb1⟩);all_goals
   go_ret;exact⟨fV (by simp[bW, *]),aJ⟩
def bU(s:aC):Bool:=bW s&&!decide (0<=Lib.indexByte s.data.toList 46)
theorem rW(s:aC)(w:World)(hs:s.size<=4294967281):Calls prog 94 #[.string s] w (Ret w (.bool (bU s))):=by
 have c1:=fun W=>oW s W hs
 cases hw:bW s;all_goals
  rw[hw]at c1;go_enter func94,ntmps94;go_wp2_with (first | (go_at_call 162;refine (c1 _).mono ?_;rintro e w1 ⟨rfl,hb1⟩) | (go_at_call 163;refine (strings_Contains_one s 46 _).mono ?_;rintro e w2 ⟨rfl,rfl⟩));go_ret;exact⟨fV (by simp[bU,hw]),aJ⟩
def mV(p:aC->Bool):List aC->Nat->Int
 | [],_=>-1
 | x :: r,k=>if p x then k else mV p r (k+1)
theorem IU(p:aC->Bool):∀(l:List aC)(k:Nat),decide (0<=mV p l k)=l.any p
 | [],k=>by simp[mV]
 | x :: r,k=>by
  unfold mV;cases h:p x
  ·simp[h,IU p r (k+1)]
  ·simp[h]
theorem pG{xs:List aC}{k:Nat}{u:Value}(h:(xs.map Value.string)[k]? = some u):∃ x,xs[k]? = some x/\u=.string x:=by
 rw[List.getElem?_map,Option.map_eq_some_iff]at h;obtain⟨x,hx,rfl⟩:=h;exact⟨x,hx,rfl⟩
theorem Uc(g:Nat)(eg:∀ args w,(callFunc g args).run prog w=.ok (.enter g args) w)(p:aC->Bool)(A:Option Addr)(n c:Nat)(xs:List aC)(w:World)
  (hp:∀ x∈xs,∀ W,Calls prog g #[.string x] W (Ret W (.bool (p x)))) (hA:aI w 1 A n (xs.map .string)) (hn:n<=1000000000) :
  Calls prog 161 #[.slice A n c,.func (.func g) #[] #[]] w (Ret w (.int .i64 (mV p xs 0))):=by
 have hl:n<=xs.length/\xs.length<=n:=jK;have HP:=aA hp;have HA:=aA hA;clear hp hA;go_enter func161,ntmps161;go_wp2;go_loopw [8] (fun i wr=>∃ k:Nat,k<=n/\i=.int .i64 k/\Hid (mV p xs 0=mV p (xs.drop k) k)/\aF w wr) (fun i _=>n-(intOf i).toNat)
 case atStart=>exact⟨0,aB,rfl,aA rfl,Below.refl _ _⟩
 case round =>
  obtain⟨k,hk,rfl,HI,hb⟩:=hrel;by_cases hlt:k<n
  ·obtain⟨pb,po,u,rfl,hu,hcell⟩:=(HA.out.keep hb).at_ hlt;obtain⟨x,hx,rfl⟩:=pG hu;clear hu;have hc:=fun W=>HP.out x (List.mem_of_getElem? hx) W
   have hd:xs.drop k=x :: xs.drop (k+1):=by
    exact IV
   have HI2:=HI.out;rw[hd,mV]at HI2;clear hd hx HI;have HI:=aA HI2;clear HI2;cases hpx:p x;all_goals
    rw[hpx]at hc HI;have HC:=aA hc;clear hc hpx;go_wp2_with (go_at_fn g;refine (HC.out _).mono ?_;rintro e w2 ⟨rfl,hb2⟩)
   ·exact IW
   ·go_ret;have:=HI.out;exact⟨wS (by rw[this];simp),aV hb hb2⟩
  ·have he:mV p xs 0 = -1:=by rw[HI.out,List.drop_eq_nil_of_le aB];rfl
   have HE:=aA he;clear he HI;go_wp2;go_ret;exact⟨wS HE.out.symm,hb⟩
theorem Eu(g:Nat)(eg:∀ args w,(callFunc g args).run prog w=.ok (.enter g args) w)(p:aC->Bool)(A:Option Addr)(n c:Nat)(xs:List aC)(w:World)
  (hp:∀ x∈xs,∀ W,Calls prog g #[.string x] W (Ret W (.bool (p x)))) (hA:aI w 1 A n (xs.map .string)) (hn:n<=1000000000) :
  Calls prog 92 #[.slice A n c,.func (.func g) #[] #[]] w (Ret w (.bool (xs.any p))):=by
 rw[<-IU p xs 0];have H:=aA (Uc g eg p A n c xs w hp hA hn);clear hp hA;generalize mV p xs 0=r at H ⊢;go_enter func92,ntmps92;go_wp2_with (go_at_call 161;refine H.out.mono ?_;rintro e w2 ⟨rfl,hb2⟩);go_ret;exact⟨rfl,hb2⟩
theorem Ud(x:aC)(w:World)(hx:x.size<=4294967281):Calls prog 267 #[.string x] w (Ret w (.bool (!bW x))):=by
 go_enter func267,ntmps267;go_wp2_with (go_at_call 162;refine (oW x _ hx).mono ?_;rintro e w1 ⟨rfl,hb1⟩);go_ret;exact⟨rfl,aJ⟩
theorem Qv(x:aC)(w:World)(hx:x.size<=4294967281):Calls prog 93 #[.string x] w (Ret w (.bool (!bU x))):=by
 go_enter func93,ntmps93;go_wp2_with (go_at_call 94;refine (rW x _ hx).mono ?_;rintro e w1 ⟨rfl,hb1⟩);go_ret;exact⟨rfl,aJ⟩
theorem sizeBuilder:(prog.info? 174).map (·.size)=some 2:=by kernel_rfl
theorem liesBuilder:liesAt prog prog.depth 174 (2 / prog.cellsOf 174) 0 174 1=true:=by kernel_rfl
theorem infoByte:(prog.info? 5).map (fun i=>(i.zero,i.size,i.bytes))=some (some (.int .u8 0),1,1):=by kernel_rfl
theorem Ue(b:Nat)(w:World)(h0:w.cell? ⟨b,0,none⟩=some (.pointer (some ⟨b,0,none⟩))) :
  Calls prog 194 #[.pointer (some ⟨b,0,none⟩)] w fun e w'=>e=.returned (.tuple #[])/\w'=w:=by
 obtain⟨j,hj,_⟩:=Option.map_eq_some_iff.1 sizeBuilder;go_enter func194,ntmps194;go_wp2;rw[Lib.run_neq_ptr_same w _ underlying172 hj];go_wp2;go_end0;exact⟨rfl,rfl⟩
theorem Uf(b:Nat)(w:World)(h0:w.cell? ⟨b,0,none⟩=some (.pointer none))(hsh:w.shape? b=some (174,2))(hfz:w.frozen? ⟨b,0,none⟩=false) :
  Calls prog 194 #[.pointer (some ⟨b,0,none⟩)] w fun e w'=>e=.returned (.tuple #[])/\w'=w.setCell ⟨b,0,none⟩ (.pointer (some ⟨b,0,none⟩)):=by
 obtain⟨j,hj,hjs⟩:=Option.map_eq_some_iff.1 sizeBuilder;go_enter func194,ntmps194;go_wp2;rw[Lib.run_to_unsafe w ⟨b,0,none⟩ underlying172 underlying282 hj (by rw[hjs];decide) hsh (Nat.zero_lt_succ 1)];simp only[Result.andThen];rw[Oper.upon_value];go_wp2;rw[run_callFunc_extern func247 aG aG aG (e:=Extern.AbiNoEscape.same) aG];rw[Lib.run_noEscape];simp only[Result.andThen];rw[Oper.upon_value];go_wp2;rw[Lib.run_from_unsafe w ⟨b,0,none⟩ underlying282 underlying172 hj hsh liesBuilder];simp only[Result.andThen];rw[Oper.upon_value];go_wp2;go_end0;exact⟨rfl,rfl⟩
theorem Ug(B b:Nat)(bs:List Value)(w:World)(h:Lib.IsBuilder 174 5 B b bs w) :
  Calls prog 194 #[.pointer (some ⟨b,0,none⟩)] w fun e w'=>e=.returned (.tuple #[])/\(Lib.BuilderAt 174 5 B b (.pointer (some ⟨b,0,none⟩)) bs w'/\Below B w w'):=by
 rcases h with h | h
 ·refine (Uf b w h.cell0 h.shape h.frozen0).mono ?_;rintro e w' ⟨rfl,rfl⟩;exact⟨rfl,h.used _,(Below.refl B w).setCell (p:=⟨b,0,none⟩) h.1 _⟩
 ·refine (Ue b w h.cell0).mono ?_;rintro e w' ⟨rfl,rfl⟩;exact⟨rfl,h,Below.refl B _⟩
theorem BR(B b:Nat)(bs:List Value)(s:aC)(w:World)(h:Lib.IsBuilder 174 5 B b bs w)(hlen:bs.length+s.size<=140737488355328)(hBw:B<=w.heap.size) :
  Calls prog 134 #[.pointer (some ⟨b,0,none⟩),.string s] w fun e w'=>e=.returned (.tuple #[.int .i64 s.size,.nilIface])/\(Lib.BuilderAt 174 5 B b (.pointer (some ⟨b,0,none⟩)) (bs++Lib.strCells s) w'/\Below B w w'):=by
 obtain⟨i0,hi,hz0,hz1,hz2⟩:=info_parts infoByte;go_enter func134,ntmps134;go_wp2_with (go_at_call 194;refine (Ug B b bs _ h).mono ?_);rintro e w1 ⟨rfl,h1,hb1⟩;obtain⟨hB,v,hbk,hown,hne⟩:=h1;have c0:w1.cell? ⟨b,0,none⟩=some (.pointer (some ⟨b,0,none⟩)):=by rw[Lib.cell_of_heap hbk];rfl
 have c1:w1.cell? ⟨b,1,none⟩=some v:=by rw[Lib.cell_of_heap hbk];rfl
 go_wp2_with (at_builtin;refine Lib.wpList_append_own_string _ rfl _ _ 105 9 rfl B 5 i0 underlying105 underlying9 hi hz0 hz1 hz2 _ _ _ rfl hown s rfl ?c3 ?c4 ?c5 ?_)
 case c3=>unfold maxLen;omega
 case c4=>omega
 case c5=>have:=hb1.size;omega
 intro v' w2 hown' hgrow _;have hlt:b<w1.heap.size:=by
  rcases Nat.lt_or_ge b w1.heap.size with h' | h'
  ·exact h'
  ·simp[Array.getElem?_eq_none h']at hbk
 have hb2:w2.heap[b]? = some (.cells #[.pointer (some ⟨b,0,none⟩),v] 174 (0,0)):=by
  rw[hgrow.block b hlt (fun e=>hne e.symm)];exact hbk
 have d0:w2.cell? ⟨b,0,none⟩=some (.pointer (some ⟨b,0,none⟩)):=by rw[Lib.cell_of_heap hb2];rfl
 have d1:w2.cell? ⟨b,1,none⟩=some v:=by rw[Lib.cell_of_heap hb2];rfl
 have f1:w2.frozen? ⟨b,1,none⟩=false:=Lib.frozen_of_heap hb2 1;obtain⟨ao,n',cap,rfl⟩:∃ ao n' cap,v'=.slice ao n' cap:=by
  rcases hown'.2 with ⟨hv,_⟩ | ⟨g,cap,cur,hv,_⟩
  ·exact⟨_,_,_,hv⟩
  ·exact⟨_,_,_,hv⟩
 go_wp2;go_ret2;refine⟨rfl,?_,?_⟩
 ·exact Lib.BuilderAt.put (T:=174) (e:=5) hB hb2 (bs':=bs++Lib.strCells s) (by simpa[Lib.strCells_length] using hown') aK
 ·exact (hb1.grown hgrow Aq (fun k hk=>(hown.lt k hk).1)).setCell (p:=⟨b,1,none⟩) hB _
def uy(n:Nat):Nat:=if 65<=n/\n<=90 then n+32 else n
def iI(l:List UInt8):List UInt8:=l.map fun b=>UInt8.ofNat (uy b.toNat)
theorem IX(b:UInt8):uy b.toNat<256:=by have:=b.toNat_lt;unfold uy;split <;> omega
def Blk(w:World)(g:Nat)(t:TypeId)(cs:Array Value)(fr:Nat × Nat):Prop:=w.heap[g]? = some (.cells cs t fr)
section
variable {w w':World} {g:Nat} {t:TypeId} {cs:Array Value} {fr:Nat × Nat}
theorem Blk.lt(h:Blk w g t cs fr):g<w.heap.size:=by
 rcases Nat.lt_or_ge g w.heap.size with hlt | hge
 ·exact hlt
 ·unfold Blk at h;rw[Array.getElem?_eq_none hge]at h;cases h
theorem Blk.cell(h:Blk w g t cs fr)(i:Nat):w.cell? ⟨g,i,none⟩=cs[i]?:=cell_of_row w g i cs t fr h
theorem Blk.free(h:Blk w g t cs fr)(i:Nat)(hi:i<fr.1):w.frozen? ⟨g,i,none⟩=false:=by
 unfold Blk at h;simp[World.frozen?,h];omega
theorem Blk.keep(h:Blk w g t cs fr)(hb:aF w w'):Blk w' g t cs fr:=(hb.block g h.lt).trans h
theorem Blk.set_(h:Blk w g t cs fr)(i:Nat)(u:Value):Blk (w.setCell ⟨g,i,none⟩ u) g t (cs.setIfInBounds i u) fr:=by
 unfold Blk at h ⊢;simp[World.setCell,Array.getElem?_modify,h]
end
theorem Uh{P:Program}(w:World)(src dst e:TypeId)(a:Addr)(n cap:Nat)(l:List UInt8)(hn:l.length=n)(hs:P.underlying src=some (.slice e))(he:P.underlying e=some (.int .u8))(hd:P.underlying dst=some .string)
  (hc:∀ j (hj:j<l.length),w.cell? (a.add j)=some (.int .u8 (l[j].toNat:Int))) :
  (convert src dst (.slice (some a) n cap)).run P w=.ok (.string ⟨l.toArray⟩) w:=by subst hn;exact run_convert_bytes_back w src dst e a cap l hs he hd hc
def iW(s:aC)(k j:Nat):Int:=if j<k then (uy (s.data.toList[j]?.getD 0).toNat:Nat) else ((s.data.toList[j]?.getD 0).toNat:Nat)
theorem IY(s:aC)(k j:Nat):iW s (k+1) j=if j=k then (if 65<=iW s k k/\iW s k k<=90 then iW s k k+97-65 else iW s k k) else iW s k j:=by
 unfold iW;by_cases h:j=k
 ·subst h;simp only[Nat.lt_irrefl,if_false,if_true,Nat.lt_add_one,uy];split <;> split <;> omega
 ·simp only[h,if_false];split <;> split <;> first | rfl | omega
theorem Ui(s:aC)(k j:Nat):0<=iW s k j/\iW s k j<256:=by
 unfold iW;have h1:=(s.data.toList[j]?.getD 0).toNat_lt;have h2:=IX (s.data.toList[j]?.getD 0);split <;> omega
theorem Uj(s:aC)(j:Nat)(hj:j<(iI s.data.toList).length):iW s s.size j=((iI s.data.toList)[j].toNat:Nat):=by
 have hl:j<s.data.toList.length:=by simpa[iI] using hj
 have:j<s.size:=by rw[Lib.size_eq];exact hl
 unfold iW;rw[if_pos this];have h2:=IX s.data.toList[j];simp only[iI,List.getElem_map,List.getElem?_eq_getElem hl,Option.getD_some,UInt8.toNat_ofNat'];omega
theorem Uk(s:aC)(w:World)(hs:s.size<=4294967281):Calls prog 261 #[.string s] w (Ret w (.string ⟨(iI s.data.toList).toArray⟩)):=by
 have hcv:=fun W=>run_bytes_of_string (P:=prog) W 9 105 5 s underlying9 underlying105 underlying5
 go_enter func261,ntmps261;go_wp2;clear hcv;obtain⟨R,hR⟩:∃ R,bytesRow s (grownCap w s.size 0 5)=R:=⟨_,rfl⟩;obtain⟨C,hC⟩:∃ C,grownCap w s.size 0 5=C:=⟨_,rfl⟩;have hrow:∀ j,j<s.size->R[j]? = some (.int .u8 (iW s 0 j)):=by
  intro j hj;rw[<-hR,bytesRow_at _ _ _ hj];simp only[iW,Nat.not_lt_zero,if_false];have hl:j<s.data.toList.length:=by rw[<-Lib.size_eq];exact hj
  rw[List.getElem?_eq_getElem hl];rfl
 have hRs:s.size<=R.size:=by rw[<-hR];simp only[bytesRow,Array.size_append,Array.size_map];exact Nat.le_add_right _ _
 rw[hR,hC];clear hR hC;go_loopw [10] (fun i wr=>∃(k:Nat)(R':Array Value),k<=s.size/\i=.int .i64 k/\Blk wr w.heap.size 5 R' (R.size,R.size+1)/\(∀ j,j<s.size->R'[j]? = some (.int .u8 (iW s k j)))/\aF w wr) (fun i _=>s.size-(intOf i).toNat)
 case atStart=>exact⟨0,R,aB,rfl,heap_alloc_new w _,hrow,aJ⟩
 case round =>
  obtain⟨k,R',hk,rfl,hB,hr,hb⟩:=hrel;have H:=aA hr;clear hr hrow;by_cases hlt:k<s.size
  ·have hcell:wr.cell? ⟨w.heap.size,k,none⟩=some (.int .u8 (iW s k k)):=by rw[hB.cell];exact H.out k hlt
   have hfree:=hB.free k aP;have hbd:=Ui s k k;go_wp2
   ·refine⟨⟨k+1,_,aB,bg,hB.set_ k _,fun j hj=>?_,aJ⟩,dD⟩;rw[Array.getElem?_setIfInBounds,IY];have hkR:k<R'.size:=by
     have:=H.out k hlt;exact (Array.getElem?_eq_some_iff.1 this).1
    by_cases e:k=j
    ·subst e;rw[if_pos rfl,if_pos hkR,if_pos rfl,if_pos ⟨dJ,dJ⟩]
    ·rw[if_neg e,if_neg (Ne.symm e)];exact H.out j hj
   all_goals
    refine⟨⟨k+1,_,aB,bg,hB,fun j hj=>?_,hb⟩,dD⟩;rw[H.out j hj,IY];by_cases e:j=k
    ·subst e;rw[if_pos rfl,if_neg aB]
    ·rw[if_neg e]
  ·obtain rfl:k=s.size:=aB;have hback:∀ c,(convert 105 9 (.slice (some ⟨w.heap.size,0,none⟩) s.size c)).run prog wr=.ok (.string ⟨(iI s.data.toList).toArray⟩) wr:=fun c =>
    Uh wr 105 9 5 ⟨w.heap.size,0,none⟩ s.size c (iI s.data.toList) (by simp[iI]) underlying105 underlying5 underlying9 (fun j hj=>by
     have hj':j<s.size:=by rw[Lib.size_eq];simpa[iI] using hj
     have e:(⟨w.heap.size,0,none⟩:Addr).add j=⟨w.heap.size,j,none⟩:=nH
     rw[e,hB.cell,H.out j hj',Uj s j hj])
   go_wp2;go_ret;exact⟨rfl,hb⟩
def jZ(s:aC):List Value:=s.data.toList.map fun b=>Value.int .u8 b.toNat
theorem Gf(s:aC):(jZ s).length=s.size:=by
 unfold jZ;rw[List.length_map,Array.length_toList];rfl
section
variable {P:Program}
theorem yI(w:World)(g o:Nat)(t ty:TypeId)(cur cs:List Value)(fr:Nat × Nat)(d:TypeDesc)(hg:w.heap[g]? = some (.cells cur.toArray t fr))(hcs:∀ j v,cs[j]? = some v->cur[o+j]? = some v)
  (hu:P.underlying ty=some d) (hd:(match d with | .struct _ | .array _ _=>true | _=>false)=true) (hi:(P.info? ty).map (·.size)=some cs.length) :
  (loadVar ty ⟨g,o,none⟩).run P w=.ok (.agg cs.toArray) w:=by
 have hl:(loadCells ⟨g,o,none⟩ cs.length).run P w=.ok cs.toArray w :=
  run_loadCells_list (P:=P) w ⟨g,o,none⟩ cs (fun j v hv=>by
   have hadd:(⟨g,o,none⟩:Addr).add j=⟨g,o+j,none⟩:=nH
   rw[hadd,cell_of_row w g (o+j) cur.toArray t fr hg]
   simpa using hcs j v hv)
 cases hq:P.info? ty with
 | none=>simp[hq]at hi
 | some i =>
  have hs:i.size=cs.length:=by simpa[hq] using hi
  have hagg:(isAgg ty).run P w=.ok true w:=by
   unfold isAgg
   rw[Sem.run_bind,run_underlying hu w]
   cases d <;> simp_all
  simp[loadVar,Sem.run_bind,hagg,sizeOf,typeInfo,hq,hs,hl]
theorem Ul(w:World)(g o:Nat)(t ty:TypeId)(cur cs:List Value)(hg:w.heap[g]? = some (.cells cur.toArray t (0,0)))(hi:(P.info? ty).map (·.size)=some cs.length)
  (hfit:o+cs.length<=cur.length) (h1:∀ v∈cs,v.oneCell'=true) :
  (storeVar ty ⟨g,o,none⟩ (.agg cs.toArray)).run P w=.ok () (w.setRow g (splice cur o cs).toArray):=by
 have:=run_storeCells_at P g o t cs 0 cur.toArray w hg (by simpa using hfit) h1;cases hq:P.info? ty with
 | none=>simp[hq]at hi
 | some i =>
  have hs:i.size=cs.length:=by simpa[hq] using hi
  simp[storeVar,sizeOf,typeInfo,hq,Value.cells,hs,this,splice]
theorem Um{o:Oper}{a:Act}{w:World}{K:Act->World->Prop}{Q:Exit->Act->World->Prop}(ty:TypeId)(x:Operand)(ho:o.op=.load ty x)
  (g off:Nat) (hx:a.eval x=.pointer (some ⟨g,off,none⟩)) (t:TypeId) (cur cs:List Value) (fr:Nat × Nat) (d:TypeDesc) (hg:w.heap[g]? = some (.cells cur.toArray t fr)) (hcs:∀ j v,cs[j]? = some v->cur[off+j]? = some v)
  (hu:P.underlying ty=some d) (hd:(match d with | .struct _ | .array _ _=>true | _=>false)=true) (hi:(P.info? ty).map (·.size)=some cs.length)
  (h:K (a.put o.dst (.agg cs.toArray)) w):o.wp P a w K Q:=by
 unfold Oper.wp execOp
 simp only[ho,hx,Instr.loadAt,Instr.sureAddr,Sem.run_bind,Sem.run_pure,Result.andThen_ok,yI w g off t ty cur cs fr d hg hcs hu hd hi]
 exact h
theorem UY{ops:Array Oper}{rest:List Oper}{o:Oper}{a:Act}{w:World}{Q:Exit->Act->World->Prop}(hgd:o.guard=none)(ty:TypeId)(x:Operand)(ho:o.op=.load ty x)
  (g off:Nat) (hx:a.eval x=.pointer (some ⟨g,off,none⟩)) (t:TypeId) (cur cs:List Value) (fr:Nat × Nat) (d:TypeDesc) (hg:w.heap[g]? = some (.cells cur.toArray t fr)) (hcs:∀ j v,cs[j]? = some v->cur[off+j]? = some v)
  (hu:P.underlying ty=some d) (hd:(match d with | .struct _ | .array _ _=>true | _=>false)=true) (hi:(P.info? ty).map (·.size)=some cs.length)
  (h:wpList P ops Q rest (a.put o.dst (.agg cs.toArray)) w):wpList P ops Q (o :: rest) a w :=
 wpList_plain hgd fun _ hK=>Um ty x ho g off hx t cur cs fr d hg hcs hu hd hi (hK _ _ h)
theorem Un{o:Oper}{a:Act}{w:World}{K:Act->World->Prop}{Q:Exit->Act->World->Prop}(ty:TypeId)(x y:Operand)(ho:o.op=.store ty x y)
  (g off:Nat) (cs:List Value) (hx:a.eval x=.pointer (some ⟨g,off,none⟩)) (hy:a.eval y=.agg cs.toArray)
  (t:TypeId) (cur:List Value) (hg:w.heap[g]? = some (.cells cur.toArray t (0,0))) (hi:(P.info? ty).map (·.size)=some cs.length)
  (hfit:off+cs.length<=cur.length) (h1:∀ v∈cs,v.oneCell'=true)
  (h:K (a.put o.dst undef) (w.setRow g (splice cur off cs).toArray)):o.wp P a w K Q:=by
 unfold Oper.wp execOp;simp only[ho,hx,hy,Instr.storeAt,Instr.sureAddr,Sem.run_bind,Sem.run_pure,Result.andThen_ok,Ul w g off t ty cur cs hg hi hfit h1];exact h
theorem wQ{ops:Array Oper}{rest:List Oper}{o:Oper}{a:Act}{w:World}{Q:Exit->Act->World->Prop}(hgd:o.guard=none)(ty:TypeId)(x y:Operand)(ho:o.op=.store ty x y)
  (g off:Nat) (cs:List Value) (hx:a.eval x=.pointer (some ⟨g,off,none⟩)) (hy:a.eval y=.agg cs.toArray)
  (t:TypeId) (cur:List Value) (hg:w.heap[g]? = some (.cells cur.toArray t (0,0))) (hi:(P.info? ty).map (·.size)=some cs.length)
  (hfit:off+cs.length<=cur.length) (h1:∀ v∈cs,v.oneCell'=true)
  (h:wpList P ops Q rest (a.put o.dst undef) (w.setRow g (splice cur off cs).toArray)):wpList P ops Q (o :: rest) a w :=
 wpList_plain hgd fun _ hK=>Un ty x y ho g off cs hx hy t cur hg hi hfit h1 (hK _ _ h)
theorem Uo(w:World)(dT sT ty elem:TypeId)(g o dLen dCap:Nat)(s:aC)(cur:List Value)(t:TypeId)(cs:List Value)
  (hu:P.underlying dT=some (.slice elem)) (hs:(P.info? elem).map (·.size)=some 1)
  (hg:w.heap[g]? = some (.cells cur.toArray t (0,0))) (hcs:cs=(jZ s).take (Nat.min s.size dLen)) (hfit:o+cs.length<=cur.length) :
  (Builtin.copy_ #[dT,sT] ty #[.slice (some ⟨g,o,none⟩) dLen dCap,.string s]).run P w =
   .ok (goInt cs.length) (w.setRow g (splice cur o cs).toArray):=by
 have hl:((s.extract 0 (Nat.min s.size dLen)).data.map fun b=>Value.int .u8 b.toNat)=cs.toArray:=by
  rw[hcs];apply Array.ext';simp[jZ,ByteArray.data_extract]
 have hn:cs.length=Nat.min s.size dLen:=by rw[hcs,List.length_take,Gf];exact Nat.min_eq_left (Nat.min_le_left _ _)
 have h1:∀ v∈cs,v.oneCell'=true:=by
  intro v hv;rw[hcs]at hv;obtain⟨_,_,rfl⟩:=List.mem_map.1 (List.mem_of_mem_take hv);rfl
 have hst:=run_storeCells_at P g o t cs 0 cur.toArray w hg (by simpa using hfit) h1;cases hq:P.info? elem with
 | none=>simp[hq]at hs
 | some i =>
  have hi:i.size=1:=by simpa[hq] using hs
  have hf:(Builtin.firstCells 1 (Nat.min s.size dLen) (.string s)).run P w=.ok cs.toArray w:=by rw[<-hl];rfl
  rw[<-hn]at hf;simp[Builtin.copy_,run_underlying hu,Builtin.lenOf,sizeOf,typeInfo,hq,hi,hf,<-hn];simp at hst;rw[hst];simp[splice]
theorem Sr{w:World}{ops:Array Oper}{rest:List Oper}{o:Oper}{a:Act}{Q:Exit->Act->World->Prop}(hgd:o.guard=none)(d s:Operand)(dT sT:TypeId)
  (ho:o.op=.call { callee:=.builtin .copy,args:=#[d,s],argTypes:=#[dT,sT] }) (elem:TypeId) (hu:P.underlying dT=some (.slice elem)) (hsz:(P.info? elem).map (·.size)=some 1)
  (g off dLen dCap:Nat) (x:aC) (hd:a.eval d=.slice (some ⟨g,off,none⟩) dLen dCap) (hs:a.eval s=.string x)
  (cur:List Value) (t:TypeId) (hg:w.heap[g]? = some (.cells cur.toArray t (0,0))) (cs:List Value) (hcs:cs=(jZ x).take (Nat.min x.size dLen)) (hfit:off+cs.length<=cur.length) (q:Nat) (hq:cs.length=q)
  (h:wpList P ops Q rest (a.put o.dst (goInt q)) (w.setRow g (splice cur off cs).toArray)):wpList P ops Q (o :: rest) a w:=by
 subst hq;refine wpList_plain hgd fun K hK=>?_
 have hrun:=Uo (P:=P) w dT sT o.type elem g off dLen dCap x cur t cs hu hsz hg hcs hfit;unfold Oper.wp;simp[execOp,ho,resolve,invoke,builtin,hd,hs,hrun,Result.andThen];exact hK _ _ h
end
end Go.Proofs.YtlkbkclnbppigaaGreatDoor
