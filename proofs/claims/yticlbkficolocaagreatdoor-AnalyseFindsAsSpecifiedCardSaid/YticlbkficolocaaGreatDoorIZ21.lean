/- Plain: an address made of fresh words is matched by those patterns alone that match all addresses of the pattern with as many parts. -/
import Derived.Test.YticlbkficolocaaGreatDoorIZ17
import Derived.Test.YticlbkficolocaaGreatDoorIZ18
namespace Go.Proofs.YticlbkficolocaaGreatDoor
open Go.RowKit Go.Sort
set_option linter.unusedVariables false
set_option linter.unusedSimpArgs false
set_option maxRecDepth 100000
def star:Part:=⟨2,⟨#[]⟩⟩
def YY (qs:List Part) (p:Part) (x:ByteArray):Prop :=
 (p.kind=0∧x=p.text)∨(p.kind≠0∧(∀ q∈qs,q.kind=0→q.text≠x)∧∃ u:List UInt8,u ≠ []∧46 ∉ u∧x.data.toList=u++p.text.data.toList)
theorem suffix_dot {t u e:List UInt8} {r:List UInt8} (ht:t=46 :: r) (hu:46 ∉ u) (h:t <:+ u++e):t <:+ e:=by
 rcases Nat.lt_or_ge e.length t.length with hl | hl
 ·exfalso
  obtain⟨a,ha⟩:=h
  have hal:a.length<u.length:=by
   have:=congrArg List.length ha
   simp only[List.length_append]at this
   omega
  have h1:(a++t)[a.length]? = some 46:=by rw[List.getElem?_append_right (Nat.le_refl _),Nat.sub_self,ht];rfl
  rw[ha,List.getElem?_append_left hal]at h1
  exact hu (List.mem_of_getElem? h1)
 ·exact List.suffix_of_suffix_length_le h (List.suffix_append u e) hl
theorem fresh_has {q p:Part} (hq:Qa q) (hp:Qa p) {qs:List Part} (hm:q∈qs) {x:ByteArray} (h:YY qs p x):Jw q.kind q.text x=Zb q.kind q.text p.kind p.text:=by
 rcases h with ⟨hk,rfl⟩ | ⟨hk,hn,u,hu0,hu,hx⟩
 ·rw[hk,cov0]
 ·have hn:=hn q hm
  obtain⟨k,t⟩:=q
  obtain⟨k2,e⟩:=p
  dsimp only at *
  rw[Bool.eq_iff_iff]
  rcases hq with ⟨h1,h2⟩ | ⟨h1,s,h2,h3,h4⟩ | ⟨h1,h2⟩ <;> dsimp only at h1 h2 <;> subst h1
  ·
   rw[has0]
   refine⟨fun h=>absurd h (hn rfl),fun h=>?_⟩
   rcases hp with ⟨g1,_⟩ | ⟨g1,_⟩ | ⟨g1,_⟩ <;> dsimp only at g1 <;> subst g1
   ·exact absurd rfl hk
   ·rcases (cov1 0 t e).1 h with h | ⟨h,_⟩ <;> exact absurd h (by decide)
   ·exact absurd ((cov2 0 t e).1 h) (by decide)
  ·rw[has1,hx]
   have hlen:x.size=u.length+e.size:=by rw[Qn,hx,List.length_append,Qn]
   have hul:0<u.length:=List.length_pos_iff.2 hu0
   rcases hp with ⟨g1,_⟩ | ⟨g1,_⟩ | ⟨g1,g2⟩ <;> dsimp only at g1 <;> subst g1
   ·exact absurd rfl hk
   ·rw[cov1]
    constructor
    ·rintro⟨_,h⟩
     exact .inr ⟨rfl,suffix_dot h4 hu h⟩
    ·rintro (h | ⟨_,h⟩)
     ·exact absurd h (by decide)
     ·have:=h.length_le
      rw[←Qn,←Qn]at this
      exact⟨by omega,h.trans (List.suffix_append u _)⟩
   ·rw[cov2]
    dsimp only at g2
    subst g2
    constructor
    ·rintro⟨_,h⟩
     have:=suffix_dot h4 hu h
     rw[h4]at this
     simp at this
    ·intro h;exact absurd h (by decide)
  ·rw[has2]
   refine⟨fun _=>?_,fun _=>rfl⟩
   rcases hp with ⟨g1,_⟩ | ⟨g1,_⟩ | ⟨g1,_⟩ <;> dsimp only at g1 <;> subst g1
   ·exact absurd rfl hk
   ·exact (cov1 2 _ _).2 (.inl rfl)
   ·exact (cov2 2 _ _).2 rfl
theorem fresh_self {p:Part} (hp:Qa p) {qs:List Part} {x:ByteArray} (h:YY qs p x):Jw p.kind p.text x=true:=by
 rcases h with ⟨hk,rfl⟩ | ⟨hk,_,u,hu0,hu,hx⟩
 ·rw[hk];exact (has0 _ _).2 rfl
 ·obtain⟨k,e⟩:=p
  dsimp only at *
  have hlen:x.size=u.length+e.size:=by rw[Qn,hx,List.length_append,Qn]
  have hul:0<u.length:=List.length_pos_iff.2 hu0
  rcases hp with ⟨g1,_⟩ | ⟨g1,_⟩ | ⟨g1,_⟩ <;> dsimp only at g1 <;> subst g1
  ·exact absurd rfl hk
  ·exact (has1 _ _).2 ⟨by omega,by rw[hx];exact List.suffix_append u _⟩
  ·exact has2 _ _
def ZW (x:Z7) (m:Nat):List Part:=x.parts++List.replicate (m-x.parts.length) star
theorem KU (x:Z7) (m:Nat) (h:x.parts.length≤m):(ZW x m).length=m:=by simp[ZW];omega
theorem VY {x:Z7} (hx:Zt x) (m:Nat):∀ p∈ZW x m,Qa p:=by
 intro p hp
 rcases List.mem_append.1 hp with h | h
 ·exact hx.parts p h
 ·rw[List.eq_of_mem_replicate h];exact star_fit
def atB (y x:Z7) (m:Nat):Bool :=
 Zb y.cust.kind y.cust.text x.cust.kind x.cust.text&&!decide (m<y.parts.length)&&!(decide (y.parts.length<m)&&!y.tail)&&Wv y.parts (ZW x m)
def partsOf (ys:List Z7):List Part:=ys.flatMap fun y=>y.cust :: y.parts
theorem fresh_parts {qs:List Part}:∀ (ps xs:List Part) (ws:List ByteArray),(∀ p∈ps,Qa p∧p∈qs)→(∀ p∈xs,Qa p)→xs.length=ws.length→(∀ (k:Nat) (p:Part) (w:ByteArray),xs[k]? = some p→ws[k]? = some w→YY qs p w)→QQ ps ws=Wv ps xs
 | [],_,_,_,_,_,_=>by simp[QQ,Wv]
 | a :: ps,[],[],_,_,_,_=>by simp[QQ,Wv]
 | a :: ps,b :: xs,w :: ws,h,hx,hl,hf=>by
  rw[QQ,Wv,fresh_has (h a (by simp)).1 (hx b (by simp)) (h a (by simp)).2 (hf 0 b w rfl rfl),fresh_parts ps xs ws (fun p hp=>h p (by simp[hp])) (fun p hp=>hx p (by simp[hp])) (by simpa using hl) (fun k p w h1 h2=>hf (k+1) p w h1 h2)]
 | _,[],_ :: _,_,_,hl,_=>by simp at hl
 | _,_ :: _,[],_,_,hl,_=>by simp at hl
structure Exam (qs:List Part) (x:Z7) (m:Nat) (c:ByteArray) (ws:List ByteArray):Prop where
 name:Qy c=true
 cust:YY qs x.cust c
 words:∀ w∈ws,Qg w=true
 len:ws.length=m
 fresh:∀ (k:Nat) (p:Part) (w:ByteArray),(ZW x m)[k]? = some p→ws[k]? = some w→YY qs p w
theorem exam_at {qs:List Part} {x y:Z7} {m:Nat} {c:ByteArray} {ws:List ByteArray} (hx:Zt x) (hy:Zt y) (hq:∀ q∈y.cust :: y.parts,q∈qs) (hm:x.parts.length≤m) (h:Exam qs x m c ws):Xu y ⟨c,ws,[]⟩=atB y x m:=by
 unfold Xu atB
 dsimp only
 rw[fresh_has hy.cust.part hx.cust.part (hq _ (by simp)) h.cust,h.len,fresh_parts y.parts (ZW x m) ws (fun p hp=>⟨hy.parts p hp,hq p (by simp[hp])⟩) (VY hx m) (by rw[KU x m hm,h.len]) h.fresh]
theorem matches_of:∀ (xs:List Part) (ws:List ByteArray),xs.length≤ws.length→(∀ (k:Nat) (p:Part) (w:ByteArray),xs[k]? = some p→ws[k]? = some w→Jw p.kind p.text w=true)→QQ xs ws=true
 | [],_,_,_=>by simp[QQ]
 | _ :: _,[],h,_=>by simp at h
 | a :: xs,w :: ws,h,hf=>by
  rw[QQ,hf 0 a w rfl rfl,matches_of xs ws (by simpa using h) (fun k p w h1 h2=>hf (k+1) p w h1 h2)]
  rfl
theorem exam_self {qs:List Part} {x:Z7} {m:Nat} {c:ByteArray} {ws:List ByteArray} (hx:Zt x) (hm:x.parts.length≤m) (ht:x.parts.length<m→x.tail=true) (h:Exam qs x m c ws):Xu x ⟨c,ws,[]⟩=true:=by
 rw[U1]
 refine⟨fresh_self hx.cust.part h.cust,?_,?_⟩
 ·refine matches_of _ _ (by rw[h.len];exact hm) (fun k p w h1 h2=>fresh_self (hx.parts p (List.mem_of_getElem? h1)) (h.fresh k p w ?_ h2))
  unfold ZW
  rw[List.getElem?_append_left (List.getElem?_eq_some_iff.1 h1).1]
  exact h1
 ·dsimp only
  rw[h.len]
  rcases Nat.lt_or_ge x.parts.length m with hl | hl
  ·exact .inl (ht hl)
  ·exact .inr (by omega)
def J7 (x:Z7):Nat:=if x.tail then 32 else x.parts.length
def gapN (x:Z7) (ys:List Z7):Option Nat:=(List.range' x.parts.length (J7 x+1-x.parts.length)).find? fun m=>ys.all fun y=>!atB y x m
theorem gap_some {x:Z7} {ys:List Z7} {m:Nat} (h:gapN x ys=some m):x.parts.length≤m∧m≤J7 x∧∀ y∈ys,atB y x m=false:=by
 unfold gapN at h
 have h1:=List.mem_of_find?_eq_some h
 have h2:=List.find?_some h
 rw[List.mem_range'_1]at h1
 rw[List.all_eq_true]at h2
 exact⟨h1.1,by omega,fun y hy=>by simpa using h2 y hy⟩
theorem bothP_eq {p q:ByteArray} {x y:Z7} (hx:Qx p=some x) (hy:Qx q=some y):Js p q=some (QK x y):=by unfold Js;rw[hx,hy]
theorem clash_yes {p q:ByteArray} {x y z:Z7} (hx:Qx p=some x) (hy:Qx q=some y) (h:QK x y=some z):Zk p (Vy z)=true∧Zk q (Vy z)=true:=by
 obtain⟨fz,h2⟩:=J4 (Zq hx) (Zq hy) h
 have h3:=h2 (exA z)
 rw[exA_match fz]at h3
 have h4:=h3.symm
 rw[Bool.and_eq_true]at h4
 exact⟨by rw[match_exText hx fz];exact h4.1,by rw[match_exText hy fz];exact h4.2⟩
theorem matched_size {q t:ByteArray} (h:Zk q t=true):t.size≤10000:=by
 unfold Zk at h
 split at h
 ·cases h
 ·rw[Bool.and_eq_true]at h
  have h2:=h.1
  unfold readB at h2
  rw[Bool.and_eq_true,Lib.toList_data,Lib.toList_data,beq_iff_eq]at h2
  rw[Qn,←h2.2]
  exact parse_bound t
def UU:Kr:=⟨⟨#[]⟩,⟨#[]⟩,⟨#[]⟩,0,0,0⟩
def addrOf (p:ByteArray):ByteArray:=match Js (VV p) ⟨#[42,47,42,42]⟩ with
 | some (some z)=>Vy z
 | _=>⟨#[]⟩
def XY (c:ZV):Kr:=⟨addrOf c.pat,c.cl.headD ⟨#[97]⟩,c.co.headD ⟨#[97,97]⟩,c.si.headD 0,c.fr,c.fr⟩
theorem exText_read {z:Z7} (hz:Zt z):readB (Vy z)=true∧(QW (Vy z)).1=exA z:=by
 have hn:(Xl z.parts).length≤32:=by
  have:=hz.num
  rw[Yy];split at this <;> omega
 have:=parse_join (with_cust hz.cust (c:=97) (.inl rfl)) (words_ok hz.parts) hn
 unfold Vy
 rw[this.1]
 exact⟨this.2,rfl⟩
theorem addr_of {p:ByteArray} (hp:Uc p=true):readB (addrOf p)=true∧pmA p (QW (addrOf p)).1=true:=by
 obtain⟨x,hx,fx⟩:=patT_some hp
 have e:addrOf p=match QK x anyP with
  | some z=>Vy z
  | none=>⟨#[]⟩:=by
  unfold addrOf Js
  rw[hx,any_comp]
  dsimp only
  cases QK x anyP <;> rfl
 rw[e]
 cases h:QK x anyP with
 | none =>
  have:=commonP_none fx any_fit h (exA x)
  rw[exA_match fx,any_match]at this
  cases this
 | some z =>
  obtain⟨fz,hm⟩:=J4 fx any_fit h
  show readB (Vy z)=true∧pmA p (QW (Vy z)).1=true
  obtain⟨h1,h2⟩:=exText_read fz
  refine⟨h1,?_⟩
  rw[h2]
  have:=hm (exA z)
  rw[exA_match fz]at this
  have h3:=this.symm
  rw[Bool.and_eq_true]at h3
  unfold pmA
  rw[hx]
  exact h3.1
theorem head_allows {α:Type} [DecidableEq α] (l:List α) (d:α):Xg l (l.headD d)=true:=by
 rw[allows_iff]
 cases l with
 | nil=>exact .inl rfl
 | cons x l=>exact .inr (by simp)
theorem head_right {α:Type} (l:List α) (d:α) (right:α→Bool) (h:∀ x∈l,right x=true) (hd:right d=true):right (l.headD d)=true:=by
 cases l with
 | nil=>exact hd
 | cons x l=>exact h x (by simp)
theorem country_aa:Zn ⟨#[97,97]⟩=true:=by decide
theorem valid_sample {c:ZV} (hc:CondOk c):Jg (XY c)=true:=by
 have h0:=hc.fr0
 have h1:=hc.fr1
 unfold Jg XY
 simp only[Bool.and_eq_true,decide_eq_true_eq]
 exact⟨⟨⟨⟨(addr_of hc.pat).1,head_right c.cl _ Qy hc.cl (word_one (.inl rfl))⟩,head_right c.co _ Zn hc.co country_aa⟩,head_right c.si _ Jb hc.si (by decide)⟩,h0,by omega,h1⟩
theorem holds_sample {c:ZV} (hc:CondOk c) (hlt:c.fr<c.till):Yj c (XY c)=true:=by
 rw[holds_iff hc]
 exact⟨valid_sample hc,⟨by show c.fr≤c.fr;omega,hlt⟩,(addr_of hc.pat).2,head_allows _ _,head_allows _ _,head_allows _ _⟩
def outL {α:Type} [DecidableEq α] (a b all:List α):Option α:=(if a.isEmpty then all else a).find? fun x=>!Xg b x
def allClients:List ByteArray:=(List.range 33).map fun i=>⟨#[99,UInt8.ofNat (48+i / 10),UInt8.ofNat (48+i % 10)]⟩
def allCountries:List ByteArray:=(List.range 676).map fun i=>⟨#[UInt8.ofNat (97+i / 26),UInt8.ofNat (97+i % 26)]⟩
def allSites:List Int:=(List.range 64).map Int.ofNat
def impR (a b:ZV):Bool × Kr :=
 if a.till≤a.fr then (true,UU)
 else if a.fr<b.fr then (false,XY a)
 else if b.till<a.till then (false,{ XY a with lo:=a.till-1,hi:=a.till-1 })
 else match Qx (VV b.pat),Qx (VV a.pat) with
  | some x,some y=>if coverB x y then (match outL a.cl b.cl allClients,outL a.co b.co allCountries,outL a.si b.si allSites with
    | some s,_,_=>(false,{ XY a with client:=s })
    | none,some s,_=>(false,{ XY a with country:=s })
    | none,none,some n=>(false,{ XY a with site:=n })
    | none,none,none=>(true,UU))
   else (false,{ XY a with addr:=coverW x y })
  | _,_=>(true,UU)
end Go.Proofs.YticlbkficolocaaGreatDoor
