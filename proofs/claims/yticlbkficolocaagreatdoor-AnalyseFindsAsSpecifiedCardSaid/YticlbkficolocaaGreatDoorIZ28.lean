/- Plain: words that nobody names: w0, w1 and so on; there are enough of them. -/
import Derived.Test.YticlbkficolocaaGreatDoorIZ26
set_option maxHeartbeats 8000000
namespace Go.Proofs.YticlbkficolocaaGreatDoor
open Go.RowKit Go.Sort
set_option linter.unusedVariables false
set_option linter.unusedSimpArgs false
set_option maxRecDepth 100000
def wL (k:Nat):List UInt8:=119 :: Lib.decDigits k
def wN (k:Nat):ByteArray:=⟨(wL k).toArray⟩
theorem Vp (k:Nat):(wN k).data.toList=wL k:=by unfold wN;simp
theorem wL_inj {i j:Nat} (h:wL i=wL j):i=j:=by
 unfold wL at h
 injection h with _ h
 have h1:=dec_zero i
 rw[h,dec_zero j]at h1
 injection h1 with h1
 exact h1.symm
theorem Y0 (k:Nat):∀ b∈wL k,Z8 b=true∧b≠46:=by
 intro b hb
 rcases List.mem_cons.1 hb with rfl | hb
 ·decide
 ·have:=dec_digit k b hb
  refine⟨?_,fun e=>?_⟩
  ·unfold Z8 KY
   simp only[decide_eq_true_eq]
   omega
  ·subst e
   have h1:(46:UInt8).toNat=46:=rfl
   omega
theorem wL_len (k:Nat) (h:k≤1000000):(wL k).length≤14:=by
 have:=(dec_len k (by omega)).1
 unfold wL;simp;omega
def wE (k:Nat) (e:ByteArray):ByteArray:=wN k++e
theorem Vx (a b:ByteArray):(a++b).data.toList=a.data.toList++b.data.toList:=by simp
theorem Y1 (k:Nat) (e:ByteArray):(wE k e).data.toList=wL k++e.data.toList:=by unfold wE;rw[Vx,Vp]
theorem wE_word {p:Part} (hp:Qa p) (hk:p.kind≠0) (k:Nat) (h:k≤1000000):Qg (wE k p.text)=true:=by
 rw[Y9,Y1]
 have hl:=wL_len k h
 have he:p.text.data.toList.length≤33∧∀ b∈p.text.data.toList,Z8 b=true:=by
  rcases hp with ⟨h1,_⟩ | ⟨_,s,h2,h3,h4⟩ | ⟨_,h2⟩
  ·exact absurd h1 hk
  ·rw[h4]
   refine⟨by rw[List.length_cons,←Qn];omega,fun b hb=>?_⟩
   rcases List.mem_cons.1 hb with rfl | hb
   ·decide
   ·exact ZX h2 b hb
  ·rw[h2];exact⟨by decide,fun b hb=>by simp at hb⟩
 refine⟨by simp[wL],by simp[wL],by simp[wL],?_,?_⟩
 ·rw[Qn,Y1,List.length_append];omega
 ·intro b hb
  rcases List.mem_append.1 hb with hb | hb
  ·exact (Y0 k b hb).1
  ·exact he.2 b hb
theorem wN_name (k:Nat) (h:k≤1000000):Qy (wN k)=true:=by
 rw[isName_iff,Y9,Vp]
 have hl:=wL_len k h
 refine⟨⟨by simp[wL],by simp[wL],by simp[wL],by rw[Qn,Vp];omega,fun b hb=>(Y0 k b hb).1⟩,fun hb=>(Y0 k _ hb).2 rfl⟩
theorem len_of_sub {α:Type} (l named:List α) (hn:l.Nodup) (hs:∀ x∈l,x∈named):l.length≤named.length:=by
 classical
 induction l generalizing named with
 | nil=>simp
 | cons x l ih =>
  have hx:=hs x (by simp)
  have h1:=List.length_erase_of_mem hx
  have hpos:=List.length_pos_of_mem hx
  have h2:=ih (named.erase x) (List.nodup_cons.1 hn).2 (fun y hy=>(List.mem_erase_of_ne (fun e=>(List.nodup_cons.1 hn).1 (by rw[←e];exact hy))).2 (hs y (by simp[hy])))
  rw[List.length_cons];omega
theorem map_nodup {α β:Type} (f:α→β) (hf:∀ a b,f a=f b→a=b):∀ l:List α,l.Nodup→(l.map f).Nodup
 | [],_=>by simp
 | x :: l,h=>by
  rw[List.map_cons,List.nodup_cons]
  refine⟨fun hx=>?_,map_nodup f hf l (List.nodup_cons.1 h).2⟩
  obtain⟨y,hy,e⟩:=List.mem_map.1 hx
  rw[hf y x e]at hy
  exact (List.nodup_cons.1 h).1 hy
theorem few_passed (named:List ByteArray) (e:ByteArray) (a n:Nat) (h:∀ j,a≤j→j<n→wN j∈named∨wE j e∈named):n-a≤2*named.length:=by
 classical
 have nd:(List.range' a (n-a)).Nodup:=List.nodup_range'
 have mem:∀ j∈List.range' a (n-a),wN j∈named∨wE j e∈named:=fun j hj=>by
  rw[List.mem_range'_1]at hj
  exact h j hj.1 (by omega)
 have key:∀ l:List Nat,l.Nodup→(∀ j∈l,wN j∈named∨wE j e∈named)→l.length≤named.length+named.length:=by
  intro l hl hm
  have h1:=len_of_sub ((l.filter fun j=>decide (wN j∈named)).map wN) named (map_nodup wN (fun i j e=>wL_inj (by rw[←Vp,←Vp,e])) _ (hl.filter _)) (fun x hx=>by
   obtain⟨j,hj,rfl⟩:=List.mem_map.1 hx
   simpa using (List.mem_filter.1 hj).2)
  have h2:=len_of_sub ((l.filter fun j=>!decide (wN j∈named)).map fun j=>wE j e) named (map_nodup _ (fun i j e'=>wL_inj (by
   have h3:(wE i e).data.toList=(wE j e).data.toList:=by rw[e']
   rw[Y1,Y1]at h3
   exact List.append_cancel_right h3)) _ (hl.filter _)) (fun x hx=>by
   obtain⟨j,hj,rfl⟩:=List.mem_map.1 hx
   have h3:=List.mem_filter.1 hj
   exact (hm j h3.1).resolve_left (by simpa using h3.2))
  rw[List.length_map]at h1 h2
  have h3:l.length=(l.filter fun j=>decide (wN j∈named)).length+(l.filter fun j=>!decide (wN j∈named)).length:=by
   induction l with
   | nil=>rfl
   | cons x l ih =>
    rw[List.filter_cons,List.filter_cons]
    cases hx:decide (wN x∈named)
    ·simp only[Bool.false_eq_true,if_false,Bool.not_false,if_true,List.length_cons]
     have:=ih (List.nodup_cons.1 hl).2 (fun j hj=>hm j (by simp[hj])) (by rw[List.filter_cons,hx]at h1;simpa using h1) (by rw[List.filter_cons,hx]at h2;simp at h2;omega)
     omega
    ·simp only[if_true,Bool.not_true,Bool.false_eq_true,if_false,List.length_cons]
     have:=ih (List.nodup_cons.1 hl).2 (fun j hj=>hm j (by simp[hj])) (by rw[List.filter_cons,hx]at h1;simp at h1;omega) (by rw[List.filter_cons,hx]at h2;simpa using h2)
     omega
  omega
 have:=key _ nd mem
 rw[List.length_range']at this
 omega
theorem fresh_found {qs:List Part} {named:List ByteArray} (hq:∀ q∈qs,q.kind=0→q.text∈named) {p:Part} (hk:p.kind≠0) {k:Nat} (h:wE k p.text ∉ named):YY qs p (wE k p.text) :=
 .inr ⟨hk,fun q hm hz e=>h (by rw[←e];exact hq q hm hz),wL k,by simp[wL],fun hb=>(Y0 k _ hb).2 rfl,Y1 k p.text⟩
theorem partOf_zero {w:ByteArray} (h:(Q7 w).kind=0):(Q7 w).text=w:=by
 unfold Q7 at h ⊢
 split at h
 ·rename_i h1;rw[if_pos h1]
 ·rename_i h1
  split at h
  ·rename_i h2;rw[if_neg h1,if_pos h2]
  ·split at h <;> simp at h
theorem cmpL_mem:∀ (l:List ByteArray) (acc:List Part) (r:List Part × Bool),cmpL l acc=some r→∀ p∈r.1,p∈acc∨∃ w∈l,p=Q7 w
 | [],acc,r,h,p,hp=>by
  rw[cmpL]at h
  injection h with h
  subst h
  exact .inl hp
 | w :: l,acc,r,h,p,hp=>by
  rw[cmpL]at h
  split at h
  ·injection h with h
   subst h
   exact .inl hp
  ·split at h
   ·rcases cmpL_mem l _ r h p hp with h1 | ⟨z,hz,e⟩
    ·rcases List.mem_append.1 h1 with h1 | h1
     ·exact .inl h1
     ·exact .inr ⟨w,by simp,by simpa using h1⟩
    ·exact .inr ⟨z,by simp[hz],e⟩
   ·cases h
theorem named_of {q:ByteArray} {y:Z7} (h:Qx q=some y):∀ p∈y.cust :: y.parts,p.kind=0→p.text∈splitB 47 q:=by
 unfold Qx Vq at h
 split at h
 ·cases h
 ·rename_i l0 r he
  rw[he]
  split at h
  ·cases hc:cmpL r [] with
   | none=>rw[hc]at h;cases h
   | some z =>
    rw[hc]at h
    simp only[Option.map_some,Option.some.injEq]at h
    subst h
    intro p hp hk
    rcases List.mem_cons.1 hp with rfl | hp
    ·rw[partOf_zero hk];simp
    ·rcases cmpL_mem r [] z hc p hp with h1 | ⟨w,hw,rfl⟩
     ·cases h1
     ·rw[partOf_zero hk];simp[hw]
  ·cases h
def Zc (bs:List ByteArray):List ByteArray:=bs.flatMap (splitB 47)
theorem named_all {bs:List ByteArray} {ys:List Z7} (h:bs.map Qx=ys.map some):∀ q∈partsOf ys,q.kind=0→q.text∈Zc bs:=by
 intro q hq hk
 obtain⟨y,hy,hqy⟩:=List.mem_flatMap.1 hq
 have h1:some y∈bs.map Qx:=by rw[h];exact List.mem_map.2 ⟨y,hy,rfl⟩
 obtain⟨b,hb,e⟩:=List.mem_map.1 h1
 exact List.mem_flatMap.2 ⟨b,hb,named_of e q hqy hk⟩
def ZU (p:ByteArray) (bs:List ByteArray) (s:ByteArray) (is:Bool):Prop :=
 ∃ x ys,Qx p=some x∧bs.map Qx=ys.map some∧((gapN x ys=none∧is=false∧s=⟨#[]⟩)∨(∃ m c ws,gapN x ys=some m∧is=true∧s=Xt (c :: ws)∧Exam (partsOf ys) x m c ws))
theorem most_le {x:Z7} (hx:Zt x):J7 x≤32:=by
 have:=hx.num
 unfold J7
 split <;> omega
theorem back_of {bs:List ByteArray} {ys:List Z7} (h:bs.map Qx=ys.map some) {q:ByteArray} (hq:q∈bs):∃ y∈ys,Qx q=some y:=by
 have h1:Qx q∈ys.map some:=by rw[←h];exact List.mem_map.2 ⟨q,hq,rfl⟩
 obtain⟨y,hy,e⟩:=List.mem_map.1 h1
 exact⟨y,hy,e.symm⟩
theorem fore_of {bs:List ByteArray} {ys:List Z7} (h:bs.map Qx=ys.map some) {y:Z7} (hy:y∈ys):∃ q∈bs,Qx q=some y:=by
 have h1:some y∈bs.map Qx:=by rw[h];exact List.mem_map.2 ⟨y,hy,rfl⟩
 exact List.mem_map.1 h1
theorem gap_found {p:ByteArray} {bs:List ByteArray} {s:ByteArray} (h:ZU p bs s true):Zk p s=true∧∀ q∈bs,Zk q s=false:=by
 obtain⟨x,ys,hx,hb,h | ⟨m,c,ws,hg,_,rfl,he⟩⟩:=h
 ·exact absurd h.2.1 (by decide)
 ·have fx:=Zq hx
  obtain⟨h1,h2,h3⟩:=gap_some hg
  have hm:=most_le fx
  have hl:ws.length≤32:=by rw[he.len];omega
  refine⟨?_,fun q hq=>?_⟩
  ·rw[Wx hx he.name he.words hl]
   exact exam_self fx h1 (fun h=>by
    unfold J7 at h2
    split at h2
    ·assumption
    ·omega) he
  ·obtain⟨y,hy,e⟩:=back_of hb hq
   rw[Wx e he.name he.words hl,exam_at fx (Zq e) (fun q hq=>List.mem_flatMap.2 ⟨y,hy,hq⟩) h1 he]
   exact h3 y hy
theorem match_read {q a:ByteArray} {y:Z7} (h:Qx q=some y):Zk q a=(readB a&&Xu y (QW a).1):=by unfold Zk;rw[h]
open Go.Maps
def Yk (l:List ByteArray) (s:ByteArray):Bool:=l.any fun t=>decide (s.data.toList=t.data.toList)
def seenD:List ByteArray→DataW Unit
 | []=>.map []
 | s :: l=>(seenD l).put (.string s.data.toList) (.lit (.bool true))
theorem seenD_map:∀ l,IsMap (seenD l)
 | []=>isMap_empty
 | s :: l=>by
  obtain⟨es,e⟩:=seenD_map l
  unfold seenD
  rw[e]
  exact⟨_,rfl⟩
theorem seenD_at (s:ByteArray):∀ l,(seenD l).atKey (.string s.data.toList) (.lit (.bool false))=.lit (.bool (Yk l s))
 | []=>rfl
 | t :: l=>by
  unfold seenD Yk
  rw[List.any_cons]
  by_cases h:s.data.toList=t.data.toList
  ·rw[h,atKey_put_same (k:=.string t.data.toList) (seenD_map l) (show WideAt.IsKeyLit (.string t.data.toList) from trivial),decide_eq_true rfl,Bool.true_or]
  ·rw[atKey_put_other (fun e=>h (by injection e)),seenD_at s l,decide_eq_false h,Bool.false_or]
   rfl
theorem plainElem_bool_inv {H:Type} {P:Program} {e:TypeId} (he:P.underlying e=some .bool) {v:Value} {c:Bool} {ps:List MemPlace} (h:plainElem (H:=H) P e v=some (.lit (.bool c),ps)):v=.bool c:=by
 unfold plainElem at h
 rw[he]at h
 cases v <;> simp at h
 rw[h.1]
theorem KW {H:Type} {w w':World} {P:Program} {k:TypeId} {R:Value→Option (DataW H × List MemPlace)} {b n B:Nat} {D:DataW H} (h:w.ownsMap P k R b n D) (hb:Below B w w') (hlt:b<B):w'.ownsMap P k R b n D:=by
 obtain⟨es,clock,h1,h2⟩:=h
 exact⟨es,clock,(hb.block b hlt).trans h1,h2⟩
theorem ZZ {H:Type} {P:Program} (w:World) {ops:Array Oper} {rest:List Oper} {o:Oper} {a:Act} {Q:Exit→Act→World→Prop}
  (hg:o.guard=none) (m x:Operand) (t:TypeId) (hop:o.op=Op.lookup t m x false)
  (k e:TypeId) (K:Keyed P k) (ht:P.underlying t=some (.map k e)) (he:P.underlying e=some .bool) (hz:(zeroValue e).run P w=.ok (.bool false) w) (b n:Nat) (D:DataW H)
  (hm:a.eval m=.map (some b)) (hown:w.ownsMap P k (plainElem P e) b n D) (key:Value) (kl:Lit) (hx:a.eval x=key) (hkey:keyOf P k key=some kl)
  (c:Bool) (hc:D.atKey kl (.lit (.bool false))=.lit (.bool c))
  (hK:wpList P ops Q rest (a.put o.dst (.bool c)) w) :
  wpList P ops Q (o :: rest) a w:=by
 refine wpList_plain hg fun K' hK'=>?_
 obtain⟨v,ps,hrun,hat⟩:=hown.lookup K ht hz (plainElem_bool he false) hkey
 rw[hc]at hat
 obtain rfl:=plainElem_bool_inv he hat
 unfold Oper.wp
 simp[execOp,hop,hm,hx,hrun,Result.andThen]
 exact hK' _ _ hK
def cutB (s:ByteArray):ByteArray:=Zd (Lib.cut s.data.toList [47]).1
def sameB (s t:ByteArray):Bool:=s.toList==t.toList
def U6 (cust:ByteArray):List Vm→List ByteArray→Int
 | [],_=>0
 | r :: l,seen=>if X0 r=false then 220 else if sameB (cutB r.pat) cust=false then 221 else if Yk seen r.name=true then 6 else U6 cust l (r.name :: seen)
def Ju (cust:ByteArray) (party:Int) (l:List Vm):Int :=
 if Qy cust=false∨party<1∨1073741824<party then 1 else if 64<l.length then 2 else U6 cust l []
def polV (cust:ByteArray) (party:Int) (A:Option Addr) (n c:Nat):Value:=.agg #[.string cust,.int .i64 party,.slice A n c]
def Vw (L:List Qh) (k:Nat):List ByteArray:=((L.take k).map (·.r.name)).reverse
theorem namesK_succ {L:List Qh} {k:Nat} {x:Qh} (h:L[k]? = some x):Vw L (k+1)=x.r.name :: Vw L k:=by
 unfold Vw
 rw[List.take_add_one,h]
 simp
theorem zeroB (w:World):(zeroValue 4).run Tryz.prog w=.ok (.bool false) w:=by kernel_rfl
theorem check_any (cust:ByteArray) (party:Int) (A:Option Addr) (n c:Nat) (L:List Qh) (w:World) (hL:Qs w A n L) (hf:∀ x∈L,Zw x.r) (hcs:cust.size≤4294967281) (hE:Env w) :
  Calls Tryz.prog 31 #[polV cust party A n c] w (Zx w (.int .i64 (Ju cust party (L.map (·.r))))):=by
 have hl:L.length=n:=hL.len
 have cN:=fun (W:World) (hb:Below w.heap.size w W)=>polName_any cust W hcs (Env.keep hE hb)
 have cV:=fun (x:Qh) (hx:x∈L) (W:World) (hb:Below w.heap.size w W)=>polValid_any x W ((hL.each x hx).keep hb) (hf x hx) (Env.keep hE hb)
 have cC:=fun (x:Qh) (hx:x∈L) (W:World) (hb:Below w.heap.size w W)=>cut_any x.r.pat 47 W (by have:=(hf x hx).pat;omega) (Env.keep hE hb)
 have hpk:∀ x∈L,keyOf Tryz.prog 9 (.string x.r.name)=some (.string x.r.name.data.toList):=fun x hx=>WideMaps.keyOf_string_mk Tryz.underlying9 (by have:=(hf x hx).name;unfold maxLen;omega)
 unfold polV
 by_cases hn1:Qy cust=false∨party<1∨1073741824<party
 ·have e1:Ju cust party (L.map (·.r))=1:=by unfold Ju;rw[if_pos hn1]
  rw[e1]
  clear e1 hL hf cV cC hpk hE
  cases hnm:Qy cust
  ·rw[hnm]at cN
   have HN:=Lib.hid cN
   clear cN hnm hn1
   go_enter Tryz.func31,Tryz.ntmps31
   go_wp2_with (first | (go_at_call 65;refine (HN.out _ Qz).mono ?_;rintro e w2 ⟨rfl,hb2⟩;have B2:Zl w2 w.heap.size 25 #[.string cust,.int .i64 party,.slice A n c]:=Zl.keep (heap_alloc_new w _) hb2;have y0:w2.cell? ⟨w.heap.size,0,none⟩=some (.string cust):=B2.cell rfl;have y1:w2.cell? ⟨w.heap.size,1,none⟩=some (.int .i64 party):=B2.cell rfl;have y2:w2.cell? ⟨w.heap.size,2,none⟩=some (.slice A n c):=B2.cell rfl))
   go_ret
   exact⟨rfl,Qz⟩
  ·have hn2:party<1∨1073741824<party:=hn1.elim (fun h=>by rw[hnm]at h;cases h) id
   rw[hnm]at cN
   have HN:=Lib.hid cN
   clear cN hnm hn1
   by_cases hp1:party<1
   ·clear hn2
    go_enter Tryz.func31,Tryz.ntmps31
    go_wp2_with (first | (go_at_call 65;refine (HN.out _ Qz).mono ?_;rintro e w2 ⟨rfl,hb2⟩;have B2:Zl w2 w.heap.size 25 #[.string cust,.int .i64 party,.slice A n c]:=Zl.keep (heap_alloc_new w _) hb2;have y0:w2.cell? ⟨w.heap.size,0,none⟩=some (.string cust):=B2.cell rfl;have y1:w2.cell? ⟨w.heap.size,1,none⟩=some (.int .i64 party):=B2.cell rfl;have y2:w2.cell? ⟨w.heap.size,2,none⟩=some (.slice A n c):=B2.cell rfl))
    go_ret
    exact⟨rfl,Qz⟩
   ·have hp2:1073741824<party:=hn2.resolve_left hp1
    clear hn2
    go_enter Tryz.func31,Tryz.ntmps31
    go_wp2_with (first | (go_at_call 65;refine (HN.out _ Qz).mono ?_;rintro e w2 ⟨rfl,hb2⟩;have B2:Zl w2 w.heap.size 25 #[.string cust,.int .i64 party,.slice A n c]:=Zl.keep (heap_alloc_new w _) hb2;have y0:w2.cell? ⟨w.heap.size,0,none⟩=some (.string cust):=B2.cell rfl;have y1:w2.cell? ⟨w.heap.size,1,none⟩=some (.int .i64 party):=B2.cell rfl;have y2:w2.cell? ⟨w.heap.size,2,none⟩=some (.slice A n c):=B2.cell rfl))
    go_ret
    exact⟨rfl,Qz⟩
 ·have e0:Qy cust=true∧1≤party∧party≤1073741824:=by
   refine⟨?_,?_,?_⟩
   ·cases h:Qy cust
    ·exact absurd (.inl h) hn1
    ·rfl
   ·exact Int.not_lt.1 (fun h=>hn1 (.inr (.inl h)))
   ·exact Int.not_lt.1 (fun h=>hn1 (.inr (.inr h)))
  obtain⟨hnm,hp1,hp2⟩:=e0
  have e1:Ju cust party (L.map (·.r))=if 64<n then 2 else U6 cust (L.map (·.r)) []:=by unfold Ju;rw[if_neg hn1,List.length_map,hl]
  rw[e1]
  rw[hnm]at cN
  clear e1 hn1 hnm
  have HN:=Lib.hid cN
  have q1:decide (party<1)=false:=decide_eq_false (by omega)
  have q2:decide (1073741824<party)=false:=decide_eq_false (by omega)
  by_cases h64:64<n
  ·rw[if_pos h64]
   have q3:decide ((64:Int)<(n:Int))=true:=decide_eq_true (by omega)
   clear hL hf cV cC hpk hE cN hl
   go_enter Tryz.func31,Tryz.ntmps31
   go_wp2_with (first | (go_at_call 65;refine (HN.out _ Qz).mono ?_;rintro e w2 ⟨rfl,hb2⟩;have B2:Zl w2 w.heap.size 25 #[.string cust,.int .i64 party,.slice A n c]:=Zl.keep (heap_alloc_new w _) hb2;have y0:w2.cell? ⟨w.heap.size,0,none⟩=some (.string cust):=B2.cell rfl;have y1:w2.cell? ⟨w.heap.size,1,none⟩=some (.int .i64 party):=B2.cell rfl;have y2:w2.cell? ⟨w.heap.size,2,none⟩=some (.slice A n c):=B2.cell rfl))
   go_ret
   exact⟨rfl,Qz⟩
  rw[if_neg h64]
  have q3:decide ((64:Int)<(n:Int))=false:=decide_eq_false (by omega)
  obtain⟨V,hV⟩:∃ V,V=U6 cust (L.map (·.r)) []:=⟨_,rfl⟩
  rw[←hV]
  have HV:=Lib.hid hV;have HL:=Lib.hid hL;have HLN:=Lib.hid hl;have HCV:=Lib.hid cV;have HCC:=Lib.hid cC;have HPK:=Lib.hid hpk
  clear hV hL hl cV cC hpk hf hE cN
  have hmm:=@run_makeMap Tryz.prog
  go_enter Tryz.func31,Tryz.ntmps31
  go_upto_region 6 with (first | (go_at_call 65;refine (HN.out _ Qz).mono ?_;rintro e w2 ⟨rfl,hb2⟩;have B2:Zl w2 w.heap.size 25 #[.string cust,.int .i64 party,.slice A n c]:=Zl.keep (heap_alloc_new w _) hb2;have y0:w2.cell? ⟨w.heap.size,0,none⟩=some (.string cust):=B2.cell rfl;have y1:w2.cell? ⟨w.heap.size,1,none⟩=some (.int .i64 party):=B2.cell rfl;have y2:w2.cell? ⟨w.heap.size,2,none⟩=some (.slice A n c):=B2.cell rfl))
  obtain⟨gm,hgm0⟩:∃ gm,gm=w2.heap.size:=⟨_,rfl⟩
  have hb2s:=hb2.size
  simp only[World.size_alloc]at hb2s
  have hm0:(w2.alloc (.map #[] 0)).ownsMap Tryz.prog 9 (plainElem (H:=Unit) Tryz.prog 4) gm 0 (seenD []):=by rw[hgm0];exact World.ownsMap_made w2 _ _ _
  have hp0:Zl (w2.alloc (.map #[] 0)) w.heap.size 25 #[.string cust,.int .i64 party,.slice A n c]:=B2.keep ((Below.refl _ _).alloc (Nat.le_refl _) _)
  have hbw0:Below w.heap.size w (w2.alloc (.map #[] 0)):=Qz
  have hgs0:gm<(w2.alloc (.map #[] 0)).heap.size:=by simp;omega
  have hg1:w.heap.size<gm:=by omega
  rw[←hgm0]
  have HM0:=Lib.hid hm0;have HP0:=Lib.hid hp0
  generalize w2.alloc (.map #[] 0)=w3 at *
  clear hm0 hp0 hgm0 hb2 hb2s B2 y0 y1 y2 q1 q2 q3 hp1 hp2
  clear w2
  have y2:w3.cell? ⟨w.heap.size,2,none⟩=some (.slice A n c):=Zl.cell HP0.out rfl
  go_wp2_with fail
  clear y2
  go_loopw [33] (fun iv wr=>∃ k:Nat,k≤n∧iv=.int .i64 k∧Hid (V=U6 cust ((L.drop k).map (·.r)) (Vw L k))∧Hid (Zl wr w.heap.size 25 #[.string cust,.int .i64 party,.slice A n c])∧Hid (wr.ownsMap Tryz.prog 9 (plainElem (H:=Unit) Tryz.prog 4) gm k (seenD (Vw L k)))∧gm<wr.heap.size∧Below w.heap.size w wr) (fun iv _=>n-(intOf iv).toNat)
  case atStart=>exact⟨0,by omega,rfl,Lib.hid (by rw[HV.out];rfl),HP0,HM0,hgs0,hbw0⟩
  case round =>
   obtain⟨k,hk,rfl,HI,HPB,HMP,hgm,hbr⟩:=hrel
   clear HM0 HP0 hbw0 hgs0
   by_cases hlt:k<n
   ·obtain⟨x,hx⟩:∃ x,L[k]? = some x:=⟨_,List.getElem?_eq_getElem (by have:=HLN.out;omega)⟩
    obtain⟨_,b,o,rfl,hcell⟩:=(HL.out.keep hbr).at_ hx
    have hld:=Uj wr b (o+k*18) x hcell
    have hd:L.drop k=x :: L.drop (k+1):=by
     obtain⟨hl2,rfl⟩:=List.getElem?_eq_some_iff.1 hx
     exact List.drop_eq_getElem_cons hl2
    have hVA:=HI.out
    rw[hd,List.map_cons,U6]at hVA
    have hsucc:=namesK_succ hx
    have hat:=seenD_at x.r.name (Vw L k)
    have hxm:=List.mem_of_getElem? hx
    have hval:=HCV.out x hxm
    have hcut:=HCC.out x hxm
    have hkey:=HPK.out x hxm
    have hc0:x.cells.toArray[0]? = some (.string x.r.name):=rfl
    have hc1:x.cells.toArray[1]? = some (.string x.r.pat):=rfl
    have hone:x.cells.toArray.all (·.oneCell')=true:=by rw[List.all_toArray];rfl
    have hsz2:x.cells.toArray.size=18:=by rw[List.size_toArray,x.cells_len]
    have hi18:(Tryz.prog.info? 57).map (·.size)=some x.cells.toArray.size:=by rw[hsz2];exact inf18
    have hsz:x.cells.toArray.size=(#[.string ⟨#[]⟩,.string ⟨#[]⟩,.slice none 0 0,.int .i64 0,.int .i64 0,.int .i64 0,.int .i64 0,.slice none 0 0,.int .i64 0,.int .i64 0,.string ⟨#[]⟩,.slice none 0 0,.slice none 0 0,.slice none 0 0,.int .i64 0,.bool false,.int .i64 0,.string ⟨#[]⟩]:Array Value).size:=by rw[hsz2];rfl
    unfold Qh.val at hld hval
    have hcb:Zd (Lib.cut x.r.pat.data.toList [47]).1=cutB x.r.pat:=rfl
    rw[hcb]at hcut
    generalize x.cells.toArray=X at *
    generalize Zd (Lib.cut x.r.pat.data.toList [47]).2.1=u1 at *
    generalize (Lib.cut x.r.pat.data.toList [47]).2.2=u2 at *
    generalize cutB x.r.pat=cb at *
    generalize x.r.name=nm at *
    generalize x.r.pat=pt at *
    generalize X0 x.r=vb at *
    generalize Yk (Vw L k) nm=sb at *
    have HLD:=Lib.hid hld;have HSU:=Lib.hid hsucc;have HSE:=Lib.hid hat;have HVA:=Lib.hid hval;have HCT:=Lib.hid hcut;have HKEY:=Lib.hid hkey;have HC0:=Lib.hid hc0;have HC1:=Lib.hid hc1;have HON:=Lib.hid hone;have HXS:=Lib.hid hsz2;have HI18:=Lib.hid hi18;have HSZ:=Lib.hid hsz
    clear hld hsucc hat hval hcut hkey hc0 hc1 hone hsz2 hi18 hsz hd hcell hx hxm hcb HI
    have hk0:(0:Int)≤(k:Int):=by omega
    have hk1:(k:Int)<(n:Int):=by omega
    cases vb
    ·rw[if_pos rfl]at hVA
     subst hVA
     go_wp2_with (first | (refine Qw rfl 57 _ rfl ⟨b,o+k*18,none⟩ (.agg X) rfl HLD.out ?_) | (refine wpList_store_row rfl _ _ _ rfl wr.heap.size X rfl rfl _ #[.string ⟨#[]⟩,.string ⟨#[]⟩,.slice none 0 0,.int .i64 0,.int .i64 0,.int .i64 0,.int .i64 0,.slice none 0 0,.int .i64 0,.int .i64 0,.string ⟨#[]⟩,.slice none 0 0,.slice none 0 0,.slice none 0 0,.int .i64 0,.bool false,.int .i64 0,.string ⟨#[]⟩] ((heap_alloc_new wr _).trans rfl) HI18.out HSZ.out.symm HON.out ?_;generalize hw6:World.setRow _ _ _=w6;have B6:Zl w6 wr.heap.size 57 X:=(by rw[←hw6];exact setRow_heap _ _ _ _ _ _ (heap_alloc_new wr _));have hb6:Below wr.heap.size wr w6:=(by rw[←hw6];exact below_setRow ((Below.refl _ _).alloc (Nat.le_refl _) _) (Nat.le_refl _) _);clear hw6;have x1:=B6.cell HC1.out) | (go_at_call 66;refine (HCT.out _ (Qj hbr hb6)).mono ?_;rintro e w7 ⟨rfl,hb7⟩;have B7:=B6.keep hb7;have hs7:=hb7.size) | (refine Qw rfl 57 _ rfl ⟨wr.heap.size,0,none⟩ (.agg X) rfl (B7.rule HXS.out) ?_) | (go_at_call 56;refine (HVA.out _ (Qj (Qj hbr hb6) hb7)).mono ?_;rintro e w8 ⟨rfl,hb8⟩;have hs8:=hb8.size;have hbk8:Below wr.heap.size wr w8:=Qj (Qj hb6 hb7) hb8;have hbw8:Below w.heap.size w w8:=Qj hbr hbk8;have P8:=Zl.keep HPB.out hbk8;have B8:=B7.keep hb8;have z0:w8.cell? ⟨w.heap.size,0,none⟩=some (.string cust):=P8.cell rfl;have x0:=B8.cell HC0.out;have M8:=KW HMP.out hbk8 hgm) | (at_lookup;refine ZZ _ rfl _ _ 126 rfl 9 4 U2 Tryz.underlying126 Tryz.underlying4 (zeroB _) gm k _ rfl M8 _ _ rfl HKEY.out _ HSE.out ?_) | (at_mapUpdate;refine wpList_mapUpdate_own _ rfl _ _ _ 126 rfl 9 4 U2 Tryz.underlying126 (plainElem (H:=Unit) Tryz.prog 4) gm k _ rfl M8 (by unfold maxLen;omega) _ _ _ rfl rfl HKEY.out _ _ (plainElem_bool Tryz.underlying4 true) ?_;intro w9 hown9 hgrow9))
     go_ret
     exact⟨rfl,hbw8⟩
    rw[if_neg (by simp)]at hVA
    unfold sameB at hVA
    cases hcu:(cb.toList==cust.toList)
    ·rw[hcu,if_pos rfl]at hVA
     subst hVA
     have hcu2:(cb.toList != cust.toList)=true:=by simp only[bne,hcu];rfl
     go_wp2_with (first | (refine Qw rfl 57 _ rfl ⟨b,o+k*18,none⟩ (.agg X) rfl HLD.out ?_) | (refine wpList_store_row rfl _ _ _ rfl wr.heap.size X rfl rfl _ #[.string ⟨#[]⟩,.string ⟨#[]⟩,.slice none 0 0,.int .i64 0,.int .i64 0,.int .i64 0,.int .i64 0,.slice none 0 0,.int .i64 0,.int .i64 0,.string ⟨#[]⟩,.slice none 0 0,.slice none 0 0,.slice none 0 0,.int .i64 0,.bool false,.int .i64 0,.string ⟨#[]⟩] ((heap_alloc_new wr _).trans rfl) HI18.out HSZ.out.symm HON.out ?_;generalize hw6:World.setRow _ _ _=w6;have B6:Zl w6 wr.heap.size 57 X:=(by rw[←hw6];exact setRow_heap _ _ _ _ _ _ (heap_alloc_new wr _));have hb6:Below wr.heap.size wr w6:=(by rw[←hw6];exact below_setRow ((Below.refl _ _).alloc (Nat.le_refl _) _) (Nat.le_refl _) _);clear hw6;have x1:=B6.cell HC1.out) | (go_at_call 66;refine (HCT.out _ (Qj hbr hb6)).mono ?_;rintro e w7 ⟨rfl,hb7⟩;have B7:=B6.keep hb7;have hs7:=hb7.size) | (refine Qw rfl 57 _ rfl ⟨wr.heap.size,0,none⟩ (.agg X) rfl (B7.rule HXS.out) ?_) | (go_at_call 56;refine (HVA.out _ (Qj (Qj hbr hb6) hb7)).mono ?_;rintro e w8 ⟨rfl,hb8⟩;have hs8:=hb8.size;have hbk8:Below wr.heap.size wr w8:=Qj (Qj hb6 hb7) hb8;have hbw8:Below w.heap.size w w8:=Qj hbr hbk8;have P8:=Zl.keep HPB.out hbk8;have B8:=B7.keep hb8;have z0:w8.cell? ⟨w.heap.size,0,none⟩=some (.string cust):=P8.cell rfl;have x0:=B8.cell HC0.out;have M8:=KW HMP.out hbk8 hgm) | (at_lookup;refine ZZ _ rfl _ _ 126 rfl 9 4 U2 Tryz.underlying126 Tryz.underlying4 (zeroB _) gm k _ rfl M8 _ _ rfl HKEY.out _ HSE.out ?_) | (at_mapUpdate;refine wpList_mapUpdate_own _ rfl _ _ _ 126 rfl 9 4 U2 Tryz.underlying126 (plainElem (H:=Unit) Tryz.prog 4) gm k _ rfl M8 (by unfold maxLen;omega) _ _ _ rfl rfl HKEY.out _ _ (plainElem_bool Tryz.underlying4 true) ?_;intro w9 hown9 hgrow9))
     go_ret
     exact⟨rfl,hbw8⟩
    rw[hcu,if_neg (by simp)]at hVA
    have hcu2:(cb.toList != cust.toList)=false:=by simp only[bne,hcu];rfl
    cases sb
    ·rw[if_neg (by simp)]at hVA
     have HVB:=Lib.hid hVA
     clear hVA
     go_wp2_with (first | (refine Qw rfl 57 _ rfl ⟨b,o+k*18,none⟩ (.agg X) rfl HLD.out ?_) | (refine wpList_store_row rfl _ _ _ rfl wr.heap.size X rfl rfl _ #[.string ⟨#[]⟩,.string ⟨#[]⟩,.slice none 0 0,.int .i64 0,.int .i64 0,.int .i64 0,.int .i64 0,.slice none 0 0,.int .i64 0,.int .i64 0,.string ⟨#[]⟩,.slice none 0 0,.slice none 0 0,.slice none 0 0,.int .i64 0,.bool false,.int .i64 0,.string ⟨#[]⟩] ((heap_alloc_new wr _).trans rfl) HI18.out HSZ.out.symm HON.out ?_;generalize hw6:World.setRow _ _ _=w6;have B6:Zl w6 wr.heap.size 57 X:=(by rw[←hw6];exact setRow_heap _ _ _ _ _ _ (heap_alloc_new wr _));have hb6:Below wr.heap.size wr w6:=(by rw[←hw6];exact below_setRow ((Below.refl _ _).alloc (Nat.le_refl _) _) (Nat.le_refl _) _);clear hw6;have x1:=B6.cell HC1.out) | (go_at_call 66;refine (HCT.out _ (Qj hbr hb6)).mono ?_;rintro e w7 ⟨rfl,hb7⟩;have B7:=B6.keep hb7;have hs7:=hb7.size) | (refine Qw rfl 57 _ rfl ⟨wr.heap.size,0,none⟩ (.agg X) rfl (B7.rule HXS.out) ?_) | (go_at_call 56;refine (HVA.out _ (Qj (Qj hbr hb6) hb7)).mono ?_;rintro e w8 ⟨rfl,hb8⟩;have hs8:=hb8.size;have hbk8:Below wr.heap.size wr w8:=Qj (Qj hb6 hb7) hb8;have hbw8:Below w.heap.size w w8:=Qj hbr hbk8;have P8:=Zl.keep HPB.out hbk8;have B8:=B7.keep hb8;have z0:w8.cell? ⟨w.heap.size,0,none⟩=some (.string cust):=P8.cell rfl;have x0:=B8.cell HC0.out;have M8:=KW HMP.out hbk8 hgm) | (at_lookup;refine ZZ _ rfl _ _ 126 rfl 9 4 U2 Tryz.underlying126 Tryz.underlying4 (zeroB _) gm k _ rfl M8 _ _ rfl HKEY.out _ HSE.out ?_) | (at_mapUpdate;refine wpList_mapUpdate_own _ rfl _ _ _ 126 rfl 9 4 U2 Tryz.underlying126 (plainElem (H:=Unit) Tryz.prog 4) gm k _ rfl M8 (by unfold maxLen;omega) _ _ _ rfl rfl HKEY.out _ _ (plainElem_bool Tryz.underlying4 true) ?_;intro w9 hown9 hgrow9))
     have hz8:=hbk8.size
     have hg9:=hgrow9.size
     refine⟨⟨k+1,by omega,by go_num,Lib.hid (by rw[HSU.out];exact HVB.out),Lib.hid ((hgrow9.block w.heap.size (by have:=hbw8.size;omega) (fun e=>by injection e with e;omega)).trans P8),Lib.hid (by rw[HSU.out];exact hown9),by omega,hbw8.grown hgrow9 (hbw8.size) (fun r e=>by injection e with e;omega)⟩,by simp[intOf];omega⟩
    ·rw[if_pos rfl]at hVA
     subst hVA
     go_wp2_with (first | (refine Qw rfl 57 _ rfl ⟨b,o+k*18,none⟩ (.agg X) rfl HLD.out ?_) | (refine wpList_store_row rfl _ _ _ rfl wr.heap.size X rfl rfl _ #[.string ⟨#[]⟩,.string ⟨#[]⟩,.slice none 0 0,.int .i64 0,.int .i64 0,.int .i64 0,.int .i64 0,.slice none 0 0,.int .i64 0,.int .i64 0,.string ⟨#[]⟩,.slice none 0 0,.slice none 0 0,.slice none 0 0,.int .i64 0,.bool false,.int .i64 0,.string ⟨#[]⟩] ((heap_alloc_new wr _).trans rfl) HI18.out HSZ.out.symm HON.out ?_;generalize hw6:World.setRow _ _ _=w6;have B6:Zl w6 wr.heap.size 57 X:=(by rw[←hw6];exact setRow_heap _ _ _ _ _ _ (heap_alloc_new wr _));have hb6:Below wr.heap.size wr w6:=(by rw[←hw6];exact below_setRow ((Below.refl _ _).alloc (Nat.le_refl _) _) (Nat.le_refl _) _);clear hw6;have x1:=B6.cell HC1.out) | (go_at_call 66;refine (HCT.out _ (Qj hbr hb6)).mono ?_;rintro e w7 ⟨rfl,hb7⟩;have B7:=B6.keep hb7;have hs7:=hb7.size) | (refine Qw rfl 57 _ rfl ⟨wr.heap.size,0,none⟩ (.agg X) rfl (B7.rule HXS.out) ?_) | (go_at_call 56;refine (HVA.out _ (Qj (Qj hbr hb6) hb7)).mono ?_;rintro e w8 ⟨rfl,hb8⟩;have hs8:=hb8.size;have hbk8:Below wr.heap.size wr w8:=Qj (Qj hb6 hb7) hb8;have hbw8:Below w.heap.size w w8:=Qj hbr hbk8;have P8:=Zl.keep HPB.out hbk8;have B8:=B7.keep hb8;have z0:w8.cell? ⟨w.heap.size,0,none⟩=some (.string cust):=P8.cell rfl;have x0:=B8.cell HC0.out;have M8:=KW HMP.out hbk8 hgm) | (at_lookup;refine ZZ _ rfl _ _ 126 rfl 9 4 U2 Tryz.underlying126 Tryz.underlying4 (zeroB _) gm k _ rfl M8 _ _ rfl HKEY.out _ HSE.out ?_) | (at_mapUpdate;refine wpList_mapUpdate_own _ rfl _ _ _ 126 rfl 9 4 U2 Tryz.underlying126 (plainElem (H:=Unit) Tryz.prog 4) gm k _ rfl M8 (by unfold maxLen;omega) _ _ _ rfl rfl HKEY.out _ _ (plainElem_bool Tryz.underlying4 true) ?_;intro w9 hown9 hgrow9))
     go_ret
     exact⟨rfl,hbw8⟩
   ·obtain rfl:V=0:=by
     rw[HI.out,List.drop_eq_nil_of_le (by have:=HLN.out;omega)];rfl
    clear HI
    go_wp2
    go_ret
    exact⟨rfl,hbr⟩
end Go.Proofs.YticlbkficolocaaGreatDoor
namespace Go.Proofs.YticlbkficolocaaGreatDoor
open Go.RowKit Go.Sort
set_option linter.unusedVariables false
set_option linter.unusedSimpArgs false
set_option maxRecDepth 100000
theorem Zi.s0 {w:World} {g:Nat} {fr till us:Int} {pat:ByteArray} {A B S:Option Addr} {na ca nb cb ns cs:Nat} (h:Zi w g fr till pat A na ca B nb cb S ns cs us) (fr':Int):Zi (w.setCell ⟨g,0,none⟩ (.int .i64 fr')) g fr' till pat A na ca B nb cb S ns cs us:=Qv.set_ h 0 (.int .i64 fr')
theorem Zi.s1 {w:World} {g:Nat} {fr till us:Int} {pat:ByteArray} {A B S:Option Addr} {na ca nb cb ns cs:Nat} (h:Zi w g fr till pat A na ca B nb cb S ns cs us) (till':Int):Zi (w.setCell ⟨g,1,none⟩ (.int .i64 till')) g fr till' pat A na ca B nb cb S ns cs us:=Qv.set_ h 1 (.int .i64 till')
theorem Zi.s2 {w:World} {g:Nat} {fr till us:Int} {pat:ByteArray} {A B S:Option Addr} {na ca nb cb ns cs:Nat} (h:Zi w g fr till pat A na ca B nb cb S ns cs us) (pat':ByteArray):Zi (w.setCell ⟨g,2,none⟩ (.string pat')) g fr till pat' A na ca B nb cb S ns cs us:=Qv.set_ h 2 (.string pat')
theorem Zi.s3 {w:World} {g:Nat} {fr till us:Int} {pat:ByteArray} {A B S:Option Addr} {na ca nb cb ns cs:Nat} (h:Zi w g fr till pat A na ca B nb cb S ns cs us) (A':Option Addr) (na' ca':Nat):Zi (w.setCell ⟨g,3,none⟩ (.slice A' na' ca')) g fr till pat A' na' ca' B nb cb S ns cs us:=Qv.set_ h 3 (.slice A' na' ca')
theorem Zi.s4 {w:World} {g:Nat} {fr till us:Int} {pat:ByteArray} {A B S:Option Addr} {na ca nb cb ns cs:Nat} (h:Zi w g fr till pat A na ca B nb cb S ns cs us) (B':Option Addr) (nb' cb':Nat):Zi (w.setCell ⟨g,4,none⟩ (.slice B' nb' cb')) g fr till pat A na ca B' nb' cb' S ns cs us:=Qv.set_ h 4 (.slice B' nb' cb')
theorem Zi.s5 {w:World} {g:Nat} {fr till us:Int} {pat:ByteArray} {A B S:Option Addr} {na ca nb cb ns cs:Nat} (h:Zi w g fr till pat A na ca B nb cb S ns cs us) (S':Option Addr) (ns' cs':Nat):Zi (w.setCell ⟨g,5,none⟩ (.slice S' ns' cs')) g fr till pat A na ca B nb cb S' ns' cs' us:=Qv.set_ h 5 (.slice S' ns' cs')
theorem Zi.s6 {w:World} {g:Nat} {fr till us:Int} {pat:ByteArray} {A B S:Option Addr} {na ca nb cb ns cs:Nat} (h:Zi w g fr till pat A na ca B nb cb S ns cs us) (us':Int):Zi (w.setCell ⟨g,6,none⟩ (.int .i64 us')) g fr till pat A na ca B nb cb S ns cs us':=Qv.set_ h 6 (.int .i64 us')
theorem Zi.put {w:World} {g:Nat} {fr till us:Int} {pat:ByteArray} {A B S:Option Addr} {na ca nb cb ns cs:Nat} (h:Zi w g fr till pat A na ca B nb cb S ns cs us) (fr' till':Int) (pat':ByteArray) (A':Option Addr) (na' ca':Nat) (B':Option Addr) (nb' cb':Nat) (S':Option Addr) (ns' cs':Nat) (us':Int) :
  Zi (((((((w.setCell ⟨g,0,none⟩ (.int .i64 fr')).setCell ⟨g,1,none⟩ (.int .i64 till')).setCell ⟨g,2,none⟩ (.string pat')).setCell ⟨g,3,none⟩ (.slice A' na' ca')).setCell ⟨g,4,none⟩ (.slice B' nb' cb')).setCell ⟨g,5,none⟩ (.slice S' ns' cs')).setCell ⟨g,6,none⟩ (.int .i64 us')) g fr' till' pat' A' na' ca' B' nb' cb' S' ns' cs' us' :=
 ((((((h.s0 fr').s1 till').s2 pat').s3 A' na' ca').s4 B' nb' cb').s5 S' ns' cs').s6 us'
def WW (w:World) (g:Nat) (b0 b1 b2 b3:Bool):Prop:=Qv w g 4 #[.bool b0,.bool b1,.bool b2,.bool b3] (0,0)
theorem WW.facts {w:World} {g:Nat} {b0 b1 b2 b3:Bool} (h:WW w g b0 b1 b2 b3):w.cell? ⟨g,0,none⟩=some (.bool b0)∧w.cell? ⟨g,1,none⟩=some (.bool b1)∧w.cell? ⟨g,2,none⟩=some (.bool b2)∧w.cell? ⟨g,3,none⟩=some (.bool b3):=⟨Qv.cell h 0,Qv.cell h 1,Qv.cell h 2,Qv.cell h 3⟩
theorem WW.s0 {w:World} {g:Nat} {b0 b1 b2 b3:Bool} (h:WW w g b0 b1 b2 b3) (b:Bool):WW (w.setCell ⟨g,0,none⟩ (.bool b)) g b b1 b2 b3:=Qv.set_ h 0 (.bool b)
theorem WW.s1 {w:World} {g:Nat} {b0 b1 b2 b3:Bool} (h:WW w g b0 b1 b2 b3) (b:Bool):WW (w.setCell ⟨g,1,none⟩ (.bool b)) g b0 b b2 b3:=Qv.set_ h 1 (.bool b)
theorem WW.s2 {w:World} {g:Nat} {b0 b1 b2 b3:Bool} (h:WW w g b0 b1 b2 b3) (b:Bool):WW (w.setCell ⟨g,2,none⟩ (.bool b)) g b0 b1 b b3:=Qv.set_ h 2 (.bool b)
theorem WW.s3 {w:World} {g:Nat} {b0 b1 b2 b3:Bool} (h:WW w g b0 b1 b2 b3) (b:Bool):WW (w.setCell ⟨g,3,none⟩ (.bool b)) g b0 b1 b2 b:=Qv.set_ h 3 (.bool b)
theorem all_step {α:Type} (p:α→Bool) (l:List α) (k:Nat) (x:α) (hx:l[k]? = some x) (hp:p x=true):(l.drop k).all p=(l.drop (k+1)).all p:=by
 obtain⟨hl2,rfl⟩:=List.getElem?_eq_some_iff.1 hx
 rw[List.drop_eq_getElem_cons hl2,List.all_cons,hp,Bool.true_and]
theorem all_stop {α:Type} (p:α→Bool) (l:List α) (k:Nat) (x:α) (hx:l[k]? = some x) (hp:p x=false):(l.drop k).all p=false:=by
 obtain⟨hl2,rfl⟩:=List.getElem?_eq_some_iff.1 hx
 rw[List.drop_eq_getElem_cons hl2,List.all_cons,hp,Bool.false_and]
end Go.Proofs.YticlbkficolocaaGreatDoor
