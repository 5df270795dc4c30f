/- What 'Tags' returns. -/
import Derived.Test.YtlkbkclnbppigaaGreatDoorIZ7
import Derived.Test.YtlkbkclnbppigaaGreatDoorIZ8
set_option maxHeartbeats 2000000
namespace Go.Proofs.YtlkbkclnbppigaaGreatDoor
open Tryz
open Go.RowKit Go.Sort
set_option linter.unusedVariables false
set_option linter.unusedSimpArgs false
set_option maxRecDepth 100000
open Go.Sort
def jV(xs:List (List UInt8)):List (List UInt8):=xs.mergeSort (fun x y=>decide (x<=y))
theorem En(l:List (List UInt8)):(l.map toB).map (·.data.toList)=l:=by
 rw[List.map_map];exact List.map_id l
theorem Qm(ps:List aC):ps.map Value.string=(az ps).map encStr:=by simp[az]
theorem Qn(ps:List aC):(az ps).length=ps.length:=by simp[az]
theorem Qo(gf:Nat)(lb:Array Value)(eg:∀ args w,(callFunc gf args).run prog w=.ok (.enter gf args) w)(ps:List aC)(w:World)
  (lo hi:Nat) (hhi:hi<=w.heap.size) (hseq:oL prog gf lb (ps.map .string) (fun _ _=>False) lo hi w) (hlen:ps.length<=1000000000) :
  Calls prog 164 #[.func (.func gf) #[] lb] w fun e w'=>∃ v,e=.returned v/\w'.ownsRow w.heap.size 9 1 v ps.length (ps.map .string)/\aF w w':=by
 have cA:=Qp gf lb eg ps w lo hi hhi hseq hlen;go_enter func164,ntmps164;go_wp2_with (go_at_call 222;refine cA.mono ?_;rintro e w1 ⟨v,rfl,hrow,hb⟩);go_ret;exact⟨v,rfl,hrow,hb⟩
theorem Qq(gf:Nat)(lb:Array Value)(eg:∀ args w,(callFunc gf args).run prog w=.ok (.enter gf args) w)(ps:List aC)(w:World)
  (lo hi:Nat) (hhi:hi<=w.heap.size) (hseq:oL prog gf lb (ps.map .string) (fun _ _=>False) lo hi w) (hlen:ps.length<=1000000000) :
  Calls prog 96 #[.func (.func gf) #[] lb] w fun e w'=>∃ v,e=.returned v/\w'.ownsRow w.heap.size 9 1 v ps.length ((jV (az ps)).map encStr)/\aF w w':=by
 have cA:=Qo gf lb eg ps w lo hi hhi hseq hlen;have hll:=Qn ps;go_enter func96,ntmps96;go_wp2_with (go_at_call 164;refine cA.mono ?_;rintro e w1 ⟨v,rfl,hrow,hb⟩);rw[Qm]at hrow;rcases hrow.2 with ⟨rfl,hz⟩ | ⟨gb,cap,cur,rfl,hbase,hgb,r1,r2,r3,r4⟩
 ·have hps:ps=[]:=List.eq_nil_of_length_eq_zero hz;subst hps;go_wp2_with (go_at_call 165;refine (slices_Sort_string_none none 0 w1).mono ?_;rintro e w' ⟨rfl,rfl⟩);go_ret;exact⟨_,rfl,by simpa[az,jV] using hrow,hb⟩
 ·have hH:Holds encStr w1 gb 0 (az ps).toArray:=holds_of_block hgb (by rw[hll];simpa using r4);have hgl:gb<w1.heap.size:=(Array.getElem?_eq_some_iff.1 hgb).1;have cS:=slices_Sort_string gb 0 cap (az ps) w1 hH hgl aB;rw[hll]at cS;go_wp2_with (go_at_call 165;refine cS.mono ?_;rintro e w' ⟨rfl,nn,os,rfl⟩);go_ret;refine⟨_,rfl,?_,hb.grown (grownBy_sorted _) hb.size (fun j hj=>by cases hj;exact hbase)⟩;have:=ownsRow_sorted (w:=w1) (base:=w.heap.size) (g:=gb) (cap:=cap) (n:=nn) (e:=9) (os:=os) (cur:=cur) (ss:=az ps) (ts:=jV (az ps)) (by simp[jV]) hbase hgb (by rw[hll];exact r1) r2 (by rw[r3]);rw[hll]at this;exact this
theorem Eo:∀ l:List (List UInt8),(∀ x∈l,x.length<=64)->Lib.lens l<=l.length*64
 | [],_=>by simp[Lib.lens]
 | x :: l,h=>by
  have h1:=h x aH;have h2:=Eo l (fun y hy=>h y qH);simp only[Lib.lens,List.map_cons,List.sum_cons,List.length_cons]at h2 ⊢;omega
theorem Qr(l:List (List UInt8))(h:∀ x∈l,x.length<=64):(Lib.join l [44]).length<=l.length*65:=by
 cases l with
 | nil=>simp[Lib.join_nil]
 | cons x l =>
  have h1:=h x aH;have h2:=Eo l (fun y hy=>h y qH);rw[Lib.join_cons,List.length_append,Lib.joinTail_length];simp only[List.length_singleton,List.length_cons,List.length_nil,Nat.zero_add,Nat.one_mul];omega
theorem Ep(d:Array (List UInt8)):∀ m,m<=d.size->∀ x∈Lib.compactUpTo d m,x∈d.toList
 | 0,_,x,hx=>by simp[Lib.compactUpTo]at hx
 | m+1,hm,x,hx=>by
  rw[Lib.compactUpTo_succ]at hx;rcases List.mem_append.1 hx with hx | hx
  ·exact Ep d m aB x hx
  ·split at hx
   ·rw[List.mem_singleton.1 hx];have:m<d.size:=aB;rw[getElem!_pos d m this];simp
   ·cases hx
theorem Es(zs:List (List UInt8))(x:List UInt8)(h:x∈Lib.compact zs):x∈zs:=by
 have:=Ep zs.toArray zs.length aH x h;simpa using this
def kL(ps:List aC):List UInt8:=Lib.join (Lib.compact (jV (az ps))) [44]
def oM(ps:List aC):aC × Int :=
 if ps.any (fun p=>!bU p) then (⟨#[]⟩,1) else if 4096<(kL ps).length then (⟨#[]⟩,2) else (toB (kL ps),0)
def rG(ps:List aC):Value:=.tuple #[.string (oM ps).1,.int .i64 (oM ps).2]
theorem Qs{w:World}{g n:Nat}(d:Array (List UInt8)):w.grownBy (putRow encStr (Sort.ahead w n) g 0 d) (some g):=by
 exact Et
theorem Qu(A:Option Addr)(n c:Nat)(ps:List aC)(w:World)(hR:aI w 1 A n (ps.map .string))(hn:ps.length<=1000000)(hsz:∀ p∈ps,p.size<=4294967281):Calls prog 45 #[.slice A n c] w (Ret w (rG ps)):=by
 have hpn:ps.length=n:=zY;have cC:=fun W h=>Eu 93 (enters_of func93 aG rfl) (fun x=>!bU x) A n c ps W (fun x hx W'=>Qv x W' (hsz x hx)) h aB
 cases ha:ps.any (fun x=>!bU x)
 ·rw[ha]at cC;have hall:∀ p∈ps,p.size<=64:=fun p hp=>by
   have:=List.any_eq_false.1 ha p hp;exact rH wX
  have hv:rG ps=if 4096<(kL ps).length then .tuple #[.string ⟨#[]⟩,.int .i64 2] else .tuple #[.string (toB (kL ps)),.int .i64 0]:=by
   unfold rG oM;simp only[ha,Bool.false_eq_true,if_false];split <;> rfl
  rw[hv];obtain⟨zs,hzs⟩:∃ zs,zs=jV (az ps):=⟨_,rfl⟩;have hzl:zs.length=n:=by rw[hzs,<-hpn];simp[jV,az]
  have hz64:∀ x∈zs,x.length<=64:=by
   intro x hx;rw[hzs]at hx;have:=(List.mergeSort_perm _ _).mem_iff.1 hx;obtain⟨p,hp,rfl⟩:=List.mem_map.1 this;have:=hall p hp;rw[Lib.size_eq]at this;exact this
  have hjn:=Qr (Lib.compact zs) (fun x hx=>hz64 x (Es zs x hx));have hcl:=Lib.compact_length_le zs;have hT:Lib.join (Lib.compact zs) [44]=kL ps:=by rw[hzs];rfl
  rw[hT]at hjn;have HC:=aA cC;have HZ:=aA hzs;have HT:=aA hT;have HR:=aA hR;generalize htl:kL ps=tl at *;have hboth:∀ V,(V=if 4096<tl.length then Value.tuple #[.string ⟨#[]⟩,.int .i64 2] else .tuple #[.string (toB tl),.int .i64 0])->Calls prog 45 #[.slice A n c] w (Ret w V):=by
   intro V hV;obtain⟨T,hTT⟩:∃ T:aC,T=toB tl:=⟨_,rfl⟩;have hTs:T.size=tl.length:=by rw[hTT];rfl
   rw[<-hTT,<-hTs]at hV;have HTT:=aA hTT;have HV:=aA hV;have HTs:=aA hTs;clear hV hv hT hTT cC hR hzs ha hTs;have hn9:n<=1000000:=aB;have cS:∀ W:World,aI W 1 A n (ps.map .string)->Calls prog 96 #[.func (.func 166) #[] #[.pointer (some ⟨W.heap.size,0,none⟩)]] (W.alloc (.cells #[.slice A n c] 24)) fun e w' =>
     ∃ v,e=.returned v/\w'.ownsRow W.heap.size 9 1 v n (zs.map encStr)/\aF W w':=by
    intro W hW
    have h0:(W.alloc (.cells #[.slice A n c] 24)).cell? ⟨W.heap.size,0,none⟩=some (.slice A n c):=iD
    refine (Qq 166 _ (enters_of func166 aG rfl) ps (W.alloc (.cells #[.slice A n c] 24)) 0 _ (Nat.le_refl _)
     (Qw W.heap.size n c A ps _ h0 (hW.keep (aU (Below.refl _ _) _)) aB) aB).mono ?_
    rintro e w' ⟨v,rfl,hrow,hb⟩
    rw[hpn,<-HZ.out]at hrow
    exact⟨v,rfl,⟨hrow.1,hrow.2.imp id (fun ⟨g,cap,cur,e1,e2,e3⟩=>⟨g,cap,cur,e1,by simp at e2;omega,e3⟩)⟩,dZ _ hb⟩
   have HS:=aA cS;clear cS;have key:(n=0->(T=⟨#[]⟩/\zs=[])):=by
    intro h0;have hz:zs=[]:=List.eq_nil_of_length_eq_zero aB;refine⟨?_,hz⟩;rw[HTT.out,<-HT.out,hz];rfl
   have HK:=aA key;clear key;go_enter func45,ntmps45;go_wp2_with (first | (go_at_call 92;refine (HC.out _ HR.out).mono ?_;rintro e w1 ⟨rfl,hb1⟩;have hR1:=HR.out.keep hb1) | (go_at_call 97;refine (Qx A n c w1).mono ?_;rintro e W' ⟨rfl,hW'⟩;rw[hW'];clear hW' W') | (go_at_call 96;refine (HS.out w1 hR1).mono ?_;rintro e w2 ⟨v,rfl,hrow,hb2⟩));rcases hrow.2 with ⟨rfl,hz⟩ | ⟨gb,cap,cur,rfl,hbase,hgb,r1,r2,r3,r4⟩
   ·obtain⟨hT0,hz0⟩:=HK.out hz;subst hz;have hV:=HV.out;rw[hT0,if_neg aK]at hV;subst hV;go_wp2_with (((first | (go_at_call 95;refine (slices_Compact_string_empty none 0 _).mono ?_) | (go_at_call 72;refine (strings_Join_none none 0 _ _).mono ?_));rintro e w3 ⟨rfl,rfl⟩));go_ret2;exact⟨rfl,aJ⟩
   ·have hH:Holds encStr w2 gb 0 zs.toArray:=holds_of_block hgb (by rw[hzl];simpa using r4);have hgl:gb<w2.heap.size:=(Array.getElem?_eq_some_iff.1 hgb).1;have cK:=slices_Compact_string gb 0 cap zs w2 hH aB aB;rw[hzl]at cK;have cJ:∀ q w3,w3=putRow encStr (Sort.ahead w2 q) gb 0 (Lib.compact zs++List.replicate (n-(Lib.compact zs).length) []).toArray->aF w1 w3 /\
      Calls prog 72 #[.slice (some ⟨gb,0,none⟩) (Lib.compact zs).length cap,.string ⟨#[44]⟩] w3 (Ret w3 (.string T)):=by
     rintro q w3 rfl
     have hb3:=hb2.grown (Qs (w:=w2) (g:=gb) (n:=q) (Lib.compact zs++List.replicate (n-(Lib.compact zs).length) []).toArray) hb2.size (fun j hj=>by cases hj;exact hbase)
     refine⟨hb3,?_⟩
     have hh:=holds_putRow encStr (Sort.ahead w2 q) gb 0 zs.toArray (Lib.compact zs++List.replicate (n-(Lib.compact zs).length) []).toArray hH aP
     have:=strings_Join gb 0 cap ((Lib.compact zs).map toB) ⟨#[44]⟩ (putRow encStr (Sort.ahead w2 q) gb 0 (Lib.compact zs++List.replicate (n-(Lib.compact zs).length) []).toArray) (by
       intro j x hx
       rw[List.getElem?_map,Option.map_eq_some_iff]at hx
       obtain⟨y,hy,rfl⟩:=hx
       have hjl:j<(Lib.compact zs).length:=(List.getElem?_eq_some_iff.1 hy).1
       have h1:=(hh j aP).1
       rw[h1]
       congr 1
       rw[getElem!_pos _ j aP]
       have:(Lib.compact zs++List.replicate (n-(Lib.compact zs).length) ([]:List UInt8)).toArray[j]' aP=y:=by
        obtain⟨_,h2⟩:=List.getElem?_eq_some_iff.1 hy
        simp[List.getElem_append_left hjl,h2]
       rw[this];rfl) (by simpa[putRow,mapBlock,Sort.ahead] using hgl) aP aP (by
       have:=En (Lib.compact zs)
       rw[this,show (⟨#[44]⟩:aC).data.toList=[44] from rfl,HT.out];omega)
     rw[En,show (⟨#[44]⟩:aC).data.toList=[44] from rfl,HT.out,List.length_map]at this
     rw[HTT.out]
     exact this
    have HJ:=aA cJ;have HKK:=aA cK;clear cJ cK hH hgb r3 r4 hrow;by_cases hbig:4096<T.size
    ·have hV:=HV.out;rw[if_pos hbig]at hV;subst hV;have hd:decide ((4096:Int)<(T.size:Int))=true:=aP;exact Ew
    ·have hV:=HV.out;rw[if_neg hbig]at hV;subst hV;have hd:decide ((4096:Int)<(T.size:Int))=false:=aP;exact Ew
  exact hboth _ rfl
 ·have hv:rG ps=.tuple #[.string ⟨#[]⟩,.int .i64 1]:=by
   unfold rG oM;rw[if_pos ha]
  rw[hv];rw[ha]at cC;have HC:=aA cC;have HR:=aA hR;clear hv ha cC hR;go_enter func45,ntmps45;go_wp2_with (go_at_call 92;refine (HC.out _ HR.out).mono ?_;rintro e w1 ⟨rfl,hb1⟩);go_ret2;exact⟨rfl,aJ⟩
end Go.Proofs.YtlkbkclnbppigaaGreatDoor
namespace Go.Proofs.YtlkbkclnbppigaaGreatDoor
open Tryz
open Go.RowKit Go.Sort
set_option linter.unusedVariables false
set_option linter.unusedSimpArgs false
set_option maxRecDepth 100000
section
variable {P:Program} {Q:Exit->Act->World->Prop}
def QG(G:World->World->Prop)(D:Nat->Value->World->Prop)(i:Nat)(o:Oper)(ds:List Deferred)(w:World):Exit->Act->World->Prop:=fun e a' w'=>e=.normal/\D i (wY o a') w'/\a'.defers=ds/\G w w'
def uS(G:World->World->Prop)(P:Program)(ops:Array Oper)(S:World->Prop)(D:Nat->Value->World->Prop)(fr:(Nat->Value)->Act):Nat->List Oper->Prop
 | _,[]=>True
 | i,o :: l=>(∀ vals W,S W->bQ D vals W o.after.toList->wpList P ops (QG G D i o (fr vals).defers W) [o] (fr vals) W)/\uS G P ops S D fr (i+1) l
theorem Ey{G:World->World->Prop}{ops:Array Oper}{S:World->Prop}{D:Nat->Value->World->Prop}{fr:(Nat->Value)->Act}:∀(l:List Oper)(k:Nat),uS G P ops S D fr k l->∀(i:Nat)(o:Oper),l[i]? = some o->∀ vals W,S W->bQ D vals W o.after.toList->wpList P ops (QG G D (k+i) o (fr vals).defers W) [o] (fr vals) W
 | [],_,_,i,o,h=>nG
 | o :: l,k,h,0,o',ho=>by
  obtain rfl:o=o':=rJ;exact h.1
 | _ :: l,k,h,i+1,o',ho=>by
  have:=Ey l (k+1) h.2 i o' rJ
  rwa [show k+1+i=k+(i+1) by omega]at this
theorem Ez(G:World->World->Prop)(hGr:∀ a,G a a)(hGt:∀ a b c,G a b->G b c->G a c){l:List Oper}(m:Nat){id:Nat}{a:Act}{w:World}(hm:P.follows .mixedOrders=true)(hB:Region.freeB .any l m a.tmps.size=true)(hdep:Region.deps l.toArray .any m=true)
  (D:Nat->Value->World->Prop) (hDk:∀ i v w w',D i v w->G w w'->D i v w') (S:World->Prop) (hS0:S { w with drawn:=w.drawn+1 }) (hSk:∀ w w',S w->G w w'->S w')
  (hops:uS G P l.toArray S D (fun vals=>aZ (l.take m) vals 0 a) 0 (l.take m))
  (hend:∀ vals w',S w'->(∀ j,j<m->D j (vals j) w')->wpList P l.toArray Q (l.drop m) (aZ (l.take m) vals 0 a) w'):(Code.region id l.toArray true).wp P Q a w:=by
 have hB2:=hB;unfold Region.freeB at hB2;simp only[Bool.and_eq_true,decide_eq_true_eq]at hB2;obtain⟨⟨⟨hml,hf⟩,_⟩,_⟩:=hB2;have fair:∀ i,i<m->∃ o d,l[i]? = some o/\(∀ e∈o.after,Region.binds .any e=true->e.on<i)/\o.dst=some d/\d<a.tmps.size/\∀ j,j≠i->bM l.toArray j≠some d:=by
  intro i hi;have h:=List.all_eq_true.1 hf i (List.mem_range.2 hi);cases ho:l[i]? with
  | none=>rw[List.getElem?_toArray,ho]at h;cases h
  | some o =>
   rw[List.getElem?_toArray,ho]at h;dsimp only at h;rw[Bool.and_eq_true,Array.all_eq_true']at h;cases hd:o.dst with
   | none=>rw[hd]at h;cases h.2
   | some d =>
    exact zZ
 have hput:∀ V,aZ (l.take m) V 0 a=iP l.toArray a V m:=by
  intro V;exact zf
 refine qI m hm hB G hGr hGt D (fun i v w w' h hb=>hDk i v w w' h hb) (fun _ _=>True) trivial (wZ _ _ (fun i o hi=>?_)) (fun vals w' hG _ hv=>?_)
 ·rw[Nat.zero_add];intro ho L a' W _ _ _ _ hG hA hd;have hilt:i<m:=by
   exact zg
  have hSW:S W:=hSk _ _ hS0 hG;obtain⟨V,hV⟩:∃ V:Nat->Value,V=fun j=>iE l.toArray a' j:=⟨_,rfl⟩
  have hD:=Ey _ _ hops i o hi V W hSW (zh _ (fun e he hb=>by rw[hV];exact hd e (by simpa using he) hb));exact E5
 ·exact hend vals w' (hSk _ _ hS0 hG) hv
end
section
variable {P:Program}
def E8(base:Nat)(e:TypeId)(size n:Nat)(full:List Value)(w w':World):Prop :=
 ∀ v k ys,w.ownsRow base e size v k ys->k<=n\/ys <+: full->w'.ownsRow base e size v k ys
theorem Qy(w:World)(base:Nat)(t ty e:TypeId)(i:TypeInfo)(z:Value)(size bytes:Nat)(ht:P.underlying t=some (.slice e))(hi:P.info? e=some i)(hz:i.zero=some z)
  (hsize:i.size=size) (hby:i.bytes=bytes) (hzs:z.cells.size=size) (hsz:0<size)
  (v:Value) (n:Nat) (xs:List Value) (hown:w.ownsRow base e size v n xs)
  (a:Addr) (m c:Nat) (news:List Value) (hl:news.length=m*size) (hnews:∀ j u,news[j]? = some u->w.cell? (a.add j)=some u) (h1:∀ u∈news,u.oneCell'=true)
  (h63:n+m<=maxLen) (hbytes:(n+m)*bytes<=140737488355328) (hbase:base<=w.heap.size) :
  ∃ v' w',(Builtin.append_ #[t,t] ty #[v,.slice (some a) m c]).run P w=.ok v' w'/\w'.ownsRow base e size v' (n+m) (xs++news)/\w.grownBy w' v.ownBlock/\E8 base e size n (xs++news) w w':=by
 obtain⟨v',w',hr,h2,h3,_⟩:=run_append_own (P:=P) w base t ty e i z size bytes ht hi hz hsize hby hzs hsz v n xs hown a m c news hl hnews h1 h63 hbytes hbase;refine⟨v',w',hr,h2,h3,?_⟩;subst hsize;rintro v2 k ys hy hk;refine⟨hy.1,?_⟩;rcases hy.2 with ⟨h4,h5⟩ | ⟨g,cap,cur,rfl,hbg,hg,hnc,hcm,hcs,htake⟩
 ·exact .inl ⟨h4,h5⟩
 ·by_cases hne:some g=v.ownBlock
  ·rcases hown.2 with ⟨rfl,_⟩ | ⟨g2,cap2,cur2,rfl,hbg2,hg2,hnc2,hcm2,hcs2,htake2⟩
   ·cases hne
   ·have hgg:g2=g:=by simp only[Value.ownBlock]at hne;exact (Option.some.inj hne).symm
    subst hgg;rw[hg]at hg2;injection hg2 with hg2
    injection hg2 with hg2
    subst hg2;by_cases hroom:n+m<=cap2
    ·have hfit:n*i.size+news.length<=cur.size:=by rw[hl,hcs2,<-Nat.add_mul];exact Nat.mul_le_mul_right _ hroom
     have hr2:=run_append_room (P:=P) w t ty e i ht hi g2 n cap2 cur hg a m c news hl hnews h1 hroom hfit;rw[hr]at hr2;injection hr2 with e1 e2
     refine .inr ⟨g2,cap,_,rfl,hbg,by rw[e2];exact setRow_heap w g2 cur _ e _ hg,hnc,hcm,?_,?_⟩
     ·simp only[List.size_toArray,List.length_append,List.length_take,List.length_drop,Array.length_toList];omega
     ·show (cur.toList.take (n*i.size)++news++cur.toList.drop (n*i.size+news.length)).take (k*i.size)=ys;rcases hk with hk | hk
      ·have hkn:k*i.size<=n*i.size:=Nat.mul_le_mul_right _ hk;rw[List.append_assoc,List.take_append_of_le_length (by rw[List.length_take,Array.length_toList];omega),List.take_take,Nat.min_eq_left hkn];exact htake
      ·obtain⟨rest,hrest⟩:=hk;rw[htake2,<-hrest,List.append_assoc,<-hy.1];exact List.take_left
    ·have holds:∀ j u,xs[j]? = some u->w.cell? ((⟨g2,0,none⟩:Addr).add j)=some u:=hown.cells (g:=g2) rfl;have hr2:=run_append_grow (P:=P) w t ty e i z ht hi hz ⟨g2,0,none⟩ n cap2 xs hown.1 holds a m c news hl hnews aB (by simp only[maxLen]at h63;omega) (growslice_fits aB (by rw[hby];exact hbytes));rw[hr]at hr2;injection hr2 with e1 e2
     refine .inr ⟨g2,cap,cur,rfl,hbg,?_,hnc,hcm,hcs,htake⟩;rw[e2];exact (heap_alloc_old w.drew _ (Array.getElem?_eq_some_iff.1 hg).1).trans hg
  ·exact .inr ⟨g,cap,cur,rfl,hbg,(h3.block g (Array.getElem?_eq_some_iff.1 hg).1 hne).trans hg,hnc,hcm,hcs,htake⟩
theorem FB{ops:Array Oper}{rest:List Oper}{o:Oper}{a:Act}{w:World}{Q:Exit->Act->World->Prop}(hgd:o.guard=none)(s x:Operand)(t:TypeId)
  (ho:o.op=.call { callee:=.builtin .append,args:=#[s,x],argTypes:=#[t,t] })
  (base:Nat) (e:TypeId) (i:TypeInfo) (z:Value) (size bytes:Nat) (ht:P.underlying t=some (.slice e)) (hi:P.info? e=some i) (hz:i.zero=some z)
  (hsize:i.size=size) (hby:i.bytes=bytes) (hzs:z.cells.size=size) (hsz:0<size)
  (v:Value) (n:Nat) (xs:List Value) (hs:a.eval s=v) (hown:w.ownsRow base e size v n xs)
  (ad:Addr) (m c:Nat) (news:List Value) (hx:a.eval x=.slice (some ad) m c) (hl:news.length=m*size) (hnews:∀ j u,news[j]? = some u->w.cell? (ad.add j)=some u) (h1:∀ u∈news,u.oneCell'=true)
  (h63:n+m<=maxLen) (hbytes:(n+m)*bytes<=140737488355328) (hbase:base<=w.heap.size)
  (h:∀ v' w',w'.ownsRow base e size v' (n+m) (xs++news)->w.grownBy w' v.ownBlock->E8 base e size n (xs++news) w w'->wpList P ops Q rest (a.put o.dst v') w'):wpList P ops Q (o :: rest) a w:=by
 obtain⟨v',w',hr,h2,h3,h4⟩:=Qy (P:=P) w base t o.type e i z size bytes ht hi hz hsize hby hzs hsz v n xs hown ad m c news hl hnews h1 h63 hbytes hbase;refine wpList_plain hgd fun K hK=>?_
 unfold Oper.wp execOp;simp only[ho,resolve,invoke,builtin,Sem.run_bind,Sem.run_pure,Result.andThen_ok,List.map_toArray,List.map_cons,List.map_nil,hs,hx,hr];exact hK _ _ (h v' w' h2 h3 h4)
end
end Go.Proofs.YtlkbkclnbppigaaGreatDoor
