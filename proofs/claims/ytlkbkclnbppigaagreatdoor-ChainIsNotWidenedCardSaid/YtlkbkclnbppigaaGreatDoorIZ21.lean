/- What 'Covers' returns. -/
import Derived.Test.YtlkbkclnbppigaaGreatDoorIZ19
import Derived.Test.YtlkbkclnbppigaaGreatDoorIZ18
namespace Go.Proofs.YtlkbkclnbppigaaGreatDoor
open Tryz
open Go.RowKit Go.Sort
set_option linter.unusedVariables false
set_option linter.unusedSimpArgs false
set_option maxRecDepth 100000
def I5:Option Pat->Option Pat->Value
 | some x,some y=>.tuple #[.bool (BC x y),.string (if BC x y then ⟨#[]⟩ else Hy x y),.int .i64 0]
 | _,_=>.tuple #[.bool false,.string ⟨#[]⟩,.int .i64 1]
theorem aI.put{w:World}{g n k:Nat}{vs:List Value}(h:aI w 1 (some ⟨g,0,none⟩) n vs)(hk:k<n)(v:Value):aI (w.setCell ⟨g,0+k,none⟩ v) 1 (some ⟨g,0,none⟩) n (vs.set k v):=by
 refine⟨by simpa using h.1,fun hn=>⟨g,0,rfl,fun j u hu=>?_⟩⟩;obtain⟨b,o,he,hc⟩:=h.2 hn;injection he with he;injection he with h1 h2 _;subst h1;subst h2
 by_cases e:k=j
 ·subst e;have hl:k<vs.length:=by have:=h.1;omega
  rw[List.getElem?_set_self hl]at hu;injection hu with hu;subst hu
  exact World.cell?_setCell_same w _ v (hc k _ (List.getElem?_eq_getElem hl))
 ·rw[List.getElem?_set_ne e]at hu;exact (World.cell?_setCell_other w _ ⟨g,0+j,none⟩ v (by intro h;injection h with _ h _;omega)).trans (hc j u hu)
abbrev BL:=List UInt8
theorem I7:∀(xs ys:List BL),xs.Pairwise (· < ·)->ys.Pairwise (· < ·)->(∀ a,a∈xs↔a∈ys)->xs=ys
 | [],[],_,_,_=>rfl
 | [],y :: _,_,_,h=>absurd ((h y).2 aH) aH
 | x :: _,[],_,_,h=>absurd ((h x).1 aH) aH
 | x :: xs,y :: ys,hx,hy,h=>by
  have hx':=List.pairwise_cons.1 hx;have hy':=List.pairwise_cons.1 hy;have e:x=y:=by
   rcases List.mem_cons.1 ((h x).1 aH) with e | e
   ·exact e
   ·rcases List.mem_cons.1 ((h y).2 aH) with e2 | e2
    ·exact e2.symm
    ·exact absurd (hy'.1 x e) (List.lt_asymm (hx'.1 y e2))
  subst e;rw[I7 xs ys hx'.2 hy'.2 (fun a=>?_)];constructor
  ·intro ha;rcases List.mem_cons.1 ((h a).1 (by simp[ha])) with e | e
   ·subst e;exact absurd (hx'.1 a ha) (List.lt_irrefl a)
   ·exact e
  ·intro ha;rcases List.mem_cons.1 ((h a).2 (by simp[ha])) with e | e
   ·subst e;exact absurd (hy'.1 a ha) (List.lt_irrefl a)
   ·exact e
theorem U4{a b:BL}(h:a<=b)(hn:a≠b):a<b:=by
 rcases Decidable.em (a<b) with h1 | h1
 ·exact h1
 ·exact absurd (List.le_antisymm h (List.not_lt.1 h1)) hn
theorem I8(d:Array BL)(hs:∀ i j,i<=j->j<d.size->d[i]!<=d[j]!):∀ m,m<=d.size->(Lib.compactUpTo d m).Pairwise (· < ·)/\(∀ j,j<m->d[j]!∈Lib.compactUpTo d m)/\(∀ x∈Lib.compactUpTo d m,∃ j,j<m/\x=d[j]!)
 | 0,_=>by simp[Lib.compactUpTo]
 | m+1,hm=>by
  obtain⟨h1,h2,h3⟩:=I8 d hs m aB;rw[Lib.compactUpTo_succ];by_cases hk:Lib.keeps d m=true
  ·rw[if_pos hk];refine⟨List.pairwise_append.2 ⟨h1,aH,fun a ha b hb=>?_⟩,fun j hj=>?_,fun x hx=>?_⟩
   ·rw[List.mem_singleton.1 hb];obtain⟨j,hj,rfl⟩:=h3 a ha;have hne:d[m-1]! ≠ d[m]!:=by
     intro e;simp[Lib.keeps]at hk;rcases hk with hk | hk
     ·omega
     ·first | exact hk e.symm | exact hk e
    have l1:=hs j (m-1) aB aB;have l2:=U4 (hs (m-1) m aB aB) hne;exact Std.lt_of_le_of_lt l1 l2
   ·by_cases e:j=m
    ·subst e;simp
    ·exact List.mem_append_left _ (h2 j aB)
   ·rcases List.mem_append.1 hx with hx | hx
    ·obtain⟨j,hj,rfl⟩:=h3 x hx;exact⟨j,aB,rfl⟩
    ·exact⟨m,aB,List.mem_singleton.1 hx⟩
  ·rw[if_neg hk,List.append_nil];refine⟨h1,fun j hj=>?_,fun x hx=>?_⟩
   ·by_cases e:j=m
    ·subst e;have hj0:j≠0/\d[j]! = d[j-1]!:=by
      simp[Lib.keeps]at hk;first | exact hk | exact⟨hk.1,hk.2.symm⟩
     rw[hj0.2];exact h2 (j-1) aB
    ·exact h2 j aB
   ·obtain⟨j,hj,rfl⟩:=h3 x hx;exact⟨j,aB,rfl⟩
theorem U5(zs:List BL)(hs:zs.Pairwise (·<=·)):(Lib.compact zs).Pairwise (· < ·)/\∀ a,a∈Lib.compact zs↔a∈zs:=by
 have hd:∀ i j,i<=j->j<zs.toArray.size->zs.toArray[i]!<=zs.toArray[j]!:=by
  intro i j hij hj;simp only[List.size_toArray]at hj;rw[getElem!_pos _ i aP,getElem!_pos _ j lI];simp only[List.getElem_toArray];rcases Nat.lt_or_eq_of_le hij with h | h
  ·exact List.pairwise_iff_getElem.1 hs i j aB hj h
  ·subst h;exact List.le_refl _
 obtain⟨h1,h2,h3⟩:=I8 zs.toArray hd zs.length aH;refine⟨h1,fun a=>⟨fun h=>?_,fun h=>?_⟩⟩
 ·exact Es zs a h
 ·obtain⟨j,hj,rfl⟩:=List.getElem_of_mem h;have:=h2 j hj;rw[getElem!_pos _ j lI]at this;unfold Lib.compact;simpa using this
theorem s1:uY (⟨#[65,99,109,101,47,78,101,119,115,47,46,47,50,48,50,54,47,46,46,47,97,46,72,84,77,76,47,63,98,61,50,38,97,61,49]⟩:aC)=.tuple #[.string (⟨#[97,99,109,101,47,110,101,119,115,47,97,46,104,116,109,108,63,97,61,49,38,98,61,50]⟩:aC),.int .i64 0]:=by kernel_rfl
theorem s2:qO (⟨#[97,99,109,101,47,110,101,119,115,47,42,42]⟩:aC) (⟨#[97,99,109,101,47,110,101,119,115]⟩:aC)=true:=by kernel_rfl
theorem s3:qO (⟨#[97,99,109,101,47,42,47,42,46,104,116,109,108]⟩:aC) (⟨#[97,99,109,101,47,110,101,119,115,47,97,46,104,116,109,108]⟩:aC)=true:=by kernel_rfl
theorem s4:qO (⟨#[97,99,109,101,47,42]⟩:aC) (⟨#[97,99,109,101,47,97,47,98]⟩:aC)=false:=by kernel_rfl
theorem s5:I5 (dI (⟨#[97,99,109,101,47,42,42]⟩:aC)) (dI (⟨#[97,99,109,101,47,42,46,99,115,115]⟩:aC))=.tuple #[.bool true,.string ⟨#[]⟩,.int .i64 0]:=by kernel_rfl
theorem s6:I5 (dI (⟨#[97,99,109,101,47,42,46,99,115,115]⟩:aC)) (dI (⟨#[97,99,109,101,47,42]⟩:aC))=.tuple #[.bool false,.string (⟨#[97,99,109,101,47,97]⟩:aC),.int .i64 0]:=by kernel_rfl
theorem s7:UU (mQ (⟨#[97,99,109,101,47,42,47,98]⟩:aC) (⟨#[97,99,109,101,47,97,47,42,42]⟩:aC))=.tuple #[.bool true,.string (⟨#[97,99,109,101,47,97,47,98]⟩:aC),.int .i64 0]:=by kernel_rfl
theorem BZ{xs ys:List (List UInt8)}(hp:ys.Perm xs)(hs:ys.Pairwise (·<=·)):jV xs=ys:=by
 have tr:∀ a b c:List UInt8,decide (a<=b)=true->decide (b<=c)=true->decide (a<=c)=true:=fun a b c h1 h2=>by simp only[decide_eq_true_eq] at *;exact List.le_trans h1 h2
 have tot:∀ a b:List UInt8,(decide (a<=b)||decide (b<=a))=true:=fun a b=>by simp only[Bool.or_eq_true,decide_eq_true_eq];exact List.le_total a b
 refine List.Perm.eq_of_pairwise (le:=fun a b=>decide (a<=b)=true) (fun a b _ _ h1 h2=>?_) (List.pairwise_mergeSort tr tot _) (hs.imp fun h=>decide_eq_true h) ((List.mergeSort_perm _ _).trans hp.symm);simp only[decide_eq_true_eq]at h1 h2;exact List.le_antisymm h1 h2
theorem t10:kL [(⟨#[98]⟩:aC),(⟨#[97]⟩:aC),(⟨#[98]⟩:aC)]=[97,44,98]:=by
 have h:jV (az [(⟨#[98]⟩:aC),(⟨#[97]⟩:aC),(⟨#[98]⟩:aC)])=[[97],[98],[98]]:=BZ aK aK;unfold kL;rw[h];show Lib.join (Lib.compact [[97],[98],[98]]) [44]=[97,44,98];kernel_rfl
theorem t13:kL [(⟨#[97]⟩:aC),(⟨#[98]⟩:aC)]=[97,44,98]:=by
 have h:jV (az [(⟨#[97]⟩:aC),(⟨#[98]⟩:aC)])=[[97],[98]]:=BZ aK aK;unfold kL;rw[h];show Lib.join (Lib.compact [[97],[98]]) [44]=[97,44,98];kernel_rfl
theorem U6(zs:List BL)(h:zs.Pairwise (· < ·)):Lib.compact (jV zs)=zs:=by
 have hs:jV zs=zs:=BZ (List.Perm.refl _) (h.imp fun h=>List.le_of_lt h);rw[hs];obtain⟨h1,h2⟩:=U5 zs (h.imp fun h=>List.le_of_lt h);exact I7 _ _ h1 h h2
theorem U7(x:BL):Lib.compact (jV [x])=[x]:=U6 [x] (List.pairwise_singleton _ _)
theorem U8(s:aC):oM [s]=if bU s then (s,0) else (⟨#[]⟩,1):=by
 have e:kL [s]=s.data.toList:=by
  unfold kL;show Lib.join (Lib.compact (jV [s.data.toList])) [44]=_;rw[U7,Lib.join_cons];simp[Lib.joinTail]
 unfold oM;cases h:bU s
 ·simp[h]
 ·have hz:=(xP (nI h)).2.2.2;rw[if_neg (by simp[h]),e,if_neg (by rw[<-Lib.size_eq];omega),if_pos rfl];exact congrArg (·,(0:Int)) (fK (by simp[toB]))
def I9(p:bI):aC:=dQ p.kind p.text
theorem str0{p:bI}(h:p.kind=0):I9 p=p.text:=by unfold I9 dQ;rw[if_pos h]
def JA(w:World)(g:Nat)(c:aC)(v:Value)(b:Bool):Prop:=Blk w g 166 #[.string c,v,.bool b] (0,0)
theorem JA.facts{w:World}{g:Nat}{c:aC}{v:Value}{b:Bool}(h:JA w g c v b) :
  w.cell? ⟨g,0,none⟩=some (.string c)/\w.cell? ⟨g,1,none⟩=some v/\w.cell? ⟨g,2,none⟩=some (.bool b)/\w.frozen? ⟨g,0,none⟩=false/\w.frozen? ⟨g,1,none⟩=false/\w.frozen? ⟨g,2,none⟩=false :=
 ⟨Blk.cell h 0,Blk.cell h 1,Blk.cell h 2,lJ h 0,lJ h 1,lJ h 2⟩
end Go.Proofs.YtlkbkclnbppigaaGreatDoor
