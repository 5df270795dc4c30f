/- Plain: lists of tags: one name, both lists, fewer tags. -/
import Derived.Test.YticlbkficolocaaGreatDoorIZ20
import Derived.Test.YticlbkficolocaaGreatDoorIZ19
import Derived.Test.YticlbkficolocaaGreatDoorIZ21
namespace Go.Proofs.YticlbkficolocaaGreatDoor
open Go.RowKit Go.Sort
set_option linter.unusedVariables false
set_option linter.unusedSimpArgs false
set_option maxRecDepth 100000
theorem compact_one (x:BL):Lib.compact (sortL [x])=[x]:=tagsL_compact [x] (List.pairwise_singleton _ _)
theorem tags_one (s:ByteArray):Ze [s]=if Qy s then (s,0) else (⟨#[]⟩,1):=by
 have e:Ur [s]=s.data.toList:=by
  unfold Ur
  show Lib.join (Lib.compact (sortL [s.data.toList])) [44]=_
  rw[compact_one,Lib.join_cons]
  simp[Lib.joinTail]
 unfold Ze
 cases h:Qy s
 ·simp[h]
 ·have hz:=(Uy (Xz h)).2.2.2
  rw[if_neg (by simp[h]),e,if_neg (by rw[←Lib.size_eq];omega),if_pos rfl]
  exact congrArg (·,(0:Int)) (Qm (by simp[Zd]))
theorem hasTag_iff (T p:ByteArray):YQ T p=true↔p∈(splitR T).1:=Lib.containsS_iff _ _
def tagZ (ps:List ByteArray):List BL:=Lib.compact (sortL (lists ps))
theorem Yc (ps:List ByteArray):(tagZ ps).Pairwise (· < ·)∧∀ a,a∈tagZ ps↔a∈lists ps:=by
 have tr:∀ a b c:BL,decide (a≤b)=true→decide (b≤c)=true→decide (a≤c)=true:=fun a b c h1 h2=>by simp only[decide_eq_true_eq] at *;exact List.le_trans h1 h2
 have tot:∀ a b:BL,(decide (a≤b)||decide (b≤a))=true:=fun a b=>by simp only[Bool.or_eq_true,decide_eq_true_eq];exact List.le_total a b
 obtain⟨h3,h4⟩:=Jr (sortL (lists ps)) ((List.pairwise_mergeSort tr tot _).imp fun h=>by simpa using h)
 exact⟨h3,fun a=>by unfold tagZ;rw[h4,sortL,(List.mergeSort_perm _ _).mem_iff]⟩
theorem tags_mem {ps:List ByteArray} {T:ByteArray} (h:Ze ps=(T,0)) (p:ByteArray):YQ T p=true↔p∈ps:=by
 refine⟨fun hp=>?_,hasTag_tags h p⟩
 rw[hasTag_iff,splitR_tags h]at hp
 obtain⟨a,ha,rfl⟩:=List.mem_map.1 hp
 have h2:=((Yc ps).2 a).1 ha
 obtain⟨q,hq,rfl⟩:=List.mem_map.1 h2
 have:Zd q.data.toList=q:=Qm (by simp[Zd])
 rw[this];exact hq
theorem lt_irr (a:BL):¬ a<a:=List.lt_irrefl a
theorem up_nodup {zs:List BL} (h:zs.Pairwise (· < ·)):zs.Nodup:=by
 unfold List.Nodup
 refine List.Pairwise.imp ?_ h
 intro a b hab e
 subst e
 exact lt_irr _ hab
theorem lens_erase (x:BL):∀ l:List BL,x∈l→Lib.lens l=x.length+Lib.lens (l.erase x)
 | [],h=>by cases h
 | y :: l,h=>by
  by_cases e:y=x
  ·subst e
   rw[List.erase_cons_head]
   simp[Lib.lens]
  ·rw[List.erase_cons_tail (by simpa using e)]
   have:=lens_erase x l ((List.mem_cons.1 h).resolve_left (fun h=>e h.symm))
   simp only[Lib.lens,List.map_cons,List.sum_cons]at this ⊢
   omega
theorem lens_sub (l named:List BL) (hn:l.Nodup) (hs:∀ x∈l,x∈named):Lib.lens l≤Lib.lens named∧l.length≤named.length:=by
 induction l generalizing named with
 | nil=>exact⟨by simp[Lib.lens],by simp⟩
 | cons x l ih =>
  have hx:=hs x (by simp)
  have h1:=List.length_erase_of_mem hx
  have hpos:=List.length_pos_of_mem hx
  have h3:=lens_erase x named hx
  have h2:=ih (named.erase x) (List.nodup_cons.1 hn).2 (fun y hy=>(List.mem_erase_of_ne (fun e=>(List.nodup_cons.1 hn).1 (by rw[←e];exact hy))).2 (hs y (by simp[hy])))
  refine⟨?_,by rw[List.length_cons];omega⟩
  simp only[Lib.lens,List.map_cons,List.sum_cons]at h2 h3 ⊢
  omega
theorem tags_few {ps:List ByteArray} (h:∀ p∈ps,Qy p=true) (hn:ps.length≤60):(Ze ps).2=0:=by
 have h2:=join_bound (tagZ ps) (fun a ha=>by
  obtain⟨p,hp,rfl⟩:=List.mem_map.1 (((Yc ps).2 a).1 ha)
  have:=(Uy (Xz (h p hp))).2.2.2
  rw[Lib.size_eq]at this;exact this)
 have h3:=(lens_sub (tagZ ps) (lists ps) (up_nodup (Yc ps).1) (fun a ha=>((Yc ps).2 a).1 ha)).2
 rw[lists_len]at h3
 have e:(Ur ps).length≤4096:=by
  show (Lib.join (tagZ ps) [44]).length≤4096
  omega
 unfold Ze
 rw[if_neg,if_neg (by omega)]
 simp only[List.any_eq_true,not_exists]
 rintro p ⟨hp,hp2⟩
 rw[h p hp]at hp2
 exact absurd hp2 (by decide)
attribute [local go_sem] Oper.semAt_some
theorem ints_at {xs:List Int} {k:Nat} {u:Value} (h:(xs.map (Value.int .i64))[k]? = some u):∃ x,xs[k]? = some x∧u=.int .i64 x:=by
 rw[List.getElem?_map,Option.map_eq_some_iff]at h
 obtain⟨x,hx,rfl⟩:=h
 exact⟨x,hx,rfl⟩
section
variable {α:Type} [Inhabited α]
end
theorem cloneS (A:Option Addr) (n c:Nat) (zs:List ByteArray) (w:World) (hA:Reads w 1 A n (zs.map .string)) (h0:0<n) (hn:n≤1000000):Calls Tryz.prog 176 #[.slice A n c] w fun e w'=>∃ g cap,e=.returned (.slice (some ⟨g,0,none⟩) n cap)∧w'.ownsRow w.heap.size 9 1 (.slice (some ⟨g,0,none⟩) n cap) n (zs.map .string)∧Below w.heap.size w w':=by
 have hl:zs.length=n:=by have:=hA.1;simp at this;omega
 obtain⟨b,o,rfl,hc⟩:=hA.2 h0
 refine (Tryz.slices_Clone_string b o n c zs w (by omega) (by omega) (fun j hj=>?_)).mono ?_
 ·refine hc j _ ?_
  rw[List.getElem?_map,List.getElem?_eq_getElem hj]
  simp[List.getD_eq_getElem?_getD,List.getElem?_eq_getElem hj]
 ·rintro e w' ⟨v',rfl,hown,_,hb⟩
  rw[List.take_of_length_le (by omega)]at hown
  rcases hown.2 with ⟨_,h⟩ | ⟨g,cap,cur,rfl,r⟩
  ·omega
  ·exact⟨g,cap,rfl,hown,hb⟩
end Go.Proofs.YticlbkficolocaaGreatDoor
