/- The specification's tags are the program's. -/
import Derived.Test.YticlbkficolocaaGreatDoorIZ17
import Derived.Test.YticlbkficolocaaGreatDoorIZ18
set_option maxHeartbeats 8000000
namespace Go.Proofs.YticlbkficolocaaGreatDoor
open Go.RowKit Go.Sort
set_option linter.unusedVariables false
set_option linter.unusedSimpArgs false
set_option maxRecDepth 100000
abbrev BL:=List UInt8
theorem uniq_sorted:∀ (xs ys:List BL),xs.Pairwise (· < ·)→ys.Pairwise (· < ·)→(∀ a,a∈xs↔a∈ys)→xs=ys
 | [],[],_,_,_=>rfl
 | [],y :: _,_,_,h=>absurd ((h y).2 (by simp)) (by simp)
 | x :: _,[],_,_,h=>absurd ((h x).1 (by simp)) (by simp)
 | x :: xs,y :: ys,hx,hy,h=>by
  have hx':=List.pairwise_cons.1 hx
  have hy':=List.pairwise_cons.1 hy
  have e:x=y:=by
   rcases List.mem_cons.1 ((h x).1 (by simp)) with e | e
   ·exact e
   ·rcases List.mem_cons.1 ((h y).2 (by simp)) with e2 | e2
    ·exact e2.symm
    ·exact absurd (hy'.1 x e) (List.lt_asymm (hx'.1 y e2))
  subst e
  rw[uniq_sorted xs ys hx'.2 hy'.2 (fun a=>?_)]
  constructor
  ·intro ha
   rcases List.mem_cons.1 ((h a).1 (by simp[ha])) with e | e
   ·subst e;exact absurd (hx'.1 a ha) (List.lt_irrefl a)
   ·exact e
  ·intro ha
   rcases List.mem_cons.1 ((h a).2 (by simp[ha])) with e | e
   ·subst e;exact absurd (hy'.1 a ha) (List.lt_irrefl a)
   ·exact e
theorem lt_of_le_ne' {a b:BL} (h:a≤b) (hn:a≠b):a<b:=by
 rcases Decidable.em (a<b) with h1 | h1
 ·exact h1
 ·exact absurd (List.le_antisymm h (List.not_lt.1 h1)) hn
theorem compact_inv (d:Array BL) (hs:∀ i j,i≤j→j<d.size→d[i]!≤d[j]!):∀ m,m≤d.size→(Lib.compactUpTo d m).Pairwise (· < ·)∧(∀ j,j<m→d[j]!∈Lib.compactUpTo d m)∧(∀ x∈Lib.compactUpTo d m,∃ j,j<m∧x=d[j]!)
 | 0,_=>by simp[Lib.compactUpTo]
 | m+1,hm=>by
  obtain⟨h1,h2,h3⟩:=compact_inv d hs m (by omega)
  rw[Lib.compactUpTo_succ]
  by_cases hk:Lib.keeps d m=true
  ·rw[if_pos hk]
   refine⟨List.pairwise_append.2 ⟨h1,by simp,fun a ha b hb=>?_⟩,fun j hj=>?_,fun x hx=>?_⟩
   ·rw[List.mem_singleton.1 hb]
    obtain⟨j,hj,rfl⟩:=h3 a ha
    have hne:d[m-1]! ≠ d[m]!:=by
     intro e
     simp[Lib.keeps]at hk
     rcases hk with hk | hk
     ·omega
     ·first | exact hk e.symm | exact hk e
    have l1:=hs j (m-1) (by omega) (by omega)
    have l2:=lt_of_le_ne' (hs (m-1) m (by omega) (by omega)) hne
    exact Std.lt_of_le_of_lt l1 l2
   ·by_cases e:j=m
    ·subst e;simp
    ·exact List.mem_append_left _ (h2 j (by omega))
   ·rcases List.mem_append.1 hx with hx | hx
    ·obtain⟨j,hj,rfl⟩:=h3 x hx
     exact⟨j,by omega,rfl⟩
    ·exact⟨m,by omega,List.mem_singleton.1 hx⟩
  ·rw[if_neg hk,List.append_nil]
   refine⟨h1,fun j hj=>?_,fun x hx=>?_⟩
   ·by_cases e:j=m
    ·subst e
     have hj0:j≠0∧d[j]! = d[j-1]!:=by
      simp[Lib.keeps]at hk
      first | exact hk | exact⟨hk.1,hk.2.symm⟩
     rw[hj0.2]
     exact h2 (j-1) (by omega)
    ·exact h2 j (by omega)
   ·obtain⟨j,hj,rfl⟩:=h3 x hx
    exact⟨j,by omega,rfl⟩
theorem Jr (zs:List BL) (hs:zs.Pairwise (·≤·)):(Lib.compact zs).Pairwise (· < ·)∧∀ a,a∈Lib.compact zs↔a∈zs:=by
 have hd:∀ i j,i≤j→j<zs.toArray.size→zs.toArray[i]!≤zs.toArray[j]!:=by
  intro i j hij hj
  simp only[List.size_toArray]at hj
  rw[getElem!_pos _ i (by simp;omega),getElem!_pos _ j (by simpa using hj)]
  simp only[List.getElem_toArray]
  rcases Nat.lt_or_eq_of_le hij with h | h
  ·exact List.pairwise_iff_getElem.1 hs i j (by omega) hj h
  ·subst h;exact List.le_refl _
 obtain⟨h1,h2,h3⟩:=compact_inv zs.toArray hd zs.length (by simp)
 refine⟨h1,fun a=>⟨fun h=>?_,fun h=>?_⟩⟩
 ·exact compact_mem zs a h
 ·obtain⟨j,hj,rfl⟩:=List.getElem_of_mem h
  have:=h2 j hj
  rw[getElem!_pos _ j (by simpa using hj)]at this
  unfold Lib.compact
  simpa using this
def insP (s:ByteArray):List ByteArray→List ByteArray
 | []=>[s]
 | x :: l=>if leS s x then s :: (x :: l).filter (fun y=>y.toList != s.toList) else x :: insP s l
theorem leS_iff (s x:ByteArray):leS s x=true↔s.data.toList≤x.data.toList:=by
 have h:=key_less s x
 unfold leS
 rw[←List.not_lt]
 constructor
 ·intro h1 h2
  rw[h1]at h
  simp[h2]at h
 ·intro h1
  cases hb:(Op.bytesLess s.toList x.toList||s.toList==x.toList)
  ·rw[hb]at h
   exact absurd (by simpa using h) h1
  ·rfl
theorem ne_iff (s x:ByteArray):(x.toList != s.toList)=true↔x.data.toList≠s.data.toList:=by
 rw[Lib.toList_data,Lib.toList_data];simp
theorem ins_true (s:ByteArray):∀ (l acc:List ByteArray),l.foldl (Xk s) (acc,true)=(acc++l.filter (fun y=>y.toList != s.toList),true)
 | [],acc=>by simp
 | x :: l,acc=>by
  rw[List.foldl_cons]
  have e:insA s (acc,true) x=(acc,true):=by simp[insA]
  cases hne:(x.toList != s.toList)
  ·rw[show Xk s (acc,true) x=(acc,true) by simp only[Xk,hne,e];rfl,ins_true s l acc,List.filter_cons,if_neg (by rw[hne];decide)]
  ·rw[show Xk s (acc,true) x=(acc++[x],true) by simp only[Xk,hne,e];rfl,ins_true s l (acc++[x]),List.filter_cons,if_pos hne]
   simp
theorem ins_false (s:ByteArray):∀ (l acc:List ByteArray),(if (l.foldl (Xk s) (acc,false)).2 then (l.foldl (Xk s) (acc,false)).1 else (l.foldl (Xk s) (acc,false)).1++[s])=acc++insP s l
 | [],acc=>by simp[insP]
 | x :: l,acc=>by
  rw[List.foldl_cons]
  cases hle:leS s x
  ·have e:insA s (acc,false) x=(acc,false):=by simp[insA,hle]
   have hne:(x.toList != s.toList)=true:=by
    rw[ne_iff]
    intro h
    have:leS s x=true:=(leS_iff s x).2 (by rw[h];exact List.le_refl _)
    rw[hle]at this;cases this
   rw[show Xk s (acc,false) x=(acc++[x],false) by simp only[Xk,hne,e];rfl,ins_false s l (acc++[x]),insP,hle]
   simp
  ·have e:insA s (acc,false) x=(acc++[s],true):=by simp[insA,hle]
   have hp:insP s (x :: l)=s :: (x :: l).filter (fun y=>y.toList != s.toList):=by rw[insP,if_pos hle]
   cases hne:(x.toList != s.toList)
   ·rw[show Xk s (acc,false) x=(acc++[s],true) by simp only[Xk,hne,e];rfl,hp,ins_true]
    have hf:(x :: l).filter (fun y=>y.toList != s.toList)=l.filter (fun y=>y.toList != s.toList):=by rw[List.filter_cons,if_neg (by rw[hne];decide)]
    rw[hf]
    simp
   ·rw[show Xk s (acc,false) x=(acc++[s]++[x],true) by simp only[Xk,hne,e];rfl,hp,ins_true]
    have hf:(x :: l).filter (fun y=>y.toList != s.toList)=x :: l.filter (fun y=>y.toList != s.toList):=by rw[List.filter_cons,if_pos hne]
    rw[hf]
    simp
theorem insB_eq (l:List ByteArray) (s:ByteArray):Wn l s=insP s l:=by
 have:=ins_false s l []
 unfold Wn
 rw[this];rfl
theorem insP_mem (s:ByteArray) (a:BL):∀ l,a∈lists (insP s l)↔a=s.data.toList∨a∈lists l
 | []=>by simp[insP,lists]
 | x :: l=>by
  unfold insP
  split
  ·simp only[lists,List.map_cons,List.mem_cons,List.mem_map,List.mem_filter]
   constructor
   ·rintro (h | ⟨y,⟨h1,_⟩,h2⟩)
    ·exact .inl h
    ·rcases h1 with rfl | h1
     ·exact .inr (.inl h2.symm)
     ·exact .inr (.inr ⟨y,h1,h2⟩)
   ·intro h
    by_cases hs:a=s.data.toList
    ·exact .inl hs
    ·right
     rcases h with h | h | ⟨y,h1,h2⟩
     ·exact absurd h hs
     ·exact⟨x,⟨.inl rfl,(ne_iff s x).2 (by rw[←h];exact hs)⟩,h.symm⟩
     ·exact⟨y,⟨.inr h1,(ne_iff s y).2 (by rw[h2];exact hs)⟩,h2⟩
  ·have ih:=insP_mem s a l
   simp only[lists,List.map_cons,List.mem_cons]at ih ⊢
   rw[ih]
   constructor
   ·rintro (h | h | h)
    ·exact .inr (.inl h)
    ·exact .inl h
    ·exact .inr (.inr h)
   ·rintro (h | h | h)
    ·exact .inr (.inl h)
    ·exact .inl h
    ·exact .inr (.inr h)
theorem insP_sorted (s:ByteArray):∀ l,(lists l).Pairwise (· < ·)→(lists (insP s l)).Pairwise (· < ·)
 | [],_=>by simp[insP,lists]
 | x :: l,h=>by
  have h':=List.pairwise_cons.1 (show (x.data.toList :: lists l).Pairwise (· < ·) from h)
  unfold insP
  split
  ·rename_i hle
   have hle:=(leS_iff s x).1 hle
   show (s.data.toList :: lists ((x :: l).filter (fun y=>y.toList != s.toList))).Pairwise (· < ·)
   refine List.pairwise_cons.2 ⟨fun a ha=>?_,h.sublist (List.filter_sublist.map _)⟩
   obtain⟨y,hy,rfl⟩:=List.mem_map.1 ha
   obtain⟨hy1,hy2⟩:=List.mem_filter.1 hy
   have hn:=(ne_iff s y).1 hy2
   refine lt_of_le_ne' ?_ (fun e=>hn e.symm)
   rcases List.mem_cons.1 hy1 with rfl | hy1
   ·exact hle
   ·exact List.le_trans hle (List.le_of_lt (h'.1 _ (List.mem_map_of_mem hy1)))
  ·rename_i hle
   have hlt:x.data.toList<s.data.toList:=by
    rw[←Decidable.not_not (p:=x.data.toList<s.data.toList),List.not_lt]
    exact fun h=>hle ((leS_iff s x).2 h)
   show (x.data.toList :: lists (insP s l)).Pairwise (· < ·)
   refine List.pairwise_cons.2 ⟨fun a ha=>?_,insP_sorted s l h'.2⟩
   rcases (insP_mem s a l).1 ha with rfl | ha
   ·exact hlt
   ·exact h'.1 a ha
theorem insFold_sorted (l:List ByteArray):∀ acc,(lists acc).Pairwise (· < ·)→(lists (l.foldl Wn acc)).Pairwise (· < ·)∧∀ a,a∈lists (l.foldl Wn acc)↔a∈lists acc∨a∈lists l:=by
 induction l with
 | nil=>intro acc h;exact⟨h,fun a=>by simp[lists]⟩
 | cons x l ih =>
  intro acc h
  obtain⟨h1,h2⟩:=ih (Wn acc x) (by rw[insB_eq];exact insP_sorted x acc h)
  refine⟨h1,fun a=>?_⟩
  rw[List.foldl_cons,h2,insB_eq,insP_mem]
  simp only[lists,List.map_cons,List.mem_cons]
  constructor
  ·rintro ((h | h) | h)
   ·exact .inr (.inl h)
   ·exact .inl h
   ·exact .inr (.inr h)
  ·rintro (h | h | h)
   ·exact .inl (.inr h)
   ·exact .inl (.inl h)
   ·exact .inr h
theorem rTags_same (l:List ByteArray):rTagsL l=Ur l:=by
 have tr:∀ a b c:BL,decide (a≤b)=true→decide (b≤c)=true→decide (a≤c)=true:=fun a b c h1 h2=>by simp only[decide_eq_true_eq] at *;exact List.le_trans h1 h2
 have tot:∀ a b:BL,(decide (a≤b)||decide (b≤a))=true:=fun a b=>by simp only[Bool.or_eq_true,decide_eq_true_eq];exact List.le_total a b
 obtain⟨h1,h2⟩:=insFold_sorted l [] (by simp[lists])
 obtain⟨h3,h4⟩:=Jr (sortL (lists l)) ((List.pairwise_mergeSort tr tot _).imp fun h=>by simpa using h)
 unfold rTagsL Ur
 congr 1
 refine uniq_sorted _ _ h1 h3 fun a=>?_
 rw[h2,h4,sortL,(List.mergeSort_perm _ _).mem_iff]
 simp[lists]
theorem rTagsR_eq (l:List ByteArray):rTagsR l=Ze l:=by
 unfold rTagsR Ze
 rw[rTags_same]
theorem Yv (c:ZV) (m:Zy) (w:World) (hR:Xm w c m) (hp:c.pat.size≤100000) (hcl:∀ x∈c.cl,x.size≤100000) (hco:∀ x∈c.co,x.size≤100000) (h1:c.cl.length≤1000000) (h2:c.co.length≤1000000) (h3:c.si.length≤1000000) (hE:Env w) :
  Calls Tryz.prog 61 #[Zy.val c m] w (Zx w (.bool (Xj c))):=by
 obtain⟨fr,till,pat,cl,co,si,us⟩:=c
 obtain⟨A,ca,B,cb,S,cs⟩:=m
 obtain⟨hA,hB,hS⟩:=hR
 dsimp only at hA hB hS hp hcl hco h1 h2 h3
 unfold Zy.val
 dsimp only
 obtain⟨V,hV⟩:∃ V,V=Xj ⟨fr,till,pat,cl,co,si,us⟩:=⟨_,rfl⟩
 rw[←hV]
 unfold Xj timesB Uc at hV
 dsimp only at hV
 have c1:=fun W (hb:Below w.heap.size w W)=>isSetS_any 121 (enters_of Tryz.func121 (by kernel_rfl) rfl) Qy A cl.length ca cl 32 W (fun x hx W' hE'=>condName_any x W' (hcl x hx) hE') (hA.keep hb) (by omega) (by omega) (Env.keep hE hb)
 have c2:=fun W (hb:Below w.heap.size w W)=>isSetS_any 122 (enters_of Tryz.func122 (by kernel_rfl) rfl) Zn B co.length cb co 32 W (fun x hx W' _=>isCountry_any x W' (by have:=hco x hx;omega)) (hB.keep hb) (by omega) (by omega) (Env.keep hE hb)
 have c3:=fun W (hb:Below w.heap.size w W)=>isSetI_any 124 (enters_of Tryz.func124 (by kernel_rfl) rfl) Jb S si.length cs si 64 W (fun x W'=>isSite_any x W') (hS.keep hb) (by omega) (by omega)
 have hva:=fun W h=>Yu pat W hp h
 generalize (Qx pat).isSome=b1 at *
 generalize setB KQ Qy 32 cl=b2 at *
 generalize setB KQ Zn 32 co=b3 at *
 generalize setB ltI Jb 64 si=b4 at *
 have h32:((32:Nat):Int)=32:=rfl
 have h64:((64:Nat):Int)=64:=rfl
 simp only[h32]at c1 c2
 simp only[h64]at c3
 clear h32 h64
 have C1:=Lib.hid c1
 have C2:=Lib.hid c2
 have C3:=Lib.hid c3
 have HVA:=Lib.hid hva
 have HE:=Lib.hid hE
 clear c1 c2 c3 hva hE hA hB hS hcl hco h1 h2 h3 hp
 by_cases t1:0≤fr
 rotate_left
 ·obtain rfl:V=false:=by rw[hV];simp[t1]
  have d1:decide (0≤fr)=false:=decide_eq_false t1
  clear hV
  (go_enter Tryz.func61,Tryz.ntmps61;go_wp2_with (first | (go_at_call 23;refine (HVA.out _ (Env.keep HE.out Qz)).mono ?_;rintro e w2 ⟨rfl,hb2⟩;(have hX2:Zi w2 w.heap.size fr till pat A cl.length ca B co.length cb S si.length cs us:=(by first | exact Qv.keep hX2 hb2 | exact Qv.keep (World.alloc_heap_new _ _) hb2);obtain⟨x0,x1,x2,x3,x4,x5,x6⟩:=hX2.facts)) | (go_at_call 120;(first | (refine (C1.out _ Qz).mono ?_;clear C1) | refine (C2.out _ Qz).mono ?_);rintro e w2 ⟨rfl,hb2⟩;(have hX2:Zi w2 w.heap.size fr till pat A cl.length ca B co.length cb S si.length cs us:=(by first | exact Qv.keep hX2 hb2 | exact Qv.keep (World.alloc_heap_new _ _) hb2);obtain⟨x0,x1,x2,x3,x4,x5,x6⟩:=hX2.facts)) | (go_at_call 123;refine (C3.out _ Qz).mono ?_;rintro e w2 ⟨rfl,hb2⟩));go_ret;exact⟨rfl,Qz⟩)
 have d1:decide (0≤fr)=true:=decide_eq_true t1
 by_cases t2:fr≤1099511627776
 rotate_left
 ·obtain rfl:V=false:=by rw[hV];simp[t2]
  have d2:decide (fr≤1099511627776)=false:=decide_eq_false t2
  clear hV
  (go_enter Tryz.func61,Tryz.ntmps61;go_wp2_with (first | (go_at_call 23;refine (HVA.out _ (Env.keep HE.out Qz)).mono ?_;rintro e w2 ⟨rfl,hb2⟩;(have hX2:Zi w2 w.heap.size fr till pat A cl.length ca B co.length cb S si.length cs us:=(by first | exact Qv.keep hX2 hb2 | exact Qv.keep (World.alloc_heap_new _ _) hb2);obtain⟨x0,x1,x2,x3,x4,x5,x6⟩:=hX2.facts)) | (go_at_call 120;(first | (refine (C1.out _ Qz).mono ?_;clear C1) | refine (C2.out _ Qz).mono ?_);rintro e w2 ⟨rfl,hb2⟩;(have hX2:Zi w2 w.heap.size fr till pat A cl.length ca B co.length cb S si.length cs us:=(by first | exact Qv.keep hX2 hb2 | exact Qv.keep (World.alloc_heap_new _ _) hb2);obtain⟨x0,x1,x2,x3,x4,x5,x6⟩:=hX2.facts)) | (go_at_call 123;refine (C3.out _ Qz).mono ?_;rintro e w2 ⟨rfl,hb2⟩));go_ret;exact⟨rfl,Qz⟩)
 have d2:decide (fr≤1099511627776)=true:=decide_eq_true t2
 by_cases t3:0≤till
 rotate_left
 ·obtain rfl:V=false:=by rw[hV];simp[t3]
  have d3:decide (0≤till)=false:=decide_eq_false t3
  clear hV
  (go_enter Tryz.func61,Tryz.ntmps61;go_wp2_with (first | (go_at_call 23;refine (HVA.out _ (Env.keep HE.out Qz)).mono ?_;rintro e w2 ⟨rfl,hb2⟩;(have hX2:Zi w2 w.heap.size fr till pat A cl.length ca B co.length cb S si.length cs us:=(by first | exact Qv.keep hX2 hb2 | exact Qv.keep (World.alloc_heap_new _ _) hb2);obtain⟨x0,x1,x2,x3,x4,x5,x6⟩:=hX2.facts)) | (go_at_call 120;(first | (refine (C1.out _ Qz).mono ?_;clear C1) | refine (C2.out _ Qz).mono ?_);rintro e w2 ⟨rfl,hb2⟩;(have hX2:Zi w2 w.heap.size fr till pat A cl.length ca B co.length cb S si.length cs us:=(by first | exact Qv.keep hX2 hb2 | exact Qv.keep (World.alloc_heap_new _ _) hb2);obtain⟨x0,x1,x2,x3,x4,x5,x6⟩:=hX2.facts)) | (go_at_call 123;refine (C3.out _ Qz).mono ?_;rintro e w2 ⟨rfl,hb2⟩));go_ret;exact⟨rfl,Qz⟩)
 have d3:decide (0≤till)=true:=decide_eq_true t3
 by_cases t4:till≤1099511627777
 rotate_left
 ·obtain rfl:V=false:=by rw[hV];simp[t4]
  have d4:decide (till≤1099511627777)=false:=decide_eq_false t4
  clear hV
  (go_enter Tryz.func61,Tryz.ntmps61;go_wp2_with (first | (go_at_call 23;refine (HVA.out _ (Env.keep HE.out Qz)).mono ?_;rintro e w2 ⟨rfl,hb2⟩;(have hX2:Zi w2 w.heap.size fr till pat A cl.length ca B co.length cb S si.length cs us:=(by first | exact Qv.keep hX2 hb2 | exact Qv.keep (World.alloc_heap_new _ _) hb2);obtain⟨x0,x1,x2,x3,x4,x5,x6⟩:=hX2.facts)) | (go_at_call 120;(first | (refine (C1.out _ Qz).mono ?_;clear C1) | refine (C2.out _ Qz).mono ?_);rintro e w2 ⟨rfl,hb2⟩;(have hX2:Zi w2 w.heap.size fr till pat A cl.length ca B co.length cb S si.length cs us:=(by first | exact Qv.keep hX2 hb2 | exact Qv.keep (World.alloc_heap_new _ _) hb2);obtain⟨x0,x1,x2,x3,x4,x5,x6⟩:=hX2.facts)) | (go_at_call 123;refine (C3.out _ Qz).mono ?_;rintro e w2 ⟨rfl,hb2⟩));go_ret;exact⟨rfl,Qz⟩)
 have d4:decide (till≤1099511627777)=true:=decide_eq_true t4
 by_cases t5:0≤us
 rotate_left
 ·obtain rfl:V=false:=by rw[hV];simp[t5]
  have d5:decide (0≤us)=false:=decide_eq_false t5
  clear hV
  (go_enter Tryz.func61,Tryz.ntmps61;go_wp2_with (first | (go_at_call 23;refine (HVA.out _ (Env.keep HE.out Qz)).mono ?_;rintro e w2 ⟨rfl,hb2⟩;(have hX2:Zi w2 w.heap.size fr till pat A cl.length ca B co.length cb S si.length cs us:=(by first | exact Qv.keep hX2 hb2 | exact Qv.keep (World.alloc_heap_new _ _) hb2);obtain⟨x0,x1,x2,x3,x4,x5,x6⟩:=hX2.facts)) | (go_at_call 120;(first | (refine (C1.out _ Qz).mono ?_;clear C1) | refine (C2.out _ Qz).mono ?_);rintro e w2 ⟨rfl,hb2⟩;(have hX2:Zi w2 w.heap.size fr till pat A cl.length ca B co.length cb S si.length cs us:=(by first | exact Qv.keep hX2 hb2 | exact Qv.keep (World.alloc_heap_new _ _) hb2);obtain⟨x0,x1,x2,x3,x4,x5,x6⟩:=hX2.facts)) | (go_at_call 123;refine (C3.out _ Qz).mono ?_;rintro e w2 ⟨rfl,hb2⟩));go_ret;exact⟨rfl,Qz⟩)
 have d5:decide (0≤us)=true:=decide_eq_true t5
 by_cases t6:us≤1073741824
 rotate_left
 ·obtain rfl:V=false:=by rw[hV];simp[t6]
  have d6:decide (us≤1073741824)=false:=decide_eq_false t6
  clear hV
  (go_enter Tryz.func61,Tryz.ntmps61;go_wp2_with (first | (go_at_call 23;refine (HVA.out _ (Env.keep HE.out Qz)).mono ?_;rintro e w2 ⟨rfl,hb2⟩;(have hX2:Zi w2 w.heap.size fr till pat A cl.length ca B co.length cb S si.length cs us:=(by first | exact Qv.keep hX2 hb2 | exact Qv.keep (World.alloc_heap_new _ _) hb2);obtain⟨x0,x1,x2,x3,x4,x5,x6⟩:=hX2.facts)) | (go_at_call 120;(first | (refine (C1.out _ Qz).mono ?_;clear C1) | refine (C2.out _ Qz).mono ?_);rintro e w2 ⟨rfl,hb2⟩;(have hX2:Zi w2 w.heap.size fr till pat A cl.length ca B co.length cb S si.length cs us:=(by first | exact Qv.keep hX2 hb2 | exact Qv.keep (World.alloc_heap_new _ _) hb2);obtain⟨x0,x1,x2,x3,x4,x5,x6⟩:=hX2.facts)) | (go_at_call 123;refine (C3.out _ Qz).mono ?_;rintro e w2 ⟨rfl,hb2⟩));go_ret;exact⟨rfl,Qz⟩)
 have d6:decide (us≤1073741824)=true:=decide_eq_true t6
 have hV2:V=((decide (pat.size=0)||b1)&&b2&&b3&&b4):=by rw[hV];simp[t1,t2,t3,t4,t5,t6]
 clear hV
 by_cases hs:pat.size=0
 ·obtain rfl:pat=⟨#[]⟩:=Qm (List.eq_nil_of_length_eq_zero (by rw[←Lib.size_eq];exact hs))
  clear hs
  cases b2
  ·obtain rfl:V=false:=by rw[hV2];simp
   clear hV2
   (go_enter Tryz.func61,Tryz.ntmps61;go_wp2_with (first | (go_at_call 120;(first | (refine (C1.out _ Qz).mono ?_;clear C1) | refine (C2.out _ Qz).mono ?_);rintro e w2 ⟨rfl,hb2⟩;(have hX2:Zi w2 w.heap.size fr till ⟨#[]⟩ A cl.length ca B co.length cb S si.length cs us:=(by first | exact Qv.keep hX2 hb2 | exact Qv.keep (World.alloc_heap_new _ _) hb2);obtain⟨x0,x1,x2,x3,x4,x5,x6⟩:=hX2.facts)) | (go_at_call 123;refine (C3.out _ Qz).mono ?_;rintro e w2 ⟨rfl,hb2⟩));go_ret;exact⟨rfl,Qz⟩)
  cases b3
  ·obtain rfl:V=false:=by rw[hV2];simp
   clear hV2
   (go_enter Tryz.func61,Tryz.ntmps61;go_wp2_with (first | (go_at_call 120;(first | (refine (C1.out _ Qz).mono ?_;clear C1) | refine (C2.out _ Qz).mono ?_);rintro e w2 ⟨rfl,hb2⟩;(have hX2:Zi w2 w.heap.size fr till ⟨#[]⟩ A cl.length ca B co.length cb S si.length cs us:=(by first | exact Qv.keep hX2 hb2 | exact Qv.keep (World.alloc_heap_new _ _) hb2);obtain⟨x0,x1,x2,x3,x4,x5,x6⟩:=hX2.facts)) | (go_at_call 123;refine (C3.out _ Qz).mono ?_;rintro e w2 ⟨rfl,hb2⟩));go_ret;exact⟨rfl,Qz⟩)
  obtain rfl:V=b4:=by rw[hV2];cases b1 <;> cases b4 <;> rfl
  clear hV2
  (go_enter Tryz.func61,Tryz.ntmps61;go_wp2_with (first | (go_at_call 120;(first | (refine (C1.out _ Qz).mono ?_;clear C1) | refine (C2.out _ Qz).mono ?_);rintro e w2 ⟨rfl,hb2⟩;(have hX2:Zi w2 w.heap.size fr till ⟨#[]⟩ A cl.length ca B co.length cb S si.length cs us:=(by first | exact Qv.keep hX2 hb2 | exact Qv.keep (World.alloc_heap_new _ _) hb2);obtain⟨x0,x1,x2,x3,x4,x5,x6⟩:=hX2.facts)) | (go_at_call 123;refine (C3.out _ Qz).mono ?_;rintro e w2 ⟨rfl,hb2⟩));go_ret;exact⟨rfl,Qz⟩)
 ·have hn:¬ pat.toList=[]:=fun e=>hs (by rw[Lib.toList_data]at e;rw[Lib.size_eq,e];rfl)
  have hn2:(pat.toList == [])=false:=by simpa using hn
  rw[decide_eq_false hs,Bool.false_or]at hV2
  cases b1
  ·obtain rfl:V=false:=by rw[hV2];simp
   clear hV2
   (go_enter Tryz.func61,Tryz.ntmps61;go_wp2_with (first | (go_at_call 23;refine (HVA.out _ (Env.keep HE.out Qz)).mono ?_;rintro e w2 ⟨rfl,hb2⟩;(have hX2:Zi w2 w.heap.size fr till pat A cl.length ca B co.length cb S si.length cs us:=(by first | exact Qv.keep hX2 hb2 | exact Qv.keep (World.alloc_heap_new _ _) hb2);obtain⟨x0,x1,x2,x3,x4,x5,x6⟩:=hX2.facts)) | (go_at_call 120;(first | (refine (C1.out _ Qz).mono ?_;clear C1) | refine (C2.out _ Qz).mono ?_);rintro e w2 ⟨rfl,hb2⟩;(have hX2:Zi w2 w.heap.size fr till pat A cl.length ca B co.length cb S si.length cs us:=(by first | exact Qv.keep hX2 hb2 | exact Qv.keep (World.alloc_heap_new _ _) hb2);obtain⟨x0,x1,x2,x3,x4,x5,x6⟩:=hX2.facts)) | (go_at_call 123;refine (C3.out _ Qz).mono ?_;rintro e w2 ⟨rfl,hb2⟩));go_ret;exact⟨rfl,Qz⟩)
  cases b2
  ·obtain rfl:V=false:=by rw[hV2];simp
   clear hV2
   (go_enter Tryz.func61,Tryz.ntmps61;go_wp2_with (first | (go_at_call 23;refine (HVA.out _ (Env.keep HE.out Qz)).mono ?_;rintro e w2 ⟨rfl,hb2⟩;(have hX2:Zi w2 w.heap.size fr till pat A cl.length ca B co.length cb S si.length cs us:=(by first | exact Qv.keep hX2 hb2 | exact Qv.keep (World.alloc_heap_new _ _) hb2);obtain⟨x0,x1,x2,x3,x4,x5,x6⟩:=hX2.facts)) | (go_at_call 120;(first | (refine (C1.out _ Qz).mono ?_;clear C1) | refine (C2.out _ Qz).mono ?_);rintro e w2 ⟨rfl,hb2⟩;(have hX2:Zi w2 w.heap.size fr till pat A cl.length ca B co.length cb S si.length cs us:=(by first | exact Qv.keep hX2 hb2 | exact Qv.keep (World.alloc_heap_new _ _) hb2);obtain⟨x0,x1,x2,x3,x4,x5,x6⟩:=hX2.facts)) | (go_at_call 123;refine (C3.out _ Qz).mono ?_;rintro e w2 ⟨rfl,hb2⟩));go_ret;exact⟨rfl,Qz⟩)
  cases b3
  ·obtain rfl:V=false:=by rw[hV2];simp
   clear hV2
   (go_enter Tryz.func61,Tryz.ntmps61;go_wp2_with (first | (go_at_call 23;refine (HVA.out _ (Env.keep HE.out Qz)).mono ?_;rintro e w2 ⟨rfl,hb2⟩;(have hX2:Zi w2 w.heap.size fr till pat A cl.length ca B co.length cb S si.length cs us:=(by first | exact Qv.keep hX2 hb2 | exact Qv.keep (World.alloc_heap_new _ _) hb2);obtain⟨x0,x1,x2,x3,x4,x5,x6⟩:=hX2.facts)) | (go_at_call 120;(first | (refine (C1.out _ Qz).mono ?_;clear C1) | refine (C2.out _ Qz).mono ?_);rintro e w2 ⟨rfl,hb2⟩;(have hX2:Zi w2 w.heap.size fr till pat A cl.length ca B co.length cb S si.length cs us:=(by first | exact Qv.keep hX2 hb2 | exact Qv.keep (World.alloc_heap_new _ _) hb2);obtain⟨x0,x1,x2,x3,x4,x5,x6⟩:=hX2.facts)) | (go_at_call 123;refine (C3.out _ Qz).mono ?_;rintro e w2 ⟨rfl,hb2⟩));go_ret;exact⟨rfl,Qz⟩)
  obtain rfl:V=b4:=by rw[hV2];cases b4 <;> rfl
  clear hV2
  (go_enter Tryz.func61,Tryz.ntmps61;go_wp2_with (first | (go_at_call 23;refine (HVA.out _ (Env.keep HE.out Qz)).mono ?_;rintro e w2 ⟨rfl,hb2⟩;(have hX2:Zi w2 w.heap.size fr till pat A cl.length ca B co.length cb S si.length cs us:=(by first | exact Qv.keep hX2 hb2 | exact Qv.keep (World.alloc_heap_new _ _) hb2);obtain⟨x0,x1,x2,x3,x4,x5,x6⟩:=hX2.facts)) | (go_at_call 120;(first | (refine (C1.out _ Qz).mono ?_;clear C1) | refine (C2.out _ Qz).mono ?_);rintro e w2 ⟨rfl,hb2⟩;(have hX2:Zi w2 w.heap.size fr till pat A cl.length ca B co.length cb S si.length cs us:=(by first | exact Qv.keep hX2 hb2 | exact Qv.keep (World.alloc_heap_new _ _) hb2);obtain⟨x0,x1,x2,x3,x4,x5,x6⟩:=hX2.facts)) | (go_at_call 123;refine (C3.out _ Qz).mono ?_;rintro e w2 ⟨rfl,hb2⟩));go_ret;exact⟨rfl,Qz⟩)
def coversV:Option Z7→Option Z7→Value
 | some x,some y=>.tuple #[.bool (coverB x y),.string (if coverB x y then ⟨#[]⟩ else coverW x y),.int .i64 0]
 | _,_=>.tuple #[.bool false,.string ⟨#[]⟩,.int .i64 1]
theorem Reads.put {w:World} {g n k:Nat} {vs:List Value} (h:Reads w 1 (some ⟨g,0,none⟩) n vs) (hk:k<n) (v:Value):Reads (w.setCell ⟨g,0+k,none⟩ v) 1 (some ⟨g,0,none⟩) n (vs.set k v):=by
 refine⟨by simpa using h.1,fun hn=>⟨g,0,rfl,fun j u hu=>?_⟩⟩
 obtain⟨b,o,he,hc⟩:=h.2 hn
 injection he with he;injection he with h1 h2 _;subst h1;subst h2
 by_cases e:k=j
 ·subst e
  have hl:k<vs.length:=by have:=h.1;omega
  rw[List.getElem?_set_self hl]at hu
  injection hu with hu;subst hu
  exact World.cell?_setCell_same w _ v (hc k _ (List.getElem?_eq_getElem hl))
 ·rw[List.getElem?_set_ne e]at hu
  exact (World.cell?_setCell_other w _ ⟨g,0+j,none⟩ v (by intro h;injection h with _ h _;omega)).trans (hc j u hu)
theorem s1:canonV (⟨#[65,99,109,101,47,78,101,119,115,47,46,47,50,48,50,54,47,46,46,47,97,46,72,84,77,76,47,63,98,61,50,38,97,61,49]⟩:ByteArray)=.tuple #[.string (⟨#[97,99,109,101,47,110,101,119,115,47,97,46,104,116,109,108,63,97,61,49,38,98,61,50]⟩:ByteArray),.int .i64 0]:=by kernel_rfl
theorem s2:Zk (⟨#[97,99,109,101,47,110,101,119,115,47,42,42]⟩:ByteArray) (⟨#[97,99,109,101,47,110,101,119,115]⟩:ByteArray)=true:=by kernel_rfl
theorem s3:Zk (⟨#[97,99,109,101,47,42,47,42,46,104,116,109,108]⟩:ByteArray) (⟨#[97,99,109,101,47,110,101,119,115,47,97,46,104,116,109,108]⟩:ByteArray)=true:=by kernel_rfl
theorem s4:Zk (⟨#[97,99,109,101,47,42]⟩:ByteArray) (⟨#[97,99,109,101,47,97,47,98]⟩:ByteArray)=false:=by kernel_rfl
theorem s5:coversV (Qx (⟨#[97,99,109,101,47,42,42]⟩:ByteArray)) (Qx (⟨#[97,99,109,101,47,42,46,99,115,115]⟩:ByteArray))=.tuple #[.bool true,.string ⟨#[]⟩,.int .i64 0]:=by kernel_rfl
theorem s6:coversV (Qx (⟨#[97,99,109,101,47,42,46,99,115,115]⟩:ByteArray)) (Qx (⟨#[97,99,109,101,47,42]⟩:ByteArray))=.tuple #[.bool false,.string (⟨#[97,99,109,101,47,97]⟩:ByteArray),.int .i64 0]:=by kernel_rfl
theorem sortL_of {xs ys:List (List UInt8)} (hp:ys.Perm xs) (hs:ys.Pairwise (·≤·)):sortL xs=ys:=by
 have tr:∀ a b c:List UInt8,decide (a≤b)=true→decide (b≤c)=true→decide (a≤c)=true:=fun a b c h1 h2=>by simp only[decide_eq_true_eq] at *;exact List.le_trans h1 h2
 have tot:∀ a b:List UInt8,(decide (a≤b)||decide (b≤a))=true:=fun a b=>by simp only[Bool.or_eq_true,decide_eq_true_eq];exact List.le_total a b
 refine List.Perm.eq_of_pairwise (le:=fun a b=>decide (a≤b)=true) (fun a b _ _ h1 h2=>?_) (List.pairwise_mergeSort tr tot _) (hs.imp fun h=>decide_eq_true h) ((List.mergeSort_perm _ _).trans hp.symm)
 simp only[decide_eq_true_eq]at h1 h2
 exact List.le_antisymm h1 h2
theorem t10:Ur [(⟨#[98]⟩:ByteArray),(⟨#[97]⟩:ByteArray),(⟨#[98]⟩:ByteArray)]=[97,44,98]:=by
 have h:sortL (lists [(⟨#[98]⟩:ByteArray),(⟨#[97]⟩:ByteArray),(⟨#[98]⟩:ByteArray)])=[[97],[98],[98]]:=sortL_of (by decide) (by decide)
 unfold Ur
 rw[h]
 show Lib.join (Lib.compact [[97],[98],[98]]) [44]=[97,44,98]
 kernel_rfl
theorem split_comma:∀ (x:BL) (l:List BL),44 ∉ x→(∀ y∈l,44 ∉ y)→Zz 44 (x++Lib.joinTail [44] l)=x :: l
 | x,[],hx,_=>by simp[Lib.joinTail];exact Y2 x 44 hx
 | x,y :: l,hx,hl=>by
  have e:Lib.joinTail [44] (y :: l)=44 :: (y++Lib.joinTail [44] l):=by simp[Lib.joinTail]
  rw[e,split_hit x _ 44 hx,split_comma y l (hl y (by simp)) (fun z hz=>hl z (by simp[hz]))]
theorem split_joined (zs:List BL) (h0:zs ≠ []) (h:∀ z∈zs,44 ∉ z):Zz 44 (Lib.join zs [44])=zs:=by
 cases zs with
 | nil=>exact absurd rfl h0
 | cons x l=>rw[Lib.join_cons];exact split_comma x l (h x (by simp)) (fun z hz=>h z (by simp[hz]))
theorem tagsL_compact (zs:List BL) (h:zs.Pairwise (· < ·)):Lib.compact (sortL zs)=zs:=by
 have hs:sortL zs=zs:=sortL_of (List.Perm.refl _) (h.imp fun h=>List.le_of_lt h)
 rw[hs]
 obtain⟨h1,h2⟩:=Jr zs (h.imp fun h=>List.le_of_lt h)
 exact uniq_sorted _ _ h1 h h2
theorem tagsR_ok {ps:List ByteArray} {T:ByteArray} (h:Ze ps=(T,0)):ps.any (fun p=>!Qy p)=false∧(Ur ps).length≤4096∧T=Zd (Ur ps):=by
 unfold Ze at h
 split at h
 ·cases h
 ·rename_i h1
  split at h
  ·cases h
  ·rename_i h2
   refine⟨by simpa using h1,by omega,?_⟩
   cases h;rfl
theorem splitR_tags {ps:List ByteArray} {T:ByteArray} (h:Ze ps=(T,0)):splitR T=((Lib.compact (sortL (lists ps))).map Zd,0):=by
 obtain⟨h1,h2,rfl⟩:=tagsR_ok h
 have tr:∀ a b c:BL,decide (a≤b)=true→decide (b≤c)=true→decide (a≤c)=true:=fun a b c h1 h2=>by simp only[decide_eq_true_eq] at *;exact List.le_trans h1 h2
 have tot:∀ a b:BL,(decide (a≤b)||decide (b≤a))=true:=fun a b=>by simp only[Bool.or_eq_true,decide_eq_true_eq];exact List.le_total a b
 obtain⟨h3,h4⟩:=Jr (sortL (lists ps)) ((List.pairwise_mergeSort tr tot _).imp fun h=>by simpa using h)
 have hm:∀ a∈Lib.compact (sortL (lists ps)),∃ p∈ps,Qy p=true∧p.data.toList=a:=by
  intro a ha
  rw[h4,sortL,(List.mergeSort_perm _ _).mem_iff]at ha
  obtain⟨p,hp,rfl⟩:=List.mem_map.1 ha
  have:=List.any_eq_false.1 h1 p hp
  exact⟨p,hp,by simpa using this,rfl⟩
 have hT:Ur ps=Lib.join (Lib.compact (sortL (lists ps))) [44]:=rfl
 rw[hT]at h2 ⊢
 generalize Lib.compact (sortL (lists ps))=zs at *
 have hdata:(Zd (Lib.join zs [44])).data.toList=Lib.join zs [44]:=by simp[Zd]
 cases zs with
 | nil =>
  have:(Zd (Lib.join ([]:List BL) [44])).toList=[]:=by rw[Lib.toList_data,hdata];rfl
  unfold splitR
  rw[this];rfl
 | cons x l =>
  have hne:(Zd (Lib.join (x :: l) [44])).toList.isEmpty=false:=by
   rw[Lib.toList_data,hdata,Lib.join_cons]
   obtain⟨p,_,hp,rfl⟩:=hm x (by simp)
   cases hx:p.data.toList with
   | nil =>
    have:p=⟨#[]⟩:=Qm (by rw[hx])
    rw[this]at hp
    exact absurd hp (by simp[Qy,Qg,Lib.toList_data])
   | cons a r=>rfl
  have hsp:splitB 44 (Zd (Lib.join (x :: l) [44]))=(x :: l).map Zd:=by
   show (Zz 44 (Zd (Lib.join (x :: l) [44])).data.toList).map Zd=_
   rw[hdata,split_joined (x :: l) (by simp) (fun z hz=>by
    obtain⟨p,_,hp,rfl⟩:=hm z hz
    exact (X5 (Xz hp)).2.2.2.2.2)]
  have htg:Ze ((x :: l).map Zd)=(Zd (Lib.join (x :: l) [44]),0):=by
   have e:Ur ((x :: l).map Zd)=Lib.join (x :: l) [44]:=by
    have:lists ((x :: l).map Zd)=x :: l:=toB_back _
    unfold Ur
    rw[this,tagsL_compact _ h3]
   unfold Ze
   rw[if_neg,e,if_neg (by omega)]
   simp only[List.any_map,List.any_eq_true,not_exists]
   rintro z ⟨hz,hz2⟩
   obtain⟨p,_,hp,rfl⟩:=hm z hz
   have:Zd p.data.toList=p:=Qm (by simp[Zd])
   simp[this,hp]at hz2
  unfold splitR
  rw[hne,if_neg (by decide),hsp,htg,if_pos ⟨rfl,by simp⟩]
theorem hasTag_tags {ps:List ByteArray} {T:ByteArray} (h:Ze ps=(T,0)) (p:ByteArray) (hp:p∈ps):YQ T p=true:=by
 have tr:∀ a b c:BL,decide (a≤b)=true→decide (b≤c)=true→decide (a≤c)=true:=fun a b c h1 h2=>by simp only[decide_eq_true_eq] at *;exact List.le_trans h1 h2
 have tot:∀ a b:BL,(decide (a≤b)||decide (b≤a))=true:=fun a b=>by simp only[Bool.or_eq_true,decide_eq_true_eq];exact List.le_total a b
 obtain⟨h3,h4⟩:=Jr (sortL (lists ps)) ((List.pairwise_mergeSort tr tot _).imp fun h=>by simpa using h)
 unfold YQ
 rw[splitR_tags h,Lib.containsS_iff]
 refine List.mem_map.2 ⟨p.data.toList,?_,Qm (by simp[Zd])⟩
 rw[h4,sortL,(List.mergeSort_perm _ _).mem_iff]
 exact List.mem_map_of_mem hp
def RListPost (r:List ByteArray × Int) (w:World) (e:Ending) (w':World):Prop:=Below w.heap.size w w'∧∃ A c,e=.returned (.agg #[.slice A r.1.length c,.int .i64 r.2])∧Reads w' 1 A r.1.length (r.1.map .string)
theorem RListPost.none_ {w w':World} {er:Int} (hb:Below w.heap.size w w'):RListPost ([],er) w (.returned (.agg #[.slice none 0 0,.int .i64 er])) w':=⟨hb,none,0,rfl,Reads.nil_ _ _ _⟩
end Go.Proofs.YticlbkficolocaaGreatDoor
