/- The iterators over maps, and the sort of what they yield, at this translation: written by the kit's own tools (lay-iter, lay-plain). -/
import Derived.Shelf.SlIter.Nil
import Derived.Shelf.SortM.Plain
import Derived.Shelf.SortM.SortNone
import Derived.Test.YticlbkficolocaaGreatDoorProg
import Derived.OpenShut
import GoSem.PinnedTables
set_option maxHeartbeats 1000000
namespace Go.Proofs
open Go.Shelf
def Tryz.keys185_ren:Go.Shelf.Ren:=⟨fun | 7=>185 | 10=>208 | n=>n,fun | 23=>205 | 26=>9 | 3=>9 | 28=>165 | 0=>0 | 27=>164 | 33=>61 | 4=>4 | n=>n,fun | n=>n⟩
theorem Tryz.keys185:Go.Proofs.SlLaysZ.n7 Tryz.prog Tryz.keys185_ren:={
 mixed:=by kernel_rfl
 f7:=⟨Tryz.f185.name,by decide,Tryz.func185.trans (congrArg some (by kernel_rfl))⟩
 f10:=⟨Tryz.f208.name,by decide,Tryz.func208.trans (congrArg some (by kernel_rfl))⟩
 t0:=Tryz.underlying0
 a0:=Tryz.isAgg0
 z0:=Tryz.sizeOf0
 v0:=Tryz.zeroValue0
 t4:=Tryz.underlying4
 a4:=Tryz.isAgg4
 z4:=Tryz.sizeOf4
 v4:=Tryz.zeroValue4
 t23:=Tryz.underlying205
 a23:=Tryz.isAgg205
 z23:=Tryz.sizeOf205
 v23:=Tryz.zeroValue205
 t26:=Tryz.underlying9
 a26:=Tryz.isAgg9
 z26:=Tryz.sizeOf9
 v26:=Tryz.zeroValue9
 t27:=Tryz.underlying164
 a27:=Tryz.isAgg164
 z27:=Tryz.sizeOf164
 v27:=Tryz.zeroValue164
 t28:=Tryz.underlying165
 a28:=Tryz.isAgg165
 z28:=Tryz.sizeOf165
 v28:=Tryz.zeroValue165
 t33:=Tryz.underlying61
 a33:=Tryz.isAgg61
 z33:=Tryz.sizeOf61
 v33:=Tryz.zeroValue61 }
def Tryz.sorted117_ren:Go.Shelf.Ren:=⟨fun | 6=>117 | 8=>171 | 9=>172 | 11=>198 | 13=>200 | 12=>199 | 23=>224 | 24=>225 | 14=>215 | 15=>216 | 16=>217 | 17=>218 | 18=>219 | 19=>220 | 20=>221 | 21=>222 | 22=>223 | 25=>232 | 26=>233 | 27=>234 | 28=>235 | 29=>236 | 30=>237 | 31=>242 | n=>n,fun | 26=>9 | 28=>165 | 24=>22 | 0=>0 | 3=>3 | 37=>211 | 48=>224 | 50=>239 | 4=>4 | 40=>231 | 39=>230 | 45=>235 | 5=>5 | 9=>9 | 51=>245 | 55=>249 | 57=>258 | 58=>259 | 33=>61 | n=>n,fun | n=>n⟩
theorem Tryz.sorted117:Go.Proofs.SlLaysZ.n6 Tryz.prog Tryz.sorted117_ren:={
 mixed:=by kernel_rfl
 f6:=⟨Tryz.f117.name,by decide,Tryz.func117.trans (congrArg some (by kernel_rfl))⟩
 f8:=⟨Tryz.f171.name,by decide,Tryz.func171.trans (congrArg some (by kernel_rfl))⟩
 f11:=⟨Tryz.f198.name,by decide,Tryz.func198.trans (congrArg some (by kernel_rfl))⟩
 t0:=Tryz.underlying0
 a0:=Tryz.isAgg0
 z0:=Tryz.sizeOf0
 v0:=Tryz.zeroValue0
 t24:=Tryz.underlying22
 a24:=Tryz.isAgg22
 z24:=Tryz.sizeOf22
 v24:=Tryz.zeroValue22
 t26:=Tryz.underlying9
 a26:=Tryz.isAgg9
 z26:=Tryz.sizeOf9
 v26:=Tryz.zeroValue9
 t28:=Tryz.underlying165
 a28:=Tryz.isAgg165
 z28:=Tryz.sizeOf165
 v28:=Tryz.zeroValue165
 i26:=by kernel_rfl }
def Tryz.sort172_ren:Go.Shelf.Ren:=⟨fun | 6=>172 | 8=>200 | 9=>199 | 19=>224 | 20=>225 | 21=>215 | 22=>216 | 23=>217 | 24=>218 | 25=>219 | 26=>220 | 27=>221 | 28=>222 | 29=>223 | 36=>232 | 31=>233 | 32=>234 | 37=>235 | 38=>236 | 39=>237 | 41=>242 | n=>n,fun | 27=>22 | 29=>9 | 3=>3 | 32=>211 | 26=>22 | 0=>0 | 44=>224 | 46=>239 | 4=>4 | 36=>231 | 35=>230 | 41=>235 | 5=>5 | 9=>9 | 53=>245 | 57=>249 | 63=>258 | 64=>259 | n=>n,fun | n=>n⟩
theorem Tryz.sort172:Go.Proofs.SlLaysM.n6 Tryz.prog Tryz.sort172_ren:={
 mixed:=by kernel_rfl
 f6:=⟨Tryz.f172.name,by decide,Tryz.func172.trans (congrArg some (by kernel_rfl))⟩
 f8:=Tryz.func200.trans (congrArg some (by kernel_rfl))
 f9:=⟨Tryz.f199.name,by decide,Tryz.func199.trans (congrArg some (by kernel_rfl))⟩
 f19:=Tryz.func224.trans (congrArg some (by kernel_rfl))
 f20:=Tryz.func225.trans (congrArg some (by kernel_rfl))
 f21:=⟨Tryz.f215.name,by decide,Tryz.func215.trans (congrArg some (by kernel_rfl))⟩
 f22:=⟨Tryz.f216.name,by decide,Tryz.func216.trans (congrArg some (by kernel_rfl))⟩
 f23:=⟨Tryz.f217.name,by decide,Tryz.func217.trans (congrArg some (by kernel_rfl))⟩
 f24:=⟨Tryz.f218.name,by decide,Tryz.func218.trans (congrArg some (by kernel_rfl))⟩
 f25:=⟨Tryz.f219.name,by decide,Tryz.func219.trans (congrArg some (by kernel_rfl))⟩
 f26:=⟨Tryz.f220.name,by decide,Tryz.func220.trans (congrArg some (by kernel_rfl))⟩
 f27:=⟨Tryz.f221.name,by decide,Tryz.func221.trans (congrArg some (by kernel_rfl))⟩
 f28:=⟨Tryz.f222.name,by decide,Tryz.func222.trans (congrArg some (by kernel_rfl))⟩
 f29:=⟨Tryz.f223.name,by decide,Tryz.func223.trans (congrArg some (by kernel_rfl))⟩
 f31:=Tryz.func233.trans (congrArg some (by kernel_rfl))
 f32:=Tryz.func234.trans (congrArg some (by kernel_rfl))
 f36:=⟨Tryz.f232.name,by decide,Tryz.func232.trans (congrArg some (by kernel_rfl))⟩
 f37:=⟨Tryz.f235.name,by decide,Tryz.func235.trans (congrArg some (by kernel_rfl))⟩
 f38:=⟨Tryz.f236.name,by decide,Tryz.func236.trans (congrArg some (by kernel_rfl))⟩
 f39:=⟨Tryz.f237.name,by decide,Tryz.func237.trans (congrArg some (by kernel_rfl))⟩
 f41:=⟨Tryz.f242.name,by decide,Tryz.func242.trans (congrArg some (by kernel_rfl))⟩
 t0:=Tryz.underlying0
 a0:=Tryz.isAgg0
 z0:=Tryz.sizeOf0
 v0:=Tryz.zeroValue0
 t3:=Tryz.underlying3
 a3:=Tryz.isAgg3
 z3:=Tryz.sizeOf3
 v3:=Tryz.zeroValue3
 t4:=Tryz.underlying4
 a4:=Tryz.isAgg4
 z4:=Tryz.sizeOf4
 v4:=Tryz.zeroValue4
 t5:=Tryz.underlying5
 a5:=Tryz.isAgg5
 z5:=Tryz.sizeOf5
 v5:=Tryz.zeroValue5
 t9:=Tryz.underlying9
 a9:=Tryz.isAgg9
 z9:=Tryz.sizeOf9
 v9:=Tryz.zeroValue9
 t26:=Tryz.underlying22
 a26:=Tryz.isAgg22
 z26:=Tryz.sizeOf22
 v26:=Tryz.zeroValue22
 t27:=Tryz.underlying22
 a27:=Tryz.isAgg22
 z27:=Tryz.sizeOf22
 v27:=Tryz.zeroValue22
 t29:=Tryz.underlying9
 a29:=Tryz.isAgg9
 z29:=Tryz.sizeOf9
 v29:=Tryz.zeroValue9
 t32:=Tryz.underlying211
 a32:=Tryz.isAgg211
 z32:=Tryz.sizeOf211
 v32:=Tryz.zeroValue211
 t35:=Tryz.underlying230
 a35:=Tryz.isAgg230
 z35:=Tryz.sizeOf230
 v35:=Tryz.zeroValue230
 t36:=Tryz.underlying231
 a36:=Tryz.isAgg231
 z36:=Tryz.sizeOf231
 v36:=Tryz.zeroValue231
 t41:=Tryz.underlying235
 a41:=Tryz.isAgg235
 z41:=Tryz.sizeOf235
 v41:=Tryz.zeroValue235
 t44:=Tryz.underlying224
 a44:=Tryz.isAgg224
 z44:=Tryz.sizeOf224
 v44:=Tryz.zeroValue224
 t46:=Tryz.underlying239
 a46:=Tryz.isAgg239
 z46:=Tryz.sizeOf239
 v46:=Tryz.zeroValue239
 t53:=Tryz.underlying245
 a53:=Tryz.isAgg245
 z53:=Tryz.sizeOf245
 v53:=Tryz.zeroValue245
 t57:=Tryz.underlying249
 a57:=Tryz.isAgg249
 z57:=Tryz.sizeOf249
 v57:=Tryz.zeroValue249
 t63:=Tryz.underlying258
 a63:=Tryz.isAgg258
 z63:=Tryz.sizeOf258
 v63:=Tryz.zeroValue258
 t64:=Tryz.underlying259
 a64:=Tryz.isAgg259
 z64:=Tryz.sizeOf259
 v64:=Tryz.zeroValue259 }
open Go.RowKit Go.Maps Go.Sort Go.Shelf
theorem Tryz.sorts117 (m:Nat):AnyZ.SortsIn Tryz.prog Tryz.sorted117_ren Fence.wide m :=
 ⟨fun blk off cap ss W hH hblk hsz=>callsIn_wide.2 (AnyM.slices_Sort_string Tryz.sort172 blk off cap ss W hH hblk hsz),
 fun p cap W=>callsIn_wide.2 (AnyM.slices_Sort_string_none Tryz.sort172 p cap W)⟩
theorem Tryz.maps_Keys_185 (mb:Option Nat) (W:World):CallsIn Fence.wide 5 Tryz.prog 185 #[.map mb] W fun e w'=>e=.returned (.func (.func 208) #[] #[.pointer (some ⟨W.heap.size,0,none⟩)])∧w'=W.alloc (.cells #[.map mb] 205) :=
 AnyZ.keys_in Tryz.keys185 Fence.wide 5 trivial rfl mb W
theorem Tryz.slices_Sorted_keys_117_185 {H:Type} (b nn:Nat) (D0:DataW H) (R:Value→Option (DataW H × List MemPlace)) (w:World) (hown:w.ownsMap Tryz.prog 9 R b nn D0) (hmax:Maps.size D0≤maxLen) (hbytes:Maps.size D0*16≤140737488355328) :
  CallsIn Fence.wide 5 Tryz.prog 117 #[.func (.func 208) #[] #[.pointer (some ⟨w.heap.size,0,none⟩)]] (w.alloc (.cells #[.map (some b)] 205)) fun e w'=>∃ (v:Value) (ss:List (List UInt8)),e=.returned v∧ss.Perm (strKeys D0) ∧
   w'.ownsRow (w.alloc (.cells #[.map (some b)] 205)).heap.size 9 1 v ss.length ((ss.mergeSort (fun x y=>decide (x≤y))).map encStr)∧(v=.slice none 0 0↔ss=[])∧Below (w.alloc (.cells #[.map (some b)] 205)).heap.size (w.alloc (.cells #[.map (some b)] 205)) w':=by
 have hbl:=hown.lt
 have hseq:SeqGives Fence.wide 2 Tryz.prog 208 #[.pointer (some ⟨w.heap.size,0,none⟩)] encStr (fun ss=>ss.Perm (strKeys D0)) (Maps.size D0) (w.alloc (.cells #[.map (some b)] 205)) :=
  AnyZ.keys_gives (ρ:=Tryz.keys185_ren) { Tryz.keys185 with } Fence.wide _ trivial rfl (by omega) w.heap.size b nn D0 _ (by simp) (by simp) (by
   obtain⟨es,clock,hb,Ft,hs,hD⟩:=hown
   exact⟨es,clock,(Below.heap_alloc _ _ b hbl).trans hb,Ft,hs,hD⟩)
 exact AnyZ.sorted_in Tryz.sorted117 Fence.wide 5 trivial trivial trivial trivial rfl (by omega) (Tryz.sorts117 _) (enters_of Tryz.func172 (by kernel_rfl) rfl) 208 #[.pointer (some ⟨w.heap.size,0,none⟩)] trivial (enters_of Tryz.func208 (by kernel_rfl) rfl) _ _ hmax hbytes _ hseq
end Go.Proofs
namespace Go.Proofs.YticlbkficolocaaGreatDoor
open Go.Maps Go.Sort
set_option linter.unusedVariables false
def insL:List (List UInt8 × List UInt8)→List UInt8 × List UInt8→List (List UInt8 × List UInt8)
 | [],p=>[p]
 | q :: r,p=>if p.1=q.1 then p :: r else if p.1<q.1 then p :: q :: r else q :: insL r p
def JQ (qs:List (List UInt8 × List UInt8)):List (List UInt8 × List UInt8):=qs.foldl insL []
def WU (l:List (List UInt8 × List UInt8)):Prop:=l.Pairwise fun a b=>a.1<b.1
theorem lt_tri (a b:List UInt8) (h1:a≠b) (h2:¬ a<b):b<a:=by
 rcases Decidable.em (b<a) with h | h
 ·exact h
 ·exact absurd (List.le_antisymm (List.not_lt.1 h) (List.not_lt.1 h2)) h1
theorem Wq (p:List UInt8 × List UInt8):∀ (l:List (List UInt8 × List UInt8)),WU l→∀ x,x∈insL l p↔x=p∨(x∈l∧x.1≠p.1)
 | [],_,x=>by simp[insL]
 | q :: r,h,x=>by
  have hr:=List.pairwise_cons.1 h
  unfold insL
  by_cases e:p.1=q.1
  ·rw[if_pos e]
   simp only[List.mem_cons]
   constructor
   ·rintro (h1 | h1)
    ·exact .inl h1
    ·exact .inr ⟨.inr h1,fun e2=>List.lt_irrefl _ (by have:=hr.1 x h1;rw[e2,e]at this;exact this)⟩
   ·rintro (h1 | ⟨h1 | h1,h2⟩)
    ·exact .inl h1
    ·subst h1;exact absurd e.symm h2
    ·exact .inr h1
  ·rw[if_neg e]
   by_cases e2:p.1<q.1
   ·rw[if_pos e2]
    simp only[List.mem_cons]
    constructor
    ·rintro (h1 | h1 | h1)
     ·exact .inl h1
     ·subst h1;exact .inr ⟨.inl rfl,fun h=>e h.symm⟩
     ·exact .inr ⟨.inr h1,fun h=>List.lt_irrefl _ (by have:=List.lt_trans e2 (hr.1 x h1);rw[h]at this;exact this)⟩
    ·rintro (h1 | ⟨h1 | h1,_⟩)
     ·exact .inl h1
     ·exact .inr (.inl h1)
     ·exact .inr (.inr h1)
   ·rw[if_neg e2,List.mem_cons,Wq p r hr.2 x,List.mem_cons]
    constructor
    ·rintro (h1 | h1 | ⟨h1,h2⟩)
     ·subst h1;exact .inr ⟨.inl rfl,fun h=>e h.symm⟩
     ·exact .inl h1
     ·exact .inr ⟨.inr h1,h2⟩
    ·rintro (h1 | ⟨h1 | h1,h2⟩)
     ·exact .inr (.inl h1)
     ·exact .inl h1
     ·exact .inr (.inr ⟨h1,h2⟩)
theorem sorted_insL (p:List UInt8 × List UInt8):∀ (l:List (List UInt8 × List UInt8)),WU l→WU (insL l p)
 | [],_=>List.pairwise_singleton _ _
 | q :: r,h=>by
  have hr:=List.pairwise_cons.1 h
  unfold insL
  by_cases e:p.1=q.1
  ·rw[if_pos e]
   exact List.pairwise_cons.2 ⟨fun x hx=>e▸hr.1 x hx,hr.2⟩
  ·rw[if_neg e]
   by_cases e2:p.1<q.1
   ·rw[if_pos e2]
    refine List.pairwise_cons.2 ⟨fun x hx=>?_,h⟩
    rcases List.mem_cons.1 hx with rfl | hx
    ·exact e2
    ·exact List.lt_trans e2 (hr.1 x hx)
   ·rw[if_neg e2]
    refine List.pairwise_cons.2 ⟨fun x hx=>?_,sorted_insL p r hr.2⟩
    rcases (Wq p r hr.2 x).1 hx with rfl | ⟨hx,_⟩
    ·exact lt_tri _ _ e e2
    ·exact hr.1 x hx
def mapD (qs:List (List UInt8 × List UInt8)):DataW Unit:=qs.foldl (fun D q=>D.put (.string q.1) (.lit (.string q.2))) (.map [])
def Good (D:DataW Unit) (l:List (List UInt8 × List UInt8)):Prop :=
 Tidy D∧(∃ es,D=.map es∧∀ p∈es,∃ x,p.1=.string x)∧WU l∧(∀ x,(∃ v,(x,v)∈l)↔has D (.string x)=true)∧∀ k v,(k,v)∈l→∀ z,D.atKey (.string k) z=.lit (.string v)
theorem good_put {D:DataW Unit} {l:List (List UInt8 × List UInt8)} (h:Good D l) (k v:List UInt8):Good (D.put (.string k) (.lit (.string v))) (insL l (k,v)):=by
 obtain⟨h1,⟨es,rfl,he⟩,h3,h4,h5⟩:=h
 have hk:WideAt.IsKeyLit (.string k):=trivial
 refine⟨h1.put hk _,⟨_,rfl,?_⟩,sorted_insL _ _ h3,fun x=>?_,fun k' v' hm z=>?_⟩
 ·intro p hp
  rcases List.mem_cons.1 ((WideShapes.insert_perm _ _).mem_iff.1 hp) with rfl | hp
  ·exact⟨k,rfl⟩
  ·exact he p (List.mem_filter.1 hp).1
 ·by_cases e:x=k
  ·subst e
   rw[has_put_same h1.isMap hk]
   exact⟨fun _=>rfl,fun _=>⟨v,(Wq _ _ h3 _).2 (.inl rfl)⟩⟩
  ·rw[has_put_other (by intro h;injection h with h;exact e h),←h4 x]
   constructor
   ·rintro⟨v',hv⟩
    rcases (Wq _ _ h3 _).1 hv with h | ⟨h,_⟩
    ·injection h with h _;exact absurd h e
    ·exact⟨v',h⟩
   ·rintro⟨v',hv⟩
    exact⟨v',(Wq _ _ h3 _).2 (.inr ⟨hv,e⟩)⟩
 ·rcases (Wq _ _ h3 _).1 hm with h | ⟨h,hne⟩
  ·injection h with e1 e2
   subst e1;subst e2
   exact atKey_put_same h1.isMap hk _ _
  ·rw[atKey_put_other (by intro h;injection h with h;exact hne h)]
   exact h5 k' v' h z
theorem good_empty:Good (.map []) []:=⟨tidy_empty,⟨[],rfl,by simp⟩,List.Pairwise.nil,by simp[has],by simp⟩
theorem good_fold:∀ (qs:List (List UInt8 × List UInt8)) (D:DataW Unit) (l:List (List UInt8 × List UInt8)),Good D l→Good (qs.foldl (fun D q=>D.put (.string q.1) (.lit (.string q.2))) D) (qs.foldl insL l)
 | [],_,_,h=>h
 | q :: qs,D,l,h=>good_fold qs _ _ (good_put h q.1 q.2)
theorem good_pairs (qs:List (List UInt8 × List UInt8)):Good (mapD qs) (JQ qs):=good_fold qs _ _ good_empty
theorem sorted_keys (qs:List (List UInt8 × List UInt8)) (ss:List (List UInt8)) (h:ss.Perm (strKeys (mapD qs))):ss.mergeSort (fun x y=>decide (x≤y))=(JQ qs).map (·.1):=by
 obtain⟨h1,⟨es,he,hs⟩,h3,h4,h5⟩:=good_pairs qs
 have hnd:((JQ qs).map (·.1)).Nodup:=by
  refine List.pairwise_map.2 (h3.imp ?_)
  intro a b hlt e
  rw[e]at hlt
  exact List.lt_irrefl _ hlt
 have hp:((JQ qs).map (·.1)).Perm (strKeys (mapD qs)):=by
  obtain⟨es',he',hp'⟩:=h1
  rw[he]
  refine perm_strKeys (by rw[he]at he';injection he' with he';rw[he'];exact hp') hs hnd fun x=>?_
  rw[←he,←h4 x]
  simp
 have:=mergeSort_of_perm (h.trans hp.symm)
 rw[show (fun x y:List UInt8=>decide (x≤y))=leB from rfl,this]
 have tr:∀ a b c:List UInt8,leB a b=true→leB b c=true→leB a c=true:=fun a b c h1 h2=>by simp only[leB,decide_eq_true_eq] at *;exact List.le_trans h1 h2
 have tt:∀ a b:List UInt8,(leB a b||leB b a)=true:=fun a b=>by simp only[leB,Bool.or_eq_true,decide_eq_true_eq];exact List.le_total a b
 refine List.Perm.eq_of_pairwise (le:=fun a b=>leB a b=true) (fun a b _ _ h1 h2=>?_) (List.pairwise_mergeSort tr tt _) ?_ (List.mergeSort_perm _ leB)
 ·simp only[leB,decide_eq_true_eq]at h1 h2
  exact List.le_antisymm h1 h2
 ·refine List.pairwise_map.2 (h3.imp fun {a b} hlt=>?_)
  simp only[leB,decide_eq_true_eq]
  exact List.not_lt.1 fun h=>List.lt_irrefl _ (List.lt_trans h hlt)
end Go.Proofs.YticlbkficolocaaGreatDoor
namespace Go.Proofs.YticlbkficolocaaGreatDoor.Sha
set_option linter.unusedVariables false
set_option maxRecDepth 100000
def add32 (a b:Nat):Nat:=(a+b) % 4294967296
def rot (x n:Nat):Nat:=(x / 2 ^ n)|||((x*2 ^ (32-n)) % 4294967296)
def s0 (x:Nat):Nat:=(rot x 7 ^^^ rot x 18) ^^^ (x / 8)
def s1 (x:Nat):Nat:=(rot x 17 ^^^ rot x 19) ^^^ (x / 1024)
def mix (x i j k:Nat):Nat:=(rot x i ^^^ rot x j) ^^^ rot x k
def word (b:List Nat):Nat:=((b.getD 0 0*256+b.getD 1 0)*256+b.getD 2 0)*256+b.getD 3 0
def words:Nat→List Nat→List Nat
 | 0,_=>[]
 | n+1,b=>word b :: words n (b.drop 4)
def nextW (l:List Nat):Nat:=add32 (add32 (add32 (l.getD (l.length-16) 0) (s0 (l.getD (l.length-15) 0))) (l.getD (l.length-7) 0)) (s1 (l.getD (l.length-2) 0))
def grow:Nat→List Nat→List Nat
 | 0,l=>l
 | n+1,l=>grow n (l++[nextW l])
structure St where
 (a b c d e f g h:Nat)
def round (v:St) (k w:Nat):St :=
 let x:=add32 (add32 (add32 (add32 v.h (mix v.e 6 11 25)) ((v.e &&& v.f) ^^^ ((4294967295-v.e) &&& v.g))) k) w
 let y:=add32 (mix v.a 2 13 22) (((v.a &&& v.b) ^^^ (v.a &&& v.c)) ^^^ (v.b &&& v.c))
 ⟨add32 x y,v.a,v.b,v.c,add32 v.d x,v.e,v.f,v.g⟩
def rounds:List Nat→List Nat→St→St
 | k :: ks,w :: ws,v=>rounds ks ws (round v k w)
 | _,_,v=>v
def ks:List Nat:=[
 0x428a2f98,0x71374491,0xb5c0fbcf,0xe9b5dba5,0x3956c25b,0x59f111f1,0x923f82a4,0xab1c5ed5,
 0xd807aa98,0x12835b01,0x243185be,0x550c7dc3,0x72be5d74,0x80deb1fe,0x9bdc06a7,0xc19bf174,
 0xe49b69c1,0xefbe4786,0x0fc19dc6,0x240ca1cc,0x2de92c6f,0x4a7484aa,0x5cb0a9dc,0x76f988da,
 0x983e5152,0xa831c66d,0xb00327c8,0xbf597fc7,0xc6e00bf3,0xd5a79147,0x06ca6351,0x14292967,
 0x27b70a85,0x2e1b2138,0x4d2c6dfc,0x53380d13,0x650a7354,0x766a0abb,0x81c2c92e,0x92722c85,
 0xa2bfe8a1,0xa81a664b,0xc24b8b70,0xc76c51a3,0xd192e819,0xd6990624,0xf40e3585,0x106aa070,
 0x19a4c116,0x1e376c08,0x2748774c,0x34b0bcb5,0x391c0cb3,0x4ed8aa4a,0x5b9cca4f,0x682e6ff3,
 0x748f82ee,0x78a5636f,0x84c87814,0x8cc70208,0x90befffa,0xa4506ceb,0xbef9a3f7,0xc67178f2]
def st0:St:=⟨0x6a09e667,0xbb67ae85,0x3c6ef372,0xa54ff53a,0x510e527f,0x9b05688c,0x1f83d9ab,0x5be0cd19⟩
def comp (s:St) (b:List Nat):St :=
 let v:=rounds ks (grow 48 (words 16 b)) s
 ⟨add32 s.a v.a,add32 s.b v.b,add32 s.c v.c,add32 s.d v.d,add32 s.e v.e,add32 s.f v.f,add32 s.g v.g,add32 s.h v.h⟩
def blocks:Nat→St→List Nat→St
 | 0,s,_=>s
 | n+1,s,m=>blocks n (comp s m) (m.drop 64)
def bytes4 (x:Nat):List Nat:=[x / 16777216,x / 65536 % 256,x / 256 % 256,x % 256]
def out (s:St):List Nat:=bytes4 s.a++bytes4 s.b++bytes4 s.c++bytes4 s.d++bytes4 s.e++bytes4 s.f++bytes4 s.g++bytes4 s.h
theorem Vj (a b:Nat):add32 a b<4294967296:=Nat.mod_lt _ (by decide)
theorem Yy:∀ (n:Nat) (b:List Nat),(words n b).length=n
 | 0,_=>rfl
 | n+1,b=>by rw[words,List.length_cons,Yy n]
structure Ok (v:St):Prop where
 a:v.a<4294967296
 b:v.b<4294967296
 c:v.c<4294967296
 d:v.d<4294967296
 e:v.e<4294967296
 f:v.f<4294967296
 g:v.g<4294967296
 h:v.h<4294967296
theorem comp_ok (s:St) (b:List Nat):Ok (comp s b):=⟨Vj _ _,Vj _ _,Vj _ _,Vj _ _,Vj _ _,Vj _ _,Vj _ _,Vj _ _⟩
theorem st0_ok:Ok st0:=⟨by decide,by decide,by decide,by decide,by decide,by decide,by decide,by decide⟩
theorem blocks_ok:∀ (n:Nat) (s:St) (m:List Nat),Ok s→Ok (blocks n s m)
 | 0,_,_,h=>h
 | n+1,s,m,_=>blocks_ok n _ _ (comp_ok s m)
theorem words_take:∀ (n k:Nat) (b:List Nat),4*n≤k→words n (b.take k)=words n b
 | 0,_,_,_=>rfl
 | n+1,k,b,h=>by
  rw[words,words,List.drop_take,words_take n (k-4) _ (by omega)]
  congr 1
  unfold word
  have e:∀ j,j<4→(b.take k).getD j 0=b.getD j 0:=fun j hj=>by
   rw[List.getD_eq_getElem?_getD,List.getD_eq_getElem?_getD,List.getElem?_take_of_lt (by omega)]
  rw[e 0 (by omega),e 1 (by omega),e 2 (by omega),e 3 (by omega)]
theorem comp_take (s:St) (b:List Nat):comp s (b.take 64)=comp s b:=by
 unfold comp
 rw[words_take 16 64 b (by omega)]
theorem blocks_app:∀ (n:Nat) (s:St) (m r:List Nat),64*n≤m.length→blocks n s (m++r)=blocks n s m
 | 0,_,_,_,_=>rfl
 | n+1,s,m,r,h=>by
  rw[blocks,blocks,List.drop_append_of_le_length (by omega),blocks_app n _ _ r (by simp;omega),←comp_take s (m++r),←comp_take s m,List.take_append_of_le_length (by omega)]
structure Str (m:List Nat) (s:St) (blk:List Nat):Prop where
 st:s=blocks (m.length / 64) st0 m
 len:blk.length=64
 tail:blk.take (m.length % 64)=m.drop (64*(m.length / 64))
theorem str0 (blk:List Nat) (h:blk.length=64):Str [] st0 blk:=⟨rfl,h,rfl⟩
theorem Str.ok {m:List Nat} {s:St} {blk:List Nat} (h:Str m s blk):Ok s:=by rw[h.st];exact blocks_ok _ _ _ st0_ok
def put (blk:List Nat) (at_:Nat) (x:List Nat):List Nat:=blk.take at_++(x++blk.drop (at_+x.length))
theorem put_len {blk x:List Nat} {a:Nat} (h:a+x.length≤blk.length):(put blk a x).length=blk.length:=by
 unfold put;simp;omega
theorem Str.step {m:List Nat} {s:St} {blk:List Nat} (h:Str m s blk) (x:List Nat) (hx:m.length % 64+x.length<64):Str (m++x) s (put blk (m.length % 64) x):=by
 have hl:=h.len
 have hq:(m++x).length / 64=m.length / 64:=by rw[List.length_append];omega
 have hr:(m++x).length % 64=m.length % 64+x.length:=by rw[List.length_append];omega
 refine⟨?_,by rw[put_len (by omega)];exact hl,?_⟩
 ·rw[hq,blocks_app _ _ _ _ (by omega)];exact h.st
 ·rw[hq,hr]
  unfold put
  rw[←List.append_assoc,List.take_append_of_le_length (by simp;omega),List.take_of_length_le (by simp;omega),h.tail,List.drop_append_of_le_length (by omega)]
def vintF:Nat→Nat→List Nat
 | 0,z=>[z]
 | f+1,z=>if z<128 then [z] else (z % 128+128) :: vintF f (z / 128)
def vint (z:Nat):List Nat:=vintF 10 z
def wireB (s:List Nat):List Nat:=vint (2*s.length)++s
def part (d:List Nat):Nat→Nat
 | 0=>0
 | j+1=>part d j*256+d.getD j 0
end Go.Proofs.YticlbkficolocaaGreatDoor.Sha
namespace Go.Proofs.YticlbkficolocaaGreatDoor
open Go.RowKit Go.ChangeShapes Go.WideShapes
section
variable {H:Type} {enc:TypeId × Value→H} {P:Program}
def rowed (P:Program) (ts:List TypeId):Bool:=ts.all fun t=>P.readableRec t&&decide (t<P.types.size)
theorem args_stay (hl:laidOutB P=true) {W W':World} (hb:Below W.heap.size W W') (sp:Nat→Bool) :
  ∀ {ts:List TypeId} {vs:List Value} {ds:List (DataW H)} {ps:List MemPlace},rowed P ts=true→DataW.TrodAll enc P W 0 (fun _=>true) true ts vs ds ps→(∀ x∈ps,x.block<W.heap.size)→(∀ x∈ps,sp x.block=true)→DataW.TrodAll enc P W' 0 sp true ts vs ds ps
 | [],vs,ds,ps,_,h,_,_=>by
  obtain⟨rfl,rfl,rfl⟩:=trodAll_nil h
  exact trodAll_mk0
 | t :: ts,vs,ds,ps,hr,h,h1,h2=>by
  obtain⟨v,vs',d,ds',p,q,rfl,rfl,rfl,hv,hs⟩:=trodAll_cons h
  simp only[rowed,List.all_cons,Bool.and_eq_true,decide_eq_true_eq]at hr
  exact trodAll_cons_mk (WideElems.Trod_stays hl hr.1.1 hr.1.2 hv (fun x hx=>hb.same (h1 x (by simp[hx]))) (fun x hx=>h2 x (by simp[hx])))
   (args_stay hl hb sp (by simpa[rowed] using hr.2) hs (fun x hx=>h1 x (by simp[hx])) (fun x hx=>h2 x (by simp[hx])))
theorem bool_reads {t:TypeId} {W:World} {b:Nat} {sp:Nat→Bool} {hd:Bool} (ht:P.underlying t=some .bool) (x:Bool):DataW.TrodAll enc P W b sp hd [t] [.bool x] [.lit (.bool x)] []:=trodAll_mk1 (shut_bool ht x)
theorem law_post {f:Func} {s:ChangeSpec} {apart fresh handsOn again:Bool} {W W':World} {args:Array Value} {ds gs:List (DataW H)} {before:List MemPlace} {t:TypeId}
  (hW:DataW.Whole enc P f.params.toList s.vars apart W args.toList ds gs before) (hvars:s.vars=[]) (hl:laidOutB P=true) (hrow:rowed P f.params.toList=true) (hres:f.resultTypes=#[t]) (ht:P.underlying t=some .bool)
  (hfn:s.fn H (ds++gs)={ results:=[.lit (.bool true)],args:=ds }) (hb:Below W.heap.size W W'):s.post enc P f apart fresh handsOn again W args (.bool true) W':=by
 have hlt:∀ x∈before,x.block<W.heap.size:=fun x hx=>hW.lt x hx
 have hW0:=hW
 obtain⟨p,q,hA,hV,hp,hfz,hnd⟩:=hW
 rw[hvars]at hV
 obtain⟨rfl,rfl⟩:=trodVars_none hV
 rw[List.append_nil]at hp
 subst hp
 have hr1:(Value.bool true).resultList f.resultTypes.size=[.bool true]:=by rw[hres];rfl
 have hr2:f.resultTypes.toList=[t]:=by rw[hres]
 have hvs:∀ sp,DataW.TrodVars enc P W' sp s.vars [] []:=fun sp=>by rw[hvars];rfl
 refine⟨ds,[],before,[],before,[],hW0,?_,?_,?_,?_,fun _=>⟨?_,.lit (.bool true) :: ds,[],before,?_,fun x hx _=>hx⟩⟩
 ·rw[hfn,hr1,hr2];exact bool_reads ht true
 ·rw[hfn];exact args_stay hl hb _ hrow hA hlt (fun x hx=>by simpa using hlt x hx)
 ·rw[hfn];exact hvs _
 ·exact World.keptBut_mono (fun x hx=>⟨hx,.inr (.inl hx)⟩) (hb.frame (·∈before))
 ·exact ok_one hres rfl (okWide_bool_mk ht true)
 ·refine⟨before,[],?_,hvs _,by simp,?_,hnd⟩
  ·rw[hr1,hr2]
   have:=trodAll_append (args_stay hl hb (fun _=>true) hrow hA hlt (fun _ _=>rfl)) (bool_reads (enc:=enc) (P:=P) (W:=W') (b:=0) (sp:=fun _=>true) (hd:=true) ht true)
   simpa using this
  ·intro b off hx
   rw[hb.frozen (hlt _ hx)]
   exact hfz b off hx
end
end Go.Proofs.YticlbkficolocaaGreatDoor
