/- What 'Tags' returns. -/
import Derived.Test.YtlkbkclnbppigaaGreatDoorIZ8
import Derived.Test.YtlkbkclnbppigaaGreatDoorIZ9
set_option maxHeartbeats 2000000
namespace Go.Proofs.YtlkbkclnbppigaaGreatDoor
open Go.RowKit Go.Sort
set_option linter.unusedVariables false
set_option linter.unusedSimpArgs false
set_option maxRecDepth 100000
open Go.Sort
def sortL (xs:List (List UInt8)):List (List UInt8):=xs.mergeSort (fun x y=>decide (x≤y))
theorem toB_back (l:List (List UInt8)):(l.map toB).map (·.data.toList)=l:=by
 rw[List.map_map]
 exact List.map_id l
theorem lists_enc (ps:List ByteArray):ps.map Value.string=(lists ps).map encStr:=by simp[lists]
theorem lists_len (ps:List ByteArray):(lists ps).length=ps.length:=by simp[lists]
theorem collect_any (gf:Nat) (lb:Array Value) (eg:∀ args w,(callFunc gf args).run Tryz.prog w=.ok (.enter gf args) w) (ps:List ByteArray) (w:World)
  (lo hi:Nat) (hhi:hi≤w.heap.size) (hseq:Iter Tryz.prog gf lb (ps.map .string) (fun _ _=>False) lo hi w) (hlen:ps.length≤1000000000) :
  Calls Tryz.prog 164 #[.func (.func gf) #[] lb] w fun e w'=>∃ v,e=.returned v∧w'.ownsRow w.heap.size 9 1 v ps.length (ps.map .string)∧Below w.heap.size w w':=by
 have cA:=appendSeq_any gf lb eg ps w lo hi hhi hseq hlen
 go_enter Tryz.func164,Tryz.ntmps164
 go_wp2_with (go_at_call 222;refine cA.mono ?_;rintro e w1 ⟨v,rfl,hrow,hb⟩)
 go_ret
 exact⟨v,rfl,hrow,hb⟩
theorem sorted_any (gf:Nat) (lb:Array Value) (eg:∀ args w,(callFunc gf args).run Tryz.prog w=.ok (.enter gf args) w) (ps:List ByteArray) (w:World)
  (lo hi:Nat) (hhi:hi≤w.heap.size) (hseq:Iter Tryz.prog gf lb (ps.map .string) (fun _ _=>False) lo hi w) (hlen:ps.length≤1000000000) :
  Calls Tryz.prog 96 #[.func (.func gf) #[] lb] w fun e w'=>∃ v,e=.returned v∧w'.ownsRow w.heap.size 9 1 v ps.length ((sortL (lists ps)).map encStr)∧Below w.heap.size w w':=by
 have cA:=collect_any gf lb eg ps w lo hi hhi hseq hlen
 have hll:=lists_len ps
 go_enter Tryz.func96,Tryz.ntmps96
 go_wp2_with (go_at_call 164;refine cA.mono ?_;rintro e w1 ⟨v,rfl,hrow,hb⟩)
 rw[lists_enc]at hrow
 rcases hrow.2 with ⟨rfl,hz⟩ | ⟨gb,cap,cur,rfl,hbase,hgb,r1,r2,r3,r4⟩
 ·have hps:ps=[]:=List.eq_nil_of_length_eq_zero hz
  subst hps
  go_wp2_with (go_at_call 165;refine (Tryz.slices_Sort_string_none none 0 w1).mono ?_;rintro e w' ⟨rfl,rfl⟩)
  go_ret
  exact⟨_,rfl,by simpa[lists,sortL] using hrow,hb⟩
 ·have hH:Holds encStr w1 gb 0 (lists ps).toArray:=holds_of_block hgb (by rw[hll];simpa using r4)
  have hgl:gb<w1.heap.size:=(Array.getElem?_eq_some_iff.1 hgb).1
  have cS:=Tryz.slices_Sort_string gb 0 cap (lists ps) w1 hH hgl (by omega)
  rw[hll]at cS
  go_wp2_with (go_at_call 165;refine cS.mono ?_;rintro e w' ⟨rfl,nn,os,rfl⟩)
  go_ret
  refine⟨_,rfl,?_,hb.grown (grownBy_sorted _) hb.size (fun j hj=>by cases hj;exact hbase)⟩
  have:=ownsRow_sorted (w:=w1) (base:=w.heap.size) (g:=gb) (cap:=cap) (n:=nn) (e:=9) (os:=os) (cur:=cur) (ss:=lists ps) (ts:=sortL (lists ps)) (by simp[sortL]) hbase hgb (by rw[hll];exact r1) r2 (by rw[r3])
  rw[hll]at this
  exact this
theorem lens_le:∀ l:List (List UInt8),(∀ x∈l,x.length≤64)→Lib.lens l≤l.length*64
 | [],_=>by simp[Lib.lens]
 | x :: l,h=>by
  have h1:=h x (by simp)
  have h2:=lens_le l (fun y hy=>h y (by simp[hy]))
  simp only[Lib.lens,List.map_cons,List.sum_cons,List.length_cons]at h2 ⊢
  omega
theorem join_bound (l:List (List UInt8)) (h:∀ x∈l,x.length≤64):(Lib.join l [44]).length≤l.length*65:=by
 cases l with
 | nil=>simp[Lib.join_nil]
 | cons x l =>
  have h1:=h x (by simp)
  have h2:=lens_le l (fun y hy=>h y (by simp[hy]))
  rw[Lib.join_cons,List.length_append,Lib.joinTail_length]
  simp only[List.length_singleton,List.length_cons,List.length_nil,Nat.zero_add,Nat.one_mul]
  omega
theorem compactUpTo_mem (d:Array (List UInt8)):∀ m,m≤d.size→∀ x∈Lib.compactUpTo d m,x∈d.toList
 | 0,_,x,hx=>by simp[Lib.compactUpTo]at hx
 | m+1,hm,x,hx=>by
  rw[Lib.compactUpTo_succ]at hx
  rcases List.mem_append.1 hx with hx | hx
  ·exact compactUpTo_mem d m (by omega) x hx
  ·split at hx
   ·rw[List.mem_singleton.1 hx]
    have:m<d.size:=by omega
    rw[getElem!_pos d m this]
    simp
   ·cases hx
theorem compact_mem (zs:List (List UInt8)) (x:List UInt8) (h:x∈Lib.compact zs):x∈zs:=by
 have:=compactUpTo_mem zs.toArray zs.length (by simp) x h
 simpa using this
def tagsL (ps:List ByteArray):List UInt8:=Lib.join (Lib.compact (sortL (lists ps))) [44]
def tagsR (ps:List ByteArray):ByteArray × Int :=
 if ps.any (fun p=>!isNameB p) then (⟨#[]⟩,1) else if 4096<(tagsL ps).length then (⟨#[]⟩,2) else (toB (tagsL ps),0)
def tagsV (ps:List ByteArray):Value:=.tuple #[.string (tagsR ps).1,.int .i64 (tagsR ps).2]
theorem grownBy_put {w:World} {g n:Nat} (d:Array (List UInt8)):w.grownBy (putRow encStr (Sort.ahead w n) g 0 d) (some g):=by
 refine⟨rfl,rfl,rfl,by simp[putRow,mapBlock,Sort.ahead],fun k hk hne=>?_⟩
 have:g≠k:=fun e=>hne (by rw[e])
 simp[putRow,mapBlock,Sort.ahead,Array.getElem?_modify,this]
theorem tags_any (A:Option Addr) (n c:Nat) (ps:List ByteArray) (w:World) (hR:Reads w 1 A n (ps.map .string)) (hn:ps.length≤1000000) (hsz:∀ p∈ps,p.size≤4294967281):Calls Tryz.prog 45 #[.slice A n c] w (Ret w (tagsV ps)):=by
 have hpn:ps.length=n:=by have:=hR.1;simpa using this
 have cC:=fun W h=>containsFunc_any 93 (enters_of Tryz.func93 (by kernel_rfl) rfl) (fun x=>!isNameB x) A n c ps W (fun x hx W'=>notName_any x W' (hsz x hx)) h (by omega)
 cases ha:ps.any (fun x=>!isNameB x)
 ·rw[ha]at cC
  have hall:∀ p∈ps,p.size≤64:=fun p hp=>by
   have:=List.any_eq_false.1 ha p hp
   exact size_of_name (by simpa using this)
  have hv:tagsV ps=if 4096<(tagsL ps).length then .tuple #[.string ⟨#[]⟩,.int .i64 2] else .tuple #[.string (toB (tagsL ps)),.int .i64 0]:=by
   unfold tagsV tagsR
   simp only[ha,Bool.false_eq_true,if_false]
   split <;> rfl
  rw[hv]
  obtain⟨zs,hzs⟩:∃ zs,zs=sortL (lists ps):=⟨_,rfl⟩
  have hzl:zs.length=n:=by rw[hzs,←hpn];simp[sortL,lists]
  have hz64:∀ x∈zs,x.length≤64:=by
   intro x hx
   rw[hzs]at hx
   have:=(List.mergeSort_perm _ _).mem_iff.1 hx
   obtain⟨p,hp,rfl⟩:=List.mem_map.1 this
   have:=hall p hp
   rw[Lib.size_eq]at this;exact this
  have hjn:=join_bound (Lib.compact zs) (fun x hx=>hz64 x (compact_mem zs x hx))
  have hcl:=Lib.compact_length_le zs
  have hT:Lib.join (Lib.compact zs) [44]=tagsL ps:=by rw[hzs];rfl
  rw[hT]at hjn
  have HC:=Lib.hid cC
  have HZ:=Lib.hid hzs
  have HT:=Lib.hid hT
  have HR:=Lib.hid hR
  generalize htl:tagsL ps=tl at *
  have hboth:∀ V,(V=if 4096<tl.length then Value.tuple #[.string ⟨#[]⟩,.int .i64 2] else .tuple #[.string (toB tl),.int .i64 0])→Calls Tryz.prog 45 #[.slice A n c] w (Ret w V):=by
   intro V hV
   obtain⟨T,hTT⟩:∃ T:ByteArray,T=toB tl:=⟨_,rfl⟩
   have hTs:T.size=tl.length:=by rw[hTT];rfl
   rw[←hTT,←hTs]at hV
   have HTT:=Lib.hid hTT
   have HV:=Lib.hid hV
   have HTs:=Lib.hid hTs
   clear hV hv hT hTT cC hR hzs ha hTs
   have hn9:n≤1000000:=by omega
   have cS:∀ W:World,Reads W 1 A n (ps.map .string)→Calls Tryz.prog 96 #[.func (.func 166) #[] #[.pointer (some ⟨W.heap.size,0,none⟩)]] (W.alloc (.cells #[.slice A n c] 24)) fun e w' =>
     ∃ v,e=.returned v∧w'.ownsRow W.heap.size 9 1 v n (zs.map encStr)∧Below W.heap.size W w':=by
    intro W hW
    have h0:(W.alloc (.cells #[.slice A n c] 24)).cell? ⟨W.heap.size,0,none⟩=some (.slice A n c):=by simp[go_sem]
    refine (sorted_any 166 _ (enters_of Tryz.func166 (by kernel_rfl) rfl) ps (W.alloc (.cells #[.slice A n c] 24)) 0 _ (Nat.le_refl _)
     (values_iter W.heap.size n c A ps _ h0 (hW.keep (balloc (Below.refl _ _) _)) (by omega)) (by omega)).mono ?_
    rintro e w' ⟨v,rfl,hrow,hb⟩
    rw[hpn,←HZ.out]at hrow
    exact⟨v,rfl,⟨hrow.1,hrow.2.imp id (fun ⟨g,cap,cur,e1,e2,e3⟩=>⟨g,cap,cur,e1,by simp at e2;omega,e3⟩)⟩,blater _ hb⟩
   have HS:=Lib.hid cS
   clear cS
   have key:(n=0→(T=⟨#[]⟩∧zs=[])):=by
    intro h0
    have hz:zs=[]:=List.eq_nil_of_length_eq_zero (by omega)
    refine⟨?_,hz⟩
    rw[HTT.out,←HT.out,hz];rfl
   have HK:=Lib.hid key
   clear key
   go_enter Tryz.func45,Tryz.ntmps45
   go_wp2_with (first | (go_at_call 92;refine (HC.out _ HR.out).mono ?_;rintro e w1 ⟨rfl,hb1⟩;have hR1:=HR.out.keep hb1) | (go_at_call 97;refine (values_any A n c w1).mono ?_;rintro e W' ⟨rfl,hW'⟩;rw[hW'];clear hW' W') | (go_at_call 96;refine (HS.out w1 hR1).mono ?_;rintro e w2 ⟨v,rfl,hrow,hb2⟩))
   rcases hrow.2 with ⟨rfl,hz⟩ | ⟨gb,cap,cur,rfl,hbase,hgb,r1,r2,r3,r4⟩
   ·obtain⟨hT0,hz0⟩:=HK.out hz
    subst hz
    have hV:=HV.out
    rw[hT0,if_neg (by decide)]at hV
    subst hV
    go_wp2_with (first | (go_at_call 95;refine (Tryz.slices_Compact_string_empty none 0 _).mono ?_;rintro e w3 ⟨rfl,rfl⟩) | (go_at_call 72;refine (Tryz.strings_Join_none none 0 _ _).mono ?_;rintro e w3 ⟨rfl,rfl⟩))
    go_ret2
    exact⟨rfl,belB⟩
   ·have hH:Holds encStr w2 gb 0 zs.toArray:=holds_of_block hgb (by rw[hzl];simpa using r4)
    have hgl:gb<w2.heap.size:=(Array.getElem?_eq_some_iff.1 hgb).1
    have cK:=Tryz.slices_Compact_string gb 0 cap zs w2 hH (by omega) (by omega)
    rw[hzl]at cK
    have cJ:∀ q w3,w3=putRow encStr (Sort.ahead w2 q) gb 0 (Lib.compact zs++List.replicate (n-(Lib.compact zs).length) []).toArray→Below w1.heap.size w1 w3 ∧
      Calls Tryz.prog 72 #[.slice (some ⟨gb,0,none⟩) (Lib.compact zs).length cap,.string ⟨#[44]⟩] w3 (Ret w3 (.string T)):=by
     rintro q w3 rfl
     have hb3:=hb2.grown (grownBy_put (w:=w2) (g:=gb) (n:=q) (Lib.compact zs++List.replicate (n-(Lib.compact zs).length) []).toArray) hb2.size (fun j hj=>by cases hj;exact hbase)
     refine⟨hb3,?_⟩
     have hh:=holds_putRow encStr (Sort.ahead w2 q) gb 0 zs.toArray (Lib.compact zs++List.replicate (n-(Lib.compact zs).length) []).toArray hH (by simp;omega)
     have:=Tryz.strings_Join gb 0 cap ((Lib.compact zs).map toB) ⟨#[44]⟩ (putRow encStr (Sort.ahead w2 q) gb 0 (Lib.compact zs++List.replicate (n-(Lib.compact zs).length) []).toArray) (by
       intro j x hx
       rw[List.getElem?_map,Option.map_eq_some_iff]at hx
       obtain⟨y,hy,rfl⟩:=hx
       have hjl:j<(Lib.compact zs).length:=(List.getElem?_eq_some_iff.1 hy).1
       have h1:=(hh j (by simp;omega)).1
       rw[h1]
       congr 1
       rw[getElem!_pos _ j (by simp;omega)]
       have:(Lib.compact zs++List.replicate (n-(Lib.compact zs).length) ([]:List UInt8)).toArray[j]'(by simp;omega)=y:=by
        obtain⟨_,h2⟩:=List.getElem?_eq_some_iff.1 hy
        simp[List.getElem_append_left hjl,h2]
       rw[this];rfl) (by simpa[putRow,mapBlock,Sort.ahead] using hgl) (by simp;omega) (by simp;omega) (by
       have:=toB_back (Lib.compact zs)
       rw[this,show (⟨#[44]⟩:ByteArray).data.toList=[44] from rfl,HT.out];omega)
     rw[toB_back,show (⟨#[44]⟩:ByteArray).data.toList=[44] from rfl,HT.out,List.length_map]at this
     rw[HTT.out]
     exact this
    have HJ:=Lib.hid cJ
    have HKK:=Lib.hid cK
    clear cJ cK hH hgb r3 r4 hrow
    by_cases hbig:4096<T.size
    ·have hV:=HV.out
     rw[if_pos hbig]at hV
     subst hV
     have hd:decide ((4096:Int)<(T.size:Int))=true:=by simp;omega
     go_wp2_with (first | (go_at_call 95;refine HKK.out.mono ?_;rintro e w3 ⟨rfl,q,hw3⟩;obtain⟨hb3,cJ⟩:=HJ.out q w3 hw3;clear hw3) | (go_at_call 72;refine cJ.mono ?_;rintro e w4 ⟨rfl,hb4⟩))
     go_ret2
     exact⟨rfl,belB⟩
    ·have hV:=HV.out
     rw[if_neg hbig]at hV
     subst hV
     have hd:decide ((4096:Int)<(T.size:Int))=false:=by simp;omega
     go_wp2_with (first | (go_at_call 95;refine HKK.out.mono ?_;rintro e w3 ⟨rfl,q,hw3⟩;obtain⟨hb3,cJ⟩:=HJ.out q w3 hw3;clear hw3) | (go_at_call 72;refine cJ.mono ?_;rintro e w4 ⟨rfl,hb4⟩))
     go_ret2
     exact⟨rfl,belB⟩
  exact hboth _ rfl
 ·have hv:tagsV ps=.tuple #[.string ⟨#[]⟩,.int .i64 1]:=by
   unfold tagsV tagsR
   rw[if_pos ha]
  rw[hv]
  rw[ha]at cC
  have HC:=Lib.hid cC
  have HR:=Lib.hid hR
  clear hv ha cC hR
  go_enter Tryz.func45,Tryz.ntmps45
  go_wp2_with (go_at_call 92;refine (HC.out _ HR.out).mono ?_;rintro e w1 ⟨rfl,hb1⟩)
  go_ret2
  exact⟨rfl,belB⟩
end Go.Proofs.YtlkbkclnbppigaaGreatDoor
namespace Go.Proofs.YtlkbkclnbppigaaGreatDoor
open Go.RowKit Go.Sort
set_option linter.unusedVariables false
set_option linter.unusedSimpArgs false
set_option maxRecDepth 100000
section
variable {P:Program} {Q:Exit→Act→World→Prop}
def QG (G:World→World→Prop) (D:Nat→Value→World→Prop) (i:Nat) (o:Oper) (ds:List Deferred) (w:World):Exit→Act→World→Prop:=fun e a' w'=>e=.normal∧D i (slotD o a') w'∧a'.defers=ds∧G w w'
def DetG (G:World→World→Prop) (P:Program) (ops:Array Oper) (S:World→Prop) (D:Nat→Value→World→Prop) (fr:(Nat→Value)→Act):Nat→List Oper→Prop
 | _,[]=>True
 | i,o :: l=>(∀ vals W,S W→DepsL D vals W o.after.toList→wpList P ops (QG G D i o (fr vals).defers W) [o] (fr vals) W)∧DetG G P ops S D fr (i+1) l
theorem detG_at {G:World→World→Prop} {ops:Array Oper} {S:World→Prop} {D:Nat→Value→World→Prop} {fr:(Nat→Value)→Act}:∀ (l:List Oper) (k:Nat),DetG G P ops S D fr k l→∀ (i:Nat) (o:Oper),l[i]? = some o→∀ vals W,S W→DepsL D vals W o.after.toList→wpList P ops (QG G D (k+i) o (fr vals).defers W) [o] (fr vals) W
 | [],_,_,i,o,h=>by simp at h
 | o :: l,k,h,0,o',ho=>by
  obtain rfl:o=o':=by simpa using ho
  exact h.1
 | _ :: l,k,h,i+1,o',ho=>by
  have:=detG_at l (k+1) h.2 i o' (by simpa using ho)
  rwa [show k+1+i=k+(i+1) by omega]at this
theorem wp_detG (G:World→World→Prop) (hGr:∀ a,G a a) (hGt:∀ a b c,G a b→G b c→G a c) {l:List Oper} (m:Nat) {id:Nat} {a:Act} {w:World} (hm:P.follows .mixedOrders=true) (hB:Region.freeB .any l m a.tmps.size=true) (hdep:Region.deps l.toArray .any m=true)
  (D:Nat→Value→World→Prop) (hDk:∀ i v w w',D i v w→G w w'→D i v w') (S:World→Prop) (hS0:S { w with drawn:=w.drawn+1 }) (hSk:∀ w w',S w→G w w'→S w')
  (hops:DetG G P l.toArray S D (fun vals=>putL (l.take m) vals 0 a) 0 (l.take m))
  (hend:∀ vals w',S w'→(∀ j,j<m→D j (vals j) w')→wpList P l.toArray Q (l.drop m) (putL (l.take m) vals 0 a) w'):(Code.region id l.toArray true).wp P Q a w:=by
 have hB2:=hB
 unfold Region.freeB at hB2
 simp only[Bool.and_eq_true,decide_eq_true_eq]at hB2
 obtain⟨⟨⟨hml,hf⟩,_⟩,_⟩:=hB2
 have fair:∀ i,i<m→∃ o d,l[i]? = some o∧(∀ e∈o.after,Region.binds .any e=true→e.on<i)∧o.dst=some d∧d<a.tmps.size∧∀ j,j≠i→dstOf l.toArray j≠some d:=by
  intro i hi
  have h:=List.all_eq_true.1 hf i (List.mem_range.2 hi)
  cases ho:l[i]? with
  | none=>rw[List.getElem?_toArray,ho]at h;cases h
  | some o =>
   rw[List.getElem?_toArray,ho]at h
   dsimp only at h
   rw[Bool.and_eq_true,Array.all_eq_true']at h
   cases hd:o.dst with
   | none=>rw[hd]at h;cases h.2
   | some d =>
    refine⟨o,d,rfl,fun e he hb=>by have h8:=h.1 e he;rw[hb]at h8;simpa using h8,hd,?_⟩
    have h2:=h.2
    rw[hd]at h2
    dsimp only at h2
    rw[Bool.and_eq_true,decide_eq_true_eq,List.all_eq_true]at h2
    refine⟨h2.1,fun j hj=>?_⟩
    rcases Nat.lt_or_ge j l.toArray.size with hl | hl
    ·have:=h2.2 j (List.mem_range.2 hl)
     simp only[Bool.or_eq_true,beq_iff_eq,bne_iff_ne]at this
     exact this.resolve_left (fun e=>hj e.symm)
    ·unfold dstOf
     rw[Array.getElem?_eq_none hl]
     simp
 have hput:∀ V,putL (l.take m) V 0 a=putTo l.toArray a V m:=by
  intro V
  unfold putTo
  have:=putL_eq l.toArray (l.take m) V 0 a (fun j hj=>by
   rw[List.getElem?_take_of_lt (by simp at hj;omega)]
   simp)
  rw[List.length_take,Nat.min_eq_left hml]at this
  rw[←this,List.range_eq_range']
 refine wp_free m hm hB G hGr hGt D (fun i v w w' h hb=>hDk i v w w' h hb) (fun _ _=>True) trivial (ops_of _ _ (fun i o hi=>?_)) (fun vals w' hG _ hv=>?_)
 ·rw[Nat.zero_add]
  intro ho L a' W _ _ _ _ hG hA hd
  have hilt:i<m:=by
   have:=(List.getElem?_eq_some_iff.1 hi).1
   rw[List.length_take]at this;omega
  have hSW:S W:=hSk _ _ hS0 hG
  obtain⟨V,hV⟩:∃ V:Nat→Value,V=fun j=>slotOf l.toArray a' j:=⟨_,rfl⟩
  have hD:=detG_at _ _ hops i o hi V W hSW (depsL_of _ (fun e he hb=>by rw[hV];exact hd e (by simpa using he) hb))
  rw[Nat.zero_add]at hD
  generalize hb:putL (l.take m) V 0 a=b at *
  have hput:=hput V
  rw[hb]at hput
  obtain⟨o',d,ho',hback,hdo,hdl,hdd⟩:=fair i hilt
  obtain rfl:o=o':=by rw[List.getElem?_toArray]at ho;exact Option.some.inj (ho.symm.trans ho')
  have hdist:∀ t i j,i<m→j<m→dstOf l.toArray i=some t→dstOf l.toArray j=some t→i=j:=by
   intro t i j hi hj h1 h2
   obtain⟨oi,di,hoi,_,hdi,_,hddi⟩:=fair i hi
   have e1:dstOf l.toArray i=some di:=by unfold dstOf;rw[List.getElem?_toArray,hoi];exact hdi
   by_cases hij:j=i
   ·exact hij.symm
   ·exact absurd (by rw[h2,←h1,e1]) (hddi j hij)
  have look:∀ t∈o.looksAt l.toArray,a'.tmps[t]? = b.tmps[t]?:=by
   intro t ht
   have h:=List.all_eq_true.1 hdep i (List.mem_range.2 hilt)
   rw[ho]at h
   dsimp only at h
   rw[Bool.and_eq_true,List.all_eq_true]at h
   have h2:=h.2 t ht
   rw[Bool.or_eq_true]at h2
   rcases h2 with h2 | h2
   ·have hoff:∀ j,j<m→dstOf l.toArray j≠some t:=fun j hj=>by
     have:=List.all_eq_true.1 h2 j (List.mem_range.2 hj)
     simpa using this
    rw[hA.off t hoff,hput,putTo_off _ _ _ m hoff]
   ·rw[Array.any_eq_true']at h2
    obtain⟨e,he,h2⟩:=h2
    rw[Bool.and_eq_true,Bool.and_eq_true,decide_eq_true_eq,beq_iff_eq]at h2
    obtain⟨⟨hbd,hem⟩,hdt⟩:=h2
    have hv:slotOf l.toArray a' e.on=V e.on:=by rw[hV]
    obtain⟨oe,de,hoe,_,hde,hdel,_⟩:=fair e.on hem
    have e1:dstOf l.toArray e.on=some de:=by unfold dstOf;rw[List.getElem?_toArray,hoe];exact hde
    obtain rfl:de=t:=Option.some.inj (e1.symm.trans hdt)
    unfold slotOf at hv
    rw[e1]at hv
    dsimp only at hv
    rw[hput,putTo_at _ _ _ hdel m (hdist de) e.on hem e1]
    have hlt:de<a'.tmps.size:=by rw[hA.size];exact hdel
    rw[Array.getD_eq_getD_getElem?,Array.getElem?_eq_getElem hlt]at hv
    rw[Array.getElem?_eq_getElem hlt,←hv]
    rfl
  have hex:execOp a'.eval o=execOp b.eval o:=by
   refine execOp_congr o (fun cs bl hs=>?_) (fun x hx=>?_)
   ·have h:=List.all_eq_true.1 hdep i (List.mem_range.2 hilt)
    rw[ho]at h
    dsimp only at h
    rw[hs]at h
    cases h
   ·cases x with
    | tmp t =>
     have:=look t (List.mem_append_left _ (List.mem_filterMap.2 ⟨.tmp t,by simpa using hx,rfl⟩))
     show a'.tmps.getD t undef=b.tmps.getD t undef
     rw[Array.getD_eq_getD_getElem?,Array.getD_eq_getD_getElem?,this]
    | _=>rfl
  have hwt:Region.wanted o (yielded l.toArray a'.tmps)=Region.wanted o (yielded l.toArray b.tmps):=by
   unfold Region.wanted
   cases hg:o.guard with
   | none=>rfl
   | some gw =>
    obtain⟨g,want⟩:=gw
    dsimp only
    rw[yielded_congr (fun d hd=>look d ?_)]
    refine List.mem_append_right _ ?_
    rw[hg]
    dsimp only
    unfold dstOf at hd
    rw[hd]
    simp
  have hbs:b.tmps.size=a.tmps.size:=by rw[hput,putTo_size]
  have same:∀ v,slotD o (b.put o.dst v)=v:=by
   intro v
   unfold slotD
   rw[hdo]
   have hlt:d<b.tmps.size:=by rw[hbs];exact hdl
   simp[Act.put,hlt]
  unfold wpOp
  rw[ho]
  dsimp only
  rw[hwt]
  unfold wpList at hD
  split
  ·rename_i hw
   rw[if_pos hw]at hD
   rcases hD with hD | ⟨_,a9,w9,h9,_⟩
   ·refine .inl ?_
    unfold Oper.wp at hD ⊢
    rw[hex]
    generalize (execOp b.eval o).run P W=r at hD ⊢
    cases r with
    | ok n w9 =>
     cases n with
     | value v=>exact⟨v,rfl,(by have:=hD.2.1;rwa [same v]at this),hD.2.2.2,trivial⟩
     | skip=>exact⟨undef,rfl,(by have:=hD.2.1;rwa [same undef]at this),hD.2.2.2,trivial⟩
     | defer dd =>
      exfalso
      have h3:({ b with defers:=dd :: b.defers }.put o.dst undef).defers=b.defers:=hD.2.2.1
      rw[put_defers']at h3
      have:=congrArg List.length h3
      simp at this
     | enter f args =>
      refine Calls.mono hD ?_
      intro e w8 h8
      cases e with
      | returned v=>exact⟨v,rfl,(by have:=h8.2.1;rwa [same v]at this),h8.2.2.2,trivial⟩
      | panicked c=>cases h8.1
      | outgrown=>obtain⟨_,_,h7,_⟩:=h8;cases h7
     | row r args =>
      refine Rows.mono hD ?_
      intro v w8 h8
      exact⟨v,rfl,(by have:=h8.2.1;rwa [same v]at this),h8.2.2.2,trivial⟩
     | _=>exact hD.elim
    | halt h w9 =>
     cases h with
     | panic v=>exact absurd hD.1 (by intro h;cases h)
     | _=>exact hD.elim
   ·cases h9
  ·rename_i hw
   rw[if_neg hw]at hD
   exact⟨undef,rfl,(by have:=hD.2.1;rwa [same undef]at this),hD.2.2.2,trivial⟩
 ·exact hend vals w' (hSk _ _ hS0 hG) hv
end
section
variable {P:Program}
def OwnStay (base:Nat) (e:TypeId) (size n:Nat) (full:List Value) (w w':World):Prop :=
 ∀ v k ys,w.ownsRow base e size v k ys→k≤n∨ys <+: full→w'.ownsRow base e size v k ys
theorem run_append_ownG (w:World) (base:Nat) (t ty e:TypeId) (i:TypeInfo) (z:Value) (size bytes:Nat) (ht:P.underlying t=some (.slice e)) (hi:P.info? e=some i) (hz:i.zero=some z)
  (hsize:i.size=size) (hby:i.bytes=bytes) (hzs:z.cells.size=size) (hsz:0<size)
  (v:Value) (n:Nat) (xs:List Value) (hown:w.ownsRow base e size v n xs)
  (a:Addr) (m c:Nat) (news:List Value) (hl:news.length=m*size) (hnews:∀ j u,news[j]? = some u→w.cell? (a.add j)=some u) (h1:∀ u∈news,u.oneCell'=true)
  (h63:n+m≤maxLen) (hbytes:(n+m)*bytes≤140737488355328) (hbase:base≤w.heap.size) :
  ∃ v' w',(Builtin.append_ #[t,t] ty #[v,.slice (some a) m c]).run P w=.ok v' w'∧w'.ownsRow base e size v' (n+m) (xs++news)∧w.grownBy w' v.ownBlock∧OwnStay base e size n (xs++news) w w':=by
 obtain⟨v',w',hr,h2,h3,_⟩:=run_append_own (P:=P) w base t ty e i z size bytes ht hi hz hsize hby hzs hsz v n xs hown a m c news hl hnews h1 h63 hbytes hbase
 refine⟨v',w',hr,h2,h3,?_⟩
 subst hsize
 rintro v2 k ys hy hk
 refine⟨hy.1,?_⟩
 rcases hy.2 with ⟨h4,h5⟩ | ⟨g,cap,cur,rfl,hbg,hg,hnc,hcm,hcs,htake⟩
 ·exact .inl ⟨h4,h5⟩
 ·by_cases hne:some g=v.ownBlock
  ·rcases hown.2 with ⟨rfl,_⟩ | ⟨g2,cap2,cur2,rfl,hbg2,hg2,hnc2,hcm2,hcs2,htake2⟩
   ·cases hne
   ·have hgg:g2=g:=by simp only[Value.ownBlock]at hne;exact (Option.some.inj hne).symm
    subst hgg
    rw[hg]at hg2
    injection hg2 with hg2
    injection hg2 with hg2
    subst hg2
    by_cases hroom:n+m≤cap2
    ·have hfit:n*i.size+news.length≤cur.size:=by rw[hl,hcs2,←Nat.add_mul];exact Nat.mul_le_mul_right _ hroom
     have hr2:=run_append_room (P:=P) w t ty e i ht hi g2 n cap2 cur hg a m c news hl hnews h1 hroom hfit
     rw[hr]at hr2
     injection hr2 with e1 e2
     refine .inr ⟨g2,cap,_,rfl,hbg,by rw[e2];exact setRow_heap w g2 cur _ e _ hg,hnc,hcm,?_,?_⟩
     ·simp only[List.size_toArray,List.length_append,List.length_take,List.length_drop,Array.length_toList]
      omega
     ·show (cur.toList.take (n*i.size)++news++cur.toList.drop (n*i.size+news.length)).take (k*i.size)=ys
      rcases hk with hk | hk
      ·have hkn:k*i.size≤n*i.size:=Nat.mul_le_mul_right _ hk
       rw[List.append_assoc,List.take_append_of_le_length (by rw[List.length_take,Array.length_toList];omega),List.take_take,Nat.min_eq_left hkn]
       exact htake
      ·obtain⟨rest,hrest⟩:=hk
       rw[htake2,←hrest,List.append_assoc,←hy.1]
       exact List.take_left
    ·have holds:∀ j u,xs[j]? = some u→w.cell? ((⟨g2,0,none⟩:Addr).add j)=some u:=hown.cells (g:=g2) rfl
     have hr2:=run_append_grow (P:=P) w t ty e i z ht hi hz ⟨g2,0,none⟩ n cap2 xs hown.1 holds a m c news hl hnews (by omega) (by simp only[maxLen]at h63;omega) (growslice_fits (by omega) (by rw[hby];exact hbytes))
     rw[hr]at hr2
     injection hr2 with e1 e2
     refine .inr ⟨g2,cap,cur,rfl,hbg,?_,hnc,hcm,hcs,htake⟩
     rw[e2]
     exact (heap_alloc_old w.drew _ (Array.getElem?_eq_some_iff.1 hg).1).trans hg
  ·exact .inr ⟨g,cap,cur,rfl,hbg,(h3.block g (Array.getElem?_eq_some_iff.1 hg).1 hne).trans hg,hnc,hcm,hcs,htake⟩
theorem wpList_append_ownG {ops:Array Oper} {rest:List Oper} {o:Oper} {a:Act} {w:World} {Q:Exit→Act→World→Prop} (hgd:o.guard=none) (s x:Operand) (t:TypeId)
  (ho:o.op=.call { callee:=.builtin .append,args:=#[s,x],argTypes:=#[t,t] })
  (base:Nat) (e:TypeId) (i:TypeInfo) (z:Value) (size bytes:Nat) (ht:P.underlying t=some (.slice e)) (hi:P.info? e=some i) (hz:i.zero=some z)
  (hsize:i.size=size) (hby:i.bytes=bytes) (hzs:z.cells.size=size) (hsz:0<size)
  (v:Value) (n:Nat) (xs:List Value) (hs:a.eval s=v) (hown:w.ownsRow base e size v n xs)
  (ad:Addr) (m c:Nat) (news:List Value) (hx:a.eval x=.slice (some ad) m c) (hl:news.length=m*size) (hnews:∀ j u,news[j]? = some u→w.cell? (ad.add j)=some u) (h1:∀ u∈news,u.oneCell'=true)
  (h63:n+m≤maxLen) (hbytes:(n+m)*bytes≤140737488355328) (hbase:base≤w.heap.size)
  (h:∀ v' w',w'.ownsRow base e size v' (n+m) (xs++news)→w.grownBy w' v.ownBlock→OwnStay base e size n (xs++news) w w'→wpList P ops Q rest (a.put o.dst v') w'):wpList P ops Q (o :: rest) a w:=by
 obtain⟨v',w',hr,h2,h3,h4⟩:=run_append_ownG (P:=P) w base t o.type e i z size bytes ht hi hz hsize hby hzs hsz v n xs hown ad m c news hl hnews h1 h63 hbytes hbase
 refine wpList_plain hgd fun K hK=>?_
 unfold Oper.wp execOp
 simp only[ho,resolve,invoke,builtin,Sem.run_bind,Sem.run_pure,Result.andThen_ok,List.map_toArray,List.map_cons,List.map_nil,hs,hx,hr]
 exact hK _ _ (h v' w' h2 h3 h4)
end
end Go.Proofs.YtlkbkclnbppigaaGreatDoor
