/- Rows of words in memory. -/
import Derived.Test.YticlbkficolocaaGreatDoorIZ0
import Derived.Laws.CopyOwn
import Derived.Deep.DeepCutAuto
import Derived.Test.YticlbkficolocaaGreatDoorIZ1
import Derived.StillTailTactics
namespace Go.Proofs.YticlbkficolocaaGreatDoor
open Go.RowKit Go.Sort
set_option linter.unusedVariables false
set_option linter.unusedSimpArgs false
set_option maxRecDepth 100000
def w32 (l:List Nat):List Value:=l.map fun x:Nat=>Value.int .u32 (x:Int)
def Qi (w:World) (g:Nat) (t:TypeId) (cs:List Value):Prop:=w.heap[g]? = some (.cells cs.toArray t (0,0))
section
variable {w w':World} {g:Nat} {t:TypeId} {cs:List Value}
theorem Qi.lt (h:Qi w g t cs):g<w.heap.size:=by
 rcases Nat.lt_or_ge g w.heap.size with hlt | hge
 ·exact hlt
 ·unfold Qi at h;rw[Array.getElem?_eq_none hge]at h;cases h
theorem Qi.cell (h:Qi w g t cs) {k:Nat} {v:Value} (hk:cs[k]? = some v):w.cell? ⟨g,k,none⟩=some v:=by
 rw[cell_of_row w g k _ t _ h];simpa using hk
theorem Qi.free (h:Qi w g t cs) (k:Nat):w.frozen? ⟨g,k,none⟩=false:=frozen_of_row w g k _ t h
theorem Qi.keep (h:Qi w g t cs) (hb:Below w.heap.size w w'):Qi w' g t cs:=(hb.block g h.lt).trans h
theorem Qi.set_ (h:Qi w g t cs) (k:Nat) (v:Value):Qi (w.setCell ⟨g,k,none⟩ v) g t (cs.set k v):=by
 have:=heap_setCell_same w g k cs.toArray t v h
 unfold Qi
 rw[this];simp
theorem Qi.row (h:Qi w g t cs) (ds:List Value):Qi (w.setRow g ds.toArray) g t ds:=setRow_heap w g _ _ t _ h
theorem Qi.drew (h:Qi w g t cs):Qi w.drew g t cs:=h
theorem Qi.alloc (h:Qi w g t cs) (o:Obj):Qi (w.alloc o) g t cs:=(heap_alloc_old w o h.lt).trans h
theorem Qi.new (w:World) (t:TypeId) (cs:List Value):Qi (w.alloc (.cells cs.toArray t)) w.heap.size t cs:=heap_alloc_new w _
end
def Vo (w:World) (g:Nat) (t:TypeId) (L:List Nat):Prop:=Qi w g t (w32 L)
section
variable {w w':World} {g:Nat} {t:TypeId} {L:List Nat}
theorem w32_at (L:List Nat) {k:Nat} (hk:k<L.length):(w32 L)[k]? = some (.int .u32 ((L.getD k 0:Nat):Int)):=by
 simp[w32,List.getD_eq_getElem?_getD,List.getElem?_eq_getElem hk]
theorem w32_set (L:List Nat) (k v:Nat):w32 (L.set k v)=(w32 L).set k (.int .u32 (v:Int)):=by simp[w32,List.map_set]
theorem Vo.cell (h:Vo w g t L) {k:Nat} (hk:k<L.length):w.cell? ⟨g,k,none⟩=some (.int .u32 ((L.getD k 0:Nat):Int)):=Qi.cell h (w32_at L hk)
theorem Vo.free (h:Vo w g t L) (k:Nat):w.frozen? ⟨g,k,none⟩=false:=Qi.free h k
theorem Vo.keep (h:Vo w g t L) (hb:Below w.heap.size w w'):Vo w' g t L:=Qi.keep h hb
theorem Vo.lt (h:Vo w g t L):g<w.heap.size:=Qi.lt h
theorem Vo.set_ (h:Vo w g t L) (k v:Nat):Vo (w.setCell ⟨g,k,none⟩ (.int .u32 (v:Int))) g t (L.set k v):=by
 unfold Vo
 rw[w32_set];exact Qi.set_ h k _
theorem Vo.drew (h:Vo w g t L):Vo w.drew g t L:=h
end
section
variable {P:Program}
theorem Qw {ops:Array Oper} {rest:List Oper} {o:Oper} {a:Act} {w:World} {Q:Exit→Act→World→Prop} (hgd:o.guard=none) (ty:TypeId) (x:Operand) (ho:o.op=.load ty x)
  (ad:Addr) (v:Value) (hx:a.eval x=.pointer (some ad)) (hl:(loadVar ty ad).run P w=.ok v w)
  (h:wpList P ops Q rest (a.put o.dst v) w):wpList P ops Q (o :: rest) a w:=by
 refine wpList_plain hgd fun K hK=>?_
 unfold Oper.wp execOp
 simp only[ho,hx,Instr.loadAt,Instr.sureAddr,Sem.run_bind,Sem.run_pure,Result.andThen_ok,hl]
 exact hK _ _ h
theorem V9 {ops:Array Oper} {rest:List Oper} {o:Oper} {a:Act} {w:World} {Q:Exit→Act→World→Prop} (hw:Region.wanted o (yielded ops a.tmps)=true) (ty:TypeId) (x:Operand) (ho:o.op=.load ty x)
  (ad:Addr) (v:Value) (hx:a.eval x=.pointer (some ad)) (hl:(loadVar ty ad).run P w=.ok v w)
  (h:wpList P ops Q rest (a.put o.dst v) w):wpList P ops Q (o :: rest) a w:=by
 refine wpList_step fun K hK=>?_
 simp only[hw,if_true]
 unfold Oper.wp execOp
 simp only[ho,hx,Instr.loadAt,Instr.sureAddr,Sem.run_bind,Sem.run_pure,Result.andThen_ok,hl]
 exact hK _ _ h
end
section
variable {P:Program}
theorem wp_build_as {o:Oper} {a:Act} {w:World} {K:Act→World→Prop} {Q:Exit→Act→World→Prop} (t:TypeId) (parts:Array (Nat × Operand)) (ho:o.op=.build t parts) (ps:Array (Nat × Value)) (hp:(parts.map fun (i,x)=>(i,a.eval x))=ps)
  (v:Value) (hr:(Instr.build t ps).run P w=.ok v w) (h:K (a.put o.dst v) w):o.wp P a w K Q:=by
 subst hp
 unfold Oper.wp execOp
 simp only[ho,Sem.run_bind,Sem.run_pure,Result.andThen_ok,hr]
 exact h
theorem wp_buildSlice_as {o:Oper} {a:Act} {w:World} {K:Act→World→Prop} {Q:Exit→Act→World→Prop} (t:TypeId) (n:Nat) (parts:Array (Nat × Operand)) (ho:o.op=.buildSlice t n parts) (ps:Array (Nat × Value)) (hp:(parts.map fun (i,x)=>(i,a.eval x))=ps)
  (v:Value) (w':World) (hr:(Instr.buildSlice t n ps).run P w=.ok v w') (h:K (a.put o.dst v) w'):o.wp P a w K Q:=by
 subst hp
 unfold Oper.wp execOp
 simp only[ho,Sem.run_bind,Sem.run_pure,Result.andThen_ok,hr]
 exact h
theorem wpList_build_as {ops:Array Oper} {rest:List Oper} {o:Oper} {a:Act} {w:World} {Q:Exit→Act→World→Prop} (hgd:o.guard=none) (t:TypeId) (parts:Array (Nat × Operand)) (ho:o.op=.build t parts) (ps:Array (Nat × Value)) (hp:(parts.map fun (i,x)=>(i,a.eval x))=ps)
  (v:Value) (hr:(Instr.build t ps).run P w=.ok v w) (h:wpList P ops Q rest (a.put o.dst v) w):wpList P ops Q (o :: rest) a w :=
 wpList_plain hgd fun _ hK=>wp_build_as t parts ho ps hp v hr (hK _ _ h)
theorem UX {ops:Array Oper} {rest:List Oper} {o:Oper} {a:Act} {w:World} {Q:Exit→Act→World→Prop} (hgd:o.guard=none) (t:TypeId) (n:Nat) (parts:Array (Nat × Operand)) (ho:o.op=.buildSlice t n parts) (ps:Array (Nat × Value)) (hp:(parts.map fun (i,x)=>(i,a.eval x))=ps)
  (v:Value) (w':World) (hr:(Instr.buildSlice t n ps).run P w=.ok v w') (h:wpList P ops Q rest (a.put o.dst v) w'):wpList P ops Q (o :: rest) a w :=
 wpList_plain hgd fun _ hK=>wp_buildSlice_as t n parts ho ps hp v w' hr (hK _ _ h)
end
def exOne (T:Nat) (sg:Bool):List Value:=[.string (⟨#[114,49]⟩:ByteArray),.string (⟨#[97,99,109,101,47,110,101,119,115,47,42,42]⟩:ByteArray),.slice (some ⟨T,0,none⟩) 1 1,.int .i64 10,.int .i64 0,.int .i64 0,.int .i64 0,.slice none 0 0,.int .i64 0,.int .i64 1099511627777,.string ⟨#[]⟩,.slice none 0 0,.slice none 0 0,.slice none 0 0,.int .i64 0,.bool sg,.int .i64 0,.string ⟨#[]⟩]
def exTwo (sg:Bool):List Value:=[.string (⟨#[114,50]⟩:ByteArray),.string (⟨#[97,99,109,101,47,42,42]⟩:ByteArray),.slice none 0 0,.int .i64 100,.int .i64 50,.int .i64 1000,.int .i64 5,.slice none 0 0,.int .i64 0,.int .i64 1099511627777,.string ⟨#[]⟩,.slice none 0 0,.slice none 0 0,.slice none 0 0,.int .i64 0,.bool sg,.int .i64 0,.string ⟨#[]⟩]
def b8 (l:List Nat):List Value:=l.map fun x:Nat=>Value.int .u8 (x:Int)
section
variable {S:List Nat}
end
def nb (s:ByteArray):List Nat:=s.data.toList.map (·.toNat)
def stL (s:Sha.St):List Nat:=[s.a,s.b,s.c,s.d,s.e,s.f,s.g,s.h]
def strLH (s:Sha.St) (blk:List Nat) (n:Nat):List Value:=w32 (stL s)++(b8 blk++[.int .u64 (n:Int)])
section
variable {s:Sha.St} {blk:List Nat} {n:Nat}
end
def StrV (m:List Nat) (v:Value):Prop:=∃ st blk,v=.agg (strLH st blk m.length).toArray∧Sha.Str m st blk∧∀ x∈blk,x<256
end Go.Proofs.YticlbkficolocaaGreatDoor
