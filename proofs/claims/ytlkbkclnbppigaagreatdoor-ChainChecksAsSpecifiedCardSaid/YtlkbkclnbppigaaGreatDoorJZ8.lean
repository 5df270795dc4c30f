/- The schedule of a block. -/
import Derived.Test.YtlkbkclnbppigaaGreatDoorJZ5
import Derived.StillTailTactics
import Derived.Test.YtlkbkclnbppigaaGreatDoorJZ6
set_option maxHeartbeats 4000000
namespace Go.Proofs.YtlkbkclnbppigaaGreatDoor
open Tryz
open Go.RowKit Go.Sort
set_option linter.unusedVariables false
set_option linter.unusedSimpArgs false
set_option maxRecDepth 100000
def b8(l:List Nat):List Value:=l.map fun x:Nat=>Value.int .u8 (x:Int)
theorem lT(l:List Nat){k:Nat}(hk:k<l.length):(b8 l)[k]? = some (.int .u8 ((l.getD k 0:Nat):Int)):=by
 simp[b8,List.getD_eq_getElem?_getD,List.getElem?_eq_getElem hk]
def pre(S:List Nat)(t:Nat):List Nat:=S.take t++List.replicate (64-t) 0
section
variable {S:List Nat}
theorem pR(hS:S.length=64){t:Nat}(h:t<=64):(pre S t).length=64:=by
 unfold pre;simp[hS];omega
theorem sU(hS:S.length=64){t k:Nat}(hk:k<t)(ht:t<=64):(pre S t).getD k 0=S.getD k 0:=by
 unfold pre;rw[List.getD_eq_getElem?_getD,List.getElem?_append_left (by simp[hS];omega),<-List.getD_eq_getElem?_getD,Sha.getD_take hk]
theorem I7(hS:S.length=64){t k:Nat}(hk:t<=k)(ht:t<=64):(pre S t).getD k 0=0:=by
 unfold pre;rw[List.getD_eq_getElem?_getD,List.getElem?_append_right (by simp[hS];omega)];rw[List.getElem?_replicate];split <;> simp
theorem I9(l:List Nat)(hl:l.length=64)(k:Nat):l[k]? = if k<64 then some (l.getD k 0) else none:=by
 split
 ·rw[List.getD_eq_getElem?_getD,List.getElem?_eq_getElem aA];simp
 ·exact List.getElem?_eq_none aA
theorem Dn(hS:S.length=64){t:Nat}(ht:t<64):(pre S t).set t (S.getD t 0)=pre S (t+1):=by
 apply List.ext_getElem?;intro k;rw[I9 _ (by rw[List.length_set];exact pR hS aA),I9 _ (pR hS aA)];split
 ·congr 1;rcases Nat.lt_trichotomy k t with h | h | h
  ·rw[sU hS aA aA,<-sU hS h aA,List.getD_eq_getElem?_getD,List.getElem?_set_ne aA,<-List.getD_eq_getElem?_getD]
  ·subst h;rw[sU hS aA aA,List.getD_eq_getElem?_getD,List.getElem?_set_self (by rw[pR hS aA];omega),Option.getD_some]
  ·rw[I7 hS aA aA,List.getD_eq_getElem?_getD,List.getElem?_set_ne aA,<-List.getD_eq_getElem?_getD,I7 hS (Nat.le_of_lt h) aA]
 ·rfl
theorem U8(S:List Nat):pre S 0=List.replicate 64 0:=by simp[pre]
theorem aJt(hS:S.length=64):pre S 64=S:=by
 unfold pre;rw[List.take_of_length_le aA];simp
theorem aJu(hS:S.length=64){t:Nat}(ht:t<64):(pre S t).set t 0=pre S t:=by
 apply List.ext_getElem?;intro k;by_cases h:t=k
 ·subst h;rw[List.getElem?_set_self (by rw[pR hS aA];omega),I9 _ (pR hS aA),if_pos ht,I7 hS (Nat.le_refl _) aA]
 ·rw[List.getElem?_set_ne h]
theorem set_set(L:List Nat)(t a v:Nat):(L.set t a).set t v=L.set t v:=List.set_set ..
theorem aJv{L:List Nat}{t v:Nat}(h:t<L.length):(L.set t v).getD t 0=v:=by
 rw[List.getD_eq_getElem?_getD,List.getElem?_set_self h,Option.getD_some]
end
theorem or8(a x:Nat)(ha:a<16777216)(hx:x<256):bits .or .u32 ((a:Int)*256) (x:Int)=((a*256+x:Nat):Int):=by
 have h:=u32_or_nat (a*256) x aA aA;rw[Sha.or_byte a x hx]at h;have e:((a*256:Nat):Int)=(a:Int)*256:=aA;rw[e]at h;exact h
structure aJw(b S:List Nat):Prop where
 len:S.length=64
 lo:∀ t,t<16->S.getD t 0=Sha.part (b.drop (4*t)) 4
 hi:∀ t,16<=t->t<64->S.getD t 0=Sha.add32 (Sha.add32 (Sha.add32 (S.getD (t-16) 0) (Sha.s0 (S.getD (t-15) 0))) (S.getD (t-7) 0)) (Sha.s1 (S.getD (t-2) 0))
 lt:∀ t,S.getD t 0<4294967296
theorem U9{b:List Nat}(hb:∀ x∈b,x<256):aJw b (Sha.sched b) :=
 ⟨Sha.sched_len b,fun t h=>by rw[Sha.sched_lo b t h,Sha.part4],Sha.sched_hi b,Sha.sched_lt hb⟩
theorem Yl(A:Option Addr)(c:Nat)(b:List Nat)(w:World)(hR:aH w 1 A 64 (b8 b))(hb:∀ x∈b,x<256)(hc:64<=c)(hc2:c<=1000000000) :
  Calls prog 230 #[.slice A 64 c] w (Ret w (.agg (w32 (Sha.sched b)).toArray)):=by
 obtain⟨bb,bo,rfl,hcell⟩:=hR.2 aK;have hbl:b.length=64:=Dp;have hlt:bb<w.heap.size:=by
  have:=hcell 0 _ (lT b (k:=0) aA);exact bf this
 have hS:=U9 hb;generalize Sha.sched b=S at *;have HS:=aB hS;have HB:=aB hb;have HL:=aB hbl;have HC:=aB (fun k hk=>hcell k _ (lT b (k:=k) hk));clear hR hb hbl hcell hS;go_enter func230,ntmps230;go_wp2;go_loopw [11] (fun i wr=>∃ t:Nat,t<=64/\i=.int .i64 t/\Hid (ah wr (w.heap.size+1) 265 (pre S t))/\Hid (ah wr w.heap.size 265 (pre S 0))/\Below w.heap.size w wr) (fun i _=>64-(intOf i).toNat)
 case atStart =>
  exact VC
 case round =>
  obtain⟨t,ht,rfl,HW,HZ,hbw⟩:=hrel;have hsz:w.heap.size+1<wr.heap.size:=HW.out.lt;by_cases h64:t<64
  ·by_cases h16:t<16
   ·have hct:4*t+4<=c:=aA;have hpd:∀ j,j<4->wr.cell? ⟨bb,bo+(4*t+j),none⟩=some (.int .u8 (b.getD (4*t+j) 0:Nat)):=fun j hj=>aP hbw (HC.out (4*t+j) dR)
    have HP:=aB hpd;clear hpd;obtain⟨d,hd⟩:∃ d,d=b.drop (4*t):=⟨_,rfl⟩;have hdl:∀ j,d.getD j 0=b.getD (4*t+j) 0:=fun j=>by rw[hd,Sha.getD_drop]
    have hdb:∀ j,d.getD j 0<256:=fun j=>by rw[hdl];exact Sha.getD_lt HB.out _
    have h4:Sha.part d 4=S.getD t 0:=by rw[hd];exact (HS.out.lo t h16).symm
    have HD:=aB hdl;have HE:=aB hdb;have H4:=aB h4;clear hd hdl hdb h4;go_wp2_with fail;obtain⟨wo,rfl⟩:∃ wo:World,wo=wr:=⟨_,rfl⟩;go_loopw [24] (fun i wi=>∃ j:Nat,j<=4/\i=.int .i64 j/\Hid (ah wi (w.heap.size+1) 265 ((pre S t).set t (Sha.part d j)))/\Hid (ah wi w.heap.size 265 (pre S 0))/\Below w.heap.size w wi) (fun i _=>4-(intOf i).toNat)
    case atStart =>
     refine⟨0,aA,rfl,aB ?_,HZ,hbw⟩;show ah _ _ _ ((pre S t).set t 0);rw[aJu HS.out.len h64];exact HW.out
    case round =>
     obtain⟨j,hj,rfl,HW2,HZ2,hb2⟩:=hrel;have hsz2:w.heap.size+1<wr.heap.size:=HW2.out.lt;by_cases hj4:j<4
     ·have hx:wr.cell? ⟨bb,bo+4*t+j,none⟩=some (.int .u8 (d.getD j 0:Nat)):=by rw[HD.out j,Nat.add_assoc];exact aP hb2 (HC.out (4*t+j) dR)
      have hy:=HE.out j;have hp:=Sha.part_lt d HE.out j;have hp2:Sha.part d j<16777216:=by
       have:256 ^ j<=256 ^ 3:=Nat.pow_le_pow_right aK aA;omega
      have hcw:=HW2.out.cell (k:=t) (by rw[List.length_set,pR HS.out.len aA];exact h64);rw[aJv (by rw[pR HS.out.len aA];exact h64)]at hcw;have hfw:=HW2.out.free t;have ho:=or8 (Sha.part d j) (d.getD j 0) hp2 hy;have hs:Sha.part d (j+1)=Sha.part d j*256+d.getD j 0:=rfl;rw[<-hs]at ho;have HW3:Hid (∀ W,ah W (w.heap.size+1) 265 ((pre S t).set t (Sha.part d j))->ah (W.setCell ⟨w.heap.size+1,t,none⟩ (.int .u32 (Sha.part d (j+1):Nat))) (w.heap.size+1) 265 ((pre S t).set t (Sha.part d (j+1)))):=aB fun W h=>by
       have:=h.set_ t (Sha.part d (j+1));rw[set_set]at this;exact this
      clear hs hp;generalize d.getD j 0=x at *;generalize Sha.part d j=y at *;go_wp2_with fail;exact⟨⟨j+1,aA,aj,aB (HW3.out _ HW2.out),aB (HZ2.out.far _ _ aF),aG⟩,au⟩
     ·have hj':j=4:=aA;have HW3:Hid (ah wr (w.heap.size+1) 265 (pre S (t+1))):=aB (by
       have:=HW2.out;rw[hj',H4.out,Dn HS.out.len h64]at this;exact this)
      clear hj';go_wp2_with fail;exact⟨⟨t+1,aA,aj,HW3,HZ2,hb2⟩,au⟩
   ·have e1:=sU HS.out.len (k:=t-15) (t:=t) aA ht;have e2:=sU HS.out.len (k:=t-2) (t:=t) aA ht;have e3:=sU HS.out.len (k:=t-16) (t:=t) aA ht;have e4:=sU HS.out.len (k:=t-7) (t:=t) aA ht;have c1:=HW.out.cell (k:=t-15) xG;have c2:=HW.out.cell (k:=t-2) xG;have c3:=HW.out.cell (k:=t-16) xG;have c4:=HW.out.cell (k:=t-7) xG;have c5:=HW.out.cell (k:=t) xG;have f5:=HW.out.free t;rw[e1]at c1;rw[e2]at c2;rw[e3]at c3;rw[e4]at c4;clear e1 e2 e3 e4;have hi:=HS.out.hi t aA h64;have l1:=HS.out.lt (t-15);have l2:=HS.out.lt (t-2);have l3:=HS.out.lt (t-16);have l4:=HS.out.lt (t-7);have HN:Hid (∀ W,ah W (w.heap.size+1) 265 (pre S t)->ah (W.setCell ⟨w.heap.size+1,t,none⟩ (.int .u32 (S.getD t 0:Nat))) (w.heap.size+1) 265 (pre S (t+1))):=aB fun W h=>by
     have:=h.set_ t (S.getD t 0);rw[Dn HS.out.len h64]at this;exact this
    generalize S.getD t 0=x0 at *;generalize S.getD (t-15) 0=p at *;generalize S.getD (t-2) 0=q at *;generalize S.getD (t-16) 0=x3 at *;generalize S.getD (t-7) 0=x4 at *;have i1:(0:Int)<=(t:Int)-15:=aA;have i2:(0:Int)<=(t:Int)-2:=aA;have i3:(0:Int)<=(t:Int)-16:=aA;have i4:(0:Int)<=(t:Int)-7:=aA;have n1:((t:Int)-15).toNat=t-15:=aA;have n2:((t:Int)-2).toNat=t-2:=aA;have n3:((t:Int)-16).toNat=t-16:=aA;have n4:((t:Int)-7).toNat=t-7:=aA;have HI:=aB hi;clear hi;have r1:=aB fun W=>uY p 7 W l1 aA aA
    have r2:=aB fun W=>uY p 18 W l1 aA aA
    have r3:=aB fun W=>uY q 17 W l2 aA aA
    have r4:=aB fun W=>uY q 19 W l2 aA aA
    have x1:=jX (Sha.rot p 7) (Sha.rot p 18) (Sha.rot_lt p 7 l1) (Sha.rot_lt p 18 l1);have x2:bits .xor .u32 ((Sha.rot p 7 ^^^ Sha.rot p 18:Nat):Int) ((p:Int) / 8)=((Sha.s0 p:Nat):Int):=jX (Sha.rot p 7 ^^^ Sha.rot p 18) (p / 8) (Sha.xor_lt (Sha.rot_lt p 7 l1) (Sha.rot_lt p 18 l1)) aA;have x3':=jX (Sha.rot q 17) (Sha.rot q 19) (Sha.rot_lt q 17 l2) (Sha.rot_lt q 19 l2);have x4':bits .xor .u32 ((Sha.rot q 17 ^^^ Sha.rot q 19:Nat):Int) ((q:Int) / 1024)=((Sha.s1 q:Nat):Int):=jX (Sha.rot q 17 ^^^ Sha.rot q 19) (q / 1024) (Sha.xor_lt (Sha.rot_lt q 17 l2) (Sha.rot_lt q 19 l2)) aA;have l5:=Sha.s0_lt p l1;have l6:=Sha.s1_lt q l2;go_wp2_with fail;go_quiet (fail);go_wp2_with fail;refine (r1.out _).mono ?_;rintro e w1 ⟨rfl,rfl⟩;go_wp2_with fail;refine (r2.out _).mono ?_;rintro e w1 ⟨rfl,rfl⟩;go_wp2_with fail;refine (r3.out _).mono ?_;rintro e w1 ⟨rfl,rfl⟩;go_wp2_with fail;refine (r4.out _).mono ?_;rintro e w1 ⟨rfl,rfl⟩;go_wp2_with fail;generalize Sha.s0 p=s0 at *;generalize Sha.s1 q=s1 at *;have v3:IntKind.i64.wrap ((t:Int)-16)=(t:Int)-16:=IntWalk.i64_in _ aA;have v4:IntKind.i64.wrap ((t:Int)-7)=(t:Int)-7:=IntWalk.i64_in _ aA;have j3:(t:Int)-16<64:=aA;have j4:(t:Int)-7<64:=aA;have j5:(7:Int)<=t:=aA;obtain⟨wd,hwd⟩:∃ wd,wd=(wr.drewN nq).drew:=⟨_,rfl⟩;have d3:wd.cell? ⟨w.heap.size+1,t-16,none⟩=some (.int .u32 x3):=by rw[hwd];exact c3
    have d4:wd.cell? ⟨w.heap.size+1,t-7,none⟩=some (.int .u32 x4):=by rw[hwd];exact c4
    have d5:wd.cell? ⟨w.heap.size+1,t,none⟩=some (.int .u32 ((pre S t).getD t 0:Nat)):=by rw[hwd];exact c5
    have df:wd.frozen? ⟨w.heap.size+1,t,none⟩=false:=by rw[hwd];exact f5
    have HW':Hid (ah wd (w.heap.size+1) 265 (pre S t)):=aB (by rw[hwd];exact HW.out);have HZ':Hid (ah wd w.heap.size 265 (pre S 0)):=aB (by rw[hwd];exact HZ.out);have hbd:Below w.heap.size w wd:=by rw[hwd];exact (qw hbw _).drew
    have hszd:w.heap.size+1<wd.heap.size:=HW'.out.lt;refine wp_region_still_tail 14 aC aC ?_;simp only[List.take_succ_cons,List.take_zero,List.drop_succ_cons,List.drop_zero];change wpStill _ _ (wr.drewN nq).drew _ _ _;rw[<-hwd];clear c1 c2 c3 c4 c5 f5 HW HZ hbw hsz;have HWD:=aB hwd;clear hwd;repeat still_step
    refine wpStill_nil ?_;change wpList _ _ _ _ _ (wr.drewN nq).drew;rw[<-HWD.out];clear v3 v4 j3 j4 j5 HWD;go_wp2_with fail;refine⟨⟨t+1,aA,aj,aB ?_,aB (HZ'.out.far _ _ aF),aG⟩,au⟩;have:=HN.out _ HW'.out;rw[show ((x0:Nat):Int)=((x3:Int)+s0+x4+s1) % 4294967296 by rw[HI.out];unfold Sha.add32;omega]at this;exact this
  ·exact VD
section
variable {P:Program}
theorem aJx(w:World)(r:Option Nat):w.grownBy w r:=⟨rfl,rfl,rfl,Nat.le_refl _,fun _ _ _=>rfl⟩
theorem wL{ops:Array Oper}{rest:List Oper}{o:Oper}{a:Act}{Q:Exit->Act->World->Prop}(w:World)(hgd:o.guard=none)(s x:Operand)(t:TypeId)
  (ho:o.op=.call { callee:=.builtin .append,args:=#[s,x],argTypes:=#[t,t] })
  (base:Nat) (e:TypeId) (i:TypeInfo) (z:Value) (bytes:Nat) (ht:P.underlying t=some (.slice e)) (hi:P.info? e=some i) (hz:i.zero=some z)
  (hsize:i.size=1) (hby:i.bytes=bytes) (hzs:z.cells.size=1)
  (v:Value) (n:Nat) (xs:List Value) (hs:a.eval s=v) (hown:w.ownsRow base e 1 v n xs)
  (A:Option Addr) (m c:Nat) (ys:List Value) (hx:a.eval x=.slice A m c) (hR:aH w 1 A m ys) (h1:∀ u∈ys,u.oneCell'=true)
  (h63:n+m<=maxLen) (hbytes:(n+m)*bytes<=140737488355328) (hbase:base<=w.heap.size)
  (h:∀ v' w',w'.ownsRow base e 1 v' (n+m) (xs++ys)->w.grownBy w' v.ownBlock->wpList P ops Q rest (a.put o.dst v') w'):wpList P ops Q (o :: rest) a w:=by
 rcases Nat.eq_zero_or_pos m with h0 | h0
 ·subst h0;have hys:ys=[]:=List.eq_nil_of_length_eq_zero (by have:=hR.1;omega);subst hys;have hh:=h v w (by rw[List.append_nil];exact hown) (aJx w _);obtain⟨A0,k0,c0,hv,hle⟩:∃ A0 k0 c0,v=.slice A0 k0 c0/\k0<=c0:=by
   rcases hown.2 with ⟨e1,_⟩ | ⟨g,cap,cur,e1,_,_,hle,_⟩
   ·exact⟨none,0,0,e1,Nat.le_refl _⟩
   ·exact⟨_,n,cap,e1,hle⟩
  have hr:=run_append_nothing w t t o.type e i ht hi A0 k0 c0 hle (.slice A 0 c) ⟨.inl ⟨e,ht⟩,fun w'=>by simp[Builtin.lenOf],VF,VF,aF,aF⟩;refine wpList_plain hgd fun K hK=>?_
  unfold Oper.wp execOp;simp only[ho,resolve,invoke,builtin,Sem.run_bind,Sem.run_pure,Result.andThen_ok,List.map_toArray,List.map_cons,List.map_nil,hs,hx,hv,hr];rw[<-hv];exact hK _ _ hh
 ·obtain⟨pb,po,rfl,hcell⟩:=hR.2 h0;refine wpList_append_own w hgd s x t ho base e i z 1 bytes ht hi hz hsize hby hzs aK v n xs hs hown ⟨pb,po,none⟩ m c ys hx hR.1 (fun j u hj=>?_) h1 h63 hbytes hbase (fun v' w' h2 h3 _=>h v' w' h2 h3);have:=hcell j u hj;rw[show (⟨pb,po,none⟩:Addr).add j=⟨pb,po+j,none⟩ by unfold Addr.add;split <;> simp_all];exact this
end
section
variable {P:Program}
theorem aJy{o:Oper}{a:Act}{w:World}{K:Act->World->Prop}{Q:Exit->Act->World->Prop}(t:TypeId)(n:Nat)(parts:Array (Nat × Operand))(ho:o.op=.buildSlice t n parts)(ps:Array (Nat × Value))(hp:(parts.map fun (i,x)=>(i,a.eval x))=ps)
  (v:Value) (w':World) (hr:(Instr.buildSlice t n ps).run P w=.ok v w') (h:K (a.put o.dst v) w'):o.wp P a w K Q:=by
 exact VG
theorem UT{ops:Array Oper}{rest:List Oper}{o:Oper}{a:Act}{w:World}{Q:Exit->Act->World->Prop}(hgd:o.guard=none)(t:TypeId)(n:Nat)(parts:Array (Nat × Operand))(ho:o.op=.buildSlice t n parts)(ps:Array (Nat × Value))(hp:(parts.map fun (i,x)=>(i,a.eval x))=ps)
  (v:Value) (w':World) (hr:(Instr.buildSlice t n ps).run P w=.ok v w') (h:wpList P ops Q rest (a.put o.dst v) w'):wpList P ops Q (o :: rest) a w :=
 wpList_plain hgd fun _ hK=>aJy t n parts ho ps hp v w' hr (hK _ _ h)
theorem iV{o:Oper}{a:Act}{w:World}{K:Act->World->Prop}{Q:Exit->Act->World->Prop}(ty:TypeId)(x:Operand)(ho:o.op=.load ty x)
  (ad:Addr) (v:Value) (hx:a.eval x=.pointer (some ad)) (hl:(loadVar ty ad).run P w=.ok v w) (h:K (a.put o.dst v) w):o.wp P a w K Q:=by
 unfold Oper.wp execOp;simp only[ho,hx,Instr.loadAt,Instr.sureAddr,Sem.run_bind,Sem.run_pure,Result.andThen_ok,hl];exact h
end
section
variable {P:Program} {Q:Exit->Act->World->Prop}
def Region.deps(ops:Array Oper)(md:Region.Mode)(m:Nat):Bool :=
 (List.range m).all fun i=>match ops[i]? with
  | none=>false
  | some o=>(match o.op with | .select ..=>false | _=>true)&&(o.looksAt ops).all fun t =>
   ((List.range m).all fun j=>bW ops j != some t)||o.after.any fun e=>Region.binds md e&&decide (e.on<m)&&bW ops e.on==some t
theorem JA(ops:Array Oper)(a1:Act)(V:Nat->Value)(m:Nat):jb ops a1 V (m+1)=(jb ops a1 V m).put (bW ops m) (V m):=by
 unfold jb;rw[List.range_succ,List.foldl_append];rfl
theorem aJz(a:Act)(d:Option Tmp)(v:Value):(a.put d v).tmps.size=a.tmps.size:=by
 cases d with
 | none=>rfl
 | some d=>simp[Act.put]
theorem VH(a:Act)(d:Option Tmp)(v:Value):(a.put d v).defers=a.defers:=by
 cases d <;> rfl
theorem Dq(ops:Array Oper)(a1:Act)(V:Nat->Value):∀ m,(jb ops a1 V m).tmps.size=a1.tmps.size
 | 0=>rfl
 | m+1=>by rw[JA,aJz];exact Dq ops a1 V m
theorem JB(ops:Array Oper)(a1:Act)(V:Nat->Value){t:Nat}:∀ m,(∀ j,j<m->bW ops j≠some t)->(jb ops a1 V m).tmps[t]? = a1.tmps[t]?
 | 0,_=>rfl
 | m+1,h=>by
  rw[JA];have ih:=JB ops a1 V m (fun j hj=>h j aA);cases hd:bW ops m with
  | none=>exact ih
  | some d =>
   have hne:d≠t:=fun e=>h m aA (by rw[hd,e])
   simp only[Act.put,Array.getElem?_setIfInBounds_ne hne];exact ih
theorem Dt(ops:Array Oper)(a1:Act)(V:Nat->Value){t:Nat}(ht:t<a1.tmps.size):∀ m,(∀ i j,i<m->j<m->bW ops i=some t->bW ops j=some t->i=j)->∀ j,j<m->bW ops j=some t->(jb ops a1 V m).tmps[t]? = some (V j)
 | 0,_,_,hj,_=>aA
 | m+1,h,j,hj,hjt=>by
  rw[JA];by_cases hjm:j=m
  ·subst hjm;rw[hjt];have:t<(jb ops a1 V j).tmps.size:=by rw[Dq];exact ht
   simp[Act.put,this]
  ·have hne:bW ops m≠some t:=fun e=>hjm (h j m hj aA hjt e)
   have ih:=Dt ops a1 V ht m (fun i j hi hj=>h i j aA aA) j aA hjt;cases hd:bW ops m with
   | none=>exact ih
   | some d =>
    have hne2:d≠t:=fun e=>hne (by rw[hd,e])
    simp only[Act.put,Array.getElem?_setIfInBounds_ne hne2];exact ih
theorem VI:∀(l:List Oper)(V V':Nat->Value)(k:Nat)(a:Act),(∀ j,j<l.length->V (k+j)=V' (k+j))->aX l V k a=aX l V' k a
 | [],_,_,_,_,_=>rfl
 | o :: l,V,V',k,a,h=>by
  unfold aX;rw[show V k=V' k from h 0 aF];exact VI l V V' (k+1) _ (fun j hj=>by have:=h (j+1) ni;rwa [show k+(j+1)=k+1+j by omega]at this)
theorem Ae{S:Nat->Oper->Prop}:∀(l:List Oper)(k:Nat),(∀ i o,l[i]? = some o->S (k+i) o)->qg S k l
 | [],_,_=>trivial
 | o :: l,k,h=>⟨h 0 o rfl,Ae l (k+1) (fun i o' ho=>by have:=h (i+1) o' ho;rwa [show k+(i+1)=k+1+i by omega]at this)⟩
def QD(b:Act)(w:World):Exit->Act->World->Prop:=fun e a' w'=>e=.normal/\a'=b/\Below w.heap.size w w'
def JC(P:Program)(ops:Array Oper)(S:World->Prop)(b:Act):List Oper->Prop
 | []=>True
 | o :: l=>(∀ W,S W->wpList P ops (QD b W) [o] b W)/\JC P ops S b l
theorem VJ{ops:Array Oper}{S:World->Prop}{b:Act}:∀(l:List Oper),JC P ops S b l->∀(i:Nat)(o:Oper),l[i]? = some o->∀ W,S W->wpList P ops (QD b W) [o] b W
 | [],_,i,o,h=>mW
 | o :: l,h,0,o',ho=>by
  obtain rfl:o=o':=vI;exact h.1
 | _ :: l,h,i+1,o',ho=>VJ l h.2 i o' vI
theorem VL{ops:Array Oper}{t t':Array Value}{j:Nat}(h:∀ d,bW ops j=some d->t[d]? = t'[d]?):yielded ops t j=yielded ops t' j:=by
 unfold yielded;show (match (bW ops j).bind (t[·]?) with | some (.bool b)=>some b | _=>none)=(match (bW ops j).bind (t'[·]?) with | some (.bool b)=>some b | _=>none);cases hd:bW ops j with
 | none=>rfl
 | some d=>simp only[Option.bind_some,h d hd]
theorem kV{l:List Oper}(m:Nat){id:Nat}{a:Act}{w:World}(hm:P.follows .mixedOrders=true)(hB:Region.freeB .any l m a.tmps.size=true)(hdep:Region.deps l.toArray .any m=true)
  (V:Nat->Value) (S:World->Prop) (hS0:S { w with drawn:=w.drawn+1 }) (hSk:∀ w w',S w->Below w.heap.size w w'->S w')
  (hops:JC P l.toArray S (aX (l.take m) V 0 a) (l.take m))
  (hend:∀ w',S w'->wpList P l.toArray Q (l.drop m) (aX (l.take m) V 0 a) w'):(Code.region id l.toArray true).wp P Q a w:=by
 have hB2:=hB;unfold Region.freeB at hB2;simp only[Bool.and_eq_true,decide_eq_true_eq]at hB2;obtain⟨⟨⟨hml,hf⟩,_⟩,_⟩:=hB2;have fair:∀ i,i<m->∃ o d,l[i]? = some o/\(∀ e∈o.after,Region.binds .any e=true->e.on<i)/\o.dst=some d/\d<a.tmps.size/\∀ j,j≠i->bW l.toArray j≠some d:=by
  intro i hi;have h:=List.all_eq_true.1 hf i (List.mem_range.2 hi);cases ho:l[i]? with
  | none=>rw[List.getElem?_toArray,ho]at h;cases h
  | some o =>
   rw[List.getElem?_toArray,ho]at h;dsimp only at h;rw[Bool.and_eq_true,Array.all_eq_true']at h;cases hd:o.dst with
   | none=>rw[hd]at h;cases h.2
   | some d =>
    exact Ei
 have hput:aX (l.take m) V 0 a=jb l.toArray a V m:=by
  exact Ej
 generalize hb:aX (l.take m) V 0 a=b at *;refine tX m hm hB (fun a b=>Below a.heap.size a b) (fun a=>Below.refl _ _) (fun a b c h k=>h.trans (k.mono h.size)) (fun i v _=>v=V i) (fun _ _ _ _ h _=>h) (fun _ _=>True) trivial (Ae _ _ (fun i o hi=>?_)) (fun vals w' hG _ hv=>?_)
 ·rw[Nat.zero_add];intro ho L a' W _ _ _ _ hG hA hd;have hilt:i<m:=by
   exact Em
  have hSW:S W:=hSk _ _ hS0 hG;have hD:=VJ _ hops i o hi W hSW;obtain⟨o',d,ho',hback,hdo,hdl,hdd⟩:=fair i hilt;obtain rfl:o=o':=by rw[List.getElem?_toArray]at ho;exact Option.some.inj (ho.symm.trans ho')
  have hdist:∀ t i j,i<m->j<m->bW l.toArray i=some t->bW l.toArray j=some t->i=j:=by
   intro t i j hi hj h1 h2;obtain⟨oi,di,hoi,_,hdi,_,hddi⟩:=fair i hi;have e1:bW l.toArray i=some di:=by unfold bW;rw[List.getElem?_toArray,hoi];exact hdi
   by_cases hij:j=i
   ·exact hij.symm
   ·exact absurd (by rw[h2,<-h1,e1]) (hddi j hij)
  have look:∀ t∈o.looksAt l.toArray,a'.tmps[t]? = b.tmps[t]?:=by
   intro t ht;have h:=List.all_eq_true.1 hdep i (List.mem_range.2 hilt);rw[ho]at h;dsimp only at h;rw[Bool.and_eq_true,List.all_eq_true]at h;have h2:=h.2 t ht;rw[Bool.or_eq_true]at h2;rcases h2 with h2 | h2
   ·have hoff:∀ j,j<m->bW l.toArray j≠some t:=fun j hj=>by
     have:=List.all_eq_true.1 h2 j (List.mem_range.2 hj);simpa using this
    rw[hA.off t hoff,hput,JB _ _ _ m hoff]
   ·rw[Array.any_eq_true']at h2;obtain⟨e,he,h2⟩:=h2;rw[Bool.and_eq_true,Bool.and_eq_true,decide_eq_true_eq,beq_iff_eq]at h2;obtain⟨⟨hbd,hem⟩,hdt⟩:=h2;have hv:jQ l.toArray a' e.on=V e.on:=hd e he hbd;obtain⟨oe,de,hoe,_,hde,hdel,_⟩:=fair e.on hem;have e1:bW l.toArray e.on=some de:=by unfold bW;rw[List.getElem?_toArray,hoe];exact hde
    obtain rfl:de=t:=Option.some.inj (e1.symm.trans hdt);unfold jQ at hv;rw[e1]at hv;dsimp only at hv;rw[hput,Dt _ _ _ hdel m (hdist de) e.on hem e1];have hlt:de<a'.tmps.size:=by rw[hA.size];exact hdel
    rw[Array.getD_eq_getD_getElem?,Array.getElem?_eq_getElem hlt]at hv;rw[Array.getElem?_eq_getElem hlt,<-hv];rfl
  have hex:execOp a'.eval o=execOp b.eval o:=by
   refine execOp_congr o (fun cs bl hs=>?_) (fun x hx=>?_)
   ·have h:=List.all_eq_true.1 hdep i (List.mem_range.2 hilt);rw[ho]at h;dsimp only at h;rw[hs]at h;cases h
   ·cases x with
    | tmp t =>
     have:=look t (List.mem_append_left _ (List.mem_filterMap.2 ⟨.tmp t,xy,rfl⟩));show a'.tmps.getD t undef=b.tmps.getD t undef;rw[Array.getD_eq_getD_getElem?,Array.getD_eq_getD_getElem?,this]
    | _=>rfl
  have hwt:Region.wanted o (yielded l.toArray a'.tmps)=Region.wanted o (yielded l.toArray b.tmps):=by
   unfold Region.wanted;cases hg:o.guard with
   | none=>rfl
   | some gw =>
    obtain⟨g,want⟩:=gw;dsimp only;rw[VL (fun d hd=>look d ?_)];refine List.mem_append_right _ ?_;rw[hg];dsimp only;unfold bW at hd;rw[hd];simp
  have hbd:b.tmps[d]? = some (V i):=by
   have e1:bW l.toArray i=some d:=by unfold bW;rw[ho];exact hdo
   rw[hput,Dt _ _ _ hdl m (hdist d) i hilt e1]
  have hbs:b.tmps.size=a.tmps.size:=by rw[hput,Dq]
  have same:∀ v,b.put o.dst v=b->v=V i:=by
   intro v hv;rw[hdo]at hv;have h3:(b.put (some d) v).tmps[d]? = some (V i):=by rw[hv];exact hbd
   have hlt:d<b.tmps.size:=by rw[hbs];exact hdl
   simp[Act.put,hlt]at h3;exact h3
  unfold wpOp;rw[ho];dsimp only;rw[hwt];unfold wpList at hD;split
  ·rename_i hw;rw[if_pos hw]at hD;rcases hD with hD | ⟨_,a9,w9,h9,_⟩
   ·refine .inl ?_;unfold Oper.wp at hD ⊢;rw[hex];generalize (execOp b.eval o).run P W=r at hD ⊢;cases r with
    | ok n w9 =>
     cases n with
     | value v=>exact⟨v,rfl,same v hD.2.1,hD.2.2,trivial⟩
     | skip=>exact⟨undef,rfl,same undef hD.2.1,hD.2.2,trivial⟩
     | defer dd =>
      exfalso;have h3:({ b with defers:=dd :: b.defers }.put o.dst undef).defers=b.defers:=congrArg Act.defers hD.2.1;rw[VH]at h3;have:=congrArg List.length h3;simp at this
     | enter f args =>
      refine Calls.mono hD ?_;intro e w8 h8;cases e with
      | returned v=>exact⟨v,rfl,same v h8.2.1,h8.2.2,trivial⟩
      | panicked c=>cases h8.1
      | outgrown=>obtain⟨_,_,h7,_⟩:=h8;cases h7
     | row r args =>
      refine Rows.mono hD ?_;intro v w8 h8;exact⟨v,rfl,same v h8.2.1,h8.2.2,trivial⟩
     | _=>exact hD.elim
    | halt h w9 =>
     cases h with
     | panic v=>exact absurd hD.1 (by intro h;cases h)
     | _=>exact hD.elim
   ·cases h9
  ·rename_i hw;rw[if_neg hw]at hD;exact⟨undef,rfl,same undef hD.2.1,hD.2.2,trivial⟩
 ·have e:aX (l.take m) vals 0 a=b:=by
   rw[<-hb];refine VI _ _ _ _ _ (fun j hj=>?_);rw[Nat.zero_add];exact hv j (by rw[List.length_take]at hj;omega)
  rw[e];exact hend w' (hSk _ _ hS0 hG)
def bP(D:Nat->Value->World->Prop)(vals:Nat->Value)(W:World):List Edge->Prop
 | []=>True
 | e :: r=>(match Region.binds .any e with
  | true=>D e.on (vals e.on) W
  | false=>True)/\bP D vals W r
theorem En{D:Nat->Value->World->Prop}{vals:Nat->Value}{W:World}:∀ l:List Edge,(∀ e∈l,Region.binds .any e=true->D e.on (vals e.on) W)->bP D vals W l
 | [],_=>trivial
 | e :: r,h=>⟨by
   cases hb:Region.binds .any e with
   | true=>exact h e aF hb
   | false=>trivial,En r (fun e' he' hb=>h e' (by simp[he']) hb)⟩
def Ad(o:Oper)(a:Act):Value:=match o.dst with
 | some d=>a.tmps.getD d undef
 | none=>undef
def QV(D:Nat->Value->World->Prop)(i:Nat)(o:Oper)(ds:List Deferred)(w:World):Exit->Act->World->Prop:=fun e a' w'=>e=.normal/\D i (Ad o a') w'/\a'.defers=ds/\Below w.heap.size w w'
def lq(P:Program)(ops:Array Oper)(S:World->Prop)(D:Nat->Value->World->Prop)(fr:(Nat->Value)->Act):Nat->List Oper->Prop
 | _,[]=>True
 | i,o :: l=>(∀ vals W,S W->bP D vals W o.after.toList->wpList P ops (QV D i o (fr vals).defers W) [o] (fr vals) W)/\lq P ops S D fr (i+1) l
theorem VM{ops:Array Oper}{S:World->Prop}{D:Nat->Value->World->Prop}{fr:(Nat->Value)->Act}:∀(l:List Oper)(k:Nat),lq P ops S D fr k l->∀(i:Nat)(o:Oper),l[i]? = some o->∀ vals W,S W->bP D vals W o.after.toList->wpList P ops (QV D (k+i) o (fr vals).defers W) [o] (fr vals) W
 | [],_,_,i,o,h=>mW
 | o :: l,k,h,0,o',ho=>by
  obtain rfl:o=o':=vI;exact h.1
 | _ :: l,k,h,i+1,o',ho=>by
  have:=VM l (k+1) h.2 i o' vI
  rwa [show k+1+i=k+(i+1) by omega]at this
theorem pO{l:List Oper}(m:Nat){id:Nat}{a:Act}{w:World}(hm:P.follows .mixedOrders=true)(hB:Region.freeB .any l m a.tmps.size=true)(hdep:Region.deps l.toArray .any m=true)
  (D:Nat->Value->World->Prop) (hDk:∀ i v w w',D i v w->Below w.heap.size w w'->D i v w') (S:World->Prop) (hS0:S { w with drawn:=w.drawn+1 }) (hSk:∀ w w',S w->Below w.heap.size w w'->S w')
  (hops:lq P l.toArray S D (fun vals=>aX (l.take m) vals 0 a) 0 (l.take m))
  (hend:∀ vals w',S w'->(∀ j,j<m->D j (vals j) w')->wpList P l.toArray Q (l.drop m) (aX (l.take m) vals 0 a) w'):(Code.region id l.toArray true).wp P Q a w:=by
 have hB2:=hB;unfold Region.freeB at hB2;simp only[Bool.and_eq_true,decide_eq_true_eq]at hB2;obtain⟨⟨⟨hml,hf⟩,_⟩,_⟩:=hB2;have fair:∀ i,i<m->∃ o d,l[i]? = some o/\(∀ e∈o.after,Region.binds .any e=true->e.on<i)/\o.dst=some d/\d<a.tmps.size/\∀ j,j≠i->bW l.toArray j≠some d:=by
  intro i hi;have h:=List.all_eq_true.1 hf i (List.mem_range.2 hi);cases ho:l[i]? with
  | none=>rw[List.getElem?_toArray,ho]at h;cases h
  | some o =>
   rw[List.getElem?_toArray,ho]at h;dsimp only at h;rw[Bool.and_eq_true,Array.all_eq_true']at h;cases hd:o.dst with
   | none=>rw[hd]at h;cases h.2
   | some d =>
    exact Ei
 have hput:∀ V,aX (l.take m) V 0 a=jb l.toArray a V m:=by
  intro V;exact Ej
 refine tX m hm hB (fun a b=>Below a.heap.size a b) (fun a=>Below.refl _ _) (fun a b c h k=>h.trans (k.mono h.size)) D (fun i v w w' h hb=>hDk i v w w' h hb) (fun _ _=>True) trivial (Ae _ _ (fun i o hi=>?_)) (fun vals w' hG _ hv=>?_)
 ·rw[Nat.zero_add];intro ho L a' W _ _ _ _ hG hA hd;have hilt:i<m:=by
   exact Em
  have hSW:S W:=hSk _ _ hS0 hG;obtain⟨V,hV⟩:∃ V:Nat->Value,V=fun j=>jQ l.toArray a' j:=⟨_,rfl⟩
  have hD:=VM _ _ hops i o hi V W hSW (En _ (fun e he hb=>by rw[hV];exact hd e xu hb));exact Ky
 ·exact hend vals w' (hSk _ _ hS0 hG) hv
def IsV(c:Value):Value->World->Prop:=fun v _=>v=c
def wP(f:Value->World->Prop):Prop:=∀ v w w',f v w->Below w.heap.size w w'->f v w'
theorem zO(c:Value):wP (IsV c):=fun _ _ _ h _=>h
def ui:List (Value->World->Prop)->Prop
 | []=>True
 | f :: l=>wP f/\ui l
def DL(Ds:List (Value->World->Prop))(i:Nat)(v:Value)(W:World):Prop:=Ds.getD i (fun _ _=>False) v W
theorem DL.keep:∀(Ds:List (Value->World->Prop)),ui Ds->∀ i v w w',DL Ds i v w->Below w.heap.size w w'->DL Ds i v w'
 | [],_,_,_,_,_,h,_=>h.elim
 | f :: l,hk,0,v,w,w',h,hb=>hk.1 v w w' h hb
 | f :: l,hk,i+1,v,w,w',h,hb=>DL.keep l hk.2 i v w w' h hb
end
end Go.Proofs.YtlkbkclnbppigaaGreatDoor
