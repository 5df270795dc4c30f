/- The schedule of a block. -/
import Derived.Test.YtlkbkclnbppigaaGreatDoorIZ5
import Derived.StillTailTactics
import Derived.Test.YtlkbkclnbppigaaGreatDoorIZ6
set_option maxHeartbeats 4000000
namespace Go.Proofs.YtlkbkclnbppigaaGreatDoor
open Tryz
open Go.RowKit Go.Sort
set_option linter.unusedVariables false
set_option linter.unusedSimpArgs false
set_option maxRecDepth 100000
def b8(l:List Nat):List Value:=l.map fun x:Nat=>Value.int .u8 (x:Int)
theorem qL(l:List Nat){k:Nat}(hk:k<l.length):(b8 l)[k]? = some (.int .u8 ((l.getD k 0:Nat):Int)):=by
 simp[b8,List.getD_eq_getElem?_getD,List.getElem?_eq_getElem hk]
def pre(S:List Nat)(t:Nat):List Nat:=S.take t++List.replicate (64-t) 0
section
variable {S:List Nat}
theorem oG(hS:S.length=64){t:Nat}(h:t<=64):(pre S t).length=64:=by
 unfold pre;simp[hS];omega
theorem rD(hS:S.length=64){t k:Nat}(hk:k<t)(ht:t<=64):(pre S t).getD k 0=S.getD k 0:=by
 unfold pre;rw[List.getD_eq_getElem?_getD,List.getElem?_append_left (by simp[hS];omega),<-List.getD_eq_getElem?_getD,Sha.getD_take hk]
theorem EI(hS:S.length=64){t k:Nat}(hk:t<=k)(ht:t<=64):(pre S t).getD k 0=0:=by
 unfold pre;rw[List.getD_eq_getElem?_getD,List.getElem?_append_right (by simp[hS];omega)];rw[List.getElem?_replicate];split <;> simp
theorem EJ(l:List Nat)(hl:l.length=64)(k:Nat):l[k]? = if k<64 then some (l.getD k 0) else none:=by
 split
 ·rw[List.getD_eq_getElem?_getD,List.getElem?_eq_getElem aB];simp
 ·exact List.getElem?_eq_none aB
theorem PM(hS:S.length=64){t:Nat}(ht:t<64):(pre S t).set t (S.getD t 0)=pre S (t+1):=by
 apply List.ext_getElem?;intro k;rw[EJ _ (by rw[List.length_set];exact oG hS aB),EJ _ (oG hS aB)];split
 ·congr 1;rcases Nat.lt_trichotomy k t with h | h | h
  ·rw[rD hS aB aB,<-rD hS h aB,List.getD_eq_getElem?_getD,List.getElem?_set_ne aB,<-List.getD_eq_getElem?_getD]
  ·subst h;rw[rD hS aB aB,List.getD_eq_getElem?_getD,List.getElem?_set_self (by rw[oG hS aB];omega),Option.getD_some]
  ·rw[EI hS aB aB,List.getD_eq_getElem?_getD,List.getElem?_set_ne aB,<-List.getD_eq_getElem?_getD,EI hS (Nat.le_of_lt h) aB]
 ·rfl
theorem PN(S:List Nat):pre S 0=List.replicate 64 0:=by simp[pre]
theorem aAg(hS:S.length=64):pre S 64=S:=by
 unfold pre;rw[List.take_of_length_le aB];simp
theorem aAh(hS:S.length=64){t:Nat}(ht:t<64):(pre S t).set t 0=pre S t:=by
 apply List.ext_getElem?;intro k;by_cases h:t=k
 ·subst h;rw[List.getElem?_set_self (by rw[oG hS aB];omega),EJ _ (oG hS aB),if_pos ht,EI hS (Nat.le_refl _) aB]
 ·rw[List.getElem?_set_ne h]
theorem set_set(L:List Nat)(t a v:Nat):(L.set t a).set t v=L.set t v:=List.set_set ..
theorem aAi{L:List Nat}{t v:Nat}(h:t<L.length):(L.set t v).getD t 0=v:=by
 rw[List.getD_eq_getElem?_getD,List.getElem?_set_self h,Option.getD_some]
end
theorem or8(a x:Nat)(ha:a<16777216)(hx:x<256):bits .or .u32 ((a:Int)*256) (x:Int)=((a*256+x:Nat):Int):=by
 have h:=u32_or_nat (a*256) x aB aB;rw[Sha.or_byte a x hx]at h;have e:((a*256:Nat):Int)=(a:Int)*256:=aB;rw[e]at h;exact h
structure aAj(b S:List Nat):Prop where
 len:S.length=64
 lo:∀ t,t<16->S.getD t 0=Sha.part (b.drop (4*t)) 4
 hi:∀ t,16<=t->t<64->S.getD t 0=Sha.add32 (Sha.add32 (Sha.add32 (S.getD (t-16) 0) (Sha.s0 (S.getD (t-15) 0))) (S.getD (t-7) 0)) (Sha.s1 (S.getD (t-2) 0))
 lt:∀ t,S.getD t 0<4294967296
theorem aAk{b:List Nat}(hb:∀ x∈b,x<256):aAj b (Sha.sched b) :=
 ⟨Sha.sched_len b,fun t h=>by rw[Sha.sched_lo b t h,Sha.part4],Sha.sched_hi b,Sha.sched_lt hb⟩
theorem RH(A:Option Addr)(c:Nat)(b:List Nat)(w:World)(hR:aI w 1 A 64 (b8 b))(hb:∀ x∈b,x<256)(hc:64<=c)(hc2:c<=1000000000) :
  Calls prog 230 #[.slice A 64 c] w (Ret w (.agg (w32 (Sha.sched b)).toArray)):=by
 obtain⟨bb,bo,rfl,hcell⟩:=hR.2 aK;have hbl:b.length=64:=by have:=hR.1;simpa[b8] using this
 have hlt:bb<w.heap.size:=by
  have:=hcell 0 _ (qL b (k:=0) aB);exact bu this
 have hS:=aAk hb;generalize Sha.sched b=S at *;have HS:=aA hS;have HB:=aA hb;have HL:=aA hbl;have HC:=aA (fun k hk=>hcell k _ (qL b (k:=k) hk));clear hR hb hbl hcell hS;go_enter func230,ntmps230;go_wp2;go_loopw [11] (fun i wr=>∃ t:Nat,t<=64/\i=.int .i64 t/\Hid (au wr (w.heap.size+1) 265 (pre S t))/\Hid (au wr w.heap.size 265 (pre S 0))/\aF w wr) (fun i _=>64-(intOf i).toNat)
 case atStart =>
  refine⟨0,aB,rfl,aA ?_,aA ?_,aJ⟩
  ·rw[PN];exact Eq.trans (heap_alloc2_new w _ _) rfl
  ·rw[PN];exact Eq.trans (heap_alloc2_old w _ _) rfl
 case round =>
  obtain⟨t,ht,rfl,HW,HZ,hbw⟩:=hrel;have hsz:w.heap.size+1<wr.heap.size:=HW.out.lt;by_cases h64:t<64
  ·by_cases h16:t<16
   ·have hct:4*t+4<=c:=aB;have hpd:∀ j,j<4->wr.cell? ⟨bb,bo+(4*t+j),none⟩=some (.int .u8 (b.getD (4*t+j) 0:Nat)):=fun j hj=>aW hbw (HC.out (4*t+j) gV)
    have HP:=aA hpd;clear hpd;obtain⟨d,hd⟩:∃ d,d=b.drop (4*t):=⟨_,rfl⟩;have hdl:∀ j,d.getD j 0=b.getD (4*t+j) 0:=fun j=>by rw[hd,Sha.getD_drop]
    have hdb:∀ j,d.getD j 0<256:=fun j=>by rw[hdl];exact Sha.getD_lt HB.out _
    have h4:Sha.part d 4=S.getD t 0:=by rw[hd];exact (HS.out.lo t h16).symm
    have HD:=aA hdl;have HE:=aA hdb;have H4:=aA h4;clear hd hdl hdb h4;go_wp2_with fail;obtain⟨wo,rfl⟩:∃ wo:World,wo=wr:=⟨_,rfl⟩;go_loopw [24] (fun i wi=>∃ j:Nat,j<=4/\i=.int .i64 j/\Hid (au wi (w.heap.size+1) 265 ((pre S t).set t (Sha.part d j)))/\Hid (au wi w.heap.size 265 (pre S 0))/\aF w wi) (fun i _=>4-(intOf i).toNat)
    case atStart =>
     refine⟨0,aB,rfl,aA ?_,HZ,hbw⟩;show au _ _ _ ((pre S t).set t 0);rw[aAh HS.out.len h64];exact HW.out
    case round =>
     obtain⟨j,hj,rfl,HW2,HZ2,hb2⟩:=hrel;have hsz2:w.heap.size+1<wr.heap.size:=HW2.out.lt;by_cases hj4:j<4
     ·have hx:wr.cell? ⟨bb,bo+4*t+j,none⟩=some (.int .u8 (d.getD j 0:Nat)):=by rw[HD.out j,Nat.add_assoc];exact aW hb2 (HC.out (4*t+j) gV)
      have hy:=HE.out j;have hp:=Sha.part_lt d HE.out j;have hp2:Sha.part d j<16777216:=by
       have:256 ^ j<=256 ^ 3:=Nat.pow_le_pow_right aK aB;omega
      have hcw:=HW2.out.cell (k:=t) (by rw[List.length_set,oG HS.out.len aB];exact h64);rw[aAi (by rw[oG HS.out.len aB];exact h64)]at hcw;have hfw:=HW2.out.free t;have ho:=or8 (Sha.part d j) (d.getD j 0) hp2 hy;have hs:Sha.part d (j+1)=Sha.part d j*256+d.getD j 0:=rfl;rw[<-hs]at ho;have HW3:Hid (∀ W,au W (w.heap.size+1) 265 ((pre S t).set t (Sha.part d j))->au (W.setCell ⟨w.heap.size+1,t,none⟩ (.int .u32 (Sha.part d (j+1):Nat))) (w.heap.size+1) 265 ((pre S t).set t (Sha.part d (j+1)))):=aA fun W h=>by
       have:=h.set_ t (Sha.part d (j+1));rw[set_set]at this;exact this
      clear hs hp;generalize d.getD j 0=x at *;generalize Sha.part d j=y at *;go_wp2_with fail;exact⟨⟨j+1,aB,bg,aA (HW3.out _ HW2.out),aA (HZ2.out.far _ _ aH),aJ⟩,dD⟩
     ·have hj':j=4:=aB;have HW3:Hid (au wr (w.heap.size+1) 265 (pre S (t+1))):=aA (by
       have:=HW2.out;rw[hj',H4.out,PM HS.out.len h64]at this;exact this)
      clear hj';go_wp2_with fail;exact⟨⟨t+1,aB,bg,HW3,HZ2,hb2⟩,dD⟩
   ·have e1:=rD HS.out.len (k:=t-15) (t:=t) aB ht;have e2:=rD HS.out.len (k:=t-2) (t:=t) aB ht;have e3:=rD HS.out.len (k:=t-16) (t:=t) aB ht;have e4:=rD HS.out.len (k:=t-7) (t:=t) aB ht;have c1:=HW.out.cell (k:=t-15) wL;have c2:=HW.out.cell (k:=t-2) wL;have c3:=HW.out.cell (k:=t-16) wL;have c4:=HW.out.cell (k:=t-7) wL;have c5:=HW.out.cell (k:=t) wL;have f5:=HW.out.free t;rw[e1]at c1;rw[e2]at c2;rw[e3]at c3;rw[e4]at c4;clear e1 e2 e3 e4;have hi:=HS.out.hi t aB h64;have l1:=HS.out.lt (t-15);have l2:=HS.out.lt (t-2);have l3:=HS.out.lt (t-16);have l4:=HS.out.lt (t-7);have HN:Hid (∀ W,au W (w.heap.size+1) 265 (pre S t)->au (W.setCell ⟨w.heap.size+1,t,none⟩ (.int .u32 (S.getD t 0:Nat))) (w.heap.size+1) 265 (pre S (t+1))):=aA fun W h=>by
     have:=h.set_ t (S.getD t 0);rw[PM HS.out.len h64]at this;exact this
    generalize S.getD t 0=x0 at *;generalize S.getD (t-15) 0=p at *;generalize S.getD (t-2) 0=q at *;generalize S.getD (t-16) 0=x3 at *;generalize S.getD (t-7) 0=x4 at *;have i1:(0:Int)<=(t:Int)-15:=aB;have i2:(0:Int)<=(t:Int)-2:=aB;have i3:(0:Int)<=(t:Int)-16:=aB;have i4:(0:Int)<=(t:Int)-7:=aB;have n1:((t:Int)-15).toNat=t-15:=aB;have n2:((t:Int)-2).toNat=t-2:=aB;have n3:((t:Int)-16).toNat=t-16:=aB;have n4:((t:Int)-7).toNat=t-7:=aB;have HI:=aA hi;clear hi;have r1:=aA fun W=>qj p 7 W l1 aB aB
    have r2:=aA fun W=>qj p 18 W l1 aB aB
    have r3:=aA fun W=>qj q 17 W l2 aB aB
    have r4:=aA fun W=>qj q 19 W l2 aB aB
    have x1:=sU (Sha.rot p 7) (Sha.rot p 18) (Sha.rot_lt p 7 l1) (Sha.rot_lt p 18 l1);have x2:bits .xor .u32 ((Sha.rot p 7 ^^^ Sha.rot p 18:Nat):Int) ((p:Int) / 8)=((Sha.s0 p:Nat):Int):=sU (Sha.rot p 7 ^^^ Sha.rot p 18) (p / 8) (Sha.xor_lt (Sha.rot_lt p 7 l1) (Sha.rot_lt p 18 l1)) aB;have x3':=sU (Sha.rot q 17) (Sha.rot q 19) (Sha.rot_lt q 17 l2) (Sha.rot_lt q 19 l2);have x4':bits .xor .u32 ((Sha.rot q 17 ^^^ Sha.rot q 19:Nat):Int) ((q:Int) / 1024)=((Sha.s1 q:Nat):Int):=sU (Sha.rot q 17 ^^^ Sha.rot q 19) (q / 1024) (Sha.xor_lt (Sha.rot_lt q 17 l2) (Sha.rot_lt q 19 l2)) aB;have l5:=Sha.s0_lt p l1;have l6:=Sha.s1_lt q l2;go_wp2_with fail;go_quiet (fail);go_wp2_with fail;refine (r1.out _).mono ?_;rintro e w1 ⟨rfl,rfl⟩;go_wp2_with fail;refine (r2.out _).mono ?_;rintro e w1 ⟨rfl,rfl⟩;go_wp2_with fail;refine (r3.out _).mono ?_;rintro e w1 ⟨rfl,rfl⟩;go_wp2_with fail;refine (r4.out _).mono ?_;rintro e w1 ⟨rfl,rfl⟩;go_wp2_with fail;generalize Sha.s0 p=s0 at *;generalize Sha.s1 q=s1 at *;have v3:IntKind.i64.wrap ((t:Int)-16)=(t:Int)-16:=IntWalk.i64_in _ aB;have v4:IntKind.i64.wrap ((t:Int)-7)=(t:Int)-7:=IntWalk.i64_in _ aB;have j3:(t:Int)-16<64:=aB;have j4:(t:Int)-7<64:=aB;have j5:(7:Int)<=t:=aB;obtain⟨wd,hwd⟩:∃ wd,wd=(wr.drewN nq).drew:=⟨_,rfl⟩;have d3:wd.cell? ⟨w.heap.size+1,t-16,none⟩=some (.int .u32 x3):=by rw[hwd];exact c3
    have d4:wd.cell? ⟨w.heap.size+1,t-7,none⟩=some (.int .u32 x4):=by rw[hwd];exact c4
    have d5:wd.cell? ⟨w.heap.size+1,t,none⟩=some (.int .u32 ((pre S t).getD t 0:Nat)):=by rw[hwd];exact c5
    have df:wd.frozen? ⟨w.heap.size+1,t,none⟩=false:=by rw[hwd];exact f5
    have HW':Hid (au wd (w.heap.size+1) 265 (pre S t)):=aA (by rw[hwd];exact HW.out);have HZ':Hid (au wd w.heap.size 265 (pre S 0)):=aA (by rw[hwd];exact HZ.out);have hbd:aF w wd:=by rw[hwd];exact (oK hbw _).drew
    have hszd:w.heap.size+1<wd.heap.size:=HW'.out.lt;refine wp_region_still_tail 14 aG aG ?_;simp only[kM];change wpStill _ _ (wr.drewN nq).drew _ _ _;rw[<-hwd];clear c1 c2 c3 c4 c5 f5 HW HZ hbw hsz;have HWD:=aA hwd;clear hwd;repeat still_step
    refine wpStill_nil ?_;change wpList _ _ _ _ _ (wr.drewN nq).drew;rw[<-HWD.out];clear v3 v4 j3 j4 j5 HWD;go_wp2_with fail;refine⟨⟨t+1,aB,bg,aA ?_,aA (HZ'.out.far _ _ aH),aJ⟩,dD⟩;have:=HN.out _ HW'.out;rw[show ((x0:Nat):Int)=((x3:Int)+s0+x4+s1) % 4294967296 by rw[HI.out];unfold Sha.add32;omega]at this;exact this
  ·have he:t=64:=aB;have HW2:Hid (au wr (w.heap.size+1) 265 S):=aA (by
    have:=HW.out;rw[he,aAg HS.out.len]at this;exact this)
   have hl:(w32 S).length=64:=by rw[uU,HS.out.len]
   have hi:(prog.info? 265).map (·.size)=some (w32 S).toArray.size:=by rw[List.size_toArray,hl];kernel_rfl
   have hpl:(w32 (pre S 0)).toArray.size=(w32 S).toArray.size:=by rw[List.size_toArray,List.size_toArray,hl,uU,oG HS.out.len aB]
   have h1:(w32 S).toArray.all (·.oneCell')=true:=by rw[List.all_toArray,List.all_eq_true];exact uV S
   clear he HW;go_wp2_with (first | (refine wpList_load_row rfl _ _ rfl (w.heap.size+1) rfl _ (w32 S).toArray (0,0) _ HW2.out underlying265 rfl hi ?_) | (refine wpList_store_row rfl _ _ _ rfl w.heap.size (w32 S).toArray rfl rfl _ _ HZ.out hi hpl h1 ?_));refine bodyPost_ret (v:=.agg (w32 S).toArray) ?_ rfl ⟨rfl,?_⟩
   ·exact results_cell_row rfl _ _ w.heap.size _ _ (0,0) _ rfl (setRow_heap _ _ _ _ _ _ HZ.out) underlying265 rfl hi
   ·exact below_setRow hbw (Nat.le_refl _) _
section
variable {P:Program}
theorem aAl(w:World)(r:Option Nat):w.grownBy w r:=⟨rfl,rfl,rfl,Nat.le_refl _,fun _ _ _=>rfl⟩
theorem XH{ops:Array Oper}{rest:List Oper}{o:Oper}{a:Act}{Q:Exit->Act->World->Prop}(w:World)(hgd:o.guard=none)(s x:Operand)(t:TypeId)
  (ho:o.op=.call { callee:=.builtin .append,args:=#[s,x],argTypes:=#[t,t] })
  (base:Nat) (e:TypeId) (i:TypeInfo) (z:Value) (bytes:Nat) (ht:P.underlying t=some (.slice e)) (hi:P.info? e=some i) (hz:i.zero=some z)
  (hsize:i.size=1) (hby:i.bytes=bytes) (hzs:z.cells.size=1)
  (v:Value) (n:Nat) (xs:List Value) (hs:a.eval s=v) (hown:w.ownsRow base e 1 v n xs)
  (A:Option Addr) (m c:Nat) (ys:List Value) (hx:a.eval x=.slice A m c) (hR:aI w 1 A m ys) (h1:∀ u∈ys,u.oneCell'=true)
  (h63:n+m<=maxLen) (hbytes:(n+m)*bytes<=140737488355328) (hbase:base<=w.heap.size)
  (h:∀ v' w',w'.ownsRow base e 1 v' (n+m) (xs++ys)->w.grownBy w' v.ownBlock->wpList P ops Q rest (a.put o.dst v') w'):wpList P ops Q (o :: rest) a w:=by
 rcases Nat.eq_zero_or_pos m with h0 | h0
 ·subst h0;have hys:ys=[]:=List.eq_nil_of_length_eq_zero (by have:=hR.1;omega);subst hys;have hh:=h v w (by rw[List.append_nil];exact hown) (aAl w _);obtain⟨A0,k0,c0,hv,hle⟩:∃ A0 k0 c0,v=.slice A0 k0 c0/\k0<=c0:=by
   rcases hown.2 with ⟨e1,_⟩ | ⟨g,cap,cur,e1,_,_,hle,_⟩
   ·exact⟨none,0,0,e1,Nat.le_refl _⟩
   ·exact⟨_,n,cap,e1,hle⟩
  have hr:=run_append_nothing w t t o.type e i ht hi A0 k0 c0 hle (.slice A 0 c) ⟨.inl ⟨e,ht⟩,fun w'=>by simp[Builtin.lenOf],PO,PO,aH,aH⟩;refine wpList_plain hgd fun K hK=>?_
  unfold Oper.wp execOp;simp only[ho,resolve,invoke,builtin,Sem.run_bind,Sem.run_pure,Result.andThen_ok,List.map_toArray,List.map_cons,List.map_nil,hs,hx,hv,hr];rw[<-hv];exact hK _ _ hh
 ·obtain⟨pb,po,rfl,hcell⟩:=hR.2 h0;refine wpList_append_own w hgd s x t ho base e i z 1 bytes ht hi hz hsize hby hzs aK v n xs hs hown ⟨pb,po,none⟩ m c ys hx hR.1 (fun j u hj=>?_) h1 h63 hbytes hbase (fun v' w' h2 h3 _=>h v' w' h2 h3);have:=hcell j u hj;rw[show (⟨pb,po,none⟩:Addr).add j=⟨pb,po+j,none⟩ by unfold Addr.add;split <;> simp_all];exact this
end
section
variable {P:Program}
theorem aAm{o:Oper}{a:Act}{w:World}{K:Act->World->Prop}{Q:Exit->Act->World->Prop}(t:TypeId)(n:Nat)(parts:Array (Nat × Operand))(ho:o.op=.buildSlice t n parts)(ps:Array (Nat × Value))(hp:(parts.map fun (i,x)=>(i,a.eval x))=ps)
  (v:Value) (w':World) (hr:(Instr.buildSlice t n ps).run P w=.ok v w') (h:K (a.put o.dst v) w'):o.wp P a w K Q:=by
 subst hp;unfold Oper.wp execOp;simp only[ho,Sem.run_bind,Sem.run_pure,Result.andThen_ok,hr];exact h
theorem Za{ops:Array Oper}{rest:List Oper}{o:Oper}{a:Act}{w:World}{Q:Exit->Act->World->Prop}(hgd:o.guard=none)(t:TypeId)(n:Nat)(parts:Array (Nat × Operand))(ho:o.op=.buildSlice t n parts)(ps:Array (Nat × Value))(hp:(parts.map fun (i,x)=>(i,a.eval x))=ps)
  (v:Value) (w':World) (hr:(Instr.buildSlice t n ps).run P w=.ok v w') (h:wpList P ops Q rest (a.put o.dst v) w'):wpList P ops Q (o :: rest) a w :=
 wpList_plain hgd fun _ hK=>aAm t n parts ho ps hp v w' hr (hK _ _ h)
theorem jE{o:Oper}{a:Act}{w:World}{K:Act->World->Prop}{Q:Exit->Act->World->Prop}(ty:TypeId)(x:Operand)(ho:o.op=.load ty x)
  (ad:Addr) (v:Value) (hx:a.eval x=.pointer (some ad)) (hl:(loadVar ty ad).run P w=.ok v w) (h:K (a.put o.dst v) w):o.wp P a w K Q:=by
 unfold Oper.wp execOp;simp only[ho,hx,Instr.loadAt,Instr.sureAddr,Sem.run_bind,Sem.run_pure,Result.andThen_ok,hl];exact h
end
section
variable {P:Program} {Q:Exit->Act->World->Prop}
def Region.deps(ops:Array Oper)(md:Region.Mode)(m:Nat):Bool :=
 (List.range m).all fun i=>match ops[i]? with
  | none=>false
  | some o=>(match o.op with | .select ..=>false | _=>true)&&(o.looksAt ops).all fun t =>
   ((List.range m).all fun j=>bM ops j != some t)||o.after.any fun e=>Region.binds md e&&decide (e.on<m)&&bM ops e.on==some t
theorem EK(ops:Array Oper)(a1:Act)(V:Nat->Value)(m:Nat):iP ops a1 V (m+1)=(iP ops a1 V m).put (bM ops m) (V m):=by
 unfold iP;rw[List.range_succ,List.foldl_append];rfl
theorem aAn(a:Act)(d:Option Tmp)(v:Value):(a.put d v).tmps.size=a.tmps.size:=by
 cases d with
 | none=>rfl
 | some d=>simp[Act.put]
theorem PP(a:Act)(d:Option Tmp)(v:Value):(a.put d v).defers=a.defers:=by
 cases d <;> rfl
theorem zM(ops:Array Oper)(a1:Act)(V:Nat->Value):∀ m,(iP ops a1 V m).tmps.size=a1.tmps.size
 | 0=>rfl
 | m+1=>by rw[EK,aAn];exact zM ops a1 V m
theorem EN(ops:Array Oper)(a1:Act)(V:Nat->Value){t:Nat}:∀ m,(∀ j,j<m->bM ops j≠some t)->(iP ops a1 V m).tmps[t]? = a1.tmps[t]?
 | 0,_=>rfl
 | m+1,h=>by
  rw[EK];have ih:=EN ops a1 V m (fun j hj=>h j aB);cases hd:bM ops m with
  | none=>exact ih
  | some d =>
   have hne:d≠t:=fun e=>h m aB (by rw[hd,e])
   simp only[Act.put,Array.getElem?_setIfInBounds_ne hne];exact ih
theorem zN(ops:Array Oper)(a1:Act)(V:Nat->Value){t:Nat}(ht:t<a1.tmps.size):∀ m,(∀ i j,i<m->j<m->bM ops i=some t->bM ops j=some t->i=j)->∀ j,j<m->bM ops j=some t->(iP ops a1 V m).tmps[t]? = some (V j)
 | 0,_,_,hj,_=>aB
 | m+1,h,j,hj,hjt=>by
  rw[EK];by_cases hjm:j=m
  ·subst hjm;rw[hjt];have:t<(iP ops a1 V j).tmps.size:=by rw[zM];exact ht
   simp[Act.put,this]
  ·have hne:bM ops m≠some t:=fun e=>hjm (h j m hj aB hjt e)
   have ih:=zN ops a1 V ht m (fun i j hi hj=>h i j aB aB) j aB hjt;cases hd:bM ops m with
   | none=>exact ih
   | some d =>
    have hne2:d≠t:=fun e=>hne (by rw[hd,e])
    simp only[Act.put,Array.getElem?_setIfInBounds_ne hne2];exact ih
theorem PQ:∀(l:List Oper)(V V':Nat->Value)(k:Nat)(a:Act),(∀ j,j<l.length->V (k+j)=V' (k+j))->aZ l V k a=aZ l V' k a
 | [],_,_,_,_,_=>rfl
 | o :: l,V,V',k,a,h=>by
  unfold aZ;rw[show V k=V' k from h 0 aH];exact PQ l V V' (k+1) _ (fun j hj=>by have:=h (j+1) lI;rwa [show k+(j+1)=k+1+j by omega]at this)
theorem wZ{S:Nat->Oper->Prop}:∀(l:List Oper)(k:Nat),(∀ i o,l[i]? = some o->S (k+i) o)->oD S k l
 | [],_,_=>trivial
 | o :: l,k,h=>⟨h 0 o rfl,wZ l (k+1) (fun i o' ho=>by have:=h (i+1) o' ho;rwa [show k+(i+1)=k+1+i by omega]at this)⟩
def QD(b:Act)(w:World):Exit->Act->World->Prop:=fun e a' w'=>e=.normal/\a'=b/\aF w w'
def EO(P:Program)(ops:Array Oper)(S:World->Prop)(b:Act):List Oper->Prop
 | []=>True
 | o :: l=>(∀ W,S W->wpList P ops (QD b W) [o] b W)/\EO P ops S b l
theorem PR{ops:Array Oper}{S:World->Prop}{b:Act}:∀(l:List Oper),EO P ops S b l->∀(i:Nat)(o:Oper),l[i]? = some o->∀ W,S W->wpList P ops (QD b W) [o] b W
 | [],_,i,o,h=>nG
 | o :: l,h,0,o',ho=>by
  obtain rfl:o=o':=rJ;exact h.1
 | _ :: l,h,i+1,o',ho=>PR l h.2 i o' rJ
theorem PU{ops:Array Oper}{t t':Array Value}{j:Nat}(h:∀ d,bM ops j=some d->t[d]? = t'[d]?):yielded ops t j=yielded ops t' j:=by
 unfold yielded;show (match (bM ops j).bind (t[·]?) with | some (.bool b)=>some b | _=>none)=(match (bM ops j).bind (t'[·]?) with | some (.bool b)=>some b | _=>none);cases hd:bM ops j with
 | none=>rfl
 | some d=>simp only[Option.bind_some,h d hd]
theorem Ec{l:List Oper}(m:Nat){id:Nat}{a:Act}{w:World}(hm:P.follows .mixedOrders=true)(hB:Region.freeB .any l m a.tmps.size=true)(hdep:Region.deps l.toArray .any m=true)
  (V:Nat->Value) (S:World->Prop) (hS0:S { w with drawn:=w.drawn+1 }) (hSk:∀ w w',S w->aF w w'->S w')
  (hops:EO P l.toArray S (aZ (l.take m) V 0 a) (l.take m))
  (hend:∀ w',S w'->wpList P l.toArray Q (l.drop m) (aZ (l.take m) V 0 a) w'):(Code.region id l.toArray true).wp P Q a w:=by
 have hB2:=hB;unfold Region.freeB at hB2;simp only[Bool.and_eq_true,decide_eq_true_eq]at hB2;obtain⟨⟨⟨hml,hf⟩,_⟩,_⟩:=hB2;have fair:∀ i,i<m->∃ o d,l[i]? = some o/\(∀ e∈o.after,Region.binds .any e=true->e.on<i)/\o.dst=some d/\d<a.tmps.size/\∀ j,j≠i->bM l.toArray j≠some d:=by
  intro i hi;have h:=List.all_eq_true.1 hf i (List.mem_range.2 hi);cases ho:l[i]? with
  | none=>rw[List.getElem?_toArray,ho]at h;cases h
  | some o =>
   rw[List.getElem?_toArray,ho]at h;dsimp only at h;rw[Bool.and_eq_true,Array.all_eq_true']at h;cases hd:o.dst with
   | none=>rw[hd]at h;cases h.2
   | some d =>
    exact zZ
 have hput:aZ (l.take m) V 0 a=iP l.toArray a V m:=by
  exact zf
 generalize hb:aZ (l.take m) V 0 a=b at *;refine qI m hm hB (fun a b=>aF a b) (fun a=>Below.refl _ _) (fun a b c h k=>h.trans (k.mono h.size)) (fun i v _=>v=V i) (fun _ _ _ _ h _=>h) (fun _ _=>True) trivial (wZ _ _ (fun i o hi=>?_)) (fun vals w' hG _ hv=>?_)
 ·rw[Nat.zero_add];intro ho L a' W _ _ _ _ hG hA hd;have hilt:i<m:=by
   exact zg
  have hSW:S W:=hSk _ _ hS0 hG;have hD:=PR _ hops i o hi W hSW;obtain⟨o',d,ho',hback,hdo,hdl,hdd⟩:=fair i hilt;obtain rfl:o=o':=by rw[List.getElem?_toArray]at ho;exact Option.some.inj (ho.symm.trans ho')
  have hdist:∀ t i j,i<m->j<m->bM l.toArray i=some t->bM l.toArray j=some t->i=j:=by
   intro t i j hi hj h1 h2;obtain⟨oi,di,hoi,_,hdi,_,hddi⟩:=fair i hi;have e1:bM l.toArray i=some di:=by unfold bM;rw[List.getElem?_toArray,hoi];exact hdi
   by_cases hij:j=i
   ·exact hij.symm
   ·exact absurd (by rw[h2,<-h1,e1]) (hddi j hij)
  have look:∀ t∈o.looksAt l.toArray,a'.tmps[t]? = b.tmps[t]?:=by
   intro t ht;have h:=List.all_eq_true.1 hdep i (List.mem_range.2 hilt);rw[ho]at h;dsimp only at h;rw[Bool.and_eq_true,List.all_eq_true]at h;have h2:=h.2 t ht;rw[Bool.or_eq_true]at h2;rcases h2 with h2 | h2
   ·have hoff:∀ j,j<m->bM l.toArray j≠some t:=fun j hj=>by
     have:=List.all_eq_true.1 h2 j (List.mem_range.2 hj);simpa using this
    rw[hA.off t hoff,hput,EN _ _ _ m hoff]
   ·rw[Array.any_eq_true']at h2;obtain⟨e,he,h2⟩:=h2;rw[Bool.and_eq_true,Bool.and_eq_true,decide_eq_true_eq,beq_iff_eq]at h2;obtain⟨⟨hbd,hem⟩,hdt⟩:=h2;have hv:iE l.toArray a' e.on=V e.on:=hd e he hbd;obtain⟨oe,de,hoe,_,hde,hdel,_⟩:=fair e.on hem;have e1:bM l.toArray e.on=some de:=by unfold bM;rw[List.getElem?_toArray,hoe];exact hde
    obtain rfl:de=t:=Option.some.inj (e1.symm.trans hdt);unfold iE at hv;rw[e1]at hv;dsimp only at hv;rw[hput,zN _ _ _ hdel m (hdist de) e.on hem e1];have hlt:de<a'.tmps.size:=by rw[hA.size];exact hdel
    rw[Array.getD_eq_getD_getElem?,Array.getElem?_eq_getElem hlt]at hv;rw[Array.getElem?_eq_getElem hlt,<-hv];rfl
  have hex:execOp a'.eval o=execOp b.eval o:=by
   refine execOp_congr o (fun cs bl hs=>?_) (fun x hx=>?_)
   ·have h:=List.all_eq_true.1 hdep i (List.mem_range.2 hilt);rw[ho]at h;dsimp only at h;rw[hs]at h;cases h
   ·cases x with
    | tmp t =>
     have:=look t (List.mem_append_left _ (List.mem_filterMap.2 ⟨.tmp t,uT,rfl⟩));show a'.tmps.getD t undef=b.tmps.getD t undef;rw[Array.getD_eq_getD_getElem?,Array.getD_eq_getD_getElem?,this]
    | _=>rfl
  have hwt:Region.wanted o (yielded l.toArray a'.tmps)=Region.wanted o (yielded l.toArray b.tmps):=by
   unfold Region.wanted;cases hg:o.guard with
   | none=>rfl
   | some gw =>
    obtain⟨g,want⟩:=gw;dsimp only;rw[PU (fun d hd=>look d ?_)];refine List.mem_append_right _ ?_;rw[hg];dsimp only;unfold bM at hd;rw[hd];simp
  have hbd:b.tmps[d]? = some (V i):=by
   have e1:bM l.toArray i=some d:=by unfold bM;rw[ho];exact hdo
   rw[hput,zN _ _ _ hdl m (hdist d) i hilt e1]
  have hbs:b.tmps.size=a.tmps.size:=by rw[hput,zM]
  have same:∀ v,b.put o.dst v=b->v=V i:=by
   intro v hv;rw[hdo]at hv;have h3:(b.put (some d) v).tmps[d]? = some (V i):=by rw[hv];exact hbd
   have hlt:d<b.tmps.size:=by rw[hbs];exact hdl
   simp[Act.put,hlt]at h3;exact h3
  unfold wpOp;rw[ho];dsimp only;rw[hwt];unfold wpList at hD;split
  ·rename_i hw;rw[if_pos hw]at hD;rcases hD with hD | ⟨_,a9,w9,h9,_⟩
   ·refine .inl ?_;unfold Oper.wp at hD ⊢;rw[hex];generalize (execOp b.eval o).run P W=r at hD ⊢;cases r with
    | ok n w9 =>
     cases n with
     | value v=>exact⟨v,rfl,same v hD.2.1,hD.2.2,trivial⟩
     | skip=>exact⟨undef,rfl,same undef hD.2.1,hD.2.2,trivial⟩
     | defer dd =>
      exfalso;have h3:({ b with defers:=dd :: b.defers }.put o.dst undef).defers=b.defers:=congrArg Act.defers hD.2.1;rw[PP]at h3;have:=congrArg List.length h3;simp at this
     | enter f args =>
      refine Calls.mono hD ?_;intro e w8 h8;cases e with
      | returned v=>exact⟨v,rfl,same v h8.2.1,h8.2.2,trivial⟩
      | panicked c=>cases h8.1
      | outgrown=>obtain⟨_,_,h7,_⟩:=h8;cases h7
     | row r args =>
      refine Rows.mono hD ?_;intro v w8 h8;exact⟨v,rfl,same v h8.2.1,h8.2.2,trivial⟩
     | _=>exact hD.elim
    | halt h w9 =>
     cases h with
     | panic v=>exact absurd hD.1 (by intro h;cases h)
     | _=>exact hD.elim
   ·cases h9
  ·rename_i hw;rw[if_neg hw]at hD;exact⟨undef,rfl,same undef hD.2.1,hD.2.2,trivial⟩
 ·have e:aZ (l.take m) vals 0 a=b:=by
   rw[<-hb];refine PQ _ _ _ _ _ (fun j hj=>?_);rw[Nat.zero_add];exact hv j (by rw[List.length_take]at hj;omega)
  rw[e];exact hend w' (hSk _ _ hS0 hG)
def bQ(D:Nat->Value->World->Prop)(vals:Nat->Value)(W:World):List Edge->Prop
 | []=>True
 | e :: r=>(match Region.binds .any e with
  | true=>D e.on (vals e.on) W
  | false=>True)/\bQ D vals W r
theorem zh{D:Nat->Value->World->Prop}{vals:Nat->Value}{W:World}:∀ l:List Edge,(∀ e∈l,Region.binds .any e=true->D e.on (vals e.on) W)->bQ D vals W l
 | [],_=>trivial
 | e :: r,h=>⟨by
   cases hb:Region.binds .any e with
   | true=>exact h e aH hb
   | false=>trivial,zh r (fun e' he' hb=>h e' (by simp[he']) hb)⟩
def wY(o:Oper)(a:Act):Value:=match o.dst with
 | some d=>a.tmps.getD d undef
 | none=>undef
def QV(D:Nat->Value->World->Prop)(i:Nat)(o:Oper)(ds:List Deferred)(w:World):Exit->Act->World->Prop:=fun e a' w'=>e=.normal/\D i (wY o a') w'/\a'.defers=ds/\aF w w'
def mf(P:Program)(ops:Array Oper)(S:World->Prop)(D:Nat->Value->World->Prop)(fr:(Nat->Value)->Act):Nat->List Oper->Prop
 | _,[]=>True
 | i,o :: l=>(∀ vals W,S W->bQ D vals W o.after.toList->wpList P ops (QV D i o (fr vals).defers W) [o] (fr vals) W)/\mf P ops S D fr (i+1) l
theorem PW{ops:Array Oper}{S:World->Prop}{D:Nat->Value->World->Prop}{fr:(Nat->Value)->Act}:∀(l:List Oper)(k:Nat),mf P ops S D fr k l->∀(i:Nat)(o:Oper),l[i]? = some o->∀ vals W,S W->bQ D vals W o.after.toList->wpList P ops (QV D (k+i) o (fr vals).defers W) [o] (fr vals) W
 | [],_,_,i,o,h=>nG
 | o :: l,k,h,0,o',ho=>by
  obtain rfl:o=o':=rJ;exact h.1
 | _ :: l,k,h,i+1,o',ho=>by
  have:=PW l (k+1) h.2 i o' rJ
  rwa [show k+1+i=k+(i+1) by omega]at this
theorem qm{l:List Oper}(m:Nat){id:Nat}{a:Act}{w:World}(hm:P.follows .mixedOrders=true)(hB:Region.freeB .any l m a.tmps.size=true)(hdep:Region.deps l.toArray .any m=true)
  (D:Nat->Value->World->Prop) (hDk:∀ i v w w',D i v w->aF w w'->D i v w') (S:World->Prop) (hS0:S { w with drawn:=w.drawn+1 }) (hSk:∀ w w',S w->aF w w'->S w')
  (hops:mf P l.toArray S D (fun vals=>aZ (l.take m) vals 0 a) 0 (l.take m))
  (hend:∀ vals w',S w'->(∀ j,j<m->D j (vals j) w')->wpList P l.toArray Q (l.drop m) (aZ (l.take m) vals 0 a) w'):(Code.region id l.toArray true).wp P Q a w:=by
 have hB2:=hB;unfold Region.freeB at hB2;simp only[Bool.and_eq_true,decide_eq_true_eq]at hB2;obtain⟨⟨⟨hml,hf⟩,_⟩,_⟩:=hB2;have fair:∀ i,i<m->∃ o d,l[i]? = some o/\(∀ e∈o.after,Region.binds .any e=true->e.on<i)/\o.dst=some d/\d<a.tmps.size/\∀ j,j≠i->bM l.toArray j≠some d:=by
  intro i hi;have h:=List.all_eq_true.1 hf i (List.mem_range.2 hi);cases ho:l[i]? with
  | none=>rw[List.getElem?_toArray,ho]at h;cases h
  | some o =>
   rw[List.getElem?_toArray,ho]at h;dsimp only at h;rw[Bool.and_eq_true,Array.all_eq_true']at h;cases hd:o.dst with
   | none=>rw[hd]at h;cases h.2
   | some d =>
    exact zZ
 have hput:∀ V,aZ (l.take m) V 0 a=iP l.toArray a V m:=by
  intro V;exact zf
 refine qI m hm hB (fun a b=>aF a b) (fun a=>Below.refl _ _) (fun a b c h k=>h.trans (k.mono h.size)) D (fun i v w w' h hb=>hDk i v w w' h hb) (fun _ _=>True) trivial (wZ _ _ (fun i o hi=>?_)) (fun vals w' hG _ hv=>?_)
 ·rw[Nat.zero_add];intro ho L a' W _ _ _ _ hG hA hd;have hilt:i<m:=by
   exact zg
  have hSW:S W:=hSk _ _ hS0 hG;obtain⟨V,hV⟩:∃ V:Nat->Value,V=fun j=>iE l.toArray a' j:=⟨_,rfl⟩
  have hD:=PW _ _ hops i o hi V W hSW (zh _ (fun e he hb=>by rw[hV];exact hd e (by simpa using he) hb));exact E5
 ·exact hend vals w' (hSk _ _ hS0 hG) hv
def IsV(c:Value):Value->World->Prop:=fun v _=>v=c
def sV(f:Value->World->Prop):Prop:=∀ v w w',f v w->aF w w'->f v w'
theorem vU(c:Value):sV (IsV c):=fun _ _ _ h _=>h
def qp:List (Value->World->Prop)->Prop
 | []=>True
 | f :: l=>sV f/\qp l
def DL(Ds:List (Value->World->Prop))(i:Nat)(v:Value)(W:World):Prop:=Ds.getD i (fun _ _=>False) v W
theorem DL.keep:∀(Ds:List (Value->World->Prop)),qp Ds->∀ i v w w',DL Ds i v w->aF w w'->DL Ds i v w'
 | [],_,_,_,_,_,h,_=>h.elim
 | f :: l,hk,0,v,w,w',h,hb=>hk.1 v w w' h hb
 | f :: l,hk,i+1,v,w,w',h,hb=>DL.keep l hk.2 i v w w' h hb
end
end Go.Proofs.YtlkbkclnbppigaaGreatDoor
