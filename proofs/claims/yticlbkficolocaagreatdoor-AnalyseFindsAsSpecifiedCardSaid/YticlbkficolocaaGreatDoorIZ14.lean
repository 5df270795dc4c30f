/- The specification's parts of patterns: what its suffix, ends, matches, covers, meets and part return. -/
import Derived.Test.YticlbkficolocaaGreatDoorIZ11
import Derived.Test.YticlbkficolocaaGreatDoorIZ4
set_option maxHeartbeats 4000000
namespace Go.Proofs.YticlbkficolocaaGreatDoor
open Go.RowKit Go.Sort
set_option linter.unusedVariables false
set_option linter.unusedSimpArgs false
set_option maxRecDepth 100000
def Yq (p:ByteArray):Bool:=decide (1<p.size)&&(p.data.toList.head? == some 42)
def endsB (p w:ByteArray):Bool:=decide (p.size-1<w.size)&&((w.extract (w.size-(p.size-1)) w.size).toList==(p.extract 1 p.size).toList)
def covB (p q:ByteArray):Bool:=p.toList == [42]||p.toList==q.toList||(Yq p&&!(q.toList == [42])&&(if Yq q then endsB p (⟨#[97]⟩++q.extract 1 q.size) else endsB p q))
def meetsB (p q:ByteArray):Bool:=covB p q||covB q p
theorem head_byte (s:ByteArray) (h:0<s.size):(s.data.toList.head? == some 42)=(s[0].toNat==42):=by
 have hl:0<s.data.toList.length:=by rw[←Lib.size_eq];exact h
 rw[byte_at s 0 h,List.head?_eq_getElem?,List.getElem?_eq_getElem hl,Bool.eq_iff_iff,beq_iff_eq,beq_iff_eq]
 constructor
 ·intro e;injection e with e;rw[e];rfl
 ·intro e;exact congrArg some (UInt8.toNat_inj.1 e)
theorem rSuffix_any (p:ByteArray) (w:World) (hp:p.size≤4294967281):Calls Tryz.prog 141 #[.string p] w (Zx w (.bool (Yq p))):=by
 by_cases h1:1<p.size
 ·have d1:decide ((1:Int)<(p.size:Int))=true:=decide_eq_true (by omega)
  have hv:Yq p=(p[0].toNat==42):=by unfold Yq;rw[decide_eq_true h1,head_byte p (by omega)];rfl
  have hb:=byte_int p[0] 42
  rw[←hv]at hb
  clear hv
  generalize Yq p=b at *
  have h0:(0:Int)<(p.size:Int):=by omega
  go_enter Tryz.func141,Tryz.ntmps141
  go_wp2
  go_ret
  exact⟨QY hb,Qz⟩
 ·have d1:decide ((1:Int)<(p.size:Int))=false:=decide_eq_false (by omega)
  have hv:Yq p=false:=by unfold Yq;rw[decide_eq_false h1];rfl
  rw[hv]
  clear hv
  go_enter Tryz.func141,Tryz.ntmps141
  go_wp2
  go_ret
  exact⟨rfl,Qz⟩
theorem rEnds_any (p s:ByteArray) (w:World) (hp:p.size≤4294967281) (h1:1≤p.size) (hs:s.size≤4294967281):Calls Tryz.prog 142 #[.string p,.string s] w (Zx w (.bool (endsB p s))):=by
 obtain⟨n,hn⟩:∃ n,p.size=n+1:=⟨p.size-1,by omega⟩
 have hi:(p.size:Int)-1=(n:Int):=by omega
 unfold endsB
 rw[show p.size-1=n by omega]
 by_cases h2:n<s.size
 ·obtain⟨m,hm⟩:∃ m,s.size-n=m:=⟨_,rfl⟩
  have hi2:(s.size:Int)-(n:Int)=(m:Int):=by omega
  have d1:decide ((n:Int)<(s.size:Int))=true:=decide_eq_true (by omega)
  have hm0:(0:Int)≤(m:Int):=by omega
  have hm1:(m:Int)≤(s.size:Int):=by omega
  have hp1:(1:Int)≤(p.size:Int):=by omega
  rw[hm,decide_eq_true h2,Bool.true_and]
  rw[hn]
  generalize hb:((s.extract m s.size).toList==(p.extract 1 (n+1)).toList)=b
  go_enter Tryz.func142,Tryz.ntmps142
  go_wp2_with fail
  go_quiet (fail)
  go_wp2
  go_ret
  exact⟨rfl,Qz⟩
 ·have d1:decide ((n:Int)<(s.size:Int))=false:=decide_eq_false (by omega)
  rw[decide_eq_false h2,Bool.false_and]
  go_enter Tryz.func142,Tryz.ntmps142
  go_wp2_with fail
  go_quiet (fail)
  go_wp2
  go_ret
  exact⟨rfl,Qz⟩
theorem UK (p q:ByteArray) (w:World) (hp:p.size≤4294967200) (hq:q.size≤4294967200):Calls Tryz.prog 82 #[.string p,.string q] w (Zx w (.bool (covB p q))):=by
 have cS:=fun W=>rSuffix_any p W (by omega)
 have cQ:=fun W=>rSuffix_any q W (by omega)
 have hsz:Yq p=true→1≤p.size:=by
  intro h;unfold Yq at h;simp only[Bool.and_eq_true,decide_eq_true_eq]at h;omega
 have hsq:Yq q=true→1≤q.size:=by
  intro h;unfold Yq at h;simp only[Bool.and_eq_true,decide_eq_true_eq]at h;omega
 have hz:(⟨#[97]⟩++q.extract 1 q.size:ByteArray).size≤1+q.size:=by
  rw[ByteArray.size_append,ByteArray.size_extract]
  show 1+_≤_
  omega
 have cE:=fun W (h:Yq p=true)=>rEnds_any p q W (by omega) (hsz h) (by omega)
 have cE2:=fun W (h:Yq p=true)=>rEnds_any p (⟨#[97]⟩++q.extract 1 q.size) W (by omega) (hsz h) (by omega)
 unfold covB
 generalize endsB p q=en at *
 generalize endsB p (⟨#[97]⟩++q.extract 1 q.size)=en2 at *
 generalize Yq p=sf at *
 generalize Yq q=sq at *
 have HSF:=Lib.hid cS
 have HSQ:=Lib.hid cQ
 clear cS hsz cQ hz
 cases h1:(p.toList == [42])
 rotate_left
 ·clear cE cE2 hsq
  go_enter Tryz.func82,Tryz.ntmps82
  go_wp2
  all_goals (go_ret;exact⟨rfl,Qz⟩)
 cases h2:(p.toList==q.toList)
 rotate_left
 ·clear cE cE2 hsq
  go_enter Tryz.func82,Tryz.ntmps82
  go_wp2
  all_goals (go_ret;exact⟨rfl,Qz⟩)
 cases sf
 ·clear cE cE2 hsq
  go_enter Tryz.func82,Tryz.ntmps82
  go_wp2_with (go_at_call 141;refine (HSF.out _).mono ?_;rintro e w1 ⟨rfl,hb1⟩;clear HSF)
  all_goals (go_ret;exact⟨rfl,Qz⟩)
 cases h3:(q.toList == [42])
 rotate_left
 ·clear cE cE2 hsq
  go_enter Tryz.func82,Tryz.ntmps82
  go_wp2_with (go_at_call 141;refine (HSF.out _).mono ?_;rintro e w1 ⟨rfl,hb1⟩;clear HSF)
  all_goals (go_ret;exact⟨rfl,Qz⟩)
 cases sq
 ·have HEN:=Lib.hid (fun W=>cE W rfl)
  clear cE cE2 hsq
  go_enter Tryz.func82,Tryz.ntmps82
  go_wp2_with (first | (go_at_call 141;refine (HSF.out _).mono ?_;rintro e w1 ⟨rfl,hb1⟩;clear HSF) | (go_at_call 141;refine (HSQ.out _).mono ?_;rintro e w3 ⟨rfl,hb3⟩) | (go_at_call 142;refine (HEN.out _).mono ?_;rintro e w2 ⟨rfl,hb2⟩))
  go_ret
  exact⟨QY (by simp),Qz⟩
 ·have HEN:=Lib.hid (fun W=>cE2 W rfl)
  have hq1:(1:Int)≤(q.size:Int):=by have:=hsq rfl;omega
  clear cE cE2 hsq
  go_enter Tryz.func82,Tryz.ntmps82
  go_wp2_with (first | (go_at_call 141;refine (HSF.out _).mono ?_;rintro e w1 ⟨rfl,hb1⟩;clear HSF) | (go_at_call 141;refine (HSQ.out _).mono ?_;rintro e w3 ⟨rfl,hb3⟩) | (go_at_call 142;refine (HEN.out _).mono ?_;rintro e w2 ⟨rfl,hb2⟩))
  go_ret
  exact⟨QY (by simp),Qz⟩
theorem rMeets_any (p q:ByteArray) (w:World) (hp:p.size≤4294967200) (hq:q.size≤4294967200):Calls Tryz.prog 84 #[.string p,.string q] w (Zx w (.bool (meetsB p q))):=by
 have c1:=fun W=>UK p q W hp hq
 have c2:=fun W=>UK q p W hq hp
 unfold meetsB
 generalize covB p q=a at *
 generalize covB q p=b at *
 have HC1:=Lib.hid c1
 have HC2:=Lib.hid c2
 clear c1 c2
 cases a <;> cases b
 all_goals
  go_enter Tryz.func84,Tryz.ntmps84
  go_wp2_with (first | (go_at_call 82;refine (HC1.out _).mono ?_;rintro e w1 ⟨rfl,hb1⟩;clear HC1) | (go_at_call 82;refine (HC2.out _).mono ?_;rintro e w2 ⟨rfl,hb2⟩))
  go_ret
  exact⟨rfl,Qz⟩
def partR (s:ByteArray):Bool:=if decide (2<s.size)&&((s.extract 0 2).toList == [42,46]) then decide (s.size≤34)&&Qg (s.extract 2 s.size) else s.toList == [42]||Qg s
theorem rPart_any (s:ByteArray) (w:World) (hs:s.size≤4294967200):Calls Tryz.prog 74 #[.string s] w (Zx w (.bool (partR s))):=by
 have c1:=fun W=>rWord_any s W (by omega)
 have c2:=fun W=>rWord_any (s.extract 2 s.size) W (by rw[ByteArray.size_extract];omega)
 unfold partR
 generalize Qg (s.extract 2 s.size)=b2 at *
 generalize Qg s=b1 at *
 by_cases h1:2<s.size
 ·have d1:decide ((2:Int)<(s.size:Int))=true:=decide_eq_true (by omega)
  have q2:(2:Int)≤(s.size:Int):=by omega
  rw[decide_eq_true h1]
  cases h2:((s.extract 0 2).toList == [42,46])
  ·simp only[Bool.and_false,Bool.false_eq_true,if_false]
   cases h3:(s.toList == [42])
   ·have HW:=Lib.hid c1
    clear c1 c2
    go_enter Tryz.func74,Tryz.ntmps74
    go_wp2_with (go_at_call 131;refine (HW.out _).mono ?_;rintro e w1 ⟨rfl,hb1⟩)
    go_ret
    exact⟨QY (by simp),Qz⟩
   ·clear c1 c2
    go_enter Tryz.func74,Tryz.ntmps74
    go_wp2
    go_ret
    exact⟨rfl,Qz⟩
  ·simp only[Bool.and_self,if_true]
   by_cases h4:s.size≤34
   ·have d4:decide ((s.size:Int)≤34)=true:=decide_eq_true (by omega)
    have HW:=Lib.hid c2
    rw[decide_eq_true h4]
    clear c1 c2
    go_enter Tryz.func74,Tryz.ntmps74
    go_wp2_with (go_at_call 131;refine (HW.out _).mono ?_;rintro e w1 ⟨rfl,hb1⟩)
    go_ret
    exact⟨QY (by simp),Qz⟩
   ·have d4:decide ((s.size:Int)≤34)=false:=decide_eq_false (by omega)
    rw[decide_eq_false h4]
    clear c1 c2
    go_enter Tryz.func74,Tryz.ntmps74
    go_wp2
    go_ret
    exact⟨rfl,Qz⟩
 ·have d1:decide ((2:Int)<(s.size:Int))=false:=decide_eq_false (by omega)
  rw[decide_eq_false h1]
  simp only[Bool.false_and,Bool.false_eq_true,if_false]
  cases h3:(s.toList == [42])
  ·have HW:=Lib.hid c1
   clear c1 c2
   go_enter Tryz.func74,Tryz.ntmps74
   go_wp2_with (go_at_call 131;refine (HW.out _).mono ?_;rintro e w1 ⟨rfl,hb1⟩)
   go_ret
   exact⟨QY (by simp),Qz⟩
  ·clear c1 c2
   go_enter Tryz.func74,Tryz.ntmps74
   go_wp2
   go_ret
   exact⟨rfl,Qz⟩
def leS (s x:ByteArray):Bool:=Op.bytesLess s.toList x.toList||s.toList==x.toList
def insA (s:ByteArray) (st:List ByteArray × Bool) (x:ByteArray):List ByteArray × Bool:=if !st.2&&leS s x then (st.1++[s],true) else st
def Xk (s:ByteArray) (st:List ByteArray × Bool) (x:ByteArray):List ByteArray × Bool:=if x.toList != s.toList then ((insA s st x).1++[x],(insA s st x).2) else insA s st x
def Wn (l:List ByteArray) (s:ByteArray):List ByteArray:=if (l.foldl (Xk s) ([],false)).2 then (l.foldl (Xk s) ([],false)).1 else (l.foldl (Xk s) ([],false)).1++[s]
theorem foldl_take {α β:Type} (f:β→α→β) (b:β) {l:List α} {k:Nat} {x:α} (hx:l[k]? = some x):(l.take (k+1)).foldl f b=f ((l.take k).foldl f b) x:=by
 rw[List.take_add_one,hx];simp
theorem rInsert_any (A:Option Addr) (n c:Nat) (l:List ByteArray) (s:ByteArray) (w:World) (hR:Reads w 1 A n (l.map .string)) (hn:n≤1000000):Calls Tryz.prog 78 #[.slice A n c,.string s] w (OwnPost (Wn l s) w):=by
 have hl:l.length=n:=by have:=hR.1;simpa using this
 obtain⟨i0,hi0,hz0,hz1,hz2⟩:=info_parts V3
 have HI:Hid ((Tryz.prog.info? 9=some i0)∧i0.zero=some (.string ⟨#[]⟩)∧i0.size=1∧i0.bytes=16):=Lib.hid ⟨hi0,hz0,hz1,hz2⟩
 have HL:=Lib.hid hl
 have HR:=Lib.hid hR
 clear hi0 hz0 hz1 hz2 hl hR
 go_enter Tryz.func78,Tryz.ntmps78
 go_wp2
 go_loopw [5,6,7] (fun va vp vi wr=>∃ (k m:Nat) (pl:Bool) (acc:List ByteArray) (A':Option Addr) (c':Nat),(vi=.int .i64 k∧vp=.bool pl∧va=.slice A' m c'∧k≤n∧m≤2*k)∧Hid ((l.take k).foldl (Xk s) ([],false)=(acc,pl)∧acc.length=m)∧wr.ownsRow w.heap.size 9 1 (.slice A' m c') m (acc.map .string)∧Below w.heap.size w wr) (fun _ _ i _=>n-(intOf i).toNat)
 case atStart=>exact⟨0,0,false,[],none,0,⟨rfl,rfl,rfl,Nat.zero_le _,Nat.le_refl _⟩,Lib.hid ⟨rfl,rfl⟩,World.ownsRow_nil _ _ _ _,Below.refl _ _⟩
 case round =>
  obtain⟨k,m,pl,acc,A',c',⟨rfl,rfl,rfl,hk,hm⟩,HK,hown,hbr⟩:=hrel
  have hbs:=hbr.size
  by_cases hlt:k<n
  ·obtain⟨x,hx⟩:∃ x,l[k]? = some x:=⟨_,List.getElem?_eq_getElem (by have:=HL.out;omega)⟩
   obtain⟨b,o,rfl,hcell⟩:=HR.out.2 (by omega)
   have hc0:w.cell? ⟨b,o+k,none⟩=some (.string x):=hcell k _ (by simp[hx])
   have hc1:wr.cell? ⟨b,o+k,none⟩=some (.string x):=Qq hbr hc0
   have hk0:(0:Int)≤(k:Int):=by omega
   have hk1:(k:Int)<(n:Int):=by omega
   have hst:(l.take (k+1)).foldl (Xk s) ([],false)=Xk s (acc,pl) x:=by rw[foldl_take _ _ hx,HK.out.1]
   have hml:=HK.out.2
   have HX:=Lib.hid (show wr.heap.size=wr.heap.size from rfl)
   clear hcell hx
   by_cases hfirst:pl=false∧leS s x=true
   ·obtain⟨rfl,hle⟩:=hfirst
    have e1:insA s (acc,false) x=(acc++[s],true):=by simp[insA,hle]
    have hle2:(Op.bytesLess s.toList x.toList||s.toList==x.toList)=true:=hle
    cases hne:(x.toList != s.toList)
    ·have e2:Xk s (acc,false) x=(acc++[s],true):=by simp only[Xk,hne,e1];rfl
     have HK2:=Lib.hid (show (l.take (k+1)).foldl (Xk s) ([],false)=(acc++[s],true)∧(acc++[s]).length=m+1 from⟨hst.trans e2,by simp[hml]⟩)
     have hq:(x.toList==s.toList)=true:=by simpa[bne] using hne
     have hq2:x.toList=s.toList:=beq_iff_eq.1 hq
     clear e1 e2 hst hml HK hle
     go_wp2_with (at_builtin;refine wpList_append_own _ rfl _ _ 22 rfl w.heap.size 9 i0 (.string ⟨#[]⟩) 1 16 Tryz.underlying22 HI.out.1 HI.out.2.1 HI.out.2.2.1 HI.out.2.2.2 rfl (by decide) _ _ _ rfl (hown.alloc _) ⟨wr.heap.size,0,none⟩ 1 1 [.string s] rfl rfl (cell_one_new _ _ _) (by simp[Value.oneCell']) (by unfold maxLen;omega) (by omega) (by simp;omega) ?_;intro v' w3 hown1 hgrow1 _;obtain⟨g1,cap1,rfl⟩:=ownsRow_succ hown1;have hb3:Below w.heap.size w w3:=(hbr.alloc hbs _).grown hgrow1 (by simp;omega) (fun r e=>Qu hown r e);have hbs3:=hb3.size;have hc3:w3.cell? ⟨b,o+k,none⟩=some (.string x):=Qq hb3 hc0;clear hown)
     exact⟨⟨k+1,m+1,true,acc++[s],some ⟨g1,0,none⟩,cap1,⟨by go_num,rfl,rfl,by omega,by omega⟩,HK2,by rw[List.map_append];exact hown1,hb3⟩,by simp[intOf];omega⟩
    ·have e2:Xk s (acc,false) x=(acc++[s]++[x],true):=by simp only[Xk,hne,e1];rfl
     have HK2:=Lib.hid (show (l.take (k+1)).foldl (Xk s) ([],false)=(acc++[s]++[x],true)∧(acc++[s]++[x]).length=m+1+1 from⟨hst.trans e2,by simp[hml]⟩)
     have hq:¬ x.toList=s.toList:=by simpa[bne] using hne
     have hq3:(x.toList==s.toList)=false:=by simpa using hq
     clear e1 e2 hst hml HK hle
     go_wp2_with (first | (at_builtin;refine wpList_append_own _ rfl _ _ 22 rfl w.heap.size 9 i0 (.string ⟨#[]⟩) 1 16 Tryz.underlying22 HI.out.1 HI.out.2.1 HI.out.2.2.1 HI.out.2.2.2 rfl (by decide) _ _ _ rfl (hown.alloc _) ⟨wr.heap.size,0,none⟩ 1 1 [.string s] rfl rfl (cell_one_new _ _ _) (by simp[Value.oneCell']) (by unfold maxLen;omega) (by omega) (by simp;omega) ?_;intro v' w3 hown1 hgrow1 _;obtain⟨g1,cap1,rfl⟩:=ownsRow_succ hown1;have hb3:Below w.heap.size w w3:=(hbr.alloc hbs _).grown hgrow1 (by simp;omega) (fun r e=>Qu hown r e);have hbs3:=hb3.size;have hc3:w3.cell? ⟨b,o+k,none⟩=some (.string x):=Qq hb3 hc0;clear hown) | (at_builtin;refine wpList_append_own _ rfl _ _ 22 rfl w.heap.size 9 i0 (.string ⟨#[]⟩) 1 16 Tryz.underlying22 HI.out.1 HI.out.2.1 HI.out.2.2.1 HI.out.2.2.2 rfl (by decide) _ _ _ rfl (hown1.alloc _) ⟨w3.heap.size,0,none⟩ 1 1 [.string x] rfl rfl (cell_one_new _ _ _) (by simp[Value.oneCell']) (by unfold maxLen;omega) (by omega) (by simp;omega) ?_;intro v' w4 hown2 hgrow2 _;obtain⟨g2,cap2,rfl⟩:=ownsRow_succ hown2;have hb4:Below w.heap.size w w4:=(hb3.alloc hbs3 _).grown hgrow2 (by simp;omega) (fun r e=>Qu hown1 r e)))
     exact⟨⟨k+1,m+1+1,true,acc++[s]++[x],some ⟨g2,0,none⟩,cap2,⟨by go_num,rfl,rfl,by omega,by omega⟩,HK2,by rw[List.map_append,List.map_append];exact hown2,hb4⟩,by simp[intOf];omega⟩
   ·have e1:insA s (acc,pl) x=(acc,pl):=by
     unfold insA
     rw[if_neg]
     intro h
     simp only[Bool.and_eq_true,Bool.not_eq_true']at h
     exact hfirst h
    have hguard:pl=true∨(pl=false∧(Op.bytesLess s.toList x.toList||s.toList==x.toList)=false):=by
     cases pl
     ·right
      refine⟨rfl,?_⟩
      cases hle:leS s x
      ·exact hle
      ·exact absurd ⟨rfl,hle⟩ hfirst
     ·exact .inl rfl
    clear hfirst
    cases hne:(x.toList != s.toList)
    ·have e2:Xk s (acc,pl) x=(acc,pl):=by simp only[Xk,hne,e1];rfl
     have HK2:=Lib.hid (show (l.take (k+1)).foldl (Xk s) ([],false)=(acc,pl)∧acc.length=m from⟨hst.trans e2,hml⟩)
     have hq:(x.toList==s.toList)=true:=by simpa[bne] using hne
     have hq2:x.toList=s.toList:=beq_iff_eq.1 hq
     clear e1 e2 hst hml HK
     rcases hguard with rfl | ⟨rfl,hg⟩
     ·go_wp2
      exact⟨⟨k+1,m,_,acc,A',c',⟨by go_num,rfl,rfl,by omega,by omega⟩,HK2,hown,hbr⟩,by simp[intOf];omega⟩
     ·exact absurd hg (by rw[hq2];simp)
    ·have e2:Xk s (acc,pl) x=(acc++[x],pl):=by simp only[Xk,hne,e1];rfl
     have HK2:=Lib.hid (show (l.take (k+1)).foldl (Xk s) ([],false)=(acc++[x],pl)∧(acc++[x]).length=m+1 from⟨hst.trans e2,by simp[hml]⟩)
     have hq:¬ x.toList=s.toList:=by simpa[bne] using hne
     have hq3:(x.toList==s.toList)=false:=by simpa using hq
     clear e1 e2 hst hml HK
     rcases hguard with rfl | ⟨rfl,hg⟩
     all_goals
      go_wp2_with (at_builtin;refine wpList_append_own _ rfl _ _ 22 rfl w.heap.size 9 i0 (.string ⟨#[]⟩) 1 16 Tryz.underlying22 HI.out.1 HI.out.2.1 HI.out.2.2.1 HI.out.2.2.2 rfl (by decide) _ _ _ rfl (hown.alloc _) ⟨wr.heap.size,0,none⟩ 1 1 [.string x] rfl rfl (cell_one_new _ _ _) (by simp[Value.oneCell']) (by unfold maxLen;omega) (by omega) (by simp;omega) ?_;intro v' w3 hown1 hgrow1 _;obtain⟨g1,cap1,rfl⟩:=ownsRow_succ hown1;have hb3:Below w.heap.size w w3:=(hbr.alloc hbs _).grown hgrow1 (by simp;omega) (fun r e=>Qu hown r e);clear hown)
      exact⟨⟨k+1,m+1,_,acc++[x],some ⟨g1,0,none⟩,cap1,⟨by go_num,rfl,rfl,by omega,by omega⟩,HK2,by rw[List.map_append];exact hown1,hb3⟩,by simp[intOf];omega⟩
  ·obtain rfl:k=n:=by omega
   have hfin:l.foldl (Xk s) ([],false)=(acc,pl):=by
    have:=HK.out.1
    rwa [List.take_of_length_le (by have:=HL.out;omega)]at this
   have hml:=HK.out.2
   cases pl
   ·have hv:Wn l s=acc++[s]:=by unfold Wn;rw[hfin];rfl
    have hvl:(Wn l s).length=m+1:=by rw[hv];simp[hml]
    have HV:=Lib.hid hv
    have HVL:=Lib.hid hvl
    clear hv hvl hfin hml HK
    go_wp2_with (at_builtin;refine wpList_append_own _ rfl _ _ 22 rfl w.heap.size 9 i0 (.string ⟨#[]⟩) 1 16 Tryz.underlying22 HI.out.1 HI.out.2.1 HI.out.2.2.1 HI.out.2.2.2 rfl (by decide) _ _ _ rfl (hown.alloc _) ⟨wr.heap.size,0,none⟩ 1 1 [.string s] rfl rfl (cell_one_new _ _ _) (by simp[Value.oneCell']) (by unfold maxLen;omega) (by omega) (by simp;omega) ?_;intro v' w3 hown1 hgrow1 _;obtain⟨g1,cap1,rfl⟩:=ownsRow_succ hown1)
    go_ret
    refine⟨some ⟨g1,0,none⟩,cap1,by rw[HVL.out];rfl,by rw[HVL.out,HV.out,List.map_append];exact hown1,(hbr.alloc hbs _).grown hgrow1 (by simp;omega) (fun r e=>Qu hown r e)⟩
   ·have hv:Wn l s=acc:=by unfold Wn;rw[hfin];rfl
    have HV:=Lib.hid hv
    have HML:=Lib.hid hml
    clear hv hfin hml HK
    go_wp2
    go_ret
    refine⟨A',c',by rw[HV.out,HML.out];rfl,by rw[HV.out,HML.out];exact hown,hbr⟩
def W9 (l:List ByteArray) (k:Nat):ByteArray:=Zd (Lib.join ((lists l).take k) [44])
theorem joinB_zero (l:List ByteArray):W9 l 0=⟨#[]⟩:=by simp[W9,Lib.join_nil,Zd]
theorem joinB_first (l:List ByteArray) (x:ByteArray) (h:l[0]? = some x):W9 l 1=x:=by
 cases l with
 | nil=>cases h
 | cons y r =>
  simp only[List.getElem?_cons_zero,Option.some.injEq]at h
  subst h
  simp only[W9,lists,List.map_cons,List.take_succ_cons,List.take_zero,Lib.join_one]
  exact Qm (by simp[Zd])
theorem joinB_step (l:List ByteArray) (k:Nat) (x:ByteArray) (hk:k≠0) (h:l[k]? = some x):W9 l k++⟨#[44]⟩++x=W9 l (k+1):=by
 cases l with
 | nil=>cases h
 | cons y r =>
  obtain⟨j,rfl⟩:∃ j,k=j+1:=⟨k-1,by omega⟩
  rw[List.getElem?_cons_succ]at h
  simp only[W9,lists,List.map_cons,List.take_succ_cons,Lib.join_cons]
  rw[Lib.joinTail_take_succ [44] (r.map (·.data.toList)) j x.data.toList (by rw[List.getElem?_map,h];rfl)]
  exact Qm (by simp[Zd])
theorem joinB_le (l:List ByteArray) (k:Nat):(W9 l k).size≤(Lib.join (lists l) [44]).length:=by
 rw[W9,Xw]
 cases l with
 | nil=>simp[lists]
 | cons y r =>
  cases k with
  | zero=>simp[Lib.join_nil]
  | succ j =>
   simp only[lists,List.map_cons,List.take_succ_cons,Lib.join_cons,List.length_append]
   have:=Lib.joinTail_take_le [44] (r.map (·.data.toList)) j
   omega
theorem joinB_all (l:List ByteArray):W9 l l.length=Zd (Lib.join (lists l) [44]):=by
 rw[W9,List.take_of_length_le (by simp[lists])]
theorem rJoined_any (A:Option Addr) (n c:Nat) (l:List ByteArray) (w:World) (hR:Reads w 1 A n (l.map .string)) (hn:n≤1000000) (htot:(Lib.join (lists l) [44]).length≤1000000000) (hsz:∀ x∈l,x.size≤1000000000):Calls Tryz.prog 79 #[.slice A n c] w (Zx w (.string (Zd (Lib.join (lists l) [44])))):=by
 have hl:l.length=n:=by have:=hR.1;simpa using this
 have hend:=joinB_all l
 rw[hl]at hend
 have HL:=Lib.hid hl
 have HR:=Lib.hid hR
 have HE:=Lib.hid hend
 have HT:=Lib.hid htot
 have HS:=Lib.hid hsz
 clear hl hR hend htot hsz
 go_enter Tryz.func79,Tryz.ntmps79
 go_wp2
 go_loopw [3,4] (fun vs vi wr=>∃ k:Nat,vi=.int .i64 k∧k≤n∧vs=.string (W9 l k)∧Below w.heap.size w wr) (fun _ i _=>n-(intOf i).toNat)
 case atStart=>exact⟨0,rfl,Nat.zero_le _,by rw[joinB_zero],Below.refl _ _⟩
 case round =>
  obtain⟨k,rfl,hk,rfl,hbr⟩:=hrel
  by_cases hlt:k<n
  ·obtain⟨x,hx⟩:∃ x,l[k]? = some x:=⟨_,List.getElem?_eq_getElem (by have:=HL.out;omega)⟩
   obtain⟨b,o,rfl,hcell⟩:=(HR.out.keep hbr).2 (by omega)
   have hc1:wr.cell? ⟨b,o+k,none⟩=some (.string x):=hcell k _ (by simp[hx])
   have hz1:(W9 l k).size≤1000000000:=Nat.le_trans (joinB_le l k) HT.out
   have hz2:x.size≤1000000000:=HS.out x (List.mem_of_getElem? hx)
   have hk0:(0:Int)≤(k:Int):=by omega
   have hk1:(k:Int)<(n:Int):=by omega
   by_cases h0:k=0
   ·subst h0
    simp only[Nat.add_zero]at hc1
    have HJ:=Lib.hid (joinB_first l x hx)
    rw[joinB_zero]
    clear hcell hx hz1
    go_wp2
    exact⟨⟨1,by go_num,by omega,by rw[HJ.out];exact congrArg Value.string (Qm (by simp)),hbr⟩,by simp[intOf];omega⟩
   ·have HJ:=Lib.hid (joinB_step l k x h0 hx)
    have hd:decide ((0:Int)<(k:Int))=true:=by simp;omega
    generalize W9 l k=S at *
    clear hcell hx
    have n1:¬ 9223372036854775807<S.size+1:=by omega
    have n2:¬ 9223372036854775807<S.size+1+x.size:=by omega
    go_wp2
    exact⟨⟨k+1,by go_num,by omega,congrArg Value.string HJ.out,hbr⟩,by simp[intOf];omega⟩
  ·obtain rfl:k=n:=by omega
   have he:=HE.out
   rw[he]
   go_wp2
   go_ret
   exact⟨rfl,hbr⟩
def ResBox (w:World) (g:Nat) (s:ByteArray) (e:Int):Prop:=Qv w g 83 #[.string s,.int .i64 e] (0,0)
theorem Qd {w:World} {g:Nat} {t:TypeId} {cs:Array Value} (h:Qv w g t cs (0,0)) (i:Nat):w.frozen? ⟨g,i,none⟩=false:=by
 unfold Qv at h
 simp[World.frozen?,h]
theorem ResBox.facts {w:World} {g:Nat} {s:ByteArray} {e:Int} (h:ResBox w g s e):w.cell? ⟨g,0,none⟩=some (.string s)∧w.cell? ⟨g,1,none⟩=some (.int .i64 e)∧w.frozen? ⟨g,0,none⟩=false∧w.frozen? ⟨g,1,none⟩=false :=
 ⟨Qv.cell h 0,Qv.cell h 1,Qd h 0,Qd h 1⟩
theorem insSt_bd (s:ByteArray) (st:List ByteArray × Bool) (x:ByteArray) (k:Nat) (h:st.1.length≤if st.2 then k+1 else k):(Xk s st x).1.length≤if (Xk s st x).2 then k+2 else k+1:=by
 obtain⟨l,b⟩:=st
 unfold Xk insA
 cases b <;> cases leS s x <;> cases (x.toList != s.toList) <;> simp_all <;> omega
theorem insFold_bd (s:ByteArray) (l:List ByteArray):∀ (st:List ByteArray × Bool) (k:Nat),st.1.length≤(if st.2 then k+1 else k)→(l.foldl (Xk s) st).1.length≤if (l.foldl (Xk s) st).2 then k+l.length+1 else k+l.length:=by
 induction l with
 | nil=>intro st k h;obtain⟨a,b⟩:=st;cases b <;> simpa using h
 | cons x l ih =>
  intro st k h
  have:=ih (Xk s st x) (k+1) (by simpa[Nat.add_assoc] using insSt_bd s st x k h)
  simp only[List.foldl_cons,List.length_cons]
  rw[show k+(l.length+1)=k+1+l.length by omega]
  exact this
theorem insB_len (l:List ByteArray) (s:ByteArray):(Wn l s).length≤l.length+1:=by
 have:=insFold_bd s l ([],false) 0 (by simp)
 unfold Wn
 split
 ·simp_all
 ·simp_all
theorem insSt_mem (s:ByteArray) (st:List ByteArray × Bool) (x y:ByteArray) (h:y∈(Xk s st x).1):y∈st.1∨y=s∨y=x:=by
 obtain⟨l,b⟩:=st
 unfold Xk insA at h
 revert h
 cases b <;> cases leS s x <;> cases (x.toList != s.toList) <;> simp <;> grind
theorem insFold_mem (s y:ByteArray) (l:List ByteArray):∀ st:List ByteArray × Bool,y∈(l.foldl (Xk s) st).1→y∈st.1∨y=s∨y∈l:=by
 induction l with
 | nil=>intro st h;exact .inl h
 | cons x l ih =>
  intro st h
  rcases ih (Xk s st x) h with h | h | h
  ·rcases insSt_mem s st x y h with h | h | h
   ·exact .inl h
   ·exact .inr (.inl h)
   ·exact .inr (.inr (by simp[h]))
  ·exact .inr (.inl h)
  ·exact .inr (.inr (by simp[h]))
theorem insB_mem (l:List ByteArray) (s y:ByteArray) (h:y∈Wn l s):y=s∨y∈l:=by
 unfold Wn at h
 split at h
 ·rcases insFold_mem s y l _ h with h | h | h
  ·cases h
  ·exact .inl h
  ·exact .inr h
 ·rcases List.mem_append.1 h with h | h
  ·rcases insFold_mem s y l _ h with h | h | h
   ·cases h
   ·exact .inl h
   ·exact .inr h
  ·exact .inl (List.mem_singleton.1 h)
def JX (l:List ByteArray) (k:Nat):List ByteArray:=(l.take k).foldl Wn []
theorem tagsK_step (l:List ByteArray) (k:Nat) (x:ByteArray) (h:l[k]? = some x):JX l (k+1)=Wn (JX l k) x:=foldl_take _ _ h
theorem tagsK_mem (l:List ByteArray) (k:Nat) (y:ByteArray) (h:y∈JX l k):y∈l:=by
 have key:∀ (m acc:List ByteArray),y∈m.foldl Wn acc→y∈acc∨y∈m:=by
  intro m
  induction m with
  | nil=>intro acc h;exact .inl h
  | cons x m ih =>
   intro acc h
   rcases ih _ h with h | h
   ·rcases insB_mem _ _ _ h with h | h
    ·exact .inr (by simp[h])
    ·exact .inl h
   ·exact .inr (by simp[h])
 rcases key _ _ h with h | h
 ·cases h
 ·exact List.mem_of_mem_take h
theorem tagsK_len (l:List ByteArray):∀ k,k≤l.length→(JX l k).length≤k
 | 0,_=>by simp[JX]
 | k+1,h=>by
  have hx:l[k]? = some l[k]:=List.getElem?_eq_getElem (by omega)
  rw[tagsK_step l k _ hx]
  have:=insB_len (JX l k) l[k]
  have:=tagsK_len l k (by omega)
  omega
theorem tagsK_all (l:List ByteArray):JX l l.length=l.foldl Wn []:=by rw[JX,List.take_length]
def rTagsL (l:List ByteArray):List UInt8:=Lib.join (lists (l.foldl Wn [])) [44]
def rTagsR (l:List ByteArray):ByteArray × Int:=if l.any (fun p=>!Qy p) then (⟨#[]⟩,1) else if 4096<(rTagsL l).length then (⟨#[]⟩,2) else (Zd (rTagsL l),0)
def rTagsV (l:List ByteArray):Value:=.agg #[.string (rTagsR l).1,.int .i64 (rTagsR l).2]
theorem join_bound2 (l:List ByteArray) (h:∀ x∈l,x.size≤64):(Lib.join (lists l) [44]).length≤l.length*65:=by
 have:=join_bound (lists l) (by
  intro x hx
  obtain⟨p,hp,rfl⟩:=List.mem_map.1 hx
  have:=h p hp
  rw[Lib.size_eq]at this;exact this)
 rwa [lists_len]at this
theorem rTags_any (A:Option Addr) (n c:Nat) (l:List ByteArray) (w:World) (hR:Reads w 1 A n (l.map .string)) (hn:n≤1000000) (hsz:∀ x∈l,x.size≤4294967281):Calls Tryz.prog 37 #[.slice A n c] w (Zx w (rTagsV l)):=by
 have hl:l.length=n:=by have:=hR.1;simpa using this
 have HL:=Lib.hid hl
 have HR:=Lib.hid hR
 have HS:=Lib.hid hsz
 obtain⟨V,hV⟩:∃ V,rTagsV l=V:=⟨_,rfl⟩
 have HV:=Lib.hid hV
 rw[hV]
 clear hl hR hV hsz
 go_enter Tryz.func37,Tryz.ntmps37
 go_wp2
 have hX0:ResBox (w.alloc (.cells #[.string ⟨#[]⟩,.int .i64 0] 83)) w.heap.size ⟨#[]⟩ 0:=World.alloc_heap_new _ _
 go_loopw [3,4] (fun vo vi wr=>∃ (k m:Nat) (A':Option Addr) (c':Nat),(vi=.int .i64 k∧vo=.slice A' m c'∧k≤n∧m≤k)∧Hid ((JX l k).length=m∧∀ p∈l.take k,Qy p=true)∧ResBox wr w.heap.size ⟨#[]⟩ 0∧Reads wr 1 A' m ((JX l k).map .string)∧Below w.heap.size w wr) (fun _ i _=>n-(intOf i).toNat)
 case atStart=>exact⟨0,0,none,0,⟨rfl,rfl,Nat.zero_le _,Nat.le_refl _⟩,Lib.hid ⟨rfl,by simp⟩,hX0,Reads.nil_ _ _ _,Qk (Below.refl _ _) _⟩
 case round =>
  clear hX0
  obtain⟨k,m,A',c',⟨rfl,rfl,hk,hm⟩,HK,hX,hR2,hbr⟩:=hrel
  have HR2:=Lib.hid hR2
  clear hR2
  by_cases hlt:k<n
  ·obtain⟨x,hx⟩:∃ x,l[k]? = some x:=⟨_,List.getElem?_eq_getElem (by have:=HL.out;omega)⟩
   obtain⟨b,o,rfl,hcell⟩:=HR.out.2 (by omega)
   have hc0:w.cell? ⟨b,o+k,none⟩=some (.string x):=hcell k _ (by simp[hx])
   have hc1:wr.cell? ⟨b,o+k,none⟩=some (.string x):=Qq hbr hc0
   have hk0:(0:Int)≤(k:Int):=by omega
   have hk1:(k:Int)<(n:Int):=by omega
   have hxs:=HS.out x (List.mem_of_getElem? hx)
   have HX:=Lib.hid hx
   have cN:=fun W=>Ue x W hxs
   clear hcell hx
   cases hname:Qy x
   ·have hv:V=.agg #[.string ⟨#[]⟩,.int .i64 1]:=by
     rw[←HV.out]
     unfold rTagsV rTagsR
     rw[if_pos (List.any_eq_true.2 ⟨x,List.mem_of_getElem? HX.out,by rw[hname];rfl⟩)]
    subst hv
    rw[hname]at cN
    go_wp2_with (go_at_call 73;refine (cN _).mono ?_;rintro e w1 ⟨rfl,hb1⟩;have hX1:ResBox w1 w.heap.size ⟨#[]⟩ 0:=Qv.keep hX hb1;obtain⟨x0,x1,f0,f1⟩:=hX1.facts;clear cN)
    exact bodyPost_ret (v:=.agg #[.string ⟨#[]⟩,.int .i64 1]) (by simp[results,Tryz.results37,go_sem,x0,x1,f0,f1]) rfl ⟨rfl,Qz⟩
   ·rw[hname]at cN
    have hm2:(JX l (k+1)).length≤k+1:=tagsK_len l (k+1) (by have:=HL.out;omega)
    have HM:=Lib.hid (show JX l (k+1)=Wn (JX l k) x from tagsK_step l k x HX.out)
    go_wp2_with (first | (go_at_call 73;refine (cN _).mono ?_;rintro e w1 ⟨rfl,hb1⟩;have hX1:ResBox w1 w.heap.size ⟨#[]⟩ 0:=Qv.keep hX hb1;have hc2:w1.cell? ⟨b,o+k,none⟩=some (.string x):=Qq hb1 hc1;have cI:=rInsert_any A' m c' (JX l k) x w1 (HR2.out.keep hb1) (by omega);clear cN) | (go_at_call 78;refine cI.mono ?_;rintro e w2 ⟨A2,c2,rfl,hown2,hb2⟩;clear cI))
    rw[←HM.out]at hown2 ⊢
    exact⟨⟨k+1,_,A2,c2,⟨by go_num,rfl,by omega,hm2⟩,Lib.hid ⟨rfl,by
     rw[List.take_add_one,HX.out]
     intro p hp
     rcases List.mem_append.1 hp with hp | hp
     ·exact HK.out.2 p hp
     ·rw[show p=x by simpa using hp];exact hname⟩,Qv.keep hX1 hb2,Reads.of_own hown2,Qj hbr (Qj hb1 hb2)⟩,by simp[intOf];omega⟩
  ·obtain rfl:k=n:=by omega
   have hall:l.any (fun p=>!Qy p)=false:=by
    rw[List.any_eq_false]
    intro p hp
    have:=HK.out.2 p (by rw[List.take_of_length_le (by have:=HL.out;omega)];exact hp)
    simp[this]
   have hke:JX l k=l.foldl Wn []:=by rw[←HL.out];exact tagsK_all l
   have h64:∀ x∈JX l k,x.size≤64:=fun x hx=>KJ (by have:=List.any_eq_false.1 hall x (tagsK_mem l k x hx);simpa using this)
   have hb:=join_bound2 (JX l k) h64
   rw[HK.out.1]at hb
   have cJ:=fun W h=>rJoined_any A' m c' (JX l k) W h (by omega) (by omega) (fun x hx=>by have:=h64 x hx;omega)
   have hv:V=if 4096<(Zd (Lib.join (lists (JX l k)) [44])).size then .agg #[.string ⟨#[]⟩,.int .i64 2] else .agg #[.string (Zd (Lib.join (lists (JX l k)) [44])),.int .i64 0]:=by
    rw[←HV.out,hke]
    unfold rTagsV rTagsR rTagsL
    rw[if_neg (by rw[hall];decide),Xw]
    split <;> rfl
   have HC:=Lib.hid cJ
   clear hall hke h64 hb cJ HV HK
   generalize Zd (Lib.join (lists (JX l k)) [44])=T at *
   by_cases hbig:4096<T.size
   ·rw[if_pos hbig]at hv
    subst hv
    have hd:decide ((4096:Int)<(T.size:Int))=true:=by simp;omega
    go_wp2_with (go_at_call 79;refine (HC.out _ HR2.out).mono ?_;rintro e w1 ⟨rfl,hb1⟩;have hX1:ResBox w1 w.heap.size ⟨#[]⟩ 0:=Qv.keep hX hb1;obtain⟨x0,x1,f0,f1⟩:=hX1.facts)
    exact bodyPost_ret (v:=.agg #[.string ⟨#[]⟩,.int .i64 2]) (by simp[results,Tryz.results37,go_sem,x0,x1,f0,f1]) rfl ⟨rfl,Qz⟩
   ·rw[if_neg hbig]at hv
    subst hv
    have hd:decide ((4096:Int)<(T.size:Int))=false:=by simp;omega
    go_wp2_with (go_at_call 79;refine (HC.out _ HR2.out).mono ?_;rintro e w1 ⟨rfl,hb1⟩;have hX1:ResBox w1 w.heap.size ⟨#[]⟩ 0:=Qv.keep hX hb1;obtain⟨x0,x1,f0,f1⟩:=hX1.facts)
    exact bodyPost_ret (v:=.agg #[.string T,.int .i64 0]) (by simp[results,Tryz.results37,go_sem,x0,x1,f0,f1]) rfl ⟨rfl,Qz⟩
def RPathPost (r:Option (List ByteArray)) (w:World) (e:Ending) (w':World):Prop :=
 Below w.heap.size w w'∧match r with
  | none=>e=.returned (.tuple #[.slice none 0 0,.bool false])
  | some out=>∃ A c,e=.returned (.tuple #[.slice A out.length c,.bool true])∧Reads w' 1 A out.length (out.map .string)∧(∀ a,A=some a→w.heap.size≤a.block)
theorem own_slice {w:World} {base n:Nat} {e:TypeId} {v:Value} {xs:List Value} (h:w.ownsRow base e 1 v n xs):∃ A c,v=.slice A n c:=by
 rcases h.2 with ⟨rfl,hx⟩ | ⟨g,cap,cur,rfl,_⟩
 ·have:=h.1
  rw[hx]at this
  have hn:n=0:=by simp at this;omega
  subst hn
  exact⟨none,0,rfl⟩
 ·exact⟨_,_,rfl⟩
end Go.Proofs.YticlbkficolocaaGreatDoor
