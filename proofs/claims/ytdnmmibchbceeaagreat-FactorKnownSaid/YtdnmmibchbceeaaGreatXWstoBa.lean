/- Lemmas and contracts on the way to the statement; no condition of their own beyond those written. -/
import Derived.Test.YtdnmmibchbceeaaGreatXVqtoWr
import Derived.Deep.CutRange
import Derived.Deep.CutBlock
import Derived.IntWalk
import Derived.Great.BuildSlice
import Derived.ArgAppend
import Derived.Laws.CopyOwn
import Derived.StillTailTactics
import Derived.Deep.MidRow
import Derived.WalkSpells
import Derived.WalkLawsBesides
import Derived.Maps.AppendAt
import Derived.OwnWalk
import Derived.OrdersHeld
import Derived.Deep.OwnRows
import Derived.WalkKit
import Derived.Lib.Hide
import Derived.Laws.OwnMore
import Derived.Test.YtdnmmibchbceeaaGreatProg
import Derived.Outline
import Derived.Deep.DeepFit
import Derived.BigQuiet
import Derived.Deep.QuietTactic
import Derived.Sort.OwnSortedInts
import Derived.WideMake
import Derived.MapKept
import Derived.ChangeMaps5
import Derived.Shelf.Sort.Plain
import Derived.RangeFuncBox
import Derived.RangeFuncLeaves
import Derived.Shelf.Abstract
import Derived.OwnWalkIn
import Derived.TacticsInMore
import Derived.LoopNIn
import Derived.LoopIn
import Derived.RangeFuncWrites
import Derived.RangeFuncNested
import Derived.Sort.CutIn
import Derived.Lib.ConvBytes
import Derived.ChangeKeysEq
import Derived.Laws.Cells
import Derived.Laws.Rows
import Derived.Laws.Tables
import Derived.Deep.WholeRow
import Derived.OrdersIn
import Derived.TacticsIn
import Derived.Deep.LoopGhost
import Derived.Lib.SlicesSearch
import Derived.Stop.BytesEq
set_option linter.unusedVariables false
set_option linter.unusedSimpArgs false
set_option maxRecDepth 100000
set_option maxHeartbeats 8000000
namespace Go.Proofs.YtdnmmibchbceeaaGreat
open Go.RowKit
open Go.Proofs
open Go.Proofs.Ob
attribute [local irreducible] Go.Calls Go.wpList
theorem Wscl0 (args:Array Value) (w:World):(callFunc 154 args).run Tryz.prog w=.ok (.enter 154 args) w:=by kernel_rfl
theorem Wscl1 (args:Array Value) (w:World):(callFunc 152 args).run Tryz.prog w=.ok (.enter 152 args) w:=by kernel_rfl
theorem Wscl2 (args:Array Value) (w:World):(callFunc 148 args).run Tryz.prog w=.ok (.enter 148 args) w:=by kernel_rfl
theorem Wscl3 (args:Array Value) (w:World):(callFunc 150 args).run Tryz.prog w=.ok (.enter 150 args) w:=by kernel_rfl
theorem equalI_any (v1 v2:Value) (l1 l2:List Int) (w:World) (h:Rg.Ints w v1 l1) (h':Rg.Ints w v2 l2)  :
  Calls Tryz.prog 149 #[v1,v2] w fun e w'=>e=.returned (.bool (decide (l1=l2)))∧Below w.heap.size w w':=by
 have hl:l1.length≤1000000000:=by obtain ⟨n,a,c,e,_,e2⟩:=h.len; omega
 obtain ⟨ad,cap,rfl,_,hlm,_,hcell⟩:=h.shape;obtain ⟨ad2,cap2,rfl,_,hlm2,_,hcell2⟩:=h'.shape;have Hc:=ι hcell;have Hc2:=ι hcell2;clear hcell h hcell2 h'
 by_cases hne:l1.length=l2.length
 ·rw [← hne]
  rw [← hne] at hlm2;have HNE:=ι hne;clear hne
  go_enter Tryz.func149,Tryz.ntmps149
  go_wp2
  go_loopw [13] (fun i wr=>∃ k:Nat,k≤l1.length∧i=.int .i64 k∧Hid (l1.take k=l2.take k)∧Hid (Below w.heap.size w wr)) (fun i _=>l1.length - (intOf i).toNat)
  case atStart=>exact ⟨0,by omega,rfl,ι (by simp),ι (Below.refl _ _)⟩
  case round =>
   obtain ⟨k,hk,rfl,hs,hbel⟩:=hrel
   by_cases hlt:k<l1.length
   ·have hlt2:k<l2.length:=by have:=HNE.out; omega
    obtain ⟨b,o,rfl,hb,hc⟩:=Hc.out (by omega);obtain ⟨b2,o2,rfl,hb2,hc2⟩:=Hc2.out (by omega);have c0:=(hbel.out.cell (p:=⟨b,o+k,none⟩) hb).trans (hc k hlt);have c2:=(hbel.out.cell (p:=⟨b2,o2+k,none⟩) hb2).trans (hc2 k hlt2);obtain ⟨x,hx⟩:∃ x,Hid (x=l1[k]):=⟨_,ι rfl⟩;obtain ⟨y,hy⟩:∃ y,Hid (y=l2[k]):=⟨_,ι rfl⟩;rw [← hx.out] at c0;rw [← hy.out] at c2
    have hkl:(k:Int)<(l1.length:Int):=by omega
    clear hc hb hc2 hb2
    by_cases he:x=y
    ·have e1:(x != y)=false:=by simp [he]
     have HE:=ι he;go_upto_region 6 with (fail)
     go_quiet (fail)
     have HB2:=ι (Rg.drewN hbel.out nq);generalize wr.drewN nq=wq at *;go_wp2
     go_roundw
     case rel =>
      refine ⟨k+1,by omega,by go_num,ι ?_,HB2⟩;rw [List.take_succ_eq_append_getElem hlt,List.take_succ_eq_append_getElem hlt2,hs.out,← hx.out,← hy.out,HE.out]
     case measure=>simp [intOf]; omega
    ·have e1:(x != y)=true:=by simp [he]
     have hm:decide (l1=l2)=false:=by
      rw [decide_eq_false_iff_not];intro e;subst e;exact he (hx.out.trans hy.out.symm)
     have HM:=ι hm;clear hm;go_upto_region 6 with (fail)
     go_quiet (fail)
     have HB2:=ι (Rg.drewN hbel.out nq);generalize wr.drewN nq=wq at *;go_wp2;go_ret;exact ⟨by rw [HM.out]; rfl,HB2.out⟩
   ·obtain rfl:k=l1.length:=by omega
    have hm:decide (l1=l2)=true:=by
     rw [decide_eq_true_iff];have:=hs.out
     rwa [List.take_length,HNE.out,List.take_length] at this
    have HM:=ι hm;clear hm;go_wp2;go_ret;exact ⟨by rw [HM.out]; rfl,hbel.out⟩
 ·have hb:((l1.length:Int) != (l2.length:Int))=true:=by rw [bne_iff_ne]; omega
  have hm:decide (l1=l2)=false:=by
   rw [decide_eq_false_iff_not];intro e;subst e;exact hne rfl
  have HM:=ι hm;have HNE:=ι hne;clear hm hne
  go_enter Tryz.func149,Tryz.ntmps149
  go_wp2;go_ret;exact ⟨by rw [HM.out]; rfl,Below.refl _ _⟩
theorem equalP2_any (v1 v2:Value) (l1 l2:List Int) (w:World) (h:Rg.Ints w v1 l1) (h':Rg.Ints w v2 l2)  :
  Calls Tryz.prog 154 #[v1,v2] w fun e w'=>e=.returned (.bool (decide (l1=l2)))∧Below w.heap.size w w':=by
 have hl:l1.length≤1000000000:=by obtain ⟨n,a,c,e,_,e2⟩:=h.len; omega
 obtain ⟨ad,cap,rfl,_,hlm,_,hcell⟩:=h.shape;obtain ⟨ad2,cap2,rfl,_,hlm2,_,hcell2⟩:=h'.shape;have Hc:=ι hcell;have Hc2:=ι hcell2;clear hcell h hcell2 h'
 by_cases hne:l1.length=l2.length
 ·rw [← hne]
  rw [← hne] at hlm2;have HNE:=ι hne;clear hne
  go_enter Tryz.func154,Tryz.ntmps154
  go_wp2
  go_loopw [13] (fun i wr=>∃ k:Nat,k≤l1.length∧i=.int .i64 k∧Hid (l1.take k=l2.take k)∧Hid (Below w.heap.size w wr)) (fun i _=>l1.length - (intOf i).toNat)
  case atStart=>exact ⟨0,by omega,rfl,ι (by simp),ι (Below.refl _ _)⟩
  case round =>
   obtain ⟨k,hk,rfl,hs,hbel⟩:=hrel
   by_cases hlt:k<l1.length
   ·have hlt2:k<l2.length:=by have:=HNE.out; omega
    obtain ⟨b,o,rfl,hb,hc⟩:=Hc.out (by omega);obtain ⟨b2,o2,rfl,hb2,hc2⟩:=Hc2.out (by omega);have c0:=(hbel.out.cell (p:=⟨b,o+k,none⟩) hb).trans (hc k hlt);have c2:=(hbel.out.cell (p:=⟨b2,o2+k,none⟩) hb2).trans (hc2 k hlt2);obtain ⟨x,hx⟩:∃ x,Hid (x=l1[k]):=⟨_,ι rfl⟩;obtain ⟨y,hy⟩:∃ y,Hid (y=l2[k]):=⟨_,ι rfl⟩;rw [← hx.out] at c0;rw [← hy.out] at c2
    have hkl:(k:Int)<(l1.length:Int):=by omega
    clear hc hb hc2 hb2
    by_cases he:x=y
    ·have e1:(x != y)=false:=by simp [he]
     have HE:=ι he;go_upto_region 6 with (fail)
     go_quiet (fail)
     have HB2:=ι (Rg.drewN hbel.out nq);generalize wr.drewN nq=wq at *;go_wp2
     go_roundw
     case rel =>
      refine ⟨k+1,by omega,by go_num,ι ?_,HB2⟩;rw [List.take_succ_eq_append_getElem hlt,List.take_succ_eq_append_getElem hlt2,hs.out,← hx.out,← hy.out,HE.out]
     case measure=>simp [intOf]; omega
    ·have e1:(x != y)=true:=by simp [he]
     have hm:decide (l1=l2)=false:=by
      rw [decide_eq_false_iff_not];intro e;subst e;exact he (hx.out.trans hy.out.symm)
     have HM:=ι hm;clear hm;go_upto_region 6 with (fail)
     go_quiet (fail)
     have HB2:=ι (Rg.drewN hbel.out nq);generalize wr.drewN nq=wq at *;go_wp2;go_ret;exact ⟨by rw [HM.out]; rfl,HB2.out⟩
   ·obtain rfl:k=l1.length:=by omega
    have hm:decide (l1=l2)=true:=by
     rw [decide_eq_true_iff];have:=hs.out
     rwa [List.take_length,HNE.out,List.take_length] at this
    have HM:=ι hm;clear hm;go_wp2;go_ret;exact ⟨by rw [HM.out]; rfl,hbel.out⟩
 ·have hb:((l1.length:Int) != (l2.length:Int))=true:=by rw [bne_iff_ne]; omega
  have hm:decide (l1=l2)=false:=by
   rw [decide_eq_false_iff_not];intro e;subst e;exact hne rfl
  have HM:=ι hm;have HNE:=ι hne;clear hm hne
  go_enter Tryz.func154,Tryz.ntmps154
  go_wp2;go_ret;exact ⟨by rw [HM.out]; rfl,Below.refl _ _⟩
theorem rowsAsk {F:FuncId} {w:World} {va vb:Value} {A B:List (List Int)} (h1:Rg.Rows w va A) (h2:Rg.Rows w vb B)
  (hF:∀ (v1 v2:Value) (l1 l2:List Int) (W:World),Rg.Ints W v1 l1→Rg.Ints W v2 l2→Calls Tryz.prog F #[v1,v2] W fun e w'=>e=.returned (.bool (decide (l1=l2)))∧Below W.heap.size W w') :
  ∃ us vs,Rg.Vals w va us∧Rg.Vals w vb vs∧us.length=A.length∧vs.length=B.length∧EqAsk F w us vs (fun i=>decide (A.getD i []=B.getD i [])):=by
 obtain ⟨us,a1,a2,a3⟩:=h1;obtain ⟨vs,b1,b2,b3⟩:=h2;refine ⟨us,vs,a1,b1,a2,b2,fun i hi hj W hb=>?_⟩
 have e1:A.getD i []=A[i]'(by omega):=by rw [List.getD_eq_getElem?_getD,List.getElem?_eq_getElem (by omega)]; rfl
 have e2:B.getD i []=B[i]'(by omega):=by rw [List.getD_eq_getElem?_getD,List.getElem?_eq_getElem (by omega)]; rfl
 dsimp only
 rw [e1,e2];exact hF _ _ _ _ W ((a3 i hi (by omega)).below hb) ((b3 i hj (by omega)).below hb)
theorem eqRows {A B:List (List Int)}:eqAll A.length B.length (fun i=>decide (A.getD i []=B.getD i []))=decide (A=B) :=
 eqAll_dec fun i h1 h2=>by
  have e1:A.getD i []=A[i]:=by rw [List.getD_eq_getElem?_getD,List.getElem?_eq_getElem h1]; rfl
  have e2:B.getD i []=B[i]:=by rw [List.getD_eq_getElem?_getD,List.getElem?_eq_getElem h2]; rfl
  rw [e1,e2]
theorem rowsAsk2 {F:FuncId} {w:World} {va vb:Value} {A B:List (List (List Int))} (h1:Rows2 w va A) (h2:Rows2 w vb B)
  (hF:∀ (v1 v2:Value) (l1 l2:List (List Int)) (W:World),Rg.Rows W v1 l1→Rg.Rows W v2 l2→Calls Tryz.prog F #[v1,v2] W fun e w'=>e=.returned (.bool (decide (l1=l2)))∧Below W.heap.size W w') :
  ∃ us vs,Rg.Vals w va us∧Rg.Vals w vb vs∧us.length=A.length∧vs.length=B.length∧EqAsk F w us vs (fun i=>decide (A.getD i []=B.getD i [])):=by
 obtain ⟨us,a1,a2,a3⟩:=h1;obtain ⟨vs,b1,b2,b3⟩:=h2;refine ⟨us,vs,a1,b1,a2,b2,fun i hi hj W hb=>?_⟩
 have e1:A.getD i []=A[i]'(by omega):=by rw [List.getD_eq_getElem?_getD,List.getElem?_eq_getElem (by omega)]; rfl
 have e2:B.getD i []=B[i]'(by omega):=by rw [List.getD_eq_getElem?_getD,List.getElem?_eq_getElem (by omega)]; rfl
 dsimp only
 rw [e1,e2];exact hF _ _ _ _ W ((a3 i hi (by omega)).below hb) ((b3 i hj (by omega)).below hb)
theorem eqRows2 {A B:List (List (List Int))}:eqAll A.length B.length (fun i=>decide (A.getD i []=B.getD i []))=decide (A=B) :=
 eqAll_dec fun i h1 h2=>by
  have e1:A.getD i []=A[i]:=by rw [List.getD_eq_getElem?_getD,List.getElem?_eq_getElem h1]; rfl
  have e2:B.getD i []=B[i]:=by rw [List.getD_eq_getElem?_getD,List.getElem?_eq_getElem h2]; rfl
  rw [e1,e2]
theorem clEqI (args:Array Value) (w:World):(callFunc 149 args).run Tryz.prog w=.ok (.enter 149 args) w:=by kernel_rfl
theorem clS1 (args:Array Value) (w:World):(callFunc 151 args).run Tryz.prog w=.ok (.enter 151 args) w:=by kernel_rfl
theorem clS11 (args:Array Value) (w:World):(callFunc 153 args).run Tryz.prog w=.ok (.enter 153 args) w:=by kernel_rfl
theorem same11_any (v1 v2:Value) (l1 l2:List Int) (w:World) (h1:Rg.Ints w v1 l1) (h2:Rg.Ints w v2 l2) :
  Calls Tryz.prog 153 #[v1,v2] w fun e w'=>e=.returned (.bool (decide (l1=l2)))∧Below w.heap.size w w':=by
 have H1:=ι h1;have H2:=ι h2;have K:=ι (Below.refl w.heap.size w);clear h1 h2;obtain ⟨b,hb0⟩:∃ b,Hid (decide (l1=l2)=b):=⟨_,ι rfl⟩
 go_enter Tryz.func153,Tryz.ntmps153
 go_upto_region 1 with (fail);refine Rg.wl ?_;refine Rg.lm 5 (v1) ?_;go_frame;refine Rg.lm 6 (v2) ?_;go_frame;refine Rg.lk 7 (exec_fn 154 _ _ _ rfl rfl rfl (Wscl0 _ _)) ?_;refine (show Calls _ _ _ _ (fun e w'=>e=.returned (.bool b)∧Below w.heap.size w w') by rw [← hb0.out]; exact equalP2_any _ _ _ _ w H1.out H2.out).mono ?_;rintro e1 w1 ⟨rfl,hb⟩;refine ⟨_,rfl,?_⟩;go_frame;replace H1:=ι (H1.out.below hb);replace H2:=ι (H2.out.below hb);replace K:=ι (Rg.acc K.out hb);clear hb;refine Rg.la 4 (.bool b) ?_;go_frame;go_wp2;go_ret;exact ⟨by rw [hb0.out]; rfl,K.out⟩
theorem same1_any (v1 v2:Value) (l1 l2:List (List Int)) (w:World) (h1:Rg.Rows w v1 l1) (h2:Rg.Rows w v2 l2) :
  Calls Tryz.prog 151 #[v1,v2] w fun e w'=>e=.returned (.bool (decide (l1=l2)))∧Below w.heap.size w w':=by
 obtain ⟨us,vs,hu,hv,e1,e2,hask⟩:=rowsAsk h1 h2 (F:=153) same11_any;have HC:=ι (eqFuncP_any hu hv _ clS11 hask);rw [e1,e2,eqRows] at HC;have K:=ι (Below.refl w.heap.size w);clear h1 h2 hu hv e1 e2 hask;obtain ⟨b,hb0⟩:∃ b,Hid (decide (l1=l2)=b):=⟨_,ι rfl⟩;rw [hb0.out] at HC ⊢
 go_enter Tryz.func151,Tryz.ntmps151
 go_upto_region 1 with (fail);refine Rg.wl ?_;refine Rg.lm 5 (v1) ?_;go_frame;refine Rg.lm 6 (v2) ?_;go_frame;refine Rg.lk 7 (exec_fn3 152 _ _ _ _ rfl rfl rfl rfl (Wscl1 _ _)) ?_;refine (HC.out).mono ?_;rintro e1 w1 ⟨rfl,hb⟩;refine ⟨_,rfl,?_⟩;go_frame;replace K:=ι (Rg.acc K.out hb);clear hb;refine Rg.la 4 (.bool b) ?_;go_frame;go_wp2;go_ret;exact ⟨rfl,K.out⟩
theorem sameRowsI_any (v1 v2:Value) (A B:List (List Int)) (w:World) (h1:Rg.Rows w v1 A) (h2:Rg.Rows w v2 B) {b:Bool} (hb:Hid (decide (A=B)=b)) :
  Calls Tryz.prog 148 #[v1,v2,.func (.func 149) #[] #[]] w fun e w'=>e=.returned (.bool b)∧Below w.heap.size w w':=by
 obtain ⟨us,vs,hu,hv,e1,e2,hask⟩:=rowsAsk h1 h2 (F:=149) equalI_any;have HC:=eqFuncI_any hu hv _ clEqI hask;rw [e1,e2,eqRows,hb.out] at HC;exact HC
theorem sameRowsR_any (v1 v2:Value) (A B:List (List (List Int))) (w:World) (h1:Rows2 w v1 A) (h2:Rows2 w v2 B) {b:Bool} (hb:Hid (decide (A=B)=b)) :
  Calls Tryz.prog 150 #[v1,v2,.func (.func 151) #[] #[]] w fun e w'=>e=.returned (.bool b)∧Below w.heap.size w w':=by
 obtain ⟨us,vs,hu,hv,e1,e2,hask⟩:=rowsAsk2 h1 h2 (F:=151) same1_any;have HC:=eqFuncR_any hu hv _ clS1 hask;rw [e1,e2,eqRows2,hb.out] at HC;exact HC
theorem box3 (w:World) (x y z:Value):CL (w.alloc (.cells #[x,y,z] 87)) w.heap.size 0 x∧CL (w.alloc (.cells #[x,y,z] 87)) w.heap.size 1 y∧CL (w.alloc (.cells #[x,y,z] 87)) w.heap.size 2 z :=
 ⟨⟨by rw [Rg.cellNew]; rfl,by simp⟩,⟨by rw [Rg.cellNew]; rfl,by simp⟩,⟨by rw [Rg.cellNew]; rfl,by simp⟩⟩
def ChEqR (w:World) (ov rv:Value) (OO:List (List Int)) (RR:List (List (List Int))):Prop:=Rg.Rows w ov OO∧Rows2 w rv RR
theorem ChEqR.below {w w':World} {ov rv:Value} {OO:List (List Int)} {RR:List (List (List Int))} (h:ChEqR w ov rv OO RR) (hb:Below w.heap.size w w'):ChEqR w' ov rv OO RR:=⟨h.1.below hb,h.2.below hb⟩
theorem chSame_any {n m:Int} {ov rv ov' rv':Value} {OO OO':List (List Int)} {RR RR':List (List (List Int))} {w:World} (h1:ChEqR w ov rv OO RR) (h2:ChEqR w ov' rv' OO' RR') :
  Calls Tryz.prog 127 #[.agg #[.int .i64 n,ov,rv],.agg #[.int .i64 m,ov',rv']] w fun e w'=>e=.returned (.bool (decide (n=m∧OO=OO'∧RR=RR')))∧Below w.heap.size w w':=by
 have H1:=ι h1;have H2:=ι h2;have K:=ι (Below.refl w.heap.size w);clear h1 h2
 go_enter Tryz.func127,Tryz.ntmps127
 go_upto_region 0 with (fail);refine Rg.wl ?_;have hbx:=box3 w (.int .i64 n) ov rv;refine Rg.lr 2 (Rg.exec_box _ _ rfl rfl) ?_;go_frame;have hb:Below w.heap.size w (w.alloc (.cells #[.int .i64 n,ov,rv] 87)):=(Below.refl _ _).alloc (Nat.le_refl _) _;generalize w.alloc (.cells #[.int .i64 n,ov,rv] 87)=w1 at *;replace H1:=ι (H1.out.below hb);replace H2:=ι (H2.out.below hb);replace K:=ι (Rg.acc K.out hb);clear hb;have A0:=ι hbx.1;have A1:=ι hbx.2.1;have A2:=ι hbx.2.2;clear hbx;have hbx:=box3 w1 (.int .i64 m) ov' rv';refine Rg.lr 3 (Rg.exec_box _ _ rfl rfl) ?_;go_frame;have hb:Below w1.heap.size w1 (w1.alloc (.cells #[.int .i64 m,ov',rv'] 87)):=(Below.refl _ _).alloc (Nat.le_refl _) _;generalize w1.alloc (.cells #[.int .i64 m,ov',rv'] 87)=w2 at *;replace H1:=ι (H1.out.below hb);replace H2:=ι (H2.out.below hb);replace A0:=ι (A0.out.below hb);replace A1:=ι (A1.out.below hb)
 replace A2:=ι (A2.out.below hb);replace K:=ι (Rg.acc K.out hb);clear hb;have B0:=ι hbx.1;have B1:=ι hbx.2.1;have B2:=ι hbx.2.2;clear hbx;refine Rg.la 4 (.bool false) ?_;go_frame
 by_cases hnm:n=m
 ·obtain ⟨b1,hb1⟩:∃ b,Hid (decide (OO=OO')=b):=⟨_,ι rfl⟩
  obtain ⟨b2,hb2⟩:∃ b,Hid (decide (RR=RR')=b):=⟨_,ι rfl⟩;have HE:=ι (show decide (n=m∧OO=OO'∧RR=RR')=(b1 && b2) by rw [← hb1.out,← hb2.out]; simp [hnm])
  cases b1 with
  | true =>
   go_upto_region 1 with (fail);refine Rg.wl ?_;refine Rg.lr 5 (exec_field _ rfl rfl (chF0 _ _)) ?_;go_frame;refine Rg.lr 6 (Rg.exec_load (v:=.int .i64 n) _ _ rfl ⟨w.heap.size,0,none⟩ rfl (run_loadInt A0.out.cell)) ?_;go_frame;refine Rg.lr 7 (exec_field _ rfl rfl (chF0 _ _)) ?_;go_frame;refine Rg.lr 8 (Rg.exec_load (v:=.int .i64 m) _ _ rfl ⟨w1.heap.size,0,none⟩ rfl (run_loadInt B0.out.cell)) ?_;go_frame;refine Rg.lr 9 (exec_bin (R:=.bool true) .eql _ _ _ rfl rfl rfl (b_eql _ (decide_eq_true hnm))) ?_;go_frame;refine Rg.lm 10 (.bool true) ?_;go_frame;refine Rg.lW 11 (exec_field _ rfl rfl (chF1 _ _)) ?_;go_frame;refine Rg.lW 12 (Rg.exec_load (v:=ov) _ _ rfl ⟨w.heap.size,1,none⟩ rfl (Rg.run_loadSl _ _ Tryz.underlying84 A1.out.cell)) ?_;go_frame;refine Rg.lW 13 (exec_field _ rfl rfl (chF1 _ _)) ?_;go_frame;refine Rg.lW 14 (Rg.exec_load (v:=ov') _ _ rfl ⟨w1.heap.size,1,none⟩ rfl (Rg.run_loadSl _ _ Tryz.underlying84 B1.out.cell)) ?_;go_frame
   refine listW_ask (some 15) rfl rfl _ _ (exec_fn3 148 _ _ _ _ rfl rfl rfl rfl (Wscl2 _ _)) ?_;refine (sameRowsI_any _ _ _ _ w2 H1.out.1 H2.out.1 hb1).mono ?_;rintro e1 w3 ⟨rfl,hb⟩;refine ⟨_,rfl,?_⟩;go_frame;replace H1:=ι (H1.out.below hb);replace H2:=ι (H2.out.below hb);replace A0:=ι (A0.out.below hb);replace A1:=ι (A1.out.below hb);replace A2:=ι (A2.out.below hb);replace B0:=ι (B0.out.below hb);replace B1:=ι (B1.out.below hb);replace B2:=ι (B2.out.below hb);replace K:=ι (Rg.acc K.out hb);clear hb;refine Rg.lr 16 (exec_pickT (v:=.bool true) _ _ _ rfl rfl rfl) ?_;go_frame;refine Rg.lm 17 (.bool true) ?_;go_frame;refine Rg.lW 18 (exec_field _ rfl rfl (chF2 _ _)) ?_;go_frame;refine Rg.lW 19 (Rg.exec_load (v:=rv) _ _ rfl ⟨w.heap.size,2,none⟩ rfl (Rg.run_loadSl _ _ Tryz.underlying85 A2.out.cell)) ?_;go_frame;refine Rg.lW 20 (exec_field _ rfl rfl (chF2 _ _)) ?_;go_frame
   refine Rg.lW 21 (Rg.exec_load (v:=rv') _ _ rfl ⟨w1.heap.size,2,none⟩ rfl (Rg.run_loadSl _ _ Tryz.underlying85 B2.out.cell)) ?_;go_frame;refine listW_ask (some 22) rfl rfl _ _ (exec_fn3 150 _ _ _ _ rfl rfl rfl rfl (Wscl3 _ _)) ?_;refine (sameRowsR_any _ _ _ _ w3 H1.out.2 H2.out.2 hb2).mono ?_;rintro e1 w4 ⟨rfl,hb⟩;refine ⟨_,rfl,?_⟩;go_frame;replace H1:=ι (H1.out.below hb);replace H2:=ι (H2.out.below hb);replace A0:=ι (A0.out.below hb);replace A1:=ι (A1.out.below hb);replace A2:=ι (A2.out.below hb);replace B0:=ι (B0.out.below hb);replace B1:=ι (B1.out.below hb);replace B2:=ι (B2.out.below hb);replace K:=ι (Rg.acc K.out hb);clear hb;refine Rg.lr 23 (exec_pickT (v:=.bool b2) _ _ _ rfl rfl rfl) ?_;go_frame;refine Rg.la 4 (.bool b2) ?_;go_frame;go_wp2;go_ret;exact ⟨by rw [HE.out]; rfl,K.out⟩
  | false =>
   go_upto_region 1 with (fail);refine Rg.wl ?_;refine Rg.lr 5 (exec_field _ rfl rfl (chF0 _ _)) ?_;go_frame;refine Rg.lr 6 (Rg.exec_load (v:=.int .i64 n) _ _ rfl ⟨w.heap.size,0,none⟩ rfl (run_loadInt A0.out.cell)) ?_;go_frame;refine Rg.lr 7 (exec_field _ rfl rfl (chF0 _ _)) ?_;go_frame;refine Rg.lr 8 (Rg.exec_load (v:=.int .i64 m) _ _ rfl ⟨w1.heap.size,0,none⟩ rfl (run_loadInt B0.out.cell)) ?_;go_frame;refine Rg.lr 9 (exec_bin (R:=.bool true) .eql _ _ _ rfl rfl rfl (b_eql _ (decide_eq_true hnm))) ?_;go_frame;refine Rg.lm 10 (.bool true) ?_;go_frame;refine Rg.lW 11 (exec_field _ rfl rfl (chF1 _ _)) ?_;go_frame;refine Rg.lW 12 (Rg.exec_load (v:=ov) _ _ rfl ⟨w.heap.size,1,none⟩ rfl (Rg.run_loadSl _ _ Tryz.underlying84 A1.out.cell)) ?_;go_frame;refine Rg.lW 13 (exec_field _ rfl rfl (chF1 _ _)) ?_;go_frame;refine Rg.lW 14 (Rg.exec_load (v:=ov') _ _ rfl ⟨w1.heap.size,1,none⟩ rfl (Rg.run_loadSl _ _ Tryz.underlying84 B1.out.cell)) ?_;go_frame
   refine listW_ask (some 15) rfl rfl _ _ (exec_fn3 148 _ _ _ _ rfl rfl rfl rfl (Wscl2 _ _)) ?_;refine (sameRowsI_any _ _ _ _ w2 H1.out.1 H2.out.1 hb1).mono ?_;rintro e1 w3 ⟨rfl,hb⟩;refine ⟨_,rfl,?_⟩;go_frame;replace H1:=ι (H1.out.below hb);replace H2:=ι (H2.out.below hb);replace A0:=ι (A0.out.below hb);replace A1:=ι (A1.out.below hb);replace A2:=ι (A2.out.below hb);replace B0:=ι (B0.out.below hb);replace B1:=ι (B1.out.below hb);replace B2:=ι (B2.out.below hb);replace K:=ι (Rg.acc K.out hb);clear hb;refine Rg.lr 16 (exec_pickT (v:=.bool false) _ _ _ rfl rfl rfl) ?_;go_frame;refine Rg.lm 17 (.bool false) ?_;go_frame;refine listW_pass (some 18) (by kernel_rfl) rfl ?_;go_frame;refine listW_pass (some 19) (by kernel_rfl) rfl ?_;go_frame;refine listW_pass (some 20) (by kernel_rfl) rfl ?_;go_frame;refine listW_pass (some 21) (by kernel_rfl) rfl ?_;go_frame;refine listW_pass (some 22) (by kernel_rfl) rfl ?_;go_frame
   refine Rg.lr 23 (exec_pickF (v:=.bool false) _ _ _ rfl rfl rfl) ?_;go_frame;refine Rg.la 4 (.bool false) ?_;go_frame;go_wp2;go_ret;exact ⟨by rw [HE.out]; rfl,K.out⟩
 ·have HE:=ι (show decide (n=m∧OO=OO'∧RR=RR')=false by simp [hnm])
  go_upto_region 1 with (fail);refine Rg.wl ?_;refine Rg.lr 5 (exec_field _ rfl rfl (chF0 _ _)) ?_;go_frame;refine Rg.lr 6 (Rg.exec_load (v:=.int .i64 n) _ _ rfl ⟨w.heap.size,0,none⟩ rfl (run_loadInt A0.out.cell)) ?_;go_frame;refine Rg.lr 7 (exec_field _ rfl rfl (chF0 _ _)) ?_;go_frame;refine Rg.lr 8 (Rg.exec_load (v:=.int .i64 m) _ _ rfl ⟨w1.heap.size,0,none⟩ rfl (run_loadInt B0.out.cell)) ?_;go_frame;refine Rg.lr 9 (exec_bin (R:=.bool false) .eql _ _ _ rfl rfl rfl (b_eql _ (decide_eq_false hnm))) ?_;go_frame;refine Rg.lm 10 (.bool false) ?_;go_frame;refine listW_pass (some 11) (by kernel_rfl) rfl ?_;go_frame;refine listW_pass (some 12) (by kernel_rfl) rfl ?_;go_frame;refine listW_pass (some 13) (by kernel_rfl) rfl ?_;go_frame;refine listW_pass (some 14) (by kernel_rfl) rfl ?_;go_frame;refine listW_pass (some 15) (by kernel_rfl) rfl ?_;go_frame;refine Rg.lr 16 (exec_pickF (v:=.bool false) _ _ _ rfl rfl rfl) ?_;go_frame
  refine Rg.lm 17 (.bool false) ?_;go_frame;refine listW_pass (some 18) (by kernel_rfl) rfl ?_;go_frame;refine listW_pass (some 19) (by kernel_rfl) rfl ?_;go_frame;refine listW_pass (some 20) (by kernel_rfl) rfl ?_;go_frame;refine listW_pass (some 21) (by kernel_rfl) rfl ?_;go_frame;refine listW_pass (some 22) (by kernel_rfl) rfl ?_;go_frame;refine Rg.lr 23 (exec_pickF (v:=.bool false) _ _ _ rfl rfl rfl) ?_;go_frame;refine Rg.la 4 (.bool false) ?_;go_frame;go_wp2;go_ret;exact ⟨by rw [HE.out]; rfl,K.out⟩
end Go.Proofs.YtdnmmibchbceeaaGreat

namespace Go.Proofs.Rg
open Go Go.RowKit
theorem in_run {l n:Nat} {P:Program} {ops:Array Oper} {rest:List Oper} {o:Oper} {a:Act} {w w':World} {Q:Exit→Act→World→Prop} {v:Value} (d:Option Tmp) (hg:o.guard=none) (hd:o.dst=d) (hnd:∀ c,o.op≠.defer c)
  (hr:(execOp a.eval o).run P w=.ok (.value v) w') (h:wpListIn (Fence.wide.inRound l) n P ops Q rest (a.put d v) w'):wpListIn (Fence.wide.inRound l) n P ops Q (o :: rest) a w:=by
 subst hd;refine wpListIn_plain hg fun K hK=>⟨fun _ _=>trivial,?_⟩;rw [Oper.semAt_eq _ _ _ hnd,hr];exact hK _ _ h
theorem in_skip {l n:Nat} {P:Program} {ops:Array Oper} {rest:List Oper} {o:Oper} {a:Act} {w w':World} {Q:Exit→Act→World→Prop} (d:Option Tmp) (hg:o.guard=none) (hd:o.dst=d) (hnd:∀ c,o.op≠.defer c)
  (hr:(execOp a.eval o).run P w=.ok .skip w') (h:wpListIn (Fence.wide.inRound l) n P ops Q rest (a.put d undef) w'):wpListIn (Fence.wide.inRound l) n P ops Q (o :: rest) a w:=by
 subst hd;refine wpListIn_plain hg fun K hK=>⟨fun _ _=>trivial,?_⟩;rw [Oper.semAt_eq _ _ _ hnd,hr];exact hK _ _ h
theorem inW_run {l n:Nat} {P:Program} {ops:Array Oper} {rest:List Oper} {o:Oper} {a:Act} {w w':World} {Q:Exit→Act→World→Prop} {v:Value} (d:Option Tmp) (hw:Region.wanted o (yielded ops a.tmps)=true) (hd:o.dst=d) (hnd:∀ c,o.op≠.defer c)
  (hr:(execOp a.eval o).run P w=.ok (.value v) w') (h:wpListIn (Fence.wide.inRound l) n P ops Q rest (a.put d v) w'):wpListIn (Fence.wide.inRound l) n P ops Q (o :: rest) a w:=by
 subst hd;refine wpListIn_step fun K hK=>?_;rw [if_pos hw];refine ⟨fun _ _=>trivial,?_⟩;rw [Oper.semAt_eq _ _ _ hnd,hr];exact hK _ _ h
theorem inW_ask {l n:Nat} {P:Program} {ops:Array Oper} {rest:List Oper} {o:Oper} {a:Act} {w:World} {Q:Exit→Act→World→Prop} (d:Option Tmp) (hw:Region.wanted o (yielded ops a.tmps)=true) (hd:o.dst=d) (hnd:∀ c,o.op≠.defer c) (f:FuncId) (args:Array Value)
  (hr:(execOp a.eval o).run P w=.ok (.enter f args) w) (h:Calls P f args w fun e w'=>∃ v,e=.returned v∧wpListIn (Fence.wide.inRound l) n P ops Q rest (a.put d v) w'):wpListIn (Fence.wide.inRound l) n P ops Q (o :: rest) a w:=by
 subst hd;refine wpListIn_step fun K hK=>?_;rw [if_pos hw];refine ⟨fun _ _=>trivial,?_⟩;rw [Oper.semAt_eq _ _ _ hnd,hr];refine ⟨(fun hh=>by cases hh),(CallsIn.inRound l (callsIn_wide.2 h)).mono ?_⟩;rintro e w' ⟨v,rfl,hv⟩;exact hK _ _ hv
theorem inW_pass {l n:Nat} {P:Program} {ops:Array Oper} {rest:List Oper} {o:Oper} {a:Act} {w:World} {Q:Exit→Act→World→Prop} (d:Option Tmp) (hw:Region.wanted o (yielded ops a.tmps)=false) (hd:o.dst=d)
  (h:wpListIn (Fence.wide.inRound l) n P ops Q rest (a.put d undef) w):wpListIn (Fence.wide.inRound l) n P ops Q (o :: rest) a w:=by
 subst hd;unfold wpListIn;rw [if_neg (by rw [hw]; decide)];exact ⟨fun _ _=>trivial,h⟩
def onlyN (Q:Exit→Act→World→Prop):Exit→Act→World→Prop
 | .normal,a,w=>Q .normal a w
 | _,_,_=>False
theorem wp_onlyN {P:Program} {c:Code} {Q:Exit→Act→World→Prop} {a:Act} {w:World} (h:c.wp P (onlyN Q) a w):c.wp P Q a w :=
 wp_mono h fun e a w hq=>by cases e <;> first | exact hq | exact hq.elim
theorem onlyN_i {Q:Exit→Act→World→Prop} {a:Act} {w:World} (h:Q .normal a w):onlyN Q .normal a w:=h
end Go.Proofs.Rg

namespace Go.Proofs.YtdnmmibchbceeaaGreat
open Go.RowKit
open Go.Proofs
open Go.Shelf
attribute [local go_sem] Oper.semAt_some
def finTo (m k:Nat):List (Fin m):=(List.finRange m).take k
theorem finTo_succ {m k:Nat} (h:k<m):finTo m (k+1)=finTo m k++[⟨k,h⟩]:=by
 unfold finTo;rw [List.take_succ_eq_append_getElem (by rw [List.length_finRange]; exact h)];simp
theorem finTo_len {m k:Nat} (h:k≤m):(finTo m k).length=k:=by
 unfold finTo;rw [List.length_take,List.length_finRange];omega
theorem finTo_all (m:Nat):finTo m m=List.finRange m:=by
 unfold finTo;rw [List.take_of_length_le (by rw [List.length_finRange]; exact Nat.le_refl _)]
theorem reps1_in (F:Fence) (n:Nat) (h7:F.fn 147) (hro:F.round=none) (hn:1≤n) (l Bs n₀ m cap:Nat) (ad:Option Addr) (RV:Nat→Value) (hm:m≤1000000000) (had:0<m→∃ b off,ad=some ⟨b,off,none⟩∧b<n₀) (J Jx:List (Fin m)→World→Prop)
  (hY:∀ pre x W,J pre W→pre.length<m→YieldAt F (n - 1) Tryz.prog l #[.int .i64 ((x.1:Nat):Int),RV x.1] W fun e W' =>
   (e=.returned (.bool true)∧J (pre++[x]) W'∧Below n₀ W W')∨(e=.returned (.bool false)∧Jx (pre++[x]) W'))
  (W:World) (hBs:W.cell? ⟨Bs,2,none⟩=some (.slice ad m cap)) (hc:∀ b off,ad=some ⟨b,off,none⟩→∀ j,j<m→W.cell? ⟨b,off+j,none⟩=some (RV j)) (h0:J [] W) :
  CallsIn F n Tryz.prog 147 #[.func (.yield l) #[] #[],.pointer (some ⟨Bs,0,none⟩)] W fun e W'=>(∃ v,e=.returned v) ∧
   ((∃ ys,ys=finTo m m∧J ys W')∨(∃ pre,(∃ k,k≤m∧pre=finTo m k)∧Jx pre W')):=by
 refine callsIn_of_wp Tryz.func147 rfl h7 ?_ hro;simp only [Tryz.ntmps147,List.size_toArray,List.length_cons,List.length_nil,Nat.reduceAdd,Nat.reduceSub,Array.replicate_succ,Array.replicate_zero,List.push_toArray,List.append_toArray,List.nil_append,List.cons_append]
 gi_wp2
 gi_loopw [8] (fun i wr=>∃ k:Nat,k≤m∧i=.int .i64 k∧J (finTo m k) wr∧Below n₀ W wr)
  (fun i _=>m - (intOf i).toNat)
 case atStart=>exact ⟨0,Nat.zero_le _,rfl,h0,Below.refl _ _⟩
 case round =>
  obtain ⟨k,hk,rfl,hJs,hnx⟩:=hrel
  by_cases hlt:k<m
  ·obtain ⟨b,off,rfl,hb⟩:=had (by omega)
   have hcx:wr.cell? ⟨b,off+k,none⟩=some (RV k):=(hnx.cell (p:=⟨b,off+k,none⟩) hb).trans (hc b off rfl k hlt);obtain ⟨fn,tmps,assign,body,hy,hR⟩:=hY _ ⟨k,hlt⟩ wr hJs (by rw [finTo_len hk]; exact hlt)
   dsimp only at hy
   gi_wp2
   refine hR.mono ?_
   rintro e W3 (⟨rfl,hJ3,hk3⟩ | ⟨rfl,hJx3⟩)
   ·gi_wp2
    go_roundw
    case rel=>exact ⟨k+1,by omega,by simp,by rw [finTo_succ hlt]; exact hJ3,hnx.trans hk3⟩
    case measure=>simp [intOf]; omega
   ·gi_wp2
    refine bodyPost_ret (results_none rfl _ _ _) rfl ?_;exact ⟨⟨_,rfl⟩,.inr ⟨_,⟨k+1,by omega,(finTo_succ hlt).symm⟩,hJx3⟩⟩
  ·obtain rfl:k=m:=by omega
   gi_wp2
   go_end0
   exact ⟨⟨_,rfl⟩,.inl ⟨_,rfl,hJs⟩⟩
end Go.Proofs.YtdnmmibchbceeaaGreat

namespace Go.Proofs.RF
open Go Go.RowKit
def Dfr (D:Nat) (W:World):Prop:=W.heap[D]?=some (.deferred (some []))
theorem Dfr.size {D:Nat} {W:World} (h:Dfr D W):D<W.heap.size:=(Array.getElem?_eq_some_iff.1 h).1
theorem Dfr.of_below' {D:Nat} {W W':World} (h:Dfr D W) (hb:Below W.heap.size W W'):Dfr D W':=(hb.block D h.size).trans h
theorem Dfr.alloc {D:Nat} {W:World} (h:Dfr D W) (o:Obj):Dfr D (W.alloc o):=(Below.heap_alloc W o D h.size).trans h
theorem Dfr.drew {D:Nat} {W:World} (h:Dfr D W):Dfr D W.drew:=h
theorem Dfr.setCell {D:Nat} {W:World} (h:Dfr D W) (a:Addr) (v:Value):Dfr D (W.setCell a v) :=
 (KeepsOthers.setCell W a v).same D _ h rfl
theorem Dfr.cell {D:Nat} {o:Option (List Deferred)} {W:World} (h:Dfr D W) (a:Addr):(W.putObj D (.deferred o)).cell? a=W.cell? a:=by
 unfold World.cell?
 by_cases e:a.block=D
 ·rw [e,World.putObj_heap_same h.size,show W.heap[D]?=_ from h]
 ·rw [World.putObj_heap_other e]
theorem Dfr.frozen {D:Nat} {o:Option (List Deferred)} {W:World} (h:Dfr D W) (a:Addr):(W.putObj D (.deferred o)).frozen? a=W.frozen? a:=by
 unfold World.frozen?
 by_cases e:a.block=D
 ·rw [e,World.putObj_heap_same h.size,show W.heap[D]?=_ from h]
 ·rw [World.putObj_heap_other e]
def mark (D:Nat):Deferred:={ target:=.collected D,args:=#[] }
theorem leaves {n:Nat} {P:Program} {fn:Func} {tmps:Array Value} {R:Ending→World→Prop} (B:Nat):∀ (ds:List Nat) (W:World),ds.Nodup→(∀ D,D∈ds→Dfr D W∧B≤D) →
  (∀ W',Below B W W'→(∀ a,W'.cell? a=W.cell? a)→(∀ a,W'.frozen? a=W.frozen? a)→∃ v,(results fn tmps).run P W'=.ok v W'∧R (.returned v) W') →
  LeavesInM Fence.wide n P fn tmps R (ds.map mark) .returning W
 | [],W,_,_,h=>h W (Below.refl _ _) (fun _=>rfl) (fun _=>rfl)
 | D :: ds,W,hn,hD,h=>by
  rw [List.nodup_cons] at hn;obtain ⟨hd,hB⟩:=hD D (by simp);have hb:Below B W (W.putObj D (.deferred none)):=⟨rfl,rfl,rfl,by simp,fun k hk=>World.putObj_heap_other (by omega)⟩;refine ⟨by simp,.inl ⟨D,_,rfl,run_takeDeferred hd,leaves B ds _ hn.2 (fun D' hD'=>?_) (fun W' h1 h2 h3=>?_)⟩⟩
  ·refine ⟨(World.putObj_heap_other ?_).trans (hD D' (by simp [hD'])).1,(hD D' (by simp [hD'])).2⟩
   intro e; exact hn.1 (e▸hD')
  ·exact h W' (hb.trans h1) (fun a=>(h2 a).trans (hd.cell a)) (fun a=>(h3 a).trans (hd.frozen a))
theorem calls_marks {P:Program} {f:FuncId} {fn:Func} {c:Code} {args:Array Value} {w:World} {R:Ending→World→Prop}
  (hf:P.funcs[f]?=some fn) (hb:fn.body=some c)
  (h:c.wp P (bodyPostM Fence.wide 0 P fn R) { tmps:=args++Array.replicate (fn.ntmps - args.size) undef,defers:=[] } w):Calls P f args w R :=
 callsIn_wide.1 (callsIn_of_wp_marks (n:=0) hf hb trivial (wpIn_wide.2 h))
end Go.Proofs.RF
namespace Go.Proofs.YtdnmmibchbceeaaGreat
open Go.RowKit
open Go.Proofs
open Go.Shelf
attribute [local irreducible] Go.Calls Go.wpList
structure KK (B n₀:Nat) (W W':World):Prop where
 keeps:KeepsFrom B W W'
 bel:Below n₀ W W'
 le:n₀≤W.heap.size
theorem KK.refl {B n₀:Nat} {W:World} (h:n₀≤W.heap.size):KK B n₀ W W:=⟨KeepsFrom.refl _ _,Below.refl _ _,h⟩
theorem KK.acc {B n₀:Nat} {W W' W'':World} (h:KK B n₀ W W') (hb:Below W'.heap.size W' W''):KK B n₀ W W'' :=
 ⟨h.keeps.trans ⟨hb.size,fun k o _ hk _=>(hb.block k (Array.getElem?_eq_some_iff.1 hk).1).trans hk⟩,h.bel.trans (hb.mono (Nat.le_trans h.le h.bel.size)),h.le⟩
theorem KK.set {B n₀:Nat} {W W':World} (h:KK B n₀ W W') {b o:Nat} (v:Value) (hb:n₀≤b):KK B n₀ W (W'.setCell ⟨b,o,none⟩ v) :=
 ⟨h.keeps.trans ((KeepsOthers.setCell _ _ _).from _),h.bel.setCell (p:=⟨b,o,none⟩) hb v,h.le⟩
theorem KK.grown {B n₀:Nat} {W W' W'':World} (h:KK B n₀ W W') {e:TypeId} {v:Value} {n size:Nat} {xs:List Value} (hr:W'.ownsRow n₀ e size v n xs) (hg:W'.grownBy W'' v.ownBlock):KK B n₀ W W'' :=
 ⟨h.keeps.trans ((KeepsOthers.of_grownBy hg (fun j o e1 e2=>by
  obtain ⟨_,h2⟩:=hr
  rcases h2 with ⟨h3,_⟩ | ⟨g,cap,cur,h3,hg0,hc,_⟩
  ·rw [h3] at e1; simp [Value.ownBlock] at e1
  ·rw [h3] at e1
   simp [Value.ownBlock] at e1;subst e1;rw [hc] at e2
   cases e2; rfl)).from _),h.bel.grown hg (Nat.le_trans h.le h.bel.size) (fun j hj=>(hr.lt j hj).1),h.le⟩
theorem reps_any (n:Int) (ov rv:Value) (w:World) :
  Calls Tryz.prog 126 #[.agg #[.int .i64 n,ov,rv]] w fun e w'=>∃ fb,e=.returned (.func (.func 147) #[] #[.pointer (some ⟨fb,0,none⟩)])∧CL w' fb 2 rv∧Below w.heap.size w w':=by
 go_enter Tryz.func126,Tryz.ntmps126
 have hbx:=box3 w (.int .i64 n) ov rv;go_upto_region 0 with (fail);refine Rg.wl ?_;refine Rg.lr 1 (Rg.exec_box _ _ rfl rfl) ?_;go_frame;have hb:Below w.heap.size w (w.alloc (.cells #[.int .i64 n,ov,rv] 87)):=(Below.refl _ _).alloc (Nat.le_refl _) _;generalize w.alloc (.cells #[.int .i64 n,ov,rv] 87)=w1 at *;have H:=ι hbx.2.2;have K:=ι hb;clear hbx hb;go_wp2;go_ret;exact ⟨_,rfl,H.out,K.out⟩
structure RV3 (n₀:Nat) (w:World) (ad:Option Addr) (m:Nat) (RV:Nat→Value):Prop where
 le:m≤1000000000
 had:0<m→∃ b off,ad=some ⟨b,off,none⟩∧b<n₀
 cells:∀ b off,ad=some ⟨b,off,none⟩→∀ j,j<m→w.cell? ⟨b,off+j,none⟩=some (RV j)
 sz:n₀≤w.heap.size
theorem RV3.below {n₀:Nat} {w w':World} {ad:Option Addr} {m:Nat} {RV:Nat→Value} (h:RV3 n₀ w ad m RV) (hb:Below n₀ w w'):RV3 n₀ w' ad m RV :=
 ⟨h.le,h.had,fun b off e j hj=>by
  obtain ⟨b',off',e',hlt⟩:=h.had (by omega);rw [e] at e';simp only [Option.some.injEq,Addr.mk.injEq,and_true] at e';obtain ⟨rfl,rfl⟩:=e'
  exact (hb.cell (p:=⟨b,off+j,none⟩) hlt).trans (h.cells b off e j hj),Nat.le_trans h.sz hb.size⟩
theorem reps_stops {w:World} {n₀ m cap fb:Nat} {ad:Option Addr} {RV:Nat→Value} (h:RV3 n₀ w ad m RV) (hfb:CL w fb 2 (.slice ad m cap)) (n:Nat) (hn:1≤n) :
  SeqStopsK Fence.wide n Tryz.prog 147 #[.pointer (some ⟨fb,0,none⟩)] (fun x:Fin m=>#[Value.int .i64 ((x.1:Nat):Int),RV x.1]) (Below n₀) (fun ys=>ys=finTo m m) (fun pre=>∃ k,k≤m∧pre=finTo m k) m w:=fun l J Jx W hW _ _ hY h0=>by
 have h':=h.below (hW.mono h.sz);exact reps1_in Fence.wide n trivial rfl hn l fb n₀ m cap ad RV h.le h.had J Jx hY W ((hW.cell (p:=⟨fb,2,none⟩) hfb.lt).trans hfb.cell) h'.cells h0
theorem range_reps {g:Operand} {ps:Array Go.Tmp} {assign body:Code} {Q:Exit→Act→World→Prop} {a:Act} {w:World} {n₀ m cap fb:Nat} {ad:Option Addr} {RV:Nat→Value}
  (hg:a.eval g=.func (.func 147) #[] #[.pointer (some ⟨fb,0,none⟩)]) (hfb:CL w fb 2 (.slice ad m cap)) (h:RV3 n₀ w ad m RV) (hps:ps.size=2)
  (I:List (Fin m)→World→Prop) (Ix:Code→List (Fin m)→World→Prop) (hI:OwnFrom w.heap.size I) (hIx:∀ c,OwnFrom w.heap.size (Ix c)) (h0:I [] w) (a₁:Fin m→Act)
  (hassign:∀ (l:Nat) (x:Fin m) (W:World) (K:Act→World→Prop),K (a₁ x) W→assign.wpIn (Fence.wide.inRound l) 1 Tryz.prog (Exit.then K (fun _ _ _=>False)) { tmps:=(ps.zip #[Value.int .i64 ((x.1:Nat):Int),RV x.1]).foldl (fun t (p,v)=>t.setIfInBounds p v) a.tmps,defers:=[] } W)
  (hbody:∀ (l:Nat) (pre:List (Fin m)) (x:Fin m) (W:World),I pre W→pre.length<m→body.wpIn (Fence.wide.inRound l) 1 Tryz.prog (ownPostG w.heap.size (Below n₀) I Ix (pre++[x]) W) (a₁ x) W)
  (hdone:∀ (D:Nat) (W:World),w.heap.size≤D→I (finTo m m) W→RF.Dfr D W→Q .normal { a with defers:=RF.mark D :: a.defers } W)
  (hstop:∀ (D:Nat) (c:Code) (pre:List (Fin m)) (W:World),w.heap.size≤D→Ix c pre W→RF.Dfr D W→c.wp Tryz.prog Q { a with defers:=RF.mark D :: a.defers } W) :
  (Code.rangeFunc g ps assign body).wp Tryz.prog Q a w :=
 wpIn_wide.1 (wpIn_rangeFunc_ownG (F:=Fence.wide) (n:=3) rfl (by decide) (gf:=147) (lb:=#[.pointer (some ⟨fb,0,none⟩)]) hg trivial (enters_of Tryz.func147 (by kernel_rfl) rfl)
  (reps_stops h hfb 2 (by decide)) belowK_t (belowK_b h.sz) (Below.refl _ _) (fun _=>hps.symm) I Ix hI hIx h0 a₁ hassign hbody
  (fun D xs W hD hx hi hd=>by subst hx; exact hdone D W hD hi hd) (fun D c pre W hD _ hi hd=>wpIn_wide.2 (hstop D c pre W hD hi hd)))
end Go.Proofs.YtdnmmibchbceeaaGreat

namespace Go.Proofs.YtdnmmibchbceeaaGreat
open Go.Proofs
open Go.Proofs.Cm (Gr Gd IsChain IsG St)
theorem asc_len {l:List Nat} {a b:Nat} (h:l.Pairwise (· < ·)) (hr:∀ x∈l,a≤x∧x<b):l.length≤b - a:=by
 have h1:l.Nodup:=h.imp (fun {x y} hlt e=>by omega)
 have h2:=nodup_le (m:=List.range' a (b - a)) h1 (fun x hx=>by
  have:=hr x hx;rw [List.mem_range'_1]
  omega)
 rwa [List.length_range'] at h2
theorem getD_inf {α:Type} {l:List (List α)} {i:Nat} (h:i<l.length):l.getD i []=l[i]:=by rw [List.getD_eq_getElem?_getD,List.getElem?_eq_getElem h]; rfl
theorem chain_mem {n:Nat} {H:List Nat→Prop} {O:List (List Nat)} {R:List (List (List Nat))} (h:IsChain n H O R) {r:List Nat} (hr:r∈R.flatten):∃ i k,i<n∧k<(O.getD i []).length∧r=(R.getD i []).getD k []:=by
 obtain ⟨l,hl,hr⟩:=List.mem_flatten.1 hr;obtain ⟨i,hi,rfl⟩:=List.getElem_of_mem hl;obtain ⟨k,hk,rfl⟩:=List.getElem_of_mem hr
 have hin:i<n:=by rw [← h.lenR]; exact hi
 have e1:=h.len i hin;rw [getD_inf hi] at e1;exact ⟨i,k,hin,by omega,by rw [getD_inf hi]; exact (getD_li' hk).symm⟩
where
 getD_li' {l:List (List Nat)} {k:Nat} (h:k<l.length):l.getD k []=l[k]:=by rw [List.getD_eq_getElem?_getD,List.getElem?_eq_getElem h]; rfl
theorem chain_H {n:Nat} {H:List Nat→Prop} {O:List (List Nat)} {R:List (List (List Nat))} (h:IsChain n H O R) {r:List Nat} (hr:r∈R.flatten):H r:=by
 obtain ⟨i,k,hi,hk,rfl⟩:=chain_mem h hr;exact (h.rep i k hi hk).1.1.1
theorem chain_gen {n:Nat} {H:List Nat→Prop} (hH:IsG n H) {O:List (List Nat)} {R:List (List (List Nat))} (h:IsChain n H O R) (x:List Nat):H x↔Gr n (·∈R.flatten) x:=by
 have hgs:∀ s,s∈R.flatten→Gd n s:=fun s hs=>hH.gd s (chain_H h hs)
 constructor
 ·intro hx
  have key:∀ d i x,i+d=n→St H i x→Gr n (·∈R.flatten) x:=by
   intro d
   induction d with
   | zero =>
    intro i x hi hx
    obtain rfl:i=n:=by omega
    rw [Cm.Fx.all (hH.gd x hx.1) hx.2];exact .one
   | succ d ih =>
    intro i x hi hx
    have hin:i<n:=by omega
    have gx:=hH.gd x hx.1;have hp:=(h.orb i (Cm.ap x i) hin).2 ⟨x,hx,rfl⟩;obtain ⟨k,hk,e⟩:=List.getElem_of_mem hp;have hl:=(h.rep i k hin hk).1
    have e2:(O.getD i []).getD k 0=Cm.ap x i:=by rw [List.getD_eq_getElem?_getD,List.getElem?_eq_getElem hk]; exact e
    rw [e2] at hl;have e3:=h.len i hin
    have hrm:(R.getD i []).getD k []∈R.flatten:=by
     have hiR:i<R.length:=by rw [h.lenR]; exact hin
     rw [getD_inf hiR];rw [getD_inf hiR] at e3;rw [List.getD_eq_getElem?_getD,List.getElem?_eq_getElem (by omega)];exact List.mem_flatten.2 ⟨_,List.getElem_mem hiR,List.getElem_mem _⟩
    generalize (R.getD i []).getD k []=r at *;have gr:=hgs r hrm
    have hst:St H (i+1) (Ma.mulN x (Ma.invN r)):=by
     refine ⟨hH.mul _ _ hx.1 (hH.inv _ hl.1.1),fun j hj=>?_⟩;rw [Cm.ap_mul gx (by omega)]
     by_cases ej:j=i
     ·subst ej
      rw [← hl.2];exact Cm.ap_inv gr hin
     ·rw [hx.2 j (by omega)]
      exact Cm.Fx.inv gr (Nat.le_of_lt hin) hl.1.2 j (by omega)
    have h1:=ih (i+1) _ (by omega) hst;have h2:=Gr.mul _ _ h1 (.gen r hrm)
    rwa [Cm.mul_inv_cancel gx gr] at h2
  exact key n 0 x (by omega) ⟨hx,fun j hj=>absurd hj (Nat.not_lt_zero _)⟩
 ·intro hx
  exact Gr.sub hH (fun s hs=>chain_H h hs) hx
theorem chain_len {n:Nat} {H:List Nat→Prop} (hH:IsG n H) {O:List (List Nat)} {R:List (List (List Nat))} (h:IsChain n H O R) {i:Nat} (hi:i<n):(O.getD i []).length≤n - i:=by
 refine asc_len (h.asc i hi) fun p hp=>?_;obtain ⟨x,hx,rfl⟩:=(h.orb i p hi).1 hp;have gx:=hH.gd x hx.1;refine ⟨Nat.le_of_not_lt fun hlt=>?_,Cm.ap_lt gx hi⟩;have e:=hx.2 _ hlt;have:=Cm.ap_inj gx (Nat.lt_trans hlt hi) hi e;omega
def ChOK (n:Int) (OO:List (List Int)) (RR:List (List (List Int))):Prop:=∃ (N:Nat) (O:List (List Nat)) (R:List (List (List Nat))),n=((N:Nat):Int)∧1≤N∧N≤64∧OO=O.map Ma.ofN∧RR=R.map (List.map Ma.ofN)∧IsChain N (Gr N (·∈R.flatten)) O R∧∀ s∈R.flatten,Gd N s
def ChC (n:Int) (OO:List (List Int)) (RR:List (List (List Int))) (c:Int):Prop:=(¬ (1≤n∧n≤64)∧c=2)∨((1≤n∧n≤64)∧((ChOK n OO RR∧c=0)∨(¬ ChOK n OO RR∧c=3)))
theorem ChC.uniq {n:Int} {OO:List (List Int)} {RR:List (List (List Int))} {c c':Int} (h:ChC n OO RR c) (h':ChC n OO RR c'):c=c':=by
 rcases h with ⟨a,rfl⟩ | ⟨a,⟨b,rfl⟩ | ⟨b,rfl⟩⟩ <;> rcases h' with ⟨a',rfl⟩ | ⟨a',⟨b',rfl⟩ | ⟨b',rfl⟩⟩ <;> first | rfl | exact absurd a a' | exact absurd a' a | exact absurd b b' | exact absurd b' b
theorem ChC.zero {n:Int} {OO:List (List Int)} {RR:List (List (List Int))} (h:ChC n OO RR 0):ChOK n OO RR:=by
 rcases h with ⟨_,e⟩ | ⟨_,⟨b,_⟩ | ⟨_,e⟩⟩
 ·cases e
 ·exact b
 ·cases e
theorem ChC.of {n:Int} {OO:List (List Int)} {RR:List (List (List Int))} (h:ChOK n OO RR):ChC n OO RR 0:=by
 obtain ⟨N,O,R,e,h1,h2,_⟩:=id h;exact .inr ⟨by omega,.inl ⟨h,rfl⟩⟩
theorem ChOK.lens {n:Int} {OO:List (List Int)} {RR:List (List (List Int))} (h:ChOK n OO RR):(OO.length:Int)=n∧(RR.length:Int)=n:=by
 obtain ⟨N,O,R,rfl,h1,h2,rfl,rfl,hc,_⟩:=h;rw [List.length_map,List.length_map,hc.lenO,hc.lenR];exact ⟨rfl,rfl⟩
theorem ChOK.row {n:Int} {OO:List (List Int)} {RR:List (List (List Int))} (h:ChOK n OO RR) {i:Nat} (hi:i<RR.length) (hi2:i<OO.length):RR[i].length=OO[i].length∧(RR[i].length:Int)≤n - (i:Int):=by
 obtain ⟨N,O,R,rfl,h1,h2,rfl,rfl,hc,hg⟩:=h;rw [List.length_map] at hi hi2
 have hin:i<N:=by rw [← hc.lenR]; exact hi
 have e1:=hc.len i hin;have e2:=chain_len (Gr.isG (gs:=(·∈R.flatten)) hg) hc hin;rw [getD_inf hi2] at e1 e2;rw [getD_inf hi] at e1;simp only [List.getElem_map,List.length_map,Ma.len_ofN];omega
theorem ChOK.perm {n:Int} {OO:List (List Int)} {RR:List (List (List Int))} (h:ChOK n OO RR) {i:Nat} (hi:i<RR.length) {x:List Int} (hx:x∈RR[i]):(x.length:Int)=n∧Ma.pchk x=0:=by
 obtain ⟨N,O,R,rfl,h1,h2,rfl,rfl,hc,hg⟩:=h;rw [List.length_map] at hi;rw [List.getElem_map] at hx;obtain ⟨y,hy,rfl⟩:=List.mem_map.1 hx;have gy:=hg y (List.mem_flatten.2 ⟨_,List.getElem_mem hi,hy⟩);rw [Ma.len_ofN,gy.2];exact ⟨rfl,Ma.pchk_ok (by rw [Ma.len_ofN,gy.2]; exact h1) (by rw [Ma.len_ofN,gy.2]; exact h2) (Ma.okN_ofN gy.1)⟩
theorem map_ofN_inj:∀ {a b:List (List Nat)},a.map Ma.ofN=b.map Ma.ofN→a=b
 | [],[],_=>rfl
 | [],_ :: _,h=>by simp at h
 | _ :: _,[],h=>by simp at h
 | x :: a,y :: b,h=>by
  simp only [List.map_cons,List.cons.injEq] at h;rw [Ma.ofN_inj h.1,map_ofN_inj h.2]
theorem flat_map_ofN (R:List (List (List Nat))):(R.map (List.map Ma.ofN)).flatten=R.flatten.map Ma.ofN:=by
 induction R with
 | nil=>rfl
 | cons r R ih=>simp only [List.map_cons,List.flatten_cons,List.map_append,ih]
theorem ChOK.same {N:Nat} (h1:1≤N) (h2:N≤64) {OO:List (List Int)} {RR:List (List (List Int))} {gs:List (List Nat)} (hg:∀ s∈gs,Gd N s) (hgs:RR.flatten=gs.map Ma.ofN) {O:List (List Nat)} {R:List (List (List Nat))} (hc:IsChain N (Gr N (·∈gs)) O R) :
  ChOK ((N:Nat):Int) OO RR↔OO=O.map Ma.ofN∧RR=R.map (List.map Ma.ofN):=by
 constructor
 ·rintro ⟨N',O',R',e,_,_,rfl,rfl,hc',_⟩
  obtain rfl:N=N':=by omega
  rw [flat_map_ofN] at hgs;have:=map_ofN_inj hgs;subst this;obtain ⟨rfl,rfl⟩:=hc.uniq hc';exact ⟨rfl,rfl⟩
 ·rintro ⟨rfl,rfl⟩
  rw [flat_map_ofN] at hgs;have:=map_ofN_inj hgs;subst this;exact ⟨N,O,R,rfl,h1,h2,rfl,rfl,hc,hg⟩
theorem chain_ok {N:Nat} (h1:1≤N) (h2:N≤64) {gs:List (List Nat)} (hg:∀ s∈gs,Gd N s) {O:List (List Nat)} {R:List (List (List Nat))} (hc:IsChain N (Gr N (·∈gs)) O R):ChOK ((N:Nat):Int) (O.map Ma.ofN) (R.map (List.map Ma.ofN)):=by
 have hH:=Gr.isG (n:=N) (gs:=(·∈gs)) hg;have e:Gr N (·∈gs)=Gr N (·∈R.flatten):=funext fun x=>propext (chain_gen hH hc x);refine ⟨N,O,R,rfl,h1,h2,rfl,rfl,?_,fun s hs=>hH.gd s (chain_H hc hs)⟩;rw [← e];exact hc
end Go.Proofs.YtdnmmibchbceeaaGreat

namespace Go.Proofs.YtdnmmibchbceeaaGreat
open Go.RowKit
open Go.Proofs
open Go.Proofs.Ob
open Go.Shelf
open Go.Proofs.Cm (Lv Twr trOf)
attribute [local go_sem] Oper.semAt_some
attribute [local irreducible] Go.Calls Go.wpList Go.wpListIn
theorem Wvcl0 (args:Array Value) (w:World):(callFunc 126 args).run Tryz.prog w=.ok (.enter 126 args) w:=by kernel_rfl
theorem Wvcl1 (args:Array Value) (w:World):(callFunc 75 args).run Tryz.prog w=.ok (.enter 75 args) w:=by kernel_rfl
theorem Wvcl4 (args:Array Value) (w:World):(callFunc 127 args).run Tryz.prog w=.ok (.enter 127 args) w:=by kernel_rfl
theorem infoErrno:(Tryz.prog.info? 31).map (fun i=>(i.zero,i.size,i.bytes))=some (some (.int .i64 0),1,8):=by kernel_rfl
theorem exec_allocE {o:Oper} {a:Act} {w:World} (ho:o.op=.alloc 31):(execOp a.eval o).run Tryz.prog w=.ok (.value (.pointer (some ⟨w.heap.size,0,none⟩))) (w.alloc (.cells #[.int .i64 0] 31)):=by
 obtain ⟨i0,hi,hz0,hz1,hz2⟩:=info_parts infoErrno;unfold execOp;simp [ho,Instr.alloc,typeInfo,zeroValue,hi,hz0,newVar,Value.cells,Result.andThen];rfl
theorem exec_allocI {o:Oper} {a:Act} {w:World} (ho:o.op=.alloc 3):(execOp a.eval o).run Tryz.prog w=.ok (.value (.pointer (some ⟨w.heap.size,0,none⟩))) (w.alloc (.cells #[.int .i64 0] 3)):=by
 obtain ⟨i0,hi,hz0,hz1,hz2⟩:=info_parts intsInfo;unfold execOp;simp [ho,Instr.alloc,typeInfo,zeroValue,hi,hz0,newVar,Value.cells,Result.andThen];rfl
theorem exec_allocPs {o:Oper} {a:Act} {w:World} (ho:o.op=.alloc 22):(execOp a.eval o).run Tryz.prog w=.ok (.value (.pointer (some ⟨w.heap.size,0,none⟩))) (w.alloc (.cells #[.slice none 0 0] 22)):=by
 obtain ⟨i0,hi,hz0,hz1,hz2⟩:=info_parts infoPermsV;unfold execOp;simp [ho,Instr.alloc,typeInfo,zeroValue,hi,hz0,newVar,Value.cells,Result.andThen];rfl
theorem run_storeE {w:World} {b o:Nat} {u:Value} (v:Int) (h:w.cell? ⟨b,o,none⟩=some u) (hf:w.frozen? ⟨b,o,none⟩=false) :
  (storeVar 31 ⟨b,o,none⟩ (.int .i64 v)).run Tryz.prog w=.ok () (w.setCell ⟨b,o,none⟩ (.int .i64 v)):=by
 obtain ⟨i0,hi,hz0,hz1,hz2⟩:=info_parts infoErrno
 have h0:(⟨b,o,none⟩:Addr).add 0=⟨b,o,none⟩:=by simp [Addr.add]
 simp [storeVar,sizeOf,typeInfo,hi,hz1,Value.cells,storeCells,store,h0];simp [Sem.run,h,hf]
theorem run_loadE {w:World} {ad:Addr} {v:Value} (h:w.cell? ad=some v):(loadVar 31 ad).run Tryz.prog w=.ok v w:=by
 simp [loadVar,isAgg,run_underlying Tryz.underlying31,load];simp [Sem.run,h]
theorem results_cellE {fn:Func} {p:Go.Tmp} (h:fn.results=#[.cell p 31]) (tmps:Array Value) {w:World} {b:Nat} {v:Value} (hp:tmps.getD p undef=.pointer (some ⟨b,0,none⟩)) (hc:w.cell? ⟨b,0,none⟩=some v) :
  (results fn tmps).run Tryz.prog w=.ok v w:=by
 have hp':tmps[p]?.getD undef=.pointer (some ⟨b,0,none⟩):=by simpa using hp
 simp [results,h,hp',asAddr,run_loadE hc]
theorem run_loadC3 {w:World} {b:Nat} {x y z:Value} (h0:w.cell? ⟨b,0,none⟩=some x) (h1:w.cell? ⟨b,1,none⟩=some y) (h2:w.cell? ⟨b,2,none⟩=some z):(loadVar 87 ⟨b,0,none⟩).run Tryz.prog w=.ok (.agg #[x,y,z]) w:=by
 obtain ⟨i0,hi,hz0,hz1,hz2⟩:=info_parts infoChain
 have ha0:(⟨b,0,none⟩:Addr).add 0=⟨b,0,none⟩:=by simp [Addr.add]
 have ha1:(⟨b,0,none⟩:Addr).add 1=⟨b,1,none⟩:=by simp [Addr.add]
 have ha2:(⟨b,0,none⟩:Addr).add 2=⟨b,2,none⟩:=by simp [Addr.add]
 have hg:(isAgg 87).run Tryz.prog w=.ok true w:=by kernel_rfl
 simp [loadVar,hg,sizeOf,typeInfo,hi,hz1,loadCells,loadCellsFrom,load,ha0,ha1,ha2];simp [Sem.run,h0,h1,h2]
structure CW (w:World) (b:Nat) (v:Value):Prop where
 c:w.cell? ⟨b,0,none⟩=some v
 f:w.frozen? ⟨b,0,none⟩=false
 lt:b<w.heap.size
theorem CW.below {w w':World} {b:Nat} {v:Value} (h:CW w b v) (hb:Below w.heap.size w w'):CW w' b v:=⟨(hb.cell (p:=⟨b,0,none⟩) h.lt).trans h.c,(hb.frozen (p:=⟨b,0,none⟩) h.lt).trans h.f,Nat.lt_of_lt_of_le h.lt hb.size⟩
theorem CW.new (w:World) (v:Value) (t:TypeId):CW (w.alloc (.cells #[v] t)) w.heap.size v:=⟨by rw [Rg.cellNew]; rfl,frozenNewN _ _ _ 0 _,by simp⟩
theorem CW.set {w:World} {b:Nat} {u:Value} (h:CW w b u) (v:Value):CW (w.setCell ⟨b,0,none⟩ v) b v:=⟨World.cell?_setCell_same (h:=h.c) ..,by rw [World.frozen?_setCell]; exact h.f,by simpa using h.lt⟩
theorem CW.other {w:World} {b b' o:Nat} {u:Value} (h:CW w b u) (v:Value) (hne:b≠b'):CW (w.setCell ⟨b',o,none⟩ v) b u:=⟨by rw [World.cell?_setCell_other (h:=by intro e; injection e with e1 e2; omega) ..]; exact h.c,by rw [World.frozen?_setCell]; exact h.f,by simpa using h.lt⟩
theorem CL.other {w:World} {b b' o o':Nat} {u:Value} (h:CL w b o' u) (v:Value) (hne:b≠b'):CL (w.setCell ⟨b',o,none⟩ v) b o' u:=⟨by rw [World.cell?_setCell_other (h:=by intro e; injection e with e1 e2; omega) ..]; exact h.cell,by simpa using h.lt⟩
theorem CW.kp {M:Nat→Prop} {w w':World} {b:Nat} {v:Value} (h:CW w b v) (hk:Rg.Kp M w w') (hM:¬ M b):CW w' b v :=
 ⟨(World.cell?_of_block (a:=⟨b,0,none⟩) (hk.block b h.lt hM)).trans h.c,(World.frozen?_of_block (a:=⟨b,0,none⟩) (hk.block b h.lt hM)).trans h.f,Nat.lt_of_lt_of_le h.lt hk.size⟩
theorem CL.kp {M:Nat→Prop} {w w':World} {b o:Nat} {v:Value} (h:CL w b o v) (hk:Rg.Kp M w w') (hM:¬ M b):CL w' b o v :=
 ⟨(World.cell?_of_block (a:=⟨b,o,none⟩) (hk.block b h.lt hM)).trans h.cell,Nat.lt_of_lt_of_le h.lt hk.size⟩
structure CkI (w:World) (n:Int) (ov rv:Value) (W:World) (v:Value) (gs:List (List Nat)):Prop where
 bel:Below w.heap.size w W
 a0:CL W w.heap.size 0 (.int .i64 n)
 a1:CL W w.heap.size 1 ov
 a2:CL W w.heap.size 2 rv
 c2:CW W (w.heap.size+1) (.int .i64 0)
 c3:CW W (w.heap.size+2) (.int .i64 n)
 c4:CW W (w.heap.size+3) v
 row:RowF (fun k=>k<w.heap.size) (w.heap.size+4) W v gs
theorem CkI.below {w:World} {n:Int} {ov rv:Value} {W W':World} {v:Value} {gs:List (List Nat)} (h:CkI w n ov rv W v gs) (hb:Below W.heap.size W W'):CkI w n ov rv W' v gs :=
 ⟨Rg.acc h.bel hb,h.a0.below hb,h.a1.below hb,h.a2.below hb,h.c2.below hb,h.c3.below hb,h.c4.below hb,h.row.below hb⟩
theorem CkI.keep {w:World} {n:Int} {ov rv:Value} {W W':World} {v:Value} {gs:List (List Nat)} {row:Option Nat} {B:Nat} (h:CkI w n ov rv W v gs) (hB:w.heap.size+4≤B) (hg:W.grownBy W' row) (hr:∀ r,row=some r→B≤r∧∃ o:Obj,W.heap[r]?=some o∧o.isCells=false):CkI w n ov rv W' v gs:=by
 have hk:Rg.Kp (fun k=>row=some k) W W':=Rg.Kp.of_grown hg fun _ e=>e
 have hM:∀ b,b<B→¬ row=some b:=fun b hb e=>by have:=(hr b e).1; omega
 obtain ⟨us,h1,h2⟩:=h.row.own;refine ⟨h.bel.grown hg h.bel.size (fun k e=>by have:=(hr k e).1; omega),h.a0.kp hk (hM _ (by omega)),h.a1.kp hk (hM _ (by omega)),h.a2.kp hk (hM _ (by omega)),h.c2.kp hk (hM _ (by omega)),h.c3.kp hk (hM _ (by omega)),h.c4.kp hk (hM _ (by omega)),⟨Nat.le_trans h.row.size hk.size,us,rowKp h1 hk (fun k e1 e2=>?_),h2.kp hk (fun k hk2=>hM k (by omega))⟩⟩;obtain ⟨_,o,ho,hc⟩:=hr k e1;obtain ⟨_,h3⟩:=h1
 rcases h3 with ⟨h4,_⟩ | ⟨g,cap,cur,h4,_,h5,_⟩
 ·rw [h4] at e2; simp [Value.ownBlock] at e2
 ·rw [h4] at e2
  simp [Value.ownBlock] at e2;subst e2;rw [h5] at ho
  cases ho; cases hc
def rowOf (RR:List (List (List Int))) {m:Nat} (x:Fin m):List (List Int):=RR.getD x.1 []
theorem CW.upto {B:Nat} {w w':World} {b:Nat} {v:Value} (h:CW w b v) (hb:Below B w w') (hB:b<B):CW w' b v:=⟨(hb.cell (p:=⟨b,0,none⟩) hB).trans h.c,(hb.frozen (p:=⟨b,0,none⟩) hB).trans h.f,Nat.lt_of_lt_of_le h.lt hb.size⟩
theorem CL.upto {B:Nat} {w w':World} {b o:Nat} {v:Value} (h:CL w b o v) (hb:Below B w w') (hB:b<B):CL w' b o v:=⟨(hb.cell (p:=⟨b,o,none⟩) hB).trans h.cell,Nat.lt_of_lt_of_le h.lt hb.size⟩
theorem ChEqR.mk {w:World} {ov rv:Value} {OO:List (List Int)} {RR:List (List (List Int))} (h1:Rg.Rows w ov OO) (h2:Rows2 w rv RR):ChEqR w ov rv OO RR:=⟨h1,h2⟩
theorem ChEqR.upto {w w':World} {ov rv:Value} {OO:List (List Int)} {RR:List (List (List Int))} (h:ChEqR w ov rv OO RR) (hb:Below w.heap.size w w'):ChEqR w' ov rv OO RR:=h.below hb
theorem _root_.Go.Proofs.RF.Dfr.below {D:Nat} {W W':World} (h:RF.Dfr D W) (hb:Below W.heap.size W W'):RF.Dfr D W':=h.of_below' hb
theorem KK.below {B n₀:Nat} {W W' W'':World} (h:KK B n₀ W W') (hb:Below W'.heap.size W' W''):KK B n₀ W W'':=h.acc hb
theorem chSame_b {n m:Int} {ov rv ov' rv':Value} {OO OO':List (List Int)} {RR RR':List (List (List Int))} {w:World} (h1:ChEqR w ov rv OO RR) (h2:ChEqR w ov' rv' OO' RR') {b:Bool} (hb:Hid (decide (n=m∧OO=OO'∧RR=RR')=b)) :
  Calls Tryz.prog 127 #[.agg #[.int .i64 n,ov,rv],.agg #[.int .i64 m,ov',rv']] w fun e w'=>e=.returned (.bool b)∧Below w.heap.size w w':=by
 rw [← hb.out]; exact chSame_any h1 h2
theorem CkI.store {w:World} {n:Int} {ov rv:Value} {W X:World} {v v':Value} {gs gs':List (List Nat)} (h:CkI w n ov rv W v gs) (hb:Below (w.heap.size+4) W X) (hr:RowF (fun k=>k<w.heap.size) (w.heap.size+4) X v' gs'):CkI w n ov rv (X.setCell ⟨w.heap.size+3,0,none⟩ v') v' gs':=by
 have hk:Rg.Kp (fun z=>z=w.heap.size+3) X (X.setCell ⟨w.heap.size+3,0,none⟩ v'):=Rg.Kp.of_setCell rfl;obtain ⟨us,q1,q2⟩:=hr.own;refine ⟨(h.bel.trans (hb.mono (by omega))).setCell (p:=⟨w.heap.size+3,0,none⟩) (by show w.heap.size≤w.heap.size+3; omega) _,(h.a0.upto hb (by omega)).other _ (by omega),(h.a1.upto hb (by omega)).other _ (by omega),(h.a2.upto hb (by omega)).other _ (by omega),(h.c2.upto hb (by omega)).other _ (by omega),(h.c3.upto hb (by omega)).other _ (by omega),(h.c4.upto hb (by omega)).set _,⟨Nat.le_trans hr.size hk.size,us,rowKp q1 hk (fun k e1 e2=>by have:=(q1.lt k e2).1; omega),q2.kp hk (fun k hk2 e=>by omega)⟩⟩
theorem KK.row {B n₀:Nat} {W W1 X:World} {F:Nat→Prop} {B2:Nat} {v:Value} {gs:List (List Nat)} (h:KK B n₀ W W1) (hk:Rg.Kp (fun k=>v.ownBlock=some k) W1 X) (hr:RowF F B2 W1 v gs) (hn:n₀≤B2):KK B n₀ W X:=by
 obtain ⟨us,q1,q2⟩:=hr.own
 have hcells:∀ j o,v.ownBlock=some j→W1.heap[j]?=some o→o.isCells=true:=fun j o e1 e2=>by
  obtain ⟨_,h3⟩:=q1
  rcases h3 with ⟨h4,_⟩ | ⟨g,cap,cur,h4,_,h5,_⟩
  ·rw [h4] at e1; simp [Value.ownBlock] at e1
  ·rw [h4] at e1
   simp [Value.ownBlock] at e1;subst e1;rw [h5] at e2
   cases e2; rfl
 refine ⟨h.keeps.trans ⟨hk.size,fun k o _ hk2 ho=>(hk.block k (Array.getElem?_eq_some_iff.1 hk2).1 (fun e=>by rw [hcells k o e hk2] at ho; cases ho)).trans hk2⟩,h.bel.trans ⟨hk.os,hk.tape,hk.output,hk.size,fun k hk2=>hk.block k (by have:=h.bel.size; have:=h.le; omega) (fun e=>by have:=(q1.lt k e).1; omega)⟩,h.le⟩
theorem finTo_flat {RR:List (List (List Int))}:(finTo RR.length RR.length).flatMap (rowOf RR)=RR.flatten:=by
 rw [finTo_all];rw [List.flatMap_def]
 congr 1
 refine List.ext_getElem (by simp) fun i h1 h2=>?_;simp only [List.getElem_map,List.getElem_finRange];exact getD_inf h2
def CkPost (n:Int) (OO:List (List Int)) (RR:List (List (List Int))) (w:World) (e:Ending) (w':World):Prop:=∃ c,e=.returned (.int .i64 c)∧ChC n OO RR c∧Below w.heap.size w w'
theorem ck_leave {n:Int} {OO:List (List Int)} {RR:List (List (List Int))} {w W:World} {tmps:Array Value} {c:Int} {ds:List Nat} (hb:Below w.heap.size w W) (hc:CW W (w.heap.size+1) (.int .i64 c)) (hC:ChC n OO RR c) (hp:tmps.getD 2 undef=.pointer (some ⟨w.heap.size+1,0,none⟩)) (hnd:ds.Nodup) (hD:∀ D,D∈ds→RF.Dfr D W∧w.heap.size≤D) :
  LeavesInM Fence.wide 0 Tryz.prog Tryz.f99 tmps (CkPost n OO RR w) (ds.map RF.mark) .returning W :=
 RF.leaves w.heap.size ds W hnd hD fun _ l1 l2 _=>⟨_,results_cellE rfl _ hp ((l2 _).trans hc.c),c,rfl,hC,hb.trans l1⟩
theorem chCheck_any {n:Int} {ov rv:Value} {OO:List (List Int)} {RR:List (List (List Int))} {w:World} (h:ChEqR w ov rv OO RR) :
  Calls Tryz.prog 99 #[.agg #[.int .i64 n,ov,rv]] w (CkPost n OO RR w):=by
 obtain ⟨oa,oc,rfl,_,hoL,_,_⟩:=h.1.shape;obtain ⟨ra,rc,rfl⟩:=h.2.shape;have HO:=ι h.1;have HR:=ι h.2;have K:=ι (Below.refl w.heap.size w)
 have hrL:RR.length≤1000000000:=by
  obtain ⟨us,⟨a,c,e,_,_,e2,_⟩,h2,_⟩:=h.2;unfold Rg.big at e2;omega
 have H:=ι h;clear h;refine RF.calls_marks Tryz.func99 rfl ?_;simp only [Tryz.ntmps99,List.size_toArray,List.length_cons,List.length_nil,Nat.reduceAdd,Nat.reduceSub,Array.replicate_succ,Array.replicate_zero,List.push_toArray,List.append_toArray,List.nil_append,List.cons_append];have hbx:=box3 w (.int .i64 n) (.slice oa OO.length oc) (.slice ra RR.length rc)
 have hs:(w.alloc (.cells #[.int .i64 n,.slice oa OO.length oc,.slice ra RR.length rc] 87)).heap.size=w.heap.size+1:=by simp
 go_upto_region 0 with (fail);refine Rg.wl ?_;refine Rg.lr 1 (Rg.exec_box _ _ rfl rfl) ?_;go_frame;have hb:Below w.heap.size w (w.alloc (.cells #[.int .i64 n,.slice oa OO.length oc,.slice ra RR.length rc] 87)):=(Below.refl _ _).alloc (Nat.le_refl _) _;generalize w.alloc (.cells #[.int .i64 n,.slice oa OO.length oc,.slice ra RR.length rc] 87)=w1 at *;have A0:=ι hbx.1;have A1:=ι hbx.2.1;have A2:=ι hbx.2.2;replace K:=ι hb;have hs1:w1.heap.size=w.heap.size+1:=hs;clear hbx hb hs;have hnw:=CW.new w1 (.int .i64 0) 31
 have hs:(w1.alloc (.cells #[.int .i64 0] 31)).heap.size=w1.heap.size+1:=by simp
 refine Rg.lr 2 (exec_allocE rfl) ?_;go_frame;have hb:=(Below.refl w1.heap.size w1).alloc (Nat.le_refl _) (.cells #[.int .i64 0] 31);generalize w1.alloc (.cells #[.int .i64 0] 31)=w2 at *;replace A0:=ι (A0.out.below hb);replace A1:=ι (A1.out.below hb);replace A2:=ι (A2.out.below hb);replace K:=ι (Rg.acc K.out hb);clear hb;rw [hs1] at hnw ⊢
 have hs2:w2.heap.size=w.heap.size+2:=by omega
 have C2:=ι hnw;clear hnw hs;go_upto_region 1 with (fail);refine Rg.wl ?_;refine Rg.lr 9 (exec_field _ rfl rfl (chF0 _ _)) ?_;go_frame;refine Rg.lr 10 (Rg.exec_load (v:=.int .i64 n) _ _ rfl ⟨w.heap.size,0,none⟩ rfl (run_loadInt A0.out.cell)) ?_;go_frame;have hnw:=CW.new w2 (.int .i64 0) 3
 have hs:(w2.alloc (.cells #[.int .i64 0] 3)).heap.size=w2.heap.size+1:=by simp
 refine Rg.lr 3 (exec_allocI rfl) ?_;go_frame;have hb:=(Below.refl w2.heap.size w2).alloc (Nat.le_refl _) (.cells #[.int .i64 0] 3);generalize w2.alloc (.cells #[.int .i64 0] 3)=w3 at *;replace A0:=ι (A0.out.below hb);replace A1:=ι (A1.out.below hb);replace A2:=ι (A2.out.below hb);replace C2:=ι (C2.out.below hb);replace K:=ι (Rg.acc K.out hb);clear hb;rw [hs2] at hnw ⊢
 have hs3:w3.heap.size=w.heap.size+3:=by omega
 have C3:=ι hnw;clear hnw hs;refine Rg.list_skip none rfl rfl (Rg.exec_store _ _ _ rfl _ rfl _ rfl (run_storeInt n C3.out.c C3.out.f)) ?_;go_frame;have hk:=K.out.setCell (p:=⟨w.heap.size+2,0,none⟩) (by show w.heap.size≤w.heap.size+2; omega) (.int .i64 n);have x0:=A0.out.other (o:=0) (b':=w.heap.size+2) (.int .i64 n) (by omega);have x1:=A1.out.other (o:=0) (b':=w.heap.size+2) (.int .i64 n) (by omega);have x2:=A2.out.other (o:=0) (b':=w.heap.size+2) (.int .i64 n) (by omega);have y2:=C2.out.other (o:=0) (b':=w.heap.size+2) (.int .i64 n) (by omega);have y3:=C3.out.set (.int .i64 n)
 have hs4:(w3.setCell ⟨w.heap.size+2,0,none⟩ (.int .i64 n)).heap.size=w.heap.size+3:=by simp; omega
 generalize w3.setCell ⟨w.heap.size+2,0,none⟩ (.int .i64 n)=w9 at *;replace K:=ι hk;replace A0:=ι x0;replace A1:=ι x1;replace A2:=ι x2;replace C2:=ι y2;replace C3:=ι y3;clear hk x0 x1 x2 y2 y3
 by_cases hd1:n<1
 ·skip
  go_upto_region 2 with (fail);refine Rg.wl ?_;refine Rg.lr 11 (Rg.exec_load (v:=.int .i64 n) _ _ rfl ⟨(w.heap.size+2),0,none⟩ rfl (run_loadInt C3.out.c)) ?_;go_frame;refine Rg.lr 12 (exec_bin (R:=.bool true) .lss _ _ _ rfl rfl rfl (b_lss _ Rg.dT)) ?_;go_frame;refine Rg.lm 13 (.bool true) ?_;go_frame;refine listW_pass (some 14) (by kernel_rfl) rfl ?_;go_frame;refine listW_pass (some 15) (by kernel_rfl) rfl ?_;go_frame;refine Rg.lr 16 (exec_pickT (v:=.bool true) _ _ _ rfl rfl rfl) ?_;go_frame;go_upto_region 3 with (fail);refine Rg.wl ?_;refine Rg.list_skip none rfl rfl (Rg.exec_store _ _ _ rfl _ rfl _ rfl (run_storeE 2 C2.out.c C2.out.f)) ?_;go_frame;have hk:=K.out.setCell (p:=⟨w.heap.size+1,0,none⟩) (by show w.heap.size≤w.heap.size+1; omega) (.int .i64 2);have y2:=C2.out.set (.int .i64 2);generalize w9.setCell ⟨w.heap.size+1,0,none⟩ (.int .i64 2)=w99 at *;have KX:=ι hk
  have CX:=ι y2;have HCX:=ι (show ChC n OO RR 2 from .inl ⟨by omega,rfl⟩);clear hk y2;go_wp2;exact ck_leave (ds:=[]) KX.out CX.out HCX.out rfl (by simp) (fun D hD=>by simp at hD)
 by_cases hd2:64<n
 ·skip
  go_upto_region 2 with (fail);refine Rg.wl ?_;refine Rg.lr 11 (Rg.exec_load (v:=.int .i64 n) _ _ rfl ⟨(w.heap.size+2),0,none⟩ rfl (run_loadInt C3.out.c)) ?_;go_frame;refine Rg.lr 12 (exec_bin (R:=.bool false) .lss _ _ _ rfl rfl rfl (b_lss _ Rg.dF)) ?_;go_frame;refine Rg.lm 13 (.bool false) ?_;go_frame;refine Rg.lW 14 (Rg.exec_load (v:=.int .i64 n) _ _ rfl ⟨(w.heap.size+2),0,none⟩ rfl (run_loadInt C3.out.c)) ?_;go_frame;refine Rg.lW 15 (exec_bin (R:=.bool true) .gtr _ _ _ rfl rfl rfl (b_gtr _ Rg.dT)) ?_;go_frame;refine Rg.lr 16 (exec_pickF (v:=.bool true) _ _ _ rfl rfl rfl) ?_;go_frame;go_upto_region 3 with (fail);refine Rg.wl ?_;refine Rg.list_skip none rfl rfl (Rg.exec_store _ _ _ rfl _ rfl _ rfl (run_storeE 2 C2.out.c C2.out.f)) ?_;go_frame;have hk:=K.out.setCell (p:=⟨w.heap.size+1,0,none⟩) (by show w.heap.size≤w.heap.size+1; omega) (.int .i64 2);have y2:=C2.out.set (.int .i64 2)
  generalize w9.setCell ⟨w.heap.size+1,0,none⟩ (.int .i64 2)=w99 at *;have KX:=ι hk;have CX:=ι y2;have HCX:=ι (show ChC n OO RR 2 from .inl ⟨by omega,rfl⟩);clear hk y2;go_wp2;exact ck_leave (ds:=[]) KX.out CX.out HCX.out rfl (by simp) (fun D hD=>by simp at hD)
 go_upto_region 2 with (fail);refine Rg.wl ?_;refine Rg.lr 11 (Rg.exec_load (v:=.int .i64 n) _ _ rfl ⟨(w.heap.size+2),0,none⟩ rfl (run_loadInt C3.out.c)) ?_;go_frame;refine Rg.lr 12 (exec_bin (R:=.bool false) .lss _ _ _ rfl rfl rfl (b_lss _ Rg.dF)) ?_;go_frame;refine Rg.lm 13 (.bool false) ?_;go_frame;refine Rg.lW 14 (Rg.exec_load (v:=.int .i64 n) _ _ rfl ⟨(w.heap.size+2),0,none⟩ rfl (run_loadInt C3.out.c)) ?_;go_frame;refine Rg.lW 15 (exec_bin (R:=.bool false) .gtr _ _ _ rfl rfl rfl (b_gtr _ Rg.dF)) ?_;go_frame;refine Rg.lr 16 (exec_pickF (v:=.bool false) _ _ _ rfl rfl rfl) ?_;go_frame
 by_cases hl1:(OO.length:Int)=n
 case neg =>
  skip
  go_upto_region 4 with (fail);refine Rg.wl ?_;refine Rg.lr 17 (exec_field _ rfl rfl (chF1 _ _)) ?_;go_frame;refine Rg.lr 18 (Rg.exec_load (v:=.slice oa OO.length oc) _ _ rfl ⟨w.heap.size,1,none⟩ rfl (Rg.run_loadSl _ _ Tryz.underlying84 A1.out.cell)) ?_;go_frame;refine Rg.lr 19 (exec_len _ _ _ rfl Tryz.underlying84 _ _ _ rfl) ?_;go_frame;refine Rg.lr 20 (Rg.exec_load (v:=.int .i64 n) _ _ rfl ⟨(w.heap.size+2),0,none⟩ rfl (run_loadInt C3.out.c)) ?_;go_frame;refine Rg.lr 21 (exec_bin (R:=.bool true) .neq _ _ _ rfl rfl rfl (b_neqB _ Rg.dT)) ?_;go_frame;refine Rg.lm 22 (.bool true) ?_;go_frame;refine listW_pass (some 23) (by kernel_rfl) rfl ?_;go_frame;refine listW_pass (some 24) (by kernel_rfl) rfl ?_;go_frame;refine listW_pass (some 25) (by kernel_rfl) rfl ?_;go_frame;refine listW_pass (some 26) (by kernel_rfl) rfl ?_;go_frame;refine listW_pass (some 27) (by kernel_rfl) rfl ?_;go_frame
  refine Rg.lr 28 (exec_pickT (v:=.bool true) _ _ _ rfl rfl rfl) ?_;go_frame;go_upto_region 5 with (fail);refine Rg.wl ?_;refine Rg.list_skip none rfl rfl (Rg.exec_store _ _ _ rfl _ rfl _ rfl (run_storeE 3 C2.out.c C2.out.f)) ?_;go_frame;have hk:=K.out.setCell (p:=⟨w.heap.size+1,0,none⟩) (by show w.heap.size≤w.heap.size+1; omega) (.int .i64 3);have y2:=C2.out.set (.int .i64 3);generalize w9.setCell ⟨w.heap.size+1,0,none⟩ (.int .i64 3)=w99 at *;have KX:=ι hk;have CX:=ι y2;have HCX:=ι (show ChC n OO RR 3 from .inr ⟨by omega,.inr ⟨fun hh=>hl1 hh.lens.1,rfl⟩⟩);clear hk y2;go_wp2;exact ck_leave (ds:=[]) KX.out CX.out HCX.out rfl (by simp) (fun D hD=>by simp at hD)
 by_cases hl2:(RR.length:Int)=n
 case neg =>
  skip
  go_upto_region 4 with (fail);refine Rg.wl ?_;refine Rg.lr 17 (exec_field _ rfl rfl (chF1 _ _)) ?_;go_frame;refine Rg.lr 18 (Rg.exec_load (v:=.slice oa OO.length oc) _ _ rfl ⟨w.heap.size,1,none⟩ rfl (Rg.run_loadSl _ _ Tryz.underlying84 A1.out.cell)) ?_;go_frame;refine Rg.lr 19 (exec_len _ _ _ rfl Tryz.underlying84 _ _ _ rfl) ?_;go_frame;refine Rg.lr 20 (Rg.exec_load (v:=.int .i64 n) _ _ rfl ⟨(w.heap.size+2),0,none⟩ rfl (run_loadInt C3.out.c)) ?_;go_frame;refine Rg.lr 21 (exec_bin (R:=.bool false) .neq _ _ _ rfl rfl rfl (b_neqB _ Rg.dF)) ?_;go_frame;refine Rg.lm 22 (.bool false) ?_;go_frame;refine Rg.lW 23 (exec_field _ rfl rfl (chF2 _ _)) ?_;go_frame;refine Rg.lW 24 (Rg.exec_load (v:=.slice ra RR.length rc) _ _ rfl ⟨w.heap.size,2,none⟩ rfl (Rg.run_loadSl _ _ Tryz.underlying85 A2.out.cell)) ?_;go_frame;refine Rg.lW 25 (exec_len _ _ _ rfl Tryz.underlying85 _ _ _ rfl) ?_;go_frame
  refine Rg.lW 26 (Rg.exec_load (v:=.int .i64 n) _ _ rfl ⟨(w.heap.size+2),0,none⟩ rfl (run_loadInt C3.out.c)) ?_;go_frame;refine Rg.lW 27 (exec_bin (R:=.bool true) .neq _ _ _ rfl rfl rfl (b_neqB _ Rg.dT)) ?_;go_frame;refine Rg.lr 28 (exec_pickF (v:=.bool true) _ _ _ rfl rfl rfl) ?_;go_frame;go_upto_region 5 with (fail);refine Rg.wl ?_;refine Rg.list_skip none rfl rfl (Rg.exec_store _ _ _ rfl _ rfl _ rfl (run_storeE 3 C2.out.c C2.out.f)) ?_;go_frame;have hk:=K.out.setCell (p:=⟨w.heap.size+1,0,none⟩) (by show w.heap.size≤w.heap.size+1; omega) (.int .i64 3);have y2:=C2.out.set (.int .i64 3);generalize w9.setCell ⟨w.heap.size+1,0,none⟩ (.int .i64 3)=w99 at *;have KX:=ι hk;have CX:=ι y2;have HCX:=ι (show ChC n OO RR 3 from .inr ⟨by omega,.inr ⟨fun hh=>hl2 hh.lens.2,rfl⟩⟩);clear hk y2;go_wp2;exact ck_leave (ds:=[]) KX.out CX.out HCX.out rfl (by simp) (fun D hD=>by simp at hD)
 go_upto_region 4 with (fail);refine Rg.wl ?_;refine Rg.lr 17 (exec_field _ rfl rfl (chF1 _ _)) ?_;go_frame;refine Rg.lr 18 (Rg.exec_load (v:=.slice oa OO.length oc) _ _ rfl ⟨w.heap.size,1,none⟩ rfl (Rg.run_loadSl _ _ Tryz.underlying84 A1.out.cell)) ?_;go_frame;refine Rg.lr 19 (exec_len _ _ _ rfl Tryz.underlying84 _ _ _ rfl) ?_;go_frame;refine Rg.lr 20 (Rg.exec_load (v:=.int .i64 n) _ _ rfl ⟨(w.heap.size+2),0,none⟩ rfl (run_loadInt C3.out.c)) ?_;go_frame;refine Rg.lr 21 (exec_bin (R:=.bool false) .neq _ _ _ rfl rfl rfl (b_neqB _ Rg.dF)) ?_;go_frame;refine Rg.lm 22 (.bool false) ?_;go_frame;refine Rg.lW 23 (exec_field _ rfl rfl (chF2 _ _)) ?_;go_frame;refine Rg.lW 24 (Rg.exec_load (v:=.slice ra RR.length rc) _ _ rfl ⟨w.heap.size,2,none⟩ rfl (Rg.run_loadSl _ _ Tryz.underlying85 A2.out.cell)) ?_;go_frame;refine Rg.lW 25 (exec_len _ _ _ rfl Tryz.underlying85 _ _ _ rfl) ?_;go_frame
 refine Rg.lW 26 (Rg.exec_load (v:=.int .i64 n) _ _ rfl ⟨(w.heap.size+2),0,none⟩ rfl (run_loadInt C3.out.c)) ?_;go_frame;refine Rg.lW 27 (exec_bin (R:=.bool false) .neq _ _ _ rfl rfl rfl (b_neqB _ Rg.dF)) ?_;go_frame;refine Rg.lr 28 (exec_pickF (v:=.bool false) _ _ _ rfl rfl rfl) ?_;go_frame;obtain ⟨N,rfl⟩:∃ N:Nat,n=N:=⟨n.toNat,by omega⟩
 have hN1:1≤N:=by omega
 have hN2:N≤64:=by omega
 have HLO:=ι (show OO.length=N by omega);have HLR:=ι (show RR.length=N by omega);clear hl1 hl2 hd1 hd2;go_upto_region 6 with (fail);refine Rg.wl ?_;have hnw:=CW.new w9 (.slice none 0 0) 22
 have hs:(w9.alloc (.cells #[.slice none 0 0] 22)).heap.size=w9.heap.size+1:=by simp
 refine Rg.lr 4 (exec_allocPs rfl) ?_;go_frame;have hb:=(Below.refl w9.heap.size w9).alloc (Nat.le_refl _) (.cells #[.slice none 0 0] 22);generalize w9.alloc (.cells #[.slice none 0 0] 22)=w10 at *;replace A0:=ι (A0.out.below hb);replace A1:=ι (A1.out.below hb);replace A2:=ι (A2.out.below hb);replace C2:=ι (C2.out.below hb);replace C3:=ι (C3.out.below hb);replace K:=ι (Rg.acc K.out hb);clear hb;rw [hs4] at hnw ⊢
 have hs5:w10.heap.size=w.heap.size+4:=by omega
 have C4:=ι hnw;clear hnw hs;have CI:=ι (show CkI w ((N:Nat):Int) (.slice oa OO.length oc) (.slice ra RR.length rc) w10 (.slice none 0 0) [] from ⟨K.out,A0.out,A1.out,A2.out,C2.out,C3.out,C4.out,RowF.nil _ (by omega)⟩);have HSZ:=ι hs5;clear A0 A1 A2 C2 C3 C4 hs1 hs2 hs3 hs4 hs5;go_upto_region 7 with (fail);refine Rg.wl ?_;refine Rg.lr 29 (Rg.exec_load (v:=(.agg #[.int .i64 ((N:Nat):Int),.slice oa OO.length oc,.slice ra RR.length rc])) _ _ rfl ⟨w.heap.size,0,none⟩ rfl (run_loadC3 CI.out.a0.cell CI.out.a1.cell CI.out.a2.cell)) ?_;go_frame;refine Rg.lk 30 (exec_fn1 126 _ _ rfl rfl (Wvcl0 _ _)) ?_;refine (reps_any _ _ _ w10).mono ?_;rintro e1 w11 ⟨fb,rfl,hfb,hb⟩;have hsz:=hb.size;refine ⟨_,rfl,?_⟩;go_frame;replace CI:=ι (CI.out.below hb);replace K:=ι (Rg.acc K.out hb);clear hb;have FB:=ι hfb;clear hfb;have HS0:=ι (show w.heap.size+4≤w11.heap.size by have:=HSZ.out; omega)
 clear hsz;obtain ⟨us,hus,hul,hur⟩:=HR.out;have HUR:=ι hur
 have hrv:RV3 w.heap.size w11 ra RR.length (fun k=>us[k]?.getD undef):=by
  obtain ⟨a',c',e,q1,q2,q3,q4⟩:=hus
  injection e with e1 e2 e3
  refine ⟨by omega,fun h0=>?_,fun b off e5 j hj=>?_,K.out.size⟩
  ·obtain ⟨b,o,e4,e5,_⟩:=q4 (by omega)
   exact ⟨b,o,e1.trans e4,e5⟩
  ·obtain ⟨b',o',e4,e6,e7⟩:=q4 (by omega)
   rw [e1,e4] at e5;simp only [Option.some.injEq,Addr.mk.injEq,and_true] at e5;obtain ⟨rfl,rfl⟩:=e5;rw [(K.out.cell (p:=⟨b',o'+j,none⟩) e6)];show _=some (us[j]?.getD undef);rw [List.getElem?_eq_getElem (by omega)];exact e7 j (by omega)
 have HRV:=ι hrv;have HUL:=ι hul;clear hus hrv hul hur;go_wp2
 refine range_reps rfl FB.out HRV.out rfl (fun pre W=>∃ v gs,CkI w ((N:Nat):Int) (.slice oa OO.length oc) (.slice ra RR.length rc) W v gs∧gs.map Ma.ofN=pre.flatMap (rowOf RR)∧(∀ g∈gs,Cm.Gd N g)∧gs.length≤64*pre.length)
  (fun c pre W=>c=.ret∧Below w.heap.size w W∧CW W (w.heap.size+1) (.int .i64 3)∧¬ ChOK ((N:Nat):Int) OO RR) ?hI ?hIx ⟨_,[],CI.out,rfl,fun g hg=>by simp at hg,Nat.zero_le _⟩ ?a1 ?assign ?body ?done ?stop
 case assign =>
  intro l x W K hK
  gi_wp2
  exact hK
 case hI =>
  rintro pre W W' row ⟨v,gs,h1,h2⟩ hg hr;exact ⟨v,gs,h1.keep (by have:=HS0.out; omega) hg hr,h2⟩
 case hIx =>
  rintro c pre W W' row ⟨rfl,h1,h2,h3⟩ hg hr;exact ⟨rfl,h1.grown hg h1.size (fun k e=>by have:=(hr k e).1; have:=HS0.out; omega),h2.kp (Rg.Kp.of_grown hg (M:=fun k=>row=some k) fun _ e=>e) (fun e=>by have:=(hr _ e).1; have:=HS0.out; omega),h3⟩
 case body =>
  rintro l pre ⟨X,hX⟩ W ⟨v,gs,hci,hfl,hgg,hgl⟩ hpl;obtain ⟨B,hB⟩:∃ B,w11.heap.size=B:=⟨_,rfl⟩;rw [hB] at HS0 ⊢;clear FB HRV CI K hB;have CI:=ι hci;have K:=ι hci.bel;have KQ:=ι (KK.refl (B:=B) (n₀:=w.heap.size) (W:=W) hci.bel.size);have HFL:=ι hfl;have HGG:=ι hgg
  have HPRE:=ι (show gs.length≤64*64 by
   have:pre.length<64:=by have:=HLR.out; omega
   omega)
  have HXR:=ι hX;have HGLL:=ι hgl;have HXO:=ι (show X<OO.length by have:=HLO.out; have:=HLR.out; omega);clear hci hfl hgg hgl;have hu:=HUR.out X (by rw [HUL.out]; exact hX) hX
  have e1:us[X]?.getD undef=us[X]'(by rw [HUL.out]; exact hX):=by rw [List.getElem?_eq_getElem (by rw [HUL.out]; exact hX)]; rfl
  rw [← e1] at hu
  dsimp only
  generalize us[X]?.getD undef=u at *;clear e1;obtain ⟨r,hr⟩:∃ r:List (List Int),Hid (RR[X]'hX=r):=⟨_,ι rfl⟩
  replace hu:Rg.Rows w u r:=by rw [← hr.out]; exact hu
  obtain ⟨ua,uc,rfl,_,hrl,_,hrc⟩:=hu.shape;have HRC:=ι hrc;obtain ⟨o',hoo⟩:∃ o:List Int,Hid (OO[X]'HXO.out=o):=⟨_,ι rfl⟩;have hos:=HO.out.shape;obtain ⟨oa',oc',e2,_,_,_,hos⟩:=hos
  injection e2 with e3 _ e5
  subst e3 e5;obtain ⟨ob,oo,rfl,hob,hos⟩:=hos (by have:=HXO.out; omega);obtain ⟨yv,hyc,hyi⟩:=hos X HXO.out;rw [show OO[X]=o' from hoo.out] at hyi;obtain ⟨ya,yc,rfl,_⟩:=hyi.shape;have CO:=ι (CL.mk hyc hob);clear hrc hos hyc hyi hob hu
  by_cases hq1:(r.length:Int)=(o'.length:Int)
  case neg =>
   skip
   gi_upto_region 10 with (fail)
   refine wpIn_region_list ?_;refine Rg.in_run (some 33) rfl rfl (fun _ hh=>by cases hh) (Rg.xm (.slice ua r.length uc) _ rfl rfl) ?_;go_frame;refine Rg.in_run (some 34) rfl rfl (fun _ hh=>by cases hh) (exec_len _ _ _ rfl Tryz.underlying22 _ _ _ rfl) ?_;go_frame;refine Rg.in_run (some 35) rfl rfl (fun _ hh=>by cases hh) (exec_field _ rfl rfl (chF1 _ _)) ?_;go_frame;refine Rg.in_run (some 36) rfl rfl (fun _ hh=>by cases hh) (Rg.exec_load (v:=.slice (some ⟨ob,oo,none⟩) OO.length oc) _ _ rfl ⟨w.heap.size,1,none⟩ rfl (Rg.run_loadSl _ _ Tryz.underlying84 CI.out.a1.cell)) ?_;go_frame;refine Rg.in_run (some 37) rfl rfl (fun _ hh=>by cases hh) (Rg.xm (.int .i64 ((X:Nat):Int)) _ rfl rfl) ?_;go_frame;refine Rg.in_run (some 38) rfl rfl (fun _ hh=>by cases hh) (exec_indexS slIntss _ _ rfl ob (oo) (OO.length) oc (X) rfl rfl HXO.out) ?_;go_frame;refine Rg.in_run (some 39) rfl rfl (fun _ hh=>by cases hh) (Rg.exec_load (v:=.slice ya o'.length yc) _ _ rfl ⟨ob,oo+X,none⟩ rfl (Rg.run_loadSl _ _ Tryz.underlying25 ((Below.cell (p:=⟨ob,oo+X,none⟩) K.out CO.out.lt).trans CO.out.cell))) ?_;go_frame
   refine Rg.in_run (some 40) rfl rfl (fun _ hh=>by cases hh) (exec_len _ _ _ rfl Tryz.underlying25 _ _ _ rfl) ?_;go_frame;refine Rg.in_run (some 41) rfl rfl (fun _ hh=>by cases hh) (exec_bin (R:=.bool true) .neq _ _ _ rfl rfl rfl (b_neqB _ Rg.dT)) ?_;go_frame;refine Rg.in_run (some 42) rfl rfl (fun _ hh=>by cases hh) (Rg.xm (.bool true) _ rfl rfl) ?_;go_frame;refine Rg.inW_pass (some 43) (by kernel_rfl) rfl ?_;go_frame;refine Rg.inW_pass (some 44) (by kernel_rfl) rfl ?_;go_frame;refine Rg.inW_pass (some 45) (by kernel_rfl) rfl ?_;go_frame;refine Rg.inW_pass (some 46) (by kernel_rfl) rfl ?_;go_frame;refine Rg.inW_pass (some 47) (by kernel_rfl) rfl ?_;go_frame;refine Rg.inW_pass (some 48) (by kernel_rfl) rfl ?_;go_frame;refine Rg.in_run (some 49) rfl rfl (fun _ hh=>by cases hh) (exec_pickT (v:=.bool true) _ _ _ rfl rfl rfl) ?_;go_frame
   gi_upto_region 11 with (fail)
   refine wpIn_region_list ?_;refine Rg.in_skip none rfl rfl (fun _ hh=>by cases hh) (Rg.exec_store _ _ _ rfl _ rfl _ rfl (run_storeE 3 CI.out.c2.c CI.out.c2.f)) ?_;go_frame;have hk:=K.out.setCell (p:=⟨w.heap.size+1,0,none⟩) (by show w.heap.size≤w.heap.size+1; omega) (.int .i64 3);have y2:=CI.out.c2.set (.int .i64 3);have hq:=KQ.out.set (b:=w.heap.size+1) (o:=0) (.int .i64 3) (by omega);generalize W.setCell ⟨w.heap.size+1,0,none⟩ (.int .i64 3)=w99 at *;have KX:=ι hk;have CX:=ι y2;have QX:=ι hq;have HNX:=ι (show ¬ ChOK ((N:Nat):Int) OO RR from fun hh=>by have:=(hh.row HXR.out HXO.out).1; rw [show RR[X]=r from hr.out,show OO[X]=o' from hoo.out] at this; omega);clear hk y2 hq
   gi_wp2
   exact ⟨QX.out.keeps,rfl,KX.out,CX.out,HNX.out⟩
  by_cases hq2:(N:Int) - (X:Int)<(r.length:Int)
  case pos =>
   skip
   gi_upto_region 10 with (fail)
   refine wpIn_region_list ?_;refine Rg.in_run (some 33) rfl rfl (fun _ hh=>by cases hh) (Rg.xm (.slice ua r.length uc) _ rfl rfl) ?_;go_frame;refine Rg.in_run (some 34) rfl rfl (fun _ hh=>by cases hh) (exec_len _ _ _ rfl Tryz.underlying22 _ _ _ rfl) ?_;go_frame;refine Rg.in_run (some 35) rfl rfl (fun _ hh=>by cases hh) (exec_field _ rfl rfl (chF1 _ _)) ?_;go_frame;refine Rg.in_run (some 36) rfl rfl (fun _ hh=>by cases hh) (Rg.exec_load (v:=.slice (some ⟨ob,oo,none⟩) OO.length oc) _ _ rfl ⟨w.heap.size,1,none⟩ rfl (Rg.run_loadSl _ _ Tryz.underlying84 CI.out.a1.cell)) ?_;go_frame;refine Rg.in_run (some 37) rfl rfl (fun _ hh=>by cases hh) (Rg.xm (.int .i64 ((X:Nat):Int)) _ rfl rfl) ?_;go_frame;refine Rg.in_run (some 38) rfl rfl (fun _ hh=>by cases hh) (exec_indexS slIntss _ _ rfl ob (oo) (OO.length) oc (X) rfl rfl HXO.out) ?_;go_frame;refine Rg.in_run (some 39) rfl rfl (fun _ hh=>by cases hh) (Rg.exec_load (v:=.slice ya o'.length yc) _ _ rfl ⟨ob,oo+X,none⟩ rfl (Rg.run_loadSl _ _ Tryz.underlying25 ((Below.cell (p:=⟨ob,oo+X,none⟩) K.out CO.out.lt).trans CO.out.cell))) ?_;go_frame
   refine Rg.in_run (some 40) rfl rfl (fun _ hh=>by cases hh) (exec_len _ _ _ rfl Tryz.underlying25 _ _ _ rfl) ?_;go_frame;refine Rg.in_run (some 41) rfl rfl (fun _ hh=>by cases hh) (exec_bin (R:=.bool false) .neq _ _ _ rfl rfl rfl (b_neqB _ Rg.dF)) ?_;go_frame;refine Rg.in_run (some 42) rfl rfl (fun _ hh=>by cases hh) (Rg.xm (.bool false) _ rfl rfl) ?_;go_frame;refine Rg.inW_run (some 43) rfl rfl (fun _ hh=>by cases hh) (Rg.xm (.slice ua r.length uc) _ rfl rfl) ?_;go_frame;refine Rg.inW_run (some 44) rfl rfl (fun _ hh=>by cases hh) (exec_len _ _ _ rfl Tryz.underlying22 _ _ _ rfl) ?_;go_frame;refine Rg.inW_run (some 45) rfl rfl (fun _ hh=>by cases hh) (Rg.exec_load (v:=.int .i64 ((N:Nat):Int)) _ _ rfl ⟨(w.heap.size+2),0,none⟩ rfl (run_loadInt CI.out.c3.c)) ?_;go_frame;refine Rg.inW_run (some 46) rfl rfl (fun _ hh=>by cases hh) (Rg.xm (.int .i64 ((X:Nat):Int)) _ rfl rfl) ?_;go_frame
   refine Rg.inW_run (some 47) rfl rfl (fun _ hh=>by cases hh) (exec_bin (R:=.int .i64 ((N:Int) - (X:Int))) .sub _ _ _ rfl rfl rfl (b_sub _ (by omega) (by omega))) ?_;go_frame;refine Rg.inW_run (some 48) rfl rfl (fun _ hh=>by cases hh) (exec_bin (R:=.bool true) .gtr _ _ _ rfl rfl rfl (b_gtr _ Rg.dT)) ?_;go_frame;refine Rg.in_run (some 49) rfl rfl (fun _ hh=>by cases hh) (exec_pickF (v:=.bool true) _ _ _ rfl rfl rfl) ?_;go_frame
   gi_upto_region 11 with (fail)
   refine wpIn_region_list ?_;refine Rg.in_skip none rfl rfl (fun _ hh=>by cases hh) (Rg.exec_store _ _ _ rfl _ rfl _ rfl (run_storeE 3 CI.out.c2.c CI.out.c2.f)) ?_;go_frame;have hk:=K.out.setCell (p:=⟨w.heap.size+1,0,none⟩) (by show w.heap.size≤w.heap.size+1; omega) (.int .i64 3);have y2:=CI.out.c2.set (.int .i64 3);have hq:=KQ.out.set (b:=w.heap.size+1) (o:=0) (.int .i64 3) (by omega);generalize W.setCell ⟨w.heap.size+1,0,none⟩ (.int .i64 3)=w99 at *;have KX:=ι hk;have CX:=ι y2;have QX:=ι hq;have HNX:=ι (show ¬ ChOK ((N:Nat):Int) OO RR from fun hh=>by have:=(hh.row HXR.out HXO.out).2; rw [show RR[X]=r from hr.out] at this; omega);clear hk y2 hq
   gi_wp2
   exact ⟨QX.out.keeps,rfl,KX.out,CX.out,HNX.out⟩
  gi_upto_region 10 with (fail)
  refine wpIn_region_list ?_;refine Rg.in_run (some 33) rfl rfl (fun _ hh=>by cases hh) (Rg.xm (.slice ua r.length uc) _ rfl rfl) ?_;go_frame;refine Rg.in_run (some 34) rfl rfl (fun _ hh=>by cases hh) (exec_len _ _ _ rfl Tryz.underlying22 _ _ _ rfl) ?_;go_frame;refine Rg.in_run (some 35) rfl rfl (fun _ hh=>by cases hh) (exec_field _ rfl rfl (chF1 _ _)) ?_;go_frame;refine Rg.in_run (some 36) rfl rfl (fun _ hh=>by cases hh) (Rg.exec_load (v:=.slice (some ⟨ob,oo,none⟩) OO.length oc) _ _ rfl ⟨w.heap.size,1,none⟩ rfl (Rg.run_loadSl _ _ Tryz.underlying84 CI.out.a1.cell)) ?_;go_frame;refine Rg.in_run (some 37) rfl rfl (fun _ hh=>by cases hh) (Rg.xm (.int .i64 ((X:Nat):Int)) _ rfl rfl) ?_;go_frame;refine Rg.in_run (some 38) rfl rfl (fun _ hh=>by cases hh) (exec_indexS slIntss _ _ rfl ob (oo) (OO.length) oc (X) rfl rfl HXO.out) ?_;go_frame;refine Rg.in_run (some 39) rfl rfl (fun _ hh=>by cases hh) (Rg.exec_load (v:=.slice ya o'.length yc) _ _ rfl ⟨ob,oo+X,none⟩ rfl (Rg.run_loadSl _ _ Tryz.underlying25 ((Below.cell (p:=⟨ob,oo+X,none⟩) K.out CO.out.lt).trans CO.out.cell))) ?_;go_frame
  refine Rg.in_run (some 40) rfl rfl (fun _ hh=>by cases hh) (exec_len _ _ _ rfl Tryz.underlying25 _ _ _ rfl) ?_;go_frame;refine Rg.in_run (some 41) rfl rfl (fun _ hh=>by cases hh) (exec_bin (R:=.bool false) .neq _ _ _ rfl rfl rfl (b_neqB _ Rg.dF)) ?_;go_frame;refine Rg.in_run (some 42) rfl rfl (fun _ hh=>by cases hh) (Rg.xm (.bool false) _ rfl rfl) ?_;go_frame;refine Rg.inW_run (some 43) rfl rfl (fun _ hh=>by cases hh) (Rg.xm (.slice ua r.length uc) _ rfl rfl) ?_;go_frame;refine Rg.inW_run (some 44) rfl rfl (fun _ hh=>by cases hh) (exec_len _ _ _ rfl Tryz.underlying22 _ _ _ rfl) ?_;go_frame;refine Rg.inW_run (some 45) rfl rfl (fun _ hh=>by cases hh) (Rg.exec_load (v:=.int .i64 ((N:Nat):Int)) _ _ rfl ⟨(w.heap.size+2),0,none⟩ rfl (run_loadInt CI.out.c3.c)) ?_;go_frame;refine Rg.inW_run (some 46) rfl rfl (fun _ hh=>by cases hh) (Rg.xm (.int .i64 ((X:Nat):Int)) _ rfl rfl) ?_;go_frame
  refine Rg.inW_run (some 47) rfl rfl (fun _ hh=>by cases hh) (exec_bin (R:=.int .i64 ((N:Int) - (X:Int))) .sub _ _ _ rfl rfl rfl (b_sub _ (by omega) (by omega))) ?_;go_frame;refine Rg.inW_run (some 48) rfl rfl (fun _ hh=>by cases hh) (exec_bin (R:=.bool false) .gtr _ _ _ rfl rfl rfl (b_gtr _ Rg.dF)) ?_;go_frame;refine Rg.in_run (some 49) rfl rfl (fun _ hh=>by cases hh) (exec_pickF (v:=.bool false) _ _ _ rfl rfl rfl) ?_;go_frame;have HG0:=ι (show gs.map Ma.ofN=gs.map Ma.ofN++r.take 0 by simp);have HL0:=ι (show gs.length≤gs.length+0 from Nat.le_refl _)
  gi_wp2
  gi_loopw [52] (fun jv wr=>∃ (j:Nat) (v:Value) (gs':List (List Nat)),jv=.int .i64 j∧j≤r.length∧Hid (CkI w ((N:Nat):Int) (.slice (some ⟨ob,oo,none⟩) OO.length oc) (.slice ra RR.length rc) wr v gs')∧Hid (KK B w.heap.size W wr)∧Hid (gs'.map Ma.ofN=gs.map Ma.ofN++r.take j)∧Hid (∀ g∈gs',Cm.Gd N g)∧Hid (gs'.length≤gs.length+j)) (fun jv _=>r.length - (intOf jv).toNat)
  case atStart=>exact ⟨0,_,_,rfl,Nat.zero_le _,CI,KQ,HG0,HGG,HL0⟩
  case round =>
   clear CI KQ HG0 HGG HL0 K;obtain ⟨j,v,gs',rfl,hj,CI,KQ,HG0,HGG,HL0⟩:=hrel;have K:=ι CI.out.bel;obtain ⟨va,vc,hsv⟩:=CI.out.row.shape;subst hsv
   by_cases hjl:j<r.length
   ·have hjN:(j:Int)<(r.length:Int):=by omega
    have HJL:=ι hjl;obtain ⟨ub,uo,rfl,hub,huc⟩:=HRC.out (by omega);obtain ⟨xv,hxc,hxi⟩:=huc j hjl;obtain ⟨x,hx⟩:∃ x:List Int,Hid (r[j]'hjl=x):=⟨_,ι rfl⟩
    replace hxi:Rg.Ints w xv x:=by rw [← hx.out]; exact hxi
    obtain ⟨xa,xc,rfl,_⟩:=hxi.shape
    have hxl:x.length≤1000000000:=by obtain ⟨m',a',c',e',_,e2'⟩:=hxi.len; omega
    have CX:=ι (CL.mk hxc hub);have XU:=ι hxi;have HXM:=ι (show x∈RR[X]'HXR.out by rw [show RR[X]'HXR.out=r from hr.out,← hx.out]; exact List.getElem_mem hjl);have HPS:=ι (show gs'.length<1000000 by have:=HL0.out; have:=HPRE.out; omega);clear huc hxc hxi hub
    gi_upto_region 14 with (fail)
    refine wpIn_region_list ?_;refine Rg.in_run (some 54) rfl rfl (fun _ hh=>by cases hh) (exec_indexS slPerms _ _ rfl ub (uo) (r.length) uc (j) rfl rfl HJL.out) ?_;go_frame;refine Rg.in_run (some 55) rfl rfl (fun _ hh=>by cases hh) (Rg.exec_load (v:=.slice xa x.length xc) _ _ rfl ⟨ub,uo+j,none⟩ rfl (Rg.run_loadSl _ _ Tryz.underlying30 ((Below.cell (p:=⟨ub,uo+j,none⟩) K.out CX.out.lt).trans CX.out.cell))) ?_;go_frame;refine Rg.in_run (some 8) rfl rfl (fun _ hh=>by cases hh) (Rg.xa (.slice xa x.length xc) _ rfl rfl) ?_;go_frame
    by_cases hp1:(x.length:Int)=(N:Int)
    case neg =>
     skip
     gi_upto_region 15 with (fail)
     refine wpIn_region_list ?_;refine Rg.in_run (some 56) rfl rfl (fun _ hh=>by cases hh) (Rg.xm (.slice xa x.length xc) _ rfl rfl) ?_;go_frame;refine Rg.in_run (some 57) rfl rfl (fun _ hh=>by cases hh) (exec_len _ _ _ rfl Tryz.underlying30 _ _ _ rfl) ?_;go_frame;refine Rg.in_run (some 58) rfl rfl (fun _ hh=>by cases hh) (Rg.exec_load (v:=.int .i64 ((N:Nat):Int)) _ _ rfl ⟨(w.heap.size+2),0,none⟩ rfl (run_loadInt CI.out.c3.c)) ?_;go_frame;refine Rg.in_run (some 59) rfl rfl (fun _ hh=>by cases hh) (exec_bin (R:=.bool true) .neq _ _ _ rfl rfl rfl (b_neqB _ Rg.dT)) ?_;go_frame;refine Rg.in_run (some 60) rfl rfl (fun _ hh=>by cases hh) (Rg.xm (.bool true) _ rfl rfl) ?_;go_frame;refine Rg.inW_pass (some 61) (by kernel_rfl) rfl ?_;go_frame;refine Rg.inW_pass (some 62) (by kernel_rfl) rfl ?_;go_frame;refine Rg.inW_pass (some 63) (by kernel_rfl) rfl ?_;go_frame;refine Rg.in_run (some 64) rfl rfl (fun _ hh=>by cases hh) (exec_pickT (v:=.bool true) _ _ _ rfl rfl rfl) ?_;go_frame
     gi_upto_region 16 with (fail)
     refine wpIn_region_list ?_;refine Rg.in_skip none rfl rfl (fun _ hh=>by cases hh) (Rg.exec_store _ _ _ rfl _ rfl _ rfl (run_storeE 3 CI.out.c2.c CI.out.c2.f)) ?_;go_frame;have hk:=K.out.setCell (p:=⟨w.heap.size+1,0,none⟩) (by show w.heap.size≤w.heap.size+1; omega) (.int .i64 3);have y2:=CI.out.c2.set (.int .i64 3);have hq:=KQ.out.set (b:=w.heap.size+1) (o:=0) (.int .i64 3) (by omega);generalize wr.setCell ⟨w.heap.size+1,0,none⟩ (.int .i64 3)=w99 at *;have KX:=ι hk;have CX:=ι y2;have QX:=ι hq;have HNX:=ι (show ¬ ChOK ((N:Nat):Int) OO RR from fun hh=>hp1 (hh.perm HXR.out HXM.out).1);clear hk y2 hq
     gi_wp2
     exact ⟨QX.out.keeps,rfl,KX.out,CX.out,HNX.out⟩
    by_cases hp0:Ma.pchk x=0
    case neg =>
     skip
     gi_upto_region 15 with (fail)
     refine wpIn_region_list ?_;refine Rg.in_run (some 56) rfl rfl (fun _ hh=>by cases hh) (Rg.xm (.slice xa x.length xc) _ rfl rfl) ?_;go_frame;refine Rg.in_run (some 57) rfl rfl (fun _ hh=>by cases hh) (exec_len _ _ _ rfl Tryz.underlying30 _ _ _ rfl) ?_;go_frame;refine Rg.in_run (some 58) rfl rfl (fun _ hh=>by cases hh) (Rg.exec_load (v:=.int .i64 ((N:Nat):Int)) _ _ rfl ⟨(w.heap.size+2),0,none⟩ rfl (run_loadInt CI.out.c3.c)) ?_;go_frame;refine Rg.in_run (some 59) rfl rfl (fun _ hh=>by cases hh) (exec_bin (R:=.bool false) .neq _ _ _ rfl rfl rfl (b_neqB _ Rg.dF)) ?_;go_frame;refine Rg.in_run (some 60) rfl rfl (fun _ hh=>by cases hh) (Rg.xm (.bool false) _ rfl rfl) ?_;go_frame;refine Rg.inW_run (some 61) rfl rfl (fun _ hh=>by cases hh) (Rg.xm (.slice xa x.length xc) _ rfl rfl) ?_;go_frame;refine Rg.inW_ask (some 62) rfl rfl (fun _ hh=>by cases hh) _ _ (exec_fn1 75 _ _ rfl rfl (Wvcl1 _ _)) ?_
     refine (permCheck_any _ _ wr (XU.out.below K.out)).mono ?_;rintro e1 w41 ⟨rfl,hb⟩;refine ⟨_,rfl,?_⟩;go_frame;replace CI:=ι (CI.out.below hb);replace KQ:=ι (KQ.out.below hb);replace K:=ι (Rg.acc K.out hb);clear hb;refine Rg.inW_run (some 63) rfl rfl (fun _ hh=>by cases hh) (exec_bin (R:=.bool true) .neq _ _ _ rfl rfl rfl (b_neqB _ (decide_eq_true hp0))) ?_;go_frame;refine Rg.in_run (some 64) rfl rfl (fun _ hh=>by cases hh) (exec_pickF (v:=.bool true) _ _ _ rfl rfl rfl) ?_;go_frame
     gi_upto_region 16 with (fail)
     refine wpIn_region_list ?_;refine Rg.in_skip none rfl rfl (fun _ hh=>by cases hh) (Rg.exec_store _ _ _ rfl _ rfl _ rfl (run_storeE 3 CI.out.c2.c CI.out.c2.f)) ?_;go_frame;have hk:=K.out.setCell (p:=⟨w.heap.size+1,0,none⟩) (by show w.heap.size≤w.heap.size+1; omega) (.int .i64 3);have y2:=CI.out.c2.set (.int .i64 3);have hq:=KQ.out.set (b:=w.heap.size+1) (o:=0) (.int .i64 3) (by omega);generalize w41.setCell ⟨w.heap.size+1,0,none⟩ (.int .i64 3)=w99 at *;have KX:=ι hk;have CX:=ι y2;have QX:=ι hq;have HNX:=ι (show ¬ ChOK ((N:Nat):Int) OO RR from fun hh=>hp0 (hh.perm HXR.out HXM.out).2);clear hk y2 hq
     gi_wp2
     exact ⟨QX.out.keeps,rfl,KX.out,CX.out,HNX.out⟩
    gi_upto_region 15 with (fail)
    refine wpIn_region_list ?_;refine Rg.in_run (some 56) rfl rfl (fun _ hh=>by cases hh) (Rg.xm (.slice xa x.length xc) _ rfl rfl) ?_;go_frame;refine Rg.in_run (some 57) rfl rfl (fun _ hh=>by cases hh) (exec_len _ _ _ rfl Tryz.underlying30 _ _ _ rfl) ?_;go_frame;refine Rg.in_run (some 58) rfl rfl (fun _ hh=>by cases hh) (Rg.exec_load (v:=.int .i64 ((N:Nat):Int)) _ _ rfl ⟨(w.heap.size+2),0,none⟩ rfl (run_loadInt CI.out.c3.c)) ?_;go_frame;refine Rg.in_run (some 59) rfl rfl (fun _ hh=>by cases hh) (exec_bin (R:=.bool false) .neq _ _ _ rfl rfl rfl (b_neqB _ Rg.dF)) ?_;go_frame;refine Rg.in_run (some 60) rfl rfl (fun _ hh=>by cases hh) (Rg.xm (.bool false) _ rfl rfl) ?_;go_frame;refine Rg.inW_run (some 61) rfl rfl (fun _ hh=>by cases hh) (Rg.xm (.slice xa x.length xc) _ rfl rfl) ?_;go_frame;refine Rg.inW_ask (some 62) rfl rfl (fun _ hh=>by cases hh) _ _ (exec_fn1 75 _ _ rfl rfl (Wvcl1 _ _)) ?_
    refine (permCheck_any _ _ wr (XU.out.below K.out)).mono ?_;rintro e1 w41 ⟨rfl,hb⟩;refine ⟨_,rfl,?_⟩;go_frame;replace CI:=ι (CI.out.below hb);replace KQ:=ι (KQ.out.below hb);replace K:=ι (Rg.acc K.out hb);clear hb;refine Rg.inW_run (some 63) rfl rfl (fun _ hh=>by cases hh) (exec_bin (R:=.bool false) .neq _ _ _ rfl rfl rfl (b_neqB _ (decide_eq_false (fun e=>e hp0)))) ?_;go_frame;refine Rg.in_run (some 64) rfl rfl (fun _ hh=>by cases hh) (exec_pickF (v:=.bool false) _ _ _ rfl rfl rfl) ?_;go_frame;obtain ⟨q,hqx,hqo⟩:=Ma.okL_ofN (Ma.pchk_zero hp0).2.2;have HGQ:=ι (show Cm.Gd N q from ⟨hqo,by have:=congrArg List.length hqx; rw [Ma.len_ofN] at this; omega⟩);have HQX:=ι hqx;have HFQ:=ι (show FP (fun k=>k<w.heap.size) w (.slice xa x.length xc) q from FP.of_np (show Rg.NP w _ q by unfold Rg.NP; rw [← HQX.out]; exact XU.out));clear hqx hqo hp0
    gi_upto_region 17 with (fail)
    refine wpIn_region_list ?_;refine Rg.in_run (some 65) rfl rfl (fun _ hh=>by cases hh) (Rg.exec_load (v:=.slice va gs'.length vc) _ _ rfl ⟨(w.heap.size+3),0,none⟩ rfl (Rg.run_loadSl _ _ Tryz.underlying22 CI.out.c4.c)) ?_;go_frame;refine Rg.in_run (some 66) rfl rfl (fun _ hh=>by cases hh) (Rg.xm (.slice xa x.length xc) _ rfl rfl) ?_;go_frame;refine Rg.in_run (some 67) rfl rfl (fun _ hh=>by cases hh) (Rg.exec_buildSlice _ _ _ rfl (.slice xa x.length xc) rfl (run_build1P w41 _ ⟨_,_,_,rfl⟩)) ?_;go_frame;obtain ⟨a9,c9,X9,r1,r2,r3,r4⟩:=CI.out.row.pushK (fun k hk=>by omega) (HFQ.out.below K.out) ⟨_,_,_,rfl⟩ HPS.out 22;have hkb:=r3 (Nat.le_refl _) (Below.refl _ _);refine Rg.in_run (some 68) rfl rfl (fun _ hh=>by cases hh) (Rg.exec_append _ _ _ rfl rfl rfl r1) ?_;go_frame;have c4x:=CI.out.c4.upto hkb (by omega);refine Rg.in_skip none rfl rfl (fun _ hh=>by cases hh) (Rg.exec_store _ _ _ rfl _ rfl _ rfl (Rg.run_storeSl _ infoPermsV c4x.c c4x.f)) ?_;go_frame
    have hci2:=CI.out.store hkb r2;have hkq2:KK B w.heap.size W (X9.setCell ⟨w.heap.size+3,0,none⟩ (.slice a9 (gs'.length+1) c9)):=(KQ.out.row r4 CI.out.row (by omega)).set _ (by omega);generalize X9.setCell ⟨w.heap.size+3,0,none⟩ (.slice a9 (gs'.length+1) c9)=w98 at *;have CI2:=ι hci2;have KQ2:=ι hkq2
    have HG2:=ι (show (gs'++[q]).map Ma.ofN=gs.map Ma.ofN++r.take (j+1) by
     rw [List.map_append,HG0.out,List.take_succ_eq_append_getElem HJL.out,show r[j]=x from hx.out,HQX.out,List.append_assoc]; rfl)
    have HGG2:=ι (show ∀ g∈gs'++[q],Cm.Gd N g from fun g hg=>by
     rcases List.mem_append.1 hg with hg | hg
     ·exact HGG.out g hg
     ·rw [List.mem_singleton] at hg; rw [hg]; exact HGQ.out)
    have HL2:=ι (show (gs'++[q]).length≤gs.length+(j+1) by rw [List.length_append]; have:=HL0.out; simp; omega);clear hci2 hkq2 r1 r2 r3 r4 hkb c4x
    gi_wp2
    go_roundw
    case rel=>exact ⟨j+1,_,_,by go_num,HJL.out,CI2,KQ2,HG2,HGG2,HL2⟩
    case measure=>simp [intOf]; have:=HJL.out; omega
   ·obtain rfl:j=r.length:=by omega
    have hjN:¬ (r.length:Int)<(r.length:Int):=by omega
    have HFIN:=ι (show gs'.map Ma.ofN=(pre++[⟨X,HXR.out⟩]:List (Fin RR.length)).flatMap (rowOf RR) by
     have e:=HG0.out;rw [List.take_length] at e;rw [e,HFL.out,List.flatMap_append];simp only [List.flatMap_cons,List.flatMap_nil,List.append_nil]
     exact congrArg (pre.flatMap (rowOf RR)++·) ((getD_inf HXR.out).trans hr.out).symm)
    have HRLE:=ι (show gs'.length≤64*(pre.length+1) by have:=HL0.out; have:=HGLL.out; omega)
    gi_wp2
    exact ⟨KQ.out.keeps,KQ.out.bel,_,_,CI.out,HFIN.out,HGG.out,by rw [List.length_append]; exact HRLE.out⟩
 case stop =>
  rintro D c pre W hD ⟨rfl,h1,h2,h3⟩ hd;go_wp2;exact ck_leave (ds:=[D]) h1 h2 (.inr ⟨by omega,.inr ⟨h3,rfl⟩⟩) rfl (by simp) (fun D' hD'=>by simp at hD'; subst hD'; exact ⟨hd,by have:=HS0.out; omega⟩)
 case done =>
  rintro D Wd hD ⟨v,gs,hci,hfl,hgg,hgl⟩ hd;clear FB HRV CI K;rw [finTo_flat] at hfl;have HD:=ι (show w.heap.size≤D by have:=HS0.out; omega);have DF:=ι hd;have CI:=ι hci;have K:=ι hci.bel;have HFL:=ι hfl;have HGG:=ι hgg;have HGL:=ι (show gs.length≤1000000 by rw [finTo_len (Nat.le_refl _)] at hgl; have:=HLR.out; omega);obtain ⟨va,vc,hsv⟩:=hci.row.shape;subst hsv
  have GR:=ι (show Rg.Rows Wd (.slice va gs.length vc) (gs.map Ma.ofN) from by
   obtain ⟨us,q1,q2⟩:=hci.row.own
   exact Rg.Rows.of_row q1 (by have:=HGL.out; omega) q2.1 (fun i a b=>(q2.2 i a b).ints))
  have HH:=ι (show ChEqR Wd (.slice oa OO.length oc) (.slice ra RR.length rc) OO RR from ChEqR.upto H.out hci.bel);clear hci hfl hgg hgl hd;go_upto_region 19 with (fail);refine Rg.wp_onlyN ?_;have hV0:Below Wd.heap.size Wd Wd.drew:=(Below.refl _ _).drew;replace CI:=ι (CI.out.below hV0);replace GR:=ι (GR.out.below hV0);replace HH:=ι (HH.out.below hV0);replace DF:=ι (DF.out.below hV0);replace K:=ι (Rg.acc K.out hV0);clear hV0;refine Rg.Any.begin (S:=Rg.Both 6 (fun _=>True) (fun W=>Below Wd.drew.heap.size Wd.drew W)) mix ?_;generalize Wd.drew=w61 at *;have hS:∀ (l:Array Bool) W,Below w61.heap.size w61 W→Rg.Both 6 (fun _=>True) (fun W=>Below w61.heap.size w61 W) l W:=fun l W h=>⟨.inr trivial,h⟩;have hI:Below w61.heap.size w61 w61:=Below.refl _ _;refine Rg.tg 0 6 ((.agg #[.int .i64 ((N:Nat):Int),.slice oa OO.length oc,.slice ra RR.length rc])) 70 rfl rfl (Rg.yields_cell _ _ rfl rfl ⟨w.heap.size,0,none⟩ rfl (fun W hW=>run_loadC3 ((Below.cell (p:=⟨w.heap.size,0,none⟩) hW CI.out.a0.lt).trans CI.out.a0.cell) ((Below.cell (p:=⟨w.heap.size,1,none⟩) hW CI.out.a1.lt).trans CI.out.a1.cell) ((Below.cell (p:=⟨w.heap.size,2,none⟩) hW CI.out.a2.lt).trans CI.out.a2.cell))) (hS _ _ hI) ?_;go_frame
  refine Rg.tg 1 6 (.int .i64 ((N:Nat):Int)) 71 rfl rfl (Rg.yields_cell _ _ rfl rfl ⟨(w.heap.size+2),0,none⟩ rfl (fun W hW=>run_loadInt ((Below.cell (p:=⟨(w.heap.size+2),0,none⟩) hW CI.out.c3.lt).trans CI.out.c3.c))) (hS _ _ hI) ?_;go_frame;refine Rg.tg 2 6 (.slice va gs.length vc) 72 rfl rfl (Rg.yields_cell _ _ rfl rfl ⟨(w.heap.size+3),0,none⟩ rfl (fun W hW=>Rg.run_loadSl _ _ Tryz.underlying22 ((Below.cell (p:=⟨(w.heap.size+3),0,none⟩) hW CI.out.c4.lt).trans CI.out.c4.c))) (hS _ _ hI) ?_;go_frame;refine Rg.Any.one (i:=3) (by kernel_rfl) (Rg.Any.ask (some 73) rfl rfl rfl _ _ (exec_fn 97 _ _ _ rfl rfl rfl (Wbcl1 _ _)) ?_);refine (build_b hN1 hN2 GR.out HGG.out HGL.out).mono ?_;rintro e1 w62 ⟨tb,L,F1,T1,V1,rfl,hT1,hc01,hc11,hB1,hb⟩;have HB:=ι hB1;have hI2_0:=Rg.acc hI hb;clear hb hI;refine ⟨_,rfl,(hS _ _ hI2_0),?_⟩;go_frame;have HT:=ι hT1;have C0:=ι hc01
  have C1:=ι hc11;clear hT1 hc01 hc11 hB1;refine Rg.Any.one (i:=4) (by kernel_rfl) (Rg.Any.ask (some 74) rfl rfl rfl _ _ (exec_fn1 98 _ _ rfl rfl (Wbcl2 _ _)) ?_);refine (chain_any hN1 hN2 HT.out C0.out C1.out (Cm.Gr.isG HGG.out) (HB.out.isTr (by omega) HGG.out) (fun j hj=>(HB.out.full j hj).1)).mono ?_;rintro e1 w63 ⟨ov2,rv2,O2,R2,rfl,hO,hR,hCh,hb⟩;have HCH:=ι hCh;have HE2:=ChEqR.mk hO.rows hR.rows;clear hO hR hCh;have hI3_0:=Rg.acc hI2_0 hb;have hI3_1:=hb;clear hb hI2_0;refine ⟨_,rfl,(hS _ _ hI3_0),?_⟩;go_frame;have HF:=ι HE2;clear HE2;obtain ⟨bS,hbS⟩:∃ b,Hid (decide (((N:Nat):Int)=((N:Nat):Int)∧OO=O2.map Ma.ofN∧RR=R2.map (List.map Ma.ofN))=b):=⟨_,ι rfl⟩;refine Rg.Any.one (i:=5) (by kernel_rfl) (Rg.Any.ask (some 75) rfl rfl rfl _ _ (exec_fn 127 _ _ _ rfl rfl rfl (Wvcl4 _ _)) ?_);refine (chSame_b (HH.out.below hI3_0) HF.out hbS).mono ?_
  rintro e1 w64 ⟨rfl,hb⟩;have hI4_0:=Rg.acc hI3_1 hb;have hI4_1:=Rg.acc hI3_0 hb;have hI4_2:=hb;clear hb hI3_1 hI3_0;refine ⟨_,rfl,(hS _ _ hI4_1),?_⟩;go_frame;refine Rg.Any.one (i:=6) (by kernel_rfl) (Rg.Any.run (some 76) rfl rfl rfl (exec_not _ _ bS rfl rfl) (hS _ _ hI4_1) ?_);go_frame;refine Rg.Any.done (by kernel_rfl) ?_ _;refine Rg.onlyN_i ?_;replace CI:=ι (CI.out.below hI4_1);replace GR:=ι (GR.out.below hI4_1);replace HH:=ι (HH.out.below hI4_1);replace DF:=ι (DF.out.below hI4_1);replace HT:=ι (HT.out.below hI4_0);replace C0:=ι (C0.out.below hI4_0);replace C1:=ι (C1.out.below hI4_0);replace HF:=ι (HF.out.below hI4_2);replace K:=ι (Rg.acc K.out hI4_1);clear hS hI4_0 hI4_1 hI4_2;have HOK:=ι (ChOK.same (OO:=OO) (RR:=RR) hN1 hN2 HGG.out HFL.out.symm HCH.out)
  cases bS with
  | false =>
   have C2:=ι CI.out.c2;go_upto_region 20 with (fail);refine Rg.wl ?_;refine Rg.list_skip none rfl rfl (Rg.exec_store _ _ _ rfl _ rfl _ rfl (run_storeE 3 C2.out.c C2.out.f)) ?_;go_frame;have hk:=K.out.setCell (p:=⟨w.heap.size+1,0,none⟩) (by show w.heap.size≤w.heap.size+1; omega) (.int .i64 3);have y2:=C2.out.set (.int .i64 3);have hdd:=RF.Dfr.setCell DF.out ⟨w.heap.size+1,0,none⟩ (.int .i64 3);generalize w64.setCell ⟨w.heap.size+1,0,none⟩ (.int .i64 3)=w99 at *;have KX:=ι hk;have CX:=ι y2;have DX:=ι hdd;have HCX:=ι (show ChC ((N:Nat):Int) OO RR 3 from .inr ⟨by omega,.inr ⟨fun hh=>(of_decide_eq_false hbS.out) ⟨rfl,HOK.out.1 hh⟩,rfl⟩⟩);clear hk y2 hdd;go_wp2;exact ck_leave (ds:=[D]) KX.out CX.out HCX.out rfl (by simp) (fun D' hD'=>by simp at hD'; subst hD'; exact ⟨DX.out,HD.out⟩)
  | true =>
   have C2:=ι CI.out.c2;go_upto_region 21 with (fail);refine Rg.wl ?_;refine Rg.list_skip none rfl rfl (Rg.exec_store _ _ _ rfl _ rfl _ rfl (run_storeE 0 C2.out.c C2.out.f)) ?_;go_frame;have hk:=K.out.setCell (p:=⟨w.heap.size+1,0,none⟩) (by show w.heap.size≤w.heap.size+1; omega) (.int .i64 0);have y2:=C2.out.set (.int .i64 0);have hdd:=RF.Dfr.setCell DF.out ⟨w.heap.size+1,0,none⟩ (.int .i64 0);generalize w64.setCell ⟨w.heap.size+1,0,none⟩ (.int .i64 0)=w99 at *;have KX:=ι hk;have CX:=ι y2;have DX:=ι hdd;have HCX:=ι (show ChC ((N:Nat):Int) OO RR 0 from ChC.of (HOK.out.2 (of_decide_eq_true hbS.out).2));clear hk y2 hdd;go_wp2;exact ck_leave (ds:=[D]) KX.out CX.out HCX.out rfl (by simp) (fun D' hD'=>by simp at hD'; subst hD'; exact ⟨DX.out,HD.out⟩)
end Go.Proofs.YtdnmmibchbceeaaGreat

namespace Go.Proofs.YtdnmmibchbceeaaGreat
open Go.RowKit
open Go.Proofs
open Go.Proofs.Ob
attribute [local irreducible] Go.Calls Go.wpList
theorem infoU8:(Tryz.prog.info? 5).map (fun i=>(i.zero,i.size,i.bytes))=some (some (.int .u8 0),1,1):=by kernel_rfl
theorem slBytes:Rg.SlT Tryz.prog 130 5 (.int .u8 0) 1:=⟨Tryz.underlying130,infoU8,rfl,by decide⟩

theorem exec_convIU {o:Oper} {a:Act} {w:World} (x:Operand) (ho:o.op=.convert 3 5 x) {n:Int} (hx:a.eval x=.int .i64 n) (hb:0≤n∧n<256):(execOp a.eval o).run Tryz.prog w=.ok (.value (.int .u8 n)) w:=by
 have e:IntKind.u8.wrap n=n:=by
  have h2:IntKind.u8.wrap n=n % 256:=rfl;rw [h2]; omega
 have h:(convert 3 5 (.int .i64 n)).run Tryz.prog w=.ok (.int .u8 n) w:=by
  simp [convert,run_underlying Tryz.underlying5,run_underlying Tryz.underlying3,Conv.intToInt,e]
 unfold execOp;simp only [ho,hx,Sem.run_bind,Sem.run_pure,h,Result.andThen_ok]

theorem RowsB.low {B:Nat} {w w':World} {v:Value} {ll:List (List Int)} (h:Rg.RowsB B w v ll) (hb:Below w.heap.size w w'):Rg.RowsB B w' v ll:=h.below hb

theorem rowsI_get {w:World} {a:Option Addr} {n c:Nat} {T:List (List Int)} (h:Rg.Rows w (.slice a n c) T) {i:Nat} (hi:i<T.length):∃ b o ua uc,a=some ⟨b,o,none⟩∧b<w.heap.size∧w.cell? ⟨b,o+i,none⟩=some (.slice ua T[i].length uc)∧Rg.Ints w (.slice ua T[i].length uc) T[i]:=by
 obtain ⟨a',c',e,-,-,-,hx⟩:=h.shape;simp only [Value.slice.injEq] at e;obtain ⟨rfl,rfl,rfl⟩:=e;obtain ⟨b,o,e1,e2,e3⟩:=hx (by omega);obtain ⟨u,h1,h2⟩:=e3 i hi;obtain ⟨ua,uc,rfl,-⟩:=h2.shape;exact ⟨b,o,ua,uc,e1,e2,h1,h2⟩
end Go.Proofs.YtdnmmibchbceeaaGreat

namespace Go.Proofs.YtdnmmibchbceeaaGreat
open Go.RowKit
open Go.Proofs
open Go.Proofs.Ob
open Go.Shelf
open Go.Proofs.Cm (Tr)
attribute [local go_sem] Oper.semAt_some
attribute [local irreducible] Go.Calls Go.wpList Go.wpListIn
theorem exec_boxV {P:Program} {o:Oper} {a:Act} {w:World} {v:Value} (t:TypeId) (x:Operand) (ho:o.op=.box t x) (hx:a.eval x=v) (hv:v.cells=#[v]) :
  (execOp a.eval o).run P w=.ok (.value (.pointer (some ⟨w.heap.size,0,none⟩))) (w.alloc (.cells #[v] t)):=by
 unfold execOp;simp [ho,hx,Instr.box,newVar,newRow,hv,Result.andThen]
theorem _root_.Go.Proofs.Rg.run_loadPtr {P:Program} (t e:TypeId) (ht:P.underlying t=some (.pointer e)) {w:World} {ad:Addr} {v:Value} (h:w.cell? ad=some v):(loadVar t ad).run P w=.ok v w:=by
 simp [loadVar,isAgg,run_underlying ht,load];simp [Sem.run,h]
end Go.Proofs.YtdnmmibchbceeaaGreat

namespace Go.Proofs.YtdnmmibchbceeaaGreat
open Go.RowKit
open Go.Proofs
open Go.Proofs.Cm (Tr)
theorem RowG.push {F M:Nat→Prop} {W:World} {v:Value} {l:List (List Nat)} (h:RowG F M W v l) {u:Value} {x:List Nat} (hu:FP F W u x) (hs:∃ a m c,u=.slice a m c) (hF:∀ k,F k→k<W.heap.size) (hM:∀ k,M k→k<W.heap.size) (hn:l.length<1000000) (ty:TypeId) :
  ∃ a c X,(Builtin.append_ #[22,22] ty #[v,.slice (some ⟨W.heap.size,0,none⟩) 1 1]).run Tryz.prog (W.alloc (.cells #[u] 30))=.ok (.slice a (l.length+1) c) X∧RowG F M X (.slice a (l.length+1) c) (l++[x])∧Rg.Kp (fun k=>v.ownBlock=some k) W X:=by
 obtain ⟨B,us,h0,h1,h2⟩:=h.own;obtain ⟨a0,m0,c0,rfl⟩:=hs;have hb:Below W.heap.size W (W.alloc (.cells #[.slice a0 m0 c0] 30)):=(Below.refl _ _).alloc (Nat.le_refl _) _;obtain ⟨v',X,r1,r2,r3,r4,a,c,rfl⟩:=app_run (P:=Tryz.prog) slPerms ty (Rg.row_below h1 hb) (Nat.le_trans h0 hb.size) W.heap.size 1 (u:=.slice a0 m0 c0) (by rw [Rg.cellNew]; rfl) rfl hn;have hk:Rg.Kp (fun k=>v.ownBlock=some k) W X:=Rg.Kp.trans (M:=fun k=>v.ownBlock=some k) ((Rg.Kp.of_below hb).weak fun _=>False.elim) (Rg.Kp.of_grown r3 fun _ e=>e) (fun _ _ e=>e);have hg:∀ k,F k→¬ v.ownBlock=some k:=fun k g e=>(h.off k e).1 g;refine ⟨a,c,X,r1,⟨⟨B,us++[.slice a0 m0 c0],Nat.le_trans h0 hk.size,by rw [List.length_append]; exact r2,by rw [List.map_append]; exact FElts.snoc (h2.kp hk hg) (Rg.FI.kp hu hk hg)⟩,fun k e=>?_⟩,hk⟩
 rcases r4 with r4 | r4
 ·exact h.off k (by rw [← r4]; exact e)
 ·rw [r4] at e
  injection e with e
  have e2:(W.alloc (.cells #[.slice a0 m0 c0] 30)).heap.size=W.heap.size+1:=by simp
  exact ⟨fun g=>by have:=hF _ g; omega,fun g=>by have:=hM _ g; omega⟩
theorem RowG.set {F M:Nat→Prop} {W:World} {g c:Nat} {l:List (List Nat)} (h:RowG F M W (.slice (some ⟨g,0,none⟩) l.length c) l) (i:Nat) {u:Value} {x:List Nat} (hu:FP F W u x) :
  RowG F M (W.setCell ⟨g,i,none⟩ u) (.slice (some ⟨g,0,none⟩) l.length c) (l.set i x)∧Rg.Kp (fun k=>k=g) W (W.setCell ⟨g,i,none⟩ u):=by
 obtain ⟨B,us,h0,h1,h2⟩:=h.own;have hk:Rg.Kp (fun k=>k=g) W (W.setCell ⟨g,i,none⟩ u):=Rg.Kp.of_setCell rfl;have hg:∀ k,F k→¬ k=g:=fun k e e2=>(h.off g rfl).1 (e2▸e);have h2':=h2.kp hk hg;refine ⟨⟨⟨B,us.set i u,Nat.le_trans h0 hk.size,?_,?_,fun j hj hj2=>?_⟩,h.off⟩,hk⟩
 ·rw [List.length_set]; exact (h1.stored i u).1
 ·rw [List.length_set,List.length_map,List.length_set,← List.length_map (f:=Ma.ofN)]; exact h2.1
 ·have e1:j<us.length:=by rwa [List.length_set] at hj
  have e2:j<l.length:=by rwa [List.length_map,List.length_set] at hj2
  by_cases e:i=j
  ·subst e
   simp only [List.getElem_set_self,List.getElem_map];exact Rg.FI.kp hu hk hg
  ·simp only [List.getElem_set_ne e,List.getElem_map]
   have:=h2'.2 j e1 (by rw [List.length_map]; exact e2)
   simpa using this
theorem RowG.frozen {F M:Nat→Prop} {W:World} {g n c:Nat} {l:List (List Nat)} (h:RowG F M W (.slice (some ⟨g,0,none⟩) n c) l) (hn:n=l.length) (i:Nat):W.frozen? ⟨g,i,none⟩=false:=by
 subst hn;obtain ⟨B,us,h0,h1,h2⟩:=h.own;exact h1.frozenAt i
end Go.Proofs.YtdnmmibchbceeaaGreat

namespace Go.Proofs.YtdnmmibchbceeaaGreat
open Go.RowKit
open Go.Proofs
open Go.Proofs.Ob
open Go.Proofs.Cm (Tr TabOk)
attribute [local irreducible] Go.Calls Go.wpList
theorem RowG.nil (F M:Nat→Prop) (W:World):RowG F M W (.slice none 0 0) []:=⟨⟨W.heap.size,[],Nat.le_refl _,World.ownsRow_nil _ _ _ _,Rg.FElts.nil _ _⟩,fun k e=>by simp [Value.ownBlock] at e⟩
end Go.Proofs.YtdnmmibchbceeaaGreat

namespace Go.Proofs.YtdnmmibchbceeaaGreat
open Go.RowKit
open Go.Proofs
open Go.Proofs.Ob
attribute [local irreducible] Go.Calls Go.wpList
theorem exec_nilTs {o:Oper} {a:Act} {w:World} {c:Nat} (x y:Operand) (ho:o.op=.binOp .eql 22 x y 22) (hx:a.eval x=.slice none 0 c) (hy:a.eval y=.slice none 0 0):(execOp a.eval o).run Tryz.prog w=.ok (.value (.bool true)) w:=by
 have h1:(binOp .eql 22 (.slice none 0 c) (.slice none 0 0)).run Tryz.prog w=.ok (.bool true) w:=by kernel_rfl
 have hg:(eqGuard .eql 22 x y (.slice none 0 c) (.slice none 0 0)).run Tryz.prog w=.ok () w:=by
  simp [eqGuard]
 unfold execOp;simp only [ho,hx,hy,Sem.run_bind,Sem.run_pure,hg,h1,Result.andThen_ok]
theorem exec_nilFs {o:Oper} {a:Act} {w:World} {ad:Addr} {n c:Nat} (x y:Operand) (ho:o.op=.binOp .eql 22 x y 22) (hx:a.eval x=.slice (some ad) n c) (hy:a.eval y=.slice none 0 0):(execOp a.eval o).run Tryz.prog w=.ok (.value (.bool false)) w:=by
 have h1:(binOp .eql 22 (.slice (some ad) n c) (.slice none 0 0)).run Tryz.prog w=.ok (.bool false) w:=by kernel_rfl
 have hg:(eqGuard .eql 22 x y (.slice (some ad) n c) (.slice none 0 0)).run Tryz.prog w=.ok () w:=by
  simp [eqGuard]
 unfold execOp;simp only [ho,hx,hy,Sem.run_bind,Sem.run_pure,hg,h1,Result.andThen_ok]
theorem ClonePs_f {F0:Nat→Prop} (v:Value) (gs:List (List Nat)) (w:World) (hF:∀ k,F0 k→k<w.heap.size) (h:Rg.FRows F0 w v (gs.map Ma.ofN)) (hl:gs.length≤1000) :
  Calls Tryz.prog 48 #[v] w fun e w'=>∃ v',e=.returned v'∧RowF F0 w.heap.size w' v' gs∧Below w.heap.size w w':=by
 have HF:=ι hF;clear hF;obtain ⟨us,hv,he⟩:=h;have hvv:=Rg.FVals.vals hv
 have hul:us.length=gs.length:=by have:=he.1; rwa [List.length_map] at this
 obtain ⟨la,lc,e,_,_,_,hs⟩:=hv;subst e;have K:=ι (Below.refl w.heap.size w)
 cases la with
 | none =>
  have h0:us=[]:=by
   cases us with
   | nil=>rfl
   | cons u r=>obtain ⟨b,o,e1,_⟩:=hs (by simp); cases e1
  subst h0;have hg0:gs=[]:=List.length_eq_zero_iff.1 hul.symm;subst hg0;clear hs he hul hvv
  go_enter Tryz.func48,Tryz.ntmps48
  go_upto_region 1 with (fail);refine Rg.wl ?_;refine Rg.lm 3 (.slice none 0 lc) ?_;go_frame;refine Rg.lr 4 (exec_nilTs _ _ rfl rfl rfl) ?_;go_frame;go_wp2;go_ret;exact ⟨_,rfl,RowF.nil _ (Nat.le_refl _),K.out⟩
 | some ad =>
  have HV:=ι hvv;have HE:=ι he;have HUL:=ι hul;clear hs he hvv hul
  go_enter Tryz.func48,Tryz.ntmps48
  go_upto_region 1 with (fail);refine Rg.wl ?_;refine Rg.lm 3 (.slice (some ad) us.length lc) ?_;go_frame;refine Rg.lr 4 (exec_nilFs _ _ rfl rfl rfl) ?_;go_frame;go_upto_region 3 with (fail);refine Rg.wl ?_;refine Rg.lr 5 (Rg.exec_build0 slPerms rfl w) ?_;go_frame;refine Rg.lm 6 (.slice (some ad) us.length lc) ?_;go_frame;have hbA:Below w.heap.size w (w.alloc (.cells #[] 30)):=(Below.refl _ _).alloc (Nat.le_refl _) _;obtain ⟨v5,X5,r1,r2,r3⟩:=Rg.appL_run (P:=Tryz.prog) slPerms 22 (World.ownsRow_made (e:=30) (size:=1) w #[] 0 (Nat.le_refl w.heap.size) (Nat.zero_le _) rfl) hbA.size (Rg.Vals.below HV.out hbA) HE.out.oneCell (by have:=HUL.out; omega);refine Rg.lr 7 (Rg.exec_append _ _ _ rfl rfl rfl r1) ?_;go_frame;refine Rg.la 2 (v5) ?_;go_frame;rw [Nat.zero_add,List.nil_append,HUL.out] at r2;have hk:Rg.Kp (fun z=>z=w.heap.size) w X5:=Rg.Kp.trans (M:=fun z=>z=w.heap.size) (Rg.Kp.of_below (M:=fun z=>z=w.heap.size) hbA) (Rg.Kp.of_grown r3 (M:=fun z=>z=w.heap.size) fun k e=>by simp [Value.ownBlock] at e; exact e.symm) (fun _ _ e=>e)
  have H1:=ι (show RowF F0 w.heap.size X5 v5 gs from ⟨hk.size,us,r2,HE.out.kp hk (fun k h e=>by have:=HF.out k h; omega)⟩);have H2:=ι (show Below w.heap.size w X5 from ⟨hk.os,hk.tape,hk.output,hk.size,fun k h=>hk.block k h (by omega)⟩);clear r1 r2 r3 hk hbA;go_wp2;go_ret;exact ⟨_,rfl,H1.out,H2.out⟩
theorem ClonePs_any (v:Value) (gs:List (List Nat)) (w:World) (h:Rg.Rows w v (gs.map Ma.ofN)) (hl:gs.length≤1000) :
  Calls Tryz.prog 48 #[v] w fun e w'=>∃ v',e=.returned v'∧RowF (fun k=>k<w.heap.size) w.heap.size w' v' gs∧Below w.heap.size w w' :=
 ClonePs_f v gs w (fun _ h=>h) (Rg.FRows.old h) hl
end Go.Proofs.YtdnmmibchbceeaaGreat

namespace Go.Proofs.YtdnmmibchbceeaaGreat
open Go.RowKit
open Go.Proofs
open Go.Proofs.Cm (Tr)
theorem exec_fnc1 {o:Oper} {a:Act} {w:World} {u1 x1:Value} (F:FuncId) (f x:Operand) (tys:Array TypeId) (ho:o.op=.call { callee:=.value f,args:=#[x],argTypes:=tys }) (hf:a.eval f=.func (.func F) #[] #[u1]) (hx:a.eval x=x1)
  (hF:(callFunc F #[x1,u1]).run Tryz.prog w=.ok (.enter F #[x1,u1]) w):(execOp a.eval o).run Tryz.prog w=.ok (.enter F #[x1,u1]) w:=by
 unfold execOp;simp [ho,hx,hf,resolve,invoke,Deferred.ofValue,hF]
theorem CW.up {w w':World} {b:Nat} {v:Value} (h:CW w b v) (hb:Below w.heap.size w w'):CW w' b v:=h.below hb
theorem RowG.below {F M:Nat→Prop} {W W':World} {v:Value} {l:List (List Nat)} (h:RowG F M W v l) (hb:Below W.heap.size W W'):RowG F M W' v l:=by
 obtain ⟨B,us,g0,g1,g2⟩:=h.own;exact ⟨⟨B,us,Nat.le_trans g0 hb.size,Rg.row_below g1 hb,g2.kp (M:=fun _=>False) (Rg.Kp.of_below hb) (fun _ _=>id)⟩,h.off⟩
theorem RowG.less {F M M':Nat→Prop} {W:World} {v:Value} {l:List (List Nat)} (h:RowG F M W v l) (hM:∀ k,M' k→M k):RowG F M' W v l:=⟨h.own,fun k e=>⟨(h.off k e).1,fun g=>(h.off k e).2 (hM k g)⟩⟩
theorem KG.bel {F0 F:Nat→Prop} {w0 w w':World} (h:KG F0 w0 F w) (hb:Below w.heap.size w w'):KG F0 w0 F w':=h.kf' (KF.of_below hb)
end Go.Proofs.YtdnmmibchbceeaaGreat

namespace Go.Proofs.YtdnmmibchbceeaaGreat
open Go.RowKit
open Go.Proofs
open Go.Proofs.Ob
open Go.Shelf
open Go.Proofs.Cm (Tr Gd ap sfP)
attribute [local go_sem] Oper.semAt_some
attribute [local irreducible] Go.Calls Go.wpList Go.wpListIn
theorem gd_mem {n:Nat} {y:List Nat} (h:Gd n y) {z:Nat} (hz:z∈y):z<n:=by
 obtain ⟨i,hi,rfl⟩:=List.getElem_of_mem hz;have:=Cm.ap_lt h (i:=i) (by rw [← h.2]; exact hi)
 rwa [Cm.ap_at hi] at this
end Go.Proofs.YtdnmmibchbceeaaGreat

namespace Go.Proofs.YtdnmmibchbceeaaGreat
open Go.Proofs
open Go.Proofs.Cm (Gr Gd IsChain IsG St Tr ap sfP Lst)
open Classical in
noncomputable def chCode (n:Int) (OO:List (List Int)) (RR:List (List (List Int))):Int:=if 1≤n∧n≤64 then (if ChOK n OO RR then 0 else 3) else 2
theorem chCode_C {n:Int} {OO:List (List Int)} {RR:List (List (List Int))}:ChC n OO RR (chCode n OO RR):=by
 unfold chCode
 by_cases h:1≤n∧n≤64
 ·rw [if_pos h]
  by_cases h2:ChOK n OO RR
  ·rw [if_pos h2]; exact .inr ⟨h,.inl ⟨h2,rfl⟩⟩
  ·rw [if_neg h2]; exact .inr ⟨h,.inr ⟨h2,rfl⟩⟩
 ·rw [if_neg h]; exact .inl ⟨h,rfl⟩
theorem chCode_eq {n:Int} {OO:List (List Int)} {RR:List (List (List Int))} {c:Int} (h:ChC n OO RR c):c=chCode n OO RR:=h.uniq chCode_C
theorem chCode_zero {n:Int} {OO:List (List Int)} {RR:List (List (List Int))} (h:ChOK n OO RR):chCode n OO RR=0:=(chCode_eq (ChC.of h)).symm
end Go.Proofs.YtdnmmibchbceeaaGreat

namespace Go.Proofs.YtdnmmibchbceeaaGreat
open Go.RowKit
open Go.Proofs
open Go.Proofs.Ob
open Go.Proofs.Cm (Gd)
attribute [local irreducible] Go.Calls Go.wpList
theorem chCheck_c {n:Int} {ov rv:Value} {OO:List (List Int)} {RR:List (List (List Int))} {w:World} (h:ChEqR w ov rv OO RR) :
  Calls Tryz.prog 99 #[.agg #[.int .i64 n,ov,rv]] w fun e w'=>e=.returned (.int .i64 (chCode n OO RR))∧Below w.heap.size w w':=by
 refine (chCheck_any h).mono ?_;rintro e w' ⟨c,rfl,h1,h2⟩;exact ⟨by rw [chCode_eq h1],h2⟩
end Go.Proofs.YtdnmmibchbceeaaGreat

namespace Go.Proofs.Rg
open Go Go.RowKit
variable {P:Program} {md:Region.Mode} {ops:Array Oper} {Q:Exit→Act→World→Prop} {S:Array Bool→World→Prop}
theorem doesCall {i d:Nat} {I:World→Prop} {R:Value→World→Prop} {K:World→World→Prop} {oi:Oper} {b:Act} {W:World} (hi:ops[i]?=some oi) (hd:oi.dst=some d) (hw:Region.wanted oi (yielded ops b.tmps)=true) (f:FuncId) (args:Array Value)
  (hr:(execOp b.eval oi).run P W=.ok (.enter f args) W) (hc:Calls P f args W fun e W'=>∃ v,e=.returned v∧I W'∧R v W'∧K W W'):Does P ops Q i d I R K b W:=by
 unfold Does wpOp;simp only [hi,hw,if_true]
 left
 unfold Oper.wp;rw [hr,Oper.upon_enter];refine hc.mono fun e w' ⟨v,h1,h2⟩=>?_;rw [h1];refine ⟨v,?_,h2⟩;rw [hd]
end Go.Proofs.Rg

set_option linter.unusedVariables false
namespace Go.Proofs.YtdnmmibchbceeaaGreat
open Go.RowKit
open Go.Proofs
open Go.Proofs.Ob
open Go.Shelf
attribute [local irreducible] Go.Calls Go.wpList
def MK (tc:Nat) (ov rv:Value) (z:Nat):Prop:=z=tc∨ov.ownBlock=some z∨rv.ownBlock=some z
theorem row_isCells {W:World} {B:Nat} {e:TypeId} {size:Nat} {v:Value} {n:Nat} {xs:List Value} (h:W.ownsRow B e size v n xs):∀ k,v.ownBlock=some k→∃ o:Obj,W.heap[k]?=some o∧o.isCells=true:=fun k e1=>by
 obtain ⟨_,h3⟩:=h
 rcases h3 with ⟨h4,_⟩ | ⟨g,cap,cur,h4,_,h5,_⟩
 ·rw [h4] at e1; simp [Value.ownBlock] at e1
 ·rw [h4] at e1
  simp [Value.ownBlock] at e1;subst e1;exact ⟨_,h5,rfl⟩
theorem cell_isCells {W:World} {a:Addr} {v:Value} (h:W.cell? a=some v):∃ o:Obj,W.heap[a.block]?=some o∧o.isCells=true:=by
 unfold World.cell? at h
 cases e:W.heap[a.block]? with
 | none=>rw [e] at h; cases h
 | some o =>
  rw [e] at h;refine ⟨o,rfl,?_⟩
  cases o <;> simp at h <;> rfl
theorem ChR.isCells {B:Nat} {W:World} {tc:Nat} {c0 c1 c2 ov rv:Value} {O:List (List Int)} {R:List (List (List Int))} (h:ChR B W tc c0 c1 c2 ov rv O R):∀ z,MK tc ov rv z→∃ o:Obj,W.heap[z]?=some o∧o.isCells=true:=by
 obtain ⟨us,vs,h1,h2,_⟩:=h.own
 rintro z (e | e | e)
 ·subst e; exact cell_isCells h.tri.c0
 ·exact row_isCells h1 z e
 ·exact row_isCells h2 z e
end Go.Proofs.YtdnmmibchbceeaaGreat

namespace Go.Proofs.YtdnmmibchbceeaaGreat
open Go.RowKit
open Go.Proofs
open Go.Proofs.Ob
open Go.Proofs.Cm (Gd)
attribute [local irreducible] Go.Calls Go.wpList
def RwAt (w:World) (g n:Nat) (f:Nat→Int):Prop:=g<w.heap.size∧(∀ i,i<n→w.cell? ⟨g,i,none⟩=some (.int .i64 (f i)))∧∀ i,w.frozen? ⟨g,i,none⟩=false
theorem RwAt.congr {w:World} {g n:Nat} {f f':Nat→Int} (h:RwAt w g n f) (e:∀ i,i<n→f i=f' i):RwAt w g n f' :=
 ⟨h.1,fun i hi=>by rw [← e i hi]; exact h.2.1 i hi,h.2.2⟩
theorem RwAt.set {w:World} {g n:Nat} {f:Nat→Int} (h:RwAt w g n f) (k:Nat) (v:Int) (hk:k<n):RwAt (w.setCell ⟨g,k,none⟩ (.int .i64 v)) g n (fun i=>if i=k then v else f i):=by
 refine ⟨by simpa using h.1,fun i hi=>?_,fun i=>by rw [World.frozen?_setCell]; exact h.2.2 i⟩;show _=some (Value.int .i64 (if i=k then v else f i))
 by_cases e:i=k
 ·subst e
  rw [if_pos rfl];exact World.cell?_setCell_same (h:=h.2.1 i hi) ..
 ·rw [if_neg e,World.cell?_setCell_other (h:=by intro h; injection h with h1 h2; omega) ..]
  exact h.2.1 i hi
theorem RwAt.kp {M:Nat→Prop} {w w':World} {g n:Nat} {f:Nat→Int} (h:RwAt w g n f) (hk:Rg.Kp M w w') (hM:¬ M g):RwAt w' g n f :=
 ⟨Nat.lt_of_lt_of_le h.1 hk.size,fun i hi=>(World.cell?_of_block (a:=⟨g,i,none⟩) (hk.block g h.1 hM)).trans (h.2.1 i hi),fun i=>(World.frozen?_of_block (a:=⟨g,i,none⟩) (hk.block g h.1 hM)).trans (h.2.2 i)⟩
theorem RwAt.below {w w':World} {g n:Nat} {f:Nat→Int} (h:RwAt w g n f) (hb:Below w.heap.size w w'):RwAt w' g n f:=h.kp (M:=fun _=>False) (Rg.Kp.of_below hb) id
theorem RwAt.np {w:World} {g n cap:Nat} {f:Nat→Int} (h:RwAt w g n f) (l:List Nat) (hl:l.length=n) (hc:n≤cap) (hm:cap≤maxLen) (hn:n≤1000) (e:∀ i (hi:i<l.length),f i=((l[i]:Nat):Int)):Rg.NP w (.slice (some ⟨g,0,none⟩) n cap) l:=by
 refine Rg.Ints.mk (by simp [Ma.ofN,hl]) h.1 (by simp [Ma.ofN]; omega) hm (by simp [Ma.ofN]; omega) fun i hi=>?_
 have hi':i<l.length:=by simpa [Ma.ofN] using hi
 rw [Nat.zero_add,h.2.1 i (by omega),e i hi'];simp [Ma.ofN]
end Go.Proofs.YtdnmmibchbceeaaGreat

namespace Go.Proofs.YtdnmmibchbceeaaGreat
open Go.RowKit
open Go.Proofs
open Go.Proofs.Ob
open Go.Proofs.Cm (Gd Gr IsChain)
attribute [local irreducible] Go.Calls Go.wpList
theorem made_rowH (w:World) (n:Nat):RwAt (w.alloc (.cells (madeCells #[.int .i64 0] n) 3)) w.heap.size n (fun _=>0):=by
 have h:=World.rowIs_made w (.int .i64 0) n 3;exact ⟨by simp,fun i hi=>h.cell hi,fun i=>h.frozen i⟩
end Go.Proofs.YtdnmmibchbceeaaGreat

namespace Go.Proofs.YtdnmmibchbceeaaGreat
open Go.RowKit
open Go.Proofs
open Go.Proofs.Ob
open Go.Proofs.Cm (Gd Gr IsChain ap)
attribute [local irreducible] Go.Calls Go.wpList
theorem level_rows {w:World} {N:Nat} {H:List Nat→Prop} {O:List (List Nat)} {R:List (List (List Nat))} {ov rv:Value} (hc:IsChain N H O R) (h:ChEqR w ov rv (O.map Ma.ofN) (R.map (List.map Ma.ofN))) {i:Nat} (hi:i<N) :
  ∃ ob oo oc rb ro rc,ov=.slice (some ⟨ob,oo,none⟩) N oc∧rv=.slice (some ⟨rb,ro,none⟩) N rc∧(∃ ua uc,CL w ob (oo+i) (.slice ua (O.getD i []).length uc)∧Rg.Ints w (.slice ua (O.getD i []).length uc) (Ma.ofN (O.getD i []))) ∧
   (∃ va vc,CL w rb (ro+i) (.slice va (O.getD i []).length vc)∧Rg.Rows w (.slice va (O.getD i []).length vc) ((R.getD i []).map Ma.ofN)):=by
 have hlo:(O.map Ma.ofN).length=N:=by rw [List.length_map,hc.lenO]
 have hlr:(R.map (List.map Ma.ofN)).length=N:=by rw [List.length_map,hc.lenR]
 obtain ⟨oa,oc,rfl,-⟩:=h.1.shape;obtain ⟨ra,rc,rfl⟩:=h.2.shape;have h1:=h.1;have h2:=h.2;rw [hlo] at h1;rw [hlr] at h2;obtain ⟨ob,oo,ua,uc,e5,hob,hoc,hoi⟩:=rowsI_get h1 (i:=i) (by rw [hlo]; exact hi);subst e5;obtain ⟨rb,ro,e6,hrb,u,hcu,hu⟩:=h2.at' (k:=i) (by rw [hlr]; exact hi);subst e6
 have hox:(O.map Ma.ofN)[i]'(by rw [hlo]; exact hi)=Ma.ofN (O.getD i []):=by
  have hXO:i<O.length:=by rw [hc.lenO]; exact hi
  rw [List.getElem_map,getD_inf hXO]
 rw [hox] at hoc hoi;rw [Ma.len_ofN] at hoc hoi
 have hrx:(R.map (List.map Ma.ofN))[i]'(by rw [hlr]; exact hi)=(R.getD i []).map Ma.ofN:=by
  have hXR:i<R.length:=by rw [hc.lenR]; exact hi
  rw [List.getElem_map,getD_inf hXR]
 rw [hrx] at hu;obtain ⟨va,vc,rfl,-⟩:=hu.shape;rw [List.length_map,hc.len i hi] at hcu hu;rw [hlo,hlr];exact ⟨ob,oo,oc,rb,ro,rc,rfl,rfl,⟨ua,uc,CL.mk hoc hob,hoi⟩,⟨va,vc,CL.mk hcu hrb,hu⟩⟩
theorem exec_slice1I {o:Oper} {a:Act} {w:World} {v r:Value} (x:Operand) (ho:o.op=.slice 25 x (some (.const (.int .i64 1))) none none) (hx:a.eval x=v) (hr:(Instr.sliceAt 25 v (some (.int .i64 1)) none none).run Tryz.prog w=.ok r w) :
  (execOp a.eval o).run Tryz.prog w=.ok (.value r) w:=by
 unfold execOp;simp only [ho,hx,Sem.run_bind,Sem.run_pure,Option.map]
 first | (rw [hr]; rfl) | (erw [hr]; rfl) | simp [hr]

theorem ints_nil (w:World):Rg.Ints w (.slice none 0 0) []:=(show FP (fun _=>True) w (.slice none 0 0) [] from ⟨none,0,rfl,Nat.le_refl _,Nat.zero_le _,Nat.zero_le _,fun h=>absurd h (Nat.lt_irrefl 0)⟩).np
end Go.Proofs.YtdnmmibchbceeaaGreat

namespace Go.Proofs.YtdnmmibchbceeaaGreat
open Go.RowKit
open Go.Proofs
open Go.Proofs.Cm (Gd Gr IsChain)
structure NpI (w:World) (v:Value) (l:List Int):Prop where
 i:Rg.Ints w v l
theorem NpI.below {w w':World} {v:Value} {l:List Int} (h:NpI w v l) (hb:Below w.heap.size w w'):NpI w' v l:=⟨h.i.below hb⟩
theorem NpI.at {w:World} {lv:Value} {M:List Nat} {D:Nat} (h:NpI w lv (Ma.ofN M)) (hM:M.length=D) (hD:1≤D):∃ b o c,lv=.slice (some ⟨b,o,none⟩) D c∧∀ i,i<D→CL w b (o+i) (.int .i64 ((M.getD i 0:Nat):Int)):=by
 obtain ⟨a,c,rfl,hc,hm,_,hcell⟩:=Rg.NP.shape (show Rg.NP w lv M from h.i);obtain ⟨b,o,rfl,hb,hr⟩:=hcell (by omega);refine ⟨b,o,c,by rw [hM],fun i hi=>⟨?_,hb⟩⟩;rw [List.getD_eq_getElem?_getD,List.getElem?_eq_getElem (show i<M.length by omega),Option.getD_some];exact hr i (by omega)
theorem rows_get {w:World} {a:Option Addr} {n c:Nat} {T:List (List Int)} (h:Rg.Rows w (.slice a n c) T) {i:Nat} (hi:i<T.length):∃ b o ua uc,a=some ⟨b,o,none⟩∧b<w.heap.size∧w.cell? ⟨b,o+i,none⟩=some (.slice ua T[i].length uc)∧Rg.Ints w (.slice ua T[i].length uc) T[i]:=by
 obtain ⟨a',c',e,-,-,-,hx⟩:=h.shape;simp only [Value.slice.injEq] at e;obtain ⟨rfl,rfl,rfl⟩:=e;obtain ⟨b,o,e1,e2,e3⟩:=hx (by omega);obtain ⟨u,h1,h2⟩:=e3 i hi;obtain ⟨ua,uc,e4,-⟩:=Rg.Ints.shape h2;subst e4;exact ⟨b,o,ua,uc,e1,e2,h1,h2⟩
theorem ints_get {w:World} {a:Option Addr} {n c:Nat} {l:List Int} (h:Rg.Ints w (.slice a n c) l) {k:Nat} (hk:k<l.length):∃ b o,a=some ⟨b,o,none⟩∧b<w.heap.size∧w.cell? ⟨b,o+k,none⟩=some (.int .i64 l[k]):=by
 obtain ⟨a',c',e,-,-,-,hx⟩:=h.shape;simp only [Value.slice.injEq] at e;obtain ⟨rfl,rfl,rfl⟩:=e;obtain ⟨b,o,e1,e2,e3⟩:=hx (by omega);exact ⟨b,o,e1,e2,e3 k hk⟩
structure RsO (w:World) (v:Value) (T:List (List Int)):Prop where
 r:Rg.Rows w v T
theorem RsO.below {w w':World} {v:Value} {T:List (List Int)} (h:RsO w v T) (hb:Below w.heap.size w w'):RsO w' v T:=⟨Rg.Rows.below h.r hb⟩
theorem kp_below {B:Nat} {M:Nat→Prop} {W0 W X:World} (hb:Below B W0 W) (hB:B≤W.heap.size) (hk:Rg.Kp M W X) (hM:∀ k,M k→B≤k):Below B W0 X :=
 hb.trans ⟨hk.os,hk.tape,hk.output,hk.size,fun k h=>hk.block k (Nat.lt_of_lt_of_le h hB) fun e=>Nat.lt_irrefl _ (Nat.lt_of_lt_of_le h (hM k e))⟩
end Go.Proofs.YtdnmmibchbceeaaGreat

namespace Go.Proofs.YtdnmmibchbceeaaGreat
open Go.RowKit
open Go.Proofs
open Go.Proofs.Ob
open Go.Proofs.Cm (Gd)
attribute [local irreducible] Go.Calls Go.wpList
theorem RwAt.up {w w':World} {g n:Nat} {f:Nat→Int} (h:RwAt w g n f) (hb:Below w.heap.size w w'):RwAt w' g n f:=h.below hb
def GM (tk gb rb z:Nat):Prop:=z=tk∨z=gb∨z=rb
structure RowH (B:Nat) (F M:Nat→Prop) (W:World) (v:Value) (l:List (List Nat)):Prop where
 size:B≤W.heap.size
 own:∃ us,W.ownsRow B 30 1 v l.length us∧Rg.FElts F W us (l.map Ma.ofN)
 off:∀ k,v.ownBlock=some k→¬ F k∧¬ M k
theorem RowH.lt {B:Nat} {F M:Nat→Prop} {W:World} {v:Value} {l:List (List Nat)} (h:RowH B F M W v l):∀ k,v.ownBlock=some k→B≤k∧k<W.heap.size:=fun k e=>by
 obtain ⟨us,h1,h2⟩:=h.own;exact h1.lt k e
theorem RowH.shape {B:Nat} {F M:Nat→Prop} {W:World} {v:Value} {l:List (List Nat)} (h:RowH B F M W v l):∃ a c,v=.slice a l.length c:=by
 obtain ⟨us,h1,h2⟩:=h.own;exact Rg.row_shape h1
theorem RowH.nil (B:Nat) (F M:Nat→Prop) (W:World) (hB:B≤W.heap.size):RowH B F M W (.slice none 0 0) [] :=
 ⟨hB,⟨[],World.ownsRow_nil _ _ _ _,Rg.FElts.nil _ _⟩,fun k e=>by simp [Value.ownBlock] at e⟩
theorem RowH.rows {B:Nat} {F M:Nat→Prop} {W:World} {v:Value} {l:List (List Nat)} (h:RowH B F M W v l) (hl:l.length≤1000000000):Rg.Rows W v (l.map Ma.ofN):=by
 obtain ⟨us,h1,h2⟩:=h.own;exact Rg.Rows.of_row h1 hl h2.1 (fun i a b=>(h2.2 i a b).ints)
theorem RowH.kp {B:Nat} {F M N:Nat→Prop} {W W':World} {v:Value} {l:List (List Nat)} (h:RowH B F M W v l) (hk:Rg.Kp N W W') (hF:∀ k,F k→¬ N k) (hN:∀ k,v.ownBlock=some k→¬ N k):RowH B F M W' v l:=by
 obtain ⟨us,h1,h2⟩:=h.own;exact ⟨Nat.le_trans h.size hk.size,⟨us,rowKp h1 hk (fun k hn e=>hN k e hn),h2.kp hk hF⟩,h.off⟩
theorem RowH.push {B:Nat} {F M:Nat→Prop} {W:World} {v:Value} {l:List (List Nat)} (h:RowH B F M W v l) {u:Value} {x:List Nat} (hu:FP F W u x) (hs:∃ a m c,u=.slice a m c) (hF:∀ k,F k→k<W.heap.size) (hM:∀ k,M k→k<W.heap.size) (hn:l.length<1000000) (ty:TypeId) :
  ∃ a c X,(Builtin.append_ #[22,22] ty #[v,.slice (some ⟨W.heap.size,0,none⟩) 1 1]).run Tryz.prog (W.alloc (.cells #[u] 30))=.ok (.slice a (l.length+1) c) X∧RowH B F M X (.slice a (l.length+1) c) (l++[x])∧Rg.Kp (fun k=>v.ownBlock=some k) W X:=by
 obtain ⟨us,h1,h2⟩:=h.own;obtain ⟨a0,m0,c0,rfl⟩:=hs;have hb:Below W.heap.size W (W.alloc (.cells #[.slice a0 m0 c0] 30)):=(Below.refl _ _).alloc (Nat.le_refl _) _;obtain ⟨v',X,r1,r2,r3,r4,a,c,rfl⟩:=app_run (P:=Tryz.prog) slPerms ty (Rg.row_below h1 hb) (Nat.le_trans h.size hb.size) W.heap.size 1 (u:=.slice a0 m0 c0) (by rw [Rg.cellNew]; rfl) rfl hn;have hk:Rg.Kp (fun k=>v.ownBlock=some k) W X:=Rg.Kp.trans (M:=fun k=>v.ownBlock=some k) ((Rg.Kp.of_below hb).weak fun _=>False.elim) (Rg.Kp.of_grown r3 fun _ e=>e) (fun _ _ e=>e);have hg:∀ k,F k→¬ v.ownBlock=some k:=fun k g e=>(h.off k e).1 g;refine ⟨a,c,X,r1,⟨Nat.le_trans h.size hk.size,⟨us++[.slice a0 m0 c0],by rw [List.length_append]; exact r2,by rw [List.map_append]; exact FElts.snoc (h2.kp hk hg) (Rg.FI.kp hu hk hg)⟩,fun k e=>?_⟩,hk⟩
 rcases r4 with r4 | r4
 ·exact h.off k (by rw [← r4]; exact e)
 ·rw [r4] at e
  injection e with e
  have e2:(W.alloc (.cells #[.slice a0 m0 c0] 30)).heap.size=W.heap.size+1:=by simp
  exact ⟨fun g=>by have:=hF _ g; omega,fun g=>by have:=hM _ g; omega⟩
end Go.Proofs.YtdnmmibchbceeaaGreat

namespace Go.Proofs.YtdnmmibchbceeaaGreat
open Go.RowKit
open Go.Proofs
attribute [local irreducible] Go.Calls Go.wpStill
def lessL:List Int→List Int→Bool
 | [],[]=>false
 | [],_ :: _=>true
 | _ :: _,[]=>false
 | x :: a,y :: b=>if x=y then lessL a b else decide (x<y)
theorem lessL_irr:∀ a:List Int,lessL a a=false
 | []=>rfl
 | x :: a=>by rw [lessL,if_pos rfl]; exact lessL_irr a
theorem lessL_trans:∀ {a b c:List Int},lessL a b=true→lessL b c=true→lessL a c=true
 | [],[],_,h,_=>by simp [lessL] at h
 | [],_ :: _,[],_,h=>by simp [lessL] at h
 | [],_ :: _,_ :: _,_,_=>rfl
 | _ :: _,[],_,h,_=>by simp [lessL] at h
 | _ :: _,_ :: _,[],_,h=>by simp [lessL] at h
 | x :: a,y :: b,z :: c,h,h'=>by
  rw [lessL] at h h' ⊢
  by_cases e1:x=y
  ·rw [if_pos e1] at h
   by_cases e2:y=z
   ·rw [if_pos e2] at h'; rw [if_pos (e1.trans e2)]; exact lessL_trans h h'
   ·rw [if_neg e2] at h'; rw [if_neg (by omega)]; simp at h' ⊢; omega
  ·rw [if_neg e1] at h
   by_cases e2:y=z
   ·rw [if_neg (by omega)]; simp at h ⊢; omega
   ·rw [if_neg e2] at h'; simp at h h'; rw [if_neg (by omega)]; simp; omega
theorem lessL_total:∀ {a b:List Int},lessL a b=false→a≠b→lessL b a=true
 | [],[],_,h=>absurd rfl h
 | [],_ :: _,h,_=>by simp [lessL] at h
 | _ :: _,[],_,_=>rfl
 | x :: a,y :: b,h,hn=>by
  rw [lessL] at h ⊢
  by_cases e:x=y
  ·rw [if_pos e] at h; rw [if_pos e.symm]
   exact lessL_total h (fun e2=>hn (by rw [e,e2]))
  ·rw [if_neg e] at h; rw [if_neg (by omega)]; simp at h ⊢; omega
def Asc (L:List (List Int)):Prop:=∀ i j (hi:i<L.length) (hj:j<L.length),i<j→lessL L[i] L[j]=true
structure Place (L:List (List Int)) (x:List Int) (lo:Nat):Prop where
 le:lo≤L.length
 lt:∀ i (h:i<L.length),i<lo→lessL L[i] x=true
 ge:∀ i (h:i<L.length),lo≤i→lessL L[i] x=false
theorem Place.mem {L:List (List Int)} {x:List Int} {lo:Nat} (h:Place L x lo) (hs:Asc L):x∈L↔∃ hl:lo<L.length,L[lo]=x:=by
 constructor
 ·intro hx
  obtain ⟨j,hj,rfl⟩:=List.getElem_of_mem hx
  have h1:¬ j<lo:=fun e=>by have:=h.lt j hj e; rw [lessL_irr] at this; cases this
  have h2:¬ lo<j:=fun e=>by
   have:=hs lo j (by omega) hj e;have h3:=h.ge lo (by omega) (Nat.le_refl _);rw [this] at h3; cases h3
  obtain rfl:lo=j:=by omega
  exact ⟨hj,rfl⟩
 ·rintro ⟨hl,rfl⟩; exact List.getElem_mem hl
def putIn (L:List (List Int)) (lo:Nat) (x:List Int):List (List Int):=L.take lo++(x :: L.drop lo)
theorem mem_putIn {L:List (List Int)} {lo:Nat} {x y:List Int}:y∈putIn L lo x↔y∈L∨y=x:=by
 unfold putIn;rw [List.mem_append,List.mem_cons]
 constructor
 ·rintro (h | h | h)
  ·exact .inl (List.mem_of_mem_take h)
  ·exact .inr h
  ·exact .inl (List.mem_of_mem_drop h)
 ·rintro (h | h)
  ·rw [← List.take_append_drop lo L,List.mem_append] at h
   rcases h with h | h
   ·exact .inl h
   ·exact .inr (.inr h)
  ·exact .inr (.inl h)
theorem asc_iff (L:List (List Int)):Asc L↔L.Pairwise (fun a b=>lessL a b=true):=by
 rw [List.pairwise_iff_getElem];exact ⟨fun h i j hi hj hij=>h i j hi hj hij,fun h i j hi hj hij=>h i j hi hj hij⟩
theorem asc_putIn {L:List (List Int)} {lo:Nat} {x:List Int} (h:Place L x lo) (hs:Asc L) (hx:x∉L):Asc (putIn L lo x):=by
 rw [asc_iff] at hs ⊢;unfold putIn;rw [← List.take_append_drop lo L,List.pairwise_append] at hs;obtain ⟨h1,h2,h3⟩:=hs;rw [List.pairwise_append,List.pairwise_cons];refine ⟨h1,⟨fun b hb=>?_,h2⟩,fun a ha b hb=>?_⟩
 ·obtain ⟨j,hj,rfl⟩:=List.getElem_of_mem hb
  rw [List.getElem_drop];refine lessL_total (h.ge _ (by simp at hj; omega) (by omega)) (fun e=>hx ?_);rw [← e]; exact List.getElem_mem _
 ·rcases List.mem_cons.1 hb with rfl | hb
  ·obtain ⟨j,hj,rfl⟩:=List.getElem_of_mem ha
   rw [List.getElem_take];exact h.lt j (by simp at hj; omega) (by simp at hj; omega)
  ·exact h3 a ha b hb
end Go.Proofs.YtdnmmibchbceeaaGreat

namespace Go.Proofs.YtdnmmibchbceeaaGreat
open Go.RowKit
open Go.Proofs
attribute [local irreducible] Go.Calls Go.wpList
def cmpI (x y:Int):Int:=if x<y then -1 else if y<x then 1 else 0
def cmpL:List Int→List Int→Int
 | [],[]=>0
 | [],_ :: _=>-1
 | _ :: _,[]=>1
 | x :: a,y :: b=>if cmpI x y=0 then cmpL a b else cmpI x y
theorem cmpL_lt:∀ (a b:List Int),decide (cmpL a b<0)=lessL a b
 | [],[]=>rfl
 | [],_ :: _=>rfl
 | _ :: _,[]=>rfl
 | x :: a,y :: b=>by
  unfold cmpL lessL cmpI
  by_cases h1:x=y
  ·subst h1
   simp only [Int.lt_irrefl,if_false,if_true];exact cmpL_lt a b
  ·by_cases h2:x<y
   ·simp [h1,h2]
   ·have h3:y<x:=by omega
    simp [h1,h2,h3]
theorem cmpL_drop {a b:List Int} {k:Nat} (ha:k<a.length) (hb:k<b.length):cmpL (a.drop k) (b.drop k)=if cmpI a[k] b[k]=0 then cmpL (a.drop (k+1)) (b.drop (k+1)) else cmpI a[k] b[k]:=by
 rw [List.drop_eq_getElem_cons ha,List.drop_eq_getElem_cons hb,cmpL]
theorem cmpL_one {a b:List Int} {k:Nat} (ha:k<a.length) (hb:b.length≤k):cmpL (a.drop k) (b.drop k)=1:=by
 rw [List.drop_eq_getElem_cons ha,List.drop_of_length_le (l:=b) hb,cmpL]
theorem cmpL_end {a b:List Int} {k:Nat} (ha:a.length≤k) (hb:k≤b.length) (hk:k≤a.length):cmpL (a.drop k) (b.drop k)=if a.length<b.length then -1 else 0:=by
 have e:k=a.length:=by omega
 subst e;rw [List.drop_of_length_le (l:=a) (Nat.le_refl _)]
 by_cases h:a.length<b.length
 ·rw [List.drop_eq_getElem_cons h,if_pos h,cmpL]
 ·rw [List.drop_of_length_le (l:=b) (by omega),if_neg h,cmpL]
theorem cmpCmp_any (x y:Int) (w:World):Calls Tryz.prog 111 #[.int .i64 x,.int .i64 y] w fun e w'=>e=.returned (.int .i64 (cmpI x y))∧w'=w:=by
 by_cases h1:x<y
 ·go_enter Tryz.func111,Tryz.ntmps111
  go_wp2;go_ret;exact ⟨by rw [show cmpI x y = -1 by unfold cmpI; rw [if_pos (by omega)]]; rfl,rfl⟩
 ·by_cases h2:y<x
  ·go_enter Tryz.func111,Tryz.ntmps111
   go_wp2;go_ret;exact ⟨by rw [show cmpI x y=1 by unfold cmpI; rw [if_neg (by omega),if_pos (by omega)]]; rfl,rfl⟩
  ·go_enter Tryz.func111,Tryz.ntmps111
   go_wp2;go_ret;exact ⟨by rw [show cmpI x y=0 by unfold cmpI; rw [if_neg (by omega),if_neg (by omega)]]; rfl,rfl⟩
end Go.Proofs.YtdnmmibchbceeaaGreat

namespace Go.Proofs.YtdnmmibchbceeaaGreat
open Go.RowKit
open Go.Proofs
open Go.Proofs.Ob
open Go.Proofs.Cm (Gd Gr)
attribute [local irreducible] Go.Calls Go.wpList
theorem ofN_back (l:List Nat):(Ma.ofN l).map Int.toNat=l:=by
 unfold Ma.ofN;rw [List.map_map];exact List.map_id'' (fun _=>rfl) l
theorem ofN_inj' {a b:List Nat} (h:Ma.ofN a=Ma.ofN b):a=b:=by rw [← ofN_back a,h,ofN_back]
theorem memP {y:List Nat} {A:List (List Nat)}:Ma.ofN y∈A.map Ma.ofN↔y∈A :=
 ⟨fun h=>by obtain ⟨z,hz,e⟩:=List.mem_map.1 h; exact ofN_inj' e▸hz,fun h=>List.mem_map_of_mem h⟩
def putN (A:List (List Nat)) (k:Nat) (y:List Nat):List (List Nat):=A.take k++(y :: A.drop k)
theorem putN_map (A:List (List Nat)) (k:Nat) (y:List Nat):(putN A k y).map Ma.ofN=putIn (A.map Ma.ofN) k (Ma.ofN y):=by simp [putN,putIn]
theorem len_putN {A:List (List Nat)} {k:Nat} {y:List Nat} (h:k≤A.length):(putN A k y).length=A.length+1:=by simp [putN]; omega
theorem mem_putN {A:List (List Nat)} {k:Nat} {x y:List Nat}:x∈putN A k y↔x∈A∨x=y:=by
 rw [← memP,putN_map,mem_putIn,memP];exact ⟨fun h=>h.imp id ofN_inj',fun h=>h.imp id (congrArg _)⟩
structure EO (d:Nat) (gs:List (List Nat)) (most:Nat) (A T:List (List Nat)):Prop where
 asc:Asc (A.map Ma.ofN)
 inG:∀ y∈A,Gr d (·∈gs) y
 one:Ma.oneN d∈A
 sub:∀ y∈T,y∈A
 le:A.length≤most
 tl:T.length≤A.length
 clo:∀ z∈A,z∈T∨∀ g∈gs,Ma.mulN z g∈A
structure EJ (d:Nat) (gs:List (List Nat)) (most:Nat) (A T:List (List Nat)) (x:List Nat) (i:Nat):Prop where
 asc:Asc (A.map Ma.ofN)
 inG:∀ y∈A,Gr d (·∈gs) y
 one:Ma.oneN d∈A
 sub:∀ y∈T,y∈A
 le:A.length≤most
 tl:T.length≤A.length
 xA:x∈A
 clo:∀ z∈A,z∈T∨z=x∨∀ g∈gs,Ma.mulN z g∈A
 don:∀ j (h:j<gs.length),j<i→Ma.mulN x gs[j]∈A
def AllE (d:Nat) (gs A:List (List Nat)):Prop:=Asc (A.map Ma.ofN)∧∀ y,y∈A↔Gr d (·∈gs) y
theorem asc_one (l:List (List Int)) (h:l.length≤1):Asc l:=fun i j hi hj hij=>by omega
theorem EO.start {d:Nat} {gs:List (List Nat)} {most:Nat} (h:1≤most):EO d gs most [Ma.oneN d] [Ma.oneN d] :=
 ⟨asc_one _ (by simp),fun y hy=>by rw [List.mem_singleton] at hy; subst hy; exact .one,by simp,fun y hy=>hy,by simpa using h,by simp,fun z hz=>.inl hz⟩
theorem EJ.new {d:Nat} {gs:List (List Nat)} {most:Nat} {A T:List (List Nat)} {x:List Nat} {i k:Nat} (h:EJ d gs most A T x i) (hi:i<gs.length) (hg:∀ s∈gs,Gd d s) (hy:Ma.mulN x gs[i]∉A) (hm:A.length<most) (hP:Place (A.map Ma.ofN) (Ma.ofN (Ma.mulN x gs[i])) k) :
  EJ d gs most (putN A k (Ma.mulN x gs[i])) (T++[Ma.mulN x gs[i]]) x (i+1):=by
 have hk:k≤A.length:=by have:=hP.le; simpa using this
 have hG:Gr d (·∈gs) (Ma.mulN x gs[i]):=(Gr.isG hg).mul _ _ (h.inG x h.xA) (.gen _ (List.getElem_mem hi));refine ⟨?_,fun y hy=>?_,mem_putN.2 (.inl h.one),fun y hy=>?_,by rw [len_putN hk]; omega,by rw [len_putN hk,List.length_append]; have:=h.tl; simp; omega,mem_putN.2 (.inl h.xA),fun z hz=>?_,fun j hj hji=>?_⟩
 ·rw [putN_map]; exact asc_putIn hP h.asc (fun e=>hy (memP.1 e))
 ·rcases mem_putN.1 hy with e | rfl
  ·exact h.inG y e
  ·exact hG
 ·rcases List.mem_append.1 hy with e | e
  ·exact mem_putN.2 (.inl (h.sub y e))
  ·exact mem_putN.2 (.inr (by simpa using e))
 ·rcases mem_putN.1 hz with e | rfl
  ·rcases h.clo z e with e | e | e
   ·exact .inl (List.mem_append_left _ e)
   ·exact .inr (.inl e)
   ·exact .inr (.inr fun g hg=>mem_putN.2 (.inl (e g hg)))
  ·exact .inl (by simp)
 ·rcases Nat.lt_or_ge j i with e | e
  ·exact mem_putN.2 (.inl (h.don j hj e))
  ·obtain rfl:j=i:=by omega
   exact mem_putN.2 (.inr rfl)
theorem EJ.out {d:Nat} {gs:List (List Nat)} {most:Nat} {A T:List (List Nat)} {x:List Nat} {i:Nat} (h:EJ d gs most A T x i) (hi:gs.length≤i):EO d gs most A T :=
 ⟨h.asc,h.inG,h.one,h.sub,h.le,h.tl,fun z hz=>by
  rcases h.clo z hz with e | rfl | e
  ·exact .inl e
  ·refine .inr fun g hg=>?_
   obtain ⟨j,hj,rfl⟩:=List.getElem_of_mem hg;exact h.don j hj (by omega)
  ·exact .inr e⟩
theorem EO.done {d:Nat} {gs:List (List Nat)} {most:Nat} {A:List (List Nat)} (h:EO d gs most A []) (hg:∀ s∈gs,Gd d s):AllE d gs A :=
 ⟨h.asc,fun y=>⟨h.inG y,fun hy=>Cm.gr_ind hg (P:=fun z=>z∈A) h.one (fun x s _ hx hs=>by
  rcases h.clo x hx with e | e
  ·simp at e
  ·exact e s hs) hy⟩⟩
theorem asc_nodup {A:List (List Nat)} (h:Asc (A.map Ma.ofN)):A.Nodup:=by
 rw [asc_iff] at h;rw [List.pairwise_map] at h
 exact h.imp fun hab e=>by subst e; rw [lessL_irr] at hab; cases hab
theorem RowH.at {B:Nat} {F M:Nat→Prop} {W:World} {v:Value} {l:List (List Nat)} (h:RowH B F M W v l) {i:Nat} (hi:i<l.length):∃ b c u,v=.slice (some ⟨b,0,none⟩) l.length c∧l.length≤c∧b<W.heap.size∧W.cell? ⟨b,i,none⟩=some u∧FP F W u l[i]:=by
 obtain ⟨us,h1,h2⟩:=h.own;obtain ⟨-,a,c,rfl,h3,h4,h5⟩:=Rg.own_elts h1 h2;rw [List.length_map] at h3;obtain ⟨g,rfl,hg,hx⟩:=h5 (by rw [List.length_map]; omega);obtain ⟨u,hu1,hu2⟩:=hx i (by simpa using hi);exact ⟨g,c,u,congrArg (fun n=>Value.slice _ n c) (List.length_map ..),h3,hg,hu1,by rw [List.getElem_map] at hu2; exact hu2⟩
theorem FP.nil0 (F:Nat→Prop) (w:World):FP F w (.slice none 0 0) []:=⟨none,0,rfl,Nat.le_refl _,Nat.zero_le _,Nat.zero_le _,fun h=>absurd h (Nat.lt_irrefl 0)⟩

theorem RowH.one {B:Nat} {F M:Nat→Prop} {W:World} {u:Value} {x:List Nat} (hB:B≤W.heap.size) (hu:FP F W u x) (hs:∃ a m c,u=.slice a m c) (hF:∀ k,F k→k<W.heap.size) (hM:∀ k,M k→k<W.heap.size) :
  RowH B F M (W.alloc (.cells #[u] 30)) (.slice (some ⟨W.heap.size,0,none⟩) 1 1) [x]:=by
 have hb:Below W.heap.size W (W.alloc (.cells #[u] 30)):=(Below.refl _ _).alloc (Nat.le_refl _) _;refine ⟨Nat.le_trans hB hb.size,⟨[u],⟨rfl,.inr ⟨W.heap.size,1,#[u],rfl,hB,by show (W.heap.push _)[W.heap.size]?=_; simp,Nat.le_refl _,by decide,rfl,rfl⟩⟩,?_⟩,fun k e=>?_⟩
 ·exact Rg.FElts.one (Rg.FI.kp hu (Rg.Kp.of_below hb) (fun _ _=>id))
 ·simp only [Value.ownBlock,Option.some.injEq] at e
  subst e;exact ⟨fun h=>Nat.lt_irrefl _ (hF _ h),fun h=>Nat.lt_irrefl _ (hM _ h)⟩
end Go.Proofs.YtdnmmibchbceeaaGreat

namespace Go.Proofs.YtdnmmibchbceeaaGreat
open Go.Proofs
open Go.Proofs.Cm (Gr Gd IsChain IsG St Fx ap Lst)
def mulAll (r A:List (List Nat)):List (List Nat):=r.flatMap fun u=>A.map (Ma.mulN u)
theorem len_mulAll (r A:List (List Nat)):(mulAll r A).length=r.length*A.length:=by
 unfold mulAll
 induction r with
 | nil=>simp
 | cons u r ih=>rw [List.flatMap_cons,List.length_append,ih,List.length_map,List.length_cons,Nat.succ_mul,Nat.add_comm]
theorem mem_mulAll {r A:List (List Nat)} {x:List Nat}:x∈mulAll r A↔∃ u∈r,∃ z∈A,Ma.mulN u z=x:=by
 unfold mulAll;simp only [List.mem_flatMap,List.mem_map]
def prodK (n:Nat) (R:List (List (List Nat))):Nat→List (List Nat)
 | 0=>[Ma.oneN n]
 | i+1=>mulAll (R.getD i []) (prodK n R i)
structure PK (n:Nat) (H:List Nat→Prop) (i:Nat) (L:List (List Nat)):Prop where
 inH:∀ z∈L,H z
 all:∀ x,H x→∃ s z,St H i s∧z∈L∧x=Ma.mulN s z
 sep:∀ z z' s s',z∈L→z'∈L→St H i s→St H i s'→Ma.mulN s z=Ma.mulN s' z'→z=z'
 nd:L.Nodup
theorem PK.zero {n:Nat} {H:List Nat→Prop} (hH:IsG n H):PK n H 0 [Ma.oneN n] :=
 ⟨fun z hz=>by rw [List.mem_singleton] at hz; subst hz; exact hH.one,fun x hx=>⟨x,Ma.oneN n,⟨hx,fun j hj=>absurd hj (Nat.not_lt_zero _)⟩,by simp,(Cm.mul_one (hH.gd x hx)).symm⟩,fun z z' _ _ hz hz' _ _ _=>by rw [List.mem_singleton] at hz hz'; rw [hz,hz'],by simp⟩
theorem rep_at {n:Nat} {H:List Nat→Prop} {O:List (List Nat)} {R:List (List (List Nat))} (h:IsChain n H O R) {i:Nat} (hi:i<n) {k:Nat} (hk:k<(R.getD i []).length):Lst n (fun z=>St H i z∧ap z i=(O.getD i []).getD k 0) (R.getD i [])[k]:=by
 have:=h.rep i k hi (by rw [← h.len i hi]; exact hk)
 rwa [Cm.getD_in hk] at this
theorem rep_mem {n:Nat} {H:List Nat→Prop} {O:List (List Nat)} {R:List (List (List Nat))} (h:IsChain n H O R) {i:Nat} (hi:i<n) {u:List Nat} (hu:u∈R.getD i []):Lst n (fun z=>St H i z∧ap z i=ap u i) u:=by
 obtain ⟨k,hk,rfl⟩:=List.getElem_of_mem hu;have:=rep_at h hi hk;have e:=this.1.2;rw [← e] at this;exact this
theorem rep_of {n:Nat} {H:List Nat→Prop} {O:List (List Nat)} {R:List (List (List Nat))} (h:IsChain n H O R) {i:Nat} (hi:i<n) {s:List Nat} (hs:St H i s):∃ u∈R.getD i [],St H i u∧ap u i=ap s i:=by
 obtain ⟨k,hk,e⟩:=List.getElem_of_mem ((h.orb i (ap s i) hi).2 ⟨s,hs,rfl⟩)
 have hk2:k<(R.getD i []).length:=by rw [h.len i hi]; exact hk
 have h1:=(rep_at h hi hk2).1;refine ⟨_,List.getElem_mem hk2,h1.1,?_⟩;rw [h1.2,Cm.getD_in hk,e]
theorem rep_pair {n:Nat} {H:List Nat→Prop} {O:List (List Nat)} {R:List (List (List Nat))} (h:IsChain n H O R) {i:Nat} (hi:i<n):(R.getD i []).Pairwise (fun u v=>ap u i<ap v i):=by
 rw [List.pairwise_iff_getElem];intro a b ha hb hab
 have ha2:a<(O.getD i []).length:=by rw [← h.len i hi]; exact ha
 have hb2:b<(O.getD i []).length:=by rw [← h.len i hi]; exact hb
 rw [(rep_at h hi ha).1.2,(rep_at h hi hb).1.2,Cm.getD_in ha2,Cm.getD_in hb2];exact (List.pairwise_iff_getElem.1 (h.asc i hi)) a b ha2 hb2 hab
theorem PK.step {n:Nat} {H:List Nat→Prop} (hH:IsG n H) {O:List (List Nat)} {R:List (List (List Nat))} (h:IsChain n H O R) {i:Nat} (hi:i<n) {L:List (List Nat)} (hL:PK n H i L):PK n H (i+1) (mulAll (R.getD i []) L):=by
 have key:∀ u z u' z' s s',u∈R.getD i []→u'∈R.getD i []→z∈L→z'∈L→St H (i+1) s→St H (i+1) s'→Ma.mulN s (Ma.mulN u z)=Ma.mulN s' (Ma.mulN u' z')→z=z'∧u=u':=by
  intro u z u' z' s s' hu hu' hz hz' hs hs' e;have l1:=rep_mem h hi hu;have l2:=rep_mem h hi hu';have gs:=hH.gd _ hs.1;have gs':=hH.gd _ hs'.1;have gu:=hH.gd _ l1.1.1.1;have gu':=hH.gd _ l2.1.1.1;rw [← Cm.mul_assoc gs gu,← Cm.mul_assoc gs' gu'] at e;have a1:St H i (Ma.mulN s u):=⟨hH.mul _ _ hs.1 l1.1.1.1,Fx.mul gs (Nat.le_of_lt hi) (hs.2.mono (Nat.le_succ _)) l1.1.1.2⟩;have a2:St H i (Ma.mulN s' u'):=⟨hH.mul _ _ hs'.1 l2.1.1.1,Fx.mul gs' (Nat.le_of_lt hi) (hs'.2.mono (Nat.le_succ _)) l2.1.1.2⟩;have ez:=hL.sep z z' _ _ hz hz' a1 a2 e;subst ez;have gz:=hH.gd _ (hL.inH z hz);have e2:=congrArg (fun t=>Ma.mulN t (Ma.invN z)) e;simp only [Cm.mul_cancel_inv (Cm.gd_mul gs gu) gz,Cm.mul_cancel_inv (Cm.gd_mul gs' gu') gz] at e2;have e3:=congrArg (fun t=>ap t i) e2;simp only [Cm.ap_mul gs hi,Cm.ap_mul gs' hi,hs.2 i (Nat.lt_succ_self _),hs'.2 i (Nat.lt_succ_self _)] at e3
  rw [← e3] at l2;exact ⟨rfl,l1.uniq l2⟩
 refine ⟨fun y hy=>?_,fun x hx=>?_,fun y y' s s' hy hy' hs hs' e=>?_,?_⟩
 ·obtain ⟨u,hu,z,hz,rfl⟩:=mem_mulAll.1 hy
  exact hH.mul _ _ (rep_mem h hi hu).1.1.1 (hL.inH z hz)
 ·obtain ⟨s,z,hs,hz,rfl⟩:=hL.all x hx
  obtain ⟨u,hu,su,eu⟩:=rep_of h hi hs;have gs:=hH.gd _ hs.1;have gu:=hH.gd _ su.1;refine ⟨Ma.mulN s (Ma.invN u),Ma.mulN u z,⟨hH.mul _ _ hs.1 (hH.inv _ su.1),fun j hj=>?_⟩,mem_mulAll.2 ⟨u,hu,z,hz,rfl⟩,?_⟩
  ·rw [Cm.ap_mul gs (by omega)]
   rcases Nat.lt_or_ge j i with e | e
   ·rw [hs.2 j e]
    exact Fx.inv gu (Nat.le_of_lt hi) su.2 j e
   ·obtain rfl:j=i:=by omega
    rw [← eu];exact Cm.ap_inv gu hi
  ·rw [← Cm.mul_assoc (Cm.gd_mul gs (Cm.gd_inv gu)) gu,Cm.mul_inv_cancel gs gu]
 ·obtain ⟨u,hu,z,hz,rfl⟩:=mem_mulAll.1 hy
  obtain ⟨u',hu',z',hz',rfl⟩:=mem_mulAll.1 hy';obtain ⟨rfl,rfl⟩:=key u z u' z' s s' hu hu' hz hz' hs hs' e;rfl
 ·have o1:St H (i+1) (Ma.oneN n):=⟨hH.one,Fx.one (by omega)⟩
  have gm:∀ u∈R.getD i [],∀ z∈L,Gd n (Ma.mulN u z):=fun u hu z hz=>Cm.gd_mul (hH.gd _ (rep_mem h hi hu).1.1.1) (hH.gd _ (hL.inH z hz))
  have k2:∀ u∈R.getD i [],∀ u'∈R.getD i [],∀ z∈L,∀ z'∈L,Ma.mulN u z=Ma.mulN u' z'→z=z'∧u=u':=fun u hu u' hu' z hz z' hz' e =>
   key u z u' z' _ _ hu hu' hz hz' o1 o1 (by rw [e])
  unfold mulAll;rw [List.Nodup,List.pairwise_flatMap];refine ⟨fun u hu=>?_,?_⟩
  ·rw [List.pairwise_map]
   exact List.Pairwise.imp_of_mem (fun {a b} ha hb hne e=>hne (k2 u hu u hu a ha b hb e).1) hL.nd
  ·refine List.Pairwise.imp_of_mem (fun {u v} hu hv hlt x hx y hy e=>?_) (rep_pair h hi)
   obtain ⟨z,hz,rfl⟩:=List.mem_map.1 hx;obtain ⟨z',hz',rfl⟩:=List.mem_map.1 hy;have:=(k2 u hu v hv z hz z' hz' e).2;subst this;omega
theorem prodK_PK {n:Nat} {H:List Nat→Prop} (hH:IsG n H) {O:List (List Nat)} {R:List (List (List Nat))} (h:IsChain n H O R):∀ {i:Nat},i≤n→PK n H i (prodK n R i)
 | 0,_=>PK.zero hH
 | i+1,hi=>PK.step hH h hi (prodK_PK hH h (Nat.le_of_lt hi))
theorem prodK_all {n:Nat} {H:List Nat→Prop} (hH:IsG n H) {O:List (List Nat)} {R:List (List (List Nat))} (h:IsChain n H O R):(prodK n R n).Nodup∧∀ x,x∈prodK n R n↔H x:=by
 have hp:=prodK_PK hH h (Nat.le_refl n);refine ⟨hp.nd,fun x=>⟨hp.inH x,fun hx=>?_⟩⟩;obtain ⟨s,z,hs,hz,rfl⟩:=hp.all x hx;have e:=Fx.all (hH.gd _ hs.1) hs.2;rw [e,Cm.one_mul (hH.gd _ (hp.inH z hz))];exact hz
def fall (n:Nat):Nat→Nat
 | 0=>1
 | i+1=>(n - i)*fall n i
theorem prodK_le {n:Nat} {H:List Nat→Prop} (hH:IsG n H) {O:List (List Nat)} {R:List (List (List Nat))} (h:IsChain n H O R):∀ {i:Nat},i≤n→(prodK n R i).length≤fall n i
 | 0,_=>Nat.le_refl 1
 | i+1,hi=>by
  have h1:=prodK_le hH h (i:=i) (Nat.le_of_lt hi);have h2:=chain_len hH h (i:=i) hi;rw [← h.len i hi] at h2;show (mulAll _ _).length≤_;rw [len_mulAll];exact Nat.mul_le_mul h2 h1
theorem fall_720:∀ n,n<7→∀ i,i<7→i≤n→fall n i≤720:=by decide
theorem prodK_720 {n:Nat} {H:List Nat→Prop} (hH:IsG n H) {O:List (List Nat)} {R:List (List (List Nat))} (h:IsChain n H O R) (hn:n≤6) {i:Nat} (hi:i≤n):(prodK n R i).length≤720 :=
 Nat.le_trans (prodK_le hH h hi) (fall_720 n (by omega) i (by omega) hi)
theorem AllE.len {d:Nat} {gs A:List (List Nat)} (hg:∀ s∈gs,Gd d s) {O:List (List Nat)} {R:List (List (List Nat))} (h:IsChain d (Gr d (·∈gs)) O R) (hA:AllE d gs A):A.length=(prodK d R d).length:=by
 obtain ⟨h1,h2⟩:=prodK_all (Gr.isG hg) h;exact Nat.le_antisymm (nodup_le (asc_nodup hA.1) fun x hx=>(h2 x).2 ((hA.2 x).1 hx)) (nodup_le h1 fun x hx=>(hA.2 x).2 ((h2 x).1 hx))
end Go.Proofs.YtdnmmibchbceeaaGreat

namespace Go.Proofs.YtdnmmibchbceeaaGreat
open Go.RowKit
open Go.Proofs
open Go.Proofs.Cm (Gd Gr ap)
attribute [local irreducible] Go.Calls Go.wpList
theorem FP.own {F:Nat→Prop} {W W':World} {v:Value} {x:List Nat} {m:Nat} (h:W'.ownsRow W.heap.size 3 1 v m ((Ma.ofN x).map (Value.int .i64))) (hm:m≤1000000000):FP (Fup F W W') W' v x :=
 Rg.FVals.of (Rg.Vals.of_row h hm) (fun k e=>.inr (h.lt k e))
end Go.Proofs.YtdnmmibchbceeaaGreat

namespace Go.Proofs.Km
open Go Go.RowKit
open Go.ChangeMaps
structure KT (P:Program) (t k e v:TypeId) (n:Nat) (z:Value):Prop where
 ht:P.underlying t=some (.map k v)
 hk:P.underlying k=some (.array n e)
 he:P.underlying e=some (.int .u8)
 hs:∀ w,(sizeOf e).run P w=.ok 1 w
 hz:∀ w,(zeroValue v).run P w=.ok z w
def keyV (l:List UInt8):Value:=.agg (l.map Go.Extern.Stop.cell).toArray
def KMap (w:World) (r:Nat) (m:List (List UInt8 × Value)):Prop :=
 ∃ es clock,w.heap[r]?=some (.map es clock)∧es.toList.map (fun e=>(e.key,e.val))=m.map (fun x=>(keyV x.1,x.2))
theorem KMap.lt {w:World} {r:Nat} {m:List (List UInt8 × Value)} (h:KMap w r m):r<w.heap.size:=by
 obtain ⟨es,c,h1,_⟩:=h; exact (Array.getElem?_eq_some_iff.1 h1).1
theorem KMap.of_block {w w':World} {r:Nat} {m:List (List UInt8 × Value)} (h:KMap w r m) (e:w'.heap[r]?=w.heap[r]?):KMap w' r m:=by
 obtain ⟨es,c,h1,h2⟩:=h; exact ⟨es,c,e.trans h1,h2⟩
theorem KMap.below {w w':World} {r:Nat} {m:List (List UInt8 × Value)} (h:KMap w r m) (hb:Below w.heap.size w w'):KMap w' r m:=h.of_block (hb.block r h.lt)
theorem KMap.grown {w w':World} {r:Nat} {m:List (List UInt8 × Value)} {k:Option Nat} (h:KMap w r m) (hg:w.grownBy w' k) (hne:some r≠k):KMap w' r m:=h.of_block (hg.block r h.lt hne)
theorem KMap.new (w:World):KMap (w.alloc (.map #[] 0)) w.heap.size []:=⟨#[],0,by unfold World.alloc; simp,rfl⟩
def look (m:List (List UInt8 × Value)) (k:List UInt8):Option Value:=(m.find? (fun x=>k == x.1)).map (·.2)
section
variable {P:Program} {t k e v:TypeId} {n:Nat} {z:Value}
theorem check_items (T:KT P t k e v n z) (em:Bool) (xs:List UInt8) (hx:xs.length=n) (w:World):(Instr.checkKey em 10000 k (keyV xs)).run P w=.ok () w:=by
 rw [show (10000:Nat)=9999+1 from rfl,keyV,Instr.checkKey];simp only [Sem.run_bind,run_underlying T.hk,Result.andThen_ok,Std.Legacy.Range.forIn_eq_forIn_range',Std.Legacy.Range.size,Nat.sub_zero,Nat.add_sub_cancel,Nat.div_one]
 have hl:∀ i∈List.range' 0 n 1,i<n:=fun i hi=>by simpa using (List.mem_range'_1.1 hi).2
 generalize List.range' 0 n 1=l at hl ⊢
 induction l with
 | nil=>simp
 | cons i l ih =>
  have hi:i<n:=hl i (by simp)
  have px:(part e (xs.map Go.Extern.Stop.cell).toArray (i*1)).run P w=.ok (Go.Extern.Stop.cell (xs.getD i 0)) w:=by
   simp [part,isAgg,run_underlying T.he,List.getD,List.getElem?_eq_getElem (show i<xs.length by omega)]
  have pc:(Instr.checkKey em 9999 e (Go.Extern.Stop.cell (xs.getD i 0))).run P w=.ok () w:=by
   rw [show (9999:Nat)=9998+1 from rfl,Instr.checkKey];simp [Sem.run_bind,run_underlying T.he,Go.Extern.Stop.cell]
  simp only [List.forIn_cons,Sem.run_bind,T.hs,px,pc,Result.andThen_ok,Sem.run_pure];exact ih fun j hj=>hl j (by simp [hj])
theorem ask_items (T:KT P t k e v n z) (w:World) (kb:List UInt8) (hk:kb.length=n):∀ (es:List MapEntry) (m:List (List UInt8 × Value)) (i:Nat),
  es.map (fun e=>(e.key,e.val))=m.map (fun x=>(keyV x.1,x.2))→(∀ x∈m,x.1.length=n) →
  ∃ r,(Instr.findAsking k (keyV kb) es i).run P w=.ok r w∧r.map (·.2)=look m kb
 | [],m,i,h,_=>by
  obtain rfl:m=[]:=by cases m; rfl; simp at h
  exact ⟨none,by simp [Instr.findAsking],rfl⟩
 | e0 :: es,m,i,h,hm=>by
  cases m with
  | nil=>simp at h
  | cons x m =>
   simp only [List.map_cons,List.cons.injEq,Prod.mk.injEq] at h;obtain ⟨⟨h1,h2⟩,h3⟩:=h;have hxl:=hm x (by simp)
   have pe:(Op.equal k (keyV kb) e0.key).run P w=.ok (kb == x.1) w:=by
    rw [h1,Op.equal,Op.maxDepth,keyV,keyV];exact run_equalIn_bytes w 9998 k e n T.hk T.he T.hs kb x.1 hk hxl
   obtain ⟨r,hr,hr2⟩:=ask_items T w kb hk es m (i+1) h3 (fun y hy=>hm y (by simp [hy]));rw [Instr.findAsking];simp only [Sem.run_bind,pe,Result.andThen_ok]
   cases hq:(kb == x.1)
   ·refine ⟨r,by simpa using hr,?_⟩
    rw [hr2]; simp [look,hq]
   ·refine ⟨some (i,e0.val),by simp,?_⟩
    simp [look,hq,h2]
theorem find_items (T:KT P t k e v n z) (w:World) (kb:List UInt8) (hk:kb.length=n) (es:List MapEntry) (m:List (List UInt8 × Value))
  (h:es.map (fun e=>(e.key,e.val))=m.map (fun x=>(keyV x.1,x.2))) (hm:∀ x∈m,x.1.length=n) :
  ∃ r,(Instr.findKey k (keyV kb) es).run P w=.ok r w∧r.map (·.2)=look m kb:=by
 unfold Instr.findKey;simp only [Sem.run_bind,run_underlying T.hk,Result.andThen_ok]
 cases es with
 | nil =>
  obtain rfl:m=[]:=by cases m; rfl; simp at h
  exact ⟨none,by simp [Instr.findNow],rfl⟩
 | cons e0 es =>
  have:Instr.findNow (.array n e) (keyV kb) (e0 :: es) 0=none:=by simp [Instr.findNow,Instr.sameNow]
  rw [this];exact ask_items T w kb hk _ m 0 h hm
theorem lookup_ok (T:KT P t k e v n z) {w:World} {r:Nat} {m:List (List UInt8 × Value)} (h:KMap w r m) (hm:∀ x∈m,x.1.length=n) (kb:List UInt8) (hk:kb.length=n) :
  (Instr.lookup t (.map (some r)) (keyV kb) true).run P w=.ok (.tuple #[(look m kb).getD z,.bool (look m kb).isSome]) w:=by
 obtain ⟨es,c,h1,h2⟩:=h;obtain ⟨q,hq,hq2⟩:=find_items T w kb hk es.toList m h2 hm
 cases q with
 | none =>
  have:look m kb=none:=by rw [← hq2]; rfl
  simp [Instr.lookup,run_underlying T.ht,MapKept.run_getObj_map h1,check_items T _ kb hk,hq,T.hz,Result.andThen,this]
 | some x =>
  have:look m kb=some x.2:=by rw [← hq2]; rfl
  simp [Instr.lookup,run_underlying T.ht,MapKept.run_getObj_map h1,check_items T _ kb hk,hq,Result.andThen,this]
theorem lookup_no (T:KT P t k e v n z) {w:World} {r:Nat} {m:List (List UInt8 × Value)} (h:KMap w r m) (hm:∀ x∈m,x.1.length=n) (kb:List UInt8) (hk:kb.length=n) :
  (Instr.lookup t (.map (some r)) (keyV kb) false).run P w=.ok ((look m kb).getD z) w:=by
 obtain ⟨es,c,h1,h2⟩:=h;obtain ⟨q,hq,hq2⟩:=find_items T w kb hk es.toList m h2 hm
 cases q with
 | none =>
  have:look m kb=none:=by rw [← hq2]; rfl
  simp [Instr.lookup,run_underlying T.ht,MapKept.run_getObj_map h1,check_items T _ kb hk,hq,T.hz,Result.andThen,this]
 | some x =>
  have:look m kb=some x.2:=by rw [← hq2]; rfl
  simp [Instr.lookup,run_underlying T.ht,MapKept.run_getObj_map h1,check_items T _ kb hk,hq,Result.andThen,this]
theorem update_new (T:KT P t k e v n z) {w:World} {r:Nat} {m:List (List UInt8 × Value)} (h:KMap w r m) (hm:∀ x∈m,x.1.length=n) (kb:List UInt8) (hk:kb.length=n) (hno:look m kb=none) (val:Value) :
  ∃ w',(Instr.mapUpdate t (.map (some r)) (keyV kb) val).run P w=.ok () w'∧KMap w' r (m++[(kb,val)])∧w.grownBy w' (some r):=by
 obtain ⟨es,c,h1,h2⟩:=h;obtain ⟨q,hq,hq2⟩:=find_items T w kb hk es.toList m h2 hm;rw [hno] at hq2
 have:q=none:=by cases q; rfl; simp at hq2
 subst this;refine ⟨setBlock w r (.map (es.push ⟨keyV kb,val,c⟩) (c+1)),?_,⟨_,_,heap_setBlock_same h1 _,?_⟩,⟨rfl,rfl,rfl,by simp [setBlock],fun i _ hi=>heap_setBlock_other h1 _ (fun e=>hi (by rw [e]))⟩⟩
 ·simp [Instr.mapUpdate,run_underlying T.ht,MapKept.run_getObj_map h1,check_items T _ kb hk,hq,MapKept.run_setObj_map _ h1,Result.andThen,setBlock]
 ·simp [h2]
end
end Go.Proofs.Km

namespace Go.Proofs.YtdnmmibchbceeaaGreat
open Go.RowKit
open Go.Proofs
attribute [local irreducible] Go.Calls
def kb (p:List Nat):List UInt8:=(List.range 64).map fun i=>UInt8.ofNat (p.getD i 0)
def GK (d:Nat) (p:List Nat):Prop:=p.length=d∧d≤64∧∀ x∈p,x<256
theorem GK.getD {d:Nat} {p:List Nat} (h:GK d p) (i:Nat):p.getD i 0<256:=by
 by_cases hi:i<p.length
 ·rw [Ma.getD_lt hi]; exact h.2.2 _ (List.getElem_mem hi)
 ·rw [List.getD_eq_getElem?_getD,List.getElem?_eq_none (by omega)]; decide
end Go.Proofs.YtdnmmibchbceeaaGreat

namespace Go.Proofs.YtdnmmibchbceeaaGreat
open Go.RowKit
open Go.Proofs
open Go.Proofs.Ob
attribute [local irreducible] Go.Calls Go.wpList
theorem mkInts (n:Nat) (hn:n≤1000000) (w:World):(Instr.makeSlice 25 (.int .i64 (n:Int)) (.int .i64 (n:Int))).run Tryz.prog w=.ok (.slice (some ⟨w.heap.size,0,none⟩) n n) (w.alloc (.cells (madeCells #[.int .i64 0] n) 3)) :=
 run_make_row' 25 3 (.int .i64 0) 8 Tryz.underlying25 infoInt rfl .i64 .i64 n (by omega) (by omega) w
end Go.Proofs.YtdnmmibchbceeaaGreat

namespace Go.Proofs.YtdnmmibchbceeaaGreat
open Go.RowKit
open Go.Proofs
open Go.Proofs.Ob
open Go.Proofs.Cm (Gd Gr IsChain ap)
attribute [local irreducible] Go.Calls Go.wpList
def szD (O:List (List Nat)) (N:Nat):Nat→Nat
 | 0=>1
 | d+1=>(O.getD (N - (d+1)) []).length*szD O N d
theorem szD_le {O:List (List Nat)} {N:Nat} (hN:N≤12) (h:∀ i,i<N→(O.getD i []).length≤N - i):∀ d,d≤N→szD O N d≤12 ^ d
 | 0,_=>Nat.le_refl _
 | d+1,hd=>by
  have h1:=szD_le hN h d (by omega);have h2:=h (N - (d+1)) (by omega);show _*szD O N d≤12 ^ (d+1);rw [Nat.pow_succ,Nat.mul_comm (12 ^ d) 12];exact Nat.mul_le_mul (by omega) h1
theorem quo_big {n:Nat} (h1:1≤n) (h2:n≤12):(8916100448256:Int)≤Int.tdiv 1000000000000000000 ((n:Nat):Int):=by
 have key:∀ n:Fin 13,1≤n.1→(8916100448256:Int)≤Int.tdiv 1000000000000000000 ((n.1:Nat):Int):=by decide
 exact key ⟨n,by omega⟩ h1
def szF (O:List (List Nat)) (N i:Nat) (j:Nat):Int:=if i≤j then ((szD O N (N - j):Nat):Int) else 0
theorem sz_step {O:List (List Nat)} {N i:Nat} (hi:i<N):∀ t,t<N+1→(if t=i then (((O.getD i []).length*szD O N (N - (i+1)):Nat):Int) else szF O N (i+1) t)=szF O N i t:=fun t _=>by
 unfold szF
 by_cases e:t=i
 ·subst e
  rw [if_pos rfl,if_pos (Nat.le_refl _),show N - t=(N - (t+1))+1 by omega,szD,show N - (N - (t+1)+1)=t by omega]
 ·rw [if_neg e]
  by_cases h:i≤t
  ·rw [if_pos (by omega),if_pos h]
  ·rw [if_neg (by omega),if_neg h]
def SzPost (O:List (List Nat)) (N:Nat) (w:World) (ed:Ending) (w':World):Prop:=∃ g,ed=.returned (.tuple #[.slice (some ⟨g,0,none⟩) (N+1) (N+1),.bool true])∧RwAt w' g (N+1) (szF O N 0)∧w.heap.size≤g∧Below w.heap.size w w'
theorem rkSizes_any {N:Nat} {H:List Nat→Prop} {O:List (List Nat)} {R:List (List (List Nat))} (hn1:1≤N) (hn2:N≤12) (hH:Cm.IsG N H) (hch:IsChain N H O R) {ov rv:Value} {w:World} (h:ChEqR w ov rv (O.map Ma.ofN) (R.map (List.map Ma.ofN))) :
  Calls Tryz.prog 100 #[.agg #[.int .i64 ((N:Nat):Int),ov,rv]] w (SzPost O N w):=by
 obtain ⟨ob,oo,oc,rb,ro,rc,rfl,rfl,-,-⟩:=level_rows hch h (i:=0) hn1;have HH:=ι hH;have HCH:=ι hch;have CE:=ι h;have HN2:=ι hn2;have K:=ι (Below.refl w.heap.size w);have HLE:=ι (fun i hi=>chain_len hH hch (i:=i) hi);have HPO:=ι (fun i (hi:i<N)=>List.length_pos_of_mem ((hch.orb i i hi).2 ⟨Ma.oneN N,⟨hH.one,Cm.Fx.one (by omega)⟩,Cm.ap_one hi⟩));clear h hH hch
 go_enter Tryz.func100,Tryz.ntmps100
 go_upto_region 0 with (fail);refine Rg.wl ?_;have hbx:=box3 w (.int .i64 ((N:Nat):Int)) (.slice (some ⟨ob,oo,none⟩) N oc) (.slice (some ⟨rb,ro,none⟩) N rc);refine Rg.lr 1 (Rg.exec_box _ _ rfl rfl) ?_;go_frame;have hb:=(Below.refl w.heap.size w).alloc (Nat.le_refl _) (.cells #[.int .i64 ((N:Nat):Int),.slice (some ⟨ob,oo,none⟩) N oc,.slice (some ⟨rb,ro,none⟩) N rc] 87);generalize w.alloc (.cells #[.int .i64 ((N:Nat):Int),.slice (some ⟨ob,oo,none⟩) N oc,.slice (some ⟨rb,ro,none⟩) N rc] 87)=w1 at *;replace CE:=ι (CE.out.below hb);replace K:=ι (Rg.acc K.out hb);clear hb;have A0:=ι hbx.1;have A1:=ι hbx.2.1;have A2:=ι hbx.2.2;clear hbx;refine Rg.la 2 (.slice none 0 0) ?_;go_frame;refine Rg.la 3 (.bool false) ?_;go_frame;go_upto_region 1 with (fail);refine Rg.wl ?_;refine Rg.lr 7 (exec_field _ rfl rfl (chF0 _ _)) ?_;go_frame;refine Rg.lr 8 (Rg.exec_load (v:=.int .i64 ((N:Nat):Int)) _ _ rfl ⟨w.heap.size,0,none⟩ rfl (run_loadInt A0.out.cell)) ?_;go_frame
 refine Rg.lr 9 (exec_bin (R:=.int .i64 (((N+1):Nat):Int)) .add _ _ _ rfl rfl rfl (b_add _ (by omega) (by omega))) ?_;go_frame;refine Rg.lr 10 (exec_makeSlice _ _ _ rfl _ _ rfl rfl (mkInts (N+1) (by omega) w1)) ?_;go_frame;refine Rg.la 4 (.slice (some ⟨w1.heap.size,0,none⟩) (N+1) (N+1)) ?_;go_frame;have hrw:=made_rowH w1 (N+1);have hbw:Below w1.heap.size w1 (w1.alloc (.cells (madeCells #[.int .i64 0] (N+1)) 3)):=(Below.refl _ _).alloc (Nat.le_refl _) _;obtain ⟨gb,hgb⟩:∃ b,w1.heap.size=b:=⟨_,rfl⟩;have HGB:=ι (show w1.heap.size≤gb from Nat.le_of_eq hgb);rw [hgb] at hrw ⊢;generalize w1.alloc (.cells (madeCells #[.int .i64 0] (N+1)) 3)=wf at *;have RW:=ι hrw;have KE:=ι hbw;have HWG:=ι (show w.heap.size≤gb from Nat.le_trans K.out.size HGB.out);clear hrw hbw hgb;go_upto_region 2 with (fail);refine Rg.wl ?_;refine Rg.lm 11 (.slice (some ⟨gb,0,none⟩) (N+1) (N+1)) ?_;go_frame
 refine Rg.lr 12 (exec_field _ rfl rfl (chF0 _ _)) ?_;go_frame;refine Rg.lr 13 (Rg.exec_load (v:=.int .i64 ((N:Nat):Int)) _ _ rfl ⟨w.heap.size,0,none⟩ rfl (run_loadInt ((Below.cell (p:=⟨w.heap.size,0,none⟩) KE.out A0.out.lt).trans A0.out.cell))) ?_;go_frame;refine Rg.lr 14 (exec_indexS slInts _ _ rfl gb (0) ((N+1)) (N+1) (N) rfl rfl (Nat.lt_succ_self N)) ?_;go_frame;refine Rg.list_skip none rfl rfl (Rg.exec_store _ _ _ rfl _ rfl _ rfl (run_storeInt 1 (by rw [Nat.zero_add]; exact RW.out.2.1 N (Nat.lt_succ_self N)) (by rw [Nat.zero_add]; exact RW.out.2.2 N))) ?_;go_frame
 have hrw:RwAt (wf.setCell ⟨gb,0+N,none⟩ (.int .i64 1)) gb (N+1) (szF O N N):=by
  rw [Nat.zero_add];refine (RW.out.set N 1 (Nat.lt_succ_self N)).congr fun t ht=>?_;unfold szF
  by_cases e:t=N
  ·subst e; rw [if_pos rfl,if_pos (Nat.le_refl _),Nat.sub_self]; rfl
  ·rw [if_neg e,if_neg (by omega)]
 have hkw:=KE.out.setCell (p:=⟨gb,0+N,none⟩) HGB.out (.int .i64 1);generalize wf.setCell ⟨gb,0+N,none⟩ (.int .i64 1)=wg at *;clear RW KE;have RW:=ι hrw;have KE:=ι hkw;clear hrw hkw;obtain ⟨i0,hi0⟩:∃ i0,Hid (N=i0+1):=⟨N - 1,ι (by omega)⟩;go_upto_region 3 with (fail);refine Rg.wl ?_;refine Rg.lr 15 (exec_field _ rfl rfl (chF0 _ _)) ?_;go_frame;refine Rg.lr 16 (Rg.exec_load (v:=.int .i64 ((N:Nat):Int)) _ _ rfl ⟨w.heap.size,0,none⟩ rfl (run_loadInt ((Below.cell (p:=⟨w.heap.size,0,none⟩) KE.out A0.out.lt).trans A0.out.cell))) ?_;go_frame;refine Rg.lr 17 (exec_bin (R:=.int .i64 (((N:Nat):Int) - 1)) .sub _ _ _ rfl rfl rfl (b_sub _ (by omega) (by omega))) ?_;go_frame;refine Rg.la 5 (.int .i64 (((N:Nat):Int) - 1)) ?_;go_frame;have KX:=KE;clear hi0 i0;go_wp2
 go_loopw [5] (fun iv wr=>∃ i:Nat,iv=.int .i64 (((i:Nat):Int) - 1)∧i≤N∧Hid (RwAt wr gb (N+1) (szF O N i))∧Hid (Below w1.heap.size w1 wr)) (fun iv _=>(intOf iv+1).toNat)
 case atStart=>exact ⟨N,rfl,Nat.le_refl _,RW,KE⟩
 case round =>
  clear RW KE KX;obtain ⟨i,rfl,hi,RW,KE⟩:=hrel;generalize wr=wd at *;have hn12:N≤12:=HN2.out
  cases i with
  | zero =>
   have KT:=ι (show Below w.heap.size w wd from K.out.trans (KE.out.mono K.out.size));go_upto_region 4 with (fail);refine Rg.wl ?_;refine Rg.lm 18 (.int .i64 (((0:Nat):Int) - 1)) ?_;go_frame;refine Rg.lr 19 (exec_bin (R:=.bool false) .geq _ _ _ rfl rfl rfl (b_geq _ Rg.dF)) ?_;go_frame;go_upto_region 10 with (fail);refine Rg.wl ?_;refine Rg.lm 46 (.slice (some ⟨gb,0,none⟩) (N+1) (N+1)) ?_;go_frame;refine Rg.la 2 (.slice (some ⟨gb,0,none⟩) (N+1) (N+1)) ?_;go_frame;refine Rg.la 3 (.bool true) ?_;go_frame;go_wp2
   go_ret2
   exact ⟨gb,rfl,RW.out,HWG.out,KT.out⟩
  | succ i =>
   have HI:=ι (show i<N by omega)
   have hin:i<N:=by omega
   obtain ⟨ob',oo',oc',rb',ro',rc',e1,e2,⟨ua,uc,hco,hoi⟩,-⟩:=level_rows HCH.out CE.out hin
   injection e1 with e1 _ e9
   subst e9
   injection e1 with e1
   injection e1 with e3 e4
   subst e3 e4;clear e2;obtain ⟨n,hn⟩:∃ n:Nat,Hid ((O.getD i []).length=n):=⟨_,ι rfl⟩;have hnle:=HLE.out i hin;have hnpo:=HPO.out i hin;rw [hn.out] at hco hnle hnpo;have CO:=ι hco;obtain ⟨s,hs⟩:∃ s:Nat,Hid (szD O N (N - (i+1))=s):=⟨_,ι rfl⟩
   have hsle:s≤743008370688:=by
    have h5:=szD_le hn12 HLE.out (N - (i+1)) (by omega);rw [hs.out] at h5;have h6:=Nat.pow_le_pow_right (n:=12) (by decide) (show N - (i+1)≤11 by omega)
    have e:(12:Nat) ^ 11=743008370688:=by decide
    omega
   obtain ⟨q,hq⟩:∃ q:Int,Hid (Int.tdiv 1000000000000000000 ((n:Nat):Int)=q):=⟨_,ι rfl⟩
   have hqb:8916100448256≤q:=by rw [← hq.out]; exact quo_big hnpo (by omega)
   have hqt:q≤1000000000000000000:=by rw [← hq.out]; exact Int.tdiv_le_self _ (by decide)
   have HQF:=ι (show decide (((s:Nat):Int) > q)=false from decide_eq_false (by omega));have HQB:=ι (show -9223372036854775808≤q∧q≤9223372036854775807 by omega);have HN0:=ι (show ((n:Nat):Int)≠0 by omega)
   have hpr:n*s≤8916100448256:=by
    have h5:=Nat.mul_le_mul (show n≤12 by omega) hsle;omega
   have HPR:=ι (show ((n:Nat):Int)*((s:Nat):Int)=(((n*s):Nat):Int) by rw [Int.natCast_mul]);have HPB:=ι (show -9223372036854775808≤(((n*s):Nat):Int)∧(((n*s):Nat):Int)≤9223372036854775807 by omega)
   have CSZ:=ι (show CL wd gb (0+(i+1)) (.int .i64 ((s:Nat):Int)) from CL.mk (by
    rw [Nat.zero_add,RW.out.2.1 (i+1) (by omega)];unfold szF
    rw [if_pos (Nat.le_refl _),hs.out]) RW.out.1)
   clear hco hoi hsle hqb hqt hpr;have EI:=ι (show ((((i+1:Nat)):Int) - 1)=((i:Nat):Int) by omega);rw [EI.out];go_upto_region 4 with (fail);refine Rg.wl ?_;refine Rg.lm 18 (.int .i64 ((i:Nat):Int)) ?_;go_frame;refine Rg.lr 19 (exec_bin (R:=.bool true) .geq _ _ _ rfl rfl rfl (b_geq _ Rg.dT)) ?_;go_frame;go_upto_region 6 with (fail);refine Rg.wl ?_;refine Rg.lr 22 (exec_field _ rfl rfl (chF1 _ _)) ?_;go_frame;refine Rg.lr 23 (Rg.exec_load (v:=.slice (some ⟨ob,oo,none⟩) N oc) _ _ rfl ⟨w.heap.size,1,none⟩ rfl (Rg.run_loadSl _ _ Tryz.underlying84 ((Below.cell (p:=⟨w.heap.size,1,none⟩) KE.out A1.out.lt).trans A1.out.cell))) ?_;go_frame;refine Rg.lm 24 (.int .i64 ((i:Nat):Int)) ?_;go_frame;refine Rg.lr 25 (exec_indexS slIntss _ _ rfl ob (oo) (N) oc (i) rfl rfl HI.out) ?_;go_frame;refine Rg.lr 26 (Rg.exec_load (v:=.slice ua n uc) _ _ rfl ⟨ob,oo+i,none⟩ rfl (Rg.run_loadSl _ _ Tryz.underlying25 ((Below.cell (p:=⟨ob,oo+i,none⟩) KE.out CO.out.lt).trans CO.out.cell))) ?_;go_frame
   refine Rg.lr 27 (exec_len _ _ _ rfl Tryz.underlying25 _ _ _ rfl) ?_;go_frame;refine Rg.la 6 (.int .i64 ((n:Nat):Int)) ?_;go_frame;go_upto_region 7 with (fail);have hV0:Below wd.heap.size wd wd.drew:=(Below.refl _ _).drew;replace CSZ:=ι (CSZ.out.below hV0);replace RW:=ι (RW.out.below hV0);replace KE:=ι (Rg.acc KE.out hV0);clear hV0;refine Rg.Any.begin (S:=Rg.Both 7 (fun W=>Below wd.drew.heap.size wd.drew W) (fun W=>Below w1.heap.size w1 W)) mix ?_;generalize wd.drew=w57 at *;have hS:∀ (l:Array Bool) W,Below w57.heap.size w57 W→Below w1.heap.size w1 W→Rg.Both 7 (fun W=>Below w57.heap.size w57 W) (fun W=>Below w1.heap.size w1 W) l W:=fun l W h h2=>⟨.inr h,h2⟩;have hS2:∀ (l:Array Bool) W,l.getD 7 false=true→Below w1.heap.size w1 W→Rg.Both 7 (fun W=>Below w57.heap.size w57 W) (fun W=>Below w1.heap.size w1 W) l W:=fun l W h h2=>⟨.inl h,h2⟩
   have hI:=KE.out;refine Rg.tg 0 7 (.slice (some ⟨gb,0,none⟩) (N+1) (N+1)) 28 rfl rfl (.inl ⟨rfl,fun w _=>Rg.exec_move (v:=.slice (some ⟨gb,0,none⟩) (N+1) (N+1)) _ rfl rfl⟩) (hS _ _ (Below.refl _ _) hI) ?_;go_frame;refine Rg.tg 1 7 (.int .i64 ((i:Nat):Int)) 29 rfl rfl (.inl ⟨rfl,fun w _=>Rg.exec_move (v:=.int .i64 ((i:Nat):Int)) _ rfl rfl⟩) (hS _ _ (Below.refl _ _) hI) ?_;go_frame;refine Rg.tg 2 7 (.int .i64 (((i+1):Nat):Int)) 30 rfl rfl (.inl ⟨rfl,fun w _=>exec_bin (R:=.int .i64 (((i+1):Nat):Int)) .add _ _ _ rfl rfl rfl (b_add _ (by omega) (by omega))⟩) (hS _ _ (Below.refl _ _) hI) ?_;go_frame;refine Rg.tg 3 7 (.pointer (some ⟨gb,0+(i+1),none⟩)) 31 rfl rfl (Rg.yields_index slInts _ _ rfl rfl gb (0) ((N+1)) (N+1) ((i+1)) rfl rfl (by omega)) (hS _ _ (Below.refl _ _) hI) ?_;go_frame;refine Rg.Any.takeT (i:=4) (t:=7) (v:=.int .i64 ((s:Nat):Int)) (some 32) rfl rfl (by kernel_rfl) (by kernel_rfl) (by kernel_rfl) (fun _ _ _ h=>h) rfl (by kernel_rfl) rfl (Rg.yields_cell _ _ rfl rfl ⟨gb,0+(i+1),none⟩ rfl (fun W hW=>run_loadInt ((Below.cell (p:=⟨gb,0+(i+1),none⟩) hW CSZ.out.lt).trans CSZ.out.cell))) (hS _ _ (Below.refl _ _) hI) ?_;go_frame
   refine Rg.tg 5 7 (.int .i64 ((n:Nat):Int)) 33 rfl rfl (.inl ⟨rfl,fun w _=>Rg.exec_move (v:=.int .i64 ((n:Nat):Int)) _ rfl rfl⟩) (hS _ _ (Below.refl _ _) hI) ?_;go_frame;refine Rg.tg 6 7 (.int .i64 q) 34 rfl rfl (.inl ⟨rfl,fun w _=>exec_bin (R:=.int .i64 q) .quo _ _ _ rfl rfl rfl (b_quo _ HN0.out hq.out HQB.out)⟩) (hS _ _ (Below.refl _ _) hI) ?_;go_frame;refine Rg.Any.one (i:=7) (by kernel_rfl) (Rg.Any.run (some 35) rfl rfl rfl (exec_bin (R:=.bool false) .gtr _ _ _ rfl rfl rfl (b_gtr _ HQF.out)) (hS2 _ _ rfl hI) ?_);go_frame;refine Rg.Any.done (by kernel_rfl) ?_ _;replace KE:=ι hI;clear hS2;clear hS hI;go_upto_region 9 with (fail);refine Rg.wl ?_;refine Rg.lm 36 (.slice (some ⟨gb,0,none⟩) (N+1) (N+1)) ?_;go_frame;refine Rg.lm 37 (.int .i64 ((i:Nat):Int)) ?_;go_frame;refine Rg.lm 38 (.int .i64 ((n:Nat):Int)) ?_;go_frame;refine Rg.lm 39 (.slice (some ⟨gb,0,none⟩) (N+1) (N+1)) ?_;go_frame
   refine Rg.lm 40 (.int .i64 ((i:Nat):Int)) ?_;go_frame;refine Rg.lr 41 (exec_bin (R:=.int .i64 (((i+1):Nat):Int)) .add _ _ _ rfl rfl rfl (b_add _ (by omega) (by omega))) ?_;go_frame;refine Rg.lr 42 (exec_indexS slInts _ _ rfl gb (0) ((N+1)) (N+1) ((i+1)) rfl rfl (by omega)) ?_;go_frame;refine Rg.lr 43 (Rg.exec_load (v:=.int .i64 ((s:Nat):Int)) _ _ rfl ⟨gb,0+(i+1),none⟩ rfl (run_loadInt CSZ.out.cell)) ?_;go_frame;refine Rg.lr 44 (exec_bin (R:=.int .i64 (((n*s):Nat):Int)) .mul _ _ _ rfl rfl rfl (b_mul _ HPR.out HPB.out)) ?_;go_frame;refine Rg.lr 45 (exec_indexS slInts _ _ rfl gb (0) ((N+1)) (N+1) (i) rfl rfl (by omega)) ?_;go_frame;refine Rg.list_skip none rfl rfl (Rg.exec_store _ _ _ rfl _ rfl _ rfl (run_storeInt (((n*s):Nat):Int) (by rw [Nat.zero_add]; exact RW.out.2.1 i (by omega)) (by rw [Nat.zero_add]; exact RW.out.2.2 i))) ?_;go_frame
   have RW9:=RW;have hkw:=KE.out.setCell (p:=⟨gb,0+i,none⟩) HGB.out (.int .i64 (((n*s):Nat):Int))
   have hrw:RwAt (w57.setCell ⟨gb,0+i,none⟩ (.int .i64 (((n*s):Nat):Int))) gb (N+1) (szF O N i):=by
    rw [Nat.zero_add];have h5:=sz_step (O:=O) hin;rw [hn.out,hs.out] at h5;exact (RW9.out.set i (((n*s):Nat):Int) (by omega)).congr h5
   generalize w57.setCell ⟨gb,0+i,none⟩ (.int .i64 (((n*s):Nat):Int))=wh at *;have RW2:=ι hrw;have KE2:=ι hkw;clear hrw hkw;go_upto_region 5 with (fail);refine Rg.wl ?_;refine Rg.lm 20 (.int .i64 ((i:Nat):Int)) ?_;go_frame;refine Rg.lr 21 (exec_bin (R:=.int .i64 (((i:Nat):Int) - 1)) .sub _ _ _ rfl rfl rfl (b_sub _ (by omega) (by omega))) ?_;go_frame;refine Rg.la 5 (.int .i64 (((i:Nat):Int) - 1)) ?_;go_frame;go_wp2
   go_roundw
   case rel=>exact ⟨i,rfl,by omega,RW2,KE2⟩
   case measure=>simp [intOf]
end Go.Proofs.YtdnmmibchbceeaaGreat
