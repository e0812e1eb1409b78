/- Lemmas and contracts on the way to the statement; no condition of their own beyond those written. -/
import Derived.Test.YtdnmmibchbceeaaGreatXVqtoWp
import Derived.Deep.CutRange
import Derived.Deep.CutBlock
import Derived.IntWalk
import Derived.Great.BuildSlice
import Derived.ArgAppend
import Derived.Laws.CopyOwn
import Derived.StillTailTactics
import Derived.Deep.MidRow
import Derived.WalkSpells
import Derived.WalkLawsBesides
import Derived.Maps.AppendAt
import Derived.OwnWalk
import Derived.OrdersHeld
import Derived.Deep.OwnRows
import Derived.WalkKit
import Derived.Lib.Hide
import Derived.Laws.OwnMore
import Derived.Test.YtdnmmibchbceeaaGreatProg
import Derived.Outline
import Derived.Deep.DeepFit
import Derived.BigQuiet
import Derived.Deep.QuietTactic
import Derived.Sort.OwnSortedInts
import Derived.WideMake
import Derived.MapKept
import Derived.ChangeMaps5
import Derived.Shelf.Sort.Plain
import Derived.RangeFuncBox
import Derived.RangeFuncLeaves
import Derived.Shelf.Abstract
import Derived.OwnWalkIn
import Derived.TacticsInMore
import Derived.LoopNIn
import Derived.LoopIn
import Derived.RangeFuncWrites
import Derived.RangeFuncNested
import Derived.Sort.CutIn
import Derived.Lib.ConvBytes
import Derived.Laws.Tables
import Derived.Deep.WholeRow
import Derived.ChangeKeysEq
import Derived.Laws.Cells
import Derived.Laws.Rows
import Derived.OrdersIn
import Derived.TacticsIn
import Derived.Deep.LoopGhost
import Derived.Lib.SlicesSearch
set_option linter.unusedVariables false
set_option linter.unusedSimpArgs false
set_option maxRecDepth 100000
set_option maxHeartbeats 8000000
namespace Go.Proofs.YtdnmmibchbceeaaGreat
open Go.RowKit
open Go.Proofs
open Go.Proofs.Ob
attribute [local irreducible] Go.Calls Go.wpList
theorem exec_fnv2 {o:Oper} {a:Act} {w:World} {u1 u2:Value} (F:FuncId) (x y f:Operand) (tys:Array TypeId) (ho:o.op=.call { callee:=.value f,args:=#[x,y],argTypes:=tys }) (hf:a.eval f=.func (.func F) #[] #[]) (hx:a.eval x=u1) (hy:a.eval y=u2)
  (hF:(callFunc F #[u1,u2]).run Tryz.prog w=.ok (.enter F #[u1,u2]) w):(execOp a.eval o).run Tryz.prog w=.ok (.enter F #[u1,u2]) w:=by
 unfold execOp;simp [ho,hx,hy,hf,resolve,invoke,Deferred.ofValue,hF]
def EqAsk (F:FuncId) (w0:World) (us vs:List Value) (p:Nat→Bool):Prop:=∀ i (h:i<us.length) (h2:i<vs.length) (W:World),Below w0.heap.size w0 W→Calls Tryz.prog F #[us[i],vs[i]] W fun e W'=>e=.returned (.bool (p i))∧Below W.heap.size W W'
def eqAll (m n:Nat) (p:Nat→Bool):Bool:=m == n && (List.range m).all p
theorem eqAll_len {m n:Nat} {p:Nat→Bool} (h:m≠n):eqAll m n p=false:=by unfold eqAll; simp [h]
theorem eqAll_all {m:Nat} {p:Nat→Bool} (h:(List.range m).all p=true):eqAll m m p=true:=by unfold eqAll; simp [h]
theorem eqAll_no {m:Nat} {p:Nat→Bool} {k:Nat} (hk:k<m) (h:p k=false):eqAll m m p=false:=by
 unfold eqAll;rw [Bool.and_eq_false_iff]
 right
 rw [List.all_eq_false];exact ⟨k,List.mem_range.2 hk,by simp [h]⟩
theorem rangeAll_next {p:Nat→Bool} {k:Nat} (h:(List.range k).all p=true) (h2:p k=true):(List.range (k+1)).all p=true:=by
 rw [List.range_succ,List.all_append];simp [h,h2]
theorem eqAll_iff {m n:Nat} {p:Nat→Bool}:eqAll m n p=true↔m=n∧∀ i,i<m→p i=true:=by
 unfold eqAll;simp
theorem eqAll_dec {α:Type} [DecidableEq α] {l m:List α} {p:Nat→Bool} (h:∀ i (h1:i<l.length) (h2:i<m.length),p i=decide (l[i]=m[i])):eqAll l.length m.length p=decide (l=m):=by
 rw [Bool.eq_iff_iff,eqAll_iff,decide_eq_true_iff]
 constructor
 ·rintro ⟨h1,h2⟩
  refine List.ext_getElem h1 fun i a b=>?_;have:=h2 i a;rw [h i a b] at this;exact of_decide_eq_true this
 ·rintro rfl
  exact ⟨rfl,fun i hi=>by rw [h i hi hi]; simp⟩
theorem eqFuncI_any {va vb:Value} {us vs:List Value} {w:World} (h1:Rg.Vals w va us) (h2:Rg.Vals w vb vs) (F:FuncId) (hF:∀ args W,(callFunc F args).run Tryz.prog W=.ok (.enter F args) W) {p:Nat→Bool} (hp:EqAsk F w us vs p) :
  Calls Tryz.prog 148 #[va,vb,.func (.func F) #[] #[]] w fun e w'=>e=.returned (.bool (eqAll us.length vs.length p))∧Below w.heap.size w w':=by
 obtain ⟨ad,cap,rfl,_,_,hlm,hcell⟩:=h1;obtain ⟨ad2,cap2,rfl,_,_,hlm2,hcell2⟩:=h2;unfold Rg.big at hlm hlm2;have Hc:=ι hcell;have Hc2:=ι hcell2;have HP:=ι hp;have K:=ι (Below.refl w.heap.size w);clear hcell hcell2 hp
 go_enter Tryz.func148,Tryz.ntmps148
 by_cases hne:us.length=vs.length
 ·have hneN:(us.length:Int)=(vs.length:Int):=by omega
  have HNE:=ι hne;go_upto_region 1 with (fail);refine Rg.wl ?_;refine Rg.lm 10 (.slice ad us.length cap) ?_;go_frame;refine Rg.lr 11 (exec_len _ _ _ rfl Tryz.underlying84 _ _ _ rfl) ?_;go_frame;refine Rg.lm 12 (.slice ad2 vs.length cap2) ?_;go_frame;refine Rg.lr 13 (exec_len _ _ _ rfl Tryz.underlying84 _ _ _ rfl) ?_;go_frame;refine Rg.lr 14 (exec_bin (R:=.bool false) .neq _ _ _ rfl rfl rfl (b_neqB _ Rg.dF)) ?_;go_frame;have HA:=ι (show (List.range 0).all p=true from rfl);go_wp2
  go_loopw [17] (fun kv wr=>∃ k:Nat,kv=.int .i64 k∧k≤us.length∧Hid ((List.range k).all p=true)∧Hid (Below w.heap.size w wr)) (fun kv _=>us.length - (intOf kv).toNat)
  case atStart=>exact ⟨0,rfl,Nat.zero_le _,HA,K⟩
  case round =>
   clear HA K;obtain ⟨k,rfl,hk,HA,K⟩:=hrel
   by_cases hkl:k<us.length
   ·have hkN:(k:Int)<(us.length:Int):=by omega
    have hkl2:k<vs.length:=by omega
    have HKL:=ι hkl;have HKL2:=ι hkl2;obtain ⟨b,o,rfl,hb,hc⟩:=Hc.out (by omega);obtain ⟨b2,o2,rfl,hb2,hc2⟩:=Hc2.out (by omega);obtain ⟨x,hx⟩:∃ x:Value,Hid (us[k]'hkl=x):=⟨_,ι rfl⟩;obtain ⟨y,hy⟩:∃ y:Value,Hid (vs[k]'hkl2=y):=⟨_,ι rfl⟩;have CX:=ι (CL.mk (show w.cell? ⟨b,o+k,none⟩=some x by rw [← hx.out]; exact hc k hkl) hb);have CY:=ι (CL.mk (show w.cell? ⟨b2,o2+k,none⟩=some y by rw [← hy.out]; exact hc2 k hkl2) hb2);have hask:=HP.out k hkl hkl2 wr K.out;rw [show us[k]=x from hx.out,show vs[k]=y from hy.out] at hask;have HK:=ι hask;clear hc hc2 hask hb hb2
    cases hpk:p k with
    | true =>
     have HPK:=ι hpk;rw [hpk] at HK;have HA2:=ι (rangeAll_next HA.out hpk);clear hpk;go_upto_region 5 with (fail);refine Rg.wl ?_;refine Rg.lm 19 (.int .i64 ((k:Nat):Int)) ?_;go_frame;refine Rg.lr 20 (exec_indexS slIntss _ _ rfl b (o) (us.length) cap (k) rfl rfl HKL.out) ?_;go_frame;refine Rg.lr 21 (Rg.exec_load (v:=x) _ _ rfl ⟨b,o+k,none⟩ rfl (Rg.run_loadSl _ _ Tryz.underlying25 ((Below.cell (p:=⟨b,o+k,none⟩) K.out CX.out.lt).trans CX.out.cell))) ?_;go_frame;refine Rg.la 7 (.int .i64 ((k:Nat):Int)) ?_;go_frame;refine Rg.la 8 (x) ?_;go_frame;go_upto_region 6 with (fail);refine Rg.wl ?_;refine Rg.lm 22 (.slice (some ⟨b2,o2,none⟩) vs.length cap2) ?_;go_frame;refine Rg.lm 23 (.int .i64 ((k:Nat):Int)) ?_;go_frame;refine Rg.lr 24 (exec_indexS slIntss _ _ rfl b2 (o2) (vs.length) cap2 (k) rfl rfl HKL2.out) ?_;go_frame;refine Rg.lr 25 (Rg.exec_load (v:=y) _ _ rfl ⟨b2,o2+k,none⟩ rfl (Rg.run_loadSl _ _ Tryz.underlying25 ((Below.cell (p:=⟨b2,o2+k,none⟩) K.out CY.out.lt).trans CY.out.cell))) ?_;go_frame
     refine Rg.la 9 (y) ?_;go_frame;go_upto_region 7 with (fail);refine Rg.wl ?_;refine Rg.lm 26 (.func (.func F) #[] #[]) ?_;go_frame;refine Rg.lm 27 (x) ?_;go_frame;refine Rg.lm 28 (y) ?_;go_frame;refine Rg.lk 29 (exec_fnv2 F _ _ _ _ rfl rfl rfl rfl (hF _ _)) ?_;refine (HK.out).mono ?_;rintro e1 w11 ⟨rfl,hb⟩;refine ⟨_,rfl,?_⟩;go_frame;replace K:=ι (Rg.acc K.out hb);clear hb;refine Rg.lr 30 (exec_not _ _ true rfl rfl) ?_;go_frame;go_wp2
     go_roundw
     case rel=>exact ⟨k+1,by go_num,HKL.out,HA2,K⟩
     case measure=>simp [intOf]; have:=HKL.out; omega
    | false =>
     rw [hpk] at HK;have HR:=ι (eqAll_no hkl hpk);clear hpk;go_upto_region 5 with (fail);refine Rg.wl ?_;refine Rg.lm 19 (.int .i64 ((k:Nat):Int)) ?_;go_frame;refine Rg.lr 20 (exec_indexS slIntss _ _ rfl b (o) (us.length) cap (k) rfl rfl HKL.out) ?_;go_frame;refine Rg.lr 21 (Rg.exec_load (v:=x) _ _ rfl ⟨b,o+k,none⟩ rfl (Rg.run_loadSl _ _ Tryz.underlying25 ((Below.cell (p:=⟨b,o+k,none⟩) K.out CX.out.lt).trans CX.out.cell))) ?_;go_frame;refine Rg.la 7 (.int .i64 ((k:Nat):Int)) ?_;go_frame;refine Rg.la 8 (x) ?_;go_frame;go_upto_region 6 with (fail);refine Rg.wl ?_;refine Rg.lm 22 (.slice (some ⟨b2,o2,none⟩) vs.length cap2) ?_;go_frame;refine Rg.lm 23 (.int .i64 ((k:Nat):Int)) ?_;go_frame;refine Rg.lr 24 (exec_indexS slIntss _ _ rfl b2 (o2) (vs.length) cap2 (k) rfl rfl HKL2.out) ?_;go_frame;refine Rg.lr 25 (Rg.exec_load (v:=y) _ _ rfl ⟨b2,o2+k,none⟩ rfl (Rg.run_loadSl _ _ Tryz.underlying25 ((Below.cell (p:=⟨b2,o2+k,none⟩) K.out CY.out.lt).trans CY.out.cell))) ?_;go_frame
     refine Rg.la 9 (y) ?_;go_frame;go_upto_region 7 with (fail);refine Rg.wl ?_;refine Rg.lm 26 (.func (.func F) #[] #[]) ?_;go_frame;refine Rg.lm 27 (x) ?_;go_frame;refine Rg.lm 28 (y) ?_;go_frame;refine Rg.lk 29 (exec_fnv2 F _ _ _ _ rfl rfl rfl rfl (hF _ _)) ?_;refine (HK.out).mono ?_;rintro e1 w11 ⟨rfl,hb⟩;refine ⟨_,rfl,?_⟩;go_frame;replace K:=ι (Rg.acc K.out hb);clear hb;refine Rg.lr 30 (exec_not _ _ false rfl rfl) ?_;go_frame;go_wp2;go_ret;exact ⟨by rw [← HNE.out,HR.out]; rfl,K.out⟩
   ·obtain rfl:k=us.length:=by omega
    have hkN:¬ (us.length:Int)<(us.length:Int):=by omega
    have HR:=ι (eqAll_all HA.out);go_wp2;go_ret;exact ⟨by rw [← HNE.out,HR.out]; rfl,K.out⟩
 ·have hneN:¬ (us.length:Int)=(vs.length:Int):=by omega
  have HR:=ι (eqAll_len (p:=p) hne);go_upto_region 1 with (fail);refine Rg.wl ?_;refine Rg.lm 10 (.slice ad us.length cap) ?_;go_frame;refine Rg.lr 11 (exec_len _ _ _ rfl Tryz.underlying84 _ _ _ rfl) ?_;go_frame;refine Rg.lm 12 (.slice ad2 vs.length cap2) ?_;go_frame;refine Rg.lr 13 (exec_len _ _ _ rfl Tryz.underlying84 _ _ _ rfl) ?_;go_frame;refine Rg.lr 14 (exec_bin (R:=.bool true) .neq _ _ _ rfl rfl rfl (b_neqB _ Rg.dT)) ?_;go_frame;go_wp2;go_ret;exact ⟨by rw [HR.out]; rfl,K.out⟩
theorem eqFuncR_any {va vb:Value} {us vs:List Value} {w:World} (h1:Rg.Vals w va us) (h2:Rg.Vals w vb vs) (F:FuncId) (hF:∀ args W,(callFunc F args).run Tryz.prog W=.ok (.enter F args) W) {p:Nat→Bool} (hp:EqAsk F w us vs p) :
  Calls Tryz.prog 150 #[va,vb,.func (.func F) #[] #[]] w fun e w'=>e=.returned (.bool (eqAll us.length vs.length p))∧Below w.heap.size w w':=by
 obtain ⟨ad,cap,rfl,_,_,hlm,hcell⟩:=h1;obtain ⟨ad2,cap2,rfl,_,_,hlm2,hcell2⟩:=h2;unfold Rg.big at hlm hlm2;have Hc:=ι hcell;have Hc2:=ι hcell2;have HP:=ι hp;have K:=ι (Below.refl w.heap.size w);clear hcell hcell2 hp
 go_enter Tryz.func150,Tryz.ntmps150
 by_cases hne:us.length=vs.length
 ·have hneN:(us.length:Int)=(vs.length:Int):=by omega
  have HNE:=ι hne;go_upto_region 1 with (fail);refine Rg.wl ?_;refine Rg.lm 10 (.slice ad us.length cap) ?_;go_frame;refine Rg.lr 11 (exec_len _ _ _ rfl Tryz.underlying85 _ _ _ rfl) ?_;go_frame;refine Rg.lm 12 (.slice ad2 vs.length cap2) ?_;go_frame;refine Rg.lr 13 (exec_len _ _ _ rfl Tryz.underlying85 _ _ _ rfl) ?_;go_frame;refine Rg.lr 14 (exec_bin (R:=.bool false) .neq _ _ _ rfl rfl rfl (b_neqB _ Rg.dF)) ?_;go_frame;have HA:=ι (show (List.range 0).all p=true from rfl);go_wp2
  go_loopw [17] (fun kv wr=>∃ k:Nat,kv=.int .i64 k∧k≤us.length∧Hid ((List.range k).all p=true)∧Hid (Below w.heap.size w wr)) (fun kv _=>us.length - (intOf kv).toNat)
  case atStart=>exact ⟨0,rfl,Nat.zero_le _,HA,K⟩
  case round =>
   clear HA K;obtain ⟨k,rfl,hk,HA,K⟩:=hrel
   by_cases hkl:k<us.length
   ·have hkN:(k:Int)<(us.length:Int):=by omega
    have hkl2:k<vs.length:=by omega
    have HKL:=ι hkl;have HKL2:=ι hkl2;obtain ⟨b,o,rfl,hb,hc⟩:=Hc.out (by omega);obtain ⟨b2,o2,rfl,hb2,hc2⟩:=Hc2.out (by omega);obtain ⟨x,hx⟩:∃ x:Value,Hid (us[k]'hkl=x):=⟨_,ι rfl⟩;obtain ⟨y,hy⟩:∃ y:Value,Hid (vs[k]'hkl2=y):=⟨_,ι rfl⟩;have CX:=ι (CL.mk (show w.cell? ⟨b,o+k,none⟩=some x by rw [← hx.out]; exact hc k hkl) hb);have CY:=ι (CL.mk (show w.cell? ⟨b2,o2+k,none⟩=some y by rw [← hy.out]; exact hc2 k hkl2) hb2);have hask:=HP.out k hkl hkl2 wr K.out;rw [show us[k]=x from hx.out,show vs[k]=y from hy.out] at hask;have HK:=ι hask;clear hc hc2 hask hb hb2
    cases hpk:p k with
    | true =>
     have HPK:=ι hpk;rw [hpk] at HK;have HA2:=ι (rangeAll_next HA.out hpk);clear hpk;go_upto_region 5 with (fail);refine Rg.wl ?_;refine Rg.lm 19 (.int .i64 ((k:Nat):Int)) ?_;go_frame;refine Rg.lr 20 (exec_indexS slPermss _ _ rfl b (o) (us.length) cap (k) rfl rfl HKL.out) ?_;go_frame;refine Rg.lr 21 (Rg.exec_load (v:=x) _ _ rfl ⟨b,o+k,none⟩ rfl (Rg.run_loadSl _ _ Tryz.underlying22 ((Below.cell (p:=⟨b,o+k,none⟩) K.out CX.out.lt).trans CX.out.cell))) ?_;go_frame;refine Rg.la 7 (.int .i64 ((k:Nat):Int)) ?_;go_frame;refine Rg.la 8 (x) ?_;go_frame;go_upto_region 6 with (fail);refine Rg.wl ?_;refine Rg.lm 22 (.slice (some ⟨b2,o2,none⟩) vs.length cap2) ?_;go_frame;refine Rg.lm 23 (.int .i64 ((k:Nat):Int)) ?_;go_frame;refine Rg.lr 24 (exec_indexS slPermss _ _ rfl b2 (o2) (vs.length) cap2 (k) rfl rfl HKL2.out) ?_;go_frame;refine Rg.lr 25 (Rg.exec_load (v:=y) _ _ rfl ⟨b2,o2+k,none⟩ rfl (Rg.run_loadSl _ _ Tryz.underlying22 ((Below.cell (p:=⟨b2,o2+k,none⟩) K.out CY.out.lt).trans CY.out.cell))) ?_;go_frame
     refine Rg.la 9 (y) ?_;go_frame;go_upto_region 7 with (fail);refine Rg.wl ?_;refine Rg.lm 26 (.func (.func F) #[] #[]) ?_;go_frame;refine Rg.lm 27 (x) ?_;go_frame;refine Rg.lm 28 (y) ?_;go_frame;refine Rg.lk 29 (exec_fnv2 F _ _ _ _ rfl rfl rfl rfl (hF _ _)) ?_;refine (HK.out).mono ?_;rintro e1 w11 ⟨rfl,hb⟩;refine ⟨_,rfl,?_⟩;go_frame;replace K:=ι (Rg.acc K.out hb);clear hb;refine Rg.lr 30 (exec_not _ _ true rfl rfl) ?_;go_frame;go_wp2
     go_roundw
     case rel=>exact ⟨k+1,by go_num,HKL.out,HA2,K⟩
     case measure=>simp [intOf]; have:=HKL.out; omega
    | false =>
     rw [hpk] at HK;have HR:=ι (eqAll_no hkl hpk);clear hpk;go_upto_region 5 with (fail);refine Rg.wl ?_;refine Rg.lm 19 (.int .i64 ((k:Nat):Int)) ?_;go_frame;refine Rg.lr 20 (exec_indexS slPermss _ _ rfl b (o) (us.length) cap (k) rfl rfl HKL.out) ?_;go_frame;refine Rg.lr 21 (Rg.exec_load (v:=x) _ _ rfl ⟨b,o+k,none⟩ rfl (Rg.run_loadSl _ _ Tryz.underlying22 ((Below.cell (p:=⟨b,o+k,none⟩) K.out CX.out.lt).trans CX.out.cell))) ?_;go_frame;refine Rg.la 7 (.int .i64 ((k:Nat):Int)) ?_;go_frame;refine Rg.la 8 (x) ?_;go_frame;go_upto_region 6 with (fail);refine Rg.wl ?_;refine Rg.lm 22 (.slice (some ⟨b2,o2,none⟩) vs.length cap2) ?_;go_frame;refine Rg.lm 23 (.int .i64 ((k:Nat):Int)) ?_;go_frame;refine Rg.lr 24 (exec_indexS slPermss _ _ rfl b2 (o2) (vs.length) cap2 (k) rfl rfl HKL2.out) ?_;go_frame;refine Rg.lr 25 (Rg.exec_load (v:=y) _ _ rfl ⟨b2,o2+k,none⟩ rfl (Rg.run_loadSl _ _ Tryz.underlying22 ((Below.cell (p:=⟨b2,o2+k,none⟩) K.out CY.out.lt).trans CY.out.cell))) ?_;go_frame
     refine Rg.la 9 (y) ?_;go_frame;go_upto_region 7 with (fail);refine Rg.wl ?_;refine Rg.lm 26 (.func (.func F) #[] #[]) ?_;go_frame;refine Rg.lm 27 (x) ?_;go_frame;refine Rg.lm 28 (y) ?_;go_frame;refine Rg.lk 29 (exec_fnv2 F _ _ _ _ rfl rfl rfl rfl (hF _ _)) ?_;refine (HK.out).mono ?_;rintro e1 w11 ⟨rfl,hb⟩;refine ⟨_,rfl,?_⟩;go_frame;replace K:=ι (Rg.acc K.out hb);clear hb;refine Rg.lr 30 (exec_not _ _ false rfl rfl) ?_;go_frame;go_wp2;go_ret;exact ⟨by rw [← HNE.out,HR.out]; rfl,K.out⟩
   ·obtain rfl:k=us.length:=by omega
    have hkN:¬ (us.length:Int)<(us.length:Int):=by omega
    have HR:=ι (eqAll_all HA.out);go_wp2;go_ret;exact ⟨by rw [← HNE.out,HR.out]; rfl,K.out⟩
 ·have hneN:¬ (us.length:Int)=(vs.length:Int):=by omega
  have HR:=ι (eqAll_len (p:=p) hne);go_upto_region 1 with (fail);refine Rg.wl ?_;refine Rg.lm 10 (.slice ad us.length cap) ?_;go_frame;refine Rg.lr 11 (exec_len _ _ _ rfl Tryz.underlying85 _ _ _ rfl) ?_;go_frame;refine Rg.lm 12 (.slice ad2 vs.length cap2) ?_;go_frame;refine Rg.lr 13 (exec_len _ _ _ rfl Tryz.underlying85 _ _ _ rfl) ?_;go_frame;refine Rg.lr 14 (exec_bin (R:=.bool true) .neq _ _ _ rfl rfl rfl (b_neqB _ Rg.dT)) ?_;go_frame;go_wp2;go_ret;exact ⟨by rw [HR.out]; rfl,K.out⟩
theorem eqFuncP_any {va vb:Value} {us vs:List Value} {w:World} (h1:Rg.Vals w va us) (h2:Rg.Vals w vb vs) (F:FuncId) (hF:∀ args W,(callFunc F args).run Tryz.prog W=.ok (.enter F args) W) {p:Nat→Bool} (hp:EqAsk F w us vs p) :
  Calls Tryz.prog 152 #[va,vb,.func (.func F) #[] #[]] w fun e w'=>e=.returned (.bool (eqAll us.length vs.length p))∧Below w.heap.size w w':=by
 obtain ⟨ad,cap,rfl,_,_,hlm,hcell⟩:=h1;obtain ⟨ad2,cap2,rfl,_,_,hlm2,hcell2⟩:=h2;unfold Rg.big at hlm hlm2;have Hc:=ι hcell;have Hc2:=ι hcell2;have HP:=ι hp;have K:=ι (Below.refl w.heap.size w);clear hcell hcell2 hp
 go_enter Tryz.func152,Tryz.ntmps152
 by_cases hne:us.length=vs.length
 ·have hneN:(us.length:Int)=(vs.length:Int):=by omega
  have HNE:=ι hne;go_upto_region 1 with (fail);refine Rg.wl ?_;refine Rg.lm 10 (.slice ad us.length cap) ?_;go_frame;refine Rg.lr 11 (exec_len _ _ _ rfl Tryz.underlying22 _ _ _ rfl) ?_;go_frame;refine Rg.lm 12 (.slice ad2 vs.length cap2) ?_;go_frame;refine Rg.lr 13 (exec_len _ _ _ rfl Tryz.underlying22 _ _ _ rfl) ?_;go_frame;refine Rg.lr 14 (exec_bin (R:=.bool false) .neq _ _ _ rfl rfl rfl (b_neqB _ Rg.dF)) ?_;go_frame;have HA:=ι (show (List.range 0).all p=true from rfl);go_wp2
  go_loopw [17] (fun kv wr=>∃ k:Nat,kv=.int .i64 k∧k≤us.length∧Hid ((List.range k).all p=true)∧Hid (Below w.heap.size w wr)) (fun kv _=>us.length - (intOf kv).toNat)
  case atStart=>exact ⟨0,rfl,Nat.zero_le _,HA,K⟩
  case round =>
   clear HA K;obtain ⟨k,rfl,hk,HA,K⟩:=hrel
   by_cases hkl:k<us.length
   ·have hkN:(k:Int)<(us.length:Int):=by omega
    have hkl2:k<vs.length:=by omega
    have HKL:=ι hkl;have HKL2:=ι hkl2;obtain ⟨b,o,rfl,hb,hc⟩:=Hc.out (by omega);obtain ⟨b2,o2,rfl,hb2,hc2⟩:=Hc2.out (by omega);obtain ⟨x,hx⟩:∃ x:Value,Hid (us[k]'hkl=x):=⟨_,ι rfl⟩;obtain ⟨y,hy⟩:∃ y:Value,Hid (vs[k]'hkl2=y):=⟨_,ι rfl⟩;have CX:=ι (CL.mk (show w.cell? ⟨b,o+k,none⟩=some x by rw [← hx.out]; exact hc k hkl) hb);have CY:=ι (CL.mk (show w.cell? ⟨b2,o2+k,none⟩=some y by rw [← hy.out]; exact hc2 k hkl2) hb2);have hask:=HP.out k hkl hkl2 wr K.out;rw [show us[k]=x from hx.out,show vs[k]=y from hy.out] at hask;have HK:=ι hask;clear hc hc2 hask hb hb2
    cases hpk:p k with
    | true =>
     have HPK:=ι hpk;rw [hpk] at HK;have HA2:=ι (rangeAll_next HA.out hpk);clear hpk;go_upto_region 5 with (fail);refine Rg.wl ?_;refine Rg.lm 19 (.int .i64 ((k:Nat):Int)) ?_;go_frame;refine Rg.lr 20 (exec_indexS slPerms _ _ rfl b (o) (us.length) cap (k) rfl rfl HKL.out) ?_;go_frame;refine Rg.lr 21 (Rg.exec_load (v:=x) _ _ rfl ⟨b,o+k,none⟩ rfl (Rg.run_loadSl _ _ Tryz.underlying30 ((Below.cell (p:=⟨b,o+k,none⟩) K.out CX.out.lt).trans CX.out.cell))) ?_;go_frame;refine Rg.la 7 (.int .i64 ((k:Nat):Int)) ?_;go_frame;refine Rg.la 8 (x) ?_;go_frame;go_upto_region 6 with (fail);refine Rg.wl ?_;refine Rg.lm 22 (.slice (some ⟨b2,o2,none⟩) vs.length cap2) ?_;go_frame;refine Rg.lm 23 (.int .i64 ((k:Nat):Int)) ?_;go_frame;refine Rg.lr 24 (exec_indexS slPerms _ _ rfl b2 (o2) (vs.length) cap2 (k) rfl rfl HKL2.out) ?_;go_frame;refine Rg.lr 25 (Rg.exec_load (v:=y) _ _ rfl ⟨b2,o2+k,none⟩ rfl (Rg.run_loadSl _ _ Tryz.underlying30 ((Below.cell (p:=⟨b2,o2+k,none⟩) K.out CY.out.lt).trans CY.out.cell))) ?_;go_frame
     refine Rg.la 9 (y) ?_;go_frame;go_upto_region 7 with (fail);refine Rg.wl ?_;refine Rg.lm 26 (.func (.func F) #[] #[]) ?_;go_frame;refine Rg.lm 27 (x) ?_;go_frame;refine Rg.lm 28 (y) ?_;go_frame;refine Rg.lk 29 (exec_fnv2 F _ _ _ _ rfl rfl rfl rfl (hF _ _)) ?_;refine (HK.out).mono ?_;rintro e1 w11 ⟨rfl,hb⟩;refine ⟨_,rfl,?_⟩;go_frame;replace K:=ι (Rg.acc K.out hb);clear hb;refine Rg.lr 30 (exec_not _ _ true rfl rfl) ?_;go_frame;go_wp2
     go_roundw
     case rel=>exact ⟨k+1,by go_num,HKL.out,HA2,K⟩
     case measure=>simp [intOf]; have:=HKL.out; omega
    | false =>
     rw [hpk] at HK;have HR:=ι (eqAll_no hkl hpk);clear hpk;go_upto_region 5 with (fail);refine Rg.wl ?_;refine Rg.lm 19 (.int .i64 ((k:Nat):Int)) ?_;go_frame;refine Rg.lr 20 (exec_indexS slPerms _ _ rfl b (o) (us.length) cap (k) rfl rfl HKL.out) ?_;go_frame;refine Rg.lr 21 (Rg.exec_load (v:=x) _ _ rfl ⟨b,o+k,none⟩ rfl (Rg.run_loadSl _ _ Tryz.underlying30 ((Below.cell (p:=⟨b,o+k,none⟩) K.out CX.out.lt).trans CX.out.cell))) ?_;go_frame;refine Rg.la 7 (.int .i64 ((k:Nat):Int)) ?_;go_frame;refine Rg.la 8 (x) ?_;go_frame;go_upto_region 6 with (fail);refine Rg.wl ?_;refine Rg.lm 22 (.slice (some ⟨b2,o2,none⟩) vs.length cap2) ?_;go_frame;refine Rg.lm 23 (.int .i64 ((k:Nat):Int)) ?_;go_frame;refine Rg.lr 24 (exec_indexS slPerms _ _ rfl b2 (o2) (vs.length) cap2 (k) rfl rfl HKL2.out) ?_;go_frame;refine Rg.lr 25 (Rg.exec_load (v:=y) _ _ rfl ⟨b2,o2+k,none⟩ rfl (Rg.run_loadSl _ _ Tryz.underlying30 ((Below.cell (p:=⟨b2,o2+k,none⟩) K.out CY.out.lt).trans CY.out.cell))) ?_;go_frame
     refine Rg.la 9 (y) ?_;go_frame;go_upto_region 7 with (fail);refine Rg.wl ?_;refine Rg.lm 26 (.func (.func F) #[] #[]) ?_;go_frame;refine Rg.lm 27 (x) ?_;go_frame;refine Rg.lm 28 (y) ?_;go_frame;refine Rg.lk 29 (exec_fnv2 F _ _ _ _ rfl rfl rfl rfl (hF _ _)) ?_;refine (HK.out).mono ?_;rintro e1 w11 ⟨rfl,hb⟩;refine ⟨_,rfl,?_⟩;go_frame;replace K:=ι (Rg.acc K.out hb);clear hb;refine Rg.lr 30 (exec_not _ _ false rfl rfl) ?_;go_frame;go_wp2;go_ret;exact ⟨by rw [← HNE.out,HR.out]; rfl,K.out⟩
   ·obtain rfl:k=us.length:=by omega
    have hkN:¬ (us.length:Int)<(us.length:Int):=by omega
    have HR:=ι (eqAll_all HA.out);go_wp2;go_ret;exact ⟨by rw [← HNE.out,HR.out]; rfl,K.out⟩
 ·have hneN:¬ (us.length:Int)=(vs.length:Int):=by omega
  have HR:=ι (eqAll_len (p:=p) hne);go_upto_region 1 with (fail);refine Rg.wl ?_;refine Rg.lm 10 (.slice ad us.length cap) ?_;go_frame;refine Rg.lr 11 (exec_len _ _ _ rfl Tryz.underlying22 _ _ _ rfl) ?_;go_frame;refine Rg.lm 12 (.slice ad2 vs.length cap2) ?_;go_frame;refine Rg.lr 13 (exec_len _ _ _ rfl Tryz.underlying22 _ _ _ rfl) ?_;go_frame;refine Rg.lr 14 (exec_bin (R:=.bool true) .neq _ _ _ rfl rfl rfl (b_neqB _ Rg.dT)) ?_;go_frame;go_wp2;go_ret;exact ⟨by rw [HR.out]; rfl,K.out⟩

theorem Wscl0 (args:Array Value) (w:World):(callFunc 154 args).run Tryz.prog w=.ok (.enter 154 args) w:=by kernel_rfl
theorem Wscl1 (args:Array Value) (w:World):(callFunc 152 args).run Tryz.prog w=.ok (.enter 152 args) w:=by kernel_rfl
theorem Wscl2 (args:Array Value) (w:World):(callFunc 148 args).run Tryz.prog w=.ok (.enter 148 args) w:=by kernel_rfl
theorem Wscl3 (args:Array Value) (w:World):(callFunc 150 args).run Tryz.prog w=.ok (.enter 150 args) w:=by kernel_rfl
theorem equalI_any (v1 v2:Value) (l1 l2:List Int) (w:World) (h:Rg.Ints w v1 l1) (h':Rg.Ints w v2 l2)  :
  Calls Tryz.prog 149 #[v1,v2] w fun e w'=>e=.returned (.bool (decide (l1=l2)))∧Below w.heap.size w w':=by
 have hl:l1.length≤1000000000:=by obtain ⟨n,a,c,e,_,e2⟩:=h.len; omega
 obtain ⟨ad,cap,rfl,_,hlm,_,hcell⟩:=h.shape;obtain ⟨ad2,cap2,rfl,_,hlm2,_,hcell2⟩:=h'.shape;have Hc:=ι hcell;have Hc2:=ι hcell2;clear hcell h hcell2 h'
 by_cases hne:l1.length=l2.length
 ·rw [← hne]
  rw [← hne] at hlm2;have HNE:=ι hne;clear hne
  go_enter Tryz.func149,Tryz.ntmps149
  go_wp2
  go_loopw [13] (fun i wr=>∃ k:Nat,k≤l1.length∧i=.int .i64 k∧Hid (l1.take k=l2.take k)∧Hid (Below w.heap.size w wr)) (fun i _=>l1.length - (intOf i).toNat)
  case atStart=>exact ⟨0,by omega,rfl,ι (by simp),ι (Below.refl _ _)⟩
  case round =>
   obtain ⟨k,hk,rfl,hs,hbel⟩:=hrel
   by_cases hlt:k<l1.length
   ·have hlt2:k<l2.length:=by have:=HNE.out; omega
    obtain ⟨b,o,rfl,hb,hc⟩:=Hc.out (by omega);obtain ⟨b2,o2,rfl,hb2,hc2⟩:=Hc2.out (by omega);have c0:=(hbel.out.cell (p:=⟨b,o+k,none⟩) hb).trans (hc k hlt);have c2:=(hbel.out.cell (p:=⟨b2,o2+k,none⟩) hb2).trans (hc2 k hlt2);obtain ⟨x,hx⟩:∃ x,Hid (x=l1[k]):=⟨_,ι rfl⟩;obtain ⟨y,hy⟩:∃ y,Hid (y=l2[k]):=⟨_,ι rfl⟩;rw [← hx.out] at c0;rw [← hy.out] at c2
    have hkl:(k:Int)<(l1.length:Int):=by omega
    clear hc hb hc2 hb2
    by_cases he:x=y
    ·have e1:(x != y)=false:=by simp [he]
     have HE:=ι he;go_upto_region 6 with (fail)
     go_quiet (fail)
     have HB2:=ι (Rg.drewN hbel.out nq);generalize wr.drewN nq=wq at *;go_wp2
     go_roundw
     case rel =>
      refine ⟨k+1,by omega,by go_num,ι ?_,HB2⟩;rw [List.take_succ_eq_append_getElem hlt,List.take_succ_eq_append_getElem hlt2,hs.out,← hx.out,← hy.out,HE.out]
     case measure=>simp [intOf]; omega
    ·have e1:(x != y)=true:=by simp [he]
     have hm:decide (l1=l2)=false:=by
      rw [decide_eq_false_iff_not];intro e;subst e;exact he (hx.out.trans hy.out.symm)
     have HM:=ι hm;clear hm;go_upto_region 6 with (fail)
     go_quiet (fail)
     have HB2:=ι (Rg.drewN hbel.out nq);generalize wr.drewN nq=wq at *;go_wp2;go_ret;exact ⟨by rw [HM.out]; rfl,HB2.out⟩
   ·obtain rfl:k=l1.length:=by omega
    have hm:decide (l1=l2)=true:=by
     rw [decide_eq_true_iff];have:=hs.out
     rwa [List.take_length,HNE.out,List.take_length] at this
    have HM:=ι hm;clear hm;go_wp2;go_ret;exact ⟨by rw [HM.out]; rfl,hbel.out⟩
 ·have hb:((l1.length:Int) != (l2.length:Int))=true:=by rw [bne_iff_ne]; omega
  have hm:decide (l1=l2)=false:=by
   rw [decide_eq_false_iff_not];intro e;subst e;exact hne rfl
  have HM:=ι hm;have HNE:=ι hne;clear hm hne
  go_enter Tryz.func149,Tryz.ntmps149
  go_wp2;go_ret;exact ⟨by rw [HM.out]; rfl,Below.refl _ _⟩
theorem equalP2_any (v1 v2:Value) (l1 l2:List Int) (w:World) (h:Rg.Ints w v1 l1) (h':Rg.Ints w v2 l2)  :
  Calls Tryz.prog 154 #[v1,v2] w fun e w'=>e=.returned (.bool (decide (l1=l2)))∧Below w.heap.size w w':=by
 have hl:l1.length≤1000000000:=by obtain ⟨n,a,c,e,_,e2⟩:=h.len; omega
 obtain ⟨ad,cap,rfl,_,hlm,_,hcell⟩:=h.shape;obtain ⟨ad2,cap2,rfl,_,hlm2,_,hcell2⟩:=h'.shape;have Hc:=ι hcell;have Hc2:=ι hcell2;clear hcell h hcell2 h'
 by_cases hne:l1.length=l2.length
 ·rw [← hne]
  rw [← hne] at hlm2;have HNE:=ι hne;clear hne
  go_enter Tryz.func154,Tryz.ntmps154
  go_wp2
  go_loopw [13] (fun i wr=>∃ k:Nat,k≤l1.length∧i=.int .i64 k∧Hid (l1.take k=l2.take k)∧Hid (Below w.heap.size w wr)) (fun i _=>l1.length - (intOf i).toNat)
  case atStart=>exact ⟨0,by omega,rfl,ι (by simp),ι (Below.refl _ _)⟩
  case round =>
   obtain ⟨k,hk,rfl,hs,hbel⟩:=hrel
   by_cases hlt:k<l1.length
   ·have hlt2:k<l2.length:=by have:=HNE.out; omega
    obtain ⟨b,o,rfl,hb,hc⟩:=Hc.out (by omega);obtain ⟨b2,o2,rfl,hb2,hc2⟩:=Hc2.out (by omega);have c0:=(hbel.out.cell (p:=⟨b,o+k,none⟩) hb).trans (hc k hlt);have c2:=(hbel.out.cell (p:=⟨b2,o2+k,none⟩) hb2).trans (hc2 k hlt2);obtain ⟨x,hx⟩:∃ x,Hid (x=l1[k]):=⟨_,ι rfl⟩;obtain ⟨y,hy⟩:∃ y,Hid (y=l2[k]):=⟨_,ι rfl⟩;rw [← hx.out] at c0;rw [← hy.out] at c2
    have hkl:(k:Int)<(l1.length:Int):=by omega
    clear hc hb hc2 hb2
    by_cases he:x=y
    ·have e1:(x != y)=false:=by simp [he]
     have HE:=ι he;go_upto_region 6 with (fail)
     go_quiet (fail)
     have HB2:=ι (Rg.drewN hbel.out nq);generalize wr.drewN nq=wq at *;go_wp2
     go_roundw
     case rel =>
      refine ⟨k+1,by omega,by go_num,ι ?_,HB2⟩;rw [List.take_succ_eq_append_getElem hlt,List.take_succ_eq_append_getElem hlt2,hs.out,← hx.out,← hy.out,HE.out]
     case measure=>simp [intOf]; omega
    ·have e1:(x != y)=true:=by simp [he]
     have hm:decide (l1=l2)=false:=by
      rw [decide_eq_false_iff_not];intro e;subst e;exact he (hx.out.trans hy.out.symm)
     have HM:=ι hm;clear hm;go_upto_region 6 with (fail)
     go_quiet (fail)
     have HB2:=ι (Rg.drewN hbel.out nq);generalize wr.drewN nq=wq at *;go_wp2;go_ret;exact ⟨by rw [HM.out]; rfl,HB2.out⟩
   ·obtain rfl:k=l1.length:=by omega
    have hm:decide (l1=l2)=true:=by
     rw [decide_eq_true_iff];have:=hs.out
     rwa [List.take_length,HNE.out,List.take_length] at this
    have HM:=ι hm;clear hm;go_wp2;go_ret;exact ⟨by rw [HM.out]; rfl,hbel.out⟩
 ·have hb:((l1.length:Int) != (l2.length:Int))=true:=by rw [bne_iff_ne]; omega
  have hm:decide (l1=l2)=false:=by
   rw [decide_eq_false_iff_not];intro e;subst e;exact hne rfl
  have HM:=ι hm;have HNE:=ι hne;clear hm hne
  go_enter Tryz.func154,Tryz.ntmps154
  go_wp2;go_ret;exact ⟨by rw [HM.out]; rfl,Below.refl _ _⟩
theorem rowsAsk {F:FuncId} {w:World} {va vb:Value} {A B:List (List Int)} (h1:Rg.Rows w va A) (h2:Rg.Rows w vb B)
  (hF:∀ (v1 v2:Value) (l1 l2:List Int) (W:World),Rg.Ints W v1 l1→Rg.Ints W v2 l2→Calls Tryz.prog F #[v1,v2] W fun e w'=>e=.returned (.bool (decide (l1=l2)))∧Below W.heap.size W w') :
  ∃ us vs,Rg.Vals w va us∧Rg.Vals w vb vs∧us.length=A.length∧vs.length=B.length∧EqAsk F w us vs (fun i=>decide (A.getD i []=B.getD i [])):=by
 obtain ⟨us,a1,a2,a3⟩:=h1;obtain ⟨vs,b1,b2,b3⟩:=h2;refine ⟨us,vs,a1,b1,a2,b2,fun i hi hj W hb=>?_⟩
 have e1:A.getD i []=A[i]'(by omega):=by rw [List.getD_eq_getElem?_getD,List.getElem?_eq_getElem (by omega)]; rfl
 have e2:B.getD i []=B[i]'(by omega):=by rw [List.getD_eq_getElem?_getD,List.getElem?_eq_getElem (by omega)]; rfl
 dsimp only
 rw [e1,e2];exact hF _ _ _ _ W ((a3 i hi (by omega)).below hb) ((b3 i hj (by omega)).below hb)
theorem eqRows {A B:List (List Int)}:eqAll A.length B.length (fun i=>decide (A.getD i []=B.getD i []))=decide (A=B) :=
 eqAll_dec fun i h1 h2=>by
  have e1:A.getD i []=A[i]:=by rw [List.getD_eq_getElem?_getD,List.getElem?_eq_getElem h1]; rfl
  have e2:B.getD i []=B[i]:=by rw [List.getD_eq_getElem?_getD,List.getElem?_eq_getElem h2]; rfl
  rw [e1,e2]
theorem rowsAsk2 {F:FuncId} {w:World} {va vb:Value} {A B:List (List (List Int))} (h1:Rows2 w va A) (h2:Rows2 w vb B)
  (hF:∀ (v1 v2:Value) (l1 l2:List (List Int)) (W:World),Rg.Rows W v1 l1→Rg.Rows W v2 l2→Calls Tryz.prog F #[v1,v2] W fun e w'=>e=.returned (.bool (decide (l1=l2)))∧Below W.heap.size W w') :
  ∃ us vs,Rg.Vals w va us∧Rg.Vals w vb vs∧us.length=A.length∧vs.length=B.length∧EqAsk F w us vs (fun i=>decide (A.getD i []=B.getD i [])):=by
 obtain ⟨us,a1,a2,a3⟩:=h1;obtain ⟨vs,b1,b2,b3⟩:=h2;refine ⟨us,vs,a1,b1,a2,b2,fun i hi hj W hb=>?_⟩
 have e1:A.getD i []=A[i]'(by omega):=by rw [List.getD_eq_getElem?_getD,List.getElem?_eq_getElem (by omega)]; rfl
 have e2:B.getD i []=B[i]'(by omega):=by rw [List.getD_eq_getElem?_getD,List.getElem?_eq_getElem (by omega)]; rfl
 dsimp only
 rw [e1,e2];exact hF _ _ _ _ W ((a3 i hi (by omega)).below hb) ((b3 i hj (by omega)).below hb)
theorem eqRows2 {A B:List (List (List Int))}:eqAll A.length B.length (fun i=>decide (A.getD i []=B.getD i []))=decide (A=B) :=
 eqAll_dec fun i h1 h2=>by
  have e1:A.getD i []=A[i]:=by rw [List.getD_eq_getElem?_getD,List.getElem?_eq_getElem h1]; rfl
  have e2:B.getD i []=B[i]:=by rw [List.getD_eq_getElem?_getD,List.getElem?_eq_getElem h2]; rfl
  rw [e1,e2]
theorem clEqI (args:Array Value) (w:World):(callFunc 149 args).run Tryz.prog w=.ok (.enter 149 args) w:=by kernel_rfl
theorem clS1 (args:Array Value) (w:World):(callFunc 151 args).run Tryz.prog w=.ok (.enter 151 args) w:=by kernel_rfl
theorem clS11 (args:Array Value) (w:World):(callFunc 153 args).run Tryz.prog w=.ok (.enter 153 args) w:=by kernel_rfl
theorem same11_any (v1 v2:Value) (l1 l2:List Int) (w:World) (h1:Rg.Ints w v1 l1) (h2:Rg.Ints w v2 l2) :
  Calls Tryz.prog 153 #[v1,v2] w fun e w'=>e=.returned (.bool (decide (l1=l2)))∧Below w.heap.size w w':=by
 have H1:=ι h1;have H2:=ι h2;have K:=ι (Below.refl w.heap.size w);clear h1 h2;obtain ⟨b,hb0⟩:∃ b,Hid (decide (l1=l2)=b):=⟨_,ι rfl⟩
 go_enter Tryz.func153,Tryz.ntmps153
 go_upto_region 1 with (fail);refine Rg.wl ?_;refine Rg.lm 5 (v1) ?_;go_frame;refine Rg.lm 6 (v2) ?_;go_frame;refine Rg.lk 7 (exec_fn 154 _ _ _ rfl rfl rfl (Wscl0 _ _)) ?_;refine (show Calls _ _ _ _ (fun e w'=>e=.returned (.bool b)∧Below w.heap.size w w') by rw [← hb0.out]; exact equalP2_any _ _ _ _ w H1.out H2.out).mono ?_;rintro e1 w1 ⟨rfl,hb⟩;refine ⟨_,rfl,?_⟩;go_frame;replace H1:=ι (H1.out.below hb);replace H2:=ι (H2.out.below hb);replace K:=ι (Rg.acc K.out hb);clear hb;refine Rg.la 4 (.bool b) ?_;go_frame;go_wp2;go_ret;exact ⟨by rw [hb0.out]; rfl,K.out⟩
theorem same1_any (v1 v2:Value) (l1 l2:List (List Int)) (w:World) (h1:Rg.Rows w v1 l1) (h2:Rg.Rows w v2 l2) :
  Calls Tryz.prog 151 #[v1,v2] w fun e w'=>e=.returned (.bool (decide (l1=l2)))∧Below w.heap.size w w':=by
 obtain ⟨us,vs,hu,hv,e1,e2,hask⟩:=rowsAsk h1 h2 (F:=153) same11_any;have HC:=ι (eqFuncP_any hu hv _ clS11 hask);rw [e1,e2,eqRows] at HC;have K:=ι (Below.refl w.heap.size w);clear h1 h2 hu hv e1 e2 hask;obtain ⟨b,hb0⟩:∃ b,Hid (decide (l1=l2)=b):=⟨_,ι rfl⟩;rw [hb0.out] at HC ⊢
 go_enter Tryz.func151,Tryz.ntmps151
 go_upto_region 1 with (fail);refine Rg.wl ?_;refine Rg.lm 5 (v1) ?_;go_frame;refine Rg.lm 6 (v2) ?_;go_frame;refine Rg.lk 7 (exec_fn3 152 _ _ _ _ rfl rfl rfl rfl (Wscl1 _ _)) ?_;refine (HC.out).mono ?_;rintro e1 w1 ⟨rfl,hb⟩;refine ⟨_,rfl,?_⟩;go_frame;replace K:=ι (Rg.acc K.out hb);clear hb;refine Rg.la 4 (.bool b) ?_;go_frame;go_wp2;go_ret;exact ⟨rfl,K.out⟩
theorem sameRowsI_any (v1 v2:Value) (A B:List (List Int)) (w:World) (h1:Rg.Rows w v1 A) (h2:Rg.Rows w v2 B) {b:Bool} (hb:Hid (decide (A=B)=b)) :
  Calls Tryz.prog 148 #[v1,v2,.func (.func 149) #[] #[]] w fun e w'=>e=.returned (.bool b)∧Below w.heap.size w w':=by
 obtain ⟨us,vs,hu,hv,e1,e2,hask⟩:=rowsAsk h1 h2 (F:=149) equalI_any;have HC:=eqFuncI_any hu hv _ clEqI hask;rw [e1,e2,eqRows,hb.out] at HC;exact HC
theorem sameRowsR_any (v1 v2:Value) (A B:List (List (List Int))) (w:World) (h1:Rows2 w v1 A) (h2:Rows2 w v2 B) {b:Bool} (hb:Hid (decide (A=B)=b)) :
  Calls Tryz.prog 150 #[v1,v2,.func (.func 151) #[] #[]] w fun e w'=>e=.returned (.bool b)∧Below w.heap.size w w':=by
 obtain ⟨us,vs,hu,hv,e1,e2,hask⟩:=rowsAsk2 h1 h2 (F:=151) same1_any;have HC:=eqFuncR_any hu hv _ clS1 hask;rw [e1,e2,eqRows2,hb.out] at HC;exact HC
theorem box3 (w:World) (x y z:Value):CL (w.alloc (.cells #[x,y,z] 87)) w.heap.size 0 x∧CL (w.alloc (.cells #[x,y,z] 87)) w.heap.size 1 y∧CL (w.alloc (.cells #[x,y,z] 87)) w.heap.size 2 z :=
 ⟨⟨by rw [Rg.cellNew]; rfl,by simp⟩,⟨by rw [Rg.cellNew]; rfl,by simp⟩,⟨by rw [Rg.cellNew]; rfl,by simp⟩⟩
def ChEqR (w:World) (ov rv:Value) (OO:List (List Int)) (RR:List (List (List Int))):Prop:=Rg.Rows w ov OO∧Rows2 w rv RR
theorem ChEqR.below {w w':World} {ov rv:Value} {OO:List (List Int)} {RR:List (List (List Int))} (h:ChEqR w ov rv OO RR) (hb:Below w.heap.size w w'):ChEqR w' ov rv OO RR:=⟨h.1.below hb,h.2.below hb⟩
theorem chSame_any {n m:Int} {ov rv ov' rv':Value} {OO OO':List (List Int)} {RR RR':List (List (List Int))} {w:World} (h1:ChEqR w ov rv OO RR) (h2:ChEqR w ov' rv' OO' RR') :
  Calls Tryz.prog 127 #[.agg #[.int .i64 n,ov,rv],.agg #[.int .i64 m,ov',rv']] w fun e w'=>e=.returned (.bool (decide (n=m∧OO=OO'∧RR=RR')))∧Below w.heap.size w w':=by
 have H1:=ι h1;have H2:=ι h2;have K:=ι (Below.refl w.heap.size w);clear h1 h2
 go_enter Tryz.func127,Tryz.ntmps127
 go_upto_region 0 with (fail);refine Rg.wl ?_;have hbx:=box3 w (.int .i64 n) ov rv;refine Rg.lr 2 (Rg.exec_box _ _ rfl rfl) ?_;go_frame;have hb:Below w.heap.size w (w.alloc (.cells #[.int .i64 n,ov,rv] 87)):=(Below.refl _ _).alloc (Nat.le_refl _) _;generalize w.alloc (.cells #[.int .i64 n,ov,rv] 87)=w1 at *;replace H1:=ι (H1.out.below hb);replace H2:=ι (H2.out.below hb);replace K:=ι (Rg.acc K.out hb);clear hb;have A0:=ι hbx.1;have A1:=ι hbx.2.1;have A2:=ι hbx.2.2;clear hbx;have hbx:=box3 w1 (.int .i64 m) ov' rv';refine Rg.lr 3 (Rg.exec_box _ _ rfl rfl) ?_;go_frame;have hb:Below w1.heap.size w1 (w1.alloc (.cells #[.int .i64 m,ov',rv'] 87)):=(Below.refl _ _).alloc (Nat.le_refl _) _;generalize w1.alloc (.cells #[.int .i64 m,ov',rv'] 87)=w2 at *;replace H1:=ι (H1.out.below hb);replace H2:=ι (H2.out.below hb);replace A0:=ι (A0.out.below hb);replace A1:=ι (A1.out.below hb)
 replace A2:=ι (A2.out.below hb);replace K:=ι (Rg.acc K.out hb);clear hb;have B0:=ι hbx.1;have B1:=ι hbx.2.1;have B2:=ι hbx.2.2;clear hbx;refine Rg.la 4 (.bool false) ?_;go_frame
 by_cases hnm:n=m
 ·obtain ⟨b1,hb1⟩:∃ b,Hid (decide (OO=OO')=b):=⟨_,ι rfl⟩
  obtain ⟨b2,hb2⟩:∃ b,Hid (decide (RR=RR')=b):=⟨_,ι rfl⟩;have HE:=ι (show decide (n=m∧OO=OO'∧RR=RR')=(b1 && b2) by rw [← hb1.out,← hb2.out]; simp [hnm])
  cases b1 with
  | true =>
   go_upto_region 1 with (fail);refine Rg.wl ?_;refine Rg.lr 5 (exec_field _ rfl rfl (chF0 _ _)) ?_;go_frame;refine Rg.lr 6 (Rg.exec_load (v:=.int .i64 n) _ _ rfl ⟨w.heap.size,0,none⟩ rfl (run_loadInt A0.out.cell)) ?_;go_frame;refine Rg.lr 7 (exec_field _ rfl rfl (chF0 _ _)) ?_;go_frame;refine Rg.lr 8 (Rg.exec_load (v:=.int .i64 m) _ _ rfl ⟨w1.heap.size,0,none⟩ rfl (run_loadInt B0.out.cell)) ?_;go_frame;refine Rg.lr 9 (exec_bin (R:=.bool true) .eql _ _ _ rfl rfl rfl (b_eql _ (decide_eq_true hnm))) ?_;go_frame;refine Rg.lm 10 (.bool true) ?_;go_frame;refine Rg.lW 11 (exec_field _ rfl rfl (chF1 _ _)) ?_;go_frame;refine Rg.lW 12 (Rg.exec_load (v:=ov) _ _ rfl ⟨w.heap.size,1,none⟩ rfl (Rg.run_loadSl _ _ Tryz.underlying84 A1.out.cell)) ?_;go_frame;refine Rg.lW 13 (exec_field _ rfl rfl (chF1 _ _)) ?_;go_frame;refine Rg.lW 14 (Rg.exec_load (v:=ov') _ _ rfl ⟨w1.heap.size,1,none⟩ rfl (Rg.run_loadSl _ _ Tryz.underlying84 B1.out.cell)) ?_;go_frame
   refine listW_ask (some 15) rfl rfl _ _ (exec_fn3 148 _ _ _ _ rfl rfl rfl rfl (Wscl2 _ _)) ?_;refine (sameRowsI_any _ _ _ _ w2 H1.out.1 H2.out.1 hb1).mono ?_;rintro e1 w3 ⟨rfl,hb⟩;refine ⟨_,rfl,?_⟩;go_frame;replace H1:=ι (H1.out.below hb);replace H2:=ι (H2.out.below hb);replace A0:=ι (A0.out.below hb);replace A1:=ι (A1.out.below hb);replace A2:=ι (A2.out.below hb);replace B0:=ι (B0.out.below hb);replace B1:=ι (B1.out.below hb);replace B2:=ι (B2.out.below hb);replace K:=ι (Rg.acc K.out hb);clear hb;refine Rg.lr 16 (exec_pickT (v:=.bool true) _ _ _ rfl rfl rfl) ?_;go_frame;refine Rg.lm 17 (.bool true) ?_;go_frame;refine Rg.lW 18 (exec_field _ rfl rfl (chF2 _ _)) ?_;go_frame;refine Rg.lW 19 (Rg.exec_load (v:=rv) _ _ rfl ⟨w.heap.size,2,none⟩ rfl (Rg.run_loadSl _ _ Tryz.underlying85 A2.out.cell)) ?_;go_frame;refine Rg.lW 20 (exec_field _ rfl rfl (chF2 _ _)) ?_;go_frame
   refine Rg.lW 21 (Rg.exec_load (v:=rv') _ _ rfl ⟨w1.heap.size,2,none⟩ rfl (Rg.run_loadSl _ _ Tryz.underlying85 B2.out.cell)) ?_;go_frame;refine listW_ask (some 22) rfl rfl _ _ (exec_fn3 150 _ _ _ _ rfl rfl rfl rfl (Wscl3 _ _)) ?_;refine (sameRowsR_any _ _ _ _ w3 H1.out.2 H2.out.2 hb2).mono ?_;rintro e1 w4 ⟨rfl,hb⟩;refine ⟨_,rfl,?_⟩;go_frame;replace H1:=ι (H1.out.below hb);replace H2:=ι (H2.out.below hb);replace A0:=ι (A0.out.below hb);replace A1:=ι (A1.out.below hb);replace A2:=ι (A2.out.below hb);replace B0:=ι (B0.out.below hb);replace B1:=ι (B1.out.below hb);replace B2:=ι (B2.out.below hb);replace K:=ι (Rg.acc K.out hb);clear hb;refine Rg.lr 23 (exec_pickT (v:=.bool b2) _ _ _ rfl rfl rfl) ?_;go_frame;refine Rg.la 4 (.bool b2) ?_;go_frame;go_wp2;go_ret;exact ⟨by rw [HE.out]; rfl,K.out⟩
  | false =>
   go_upto_region 1 with (fail);refine Rg.wl ?_;refine Rg.lr 5 (exec_field _ rfl rfl (chF0 _ _)) ?_;go_frame;refine Rg.lr 6 (Rg.exec_load (v:=.int .i64 n) _ _ rfl ⟨w.heap.size,0,none⟩ rfl (run_loadInt A0.out.cell)) ?_;go_frame;refine Rg.lr 7 (exec_field _ rfl rfl (chF0 _ _)) ?_;go_frame;refine Rg.lr 8 (Rg.exec_load (v:=.int .i64 m) _ _ rfl ⟨w1.heap.size,0,none⟩ rfl (run_loadInt B0.out.cell)) ?_;go_frame;refine Rg.lr 9 (exec_bin (R:=.bool true) .eql _ _ _ rfl rfl rfl (b_eql _ (decide_eq_true hnm))) ?_;go_frame;refine Rg.lm 10 (.bool true) ?_;go_frame;refine Rg.lW 11 (exec_field _ rfl rfl (chF1 _ _)) ?_;go_frame;refine Rg.lW 12 (Rg.exec_load (v:=ov) _ _ rfl ⟨w.heap.size,1,none⟩ rfl (Rg.run_loadSl _ _ Tryz.underlying84 A1.out.cell)) ?_;go_frame;refine Rg.lW 13 (exec_field _ rfl rfl (chF1 _ _)) ?_;go_frame;refine Rg.lW 14 (Rg.exec_load (v:=ov') _ _ rfl ⟨w1.heap.size,1,none⟩ rfl (Rg.run_loadSl _ _ Tryz.underlying84 B1.out.cell)) ?_;go_frame
   refine listW_ask (some 15) rfl rfl _ _ (exec_fn3 148 _ _ _ _ rfl rfl rfl rfl (Wscl2 _ _)) ?_;refine (sameRowsI_any _ _ _ _ w2 H1.out.1 H2.out.1 hb1).mono ?_;rintro e1 w3 ⟨rfl,hb⟩;refine ⟨_,rfl,?_⟩;go_frame;replace H1:=ι (H1.out.below hb);replace H2:=ι (H2.out.below hb);replace A0:=ι (A0.out.below hb);replace A1:=ι (A1.out.below hb);replace A2:=ι (A2.out.below hb);replace B0:=ι (B0.out.below hb);replace B1:=ι (B1.out.below hb);replace B2:=ι (B2.out.below hb);replace K:=ι (Rg.acc K.out hb);clear hb;refine Rg.lr 16 (exec_pickT (v:=.bool false) _ _ _ rfl rfl rfl) ?_;go_frame;refine Rg.lm 17 (.bool false) ?_;go_frame;refine listW_pass (some 18) (by kernel_rfl) rfl ?_;go_frame;refine listW_pass (some 19) (by kernel_rfl) rfl ?_;go_frame;refine listW_pass (some 20) (by kernel_rfl) rfl ?_;go_frame;refine listW_pass (some 21) (by kernel_rfl) rfl ?_;go_frame;refine listW_pass (some 22) (by kernel_rfl) rfl ?_;go_frame
   refine Rg.lr 23 (exec_pickF (v:=.bool false) _ _ _ rfl rfl rfl) ?_;go_frame;refine Rg.la 4 (.bool false) ?_;go_frame;go_wp2;go_ret;exact ⟨by rw [HE.out]; rfl,K.out⟩
 ·have HE:=ι (show decide (n=m∧OO=OO'∧RR=RR')=false by simp [hnm])
  go_upto_region 1 with (fail);refine Rg.wl ?_;refine Rg.lr 5 (exec_field _ rfl rfl (chF0 _ _)) ?_;go_frame;refine Rg.lr 6 (Rg.exec_load (v:=.int .i64 n) _ _ rfl ⟨w.heap.size,0,none⟩ rfl (run_loadInt A0.out.cell)) ?_;go_frame;refine Rg.lr 7 (exec_field _ rfl rfl (chF0 _ _)) ?_;go_frame;refine Rg.lr 8 (Rg.exec_load (v:=.int .i64 m) _ _ rfl ⟨w1.heap.size,0,none⟩ rfl (run_loadInt B0.out.cell)) ?_;go_frame;refine Rg.lr 9 (exec_bin (R:=.bool false) .eql _ _ _ rfl rfl rfl (b_eql _ (decide_eq_false hnm))) ?_;go_frame;refine Rg.lm 10 (.bool false) ?_;go_frame;refine listW_pass (some 11) (by kernel_rfl) rfl ?_;go_frame;refine listW_pass (some 12) (by kernel_rfl) rfl ?_;go_frame;refine listW_pass (some 13) (by kernel_rfl) rfl ?_;go_frame;refine listW_pass (some 14) (by kernel_rfl) rfl ?_;go_frame;refine listW_pass (some 15) (by kernel_rfl) rfl ?_;go_frame;refine Rg.lr 16 (exec_pickF (v:=.bool false) _ _ _ rfl rfl rfl) ?_;go_frame
  refine Rg.lm 17 (.bool false) ?_;go_frame;refine listW_pass (some 18) (by kernel_rfl) rfl ?_;go_frame;refine listW_pass (some 19) (by kernel_rfl) rfl ?_;go_frame;refine listW_pass (some 20) (by kernel_rfl) rfl ?_;go_frame;refine listW_pass (some 21) (by kernel_rfl) rfl ?_;go_frame;refine listW_pass (some 22) (by kernel_rfl) rfl ?_;go_frame;refine Rg.lr 23 (exec_pickF (v:=.bool false) _ _ _ rfl rfl rfl) ?_;go_frame;refine Rg.la 4 (.bool false) ?_;go_frame;go_wp2;go_ret;exact ⟨by rw [HE.out]; rfl,K.out⟩
end Go.Proofs.YtdnmmibchbceeaaGreat

namespace Go.Proofs.Rg
open Go Go.RowKit
theorem in_run {l n:Nat} {P:Program} {ops:Array Oper} {rest:List Oper} {o:Oper} {a:Act} {w w':World} {Q:Exit→Act→World→Prop} {v:Value} (d:Option Tmp) (hg:o.guard=none) (hd:o.dst=d) (hnd:∀ c,o.op≠.defer c)
  (hr:(execOp a.eval o).run P w=.ok (.value v) w') (h:wpListIn (Fence.wide.inRound l) n P ops Q rest (a.put d v) w'):wpListIn (Fence.wide.inRound l) n P ops Q (o :: rest) a w:=by
 subst hd;refine wpListIn_plain hg fun K hK=>⟨fun _ _=>trivial,?_⟩;rw [Oper.semAt_eq _ _ _ hnd,hr];exact hK _ _ h
theorem in_skip {l n:Nat} {P:Program} {ops:Array Oper} {rest:List Oper} {o:Oper} {a:Act} {w w':World} {Q:Exit→Act→World→Prop} (d:Option Tmp) (hg:o.guard=none) (hd:o.dst=d) (hnd:∀ c,o.op≠.defer c)
  (hr:(execOp a.eval o).run P w=.ok .skip w') (h:wpListIn (Fence.wide.inRound l) n P ops Q rest (a.put d undef) w'):wpListIn (Fence.wide.inRound l) n P ops Q (o :: rest) a w:=by
 subst hd;refine wpListIn_plain hg fun K hK=>⟨fun _ _=>trivial,?_⟩;rw [Oper.semAt_eq _ _ _ hnd,hr];exact hK _ _ h
theorem inW_run {l n:Nat} {P:Program} {ops:Array Oper} {rest:List Oper} {o:Oper} {a:Act} {w w':World} {Q:Exit→Act→World→Prop} {v:Value} (d:Option Tmp) (hw:Region.wanted o (yielded ops a.tmps)=true) (hd:o.dst=d) (hnd:∀ c,o.op≠.defer c)
  (hr:(execOp a.eval o).run P w=.ok (.value v) w') (h:wpListIn (Fence.wide.inRound l) n P ops Q rest (a.put d v) w'):wpListIn (Fence.wide.inRound l) n P ops Q (o :: rest) a w:=by
 subst hd;refine wpListIn_step fun K hK=>?_;rw [if_pos hw];refine ⟨fun _ _=>trivial,?_⟩;rw [Oper.semAt_eq _ _ _ hnd,hr];exact hK _ _ h
theorem inW_ask {l n:Nat} {P:Program} {ops:Array Oper} {rest:List Oper} {o:Oper} {a:Act} {w:World} {Q:Exit→Act→World→Prop} (d:Option Tmp) (hw:Region.wanted o (yielded ops a.tmps)=true) (hd:o.dst=d) (hnd:∀ c,o.op≠.defer c) (f:FuncId) (args:Array Value)
  (hr:(execOp a.eval o).run P w=.ok (.enter f args) w) (h:Calls P f args w fun e w'=>∃ v,e=.returned v∧wpListIn (Fence.wide.inRound l) n P ops Q rest (a.put d v) w'):wpListIn (Fence.wide.inRound l) n P ops Q (o :: rest) a w:=by
 subst hd;refine wpListIn_step fun K hK=>?_;rw [if_pos hw];refine ⟨fun _ _=>trivial,?_⟩;rw [Oper.semAt_eq _ _ _ hnd,hr];refine ⟨(fun hh=>by cases hh),(CallsIn.inRound l (callsIn_wide.2 h)).mono ?_⟩;rintro e w' ⟨v,rfl,hv⟩;exact hK _ _ hv
theorem inW_pass {l n:Nat} {P:Program} {ops:Array Oper} {rest:List Oper} {o:Oper} {a:Act} {w:World} {Q:Exit→Act→World→Prop} (d:Option Tmp) (hw:Region.wanted o (yielded ops a.tmps)=false) (hd:o.dst=d)
  (h:wpListIn (Fence.wide.inRound l) n P ops Q rest (a.put d undef) w):wpListIn (Fence.wide.inRound l) n P ops Q (o :: rest) a w:=by
 subst hd;unfold wpListIn;rw [if_neg (by rw [hw]; decide)];exact ⟨fun _ _=>trivial,h⟩
def onlyN (Q:Exit→Act→World→Prop):Exit→Act→World→Prop
 | .normal,a,w=>Q .normal a w
 | _,_,_=>False
theorem wp_onlyN {P:Program} {c:Code} {Q:Exit→Act→World→Prop} {a:Act} {w:World} (h:c.wp P (onlyN Q) a w):c.wp P Q a w :=
 wp_mono h fun e a w hq=>by cases e <;> first | exact hq | exact hq.elim
theorem onlyN_i {Q:Exit→Act→World→Prop} {a:Act} {w:World} (h:Q .normal a w):onlyN Q .normal a w:=h
end Go.Proofs.Rg

namespace Go.Proofs.YtdnmmibchbceeaaGreat
open Go.RowKit
open Go.Proofs
open Go.Shelf
attribute [local go_sem] Oper.semAt_some
def finTo (m k:Nat):List (Fin m):=(List.finRange m).take k
theorem finTo_succ {m k:Nat} (h:k<m):finTo m (k+1)=finTo m k++[⟨k,h⟩]:=by
 unfold finTo;rw [List.take_succ_eq_append_getElem (by rw [List.length_finRange]; exact h)];simp
theorem finTo_len {m k:Nat} (h:k≤m):(finTo m k).length=k:=by
 unfold finTo;rw [List.length_take,List.length_finRange];omega
theorem finTo_all (m:Nat):finTo m m=List.finRange m:=by
 unfold finTo;rw [List.take_of_length_le (by rw [List.length_finRange]; exact Nat.le_refl _)]
theorem reps1_in (F:Fence) (n:Nat) (h7:F.fn 147) (hro:F.round=none) (hn:1≤n) (l Bs n₀ m cap:Nat) (ad:Option Addr) (RV:Nat→Value) (hm:m≤1000000000) (had:0<m→∃ b off,ad=some ⟨b,off,none⟩∧b<n₀) (J Jx:List (Fin m)→World→Prop)
  (hY:∀ pre x W,J pre W→pre.length<m→YieldAt F (n - 1) Tryz.prog l #[.int .i64 ((x.1:Nat):Int),RV x.1] W fun e W' =>
   (e=.returned (.bool true)∧J (pre++[x]) W'∧Below n₀ W W')∨(e=.returned (.bool false)∧Jx (pre++[x]) W'))
  (W:World) (hBs:W.cell? ⟨Bs,2,none⟩=some (.slice ad m cap)) (hc:∀ b off,ad=some ⟨b,off,none⟩→∀ j,j<m→W.cell? ⟨b,off+j,none⟩=some (RV j)) (h0:J [] W) :
  CallsIn F n Tryz.prog 147 #[.func (.yield l) #[] #[],.pointer (some ⟨Bs,0,none⟩)] W fun e W'=>(∃ v,e=.returned v) ∧
   ((∃ ys,ys=finTo m m∧J ys W')∨(∃ pre,(∃ k,k≤m∧pre=finTo m k)∧Jx pre W')):=by
 refine callsIn_of_wp Tryz.func147 rfl h7 ?_ hro;simp only [Tryz.ntmps147,List.size_toArray,List.length_cons,List.length_nil,Nat.reduceAdd,Nat.reduceSub,Array.replicate_succ,Array.replicate_zero,List.push_toArray,List.append_toArray,List.nil_append,List.cons_append]
 gi_wp2
 gi_loopw [8] (fun i wr=>∃ k:Nat,k≤m∧i=.int .i64 k∧J (finTo m k) wr∧Below n₀ W wr)
  (fun i _=>m - (intOf i).toNat)
 case atStart=>exact ⟨0,Nat.zero_le _,rfl,h0,Below.refl _ _⟩
 case round =>
  obtain ⟨k,hk,rfl,hJs,hnx⟩:=hrel
  by_cases hlt:k<m
  ·obtain ⟨b,off,rfl,hb⟩:=had (by omega)
   have hcx:wr.cell? ⟨b,off+k,none⟩=some (RV k):=(hnx.cell (p:=⟨b,off+k,none⟩) hb).trans (hc b off rfl k hlt);obtain ⟨fn,tmps,assign,body,hy,hR⟩:=hY _ ⟨k,hlt⟩ wr hJs (by rw [finTo_len hk]; exact hlt)
   dsimp only at hy
   gi_wp2
   refine hR.mono ?_
   rintro e W3 (⟨rfl,hJ3,hk3⟩ | ⟨rfl,hJx3⟩)
   ·gi_wp2
    go_roundw
    case rel=>exact ⟨k+1,by omega,by simp,by rw [finTo_succ hlt]; exact hJ3,hnx.trans hk3⟩
    case measure=>simp [intOf]; omega
   ·gi_wp2
    refine bodyPost_ret (results_none rfl _ _ _) rfl ?_;exact ⟨⟨_,rfl⟩,.inr ⟨_,⟨k+1,by omega,(finTo_succ hlt).symm⟩,hJx3⟩⟩
  ·obtain rfl:k=m:=by omega
   gi_wp2
   go_end0
   exact ⟨⟨_,rfl⟩,.inl ⟨_,rfl,hJs⟩⟩
end Go.Proofs.YtdnmmibchbceeaaGreat

namespace Go.Proofs.RF
open Go Go.RowKit
def Dfr (D:Nat) (W:World):Prop:=W.heap[D]?=some (.deferred (some []))
theorem Dfr.size {D:Nat} {W:World} (h:Dfr D W):D<W.heap.size:=(Array.getElem?_eq_some_iff.1 h).1
theorem Dfr.of_below' {D:Nat} {W W':World} (h:Dfr D W) (hb:Below W.heap.size W W'):Dfr D W':=(hb.block D h.size).trans h
theorem Dfr.alloc {D:Nat} {W:World} (h:Dfr D W) (o:Obj):Dfr D (W.alloc o):=(Below.heap_alloc W o D h.size).trans h
theorem Dfr.drew {D:Nat} {W:World} (h:Dfr D W):Dfr D W.drew:=h
theorem Dfr.setCell {D:Nat} {W:World} (h:Dfr D W) (a:Addr) (v:Value):Dfr D (W.setCell a v) :=
 (KeepsOthers.setCell W a v).same D _ h rfl
theorem Dfr.cell {D:Nat} {o:Option (List Deferred)} {W:World} (h:Dfr D W) (a:Addr):(W.putObj D (.deferred o)).cell? a=W.cell? a:=by
 unfold World.cell?
 by_cases e:a.block=D
 ·rw [e,World.putObj_heap_same h.size,show W.heap[D]?=_ from h]
 ·rw [World.putObj_heap_other e]
theorem Dfr.frozen {D:Nat} {o:Option (List Deferred)} {W:World} (h:Dfr D W) (a:Addr):(W.putObj D (.deferred o)).frozen? a=W.frozen? a:=by
 unfold World.frozen?
 by_cases e:a.block=D
 ·rw [e,World.putObj_heap_same h.size,show W.heap[D]?=_ from h]
 ·rw [World.putObj_heap_other e]
def mark (D:Nat):Deferred:={ target:=.collected D,args:=#[] }
theorem leaves {n:Nat} {P:Program} {fn:Func} {tmps:Array Value} {R:Ending→World→Prop} (B:Nat):∀ (ds:List Nat) (W:World),ds.Nodup→(∀ D,D∈ds→Dfr D W∧B≤D) →
  (∀ W',Below B W W'→(∀ a,W'.cell? a=W.cell? a)→(∀ a,W'.frozen? a=W.frozen? a)→∃ v,(results fn tmps).run P W'=.ok v W'∧R (.returned v) W') →
  LeavesInM Fence.wide n P fn tmps R (ds.map mark) .returning W
 | [],W,_,_,h=>h W (Below.refl _ _) (fun _=>rfl) (fun _=>rfl)
 | D :: ds,W,hn,hD,h=>by
  rw [List.nodup_cons] at hn;obtain ⟨hd,hB⟩:=hD D (by simp);have hb:Below B W (W.putObj D (.deferred none)):=⟨rfl,rfl,rfl,by simp,fun k hk=>World.putObj_heap_other (by omega)⟩;refine ⟨by simp,.inl ⟨D,_,rfl,run_takeDeferred hd,leaves B ds _ hn.2 (fun D' hD'=>?_) (fun W' h1 h2 h3=>?_)⟩⟩
  ·refine ⟨(World.putObj_heap_other ?_).trans (hD D' (by simp [hD'])).1,(hD D' (by simp [hD'])).2⟩
   intro e; exact hn.1 (e▸hD')
  ·exact h W' (hb.trans h1) (fun a=>(h2 a).trans (hd.cell a)) (fun a=>(h3 a).trans (hd.frozen a))
theorem calls_marks {P:Program} {f:FuncId} {fn:Func} {c:Code} {args:Array Value} {w:World} {R:Ending→World→Prop}
  (hf:P.funcs[f]?=some fn) (hb:fn.body=some c)
  (h:c.wp P (bodyPostM Fence.wide 0 P fn R) { tmps:=args++Array.replicate (fn.ntmps - args.size) undef,defers:=[] } w):Calls P f args w R :=
 callsIn_wide.1 (callsIn_of_wp_marks (n:=0) hf hb trivial (wpIn_wide.2 h))
end Go.Proofs.RF
namespace Go.Proofs.YtdnmmibchbceeaaGreat
open Go.RowKit
open Go.Proofs
open Go.Shelf
attribute [local irreducible] Go.Calls Go.wpList
structure KK (B n₀:Nat) (W W':World):Prop where
 keeps:KeepsFrom B W W'
 bel:Below n₀ W W'
 le:n₀≤W.heap.size
theorem KK.refl {B n₀:Nat} {W:World} (h:n₀≤W.heap.size):KK B n₀ W W:=⟨KeepsFrom.refl _ _,Below.refl _ _,h⟩
theorem KK.acc {B n₀:Nat} {W W' W'':World} (h:KK B n₀ W W') (hb:Below W'.heap.size W' W''):KK B n₀ W W'' :=
 ⟨h.keeps.trans ⟨hb.size,fun k o _ hk _=>(hb.block k (Array.getElem?_eq_some_iff.1 hk).1).trans hk⟩,h.bel.trans (hb.mono (Nat.le_trans h.le h.bel.size)),h.le⟩
theorem KK.set {B n₀:Nat} {W W':World} (h:KK B n₀ W W') {b o:Nat} (v:Value) (hb:n₀≤b):KK B n₀ W (W'.setCell ⟨b,o,none⟩ v) :=
 ⟨h.keeps.trans ((KeepsOthers.setCell _ _ _).from _),h.bel.setCell (p:=⟨b,o,none⟩) hb v,h.le⟩
theorem KK.grown {B n₀:Nat} {W W' W'':World} (h:KK B n₀ W W') {e:TypeId} {v:Value} {n size:Nat} {xs:List Value} (hr:W'.ownsRow n₀ e size v n xs) (hg:W'.grownBy W'' v.ownBlock):KK B n₀ W W'' :=
 ⟨h.keeps.trans ((KeepsOthers.of_grownBy hg (fun j o e1 e2=>by
  obtain ⟨_,h2⟩:=hr
  rcases h2 with ⟨h3,_⟩ | ⟨g,cap,cur,h3,hg0,hc,_⟩
  ·rw [h3] at e1; simp [Value.ownBlock] at e1
  ·rw [h3] at e1
   simp [Value.ownBlock] at e1;subst e1;rw [hc] at e2
   cases e2; rfl)).from _),h.bel.grown hg (Nat.le_trans h.le h.bel.size) (fun j hj=>(hr.lt j hj).1),h.le⟩
theorem reps_any (n:Int) (ov rv:Value) (w:World) :
  Calls Tryz.prog 126 #[.agg #[.int .i64 n,ov,rv]] w fun e w'=>∃ fb,e=.returned (.func (.func 147) #[] #[.pointer (some ⟨fb,0,none⟩)])∧CL w' fb 2 rv∧Below w.heap.size w w':=by
 go_enter Tryz.func126,Tryz.ntmps126
 have hbx:=box3 w (.int .i64 n) ov rv;go_upto_region 0 with (fail);refine Rg.wl ?_;refine Rg.lr 1 (Rg.exec_box _ _ rfl rfl) ?_;go_frame;have hb:Below w.heap.size w (w.alloc (.cells #[.int .i64 n,ov,rv] 87)):=(Below.refl _ _).alloc (Nat.le_refl _) _;generalize w.alloc (.cells #[.int .i64 n,ov,rv] 87)=w1 at *;have H:=ι hbx.2.2;have K:=ι hb;clear hbx hb;go_wp2;go_ret;exact ⟨_,rfl,H.out,K.out⟩
structure RV3 (n₀:Nat) (w:World) (ad:Option Addr) (m:Nat) (RV:Nat→Value):Prop where
 le:m≤1000000000
 had:0<m→∃ b off,ad=some ⟨b,off,none⟩∧b<n₀
 cells:∀ b off,ad=some ⟨b,off,none⟩→∀ j,j<m→w.cell? ⟨b,off+j,none⟩=some (RV j)
 sz:n₀≤w.heap.size
theorem RV3.below {n₀:Nat} {w w':World} {ad:Option Addr} {m:Nat} {RV:Nat→Value} (h:RV3 n₀ w ad m RV) (hb:Below n₀ w w'):RV3 n₀ w' ad m RV :=
 ⟨h.le,h.had,fun b off e j hj=>by
  obtain ⟨b',off',e',hlt⟩:=h.had (by omega);rw [e] at e';simp only [Option.some.injEq,Addr.mk.injEq,and_true] at e';obtain ⟨rfl,rfl⟩:=e'
  exact (hb.cell (p:=⟨b,off+j,none⟩) hlt).trans (h.cells b off e j hj),Nat.le_trans h.sz hb.size⟩
theorem reps_stops {w:World} {n₀ m cap fb:Nat} {ad:Option Addr} {RV:Nat→Value} (h:RV3 n₀ w ad m RV) (hfb:CL w fb 2 (.slice ad m cap)) (n:Nat) (hn:1≤n) :
  SeqStopsK Fence.wide n Tryz.prog 147 #[.pointer (some ⟨fb,0,none⟩)] (fun x:Fin m=>#[Value.int .i64 ((x.1:Nat):Int),RV x.1]) (Below n₀) (fun ys=>ys=finTo m m) (fun pre=>∃ k,k≤m∧pre=finTo m k) m w:=fun l J Jx W hW _ _ hY h0=>by
 have h':=h.below (hW.mono h.sz);exact reps1_in Fence.wide n trivial rfl hn l fb n₀ m cap ad RV h.le h.had J Jx hY W ((hW.cell (p:=⟨fb,2,none⟩) hfb.lt).trans hfb.cell) h'.cells h0
theorem range_reps {g:Operand} {ps:Array Go.Tmp} {assign body:Code} {Q:Exit→Act→World→Prop} {a:Act} {w:World} {n₀ m cap fb:Nat} {ad:Option Addr} {RV:Nat→Value}
  (hg:a.eval g=.func (.func 147) #[] #[.pointer (some ⟨fb,0,none⟩)]) (hfb:CL w fb 2 (.slice ad m cap)) (h:RV3 n₀ w ad m RV) (hps:ps.size=2)
  (I:List (Fin m)→World→Prop) (Ix:Code→List (Fin m)→World→Prop) (hI:OwnFrom w.heap.size I) (hIx:∀ c,OwnFrom w.heap.size (Ix c)) (h0:I [] w) (a₁:Fin m→Act)
  (hassign:∀ (l:Nat) (x:Fin m) (W:World) (K:Act→World→Prop),K (a₁ x) W→assign.wpIn (Fence.wide.inRound l) 1 Tryz.prog (Exit.then K (fun _ _ _=>False)) { tmps:=(ps.zip #[Value.int .i64 ((x.1:Nat):Int),RV x.1]).foldl (fun t (p,v)=>t.setIfInBounds p v) a.tmps,defers:=[] } W)
  (hbody:∀ (l:Nat) (pre:List (Fin m)) (x:Fin m) (W:World),I pre W→pre.length<m→body.wpIn (Fence.wide.inRound l) 1 Tryz.prog (ownPostG w.heap.size (Below n₀) I Ix (pre++[x]) W) (a₁ x) W)
  (hdone:∀ (D:Nat) (W:World),w.heap.size≤D→I (finTo m m) W→RF.Dfr D W→Q .normal { a with defers:=RF.mark D :: a.defers } W)
  (hstop:∀ (D:Nat) (c:Code) (pre:List (Fin m)) (W:World),w.heap.size≤D→Ix c pre W→RF.Dfr D W→c.wp Tryz.prog Q { a with defers:=RF.mark D :: a.defers } W) :
  (Code.rangeFunc g ps assign body).wp Tryz.prog Q a w :=
 wpIn_wide.1 (wpIn_rangeFunc_ownG (F:=Fence.wide) (n:=3) rfl (by decide) (gf:=147) (lb:=#[.pointer (some ⟨fb,0,none⟩)]) hg trivial (enters_of Tryz.func147 (by kernel_rfl) rfl)
  (reps_stops h hfb 2 (by decide)) belowK_t (belowK_b h.sz) (Below.refl _ _) (fun _=>hps.symm) I Ix hI hIx h0 a₁ hassign hbody
  (fun D xs W hD hx hi hd=>by subst hx; exact hdone D W hD hi hd) (fun D c pre W hD _ hi hd=>wpIn_wide.2 (hstop D c pre W hD hi hd)))
end Go.Proofs.YtdnmmibchbceeaaGreat

namespace Go.Proofs.YtdnmmibchbceeaaGreat
open Go.Proofs
open Go.Proofs.Cm (Gr Gd IsChain IsG St)
theorem asc_len {l:List Nat} {a b:Nat} (h:l.Pairwise (· < ·)) (hr:∀ x∈l,a≤x∧x<b):l.length≤b - a:=by
 have h1:l.Nodup:=h.imp (fun {x y} hlt e=>by omega)
 have h2:=nodup_le (m:=List.range' a (b - a)) h1 (fun x hx=>by
  have:=hr x hx;rw [List.mem_range'_1]
  omega)
 rwa [List.length_range'] at h2
theorem getD_inf {α:Type} {l:List (List α)} {i:Nat} (h:i<l.length):l.getD i []=l[i]:=by rw [List.getD_eq_getElem?_getD,List.getElem?_eq_getElem h]; rfl
theorem chain_mem {n:Nat} {H:List Nat→Prop} {O:List (List Nat)} {R:List (List (List Nat))} (h:IsChain n H O R) {r:List Nat} (hr:r∈R.flatten):∃ i k,i<n∧k<(O.getD i []).length∧r=(R.getD i []).getD k []:=by
 obtain ⟨l,hl,hr⟩:=List.mem_flatten.1 hr;obtain ⟨i,hi,rfl⟩:=List.getElem_of_mem hl;obtain ⟨k,hk,rfl⟩:=List.getElem_of_mem hr
 have hin:i<n:=by rw [← h.lenR]; exact hi
 have e1:=h.len i hin;rw [getD_inf hi] at e1;exact ⟨i,k,hin,by omega,by rw [getD_inf hi]; exact (getD_li' hk).symm⟩
where
 getD_li' {l:List (List Nat)} {k:Nat} (h:k<l.length):l.getD k []=l[k]:=by rw [List.getD_eq_getElem?_getD,List.getElem?_eq_getElem h]; rfl
theorem chain_H {n:Nat} {H:List Nat→Prop} {O:List (List Nat)} {R:List (List (List Nat))} (h:IsChain n H O R) {r:List Nat} (hr:r∈R.flatten):H r:=by
 obtain ⟨i,k,hi,hk,rfl⟩:=chain_mem h hr;exact (h.rep i k hi hk).1.1.1
theorem chain_gen {n:Nat} {H:List Nat→Prop} (hH:IsG n H) {O:List (List Nat)} {R:List (List (List Nat))} (h:IsChain n H O R) (x:List Nat):H x↔Gr n (·∈R.flatten) x:=by
 have hgs:∀ s,s∈R.flatten→Gd n s:=fun s hs=>hH.gd s (chain_H h hs)
 constructor
 ·intro hx
  have key:∀ d i x,i+d=n→St H i x→Gr n (·∈R.flatten) x:=by
   intro d
   induction d with
   | zero =>
    intro i x hi hx
    obtain rfl:i=n:=by omega
    rw [Cm.Fx.all (hH.gd x hx.1) hx.2];exact .one
   | succ d ih =>
    intro i x hi hx
    have hin:i<n:=by omega
    have gx:=hH.gd x hx.1;have hp:=(h.orb i (Cm.ap x i) hin).2 ⟨x,hx,rfl⟩;obtain ⟨k,hk,e⟩:=List.getElem_of_mem hp;have hl:=(h.rep i k hin hk).1
    have e2:(O.getD i []).getD k 0=Cm.ap x i:=by rw [List.getD_eq_getElem?_getD,List.getElem?_eq_getElem hk]; exact e
    rw [e2] at hl;have e3:=h.len i hin
    have hrm:(R.getD i []).getD k []∈R.flatten:=by
     have hiR:i<R.length:=by rw [h.lenR]; exact hin
     rw [getD_inf hiR];rw [getD_inf hiR] at e3;rw [List.getD_eq_getElem?_getD,List.getElem?_eq_getElem (by omega)];exact List.mem_flatten.2 ⟨_,List.getElem_mem hiR,List.getElem_mem _⟩
    generalize (R.getD i []).getD k []=r at *;have gr:=hgs r hrm
    have hst:St H (i+1) (Ma.mulN x (Ma.invN r)):=by
     refine ⟨hH.mul _ _ hx.1 (hH.inv _ hl.1.1),fun j hj=>?_⟩;rw [Cm.ap_mul gx (by omega)]
     by_cases ej:j=i
     ·subst ej
      rw [← hl.2];exact Cm.ap_inv gr hin
     ·rw [hx.2 j (by omega)]
      exact Cm.Fx.inv gr (Nat.le_of_lt hin) hl.1.2 j (by omega)
    have h1:=ih (i+1) _ (by omega) hst;have h2:=Gr.mul _ _ h1 (.gen r hrm)
    rwa [Cm.mul_inv_cancel gx gr] at h2
  exact key n 0 x (by omega) ⟨hx,fun j hj=>absurd hj (Nat.not_lt_zero _)⟩
 ·intro hx
  exact Gr.sub hH (fun s hs=>chain_H h hs) hx
theorem chain_len {n:Nat} {H:List Nat→Prop} (hH:IsG n H) {O:List (List Nat)} {R:List (List (List Nat))} (h:IsChain n H O R) {i:Nat} (hi:i<n):(O.getD i []).length≤n - i:=by
 refine asc_len (h.asc i hi) fun p hp=>?_;obtain ⟨x,hx,rfl⟩:=(h.orb i p hi).1 hp;have gx:=hH.gd x hx.1;refine ⟨Nat.le_of_not_lt fun hlt=>?_,Cm.ap_lt gx hi⟩;have e:=hx.2 _ hlt;have:=Cm.ap_inj gx (Nat.lt_trans hlt hi) hi e;omega
def ChOK (n:Int) (OO:List (List Int)) (RR:List (List (List Int))):Prop:=∃ (N:Nat) (O:List (List Nat)) (R:List (List (List Nat))),n=((N:Nat):Int)∧1≤N∧N≤64∧OO=O.map Ma.ofN∧RR=R.map (List.map Ma.ofN)∧IsChain N (Gr N (·∈R.flatten)) O R∧∀ s∈R.flatten,Gd N s
def ChC (n:Int) (OO:List (List Int)) (RR:List (List (List Int))) (c:Int):Prop:=(¬ (1≤n∧n≤64)∧c=2)∨((1≤n∧n≤64)∧((ChOK n OO RR∧c=0)∨(¬ ChOK n OO RR∧c=3)))
theorem ChC.uniq {n:Int} {OO:List (List Int)} {RR:List (List (List Int))} {c c':Int} (h:ChC n OO RR c) (h':ChC n OO RR c'):c=c':=by
 rcases h with ⟨a,rfl⟩ | ⟨a,⟨b,rfl⟩ | ⟨b,rfl⟩⟩ <;> rcases h' with ⟨a',rfl⟩ | ⟨a',⟨b',rfl⟩ | ⟨b',rfl⟩⟩ <;> first | rfl | exact absurd a a' | exact absurd a' a | exact absurd b b' | exact absurd b' b
theorem ChC.zero {n:Int} {OO:List (List Int)} {RR:List (List (List Int))} (h:ChC n OO RR 0):ChOK n OO RR:=by
 rcases h with ⟨_,e⟩ | ⟨_,⟨b,_⟩ | ⟨_,e⟩⟩
 ·cases e
 ·exact b
 ·cases e
theorem ChC.of {n:Int} {OO:List (List Int)} {RR:List (List (List Int))} (h:ChOK n OO RR):ChC n OO RR 0:=by
 obtain ⟨N,O,R,e,h1,h2,_⟩:=id h;exact .inr ⟨by omega,.inl ⟨h,rfl⟩⟩
theorem ChOK.lens {n:Int} {OO:List (List Int)} {RR:List (List (List Int))} (h:ChOK n OO RR):(OO.length:Int)=n∧(RR.length:Int)=n:=by
 obtain ⟨N,O,R,rfl,h1,h2,rfl,rfl,hc,_⟩:=h;rw [List.length_map,List.length_map,hc.lenO,hc.lenR];exact ⟨rfl,rfl⟩
theorem ChOK.row {n:Int} {OO:List (List Int)} {RR:List (List (List Int))} (h:ChOK n OO RR) {i:Nat} (hi:i<RR.length) (hi2:i<OO.length):RR[i].length=OO[i].length∧(RR[i].length:Int)≤n - (i:Int):=by
 obtain ⟨N,O,R,rfl,h1,h2,rfl,rfl,hc,hg⟩:=h;rw [List.length_map] at hi hi2
 have hin:i<N:=by rw [← hc.lenR]; exact hi
 have e1:=hc.len i hin;have e2:=chain_len (Gr.isG (gs:=(·∈R.flatten)) hg) hc hin;rw [getD_inf hi2] at e1 e2;rw [getD_inf hi] at e1;simp only [List.getElem_map,List.length_map,Ma.len_ofN];omega
theorem ChOK.perm {n:Int} {OO:List (List Int)} {RR:List (List (List Int))} (h:ChOK n OO RR) {i:Nat} (hi:i<RR.length) {x:List Int} (hx:x∈RR[i]):(x.length:Int)=n∧Ma.pchk x=0:=by
 obtain ⟨N,O,R,rfl,h1,h2,rfl,rfl,hc,hg⟩:=h;rw [List.length_map] at hi;rw [List.getElem_map] at hx;obtain ⟨y,hy,rfl⟩:=List.mem_map.1 hx;have gy:=hg y (List.mem_flatten.2 ⟨_,List.getElem_mem hi,hy⟩);rw [Ma.len_ofN,gy.2];exact ⟨rfl,Ma.pchk_ok (by rw [Ma.len_ofN,gy.2]; exact h1) (by rw [Ma.len_ofN,gy.2]; exact h2) (Ma.okN_ofN gy.1)⟩
theorem map_ofN_inj:∀ {a b:List (List Nat)},a.map Ma.ofN=b.map Ma.ofN→a=b
 | [],[],_=>rfl
 | [],_ :: _,h=>by simp at h
 | _ :: _,[],h=>by simp at h
 | x :: a,y :: b,h=>by
  simp only [List.map_cons,List.cons.injEq] at h;rw [Ma.ofN_inj h.1,map_ofN_inj h.2]
theorem flat_map_ofN (R:List (List (List Nat))):(R.map (List.map Ma.ofN)).flatten=R.flatten.map Ma.ofN:=by
 induction R with
 | nil=>rfl
 | cons r R ih=>simp only [List.map_cons,List.flatten_cons,List.map_append,ih]
theorem ChOK.same {N:Nat} (h1:1≤N) (h2:N≤64) {OO:List (List Int)} {RR:List (List (List Int))} {gs:List (List Nat)} (hg:∀ s∈gs,Gd N s) (hgs:RR.flatten=gs.map Ma.ofN) {O:List (List Nat)} {R:List (List (List Nat))} (hc:IsChain N (Gr N (·∈gs)) O R) :
  ChOK ((N:Nat):Int) OO RR↔OO=O.map Ma.ofN∧RR=R.map (List.map Ma.ofN):=by
 constructor
 ·rintro ⟨N',O',R',e,_,_,rfl,rfl,hc',_⟩
  obtain rfl:N=N':=by omega
  rw [flat_map_ofN] at hgs;have:=map_ofN_inj hgs;subst this;obtain ⟨rfl,rfl⟩:=hc.uniq hc';exact ⟨rfl,rfl⟩
 ·rintro ⟨rfl,rfl⟩
  rw [flat_map_ofN] at hgs;have:=map_ofN_inj hgs;subst this;exact ⟨N,O,R,rfl,h1,h2,rfl,rfl,hc,hg⟩
theorem chain_ok {N:Nat} (h1:1≤N) (h2:N≤64) {gs:List (List Nat)} (hg:∀ s∈gs,Gd N s) {O:List (List Nat)} {R:List (List (List Nat))} (hc:IsChain N (Gr N (·∈gs)) O R):ChOK ((N:Nat):Int) (O.map Ma.ofN) (R.map (List.map Ma.ofN)):=by
 have hH:=Gr.isG (n:=N) (gs:=(·∈gs)) hg;have e:Gr N (·∈gs)=Gr N (·∈R.flatten):=funext fun x=>propext (chain_gen hH hc x);refine ⟨N,O,R,rfl,h1,h2,rfl,rfl,?_,fun s hs=>hH.gd s (chain_H hc hs)⟩;rw [← e];exact hc
end Go.Proofs.YtdnmmibchbceeaaGreat

namespace Go.Proofs.YtdnmmibchbceeaaGreat
open Go.RowKit
open Go.Proofs
open Go.Proofs.Ob
open Go.Shelf
open Go.Proofs.Cm (Lv Twr trOf)
attribute [local go_sem] Oper.semAt_some
attribute [local irreducible] Go.Calls Go.wpList Go.wpListIn
theorem Wvcl0 (args:Array Value) (w:World):(callFunc 126 args).run Tryz.prog w=.ok (.enter 126 args) w:=by kernel_rfl
theorem Wvcl1 (args:Array Value) (w:World):(callFunc 75 args).run Tryz.prog w=.ok (.enter 75 args) w:=by kernel_rfl
theorem Wvcl4 (args:Array Value) (w:World):(callFunc 127 args).run Tryz.prog w=.ok (.enter 127 args) w:=by kernel_rfl
theorem infoErrno:(Tryz.prog.info? 31).map (fun i=>(i.zero,i.size,i.bytes))=some (some (.int .i64 0),1,8):=by kernel_rfl
theorem exec_allocE {o:Oper} {a:Act} {w:World} (ho:o.op=.alloc 31):(execOp a.eval o).run Tryz.prog w=.ok (.value (.pointer (some ⟨w.heap.size,0,none⟩))) (w.alloc (.cells #[.int .i64 0] 31)):=by
 obtain ⟨i0,hi,hz0,hz1,hz2⟩:=info_parts infoErrno;unfold execOp;simp [ho,Instr.alloc,typeInfo,zeroValue,hi,hz0,newVar,Value.cells,Result.andThen];rfl
theorem exec_allocI {o:Oper} {a:Act} {w:World} (ho:o.op=.alloc 3):(execOp a.eval o).run Tryz.prog w=.ok (.value (.pointer (some ⟨w.heap.size,0,none⟩))) (w.alloc (.cells #[.int .i64 0] 3)):=by
 obtain ⟨i0,hi,hz0,hz1,hz2⟩:=info_parts intsInfo;unfold execOp;simp [ho,Instr.alloc,typeInfo,zeroValue,hi,hz0,newVar,Value.cells,Result.andThen];rfl
theorem exec_allocPs {o:Oper} {a:Act} {w:World} (ho:o.op=.alloc 22):(execOp a.eval o).run Tryz.prog w=.ok (.value (.pointer (some ⟨w.heap.size,0,none⟩))) (w.alloc (.cells #[.slice none 0 0] 22)):=by
 obtain ⟨i0,hi,hz0,hz1,hz2⟩:=info_parts infoPermsV;unfold execOp;simp [ho,Instr.alloc,typeInfo,zeroValue,hi,hz0,newVar,Value.cells,Result.andThen];rfl
theorem run_storeE {w:World} {b o:Nat} {u:Value} (v:Int) (h:w.cell? ⟨b,o,none⟩=some u) (hf:w.frozen? ⟨b,o,none⟩=false) :
  (storeVar 31 ⟨b,o,none⟩ (.int .i64 v)).run Tryz.prog w=.ok () (w.setCell ⟨b,o,none⟩ (.int .i64 v)):=by
 obtain ⟨i0,hi,hz0,hz1,hz2⟩:=info_parts infoErrno
 have h0:(⟨b,o,none⟩:Addr).add 0=⟨b,o,none⟩:=by simp [Addr.add]
 simp [storeVar,sizeOf,typeInfo,hi,hz1,Value.cells,storeCells,store,h0];simp [Sem.run,h,hf]
theorem run_loadE {w:World} {ad:Addr} {v:Value} (h:w.cell? ad=some v):(loadVar 31 ad).run Tryz.prog w=.ok v w:=by
 simp [loadVar,isAgg,run_underlying Tryz.underlying31,load];simp [Sem.run,h]
theorem results_cellE {fn:Func} {p:Go.Tmp} (h:fn.results=#[.cell p 31]) (tmps:Array Value) {w:World} {b:Nat} {v:Value} (hp:tmps.getD p undef=.pointer (some ⟨b,0,none⟩)) (hc:w.cell? ⟨b,0,none⟩=some v) :
  (results fn tmps).run Tryz.prog w=.ok v w:=by
 have hp':tmps[p]?.getD undef=.pointer (some ⟨b,0,none⟩):=by simpa using hp
 simp [results,h,hp',asAddr,run_loadE hc]
theorem run_loadC3 {w:World} {b:Nat} {x y z:Value} (h0:w.cell? ⟨b,0,none⟩=some x) (h1:w.cell? ⟨b,1,none⟩=some y) (h2:w.cell? ⟨b,2,none⟩=some z):(loadVar 87 ⟨b,0,none⟩).run Tryz.prog w=.ok (.agg #[x,y,z]) w:=by
 obtain ⟨i0,hi,hz0,hz1,hz2⟩:=info_parts infoChain
 have ha0:(⟨b,0,none⟩:Addr).add 0=⟨b,0,none⟩:=by simp [Addr.add]
 have ha1:(⟨b,0,none⟩:Addr).add 1=⟨b,1,none⟩:=by simp [Addr.add]
 have ha2:(⟨b,0,none⟩:Addr).add 2=⟨b,2,none⟩:=by simp [Addr.add]
 have hg:(isAgg 87).run Tryz.prog w=.ok true w:=by kernel_rfl
 simp [loadVar,hg,sizeOf,typeInfo,hi,hz1,loadCells,loadCellsFrom,load,ha0,ha1,ha2];simp [Sem.run,h0,h1,h2]
structure CW (w:World) (b:Nat) (v:Value):Prop where
 c:w.cell? ⟨b,0,none⟩=some v
 f:w.frozen? ⟨b,0,none⟩=false
 lt:b<w.heap.size
theorem CW.below {w w':World} {b:Nat} {v:Value} (h:CW w b v) (hb:Below w.heap.size w w'):CW w' b v:=⟨(hb.cell (p:=⟨b,0,none⟩) h.lt).trans h.c,(hb.frozen (p:=⟨b,0,none⟩) h.lt).trans h.f,Nat.lt_of_lt_of_le h.lt hb.size⟩
theorem CW.new (w:World) (v:Value) (t:TypeId):CW (w.alloc (.cells #[v] t)) w.heap.size v:=⟨by rw [Rg.cellNew]; rfl,frozenNewN _ _ _ 0 _,by simp⟩
theorem CW.set {w:World} {b:Nat} {u:Value} (h:CW w b u) (v:Value):CW (w.setCell ⟨b,0,none⟩ v) b v:=⟨World.cell?_setCell_same (h:=h.c) ..,by rw [World.frozen?_setCell]; exact h.f,by simpa using h.lt⟩
theorem CW.other {w:World} {b b' o:Nat} {u:Value} (h:CW w b u) (v:Value) (hne:b≠b'):CW (w.setCell ⟨b',o,none⟩ v) b u:=⟨by rw [World.cell?_setCell_other (h:=by intro e; injection e with e1 e2; omega) ..]; exact h.c,by rw [World.frozen?_setCell]; exact h.f,by simpa using h.lt⟩
theorem CL.other {w:World} {b b' o o':Nat} {u:Value} (h:CL w b o' u) (v:Value) (hne:b≠b'):CL (w.setCell ⟨b',o,none⟩ v) b o' u:=⟨by rw [World.cell?_setCell_other (h:=by intro e; injection e with e1 e2; omega) ..]; exact h.cell,by simpa using h.lt⟩
theorem CW.kp {M:Nat→Prop} {w w':World} {b:Nat} {v:Value} (h:CW w b v) (hk:Rg.Kp M w w') (hM:¬ M b):CW w' b v :=
 ⟨(World.cell?_of_block (a:=⟨b,0,none⟩) (hk.block b h.lt hM)).trans h.c,(World.frozen?_of_block (a:=⟨b,0,none⟩) (hk.block b h.lt hM)).trans h.f,Nat.lt_of_lt_of_le h.lt hk.size⟩
theorem CL.kp {M:Nat→Prop} {w w':World} {b o:Nat} {v:Value} (h:CL w b o v) (hk:Rg.Kp M w w') (hM:¬ M b):CL w' b o v :=
 ⟨(World.cell?_of_block (a:=⟨b,o,none⟩) (hk.block b h.lt hM)).trans h.cell,Nat.lt_of_lt_of_le h.lt hk.size⟩
structure CkI (w:World) (n:Int) (ov rv:Value) (W:World) (v:Value) (gs:List (List Nat)):Prop where
 bel:Below w.heap.size w W
 a0:CL W w.heap.size 0 (.int .i64 n)
 a1:CL W w.heap.size 1 ov
 a2:CL W w.heap.size 2 rv
 c2:CW W (w.heap.size+1) (.int .i64 0)
 c3:CW W (w.heap.size+2) (.int .i64 n)
 c4:CW W (w.heap.size+3) v
 row:RowF (fun k=>k<w.heap.size) (w.heap.size+4) W v gs
theorem CkI.below {w:World} {n:Int} {ov rv:Value} {W W':World} {v:Value} {gs:List (List Nat)} (h:CkI w n ov rv W v gs) (hb:Below W.heap.size W W'):CkI w n ov rv W' v gs :=
 ⟨Rg.acc h.bel hb,h.a0.below hb,h.a1.below hb,h.a2.below hb,h.c2.below hb,h.c3.below hb,h.c4.below hb,h.row.below hb⟩
theorem CkI.keep {w:World} {n:Int} {ov rv:Value} {W W':World} {v:Value} {gs:List (List Nat)} {row:Option Nat} {B:Nat} (h:CkI w n ov rv W v gs) (hB:w.heap.size+4≤B) (hg:W.grownBy W' row) (hr:∀ r,row=some r→B≤r∧∃ o:Obj,W.heap[r]?=some o∧o.isCells=false):CkI w n ov rv W' v gs:=by
 have hk:Rg.Kp (fun k=>row=some k) W W':=Rg.Kp.of_grown hg fun _ e=>e
 have hM:∀ b,b<B→¬ row=some b:=fun b hb e=>by have:=(hr b e).1; omega
 obtain ⟨us,h1,h2⟩:=h.row.own;refine ⟨h.bel.grown hg h.bel.size (fun k e=>by have:=(hr k e).1; omega),h.a0.kp hk (hM _ (by omega)),h.a1.kp hk (hM _ (by omega)),h.a2.kp hk (hM _ (by omega)),h.c2.kp hk (hM _ (by omega)),h.c3.kp hk (hM _ (by omega)),h.c4.kp hk (hM _ (by omega)),⟨Nat.le_trans h.row.size hk.size,us,rowKp h1 hk (fun k e1 e2=>?_),h2.kp hk (fun k hk2=>hM k (by omega))⟩⟩;obtain ⟨_,o,ho,hc⟩:=hr k e1;obtain ⟨_,h3⟩:=h1
 rcases h3 with ⟨h4,_⟩ | ⟨g,cap,cur,h4,_,h5,_⟩
 ·rw [h4] at e2; simp [Value.ownBlock] at e2
 ·rw [h4] at e2
  simp [Value.ownBlock] at e2;subst e2;rw [h5] at ho
  cases ho; cases hc
def rowOf (RR:List (List (List Int))) {m:Nat} (x:Fin m):List (List Int):=RR.getD x.1 []
theorem CW.upto {B:Nat} {w w':World} {b:Nat} {v:Value} (h:CW w b v) (hb:Below B w w') (hB:b<B):CW w' b v:=⟨(hb.cell (p:=⟨b,0,none⟩) hB).trans h.c,(hb.frozen (p:=⟨b,0,none⟩) hB).trans h.f,Nat.lt_of_lt_of_le h.lt hb.size⟩
theorem CL.upto {B:Nat} {w w':World} {b o:Nat} {v:Value} (h:CL w b o v) (hb:Below B w w') (hB:b<B):CL w' b o v:=⟨(hb.cell (p:=⟨b,o,none⟩) hB).trans h.cell,Nat.lt_of_lt_of_le h.lt hb.size⟩
theorem ChEqR.mk {w:World} {ov rv:Value} {OO:List (List Int)} {RR:List (List (List Int))} (h1:Rg.Rows w ov OO) (h2:Rows2 w rv RR):ChEqR w ov rv OO RR:=⟨h1,h2⟩
theorem ChEqR.upto {w w':World} {ov rv:Value} {OO:List (List Int)} {RR:List (List (List Int))} (h:ChEqR w ov rv OO RR) (hb:Below w.heap.size w w'):ChEqR w' ov rv OO RR:=h.below hb
theorem _root_.Go.Proofs.RF.Dfr.below {D:Nat} {W W':World} (h:RF.Dfr D W) (hb:Below W.heap.size W W'):RF.Dfr D W':=h.of_below' hb
theorem KK.below {B n₀:Nat} {W W' W'':World} (h:KK B n₀ W W') (hb:Below W'.heap.size W' W''):KK B n₀ W W'':=h.acc hb
theorem chSame_b {n m:Int} {ov rv ov' rv':Value} {OO OO':List (List Int)} {RR RR':List (List (List Int))} {w:World} (h1:ChEqR w ov rv OO RR) (h2:ChEqR w ov' rv' OO' RR') {b:Bool} (hb:Hid (decide (n=m∧OO=OO'∧RR=RR')=b)) :
  Calls Tryz.prog 127 #[.agg #[.int .i64 n,ov,rv],.agg #[.int .i64 m,ov',rv']] w fun e w'=>e=.returned (.bool b)∧Below w.heap.size w w':=by
 rw [← hb.out]; exact chSame_any h1 h2
theorem CkI.store {w:World} {n:Int} {ov rv:Value} {W X:World} {v v':Value} {gs gs':List (List Nat)} (h:CkI w n ov rv W v gs) (hb:Below (w.heap.size+4) W X) (hr:RowF (fun k=>k<w.heap.size) (w.heap.size+4) X v' gs'):CkI w n ov rv (X.setCell ⟨w.heap.size+3,0,none⟩ v') v' gs':=by
 have hk:Rg.Kp (fun z=>z=w.heap.size+3) X (X.setCell ⟨w.heap.size+3,0,none⟩ v'):=Rg.Kp.of_setCell rfl;obtain ⟨us,q1,q2⟩:=hr.own;refine ⟨(h.bel.trans (hb.mono (by omega))).setCell (p:=⟨w.heap.size+3,0,none⟩) (by show w.heap.size≤w.heap.size+3; omega) _,(h.a0.upto hb (by omega)).other _ (by omega),(h.a1.upto hb (by omega)).other _ (by omega),(h.a2.upto hb (by omega)).other _ (by omega),(h.c2.upto hb (by omega)).other _ (by omega),(h.c3.upto hb (by omega)).other _ (by omega),(h.c4.upto hb (by omega)).set _,⟨Nat.le_trans hr.size hk.size,us,rowKp q1 hk (fun k e1 e2=>by have:=(q1.lt k e2).1; omega),q2.kp hk (fun k hk2 e=>by omega)⟩⟩
theorem KK.row {B n₀:Nat} {W W1 X:World} {F:Nat→Prop} {B2:Nat} {v:Value} {gs:List (List Nat)} (h:KK B n₀ W W1) (hk:Rg.Kp (fun k=>v.ownBlock=some k) W1 X) (hr:RowF F B2 W1 v gs) (hn:n₀≤B2):KK B n₀ W X:=by
 obtain ⟨us,q1,q2⟩:=hr.own
 have hcells:∀ j o,v.ownBlock=some j→W1.heap[j]?=some o→o.isCells=true:=fun j o e1 e2=>by
  obtain ⟨_,h3⟩:=q1
  rcases h3 with ⟨h4,_⟩ | ⟨g,cap,cur,h4,_,h5,_⟩
  ·rw [h4] at e1; simp [Value.ownBlock] at e1
  ·rw [h4] at e1
   simp [Value.ownBlock] at e1;subst e1;rw [h5] at e2
   cases e2; rfl
 refine ⟨h.keeps.trans ⟨hk.size,fun k o _ hk2 ho=>(hk.block k (Array.getElem?_eq_some_iff.1 hk2).1 (fun e=>by rw [hcells k o e hk2] at ho; cases ho)).trans hk2⟩,h.bel.trans ⟨hk.os,hk.tape,hk.output,hk.size,fun k hk2=>hk.block k (by have:=h.bel.size; have:=h.le; omega) (fun e=>by have:=(q1.lt k e).1; omega)⟩,h.le⟩
theorem finTo_flat {RR:List (List (List Int))}:(finTo RR.length RR.length).flatMap (rowOf RR)=RR.flatten:=by
 rw [finTo_all];rw [List.flatMap_def]
 congr 1
 refine List.ext_getElem (by simp) fun i h1 h2=>?_;simp only [List.getElem_map,List.getElem_finRange];exact getD_inf h2
def CkPost (n:Int) (OO:List (List Int)) (RR:List (List (List Int))) (w:World) (e:Ending) (w':World):Prop:=∃ c,e=.returned (.int .i64 c)∧ChC n OO RR c∧Below w.heap.size w w'
theorem ck_leave {n:Int} {OO:List (List Int)} {RR:List (List (List Int))} {w W:World} {tmps:Array Value} {c:Int} {ds:List Nat} (hb:Below w.heap.size w W) (hc:CW W (w.heap.size+1) (.int .i64 c)) (hC:ChC n OO RR c) (hp:tmps.getD 2 undef=.pointer (some ⟨w.heap.size+1,0,none⟩)) (hnd:ds.Nodup) (hD:∀ D,D∈ds→RF.Dfr D W∧w.heap.size≤D) :
  LeavesInM Fence.wide 0 Tryz.prog Tryz.f99 tmps (CkPost n OO RR w) (ds.map RF.mark) .returning W :=
 RF.leaves w.heap.size ds W hnd hD fun _ l1 l2 _=>⟨_,results_cellE rfl _ hp ((l2 _).trans hc.c),c,rfl,hC,hb.trans l1⟩
theorem chCheck_any {n:Int} {ov rv:Value} {OO:List (List Int)} {RR:List (List (List Int))} {w:World} (h:ChEqR w ov rv OO RR) :
  Calls Tryz.prog 99 #[.agg #[.int .i64 n,ov,rv]] w (CkPost n OO RR w):=by
 obtain ⟨oa,oc,rfl,_,hoL,_,_⟩:=h.1.shape;obtain ⟨ra,rc,rfl⟩:=h.2.shape;have HO:=ι h.1;have HR:=ι h.2;have K:=ι (Below.refl w.heap.size w)
 have hrL:RR.length≤1000000000:=by
  obtain ⟨us,⟨a,c,e,_,_,e2,_⟩,h2,_⟩:=h.2;unfold Rg.big at e2;omega
 have H:=ι h;clear h;refine RF.calls_marks Tryz.func99 rfl ?_;simp only [Tryz.ntmps99,List.size_toArray,List.length_cons,List.length_nil,Nat.reduceAdd,Nat.reduceSub,Array.replicate_succ,Array.replicate_zero,List.push_toArray,List.append_toArray,List.nil_append,List.cons_append];have hbx:=box3 w (.int .i64 n) (.slice oa OO.length oc) (.slice ra RR.length rc)
 have hs:(w.alloc (.cells #[.int .i64 n,.slice oa OO.length oc,.slice ra RR.length rc] 87)).heap.size=w.heap.size+1:=by simp
 go_upto_region 0 with (fail);refine Rg.wl ?_;refine Rg.lr 1 (Rg.exec_box _ _ rfl rfl) ?_;go_frame;have hb:Below w.heap.size w (w.alloc (.cells #[.int .i64 n,.slice oa OO.length oc,.slice ra RR.length rc] 87)):=(Below.refl _ _).alloc (Nat.le_refl _) _;generalize w.alloc (.cells #[.int .i64 n,.slice oa OO.length oc,.slice ra RR.length rc] 87)=w1 at *;have A0:=ι hbx.1;have A1:=ι hbx.2.1;have A2:=ι hbx.2.2;replace K:=ι hb;have hs1:w1.heap.size=w.heap.size+1:=hs;clear hbx hb hs;have hnw:=CW.new w1 (.int .i64 0) 31
 have hs:(w1.alloc (.cells #[.int .i64 0] 31)).heap.size=w1.heap.size+1:=by simp
 refine Rg.lr 2 (exec_allocE rfl) ?_;go_frame;have hb:=(Below.refl w1.heap.size w1).alloc (Nat.le_refl _) (.cells #[.int .i64 0] 31);generalize w1.alloc (.cells #[.int .i64 0] 31)=w2 at *;replace A0:=ι (A0.out.below hb);replace A1:=ι (A1.out.below hb);replace A2:=ι (A2.out.below hb);replace K:=ι (Rg.acc K.out hb);clear hb;rw [hs1] at hnw ⊢
 have hs2:w2.heap.size=w.heap.size+2:=by omega
 have C2:=ι hnw;clear hnw hs;go_upto_region 1 with (fail);refine Rg.wl ?_;refine Rg.lr 9 (exec_field _ rfl rfl (chF0 _ _)) ?_;go_frame;refine Rg.lr 10 (Rg.exec_load (v:=.int .i64 n) _ _ rfl ⟨w.heap.size,0,none⟩ rfl (run_loadInt A0.out.cell)) ?_;go_frame;have hnw:=CW.new w2 (.int .i64 0) 3
 have hs:(w2.alloc (.cells #[.int .i64 0] 3)).heap.size=w2.heap.size+1:=by simp
 refine Rg.lr 3 (exec_allocI rfl) ?_;go_frame;have hb:=(Below.refl w2.heap.size w2).alloc (Nat.le_refl _) (.cells #[.int .i64 0] 3);generalize w2.alloc (.cells #[.int .i64 0] 3)=w3 at *;replace A0:=ι (A0.out.below hb);replace A1:=ι (A1.out.below hb);replace A2:=ι (A2.out.below hb);replace C2:=ι (C2.out.below hb);replace K:=ι (Rg.acc K.out hb);clear hb;rw [hs2] at hnw ⊢
 have hs3:w3.heap.size=w.heap.size+3:=by omega
 have C3:=ι hnw;clear hnw hs;refine Rg.list_skip none rfl rfl (Rg.exec_store _ _ _ rfl _ rfl _ rfl (run_storeInt n C3.out.c C3.out.f)) ?_;go_frame;have hk:=K.out.setCell (p:=⟨w.heap.size+2,0,none⟩) (by show w.heap.size≤w.heap.size+2; omega) (.int .i64 n);have x0:=A0.out.other (o:=0) (b':=w.heap.size+2) (.int .i64 n) (by omega);have x1:=A1.out.other (o:=0) (b':=w.heap.size+2) (.int .i64 n) (by omega);have x2:=A2.out.other (o:=0) (b':=w.heap.size+2) (.int .i64 n) (by omega);have y2:=C2.out.other (o:=0) (b':=w.heap.size+2) (.int .i64 n) (by omega);have y3:=C3.out.set (.int .i64 n)
 have hs4:(w3.setCell ⟨w.heap.size+2,0,none⟩ (.int .i64 n)).heap.size=w.heap.size+3:=by simp; omega
 generalize w3.setCell ⟨w.heap.size+2,0,none⟩ (.int .i64 n)=w9 at *;replace K:=ι hk;replace A0:=ι x0;replace A1:=ι x1;replace A2:=ι x2;replace C2:=ι y2;replace C3:=ι y3;clear hk x0 x1 x2 y2 y3
 by_cases hd1:n<1
 ·skip
  go_upto_region 2 with (fail);refine Rg.wl ?_;refine Rg.lr 11 (Rg.exec_load (v:=.int .i64 n) _ _ rfl ⟨(w.heap.size+2),0,none⟩ rfl (run_loadInt C3.out.c)) ?_;go_frame;refine Rg.lr 12 (exec_bin (R:=.bool true) .lss _ _ _ rfl rfl rfl (b_lss _ Rg.dT)) ?_;go_frame;refine Rg.lm 13 (.bool true) ?_;go_frame;refine listW_pass (some 14) (by kernel_rfl) rfl ?_;go_frame;refine listW_pass (some 15) (by kernel_rfl) rfl ?_;go_frame;refine Rg.lr 16 (exec_pickT (v:=.bool true) _ _ _ rfl rfl rfl) ?_;go_frame;go_upto_region 3 with (fail);refine Rg.wl ?_;refine Rg.list_skip none rfl rfl (Rg.exec_store _ _ _ rfl _ rfl _ rfl (run_storeE 2 C2.out.c C2.out.f)) ?_;go_frame;have hk:=K.out.setCell (p:=⟨w.heap.size+1,0,none⟩) (by show w.heap.size≤w.heap.size+1; omega) (.int .i64 2);have y2:=C2.out.set (.int .i64 2);generalize w9.setCell ⟨w.heap.size+1,0,none⟩ (.int .i64 2)=w99 at *;have KX:=ι hk
  have CX:=ι y2;have HCX:=ι (show ChC n OO RR 2 from .inl ⟨by omega,rfl⟩);clear hk y2;go_wp2;exact ck_leave (ds:=[]) KX.out CX.out HCX.out rfl (by simp) (fun D hD=>by simp at hD)
 by_cases hd2:64<n
 ·skip
  go_upto_region 2 with (fail);refine Rg.wl ?_;refine Rg.lr 11 (Rg.exec_load (v:=.int .i64 n) _ _ rfl ⟨(w.heap.size+2),0,none⟩ rfl (run_loadInt C3.out.c)) ?_;go_frame;refine Rg.lr 12 (exec_bin (R:=.bool false) .lss _ _ _ rfl rfl rfl (b_lss _ Rg.dF)) ?_;go_frame;refine Rg.lm 13 (.bool false) ?_;go_frame;refine Rg.lW 14 (Rg.exec_load (v:=.int .i64 n) _ _ rfl ⟨(w.heap.size+2),0,none⟩ rfl (run_loadInt C3.out.c)) ?_;go_frame;refine Rg.lW 15 (exec_bin (R:=.bool true) .gtr _ _ _ rfl rfl rfl (b_gtr _ Rg.dT)) ?_;go_frame;refine Rg.lr 16 (exec_pickF (v:=.bool true) _ _ _ rfl rfl rfl) ?_;go_frame;go_upto_region 3 with (fail);refine Rg.wl ?_;refine Rg.list_skip none rfl rfl (Rg.exec_store _ _ _ rfl _ rfl _ rfl (run_storeE 2 C2.out.c C2.out.f)) ?_;go_frame;have hk:=K.out.setCell (p:=⟨w.heap.size+1,0,none⟩) (by show w.heap.size≤w.heap.size+1; omega) (.int .i64 2);have y2:=C2.out.set (.int .i64 2)
  generalize w9.setCell ⟨w.heap.size+1,0,none⟩ (.int .i64 2)=w99 at *;have KX:=ι hk;have CX:=ι y2;have HCX:=ι (show ChC n OO RR 2 from .inl ⟨by omega,rfl⟩);clear hk y2;go_wp2;exact ck_leave (ds:=[]) KX.out CX.out HCX.out rfl (by simp) (fun D hD=>by simp at hD)
 go_upto_region 2 with (fail);refine Rg.wl ?_;refine Rg.lr 11 (Rg.exec_load (v:=.int .i64 n) _ _ rfl ⟨(w.heap.size+2),0,none⟩ rfl (run_loadInt C3.out.c)) ?_;go_frame;refine Rg.lr 12 (exec_bin (R:=.bool false) .lss _ _ _ rfl rfl rfl (b_lss _ Rg.dF)) ?_;go_frame;refine Rg.lm 13 (.bool false) ?_;go_frame;refine Rg.lW 14 (Rg.exec_load (v:=.int .i64 n) _ _ rfl ⟨(w.heap.size+2),0,none⟩ rfl (run_loadInt C3.out.c)) ?_;go_frame;refine Rg.lW 15 (exec_bin (R:=.bool false) .gtr _ _ _ rfl rfl rfl (b_gtr _ Rg.dF)) ?_;go_frame;refine Rg.lr 16 (exec_pickF (v:=.bool false) _ _ _ rfl rfl rfl) ?_;go_frame
 by_cases hl1:(OO.length:Int)=n
 case neg =>
  skip
  go_upto_region 4 with (fail);refine Rg.wl ?_;refine Rg.lr 17 (exec_field _ rfl rfl (chF1 _ _)) ?_;go_frame;refine Rg.lr 18 (Rg.exec_load (v:=.slice oa OO.length oc) _ _ rfl ⟨w.heap.size,1,none⟩ rfl (Rg.run_loadSl _ _ Tryz.underlying84 A1.out.cell)) ?_;go_frame;refine Rg.lr 19 (exec_len _ _ _ rfl Tryz.underlying84 _ _ _ rfl) ?_;go_frame;refine Rg.lr 20 (Rg.exec_load (v:=.int .i64 n) _ _ rfl ⟨(w.heap.size+2),0,none⟩ rfl (run_loadInt C3.out.c)) ?_;go_frame;refine Rg.lr 21 (exec_bin (R:=.bool true) .neq _ _ _ rfl rfl rfl (b_neqB _ Rg.dT)) ?_;go_frame;refine Rg.lm 22 (.bool true) ?_;go_frame;refine listW_pass (some 23) (by kernel_rfl) rfl ?_;go_frame;refine listW_pass (some 24) (by kernel_rfl) rfl ?_;go_frame;refine listW_pass (some 25) (by kernel_rfl) rfl ?_;go_frame;refine listW_pass (some 26) (by kernel_rfl) rfl ?_;go_frame;refine listW_pass (some 27) (by kernel_rfl) rfl ?_;go_frame
  refine Rg.lr 28 (exec_pickT (v:=.bool true) _ _ _ rfl rfl rfl) ?_;go_frame;go_upto_region 5 with (fail);refine Rg.wl ?_;refine Rg.list_skip none rfl rfl (Rg.exec_store _ _ _ rfl _ rfl _ rfl (run_storeE 3 C2.out.c C2.out.f)) ?_;go_frame;have hk:=K.out.setCell (p:=⟨w.heap.size+1,0,none⟩) (by show w.heap.size≤w.heap.size+1; omega) (.int .i64 3);have y2:=C2.out.set (.int .i64 3);generalize w9.setCell ⟨w.heap.size+1,0,none⟩ (.int .i64 3)=w99 at *;have KX:=ι hk;have CX:=ι y2;have HCX:=ι (show ChC n OO RR 3 from .inr ⟨by omega,.inr ⟨fun hh=>hl1 hh.lens.1,rfl⟩⟩);clear hk y2;go_wp2;exact ck_leave (ds:=[]) KX.out CX.out HCX.out rfl (by simp) (fun D hD=>by simp at hD)
 by_cases hl2:(RR.length:Int)=n
 case neg =>
  skip
  go_upto_region 4 with (fail);refine Rg.wl ?_;refine Rg.lr 17 (exec_field _ rfl rfl (chF1 _ _)) ?_;go_frame;refine Rg.lr 18 (Rg.exec_load (v:=.slice oa OO.length oc) _ _ rfl ⟨w.heap.size,1,none⟩ rfl (Rg.run_loadSl _ _ Tryz.underlying84 A1.out.cell)) ?_;go_frame;refine Rg.lr 19 (exec_len _ _ _ rfl Tryz.underlying84 _ _ _ rfl) ?_;go_frame;refine Rg.lr 20 (Rg.exec_load (v:=.int .i64 n) _ _ rfl ⟨(w.heap.size+2),0,none⟩ rfl (run_loadInt C3.out.c)) ?_;go_frame;refine Rg.lr 21 (exec_bin (R:=.bool false) .neq _ _ _ rfl rfl rfl (b_neqB _ Rg.dF)) ?_;go_frame;refine Rg.lm 22 (.bool false) ?_;go_frame;refine Rg.lW 23 (exec_field _ rfl rfl (chF2 _ _)) ?_;go_frame;refine Rg.lW 24 (Rg.exec_load (v:=.slice ra RR.length rc) _ _ rfl ⟨w.heap.size,2,none⟩ rfl (Rg.run_loadSl _ _ Tryz.underlying85 A2.out.cell)) ?_;go_frame;refine Rg.lW 25 (exec_len _ _ _ rfl Tryz.underlying85 _ _ _ rfl) ?_;go_frame
  refine Rg.lW 26 (Rg.exec_load (v:=.int .i64 n) _ _ rfl ⟨(w.heap.size+2),0,none⟩ rfl (run_loadInt C3.out.c)) ?_;go_frame;refine Rg.lW 27 (exec_bin (R:=.bool true) .neq _ _ _ rfl rfl rfl (b_neqB _ Rg.dT)) ?_;go_frame;refine Rg.lr 28 (exec_pickF (v:=.bool true) _ _ _ rfl rfl rfl) ?_;go_frame;go_upto_region 5 with (fail);refine Rg.wl ?_;refine Rg.list_skip none rfl rfl (Rg.exec_store _ _ _ rfl _ rfl _ rfl (run_storeE 3 C2.out.c C2.out.f)) ?_;go_frame;have hk:=K.out.setCell (p:=⟨w.heap.size+1,0,none⟩) (by show w.heap.size≤w.heap.size+1; omega) (.int .i64 3);have y2:=C2.out.set (.int .i64 3);generalize w9.setCell ⟨w.heap.size+1,0,none⟩ (.int .i64 3)=w99 at *;have KX:=ι hk;have CX:=ι y2;have HCX:=ι (show ChC n OO RR 3 from .inr ⟨by omega,.inr ⟨fun hh=>hl2 hh.lens.2,rfl⟩⟩);clear hk y2;go_wp2;exact ck_leave (ds:=[]) KX.out CX.out HCX.out rfl (by simp) (fun D hD=>by simp at hD)
 go_upto_region 4 with (fail);refine Rg.wl ?_;refine Rg.lr 17 (exec_field _ rfl rfl (chF1 _ _)) ?_;go_frame;refine Rg.lr 18 (Rg.exec_load (v:=.slice oa OO.length oc) _ _ rfl ⟨w.heap.size,1,none⟩ rfl (Rg.run_loadSl _ _ Tryz.underlying84 A1.out.cell)) ?_;go_frame;refine Rg.lr 19 (exec_len _ _ _ rfl Tryz.underlying84 _ _ _ rfl) ?_;go_frame;refine Rg.lr 20 (Rg.exec_load (v:=.int .i64 n) _ _ rfl ⟨(w.heap.size+2),0,none⟩ rfl (run_loadInt C3.out.c)) ?_;go_frame;refine Rg.lr 21 (exec_bin (R:=.bool false) .neq _ _ _ rfl rfl rfl (b_neqB _ Rg.dF)) ?_;go_frame;refine Rg.lm 22 (.bool false) ?_;go_frame;refine Rg.lW 23 (exec_field _ rfl rfl (chF2 _ _)) ?_;go_frame;refine Rg.lW 24 (Rg.exec_load (v:=.slice ra RR.length rc) _ _ rfl ⟨w.heap.size,2,none⟩ rfl (Rg.run_loadSl _ _ Tryz.underlying85 A2.out.cell)) ?_;go_frame;refine Rg.lW 25 (exec_len _ _ _ rfl Tryz.underlying85 _ _ _ rfl) ?_;go_frame
 refine Rg.lW 26 (Rg.exec_load (v:=.int .i64 n) _ _ rfl ⟨(w.heap.size+2),0,none⟩ rfl (run_loadInt C3.out.c)) ?_;go_frame;refine Rg.lW 27 (exec_bin (R:=.bool false) .neq _ _ _ rfl rfl rfl (b_neqB _ Rg.dF)) ?_;go_frame;refine Rg.lr 28 (exec_pickF (v:=.bool false) _ _ _ rfl rfl rfl) ?_;go_frame;obtain ⟨N,rfl⟩:∃ N:Nat,n=N:=⟨n.toNat,by omega⟩
 have hN1:1≤N:=by omega
 have hN2:N≤64:=by omega
 have HLO:=ι (show OO.length=N by omega);have HLR:=ι (show RR.length=N by omega);clear hl1 hl2 hd1 hd2;go_upto_region 6 with (fail);refine Rg.wl ?_;have hnw:=CW.new w9 (.slice none 0 0) 22
 have hs:(w9.alloc (.cells #[.slice none 0 0] 22)).heap.size=w9.heap.size+1:=by simp
 refine Rg.lr 4 (exec_allocPs rfl) ?_;go_frame;have hb:=(Below.refl w9.heap.size w9).alloc (Nat.le_refl _) (.cells #[.slice none 0 0] 22);generalize w9.alloc (.cells #[.slice none 0 0] 22)=w10 at *;replace A0:=ι (A0.out.below hb);replace A1:=ι (A1.out.below hb);replace A2:=ι (A2.out.below hb);replace C2:=ι (C2.out.below hb);replace C3:=ι (C3.out.below hb);replace K:=ι (Rg.acc K.out hb);clear hb;rw [hs4] at hnw ⊢
 have hs5:w10.heap.size=w.heap.size+4:=by omega
 have C4:=ι hnw;clear hnw hs;have CI:=ι (show CkI w ((N:Nat):Int) (.slice oa OO.length oc) (.slice ra RR.length rc) w10 (.slice none 0 0) [] from ⟨K.out,A0.out,A1.out,A2.out,C2.out,C3.out,C4.out,RowF.nil _ (by omega)⟩);have HSZ:=ι hs5;clear A0 A1 A2 C2 C3 C4 hs1 hs2 hs3 hs4 hs5;go_upto_region 7 with (fail);refine Rg.wl ?_;refine Rg.lr 29 (Rg.exec_load (v:=(.agg #[.int .i64 ((N:Nat):Int),.slice oa OO.length oc,.slice ra RR.length rc])) _ _ rfl ⟨w.heap.size,0,none⟩ rfl (run_loadC3 CI.out.a0.cell CI.out.a1.cell CI.out.a2.cell)) ?_;go_frame;refine Rg.lk 30 (exec_fn1 126 _ _ rfl rfl (Wvcl0 _ _)) ?_;refine (reps_any _ _ _ w10).mono ?_;rintro e1 w11 ⟨fb,rfl,hfb,hb⟩;have hsz:=hb.size;refine ⟨_,rfl,?_⟩;go_frame;replace CI:=ι (CI.out.below hb);replace K:=ι (Rg.acc K.out hb);clear hb;have FB:=ι hfb;clear hfb;have HS0:=ι (show w.heap.size+4≤w11.heap.size by have:=HSZ.out; omega)
 clear hsz;obtain ⟨us,hus,hul,hur⟩:=HR.out;have HUR:=ι hur
 have hrv:RV3 w.heap.size w11 ra RR.length (fun k=>us[k]?.getD undef):=by
  obtain ⟨a',c',e,q1,q2,q3,q4⟩:=hus
  injection e with e1 e2 e3
  refine ⟨by omega,fun h0=>?_,fun b off e5 j hj=>?_,K.out.size⟩
  ·obtain ⟨b,o,e4,e5,_⟩:=q4 (by omega)
   exact ⟨b,o,e1.trans e4,e5⟩
  ·obtain ⟨b',o',e4,e6,e7⟩:=q4 (by omega)
   rw [e1,e4] at e5;simp only [Option.some.injEq,Addr.mk.injEq,and_true] at e5;obtain ⟨rfl,rfl⟩:=e5;rw [(K.out.cell (p:=⟨b',o'+j,none⟩) e6)];show _=some (us[j]?.getD undef);rw [List.getElem?_eq_getElem (by omega)];exact e7 j (by omega)
 have HRV:=ι hrv;have HUL:=ι hul;clear hus hrv hul hur;go_wp2
 refine range_reps rfl FB.out HRV.out rfl (fun pre W=>∃ v gs,CkI w ((N:Nat):Int) (.slice oa OO.length oc) (.slice ra RR.length rc) W v gs∧gs.map Ma.ofN=pre.flatMap (rowOf RR)∧(∀ g∈gs,Cm.Gd N g)∧gs.length≤64*pre.length)
  (fun c pre W=>c=.ret∧Below w.heap.size w W∧CW W (w.heap.size+1) (.int .i64 3)∧¬ ChOK ((N:Nat):Int) OO RR) ?hI ?hIx ⟨_,[],CI.out,rfl,fun g hg=>by simp at hg,Nat.zero_le _⟩ ?a1 ?assign ?body ?done ?stop
 case assign =>
  intro l x W K hK
  gi_wp2
  exact hK
 case hI =>
  rintro pre W W' row ⟨v,gs,h1,h2⟩ hg hr;exact ⟨v,gs,h1.keep (by have:=HS0.out; omega) hg hr,h2⟩
 case hIx =>
  rintro c pre W W' row ⟨rfl,h1,h2,h3⟩ hg hr;exact ⟨rfl,h1.grown hg h1.size (fun k e=>by have:=(hr k e).1; have:=HS0.out; omega),h2.kp (Rg.Kp.of_grown hg (M:=fun k=>row=some k) fun _ e=>e) (fun e=>by have:=(hr _ e).1; have:=HS0.out; omega),h3⟩
 case body =>
  rintro l pre ⟨X,hX⟩ W ⟨v,gs,hci,hfl,hgg,hgl⟩ hpl;obtain ⟨B,hB⟩:∃ B,w11.heap.size=B:=⟨_,rfl⟩;rw [hB] at HS0 ⊢;clear FB HRV CI K hB;have CI:=ι hci;have K:=ι hci.bel;have KQ:=ι (KK.refl (B:=B) (n₀:=w.heap.size) (W:=W) hci.bel.size);have HFL:=ι hfl;have HGG:=ι hgg
  have HPRE:=ι (show gs.length≤64*64 by
   have:pre.length<64:=by have:=HLR.out; omega
   omega)
  have HXR:=ι hX;have HGLL:=ι hgl;have HXO:=ι (show X<OO.length by have:=HLO.out; have:=HLR.out; omega);clear hci hfl hgg hgl;have hu:=HUR.out X (by rw [HUL.out]; exact hX) hX
  have e1:us[X]?.getD undef=us[X]'(by rw [HUL.out]; exact hX):=by rw [List.getElem?_eq_getElem (by rw [HUL.out]; exact hX)]; rfl
  rw [← e1] at hu
  dsimp only
  generalize us[X]?.getD undef=u at *;clear e1;obtain ⟨r,hr⟩:∃ r:List (List Int),Hid (RR[X]'hX=r):=⟨_,ι rfl⟩
  replace hu:Rg.Rows w u r:=by rw [← hr.out]; exact hu
  obtain ⟨ua,uc,rfl,_,hrl,_,hrc⟩:=hu.shape;have HRC:=ι hrc;obtain ⟨o',hoo⟩:∃ o:List Int,Hid (OO[X]'HXO.out=o):=⟨_,ι rfl⟩;have hos:=HO.out.shape;obtain ⟨oa',oc',e2,_,_,_,hos⟩:=hos
  injection e2 with e3 _ e5
  subst e3 e5;obtain ⟨ob,oo,rfl,hob,hos⟩:=hos (by have:=HXO.out; omega);obtain ⟨yv,hyc,hyi⟩:=hos X HXO.out;rw [show OO[X]=o' from hoo.out] at hyi;obtain ⟨ya,yc,rfl,_⟩:=hyi.shape;have CO:=ι (CL.mk hyc hob);clear hrc hos hyc hyi hob hu
  by_cases hq1:(r.length:Int)=(o'.length:Int)
  case neg =>
   skip
   gi_upto_region 10 with (fail)
   refine wpIn_region_list ?_;refine Rg.in_run (some 33) rfl rfl (fun _ hh=>by cases hh) (Rg.xm (.slice ua r.length uc) _ rfl rfl) ?_;go_frame;refine Rg.in_run (some 34) rfl rfl (fun _ hh=>by cases hh) (exec_len _ _ _ rfl Tryz.underlying22 _ _ _ rfl) ?_;go_frame;refine Rg.in_run (some 35) rfl rfl (fun _ hh=>by cases hh) (exec_field _ rfl rfl (chF1 _ _)) ?_;go_frame;refine Rg.in_run (some 36) rfl rfl (fun _ hh=>by cases hh) (Rg.exec_load (v:=.slice (some ⟨ob,oo,none⟩) OO.length oc) _ _ rfl ⟨w.heap.size,1,none⟩ rfl (Rg.run_loadSl _ _ Tryz.underlying84 CI.out.a1.cell)) ?_;go_frame;refine Rg.in_run (some 37) rfl rfl (fun _ hh=>by cases hh) (Rg.xm (.int .i64 ((X:Nat):Int)) _ rfl rfl) ?_;go_frame;refine Rg.in_run (some 38) rfl rfl (fun _ hh=>by cases hh) (exec_indexS slIntss _ _ rfl ob (oo) (OO.length) oc (X) rfl rfl HXO.out) ?_;go_frame;refine Rg.in_run (some 39) rfl rfl (fun _ hh=>by cases hh) (Rg.exec_load (v:=.slice ya o'.length yc) _ _ rfl ⟨ob,oo+X,none⟩ rfl (Rg.run_loadSl _ _ Tryz.underlying25 ((Below.cell (p:=⟨ob,oo+X,none⟩) K.out CO.out.lt).trans CO.out.cell))) ?_;go_frame
   refine Rg.in_run (some 40) rfl rfl (fun _ hh=>by cases hh) (exec_len _ _ _ rfl Tryz.underlying25 _ _ _ rfl) ?_;go_frame;refine Rg.in_run (some 41) rfl rfl (fun _ hh=>by cases hh) (exec_bin (R:=.bool true) .neq _ _ _ rfl rfl rfl (b_neqB _ Rg.dT)) ?_;go_frame;refine Rg.in_run (some 42) rfl rfl (fun _ hh=>by cases hh) (Rg.xm (.bool true) _ rfl rfl) ?_;go_frame;refine Rg.inW_pass (some 43) (by kernel_rfl) rfl ?_;go_frame;refine Rg.inW_pass (some 44) (by kernel_rfl) rfl ?_;go_frame;refine Rg.inW_pass (some 45) (by kernel_rfl) rfl ?_;go_frame;refine Rg.inW_pass (some 46) (by kernel_rfl) rfl ?_;go_frame;refine Rg.inW_pass (some 47) (by kernel_rfl) rfl ?_;go_frame;refine Rg.inW_pass (some 48) (by kernel_rfl) rfl ?_;go_frame;refine Rg.in_run (some 49) rfl rfl (fun _ hh=>by cases hh) (exec_pickT (v:=.bool true) _ _ _ rfl rfl rfl) ?_;go_frame
   gi_upto_region 11 with (fail)
   refine wpIn_region_list ?_;refine Rg.in_skip none rfl rfl (fun _ hh=>by cases hh) (Rg.exec_store _ _ _ rfl _ rfl _ rfl (run_storeE 3 CI.out.c2.c CI.out.c2.f)) ?_;go_frame;have hk:=K.out.setCell (p:=⟨w.heap.size+1,0,none⟩) (by show w.heap.size≤w.heap.size+1; omega) (.int .i64 3);have y2:=CI.out.c2.set (.int .i64 3);have hq:=KQ.out.set (b:=w.heap.size+1) (o:=0) (.int .i64 3) (by omega);generalize W.setCell ⟨w.heap.size+1,0,none⟩ (.int .i64 3)=w99 at *;have KX:=ι hk;have CX:=ι y2;have QX:=ι hq;have HNX:=ι (show ¬ ChOK ((N:Nat):Int) OO RR from fun hh=>by have:=(hh.row HXR.out HXO.out).1; rw [show RR[X]=r from hr.out,show OO[X]=o' from hoo.out] at this; omega);clear hk y2 hq
   gi_wp2
   exact ⟨QX.out.keeps,rfl,KX.out,CX.out,HNX.out⟩
  by_cases hq2:(N:Int) - (X:Int)<(r.length:Int)
  case pos =>
   skip
   gi_upto_region 10 with (fail)
   refine wpIn_region_list ?_;refine Rg.in_run (some 33) rfl rfl (fun _ hh=>by cases hh) (Rg.xm (.slice ua r.length uc) _ rfl rfl) ?_;go_frame;refine Rg.in_run (some 34) rfl rfl (fun _ hh=>by cases hh) (exec_len _ _ _ rfl Tryz.underlying22 _ _ _ rfl) ?_;go_frame;refine Rg.in_run (some 35) rfl rfl (fun _ hh=>by cases hh) (exec_field _ rfl rfl (chF1 _ _)) ?_;go_frame;refine Rg.in_run (some 36) rfl rfl (fun _ hh=>by cases hh) (Rg.exec_load (v:=.slice (some ⟨ob,oo,none⟩) OO.length oc) _ _ rfl ⟨w.heap.size,1,none⟩ rfl (Rg.run_loadSl _ _ Tryz.underlying84 CI.out.a1.cell)) ?_;go_frame;refine Rg.in_run (some 37) rfl rfl (fun _ hh=>by cases hh) (Rg.xm (.int .i64 ((X:Nat):Int)) _ rfl rfl) ?_;go_frame;refine Rg.in_run (some 38) rfl rfl (fun _ hh=>by cases hh) (exec_indexS slIntss _ _ rfl ob (oo) (OO.length) oc (X) rfl rfl HXO.out) ?_;go_frame;refine Rg.in_run (some 39) rfl rfl (fun _ hh=>by cases hh) (Rg.exec_load (v:=.slice ya o'.length yc) _ _ rfl ⟨ob,oo+X,none⟩ rfl (Rg.run_loadSl _ _ Tryz.underlying25 ((Below.cell (p:=⟨ob,oo+X,none⟩) K.out CO.out.lt).trans CO.out.cell))) ?_;go_frame
   refine Rg.in_run (some 40) rfl rfl (fun _ hh=>by cases hh) (exec_len _ _ _ rfl Tryz.underlying25 _ _ _ rfl) ?_;go_frame;refine Rg.in_run (some 41) rfl rfl (fun _ hh=>by cases hh) (exec_bin (R:=.bool false) .neq _ _ _ rfl rfl rfl (b_neqB _ Rg.dF)) ?_;go_frame;refine Rg.in_run (some 42) rfl rfl (fun _ hh=>by cases hh) (Rg.xm (.bool false) _ rfl rfl) ?_;go_frame;refine Rg.inW_run (some 43) rfl rfl (fun _ hh=>by cases hh) (Rg.xm (.slice ua r.length uc) _ rfl rfl) ?_;go_frame;refine Rg.inW_run (some 44) rfl rfl (fun _ hh=>by cases hh) (exec_len _ _ _ rfl Tryz.underlying22 _ _ _ rfl) ?_;go_frame;refine Rg.inW_run (some 45) rfl rfl (fun _ hh=>by cases hh) (Rg.exec_load (v:=.int .i64 ((N:Nat):Int)) _ _ rfl ⟨(w.heap.size+2),0,none⟩ rfl (run_loadInt CI.out.c3.c)) ?_;go_frame;refine Rg.inW_run (some 46) rfl rfl (fun _ hh=>by cases hh) (Rg.xm (.int .i64 ((X:Nat):Int)) _ rfl rfl) ?_;go_frame
   refine Rg.inW_run (some 47) rfl rfl (fun _ hh=>by cases hh) (exec_bin (R:=.int .i64 ((N:Int) - (X:Int))) .sub _ _ _ rfl rfl rfl (b_sub _ (by omega) (by omega))) ?_;go_frame;refine Rg.inW_run (some 48) rfl rfl (fun _ hh=>by cases hh) (exec_bin (R:=.bool true) .gtr _ _ _ rfl rfl rfl (b_gtr _ Rg.dT)) ?_;go_frame;refine Rg.in_run (some 49) rfl rfl (fun _ hh=>by cases hh) (exec_pickF (v:=.bool true) _ _ _ rfl rfl rfl) ?_;go_frame
   gi_upto_region 11 with (fail)
   refine wpIn_region_list ?_;refine Rg.in_skip none rfl rfl (fun _ hh=>by cases hh) (Rg.exec_store _ _ _ rfl _ rfl _ rfl (run_storeE 3 CI.out.c2.c CI.out.c2.f)) ?_;go_frame;have hk:=K.out.setCell (p:=⟨w.heap.size+1,0,none⟩) (by show w.heap.size≤w.heap.size+1; omega) (.int .i64 3);have y2:=CI.out.c2.set (.int .i64 3);have hq:=KQ.out.set (b:=w.heap.size+1) (o:=0) (.int .i64 3) (by omega);generalize W.setCell ⟨w.heap.size+1,0,none⟩ (.int .i64 3)=w99 at *;have KX:=ι hk;have CX:=ι y2;have QX:=ι hq;have HNX:=ι (show ¬ ChOK ((N:Nat):Int) OO RR from fun hh=>by have:=(hh.row HXR.out HXO.out).2; rw [show RR[X]=r from hr.out] at this; omega);clear hk y2 hq
   gi_wp2
   exact ⟨QX.out.keeps,rfl,KX.out,CX.out,HNX.out⟩
  gi_upto_region 10 with (fail)
  refine wpIn_region_list ?_;refine Rg.in_run (some 33) rfl rfl (fun _ hh=>by cases hh) (Rg.xm (.slice ua r.length uc) _ rfl rfl) ?_;go_frame;refine Rg.in_run (some 34) rfl rfl (fun _ hh=>by cases hh) (exec_len _ _ _ rfl Tryz.underlying22 _ _ _ rfl) ?_;go_frame;refine Rg.in_run (some 35) rfl rfl (fun _ hh=>by cases hh) (exec_field _ rfl rfl (chF1 _ _)) ?_;go_frame;refine Rg.in_run (some 36) rfl rfl (fun _ hh=>by cases hh) (Rg.exec_load (v:=.slice (some ⟨ob,oo,none⟩) OO.length oc) _ _ rfl ⟨w.heap.size,1,none⟩ rfl (Rg.run_loadSl _ _ Tryz.underlying84 CI.out.a1.cell)) ?_;go_frame;refine Rg.in_run (some 37) rfl rfl (fun _ hh=>by cases hh) (Rg.xm (.int .i64 ((X:Nat):Int)) _ rfl rfl) ?_;go_frame;refine Rg.in_run (some 38) rfl rfl (fun _ hh=>by cases hh) (exec_indexS slIntss _ _ rfl ob (oo) (OO.length) oc (X) rfl rfl HXO.out) ?_;go_frame;refine Rg.in_run (some 39) rfl rfl (fun _ hh=>by cases hh) (Rg.exec_load (v:=.slice ya o'.length yc) _ _ rfl ⟨ob,oo+X,none⟩ rfl (Rg.run_loadSl _ _ Tryz.underlying25 ((Below.cell (p:=⟨ob,oo+X,none⟩) K.out CO.out.lt).trans CO.out.cell))) ?_;go_frame
  refine Rg.in_run (some 40) rfl rfl (fun _ hh=>by cases hh) (exec_len _ _ _ rfl Tryz.underlying25 _ _ _ rfl) ?_;go_frame;refine Rg.in_run (some 41) rfl rfl (fun _ hh=>by cases hh) (exec_bin (R:=.bool false) .neq _ _ _ rfl rfl rfl (b_neqB _ Rg.dF)) ?_;go_frame;refine Rg.in_run (some 42) rfl rfl (fun _ hh=>by cases hh) (Rg.xm (.bool false) _ rfl rfl) ?_;go_frame;refine Rg.inW_run (some 43) rfl rfl (fun _ hh=>by cases hh) (Rg.xm (.slice ua r.length uc) _ rfl rfl) ?_;go_frame;refine Rg.inW_run (some 44) rfl rfl (fun _ hh=>by cases hh) (exec_len _ _ _ rfl Tryz.underlying22 _ _ _ rfl) ?_;go_frame;refine Rg.inW_run (some 45) rfl rfl (fun _ hh=>by cases hh) (Rg.exec_load (v:=.int .i64 ((N:Nat):Int)) _ _ rfl ⟨(w.heap.size+2),0,none⟩ rfl (run_loadInt CI.out.c3.c)) ?_;go_frame;refine Rg.inW_run (some 46) rfl rfl (fun _ hh=>by cases hh) (Rg.xm (.int .i64 ((X:Nat):Int)) _ rfl rfl) ?_;go_frame
  refine Rg.inW_run (some 47) rfl rfl (fun _ hh=>by cases hh) (exec_bin (R:=.int .i64 ((N:Int) - (X:Int))) .sub _ _ _ rfl rfl rfl (b_sub _ (by omega) (by omega))) ?_;go_frame;refine Rg.inW_run (some 48) rfl rfl (fun _ hh=>by cases hh) (exec_bin (R:=.bool false) .gtr _ _ _ rfl rfl rfl (b_gtr _ Rg.dF)) ?_;go_frame;refine Rg.in_run (some 49) rfl rfl (fun _ hh=>by cases hh) (exec_pickF (v:=.bool false) _ _ _ rfl rfl rfl) ?_;go_frame;have HG0:=ι (show gs.map Ma.ofN=gs.map Ma.ofN++r.take 0 by simp);have HL0:=ι (show gs.length≤gs.length+0 from Nat.le_refl _)
  gi_wp2
  gi_loopw [52] (fun jv wr=>∃ (j:Nat) (v:Value) (gs':List (List Nat)),jv=.int .i64 j∧j≤r.length∧Hid (CkI w ((N:Nat):Int) (.slice (some ⟨ob,oo,none⟩) OO.length oc) (.slice ra RR.length rc) wr v gs')∧Hid (KK B w.heap.size W wr)∧Hid (gs'.map Ma.ofN=gs.map Ma.ofN++r.take j)∧Hid (∀ g∈gs',Cm.Gd N g)∧Hid (gs'.length≤gs.length+j)) (fun jv _=>r.length - (intOf jv).toNat)
  case atStart=>exact ⟨0,_,_,rfl,Nat.zero_le _,CI,KQ,HG0,HGG,HL0⟩
  case round =>
   clear CI KQ HG0 HGG HL0 K;obtain ⟨j,v,gs',rfl,hj,CI,KQ,HG0,HGG,HL0⟩:=hrel;have K:=ι CI.out.bel;obtain ⟨va,vc,hsv⟩:=CI.out.row.shape;subst hsv
   by_cases hjl:j<r.length
   ·have hjN:(j:Int)<(r.length:Int):=by omega
    have HJL:=ι hjl;obtain ⟨ub,uo,rfl,hub,huc⟩:=HRC.out (by omega);obtain ⟨xv,hxc,hxi⟩:=huc j hjl;obtain ⟨x,hx⟩:∃ x:List Int,Hid (r[j]'hjl=x):=⟨_,ι rfl⟩
    replace hxi:Rg.Ints w xv x:=by rw [← hx.out]; exact hxi
    obtain ⟨xa,xc,rfl,_⟩:=hxi.shape
    have hxl:x.length≤1000000000:=by obtain ⟨m',a',c',e',_,e2'⟩:=hxi.len; omega
    have CX:=ι (CL.mk hxc hub);have XU:=ι hxi;have HXM:=ι (show x∈RR[X]'HXR.out by rw [show RR[X]'HXR.out=r from hr.out,← hx.out]; exact List.getElem_mem hjl);have HPS:=ι (show gs'.length<1000000 by have:=HL0.out; have:=HPRE.out; omega);clear huc hxc hxi hub
    gi_upto_region 14 with (fail)
    refine wpIn_region_list ?_;refine Rg.in_run (some 54) rfl rfl (fun _ hh=>by cases hh) (exec_indexS slPerms _ _ rfl ub (uo) (r.length) uc (j) rfl rfl HJL.out) ?_;go_frame;refine Rg.in_run (some 55) rfl rfl (fun _ hh=>by cases hh) (Rg.exec_load (v:=.slice xa x.length xc) _ _ rfl ⟨ub,uo+j,none⟩ rfl (Rg.run_loadSl _ _ Tryz.underlying30 ((Below.cell (p:=⟨ub,uo+j,none⟩) K.out CX.out.lt).trans CX.out.cell))) ?_;go_frame;refine Rg.in_run (some 8) rfl rfl (fun _ hh=>by cases hh) (Rg.xa (.slice xa x.length xc) _ rfl rfl) ?_;go_frame
    by_cases hp1:(x.length:Int)=(N:Int)
    case neg =>
     skip
     gi_upto_region 15 with (fail)
     refine wpIn_region_list ?_;refine Rg.in_run (some 56) rfl rfl (fun _ hh=>by cases hh) (Rg.xm (.slice xa x.length xc) _ rfl rfl) ?_;go_frame;refine Rg.in_run (some 57) rfl rfl (fun _ hh=>by cases hh) (exec_len _ _ _ rfl Tryz.underlying30 _ _ _ rfl) ?_;go_frame;refine Rg.in_run (some 58) rfl rfl (fun _ hh=>by cases hh) (Rg.exec_load (v:=.int .i64 ((N:Nat):Int)) _ _ rfl ⟨(w.heap.size+2),0,none⟩ rfl (run_loadInt CI.out.c3.c)) ?_;go_frame;refine Rg.in_run (some 59) rfl rfl (fun _ hh=>by cases hh) (exec_bin (R:=.bool true) .neq _ _ _ rfl rfl rfl (b_neqB _ Rg.dT)) ?_;go_frame;refine Rg.in_run (some 60) rfl rfl (fun _ hh=>by cases hh) (Rg.xm (.bool true) _ rfl rfl) ?_;go_frame;refine Rg.inW_pass (some 61) (by kernel_rfl) rfl ?_;go_frame;refine Rg.inW_pass (some 62) (by kernel_rfl) rfl ?_;go_frame;refine Rg.inW_pass (some 63) (by kernel_rfl) rfl ?_;go_frame;refine Rg.in_run (some 64) rfl rfl (fun _ hh=>by cases hh) (exec_pickT (v:=.bool true) _ _ _ rfl rfl rfl) ?_;go_frame
     gi_upto_region 16 with (fail)
     refine wpIn_region_list ?_;refine Rg.in_skip none rfl rfl (fun _ hh=>by cases hh) (Rg.exec_store _ _ _ rfl _ rfl _ rfl (run_storeE 3 CI.out.c2.c CI.out.c2.f)) ?_;go_frame;have hk:=K.out.setCell (p:=⟨w.heap.size+1,0,none⟩) (by show w.heap.size≤w.heap.size+1; omega) (.int .i64 3);have y2:=CI.out.c2.set (.int .i64 3);have hq:=KQ.out.set (b:=w.heap.size+1) (o:=0) (.int .i64 3) (by omega);generalize wr.setCell ⟨w.heap.size+1,0,none⟩ (.int .i64 3)=w99 at *;have KX:=ι hk;have CX:=ι y2;have QX:=ι hq;have HNX:=ι (show ¬ ChOK ((N:Nat):Int) OO RR from fun hh=>hp1 (hh.perm HXR.out HXM.out).1);clear hk y2 hq
     gi_wp2
     exact ⟨QX.out.keeps,rfl,KX.out,CX.out,HNX.out⟩
    by_cases hp0:Ma.pchk x=0
    case neg =>
     skip
     gi_upto_region 15 with (fail)
     refine wpIn_region_list ?_;refine Rg.in_run (some 56) rfl rfl (fun _ hh=>by cases hh) (Rg.xm (.slice xa x.length xc) _ rfl rfl) ?_;go_frame;refine Rg.in_run (some 57) rfl rfl (fun _ hh=>by cases hh) (exec_len _ _ _ rfl Tryz.underlying30 _ _ _ rfl) ?_;go_frame;refine Rg.in_run (some 58) rfl rfl (fun _ hh=>by cases hh) (Rg.exec_load (v:=.int .i64 ((N:Nat):Int)) _ _ rfl ⟨(w.heap.size+2),0,none⟩ rfl (run_loadInt CI.out.c3.c)) ?_;go_frame;refine Rg.in_run (some 59) rfl rfl (fun _ hh=>by cases hh) (exec_bin (R:=.bool false) .neq _ _ _ rfl rfl rfl (b_neqB _ Rg.dF)) ?_;go_frame;refine Rg.in_run (some 60) rfl rfl (fun _ hh=>by cases hh) (Rg.xm (.bool false) _ rfl rfl) ?_;go_frame;refine Rg.inW_run (some 61) rfl rfl (fun _ hh=>by cases hh) (Rg.xm (.slice xa x.length xc) _ rfl rfl) ?_;go_frame;refine Rg.inW_ask (some 62) rfl rfl (fun _ hh=>by cases hh) _ _ (exec_fn1 75 _ _ rfl rfl (Wvcl1 _ _)) ?_
     refine (permCheck_any _ _ wr (XU.out.below K.out)).mono ?_;rintro e1 w41 ⟨rfl,hb⟩;refine ⟨_,rfl,?_⟩;go_frame;replace CI:=ι (CI.out.below hb);replace KQ:=ι (KQ.out.below hb);replace K:=ι (Rg.acc K.out hb);clear hb;refine Rg.inW_run (some 63) rfl rfl (fun _ hh=>by cases hh) (exec_bin (R:=.bool true) .neq _ _ _ rfl rfl rfl (b_neqB _ (decide_eq_true hp0))) ?_;go_frame;refine Rg.in_run (some 64) rfl rfl (fun _ hh=>by cases hh) (exec_pickF (v:=.bool true) _ _ _ rfl rfl rfl) ?_;go_frame
     gi_upto_region 16 with (fail)
     refine wpIn_region_list ?_;refine Rg.in_skip none rfl rfl (fun _ hh=>by cases hh) (Rg.exec_store _ _ _ rfl _ rfl _ rfl (run_storeE 3 CI.out.c2.c CI.out.c2.f)) ?_;go_frame;have hk:=K.out.setCell (p:=⟨w.heap.size+1,0,none⟩) (by show w.heap.size≤w.heap.size+1; omega) (.int .i64 3);have y2:=CI.out.c2.set (.int .i64 3);have hq:=KQ.out.set (b:=w.heap.size+1) (o:=0) (.int .i64 3) (by omega);generalize w41.setCell ⟨w.heap.size+1,0,none⟩ (.int .i64 3)=w99 at *;have KX:=ι hk;have CX:=ι y2;have QX:=ι hq;have HNX:=ι (show ¬ ChOK ((N:Nat):Int) OO RR from fun hh=>hp0 (hh.perm HXR.out HXM.out).2);clear hk y2 hq
     gi_wp2
     exact ⟨QX.out.keeps,rfl,KX.out,CX.out,HNX.out⟩
    gi_upto_region 15 with (fail)
    refine wpIn_region_list ?_;refine Rg.in_run (some 56) rfl rfl (fun _ hh=>by cases hh) (Rg.xm (.slice xa x.length xc) _ rfl rfl) ?_;go_frame;refine Rg.in_run (some 57) rfl rfl (fun _ hh=>by cases hh) (exec_len _ _ _ rfl Tryz.underlying30 _ _ _ rfl) ?_;go_frame;refine Rg.in_run (some 58) rfl rfl (fun _ hh=>by cases hh) (Rg.exec_load (v:=.int .i64 ((N:Nat):Int)) _ _ rfl ⟨(w.heap.size+2),0,none⟩ rfl (run_loadInt CI.out.c3.c)) ?_;go_frame;refine Rg.in_run (some 59) rfl rfl (fun _ hh=>by cases hh) (exec_bin (R:=.bool false) .neq _ _ _ rfl rfl rfl (b_neqB _ Rg.dF)) ?_;go_frame;refine Rg.in_run (some 60) rfl rfl (fun _ hh=>by cases hh) (Rg.xm (.bool false) _ rfl rfl) ?_;go_frame;refine Rg.inW_run (some 61) rfl rfl (fun _ hh=>by cases hh) (Rg.xm (.slice xa x.length xc) _ rfl rfl) ?_;go_frame;refine Rg.inW_ask (some 62) rfl rfl (fun _ hh=>by cases hh) _ _ (exec_fn1 75 _ _ rfl rfl (Wvcl1 _ _)) ?_
    refine (permCheck_any _ _ wr (XU.out.below K.out)).mono ?_;rintro e1 w41 ⟨rfl,hb⟩;refine ⟨_,rfl,?_⟩;go_frame;replace CI:=ι (CI.out.below hb);replace KQ:=ι (KQ.out.below hb);replace K:=ι (Rg.acc K.out hb);clear hb;refine Rg.inW_run (some 63) rfl rfl (fun _ hh=>by cases hh) (exec_bin (R:=.bool false) .neq _ _ _ rfl rfl rfl (b_neqB _ (decide_eq_false (fun e=>e hp0)))) ?_;go_frame;refine Rg.in_run (some 64) rfl rfl (fun _ hh=>by cases hh) (exec_pickF (v:=.bool false) _ _ _ rfl rfl rfl) ?_;go_frame;obtain ⟨q,hqx,hqo⟩:=Ma.okL_ofN (Ma.pchk_zero hp0).2.2;have HGQ:=ι (show Cm.Gd N q from ⟨hqo,by have:=congrArg List.length hqx; rw [Ma.len_ofN] at this; omega⟩);have HQX:=ι hqx;have HFQ:=ι (show FP (fun k=>k<w.heap.size) w (.slice xa x.length xc) q from FP.of_np (show Rg.NP w _ q by unfold Rg.NP; rw [← HQX.out]; exact XU.out));clear hqx hqo hp0
    gi_upto_region 17 with (fail)
    refine wpIn_region_list ?_;refine Rg.in_run (some 65) rfl rfl (fun _ hh=>by cases hh) (Rg.exec_load (v:=.slice va gs'.length vc) _ _ rfl ⟨(w.heap.size+3),0,none⟩ rfl (Rg.run_loadSl _ _ Tryz.underlying22 CI.out.c4.c)) ?_;go_frame;refine Rg.in_run (some 66) rfl rfl (fun _ hh=>by cases hh) (Rg.xm (.slice xa x.length xc) _ rfl rfl) ?_;go_frame;refine Rg.in_run (some 67) rfl rfl (fun _ hh=>by cases hh) (Rg.exec_buildSlice _ _ _ rfl (.slice xa x.length xc) rfl (run_build1P w41 _ ⟨_,_,_,rfl⟩)) ?_;go_frame;obtain ⟨a9,c9,X9,r1,r2,r3,r4⟩:=CI.out.row.pushK (fun k hk=>by omega) (HFQ.out.below K.out) ⟨_,_,_,rfl⟩ HPS.out 22;have hkb:=r3 (Nat.le_refl _) (Below.refl _ _);refine Rg.in_run (some 68) rfl rfl (fun _ hh=>by cases hh) (Rg.exec_append _ _ _ rfl rfl rfl r1) ?_;go_frame;have c4x:=CI.out.c4.upto hkb (by omega);refine Rg.in_skip none rfl rfl (fun _ hh=>by cases hh) (Rg.exec_store _ _ _ rfl _ rfl _ rfl (Rg.run_storeSl _ infoPermsV c4x.c c4x.f)) ?_;go_frame
    have hci2:=CI.out.store hkb r2;have hkq2:KK B w.heap.size W (X9.setCell ⟨w.heap.size+3,0,none⟩ (.slice a9 (gs'.length+1) c9)):=(KQ.out.row r4 CI.out.row (by omega)).set _ (by omega);generalize X9.setCell ⟨w.heap.size+3,0,none⟩ (.slice a9 (gs'.length+1) c9)=w98 at *;have CI2:=ι hci2;have KQ2:=ι hkq2
    have HG2:=ι (show (gs'++[q]).map Ma.ofN=gs.map Ma.ofN++r.take (j+1) by
     rw [List.map_append,HG0.out,List.take_succ_eq_append_getElem HJL.out,show r[j]=x from hx.out,HQX.out,List.append_assoc]; rfl)
    have HGG2:=ι (show ∀ g∈gs'++[q],Cm.Gd N g from fun g hg=>by
     rcases List.mem_append.1 hg with hg | hg
     ·exact HGG.out g hg
     ·rw [List.mem_singleton] at hg; rw [hg]; exact HGQ.out)
    have HL2:=ι (show (gs'++[q]).length≤gs.length+(j+1) by rw [List.length_append]; have:=HL0.out; simp; omega);clear hci2 hkq2 r1 r2 r3 r4 hkb c4x
    gi_wp2
    go_roundw
    case rel=>exact ⟨j+1,_,_,by go_num,HJL.out,CI2,KQ2,HG2,HGG2,HL2⟩
    case measure=>simp [intOf]; have:=HJL.out; omega
   ·obtain rfl:j=r.length:=by omega
    have hjN:¬ (r.length:Int)<(r.length:Int):=by omega
    have HFIN:=ι (show gs'.map Ma.ofN=(pre++[⟨X,HXR.out⟩]:List (Fin RR.length)).flatMap (rowOf RR) by
     have e:=HG0.out;rw [List.take_length] at e;rw [e,HFL.out,List.flatMap_append];simp only [List.flatMap_cons,List.flatMap_nil,List.append_nil]
     exact congrArg (pre.flatMap (rowOf RR)++·) ((getD_inf HXR.out).trans hr.out).symm)
    have HRLE:=ι (show gs'.length≤64*(pre.length+1) by have:=HL0.out; have:=HGLL.out; omega)
    gi_wp2
    exact ⟨KQ.out.keeps,KQ.out.bel,_,_,CI.out,HFIN.out,HGG.out,by rw [List.length_append]; exact HRLE.out⟩
 case stop =>
  rintro D c pre W hD ⟨rfl,h1,h2,h3⟩ hd;go_wp2;exact ck_leave (ds:=[D]) h1 h2 (.inr ⟨by omega,.inr ⟨h3,rfl⟩⟩) rfl (by simp) (fun D' hD'=>by simp at hD'; subst hD'; exact ⟨hd,by have:=HS0.out; omega⟩)
 case done =>
  rintro D Wd hD ⟨v,gs,hci,hfl,hgg,hgl⟩ hd;clear FB HRV CI K;rw [finTo_flat] at hfl;have HD:=ι (show w.heap.size≤D by have:=HS0.out; omega);have DF:=ι hd;have CI:=ι hci;have K:=ι hci.bel;have HFL:=ι hfl;have HGG:=ι hgg;have HGL:=ι (show gs.length≤1000000 by rw [finTo_len (Nat.le_refl _)] at hgl; have:=HLR.out; omega);obtain ⟨va,vc,hsv⟩:=hci.row.shape;subst hsv
  have GR:=ι (show Rg.Rows Wd (.slice va gs.length vc) (gs.map Ma.ofN) from by
   obtain ⟨us,q1,q2⟩:=hci.row.own
   exact Rg.Rows.of_row q1 (by have:=HGL.out; omega) q2.1 (fun i a b=>(q2.2 i a b).ints))
  have HH:=ι (show ChEqR Wd (.slice oa OO.length oc) (.slice ra RR.length rc) OO RR from ChEqR.upto H.out hci.bel);clear hci hfl hgg hgl hd;go_upto_region 19 with (fail);refine Rg.wp_onlyN ?_;have hV0:Below Wd.heap.size Wd Wd.drew:=(Below.refl _ _).drew;replace CI:=ι (CI.out.below hV0);replace GR:=ι (GR.out.below hV0);replace HH:=ι (HH.out.below hV0);replace DF:=ι (DF.out.below hV0);replace K:=ι (Rg.acc K.out hV0);clear hV0;refine Rg.Any.begin (S:=Rg.Both 6 (fun _=>True) (fun W=>Below Wd.drew.heap.size Wd.drew W)) mix ?_;generalize Wd.drew=w61 at *;have hS:∀ (l:Array Bool) W,Below w61.heap.size w61 W→Rg.Both 6 (fun _=>True) (fun W=>Below w61.heap.size w61 W) l W:=fun l W h=>⟨.inr trivial,h⟩;have hI:Below w61.heap.size w61 w61:=Below.refl _ _;refine Rg.tg 0 6 ((.agg #[.int .i64 ((N:Nat):Int),.slice oa OO.length oc,.slice ra RR.length rc])) 70 rfl rfl (Rg.yields_cell _ _ rfl rfl ⟨w.heap.size,0,none⟩ rfl (fun W hW=>run_loadC3 ((Below.cell (p:=⟨w.heap.size,0,none⟩) hW CI.out.a0.lt).trans CI.out.a0.cell) ((Below.cell (p:=⟨w.heap.size,1,none⟩) hW CI.out.a1.lt).trans CI.out.a1.cell) ((Below.cell (p:=⟨w.heap.size,2,none⟩) hW CI.out.a2.lt).trans CI.out.a2.cell))) (hS _ _ hI) ?_;go_frame
  refine Rg.tg 1 6 (.int .i64 ((N:Nat):Int)) 71 rfl rfl (Rg.yields_cell _ _ rfl rfl ⟨(w.heap.size+2),0,none⟩ rfl (fun W hW=>run_loadInt ((Below.cell (p:=⟨(w.heap.size+2),0,none⟩) hW CI.out.c3.lt).trans CI.out.c3.c))) (hS _ _ hI) ?_;go_frame;refine Rg.tg 2 6 (.slice va gs.length vc) 72 rfl rfl (Rg.yields_cell _ _ rfl rfl ⟨(w.heap.size+3),0,none⟩ rfl (fun W hW=>Rg.run_loadSl _ _ Tryz.underlying22 ((Below.cell (p:=⟨(w.heap.size+3),0,none⟩) hW CI.out.c4.lt).trans CI.out.c4.c))) (hS _ _ hI) ?_;go_frame;refine Rg.Any.one (i:=3) (by kernel_rfl) (Rg.Any.ask (some 73) rfl rfl rfl _ _ (exec_fn 97 _ _ _ rfl rfl rfl (Wbcl1 _ _)) ?_);refine (build_b hN1 hN2 GR.out HGG.out HGL.out).mono ?_;rintro e1 w62 ⟨tb,L,F1,T1,V1,rfl,hT1,hc01,hc11,hB1,hb⟩;have HB:=ι hB1;have hI2_0:=Rg.acc hI hb;clear hb hI;refine ⟨_,rfl,(hS _ _ hI2_0),?_⟩;go_frame;have HT:=ι hT1;have C0:=ι hc01
  have C1:=ι hc11;clear hT1 hc01 hc11 hB1;refine Rg.Any.one (i:=4) (by kernel_rfl) (Rg.Any.ask (some 74) rfl rfl rfl _ _ (exec_fn1 98 _ _ rfl rfl (Wbcl2 _ _)) ?_);refine (chain_any hN1 hN2 HT.out C0.out C1.out (Cm.Gr.isG HGG.out) (HB.out.isTr (by omega) HGG.out) (fun j hj=>(HB.out.full j hj).1)).mono ?_;rintro e1 w63 ⟨ov2,rv2,O2,R2,rfl,hO,hR,hCh,hb⟩;have HCH:=ι hCh;have HE2:=ChEqR.mk hO.rows hR.rows;clear hO hR hCh;have hI3_0:=Rg.acc hI2_0 hb;have hI3_1:=hb;clear hb hI2_0;refine ⟨_,rfl,(hS _ _ hI3_0),?_⟩;go_frame;have HF:=ι HE2;clear HE2;obtain ⟨bS,hbS⟩:∃ b,Hid (decide (((N:Nat):Int)=((N:Nat):Int)∧OO=O2.map Ma.ofN∧RR=R2.map (List.map Ma.ofN))=b):=⟨_,ι rfl⟩;refine Rg.Any.one (i:=5) (by kernel_rfl) (Rg.Any.ask (some 75) rfl rfl rfl _ _ (exec_fn 127 _ _ _ rfl rfl rfl (Wvcl4 _ _)) ?_);refine (chSame_b (HH.out.below hI3_0) HF.out hbS).mono ?_
  rintro e1 w64 ⟨rfl,hb⟩;have hI4_0:=Rg.acc hI3_1 hb;have hI4_1:=Rg.acc hI3_0 hb;have hI4_2:=hb;clear hb hI3_1 hI3_0;refine ⟨_,rfl,(hS _ _ hI4_1),?_⟩;go_frame;refine Rg.Any.one (i:=6) (by kernel_rfl) (Rg.Any.run (some 76) rfl rfl rfl (exec_not _ _ bS rfl rfl) (hS _ _ hI4_1) ?_);go_frame;refine Rg.Any.done (by kernel_rfl) ?_ _;refine Rg.onlyN_i ?_;replace CI:=ι (CI.out.below hI4_1);replace GR:=ι (GR.out.below hI4_1);replace HH:=ι (HH.out.below hI4_1);replace DF:=ι (DF.out.below hI4_1);replace HT:=ι (HT.out.below hI4_0);replace C0:=ι (C0.out.below hI4_0);replace C1:=ι (C1.out.below hI4_0);replace HF:=ι (HF.out.below hI4_2);replace K:=ι (Rg.acc K.out hI4_1);clear hS hI4_0 hI4_1 hI4_2;have HOK:=ι (ChOK.same (OO:=OO) (RR:=RR) hN1 hN2 HGG.out HFL.out.symm HCH.out)
  cases bS with
  | false =>
   have C2:=ι CI.out.c2;go_upto_region 20 with (fail);refine Rg.wl ?_;refine Rg.list_skip none rfl rfl (Rg.exec_store _ _ _ rfl _ rfl _ rfl (run_storeE 3 C2.out.c C2.out.f)) ?_;go_frame;have hk:=K.out.setCell (p:=⟨w.heap.size+1,0,none⟩) (by show w.heap.size≤w.heap.size+1; omega) (.int .i64 3);have y2:=C2.out.set (.int .i64 3);have hdd:=RF.Dfr.setCell DF.out ⟨w.heap.size+1,0,none⟩ (.int .i64 3);generalize w64.setCell ⟨w.heap.size+1,0,none⟩ (.int .i64 3)=w99 at *;have KX:=ι hk;have CX:=ι y2;have DX:=ι hdd;have HCX:=ι (show ChC ((N:Nat):Int) OO RR 3 from .inr ⟨by omega,.inr ⟨fun hh=>(of_decide_eq_false hbS.out) ⟨rfl,HOK.out.1 hh⟩,rfl⟩⟩);clear hk y2 hdd;go_wp2;exact ck_leave (ds:=[D]) KX.out CX.out HCX.out rfl (by simp) (fun D' hD'=>by simp at hD'; subst hD'; exact ⟨DX.out,HD.out⟩)
  | true =>
   have C2:=ι CI.out.c2;go_upto_region 21 with (fail);refine Rg.wl ?_;refine Rg.list_skip none rfl rfl (Rg.exec_store _ _ _ rfl _ rfl _ rfl (run_storeE 0 C2.out.c C2.out.f)) ?_;go_frame;have hk:=K.out.setCell (p:=⟨w.heap.size+1,0,none⟩) (by show w.heap.size≤w.heap.size+1; omega) (.int .i64 0);have y2:=C2.out.set (.int .i64 0);have hdd:=RF.Dfr.setCell DF.out ⟨w.heap.size+1,0,none⟩ (.int .i64 0);generalize w64.setCell ⟨w.heap.size+1,0,none⟩ (.int .i64 0)=w99 at *;have KX:=ι hk;have CX:=ι y2;have DX:=ι hdd;have HCX:=ι (show ChC ((N:Nat):Int) OO RR 0 from ChC.of (HOK.out.2 (of_decide_eq_true hbS.out).2));clear hk y2 hdd;go_wp2;exact ck_leave (ds:=[D]) KX.out CX.out HCX.out rfl (by simp) (fun D' hD'=>by simp at hD'; subst hD'; exact ⟨DX.out,HD.out⟩)
end Go.Proofs.YtdnmmibchbceeaaGreat

namespace Go.Proofs.YtdnmmibchbceeaaGreat
open Go.RowKit
open Go.Proofs
open Go.Proofs.Ob
attribute [local irreducible] Go.Calls Go.wpList
theorem infoU8:(Tryz.prog.info? 5).map (fun i=>(i.zero,i.size,i.bytes))=some (some (.int .u8 0),1,1):=by kernel_rfl
theorem slBytes:Rg.SlT Tryz.prog 130 5 (.int .u8 0) 1:=⟨Tryz.underlying130,infoU8,rfl,by decide⟩

theorem exec_convIU {o:Oper} {a:Act} {w:World} (x:Operand) (ho:o.op=.convert 3 5 x) {n:Int} (hx:a.eval x=.int .i64 n) (hb:0≤n∧n<256):(execOp a.eval o).run Tryz.prog w=.ok (.value (.int .u8 n)) w:=by
 have e:IntKind.u8.wrap n=n:=by
  have h2:IntKind.u8.wrap n=n % 256:=rfl;rw [h2]; omega
 have h:(convert 3 5 (.int .i64 n)).run Tryz.prog w=.ok (.int .u8 n) w:=by
  simp [convert,run_underlying Tryz.underlying5,run_underlying Tryz.underlying3,Conv.intToInt,e]
 unfold execOp;simp only [ho,hx,Sem.run_bind,Sem.run_pure,h,Result.andThen_ok]

theorem box2 (w:World) (x y:Value):CL (w.alloc (.cells #[x,y] 24)) w.heap.size 0 x∧CL (w.alloc (.cells #[x,y] 24)) w.heap.size 1 y :=
 ⟨⟨by rw [Rg.cellNew]; rfl,by simp⟩,⟨by rw [Rg.cellNew]; rfl,by simp⟩⟩
theorem RowsB.low {B:Nat} {w w':World} {v:Value} {ll:List (List Int)} (h:Rg.RowsB B w v ll) (hb:Below w.heap.size w w'):Rg.RowsB B w' v ll:=h.below hb

theorem rowsI_get {w:World} {a:Option Addr} {n c:Nat} {T:List (List Int)} (h:Rg.Rows w (.slice a n c) T) {i:Nat} (hi:i<T.length):∃ b o ua uc,a=some ⟨b,o,none⟩∧b<w.heap.size∧w.cell? ⟨b,o+i,none⟩=some (.slice ua T[i].length uc)∧Rg.Ints w (.slice ua T[i].length uc) T[i]:=by
 obtain ⟨a',c',e,-,-,-,hx⟩:=h.shape;simp only [Value.slice.injEq] at e;obtain ⟨rfl,rfl,rfl⟩:=e;obtain ⟨b,o,e1,e2,e3⟩:=hx (by omega);obtain ⟨u,h1,h2⟩:=e3 i hi;obtain ⟨ua,uc,rfl,-⟩:=h2.shape;exact ⟨b,o,ua,uc,e1,e2,h1,h2⟩
end Go.Proofs.YtdnmmibchbceeaaGreat

namespace Go.Proofs.YtdnmmibchbceeaaGreat
open Go.RowKit
open Go.Proofs
open Go.Shelf
open Go.Proofs.Cm (Tr)
attribute [local go_sem] Oper.semAt_some
abbrev EntIx (N:Nat) (tr:Tr):={ q:Nat × Nat // (q.1<q.2∧q.2<N)∧(tr q.1 q.2).isSome=true }
end Go.Proofs.YtdnmmibchbceeaaGreat

namespace Go.Proofs.YtdnmmibchbceeaaGreat
open Go.RowKit
open Go.Proofs
open Go.Proofs.Ob
open Go.Shelf
open Go.Proofs.Cm (Tr)
attribute [local go_sem] Oper.semAt_some
attribute [local irreducible] Go.Calls Go.wpList Go.wpListIn
def entV {n:Nat} (tr:Tr) (q:EntIx n tr):List Nat:=(tr q.1.1 q.1.2).getD []
theorem entV_at {n:Nat} {tr:Tr} (q:EntIx n tr):tr q.1.1 q.1.2=some (entV tr q):=by
 unfold entV;obtain ⟨u,hu⟩:=Option.isSome_iff_exists.1 q.2.2;rw [hu]; rfl
def PClosed (n:Nat) (tr:Tr):Prop:=∀ q r:EntIx n tr,(Cm.sfP n (Cm.idT n tr) n (Ma.mulN (entV tr q) (entV tr r))).1=n
theorem exec_boxV {P:Program} {o:Oper} {a:Act} {w:World} {v:Value} (t:TypeId) (x:Operand) (ho:o.op=.box t x) (hx:a.eval x=v) (hv:v.cells=#[v]) :
  (execOp a.eval o).run P w=.ok (.value (.pointer (some ⟨w.heap.size,0,none⟩))) (w.alloc (.cells #[v] t)):=by
 unfold execOp;simp [ho,hx,Instr.box,newVar,newRow,hv,Result.andThen]
theorem _root_.Go.Proofs.Rg.run_loadPtr {P:Program} (t e:TypeId) (ht:P.underlying t=some (.pointer e)) {w:World} {ad:Addr} {v:Value} (h:w.cell? ad=some v):(loadVar t ad).run P w=.ok v w:=by
 simp [loadVar,isAgg,run_underlying ht,load];simp [Sem.run,h]
end Go.Proofs.YtdnmmibchbceeaaGreat

namespace Go.Proofs.YtdnmmibchbceeaaGreat
open Go.RowKit
open Go.Proofs
open Go.Proofs.Cm (Tr)
attribute [local irreducible] Go.Calls Go.wpList
theorem tab_lt {n:Nat} {gs:List Nat→Prop} {tr:Tr} (h:Cm.TabOk n gs tr) {i p:Nat} {u:List Nat} (e:tr i p=some u):i<p:=by
 have hl:=h.lt i p u e
 have hne:p≠i:=fun h2=>by subst h2; rw [h.diag] at e; cases e
 have e2:Cm.idT n tr i p=some u:=by rw [Cm.idT_ne hne]; exact e
 have gu:=h.rp.gd i p u (Nat.zero_le _) hl.1 e2;have fu:=h.rp.fx i p u (Nat.zero_le _) hl.1 e2;have au:=h.rp.at_ i p u (Nat.zero_le _) hl.1 e2
 rcases Nat.lt_or_ge i p with h1 | h1
 ·exact h1
 ·exact absurd (Cm.ap_inj gu hl.2 hl.1 ((fu p (by omega)).trans au.symm)) hne
def SS (n:Nat) (tr:Tr) (l:List (List Nat)) (a b:Nat):Prop:=(Cm.sfP n (Cm.idT n tr) n (Ma.mulN (l.getD a []) (l.getD b []))).1=n
theorem PClosed.of {n:Nat} {gs:List Nat→Prop} {tr:Tr} (h:Cm.TabOk n gs tr) (hs:∀ a b,a<(ents n tr).length→b<(ents n tr).length→SS n tr (ents n tr) a b):PClosed n tr:=fun q r=>by
 obtain ⟨a,ha,ea⟩:=List.getElem_of_mem (mem_ents.2 ⟨q.1.1,q.1.2,by have:=q.2.1; omega,q.2.1.2,entV_at q⟩);obtain ⟨b,hb,eb⟩:=List.getElem_of_mem (mem_ents.2 ⟨r.1.1,r.1.2,by have:=r.2.1; omega,r.2.1.2,entV_at r⟩);have:=hs a b ha hb;unfold SS at this;rw [getD_li ha,getD_li hb,ea,eb] at this;exact this
theorem PClosed.ss {n:Nat} {gs:List Nat→Prop} {tr:Tr} (h:Cm.TabOk n gs tr) (hc:PClosed n tr) {a b:Nat} (ha:a<(ents n tr).length) (hb:b<(ents n tr).length):SS n tr (ents n tr) a b:=by
 unfold SS;rw [getD_li ha,getD_li hb];obtain ⟨i,p,hi,hp,e⟩:=mem_ents.1 (List.getElem_mem ha);obtain ⟨j,q,hj,hq,e2⟩:=mem_ents.1 (List.getElem_mem hb);have:=hc ⟨(i,p),⟨tab_lt h e,hp⟩,by show (tr i p).isSome=true; rw [e]; rfl⟩ ⟨(j,q),⟨tab_lt h e2,hq⟩,by show (tr j q).isSome=true; rw [e2]; rfl⟩;unfold entV at this;simp only [e,e2,Option.getD_some] at this;exact this
end Go.Proofs.YtdnmmibchbceeaaGreat

namespace Go.Proofs.YtdnmmibchbceeaaGreat
open Go.Proofs
open Go.Proofs.Cm (Tr TabOk Gr Gd Sd idT sfP)
def ins1 (n:Nat) (tr:Tr) (x:List Nat):Tr:=insT n tr (sfP n (idT n tr) n x)
structure TL (n:Nat) (gs:List Nat→Prop) (tr:Tr) (l:List (List Nat)):Prop where
 ok:TabOk n gs tr
 sd:∀ x∈l,Sd n (idT n tr) n x
theorem TL.nil (n:Nat) (gs:List Nat→Prop):TL n gs (fun _ _=>none) []:=⟨Cm.TabOk.nil0,fun x hx=>by simp at hx⟩
theorem TL.ins {n:Nat} {gs:List Nat→Prop} (hg:∀ s,gs s→Gd n s) {tr:Tr} {l:List (List Nat)} (h:TL n gs tr l) {x:List Nat} (hx:Gr n gs x):TL n gs (ins1 n tr x) (l++[x]):=by
 obtain ⟨h1,h2,h3,_⟩:=tab_ins hg h.ok hx;refine ⟨h1,fun y hy=>?_⟩
 rcases List.mem_append.1 hy with hy | hy
 ·exact Sd.mono (fun i p u _=>h2 i p u) (h.sd y hy)
 ·rw [List.mem_singleton] at hy; subst hy; exact h3
theorem sd_of {n:Nat} {gs:List Nat→Prop} (hg:∀ s,gs s→Gd n s) {tr:Tr} (h:TabOk n gs tr) {x:List Nat} (hx:Gr n gs x) (e:(sfP n (idT n tr) n x).1=n):Sd n (idT n tr) n x:=by
 have h3:=(tab_ins hg h hx).2.2.1
 have e2:insT n tr (sfP n (idT n tr) n x)=tr:=by unfold insT; rw [if_neg (by omega)]
 rwa [e2] at h3
theorem TL.closed {n:Nat} {gs:List Nat→Prop} (hg:∀ s,gs s→Gd n s) {tr:Tr} {l:List (List Nat)} (h:TL n gs tr l) (hl:∀ s,gs s→s∈l) (hc:PClosed n tr):Cm.IsTr n (Gr n gs) (idT n tr):=by
 refine (LE.start h.ok (fun s hs=>h.sd s (hl s hs))).done hg fun a b ha hb=>?_;unfold PrS;have h1:=hc.ss h.ok ha hb
 have hm:∀ {a:Nat} (ha:a<(ents n tr).length),Gr n gs ((ents n tr).getD a []):=fun {a} ha=>by
  rw [getD_li ha];obtain ⟨i,p,_,_,e⟩:=mem_ents.1 (List.getElem_mem ha);exact h.ok.mem _ _ _ e
 exact sd_of hg h.ok (.mul _ _ (hm ha) (hm hb)) h1
def pickV (x n:Int):Int:=if x.tmod n<0 then x.tmod n+n else x.tmod n
theorem pickV_range {x n:Int} (h0:0<n):0≤pickV x n∧pickV x n<n:=by
 have h2:=Int.tmod_lt_of_pos x h0
 have h3:-n<x.tmod n:=by
  have:=Int.lt_tmod_of_pos x h0;omega
 unfold pickV
 split <;> omega
def stepR (n:Nat) (st:List (List Nat) × Tr) (a b:Int):List (List Nat) × Tr :=
 (st.1.set (pickV a st.1.length).toNat (Ma.mulN (st.1.getD (pickV a st.1.length).toNat []) (st.1.getD (pickV b st.1.length).toNat [])),
  ins1 n st.2 (Ma.mulN (st.1.getD (pickV a st.1.length).toNat []) (st.1.getD (pickV b st.1.length).toNat [])))
def stR (n:Nat) (s0:List (List Nat) × Tr) (nums:List Int):Nat→List (List Nat) × Tr
 | 0=>s0
 | k+1=>stepR n (stR n s0 nums k) (nums.getD (2*k) 0) (nums.getD (2*k+1) 0)
theorem stR_len {n:Nat} {s0:List (List Nat) × Tr} {nums:List Int}:∀ k,(stR n s0 nums k).1.length=s0.1.length
 | 0=>rfl
 | k+1=>by
  show ((stR n s0 nums k).1.set _ _).length=_;rw [List.length_set,stR_len k]
structure RI (n:Nat) (gs:List Nat→Prop) (st:List (List Nat) × Tr):Prop where
 gr:∀ x∈st.1,Gr n gs x
 tl:∃ l,TL n gs st.2 l∧∀ s,gs s→s∈l
theorem getD_mem {l:List (List Nat)} {i:Nat} (h:i<l.length):l.getD i []∈l:=by rw [getD_li h]; exact List.getElem_mem h
theorem RI.step {n:Nat} {gs:List Nat→Prop} (hg:∀ s,gs s→Gd n s) {st:List (List Nat) × Tr} (h:RI n gs st) (h0:0<st.1.length) (a b:Int):RI n gs (stepR n st a b):=by
 have ha:=pickV_range (x:=a) (n:=st.1.length) (by omega);have hb:=pickV_range (x:=b) (n:=st.1.length) (by omega);have hy:Gr n gs (Ma.mulN (st.1.getD (pickV a st.1.length).toNat []) (st.1.getD (pickV b st.1.length).toNat [])):=.mul _ _ (h.gr _ (getD_mem (by omega))) (h.gr _ (getD_mem (by omega)));refine ⟨fun x hx=>?_,?_⟩
 ·rcases List.mem_or_eq_of_mem_set hx with h1 | h1
  ·exact h.gr x h1
  ·rw [h1]; exact hy
 ·obtain ⟨l,h1,h2⟩:=h.tl
  exact ⟨_,h1.ins hg hy,fun s hs=>List.mem_append.2 (.inl (h2 s hs))⟩
theorem RI.all {n:Nat} {gs:List Nat→Prop} (hg:∀ s,gs s→Gd n s) {s0:List (List Nat) × Tr} (h:RI n gs s0) (h0:0<s0.1.length) (nums:List Int):∀ k,RI n gs (stR n s0 nums k)
 | 0=>h
 | k+1=>(RI.all hg h h0 nums k).step hg (by rw [stR_len]; exact h0) _ _
def tabL (n:Nat) (l:List (List Nat)):Tr:=l.foldl (ins1 n) (fun _ _=>none)
theorem TL.fold {n:Nat} {gs:List Nat→Prop} (hg:∀ s,gs s→Gd n s):∀ (l pre:List (List Nat)) (tr:Tr),TL n gs tr pre→(∀ x∈l,Gr n gs x)→TL n gs (l.foldl (ins1 n) tr) (pre++l)
 | [],pre,tr,h,_=>by rw [List.append_nil]; exact h
 | x :: l,pre,tr,h,hx=>by
  have:=TL.fold hg l (pre++[x]) (ins1 n tr x) (h.ins hg (hx x (by simp))) fun y hy=>hx y (by simp [hy]);rw [List.append_assoc] at this;exact this
theorem TL.tabL {n:Nat} {gs:List Nat→Prop} (hg:∀ s,gs s→Gd n s) (l:List (List Nat)) (h:∀ x∈l,Gr n gs x):TL n gs (tabL n l) l:=TL.fold hg l [] _ (TL.nil n gs) h
def startR (n:Nat) (gs:List (List Nat)):List (List Nat) × Tr:=(gs++gs.map Ma.invN,tabL n gs)
theorem RI.start {n:Nat} {gs:List (List Nat)} (hg:∀ s∈gs,Gd n s):RI n (·∈gs) (startR n gs):=by
 refine ⟨fun x hx=>?_,gs,TL.tabL hg gs fun x hx=>.gen x hx,fun s hs=>hs⟩
 rcases List.mem_append.1 hx with h | h
 ·exact .gen x h
 ·obtain ⟨y,hy,rfl⟩:=List.mem_map.1 h
  exact (Gr.isG hg).inv y (.gen y hy)
end Go.Proofs.YtdnmmibchbceeaaGreat

namespace Go.Proofs.YtdnmmibchbceeaaGreat
open Go.RowKit
open Go.Proofs
open Go.Proofs.Cm (Tr)
theorem RowG.push {F M:Nat→Prop} {W:World} {v:Value} {l:List (List Nat)} (h:RowG F M W v l) {u:Value} {x:List Nat} (hu:FP F W u x) (hs:∃ a m c,u=.slice a m c) (hF:∀ k,F k→k<W.heap.size) (hM:∀ k,M k→k<W.heap.size) (hn:l.length<1000000) (ty:TypeId) :
  ∃ a c X,(Builtin.append_ #[22,22] ty #[v,.slice (some ⟨W.heap.size,0,none⟩) 1 1]).run Tryz.prog (W.alloc (.cells #[u] 30))=.ok (.slice a (l.length+1) c) X∧RowG F M X (.slice a (l.length+1) c) (l++[x])∧Rg.Kp (fun k=>v.ownBlock=some k) W X:=by
 obtain ⟨B,us,h0,h1,h2⟩:=h.own;obtain ⟨a0,m0,c0,rfl⟩:=hs;have hb:Below W.heap.size W (W.alloc (.cells #[.slice a0 m0 c0] 30)):=(Below.refl _ _).alloc (Nat.le_refl _) _;obtain ⟨v',X,r1,r2,r3,r4,a,c,rfl⟩:=app_run (P:=Tryz.prog) slPerms ty (Rg.row_below h1 hb) (Nat.le_trans h0 hb.size) W.heap.size 1 (u:=.slice a0 m0 c0) (by rw [Rg.cellNew]; rfl) rfl hn;have hk:Rg.Kp (fun k=>v.ownBlock=some k) W X:=Rg.Kp.trans (M:=fun k=>v.ownBlock=some k) ((Rg.Kp.of_below hb).weak fun _=>False.elim) (Rg.Kp.of_grown r3 fun _ e=>e) (fun _ _ e=>e);have hg:∀ k,F k→¬ v.ownBlock=some k:=fun k g e=>(h.off k e).1 g;refine ⟨a,c,X,r1,⟨⟨B,us++[.slice a0 m0 c0],Nat.le_trans h0 hk.size,by rw [List.length_append]; exact r2,by rw [List.map_append]; exact FElts.snoc (h2.kp hk hg) (Rg.FI.kp hu hk hg)⟩,fun k e=>?_⟩,hk⟩
 rcases r4 with r4 | r4
 ·exact h.off k (by rw [← r4]; exact e)
 ·rw [r4] at e
  injection e with e
  have e2:(W.alloc (.cells #[.slice a0 m0 c0] 30)).heap.size=W.heap.size+1:=by simp
  exact ⟨fun g=>by have:=hF _ g; omega,fun g=>by have:=hM _ g; omega⟩
theorem RowG.set {F M:Nat→Prop} {W:World} {g c:Nat} {l:List (List Nat)} (h:RowG F M W (.slice (some ⟨g,0,none⟩) l.length c) l) (i:Nat) {u:Value} {x:List Nat} (hu:FP F W u x) :
  RowG F M (W.setCell ⟨g,i,none⟩ u) (.slice (some ⟨g,0,none⟩) l.length c) (l.set i x)∧Rg.Kp (fun k=>k=g) W (W.setCell ⟨g,i,none⟩ u):=by
 obtain ⟨B,us,h0,h1,h2⟩:=h.own;have hk:Rg.Kp (fun k=>k=g) W (W.setCell ⟨g,i,none⟩ u):=Rg.Kp.of_setCell rfl;have hg:∀ k,F k→¬ k=g:=fun k e e2=>(h.off g rfl).1 (e2▸e);have h2':=h2.kp hk hg;refine ⟨⟨⟨B,us.set i u,Nat.le_trans h0 hk.size,?_,?_,fun j hj hj2=>?_⟩,h.off⟩,hk⟩
 ·rw [List.length_set]; exact (h1.stored i u).1
 ·rw [List.length_set,List.length_map,List.length_set,← List.length_map (f:=Ma.ofN)]; exact h2.1
 ·have e1:j<us.length:=by rwa [List.length_set] at hj
  have e2:j<l.length:=by rwa [List.length_map,List.length_set] at hj2
  by_cases e:i=j
  ·subst e
   simp only [List.getElem_set_self,List.getElem_map];exact Rg.FI.kp hu hk hg
  ·simp only [List.getElem_set_ne e,List.getElem_map]
   have:=h2'.2 j e1 (by rw [List.length_map]; exact e2)
   simpa using this
theorem RowG.frozen {F M:Nat→Prop} {W:World} {g n c:Nat} {l:List (List Nat)} (h:RowG F M W (.slice (some ⟨g,0,none⟩) n c) l) (hn:n=l.length) (i:Nat):W.frozen? ⟨g,i,none⟩=false:=by
 subst hn;obtain ⟨B,us,h0,h1,h2⟩:=h.own;exact h1.frozenAt i
end Go.Proofs.YtdnmmibchbceeaaGreat

namespace Go.Proofs.YtdnmmibchbceeaaGreat
open Go.RowKit
open Go.Proofs
attribute [local irreducible] Go.Calls Go.wpList
theorem Pick_any (x n:Int) (w:World) (h0:0<n) (h1:n≤1000):Calls Tryz.prog 35 #[.int .i64 x,.int .i64 n] w fun e w'=>e=.returned (.int .i64 (pickV x n))∧Below w.heap.size w w':=by
 have hn0:¬ n=0:=by omega
 have h2:=Int.tmod_lt_of_pos x h0
 have h3:-n<x.tmod n:=by
  have:=Int.lt_tmod_of_pos x h0;omega
 by_cases hlt:x.tmod n<0
 ·rw [show pickV x n=x.tmod n+n from if_pos hlt]
  go_enter Tryz.func35,Tryz.ntmps35
  go_wp2;go_ret;exact ⟨rfl,Below.refl _ _⟩
 ·rw [show pickV x n=x.tmod n from if_neg hlt]
  go_enter Tryz.func35,Tryz.ntmps35
  go_wp2;go_ret;exact ⟨rfl,Below.refl _ _⟩
end Go.Proofs.YtdnmmibchbceeaaGreat

namespace Go.Proofs.YtdnmmibchbceeaaGreat
open Go.RowKit
open Go.Proofs
open Go.Proofs.Ob
open Go.Proofs.Cm (Tr TabOk)
attribute [local irreducible] Go.Calls Go.wpList
theorem RowG.nil (F M:Nat→Prop) (W:World):RowG F M W (.slice none 0 0) []:=⟨⟨W.heap.size,[],Nat.le_refl _,World.ownsRow_nil _ _ _ _,Rg.FElts.nil _ _⟩,fun k e=>by simp [Value.ownBlock] at e⟩
end Go.Proofs.YtdnmmibchbceeaaGreat

namespace Go.Proofs.YtdnmmibchbceeaaGreat
open Go.RowKit
open Go.Proofs
open Go.Proofs.Ob
attribute [local irreducible] Go.Calls Go.wpList
theorem exec_nilTs {o:Oper} {a:Act} {w:World} {c:Nat} (x y:Operand) (ho:o.op=.binOp .eql 22 x y 22) (hx:a.eval x=.slice none 0 c) (hy:a.eval y=.slice none 0 0):(execOp a.eval o).run Tryz.prog w=.ok (.value (.bool true)) w:=by
 have h1:(binOp .eql 22 (.slice none 0 c) (.slice none 0 0)).run Tryz.prog w=.ok (.bool true) w:=by kernel_rfl
 have hg:(eqGuard .eql 22 x y (.slice none 0 c) (.slice none 0 0)).run Tryz.prog w=.ok () w:=by
  simp [eqGuard]
 unfold execOp;simp only [ho,hx,hy,Sem.run_bind,Sem.run_pure,hg,h1,Result.andThen_ok]
theorem exec_nilFs {o:Oper} {a:Act} {w:World} {ad:Addr} {n c:Nat} (x y:Operand) (ho:o.op=.binOp .eql 22 x y 22) (hx:a.eval x=.slice (some ad) n c) (hy:a.eval y=.slice none 0 0):(execOp a.eval o).run Tryz.prog w=.ok (.value (.bool false)) w:=by
 have h1:(binOp .eql 22 (.slice (some ad) n c) (.slice none 0 0)).run Tryz.prog w=.ok (.bool false) w:=by kernel_rfl
 have hg:(eqGuard .eql 22 x y (.slice (some ad) n c) (.slice none 0 0)).run Tryz.prog w=.ok () w:=by
  simp [eqGuard]
 unfold execOp;simp only [ho,hx,hy,Sem.run_bind,Sem.run_pure,hg,h1,Result.andThen_ok]
theorem ClonePs_f {F0:Nat→Prop} (v:Value) (gs:List (List Nat)) (w:World) (hF:∀ k,F0 k→k<w.heap.size) (h:Rg.FRows F0 w v (gs.map Ma.ofN)) (hl:gs.length≤1000) :
  Calls Tryz.prog 48 #[v] w fun e w'=>∃ v',e=.returned v'∧RowF F0 w.heap.size w' v' gs∧Below w.heap.size w w':=by
 have HF:=ι hF;clear hF;obtain ⟨us,hv,he⟩:=h;have hvv:=Rg.FVals.vals hv
 have hul:us.length=gs.length:=by have:=he.1; rwa [List.length_map] at this
 obtain ⟨la,lc,e,_,_,_,hs⟩:=hv;subst e;have K:=ι (Below.refl w.heap.size w)
 cases la with
 | none =>
  have h0:us=[]:=by
   cases us with
   | nil=>rfl
   | cons u r=>obtain ⟨b,o,e1,_⟩:=hs (by simp); cases e1
  subst h0;have hg0:gs=[]:=List.length_eq_zero_iff.1 hul.symm;subst hg0;clear hs he hul hvv
  go_enter Tryz.func48,Tryz.ntmps48
  go_upto_region 1 with (fail);refine Rg.wl ?_;refine Rg.lm 3 (.slice none 0 lc) ?_;go_frame;refine Rg.lr 4 (exec_nilTs _ _ rfl rfl rfl) ?_;go_frame;go_wp2;go_ret;exact ⟨_,rfl,RowF.nil _ (Nat.le_refl _),K.out⟩
 | some ad =>
  have HV:=ι hvv;have HE:=ι he;have HUL:=ι hul;clear hs he hvv hul
  go_enter Tryz.func48,Tryz.ntmps48
  go_upto_region 1 with (fail);refine Rg.wl ?_;refine Rg.lm 3 (.slice (some ad) us.length lc) ?_;go_frame;refine Rg.lr 4 (exec_nilFs _ _ rfl rfl rfl) ?_;go_frame;go_upto_region 3 with (fail);refine Rg.wl ?_;refine Rg.lr 5 (Rg.exec_build0 slPerms rfl w) ?_;go_frame;refine Rg.lm 6 (.slice (some ad) us.length lc) ?_;go_frame;have hbA:Below w.heap.size w (w.alloc (.cells #[] 30)):=(Below.refl _ _).alloc (Nat.le_refl _) _;obtain ⟨v5,X5,r1,r2,r3⟩:=Rg.appL_run (P:=Tryz.prog) slPerms 22 (World.ownsRow_made (e:=30) (size:=1) w #[] 0 (Nat.le_refl w.heap.size) (Nat.zero_le _) rfl) hbA.size (Rg.Vals.below HV.out hbA) HE.out.oneCell (by have:=HUL.out; omega);refine Rg.lr 7 (Rg.exec_append _ _ _ rfl rfl rfl r1) ?_;go_frame;refine Rg.la 2 (v5) ?_;go_frame;rw [Nat.zero_add,List.nil_append,HUL.out] at r2;have hk:Rg.Kp (fun z=>z=w.heap.size) w X5:=Rg.Kp.trans (M:=fun z=>z=w.heap.size) (Rg.Kp.of_below (M:=fun z=>z=w.heap.size) hbA) (Rg.Kp.of_grown r3 (M:=fun z=>z=w.heap.size) fun k e=>by simp [Value.ownBlock] at e; exact e.symm) (fun _ _ e=>e)
  have H1:=ι (show RowF F0 w.heap.size X5 v5 gs from ⟨hk.size,us,r2,HE.out.kp hk (fun k h e=>by have:=HF.out k h; omega)⟩);have H2:=ι (show Below w.heap.size w X5 from ⟨hk.os,hk.tape,hk.output,hk.size,fun k h=>hk.block k h (by omega)⟩);clear r1 r2 r3 hk hbA;go_wp2;go_ret;exact ⟨_,rfl,H1.out,H2.out⟩
theorem ClonePs_any (v:Value) (gs:List (List Nat)) (w:World) (h:Rg.Rows w v (gs.map Ma.ofN)) (hl:gs.length≤1000) :
  Calls Tryz.prog 48 #[v] w fun e w'=>∃ v',e=.returned v'∧RowF (fun k=>k<w.heap.size) w.heap.size w' v' gs∧Below w.heap.size w w' :=
 ClonePs_f v gs w (fun _ h=>h) (Rg.FRows.old h) hl
end Go.Proofs.YtdnmmibchbceeaaGreat

namespace Go.Proofs.YtdnmmibchbceeaaGreat
open Go.RowKit
open Go.Proofs
open Go.Proofs.Cm (Tr)
theorem exec_fnc1 {o:Oper} {a:Act} {w:World} {u1 x1:Value} (F:FuncId) (f x:Operand) (tys:Array TypeId) (ho:o.op=.call { callee:=.value f,args:=#[x],argTypes:=tys }) (hf:a.eval f=.func (.func F) #[] #[u1]) (hx:a.eval x=x1)
  (hF:(callFunc F #[x1,u1]).run Tryz.prog w=.ok (.enter F #[x1,u1]) w):(execOp a.eval o).run Tryz.prog w=.ok (.enter F #[x1,u1]) w:=by
 unfold execOp;simp [ho,hx,hf,resolve,invoke,Deferred.ofValue,hF]
theorem CW.up {w w':World} {b:Nat} {v:Value} (h:CW w b v) (hb:Below w.heap.size w w'):CW w' b v:=h.below hb
theorem RowG.below {F M:Nat→Prop} {W W':World} {v:Value} {l:List (List Nat)} (h:RowG F M W v l) (hb:Below W.heap.size W W'):RowG F M W' v l:=by
 obtain ⟨B,us,g0,g1,g2⟩:=h.own;exact ⟨⟨B,us,Nat.le_trans g0 hb.size,Rg.row_below g1 hb,g2.kp (M:=fun _=>False) (Rg.Kp.of_below hb) (fun _ _=>id)⟩,h.off⟩
theorem RowG.less {F M M':Nat→Prop} {W:World} {v:Value} {l:List (List Nat)} (h:RowG F M W v l) (hM:∀ k,M' k→M k):RowG F M' W v l:=⟨h.own,fun k e=>⟨(h.off k e).1,fun g=>(h.off k e).2 (hM k g)⟩⟩
theorem KG.bel {F0 F:Nat→Prop} {w0 w w':World} (h:KG F0 w0 F w) (hb:Below w.heap.size w w'):KG F0 w0 F w':=h.kf' (KF.of_below hb)
end Go.Proofs.YtdnmmibchbceeaaGreat

namespace Go.Proofs.YtdnmmibchbceeaaGreat
open Go.RowKit
open Go.Proofs
open Go.Proofs.Ob
open Go.Shelf
open Go.Proofs.Cm (Tr Gd ap sfP)
attribute [local go_sem] Oper.semAt_some
attribute [local irreducible] Go.Calls Go.wpList Go.wpListIn
theorem gd_mem {n:Nat} {y:List Nat} (h:Gd n y) {z:Nat} (hz:z∈y):z<n:=by
 obtain ⟨i,hi,rfl⟩:=List.getElem_of_mem hz;have:=Cm.ap_lt h (i:=i) (by rw [← h.2]; exact hi)
 rwa [Cm.ap_at hi] at this
end Go.Proofs.YtdnmmibchbceeaaGreat

namespace Go.Proofs.YtdnmmibchbceeaaGreat
open Go.Proofs
open Go.Proofs.Cm (Gr Gd IsChain IsG St Tr ap sfP Lst)
open Classical in
noncomputable def chCode (n:Int) (OO:List (List Int)) (RR:List (List (List Int))):Int:=if 1≤n∧n≤64 then (if ChOK n OO RR then 0 else 3) else 2
theorem chCode_C {n:Int} {OO:List (List Int)} {RR:List (List (List Int))}:ChC n OO RR (chCode n OO RR):=by
 unfold chCode
 by_cases h:1≤n∧n≤64
 ·rw [if_pos h]
  by_cases h2:ChOK n OO RR
  ·rw [if_pos h2]; exact .inr ⟨h,.inl ⟨h2,rfl⟩⟩
  ·rw [if_neg h2]; exact .inr ⟨h,.inr ⟨h2,rfl⟩⟩
 ·rw [if_neg h]; exact .inl ⟨h,rfl⟩
theorem chCode_eq {n:Int} {OO:List (List Int)} {RR:List (List (List Int))} {c:Int} (h:ChC n OO RR c):c=chCode n OO RR:=h.uniq chCode_C
theorem chCode_zero {n:Int} {OO:List (List Int)} {RR:List (List (List Int))} (h:ChOK n OO RR):chCode n OO RR=0:=(chCode_eq (ChC.of h)).symm
end Go.Proofs.YtdnmmibchbceeaaGreat

namespace Go.Proofs.YtdnmmibchbceeaaGreat
open Go.RowKit
open Go.Proofs
open Go.Proofs.Ob
open Go.Proofs.Cm (Gd)
attribute [local irreducible] Go.Calls Go.wpList
theorem chCheck_c {n:Int} {ov rv:Value} {OO:List (List Int)} {RR:List (List (List Int))} {w:World} (h:ChEqR w ov rv OO RR) :
  Calls Tryz.prog 99 #[.agg #[.int .i64 n,ov,rv]] w fun e w'=>e=.returned (.int .i64 (chCode n OO RR))∧Below w.heap.size w w':=by
 refine (chCheck_any h).mono ?_;rintro e w' ⟨c,rfl,h1,h2⟩;exact ⟨by rw [chCode_eq h1],h2⟩
end Go.Proofs.YtdnmmibchbceeaaGreat

namespace Go.Proofs.Rg
open Go Go.RowKit
variable {P:Program} {md:Region.Mode} {ops:Array Oper} {Q:Exit→Act→World→Prop} {S:Array Bool→World→Prop}
theorem doesCall {i d:Nat} {I:World→Prop} {R:Value→World→Prop} {K:World→World→Prop} {oi:Oper} {b:Act} {W:World} (hi:ops[i]?=some oi) (hd:oi.dst=some d) (hw:Region.wanted oi (yielded ops b.tmps)=true) (f:FuncId) (args:Array Value)
  (hr:(execOp b.eval oi).run P W=.ok (.enter f args) W) (hc:Calls P f args W fun e W'=>∃ v,e=.returned v∧I W'∧R v W'∧K W W'):Does P ops Q i d I R K b W:=by
 unfold Does wpOp;simp only [hi,hw,if_true]
 left
 unfold Oper.wp;rw [hr,Oper.upon_enter];refine hc.mono fun e w' ⟨v,h1,h2⟩=>?_;rw [h1];refine ⟨v,?_,h2⟩;rw [hd]
end Go.Proofs.Rg

set_option linter.unusedVariables false
namespace Go.Proofs.YtdnmmibchbceeaaGreat
open Go.RowKit
open Go.Proofs
open Go.Proofs.Ob
open Go.Shelf
attribute [local irreducible] Go.Calls Go.wpList
def MK (tc:Nat) (ov rv:Value) (z:Nat):Prop:=z=tc∨ov.ownBlock=some z∨rv.ownBlock=some z
theorem row_isCells {W:World} {B:Nat} {e:TypeId} {size:Nat} {v:Value} {n:Nat} {xs:List Value} (h:W.ownsRow B e size v n xs):∀ k,v.ownBlock=some k→∃ o:Obj,W.heap[k]?=some o∧o.isCells=true:=fun k e1=>by
 obtain ⟨_,h3⟩:=h
 rcases h3 with ⟨h4,_⟩ | ⟨g,cap,cur,h4,_,h5,_⟩
 ·rw [h4] at e1; simp [Value.ownBlock] at e1
 ·rw [h4] at e1
  simp [Value.ownBlock] at e1;subst e1;exact ⟨_,h5,rfl⟩
theorem cell_isCells {W:World} {a:Addr} {v:Value} (h:W.cell? a=some v):∃ o:Obj,W.heap[a.block]?=some o∧o.isCells=true:=by
 unfold World.cell? at h
 cases e:W.heap[a.block]? with
 | none=>rw [e] at h; cases h
 | some o =>
  rw [e] at h;refine ⟨o,rfl,?_⟩
  cases o <;> simp at h <;> rfl
theorem ChR.isCells {B:Nat} {W:World} {tc:Nat} {c0 c1 c2 ov rv:Value} {O:List (List Int)} {R:List (List (List Int))} (h:ChR B W tc c0 c1 c2 ov rv O R):∀ z,MK tc ov rv z→∃ o:Obj,W.heap[z]?=some o∧o.isCells=true:=by
 obtain ⟨us,vs,h1,h2,_⟩:=h.own
 rintro z (e | e | e)
 ·subst e; exact cell_isCells h.tri.c0
 ·exact row_isCells h1 z e
 ·exact row_isCells h2 z e
end Go.Proofs.YtdnmmibchbceeaaGreat

namespace Go.Proofs.YtdnmmibchbceeaaGreat
open Go.RowKit
open Go.Proofs
open Go.Proofs.Ob
attribute [local irreducible] Go.Calls Go.wpList
theorem Zjcl0 (args:Array Value) (w:World):(callFunc 35 args).run Tryz.prog w=.ok (.enter 35 args) w:=by kernel_rfl
theorem tkF0 (b:Nat) (w:World):(Instr.fieldAt 64 (.pointer (some ⟨b,0,none⟩)) 0).run Tryz.prog w=.ok (.pointer (some ⟨b,0,none⟩)) w:=by kernel_rfl
theorem kpAcc {M:Nat→Prop} {w w' w'':World} (h:Rg.Kp M w w') (hb:Below w'.heap.size w' w''):Rg.Kp M w w'':=Rg.Kp.trans (M:=M) h (Rg.Kp.of_below (M:=M) hb) (fun _ _ e=>e)
theorem pick_n {x m:Int} {r:Nat} (h0:0<m) (h1:m≤1000) (hr:Hid (pickV x m=((r:Nat):Int))) (w:World):Calls Tryz.prog 35 #[.int .i64 x,.int .i64 m] w fun e w'=>e=.returned (.int .i64 ((r:Nat):Int))∧Below w.heap.size w w':=by
 rw [← hr.out];exact Pick_any x m w h0 h1
theorem tkF1 (b:Nat) (w:World):(Instr.fieldAt 64 (.pointer (some ⟨b,0,none⟩)) 1).run Tryz.prog w=.ok (.pointer (some ⟨b,1,none⟩)) w:=by kernel_rfl
structure Tk (w0 w:World) (tk k:Nat) (lv:Value) (l:List Int):Prop where
 c0:w.cell? ⟨tk,0,none⟩=some lv
 c1:w.cell? ⟨tk,1,none⟩=some (.int .i64 ((k:Nat):Int))
 f1:w.frozen? ⟨tk,1,none⟩=false
 lt:tk<w.heap.size
 lo:w0.heap.size≤tk
 bel:Below w0.heap.size w0 w
 ints:Rg.IntsB maxLen w0 lv l
theorem Tk.below {w0 w w':World} {tk k:Nat} {lv:Value} {l:List Int} (h:Tk w0 w tk k lv l) (hb:Below w.heap.size w w'):Tk w0 w' tk k lv l :=
 ⟨(hb.cell (p:=⟨tk,0,none⟩) h.lt).trans h.c0,(hb.cell (p:=⟨tk,1,none⟩) h.lt).trans h.c1,(hb.frozen (p:=⟨tk,1,none⟩) h.lt).trans h.f1,Nat.lt_of_lt_of_le h.lt hb.size,h.lo,h.bel.trans (hb.mono h.bel.size),h.ints⟩
theorem Tk.kp {M:Nat→Prop} {w0 w w':World} {tk k:Nat} {lv:Value} {l:List Int} (h:Tk w0 w tk k lv l) (hk:Rg.Kp M w w') (hM:¬ M tk) (hl:∀ z,M z→w0.heap.size≤z):Tk w0 w' tk k lv l :=
 ⟨(World.cell?_of_block (a:=⟨tk,0,none⟩) (hk.block tk h.lt hM)).trans h.c0,(World.cell?_of_block (a:=⟨tk,1,none⟩) (hk.block tk h.lt hM)).trans h.c1,(World.frozen?_of_block (a:=⟨tk,1,none⟩) (hk.block tk h.lt hM)).trans h.f1,Nat.lt_of_lt_of_le h.lt hk.size,h.lo,Rg.Kp.below h.bel hk hl,h.ints⟩
theorem Tk.next {w0 w:World} {tk k:Nat} {lv:Value} {l:List Int} (h:Tk w0 w tk k lv l) (v:Nat):Tk w0 (w.setCell ⟨tk,1,none⟩ (.int .i64 ((v:Nat):Int))) tk v lv l∧Rg.Kp (fun z=>z=tk) w (w.setCell ⟨tk,1,none⟩ (.int .i64 ((v:Nat):Int))):=by
 refine ⟨⟨?_,World.cell?_setCell_same (h:=h.c1) ..,by rw [World.frozen?_setCell]; exact h.f1,by simpa using h.lt,h.lo,h.bel.setCell (p:=⟨tk,1,none⟩) h.lo _,h.ints⟩,Rg.Kp.of_setCell rfl⟩
 rw [World.cell?_setCell_other (h:=by intro e; injection e with e1 e2; omega) ..]
 exact h.c0
def TkPost (w0 w:World) (tk:Nat) (lv:Value) (l:List Int) (m:Int) (e:Ending) (w':World):Prop:=∃ (r k':Nat),e=.returned (.int .i64 ((r:Nat):Int))∧(1≤m→(r:Int)<m)∧(¬ 1≤m→r=0)∧Tk w0 w' tk k' lv l∧Rg.Kp (fun z=>z=tk) w w'
theorem Take_any {w0 w:World} {tk k:Nat} {lv:Value} {l:List Int} (h:Tk w0 w tk k lv l) (m:Int) (hm:m≤1000) :
  Calls Tryz.prog 70 #[.pointer (some ⟨tk,0,none⟩),.int .i64 m] w (TkPost w0 w tk lv l m):=by
 obtain ⟨la,lc,rfl,-,hlm,-,hlc⟩:=h.ints.shape;have TK:=ι h;have HLM:=ι hlm;have HLC:=ι hlc;have K:=ι (Rg.Kp.refl (fun z=>z=tk) w);clear h hlm hlc
 go_enter Tryz.func70,Tryz.ntmps70
 by_cases hk:k<l.length
 case neg =>
  have hkN:¬ (k:Int)<(l.length:Int):=by omega
  go_upto_region 1 with (fail);have hV0:Below w.heap.size w w.drew:=(Below.refl _ _).drew;replace TK:=ι (TK.out.below hV0);replace K:=ι (kpAcc K.out hV0);clear hV0;refine Rg.Any.begin (S:=Rg.Both 13 (fun _=>True) (fun W=>Below w.drew.heap.size w.drew W)) mix ?_;generalize w.drew=w1 at *;have hS:∀ (l:Array Bool) W,Below w1.heap.size w1 W→Rg.Both 13 (fun _=>True) (fun W=>Below w1.heap.size w1 W) l W:=fun l W h=>⟨.inr trivial,h⟩;have hI:Below w1.heap.size w1 w1:=Below.refl _ _;refine Rg.tm 0 13 (.pointer (some ⟨tk,0,none⟩)) 5 (hS _ _ hI) ?_;go_frame;refine Rg.tg 1 13 (.pointer (some ⟨tk,0,none⟩)) 6 rfl rfl (.inl ⟨rfl,fun w _=>exec_nil _ rfl rfl⟩) (hS _ _ hI) ?_;go_frame;refine Rg.tg 2 13 (.pointer (some ⟨tk,1,none⟩)) 7 rfl rfl (.inl ⟨rfl,fun w _=>exec_field _ rfl rfl (tkF1 _ _)⟩) (hS _ _ hI) ?_;go_frame;refine Rg.tg 3 13 (.int .i64 ((k:Nat):Int)) 8 rfl rfl (Rg.yields_cell _ _ rfl rfl ⟨tk,1,none⟩ rfl (fun W hW=>run_loadInt ((Below.cell (p:=⟨tk,1,none⟩) hW TK.out.lt).trans TK.out.c1))) (hS _ _ hI) ?_;go_frame
  refine Rg.tm 4 13 (.pointer (some ⟨tk,0,none⟩)) 9 (hS _ _ hI) ?_;go_frame;refine Rg.tg 5 13 (.pointer (some ⟨tk,0,none⟩)) 10 rfl rfl (.inl ⟨rfl,fun w _=>exec_nil _ rfl rfl⟩) (hS _ _ hI) ?_;go_frame;refine Rg.tg 6 13 (.pointer (some ⟨tk,0,none⟩)) 11 rfl rfl (.inl ⟨rfl,fun w _=>exec_field _ rfl rfl (tkF0 _ _)⟩) (hS _ _ hI) ?_;go_frame;refine Rg.tg 7 13 (.slice la l.length lc) 12 rfl rfl (Rg.yields_cell _ _ rfl rfl ⟨tk,0,none⟩ rfl (fun W hW=>Rg.run_loadSl _ _ Tryz.underlying25 ((Below.cell (p:=⟨tk,0,none⟩) hW TK.out.lt).trans TK.out.c0))) (hS _ _ hI) ?_;go_frame;refine Rg.tg 8 13 (.int .i64 ((l.length:Nat):Int)) 13 rfl rfl (.inl ⟨rfl,fun w _=>exec_len _ _ _ rfl Tryz.underlying25 _ _ _ rfl⟩) (hS _ _ hI) ?_;go_frame;refine Rg.tg 9 13 (.bool true) 14 rfl rfl (.inl ⟨rfl,fun w _=>exec_bin (R:=.bool true) .geq _ _ _ rfl rfl rfl (b_geq _ Rg.dT)⟩) (hS _ _ hI) ?_;go_frame
  refine Rg.tm 10 13 (.bool true) 15 (hS _ _ hI) ?_;go_frame;refine Rg.tg 11 13 (undef) 16 rfl rfl (.inr ⟨rfl,rfl⟩) (hS _ _ hI) ?_;go_frame;refine Rg.tg 12 13 (undef) 17 rfl rfl (.inr ⟨rfl,rfl⟩) (hS _ _ hI) ?_;go_frame;refine Rg.Any.one (i:=13) (by kernel_rfl) (Rg.Any.run (some 18) rfl rfl rfl (exec_pickT (v:=.bool true) _ _ _ rfl rfl rfl) (hS _ _ hI) ?_);go_frame;refine Rg.Any.done (by kernel_rfl) ?_ _;clear hS hI;go_upto_region 2 with (fail);refine Rg.wl ?_;refine Rg.la 4 (.int .i64 ((0:Nat):Int)) ?_;go_frame;go_wp2;go_ret;exact ⟨0,_,rfl,fun h=>by omega,fun _=>rfl,TK.out,K.out⟩
 case pos =>
  have hkN:(k:Int)<(l.length:Int):=by omega
  by_cases hm1:1≤m
  case neg =>
   skip
   go_upto_region 1 with (fail);have hV0:Below w.heap.size w w.drew:=(Below.refl _ _).drew;replace TK:=ι (TK.out.below hV0);replace K:=ι (kpAcc K.out hV0);clear hV0;refine Rg.Any.begin (S:=Rg.Both 13 (fun _=>True) (fun W=>Below w.drew.heap.size w.drew W)) mix ?_;generalize w.drew=w1 at *;have hS:∀ (l:Array Bool) W,Below w1.heap.size w1 W→Rg.Both 13 (fun _=>True) (fun W=>Below w1.heap.size w1 W) l W:=fun l W h=>⟨.inr trivial,h⟩;have hI:Below w1.heap.size w1 w1:=Below.refl _ _;refine Rg.tm 0 13 (.pointer (some ⟨tk,0,none⟩)) 5 (hS _ _ hI) ?_;go_frame;refine Rg.tg 1 13 (.pointer (some ⟨tk,0,none⟩)) 6 rfl rfl (.inl ⟨rfl,fun w _=>exec_nil _ rfl rfl⟩) (hS _ _ hI) ?_;go_frame;refine Rg.tg 2 13 (.pointer (some ⟨tk,1,none⟩)) 7 rfl rfl (.inl ⟨rfl,fun w _=>exec_field _ rfl rfl (tkF1 _ _)⟩) (hS _ _ hI) ?_;go_frame;refine Rg.tg 3 13 (.int .i64 ((k:Nat):Int)) 8 rfl rfl (Rg.yields_cell _ _ rfl rfl ⟨tk,1,none⟩ rfl (fun W hW=>run_loadInt ((Below.cell (p:=⟨tk,1,none⟩) hW TK.out.lt).trans TK.out.c1))) (hS _ _ hI) ?_;go_frame
   refine Rg.tm 4 13 (.pointer (some ⟨tk,0,none⟩)) 9 (hS _ _ hI) ?_;go_frame;refine Rg.tg 5 13 (.pointer (some ⟨tk,0,none⟩)) 10 rfl rfl (.inl ⟨rfl,fun w _=>exec_nil _ rfl rfl⟩) (hS _ _ hI) ?_;go_frame;refine Rg.tg 6 13 (.pointer (some ⟨tk,0,none⟩)) 11 rfl rfl (.inl ⟨rfl,fun w _=>exec_field _ rfl rfl (tkF0 _ _)⟩) (hS _ _ hI) ?_;go_frame;refine Rg.tg 7 13 (.slice la l.length lc) 12 rfl rfl (Rg.yields_cell _ _ rfl rfl ⟨tk,0,none⟩ rfl (fun W hW=>Rg.run_loadSl _ _ Tryz.underlying25 ((Below.cell (p:=⟨tk,0,none⟩) hW TK.out.lt).trans TK.out.c0))) (hS _ _ hI) ?_;go_frame;refine Rg.tg 8 13 (.int .i64 ((l.length:Nat):Int)) 13 rfl rfl (.inl ⟨rfl,fun w _=>exec_len _ _ _ rfl Tryz.underlying25 _ _ _ rfl⟩) (hS _ _ hI) ?_;go_frame;refine Rg.tg 9 13 (.bool false) 14 rfl rfl (.inl ⟨rfl,fun w _=>exec_bin (R:=.bool false) .geq _ _ _ rfl rfl rfl (b_geq _ Rg.dF)⟩) (hS _ _ hI) ?_;go_frame
   refine Rg.tm 10 13 (.bool false) 15 (hS _ _ hI) ?_;go_frame;refine Rg.tm 11 13 (.int .i64 m) 16 (hS _ _ hI) ?_;go_frame;refine Rg.tg 12 13 (.bool true) 17 rfl rfl (.inl ⟨rfl,fun w _=>exec_bin (R:=.bool true) .lss _ _ _ rfl rfl rfl (b_lss _ Rg.dT)⟩) (hS _ _ hI) ?_;go_frame;refine Rg.Any.one (i:=13) (by kernel_rfl) (Rg.Any.run (some 18) rfl rfl rfl (exec_pickF (v:=.bool true) _ _ _ rfl rfl rfl) (hS _ _ hI) ?_);go_frame;refine Rg.Any.done (by kernel_rfl) ?_ _;clear hS hI;go_upto_region 2 with (fail);refine Rg.wl ?_;refine Rg.la 4 (.int .i64 ((0:Nat):Int)) ?_;go_frame;go_wp2;go_ret;exact ⟨0,_,rfl,fun h=>by omega,fun _=>rfl,TK.out,K.out⟩
  case pos =>
   have hkb:k+1≤9223372036854775807:=by
    have:=HLM.out;unfold maxLen at this;omega
   obtain ⟨lb,lo,rfl,hlb,hcell⟩:=HLC.out (by omega);have hck:=hcell k hk;obtain ⟨x,hx⟩:∃ x:Int,l[k]=x:=⟨_,rfl⟩;rw [hx] at hck;have HKL:=ι hk;obtain ⟨r,hr⟩:∃ r:Nat,Hid (pickV x m=((r:Nat):Int)):=⟨_,ι (Int.toNat_of_nonneg (pickV_range (x:=x) (n:=m) (by omega)).1).symm⟩;have HRM:=ι (show ((r:Nat):Int)<m by rw [← hr.out]; exact (pickV_range (x:=x) (n:=m) (by omega)).2);have CX:=ι (CL.mk hck hlb);clear hck hlb hcell hx;go_upto_region 1 with (fail);have hV0:Below w.heap.size w w.drew:=(Below.refl _ _).drew;replace TK:=ι (TK.out.below hV0);replace K:=ι (kpAcc K.out hV0);clear hV0;refine Rg.Any.begin (S:=Rg.Both 13 (fun _=>True) (fun W=>Below w.drew.heap.size w.drew W)) mix ?_;generalize w.drew=w1 at *;have hS:∀ (l:Array Bool) W,Below w1.heap.size w1 W→Rg.Both 13 (fun _=>True) (fun W=>Below w1.heap.size w1 W) l W:=fun l W h=>⟨.inr trivial,h⟩
   have hI:Below w1.heap.size w1 w1:=Below.refl _ _;refine Rg.tm 0 13 (.pointer (some ⟨tk,0,none⟩)) 5 (hS _ _ hI) ?_;go_frame;refine Rg.tg 1 13 (.pointer (some ⟨tk,0,none⟩)) 6 rfl rfl (.inl ⟨rfl,fun w _=>exec_nil _ rfl rfl⟩) (hS _ _ hI) ?_;go_frame;refine Rg.tg 2 13 (.pointer (some ⟨tk,1,none⟩)) 7 rfl rfl (.inl ⟨rfl,fun w _=>exec_field _ rfl rfl (tkF1 _ _)⟩) (hS _ _ hI) ?_;go_frame;refine Rg.tg 3 13 (.int .i64 ((k:Nat):Int)) 8 rfl rfl (Rg.yields_cell _ _ rfl rfl ⟨tk,1,none⟩ rfl (fun W hW=>run_loadInt ((Below.cell (p:=⟨tk,1,none⟩) hW TK.out.lt).trans TK.out.c1))) (hS _ _ hI) ?_;go_frame;refine Rg.tm 4 13 (.pointer (some ⟨tk,0,none⟩)) 9 (hS _ _ hI) ?_;go_frame;refine Rg.tg 5 13 (.pointer (some ⟨tk,0,none⟩)) 10 rfl rfl (.inl ⟨rfl,fun w _=>exec_nil _ rfl rfl⟩) (hS _ _ hI) ?_;go_frame;refine Rg.tg 6 13 (.pointer (some ⟨tk,0,none⟩)) 11 rfl rfl (.inl ⟨rfl,fun w _=>exec_field _ rfl rfl (tkF0 _ _)⟩) (hS _ _ hI) ?_;go_frame
   refine Rg.tg 7 13 (.slice (some ⟨lb,lo,none⟩) l.length lc) 12 rfl rfl (Rg.yields_cell _ _ rfl rfl ⟨tk,0,none⟩ rfl (fun W hW=>Rg.run_loadSl _ _ Tryz.underlying25 ((Below.cell (p:=⟨tk,0,none⟩) hW TK.out.lt).trans TK.out.c0))) (hS _ _ hI) ?_;go_frame;refine Rg.tg 8 13 (.int .i64 ((l.length:Nat):Int)) 13 rfl rfl (.inl ⟨rfl,fun w _=>exec_len _ _ _ rfl Tryz.underlying25 _ _ _ rfl⟩) (hS _ _ hI) ?_;go_frame;refine Rg.tg 9 13 (.bool false) 14 rfl rfl (.inl ⟨rfl,fun w _=>exec_bin (R:=.bool false) .geq _ _ _ rfl rfl rfl (b_geq _ Rg.dF)⟩) (hS _ _ hI) ?_;go_frame;refine Rg.tm 10 13 (.bool false) 15 (hS _ _ hI) ?_;go_frame;refine Rg.tm 11 13 (.int .i64 m) 16 (hS _ _ hI) ?_;go_frame;refine Rg.tg 12 13 (.bool false) 17 rfl rfl (.inl ⟨rfl,fun w _=>exec_bin (R:=.bool false) .lss _ _ _ rfl rfl rfl (b_lss _ Rg.dF)⟩) (hS _ _ hI) ?_;go_frame;refine Rg.Any.one (i:=13) (by kernel_rfl) (Rg.Any.run (some 18) rfl rfl rfl (exec_pickF (v:=.bool false) _ _ _ rfl rfl rfl) (hS _ _ hI) ?_)
   go_frame;refine Rg.Any.done (by kernel_rfl) ?_ _;clear hS hI;go_upto_region 3 with (fail);refine Rg.wl ?_;refine Rg.lm 19 (.pointer (some ⟨tk,0,none⟩)) ?_;go_frame;refine Rg.lr 20 (exec_nil _ rfl rfl) ?_;go_frame;refine Rg.lr 21 (exec_field _ rfl rfl (tkF1 _ _)) ?_;go_frame;refine Rg.lr 22 (Rg.exec_load (v:=.int .i64 ((k:Nat):Int)) _ _ rfl ⟨tk,1,none⟩ rfl (run_loadInt TK.out.c1)) ?_;go_frame;refine Rg.lr 23 (exec_bin (R:=.int .i64 (((k+1):Nat):Int)) .add _ _ _ rfl rfl rfl (b_add _ (by omega) (by omega))) ?_;go_frame;refine Rg.lr 24 (exec_nil _ rfl rfl) ?_;go_frame;refine Rg.lr 25 (exec_field _ rfl rfl (tkF1 _ _)) ?_;go_frame;refine Rg.list_skip none rfl rfl (Rg.exec_store _ _ _ rfl _ rfl _ rfl (run_storeInt _ TK.out.c1 TK.out.f1)) ?_;go_frame;obtain ⟨ht2,hk2⟩:=TK.out.next (k+1);have K2:=ι (Rg.Kp.trans (M:=fun z=>z=tk) K.out hk2 (fun _ _ e=>e));have CX2:=ι (CX.out.upto ht2.bel CX.out.lt)
   generalize w1.setCell ⟨tk,1,none⟩ (.int .i64 (((k+1):Nat):Int))=w50 at *;have T2:=ι ht2;clear ht2 hk2 TK K CX;go_upto_region 4 with (fail);have hV0:Below w50.heap.size w50 w50.drew:=(Below.refl _ _).drew;replace T2:=ι (T2.out.below hV0);replace CX2:=ι (CX2.out.below hV0);replace K2:=ι (kpAcc K2.out hV0);clear hV0;refine Rg.Any.begin (S:=Rg.Both 13 (fun _=>True) (fun W=>Below w50.drew.heap.size w50.drew W)) mix ?_;generalize w50.drew=w51 at *;have hS:∀ (l:Array Bool) W,Below w51.heap.size w51 W→Rg.Both 13 (fun _=>True) (fun W=>Below w51.heap.size w51 W) l W:=fun l W h=>⟨.inr trivial,h⟩;have hI:Below w51.heap.size w51 w51:=Below.refl _ _;refine Rg.tm 0 13 (.pointer (some ⟨tk,0,none⟩)) 26 (hS _ _ hI) ?_;go_frame;refine Rg.tg 1 13 (.pointer (some ⟨tk,0,none⟩)) 27 rfl rfl (.inl ⟨rfl,fun w _=>exec_nil _ rfl rfl⟩) (hS _ _ hI) ?_;go_frame
   refine Rg.tg 2 13 (.pointer (some ⟨tk,0,none⟩)) 28 rfl rfl (.inl ⟨rfl,fun w _=>exec_field _ rfl rfl (tkF0 _ _)⟩) (hS _ _ hI) ?_;go_frame;refine Rg.tg 3 13 (.slice (some ⟨lb,lo,none⟩) l.length lc) 29 rfl rfl (Rg.yields_cell _ _ rfl rfl ⟨tk,0,none⟩ rfl (fun W hW=>Rg.run_loadSl _ _ Tryz.underlying25 ((Below.cell (p:=⟨tk,0,none⟩) hW T2.out.lt).trans T2.out.c0))) (hS _ _ hI) ?_;go_frame;refine Rg.tm 4 13 (.pointer (some ⟨tk,0,none⟩)) 30 (hS _ _ hI) ?_;go_frame;refine Rg.tg 5 13 (.pointer (some ⟨tk,0,none⟩)) 31 rfl rfl (.inl ⟨rfl,fun w _=>exec_nil _ rfl rfl⟩) (hS _ _ hI) ?_;go_frame;refine Rg.tg 6 13 (.pointer (some ⟨tk,1,none⟩)) 32 rfl rfl (.inl ⟨rfl,fun w _=>exec_field _ rfl rfl (tkF1 _ _)⟩) (hS _ _ hI) ?_;go_frame;refine Rg.tg 7 13 (.int .i64 (((k+1):Nat):Int)) 33 rfl rfl (Rg.yields_cell _ _ rfl rfl ⟨tk,1,none⟩ rfl (fun W hW=>run_loadInt ((Below.cell (p:=⟨tk,1,none⟩) hW T2.out.lt).trans T2.out.c1))) (hS _ _ hI) ?_;go_frame
   refine Rg.tg 8 13 (.int .i64 ((k:Nat):Int)) 34 rfl rfl (.inl ⟨rfl,fun w _=>exec_bin (R:=.int .i64 ((k:Nat):Int)) .sub _ _ _ rfl rfl rfl (b_sub _ (by omega) (by omega))⟩) (hS _ _ hI) ?_;go_frame;refine Rg.tg 9 13 (.pointer (some ⟨lb,lo+k,none⟩)) 35 rfl rfl (Rg.yields_index slInts _ _ rfl rfl lb (lo) (l.length) lc (k) rfl rfl HKL.out) (hS _ _ hI) ?_;go_frame;refine Rg.tg 10 13 (.int .i64 x) 36 rfl rfl (Rg.yields_cell _ _ rfl rfl ⟨lb,lo+k,none⟩ rfl (fun W hW=>run_loadInt ((Below.cell (p:=⟨lb,lo+k,none⟩) hW CX2.out.lt).trans CX2.out.cell))) (hS _ _ hI) ?_;go_frame;refine Rg.tm 11 13 (.int .i64 m) 37 (hS _ _ hI) ?_;go_frame;refine Rg.Any.one (i:=12) (by kernel_rfl) (Rg.Any.ask (some 38) rfl rfl rfl _ _ (exec_fn 35 _ _ _ rfl rfl rfl (Zjcl0 _ _)) ?_);refine (pick_n (by omega) hm hr w51).mono ?_;rintro e1 w52 ⟨rfl,hb⟩;have hI2_0:=Rg.acc hI hb;clear hb hI;refine ⟨_,rfl,(hS _ _ hI2_0),?_⟩
   go_frame;refine Rg.Any.one (i:=13) (by kernel_rfl) (Rg.Any.run (some 4) rfl rfl rfl (Rg.xa (.int .i64 ((r:Nat):Int)) _ rfl rfl) (hS _ _ hI2_0) ?_);go_frame;refine Rg.Any.done (by kernel_rfl) ?_ _;replace T2:=ι (T2.out.below hI2_0);replace CX2:=ι (CX2.out.below hI2_0);replace K2:=ι (kpAcc K2.out hI2_0);clear hS hI2_0;clear hkb;go_wp2;go_ret;exact ⟨r,_,rfl,fun _=>HRM.out,fun h=>by omega,T2.out,K2.out⟩
end Go.Proofs.YtdnmmibchbceeaaGreat
