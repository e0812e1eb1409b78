/- Lemmas and contracts on the way to the statement; no condition of their own beyond those written. -/
import Derived.Test.YtdnmmibchbceeaaGreatXVmtoWp
import Derived.RangeFuncWrites
import Derived.RangeFuncNested
import Derived.Sort.CutIn
import Derived.Lib.ConvBytes
import Derived.Laws.Tables
import Derived.Deep.WholeRow
import Derived.ChangeKeysEq
import Derived.Laws.Cells
import Derived.Laws.Rows
import Derived.OrdersIn
import Derived.TacticsIn
import Derived.Deep.LoopGhost
import Derived.Lib.SlicesSearch
set_option linter.unusedVariables false
set_option linter.unusedSimpArgs false
set_option maxRecDepth 100000
set_option maxHeartbeats 8000000
variable {w W w' W' w0 X:Go.World} {n B N k mb L m nx j cap D tc base bytes q n₀ gb tk most gc cb:Nat} {v u sv rv ov fv z v1 v2 xv u1 u2 av tv u3 uv:Go.Value} {F M F' F0 M':Nat→Prop} {gs T O A Ks T' Fd:List (List Nat)} {l l1 l2:List Int} {d:Int} {H:List Nat→Prop} {R:List (List (List Nat))} {vs:List Go.Value} {a s:List Nat} {RR:List (List (List Int))} {OO Wd:List (List Int)}
namespace Go.Proofs.YtdnmmibchbceeaaGreat
open Go.RowKit
open Go.Proofs
open Go.Proofs.Ob
attribute [local irreducible] Go.Calls Go.wpList
theorem exec_fnv2 {o:Oper} {a:Act} (F:FuncId) (x y f:Operand) (tys:Array TypeId) (ho:o.op=.call { callee:=.value f,args:=#[x,y],argTypes:=tys }) (hf:a.eval f=.func (.func F) #[] #[]) (hx:a.eval x=u1) (hy:a.eval y=u2)
  (hF:(callFunc F #[u1,u2]).run Tryz.prog w=.ok (.enter F #[u1,u2]) w):(execOp a.eval o).run Tryz.prog w=.ok (.enter F #[u1,u2]) w:=by
 unfold execOp;simp [ho,hx,hy,hf,resolve,invoke,Deferred.ofValue,hF]
def EqAsk (F:FuncId) (w0:World) (us vs:List Value) (p:Nat→Bool):Prop:=∀ i (h:i<us.length) (h2:i<vs.length) (W:World),Below w0.heap.size w0 W→Calls Tryz.prog F #[us[i],vs[i]] W fun e W'=>e=.returned (.bool (p i))∧Below W.heap.size W W'
def eqAll (m n:Nat) (p:Nat→Bool):Bool:=m == n && (List.range m).all p
theorem eqAll_len {p:Nat→Bool} (h:m≠n):eqAll m n p=false:=by unfold eqAll; simp [h]
theorem eqAll_all {p:Nat→Bool} (h:(List.range m).all p=true):eqAll m m p=true:=by unfold eqAll; simp [h]
theorem eqAll_no {p:Nat→Bool} (hk:k<m) (h:p k=false):eqAll m m p=false:=by
 unfold eqAll;rw [Bool.and_eq_false_iff]
 right
 rw [List.all_eq_false];exact ⟨k,List.mem_range.2 hk,by simp [h]⟩
theorem rangeAll_next {p:Nat→Bool} (h:(List.range k).all p=true) (h2:p k=true):(List.range (k+1)).all p=true:=by
 rw [List.range_succ,List.all_append];simp [h,h2]
theorem eqAll_iff {p:Nat→Bool}:eqAll m n p=true↔m=n∧∀ i,i<m→p i=true:=by
 unfold eqAll;simp
theorem eqAll_dec {α:Type} [DecidableEq α] {l m:List α} {p:Nat→Bool} (h:∀ i (h1:i<l.length) (h2:i<m.length),p i=decide (l[i]=m[i])):eqAll l.length m.length p=decide (l=m):=by
 rw [Bool.eq_iff_iff,eqAll_iff,decide_eq_true_iff]
 constructor
 ·rintro ⟨h1,h2⟩
  refine List.ext_getElem h1 fun i a b=>?_;have:=h2 i a;rw [h i a b] at this;exact of_decide_eq_true this
 ·rintro rfl
  exact ⟨rfl,fun i hi=>by rw [h i hi hi]; simp⟩
theorem eqFuncI_any {va vb:Value} {us:List Value} (h1:Rg.Vals w va us) (h2:Rg.Vals w vb vs) (F:FuncId) (hF:∀ args W,(callFunc F args).run Tryz.prog W=.ok (.enter F args) W) {p:Nat→Bool} (hp:EqAsk F w us vs p) :
  Calls Tryz.prog 148 #[va,vb,.func (.func F) #[] #[]] w fun e w'=>e=.returned (.bool (eqAll us.length vs.length p))∧Below w.heap.size w w':=by
 obtain ⟨ad,cap,rfl,_,_,hlm,hcell⟩:=h1;obtain ⟨ad2,cap2,rfl,_,_,hlm2,hcell2⟩:=h2;unfold Rg.big at hlm hlm2;have Hc:=ι hcell;have Hc2:=ι hcell2;have HP:=ι hp;have K:=ι (Below.refl w.heap.size w);clear hcell hcell2 hp
 go_enter Tryz.func148,Tryz.ntmps148
 by_cases hne:us.length=vs.length
 ·have hneN:(us.length:Int)=(vs.length:Int):=by omega
  have HNE:=ι hne;go_upto_region 1 with (fail);refine Rg.wl ?_;refine Rg.lm 10 (.slice ad us.length cap) ?_;go_frame;refine Rg.lr 11 (Rg.ln Tryz.underlying84) ?_;go_frame;refine Rg.lm 12 (.slice ad2 vs.length cap2) ?_;go_frame;refine Rg.lr 13 (Rg.ln Tryz.underlying84) ?_;go_frame;refine Rg.lr 14 (Rg.bn (.bool false) .neq (h:=b_neqB _ Rg.dF)) ?_;go_frame;have HA:=ι (show (List.range 0).all p=true from rfl);go_wp2
  go_loopw [17] (fun kv wr=>∃ k:Nat,kv=.int .i64 k∧k≤us.length∧Hid ((List.range k).all p=true)∧Hid (Below w.heap.size w wr)) (fun kv _=>us.length - (intOf kv).toNat)
  case atStart=>exact ⟨0,rfl,Nat.zero_le _,HA,K⟩
  case round =>
   clear HA K;obtain ⟨k,rfl,hk,HA,K⟩:=hrel
   by_cases hkl:k<us.length
   ·have hkN:(k:Int)<(us.length:Int):=by omega
    have hkl2:k<vs.length:=by omega
    have HKL:=ι hkl;have HKL2:=ι hkl2;obtain ⟨b,o,rfl,hb,hc⟩:=Hc.out (by omega);obtain ⟨b2,o2,rfl,hb2,hc2⟩:=Hc2.out (by omega);obtain ⟨x,hx⟩:∃ x:Value,Hid (us[k]'hkl=x):=⟨_,ι rfl⟩;obtain ⟨y,hy⟩:∃ y:Value,Hid (vs[k]'hkl2=y):=⟨_,ι rfl⟩;have CX:=ι (CL.mk (show w.cell? ⟨b,o+k,none⟩=some x by rw [← hx.out]; exact hc k hkl) hb);have CY:=ι (CL.mk (show w.cell? ⟨b2,o2+k,none⟩=some y by rw [← hy.out]; exact hc2 k hkl2) hb2);have hask:=HP.out k hkl hkl2 wr K.out;rw [show us[k]=x from hx.out,show vs[k]=y from hy.out] at hask;have HK:=ι hask;clear hc hc2 hask hb hb2
    cases hpk:p k with
    | true =>
     have HPK:=ι hpk;rw [hpk] at HK;have HA2:=ι (rangeAll_next HA.out hpk);clear hpk;go_upto_region 5 with (fail);refine Rg.wl ?_;refine Rg.lm 19 (.int .i64 ((k:Nat):Int)) ?_;go_frame;refine Rg.lr 20 (exec_indexS slIntss _ _ rfl b (o) (us.length) cap (k) rfl rfl HKL.out) ?_;go_frame;refine Rg.lr 21 (Rg.lo (x) ⟨b,o+k,none⟩ (Rg.run_loadSl _ _ Tryz.underlying25 ((Below.cell (p:=⟨b,o+k,none⟩) K.out CX.out.lt).trans CX.out.cell))) ?_;go_frame;refine Rg.la 7 (.int .i64 ((k:Nat):Int)) ?_;go_frame;refine Rg.la 8 (x) ?_;go_frame;go_upto_region 6 with (fail);refine Rg.wl ?_;refine Rg.lm 22 (.slice (some ⟨b2,o2,none⟩) vs.length cap2) ?_;go_frame;refine Rg.lm 23 (.int .i64 ((k:Nat):Int)) ?_;go_frame;refine Rg.lr 24 (exec_indexS slIntss _ _ rfl b2 (o2) (vs.length) cap2 (k) rfl rfl HKL2.out) ?_;go_frame;refine Rg.lr 25 (Rg.lo (y) ⟨b2,o2+k,none⟩ (Rg.run_loadSl _ _ Tryz.underlying25 ((Below.cell (p:=⟨b2,o2+k,none⟩) K.out CY.out.lt).trans CY.out.cell))) ?_;go_frame
     refine Rg.la 9 (y) ?_;go_frame;go_upto_region 7 with (fail);refine Rg.wl ?_;refine Rg.lm 26 (.func (.func F) #[] #[]) ?_;go_frame;refine Rg.lm 27 (x) ?_;go_frame;refine Rg.lm 28 (y) ?_;go_frame;refine Rg.lk 29 (exec_fnv2 F _ _ _ _ rfl rfl rfl rfl (hF _ _)) ?_;refine (HK.out).mono ?_;rintro e1 w11 ⟨rfl,hb⟩;refine ⟨_,rfl,?_⟩;go_frame;replace K:=ι (Rg.acc K.out hb);clear hb;refine Rg.lr 30 (exec_not _ _ true rfl rfl) ?_;go_frame;go_wp2
     go_roundw
     case rel=>exact ⟨k+1,by go_num,HKL.out,HA2,K⟩
     case measure=>simp [intOf]; have:=HKL.out; omega
    | false =>
     rw [hpk] at HK;have HR:=ι (eqAll_no hkl hpk);clear hpk;go_upto_region 5 with (fail);refine Rg.wl ?_;refine Rg.lm 19 (.int .i64 ((k:Nat):Int)) ?_;go_frame;refine Rg.lr 20 (exec_indexS slIntss _ _ rfl b (o) (us.length) cap (k) rfl rfl HKL.out) ?_;go_frame;refine Rg.lr 21 (Rg.lo (x) ⟨b,o+k,none⟩ (Rg.run_loadSl _ _ Tryz.underlying25 ((Below.cell (p:=⟨b,o+k,none⟩) K.out CX.out.lt).trans CX.out.cell))) ?_;go_frame;refine Rg.la 7 (.int .i64 ((k:Nat):Int)) ?_;go_frame;refine Rg.la 8 (x) ?_;go_frame;go_upto_region 6 with (fail);refine Rg.wl ?_;refine Rg.lm 22 (.slice (some ⟨b2,o2,none⟩) vs.length cap2) ?_;go_frame;refine Rg.lm 23 (.int .i64 ((k:Nat):Int)) ?_;go_frame;refine Rg.lr 24 (exec_indexS slIntss _ _ rfl b2 (o2) (vs.length) cap2 (k) rfl rfl HKL2.out) ?_;go_frame;refine Rg.lr 25 (Rg.lo (y) ⟨b2,o2+k,none⟩ (Rg.run_loadSl _ _ Tryz.underlying25 ((Below.cell (p:=⟨b2,o2+k,none⟩) K.out CY.out.lt).trans CY.out.cell))) ?_;go_frame
     refine Rg.la 9 (y) ?_;go_frame;go_upto_region 7 with (fail);refine Rg.wl ?_;refine Rg.lm 26 (.func (.func F) #[] #[]) ?_;go_frame;refine Rg.lm 27 (x) ?_;go_frame;refine Rg.lm 28 (y) ?_;go_frame;refine Rg.lk 29 (exec_fnv2 F _ _ _ _ rfl rfl rfl rfl (hF _ _)) ?_;refine (HK.out).mono ?_;rintro e1 w11 ⟨rfl,hb⟩;refine ⟨_,rfl,?_⟩;go_frame;replace K:=ι (Rg.acc K.out hb);clear hb;refine Rg.lr 30 (exec_not _ _ false rfl rfl) ?_;go_frame;go_wp2;go_ret;exact ⟨by rw [← HNE.out,HR.out]; rfl,K.out⟩
   ·obtain rfl:k=us.length:=by omega
    have hkN:¬ (us.length:Int)<(us.length:Int):=by omega
    have HR:=ι (eqAll_all HA.out);go_wp2;go_ret;exact ⟨by rw [← HNE.out,HR.out]; rfl,K.out⟩
 ·have hneN:¬ (us.length:Int)=(vs.length:Int):=by omega
  have HR:=ι (eqAll_len (p:=p) hne);go_upto_region 1 with (fail);refine Rg.wl ?_;refine Rg.lm 10 (.slice ad us.length cap) ?_;go_frame;refine Rg.lr 11 (Rg.ln Tryz.underlying84) ?_;go_frame;refine Rg.lm 12 (.slice ad2 vs.length cap2) ?_;go_frame;refine Rg.lr 13 (Rg.ln Tryz.underlying84) ?_;go_frame;refine Rg.lr 14 (Rg.bn (.bool true) .neq (h:=b_neqB _ Rg.dT)) ?_;go_frame;go_wp2;go_ret;exact ⟨by rw [HR.out]; rfl,K.out⟩
theorem eqFuncR_any {va vb:Value} {us:List Value} (h1:Rg.Vals w va us) (h2:Rg.Vals w vb vs) (F:FuncId) (hF:∀ args W,(callFunc F args).run Tryz.prog W=.ok (.enter F args) W) {p:Nat→Bool} (hp:EqAsk F w us vs p) :
  Calls Tryz.prog 150 #[va,vb,.func (.func F) #[] #[]] w fun e w'=>e=.returned (.bool (eqAll us.length vs.length p))∧Below w.heap.size w w':=by
 obtain ⟨ad,cap,rfl,_,_,hlm,hcell⟩:=h1;obtain ⟨ad2,cap2,rfl,_,_,hlm2,hcell2⟩:=h2;unfold Rg.big at hlm hlm2;have Hc:=ι hcell;have Hc2:=ι hcell2;have HP:=ι hp;have K:=ι (Below.refl w.heap.size w);clear hcell hcell2 hp
 go_enter Tryz.func150,Tryz.ntmps150
 by_cases hne:us.length=vs.length
 ·have hneN:(us.length:Int)=(vs.length:Int):=by omega
  have HNE:=ι hne;go_upto_region 1 with (fail);refine Rg.wl ?_;refine Rg.lm 10 (.slice ad us.length cap) ?_;go_frame;refine Rg.lr 11 (Rg.ln Tryz.underlying85) ?_;go_frame;refine Rg.lm 12 (.slice ad2 vs.length cap2) ?_;go_frame;refine Rg.lr 13 (Rg.ln Tryz.underlying85) ?_;go_frame;refine Rg.lr 14 (Rg.bn (.bool false) .neq (h:=b_neqB _ Rg.dF)) ?_;go_frame;have HA:=ι (show (List.range 0).all p=true from rfl);go_wp2
  go_loopw [17] (fun kv wr=>∃ k:Nat,kv=.int .i64 k∧k≤us.length∧Hid ((List.range k).all p=true)∧Hid (Below w.heap.size w wr)) (fun kv _=>us.length - (intOf kv).toNat)
  case atStart=>exact ⟨0,rfl,Nat.zero_le _,HA,K⟩
  case round =>
   clear HA K;obtain ⟨k,rfl,hk,HA,K⟩:=hrel
   by_cases hkl:k<us.length
   ·have hkN:(k:Int)<(us.length:Int):=by omega
    have hkl2:k<vs.length:=by omega
    have HKL:=ι hkl;have HKL2:=ι hkl2;obtain ⟨b,o,rfl,hb,hc⟩:=Hc.out (by omega);obtain ⟨b2,o2,rfl,hb2,hc2⟩:=Hc2.out (by omega);obtain ⟨x,hx⟩:∃ x:Value,Hid (us[k]'hkl=x):=⟨_,ι rfl⟩;obtain ⟨y,hy⟩:∃ y:Value,Hid (vs[k]'hkl2=y):=⟨_,ι rfl⟩;have CX:=ι (CL.mk (show w.cell? ⟨b,o+k,none⟩=some x by rw [← hx.out]; exact hc k hkl) hb);have CY:=ι (CL.mk (show w.cell? ⟨b2,o2+k,none⟩=some y by rw [← hy.out]; exact hc2 k hkl2) hb2);have hask:=HP.out k hkl hkl2 wr K.out;rw [show us[k]=x from hx.out,show vs[k]=y from hy.out] at hask;have HK:=ι hask;clear hc hc2 hask hb hb2
    cases hpk:p k with
    | true =>
     have HPK:=ι hpk;rw [hpk] at HK;have HA2:=ι (rangeAll_next HA.out hpk);clear hpk;go_upto_region 5 with (fail);refine Rg.wl ?_;refine Rg.lm 19 (.int .i64 ((k:Nat):Int)) ?_;go_frame;refine Rg.lr 20 (exec_indexS slPermss _ _ rfl b (o) (us.length) cap (k) rfl rfl HKL.out) ?_;go_frame;refine Rg.lr 21 (Rg.lo (x) ⟨b,o+k,none⟩ (Rg.run_loadSl _ _ Tryz.underlying22 ((Below.cell (p:=⟨b,o+k,none⟩) K.out CX.out.lt).trans CX.out.cell))) ?_;go_frame;refine Rg.la 7 (.int .i64 ((k:Nat):Int)) ?_;go_frame;refine Rg.la 8 (x) ?_;go_frame;go_upto_region 6 with (fail);refine Rg.wl ?_;refine Rg.lm 22 (.slice (some ⟨b2,o2,none⟩) vs.length cap2) ?_;go_frame;refine Rg.lm 23 (.int .i64 ((k:Nat):Int)) ?_;go_frame;refine Rg.lr 24 (exec_indexS slPermss _ _ rfl b2 (o2) (vs.length) cap2 (k) rfl rfl HKL2.out) ?_;go_frame;refine Rg.lr 25 (Rg.lo (y) ⟨b2,o2+k,none⟩ (Rg.run_loadSl _ _ Tryz.underlying22 ((Below.cell (p:=⟨b2,o2+k,none⟩) K.out CY.out.lt).trans CY.out.cell))) ?_;go_frame
     refine Rg.la 9 (y) ?_;go_frame;go_upto_region 7 with (fail);refine Rg.wl ?_;refine Rg.lm 26 (.func (.func F) #[] #[]) ?_;go_frame;refine Rg.lm 27 (x) ?_;go_frame;refine Rg.lm 28 (y) ?_;go_frame;refine Rg.lk 29 (exec_fnv2 F _ _ _ _ rfl rfl rfl rfl (hF _ _)) ?_;refine (HK.out).mono ?_;rintro e1 w11 ⟨rfl,hb⟩;refine ⟨_,rfl,?_⟩;go_frame;replace K:=ι (Rg.acc K.out hb);clear hb;refine Rg.lr 30 (exec_not _ _ true rfl rfl) ?_;go_frame;go_wp2
     go_roundw
     case rel=>exact ⟨k+1,by go_num,HKL.out,HA2,K⟩
     case measure=>simp [intOf]; have:=HKL.out; omega
    | false =>
     rw [hpk] at HK;have HR:=ι (eqAll_no hkl hpk);clear hpk;go_upto_region 5 with (fail);refine Rg.wl ?_;refine Rg.lm 19 (.int .i64 ((k:Nat):Int)) ?_;go_frame;refine Rg.lr 20 (exec_indexS slPermss _ _ rfl b (o) (us.length) cap (k) rfl rfl HKL.out) ?_;go_frame;refine Rg.lr 21 (Rg.lo (x) ⟨b,o+k,none⟩ (Rg.run_loadSl _ _ Tryz.underlying22 ((Below.cell (p:=⟨b,o+k,none⟩) K.out CX.out.lt).trans CX.out.cell))) ?_;go_frame;refine Rg.la 7 (.int .i64 ((k:Nat):Int)) ?_;go_frame;refine Rg.la 8 (x) ?_;go_frame;go_upto_region 6 with (fail);refine Rg.wl ?_;refine Rg.lm 22 (.slice (some ⟨b2,o2,none⟩) vs.length cap2) ?_;go_frame;refine Rg.lm 23 (.int .i64 ((k:Nat):Int)) ?_;go_frame;refine Rg.lr 24 (exec_indexS slPermss _ _ rfl b2 (o2) (vs.length) cap2 (k) rfl rfl HKL2.out) ?_;go_frame;refine Rg.lr 25 (Rg.lo (y) ⟨b2,o2+k,none⟩ (Rg.run_loadSl _ _ Tryz.underlying22 ((Below.cell (p:=⟨b2,o2+k,none⟩) K.out CY.out.lt).trans CY.out.cell))) ?_;go_frame
     refine Rg.la 9 (y) ?_;go_frame;go_upto_region 7 with (fail);refine Rg.wl ?_;refine Rg.lm 26 (.func (.func F) #[] #[]) ?_;go_frame;refine Rg.lm 27 (x) ?_;go_frame;refine Rg.lm 28 (y) ?_;go_frame;refine Rg.lk 29 (exec_fnv2 F _ _ _ _ rfl rfl rfl rfl (hF _ _)) ?_;refine (HK.out).mono ?_;rintro e1 w11 ⟨rfl,hb⟩;refine ⟨_,rfl,?_⟩;go_frame;replace K:=ι (Rg.acc K.out hb);clear hb;refine Rg.lr 30 (exec_not _ _ false rfl rfl) ?_;go_frame;go_wp2;go_ret;exact ⟨by rw [← HNE.out,HR.out]; rfl,K.out⟩
   ·obtain rfl:k=us.length:=by omega
    have hkN:¬ (us.length:Int)<(us.length:Int):=by omega
    have HR:=ι (eqAll_all HA.out);go_wp2;go_ret;exact ⟨by rw [← HNE.out,HR.out]; rfl,K.out⟩
 ·have hneN:¬ (us.length:Int)=(vs.length:Int):=by omega
  have HR:=ι (eqAll_len (p:=p) hne);go_upto_region 1 with (fail);refine Rg.wl ?_;refine Rg.lm 10 (.slice ad us.length cap) ?_;go_frame;refine Rg.lr 11 (Rg.ln Tryz.underlying85) ?_;go_frame;refine Rg.lm 12 (.slice ad2 vs.length cap2) ?_;go_frame;refine Rg.lr 13 (Rg.ln Tryz.underlying85) ?_;go_frame;refine Rg.lr 14 (Rg.bn (.bool true) .neq (h:=b_neqB _ Rg.dT)) ?_;go_frame;go_wp2;go_ret;exact ⟨by rw [HR.out]; rfl,K.out⟩
theorem eqFuncP_any {va vb:Value} {us:List Value} (h1:Rg.Vals w va us) (h2:Rg.Vals w vb vs) (F:FuncId) (hF:∀ args W,(callFunc F args).run Tryz.prog W=.ok (.enter F args) W) {p:Nat→Bool} (hp:EqAsk F w us vs p) :
  Calls Tryz.prog 152 #[va,vb,.func (.func F) #[] #[]] w fun e w'=>e=.returned (.bool (eqAll us.length vs.length p))∧Below w.heap.size w w':=by
 obtain ⟨ad,cap,rfl,_,_,hlm,hcell⟩:=h1;obtain ⟨ad2,cap2,rfl,_,_,hlm2,hcell2⟩:=h2;unfold Rg.big at hlm hlm2;have Hc:=ι hcell;have Hc2:=ι hcell2;have HP:=ι hp;have K:=ι (Below.refl w.heap.size w);clear hcell hcell2 hp
 go_enter Tryz.func152,Tryz.ntmps152
 by_cases hne:us.length=vs.length
 ·have hneN:(us.length:Int)=(vs.length:Int):=by omega
  have HNE:=ι hne;go_upto_region 1 with (fail);refine Rg.wl ?_;refine Rg.lm 10 (.slice ad us.length cap) ?_;go_frame;refine Rg.lr 11 (Rg.ln Tryz.underlying22) ?_;go_frame;refine Rg.lm 12 (.slice ad2 vs.length cap2) ?_;go_frame;refine Rg.lr 13 (Rg.ln Tryz.underlying22) ?_;go_frame;refine Rg.lr 14 (Rg.bn (.bool false) .neq (h:=b_neqB _ Rg.dF)) ?_;go_frame;have HA:=ι (show (List.range 0).all p=true from rfl);go_wp2
  go_loopw [17] (fun kv wr=>∃ k:Nat,kv=.int .i64 k∧k≤us.length∧Hid ((List.range k).all p=true)∧Hid (Below w.heap.size w wr)) (fun kv _=>us.length - (intOf kv).toNat)
  case atStart=>exact ⟨0,rfl,Nat.zero_le _,HA,K⟩
  case round =>
   clear HA K;obtain ⟨k,rfl,hk,HA,K⟩:=hrel
   by_cases hkl:k<us.length
   ·have hkN:(k:Int)<(us.length:Int):=by omega
    have hkl2:k<vs.length:=by omega
    have HKL:=ι hkl;have HKL2:=ι hkl2;obtain ⟨b,o,rfl,hb,hc⟩:=Hc.out (by omega);obtain ⟨b2,o2,rfl,hb2,hc2⟩:=Hc2.out (by omega);obtain ⟨x,hx⟩:∃ x:Value,Hid (us[k]'hkl=x):=⟨_,ι rfl⟩;obtain ⟨y,hy⟩:∃ y:Value,Hid (vs[k]'hkl2=y):=⟨_,ι rfl⟩;have CX:=ι (CL.mk (show w.cell? ⟨b,o+k,none⟩=some x by rw [← hx.out]; exact hc k hkl) hb);have CY:=ι (CL.mk (show w.cell? ⟨b2,o2+k,none⟩=some y by rw [← hy.out]; exact hc2 k hkl2) hb2);have hask:=HP.out k hkl hkl2 wr K.out;rw [show us[k]=x from hx.out,show vs[k]=y from hy.out] at hask;have HK:=ι hask;clear hc hc2 hask hb hb2
    cases hpk:p k with
    | true =>
     have HPK:=ι hpk;rw [hpk] at HK;have HA2:=ι (rangeAll_next HA.out hpk);clear hpk;go_upto_region 5 with (fail);refine Rg.wl ?_;refine Rg.lm 19 (.int .i64 ((k:Nat):Int)) ?_;go_frame;refine Rg.lr 20 (exec_indexS slPerms _ _ rfl b (o) (us.length) cap (k) rfl rfl HKL.out) ?_;go_frame;refine Rg.lr 21 (Rg.lo (x) ⟨b,o+k,none⟩ (Rg.run_loadSl _ _ Tryz.underlying30 ((Below.cell (p:=⟨b,o+k,none⟩) K.out CX.out.lt).trans CX.out.cell))) ?_;go_frame;refine Rg.la 7 (.int .i64 ((k:Nat):Int)) ?_;go_frame;refine Rg.la 8 (x) ?_;go_frame;go_upto_region 6 with (fail);refine Rg.wl ?_;refine Rg.lm 22 (.slice (some ⟨b2,o2,none⟩) vs.length cap2) ?_;go_frame;refine Rg.lm 23 (.int .i64 ((k:Nat):Int)) ?_;go_frame;refine Rg.lr 24 (exec_indexS slPerms _ _ rfl b2 (o2) (vs.length) cap2 (k) rfl rfl HKL2.out) ?_;go_frame;refine Rg.lr 25 (Rg.lo (y) ⟨b2,o2+k,none⟩ (Rg.run_loadSl _ _ Tryz.underlying30 ((Below.cell (p:=⟨b2,o2+k,none⟩) K.out CY.out.lt).trans CY.out.cell))) ?_;go_frame
     refine Rg.la 9 (y) ?_;go_frame;go_upto_region 7 with (fail);refine Rg.wl ?_;refine Rg.lm 26 (.func (.func F) #[] #[]) ?_;go_frame;refine Rg.lm 27 (x) ?_;go_frame;refine Rg.lm 28 (y) ?_;go_frame;refine Rg.lk 29 (exec_fnv2 F _ _ _ _ rfl rfl rfl rfl (hF _ _)) ?_;refine (HK.out).mono ?_;rintro e1 w11 ⟨rfl,hb⟩;refine ⟨_,rfl,?_⟩;go_frame;replace K:=ι (Rg.acc K.out hb);clear hb;refine Rg.lr 30 (exec_not _ _ true rfl rfl) ?_;go_frame;go_wp2
     go_roundw
     case rel=>exact ⟨k+1,by go_num,HKL.out,HA2,K⟩
     case measure=>simp [intOf]; have:=HKL.out; omega
    | false =>
     rw [hpk] at HK;have HR:=ι (eqAll_no hkl hpk);clear hpk;go_upto_region 5 with (fail);refine Rg.wl ?_;refine Rg.lm 19 (.int .i64 ((k:Nat):Int)) ?_;go_frame;refine Rg.lr 20 (exec_indexS slPerms _ _ rfl b (o) (us.length) cap (k) rfl rfl HKL.out) ?_;go_frame;refine Rg.lr 21 (Rg.lo (x) ⟨b,o+k,none⟩ (Rg.run_loadSl _ _ Tryz.underlying30 ((Below.cell (p:=⟨b,o+k,none⟩) K.out CX.out.lt).trans CX.out.cell))) ?_;go_frame;refine Rg.la 7 (.int .i64 ((k:Nat):Int)) ?_;go_frame;refine Rg.la 8 (x) ?_;go_frame;go_upto_region 6 with (fail);refine Rg.wl ?_;refine Rg.lm 22 (.slice (some ⟨b2,o2,none⟩) vs.length cap2) ?_;go_frame;refine Rg.lm 23 (.int .i64 ((k:Nat):Int)) ?_;go_frame;refine Rg.lr 24 (exec_indexS slPerms _ _ rfl b2 (o2) (vs.length) cap2 (k) rfl rfl HKL2.out) ?_;go_frame;refine Rg.lr 25 (Rg.lo (y) ⟨b2,o2+k,none⟩ (Rg.run_loadSl _ _ Tryz.underlying30 ((Below.cell (p:=⟨b2,o2+k,none⟩) K.out CY.out.lt).trans CY.out.cell))) ?_;go_frame
     refine Rg.la 9 (y) ?_;go_frame;go_upto_region 7 with (fail);refine Rg.wl ?_;refine Rg.lm 26 (.func (.func F) #[] #[]) ?_;go_frame;refine Rg.lm 27 (x) ?_;go_frame;refine Rg.lm 28 (y) ?_;go_frame;refine Rg.lk 29 (exec_fnv2 F _ _ _ _ rfl rfl rfl rfl (hF _ _)) ?_;refine (HK.out).mono ?_;rintro e1 w11 ⟨rfl,hb⟩;refine ⟨_,rfl,?_⟩;go_frame;replace K:=ι (Rg.acc K.out hb);clear hb;refine Rg.lr 30 (exec_not _ _ false rfl rfl) ?_;go_frame;go_wp2;go_ret;exact ⟨by rw [← HNE.out,HR.out]; rfl,K.out⟩
   ·obtain rfl:k=us.length:=by omega
    have hkN:¬ (us.length:Int)<(us.length:Int):=by omega
    have HR:=ι (eqAll_all HA.out);go_wp2;go_ret;exact ⟨by rw [← HNE.out,HR.out]; rfl,K.out⟩
 ·have hneN:¬ (us.length:Int)=(vs.length:Int):=by omega
  have HR:=ι (eqAll_len (p:=p) hne);go_upto_region 1 with (fail);refine Rg.wl ?_;refine Rg.lm 10 (.slice ad us.length cap) ?_;go_frame;refine Rg.lr 11 (Rg.ln Tryz.underlying22) ?_;go_frame;refine Rg.lm 12 (.slice ad2 vs.length cap2) ?_;go_frame;refine Rg.lr 13 (Rg.ln Tryz.underlying22) ?_;go_frame;refine Rg.lr 14 (Rg.bn (.bool true) .neq (h:=b_neqB _ Rg.dT)) ?_;go_frame;go_wp2;go_ret;exact ⟨by rw [HR.out]; rfl,K.out⟩

theorem Wscl0 (args:Array Value) (w:World):(callFunc 154 args).run Tryz.prog w=.ok (.enter 154 args) w:=by kernel_rfl
theorem Wscl1 (args:Array Value) (w:World):(callFunc 152 args).run Tryz.prog w=.ok (.enter 152 args) w:=by kernel_rfl
theorem Wscl2 (args:Array Value) (w:World):(callFunc 148 args).run Tryz.prog w=.ok (.enter 148 args) w:=by kernel_rfl
theorem Wscl3 (args:Array Value) (w:World):(callFunc 150 args).run Tryz.prog w=.ok (.enter 150 args) w:=by kernel_rfl
theorem equalI_any (v1 v2:Value) (l1 l2:List Int) (w:World) (h:Rg.Ints w v1 l1) (h':Rg.Ints w v2 l2)  :
  Calls Tryz.prog 149 #[v1,v2] w fun e w'=>e=.returned (.bool (decide (l1=l2)))∧Below w.heap.size w w':=by
 have hl:l1.length≤1000000000:=by obtain ⟨n,a,c,e,_,e2⟩:=h.len; omega
 obtain ⟨ad,cap,rfl,_,hlm,_,hcell⟩:=h.shape;obtain ⟨ad2,cap2,rfl,_,hlm2,_,hcell2⟩:=h'.shape;have Hc:=ι hcell;have Hc2:=ι hcell2;clear hcell h hcell2 h'
 by_cases hne:l1.length=l2.length
 ·rw [← hne]
  rw [← hne] at hlm2;have HNE:=ι hne;clear hne
  go_enter Tryz.func149,Tryz.ntmps149
  go_wp2
  go_loopw [13] (fun i wr=>∃ k:Nat,k≤l1.length∧i=.int .i64 k∧Hid (l1.take k=l2.take k)∧Hid (Below w.heap.size w wr)) (fun i _=>l1.length - (intOf i).toNat)
  case atStart=>exact ⟨0,by omega,rfl,ι (by simp),ι (Below.refl _ _)⟩
  case round =>
   obtain ⟨k,hk,rfl,hs,hbel⟩:=hrel
   by_cases hlt:k<l1.length
   ·have hlt2:k<l2.length:=by have:=HNE.out; omega
    obtain ⟨b,o,rfl,hb,hc⟩:=Hc.out (by omega);obtain ⟨b2,o2,rfl,hb2,hc2⟩:=Hc2.out (by omega);have c0:=(hbel.out.cell (p:=⟨b,o+k,none⟩) hb).trans (hc k hlt);have c2:=(hbel.out.cell (p:=⟨b2,o2+k,none⟩) hb2).trans (hc2 k hlt2);obtain ⟨x,hx⟩:∃ x,Hid (x=l1[k]):=⟨_,ι rfl⟩;obtain ⟨y,hy⟩:∃ y,Hid (y=l2[k]):=⟨_,ι rfl⟩;rw [← hx.out] at c0;rw [← hy.out] at c2
    have hkl:(k:Int)<(l1.length:Int):=by omega
    clear hc hb hc2 hb2
    by_cases he:x=y
    ·have e1:(x != y)=false:=by simp [he]
     have HE:=ι he;go_upto_region 6 with (fail)
     go_quiet (fail)
     have HB2:=ι (Rg.drewN hbel.out nq);generalize wr.drewN nq=wq at *;go_wp2
     go_roundw
     case rel =>
      refine ⟨k+1,by omega,by go_num,ι ?_,HB2⟩;rw [List.take_succ_eq_append_getElem hlt,List.take_succ_eq_append_getElem hlt2,hs.out,← hx.out,← hy.out,HE.out]
     case measure=>simp [intOf]; omega
    ·have e1:(x != y)=true:=by simp [he]
     have hm:decide (l1=l2)=false:=by
      rw [decide_eq_false_iff_not];intro e;subst e;exact he (hx.out.trans hy.out.symm)
     have HM:=ι hm;clear hm;go_upto_region 6 with (fail)
     go_quiet (fail)
     have HB2:=ι (Rg.drewN hbel.out nq);generalize wr.drewN nq=wq at *;go_wp2;go_ret;exact ⟨by rw [HM.out]; rfl,HB2.out⟩
   ·obtain rfl:k=l1.length:=by omega
    have hm:decide (l1=l2)=true:=by
     rw [decide_eq_true_iff];have:=hs.out
     rwa [List.take_length,HNE.out,List.take_length] at this
    have HM:=ι hm;clear hm;go_wp2;go_ret;exact ⟨by rw [HM.out]; rfl,hbel.out⟩
 ·have hb:((l1.length:Int) != (l2.length:Int))=true:=by rw [bne_iff_ne]; omega
  have hm:decide (l1=l2)=false:=by
   rw [decide_eq_false_iff_not];intro e;subst e;exact hne rfl
  have HM:=ι hm;have HNE:=ι hne;clear hm hne
  go_enter Tryz.func149,Tryz.ntmps149
  go_wp2;go_ret;exact ⟨by rw [HM.out]; rfl,Below.refl _ _⟩
theorem equalP2_any (v1 v2:Value) (l1 l2:List Int) (w:World) (h:Rg.Ints w v1 l1) (h':Rg.Ints w v2 l2)  :
  Calls Tryz.prog 154 #[v1,v2] w fun e w'=>e=.returned (.bool (decide (l1=l2)))∧Below w.heap.size w w':=by
 have hl:l1.length≤1000000000:=by obtain ⟨n,a,c,e,_,e2⟩:=h.len; omega
 obtain ⟨ad,cap,rfl,_,hlm,_,hcell⟩:=h.shape;obtain ⟨ad2,cap2,rfl,_,hlm2,_,hcell2⟩:=h'.shape;have Hc:=ι hcell;have Hc2:=ι hcell2;clear hcell h hcell2 h'
 by_cases hne:l1.length=l2.length
 ·rw [← hne]
  rw [← hne] at hlm2;have HNE:=ι hne;clear hne
  go_enter Tryz.func154,Tryz.ntmps154
  go_wp2
  go_loopw [13] (fun i wr=>∃ k:Nat,k≤l1.length∧i=.int .i64 k∧Hid (l1.take k=l2.take k)∧Hid (Below w.heap.size w wr)) (fun i _=>l1.length - (intOf i).toNat)
  case atStart=>exact ⟨0,by omega,rfl,ι (by simp),ι (Below.refl _ _)⟩
  case round =>
   obtain ⟨k,hk,rfl,hs,hbel⟩:=hrel
   by_cases hlt:k<l1.length
   ·have hlt2:k<l2.length:=by have:=HNE.out; omega
    obtain ⟨b,o,rfl,hb,hc⟩:=Hc.out (by omega);obtain ⟨b2,o2,rfl,hb2,hc2⟩:=Hc2.out (by omega);have c0:=(hbel.out.cell (p:=⟨b,o+k,none⟩) hb).trans (hc k hlt);have c2:=(hbel.out.cell (p:=⟨b2,o2+k,none⟩) hb2).trans (hc2 k hlt2);obtain ⟨x,hx⟩:∃ x,Hid (x=l1[k]):=⟨_,ι rfl⟩;obtain ⟨y,hy⟩:∃ y,Hid (y=l2[k]):=⟨_,ι rfl⟩;rw [← hx.out] at c0;rw [← hy.out] at c2
    have hkl:(k:Int)<(l1.length:Int):=by omega
    clear hc hb hc2 hb2
    by_cases he:x=y
    ·have e1:(x != y)=false:=by simp [he]
     have HE:=ι he;go_upto_region 6 with (fail)
     go_quiet (fail)
     have HB2:=ι (Rg.drewN hbel.out nq);generalize wr.drewN nq=wq at *;go_wp2
     go_roundw
     case rel =>
      refine ⟨k+1,by omega,by go_num,ι ?_,HB2⟩;rw [List.take_succ_eq_append_getElem hlt,List.take_succ_eq_append_getElem hlt2,hs.out,← hx.out,← hy.out,HE.out]
     case measure=>simp [intOf]; omega
    ·have e1:(x != y)=true:=by simp [he]
     have hm:decide (l1=l2)=false:=by
      rw [decide_eq_false_iff_not];intro e;subst e;exact he (hx.out.trans hy.out.symm)
     have HM:=ι hm;clear hm;go_upto_region 6 with (fail)
     go_quiet (fail)
     have HB2:=ι (Rg.drewN hbel.out nq);generalize wr.drewN nq=wq at *;go_wp2;go_ret;exact ⟨by rw [HM.out]; rfl,HB2.out⟩
   ·obtain rfl:k=l1.length:=by omega
    have hm:decide (l1=l2)=true:=by
     rw [decide_eq_true_iff];have:=hs.out
     rwa [List.take_length,HNE.out,List.take_length] at this
    have HM:=ι hm;clear hm;go_wp2;go_ret;exact ⟨by rw [HM.out]; rfl,hbel.out⟩
 ·have hb:((l1.length:Int) != (l2.length:Int))=true:=by rw [bne_iff_ne]; omega
  have hm:decide (l1=l2)=false:=by
   rw [decide_eq_false_iff_not];intro e;subst e;exact hne rfl
  have HM:=ι hm;have HNE:=ι hne;clear hm hne
  go_enter Tryz.func154,Tryz.ntmps154
  go_wp2;go_ret;exact ⟨by rw [HM.out]; rfl,Below.refl _ _⟩
theorem rowsAsk {F:FuncId} {va vb:Value} {A B:List (List Int)} (h1:Rg.Rows w va A) (h2:Rg.Rows w vb B)
  (hF:∀ (v1 v2:Value) (l1 l2:List Int) (W:World),Rg.Ints W v1 l1→Rg.Ints W v2 l2→Calls Tryz.prog F #[v1,v2] W fun e w'=>e=.returned (.bool (decide (l1=l2)))∧Below W.heap.size W w') :
  ∃ us vs,Rg.Vals w va us∧Rg.Vals w vb vs∧us.length=A.length∧vs.length=B.length∧EqAsk F w us vs (fun i=>decide (A.getD i []=B.getD i [])):=by
 obtain ⟨us,a1,a2,a3⟩:=h1;obtain ⟨vs,b1,b2,b3⟩:=h2;refine ⟨us,vs,a1,b1,a2,b2,fun i hi hj W hb=>?_⟩
 have e1:A.getD i []=A[i]'(by omega):=by rw [List.getD_eq_getElem?_getD,List.getElem?_eq_getElem (by omega)]; rfl
 have e2:B.getD i []=B[i]'(by omega):=by rw [List.getD_eq_getElem?_getD,List.getElem?_eq_getElem (by omega)]; rfl
 dsimp only
 rw [e1,e2];exact hF _ _ _ _ W ((a3 i hi (by omega)).below hb) ((b3 i hj (by omega)).below hb)
theorem eqRows {A B:List (List Int)}:eqAll A.length B.length (fun i=>decide (A.getD i []=B.getD i []))=decide (A=B) :=
 eqAll_dec fun i h1 h2=>by
  have e1:A.getD i []=A[i]:=by rw [List.getD_eq_getElem?_getD,List.getElem?_eq_getElem h1]; rfl
  have e2:B.getD i []=B[i]:=by rw [List.getD_eq_getElem?_getD,List.getElem?_eq_getElem h2]; rfl
  rw [e1,e2]
theorem rowsAsk2 {F:FuncId} {va vb:Value} {A B:List (List (List Int))} (h1:Rows2 w va A) (h2:Rows2 w vb B)
  (hF:∀ (v1 v2:Value) (l1 l2:List (List Int)) (W:World),Rg.Rows W v1 l1→Rg.Rows W v2 l2→Calls Tryz.prog F #[v1,v2] W fun e w'=>e=.returned (.bool (decide (l1=l2)))∧Below W.heap.size W w') :
  ∃ us vs,Rg.Vals w va us∧Rg.Vals w vb vs∧us.length=A.length∧vs.length=B.length∧EqAsk F w us vs (fun i=>decide (A.getD i []=B.getD i [])):=by
 obtain ⟨us,a1,a2,a3⟩:=h1;obtain ⟨vs,b1,b2,b3⟩:=h2;refine ⟨us,vs,a1,b1,a2,b2,fun i hi hj W hb=>?_⟩
 have e1:A.getD i []=A[i]'(by omega):=by rw [List.getD_eq_getElem?_getD,List.getElem?_eq_getElem (by omega)]; rfl
 have e2:B.getD i []=B[i]'(by omega):=by rw [List.getD_eq_getElem?_getD,List.getElem?_eq_getElem (by omega)]; rfl
 dsimp only
 rw [e1,e2];exact hF _ _ _ _ W ((a3 i hi (by omega)).below hb) ((b3 i hj (by omega)).below hb)
theorem eqRows2 {A B:List (List (List Int))}:eqAll A.length B.length (fun i=>decide (A.getD i []=B.getD i []))=decide (A=B) :=
 eqAll_dec fun i h1 h2=>by
  have e1:A.getD i []=A[i]:=by rw [List.getD_eq_getElem?_getD,List.getElem?_eq_getElem h1]; rfl
  have e2:B.getD i []=B[i]:=by rw [List.getD_eq_getElem?_getD,List.getElem?_eq_getElem h2]; rfl
  rw [e1,e2]
theorem clEqI (args:Array Value) (w:World):(callFunc 149 args).run Tryz.prog w=.ok (.enter 149 args) w:=by kernel_rfl
theorem clS1 (args:Array Value) (w:World):(callFunc 151 args).run Tryz.prog w=.ok (.enter 151 args) w:=by kernel_rfl
theorem clS11 (args:Array Value) (w:World):(callFunc 153 args).run Tryz.prog w=.ok (.enter 153 args) w:=by kernel_rfl
theorem same11_any (v1 v2:Value) (l1 l2:List Int) (w:World) (h1:Rg.Ints w v1 l1) (h2:Rg.Ints w v2 l2) :
  Calls Tryz.prog 153 #[v1,v2] w fun e w'=>e=.returned (.bool (decide (l1=l2)))∧Below w.heap.size w w':=by
 have H1:=ι h1;have H2:=ι h2;have K:=ι (Below.refl w.heap.size w);clear h1 h2;obtain ⟨b,hb0⟩:∃ b,Hid (decide (l1=l2)=b):=⟨_,ι rfl⟩
 go_enter Tryz.func153,Tryz.ntmps153
 go_upto_region 1 with (fail);refine Rg.wl ?_;refine Rg.lm 5 (v1) ?_;go_frame;refine Rg.lm 6 (v2) ?_;go_frame;refine Rg.lk 7 (exec_fn 154 _ _ _ rfl rfl rfl (Wscl0 _ _)) ?_;refine (show Calls _ _ _ _ (fun e w'=>e=.returned (.bool b)∧Below w.heap.size w w') by rw [← hb0.out]; exact equalP2_any _ _ _ _ w H1.out H2.out).mono ?_;rintro e1 w1 ⟨rfl,hb⟩;refine ⟨_,rfl,?_⟩;go_frame;replace H1:=ι (H1.out.below hb);replace H2:=ι (H2.out.below hb);replace K:=ι (Rg.acc K.out hb);clear hb;refine Rg.la 4 (.bool b) ?_;go_frame;go_wp2;go_ret;exact ⟨by rw [hb0.out]; rfl,K.out⟩
theorem same1_any (v1 v2:Value) (l1 l2:List (List Int)) (w:World) (h1:Rg.Rows w v1 l1) (h2:Rg.Rows w v2 l2) :
  Calls Tryz.prog 151 #[v1,v2] w fun e w'=>e=.returned (.bool (decide (l1=l2)))∧Below w.heap.size w w':=by
 obtain ⟨us,vs,hu,hv,e1,e2,hask⟩:=rowsAsk h1 h2 (F:=153) same11_any;have HC:=ι (eqFuncP_any hu hv _ clS11 hask);rw [e1,e2,eqRows] at HC;have K:=ι (Below.refl w.heap.size w);clear h1 h2 hu hv e1 e2 hask;obtain ⟨b,hb0⟩:∃ b,Hid (decide (l1=l2)=b):=⟨_,ι rfl⟩;rw [hb0.out] at HC ⊢
 go_enter Tryz.func151,Tryz.ntmps151
 go_upto_region 1 with (fail);refine Rg.wl ?_;refine Rg.lm 5 (v1) ?_;go_frame;refine Rg.lm 6 (v2) ?_;go_frame;refine Rg.lk 7 (exec_fn3 152 _ _ _ _ rfl rfl rfl rfl (Wscl1 _ _)) ?_;refine (HC.out).mono ?_;rintro e1 w1 ⟨rfl,hb⟩;refine ⟨_,rfl,?_⟩;go_frame;replace K:=ι (Rg.acc K.out hb);clear hb;refine Rg.la 4 (.bool b) ?_;go_frame;go_wp2;go_ret;exact ⟨rfl,K.out⟩
theorem sameRowsI_any (v1 v2:Value) (A B:List (List Int)) (w:World) (h1:Rg.Rows w v1 A) (h2:Rg.Rows w v2 B) {b:Bool} (hb:Hid (decide (A=B)=b)) :
  Calls Tryz.prog 148 #[v1,v2,.func (.func 149) #[] #[]] w fun e w'=>e=.returned (.bool b)∧Below w.heap.size w w':=by
 obtain ⟨us,vs,hu,hv,e1,e2,hask⟩:=rowsAsk h1 h2 (F:=149) equalI_any;have HC:=eqFuncI_any hu hv _ clEqI hask;rw [e1,e2,eqRows,hb.out] at HC;exact HC
theorem sameRowsR_any (v1 v2:Value) (A B:List (List (List Int))) (w:World) (h1:Rows2 w v1 A) (h2:Rows2 w v2 B) {b:Bool} (hb:Hid (decide (A=B)=b)) :
  Calls Tryz.prog 150 #[v1,v2,.func (.func 151) #[] #[]] w fun e w'=>e=.returned (.bool b)∧Below w.heap.size w w':=by
 obtain ⟨us,vs,hu,hv,e1,e2,hask⟩:=rowsAsk2 h1 h2 (F:=151) same1_any;have HC:=eqFuncR_any hu hv _ clS1 hask;rw [e1,e2,eqRows2,hb.out] at HC;exact HC
theorem box3 (w:World) (x y z:Value):CL (w.alloc (.cells #[x,y,z] 87)) w.heap.size 0 x∧CL (w.alloc (.cells #[x,y,z] 87)) w.heap.size 1 y∧CL (w.alloc (.cells #[x,y,z] 87)) w.heap.size 2 z :=
 ⟨⟨by rw [Rg.cellNew]; rfl,by simp⟩,⟨by rw [Rg.cellNew]; rfl,by simp⟩,⟨by rw [Rg.cellNew]; rfl,by simp⟩⟩
def ChEqR (w:World) (ov rv:Value) (OO:List (List Int)) (RR:List (List (List Int))):Prop:=Rg.Rows w ov OO∧Rows2 w rv RR
theorem ChEqR.below {w w':World} {ov rv:Value} {OO:List (List Int)} {RR:List (List (List Int))} (h:ChEqR w ov rv OO RR) (hb:Below w.heap.size w w'):ChEqR w' ov rv OO RR:=⟨h.1.below hb,h.2.below hb⟩
theorem chSame_any {n m:Int} {ov' rv':Value} {OO':List (List Int)} {RR':List (List (List Int))} (h1:ChEqR w ov rv OO RR) (h2:ChEqR w ov' rv' OO' RR') :
  Calls Tryz.prog 127 #[.agg #[.int .i64 n,ov,rv],.agg #[.int .i64 m,ov',rv']] w fun e w'=>e=.returned (.bool (decide (n=m∧OO=OO'∧RR=RR')))∧Below w.heap.size w w':=by
 have H1:=ι h1;have H2:=ι h2;have K:=ι (Below.refl w.heap.size w);clear h1 h2
 go_enter Tryz.func127,Tryz.ntmps127
 go_upto_region 0 with (fail);refine Rg.wl ?_;have hbx:=box3 w (.int .i64 n) ov rv;refine Rg.lr 2 (Rg.exec_box _ _ rfl rfl) ?_;go_frame;have hb:Below w.heap.size w (w.alloc (.cells #[.int .i64 n,ov,rv] 87)):=(Below.refl _ _).alloc (Nat.le_refl _) _;generalize w.alloc (.cells #[.int .i64 n,ov,rv] 87)=w1 at *;replace H1:=ι (H1.out.below hb);replace H2:=ι (H2.out.below hb);replace K:=ι (Rg.acc K.out hb);clear hb;have A0:=ι hbx.1;have A1:=ι hbx.2.1;have A2:=ι hbx.2.2;clear hbx;have hbx:=box3 w1 (.int .i64 m) ov' rv';refine Rg.lr 3 (Rg.exec_box _ _ rfl rfl) ?_;go_frame;have hb:Below w1.heap.size w1 (w1.alloc (.cells #[.int .i64 m,ov',rv'] 87)):=(Below.refl _ _).alloc (Nat.le_refl _) _;generalize w1.alloc (.cells #[.int .i64 m,ov',rv'] 87)=w2 at *;replace H1:=ι (H1.out.below hb);replace H2:=ι (H2.out.below hb);replace A0:=ι (A0.out.below hb);replace A1:=ι (A1.out.below hb)
 replace A2:=ι (A2.out.below hb);replace K:=ι (Rg.acc K.out hb);clear hb;have B0:=ι hbx.1;have B1:=ι hbx.2.1;have B2:=ι hbx.2.2;clear hbx;refine Rg.la 4 (.bool false) ?_;go_frame
 by_cases hnm:n=m
 ·obtain ⟨b1,hb1⟩:∃ b,Hid (decide (OO=OO')=b):=⟨_,ι rfl⟩
  obtain ⟨b2,hb2⟩:∃ b,Hid (decide (RR=RR')=b):=⟨_,ι rfl⟩;have HE:=ι (show decide (n=m∧OO=OO'∧RR=RR')=(b1 && b2) by rw [← hb1.out,← hb2.out]; simp [hnm])
  cases b1 with
  | true =>
   go_upto_region 1 with (fail);refine Rg.wl ?_;refine Rg.lr 5 (exec_field _ rfl rfl (chF0 _ _)) ?_;go_frame;refine Rg.lr 6 (Rg.lo (.int .i64 n) ⟨w.heap.size,0,none⟩ (run_loadInt A0.out.cell)) ?_;go_frame;refine Rg.lr 7 (exec_field _ rfl rfl (chF0 _ _)) ?_;go_frame;refine Rg.lr 8 (Rg.lo (.int .i64 m) ⟨w1.heap.size,0,none⟩ (run_loadInt B0.out.cell)) ?_;go_frame;refine Rg.lr 9 (Rg.bn (.bool true) .eql (h:=b_eql _ (decide_eq_true hnm))) ?_;go_frame;refine Rg.lm 10 (.bool true) ?_;go_frame;refine Rg.lW 11 (exec_field _ rfl rfl (chF1 _ _)) ?_;go_frame;refine Rg.lW 12 (Rg.lo (ov) ⟨w.heap.size,1,none⟩ (Rg.run_loadSl _ _ Tryz.underlying84 A1.out.cell)) ?_;go_frame;refine Rg.lW 13 (exec_field _ rfl rfl (chF1 _ _)) ?_;go_frame;refine Rg.lW 14 (Rg.lo (ov') ⟨w1.heap.size,1,none⟩ (Rg.run_loadSl _ _ Tryz.underlying84 B1.out.cell)) ?_;go_frame;refine listW_ask (some 15) rfl rfl _ _ (exec_fn3 148 _ _ _ _ rfl rfl rfl rfl (Wscl2 _ _)) ?_
   refine (sameRowsI_any _ _ _ _ w2 H1.out.1 H2.out.1 hb1).mono ?_;rintro e1 w3 ⟨rfl,hb⟩;refine ⟨_,rfl,?_⟩;go_frame;replace H1:=ι (H1.out.below hb);replace H2:=ι (H2.out.below hb);replace A0:=ι (A0.out.below hb);replace A1:=ι (A1.out.below hb);replace A2:=ι (A2.out.below hb);replace B0:=ι (B0.out.below hb);replace B1:=ι (B1.out.below hb);replace B2:=ι (B2.out.below hb);replace K:=ι (Rg.acc K.out hb);clear hb;refine Rg.lr 16 (Rg.pT (.bool true)) ?_;go_frame;refine Rg.lm 17 (.bool true) ?_;go_frame;refine Rg.lW 18 (exec_field _ rfl rfl (chF2 _ _)) ?_;go_frame;refine Rg.lW 19 (Rg.lo (rv) ⟨w.heap.size,2,none⟩ (Rg.run_loadSl _ _ Tryz.underlying85 A2.out.cell)) ?_;go_frame;refine Rg.lW 20 (exec_field _ rfl rfl (chF2 _ _)) ?_;go_frame;refine Rg.lW 21 (Rg.lo (rv') ⟨w1.heap.size,2,none⟩ (Rg.run_loadSl _ _ Tryz.underlying85 B2.out.cell)) ?_;go_frame;refine listW_ask (some 22) rfl rfl _ _ (exec_fn3 150 _ _ _ _ rfl rfl rfl rfl (Wscl3 _ _)) ?_
   refine (sameRowsR_any _ _ _ _ w3 H1.out.2 H2.out.2 hb2).mono ?_;rintro e1 w4 ⟨rfl,hb⟩;refine ⟨_,rfl,?_⟩;go_frame;replace H1:=ι (H1.out.below hb);replace H2:=ι (H2.out.below hb);replace A0:=ι (A0.out.below hb);replace A1:=ι (A1.out.below hb);replace A2:=ι (A2.out.below hb);replace B0:=ι (B0.out.below hb);replace B1:=ι (B1.out.below hb);replace B2:=ι (B2.out.below hb);replace K:=ι (Rg.acc K.out hb);clear hb;refine Rg.lr 23 (Rg.pT (.bool b2)) ?_;go_frame;refine Rg.la 4 (.bool b2) ?_;go_frame;go_wp2;go_ret;exact ⟨by rw [HE.out]; rfl,K.out⟩
  | false =>
   go_upto_region 1 with (fail);refine Rg.wl ?_;refine Rg.lr 5 (exec_field _ rfl rfl (chF0 _ _)) ?_;go_frame;refine Rg.lr 6 (Rg.lo (.int .i64 n) ⟨w.heap.size,0,none⟩ (run_loadInt A0.out.cell)) ?_;go_frame;refine Rg.lr 7 (exec_field _ rfl rfl (chF0 _ _)) ?_;go_frame;refine Rg.lr 8 (Rg.lo (.int .i64 m) ⟨w1.heap.size,0,none⟩ (run_loadInt B0.out.cell)) ?_;go_frame;refine Rg.lr 9 (Rg.bn (.bool true) .eql (h:=b_eql _ (decide_eq_true hnm))) ?_;go_frame;refine Rg.lm 10 (.bool true) ?_;go_frame;refine Rg.lW 11 (exec_field _ rfl rfl (chF1 _ _)) ?_;go_frame;refine Rg.lW 12 (Rg.lo (ov) ⟨w.heap.size,1,none⟩ (Rg.run_loadSl _ _ Tryz.underlying84 A1.out.cell)) ?_;go_frame;refine Rg.lW 13 (exec_field _ rfl rfl (chF1 _ _)) ?_;go_frame;refine Rg.lW 14 (Rg.lo (ov') ⟨w1.heap.size,1,none⟩ (Rg.run_loadSl _ _ Tryz.underlying84 B1.out.cell)) ?_;go_frame;refine listW_ask (some 15) rfl rfl _ _ (exec_fn3 148 _ _ _ _ rfl rfl rfl rfl (Wscl2 _ _)) ?_
   refine (sameRowsI_any _ _ _ _ w2 H1.out.1 H2.out.1 hb1).mono ?_;rintro e1 w3 ⟨rfl,hb⟩;refine ⟨_,rfl,?_⟩;go_frame;replace H1:=ι (H1.out.below hb);replace H2:=ι (H2.out.below hb);replace A0:=ι (A0.out.below hb);replace A1:=ι (A1.out.below hb);replace A2:=ι (A2.out.below hb);replace B0:=ι (B0.out.below hb);replace B1:=ι (B1.out.below hb);replace B2:=ι (B2.out.below hb);replace K:=ι (Rg.acc K.out hb);clear hb;refine Rg.lr 16 (Rg.pT (.bool false)) ?_;go_frame;refine Rg.lm 17 (.bool false) ?_;go_frame;refine Rg.lp 18 ?_;go_frame;refine Rg.lp 19 ?_;go_frame;refine Rg.lp 20 ?_;go_frame;refine Rg.lp 21 ?_;go_frame;refine Rg.lp 22 ?_;go_frame;refine Rg.lr 23 (Rg.pF (.bool false)) ?_;go_frame;refine Rg.la 4 (.bool false) ?_;go_frame;go_wp2;go_ret;exact ⟨by rw [HE.out]; rfl,K.out⟩
 ·have HE:=ι (show decide (n=m∧OO=OO'∧RR=RR')=false by simp [hnm])
  go_upto_region 1 with (fail);refine Rg.wl ?_;refine Rg.lr 5 (exec_field _ rfl rfl (chF0 _ _)) ?_;go_frame;refine Rg.lr 6 (Rg.lo (.int .i64 n) ⟨w.heap.size,0,none⟩ (run_loadInt A0.out.cell)) ?_;go_frame;refine Rg.lr 7 (exec_field _ rfl rfl (chF0 _ _)) ?_;go_frame;refine Rg.lr 8 (Rg.lo (.int .i64 m) ⟨w1.heap.size,0,none⟩ (run_loadInt B0.out.cell)) ?_;go_frame;refine Rg.lr 9 (Rg.bn (.bool false) .eql (h:=b_eql _ (decide_eq_false hnm))) ?_;go_frame;refine Rg.lm 10 (.bool false) ?_;go_frame;refine Rg.lp 11 ?_;go_frame;refine Rg.lp 12 ?_;go_frame;refine Rg.lp 13 ?_;go_frame;refine Rg.lp 14 ?_;go_frame;refine Rg.lp 15 ?_;go_frame;refine Rg.lr 16 (Rg.pF (.bool false)) ?_;go_frame;refine Rg.lm 17 (.bool false) ?_;go_frame;refine Rg.lp 18 ?_;go_frame;refine Rg.lp 19 ?_;go_frame;refine Rg.lp 20 ?_;go_frame;refine Rg.lp 21 ?_;go_frame;refine Rg.lp 22 ?_;go_frame;refine Rg.lr 23 (Rg.pF (.bool false)) ?_;go_frame
  refine Rg.la 4 (.bool false) ?_;go_frame;go_wp2;go_ret;exact ⟨by rw [HE.out]; rfl,K.out⟩
end Go.Proofs.YtdnmmibchbceeaaGreat

namespace Go.Proofs.Rg
open Go Go.RowKit
theorem in_run {l:Nat} {P:Program} {ops:Array Oper} {rest:List Oper} {o:Oper} {a:Act} {Q:Exit→Act→World→Prop} (d:Option Tmp) (hg:o.guard=none) (hd:o.dst=d) (hnd:∀ c,o.op≠.defer c)
  (hr:(execOp a.eval o).run P w=.ok (.value v) w') (h:wpListIn (Fence.wide.inRound l) n P ops Q rest (a.put d v) w'):wpListIn (Fence.wide.inRound l) n P ops Q (o :: rest) a w:=by
 subst hd;refine wpListIn_plain hg fun K hK=>⟨fun _ _=>trivial,?_⟩;rw [Oper.semAt_eq _ _ _ hnd,hr];exact hK _ _ h
theorem in_skip {l:Nat} {P:Program} {ops:Array Oper} {rest:List Oper} {o:Oper} {a:Act} {Q:Exit→Act→World→Prop} (d:Option Tmp) (hg:o.guard=none) (hd:o.dst=d) (hnd:∀ c,o.op≠.defer c)
  (hr:(execOp a.eval o).run P w=.ok .skip w') (h:wpListIn (Fence.wide.inRound l) n P ops Q rest (a.put d undef) w'):wpListIn (Fence.wide.inRound l) n P ops Q (o :: rest) a w:=by
 subst hd;refine wpListIn_plain hg fun K hK=>⟨fun _ _=>trivial,?_⟩;rw [Oper.semAt_eq _ _ _ hnd,hr];exact hK _ _ h
theorem inW_run {l:Nat} {P:Program} {ops:Array Oper} {rest:List Oper} {o:Oper} {a:Act} {Q:Exit→Act→World→Prop} (d:Option Tmp) (hw:Region.wanted o (yielded ops a.tmps)=true) (hd:o.dst=d) (hnd:∀ c,o.op≠.defer c)
  (hr:(execOp a.eval o).run P w=.ok (.value v) w') (h:wpListIn (Fence.wide.inRound l) n P ops Q rest (a.put d v) w'):wpListIn (Fence.wide.inRound l) n P ops Q (o :: rest) a w:=by
 subst hd;refine wpListIn_step fun K hK=>?_;rw [if_pos hw];refine ⟨fun _ _=>trivial,?_⟩;rw [Oper.semAt_eq _ _ _ hnd,hr];exact hK _ _ h
theorem inW_ask {l:Nat} {P:Program} {ops:Array Oper} {rest:List Oper} {o:Oper} {a:Act} {Q:Exit→Act→World→Prop} (d:Option Tmp) (hw:Region.wanted o (yielded ops a.tmps)=true) (hd:o.dst=d) (hnd:∀ c,o.op≠.defer c) (f:FuncId) (args:Array Value)
  (hr:(execOp a.eval o).run P w=.ok (.enter f args) w) (h:Calls P f args w fun e w'=>∃ v,e=.returned v∧wpListIn (Fence.wide.inRound l) n P ops Q rest (a.put d v) w'):wpListIn (Fence.wide.inRound l) n P ops Q (o :: rest) a w:=by
 subst hd;refine wpListIn_step fun K hK=>?_;rw [if_pos hw];refine ⟨fun _ _=>trivial,?_⟩;rw [Oper.semAt_eq _ _ _ hnd,hr];refine ⟨(fun hh=>by cases hh),(CallsIn.inRound l (callsIn_wide.2 h)).mono ?_⟩;rintro e w' ⟨v,rfl,hv⟩;exact hK _ _ hv
theorem inW_pass {l:Nat} {P:Program} {ops:Array Oper} {rest:List Oper} {o:Oper} {a:Act} {Q:Exit→Act→World→Prop} (d:Option Tmp) (hw:Region.wanted o (yielded ops a.tmps)=false) (hd:o.dst=d)
  (h:wpListIn (Fence.wide.inRound l) n P ops Q rest (a.put d undef) w):wpListIn (Fence.wide.inRound l) n P ops Q (o :: rest) a w:=by
 subst hd;unfold wpListIn;rw [if_neg (by rw [hw]; decide)];exact ⟨fun _ _=>trivial,h⟩
def onlyN (Q:Exit→Act→World→Prop):Exit→Act→World→Prop
 | .normal,a,w=>Q .normal a w
 | _,_,_=>False
theorem wp_onlyN {P:Program} {c:Code} {Q:Exit→Act→World→Prop} {a:Act} (h:c.wp P (onlyN Q) a w):c.wp P Q a w :=
 wp_mono h fun e a w hq=>by cases e <;> first | exact hq | exact hq.elim
theorem onlyN_i {Q:Exit→Act→World→Prop} {a:Act} (h:Q .normal a w):onlyN Q .normal a w:=h
end Go.Proofs.Rg

namespace Go.Proofs.YtdnmmibchbceeaaGreat
open Go.RowKit
open Go.Proofs
open Go.Shelf
attribute [local go_sem] Oper.semAt_some
def finTo (m k:Nat):List (Fin m):=(List.finRange m).take k
theorem finTo_succ (h:k<m):finTo m (k+1)=finTo m k++[⟨k,h⟩]:=by
 unfold finTo;rw [List.take_succ_eq_append_getElem (by rw [List.length_finRange]; exact h)];simp
theorem finTo_len (h:k≤m):(finTo m k).length=k:=by
 unfold finTo;rw [List.length_take,List.length_finRange];omega
theorem finTo_all (m:Nat):finTo m m=List.finRange m:=by
 unfold finTo;rw [List.take_of_length_le (by rw [List.length_finRange]; exact Nat.le_refl _)]
theorem reps1_in (F:Fence) (n:Nat) (h7:F.fn 147) (hro:F.round=none) (hn:1≤n) (l Bs n₀ m cap:Nat) (ad:Option Addr) (RV:Nat→Value) (hm:m≤1000000000) (had:0<m→∃ b off,ad=some ⟨b,off,none⟩∧b<n₀) (J Jx:List (Fin m)→World→Prop)
  (hY:∀ pre x W,J pre W→pre.length<m→YieldAt F (n - 1) Tryz.prog l #[.int .i64 ((x.1:Nat):Int),RV x.1] W fun e W' =>
   (e=.returned (.bool true)∧J (pre++[x]) W'∧Below n₀ W W')∨(e=.returned (.bool false)∧Jx (pre++[x]) W'))
  (W:World) (hBs:W.cell? ⟨Bs,2,none⟩=some (.slice ad m cap)) (hc:∀ b off,ad=some ⟨b,off,none⟩→∀ j,j<m→W.cell? ⟨b,off+j,none⟩=some (RV j)) (h0:J [] W) :
  CallsIn F n Tryz.prog 147 #[.func (.yield l) #[] #[],.pointer (some ⟨Bs,0,none⟩)] W fun e W'=>(∃ v,e=.returned v) ∧
   ((∃ ys,ys=finTo m m∧J ys W')∨(∃ pre,(∃ k,k≤m∧pre=finTo m k)∧Jx pre W')):=by
 refine callsIn_of_wp Tryz.func147 rfl h7 ?_ hro;simp only [Tryz.ntmps147,List.size_toArray,List.length_cons,List.length_nil,Nat.reduceAdd,Nat.reduceSub,Array.replicate_succ,Array.replicate_zero,List.push_toArray,List.append_toArray,List.nil_append,List.cons_append]
 gi_wp2
 gi_loopw [8] (fun i wr=>∃ k:Nat,k≤m∧i=.int .i64 k∧J (finTo m k) wr∧Below n₀ W wr)
  (fun i _=>m - (intOf i).toNat)
 case atStart=>exact ⟨0,Nat.zero_le _,rfl,h0,Below.refl _ _⟩
 case round =>
  obtain ⟨k,hk,rfl,hJs,hnx⟩:=hrel
  by_cases hlt:k<m
  ·obtain ⟨b,off,rfl,hb⟩:=had (by omega)
   have hcx:wr.cell? ⟨b,off+k,none⟩=some (RV k):=(hnx.cell (p:=⟨b,off+k,none⟩) hb).trans (hc b off rfl k hlt);obtain ⟨fn,tmps,assign,body,hy,hR⟩:=hY _ ⟨k,hlt⟩ wr hJs (by rw [finTo_len hk]; exact hlt)
   dsimp only at hy
   gi_wp2
   refine hR.mono ?_
   rintro e W3 (⟨rfl,hJ3,hk3⟩ | ⟨rfl,hJx3⟩)
   ·gi_wp2
    go_roundw
    case rel=>exact ⟨k+1,by omega,by simp,by rw [finTo_succ hlt]; exact hJ3,hnx.trans hk3⟩
    case measure=>simp [intOf]; omega
   ·gi_wp2
    refine bodyPost_ret (results_none rfl _ _ _) rfl ?_;exact ⟨⟨_,rfl⟩,.inr ⟨_,⟨k+1,by omega,(finTo_succ hlt).symm⟩,hJx3⟩⟩
  ·obtain rfl:k=m:=by omega
   gi_wp2
   go_end0
   exact ⟨⟨_,rfl⟩,.inl ⟨_,rfl,hJs⟩⟩
end Go.Proofs.YtdnmmibchbceeaaGreat

namespace Go.Proofs.RF
open Go Go.RowKit
def Dfr (D:Nat) (W:World):Prop:=W.heap[D]?=some (.deferred (some []))
theorem Dfr.size {D:Nat} {W:World} (h:Dfr D W):D<W.heap.size:=(Array.getElem?_eq_some_iff.1 h).1
theorem Dfr.of_below' (h:Dfr D W) (hb:Below W.heap.size W W'):Dfr D W':=(hb.block D h.size).trans h
theorem Dfr.alloc {D:Nat} {W:World} (h:Dfr D W) (o:Obj):Dfr D (W.alloc o):=(Below.heap_alloc W o D h.size).trans h
theorem Dfr.drew {D:Nat} {W:World} (h:Dfr D W):Dfr D W.drew:=h
theorem Dfr.setCell {D:Nat} {W:World} (h:Dfr D W) (a:Addr) (v:Value):Dfr D (W.setCell a v) :=
 (KeepsOthers.setCell W a v).same D _ h rfl
theorem Dfr.cell {D:Nat} {o:Option (List Deferred)} {W:World} (h:Dfr D W) (a:Addr):(W.putObj D (.deferred o)).cell? a=W.cell? a:=by
 unfold World.cell?
 by_cases e:a.block=D
 ·rw [e,World.putObj_heap_same h.size,show W.heap[D]?=_ from h]
 ·rw [World.putObj_heap_other e]
theorem Dfr.frozen {D:Nat} {o:Option (List Deferred)} {W:World} (h:Dfr D W) (a:Addr):(W.putObj D (.deferred o)).frozen? a=W.frozen? a:=by
 unfold World.frozen?
 by_cases e:a.block=D
 ·rw [e,World.putObj_heap_same h.size,show W.heap[D]?=_ from h]
 ·rw [World.putObj_heap_other e]
def mark (D:Nat):Deferred:={ target:=.collected D,args:=#[] }
theorem leaves {n:Nat} {P:Program} {fn:Func} {tmps:Array Value} {R:Ending→World→Prop} (B:Nat):∀ (ds:List Nat) (W:World),ds.Nodup→(∀ D,D∈ds→Dfr D W∧B≤D) →
  (∀ W',Below B W W'→(∀ a,W'.cell? a=W.cell? a)→(∀ a,W'.frozen? a=W.frozen? a)→∃ v,(results fn tmps).run P W'=.ok v W'∧R (.returned v) W') →
  LeavesInM Fence.wide n P fn tmps R (ds.map mark) .returning W
 | [],W,_,_,h=>h W (Below.refl _ _) (fun _=>rfl) (fun _=>rfl)
 | D :: ds,W,hn,hD,h=>by
  rw [List.nodup_cons] at hn;obtain ⟨hd,hB⟩:=hD D (by simp);have hb:Below B W (W.putObj D (.deferred none)):=⟨rfl,rfl,rfl,by simp,fun k hk=>World.putObj_heap_other (by omega)⟩;refine ⟨by simp,.inl ⟨D,_,rfl,run_takeDeferred hd,leaves B ds _ hn.2 (fun D' hD'=>?_) (fun W' h1 h2 h3=>?_)⟩⟩
  ·refine ⟨(World.putObj_heap_other ?_).trans (hD D' (by simp [hD'])).1,(hD D' (by simp [hD'])).2⟩
   intro e; exact hn.1 (e▸hD')
  ·exact h W' (hb.trans h1) (fun a=>(h2 a).trans (hd.cell a)) (fun a=>(h3 a).trans (hd.frozen a))
theorem calls_marks {P:Program} {f:FuncId} {fn:Func} {c:Code} {args:Array Value} {R:Ending→World→Prop}
  (hf:P.funcs[f]?=some fn) (hb:fn.body=some c)
  (h:c.wp P (bodyPostM Fence.wide 0 P fn R) { tmps:=args++Array.replicate (fn.ntmps - args.size) undef,defers:=[] } w):Calls P f args w R :=
 callsIn_wide.1 (callsIn_of_wp_marks (n:=0) hf hb trivial (wpIn_wide.2 h))
end Go.Proofs.RF
namespace Go.Proofs.YtdnmmibchbceeaaGreat
open Go.RowKit
open Go.Proofs
open Go.Shelf
attribute [local irreducible] Go.Calls Go.wpList
structure KK (B n₀:Nat) (W W':World):Prop where
 keeps:KeepsFrom B W W'
 bel:Below n₀ W W'
 le:n₀≤W.heap.size
theorem KK.refl {B n₀:Nat} {W:World} (h:n₀≤W.heap.size):KK B n₀ W W:=⟨KeepsFrom.refl _ _,Below.refl _ _,h⟩
theorem KK.acc {W'':World} (h:KK B n₀ W W') (hb:Below W'.heap.size W' W''):KK B n₀ W W'' :=
 ⟨h.keeps.trans ⟨hb.size,fun k o _ hk _=>(hb.block k (Array.getElem?_eq_some_iff.1 hk).1).trans hk⟩,h.bel.trans (hb.mono (Nat.le_trans h.le h.bel.size)),h.le⟩
theorem KK.set (h:KK B n₀ W W') {b o:Nat} (v:Value) (hb:n₀≤b):KK B n₀ W (W'.setCell ⟨b,o,none⟩ v) :=
 ⟨h.keeps.trans ((KeepsOthers.setCell _ _ _).from _),h.bel.setCell (p:=⟨b,o,none⟩) hb v,h.le⟩
theorem KK.grown {B n₀:Nat} {W W' W'':World} (h:KK B n₀ W W') {e:TypeId} {v:Value} {n size:Nat} {xs:List Value} (hr:W'.ownsRow n₀ e size v n xs) (hg:W'.grownBy W'' v.ownBlock):KK B n₀ W W'' :=
 ⟨h.keeps.trans ((KeepsOthers.of_grownBy hg (fun j o e1 e2=>by
  obtain ⟨_,h2⟩:=hr
  rcases h2 with ⟨h3,_⟩ | ⟨g,cap,cur,h3,hg0,hc,_⟩
  ·rw [h3] at e1; simp [Value.ownBlock] at e1
  ·rw [h3] at e1
   simp [Value.ownBlock] at e1;subst e1;rw [hc] at e2
   cases e2; rfl)).from _),h.bel.grown hg (Nat.le_trans h.le h.bel.size) (fun j hj=>(hr.lt j hj).1),h.le⟩
theorem reps_any (n:Int) (ov rv:Value) (w:World) :
  Calls Tryz.prog 126 #[.agg #[.int .i64 n,ov,rv]] w fun e w'=>∃ fb,e=.returned (.func (.func 147) #[] #[.pointer (some ⟨fb,0,none⟩)])∧CL w' fb 2 rv∧Below w.heap.size w w':=by
 go_enter Tryz.func126,Tryz.ntmps126
 have hbx:=box3 w (.int .i64 n) ov rv;go_upto_region 0 with (fail);refine Rg.wl ?_;refine Rg.lr 1 (Rg.exec_box _ _ rfl rfl) ?_;go_frame;have hb:Below w.heap.size w (w.alloc (.cells #[.int .i64 n,ov,rv] 87)):=(Below.refl _ _).alloc (Nat.le_refl _) _;generalize w.alloc (.cells #[.int .i64 n,ov,rv] 87)=w1 at *;have H:=ι hbx.2.2;have K:=ι hb;clear hbx hb;go_wp2;go_ret;exact ⟨_,rfl,H.out,K.out⟩
structure RV3 (n₀:Nat) (w:World) (ad:Option Addr) (m:Nat) (RV:Nat→Value):Prop where
 le:m≤1000000000
 had:0<m→∃ b off,ad=some ⟨b,off,none⟩∧b<n₀
 cells:∀ b off,ad=some ⟨b,off,none⟩→∀ j,j<m→w.cell? ⟨b,off+j,none⟩=some (RV j)
 sz:n₀≤w.heap.size
theorem RV3.below {ad:Option Addr} {RV:Nat→Value} (h:RV3 n₀ w ad m RV) (hb:Below n₀ w w'):RV3 n₀ w' ad m RV :=
 ⟨h.le,h.had,fun b off e j hj=>by
  obtain ⟨b',off',e',hlt⟩:=h.had (by omega);rw [e] at e';simp only [Option.some.injEq,Addr.mk.injEq,and_true] at e';obtain ⟨rfl,rfl⟩:=e'
  exact (hb.cell (p:=⟨b,off+j,none⟩) hlt).trans (h.cells b off e j hj),Nat.le_trans h.sz hb.size⟩
theorem reps_stops {fb:Nat} {ad:Option Addr} {RV:Nat→Value} (h:RV3 n₀ w ad m RV) (hfb:CL w fb 2 (.slice ad m cap)) (n:Nat) (hn:1≤n) :
  SeqStopsK Fence.wide n Tryz.prog 147 #[.pointer (some ⟨fb,0,none⟩)] (fun x:Fin m=>#[Value.int .i64 ((x.1:Nat):Int),RV x.1]) (Below n₀) (fun ys=>ys=finTo m m) (fun pre=>∃ k,k≤m∧pre=finTo m k) m w:=fun l J Jx W hW _ _ hY h0=>by
 have h':=h.below (hW.mono h.sz);exact reps1_in Fence.wide n trivial rfl hn l fb n₀ m cap ad RV h.le h.had J Jx hY W ((hW.cell (p:=⟨fb,2,none⟩) hfb.lt).trans hfb.cell) h'.cells h0
theorem range_reps {g:Operand} {ps:Array Go.Tmp} {assign body:Code} {Q:Exit→Act→World→Prop} {a:Act} {fb:Nat} {ad:Option Addr} {RV:Nat→Value}
  (hg:a.eval g=.func (.func 147) #[] #[.pointer (some ⟨fb,0,none⟩)]) (hfb:CL w fb 2 (.slice ad m cap)) (h:RV3 n₀ w ad m RV) (hps:ps.size=2)
  (I:List (Fin m)→World→Prop) (Ix:Code→List (Fin m)→World→Prop) (hI:OwnFrom w.heap.size I) (hIx:∀ c,OwnFrom w.heap.size (Ix c)) (h0:I [] w) (a₁:Fin m→Act)
  (hassign:∀ (l:Nat) (x:Fin m) (W:World) (K:Act→World→Prop),K (a₁ x) W→assign.wpIn (Fence.wide.inRound l) 1 Tryz.prog (Exit.then K (fun _ _ _=>False)) { tmps:=(ps.zip #[Value.int .i64 ((x.1:Nat):Int),RV x.1]).foldl (fun t (p,v)=>t.setIfInBounds p v) a.tmps,defers:=[] } W)
  (hbody:∀ (l:Nat) (pre:List (Fin m)) (x:Fin m) (W:World),I pre W→pre.length<m→body.wpIn (Fence.wide.inRound l) 1 Tryz.prog (ownPostG w.heap.size (Below n₀) I Ix (pre++[x]) W) (a₁ x) W)
  (hdone:∀ (D:Nat) (W:World),w.heap.size≤D→I (finTo m m) W→RF.Dfr D W→Q .normal { a with defers:=RF.mark D :: a.defers } W)
  (hstop:∀ (D:Nat) (c:Code) (pre:List (Fin m)) (W:World),w.heap.size≤D→Ix c pre W→RF.Dfr D W→c.wp Tryz.prog Q { a with defers:=RF.mark D :: a.defers } W) :
  (Code.rangeFunc g ps assign body).wp Tryz.prog Q a w :=
 wpIn_wide.1 (wpIn_rangeFunc_ownG (F:=Fence.wide) (n:=3) rfl (by decide) (gf:=147) (lb:=#[.pointer (some ⟨fb,0,none⟩)]) hg trivial (enters_of Tryz.func147 (by kernel_rfl) rfl)
  (reps_stops h hfb 2 (by decide)) belowK_t (belowK_b h.sz) (Below.refl _ _) (fun _=>hps.symm) I Ix hI hIx h0 a₁ hassign hbody
  (fun D xs W hD hx hi hd=>by subst hx; exact hdone D W hD hi hd) (fun D c pre W hD _ hi hd=>wpIn_wide.2 (hstop D c pre W hD hi hd)))
end Go.Proofs.YtdnmmibchbceeaaGreat

namespace Go.Proofs.YtdnmmibchbceeaaGreat
open Go.Proofs
open Go.Proofs.Cm (Gr Gd IsChain IsG St)
theorem asc_len {l:List Nat} {a b:Nat} (h:l.Pairwise (· < ·)) (hr:∀ x∈l,a≤x∧x<b):l.length≤b - a:=by
 have h1:l.Nodup:=h.imp (fun {x y} hlt e=>by omega)
 have h2:=nodup_le (m:=List.range' a (b - a)) h1 (fun x hx=>by
  have:=hr x hx;rw [List.mem_range'_1]
  omega)
 rwa [List.length_range'] at h2
theorem getD_inf {α:Type} {l:List (List α)} {i:Nat} (h:i<l.length):l.getD i []=l[i]:=by rw [List.getD_eq_getElem?_getD,List.getElem?_eq_getElem h]; rfl
theorem chain_mem (h:IsChain n H O R) {r:List Nat} (hr:r∈R.flatten):∃ i k,i<n∧k<(O.getD i []).length∧r=(R.getD i []).getD k []:=by
 obtain ⟨l,hl,hr⟩:=List.mem_flatten.1 hr;obtain ⟨i,hi,rfl⟩:=List.getElem_of_mem hl;obtain ⟨k,hk,rfl⟩:=List.getElem_of_mem hr
 have hin:i<n:=by rw [← h.lenR]; exact hi
 have e1:=h.len i hin;rw [getD_inf hi] at e1;exact ⟨i,k,hin,by omega,by rw [getD_inf hi]; exact (getD_li' hk).symm⟩
where
 getD_li' {l:List (List Nat)} {k:Nat} (h:k<l.length):l.getD k []=l[k]:=by rw [List.getD_eq_getElem?_getD,List.getElem?_eq_getElem h]; rfl
theorem chain_H (h:IsChain n H O R) {r:List Nat} (hr:r∈R.flatten):H r:=by
 obtain ⟨i,k,hi,hk,rfl⟩:=chain_mem h hr;exact (h.rep i k hi hk).1.1.1
theorem chain_gen (hH:IsG n H) (h:IsChain n H O R) (x:List Nat):H x↔Gr n (·∈R.flatten) x:=by
 have hgs:∀ s,s∈R.flatten→Gd n s:=fun s hs=>hH.gd s (chain_H h hs)
 constructor
 ·intro hx
  have key:∀ d i x,i+d=n→St H i x→Gr n (·∈R.flatten) x:=by
   intro d
   induction d with
   | zero =>
    intro i x hi hx
    obtain rfl:i=n:=by omega
    rw [Cm.Fx.all (hH.gd x hx.1) hx.2];exact .one
   | succ d ih =>
    intro i x hi hx
    have hin:i<n:=by omega
    have gx:=hH.gd x hx.1;have hp:=(h.orb i (Cm.ap x i) hin).2 ⟨x,hx,rfl⟩;obtain ⟨k,hk,e⟩:=List.getElem_of_mem hp;have hl:=(h.rep i k hin hk).1
    have e2:(O.getD i []).getD k 0=Cm.ap x i:=by rw [List.getD_eq_getElem?_getD,List.getElem?_eq_getElem hk]; exact e
    rw [e2] at hl;have e3:=h.len i hin
    have hrm:(R.getD i []).getD k []∈R.flatten:=by
     have hiR:i<R.length:=by rw [h.lenR]; exact hin
     rw [getD_inf hiR];rw [getD_inf hiR] at e3;rw [List.getD_eq_getElem?_getD,List.getElem?_eq_getElem (by omega)];exact List.mem_flatten.2 ⟨_,List.getElem_mem hiR,List.getElem_mem _⟩
    generalize (R.getD i []).getD k []=r at *;have gr:=hgs r hrm
    have hst:St H (i+1) (Ma.mulN x (Ma.invN r)):=by
     refine ⟨hH.mul _ _ hx.1 (hH.inv _ hl.1.1),fun j hj=>?_⟩;rw [Cm.ap_mul gx (by omega)]
     by_cases ej:j=i
     ·subst ej
      rw [← hl.2];exact Cm.ap_inv gr hin
     ·rw [hx.2 j (by omega)]
      exact Cm.Fx.inv gr (Nat.le_of_lt hin) hl.1.2 j (by omega)
    have h1:=ih (i+1) _ (by omega) hst;have h2:=Gr.mul _ _ h1 (.gen r hrm)
    rwa [Cm.mul_inv_cancel gx gr] at h2
  exact key n 0 x (by omega) ⟨hx,fun j hj=>absurd hj (Nat.not_lt_zero _)⟩
 ·intro hx
  exact Gr.sub hH (fun s hs=>chain_H h hs) hx
theorem chain_len (hH:IsG n H) (h:IsChain n H O R) {i:Nat} (hi:i<n):(O.getD i []).length≤n - i:=by
 refine asc_len (h.asc i hi) fun p hp=>?_;obtain ⟨x,hx,rfl⟩:=(h.orb i p hi).1 hp;have gx:=hH.gd x hx.1;refine ⟨Nat.le_of_not_lt fun hlt=>?_,Cm.ap_lt gx hi⟩;have e:=hx.2 _ hlt;have:=Cm.ap_inj gx (Nat.lt_trans hlt hi) hi e;omega
def ChOK (n:Int) (OO:List (List Int)) (RR:List (List (List Int))):Prop:=∃ (N:Nat) (O:List (List Nat)) (R:List (List (List Nat))),n=((N:Nat):Int)∧1≤N∧N≤64∧OO=O.map Ma.ofN∧RR=R.map (List.map Ma.ofN)∧IsChain N (Gr N (·∈R.flatten)) O R∧∀ s∈R.flatten,Gd N s
def ChC (n:Int) (OO:List (List Int)) (RR:List (List (List Int))) (c:Int):Prop:=(¬ (1≤n∧n≤64)∧c=2)∨((1≤n∧n≤64)∧((ChOK n OO RR∧c=0)∨(¬ ChOK n OO RR∧c=3)))
theorem ChC.uniq {n:Int} {c c':Int} (h:ChC n OO RR c) (h':ChC n OO RR c'):c=c':=by
 rcases h with ⟨a,rfl⟩ | ⟨a,⟨b,rfl⟩ | ⟨b,rfl⟩⟩ <;> rcases h' with ⟨a',rfl⟩ | ⟨a',⟨b',rfl⟩ | ⟨b',rfl⟩⟩ <;> first | rfl | exact absurd a a' | exact absurd a' a | exact absurd b b' | exact absurd b' b
theorem ChC.zero {n:Int} (h:ChC n OO RR 0):ChOK n OO RR:=by
 rcases h with ⟨_,e⟩ | ⟨_,⟨b,_⟩ | ⟨_,e⟩⟩
 ·cases e
 ·exact b
 ·cases e
theorem ChC.of {n:Int} (h:ChOK n OO RR):ChC n OO RR 0:=by
 obtain ⟨N,O,R,e,h1,h2,_⟩:=id h;exact .inr ⟨by omega,.inl ⟨h,rfl⟩⟩
theorem ChOK.lens {n:Int} (h:ChOK n OO RR):(OO.length:Int)=n∧(RR.length:Int)=n:=by
 obtain ⟨N,O,R,rfl,h1,h2,rfl,rfl,hc,_⟩:=h;rw [List.length_map,List.length_map,hc.lenO,hc.lenR];exact ⟨rfl,rfl⟩
theorem ChOK.row {n:Int} (h:ChOK n OO RR) {i:Nat} (hi:i<RR.length) (hi2:i<OO.length):RR[i].length=OO[i].length∧(RR[i].length:Int)≤n - (i:Int):=by
 obtain ⟨N,O,R,rfl,h1,h2,rfl,rfl,hc,hg⟩:=h;rw [List.length_map] at hi hi2
 have hin:i<N:=by rw [← hc.lenR]; exact hi
 have e1:=hc.len i hin;have e2:=chain_len (Gr.isG (gs:=(·∈R.flatten)) hg) hc hin;rw [getD_inf hi2] at e1 e2;rw [getD_inf hi] at e1;simp only [List.getElem_map,List.length_map,Ma.len_ofN];omega
theorem ChOK.perm {n:Int} (h:ChOK n OO RR) {i:Nat} (hi:i<RR.length) {x:List Int} (hx:x∈RR[i]):(x.length:Int)=n∧Ma.pchk x=0:=by
 obtain ⟨N,O,R,rfl,h1,h2,rfl,rfl,hc,hg⟩:=h;rw [List.length_map] at hi;rw [List.getElem_map] at hx;obtain ⟨y,hy,rfl⟩:=List.mem_map.1 hx;have gy:=hg y (List.mem_flatten.2 ⟨_,List.getElem_mem hi,hy⟩);rw [Ma.len_ofN,gy.2];exact ⟨rfl,Ma.pchk_ok (by rw [Ma.len_ofN,gy.2]; exact h1) (by rw [Ma.len_ofN,gy.2]; exact h2) (Ma.okN_ofN gy.1)⟩
theorem map_ofN_inj:∀ {a b:List (List Nat)},a.map Ma.ofN=b.map Ma.ofN→a=b
 | [],[],_=>rfl
 | [],_ :: _,h=>by simp at h
 | _ :: _,[],h=>by simp at h
 | x :: a,y :: b,h=>by
  simp only [List.map_cons,List.cons.injEq] at h;rw [Ma.ofN_inj h.1,map_ofN_inj h.2]
theorem flat_map_ofN (R:List (List (List Nat))):(R.map (List.map Ma.ofN)).flatten=R.flatten.map Ma.ofN:=by
 induction R with
 | nil=>rfl
 | cons r R ih=>simp only [List.map_cons,List.flatten_cons,List.map_append,ih]
theorem ChOK.same (h1:1≤N) (h2:N≤64) (hg:∀ s∈gs,Gd N s) (hgs:RR.flatten=gs.map Ma.ofN) (hc:IsChain N (Gr N (·∈gs)) O R) :
  ChOK ((N:Nat):Int) OO RR↔OO=O.map Ma.ofN∧RR=R.map (List.map Ma.ofN):=by
 constructor
 ·rintro ⟨N',O',R',e,_,_,rfl,rfl,hc',_⟩
  obtain rfl:N=N':=by omega
  rw [flat_map_ofN] at hgs;have:=map_ofN_inj hgs;subst this;obtain ⟨rfl,rfl⟩:=hc.uniq hc';exact ⟨rfl,rfl⟩
 ·rintro ⟨rfl,rfl⟩
  rw [flat_map_ofN] at hgs;have:=map_ofN_inj hgs;subst this;exact ⟨N,O,R,rfl,h1,h2,rfl,rfl,hc,hg⟩
theorem chain_ok (h1:1≤N) (h2:N≤64) (hg:∀ s∈gs,Gd N s) (hc:IsChain N (Gr N (·∈gs)) O R):ChOK ((N:Nat):Int) (O.map Ma.ofN) (R.map (List.map Ma.ofN)):=by
 have hH:=Gr.isG (n:=N) (gs:=(·∈gs)) hg;have e:Gr N (·∈gs)=Gr N (·∈R.flatten):=funext fun x=>propext (chain_gen hH hc x);refine ⟨N,O,R,rfl,h1,h2,rfl,rfl,?_,fun s hs=>hH.gd s (chain_H hc hs)⟩;rw [← e];exact hc
end Go.Proofs.YtdnmmibchbceeaaGreat

namespace Go.Proofs.YtdnmmibchbceeaaGreat
open Go.RowKit
open Go.Proofs
open Go.Proofs.Ob
open Go.Shelf
open Go.Proofs.Cm (Lv Twr trOf)
attribute [local go_sem] Oper.semAt_some
attribute [local irreducible] Go.Calls Go.wpList Go.wpListIn
theorem Wvcl0 (args:Array Value) (w:World):(callFunc 126 args).run Tryz.prog w=.ok (.enter 126 args) w:=by kernel_rfl
theorem Wvcl1 (args:Array Value) (w:World):(callFunc 75 args).run Tryz.prog w=.ok (.enter 75 args) w:=by kernel_rfl
theorem Wvcl4 (args:Array Value) (w:World):(callFunc 127 args).run Tryz.prog w=.ok (.enter 127 args) w:=by kernel_rfl
theorem infoErrno:(Tryz.prog.info? 31).map (fun i=>(i.zero,i.size,i.bytes))=some (some (.int .i64 0),1,8):=by kernel_rfl
theorem exec_allocE {o:Oper} {a:Act} (ho:o.op=.alloc 31):(execOp a.eval o).run Tryz.prog w=.ok (.value (.pointer (some ⟨w.heap.size,0,none⟩))) (w.alloc (.cells #[.int .i64 0] 31)):=by
 obtain ⟨i0,hi,hz0,hz1,hz2⟩:=info_parts infoErrno;unfold execOp;simp [ho,Instr.alloc,typeInfo,zeroValue,hi,hz0,newVar,Value.cells,Result.andThen];rfl
theorem exec_allocI {o:Oper} {a:Act} (ho:o.op=.alloc 3):(execOp a.eval o).run Tryz.prog w=.ok (.value (.pointer (some ⟨w.heap.size,0,none⟩))) (w.alloc (.cells #[.int .i64 0] 3)):=by
 obtain ⟨i0,hi,hz0,hz1,hz2⟩:=info_parts intsInfo;unfold execOp;simp [ho,Instr.alloc,typeInfo,zeroValue,hi,hz0,newVar,Value.cells,Result.andThen];rfl
theorem exec_allocPs {o:Oper} {a:Act} (ho:o.op=.alloc 22):(execOp a.eval o).run Tryz.prog w=.ok (.value (.pointer (some ⟨w.heap.size,0,none⟩))) (w.alloc (.cells #[.slice none 0 0] 22)):=by
 obtain ⟨i0,hi,hz0,hz1,hz2⟩:=info_parts infoPermsV;unfold execOp;simp [ho,Instr.alloc,typeInfo,zeroValue,hi,hz0,newVar,Value.cells,Result.andThen];rfl
theorem run_storeE {b o:Nat} (v:Int) (h:w.cell? ⟨b,o,none⟩=some u) (hf:w.frozen? ⟨b,o,none⟩=false) :
  (storeVar 31 ⟨b,o,none⟩ (.int .i64 v)).run Tryz.prog w=.ok () (w.setCell ⟨b,o,none⟩ (.int .i64 v)):=by
 obtain ⟨i0,hi,hz0,hz1,hz2⟩:=info_parts infoErrno
 have h0:(⟨b,o,none⟩:Addr).add 0=⟨b,o,none⟩:=by simp [Addr.add]
 simp [storeVar,sizeOf,typeInfo,hi,hz1,Value.cells,storeCells,store,h0];simp [Sem.run,h,hf]
theorem run_loadE {ad:Addr} (h:w.cell? ad=some v):(loadVar 31 ad).run Tryz.prog w=.ok v w:=by
 simp [loadVar,isAgg,run_underlying Tryz.underlying31,load];simp [Sem.run,h]
theorem results_cellE {fn:Func} {p:Go.Tmp} (h:fn.results=#[.cell p 31]) (tmps:Array Value) {b:Nat} (hp:tmps.getD p undef=.pointer (some ⟨b,0,none⟩)) (hc:w.cell? ⟨b,0,none⟩=some v) :
  (results fn tmps).run Tryz.prog w=.ok v w:=by
 have hp':tmps[p]?.getD undef=.pointer (some ⟨b,0,none⟩):=by simpa using hp
 simp [results,h,hp',asAddr,run_loadE hc]
theorem run_loadC3 {b:Nat} {x y:Value} (h0:w.cell? ⟨b,0,none⟩=some x) (h1:w.cell? ⟨b,1,none⟩=some y) (h2:w.cell? ⟨b,2,none⟩=some z):(loadVar 87 ⟨b,0,none⟩).run Tryz.prog w=.ok (.agg #[x,y,z]) w:=by
 obtain ⟨i0,hi,hz0,hz1,hz2⟩:=info_parts infoChain
 have ha0:(⟨b,0,none⟩:Addr).add 0=⟨b,0,none⟩:=by simp [Addr.add]
 have ha1:(⟨b,0,none⟩:Addr).add 1=⟨b,1,none⟩:=by simp [Addr.add]
 have ha2:(⟨b,0,none⟩:Addr).add 2=⟨b,2,none⟩:=by simp [Addr.add]
 have hg:(isAgg 87).run Tryz.prog w=.ok true w:=by kernel_rfl
 simp [loadVar,hg,sizeOf,typeInfo,hi,hz1,loadCells,loadCellsFrom,load,ha0,ha1,ha2];simp [Sem.run,h0,h1,h2]
structure CW (w:World) (b:Nat) (v:Value):Prop where
 c:w.cell? ⟨b,0,none⟩=some v
 f:w.frozen? ⟨b,0,none⟩=false
 lt:b<w.heap.size
theorem CW.below {b:Nat} (h:CW w b v) (hb:Below w.heap.size w w'):CW w' b v:=⟨(hb.cell (p:=⟨b,0,none⟩) h.lt).trans h.c,(hb.frozen (p:=⟨b,0,none⟩) h.lt).trans h.f,Nat.lt_of_lt_of_le h.lt hb.size⟩
theorem CW.new (w:World) (v:Value) (t:TypeId):CW (w.alloc (.cells #[v] t)) w.heap.size v:=⟨by rw [Rg.cellNew]; rfl,frozenNewN _ _ _ 0 _,by simp⟩
theorem CW.set {b:Nat} (h:CW w b u) (v:Value):CW (w.setCell ⟨b,0,none⟩ v) b v:=⟨World.cell?_setCell_same (h:=h.c) ..,by rw [World.frozen?_setCell]; exact h.f,by simpa using h.lt⟩
theorem CW.other {b b' o:Nat} (h:CW w b u) (v:Value) (hne:b≠b'):CW (w.setCell ⟨b',o,none⟩ v) b u:=⟨by rw [World.cell?_setCell_other (h:=by intro e; injection e with e1 e2; omega) ..]; exact h.c,by rw [World.frozen?_setCell]; exact h.f,by simpa using h.lt⟩
theorem CL.other {b b' o o':Nat} (h:CL w b o' u) (v:Value) (hne:b≠b'):CL (w.setCell ⟨b',o,none⟩ v) b o' u:=⟨by rw [World.cell?_setCell_other (h:=by intro e; injection e with e1 e2; omega) ..]; exact h.cell,by simpa using h.lt⟩
theorem CW.kp {b:Nat} (h:CW w b v) (hk:Rg.Kp M w w') (hM:¬ M b):CW w' b v :=
 ⟨(World.cell?_of_block (a:=⟨b,0,none⟩) (hk.block b h.lt hM)).trans h.c,(World.frozen?_of_block (a:=⟨b,0,none⟩) (hk.block b h.lt hM)).trans h.f,Nat.lt_of_lt_of_le h.lt hk.size⟩
theorem CL.kp {b o:Nat} (h:CL w b o v) (hk:Rg.Kp M w w') (hM:¬ M b):CL w' b o v :=
 ⟨(World.cell?_of_block (a:=⟨b,o,none⟩) (hk.block b h.lt hM)).trans h.cell,Nat.lt_of_lt_of_le h.lt hk.size⟩
structure CkI (w:World) (n:Int) (ov rv:Value) (W:World) (v:Value) (gs:List (List Nat)):Prop where
 bel:Below w.heap.size w W
 a0:CL W w.heap.size 0 (.int .i64 n)
 a1:CL W w.heap.size 1 ov
 a2:CL W w.heap.size 2 rv
 c2:CW W (w.heap.size+1) (.int .i64 0)
 c3:CW W (w.heap.size+2) (.int .i64 n)
 c4:CW W (w.heap.size+3) v
 row:RowF (fun k=>k<w.heap.size) (w.heap.size+4) W v gs
theorem CkI.below {w:World} {n:Int} {ov rv:Value} {W W':World} {v:Value} {gs:List (List Nat)} (h:CkI w n ov rv W v gs) (hb:Below W.heap.size W W'):CkI w n ov rv W' v gs :=
 ⟨Rg.acc h.bel hb,h.a0.below hb,h.a1.below hb,h.a2.below hb,h.c2.below hb,h.c3.below hb,h.c4.below hb,h.row.below hb⟩
theorem CkI.keep {n:Int} {row:Option Nat} (h:CkI w n ov rv W v gs) (hB:w.heap.size+4≤B) (hg:W.grownBy W' row) (hr:∀ r,row=some r→B≤r∧∃ o:Obj,W.heap[r]?=some o∧o.isCells=false):CkI w n ov rv W' v gs:=by
 have hk:Rg.Kp (fun k=>row=some k) W W':=Rg.Kp.of_grown hg fun _ e=>e
 have hM:∀ b,b<B→¬ row=some b:=fun b hb e=>by have:=(hr b e).1; omega
 obtain ⟨us,h1,h2⟩:=h.row.own;refine ⟨h.bel.grown hg h.bel.size (fun k e=>by have:=(hr k e).1; omega),h.a0.kp hk (hM _ (by omega)),h.a1.kp hk (hM _ (by omega)),h.a2.kp hk (hM _ (by omega)),h.c2.kp hk (hM _ (by omega)),h.c3.kp hk (hM _ (by omega)),h.c4.kp hk (hM _ (by omega)),⟨Nat.le_trans h.row.size hk.size,us,rowKp h1 hk (fun k e1 e2=>?_),h2.kp hk (fun k hk2=>hM k (by omega))⟩⟩;obtain ⟨_,o,ho,hc⟩:=hr k e1;obtain ⟨_,h3⟩:=h1
 rcases h3 with ⟨h4,_⟩ | ⟨g,cap,cur,h4,_,h5,_⟩
 ·rw [h4] at e2; simp [Value.ownBlock] at e2
 ·rw [h4] at e2
  simp [Value.ownBlock] at e2;subst e2;rw [h5] at ho
  cases ho; cases hc
def rowOf (RR:List (List (List Int))) {m:Nat} (x:Fin m):List (List Int):=RR.getD x.1 []
theorem CW.upto {b:Nat} (h:CW w b v) (hb:Below B w w') (hB:b<B):CW w' b v:=⟨(hb.cell (p:=⟨b,0,none⟩) hB).trans h.c,(hb.frozen (p:=⟨b,0,none⟩) hB).trans h.f,Nat.lt_of_lt_of_le h.lt hb.size⟩
theorem CL.upto {b o:Nat} (h:CL w b o v) (hb:Below B w w') (hB:b<B):CL w' b o v:=⟨(hb.cell (p:=⟨b,o,none⟩) hB).trans h.cell,Nat.lt_of_lt_of_le h.lt hb.size⟩
theorem ChEqR.mk (h1:Rg.Rows w ov OO) (h2:Rows2 w rv RR):ChEqR w ov rv OO RR:=⟨h1,h2⟩
theorem ChEqR.upto (h:ChEqR w ov rv OO RR) (hb:Below w.heap.size w w'):ChEqR w' ov rv OO RR:=h.below hb
theorem _root_.Go.Proofs.RF.Dfr.below (h:RF.Dfr D W) (hb:Below W.heap.size W W'):RF.Dfr D W':=h.of_below' hb
theorem KK.below {W'':World} (h:KK B n₀ W W') (hb:Below W'.heap.size W' W''):KK B n₀ W W'':=h.acc hb
theorem chSame_b {n m:Int} {ov' rv':Value} {OO':List (List Int)} {RR':List (List (List Int))} (h1:ChEqR w ov rv OO RR) (h2:ChEqR w ov' rv' OO' RR') {b:Bool} (hb:Hid (decide (n=m∧OO=OO'∧RR=RR')=b)) :
  Calls Tryz.prog 127 #[.agg #[.int .i64 n,ov,rv],.agg #[.int .i64 m,ov',rv']] w fun e w'=>e=.returned (.bool b)∧Below w.heap.size w w':=by
 rw [← hb.out]; exact chSame_any h1 h2
theorem CkI.store {n:Int} {v':Value} {gs':List (List Nat)} (h:CkI w n ov rv W v gs) (hb:Below (w.heap.size+4) W X) (hr:RowF (fun k=>k<w.heap.size) (w.heap.size+4) X v' gs'):CkI w n ov rv (X.setCell ⟨w.heap.size+3,0,none⟩ v') v' gs':=by
 have hk:Rg.Kp (fun z=>z=w.heap.size+3) X (X.setCell ⟨w.heap.size+3,0,none⟩ v'):=Rg.Kp.of_setCell rfl;obtain ⟨us,q1,q2⟩:=hr.own;refine ⟨(h.bel.trans (hb.mono (by omega))).setCell (p:=⟨w.heap.size+3,0,none⟩) (by show w.heap.size≤w.heap.size+3; omega) _,(h.a0.upto hb (by omega)).other _ (by omega),(h.a1.upto hb (by omega)).other _ (by omega),(h.a2.upto hb (by omega)).other _ (by omega),(h.c2.upto hb (by omega)).other _ (by omega),(h.c3.upto hb (by omega)).other _ (by omega),(h.c4.upto hb (by omega)).set _,⟨Nat.le_trans hr.size hk.size,us,rowKp q1 hk (fun k e1 e2=>by have:=(q1.lt k e2).1; omega),q2.kp hk (fun k hk2 e=>by omega)⟩⟩
theorem KK.row {W1:World} {B2:Nat} (h:KK B n₀ W W1) (hk:Rg.Kp (fun k=>v.ownBlock=some k) W1 X) (hr:RowF F B2 W1 v gs) (hn:n₀≤B2):KK B n₀ W X:=by
 obtain ⟨us,q1,q2⟩:=hr.own
 have hcells:∀ j o,v.ownBlock=some j→W1.heap[j]?=some o→o.isCells=true:=fun j o e1 e2=>by
  obtain ⟨_,h3⟩:=q1
  rcases h3 with ⟨h4,_⟩ | ⟨g,cap,cur,h4,_,h5,_⟩
  ·rw [h4] at e1; simp [Value.ownBlock] at e1
  ·rw [h4] at e1
   simp [Value.ownBlock] at e1;subst e1;rw [h5] at e2
   cases e2; rfl
 refine ⟨h.keeps.trans ⟨hk.size,fun k o _ hk2 ho=>(hk.block k (Array.getElem?_eq_some_iff.1 hk2).1 (fun e=>by rw [hcells k o e hk2] at ho; cases ho)).trans hk2⟩,h.bel.trans ⟨hk.os,hk.tape,hk.output,hk.size,fun k hk2=>hk.block k (by have:=h.bel.size; have:=h.le; omega) (fun e=>by have:=(q1.lt k e).1; omega)⟩,h.le⟩
theorem finTo_flat:(finTo RR.length RR.length).flatMap (rowOf RR)=RR.flatten:=by
 rw [finTo_all];rw [List.flatMap_def]
 congr 1
 refine List.ext_getElem (by simp) fun i h1 h2=>?_;simp only [List.getElem_map,List.getElem_finRange];exact getD_inf h2
def CkPost (n:Int) (OO:List (List Int)) (RR:List (List (List Int))) (w:World) (e:Ending) (w':World):Prop:=∃ c,e=.returned (.int .i64 c)∧ChC n OO RR c∧Below w.heap.size w w'
theorem ck_leave {n:Int} {tmps:Array Value} {c:Int} {ds:List Nat} (hb:Below w.heap.size w W) (hc:CW W (w.heap.size+1) (.int .i64 c)) (hC:ChC n OO RR c) (hp:tmps.getD 2 undef=.pointer (some ⟨w.heap.size+1,0,none⟩)) (hnd:ds.Nodup) (hD:∀ D,D∈ds→RF.Dfr D W∧w.heap.size≤D) :
  LeavesInM Fence.wide 0 Tryz.prog Tryz.f99 tmps (CkPost n OO RR w) (ds.map RF.mark) .returning W :=
 RF.leaves w.heap.size ds W hnd hD fun _ l1 l2 _=>⟨_,results_cellE rfl _ hp ((l2 _).trans hc.c),c,rfl,hC,hb.trans l1⟩
theorem chCheck_any {n:Int} (h:ChEqR w ov rv OO RR) :
  Calls Tryz.prog 99 #[.agg #[.int .i64 n,ov,rv]] w (CkPost n OO RR w):=by
 obtain ⟨oa,oc,rfl,_,hoL,_,_⟩:=h.1.shape;obtain ⟨ra,rc,rfl⟩:=h.2.shape;have HO:=ι h.1;have HR:=ι h.2;have K:=ι (Below.refl w.heap.size w)
 have hrL:RR.length≤1000000000:=by
  obtain ⟨us,⟨a,c,e,_,_,e2,_⟩,h2,_⟩:=h.2;unfold Rg.big at e2;omega
 have H:=ι h;clear h;refine RF.calls_marks Tryz.func99 rfl ?_;simp only [Tryz.ntmps99,List.size_toArray,List.length_cons,List.length_nil,Nat.reduceAdd,Nat.reduceSub,Array.replicate_succ,Array.replicate_zero,List.push_toArray,List.append_toArray,List.nil_append,List.cons_append];have hbx:=box3 w (.int .i64 n) (.slice oa OO.length oc) (.slice ra RR.length rc)
 have hs:(w.alloc (.cells #[.int .i64 n,.slice oa OO.length oc,.slice ra RR.length rc] 87)).heap.size=w.heap.size+1:=by simp
 go_upto_region 0 with (fail);refine Rg.wl ?_;refine Rg.lr 1 (Rg.exec_box _ _ rfl rfl) ?_;go_frame;have hb:Below w.heap.size w (w.alloc (.cells #[.int .i64 n,.slice oa OO.length oc,.slice ra RR.length rc] 87)):=(Below.refl _ _).alloc (Nat.le_refl _) _;generalize w.alloc (.cells #[.int .i64 n,.slice oa OO.length oc,.slice ra RR.length rc] 87)=w1 at *;have A0:=ι hbx.1;have A1:=ι hbx.2.1;have A2:=ι hbx.2.2;replace K:=ι hb;have hs1:w1.heap.size=w.heap.size+1:=hs;clear hbx hb hs;have hnw:=CW.new w1 (.int .i64 0) 31
 have hs:(w1.alloc (.cells #[.int .i64 0] 31)).heap.size=w1.heap.size+1:=by simp
 refine Rg.lr 2 (exec_allocE rfl) ?_;go_frame;have hb:=(Below.refl w1.heap.size w1).alloc (Nat.le_refl _) (.cells #[.int .i64 0] 31);generalize w1.alloc (.cells #[.int .i64 0] 31)=w2 at *;replace A0:=ι (A0.out.below hb);replace A1:=ι (A1.out.below hb);replace A2:=ι (A2.out.below hb);replace K:=ι (Rg.acc K.out hb);clear hb;rw [hs1] at hnw ⊢
 have hs2:w2.heap.size=w.heap.size+2:=by omega
 have C2:=ι hnw;clear hnw hs;go_upto_region 1 with (fail);refine Rg.wl ?_;refine Rg.lr 9 (exec_field _ rfl rfl (chF0 _ _)) ?_;go_frame;refine Rg.lr 10 (Rg.lo (.int .i64 n) ⟨w.heap.size,0,none⟩ (run_loadInt A0.out.cell)) ?_;go_frame;have hnw:=CW.new w2 (.int .i64 0) 3
 have hs:(w2.alloc (.cells #[.int .i64 0] 3)).heap.size=w2.heap.size+1:=by simp
 refine Rg.lr 3 (exec_allocI rfl) ?_;go_frame;have hb:=(Below.refl w2.heap.size w2).alloc (Nat.le_refl _) (.cells #[.int .i64 0] 3);generalize w2.alloc (.cells #[.int .i64 0] 3)=w3 at *;replace A0:=ι (A0.out.below hb);replace A1:=ι (A1.out.below hb);replace A2:=ι (A2.out.below hb);replace C2:=ι (C2.out.below hb);replace K:=ι (Rg.acc K.out hb);clear hb;rw [hs2] at hnw ⊢
 have hs3:w3.heap.size=w.heap.size+3:=by omega
 have C3:=ι hnw;clear hnw hs;refine Rg.list_skip none rfl rfl (Rg.exec_store _ _ _ rfl _ rfl _ rfl (run_storeInt n C3.out.c C3.out.f)) ?_;go_frame;have hk:=K.out.setCell (p:=⟨w.heap.size+2,0,none⟩) (by show w.heap.size≤w.heap.size+2; omega) (.int .i64 n);have x0:=A0.out.other (o:=0) (b':=w.heap.size+2) (.int .i64 n) (by omega);have x1:=A1.out.other (o:=0) (b':=w.heap.size+2) (.int .i64 n) (by omega);have x2:=A2.out.other (o:=0) (b':=w.heap.size+2) (.int .i64 n) (by omega);have y2:=C2.out.other (o:=0) (b':=w.heap.size+2) (.int .i64 n) (by omega);have y3:=C3.out.set (.int .i64 n)
 have hs4:(w3.setCell ⟨w.heap.size+2,0,none⟩ (.int .i64 n)).heap.size=w.heap.size+3:=by simp; omega
 generalize w3.setCell ⟨w.heap.size+2,0,none⟩ (.int .i64 n)=w9 at *;replace K:=ι hk;replace A0:=ι x0;replace A1:=ι x1;replace A2:=ι x2;replace C2:=ι y2;replace C3:=ι y3;clear hk x0 x1 x2 y2 y3
 by_cases hd1:n<1
 ·skip
  go_upto_region 2 with (fail);refine Rg.wl ?_;refine Rg.lr 11 (Rg.lo (.int .i64 n) ⟨(w.heap.size+2),0,none⟩ (run_loadInt C3.out.c)) ?_;go_frame;refine Rg.lr 12 (Rg.bn (.bool true) .lss (h:=b_lss _ Rg.dT)) ?_;go_frame;refine Rg.lm 13 (.bool true) ?_;go_frame;refine Rg.lp 14 ?_;go_frame;refine Rg.lp 15 ?_;go_frame;refine Rg.lr 16 (Rg.pT (.bool true)) ?_;go_frame;go_upto_region 3 with (fail);refine Rg.wl ?_;refine Rg.list_skip none rfl rfl (Rg.exec_store _ _ _ rfl _ rfl _ rfl (run_storeE 2 C2.out.c C2.out.f)) ?_;go_frame;have hk:=K.out.setCell (p:=⟨w.heap.size+1,0,none⟩) (by show w.heap.size≤w.heap.size+1; omega) (.int .i64 2);have y2:=C2.out.set (.int .i64 2);generalize w9.setCell ⟨w.heap.size+1,0,none⟩ (.int .i64 2)=w99 at *;have KX:=ι hk;have CX:=ι y2;have HCX:=ι (show ChC n OO RR 2 from .inl ⟨by omega,rfl⟩);clear hk y2;go_wp2;exact ck_leave (ds:=[]) KX.out CX.out HCX.out rfl (by simp) (fun D hD=>by simp at hD)
 by_cases hd2:64<n
 ·skip
  go_upto_region 2 with (fail);refine Rg.wl ?_;refine Rg.lr 11 (Rg.lo (.int .i64 n) ⟨(w.heap.size+2),0,none⟩ (run_loadInt C3.out.c)) ?_;go_frame;refine Rg.lr 12 (Rg.bn (.bool false) .lss (h:=b_lss _ Rg.dF)) ?_;go_frame;refine Rg.lm 13 (.bool false) ?_;go_frame;refine Rg.lW 14 (Rg.lo (.int .i64 n) ⟨(w.heap.size+2),0,none⟩ (run_loadInt C3.out.c)) ?_;go_frame;refine Rg.lW 15 (Rg.bn (.bool true) .gtr (h:=b_gtr _ Rg.dT)) ?_;go_frame;refine Rg.lr 16 (Rg.pF (.bool true)) ?_;go_frame;go_upto_region 3 with (fail);refine Rg.wl ?_;refine Rg.list_skip none rfl rfl (Rg.exec_store _ _ _ rfl _ rfl _ rfl (run_storeE 2 C2.out.c C2.out.f)) ?_;go_frame;have hk:=K.out.setCell (p:=⟨w.heap.size+1,0,none⟩) (by show w.heap.size≤w.heap.size+1; omega) (.int .i64 2);have y2:=C2.out.set (.int .i64 2);generalize w9.setCell ⟨w.heap.size+1,0,none⟩ (.int .i64 2)=w99 at *;have KX:=ι hk;have CX:=ι y2
  have HCX:=ι (show ChC n OO RR 2 from .inl ⟨by omega,rfl⟩);clear hk y2;go_wp2;exact ck_leave (ds:=[]) KX.out CX.out HCX.out rfl (by simp) (fun D hD=>by simp at hD)
 go_upto_region 2 with (fail);refine Rg.wl ?_;refine Rg.lr 11 (Rg.lo (.int .i64 n) ⟨(w.heap.size+2),0,none⟩ (run_loadInt C3.out.c)) ?_;go_frame;refine Rg.lr 12 (Rg.bn (.bool false) .lss (h:=b_lss _ Rg.dF)) ?_;go_frame;refine Rg.lm 13 (.bool false) ?_;go_frame;refine Rg.lW 14 (Rg.lo (.int .i64 n) ⟨(w.heap.size+2),0,none⟩ (run_loadInt C3.out.c)) ?_;go_frame;refine Rg.lW 15 (Rg.bn (.bool false) .gtr (h:=b_gtr _ Rg.dF)) ?_;go_frame;refine Rg.lr 16 (Rg.pF (.bool false)) ?_;go_frame
 by_cases hl1:(OO.length:Int)=n
 case neg =>
  skip
  go_upto_region 4 with (fail);refine Rg.wl ?_;refine Rg.lr 17 (exec_field _ rfl rfl (chF1 _ _)) ?_;go_frame;refine Rg.lr 18 (Rg.lo (.slice oa OO.length oc) ⟨w.heap.size,1,none⟩ (Rg.run_loadSl _ _ Tryz.underlying84 A1.out.cell)) ?_;go_frame;refine Rg.lr 19 (Rg.ln Tryz.underlying84) ?_;go_frame;refine Rg.lr 20 (Rg.lo (.int .i64 n) ⟨(w.heap.size+2),0,none⟩ (run_loadInt C3.out.c)) ?_;go_frame;refine Rg.lr 21 (Rg.bn (.bool true) .neq (h:=b_neqB _ Rg.dT)) ?_;go_frame;refine Rg.lm 22 (.bool true) ?_;go_frame;refine Rg.lp 23 ?_;go_frame;refine Rg.lp 24 ?_;go_frame;refine Rg.lp 25 ?_;go_frame;refine Rg.lp 26 ?_;go_frame;refine Rg.lp 27 ?_;go_frame;refine Rg.lr 28 (Rg.pT (.bool true)) ?_;go_frame;go_upto_region 5 with (fail);refine Rg.wl ?_;refine Rg.list_skip none rfl rfl (Rg.exec_store _ _ _ rfl _ rfl _ rfl (run_storeE 3 C2.out.c C2.out.f)) ?_;go_frame;have hk:=K.out.setCell (p:=⟨w.heap.size+1,0,none⟩) (by show w.heap.size≤w.heap.size+1; omega) (.int .i64 3)
  have y2:=C2.out.set (.int .i64 3);generalize w9.setCell ⟨w.heap.size+1,0,none⟩ (.int .i64 3)=w99 at *;have KX:=ι hk;have CX:=ι y2;have HCX:=ι (show ChC n OO RR 3 from .inr ⟨by omega,.inr ⟨fun hh=>hl1 hh.lens.1,rfl⟩⟩);clear hk y2;go_wp2;exact ck_leave (ds:=[]) KX.out CX.out HCX.out rfl (by simp) (fun D hD=>by simp at hD)
 by_cases hl2:(RR.length:Int)=n
 case neg =>
  skip
  go_upto_region 4 with (fail);refine Rg.wl ?_;refine Rg.lr 17 (exec_field _ rfl rfl (chF1 _ _)) ?_;go_frame;refine Rg.lr 18 (Rg.lo (.slice oa OO.length oc) ⟨w.heap.size,1,none⟩ (Rg.run_loadSl _ _ Tryz.underlying84 A1.out.cell)) ?_;go_frame;refine Rg.lr 19 (Rg.ln Tryz.underlying84) ?_;go_frame;refine Rg.lr 20 (Rg.lo (.int .i64 n) ⟨(w.heap.size+2),0,none⟩ (run_loadInt C3.out.c)) ?_;go_frame;refine Rg.lr 21 (Rg.bn (.bool false) .neq (h:=b_neqB _ Rg.dF)) ?_;go_frame;refine Rg.lm 22 (.bool false) ?_;go_frame;refine Rg.lW 23 (exec_field _ rfl rfl (chF2 _ _)) ?_;go_frame;refine Rg.lW 24 (Rg.lo (.slice ra RR.length rc) ⟨w.heap.size,2,none⟩ (Rg.run_loadSl _ _ Tryz.underlying85 A2.out.cell)) ?_;go_frame;refine Rg.lW 25 (Rg.ln Tryz.underlying85) ?_;go_frame;refine Rg.lW 26 (Rg.lo (.int .i64 n) ⟨(w.heap.size+2),0,none⟩ (run_loadInt C3.out.c)) ?_;go_frame;refine Rg.lW 27 (Rg.bn (.bool true) .neq (h:=b_neqB _ Rg.dT)) ?_;go_frame
  refine Rg.lr 28 (Rg.pF (.bool true)) ?_;go_frame;go_upto_region 5 with (fail);refine Rg.wl ?_;refine Rg.list_skip none rfl rfl (Rg.exec_store _ _ _ rfl _ rfl _ rfl (run_storeE 3 C2.out.c C2.out.f)) ?_;go_frame;have hk:=K.out.setCell (p:=⟨w.heap.size+1,0,none⟩) (by show w.heap.size≤w.heap.size+1; omega) (.int .i64 3);have y2:=C2.out.set (.int .i64 3);generalize w9.setCell ⟨w.heap.size+1,0,none⟩ (.int .i64 3)=w99 at *;have KX:=ι hk;have CX:=ι y2;have HCX:=ι (show ChC n OO RR 3 from .inr ⟨by omega,.inr ⟨fun hh=>hl2 hh.lens.2,rfl⟩⟩);clear hk y2;go_wp2;exact ck_leave (ds:=[]) KX.out CX.out HCX.out rfl (by simp) (fun D hD=>by simp at hD)
 go_upto_region 4 with (fail);refine Rg.wl ?_;refine Rg.lr 17 (exec_field _ rfl rfl (chF1 _ _)) ?_;go_frame;refine Rg.lr 18 (Rg.lo (.slice oa OO.length oc) ⟨w.heap.size,1,none⟩ (Rg.run_loadSl _ _ Tryz.underlying84 A1.out.cell)) ?_;go_frame;refine Rg.lr 19 (Rg.ln Tryz.underlying84) ?_;go_frame;refine Rg.lr 20 (Rg.lo (.int .i64 n) ⟨(w.heap.size+2),0,none⟩ (run_loadInt C3.out.c)) ?_;go_frame;refine Rg.lr 21 (Rg.bn (.bool false) .neq (h:=b_neqB _ Rg.dF)) ?_;go_frame;refine Rg.lm 22 (.bool false) ?_;go_frame;refine Rg.lW 23 (exec_field _ rfl rfl (chF2 _ _)) ?_;go_frame;refine Rg.lW 24 (Rg.lo (.slice ra RR.length rc) ⟨w.heap.size,2,none⟩ (Rg.run_loadSl _ _ Tryz.underlying85 A2.out.cell)) ?_;go_frame;refine Rg.lW 25 (Rg.ln Tryz.underlying85) ?_;go_frame;refine Rg.lW 26 (Rg.lo (.int .i64 n) ⟨(w.heap.size+2),0,none⟩ (run_loadInt C3.out.c)) ?_;go_frame;refine Rg.lW 27 (Rg.bn (.bool false) .neq (h:=b_neqB _ Rg.dF)) ?_;go_frame
 refine Rg.lr 28 (Rg.pF (.bool false)) ?_;go_frame;obtain ⟨N,rfl⟩:∃ N:Nat,n=N:=⟨n.toNat,by omega⟩
 have hN1:1≤N:=by omega
 have hN2:N≤64:=by omega
 have HLO:=ι (show OO.length=N by omega);have HLR:=ι (show RR.length=N by omega);clear hl1 hl2 hd1 hd2;go_upto_region 6 with (fail);refine Rg.wl ?_;have hnw:=CW.new w9 (.slice none 0 0) 22
 have hs:(w9.alloc (.cells #[.slice none 0 0] 22)).heap.size=w9.heap.size+1:=by simp
 refine Rg.lr 4 (exec_allocPs rfl) ?_;go_frame;have hb:=(Below.refl w9.heap.size w9).alloc (Nat.le_refl _) (.cells #[.slice none 0 0] 22);generalize w9.alloc (.cells #[.slice none 0 0] 22)=w10 at *;replace A0:=ι (A0.out.below hb);replace A1:=ι (A1.out.below hb);replace A2:=ι (A2.out.below hb);replace C2:=ι (C2.out.below hb);replace C3:=ι (C3.out.below hb);replace K:=ι (Rg.acc K.out hb);clear hb;rw [hs4] at hnw ⊢
 have hs5:w10.heap.size=w.heap.size+4:=by omega
 have C4:=ι hnw;clear hnw hs;have CI:=ι (show CkI w ((N:Nat):Int) (.slice oa OO.length oc) (.slice ra RR.length rc) w10 (.slice none 0 0) [] from ⟨K.out,A0.out,A1.out,A2.out,C2.out,C3.out,C4.out,RowF.nil _ (by omega)⟩);have HSZ:=ι hs5;clear A0 A1 A2 C2 C3 C4 hs1 hs2 hs3 hs4 hs5;go_upto_region 7 with (fail);refine Rg.wl ?_;refine Rg.lr 29 (Rg.lo ((.agg #[.int .i64 ((N:Nat):Int),.slice oa OO.length oc,.slice ra RR.length rc])) ⟨w.heap.size,0,none⟩ (run_loadC3 CI.out.a0.cell CI.out.a1.cell CI.out.a2.cell)) ?_;go_frame;refine Rg.lk 30 (exec_fn1 126 _ _ rfl rfl (Wvcl0 _ _)) ?_;refine (reps_any _ _ _ w10).mono ?_;rintro e1 w11 ⟨fb,rfl,hfb,hb⟩;have hsz:=hb.size;refine ⟨_,rfl,?_⟩;go_frame;replace CI:=ι (CI.out.below hb);replace K:=ι (Rg.acc K.out hb);clear hb;have FB:=ι hfb;clear hfb;have HS0:=ι (show w.heap.size+4≤w11.heap.size by have:=HSZ.out; omega)
 clear hsz;obtain ⟨us,hus,hul,hur⟩:=HR.out;have HUR:=ι hur
 have hrv:RV3 w.heap.size w11 ra RR.length (fun k=>us[k]?.getD undef):=by
  obtain ⟨a',c',e,q1,q2,q3,q4⟩:=hus
  injection e with e1 e2 e3
  refine ⟨by omega,fun h0=>?_,fun b off e5 j hj=>?_,K.out.size⟩
  ·obtain ⟨b,o,e4,e5,_⟩:=q4 (by omega)
   exact ⟨b,o,e1.trans e4,e5⟩
  ·obtain ⟨b',o',e4,e6,e7⟩:=q4 (by omega)
   rw [e1,e4] at e5;simp only [Option.some.injEq,Addr.mk.injEq,and_true] at e5;obtain ⟨rfl,rfl⟩:=e5;rw [(K.out.cell (p:=⟨b',o'+j,none⟩) e6)];show _=some (us[j]?.getD undef);rw [List.getElem?_eq_getElem (by omega)];exact e7 j (by omega)
 have HRV:=ι hrv;have HUL:=ι hul;clear hus hrv hul hur;go_wp2
 refine range_reps rfl FB.out HRV.out rfl (fun pre W=>∃ v gs,CkI w ((N:Nat):Int) (.slice oa OO.length oc) (.slice ra RR.length rc) W v gs∧gs.map Ma.ofN=pre.flatMap (rowOf RR)∧(∀ g∈gs,Cm.Gd N g)∧gs.length≤64*pre.length)
  (fun c pre W=>c=.ret∧Below w.heap.size w W∧CW W (w.heap.size+1) (.int .i64 3)∧¬ ChOK ((N:Nat):Int) OO RR) ?hI ?hIx ⟨_,[],CI.out,rfl,fun g hg=>by simp at hg,Nat.zero_le _⟩ ?a1 ?assign ?body ?done ?stop
 case assign =>
  intro l x W K hK
  gi_wp2
  exact hK
 case hI =>
  rintro pre W W' row ⟨v,gs,h1,h2⟩ hg hr;exact ⟨v,gs,h1.keep (by have:=HS0.out; omega) hg hr,h2⟩
 case hIx =>
  rintro c pre W W' row ⟨rfl,h1,h2,h3⟩ hg hr;exact ⟨rfl,h1.grown hg h1.size (fun k e=>by have:=(hr k e).1; have:=HS0.out; omega),h2.kp (Rg.Kp.of_grown hg (M:=fun k=>row=some k) fun _ e=>e) (fun e=>by have:=(hr _ e).1; have:=HS0.out; omega),h3⟩
 case body =>
  rintro l pre ⟨X,hX⟩ W ⟨v,gs,hci,hfl,hgg,hgl⟩ hpl;obtain ⟨B,hB⟩:∃ B,w11.heap.size=B:=⟨_,rfl⟩;rw [hB] at HS0 ⊢;clear FB HRV CI K hB;have CI:=ι hci;have K:=ι hci.bel;have KQ:=ι (KK.refl (B:=B) (n₀:=w.heap.size) (W:=W) hci.bel.size);have HFL:=ι hfl;have HGG:=ι hgg
  have HPRE:=ι (show gs.length≤64*64 by
   have:pre.length<64:=by have:=HLR.out; omega
   omega)
  have HXR:=ι hX;have HGLL:=ι hgl;have HXO:=ι (show X<OO.length by have:=HLO.out; have:=HLR.out; omega);clear hci hfl hgg hgl;have hu:=HUR.out X (by rw [HUL.out]; exact hX) hX
  have e1:us[X]?.getD undef=us[X]'(by rw [HUL.out]; exact hX):=by rw [List.getElem?_eq_getElem (by rw [HUL.out]; exact hX)]; rfl
  rw [← e1] at hu
  dsimp only
  generalize us[X]?.getD undef=u at *;clear e1;obtain ⟨r,hr⟩:∃ r:List (List Int),Hid (RR[X]'hX=r):=⟨_,ι rfl⟩
  replace hu:Rg.Rows w u r:=by rw [← hr.out]; exact hu
  obtain ⟨ua,uc,rfl,_,hrl,_,hrc⟩:=hu.shape;have HRC:=ι hrc;obtain ⟨o',hoo⟩:∃ o:List Int,Hid (OO[X]'HXO.out=o):=⟨_,ι rfl⟩;have hos:=HO.out.shape;obtain ⟨oa',oc',e2,_,_,_,hos⟩:=hos
  injection e2 with e3 _ e5
  subst e3 e5;obtain ⟨ob,oo,rfl,hob,hos⟩:=hos (by have:=HXO.out; omega);obtain ⟨yv,hyc,hyi⟩:=hos X HXO.out;rw [show OO[X]=o' from hoo.out] at hyi;obtain ⟨ya,yc,rfl,_⟩:=hyi.shape;have CO:=ι (CL.mk hyc hob);clear hrc hos hyc hyi hob hu
  by_cases hq1:(r.length:Int)=(o'.length:Int)
  case neg =>
   skip
   gi_upto_region 10 with (fail)
   refine wpIn_region_list ?_;refine Rg.in_run (some 33) rfl rfl (fun _ hh=>by cases hh) (Rg.xm (.slice ua r.length uc) _ rfl rfl) ?_;go_frame;refine Rg.in_run (some 34) rfl rfl (fun _ hh=>by cases hh) (Rg.ln Tryz.underlying22) ?_;go_frame;refine Rg.in_run (some 35) rfl rfl (fun _ hh=>by cases hh) (exec_field _ rfl rfl (chF1 _ _)) ?_;go_frame;refine Rg.in_run (some 36) rfl rfl (fun _ hh=>by cases hh) (Rg.lo (.slice (some ⟨ob,oo,none⟩) OO.length oc) ⟨w.heap.size,1,none⟩ (Rg.run_loadSl _ _ Tryz.underlying84 CI.out.a1.cell)) ?_;go_frame;refine Rg.in_run (some 37) rfl rfl (fun _ hh=>by cases hh) (Rg.xm (.int .i64 ((X:Nat):Int)) _ rfl rfl) ?_;go_frame;refine Rg.in_run (some 38) rfl rfl (fun _ hh=>by cases hh) (exec_indexS slIntss _ _ rfl ob (oo) (OO.length) oc (X) rfl rfl HXO.out) ?_;go_frame;refine Rg.in_run (some 39) rfl rfl (fun _ hh=>by cases hh) (Rg.lo (.slice ya o'.length yc) ⟨ob,oo+X,none⟩ (Rg.run_loadSl _ _ Tryz.underlying25 ((Below.cell (p:=⟨ob,oo+X,none⟩) K.out CO.out.lt).trans CO.out.cell))) ?_;go_frame
   refine Rg.in_run (some 40) rfl rfl (fun _ hh=>by cases hh) (Rg.ln Tryz.underlying25) ?_;go_frame;refine Rg.in_run (some 41) rfl rfl (fun _ hh=>by cases hh) (Rg.bn (.bool true) .neq (h:=b_neqB _ Rg.dT)) ?_;go_frame;refine Rg.in_run (some 42) rfl rfl (fun _ hh=>by cases hh) (Rg.xm (.bool true) _ rfl rfl) ?_;go_frame;refine Rg.inW_pass (some 43) (by kernel_rfl) rfl ?_;go_frame;refine Rg.inW_pass (some 44) (by kernel_rfl) rfl ?_;go_frame;refine Rg.inW_pass (some 45) (by kernel_rfl) rfl ?_;go_frame;refine Rg.inW_pass (some 46) (by kernel_rfl) rfl ?_;go_frame;refine Rg.inW_pass (some 47) (by kernel_rfl) rfl ?_;go_frame;refine Rg.inW_pass (some 48) (by kernel_rfl) rfl ?_;go_frame;refine Rg.in_run (some 49) rfl rfl (fun _ hh=>by cases hh) (Rg.pT (.bool true)) ?_;go_frame
   gi_upto_region 11 with (fail)
   refine wpIn_region_list ?_;refine Rg.in_skip none rfl rfl (fun _ hh=>by cases hh) (Rg.exec_store _ _ _ rfl _ rfl _ rfl (run_storeE 3 CI.out.c2.c CI.out.c2.f)) ?_;go_frame;have hk:=K.out.setCell (p:=⟨w.heap.size+1,0,none⟩) (by show w.heap.size≤w.heap.size+1; omega) (.int .i64 3);have y2:=CI.out.c2.set (.int .i64 3);have hq:=KQ.out.set (b:=w.heap.size+1) (o:=0) (.int .i64 3) (by omega);generalize W.setCell ⟨w.heap.size+1,0,none⟩ (.int .i64 3)=w99 at *;have KX:=ι hk;have CX:=ι y2;have QX:=ι hq;have HNX:=ι (show ¬ ChOK ((N:Nat):Int) OO RR from fun hh=>by have:=(hh.row HXR.out HXO.out).1; rw [show RR[X]=r from hr.out,show OO[X]=o' from hoo.out] at this; omega);clear hk y2 hq
   gi_wp2
   exact ⟨QX.out.keeps,rfl,KX.out,CX.out,HNX.out⟩
  by_cases hq2:(N:Int) - (X:Int)<(r.length:Int)
  case pos =>
   skip
   gi_upto_region 10 with (fail)
   refine wpIn_region_list ?_;refine Rg.in_run (some 33) rfl rfl (fun _ hh=>by cases hh) (Rg.xm (.slice ua r.length uc) _ rfl rfl) ?_;go_frame;refine Rg.in_run (some 34) rfl rfl (fun _ hh=>by cases hh) (Rg.ln Tryz.underlying22) ?_;go_frame;refine Rg.in_run (some 35) rfl rfl (fun _ hh=>by cases hh) (exec_field _ rfl rfl (chF1 _ _)) ?_;go_frame;refine Rg.in_run (some 36) rfl rfl (fun _ hh=>by cases hh) (Rg.lo (.slice (some ⟨ob,oo,none⟩) OO.length oc) ⟨w.heap.size,1,none⟩ (Rg.run_loadSl _ _ Tryz.underlying84 CI.out.a1.cell)) ?_;go_frame;refine Rg.in_run (some 37) rfl rfl (fun _ hh=>by cases hh) (Rg.xm (.int .i64 ((X:Nat):Int)) _ rfl rfl) ?_;go_frame;refine Rg.in_run (some 38) rfl rfl (fun _ hh=>by cases hh) (exec_indexS slIntss _ _ rfl ob (oo) (OO.length) oc (X) rfl rfl HXO.out) ?_;go_frame;refine Rg.in_run (some 39) rfl rfl (fun _ hh=>by cases hh) (Rg.lo (.slice ya o'.length yc) ⟨ob,oo+X,none⟩ (Rg.run_loadSl _ _ Tryz.underlying25 ((Below.cell (p:=⟨ob,oo+X,none⟩) K.out CO.out.lt).trans CO.out.cell))) ?_;go_frame
   refine Rg.in_run (some 40) rfl rfl (fun _ hh=>by cases hh) (Rg.ln Tryz.underlying25) ?_;go_frame;refine Rg.in_run (some 41) rfl rfl (fun _ hh=>by cases hh) (Rg.bn (.bool false) .neq (h:=b_neqB _ Rg.dF)) ?_;go_frame;refine Rg.in_run (some 42) rfl rfl (fun _ hh=>by cases hh) (Rg.xm (.bool false) _ rfl rfl) ?_;go_frame;refine Rg.inW_run (some 43) rfl rfl (fun _ hh=>by cases hh) (Rg.xm (.slice ua r.length uc) _ rfl rfl) ?_;go_frame;refine Rg.inW_run (some 44) rfl rfl (fun _ hh=>by cases hh) (Rg.ln Tryz.underlying22) ?_;go_frame;refine Rg.inW_run (some 45) rfl rfl (fun _ hh=>by cases hh) (Rg.lo (.int .i64 ((N:Nat):Int)) ⟨(w.heap.size+2),0,none⟩ (run_loadInt CI.out.c3.c)) ?_;go_frame;refine Rg.inW_run (some 46) rfl rfl (fun _ hh=>by cases hh) (Rg.xm (.int .i64 ((X:Nat):Int)) _ rfl rfl) ?_;go_frame;refine Rg.inW_run (some 47) rfl rfl (fun _ hh=>by cases hh) (Rg.bn (.int .i64 ((N:Int) - (X:Int))) .sub (h:=b_sub _ (by omega) (by omega))) ?_;go_frame
   refine Rg.inW_run (some 48) rfl rfl (fun _ hh=>by cases hh) (Rg.bn (.bool true) .gtr (h:=b_gtr _ Rg.dT)) ?_;go_frame;refine Rg.in_run (some 49) rfl rfl (fun _ hh=>by cases hh) (Rg.pF (.bool true)) ?_;go_frame
   gi_upto_region 11 with (fail)
   refine wpIn_region_list ?_;refine Rg.in_skip none rfl rfl (fun _ hh=>by cases hh) (Rg.exec_store _ _ _ rfl _ rfl _ rfl (run_storeE 3 CI.out.c2.c CI.out.c2.f)) ?_;go_frame;have hk:=K.out.setCell (p:=⟨w.heap.size+1,0,none⟩) (by show w.heap.size≤w.heap.size+1; omega) (.int .i64 3);have y2:=CI.out.c2.set (.int .i64 3);have hq:=KQ.out.set (b:=w.heap.size+1) (o:=0) (.int .i64 3) (by omega);generalize W.setCell ⟨w.heap.size+1,0,none⟩ (.int .i64 3)=w99 at *;have KX:=ι hk;have CX:=ι y2;have QX:=ι hq;have HNX:=ι (show ¬ ChOK ((N:Nat):Int) OO RR from fun hh=>by have:=(hh.row HXR.out HXO.out).2; rw [show RR[X]=r from hr.out] at this; omega);clear hk y2 hq
   gi_wp2
   exact ⟨QX.out.keeps,rfl,KX.out,CX.out,HNX.out⟩
  gi_upto_region 10 with (fail)
  refine wpIn_region_list ?_;refine Rg.in_run (some 33) rfl rfl (fun _ hh=>by cases hh) (Rg.xm (.slice ua r.length uc) _ rfl rfl) ?_;go_frame;refine Rg.in_run (some 34) rfl rfl (fun _ hh=>by cases hh) (Rg.ln Tryz.underlying22) ?_;go_frame;refine Rg.in_run (some 35) rfl rfl (fun _ hh=>by cases hh) (exec_field _ rfl rfl (chF1 _ _)) ?_;go_frame;refine Rg.in_run (some 36) rfl rfl (fun _ hh=>by cases hh) (Rg.lo (.slice (some ⟨ob,oo,none⟩) OO.length oc) ⟨w.heap.size,1,none⟩ (Rg.run_loadSl _ _ Tryz.underlying84 CI.out.a1.cell)) ?_;go_frame;refine Rg.in_run (some 37) rfl rfl (fun _ hh=>by cases hh) (Rg.xm (.int .i64 ((X:Nat):Int)) _ rfl rfl) ?_;go_frame;refine Rg.in_run (some 38) rfl rfl (fun _ hh=>by cases hh) (exec_indexS slIntss _ _ rfl ob (oo) (OO.length) oc (X) rfl rfl HXO.out) ?_;go_frame;refine Rg.in_run (some 39) rfl rfl (fun _ hh=>by cases hh) (Rg.lo (.slice ya o'.length yc) ⟨ob,oo+X,none⟩ (Rg.run_loadSl _ _ Tryz.underlying25 ((Below.cell (p:=⟨ob,oo+X,none⟩) K.out CO.out.lt).trans CO.out.cell))) ?_;go_frame
  refine Rg.in_run (some 40) rfl rfl (fun _ hh=>by cases hh) (Rg.ln Tryz.underlying25) ?_;go_frame;refine Rg.in_run (some 41) rfl rfl (fun _ hh=>by cases hh) (Rg.bn (.bool false) .neq (h:=b_neqB _ Rg.dF)) ?_;go_frame;refine Rg.in_run (some 42) rfl rfl (fun _ hh=>by cases hh) (Rg.xm (.bool false) _ rfl rfl) ?_;go_frame;refine Rg.inW_run (some 43) rfl rfl (fun _ hh=>by cases hh) (Rg.xm (.slice ua r.length uc) _ rfl rfl) ?_;go_frame;refine Rg.inW_run (some 44) rfl rfl (fun _ hh=>by cases hh) (Rg.ln Tryz.underlying22) ?_;go_frame;refine Rg.inW_run (some 45) rfl rfl (fun _ hh=>by cases hh) (Rg.lo (.int .i64 ((N:Nat):Int)) ⟨(w.heap.size+2),0,none⟩ (run_loadInt CI.out.c3.c)) ?_;go_frame;refine Rg.inW_run (some 46) rfl rfl (fun _ hh=>by cases hh) (Rg.xm (.int .i64 ((X:Nat):Int)) _ rfl rfl) ?_;go_frame;refine Rg.inW_run (some 47) rfl rfl (fun _ hh=>by cases hh) (Rg.bn (.int .i64 ((N:Int) - (X:Int))) .sub (h:=b_sub _ (by omega) (by omega))) ?_;go_frame
  refine Rg.inW_run (some 48) rfl rfl (fun _ hh=>by cases hh) (Rg.bn (.bool false) .gtr (h:=b_gtr _ Rg.dF)) ?_;go_frame;refine Rg.in_run (some 49) rfl rfl (fun _ hh=>by cases hh) (Rg.pF (.bool false)) ?_;go_frame;have HG0:=ι (show gs.map Ma.ofN=gs.map Ma.ofN++r.take 0 by simp);have HL0:=ι (show gs.length≤gs.length+0 from Nat.le_refl _)
  gi_wp2
  gi_loopw [52] (fun jv wr=>∃ (j:Nat) (v:Value) (gs':List (List Nat)),jv=.int .i64 j∧j≤r.length∧Hid (CkI w ((N:Nat):Int) (.slice (some ⟨ob,oo,none⟩) OO.length oc) (.slice ra RR.length rc) wr v gs')∧Hid (KK B w.heap.size W wr)∧Hid (gs'.map Ma.ofN=gs.map Ma.ofN++r.take j)∧Hid (∀ g∈gs',Cm.Gd N g)∧Hid (gs'.length≤gs.length+j)) (fun jv _=>r.length - (intOf jv).toNat)
  case atStart=>exact ⟨0,_,_,rfl,Nat.zero_le _,CI,KQ,HG0,HGG,HL0⟩
  case round =>
   clear CI KQ HG0 HGG HL0 K;obtain ⟨j,v,gs',rfl,hj,CI,KQ,HG0,HGG,HL0⟩:=hrel;have K:=ι CI.out.bel;obtain ⟨va,vc,hsv⟩:=CI.out.row.shape;subst hsv
   by_cases hjl:j<r.length
   ·have hjN:(j:Int)<(r.length:Int):=by omega
    have HJL:=ι hjl;obtain ⟨ub,uo,rfl,hub,huc⟩:=HRC.out (by omega);obtain ⟨xv,hxc,hxi⟩:=huc j hjl;obtain ⟨x,hx⟩:∃ x:List Int,Hid (r[j]'hjl=x):=⟨_,ι rfl⟩
    replace hxi:Rg.Ints w xv x:=by rw [← hx.out]; exact hxi
    obtain ⟨xa,xc,rfl,_⟩:=hxi.shape
    have hxl:x.length≤1000000000:=by obtain ⟨m',a',c',e',_,e2'⟩:=hxi.len; omega
    have CX:=ι (CL.mk hxc hub);have XU:=ι hxi;have HXM:=ι (show x∈RR[X]'HXR.out by rw [show RR[X]'HXR.out=r from hr.out,← hx.out]; exact List.getElem_mem hjl);have HPS:=ι (show gs'.length<1000000 by have:=HL0.out; have:=HPRE.out; omega);clear huc hxc hxi hub
    gi_upto_region 14 with (fail)
    refine wpIn_region_list ?_;refine Rg.in_run (some 54) rfl rfl (fun _ hh=>by cases hh) (exec_indexS slPerms _ _ rfl ub (uo) (r.length) uc (j) rfl rfl HJL.out) ?_;go_frame;refine Rg.in_run (some 55) rfl rfl (fun _ hh=>by cases hh) (Rg.lo (.slice xa x.length xc) ⟨ub,uo+j,none⟩ (Rg.run_loadSl _ _ Tryz.underlying30 ((Below.cell (p:=⟨ub,uo+j,none⟩) K.out CX.out.lt).trans CX.out.cell))) ?_;go_frame;refine Rg.in_run (some 8) rfl rfl (fun _ hh=>by cases hh) (Rg.xa (.slice xa x.length xc) _ rfl rfl) ?_;go_frame
    by_cases hp1:(x.length:Int)=(N:Int)
    case neg =>
     skip
     gi_upto_region 15 with (fail)
     refine wpIn_region_list ?_;refine Rg.in_run (some 56) rfl rfl (fun _ hh=>by cases hh) (Rg.xm (.slice xa x.length xc) _ rfl rfl) ?_;go_frame;refine Rg.in_run (some 57) rfl rfl (fun _ hh=>by cases hh) (Rg.ln Tryz.underlying30) ?_;go_frame;refine Rg.in_run (some 58) rfl rfl (fun _ hh=>by cases hh) (Rg.lo (.int .i64 ((N:Nat):Int)) ⟨(w.heap.size+2),0,none⟩ (run_loadInt CI.out.c3.c)) ?_;go_frame;refine Rg.in_run (some 59) rfl rfl (fun _ hh=>by cases hh) (Rg.bn (.bool true) .neq (h:=b_neqB _ Rg.dT)) ?_;go_frame;refine Rg.in_run (some 60) rfl rfl (fun _ hh=>by cases hh) (Rg.xm (.bool true) _ rfl rfl) ?_;go_frame;refine Rg.inW_pass (some 61) (by kernel_rfl) rfl ?_;go_frame;refine Rg.inW_pass (some 62) (by kernel_rfl) rfl ?_;go_frame;refine Rg.inW_pass (some 63) (by kernel_rfl) rfl ?_;go_frame;refine Rg.in_run (some 64) rfl rfl (fun _ hh=>by cases hh) (Rg.pT (.bool true)) ?_;go_frame
     gi_upto_region 16 with (fail)
     refine wpIn_region_list ?_;refine Rg.in_skip none rfl rfl (fun _ hh=>by cases hh) (Rg.exec_store _ _ _ rfl _ rfl _ rfl (run_storeE 3 CI.out.c2.c CI.out.c2.f)) ?_;go_frame;have hk:=K.out.setCell (p:=⟨w.heap.size+1,0,none⟩) (by show w.heap.size≤w.heap.size+1; omega) (.int .i64 3);have y2:=CI.out.c2.set (.int .i64 3);have hq:=KQ.out.set (b:=w.heap.size+1) (o:=0) (.int .i64 3) (by omega);generalize wr.setCell ⟨w.heap.size+1,0,none⟩ (.int .i64 3)=w99 at *;have KX:=ι hk;have CX:=ι y2;have QX:=ι hq;have HNX:=ι (show ¬ ChOK ((N:Nat):Int) OO RR from fun hh=>hp1 (hh.perm HXR.out HXM.out).1);clear hk y2 hq
     gi_wp2
     exact ⟨QX.out.keeps,rfl,KX.out,CX.out,HNX.out⟩
    by_cases hp0:Ma.pchk x=0
    case neg =>
     skip
     gi_upto_region 15 with (fail)
     refine wpIn_region_list ?_;refine Rg.in_run (some 56) rfl rfl (fun _ hh=>by cases hh) (Rg.xm (.slice xa x.length xc) _ rfl rfl) ?_;go_frame;refine Rg.in_run (some 57) rfl rfl (fun _ hh=>by cases hh) (Rg.ln Tryz.underlying30) ?_;go_frame;refine Rg.in_run (some 58) rfl rfl (fun _ hh=>by cases hh) (Rg.lo (.int .i64 ((N:Nat):Int)) ⟨(w.heap.size+2),0,none⟩ (run_loadInt CI.out.c3.c)) ?_;go_frame;refine Rg.in_run (some 59) rfl rfl (fun _ hh=>by cases hh) (Rg.bn (.bool false) .neq (h:=b_neqB _ Rg.dF)) ?_;go_frame;refine Rg.in_run (some 60) rfl rfl (fun _ hh=>by cases hh) (Rg.xm (.bool false) _ rfl rfl) ?_;go_frame;refine Rg.inW_run (some 61) rfl rfl (fun _ hh=>by cases hh) (Rg.xm (.slice xa x.length xc) _ rfl rfl) ?_;go_frame;refine Rg.inW_ask (some 62) rfl rfl (fun _ hh=>by cases hh) _ _ (exec_fn1 75 _ _ rfl rfl (Wvcl1 _ _)) ?_;refine (permCheck_any _ _ wr (XU.out.below K.out)).mono ?_
     rintro e1 w41 ⟨rfl,hb⟩;refine ⟨_,rfl,?_⟩;go_frame;replace CI:=ι (CI.out.below hb);replace KQ:=ι (KQ.out.below hb);replace K:=ι (Rg.acc K.out hb);clear hb;refine Rg.inW_run (some 63) rfl rfl (fun _ hh=>by cases hh) (Rg.bn (.bool true) .neq (h:=b_neqB _ (decide_eq_true hp0))) ?_;go_frame;refine Rg.in_run (some 64) rfl rfl (fun _ hh=>by cases hh) (Rg.pF (.bool true)) ?_;go_frame
     gi_upto_region 16 with (fail)
     refine wpIn_region_list ?_;refine Rg.in_skip none rfl rfl (fun _ hh=>by cases hh) (Rg.exec_store _ _ _ rfl _ rfl _ rfl (run_storeE 3 CI.out.c2.c CI.out.c2.f)) ?_;go_frame;have hk:=K.out.setCell (p:=⟨w.heap.size+1,0,none⟩) (by show w.heap.size≤w.heap.size+1; omega) (.int .i64 3);have y2:=CI.out.c2.set (.int .i64 3);have hq:=KQ.out.set (b:=w.heap.size+1) (o:=0) (.int .i64 3) (by omega);generalize w41.setCell ⟨w.heap.size+1,0,none⟩ (.int .i64 3)=w99 at *;have KX:=ι hk;have CX:=ι y2;have QX:=ι hq;have HNX:=ι (show ¬ ChOK ((N:Nat):Int) OO RR from fun hh=>hp0 (hh.perm HXR.out HXM.out).2);clear hk y2 hq
     gi_wp2
     exact ⟨QX.out.keeps,rfl,KX.out,CX.out,HNX.out⟩
    gi_upto_region 15 with (fail)
    refine wpIn_region_list ?_;refine Rg.in_run (some 56) rfl rfl (fun _ hh=>by cases hh) (Rg.xm (.slice xa x.length xc) _ rfl rfl) ?_;go_frame;refine Rg.in_run (some 57) rfl rfl (fun _ hh=>by cases hh) (Rg.ln Tryz.underlying30) ?_;go_frame;refine Rg.in_run (some 58) rfl rfl (fun _ hh=>by cases hh) (Rg.lo (.int .i64 ((N:Nat):Int)) ⟨(w.heap.size+2),0,none⟩ (run_loadInt CI.out.c3.c)) ?_;go_frame;refine Rg.in_run (some 59) rfl rfl (fun _ hh=>by cases hh) (Rg.bn (.bool false) .neq (h:=b_neqB _ Rg.dF)) ?_;go_frame;refine Rg.in_run (some 60) rfl rfl (fun _ hh=>by cases hh) (Rg.xm (.bool false) _ rfl rfl) ?_;go_frame;refine Rg.inW_run (some 61) rfl rfl (fun _ hh=>by cases hh) (Rg.xm (.slice xa x.length xc) _ rfl rfl) ?_;go_frame;refine Rg.inW_ask (some 62) rfl rfl (fun _ hh=>by cases hh) _ _ (exec_fn1 75 _ _ rfl rfl (Wvcl1 _ _)) ?_;refine (permCheck_any _ _ wr (XU.out.below K.out)).mono ?_
    rintro e1 w41 ⟨rfl,hb⟩;refine ⟨_,rfl,?_⟩;go_frame;replace CI:=ι (CI.out.below hb);replace KQ:=ι (KQ.out.below hb);replace K:=ι (Rg.acc K.out hb);clear hb;refine Rg.inW_run (some 63) rfl rfl (fun _ hh=>by cases hh) (Rg.bn (.bool false) .neq (h:=b_neqB _ (decide_eq_false (fun e=>e hp0)))) ?_;go_frame;refine Rg.in_run (some 64) rfl rfl (fun _ hh=>by cases hh) (Rg.pF (.bool false)) ?_;go_frame;obtain ⟨q,hqx,hqo⟩:=Ma.okL_ofN (Ma.pchk_zero hp0).2.2;have HGQ:=ι (show Cm.Gd N q from ⟨hqo,by have:=congrArg List.length hqx; rw [Ma.len_ofN] at this; omega⟩);have HQX:=ι hqx;have HFQ:=ι (show FP (fun k=>k<w.heap.size) w (.slice xa x.length xc) q from FP.of_np (show Rg.NP w _ q by unfold Rg.NP; rw [← HQX.out]; exact XU.out));clear hqx hqo hp0
    gi_upto_region 17 with (fail)
    refine wpIn_region_list ?_;refine Rg.in_run (some 65) rfl rfl (fun _ hh=>by cases hh) (Rg.lo (.slice va gs'.length vc) ⟨(w.heap.size+3),0,none⟩ (Rg.run_loadSl _ _ Tryz.underlying22 CI.out.c4.c)) ?_;go_frame;refine Rg.in_run (some 66) rfl rfl (fun _ hh=>by cases hh) (Rg.xm (.slice xa x.length xc) _ rfl rfl) ?_;go_frame;refine Rg.in_run (some 67) rfl rfl (fun _ hh=>by cases hh) (Rg.exec_buildSlice _ _ _ rfl (.slice xa x.length xc) rfl (run_build1P w41 _ ⟨_,_,_,rfl⟩)) ?_;go_frame;obtain ⟨a9,c9,X9,r1,r2,r3,r4⟩:=CI.out.row.pushK (fun k hk=>by omega) (HFQ.out.below K.out) ⟨_,_,_,rfl⟩ HPS.out 22;have hkb:=r3 (Nat.le_refl _) (Below.refl _ _);refine Rg.in_run (some 68) rfl rfl (fun _ hh=>by cases hh) (Rg.exec_append _ _ _ rfl rfl rfl r1) ?_;go_frame;have c4x:=CI.out.c4.upto hkb (by omega);refine Rg.in_skip none rfl rfl (fun _ hh=>by cases hh) (Rg.exec_store _ _ _ rfl _ rfl _ rfl (Rg.run_storeSl _ infoPermsV c4x.c c4x.f)) ?_;go_frame
    have hci2:=CI.out.store hkb r2;have hkq2:KK B w.heap.size W (X9.setCell ⟨w.heap.size+3,0,none⟩ (.slice a9 (gs'.length+1) c9)):=(KQ.out.row r4 CI.out.row (by omega)).set _ (by omega);generalize X9.setCell ⟨w.heap.size+3,0,none⟩ (.slice a9 (gs'.length+1) c9)=w98 at *;have CI2:=ι hci2;have KQ2:=ι hkq2
    have HG2:=ι (show (gs'++[q]).map Ma.ofN=gs.map Ma.ofN++r.take (j+1) by
     rw [List.map_append,HG0.out,List.take_succ_eq_append_getElem HJL.out,show r[j]=x from hx.out,HQX.out,List.append_assoc]; rfl)
    have HGG2:=ι (show ∀ g∈gs'++[q],Cm.Gd N g from fun g hg=>by
     rcases List.mem_append.1 hg with hg | hg
     ·exact HGG.out g hg
     ·rw [List.mem_singleton] at hg; rw [hg]; exact HGQ.out)
    have HL2:=ι (show (gs'++[q]).length≤gs.length+(j+1) by rw [List.length_append]; have:=HL0.out; simp; omega);clear hci2 hkq2 r1 r2 r3 r4 hkb c4x
    gi_wp2
    go_roundw
    case rel=>exact ⟨j+1,_,_,by go_num,HJL.out,CI2,KQ2,HG2,HGG2,HL2⟩
    case measure=>simp [intOf]; have:=HJL.out; omega
   ·obtain rfl:j=r.length:=by omega
    have hjN:¬ (r.length:Int)<(r.length:Int):=by omega
    have HFIN:=ι (show gs'.map Ma.ofN=(pre++[⟨X,HXR.out⟩]:List (Fin RR.length)).flatMap (rowOf RR) by
     have e:=HG0.out;rw [List.take_length] at e;rw [e,HFL.out,List.flatMap_append];simp only [List.flatMap_cons,List.flatMap_nil,List.append_nil]
     exact congrArg (pre.flatMap (rowOf RR)++·) ((getD_inf HXR.out).trans hr.out).symm)
    have HRLE:=ι (show gs'.length≤64*(pre.length+1) by have:=HL0.out; have:=HGLL.out; omega)
    gi_wp2
    exact ⟨KQ.out.keeps,KQ.out.bel,_,_,CI.out,HFIN.out,HGG.out,by rw [List.length_append]; exact HRLE.out⟩
 case stop =>
  rintro D c pre W hD ⟨rfl,h1,h2,h3⟩ hd;go_wp2;exact ck_leave (ds:=[D]) h1 h2 (.inr ⟨by omega,.inr ⟨h3,rfl⟩⟩) rfl (by simp) (fun D' hD'=>by simp at hD'; subst hD'; exact ⟨hd,by have:=HS0.out; omega⟩)
 case done =>
  rintro D Wd hD ⟨v,gs,hci,hfl,hgg,hgl⟩ hd;clear FB HRV CI K;rw [finTo_flat] at hfl;have HD:=ι (show w.heap.size≤D by have:=HS0.out; omega);have DF:=ι hd;have CI:=ι hci;have K:=ι hci.bel;have HFL:=ι hfl;have HGG:=ι hgg;have HGL:=ι (show gs.length≤1000000 by rw [finTo_len (Nat.le_refl _)] at hgl; have:=HLR.out; omega);obtain ⟨va,vc,hsv⟩:=hci.row.shape;subst hsv
  have GR:=ι (show Rg.Rows Wd (.slice va gs.length vc) (gs.map Ma.ofN) from by
   obtain ⟨us,q1,q2⟩:=hci.row.own
   exact Rg.Rows.of_row q1 (by have:=HGL.out; omega) q2.1 (fun i a b=>(q2.2 i a b).ints))
  have HH:=ι (show ChEqR Wd (.slice oa OO.length oc) (.slice ra RR.length rc) OO RR from ChEqR.upto H.out hci.bel);clear hci hfl hgg hgl hd;go_upto_region 19 with (fail);refine Rg.wp_onlyN ?_;have hV0:Below Wd.heap.size Wd Wd.drew:=(Below.refl _ _).drew;replace CI:=ι (CI.out.below hV0);replace GR:=ι (GR.out.below hV0);replace HH:=ι (HH.out.below hV0);replace DF:=ι (DF.out.below hV0);replace K:=ι (Rg.acc K.out hV0);clear hV0;refine Rg.Any.begin (S:=Rg.Both 6 (fun _=>True) (fun W=>Below Wd.drew.heap.size Wd.drew W)) mix ?_;generalize Wd.drew=w61 at *;have hS:∀ (l:Array Bool) W,Below w61.heap.size w61 W→Rg.Both 6 (fun _=>True) (fun W=>Below w61.heap.size w61 W) l W:=fun l W h=>⟨.inr trivial,h⟩;have hI:Below w61.heap.size w61 w61:=Below.refl _ _;refine Rg.tg 0 6 ((.agg #[.int .i64 ((N:Nat):Int),.slice oa OO.length oc,.slice ra RR.length rc])) 70 rfl rfl (Rg.yc ⟨w.heap.size,0,none⟩ (fun W hW=>run_loadC3 ((Below.cell (p:=⟨w.heap.size,0,none⟩) hW CI.out.a0.lt).trans CI.out.a0.cell) ((Below.cell (p:=⟨w.heap.size,1,none⟩) hW CI.out.a1.lt).trans CI.out.a1.cell) ((Below.cell (p:=⟨w.heap.size,2,none⟩) hW CI.out.a2.lt).trans CI.out.a2.cell))) (hS _ _ hI) ?_;go_frame
  refine Rg.tg 1 6 (.int .i64 ((N:Nat):Int)) 71 rfl rfl (Rg.yc ⟨(w.heap.size+2),0,none⟩ (fun W hW=>run_loadInt ((Below.cell (p:=⟨(w.heap.size+2),0,none⟩) hW CI.out.c3.lt).trans CI.out.c3.c))) (hS _ _ hI) ?_;go_frame;refine Rg.tg 2 6 (.slice va gs.length vc) 72 rfl rfl (Rg.yc ⟨(w.heap.size+3),0,none⟩ (fun W hW=>Rg.run_loadSl _ _ Tryz.underlying22 ((Below.cell (p:=⟨(w.heap.size+3),0,none⟩) hW CI.out.c4.lt).trans CI.out.c4.c))) (hS _ _ hI) ?_;go_frame;refine Rg.Any.one (i:=3) (by kernel_rfl) (Rg.Any.ask (some 73) rfl rfl rfl _ _ (exec_fn 97 _ _ _ rfl rfl rfl (Wbcl1 _ _)) ?_);refine (build_b hN1 hN2 GR.out HGG.out HGL.out).mono ?_;rintro e1 w62 ⟨tb,L,F1,T1,V1,rfl,hT1,hc01,hc11,hB1,hb⟩;have HB:=ι hB1;have hI2_0:=Rg.acc hI hb;clear hb hI;refine ⟨_,rfl,(hS _ _ hI2_0),?_⟩;go_frame;have HT:=ι hT1;have C0:=ι hc01;have C1:=ι hc11;clear hT1 hc01 hc11 hB1
  refine Rg.Any.one (i:=4) (by kernel_rfl) (Rg.Any.ask (some 74) rfl rfl rfl _ _ (exec_fn1 98 _ _ rfl rfl (Wbcl2 _ _)) ?_);refine (chain_any hN1 hN2 HT.out C0.out C1.out (Cm.Gr.isG HGG.out) (HB.out.isTr (by omega) HGG.out) (fun j hj=>(HB.out.full j hj).1)).mono ?_;rintro e1 w63 ⟨ov2,rv2,O2,R2,rfl,hO,hR,hCh,hb⟩;have HCH:=ι hCh;have HE2:=ChEqR.mk hO.rows hR.rows;clear hO hR hCh;have hI3_0:=Rg.acc hI2_0 hb;have hI3_1:=hb;clear hb hI2_0;refine ⟨_,rfl,(hS _ _ hI3_0),?_⟩;go_frame;have HF:=ι HE2;clear HE2;obtain ⟨bS,hbS⟩:∃ b,Hid (decide (((N:Nat):Int)=((N:Nat):Int)∧OO=O2.map Ma.ofN∧RR=R2.map (List.map Ma.ofN))=b):=⟨_,ι rfl⟩;refine Rg.Any.one (i:=5) (by kernel_rfl) (Rg.Any.ask (some 75) rfl rfl rfl _ _ (exec_fn 127 _ _ _ rfl rfl rfl (Wvcl4 _ _)) ?_);refine (chSame_b (HH.out.below hI3_0) HF.out hbS).mono ?_;rintro e1 w64 ⟨rfl,hb⟩;have hI4_0:=Rg.acc hI3_1 hb
  have hI4_1:=Rg.acc hI3_0 hb;have hI4_2:=hb;clear hb hI3_1 hI3_0;refine ⟨_,rfl,(hS _ _ hI4_1),?_⟩;go_frame;refine Rg.aR 6 76 rfl rfl (exec_not _ _ bS rfl rfl) (hS _ _ hI4_1) ?_;go_frame;refine Rg.Any.done (by kernel_rfl) ?_ _;refine Rg.onlyN_i ?_;replace CI:=ι (CI.out.below hI4_1);replace GR:=ι (GR.out.below hI4_1);replace HH:=ι (HH.out.below hI4_1);replace DF:=ι (DF.out.below hI4_1);replace HT:=ι (HT.out.below hI4_0);replace C0:=ι (C0.out.below hI4_0);replace C1:=ι (C1.out.below hI4_0);replace HF:=ι (HF.out.below hI4_2);replace K:=ι (Rg.acc K.out hI4_1);clear hS hI4_0 hI4_1 hI4_2;have HOK:=ι (ChOK.same (OO:=OO) (RR:=RR) hN1 hN2 HGG.out HFL.out.symm HCH.out)
  cases bS with
  | false =>
   have C2:=ι CI.out.c2;go_upto_region 20 with (fail);refine Rg.wl ?_;refine Rg.list_skip none rfl rfl (Rg.exec_store _ _ _ rfl _ rfl _ rfl (run_storeE 3 C2.out.c C2.out.f)) ?_;go_frame;have hk:=K.out.setCell (p:=⟨w.heap.size+1,0,none⟩) (by show w.heap.size≤w.heap.size+1; omega) (.int .i64 3);have y2:=C2.out.set (.int .i64 3);have hdd:=RF.Dfr.setCell DF.out ⟨w.heap.size+1,0,none⟩ (.int .i64 3);generalize w64.setCell ⟨w.heap.size+1,0,none⟩ (.int .i64 3)=w99 at *;have KX:=ι hk;have CX:=ι y2;have DX:=ι hdd;have HCX:=ι (show ChC ((N:Nat):Int) OO RR 3 from .inr ⟨by omega,.inr ⟨fun hh=>(of_decide_eq_false hbS.out) ⟨rfl,HOK.out.1 hh⟩,rfl⟩⟩);clear hk y2 hdd;go_wp2;exact ck_leave (ds:=[D]) KX.out CX.out HCX.out rfl (by simp) (fun D' hD'=>by simp at hD'; subst hD'; exact ⟨DX.out,HD.out⟩)
  | true =>
   have C2:=ι CI.out.c2;go_upto_region 21 with (fail);refine Rg.wl ?_;refine Rg.list_skip none rfl rfl (Rg.exec_store _ _ _ rfl _ rfl _ rfl (run_storeE 0 C2.out.c C2.out.f)) ?_;go_frame;have hk:=K.out.setCell (p:=⟨w.heap.size+1,0,none⟩) (by show w.heap.size≤w.heap.size+1; omega) (.int .i64 0);have y2:=C2.out.set (.int .i64 0);have hdd:=RF.Dfr.setCell DF.out ⟨w.heap.size+1,0,none⟩ (.int .i64 0);generalize w64.setCell ⟨w.heap.size+1,0,none⟩ (.int .i64 0)=w99 at *;have KX:=ι hk;have CX:=ι y2;have DX:=ι hdd;have HCX:=ι (show ChC ((N:Nat):Int) OO RR 0 from ChC.of (HOK.out.2 (of_decide_eq_true hbS.out).2));clear hk y2 hdd;go_wp2;exact ck_leave (ds:=[D]) KX.out CX.out HCX.out rfl (by simp) (fun D' hD'=>by simp at hD'; subst hD'; exact ⟨DX.out,HD.out⟩)
end Go.Proofs.YtdnmmibchbceeaaGreat

namespace Go.Proofs.YtdnmmibchbceeaaGreat
open Go.RowKit
open Go.Proofs
open Go.Proofs.Ob
attribute [local irreducible] Go.Calls Go.wpList
theorem infoU8:(Tryz.prog.info? 5).map (fun i=>(i.zero,i.size,i.bytes))=some (some (.int .u8 0),1,1):=by kernel_rfl
theorem slBytes:Rg.SlT Tryz.prog 130 5 (.int .u8 0) 1:=⟨Tryz.underlying130,infoU8,rfl,by decide⟩

theorem exec_convIU {o:Oper} {a:Act} (x:Operand) (ho:o.op=.convert 3 5 x) {n:Int} (hx:a.eval x=.int .i64 n) (hb:0≤n∧n<256):(execOp a.eval o).run Tryz.prog w=.ok (.value (.int .u8 n)) w:=by
 have e:IntKind.u8.wrap n=n:=by
  have h2:IntKind.u8.wrap n=n % 256:=rfl;rw [h2]; omega
 have h:(convert 3 5 (.int .i64 n)).run Tryz.prog w=.ok (.int .u8 n) w:=by
  simp [convert,run_underlying Tryz.underlying5,run_underlying Tryz.underlying3,Conv.intToInt,e]
 unfold execOp;simp only [ho,hx,Sem.run_bind,Sem.run_pure,h,Result.andThen_ok]

theorem box2 (w:World) (x y:Value):CL (w.alloc (.cells #[x,y] 24)) w.heap.size 0 x∧CL (w.alloc (.cells #[x,y] 24)) w.heap.size 1 y :=
 ⟨⟨by rw [Rg.cellNew]; rfl,by simp⟩,⟨by rw [Rg.cellNew]; rfl,by simp⟩⟩
theorem RowsB.low {ll:List (List Int)} (h:Rg.RowsB B w v ll) (hb:Below w.heap.size w w'):Rg.RowsB B w' v ll:=h.below hb

theorem rowsI_get {a:Option Addr} {c:Nat} {T:List (List Int)} (h:Rg.Rows w (.slice a n c) T) {i:Nat} (hi:i<T.length):∃ b o ua uc,a=some ⟨b,o,none⟩∧b<w.heap.size∧w.cell? ⟨b,o+i,none⟩=some (.slice ua T[i].length uc)∧Rg.Ints w (.slice ua T[i].length uc) T[i]:=by
 obtain ⟨a',c',e,-,-,-,hx⟩:=h.shape;simp only [Value.slice.injEq] at e;obtain ⟨rfl,rfl,rfl⟩:=e;obtain ⟨b,o,e1,e2,e3⟩:=hx (by omega);obtain ⟨u,h1,h2⟩:=e3 i hi;obtain ⟨ua,uc,rfl,-⟩:=h2.shape;exact ⟨b,o,ua,uc,e1,e2,h1,h2⟩
end Go.Proofs.YtdnmmibchbceeaaGreat

namespace Go.Proofs.YtdnmmibchbceeaaGreat
open Go.RowKit
open Go.Proofs
open Go.Shelf
open Go.Proofs.Cm (Tr)
attribute [local go_sem] Oper.semAt_some
abbrev EntIx (N:Nat) (tr:Tr):={ q:Nat × Nat // (q.1<q.2∧q.2<N)∧(tr q.1 q.2).isSome=true }
end Go.Proofs.YtdnmmibchbceeaaGreat

namespace Go.Proofs.YtdnmmibchbceeaaGreat
open Go.RowKit
open Go.Proofs
open Go.Proofs.Ob
open Go.Shelf
open Go.Proofs.Cm (Tr)
attribute [local go_sem] Oper.semAt_some
attribute [local irreducible] Go.Calls Go.wpList Go.wpListIn
def entV {n:Nat} (tr:Tr) (q:EntIx n tr):List Nat:=(tr q.1.1 q.1.2).getD []
theorem entV_at {tr:Tr} (q:EntIx n tr):tr q.1.1 q.1.2=some (entV tr q):=by
 unfold entV;obtain ⟨u,hu⟩:=Option.isSome_iff_exists.1 q.2.2;rw [hu]; rfl
def PClosed (n:Nat) (tr:Tr):Prop:=∀ q r:EntIx n tr,(Cm.sfP n (Cm.idT n tr) n (Ma.mulN (entV tr q) (entV tr r))).1=n
theorem exec_boxV {P:Program} {o:Oper} {a:Act} (t:TypeId) (x:Operand) (ho:o.op=.box t x) (hx:a.eval x=v) (hv:v.cells=#[v]) :
  (execOp a.eval o).run P w=.ok (.value (.pointer (some ⟨w.heap.size,0,none⟩))) (w.alloc (.cells #[v] t)):=by
 unfold execOp;simp [ho,hx,Instr.box,newVar,newRow,hv,Result.andThen]
theorem _root_.Go.Proofs.Rg.run_loadPtr {P:Program} (t e:TypeId) (ht:P.underlying t=some (.pointer e)) {ad:Addr} (h:w.cell? ad=some v):(loadVar t ad).run P w=.ok v w:=by
 simp [loadVar,isAgg,run_underlying ht,load];simp [Sem.run,h]
end Go.Proofs.YtdnmmibchbceeaaGreat

namespace Go.Proofs.YtdnmmibchbceeaaGreat
open Go.RowKit
open Go.Proofs
open Go.Proofs.Cm (Tr)
attribute [local irreducible] Go.Calls Go.wpList
theorem tab_lt {gs:List Nat→Prop} {tr:Tr} (h:Cm.TabOk n gs tr) {i p:Nat} {u:List Nat} (e:tr i p=some u):i<p:=by
 have hl:=h.lt i p u e
 have hne:p≠i:=fun h2=>by subst h2; rw [h.diag] at e; cases e
 have e2:Cm.idT n tr i p=some u:=by rw [Cm.idT_ne hne]; exact e
 have gu:=h.rp.gd i p u (Nat.zero_le _) hl.1 e2;have fu:=h.rp.fx i p u (Nat.zero_le _) hl.1 e2;have au:=h.rp.at_ i p u (Nat.zero_le _) hl.1 e2
 rcases Nat.lt_or_ge i p with h1 | h1
 ·exact h1
 ·exact absurd (Cm.ap_inj gu hl.2 hl.1 ((fu p (by omega)).trans au.symm)) hne
def SS (n:Nat) (tr:Tr) (l:List (List Nat)) (a b:Nat):Prop:=(Cm.sfP n (Cm.idT n tr) n (Ma.mulN (l.getD a []) (l.getD b []))).1=n
theorem PClosed.of {gs:List Nat→Prop} {tr:Tr} (h:Cm.TabOk n gs tr) (hs:∀ a b,a<(ents n tr).length→b<(ents n tr).length→SS n tr (ents n tr) a b):PClosed n tr:=fun q r=>by
 obtain ⟨a,ha,ea⟩:=List.getElem_of_mem (mem_ents.2 ⟨q.1.1,q.1.2,by have:=q.2.1; omega,q.2.1.2,entV_at q⟩);obtain ⟨b,hb,eb⟩:=List.getElem_of_mem (mem_ents.2 ⟨r.1.1,r.1.2,by have:=r.2.1; omega,r.2.1.2,entV_at r⟩);have:=hs a b ha hb;unfold SS at this;rw [getD_li ha,getD_li hb,ea,eb] at this;exact this
theorem PClosed.ss {gs:List Nat→Prop} {tr:Tr} (h:Cm.TabOk n gs tr) (hc:PClosed n tr) {a b:Nat} (ha:a<(ents n tr).length) (hb:b<(ents n tr).length):SS n tr (ents n tr) a b:=by
 unfold SS;rw [getD_li ha,getD_li hb];obtain ⟨i,p,hi,hp,e⟩:=mem_ents.1 (List.getElem_mem ha);obtain ⟨j,q,hj,hq,e2⟩:=mem_ents.1 (List.getElem_mem hb);have:=hc ⟨(i,p),⟨tab_lt h e,hp⟩,by show (tr i p).isSome=true; rw [e]; rfl⟩ ⟨(j,q),⟨tab_lt h e2,hq⟩,by show (tr j q).isSome=true; rw [e2]; rfl⟩;unfold entV at this;simp only [e,e2,Option.getD_some] at this;exact this
end Go.Proofs.YtdnmmibchbceeaaGreat

namespace Go.Proofs.YtdnmmibchbceeaaGreat
open Go.Proofs
open Go.Proofs.Cm (Tr TabOk Gr Gd Sd idT sfP)
def ins1 (n:Nat) (tr:Tr) (x:List Nat):Tr:=insT n tr (sfP n (idT n tr) n x)
structure TL (n:Nat) (gs:List Nat→Prop) (tr:Tr) (l:List (List Nat)):Prop where
 ok:TabOk n gs tr
 sd:∀ x∈l,Sd n (idT n tr) n x
theorem TL.nil (n:Nat) (gs:List Nat→Prop):TL n gs (fun _ _=>none) []:=⟨Cm.TabOk.nil0,fun x hx=>by simp at hx⟩
theorem TL.ins {gs:List Nat→Prop} (hg:∀ s,gs s→Gd n s) {tr:Tr} {l:List (List Nat)} (h:TL n gs tr l) {x:List Nat} (hx:Gr n gs x):TL n gs (ins1 n tr x) (l++[x]):=by
 obtain ⟨h1,h2,h3,_⟩:=tab_ins hg h.ok hx;refine ⟨h1,fun y hy=>?_⟩
 rcases List.mem_append.1 hy with hy | hy
 ·exact Sd.mono (fun i p u _=>h2 i p u) (h.sd y hy)
 ·rw [List.mem_singleton] at hy; subst hy; exact h3
theorem sd_of {gs:List Nat→Prop} (hg:∀ s,gs s→Gd n s) {tr:Tr} (h:TabOk n gs tr) {x:List Nat} (hx:Gr n gs x) (e:(sfP n (idT n tr) n x).1=n):Sd n (idT n tr) n x:=by
 have h3:=(tab_ins hg h hx).2.2.1
 have e2:insT n tr (sfP n (idT n tr) n x)=tr:=by unfold insT; rw [if_neg (by omega)]
 rwa [e2] at h3
theorem TL.closed {gs:List Nat→Prop} (hg:∀ s,gs s→Gd n s) {tr:Tr} {l:List (List Nat)} (h:TL n gs tr l) (hl:∀ s,gs s→s∈l) (hc:PClosed n tr):Cm.IsTr n (Gr n gs) (idT n tr):=by
 refine (LE.start h.ok (fun s hs=>h.sd s (hl s hs))).done hg fun a b ha hb=>?_;unfold PrS;have h1:=hc.ss h.ok ha hb
 have hm:∀ {a:Nat} (ha:a<(ents n tr).length),Gr n gs ((ents n tr).getD a []):=fun {a} ha=>by
  rw [getD_li ha];obtain ⟨i,p,_,_,e⟩:=mem_ents.1 (List.getElem_mem ha);exact h.ok.mem _ _ _ e
 exact sd_of hg h.ok (.mul _ _ (hm ha) (hm hb)) h1
def pickV (x n:Int):Int:=if x.tmod n<0 then x.tmod n+n else x.tmod n
theorem pickV_range {x n:Int} (h0:0<n):0≤pickV x n∧pickV x n<n:=by
 have h2:=Int.tmod_lt_of_pos x h0
 have h3:-n<x.tmod n:=by
  have:=Int.lt_tmod_of_pos x h0;omega
 unfold pickV
 split <;> omega
def stepR (n:Nat) (st:List (List Nat) × Tr) (a b:Int):List (List Nat) × Tr :=
 (st.1.set (pickV a st.1.length).toNat (Ma.mulN (st.1.getD (pickV a st.1.length).toNat []) (st.1.getD (pickV b st.1.length).toNat [])),
  ins1 n st.2 (Ma.mulN (st.1.getD (pickV a st.1.length).toNat []) (st.1.getD (pickV b st.1.length).toNat [])))
def stR (n:Nat) (s0:List (List Nat) × Tr) (nums:List Int):Nat→List (List Nat) × Tr
 | 0=>s0
 | k+1=>stepR n (stR n s0 nums k) (nums.getD (2*k) 0) (nums.getD (2*k+1) 0)
theorem stR_len {n:Nat} {s0:List (List Nat) × Tr} {nums:List Int}:∀ k,(stR n s0 nums k).1.length=s0.1.length
 | 0=>rfl
 | k+1=>by
  show ((stR n s0 nums k).1.set _ _).length=_;rw [List.length_set,stR_len k]
structure RI (n:Nat) (gs:List Nat→Prop) (st:List (List Nat) × Tr):Prop where
 gr:∀ x∈st.1,Gr n gs x
 tl:∃ l,TL n gs st.2 l∧∀ s,gs s→s∈l
theorem getD_mem {l:List (List Nat)} {i:Nat} (h:i<l.length):l.getD i []∈l:=by rw [getD_li h]; exact List.getElem_mem h
theorem RI.step {gs:List Nat→Prop} (hg:∀ s,gs s→Gd n s) {st:List (List Nat) × Tr} (h:RI n gs st) (h0:0<st.1.length) (a b:Int):RI n gs (stepR n st a b):=by
 have ha:=pickV_range (x:=a) (n:=st.1.length) (by omega);have hb:=pickV_range (x:=b) (n:=st.1.length) (by omega);have hy:Gr n gs (Ma.mulN (st.1.getD (pickV a st.1.length).toNat []) (st.1.getD (pickV b st.1.length).toNat [])):=.mul _ _ (h.gr _ (getD_mem (by omega))) (h.gr _ (getD_mem (by omega)));refine ⟨fun x hx=>?_,?_⟩
 ·rcases List.mem_or_eq_of_mem_set hx with h1 | h1
  ·exact h.gr x h1
  ·rw [h1]; exact hy
 ·obtain ⟨l,h1,h2⟩:=h.tl
  exact ⟨_,h1.ins hg hy,fun s hs=>List.mem_append.2 (.inl (h2 s hs))⟩
theorem RI.all {n:Nat} {gs:List Nat→Prop} (hg:∀ s,gs s→Gd n s) {s0:List (List Nat) × Tr} (h:RI n gs s0) (h0:0<s0.1.length) (nums:List Int):∀ k,RI n gs (stR n s0 nums k)
 | 0=>h
 | k+1=>(RI.all hg h h0 nums k).step hg (by rw [stR_len]; exact h0) _ _
def tabL (n:Nat) (l:List (List Nat)):Tr:=l.foldl (ins1 n) (fun _ _=>none)
theorem TL.fold {n:Nat} {gs:List Nat→Prop} (hg:∀ s,gs s→Gd n s):∀ (l pre:List (List Nat)) (tr:Tr),TL n gs tr pre→(∀ x∈l,Gr n gs x)→TL n gs (l.foldl (ins1 n) tr) (pre++l)
 | [],pre,tr,h,_=>by rw [List.append_nil]; exact h
 | x :: l,pre,tr,h,hx=>by
  have:=TL.fold hg l (pre++[x]) (ins1 n tr x) (h.ins hg (hx x (by simp))) fun y hy=>hx y (by simp [hy]);rw [List.append_assoc] at this;exact this
theorem TL.tabL {gs:List Nat→Prop} (hg:∀ s,gs s→Gd n s) (l:List (List Nat)) (h:∀ x∈l,Gr n gs x):TL n gs (tabL n l) l:=TL.fold hg l [] _ (TL.nil n gs) h
def startR (n:Nat) (gs:List (List Nat)):List (List Nat) × Tr:=(gs++gs.map Ma.invN,tabL n gs)
theorem RI.start (hg:∀ s∈gs,Gd n s):RI n (·∈gs) (startR n gs):=by
 refine ⟨fun x hx=>?_,gs,TL.tabL hg gs fun x hx=>.gen x hx,fun s hs=>hs⟩
 rcases List.mem_append.1 hx with h | h
 ·exact .gen x h
 ·obtain ⟨y,hy,rfl⟩:=List.mem_map.1 h
  exact (Gr.isG hg).inv y (.gen y hy)
end Go.Proofs.YtdnmmibchbceeaaGreat

namespace Go.Proofs.YtdnmmibchbceeaaGreat
open Go.RowKit
open Go.Proofs
open Go.Proofs.Cm (Tr)
theorem RowG.push {l:List (List Nat)} (h:RowG F M W v l) {x:List Nat} (hu:FP F W u x) (hs:∃ a m c,u=.slice a m c) (hF:∀ k,F k→k<W.heap.size) (hM:∀ k,M k→k<W.heap.size) (hn:l.length<1000000) (ty:TypeId) :
  ∃ a c X,(Builtin.append_ #[22,22] ty #[v,.slice (some ⟨W.heap.size,0,none⟩) 1 1]).run Tryz.prog (W.alloc (.cells #[u] 30))=.ok (.slice a (l.length+1) c) X∧RowG F M X (.slice a (l.length+1) c) (l++[x])∧Rg.Kp (fun k=>v.ownBlock=some k) W X:=by
 obtain ⟨B,us,h0,h1,h2⟩:=h.own;obtain ⟨a0,m0,c0,rfl⟩:=hs;have hb:Below W.heap.size W (W.alloc (.cells #[.slice a0 m0 c0] 30)):=(Below.refl _ _).alloc (Nat.le_refl _) _;obtain ⟨v',X,r1,r2,r3,r4,a,c,rfl⟩:=app_run (P:=Tryz.prog) slPerms ty (Rg.row_below h1 hb) (Nat.le_trans h0 hb.size) W.heap.size 1 (u:=.slice a0 m0 c0) (by rw [Rg.cellNew]; rfl) rfl hn;have hk:Rg.Kp (fun k=>v.ownBlock=some k) W X:=Rg.Kp.trans (M:=fun k=>v.ownBlock=some k) ((Rg.Kp.of_below hb).weak fun _=>False.elim) (Rg.Kp.of_grown r3 fun _ e=>e) (fun _ _ e=>e);have hg:∀ k,F k→¬ v.ownBlock=some k:=fun k g e=>(h.off k e).1 g;refine ⟨a,c,X,r1,⟨⟨B,us++[.slice a0 m0 c0],Nat.le_trans h0 hk.size,by rw [List.length_append]; exact r2,by rw [List.map_append]; exact FElts.snoc (h2.kp hk hg) (Rg.FI.kp hu hk hg)⟩,fun k e=>?_⟩,hk⟩
 rcases r4 with r4 | r4
 ·exact h.off k (by rw [← r4]; exact e)
 ·rw [r4] at e
  injection e with e
  have e2:(W.alloc (.cells #[.slice a0 m0 c0] 30)).heap.size=W.heap.size+1:=by simp
  exact ⟨fun g=>by have:=hF _ g; omega,fun g=>by have:=hM _ g; omega⟩
theorem RowG.set {F M:Nat→Prop} {W:World} {g c:Nat} {l:List (List Nat)} (h:RowG F M W (.slice (some ⟨g,0,none⟩) l.length c) l) (i:Nat) {u:Value} {x:List Nat} (hu:FP F W u x) :
  RowG F M (W.setCell ⟨g,i,none⟩ u) (.slice (some ⟨g,0,none⟩) l.length c) (l.set i x)∧Rg.Kp (fun k=>k=g) W (W.setCell ⟨g,i,none⟩ u):=by
 obtain ⟨B,us,h0,h1,h2⟩:=h.own;have hk:Rg.Kp (fun k=>k=g) W (W.setCell ⟨g,i,none⟩ u):=Rg.Kp.of_setCell rfl;have hg:∀ k,F k→¬ k=g:=fun k e e2=>(h.off g rfl).1 (e2▸e);have h2':=h2.kp hk hg;refine ⟨⟨⟨B,us.set i u,Nat.le_trans h0 hk.size,?_,?_,fun j hj hj2=>?_⟩,h.off⟩,hk⟩
 ·rw [List.length_set]; exact (h1.stored i u).1
 ·rw [List.length_set,List.length_map,List.length_set,← List.length_map (f:=Ma.ofN)]; exact h2.1
 ·have e1:j<us.length:=by rwa [List.length_set] at hj
  have e2:j<l.length:=by rwa [List.length_map,List.length_set] at hj2
  by_cases e:i=j
  ·subst e
   simp only [List.getElem_set_self,List.getElem_map];exact Rg.FI.kp hu hk hg
  ·simp only [List.getElem_set_ne e,List.getElem_map]
   have:=h2'.2 j e1 (by rw [List.length_map]; exact e2)
   simpa using this
theorem RowG.frozen {F M:Nat→Prop} {W:World} {g n c:Nat} {l:List (List Nat)} (h:RowG F M W (.slice (some ⟨g,0,none⟩) n c) l) (hn:n=l.length) (i:Nat):W.frozen? ⟨g,i,none⟩=false:=by
 subst hn;obtain ⟨B,us,h0,h1,h2⟩:=h.own;exact h1.frozenAt i
end Go.Proofs.YtdnmmibchbceeaaGreat

namespace Go.Proofs.YtdnmmibchbceeaaGreat
open Go.RowKit
open Go.Proofs
attribute [local irreducible] Go.Calls Go.wpList
theorem Pick_any (x n:Int) (w:World) (h0:0<n) (h1:n≤1000):Calls Tryz.prog 35 #[.int .i64 x,.int .i64 n] w fun e w'=>e=.returned (.int .i64 (pickV x n))∧Below w.heap.size w w':=by
 have hn0:¬ n=0:=by omega
 have h2:=Int.tmod_lt_of_pos x h0
 have h3:-n<x.tmod n:=by
  have:=Int.lt_tmod_of_pos x h0;omega
 by_cases hlt:x.tmod n<0
 ·rw [show pickV x n=x.tmod n+n from if_pos hlt]
  go_enter Tryz.func35,Tryz.ntmps35
  go_wp2;go_ret;exact ⟨rfl,Below.refl _ _⟩
 ·rw [show pickV x n=x.tmod n from if_neg hlt]
  go_enter Tryz.func35,Tryz.ntmps35
  go_wp2;go_ret;exact ⟨rfl,Below.refl _ _⟩
end Go.Proofs.YtdnmmibchbceeaaGreat

namespace Go.Proofs.YtdnmmibchbceeaaGreat
open Go.RowKit
open Go.Proofs
open Go.Proofs.Ob
open Go.Proofs.Cm (Tr TabOk)
attribute [local irreducible] Go.Calls Go.wpList
theorem RowG.nil (F M:Nat→Prop) (W:World):RowG F M W (.slice none 0 0) []:=⟨⟨W.heap.size,[],Nat.le_refl _,World.ownsRow_nil _ _ _ _,Rg.FElts.nil _ _⟩,fun k e=>by simp [Value.ownBlock] at e⟩
end Go.Proofs.YtdnmmibchbceeaaGreat

namespace Go.Proofs.YtdnmmibchbceeaaGreat
open Go.RowKit
open Go.Proofs
open Go.Proofs.Ob
attribute [local irreducible] Go.Calls Go.wpList
theorem exec_nilTs {o:Oper} {a:Act} {c:Nat} (x y:Operand) (ho:o.op=.binOp .eql 22 x y 22) (hx:a.eval x=.slice none 0 c) (hy:a.eval y=.slice none 0 0):(execOp a.eval o).run Tryz.prog w=.ok (.value (.bool true)) w:=by
 have h1:(binOp .eql 22 (.slice none 0 c) (.slice none 0 0)).run Tryz.prog w=.ok (.bool true) w:=by kernel_rfl
 have hg:(eqGuard .eql 22 x y (.slice none 0 c) (.slice none 0 0)).run Tryz.prog w=.ok () w:=by
  simp [eqGuard]
 unfold execOp;simp only [ho,hx,hy,Sem.run_bind,Sem.run_pure,hg,h1,Result.andThen_ok]
theorem exec_nilFs {o:Oper} {a:Act} {ad:Addr} {c:Nat} (x y:Operand) (ho:o.op=.binOp .eql 22 x y 22) (hx:a.eval x=.slice (some ad) n c) (hy:a.eval y=.slice none 0 0):(execOp a.eval o).run Tryz.prog w=.ok (.value (.bool false)) w:=by
 have h1:(binOp .eql 22 (.slice (some ad) n c) (.slice none 0 0)).run Tryz.prog w=.ok (.bool false) w:=by kernel_rfl
 have hg:(eqGuard .eql 22 x y (.slice (some ad) n c) (.slice none 0 0)).run Tryz.prog w=.ok () w:=by
  simp [eqGuard]
 unfold execOp;simp only [ho,hx,hy,Sem.run_bind,Sem.run_pure,hg,h1,Result.andThen_ok]
theorem ClonePs_f (v:Value) (gs:List (List Nat)) (w:World) (hF:∀ k,F0 k→k<w.heap.size) (h:Rg.FRows F0 w v (gs.map Ma.ofN)) (hl:gs.length≤1000) :
  Calls Tryz.prog 48 #[v] w fun e w'=>∃ v',e=.returned v'∧RowF F0 w.heap.size w' v' gs∧Below w.heap.size w w':=by
 have HF:=ι hF;clear hF;obtain ⟨us,hv,he⟩:=h;have hvv:=Rg.FVals.vals hv
 have hul:us.length=gs.length:=by have:=he.1; rwa [List.length_map] at this
 obtain ⟨la,lc,e,_,_,_,hs⟩:=hv;subst e;have K:=ι (Below.refl w.heap.size w)
 cases la with
 | none =>
  have h0:us=[]:=by
   cases us with
   | nil=>rfl
   | cons u r=>obtain ⟨b,o,e1,_⟩:=hs (by simp); cases e1
  subst h0;have hg0:gs=[]:=List.length_eq_zero_iff.1 hul.symm;subst hg0;clear hs he hul hvv
  go_enter Tryz.func48,Tryz.ntmps48
  go_upto_region 1 with (fail);refine Rg.wl ?_;refine Rg.lm 3 (.slice none 0 lc) ?_;go_frame;refine Rg.lr 4 (exec_nilTs _ _ rfl rfl rfl) ?_;go_frame;go_wp2;go_ret;exact ⟨_,rfl,RowF.nil _ (Nat.le_refl _),K.out⟩
 | some ad =>
  have HV:=ι hvv;have HE:=ι he;have HUL:=ι hul;clear hs he hvv hul
  go_enter Tryz.func48,Tryz.ntmps48
  go_upto_region 1 with (fail);refine Rg.wl ?_;refine Rg.lm 3 (.slice (some ad) us.length lc) ?_;go_frame;refine Rg.lr 4 (exec_nilFs _ _ rfl rfl rfl) ?_;go_frame;go_upto_region 3 with (fail);refine Rg.wl ?_;refine Rg.lr 5 (Rg.exec_build0 slPerms rfl w) ?_;go_frame;refine Rg.lm 6 (.slice (some ad) us.length lc) ?_;go_frame;have hbA:Below w.heap.size w (w.alloc (.cells #[] 30)):=(Below.refl _ _).alloc (Nat.le_refl _) _;obtain ⟨v5,X5,r1,r2,r3⟩:=Rg.appL_run (P:=Tryz.prog) slPerms 22 (World.ownsRow_made (e:=30) (size:=1) w #[] 0 (Nat.le_refl w.heap.size) (Nat.zero_le _) rfl) hbA.size (Rg.Vals.below HV.out hbA) HE.out.oneCell (by have:=HUL.out; omega);refine Rg.lr 7 (Rg.exec_append _ _ _ rfl rfl rfl r1) ?_;go_frame;refine Rg.la 2 (v5) ?_;go_frame;rw [Nat.zero_add,List.nil_append,HUL.out] at r2;have hk:Rg.Kp (fun z=>z=w.heap.size) w X5:=Rg.Kp.trans (M:=fun z=>z=w.heap.size) (Rg.Kp.of_below (M:=fun z=>z=w.heap.size) hbA) (Rg.Kp.of_grown r3 (M:=fun z=>z=w.heap.size) fun k e=>by simp [Value.ownBlock] at e; exact e.symm) (fun _ _ e=>e)
  have H1:=ι (show RowF F0 w.heap.size X5 v5 gs from ⟨hk.size,us,r2,HE.out.kp hk (fun k h e=>by have:=HF.out k h; omega)⟩);have H2:=ι (show Below w.heap.size w X5 from ⟨hk.os,hk.tape,hk.output,hk.size,fun k h=>hk.block k h (by omega)⟩);clear r1 r2 r3 hk hbA;go_wp2;go_ret;exact ⟨_,rfl,H1.out,H2.out⟩
theorem ClonePs_any (v:Value) (gs:List (List Nat)) (w:World) (h:Rg.Rows w v (gs.map Ma.ofN)) (hl:gs.length≤1000) :
  Calls Tryz.prog 48 #[v] w fun e w'=>∃ v',e=.returned v'∧RowF (fun k=>k<w.heap.size) w.heap.size w' v' gs∧Below w.heap.size w w' :=
 ClonePs_f v gs w (fun _ h=>h) (Rg.FRows.old h) hl
end Go.Proofs.YtdnmmibchbceeaaGreat

namespace Go.Proofs.YtdnmmibchbceeaaGreat
open Go.RowKit
open Go.Proofs
open Go.Proofs.Cm (Tr)
theorem exec_fnc1 {o:Oper} {a:Act} {x1:Value} (F:FuncId) (f x:Operand) (tys:Array TypeId) (ho:o.op=.call { callee:=.value f,args:=#[x],argTypes:=tys }) (hf:a.eval f=.func (.func F) #[] #[u1]) (hx:a.eval x=x1)
  (hF:(callFunc F #[x1,u1]).run Tryz.prog w=.ok (.enter F #[x1,u1]) w):(execOp a.eval o).run Tryz.prog w=.ok (.enter F #[x1,u1]) w:=by
 unfold execOp;simp [ho,hx,hf,resolve,invoke,Deferred.ofValue,hF]
theorem CW.up {b:Nat} (h:CW w b v) (hb:Below w.heap.size w w'):CW w' b v:=h.below hb
theorem RowG.below {l:List (List Nat)} (h:RowG F M W v l) (hb:Below W.heap.size W W'):RowG F M W' v l:=by
 obtain ⟨B,us,g0,g1,g2⟩:=h.own;exact ⟨⟨B,us,Nat.le_trans g0 hb.size,Rg.row_below g1 hb,g2.kp (M:=fun _=>False) (Rg.Kp.of_below hb) (fun _ _=>id)⟩,h.off⟩
theorem RowG.less {l:List (List Nat)} (h:RowG F M W v l) (hM:∀ k,M' k→M k):RowG F M' W v l:=⟨h.own,fun k e=>⟨(h.off k e).1,fun g=>(h.off k e).2 (hM k g)⟩⟩
theorem KG.bel (h:KG F0 w0 F w) (hb:Below w.heap.size w w'):KG F0 w0 F w':=h.kf' (KF.of_below hb)
end Go.Proofs.YtdnmmibchbceeaaGreat

namespace Go.Proofs.YtdnmmibchbceeaaGreat
open Go.RowKit
open Go.Proofs
open Go.Proofs.Ob
open Go.Shelf
open Go.Proofs.Cm (Tr Gd ap sfP)
attribute [local go_sem] Oper.semAt_some
attribute [local irreducible] Go.Calls Go.wpList Go.wpListIn
theorem gd_mem {y:List Nat} (h:Gd n y) {z:Nat} (hz:z∈y):z<n:=by
 obtain ⟨i,hi,rfl⟩:=List.getElem_of_mem hz;have:=Cm.ap_lt h (i:=i) (by rw [← h.2]; exact hi)
 rwa [Cm.ap_at hi] at this
end Go.Proofs.YtdnmmibchbceeaaGreat

namespace Go.Proofs.YtdnmmibchbceeaaGreat
open Go.Proofs
open Go.Proofs.Cm (Gr Gd IsChain IsG St Tr ap sfP Lst)
open Classical in
noncomputable def chCode (n:Int) (OO:List (List Int)) (RR:List (List (List Int))):Int:=if 1≤n∧n≤64 then (if ChOK n OO RR then 0 else 3) else 2
theorem chCode_C {n:Int}:ChC n OO RR (chCode n OO RR):=by
 unfold chCode
 by_cases h:1≤n∧n≤64
 ·rw [if_pos h]
  by_cases h2:ChOK n OO RR
  ·rw [if_pos h2]; exact .inr ⟨h,.inl ⟨h2,rfl⟩⟩
  ·rw [if_neg h2]; exact .inr ⟨h,.inr ⟨h2,rfl⟩⟩
 ·rw [if_neg h]; exact .inl ⟨h,rfl⟩
theorem chCode_eq {n:Int} {c:Int} (h:ChC n OO RR c):c=chCode n OO RR:=h.uniq chCode_C
theorem chCode_zero {n:Int} (h:ChOK n OO RR):chCode n OO RR=0:=(chCode_eq (ChC.of h)).symm
end Go.Proofs.YtdnmmibchbceeaaGreat

namespace Go.Proofs.YtdnmmibchbceeaaGreat
open Go.RowKit
open Go.Proofs
open Go.Proofs.Ob
open Go.Proofs.Cm (Gd)
attribute [local irreducible] Go.Calls Go.wpList
theorem chCheck_c {n:Int} (h:ChEqR w ov rv OO RR) :
  Calls Tryz.prog 99 #[.agg #[.int .i64 n,ov,rv]] w fun e w'=>e=.returned (.int .i64 (chCode n OO RR))∧Below w.heap.size w w':=by
 refine (chCheck_any h).mono ?_;rintro e w' ⟨c,rfl,h1,h2⟩;exact ⟨by rw [chCode_eq h1],h2⟩
end Go.Proofs.YtdnmmibchbceeaaGreat

namespace Go.Proofs.Rg
open Go Go.RowKit
variable {P:Program} {md:Region.Mode} {ops:Array Oper} {Q:Exit→Act→World→Prop} {S:Array Bool→World→Prop}
theorem doesCall {i d:Nat} {I:World→Prop} {R:Value→World→Prop} {K:World→World→Prop} {oi:Oper} {b:Act} (hi:ops[i]?=some oi) (hd:oi.dst=some d) (hw:Region.wanted oi (yielded ops b.tmps)=true) (f:FuncId) (args:Array Value)
  (hr:(execOp b.eval oi).run P W=.ok (.enter f args) W) (hc:Calls P f args W fun e W'=>∃ v,e=.returned v∧I W'∧R v W'∧K W W'):Does P ops Q i d I R K b W:=by
 unfold Does wpOp;simp only [hi,hw,if_true]
 left
 unfold Oper.wp;rw [hr,Oper.upon_enter];refine hc.mono fun e w' ⟨v,h1,h2⟩=>?_;rw [h1];refine ⟨v,?_,h2⟩;rw [hd]
end Go.Proofs.Rg

set_option linter.unusedVariables false
namespace Go.Proofs.YtdnmmibchbceeaaGreat
open Go.RowKit
open Go.Proofs
open Go.Proofs.Ob
open Go.Shelf
attribute [local irreducible] Go.Calls Go.wpList
def MK (tc:Nat) (ov rv:Value) (z:Nat):Prop:=z=tc∨ov.ownBlock=some z∨rv.ownBlock=some z
theorem row_isCells {e:TypeId} {size:Nat} {xs:List Value} (h:W.ownsRow B e size v n xs):∀ k,v.ownBlock=some k→∃ o:Obj,W.heap[k]?=some o∧o.isCells=true:=fun k e1=>by
 obtain ⟨_,h3⟩:=h
 rcases h3 with ⟨h4,_⟩ | ⟨g,cap,cur,h4,_,h5,_⟩
 ·rw [h4] at e1; simp [Value.ownBlock] at e1
 ·rw [h4] at e1
  simp [Value.ownBlock] at e1;subst e1;exact ⟨_,h5,rfl⟩
theorem cell_isCells {a:Addr} (h:W.cell? a=some v):∃ o:Obj,W.heap[a.block]?=some o∧o.isCells=true:=by
 unfold World.cell? at h
 cases e:W.heap[a.block]? with
 | none=>rw [e] at h; cases h
 | some o =>
  rw [e] at h;refine ⟨o,rfl,?_⟩
  cases o <;> simp at h <;> rfl
theorem ChR.isCells {B:Nat} {W:World} {tc:Nat} {c0 c1 c2 ov rv:Value} {O:List (List Int)} {R:List (List (List Int))} (h:ChR B W tc c0 c1 c2 ov rv O R):∀ z,MK tc ov rv z→∃ o:Obj,W.heap[z]?=some o∧o.isCells=true:=by
 obtain ⟨us,vs,h1,h2,_⟩:=h.own
 rintro z (e | e | e)
 ·subst e; exact cell_isCells h.tri.c0
 ·exact row_isCells h1 z e
 ·exact row_isCells h2 z e
end Go.Proofs.YtdnmmibchbceeaaGreat

namespace Go.Proofs.YtdnmmibchbceeaaGreat
open Go.RowKit
open Go.Proofs
open Go.Proofs.Ob
attribute [local irreducible] Go.Calls Go.wpList
theorem Zjcl0 (args:Array Value) (w:World):(callFunc 35 args).run Tryz.prog w=.ok (.enter 35 args) w:=by kernel_rfl
theorem tkF0 (b:Nat) (w:World):(Instr.fieldAt 64 (.pointer (some ⟨b,0,none⟩)) 0).run Tryz.prog w=.ok (.pointer (some ⟨b,0,none⟩)) w:=by kernel_rfl
theorem kpAcc {w'':World} (h:Rg.Kp M w w') (hb:Below w'.heap.size w' w''):Rg.Kp M w w'':=Rg.Kp.trans (M:=M) h (Rg.Kp.of_below (M:=M) hb) (fun _ _ e=>e)
theorem pick_n {x m:Int} {r:Nat} (h0:0<m) (h1:m≤1000) (hr:Hid (pickV x m=((r:Nat):Int))) (w:World):Calls Tryz.prog 35 #[.int .i64 x,.int .i64 m] w fun e w'=>e=.returned (.int .i64 ((r:Nat):Int))∧Below w.heap.size w w':=by
 rw [← hr.out];exact Pick_any x m w h0 h1
theorem tkF1 (b:Nat) (w:World):(Instr.fieldAt 64 (.pointer (some ⟨b,0,none⟩)) 1).run Tryz.prog w=.ok (.pointer (some ⟨b,1,none⟩)) w:=by kernel_rfl
structure Tk (w0 w:World) (tk k:Nat) (lv:Value) (l:List Int):Prop where
 c0:w.cell? ⟨tk,0,none⟩=some lv
 c1:w.cell? ⟨tk,1,none⟩=some (.int .i64 ((k:Nat):Int))
 f1:w.frozen? ⟨tk,1,none⟩=false
 lt:tk<w.heap.size
 lo:w0.heap.size≤tk
 bel:Below w0.heap.size w0 w
 ints:Rg.IntsB maxLen w0 lv l
theorem Tk.below {lv:Value} (h:Tk w0 w tk k lv l) (hb:Below w.heap.size w w'):Tk w0 w' tk k lv l :=
 ⟨(hb.cell (p:=⟨tk,0,none⟩) h.lt).trans h.c0,(hb.cell (p:=⟨tk,1,none⟩) h.lt).trans h.c1,(hb.frozen (p:=⟨tk,1,none⟩) h.lt).trans h.f1,Nat.lt_of_lt_of_le h.lt hb.size,h.lo,h.bel.trans (hb.mono h.bel.size),h.ints⟩
theorem Tk.kp {lv:Value} (h:Tk w0 w tk k lv l) (hk:Rg.Kp M w w') (hM:¬ M tk) (hl:∀ z,M z→w0.heap.size≤z):Tk w0 w' tk k lv l :=
 ⟨(World.cell?_of_block (a:=⟨tk,0,none⟩) (hk.block tk h.lt hM)).trans h.c0,(World.cell?_of_block (a:=⟨tk,1,none⟩) (hk.block tk h.lt hM)).trans h.c1,(World.frozen?_of_block (a:=⟨tk,1,none⟩) (hk.block tk h.lt hM)).trans h.f1,Nat.lt_of_lt_of_le h.lt hk.size,h.lo,Rg.Kp.below h.bel hk hl,h.ints⟩
theorem Tk.next {lv:Value} (h:Tk w0 w tk k lv l) (v:Nat):Tk w0 (w.setCell ⟨tk,1,none⟩ (.int .i64 ((v:Nat):Int))) tk v lv l∧Rg.Kp (fun z=>z=tk) w (w.setCell ⟨tk,1,none⟩ (.int .i64 ((v:Nat):Int))):=by
 refine ⟨⟨?_,World.cell?_setCell_same (h:=h.c1) ..,by rw [World.frozen?_setCell]; exact h.f1,by simpa using h.lt,h.lo,h.bel.setCell (p:=⟨tk,1,none⟩) h.lo _,h.ints⟩,Rg.Kp.of_setCell rfl⟩
 rw [World.cell?_setCell_other (h:=by intro e; injection e with e1 e2; omega) ..]
 exact h.c0
def TkPost (w0 w:World) (tk:Nat) (lv:Value) (l:List Int) (m:Int) (e:Ending) (w':World):Prop:=∃ (r k':Nat),e=.returned (.int .i64 ((r:Nat):Int))∧(1≤m→(r:Int)<m)∧(¬ 1≤m→r=0)∧Tk w0 w' tk k' lv l∧Rg.Kp (fun z=>z=tk) w w'
theorem Take_any {lv:Value} (h:Tk w0 w tk k lv l) (m:Int) (hm:m≤1000) :
  Calls Tryz.prog 70 #[.pointer (some ⟨tk,0,none⟩),.int .i64 m] w (TkPost w0 w tk lv l m):=by
 obtain ⟨la,lc,rfl,-,hlm,-,hlc⟩:=h.ints.shape;have TK:=ι h;have HLM:=ι hlm;have HLC:=ι hlc;have K:=ι (Rg.Kp.refl (fun z=>z=tk) w);clear h hlm hlc
 go_enter Tryz.func70,Tryz.ntmps70
 by_cases hk:k<l.length
 case neg =>
  have hkN:¬ (k:Int)<(l.length:Int):=by omega
  go_upto_region 1 with (fail);have hV0:Below w.heap.size w w.drew:=(Below.refl _ _).drew;replace TK:=ι (TK.out.below hV0);replace K:=ι (kpAcc K.out hV0);clear hV0;refine Rg.Any.begin (S:=Rg.Both 13 (fun _=>True) (fun W=>Below w.drew.heap.size w.drew W)) mix ?_;generalize w.drew=w1 at *;have hS:∀ (l:Array Bool) W,Below w1.heap.size w1 W→Rg.Both 13 (fun _=>True) (fun W=>Below w1.heap.size w1 W) l W:=fun l W h=>⟨.inr trivial,h⟩;have hI:Below w1.heap.size w1 w1:=Below.refl _ _;refine Rg.tm 0 13 (.pointer (some ⟨tk,0,none⟩)) 5 (hS _ _ hI) ?_;go_frame;refine Rg.tg 1 13 (.pointer (some ⟨tk,0,none⟩)) 6 rfl rfl (.inl ⟨rfl,fun w _=>exec_nil _ rfl rfl⟩) (hS _ _ hI) ?_;go_frame;refine Rg.tg 2 13 (.pointer (some ⟨tk,1,none⟩)) 7 rfl rfl (.inl ⟨rfl,fun w _=>exec_field _ rfl rfl (tkF1 _ _)⟩) (hS _ _ hI) ?_;go_frame;refine Rg.tg 3 13 (.int .i64 ((k:Nat):Int)) 8 rfl rfl (Rg.yc ⟨tk,1,none⟩ (fun W hW=>run_loadInt ((Below.cell (p:=⟨tk,1,none⟩) hW TK.out.lt).trans TK.out.c1))) (hS _ _ hI) ?_;go_frame
  refine Rg.tm 4 13 (.pointer (some ⟨tk,0,none⟩)) 9 (hS _ _ hI) ?_;go_frame;refine Rg.tg 5 13 (.pointer (some ⟨tk,0,none⟩)) 10 rfl rfl (.inl ⟨rfl,fun w _=>exec_nil _ rfl rfl⟩) (hS _ _ hI) ?_;go_frame;refine Rg.tg 6 13 (.pointer (some ⟨tk,0,none⟩)) 11 rfl rfl (.inl ⟨rfl,fun w _=>exec_field _ rfl rfl (tkF0 _ _)⟩) (hS _ _ hI) ?_;go_frame;refine Rg.tg 7 13 (.slice la l.length lc) 12 rfl rfl (Rg.yc ⟨tk,0,none⟩ (fun W hW=>Rg.run_loadSl _ _ Tryz.underlying25 ((Below.cell (p:=⟨tk,0,none⟩) hW TK.out.lt).trans TK.out.c0))) (hS _ _ hI) ?_;go_frame;refine Rg.tg 8 13 (.int .i64 ((l.length:Nat):Int)) 13 rfl rfl (.inl ⟨rfl,fun w _=>exec_len _ _ _ rfl Tryz.underlying25 _ _ _ rfl⟩) (hS _ _ hI) ?_;go_frame;refine Rg.tg 9 13 (.bool true) 14 rfl rfl (.inl ⟨rfl,fun w _=>exec_bin (R:=.bool true) .geq _ _ _ rfl rfl rfl (b_geq _ Rg.dT)⟩) (hS _ _ hI) ?_;go_frame;refine Rg.tm 10 13 (.bool true) 15 (hS _ _ hI) ?_;go_frame
  refine Rg.tg 11 13 (undef) 16 rfl rfl (.inr ⟨rfl,rfl⟩) (hS _ _ hI) ?_;go_frame;refine Rg.tg 12 13 (undef) 17 rfl rfl (.inr ⟨rfl,rfl⟩) (hS _ _ hI) ?_;go_frame;refine Rg.aR 13 18 rfl rfl (Rg.pT (.bool true)) (hS _ _ hI) ?_;go_frame;refine Rg.Any.done (by kernel_rfl) ?_ _;clear hS hI;go_upto_region 2 with (fail);refine Rg.wl ?_;refine Rg.la 4 (.int .i64 ((0:Nat):Int)) ?_;go_frame;go_wp2;go_ret;exact ⟨0,_,rfl,fun h=>by omega,fun _=>rfl,TK.out,K.out⟩
 case pos =>
  have hkN:(k:Int)<(l.length:Int):=by omega
  by_cases hm1:1≤m
  case neg =>
   skip
   go_upto_region 1 with (fail);have hV0:Below w.heap.size w w.drew:=(Below.refl _ _).drew;replace TK:=ι (TK.out.below hV0);replace K:=ι (kpAcc K.out hV0);clear hV0;refine Rg.Any.begin (S:=Rg.Both 13 (fun _=>True) (fun W=>Below w.drew.heap.size w.drew W)) mix ?_;generalize w.drew=w1 at *;have hS:∀ (l:Array Bool) W,Below w1.heap.size w1 W→Rg.Both 13 (fun _=>True) (fun W=>Below w1.heap.size w1 W) l W:=fun l W h=>⟨.inr trivial,h⟩;have hI:Below w1.heap.size w1 w1:=Below.refl _ _;refine Rg.tm 0 13 (.pointer (some ⟨tk,0,none⟩)) 5 (hS _ _ hI) ?_;go_frame;refine Rg.tg 1 13 (.pointer (some ⟨tk,0,none⟩)) 6 rfl rfl (.inl ⟨rfl,fun w _=>exec_nil _ rfl rfl⟩) (hS _ _ hI) ?_;go_frame;refine Rg.tg 2 13 (.pointer (some ⟨tk,1,none⟩)) 7 rfl rfl (.inl ⟨rfl,fun w _=>exec_field _ rfl rfl (tkF1 _ _)⟩) (hS _ _ hI) ?_;go_frame;refine Rg.tg 3 13 (.int .i64 ((k:Nat):Int)) 8 rfl rfl (Rg.yc ⟨tk,1,none⟩ (fun W hW=>run_loadInt ((Below.cell (p:=⟨tk,1,none⟩) hW TK.out.lt).trans TK.out.c1))) (hS _ _ hI) ?_;go_frame
   refine Rg.tm 4 13 (.pointer (some ⟨tk,0,none⟩)) 9 (hS _ _ hI) ?_;go_frame;refine Rg.tg 5 13 (.pointer (some ⟨tk,0,none⟩)) 10 rfl rfl (.inl ⟨rfl,fun w _=>exec_nil _ rfl rfl⟩) (hS _ _ hI) ?_;go_frame;refine Rg.tg 6 13 (.pointer (some ⟨tk,0,none⟩)) 11 rfl rfl (.inl ⟨rfl,fun w _=>exec_field _ rfl rfl (tkF0 _ _)⟩) (hS _ _ hI) ?_;go_frame;refine Rg.tg 7 13 (.slice la l.length lc) 12 rfl rfl (Rg.yc ⟨tk,0,none⟩ (fun W hW=>Rg.run_loadSl _ _ Tryz.underlying25 ((Below.cell (p:=⟨tk,0,none⟩) hW TK.out.lt).trans TK.out.c0))) (hS _ _ hI) ?_;go_frame;refine Rg.tg 8 13 (.int .i64 ((l.length:Nat):Int)) 13 rfl rfl (.inl ⟨rfl,fun w _=>exec_len _ _ _ rfl Tryz.underlying25 _ _ _ rfl⟩) (hS _ _ hI) ?_;go_frame;refine Rg.tg 9 13 (.bool false) 14 rfl rfl (.inl ⟨rfl,fun w _=>exec_bin (R:=.bool false) .geq _ _ _ rfl rfl rfl (b_geq _ Rg.dF)⟩) (hS _ _ hI) ?_;go_frame;refine Rg.tm 10 13 (.bool false) 15 (hS _ _ hI) ?_;go_frame
   refine Rg.tm 11 13 (.int .i64 m) 16 (hS _ _ hI) ?_;go_frame;refine Rg.tg 12 13 (.bool true) 17 rfl rfl (.inl ⟨rfl,fun w _=>exec_bin (R:=.bool true) .lss _ _ _ rfl rfl rfl (b_lss _ Rg.dT)⟩) (hS _ _ hI) ?_;go_frame;refine Rg.aR 13 18 rfl rfl (Rg.pF (.bool true)) (hS _ _ hI) ?_;go_frame;refine Rg.Any.done (by kernel_rfl) ?_ _;clear hS hI;go_upto_region 2 with (fail);refine Rg.wl ?_;refine Rg.la 4 (.int .i64 ((0:Nat):Int)) ?_;go_frame;go_wp2;go_ret;exact ⟨0,_,rfl,fun h=>by omega,fun _=>rfl,TK.out,K.out⟩
  case pos =>
   have hkb:k+1≤9223372036854775807:=by
    have:=HLM.out;unfold maxLen at this;omega
   obtain ⟨lb,lo,rfl,hlb,hcell⟩:=HLC.out (by omega);have hck:=hcell k hk;obtain ⟨x,hx⟩:∃ x:Int,l[k]=x:=⟨_,rfl⟩;rw [hx] at hck;have HKL:=ι hk;obtain ⟨r,hr⟩:∃ r:Nat,Hid (pickV x m=((r:Nat):Int)):=⟨_,ι (Int.toNat_of_nonneg (pickV_range (x:=x) (n:=m) (by omega)).1).symm⟩;have HRM:=ι (show ((r:Nat):Int)<m by rw [← hr.out]; exact (pickV_range (x:=x) (n:=m) (by omega)).2);have CX:=ι (CL.mk hck hlb);clear hck hlb hcell hx;go_upto_region 1 with (fail);have hV0:Below w.heap.size w w.drew:=(Below.refl _ _).drew;replace TK:=ι (TK.out.below hV0);replace K:=ι (kpAcc K.out hV0);clear hV0;refine Rg.Any.begin (S:=Rg.Both 13 (fun _=>True) (fun W=>Below w.drew.heap.size w.drew W)) mix ?_;generalize w.drew=w1 at *;have hS:∀ (l:Array Bool) W,Below w1.heap.size w1 W→Rg.Both 13 (fun _=>True) (fun W=>Below w1.heap.size w1 W) l W:=fun l W h=>⟨.inr trivial,h⟩
   have hI:Below w1.heap.size w1 w1:=Below.refl _ _;refine Rg.tm 0 13 (.pointer (some ⟨tk,0,none⟩)) 5 (hS _ _ hI) ?_;go_frame;refine Rg.tg 1 13 (.pointer (some ⟨tk,0,none⟩)) 6 rfl rfl (.inl ⟨rfl,fun w _=>exec_nil _ rfl rfl⟩) (hS _ _ hI) ?_;go_frame;refine Rg.tg 2 13 (.pointer (some ⟨tk,1,none⟩)) 7 rfl rfl (.inl ⟨rfl,fun w _=>exec_field _ rfl rfl (tkF1 _ _)⟩) (hS _ _ hI) ?_;go_frame;refine Rg.tg 3 13 (.int .i64 ((k:Nat):Int)) 8 rfl rfl (Rg.yc ⟨tk,1,none⟩ (fun W hW=>run_loadInt ((Below.cell (p:=⟨tk,1,none⟩) hW TK.out.lt).trans TK.out.c1))) (hS _ _ hI) ?_;go_frame;refine Rg.tm 4 13 (.pointer (some ⟨tk,0,none⟩)) 9 (hS _ _ hI) ?_;go_frame;refine Rg.tg 5 13 (.pointer (some ⟨tk,0,none⟩)) 10 rfl rfl (.inl ⟨rfl,fun w _=>exec_nil _ rfl rfl⟩) (hS _ _ hI) ?_;go_frame;refine Rg.tg 6 13 (.pointer (some ⟨tk,0,none⟩)) 11 rfl rfl (.inl ⟨rfl,fun w _=>exec_field _ rfl rfl (tkF0 _ _)⟩) (hS _ _ hI) ?_;go_frame
   refine Rg.tg 7 13 (.slice (some ⟨lb,lo,none⟩) l.length lc) 12 rfl rfl (Rg.yc ⟨tk,0,none⟩ (fun W hW=>Rg.run_loadSl _ _ Tryz.underlying25 ((Below.cell (p:=⟨tk,0,none⟩) hW TK.out.lt).trans TK.out.c0))) (hS _ _ hI) ?_;go_frame;refine Rg.tg 8 13 (.int .i64 ((l.length:Nat):Int)) 13 rfl rfl (.inl ⟨rfl,fun w _=>exec_len _ _ _ rfl Tryz.underlying25 _ _ _ rfl⟩) (hS _ _ hI) ?_;go_frame;refine Rg.tg 9 13 (.bool false) 14 rfl rfl (.inl ⟨rfl,fun w _=>exec_bin (R:=.bool false) .geq _ _ _ rfl rfl rfl (b_geq _ Rg.dF)⟩) (hS _ _ hI) ?_;go_frame;refine Rg.tm 10 13 (.bool false) 15 (hS _ _ hI) ?_;go_frame;refine Rg.tm 11 13 (.int .i64 m) 16 (hS _ _ hI) ?_;go_frame;refine Rg.tg 12 13 (.bool false) 17 rfl rfl (.inl ⟨rfl,fun w _=>exec_bin (R:=.bool false) .lss _ _ _ rfl rfl rfl (b_lss _ Rg.dF)⟩) (hS _ _ hI) ?_;go_frame;refine Rg.aR 13 18 rfl rfl (Rg.pF (.bool false)) (hS _ _ hI) ?_;go_frame
   refine Rg.Any.done (by kernel_rfl) ?_ _;clear hS hI;go_upto_region 3 with (fail);refine Rg.wl ?_;refine Rg.lm 19 (.pointer (some ⟨tk,0,none⟩)) ?_;go_frame;refine Rg.lr 20 (exec_nil _ rfl rfl) ?_;go_frame;refine Rg.lr 21 (exec_field _ rfl rfl (tkF1 _ _)) ?_;go_frame;refine Rg.lr 22 (Rg.lo (.int .i64 ((k:Nat):Int)) ⟨tk,1,none⟩ (run_loadInt TK.out.c1)) ?_;go_frame;refine Rg.lr 23 (Rg.bn (.int .i64 (((k+1):Nat):Int)) .add (h:=b_add _ (by omega) (by omega))) ?_;go_frame;refine Rg.lr 24 (exec_nil _ rfl rfl) ?_;go_frame;refine Rg.lr 25 (exec_field _ rfl rfl (tkF1 _ _)) ?_;go_frame;refine Rg.list_skip none rfl rfl (Rg.exec_store _ _ _ rfl _ rfl _ rfl (run_storeInt _ TK.out.c1 TK.out.f1)) ?_;go_frame;obtain ⟨ht2,hk2⟩:=TK.out.next (k+1);have K2:=ι (Rg.Kp.trans (M:=fun z=>z=tk) K.out hk2 (fun _ _ e=>e));have CX2:=ι (CX.out.upto ht2.bel CX.out.lt);generalize w1.setCell ⟨tk,1,none⟩ (.int .i64 (((k+1):Nat):Int))=w50 at *
   have T2:=ι ht2;clear ht2 hk2 TK K CX;go_upto_region 4 with (fail);have hV0:Below w50.heap.size w50 w50.drew:=(Below.refl _ _).drew;replace T2:=ι (T2.out.below hV0);replace CX2:=ι (CX2.out.below hV0);replace K2:=ι (kpAcc K2.out hV0);clear hV0;refine Rg.Any.begin (S:=Rg.Both 13 (fun _=>True) (fun W=>Below w50.drew.heap.size w50.drew W)) mix ?_;generalize w50.drew=w51 at *;have hS:∀ (l:Array Bool) W,Below w51.heap.size w51 W→Rg.Both 13 (fun _=>True) (fun W=>Below w51.heap.size w51 W) l W:=fun l W h=>⟨.inr trivial,h⟩;have hI:Below w51.heap.size w51 w51:=Below.refl _ _;refine Rg.tm 0 13 (.pointer (some ⟨tk,0,none⟩)) 26 (hS _ _ hI) ?_;go_frame;refine Rg.tg 1 13 (.pointer (some ⟨tk,0,none⟩)) 27 rfl rfl (.inl ⟨rfl,fun w _=>exec_nil _ rfl rfl⟩) (hS _ _ hI) ?_;go_frame;refine Rg.tg 2 13 (.pointer (some ⟨tk,0,none⟩)) 28 rfl rfl (.inl ⟨rfl,fun w _=>exec_field _ rfl rfl (tkF0 _ _)⟩) (hS _ _ hI) ?_;go_frame
   refine Rg.tg 3 13 (.slice (some ⟨lb,lo,none⟩) l.length lc) 29 rfl rfl (Rg.yc ⟨tk,0,none⟩ (fun W hW=>Rg.run_loadSl _ _ Tryz.underlying25 ((Below.cell (p:=⟨tk,0,none⟩) hW T2.out.lt).trans T2.out.c0))) (hS _ _ hI) ?_;go_frame;refine Rg.tm 4 13 (.pointer (some ⟨tk,0,none⟩)) 30 (hS _ _ hI) ?_;go_frame;refine Rg.tg 5 13 (.pointer (some ⟨tk,0,none⟩)) 31 rfl rfl (.inl ⟨rfl,fun w _=>exec_nil _ rfl rfl⟩) (hS _ _ hI) ?_;go_frame;refine Rg.tg 6 13 (.pointer (some ⟨tk,1,none⟩)) 32 rfl rfl (.inl ⟨rfl,fun w _=>exec_field _ rfl rfl (tkF1 _ _)⟩) (hS _ _ hI) ?_;go_frame;refine Rg.tg 7 13 (.int .i64 (((k+1):Nat):Int)) 33 rfl rfl (Rg.yc ⟨tk,1,none⟩ (fun W hW=>run_loadInt ((Below.cell (p:=⟨tk,1,none⟩) hW T2.out.lt).trans T2.out.c1))) (hS _ _ hI) ?_;go_frame;refine Rg.tg 8 13 (.int .i64 ((k:Nat):Int)) 34 rfl rfl (.inl ⟨rfl,fun w _=>exec_bin (R:=.int .i64 ((k:Nat):Int)) .sub _ _ _ rfl rfl rfl (b_sub _ (by omega) (by omega))⟩) (hS _ _ hI) ?_;go_frame
   refine Rg.tg 9 13 (.pointer (some ⟨lb,lo+k,none⟩)) 35 rfl rfl (Rg.yields_index slInts _ _ rfl rfl lb (lo) (l.length) lc (k) rfl rfl HKL.out) (hS _ _ hI) ?_;go_frame;refine Rg.tg 10 13 (.int .i64 x) 36 rfl rfl (Rg.yc ⟨lb,lo+k,none⟩ (fun W hW=>run_loadInt ((Below.cell (p:=⟨lb,lo+k,none⟩) hW CX2.out.lt).trans CX2.out.cell))) (hS _ _ hI) ?_;go_frame;refine Rg.tm 11 13 (.int .i64 m) 37 (hS _ _ hI) ?_;go_frame;refine Rg.Any.one (i:=12) (by kernel_rfl) (Rg.Any.ask (some 38) rfl rfl rfl _ _ (exec_fn 35 _ _ _ rfl rfl rfl (Zjcl0 _ _)) ?_);refine (pick_n (by omega) hm hr w51).mono ?_;rintro e1 w52 ⟨rfl,hb⟩;have hI2_0:=Rg.acc hI hb;clear hb hI;refine ⟨_,rfl,(hS _ _ hI2_0),?_⟩;go_frame;refine Rg.aR 13 4 rfl rfl (Rg.xa (.int .i64 ((r:Nat):Int)) _ rfl rfl) (hS _ _ hI2_0) ?_;go_frame;refine Rg.Any.done (by kernel_rfl) ?_ _;replace T2:=ι (T2.out.below hI2_0);replace CX2:=ι (CX2.out.below hI2_0)
   replace K2:=ι (kpAcc K2.out hI2_0);clear hS hI2_0;clear hkb;go_wp2;go_ret;exact ⟨r,_,rfl,fun _=>HRM.out,fun h=>by omega,T2.out,K2.out⟩
end Go.Proofs.YtdnmmibchbceeaaGreat

namespace Go.Proofs.YtdnmmibchbceeaaGreat
open Go.RowKit
open Go.Proofs
open Go.Proofs.Ob
open Go.Proofs.Cm (Gd)
attribute [local irreducible] Go.Calls Go.wpList
theorem Zkcl0 (args:Array Value) (w:World):(callFunc 37 args).run Tryz.prog w=.ok (.enter 37 args) w:=by kernel_rfl
theorem Zkcl1 (args:Array Value) (w:World):(callFunc 70 args).run Tryz.prog w=.ok (.enter 70 args) w:=by kernel_rfl
def RwAt (w:World) (g n:Nat) (f:Nat→Int):Prop:=g<w.heap.size∧(∀ i,i<n→w.cell? ⟨g,i,none⟩=some (.int .i64 (f i)))∧∀ i,w.frozen? ⟨g,i,none⟩=false
theorem RwAt.congr {g:Nat} {f f':Nat→Int} (h:RwAt w g n f) (e:∀ i,i<n→f i=f' i):RwAt w g n f' :=
 ⟨h.1,fun i hi=>by rw [← e i hi]; exact h.2.1 i hi,h.2.2⟩
theorem RwAt.set {g:Nat} {f:Nat→Int} (h:RwAt w g n f) (k:Nat) (v:Int) (hk:k<n):RwAt (w.setCell ⟨g,k,none⟩ (.int .i64 v)) g n (fun i=>if i=k then v else f i):=by
 refine ⟨by simpa using h.1,fun i hi=>?_,fun i=>by rw [World.frozen?_setCell]; exact h.2.2 i⟩;show _=some (Value.int .i64 (if i=k then v else f i))
 by_cases e:i=k
 ·subst e
  rw [if_pos rfl];exact World.cell?_setCell_same (h:=h.2.1 i hi) ..
 ·rw [if_neg e,World.cell?_setCell_other (h:=by intro h; injection h with h1 h2; omega) ..]
  exact h.2.1 i hi
theorem RwAt.kp {g:Nat} {f:Nat→Int} (h:RwAt w g n f) (hk:Rg.Kp M w w') (hM:¬ M g):RwAt w' g n f :=
 ⟨Nat.lt_of_lt_of_le h.1 hk.size,fun i hi=>(World.cell?_of_block (a:=⟨g,i,none⟩) (hk.block g h.1 hM)).trans (h.2.1 i hi),fun i=>(World.frozen?_of_block (a:=⟨g,i,none⟩) (hk.block g h.1 hM)).trans (h.2.2 i)⟩
theorem RwAt.below {g:Nat} {f:Nat→Int} (h:RwAt w g n f) (hb:Below w.heap.size w w'):RwAt w' g n f:=h.kp (M:=fun _=>False) (Rg.Kp.of_below hb) id
theorem RwAt.np {g:Nat} {f:Nat→Int} (h:RwAt w g n f) (l:List Nat) (hl:l.length=n) (hc:n≤cap) (hm:cap≤maxLen) (hn:n≤1000) (e:∀ i (hi:i<l.length),f i=((l[i]:Nat):Int)):Rg.NP w (.slice (some ⟨g,0,none⟩) n cap) l:=by
 refine Rg.Ints.mk (by simp [Ma.ofN,hl]) h.1 (by simp [Ma.ofN]; omega) hm (by simp [Ma.ofN]; omega) fun i hi=>?_
 have hi':i<l.length:=by simpa [Ma.ofN] using hi
 rw [Nat.zero_add,h.2.1 i (by omega),e i hi'];simp [Ma.ofN]
def PRow (w:World) (g n:Nat) (y:List Nat):Prop:=RwAt w g n (fun i=>((y.getD i 0:Nat):Int))
theorem PRow.np {w:World} {g n cap:Nat} {y:List Nat} (h:PRow w g n y) (gy:Gd n y) (hc:n≤cap) (hm:cap≤maxLen) (hn:n≤1000):Rg.NP w (.slice (some ⟨g,0,none⟩) n cap) y :=
 RwAt.np h y gy.2 hc hm hn (fun i hi=>by show ((y.getD i 0:Nat):Int)=_; rw [List.getD_eq_getElem?_getD,List.getElem?_eq_getElem hi]; rfl)
theorem PRow.below {w w':World} {g n:Nat} {y:List Nat} (h:PRow w g n y) (hb:Below w.heap.size w w'):PRow w' g n y:=RwAt.below h hb
theorem kitOne_row (n:Nat) (w:World) (h1:1≤n) (hn:n≤1000) :
  Calls Tryz.prog 37 #[.int .i64 n] w fun e w'=>∃ g cap,e=.returned (.slice (some ⟨g,0,none⟩) n cap)∧w.heap.size≤g∧n≤cap∧cap≤maxLen∧RwAt w' g n (fun i=>(i:Int))∧Below w.heap.size w w':=by
 go_enter Tryz.func37,Tryz.ntmps37
 go_wp2
 go_loopw [3,4] (fun v i wr=>∃ k:Nat,k≤n∧i=.int .i64 k∧Hid (wr.ownsRow w.heap.size 3 1 v k (ivs (Ma.oneN k)))∧Hid (Below w.heap.size w wr)) (fun _ i _=>n - (intOf i).toNat)
 case atStart=>exact ⟨0,by omega,rfl,World.ownsRow_nil _ _ _ _,Below.refl _ _⟩
 case round =>
  obtain ⟨k,hk,rfl,hs,hbel⟩:=hrel
  by_cases hlt:k<n
  ·go_wp2_with (at_builtin; refine Rg.app1 rfl _ _ 30 rfl slPerm hs.out hbel.out _ (by simp [Value.oneCell']) rfl rfl (by omega) ?_; intro v' w1 hs1 hb1 _ _ _)
   go_roundw
   case rel=>exact ⟨k+1,by omega,by go_num,by rw [show Ma.oneN (k+1)=Ma.oneN k++[k] from List.range_succ,ivs_snoc]; exact hs1,hb1⟩
   case measure=>simp [intOf]; omega
  ·obtain rfl:k=n:=by omega
   go_wp2;go_ret;have ho:=hs.out
   obtain ⟨_,⟨_,h0⟩ | ⟨g,cap,cur,rfl,hg,hc,h3,h4,h5,h6⟩⟩:=hs.out
   ·omega
   ·refine ⟨g,cap,rfl,hg,h3,h4,⟨(ho.lt g rfl).2,fun i hi=>?_,fun i=>ho.frozenAt i⟩,hbel.out⟩
    have:=ho.cellAt i (by omega);rw [this];simp [ivs,Ma.oneN,hi]
def cyF (a b i:Nat):Nat:=if a≤i∧i+1<b then i+1 else if i+1=b then a else i
def cyN (n a b:Nat):List Nat:=(List.range n).map (cyF a b)
theorem nd_map {f:Nat→Nat} (h:∀ a b,a<n→b<n→f a=f b→a=b):((List.range n).map f).Nodup:=by
 rw [List.Nodup,List.pairwise_map];exact List.Pairwise.imp_of_mem (fun {a b} ha hb hne e=>hne (h a b (List.mem_range.1 ha) (List.mem_range.1 hb) e)) List.nodup_range
theorem gd_map {f:Nat→Nat} (h1:∀ a,a<n→f a<n) (h:∀ a b,a<n→b<n→f a=f b→a=b):Gd n ((List.range n).map f):=by
 refine ⟨⟨fun x hx=>?_,nd_map h⟩,by simp⟩;obtain ⟨a,ha,rfl⟩:=List.mem_map.1 hx
 simpa using h1 a (List.mem_range.1 ha)
theorem getD_map {i:Nat} {f:Nat→Nat} (h:i<n):((List.range n).map f).getD i 0=f i:=by
 rw [List.getD_eq_getElem?_getD,List.getElem?_eq_getElem (by simpa using h)]; simp
theorem cyN_gd {a b:Nat} (hab:a<b) (hb:b≤n):Gd n (cyN n a b):=by
 refine gd_map (fun i hi=>?_) (fun i j hi hj e=>?_)
 ·unfold cyF; split
  ·omega
  ·split <;> omega
 ·have key:∀ x,(a≤x∧x+1<b∧cyF a b x=x+1)∨(x+1=b∧cyF a b x=a)∨((x<a∨b≤x)∧cyF a b x=x):=fun x=>by
   unfold cyF
   by_cases h1:a≤x∧x+1<b
   ·exact .inl ⟨h1.1,h1.2,if_pos h1⟩
   ·by_cases h2:x+1=b
    ·exact .inr (.inl ⟨h2,by rw [if_neg h1,if_pos h2]⟩)
    ·exact .inr (.inr ⟨by omega,by rw [if_neg h1,if_neg h2]⟩)
  rcases key i with ⟨_,_,e1⟩ | ⟨_,e1⟩ | ⟨_,e1⟩ <;> rcases key j with ⟨_,_,e2⟩ | ⟨_,e2⟩ | ⟨_,e2⟩ <;> omega
theorem cycle_any {g a b:Nat} (h:RwAt w g n (fun i=>(i:Int))) (hab:a<b) (hb:b≤n) (hn:n≤1000) :
  Calls Tryz.prog 71 #[.slice (some ⟨g,0,none⟩) n cap,.int .i64 a,.int .i64 b] w fun e w'=>e=.returned (.slice (some ⟨g,0,none⟩) n cap)∧PRow w' g n (cyN n a b)∧Rg.Kp (fun z=>z=g) w w':=by
 have H:=ι (show RwAt w g n (fun j=>if a≤j∧j<a then ((j:Nat):Int)+1 else (j:Int)) from h.congr fun i _=>by rw [if_neg (by omega)]);have K:=ι (Rg.Kp.refl (fun z=>z=g) w);clear h
 go_enter Tryz.func71,Tryz.ntmps71
 go_wp2
 go_loopw [7] (fun iv wr=>∃ k:Nat,iv=.int .i64 k∧a≤k∧k≤b∧Hid (RwAt wr g n (fun j=>if a≤j∧j<k then ((j:Nat):Int)+1 else (j:Int)))∧Hid (Rg.Kp (fun z=>z=g) w wr)) (fun iv _=>b - (intOf iv).toNat)
 case atStart=>exact ⟨a,rfl,Nat.le_refl _,by omega,H,K⟩
 case round =>
  clear H K;obtain ⟨k,rfl,hak,hkb,H,K⟩:=hrel
  by_cases hlt:k<b
  ·have c1:=H.out.2.1 k (by omega)
   have f1:=H.out.2.2 k;have hs:=ι (H.out.set k ((k:Int)+1) (by omega));have hk2:=ι (Rg.Kp.trans (M:=fun z=>z=g) K.out (Rg.Kp.of_setCell (M:=fun z=>z=g) (a:=⟨g,k,none⟩) (v:=.int .i64 ((k:Int)+1)) rfl) (fun _ _ e=>e));go_wp2
   go_roundw
   case rel=>exact ⟨k+1,by go_num,by omega,hlt,ι (hs.out.congr fun i hi=>by
    by_cases e:i=k
    ·subst e; rw [if_pos rfl,if_pos (by omega)]
    ·rw [if_neg e]
     by_cases e2:a≤i∧i<k
     ·rw [if_pos e2,if_pos (by omega)]
     ·rw [if_neg e2,if_neg (by omega)]),hk2⟩
   case measure=>simp [intOf]; omega
  ·obtain rfl:k=b:=by omega
   obtain ⟨c,rfl⟩:∃ c,k=c+1:=⟨k - 1,by omega⟩;have c1:=H.out.2.1 c (by omega);have f1:=H.out.2.2 c;have hs:=ι (H.out.set c (a:Int) (by omega));have hk2:=ι (Rg.Kp.trans (M:=fun z=>z=g) K.out (Rg.Kp.of_setCell (M:=fun z=>z=g) (a:=⟨g,c,none⟩) (v:=.int .i64 (a:Int)) rfl) (fun _ _ e=>e));go_wp2;go_ret;refine ⟨rfl,RwAt.congr hs.out fun i hi=>?_,hk2.out⟩;show _=((((List.range n).map (cyF a (c+1))).getD i 0:Nat):Int);rw [getD_map hi];unfold cyF
   by_cases e:i=c
   ·subst e; rw [if_pos rfl,if_neg (by omega),if_pos rfl]
   ·rw [if_neg e]
    by_cases e2:a≤i∧i<c+1
    ·rw [if_pos e2,if_pos (by omega)]; rfl
    ·rw [if_neg e2,if_neg (by omega),if_neg (by omega)]
def swF (y:List Nat) (i k j:Nat):Nat:=if j=k then y.getD i 0 else if j=i then y.getD k 0 else y.getD j 0
def swN (n:Nat) (y:List Nat) (i k:Nat):List Nat:=(List.range n).map (swF y i k)
theorem swN_gd {i:Nat} {y:List Nat} (gy:Gd n y) (hi:i<n) (hk:k<n):Gd n (swN n y i k):=by
 have h1:∀ j,j<n→y.getD j 0<n:=fun j hj=>Cm.ap_lt gy hj;have h2:∀ a b,a<n→b<n→y.getD a 0=y.getD b 0→a=b:=fun a b ha hb e=>Cm.ap_inj gy ha hb e;refine gd_map (fun j hj=>?_) (fun a b ha hb e=>?_)
 ·unfold swF; split
  ·exact h1 _ hi
  ·split
   ·exact h1 _ hk
   ·exact h1 _ hj
 ·unfold swF at e
  by_cases a1:a=k
  ·rw [if_pos a1] at e
   by_cases b1:b=k
   ·omega
   ·rw [if_neg b1] at e
    by_cases b2:b=i
    ·rw [if_pos b2] at e; have:=h2 _ _ hi hk e; omega
    ·rw [if_neg b2] at e; have:=h2 _ _ hi hb e; omega
  ·rw [if_neg a1] at e
   by_cases a2:a=i
   ·rw [if_pos a2] at e
    by_cases b1:b=k
    ·rw [if_pos b1] at e; have:=h2 _ _ hk hi e; omega
    ·rw [if_neg b1] at e
     by_cases b2:b=i
     ·omega
     ·rw [if_neg b2] at e; have:=h2 _ _ hk hb e; omega
   ·rw [if_neg a2] at e
    by_cases b1:b=k
    ·rw [if_pos b1] at e; have:=h2 _ _ ha hi e; omega
    ·rw [if_neg b1] at e
     by_cases b2:b=i
     ·rw [if_pos b2] at e; have:=h2 _ _ ha hk e; omega
     ·rw [if_neg b2] at e; exact h2 _ _ ha hb e
theorem PRow.swap {g i:Nat} {y:List Nat} (h:PRow w g n y) (hi:i<n) (hk:k<n):PRow ((w.setCell ⟨g,i,none⟩ (.int .i64 ((y.getD k 0:Nat):Int))).setCell ⟨g,k,none⟩ (.int .i64 ((y.getD i 0:Nat):Int))) g n (swN n y i k):=by
 refine RwAt.congr ((RwAt.set h i _ hi).set k _ hk) fun j hj=>?_;show _=((((List.range n).map (swF y i k)).getD j 0:Nat):Int);rw [getD_map hj];unfold swF
 by_cases e:j=k
 ·rw [if_pos e,if_pos e]
 ·rw [if_neg e,if_neg e]
  by_cases e2:j=i
  ·rw [if_pos e2,if_pos e2]
  ·rw [if_neg e2,if_neg e2]
theorem oneN_row {g:Nat} (h:RwAt w g n (fun i=>(i:Int))):PRow w g n (Ma.oneN n):=RwAt.congr h fun i hi=>by
 have:=Cm.ap_one hi;unfold Cm.ap at this;rw [this]
def PePost (w0 w:World) (tk:Nat) (lv:Value) (l:List Int) (n:Nat) (e:Ending) (w':World):Prop:=∃ g cap y k',e=.returned (.slice (some ⟨g,0,none⟩) n cap)∧w.heap.size≤g∧n≤cap∧cap≤maxLen∧Gd n y∧PRow w' g n y∧Tk w0 w' tk k' lv l∧Rg.Kp (fun z=>z=tk) w w'
theorem kitPerm_any {lv:Value} (h:Tk w0 w tk k lv l) (hn1:1≤n) (hn2:n≤64) :
  Calls Tryz.prog 36 #[.pointer (some ⟨tk,0,none⟩),.int .i64 ((n:Nat):Int)] w (PePost w0 w tk lv l n):=by
 have TK:=ι h;have K:=ι (Rg.Kp.refl (fun z=>z=tk) w);have HLO:=ι h.lo;have HLT:=ι h.lt;have HWW:=ι h.bel.size;clear h
 go_enter Tryz.func36,Tryz.ntmps36
 go_upto_region 1 with (fail);refine Rg.wl ?_;refine Rg.lm 8 (.int .i64 ((n:Nat):Int)) ?_;go_frame;refine Rg.lk 9 (exec_fn1 37 _ _ rfl rfl (Zkcl0 _ _)) ?_;refine (kitOne_row n w hn1 (by omega)).mono ?_;rintro e1 w1 ⟨g,cap,rfl,hg,hc1,hc2,hro,hb⟩;have HG:=ι hg;have HCP:=ι (show n≤cap∧cap≤maxLen from ⟨hc1,hc2⟩);have hrp:=oneN_row hro;clear hg hc1 hc2 hro;refine ⟨_,rfl,?_⟩;go_frame;replace TK:=ι (TK.out.below hb);replace K:=ι (kpAcc K.out hb);clear hb;have PR:=ι hrp;refine Rg.la 5 (.slice (some ⟨g,0,none⟩) n cap) ?_;go_frame;go_upto_region 2 with (fail);refine Rg.wl ?_;refine Rg.la 6 (.int .i64 ((0:Nat):Int)) ?_;go_frame;clear hrp;have GY:=ι (Cm.gd_one n);go_wp2
 go_loopw [6] (fun iv wr=>∃ (i k':Nat) (y:List Nat),iv=.int .i64 i∧i≤n∧Hid (PRow wr g n y)∧Hid (Gd n y)∧Hid (Tk w0 wr tk k' lv l)∧Hid (Rg.Kp (fun z=>z=tk) w wr)) (fun iv _=>n - (intOf iv).toNat)
 case atStart=>exact ⟨0,k,_,rfl,Nat.zero_le _,PR,GY,TK,K⟩
 case round =>
  clear PR GY TK K;obtain ⟨i,k',y,rfl,hi,PR,GY,TK,K⟩:=hrel
  by_cases hin:i+1<n
  ·have hiN:(i:Int)+1<(n:Int):=by omega
   go_upto_region 3 with (fail);refine Rg.wl ?_;refine Rg.lm 10 (.int .i64 ((i:Nat):Int)) ?_;go_frame;refine Rg.lr 11 (Rg.bn (.int .i64 (((i+1):Nat):Int)) .add (h:=b_add _ (by omega) (by omega))) ?_;go_frame;refine Rg.lm 12 (.int .i64 ((n:Nat):Int)) ?_;go_frame;refine Rg.lr 13 (Rg.bn (.bool true) .lss (h:=b_lss _ Rg.dT)) ?_;go_frame;go_upto_region 5 with (fail);refine Rg.wl ?_;refine Rg.lm 16 (.int .i64 ((i:Nat):Int)) ?_;go_frame;refine Rg.lm 17 (.pointer (some ⟨tk,0,none⟩)) ?_;go_frame;refine Rg.lm 18 (.int .i64 ((n:Nat):Int)) ?_;go_frame;refine Rg.lm 19 (.int .i64 ((i:Nat):Int)) ?_;go_frame;refine Rg.lr 20 (Rg.bn (.int .i64 (((n - i):Nat):Int)) .sub (h:=b_sub _ (by omega) (by omega))) ?_;go_frame;refine Rg.lk 21 (exec_fn 70 _ _ _ rfl rfl rfl (Zkcl1 _ _)) ?_;refine (Take_any TK.out ((n - i:Nat):Int) (by omega)).mono ?_;rintro e1 w21 ⟨r,k2,rfl,hr1,hr2,htk,hkp⟩
   have hri:r<n - i:=by have:=hr1 (by omega); omega
   have hpr2:=RwAt.kp PR.out hkp (fun e=>by have:=HLT.out; have:=HG.out; omega);clear hr1 hr2;refine ⟨_,rfl,?_⟩;go_frame;clear TK;replace PR:=ι hpr2;replace K:=ι (Rg.Kp.trans (M:=fun z=>z=tk) K.out hkp (fun _ _ e=>e));have TK2:=ι htk;clear hkp hpr2;refine Rg.lr 22 (Rg.bn (.int .i64 (((i+r):Nat):Int)) .add (h:=b_add _ (by omega) (by omega))) ?_;go_frame;refine Rg.la 7 (.int .i64 (((i+r):Nat):Int)) ?_;go_frame;clear htk
   have hkn:i+r<n:=by omega
   have hin2:i<n:=by omega
   go_upto_region 6 with (fail);have hV1:Below w21.heap.size w21 w21.drew:=(Below.refl _ _).drew;replace PR:=ι (PRow.below PR.out hV1);replace TK2:=ι (TK2.out.below hV1);replace K:=ι (kpAcc K.out hV1);clear hV1;have hV0:Below w21.heap.size w21 w21.drew:=(Below.refl _ _).drew;generalize Fup (fun _:Nat=>True) w21 w21.drew=F1 at *;clear hV0;refine Rg.Any.begin (S:=Rg.Both 13 (fun W:World=>W.cell? ⟨g,i,none⟩=some (.int .i64 ((y.getD i 0:Nat):Int))∧W.cell? ⟨g,i+r,none⟩=some (.int .i64 ((y.getD (i+r) 0:Nat):Int))) (fun _=>True)) mix ?_;generalize w21.drew=w22 at *;have hS:∀ (l:Array Bool) W,(fun W:World=>W.cell? ⟨g,i,none⟩=some (.int .i64 ((y.getD i 0:Nat):Int))∧W.cell? ⟨g,i+r,none⟩=some (.int .i64 ((y.getD (i+r) 0:Nat):Int))) W→Rg.Both 13 (fun W:World=>W.cell? ⟨g,i,none⟩=some (.int .i64 ((y.getD i 0:Nat):Int))∧W.cell? ⟨g,i+r,none⟩=some (.int .i64 ((y.getD (i+r) 0:Nat):Int))) (fun _=>True) l W:=fun l W h=>⟨.inr h,trivial⟩
   have hS2:∀ (l:Array Bool) W,l.getD 13 false=true→Rg.Both 13 (fun W:World=>W.cell? ⟨g,i,none⟩=some (.int .i64 ((y.getD i 0:Nat):Int))∧W.cell? ⟨g,i+r,none⟩=some (.int .i64 ((y.getD (i+r) 0:Nat):Int))) (fun _=>True) l W:=fun l W h=>⟨.inl h,trivial⟩;have hI:(fun W:World=>W.cell? ⟨g,i,none⟩=some (.int .i64 ((y.getD i 0:Nat):Int))∧W.cell? ⟨g,i+r,none⟩=some (.int .i64 ((y.getD (i+r) 0:Nat):Int))) w22:=⟨PR.out.2.1 i hin2,PR.out.2.1 (i+r) hkn⟩;refine Rg.tm 0 13 (.slice (some ⟨g,0,none⟩) n cap) 23 (hS _ _ hI) ?_;go_frame;refine Rg.tm 1 13 (.int .i64 ((i:Nat):Int)) 24 (hS _ _ hI) ?_;go_frame;refine Rg.tm 2 13 (.slice (some ⟨g,0,none⟩) n cap) 25 (hS _ _ hI) ?_;go_frame;refine Rg.tm 3 13 (.int .i64 (((i+r):Nat):Int)) 26 (hS _ _ hI) ?_;go_frame;refine Rg.tm 4 13 (.slice (some ⟨g,0,none⟩) n cap) 27 (hS _ _ hI) ?_;go_frame
   refine Rg.tm 5 13 (.int .i64 (((i+r):Nat):Int)) 28 (hS _ _ hI) ?_;go_frame;refine Rg.tg 6 13 (.pointer (some ⟨g,0+(i+r),none⟩)) 29 rfl rfl (Rg.yields_index slPerm _ _ rfl rfl g (0) (n) cap ((i+r)) rfl rfl hkn) (hS _ _ hI) ?_;go_frame;refine Rg.tT 7 13 (.int .i64 (((y.getD (i+r) 0):Nat):Int)) 30 rfl rfl (Rg.yc ⟨g,0+(i+r),none⟩ (fun W hW=>run_loadInt (by rw [Nat.zero_add]; exact hW.2))) (hS _ _ hI) ?_;go_frame;refine Rg.tm 8 13 (.slice (some ⟨g,0,none⟩) n cap) 31 (hS _ _ hI) ?_;go_frame;refine Rg.tm 9 13 (.int .i64 ((i:Nat):Int)) 32 (hS _ _ hI) ?_;go_frame;refine Rg.tg 10 13 (.pointer (some ⟨g,0+i,none⟩)) 33 rfl rfl (Rg.yields_index slPerm _ _ rfl rfl g (0) (n) cap (i) rfl rfl hin2) (hS _ _ hI) ?_;go_frame;refine Rg.tT 11 13 (.int .i64 (((y.getD i 0):Nat):Int)) 34 rfl rfl (Rg.yc ⟨g,0+i,none⟩ (fun W hW=>run_loadInt (by rw [Nat.zero_add]; exact hW.1))) (hS _ _ hI) ?_;go_frame
   refine Rg.tg 12 13 (.pointer (some ⟨g,0+i,none⟩)) 35 rfl rfl (Rg.yields_index slPerm _ _ rfl rfl g (0) (n) cap (i) rfl rfl hin2) (hS _ _ hI) ?_;go_frame;refine Rg.Any.one (i:=13) (by kernel_rfl) (Rg.Any.runSkip none rfl rfl rfl (Rg.exec_store _ _ _ rfl _ rfl _ rfl (run_storeInt _ (by rw [Nat.zero_add]; exact PR.out.2.1 i hin2) (PR.out.2.2 _))) (hS2 _ _ rfl) ?_);go_frame;refine Rg.tg 14 13 (.pointer (some ⟨g,0+(i+r),none⟩)) 36 rfl rfl (Rg.yields_index slPerm _ _ rfl rfl g (0) (n) cap ((i+r)) rfl rfl hkn) (hS2 _ _ rfl) ?_;go_frame;obtain ⟨u2,hu2⟩:∃ u,(w22.setCell ⟨g,0+i,none⟩ (.int .i64 ((y.getD (i+r) 0:Nat):Int))).cell? ⟨g,0+(i+r),none⟩=some u:=⟨_,by rw [Nat.zero_add,Nat.zero_add]; exact (RwAt.set PR.out i _ hin2).2.1 (i+r) hkn⟩;refine Rg.Any.one (i:=15) (by kernel_rfl) (Rg.Any.runSkip none rfl rfl rfl (Rg.exec_store _ _ _ rfl _ rfl _ rfl (run_storeInt _ hu2 (by rw [World.frozen?_setCell]; exact PR.out.2.2 _))) (hS2 _ _ rfl) ?_)
   go_frame;refine Rg.Any.done (by kernel_rfl) ?_ _;clear hS2;clear hS hI;have hsw:=PR.out.swap hin2 hkn;have hkk:=Rg.Kp.trans (M:=fun z=>z=g) (Rg.Kp.of_setCell (M:=fun z=>z=g) (w:=w22) (a:=⟨g,i,none⟩) (v:=.int .i64 ((y.getD (i+r) 0:Nat):Int)) rfl) (Rg.Kp.of_setCell (M:=fun z=>z=g) (a:=⟨g,i+r,none⟩) (v:=.int .i64 ((y.getD i 0:Nat):Int)) rfl) (fun _ _ e=>e);have e0:0+i=i:=Nat.zero_add i;have e1:0+(i+r)=i+r:=Nat.zero_add _;rw [e0,e1];generalize (w22.setCell ⟨g,i,none⟩ (.int .i64 ((y.getD (i+r) 0:Nat):Int))).setCell ⟨g,i+r,none⟩ (.int .i64 ((y.getD i 0:Nat):Int))=w99 at *;have PR2:=ι hsw;have GY2:=ι (swN_gd GY.out hin2 hkn);have TK3:=ι (TK2.out.kp hkk (fun e=>by have:=HLT.out; have:=HG.out; omega) (fun z e=>by have:=HLT.out; have:=HG.out; have:=HLO.out; omega));have K3:=ι (Rg.Kp.trans (M:=fun z=>z=tk) K.out hkk (fun z hz e=>by have:=HG.out; omega))
   clear hsw hkk e0 e1;go_wp2
   go_roundw
   case rel=>exact ⟨i+1,_,_,by go_num,by omega,PR2,GY2,TK3,K3⟩
   case measure=>simp [intOf]; omega
  ·have hiN:¬ (i:Int)+1<(n:Int):=by omega
   go_upto_region 3 with (fail);refine Rg.wl ?_;refine Rg.lm 10 (.int .i64 ((i:Nat):Int)) ?_;go_frame;refine Rg.lr 11 (Rg.bn (.int .i64 (((i+1):Nat):Int)) .add (h:=b_add _ (by omega) (by omega))) ?_;go_frame;refine Rg.lm 12 (.int .i64 ((n:Nat):Int)) ?_;go_frame;refine Rg.lr 13 (Rg.bn (.bool false) .lss (h:=b_lss _ Rg.dF)) ?_;go_frame;go_upto_region 7 with (fail);refine Rg.wl ?_;refine Rg.lm 37 (.slice (some ⟨g,0,none⟩) n cap) ?_;go_frame;refine Rg.la 4 (.slice (some ⟨g,0,none⟩) n cap) ?_;go_frame;go_wp2;go_ret;exact ⟨g,cap,y,_,rfl,HG.out,HCP.out.1,HCP.out.2,GY.out,PR.out,TK.out,K.out⟩
end Go.Proofs.YtdnmmibchbceeaaGreat

namespace Go.Proofs.YtdnmmibchbceeaaGreat
open Go.RowKit
open Go.Proofs
open Go.Proofs.Ob
open Go.Proofs.Cm (Gd Gr IsChain)
attribute [local irreducible] Go.Calls Go.wpList
theorem made_rowH (w:World) (n:Nat):RwAt (w.alloc (.cells (madeCells #[.int .i64 0] n) 3)) w.heap.size n (fun _=>0):=by
 have h:=World.rowIs_made w (.int .i64 0) n 3;exact ⟨by simp,fun i hi=>h.cell hi,fun i=>h.frozen i⟩
end Go.Proofs.YtdnmmibchbceeaaGreat

namespace Go.Proofs.YtdnmmibchbceeaaGreat
open Go.RowKit
open Go.Proofs
open Go.Proofs.Ob
open Go.Proofs.Cm (Gd Gr IsChain ap)
attribute [local irreducible] Go.Calls Go.wpList
theorem level_rows (hc:IsChain N H O R) (h:ChEqR w ov rv (O.map Ma.ofN) (R.map (List.map Ma.ofN))) {i:Nat} (hi:i<N) :
  ∃ ob oo oc rb ro rc,ov=.slice (some ⟨ob,oo,none⟩) N oc∧rv=.slice (some ⟨rb,ro,none⟩) N rc∧(∃ ua uc,CL w ob (oo+i) (.slice ua (O.getD i []).length uc)∧Rg.Ints w (.slice ua (O.getD i []).length uc) (Ma.ofN (O.getD i []))) ∧
   (∃ va vc,CL w rb (ro+i) (.slice va (O.getD i []).length vc)∧Rg.Rows w (.slice va (O.getD i []).length vc) ((R.getD i []).map Ma.ofN)):=by
 have hlo:(O.map Ma.ofN).length=N:=by rw [List.length_map,hc.lenO]
 have hlr:(R.map (List.map Ma.ofN)).length=N:=by rw [List.length_map,hc.lenR]
 obtain ⟨oa,oc,rfl,-⟩:=h.1.shape;obtain ⟨ra,rc,rfl⟩:=h.2.shape;have h1:=h.1;have h2:=h.2;rw [hlo] at h1;rw [hlr] at h2;obtain ⟨ob,oo,ua,uc,e5,hob,hoc,hoi⟩:=rowsI_get h1 (i:=i) (by rw [hlo]; exact hi);subst e5;obtain ⟨rb,ro,e6,hrb,u,hcu,hu⟩:=h2.at' (k:=i) (by rw [hlr]; exact hi);subst e6
 have hox:(O.map Ma.ofN)[i]'(by rw [hlo]; exact hi)=Ma.ofN (O.getD i []):=by
  have hXO:i<O.length:=by rw [hc.lenO]; exact hi
  rw [List.getElem_map,getD_inf hXO]
 rw [hox] at hoc hoi;rw [Ma.len_ofN] at hoc hoi
 have hrx:(R.map (List.map Ma.ofN))[i]'(by rw [hlr]; exact hi)=(R.getD i []).map Ma.ofN:=by
  have hXR:i<R.length:=by rw [hc.lenR]; exact hi
  rw [List.getElem_map,getD_inf hXR]
 rw [hrx] at hu;obtain ⟨va,vc,rfl,-⟩:=hu.shape;rw [List.length_map,hc.len i hi] at hcu hu;rw [hlo,hlr];exact ⟨ob,oo,oc,rb,ro,rc,rfl,rfl,⟨ua,uc,CL.mk hoc hob,hoi⟩,⟨va,vc,CL.mk hcu hrb,hu⟩⟩
theorem exec_slice1I {o:Oper} {a:Act} {r:Value} (x:Operand) (ho:o.op=.slice 25 x (some (.const (.int .i64 1))) none none) (hx:a.eval x=v) (hr:(Instr.sliceAt 25 v (some (.int .i64 1)) none none).run Tryz.prog w=.ok r w) :
  (execOp a.eval o).run Tryz.prog w=.ok (.value r) w:=by
 unfold execOp;simp only [ho,hx,Sem.run_bind,Sem.run_pure,Option.map]
 first | (rw [hr]; rfl) | (erw [hr]; rfl) | simp [hr]

theorem ints_nil (w:World):Rg.Ints w (.slice none 0 0) []:=(show FP (fun _=>True) w (.slice none 0 0) [] from ⟨none,0,rfl,Nat.le_refl _,Nat.zero_le _,Nat.zero_le _,fun h=>absurd h (Nat.lt_irrefl 0)⟩).np
end Go.Proofs.YtdnmmibchbceeaaGreat

namespace Go.Proofs.YtdnmmibchbceeaaGreat
open Go.RowKit
open Go.Proofs
open Go.Proofs.Cm (Gd Gr IsChain)
structure NpI (w:World) (v:Value) (l:List Int):Prop where
 i:Rg.Ints w v l
theorem NpI.below {w w':World} {v:Value} {l:List Int} (h:NpI w v l) (hb:Below w.heap.size w w'):NpI w' v l:=⟨h.i.below hb⟩
theorem NpI.at {lv:Value} {M:List Nat} (h:NpI w lv (Ma.ofN M)) (hM:M.length=D) (hD:1≤D):∃ b o c,lv=.slice (some ⟨b,o,none⟩) D c∧∀ i,i<D→CL w b (o+i) (.int .i64 ((M.getD i 0:Nat):Int)):=by
 obtain ⟨a,c,rfl,hc,hm,_,hcell⟩:=Rg.NP.shape (show Rg.NP w lv M from h.i);obtain ⟨b,o,rfl,hb,hr⟩:=hcell (by omega);refine ⟨b,o,c,by rw [hM],fun i hi=>⟨?_,hb⟩⟩;rw [List.getD_eq_getElem?_getD,List.getElem?_eq_getElem (show i<M.length by omega),Option.getD_some];exact hr i (by omega)
theorem rows_get {a:Option Addr} {c:Nat} {T:List (List Int)} (h:Rg.Rows w (.slice a n c) T) {i:Nat} (hi:i<T.length):∃ b o ua uc,a=some ⟨b,o,none⟩∧b<w.heap.size∧w.cell? ⟨b,o+i,none⟩=some (.slice ua T[i].length uc)∧Rg.Ints w (.slice ua T[i].length uc) T[i]:=by
 obtain ⟨a',c',e,-,-,-,hx⟩:=h.shape;simp only [Value.slice.injEq] at e;obtain ⟨rfl,rfl,rfl⟩:=e;obtain ⟨b,o,e1,e2,e3⟩:=hx (by omega);obtain ⟨u,h1,h2⟩:=e3 i hi;obtain ⟨ua,uc,e4,-⟩:=Rg.Ints.shape h2;subst e4;exact ⟨b,o,ua,uc,e1,e2,h1,h2⟩
theorem ints_get {a:Option Addr} {c:Nat} (h:Rg.Ints w (.slice a n c) l) (hk:k<l.length):∃ b o,a=some ⟨b,o,none⟩∧b<w.heap.size∧w.cell? ⟨b,o+k,none⟩=some (.int .i64 l[k]):=by
 obtain ⟨a',c',e,-,-,-,hx⟩:=h.shape;simp only [Value.slice.injEq] at e;obtain ⟨rfl,rfl,rfl⟩:=e;obtain ⟨b,o,e1,e2,e3⟩:=hx (by omega);exact ⟨b,o,e1,e2,e3 k hk⟩
structure RsO (w:World) (v:Value) (T:List (List Int)):Prop where
 r:Rg.Rows w v T
theorem RsO.below {w w':World} {v:Value} {T:List (List Int)} (h:RsO w v T) (hb:Below w.heap.size w w'):RsO w' v T:=⟨Rg.Rows.below h.r hb⟩
theorem kp_below {W0:World} (hb:Below B W0 W) (hB:B≤W.heap.size) (hk:Rg.Kp M W X) (hM:∀ k,M k→B≤k):Below B W0 X :=
 hb.trans ⟨hk.os,hk.tape,hk.output,hk.size,fun k h=>hk.block k (Nat.lt_of_lt_of_le h hB) fun e=>Nat.lt_irrefl _ (Nat.lt_of_lt_of_le h (hM k e))⟩
theorem gck_good {D:Nat} (h1:1≤D) (h2:D≤64):∀ {gs:List (List Nat)},(∀ s∈gs,Gd D s)→Ma.gck ((D:Nat):Int) (gs.map Ma.ofN)=0
 | [],_=>rfl
 | s :: gs,h=>by
  have g:=h s (List.mem_cons_self ..);have e1:Ma.pchk (Ma.ofN s)=0:=Ma.pchk_ok (by rw [Ma.len_ofN,g.2]; exact h1) (by rw [Ma.len_ofN,g.2]; exact h2) (Ma.okN_ofN g.1)
  have e2:((Ma.ofN s).length:Int)=((D:Nat):Int):=by rw [Ma.len_ofN,g.2]
  show (if Ma.pchk (Ma.ofN s)=0 then (if ((Ma.ofN s).length:Int)=((D:Nat):Int) then Ma.gck ((D:Nat):Int) (gs.map Ma.ofN) else 10) else Ma.pchk (Ma.ofN s))=0;rw [if_pos e1,if_pos e2];exact gck_good h1 h2 (fun x hx=>h x (List.mem_cons_of_mem _ hx))
end Go.Proofs.YtdnmmibchbceeaaGreat

namespace Go.Proofs.YtdnmmibchbceeaaGreat
open Go.RowKit
open Go.Proofs
open Go.Proofs.Ob
open Go.Proofs.Cm (Gd)
attribute [local irreducible] Go.Calls Go.wpList
theorem Zlcl2 (args:Array Value) (w:World):(callFunc 36 args).run Tryz.prog w=.ok (.enter 36 args) w:=by kernel_rfl
theorem Zlcl3 (args:Array Value) (w:World):(callFunc 71 args).run Tryz.prog w=.ok (.enter 71 args) w:=by kernel_rfl
theorem Zlcl4 (args:Array Value) (w:World):(callFunc 34 args).run Tryz.prog w=.ok (.enter 34 args) w:=by kernel_rfl
theorem exec_buildTk {o:Oper} {a:Act} {la:Option Addr} {c:Nat} (x:Operand) (ho:o.op=.build 64 #[(0,x)]) (hx:a.eval x=.slice la n c) :
  (execOp a.eval o).run Tryz.prog w=.ok (.value (.agg #[.slice la n c,.int .i64 0])) w:=by
 unfold execOp;simp only [ho,Sem.run_bind,Sem.run_pure];simp only [List.map_toArray,List.map_cons,List.map_nil,hx]
 have h:(Instr.build 64 #[(0,.slice la n c)]).run Tryz.prog w=.ok (.agg #[.slice la n c,.int .i64 0]) w:=by kernel_rfl
 first | (rw [h]; rfl) | (erw [h]; rfl)
theorem Tk.new {la:Option Addr} {c:Nat} (hb:Below w.heap.size w W) (hl:Rg.IntsB maxLen w (.slice la n c) l) (t:TypeId):Tk w (W.alloc (.cells #[.slice la n c,.int .i64 0] t)) W.heap.size 0 (.slice la n c) l :=
 ⟨by rw [Rg.cellNew]; rfl,by rw [Rg.cellNew]; rfl,frozenNewN _ _ _ 0 _,by simp,hb.size,hb.alloc hb.size _,hl⟩
structure CW1 (w:World) (b:Nat) (v:Value):Prop where
 c:w.cell? ⟨b,1,none⟩=some v
 f:w.frozen? ⟨b,1,none⟩=false
 lt:b<w.heap.size
theorem Tk.up {lv:Value} (h:Tk w0 w tk k lv l) (hb:Below w.heap.size w w'):Tk w0 w' tk k lv l:=h.below hb
theorem PRow.up {g:Nat} {y:List Nat} (h:PRow w g n y) (hb:Below w.heap.size w w'):PRow w' g n y:=h.below hb
theorem RwAt.up {g:Nat} {f:Nat→Int} (h:RwAt w g n f) (hb:Below w.heap.size w w'):RwAt w' g n f:=h.below hb
theorem _root_.Go.Proofs.Rg.Kp.up {w'':World} (h:Rg.Kp M w w') (hb:Below w'.heap.size w' w''):Rg.Kp M w w'':=kpAcc h hb
structure FZ (w:World) (b o:Nat):Prop where
 f:w.frozen? ⟨b,o,none⟩=false
 lt:b<w.heap.size
theorem FZ.below {b o:Nat} (h:FZ w b o) (hb:Below w.heap.size w w'):FZ w' b o:=⟨(hb.frozen (p:=⟨b,o,none⟩) h.lt).trans h.f,Nat.lt_of_lt_of_le h.lt hb.size⟩
theorem FZ.kp {b o:Nat} (h:FZ w b o) (hk:Rg.Kp M w w') (hM:¬ M b):FZ w' b o:=⟨(World.frozen?_of_block (a:=⟨b,o,none⟩) (hk.block b h.lt hM)).trans h.f,Nat.lt_of_lt_of_le h.lt hk.size⟩
theorem gset (W:World) (x y:Value) (t:TypeId):CL (((W.alloc (.cells #[.int .i64 0,.slice none 0 0] t)).setCell ⟨W.heap.size,0,none⟩ x).setCell ⟨W.heap.size,1,none⟩ y) W.heap.size 0 x∧(CW1 (((W.alloc (.cells #[.int .i64 0,.slice none 0 0] t)).setCell ⟨W.heap.size,0,none⟩ x).setCell ⟨W.heap.size,1,none⟩ y) W.heap.size y)∧Below W.heap.size W (((W.alloc (.cells #[.int .i64 0,.slice none 0 0] t)).setCell ⟨W.heap.size,0,none⟩ x).setCell ⟨W.heap.size,1,none⟩ y):=by
 have c0:(W.alloc (.cells #[.int .i64 0,.slice none 0 0] t)).cell? ⟨W.heap.size,0,none⟩=some (.int .i64 0):=by rw [Rg.cellNew]; rfl
 have c1:(W.alloc (.cells #[.int .i64 0,.slice none 0 0] t)).cell? ⟨W.heap.size,1,none⟩=some (.slice none 0 0):=by rw [Rg.cellNew]; rfl
 have f1:(W.alloc (.cells #[.int .i64 0,.slice none 0 0] t)).frozen? ⟨W.heap.size,1,none⟩=false:=frozenNewN _ _ _ 0 _
 have c1':((W.alloc (.cells #[.int .i64 0,.slice none 0 0] t)).setCell ⟨W.heap.size,0,none⟩ x).cell? ⟨W.heap.size,1,none⟩=some (.slice none 0 0):=by
  rw [World.cell?_setCell_other (h:=by intro e; injection e with e1 e2; omega) ..]; exact c1
 refine ⟨⟨?_,by simp⟩,⟨World.cell?_setCell_same (h:=c1') ..,by rw [World.frozen?_setCell,World.frozen?_setCell]; exact f1,by simp⟩,(((Below.refl _ _).alloc (Nat.le_refl _) _).setCell (p:=⟨W.heap.size,0,none⟩) (Nat.le_refl _) x).setCell (p:=⟨W.heap.size,1,none⟩) (Nat.le_refl _) y⟩
 rw [World.cell?_setCell_other (h:=by intro e; injection e with e1 e2; omega) ..]
 exact World.cell?_setCell_same (h:=c0) ..
theorem gfin {rb:Nat} {u0 x y:Value} (h0:W.cell? ⟨rb,0,none⟩=some u0) (h1:W.cell? ⟨rb,1,none⟩=some u1) (hlt:rb<W.heap.size) (hb:Below w.heap.size w W) (hlo:w.heap.size≤rb:=by omega) :
  ((W.setCell ⟨rb,0,none⟩ x).setCell ⟨rb,1,none⟩ y).cell? ⟨rb,0,none⟩=some x∧((W.setCell ⟨rb,0,none⟩ x).setCell ⟨rb,1,none⟩ y).cell? ⟨rb,1,none⟩=some y∧Below w.heap.size w ((W.setCell ⟨rb,0,none⟩ x).setCell ⟨rb,1,none⟩ y)∧Rg.Kp (fun z=>z=rb) W ((W.setCell ⟨rb,0,none⟩ x).setCell ⟨rb,1,none⟩ y):=by
 have c1:(W.setCell ⟨rb,0,none⟩ x).cell? ⟨rb,1,none⟩=some u1:=by
  rw [World.cell?_setCell_other (h:=by intro e; injection e with e1 e2; omega) ..]; exact h1
 refine ⟨?_,World.cell?_setCell_same (h:=c1) ..,(hb.setCell (p:=⟨rb,0,none⟩) hlo x).setCell (p:=⟨rb,1,none⟩) hlo y,Rg.Kp.trans (M:=fun z=>z=rb) (Rg.Kp.of_setCell rfl) (Rg.Kp.of_setCell (M:=fun z=>z=rb) rfl) (fun _ _ e=>e)⟩
 rw [World.cell?_setCell_other (h:=by intro e; injection e with e1 e2; omega) ..]
 exact World.cell?_setCell_same (h:=h0) ..
theorem PRow.fp {g:Nat} {y:List Nat} (h:PRow w g n y) (gy:Gd n y) (hc:n≤cap) (hm:cap≤maxLen) (h1:1≤n) (hn:n≤1000) (hF:F g):FP F w (.slice (some ⟨g,0,none⟩) n cap) y :=
 Rg.FVals.of (h.np gy hc hm hn) (fun k e=>by simp [Value.ownBlock] at e; exact e▸hF)
def GM (tk gb rb z:Nat):Prop:=z=tk∨z=gb∨z=rb
structure RowH (B:Nat) (F M:Nat→Prop) (W:World) (v:Value) (l:List (List Nat)):Prop where
 size:B≤W.heap.size
 own:∃ us,W.ownsRow B 30 1 v l.length us∧Rg.FElts F W us (l.map Ma.ofN)
 off:∀ k,v.ownBlock=some k→¬ F k∧¬ M k
theorem RowH.lt {B:Nat} {F M:Nat→Prop} {W:World} {v:Value} {l:List (List Nat)} (h:RowH B F M W v l):∀ k,v.ownBlock=some k→B≤k∧k<W.heap.size:=fun k e=>by
 obtain ⟨us,h1,h2⟩:=h.own;exact h1.lt k e
theorem RowH.shape {l:List (List Nat)} (h:RowH B F M W v l):∃ a c,v=.slice a l.length c:=by
 obtain ⟨us,h1,h2⟩:=h.own;exact Rg.row_shape h1
theorem RowH.nil (B:Nat) (F M:Nat→Prop) (W:World) (hB:B≤W.heap.size):RowH B F M W (.slice none 0 0) [] :=
 ⟨hB,⟨[],World.ownsRow_nil _ _ _ _,Rg.FElts.nil _ _⟩,fun k e=>by simp [Value.ownBlock] at e⟩
theorem RowH.rows {l:List (List Nat)} (h:RowH B F M W v l) (hl:l.length≤1000000000):Rg.Rows W v (l.map Ma.ofN):=by
 obtain ⟨us,h1,h2⟩:=h.own;exact Rg.Rows.of_row h1 hl h2.1 (fun i a b=>(h2.2 i a b).ints)
theorem RowH.kp {B:Nat} {F M N:Nat→Prop} {W W':World} {v:Value} {l:List (List Nat)} (h:RowH B F M W v l) (hk:Rg.Kp N W W') (hF:∀ k,F k→¬ N k) (hN:∀ k,v.ownBlock=some k→¬ N k):RowH B F M W' v l:=by
 obtain ⟨us,h1,h2⟩:=h.own;exact ⟨Nat.le_trans h.size hk.size,⟨us,rowKp h1 hk (fun k hn e=>hN k e hn),h2.kp hk hF⟩,h.off⟩
theorem RowH.upk {N:Nat→Prop} {l:List (List Nat)} (h:RowH B F M W v l) (hk:Rg.Kp N W W') (hF:∀ k,F k→¬ N k) (hN:∀ k,N k→M k):RowH B (Fup F W W') M W' v l:=by
 obtain ⟨us,h1,h2⟩:=h.own;refine ⟨Nat.le_trans h.size hk.size,⟨us,rowKp h1 hk (fun k hn e=>(h.off k e).2 (hN k hn)),(h2.kp hk hF).mono fun k=>.inl⟩,fun k e=>⟨fun g=>?_,(h.off k e).2⟩⟩;have:=(h.lt k e).2
 rcases g with g | g
 ·exact (h.off k e).1 g
 ·omega
theorem RowH.push {l:List (List Nat)} (h:RowH B F M W v l) {x:List Nat} (hu:FP F W u x) (hs:∃ a m c,u=.slice a m c) (hF:∀ k,F k→k<W.heap.size) (hM:∀ k,M k→k<W.heap.size) (hn:l.length<1000000) (ty:TypeId) :
  ∃ a c X,(Builtin.append_ #[22,22] ty #[v,.slice (some ⟨W.heap.size,0,none⟩) 1 1]).run Tryz.prog (W.alloc (.cells #[u] 30))=.ok (.slice a (l.length+1) c) X∧RowH B F M X (.slice a (l.length+1) c) (l++[x])∧Rg.Kp (fun k=>v.ownBlock=some k) W X:=by
 obtain ⟨us,h1,h2⟩:=h.own;obtain ⟨a0,m0,c0,rfl⟩:=hs;have hb:Below W.heap.size W (W.alloc (.cells #[.slice a0 m0 c0] 30)):=(Below.refl _ _).alloc (Nat.le_refl _) _;obtain ⟨v',X,r1,r2,r3,r4,a,c,rfl⟩:=app_run (P:=Tryz.prog) slPerms ty (Rg.row_below h1 hb) (Nat.le_trans h.size hb.size) W.heap.size 1 (u:=.slice a0 m0 c0) (by rw [Rg.cellNew]; rfl) rfl hn;have hk:Rg.Kp (fun k=>v.ownBlock=some k) W X:=Rg.Kp.trans (M:=fun k=>v.ownBlock=some k) ((Rg.Kp.of_below hb).weak fun _=>False.elim) (Rg.Kp.of_grown r3 fun _ e=>e) (fun _ _ e=>e);have hg:∀ k,F k→¬ v.ownBlock=some k:=fun k g e=>(h.off k e).1 g;refine ⟨a,c,X,r1,⟨Nat.le_trans h.size hk.size,⟨us++[.slice a0 m0 c0],by rw [List.length_append]; exact r2,by rw [List.map_append]; exact FElts.snoc (h2.kp hk hg) (Rg.FI.kp hu hk hg)⟩,fun k e=>?_⟩,hk⟩
 rcases r4 with r4 | r4
 ·exact h.off k (by rw [← r4]; exact e)
 ·rw [r4] at e
  injection e with e
  have e2:(W.alloc (.cells #[.slice a0 m0 c0] 30)).heap.size=W.heap.size+1:=by simp
  exact ⟨fun g=>by have:=hF _ g; omega,fun g=>by have:=hM _ g; omega⟩
structure GOf (w W:World) (tk gb rb k d:Nat) (lv:Value) (l:List Int) (F:Nat→Prop) (gv:Value) (gs:List (List Nat)):Prop where
 tkr:Tk w W tk k lv l
 g0:CL W gb 0 (.int .i64 ((d:Nat):Int))
 g1:W.cell? ⟨gb,1,none⟩=some gv
 gf:W.frozen? ⟨gb,1,none⟩=false
 r0:∃ u,W.cell? ⟨rb,0,none⟩=some u
 r1:∃ u,W.cell? ⟨rb,1,none⟩=some u
 rf0:W.frozen? ⟨rb,0,none⟩=false
 rf1:W.frozen? ⟨rb,1,none⟩=false
 rlt:rb<W.heap.size
 rw:RowH w.heap.size F (GM tk gb rb) W gv gs
 nF:∀ z,GM tk gb rb z→¬ F z
 Flt:∀ z,F z→z<W.heap.size
 n1:gb≠tk
 n2:rb≠tk
 n3:rb≠gb
 lo:∀ z,GM tk gb rb z→w.heap.size≤z
theorem GOf.kt {rb k' d:Nat} {lv:Value} {gv:Value} (h:GOf w W tk gb rb k d lv l F gv gs) (hk:Rg.Kp (fun z=>z=tk) W W') (ht:Tk w W' tk k' lv l):GOf w W' tk gb rb k' d lv l (Fup F W W') gv gs:=by
 have hg:=World.cell?_of_block (a:=⟨gb,1,none⟩) (hk.block gb h.g0.lt h.n1);have hgf:=World.frozen?_of_block (a:=⟨gb,1,none⟩) (hk.block gb h.g0.lt h.n1);have hb:=hk.block rb h.rlt h.n2;refine ⟨ht,h.g0.kp hk h.n1,hg.trans h.g1,hgf.trans h.gf,?_,?_,(World.frozen?_of_block (a:=⟨rb,0,none⟩) hb).trans h.rf0,(World.frozen?_of_block (a:=⟨rb,1,none⟩) hb).trans h.rf1,Nat.lt_of_lt_of_le h.rlt hk.size,h.rw.upk hk (fun z hz e=>h.nF z (.inl e) hz) (fun z e=>.inl e),fun z hz hf=>?_,fun z hf=>?_,h.n1,h.n2,h.n3,h.lo⟩
 ·obtain ⟨u,hu⟩:=h.r0; exact ⟨u,(World.cell?_of_block (a:=⟨rb,0,none⟩) hb).trans hu⟩
 ·obtain ⟨u,hu⟩:=h.r1; exact ⟨u,(World.cell?_of_block (a:=⟨rb,1,none⟩) hb).trans hu⟩
 ·rcases hf with hf | hf
  ·exact h.nF z hz hf
  ·rcases hz with e | e | e
   ·have:=h.tkr.lt; omega
   ·have:=h.g0.lt; omega
   ·have:=h.rlt; omega
 ·rcases hf with hf | hf
  ·exact Nat.lt_of_lt_of_le (h.Flt z hf) hk.size
  ·exact hf.2
theorem GOf.push {w W:World} {tk gb rb k d:Nat} {lv:Value} {l:List Int} {F:Nat→Prop} {gv:Value} {gs:List (List Nat)} (h:GOf w W tk gb rb k d lv l F gv gs) {u:Value} {y:List Nat} (hu:FP F W u y) (hs:∃ a m c,u=.slice a m c) (hn:gs.length<1000000) (ty:TypeId) :
  ∃ a c X,(Builtin.append_ #[22,22] ty #[gv,.slice (some ⟨W.heap.size,0,none⟩) 1 1]).run Tryz.prog (W.alloc (.cells #[u] 30))=.ok (.slice a (gs.length+1) c) X∧X.cell? ⟨gb,1,none⟩=some gv∧X.frozen? ⟨gb,1,none⟩=false ∧
   GOf w (X.setCell ⟨gb,1,none⟩ (.slice a (gs.length+1) c)) tk gb rb k d lv l F (.slice a (gs.length+1) c) (gs++[y]):=by
 have hM:∀ z,GM tk gb rb z→z<W.heap.size:=fun z e=>by
  rcases e with e | e | e
  ·have:=h.tkr.lt; omega
  ·have:=h.g0.lt; omega
  ·have:=h.rlt; omega
 obtain ⟨a,c,X,r1,r2,r3⟩:=h.rw.push hu hs h.Flt hM hn ty;have hO:∀ z,GM tk gb rb z→¬ gv.ownBlock=some z:=fun z hz e=>(h.rw.off z e).2 hz;have hFo:∀ z,F z→¬ gv.ownBlock=some z:=fun z hz e=>(h.rw.off z e).1 hz;have hkg:=r3.block gb h.g0.lt (hO gb (.inr (.inl rfl)));have hkr:=r3.block rb h.rlt (hO rb (.inr (.inr rfl)));have hc1:=(World.cell?_of_block (a:=⟨gb,1,none⟩) hkg).trans h.g1;have hf1:=(World.frozen?_of_block (a:=⟨gb,1,none⟩) hkg).trans h.gf;have hk2:Rg.Kp (fun z=>z=gb) X (X.setCell ⟨gb,1,none⟩ (.slice a (gs.length+1) c)):=Rg.Kp.of_setCell rfl;have hFg:∀ z,F z→¬ z=gb:=fun z hz e=>h.nF z (.inr (.inl e)) hz;have hkr2:=hk2.block rb (Nat.lt_of_lt_of_le h.rlt r3.size) h.n3;refine ⟨a,c,X,r1,hc1,hf1,⟨(h.tkr.kp r3 (hO tk (.inl rfl)) (fun z e=>(h.rw.lt z e).1)).kp hk2 (fun e=>h.n1 e.symm) (fun z e=>e▸h.lo gb (.inr (.inl rfl))),?_,World.cell?_setCell_same (h:=hc1) ..,by rw [World.frozen?_setCell]; exact hf1,?_,?_,?_,?_,Nat.lt_of_lt_of_le h.rlt (Nat.le_trans r3.size hk2.size),r2.kp hk2 hFg (fun k e e2=>?_),h.nF,fun z hz=>Nat.lt_of_lt_of_le (h.Flt z hz) (Nat.le_trans r3.size hk2.size),h.n1,h.n2,h.n3,h.lo⟩⟩
 ·refine ⟨?_,Nat.lt_of_lt_of_le h.g0.lt (Nat.le_trans r3.size hk2.size)⟩
  rw [World.cell?_setCell_other (h:=by intro e; injection e with e1 e2; omega) ..]
  exact (World.cell?_of_block (a:=⟨gb,0,none⟩) hkg).trans h.g0.cell
 ·obtain ⟨u',hu'⟩:=h.r0
  exact ⟨u',(World.cell?_of_block (a:=⟨rb,0,none⟩) hkr2).trans ((World.cell?_of_block (a:=⟨rb,0,none⟩) hkr).trans hu')⟩
 ·obtain ⟨u',hu'⟩:=h.r1
  exact ⟨u',(World.cell?_of_block (a:=⟨rb,1,none⟩) hkr2).trans ((World.cell?_of_block (a:=⟨rb,1,none⟩) hkr).trans hu')⟩
 ·exact (World.frozen?_of_block (a:=⟨rb,0,none⟩) hkr2).trans ((World.frozen?_of_block (a:=⟨rb,0,none⟩) hkr).trans h.rf0)
 ·exact (World.frozen?_of_block (a:=⟨rb,1,none⟩) hkr2).trans ((World.frozen?_of_block (a:=⟨rb,1,none⟩) hkr).trans h.rf1)
 ·subst e2
  exact (r2.off k e).2 (.inr (.inl rfl))
def GoPost (most:Nat) (w:World) (e:Ending) (w':World):Prop:=∃ (d:Nat) (gv:Value) (gs:List (List Nat)),e=.returned (.agg #[.int .i64 ((d:Nat):Int),gv])∧1≤d∧d≤most∧gs.length≤3∧(∀ s∈gs,Gd d s)∧Rg.Rows w' gv (gs.map Ma.ofN)∧Below w.heap.size w w'
theorem GOf.start {rb d:Nat} {lv:Value} (ht:Tk w W tk k lv l) (h0:CL W gb 0 (.int .i64 ((d:Nat):Int))) (h1:CL W gb 1 (.slice none 0 0)) (hf:W.frozen? ⟨gb,1,none⟩=false) (r0:∃ u,W.cell? ⟨rb,0,none⟩=some u) (r1:∃ u,W.cell? ⟨rb,1,none⟩=some u) (rf0:W.frozen? ⟨rb,0,none⟩=false) (rf1:W.frozen? ⟨rb,1,none⟩=false) (n1:gb≠tk) (n2:rb≠tk) (n3:rb≠gb) (rlt:rb<W.heap.size) (lo1:w.heap.size≤gb) (lo2:w.heap.size≤rb):GOf w W tk gb rb k d lv l (fun _=>False) (.slice none 0 0) [] :=
 ⟨ht,h0,h1.cell,hf,r0,r1,rf0,rf1,rlt,RowH.nil _ _ _ _ ht.bel.size,fun _ _=>id,fun _=>False.elim,n1,n2,n3,fun z e=>by rcases e with rfl | rfl | rfl; exact ht.lo; exact lo1; exact lo2⟩
theorem GroupOf_any (lv:Value) (l:List Int) (most:Nat) (w:World) (hl:Rg.IntsB maxLen w lv l) (hm1:1≤most) (hm2:most≤64) :
  Calls Tryz.prog 29 #[lv,.int .i64 ((most:Nat):Int)] w (GoPost most w):=by
 obtain ⟨la,lc,rfl,-⟩:=hl.shape;have HL:=ι hl;have K:=ι (Below.refl w.heap.size w);clear hl;have hs0:w.heap.size=w.heap.size+0:=rfl
 go_enter Tryz.func29,Tryz.ntmps29
 go_upto_region 0 with (fail);refine Rg.wl ?_;have hg0:=box2 w (.int .i64 0) (.slice none 0 0);have hgf0:=frozenNewN w #[.int .i64 0,.slice none 0 0] 24 0 0;have hgf1:=frozenNewN w #[.int .i64 0,.slice none 0 0] 24 0 1;refine Rg.lr 4 (exec_allocG rfl) ?_;go_frame;have hb:=(Below.refl w.heap.size w).alloc (Nat.le_refl _) (.cells #[.int .i64 0,.slice none 0 0] 24);generalize w.alloc (.cells #[.int .i64 0,.slice none 0 0] 24)=w1 at *;replace K:=ι (Rg.acc K.out hb);clear hb;have R0:=ι hg0.1;have R1:=ι hg0.2;have F0:=ι (show w1.frozen? ⟨w.heap.size,0,none⟩=false from hgf0);have F1:=ι (show w1.frozen? ⟨w.heap.size,1,none⟩=false from hgf1);clear hg0 hgf0 hgf1;have FR0:=ι (show FZ w1 w.heap.size 0 from ⟨F0.out,R0.out.lt⟩);have FR1:=ι (show FZ w1 w.heap.size 1 from ⟨F1.out,R1.out.lt⟩);clear F0 F1;go_upto_region 1 with (fail);refine Rg.wl ?_;refine Rg.lm 10 (.slice la l.length lc) ?_;go_frame
 refine Rg.lr 11 (exec_buildTk _ rfl rfl) ?_;go_frame;have htk:=Tk.new K.out HL.out 64;have HRT:=ι R0.out.lt;refine Rg.lr 12 (Rg.exec_box _ _ rfl rfl) ?_;go_frame;have hb:=(Below.refl w1.heap.size w1).alloc (Nat.le_refl _) (.cells #[.slice la l.length lc,.int .i64 0] 64);generalize w1.alloc (.cells #[.slice la l.length lc,.int .i64 0] 64)=w2 at *;replace R0:=ι (R0.out.below hb);replace R1:=ι (R1.out.below hb);replace FR0:=ι (FR0.out.below hb);replace FR1:=ι (FR1.out.below hb);replace K:=ι (Rg.acc K.out hb);clear hb;have TK:=ι htk;refine Rg.la 5 (.pointer (some ⟨w1.heap.size,0,none⟩)) ?_;go_frame;clear htk;have HLO:=ι R0.out.lt;have HT0:=ι TK.out.lt;have HTL:=ι TK.out.lo;have HTR:=ι (show w.heap.size<w1.heap.size from HRT.out);go_upto_region 2 with (fail);refine Rg.wl ?_;refine Rg.lm 13 (.pointer (some ⟨w1.heap.size,0,none⟩)) ?_;go_frame;refine Rg.lm 14 (.int .i64 ((most:Nat):Int)) ?_;go_frame
 refine Rg.lk 15 (exec_fn 70 _ _ _ rfl rfl rfl (Zkcl1 _ _)) ?_;refine (Take_any TK.out ((most:Nat):Int) (by omega)).mono ?_;rintro e1 w3 ⟨r0,k0,rfl,hra,hrb,htk,hkp⟩;have hr0:=R0.out.kp hkp (fun e=>by have:=HTR.out; omega);have hr1:=R1.out.kp hkp (fun e=>by have:=HTR.out; omega);have hf0:=FR0.out.kp hkp (fun e=>by have:=HTR.out; omega);have hf1:=FR1.out.kp hkp (fun e=>by have:=HTR.out; omega)
 have hr0m:r0<most:=by have:=hra (by omega); omega
 clear hra hrb;refine ⟨_,rfl,?_⟩;go_frame;clear TK;replace R0:=ι hr0;replace R1:=ι hr1;replace FR0:=ι hf0;replace FR1:=ι hf1;replace K:=ι (show Below w.heap.size w _ from Rg.Kp.below K.out hkp (fun z e=>by have:=HTL.out; omega));have TK:=ι htk;clear hkp hr0 hr1 hf0 hf1;refine Rg.lr 16 (Rg.bn (.int .i64 (((1+r0):Nat):Int)) .add (h:=b_add _ (by omega) (by omega))) ?_;go_frame;refine Rg.lr 17 (exec_buildG1 _ rfl rfl) ?_;go_frame;have hnb:=box2 w3 (.int .i64 0) (.slice none 0 0);have hnf0:=frozenNewN w3 #[.int .i64 0,.slice none 0 0] 24 0 0;have hnf1:=frozenNewN w3 #[.int .i64 0,.slice none 0 0] 24 0 1;refine Rg.lr 6 (exec_allocG rfl) ?_;go_frame;refine Rg.list_skip none rfl rfl (Rg.exec_store _ _ _ rfl _ rfl _ rfl (run_storeG _ _ _ _ hnb.1.cell hnb.2.cell hnf0 hnf1)) ?_;go_frame;clear htk;have HD:1≤1+r0∧1+r0≤most:=⟨by omega,by omega⟩;obtain ⟨d,hd⟩:∃ d,1+r0=d:=⟨_,rfl⟩
 rw [hd] at HD ⊢;obtain ⟨gq1,gq2,gq3⟩:=gset w3 (.int .i64 ((d:Nat):Int)) (.slice none 0 0) 24;have HG1:=ι (show w3.heap.size≠w1.heap.size∧w.heap.size≠w3.heap.size from ⟨fun e=>by have:=TK.out.lt; omega,fun e=>by have:=R0.out.lt; omega⟩);have HSW:=ι K.out.size;replace R0:=ι (R0.out.below gq3);replace R1:=ι (R1.out.below gq3);replace FR0:=ι (FR0.out.below gq3);replace FR1:=ι (FR1.out.below gq3);replace TK:=ι (TK.out.below gq3);generalize ((w3.alloc (.cells #[.int .i64 0,.slice none 0 0] 24)).setCell ⟨w3.heap.size,0,none⟩ (.int .i64 ((d:Nat):Int))).setCell ⟨w3.heap.size,1,none⟩ (.slice none 0 0)=w30 at *;have GO:=ι (show GOf w w30 w1.heap.size w3.heap.size w.heap.size k0 d (.slice la l.length lc) l (fun _=>False) (.slice none 0 0) [] from GOf.start TK.out gq1 ⟨gq2.c,gq2.lt⟩ gq2.f ⟨_,R0.out.cell⟩ ⟨_,R1.out.cell⟩ FR0.out.f FR1.out.f HG1.out.1 (fun e=>by have:=HTR.out; omega) HG1.out.2 R0.out.lt HSW.out (Nat.le_refl _))
 clear gq1 gq2 gq3 hnb hnf0 hnf1 R0 R1 FR0 FR1 TK K hd hr0m;go_upto_region 3 with (fail);refine Rg.wl ?_;refine Rg.lm 18 (.pointer (some ⟨w1.heap.size,0,none⟩)) ?_;go_frame;refine Rg.lk 19 (exec_fn 70 _ _ _ rfl rfl rfl (Zkcl1 _ _)) ?_;refine (Take_any GO.out.tkr 4 (by omega)).mono ?_;rintro e1 w31 ⟨r3,k3,rfl,hra,hrb,htk,hkp⟩;have hgo:=GO.out.kt hkp htk
 have hr4:r3≤3:=by have:=hra (by omega); omega
 clear hra hrb htk;refine ⟨_,rfl,?_⟩;go_frame;clear hkp;refine Rg.la 7 (.int .i64 ((r3:Nat):Int)) ?_;go_frame;replace GO:=ι hgo;have HR3:=ι hr4;have HDD:=ι HD;clear hgo hr4 HD;go_wp2
 go_loopw [7] (fun kv wr=>∃ (k k':Nat) (F:Nat→Prop) (gv:Value) (gs:List (List Nat)),kv=.int .i64 k∧k≤3∧Hid (gs.length+k≤3)∧Hid (∀ s∈gs,Gd d s)∧Hid (GOf w wr w1.heap.size w3.heap.size w.heap.size k' d (.slice la l.length lc) l F gv gs)) (fun kv _=>(intOf kv).toNat)
 case atStart=>exact ⟨r3,k3,_,_,[],rfl,HR3.out,by rw [List.length_nil,Nat.zero_add]; exact HR3,ι (fun s hs=>by simp at hs),GO⟩
 case round =>
  clear GO HR3;obtain ⟨k,k',F,gv,gs,rfl,hk3,HGL,HGS,GO⟩:=hrel;obtain ⟨gva,gvc,rfl⟩:=GO.out.rw.shape;have hd1:1≤d:=HDD.out.1
  have hd2:d≤64:=by have:=HDD.out.2; omega
  by_cases hk0:0<k
  case neg =>
   obtain rfl:k=0:=by omega
   go_upto_region 4 with (fail);refine Rg.wl ?_;refine Rg.lm 20 (.int .i64 ((0:Nat):Int)) ?_;go_frame;refine Rg.lr 21 (Rg.bn (.bool false) .gtr (h:=b_gtr _ Rg.dF)) ?_;go_frame;obtain ⟨u0,hu0⟩:=GO.out.r0;obtain ⟨u1,hu1⟩:=GO.out.r1;go_upto_region 15 with (fail);refine Rg.wl ?_;refine Rg.lr 79 (Rg.lo (.agg #[.int .i64 ((d:Nat):Int),.slice gva gs.length gvc]) ⟨w3.heap.size,0,none⟩ (run_loadG GO.out.g0.cell GO.out.g1)) ?_;go_frame;refine Rg.list_skip none rfl rfl (Rg.exec_store _ _ _ rfl _ rfl _ rfl (run_storeG _ _ _ _ hu0 hu1 GO.out.rf0 GO.out.rf1)) ?_;go_frame;have hfin:=gfin (x:=.int .i64 ((d:Nat):Int)) (y:=(.slice gva gs.length gvc)) hu0 hu1 GO.out.rlt GO.out.tkr.bel;have hrw:=(GO.out.rw.kp hfin.2.2.2 (fun z hz e=>GO.out.nF z (.inr (.inr e)) hz) (fun z e1 e2=>(GO.out.rw.off z e1).2 (.inr (.inr e2)))).rows (by have:=HGL.out; omega);generalize (wr.setCell ⟨w.heap.size,0,none⟩ (.int .i64 ((d:Nat):Int))).setCell ⟨w.heap.size,1,none⟩ (.slice gva gs.length gvc)=w199 at *
   have HF1:=ι hfin;have HF2:=ι (show GoPost most w (.returned (.agg #[.int .i64 ((d:Nat):Int),(.slice gva gs.length gvc)])) w199 from ⟨d,_,gs,rfl,HDD.out.1,HDD.out.2,by have:=HGL.out; omega,HGS.out,hrw,hfin.2.2.1⟩);clear hfin hrw hu0 hu1;go_wp2;exact bodyPost_ret (results_cellG rfl _ rfl HF1.out.1 HF1.out.2.1) rfl HF2.out
  case pos =>
   have hkN:(0:Int)<(k:Int):=by omega
   obtain ⟨q,rfl⟩:∃ q,k=q+1:=⟨k - 1,by omega⟩;go_upto_region 4 with (fail);refine Rg.wl ?_;refine Rg.lm 20 (.int .i64 (((q+1):Nat):Int)) ?_;go_frame;refine Rg.lr 21 (Rg.bn (.bool true) .gtr (h:=b_gtr _ Rg.dT)) ?_;go_frame;have GC:=ι GO.out.g0;have TK:=ι GO.out.tkr;have KT:=ι (Rg.Kp.refl (fun z=>z=w1.heap.size) wr);have HNE:=ι GO.out.n1;have HTW:=ι GO.out.tkr.lt;have HTL2:=ι GO.out.tkr.lo;go_upto_region 6 with (fail);refine Rg.wl ?_;refine Rg.lr 24 (exec_fieldG0 _ rfl rfl) ?_;go_frame;refine Rg.lr 25 (Rg.lo (.int .i64 ((d:Nat):Int)) ⟨w3.heap.size,0,none⟩ (run_loadInt GC.out.cell)) ?_;go_frame;refine Rg.lk 26 (exec_fn1 37 _ _ rfl rfl (Zkcl0 _ _)) ?_;refine (kitOne_row d wr hd1 (by omega)).mono ?_;rintro e1 w201 ⟨g,cap,rfl,hg,hc1,hc2,hro,hb⟩;have HG:=ι hg;have HCP:=ι (show d≤cap∧cap≤maxLen from ⟨hc1,hc2⟩);clear hg hc1 hc2;refine ⟨_,rfl,?_⟩
   go_frame;replace GC:=ι (GC.out.below hb);replace TK:=ι (TK.out.below hb);replace KT:=ι (kpAcc KT.out hb);clear hb;have PR:=ι hro;refine Rg.la 8 (.slice (some ⟨g,0,none⟩) d cap) ?_;go_frame;clear hro;go_upto_region 7 with (fail);refine Rg.wl ?_;refine Rg.lm 27 (.pointer (some ⟨w1.heap.size,0,none⟩)) ?_;go_frame;refine Rg.lk 28 (exec_fn 70 _ _ _ rfl rfl rfl (Zkcl1 _ _)) ?_;refine (Take_any TK.out (3) (by omega)).mono ?_;rintro e1 w202 ⟨r5,k5,rfl,hra,hrb,htk,hkp⟩;have hgc2:=GC.out.kp hkp HNE.out;have hpr2:=RwAt.kp PR.out hkp (fun e=>by have:=HTW.out; have:=HG.out; omega);clear hra hrb;obtain ⟨b3,hb3⟩:∃ b,Hid (decide (((r5:Nat):Int)=0)=b):=⟨_,ι rfl⟩;refine ⟨_,rfl,?_⟩;go_frame;clear TK;replace GC:=ι hgc2;replace PR:=ι hpr2;replace KT:=ι (Rg.Kp.trans (M:=fun z=>z=w1.heap.size) KT.out hkp (fun _ _ e=>e));have TK:=ι htk;clear hkp hgc2 hpr2
   refine Rg.lr 29 (Rg.bn (.bool b3) .eql (h:=b_eql _ hb3.out)) ?_;go_frame;clear htk
   cases b3 with
   | true =>
    go_upto_region 8 with (fail);refine Rg.wl ?_;refine Rg.lm 30 (.pointer (some ⟨w1.heap.size,0,none⟩)) ?_;go_frame;refine Rg.lr 31 (exec_fieldG0 _ rfl rfl) ?_;go_frame;refine Rg.lr 32 (Rg.lo (.int .i64 ((d:Nat):Int)) ⟨w3.heap.size,0,none⟩ (run_loadInt GC.out.cell)) ?_;go_frame;refine Rg.lk 33 (exec_fn 36 _ _ _ rfl rfl rfl (Zlcl2 _ _)) ?_;refine (kitPerm_any TK.out hd1 hd2).mono ?_;rintro e1 w203 ⟨g2,cap2,y,k6,rfl,hg,hc1,hc2,hgy,hpr,htk,hkp⟩;have hgc2:=GC.out.kp hkp HNE.out;have HPR2:=ι hpr;have HGY0:=ι hgy;have HG2:=ι (Nat.le_trans KT.out.size hg);have HC2:=ι (show d≤cap2∧cap2≤maxLen from ⟨hc1,hc2⟩);clear hg hc1 hc2 hgy hpr;refine ⟨_,rfl,?_⟩;go_frame;clear TK;clear PR;replace GC:=ι hgc2;replace KT:=ι (Rg.Kp.trans (M:=fun z=>z=w1.heap.size) KT.out hkp (fun _ _ e=>e));have TK:=ι htk;clear hkp hgc2;refine Rg.la 8 (.slice (some ⟨g2,0,none⟩) d cap2) ?_;go_frame
    clear htk;have GO2:=ι (GO.out.kt KT.out TK.out);have HFP:=ι (show FP (Fup F wr w203) w203 (.slice (some ⟨g2,0,none⟩) d cap2) y from HPR2.out.fp HGY0.out HC2.out.1 HC2.out.2 hd1 (by omega) (.inr ⟨HG2.out,HPR2.out.1⟩));obtain ⟨a9,c9,X9,r1,r2,r3,r4⟩:=GO2.out.push HFP.out ⟨_,_,_,rfl⟩ (by have:=HGL.out; omega) 22;have HGY:=ι HGY0.out;clear GO GC TK KT;go_upto_region 14 with (fail);refine Rg.wl ?_;refine Rg.lr 73 (exec_fieldG _ rfl rfl) ?_;go_frame;refine Rg.lr 74 (Rg.lo (.slice gva gs.length gvc) ⟨w3.heap.size,1,none⟩ (Rg.run_loadSl _ _ Tryz.underlying22 GO2.out.g1)) ?_;go_frame;refine Rg.lm 75 (.slice (some ⟨g2,0,none⟩) d cap2) ?_;go_frame;refine Rg.lr 76 (Rg.exec_buildSlice _ _ _ rfl (.slice (some ⟨g2,0,none⟩) d cap2) rfl (run_build1P w203 _ ⟨_,_,_,rfl⟩)) ?_;go_frame;refine Rg.lr 77 (Rg.exec_append _ _ _ rfl rfl rfl r1) ?_;go_frame;refine Rg.lr 78 (exec_fieldG _ rfl rfl) ?_;go_frame
    refine Rg.list_skip none rfl rfl (Rg.exec_store _ _ _ rfl _ rfl _ rfl (Rg.run_storeSl _ infoPermsV r2 r3)) ?_;go_frame;generalize X9.setCell ⟨w3.heap.size,1,none⟩ (.slice a9 (gs.length+1) c9)=w399 at *;have GO3:=ι r4;have HGL2:=ι (show (gs++[y]).length+q≤3 by rw [List.length_append]; have:=HGL.out; simp; omega)
    have HGS2:=ι (show ∀ s∈gs++[y],Gd d s from fun s hs=>by
     rcases List.mem_append.1 hs with hs | hs
     ·exact HGS.out s hs
     ·rw [List.mem_singleton] at hs; rw [hs]; exact HGY.out)
    clear r1 r2 r3 r4;go_wp2
    go_roundw
    case rel=>exact ⟨q,_,_,_,_,by go_num,by omega,HGL2,HGS2,GO3⟩
    case measure=>simp [intOf]; try omega
   | false =>
    go_upto_region 9 with (fail);refine Rg.wl ?_;refine Rg.lm 34 (.pointer (some ⟨w1.heap.size,0,none⟩)) ?_;go_frame;refine Rg.lr 35 (exec_fieldG0 _ rfl rfl) ?_;go_frame;refine Rg.lr 36 (Rg.lo (.int .i64 ((d:Nat):Int)) ⟨w3.heap.size,0,none⟩ (run_loadInt GC.out.cell)) ?_;go_frame;refine Rg.lk 37 (exec_fn 70 _ _ _ rfl rfl rfl (Zkcl1 _ _)) ?_;refine (Take_any TK.out (((d:Nat):Int)) (by omega)).mono ?_;rintro e1 w203 ⟨fr,k6,rfl,hra,hrb,htk,hkp⟩;have hgc2:=GC.out.kp hkp HNE.out;have hpr2:=RwAt.kp PR.out hkp (fun e=>by have:=HTW.out; have:=HG.out; omega)
    have hfr:fr<d:=by have:=hra (by omega); omega
    clear hra hrb;refine ⟨_,rfl,?_⟩;go_frame;clear TK;replace GC:=ι hgc2;replace PR:=ι hpr2;replace KT:=ι (Rg.Kp.trans (M:=fun z=>z=w1.heap.size) KT.out hkp (fun _ _ e=>e));have TK:=ι htk;clear hkp hgc2 hpr2;refine Rg.la 9 (.int .i64 ((fr:Nat):Int)) ?_;go_frame;clear htk;go_upto_region 10 with (fail);refine Rg.wl ?_;refine Rg.lm 38 (.slice (some ⟨g,0,none⟩) d cap) ?_;go_frame;refine Rg.lm 39 (.int .i64 ((fr:Nat):Int)) ?_;go_frame;refine Rg.lm 40 (.int .i64 ((fr:Nat):Int)) ?_;go_frame;refine Rg.lr 41 (Rg.bn (.int .i64 (((fr+1):Nat):Int)) .add (h:=b_add _ (by omega) (by omega))) ?_;go_frame;refine Rg.lm 42 (.pointer (some ⟨w1.heap.size,0,none⟩)) ?_;go_frame;refine Rg.lr 43 (exec_fieldG0 _ rfl rfl) ?_;go_frame;refine Rg.lr 44 (Rg.lo (.int .i64 ((d:Nat):Int)) ⟨w3.heap.size,0,none⟩ (run_loadInt GC.out.cell)) ?_;go_frame;refine Rg.lm 45 (.int .i64 ((fr:Nat):Int)) ?_;go_frame
    refine Rg.lr 46 (Rg.bn (.int .i64 (((d - fr):Nat):Int)) .sub (h:=b_sub _ (by omega) (by omega))) ?_;go_frame;refine Rg.lk 47 (exec_fn 70 _ _ _ rfl rfl rfl (Zkcl1 _ _)) ?_;refine (Take_any TK.out (((d - fr:Nat):Int)) (by omega)).mono ?_;rintro e1 w204 ⟨r7,k7,rfl,hra,hrb,htk,hkp⟩;have hgc2:=GC.out.kp hkp HNE.out;have hpr2:=RwAt.kp PR.out hkp (fun e=>by have:=HTW.out; have:=HG.out; omega)
    have hr7:r7<d - fr:=by have:=hra (by omega); omega
    clear hra hrb;refine ⟨_,rfl,?_⟩;go_frame;clear TK;replace GC:=ι hgc2;replace PR:=ι hpr2;replace KT:=ι (Rg.Kp.trans (M:=fun z=>z=w1.heap.size) KT.out hkp (fun _ _ e=>e));have TK:=ι htk;clear hkp hgc2 hpr2;refine Rg.lr 48 (Rg.bn (.int .i64 (((fr+1+r7):Nat):Int)) .add (h:=b_add _ (by omega) (by omega))) ?_;go_frame;clear htk;refine Rg.lk 49 (exec_fn3 71 _ _ _ _ rfl rfl rfl rfl (Zlcl3 _ _)) ?_;refine (cycle_any (a:=fr) (b:=fr+1+r7) PR.out (by omega) (by omega) (by omega)).mono ?_;rintro e1 w205 ⟨rfl,hpr,hkp⟩;have hgc2:=GC.out.kp hkp (fun e=>by have:=GO.out.g0.lt; have:=HG.out; omega);have htk2:=TK.out.kp hkp (fun e=>by have:=HTW.out; have:=HG.out; omega) (fun z e=>by have:=HTL2.out; have:=HTW.out; have:=HG.out; omega);have HGY0:=ι (show Gd d (cyN d fr (fr+1+r7)) from cyN_gd (by omega) (by omega));refine ⟨_,rfl,?_⟩;go_frame
    clear PR;replace GC:=ι hgc2;replace TK:=ι htk2;replace KT:=ι (Rg.Kp.trans (M:=fun z=>z=w1.heap.size) KT.out hkp (fun z hz e=>by have:=HG.out; omega));have PR:=ι hpr;clear hkp hgc2 htk2;refine Rg.la 8 (.slice (some ⟨g,0,none⟩) d cap) ?_;go_frame;clear hpr;go_upto_region 11 with (fail);refine Rg.wl ?_;refine Rg.lm 50 (.pointer (some ⟨w1.heap.size,0,none⟩)) ?_;go_frame;refine Rg.lr 51 (exec_fieldG0 _ rfl rfl) ?_;go_frame;refine Rg.lr 52 (Rg.lo (.int .i64 ((d:Nat):Int)) ⟨w3.heap.size,0,none⟩ (run_loadInt GC.out.cell)) ?_;go_frame;refine Rg.lk 53 (exec_fn 70 _ _ _ rfl rfl rfl (Zkcl1 _ _)) ?_;refine (Take_any TK.out (((d:Nat):Int)) (by omega)).mono ?_;rintro e1 w206 ⟨f2,k8,rfl,hra,hrb,htk,hkp⟩;have hgc2:=GC.out.kp hkp HNE.out;have hpr2:=RwAt.kp PR.out hkp (fun e=>by have:=HTW.out; have:=HG.out; omega)
    have hf2:f2<d:=by have:=hra (by omega); omega
    clear hra hrb;refine ⟨_,rfl,?_⟩;go_frame;clear TK;replace GC:=ι hgc2;replace PR:=ι hpr2;replace KT:=ι (Rg.Kp.trans (M:=fun z=>z=w1.heap.size) KT.out hkp (fun _ _ e=>e));have TK:=ι htk;clear hkp hgc2 hpr2;refine Rg.la 9 (.int .i64 ((f2:Nat):Int)) ?_;go_frame;clear htk;go_upto_region 12 with (fail);refine Rg.wl ?_;refine Rg.lm 54 (.pointer (some ⟨w1.heap.size,0,none⟩)) ?_;go_frame;refine Rg.lk 55 (exec_fn 70 _ _ _ rfl rfl rfl (Zkcl1 _ _)) ?_;refine (Take_any TK.out (2) (by omega)).mono ?_;rintro e1 w207 ⟨r8,k9,rfl,hra,hrb,htk,hkp⟩;have hgc2:=GC.out.kp hkp HNE.out;have hpr2:=RwAt.kp PR.out hkp (fun e=>by have:=HTW.out; have:=HG.out; omega);clear hra hrb;obtain ⟨b4,hb4⟩:∃ b,Hid (decide (((r8:Nat):Int)=1)=b):=⟨_,ι rfl⟩;refine ⟨_,rfl,?_⟩;go_frame;clear TK;replace GC:=ι hgc2;replace PR:=ι hpr2;replace KT:=ι (Rg.Kp.trans (M:=fun z=>z=w1.heap.size) KT.out hkp (fun _ _ e=>e))
    have TK:=ι htk;clear hkp hgc2 hpr2;refine Rg.lr 56 (Rg.bn (.bool b4) .eql (h:=b_eql _ hb4.out)) ?_;go_frame;clear htk
    cases b4 with
    | false =>
     have GO2:=ι (GO.out.kt KT.out TK.out);have HFP:=ι (show FP (Fup F wr w207) w207 (.slice (some ⟨g,0,none⟩) d cap) (cyN d fr (fr+1+r7)) from PRow.fp PR.out HGY0.out HCP.out.1 HCP.out.2 hd1 (by omega) (.inr ⟨HG.out,PR.out.1⟩));obtain ⟨a9,c9,X9,r1,r2,r3,r4⟩:=GO2.out.push HFP.out ⟨_,_,_,rfl⟩ (by have:=HGL.out; omega) 22;have HGY:=ι HGY0.out;clear GO GC TK KT;go_upto_region 14 with (fail);refine Rg.wl ?_;refine Rg.lr 73 (exec_fieldG _ rfl rfl) ?_;go_frame;refine Rg.lr 74 (Rg.lo (.slice gva gs.length gvc) ⟨w3.heap.size,1,none⟩ (Rg.run_loadSl _ _ Tryz.underlying22 GO2.out.g1)) ?_;go_frame;refine Rg.lm 75 (.slice (some ⟨g,0,none⟩) d cap) ?_;go_frame;refine Rg.lr 76 (Rg.exec_buildSlice _ _ _ rfl (.slice (some ⟨g,0,none⟩) d cap) rfl (run_build1P w207 _ ⟨_,_,_,rfl⟩)) ?_;go_frame;refine Rg.lr 77 (Rg.exec_append _ _ _ rfl rfl rfl r1) ?_;go_frame;refine Rg.lr 78 (exec_fieldG _ rfl rfl) ?_;go_frame
     refine Rg.list_skip none rfl rfl (Rg.exec_store _ _ _ rfl _ rfl _ rfl (Rg.run_storeSl _ infoPermsV r2 r3)) ?_;go_frame;generalize X9.setCell ⟨w3.heap.size,1,none⟩ (.slice a9 (gs.length+1) c9)=w399 at *;have GO3:=ι r4;have HGL2:=ι (show (gs++[(cyN d fr (fr+1+r7))]).length+q≤3 by rw [List.length_append]; have:=HGL.out; simp; omega)
     have HGS2:=ι (show ∀ s∈gs++[(cyN d fr (fr+1+r7))],Gd d s from fun s hs=>by
      rcases List.mem_append.1 hs with hs | hs
      ·exact HGS.out s hs
      ·rw [List.mem_singleton] at hs; rw [hs]; exact HGY.out)
     clear r1 r2 r3 r4;go_wp2
     go_roundw
     case rel=>exact ⟨q,_,_,_,_,by go_num,by omega,HGL2,HGS2,GO3⟩
     case measure=>simp [intOf]; try omega
    | true =>
     go_upto_region 13 with (fail);have hV0:Below w207.heap.size w207 w207.drew:=(Below.refl _ _).drew;replace GC:=ι (GC.out.up hV0);replace TK:=ι (TK.out.up hV0);replace PR:=ι (PR.out.up hV0);replace KT:=ι (KT.out.up hV0);generalize Fup (fun _:Nat=>True) w207 w207.drew=F1 at *;clear hV0;refine Rg.Any.begin (S:=Rg.Both 16 (fun W:World=>W.cell? ⟨w3.heap.size,0,none⟩=some (.int .i64 ((d:Nat):Int))) (fun _=>True)) mix ?_;generalize w207.drew=w208 at *;have hS:∀ (l:Array Bool) W,(fun W:World=>W.cell? ⟨w3.heap.size,0,none⟩=some (.int .i64 ((d:Nat):Int))) W→Rg.Both 16 (fun W:World=>W.cell? ⟨w3.heap.size,0,none⟩=some (.int .i64 ((d:Nat):Int))) (fun _=>True) l W:=fun l W h=>⟨.inr h,trivial⟩;have hS2:∀ (l:Array Bool) W,l.getD 16 false=true→Rg.Both 16 (fun W:World=>W.cell? ⟨w3.heap.size,0,none⟩=some (.int .i64 ((d:Nat):Int))) (fun _=>True) l W:=fun l W h=>⟨.inl h,trivial⟩
     have hI:(fun W:World=>W.cell? ⟨w3.heap.size,0,none⟩=some (.int .i64 ((d:Nat):Int))) w208:=GC.out.cell;refine Rg.tm 0 16 (.slice (some ⟨g,0,none⟩) d cap) 57 (hS _ _ hI) ?_;go_frame;refine Rg.tg 1 16 (.pointer (some ⟨w3.heap.size,0,none⟩)) 58 rfl rfl (.inl ⟨rfl,fun w _=>exec_fieldG0 _ rfl rfl⟩) (hS _ _ hI) ?_;go_frame;refine Rg.tT 2 16 (.int .i64 ((d:Nat):Int)) 59 rfl rfl (Rg.yc ⟨w3.heap.size,0,none⟩ (fun W hW=>run_loadInt hW)) (hS _ _ hI) ?_;go_frame;refine Rg.tm 4 16 (.int .i64 ((f2:Nat):Int)) 61 (hS _ _ hI) ?_;go_frame;refine Rg.tm 5 16 (.int .i64 ((f2:Nat):Int)) 62 (hS _ _ hI) ?_;go_frame;refine Rg.tg 6 16 (.int .i64 (((f2+1):Nat):Int)) 63 rfl rfl (.inl ⟨rfl,fun w _=>exec_bin (R:=.int .i64 (((f2+1):Nat):Int)) .add _ _ _ rfl rfl rfl (b_add _ (by omega) (by omega))⟩) (hS _ _ hI) ?_;go_frame;refine Rg.tm 7 16 (.pointer (some ⟨w1.heap.size,0,none⟩)) 64 (hS _ _ hI) ?_;go_frame
     refine Rg.tg 8 16 (.pointer (some ⟨w3.heap.size,0,none⟩)) 65 rfl rfl (.inl ⟨rfl,fun w _=>exec_fieldG0 _ rfl rfl⟩) (hS _ _ hI) ?_;go_frame;refine Rg.tT 9 16 (.int .i64 ((d:Nat):Int)) 66 rfl rfl (Rg.yc ⟨w3.heap.size,0,none⟩ (fun W hW=>run_loadInt hW)) (hS _ _ hI) ?_;go_frame;refine Rg.tm 10 16 (.int .i64 ((f2:Nat):Int)) 67 (hS _ _ hI) ?_;go_frame;refine Rg.tg 11 16 (.int .i64 (((d - f2):Nat):Int)) 68 rfl rfl (.inl ⟨rfl,fun w _=>exec_bin (R:=.int .i64 (((d - f2):Nat):Int)) .sub _ _ _ rfl rfl rfl (b_sub _ (by omega) (by omega))⟩) (hS _ _ hI) ?_;go_frame;refine Rg.Any.one (i:=3) (by kernel_rfl) (Rg.Any.ask (some 60) rfl rfl rfl _ _ (exec_fn1 37 _ _ rfl rfl (Zkcl0 _ _)) ?_);refine (kitOne_row d w208 hd1 (by omega)).mono ?_;rintro e1 w209 ⟨g2,cap2,rfl,hg,hc1,hc2,hro,hb⟩;have HG2:=ι (Nat.le_trans KT.out.size hg);have HC2:=ι (show d≤cap2∧cap2≤maxLen from ⟨hc1,hc2⟩)
     have HNG:=ι (show g≠g2 from fun e=>by have:=PR.out.1; omega);clear hg hc1 hc2;have hI2_u:=((Below.cell (p:=⟨w3.heap.size,0,none⟩) hb (lt_of_cell hI)).trans hI);clear hI;replace GC:=ι (GC.out.up hb);replace TK:=ι (TK.out.up hb);replace PR:=ι (PR.out.up hb);replace KT:=ι (KT.out.up hb);have P2:=ι hro;generalize Fup F1 w208 w209=F2 at *;clear hb;refine ⟨_,rfl,(hS _ _ hI2_u),?_⟩;go_frame;refine Rg.Any.one (i:=12) (by kernel_rfl) (Rg.Any.ask (some 69) rfl rfl rfl _ _ (exec_fn 70 _ _ _ rfl rfl rfl (Zkcl1 _ _)) ?_);refine (Take_any TK.out (((d - f2:Nat):Int)) (by omega)).mono ?_;rintro e1 w210 ⟨r9,k10,rfl,hra,hrb,htk,hkp⟩;have hgc2:=GC.out.kp hkp HNE.out;have hpr2:=RwAt.kp PR.out hkp (fun e=>by have:=HTW.out; have:=HG.out; omega);have hp22:=RwAt.kp P2.out hkp (fun e=>by have:=HTW.out; have:=HG2.out; omega)
     have hr9:r9<d - f2:=by have:=hra (by omega); omega
     clear hra hrb;have hI3_k:=((World.cell?_of_block (a:=⟨w3.heap.size,0,none⟩) (hkp.block w3.heap.size (lt_of_cell hI2_u) HNE.out)).trans hI2_u);clear hI2_u;refine ⟨_,rfl,(hS _ _ hI3_k),?_⟩;go_frame;clear TK;replace GC:=ι hgc2;replace PR:=ι hpr2;replace P2:=ι hp22;replace KT:=ι (Rg.Kp.trans (M:=fun z=>z=w1.heap.size) KT.out hkp (fun _ _ e=>e));have TK:=ι htk;clear hkp hgc2 hpr2 hp22;refine Rg.tg 13 16 (.int .i64 (((f2+1+r9):Nat):Int)) 70 rfl rfl (.inl ⟨rfl,fun w _=>exec_bin (R:=.int .i64 (((f2+1+r9):Nat):Int)) .add _ _ _ rfl rfl rfl (b_add _ (by omega) (by omega))⟩) (hS _ _ hI3_k) ?_;go_frame;refine Rg.Any.one (i:=14) (by kernel_rfl) (Rg.Any.ask (some 71) rfl rfl rfl _ _ (exec_fn3 71 _ _ _ _ rfl rfl rfl rfl (Zlcl3 _ _)) ?_);refine (cycle_any (a:=f2) (b:=f2+1+r9) P2.out (by omega) (by omega) (by omega)).mono ?_;rintro e1 w211 ⟨rfl,hp2,hkp⟩
     have hgc2:=GC.out.kp hkp (fun e=>by have:=GO.out.g0.lt; have:=HG2.out; omega);have htk2:=TK.out.kp hkp (fun e=>by have:=HTW.out; have:=HG2.out; omega) (fun z e=>by have:=HTL2.out; have:=HTW.out; have:=HG2.out; omega);have hpr2:=RwAt.kp PR.out hkp HNG.out;have HGY1:=ι (show Gd d (cyN d f2 (f2+1+r9)) from cyN_gd (by omega) (by omega));have hI4_k:=((World.cell?_of_block (a:=⟨w3.heap.size,0,none⟩) (hkp.block w3.heap.size (lt_of_cell hI3_k) (fun e=>by have:=GO.out.g0.lt; have:=HG2.out; omega))).trans hI3_k);clear hI3_k;refine ⟨_,rfl,(hS _ _ hI4_k),?_⟩;go_frame;clear P2;replace GC:=ι hgc2;replace PR:=ι hpr2;replace TK:=ι htk2;replace KT:=ι (Rg.Kp.trans (M:=fun z=>z=w1.heap.size) KT.out hkp (fun z hz e=>by have:=HG2.out; omega));have P3:=ι hp2;clear hkp hgc2 htk2 hpr2;have HSZM:=ι (show wr.heap.size≤w211.heap.size from KT.out.size)
     refine Rg.Any.one (i:=15) (by kernel_rfl) (Rg.Any.ask (some 72) rfl rfl rfl _ _ (exec_fn 34 _ _ _ rfl rfl rfl (Zlcl4 _ _)) ?_);refine (kitMul_any _ _ (cyN d fr (fr+1+r7)) (cyN d f2 (f2+1+r9)) w211 (PRow.np PR.out HGY0.out HCP.out.1 HCP.out.2 (by omega)) (PRow.np P3.out HGY1.out HC2.out.1 HC2.out.2 (by omega)) (fun z hz=>by rw [HGY1.out.2]; exact gd_mem HGY0.out hz) (by rw [HGY0.out.2]; omega)).mono ?_;rintro e1 w212 ⟨mv,rfl,hmv,hb⟩;obtain ⟨mb,mo,mc,rfl⟩:=FP.shape' (FP.new (F:=fun _=>True) hmv) (Cm.gd_mul HGY0.out HGY1.out) hd1;have hmf:=FP.new (F:=F) hmv;clear hmv;have hI5_u:=((Below.cell (p:=⟨w3.heap.size,0,none⟩) hb (lt_of_cell hI4_k)).trans hI4_k);clear hI4_k;replace GC:=ι (GC.out.up hb);replace PR:=ι (PR.out.up hb);replace TK:=ι (TK.out.up hb);replace P3:=ι (P3.out.up hb);replace KT:=ι (KT.out.up hb);have MF:=ι hmf;generalize Fup (fun _:Nat=>True) w211 w212=F3 at *
     clear hb;refine ⟨_,rfl,(hS _ _ hI5_u),?_⟩;go_frame;refine Rg.aR 16 8 rfl rfl (Rg.xa (.slice (some ⟨mb,mo,none⟩) d mc) _ rfl rfl) (hS2 _ _ rfl) ?_;go_frame;refine Rg.Any.done (by kernel_rfl) ?_ _;clear hS2;clear hS hI5_u;have GO2:=ι (GO.out.kt KT.out TK.out)
     have HFP:=ι (show FP (Fup F wr w212) w212 (.slice (some ⟨mb,mo,none⟩) d mc) (Ma.mulN (cyN d fr (fr+1+r7)) (cyN d f2 (f2+1+r9))) from MF.out.mono (fun z hz=>by rcases hz with hz | hz; exact .inl hz; exact .inr ⟨Nat.le_trans HSZM.out hz.1,hz.2⟩))
     obtain ⟨a9,c9,X9,r1,r2,r3,r4⟩:=GO2.out.push HFP.out ⟨_,_,_,rfl⟩ (by have:=HGL.out; omega) 22;have HGY:=ι (Cm.gd_mul HGY0.out HGY1.out);clear GO GC TK KT;go_upto_region 14 with (fail);refine Rg.wl ?_;refine Rg.lr 73 (exec_fieldG _ rfl rfl) ?_;go_frame;refine Rg.lr 74 (Rg.lo (.slice gva gs.length gvc) ⟨w3.heap.size,1,none⟩ (Rg.run_loadSl _ _ Tryz.underlying22 GO2.out.g1)) ?_;go_frame;refine Rg.lm 75 (.slice (some ⟨mb,mo,none⟩) d mc) ?_;go_frame;refine Rg.lr 76 (Rg.exec_buildSlice _ _ _ rfl (.slice (some ⟨mb,mo,none⟩) d mc) rfl (run_build1P w212 _ ⟨_,_,_,rfl⟩)) ?_;go_frame;refine Rg.lr 77 (Rg.exec_append _ _ _ rfl rfl rfl r1) ?_;go_frame;refine Rg.lr 78 (exec_fieldG _ rfl rfl) ?_;go_frame;refine Rg.list_skip none rfl rfl (Rg.exec_store _ _ _ rfl _ rfl _ rfl (Rg.run_storeSl _ infoPermsV r2 r3)) ?_;go_frame;generalize X9.setCell ⟨w3.heap.size,1,none⟩ (.slice a9 (gs.length+1) c9)=w399 at *
     have GO3:=ι r4;have HGL2:=ι (show (gs++[(Ma.mulN (cyN d fr (fr+1+r7)) (cyN d f2 (f2+1+r9)))]).length+q≤3 by rw [List.length_append]; have:=HGL.out; simp; omega)
     have HGS2:=ι (show ∀ s∈gs++[(Ma.mulN (cyN d fr (fr+1+r7)) (cyN d f2 (f2+1+r9)))],Gd d s from fun s hs=>by
      rcases List.mem_append.1 hs with hs | hs
      ·exact HGS.out s hs
      ·rw [List.mem_singleton] at hs; rw [hs]; exact HGY.out)
     clear r1 r2 r3 r4;go_wp2
     go_roundw
     case rel=>exact ⟨q,_,_,_,_,by go_num,by omega,HGL2,HGS2,GO3⟩
     case measure=>simp [intOf]; try omega
end Go.Proofs.YtdnmmibchbceeaaGreat

namespace Go.Proofs.YtdnmmibchbceeaaGreat
open Go.RowKit
open Go.Proofs
attribute [local irreducible] Go.Calls Go.wpStill
def lessL:List Int→List Int→Bool
 | [],[]=>false
 | [],_ :: _=>true
 | _ :: _,[]=>false
 | x :: a,y :: b=>if x=y then lessL a b else decide (x<y)
theorem lessL_irr:∀ a:List Int,lessL a a=false
 | []=>rfl
 | x :: a=>by rw [lessL,if_pos rfl]; exact lessL_irr a
theorem lessL_trans:∀ {a b c:List Int},lessL a b=true→lessL b c=true→lessL a c=true
 | [],[],_,h,_=>by simp [lessL] at h
 | [],_ :: _,[],_,h=>by simp [lessL] at h
 | [],_ :: _,_ :: _,_,_=>rfl
 | _ :: _,[],_,h,_=>by simp [lessL] at h
 | _ :: _,_ :: _,[],_,h=>by simp [lessL] at h
 | x :: a,y :: b,z :: c,h,h'=>by
  rw [lessL] at h h' ⊢
  by_cases e1:x=y
  ·rw [if_pos e1] at h
   by_cases e2:y=z
   ·rw [if_pos e2] at h'; rw [if_pos (e1.trans e2)]; exact lessL_trans h h'
   ·rw [if_neg e2] at h'; rw [if_neg (by omega)]; simp at h' ⊢; omega
  ·rw [if_neg e1] at h
   by_cases e2:y=z
   ·rw [if_neg (by omega)]; simp at h ⊢; omega
   ·rw [if_neg e2] at h'; simp at h h'; rw [if_neg (by omega)]; simp; omega
theorem lessL_total:∀ {a b:List Int},lessL a b=false→a≠b→lessL b a=true
 | [],[],_,h=>absurd rfl h
 | [],_ :: _,h,_=>by simp [lessL] at h
 | _ :: _,[],_,_=>rfl
 | x :: a,y :: b,h,hn=>by
  rw [lessL] at h ⊢
  by_cases e:x=y
  ·rw [if_pos e] at h; rw [if_pos e.symm]
   exact lessL_total h (fun e2=>hn (by rw [e,e2]))
  ·rw [if_neg e] at h; rw [if_neg (by omega)]; simp at h ⊢; omega
theorem lessL_drop {a b:List Int} (ha:k<a.length) (hb:k<b.length):lessL (a.drop k) (b.drop k)=if a[k]=b[k] then lessL (a.drop (k+1)) (b.drop (k+1)) else decide (a[k]<b[k]):=by
 rw [List.drop_eq_getElem_cons ha,List.drop_eq_getElem_cons hb,lessL]
theorem lessL_end {a b:List Int} (h:¬ (k<a.length∧k<b.length)) (hk:k≤a.length) (hk2:k≤b.length):lessL (a.drop k) (b.drop k)=decide (a.length<b.length):=by
 by_cases h1:k<a.length
 ·have h2:k=b.length:=by omega
  rw [List.drop_eq_getElem_cons h1,List.drop_of_length_le (l:=b) (by omega)];simp [lessL]; omega
 ·rw [List.drop_of_length_le (l:=a) (by omega)]
  by_cases h2:k<b.length
  ·rw [List.drop_eq_getElem_cons h2]; simp [lessL]; omega
  ·rw [List.drop_of_length_le (l:=b) (by omega)]; simp [lessL]; omega
theorem Less_q (v1 v2:Value) (l1 l2:List Int) (w:World) (h1:Rg.Ints w v1 l1) (h2:Rg.Ints w v2 l2) :
  Calls Tryz.prog 92 #[v1,v2] w fun e w'=>e=.returned (.bool (lessL l1 l2))∧∃ k,w'=w.drewN k:=by
 obtain ⟨a1,c1,rfl,n1,m1,_,k1⟩:=h1.shape;obtain ⟨a2,c2,rfl,n2,m2,_,k2⟩:=h2.shape;clear h1 h2;have K1:=ι k1;have K2:=ι k2;clear k1 k2
 go_enter Tryz.func92,Tryz.ntmps92
 go_wp2
 go_loopw [5] (fun v wr=>∃ i:Nat,v=.int .i64 i∧i≤l1.length∧i≤l2.length∧Hid (∃ k,wr=w.drewN k)∧Hid (lessL (l1.drop i) (l2.drop i)=lessL l1 l2)) (fun v _=>l1.length - (intOf v).toNat)
 case atStart=>exact ⟨0,rfl,by omega,by omega,⟨0,rfl⟩,rfl⟩
 case round =>
  obtain ⟨i,rfl,hi,hi2,hw,hs⟩:=hrel
  by_cases hlt:i<l1.length
  ·by_cases hlt2:i<l2.length
   ·obtain ⟨b1,o1,rfl,hb1,d1⟩:=K1.out (by omega)
    obtain ⟨b2,o2,rfl,hb2,d2⟩:=K2.out (by omega)
    have x1:wr.cell? ⟨b1,o1+i,none⟩=some (.int .i64 l1[i]):=by obtain ⟨k,e⟩:=hw.out; rw [e]; exact d1 i hlt
    have x2:wr.cell? ⟨b2,o2+i,none⟩=some (.int .i64 l2[i]):=by obtain ⟨k,e⟩:=hw.out; rw [e]; exact d2 i hlt2
    have hd:=lessL_drop hlt hlt2;generalize l1[i]=x at *;generalize l2[i]=y at *;have Hd:=ι hd;clear d1 d2 hd
    by_cases he:x=y
    ·have hb:(x != y)=false:=by rw [he]; simp
     have He:=ι he;clear he;go_wp2
     go_quiet (fail)
     go_wp2
     go_roundw
     case rel=>exact ⟨i+1,by go_num,by omega,by omega,by obtain ⟨k,e⟩:=hw.out; rw [e]; exact ⟨_,World.drewN_drewN _ _ _⟩,by have:=hs.out; rw [Hd.out,if_pos He.out] at this; exact this⟩
     case measure=>simp [intOf]; omega
    ·have hb:(x != y)=true:=by rw [bne_iff_ne]; exact he
     have He:=ι he;clear he;go_wp2
     go_quiet (fail)
     go_wp2
     go_quiet (fail)
     go_wp2;go_ret;exact ⟨Rg.ret_bool (by rw [← hs.out,Hd.out,if_neg He.out]),by obtain ⟨k,e⟩:=hw.out; rw [e]; exact ⟨_,by rw [World.drewN_drewN,World.drewN_drewN]⟩⟩
   ·go_wp2
    go_ret;exact ⟨Rg.ret_bool (by rw [← hs.out,lessL_end (by omega) (by omega) (by omega)]),hw.out⟩
  ·go_wp2
   go_ret;exact ⟨Rg.ret_bool (by rw [← hs.out,lessL_end (by omega) (by omega) (by omega)]),hw.out⟩
def Asc (L:List (List Int)):Prop:=∀ i j (hi:i<L.length) (hj:j<L.length),i<j→lessL L[i] L[j]=true
structure Place (L:List (List Int)) (x:List Int) (lo:Nat):Prop where
 le:lo≤L.length
 lt:∀ i (h:i<L.length),i<lo→lessL L[i] x=true
 ge:∀ i (h:i<L.length),lo≤i→lessL L[i] x=false
theorem Place.mem {L:List (List Int)} {x:List Int} {lo:Nat} (h:Place L x lo) (hs:Asc L):x∈L↔∃ hl:lo<L.length,L[lo]=x:=by
 constructor
 ·intro hx
  obtain ⟨j,hj,rfl⟩:=List.getElem_of_mem hx
  have h1:¬ j<lo:=fun e=>by have:=h.lt j hj e; rw [lessL_irr] at this; cases this
  have h2:¬ lo<j:=fun e=>by
   have:=hs lo j (by omega) hj e;have h3:=h.ge lo (by omega) (Nat.le_refl _);rw [this] at h3; cases h3
  obtain rfl:lo=j:=by omega
  exact ⟨hj,rfl⟩
 ·rintro ⟨hl,rfl⟩; exact List.getElem_mem hl
def putIn (L:List (List Int)) (lo:Nat) (x:List Int):List (List Int):=L.take lo++(x :: L.drop lo)
theorem mem_putIn {L:List (List Int)} {lo:Nat} {x y:List Int}:y∈putIn L lo x↔y∈L∨y=x:=by
 unfold putIn;rw [List.mem_append,List.mem_cons]
 constructor
 ·rintro (h | h | h)
  ·exact .inl (List.mem_of_mem_take h)
  ·exact .inr h
  ·exact .inl (List.mem_of_mem_drop h)
 ·rintro (h | h)
  ·rw [← List.take_append_drop lo L,List.mem_append] at h
   rcases h with h | h
   ·exact .inl h
   ·exact .inr (.inr h)
  ·exact .inr (.inl h)
theorem asc_iff (L:List (List Int)):Asc L↔L.Pairwise (fun a b=>lessL a b=true):=by
 rw [List.pairwise_iff_getElem];exact ⟨fun h i j hi hj hij=>h i j hi hj hij,fun h i j hi hj hij=>h i j hi hj hij⟩
theorem asc_putIn {L:List (List Int)} {lo:Nat} {x:List Int} (h:Place L x lo) (hs:Asc L) (hx:x∉L):Asc (putIn L lo x):=by
 rw [asc_iff] at hs ⊢;unfold putIn;rw [← List.take_append_drop lo L,List.pairwise_append] at hs;obtain ⟨h1,h2,h3⟩:=hs;rw [List.pairwise_append,List.pairwise_cons];refine ⟨h1,⟨fun b hb=>?_,h2⟩,fun a ha b hb=>?_⟩
 ·obtain ⟨j,hj,rfl⟩:=List.getElem_of_mem hb
  rw [List.getElem_drop];refine lessL_total (h.ge _ (by simp at hj; omega) (by omega)) (fun e=>hx ?_);rw [← e]; exact List.getElem_mem _
 ·rcases List.mem_cons.1 hb with rfl | hb
  ·obtain ⟨j,hj,rfl⟩:=List.getElem_of_mem ha
   rw [List.getElem_take];exact h.lt j (by simp at hj; omega) (by simp at hj; omega)
  ·exact h3 a ha b hb
def PlacePost (L:List (List Int)) (x:List Int) (w:World) (e:Ending) (w':World):Prop :=
 ∃ lo:Nat,e=.returned (.tuple #[.int .i64 lo,.bool (decide (x∈L))])∧Place L x lo∧Below w.heap.size w w'
theorem place_any (lv xv:Value) (L:List (List Int)) (x:List Int) (w:World) (h:Rg.Rows w lv L) (hx:Rg.Ints w xv x) (hs:Asc L) (hL:L.length<1000000) :
  Calls Tryz.prog 72 #[lv,xv] w (PlacePost L x w):=by
 obtain ⟨aa,acap,rfl,hac,ham,_,har⟩:=h.shape;obtain ⟨xn,xa,xc,hxn,rfl,_⟩:=hx.len;have Har:=ι har;have Hx:=ι hx;clear har h hx hxn;generalize hD:decide (x∈L)=D0;have HD:=ι hD;clear hD
 go_enter Tryz.func72,Tryz.ntmps72
 go_wp2
 go_loopw [6,7] (fun vl vh wr=>∃ lo hi:Nat,vl=.int .i64 lo∧vh=.int .i64 hi∧lo≤hi∧hi≤L.length∧Hid (∀ i (h:i<L.length),i<lo→lessL L[i] x=true)∧Hid (∀ i (h:i<L.length),hi≤i→lessL L[i] x=false)∧Hid (∃ k,wr=w.drewN k)) (fun vl vh _=>(intOf vh).toNat - (intOf vl).toNat)
 case atStart=>exact ⟨0,L.length,rfl,rfl,by omega,by omega,fun i h h0=>by omega,fun i h h0=>by omega,⟨0,rfl⟩⟩
 case round =>
  obtain ⟨lo,hi,rfl,rfl,hle,hhi,h1,h2,hw⟩:=hrel
  by_cases hlt:lo<hi
  ·obtain ⟨m,hm⟩:∃ m,m=(lo+hi) / 2:=⟨_,rfl⟩
   have hm1:lo≤m:=by omega
   have hm2:m<hi:=by omega
   have hmI:((lo:Int)+(hi:Int)) / 2=(m:Int):=by omega
   have hmL:m<L.length:=by omega
   obtain ⟨g,o,rfl,hg,hgr⟩:=Har.out (by omega);obtain ⟨u,eu,hu⟩:=hgr m hmL
   have e0:wr.cell? ⟨g,o+m,none⟩=some u:=by obtain ⟨k,e⟩:=hw.out; rw [e]; exact eu
   have hu1:Rg.Ints wr u L[m]:=by obtain ⟨k,e⟩:=hw.out; rw [e]; exact hu
   have hx1:Rg.Ints wr (.slice xa xn xc) x:=by obtain ⟨k,e⟩:=hw.out; rw [e]; exact Hx.out
   have hq:=Less_q _ _ _ _ wr hu1 hx1;clear hm hgr eu hu hu1 hx1
   cases hbq:lessL L[m] x
   ·rw [hbq] at hq
    have Hq:=ι hq;have Hbq:=ι hbq;clear hq hbq
    go_wp2_with (go_at_call 92; refine Hq.out.mono ?_; rintro e w' ⟨rfl,k,rfl⟩)
    go_roundw
    case rel =>
     refine ⟨lo,m,rfl,rfl,by omega,by omega,h1.out,fun i h hi'=>?_,by obtain ⟨k,e⟩:=hw.out; rw [e]; exact ⟨_,World.drewN_drewN _ _ _⟩⟩
     rcases Nat.lt_or_ge m i with hmi | hmi
     ·cases hh:lessL L[i] x
      ·rfl
      ·have:=lessL_trans (hs m i (by omega) h hmi) hh
       rw [Hbq.out] at this; cases this
     ·obtain rfl:i=m:=by omega
      exact Hbq.out
    case measure=>simp [intOf]; omega
   ·rw [hbq] at hq
    have Hq:=ι hq;have Hbq:=ι hbq;clear hq hbq
    go_wp2_with (go_at_call 92; refine Hq.out.mono ?_; rintro e w' ⟨rfl,k,rfl⟩)
    go_roundw
    case rel =>
     refine ⟨m+1,hi,by go_num,rfl,by omega,by omega,fun i h hi'=>?_,h2.out,by obtain ⟨k,e⟩:=hw.out; rw [e]; exact ⟨_,World.drewN_drewN _ _ _⟩⟩
     rcases Nat.lt_or_ge i m with hmi | hmi
     ·exact lessL_trans (hs i m h (by omega) hmi) Hbq.out
     ·obtain rfl:i=m:=by omega
      exact Hbq.out
    case measure=>simp [intOf]; omega
  ·obtain rfl:lo=hi:=by omega
   have hP:Place L x lo:=⟨hhi,h1.out,h2.out⟩;clear h1 h2;have hmem:=hP.mem hs;have HP:=ι hP;have hbw:=ι (show Below w.heap.size w wr by obtain ⟨k,e⟩:=hw.out; rw [e]; exact Rg.drewN (Below.refl _ _) _)
   by_cases hlo:lo<L.length
   ·obtain ⟨g,o,rfl,hg,hgr⟩:=Har.out (by omega)
    obtain ⟨u,eu,hu⟩:=hgr lo hlo
    have e0:wr.cell? ⟨g,o+lo,none⟩=some u:=by obtain ⟨k,e⟩:=hw.out; rw [e]; exact eu
    have hu1:Rg.Ints wr u L[lo]:=by obtain ⟨k,e⟩:=hw.out; rw [e]; exact hu
    have hx1:Rg.Ints wr (.slice xa xn xc) x:=by obtain ⟨k,e⟩:=hw.out; rw [e]; exact Hx.out
    have hd:decide (L[lo]=x)=D0:=by
     rw [← HD.out];exact decide_eq_decide.2 ⟨fun e=>hmem.2 ⟨hlo,e⟩,fun e=>(hmem.1 e).2⟩
    have hq:=ι (Same_any hu1 hx1 (ι hd) hbw.out);clear hmem hgr eu hu hu1 hx1 hd hP
    go_wp2_with (go_at_call 15; refine hq.out.mono ?_; rintro e w' ⟨rfl,hbs⟩)
    go_ret2
    exact ⟨lo,by rw [HD.out]; rfl,HP.out,hbs⟩
   ·have hd:false=D0:=by
     rw [← HD.out];exact (decide_eq_false (fun e=>hlo (hmem.1 e).1)).symm
    subst hd;clear hmem hP;go_wp2
    go_ret2
    exact ⟨lo,by rw [HD.out]; rfl,HP.out,hbw.out⟩
end Go.Proofs.YtdnmmibchbceeaaGreat

namespace Go.Proofs.YtdnmmibchbceeaaGreat
open Go.RowKit
open Go.Proofs
attribute [local irreducible] Go.Calls Go.wpList
def cmpI (x y:Int):Int:=if x<y then -1 else if y<x then 1 else 0
def cmpL:List Int→List Int→Int
 | [],[]=>0
 | [],_ :: _=>-1
 | _ :: _,[]=>1
 | x :: a,y :: b=>if cmpI x y=0 then cmpL a b else cmpI x y
theorem cmpL_lt:∀ (a b:List Int),decide (cmpL a b<0)=lessL a b
 | [],[]=>rfl
 | [],_ :: _=>rfl
 | _ :: _,[]=>rfl
 | x :: a,y :: b=>by
  unfold cmpL lessL cmpI
  by_cases h1:x=y
  ·subst h1
   simp only [Int.lt_irrefl,if_false,if_true];exact cmpL_lt a b
  ·by_cases h2:x<y
   ·simp [h1,h2]
   ·have h3:y<x:=by omega
    simp [h1,h2,h3]
theorem cmpL_drop {a b:List Int} (ha:k<a.length) (hb:k<b.length):cmpL (a.drop k) (b.drop k)=if cmpI a[k] b[k]=0 then cmpL (a.drop (k+1)) (b.drop (k+1)) else cmpI a[k] b[k]:=by
 rw [List.drop_eq_getElem_cons ha,List.drop_eq_getElem_cons hb,cmpL]
theorem cmpL_one {a b:List Int} (ha:k<a.length) (hb:b.length≤k):cmpL (a.drop k) (b.drop k)=1:=by
 rw [List.drop_eq_getElem_cons ha,List.drop_of_length_le (l:=b) hb,cmpL]
theorem cmpL_end {a b:List Int} (ha:a.length≤k) (hb:k≤b.length) (hk:k≤a.length):cmpL (a.drop k) (b.drop k)=if a.length<b.length then -1 else 0:=by
 have e:k=a.length:=by omega
 subst e;rw [List.drop_of_length_le (l:=a) (Nat.le_refl _)]
 by_cases h:a.length<b.length
 ·rw [List.drop_eq_getElem_cons h,if_pos h,cmpL]
 ·rw [List.drop_of_length_le (l:=b) (by omega),if_neg h,cmpL]
theorem cmpCmp_any (x y:Int) (w:World):Calls Tryz.prog 111 #[.int .i64 x,.int .i64 y] w fun e w'=>e=.returned (.int .i64 (cmpI x y))∧w'=w:=by
 by_cases h1:x<y
 ·go_enter Tryz.func111,Tryz.ntmps111
  go_wp2;go_ret;exact ⟨by rw [show cmpI x y = -1 by unfold cmpI; rw [if_pos (by omega)]]; rfl,rfl⟩
 ·by_cases h2:y<x
  ·go_enter Tryz.func111,Tryz.ntmps111
   go_wp2;go_ret;exact ⟨by rw [show cmpI x y=1 by unfold cmpI; rw [if_neg (by omega),if_pos (by omega)]]; rfl,rfl⟩
  ·go_enter Tryz.func111,Tryz.ntmps111
   go_wp2;go_ret;exact ⟨by rw [show cmpI x y=0 by unfold cmpI; rw [if_neg (by omega),if_neg (by omega)]]; rfl,rfl⟩
end Go.Proofs.YtdnmmibchbceeaaGreat

namespace Go.Proofs.YtdnmmibchbceeaaGreat
open Go.RowKit
open Go.Proofs
open Go.Proofs.Ob
open Go.Proofs.Cm (Gd Gr)
attribute [local irreducible] Go.Calls Go.wpList
def lenV:Value→Nat
 | .slice _ n _=>n
 | _=>0
theorem run_sliceHiP (w:World) (b:Addr) (n c k:Nat) (h:k≤c):(Instr.sliceAt 22 (.slice (some b) n c) none (some (.int .i64 (k:Int))) none).run Tryz.prog w=.ok (.slice (some b) k c) w:=by
 simp [Instr.sliceAt,Instr.slice,run_underlying Tryz.underlying22,Instr.sliceBounds,Instr.sliceBound,asIntOf,h,Addr.add]
theorem exec_sliceHiP {o:Oper} {a:Act} {r:Value} (x y:Operand) (ho:o.op=.slice 22 x none (some y) none) (hx:a.eval x=v) (hy:a.eval y=.int .i64 (k:Int)) (hr:(Instr.sliceAt 22 v none (some (.int .i64 (k:Int))) none).run Tryz.prog w=.ok r w) :
  (execOp a.eval o).run Tryz.prog w=.ok (.value r) w:=by
 unfold execOp;simp only [ho,hx,hy,Sem.run_bind,Sem.run_pure,Option.map]
 first | (rw [hr]; rfl) | (erw [hr]; rfl) | simp [hr]
theorem ofN_back (l:List Nat):(Ma.ofN l).map Int.toNat=l:=by
 unfold Ma.ofN;rw [List.map_map];exact List.map_id'' (fun _=>rfl) l
theorem ofN_inj' {b:List Nat} (h:Ma.ofN a=Ma.ofN b):a=b:=by rw [← ofN_back a,h,ofN_back]
theorem memP {y:List Nat}:Ma.ofN y∈A.map Ma.ofN↔y∈A :=
 ⟨fun h=>by obtain ⟨z,hz,e⟩:=List.mem_map.1 h; exact ofN_inj' e▸hz,fun h=>List.mem_map_of_mem h⟩
def putN (A:List (List Nat)) (k:Nat) (y:List Nat):List (List Nat):=A.take k++(y :: A.drop k)
theorem putN_map (A:List (List Nat)) (k:Nat) (y:List Nat):(putN A k y).map Ma.ofN=putIn (A.map Ma.ofN) k (Ma.ofN y):=by simp [putN,putIn]
theorem len_putN {y:List Nat} (h:k≤A.length):(putN A k y).length=A.length+1:=by simp [putN]; omega
theorem mem_putN {x y:List Nat}:x∈putN A k y↔x∈A∨x=y:=by
 rw [← memP,putN_map,mem_putIn,memP];exact ⟨fun h=>h.imp id ofN_inj',fun h=>h.imp id (congrArg _)⟩
structure EO (d:Nat) (gs:List (List Nat)) (most:Nat) (A T:List (List Nat)):Prop where
 asc:Asc (A.map Ma.ofN)
 inG:∀ y∈A,Gr d (·∈gs) y
 one:Ma.oneN d∈A
 sub:∀ y∈T,y∈A
 le:A.length≤most
 tl:T.length≤A.length
 clo:∀ z∈A,z∈T∨∀ g∈gs,Ma.mulN z g∈A
structure EJ (d:Nat) (gs:List (List Nat)) (most:Nat) (A T:List (List Nat)) (x:List Nat) (i:Nat):Prop where
 asc:Asc (A.map Ma.ofN)
 inG:∀ y∈A,Gr d (·∈gs) y
 one:Ma.oneN d∈A
 sub:∀ y∈T,y∈A
 le:A.length≤most
 tl:T.length≤A.length
 xA:x∈A
 clo:∀ z∈A,z∈T∨z=x∨∀ g∈gs,Ma.mulN z g∈A
 don:∀ j (h:j<gs.length),j<i→Ma.mulN x gs[j]∈A
def AllE (d:Nat) (gs A:List (List Nat)):Prop:=Asc (A.map Ma.ofN)∧∀ y,y∈A↔Gr d (·∈gs) y
def OverE (d:Nat) (gs:List (List Nat)) (most:Nat):Prop:=∃ L:List (List Nat),L.Nodup∧(∀ y∈L,Gr d (·∈gs) y)∧L.length=most+1
theorem asc_one (l:List (List Int)) (h:l.length≤1):Asc l:=fun i j hi hj hij=>by omega
theorem EO.start {d:Nat} (h:1≤most):EO d gs most [Ma.oneN d] [Ma.oneN d] :=
 ⟨asc_one _ (by simp),fun y hy=>by rw [List.mem_singleton] at hy; subst hy; exact .one,by simp,fun y hy=>hy,by simpa using h,by simp,fun z hz=>.inl hz⟩
theorem EO.pop {d:Nat} {x:List Nat} (h:EO d gs most A (T++[x])):EJ d gs most A T x 0 :=
 ⟨h.asc,h.inG,h.one,fun y hy=>h.sub y (List.mem_append_left _ hy),h.le,by have:=h.tl; simp at this; omega,h.sub x (by simp),fun z hz=>by
  rcases h.clo z hz with e | e
  ·rcases List.mem_append.1 e with e | e
   ·exact .inl e
   ·exact .inr (.inl (by simpa using e))
  ·exact .inr (.inr e),fun j _ hj=>by omega⟩
theorem EJ.hit {d:Nat} {x:List Nat} {i:Nat} (h:EJ d gs most A T x i) (hi:i<gs.length) (hy:Ma.mulN x gs[i]∈A):EJ d gs most A T x (i+1) :=
 ⟨h.asc,h.inG,h.one,h.sub,h.le,h.tl,h.xA,h.clo,fun j hj hji=>by
  rcases Nat.lt_or_ge j i with e | e
  ·exact h.don j hj e
  ·obtain rfl:j=i:=by omega
   exact hy⟩
theorem EJ.new {d:Nat} {x:List Nat} {i:Nat} (h:EJ d gs most A T x i) (hi:i<gs.length) (hg:∀ s∈gs,Gd d s) (hy:Ma.mulN x gs[i]∉A) (hm:A.length<most) (hP:Place (A.map Ma.ofN) (Ma.ofN (Ma.mulN x gs[i])) k) :
  EJ d gs most (putN A k (Ma.mulN x gs[i])) (T++[Ma.mulN x gs[i]]) x (i+1):=by
 have hk:k≤A.length:=by have:=hP.le; simpa using this
 have hG:Gr d (·∈gs) (Ma.mulN x gs[i]):=(Gr.isG hg).mul _ _ (h.inG x h.xA) (.gen _ (List.getElem_mem hi));refine ⟨?_,fun y hy=>?_,mem_putN.2 (.inl h.one),fun y hy=>?_,by rw [len_putN hk]; omega,by rw [len_putN hk,List.length_append]; have:=h.tl; simp; omega,mem_putN.2 (.inl h.xA),fun z hz=>?_,fun j hj hji=>?_⟩
 ·rw [putN_map]; exact asc_putIn hP h.asc (fun e=>hy (memP.1 e))
 ·rcases mem_putN.1 hy with e | rfl
  ·exact h.inG y e
  ·exact hG
 ·rcases List.mem_append.1 hy with e | e
  ·exact mem_putN.2 (.inl (h.sub y e))
  ·exact mem_putN.2 (.inr (by simpa using e))
 ·rcases mem_putN.1 hz with e | rfl
  ·rcases h.clo z e with e | e | e
   ·exact .inl (List.mem_append_left _ e)
   ·exact .inr (.inl e)
   ·exact .inr (.inr fun g hg=>mem_putN.2 (.inl (e g hg)))
  ·exact .inl (by simp)
 ·rcases Nat.lt_or_ge j i with e | e
  ·exact mem_putN.2 (.inl (h.don j hj e))
  ·obtain rfl:j=i:=by omega
   exact mem_putN.2 (.inr rfl)
theorem EJ.out {d:Nat} {x:List Nat} {i:Nat} (h:EJ d gs most A T x i) (hi:gs.length≤i):EO d gs most A T :=
 ⟨h.asc,h.inG,h.one,h.sub,h.le,h.tl,fun z hz=>by
  rcases h.clo z hz with e | rfl | e
  ·exact .inl e
  ·refine .inr fun g hg=>?_
   obtain ⟨j,hj,rfl⟩:=List.getElem_of_mem hg;exact h.don j hj (by omega)
  ·exact .inr e⟩
theorem EO.done {d:Nat} (h:EO d gs most A []) (hg:∀ s∈gs,Gd d s):AllE d gs A :=
 ⟨h.asc,fun y=>⟨h.inG y,fun hy=>Cm.gr_ind hg (P:=fun z=>z∈A) h.one (fun x s _ hx hs=>by
  rcases h.clo x hx with e | e
  ·simp at e
  ·exact e s hs) hy⟩⟩
theorem asc_nodup (h:Asc (A.map Ma.ofN)):A.Nodup:=by
 rw [asc_iff] at h;rw [List.pairwise_map] at h
 exact h.imp fun hab e=>by subst e; rw [lessL_irr] at hab; cases hab
theorem EJ.over {d:Nat} {x:List Nat} {i:Nat} (h:EJ d gs most A T x i) (hi:i<gs.length) (hg:∀ s∈gs,Gd d s) (hy:Ma.mulN x gs[i]∉A) (hm:¬ A.length<most):OverE d gs most :=
 ⟨Ma.mulN x gs[i] :: A,List.nodup_cons.2 ⟨hy,asc_nodup h.asc⟩,fun y hy'=>by
  rcases List.mem_cons.1 hy' with rfl | e
  ·exact (Gr.isG hg).mul _ _ (h.inG x h.xA) (.gen _ (List.getElem_mem hi))
  ·exact h.inG y e,by have:=h.le; simp; omega⟩
theorem RowH.withM {N:Nat→Prop} {l:List (List Nat)} (h:RowH B F M W v l) (hN:∀ k,v.ownBlock=some k→¬ N k):RowH B F N W v l:=⟨h.size,h.own,fun k e=>⟨(h.off k e).1,hN k e⟩⟩
theorem RowH.pop {a:Option Addr} {c:Nat} {l:List (List Nat)} {x:List Nat} (h:RowH B F M W (.slice a (n+1) c) (l++[x])) (hn:l.length=n):RowH B F M W (.slice a n c) l:=by
 obtain ⟨us,⟨h1,h2⟩,h3⟩:=h.own
 have hl:us.length=n+1:=by simp [hn] at h1; exact h1
 have he:Rg.FElts F W (us.take n) (l.map Ma.ofN):=by
  have:=h3.take n
  rwa [List.map_append,List.take_append_of_le_length (by rw [List.length_map,hn]; exact Nat.le_refl _),List.take_of_length_le (l:=l.map Ma.ofN) (by rw [List.length_map,hn]; exact Nat.le_refl _)] at this
 refine ⟨h.size,⟨us.take n,⟨by simp [hn,hl],?_⟩,he⟩,fun k e=>h.off k (by cases a with | none=>simp [Value.ownBlock] at e | some b=>exact e)⟩
 rcases h2 with ⟨_,h2⟩ | ⟨g,cap,cur,hv,hg,hc,h5,h6,h7,h8⟩
 ·simp at h2
 ·simp only [Value.slice.injEq] at hv
  obtain ⟨rfl,_,rfl⟩:=hv;refine .inr ⟨g,c,cur,by rw [hn],hg,hc,by simp at h5; omega,h6,h7,?_⟩;have:=congrArg (List.take n) h8;rw [List.take_take] at this;rw [← this]
  congr 1
  simp [hn]
theorem RowH.at {l:List (List Nat)} (h:RowH B F M W v l) {i:Nat} (hi:i<l.length):∃ b c u,v=.slice (some ⟨b,0,none⟩) l.length c∧l.length≤c∧b<W.heap.size∧W.cell? ⟨b,i,none⟩=some u∧FP F W u l[i]:=by
 obtain ⟨us,h1,h2⟩:=h.own;obtain ⟨-,a,c,rfl,h3,h4,h5⟩:=Rg.own_elts h1 h2;rw [List.length_map] at h3;obtain ⟨g,rfl,hg,hx⟩:=h5 (by rw [List.length_map]; omega);obtain ⟨u,hu1,hu2⟩:=hx i (by simpa using hi);exact ⟨g,c,u,congrArg (fun n=>Value.slice _ n c) (List.length_map ..),h3,hg,hu1,by rw [List.getElem_map] at hu2; exact hu2⟩
structure Room (B:Nat) (F:Nat→Prop) (W:World) (g n c:Nat) (l:List (List Nat)) (cur:Array Value) (us:List Value):Prop where
 heap:W.heap[g]?=some (.cells cur 30 (0,0))
 size:cur.size=c
 le:n+1≤c
 cm:c≤maxLen
 lo:B≤g
 ul:us.length=n
 ll:l.length=n
 elts:Rg.FElts F W us (l.map Ma.ofN)
 take:∃ u,cur.toList.take (n+1)=us++[u]
theorem RowH.room {l:List (List Nat)} {z:List Nat} (h:RowH B F M W v (l++[z])):∃ g c cur us,v=.slice (some ⟨g,0,none⟩) (l.length+1) c∧Room B F W g l.length c l cur us:=by
 obtain ⟨us,⟨h1,h2⟩,h3⟩:=h.own
 have hl:us.length=l.length+1:=by simpa using h1
 have he:Rg.FElts F W (us.take l.length) (l.map Ma.ofN):=by
  have:=h3.take l.length
  rwa [List.map_append,List.take_append_of_le_length (Nat.le_of_eq (List.length_map ..).symm),List.take_of_length_le (l:=l.map Ma.ofN) (Nat.le_of_eq (List.length_map ..))] at this
 rcases h2 with ⟨_,h2⟩ | ⟨g,cap,cur,hv,hg,hc,h5,h6,h7,h8⟩
 ·simp at h2
 ·refine ⟨g,cap,cur,us.take l.length,by rw [hv]; simp,⟨hc,by omega,by simpa using h5,h6,hg,by simp [hl],rfl,he,us[l.length],?_⟩⟩
  rw [List.length_append,List.length_singleton,Nat.mul_one] at h8;rw [h8,List.take_append_getElem (by omega),List.take_of_length_le (by omega)]
theorem Room.cell {B:Nat} {F:Nat→Prop} {W:World} {g n c:Nat} {l:List (List Nat)} {cur:Array Value} {us:List Value} (h:Room B F W g n c l cur us) {k:Nat}:∀ j v,(us.drop k)[j]?=some v→W.cell? ((⟨g,k,none⟩:Addr).add j)=some v:=fun j v hv=>by
 obtain ⟨u,h6⟩:=h.take;have hj:=(List.getElem?_eq_some_iff.1 hv).1;have h7:=congrArg (fun l=>l[k+j]?) h6;have hul:=h.ul;simp at hj;rw [List.getElem?_take_of_lt (by omega),List.getElem?_append_left (by omega)] at h7;rw [List.getElem?_drop] at hv
 have h8:W.cell? ⟨g,k+j,none⟩=some v:=by
  rw [cell_of_row W _ _ _ _ _ h.heap,← Array.getElem?_toList,h7,hv]
 rw [Addr.add_mid]; exact h8
theorem Room.put {W3:World} {g c:Nat} {l:List (List Nat)} {cur:Array Value} {us:List Value} (h:Room B F W g n c l cur us) (hB:B≤W.heap.size) (hoff:¬ F g∧¬ M g) (hk:k≤n) (hk3:Rg.Kp (fun z=>z=g) W W3) (h3:W3.heap[g]?=some (.cells (splice cur.toList (k+1) (us.drop k)).toArray 30 (0,0))) {y:List Nat} (hy:FP F W xv y) :
  RowH B F M (W3.setCell ⟨g,k,none⟩ xv) (.slice (some ⟨g,0,none⟩) (n+1) c) (putN l k y)∧Rg.Kp (fun z=>z=g) W (W3.setCell ⟨g,k,none⟩ xv):=by
 have hkp:Rg.Kp (fun z=>z=g) W (W3.setCell ⟨g,k,none⟩ xv):=hk3.trans (M':=fun z=>z=g) (Rg.Kp.of_setCell rfl) (fun _ _ e=>e);have hFg:∀ z,F z→¬ z=g:=fun z hz e=>hoff.1 (e▸hz);obtain ⟨u,h6⟩:=h.take
 have hlenc:n+1≤cur.toList.length:=by rw [Array.length_toList,h.size]; exact h.le
 have hspl:=Rg.splice_set (x:=xv) h6 h.ul hk hlenc
 have hl:(putN l k y).length=n+1:=by rw [len_putN (by rw [h.ll]; exact hk),h.ll]
 have hul:=h.ul;refine ⟨⟨Nat.le_trans hB hkp.size,⟨us.take k++(xv :: us.drop k),⟨by rw [hl]; simp [hul]; omega,.inr ⟨g,c,_,by rw [hl],h.lo,heap_setCell_same W3 g k _ _ xv h3,by rw [hl]; exact h.le,h.cm,?_,?_⟩⟩,?_⟩,fun z e=>?_⟩,hkp⟩
 ·rw [Array.size_setIfInBounds,List.size_toArray,length_splice cur.toList (k+1) (us.drop k) (by rw [List.length_drop,hul,Array.length_toList,h.size]; have:=h.le; omega),Array.length_toList,h.size,Nat.mul_one]
 ·rw [hl,Nat.mul_one,← hspl]
  simp
 ·have e1:(putN l k y).map Ma.ofN=(l.map Ma.ofN).take k++([Ma.ofN y]++(l.map Ma.ofN).drop k):=by simp [putN]
  rw [e1];exact ((h.elts.kp hkp hFg).take k).app ((Rg.FElts.one (Rg.FI.kp hy hkp hFg)).app ((h.elts.kp hkp hFg).drop k))
 ·simp only [Value.ownBlock,Option.some.injEq] at e
  subst e;exact hoff
structure ElI (w W:World) (F:Nat→Prop) (av tv:Value) (A T:List (List Nat)):Prop where
 bel:Below w.heap.size w W
 ra:RowH w.heap.size F (fun _=>False) W av A
 rt:RowH w.heap.size F (fun _=>False) W tv T
 dis:∀ k,av.ownBlock=some k→tv.ownBlock≠some k
 Flt:∀ z,F z→z<W.heap.size
theorem RowH.up0 {l:List (List Nat)} (h:RowH B F (fun _=>False) W v l) (hb:Below W.heap.size W W'):RowH B (Fup F W W') (fun _=>False) W' v l :=
 h.upk (N:=fun _=>False) (Rg.Kp.of_below hb) (fun _ _=>id) (fun _=>id)
theorem ElI.up (h:ElI w W F av tv A T) (hb:Below W.heap.size W W'):ElI w W' (Fup F W W') av tv A T :=
 ⟨Rg.acc h.bel hb,h.ra.up0 hb,h.rt.up0 hb,h.dis,fun z hz=>by
  rcases hz with hz | hz
  ·exact Nat.lt_of_lt_of_le (h.Flt z hz) hb.size
  ·exact hz.2⟩
theorem ElI.pop {w W:World} {F:Nat→Prop} {av:Value} {a:Option Addr} {n c:Nat} {A T:List (List Nat)} {x:List Nat} (h:ElI w W F av (.slice a (n+1) c) A (T++[x])) (hn:T.length=n):ElI w W F av (.slice a n c) A T :=
 ⟨h.bel,h.ra,h.rt.pop hn,fun k e e2=>h.dis k e (by cases a with | none=>simp [Value.ownBlock] at e2 | some b=>exact e2),h.Flt⟩
theorem ElI.kpA {av':Value} {A':List (List Nat)} (h:ElI w W F av tv A T) (hk:Rg.Kp (fun k=>av.ownBlock=some k) W X) (hr:RowH w.heap.size F (fun k=>tv.ownBlock=some k) X av' A'):ElI w X F av' tv A' T :=
 ⟨Rg.Kp.below h.bel hk (fun k e=>(h.ra.lt k e).1),hr.withM (fun _ _=>id),h.rt.kp hk (fun z hz e=>(h.ra.off z e).1 hz) (fun k e1 e2=>h.dis k e2 e1),fun k e=>(hr.off k e).2,fun z hz=>Nat.lt_of_lt_of_le (h.Flt z hz) hk.size⟩
theorem ElI.kpT {tv':Value} (h:ElI w W F av tv A T) (hk:Rg.Kp (fun k=>tv.ownBlock=some k) W X) (hr:RowH w.heap.size F (fun k=>av.ownBlock=some k) X tv' T'):ElI w X F av tv' A T' :=
 ⟨Rg.Kp.below h.bel hk (fun k e=>(h.rt.lt k e).1),h.ra.kp hk (fun z hz e=>(h.rt.off z e).1 hz) (fun k e1 e2=>h.dis k e1 e2),hr.withM (fun _ _=>id),fun k e1 e2=>(hr.off k e2).2 e1,fun z hz=>Nat.lt_of_lt_of_le (h.Flt z hz) hk.size⟩
theorem FP.nil0 (F:Nat→Prop) (w:World):FP F w (.slice none 0 0) []:=⟨none,0,rfl,Nat.le_refl _,Nat.zero_le _,Nat.zero_le _,fun h=>absurd h (Nat.lt_irrefl 0)⟩
theorem ElI.growA (h:ElI w W F av tv A T) (hn:A.length<1000000) (ty:TypeId) :
  ∃ a c X,(Builtin.append_ #[22,22] ty #[av,.slice (some ⟨W.heap.size,0,none⟩) 1 1]).run Tryz.prog (W.alloc (.cells #[.slice none 0 0] 30))=.ok (.slice a (A.length+1) c) X∧ElI w X F (.slice a (A.length+1) c) tv (A++[[]]) T∧Rg.Kp (fun k=>av.ownBlock=some k) W X:=by
 obtain ⟨a,c,X,r1,r2,r3⟩:=(h.ra.withM (N:=fun k=>tv.ownBlock=some k) (fun k e1 e2=>h.dis k e1 e2)).push (FP.nil0 F W) ⟨none,0,0,rfl⟩ h.Flt (fun k e=>(h.rt.lt k e).2) hn ty;exact ⟨a,c,X,r1,h.kpA r3 r2,r3⟩
theorem ElI.growT (h:ElI w W F av tv A T) {y:List Nat} (hu:FP F W u y) (hs:∃ a m c,u=.slice a m c) (hn:T.length<1000000) (ty:TypeId) :
  ∃ a c X,(Builtin.append_ #[22,22] ty #[tv,.slice (some ⟨W.heap.size,0,none⟩) 1 1]).run Tryz.prog (W.alloc (.cells #[u] 30))=.ok (.slice a (T.length+1) c) X∧ElI w X F av (.slice a (T.length+1) c) A (T++[y])∧Rg.Kp (fun k=>tv.ownBlock=some k) W X:=by
 obtain ⟨a,c,X,r1,r2,r3⟩:=(h.rt.withM (N:=fun k=>av.ownBlock=some k) (fun k e1 e2=>h.dis k e2 e1)).push hu hs h.Flt (fun k e=>(h.ra.lt k e).2) hn ty;exact ⟨a,c,X,r1,h.kpT r3 r2,r3⟩
theorem ElI.fpA {y:List Nat} (h:ElI w W F av tv A T) (hk:Rg.Kp (fun k=>av.ownBlock=some k) W X) (hy:FP F W u y):FP F X u y:=Rg.FI.kp hy hk (fun z hz e=>(h.ra.off z e).1 hz)
theorem ElI.fpT {y:List Nat} (h:ElI w W F av tv A T) (hk:Rg.Kp (fun k=>tv.ownBlock=some k) W X) (hy:FP F W u y):FP F X u y:=Rg.FI.kp hy hk (fun z hz e=>(h.rt.off z e).1 hz)
theorem ElI.put {w W W3:World} {F:Nat→Prop} {g n c k:Nat} {tv u:Value} {A T:List (List Nat)} {y:List Nat} {cur:Array Value} {us:List Value} (h:ElI w W F (.slice (some ⟨g,0,none⟩) (n+1) c) tv (A++[[]]) T) (hr:Room w.heap.size F W g n c A cur us) (hk:k≤n) (hk3:Rg.Kp (fun z=>z=g) W W3) (h3:W3.heap[g]?=some (.cells (splice cur.toList (k+1) (us.drop k)).toArray 30 (0,0))) (hy:FP F W u y) :
  ElI w (W3.setCell ⟨g,k,none⟩ u) F (.slice (some ⟨g,0,none⟩) (n+1) c) tv (putN A k y) T∧Rg.Kp (fun z=>(Value.slice (some ⟨g,0,none⟩) (n+1) c).ownBlock=some z) W (W3.setCell ⟨g,k,none⟩ u):=by
 obtain ⟨q1,q2⟩:=hr.put (M:=fun z=>tv.ownBlock=some z) h.ra.size ⟨(h.ra.off g rfl).1,h.dis g rfl⟩ hk hk3 h3 hy;have q3:Rg.Kp (fun z=>(Value.slice (some ⟨g,0,none⟩) (n+1) c).ownBlock=some z) W (W3.setCell ⟨g,k,none⟩ u):=q2.weak (fun z e=>by subst e; rfl);exact ⟨h.kpA q3 q1,q3⟩
def ElPost (d:Nat) (gs:List (List Nat)) (most:Nat) (w:World) (e:Ending) (w':World):Prop :=
 ∃ v,e=.returned v∧Below w.heap.size w w'∧((∃ A,Rg.Rows w' v (A.map Ma.ofN)∧AllE d gs A∧A.length≤most)∨(v=.slice none 0 0∧OverE d gs most))
end Go.Proofs.YtdnmmibchbceeaaGreat
