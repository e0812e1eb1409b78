/- Lemmas and contracts on the way to the statement; no condition of their own beyond those written. -/
import Derived.Test.YthehbckogieimaaGreatXWntoGa
import Derived.Deep.MidRow
import Derived.Deep.WholeRow
import Derived.Laws.CopyOwn
import Derived.RangeFuncWrites
import Derived.RangeFuncNested
import Derived.RangeFuncBox
import Derived.RangeFuncLeaves
import Derived.Shelf.Abstract
import Derived.OwnWalkIn
import Derived.TacticsInMore
import Derived.LoopNIn
import Derived.LoopIn
import Derived.Maps.AppendAt
import Derived.Sort.CutIn
import Derived.Deep.CutRange
import Derived.Deep.CutBlock
import Derived.IntWalk
import Derived.Great.BuildSlice
import Derived.ArgAppend
import Derived.StillTailTactics
import Derived.WalkSpells
import Derived.WalkLawsBesides
import Derived.OwnWalk
import Derived.OrdersHeld
import Derived.Deep.OwnRows
import Derived.WalkKit
import Derived.Lib.Hide
import Derived.Laws.OwnMore
import Derived.Test.YthehbckogieimaaGreatProg
import Derived.Outline
import Derived.Deep.DeepFit
import Derived.BigQuiet
import Derived.Deep.QuietTactic
import Derived.Sort.OwnSortedInts
import Derived.WideMake
import Derived.MapKept
import Derived.ChangeMaps5
import Derived.Shelf.Sort.Plain
import Derived.Lib.ConvBytes
import Derived.ChangeKeysEq
import Derived.Laws.Cells
import Derived.Laws.Rows
import Derived.Laws.Tables
import Derived.OrdersIn
import Derived.TacticsIn
import Derived.Deep.LoopGhost
import Derived.Lib.SlicesSearch
import Derived.Stop.BytesEq
import Derived.Shelf.SlSortCmp.Whole1
import Derived.Ground.SlsfProg
set_option linter.unusedVariables false
set_option linter.unusedSimpArgs false
set_option maxRecDepth 100000
set_option maxHeartbeats 8000000
namespace Go.Proofs.YthehbckogieimaaGreat
open Go.RowKit
open Go.Proofs
open Go.Proofs.Ob
attribute [local irreducible] Go.Calls Go.wpList
theorem Hccl0 (args:Array Value) (w:World):(callFunc 243 args).run Tryz.prog w=.ok (.enter 243 args) w:=by kernel_rfl
theorem infoIntB:(Tryz.prog.info? 3).map (fun i=>(i.zero,i.size,i.bytes))=some (some (.int .i64 0),1,8):=by kernel_rfl
theorem slForest:Rg.SlT Tryz.prog 177 3 (.int .i64 0) 8:=⟨Tryz.underlying177,infoIntB,rfl,by decide⟩
theorem mkForest (n:Nat) (hn:n≤1000000) (w:World):(Instr.makeSlice 177 (.int .i64 (n:Int)) (.int .i64 (n:Int))).run Tryz.prog w=.ok (.slice (some ⟨w.heap.size,0,none⟩) n n) (w.alloc (.cells (madeCells #[.int .i64 0] n) 3)) :=
 run_make_row' 177 3 (.int .i64 0) 8 Tryz.underlying177 infoIntB rfl .i64 .i64 n (by omega) (by omega) w
theorem mkIntsB (n:Nat) (hn:n≤1000000) (w:World):(Instr.makeSlice 36 (.int .i64 (n:Int)) (.int .i64 (n:Int))).run Tryz.prog w=.ok (.slice (some ⟨w.heap.size,0,none⟩) n n) (w.alloc (.cells (madeCells #[.int .i64 0] n) 3)) :=
 run_make_row' 36 3 (.int .i64 0) 8 Tryz.underlying36 infoIntB rfl .i64 .i64 n (by omega) (by omega) w
theorem run_storeIntB {w:World} {b o:Nat} {u:Value} (x:Int) (h:w.cell? ⟨b,o,none⟩=some u) (f:w.frozen? ⟨b,o,none⟩=false):(storeVar 3 ⟨b,o,none⟩ (.int .i64 x)).run Tryz.prog w=.ok () (w.setCell ⟨b,o,none⟩ (.int .i64 x)):=run_storeInt x h f
theorem exec_maxE {o:Oper} {a:Act} {w:World} {u v r:Int} (x y:Operand) (tys:Array TypeId) (ho:o.op=.call { callee:=.builtin .max,args:=#[x,y],argTypes:=tys }) (hx:a.eval x=.int .i64 u) (hy:a.eval y=.int .i64 v) (hr:(if u<v then v else u)=r):(execOp a.eval o).run Tryz.prog w=.ok (.value (.int .i64 r)) w:=by
 subst hr;unfold execOp;simp [ho,hx,hy,resolve,invoke,builtin,Builtin.max_,Builtin.max2]
theorem exec_minE {o:Oper} {a:Act} {w:World} {u v r:Int} (x y:Operand) (tys:Array TypeId) (ho:o.op=.call { callee:=.builtin .min,args:=#[x,y],argTypes:=tys }) (hx:a.eval x=.int .i64 u) (hy:a.eval y=.int .i64 v) (hr:(if v<u then v else u)=r):(execOp a.eval o).run Tryz.prog w=.ok (.value (.int .i64 r)) w:=by
 subst hr;unfold execOp;simp [ho,hx,hy,resolve,invoke,builtin,Builtin.min_,Builtin.min2]
def rowN (w:World) (b n:Nat) (φ:Nat→Nat):Prop:=w.rowIs b 3 n (fun j=>.int .i64 ((φ j:Nat):Int))
theorem rowN.set {w:World} {b n:Nat} {φ:Nat→Nat} (h:rowN w b n φ) (p v:Nat):rowN (w.setCell ⟨b,p,none⟩ (.int .i64 ((v:Nat):Int))) b n (Bk.upd φ p v) :=
 (World.rowIs.set h p _).congr fun i _=>by
  by_cases e:i=p
  ·subst e; rw [if_pos rfl,Bk.upd_at]
  ·rw [if_neg e,Bk.upd_ne e]
theorem rowN.kp {M:Nat→Prop} {w w':World} {b n:Nat} {φ:Nat→Nat} (h:rowN w b n φ) (hk:Rg.Kp M w w') (hM:¬ M b):rowN w' b n φ:=rowIs_kp h hk hM
theorem rowN.cell {w:World} {b n:Nat} {φ:Nat→Nat} (h:rowN w b n φ) {j y:Nat} (hj:j<n) (e:φ j=y):w.cell? ⟨b,0+j,none⟩=some (.int .i64 ((y:Nat):Int)):=by rw [Nat.zero_add,← e]; exact World.rowIs.cell h hj
theorem rowN.fro {w:World} {b n:Nat} {φ:Nat→Nat} (h:rowN w b n φ) (j:Nat):w.frozen? ⟨b,0+j,none⟩=false:=by rw [Nat.zero_add]; exact World.rowIs.frozen h j
theorem kp_set1 {b:Nat} {w W:World} (h:Rg.Kp (fun z=>z=b) w W) (o:Nat) (v:Value):Rg.Kp (fun z=>z=b) w (W.setCell ⟨b,o,none⟩ v):=Rg.Kp.trans (M:=fun z=>z=b) h (Rg.Kp.of_setCell (M:=fun z=>z=b) (a:=⟨b,o,none⟩) (v:=v) rfl) (fun _ _ e=>e)
theorem root_any (fb n c:Nat) (φ:Nat→Nat) (p:Nat) (w:World) (hrow:rowN w fb n φ) (hfo:Bk.Fo n φ) (hp:p<n) (hn:n≤1000) (hc:n≤c) :
  Calls Tryz.prog 243 #[.slice (some ⟨fb,0,none⟩) n c,.int .i64 ((p:Nat):Int)] w fun e w'=>∃ φ',e=.returned (.int .i64 ((Bk.rt φ p:Nat):Int))∧rowN w' fb n φ'∧Bk.Same n φ φ'∧Rg.Kp (fun z=>z=fb) w w':=by
 have R0:=ι hrow;have HS:=ι (Bk.Same.refl hfo);have K0:=ι (Rg.Kp.refl (fun z=>z=fb) w);obtain ⟨r,hr⟩:∃ r,Hid (Bk.rt φ p=r):=⟨_,ι rfl⟩;rw [hr.out];clear hrow hfo
 go_enter Tryz.func243,Tryz.ntmps243
 go_wp2
 go_loopw [1] (fun v wr=>∃ (q:Nat) (φ':Nat→Nat),v=.int .i64 ((q:Nat):Int)∧q<n∧Hid (rowN wr fb n φ')∧Hid (Bk.Same n φ φ')∧Hid (Bk.rt φ q=r)∧Hid (Rg.Kp (fun z=>z=fb) w wr)) (fun v _=>(intOf v).toNat)
 case atStart=>exact ⟨p,φ,rfl,hp,R0,HS,hr,K0⟩
 case round =>
  clear R0 HS hr K0;obtain ⟨q,φ',rfl,hq,R0,HS,HR,K0⟩:=hrel;have hq1:=HS.out.fo q hq;have hq2:=HS.out.fo (φ' q) (by omega);obtain ⟨y,hy⟩:∃ y,Hid (φ' q=y):=⟨_,ι rfl⟩;rw [hy.out] at hq1 hq2;obtain ⟨z,hz⟩:∃ z,Hid (φ' y=z):=⟨_,ι rfl⟩;rw [hz.out] at hq2
  have hyn:y<n:=by omega
  have C1:=ι (R0.out.cell hq hy.out);have C2:=ι (R0.out.cell hyn hz.out);have F1:=ι (R0.out.fro q)
  by_cases hyq:y=q
  case pos =>
   subst hyq;have HP:=ι (show y=r by rw [← HR.out,← HS.out.rts y hq]; exact (Bk.rt_root hy.out).symm);go_upto_region 1 with (fail);refine wp_region_list ?_;refine Rg.lm 5 (.slice (some ⟨fb,0,none⟩) n c) ?_;go_frame;refine Rg.lm 6 (.int .i64 ((y:Nat):Int)) ?_;go_frame;refine Rg.lr 7 (exec_indexS slForest _ _ rfl fb (0) (n) c (y) rfl rfl hq) ?_;go_frame;refine Rg.lr 8 (Rg.exec_load (v:=.int .i64 ((y:Nat):Int)) _ _ rfl ⟨fb,0+y,none⟩ rfl (run_loadInt C1.out)) ?_;go_frame;refine Rg.lm 9 (.int .i64 ((y:Nat):Int)) ?_;go_frame;refine Rg.lr 10 (exec_bin (R:=.bool false) .neq _ _ _ rfl rfl rfl (b_neqB _ (decide_eq_false (fun h=>h rfl)))) ?_;go_frame;go_upto_region 4 with (fail);refine wp_region_list ?_;refine Rg.lm 25 (.int .i64 ((y:Nat):Int)) ?_;go_frame;refine Rg.la 4 (.int .i64 ((y:Nat):Int)) ?_;go_frame;go_wp2;go_ret;exact ⟨φ',by rw [HP.out]; rfl,R0.out,HS.out,K0.out⟩
  case neg =>
   have hlt:y<q:=by omega
   have HS2:=ι (HS.out.trans (Bk.halve HS.out.fo hq));rw [hy.out,hz.out] at HS2;have hrow2:=rowN.set R0.out q z
   have HR2:=ι (show Bk.rt φ z=r by
    rw [← HS.out.rts z (by omega),← hz.out,Bk.rt_step HS.out.fo hyn,← hy.out,Bk.rt_step HS.out.fo hq,HS.out.rts q hq,HR.out])
   have K2:=ι (kp_set1 K0.out q (.int .i64 ((z:Nat):Int)))
   have hzn:z<n:=by omega
   go_upto_region 1 with (fail);refine wp_region_list ?_;refine Rg.lm 5 (.slice (some ⟨fb,0,none⟩) n c) ?_;go_frame;refine Rg.lm 6 (.int .i64 ((q:Nat):Int)) ?_;go_frame;refine Rg.lr 7 (exec_indexS slForest _ _ rfl fb (0) (n) c (q) rfl rfl hq) ?_;go_frame;refine Rg.lr 8 (Rg.exec_load (v:=.int .i64 ((y:Nat):Int)) _ _ rfl ⟨fb,0+q,none⟩ rfl (run_loadInt C1.out)) ?_;go_frame;refine Rg.lm 9 (.int .i64 ((q:Nat):Int)) ?_;go_frame;refine Rg.lr 10 (exec_bin (R:=.bool true) .neq _ _ _ rfl rfl rfl (b_neqB _ (decide_eq_true (by omega)))) ?_;go_frame;go_upto_region 2 with (fail);refine wp_region_list ?_;refine Rg.lm 11 (.slice (some ⟨fb,0,none⟩) n c) ?_;go_frame;refine Rg.lm 12 (.int .i64 ((q:Nat):Int)) ?_;go_frame;refine Rg.lm 13 (.slice (some ⟨fb,0,none⟩) n c) ?_;go_frame;refine Rg.lm 14 (.slice (some ⟨fb,0,none⟩) n c) ?_;go_frame;refine Rg.lm 15 (.int .i64 ((q:Nat):Int)) ?_;go_frame
   refine Rg.lr 16 (exec_indexS slForest _ _ rfl fb (0) (n) c (q) rfl rfl hq) ?_;go_frame;refine Rg.lr 17 (Rg.exec_load (v:=.int .i64 ((y:Nat):Int)) _ _ rfl ⟨fb,0+q,none⟩ rfl (run_loadInt C1.out)) ?_;go_frame;refine Rg.lr 18 (exec_indexS slForest _ _ rfl fb (0) (n) c (y) rfl rfl hyn) ?_;go_frame;refine Rg.lr 19 (Rg.exec_load (v:=.int .i64 ((z:Nat):Int)) _ _ rfl ⟨fb,0+y,none⟩ rfl (run_loadInt C2.out)) ?_;go_frame;refine Rg.lr 20 (exec_indexS slForest _ _ rfl fb (0) (n) c (q) rfl rfl hq) ?_;go_frame;refine Rg.list_skip none rfl rfl (Rg.exec_store _ _ _ rfl _ rfl _ rfl (run_storeIntB _ C1.out F1.out)) ?_;go_frame;rw [Nat.zero_add] at F1;have hc3:(wr.setCell ⟨fb,0+q,none⟩ (.int .i64 ((z:Nat):Int))).cell? ⟨fb,0+q,none⟩=some (.int .i64 ((z:Nat):Int)):=World.cell?_setCell_same (h:=C1.out) ..;have hz0:0+q=q:=Nat.zero_add q;have R2:=ι (show rowN (wr.setCell ⟨fb,0+q,none⟩ (.int .i64 ((z:Nat):Int))) fb n (Bk.upd φ' q z) by rw [hz0]; exact hrow2)
   have K3:=ι (show Rg.Kp (fun z=>z=fb) w (wr.setCell ⟨fb,0+q,none⟩ (.int .i64 ((z:Nat):Int))) by rw [hz0]; exact K2.out);have C3:=ι hc3;generalize wr.setCell ⟨fb,0+q,none⟩ (.int .i64 ((z:Nat):Int))=w3 at *;clear hrow2 hc3 hz0 K2 R0 K0 C1 C2;go_upto_region 3 with (fail);refine wp_region_list ?_;refine Rg.lm 21 (.slice (some ⟨fb,0,none⟩) n c) ?_;go_frame;refine Rg.lm 22 (.int .i64 ((q:Nat):Int)) ?_;go_frame;refine Rg.lr 23 (exec_indexS slForest _ _ rfl fb (0) (n) c (q) rfl rfl hq) ?_;go_frame;refine Rg.lr 24 (Rg.exec_load (v:=.int .i64 ((z:Nat):Int)) _ _ rfl ⟨fb,0+q,none⟩ rfl (run_loadInt C3.out)) ?_;go_frame;refine Rg.la 1 (.int .i64 ((z:Nat):Int)) ?_;go_frame;go_wp2
   go_roundw
   case rel=>exact ⟨z,_,rfl,hzn,R2,HS2,HR2,K3⟩
   case measure=>simp [intOf]; omega
theorem unite_any (fb n c:Nat) (φ:Nat→Nat) (a b:Nat) (w:World) (hrow:rowN w fb n φ) (hfo:Bk.Fo n φ) (ha:a<n) (hb:b<n) (hn:n≤1000) (hc:n≤c) :
  Calls Tryz.prog 168 #[.slice (some ⟨fb,0,none⟩) n c,.int .i64 ((a:Nat):Int),.int .i64 ((b:Nat):Int)] w fun e w'=>∃ φ' r,e=.returned (.bool r)∧rowN w' fb n φ'∧Bk.Uni n φ φ' a b r∧Rg.Kp (fun z=>z=fb) w w':=by
 have R0:=ι hrow;have HF:=ι hfo;have hla:=Bk.rt_le hfo a ha;have hlb:=Bk.rt_le hfo b hb;obtain ⟨x,hx⟩:∃ x,Hid (Bk.rt φ a=x):=⟨_,ι rfl⟩;obtain ⟨y,hy⟩:∃ y,Hid (Bk.rt φ b=y):=⟨_,ι rfl⟩;rw [hx.out] at hla;rw [hy.out] at hlb
 have hxn:x<n:=by omega
 have hyn:y<n:=by omega
 clear hrow hfo
 go_enter Tryz.func168,Tryz.ntmps168
 go_upto_region 0 with (fail);refine wp_region_list ?_;refine Rg.la 6 (.bool false) ?_;go_frame;go_upto_region 1 with (fail);refine wp_region_list ?_;refine Rg.lm 7 (.slice (some ⟨fb,0,none⟩) n c) ?_;go_frame;refine Rg.lm 8 (.int .i64 ((a:Nat):Int)) ?_;go_frame;refine list_ask (some 9) rfl rfl _ _ (exec_fn 243 _ _ _ rfl rfl rfl (Hccl0 _ _)) ?_;refine (root_any fb n c φ a w R0.out HF.out ha hn hc).mono ?_;rintro e1 w1 ⟨φ1,rfl,h1,h2,h3⟩;rw [hx.out];have R1:=ι h1;have S1:=ι h2;have K1:=ι h3;have h3b:=h3;clear h1 h2 h3;refine ⟨_,rfl,?_⟩;go_frame;clear h3b;refine Rg.lm 10 (.slice (some ⟨fb,0,none⟩) n c) ?_;go_frame;refine Rg.lm 11 (.int .i64 ((b:Nat):Int)) ?_;go_frame;refine list_ask (some 12) rfl rfl _ _ (exec_fn 243 _ _ _ rfl rfl rfl (Hccl0 _ _)) ?_;refine (root_any fb n c φ1 b w1 R1.out S1.out.fo hb hn hc).mono ?_;rintro e1 w2 ⟨φ2,rfl,h1,h2,h3⟩;rw [S1.out.rts b hb,hy.out]
 have R2:=ι h1;have S2:=ι (S1.out.trans h2);have K2:=ι (Rg.Kp.trans (M:=fun z=>z=fb) K1.out h3 (fun _ _ e=>e));have h3b:=h3;clear h1 h2 h3 R1 S1 K1;refine ⟨_,rfl,?_⟩;go_frame;clear h3b;refine Rg.la 1 (.int .i64 ((x:Nat):Int)) ?_;go_frame;refine Rg.la 2 (.int .i64 ((y:Nat):Int)) ?_;go_frame;have HX2:=ι (show Bk.rt φ2 a=x by rw [S2.out.rts a ha,hx.out]);have HY2:=ι (show Bk.rt φ2 b=y by rw [S2.out.rts b hb,hy.out])
 rcases Nat.lt_trichotomy y x with hxy | hxy | hxy
 case inl =>
  skip
  have C1:=ι (R2.out.cell hxn rfl);have F1:=ι (R2.out.fro x);have hrow:=rowN.set R2.out x y;have hu:=Bk.Uni.link1 (a:=a) (b:=b) S2.out.fo ha hb (by rw [HX2.out,HY2.out]; exact hxy);rw [HX2.out,HY2.out] at hu;have HU:=ι (hu.before S2.out ha hb);have K3:=ι (kp_set1 K2.out (0+x) (.int .i64 ((y:Nat):Int)));have hz0:0+x=x:=Nat.zero_add _;have R3:=ι (show rowN (w2.setCell ⟨fb,0+x,none⟩ (.int .i64 ((y:Nat):Int))) fb n (Bk.upd φ2 x y) by rw [hz0]; exact hrow);clear hrow hu hz0;go_upto_region 2 with (fail);refine wp_region_list ?_;refine Rg.lm 13 (.int .i64 ((x:Nat):Int)) ?_;go_frame;refine Rg.lm 14 (.int .i64 ((y:Nat):Int)) ?_;go_frame;refine Rg.lr 15 (exec_bin (R:=.bool false) .eql _ _ _ rfl rfl rfl (b_eql _ (decide_eq_false (by omega)))) ?_;go_frame;go_upto_region 4 with (fail);refine wp_region_list ?_;refine Rg.lm 16 (.slice (some ⟨fb,0,none⟩) n c) ?_;go_frame
  refine Rg.lm 17 (.int .i64 ((x:Nat):Int)) ?_;go_frame;refine Rg.lm 18 (.int .i64 ((y:Nat):Int)) ?_;go_frame;refine Rg.lr 19 (exec_maxE (r:=((x:Nat):Int)) _ _ _ rfl rfl rfl (by split <;> omega)) ?_;go_frame;refine Rg.lm 20 (.int .i64 ((x:Nat):Int)) ?_;go_frame;refine Rg.lm 21 (.int .i64 ((y:Nat):Int)) ?_;go_frame;refine Rg.lr 22 (exec_minE (r:=((y:Nat):Int)) _ _ _ rfl rfl rfl (by split <;> omega)) ?_;go_frame;refine Rg.lr 23 (exec_indexS slForest _ _ rfl fb (0) (n) c (x) rfl rfl hxn) ?_;go_frame;refine Rg.list_skip none rfl rfl (Rg.exec_store _ _ _ rfl _ rfl _ rfl (run_storeIntB _ C1.out F1.out)) ?_;go_frame;go_upto_region 5 with (fail);refine wp_region_list ?_;refine Rg.la 6 (.bool true) ?_;go_frame;go_wp2;go_ret;exact ⟨_,true,rfl,R3.out,HU.out,K3.out⟩
 case inr.inl =>
  subst hxy;have HU:=ι (Bk.Uni.same S2.out ha hb (by rw [hx.out,hy.out]));go_upto_region 2 with (fail);refine wp_region_list ?_;refine Rg.lm 13 (.int .i64 ((y:Nat):Int)) ?_;go_frame;refine Rg.lm 14 (.int .i64 ((y:Nat):Int)) ?_;go_frame;refine Rg.lr 15 (exec_bin (R:=.bool true) .eql _ _ _ rfl rfl rfl (b_eql _ (decide_eq_true rfl))) ?_;go_frame;go_upto_region 3 with (fail);refine wp_region_list ?_;refine Rg.la 6 (.bool false) ?_;go_frame;go_wp2;go_ret;exact ⟨_,false,rfl,R2.out,HU.out,K2.out⟩
 case inr.inr =>
  skip
  have C1:=ι (R2.out.cell hyn rfl);have F1:=ι (R2.out.fro y);have hrow:=rowN.set R2.out y x;have hu:=Bk.Uni.link1 (a:=b) (b:=a) S2.out.fo hb ha (by rw [HX2.out,HY2.out]; exact hxy);rw [HX2.out,HY2.out] at hu;have HU:=ι ((hu.before S2.out hb ha).flip);have K3:=ι (kp_set1 K2.out (0+y) (.int .i64 ((x:Nat):Int)));have hz0:0+y=y:=Nat.zero_add _;have R3:=ι (show rowN (w2.setCell ⟨fb,0+y,none⟩ (.int .i64 ((x:Nat):Int))) fb n (Bk.upd φ2 y x) by rw [hz0]; exact hrow);clear hrow hu hz0;go_upto_region 2 with (fail);refine wp_region_list ?_;refine Rg.lm 13 (.int .i64 ((x:Nat):Int)) ?_;go_frame;refine Rg.lm 14 (.int .i64 ((y:Nat):Int)) ?_;go_frame;refine Rg.lr 15 (exec_bin (R:=.bool false) .eql _ _ _ rfl rfl rfl (b_eql _ (decide_eq_false (by omega)))) ?_;go_frame;go_upto_region 4 with (fail);refine wp_region_list ?_;refine Rg.lm 16 (.slice (some ⟨fb,0,none⟩) n c) ?_;go_frame
  refine Rg.lm 17 (.int .i64 ((x:Nat):Int)) ?_;go_frame;refine Rg.lm 18 (.int .i64 ((y:Nat):Int)) ?_;go_frame;refine Rg.lr 19 (exec_maxE (r:=((y:Nat):Int)) _ _ _ rfl rfl rfl (by split <;> omega)) ?_;go_frame;refine Rg.lm 20 (.int .i64 ((x:Nat):Int)) ?_;go_frame;refine Rg.lm 21 (.int .i64 ((y:Nat):Int)) ?_;go_frame;refine Rg.lr 22 (exec_minE (r:=((x:Nat):Int)) _ _ _ rfl rfl rfl (by split <;> omega)) ?_;go_frame;refine Rg.lr 23 (exec_indexS slForest _ _ rfl fb (0) (n) c (y) rfl rfl hyn) ?_;go_frame;refine Rg.list_skip none rfl rfl (Rg.exec_store _ _ _ rfl _ rfl _ rfl (run_storeIntB _ C1.out F1.out)) ?_;go_frame;go_upto_region 5 with (fail);refine wp_region_list ?_;refine Rg.la 6 (.bool true) ?_;go_frame;go_wp2;go_ret;exact ⟨_,true,rfl,R3.out,HU.out,K3.out⟩
theorem newForest_any (n:Nat) (w:World) (hn:n≤1000) :
  Calls Tryz.prog 167 #[.int .i64 ((n:Nat):Int)] w fun e w'=>∃ fb φ,e=.returned (.slice (some ⟨fb,0,none⟩) n n)∧w.heap.size≤fb∧fb<w'.heap.size∧rowN w' fb n φ∧(∀ i,i<n→φ i=i)∧Below w.heap.size w w':=by
 have hmk:=mkForest n (by omega) w;have hrow:=ι (World.rowIs_made w (.int .i64 0) n 3)
 go_enter Tryz.func167,Tryz.ntmps167
 go_wp2
 go_loopw [9] (fun i wr=>∃ k:Nat,k≤n∧i=.int .i64 k∧Hid (rowN wr w.heap.size n (fun j=>if j<k then j else 0))∧Hid (w.heap.size<wr.heap.size)∧Hid (Below w.heap.size w wr)) (fun i _=>n - (intOf i).toNat)
 case atStart=>exact ⟨0,by omega,rfl,ι (hrow.out.congr (fun i hi=>by simp)),ι (by simp),ι ((Below.refl _ _).alloc (Nat.le_refl _) _)⟩
 case round =>
  obtain ⟨k,hk,rfl,hs,hlt0,hbel⟩:=hrel
  by_cases hlt:k<n
  ·have c1:wr.cell? ⟨w.heap.size,k,none⟩=some (.int .i64 (((if k<k then k else 0:Nat)):Int)):=World.rowIs.cell hs.out hlt
   have f1:wr.frozen? ⟨w.heap.size,k,none⟩=false:=World.rowIs.frozen hs.out k;simp only [Nat.lt_irrefl,if_false] at c1;have hrow2:=rowN.set hs.out k k
   have R2:=ι (World.rowIs.congr hrow2 (g:=fun j=>.int .i64 (((if j<k+1 then j else 0:Nat)):Int)) (fun i _=>by
    show Value.int .i64 ((Bk.upd _ k k i:Nat):Int)=_;unfold Bk.upd
    by_cases e:i=k
    ·subst e; simp
    ·rw [if_neg e]
     dsimp only
     by_cases e2:i<k
     ·rw [if_pos e2,if_pos (by omega)]
     ·rw [if_neg e2,if_neg (by omega)]))
   have HB2:=ι (hbel.out.setCell (p:=⟨w.heap.size,k,none⟩) (Nat.le_refl _) (.int .i64 ((k:Nat):Int)));have HL2:=ι (show w.heap.size<(wr.setCell ⟨w.heap.size,k,none⟩ (.int .i64 ((k:Nat):Int))).heap.size by simpa using hlt0.out);clear hrow2;go_wp2
   go_roundw
   case rel=>exact ⟨k+1,by omega,by go_num,R2,HL2,HB2⟩
   case measure=>simp [intOf]; omega
  ·obtain rfl:k=n:=by omega
   go_wp2;go_ret;exact ⟨_,_,rfl,Nat.le_refl _,hlt0.out,hs.out,fun i hi=>if_pos hi,hbel.out⟩
theorem ifL_push (L:List Nat) (x:Nat) (j:Nat):(if j=L.length then x else if j<L.length then L.getD j 0 else 0)=if j<(L++[x]).length then (L++[x]).getD j 0 else 0:=by
 rw [List.length_append,List.length_singleton]
 by_cases e:j=L.length
 ·subst e; rw [if_pos rfl,if_pos (by omega),Bk.getD_last]
 ·rw [if_neg e]
  by_cases e2:j<L.length
  ·rw [if_pos e2,if_pos (by omega),Bk.getD_snoc e2]
  ·rw [if_neg e2,if_neg (by omega)]
structure LbM (w:World) (fb ob n:Nat) (φ:Nat→Nat) (W:World) (φ':Nat→Nat) (L:List Nat):Prop where
 f:rowN W fb n φ'
 o:rowN W ob n (fun j=>if j<L.length then L.getD j 0 else 0)
 s:Bk.Same n φ φ'
 lb:Bk.LbI n φ' L
 k:Rg.Kp (fun z=>z=fb) w W
 lo:w.heap.size≤ob
theorem LbM.root {w:World} {fb ob n:Nat} {φ:Nat→Nat} {W W':World} {φ' φ2:Nat→Nat} {L:List Nat} (h:LbM w fb ob n φ W φ' L) (hl:L.length≤n) (hne:ob≠fb) (h1:rowN W' fb n φ2) (h2:Bk.Same n φ' φ2) (h3:Rg.Kp (fun z=>z=fb) W W'):LbM w fb ob n φ W' φ2 L :=
 ⟨h1,h.o.kp h3 hne,h.s.trans h2,h.lb.same h2 hl,Rg.Kp.trans (M:=fun z=>z=fb) h.k h3 (fun _ _ e=>e),h.lo⟩
theorem LbM.put {w:World} {fb ob n:Nat} {φ:Nat→Nat} {W:World} {φ':Nat→Nat} {L:List Nat} {x:Nat} (h:LbM w fb ob n φ W φ' L) (hne:ob≠fb) (hx:Bk.LbI n φ' (L++[x])):LbM w fb ob n φ (W.setCell ⟨ob,L.length,none⟩ (.int .i64 ((x:Nat):Int))) φ' (L++[x]):=by
 have hk:Rg.Kp (fun z=>z=ob) W (W.setCell ⟨ob,L.length,none⟩ (.int .i64 ((x:Nat):Int))):=Rg.Kp.of_setCell rfl;refine ⟨h.f.kp hk (fun e=>hne e.symm),?_,h.s,hx,Rg.Kp.trans (M:=fun z=>z=fb) h.k hk (fun k hk' e=>by have:=h.lo; omega),h.lo⟩
 exact World.rowIs.congr (rowN.set h.o L.length x) (fun i _=>by
  show Value.int .i64 ((Bk.upd _ _ _ i:Nat):Int)=_;unfold Bk.upd
  rw [ifL_push])
theorem labels_any (fb n c:Nat) (φ:Nat→Nat) (w:World) (hrow:rowN w fb n φ) (hfo:Bk.Fo n φ) (hfb:fb<w.heap.size) (hn:n≤1000) (hc:n≤c) :
  Calls Tryz.prog 170 #[.slice (some ⟨fb,0,none⟩) n c] w fun e w'=>∃ ob L,e=.returned (.slice (some ⟨ob,0,none⟩) n n)∧w.heap.size≤ob∧ob<w'.heap.size∧rowN w' ob n (fun j=>L.getD j 0)∧Bk.IsLab n (fun i j=>Bk.rt φ i=Bk.rt φ j) L∧Rg.Kp (fun z=>z=fb) w w':=by
 have hmk:=mkIntsB n (by omega) w;have hb0:Below w.heap.size w (w.alloc (.cells (madeCells #[.int .i64 0] n) 3)):=(Below.refl _ _).alloc (Nat.le_refl _) _;have hro:rowN (w.alloc (.cells (madeCells #[.int .i64 0] n) 3)) w.heap.size n (fun j=>if j<([]:List Nat).length then ([]:List Nat).getD j 0 else 0):=(World.rowIs_made w (.int .i64 0) n 3).congr (fun i _=>by simp);have hkp:Rg.Kp (fun z=>z=fb) w (w.alloc (.cells (madeCells #[.int .i64 0] n) 3)):=(Rg.Kp.of_below hb0).weak fun _=>False.elim;have LM:=ι (show LbM w fb w.heap.size n φ (w.alloc (.cells (madeCells #[.int .i64 0] n) 3)) φ [] from ⟨hrow.kp (Rg.Kp.of_below hb0 (M:=fun _=>False)) id,hro,Bk.Same.refl hfo,Bk.LbI.start φ,hkp,Nat.le_refl _⟩);have HNE:=ι (show w.heap.size≠fb by omega);have HFB:=ι hfb;have HMK:=ι hmk;clear hb0 hro hkp hrow hfo hmk
 go_enter Tryz.func170,Tryz.ntmps170
 have hmk:=HMK.out;go_wp2;clear hmk HMK;generalize w.alloc (.cells (madeCells #[.int .i64 0] n) 3)=w0 at *
 go_loopw [4,12] (fun mv iv wr=>∃ (φ':Nat→Nat) (L:List Nat) (i m:Nat),iv=.int .i64 ((i:Nat):Int)∧mv=.int .i64 ((m:Nat):Int)∧i≤n∧Hid (L.length=i∧Bk.mny L 0=m)∧Hid (LbM w fb w.heap.size n φ wr φ' L)) (fun _ iv _=>n - (intOf iv).toNat)
 case atStart=>exact ⟨φ,[],0,0,rfl,rfl,Nat.zero_le _,ι ⟨rfl,rfl⟩,LM⟩
 case round =>
  clear LM;obtain ⟨φ',L,i,m,rfl,rfl,hi,HL,LM⟩:=hrel
  by_cases hin:i<n
  case neg =>
   obtain rfl:i=n:=by omega
   go_wp2;go_ret;refine ⟨_,L,rfl,LM.out.lo,?_,LM.out.o.congr (fun j hj=>by dsimp only; rw [HL.out.1,if_pos hj]),(LM.out.lb.lab HL.out.1 fun a b ha hb=>?_),LM.out.k⟩
   ·obtain ⟨c',h1,_⟩:=LM.out.o
    exact (Array.getElem?_eq_some_iff.1 h1).1
   ·rw [LM.out.s.rts a ha,LM.out.s.rts b hb]
  case pos =>
   have hil:L.length<n:=by rw [HL.out.1]; exact hin
   have hle:=Bk.rt_le LM.out.s.fo i hin;obtain ⟨r,hr⟩:∃ r,Hid (Bk.rt φ' i=r):=⟨_,ι rfl⟩;rw [hr.out] at hle;go_upto_region 4 with (fail);refine wp_region_list ?_;refine Rg.lr 13 (exec_bin (R:=.bool true) .lss _ _ _ rfl rfl rfl (b_lss _ (decide_eq_true (by omega)))) ?_;go_frame;go_upto_region 5 with (fail);refine wp_region_list ?_;refine Rg.lm 14 (.int .i64 ((i:Nat):Int)) ?_;go_frame;refine Rg.la 5 (.int .i64 ((i:Nat):Int)) ?_;go_frame;go_upto_region 6 with (fail);refine wp_region_list ?_;refine Rg.lm 15 (.slice (some ⟨fb,0,none⟩) n c) ?_;go_frame;refine Rg.lm 16 (.int .i64 ((i:Nat):Int)) ?_;go_frame;refine list_ask (some 17) rfl rfl _ _ (exec_fn 243 _ _ _ rfl rfl rfl (Hccl0 _ _)) ?_;refine (root_any fb n c φ' i wr LM.out.f LM.out.s.fo hin hn hc).mono ?_;rintro e1 w1 ⟨φ1,rfl,h1,h2,h3⟩;rw [hr.out];have L1:=ι (LM.out.root (Nat.le_of_lt hil) HNE.out h1 h2 h3);have HRR:=ι (show Bk.rt φ1 L.length=r by rw [HL.out.1,h2.rts i hin,hr.out])
   have h3b:=h3;clear h1 h2 h3 LM;refine ⟨_,rfl,?_⟩;go_frame;clear h3b;refine Rg.la 6 (.int .i64 ((r:Nat):Int)) ?_;go_frame;have C1:=ι (L1.out.o.cell hin rfl);have F1:=ι (L1.out.o.fro i)
   by_cases hri:r=i
   case pos =>
    subst hri;obtain ⟨q1,q2⟩:=Bk.LbI.new L1.out.s.fo L1.out.lb hil (by rw [HRR.out,HL.out.1]);rw [HL.out.2] at q1 q2;have L2:=L1.out.put HNE.out q1;rw [HL.out.1] at L2;have LM2:=ι (show LbM w fb w.heap.size n φ (w1.setCell ⟨w.heap.size,0+r,none⟩ (.int .i64 ((m:Nat):Int))) φ1 (L++[m]) by rw [Nat.zero_add]; exact L2);have HL2:=ι (show (L++[m]).length=r+1∧Bk.mny (L++[m]) 0=m+1 from ⟨by rw [List.length_append,HL.out.1]; rfl,q2⟩)
    have hm:m≤n:=by
     have h1:=Bk.mny_le L 0;have:=HL.out;omega
    clear L2 q1 q2 HRR;go_upto_region 7 with (fail);refine wp_region_list ?_;refine Rg.lm 18 (.int .i64 ((r:Nat):Int)) ?_;go_frame;refine Rg.lm 19 (.int .i64 ((r:Nat):Int)) ?_;go_frame;refine Rg.lr 20 (exec_bin (R:=.bool true) .eql _ _ _ rfl rfl rfl (b_eql _ (decide_eq_true rfl))) ?_;go_frame;go_upto_region 8 with (fail);refine wp_region_list ?_;refine Rg.lm 21 (.slice (some ⟨w.heap.size,0,none⟩) n n) ?_;go_frame;refine Rg.lm 22 (.int .i64 ((r:Nat):Int)) ?_;go_frame;refine Rg.lm 23 (.int .i64 ((m:Nat):Int)) ?_;go_frame;refine Rg.lr 24 (exec_indexS slInts _ _ rfl w.heap.size (0) (n) n (r) rfl rfl hin) ?_;go_frame;refine Rg.list_skip none rfl rfl (Rg.exec_store _ _ _ rfl _ rfl _ rfl (run_storeIntB _ C1.out F1.out)) ?_;go_frame;go_upto_region 9 with (fail);refine wp_region_list ?_;refine Rg.lm 25 (.int .i64 ((m:Nat):Int)) ?_;go_frame;refine Rg.lr 26 (exec_bin (R:=.int .i64 (((m+1):Nat):Int)) .add _ _ _ rfl rfl rfl (b_add _ (by omega) (by omega))) ?_;go_frame
    refine Rg.la 4 (.int .i64 (((m+1):Nat):Int)) ?_;go_frame;go_upto_region 11 with (fail);refine wp_region_list ?_;refine Rg.lr 34 (exec_bin (R:=.int .i64 (((r+1):Nat):Int)) .add _ _ _ rfl rfl rfl (b_add _ (by omega) (by omega))) ?_;go_frame;refine Rg.lm 12 (.int .i64 (((r+1):Nat):Int)) ?_;go_frame;go_wp2
    go_roundw
    case rel=>exact ⟨φ1,L++[m],r+1,m+1,rfl,rfl,by omega,HL2,LM2⟩
    case measure=>simp [intOf]; omega
   case neg =>
    have hrl:r<L.length:=by rw [HL.out.1]; omega
    have hrn:r<n:=by omega
    obtain ⟨x,hx⟩:∃ x,Hid (L.getD r 0=x):=⟨_,ι rfl⟩;have C2:=ι (L1.out.o.cell (y:=x) hrn (by show (if r<L.length then L.getD r 0 else 0)=x; rw [if_pos hrl,hx.out]));obtain ⟨q1,q2⟩:=Bk.LbI.old L1.out.s.fo L1.out.lb hil (by rw [HRR.out]; exact hrl);rw [HRR.out,hx.out] at q1 q2;rw [HL.out.2] at q2;have L2:=L1.out.put HNE.out q1;rw [HL.out.1] at L2;have LM2:=ι (show LbM w fb w.heap.size n φ (w1.setCell ⟨w.heap.size,0+i,none⟩ (.int .i64 ((x:Nat):Int))) φ1 (L++[x]) by rw [Nat.zero_add]; exact L2);have HL2:=ι (show (L++[x]).length=i+1∧Bk.mny (L++[x]) 0=m from ⟨by rw [List.length_append,HL.out.1]; rfl,q2⟩);clear L2 q1 q2 HRR hx;go_upto_region 7 with (fail);refine wp_region_list ?_;refine Rg.lm 18 (.int .i64 ((r:Nat):Int)) ?_;go_frame;refine Rg.lm 19 (.int .i64 ((i:Nat):Int)) ?_;go_frame;refine Rg.lr 20 (exec_bin (R:=.bool false) .eql _ _ _ rfl rfl rfl (b_eql _ (decide_eq_false (by omega)))) ?_;go_frame
    go_upto_region 10 with (fail);refine wp_region_list ?_;refine Rg.lm 27 (.slice (some ⟨w.heap.size,0,none⟩) n n) ?_;go_frame;refine Rg.lm 28 (.int .i64 ((i:Nat):Int)) ?_;go_frame;refine Rg.lm 29 (.slice (some ⟨w.heap.size,0,none⟩) n n) ?_;go_frame;refine Rg.lm 30 (.int .i64 ((r:Nat):Int)) ?_;go_frame;refine Rg.lr 31 (exec_indexS slInts _ _ rfl w.heap.size (0) (n) n (r) rfl rfl hrn) ?_;go_frame;refine Rg.lr 32 (Rg.exec_load (v:=.int .i64 ((x:Nat):Int)) _ _ rfl ⟨w.heap.size,0+r,none⟩ rfl (run_loadInt C2.out)) ?_;go_frame;refine Rg.lr 33 (exec_indexS slInts _ _ rfl w.heap.size (0) (n) n (i) rfl rfl hin) ?_;go_frame;refine Rg.list_skip none rfl rfl (Rg.exec_store _ _ _ rfl _ rfl _ rfl (run_storeIntB _ C1.out F1.out)) ?_;go_frame;go_upto_region 11 with (fail);refine wp_region_list ?_;refine Rg.lr 34 (exec_bin (R:=.int .i64 (((i+1):Nat):Int)) .add _ _ _ rfl rfl rfl (b_add _ (by omega) (by omega))) ?_;go_frame
    refine Rg.lm 12 (.int .i64 (((i+1):Nat):Int)) ?_;go_frame;go_wp2
    go_roundw
    case rel=>exact ⟨φ1,L++[x],i+1,m,rfl,rfl,by omega,HL2,LM2⟩
    case measure=>simp [intOf]; omega
end Go.Proofs.YthehbckogieimaaGreat

namespace Go.Proofs.YthehbckogieimaaGreat
open Go.RowKit
open Go.Proofs
open Go.Proofs.Ob
attribute [local irreducible] Go.Calls
theorem infoPr:(Tryz.prog.info? 108).map (fun i=>(i.zero,i.size,i.bytes))=some (some (.agg #[.int .i64 0,.int .i64 0]),2,16):=by kernel_rfl
theorem szPr:(Tryz.prog.info? 108).map (·.size)=some 2:=by kernel_rfl
def flat2 (T:List (Nat × Nat)):List Value:=T.flatMap fun z=>[.int .i64 ((z.1:Nat):Int),.int .i64 ((z.2:Nat):Int)]
theorem flat2_snoc (T:List (Nat × Nat)) (z:Nat × Nat):flat2 (T++[z])=flat2 T++[.int .i64 ((z.1:Nat):Int),.int .i64 ((z.2:Nat):Int)]:=by unfold flat2; rw [List.flatMap_append]; simp
theorem len_flat2 (T:List (Nat × Nat)):(flat2 T).length=T.length*2:=by
 induction T with
 | nil=>rfl
 | cons z T ih =>
  have h:flat2 (z :: T)=[.int .i64 ((z.1:Nat):Int),.int .i64 ((z.2:Nat):Int)]++flat2 T:=rfl;rw [h,List.length_append,ih,List.length_cons];simp; omega
theorem flat2_at (T:List (Nat × Nat)):∀ (i:Nat) (h:i<T.length),(flat2 T)[i*2]?=some (.int .i64 ((T[i].1:Nat):Int))∧(flat2 T)[i*2+1]?=some (.int .i64 ((T[i].2:Nat):Int)):=by
 induction T with
 | nil=>intro i h; cases h
 | cons z T ih =>
  intro i h;have e:flat2 (z :: T)=[.int .i64 ((z.1:Nat):Int),.int .i64 ((z.2:Nat):Int)]++flat2 T:=rfl
  cases i with
  | zero=>rw [e]; exact ⟨rfl,rfl⟩
  | succ i =>
   have:=ih i (by simpa using h);rw [e,List.getElem?_append_right (by simp; omega),List.getElem?_append_right (by simp; omega)]
   have e1:(i+1)*2 - [Value.int .i64 ((z.1:Nat):Int),.int .i64 ((z.2:Nat):Int)].length=i*2:=by simp; omega
   have e2:(i+1)*2+1 - [Value.int .i64 ((z.1:Nat):Int),.int .i64 ((z.2:Nat):Int)].length=i*2+1:=by simp; omega
   rw [e1,e2];exact this
structure Prs (w:World) (v:Value) (T:List (Nat × Nat)):Prop where
 sh:∃ a c,v=.slice a T.length c∧T.length≤c∧T.length≤1000000000∧(0<T.length→∃ b o,a=some ⟨b,o,none⟩∧b<w.heap.size∧∀ i (h:i<T.length),w.cell? ⟨b,o+i*2,none⟩=some (.int .i64 ((T[i].1:Nat):Int))∧w.cell? ⟨b,o+i*2+1,none⟩=some (.int .i64 ((T[i].2:Nat):Int)))
theorem Prs.below {w w':World} {v:Value} {T:List (Nat × Nat)} (h:Prs w v T) (hb:Below w.heap.size w w'):Prs w' v T:=by
 obtain ⟨a,c,h1,h2,h3,h4⟩:=h.sh;refine ⟨a,c,h1,h2,h3,fun h0=>?_⟩;obtain ⟨b,o,e1,e2,e3⟩:=h4 h0;exact ⟨b,o,e1,Nat.lt_of_lt_of_le e2 hb.size,fun i hi=>⟨(hb.cell (p:=⟨b,o+i*2,none⟩) e2).trans (e3 i hi).1,(hb.cell (p:=⟨b,o+i*2+1,none⟩) e2).trans (e3 i hi).2⟩⟩
theorem Prs.nil (w:World):Prs w (.slice none 0 0) []:=⟨none,0,rfl,Nat.le_refl _,Nat.zero_le _,fun h=>absurd h (Nat.not_lt_zero _)⟩
def Own2 (B:Nat) (w:World) (v:Value) (T:List (Nat × Nat)):Prop:=w.ownsRow B 108 2 v T.length (flat2 T)
theorem Own2.nil (B:Nat) (w:World):Own2 B w (.slice none 0 0) []:=World.ownsRow_nil _ _ _ _
theorem Own2.shape {B:Nat} {w:World} {v:Value} {T:List (Nat × Nat)} (h:Own2 B w v T):∃ a c,v=.slice a T.length c∧T.length≤c:=by
 obtain ⟨_,h2⟩:=h
 rcases h2 with ⟨h3,h4⟩ | ⟨g,cap,cur,h3,_,_,h5,_⟩
 ·exact ⟨none,0,by rw [h3,h4],by omega⟩
 ·exact ⟨_,cap,h3,h5⟩
theorem Own2.lt {B:Nat} {w:World} {v:Value} {T:List (Nat × Nat)} (h:Own2 B w v T):∀ k,v.ownBlock=some k→B≤k∧k<w.heap.size:=fun k e=>World.ownsRow.lt h k e
theorem Own2.kp {M:Nat→Prop} {B:Nat} {w w':World} {v:Value} {T:List (Nat × Nat)} (h:Own2 B w v T) (hk:Rg.Kp M w w') (hM:∀ k,M k→v.ownBlock≠some k):Own2 B w' v T:=rowKp h hk hM
theorem Own2.at {B:Nat} {w:World} {v:Value} {T:List (Nat × Nat)} (h:Own2 B w v T) {i:Nat} (hi:i<T.length):∃ g c,v=.slice (some ⟨g,0,none⟩) T.length c∧g<w.heap.size∧T.length≤c∧w.cell? ⟨g,i*2,none⟩=some (.int .i64 ((T[i].1:Nat):Int))∧w.cell? ⟨g,i*2+1,none⟩=some (.int .i64 ((T[i].2:Nat):Int)):=by
 obtain ⟨h1,h2⟩:=h
 rcases h2 with ⟨h3,h4⟩ | ⟨g,cap,cur,h3,hB,hc,h5,h6,h7,h8⟩
 ·omega
 ·have hl:cur.toList.take (T.length*2)=flat2 T:=h8
  obtain ⟨q1,q2⟩:=flat2_at T i hi;refine ⟨g,cap,h3,(Array.getElem?_eq_some_iff.1 hc).1,h5,?_,?_⟩
  ·rw [cell_of_row w _ _ _ _ _ hc,← Array.getElem?_toList,← q1,← hl,List.getElem?_take_of_lt (by omega)]
  ·rw [cell_of_row w _ _ _ _ _ hc,← Array.getElem?_toList,← q2,← hl,List.getElem?_take_of_lt (by omega)]
theorem Own2.prs {B:Nat} {w:World} {v:Value} {T:List (Nat × Nat)} (h:Own2 B w v T) (hl:T.length≤1000000000):Prs w v T:=by
 obtain ⟨a,c,hs,hc⟩:=h.shape;refine ⟨a,c,hs,hc,hl,fun h0=>?_⟩;obtain ⟨g,c',e,hg,_⟩:=h.at h0;rw [hs] at e;simp only [Value.slice.injEq,true_and] at e;obtain ⟨rfl,rfl⟩:=e;refine ⟨g,0,rfl,hg,fun i hi=>?_⟩;obtain ⟨g',c',e,_,_,h1,h2⟩:=h.at hi;rw [hs] at e;simp only [Value.slice.injEq,Option.some.injEq,Addr.mk.injEq,and_true,true_and] at e;obtain ⟨rfl,rfl⟩:=e;rw [Nat.zero_add];exact ⟨h1,h2⟩
theorem Own2.pop {B:Nat} {w:World} {a:Option Addr} {n c:Nat} {T:List (Nat × Nat)} {z:Nat × Nat} (h:Own2 B w (.slice a (n+1) c) (T++[z])) (hn:T.length=n):Own2 B w (.slice a n c) T:=by
 obtain ⟨h1,h2⟩:=h
 rcases h2 with ⟨_,h2⟩ | ⟨g,cap,cur,hv,hg,hc,h5,h6,h7,h8⟩
 ·simp at h2
 ·simp only [Value.slice.injEq] at hv
  obtain ⟨rfl,_,rfl⟩:=hv
  have hl:(T++[z]).length=n+1:=by simp [hn]
  refine ⟨len_flat2 T,.inr ⟨g,c,cur,by rw [hn],hg,hc,by omega,h6,h7,?_⟩⟩;have:=congrArg (List.take (T.length*2)) h8;rw [List.take_take,flat2_snoc,List.take_append_of_le_length (by rw [len_flat2]; exact Nat.le_refl _),List.take_of_length_le (l:=flat2 T) (by rw [len_flat2]; exact Nat.le_refl _)] at this;rw [← this]
  congr 1
  rw [hl,hn];omega
theorem run_build2p (X:World) (a b:Int):(Instr.buildSlice 176 1 #[(0,.agg #[.int .i64 a,.int .i64 b])]).run Tryz.prog X=.ok (.slice (some ⟨X.heap.size,0,none⟩) 1 1) (X.alloc (.cells #[.int .i64 a,.int .i64 b] 108)):=by
 obtain ⟨i0,hi,hz0,hz1,hz2⟩:=info_parts infoPr;refine run_buildSlice X 176 108 1 _ _ i0 _ Tryz.underlying176 hi hz0 (by rw [hz1]; decide) (by rw [hz1]; decide) ?_;generalize (fun x=>((Value.agg #[.int .i64 0,.int .i64 0]).cells)[x % (Value.agg #[.int .i64 0,.int .i64 0]).cells.size]!)=f;rw [hz1];have h1:Array.range (1*2)=#[0,1]:=rfl;simp [Instr.fill,Value.cells,h1]
theorem exec_build2 {o:Oper} {a:Act} {w:World} {i j:Int} (x y:Operand) (ho:o.op=.build 108 #[(0,x),(1,y)]) (hx:a.eval x=.int .i64 i) (hy:a.eval y=.int .i64 j) :
  (execOp a.eval o).run Tryz.prog w=.ok (.value (.agg #[.int .i64 i,.int .i64 j])) w:=by
 unfold execOp;simp only [ho,Sem.run_bind,Sem.run_pure];simp only [List.map_toArray,List.map_cons,List.map_nil,hx,hy]
 have h:(Instr.build 108 #[(0,.int .i64 i),(1,.int .i64 j)]).run Tryz.prog w=.ok (.agg #[.int .i64 i,.int .i64 j]) w:=by kernel_rfl
 first | (rw [h]; rfl) | (erw [h]; rfl)
theorem run_load2 {b o:Nat} {x y:Value} {W:World} (h0:W.cell? ⟨b,o,none⟩=some x) (h1:W.cell? ⟨b,o+1,none⟩=some y):(loadVar 108 ⟨b,o,none⟩).run Tryz.prog W=.ok (.agg #[x,y]) W:=by
 have hl:(loadCells ⟨b,o,none⟩ 2).run Tryz.prog W=.ok #[x,y] W :=
  run_loadCells_list (P:=Tryz.prog) W ⟨b,o,none⟩ [x,y] (fun j v hv=>by
   match j,hv with
   | 0,hv=>simp at hv; subst hv; exact h0
   | 1,hv=>simp at hv; subst hv; exact h1)
 have ha:(isAgg 108).run Tryz.prog W=.ok true W:=by kernel_rfl
 have hs:(sizeOf 108).run Tryz.prog W=.ok 2 W:=by kernel_rfl
 simp [loadVar,Sem.run_bind,ha,hl,hs]
theorem run_sliceHi2 (w:World) (b:Addr) (n c k:Nat) (h:k≤c):(Instr.sliceAt 176 (.slice (some b) n c) none (some (.int .i64 (k:Int))) none).run Tryz.prog w=.ok (.slice (some b) k c) w:=by
 simp [Instr.sliceAt,Instr.slice,run_underlying Tryz.underlying176,Instr.sliceBounds,Instr.sliceBound,asIntOf,h,Addr.add]
theorem exec_sliceHi2 {o:Oper} {a:Act} {w:World} {v r:Value} {k:Nat} (x y:Operand) (ho:o.op=.slice 176 x none (some y) none) (hx:a.eval x=v) (hy:a.eval y=.int .i64 (k:Int)) (hr:(Instr.sliceAt 176 v none (some (.int .i64 (k:Int))) none).run Tryz.prog w=.ok r w) :
  (execOp a.eval o).run Tryz.prog w=.ok (.value r) w:=by
 unfold execOp;simp only [ho,hx,hy,Sem.run_bind,Sem.run_pure,Option.map]
 first | (rw [hr]; rfl) | (erw [hr]; rfl) | simp [hr]
theorem Own2.push {B:Nat} {W:World} {v:Value} {T:List (Nat × Nat)} (h:Own2 B W v T) (hB:B≤W.heap.size) (z:Nat × Nat) (hn:T.length<1000000) (ty:TypeId) :
  ∃ a c X,(Builtin.append_ #[176,176] ty #[v,.slice (some ⟨W.heap.size,0,none⟩) 1 1]).run Tryz.prog (W.alloc (.cells #[.int .i64 ((z.1:Nat):Int),.int .i64 ((z.2:Nat):Int)] 108))=.ok (.slice a (T.length+1) c) X∧Own2 B X (.slice a (T.length+1) c) (T++[z])∧Rg.Kp (fun k=>v.ownBlock=some k) W X∧(∀ k,(Value.slice a (T.length+1) c).ownBlock=some k→v.ownBlock=some k∨W.heap.size≤k):=by
 have hb:Below W.heap.size W (W.alloc (.cells #[.int .i64 ((z.1:Nat):Int),.int .i64 ((z.2:Nat):Int)] 108)):=(Below.refl _ _).alloc (Nat.le_refl _) _;obtain ⟨i0,hi,hz0,hz1,hz2⟩:=info_parts infoPr;have h':=Rg.row_below h hb
 have e2:(W.alloc (.cells #[.int .i64 ((z.1:Nat):Int),.int .i64 ((z.2:Nat):Int)] 108)).heap.size=W.heap.size+1:=by simp
 have c0:(W.alloc (.cells #[.int .i64 ((z.1:Nat):Int),.int .i64 ((z.2:Nat):Int)] 108)).cell? ⟨W.heap.size,0,none⟩=some (.int .i64 ((z.1:Nat):Int)):=by rw [Rg.cellNew]; rfl
 have c1:(W.alloc (.cells #[.int .i64 ((z.1:Nat):Int),.int .i64 ((z.2:Nat):Int)] 108)).cell? ⟨W.heap.size,1,none⟩=some (.int .i64 ((z.2:Nat):Int)):=by rw [Rg.cellNew]; rfl
 generalize W.alloc (.cells #[.int .i64 ((z.1:Nat):Int),.int .i64 ((z.2:Nat):Int)] 108)=W1 at *
 obtain ⟨v',X,hr,h2,h3,h4,h5⟩:=run_append_own_at (P:=Tryz.prog) W1 B 176 ty 108 i0 (.agg #[.int .i64 0,.int .i64 0]) 2 16 Tryz.underlying176 hi hz0 hz1 hz2 rfl (by decide) v T.length (flat2 T) h' ⟨W.heap.size,0,none⟩ 1 1 [.int .i64 ((z.1:Nat):Int),.int .i64 ((z.2:Nat):Int)] rfl (fun j x hj=>by
  match j,hj with
  | 0,hj=>simp at hj; subst hj; exact c0
  | 1,hj=>simp at hj; subst hj; exact c1) (by simp [Value.oneCell']) (by unfold maxLen; omega) (by omega) (by omega)
 have hs2:Own2 B X v' (T++[z]):=by
  unfold Own2;rw [flat2_snoc,List.length_append];exact h2
 obtain ⟨a,c,hs,hc⟩:=hs2.shape;rw [List.length_append,List.length_singleton] at hs hc;subst hs;refine ⟨a,c,X,hr,hs2,Rg.Kp.trans (M:=fun k=>v.ownBlock=some k) ((Rg.Kp.of_below hb).weak fun _=>False.elim) (Rg.Kp.of_grown h3 fun _ e=>e) (fun _ _ e=>e),fun k e=>?_⟩
 rcases h5 with h5 | h5
 ·exact .inl (by rw [← h5]; exact e)
 ·rw [h5] at e
  injection e with e
  exact .inr (by omega)
end Go.Proofs.YthehbckogieimaaGreat

namespace Go.Proofs.YthehbckogieimaaGreat
open Go.RowKit
open Go.Proofs
open Go.Proofs.Ob
open Go.Proofs.Cm (Gd)
attribute [local irreducible] Go.Calls Go.wpList
theorem Hecl0 (args:Array Value) (w:World):(callFunc 168 args).run Tryz.prog w=.ok (.enter 168 args) w:=by kernel_rfl
theorem exec_alloc2 {o:Oper} {a:Act} {w:World} (ho:o.op=.alloc 108):(execOp a.eval o).run Tryz.prog w=.ok (.value (.pointer (some ⟨w.heap.size,0,none⟩))) (w.alloc (.cells #[.int .i64 0,.int .i64 0] 108)):=by
 obtain ⟨i0,hi,hz0,hz1,hz2⟩:=info_parts infoPr;unfold execOp;simp [ho,Instr.alloc,typeInfo,zeroValue,hi,hz0,newVar,Value.cells,Result.andThen];rfl
theorem run_store2 {w:World} {b:Nat} {u1 u2:Value} (x y:Int) (h1:w.cell? ⟨b,0,none⟩=some u1) (h2:w.cell? ⟨b,1,none⟩=some u2) (f1:w.frozen? ⟨b,0,none⟩=false) (f2:w.frozen? ⟨b,1,none⟩=false) :
  (storeVar 108 ⟨b,0,none⟩ (.agg #[.int .i64 x,.int .i64 y])).run Tryz.prog w=.ok () ((w.setCell ⟨b,0,none⟩ (.int .i64 x)).setCell ⟨b,1,none⟩ (.int .i64 y)):=by
 obtain ⟨i0,hi,hz0,hz1,hz2⟩:=info_parts infoPr
 have g2:(w.setCell ⟨b,0,none⟩ (.int .i64 x)).cell? ⟨b,1,none⟩=some u2:=by
  rw [World.cell?_setCell_other (h:=by intro e; injection e with e1 e2; omega) ..]
  exact h2
 have gf:(w.setCell ⟨b,0,none⟩ (.int .i64 x)).frozen? ⟨b,1,none⟩=false:=by rw [World.frozen?_setCell]; exact f2
 have ha0:(⟨b,0,none⟩:Addr).add 0=⟨b,0,none⟩:=by simp [Addr.add]
 have ha1:(⟨b,0,none⟩:Addr).add 1=⟨b,1,none⟩:=by simp [Addr.add]
 simp [storeVar,sizeOf,typeInfo,hi,hz1,Value.cells,storeCells,store,ha0,ha1];simp [Sem.run,h1,f1,g2,gf]
theorem pr_fresh (W:World) (z:Nat × Nat):∃ W2,(storeVar 108 ⟨W.heap.size,0,none⟩ (.agg #[.int .i64 ((z.1:Nat):Int),.int .i64 ((z.2:Nat):Int)])).run Tryz.prog (W.alloc (.cells #[.int .i64 0,.int .i64 0] 108))=.ok () W2∧CL W2 W.heap.size 0 (.int .i64 ((z.1:Nat):Int))∧CL W2 W.heap.size 1 (.int .i64 ((z.2:Nat):Int))∧Below W.heap.size W W2:=by
 have c0:(W.alloc (.cells #[.int .i64 0,.int .i64 0] 108)).cell? ⟨W.heap.size,0,none⟩=some (.int .i64 0):=by rw [Rg.cellNew]; rfl
 have c1:(W.alloc (.cells #[.int .i64 0,.int .i64 0] 108)).cell? ⟨W.heap.size,1,none⟩=some (.int .i64 0):=by rw [Rg.cellNew]; rfl
 have f0:(W.alloc (.cells #[.int .i64 0,.int .i64 0] 108)).frozen? ⟨W.heap.size,0,none⟩=false:=frozenNewN _ _ _ 0 _;have f1:(W.alloc (.cells #[.int .i64 0,.int .i64 0] 108)).frozen? ⟨W.heap.size,1,none⟩=false:=frozenNewN _ _ _ 0 _
 have c1':((W.alloc (.cells #[.int .i64 0,.int .i64 0] 108)).setCell ⟨W.heap.size,0,none⟩ (.int .i64 ((z.1:Nat):Int))).cell? ⟨W.heap.size,1,none⟩=some (.int .i64 0):=by
  rw [World.cell?_setCell_other (h:=by intro e; injection e with e1 e2; omega) ..]; exact c1
 refine ⟨_,run_store2 _ _ c0 c1 f0 f1,⟨?_,by simp⟩,⟨World.cell?_setCell_same (h:=c1') ..,by simp⟩,(((Below.refl _ _).alloc (Nat.le_refl _) _).setCell (p:=⟨W.heap.size,0,none⟩) (Nat.le_refl _) _).setCell (p:=⟨W.heap.size,1,none⟩) (Nat.le_refl _) _⟩
 rw [World.cell?_setCell_other (h:=by intro e; injection e with e1 e2; omega) ..]
 exact World.cell?_setCell_same (h:=c0) ..
structure ClM (wb W:World) (fb n:Nat) (φ:Nat→Nat) (B gb:Nat) (gv tv:Value) (T:List (Nat × Nat)):Prop where
 bel:Below wb.heap.size wb W
 f:rowN W fb n φ
 t:Own2 B W tv T
 g0:CL W gb 0 (.int .i64 ((n:Nat):Int))
 g1:CL W gb 1 gv
 gne:gb≠fb
 tg:tv.ownBlock≠some gb
 sz:B≤W.heap.size
 lo:wb.heap.size≤fb
 lB:fb<B
theorem rowN.lt {w:World} {b n:Nat} {φ:Nat→Nat} (h:rowN w b n φ):b<w.heap.size:=by
 obtain ⟨c,h1,_⟩:=h;exact (Array.getElem?_eq_some_iff.1 h1).1
theorem rowN.below {w w':World} {b n:Nat} {φ:Nat→Nat} (h:rowN w b n φ) (hb:Below w.heap.size w w'):rowN w' b n φ:=h.kp (Rg.Kp.of_below hb (M:=fun _=>False)) id
theorem Own2.below {B:Nat} {w w':World} {v:Value} {T:List (Nat × Nat)} (h:Own2 B w v T) (hb:Below w.heap.size w w'):Own2 B w' v T:=h.kp (Rg.Kp.of_below hb (M:=fun _=>False)) (fun _ e=>e.elim)
theorem ClM.below {wb W W':World} {fb n:Nat} {φ:Nat→Nat} {B gb:Nat} {gv tv:Value} {T:List (Nat × Nat)} (h:ClM wb W fb n φ B gb gv tv T) (hb:Below W.heap.size W W'):ClM wb W' fb n φ B gb gv tv T :=
 ⟨h.bel.trans (hb.mono h.bel.size),h.f.below hb,h.t.below hb,h.g0.up hb,h.g1.up hb,h.gne,h.tg,Nat.le_trans h.sz hb.size,h.lo,h.lB⟩
theorem ClM.uni {wb W W':World} {fb n:Nat} {φ φ':Nat→Nat} {B gb:Nat} {gv tv:Value} {T:List (Nat × Nat)} (h:ClM wb W fb n φ B gb gv tv T) (hf:rowN W' fb n φ') (hk:Rg.Kp (fun z=>z=fb) W W'):ClM wb W' fb n φ' B gb gv tv T :=
 ⟨Rg.Kp.below h.bel hk (fun z e=>e▸h.lo),hf,h.t.kp hk (fun k e e2=>by have:=(h.t.lt k e2).1; have:=h.lB; omega),h.g0.kp hk h.gne,h.g1.kp hk h.gne,h.gne,h.tg,Nat.le_trans h.sz hk.size,h.lo,h.lB⟩
theorem ClM.pop {wb W:World} {fb n:Nat} {φ:Nat→Nat} {B gb:Nat} {gv:Value} {a:Option Addr} {k c:Nat} {T:List (Nat × Nat)} {z:Nat × Nat} (h:ClM wb W fb n φ B gb gv (.slice a (k+1) c) (T++[z])) (hk:T.length=k):ClM wb W fb n φ B gb gv (.slice a k c) T :=
 ⟨h.bel,h.f,h.t.pop hk,h.g0,h.g1,h.gne,fun e=>h.tg (by cases a with | none=>simp [Value.ownBlock] at e | some b=>exact e),h.sz,h.lo,h.lB⟩
theorem ClM.push {wb W:World} {fb n:Nat} {φ:Nat→Nat} {B gb:Nat} {gv tv:Value} {T:List (Nat × Nat)} (h:ClM wb W fb n φ B gb gv tv T) (z:Nat × Nat) (hn:T.length<1000000) (ty:TypeId) :
  ∃ a c X,(Builtin.append_ #[176,176] ty #[tv,.slice (some ⟨W.heap.size,0,none⟩) 1 1]).run Tryz.prog (W.alloc (.cells #[.int .i64 ((z.1:Nat):Int),.int .i64 ((z.2:Nat):Int)] 108))=.ok (.slice a (T.length+1) c) X∧ClM wb X fb n φ B gb gv (.slice a (T.length+1) c) (T++[z])∧Rg.Kp (fun k=>tv.ownBlock=some k) W X∧(∀ k,(Value.slice a (T.length+1) c).ownBlock=some k→tv.ownBlock=some k∨W.heap.size≤k):=by
 obtain ⟨a,c,X,r1,r2,r3,r4⟩:=h.t.push h.sz z hn ty;have hlo:∀ k,tv.ownBlock=some k→B≤k:=fun k e=>(h.t.lt k e).1;refine ⟨a,c,X,r1,⟨Rg.Kp.below h.bel r3 (fun k e=>by have:=hlo k e; have:=h.lB; have:=h.lo; omega),h.f.kp r3 (fun e=>by have:=hlo _ e; have:=h.lB; omega),r2,h.g0.kp r3 h.tg,h.g1.kp r3 h.tg,h.gne,fun e=>?_,Nat.le_trans h.sz r3.size,h.lo,h.lB⟩,r3,r4⟩
 rcases r4 _ e with e | e
 ·exact h.tg e
 ·have:=h.g1.lt; omega
structure ClX (wb W:World) (fb n:Nat) (φ:Nat→Nat) (B gb:Nat) (gv tv:Value) (T:List (Nat × Nat)) (xb:Nat) (z:Nat × Nat):Prop where
 m:ClM wb W fb n φ B gb gv tv T
 x0:CL W xb 0 (.int .i64 ((z.1:Nat):Int))
 x1:CL W xb 1 (.int .i64 ((z.2:Nat):Int))
 xne:xb≠fb
 tx:tv.ownBlock≠some xb
theorem ClX.below {wb W W':World} {fb n:Nat} {φ:Nat→Nat} {B gb:Nat} {gv tv:Value} {T:List (Nat × Nat)} {xb:Nat} {z:Nat × Nat} (h:ClX wb W fb n φ B gb gv tv T xb z) (hb:Below W.heap.size W W'):ClX wb W' fb n φ B gb gv tv T xb z :=
 ⟨h.m.below hb,h.x0.up hb,h.x1.up hb,h.xne,h.tx⟩
theorem ClX.uni {wb W W':World} {fb n:Nat} {φ φ':Nat→Nat} {B gb:Nat} {gv tv:Value} {T:List (Nat × Nat)} {xb:Nat} {z:Nat × Nat} (h:ClX wb W fb n φ B gb gv tv T xb z) (hf:rowN W' fb n φ') (hk:Rg.Kp (fun z=>z=fb) W W'):ClX wb W' fb n φ' B gb gv tv T xb z :=
 ⟨h.m.uni hf hk,h.x0.kp hk h.xne,h.x1.kp hk h.xne,h.xne,h.tx⟩
theorem ClX.push {wb W:World} {fb n:Nat} {φ:Nat→Nat} {B gb:Nat} {gv tv:Value} {T:List (Nat × Nat)} {xb:Nat} {z:Nat × Nat} (h:ClX wb W fb n φ B gb gv tv T xb z) (y:Nat × Nat) (hn:T.length<1000000) (ty:TypeId) :
  ∃ a c X,(Builtin.append_ #[176,176] ty #[tv,.slice (some ⟨W.heap.size,0,none⟩) 1 1]).run Tryz.prog (W.alloc (.cells #[.int .i64 ((y.1:Nat):Int),.int .i64 ((y.2:Nat):Int)] 108))=.ok (.slice a (T.length+1) c) X∧ClX wb X fb n φ B gb gv (.slice a (T.length+1) c) (T++[y]) xb z:=by
 obtain ⟨a,c,X,r1,r2,r3,r4⟩:=h.m.push y hn ty;refine ⟨a,c,X,r1,r2,h.x0.kp r3 h.tx,h.x1.kp r3 h.tx,h.xne,fun e=>?_⟩
 rcases r4 _ e with e | e
 ·exact h.tx e
 ·have:=h.x0.lt; omega
def FcPost (wb:World) (fb n m:Nat) (f:Nat→Nat→Nat) (P:Nat→Nat→Prop) (φ:Nat→Nat) (e:Ending) (w':World):Prop :=
 ∃ φ' D',e=.returned (.tuple #[])∧rowN w' fb n φ'∧Bk.CI n m f P φ' D' []∧(∀ i j,i<n→j<n→Bk.rt φ i=Bk.rt φ j→Bk.rt φ' i=Bk.rt φ' j)∧Below wb.heap.size wb w'
theorem img_lt {gs:List (List Nat)} {D:Nat} (hg:GG D gs):∀ s a,s<gs.length→a<D→img gs s a<D:=fun s a hs ha=>hg.cl s hs a ha
theorem last_or2 (T:List (Nat × Nat)):T=[]∨∃ T' x,T=T'++[x]:=by
 rcases T.eq_nil_or_concat with h | ⟨l,b,h⟩
 ·exact .inl h
 ·exact .inr ⟨l,b,by simpa using h⟩
theorem fclose_any (wb w:World) (fb n c:Nat) (φ:Nat→Nat) (gv tv:Value) (gs:List (List Nat)) (B:Nat) (D T:List (Nat × Nat)) (P:Nat→Nat→Prop) (hbw:Below wb.heap.size wb w) (hfb:wb.heap.size≤fb) (hfB:fb<B) (hBw:B≤w.heap.size) (hn:n≤1000) (hc:n≤c) (hg:Rg.Rows wb gv (gs.map Ma.ofN)) (hgg:GG n gs) (hgl:gs.length≤1000) (hrow:rowN w fb n φ) (hT:Own2 B w tv T) (hTl:T.length+Bk.prt n φ≤100000) (ci:Bk.CI n gs.length (img gs) P φ D T) :
  Calls Tryz.prog 169 #[.slice (some ⟨fb,0,none⟩) n c,.agg #[.int .i64 ((n:Nat):Int),gv],tv] w (FcPost wb fb n gs.length (img gs) P φ):=by
 obtain ⟨ga,gc,hsh,-⟩:=hg.shape;rw [List.length_map] at hsh;subst hsh;obtain ⟨ta,tc,rfl,htc⟩:=hT.shape;have HG:=ι hg;have HGG:=ι hgg;have HCI:=ι ci;have HTL:=ι hTl;have HML:=ι (show (gs.map Ma.ofN).length=gs.length from List.length_map _);have HMO:=ι (fun i j (_:i<n) (_:j<n) (h:Bk.rt φ i=Bk.rt φ j)=>h);have hb0:Below w.heap.size w (w.alloc (.cells #[.int .i64 ((n:Nat):Int),.slice ga gs.length gc] 24)):=(Below.refl _ _).alloc (Nat.le_refl _) _
 have CM:=ι (show ClM wb (w.alloc (.cells #[.int .i64 ((n:Nat):Int),.slice ga gs.length gc] 24)) fb n φ B w.heap.size (.slice ga gs.length gc) (.slice ta T.length tc) T from
  ⟨hbw.trans (hb0.mono hbw.size),hrow.below hb0,hT.below hb0,(box2 w (.int .i64 ((n:Nat):Int)) (.slice ga gs.length gc)).1,(box2 w (.int .i64 ((n:Nat):Int)) (.slice ga gs.length gc)).2,fun e=>by have:=hrow.lt; omega,fun e=>by have:=(hT.lt _ e).2; omega,Nat.le_trans hBw hb0.size,hfb,hfB⟩)
 clear hb0 hbw hfb hfB hBw hg hgg hrow hT ci hTl htc
 go_enter Tryz.func169,Tryz.ntmps169
 generalize hgb:w.heap.size=gb at *;go_upto_region 0 with (fail);refine wp_region_list ?_;refine Rg.lr 4 (Rg.exec_box _ _ rfl rfl) ?_;go_frame;rw [hgb];clear hgb;generalize w.alloc (.cells #[.int .i64 ((n:Nat):Int),.slice ga gs.length gc] 24)=w0 at *;go_wp2
 go_loopg [2] (T.length+Bk.prt n φ) (fun g tv wr=>∃ (φ':Nat→Nat) (D T:List (Nat × Nat)),Hid (Bk.CI n gs.length (img gs) P φ' D T)∧Hid (T.length+Bk.prt n φ'=g∧g≤100000)∧Hid (∀ i j,i<n→j<n→Bk.rt φ i=Bk.rt φ j→Bk.rt φ' i=Bk.rt φ' j)∧Hid (ClM wb wr fb n φ' B gb (.slice ga gs.length gc) tv T))
 case atStart=>exact ⟨φ,D,T,HCI,ι ⟨rfl,HTL.out⟩,HMO,CM⟩
 case round =>
  clear HCI HTL HMO CM;obtain ⟨φ',D,T,HCI,HTL,HMO,CM⟩:=hrel;obtain ⟨ta,tc,rfl,-⟩:=CM.out.t.shape
  rcases last_or2 T with hT0 | ⟨T',z,hTz⟩
  case inl =>
   subst hT0;go_upto_region 1 with (fail);refine wp_region_list ?_;refine Rg.lm 11 (.slice ta ([]:List (Nat × Nat)).length tc) ?_;go_frame;refine Rg.lr 12 (exec_len _ _ _ rfl Tryz.underlying176 _ _ _ rfl) ?_;go_frame;refine Rg.lr 13 (exec_bin (R:=.bool false) .gtr _ _ _ rfl rfl rfl (b_gtr _ (decide_eq_false (by simp)))) ?_;go_frame;go_wp2;refine bodyPost_ret (results_none rfl _ _ _) rfl ?_;exact ⟨φ',D,rfl,CM.out.f,HCI.out,HMO.out,CM.out.bel⟩
  case inr =>
   subst hTz
   have hlen:(T'++[z]).length=T'.length+1:=by rw [List.length_append]; rfl
   have hTL:=HTL.out;rw [hlen] at hTL;have HTB:=ι (show T'.length+1+Bk.prt n φ'=gk∧gk≤100000 from hTL)
   have hTb:T'.length≤100000:=by omega
   obtain ⟨tb,tc',e1,htb,htc,h0,h1⟩:=CM.out.t.at (i:=T'.length) (by rw [hlen]; omega);simp only [Value.slice.injEq,true_and] at e1;obtain ⟨rfl,rfl⟩:=e1;rw [hlen] at htc;rw [List.getElem_append_right (Nat.le_refl _)] at h0 h1;simp only [Nat.sub_self,List.getElem_cons_zero] at h0 h1;have CT0:=ι (CL.mk h0 htb);have CT1:=ι (CL.mk h1 htb);have HJ:=ι HCI.out.pop;have HTC:=ι htc;rw [hlen] at CM ⊢;clear h0 h1 htb hTL hlen HCI HTL;go_upto_region 1 with (fail);refine wp_region_list ?_;refine Rg.lm 11 (.slice (some ⟨tb,0,none⟩) (T'.length+1) tc) ?_;go_frame;refine Rg.lr 12 (exec_len _ _ _ rfl Tryz.underlying176 _ _ _ rfl) ?_;go_frame;refine Rg.lr 13 (exec_bin (R:=.bool true) .gtr _ _ _ rfl rfl rfl (b_gtr _ (decide_eq_true (by omega)))) ?_;go_frame;go_upto_region 2 with (fail);refine wp_region_list ?_;refine Rg.lm 14 (.slice (some ⟨tb,0,none⟩) (T'.length+1) tc) ?_;go_frame
   refine Rg.lm 15 (.slice (some ⟨tb,0,none⟩) (T'.length+1) tc) ?_;go_frame;refine Rg.lr 16 (exec_len _ _ _ rfl Tryz.underlying176 _ _ _ rfl) ?_;go_frame;refine Rg.lr 17 (exec_bin (R:=.int .i64 ((T'.length:Nat):Int)) .sub _ _ _ rfl rfl rfl (b_sub _ (by omega) (by omega))) ?_;go_frame;refine Rg.lr 18 (exec_indexZ0 _ _ rfl Tryz.underlying176 szPr tb ((T'.length+1)) (tc) (T'.length) rfl rfl (by omega)) ?_;go_frame;refine Rg.lr 19 (Rg.exec_load (v:=.agg #[.int .i64 ((z.1:Nat):Int),.int .i64 ((z.2:Nat):Int)]) _ _ rfl ⟨tb,T'.length*2,none⟩ rfl (run_load2 CT0.out.cell CT1.out.cell)) ?_;go_frame;obtain ⟨wx,hst,hx0,hx1,hbx⟩:=pr_fresh wr z;refine Rg.lr 6 (exec_alloc2 rfl) ?_;go_frame;refine Rg.list_skip none rfl rfl (Rg.exec_store _ _ _ rfl _ rfl _ rfl hst) ?_;go_frame;have CX:=ι (show ClX wb wx fb n φ' B gb (.slice ga gs.length gc) (.slice (some ⟨tb,0,none⟩) T'.length tc) T' wr.heap.size z from ⟨(CM.out.pop rfl).below hbx,hx0,hx1,fun e=>by have:=CM.out.f.lt; omega,fun e=>by have:=(CM.out.t.lt _ e).2; omega⟩)
   clear hst hx0 hx1 hbx CM CT0 CT1;generalize wr.heap.size=xb at *;go_upto_region 3 with (fail);refine wp_region_list ?_;refine Rg.lm 20 (.slice (some ⟨tb,0,none⟩) (T'.length+1) tc) ?_;go_frame;refine Rg.lm 21 (.slice (some ⟨tb,0,none⟩) (T'.length+1) tc) ?_;go_frame;refine Rg.lr 22 (exec_len _ _ _ rfl Tryz.underlying176 _ _ _ rfl) ?_;go_frame;refine Rg.lr 23 (exec_bin (R:=.int .i64 ((T'.length:Nat):Int)) .sub _ _ _ rfl rfl rfl (b_sub _ (by omega) (by omega))) ?_;go_frame;refine Rg.lr 24 (exec_sliceHi2 _ _ rfl rfl rfl (run_sliceHi2 _ _ _ _ _ (by have:=HTC.out; omega))) ?_;go_frame;refine Rg.la 2 (.slice (some ⟨tb,0,none⟩) T'.length tc) ?_;go_frame;go_upto_region 4 with (fail);refine wp_region_list ?_;refine Rg.lr 25 (exec_fieldG _ rfl rfl) ?_;go_frame;refine Rg.lr 26 (Rg.exec_load (v:=.slice ga gs.length gc) _ _ rfl ⟨gb,1,none⟩ rfl (Rg.run_loadSl _ _ Tryz.underlying22 CX.out.m.g1.cell)) ?_;go_frame
   refine Rg.lr 27 (exec_len _ _ _ rfl Tryz.underlying22 _ _ _ rfl) ?_;go_frame;refine Rg.lm 28 (.int .i64 ((0:Nat):Int)) ?_;go_frame;go_wp2
   go_loopw [2,28] (fun tv kv wr=>∃ (k:Nat) (φ2:Nat→Nat) (T2:List (Nat × Nat)),kv=.int .i64 ((k:Nat):Int)∧k≤gs.length∧Hid (Bk.CJ n gs.length (img gs) P φ2 D T2 z k)∧Hid (T2.length+1+Bk.prt n φ2≤gk)∧Hid (∀ i j,i<n→j<n→Bk.rt φ i=Bk.rt φ j→Bk.rt φ2 i=Bk.rt φ2 j)∧Hid (ClX wb wr fb n φ2 B gb (.slice ga gs.length gc) tv T2 xb z)) (fun _ kv _=>gs.length - (intOf kv).toNat)
   case atStart=>exact ⟨0,φ',T',rfl,Nat.zero_le _,HJ,ι (by have:=HTB.out; omega),HMO,CX⟩
   case round =>
    clear HJ HMO CX HTC;obtain ⟨k,φ2,T2,rfl,hk,HJ,HT2,HMO,CX⟩:=hrel;obtain ⟨ta,tc,rfl,-⟩:=CX.out.m.t.shape;generalize wr=wd at *
    have hT2b:T2.length≤100000:=by have:=HT2.out; have:=HTB.out; omega
    by_cases hkl:k<gs.length
    case neg =>
     obtain rfl:k=gs.length:=by omega
     have hkN:¬ ((gs.length:Nat):Int)<(gs.length:Int):=by omega
     go_upto_region 5 with (fail);refine wp_region_list ?_;refine Rg.lr 29 (exec_bin (R:=.bool false) .lss _ _ _ rfl rfl rfl (b_lss _ (decide_eq_false hkN))) ?_;go_frame;go_wp2
     go_roundg (T2.length+Bk.prt n φ2)
     case measure=>have:=HT2.out; omega
     case rel=>exact ⟨φ2,z :: D,T2,ι HJ.out.done,ι ⟨rfl,by have:=HT2.out; have:=HTB.out; omega⟩,HMO,ι CX.out.m⟩
    case pos =>
     have hkN:((k:Nat):Int)<(gs.length:Int):=by omega
     have HKN:=ι (show k<(gs.map Ma.ofN).length by rw [HML.out]; exact hkl)
     have hk1000:k<1000:=by omega
     obtain ⟨z1,z2⟩:=HJ.out.rng;obtain ⟨rb,ro,ua,uc,rfl,hgb,hgc,hgu⟩:=rows_get HG.out (i:=k) HKN.out;obtain ⟨gi,HGI⟩:∃ z,Hid (gs[k]'hkl=z):=⟨_,ι rfl⟩
     have hgd:gi.length=n:=by rw [← HGI.out]; exact (HGG.out _ (List.getElem_mem hkl)).2
     rw [show (gs.map Ma.ofN)[k]'HKN.out=Ma.ofN gi by rw [List.getElem_map,HGI.out]] at hgc hgu;rw [Ma.len_ofN,hgd] at hgc hgu
     have hsl:(Ma.ofN gi).length=n:=by rw [Ma.len_ofN,hgd]
     obtain ⟨ub,uo,rfl,hub,hu1⟩:=ints_get hgu (k:=z.1) (by rw [hsl]; exact z1);obtain ⟨ub',uo',e',-,hu2⟩:=ints_get hgu (k:=z.2) (by rw [hsl]; exact z2);simp only [Option.some.injEq,Addr.mk.injEq,and_true] at e';obtain ⟨rfl,rfl⟩:=e';obtain ⟨x,hx⟩:∃ x,Hid (img gs k z.1=x):=⟨_,ι rfl⟩;obtain ⟨y,hy⟩:∃ y,Hid (img gs k z.2=y):=⟨_,ι rfl⟩
     have ex:(Ma.ofN gi)[z.1]'(by rw [hsl]; exact z1)=((x:Nat):Int):=by
      rw [Ma.get_ofN,← hx.out,img_get hkl (by rw [HGI.out,hgd]; exact z1)];simp only [HGI.out]
     have ey:(Ma.ofN gi)[z.2]'(by rw [hsl]; exact z2)=((y:Nat):Int):=by
      rw [Ma.get_ofN,← hy.out,img_get hkl (by rw [HGI.out,hgd]; exact z2)];simp only [HGI.out]
     rw [ex] at hu1;rw [ey] at hu2
     have hxn:x<n:=by rw [← hx.out]; exact img_lt HGG.out k _ hkl z1
     have hyn:y<n:=by rw [← hy.out]; exact img_lt HGG.out k _ hkl z2
     have hbe:=CX.out.m.bel;have CG:=ι (CL.up (CL.mk hgc hgb) hbe);have CU:=ι (CL.up (CL.mk hu1 hub) hbe);have CV:=ι (CL.up (CL.mk hu2 hub) hbe);obtain ⟨p1,hp1⟩:∃ p,Hid (z.1=p):=⟨_,ι rfl⟩;obtain ⟨p2,hp2⟩:∃ p,Hid (z.2=p):=⟨_,ι rfl⟩;have CX0:=ι CX.out.x0;have CX1:=ι CX.out.x1;rw [hp1.out] at CX0 CU z1;rw [hp2.out] at CX1 CV z2;clear hgb hgc hgu hub hu1 hu2 ex ey hbe;go_upto_region 5 with (fail);refine wp_region_list ?_;refine Rg.lr 29 (exec_bin (R:=.bool true) .lss _ _ _ rfl rfl rfl (b_lss _ (decide_eq_true hkN))) ?_;go_frame;go_upto_region 6 with (fail);refine wp_region_list ?_;refine Rg.lr 30 (exec_indexS slPerms _ _ rfl rb (ro) (gs.length) gc (k) rfl rfl hkl) ?_;go_frame;refine Rg.lr 31 (Rg.exec_load (v:=.slice (some ⟨ub,uo,none⟩) n uc) _ _ rfl ⟨rb,ro+k,none⟩ rfl (Rg.run_loadSl _ _ Tryz.underlying51 CG.out.cell)) ?_;go_frame;refine Rg.la 8 (.slice (some ⟨ub,uo,none⟩) n uc) ?_;go_frame
     go_upto_region 7 with (fail);have hV0:Below wd.heap.size wd wd.drew:=(Below.refl _ _).drew;replace CX:=ι (CX.out.below hV0);replace CG:=ι (CG.out.below hV0);replace CU:=ι (CU.out.below hV0);replace CV:=ι (CV.out.below hV0);replace CX0:=ι (CX0.out.below hV0);replace CX1:=ι (CX1.out.below hV0);clear hV0;refine Rg.Any.begin (S:=Rg.Both 11 (fun _=>True) (fun W=>Below wd.drew.heap.size wd.drew W)) mix ?_;generalize wd.drew=w61 at *;have hS:∀ (l:Array Bool) W,Below w61.heap.size w61 W→Rg.Both 11 (fun _=>True) (fun W=>Below w61.heap.size w61 W) l W:=fun l W h=>⟨.inr trivial,h⟩;have hI:Below w61.heap.size w61 w61:=Below.refl _ _;refine Rg.tm 0 11 (.slice (some ⟨ub,uo,none⟩) n uc) 32 (hS _ _ hI) ?_;go_frame;refine Rg.tg 1 11 (.pointer (some ⟨xb,0+0,none⟩)) 33 rfl rfl (.inl ⟨rfl,fun w _=>exec_indexArr _ _ rfl Tryz.underlying108 szI xb (0) (0) rfl rfl (by omega)⟩) (hS _ _ hI) ?_;go_frame
     refine Rg.tg 2 11 (.int .i64 ((p1:Nat):Int)) 34 rfl rfl (Rg.yields_cell _ _ rfl rfl ⟨xb,0+0,none⟩ rfl (fun W hW=>run_loadInt ((Below.cell (p:=⟨xb,0+0,none⟩) hW CX0.out.lt).trans CX0.out.cell))) (hS _ _ hI) ?_;go_frame;refine Rg.tg 3 11 (.pointer (some ⟨ub,uo+p1,none⟩)) 35 rfl rfl (Rg.yields_index slPerm _ _ rfl rfl ub (uo) (n) uc (p1) rfl rfl z1) (hS _ _ hI) ?_;go_frame;refine Rg.tg 4 11 (.int .i64 ((x:Nat):Int)) 36 rfl rfl (Rg.yields_cell _ _ rfl rfl ⟨ub,uo+p1,none⟩ rfl (fun W hW=>run_loadInt ((Below.cell (p:=⟨ub,uo+p1,none⟩) hW CU.out.lt).trans CU.out.cell))) (hS _ _ hI) ?_;go_frame;refine Rg.tm 5 11 (.slice (some ⟨ub,uo,none⟩) n uc) 37 (hS _ _ hI) ?_;go_frame;refine Rg.tg 6 11 (.pointer (some ⟨xb,0+1,none⟩)) 38 rfl rfl (.inl ⟨rfl,fun w _=>exec_indexArr _ _ rfl Tryz.underlying108 szI xb (0) (1) rfl rfl (by omega)⟩) (hS _ _ hI) ?_;go_frame
     refine Rg.tg 7 11 (.int .i64 ((p2:Nat):Int)) 39 rfl rfl (Rg.yields_cell _ _ rfl rfl ⟨xb,0+1,none⟩ rfl (fun W hW=>run_loadInt ((Below.cell (p:=⟨xb,0+1,none⟩) hW CX1.out.lt).trans CX1.out.cell))) (hS _ _ hI) ?_;go_frame;refine Rg.tg 8 11 (.pointer (some ⟨ub,uo+p2,none⟩)) 40 rfl rfl (Rg.yields_index slPerm _ _ rfl rfl ub (uo) (n) uc (p2) rfl rfl z2) (hS _ _ hI) ?_;go_frame;refine Rg.tg 9 11 (.int .i64 ((y:Nat):Int)) 41 rfl rfl (Rg.yields_cell _ _ rfl rfl ⟨ub,uo+p2,none⟩ rfl (fun W hW=>run_loadInt ((Below.cell (p:=⟨ub,uo+p2,none⟩) hW CV.out.lt).trans CV.out.cell))) (hS _ _ hI) ?_;go_frame;refine Rg.tg 10 11 (.int .i64 ((x:Nat):Int)) 9 rfl rfl (.inl ⟨rfl,fun w _=>Rg.exec_assign (v:=.int .i64 ((x:Nat):Int)) _ rfl rfl⟩) (hS _ _ hI) ?_;go_frame;refine Rg.Any.one (i:=11) (by kernel_rfl) (Rg.Any.run (some 10) rfl rfl rfl (Rg.xa (.int .i64 ((y:Nat):Int)) _ rfl rfl) (hS _ _ hI) ?_)
     go_frame;refine Rg.Any.done (by kernel_rfl) ?_ _;clear hS hI;clear CG CU CV CX0 CX1;go_upto_region 8 with (fail);refine wp_region_list ?_;refine Rg.lm 42 (.slice (some ⟨fb,0,none⟩) n c) ?_;go_frame;refine Rg.lm 43 (.int .i64 ((x:Nat):Int)) ?_;go_frame;refine Rg.lm 44 (.int .i64 ((y:Nat):Int)) ?_;go_frame;refine list_ask (some 45) rfl rfl _ _ (exec_fn3 168 _ _ _ _ rfl rfl rfl rfl (Hecl0 _ _)) ?_;refine (unite_any fb n c φ2 x y w61 CX.out.m.f HJ.out.ci.fo hxn hyn hn hc).mono ?_;rintro e1 w62 ⟨φ3,r,rfl,hrow3,hu3,hkp3⟩;have hcx3:=CX.out.uni hrow3 hkp3;have HU3:=ι hu3;clear hrow3 hu3;refine ⟨_,rfl,?_⟩;go_frame;replace CX:=ι hcx3;clear hkp3 hcx3;have HU4:=ι (show Bk.Uni n φ2 φ3 (img gs k z.1) (img gs k z.2) r by rw [hx.out,hy.out]; exact HU3.out);have HJ2:=ι (HJ.out.unite (img_lt HGG.out) hkl HU4.out);have HMO2:=ι (fun i j (hi:i<n) (hj:j<n) (h:Bk.rt φ i=Bk.rt φ j)=>HU3.out.keep i j hi hj (HMO.out i j hi hj h))
     rw [hx.out,hy.out] at HJ2
     cases r with
     | false =>
      have HT3:=ι (show T2.length+1+Bk.prt n φ3≤gk by rw [(HU3.out.no rfl).2]; exact HT2.out);go_upto_region 10 with (fail);refine wp_region_list ?_;refine Rg.lr 52 (exec_bin (R:=.int .i64 (((k+1):Nat):Int)) .add _ _ _ rfl rfl rfl (b_add _ (by omega) (by omega))) ?_;go_frame;refine Rg.lm 28 (.int .i64 (((k+1):Nat):Int)) ?_;go_frame;go_wp2
      go_roundw
      case rel=>exact ⟨k+1,φ3,T2,by go_num,hkl,HJ2,HT3,HMO2,CX⟩
      case measure=>simp [intOf]; omega
     | true =>
      have HT3:=ι (show (T2++[(x,y)]).length+1+Bk.prt n φ3≤gk by rw [List.length_append,List.length_singleton]; have:=HU3.out.yes rfl; have:=HT2.out; omega);obtain ⟨a9,c9,X9,r1,hcx⟩:=CX.out.push (x,y) (by omega) 176;go_upto_region 9 with (fail);refine wp_region_list ?_;refine Rg.lm 46 (.slice ta T2.length tc) ?_;go_frame;refine Rg.lm 47 (.int .i64 ((x:Nat):Int)) ?_;go_frame;refine Rg.lm 48 (.int .i64 ((y:Nat):Int)) ?_;go_frame;refine Rg.lr 49 (exec_build2 _ _ rfl rfl rfl) ?_;go_frame;refine Rg.lr 50 (Rg.exec_buildSlice _ _ _ rfl (.agg #[.int .i64 ((x:Nat):Int),.int .i64 ((y:Nat):Int)]) rfl (run_build2p w62 _ _)) ?_;go_frame;refine Rg.lr 51 (Rg.exec_append _ _ _ rfl rfl rfl r1) ?_;go_frame;refine Rg.la 2 (.slice a9 (T2.length+1) c9) ?_;go_frame;have CX9:=ι hcx;clear r1 hcx;go_upto_region 10 with (fail);refine wp_region_list ?_;refine Rg.lr 52 (exec_bin (R:=.int .i64 (((k+1):Nat):Int)) .add _ _ _ rfl rfl rfl (b_add _ (by omega) (by omega))) ?_;go_frame
      refine Rg.lm 28 (.int .i64 (((k+1):Nat):Int)) ?_;go_frame;go_wp2
      go_roundw
      case rel=>exact ⟨k+1,φ3,T2++[(x,y)],by go_num,hkl,HJ2,HT3,HMO2,CX9⟩
      case measure=>simp [intOf]; omega

theorem Hfcl0 (args:Array Value) (w:World):(callFunc 167 args).run Tryz.prog w=.ok (.enter 167 args) w:=by kernel_rfl
theorem Hfcl2 (args:Array Value) (w:World):(callFunc 169 args).run Tryz.prog w=.ok (.enter 169 args) w:=by kernel_rfl
theorem Hfcl3 (args:Array Value) (w:World):(callFunc 170 args).run Tryz.prog w=.ok (.enter 170 args) w:=by kernel_rfl
theorem prt_le (n:Nat) (φ:Nat→Nat):Bk.prt n φ≤n:=by
 unfold Bk.prt;exact Nat.le_trans List.countP_le_length (by rw [List.length_range]; exact Nat.le_refl _)
def inT (T:List (Nat × Nat)) (x y:Nat):Prop:=(x,y)∈T
structure LbR (w w':World) (v:Value) (n:Nat) (L:List Nat):Prop where
 sh:∃ ob,v=.slice (some ⟨ob,0,none⟩) n n∧w.heap.size≤ob∧ob<w'.heap.size∧rowN w' ob n (fun j=>L.getD j 0)
 len:L.length=n
 bel:Below w.heap.size w w'
theorem LbR.ints {w w':World} {v:Value} {n:Nat} {L:List Nat} (h:LbR w w' v n L) (hn:n≤1000):Rg.Ints w' v (Ma.ofN L):=by
 obtain ⟨ob,rfl,h1,h2,h3⟩:=h.sh;exact Rg.NP.of_rowIs (l:=L) h3 h.len.symm (by omega) (fun i hi=>by dsimp only; rw [Bk.getD_lt hi])
theorem bleast_any (n:Nat) (gv pv:Value) (gs:List (List Nat)) (T0:List (Nat × Nat)) (w:World) (hn:n≤64) (hg:Rg.Rows w gv (gs.map Ma.ofN)) (hgg:GG n gs) (hgl:gs.length≤1000) (hp:Prs w pv T0) (hr:∀ z∈T0,z.1<n∧z.2<n) (hl:T0.length≤1000) :
  Calls Tryz.prog 87 #[.agg #[.int .i64 ((n:Nat):Int),gv],pv] w fun e w'=>∃ v L,e=.returned v∧LbR w w' v n L∧Bk.IsLab n (Bk.BR gs.length (img gs) (inT T0)) L:=by
 obtain ⟨ga,gc,hsh,-⟩:=hg.shape;rw [List.length_map] at hsh;subst hsh;obtain ⟨pa,pc,rfl,-,-,hpx⟩:=hp.sh;have HG:=ι hg;have HGG:=ι hgg;have HR:=ι hr;have HPX:=ι hpx;have hb0:Below w.heap.size w (w.alloc (.cells #[.int .i64 ((n:Nat):Int),.slice ga gs.length gc] 24)):=(Below.refl _ _).alloc (Nat.le_refl _) _;have G0:=ι (box2 w (.int .i64 ((n:Nat):Int)) (.slice ga gs.length gc)).1;have G1:=ι (box2 w (.int .i64 ((n:Nat):Int)) (.slice ga gs.length gc)).2;have K:=ι hb0;clear hg hgg hp hr hpx hb0
 go_enter Tryz.func87,Tryz.ntmps87
 obtain ⟨gb,hgb⟩:∃ gb,w.heap.size=gb:=⟨_,rfl⟩;rw [hgb] at G0 G1;go_upto_region 0 with (fail);refine wp_region_list ?_;refine Rg.lr 2 (Rg.exec_box _ _ rfl rfl) ?_;go_frame;refine Rg.la 4 (.slice none 0 0) ?_;go_frame;rw [hgb];generalize w.alloc (.cells #[.int .i64 ((n:Nat):Int),.slice ga gs.length gc] 24)=w0 at *;go_upto_region 1 with (fail);refine wp_region_list ?_;refine Rg.lr 9 (exec_fieldG0 _ rfl rfl) ?_;go_frame;refine Rg.lr 10 (Rg.exec_load (v:=.int .i64 ((n:Nat):Int)) _ _ rfl ⟨gb,0,none⟩ rfl (run_loadInt G0.out.cell)) ?_;go_frame;refine list_ask (some 11) rfl rfl _ _ (exec_fn1 167 _ _ rfl rfl (Hfcl0 _ _)) ?_;refine (newForest_any n w0 (by omega)).mono ?_;rintro e1 w1 ⟨fb,φ,rfl,hf1,hf2,hf3,hf4,hb⟩;have HF4:=ι hf4;have HB1:=ι (show w0.heap.size≤fb∧gb<w0.heap.size∧gb≤fb from ⟨hf1,G0.out.lt,by have:=G0.out.lt; omega⟩);refine ⟨_,rfl,?_⟩
 go_frame;replace G0:=ι (G0.out.below hb);replace G1:=ι (G1.out.below hb);replace K:=ι (Rg.acc K.out hb);clear hb;refine Rg.la 5 (.slice (some ⟨fb,0,none⟩) n n) ?_;go_frame;go_upto_region 2 with (fail);refine wp_region_list ?_;refine Rg.la 6 (.slice none 0 0) ?_;go_frame;go_upto_region 3 with (fail);refine wp_region_list ?_;refine Rg.lm 12 (.slice pa T0.length pc) ?_;go_frame;refine Rg.lr 13 (exec_len _ _ _ rfl Tryz.underlying176 _ _ _ rfl) ?_;go_frame;refine Rg.lm 14 (.int .i64 ((0:Nat):Int)) ?_;go_frame;have CM:=ι (show ClM w w1 fb n φ (fb+1) gb (.slice ga gs.length gc) (.slice none 0 0) [] from ⟨K.out,hf3,Own2.nil _ _,G0.out,G1.out,fun e=>by have h1:=HB1.out; omega,fun e=>by simp [Value.ownBlock] at e,hf2,by have h1:=HB1.out; omega,Nat.lt_succ_self _⟩);have HCI:=ι (Bk.CI.start (m:=gs.length) (f:=img gs) (P:=inT T0) HF4.out);have HBS:=ι (show ∀ j (h:j<T0.length),j<0→Bk.rt φ T0[j].1=Bk.rt φ T0[j].2 from fun j _ h=>absurd h (Nat.not_lt_zero _))
 clear hf1 hf2 hf3 hf4 K G0 G1 HF4 HB1 hgb;go_wp2
 go_loopw [6,14] (fun tv iv wr=>∃ (i:Nat) (φ':Nat→Nat) (T:List (Nat × Nat)),iv=.int .i64 ((i:Nat):Int)∧i≤T0.length∧Hid (Bk.CI n gs.length (img gs) (inT T0) φ' [] T)∧Hid (T.length≤i)∧Hid (∀ j (h:j<T0.length),j<i→Bk.rt φ' T0[j].1=Bk.rt φ' T0[j].2)∧Hid (ClM w wr fb n φ' (fb+1) gb (.slice ga gs.length gc) tv T)) (fun _ iv _=>T0.length - (intOf iv).toNat)
 case atStart=>exact ⟨0,φ,[],rfl,Nat.zero_le _,HCI,ι (Nat.le_refl _),HBS,CM⟩
 case round =>
  clear HCI HBS CM;obtain ⟨i,φ',T,rfl,hi,HCI,HTL,HBS,CM⟩:=hrel;obtain ⟨ta,tc,rfl,-⟩:=CM.out.t.shape;generalize wr=wd at *
  have hTb:T.length≤1000:=by have:=HTL.out; omega
  by_cases hil:i<T0.length
  case pos =>
   obtain ⟨pb,po,rfl,hpb,hpc⟩:=HPX.out (by omega);obtain ⟨z,hz⟩:∃ z,Hid (T0[i]'hil=z):=⟨_,ι rfl⟩;obtain ⟨q1,q2⟩:=hpc i hil;rw [hz.out] at q1 q2;have CP0:=ι (CL.up (CL.mk q1 hpb) CM.out.bel);have CP1:=ι (CL.up (CL.mk q2 hpb) CM.out.bel);obtain ⟨z1,z2⟩:=HR.out z (by rw [← hz.out]; exact List.getElem_mem hil);clear q1 q2 hpb hpc;obtain ⟨wx,hst,hx0,hx1,hbx⟩:=pr_fresh wd z;go_upto_region 4 with (fail);refine wp_region_list ?_;refine Rg.lr 15 (exec_bin (R:=.bool true) .lss _ _ _ rfl rfl rfl (b_lss _ (decide_eq_true (by omega)))) ?_;go_frame;go_upto_region 5 with (fail);refine wp_region_list ?_;refine Rg.lr 16 (exec_indexZ _ _ rfl Tryz.underlying176 szPr pb (po) (T0.length) (pc) (i) rfl rfl hil) ?_;go_frame;refine Rg.lr 17 (Rg.exec_load (v:=.agg #[.int .i64 ((z.1:Nat):Int),.int .i64 ((z.2:Nat):Int)]) _ _ rfl ⟨pb,po+i*2,none⟩ rfl (run_load2 CP0.out.cell CP1.out.cell)) ?_;go_frame
   refine Rg.lr 8 (exec_alloc2 rfl) ?_;go_frame;refine Rg.list_skip none rfl rfl (Rg.exec_store _ _ _ rfl _ rfl _ rfl hst) ?_;go_frame;have CX:=ι (show ClX w wx fb n φ' (fb+1) gb (.slice ga gs.length gc) (.slice ta T.length tc) T wd.heap.size z from ⟨CM.out.below hbx,hx0,hx1,fun e=>by have:=CM.out.f.lt; omega,fun e=>by have:=(CM.out.t.lt _ e).2; omega⟩);clear hst hx0 hx1 hbx CM CP0 CP1;generalize wd.heap.size=xb at *;obtain ⟨p1,hp1⟩:∃ p,Hid (z.1=p):=⟨_,ι rfl⟩;obtain ⟨p2,hp2⟩:∃ p,Hid (z.2=p):=⟨_,ι rfl⟩;have CX0:=ι CX.out.x0;have CX1:=ι CX.out.x1;rw [hp1.out] at CX0 z1;rw [hp2.out] at CX1 z2;have HZ:=ι (show z=(p1,p2) by rw [← hp1.out,← hp2.out]);go_upto_region 6 with (fail);refine wp_region_list ?_;refine Rg.lm 18 (.slice (some ⟨fb,0,none⟩) n n) ?_;go_frame;refine Rg.lr 19 (exec_indexArr _ _ rfl Tryz.underlying108 szI xb (0) (0) rfl rfl (by omega)) ?_;go_frame
   refine Rg.lr 20 (Rg.exec_load (v:=.int .i64 ((p1:Nat):Int)) _ _ rfl ⟨xb,0+0,none⟩ rfl (run_loadInt CX0.out.cell)) ?_;go_frame;refine Rg.lr 21 (exec_indexArr _ _ rfl Tryz.underlying108 szI xb (0) (1) rfl rfl (by omega)) ?_;go_frame;refine Rg.lr 22 (Rg.exec_load (v:=.int .i64 ((p2:Nat):Int)) _ _ rfl ⟨xb,0+1,none⟩ rfl (run_loadInt CX1.out.cell)) ?_;go_frame;refine list_ask (some 23) rfl rfl _ _ (exec_fn3 168 _ _ _ _ rfl rfl rfl rfl (Hecl0 _ _)) ?_;refine (unite_any fb n n φ' p1 p2 wx CX.out.m.f HCI.out.fo z1 z2 (by omega) (Nat.le_refl _)).mono ?_;rintro e1 w21 ⟨φ3,r,rfl,hrow3,hu3,hkp3⟩;have hcx3:=CX.out.uni hrow3 hkp3;have HU3:=ι hu3;clear hrow3 hu3;refine ⟨_,rfl,?_⟩;go_frame;clear CX0;clear CX1;replace CX:=ι hcx3;clear hkp3 hcx3;have HCI2:=ι (HCI.out.unite (img_lt HGG.out) HU3.out z1 z2 (.base (show (p1,p2)∈T0 by rw [← HZ.out,← hz.out]; exact List.getElem_mem hil)))
   have HBS2:=ι (show ∀ j (h:j<T0.length),j<i+1→Bk.rt φ3 T0[j].1=Bk.rt φ3 T0[j].2 from fun j h hj=>by
    by_cases e:j=i
    ·subst e
     have e2:T0[j]=(p1,p2):=hz.out.trans HZ.out;rw [e2];exact HU3.out.new
    ·obtain ⟨a1,a2⟩:=HR.out _ (List.getElem_mem h)
     exact HU3.out.keep _ _ a1 a2 (HBS.out j h (by omega)))
   cases r with
   | false =>
    have HT3:=ι (show T.length≤i+1 by have:=HTL.out; omega);have CM3:=ι CX.out.m;go_upto_region 8 with (fail);refine wp_region_list ?_;refine Rg.lr 28 (exec_bin (R:=.int .i64 (((i+1):Nat):Int)) .add _ _ _ rfl rfl rfl (b_add _ (by omega) (by omega))) ?_;go_frame;refine Rg.lm 14 (.int .i64 (((i+1):Nat):Int)) ?_;go_frame;go_wp2
    go_roundw
    case rel=>exact ⟨i+1,φ3,T,by go_num,hil,HCI2,HT3,HBS2,CM3⟩
    case measure=>simp [intOf]; omega
   | true =>
    have HT3:=ι (show (T++[(p1,p2)]).length≤i+1 by rw [List.length_append,List.length_singleton]; have:=HTL.out; omega);obtain ⟨a9,c9,X9,r1,hcx⟩:=CX.out.push (p1,p2) (by omega) 176;have CX0:=ι CX.out.x0;have CX1:=ι CX.out.x1;rw [hp1.out] at CX0;rw [hp2.out] at CX1;go_upto_region 7 with (fail);refine wp_region_list ?_;refine Rg.lm 24 (.slice ta T.length tc) ?_;go_frame;refine Rg.lr 25 (Rg.exec_load (v:=.agg #[.int .i64 ((p1:Nat):Int),.int .i64 ((p2:Nat):Int)]) _ _ rfl ⟨xb,0,none⟩ rfl (run_load2 CX0.out.cell CX1.out.cell)) ?_;go_frame;refine Rg.lr 26 (Rg.exec_buildSlice _ _ _ rfl (.agg #[.int .i64 ((p1:Nat):Int),.int .i64 ((p2:Nat):Int)]) rfl (run_build2p w21 _ _)) ?_;go_frame;refine Rg.lr 27 (Rg.exec_append _ _ _ rfl rfl rfl r1) ?_;go_frame;refine Rg.la 6 (.slice a9 (T.length+1) c9) ?_;go_frame;have CM3:=ι hcx.m;clear r1 hcx;go_upto_region 8 with (fail)
    refine wp_region_list ?_;refine Rg.lr 28 (exec_bin (R:=.int .i64 (((i+1):Nat):Int)) .add _ _ _ rfl rfl rfl (b_add _ (by omega) (by omega))) ?_;go_frame;refine Rg.lm 14 (.int .i64 (((i+1):Nat):Int)) ?_;go_frame;go_wp2
    go_roundw
    case rel=>exact ⟨i+1,φ3,T++[(p1,p2)],by go_num,hil,HCI2,HT3,HBS2,CM3⟩
    case measure=>simp [intOf]; omega
  case neg =>
   obtain rfl:i=T0.length:=by omega
   have hprt:=prt_le n φ';have G0:=ι CM.out.g0;have G1:=ι CM.out.g1;go_upto_region 4 with (fail);refine wp_region_list ?_;refine Rg.lr 15 (exec_bin (R:=.bool false) .lss _ _ _ rfl rfl rfl (b_lss _ (decide_eq_false (by omega)))) ?_;go_frame;go_upto_region 9 with (fail);refine wp_region_list ?_;refine Rg.lm 29 (.slice (some ⟨fb,0,none⟩) n n) ?_;go_frame;refine Rg.lr 30 (Rg.exec_load (v:=.agg #[.int .i64 ((n:Nat):Int),.slice ga gs.length gc]) _ _ rfl ⟨gb,0,none⟩ rfl (run_loadG G0.out.cell G1.out.cell)) ?_;go_frame;refine Rg.lm 31 (.slice ta T.length tc) ?_;go_frame;refine list_ask (some 32) rfl rfl _ _ (exec_fn3 169 _ _ _ _ rfl rfl rfl rfl (Hfcl2 _ _)) ?_;refine (fclose_any w wd fb n n φ' _ _ gs (fb+1) [] T (inT T0) CM.out.bel CM.out.lo CM.out.lB CM.out.sz (by omega) (Nat.le_refl _) HG.out HGG.out hgl CM.out.f CM.out.t (by omega) HCI.out).mono ?_;rintro e1 w61 ⟨φ4,D4,rfl,hrow4,hci4,hmo4,hb4⟩
   have R4:=ι hrow4;have HCI4:=ι hci4;have HMO4:=ι hmo4;have K4:=ι hb4;have hk4:=hb4;clear hrow4 hci4 hmo4;refine ⟨_,rfl,?_⟩;go_frame;clear hk4;have HLO:=ι CM.out.lo
   have HCL:=ι (HCI4.out.closed (img_lt HGG.out) (fun a b h=>HR.out (a,b) h) (fun a b h=>by
    obtain ⟨j,hj,e⟩:=List.getElem_of_mem (show (a,b)∈T0 from h);obtain ⟨a1,a2⟩:=HR.out _ (List.getElem_mem hj);have h1:=HMO4.out _ _ a1 a2 (HBS.out j hj hj);rw [e] at h1
    exact h1))
   go_upto_region 10 with (fail);refine wp_region_list ?_;refine Rg.lm 33 (.slice (some ⟨fb,0,none⟩) n n) ?_;go_frame;refine list_ask (some 34) rfl rfl _ _ (exec_fn1 170 _ _ rfl rfl (Hfcl3 _ _)) ?_;refine (labels_any fb n n φ4 w61 R4.out HCI4.out.fo R4.out.lt (by omega) (Nat.le_refl _)).mono ?_;rintro e1 w62 ⟨ob,L,rfl,ho1,ho2,ho3,ho4,ho5⟩;have HO:=ι (And.intro ho1 (And.intro ho2 ho3));have HL:=ι ho4;have K5:=ι (Rg.Kp.below K4.out ho5 (fun z e=>e▸HLO.out));have hk5:=ho5;clear ho1 ho2 ho3 ho4 ho5;refine ⟨_,rfl,?_⟩;go_frame;clear hk5;refine Rg.la 4 (.slice (some ⟨ob,0,none⟩) n n) ?_;go_frame;go_wp2;go_ret;exact ⟨_,L,rfl,⟨⟨ob,rfl,Nat.le_trans K4.out.size HO.out.1,HO.out.2.1,HO.out.2.2⟩,HL.out.len,K5.out⟩,HL.out.congr HCL.out⟩

structure OwZ (B:Nat) (W:World) (v:Value) (l:List Int):Prop where
 row:W.ownsRow B 3 1 v l.length (l.map (Value.int .i64))
theorem OwZ.below {B:Nat} {W W':World} {v:Value} {l:List Int} (h:OwZ B W v l) (hb:Below W.heap.size W W'):OwZ B W' v l:=⟨Rg.row_below h.row hb⟩
theorem OwZ.nil (B:Nat) (W:World):OwZ B W (.slice none 0 0) []:=⟨World.ownsRow_nil _ _ _ _⟩
theorem OwZ.sh {B:Nat} {W:World} {v:Value} {l:List Int} (h:OwZ B W v l):∃ a c,v=.slice a l.length c:=Rg.row_shape h.row
theorem OwZ.lt {B:Nat} {W:World} {v:Value} {l:List Int} (h:OwZ B W v l):∀ k,v.ownBlock=some k→B≤k∧k<W.heap.size:=fun k e=>World.ownsRow.lt h.row k e
theorem OwZ.kp {M:Nat→Prop} {B:Nat} {w w':World} {v:Value} {l:List Int} (h:OwZ B w v l) (hk:Rg.Kp M w w') (hM:∀ k,M k→v.ownBlock≠some k):OwZ B w' v l:=⟨rowKp h.row hk hM⟩
theorem OwZ.ints {B:Nat} {W:World} {v:Value} {l:List Int} (h:OwZ B W v l) (hl:l.length≤1000000000):Rg.Ints W v l:=Rg.Ints.of_row h.row hl
theorem OwZ.push {B:Nat} {W:World} {v:Value} {l:List Int} (h:OwZ B W v l) (hB:B≤W.heap.size) (x:Int) (hn:l.length<1000000) (ty:TypeId) :
  ∃ a c X,(Builtin.append_ #[36,36] ty #[v,.slice (some ⟨W.heap.size,0,none⟩) 1 1]).run Tryz.prog (W.alloc (.cells #[.int .i64 x] 3))=.ok (.slice a (l.length+1) c) X∧OwZ B X (.slice a (l.length+1) c) (l++[x])∧Rg.Kp (fun k=>v.ownBlock=some k) W X∧(∀ k,(Value.slice a (l.length+1) c).ownBlock=some k→v.ownBlock=some k∨W.heap.size≤k):=by
 have hb:Below W.heap.size W (W.alloc (.cells #[.int .i64 x] 3)):=(Below.refl _ _).alloc (Nat.le_refl _) _
 have e2:(W.alloc (.cells #[.int .i64 x] 3)).heap.size=W.heap.size+1:=by simp
 have c0:(W.alloc (.cells #[.int .i64 x] 3)).cell? ⟨W.heap.size,0,none⟩=some (.int .i64 x):=by rw [Rg.cellNew]; rfl
 have h':=Rg.row_below h.row hb;generalize W.alloc (.cells #[.int .i64 x] 3)=W1 at *;obtain ⟨v',X,r1,r2,r3,r4,a,c,rfl⟩:=app_run (P:=Tryz.prog) slInts ty h' (by omega) W.heap.size 1 (u:=.int .i64 x) c0 rfl hn;refine ⟨a,c,X,r1,⟨by rw [List.length_append,List.map_append]; exact r2⟩,Rg.Kp.trans (M:=fun k=>v.ownBlock=some k) ((Rg.Kp.of_below hb).weak fun _=>False.elim) (Rg.Kp.of_grown r3 fun _ e=>e) (fun _ _ e=>e),fun k e=>?_⟩
 rcases r4 with r4 | r4
 ·exact .inl (by rw [← r4]; exact e)
 ·rw [r4] at e
  injection e with e
  exact .inr (by omega)
structure NbM (w W:World) (ov sv:Value) (out:List Nat) (seen:List Int):Prop where
 bel:Below w.heap.size w W
 o:OwZ w.heap.size W ov (Ma.ofN out)
 s:OwZ w.heap.size W sv seen
 dis:∀ k,ov.ownBlock=some k→sv.ownBlock≠some k
theorem NbM.below {w W W':World} {ov sv:Value} {out:List Nat} {seen:List Int} (h:NbM w W ov sv out seen) (hb:Below W.heap.size W W'):NbM w W' ov sv out seen:=⟨h.bel.trans (hb.mono h.bel.size),h.o.below hb,h.s.below hb,h.dis⟩
theorem NbM.pushO {w W:World} {ov sv:Value} {out:List Nat} {seen:List Int} (h:NbM w W ov sv out seen) (x:Nat) (hn:out.length<1000000) (ty:TypeId) :
  ∃ a c X,(Builtin.append_ #[36,36] ty #[ov,.slice (some ⟨W.heap.size,0,none⟩) 1 1]).run Tryz.prog (W.alloc (.cells #[.int .i64 ((x:Nat):Int)] 3))=.ok (.slice a (out.length+1) c) X∧NbM w X (.slice a (out.length+1) c) sv (out++[x]) seen:=by
 obtain ⟨a,c,X,r1,r2,r3,r4⟩:=h.o.push h.bel.size ((x:Nat):Int) (by rw [Ma.len_ofN]; exact hn) ty;rw [Ma.len_ofN] at r1 r2 r4
 have e:Ma.ofN out++[((x:Nat):Int)]=Ma.ofN (out++[x]):=by simp [Ma.ofN]
 rw [e] at r2;refine ⟨a,c,X,r1,Rg.Kp.below h.bel r3 (fun k e=>(h.o.lt k e).1),r2,h.s.kp r3 (fun k e=>h.dis k e),fun k e e2=>?_⟩
 rcases r4 k e with e3 | e3
 ·exact h.dis k e3 e2
 ·have:=(h.s.lt k e2).2; omega
theorem NbM.pushS {w W:World} {ov sv:Value} {out:List Nat} {seen:List Int} (h:NbM w W ov sv out seen) (x:Int) (hn:seen.length<1000000) (ty:TypeId) :
  ∃ a c X,(Builtin.append_ #[36,36] ty #[sv,.slice (some ⟨W.heap.size,0,none⟩) 1 1]).run Tryz.prog (W.alloc (.cells #[.int .i64 x] 3))=.ok (.slice a (seen.length+1) c) X∧NbM w X ov (.slice a (seen.length+1) c) out (seen++[x]):=by
 obtain ⟨a,c,X,r1,r2,r3,r4⟩:=h.s.push h.bel.size x hn ty;refine ⟨a,c,X,r1,Rg.Kp.below h.bel r3 (fun k e=>(h.s.lt k e).1),h.o.kp r3 (fun k e e2=>h.dis k e2 e),r2,fun k e e2=>?_⟩
 rcases r4 k e2 with e3 | e3
 ·exact h.dis k e e3
 ·have:=(h.o.lt k e).2; omega
theorem getI_at {l:List Int} {i:Nat} (h:i<l.length):l.getD i 0=l[i]:=by rw [List.getD_eq_getElem?_getD,List.getElem?_eq_getElem h,Option.getD_some]
def NbPost (l:List Int) (w:World) (e:Ending) (w':World):Prop:=∃ v L,e=.returned v∧OwZ w.heap.size w' v (Ma.ofN L)∧Bk.IsLab l.length (fun a b=>l.getD a 0=l.getD b 0) L∧Below w.heap.size w w'
theorem numbered_any (v:Value) (l:List Int) (w:World) (h:Rg.Ints w v l) (hl:l.length≤1000) :
  Calls Tryz.prog 258 #[v] w (NbPost l w):=by
 obtain ⟨la,lc,rfl,-,-,-,hlx⟩:=h.shape;have HLX:=ι hlx;have NM:=ι (show NbM w w (.slice none 0 0) (.slice none 0 0) [] [] from ⟨Below.refl _ _,OwZ.nil _ _,OwZ.nil _ _,fun k e=>by simp [Value.ownBlock] at e⟩);have NI:=ι (Bk.NbI.start l);clear h hlx
 go_enter Tryz.func258,Tryz.ntmps258
 go_upto_region 0 with (fail);refine wp_region_list ?_;refine Rg.la 2 (.slice none 0 0) ?_;go_frame;go_upto_region 1 with (fail);refine wp_region_list ?_;refine Rg.la 3 (.slice none 0 0) ?_;go_frame;refine Rg.la 4 (.slice none 0 0) ?_;go_frame;go_upto_region 2 with (fail);refine wp_region_list ?_;refine Rg.la 5 (.int .i64 ((0:Nat):Int)) ?_;go_frame;go_wp2
 go_loopw [3,4,5] (fun ov sv iv wr=>∃ (out:List Nat) (seen:List Int) (i:Nat),iv=.int .i64 ((i:Nat):Int)∧i≤l.length∧out.length=i∧seen.length≤i∧Hid (Bk.NbI l out seen)∧Hid (NbM w wr ov sv out seen)) (fun _ _ iv _=>l.length - (intOf iv).toNat)
 case atStart=>exact ⟨[],[],0,rfl,Nat.zero_le _,rfl,Nat.le_refl _,NI,NM⟩
 case round =>
  clear NI NM;obtain ⟨out,seen,i,rfl,hi,hol,hsl,NI,NM⟩:=hrel;obtain ⟨oa,oc,hsh⟩:=NM.out.o.sh;rw [Ma.len_ofN,hol] at hsh;subst hsh;obtain ⟨sa,sc,hsh⟩:=NM.out.s.sh;subst hsh;generalize wr=wd at *
  by_cases hil:i<l.length
  case neg =>
   obtain rfl:i=l.length:=by omega
   go_upto_region 3 with (fail);refine wp_region_list ?_;refine Rg.lm 7 (.int .i64 ((l.length:Nat):Int)) ?_;go_frame;refine Rg.lm 8 (.slice la l.length lc) ?_;go_frame;refine Rg.lr 9 (exec_len _ _ _ rfl Tryz.underlying36 _ _ _ rfl) ?_;go_frame;refine Rg.lr 10 (exec_bin (R:=.bool false) .lss _ _ _ rfl rfl rfl (b_lss _ (decide_eq_false (by omega)))) ?_;go_frame;go_upto_region 11 with (fail);refine wp_region_list ?_;refine Rg.lm 45 (.slice oa l.length oc) ?_;go_frame;refine Rg.la 2 (.slice oa l.length oc) ?_;go_frame;go_wp2;go_ret;exact ⟨_,out,rfl,NM.out.o,NI.out.lab hol,NM.out.bel⟩
  case pos =>
   obtain ⟨lb,lo,rfl,hlb,hlc⟩:=HLX.out (by omega);obtain ⟨x,hx⟩:∃ x,Hid (l[i]'hil=x):=⟨_,ι rfl⟩;have hlc2:=hlc i hil;rw [hx.out] at hlc2;have CL0:=ι (CL.up (CL.mk hlc2 hlb) NM.out.bel)
   have hsm:seen.length≤1000:=by omega
   clear hlc hlc2 hlb;go_upto_region 3 with (fail);refine wp_region_list ?_;refine Rg.lm 7 (.int .i64 ((i:Nat):Int)) ?_;go_frame;refine Rg.lm 8 (.slice (some ⟨lb,lo,none⟩) l.length lc) ?_;go_frame;refine Rg.lr 9 (exec_len _ _ _ rfl Tryz.underlying36 _ _ _ rfl) ?_;go_frame;refine Rg.lr 10 (exec_bin (R:=.bool true) .lss _ _ _ rfl rfl rfl (b_lss _ (decide_eq_true (by omega)))) ?_;go_frame;go_upto_region 5 with (fail);refine wp_region_list ?_;refine Rg.la 6 (.int .i64 ((0:Nat):Int)) ?_;go_frame;have HN0:=ι (show ∀ j (h:j<seen.length),j<0→seen[j]≠x from fun j _ h=>absurd h (Nat.not_lt_zero _));go_wp2
   go_loopw [6] (fun kv wr=>∃ k:Nat,kv=.int .i64 ((k:Nat):Int)∧k≤seen.length∧Hid (∀ j (h:j<seen.length),j<k→seen[j]≠x)∧Hid (NbM w wr (.slice oa i oc) (.slice sa seen.length sc) out seen)∧Hid (CL wr lb (lo+i) (.int .i64 x))) (fun kv _=>seen.length - (intOf kv).toNat)
   case atStart=>exact ⟨0,rfl,Nat.zero_le _,HN0,NM,CL0⟩
   case round =>
    clear HN0 NM CL0;obtain ⟨k,rfl,hk,HN,NM,CL0⟩:=hrel;generalize wr=we at *
    by_cases hks:k<seen.length
    case pos =>
     obtain ⟨sb,so,rfl,hsb,hsc⟩:=ints_get (NM.out.s.ints (by omega)) hks;obtain ⟨y,hy⟩:∃ y,Hid (seen[k]'hks=y):=⟨_,ι rfl⟩;rw [hy.out] at hsc;have CS:=ι (CL.mk hsc hsb);clear hsc hsb
     by_cases hyx:y=x
     case neg =>
      have HN2:=ι (show ∀ j (h:j<seen.length),j<k+1→seen[j]≠x from fun j h hj=>by
       by_cases e:j=k
       ·subst e; rw [hy.out]; exact hyx
       ·exact HN.out j h (by omega))
      go_upto_region 6 with (fail);have hV0:Below we.heap.size we we.drew:=(Below.refl _ _).drew;replace NM:=ι (NM.out.below hV0);replace CL0:=ι (CL0.out.below hV0);replace CS:=ι (CS.out.below hV0);clear hV0;refine Rg.Any.begin (S:=Rg.Both 14 (fun _=>True) (fun W=>Below we.drew.heap.size we.drew W)) mix ?_;generalize we.drew=w41 at *;have hS:∀ (l:Array Bool) W,Below w41.heap.size w41 W→Rg.Both 14 (fun _=>True) (fun W=>Below w41.heap.size w41 W) l W:=fun l W h=>⟨.inr trivial,h⟩;have hI:Below w41.heap.size w41 w41:=Below.refl _ _;refine Rg.tm 0 14 (.int .i64 ((k:Nat):Int)) 13 (hS _ _ hI) ?_;go_frame;refine Rg.tm 1 14 (.slice (some ⟨sb,so,none⟩) seen.length sc) 14 (hS _ _ hI) ?_;go_frame;refine Rg.tg 2 14 (.int .i64 ((seen.length:Nat):Int)) 15 rfl rfl (.inl ⟨rfl,fun w _=>exec_len _ _ _ rfl Tryz.underlying36 _ _ _ rfl⟩) (hS _ _ hI) ?_;go_frame
      refine Rg.tg 3 14 (.bool true) 16 rfl rfl (.inl ⟨rfl,fun w _=>exec_bin (R:=.bool true) .lss _ _ _ rfl rfl rfl (b_lss _ (decide_eq_true (by omega)))⟩) (hS _ _ hI) ?_;go_frame;refine Rg.tm 4 14 (.bool true) 17 (hS _ _ hI) ?_;go_frame;refine Rg.tm 5 14 (.slice (some ⟨sb,so,none⟩) seen.length sc) 18 (hS _ _ hI) ?_;go_frame;refine Rg.tm 6 14 (.int .i64 ((k:Nat):Int)) 19 (hS _ _ hI) ?_;go_frame;refine Rg.tg 7 14 (.pointer (some ⟨sb,so+k,none⟩)) 20 rfl rfl (Rg.yields_index slInts _ _ rfl rfl sb (so) (seen.length) sc (k) rfl rfl hks) (hS _ _ hI) ?_;go_frame;refine Rg.tg 8 14 (.int .i64 y) 21 rfl rfl (Rg.yields_cell _ _ rfl rfl ⟨sb,so+k,none⟩ rfl (fun W hW=>run_loadInt ((Below.cell (p:=⟨sb,so+k,none⟩) hW CS.out.lt).trans CS.out.cell))) (hS _ _ hI) ?_;go_frame;refine Rg.tm 9 14 (.slice (some ⟨lb,lo,none⟩) l.length lc) 22 (hS _ _ hI) ?_;go_frame;refine Rg.tm 10 14 (.int .i64 ((i:Nat):Int)) 23 (hS _ _ hI) ?_;go_frame
      refine Rg.tg 11 14 (.pointer (some ⟨lb,lo+i,none⟩)) 24 rfl rfl (Rg.yields_index slInts _ _ rfl rfl lb (lo) (l.length) lc (i) rfl rfl hil) (hS _ _ hI) ?_;go_frame;refine Rg.tg 12 14 (.int .i64 x) 25 rfl rfl (Rg.yields_cell _ _ rfl rfl ⟨lb,lo+i,none⟩ rfl (fun W hW=>run_loadInt ((Below.cell (p:=⟨lb,lo+i,none⟩) hW CL0.out.lt).trans CL0.out.cell))) (hS _ _ hI) ?_;go_frame;refine Rg.tg 13 14 (.bool true) 26 rfl rfl (.inl ⟨rfl,fun w _=>exec_bin (R:=.bool true) .neq _ _ _ rfl rfl rfl (b_neqB _ (decide_eq_true hyx))⟩) (hS _ _ hI) ?_;go_frame;refine Rg.Any.one (i:=14) (by kernel_rfl) (Rg.Any.run (some 27) rfl rfl rfl (exec_pickT (v:=.bool true) _ _ _ rfl rfl rfl) (hS _ _ hI) ?_);go_frame;refine Rg.Any.done (by kernel_rfl) ?_ _;clear hS hI;go_upto_region 7 with (fail);refine wp_region_list ?_;refine Rg.lm 28 (.int .i64 ((k:Nat):Int)) ?_;go_frame;refine Rg.lr 29 (exec_bin (R:=.int .i64 (((k+1):Nat):Int)) .add _ _ _ rfl rfl rfl (b_add _ (by omega) (by omega))) ?_;go_frame
      refine Rg.la 6 (.int .i64 (((k+1):Nat):Int)) ?_;go_frame;go_wp2
      go_roundw
      case rel=>exact ⟨k+1,by go_num,hks,HN2,NM,CL0⟩
      case measure=>simp [intOf]; omega
     case pos =>
      subst hyx;go_upto_region 6 with (fail);have hV0:Below we.heap.size we we.drew:=(Below.refl _ _).drew;replace NM:=ι (NM.out.below hV0);replace CL0:=ι (CL0.out.below hV0);replace CS:=ι (CS.out.below hV0);clear hV0;refine Rg.Any.begin (S:=Rg.Both 14 (fun _=>True) (fun W=>Below we.drew.heap.size we.drew W)) mix ?_;generalize we.drew=w61 at *;have hS:∀ (l:Array Bool) W,Below w61.heap.size w61 W→Rg.Both 14 (fun _=>True) (fun W=>Below w61.heap.size w61 W) l W:=fun l W h=>⟨.inr trivial,h⟩;have hI:Below w61.heap.size w61 w61:=Below.refl _ _;refine Rg.tm 0 14 (.int .i64 ((k:Nat):Int)) 13 (hS _ _ hI) ?_;go_frame;refine Rg.tm 1 14 (.slice (some ⟨sb,so,none⟩) seen.length sc) 14 (hS _ _ hI) ?_;go_frame;refine Rg.tg 2 14 (.int .i64 ((seen.length:Nat):Int)) 15 rfl rfl (.inl ⟨rfl,fun w _=>exec_len _ _ _ rfl Tryz.underlying36 _ _ _ rfl⟩) (hS _ _ hI) ?_;go_frame
      refine Rg.tg 3 14 (.bool true) 16 rfl rfl (.inl ⟨rfl,fun w _=>exec_bin (R:=.bool true) .lss _ _ _ rfl rfl rfl (b_lss _ (decide_eq_true (by omega)))⟩) (hS _ _ hI) ?_;go_frame;refine Rg.tm 4 14 (.bool true) 17 (hS _ _ hI) ?_;go_frame;refine Rg.tm 5 14 (.slice (some ⟨sb,so,none⟩) seen.length sc) 18 (hS _ _ hI) ?_;go_frame;refine Rg.tm 6 14 (.int .i64 ((k:Nat):Int)) 19 (hS _ _ hI) ?_;go_frame;refine Rg.tg 7 14 (.pointer (some ⟨sb,so+k,none⟩)) 20 rfl rfl (Rg.yields_index slInts _ _ rfl rfl sb (so) (seen.length) sc (k) rfl rfl hks) (hS _ _ hI) ?_;go_frame;refine Rg.tg 8 14 (.int .i64 y) 21 rfl rfl (Rg.yields_cell _ _ rfl rfl ⟨sb,so+k,none⟩ rfl (fun W hW=>run_loadInt ((Below.cell (p:=⟨sb,so+k,none⟩) hW CS.out.lt).trans CS.out.cell))) (hS _ _ hI) ?_;go_frame;refine Rg.tm 9 14 (.slice (some ⟨lb,lo,none⟩) l.length lc) 22 (hS _ _ hI) ?_;go_frame;refine Rg.tm 10 14 (.int .i64 ((i:Nat):Int)) 23 (hS _ _ hI) ?_;go_frame
      refine Rg.tg 11 14 (.pointer (some ⟨lb,lo+i,none⟩)) 24 rfl rfl (Rg.yields_index slInts _ _ rfl rfl lb (lo) (l.length) lc (i) rfl rfl hil) (hS _ _ hI) ?_;go_frame;refine Rg.tg 12 14 (.int .i64 y) 25 rfl rfl (Rg.yields_cell _ _ rfl rfl ⟨lb,lo+i,none⟩ rfl (fun W hW=>run_loadInt ((Below.cell (p:=⟨lb,lo+i,none⟩) hW CL0.out.lt).trans CL0.out.cell))) (hS _ _ hI) ?_;go_frame;refine Rg.tg 13 14 (.bool false) 26 rfl rfl (.inl ⟨rfl,fun w _=>exec_bin (R:=.bool false) .neq _ _ _ rfl rfl rfl (b_neqB _ (decide_eq_false (fun h=>h rfl)))⟩) (hS _ _ hI) ?_;go_frame;refine Rg.Any.one (i:=14) (by kernel_rfl) (Rg.Any.run (some 27) rfl rfl rfl (exec_pickT (v:=.bool false) _ _ _ rfl rfl rfl) (hS _ _ hI) ?_);go_frame;refine Rg.Any.done (by kernel_rfl) ?_ _;clear hS hI;have HNI:=ι (NI.out.old (k:=k) (by rw [hol]; exact hil) hks (by simp only [hol]; rw [hy.out,hx.out]));go_upto_region 8 with (fail)
      refine wp_region_list ?_;refine Rg.lm 30 (.int .i64 ((k:Nat):Int)) ?_;go_frame;refine Rg.lm 31 (.slice (some ⟨sb,so,none⟩) seen.length sc) ?_;go_frame;refine Rg.lr 32 (exec_len _ _ _ rfl Tryz.underlying36 _ _ _ rfl) ?_;go_frame;refine Rg.lr 33 (exec_bin (R:=.bool false) .eql _ _ _ rfl rfl rfl (b_eql _ (decide_eq_false (by omega)))) ?_;go_frame;obtain ⟨a9,c9,X9,r1,hnm⟩:=NM.out.pushO k (by omega) 36;rw [hol] at r1 hnm;go_upto_region 10 with (fail);refine wp_region_list ?_;refine Rg.lm 41 (.slice oa i oc) ?_;go_frame;refine Rg.lm 42 (.int .i64 ((k:Nat):Int)) ?_;go_frame;refine Rg.lr 43 (Rg.exec_buildSlice _ _ _ rfl (.int .i64 ((k:Nat):Int)) rfl (run_build1i w61 _)) ?_;go_frame;refine Rg.lr 44 (Rg.exec_append _ _ _ rfl rfl rfl r1) ?_;go_frame;refine Rg.la 3 (.slice a9 (i+1) c9) ?_;go_frame;have NM9:=ι hnm;clear r1 hnm;go_upto_region 4 with (fail);refine wp_region_list ?_
      refine Rg.lm 11 (.int .i64 ((i:Nat):Int)) ?_;go_frame;refine Rg.lr 12 (exec_bin (R:=.int .i64 (((i+1):Nat):Int)) .add _ _ _ rfl rfl rfl (b_add _ (by omega) (by omega))) ?_;go_frame;refine Rg.la 5 (.int .i64 (((i+1):Nat):Int)) ?_;go_frame;go_wp2
      go_roundw
      case rel=>exact ⟨out++[k],seen,i+1,by go_num,hil,by rw [List.length_append,hol]; rfl,by omega,HNI,NM9⟩
      case measure=>simp [intOf]; omega
    case neg =>
     obtain rfl:k=seen.length:=by omega
     go_upto_region 6 with (fail);have hV0:Below we.heap.size we we.drew:=(Below.refl _ _).drew;replace NM:=ι (NM.out.below hV0);replace CL0:=ι (CL0.out.below hV0);clear hV0;refine Rg.Any.begin (S:=Rg.Both 14 (fun _=>True) (fun W=>Below we.drew.heap.size we.drew W)) mix ?_;generalize we.drew=w81 at *;have hS:∀ (l:Array Bool) W,Below w81.heap.size w81 W→Rg.Both 14 (fun _=>True) (fun W=>Below w81.heap.size w81 W) l W:=fun l W h=>⟨.inr trivial,h⟩;have hI:Below w81.heap.size w81 w81:=Below.refl _ _;refine Rg.tm 0 14 (.int .i64 ((seen.length:Nat):Int)) 13 (hS _ _ hI) ?_;go_frame;refine Rg.tm 1 14 (.slice sa seen.length sc) 14 (hS _ _ hI) ?_;go_frame;refine Rg.tg 2 14 (.int .i64 ((seen.length:Nat):Int)) 15 rfl rfl (.inl ⟨rfl,fun w _=>exec_len _ _ _ rfl Tryz.underlying36 _ _ _ rfl⟩) (hS _ _ hI) ?_;go_frame;refine Rg.tg 3 14 (.bool false) 16 rfl rfl (.inl ⟨rfl,fun w _=>exec_bin (R:=.bool false) .lss _ _ _ rfl rfl rfl (b_lss _ (decide_eq_false (by omega)))⟩) (hS _ _ hI) ?_;go_frame
     refine Rg.tm 4 14 (.bool false) 17 (hS _ _ hI) ?_;go_frame;refine Rg.tg 5 14 (undef) 18 rfl rfl (.inr ⟨rfl,rfl⟩) (hS _ _ hI) ?_;go_frame;refine Rg.tg 6 14 (undef) 19 rfl rfl (.inr ⟨rfl,rfl⟩) (hS _ _ hI) ?_;go_frame;refine Rg.tg 7 14 (undef) 20 rfl rfl (.inr ⟨rfl,rfl⟩) (hS _ _ hI) ?_;go_frame;refine Rg.tg 8 14 (undef) 21 rfl rfl (.inr ⟨rfl,rfl⟩) (hS _ _ hI) ?_;go_frame;refine Rg.tg 9 14 (undef) 22 rfl rfl (.inr ⟨rfl,rfl⟩) (hS _ _ hI) ?_;go_frame;refine Rg.tg 10 14 (undef) 23 rfl rfl (.inr ⟨rfl,rfl⟩) (hS _ _ hI) ?_;go_frame;refine Rg.tg 11 14 (undef) 24 rfl rfl (.inr ⟨rfl,rfl⟩) (hS _ _ hI) ?_;go_frame;refine Rg.tg 12 14 (undef) 25 rfl rfl (.inr ⟨rfl,rfl⟩) (hS _ _ hI) ?_;go_frame;refine Rg.tg 13 14 (undef) 26 rfl rfl (.inr ⟨rfl,rfl⟩) (hS _ _ hI) ?_;go_frame;refine Rg.Any.one (i:=14) (by kernel_rfl) (Rg.Any.run (some 27) rfl rfl rfl (exec_pickF (v:=.bool false) _ _ _ rfl rfl rfl) (hS _ _ hI) ?_)
     go_frame;refine Rg.Any.done (by kernel_rfl) ?_ _;clear hS hI
     have HNI:=ι (NI.out.new (by rw [hol]; exact hil) (fun h=>by
      obtain ⟨j,hj,e⟩:=List.getElem_of_mem h;simp only [hol] at e;rw [hx.out] at e
      exact HN.out j hj hj e))
     simp only [hol] at HNI;rw [hx.out] at HNI;go_upto_region 8 with (fail);refine wp_region_list ?_;refine Rg.lm 30 (.int .i64 ((seen.length:Nat):Int)) ?_;go_frame;refine Rg.lm 31 (.slice sa seen.length sc) ?_;go_frame;refine Rg.lr 32 (exec_len _ _ _ rfl Tryz.underlying36 _ _ _ rfl) ?_;go_frame;refine Rg.lr 33 (exec_bin (R:=.bool true) .eql _ _ _ rfl rfl rfl (b_eql _ (decide_eq_true rfl))) ?_;go_frame;obtain ⟨a8,c8,X8,r0,hnm0⟩:=NM.out.pushS x (by omega) 36;go_upto_region 9 with (fail);refine wp_region_list ?_;refine Rg.lm 34 (.slice sa seen.length sc) ?_;go_frame;refine Rg.lm 35 (.slice (some ⟨lb,lo,none⟩) l.length lc) ?_;go_frame;refine Rg.lm 36 (.int .i64 ((i:Nat):Int)) ?_;go_frame;refine Rg.lr 37 (exec_indexS slInts _ _ rfl lb (lo) (l.length) lc (i) rfl rfl hil) ?_;go_frame;refine Rg.lr 38 (Rg.exec_load (v:=.int .i64 x) _ _ rfl ⟨lb,lo+i,none⟩ rfl (run_loadInt CL0.out.cell)) ?_;go_frame
     refine Rg.lr 39 (Rg.exec_buildSlice _ _ _ rfl (.int .i64 x) rfl (run_build1i w81 _)) ?_;go_frame;refine Rg.lr 40 (Rg.exec_append _ _ _ rfl rfl rfl r0) ?_;go_frame;refine Rg.la 4 (.slice a8 (seen.length+1) c8) ?_;go_frame;obtain ⟨a9,c9,X9,r1,hnm⟩:=hnm0.pushO seen.length (by omega) 36;rw [hol] at r1 hnm;clear r0 hnm0;go_upto_region 10 with (fail);refine wp_region_list ?_;refine Rg.lm 41 (.slice oa i oc) ?_;go_frame;refine Rg.lm 42 (.int .i64 ((seen.length:Nat):Int)) ?_;go_frame;refine Rg.lr 43 (Rg.exec_buildSlice _ _ _ rfl (.int .i64 ((seen.length:Nat):Int)) rfl (run_build1i X8 _)) ?_;go_frame;refine Rg.lr 44 (Rg.exec_append _ _ _ rfl rfl rfl r1) ?_;go_frame;refine Rg.la 3 (.slice a9 (i+1) c9) ?_;go_frame;have NM9:=ι hnm;clear r1 hnm;go_upto_region 4 with (fail);refine wp_region_list ?_;refine Rg.lm 11 (.int .i64 ((i:Nat):Int)) ?_;go_frame;refine Rg.lr 12 (exec_bin (R:=.int .i64 (((i+1):Nat):Int)) .add _ _ _ rfl rfl rfl (b_add _ (by omega) (by omega))) ?_;go_frame
     refine Rg.la 5 (.int .i64 (((i+1):Nat):Int)) ?_;go_frame;go_wp2
     go_roundw
     case rel=>exact ⟨out++[seen.length],seen++[x],i+1,by go_num,hil,by rw [List.length_append,hol]; rfl,by rw [List.length_append]; simp; omega,HNI,NM9⟩
     case measure=>simp [intOf]; omega
def IxPost (l:List Int) (x:Int) (w:World) (e:Ending) (w':World):Prop:=∃ k:Nat,k<l.length∧e=.returned (.int .i64 ((k:Nat):Int))∧l.getD k 0=x∧(∀ j,j<k→l.getD j 0≠x)∧Below w.heap.size w w'
theorem index_in (v:Value) (l:List Int) (x:Int) (w:World) (h:Rg.Ints w v l) (hl:l.length≤1000) (hm:x∈l) :
  Calls Tryz.prog 171 #[v,.int .i64 x] w (IxPost l x w):=by
 obtain ⟨la,lc,rfl,-,-,-,hlx⟩:=h.shape;obtain ⟨lb,lo,rfl,hlb,hlc⟩:=hlx (List.length_pos_of_mem hm);have HLC:=ι hlc;have HM:=ι hm;have HN0:=ι (show ∀ j,j<0→l.getD j 0≠x from fun j h=>absurd h (Nat.not_lt_zero _));have K:=ι (Below.refl w.heap.size w);clear h hlx hlc hm
 go_enter Tryz.func171,Tryz.ntmps171
 go_upto_region 0 with (fail);refine wp_region_list ?_;refine Rg.la 4 (.int .i64 ((0:Nat):Int)) ?_;go_frame;go_upto_region 1 with (fail);refine wp_region_list ?_;refine Rg.lm 6 (.slice (some ⟨lb,lo,none⟩) l.length lc) ?_;go_frame;refine Rg.lr 7 (exec_len _ _ _ rfl Tryz.underlying36 _ _ _ rfl) ?_;go_frame;refine Rg.lm 8 (.int .i64 ((0:Nat):Int)) ?_;go_frame;go_wp2
 go_loopw [8] (fun kv wr=>∃ k:Nat,kv=.int .i64 ((k:Nat):Int)∧k≤l.length∧Hid (∀ j,j<k→l.getD j 0≠x)∧Hid (Below w.heap.size w wr)) (fun kv _=>l.length - (intOf kv).toNat)
 case atStart=>exact ⟨0,rfl,Nat.zero_le _,HN0,K⟩
 case round =>
  clear HN0 K;obtain ⟨k,rfl,hk,HN,K⟩:=hrel;generalize wr=wd at *
  by_cases hkl:k<l.length
  case neg =>
   exfalso
   obtain ⟨j,hj,e⟩:=List.getElem_of_mem HM.out;exact HN.out j (by omega) (by rw [getI_at hj]; exact e)
  case pos =>
   obtain ⟨y,hy⟩:∃ y,Hid (l[k]'hkl=y):=⟨_,ι rfl⟩;have hc:=HLC.out k hkl;rw [hy.out] at hc;have C0:=ι (CL.up (CL.mk hc hlb) K.out);clear hc
   by_cases hxy:x=y
   case pos =>
    subst hxy;go_upto_region 2 with (fail);refine wp_region_list ?_;refine Rg.lr 9 (exec_bin (R:=.bool true) .lss _ _ _ rfl rfl rfl (b_lss _ (decide_eq_true (by omega)))) ?_;go_frame;go_upto_region 3 with (fail);refine wp_region_list ?_;refine Rg.lm 10 (.int .i64 ((k:Nat):Int)) ?_;go_frame;refine Rg.la 5 (.int .i64 ((k:Nat):Int)) ?_;go_frame;go_upto_region 4 with (fail);refine wp_region_list ?_;refine Rg.lm 11 (.int .i64 x) ?_;go_frame;refine Rg.lm 12 (.slice (some ⟨lb,lo,none⟩) l.length lc) ?_;go_frame;refine Rg.lm 13 (.int .i64 ((k:Nat):Int)) ?_;go_frame;refine Rg.lr 14 (exec_indexS slInts _ _ rfl lb (lo) (l.length) lc (k) rfl rfl hkl) ?_;go_frame;refine Rg.lr 15 (Rg.exec_load (v:=.int .i64 x) _ _ rfl ⟨lb,lo+k,none⟩ rfl (run_loadInt C0.out.cell)) ?_;go_frame;refine Rg.lr 16 (exec_bin (R:=.bool true) .eql _ _ _ rfl rfl rfl (b_eql _ (decide_eq_true rfl))) ?_;go_frame
    go_upto_region 5 with (fail);refine wp_region_list ?_;refine Rg.lm 17 (.int .i64 ((k:Nat):Int)) ?_;go_frame;refine Rg.la 4 (.int .i64 ((k:Nat):Int)) ?_;go_frame;go_wp2;go_ret;exact ⟨k,hkl,rfl,by rw [getI_at hkl]; exact hy.out,HN.out,K.out⟩
   case neg =>
    have HN2:=ι (show ∀ j,j<k+1→l.getD j 0≠x from fun j hj=>by
     by_cases e:j=k
     ·subst e; rw [getI_at hkl,hy.out]; exact fun e=>hxy e.symm
     ·exact HN.out j (by omega))
    go_upto_region 2 with (fail);refine wp_region_list ?_;refine Rg.lr 9 (exec_bin (R:=.bool true) .lss _ _ _ rfl rfl rfl (b_lss _ (decide_eq_true (by omega)))) ?_;go_frame;go_upto_region 3 with (fail);refine wp_region_list ?_;refine Rg.lm 10 (.int .i64 ((k:Nat):Int)) ?_;go_frame;refine Rg.la 5 (.int .i64 ((k:Nat):Int)) ?_;go_frame;go_upto_region 4 with (fail);refine wp_region_list ?_;refine Rg.lm 11 (.int .i64 x) ?_;go_frame;refine Rg.lm 12 (.slice (some ⟨lb,lo,none⟩) l.length lc) ?_;go_frame;refine Rg.lm 13 (.int .i64 ((k:Nat):Int)) ?_;go_frame;refine Rg.lr 14 (exec_indexS slInts _ _ rfl lb (lo) (l.length) lc (k) rfl rfl hkl) ?_;go_frame;refine Rg.lr 15 (Rg.exec_load (v:=.int .i64 y) _ _ rfl ⟨lb,lo+k,none⟩ rfl (run_loadInt C0.out.cell)) ?_;go_frame;refine Rg.lr 16 (exec_bin (R:=.bool false) .eql _ _ _ rfl rfl rfl (b_eql _ (decide_eq_false hxy))) ?_;go_frame;go_upto_region 6 with (fail)
    refine wp_region_list ?_;refine Rg.lr 18 (exec_bin (R:=.int .i64 (((k+1):Nat):Int)) .add _ _ _ rfl rfl rfl (b_add _ (by omega) (by omega))) ?_;go_frame;refine Rg.lm 8 (.int .i64 (((k+1):Nat):Int)) ?_;go_frame;go_wp2
    go_roundw
    case rel=>exact ⟨k+1,by go_num,hkl,HN2,K⟩
    case measure=>simp [intOf]; omega

theorem Hhcl1 (args:Array Value) (w:World):(callFunc 258 args).run Tryz.prog w=.ok (.enter 258 args) w:=by kernel_rfl
structure RZ (W:World) (b n:Nat) (g:Nat→Int):Prop where
 ex:∃ (m:Nat) (F:Nat→Value),n≤m∧W.rowIs b 3 m F∧∀ j,j<n→F j=.int .i64 (g j)
theorem RZ.set {W:World} {b n:Nat} {g g':Nat→Int} (h:RZ W b n g) {k:Nat} (hk:k<n) (v:Int) (hg:∀ j,j<n→(if j=k then v else g j)=g' j):RZ (W.setCell ⟨b,0+k,none⟩ (.int .i64 v)) b n g':=by
 obtain ⟨m,F,h1,h2,h3⟩:=h.ex;rw [Nat.zero_add];refine ⟨m,fun j=>if j=k then .int .i64 v else F j,h1,World.rowIs.set h2 k (.int .i64 v),fun j hj=>?_⟩;rw [← hg j hj]
 dsimp only
 by_cases e:j=k
 ·rw [if_pos e,if_pos e]
 ·rw [if_neg e,if_neg e]; exact h3 j hj
theorem RZ.cell {W:World} {b n:Nat} {g:Nat→Int} (h:RZ W b n g) {k:Nat} (hk:k<n) {v:Int} (e:g k=v):W.cell? ⟨b,0+k,none⟩=some (.int .i64 v):=by
 obtain ⟨m,F,h1,h2,h3⟩:=h.ex;rw [Nat.zero_add,← e,← h3 k hk];exact World.rowIs.cell h2 (by omega)
theorem RZ.fro {W:World} {b n:Nat} {g:Nat→Int} (h:RZ W b n g) (k:Nat):W.frozen? ⟨b,0+k,none⟩=false:=by
 obtain ⟨m,F,h1,h2,h3⟩:=h.ex;rw [Nat.zero_add];exact World.rowIs.frozen h2 k
theorem RZ.lt {W:World} {b n:Nat} {g:Nat→Int} (h:RZ W b n g):b<W.heap.size:=by
 obtain ⟨m,F,h1,⟨c,h2,_⟩,h3⟩:=h.ex;exact (Array.getElem?_eq_some_iff.1 h2).1
theorem RZ.kp {M:Nat→Prop} {W W':World} {b n:Nat} {g:Nat→Int} (h:RZ W b n g) (hk:Rg.Kp M W W') (hM:¬ M b):RZ W' b n g:=by
 obtain ⟨m,F,h1,h2,h3⟩:=h.ex;exact ⟨m,F,h1,rowIs_kp h2 hk hM,h3⟩
theorem RZ.below {W W':World} {b n:Nat} {g:Nat→Int} (h:RZ W b n g) (hb:Below W.heap.size W W'):RZ W' b n g:=h.kp (Rg.Kp.of_below hb (M:=fun _=>False)) id
theorem RZ.ints {W:World} {b n c:Nat} {g:Nat→Int} (h:RZ W b n g) (hn:n≤c) (hc:c≤maxLen) (hn2:n≤1000):Rg.Ints W (.slice (some ⟨b,0,none⟩) n c) ((List.range n).map g):=by
 refine ⟨some ⟨b,0,none⟩,c,by simp,by simpa using hn,hc,by simp [Rg.big]; omega,fun _=>⟨b,0,rfl,h.lt,fun i hi=>?_⟩⟩;rw [List.length_map,List.length_map,List.length_range] at hi;rw [h.cell hi rfl];simp
theorem RZ.own {B:Nat} {W:World} {v:Value} {l:List Int} (h:OwZ B W v l) (h1:0<l.length):∃ ob c,v=.slice (some ⟨ob,0,none⟩) l.length c∧B≤ob∧l.length≤c∧c≤maxLen∧RZ W ob l.length (fun j=>l.getD j 0):=by
 obtain ⟨h2,h3⟩:=h.row
 rcases h3 with ⟨_,h4⟩ | ⟨g,cap,cur,h4,hB,hc,h5,h6,h7,h8⟩
 ·omega
 ·refine ⟨g,cap,h4,hB,h5,h6,cap,fun i=>cur[i]?.getD undef,h5,⟨cur,hc,by omega,fun i hi=>?_⟩,fun j hj=>?_⟩
  ·show cur[i]?=some (cur[i]?.getD undef)
   rw [Array.getElem?_eq_getElem (by omega)]; rfl
  ·have e:=congrArg (fun l=>l[j]?) h8
   rw [List.getElem?_take_of_lt (by omega),List.getElem?_map,List.getElem?_eq_getElem hj] at e;show cur[j]?.getD undef=_;rw [← Array.getElem?_toList,e,getI_at hj];rfl
theorem OwZ.mono {B B':Nat} {W:World} {v:Value} {l:List Int} (h:OwZ B' W v l) (hB:B≤B'):OwZ B W v l:=by
 obtain ⟨h1,h2⟩:=h.row;refine ⟨h1,?_⟩
 rcases h2 with h2 | ⟨g,cap,cur,h3,h4,h5⟩
 ·exact .inl h2
 ·exact .inr ⟨g,cap,cur,h3,Nat.le_trans hB h4,h5⟩
structure CzM (w W:World) (gb ob n:Nat) (gv:Value) (g:Nat→Int):Prop where
 bel:Below w.heap.size w W
 g0:CL W gb 0 (.int .i64 ((n:Nat):Int))
 g1:CL W gb 1 gv
 r:RZ W ob n g
 ne:gb≠ob
 lo:w.heap.size≤ob
theorem CzM.below {w W W':World} {gb ob n:Nat} {gv:Value} {g:Nat→Int} (h:CzM w W gb ob n gv g) (hb:Below W.heap.size W W'):CzM w W' gb ob n gv g:=⟨h.bel.trans (hb.mono h.bel.size),h.g0.up hb,h.g1.up hb,h.r.below hb,h.ne,h.lo⟩
theorem CzM.set {w W:World} {gb ob n:Nat} {gv:Value} {g g':Nat→Int} (h:CzM w W gb ob n gv g) {k:Nat} (hk:k<n) (v:Int) (hg:∀ j,j<n→(if j=k then v else g j)=g' j):CzM w (W.setCell ⟨ob,0+k,none⟩ (.int .i64 v)) gb ob n gv g':=by
 have hkp:Rg.Kp (fun z=>z=ob) W (W.setCell ⟨ob,0+k,none⟩ (.int .i64 v)):=Rg.Kp.of_setCell rfl;exact ⟨Rg.Kp.below h.bel hkp (fun z e=>e▸h.lo),h.g0.kp hkp h.ne,h.g1.kp hkp h.ne,h.r.set hk v hg,h.ne,h.lo⟩
theorem CzM.same {w W:World} {gb ob n:Nat} {gv:Value} {g g':Nat→Int} (h:CzM w W gb ob n gv g) (hg:g=g'):CzM w W gb ob n gv g':=hg▸h
structure PsZ (n m:Nat) (f:Nat→Nat→Nat) (P:Nat→Nat→Prop) (g0:Nat→Int) (ch:Bool) (g:Nat→Int) (s i k:Nat):Prop where
 cz:Bk.Cz n m f P g
 st:(ch=true∧Bk.dst n g<Bk.dst n g0)∨(ch=false∧g=g0∧Bk.Chk n m f g s i k)
theorem PsZ.start {n m:Nat} {f:Nat→Nat→Nat} {P:Nat→Nat→Prop} {g:Nat→Int} (h:Bk.Cz n m f P g):PsZ n m f P g false g 0 0 0:=⟨h,.inr ⟨rfl,rfl,Bk.Chk.start g⟩⟩
theorem PsZ.nextK {n m:Nat} {f:Nat→Nat→Nat} {P:Nat→Nat→Prop} {g0 g:Nat→Int} {ch:Bool} {s i k:Nat} (h:PsZ n m f P g0 ch g s i k) (hk:g i=g k→g (f s i)=g (f s k)):PsZ n m f P g0 ch g s i (k+1):=⟨h.cz,h.st.imp id fun ⟨a,b,c⟩=>⟨a,b,c.k hk⟩⟩
theorem PsZ.nextI {n m:Nat} {f:Nat→Nat→Nat} {P:Nat→Nat→Prop} {g0 g:Nat→Int} {ch:Bool} {s i k:Nat} (h:PsZ n m f P g0 ch g s i k) (hk:i≤k):PsZ n m f P g0 ch g s (i+1) 0:=⟨h.cz,h.st.imp id fun ⟨a,b,c⟩=>⟨a,b,c.i hk⟩⟩
theorem PsZ.nextS {n m:Nat} {f:Nat→Nat→Nat} {P:Nat→Nat→Prop} {g0 g:Nat→Int} {ch:Bool} {s i k:Nat} (h:PsZ n m f P g0 ch g s i k) (hi:n≤i):PsZ n m f P g0 ch g (s+1) 0 0:=⟨h.cz,h.st.imp id fun ⟨a,b,c⟩=>⟨a,b,c.s hi⟩⟩
theorem PsZ.join {n m:Nat} {f:Nat→Nat→Nat} {P:Nat→Nat→Prop} {g0 g:Nat→Int} {ch:Bool} {s i k:Nat} (h:PsZ n m f P g0 ch g s i k) (hP:∀ a b,P a b→a<n∧b<n) (hf:∀ s a,s<m→a<n→f s a<n) (hs:s<m) (hi:i<n) (hk:k<n) (e:g i=g k) (hne:g (f s i)≠g (f s k)) (s' i' k':Nat):PsZ n m f P g0 true (Bk.rlb g (g (f s i)) (g (f s k)) n) s' i' k':=by
 have h1:=Bk.rlb_lt (hf s i hs hi) (hf s k hs hk) hne;refine ⟨h.cz.join hP (hf s i hs hi) (hf s k hs hk) (.act hs (h.cz.sub i k hi hk e)),.inl ⟨rfl,?_⟩⟩
 rcases h.st with ⟨_,h2⟩ | ⟨_,h2,_⟩
 ·omega
 ·rw [h2] at h1 ⊢; exact h1
def CzPost (n m:Nat) (f:Nat→Nat→Nat) (P:Nat→Nat→Prop) (w:World) (e:Ending) (w':World):Prop:=∃ v L,e=.returned v∧OwZ w.heap.size w' v (Ma.ofN L)∧Bk.IsLab n (Bk.BR m f P) L∧Below w.heap.size w w'
def eqL (n:Nat) (l:List Int) (a b:Nat):Prop:=(a<n∧b<n)∧l.getD a 0=l.getD b 0
theorem closed_any (n:Nat) (gv lv:Value) (gs:List (List Nat)) (l:List Int) (w:World) (hn1:1≤n) (hn:n≤64) (hg:Rg.Rows w gv (gs.map Ma.ofN)) (hgg:GG n gs) (hgl:gs.length≤1000) (hl:Rg.Ints w lv l) (hll:l.length=n) :
  Calls Tryz.prog 178 #[.agg #[.int .i64 ((n:Nat):Int),gv],lv] w (CzPost n gs.length (img gs) (eqL n l) w):=by
 obtain ⟨ga,gc,hsh,-⟩:=hg.shape;rw [List.length_map] at hsh;subst hsh;obtain ⟨la,lc,rfl,-⟩:=hl.shape;have HG:=ι hg;have HGG:=ι hgg;have HL:=ι hl;have hb0:Below w.heap.size w (w.alloc (.cells #[.int .i64 ((n:Nat):Int),.slice ga gs.length gc] 24)):=(Below.refl _ _).alloc (Nat.le_refl _) _;have G0:=ι (box2 w (.int .i64 ((n:Nat):Int)) (.slice ga gs.length gc)).1;have G1:=ι (box2 w (.int .i64 ((n:Nat):Int)) (.slice ga gs.length gc)).2;have K:=ι hb0;have L0:=ι (hl.below hb0);have HP:=ι (show ∀ a b,eqL n l a b→a<n∧b<n from fun _ _ h=>h.1);clear hg hgg hl hb0
 go_enter Tryz.func178,Tryz.ntmps178
 obtain ⟨gb,hgb⟩:∃ gb,w.heap.size=gb:=⟨_,rfl⟩;have HGB:=ι hgb;rw [hgb] at G0 G1;go_upto_region 0 with (fail);refine wp_region_list ?_;refine Rg.lr 2 (Rg.exec_box _ _ rfl rfl) ?_;go_frame;refine Rg.la 4 (.slice none 0 0) ?_;go_frame;rw [hgb];clear hgb;generalize w.alloc (.cells #[.int .i64 ((n:Nat):Int),.slice ga gs.length gc] 24)=w0 at *;go_upto_region 1 with (fail);refine wp_region_list ?_;refine Rg.lm 12 (.slice la l.length lc) ?_;go_frame;refine list_ask (some 13) rfl rfl _ _ (exec_fn1 70 _ _ rfl rfl (Wncl3 _ _)) ?_;refine (Own_any _ l w0 L0.out (by omega)).mono ?_;rintro e1 w1 ⟨ov,rfl,hov,hb⟩;obtain ⟨ob,oc,hsh,ho1,ho2,ho3,ho4⟩:=RZ.own (B:=w0.heap.size) ⟨hov⟩ (by omega);rw [hll] at hsh ho2 ho4;subst hsh;have HOC:=ι (And.intro ho2 ho3);have ho5:=G0.out.lt;have ho6:=K.out.size;refine ⟨_,rfl,?_⟩;go_frame;replace G0:=ι (G0.out.below hb);replace G1:=ι (G1.out.below hb)
 replace K:=ι (Rg.acc K.out hb);clear hb;refine Rg.la 1 (.slice (some ⟨ob,0,none⟩) n oc) ?_;go_frame;have CM:=ι (show CzM w w1 gb ob n (.slice ga gs.length gc) (fun j=>l.getD j 0) from ⟨K.out,G0.out,G1.out,ho4,fun e=>by omega,by omega⟩);have C0:=ι (show Bk.Cz n gs.length (img gs) (eqL n l) (fun j=>l.getD j 0) from ⟨fun i j hi hj e=>.base ⟨⟨hi,hj⟩,e⟩,fun i j h=>h.2⟩);clear hov ho1 ho2 ho3 ho4 ho5 ho6 K G0 G1 L0;generalize (fun j=>l.getD j 0)=gst at *;go_wp2
 go_loopg [] (Bk.dst n gst) (fun q wr=>∃ g0:Nat→Int,Hid (Bk.dst n g0=q)∧Hid (Bk.Cz n gs.length (img gs) (eqL n l) g0)∧Hid (CzM w wr gb ob n (.slice ga gs.length gc) g0))
 case atStart=>exact ⟨gst,ι rfl,C0,CM⟩
 case round =>
  clear C0 CM;obtain ⟨g0,HQ,C0,CM⟩:=hrel;generalize wr=wc at *;go_upto_region 2 with (fail);refine wp_region_list ?_;refine Rg.la 5 (.bool false) ?_;go_frame;go_upto_region 3 with (fail);refine wp_region_list ?_;refine Rg.la 6 (.int .i64 ((0:Nat):Int)) ?_;go_frame;have PZ:=ι (PsZ.start C0.out);go_wp2
  go_loopw [5,6] (fun cv sv wr=>∃ (ch:Bool) (s:Nat) (g:Nat→Int),cv=.bool ch∧sv=.int .i64 ((s:Nat):Int)∧s≤gs.length∧Hid (PsZ n gs.length (img gs) (eqL n l) g0 ch g s 0 0)∧Hid (CzM w wr gb ob n (.slice ga gs.length gc) g)) (fun _ sv _=>gs.length - (intOf sv).toNat)
  case atStart=>exact ⟨false,0,g0,rfl,rfl,Nat.zero_le _,PZ,CM⟩
  case round =>
   clear PZ CM;obtain ⟨ch,s,g,rfl,rfl,hs,PZ,CM⟩:=hrel;generalize wr=wd at *;have G0:=ι CM.out.g0;have G1:=ι CM.out.g1
   by_cases hsl:s<gs.length
   case neg =>
    obtain rfl:s=gs.length:=by omega
    go_upto_region 4 with (fail);refine wp_region_list ?_;refine Rg.lm 14 (.int .i64 ((gs.length:Nat):Int)) ?_;go_frame;refine Rg.lr 15 (exec_fieldG _ rfl rfl) ?_;go_frame;refine Rg.lr 16 (Rg.exec_load (v:=.slice ga gs.length gc) _ _ rfl ⟨gb,1,none⟩ rfl (Rg.run_loadSl _ _ Tryz.underlying22 G1.out.cell)) ?_;go_frame;refine Rg.lr 17 (exec_len _ _ _ rfl Tryz.underlying22 _ _ _ rfl) ?_;go_frame;refine Rg.lr 18 (exec_bin (R:=.bool false) .lss _ _ _ rfl rfl rfl (b_lss _ (decide_eq_false (by omega)))) ?_;go_frame
    cases ch with
    | true =>
     go_upto_region 20 with (fail);refine wp_region_list ?_;refine Rg.lm 84 (.bool true) ?_;go_frame;refine Rg.lr 85 (exec_not _ _ true rfl rfl) ?_;go_frame
     have HD:=ι (show Bk.dst n g<gk by
      rcases PZ.out.st with ⟨_,h⟩ | ⟨h,_⟩
      ·rw [← HQ.out]; exact h
      ·cases h)
     go_wp2
     go_roundg (Bk.dst n g)
     case measure=>exact HD.out
     case rel=>exact ⟨g,ι rfl,ι PZ.out.cz,CM⟩
    | false =>
     have HCK:=ι (show Bk.Chk n gs.length (img gs) g gs.length 0 0 by
      rcases PZ.out.st with ⟨h,_⟩ | ⟨_,_,h⟩
      ·cases h
      ·exact h)
     have HCL:=ι (PZ.out.cz.closed HCK.out (Nat.le_refl _) (img_lt HGG.out) HP.out);have LI:=ι (CM.out.r.ints (c:=oc) HOC.out.1 HOC.out.2 (by omega));have HLR:=ι (show ((List.range n).map g).length=n by simp);go_upto_region 20 with (fail);refine wp_region_list ?_;refine Rg.lm 84 (.bool false) ?_;go_frame;refine Rg.lr 85 (exec_not _ _ false rfl rfl) ?_;go_frame;go_upto_region 21 with (fail);refine wp_region_list ?_;refine Rg.lm 86 (.slice (some ⟨ob,0,none⟩) n oc) ?_;go_frame;refine list_ask (some 87) rfl rfl _ _ (exec_fn1 258 _ _ rfl rfl (Hhcl1 _ _)) ?_;refine (numbered_any _ ((List.range n).map g) wd LI.out (by rw [HLR.out]; omega)).mono ?_;rintro e1 w21 ⟨v,M,rfl,hv1,hv2,hb⟩;have HV1:=ι hv1;have HV2:=ι hv2;have HSZ:=ι CM.out.bel.size;clear hv1 hv2;refine ⟨_,rfl,?_⟩;go_frame;replace CM:=ι (CM.out.below hb);clear hb;refine Rg.la 4 (v) ?_;go_frame
     have HIL:=ι (show Bk.IsLab n (Bk.BR gs.length (img gs) (eqL n l)) M by
      have h1:=HV2.out;rw [HLR.out] at h1;refine h1.congr fun i j hi hj=>?_;rw [← HCL.out i j hi hj,getI_at (by rw [HLR.out]; exact hi),getI_at (by rw [HLR.out]; exact hj)]
      simp)
     have HOW:=ι (show OwZ w.heap.size w21 v (Ma.ofN M) from HV1.out.mono HSZ.out);go_wp2;go_ret;exact ⟨v,M,rfl,HOW.out,HIL.out,CM.out.bel⟩
   case pos =>
    have HGN:=ι (show s<(gs.map Ma.ofN).length by rw [List.length_map]; exact hsl);obtain ⟨rb,ro,ua,uc,rfl,hgb,hgc,hgu⟩:=rows_get HG.out (i:=s) HGN.out;obtain ⟨gi,HGI⟩:∃ z,Hid (gs[s]'hsl=z):=⟨_,ι rfl⟩
    have hgd:gi.length=n:=by rw [← HGI.out]; exact (HGG.out _ (List.getElem_mem hsl)).2
    rw [show (gs.map Ma.ofN)[s]'HGN.out=Ma.ofN gi by rw [List.getElem_map,HGI.out]] at hgc hgu;rw [Ma.len_ofN,hgd] at hgc hgu
    have hsl2:(Ma.ofN gi).length=n:=by rw [Ma.len_ofN,hgd]
    obtain ⟨ub,uo,rfl,hub,-⟩:=ints_get hgu (k:=0) (by rw [hsl2]; omega);have HGC:=ι (show Cel w rb (ro+s) (.slice (some ⟨ub,uo,none⟩) n uc) from ⟨hgc,hgb⟩)
    have HUX:=ι (show ∀ k,k<n→Cel w ub (uo+k) (.int .i64 ((img gs s k:Nat):Int)) from fun k hk=>by
     obtain ⟨ub',uo',e',_,hu⟩:=ints_get hgu (k:=k) (by rw [hsl2]; exact hk);simp only [Option.some.injEq,Addr.mk.injEq,and_true] at e';obtain ⟨rfl,rfl⟩:=e';refine ⟨?_,hub⟩;rw [hu,Ma.get_ofN,img_get hsl (by rw [HGI.out,hgd]; exact hk)]
     simp only [HGI.out])
    clear hgb hgc hgu hub hgd hsl2;go_upto_region 4 with (fail);refine wp_region_list ?_;refine Rg.lm 14 (.int .i64 ((s:Nat):Int)) ?_;go_frame;refine Rg.lr 15 (exec_fieldG _ rfl rfl) ?_;go_frame;refine Rg.lr 16 (Rg.exec_load (v:=.slice (some ⟨rb,ro,none⟩) gs.length gc) _ _ rfl ⟨gb,1,none⟩ rfl (Rg.run_loadSl _ _ Tryz.underlying22 G1.out.cell)) ?_;go_frame;refine Rg.lr 17 (exec_len _ _ _ rfl Tryz.underlying22 _ _ _ rfl) ?_;go_frame;refine Rg.lr 18 (exec_bin (R:=.bool true) .lss _ _ _ rfl rfl rfl (b_lss _ (decide_eq_true (by omega)))) ?_;go_frame;go_upto_region 6 with (fail);refine wp_region_list ?_;refine Rg.la 7 (.int .i64 ((0:Nat):Int)) ?_;go_frame;clear G0 G1;go_wp2
    go_loopw [5,7] (fun cv iv wr=>∃ (ch:Bool) (i:Nat) (g:Nat→Int),cv=.bool ch∧iv=.int .i64 ((i:Nat):Int)∧i≤n∧Hid (PsZ n gs.length (img gs) (eqL n l) g0 ch g s i 0)∧Hid (CzM w wr gb ob n (.slice (some ⟨rb,ro,none⟩) gs.length gc) g)) (fun _ iv _=>n - (intOf iv).toNat)
    case atStart=>exact ⟨ch,0,g,rfl,rfl,Nat.zero_le _,PZ,CM⟩
    case round =>
     clear PZ CM;obtain ⟨ch,i,g,rfl,rfl,hi,PZ,CM⟩:=hrel;generalize wr=we at *;have G0:=ι CM.out.g0;have G1:=ι CM.out.g1
     by_cases hin:i<n
     case neg =>
      obtain rfl:n=i:=by omega
      go_upto_region 7 with (fail);refine wp_region_list ?_;refine Rg.lm 21 (.int .i64 ((n:Nat):Int)) ?_;go_frame;refine Rg.lr 22 (exec_fieldG0 _ rfl rfl) ?_;go_frame;refine Rg.lr 23 (Rg.exec_load (v:=.int .i64 ((n:Nat):Int)) _ _ rfl ⟨gb,0,none⟩ rfl (run_loadInt G0.out.cell)) ?_;go_frame;refine Rg.lr 24 (exec_bin (R:=.bool false) .lss _ _ _ rfl rfl rfl (b_lss _ (decide_eq_false (by omega)))) ?_;go_frame;go_upto_region 5 with (fail);refine wp_region_list ?_;refine Rg.lm 19 (.int .i64 ((s:Nat):Int)) ?_;go_frame;refine Rg.lr 20 (exec_bin (R:=.int .i64 (((s+1):Nat):Int)) .add _ _ _ rfl rfl rfl (b_add _ (by omega) (by omega))) ?_;go_frame;refine Rg.la 6 (.int .i64 (((s+1):Nat):Int)) ?_;go_frame;have PZ2:=ι (PZ.out.nextS (Nat.le_refl _));go_wp2
      go_roundw
      case rel=>exact ⟨ch,s+1,g,rfl,by go_num,hsl,PZ2,CM⟩
      case measure=>simp [intOf]; omega
     case pos =>
      skip
      go_upto_region 7 with (fail);refine wp_region_list ?_;refine Rg.lm 21 (.int .i64 ((i:Nat):Int)) ?_;go_frame;refine Rg.lr 22 (exec_fieldG0 _ rfl rfl) ?_;go_frame;refine Rg.lr 23 (Rg.exec_load (v:=.int .i64 ((n:Nat):Int)) _ _ rfl ⟨gb,0,none⟩ rfl (run_loadInt G0.out.cell)) ?_;go_frame;refine Rg.lr 24 (exec_bin (R:=.bool true) .lss _ _ _ rfl rfl rfl (b_lss _ (decide_eq_true (by omega)))) ?_;go_frame;go_upto_region 9 with (fail);refine wp_region_list ?_;refine Rg.la 8 (.int .i64 ((0:Nat):Int)) ?_;go_frame;clear G0 G1;go_wp2
      go_loopw [5,8] (fun cv kv wr=>∃ (ch:Bool) (k:Nat) (g:Nat→Int),cv=.bool ch∧kv=.int .i64 ((k:Nat):Int)∧k≤i∧Hid (PsZ n gs.length (img gs) (eqL n l) g0 ch g s i k)∧Hid (CzM w wr gb ob n (.slice (some ⟨rb,ro,none⟩) gs.length gc) g)) (fun _ kv _=>i - (intOf kv).toNat)
      case atStart=>exact ⟨ch,0,g,rfl,rfl,Nat.zero_le _,PZ,CM⟩
      case round =>
       clear PZ CM;obtain ⟨ch,k,g,rfl,rfl,hk,PZ,CM⟩:=hrel;generalize wr=wf at *
       by_cases hki:k<i
       case neg =>
        obtain rfl:k=i:=by omega
        go_upto_region 10 with (fail);refine wp_region_list ?_;refine Rg.lm 27 (.int .i64 ((k:Nat):Int)) ?_;go_frame;refine Rg.lm 28 (.int .i64 ((k:Nat):Int)) ?_;go_frame;refine Rg.lr 29 (exec_bin (R:=.bool false) .lss _ _ _ rfl rfl rfl (b_lss _ (decide_eq_false (by omega)))) ?_;go_frame;go_upto_region 8 with (fail);refine wp_region_list ?_;refine Rg.lm 25 (.int .i64 ((k:Nat):Int)) ?_;go_frame;refine Rg.lr 26 (exec_bin (R:=.int .i64 (((k+1):Nat):Int)) .add _ _ _ rfl rfl rfl (b_add _ (by omega) (by omega))) ?_;go_frame;refine Rg.la 7 (.int .i64 (((k+1):Nat):Int)) ?_;go_frame;have PZ2:=ι (PZ.out.nextI (Nat.le_refl _));go_wp2
        go_roundw
        case rel=>exact ⟨ch,k+1,g,rfl,by go_num,hin,PZ2,CM⟩
        case measure=>simp [intOf]; omega
       case pos =>
        have hkn:k<n:=by omega
        obtain ⟨x,hx⟩:∃ x,Hid (img gs s i=x):=⟨_,ι rfl⟩;obtain ⟨y,hy⟩:∃ y,Hid (img gs s k=y):=⟨_,ι rfl⟩
        have hxn:x<n:=by rw [← hx.out]; exact img_lt HGG.out s _ hsl hin
        have hyn:y<n:=by rw [← hy.out]; exact img_lt HGG.out s _ hsl hkn
        obtain ⟨a,ha⟩:∃ a,Hid (g x=a):=⟨_,ι rfl⟩;obtain ⟨b,hb⟩:∃ b,Hid (g y=b):=⟨_,ι rfl⟩;obtain ⟨li,hli⟩:∃ b,Hid (g i=b):=⟨_,ι rfl⟩;obtain ⟨lk,hlk⟩:∃ b,Hid (g k=b):=⟨_,ι rfl⟩;have hux:=HUX.out i hin;have huy:=HUX.out k hkn;rw [hx.out] at hux;rw [hy.out] at huy;have CG:=ι (CL.up (CL.mk HGC.out.1 HGC.out.2) CM.out.bel);have CU:=ι (CL.up (CL.mk hux.1 hux.2) CM.out.bel);have CV:=ι (CL.up (CL.mk huy.1 huy.2) CM.out.bel);have G1:=ι CM.out.g1;have CA:=ι (CL.mk (CM.out.r.cell hxn ha.out) CM.out.r.lt);have CB:=ι (CL.mk (CM.out.r.cell hyn hb.out) CM.out.r.lt);have CI:=ι (CL.mk (CM.out.r.cell hin hli.out) CM.out.r.lt);have CK:=ι (CL.mk (CM.out.r.cell hkn hlk.out) CM.out.r.lt);clear hux huy;go_upto_region 10 with (fail);refine wp_region_list ?_;refine Rg.lm 27 (.int .i64 ((k:Nat):Int)) ?_;go_frame;refine Rg.lm 28 (.int .i64 ((i:Nat):Int)) ?_;go_frame
        refine Rg.lr 29 (exec_bin (R:=.bool true) .lss _ _ _ rfl rfl rfl (b_lss _ (decide_eq_true (by omega)))) ?_;go_frame;go_upto_region 12 with (fail);have hV0:Below wf.heap.size wf wf.drew:=(Below.refl _ _).drew;replace CM:=ι (CM.out.below hV0);replace CG:=ι (CG.out.below hV0);replace CU:=ι (CU.out.below hV0);replace CV:=ι (CV.out.below hV0);replace G1:=ι (G1.out.below hV0);replace CA:=ι (CA.out.below hV0);replace CB:=ι (CB.out.below hV0);replace CI:=ι (CI.out.below hV0);replace CK:=ι (CK.out.below hV0);clear hV0;refine Rg.Any.begin (S:=Rg.Both 23 (fun _=>True) (fun W=>Below wf.drew.heap.size wf.drew W)) mix ?_;generalize wf.drew=w121 at *;have hS:∀ (l:Array Bool) W,Below w121.heap.size w121 W→Rg.Both 23 (fun _=>True) (fun W=>Below w121.heap.size w121 W) l W:=fun l W h=>⟨.inr trivial,h⟩;have hI:Below w121.heap.size w121 w121:=Below.refl _ _
        refine Rg.tm 0 23 (.slice (some ⟨ob,0,none⟩) n oc) 32 (hS _ _ hI) ?_;go_frame;refine Rg.tg 1 23 (.pointer (some ⟨gb,1,none⟩)) 33 rfl rfl (.inl ⟨rfl,fun w _=>exec_fieldG _ rfl rfl⟩) (hS _ _ hI) ?_;go_frame;refine Rg.tg 2 23 (.slice (some ⟨rb,ro,none⟩) gs.length gc) 34 rfl rfl (Rg.yields_cell _ _ rfl rfl ⟨gb,1,none⟩ rfl (fun W hW=>Rg.run_loadSl _ _ Tryz.underlying22 ((Below.cell (p:=⟨gb,1,none⟩) hW G1.out.lt).trans G1.out.cell))) (hS _ _ hI) ?_;go_frame;refine Rg.tm 3 23 (.int .i64 ((s:Nat):Int)) 35 (hS _ _ hI) ?_;go_frame;refine Rg.tg 4 23 (.pointer (some ⟨rb,ro+s,none⟩)) 36 rfl rfl (Rg.yields_index slPerms _ _ rfl rfl rb (ro) (gs.length) gc (s) rfl rfl hsl) (hS _ _ hI) ?_;go_frame;refine Rg.tg 5 23 (.slice (some ⟨ub,uo,none⟩) n uc) 37 rfl rfl (Rg.yields_cell _ _ rfl rfl ⟨rb,ro+s,none⟩ rfl (fun W hW=>Rg.run_loadSl _ _ Tryz.underlying51 ((Below.cell (p:=⟨rb,ro+s,none⟩) hW CG.out.lt).trans CG.out.cell))) (hS _ _ hI) ?_;go_frame
        refine Rg.tm 6 23 (.int .i64 ((i:Nat):Int)) 38 (hS _ _ hI) ?_;go_frame;refine Rg.tg 7 23 (.pointer (some ⟨ub,uo+i,none⟩)) 39 rfl rfl (Rg.yields_index slPerm _ _ rfl rfl ub (uo) (n) uc (i) rfl rfl hin) (hS _ _ hI) ?_;go_frame;refine Rg.tg 8 23 (.int .i64 ((x:Nat):Int)) 40 rfl rfl (Rg.yields_cell _ _ rfl rfl ⟨ub,uo+i,none⟩ rfl (fun W hW=>run_loadInt ((Below.cell (p:=⟨ub,uo+i,none⟩) hW CU.out.lt).trans CU.out.cell))) (hS _ _ hI) ?_;go_frame;refine Rg.tg 9 23 (.pointer (some ⟨ob,0+x,none⟩)) 41 rfl rfl (Rg.yields_index slInts _ _ rfl rfl ob (0) (n) oc (x) rfl rfl hxn) (hS _ _ hI) ?_;go_frame;refine Rg.tg 10 23 (.int .i64 a) 42 rfl rfl (Rg.yields_cell _ _ rfl rfl ⟨ob,0+x,none⟩ rfl (fun W hW=>run_loadInt ((Below.cell (p:=⟨ob,0+x,none⟩) hW CA.out.lt).trans CA.out.cell))) (hS _ _ hI) ?_;go_frame;refine Rg.tm 11 23 (.slice (some ⟨ob,0,none⟩) n oc) 43 (hS _ _ hI) ?_;go_frame
        refine Rg.tg 12 23 (.pointer (some ⟨gb,1,none⟩)) 44 rfl rfl (.inl ⟨rfl,fun w _=>exec_fieldG _ rfl rfl⟩) (hS _ _ hI) ?_;go_frame;refine Rg.tg 13 23 (.slice (some ⟨rb,ro,none⟩) gs.length gc) 45 rfl rfl (Rg.yields_cell _ _ rfl rfl ⟨gb,1,none⟩ rfl (fun W hW=>Rg.run_loadSl _ _ Tryz.underlying22 ((Below.cell (p:=⟨gb,1,none⟩) hW G1.out.lt).trans G1.out.cell))) (hS _ _ hI) ?_;go_frame;refine Rg.tm 14 23 (.int .i64 ((s:Nat):Int)) 46 (hS _ _ hI) ?_;go_frame;refine Rg.tg 15 23 (.pointer (some ⟨rb,ro+s,none⟩)) 47 rfl rfl (Rg.yields_index slPerms _ _ rfl rfl rb (ro) (gs.length) gc (s) rfl rfl hsl) (hS _ _ hI) ?_;go_frame;refine Rg.tg 16 23 (.slice (some ⟨ub,uo,none⟩) n uc) 48 rfl rfl (Rg.yields_cell _ _ rfl rfl ⟨rb,ro+s,none⟩ rfl (fun W hW=>Rg.run_loadSl _ _ Tryz.underlying51 ((Below.cell (p:=⟨rb,ro+s,none⟩) hW CG.out.lt).trans CG.out.cell))) (hS _ _ hI) ?_;go_frame
        refine Rg.tm 17 23 (.int .i64 ((k:Nat):Int)) 49 (hS _ _ hI) ?_;go_frame;refine Rg.tg 18 23 (.pointer (some ⟨ub,uo+k,none⟩)) 50 rfl rfl (Rg.yields_index slPerm _ _ rfl rfl ub (uo) (n) uc (k) rfl rfl hkn) (hS _ _ hI) ?_;go_frame;refine Rg.tg 19 23 (.int .i64 ((y:Nat):Int)) 51 rfl rfl (Rg.yields_cell _ _ rfl rfl ⟨ub,uo+k,none⟩ rfl (fun W hW=>run_loadInt ((Below.cell (p:=⟨ub,uo+k,none⟩) hW CV.out.lt).trans CV.out.cell))) (hS _ _ hI) ?_;go_frame;refine Rg.tg 20 23 (.pointer (some ⟨ob,0+y,none⟩)) 52 rfl rfl (Rg.yields_index slInts _ _ rfl rfl ob (0) (n) oc (y) rfl rfl hyn) (hS _ _ hI) ?_;go_frame;refine Rg.tg 21 23 (.int .i64 b) 53 rfl rfl (Rg.yields_cell _ _ rfl rfl ⟨ob,0+y,none⟩ rfl (fun W hW=>run_loadInt ((Below.cell (p:=⟨ob,0+y,none⟩) hW CB.out.lt).trans CB.out.cell))) (hS _ _ hI) ?_;go_frame;refine Rg.tg 22 23 (.int .i64 a) 9 rfl rfl (.inl ⟨rfl,fun w _=>Rg.exec_assign (v:=.int .i64 a) _ rfl rfl⟩) (hS _ _ hI) ?_;go_frame
        refine Rg.Any.one (i:=23) (by kernel_rfl) (Rg.Any.run (some 10) rfl rfl rfl (Rg.xa (.int .i64 b) _ rfl rfl) (hS _ _ hI) ?_);go_frame;refine Rg.Any.done (by kernel_rfl) ?_ _;clear hS hI
        by_cases hlik:li=lk
        case neg =>
         skip
         go_upto_region 13 with (fail);have hV0:Below w121.heap.size w121 w121.drew:=(Below.refl _ _).drew;replace CM:=ι (CM.out.below hV0);replace CG:=ι (CG.out.below hV0);replace CU:=ι (CU.out.below hV0);replace CV:=ι (CV.out.below hV0);replace G1:=ι (G1.out.below hV0);replace CA:=ι (CA.out.below hV0);replace CB:=ι (CB.out.below hV0);replace CI:=ι (CI.out.below hV0);replace CK:=ι (CK.out.below hV0);clear hV0;refine Rg.Any.begin (S:=Rg.Both 13 (fun _=>True) (fun W=>Below w121.drew.heap.size w121.drew W)) mix ?_;generalize w121.drew=w122 at *;have hS:∀ (l:Array Bool) W,Below w122.heap.size w122 W→Rg.Both 13 (fun _=>True) (fun W=>Below w122.heap.size w122 W) l W:=fun l W h=>⟨.inr trivial,h⟩;have hI:Below w122.heap.size w122 w122:=Below.refl _ _;refine Rg.tm 0 13 (.slice (some ⟨ob,0,none⟩) n oc) 54 (hS _ _ hI) ?_;go_frame;refine Rg.tm 1 13 (.int .i64 ((i:Nat):Int)) 55 (hS _ _ hI) ?_;go_frame
         refine Rg.tg 2 13 (.pointer (some ⟨ob,0+i,none⟩)) 56 rfl rfl (Rg.yields_index slInts _ _ rfl rfl ob (0) (n) oc (i) rfl rfl hin) (hS _ _ hI) ?_;go_frame;refine Rg.tg 3 13 (.int .i64 li) 57 rfl rfl (Rg.yields_cell _ _ rfl rfl ⟨ob,0+i,none⟩ rfl (fun W hW=>run_loadInt ((Below.cell (p:=⟨ob,0+i,none⟩) hW CI.out.lt).trans CI.out.cell))) (hS _ _ hI) ?_;go_frame;refine Rg.tm 4 13 (.slice (some ⟨ob,0,none⟩) n oc) 58 (hS _ _ hI) ?_;go_frame;refine Rg.tm 5 13 (.int .i64 ((k:Nat):Int)) 59 (hS _ _ hI) ?_;go_frame;refine Rg.tg 6 13 (.pointer (some ⟨ob,0+k,none⟩)) 60 rfl rfl (Rg.yields_index slInts _ _ rfl rfl ob (0) (n) oc (k) rfl rfl hkn) (hS _ _ hI) ?_;go_frame;refine Rg.tg 7 13 (.int .i64 lk) 61 rfl rfl (Rg.yields_cell _ _ rfl rfl ⟨ob,0+k,none⟩ rfl (fun W hW=>run_loadInt ((Below.cell (p:=⟨ob,0+k,none⟩) hW CK.out.lt).trans CK.out.cell))) (hS _ _ hI) ?_;go_frame
         refine Rg.tg 8 13 (.bool true) 62 rfl rfl (.inl ⟨rfl,fun w _=>exec_bin (R:=.bool true) .neq _ _ _ rfl rfl rfl (b_neqB _ (decide_eq_true hlik))⟩) (hS _ _ hI) ?_;go_frame;refine Rg.tm 9 13 (.bool true) 63 (hS _ _ hI) ?_;go_frame;refine Rg.tg 10 13 (undef) 64 rfl rfl (.inr ⟨rfl,rfl⟩) (hS _ _ hI) ?_;go_frame;refine Rg.tg 11 13 (undef) 65 rfl rfl (.inr ⟨rfl,rfl⟩) (hS _ _ hI) ?_;go_frame;refine Rg.tg 12 13 (undef) 66 rfl rfl (.inr ⟨rfl,rfl⟩) (hS _ _ hI) ?_;go_frame;refine Rg.Any.one (i:=13) (by kernel_rfl) (Rg.Any.run (some 67) rfl rfl rfl (exec_pickT (v:=.bool true) _ _ _ rfl rfl rfl) (hS _ _ hI) ?_);go_frame;refine Rg.Any.done (by kernel_rfl) ?_ _;clear hS hI;have PZ2:=ι (PZ.out.nextK (fun e=>absurd (by rw [← hli.out,← hlk.out]; exact e) hlik));go_upto_region 11 with (fail);refine wp_region_list ?_;refine Rg.lm 30 (.int .i64 ((k:Nat):Int)) ?_;go_frame;refine Rg.lr 31 (exec_bin (R:=.int .i64 (((k+1):Nat):Int)) .add _ _ _ rfl rfl rfl (b_add _ (by omega) (by omega))) ?_;go_frame
         refine Rg.la 8 (.int .i64 (((k+1):Nat):Int)) ?_;go_frame;go_wp2
         go_roundw
         case rel=>exact ⟨ch,k+1,g,rfl,by go_num,hki,PZ2,CM⟩
         case measure=>simp [intOf]; omega
        case pos =>
         subst hlik
         by_cases hab:a=b
         case pos =>
          subst hab;go_upto_region 13 with (fail);have hV0:Below w121.heap.size w121 w121.drew:=(Below.refl _ _).drew;replace CM:=ι (CM.out.below hV0);replace CG:=ι (CG.out.below hV0);replace CU:=ι (CU.out.below hV0);replace CV:=ι (CV.out.below hV0);replace G1:=ι (G1.out.below hV0);replace CA:=ι (CA.out.below hV0);replace CB:=ι (CB.out.below hV0);replace CI:=ι (CI.out.below hV0);replace CK:=ι (CK.out.below hV0);clear hV0;refine Rg.Any.begin (S:=Rg.Both 13 (fun _=>True) (fun W=>Below w121.drew.heap.size w121.drew W)) mix ?_;generalize w121.drew=w141 at *;have hS:∀ (l:Array Bool) W,Below w141.heap.size w141 W→Rg.Both 13 (fun _=>True) (fun W=>Below w141.heap.size w141 W) l W:=fun l W h=>⟨.inr trivial,h⟩;have hI:Below w141.heap.size w141 w141:=Below.refl _ _;refine Rg.tm 0 13 (.slice (some ⟨ob,0,none⟩) n oc) 54 (hS _ _ hI) ?_;go_frame;refine Rg.tm 1 13 (.int .i64 ((i:Nat):Int)) 55 (hS _ _ hI) ?_;go_frame
          refine Rg.tg 2 13 (.pointer (some ⟨ob,0+i,none⟩)) 56 rfl rfl (Rg.yields_index slInts _ _ rfl rfl ob (0) (n) oc (i) rfl rfl hin) (hS _ _ hI) ?_;go_frame;refine Rg.tg 3 13 (.int .i64 li) 57 rfl rfl (Rg.yields_cell _ _ rfl rfl ⟨ob,0+i,none⟩ rfl (fun W hW=>run_loadInt ((Below.cell (p:=⟨ob,0+i,none⟩) hW CI.out.lt).trans CI.out.cell))) (hS _ _ hI) ?_;go_frame;refine Rg.tm 4 13 (.slice (some ⟨ob,0,none⟩) n oc) 58 (hS _ _ hI) ?_;go_frame;refine Rg.tm 5 13 (.int .i64 ((k:Nat):Int)) 59 (hS _ _ hI) ?_;go_frame;refine Rg.tg 6 13 (.pointer (some ⟨ob,0+k,none⟩)) 60 rfl rfl (Rg.yields_index slInts _ _ rfl rfl ob (0) (n) oc (k) rfl rfl hkn) (hS _ _ hI) ?_;go_frame;refine Rg.tg 7 13 (.int .i64 li) 61 rfl rfl (Rg.yields_cell _ _ rfl rfl ⟨ob,0+k,none⟩ rfl (fun W hW=>run_loadInt ((Below.cell (p:=⟨ob,0+k,none⟩) hW CK.out.lt).trans CK.out.cell))) (hS _ _ hI) ?_;go_frame
          refine Rg.tg 8 13 (.bool false) 62 rfl rfl (.inl ⟨rfl,fun w _=>exec_bin (R:=.bool false) .neq _ _ _ rfl rfl rfl (b_neqB _ (decide_eq_false (fun h=>h rfl)))⟩) (hS _ _ hI) ?_;go_frame;refine Rg.tm 9 13 (.bool false) 63 (hS _ _ hI) ?_;go_frame;refine Rg.tm 10 13 (.int .i64 a) 64 (hS _ _ hI) ?_;go_frame;refine Rg.tm 11 13 (.int .i64 a) 65 (hS _ _ hI) ?_;go_frame;refine Rg.tg 12 13 (.bool true) 66 rfl rfl (.inl ⟨rfl,fun w _=>exec_bin (R:=.bool true) .eql _ _ _ rfl rfl rfl (b_eql _ (decide_eq_true rfl))⟩) (hS _ _ hI) ?_;go_frame;refine Rg.Any.one (i:=13) (by kernel_rfl) (Rg.Any.run (some 67) rfl rfl rfl (exec_pickF (v:=.bool true) _ _ _ rfl rfl rfl) (hS _ _ hI) ?_);go_frame;refine Rg.Any.done (by kernel_rfl) ?_ _;clear hS hI;have PZ2:=ι (PZ.out.nextK (fun e=>by rw [hx.out,hy.out,ha.out,hb.out]));go_upto_region 11 with (fail);refine wp_region_list ?_;refine Rg.lm 30 (.int .i64 ((k:Nat):Int)) ?_;go_frame
          refine Rg.lr 31 (exec_bin (R:=.int .i64 (((k+1):Nat):Int)) .add _ _ _ rfl rfl rfl (b_add _ (by omega) (by omega))) ?_;go_frame;refine Rg.la 8 (.int .i64 (((k+1):Nat):Int)) ?_;go_frame;go_wp2
          go_roundw
          case rel=>exact ⟨ch,k+1,g,rfl,by go_num,hki,PZ2,CM⟩
          case measure=>simp [intOf]; omega
         case neg =>
          skip
          go_upto_region 13 with (fail);have hV0:Below w121.heap.size w121 w121.drew:=(Below.refl _ _).drew;replace CM:=ι (CM.out.below hV0);replace CG:=ι (CG.out.below hV0);replace CU:=ι (CU.out.below hV0);replace CV:=ι (CV.out.below hV0);replace G1:=ι (G1.out.below hV0);replace CA:=ι (CA.out.below hV0);replace CB:=ι (CB.out.below hV0);replace CI:=ι (CI.out.below hV0);replace CK:=ι (CK.out.below hV0);clear hV0;refine Rg.Any.begin (S:=Rg.Both 13 (fun _=>True) (fun W=>Below w121.drew.heap.size w121.drew W)) mix ?_;generalize w121.drew=w161 at *;have hS:∀ (l:Array Bool) W,Below w161.heap.size w161 W→Rg.Both 13 (fun _=>True) (fun W=>Below w161.heap.size w161 W) l W:=fun l W h=>⟨.inr trivial,h⟩;have hI:Below w161.heap.size w161 w161:=Below.refl _ _;refine Rg.tm 0 13 (.slice (some ⟨ob,0,none⟩) n oc) 54 (hS _ _ hI) ?_;go_frame;refine Rg.tm 1 13 (.int .i64 ((i:Nat):Int)) 55 (hS _ _ hI) ?_;go_frame
          refine Rg.tg 2 13 (.pointer (some ⟨ob,0+i,none⟩)) 56 rfl rfl (Rg.yields_index slInts _ _ rfl rfl ob (0) (n) oc (i) rfl rfl hin) (hS _ _ hI) ?_;go_frame;refine Rg.tg 3 13 (.int .i64 li) 57 rfl rfl (Rg.yields_cell _ _ rfl rfl ⟨ob,0+i,none⟩ rfl (fun W hW=>run_loadInt ((Below.cell (p:=⟨ob,0+i,none⟩) hW CI.out.lt).trans CI.out.cell))) (hS _ _ hI) ?_;go_frame;refine Rg.tm 4 13 (.slice (some ⟨ob,0,none⟩) n oc) 58 (hS _ _ hI) ?_;go_frame;refine Rg.tm 5 13 (.int .i64 ((k:Nat):Int)) 59 (hS _ _ hI) ?_;go_frame;refine Rg.tg 6 13 (.pointer (some ⟨ob,0+k,none⟩)) 60 rfl rfl (Rg.yields_index slInts _ _ rfl rfl ob (0) (n) oc (k) rfl rfl hkn) (hS _ _ hI) ?_;go_frame;refine Rg.tg 7 13 (.int .i64 li) 61 rfl rfl (Rg.yields_cell _ _ rfl rfl ⟨ob,0+k,none⟩ rfl (fun W hW=>run_loadInt ((Below.cell (p:=⟨ob,0+k,none⟩) hW CK.out.lt).trans CK.out.cell))) (hS _ _ hI) ?_;go_frame
          refine Rg.tg 8 13 (.bool false) 62 rfl rfl (.inl ⟨rfl,fun w _=>exec_bin (R:=.bool false) .neq _ _ _ rfl rfl rfl (b_neqB _ (decide_eq_false (fun h=>h rfl)))⟩) (hS _ _ hI) ?_;go_frame;refine Rg.tm 9 13 (.bool false) 63 (hS _ _ hI) ?_;go_frame;refine Rg.tm 10 13 (.int .i64 a) 64 (hS _ _ hI) ?_;go_frame;refine Rg.tm 11 13 (.int .i64 b) 65 (hS _ _ hI) ?_;go_frame;refine Rg.tg 12 13 (.bool false) 66 rfl rfl (.inl ⟨rfl,fun w _=>exec_bin (R:=.bool false) .eql _ _ _ rfl rfl rfl (b_eql _ (decide_eq_false hab))⟩) (hS _ _ hI) ?_;go_frame;refine Rg.Any.one (i:=13) (by kernel_rfl) (Rg.Any.run (some 67) rfl rfl rfl (exec_pickF (v:=.bool false) _ _ _ rfl rfl rfl) (hS _ _ hI) ?_);go_frame;refine Rg.Any.done (by kernel_rfl) ?_ _;clear hS hI;go_upto_region 14 with (fail);refine wp_region_list ?_;refine Rg.la 11 (.int .i64 ((0:Nat):Int)) ?_;go_frame;have PZ2:=ι (PZ.out.join HP.out (img_lt HGG.out) hsl hin hkn (by rw [hli.out,hlk.out]) (by rw [hx.out,hy.out,ha.out,hb.out]; exact hab) s i (k+1))
          rw [hx.out,hy.out,ha.out,hb.out] at PZ2;have CM0:=ι (CM.out.same (Bk.rlb_zero g a b).symm);clear CG CU CV G1 CA CB CI CK CM;go_wp2
          go_loopw [11] (fun tv wr=>∃ t:Nat,tv=.int .i64 ((t:Nat):Int)∧t≤n∧Hid (CzM w wr gb ob n (.slice (some ⟨rb,ro,none⟩) gs.length gc) (Bk.rlb g a b t))) (fun tv _=>n - (intOf tv).toNat)
          case atStart=>exact ⟨0,rfl,Nat.zero_le _,CM0⟩
          case round =>
           clear CM0;obtain ⟨t,rfl,ht,CM⟩:=hrel;generalize wr=wh at *;have G0:=ι CM.out.g0
           by_cases htn:t<n
           case neg =>
            obtain rfl:n=t:=by omega
            go_upto_region 15 with (fail);refine wp_region_list ?_;refine Rg.lm 68 (.int .i64 ((n:Nat):Int)) ?_;go_frame;refine Rg.lr 69 (exec_fieldG0 _ rfl rfl) ?_;go_frame;refine Rg.lr 70 (Rg.exec_load (v:=.int .i64 ((n:Nat):Int)) _ _ rfl ⟨gb,0,none⟩ rfl (run_loadInt G0.out.cell)) ?_;go_frame;refine Rg.lr 71 (exec_bin (R:=.bool false) .lss _ _ _ rfl rfl rfl (b_lss _ (decide_eq_false (by omega)))) ?_;go_frame;go_upto_region 19 with (fail);refine wp_region_list ?_;refine Rg.la 5 (.bool true) ?_;go_frame;go_upto_region 11 with (fail);refine wp_region_list ?_;refine Rg.lm 30 (.int .i64 ((k:Nat):Int)) ?_;go_frame;refine Rg.lr 31 (exec_bin (R:=.int .i64 (((k+1):Nat):Int)) .add _ _ _ rfl rfl rfl (b_add _ (by omega) (by omega))) ?_;go_frame;refine Rg.la 8 (.int .i64 (((k+1):Nat):Int)) ?_;go_frame;go_wp2
            go_roundw
            case rel=>exact ⟨true,k+1,_,rfl,by go_num,hki,PZ2,CM⟩
            case measure=>simp [intOf]; omega
           case pos =>
            obtain ⟨lt,hlt⟩:∃ b,Hid (g t=b):=⟨_,ι rfl⟩;have CT:=ι (CL.mk (CM.out.r.cell htn (v:=lt) (by rw [Bk.rlb_at,hlt.out])) CM.out.r.lt);have FT:=ι (CM.out.r.fro t)
            by_cases hta:lt=a
            case neg =>
             have CM2:=ι (CM.out.same (funext (Bk.rlb_no (a:=a) (b:=b) (t:=t) (by rw [hlt.out]; exact hta))));go_upto_region 15 with (fail);refine wp_region_list ?_;refine Rg.lm 68 (.int .i64 ((t:Nat):Int)) ?_;go_frame;refine Rg.lr 69 (exec_fieldG0 _ rfl rfl) ?_;go_frame;refine Rg.lr 70 (Rg.exec_load (v:=.int .i64 ((n:Nat):Int)) _ _ rfl ⟨gb,0,none⟩ rfl (run_loadInt G0.out.cell)) ?_;go_frame;refine Rg.lr 71 (exec_bin (R:=.bool true) .lss _ _ _ rfl rfl rfl (b_lss _ (decide_eq_true (by omega)))) ?_;go_frame;go_upto_region 17 with (fail);refine wp_region_list ?_;refine Rg.lm 74 (.slice (some ⟨ob,0,none⟩) n oc) ?_;go_frame;refine Rg.lm 75 (.int .i64 ((t:Nat):Int)) ?_;go_frame;refine Rg.lr 76 (exec_indexS slInts _ _ rfl ob (0) (n) oc (t) rfl rfl htn) ?_;go_frame;refine Rg.lr 77 (Rg.exec_load (v:=.int .i64 lt) _ _ rfl ⟨ob,0+t,none⟩ rfl (run_loadInt CT.out.cell)) ?_;go_frame
             refine Rg.lm 78 (.int .i64 a) ?_;go_frame;refine Rg.lr 79 (exec_bin (R:=.bool false) .eql _ _ _ rfl rfl rfl (b_eql _ (decide_eq_false hta))) ?_;go_frame;go_upto_region 16 with (fail);refine wp_region_list ?_;refine Rg.lm 72 (.int .i64 ((t:Nat):Int)) ?_;go_frame;refine Rg.lr 73 (exec_bin (R:=.int .i64 (((t+1):Nat):Int)) .add _ _ _ rfl rfl rfl (b_add _ (by omega) (by omega))) ?_;go_frame;refine Rg.la 11 (.int .i64 (((t+1):Nat):Int)) ?_;go_frame;go_wp2
             go_roundw
             case rel=>exact ⟨t+1,by go_num,htn,CM2⟩
             case measure=>simp [intOf]; omega
            case pos =>
             subst hta;have hset:=CM.out.set htn b (g':=Bk.rlb g lt b (t+1)) (fun j _=>Bk.rlb_yes hlt.out j);go_upto_region 15 with (fail);refine wp_region_list ?_;refine Rg.lm 68 (.int .i64 ((t:Nat):Int)) ?_;go_frame;refine Rg.lr 69 (exec_fieldG0 _ rfl rfl) ?_;go_frame;refine Rg.lr 70 (Rg.exec_load (v:=.int .i64 ((n:Nat):Int)) _ _ rfl ⟨gb,0,none⟩ rfl (run_loadInt G0.out.cell)) ?_;go_frame;refine Rg.lr 71 (exec_bin (R:=.bool true) .lss _ _ _ rfl rfl rfl (b_lss _ (decide_eq_true (by omega)))) ?_;go_frame;go_upto_region 17 with (fail);refine wp_region_list ?_;refine Rg.lm 74 (.slice (some ⟨ob,0,none⟩) n oc) ?_;go_frame;refine Rg.lm 75 (.int .i64 ((t:Nat):Int)) ?_;go_frame;refine Rg.lr 76 (exec_indexS slInts _ _ rfl ob (0) (n) oc (t) rfl rfl htn) ?_;go_frame;refine Rg.lr 77 (Rg.exec_load (v:=.int .i64 lt) _ _ rfl ⟨ob,0+t,none⟩ rfl (run_loadInt CT.out.cell)) ?_;go_frame
             refine Rg.lm 78 (.int .i64 lt) ?_;go_frame;refine Rg.lr 79 (exec_bin (R:=.bool true) .eql _ _ _ rfl rfl rfl (b_eql _ (decide_eq_true rfl))) ?_;go_frame;go_upto_region 18 with (fail);refine wp_region_list ?_;refine Rg.lm 80 (.slice (some ⟨ob,0,none⟩) n oc) ?_;go_frame;refine Rg.lm 81 (.int .i64 ((t:Nat):Int)) ?_;go_frame;refine Rg.lm 82 (.int .i64 b) ?_;go_frame;refine Rg.lr 83 (exec_indexS slInts _ _ rfl ob (0) (n) oc (t) rfl rfl htn) ?_;go_frame;refine Rg.list_skip none rfl rfl (Rg.exec_store _ _ _ rfl _ rfl _ rfl (run_storeIntB _ CT.out.cell FT.out)) ?_;go_frame;generalize wh.setCell ⟨ob,0+t,none⟩ (.int .i64 b)=wi at *;have CM2:=ι hset;clear hset;go_upto_region 16 with (fail);refine wp_region_list ?_;refine Rg.lm 72 (.int .i64 ((t:Nat):Int)) ?_;go_frame;refine Rg.lr 73 (exec_bin (R:=.int .i64 (((t+1):Nat):Int)) .add _ _ _ rfl rfl rfl (b_add _ (by omega) (by omega))) ?_;go_frame
             refine Rg.la 11 (.int .i64 (((t+1):Nat):Int)) ?_;go_frame;go_wp2
             go_roundw
             case rel=>exact ⟨t+1,by go_num,htn,CM2⟩
             case measure=>simp [intOf]; omega

theorem Hicl1 (args:Array Value) (w:World):(callFunc 87 args).run Tryz.prog w=.ok (.enter 87 args) w:=by kernel_rfl
theorem Hicl4 (args:Array Value) (w:World):(callFunc 178 args).run Tryz.prog w=.ok (.enter 178 args) w:=by kernel_rfl
def lsC (d:Int) (ll:List (List Int)) (a b:Int):Int:=if Ma.gchk d ll=0 then (if (0≤a∧a<d)∧(0≤b∧b<d) then 0 else 2) else Ma.gchk d ll
def LsAns (w:World) (d:Int) (ll:List (List Int)) (a b:Int) (v:Value):Prop :=
 (lsC d ll a b≠0∧v=.slice none 0 0)∨(lsC d ll a b=0∧∃ (D:Nat) (gs:List (List Nat)) (A B:Nat) (M:List Nat),d=D∧ll=gs.map Ma.ofN∧a=A∧b=B∧GG D gs∧1≤D∧D≤64∧A<D∧B<D∧Bk.IsLab D (Bk.BR gs.length (img gs) (Bk.onep A B)) M∧Rg.Ints w v (Ma.ofN M))
theorem LsAns.below {w w':World} {d:Int} {ll:List (List Int)} {a b:Int} {v:Value} (h:LsAns w d ll a b v) (hb:Below w.heap.size w w'):LsAns w' d ll a b v:=by
 rcases h with h | ⟨h0,D,gs,A,B,M,h1,h2,h3,h4,h5,h6,h7,h8,h9,h10,h11⟩
 ·exact .inl h
 ·exact .inr ⟨h0,D,gs,A,B,M,h1,h2,h3,h4,h5,h6,h7,h8,h9,h10,h11.below hb⟩
theorem ints_nil0 (w:World):Rg.Ints w (.slice none 0 0) []:=⟨none,0,by simp,by simp,by unfold maxLen; simp,by simp [Rg.big],fun h=>by simp at h⟩
theorem LsAns.both {w:World} {d:Int} {ll:List (List Int)} {a b:Int} {v v':Value} (h:LsAns w d ll a b v) (h':LsAns w d ll a b v'):∃ l,Rg.Ints w v l∧Rg.Ints w v' l:=by
 rcases h with ⟨h0,rfl⟩ | ⟨h0,D,gs,A,B,M,rfl,rfl,rfl,rfl,_,_,_,_,_,h9,h10⟩
 ·rcases h' with ⟨_,rfl⟩ | ⟨h1,_⟩
  ·exact ⟨[],ints_nil0 w,ints_nil0 w⟩
  ·exact absurd h1 h0
 ·rcases h' with ⟨h1,_⟩ | ⟨_,D',gs',A',B',M',e1,e2,e3,e4,_,_,_,_,_,k9,k10⟩
  ·exact absurd h0 h1
  ·obtain rfl:D=D':=by omega
   obtain rfl:=map_ofN_inj e2
   obtain rfl:A=A':=by omega
   obtain rfl:B=B':=by omega
   obtain rfl:=h9.uniq k9;exact ⟨_,h10,k10⟩
def BlPost (d:Int) (ll:List (List Int)) (a b:Int) (w:World) (e:Ending) (w':World):Prop:=∃ v,e=.returned (.tuple #[v,.int .i64 (lsC d ll a b)])∧LsAns w' d ll a b v∧Below w.heap.size w w'
theorem lsC_g {d:Int} {ll:List (List Int)} {a b c:Int} (h:Ma.gchk d ll=c) (hc:c≠0):lsC d ll a b=c:=by unfold lsC; rw [if_neg (by rw [h]; exact hc)]; exact h
theorem lsC_p {d:Int} {ll:List (List Int)} {a b:Int} (h:Ma.gchk d ll=0) (hc:¬ ((0≤a∧a<d)∧(0≤b∧b<d))):lsC d ll a b=2:=by unfold lsC; rw [if_pos h,if_neg hc]
theorem lsC_z {d:Int} {ll:List (List Int)} {a b:Int} (h:Ma.gchk d ll=0) (hc:(0≤a∧a<d)∧(0≤b∧b<d)):lsC d ll a b=0:=by unfold lsC; rw [if_pos h,if_pos hc]
theorem inT_one (A B:Nat):inT [(A,B)]=Bk.onep A B:=funext fun x=>funext fun y=>propext (by unfold inT Bk.onep; rw [List.mem_singleton,Prod.mk.injEq])
theorem prs_one {W W':World} {A B:Nat} (h:Below W.heap.size W W') (e:W'=W.alloc (.cells #[.int .i64 ((A:Nat):Int),.int .i64 ((B:Nat):Int)] 108)):Prs W' (.slice (some ⟨W.heap.size,0,none⟩) 1 1) [(A,B)]:=by
 subst e;refine ⟨⟨_,1,rfl,Nat.le_refl _,by show 1≤_; omega,fun _=>⟨W.heap.size,0,rfl,by simp,fun i hi=>?_⟩⟩⟩
 obtain rfl:i=0:=by have:i<1:=hi; omega
 exact ⟨by rw [Rg.cellNew]; rfl,by rw [Rg.cellNew]; rfl⟩
theorem bleastV (n:Nat) (gv pv:Value) (gs:List (List Nat)) (T0:List (Nat × Nat)) (w:World) (hn:n≤64) (hg:Rg.Rows w gv (gs.map Ma.ofN)) (hgg:GG n gs) (hgl:gs.length≤1000) (hp:Prs w pv T0) (hr:∀ z∈T0,z.1<n∧z.2<n) (hl:T0.length≤1000) :
  Calls Tryz.prog 87 #[.agg #[.int .i64 ((n:Nat):Int),gv],pv] w fun e w'=>∃ v L,e=.returned v∧Rg.Ints w' v (Ma.ofN L)∧Bk.IsLab n (Bk.BR gs.length (img gs) (inT T0)) L∧Below w.heap.size w w' :=
 (bleast_any n gv pv gs T0 w hn hg hgg hgl hp hr hl).mono fun _ _ ⟨v,M,h1,h2,h3⟩=>⟨v,M,h1,h2.ints (by omega),h3,h2.bel⟩
theorem RwAt.ints {w:World} {g n cap:Nat} {f:Nat→Int} (h:RwAt w g n f) (hc:n≤cap) (hm:cap≤maxLen) (hn:n≤1000):Rg.Ints w (.slice (some ⟨g,0,none⟩) n cap) ((List.range n).map f):=by
 refine Rg.Ints.mk (by simp) h.1 (by simpa using hc) hm (by simp; omega) fun i hi=>?_
 have hi':i<n:=by simpa using hi
 rw [Nat.zero_add,h.2.1 i hi'];simp
theorem oneAB_br {gs:List (List Nat)} {D A B:Nat} (hA:A<D) (hB:B<D):Bk.BR gs.length (img gs) (eqL D ((List.range D).map fun i=>if i=A then ((B:Nat):Int) else ((i:Nat):Int)))=Bk.BR gs.length (img gs) (Bk.onep A B):=by
 have key:∀ x,x<D→((List.range D).map fun i=>if i=A then ((B:Nat):Int) else ((i:Nat):Int)).getD x 0=if x=A then ((B:Nat):Int) else ((x:Nat):Int):=fun x hx=>by
  rw [getI_at (by simpa using hx),List.getElem_map,List.getElem_range]
 refine Bk.BR.iff (fun x y h=>?_) (fun x y h=>?_)
 ·obtain ⟨⟨hx,hy⟩,h⟩:=h
  rw [key x hx,key y hy] at h
  by_cases e1:x=A <;> by_cases e2:y=A
  ·rw [e1,e2]; exact .refl _
  ·rw [if_pos e1,if_neg e2] at h
   obtain rfl:B=y:=by omega
   exact .base ⟨e1,rfl⟩
  ·rw [if_neg e1,if_pos e2] at h
   obtain rfl:x=B:=by omega
   exact .symm (.base ⟨e2,rfl⟩)
  ·rw [if_neg e1,if_neg e2] at h
   obtain rfl:x=y:=by omega
   exact .refl _
 ·obtain ⟨rfl,rfl⟩:=h
  refine .base ⟨⟨hA,hB⟩,?_⟩;rw [key _ hA,key _ hB,if_pos rfl]
  by_cases e:y=x
  ·rw [if_pos e]
  ·rw [if_neg e]
theorem GI.kpG {M:Nat→Prop} {W W':World} {b:Nat} {d:Int} {a:Option Addr} {ll:List (List Int)} {c:Nat} (h:GI W b d a ll c) (hk:Rg.Kp M W W') (hM:¬ M b) (hr:Rg.Rows W' (.slice a ll.length c) ll):GI W' b d a ll c :=
 ⟨(World.cell?_of_block (a:=⟨b,0,none⟩) (hk.block b h.lt hM)).trans h.c0,(World.cell?_of_block (a:=⟨b,1,none⟩) (hk.block b h.lt hM)).trans h.c1,hr,Nat.lt_of_lt_of_le h.lt hk.size⟩
theorem Least_any (gv:Value) (d:Int) (ll:List (List Int)) (a b:Int) (w:World) (h:Rg.Rows w gv ll) :
  Calls Tryz.prog 26 #[.agg #[.int .i64 d,gv],.int .i64 a,.int .i64 b] w (BlPost d ll a b w):=by
 have HG9:=ι h;obtain ⟨ga,gc,rfl,hga,hba⟩:=GI.enter (d) h;have K:=ι hba;have G0:=ι hga;clear h hga hba;obtain ⟨ck,hck⟩:∃ c,Hid (Ma.gchk d ll=c):=⟨_,ι rfl⟩
 go_enter Tryz.func26,Tryz.ntmps26
 go_upto_region 0 with (fail);refine wp_region_list ?_;refine Rg.lr 3 (Rg.exec_box _ _ rfl rfl) ?_;go_frame;refine Rg.la 6 (.slice none 0 0) ?_;go_frame;refine Rg.la 7 (.int .i64 0) ?_;go_frame;generalize w.alloc (.cells #[.int .i64 d,.slice ga ll.length gc] 24)=w0 at *;go_upto_region 1 with (fail);refine wp_region_list ?_;refine Rg.lr 9 (Rg.exec_load (v:=.agg #[.int .i64 d,.slice ga ll.length gc]) _ _ rfl ⟨w.heap.size,0,none⟩ rfl (run_loadG G0.out.c0 G0.out.c1)) ?_;go_frame;refine list_ask (some 10) rfl rfl _ _ (exec_fn1 85 _ _ rfl rfl (vacl0 _ _)) ?_;refine (orbitCheck_any _ d ll w0 G0.out.rows).mono ?_;rintro e1 w1 ⟨rfl,hb⟩;rw [hck.out];refine ⟨_,rfl,?_⟩;go_frame;replace G0:=ι (G0.out.below hb);replace K:=ι (Rg.acc K.out hb);clear hb;refine Rg.la 8 (.int .i64 ck) ?_;go_frame
 by_cases h0:ck=0
 case neg =>
  skip
  go_upto_region 2 with (fail);refine wp_region_list ?_;refine Rg.lm 11 (.int .i64 ck) ?_;go_frame;refine Rg.lr 12 (exec_bin (R:=.bool true) .neq _ _ _ rfl rfl rfl (b_neqB _ (decide_eq_true h0))) ?_;go_frame;go_upto_region 3 with (fail);refine wp_region_list ?_;refine Rg.lm 13 (.int .i64 ck) ?_;go_frame;refine Rg.la 6 (.slice none 0 0) ?_;go_frame;refine Rg.la 7 (.int .i64 ck) ?_;go_frame;go_wp2
  go_ret2
  exact ⟨_,by rw [lsC_g hck.out h0]; rfl,.inl ⟨by rw [lsC_g hck.out h0]; exact h0,rfl⟩,K.out⟩
 case pos =>
  have HZ:=ι (hck.out.trans h0);go_upto_region 2 with (fail);refine wp_region_list ?_;refine Rg.lm 11 (.int .i64 ck) ?_;go_frame;refine Rg.lr 12 (exec_bin (R:=.bool false) .neq _ _ _ rfl rfl rfl (b_neqB _ (decide_eq_false (fun e=>e h0)))) ?_;go_frame;clear h0
  by_cases ha0:a<0
  case pos =>
   have HB:=ι (lsC_p (b:=b) HZ.out (fun h=>by omega:¬ ((0≤a∧a<d)∧(0≤b∧b<d))));go_upto_region 4 with (fail);refine wp_region_list ?_;refine Rg.lm 14 (.int .i64 a) ?_;go_frame;refine Rg.lr 15 (exec_bin (R:=.bool true) .lss _ _ _ rfl rfl rfl (b_lss _ (decide_eq_true ha0))) ?_;go_frame;refine Rg.lm 16 (.bool true) ?_;go_frame;refine listW_pass (some 17) (by kernel_rfl) rfl ?_;go_frame;refine listW_pass (some 18) (by kernel_rfl) rfl ?_;go_frame;refine listW_pass (some 19) (by kernel_rfl) rfl ?_;go_frame;refine listW_pass (some 20) (by kernel_rfl) rfl ?_;go_frame;refine Rg.lr 21 (exec_pickT (v:=.bool true) _ _ _ rfl rfl rfl) ?_;go_frame;refine Rg.lm 22 (.bool true) ?_;go_frame;refine listW_pass (some 23) (by kernel_rfl) rfl ?_;go_frame;refine listW_pass (some 24) (by kernel_rfl) rfl ?_;go_frame;refine Rg.lr 25 (exec_pickT (v:=.bool true) _ _ _ rfl rfl rfl) ?_;go_frame
   refine Rg.lm 26 (.bool true) ?_;go_frame;refine listW_pass (some 27) (by kernel_rfl) rfl ?_;go_frame;refine listW_pass (some 28) (by kernel_rfl) rfl ?_;go_frame;refine listW_pass (some 29) (by kernel_rfl) rfl ?_;go_frame;refine listW_pass (some 30) (by kernel_rfl) rfl ?_;go_frame;refine Rg.lr 31 (exec_pickT (v:=.bool true) _ _ _ rfl rfl rfl) ?_;go_frame;go_upto_region 5 with (fail);refine wp_region_list ?_;refine Rg.la 6 (.slice none 0 0) ?_;go_frame;refine Rg.la 7 (.int .i64 ((2:Nat):Int)) ?_;go_frame;go_wp2
   go_ret2
   exact ⟨_,by rw [HB.out]; rfl,.inl ⟨by rw [HB.out]; decide,rfl⟩,K.out⟩
  by_cases ha1:d≤a
  case pos =>
   have HB:=ι (lsC_p (b:=b) HZ.out (fun h=>by omega:¬ ((0≤a∧a<d)∧(0≤b∧b<d))));go_upto_region 4 with (fail);refine wp_region_list ?_;refine Rg.lm 14 (.int .i64 a) ?_;go_frame;refine Rg.lr 15 (exec_bin (R:=.bool false) .lss _ _ _ rfl rfl rfl (b_lss _ (decide_eq_false ha0))) ?_;go_frame;refine Rg.lm 16 (.bool false) ?_;go_frame;refine listW_run (some 17) rfl rfl (Rg.xm (.int .i64 a) _ rfl rfl) ?_;go_frame;refine listW_run (some 18) rfl rfl (exec_fieldG0 _ rfl rfl) ?_;go_frame;refine listW_run (some 19) rfl rfl (Rg.exec_load (v:=.int .i64 d) _ _ rfl ⟨w.heap.size,0,none⟩ rfl (run_loadInt G0.out.c0)) ?_;go_frame;refine listW_run (some 20) rfl rfl (exec_bin (R:=.bool true) .geq _ _ _ rfl rfl rfl (b_geq _ (decide_eq_true ha1))) ?_;go_frame;refine Rg.lr 21 (exec_pickF (v:=.bool true) _ _ _ rfl rfl rfl) ?_;go_frame;refine Rg.lm 22 (.bool true) ?_;go_frame;refine listW_pass (some 23) (by kernel_rfl) rfl ?_;go_frame
   refine listW_pass (some 24) (by kernel_rfl) rfl ?_;go_frame;refine Rg.lr 25 (exec_pickT (v:=.bool true) _ _ _ rfl rfl rfl) ?_;go_frame;refine Rg.lm 26 (.bool true) ?_;go_frame;refine listW_pass (some 27) (by kernel_rfl) rfl ?_;go_frame;refine listW_pass (some 28) (by kernel_rfl) rfl ?_;go_frame;refine listW_pass (some 29) (by kernel_rfl) rfl ?_;go_frame;refine listW_pass (some 30) (by kernel_rfl) rfl ?_;go_frame;refine Rg.lr 31 (exec_pickT (v:=.bool true) _ _ _ rfl rfl rfl) ?_;go_frame;go_upto_region 5 with (fail);refine wp_region_list ?_;refine Rg.la 6 (.slice none 0 0) ?_;go_frame;refine Rg.la 7 (.int .i64 ((2:Nat):Int)) ?_;go_frame;go_wp2
   go_ret2
   exact ⟨_,by rw [HB.out]; rfl,.inl ⟨by rw [HB.out]; decide,rfl⟩,K.out⟩
  by_cases hb0:b<0
  case pos =>
   have HB:=ι (lsC_p (a:=a) HZ.out (fun h=>by omega:¬ ((0≤a∧a<d)∧(0≤b∧b<d))));go_upto_region 4 with (fail);refine wp_region_list ?_;refine Rg.lm 14 (.int .i64 a) ?_;go_frame;refine Rg.lr 15 (exec_bin (R:=.bool false) .lss _ _ _ rfl rfl rfl (b_lss _ (decide_eq_false ha0))) ?_;go_frame;refine Rg.lm 16 (.bool false) ?_;go_frame;refine listW_run (some 17) rfl rfl (Rg.xm (.int .i64 a) _ rfl rfl) ?_;go_frame;refine listW_run (some 18) rfl rfl (exec_fieldG0 _ rfl rfl) ?_;go_frame;refine listW_run (some 19) rfl rfl (Rg.exec_load (v:=.int .i64 d) _ _ rfl ⟨w.heap.size,0,none⟩ rfl (run_loadInt G0.out.c0)) ?_;go_frame;refine listW_run (some 20) rfl rfl (exec_bin (R:=.bool false) .geq _ _ _ rfl rfl rfl (b_geq _ (decide_eq_false ha1))) ?_;go_frame;refine Rg.lr 21 (exec_pickF (v:=.bool false) _ _ _ rfl rfl rfl) ?_;go_frame;refine Rg.lm 22 (.bool false) ?_;go_frame;refine listW_run (some 23) rfl rfl (Rg.xm (.int .i64 b) _ rfl rfl) ?_;go_frame
   refine listW_run (some 24) rfl rfl (exec_bin (R:=.bool true) .lss _ _ _ rfl rfl rfl (b_lss _ (decide_eq_true hb0))) ?_;go_frame;refine Rg.lr 25 (exec_pickF (v:=.bool true) _ _ _ rfl rfl rfl) ?_;go_frame;refine Rg.lm 26 (.bool true) ?_;go_frame;refine listW_pass (some 27) (by kernel_rfl) rfl ?_;go_frame;refine listW_pass (some 28) (by kernel_rfl) rfl ?_;go_frame;refine listW_pass (some 29) (by kernel_rfl) rfl ?_;go_frame;refine listW_pass (some 30) (by kernel_rfl) rfl ?_;go_frame;refine Rg.lr 31 (exec_pickT (v:=.bool true) _ _ _ rfl rfl rfl) ?_;go_frame;go_upto_region 5 with (fail);refine wp_region_list ?_;refine Rg.la 6 (.slice none 0 0) ?_;go_frame;refine Rg.la 7 (.int .i64 ((2:Nat):Int)) ?_;go_frame;go_wp2
   go_ret2
   exact ⟨_,by rw [HB.out]; rfl,.inl ⟨by rw [HB.out]; decide,rfl⟩,K.out⟩
  by_cases hb1:d≤b
  case pos =>
   have HB:=ι (lsC_p (a:=a) HZ.out (fun h=>by omega:¬ ((0≤a∧a<d)∧(0≤b∧b<d))));go_upto_region 4 with (fail);refine wp_region_list ?_;refine Rg.lm 14 (.int .i64 a) ?_;go_frame;refine Rg.lr 15 (exec_bin (R:=.bool false) .lss _ _ _ rfl rfl rfl (b_lss _ (decide_eq_false ha0))) ?_;go_frame;refine Rg.lm 16 (.bool false) ?_;go_frame;refine listW_run (some 17) rfl rfl (Rg.xm (.int .i64 a) _ rfl rfl) ?_;go_frame;refine listW_run (some 18) rfl rfl (exec_fieldG0 _ rfl rfl) ?_;go_frame;refine listW_run (some 19) rfl rfl (Rg.exec_load (v:=.int .i64 d) _ _ rfl ⟨w.heap.size,0,none⟩ rfl (run_loadInt G0.out.c0)) ?_;go_frame;refine listW_run (some 20) rfl rfl (exec_bin (R:=.bool false) .geq _ _ _ rfl rfl rfl (b_geq _ (decide_eq_false ha1))) ?_;go_frame;refine Rg.lr 21 (exec_pickF (v:=.bool false) _ _ _ rfl rfl rfl) ?_;go_frame;refine Rg.lm 22 (.bool false) ?_;go_frame;refine listW_run (some 23) rfl rfl (Rg.xm (.int .i64 b) _ rfl rfl) ?_;go_frame
   refine listW_run (some 24) rfl rfl (exec_bin (R:=.bool false) .lss _ _ _ rfl rfl rfl (b_lss _ (decide_eq_false hb0))) ?_;go_frame;refine Rg.lr 25 (exec_pickF (v:=.bool false) _ _ _ rfl rfl rfl) ?_;go_frame;refine Rg.lm 26 (.bool false) ?_;go_frame;refine listW_run (some 27) rfl rfl (Rg.xm (.int .i64 b) _ rfl rfl) ?_;go_frame;refine listW_run (some 28) rfl rfl (exec_fieldG0 _ rfl rfl) ?_;go_frame;refine listW_run (some 29) rfl rfl (Rg.exec_load (v:=.int .i64 d) _ _ rfl ⟨w.heap.size,0,none⟩ rfl (run_loadInt G0.out.c0)) ?_;go_frame;refine listW_run (some 30) rfl rfl (exec_bin (R:=.bool true) .geq _ _ _ rfl rfl rfl (b_geq _ (decide_eq_true hb1))) ?_;go_frame;refine Rg.lr 31 (exec_pickF (v:=.bool true) _ _ _ rfl rfl rfl) ?_;go_frame;go_upto_region 5 with (fail);refine wp_region_list ?_;refine Rg.la 6 (.slice none 0 0) ?_;go_frame;refine Rg.la 7 (.int .i64 ((2:Nat):Int)) ?_;go_frame
   go_wp2
   go_ret2
   exact ⟨_,by rw [HB.out]; rfl,.inl ⟨by rw [HB.out]; decide,rfl⟩,K.out⟩
  have HB:=ι (lsC_z (a:=a) (b:=b) HZ.out ⟨by omega,by omega⟩);go_upto_region 4 with (fail);refine wp_region_list ?_;refine Rg.lm 14 (.int .i64 a) ?_;go_frame;refine Rg.lr 15 (exec_bin (R:=.bool false) .lss _ _ _ rfl rfl rfl (b_lss _ (decide_eq_false ha0))) ?_;go_frame;refine Rg.lm 16 (.bool false) ?_;go_frame;refine listW_run (some 17) rfl rfl (Rg.xm (.int .i64 a) _ rfl rfl) ?_;go_frame;refine listW_run (some 18) rfl rfl (exec_fieldG0 _ rfl rfl) ?_;go_frame;refine listW_run (some 19) rfl rfl (Rg.exec_load (v:=.int .i64 d) _ _ rfl ⟨w.heap.size,0,none⟩ rfl (run_loadInt G0.out.c0)) ?_;go_frame;refine listW_run (some 20) rfl rfl (exec_bin (R:=.bool false) .geq _ _ _ rfl rfl rfl (b_geq _ (decide_eq_false ha1))) ?_;go_frame;refine Rg.lr 21 (exec_pickF (v:=.bool false) _ _ _ rfl rfl rfl) ?_;go_frame;refine Rg.lm 22 (.bool false) ?_;go_frame;refine listW_run (some 23) rfl rfl (Rg.xm (.int .i64 b) _ rfl rfl) ?_;go_frame
  refine listW_run (some 24) rfl rfl (exec_bin (R:=.bool false) .lss _ _ _ rfl rfl rfl (b_lss _ (decide_eq_false hb0))) ?_;go_frame;refine Rg.lr 25 (exec_pickF (v:=.bool false) _ _ _ rfl rfl rfl) ?_;go_frame;refine Rg.lm 26 (.bool false) ?_;go_frame;refine listW_run (some 27) rfl rfl (Rg.xm (.int .i64 b) _ rfl rfl) ?_;go_frame;refine listW_run (some 28) rfl rfl (exec_fieldG0 _ rfl rfl) ?_;go_frame;refine listW_run (some 29) rfl rfl (Rg.exec_load (v:=.int .i64 d) _ _ rfl ⟨w.heap.size,0,none⟩ rfl (run_loadInt G0.out.c0)) ?_;go_frame;refine listW_run (some 30) rfl rfl (exec_bin (R:=.bool false) .geq _ _ _ rfl rfl rfl (b_geq _ (decide_eq_false hb1))) ?_;go_frame;refine Rg.lr 31 (exec_pickF (v:=.bool false) _ _ _ rfl rfl rfl) ?_;go_frame;obtain ⟨D,gs,hD,hgs,hgg,hD1,hD2,hgl⟩:=gchk_ok HZ.out;obtain ⟨A,hA⟩:∃ A:Nat,a=A:=⟨a.toNat,by omega⟩;obtain ⟨B,hB⟩:∃ A:Nat,b=A:=⟨b.toNat,by omega⟩
  subst hD hgs hA hB
  have hAD:A<D:=by omega
  have hBD:B<D:=by omega
  have HGG:=ι hgg
  have hgl2:(gs.map Ma.ofN).length≤16:=by rw [List.length_map]; exact hgl
  clear ha0 ha1 hb0 hb1 hgg;go_upto_region 6 with (fail);refine wp_region_list ?_;refine Rg.lr 32 (Rg.exec_load (v:=.agg #[.int .i64 ((D:Nat):Int),.slice ga (gs.map Ma.ofN).length gc]) _ _ rfl ⟨w.heap.size,0,none⟩ rfl (run_loadG G0.out.c0 G0.out.c1)) ?_;go_frame;refine Rg.lm 33 (.int .i64 ((A:Nat):Int)) ?_;go_frame;refine Rg.lm 34 (.int .i64 ((B:Nat):Int)) ?_;go_frame;refine Rg.lr 35 (exec_build2 _ _ rfl rfl rfl) ?_;go_frame;have hpr:=prs_one (W:=w1) (A:=A) (B:=B) ((Below.refl _ _).alloc (Nat.le_refl _) _) rfl;refine Rg.lr 36 (Rg.exec_buildSlice _ _ _ rfl (.agg #[.int .i64 ((A:Nat):Int),.int .i64 ((B:Nat):Int)]) rfl (run_build2p w1 _ _)) ?_;go_frame;have hb:=(Below.refl w1.heap.size w1).alloc (Nat.le_refl _) (.cells #[.int .i64 ((A:Nat):Int),.int .i64 ((B:Nat):Int)] 108);generalize w1.alloc (.cells #[.int .i64 ((A:Nat):Int),.int .i64 ((B:Nat):Int)] 108)=w2 at *
  replace G0:=ι (G0.out.below hb);replace K:=ι (Rg.acc K.out hb);clear hb;have PR:=ι hpr;clear hpr;refine list_ask (some 37) rfl rfl _ _ (exec_fn 87 _ _ _ rfl rfl rfl (Hicl1 _ _)) ?_;refine (bleastV D _ _ gs [(A,B)] w2 hD2 G0.out.rows HGG.out (by omega) PR.out (fun z hz=>by rw [List.mem_singleton] at hz; subst hz; exact ⟨hAD,hBD⟩) (by show 1≤1000; omega)).mono ?_;rintro e1 w3 ⟨v,M,rfl,hin,hlab,hb⟩;have HIN:=ι hin;have HLB:=ι hlab;clear hin hlab;refine ⟨_,rfl,?_⟩;go_frame;replace G0:=ι (G0.out.below hb);replace PR:=ι (PR.out.below hb);replace K:=ι (Rg.acc K.out hb);clear hb;refine Rg.la 6 (v) ?_;go_frame;refine Rg.la 7 (.int .i64 ((0:Nat):Int)) ?_;go_frame;rw [inT_one] at HLB;go_wp2
  go_ret2
  exact ⟨_,by rw [HB.out]; rfl,.inr ⟨HB.out,D,gs,A,B,M,rfl,rfl,rfl,rfl,HGG.out,hD1,hD2,hAD,hBD,HLB.out,HIN.out⟩,K.out⟩
theorem refLeast_any (gv:Value) (d:Int) (ll:List (List Int)) (a b:Int) (w:World) (h:Rg.Rows w gv ll) :
  Calls Tryz.prog 96 #[.agg #[.int .i64 d,gv],.int .i64 a,.int .i64 b] w (BlPost d ll a b w):=by
 have HG9:=ι h;obtain ⟨ga,gc,rfl,hga,hba⟩:=GI.enter (d) h;have K:=ι hba;have G0:=ι hga;clear h hga hba;obtain ⟨ck,hck⟩:∃ c,Hid (Ma.gchk d ll=c):=⟨_,ι rfl⟩
 go_enter Tryz.func96,Tryz.ntmps96
 go_upto_region 0 with (fail);refine wp_region_list ?_;refine Rg.lr 3 (Rg.exec_box _ _ rfl rfl) ?_;go_frame;refine Rg.la 6 (.slice none 0 0) ?_;go_frame;refine Rg.la 7 (.int .i64 0) ?_;go_frame;generalize w.alloc (.cells #[.int .i64 d,.slice ga ll.length gc] 24)=w0 at *;go_upto_region 1 with (fail);refine wp_region_list ?_;refine Rg.lr 10 (Rg.exec_load (v:=.agg #[.int .i64 d,.slice ga ll.length gc]) _ _ rfl ⟨w.heap.size,0,none⟩ rfl (run_loadG G0.out.c0 G0.out.c1)) ?_;go_frame;refine list_ask (some 11) rfl rfl _ _ (exec_fn1 92 _ _ rfl rfl (Wqcl0 _ _)) ?_;refine (ref07Check_any _ d ll w0 G0.out.rows).mono ?_;rintro e1 w1 ⟨rfl,hb⟩;rw [hck.out];refine ⟨_,rfl,?_⟩;go_frame;replace G0:=ι (G0.out.below hb);replace K:=ι (Rg.acc K.out hb);clear hb;refine Rg.la 8 (.int .i64 ck) ?_;go_frame
 by_cases h0:ck=0
 case neg =>
  skip
  go_upto_region 2 with (fail);refine wp_region_list ?_;refine Rg.lm 12 (.int .i64 ck) ?_;go_frame;refine Rg.lr 13 (exec_bin (R:=.bool true) .neq _ _ _ rfl rfl rfl (b_neqB _ (decide_eq_true h0))) ?_;go_frame;go_upto_region 3 with (fail);refine wp_region_list ?_;refine Rg.lm 14 (.int .i64 ck) ?_;go_frame;refine Rg.la 6 (.slice none 0 0) ?_;go_frame;refine Rg.la 7 (.int .i64 ck) ?_;go_frame;go_wp2
  go_ret2
  exact ⟨_,by rw [lsC_g hck.out h0]; rfl,.inl ⟨by rw [lsC_g hck.out h0]; exact h0,rfl⟩,K.out⟩
 case pos =>
  have HZ:=ι (hck.out.trans h0);go_upto_region 2 with (fail);refine wp_region_list ?_;refine Rg.lm 12 (.int .i64 ck) ?_;go_frame;refine Rg.lr 13 (exec_bin (R:=.bool false) .neq _ _ _ rfl rfl rfl (b_neqB _ (decide_eq_false (fun e=>e h0)))) ?_;go_frame;clear h0
  by_cases ha0:a<0
  case pos =>
   have HB:=ι (lsC_p (b:=b) HZ.out (fun h=>by omega:¬ ((0≤a∧a<d)∧(0≤b∧b<d))));go_upto_region 4 with (fail);refine wp_region_list ?_;refine Rg.lm 15 (.int .i64 a) ?_;go_frame;refine Rg.lr 16 (exec_bin (R:=.bool true) .lss _ _ _ rfl rfl rfl (b_lss _ (decide_eq_true ha0))) ?_;go_frame;refine Rg.lm 17 (.bool true) ?_;go_frame;refine listW_pass (some 18) (by kernel_rfl) rfl ?_;go_frame;refine listW_pass (some 19) (by kernel_rfl) rfl ?_;go_frame;refine listW_pass (some 20) (by kernel_rfl) rfl ?_;go_frame;refine listW_pass (some 21) (by kernel_rfl) rfl ?_;go_frame;refine Rg.lr 22 (exec_pickT (v:=.bool true) _ _ _ rfl rfl rfl) ?_;go_frame;refine Rg.lm 23 (.bool true) ?_;go_frame;refine listW_pass (some 24) (by kernel_rfl) rfl ?_;go_frame;refine listW_pass (some 25) (by kernel_rfl) rfl ?_;go_frame;refine Rg.lr 26 (exec_pickT (v:=.bool true) _ _ _ rfl rfl rfl) ?_;go_frame
   refine Rg.lm 27 (.bool true) ?_;go_frame;refine listW_pass (some 28) (by kernel_rfl) rfl ?_;go_frame;refine listW_pass (some 29) (by kernel_rfl) rfl ?_;go_frame;refine listW_pass (some 30) (by kernel_rfl) rfl ?_;go_frame;refine listW_pass (some 31) (by kernel_rfl) rfl ?_;go_frame;refine Rg.lr 32 (exec_pickT (v:=.bool true) _ _ _ rfl rfl rfl) ?_;go_frame;go_upto_region 5 with (fail);refine wp_region_list ?_;refine Rg.la 6 (.slice none 0 0) ?_;go_frame;refine Rg.la 7 (.int .i64 ((2:Nat):Int)) ?_;go_frame;go_wp2
   go_ret2
   exact ⟨_,by rw [HB.out]; rfl,.inl ⟨by rw [HB.out]; decide,rfl⟩,K.out⟩
  by_cases ha1:d≤a
  case pos =>
   have HB:=ι (lsC_p (b:=b) HZ.out (fun h=>by omega:¬ ((0≤a∧a<d)∧(0≤b∧b<d))));go_upto_region 4 with (fail);refine wp_region_list ?_;refine Rg.lm 15 (.int .i64 a) ?_;go_frame;refine Rg.lr 16 (exec_bin (R:=.bool false) .lss _ _ _ rfl rfl rfl (b_lss _ (decide_eq_false ha0))) ?_;go_frame;refine Rg.lm 17 (.bool false) ?_;go_frame;refine listW_run (some 18) rfl rfl (Rg.xm (.int .i64 a) _ rfl rfl) ?_;go_frame;refine listW_run (some 19) rfl rfl (exec_fieldG0 _ rfl rfl) ?_;go_frame;refine listW_run (some 20) rfl rfl (Rg.exec_load (v:=.int .i64 d) _ _ rfl ⟨w.heap.size,0,none⟩ rfl (run_loadInt G0.out.c0)) ?_;go_frame;refine listW_run (some 21) rfl rfl (exec_bin (R:=.bool true) .geq _ _ _ rfl rfl rfl (b_geq _ (decide_eq_true ha1))) ?_;go_frame;refine Rg.lr 22 (exec_pickF (v:=.bool true) _ _ _ rfl rfl rfl) ?_;go_frame;refine Rg.lm 23 (.bool true) ?_;go_frame;refine listW_pass (some 24) (by kernel_rfl) rfl ?_;go_frame
   refine listW_pass (some 25) (by kernel_rfl) rfl ?_;go_frame;refine Rg.lr 26 (exec_pickT (v:=.bool true) _ _ _ rfl rfl rfl) ?_;go_frame;refine Rg.lm 27 (.bool true) ?_;go_frame;refine listW_pass (some 28) (by kernel_rfl) rfl ?_;go_frame;refine listW_pass (some 29) (by kernel_rfl) rfl ?_;go_frame;refine listW_pass (some 30) (by kernel_rfl) rfl ?_;go_frame;refine listW_pass (some 31) (by kernel_rfl) rfl ?_;go_frame;refine Rg.lr 32 (exec_pickT (v:=.bool true) _ _ _ rfl rfl rfl) ?_;go_frame;go_upto_region 5 with (fail);refine wp_region_list ?_;refine Rg.la 6 (.slice none 0 0) ?_;go_frame;refine Rg.la 7 (.int .i64 ((2:Nat):Int)) ?_;go_frame;go_wp2
   go_ret2
   exact ⟨_,by rw [HB.out]; rfl,.inl ⟨by rw [HB.out]; decide,rfl⟩,K.out⟩
  by_cases hb0:b<0
  case pos =>
   have HB:=ι (lsC_p (a:=a) HZ.out (fun h=>by omega:¬ ((0≤a∧a<d)∧(0≤b∧b<d))));go_upto_region 4 with (fail);refine wp_region_list ?_;refine Rg.lm 15 (.int .i64 a) ?_;go_frame;refine Rg.lr 16 (exec_bin (R:=.bool false) .lss _ _ _ rfl rfl rfl (b_lss _ (decide_eq_false ha0))) ?_;go_frame;refine Rg.lm 17 (.bool false) ?_;go_frame;refine listW_run (some 18) rfl rfl (Rg.xm (.int .i64 a) _ rfl rfl) ?_;go_frame;refine listW_run (some 19) rfl rfl (exec_fieldG0 _ rfl rfl) ?_;go_frame;refine listW_run (some 20) rfl rfl (Rg.exec_load (v:=.int .i64 d) _ _ rfl ⟨w.heap.size,0,none⟩ rfl (run_loadInt G0.out.c0)) ?_;go_frame;refine listW_run (some 21) rfl rfl (exec_bin (R:=.bool false) .geq _ _ _ rfl rfl rfl (b_geq _ (decide_eq_false ha1))) ?_;go_frame;refine Rg.lr 22 (exec_pickF (v:=.bool false) _ _ _ rfl rfl rfl) ?_;go_frame;refine Rg.lm 23 (.bool false) ?_;go_frame;refine listW_run (some 24) rfl rfl (Rg.xm (.int .i64 b) _ rfl rfl) ?_;go_frame
   refine listW_run (some 25) rfl rfl (exec_bin (R:=.bool true) .lss _ _ _ rfl rfl rfl (b_lss _ (decide_eq_true hb0))) ?_;go_frame;refine Rg.lr 26 (exec_pickF (v:=.bool true) _ _ _ rfl rfl rfl) ?_;go_frame;refine Rg.lm 27 (.bool true) ?_;go_frame;refine listW_pass (some 28) (by kernel_rfl) rfl ?_;go_frame;refine listW_pass (some 29) (by kernel_rfl) rfl ?_;go_frame;refine listW_pass (some 30) (by kernel_rfl) rfl ?_;go_frame;refine listW_pass (some 31) (by kernel_rfl) rfl ?_;go_frame;refine Rg.lr 32 (exec_pickT (v:=.bool true) _ _ _ rfl rfl rfl) ?_;go_frame;go_upto_region 5 with (fail);refine wp_region_list ?_;refine Rg.la 6 (.slice none 0 0) ?_;go_frame;refine Rg.la 7 (.int .i64 ((2:Nat):Int)) ?_;go_frame;go_wp2
   go_ret2
   exact ⟨_,by rw [HB.out]; rfl,.inl ⟨by rw [HB.out]; decide,rfl⟩,K.out⟩
  by_cases hb1:d≤b
  case pos =>
   have HB:=ι (lsC_p (a:=a) HZ.out (fun h=>by omega:¬ ((0≤a∧a<d)∧(0≤b∧b<d))));go_upto_region 4 with (fail);refine wp_region_list ?_;refine Rg.lm 15 (.int .i64 a) ?_;go_frame;refine Rg.lr 16 (exec_bin (R:=.bool false) .lss _ _ _ rfl rfl rfl (b_lss _ (decide_eq_false ha0))) ?_;go_frame;refine Rg.lm 17 (.bool false) ?_;go_frame;refine listW_run (some 18) rfl rfl (Rg.xm (.int .i64 a) _ rfl rfl) ?_;go_frame;refine listW_run (some 19) rfl rfl (exec_fieldG0 _ rfl rfl) ?_;go_frame;refine listW_run (some 20) rfl rfl (Rg.exec_load (v:=.int .i64 d) _ _ rfl ⟨w.heap.size,0,none⟩ rfl (run_loadInt G0.out.c0)) ?_;go_frame;refine listW_run (some 21) rfl rfl (exec_bin (R:=.bool false) .geq _ _ _ rfl rfl rfl (b_geq _ (decide_eq_false ha1))) ?_;go_frame;refine Rg.lr 22 (exec_pickF (v:=.bool false) _ _ _ rfl rfl rfl) ?_;go_frame;refine Rg.lm 23 (.bool false) ?_;go_frame;refine listW_run (some 24) rfl rfl (Rg.xm (.int .i64 b) _ rfl rfl) ?_;go_frame
   refine listW_run (some 25) rfl rfl (exec_bin (R:=.bool false) .lss _ _ _ rfl rfl rfl (b_lss _ (decide_eq_false hb0))) ?_;go_frame;refine Rg.lr 26 (exec_pickF (v:=.bool false) _ _ _ rfl rfl rfl) ?_;go_frame;refine Rg.lm 27 (.bool false) ?_;go_frame;refine listW_run (some 28) rfl rfl (Rg.xm (.int .i64 b) _ rfl rfl) ?_;go_frame;refine listW_run (some 29) rfl rfl (exec_fieldG0 _ rfl rfl) ?_;go_frame;refine listW_run (some 30) rfl rfl (Rg.exec_load (v:=.int .i64 d) _ _ rfl ⟨w.heap.size,0,none⟩ rfl (run_loadInt G0.out.c0)) ?_;go_frame;refine listW_run (some 31) rfl rfl (exec_bin (R:=.bool true) .geq _ _ _ rfl rfl rfl (b_geq _ (decide_eq_true hb1))) ?_;go_frame;refine Rg.lr 32 (exec_pickF (v:=.bool true) _ _ _ rfl rfl rfl) ?_;go_frame;go_upto_region 5 with (fail);refine wp_region_list ?_;refine Rg.la 6 (.slice none 0 0) ?_;go_frame;refine Rg.la 7 (.int .i64 ((2:Nat):Int)) ?_;go_frame
   go_wp2
   go_ret2
   exact ⟨_,by rw [HB.out]; rfl,.inl ⟨by rw [HB.out]; decide,rfl⟩,K.out⟩
  have HB:=ι (lsC_z (a:=a) (b:=b) HZ.out ⟨by omega,by omega⟩);go_upto_region 4 with (fail);refine wp_region_list ?_;refine Rg.lm 15 (.int .i64 a) ?_;go_frame;refine Rg.lr 16 (exec_bin (R:=.bool false) .lss _ _ _ rfl rfl rfl (b_lss _ (decide_eq_false ha0))) ?_;go_frame;refine Rg.lm 17 (.bool false) ?_;go_frame;refine listW_run (some 18) rfl rfl (Rg.xm (.int .i64 a) _ rfl rfl) ?_;go_frame;refine listW_run (some 19) rfl rfl (exec_fieldG0 _ rfl rfl) ?_;go_frame;refine listW_run (some 20) rfl rfl (Rg.exec_load (v:=.int .i64 d) _ _ rfl ⟨w.heap.size,0,none⟩ rfl (run_loadInt G0.out.c0)) ?_;go_frame;refine listW_run (some 21) rfl rfl (exec_bin (R:=.bool false) .geq _ _ _ rfl rfl rfl (b_geq _ (decide_eq_false ha1))) ?_;go_frame;refine Rg.lr 22 (exec_pickF (v:=.bool false) _ _ _ rfl rfl rfl) ?_;go_frame;refine Rg.lm 23 (.bool false) ?_;go_frame;refine listW_run (some 24) rfl rfl (Rg.xm (.int .i64 b) _ rfl rfl) ?_;go_frame
  refine listW_run (some 25) rfl rfl (exec_bin (R:=.bool false) .lss _ _ _ rfl rfl rfl (b_lss _ (decide_eq_false hb0))) ?_;go_frame;refine Rg.lr 26 (exec_pickF (v:=.bool false) _ _ _ rfl rfl rfl) ?_;go_frame;refine Rg.lm 27 (.bool false) ?_;go_frame;refine listW_run (some 28) rfl rfl (Rg.xm (.int .i64 b) _ rfl rfl) ?_;go_frame;refine listW_run (some 29) rfl rfl (exec_fieldG0 _ rfl rfl) ?_;go_frame;refine listW_run (some 30) rfl rfl (Rg.exec_load (v:=.int .i64 d) _ _ rfl ⟨w.heap.size,0,none⟩ rfl (run_loadInt G0.out.c0)) ?_;go_frame;refine listW_run (some 31) rfl rfl (exec_bin (R:=.bool false) .geq _ _ _ rfl rfl rfl (b_geq _ (decide_eq_false hb1))) ?_;go_frame;refine Rg.lr 32 (exec_pickF (v:=.bool false) _ _ _ rfl rfl rfl) ?_;go_frame;obtain ⟨D,gs,hD,hgs,hgg,hD1,hD2,hgl⟩:=gchk_ok HZ.out;obtain ⟨A,hA⟩:∃ A:Nat,a=A:=⟨a.toNat,by omega⟩;obtain ⟨B,hB⟩:∃ A:Nat,b=A:=⟨b.toNat,by omega⟩
  subst hD hgs hA hB
  have hAD:A<D:=by omega
  have hBD:B<D:=by omega
  have HGG:=ι hgg
  have hgl2:(gs.map Ma.ofN).length≤16:=by rw [List.length_map]; exact hgl
  clear ha0 ha1 hb0 hb1 hgg;have HSZ:=ι K.out.size;go_upto_region 6 with (fail);refine wp_region_list ?_;refine Rg.lr 33 (exec_fieldG0 _ rfl rfl) ?_;go_frame;refine Rg.lr 34 (Rg.exec_load (v:=.int .i64 ((D:Nat):Int)) _ _ rfl ⟨w.heap.size,0,none⟩ rfl (run_loadInt G0.out.c0)) ?_;go_frame;refine list_ask (some 35) rfl rfl _ _ (exec_fn1 101 _ _ rfl rfl (Wncl0 _ _)) ?_;refine (kitOne_row D w1 hD1 (by omega)).mono ?_;rintro e1 w2 ⟨g,cap,rfl,hg1,hg2,hg3,hg4,hb⟩;have HC:=ι (And.intro hg2 hg3);have HGL:=ι (And.intro G0.out.lt hg1);clear hg1 hg2 hg3;refine ⟨_,rfl,?_⟩;go_frame;replace G0:=ι (G0.out.below hb);replace K:=ι (Rg.acc K.out hb);clear hb;have RW:=ι hg4;refine Rg.la 9 (.slice (some ⟨g,0,none⟩) D cap) ?_;go_frame;clear hg4;have CB:=ι (show Cel w2 g (0+B) (.int .i64 ((B:Nat):Int)) from ⟨by rw [Nat.zero_add]; exact RW.out.2.1 B hBD,RW.out.1⟩);have C1:=ι (show w2.cell? ⟨g,0+A,none⟩=some (.int .i64 ((A:Nat):Int)) by rw [Nat.zero_add]; exact RW.out.2.1 A hAD)
  have F1:=ι (show w2.frozen? ⟨g,0+A,none⟩=false by rw [Nat.zero_add]; exact RW.out.2.2 A);go_upto_region 7 with (fail);refine wp_region_list ?_;refine Rg.lm 36 (.slice (some ⟨g,0,none⟩) D cap) ?_;go_frame;refine Rg.lm 37 (.int .i64 ((A:Nat):Int)) ?_;go_frame;refine Rg.lm 38 (.slice (some ⟨g,0,none⟩) D cap) ?_;go_frame;refine Rg.lm 39 (.int .i64 ((B:Nat):Int)) ?_;go_frame;refine Rg.lr 40 (exec_indexS slInts _ _ rfl g (0) (D) cap (B) rfl rfl hBD) ?_;go_frame;refine Rg.lr 41 (Rg.exec_load (v:=.int .i64 ((B:Nat):Int)) _ _ rfl ⟨g,0+B,none⟩ rfl (run_loadInt CB.out.1)) ?_;go_frame;refine Rg.lr 42 (exec_indexS slInts _ _ rfl g (0) (D) cap (A) rfl rfl hAD) ?_;go_frame;refine Rg.list_skip none rfl rfl (Rg.exec_store _ _ _ rfl _ rfl _ rfl (run_storeIntB _ C1.out F1.out)) ?_;go_frame;have hrs:=RW.out.set A ((B:Nat):Int) hAD;have hkp:Rg.Kp (fun z=>z=g) w2 (w2.setCell ⟨g,0+A,none⟩ (.int .i64 ((B:Nat):Int))):=Rg.Kp.of_setCell rfl
  have hG0:=G0.out.kpG hkp (fun e=>by have:=HGL.out; omega) (HG9.out.below (Rg.Kp.below K.out hkp (fun z e=>by have:=HSZ.out; have:=HGL.out; omega)));have hK:=Rg.Kp.below K.out hkp (fun z e=>by have:=HSZ.out; have:=HGL.out; omega);have hz0:0+A=A:=Nat.zero_add A;rw [← hz0] at hrs;rw [hz0] at hrs
  have hrs2:RwAt (w2.setCell ⟨g,0+A,none⟩ (.int .i64 ((B:Nat):Int))) g D (fun i=>if i=A then ((B:Nat):Int) else ((i:Nat):Int)):=by rw [hz0]; exact hrs
  generalize w2.setCell ⟨g,0+A,none⟩ (.int .i64 ((B:Nat):Int))=w88 at *;replace G0:=ι hG0;replace K:=ι hK;have LV:=ι (hrs2.ints HC.out.1 HC.out.2 (by omega));have HLV:=ι (show ((List.range D).map fun i=>if i=A then ((B:Nat):Int) else ((i:Nat):Int)).length=D by simp);have HEQ:=ι (oneAB_br (gs:=gs) hAD hBD);clear hrs hkp hG0 hK hz0 hrs2 CB RW C1 F1;go_upto_region 8 with (fail);refine wp_region_list ?_;refine Rg.lr 43 (Rg.exec_load (v:=.agg #[.int .i64 ((D:Nat):Int),.slice ga (gs.map Ma.ofN).length gc]) _ _ rfl ⟨w.heap.size,0,none⟩ rfl (run_loadG G0.out.c0 G0.out.c1)) ?_;go_frame;refine Rg.lm 44 (.slice (some ⟨g,0,none⟩) D cap) ?_;go_frame;refine list_ask (some 45) rfl rfl _ _ (exec_fn 178 _ _ _ rfl rfl rfl (Hicl4 _ _)) ?_;refine (closed_any D _ _ gs _ w88 hD1 hD2 G0.out.rows HGG.out (by omega) LV.out HLV.out).mono ?_;rintro e1 w3 ⟨v,M,rfl,hin,hlab,hb⟩
  have HIN:=ι (OwZ.ints hin (by rw [Ma.len_ofN,hlab.len]; omega));have HLB:=ι hlab;clear hin hlab;refine ⟨_,rfl,?_⟩;go_frame;replace G0:=ι (G0.out.below hb);replace K:=ι (Rg.acc K.out hb);clear hb;refine Rg.la 6 (v) ?_;go_frame;refine Rg.la 7 (.int .i64 ((0:Nat):Int)) ?_;go_frame;rw [HEQ.out] at HLB;go_wp2
  go_ret2
  exact ⟨_,by rw [HB.out]; rfl,.inr ⟨HB.out,D,gs,A,B,M,rfl,rfl,rfl,rfl,HGG.out,hD1,hD2,hAD,hBD,HLB.out,HIN.out⟩,K.out⟩
end Go.Proofs.YthehbckogieimaaGreat

namespace Go.Proofs.YthehbckogieimaaGreat
open Go.RowKit
open Go.Proofs
open Go.Proofs.Ob
open Go.Proofs.Cm (Gd Gr)
attribute [local irreducible] Go.Calls Go.wpList
theorem ptE_good {gs:List (List Nat)} {D p:Nat} (hk:Ma.gchk ((D:Nat):Int) (gs.map Ma.ofN)=0) (hp:p<D):ptE ((D:Nat):Int) (gs.map Ma.ofN) ((p:Nat):Int)=0:=by
 unfold ptE;rw [if_pos hk,if_pos];exact decide_eq_true (by omega)
end Go.Proofs.YthehbckogieimaaGreat
