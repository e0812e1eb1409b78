/- Lemmas and contracts on the way to the statement; no condition of their own beyond those written. -/
import Derived.Test.YthehbckogieimaaGreatXWntoCu
import Derived.RangeFuncWrites
import Derived.RangeFuncNested
import Derived.RangeFuncBox
import Derived.RangeFuncLeaves
import Derived.Shelf.Abstract
import Derived.OwnWalkIn
import Derived.TacticsInMore
import Derived.LoopNIn
import Derived.LoopIn
import Derived.Maps.AppendAt
import Derived.Sort.CutIn
import Derived.Deep.CutRange
import Derived.Deep.CutBlock
import Derived.IntWalk
import Derived.Great.BuildSlice
import Derived.ArgAppend
import Derived.Laws.CopyOwn
import Derived.StillTailTactics
import Derived.Deep.MidRow
import Derived.WalkSpells
import Derived.WalkLawsBesides
import Derived.OwnWalk
import Derived.OrdersHeld
import Derived.Deep.OwnRows
import Derived.WalkKit
import Derived.Lib.Hide
import Derived.Laws.OwnMore
import Derived.Test.YthehbckogieimaaGreatProg
import Derived.Outline
import Derived.Deep.DeepFit
import Derived.BigQuiet
import Derived.Deep.QuietTactic
import Derived.Sort.OwnSortedInts
import Derived.WideMake
import Derived.MapKept
import Derived.ChangeMaps5
import Derived.Shelf.Sort.Plain
import Derived.Lib.ConvBytes
import Derived.ChangeKeysEq
import Derived.Laws.Cells
import Derived.Laws.Rows
import Derived.Laws.Tables
import Derived.Deep.WholeRow
import Derived.OrdersIn
import Derived.TacticsIn
set_option linter.unusedVariables false
set_option linter.unusedSimpArgs false
set_option maxRecDepth 100000
set_option maxHeartbeats 8000000
namespace Go.Proofs.YthehbckogieimaaGreat
open Go.RowKit
open Go.Proofs
open Go.Proofs.Ob
open Go.Shelf
open Go.Proofs.Cm (Lv Twr trOf)
attribute [local go_sem] Oper.semAt_some
attribute [local irreducible] Go.Calls Go.wpList Go.wpListIn
theorem Wvcl0 (args:Array Value) (w:World):(callFunc 114 args).run Tryz.prog w=.ok (.enter 114 args) w:=by kernel_rfl
theorem Wvcl1 (args:Array Value) (w:World):(callFunc 115 args).run Tryz.prog w=.ok (.enter 115 args) w:=by kernel_rfl
theorem Wvcl2 (args:Array Value) (w:World):(callFunc 117 args).run Tryz.prog w=.ok (.enter 117 args) w:=by kernel_rfl
theorem Wvcl3 (args:Array Value) (w:World):(callFunc 118 args).run Tryz.prog w=.ok (.enter 118 args) w:=by kernel_rfl
theorem Wvcl4 (args:Array Value) (w:World):(callFunc 116 args).run Tryz.prog w=.ok (.enter 116 args) w:=by kernel_rfl
theorem infoErrno:(Tryz.prog.info? 28).map (fun i=>(i.zero,i.size,i.bytes))=some (some (.int .i64 0),1,8):=by kernel_rfl
theorem exec_allocE {o:Oper} {a:Act} {w:World} (ho:o.op=.alloc 28):(execOp a.eval o).run Tryz.prog w=.ok (.value (.pointer (some ⟨w.heap.size,0,none⟩))) (w.alloc (.cells #[.int .i64 0] 28)):=by
 obtain ⟨i0,hi,hz0,hz1,hz2⟩:=info_parts infoErrno;unfold execOp;simp [ho,Instr.alloc,typeInfo,zeroValue,hi,hz0,newVar,Value.cells,Result.andThen];rfl
theorem exec_allocI {o:Oper} {a:Act} {w:World} (ho:o.op=.alloc 3):(execOp a.eval o).run Tryz.prog w=.ok (.value (.pointer (some ⟨w.heap.size,0,none⟩))) (w.alloc (.cells #[.int .i64 0] 3)):=by
 obtain ⟨i0,hi,hz0,hz1,hz2⟩:=info_parts intsInfo;unfold execOp;simp [ho,Instr.alloc,typeInfo,zeroValue,hi,hz0,newVar,Value.cells,Result.andThen];rfl
theorem exec_allocPs {o:Oper} {a:Act} {w:World} (ho:o.op=.alloc 22):(execOp a.eval o).run Tryz.prog w=.ok (.value (.pointer (some ⟨w.heap.size,0,none⟩))) (w.alloc (.cells #[.slice none 0 0] 22)):=by
 obtain ⟨i0,hi,hz0,hz1,hz2⟩:=info_parts infoPermsV;unfold execOp;simp [ho,Instr.alloc,typeInfo,zeroValue,hi,hz0,newVar,Value.cells,Result.andThen];rfl
theorem run_storeE {w:World} {b o:Nat} {u:Value} (v:Int) (h:w.cell? ⟨b,o,none⟩=some u) (hf:w.frozen? ⟨b,o,none⟩=false) :
  (storeVar 28 ⟨b,o,none⟩ (.int .i64 v)).run Tryz.prog w=.ok () (w.setCell ⟨b,o,none⟩ (.int .i64 v)):=by
 obtain ⟨i0,hi,hz0,hz1,hz2⟩:=info_parts infoErrno
 have h0:(⟨b,o,none⟩:Addr).add 0=⟨b,o,none⟩:=by simp [Addr.add]
 simp [storeVar,sizeOf,typeInfo,hi,hz1,Value.cells,storeCells,store,h0];simp [Sem.run,h,hf]
theorem run_loadE {w:World} {ad:Addr} {v:Value} (h:w.cell? ad=some v):(loadVar 28 ad).run Tryz.prog w=.ok v w:=by
 simp [loadVar,isAgg,run_underlying Tryz.underlying28,load];simp [Sem.run,h]
theorem results_cellE {fn:Func} {p:Go.Tmp} (h:fn.results=#[.cell p 28]) (tmps:Array Value) {w:World} {b:Nat} {v:Value} (hp:tmps.getD p undef=.pointer (some ⟨b,0,none⟩)) (hc:w.cell? ⟨b,0,none⟩=some v) :
  (results fn tmps).run Tryz.prog w=.ok v w:=by
 have hp':tmps[p]?.getD undef=.pointer (some ⟨b,0,none⟩):=by simpa using hp
 simp [results,h,hp',asAddr,run_loadE hc]
theorem run_loadC3 {w:World} {b:Nat} {x y z:Value} (h0:w.cell? ⟨b,0,none⟩=some x) (h1:w.cell? ⟨b,1,none⟩=some y) (h2:w.cell? ⟨b,2,none⟩=some z):(loadVar 54 ⟨b,0,none⟩).run Tryz.prog w=.ok (.agg #[x,y,z]) w:=by
 obtain ⟨i0,hi,hz0,hz1,hz2⟩:=info_parts infoChain
 have ha0:(⟨b,0,none⟩:Addr).add 0=⟨b,0,none⟩:=by simp [Addr.add]
 have ha1:(⟨b,0,none⟩:Addr).add 1=⟨b,1,none⟩:=by simp [Addr.add]
 have ha2:(⟨b,0,none⟩:Addr).add 2=⟨b,2,none⟩:=by simp [Addr.add]
 have hg:(isAgg 54).run Tryz.prog w=.ok true w:=by kernel_rfl
 simp [loadVar,hg,sizeOf,typeInfo,hi,hz1,loadCells,loadCellsFrom,load,ha0,ha1,ha2];simp [Sem.run,h0,h1,h2]
structure CW (w:World) (b:Nat) (v:Value):Prop where
 c:w.cell? ⟨b,0,none⟩=some v
 f:w.frozen? ⟨b,0,none⟩=false
 lt:b<w.heap.size
theorem CW.below {w w':World} {b:Nat} {v:Value} (h:CW w b v) (hb:Below w.heap.size w w'):CW w' b v:=⟨(hb.cell (p:=⟨b,0,none⟩) h.lt).trans h.c,(hb.frozen (p:=⟨b,0,none⟩) h.lt).trans h.f,Nat.lt_of_lt_of_le h.lt hb.size⟩
theorem CW.new (w:World) (v:Value) (t:TypeId):CW (w.alloc (.cells #[v] t)) w.heap.size v:=⟨by rw [Rg.cellNew]; rfl,frozenNewN _ _ _ 0 _,by simp⟩
theorem CW.set {w:World} {b:Nat} {u:Value} (h:CW w b u) (v:Value):CW (w.setCell ⟨b,0,none⟩ v) b v:=⟨World.cell?_setCell_same (h:=h.c) ..,by rw [World.frozen?_setCell]; exact h.f,by simpa using h.lt⟩
theorem CW.other {w:World} {b b' o:Nat} {u:Value} (h:CW w b u) (v:Value) (hne:b≠b'):CW (w.setCell ⟨b',o,none⟩ v) b u:=⟨by rw [World.cell?_setCell_other (h:=by intro e; injection e with e1 e2; omega) ..]; exact h.c,by rw [World.frozen?_setCell]; exact h.f,by simpa using h.lt⟩
theorem CL.other {w:World} {b b' o o':Nat} {u:Value} (h:CL w b o' u) (v:Value) (hne:b≠b'):CL (w.setCell ⟨b',o,none⟩ v) b o' u:=⟨by rw [World.cell?_setCell_other (h:=by intro e; injection e with e1 e2; omega) ..]; exact h.cell,by simpa using h.lt⟩
theorem CW.kp {M:Nat→Prop} {w w':World} {b:Nat} {v:Value} (h:CW w b v) (hk:Rg.Kp M w w') (hM:¬ M b):CW w' b v :=
 ⟨(World.cell?_of_block (a:=⟨b,0,none⟩) (hk.block b h.lt hM)).trans h.c,(World.frozen?_of_block (a:=⟨b,0,none⟩) (hk.block b h.lt hM)).trans h.f,Nat.lt_of_lt_of_le h.lt hk.size⟩
theorem CL.kp {M:Nat→Prop} {w w':World} {b o:Nat} {v:Value} (h:CL w b o v) (hk:Rg.Kp M w w') (hM:¬ M b):CL w' b o v :=
 ⟨(World.cell?_of_block (a:=⟨b,o,none⟩) (hk.block b h.lt hM)).trans h.cell,Nat.lt_of_lt_of_le h.lt hk.size⟩
structure CkI (w:World) (n:Int) (ov rv:Value) (W:World) (v:Value) (gs:List (List Nat)):Prop where
 bel:Below w.heap.size w W
 a0:CL W w.heap.size 0 (.int .i64 n)
 a1:CL W w.heap.size 1 ov
 a2:CL W w.heap.size 2 rv
 c2:CW W (w.heap.size+1) (.int .i64 0)
 c3:CW W (w.heap.size+2) (.int .i64 n)
 c4:CW W (w.heap.size+3) v
 row:RowF (fun k=>k<w.heap.size) (w.heap.size+4) W v gs
theorem CkI.below {w:World} {n:Int} {ov rv:Value} {W W':World} {v:Value} {gs:List (List Nat)} (h:CkI w n ov rv W v gs) (hb:Below W.heap.size W W'):CkI w n ov rv W' v gs :=
 ⟨Rg.acc h.bel hb,h.a0.below hb,h.a1.below hb,h.a2.below hb,h.c2.below hb,h.c3.below hb,h.c4.below hb,h.row.below hb⟩
theorem CkI.keep {w:World} {n:Int} {ov rv:Value} {W W':World} {v:Value} {gs:List (List Nat)} {row:Option Nat} {B:Nat} (h:CkI w n ov rv W v gs) (hB:w.heap.size+4≤B) (hg:W.grownBy W' row) (hr:∀ r,row=some r→B≤r∧∃ o:Obj,W.heap[r]?=some o∧o.isCells=false):CkI w n ov rv W' v gs:=by
 have hk:Rg.Kp (fun k=>row=some k) W W':=Rg.Kp.of_grown hg fun _ e=>e
 have hM:∀ b,b<B→¬ row=some b:=fun b hb e=>by have:=(hr b e).1; omega
 obtain ⟨us,h1,h2⟩:=h.row.own;refine ⟨h.bel.grown hg h.bel.size (fun k e=>by have:=(hr k e).1; omega),h.a0.kp hk (hM _ (by omega)),h.a1.kp hk (hM _ (by omega)),h.a2.kp hk (hM _ (by omega)),h.c2.kp hk (hM _ (by omega)),h.c3.kp hk (hM _ (by omega)),h.c4.kp hk (hM _ (by omega)),⟨Nat.le_trans h.row.size hk.size,us,rowKp h1 hk (fun k e1 e2=>?_),h2.kp hk (fun k hk2=>hM k (by omega))⟩⟩;obtain ⟨_,o,ho,hc⟩:=hr k e1;obtain ⟨_,h3⟩:=h1
 rcases h3 with ⟨h4,_⟩ | ⟨g,cap,cur,h4,_,h5,_⟩
 ·rw [h4] at e2; simp [Value.ownBlock] at e2
 ·rw [h4] at e2
  simp [Value.ownBlock] at e2;subst e2;rw [h5] at ho
  cases ho; cases hc
def rowOf (RR:List (List (List Int))) {m:Nat} (x:Fin m):List (List Int):=RR.getD x.1 []
theorem CW.upto {B:Nat} {w w':World} {b:Nat} {v:Value} (h:CW w b v) (hb:Below B w w') (hB:b<B):CW w' b v:=⟨(hb.cell (p:=⟨b,0,none⟩) hB).trans h.c,(hb.frozen (p:=⟨b,0,none⟩) hB).trans h.f,Nat.lt_of_lt_of_le h.lt hb.size⟩
theorem CL.upto {B:Nat} {w w':World} {b o:Nat} {v:Value} (h:CL w b o v) (hb:Below B w w') (hB:b<B):CL w' b o v:=⟨(hb.cell (p:=⟨b,o,none⟩) hB).trans h.cell,Nat.lt_of_lt_of_le h.lt hb.size⟩
theorem ChEqR.mk {w:World} {ov rv:Value} {OO:List (List Int)} {RR:List (List (List Int))} (h1:Rg.Rows w ov OO) (h2:Rows2 w rv RR):ChEqR w ov rv OO RR:=⟨h1,h2⟩
theorem ChEqR.upto {w w':World} {ov rv:Value} {OO:List (List Int)} {RR:List (List (List Int))} (h:ChEqR w ov rv OO RR) (hb:Below w.heap.size w w'):ChEqR w' ov rv OO RR:=h.below hb
theorem _root_.Go.Proofs.RF.Dfr.below {D:Nat} {W W':World} (h:RF.Dfr D W) (hb:Below W.heap.size W W'):RF.Dfr D W':=h.of_below' hb
theorem KK.below {B n₀:Nat} {W W' W'':World} (h:KK B n₀ W W') (hb:Below W'.heap.size W' W''):KK B n₀ W W'':=h.acc hb
theorem chSame_b {n m:Int} {ov rv ov' rv':Value} {OO OO':List (List Int)} {RR RR':List (List (List Int))} {w:World} (h1:ChEqR w ov rv OO RR) (h2:ChEqR w ov' rv' OO' RR') {b:Bool} (hb:Hid (decide (n=m∧OO=OO'∧RR=RR')=b)) :
  Calls Tryz.prog 116 #[.agg #[.int .i64 n,ov,rv],.agg #[.int .i64 m,ov',rv']] w fun e w'=>e=.returned (.bool b)∧Below w.heap.size w w':=by
 rw [← hb.out]; exact chSame_any h1 h2
theorem CkI.store {w:World} {n:Int} {ov rv:Value} {W X:World} {v v':Value} {gs gs':List (List Nat)} (h:CkI w n ov rv W v gs) (hb:Below (w.heap.size+4) W X) (hr:RowF (fun k=>k<w.heap.size) (w.heap.size+4) X v' gs'):CkI w n ov rv (X.setCell ⟨w.heap.size+3,0,none⟩ v') v' gs':=by
 have hk:Rg.Kp (fun z=>z=w.heap.size+3) X (X.setCell ⟨w.heap.size+3,0,none⟩ v'):=Rg.Kp.of_setCell rfl;obtain ⟨us,q1,q2⟩:=hr.own;refine ⟨(h.bel.trans (hb.mono (by omega))).setCell (p:=⟨w.heap.size+3,0,none⟩) (by show w.heap.size≤w.heap.size+3; omega) _,(h.a0.upto hb (by omega)).other _ (by omega),(h.a1.upto hb (by omega)).other _ (by omega),(h.a2.upto hb (by omega)).other _ (by omega),(h.c2.upto hb (by omega)).other _ (by omega),(h.c3.upto hb (by omega)).other _ (by omega),(h.c4.upto hb (by omega)).set _,⟨Nat.le_trans hr.size hk.size,us,rowKp q1 hk (fun k e1 e2=>by have:=(q1.lt k e2).1; omega),q2.kp hk (fun k hk2 e=>by omega)⟩⟩
theorem KK.row {B n₀:Nat} {W W1 X:World} {F:Nat→Prop} {B2:Nat} {v:Value} {gs:List (List Nat)} (h:KK B n₀ W W1) (hk:Rg.Kp (fun k=>v.ownBlock=some k) W1 X) (hr:RowF F B2 W1 v gs) (hn:n₀≤B2):KK B n₀ W X:=by
 obtain ⟨us,q1,q2⟩:=hr.own
 have hcells:∀ j o,v.ownBlock=some j→W1.heap[j]?=some o→o.isCells=true:=fun j o e1 e2=>by
  obtain ⟨_,h3⟩:=q1
  rcases h3 with ⟨h4,_⟩ | ⟨g,cap,cur,h4,_,h5,_⟩
  ·rw [h4] at e1; simp [Value.ownBlock] at e1
  ·rw [h4] at e1
   simp [Value.ownBlock] at e1;subst e1;rw [h5] at e2
   cases e2; rfl
 refine ⟨h.keeps.trans ⟨hk.size,fun k o _ hk2 ho=>(hk.block k (Array.getElem?_eq_some_iff.1 hk2).1 (fun e=>by rw [hcells k o e hk2] at ho; cases ho)).trans hk2⟩,h.bel.trans ⟨hk.os,hk.tape,hk.output,hk.size,fun k hk2=>hk.block k (by have:=h.bel.size; have:=h.le; omega) (fun e=>by have:=(q1.lt k e).1; omega)⟩,h.le⟩
theorem finTo_flat {RR:List (List (List Int))}:(finTo RR.length RR.length).flatMap (rowOf RR)=RR.flatten:=by
 rw [finTo_all];rw [List.flatMap_def]
 congr 1
 refine List.ext_getElem (by simp) fun i h1 h2=>?_;simp only [List.getElem_map,List.getElem_finRange];exact getD_inf h2
def CkPost (n:Int) (OO:List (List Int)) (RR:List (List (List Int))) (w:World) (e:Ending) (w':World):Prop:=∃ c,e=.returned (.int .i64 c)∧ChC n OO RR c∧Below w.heap.size w w'
theorem ck_leave {n:Int} {OO:List (List Int)} {RR:List (List (List Int))} {w W:World} {tmps:Array Value} {c:Int} {ds:List Nat} (hb:Below w.heap.size w W) (hc:CW W (w.heap.size+1) (.int .i64 c)) (hC:ChC n OO RR c) (hp:tmps.getD 2 undef=.pointer (some ⟨w.heap.size+1,0,none⟩)) (hnd:ds.Nodup) (hD:∀ D,D∈ds→RF.Dfr D W∧w.heap.size≤D) :
  LeavesInM Fence.wide 0 Tryz.prog Tryz.f42 tmps (CkPost n OO RR w) (ds.map RF.mark) .returning W :=
 RF.leaves w.heap.size ds W hnd hD fun _ l1 l2 _=>⟨_,results_cellE rfl _ hp ((l2 _).trans hc.c),c,rfl,hC,hb.trans l1⟩
theorem chCheck_any {n:Int} {ov rv:Value} {OO:List (List Int)} {RR:List (List (List Int))} {w:World} (h:ChEqR w ov rv OO RR) :
  Calls Tryz.prog 42 #[.agg #[.int .i64 n,ov,rv]] w (CkPost n OO RR w):=by
 obtain ⟨oa,oc,rfl,_,hoL,_,_⟩:=h.1.shape;obtain ⟨ra,rc,rfl⟩:=h.2.shape;have HO:=ι h.1;have HR:=ι h.2;have K:=ι (Below.refl w.heap.size w)
 have hrL:RR.length≤1000000000:=by
  obtain ⟨us,⟨a,c,e,_,_,e2,_⟩,h2,_⟩:=h.2;unfold Rg.big at e2;omega
 have H:=ι h;clear h;refine RF.calls_marks Tryz.func42 rfl ?_;simp only [Tryz.ntmps42,List.size_toArray,List.length_cons,List.length_nil,Nat.reduceAdd,Nat.reduceSub,Array.replicate_succ,Array.replicate_zero,List.push_toArray,List.append_toArray,List.nil_append,List.cons_append];have hbx:=box3 w (.int .i64 n) (.slice oa OO.length oc) (.slice ra RR.length rc)
 have hs:(w.alloc (.cells #[.int .i64 n,.slice oa OO.length oc,.slice ra RR.length rc] 54)).heap.size=w.heap.size+1:=by simp
 go_upto_region 0 with (fail);refine Rg.wl ?_;refine Rg.lr 1 (Rg.exec_box _ _ rfl rfl) ?_;go_frame;have hb:Below w.heap.size w (w.alloc (.cells #[.int .i64 n,.slice oa OO.length oc,.slice ra RR.length rc] 54)):=(Below.refl _ _).alloc (Nat.le_refl _) _;generalize w.alloc (.cells #[.int .i64 n,.slice oa OO.length oc,.slice ra RR.length rc] 54)=w1 at *;have A0:=ι hbx.1;have A1:=ι hbx.2.1;have A2:=ι hbx.2.2;replace K:=ι hb;have hs1:w1.heap.size=w.heap.size+1:=hs;clear hbx hb hs;have hnw:=CW.new w1 (.int .i64 0) 28
 have hs:(w1.alloc (.cells #[.int .i64 0] 28)).heap.size=w1.heap.size+1:=by simp
 refine Rg.lr 2 (exec_allocE rfl) ?_;go_frame;have hb:=(Below.refl w1.heap.size w1).alloc (Nat.le_refl _) (.cells #[.int .i64 0] 28);generalize w1.alloc (.cells #[.int .i64 0] 28)=w2 at *;replace A0:=ι (A0.out.below hb);replace A1:=ι (A1.out.below hb);replace A2:=ι (A2.out.below hb);replace K:=ι (Rg.acc K.out hb);clear hb;rw [hs1] at hnw ⊢
 have hs2:w2.heap.size=w.heap.size+2:=by omega
 have C2:=ι hnw;clear hnw hs;go_upto_region 1 with (fail);refine Rg.wl ?_;refine Rg.lr 9 (exec_field _ rfl rfl (chF0 _ _)) ?_;go_frame;refine Rg.lr 10 (Rg.exec_load (v:=.int .i64 n) _ _ rfl ⟨w.heap.size,0,none⟩ rfl (run_loadInt A0.out.cell)) ?_;go_frame;have hnw:=CW.new w2 (.int .i64 0) 3
 have hs:(w2.alloc (.cells #[.int .i64 0] 3)).heap.size=w2.heap.size+1:=by simp
 refine Rg.lr 3 (exec_allocI rfl) ?_;go_frame;have hb:=(Below.refl w2.heap.size w2).alloc (Nat.le_refl _) (.cells #[.int .i64 0] 3);generalize w2.alloc (.cells #[.int .i64 0] 3)=w3 at *;replace A0:=ι (A0.out.below hb);replace A1:=ι (A1.out.below hb);replace A2:=ι (A2.out.below hb);replace C2:=ι (C2.out.below hb);replace K:=ι (Rg.acc K.out hb);clear hb;rw [hs2] at hnw ⊢
 have hs3:w3.heap.size=w.heap.size+3:=by omega
 have C3:=ι hnw;clear hnw hs;refine Rg.list_skip none rfl rfl (Rg.exec_store _ _ _ rfl _ rfl _ rfl (run_storeInt n C3.out.c C3.out.f)) ?_;go_frame;have hk:=K.out.setCell (p:=⟨w.heap.size+2,0,none⟩) (by show w.heap.size≤w.heap.size+2; omega) (.int .i64 n);have x0:=A0.out.other (o:=0) (b':=w.heap.size+2) (.int .i64 n) (by omega);have x1:=A1.out.other (o:=0) (b':=w.heap.size+2) (.int .i64 n) (by omega);have x2:=A2.out.other (o:=0) (b':=w.heap.size+2) (.int .i64 n) (by omega);have y2:=C2.out.other (o:=0) (b':=w.heap.size+2) (.int .i64 n) (by omega);have y3:=C3.out.set (.int .i64 n)
 have hs4:(w3.setCell ⟨w.heap.size+2,0,none⟩ (.int .i64 n)).heap.size=w.heap.size+3:=by simp; omega
 generalize w3.setCell ⟨w.heap.size+2,0,none⟩ (.int .i64 n)=w9 at *;replace K:=ι hk;replace A0:=ι x0;replace A1:=ι x1;replace A2:=ι x2;replace C2:=ι y2;replace C3:=ι y3;clear hk x0 x1 x2 y2 y3
 by_cases hd1:n<1
 ·skip
  go_upto_region 2 with (fail);refine Rg.wl ?_;refine Rg.lr 11 (Rg.exec_load (v:=.int .i64 n) _ _ rfl ⟨(w.heap.size+2),0,none⟩ rfl (run_loadInt C3.out.c)) ?_;go_frame;refine Rg.lr 12 (exec_bin (R:=.bool true) .lss _ _ _ rfl rfl rfl (b_lss _ Rg.dT)) ?_;go_frame;refine Rg.lm 13 (.bool true) ?_;go_frame;refine listW_pass (some 14) (by kernel_rfl) rfl ?_;go_frame;refine listW_pass (some 15) (by kernel_rfl) rfl ?_;go_frame;refine Rg.lr 16 (exec_pickT (v:=.bool true) _ _ _ rfl rfl rfl) ?_;go_frame;go_upto_region 3 with (fail);refine Rg.wl ?_;refine Rg.list_skip none rfl rfl (Rg.exec_store _ _ _ rfl _ rfl _ rfl (run_storeE 2 C2.out.c C2.out.f)) ?_;go_frame;have hk:=K.out.setCell (p:=⟨w.heap.size+1,0,none⟩) (by show w.heap.size≤w.heap.size+1; omega) (.int .i64 2);have y2:=C2.out.set (.int .i64 2);generalize w9.setCell ⟨w.heap.size+1,0,none⟩ (.int .i64 2)=w99 at *;have KX:=ι hk
  have CX:=ι y2;have HCX:=ι (show ChC n OO RR 2 from .inl ⟨by omega,rfl⟩);clear hk y2;go_wp2;exact ck_leave (ds:=[]) KX.out CX.out HCX.out rfl (by simp) (fun D hD=>by simp at hD)
 by_cases hd2:64<n
 ·skip
  go_upto_region 2 with (fail);refine Rg.wl ?_;refine Rg.lr 11 (Rg.exec_load (v:=.int .i64 n) _ _ rfl ⟨(w.heap.size+2),0,none⟩ rfl (run_loadInt C3.out.c)) ?_;go_frame;refine Rg.lr 12 (exec_bin (R:=.bool false) .lss _ _ _ rfl rfl rfl (b_lss _ Rg.dF)) ?_;go_frame;refine Rg.lm 13 (.bool false) ?_;go_frame;refine Rg.lW 14 (Rg.exec_load (v:=.int .i64 n) _ _ rfl ⟨(w.heap.size+2),0,none⟩ rfl (run_loadInt C3.out.c)) ?_;go_frame;refine Rg.lW 15 (exec_bin (R:=.bool true) .gtr _ _ _ rfl rfl rfl (b_gtr _ Rg.dT)) ?_;go_frame;refine Rg.lr 16 (exec_pickF (v:=.bool true) _ _ _ rfl rfl rfl) ?_;go_frame;go_upto_region 3 with (fail);refine Rg.wl ?_;refine Rg.list_skip none rfl rfl (Rg.exec_store _ _ _ rfl _ rfl _ rfl (run_storeE 2 C2.out.c C2.out.f)) ?_;go_frame;have hk:=K.out.setCell (p:=⟨w.heap.size+1,0,none⟩) (by show w.heap.size≤w.heap.size+1; omega) (.int .i64 2);have y2:=C2.out.set (.int .i64 2)
  generalize w9.setCell ⟨w.heap.size+1,0,none⟩ (.int .i64 2)=w99 at *;have KX:=ι hk;have CX:=ι y2;have HCX:=ι (show ChC n OO RR 2 from .inl ⟨by omega,rfl⟩);clear hk y2;go_wp2;exact ck_leave (ds:=[]) KX.out CX.out HCX.out rfl (by simp) (fun D hD=>by simp at hD)
 go_upto_region 2 with (fail);refine Rg.wl ?_;refine Rg.lr 11 (Rg.exec_load (v:=.int .i64 n) _ _ rfl ⟨(w.heap.size+2),0,none⟩ rfl (run_loadInt C3.out.c)) ?_;go_frame;refine Rg.lr 12 (exec_bin (R:=.bool false) .lss _ _ _ rfl rfl rfl (b_lss _ Rg.dF)) ?_;go_frame;refine Rg.lm 13 (.bool false) ?_;go_frame;refine Rg.lW 14 (Rg.exec_load (v:=.int .i64 n) _ _ rfl ⟨(w.heap.size+2),0,none⟩ rfl (run_loadInt C3.out.c)) ?_;go_frame;refine Rg.lW 15 (exec_bin (R:=.bool false) .gtr _ _ _ rfl rfl rfl (b_gtr _ Rg.dF)) ?_;go_frame;refine Rg.lr 16 (exec_pickF (v:=.bool false) _ _ _ rfl rfl rfl) ?_;go_frame
 by_cases hl1:(OO.length:Int)=n
 case neg =>
  skip
  go_upto_region 4 with (fail);refine Rg.wl ?_;refine Rg.lr 17 (exec_field _ rfl rfl (chF1 _ _)) ?_;go_frame;refine Rg.lr 18 (Rg.exec_load (v:=.slice oa OO.length oc) _ _ rfl ⟨w.heap.size,1,none⟩ rfl (Rg.run_loadSl _ _ Tryz.underlying27 A1.out.cell)) ?_;go_frame;refine Rg.lr 19 (exec_len _ _ _ rfl Tryz.underlying27 _ _ _ rfl) ?_;go_frame;refine Rg.lr 20 (Rg.exec_load (v:=.int .i64 n) _ _ rfl ⟨(w.heap.size+2),0,none⟩ rfl (run_loadInt C3.out.c)) ?_;go_frame;refine Rg.lr 21 (exec_bin (R:=.bool true) .neq _ _ _ rfl rfl rfl (b_neqB _ Rg.dT)) ?_;go_frame;refine Rg.lm 22 (.bool true) ?_;go_frame;refine listW_pass (some 23) (by kernel_rfl) rfl ?_;go_frame;refine listW_pass (some 24) (by kernel_rfl) rfl ?_;go_frame;refine listW_pass (some 25) (by kernel_rfl) rfl ?_;go_frame;refine listW_pass (some 26) (by kernel_rfl) rfl ?_;go_frame;refine listW_pass (some 27) (by kernel_rfl) rfl ?_;go_frame
  refine Rg.lr 28 (exec_pickT (v:=.bool true) _ _ _ rfl rfl rfl) ?_;go_frame;go_upto_region 5 with (fail);refine Rg.wl ?_;refine Rg.list_skip none rfl rfl (Rg.exec_store _ _ _ rfl _ rfl _ rfl (run_storeE 3 C2.out.c C2.out.f)) ?_;go_frame;have hk:=K.out.setCell (p:=⟨w.heap.size+1,0,none⟩) (by show w.heap.size≤w.heap.size+1; omega) (.int .i64 3);have y2:=C2.out.set (.int .i64 3);generalize w9.setCell ⟨w.heap.size+1,0,none⟩ (.int .i64 3)=w99 at *;have KX:=ι hk;have CX:=ι y2;have HCX:=ι (show ChC n OO RR 3 from .inr ⟨by omega,.inr ⟨fun hh=>hl1 hh.lens.1,rfl⟩⟩);clear hk y2;go_wp2;exact ck_leave (ds:=[]) KX.out CX.out HCX.out rfl (by simp) (fun D hD=>by simp at hD)
 by_cases hl2:(RR.length:Int)=n
 case neg =>
  skip
  go_upto_region 4 with (fail);refine Rg.wl ?_;refine Rg.lr 17 (exec_field _ rfl rfl (chF1 _ _)) ?_;go_frame;refine Rg.lr 18 (Rg.exec_load (v:=.slice oa OO.length oc) _ _ rfl ⟨w.heap.size,1,none⟩ rfl (Rg.run_loadSl _ _ Tryz.underlying27 A1.out.cell)) ?_;go_frame;refine Rg.lr 19 (exec_len _ _ _ rfl Tryz.underlying27 _ _ _ rfl) ?_;go_frame;refine Rg.lr 20 (Rg.exec_load (v:=.int .i64 n) _ _ rfl ⟨(w.heap.size+2),0,none⟩ rfl (run_loadInt C3.out.c)) ?_;go_frame;refine Rg.lr 21 (exec_bin (R:=.bool false) .neq _ _ _ rfl rfl rfl (b_neqB _ Rg.dF)) ?_;go_frame;refine Rg.lm 22 (.bool false) ?_;go_frame;refine Rg.lW 23 (exec_field _ rfl rfl (chF2 _ _)) ?_;go_frame;refine Rg.lW 24 (Rg.exec_load (v:=.slice ra RR.length rc) _ _ rfl ⟨w.heap.size,2,none⟩ rfl (Rg.run_loadSl _ _ Tryz.underlying52 A2.out.cell)) ?_;go_frame;refine Rg.lW 25 (exec_len _ _ _ rfl Tryz.underlying52 _ _ _ rfl) ?_;go_frame
  refine Rg.lW 26 (Rg.exec_load (v:=.int .i64 n) _ _ rfl ⟨(w.heap.size+2),0,none⟩ rfl (run_loadInt C3.out.c)) ?_;go_frame;refine Rg.lW 27 (exec_bin (R:=.bool true) .neq _ _ _ rfl rfl rfl (b_neqB _ Rg.dT)) ?_;go_frame;refine Rg.lr 28 (exec_pickF (v:=.bool true) _ _ _ rfl rfl rfl) ?_;go_frame;go_upto_region 5 with (fail);refine Rg.wl ?_;refine Rg.list_skip none rfl rfl (Rg.exec_store _ _ _ rfl _ rfl _ rfl (run_storeE 3 C2.out.c C2.out.f)) ?_;go_frame;have hk:=K.out.setCell (p:=⟨w.heap.size+1,0,none⟩) (by show w.heap.size≤w.heap.size+1; omega) (.int .i64 3);have y2:=C2.out.set (.int .i64 3);generalize w9.setCell ⟨w.heap.size+1,0,none⟩ (.int .i64 3)=w99 at *;have KX:=ι hk;have CX:=ι y2;have HCX:=ι (show ChC n OO RR 3 from .inr ⟨by omega,.inr ⟨fun hh=>hl2 hh.lens.2,rfl⟩⟩);clear hk y2;go_wp2;exact ck_leave (ds:=[]) KX.out CX.out HCX.out rfl (by simp) (fun D hD=>by simp at hD)
 go_upto_region 4 with (fail);refine Rg.wl ?_;refine Rg.lr 17 (exec_field _ rfl rfl (chF1 _ _)) ?_;go_frame;refine Rg.lr 18 (Rg.exec_load (v:=.slice oa OO.length oc) _ _ rfl ⟨w.heap.size,1,none⟩ rfl (Rg.run_loadSl _ _ Tryz.underlying27 A1.out.cell)) ?_;go_frame;refine Rg.lr 19 (exec_len _ _ _ rfl Tryz.underlying27 _ _ _ rfl) ?_;go_frame;refine Rg.lr 20 (Rg.exec_load (v:=.int .i64 n) _ _ rfl ⟨(w.heap.size+2),0,none⟩ rfl (run_loadInt C3.out.c)) ?_;go_frame;refine Rg.lr 21 (exec_bin (R:=.bool false) .neq _ _ _ rfl rfl rfl (b_neqB _ Rg.dF)) ?_;go_frame;refine Rg.lm 22 (.bool false) ?_;go_frame;refine Rg.lW 23 (exec_field _ rfl rfl (chF2 _ _)) ?_;go_frame;refine Rg.lW 24 (Rg.exec_load (v:=.slice ra RR.length rc) _ _ rfl ⟨w.heap.size,2,none⟩ rfl (Rg.run_loadSl _ _ Tryz.underlying52 A2.out.cell)) ?_;go_frame;refine Rg.lW 25 (exec_len _ _ _ rfl Tryz.underlying52 _ _ _ rfl) ?_;go_frame
 refine Rg.lW 26 (Rg.exec_load (v:=.int .i64 n) _ _ rfl ⟨(w.heap.size+2),0,none⟩ rfl (run_loadInt C3.out.c)) ?_;go_frame;refine Rg.lW 27 (exec_bin (R:=.bool false) .neq _ _ _ rfl rfl rfl (b_neqB _ Rg.dF)) ?_;go_frame;refine Rg.lr 28 (exec_pickF (v:=.bool false) _ _ _ rfl rfl rfl) ?_;go_frame;obtain ⟨N,rfl⟩:∃ N:Nat,n=N:=⟨n.toNat,by omega⟩
 have hN1:1≤N:=by omega
 have hN2:N≤64:=by omega
 have HLO:=ι (show OO.length=N by omega);have HLR:=ι (show RR.length=N by omega);clear hl1 hl2 hd1 hd2;go_upto_region 6 with (fail);refine Rg.wl ?_;have hnw:=CW.new w9 (.slice none 0 0) 22
 have hs:(w9.alloc (.cells #[.slice none 0 0] 22)).heap.size=w9.heap.size+1:=by simp
 refine Rg.lr 4 (exec_allocPs rfl) ?_;go_frame;have hb:=(Below.refl w9.heap.size w9).alloc (Nat.le_refl _) (.cells #[.slice none 0 0] 22);generalize w9.alloc (.cells #[.slice none 0 0] 22)=w10 at *;replace A0:=ι (A0.out.below hb);replace A1:=ι (A1.out.below hb);replace A2:=ι (A2.out.below hb);replace C2:=ι (C2.out.below hb);replace C3:=ι (C3.out.below hb);replace K:=ι (Rg.acc K.out hb);clear hb;rw [hs4] at hnw ⊢
 have hs5:w10.heap.size=w.heap.size+4:=by omega
 have C4:=ι hnw;clear hnw hs;have CI:=ι (show CkI w ((N:Nat):Int) (.slice oa OO.length oc) (.slice ra RR.length rc) w10 (.slice none 0 0) [] from ⟨K.out,A0.out,A1.out,A2.out,C2.out,C3.out,C4.out,RowF.nil _ (by omega)⟩);have HSZ:=ι hs5;clear A0 A1 A2 C2 C3 C4 hs1 hs2 hs3 hs4 hs5;go_upto_region 7 with (fail);refine Rg.wl ?_;refine Rg.lr 29 (Rg.exec_load (v:=(.agg #[.int .i64 ((N:Nat):Int),.slice oa OO.length oc,.slice ra RR.length rc])) _ _ rfl ⟨w.heap.size,0,none⟩ rfl (run_loadC3 CI.out.a0.cell CI.out.a1.cell CI.out.a2.cell)) ?_;go_frame;refine Rg.lk 30 (exec_fn1 114 _ _ rfl rfl (Wvcl0 _ _)) ?_;refine (reps_any _ _ _ w10).mono ?_;rintro e1 w11 ⟨fb,rfl,hfb,hb⟩;have hsz:=hb.size;refine ⟨_,rfl,?_⟩;go_frame;replace CI:=ι (CI.out.below hb);replace K:=ι (Rg.acc K.out hb);clear hb;have FB:=ι hfb;clear hfb;have HS0:=ι (show w.heap.size+4≤w11.heap.size by have:=HSZ.out; omega)
 clear hsz;obtain ⟨us,hus,hul,hur⟩:=HR.out;have HUR:=ι hur
 have hrv:RV3 w.heap.size w11 ra RR.length (fun k=>us[k]?.getD undef):=by
  obtain ⟨a',c',e,q1,q2,q3,q4⟩:=hus
  injection e with e1 e2 e3
  refine ⟨by omega,fun h0=>?_,fun b off e5 j hj=>?_,K.out.size⟩
  ·obtain ⟨b,o,e4,e5,_⟩:=q4 (by omega)
   exact ⟨b,o,e1.trans e4,e5⟩
  ·obtain ⟨b',o',e4,e6,e7⟩:=q4 (by omega)
   rw [e1,e4] at e5;simp only [Option.some.injEq,Addr.mk.injEq,and_true] at e5;obtain ⟨rfl,rfl⟩:=e5;rw [(K.out.cell (p:=⟨b',o'+j,none⟩) e6)];show _=some (us[j]?.getD undef);rw [List.getElem?_eq_getElem (by omega)];exact e7 j (by omega)
 have HRV:=ι hrv;have HUL:=ι hul;clear hus hrv hul hur;go_wp2
 refine range_reps rfl FB.out HRV.out rfl (fun pre W=>∃ v gs,CkI w ((N:Nat):Int) (.slice oa OO.length oc) (.slice ra RR.length rc) W v gs∧gs.map Ma.ofN=pre.flatMap (rowOf RR)∧(∀ g∈gs,Cm.Gd N g)∧gs.length≤64*pre.length)
  (fun c pre W=>c=.ret∧Below w.heap.size w W∧CW W (w.heap.size+1) (.int .i64 3)∧¬ ChOK ((N:Nat):Int) OO RR) ?hI ?hIx ⟨_,[],CI.out,rfl,fun g hg=>by simp at hg,Nat.zero_le _⟩ ?a1 ?assign ?body ?done ?stop
 case assign =>
  intro l x W K hK
  gi_wp2
  exact hK
 case hI =>
  rintro pre W W' row ⟨v,gs,h1,h2⟩ hg hr;exact ⟨v,gs,h1.keep (by have:=HS0.out; omega) hg hr,h2⟩
 case hIx =>
  rintro c pre W W' row ⟨rfl,h1,h2,h3⟩ hg hr;exact ⟨rfl,h1.grown hg h1.size (fun k e=>by have:=(hr k e).1; have:=HS0.out; omega),h2.kp (Rg.Kp.of_grown hg (M:=fun k=>row=some k) fun _ e=>e) (fun e=>by have:=(hr _ e).1; have:=HS0.out; omega),h3⟩
 case body =>
  rintro l pre ⟨X,hX⟩ W ⟨v,gs,hci,hfl,hgg,hgl⟩ hpl;obtain ⟨B,hB⟩:∃ B,w11.heap.size=B:=⟨_,rfl⟩;rw [hB] at HS0 ⊢;clear FB HRV CI K hB;have CI:=ι hci;have K:=ι hci.bel;have KQ:=ι (KK.refl (B:=B) (n₀:=w.heap.size) (W:=W) hci.bel.size);have HFL:=ι hfl;have HGG:=ι hgg
  have HPRE:=ι (show gs.length≤64*64 by
   have:pre.length<64:=by have:=HLR.out; omega
   omega)
  have HXR:=ι hX;have HGLL:=ι hgl;have HXO:=ι (show X<OO.length by have:=HLO.out; have:=HLR.out; omega);clear hci hfl hgg hgl;have hu:=HUR.out X (by rw [HUL.out]; exact hX) hX
  have e1:us[X]?.getD undef=us[X]'(by rw [HUL.out]; exact hX):=by rw [List.getElem?_eq_getElem (by rw [HUL.out]; exact hX)]; rfl
  rw [← e1] at hu
  dsimp only
  generalize us[X]?.getD undef=u at *;clear e1;obtain ⟨r,hr⟩:∃ r:List (List Int),Hid (RR[X]'hX=r):=⟨_,ι rfl⟩
  replace hu:Rg.Rows w u r:=by rw [← hr.out]; exact hu
  obtain ⟨ua,uc,rfl,_,hrl,_,hrc⟩:=hu.shape;have HRC:=ι hrc;obtain ⟨o',hoo⟩:∃ o:List Int,Hid (OO[X]'HXO.out=o):=⟨_,ι rfl⟩;have hos:=HO.out.shape;obtain ⟨oa',oc',e2,_,_,_,hos⟩:=hos
  injection e2 with e3 _ e5
  subst e3 e5;obtain ⟨ob,oo,rfl,hob,hos⟩:=hos (by have:=HXO.out; omega);obtain ⟨yv,hyc,hyi⟩:=hos X HXO.out;rw [show OO[X]=o' from hoo.out] at hyi;obtain ⟨ya,yc,rfl,_⟩:=hyi.shape;have CO:=ι (CL.mk hyc hob);clear hrc hos hyc hyi hob hu
  by_cases hq1:(r.length:Int)=(o'.length:Int)
  case neg =>
   skip
   gi_upto_region 10 with (fail)
   refine wpIn_region_list ?_;refine Rg.in_run (some 33) rfl rfl (fun _ hh=>by cases hh) (Rg.xm (.slice ua r.length uc) _ rfl rfl) ?_;go_frame;refine Rg.in_run (some 34) rfl rfl (fun _ hh=>by cases hh) (exec_len _ _ _ rfl Tryz.underlying22 _ _ _ rfl) ?_;go_frame;refine Rg.in_run (some 35) rfl rfl (fun _ hh=>by cases hh) (exec_field _ rfl rfl (chF1 _ _)) ?_;go_frame;refine Rg.in_run (some 36) rfl rfl (fun _ hh=>by cases hh) (Rg.exec_load (v:=.slice (some ⟨ob,oo,none⟩) OO.length oc) _ _ rfl ⟨w.heap.size,1,none⟩ rfl (Rg.run_loadSl _ _ Tryz.underlying27 CI.out.a1.cell)) ?_;go_frame;refine Rg.in_run (some 37) rfl rfl (fun _ hh=>by cases hh) (Rg.xm (.int .i64 ((X:Nat):Int)) _ rfl rfl) ?_;go_frame;refine Rg.in_run (some 38) rfl rfl (fun _ hh=>by cases hh) (exec_indexS slIntss _ _ rfl ob (oo) (OO.length) oc (X) rfl rfl HXO.out) ?_;go_frame;refine Rg.in_run (some 39) rfl rfl (fun _ hh=>by cases hh) (Rg.exec_load (v:=.slice ya o'.length yc) _ _ rfl ⟨ob,oo+X,none⟩ rfl (Rg.run_loadSl _ _ Tryz.underlying36 ((Below.cell (p:=⟨ob,oo+X,none⟩) K.out CO.out.lt).trans CO.out.cell))) ?_;go_frame
   refine Rg.in_run (some 40) rfl rfl (fun _ hh=>by cases hh) (exec_len _ _ _ rfl Tryz.underlying36 _ _ _ rfl) ?_;go_frame;refine Rg.in_run (some 41) rfl rfl (fun _ hh=>by cases hh) (exec_bin (R:=.bool true) .neq _ _ _ rfl rfl rfl (b_neqB _ Rg.dT)) ?_;go_frame;refine Rg.in_run (some 42) rfl rfl (fun _ hh=>by cases hh) (Rg.xm (.bool true) _ rfl rfl) ?_;go_frame;refine Rg.inW_pass (some 43) (by kernel_rfl) rfl ?_;go_frame;refine Rg.inW_pass (some 44) (by kernel_rfl) rfl ?_;go_frame;refine Rg.inW_pass (some 45) (by kernel_rfl) rfl ?_;go_frame;refine Rg.inW_pass (some 46) (by kernel_rfl) rfl ?_;go_frame;refine Rg.inW_pass (some 47) (by kernel_rfl) rfl ?_;go_frame;refine Rg.inW_pass (some 48) (by kernel_rfl) rfl ?_;go_frame;refine Rg.in_run (some 49) rfl rfl (fun _ hh=>by cases hh) (exec_pickT (v:=.bool true) _ _ _ rfl rfl rfl) ?_;go_frame
   gi_upto_region 11 with (fail)
   refine wpIn_region_list ?_;refine Rg.in_skip none rfl rfl (fun _ hh=>by cases hh) (Rg.exec_store _ _ _ rfl _ rfl _ rfl (run_storeE 3 CI.out.c2.c CI.out.c2.f)) ?_;go_frame;have hk:=K.out.setCell (p:=⟨w.heap.size+1,0,none⟩) (by show w.heap.size≤w.heap.size+1; omega) (.int .i64 3);have y2:=CI.out.c2.set (.int .i64 3);have hq:=KQ.out.set (b:=w.heap.size+1) (o:=0) (.int .i64 3) (by omega);generalize W.setCell ⟨w.heap.size+1,0,none⟩ (.int .i64 3)=w99 at *;have KX:=ι hk;have CX:=ι y2;have QX:=ι hq;have HNX:=ι (show ¬ ChOK ((N:Nat):Int) OO RR from fun hh=>by have:=(hh.row HXR.out HXO.out).1; rw [show RR[X]=r from hr.out,show OO[X]=o' from hoo.out] at this; omega);clear hk y2 hq
   gi_wp2
   exact ⟨QX.out.keeps,rfl,KX.out,CX.out,HNX.out⟩
  by_cases hq2:(N:Int) - (X:Int)<(r.length:Int)
  case pos =>
   skip
   gi_upto_region 10 with (fail)
   refine wpIn_region_list ?_;refine Rg.in_run (some 33) rfl rfl (fun _ hh=>by cases hh) (Rg.xm (.slice ua r.length uc) _ rfl rfl) ?_;go_frame;refine Rg.in_run (some 34) rfl rfl (fun _ hh=>by cases hh) (exec_len _ _ _ rfl Tryz.underlying22 _ _ _ rfl) ?_;go_frame;refine Rg.in_run (some 35) rfl rfl (fun _ hh=>by cases hh) (exec_field _ rfl rfl (chF1 _ _)) ?_;go_frame;refine Rg.in_run (some 36) rfl rfl (fun _ hh=>by cases hh) (Rg.exec_load (v:=.slice (some ⟨ob,oo,none⟩) OO.length oc) _ _ rfl ⟨w.heap.size,1,none⟩ rfl (Rg.run_loadSl _ _ Tryz.underlying27 CI.out.a1.cell)) ?_;go_frame;refine Rg.in_run (some 37) rfl rfl (fun _ hh=>by cases hh) (Rg.xm (.int .i64 ((X:Nat):Int)) _ rfl rfl) ?_;go_frame;refine Rg.in_run (some 38) rfl rfl (fun _ hh=>by cases hh) (exec_indexS slIntss _ _ rfl ob (oo) (OO.length) oc (X) rfl rfl HXO.out) ?_;go_frame;refine Rg.in_run (some 39) rfl rfl (fun _ hh=>by cases hh) (Rg.exec_load (v:=.slice ya o'.length yc) _ _ rfl ⟨ob,oo+X,none⟩ rfl (Rg.run_loadSl _ _ Tryz.underlying36 ((Below.cell (p:=⟨ob,oo+X,none⟩) K.out CO.out.lt).trans CO.out.cell))) ?_;go_frame
   refine Rg.in_run (some 40) rfl rfl (fun _ hh=>by cases hh) (exec_len _ _ _ rfl Tryz.underlying36 _ _ _ rfl) ?_;go_frame;refine Rg.in_run (some 41) rfl rfl (fun _ hh=>by cases hh) (exec_bin (R:=.bool false) .neq _ _ _ rfl rfl rfl (b_neqB _ Rg.dF)) ?_;go_frame;refine Rg.in_run (some 42) rfl rfl (fun _ hh=>by cases hh) (Rg.xm (.bool false) _ rfl rfl) ?_;go_frame;refine Rg.inW_run (some 43) rfl rfl (fun _ hh=>by cases hh) (Rg.xm (.slice ua r.length uc) _ rfl rfl) ?_;go_frame;refine Rg.inW_run (some 44) rfl rfl (fun _ hh=>by cases hh) (exec_len _ _ _ rfl Tryz.underlying22 _ _ _ rfl) ?_;go_frame;refine Rg.inW_run (some 45) rfl rfl (fun _ hh=>by cases hh) (Rg.exec_load (v:=.int .i64 ((N:Nat):Int)) _ _ rfl ⟨(w.heap.size+2),0,none⟩ rfl (run_loadInt CI.out.c3.c)) ?_;go_frame;refine Rg.inW_run (some 46) rfl rfl (fun _ hh=>by cases hh) (Rg.xm (.int .i64 ((X:Nat):Int)) _ rfl rfl) ?_;go_frame
   refine Rg.inW_run (some 47) rfl rfl (fun _ hh=>by cases hh) (exec_bin (R:=.int .i64 ((N:Int) - (X:Int))) .sub _ _ _ rfl rfl rfl (b_sub _ (by omega) (by omega))) ?_;go_frame;refine Rg.inW_run (some 48) rfl rfl (fun _ hh=>by cases hh) (exec_bin (R:=.bool true) .gtr _ _ _ rfl rfl rfl (b_gtr _ Rg.dT)) ?_;go_frame;refine Rg.in_run (some 49) rfl rfl (fun _ hh=>by cases hh) (exec_pickF (v:=.bool true) _ _ _ rfl rfl rfl) ?_;go_frame
   gi_upto_region 11 with (fail)
   refine wpIn_region_list ?_;refine Rg.in_skip none rfl rfl (fun _ hh=>by cases hh) (Rg.exec_store _ _ _ rfl _ rfl _ rfl (run_storeE 3 CI.out.c2.c CI.out.c2.f)) ?_;go_frame;have hk:=K.out.setCell (p:=⟨w.heap.size+1,0,none⟩) (by show w.heap.size≤w.heap.size+1; omega) (.int .i64 3);have y2:=CI.out.c2.set (.int .i64 3);have hq:=KQ.out.set (b:=w.heap.size+1) (o:=0) (.int .i64 3) (by omega);generalize W.setCell ⟨w.heap.size+1,0,none⟩ (.int .i64 3)=w99 at *;have KX:=ι hk;have CX:=ι y2;have QX:=ι hq;have HNX:=ι (show ¬ ChOK ((N:Nat):Int) OO RR from fun hh=>by have:=(hh.row HXR.out HXO.out).2; rw [show RR[X]=r from hr.out] at this; omega);clear hk y2 hq
   gi_wp2
   exact ⟨QX.out.keeps,rfl,KX.out,CX.out,HNX.out⟩
  gi_upto_region 10 with (fail)
  refine wpIn_region_list ?_;refine Rg.in_run (some 33) rfl rfl (fun _ hh=>by cases hh) (Rg.xm (.slice ua r.length uc) _ rfl rfl) ?_;go_frame;refine Rg.in_run (some 34) rfl rfl (fun _ hh=>by cases hh) (exec_len _ _ _ rfl Tryz.underlying22 _ _ _ rfl) ?_;go_frame;refine Rg.in_run (some 35) rfl rfl (fun _ hh=>by cases hh) (exec_field _ rfl rfl (chF1 _ _)) ?_;go_frame;refine Rg.in_run (some 36) rfl rfl (fun _ hh=>by cases hh) (Rg.exec_load (v:=.slice (some ⟨ob,oo,none⟩) OO.length oc) _ _ rfl ⟨w.heap.size,1,none⟩ rfl (Rg.run_loadSl _ _ Tryz.underlying27 CI.out.a1.cell)) ?_;go_frame;refine Rg.in_run (some 37) rfl rfl (fun _ hh=>by cases hh) (Rg.xm (.int .i64 ((X:Nat):Int)) _ rfl rfl) ?_;go_frame;refine Rg.in_run (some 38) rfl rfl (fun _ hh=>by cases hh) (exec_indexS slIntss _ _ rfl ob (oo) (OO.length) oc (X) rfl rfl HXO.out) ?_;go_frame;refine Rg.in_run (some 39) rfl rfl (fun _ hh=>by cases hh) (Rg.exec_load (v:=.slice ya o'.length yc) _ _ rfl ⟨ob,oo+X,none⟩ rfl (Rg.run_loadSl _ _ Tryz.underlying36 ((Below.cell (p:=⟨ob,oo+X,none⟩) K.out CO.out.lt).trans CO.out.cell))) ?_;go_frame
  refine Rg.in_run (some 40) rfl rfl (fun _ hh=>by cases hh) (exec_len _ _ _ rfl Tryz.underlying36 _ _ _ rfl) ?_;go_frame;refine Rg.in_run (some 41) rfl rfl (fun _ hh=>by cases hh) (exec_bin (R:=.bool false) .neq _ _ _ rfl rfl rfl (b_neqB _ Rg.dF)) ?_;go_frame;refine Rg.in_run (some 42) rfl rfl (fun _ hh=>by cases hh) (Rg.xm (.bool false) _ rfl rfl) ?_;go_frame;refine Rg.inW_run (some 43) rfl rfl (fun _ hh=>by cases hh) (Rg.xm (.slice ua r.length uc) _ rfl rfl) ?_;go_frame;refine Rg.inW_run (some 44) rfl rfl (fun _ hh=>by cases hh) (exec_len _ _ _ rfl Tryz.underlying22 _ _ _ rfl) ?_;go_frame;refine Rg.inW_run (some 45) rfl rfl (fun _ hh=>by cases hh) (Rg.exec_load (v:=.int .i64 ((N:Nat):Int)) _ _ rfl ⟨(w.heap.size+2),0,none⟩ rfl (run_loadInt CI.out.c3.c)) ?_;go_frame;refine Rg.inW_run (some 46) rfl rfl (fun _ hh=>by cases hh) (Rg.xm (.int .i64 ((X:Nat):Int)) _ rfl rfl) ?_;go_frame
  refine Rg.inW_run (some 47) rfl rfl (fun _ hh=>by cases hh) (exec_bin (R:=.int .i64 ((N:Int) - (X:Int))) .sub _ _ _ rfl rfl rfl (b_sub _ (by omega) (by omega))) ?_;go_frame;refine Rg.inW_run (some 48) rfl rfl (fun _ hh=>by cases hh) (exec_bin (R:=.bool false) .gtr _ _ _ rfl rfl rfl (b_gtr _ Rg.dF)) ?_;go_frame;refine Rg.in_run (some 49) rfl rfl (fun _ hh=>by cases hh) (exec_pickF (v:=.bool false) _ _ _ rfl rfl rfl) ?_;go_frame;have HG0:=ι (show gs.map Ma.ofN=gs.map Ma.ofN++r.take 0 by simp);have HL0:=ι (show gs.length≤gs.length+0 from Nat.le_refl _)
  gi_wp2
  gi_loopw [52] (fun jv wr=>∃ (j:Nat) (v:Value) (gs':List (List Nat)),jv=.int .i64 j∧j≤r.length∧Hid (CkI w ((N:Nat):Int) (.slice (some ⟨ob,oo,none⟩) OO.length oc) (.slice ra RR.length rc) wr v gs')∧Hid (KK B w.heap.size W wr)∧Hid (gs'.map Ma.ofN=gs.map Ma.ofN++r.take j)∧Hid (∀ g∈gs',Cm.Gd N g)∧Hid (gs'.length≤gs.length+j)) (fun jv _=>r.length - (intOf jv).toNat)
  case atStart=>exact ⟨0,_,_,rfl,Nat.zero_le _,CI,KQ,HG0,HGG,HL0⟩
  case round =>
   clear CI KQ HG0 HGG HL0 K;obtain ⟨j,v,gs',rfl,hj,CI,KQ,HG0,HGG,HL0⟩:=hrel;have K:=ι CI.out.bel;obtain ⟨va,vc,hsv⟩:=CI.out.row.shape;subst hsv
   by_cases hjl:j<r.length
   ·have hjN:(j:Int)<(r.length:Int):=by omega
    have HJL:=ι hjl;obtain ⟨ub,uo,rfl,hub,huc⟩:=HRC.out (by omega);obtain ⟨xv,hxc,hxi⟩:=huc j hjl;obtain ⟨x,hx⟩:∃ x:List Int,Hid (r[j]'hjl=x):=⟨_,ι rfl⟩
    replace hxi:Rg.Ints w xv x:=by rw [← hx.out]; exact hxi
    obtain ⟨xa,xc,rfl,_⟩:=hxi.shape
    have hxl:x.length≤1000000000:=by obtain ⟨m',a',c',e',_,e2'⟩:=hxi.len; omega
    have CX:=ι (CL.mk hxc hub);have XU:=ι hxi;have HXM:=ι (show x∈RR[X]'HXR.out by rw [show RR[X]'HXR.out=r from hr.out,← hx.out]; exact List.getElem_mem hjl);have HPS:=ι (show gs'.length<1000000 by have:=HL0.out; have:=HPRE.out; omega);clear huc hxc hxi hub
    gi_upto_region 14 with (fail)
    refine wpIn_region_list ?_;refine Rg.in_run (some 54) rfl rfl (fun _ hh=>by cases hh) (exec_indexS slPerms _ _ rfl ub (uo) (r.length) uc (j) rfl rfl HJL.out) ?_;go_frame;refine Rg.in_run (some 55) rfl rfl (fun _ hh=>by cases hh) (Rg.exec_load (v:=.slice xa x.length xc) _ _ rfl ⟨ub,uo+j,none⟩ rfl (Rg.run_loadSl _ _ Tryz.underlying51 ((Below.cell (p:=⟨ub,uo+j,none⟩) K.out CX.out.lt).trans CX.out.cell))) ?_;go_frame;refine Rg.in_run (some 8) rfl rfl (fun _ hh=>by cases hh) (Rg.xa (.slice xa x.length xc) _ rfl rfl) ?_;go_frame
    by_cases hp1:(x.length:Int)=(N:Int)
    case neg =>
     skip
     gi_upto_region 15 with (fail)
     refine wpIn_region_list ?_;refine Rg.in_run (some 56) rfl rfl (fun _ hh=>by cases hh) (Rg.xm (.slice xa x.length xc) _ rfl rfl) ?_;go_frame;refine Rg.in_run (some 57) rfl rfl (fun _ hh=>by cases hh) (exec_len _ _ _ rfl Tryz.underlying51 _ _ _ rfl) ?_;go_frame;refine Rg.in_run (some 58) rfl rfl (fun _ hh=>by cases hh) (Rg.exec_load (v:=.int .i64 ((N:Nat):Int)) _ _ rfl ⟨(w.heap.size+2),0,none⟩ rfl (run_loadInt CI.out.c3.c)) ?_;go_frame;refine Rg.in_run (some 59) rfl rfl (fun _ hh=>by cases hh) (exec_bin (R:=.bool true) .neq _ _ _ rfl rfl rfl (b_neqB _ Rg.dT)) ?_;go_frame;refine Rg.in_run (some 60) rfl rfl (fun _ hh=>by cases hh) (Rg.xm (.bool true) _ rfl rfl) ?_;go_frame;refine Rg.inW_pass (some 61) (by kernel_rfl) rfl ?_;go_frame;refine Rg.inW_pass (some 62) (by kernel_rfl) rfl ?_;go_frame;refine Rg.inW_pass (some 63) (by kernel_rfl) rfl ?_;go_frame;refine Rg.in_run (some 64) rfl rfl (fun _ hh=>by cases hh) (exec_pickT (v:=.bool true) _ _ _ rfl rfl rfl) ?_;go_frame
     gi_upto_region 16 with (fail)
     refine wpIn_region_list ?_;refine Rg.in_skip none rfl rfl (fun _ hh=>by cases hh) (Rg.exec_store _ _ _ rfl _ rfl _ rfl (run_storeE 3 CI.out.c2.c CI.out.c2.f)) ?_;go_frame;have hk:=K.out.setCell (p:=⟨w.heap.size+1,0,none⟩) (by show w.heap.size≤w.heap.size+1; omega) (.int .i64 3);have y2:=CI.out.c2.set (.int .i64 3);have hq:=KQ.out.set (b:=w.heap.size+1) (o:=0) (.int .i64 3) (by omega);generalize wr.setCell ⟨w.heap.size+1,0,none⟩ (.int .i64 3)=w99 at *;have KX:=ι hk;have CX:=ι y2;have QX:=ι hq;have HNX:=ι (show ¬ ChOK ((N:Nat):Int) OO RR from fun hh=>hp1 (hh.perm HXR.out HXM.out).1);clear hk y2 hq
     gi_wp2
     exact ⟨QX.out.keeps,rfl,KX.out,CX.out,HNX.out⟩
    by_cases hp0:Ma.pchk x=0
    case neg =>
     skip
     gi_upto_region 15 with (fail)
     refine wpIn_region_list ?_;refine Rg.in_run (some 56) rfl rfl (fun _ hh=>by cases hh) (Rg.xm (.slice xa x.length xc) _ rfl rfl) ?_;go_frame;refine Rg.in_run (some 57) rfl rfl (fun _ hh=>by cases hh) (exec_len _ _ _ rfl Tryz.underlying51 _ _ _ rfl) ?_;go_frame;refine Rg.in_run (some 58) rfl rfl (fun _ hh=>by cases hh) (Rg.exec_load (v:=.int .i64 ((N:Nat):Int)) _ _ rfl ⟨(w.heap.size+2),0,none⟩ rfl (run_loadInt CI.out.c3.c)) ?_;go_frame;refine Rg.in_run (some 59) rfl rfl (fun _ hh=>by cases hh) (exec_bin (R:=.bool false) .neq _ _ _ rfl rfl rfl (b_neqB _ Rg.dF)) ?_;go_frame;refine Rg.in_run (some 60) rfl rfl (fun _ hh=>by cases hh) (Rg.xm (.bool false) _ rfl rfl) ?_;go_frame;refine Rg.inW_run (some 61) rfl rfl (fun _ hh=>by cases hh) (Rg.xm (.slice xa x.length xc) _ rfl rfl) ?_;go_frame;refine Rg.inW_ask (some 62) rfl rfl (fun _ hh=>by cases hh) _ _ (exec_fn1 115 _ _ rfl rfl (Wvcl1 _ _)) ?_
     refine (permCheck_any _ _ wr (XU.out.below K.out)).mono ?_;rintro e1 w41 ⟨rfl,hb⟩;refine ⟨_,rfl,?_⟩;go_frame;replace CI:=ι (CI.out.below hb);replace KQ:=ι (KQ.out.below hb);replace K:=ι (Rg.acc K.out hb);clear hb;refine Rg.inW_run (some 63) rfl rfl (fun _ hh=>by cases hh) (exec_bin (R:=.bool true) .neq _ _ _ rfl rfl rfl (b_neqB _ (decide_eq_true hp0))) ?_;go_frame;refine Rg.in_run (some 64) rfl rfl (fun _ hh=>by cases hh) (exec_pickF (v:=.bool true) _ _ _ rfl rfl rfl) ?_;go_frame
     gi_upto_region 16 with (fail)
     refine wpIn_region_list ?_;refine Rg.in_skip none rfl rfl (fun _ hh=>by cases hh) (Rg.exec_store _ _ _ rfl _ rfl _ rfl (run_storeE 3 CI.out.c2.c CI.out.c2.f)) ?_;go_frame;have hk:=K.out.setCell (p:=⟨w.heap.size+1,0,none⟩) (by show w.heap.size≤w.heap.size+1; omega) (.int .i64 3);have y2:=CI.out.c2.set (.int .i64 3);have hq:=KQ.out.set (b:=w.heap.size+1) (o:=0) (.int .i64 3) (by omega);generalize w41.setCell ⟨w.heap.size+1,0,none⟩ (.int .i64 3)=w99 at *;have KX:=ι hk;have CX:=ι y2;have QX:=ι hq;have HNX:=ι (show ¬ ChOK ((N:Nat):Int) OO RR from fun hh=>hp0 (hh.perm HXR.out HXM.out).2);clear hk y2 hq
     gi_wp2
     exact ⟨QX.out.keeps,rfl,KX.out,CX.out,HNX.out⟩
    gi_upto_region 15 with (fail)
    refine wpIn_region_list ?_;refine Rg.in_run (some 56) rfl rfl (fun _ hh=>by cases hh) (Rg.xm (.slice xa x.length xc) _ rfl rfl) ?_;go_frame;refine Rg.in_run (some 57) rfl rfl (fun _ hh=>by cases hh) (exec_len _ _ _ rfl Tryz.underlying51 _ _ _ rfl) ?_;go_frame;refine Rg.in_run (some 58) rfl rfl (fun _ hh=>by cases hh) (Rg.exec_load (v:=.int .i64 ((N:Nat):Int)) _ _ rfl ⟨(w.heap.size+2),0,none⟩ rfl (run_loadInt CI.out.c3.c)) ?_;go_frame;refine Rg.in_run (some 59) rfl rfl (fun _ hh=>by cases hh) (exec_bin (R:=.bool false) .neq _ _ _ rfl rfl rfl (b_neqB _ Rg.dF)) ?_;go_frame;refine Rg.in_run (some 60) rfl rfl (fun _ hh=>by cases hh) (Rg.xm (.bool false) _ rfl rfl) ?_;go_frame;refine Rg.inW_run (some 61) rfl rfl (fun _ hh=>by cases hh) (Rg.xm (.slice xa x.length xc) _ rfl rfl) ?_;go_frame;refine Rg.inW_ask (some 62) rfl rfl (fun _ hh=>by cases hh) _ _ (exec_fn1 115 _ _ rfl rfl (Wvcl1 _ _)) ?_
    refine (permCheck_any _ _ wr (XU.out.below K.out)).mono ?_;rintro e1 w41 ⟨rfl,hb⟩;refine ⟨_,rfl,?_⟩;go_frame;replace CI:=ι (CI.out.below hb);replace KQ:=ι (KQ.out.below hb);replace K:=ι (Rg.acc K.out hb);clear hb;refine Rg.inW_run (some 63) rfl rfl (fun _ hh=>by cases hh) (exec_bin (R:=.bool false) .neq _ _ _ rfl rfl rfl (b_neqB _ (decide_eq_false (fun e=>e hp0)))) ?_;go_frame;refine Rg.in_run (some 64) rfl rfl (fun _ hh=>by cases hh) (exec_pickF (v:=.bool false) _ _ _ rfl rfl rfl) ?_;go_frame;obtain ⟨q,hqx,hqo⟩:=Ma.okL_ofN (Ma.pchk_zero hp0).2.2;have HGQ:=ι (show Cm.Gd N q from ⟨hqo,by have:=congrArg List.length hqx; rw [Ma.len_ofN] at this; omega⟩);have HQX:=ι hqx;have HFQ:=ι (show FP (fun k=>k<w.heap.size) w (.slice xa x.length xc) q from FP.of_np (show Rg.NP w _ q by unfold Rg.NP; rw [← HQX.out]; exact XU.out));clear hqx hqo hp0
    gi_upto_region 17 with (fail)
    refine wpIn_region_list ?_;refine Rg.in_run (some 65) rfl rfl (fun _ hh=>by cases hh) (Rg.exec_load (v:=.slice va gs'.length vc) _ _ rfl ⟨(w.heap.size+3),0,none⟩ rfl (Rg.run_loadSl _ _ Tryz.underlying22 CI.out.c4.c)) ?_;go_frame;refine Rg.in_run (some 66) rfl rfl (fun _ hh=>by cases hh) (Rg.xm (.slice xa x.length xc) _ rfl rfl) ?_;go_frame;refine Rg.in_run (some 67) rfl rfl (fun _ hh=>by cases hh) (Rg.exec_buildSlice _ _ _ rfl (.slice xa x.length xc) rfl (run_build1P w41 _ ⟨_,_,_,rfl⟩)) ?_;go_frame;obtain ⟨a9,c9,X9,r1,r2,r3,r4⟩:=CI.out.row.pushK (fun k hk=>by omega) (HFQ.out.below K.out) ⟨_,_,_,rfl⟩ HPS.out 22;have hkb:=r3 (Nat.le_refl _) (Below.refl _ _);refine Rg.in_run (some 68) rfl rfl (fun _ hh=>by cases hh) (Rg.exec_append _ _ _ rfl rfl rfl r1) ?_;go_frame;have c4x:=CI.out.c4.upto hkb (by omega);refine Rg.in_skip none rfl rfl (fun _ hh=>by cases hh) (Rg.exec_store _ _ _ rfl _ rfl _ rfl (Rg.run_storeSl _ infoPermsV c4x.c c4x.f)) ?_;go_frame
    have hci2:=CI.out.store hkb r2;have hkq2:KK B w.heap.size W (X9.setCell ⟨w.heap.size+3,0,none⟩ (.slice a9 (gs'.length+1) c9)):=(KQ.out.row r4 CI.out.row (by omega)).set _ (by omega);generalize X9.setCell ⟨w.heap.size+3,0,none⟩ (.slice a9 (gs'.length+1) c9)=w98 at *;have CI2:=ι hci2;have KQ2:=ι hkq2
    have HG2:=ι (show (gs'++[q]).map Ma.ofN=gs.map Ma.ofN++r.take (j+1) by
     rw [List.map_append,HG0.out,List.take_succ_eq_append_getElem HJL.out,show r[j]=x from hx.out,HQX.out,List.append_assoc]; rfl)
    have HGG2:=ι (show ∀ g∈gs'++[q],Cm.Gd N g from fun g hg=>by
     rcases List.mem_append.1 hg with hg | hg
     ·exact HGG.out g hg
     ·rw [List.mem_singleton] at hg; rw [hg]; exact HGQ.out)
    have HL2:=ι (show (gs'++[q]).length≤gs.length+(j+1) by rw [List.length_append]; have:=HL0.out; simp; omega);clear hci2 hkq2 r1 r2 r3 r4 hkb c4x
    gi_wp2
    go_roundw
    case rel=>exact ⟨j+1,_,_,by go_num,HJL.out,CI2,KQ2,HG2,HGG2,HL2⟩
    case measure=>simp [intOf]; have:=HJL.out; omega
   ·obtain rfl:j=r.length:=by omega
    have hjN:¬ (r.length:Int)<(r.length:Int):=by omega
    have HFIN:=ι (show gs'.map Ma.ofN=(pre++[⟨X,HXR.out⟩]:List (Fin RR.length)).flatMap (rowOf RR) by
     have e:=HG0.out;rw [List.take_length] at e;rw [e,HFL.out,List.flatMap_append];simp only [List.flatMap_cons,List.flatMap_nil,List.append_nil]
     exact congrArg (pre.flatMap (rowOf RR)++·) ((getD_inf HXR.out).trans hr.out).symm)
    have HRLE:=ι (show gs'.length≤64*(pre.length+1) by have:=HL0.out; have:=HGLL.out; omega)
    gi_wp2
    exact ⟨KQ.out.keeps,KQ.out.bel,_,_,CI.out,HFIN.out,HGG.out,by rw [List.length_append]; exact HRLE.out⟩
 case stop =>
  rintro D c pre W hD ⟨rfl,h1,h2,h3⟩ hd;go_wp2;exact ck_leave (ds:=[D]) h1 h2 (.inr ⟨by omega,.inr ⟨h3,rfl⟩⟩) rfl (by simp) (fun D' hD'=>by simp at hD'; subst hD'; exact ⟨hd,by have:=HS0.out; omega⟩)
 case done =>
  rintro D Wd hD ⟨v,gs,hci,hfl,hgg,hgl⟩ hd;clear FB HRV CI K;rw [finTo_flat] at hfl;have HD:=ι (show w.heap.size≤D by have:=HS0.out; omega);have DF:=ι hd;have CI:=ι hci;have K:=ι hci.bel;have HFL:=ι hfl;have HGG:=ι hgg;have HGL:=ι (show gs.length≤1000000 by rw [finTo_len (Nat.le_refl _)] at hgl; have:=HLR.out; omega);obtain ⟨va,vc,hsv⟩:=hci.row.shape;subst hsv
  have GR:=ι (show Rg.Rows Wd (.slice va gs.length vc) (gs.map Ma.ofN) from by
   obtain ⟨us,q1,q2⟩:=hci.row.own
   exact Rg.Rows.of_row q1 (by have:=HGL.out; omega) q2.1 (fun i a b=>(q2.2 i a b).ints))
  have HH:=ι (show ChEqR Wd (.slice oa OO.length oc) (.slice ra RR.length rc) OO RR from ChEqR.upto H.out hci.bel);clear hci hfl hgg hgl hd;go_upto_region 19 with (fail);refine Rg.wp_onlyN ?_;have hV0:Below Wd.heap.size Wd Wd.drew:=(Below.refl _ _).drew;replace CI:=ι (CI.out.below hV0);replace GR:=ι (GR.out.below hV0);replace HH:=ι (HH.out.below hV0);replace DF:=ι (DF.out.below hV0);replace K:=ι (Rg.acc K.out hV0);clear hV0;refine Rg.Any.begin (S:=Rg.Both 6 (fun _=>True) (fun W=>Below Wd.drew.heap.size Wd.drew W)) mix ?_;generalize Wd.drew=w61 at *;have hS:∀ (l:Array Bool) W,Below w61.heap.size w61 W→Rg.Both 6 (fun _=>True) (fun W=>Below w61.heap.size w61 W) l W:=fun l W h=>⟨.inr trivial,h⟩;have hI:Below w61.heap.size w61 w61:=Below.refl _ _;refine Rg.tg 0 6 ((.agg #[.int .i64 ((N:Nat):Int),.slice oa OO.length oc,.slice ra RR.length rc])) 70 rfl rfl (Rg.yields_cell _ _ rfl rfl ⟨w.heap.size,0,none⟩ rfl (fun W hW=>run_loadC3 ((Below.cell (p:=⟨w.heap.size,0,none⟩) hW CI.out.a0.lt).trans CI.out.a0.cell) ((Below.cell (p:=⟨w.heap.size,1,none⟩) hW CI.out.a1.lt).trans CI.out.a1.cell) ((Below.cell (p:=⟨w.heap.size,2,none⟩) hW CI.out.a2.lt).trans CI.out.a2.cell))) (hS _ _ hI) ?_;go_frame
  refine Rg.tg 1 6 (.int .i64 ((N:Nat):Int)) 71 rfl rfl (Rg.yields_cell _ _ rfl rfl ⟨(w.heap.size+2),0,none⟩ rfl (fun W hW=>run_loadInt ((Below.cell (p:=⟨(w.heap.size+2),0,none⟩) hW CI.out.c3.lt).trans CI.out.c3.c))) (hS _ _ hI) ?_;go_frame;refine Rg.tg 2 6 (.slice va gs.length vc) 72 rfl rfl (Rg.yields_cell _ _ rfl rfl ⟨(w.heap.size+3),0,none⟩ rfl (fun W hW=>Rg.run_loadSl _ _ Tryz.underlying22 ((Below.cell (p:=⟨(w.heap.size+3),0,none⟩) hW CI.out.c4.lt).trans CI.out.c4.c))) (hS _ _ hI) ?_;go_frame;refine Rg.Any.one (i:=3) (by kernel_rfl) (Rg.Any.ask (some 73) rfl rfl rfl _ _ (exec_fn 117 _ _ _ rfl rfl rfl (Wvcl2 _ _)) ?_);refine (build_b hN1 hN2 GR.out HGG.out HGL.out).mono ?_;rintro e1 w62 ⟨tb,L,F1,T1,V1,rfl,hT1,hc01,hc11,hB1,hb⟩;have HB:=ι hB1;have hI2_0:=Rg.acc hI hb;clear hb hI;refine ⟨_,rfl,(hS _ _ hI2_0),?_⟩;go_frame;have HT:=ι hT1;have C0:=ι hc01
  have C1:=ι hc11;clear hT1 hc01 hc11 hB1;refine Rg.Any.one (i:=4) (by kernel_rfl) (Rg.Any.ask (some 74) rfl rfl rfl _ _ (exec_fn1 118 _ _ rfl rfl (Wvcl3 _ _)) ?_);refine (chain_any hN1 hN2 HT.out C0.out C1.out (Cm.Gr.isG HGG.out) (HB.out.isTr (by omega) HGG.out) (fun j hj=>(HB.out.full j hj).1)).mono ?_;rintro e1 w63 ⟨ov2,rv2,O2,R2,rfl,hO,hR,hCh,hb⟩;have HCH:=ι hCh;have HE2:=ChEqR.mk hO.rows hR.rows;clear hO hR hCh;have hI3_0:=Rg.acc hI2_0 hb;have hI3_1:=hb;clear hb hI2_0;refine ⟨_,rfl,(hS _ _ hI3_0),?_⟩;go_frame;have HF:=ι HE2;clear HE2;obtain ⟨bS,hbS⟩:∃ b,Hid (decide (((N:Nat):Int)=((N:Nat):Int)∧OO=O2.map Ma.ofN∧RR=R2.map (List.map Ma.ofN))=b):=⟨_,ι rfl⟩;refine Rg.Any.one (i:=5) (by kernel_rfl) (Rg.Any.ask (some 75) rfl rfl rfl _ _ (exec_fn 116 _ _ _ rfl rfl rfl (Wvcl4 _ _)) ?_);refine (chSame_b (HH.out.below hI3_0) HF.out hbS).mono ?_
  rintro e1 w64 ⟨rfl,hb⟩;have hI4_0:=Rg.acc hI3_1 hb;have hI4_1:=Rg.acc hI3_0 hb;have hI4_2:=hb;clear hb hI3_1 hI3_0;refine ⟨_,rfl,(hS _ _ hI4_1),?_⟩;go_frame;refine Rg.Any.one (i:=6) (by kernel_rfl) (Rg.Any.run (some 76) rfl rfl rfl (exec_not _ _ bS rfl rfl) (hS _ _ hI4_1) ?_);go_frame;refine Rg.Any.done (by kernel_rfl) ?_ _;refine Rg.onlyN_i ?_;replace CI:=ι (CI.out.below hI4_1);replace GR:=ι (GR.out.below hI4_1);replace HH:=ι (HH.out.below hI4_1);replace DF:=ι (DF.out.below hI4_1);replace HT:=ι (HT.out.below hI4_0);replace C0:=ι (C0.out.below hI4_0);replace C1:=ι (C1.out.below hI4_0);replace HF:=ι (HF.out.below hI4_2);replace K:=ι (Rg.acc K.out hI4_1);clear hS hI4_0 hI4_1 hI4_2;have HOK:=ι (ChOK.same (OO:=OO) (RR:=RR) hN1 hN2 HGG.out HFL.out.symm HCH.out)
  cases bS with
  | false =>
   have C2:=ι CI.out.c2;go_upto_region 20 with (fail);refine Rg.wl ?_;refine Rg.list_skip none rfl rfl (Rg.exec_store _ _ _ rfl _ rfl _ rfl (run_storeE 3 C2.out.c C2.out.f)) ?_;go_frame;have hk:=K.out.setCell (p:=⟨w.heap.size+1,0,none⟩) (by show w.heap.size≤w.heap.size+1; omega) (.int .i64 3);have y2:=C2.out.set (.int .i64 3);have hdd:=RF.Dfr.setCell DF.out ⟨w.heap.size+1,0,none⟩ (.int .i64 3);generalize w64.setCell ⟨w.heap.size+1,0,none⟩ (.int .i64 3)=w99 at *;have KX:=ι hk;have CX:=ι y2;have DX:=ι hdd;have HCX:=ι (show ChC ((N:Nat):Int) OO RR 3 from .inr ⟨by omega,.inr ⟨fun hh=>(of_decide_eq_false hbS.out) ⟨rfl,HOK.out.1 hh⟩,rfl⟩⟩);clear hk y2 hdd;go_wp2;exact ck_leave (ds:=[D]) KX.out CX.out HCX.out rfl (by simp) (fun D' hD'=>by simp at hD'; subst hD'; exact ⟨DX.out,HD.out⟩)
  | true =>
   have C2:=ι CI.out.c2;go_upto_region 21 with (fail);refine Rg.wl ?_;refine Rg.list_skip none rfl rfl (Rg.exec_store _ _ _ rfl _ rfl _ rfl (run_storeE 0 C2.out.c C2.out.f)) ?_;go_frame;have hk:=K.out.setCell (p:=⟨w.heap.size+1,0,none⟩) (by show w.heap.size≤w.heap.size+1; omega) (.int .i64 0);have y2:=C2.out.set (.int .i64 0);have hdd:=RF.Dfr.setCell DF.out ⟨w.heap.size+1,0,none⟩ (.int .i64 0);generalize w64.setCell ⟨w.heap.size+1,0,none⟩ (.int .i64 0)=w99 at *;have KX:=ι hk;have CX:=ι y2;have DX:=ι hdd;have HCX:=ι (show ChC ((N:Nat):Int) OO RR 0 from ChC.of (HOK.out.2 (of_decide_eq_true hbS.out).2));clear hk y2 hdd;go_wp2;exact ck_leave (ds:=[D]) KX.out CX.out HCX.out rfl (by simp) (fun D' hD'=>by simp at hD'; subst hD'; exact ⟨DX.out,HD.out⟩)
end Go.Proofs.YthehbckogieimaaGreat

namespace Go.Proofs.YthehbckogieimaaGreat
open Go.Proofs
open Go.Proofs.Cm (Gr Gd IsChain IsG IsTr St Tr Sd Fx ap)
structure TE where
 i:Nat
 p:Nat
 u:List Nat
 w:List Nat
end Go.Proofs.YthehbckogieimaaGreat

namespace Go.Proofs.YthehbckogieimaaGreat
open Go.RowKit
open Go.Proofs
open Go.Proofs.Ob
attribute [local irreducible] Go.Calls Go.wpList
theorem RowsB.low {B:Nat} {w w':World} {v:Value} {ll:List (List Int)} (h:Rg.RowsB B w v ll) (hb:Below w.heap.size w w'):Rg.RowsB B w' v ll:=h.below hb
def bg (d:Int) (ll:List (List Int)):Bool:=lg ll || (decide (12<d) && decide (d≤64))
end Go.Proofs.YthehbckogieimaaGreat

namespace Go.Proofs.YthehbckogieimaaGreat
open Go.RowKit
open Go.Proofs
open Go.Proofs.Cm (Gd Gr IsChain)
attribute [local irreducible] Go.Calls Go.wpList
def joinI (x y:List Int):List Int:=x++y.map (fun p=>p+(x.length:Int))
def jnN (x y:List Nat):List Nat:=x++y.map (fun p=>p+x.length)
def prL (L M:List (List Int)):List (List Int):=List.zipWith joinI L M
def prN (L M:List (List Nat)):List (List Nat):=List.zipWith jnN L M
def homC (d e:Int) (L M:List (List Int)):Int :=
 if Ma.gchk d L≠0 then Ma.gchk d L else if Ma.gchk e M≠0 then Ma.gchk e M else if L.length≠M.length then 4 else if 64<d+e then 5 else 0
theorem homC_1 {d e:Int} {L M:List (List Int)} (h:Ma.gchk d L≠0):homC d e L M=Ma.gchk d L:=by unfold homC; rw [if_pos h]
theorem homC_2 {d e:Int} {L M:List (List Int)} (h:Ma.gchk d L=0) (h2:Ma.gchk e M≠0):homC d e L M=Ma.gchk e M:=by unfold homC; rw [if_neg (fun q=>q h),if_pos h2]
theorem homC_3 {d e:Int} {L M:List (List Int)} (h:Ma.gchk d L=0) (h2:Ma.gchk e M=0) (h3:L.length≠M.length):homC d e L M=4:=by unfold homC; rw [if_neg (fun q=>q h),if_neg (fun q=>q h2),if_pos h3]
theorem homC_4 {d e:Int} {L M:List (List Int)} (h:Ma.gchk d L=0) (h2:Ma.gchk e M=0) (h3:L.length=M.length) (h4:64<d+e):homC d e L M=5:=by unfold homC; rw [if_neg (fun q=>q h),if_neg (fun q=>q h2),if_neg (fun q=>q h3),if_pos h4]
theorem homC_5 {d e:Int} {L M:List (List Int)} (h:Ma.gchk d L=0) (h2:Ma.gchk e M=0) (h3:L.length=M.length) (h4:¬ 64<d+e):homC d e L M=0:=by unfold homC; rw [if_neg (fun q=>q h),if_neg (fun q=>q h2),if_neg (fun q=>q h3),if_neg h4]
theorem homC_zero {d e:Int} {L M:List (List Int)} (h:homC d e L M=0):Ma.gchk d L=0∧Ma.gchk e M=0∧L.length=M.length∧d+e≤64:=by
 unfold homC at h
 by_cases h1:Ma.gchk d L=0
 ·rw [if_neg (fun q=>q h1)] at h
  by_cases h2:Ma.gchk e M=0
  ·rw [if_neg (fun q=>q h2)] at h
   by_cases h3:L.length=M.length
   ·rw [if_neg (fun q=>q h3)] at h
    by_cases h4:64<d+e
    ·rw [if_pos h4] at h; exact absurd h (by decide)
    ·exact ⟨h1,h2,h3,by omega⟩
   ·rw [if_pos h3] at h; exact absurd h (by decide)
  ·rw [if_pos h2] at h; exact absurd h h2
 ·rw [if_pos h1] at h; exact absurd h h1
theorem homC_swap {d e:Int} {L M:List (List Int)} (h:homC d e L M=0):homC e d M L=0:=by
 obtain ⟨h1,h2,h3,h4⟩:=homC_zero h;exact homC_5 h2 h1 h3.symm (by omega)
theorem jnN_gd {n m:Nat} {x y:List Nat} (hx:Gd n x) (hy:Gd m y):Gd (n+m) (jnN x y):=by
 have hl:(jnN x y).length=n+m:=by unfold jnN; rw [List.length_append,List.length_map,hx.2,hy.2]
 refine ⟨⟨fun z hz=>?_,?_⟩,hl⟩
 ·rw [hl]
  rcases List.mem_append.1 hz with h | h
  ·have:=hx.1.1 z h; have:=hx.2; omega
  ·obtain ⟨p,hp,rfl⟩:=List.mem_map.1 h
   have:=hy.1.1 p hp; have:=hx.2; have:=hy.2; omega
 ·unfold jnN
  rw [List.nodup_append];refine ⟨hx.1.2,?_,?_⟩
  ·rw [List.nodup_iff_pairwise_ne,List.pairwise_map]
   exact (List.nodup_iff_pairwise_ne.1 hy.1.2).imp fun hne e=>hne (by omega)
  ·intro a ha b hb e
   obtain ⟨p,hp,rfl⟩:=List.mem_map.1 hb;have:=hx.1.1 a ha;omega
theorem joinI_ofN (x y:List Nat):joinI (Ma.ofN x) (Ma.ofN y)=Ma.ofN (jnN x y):=by
 unfold joinI jnN Ma.ofN;rw [List.map_append,List.map_map,List.map_map,List.length_map]
 congr 1
theorem prL_ofN:∀ (A B:List (List Nat)),prL (A.map Ma.ofN) (B.map Ma.ofN)=(prN A B).map Ma.ofN
 | [],_=>by simp [prL,prN]
 | _ :: _,[]=>by simp [prL,prN]
 | x :: A,y :: B=>by
  have:=prL_ofN A B;unfold prL prN at *;rw [List.map_cons,List.map_cons,List.zipWith_cons_cons,List.zipWith_cons_cons,List.map_cons,this,joinI_ofN]
theorem gck_gd {D:Nat} (h1:1≤D) (h2:D≤64):∀ {gs:List (List Nat)},(∀ s∈gs,Gd D s)→Ma.gck ((D:Nat):Int) (gs.map Ma.ofN)=0
 | [],_=>rfl
 | s :: gs,h=>by
  have g:=h s (List.mem_cons_self ..);have e1:Ma.pchk (Ma.ofN s)=0:=Ma.pchk_ok (by rw [Ma.len_ofN,g.2]; exact h1) (by rw [Ma.len_ofN,g.2]; exact h2) (Ma.okN_ofN g.1)
  have e2:((Ma.ofN s).length:Int)=((D:Nat):Int):=by rw [Ma.len_ofN,g.2]
  show (if Ma.pchk (Ma.ofN s)=0 then (if ((Ma.ofN s).length:Int)=((D:Nat):Int) then Ma.gck ((D:Nat):Int) (gs.map Ma.ofN) else 10) else Ma.pchk (Ma.ofN s))=0;rw [if_pos e1,if_pos e2];exact gck_gd h1 h2 (fun x hx=>h x (List.mem_cons_of_mem _ hx))
theorem mem_prN {n m:Nat}:∀ {A B:List (List Nat)},(∀ s∈A,Gd n s)→(∀ s∈B,Gd m s)→∀ s∈prN A B,Gd (n+m) s
 | [],_,_,_,s,h=>by simp [prN] at h
 | _ :: _,[],_,_,s,h=>by simp [prN] at h
 | x :: A,y :: B,h1,h2,s,h=>by
  unfold prN at h;rw [List.zipWith_cons_cons] at h
  rcases List.mem_cons.1 h with rfl | h
  ·exact jnN_gd (h1 _ (List.mem_cons_self ..)) (h2 _ (List.mem_cons_self ..))
  ·exact mem_prN (fun s hs=>h1 s (List.mem_cons_of_mem _ hs)) (fun s hs=>h2 s (List.mem_cons_of_mem _ hs)) s h
structure HomG (d e:Int) (L M:List (List Int)) (n m:Nat) (A B:List (List Nat)):Prop where
 dn:d=((n:Nat):Int)
 em:e=((m:Nat):Int)
 la:L=A.map Ma.ofN
 mb:M=B.map Ma.ofN
 ga:∀ s∈A,Gd n s
 gb:∀ s∈B,Gd m s
 n1:1≤n
 m1:1≤m
 nm:n+m≤64
 len:A.length=B.length
 l16:A.length≤16
theorem homC_get {d e:Int} {L M:List (List Int)} (h:homC d e L M=0):∃ n m A B,HomG d e L M n m A B:=by
 obtain ⟨h1,h2,h3,h4⟩:=homC_zero h;obtain ⟨n,A,hd,hA,gA,n1,n2,l1⟩:=gchk_ok h1;obtain ⟨m,B,he,hB,gB,m1,m2,l2⟩:=gchk_ok h2;exact ⟨n,m,A,B,hd,he,hA,hB,gA,gB,n1,m1,by omega,by rw [hA,hB,List.length_map,List.length_map] at h3; exact h3,l1⟩
theorem HomG.mk0 {d e:Int} {L M:List (List Int)} {n m:Nat} {A B:List (List Nat)} (h:HomG d e L M n m A B):mkchk (d+e) (prL L M)=0:=by
 have hde:d+e=((n+m:Nat):Int):=by rw [h.dn,h.em]; omega
 unfold mkchk;rw [if_pos (by have:=h.n1; have:=h.nm; omega),h.la,h.mb,prL_ofN];rw [if_pos (by rw [List.length_map]; unfold prN; rw [List.length_zipWith]; have:=h.l16; omega),hde];exact gck_gd (by have:=h.n1; omega) h.nm (mem_prN h.ga h.gb)
theorem HomG.lens {d e:Int} {L M:List (List Int)} {n m:Nat} {A B:List (List Nat)} (h:HomG d e L M n m A B):(∀ l∈L,l.length=n)∧(∀ l∈M,l.length=m)∧L.length=M.length∧L.length≤16:=by
 refine ⟨fun l hl=>?_,fun l hl=>?_,?_,?_⟩
 ·rw [h.la] at hl
  obtain ⟨s,hs,rfl⟩:=List.mem_map.1 hl;rw [Ma.len_ofN]; exact (h.ga s hs).2
 ·rw [h.mb] at hl
  obtain ⟨s,hs,rfl⟩:=List.mem_map.1 hl;rw [Ma.len_ofN]; exact (h.gb s hs).2
 ·rw [h.la,h.mb,List.length_map,List.length_map]; exact h.len
 ·rw [h.la,List.length_map]; exact h.l16
open Classical in
noncomputable def pOR (D:Int) (ll:List (List Int)):List (List Nat) × List (List (List Nat)) :=
 if h:∃ OR:List (List Nat) × List (List (List Nat)),∃ (n:Nat) (gs:List (List Nat)),D=((n:Nat):Int)∧ll=gs.map Ma.ofN∧IsChain n (Gr n (·∈gs)) OR.1 OR.2 then h.choose else ([],[])
noncomputable def pO (D:Int) (ll:List (List Int)):List (List Int):=(pOR D ll).1.map Ma.ofN
noncomputable def pR (D:Int) (ll:List (List Int)):List (List (List Int)):=(pOR D ll).2.map (List.map Ma.ofN)
theorem pOR_eq {n:Nat} {gs O:List (List Nat)} {R:List (List (List Nat))} (h:IsChain n (Gr n (·∈gs)) O R):pOR ((n:Nat):Int) (gs.map Ma.ofN)=(O,R):=by
 have hx:∃ OR:List (List Nat) × List (List (List Nat)),∃ (n':Nat) (gs':List (List Nat)),((n:Nat):Int)=((n':Nat):Int)∧gs.map Ma.ofN=gs'.map Ma.ofN∧IsChain n' (Gr n' (·∈gs')) OR.1 OR.2:=⟨(O,R),n,gs,rfl,rfl,h⟩;unfold pOR;rw [dif_pos hx];obtain ⟨n',gs',e1,e2,e3⟩:=hx.choose_spec
 obtain rfl:n=n':=by omega
 obtain rfl:=map_ofN_inj e2;obtain ⟨h1,h2⟩:=IsChain.uniq h e3;exact Prod.ext h1.symm h2.symm
structure PcF (D:Int) (ll:List (List Int)) (N:Nat) (gs:List (List Nat)):Prop where
 dn:D=((N:Nat):Int)
 lg:ll=gs.map Ma.ofN
 n1:1≤N
 n2:N≤64
 ch:IsChain N (Gr N (·∈gs)) (pOR D ll).1 (pOR D ll).2
theorem ChAns.pc {w:World} {D:Int} {ll:List (List Int)} {cv:Value} (h:ChAns w D ll cv 0):∃ oa oc ra rc,cv=.agg #[.int .i64 D,.slice oa (pO D ll).length oc,.slice ra (pR D ll).length rc]∧ChEqR w (.slice oa (pO D ll).length oc) (.slice ra (pR D ll).length rc) (pO D ll) (pR D ll)∧∃ N gs,PcF D ll N gs:=by
 rcases h with ⟨h,_⟩ | ⟨_,n,gs,h1,h2,h3,h4,ov,rv,O,R,rfl,h5,h6,h7⟩
 ·exact absurd rfl h
 ·have e:pOR D ll=(O,R):=by rw [h1,h2]; exact pOR_eq h7
  have eO:pO D ll=O.map Ma.ofN:=by unfold pO; rw [e]
  have eR:pR D ll=R.map (List.map Ma.ofN):=by unfold pR; rw [e]
  obtain ⟨oa,oc,rfl,-⟩:=h5.shape;obtain ⟨ra,rc,rfl⟩:=h6.shape;rw [eO,eR];refine ⟨oa,oc,ra,rc,by rw [h1],⟨h5,h6⟩,n,gs,h1,h2,h3,h4,?_⟩;rw [e]; exact h7
theorem ChAns.pcv {w:World} {D:Int} {ll:List (List Int)} {x ov rv:Value} (h:ChAns w D ll (.agg #[x,ov,rv]) 0):ChEqR w ov rv (pO D ll) (pR D ll)∧∃ N gs,PcF D ll N gs:=by
 obtain ⟨oa,oc,ra,rc,e,h1,h2⟩:=h.pc
 injection e with e
 injection e with e
 injection e with _ e
 injection e with e1 e
 injection e with e2 _
 subst e1 e2;exact ⟨h1,h2⟩
theorem PcF.lenO {D:Int} {ll:List (List Int)} {N:Nat} {gs:List (List Nat)} (h:PcF D ll N gs):(pO D ll).length=N:=by unfold pO; rw [List.length_map]; exact h.ch.lenO
theorem PcF.lenR {D:Int} {ll:List (List Int)} {N:Nat} {gs:List (List Nat)} (h:PcF D ll N gs):(pR D ll).length=N:=by unfold pR; rw [List.length_map]; exact h.ch.lenR
end Go.Proofs.YthehbckogieimaaGreat

namespace Go.Proofs.YthehbckogieimaaGreat
open Go.RowKit
open Go.Proofs
open Go.Proofs.Ob
attribute [local irreducible] Go.Calls Go.wpList
theorem faF0 (b:Nat) (w:World):(Instr.fieldAt 234 (.pointer (some ⟨b,0,none⟩)) 0).run Tryz.prog w=.ok (.pointer (some ⟨b,0,none⟩)) w:=by kernel_rfl
theorem faF1 (b:Nat) (w:World):(Instr.fieldAt 234 (.pointer (some ⟨b,0,none⟩)) 1).run Tryz.prog w=.ok (.pointer (some ⟨b,2,none⟩)) w:=by kernel_rfl
theorem grF2_0 (b:Nat) (w:World):(Instr.fieldAt 24 (.pointer (some ⟨b,2,none⟩)) 0).run Tryz.prog w=.ok (.pointer (some ⟨b,2,none⟩)) w:=by kernel_rfl
theorem grF2_1 (b:Nat) (w:World):(Instr.fieldAt 24 (.pointer (some ⟨b,2,none⟩)) 1).run Tryz.prog w=.ok (.pointer (some ⟨b,3,none⟩)) w:=by kernel_rfl
theorem grF3_0 (b:Nat) (w:World):(Instr.fieldAt 24 (.pointer (some ⟨b,3,none⟩)) 0).run Tryz.prog w=.ok (.pointer (some ⟨b,3,none⟩)) w:=by kernel_rfl
theorem grF5_0 (b:Nat) (w:World):(Instr.fieldAt 24 (.pointer (some ⟨b,5,none⟩)) 0).run Tryz.prog w=.ok (.pointer (some ⟨b,5,none⟩)) w:=by kernel_rfl
theorem run_loadG3 {w:World} {b:Nat} {x y:Value} (h1:w.cell? ⟨b,3,none⟩=some x) (h2:w.cell? ⟨b,4,none⟩=some y):(loadVar 24 ⟨b,3,none⟩).run Tryz.prog w=.ok (.agg #[x,y]) w:=by
 obtain ⟨i0,hi,hz0,hz1,hz2⟩:=info_parts infoGroup
 have ha0:(⟨b,3,none⟩:Addr).add 0=⟨b,3,none⟩:=by simp [Addr.add]
 have ha1:(⟨b,3,none⟩:Addr).add 1=⟨b,4,none⟩:=by simp [Addr.add]
 have hg:(isAgg 24).run Tryz.prog w=.ok true w:=by kernel_rfl
 simp [loadVar,hg,sizeOf,typeInfo,hi,hz1,loadCells,loadCellsFrom,load,ha0,ha1];simp [Sem.run,h1,h2]
theorem run_loadG5 {w:World} {b:Nat} {x y:Value} (h1:w.cell? ⟨b,5,none⟩=some x) (h2:w.cell? ⟨b,6,none⟩=some y):(loadVar 24 ⟨b,5,none⟩).run Tryz.prog w=.ok (.agg #[x,y]) w:=by
 obtain ⟨i0,hi,hz0,hz1,hz2⟩:=info_parts infoGroup
 have ha0:(⟨b,5,none⟩:Addr).add 0=⟨b,5,none⟩:=by simp [Addr.add]
 have ha1:(⟨b,5,none⟩:Addr).add 1=⟨b,6,none⟩:=by simp [Addr.add]
 have hg:(isAgg 24).run Tryz.prog w=.ok true w:=by kernel_rfl
 simp [loadVar,hg,sizeOf,typeInfo,hi,hz1,loadCells,loadCellsFrom,load,ha0,ha1];simp [Sem.run,h1,h2]
theorem box4 (w:World) (x y z u:Value) (t:TypeId):CL (w.alloc (.cells #[x,y,z,u] t)) w.heap.size 0 x∧CL (w.alloc (.cells #[x,y,z,u] t)) w.heap.size 1 y∧CL (w.alloc (.cells #[x,y,z,u] t)) w.heap.size 2 z∧CL (w.alloc (.cells #[x,y,z,u] t)) w.heap.size 3 u :=
 ⟨⟨by rw [Rg.cellNew]; rfl,by simp⟩,⟨by rw [Rg.cellNew]; rfl,by simp⟩,⟨by rw [Rg.cellNew]; rfl,by simp⟩,⟨by rw [Rg.cellNew]; rfl,by simp⟩⟩
def mnC (n n':Nat):Int:=if n=n' then 0 else 4
theorem mnC_ne {n n':Nat} (h:n≠n'):mnC n n'=4:=if_neg h
theorem mnC_eq {n n':Nat} (h:n=n'):mnC n n'=0:=if_pos h
def DgPost (d e:Int) (w:World) (e2:Ending) (w':World):Prop:=∃ r,e2=.returned (.int .i64 r)∧((1≤d∧d≤64)→(1≤e∧e≤64)→r=if 64<d+e then 5 else 0)∧Below w.heap.size w w'
theorem many_any {d e:Int} {a a':Option Addr} {n n' c c':Nat} {w:World} :
  Calls Tryz.prog 220 #[.agg #[.int .i64 d,.slice a n c,.int .i64 e,.slice a' n' c']] w fun e2 w'=>e2=.returned (.int .i64 (mnC n n'))∧Below w.heap.size w w':=by
 have K:=ι (Below.refl w.heap.size w)
 go_enter Tryz.func220,Tryz.ntmps220
 go_upto_region 0 with (fail);refine Rg.wl ?_;have hbx:=box4 w (.int .i64 d) (.slice a n c) (.int .i64 e) (.slice a' n' c') 234;refine Rg.lr 1 (Rg.exec_box _ _ rfl rfl) ?_;go_frame;have hb:=(Below.refl w.heap.size w).alloc (Nat.le_refl _) (.cells #[.int .i64 d,.slice a n c,.int .i64 e,.slice a' n' c'] 234);generalize w.alloc (.cells #[.int .i64 d,.slice a n c,.int .i64 e,.slice a' n' c'] 234)=w1 at *;replace K:=ι (Rg.acc K.out hb);clear hb;have A0:=ι hbx.1;have A1:=ι hbx.2.1;have A2:=ι hbx.2.2.1;have A3:=ι hbx.2.2.2;clear hbx;refine Rg.la 2 (.int .i64 ((0:Nat):Int)) ?_;go_frame
 by_cases hn:n=n'
 case neg =>
  have HV:=ι (mnC_ne hn);go_upto_region 1 with (fail);refine Rg.wl ?_;refine Rg.lr 3 (exec_field _ rfl rfl (faF0 _ _)) ?_;go_frame;refine Rg.lr 4 (exec_fieldG _ rfl rfl) ?_;go_frame;refine Rg.lr 5 (Rg.exec_load (v:=.slice a n c) _ _ rfl ⟨w.heap.size,1,none⟩ rfl (Rg.run_loadSl _ _ Tryz.underlying22 A1.out.cell)) ?_;go_frame;refine Rg.lr 6 (exec_len _ _ _ rfl Tryz.underlying22 _ _ _ rfl) ?_;go_frame;refine Rg.lr 7 (exec_field _ rfl rfl (faF1 _ _)) ?_;go_frame;refine Rg.lr 8 (exec_field _ rfl rfl (grF2_1 _ _)) ?_;go_frame;refine Rg.lr 9 (Rg.exec_load (v:=.slice a' n' c') _ _ rfl ⟨w.heap.size,3,none⟩ rfl (Rg.run_loadSl _ _ Tryz.underlying22 A3.out.cell)) ?_;go_frame;refine Rg.lr 10 (exec_len _ _ _ rfl Tryz.underlying22 _ _ _ rfl) ?_;go_frame;refine Rg.lr 11 (exec_bin (R:=.bool true) .neq _ _ _ rfl rfl rfl (b_neqB _ Rg.dT)) ?_;go_frame;go_upto_region 2 with (fail);refine Rg.wl ?_;refine Rg.la 2 (.int .i64 ((4:Nat):Int)) ?_;go_frame
  go_wp2;go_ret;exact ⟨by rw [HV.out]; rfl,K.out⟩
 case pos =>
  have HV:=ι (mnC_eq hn);go_upto_region 1 with (fail);refine Rg.wl ?_;refine Rg.lr 3 (exec_field _ rfl rfl (faF0 _ _)) ?_;go_frame;refine Rg.lr 4 (exec_fieldG _ rfl rfl) ?_;go_frame;refine Rg.lr 5 (Rg.exec_load (v:=.slice a n c) _ _ rfl ⟨w.heap.size,1,none⟩ rfl (Rg.run_loadSl _ _ Tryz.underlying22 A1.out.cell)) ?_;go_frame;refine Rg.lr 6 (exec_len _ _ _ rfl Tryz.underlying22 _ _ _ rfl) ?_;go_frame;refine Rg.lr 7 (exec_field _ rfl rfl (faF1 _ _)) ?_;go_frame;refine Rg.lr 8 (exec_field _ rfl rfl (grF2_1 _ _)) ?_;go_frame;refine Rg.lr 9 (Rg.exec_load (v:=.slice a' n' c') _ _ rfl ⟨w.heap.size,3,none⟩ rfl (Rg.run_loadSl _ _ Tryz.underlying22 A3.out.cell)) ?_;go_frame;refine Rg.lr 10 (exec_len _ _ _ rfl Tryz.underlying22 _ _ _ rfl) ?_;go_frame;refine Rg.lr 11 (exec_bin (R:=.bool false) .neq _ _ _ rfl rfl rfl (b_neqB _ Rg.dF)) ?_;go_frame;go_upto_region 3 with (fail);refine Rg.wl ?_
  refine Rg.la 2 (.int .i64 ((0:Nat):Int)) ?_;go_frame;go_wp2;go_ret;exact ⟨by rw [HV.out]; rfl,K.out⟩
theorem b_addW (u v:Int):∃ r:Int,((-9223372036854775808≤u+v∧u+v≤9223372036854775807)→r=u+v)∧∀ (t:TypeId) (w:World),(binOp .add t (.int .i64 u) (.int .i64 v)).run Tryz.prog w=.ok (.int .i64 r) w :=
 ⟨IntKind.i64.wrap (u+v),fun h=>IntWalk.i64_in _ h,fun t w=>by simp [binOp,Op.intArith]⟩
theorem degrees_any {d e:Int} {a a':Option Addr} {n n' c c':Nat} {w:World} :
  Calls Tryz.prog 221 #[.agg #[.int .i64 d,.slice a n c,.int .i64 e,.slice a' n' c']] w (DgPost d e w):=by
 have K:=ι (Below.refl w.heap.size w);obtain ⟨r,hr0,hr⟩:=b_addW d e;have HR:=ι hr;have HR0:=ι hr0;clear hr hr0
 go_enter Tryz.func221,Tryz.ntmps221
 go_upto_region 0 with (fail);refine Rg.wl ?_;have hbx:=box4 w (.int .i64 d) (.slice a n c) (.int .i64 e) (.slice a' n' c') 234;refine Rg.lr 1 (Rg.exec_box _ _ rfl rfl) ?_;go_frame;have hb:=(Below.refl w.heap.size w).alloc (Nat.le_refl _) (.cells #[.int .i64 d,.slice a n c,.int .i64 e,.slice a' n' c'] 234);generalize w.alloc (.cells #[.int .i64 d,.slice a n c,.int .i64 e,.slice a' n' c'] 234)=w1 at *;replace K:=ι (Rg.acc K.out hb);clear hb;have A0:=ι hbx.1;have A1:=ι hbx.2.1;have A2:=ι hbx.2.2.1;have A3:=ι hbx.2.2.2;clear hbx;refine Rg.la 2 (.int .i64 ((0:Nat):Int)) ?_;go_frame
 by_cases hn:64<r
 case pos =>
  go_upto_region 1 with (fail);refine Rg.wl ?_;refine Rg.lr 3 (exec_field _ rfl rfl (faF0 _ _)) ?_;go_frame;refine Rg.lr 4 (exec_fieldG0 _ rfl rfl) ?_;go_frame;refine Rg.lr 5 (Rg.exec_load (v:=.int .i64 d) _ _ rfl ⟨w.heap.size,0,none⟩ rfl (run_loadInt A0.out.cell)) ?_;go_frame;refine Rg.lr 6 (exec_field _ rfl rfl (faF1 _ _)) ?_;go_frame;refine Rg.lr 7 (exec_field _ rfl rfl (grF2_0 _ _)) ?_;go_frame;refine Rg.lr 8 (Rg.exec_load (v:=.int .i64 e) _ _ rfl ⟨w.heap.size,2,none⟩ rfl (run_loadInt A2.out.cell)) ?_;go_frame;refine Rg.lr 9 (exec_bin (R:=.int .i64 r) .add _ _ _ rfl rfl rfl (HR.out _ _)) ?_;go_frame;refine Rg.lr 10 (exec_bin (R:=.bool true) .gtr _ _ _ rfl rfl rfl (b_gtr _ Rg.dT)) ?_;go_frame;go_upto_region 2 with (fail);refine Rg.wl ?_;refine Rg.la 2 (.int .i64 ((5:Nat):Int)) ?_;go_frame;go_wp2;go_ret;exact ⟨5,rfl,fun h1 h2=>by rw [if_pos (by have:=HR0.out (by omega); omega)],K.out⟩
 case neg =>
  go_upto_region 1 with (fail);refine Rg.wl ?_;refine Rg.lr 3 (exec_field _ rfl rfl (faF0 _ _)) ?_;go_frame;refine Rg.lr 4 (exec_fieldG0 _ rfl rfl) ?_;go_frame;refine Rg.lr 5 (Rg.exec_load (v:=.int .i64 d) _ _ rfl ⟨w.heap.size,0,none⟩ rfl (run_loadInt A0.out.cell)) ?_;go_frame;refine Rg.lr 6 (exec_field _ rfl rfl (faF1 _ _)) ?_;go_frame;refine Rg.lr 7 (exec_field _ rfl rfl (grF2_0 _ _)) ?_;go_frame;refine Rg.lr 8 (Rg.exec_load (v:=.int .i64 e) _ _ rfl ⟨w.heap.size,2,none⟩ rfl (run_loadInt A2.out.cell)) ?_;go_frame;refine Rg.lr 9 (exec_bin (R:=.int .i64 r) .add _ _ _ rfl rfl rfl (HR.out _ _)) ?_;go_frame;refine Rg.lr 10 (exec_bin (R:=.bool false) .gtr _ _ _ rfl rfl rfl (b_gtr _ Rg.dF)) ?_;go_frame;go_upto_region 3 with (fail);refine Rg.wl ?_;refine Rg.la 2 (.int .i64 ((0:Nat):Int)) ?_;go_frame;go_wp2;go_ret;exact ⟨0,rfl,fun h1 h2=>by rw [if_neg (by have:=HR0.out (by omega); omega)],K.out⟩

theorem infoErr:(Tryz.prog.info? 28).map (fun i=>(i.zero,i.size,i.bytes))=some (some (.int .i64 0),1,8):=by kernel_rfl
theorem slErrs:Rg.SlT Tryz.prog 287 28 (.int .i64 0) 8:=⟨Tryz.underlying287,infoErr,rfl,by decide⟩
theorem run_loadErr {w:World} {ad:Addr} {v:Value} (h:w.cell? ad=some v):(loadVar 28 ad).run Tryz.prog w=.ok v w:=by
 simp [loadVar,isAgg,run_underlying Tryz.underlying28,load];simp [Sem.run,h]
theorem run_build1p (X:World) (x:Int):(Instr.buildSlice 51 1 #[(0,.int .i64 x)]).run Tryz.prog X=.ok (.slice (some ⟨X.heap.size,0,none⟩) 1 1) (X.alloc (.cells #[.int .i64 x] 3)):=by
 obtain ⟨i0,hi,hz0,hz1,hz2⟩:=info_parts intsInfo;refine run_buildSlice X 51 3 1 _ _ i0 _ Tryz.underlying51 hi hz0 (by rw [hz1]; decide) (by rw [hz1]; decide) ?_;generalize (fun x=>((Value.int IntKind.i64 0).cells)[x % (Value.int IntKind.i64 0).cells.size]!)=f;rw [hz1];have h1:Array.range (1*1)=#[0]:=rfl;simp [Instr.fill,Value.cells,h1]
theorem run_buildE4 (X:World) (x y z u:Int):(Instr.buildSlice 287 4 #[(0,.int .i64 x),(1,.int .i64 y),(2,.int .i64 z),(3,.int .i64 u)]).run Tryz.prog X=.ok (.slice (some ⟨X.heap.size,0,none⟩) 4 4) (X.alloc (.cells #[.int .i64 x,.int .i64 y,.int .i64 z,.int .i64 u] 28)):=by
 obtain ⟨i0,hi,hz0,hz1,hz2⟩:=info_parts infoErr;refine run_buildSlice X 287 28 4 _ _ i0 _ Tryz.underlying287 hi hz0 (by rw [hz1]; decide) (by rw [hz1]; decide) ?_;generalize (fun x=>((Value.int IntKind.i64 0).cells)[x % (Value.int IntKind.i64 0).cells.size]!)=f;rw [hz1];have h1:Array.range (4*1)=#[0,1,2,3]:=rfl;simp [Instr.fill,Value.cells,h1]
def orL:List Int→Int
 | []=>0
 | x :: l=>if x≠0 then x else orL l
theorem orL_next {l:List Int} {i:Nat} (hi:i<l.length) (h:l[i]=0):orL (l.drop (i+1))=orL (l.drop i):=by
 rw [List.drop_eq_getElem_cons hi,orL,if_neg (fun e=>e h)]
theorem orL_hit {l:List Int} {i:Nat} (hi:i<l.length) (h:l[i]≠0):orL (l.drop i)=l[i]:=by
 rw [List.drop_eq_getElem_cons hi,orL,if_pos h]
theorem orL_end {l:List Int} {i:Nat} (hi:l.length≤i):orL (l.drop i)=0:=by rw [List.drop_of_length_le hi]; rfl
theorem OwI.pushP {B:Nat} {W:World} {v:Value} {l:List Int} (h:OwI B W v l) (hB:B≤W.heap.size) (x:Int) (hn:l.length<1000000) (ty:TypeId) :
  ∃ a c X,(Builtin.append_ #[51,51] ty #[v,.slice (some ⟨W.heap.size,0,none⟩) 1 1]).run Tryz.prog (W.alloc (.cells #[.int .i64 x] 3))=.ok (.slice a (l.length+1) c) X∧OwI B X (.slice a (l.length+1) c) (l++[x])∧(∀ {B':Nat} {W0:World},B'≤B→Below B' W0 W→Below B' W0 X):=by
 have hb:Below W.heap.size W (W.alloc (.cells #[.int .i64 x] 3)):=(Below.refl _ _).alloc (Nat.le_refl _) _;have hlt:=fun k e=>(h.own.lt k e).2;obtain ⟨v',X,r1,r2,r3,r4,a,c,rfl⟩:=app_run (P:=Tryz.prog) slPerm ty (Rg.row_below h.own hb) (Nat.le_trans hB hb.size) W.heap.size 1 (u:=.int .i64 x) (by rw [Rg.cellNew]; rfl) rfl hn;have hk1:Rg.Kp (fun _=>False) W (W.alloc (.cells #[.int .i64 x] 3)):=Rg.Kp.of_below hb;have hk:Rg.Kp (fun k=>v.ownBlock=some k) W X:=Rg.Kp.trans (M:=fun k=>v.ownBlock=some k) (hk1.weak fun _=>False.elim) (Rg.Kp.of_grown r3 fun _ e=>e) (fun _ _ e=>e);refine ⟨a,c,X,r1,⟨?_⟩,fun {B' W0} hB' hb0=>?_⟩
 ·rw [List.map_append,List.length_append]; exact r2
 ·refine (hb0.trans ⟨hk.os,hk.tape,hk.output,hk.size,fun k hk'=>hk.block k ?_ fun e=>?_⟩)
  ·have:=hb0.size; omega
  ·have:=(h.own.lt k e).1; omega
def OrPost (l:List Int) (w:World) (e:Ending) (w':World):Prop:=e=.returned (.int .i64 (orL l))∧Below w.heap.size w w'
theorem Or_any {v:Value} {l:List Int} {w:World} (h:Rg.Ints w v l) (hl:l.length≤1000) :
  Calls Tryz.prog 222 #[v] w (OrPost l w):=by
 obtain ⟨la,lc,rfl,-⟩:=h.shape;have HI:=ι h;have HL:=ι hl;have K:=ι (Below.refl w.heap.size w);clear h hl
 go_enter Tryz.func222,Tryz.ntmps222
 go_upto_region 0 with (fail);refine Rg.wl ?_;refine Rg.la 2 (.int .i64 ((0:Nat):Int)) ?_;go_frame;go_upto_region 1 with (fail);refine Rg.wl ?_;refine Rg.la 3 (.int .i64 0) ?_;go_frame;go_upto_region 2 with (fail);refine Rg.wl ?_;refine Rg.lm 6 (.slice la l.length lc) ?_;go_frame;refine Rg.lr 7 (exec_len _ _ _ rfl Tryz.underlying287 _ _ _ rfl) ?_;go_frame;refine Rg.lm 8 (.int .i64 ((0:Nat):Int)) ?_;go_frame;have HS:=ι (show orL (l.drop 0)=orL l by rw [List.drop_zero]);go_wp2
 go_loopw [8] (fun iv wr=>∃ i:Nat,iv=.int .i64 ((i:Nat):Int)∧i≤l.length∧Hid (orL (l.drop i)=orL l)∧Hid (Below w.heap.size w wr)) (fun iv _=>l.length - (intOf iv).toNat)
 case atStart=>exact ⟨0,rfl,Nat.zero_le _,HS,K⟩
 case round =>
  clear K HS;obtain ⟨i,rfl,hi,HS,K⟩:=hrel;generalize wr=wd at *;have hl:l.length≤1000:=HL.out
  by_cases hil:i<l.length
  case neg =>
   have HV:=ι (show orL l=0 by rw [← HS.out]; exact orL_end (by omega));go_upto_region 3 with (fail);refine Rg.wl ?_;refine Rg.lr 9 (exec_bin (R:=.bool false) .lss _ _ _ rfl rfl rfl (b_lss _ Rg.dF)) ?_;go_frame;go_upto_region 8 with (fail);refine Rg.wl ?_;refine Rg.lm 17 (.int .i64 0) ?_;go_frame;refine Rg.la 2 (.int .i64 0) ?_;go_frame;go_wp2;go_ret;exact ⟨by rw [HV.out]; rfl,K.out⟩
  case pos =>
   have HIL:=ι hil;obtain ⟨a',c',e1,-,-,-,hs⟩:=HI.out.shape
   injection e1 with e2 _ e4
   subst e2 e4;obtain ⟨b,o,rfl,hb,hc⟩:=hs (by omega);have CX:=ι ((CL.mk (hc i hil) hb).below K.out);obtain ⟨x,hx⟩:∃ x,Hid (l[i]'hil=x):=⟨_,ι rfl⟩;rw [hx.out] at CX;clear hs hb hc
   by_cases h0:x=0
   case neg =>
    have HV:=ι (show orL l=x by rw [← HS.out,orL_hit HIL.out (by rw [hx.out]; exact h0),hx.out]);go_upto_region 3 with (fail);refine Rg.wl ?_;refine Rg.lr 9 (exec_bin (R:=.bool true) .lss _ _ _ rfl rfl rfl (b_lss _ Rg.dT)) ?_;go_frame;go_upto_region 4 with (fail);refine Rg.wl ?_;refine Rg.lr 10 (exec_indexS slErrs _ _ rfl b (o) (l.length) lc (i) rfl rfl HIL.out) ?_;go_frame;refine Rg.lr 11 (Rg.exec_load (v:=.int .i64 x) _ _ rfl ⟨b,o+i,none⟩ rfl (run_loadErr CX.out.cell)) ?_;go_frame;refine Rg.la 5 (.int .i64 x) ?_;go_frame;go_upto_region 5 with (fail);refine Rg.wl ?_;refine Rg.lm 12 (.int .i64 x) ?_;go_frame;refine Rg.lm 13 (.int .i64 0) ?_;go_frame;refine Rg.lr 14 (exec_bin (R:=.bool true) .neq _ _ _ rfl rfl rfl (b_neqB _ (decide_eq_true h0))) ?_;go_frame;go_upto_region 6 with (fail);refine Rg.wl ?_;refine Rg.lm 15 (.int .i64 x) ?_;go_frame;refine Rg.la 2 (.int .i64 x) ?_;go_frame
    go_wp2;go_ret;exact ⟨by rw [HV.out]; rfl,K.out⟩
   case pos =>
    have HS2:=ι (show orL (l.drop (i+1))=orL l by rw [orL_next HIL.out (by rw [hx.out]; exact h0)]; exact HS.out);go_upto_region 3 with (fail);refine Rg.wl ?_;refine Rg.lr 9 (exec_bin (R:=.bool true) .lss _ _ _ rfl rfl rfl (b_lss _ Rg.dT)) ?_;go_frame;go_upto_region 4 with (fail);refine Rg.wl ?_;refine Rg.lr 10 (exec_indexS slErrs _ _ rfl b (o) (l.length) lc (i) rfl rfl HIL.out) ?_;go_frame;refine Rg.lr 11 (Rg.exec_load (v:=.int .i64 x) _ _ rfl ⟨b,o+i,none⟩ rfl (run_loadErr CX.out.cell)) ?_;go_frame;refine Rg.la 5 (.int .i64 x) ?_;go_frame;go_upto_region 5 with (fail);refine Rg.wl ?_;refine Rg.lm 12 (.int .i64 x) ?_;go_frame;refine Rg.lm 13 (.int .i64 0) ?_;go_frame;refine Rg.lr 14 (exec_bin (R:=.bool false) .neq _ _ _ rfl rfl rfl (b_neqB _ (decide_eq_false (fun e=>e h0)))) ?_;go_frame;go_upto_region 7 with (fail);refine Rg.wl ?_;refine Rg.lr 16 (exec_bin (R:=.int .i64 (((i+1):Nat):Int)) .add _ _ _ rfl rfl rfl (b_add _ (by omega) (by omega))) ?_;go_frame
    refine Rg.lm 8 (.int .i64 (((i+1):Nat):Int)) ?_;go_frame;go_wp2
    go_roundw
    case rel=>exact ⟨i+1,by go_num,HIL.out,HS2,K⟩
    case measure=>simp [intOf]; have:=HIL.out; omega
theorem joinI_step {x y:List Int} {i:Nat} (hi:i<y.length):joinI x (y.take (i+1))=joinI x (y.take i)++[y[i]+(x.length:Int)]:=by
 unfold joinI;rw [List.take_add_one,List.getElem?_eq_getElem hi,List.map_append,List.append_assoc];rfl
def JnPost (x y:List Int) (w:World) (e:Ending) (w':World):Prop:=∃ v,e=.returned v∧OwI w.heap.size w' v (joinI x y)∧Below w.heap.size w w'
theorem joined_any {xv yv:Value} {x y:List Int} {w:World} (hx:Rg.Ints w xv x) (hy:Rg.Ints w yv y) (h1:1≤x.length) (hxl:x.length≤64) (hyl:y.length≤64) (hyb:∀ z∈y,0≤z∧z≤64) :
  Calls Tryz.prog 223 #[xv,yv] w (JnPost x y w):=by
 obtain ⟨xa,xc,rfl,-⟩:=hx.shape;obtain ⟨ya,yc,rfl,-⟩:=hy.shape;have HX:=ι hx;have HY:=ι hy;have HYB:=ι hyb;have HXL:=ι hxl;have HYL:=ι hyl;have K:=ι (Below.refl w.heap.size w);clear hx hy hyb
 go_enter Tryz.func223,Tryz.ntmps223
 go_upto_region 0 with (fail);refine Rg.wl ?_;refine Rg.la 4 (.slice none 0 0) ?_;go_frame;go_upto_region 1 with (fail);refine Rg.wl ?_;refine Rg.lm 8 (.slice xa x.length xc) ?_;go_frame;refine Rg.lk 9 (exec_fn1 123 _ _ rfl rfl (Vzcl3 _ _)) ?_;refine (Clone_any _ x w HX.out h1 (by omega)).mono ?_;rintro e1 w1 ⟨cv,rfl,hrow,hb⟩;refine ⟨_,rfl,?_⟩;go_frame;replace HX:=ι (HX.out.below hb);replace K:=ι (Rg.acc K.out hb);clear hb;have OW:=ι (OwI.mk hrow);refine Rg.la 5 (cv) ?_;go_frame;go_upto_region 2 with (fail);refine Rg.wl ?_;refine Rg.lm 10 (.slice ya y.length yc) ?_;go_frame;refine Rg.lr 11 (exec_len _ _ _ rfl Tryz.underlying51 _ _ _ rfl) ?_;go_frame;refine Rg.lm 12 (.int .i64 ((0:Nat):Int)) ?_;go_frame;clear hrow;have OW0:=ι (show OwI w.heap.size w1 cv (joinI x (y.take 0)) by rw [List.take_zero]; unfold joinI; rw [List.map_nil,List.append_nil]; exact OW.out);obtain ⟨ca,cc,hsh⟩:=OW0.out.shape
 clear OW hsh ca cc;go_wp2
 go_loopw [5,12] (fun zv iv wr=>∃ i:Nat,iv=.int .i64 ((i:Nat):Int)∧i≤y.length∧Hid (OwI w.heap.size wr zv (joinI x (y.take i)))∧Hid (Below w.heap.size w wr)) (fun _ iv _=>y.length - (intOf iv).toNat)
 case atStart=>exact ⟨0,rfl,Nat.zero_le _,OW0,K⟩
 case round =>
  clear K OW0;obtain ⟨i,rfl,hi,OW,K⟩:=hrel;generalize wr=wd at *;obtain ⟨za,zc,rfl⟩:=OW.out.shape;have hyl:y.length≤64:=HYL.out
  by_cases hil:i<y.length
  case neg =>
   have HE:=ι (show y.take i=y from List.take_of_length_le (by omega));obtain ⟨jl,hjl⟩:∃ l,Hid (joinI x (y.take i)=l):=⟨_,ι rfl⟩;rw [hjl.out] at OW ⊢;go_upto_region 3 with (fail);refine Rg.wl ?_;refine Rg.lr 13 (exec_bin (R:=.bool false) .lss _ _ _ rfl rfl rfl (b_lss _ Rg.dF)) ?_;go_frame;go_upto_region 7 with (fail);refine Rg.wl ?_;refine Rg.lm 24 (.slice za jl.length zc) ?_;go_frame;refine Rg.la 4 (.slice za jl.length zc) ?_;go_frame;go_wp2;go_ret;exact ⟨_,rfl,by rw [HE.out] at hjl; rw [hjl.out]; exact OW.out,K.out⟩
  case pos =>
   have HIL:=ι hil;obtain ⟨a',c',e1,-,-,-,hs⟩:=HY.out.shape
   injection e1 with e2 _ e4
   subst e2 e4;obtain ⟨b,o,rfl,hb,hc⟩:=hs (by omega);obtain ⟨q,hq⟩:∃ q,Hid (y[i]'hil=q):=⟨_,ι rfl⟩;have CX:=ι (CL.mk (hc i hil) hb);rw [hq.out] at CX;have hqb:0≤q∧q≤64:=HYB.out q (by rw [← hq.out]; exact List.getElem_mem _);have hxl:x.length≤64:=HXL.out;have HJ:=ι (show joinI x (y.take (i+1))=joinI x (y.take i)++[q+(x.length:Int)] by rw [joinI_step HIL.out,hq.out]);have HJL:=ι (show (joinI x (y.take i)).length<1000000 by unfold joinI; rw [List.length_append,List.length_map,List.length_take]; omega);obtain ⟨jl,hjl⟩:∃ l,Hid (joinI x (y.take i)=l):=⟨_,ι rfl⟩;rw [hjl.out] at OW HJ HJL ⊢;clear hs hb hc;go_upto_region 3 with (fail);refine Rg.wl ?_;refine Rg.lr 13 (exec_bin (R:=.bool true) .lss _ _ _ rfl rfl rfl (b_lss _ Rg.dT)) ?_;go_frame;go_upto_region 4 with (fail);refine Rg.wl ?_;refine Rg.lr 14 (exec_indexS slPerm _ _ rfl b (o) (y.length) yc (i) rfl rfl HIL.out) ?_;go_frame
   refine Rg.lr 15 (Rg.exec_load (v:=.int .i64 q) _ _ rfl ⟨b,o+i,none⟩ rfl (run_loadInt ((Below.cell (p:=⟨b,o+i,none⟩) K.out CX.out.lt).trans CX.out.cell))) ?_;go_frame;refine Rg.la 7 (.int .i64 q) ?_;go_frame;go_upto_region 5 with (fail);refine Rg.wl ?_;refine Rg.lm 16 (.slice za jl.length zc) ?_;go_frame;refine Rg.lm 17 (.int .i64 q) ?_;go_frame;refine Rg.lm 18 (.slice xa x.length xc) ?_;go_frame;refine Rg.lr 19 (exec_len _ _ _ rfl Tryz.underlying51 _ _ _ rfl) ?_;go_frame;refine Rg.lr 20 (exec_bin (R:=.int .i64 (q+(x.length:Int))) .add _ _ _ rfl rfl rfl (b_add _ (by omega) (by omega))) ?_;go_frame;refine Rg.lr 21 (Rg.exec_buildSlice _ _ _ rfl (.int .i64 (q+(x.length:Int))) rfl (run_build1p wd _)) ?_;go_frame;obtain ⟨a9,c9,X9,r1,r2,r3⟩:=OW.out.pushP K.out.size (q+(x.length:Int)) HJL.out 51;refine Rg.lr 22 (Rg.exec_append _ _ _ rfl rfl rfl r1) ?_;go_frame
   refine Rg.la 5 (.slice a9 (jl.length+1) c9) ?_;go_frame;have OW2:=ι (show OwI w.heap.size X9 (.slice a9 (jl.length+1) c9) (joinI x (y.take (i+1))) by rw [HJ.out]; exact r2);have K2:=ι (r3 (Nat.le_refl _) K.out);clear r1 r2 r3;go_upto_region 6 with (fail);refine Rg.wl ?_;refine Rg.lr 23 (exec_bin (R:=.int .i64 (((i+1):Nat):Int)) .add _ _ _ rfl rfl rfl (b_add _ (by omega) (by omega))) ?_;go_frame;refine Rg.lm 12 (.int .i64 (((i+1):Nat):Int)) ?_;go_frame;go_wp2
   go_roundw
   case rel=>exact ⟨i+1,by go_num,HIL.out,OW2,K2⟩
   case measure=>simp [intOf]; have:=HIL.out; omega
end Go.Proofs.YthehbckogieimaaGreat

namespace Go.Proofs.YthehbckogieimaaGreat
open Go.RowKit
open Go.Proofs
open Go.Proofs.Ob
open Go.Proofs.Cm (Lv Twr trOf)
attribute [local irreducible] Go.Calls Go.wpList
theorem chMake_f (gv:Value) (d:Int) (ll:List (List Int)) (w:World) (h:Rg.Rows w gv ll) :
  Calls Tryz.prog 139 #[.int .i64 d,gv] w fun e w'=>∃ cv,e=.returned (.tuple #[cv,.int .i64 (mkchk d ll)])∧ChAnsF w.heap.size w' d ll cv (mkchk d ll)∧Below w.heap.size w w':=by
 obtain ⟨ga,gc,rfl,hcap,hbig,_,hgs⟩:=h.shape;have G0:=ι h;have HGS:=ι hgs;have K:=ι (Below.refl w.heap.size w);clear h hgs hcap
 go_enter Tryz.func139,Tryz.ntmps139
 go_upto_region 0 with (fail);refine Rg.wl ?_;have hnew:=Tri.new w (.int .i64 0) (.slice none 0 0) (.slice none 0 0);refine Rg.lr 4 (exec_allocC rfl) ?_;go_frame;have hb:=(Below.refl w.heap.size w).alloc (Nat.le_refl _) (.cells #[.int .i64 0,.slice none 0 0,.slice none 0 0] 54);generalize w.alloc (.cells #[.int .i64 0,.slice none 0 0,.slice none 0 0] 54)=w1 at *;replace G0:=ι (G0.out.below hb);replace K:=ι (Rg.acc K.out hb);clear hb;have FT:=ι hnew;refine Rg.la 5 (.int .i64 ((0:Nat):Int)) ?_;go_frame;clear hnew;have K1:=ι (Below.refl w1.heap.size w1);have KB:=K;clear K;have hlo:=FT.out.lt
 by_cases hd1:d<1
 ·have HC:=ι (show mkchk d ll=2 by unfold mkchk; rw [if_neg (by omega)])
  go_upto_region 1 with (fail);refine Rg.wl ?_;refine Rg.lm 9 (.int .i64 d) ?_;go_frame;refine Rg.lr 10 (exec_bin (R:=.bool true) .lss _ _ _ rfl rfl rfl (b_lss _ Rg.dT)) ?_;go_frame;refine Rg.lm 11 (.bool true) ?_;go_frame;refine listW_pass (some 12) (by kernel_rfl) rfl ?_;go_frame;refine listW_pass (some 13) (by kernel_rfl) rfl ?_;go_frame;refine Rg.lr 14 (exec_pickT (v:=.bool true) _ _ _ rfl rfl rfl) ?_;go_frame;have FT2:=ι (FT.out.below K1.out);have KX:=ι (KB.out.trans (K1.out.mono KB.out.size));go_upto_region 2 with (fail);refine Rg.wl ?_;refine Rg.lr 15 (exec_buildC0 rfl) ?_;go_frame;refine Rg.list_skip none rfl rfl (Rg.exec_store _ _ _ rfl _ rfl _ rfl (run_storeC _ _ _ _ _ _ _ FT2.out)) ?_;go_frame;refine Rg.la 5 (.int .i64 ((2:Nat):Int)) ?_;go_frame;have hfz:=fin_zero FT2.out KX.out (Nat.le_refl _);generalize ((w1.setCell ⟨w.heap.size,0,none⟩ (.int .i64 0)).setCell ⟨w.heap.size,1,none⟩ (.slice none 0 0)).setCell ⟨w.heap.size,2,none⟩ (.slice none 0 0)=w99 at *
  have HFI:=ι (show ∃ cv,Ending.returned (.tuple #[zeroC,.int .i64 (2)])=.returned (.tuple #[cv,.int .i64 (mkchk d ll)])∧ChAnsF w.heap.size w99 d ll cv (mkchk d ll)∧Below w.heap.size w w99 from
   ⟨_,by rw [HC.out],.inl ⟨by rw [HC.out]; decide,rfl⟩,hfz.2⟩)
  have HTT:=ι hfz.1;clear hfz;go_wp2;exact bodyPost_ret (results_cellC2 (p:=4) (u:=5) rfl _ rfl rfl HTT.out) rfl HFI.out
 by_cases hd2:64<d
 ·have HC:=ι (show mkchk d ll=2 by unfold mkchk; rw [if_neg (by omega)])
  go_upto_region 1 with (fail);refine Rg.wl ?_;refine Rg.lm 9 (.int .i64 d) ?_;go_frame;refine Rg.lr 10 (exec_bin (R:=.bool false) .lss _ _ _ rfl rfl rfl (b_lss _ Rg.dF)) ?_;go_frame;refine Rg.lm 11 (.bool false) ?_;go_frame;refine Rg.lW 12 (Rg.xm (.int .i64 d) _ rfl rfl) ?_;go_frame;refine Rg.lW 13 (exec_bin (R:=.bool true) .gtr _ _ _ rfl rfl rfl (b_gtr _ Rg.dT)) ?_;go_frame;refine Rg.lr 14 (exec_pickF (v:=.bool true) _ _ _ rfl rfl rfl) ?_;go_frame;have FT2:=ι (FT.out.below K1.out);have KX:=ι (KB.out.trans (K1.out.mono KB.out.size));go_upto_region 2 with (fail);refine Rg.wl ?_;refine Rg.lr 15 (exec_buildC0 rfl) ?_;go_frame;refine Rg.list_skip none rfl rfl (Rg.exec_store _ _ _ rfl _ rfl _ rfl (run_storeC _ _ _ _ _ _ _ FT2.out)) ?_;go_frame;refine Rg.la 5 (.int .i64 ((2:Nat):Int)) ?_;go_frame;have hfz:=fin_zero FT2.out KX.out (Nat.le_refl _);generalize ((w1.setCell ⟨w.heap.size,0,none⟩ (.int .i64 0)).setCell ⟨w.heap.size,1,none⟩ (.slice none 0 0)).setCell ⟨w.heap.size,2,none⟩ (.slice none 0 0)=w99 at *
  have HFI:=ι (show ∃ cv,Ending.returned (.tuple #[zeroC,.int .i64 (2)])=.returned (.tuple #[cv,.int .i64 (mkchk d ll)])∧ChAnsF w.heap.size w99 d ll cv (mkchk d ll)∧Below w.heap.size w w99 from
   ⟨_,by rw [HC.out],.inl ⟨by rw [HC.out]; decide,rfl⟩,hfz.2⟩)
  have HTT:=ι hfz.1;clear hfz;go_wp2;exact bodyPost_ret (results_cellC2 (p:=4) (u:=5) rfl _ rfl rfl HTT.out) rfl HFI.out
 have hd3:1≤d∧d≤64:=by omega
 go_upto_region 1 with (fail);refine Rg.wl ?_;refine Rg.lm 9 (.int .i64 d) ?_;go_frame;refine Rg.lr 10 (exec_bin (R:=.bool false) .lss _ _ _ rfl rfl rfl (b_lss _ Rg.dF)) ?_;go_frame;refine Rg.lm 11 (.bool false) ?_;go_frame;refine Rg.lW 12 (Rg.xm (.int .i64 d) _ rfl rfl) ?_;go_frame;refine Rg.lW 13 (exec_bin (R:=.bool false) .gtr _ _ _ rfl rfl rfl (b_gtr _ Rg.dF)) ?_;go_frame;refine Rg.lr 14 (exec_pickF (v:=.bool false) _ _ _ rfl rfl rfl) ?_;go_frame
 by_cases hg1:4096<ll.length
 ·have HC:=ι (show mkchk d ll=4 by unfold mkchk; rw [if_pos hd3,if_neg (by omega)])
  go_upto_region 3 with (fail);refine Rg.wl ?_;refine Rg.lm 16 (.slice ga ll.length gc) ?_;go_frame;refine Rg.lr 17 (exec_len _ _ _ rfl Tryz.underlying22 _ _ _ rfl) ?_;go_frame;refine Rg.lr 18 (exec_bin (R:=.bool true) .gtr _ _ _ rfl rfl rfl (b_gtr _ Rg.dT)) ?_;go_frame;have FT2:=ι (FT.out.below K1.out);have KX:=ι (KB.out.trans (K1.out.mono KB.out.size));go_upto_region 4 with (fail);refine Rg.wl ?_;refine Rg.lr 19 (exec_buildC0 rfl) ?_;go_frame;refine Rg.list_skip none rfl rfl (Rg.exec_store _ _ _ rfl _ rfl _ rfl (run_storeC _ _ _ _ _ _ _ FT2.out)) ?_;go_frame;refine Rg.la 5 (.int .i64 ((4:Nat):Int)) ?_;go_frame;have hfz:=fin_zero FT2.out KX.out (Nat.le_refl _);generalize ((w1.setCell ⟨w.heap.size,0,none⟩ (.int .i64 0)).setCell ⟨w.heap.size,1,none⟩ (.slice none 0 0)).setCell ⟨w.heap.size,2,none⟩ (.slice none 0 0)=w99 at *
  have HFI:=ι (show ∃ cv,Ending.returned (.tuple #[zeroC,.int .i64 (4)])=.returned (.tuple #[cv,.int .i64 (mkchk d ll)])∧ChAnsF w.heap.size w99 d ll cv (mkchk d ll)∧Below w.heap.size w w99 from
   ⟨_,by rw [HC.out],.inl ⟨by rw [HC.out]; decide,rfl⟩,hfz.2⟩)
  have HTT:=ι hfz.1;clear hfz;go_wp2;exact bodyPost_ret (results_cellC2 (p:=4) (u:=5) rfl _ rfl rfl HTT.out) rfl HFI.out
 have HC0:=ι (show mkchk d ll=Ma.gck d ll by unfold mkchk; rw [if_pos hd3,if_pos (by omega)]);have HG0:=ι (show Ma.gck d (ll.drop 0)=Ma.gck d ll by rw [List.drop_zero]);go_upto_region 3 with (fail);refine Rg.wl ?_;refine Rg.lm 16 (.slice ga ll.length gc) ?_;go_frame;refine Rg.lr 17 (exec_len _ _ _ rfl Tryz.underlying22 _ _ _ rfl) ?_;go_frame;refine Rg.lr 18 (exec_bin (R:=.bool false) .gtr _ _ _ rfl rfl rfl (b_gtr _ Rg.dF)) ?_;go_frame;go_wp2
 go_loopw [22] (fun kv wr=>∃ k:Nat,kv=.int .i64 k∧k≤ll.length∧Hid (Below w1.heap.size w1 wr)∧Hid (Ma.gck d (ll.drop k)=Ma.gck d ll)) (fun kv _=>ll.length - (intOf kv).toNat)
 case atStart=>exact ⟨0,rfl,Nat.zero_le _,K1,HG0⟩
 case round =>
  clear K1 HG0;obtain ⟨k,rfl,hk,K1,HG0⟩:=hrel
  by_cases hkl:k<ll.length
  ·have hkN:(k:Int)<(ll.length:Int):=by omega
   have hgs:=HGS.out;obtain ⟨gb,go,rfl,hgb,hgk⟩:=hgs (by omega);obtain ⟨u,hcu,hxu⟩:=hgk k hkl;obtain ⟨x,hx⟩:∃ x,Hid (ll[k]=x):=⟨_,ι rfl⟩;rw [hx.out] at hxu;have CU:=ι (CL.mk ((KB.out.cell (p:=⟨gb,go+k,none⟩) hgb).trans hcu) (Nat.lt_of_lt_of_le hgb KB.out.size));have XU:=ι (Rg.Ints.below hxu KB.out);obtain ⟨xa,xc,rfl,_⟩:=hxu.shape;have HKL:=ι hkl;have hxl:=XU.out.len;have HXL:=ι (show x.length≤1000000000 by obtain ⟨n,a,c,e,_,e2⟩:=hxl; omega);clear hgs hgk hcu hxu hxl hgb;go_upto_region 7 with (fail);refine Rg.wl ?_;refine Rg.lr 24 (exec_indexS slPerms _ _ rfl gb (go) (ll.length) gc (k) rfl rfl HKL.out) ?_;go_frame;refine Rg.lr 25 (Rg.exec_load (v:=.slice xa x.length xc) _ _ rfl ⟨gb,go+k,none⟩ rfl (Rg.run_loadSl _ _ Tryz.underlying51 ((Below.cell (p:=⟨gb,go+k,none⟩) K1.out CU.out.lt).trans CU.out.cell))) ?_;go_frame;refine Rg.la 7 (.slice xa x.length xc) ?_;go_frame
   go_upto_region 8 with (fail);refine Rg.wl ?_;refine Rg.lm 26 (.slice xa x.length xc) ?_;go_frame;refine Rg.lk 27 (exec_fn1 115 _ _ rfl rfl (Wvcl1 _ _)) ?_;refine (permCheck_any _ _ wr (XU.out.below K1.out)).mono ?_;rintro e1 w11 ⟨rfl,hb⟩;refine ⟨_,rfl,?_⟩;go_frame;replace K1:=ι (Rg.acc K1.out hb);clear hb;refine Rg.la 8 (.int .i64 (Ma.pchk x)) ?_;go_frame
   by_cases hp0:Ma.pchk x=0
   ·by_cases hxd:(x.length:Int)=d
    ·skip
     go_upto_region 9 with (fail);refine Rg.wl ?_;refine Rg.lm 28 (.int .i64 (Ma.pchk x)) ?_;go_frame;refine Rg.lr 29 (exec_bin (R:=.bool false) .neq _ _ _ rfl rfl rfl (b_neqB _ Rg.dF)) ?_;go_frame;go_upto_region 11 with (fail);refine Rg.wl ?_;refine Rg.lm 32 (.slice xa x.length xc) ?_;go_frame;refine Rg.lr 33 (exec_len _ _ _ rfl Tryz.underlying51 _ _ _ rfl) ?_;go_frame;refine Rg.lm 34 (.int .i64 d) ?_;go_frame;refine Rg.lr 35 (exec_bin (R:=.bool false) .neq _ _ _ rfl rfl rfl (b_neqB _ Rg.dF)) ?_;go_frame;have HG1:=ι (show Ma.gck d (ll.drop (k+1))=Ma.gck d ll by rw [← Ma.gck_next HKL.out (by rw [hx.out]; exact hp0) (by rw [hx.out]; exact hxd)]; exact HG0.out);go_wp2
     go_roundw
     case rel=>exact ⟨k+1,by go_num,HKL.out,K1,HG1⟩
     case measure=>simp [intOf]; have:=HKL.out; omega
    ·have HC:=ι (show mkchk d ll=10 by rw [HC0.out,← HG0.out]; exact Ma.gck_len HKL.out (by rw [hx.out]; exact hp0) (by rw [hx.out]; exact hxd))
     go_upto_region 9 with (fail);refine Rg.wl ?_;refine Rg.lm 28 (.int .i64 (Ma.pchk x)) ?_;go_frame;refine Rg.lr 29 (exec_bin (R:=.bool false) .neq _ _ _ rfl rfl rfl (b_neqB _ Rg.dF)) ?_;go_frame;go_upto_region 11 with (fail);refine Rg.wl ?_;refine Rg.lm 32 (.slice xa x.length xc) ?_;go_frame;refine Rg.lr 33 (exec_len _ _ _ rfl Tryz.underlying51 _ _ _ rfl) ?_;go_frame;refine Rg.lm 34 (.int .i64 d) ?_;go_frame;refine Rg.lr 35 (exec_bin (R:=.bool true) .neq _ _ _ rfl rfl rfl (b_neqB _ Rg.dT)) ?_;go_frame;have FT2:=ι (FT.out.below K1.out);have KX:=ι (KB.out.trans (K1.out.mono KB.out.size));go_upto_region 12 with (fail);refine Rg.wl ?_;refine Rg.lr 36 (exec_buildC0 rfl) ?_;go_frame;refine Rg.list_skip none rfl rfl (Rg.exec_store _ _ _ rfl _ rfl _ rfl (run_storeC _ _ _ _ _ _ _ FT2.out)) ?_;go_frame;refine Rg.la 5 (.int .i64 ((10:Nat):Int)) ?_;go_frame;have hfz:=fin_zero FT2.out KX.out (Nat.le_refl _)
     generalize ((w11.setCell ⟨w.heap.size,0,none⟩ (.int .i64 0)).setCell ⟨w.heap.size,1,none⟩ (.slice none 0 0)).setCell ⟨w.heap.size,2,none⟩ (.slice none 0 0)=w99 at *
     have HFI:=ι (show ∃ cv,Ending.returned (.tuple #[zeroC,.int .i64 (10)])=.returned (.tuple #[cv,.int .i64 (mkchk d ll)])∧ChAnsF w.heap.size w99 d ll cv (mkchk d ll)∧Below w.heap.size w w99 from
      ⟨_,by rw [HC.out],.inl ⟨by rw [HC.out]; decide,rfl⟩,hfz.2⟩)
     have HTT:=ι hfz.1;clear hfz;go_wp2;exact bodyPost_ret (results_cellC2 (p:=4) (u:=5) rfl _ rfl rfl HTT.out) rfl HFI.out
   ·have HC:=ι (show mkchk d ll=Ma.pchk x by rw [HC0.out,← HG0.out,Ma.gck_bad HKL.out (by rw [hx.out]; exact hp0),hx.out])
    go_upto_region 9 with (fail);refine Rg.wl ?_;refine Rg.lm 28 (.int .i64 (Ma.pchk x)) ?_;go_frame;refine Rg.lr 29 (exec_bin (R:=.bool true) .neq _ _ _ rfl rfl rfl (b_neqB _ Rg.dT)) ?_;go_frame;have FT2:=ι (FT.out.below K1.out);have KX:=ι (KB.out.trans (K1.out.mono KB.out.size));go_upto_region 10 with (fail);refine Rg.wl ?_;refine Rg.lr 30 (exec_buildC0 rfl) ?_;go_frame;refine Rg.lm 31 (.int .i64 (Ma.pchk x)) ?_;go_frame;refine Rg.list_skip none rfl rfl (Rg.exec_store _ _ _ rfl _ rfl _ rfl (run_storeC _ _ _ _ _ _ _ FT2.out)) ?_;go_frame;refine Rg.la 5 (.int .i64 (Ma.pchk x)) ?_;go_frame;have hfz:=fin_zero FT2.out KX.out (Nat.le_refl _);generalize ((w11.setCell ⟨w.heap.size,0,none⟩ (.int .i64 0)).setCell ⟨w.heap.size,1,none⟩ (.slice none 0 0)).setCell ⟨w.heap.size,2,none⟩ (.slice none 0 0)=w99 at *
    have HFI:=ι (show ∃ cv,Ending.returned (.tuple #[zeroC,.int .i64 (Ma.pchk x)])=.returned (.tuple #[cv,.int .i64 (mkchk d ll)])∧ChAnsF w.heap.size w99 d ll cv (mkchk d ll)∧Below w.heap.size w w99 from
     ⟨_,by rw [HC.out],.inl ⟨by rw [HC.out]; exact hp0,rfl⟩,hfz.2⟩)
    have HTT:=ι hfz.1;clear hfz;go_wp2;exact bodyPost_ret (results_cellC2 (p:=4) (u:=5) rfl _ rfl rfl HTT.out) rfl HFI.out
  ·obtain rfl:k=ll.length:=by omega
   have hkN:¬ (ll.length:Int)<(ll.length:Int):=by omega
   have hz:=HG0.out;rw [Ma.gck_end (Nat.le_refl _)] at hz;obtain ⟨n,gs,hdn,hll,hgd,hn1,hn2,hgl⟩:=mk_ok hd3.1 hd3.2 hz.symm;have HLL:=ι hll;have HGL:=ι hgl;have HGD:=ι hgd;have HC:=ι (show mkchk d ll=0 by rw [HC0.out]; exact hz.symm);subst hdn;have FT2:=ι (FT.out.below K1.out);have KX:=ι (KB.out.trans (K1.out.mono KB.out.size));have GR:=ι (Rg.Rows.below G0.out K1.out);clear hll hgl hgd hz;go_upto_region 14 with (fail);refine Rg.wl ?_;refine Rg.lm 38 (.int .i64 ((n:Nat):Int)) ?_;go_frame;refine Rg.lm 39 (.slice ga ll.length gc) ?_;go_frame;have HWB:=ι FT2.out.lt;refine Rg.lk 40 (exec_fn 117 _ _ _ rfl rfl rfl (Wvcl2 _ _)) ?_;refine (build_b hn1 hn2 (by have:=GR.out; rw [show gs.map Ma.ofN=ll from HLL.out.symm]; exact this) HGD.out (by have:=HGL.out; omega)).mono ?_;rintro e1 w61 ⟨tb,L,F1,T1,V1,rfl,hT1,hc01,hc11,hB1,hb⟩;have HB:=ι hB1;have HWC:=ι (Nat.lt_of_lt_of_le HWB.out hb.size)
   refine ⟨_,rfl,?_⟩;go_frame;replace FT2:=ι (FT2.out.below hb);replace GR:=ι (GR.out.below hb);replace KX:=ι (Rg.acc KX.out hb);clear hb;have HT:=ι hT1;have C0:=ι hc01;have C1:=ι hc11;clear hT1 hc01 hc11 hB1;refine Rg.lk 41 (exec_fn1 118 _ _ rfl rfl (Wvcl3 _ _)) ?_;refine (chain_any hn1 hn2 HT.out C0.out C1.out (Cm.Gr.isG HGD.out) (HB.out.isTr (by omega) HGD.out) (fun j hj=>(HB.out.full j hj).1)).mono ?_;rintro e1 w62 ⟨ov,rv,O,R,rfl,hO,hR,hCh,hb⟩;obtain ⟨oa,oc,rfl,_⟩:=hO.rows.shape;obtain ⟨ra,rc,rfl⟩:=hR.rows.shape;have HO:=ι hO;have HR:=ι hR;have HCH:=ι hCh;clear hO hR hCh;refine ⟨_,rfl,?_⟩;go_frame;replace FT2:=ι (FT2.out.below hb);replace GR:=ι (GR.out.below hb);replace HT:=ι (HT.out.below hb);replace C0:=ι (C0.out.below hb);replace C1:=ι (C1.out.below hb);replace KX:=ι (Rg.acc KX.out hb);clear hb;refine Rg.list_skip none rfl rfl (Rg.exec_store _ _ _ rfl _ rfl _ rfl (run_storeC _ _ _ _ _ _ _ FT2.out)) ?_;go_frame
   refine Rg.la 5 (.int .i64 ((0:Nat):Int)) ?_;go_frame;have htt:=FT2.out.set (.int .i64 ((n:Nat):Int)) (.slice oa (O.map Ma.ofN).length oc) (.slice ra (R.map (List.map Ma.ofN)).length rc);have hkt:=Rg.Kp.trans (Rg.Kp.trans (Rg.Kp.of_setCell (M:=fun z=>z=w.heap.size) (w:=w62) (a:=⟨w.heap.size,0,none⟩) (v:=.int .i64 ((n:Nat):Int)) rfl) (Rg.Kp.of_setCell (M:=fun z=>z=w.heap.size) (a:=⟨w.heap.size,1,none⟩) (v:=(.slice oa (O.map Ma.ofN).length oc)) rfl) (fun _ _ e=>e)) (Rg.Kp.of_setCell (M:=fun z=>z=w.heap.size) (a:=⟨w.heap.size,2,none⟩) (v:=(.slice ra (R.map (List.map Ma.ofN)).length rc)) rfl) (fun _ _ e=>e);have hro:=FRows.mono (F':=fun z=>w.heap.size≤z) (FRows.kp HO.out hkt (fun z g e=>by have:=HWC.out; omega)) (fun z hz=>by have:=HWC.out; omega);have hrr:=FRows2.mono (F':=fun z=>w.heap.size≤z) (HR.out.kp hkt (fun z g e=>by have:=HWC.out; omega)) (fun z hz=>by have:=HWC.out; omega)
   have hkf:=((KX.out.setCell (p:=⟨w.heap.size,0,none⟩) (Nat.le_refl _) (.int .i64 ((n:Nat):Int))).setCell (p:=⟨w.heap.size,1,none⟩) (Nat.le_refl _) (.slice oa (O.map Ma.ofN).length oc)).setCell (p:=⟨w.heap.size,2,none⟩) (Nat.le_refl _) (.slice ra (R.map (List.map Ma.ofN)).length rc);generalize ((w62.setCell ⟨w.heap.size,0,none⟩ (.int .i64 ((n:Nat):Int))).setCell ⟨w.heap.size,1,none⟩ (.slice oa (O.map Ma.ofN).length oc)).setCell ⟨w.heap.size,2,none⟩ (.slice ra (R.map (List.map Ma.ofN)).length rc)=w99 at *;have HTT:=ι htt
   have HFI:=ι (show ∃ cv,Ending.returned (.tuple #[.agg #[.int .i64 ((n:Nat):Int),(.slice oa (O.map Ma.ofN).length oc),(.slice ra (R.map (List.map Ma.ofN)).length rc)],.int .i64 0])=.returned (.tuple #[cv,.int .i64 (mkchk ((n:Nat):Int) ll)])∧ChAnsF w.heap.size w99 ((n:Nat):Int) ll cv (mkchk ((n:Nat):Int) ll)∧Below w.heap.size w w99 from
    ⟨_,by rw [HC.out],.inr ⟨HC.out,n,gs,rfl,HLL.out,hn1,hn2,_,_,O,R,rfl,hro,hrr,HCH.out⟩,hkf⟩)
   clear htt hkt hro hrr hkf;go_wp2;exact bodyPost_ret (results_cellC2 (p:=4) (u:=5) rfl _ rfl rfl HTT.out) rfl HFI.out
end Go.Proofs.YthehbckogieimaaGreat

namespace Go.Proofs.YthehbckogieimaaGreat
open Go.RowKit
open Go.Proofs
open Go.Proofs.Ob
attribute [local irreducible] Go.Calls Go.wpList
theorem Ktcl0 (args:Array Value) (w:World):(callFunc 220 args).run Tryz.prog w=.ok (.enter 220 args) w:=by kernel_rfl
theorem Ktcl1 (args:Array Value) (w:World):(callFunc 221 args).run Tryz.prog w=.ok (.enter 221 args) w:=by kernel_rfl
theorem Ktcl2 (args:Array Value) (w:World):(callFunc 85 args).run Tryz.prog w=.ok (.enter 85 args) w:=by kernel_rfl
theorem Ktcl3 (args:Array Value) (w:World):(callFunc 222 args).run Tryz.prog w=.ok (.enter 222 args) w:=by kernel_rfl
theorem Ktcl4 (args:Array Value) (w:World):(callFunc 223 args).run Tryz.prog w=.ok (.enter 223 args) w:=by kernel_rfl
theorem Ktcl5 (args:Array Value) (w:World):(callFunc 139 args).run Tryz.prog w=.ok (.enter 139 args) w:=by kernel_rfl
theorem infoFa:(Tryz.prog.info? 234).map (fun i=>(i.zero,i.size,i.bytes))=some (some (.agg #[.int .i64 0,.slice none 0 0,.int .i64 0,.slice none 0 0]),4,64):=by kernel_rfl
structure Qd (w:World) (b:Nat) (x y z u:Value):Prop where
 c0:w.cell? ⟨b,0,none⟩=some x
 c1:w.cell? ⟨b,1,none⟩=some y
 c2:w.cell? ⟨b,2,none⟩=some z
 c3:w.cell? ⟨b,3,none⟩=some u
 f0:w.frozen? ⟨b,0,none⟩=false
 f1:w.frozen? ⟨b,1,none⟩=false
 f2:w.frozen? ⟨b,2,none⟩=false
 f3:w.frozen? ⟨b,3,none⟩=false
 lt:b<w.heap.size
theorem Qd.below {w w':World} {b:Nat} {x y z u:Value} (h:Qd w b x y z u) (hb:Below w.heap.size w w'):Qd w' b x y z u :=
 ⟨(hb.cell (p:=⟨b,0,none⟩) h.lt).trans h.c0,(hb.cell (p:=⟨b,1,none⟩) h.lt).trans h.c1,(hb.cell (p:=⟨b,2,none⟩) h.lt).trans h.c2,(hb.cell (p:=⟨b,3,none⟩) h.lt).trans h.c3,(hb.frozen (p:=⟨b,0,none⟩) h.lt).trans h.f0,(hb.frozen (p:=⟨b,1,none⟩) h.lt).trans h.f1,(hb.frozen (p:=⟨b,2,none⟩) h.lt).trans h.f2,(hb.frozen (p:=⟨b,3,none⟩) h.lt).trans h.f3,Nat.lt_of_lt_of_le h.lt hb.size⟩
theorem Qd.new (w:World) (x y z u:Value) (t:TypeId):Qd (w.alloc (.cells #[x,y,z,u] t)) w.heap.size x y z u :=
 ⟨by rw [Rg.cellNew]; rfl,by rw [Rg.cellNew]; rfl,by rw [Rg.cellNew]; rfl,by rw [Rg.cellNew]; rfl,frozenNewN _ _ _ 0 _,frozenNewN _ _ _ 0 _,frozenNewN _ _ _ 0 _,frozenNewN _ _ _ 0 _,by simp⟩
theorem Qd.set {w:World} {b:Nat} {u1 u2 u3 u4:Value} (h:Qd w b u1 u2 u3 u4) (x y z u:Value):Qd ((((w.setCell ⟨b,0,none⟩ x).setCell ⟨b,1,none⟩ y).setCell ⟨b,2,none⟩ z).setCell ⟨b,3,none⟩ u) b x y z u:=by
 have ne:∀ {w:World} {i j:Nat} {v:Value},i≠j→(w.setCell ⟨b,i,none⟩ v).cell? ⟨b,j,none⟩=w.cell? ⟨b,j,none⟩:=fun hij=>by
  rw [World.cell?_setCell_other (h:=by intro e; injection e with e1 e2; first | exact hij e2 | exact hij e2.symm) ..]
 have s0:(w.setCell ⟨b,0,none⟩ x).cell? ⟨b,0,none⟩=some x:=World.cell?_setCell_same (h:=h.c0) ..;have s1:((w.setCell ⟨b,0,none⟩ x).setCell ⟨b,1,none⟩ y).cell? ⟨b,1,none⟩=some y:=World.cell?_setCell_same (h:=(ne (by decide)).trans h.c1) ..;have s2:(((w.setCell ⟨b,0,none⟩ x).setCell ⟨b,1,none⟩ y).setCell ⟨b,2,none⟩ z).cell? ⟨b,2,none⟩=some z:=World.cell?_setCell_same (h:=(ne (by decide)).trans ((ne (by decide)).trans h.c2)) ..;have s3:((((w.setCell ⟨b,0,none⟩ x).setCell ⟨b,1,none⟩ y).setCell ⟨b,2,none⟩ z).setCell ⟨b,3,none⟩ u).cell? ⟨b,3,none⟩=some u:=World.cell?_setCell_same (h:=(ne (by decide)).trans ((ne (by decide)).trans ((ne (by decide)).trans h.c3))) ..;refine ⟨(ne (by decide)).trans ((ne (by decide)).trans ((ne (by decide)).trans s0)),(ne (by decide)).trans ((ne (by decide)).trans s1),(ne (by decide)).trans s2,s3,?_,?_,?_,?_,by simpa using h.lt⟩
 ·rw [World.frozen?_setCell,World.frozen?_setCell,World.frozen?_setCell,World.frozen?_setCell]; exact h.f0
 ·rw [World.frozen?_setCell,World.frozen?_setCell,World.frozen?_setCell,World.frozen?_setCell]; exact h.f1
 ·rw [World.frozen?_setCell,World.frozen?_setCell,World.frozen?_setCell,World.frozen?_setCell]; exact h.f2
 ·rw [World.frozen?_setCell,World.frozen?_setCell,World.frozen?_setCell,World.frozen?_setCell]; exact h.f3
theorem run_storeFa {w:World} {b:Nat} {u1 u2 u3 u4:Value} (d e:Int) (a a':Option Addr) (n c n' c':Nat) (h:Qd w b u1 u2 u3 u4) :
  (storeVar 234 ⟨b,0,none⟩ (.agg #[.int .i64 d,.slice a n c,.int .i64 e,.slice a' n' c'])).run Tryz.prog w=.ok () ((((w.setCell ⟨b,0,none⟩ (.int .i64 d)).setCell ⟨b,1,none⟩ (.slice a n c)).setCell ⟨b,2,none⟩ (.int .i64 e)).setCell ⟨b,3,none⟩ (.slice a' n' c')):=by
 obtain ⟨i0,hi,hz0,hz1,hz2⟩:=info_parts infoFa
 have ne:∀ {w:World} {i j:Nat} {v:Value},i≠j→(w.setCell ⟨b,i,none⟩ v).cell? ⟨b,j,none⟩=w.cell? ⟨b,j,none⟩:=fun hij=>by
  rw [World.cell?_setCell_other (h:=by intro e; injection e with e1 e2; first | exact hij e2 | exact hij e2.symm) ..]
 have g1:(w.setCell ⟨b,0,none⟩ (.int .i64 d)).cell? ⟨b,1,none⟩=some u2:=(ne (by decide)).trans h.c1;have g2:((w.setCell ⟨b,0,none⟩ (.int .i64 d)).setCell ⟨b,1,none⟩ (.slice a n c)).cell? ⟨b,2,none⟩=some u3:=(ne (by decide)).trans ((ne (by decide)).trans h.c2);have g3:(((w.setCell ⟨b,0,none⟩ (.int .i64 d)).setCell ⟨b,1,none⟩ (.slice a n c)).setCell ⟨b,2,none⟩ (.int .i64 e)).cell? ⟨b,3,none⟩=some u4:=(ne (by decide)).trans ((ne (by decide)).trans ((ne (by decide)).trans h.c3))
 have k1:(w.setCell ⟨b,0,none⟩ (.int .i64 d)).frozen? ⟨b,1,none⟩=false:=by rw [World.frozen?_setCell]; exact h.f1
 have k2:((w.setCell ⟨b,0,none⟩ (.int .i64 d)).setCell ⟨b,1,none⟩ (.slice a n c)).frozen? ⟨b,2,none⟩=false:=by rw [World.frozen?_setCell,World.frozen?_setCell]; exact h.f2
 have k3:(((w.setCell ⟨b,0,none⟩ (.int .i64 d)).setCell ⟨b,1,none⟩ (.slice a n c)).setCell ⟨b,2,none⟩ (.int .i64 e)).frozen? ⟨b,3,none⟩=false:=by rw [World.frozen?_setCell,World.frozen?_setCell,World.frozen?_setCell]; exact h.f3
 have ha0:(⟨b,0,none⟩:Addr).add 0=⟨b,0,none⟩:=by simp [Addr.add]
 have ha1:(⟨b,0,none⟩:Addr).add 1=⟨b,1,none⟩:=by simp [Addr.add]
 have ha2:(⟨b,0,none⟩:Addr).add 2=⟨b,2,none⟩:=by simp [Addr.add]
 have ha3:(⟨b,0,none⟩:Addr).add 3=⟨b,3,none⟩:=by simp [Addr.add]
 simp [storeVar,sizeOf,typeInfo,hi,hz1,Value.cells,storeCells,store,ha0,ha1,ha2,ha3];simp [Sem.run,h.c0,h.f0,g1,k1,g2,k2,g3,k3]
theorem run_loadFa {w:World} {b:Nat} {x y z u:Value} (h0:w.cell? ⟨b,0,none⟩=some x) (h1:w.cell? ⟨b,1,none⟩=some y) (h2:w.cell? ⟨b,2,none⟩=some z) (h3:w.cell? ⟨b,3,none⟩=some u):(loadVar 234 ⟨b,0,none⟩).run Tryz.prog w=.ok (.agg #[x,y,z,u]) w:=by
 obtain ⟨i0,hi,hz0,hz1,hz2⟩:=info_parts infoFa
 have ha0:(⟨b,0,none⟩:Addr).add 0=⟨b,0,none⟩:=by simp [Addr.add]
 have ha1:(⟨b,0,none⟩:Addr).add 1=⟨b,1,none⟩:=by simp [Addr.add]
 have ha2:(⟨b,0,none⟩:Addr).add 2=⟨b,2,none⟩:=by simp [Addr.add]
 have ha3:(⟨b,0,none⟩:Addr).add 3=⟨b,3,none⟩:=by simp [Addr.add]
 have hg:(isAgg 234).run Tryz.prog w=.ok true w:=by kernel_rfl
 simp [loadVar,hg,sizeOf,typeInfo,hi,hz1,loadCells,loadCellsFrom,load,ha0,ha1,ha2,ha3];simp [Sem.run,h0,h1,h2,h3]
theorem exec_allocFa {o:Oper} {a:Act} {w:World} (ho:o.op=.alloc 234):(execOp a.eval o).run Tryz.prog w=.ok (.value (.pointer (some ⟨w.heap.size,0,none⟩))) (w.alloc (.cells #[.int .i64 0,.slice none 0 0,.int .i64 0,.slice none 0 0] 234)):=by
 obtain ⟨i0,hi,hz0,hz1,hz2⟩:=info_parts infoFa;unfold execOp;simp [ho,Instr.alloc,typeInfo,zeroValue,hi,hz0,newVar,Value.cells,Result.andThen];rfl
theorem exec_buildFa {o:Oper} {ac:Act} {w:World} {d e:Int} {a a':Option Addr} {n c n' c':Nat} (x y:Operand) (ho:o.op=.build 234 #[(0,x),(1,y)]) (hx:ac.eval x=.agg #[.int .i64 d,.slice a n c]) (hy:ac.eval y=.agg #[.int .i64 e,.slice a' n' c']) :
  (execOp ac.eval o).run Tryz.prog w=.ok (.value (.agg #[.int .i64 d,.slice a n c,.int .i64 e,.slice a' n' c'])) w:=by
 unfold execOp;simp only [ho,Sem.run_bind,Sem.run_pure];simp only [List.map_toArray,List.map_cons,List.map_nil,hx,hy]
 have h:(Instr.build 234 #[(0,.agg #[.int .i64 d,.slice a n c]),(1,.agg #[.int .i64 e,.slice a' n' c'])]).run Tryz.prog w=.ok (.agg #[.int .i64 d,.slice a n c,.int .i64 e,.slice a' n' c']) w:=by kernel_rfl
 first | (simp [h,Result.andThen]) | (rw [h]; rfl) | (erw [h]; rfl)
theorem exec_buildPr {o:Oper} {ac:Act} {w:World} {d e:Int} {a a':Option Addr} {n c n' c':Nat} (x y:Operand) (ho:o.op=.build 217 #[(1,x),(2,y)]) (hx:ac.eval x=.agg #[.int .i64 d,.slice a n c]) (hy:ac.eval y=.agg #[.int .i64 e,.slice a' n' c']) :
  (execOp ac.eval o).run Tryz.prog w=.ok (.value (.agg #[.int .i64 0,.slice none 0 0,.slice none 0 0,.int .i64 d,.slice a n c,.int .i64 e,.slice a' n' c'])) w:=by
 unfold execOp;simp only [ho,Sem.run_bind,Sem.run_pure];simp only [List.map_toArray,List.map_cons,List.map_nil,hx,hy]
 have h:(Instr.build 217 #[(1,.agg #[.int .i64 d,.slice a n c]),(2,.agg #[.int .i64 e,.slice a' n' c'])]).run Tryz.prog w=.ok (.agg #[.int .i64 0,.slice none 0 0,.slice none 0 0,.int .i64 d,.slice a n c,.int .i64 e,.slice a' n' c']) w:=by kernel_rfl
 first | (simp [h,Result.andThen]) | (rw [h]; rfl) | (erw [h]; rfl)
theorem exec_makeFuncB {o:Oper} {a:Act} {w:World} (F:FuncId) (x:Operand) (ho:o.op=.makeFunc (.func F) #[x] #[]) {v:Value} (hx:a.eval x=v):(execOp a.eval o).run Tryz.prog w=.ok (.value (.func (.func F) #[v] #[])) w:=by
 unfold execOp;simp [ho,hx,Instr.makeFunc]
theorem exec_fnB {o:Oper} {a:Act} {w:World} (F:FuncId) (x:Operand) (tys:Array TypeId) (ho:o.op=.call { callee:=.value x,args:=#[],argTypes:=tys }) {v:Value} (hx:a.eval x=.func (.func F) #[v] #[])
  (hF:(callFunc F #[v]).run Tryz.prog w=.ok (.enter F #[v]) w):(execOp a.eval o).run Tryz.prog w=.ok (.enter F #[v]) w:=by
 unfold execOp;simp [ho,hx,resolve,invoke,Deferred.ofValue,hF]
theorem exec_buildE4 {o:Oper} {a:Act} {w:World} {x y z u:Int} (p q r s:Operand) (ho:o.op=.buildSlice 287 4 #[(0,p),(1,q),(2,r),(3,s)]) (hp:a.eval p=.int .i64 x) (hq:a.eval q=.int .i64 y) (hr:a.eval r=.int .i64 z) (hs:a.eval s=.int .i64 u) :
  (execOp a.eval o).run Tryz.prog w=.ok (.value (.slice (some ⟨w.heap.size,0,none⟩) 4 4)) (w.alloc (.cells #[.int .i64 x,.int .i64 y,.int .i64 z,.int .i64 u] 28)):=by
 unfold execOp;simp only [ho,Sem.run_bind,Sem.run_pure];simp only [List.map_toArray,List.map_cons,List.map_nil,hp,hq,hr,hs];have h:=run_buildE4 w x y z u
 first | (simp [h,Result.andThen]) | (rw [h]; rfl) | (erw [h]; rfl)
theorem box2t (w:World) (x y:Value) (t:TypeId):CL (w.alloc (.cells #[x,y] t)) w.heap.size 0 x∧CL (w.alloc (.cells #[x,y] t)) w.heap.size 1 y :=
 ⟨⟨by rw [Rg.cellNew]; rfl,by simp⟩,⟨by rw [Rg.cellNew]; rfl,by simp⟩⟩
theorem or_hom {d e:Int} {L M:List (List Int)} {r:Int} (hr:(1≤d∧d≤64)→(1≤e∧e≤64)→r=if 64<d+e then 5 else 0):orL [Ma.gchk d L,Ma.gchk e M,mnC L.length M.length,r]=homC d e L M:=by
 have ne:∀ {x:Int},x≠0→∀ l,orL (x :: l)=x:=fun h l=>by rw [orL,if_pos h]
 have eq:∀ {x:Int},x=0→∀ l,orL (x :: l)=orL l:=fun h l=>by rw [orL,if_neg (fun q=>q h)]
 by_cases h1:Ma.gchk d L=0
 ·rw [eq h1]
  by_cases h2:Ma.gchk e M=0
  ·rw [eq h2]
   have g1:1≤d∧d≤64:=by
    obtain ⟨D,gs,e1,_,_,q1,q2,_⟩:=gchk_ok h1;omega
   have g2:1≤e∧e≤64:=by
    obtain ⟨D,gs,e1,_,_,q1,q2,_⟩:=gchk_ok h2;omega
   by_cases h3:L.length=M.length
   ·rw [eq (mnC_eq h3),hr g1 g2]
    by_cases h4:64<d+e
    ·rw [if_pos h4,homC_4 h1 h2 h3 h4]; rfl
    ·rw [if_neg h4,homC_5 h1 h2 h3 h4]; rfl
   ·rw [mnC_ne h3,homC_3 h1 h2 h3]; rfl
  ·rw [ne h2,homC_2 h1 h2]
 ·rw [ne h1,homC_1 h1]
theorem rowsI_get {w:World} {a:Option Addr} {n c:Nat} {T:List (List Int)} (h:Rg.Rows w (.slice a n c) T) {i:Nat} (hi:i<T.length):∃ b o ua uc,a=some ⟨b,o,none⟩∧b<w.heap.size∧w.cell? ⟨b,o+i,none⟩=some (.slice ua T[i].length uc)∧Rg.Ints w (.slice ua T[i].length uc) T[i]:=by
 obtain ⟨a',c',e,-,-,-,hx⟩:=h.shape;simp only [Value.slice.injEq] at e;obtain ⟨rfl,rfl,rfl⟩:=e;obtain ⟨b,o,e1,e2,e3⟩:=hx (by omega);obtain ⟨u,h1,h2⟩:=e3 i hi;obtain ⟨ua,uc,rfl,-⟩:=h2.shape;exact ⟨b,o,ua,uc,e1,e2,h1,h2⟩
theorem prL_step {L M:List (List Int)} {i:Nat} (h1:i<L.length) (h2:i<M.length):(prL L M).take (i+1)=(prL L M).take i++[joinI L[i] M[i]]:=by
 have h3:i<(prL L M).length:=by unfold prL; rw [List.length_zipWith]; omega
 rw [List.take_add_one,List.getElem?_eq_getElem h3]
 have e:(prL L M)[i]=joinI L[i] M[i]:=by
  show (List.zipWith joinI L M)[i]=_;exact List.getElem_zipWith
 rw [e];rfl
structure PrAt (W:World) (pb:Nat) (d e:Int) (gv hv:Value) (oa:Option Addr) (oc:Nat) (ra:Option Addr) (rc:Nat) (L M:List (List Int)):Prop where
 c0:W.cell? ⟨pb,0,none⟩=some (.int .i64 (d+e))
 c1:W.cell? ⟨pb,1,none⟩=some (.slice oa (pO (d+e) (prL L M)).length oc)
 c2:W.cell? ⟨pb,2,none⟩=some (.slice ra (pR (d+e) (prL L M)).length rc)
 c3:W.cell? ⟨pb,3,none⟩=some (.int .i64 d)
 c4:W.cell? ⟨pb,4,none⟩=some gv
 c5:W.cell? ⟨pb,5,none⟩=some (.int .i64 e)
 c6:W.cell? ⟨pb,6,none⟩=some hv
 lt:pb<W.heap.size
 ch:ChEqR W (.slice oa (pO (d+e) (prL L M)).length oc) (.slice ra (pR (d+e) (prL L M)).length rc) (pO (d+e) (prL L M)) (pR (d+e) (prL L M))
 rg:Rg.Rows W gv L
 rh:Rg.Rows W hv M
 pc:∃ N gs,PcF (d+e) (prL L M) N gs
theorem PrAt.below {W W':World} {pb:Nat} {d e:Int} {gv hv:Value} {oa:Option Addr} {oc:Nat} {ra:Option Addr} {rc:Nat} {L M:List (List Int)} (h:PrAt W pb d e gv hv oa oc ra rc L M) (hb:Below W.heap.size W W'):PrAt W' pb d e gv hv oa oc ra rc L M :=
 ⟨(hb.cell (p:=⟨pb,0,none⟩) h.lt).trans h.c0,(hb.cell (p:=⟨pb,1,none⟩) h.lt).trans h.c1,(hb.cell (p:=⟨pb,2,none⟩) h.lt).trans h.c2,(hb.cell (p:=⟨pb,3,none⟩) h.lt).trans h.c3,(hb.cell (p:=⟨pb,4,none⟩) h.lt).trans h.c4,(hb.cell (p:=⟨pb,5,none⟩) h.lt).trans h.c5,(hb.cell (p:=⟨pb,6,none⟩) h.lt).trans h.c6,Nat.lt_of_lt_of_le h.lt hb.size,h.ch.below hb,h.rg.below hb,h.rh.below hb,h.pc⟩
def OfPost (d e:Int) (gv hv:Value) (L M:List (List Int)) (w:World) (ed:Ending) (w':World):Prop :=
 (homC d e L M≠0→ed=.returned (.tuple #[.pointer none,.int .i64 (homC d e L M)]))∧(homC d e L M=0→∃ pb oa oc ra rc,ed=.returned (.tuple #[.pointer (some ⟨pb,0,none⟩),.int .i64 0])∧PrAt w' pb d e gv hv oa oc ra rc L M)∧Below w.heap.size w w'
theorem pair_new {w:World} (x y z u v s t:Value) (ty:TypeId):Tri (w.alloc (.cells #[x,y,z,u,v,s,t] ty)) w.heap.size x y z∧CL (w.alloc (.cells #[x,y,z,u,v,s,t] ty)) w.heap.size 3 u∧CL (w.alloc (.cells #[x,y,z,u,v,s,t] ty)) w.heap.size 4 v∧CL (w.alloc (.cells #[x,y,z,u,v,s,t] ty)) w.heap.size 5 s∧CL (w.alloc (.cells #[x,y,z,u,v,s,t] ty)) w.heap.size 6 t :=
 ⟨⟨by rw [Rg.cellNew]; rfl,by rw [Rg.cellNew]; rfl,by rw [Rg.cellNew]; rfl,frozenNewN _ _ _ 0 _,frozenNewN _ _ _ 0 _,frozenNewN _ _ _ 0 _,by simp⟩,⟨by rw [Rg.cellNew]; rfl,by simp⟩,⟨by rw [Rg.cellNew]; rfl,by simp⟩,⟨by rw [Rg.cellNew]; rfl,by simp⟩,⟨by rw [Rg.cellNew]; rfl,by simp⟩⟩
theorem CL.set3 {w:World} {b o:Nat} {v:Value} (h:CL w b o v) (ho:3≤o) (x y z:Value):CL (((w.setCell ⟨b,0,none⟩ x).setCell ⟨b,1,none⟩ y).setCell ⟨b,2,none⟩ z) b o v:=by
 refine ⟨?_,by simpa using h.lt⟩
 rw [World.cell?_setCell_other (h:=by intro e; injection e with e1 e2; omega) ..,World.cell?_setCell_other (h:=by intro e; injection e with e1 e2; omega) ..,World.cell?_setCell_other (h:=by intro e; injection e with e1 e2; omega) ..]
 exact h.cell
theorem prF0 (b:Nat) (w:World):(Instr.fieldAt 217 (.pointer (some ⟨b,0,none⟩)) 0).run Tryz.prog w=.ok (.pointer (some ⟨b,0,none⟩)) w:=by kernel_rfl
theorem prF1 (b:Nat) (w:World):(Instr.fieldAt 217 (.pointer (some ⟨b,0,none⟩)) 1).run Tryz.prog w=.ok (.pointer (some ⟨b,3,none⟩)) w:=by kernel_rfl
theorem prF2 (b:Nat) (w:World):(Instr.fieldAt 217 (.pointer (some ⟨b,0,none⟩)) 2).run Tryz.prog w=.ok (.pointer (some ⟨b,5,none⟩)) w:=by kernel_rfl
theorem of_any {d e:Int} {gv hv:Value} {L M:List (List Int)} {w:World} (h:Rg.Rows w gv L) (h':Rg.Rows w hv M) :
  Calls Tryz.prog 144 #[.agg #[.int .i64 d,gv],.agg #[.int .i64 e,hv]] w (OfPost d e gv hv L M w):=by
 obtain ⟨ga,gc,rfl,-⟩:=h.shape;obtain ⟨ha,hc,rfl,-⟩:=h'.shape;have HG:=ι h;have HH:=ι h';have HGw:=HG;have HHw:=HH;have K:=ι (Below.refl w.heap.size w);clear h h'
 go_enter Tryz.func144,Tryz.ntmps144
 go_upto_region 0 with (fail);refine Rg.wl ?_;have hbx:=box2t w (.int .i64 d) (.slice ga L.length gc) 24;refine Rg.lr 2 (Rg.exec_box _ _ rfl rfl) ?_;go_frame;have hb:=(Below.refl w.heap.size w).alloc (Nat.le_refl _) (.cells #[.int .i64 d,.slice ga L.length gc] 24);generalize w.alloc (.cells #[.int .i64 d,.slice ga L.length gc] 24)=w1 at *;replace HG:=ι (HG.out.below hb);replace HH:=ι (HH.out.below hb);replace K:=ι (Rg.acc K.out hb);clear hb;have G0:=ι hbx.1;have G1:=ι hbx.2;clear hbx;have hbx:=box2t w1 (.int .i64 e) (.slice ha M.length hc) 24;refine Rg.lr 3 (Rg.exec_box _ _ rfl rfl) ?_;go_frame;have hb:=(Below.refl w1.heap.size w1).alloc (Nat.le_refl _) (.cells #[.int .i64 e,.slice ha M.length hc] 24);generalize w1.alloc (.cells #[.int .i64 e,.slice ha M.length hc] 24)=w2 at *;replace HG:=ι (HG.out.below hb);replace HH:=ι (HH.out.below hb);replace G0:=ι (G0.out.below hb)
 replace G1:=ι (G1.out.below hb);replace K:=ι (Rg.acc K.out hb);clear hb;have H0:=ι hbx.1;have H1:=ι hbx.2;clear hbx;refine Rg.la 4 (.pointer none) ?_;go_frame;refine Rg.la 5 (.int .i64 0) ?_;go_frame;go_upto_region 1 with (fail);refine Rg.wl ?_;refine Rg.lr 14 (Rg.exec_load (v:=.agg #[.int .i64 d,.slice ga L.length gc]) _ _ rfl ⟨w.heap.size,0,none⟩ rfl (run_loadG G0.out.cell G1.out.cell)) ?_;go_frame;refine Rg.lr 15 (Rg.exec_load (v:=.agg #[.int .i64 e,.slice ha M.length hc]) _ _ rfl ⟨w1.heap.size,0,none⟩ rfl (run_loadG H0.out.cell H1.out.cell)) ?_;go_frame;refine Rg.lr 16 (exec_buildFa _ _ rfl rfl rfl) ?_;go_frame;have hnew:=Qd.new w2 (.int .i64 0) (.slice none 0 0) (.int .i64 0) (.slice none 0 0) 234;refine Rg.lr 6 (exec_allocFa rfl) ?_;go_frame;refine Rg.list_skip none rfl rfl (Rg.exec_store _ _ _ rfl _ rfl _ rfl (run_storeFa _ _ _ _ _ _ _ _ hnew)) ?_;go_frame;have hfa:=hnew.set (.int .i64 d) (.slice ga L.length gc) (.int .i64 e) (.slice ha M.length hc)
 have hb:=(((((Below.refl w2.heap.size w2).alloc (Nat.le_refl _) (.cells #[.int .i64 0,.slice none 0 0,.int .i64 0,.slice none 0 0] 234)).setCell (p:=⟨w2.heap.size,0,none⟩) (Nat.le_refl _) (.int .i64 d)).setCell (p:=⟨w2.heap.size,1,none⟩) (Nat.le_refl _) (.slice ga L.length gc)).setCell (p:=⟨w2.heap.size,2,none⟩) (Nat.le_refl _) (.int .i64 e)).setCell (p:=⟨w2.heap.size,3,none⟩) (Nat.le_refl _) (.slice ha M.length hc);generalize ((((w2.alloc (.cells #[.int .i64 0,.slice none 0 0,.int .i64 0,.slice none 0 0] 234)).setCell ⟨w2.heap.size,0,none⟩ (.int .i64 d)).setCell ⟨w2.heap.size,1,none⟩ (.slice ga L.length gc)).setCell ⟨w2.heap.size,2,none⟩ (.int .i64 e)).setCell ⟨w2.heap.size,3,none⟩ (.slice ha M.length hc)=w3 at *;replace HG:=ι (HG.out.below hb);replace HH:=ι (HH.out.below hb);replace G0:=ι (G0.out.below hb);replace G1:=ι (G1.out.below hb);replace H0:=ι (H0.out.below hb)
 replace H1:=ι (H1.out.below hb);replace K:=ι (Rg.acc K.out hb);clear hb;have FA:=ι hfa;clear hnew hfa;go_upto_region 2 with (fail);have hV0:Below w3.heap.size w3 w3.drew:=(Below.refl _ _).drew;replace HG:=ι (HG.out.below hV0);replace HH:=ι (HH.out.below hV0);replace G0:=ι (G0.out.below hV0);replace G1:=ι (G1.out.below hV0);replace H0:=ι (H0.out.below hV0);replace H1:=ι (H1.out.below hV0);replace FA:=ι (FA.out.below hV0);replace K:=ι (Rg.acc K.out hV0);clear hV0;refine Rg.Any.begin (S:=Rg.Both 5 (fun _=>True) (fun W=>Below w3.drew.heap.size w3.drew W)) mix ?_;generalize w3.drew=w4 at *;have hS:∀ (l:Array Bool) W,Below w4.heap.size w4 W→Rg.Both 5 (fun _=>True) (fun W=>Below w4.heap.size w4 W) l W:=fun l W h=>⟨.inr trivial,h⟩;have hI:Below w4.heap.size w4 w4:=Below.refl _ _;refine Rg.tg 0 5 ((.agg #[.int .i64 d,.slice ga L.length gc,.int .i64 e,.slice ha M.length hc])) 17 rfl rfl (Rg.yields_cell _ _ rfl rfl ⟨w2.heap.size,0,none⟩ rfl (fun W hW=>run_loadFa ((Below.cell (p:=⟨w2.heap.size,0,none⟩) hW FA.out.lt).trans FA.out.c0) ((Below.cell (p:=⟨w2.heap.size,1,none⟩) hW FA.out.lt).trans FA.out.c1) ((Below.cell (p:=⟨w2.heap.size,2,none⟩) hW FA.out.lt).trans FA.out.c2) ((Below.cell (p:=⟨w2.heap.size,3,none⟩) hW FA.out.lt).trans FA.out.c3))) (hS _ _ hI) ?_;go_frame
 refine Rg.tg 1 5 ((.func (.func 220) #[.agg #[.int .i64 d,.slice ga L.length gc,.int .i64 e,.slice ha M.length hc]] #[])) 18 rfl rfl (.inl ⟨rfl,fun w _=>exec_makeFuncB _ _ rfl rfl⟩) (hS _ _ hI) ?_;go_frame;refine Rg.tg 2 5 ((.agg #[.int .i64 d,.slice ga L.length gc,.int .i64 e,.slice ha M.length hc])) 19 rfl rfl (Rg.yields_cell _ _ rfl rfl ⟨w2.heap.size,0,none⟩ rfl (fun W hW=>run_loadFa ((Below.cell (p:=⟨w2.heap.size,0,none⟩) hW FA.out.lt).trans FA.out.c0) ((Below.cell (p:=⟨w2.heap.size,1,none⟩) hW FA.out.lt).trans FA.out.c1) ((Below.cell (p:=⟨w2.heap.size,2,none⟩) hW FA.out.lt).trans FA.out.c2) ((Below.cell (p:=⟨w2.heap.size,3,none⟩) hW FA.out.lt).trans FA.out.c3))) (hS _ _ hI) ?_;go_frame;refine Rg.tg 3 5 ((.func (.func 221) #[.agg #[.int .i64 d,.slice ga L.length gc,.int .i64 e,.slice ha M.length hc]] #[])) 20 rfl rfl (.inl ⟨rfl,fun w _=>exec_makeFuncB _ _ rfl rfl⟩) (hS _ _ hI) ?_;go_frame
 refine Rg.tg 4 5 ((.func (.func 220) #[.agg #[.int .i64 d,.slice ga L.length gc,.int .i64 e,.slice ha M.length hc]] #[])) 7 rfl rfl (.inl ⟨rfl,fun w _=>Rg.exec_assign (v:=(.func (.func 220) #[.agg #[.int .i64 d,.slice ga L.length gc,.int .i64 e,.slice ha M.length hc]] #[])) _ rfl rfl⟩) (hS _ _ hI) ?_;go_frame;refine Rg.Any.one (i:=5) (by kernel_rfl) (Rg.Any.run (some 8) rfl rfl rfl (Rg.xa ((.func (.func 221) #[.agg #[.int .i64 d,.slice ga L.length gc,.int .i64 e,.slice ha M.length hc]] #[])) _ rfl rfl) (hS _ _ hI) ?_);go_frame;refine Rg.Any.done (by kernel_rfl) ?_ _;clear hS hI;obtain ⟨g1,hg1⟩:∃ c,Hid (Ma.gchk d L=c):=⟨_,ι rfl⟩;obtain ⟨g2,hg2⟩:∃ c,Hid (Ma.gchk e M=c):=⟨_,ι rfl⟩;obtain ⟨g3,hg3⟩:∃ c,Hid (mnC L.length M.length=c):=⟨_,ι rfl⟩;obtain ⟨hc0,hhc⟩:∃ c,Hid (homC d e L M=c):=⟨_,ι rfl⟩;go_upto_region 3 with (fail);have hV0:Below w4.heap.size w4 w4.drew:=(Below.refl _ _).drew
 replace HG:=ι (HG.out.below hV0);replace HH:=ι (HH.out.below hV0);replace G0:=ι (G0.out.below hV0);replace G1:=ι (G1.out.below hV0);replace H0:=ι (H0.out.below hV0);replace H1:=ι (H1.out.below hV0);replace FA:=ι (FA.out.below hV0);replace K:=ι (Rg.acc K.out hV0);clear hV0;refine Rg.Any.begin (S:=Rg.Both 10 (fun _=>True) (fun W=>Below w4.drew.heap.size w4.drew W)) mix ?_;generalize w4.drew=w5 at *;have hS:∀ (l:Array Bool) W,Below w5.heap.size w5 W→Rg.Both 10 (fun _=>True) (fun W=>Below w5.heap.size w5 W) l W:=fun l W h=>⟨.inr trivial,h⟩;have hI:Below w5.heap.size w5 w5:=Below.refl _ _;refine Rg.tg 0 10 (.agg #[.int .i64 d,.slice ga L.length gc]) 21 rfl rfl (Rg.yields_cell _ _ rfl rfl ⟨w.heap.size,0,none⟩ rfl (fun W hW=>run_loadG ((Below.cell (p:=⟨w.heap.size,0,none⟩) hW G0.out.lt).trans G0.out.cell) ((Below.cell (p:=⟨w.heap.size,1,none⟩) hW G1.out.lt).trans G1.out.cell))) (hS _ _ hI) ?_;go_frame
 refine Rg.tg 2 10 (.agg #[.int .i64 e,.slice ha M.length hc]) 23 rfl rfl (Rg.yields_cell _ _ rfl rfl ⟨w1.heap.size,0,none⟩ rfl (fun W hW=>run_loadG ((Below.cell (p:=⟨w1.heap.size,0,none⟩) hW H0.out.lt).trans H0.out.cell) ((Below.cell (p:=⟨w1.heap.size,1,none⟩) hW H1.out.lt).trans H1.out.cell))) (hS _ _ hI) ?_;go_frame;refine Rg.tm 4 10 ((.func (.func 220) #[.agg #[.int .i64 d,.slice ga L.length gc,.int .i64 e,.slice ha M.length hc]] #[])) 25 (hS _ _ hI) ?_;go_frame;refine Rg.tm 6 10 ((.func (.func 221) #[.agg #[.int .i64 d,.slice ga L.length gc,.int .i64 e,.slice ha M.length hc]] #[])) 27 (hS _ _ hI) ?_;go_frame;refine Rg.Any.one (i:=1) (by kernel_rfl) (Rg.Any.ask (some 22) rfl rfl rfl _ _ (exec_fn1 85 _ _ rfl rfl (Ktcl2 _ _)) ?_);refine (orbitCheck_any _ _ _ w5 HG.out).mono ?_;rintro e1 w6 ⟨rfl,hb⟩;rw [hg1.out];have hI2_0:=Rg.acc hI hb;clear hb hI;refine ⟨_,rfl,(hS _ _ hI2_0),?_⟩
 go_frame;refine Rg.Any.one (i:=3) (by kernel_rfl) (Rg.Any.ask (some 24) rfl rfl rfl _ _ (exec_fn1 85 _ _ rfl rfl (Ktcl2 _ _)) ?_);refine (orbitCheck_any _ _ _ w6 (HH.out.below hI2_0)).mono ?_;rintro e1 w7 ⟨rfl,hb⟩;rw [hg2.out];have hI3_0:=Rg.acc hI2_0 hb;have hI3_1:=hb;clear hb hI2_0;refine ⟨_,rfl,(hS _ _ hI3_0),?_⟩;go_frame;refine Rg.Any.one (i:=5) (by kernel_rfl) (Rg.Any.ask (some 26) rfl rfl rfl _ _ (exec_fnB 220 _ _ rfl rfl (Ktcl0 _ _)) ?_);refine (many_any).mono ?_;rintro e1 w8 ⟨rfl,hb⟩;rw [hg3.out];have hI4_0:=Rg.acc hI3_1 hb;have hI4_1:=Rg.acc hI3_0 hb;have hI4_2:=hb;clear hb hI3_1 hI3_0;refine ⟨_,rfl,(hS _ _ hI4_1),?_⟩;go_frame;refine Rg.Any.one (i:=7) (by kernel_rfl) (Rg.Any.ask (some 28) rfl rfl rfl _ _ (exec_fnB 221 _ _ rfl rfl (Ktcl1 _ _)) ?_);refine (degrees_any).mono ?_;rintro e1 w9 ⟨g4,rfl,hg4,hb⟩;have HG4:=ι hg4;clear hg4;have hI5_0:=Rg.acc hI4_2 hb
 have hI5_1:=Rg.acc hI4_0 hb;have hI5_2:=Rg.acc hI4_1 hb;have hI5_3:=hb;clear hb hI4_2 hI4_0 hI4_1;refine ⟨_,rfl,(hS _ _ hI5_2),?_⟩;go_frame;have hnew:Rg.Ints (w9.alloc (.cells #[.int .i64 g1,.int .i64 g2,.int .i64 g3,.int .i64 g4] 28)) (.slice (some ⟨w9.heap.size,0,none⟩) 4 4) [g1,g2,g3,g4]:=ints_new w9 28 [g1,g2,g3,g4] (by show (4:Nat)≤1000; omega);have hb:=(Below.refl w9.heap.size w9).alloc (Nat.le_refl _) (.cells #[.int .i64 g1,.int .i64 g2,.int .i64 g3,.int .i64 g4] 28);have hI6_0:=Rg.acc hI5_3 hb;have hI6_1:=Rg.acc hI5_0 hb;have hI6_2:=Rg.acc hI5_1 hb;have hI6_3:=Rg.acc hI5_2 hb;have hI6_4:=hb;clear hb hI5_3 hI5_0 hI5_1 hI5_2;refine Rg.Any.one (i:=8) (by kernel_rfl) (Rg.Any.run (some 29) rfl rfl rfl (exec_buildE4 _ _ _ _ rfl rfl rfl rfl rfl) (hS _ _ hI6_3) ?_);go_frame;generalize w9.alloc (.cells #[.int .i64 g1,.int .i64 g2,.int .i64 g3,.int .i64 g4] 28)=w10 at *
 have EI:=ι hnew;refine Rg.Any.one (i:=9) (by kernel_rfl) (Rg.Any.ask (some 30) rfl rfl rfl _ _ (exec_fn1 222 _ _ rfl rfl (Ktcl3 _ _)) ?_);refine (Or_any EI.out (by show (4:Nat)≤1000; omega)).mono ?_;rintro e1 w11 ⟨rfl,hb⟩;rw [show orL [g1,g2,g3,g4]=hc0 by rw [← hg1.out,← hg2.out,← hg3.out,or_hom HG4.out,hhc.out]];have hI7_0:=Rg.acc hI6_4 hb;have hI7_1:=Rg.acc hI6_0 hb;have hI7_2:=Rg.acc hI6_1 hb;have hI7_3:=Rg.acc hI6_2 hb;have hI7_4:=Rg.acc hI6_3 hb;have hI7_5:=hb;clear hb hI6_4 hI6_0 hI6_1 hI6_2 hI6_3;refine ⟨_,rfl,(hS _ _ hI7_4),?_⟩;go_frame;refine Rg.Any.one (i:=10) (by kernel_rfl) (Rg.Any.run (some 9) rfl rfl rfl (Rg.xa (.int .i64 hc0) _ rfl rfl) (hS _ _ hI7_4) ?_);go_frame;refine Rg.Any.done (by kernel_rfl) ?_ _;replace HG:=ι (HG.out.below hI7_4);replace HH:=ι (HH.out.below hI7_4);replace G0:=ι (G0.out.below hI7_4);replace G1:=ι (G1.out.below hI7_4)
 replace H0:=ι (H0.out.below hI7_4);replace H1:=ι (H1.out.below hI7_4);replace FA:=ι (FA.out.below hI7_4);replace EI:=ι (EI.out.below hI7_5);replace K:=ι (Rg.acc K.out hI7_4);clear hS hI7_0 hI7_1 hI7_2 hI7_3 hI7_4 hI7_5
 by_cases h0:hc0=0
 case neg =>
  go_upto_region 4 with (fail);refine Rg.wl ?_;refine Rg.lm 31 (.int .i64 hc0) ?_;go_frame;refine Rg.lr 32 (exec_bin (R:=.bool true) .neq _ _ _ rfl rfl rfl (b_neqB _ (decide_eq_true h0))) ?_;go_frame;go_upto_region 5 with (fail);refine Rg.wl ?_;refine Rg.lm 33 (.int .i64 hc0) ?_;go_frame;refine Rg.la 4 (.pointer none) ?_;go_frame;refine Rg.la 5 (.int .i64 hc0) ?_;go_frame;have HX:=ι h0;have HOP:=ι (show homC d e L M≠0 by rw [hhc.out]; exact h0);go_wp2
  go_ret2
  exact ⟨fun _=>by rw [hhc.out]; rfl,fun h=>absurd h HOP.out,K.out⟩
 case pos =>
  have HZ:=ι (hhc.out.trans h0);go_upto_region 4 with (fail);refine Rg.wl ?_;refine Rg.lm 31 (.int .i64 hc0) ?_;go_frame;refine Rg.lr 32 (exec_bin (R:=.bool false) .neq _ _ _ rfl rfl rfl (b_neqB _ (decide_eq_false (fun q=>q h0)))) ?_;go_frame;go_upto_region 6 with (fail);refine Rg.wl ?_;refine Rg.la 10 (.slice none 0 0) ?_;go_frame;go_upto_region 7 with (fail);refine Rg.wl ?_;refine Rg.lr 34 (exec_fieldG _ rfl rfl) ?_;go_frame;refine Rg.lr 35 (Rg.exec_load (v:=.slice ga L.length gc) _ _ rfl ⟨w.heap.size,1,none⟩ rfl (Rg.run_loadSl _ _ Tryz.underlying22 G1.out.cell)) ?_;go_frame;refine Rg.lr 36 (exec_len _ _ _ rfl Tryz.underlying22 _ _ _ rfl) ?_;go_frame;refine Rg.lm 37 (.int .i64 ((0:Nat):Int)) ?_;go_frame;obtain ⟨n,m,A,B,hmg⟩:=homC_get HZ.out;have HMG:=ι hmg;have HLN:=ι hmg.lens;clear hmg;have K1:=ι (Below.refl w11.heap.size w11);have RP:=ι (show RowP w11.heap.size w11 (.slice none 0 0) ((prL L M).take 0) by rw [List.take_zero]; exact RowP.nil _ _)
  have h16:=HLN.out.2.2.2;go_wp2
  go_loopw [10,37] (fun tv iv wr=>∃ i:Nat,iv=.int .i64 ((i:Nat):Int)∧i≤L.length∧Hid (RowP w11.heap.size wr tv ((prL L M).take i))∧Hid (Below w11.heap.size w11 wr)) (fun _ iv _=>L.length - (intOf iv).toNat)
  case atStart=>exact ⟨0,rfl,Nat.zero_le _,RP,K1⟩
  case round =>
   clear K1 RP;obtain ⟨i,rfl,hi,RP,K1⟩:=hrel;generalize wr=wd at *;obtain ⟨ta,tc,rfl⟩:=RP.out.shape
   by_cases hil:i<L.length
   case pos =>
    have HIL:=ι hil
    have him:i<M.length:=by have:=HLN.out.2.2.1; omega
    have HIM:=ι him;have HST:=ι (prL_step hil him);obtain ⟨x,hx⟩:∃ x,Hid (L[i]'hil=x):=⟨_,ι rfl⟩;obtain ⟨y,hy⟩:∃ y,Hid (M[i]'him=y):=⟨_,ι rfl⟩;rw [hx.out,hy.out] at HST;obtain ⟨xb,xo,xa,xc,e1,hxb,hxc,hxi⟩:=rowsI_get HG.out hil;obtain ⟨yb,yo,ya,yc,e2,hyb,hyc,hyi⟩:=rowsI_get HH.out him;subst e1 e2;rw [hx.out] at hxc hxi;rw [hy.out] at hyc hyi;have CX:=ι (CL.mk hxc hxb);have CY:=ι (CL.mk hyc hyb);have XI:=ι hxi;have YI:=ι hyi;have HXL:=ι (show x.length=n from HLN.out.1 x (by rw [← hx.out]; exact List.getElem_mem hil));have HYL:=ι (show y.length=m from HLN.out.2.1 y (by rw [← hy.out]; exact List.getElem_mem him))
    have HYB:=ι (show ∀ z∈y,0≤z∧z≤64 from fun z hz=>by
     have hmem:y∈M:=by rw [← hy.out]; exact List.getElem_mem him
     rw [HMG.out.mb] at hmem;obtain ⟨s,hs,rfl⟩:=List.mem_map.1 hmem;have gs:=HMG.out.gb s hs;obtain ⟨q,hq,rfl⟩:=List.mem_map.1 hz;have:=gs.1.1 q hq;have:=gs.2;have:=HMG.out.nm
     omega)
    obtain ⟨tl,htl⟩:∃ l,Hid ((prL L M).take i=l):=⟨_,ι rfl⟩;have HTL:=ι (show tl.length<1000000 by rw [← htl.out,List.length_take]; omega);rw [htl.out] at RP HST ⊢;clear hxb hxc hxi hyb hyc hyi;go_upto_region 8 with (fail);refine Rg.wl ?_;refine Rg.lr 38 (exec_bin (R:=.bool true) .lss _ _ _ rfl rfl rfl (b_lss _ Rg.dT)) ?_;go_frame;go_upto_region 9 with (fail);refine Rg.wl ?_;refine Rg.lm 39 (.int .i64 ((i:Nat):Int)) ?_;go_frame;refine Rg.lr 40 (exec_indexS slPerms _ _ rfl xb (xo) (L.length) gc (i) rfl rfl HIL.out) ?_;go_frame;refine Rg.lr 41 (Rg.exec_load (v:=.slice xa x.length xc) _ _ rfl ⟨xb,xo+i,none⟩ rfl (Rg.run_loadSl _ _ Tryz.underlying51 ((Below.cell (p:=⟨xb,xo+i,none⟩) K1.out CX.out.lt).trans CX.out.cell))) ?_;go_frame;refine Rg.la 11 (.int .i64 ((i:Nat):Int)) ?_;go_frame;refine Rg.la 12 (.slice xa x.length xc) ?_;go_frame;go_upto_region 10 with (fail)
    refine Rg.wl ?_;refine Rg.lm 42 (.slice ta tl.length tc) ?_;go_frame;refine Rg.lm 43 (.slice xa x.length xc) ?_;go_frame;refine Rg.lr 44 (exec_fieldG _ rfl rfl) ?_;go_frame;refine Rg.lr 45 (Rg.exec_load (v:=.slice (some ⟨yb,yo,none⟩) M.length hc) _ _ rfl ⟨w1.heap.size,1,none⟩ rfl (Rg.run_loadSl _ _ Tryz.underlying22 ((Below.cell (p:=⟨w1.heap.size,1,none⟩) K1.out H1.out.lt).trans H1.out.cell))) ?_;go_frame;refine Rg.lm 46 (.int .i64 ((i:Nat):Int)) ?_;go_frame;refine Rg.lr 47 (exec_indexS slPerms _ _ rfl yb (yo) (M.length) hc (i) rfl rfl HIM.out) ?_;go_frame;refine Rg.lr 48 (Rg.exec_load (v:=.slice ya y.length yc) _ _ rfl ⟨yb,yo+i,none⟩ rfl (Rg.run_loadSl _ _ Tryz.underlying51 ((Below.cell (p:=⟨yb,yo+i,none⟩) K1.out CY.out.lt).trans CY.out.cell))) ?_;go_frame;have HLT6:=ι (fun z e=>(RP.out.lt z e).2);have HSZ6:=ι K1.out.size;refine Rg.lk 49 (exec_fn 223 _ _ _ rfl rfl rfl (Ktcl4 _ _)) ?_
    refine (joined_any (XI.out.below K1.out) (YI.out.below K1.out) (by rw [HXL.out]; exact HMG.out.n1) (by rw [HXL.out]; have:=HMG.out.nm; omega) (by rw [HYL.out]; have:=HMG.out.nm; omega) HYB.out).mono ?_;rintro e1 w101 ⟨jv,rfl,hjv,hb⟩;obtain ⟨ja,jc,rfl⟩:=hjv.shape;have HROW:=ι hjv.own;clear hjv;refine ⟨_,rfl,?_⟩;go_frame;replace RP:=ι (RP.out.below hb);replace K1:=ι (Rg.acc K1.out hb);clear hb;refine Rg.lr 50 (Rg.exec_buildSlice _ _ _ rfl (.slice ja (joinI x y).length jc) rfl (run_build1P w101 _ ⟨_,_,_,rfl⟩)) ?_;go_frame;obtain ⟨a9,c9,X9,r1,r2,r3⟩:=RP.out.push K1.out.size HROW.out (by unfold joinI; rw [List.length_append,List.length_map,HXL.out,HYL.out]; have:=HMG.out.nm; omega) (fun z e=>⟨by have:=(HROW.out.lt z e).1; have:=HSZ6.out; omega,fun e2=>by have:=(HROW.out.lt z e).1; have:=HLT6.out z e2; omega⟩) HTL.out 22;refine Rg.lr 51 (Rg.exec_append _ _ _ rfl rfl rfl r1) ?_;go_frame
    refine Rg.la 10 (.slice a9 (tl.length+1) c9) ?_;go_frame;have K6:=ι (r3 (Nat.le_refl _) K1.out);have RP2:=ι (show RowP w11.heap.size X9 (.slice a9 (tl.length+1) c9) ((prL L M).take (i+1)) by rw [HST.out]; exact r2);clear r1 r2 r3;go_upto_region 11 with (fail);refine Rg.wl ?_;refine Rg.lr 52 (exec_bin (R:=.int .i64 (((i+1):Nat):Int)) .add _ _ _ rfl rfl rfl (b_add _ (by omega) (by omega))) ?_;go_frame;refine Rg.lm 37 (.int .i64 (((i+1):Nat):Int)) ?_;go_frame;go_wp2
    go_roundw
    case rel=>exact ⟨i+1,by go_num,HIL.out,RP2,K6⟩
    case measure=>simp [intOf]; have:=HIL.out; omega
   case neg =>
    obtain ⟨PL,hPL⟩:∃ l,Hid (prL L M=l):=⟨_,ι rfl⟩
    have HTE:=ι (show (prL L M).take i=PL by
     rw [hPL.out];refine List.take_of_length_le ?_
     rw [← hPL.out]; unfold prL; rw [List.length_zipWith]; omega)
    rw [HTE.out] at RP ⊢;have HPL:=ι (show PL.length≤16 by rw [← hPL.out]; unfold prL; rw [List.length_zipWith]; omega);have HRP:=ι (FRows.rows (RP.out.frows (by have:=HPL.out; omega) (G:=fun _=>True) (fun _ _ _=>trivial)))
    have HDE:1≤d+e∧d+e≤64:=by have:=HMG.out.dn; have:=HMG.out.em; have:=HMG.out.n1; have:=HMG.out.nm; omega
    have HMK:=ι (show mkchk (d+e) PL=0 by rw [← hPL.out]; exact HMG.out.mk0);have KT:=ι (K.out.trans (K1.out.mono K.out.size));go_upto_region 8 with (fail);refine Rg.wl ?_;refine Rg.lr 38 (exec_bin (R:=.bool false) .lss _ _ _ rfl rfl rfl (b_lss _ Rg.dF)) ?_;go_frame;replace HG:=ι (HG.out.below K1.out);replace HH:=ι (HH.out.below K1.out);replace G0:=ι (G0.out.below K1.out);replace G1:=ι (G1.out.below K1.out);replace H0:=ι (H0.out.below K1.out);replace H1:=ι (H1.out.below K1.out);replace K:=KT;clear KT K1 RP;have HLO:=ι (show w.heap.size≤wd.heap.size from K.out.size);go_upto_region 12 with (fail);refine Rg.wl ?_;refine Rg.lr 53 (Rg.exec_load (v:=.agg #[.int .i64 d,.slice ga L.length gc]) _ _ rfl ⟨w.heap.size,0,none⟩ rfl (run_loadG G0.out.cell G1.out.cell)) ?_;go_frame;refine Rg.lr 54 (Rg.exec_load (v:=.agg #[.int .i64 e,.slice ha M.length hc]) _ _ rfl ⟨w1.heap.size,0,none⟩ rfl (run_loadG H0.out.cell H1.out.cell)) ?_;go_frame
    refine Rg.lr 55 (exec_buildPr _ _ rfl rfl rfl) ?_;go_frame;have hbx:=pair_new (w:=wd) (.int .i64 0) (.slice none 0 0) (.slice none 0 0) (.int .i64 d) (.slice ga L.length gc) (.int .i64 e) (.slice ha M.length hc) 217;refine Rg.lr 56 (Rg.exec_box _ _ rfl rfl) ?_;go_frame;have hb:=(Below.refl wd.heap.size wd).alloc (Nat.le_refl _) (.cells #[.int .i64 0,.slice none 0 0,.slice none 0 0,.int .i64 d,.slice ga L.length gc,.int .i64 e,.slice ha M.length hc] 217);generalize wd.alloc (.cells #[.int .i64 0,.slice none 0 0,.slice none 0 0,.int .i64 d,.slice ga L.length gc,.int .i64 e,.slice ha M.length hc] 217)=w122 at *;replace HG:=ι (HG.out.below hb);replace HH:=ι (HH.out.below hb);replace G0:=ι (G0.out.below hb);replace G1:=ι (G1.out.below hb);replace H0:=ι (H0.out.below hb);replace H1:=ι (H1.out.below hb);replace HRP:=ι (HRP.out.below hb);replace K:=ι (Rg.acc K.out hb)
    clear hb;have PT:=ι hbx.1;have P3:=ι hbx.2.1;have P4:=ι hbx.2.2.1;have P5:=ι hbx.2.2.2.1;have P6:=ι hbx.2.2.2.2;clear hbx;refine Rg.la 13 (.pointer (some ⟨wd.heap.size,0,none⟩)) ?_;go_frame;go_upto_region 13 with (fail);refine Rg.wl ?_;refine Rg.lm 58 (.pointer (some ⟨wd.heap.size,0,none⟩)) ?_;go_frame;refine Rg.lr 59 (exec_fieldG0 _ rfl rfl) ?_;go_frame;refine Rg.lr 60 (Rg.exec_load (v:=.int .i64 d) _ _ rfl ⟨w.heap.size,0,none⟩ rfl (run_loadInt G0.out.cell)) ?_;go_frame;refine Rg.lr 61 (exec_fieldG0 _ rfl rfl) ?_;go_frame;refine Rg.lr 62 (Rg.exec_load (v:=.int .i64 e) _ _ rfl ⟨w1.heap.size,0,none⟩ rfl (run_loadInt H0.out.cell)) ?_;go_frame;refine Rg.lr 63 (exec_bin (R:=.int .i64 (d+e)) .add _ _ _ rfl rfl rfl (b_add _ (by omega) (by omega))) ?_;go_frame;refine Rg.lm 64 (.slice ta PL.length tc) ?_;go_frame;have HPB:=ι PT.out.lt;refine Rg.lk 65 (exec_fn 139 _ _ _ rfl rfl rfl (Ktcl5 _ _)) ?_
    refine (chMake_f _ _ _ w122 HRP.out).mono ?_;rintro e1 w123 ⟨cv,rfl,hcv,hb⟩;rw [HMK.out] at hcv ⊢;obtain ⟨oa,oc,ra,rc,rfl,-,-⟩:=hcv.ans.pc;have HCF:=ι hcv;clear hcv;refine ⟨_,rfl,?_⟩;go_frame;replace HG:=ι (HG.out.below hb);replace HH:=ι (HH.out.below hb);replace G0:=ι (G0.out.below hb);replace G1:=ι (G1.out.below hb);replace H0:=ι (H0.out.below hb);replace H1:=ι (H1.out.below hb);replace HRP:=ι (HRP.out.below hb);replace PT:=ι (PT.out.below hb);replace P3:=ι (P3.out.below hb);replace P4:=ι (P4.out.below hb);replace P5:=ι (P5.out.below hb);replace P6:=ι (P6.out.below hb);replace K:=ι (Rg.acc K.out hb);clear hb;refine Rg.lm 57 (.tuple #[(.agg #[.int .i64 (d+e),.slice oa (pO (d+e) PL).length oc,.slice ra (pR (d+e) PL).length rc]),.int .i64 0]) ?_;go_frame;refine Rg.lr 66 (exec_extract (v:=(.agg #[.int .i64 (d+e),.slice oa (pO (d+e) PL).length oc,.slice ra (pR (d+e) PL).length rc])) _ _ rfl rfl rfl) ?_;go_frame
    refine Rg.lr 67 (exec_extract (v:=.int .i64 0) _ _ rfl rfl rfl) ?_;go_frame;refine Rg.lr 68 (exec_nil _ rfl rfl) ?_;go_frame;refine Rg.lr 69 (exec_field _ rfl rfl (prF0 _ _)) ?_;go_frame;refine Rg.list_skip none rfl rfl (Rg.exec_store _ _ _ rfl _ rfl _ rfl (run_storeC _ _ _ _ _ _ _ PT.out)) ?_;go_frame;have htt:=PT.out.set (.int .i64 (d+e)) (.slice oa (pO (d+e) PL).length oc) (.slice ra (pR (d+e) PL).length rc);have h3:=P3.out.set3 (by omega) (.int .i64 (d+e)) (.slice oa (pO (d+e) PL).length oc) (.slice ra (pR (d+e) PL).length rc);have h4:=P4.out.set3 (by omega) (.int .i64 (d+e)) (.slice oa (pO (d+e) PL).length oc) (.slice ra (pR (d+e) PL).length rc);have h5:=P5.out.set3 (by omega) (.int .i64 (d+e)) (.slice oa (pO (d+e) PL).length oc) (.slice ra (pR (d+e) PL).length rc);have h6:=P6.out.set3 (by omega) (.int .i64 (d+e)) (.slice oa (pO (d+e) PL).length oc) (.slice ra (pR (d+e) PL).length rc)
    have hkp:=Rg.Kp.trans (Rg.Kp.trans (Rg.Kp.of_setCell (M:=fun z=>z=wd.heap.size) (w:=w123) (a:=⟨wd.heap.size,0,none⟩) (v:=.int .i64 (d+e)) rfl) (Rg.Kp.of_setCell (M:=fun z=>z=wd.heap.size) (a:=⟨wd.heap.size,1,none⟩) (v:=.slice oa (pO (d+e) PL).length oc) rfl) (fun _ _ e=>e)) (Rg.Kp.of_setCell (M:=fun z=>z=wd.heap.size) (a:=⟨wd.heap.size,2,none⟩) (v:=.slice ra (pR (d+e) PL).length rc) rfl) (fun _ _ e=>e);have hkf:=((K.out.setCell (p:=⟨wd.heap.size,0,none⟩) HLO.out (.int .i64 (d+e))).setCell (p:=⟨wd.heap.size,1,none⟩) HLO.out (.slice oa (pO (d+e) PL).length oc)).setCell (p:=⟨wd.heap.size,2,none⟩) HLO.out (.slice ra (pR (d+e) PL).length rc);have hcf:=(HCF.out.kp hkp (fun z hz=>by have:=HPB.out; omega)).ans.pcv;generalize ((w123.setCell ⟨wd.heap.size,0,none⟩ (.int .i64 (d+e))).setCell ⟨wd.heap.size,1,none⟩ (.slice oa (pO (d+e) PL).length oc)).setCell ⟨wd.heap.size,2,none⟩ (.slice ra (pR (d+e) PL).length rc)=w99 at *
    have hpa:PrAt w99 wd.heap.size d e (.slice ga L.length gc) (.slice ha M.length hc) oa oc ra rc L M:=by
     rw [← hPL.out] at htt hcf;exact ⟨htt.c0,htt.c1,htt.c2,h3.cell,h4.cell,h5.cell,h6.cell,htt.lt,hcf.1,HGw.out.below hkf,HHw.out.below hkf,hcf.2⟩
    have HPA:=ι hpa;have K:=ι hkf;clear hpa hkf hcf hkp htt h3 h4 h5 h6;go_upto_region 14 with (fail);refine Rg.wl ?_;refine Rg.lm 70 (.pointer (some ⟨wd.heap.size,0,none⟩)) ?_;go_frame;refine Rg.la 4 (.pointer (some ⟨wd.heap.size,0,none⟩)) ?_;go_frame;refine Rg.la 5 (.int .i64 ((0:Nat):Int)) ?_;go_frame;go_wp2
    go_ret2
    exact ⟨fun h=>absurd HZ.out h,fun _=>⟨_,_,_,_,_,rfl,HPA.out⟩,K.out⟩

theorem Kvcl0 (args:Array Value) (w:World):(callFunc 144 args).run Tryz.prog w=.ok (.enter 144 args) w:=by kernel_rfl
theorem Kvcl1 (args:Array Value) (w:World):(callFunc 145 args).run Tryz.prog w=.ok (.enter 145 args) w:=by kernel_rfl
theorem run_sliceLoI (w:World) (b o n c k:Nat) (h:k<n) (hc:n≤c):(Instr.sliceAt 27 (.slice (some ⟨b,o,none⟩) n c) (some (.int .i64 (k:Int))) none none).run Tryz.prog w=.ok (.slice (some ⟨b,o+k,none⟩) (n - k) (c - k)) w:=by
 have e1:¬ c=k:=by omega
 have e3:k≤n:=by omega
 by_cases e2:k=0
 ·subst e2
  simp [Instr.sliceAt,Instr.slice,run_underlying Tryz.underlying27,Instr.sliceBounds,Instr.sliceBound,asIntOf,e3,hc,Addr.add,e1]
 ·simp [Instr.sliceAt,Instr.slice,run_underlying Tryz.underlying27,Instr.sliceBounds,Instr.sliceBound,asIntOf,e3,hc,Addr.add,e1,e2]
theorem exec_sliceLoI {o:Oper} {a:Act} {w:World} {v r:Value} {k:Nat} (x y:Operand) (ho:o.op=.slice 27 x (some y) none none) (hx:a.eval x=v) (hy:a.eval y=.int .i64 (k:Int)) (hr:(Instr.sliceAt 27 v (some (.int .i64 (k:Int))) none none).run Tryz.prog w=.ok r w) :
  (execOp a.eval o).run Tryz.prog w=.ok (.value r) w:=by
 unfold execOp;simp only [ho,hx,hy,Sem.run_bind,Sem.run_pure,Option.map]
 first | (rw [hr]; rfl) | (erw [hr]; rfl) | simp [hr]
theorem run_sliceLoP (w:World) (b o n c k:Nat) (h:k<n) (hc:n≤c):(Instr.sliceAt 52 (.slice (some ⟨b,o,none⟩) n c) (some (.int .i64 (k:Int))) none none).run Tryz.prog w=.ok (.slice (some ⟨b,o+k,none⟩) (n - k) (c - k)) w:=by
 have e1:¬ c=k:=by omega
 have e3:k≤n:=by omega
 by_cases e2:k=0
 ·subst e2
  simp [Instr.sliceAt,Instr.slice,run_underlying Tryz.underlying52,Instr.sliceBounds,Instr.sliceBound,asIntOf,e3,hc,Addr.add,e1]
 ·simp [Instr.sliceAt,Instr.slice,run_underlying Tryz.underlying52,Instr.sliceBounds,Instr.sliceBound,asIntOf,e3,hc,Addr.add,e1,e2]
theorem exec_sliceLoP {o:Oper} {a:Act} {w:World} {v r:Value} {k:Nat} (x y:Operand) (ho:o.op=.slice 52 x (some y) none none) (hx:a.eval x=v) (hy:a.eval y=.int .i64 (k:Int)) (hr:(Instr.sliceAt 52 v (some (.int .i64 (k:Int))) none none).run Tryz.prog w=.ok r w) :
  (execOp a.eval o).run Tryz.prog w=.ok (.value r) w:=by
 unfold execOp;simp only [ho,hx,hy,Sem.run_bind,Sem.run_pure,Option.map]
 first | (rw [hr]; rfl) | (erw [hr]; rfl) | simp [hr]
def dfB (n:Nat) (O:List (List Int)):Bool:=(O.drop n).all (fun l=>decide (l.length≤1))
theorem dfB_no {n i:Nat} {O:List (List Int)} (hi:n+i<O.length) (h:1<O[n+i].length):dfB n O=false:=by
 unfold dfB;rw [List.all_eq_false];refine ⟨O[n+i],?_,by rw [decide_eq_true_iff]; omega⟩;rw [List.mem_drop_iff_getElem];exact ⟨i,by omega,by simp⟩
theorem dfB_yes {n:Nat} {O:List (List Int)} (h:∀ i (hi:n+i<O.length),O[n+i].length≤1):dfB n O=true:=by
 unfold dfB;rw [List.all_eq_true];intro l hl;rw [List.mem_drop_iff_getElem] at hl;obtain ⟨i,hi,e⟩:=hl;have h5:=h i (by omega)
 have e2:O[n+i]'(by omega)=l:=by rw [← e]
 rw [e2] at h5;exact decide_eq_true h5
def DfPost (b:Bool) (w:World) (ed:Ending) (w':World):Prop:=ed=.returned (.bool b)∧Below w.heap.size w w'
theorem defined_any {d e:Int} {gv hv:Value} {oa:Option Addr} {oc:Nat} {ra:Option Addr} {rc:Nat} {L M:List (List Int)} {n m:Nat} {A B:List (List Nat)} {pb:Nat} {w:World} (h:PrAt w pb d e gv hv oa oc ra rc L M) (hm:HomG d e L M n m A B) :
  Calls Tryz.prog 145 #[.pointer (some ⟨pb,0,none⟩)] w (DfPost (dfB n (pO (d+e) (prL L M))) w):=by
 obtain ⟨ga,gc,rfl,-⟩:=h.rg.shape;obtain ⟨ha,hc,rfl,-⟩:=h.rh.shape;obtain ⟨N,gs,hpc⟩:=h.pc
 have hNm:N=n+m:=by have:=hpc.dn; have:=hm.dn; have:=hm.em; omega
 have hON:(pO (d+e) (prL L M)).length=n+m:=by rw [hpc.lenO,hNm]
 have hm1:=hm.m1;have hnm:=hm.nm;obtain ⟨oa',oc',e1,hcap,-,-,hos⟩:=h.ch.1.shape
 injection e1 with e2 _ e4
 subst e2 e4;obtain ⟨ob,oo,rfl,-⟩:=hos (by omega);have PA:=ι h;have HM:=ι hm;have HON:=ι hON;have K:=ι (Below.refl w.heap.size w);have HDN:=ι hm.dn;obtain ⟨OO,hOO⟩:∃ l,Hid (pO (d+e) (prL L M)=l):=⟨_,ι rfl⟩;rw [hOO.out] at HON hcap ⊢
 have HROW:=ι (show ∀ i,i<OO.length→∃ ua uc l,l=OO.getD i []∧w.cell? ⟨ob,oo+i,none⟩=some (.slice ua l.length uc)∧ob<w.heap.size∧l.length≤1000000000 from fun i hi=>by
  have h5:=h.ch.1;rw [hOO.out] at h5;obtain ⟨b,o,ua,uc,e1,e2,e3,e4⟩:=rowsI_get h5 hi
  injection e1 with e1
  injection e1 with e5 e6
  subst e5 e6;refine ⟨ua,uc,OO[i],by rw [List.getD_eq_getElem?_getD,List.getElem?_eq_getElem hi]; rfl,e3,e2,?_⟩;obtain ⟨_,_,_,_,h6,_⟩:=e4.shape
  exact h6)
 have HLT:=ι (show n<OO.length by rw [HON.out]; omega);have HCAP:=ι hcap;clear h hm hpc hos hON hcap
 go_enter Tryz.func145,Tryz.ntmps145
 go_upto_region 0 with (fail);refine Rg.wl ?_;refine Rg.la 2 (.bool false) ?_;go_frame;go_upto_region 1 with (fail);have hV0:Below w.heap.size w w.drew:=(Below.refl _ _).drew;replace K:=ι (Rg.acc K.out hV0);clear hV0;refine Rg.Any.begin (S:=Rg.Both 12 (fun _=>True) (fun W=>Below w.heap.size w W)) mix ?_;generalize w.drew=w1 at *;have hS:∀ (l:Array Bool) W,Below w.heap.size w W→Rg.Both 12 (fun _=>True) (fun W=>Below w.heap.size w W) l W:=fun l W h=>⟨.inr trivial,h⟩;have hI:=K.out;refine Rg.tm 0 12 (.pointer (some ⟨pb,0,none⟩)) 5 (hS _ _ hI) ?_;go_frame;refine Rg.tg 1 12 (.pointer (some ⟨pb,0,none⟩)) 6 rfl rfl (.inl ⟨rfl,fun w _=>exec_nil _ rfl rfl⟩) (hS _ _ hI) ?_;go_frame;refine Rg.tg 2 12 (.pointer (some ⟨pb,0,none⟩)) 7 rfl rfl (.inl ⟨rfl,fun w _=>exec_field _ rfl rfl (prF0 _ _)⟩) (hS _ _ hI) ?_;go_frame;refine Rg.tg 3 12 (.pointer (some ⟨pb,1,none⟩)) 8 rfl rfl (.inl ⟨rfl,fun w _=>exec_field _ rfl rfl (chF1 _ _)⟩) (hS _ _ hI) ?_;go_frame
 refine Rg.tg 4 12 (.slice (some ⟨ob,oo,none⟩) OO.length oc) 9 rfl rfl (Rg.yields_cell _ _ rfl rfl ⟨pb,1,none⟩ rfl (fun W hW=>Rg.run_loadSl _ _ Tryz.underlying27 ((Below.cell (p:=⟨pb,1,none⟩) hW PA.out.lt).trans (show _ from by have h5:=PA.out.c1; rw [hOO.out] at h5; exact h5)))) (hS _ _ hI) ?_;go_frame;refine Rg.tm 5 12 (.pointer (some ⟨pb,0,none⟩)) 10 (hS _ _ hI) ?_;go_frame;refine Rg.tg 6 12 (.pointer (some ⟨pb,0,none⟩)) 11 rfl rfl (.inl ⟨rfl,fun w _=>exec_nil _ rfl rfl⟩) (hS _ _ hI) ?_;go_frame;refine Rg.tg 7 12 (.pointer (some ⟨pb,3,none⟩)) 12 rfl rfl (.inl ⟨rfl,fun w _=>exec_field _ rfl rfl (prF1 _ _)⟩) (hS _ _ hI) ?_;go_frame;refine Rg.tg 8 12 (.pointer (some ⟨pb,3,none⟩)) 13 rfl rfl (.inl ⟨rfl,fun w _=>exec_field _ rfl rfl (grF3_0 _ _)⟩) (hS _ _ hI) ?_;go_frame;refine Rg.tg 9 12 (.int .i64 ((n:Nat):Int)) 14 rfl rfl (Rg.yields_cell _ _ rfl rfl ⟨pb,3,none⟩ rfl (fun W hW=>run_loadInt ((Below.cell (p:=⟨pb,3,none⟩) hW PA.out.lt).trans (show _ from by have h5:=PA.out.c3; rw [HDN.out] at h5; exact h5)))) (hS _ _ hI) ?_;go_frame
 refine Rg.tg 10 12 (.slice (some ⟨ob,oo+n,none⟩) (OO.length - n) (oc - n)) 15 rfl rfl (.inl ⟨rfl,fun w _=>exec_sliceLoI _ _ rfl rfl rfl (run_sliceLoI _ _ _ _ _ _ HLT.out HCAP.out)⟩) (hS _ _ hI) ?_;go_frame;refine Rg.tg 11 12 (.int .i64 (((OO.length - n):Nat):Int)) 16 rfl rfl (.inl ⟨rfl,fun w _=>exec_len _ _ _ rfl Tryz.underlying27 _ _ _ rfl⟩) (hS _ _ hI) ?_;go_frame;refine Rg.Any.one (i:=12) (by kernel_rfl) (Rg.Any.run (some 17) rfl rfl rfl (Rg.xm (.int .i64 ((0:Nat):Int)) _ rfl rfl) (hS _ _ hI) ?_);go_frame;refine Rg.Any.done (by kernel_rfl) ?_ _;replace K:=ι hI;clear hS hI;have HS:=ι (show ∀ i (hi:n+i<OO.length),i<0→OO[n+i].length≤1 from fun i _ h=>absurd h (Nat.not_lt_zero _));obtain ⟨lo,hlo⟩:∃ l,Hid (OO.length - n=l):=⟨_,ι rfl⟩;rw [hlo.out];have HLO:=ι (show n+lo=OO.length by have:=HLT.out; have:=hlo.out; omega);have HL64:=ι (show lo≤64 by have:=HON.out; have:=HM.out.nm; have:=HLO.out; omega)
 go_wp2
 go_loopw [17] (fun iv wr=>∃ i:Nat,iv=.int .i64 ((i:Nat):Int)∧i≤lo∧Hid (∀ j (hj:n+j<OO.length),j<i→OO[n+j].length≤1)∧Hid (Below w.heap.size w wr)) (fun iv _=>lo - (intOf iv).toNat)
 case atStart=>exact ⟨0,rfl,Nat.zero_le _,HS,K⟩
 case round =>
  clear K HS;obtain ⟨i,rfl,hi,HS,K⟩:=hrel;generalize wr=wd at *;have hl64:lo≤64:=HL64.out
  by_cases hil:i<lo
  case neg =>
   have HV:=ι (show dfB n OO=true from dfB_yes (fun j hj=>HS.out j hj (by have:=HLO.out; omega)));go_upto_region 2 with (fail);refine Rg.wl ?_;refine Rg.lr 18 (exec_bin (R:=.bool false) .lss _ _ _ rfl rfl rfl (b_lss _ Rg.dF)) ?_;go_frame;go_upto_region 7 with (fail);refine Rg.wl ?_;refine Rg.la 2 (.bool true) ?_;go_frame;go_wp2;go_ret;exact ⟨by rw [HV.out]; rfl,K.out⟩
  case pos =>
   have HIL:=ι hil;have HNI:=ι (show n+i<OO.length by have:=HLO.out; omega);obtain ⟨ua,uc,l,hl,hcu,hob,hl9⟩:=HROW.out (n+i) HNI.out;have HL:=ι (show OO[n+i]'HNI.out=l by rw [hl,List.getD_eq_getElem?_getD,List.getElem?_eq_getElem HNI.out]; rfl);have CU:=ι (CL.mk (show w.cell? ⟨ob,oo+n+i,none⟩=_ by rw [Nat.add_assoc]; exact hcu) hob);clear hcu hob hl
   by_cases h1:1<l.length
   case pos =>
    have HV:=ι (show dfB n OO=false from dfB_no HNI.out (by rw [HL.out]; exact h1));go_upto_region 2 with (fail);refine Rg.wl ?_;refine Rg.lr 18 (exec_bin (R:=.bool true) .lss _ _ _ rfl rfl rfl (b_lss _ Rg.dT)) ?_;go_frame;go_upto_region 3 with (fail);refine Rg.wl ?_;refine Rg.lr 19 (exec_indexS slIntss _ _ rfl ob (oo+n) (lo) (oc - n) (i) rfl rfl HIL.out) ?_;go_frame;refine Rg.lr 20 (Rg.exec_load (v:=.slice ua l.length uc) _ _ rfl ⟨ob,oo+n+i,none⟩ rfl (Rg.run_loadSl _ _ Tryz.underlying36 ((Below.cell (p:=⟨ob,oo+n+i,none⟩) K.out CU.out.lt).trans CU.out.cell))) ?_;go_frame;refine Rg.la 4 (.slice ua l.length uc) ?_;go_frame;go_upto_region 4 with (fail);refine Rg.wl ?_;refine Rg.lm 21 (.slice ua l.length uc) ?_;go_frame;refine Rg.lr 22 (exec_len _ _ _ rfl Tryz.underlying36 _ _ _ rfl) ?_;go_frame;refine Rg.lr 23 (exec_bin (R:=.bool true) .gtr _ _ _ rfl rfl rfl (b_gtr _ Rg.dT)) ?_;go_frame
    go_upto_region 5 with (fail);refine Rg.wl ?_;refine Rg.la 2 (.bool false) ?_;go_frame;go_wp2;go_ret;exact ⟨by rw [HV.out]; rfl,K.out⟩
   case neg =>
    have HS2:=ι (show ∀ j (hj:n+j<OO.length),j<i+1→OO[n+j].length≤1 from fun j hj h=>by
     by_cases e:j=i
     ·subst e; rw [HL.out]; omega
     ·exact HS.out j hj (by omega))
    go_upto_region 2 with (fail);refine Rg.wl ?_;refine Rg.lr 18 (exec_bin (R:=.bool true) .lss _ _ _ rfl rfl rfl (b_lss _ Rg.dT)) ?_;go_frame;go_upto_region 3 with (fail);refine Rg.wl ?_;refine Rg.lr 19 (exec_indexS slIntss _ _ rfl ob (oo+n) (lo) (oc - n) (i) rfl rfl HIL.out) ?_;go_frame;refine Rg.lr 20 (Rg.exec_load (v:=.slice ua l.length uc) _ _ rfl ⟨ob,oo+n+i,none⟩ rfl (Rg.run_loadSl _ _ Tryz.underlying36 ((Below.cell (p:=⟨ob,oo+n+i,none⟩) K.out CU.out.lt).trans CU.out.cell))) ?_;go_frame;refine Rg.la 4 (.slice ua l.length uc) ?_;go_frame;go_upto_region 4 with (fail);refine Rg.wl ?_;refine Rg.lm 21 (.slice ua l.length uc) ?_;go_frame;refine Rg.lr 22 (exec_len _ _ _ rfl Tryz.underlying36 _ _ _ rfl) ?_;go_frame;refine Rg.lr 23 (exec_bin (R:=.bool false) .gtr _ _ _ rfl rfl rfl (b_gtr _ Rg.dF)) ?_;go_frame;go_upto_region 6 with (fail);refine Rg.wl ?_;refine Rg.lr 24 (exec_bin (R:=.int .i64 (((i+1):Nat):Int)) .add _ _ _ rfl rfl rfl (b_add _ (by omega) (by omega))) ?_;go_frame
    refine Rg.lm 17 (.int .i64 (((i+1):Nat):Int)) ?_;go_frame;go_wp2
    go_roundw
    case rel=>exact ⟨i+1,by go_num,HIL.out,HS2,K⟩
    case measure=>simp [intOf]; have:=HIL.out; omega
theorem of_bad {d e:Int} {gv hv:Value} {L M:List (List Int)} {w:World} {c:Int} (h:Rg.Rows w gv L) (h':Rg.Rows w hv M) (hc:homC d e L M=c) (h0:c≠0) :
  Calls Tryz.prog 144 #[.agg #[.int .i64 d,gv],.agg #[.int .i64 e,hv]] w fun ed w'=>ed=.returned (.tuple #[.pointer none,.int .i64 c])∧Below w.heap.size w w' :=
 (of_any h h').mono fun _ _ ⟨h1,_,h3⟩=>⟨by rw [← hc]; exact h1 (by rw [hc]; exact h0),h3⟩
theorem of_ok {d e:Int} {gv hv:Value} {L M:List (List Int)} {w:World} (h:Rg.Rows w gv L) (h':Rg.Rows w hv M) (h0:homC d e L M=0) :
  Calls Tryz.prog 144 #[.agg #[.int .i64 d,gv],.agg #[.int .i64 e,hv]] w fun ed w'=>∃ pb oa oc ra rc,ed=.returned (.tuple #[.pointer (some ⟨pb,0,none⟩),.int .i64 0])∧PrAt w' pb d e gv hv oa oc ra rc L M∧Below w.heap.size w w' :=
 (of_any h h').mono fun _ _ ⟨_,h2,h3⟩=>by
  obtain ⟨pb,oa,oc,ra,rc,h4,h5⟩:=h2 h0;exact ⟨pb,oa,oc,ra,rc,h4,h5,h3⟩
noncomputable def rtC (d e:Int) (L M:List (List Int)):Int:=if homC d e L M=0 then (if dfB d.toNat (pO (d+e) (prL L M))=true then 0 else 13) else homC d e L M
theorem rtC_bad {d e:Int} {L M:List (List Int)} (h:homC d e L M≠0):rtC d e L M=homC d e L M:=by unfold rtC; rw [if_neg h]
theorem rtC_yes {d e:Int} {L M:List (List Int)} (h:homC d e L M=0) (h2:dfB d.toNat (pO (d+e) (prL L M))=true):rtC d e L M=0:=by unfold rtC; rw [if_pos h,if_pos h2]
theorem rtC_no {d e:Int} {L M:List (List Int)} (h:homC d e L M=0) (h2:dfB d.toNat (pO (d+e) (prL L M))=false):rtC d e L M=13:=by unfold rtC; rw [if_pos h,if_neg (by rw [h2]; decide)]
def RtPost (d e:Int) (gv hv:Value) (L M:List (List Int)) (w:World) (ed:Ending) (w':World):Prop:=∃ pv,ed=.returned (.tuple #[pv,.int .i64 (rtC d e L M)])∧(homC d e L M=0→∃ pb oa oc ra rc,pv=.pointer (some ⟨pb,0,none⟩)∧PrAt w' pb d e gv hv oa oc ra rc L M)∧Below w.heap.size w w'
theorem right_any' {d e:Int} {gv hv:Value} {L M:List (List Int)} {w:World} (h:Rg.Rows w gv L) (h':Rg.Rows w hv M) :
  Calls Tryz.prog 125 #[.agg #[.int .i64 d,gv],.agg #[.int .i64 e,hv]] w (RtPost d e gv hv L M w):=by
 obtain ⟨ga,gc,rfl,-⟩:=h.shape;obtain ⟨ha,hc,rfl,-⟩:=h'.shape;have HG:=ι h;have HH:=ι h';have K:=ι (Below.refl w.heap.size w);clear h h';obtain ⟨c,hc0⟩:∃ c,Hid (homC d e L M=c):=⟨_,ι rfl⟩
 go_enter Tryz.func125,Tryz.ntmps125
 go_upto_region 0 with (fail);refine Rg.wl ?_;have hbx:=box2t w (.int .i64 d) (.slice ga L.length gc) 24;refine Rg.lr 2 (Rg.exec_box _ _ rfl rfl) ?_;go_frame;have hb:=(Below.refl w.heap.size w).alloc (Nat.le_refl _) (.cells #[.int .i64 d,.slice ga L.length gc] 24);generalize w.alloc (.cells #[.int .i64 d,.slice ga L.length gc] 24)=w1 at *;replace HG:=ι (HG.out.below hb);replace HH:=ι (HH.out.below hb);replace K:=ι (Rg.acc K.out hb);clear hb;have G0:=ι hbx.1;have G1:=ι hbx.2;clear hbx;have hbx:=box2t w1 (.int .i64 e) (.slice ha M.length hc) 24;refine Rg.lr 3 (Rg.exec_box _ _ rfl rfl) ?_;go_frame;have hb:=(Below.refl w1.heap.size w1).alloc (Nat.le_refl _) (.cells #[.int .i64 e,.slice ha M.length hc] 24);generalize w1.alloc (.cells #[.int .i64 e,.slice ha M.length hc] 24)=w2 at *;replace HG:=ι (HG.out.below hb);replace HH:=ι (HH.out.below hb);replace G0:=ι (G0.out.below hb)
 replace G1:=ι (G1.out.below hb);replace K:=ι (Rg.acc K.out hb);clear hb;have H0:=ι hbx.1;have H1:=ι hbx.2;clear hbx;refine Rg.la 4 (.pointer none) ?_;go_frame;refine Rg.la 5 (.int .i64 0) ?_;go_frame
 by_cases h0:c=0
 case neg =>
  have HB:=ι (show homC d e L M≠0 by rw [hc0.out]; exact h0);have HR:=ι (show rtC d e L M=c by rw [rtC_bad HB.out,hc0.out]);go_upto_region 1 with (fail);refine Rg.wl ?_;refine Rg.lr 9 (Rg.exec_load (v:=.agg #[.int .i64 d,.slice ga L.length gc]) _ _ rfl ⟨w.heap.size,0,none⟩ rfl (run_loadG G0.out.cell G1.out.cell)) ?_;go_frame;refine Rg.lr 10 (Rg.exec_load (v:=.agg #[.int .i64 e,.slice ha M.length hc]) _ _ rfl ⟨w1.heap.size,0,none⟩ rfl (run_loadG H0.out.cell H1.out.cell)) ?_;go_frame;refine Rg.lk 11 (exec_fn 144 _ _ _ rfl rfl rfl (Kvcl0 _ _)) ?_;refine (of_bad HG.out HH.out hc0.out h0).mono ?_;rintro e1 w3 ⟨rfl,hb⟩;refine ⟨_,rfl,?_⟩;go_frame;replace HG:=ι (HG.out.below hb);replace HH:=ι (HH.out.below hb);replace G0:=ι (G0.out.below hb);replace G1:=ι (G1.out.below hb);replace H0:=ι (H0.out.below hb);replace H1:=ι (H1.out.below hb);replace K:=ι (Rg.acc K.out hb)
  clear hb;refine Rg.lm 8 (.tuple #[(.pointer none),.int .i64 c]) ?_;go_frame;refine Rg.lr 12 (exec_extract (v:=(.pointer none)) _ _ rfl rfl rfl) ?_;go_frame;refine Rg.lr 13 (exec_extract (v:=.int .i64 c) _ _ rfl rfl rfl) ?_;go_frame;refine Rg.la 6 ((.pointer none)) ?_;go_frame;refine Rg.la 7 (.int .i64 c) ?_;go_frame;go_upto_region 2 with (fail);refine Rg.wl ?_;refine Rg.lm 14 (.int .i64 c) ?_;go_frame;refine Rg.lr 15 (exec_bin (R:=.bool false) .eql _ _ _ rfl rfl rfl (b_eql _ (decide_eq_false h0))) ?_;go_frame;refine Rg.lm 16 (.bool false) ?_;go_frame;refine listW_pass (some 17) (by kernel_rfl) rfl ?_;go_frame;refine listW_pass (some 18) (by kernel_rfl) rfl ?_;go_frame;refine listW_pass (some 19) (by kernel_rfl) rfl ?_;go_frame;refine Rg.lr 20 (exec_pickF (v:=.bool false) _ _ _ rfl rfl rfl) ?_;go_frame;go_upto_region 4 with (fail);refine Rg.wl ?_;refine Rg.lm 21 ((.pointer none)) ?_;go_frame
  refine Rg.lm 22 (.int .i64 c) ?_;go_frame;refine Rg.la 4 ((.pointer none)) ?_;go_frame;refine Rg.la 5 (.int .i64 c) ?_;go_frame;go_wp2
  go_ret2
  exact ⟨_,by rw [HR.out]; rfl,fun h=>absurd h HB.out,K.out⟩
 case pos =>
  have HZ:=ι (hc0.out.trans h0);obtain ⟨n,m,A,B,hmg⟩:=homC_get HZ.out;have HMG:=ι hmg;have HDT:=ι (show d.toNat=n by have:=hmg.dn; omega);obtain ⟨bd,hbd⟩:∃ b,Hid (dfB n (pO (d+e) (prL L M))=b):=⟨_,ι rfl⟩;clear hmg
  cases bd
  case true =>
   have HR:=ι (rtC_yes HZ.out (by rw [HDT.out]; exact hbd.out));go_upto_region 1 with (fail);refine Rg.wl ?_;refine Rg.lr 9 (Rg.exec_load (v:=.agg #[.int .i64 d,.slice ga L.length gc]) _ _ rfl ⟨w.heap.size,0,none⟩ rfl (run_loadG G0.out.cell G1.out.cell)) ?_;go_frame;refine Rg.lr 10 (Rg.exec_load (v:=.agg #[.int .i64 e,.slice ha M.length hc]) _ _ rfl ⟨w1.heap.size,0,none⟩ rfl (run_loadG H0.out.cell H1.out.cell)) ?_;go_frame;refine Rg.lk 11 (exec_fn 144 _ _ _ rfl rfl rfl (Kvcl0 _ _)) ?_;refine (of_ok HG.out HH.out HZ.out).mono ?_;rintro e1 w24 ⟨pb,oa,oc,ra,rc,rfl,hpa,hb⟩;refine ⟨_,rfl,?_⟩;go_frame;replace HG:=ι (HG.out.below hb);replace HH:=ι (HH.out.below hb);replace G0:=ι (G0.out.below hb);replace G1:=ι (G1.out.below hb);replace H0:=ι (H0.out.below hb);replace H1:=ι (H1.out.below hb);replace K:=ι (Rg.acc K.out hb);clear hb;have PA:=ι hpa;refine Rg.lm 8 (.tuple #[.pointer (some ⟨pb,0,none⟩),.int .i64 0]) ?_;go_frame
   refine Rg.lr 12 (exec_extract (v:=.pointer (some ⟨pb,0,none⟩)) _ _ rfl rfl rfl) ?_;go_frame;refine Rg.lr 13 (exec_extract (v:=.int .i64 0) _ _ rfl rfl rfl) ?_;go_frame;refine Rg.la 6 (.pointer (some ⟨pb,0,none⟩)) ?_;go_frame;refine Rg.la 7 (.int .i64 0) ?_;go_frame;clear hpa;go_upto_region 2 with (fail);refine Rg.wl ?_;refine Rg.lm 14 (.int .i64 0) ?_;go_frame;refine Rg.lr 15 (exec_eqI _ _ rfl rfl rfl rfl) ?_;go_frame;refine Rg.lm 16 (.bool true) ?_;go_frame;refine Rg.lW 17 (Rg.xm (.pointer (some ⟨pb,0,none⟩)) _ rfl rfl) ?_;go_frame;refine listW_ask (some 18) rfl rfl _ _ (exec_fn1 145 _ _ rfl rfl (Kvcl1 _ _)) ?_;refine (defined_any PA.out HMG.out).mono ?_;rintro e1 w25 ⟨rfl,hb⟩;rw [hbd.out];refine ⟨_,rfl,?_⟩;go_frame;replace HG:=ι (HG.out.below hb);replace HH:=ι (HH.out.below hb);replace G0:=ι (G0.out.below hb);replace G1:=ι (G1.out.below hb);replace H0:=ι (H0.out.below hb)
   replace H1:=ι (H1.out.below hb);replace PA:=ι (PA.out.below hb);replace K:=ι (Rg.acc K.out hb);clear hb;refine Rg.lW 19 (exec_not _ _ true rfl rfl) ?_;go_frame;refine Rg.lr 20 (exec_pickT (v:=.bool false) _ _ _ rfl rfl rfl) ?_;go_frame;go_upto_region 4 with (fail);refine Rg.wl ?_;refine Rg.lm 21 (.pointer (some ⟨pb,0,none⟩)) ?_;go_frame;refine Rg.lm 22 (.int .i64 0) ?_;go_frame;refine Rg.la 4 (.pointer (some ⟨pb,0,none⟩)) ?_;go_frame;refine Rg.la 5 (.int .i64 0) ?_;go_frame;go_wp2
   go_ret2
   exact ⟨_,by rw [HR.out]; rfl,fun _=>⟨_,_,_,_,_,rfl,PA.out⟩,K.out⟩
  case false =>
   have HR:=ι (rtC_no HZ.out (by rw [HDT.out]; exact hbd.out));go_upto_region 1 with (fail);refine Rg.wl ?_;refine Rg.lr 9 (Rg.exec_load (v:=.agg #[.int .i64 d,.slice ga L.length gc]) _ _ rfl ⟨w.heap.size,0,none⟩ rfl (run_loadG G0.out.cell G1.out.cell)) ?_;go_frame;refine Rg.lr 10 (Rg.exec_load (v:=.agg #[.int .i64 e,.slice ha M.length hc]) _ _ rfl ⟨w1.heap.size,0,none⟩ rfl (run_loadG H0.out.cell H1.out.cell)) ?_;go_frame;refine Rg.lk 11 (exec_fn 144 _ _ _ rfl rfl rfl (Kvcl0 _ _)) ?_;refine (of_ok HG.out HH.out HZ.out).mono ?_;rintro e1 w46 ⟨pb,oa,oc,ra,rc,rfl,hpa,hb⟩;refine ⟨_,rfl,?_⟩;go_frame;replace HG:=ι (HG.out.below hb);replace HH:=ι (HH.out.below hb);replace G0:=ι (G0.out.below hb);replace G1:=ι (G1.out.below hb);replace H0:=ι (H0.out.below hb);replace H1:=ι (H1.out.below hb);replace K:=ι (Rg.acc K.out hb);clear hb;have PA:=ι hpa;refine Rg.lm 8 (.tuple #[.pointer (some ⟨pb,0,none⟩),.int .i64 0]) ?_;go_frame
   refine Rg.lr 12 (exec_extract (v:=.pointer (some ⟨pb,0,none⟩)) _ _ rfl rfl rfl) ?_;go_frame;refine Rg.lr 13 (exec_extract (v:=.int .i64 0) _ _ rfl rfl rfl) ?_;go_frame;refine Rg.la 6 (.pointer (some ⟨pb,0,none⟩)) ?_;go_frame;refine Rg.la 7 (.int .i64 0) ?_;go_frame;clear hpa;go_upto_region 2 with (fail);refine Rg.wl ?_;refine Rg.lm 14 (.int .i64 0) ?_;go_frame;refine Rg.lr 15 (exec_eqI _ _ rfl rfl rfl rfl) ?_;go_frame;refine Rg.lm 16 (.bool true) ?_;go_frame;refine Rg.lW 17 (Rg.xm (.pointer (some ⟨pb,0,none⟩)) _ rfl rfl) ?_;go_frame;refine listW_ask (some 18) rfl rfl _ _ (exec_fn1 145 _ _ rfl rfl (Kvcl1 _ _)) ?_;refine (defined_any PA.out HMG.out).mono ?_;rintro e1 w47 ⟨rfl,hb⟩;rw [hbd.out];refine ⟨_,rfl,?_⟩;go_frame;replace HG:=ι (HG.out.below hb);replace HH:=ι (HH.out.below hb);replace G0:=ι (G0.out.below hb);replace G1:=ι (G1.out.below hb);replace H0:=ι (H0.out.below hb)
   replace H1:=ι (H1.out.below hb);replace PA:=ι (PA.out.below hb);replace K:=ι (Rg.acc K.out hb);clear hb;refine Rg.lW 19 (exec_not _ _ false rfl rfl) ?_;go_frame;refine Rg.lr 20 (exec_pickT (v:=.bool true) _ _ _ rfl rfl rfl) ?_;go_frame;go_upto_region 3 with (fail);refine Rg.wl ?_;refine Rg.la 7 (.int .i64 13) ?_;go_frame;go_upto_region 4 with (fail);refine Rg.wl ?_;refine Rg.lm 21 (.pointer (some ⟨pb,0,none⟩)) ?_;go_frame;refine Rg.lm 22 (.int .i64 13) ?_;go_frame;refine Rg.la 4 (.pointer (some ⟨pb,0,none⟩)) ?_;go_frame;refine Rg.la 5 (.int .i64 13) ?_;go_frame;go_wp2
   go_ret2
   exact ⟨_,by rw [HR.out]; rfl,fun _=>⟨_,_,_,_,_,rfl,PA.out⟩,K.out⟩
theorem turned_any {d e:Int} {gv hv:Value} {oa:Option Addr} {oc:Nat} {ra:Option Addr} {rc:Nat} {L M:List (List Int)} {pb:Nat} {w:World} (h:PrAt w pb d e gv hv oa oc ra rc L M) (hz:homC d e L M=0) :
  Calls Tryz.prog 130 #[.pointer (some ⟨pb,0,none⟩)] w fun ed w'=>∃ qb oa2 oc2 ra2 rc2,ed=.returned (.pointer (some ⟨qb,0,none⟩))∧PrAt w' qb e d hv gv oa2 oc2 ra2 rc2 M L∧Below w.heap.size w w':=by
 obtain ⟨ga,gc,rfl,-⟩:=h.rg.shape;obtain ⟨ha,hc,rfl,-⟩:=h.rh.shape;have PA:=ι h;have HZ:=ι (homC_swap hz);have K:=ι (Below.refl w.heap.size w);clear h hz
 go_enter Tryz.func130,Tryz.ntmps130
 go_upto_region 0 with (fail);refine Rg.wl ?_;refine Rg.la 2 (.pointer none) ?_;go_frame;go_upto_region 1 with (fail);have hV0:Below w.heap.size w w.drew:=(Below.refl _ _).drew;replace PA:=ι (PA.out.below hV0);replace K:=ι (Rg.acc K.out hV0);clear hV0;refine Rg.Any.begin (S:=Rg.Both 13 (fun _=>True) (fun W=>Below w.drew.heap.size w.drew W)) mix ?_;generalize w.drew=w1 at *;have hS:∀ (l:Array Bool) W,Below w1.heap.size w1 W→Rg.Both 13 (fun _=>True) (fun W=>Below w1.heap.size w1 W) l W:=fun l W h=>⟨.inr trivial,h⟩;have hI:Below w1.heap.size w1 w1:=Below.refl _ _;refine Rg.tm 0 13 (.pointer (some ⟨pb,0,none⟩)) 6 (hS _ _ hI) ?_;go_frame;refine Rg.tg 1 13 (.pointer (some ⟨pb,0,none⟩)) 7 rfl rfl (.inl ⟨rfl,fun w _=>exec_nil _ rfl rfl⟩) (hS _ _ hI) ?_;go_frame;refine Rg.tg 2 13 (.pointer (some ⟨pb,5,none⟩)) 8 rfl rfl (.inl ⟨rfl,fun w _=>exec_field _ rfl rfl (prF2 _ _)⟩) (hS _ _ hI) ?_;go_frame
 refine Rg.tg 3 13 (.agg #[.int .i64 e,.slice ha M.length hc]) 9 rfl rfl (Rg.yields_cell _ _ rfl rfl ⟨pb,5,none⟩ rfl (fun W hW=>run_loadG5 ((Below.cell (p:=⟨pb,5,none⟩) hW PA.out.lt).trans PA.out.c5) ((Below.cell (p:=⟨pb,6,none⟩) hW PA.out.lt).trans PA.out.c6))) (hS _ _ hI) ?_;go_frame;refine Rg.tm 4 13 (.pointer (some ⟨pb,0,none⟩)) 10 (hS _ _ hI) ?_;go_frame;refine Rg.tg 5 13 (.pointer (some ⟨pb,0,none⟩)) 11 rfl rfl (.inl ⟨rfl,fun w _=>exec_nil _ rfl rfl⟩) (hS _ _ hI) ?_;go_frame;refine Rg.tg 6 13 (.pointer (some ⟨pb,3,none⟩)) 12 rfl rfl (.inl ⟨rfl,fun w _=>exec_field _ rfl rfl (prF1 _ _)⟩) (hS _ _ hI) ?_;go_frame;refine Rg.tg 7 13 (.agg #[.int .i64 d,.slice ga L.length gc]) 13 rfl rfl (Rg.yields_cell _ _ rfl rfl ⟨pb,3,none⟩ rfl (fun W hW=>run_loadG3 ((Below.cell (p:=⟨pb,3,none⟩) hW PA.out.lt).trans PA.out.c3) ((Below.cell (p:=⟨pb,4,none⟩) hW PA.out.lt).trans PA.out.c4))) (hS _ _ hI) ?_;go_frame
 refine Rg.Any.one (i:=8) (by kernel_rfl) (Rg.Any.ask (some 14) rfl rfl rfl _ _ (exec_fn 144 _ _ _ rfl rfl rfl (Kvcl0 _ _)) ?_);refine (of_ok PA.out.rh PA.out.rg HZ.out).mono ?_;rintro e1 w2 ⟨qb,oa2,oc2,ra2,rc2,rfl,hqa,hb⟩;have hI2_0:=Rg.acc hI hb;clear hb hI;refine ⟨_,rfl,(hS _ _ hI2_0),?_⟩;go_frame;have QA:=ι hqa;refine Rg.tm 9 13 (.tuple #[.pointer (some ⟨qb,0,none⟩),.int .i64 0]) 5 (hS _ _ hI2_0) ?_;go_frame;refine Rg.tg 10 13 (.pointer (some ⟨qb,0,none⟩)) 15 rfl rfl (.inl ⟨rfl,fun w _=>exec_extract (v:=.pointer (some ⟨qb,0,none⟩)) _ _ rfl rfl rfl⟩) (hS _ _ hI2_0) ?_;go_frame;refine Rg.tg 11 13 (.int .i64 0) 16 rfl rfl (.inl ⟨rfl,fun w _=>exec_extract (v:=.int .i64 0) _ _ rfl rfl rfl⟩) (hS _ _ hI2_0) ?_;go_frame;refine Rg.tg 12 13 (.pointer (some ⟨qb,0,none⟩)) 3 rfl rfl (.inl ⟨rfl,fun w _=>Rg.exec_assign (v:=.pointer (some ⟨qb,0,none⟩)) _ rfl rfl⟩) (hS _ _ hI2_0) ?_;go_frame
 refine Rg.Any.one (i:=13) (by kernel_rfl) (Rg.Any.run (some 4) rfl rfl rfl (Rg.xa (.int .i64 0) _ rfl rfl) (hS _ _ hI2_0) ?_);go_frame;refine Rg.Any.done (by kernel_rfl) ?_ _;replace PA:=ι (PA.out.below hI2_0);replace K:=ι (Rg.acc K.out hI2_0);clear hS hI2_0;go_upto_region 2 with (fail);refine Rg.wl ?_;refine Rg.lm 17 (.pointer (some ⟨qb,0,none⟩)) ?_;go_frame;refine Rg.la 2 (.pointer (some ⟨qb,0,none⟩)) ?_;go_frame;go_wp2;go_ret;exact ⟨_,_,_,_,_,rfl,QA.out,K.out⟩
end Go.Proofs.YthehbckogieimaaGreat

namespace Go.Proofs.YthehbckogieimaaGreat
open Go.RowKit
open Go.Proofs
open Go.Proofs.Ob
open Go.Shelf
open Go.Proofs.Cm (Tr)
attribute [local go_sem] Oper.semAt_some
attribute [local irreducible] Go.Calls Go.wpList Go.wpListIn
theorem exec_boxV {P:Program} {o:Oper} {a:Act} {w:World} {v:Value} (t:TypeId) (x:Operand) (ho:o.op=.box t x) (hx:a.eval x=v) (hv:v.cells=#[v]) :
  (execOp a.eval o).run P w=.ok (.value (.pointer (some ⟨w.heap.size,0,none⟩))) (w.alloc (.cells #[v] t)):=by
 unfold execOp;simp [ho,hx,Instr.box,newVar,newRow,hv,Result.andThen]
end Go.Proofs.YthehbckogieimaaGreat
