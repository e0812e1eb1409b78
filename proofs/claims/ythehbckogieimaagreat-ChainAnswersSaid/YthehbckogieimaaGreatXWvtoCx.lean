/- Lemmas and contracts on the way to the statement; no condition of their own beyond those written. -/
import Derived.Test.YthehbckogieimaaGreatXWntoCu
import Derived.RangeFuncWrites
import Derived.RangeFuncNested
import Derived.RangeFuncBox
import Derived.RangeFuncLeaves
import Derived.Shelf.Abstract
import Derived.OwnWalkIn
import Derived.TacticsInMore
import Derived.LoopNIn
import Derived.LoopIn
import Derived.Maps.AppendAt
import Derived.Sort.CutIn
import Derived.Deep.CutRange
import Derived.Deep.CutBlock
import Derived.IntWalk
import Derived.Great.BuildSlice
import Derived.ArgAppend
import Derived.Laws.CopyOwn
import Derived.StillTailTactics
import Derived.Deep.MidRow
import Derived.WalkSpells
import Derived.WalkLawsBesides
import Derived.OwnWalk
import Derived.OrdersHeld
import Derived.Deep.OwnRows
import Derived.WalkKit
import Derived.Lib.Hide
import Derived.Laws.OwnMore
import Derived.Test.YthehbckogieimaaGreatProg
import Derived.Outline
import Derived.Deep.DeepFit
import Derived.BigQuiet
import Derived.Deep.QuietTactic
import Derived.Sort.OwnSortedInts
import Derived.WideMake
import Derived.MapKept
import Derived.ChangeMaps5
import Derived.Shelf.Sort.Plain
import Derived.Lib.ConvBytes
import Derived.OrdersIn
import Derived.TacticsIn
import Derived.ChangeKeysEq
import Derived.Laws.Cells
import Derived.Laws.Rows
import Derived.Laws.Tables
import Derived.Deep.WholeRow
import Derived.Deep.LoopGhost
import Derived.Lib.SlicesSearch
set_option linter.unusedVariables false
set_option linter.unusedSimpArgs false
set_option maxRecDepth 100000
set_option maxHeartbeats 8000000
namespace Go.Proofs.YthehbckogieimaaGreat
open Go.RowKit
open Go.Proofs
open Go.Proofs.Ob
open Go.Shelf
open Go.Proofs.Cm (Lv Twr trOf)
attribute [local go_sem] Oper.semAt_some
attribute [local irreducible] Go.Calls Go.wpList Go.wpListIn
theorem Wvcl0 (args:Array Value) (w:World):(callFunc 114 args).run Tryz.prog w=.ok (.enter 114 args) w:=by kernel_rfl
theorem Wvcl1 (args:Array Value) (w:World):(callFunc 115 args).run Tryz.prog w=.ok (.enter 115 args) w:=by kernel_rfl
theorem Wvcl4 (args:Array Value) (w:World):(callFunc 116 args).run Tryz.prog w=.ok (.enter 116 args) w:=by kernel_rfl
theorem infoErrno:(Tryz.prog.info? 28).map (fun i=>(i.zero,i.size,i.bytes))=some (some (.int .i64 0),1,8):=by kernel_rfl
theorem exec_allocE {o:Oper} {a:Act} {w:World} (ho:o.op=.alloc 28):(execOp a.eval o).run Tryz.prog w=.ok (.value (.pointer (some ⟨w.heap.size,0,none⟩))) (w.alloc (.cells #[.int .i64 0] 28)):=by
 obtain ⟨i0,hi,hz0,hz1,hz2⟩:=info_parts infoErrno;unfold execOp;simp [ho,Instr.alloc,typeInfo,zeroValue,hi,hz0,newVar,Value.cells,Result.andThen];rfl
theorem exec_allocI {o:Oper} {a:Act} {w:World} (ho:o.op=.alloc 3):(execOp a.eval o).run Tryz.prog w=.ok (.value (.pointer (some ⟨w.heap.size,0,none⟩))) (w.alloc (.cells #[.int .i64 0] 3)):=by
 obtain ⟨i0,hi,hz0,hz1,hz2⟩:=info_parts intsInfo;unfold execOp;simp [ho,Instr.alloc,typeInfo,zeroValue,hi,hz0,newVar,Value.cells,Result.andThen];rfl
theorem exec_allocPs {o:Oper} {a:Act} {w:World} (ho:o.op=.alloc 22):(execOp a.eval o).run Tryz.prog w=.ok (.value (.pointer (some ⟨w.heap.size,0,none⟩))) (w.alloc (.cells #[.slice none 0 0] 22)):=by
 obtain ⟨i0,hi,hz0,hz1,hz2⟩:=info_parts infoPermsV;unfold execOp;simp [ho,Instr.alloc,typeInfo,zeroValue,hi,hz0,newVar,Value.cells,Result.andThen];rfl
theorem run_storeE {w:World} {b o:Nat} {u:Value} (v:Int) (h:w.cell? ⟨b,o,none⟩=some u) (hf:w.frozen? ⟨b,o,none⟩=false) :
  (storeVar 28 ⟨b,o,none⟩ (.int .i64 v)).run Tryz.prog w=.ok () (w.setCell ⟨b,o,none⟩ (.int .i64 v)):=by
 obtain ⟨i0,hi,hz0,hz1,hz2⟩:=info_parts infoErrno
 have h0:(⟨b,o,none⟩:Addr).add 0=⟨b,o,none⟩:=by simp [Addr.add]
 simp [storeVar,sizeOf,typeInfo,hi,hz1,Value.cells,storeCells,store,h0];simp [Sem.run,h,hf]
theorem run_loadE {w:World} {ad:Addr} {v:Value} (h:w.cell? ad=some v):(loadVar 28 ad).run Tryz.prog w=.ok v w:=by
 simp [loadVar,isAgg,run_underlying Tryz.underlying28,load];simp [Sem.run,h]
theorem results_cellE {fn:Func} {p:Go.Tmp} (h:fn.results=#[.cell p 28]) (tmps:Array Value) {w:World} {b:Nat} {v:Value} (hp:tmps.getD p undef=.pointer (some ⟨b,0,none⟩)) (hc:w.cell? ⟨b,0,none⟩=some v) :
  (results fn tmps).run Tryz.prog w=.ok v w:=by
 have hp':tmps[p]?.getD undef=.pointer (some ⟨b,0,none⟩):=by simpa using hp
 simp [results,h,hp',asAddr,run_loadE hc]
theorem run_loadC3 {w:World} {b:Nat} {x y z:Value} (h0:w.cell? ⟨b,0,none⟩=some x) (h1:w.cell? ⟨b,1,none⟩=some y) (h2:w.cell? ⟨b,2,none⟩=some z):(loadVar 54 ⟨b,0,none⟩).run Tryz.prog w=.ok (.agg #[x,y,z]) w:=by
 obtain ⟨i0,hi,hz0,hz1,hz2⟩:=info_parts infoChain
 have ha0:(⟨b,0,none⟩:Addr).add 0=⟨b,0,none⟩:=by simp [Addr.add]
 have ha1:(⟨b,0,none⟩:Addr).add 1=⟨b,1,none⟩:=by simp [Addr.add]
 have ha2:(⟨b,0,none⟩:Addr).add 2=⟨b,2,none⟩:=by simp [Addr.add]
 have hg:(isAgg 54).run Tryz.prog w=.ok true w:=by kernel_rfl
 simp [loadVar,hg,sizeOf,typeInfo,hi,hz1,loadCells,loadCellsFrom,load,ha0,ha1,ha2];simp [Sem.run,h0,h1,h2]
structure CW (w:World) (b:Nat) (v:Value):Prop where
 c:w.cell? ⟨b,0,none⟩=some v
 f:w.frozen? ⟨b,0,none⟩=false
 lt:b<w.heap.size
theorem CW.below {w w':World} {b:Nat} {v:Value} (h:CW w b v) (hb:Below w.heap.size w w'):CW w' b v:=⟨(hb.cell (p:=⟨b,0,none⟩) h.lt).trans h.c,(hb.frozen (p:=⟨b,0,none⟩) h.lt).trans h.f,Nat.lt_of_lt_of_le h.lt hb.size⟩
theorem CW.new (w:World) (v:Value) (t:TypeId):CW (w.alloc (.cells #[v] t)) w.heap.size v:=⟨by rw [Rg.cellNew]; rfl,frozenNewN _ _ _ 0 _,by simp⟩
theorem CW.set {w:World} {b:Nat} {u:Value} (h:CW w b u) (v:Value):CW (w.setCell ⟨b,0,none⟩ v) b v:=⟨World.cell?_setCell_same (h:=h.c) ..,by rw [World.frozen?_setCell]; exact h.f,by simpa using h.lt⟩
theorem CW.other {w:World} {b b' o:Nat} {u:Value} (h:CW w b u) (v:Value) (hne:b≠b'):CW (w.setCell ⟨b',o,none⟩ v) b u:=⟨by rw [World.cell?_setCell_other (h:=by intro e; injection e with e1 e2; omega) ..]; exact h.c,by rw [World.frozen?_setCell]; exact h.f,by simpa using h.lt⟩
theorem CL.other {w:World} {b b' o o':Nat} {u:Value} (h:CL w b o' u) (v:Value) (hne:b≠b'):CL (w.setCell ⟨b',o,none⟩ v) b o' u:=⟨by rw [World.cell?_setCell_other (h:=by intro e; injection e with e1 e2; omega) ..]; exact h.cell,by simpa using h.lt⟩
theorem CW.kp {M:Nat→Prop} {w w':World} {b:Nat} {v:Value} (h:CW w b v) (hk:Rg.Kp M w w') (hM:¬ M b):CW w' b v :=
 ⟨(World.cell?_of_block (a:=⟨b,0,none⟩) (hk.block b h.lt hM)).trans h.c,(World.frozen?_of_block (a:=⟨b,0,none⟩) (hk.block b h.lt hM)).trans h.f,Nat.lt_of_lt_of_le h.lt hk.size⟩
theorem CL.kp {M:Nat→Prop} {w w':World} {b o:Nat} {v:Value} (h:CL w b o v) (hk:Rg.Kp M w w') (hM:¬ M b):CL w' b o v :=
 ⟨(World.cell?_of_block (a:=⟨b,o,none⟩) (hk.block b h.lt hM)).trans h.cell,Nat.lt_of_lt_of_le h.lt hk.size⟩
structure CkI (w:World) (n:Int) (ov rv:Value) (W:World) (v:Value) (gs:List (List Nat)):Prop where
 bel:Below w.heap.size w W
 a0:CL W w.heap.size 0 (.int .i64 n)
 a1:CL W w.heap.size 1 ov
 a2:CL W w.heap.size 2 rv
 c2:CW W (w.heap.size+1) (.int .i64 0)
 c3:CW W (w.heap.size+2) (.int .i64 n)
 c4:CW W (w.heap.size+3) v
 row:RowF (fun k=>k<w.heap.size) (w.heap.size+4) W v gs
theorem CkI.below {w:World} {n:Int} {ov rv:Value} {W W':World} {v:Value} {gs:List (List Nat)} (h:CkI w n ov rv W v gs) (hb:Below W.heap.size W W'):CkI w n ov rv W' v gs :=
 ⟨Rg.acc h.bel hb,h.a0.below hb,h.a1.below hb,h.a2.below hb,h.c2.below hb,h.c3.below hb,h.c4.below hb,h.row.below hb⟩
theorem CkI.keep {w:World} {n:Int} {ov rv:Value} {W W':World} {v:Value} {gs:List (List Nat)} {row:Option Nat} {B:Nat} (h:CkI w n ov rv W v gs) (hB:w.heap.size+4≤B) (hg:W.grownBy W' row) (hr:∀ r,row=some r→B≤r∧∃ o:Obj,W.heap[r]?=some o∧o.isCells=false):CkI w n ov rv W' v gs:=by
 have hk:Rg.Kp (fun k=>row=some k) W W':=Rg.Kp.of_grown hg fun _ e=>e
 have hM:∀ b,b<B→¬ row=some b:=fun b hb e=>by have:=(hr b e).1; omega
 obtain ⟨us,h1,h2⟩:=h.row.own;refine ⟨h.bel.grown hg h.bel.size (fun k e=>by have:=(hr k e).1; omega),h.a0.kp hk (hM _ (by omega)),h.a1.kp hk (hM _ (by omega)),h.a2.kp hk (hM _ (by omega)),h.c2.kp hk (hM _ (by omega)),h.c3.kp hk (hM _ (by omega)),h.c4.kp hk (hM _ (by omega)),⟨Nat.le_trans h.row.size hk.size,us,rowKp h1 hk (fun k e1 e2=>?_),h2.kp hk (fun k hk2=>hM k (by omega))⟩⟩;obtain ⟨_,o,ho,hc⟩:=hr k e1;obtain ⟨_,h3⟩:=h1
 rcases h3 with ⟨h4,_⟩ | ⟨g,cap,cur,h4,_,h5,_⟩
 ·rw [h4] at e2; simp [Value.ownBlock] at e2
 ·rw [h4] at e2
  simp [Value.ownBlock] at e2;subst e2;rw [h5] at ho
  cases ho; cases hc
def rowOf (RR:List (List (List Int))) {m:Nat} (x:Fin m):List (List Int):=RR.getD x.1 []
theorem CW.upto {B:Nat} {w w':World} {b:Nat} {v:Value} (h:CW w b v) (hb:Below B w w') (hB:b<B):CW w' b v:=⟨(hb.cell (p:=⟨b,0,none⟩) hB).trans h.c,(hb.frozen (p:=⟨b,0,none⟩) hB).trans h.f,Nat.lt_of_lt_of_le h.lt hb.size⟩
theorem CL.upto {B:Nat} {w w':World} {b o:Nat} {v:Value} (h:CL w b o v) (hb:Below B w w') (hB:b<B):CL w' b o v:=⟨(hb.cell (p:=⟨b,o,none⟩) hB).trans h.cell,Nat.lt_of_lt_of_le h.lt hb.size⟩
theorem ChEqR.mk {w:World} {ov rv:Value} {OO:List (List Int)} {RR:List (List (List Int))} (h1:Rg.Rows w ov OO) (h2:Rows2 w rv RR):ChEqR w ov rv OO RR:=⟨h1,h2⟩
theorem ChEqR.upto {w w':World} {ov rv:Value} {OO:List (List Int)} {RR:List (List (List Int))} (h:ChEqR w ov rv OO RR) (hb:Below w.heap.size w w'):ChEqR w' ov rv OO RR:=h.below hb
theorem _root_.Go.Proofs.RF.Dfr.below {D:Nat} {W W':World} (h:RF.Dfr D W) (hb:Below W.heap.size W W'):RF.Dfr D W':=h.of_below' hb
theorem KK.below {B n₀:Nat} {W W' W'':World} (h:KK B n₀ W W') (hb:Below W'.heap.size W' W''):KK B n₀ W W'':=h.acc hb
theorem chSame_b {n m:Int} {ov rv ov' rv':Value} {OO OO':List (List Int)} {RR RR':List (List (List Int))} {w:World} (h1:ChEqR w ov rv OO RR) (h2:ChEqR w ov' rv' OO' RR') {b:Bool} (hb:Hid (decide (n=m∧OO=OO'∧RR=RR')=b)) :
  Calls Tryz.prog 116 #[.agg #[.int .i64 n,ov,rv],.agg #[.int .i64 m,ov',rv']] w fun e w'=>e=.returned (.bool b)∧Below w.heap.size w w':=by
 rw [← hb.out]; exact chSame_any h1 h2
theorem CkI.store {w:World} {n:Int} {ov rv:Value} {W X:World} {v v':Value} {gs gs':List (List Nat)} (h:CkI w n ov rv W v gs) (hb:Below (w.heap.size+4) W X) (hr:RowF (fun k=>k<w.heap.size) (w.heap.size+4) X v' gs'):CkI w n ov rv (X.setCell ⟨w.heap.size+3,0,none⟩ v') v' gs':=by
 have hk:Rg.Kp (fun z=>z=w.heap.size+3) X (X.setCell ⟨w.heap.size+3,0,none⟩ v'):=Rg.Kp.of_setCell rfl;obtain ⟨us,q1,q2⟩:=hr.own;refine ⟨(h.bel.trans (hb.mono (by omega))).setCell (p:=⟨w.heap.size+3,0,none⟩) (by show w.heap.size≤w.heap.size+3; omega) _,(h.a0.upto hb (by omega)).other _ (by omega),(h.a1.upto hb (by omega)).other _ (by omega),(h.a2.upto hb (by omega)).other _ (by omega),(h.c2.upto hb (by omega)).other _ (by omega),(h.c3.upto hb (by omega)).other _ (by omega),(h.c4.upto hb (by omega)).set _,⟨Nat.le_trans hr.size hk.size,us,rowKp q1 hk (fun k e1 e2=>by have:=(q1.lt k e2).1; omega),q2.kp hk (fun k hk2 e=>by omega)⟩⟩
theorem KK.row {B n₀:Nat} {W W1 X:World} {F:Nat→Prop} {B2:Nat} {v:Value} {gs:List (List Nat)} (h:KK B n₀ W W1) (hk:Rg.Kp (fun k=>v.ownBlock=some k) W1 X) (hr:RowF F B2 W1 v gs) (hn:n₀≤B2):KK B n₀ W X:=by
 obtain ⟨us,q1,q2⟩:=hr.own
 have hcells:∀ j o,v.ownBlock=some j→W1.heap[j]?=some o→o.isCells=true:=fun j o e1 e2=>by
  obtain ⟨_,h3⟩:=q1
  rcases h3 with ⟨h4,_⟩ | ⟨g,cap,cur,h4,_,h5,_⟩
  ·rw [h4] at e1; simp [Value.ownBlock] at e1
  ·rw [h4] at e1
   simp [Value.ownBlock] at e1;subst e1;rw [h5] at e2
   cases e2; rfl
 refine ⟨h.keeps.trans ⟨hk.size,fun k o _ hk2 ho=>(hk.block k (Array.getElem?_eq_some_iff.1 hk2).1 (fun e=>by rw [hcells k o e hk2] at ho; cases ho)).trans hk2⟩,h.bel.trans ⟨hk.os,hk.tape,hk.output,hk.size,fun k hk2=>hk.block k (by have:=h.bel.size; have:=h.le; omega) (fun e=>by have:=(q1.lt k e).1; omega)⟩,h.le⟩
theorem finTo_flat {RR:List (List (List Int))}:(finTo RR.length RR.length).flatMap (rowOf RR)=RR.flatten:=by
 rw [finTo_all];rw [List.flatMap_def]
 congr 1
 refine List.ext_getElem (by simp) fun i h1 h2=>?_;simp only [List.getElem_map,List.getElem_finRange];exact getD_inf h2
def CkPost (n:Int) (OO:List (List Int)) (RR:List (List (List Int))) (w:World) (e:Ending) (w':World):Prop:=∃ c,e=.returned (.int .i64 c)∧ChC n OO RR c∧Below w.heap.size w w'
theorem ck_leave {n:Int} {OO:List (List Int)} {RR:List (List (List Int))} {w W:World} {tmps:Array Value} {c:Int} {ds:List Nat} (hb:Below w.heap.size w W) (hc:CW W (w.heap.size+1) (.int .i64 c)) (hC:ChC n OO RR c) (hp:tmps.getD 2 undef=.pointer (some ⟨w.heap.size+1,0,none⟩)) (hnd:ds.Nodup) (hD:∀ D,D∈ds→RF.Dfr D W∧w.heap.size≤D) :
  LeavesInM Fence.wide 0 Tryz.prog Tryz.f42 tmps (CkPost n OO RR w) (ds.map RF.mark) .returning W :=
 RF.leaves w.heap.size ds W hnd hD fun _ l1 l2 _=>⟨_,results_cellE rfl _ hp ((l2 _).trans hc.c),c,rfl,hC,hb.trans l1⟩
theorem chCheck_any {n:Int} {ov rv:Value} {OO:List (List Int)} {RR:List (List (List Int))} {w:World} (h:ChEqR w ov rv OO RR) :
  Calls Tryz.prog 42 #[.agg #[.int .i64 n,ov,rv]] w (CkPost n OO RR w):=by
 obtain ⟨oa,oc,rfl,_,hoL,_,_⟩:=h.1.shape;obtain ⟨ra,rc,rfl⟩:=h.2.shape;have HO:=ι h.1;have HR:=ι h.2;have K:=ι (Below.refl w.heap.size w)
 have hrL:RR.length≤1000000000:=by
  obtain ⟨us,⟨a,c,e,_,_,e2,_⟩,h2,_⟩:=h.2;unfold Rg.big at e2;omega
 have H:=ι h;clear h;refine RF.calls_marks Tryz.func42 rfl ?_;simp only [Tryz.ntmps42,List.size_toArray,List.length_cons,List.length_nil,Nat.reduceAdd,Nat.reduceSub,Array.replicate_succ,Array.replicate_zero,List.push_toArray,List.append_toArray,List.nil_append,List.cons_append];have hbx:=box3 w (.int .i64 n) (.slice oa OO.length oc) (.slice ra RR.length rc)
 have hs:(w.alloc (.cells #[.int .i64 n,.slice oa OO.length oc,.slice ra RR.length rc] 54)).heap.size=w.heap.size+1:=by simp
 go_upto_region 0 with (fail);refine Rg.wl ?_;refine Rg.lr 1 (Rg.exec_box _ _ rfl rfl) ?_;go_frame;have hb:Below w.heap.size w (w.alloc (.cells #[.int .i64 n,.slice oa OO.length oc,.slice ra RR.length rc] 54)):=(Below.refl _ _).alloc (Nat.le_refl _) _;generalize w.alloc (.cells #[.int .i64 n,.slice oa OO.length oc,.slice ra RR.length rc] 54)=w1 at *;have A0:=ι hbx.1;have A1:=ι hbx.2.1;have A2:=ι hbx.2.2;replace K:=ι hb;have hs1:w1.heap.size=w.heap.size+1:=hs;clear hbx hb hs;have hnw:=CW.new w1 (.int .i64 0) 28
 have hs:(w1.alloc (.cells #[.int .i64 0] 28)).heap.size=w1.heap.size+1:=by simp
 refine Rg.lr 2 (exec_allocE rfl) ?_;go_frame;have hb:=(Below.refl w1.heap.size w1).alloc (Nat.le_refl _) (.cells #[.int .i64 0] 28);generalize w1.alloc (.cells #[.int .i64 0] 28)=w2 at *;replace A0:=ι (A0.out.below hb);replace A1:=ι (A1.out.below hb);replace A2:=ι (A2.out.below hb);replace K:=ι (Rg.acc K.out hb);clear hb;rw [hs1] at hnw ⊢
 have hs2:w2.heap.size=w.heap.size+2:=by omega
 have C2:=ι hnw;clear hnw hs;go_upto_region 1 with (fail);refine Rg.wl ?_;refine Rg.lr 9 (exec_field _ rfl rfl (chF0 _ _)) ?_;go_frame;refine Rg.lr 10 (Rg.exec_load (v:=.int .i64 n) _ _ rfl ⟨w.heap.size,0,none⟩ rfl (run_loadInt A0.out.cell)) ?_;go_frame;have hnw:=CW.new w2 (.int .i64 0) 3
 have hs:(w2.alloc (.cells #[.int .i64 0] 3)).heap.size=w2.heap.size+1:=by simp
 refine Rg.lr 3 (exec_allocI rfl) ?_;go_frame;have hb:=(Below.refl w2.heap.size w2).alloc (Nat.le_refl _) (.cells #[.int .i64 0] 3);generalize w2.alloc (.cells #[.int .i64 0] 3)=w3 at *;replace A0:=ι (A0.out.below hb);replace A1:=ι (A1.out.below hb);replace A2:=ι (A2.out.below hb);replace C2:=ι (C2.out.below hb);replace K:=ι (Rg.acc K.out hb);clear hb;rw [hs2] at hnw ⊢
 have hs3:w3.heap.size=w.heap.size+3:=by omega
 have C3:=ι hnw;clear hnw hs;refine Rg.list_skip none rfl rfl (Rg.exec_store _ _ _ rfl _ rfl _ rfl (run_storeInt n C3.out.c C3.out.f)) ?_;go_frame;have hk:=K.out.setCell (p:=⟨w.heap.size+2,0,none⟩) (by show w.heap.size≤w.heap.size+2; omega) (.int .i64 n);have x0:=A0.out.other (o:=0) (b':=w.heap.size+2) (.int .i64 n) (by omega);have x1:=A1.out.other (o:=0) (b':=w.heap.size+2) (.int .i64 n) (by omega);have x2:=A2.out.other (o:=0) (b':=w.heap.size+2) (.int .i64 n) (by omega);have y2:=C2.out.other (o:=0) (b':=w.heap.size+2) (.int .i64 n) (by omega);have y3:=C3.out.set (.int .i64 n)
 have hs4:(w3.setCell ⟨w.heap.size+2,0,none⟩ (.int .i64 n)).heap.size=w.heap.size+3:=by simp; omega
 generalize w3.setCell ⟨w.heap.size+2,0,none⟩ (.int .i64 n)=w9 at *;replace K:=ι hk;replace A0:=ι x0;replace A1:=ι x1;replace A2:=ι x2;replace C2:=ι y2;replace C3:=ι y3;clear hk x0 x1 x2 y2 y3
 by_cases hd1:n<1
 ·skip
  go_upto_region 2 with (fail);refine Rg.wl ?_;refine Rg.lr 11 (Rg.exec_load (v:=.int .i64 n) _ _ rfl ⟨(w.heap.size+2),0,none⟩ rfl (run_loadInt C3.out.c)) ?_;go_frame;refine Rg.lr 12 (exec_bin (R:=.bool true) .lss _ _ _ rfl rfl rfl (b_lss _ (decide_eq_true (by omega)))) ?_;go_frame;refine Rg.lm 13 (.bool true) ?_;go_frame;refine listW_pass (some 14) (by kernel_rfl) rfl ?_;go_frame;refine listW_pass (some 15) (by kernel_rfl) rfl ?_;go_frame;refine Rg.lr 16 (exec_pickT (v:=.bool true) _ _ _ rfl rfl rfl) ?_;go_frame;go_upto_region 3 with (fail);refine Rg.wl ?_;refine Rg.list_skip none rfl rfl (Rg.exec_store _ _ _ rfl _ rfl _ rfl (run_storeE 2 C2.out.c C2.out.f)) ?_;go_frame;have hk:=K.out.setCell (p:=⟨w.heap.size+1,0,none⟩) (by show w.heap.size≤w.heap.size+1; omega) (.int .i64 2);have y2:=C2.out.set (.int .i64 2);generalize w9.setCell ⟨w.heap.size+1,0,none⟩ (.int .i64 2)=w99 at *
  have KX:=ι hk;have CX:=ι y2;have HCX:=ι (show ChC n OO RR 2 from .inl ⟨by omega,rfl⟩);clear hk y2;go_wp2;exact ck_leave (ds:=[]) KX.out CX.out HCX.out rfl (by simp) (fun D hD=>by simp at hD)
 by_cases hd2:64<n
 ·skip
  go_upto_region 2 with (fail);refine Rg.wl ?_;refine Rg.lr 11 (Rg.exec_load (v:=.int .i64 n) _ _ rfl ⟨(w.heap.size+2),0,none⟩ rfl (run_loadInt C3.out.c)) ?_;go_frame;refine Rg.lr 12 (exec_bin (R:=.bool false) .lss _ _ _ rfl rfl rfl (b_lss _ (decide_eq_false (by omega)))) ?_;go_frame;refine Rg.lm 13 (.bool false) ?_;go_frame;refine listW_run (some 14) rfl rfl (Rg.exec_load (v:=.int .i64 n) _ _ rfl ⟨(w.heap.size+2),0,none⟩ rfl (run_loadInt C3.out.c)) ?_;go_frame;refine listW_run (some 15) rfl rfl (exec_bin (R:=.bool true) .gtr _ _ _ rfl rfl rfl (b_gtr _ (decide_eq_true (by omega)))) ?_;go_frame;refine Rg.lr 16 (exec_pickF (v:=.bool true) _ _ _ rfl rfl rfl) ?_;go_frame;go_upto_region 3 with (fail);refine Rg.wl ?_;refine Rg.list_skip none rfl rfl (Rg.exec_store _ _ _ rfl _ rfl _ rfl (run_storeE 2 C2.out.c C2.out.f)) ?_;go_frame;have hk:=K.out.setCell (p:=⟨w.heap.size+1,0,none⟩) (by show w.heap.size≤w.heap.size+1; omega) (.int .i64 2)
  have y2:=C2.out.set (.int .i64 2);generalize w9.setCell ⟨w.heap.size+1,0,none⟩ (.int .i64 2)=w99 at *;have KX:=ι hk;have CX:=ι y2;have HCX:=ι (show ChC n OO RR 2 from .inl ⟨by omega,rfl⟩);clear hk y2;go_wp2;exact ck_leave (ds:=[]) KX.out CX.out HCX.out rfl (by simp) (fun D hD=>by simp at hD)
 go_upto_region 2 with (fail);refine Rg.wl ?_;refine Rg.lr 11 (Rg.exec_load (v:=.int .i64 n) _ _ rfl ⟨(w.heap.size+2),0,none⟩ rfl (run_loadInt C3.out.c)) ?_;go_frame;refine Rg.lr 12 (exec_bin (R:=.bool false) .lss _ _ _ rfl rfl rfl (b_lss _ (decide_eq_false (by omega)))) ?_;go_frame;refine Rg.lm 13 (.bool false) ?_;go_frame;refine listW_run (some 14) rfl rfl (Rg.exec_load (v:=.int .i64 n) _ _ rfl ⟨(w.heap.size+2),0,none⟩ rfl (run_loadInt C3.out.c)) ?_;go_frame;refine listW_run (some 15) rfl rfl (exec_bin (R:=.bool false) .gtr _ _ _ rfl rfl rfl (b_gtr _ (decide_eq_false (by omega)))) ?_;go_frame;refine Rg.lr 16 (exec_pickF (v:=.bool false) _ _ _ rfl rfl rfl) ?_;go_frame
 by_cases hl1:(OO.length:Int)=n
 case neg =>
  skip
  go_upto_region 4 with (fail);refine Rg.wl ?_;refine Rg.lr 17 (exec_field _ rfl rfl (chF1 _ _)) ?_;go_frame;refine Rg.lr 18 (Rg.exec_load (v:=.slice oa OO.length oc) _ _ rfl ⟨w.heap.size,1,none⟩ rfl (Rg.run_loadSl _ _ Tryz.underlying27 A1.out.cell)) ?_;go_frame;refine Rg.lr 19 (exec_len _ _ _ rfl Tryz.underlying27 _ _ _ rfl) ?_;go_frame;refine Rg.lr 20 (Rg.exec_load (v:=.int .i64 n) _ _ rfl ⟨(w.heap.size+2),0,none⟩ rfl (run_loadInt C3.out.c)) ?_;go_frame;refine Rg.lr 21 (exec_bin (R:=.bool true) .neq _ _ _ rfl rfl rfl (b_neqB _ (decide_eq_true (by omega)))) ?_;go_frame;refine Rg.lm 22 (.bool true) ?_;go_frame;refine listW_pass (some 23) (by kernel_rfl) rfl ?_;go_frame;refine listW_pass (some 24) (by kernel_rfl) rfl ?_;go_frame;refine listW_pass (some 25) (by kernel_rfl) rfl ?_;go_frame;refine listW_pass (some 26) (by kernel_rfl) rfl ?_;go_frame;refine listW_pass (some 27) (by kernel_rfl) rfl ?_;go_frame
  refine Rg.lr 28 (exec_pickT (v:=.bool true) _ _ _ rfl rfl rfl) ?_;go_frame;go_upto_region 5 with (fail);refine Rg.wl ?_;refine Rg.list_skip none rfl rfl (Rg.exec_store _ _ _ rfl _ rfl _ rfl (run_storeE 3 C2.out.c C2.out.f)) ?_;go_frame;have hk:=K.out.setCell (p:=⟨w.heap.size+1,0,none⟩) (by show w.heap.size≤w.heap.size+1; omega) (.int .i64 3);have y2:=C2.out.set (.int .i64 3);generalize w9.setCell ⟨w.heap.size+1,0,none⟩ (.int .i64 3)=w99 at *;have KX:=ι hk;have CX:=ι y2;have HCX:=ι (show ChC n OO RR 3 from .inr ⟨by omega,.inr ⟨fun hh=>hl1 hh.lens.1,rfl⟩⟩);clear hk y2;go_wp2;exact ck_leave (ds:=[]) KX.out CX.out HCX.out rfl (by simp) (fun D hD=>by simp at hD)
 by_cases hl2:(RR.length:Int)=n
 case neg =>
  skip
  go_upto_region 4 with (fail);refine Rg.wl ?_;refine Rg.lr 17 (exec_field _ rfl rfl (chF1 _ _)) ?_;go_frame;refine Rg.lr 18 (Rg.exec_load (v:=.slice oa OO.length oc) _ _ rfl ⟨w.heap.size,1,none⟩ rfl (Rg.run_loadSl _ _ Tryz.underlying27 A1.out.cell)) ?_;go_frame;refine Rg.lr 19 (exec_len _ _ _ rfl Tryz.underlying27 _ _ _ rfl) ?_;go_frame;refine Rg.lr 20 (Rg.exec_load (v:=.int .i64 n) _ _ rfl ⟨(w.heap.size+2),0,none⟩ rfl (run_loadInt C3.out.c)) ?_;go_frame;refine Rg.lr 21 (exec_bin (R:=.bool false) .neq _ _ _ rfl rfl rfl (b_neqB _ (decide_eq_false (by omega)))) ?_;go_frame;refine Rg.lm 22 (.bool false) ?_;go_frame;refine listW_run (some 23) rfl rfl (exec_field _ rfl rfl (chF2 _ _)) ?_;go_frame;refine listW_run (some 24) rfl rfl (Rg.exec_load (v:=.slice ra RR.length rc) _ _ rfl ⟨w.heap.size,2,none⟩ rfl (Rg.run_loadSl _ _ Tryz.underlying52 A2.out.cell)) ?_;go_frame;refine listW_run (some 25) rfl rfl (exec_len _ _ _ rfl Tryz.underlying52 _ _ _ rfl) ?_;go_frame
  refine listW_run (some 26) rfl rfl (Rg.exec_load (v:=.int .i64 n) _ _ rfl ⟨(w.heap.size+2),0,none⟩ rfl (run_loadInt C3.out.c)) ?_;go_frame;refine listW_run (some 27) rfl rfl (exec_bin (R:=.bool true) .neq _ _ _ rfl rfl rfl (b_neqB _ (decide_eq_true (by omega)))) ?_;go_frame;refine Rg.lr 28 (exec_pickF (v:=.bool true) _ _ _ rfl rfl rfl) ?_;go_frame;go_upto_region 5 with (fail);refine Rg.wl ?_;refine Rg.list_skip none rfl rfl (Rg.exec_store _ _ _ rfl _ rfl _ rfl (run_storeE 3 C2.out.c C2.out.f)) ?_;go_frame;have hk:=K.out.setCell (p:=⟨w.heap.size+1,0,none⟩) (by show w.heap.size≤w.heap.size+1; omega) (.int .i64 3);have y2:=C2.out.set (.int .i64 3);generalize w9.setCell ⟨w.heap.size+1,0,none⟩ (.int .i64 3)=w99 at *;have KX:=ι hk;have CX:=ι y2;have HCX:=ι (show ChC n OO RR 3 from .inr ⟨by omega,.inr ⟨fun hh=>hl2 hh.lens.2,rfl⟩⟩);clear hk y2;go_wp2;exact ck_leave (ds:=[]) KX.out CX.out HCX.out rfl (by simp) (fun D hD=>by simp at hD)
 go_upto_region 4 with (fail);refine Rg.wl ?_;refine Rg.lr 17 (exec_field _ rfl rfl (chF1 _ _)) ?_;go_frame;refine Rg.lr 18 (Rg.exec_load (v:=.slice oa OO.length oc) _ _ rfl ⟨w.heap.size,1,none⟩ rfl (Rg.run_loadSl _ _ Tryz.underlying27 A1.out.cell)) ?_;go_frame;refine Rg.lr 19 (exec_len _ _ _ rfl Tryz.underlying27 _ _ _ rfl) ?_;go_frame;refine Rg.lr 20 (Rg.exec_load (v:=.int .i64 n) _ _ rfl ⟨(w.heap.size+2),0,none⟩ rfl (run_loadInt C3.out.c)) ?_;go_frame;refine Rg.lr 21 (exec_bin (R:=.bool false) .neq _ _ _ rfl rfl rfl (b_neqB _ (decide_eq_false (by omega)))) ?_;go_frame;refine Rg.lm 22 (.bool false) ?_;go_frame;refine listW_run (some 23) rfl rfl (exec_field _ rfl rfl (chF2 _ _)) ?_;go_frame;refine listW_run (some 24) rfl rfl (Rg.exec_load (v:=.slice ra RR.length rc) _ _ rfl ⟨w.heap.size,2,none⟩ rfl (Rg.run_loadSl _ _ Tryz.underlying52 A2.out.cell)) ?_;go_frame;refine listW_run (some 25) rfl rfl (exec_len _ _ _ rfl Tryz.underlying52 _ _ _ rfl) ?_;go_frame
 refine listW_run (some 26) rfl rfl (Rg.exec_load (v:=.int .i64 n) _ _ rfl ⟨(w.heap.size+2),0,none⟩ rfl (run_loadInt C3.out.c)) ?_;go_frame;refine listW_run (some 27) rfl rfl (exec_bin (R:=.bool false) .neq _ _ _ rfl rfl rfl (b_neqB _ (decide_eq_false (by omega)))) ?_;go_frame;refine Rg.lr 28 (exec_pickF (v:=.bool false) _ _ _ rfl rfl rfl) ?_;go_frame;obtain ⟨N,rfl⟩:∃ N:Nat,n=N:=⟨n.toNat,by omega⟩
 have hN1:1≤N:=by omega
 have hN2:N≤64:=by omega
 have HLO:=ι (show OO.length=N by omega);have HLR:=ι (show RR.length=N by omega);clear hl1 hl2 hd1 hd2;go_upto_region 6 with (fail);refine Rg.wl ?_;have hnw:=CW.new w9 (.slice none 0 0) 22
 have hs:(w9.alloc (.cells #[.slice none 0 0] 22)).heap.size=w9.heap.size+1:=by simp
 refine Rg.lr 4 (exec_allocPs rfl) ?_;go_frame;have hb:=(Below.refl w9.heap.size w9).alloc (Nat.le_refl _) (.cells #[.slice none 0 0] 22);generalize w9.alloc (.cells #[.slice none 0 0] 22)=w10 at *;replace A0:=ι (A0.out.below hb);replace A1:=ι (A1.out.below hb);replace A2:=ι (A2.out.below hb);replace C2:=ι (C2.out.below hb);replace C3:=ι (C3.out.below hb);replace K:=ι (Rg.acc K.out hb);clear hb;rw [hs4] at hnw ⊢
 have hs5:w10.heap.size=w.heap.size+4:=by omega
 have C4:=ι hnw;clear hnw hs;have CI:=ι (show CkI w ((N:Nat):Int) (.slice oa OO.length oc) (.slice ra RR.length rc) w10 (.slice none 0 0) [] from ⟨K.out,A0.out,A1.out,A2.out,C2.out,C3.out,C4.out,RowF.nil _ (by omega)⟩);have HSZ:=ι hs5;clear A0 A1 A2 C2 C3 C4 hs1 hs2 hs3 hs4 hs5;go_upto_region 7 with (fail);refine Rg.wl ?_;refine Rg.lr 29 (Rg.exec_load (v:=(.agg #[.int .i64 ((N:Nat):Int),.slice oa OO.length oc,.slice ra RR.length rc])) _ _ rfl ⟨w.heap.size,0,none⟩ rfl (run_loadC3 CI.out.a0.cell CI.out.a1.cell CI.out.a2.cell)) ?_;go_frame;refine list_ask (some 30) rfl rfl _ _ (exec_fn1 114 _ _ rfl rfl (Wvcl0 _ _)) ?_;refine (reps_any _ _ _ w10).mono ?_;rintro e1 w11 ⟨fb,rfl,hfb,hb⟩;have hsz:=hb.size;refine ⟨_,rfl,?_⟩;go_frame;replace CI:=ι (CI.out.below hb);replace K:=ι (Rg.acc K.out hb);clear hb;have FB:=ι hfb;clear hfb;have HS0:=ι (show w.heap.size+4≤w11.heap.size by have:=HSZ.out; omega)
 clear hsz;obtain ⟨us,hus,hul,hur⟩:=HR.out;have HUR:=ι hur
 have hrv:RV3 w.heap.size w11 ra RR.length (fun k=>us[k]?.getD undef):=by
  obtain ⟨a',c',e,q1,q2,q3,q4⟩:=hus
  injection e with e1 e2 e3
  refine ⟨by omega,fun h0=>?_,fun b off e5 j hj=>?_,K.out.size⟩
  ·obtain ⟨b,o,e4,e5,_⟩:=q4 (by omega)
   exact ⟨b,o,e1.trans e4,e5⟩
  ·obtain ⟨b',o',e4,e6,e7⟩:=q4 (by omega)
   rw [e1,e4] at e5;simp only [Option.some.injEq,Addr.mk.injEq,and_true] at e5;obtain ⟨rfl,rfl⟩:=e5;rw [(K.out.cell (p:=⟨b',o'+j,none⟩) e6)];show _=some (us[j]?.getD undef);rw [List.getElem?_eq_getElem (by omega)];exact e7 j (by omega)
 have HRV:=ι hrv;have HUL:=ι hul;clear hus hrv hul hur;go_wp2
 refine range_reps rfl FB.out HRV.out rfl (fun pre W=>∃ v gs,CkI w ((N:Nat):Int) (.slice oa OO.length oc) (.slice ra RR.length rc) W v gs∧gs.map Ma.ofN=pre.flatMap (rowOf RR)∧(∀ g∈gs,Cm.Gd N g)∧gs.length≤64*pre.length)
  (fun c pre W=>c=.ret∧Below w.heap.size w W∧CW W (w.heap.size+1) (.int .i64 3)∧¬ ChOK ((N:Nat):Int) OO RR) ?hI ?hIx ⟨_,[],CI.out,rfl,fun g hg=>by simp at hg,Nat.zero_le _⟩ ?a1 ?assign ?body ?done ?stop
 case assign =>
  intro l x W K hK
  gi_wp2
  exact hK
 case hI =>
  rintro pre W W' row ⟨v,gs,h1,h2⟩ hg hr;exact ⟨v,gs,h1.keep (by have:=HS0.out; omega) hg hr,h2⟩
 case hIx =>
  rintro c pre W W' row ⟨rfl,h1,h2,h3⟩ hg hr;exact ⟨rfl,h1.grown hg h1.size (fun k e=>by have:=(hr k e).1; have:=HS0.out; omega),h2.kp (Rg.Kp.of_grown hg (M:=fun k=>row=some k) fun _ e=>e) (fun e=>by have:=(hr _ e).1; have:=HS0.out; omega),h3⟩
 case body =>
  rintro l pre ⟨X,hX⟩ W ⟨v,gs,hci,hfl,hgg,hgl⟩ hpl;obtain ⟨B,hB⟩:∃ B,w11.heap.size=B:=⟨_,rfl⟩;rw [hB] at HS0 ⊢;clear FB HRV CI K hB;have CI:=ι hci;have K:=ι hci.bel;have KQ:=ι (KK.refl (B:=B) (n₀:=w.heap.size) (W:=W) hci.bel.size);have HFL:=ι hfl;have HGG:=ι hgg
  have HPRE:=ι (show gs.length≤64*64 by
   have:pre.length<64:=by have:=HLR.out; omega
   omega)
  have HXR:=ι hX;have HGLL:=ι hgl;have HXO:=ι (show X<OO.length by have:=HLO.out; have:=HLR.out; omega);clear hci hfl hgg hgl;have hu:=HUR.out X (by rw [HUL.out]; exact hX) hX
  have e1:us[X]?.getD undef=us[X]'(by rw [HUL.out]; exact hX):=by rw [List.getElem?_eq_getElem (by rw [HUL.out]; exact hX)]; rfl
  rw [← e1] at hu
  dsimp only
  generalize us[X]?.getD undef=u at *;clear e1;obtain ⟨r,hr⟩:∃ r:List (List Int),Hid (RR[X]'hX=r):=⟨_,ι rfl⟩
  replace hu:Rg.Rows w u r:=by rw [← hr.out]; exact hu
  obtain ⟨ua,uc,rfl,_,hrl,_,hrc⟩:=hu.shape;have HRC:=ι hrc;obtain ⟨o',hoo⟩:∃ o:List Int,Hid (OO[X]'HXO.out=o):=⟨_,ι rfl⟩;have hos:=HO.out.shape;obtain ⟨oa',oc',e2,_,_,_,hos⟩:=hos
  injection e2 with e3 _ e5
  subst e3 e5;obtain ⟨ob,oo,rfl,hob,hos⟩:=hos (by have:=HXO.out; omega);obtain ⟨yv,hyc,hyi⟩:=hos X HXO.out;rw [show OO[X]=o' from hoo.out] at hyi;obtain ⟨ya,yc,rfl,_⟩:=hyi.shape;have CO:=ι (CL.mk hyc hob);clear hrc hos hyc hyi hob hu
  by_cases hq1:(r.length:Int)=(o'.length:Int)
  case neg =>
   skip
   gi_upto_region 10 with (fail)
   refine wpIn_region_list ?_;refine Rg.in_run (some 33) rfl rfl (fun _ hh=>by cases hh) (Rg.xm (.slice ua r.length uc) _ rfl rfl) ?_;go_frame;refine Rg.in_run (some 34) rfl rfl (fun _ hh=>by cases hh) (exec_len _ _ _ rfl Tryz.underlying22 _ _ _ rfl) ?_;go_frame;refine Rg.in_run (some 35) rfl rfl (fun _ hh=>by cases hh) (exec_field _ rfl rfl (chF1 _ _)) ?_;go_frame;refine Rg.in_run (some 36) rfl rfl (fun _ hh=>by cases hh) (Rg.exec_load (v:=.slice (some ⟨ob,oo,none⟩) OO.length oc) _ _ rfl ⟨w.heap.size,1,none⟩ rfl (Rg.run_loadSl _ _ Tryz.underlying27 CI.out.a1.cell)) ?_;go_frame;refine Rg.in_run (some 37) rfl rfl (fun _ hh=>by cases hh) (Rg.xm (.int .i64 ((X:Nat):Int)) _ rfl rfl) ?_;go_frame;refine Rg.in_run (some 38) rfl rfl (fun _ hh=>by cases hh) (exec_indexS slIntss _ _ rfl ob (oo) (OO.length) oc (X) rfl rfl HXO.out) ?_;go_frame;refine Rg.in_run (some 39) rfl rfl (fun _ hh=>by cases hh) (Rg.exec_load (v:=.slice ya o'.length yc) _ _ rfl ⟨ob,oo+X,none⟩ rfl (Rg.run_loadSl _ _ Tryz.underlying36 ((Below.cell (p:=⟨ob,oo+X,none⟩) K.out CO.out.lt).trans CO.out.cell))) ?_;go_frame
   refine Rg.in_run (some 40) rfl rfl (fun _ hh=>by cases hh) (exec_len _ _ _ rfl Tryz.underlying36 _ _ _ rfl) ?_;go_frame;refine Rg.in_run (some 41) rfl rfl (fun _ hh=>by cases hh) (exec_bin (R:=.bool true) .neq _ _ _ rfl rfl rfl (b_neqB _ (decide_eq_true (by omega)))) ?_;go_frame;refine Rg.in_run (some 42) rfl rfl (fun _ hh=>by cases hh) (Rg.xm (.bool true) _ rfl rfl) ?_;go_frame;refine Rg.inW_pass (some 43) (by kernel_rfl) rfl ?_;go_frame;refine Rg.inW_pass (some 44) (by kernel_rfl) rfl ?_;go_frame;refine Rg.inW_pass (some 45) (by kernel_rfl) rfl ?_;go_frame;refine Rg.inW_pass (some 46) (by kernel_rfl) rfl ?_;go_frame;refine Rg.inW_pass (some 47) (by kernel_rfl) rfl ?_;go_frame;refine Rg.inW_pass (some 48) (by kernel_rfl) rfl ?_;go_frame;refine Rg.in_run (some 49) rfl rfl (fun _ hh=>by cases hh) (exec_pickT (v:=.bool true) _ _ _ rfl rfl rfl) ?_;go_frame
   gi_upto_region 11 with (fail)
   refine wpIn_region_list ?_;refine Rg.in_skip none rfl rfl (fun _ hh=>by cases hh) (Rg.exec_store _ _ _ rfl _ rfl _ rfl (run_storeE 3 CI.out.c2.c CI.out.c2.f)) ?_;go_frame;have hk:=K.out.setCell (p:=⟨w.heap.size+1,0,none⟩) (by show w.heap.size≤w.heap.size+1; omega) (.int .i64 3);have y2:=CI.out.c2.set (.int .i64 3);have hq:=KQ.out.set (b:=w.heap.size+1) (o:=0) (.int .i64 3) (by omega);generalize W.setCell ⟨w.heap.size+1,0,none⟩ (.int .i64 3)=w99 at *;have KX:=ι hk;have CX:=ι y2;have QX:=ι hq;have HNX:=ι (show ¬ ChOK ((N:Nat):Int) OO RR from fun hh=>by have:=(hh.row HXR.out HXO.out).1; rw [show RR[X]=r from hr.out,show OO[X]=o' from hoo.out] at this; omega);clear hk y2 hq
   gi_wp2
   exact ⟨QX.out.keeps,rfl,KX.out,CX.out,HNX.out⟩
  by_cases hq2:(N:Int) - (X:Int)<(r.length:Int)
  case pos =>
   skip
   gi_upto_region 10 with (fail)
   refine wpIn_region_list ?_;refine Rg.in_run (some 33) rfl rfl (fun _ hh=>by cases hh) (Rg.xm (.slice ua r.length uc) _ rfl rfl) ?_;go_frame;refine Rg.in_run (some 34) rfl rfl (fun _ hh=>by cases hh) (exec_len _ _ _ rfl Tryz.underlying22 _ _ _ rfl) ?_;go_frame;refine Rg.in_run (some 35) rfl rfl (fun _ hh=>by cases hh) (exec_field _ rfl rfl (chF1 _ _)) ?_;go_frame;refine Rg.in_run (some 36) rfl rfl (fun _ hh=>by cases hh) (Rg.exec_load (v:=.slice (some ⟨ob,oo,none⟩) OO.length oc) _ _ rfl ⟨w.heap.size,1,none⟩ rfl (Rg.run_loadSl _ _ Tryz.underlying27 CI.out.a1.cell)) ?_;go_frame;refine Rg.in_run (some 37) rfl rfl (fun _ hh=>by cases hh) (Rg.xm (.int .i64 ((X:Nat):Int)) _ rfl rfl) ?_;go_frame;refine Rg.in_run (some 38) rfl rfl (fun _ hh=>by cases hh) (exec_indexS slIntss _ _ rfl ob (oo) (OO.length) oc (X) rfl rfl HXO.out) ?_;go_frame;refine Rg.in_run (some 39) rfl rfl (fun _ hh=>by cases hh) (Rg.exec_load (v:=.slice ya o'.length yc) _ _ rfl ⟨ob,oo+X,none⟩ rfl (Rg.run_loadSl _ _ Tryz.underlying36 ((Below.cell (p:=⟨ob,oo+X,none⟩) K.out CO.out.lt).trans CO.out.cell))) ?_;go_frame
   refine Rg.in_run (some 40) rfl rfl (fun _ hh=>by cases hh) (exec_len _ _ _ rfl Tryz.underlying36 _ _ _ rfl) ?_;go_frame;refine Rg.in_run (some 41) rfl rfl (fun _ hh=>by cases hh) (exec_bin (R:=.bool false) .neq _ _ _ rfl rfl rfl (b_neqB _ (decide_eq_false (by omega)))) ?_;go_frame;refine Rg.in_run (some 42) rfl rfl (fun _ hh=>by cases hh) (Rg.xm (.bool false) _ rfl rfl) ?_;go_frame;refine Rg.inW_run (some 43) rfl rfl (fun _ hh=>by cases hh) (Rg.xm (.slice ua r.length uc) _ rfl rfl) ?_;go_frame;refine Rg.inW_run (some 44) rfl rfl (fun _ hh=>by cases hh) (exec_len _ _ _ rfl Tryz.underlying22 _ _ _ rfl) ?_;go_frame;refine Rg.inW_run (some 45) rfl rfl (fun _ hh=>by cases hh) (Rg.exec_load (v:=.int .i64 ((N:Nat):Int)) _ _ rfl ⟨(w.heap.size+2),0,none⟩ rfl (run_loadInt CI.out.c3.c)) ?_;go_frame;refine Rg.inW_run (some 46) rfl rfl (fun _ hh=>by cases hh) (Rg.xm (.int .i64 ((X:Nat):Int)) _ rfl rfl) ?_;go_frame
   refine Rg.inW_run (some 47) rfl rfl (fun _ hh=>by cases hh) (exec_bin (R:=.int .i64 ((N:Int) - (X:Int))) .sub _ _ _ rfl rfl rfl (b_sub _ (by omega) (by omega))) ?_;go_frame;refine Rg.inW_run (some 48) rfl rfl (fun _ hh=>by cases hh) (exec_bin (R:=.bool true) .gtr _ _ _ rfl rfl rfl (b_gtr _ (decide_eq_true (by omega)))) ?_;go_frame;refine Rg.in_run (some 49) rfl rfl (fun _ hh=>by cases hh) (exec_pickF (v:=.bool true) _ _ _ rfl rfl rfl) ?_;go_frame
   gi_upto_region 11 with (fail)
   refine wpIn_region_list ?_;refine Rg.in_skip none rfl rfl (fun _ hh=>by cases hh) (Rg.exec_store _ _ _ rfl _ rfl _ rfl (run_storeE 3 CI.out.c2.c CI.out.c2.f)) ?_;go_frame;have hk:=K.out.setCell (p:=⟨w.heap.size+1,0,none⟩) (by show w.heap.size≤w.heap.size+1; omega) (.int .i64 3);have y2:=CI.out.c2.set (.int .i64 3);have hq:=KQ.out.set (b:=w.heap.size+1) (o:=0) (.int .i64 3) (by omega);generalize W.setCell ⟨w.heap.size+1,0,none⟩ (.int .i64 3)=w99 at *;have KX:=ι hk;have CX:=ι y2;have QX:=ι hq;have HNX:=ι (show ¬ ChOK ((N:Nat):Int) OO RR from fun hh=>by have:=(hh.row HXR.out HXO.out).2; rw [show RR[X]=r from hr.out] at this; omega);clear hk y2 hq
   gi_wp2
   exact ⟨QX.out.keeps,rfl,KX.out,CX.out,HNX.out⟩
  gi_upto_region 10 with (fail)
  refine wpIn_region_list ?_;refine Rg.in_run (some 33) rfl rfl (fun _ hh=>by cases hh) (Rg.xm (.slice ua r.length uc) _ rfl rfl) ?_;go_frame;refine Rg.in_run (some 34) rfl rfl (fun _ hh=>by cases hh) (exec_len _ _ _ rfl Tryz.underlying22 _ _ _ rfl) ?_;go_frame;refine Rg.in_run (some 35) rfl rfl (fun _ hh=>by cases hh) (exec_field _ rfl rfl (chF1 _ _)) ?_;go_frame;refine Rg.in_run (some 36) rfl rfl (fun _ hh=>by cases hh) (Rg.exec_load (v:=.slice (some ⟨ob,oo,none⟩) OO.length oc) _ _ rfl ⟨w.heap.size,1,none⟩ rfl (Rg.run_loadSl _ _ Tryz.underlying27 CI.out.a1.cell)) ?_;go_frame;refine Rg.in_run (some 37) rfl rfl (fun _ hh=>by cases hh) (Rg.xm (.int .i64 ((X:Nat):Int)) _ rfl rfl) ?_;go_frame;refine Rg.in_run (some 38) rfl rfl (fun _ hh=>by cases hh) (exec_indexS slIntss _ _ rfl ob (oo) (OO.length) oc (X) rfl rfl HXO.out) ?_;go_frame;refine Rg.in_run (some 39) rfl rfl (fun _ hh=>by cases hh) (Rg.exec_load (v:=.slice ya o'.length yc) _ _ rfl ⟨ob,oo+X,none⟩ rfl (Rg.run_loadSl _ _ Tryz.underlying36 ((Below.cell (p:=⟨ob,oo+X,none⟩) K.out CO.out.lt).trans CO.out.cell))) ?_;go_frame
  refine Rg.in_run (some 40) rfl rfl (fun _ hh=>by cases hh) (exec_len _ _ _ rfl Tryz.underlying36 _ _ _ rfl) ?_;go_frame;refine Rg.in_run (some 41) rfl rfl (fun _ hh=>by cases hh) (exec_bin (R:=.bool false) .neq _ _ _ rfl rfl rfl (b_neqB _ (decide_eq_false (by omega)))) ?_;go_frame;refine Rg.in_run (some 42) rfl rfl (fun _ hh=>by cases hh) (Rg.xm (.bool false) _ rfl rfl) ?_;go_frame;refine Rg.inW_run (some 43) rfl rfl (fun _ hh=>by cases hh) (Rg.xm (.slice ua r.length uc) _ rfl rfl) ?_;go_frame;refine Rg.inW_run (some 44) rfl rfl (fun _ hh=>by cases hh) (exec_len _ _ _ rfl Tryz.underlying22 _ _ _ rfl) ?_;go_frame;refine Rg.inW_run (some 45) rfl rfl (fun _ hh=>by cases hh) (Rg.exec_load (v:=.int .i64 ((N:Nat):Int)) _ _ rfl ⟨(w.heap.size+2),0,none⟩ rfl (run_loadInt CI.out.c3.c)) ?_;go_frame;refine Rg.inW_run (some 46) rfl rfl (fun _ hh=>by cases hh) (Rg.xm (.int .i64 ((X:Nat):Int)) _ rfl rfl) ?_;go_frame
  refine Rg.inW_run (some 47) rfl rfl (fun _ hh=>by cases hh) (exec_bin (R:=.int .i64 ((N:Int) - (X:Int))) .sub _ _ _ rfl rfl rfl (b_sub _ (by omega) (by omega))) ?_;go_frame;refine Rg.inW_run (some 48) rfl rfl (fun _ hh=>by cases hh) (exec_bin (R:=.bool false) .gtr _ _ _ rfl rfl rfl (b_gtr _ (decide_eq_false (by omega)))) ?_;go_frame;refine Rg.in_run (some 49) rfl rfl (fun _ hh=>by cases hh) (exec_pickF (v:=.bool false) _ _ _ rfl rfl rfl) ?_;go_frame;have HG0:=ι (show gs.map Ma.ofN=gs.map Ma.ofN++r.take 0 by simp);have HL0:=ι (show gs.length≤gs.length+0 from Nat.le_refl _)
  gi_wp2
  gi_loopw [52] (fun jv wr=>∃ (j:Nat) (v:Value) (gs':List (List Nat)),jv=.int .i64 j∧j≤r.length∧Hid (CkI w ((N:Nat):Int) (.slice (some ⟨ob,oo,none⟩) OO.length oc) (.slice ra RR.length rc) wr v gs')∧Hid (KK B w.heap.size W wr)∧Hid (gs'.map Ma.ofN=gs.map Ma.ofN++r.take j)∧Hid (∀ g∈gs',Cm.Gd N g)∧Hid (gs'.length≤gs.length+j)) (fun jv _=>r.length - (intOf jv).toNat)
  case atStart=>exact ⟨0,_,_,rfl,Nat.zero_le _,CI,KQ,HG0,HGG,HL0⟩
  case round =>
   clear CI KQ HG0 HGG HL0 K;obtain ⟨j,v,gs',rfl,hj,CI,KQ,HG0,HGG,HL0⟩:=hrel;have K:=ι CI.out.bel;obtain ⟨va,vc,hsv⟩:=CI.out.row.shape;subst hsv
   by_cases hjl:j<r.length
   ·have hjN:(j:Int)<(r.length:Int):=by omega
    have HJL:=ι hjl;obtain ⟨ub,uo,rfl,hub,huc⟩:=HRC.out (by omega);obtain ⟨xv,hxc,hxi⟩:=huc j hjl;obtain ⟨x,hx⟩:∃ x:List Int,Hid (r[j]'hjl=x):=⟨_,ι rfl⟩
    replace hxi:Rg.Ints w xv x:=by rw [← hx.out]; exact hxi
    obtain ⟨xa,xc,rfl,_⟩:=hxi.shape
    have hxl:x.length≤1000000000:=by obtain ⟨m',a',c',e',_,e2'⟩:=hxi.len; omega
    have CX:=ι (CL.mk hxc hub);have XU:=ι hxi;have HXM:=ι (show x∈RR[X]'HXR.out by rw [show RR[X]'HXR.out=r from hr.out,← hx.out]; exact List.getElem_mem hjl);have HPS:=ι (show gs'.length<1000000 by have:=HL0.out; have:=HPRE.out; omega);clear huc hxc hxi hub
    gi_upto_region 14 with (fail)
    refine wpIn_region_list ?_;refine Rg.in_run (some 54) rfl rfl (fun _ hh=>by cases hh) (exec_indexS slPerms _ _ rfl ub (uo) (r.length) uc (j) rfl rfl HJL.out) ?_;go_frame;refine Rg.in_run (some 55) rfl rfl (fun _ hh=>by cases hh) (Rg.exec_load (v:=.slice xa x.length xc) _ _ rfl ⟨ub,uo+j,none⟩ rfl (Rg.run_loadSl _ _ Tryz.underlying51 ((Below.cell (p:=⟨ub,uo+j,none⟩) K.out CX.out.lt).trans CX.out.cell))) ?_;go_frame;refine Rg.in_run (some 8) rfl rfl (fun _ hh=>by cases hh) (Rg.xa (.slice xa x.length xc) _ rfl rfl) ?_;go_frame
    by_cases hp1:(x.length:Int)=(N:Int)
    case neg =>
     skip
     gi_upto_region 15 with (fail)
     refine wpIn_region_list ?_;refine Rg.in_run (some 56) rfl rfl (fun _ hh=>by cases hh) (Rg.xm (.slice xa x.length xc) _ rfl rfl) ?_;go_frame;refine Rg.in_run (some 57) rfl rfl (fun _ hh=>by cases hh) (exec_len _ _ _ rfl Tryz.underlying51 _ _ _ rfl) ?_;go_frame;refine Rg.in_run (some 58) rfl rfl (fun _ hh=>by cases hh) (Rg.exec_load (v:=.int .i64 ((N:Nat):Int)) _ _ rfl ⟨(w.heap.size+2),0,none⟩ rfl (run_loadInt CI.out.c3.c)) ?_;go_frame;refine Rg.in_run (some 59) rfl rfl (fun _ hh=>by cases hh) (exec_bin (R:=.bool true) .neq _ _ _ rfl rfl rfl (b_neqB _ (decide_eq_true (by omega)))) ?_;go_frame;refine Rg.in_run (some 60) rfl rfl (fun _ hh=>by cases hh) (Rg.xm (.bool true) _ rfl rfl) ?_;go_frame;refine Rg.inW_pass (some 61) (by kernel_rfl) rfl ?_;go_frame;refine Rg.inW_pass (some 62) (by kernel_rfl) rfl ?_;go_frame;refine Rg.inW_pass (some 63) (by kernel_rfl) rfl ?_;go_frame
     refine Rg.in_run (some 64) rfl rfl (fun _ hh=>by cases hh) (exec_pickT (v:=.bool true) _ _ _ rfl rfl rfl) ?_;go_frame
     gi_upto_region 16 with (fail)
     refine wpIn_region_list ?_;refine Rg.in_skip none rfl rfl (fun _ hh=>by cases hh) (Rg.exec_store _ _ _ rfl _ rfl _ rfl (run_storeE 3 CI.out.c2.c CI.out.c2.f)) ?_;go_frame;have hk:=K.out.setCell (p:=⟨w.heap.size+1,0,none⟩) (by show w.heap.size≤w.heap.size+1; omega) (.int .i64 3);have y2:=CI.out.c2.set (.int .i64 3);have hq:=KQ.out.set (b:=w.heap.size+1) (o:=0) (.int .i64 3) (by omega);generalize wr.setCell ⟨w.heap.size+1,0,none⟩ (.int .i64 3)=w99 at *;have KX:=ι hk;have CX:=ι y2;have QX:=ι hq;have HNX:=ι (show ¬ ChOK ((N:Nat):Int) OO RR from fun hh=>hp1 (hh.perm HXR.out HXM.out).1);clear hk y2 hq
     gi_wp2
     exact ⟨QX.out.keeps,rfl,KX.out,CX.out,HNX.out⟩
    by_cases hp0:Ma.pchk x=0
    case neg =>
     skip
     gi_upto_region 15 with (fail)
     refine wpIn_region_list ?_;refine Rg.in_run (some 56) rfl rfl (fun _ hh=>by cases hh) (Rg.xm (.slice xa x.length xc) _ rfl rfl) ?_;go_frame;refine Rg.in_run (some 57) rfl rfl (fun _ hh=>by cases hh) (exec_len _ _ _ rfl Tryz.underlying51 _ _ _ rfl) ?_;go_frame;refine Rg.in_run (some 58) rfl rfl (fun _ hh=>by cases hh) (Rg.exec_load (v:=.int .i64 ((N:Nat):Int)) _ _ rfl ⟨(w.heap.size+2),0,none⟩ rfl (run_loadInt CI.out.c3.c)) ?_;go_frame;refine Rg.in_run (some 59) rfl rfl (fun _ hh=>by cases hh) (exec_bin (R:=.bool false) .neq _ _ _ rfl rfl rfl (b_neqB _ (decide_eq_false (by omega)))) ?_;go_frame;refine Rg.in_run (some 60) rfl rfl (fun _ hh=>by cases hh) (Rg.xm (.bool false) _ rfl rfl) ?_;go_frame;refine Rg.inW_run (some 61) rfl rfl (fun _ hh=>by cases hh) (Rg.xm (.slice xa x.length xc) _ rfl rfl) ?_;go_frame;refine Rg.inW_ask (some 62) rfl rfl (fun _ hh=>by cases hh) _ _ (exec_fn1 115 _ _ rfl rfl (Wvcl1 _ _)) ?_
     refine (permCheck_any _ _ wr (XU.out.below K.out)).mono ?_;rintro e1 w41 ⟨rfl,hb⟩;refine ⟨_,rfl,?_⟩;go_frame;replace CI:=ι (CI.out.below hb);replace KQ:=ι (KQ.out.below hb);replace K:=ι (Rg.acc K.out hb);clear hb;refine Rg.inW_run (some 63) rfl rfl (fun _ hh=>by cases hh) (exec_bin (R:=.bool true) .neq _ _ _ rfl rfl rfl (b_neqB _ (decide_eq_true hp0))) ?_;go_frame;refine Rg.in_run (some 64) rfl rfl (fun _ hh=>by cases hh) (exec_pickF (v:=.bool true) _ _ _ rfl rfl rfl) ?_;go_frame
     gi_upto_region 16 with (fail)
     refine wpIn_region_list ?_;refine Rg.in_skip none rfl rfl (fun _ hh=>by cases hh) (Rg.exec_store _ _ _ rfl _ rfl _ rfl (run_storeE 3 CI.out.c2.c CI.out.c2.f)) ?_;go_frame;have hk:=K.out.setCell (p:=⟨w.heap.size+1,0,none⟩) (by show w.heap.size≤w.heap.size+1; omega) (.int .i64 3);have y2:=CI.out.c2.set (.int .i64 3);have hq:=KQ.out.set (b:=w.heap.size+1) (o:=0) (.int .i64 3) (by omega);generalize w41.setCell ⟨w.heap.size+1,0,none⟩ (.int .i64 3)=w99 at *;have KX:=ι hk;have CX:=ι y2;have QX:=ι hq;have HNX:=ι (show ¬ ChOK ((N:Nat):Int) OO RR from fun hh=>hp0 (hh.perm HXR.out HXM.out).2);clear hk y2 hq
     gi_wp2
     exact ⟨QX.out.keeps,rfl,KX.out,CX.out,HNX.out⟩
    gi_upto_region 15 with (fail)
    refine wpIn_region_list ?_;refine Rg.in_run (some 56) rfl rfl (fun _ hh=>by cases hh) (Rg.xm (.slice xa x.length xc) _ rfl rfl) ?_;go_frame;refine Rg.in_run (some 57) rfl rfl (fun _ hh=>by cases hh) (exec_len _ _ _ rfl Tryz.underlying51 _ _ _ rfl) ?_;go_frame;refine Rg.in_run (some 58) rfl rfl (fun _ hh=>by cases hh) (Rg.exec_load (v:=.int .i64 ((N:Nat):Int)) _ _ rfl ⟨(w.heap.size+2),0,none⟩ rfl (run_loadInt CI.out.c3.c)) ?_;go_frame;refine Rg.in_run (some 59) rfl rfl (fun _ hh=>by cases hh) (exec_bin (R:=.bool false) .neq _ _ _ rfl rfl rfl (b_neqB _ (decide_eq_false (by omega)))) ?_;go_frame;refine Rg.in_run (some 60) rfl rfl (fun _ hh=>by cases hh) (Rg.xm (.bool false) _ rfl rfl) ?_;go_frame;refine Rg.inW_run (some 61) rfl rfl (fun _ hh=>by cases hh) (Rg.xm (.slice xa x.length xc) _ rfl rfl) ?_;go_frame;refine Rg.inW_ask (some 62) rfl rfl (fun _ hh=>by cases hh) _ _ (exec_fn1 115 _ _ rfl rfl (Wvcl1 _ _)) ?_
    refine (permCheck_any _ _ wr (XU.out.below K.out)).mono ?_;rintro e1 w41 ⟨rfl,hb⟩;refine ⟨_,rfl,?_⟩;go_frame;replace CI:=ι (CI.out.below hb);replace KQ:=ι (KQ.out.below hb);replace K:=ι (Rg.acc K.out hb);clear hb;refine Rg.inW_run (some 63) rfl rfl (fun _ hh=>by cases hh) (exec_bin (R:=.bool false) .neq _ _ _ rfl rfl rfl (b_neqB _ (decide_eq_false (fun e=>e hp0)))) ?_;go_frame;refine Rg.in_run (some 64) rfl rfl (fun _ hh=>by cases hh) (exec_pickF (v:=.bool false) _ _ _ rfl rfl rfl) ?_;go_frame;obtain ⟨q,hqx,hqo⟩:=Ma.okL_ofN (Ma.pchk_zero hp0).2.2;have HGQ:=ι (show Cm.Gd N q from ⟨hqo,by have:=congrArg List.length hqx; rw [Ma.len_ofN] at this; omega⟩);have HQX:=ι hqx;have HFQ:=ι (show FP (fun k=>k<w.heap.size) w (.slice xa x.length xc) q from FP.of_np (show Rg.NP w _ q by unfold Rg.NP; rw [← HQX.out]; exact XU.out));clear hqx hqo hp0
    gi_upto_region 17 with (fail)
    refine wpIn_region_list ?_;refine Rg.in_run (some 65) rfl rfl (fun _ hh=>by cases hh) (Rg.exec_load (v:=.slice va gs'.length vc) _ _ rfl ⟨(w.heap.size+3),0,none⟩ rfl (Rg.run_loadSl _ _ Tryz.underlying22 CI.out.c4.c)) ?_;go_frame;refine Rg.in_run (some 66) rfl rfl (fun _ hh=>by cases hh) (Rg.xm (.slice xa x.length xc) _ rfl rfl) ?_;go_frame;refine Rg.in_run (some 67) rfl rfl (fun _ hh=>by cases hh) (Rg.exec_buildSlice _ _ _ rfl (.slice xa x.length xc) rfl (run_build1P w41 _ ⟨_,_,_,rfl⟩)) ?_;go_frame;obtain ⟨a9,c9,X9,r1,r2,r3,r4⟩:=CI.out.row.pushK (fun k hk=>by omega) (HFQ.out.below K.out) ⟨_,_,_,rfl⟩ HPS.out 22;have hkb:=r3 (Nat.le_refl _) (Below.refl _ _);refine Rg.in_run (some 68) rfl rfl (fun _ hh=>by cases hh) (Rg.exec_append _ _ _ rfl rfl rfl r1) ?_;go_frame;have c4x:=CI.out.c4.upto hkb (by omega);refine Rg.in_skip none rfl rfl (fun _ hh=>by cases hh) (Rg.exec_store _ _ _ rfl _ rfl _ rfl (Rg.run_storeSl _ infoPermsV c4x.c c4x.f)) ?_;go_frame
    have hci2:=CI.out.store hkb r2;have hkq2:KK B w.heap.size W (X9.setCell ⟨w.heap.size+3,0,none⟩ (.slice a9 (gs'.length+1) c9)):=(KQ.out.row r4 CI.out.row (by omega)).set _ (by omega);generalize X9.setCell ⟨w.heap.size+3,0,none⟩ (.slice a9 (gs'.length+1) c9)=w98 at *;have CI2:=ι hci2;have KQ2:=ι hkq2
    have HG2:=ι (show (gs'++[q]).map Ma.ofN=gs.map Ma.ofN++r.take (j+1) by
     rw [List.map_append,HG0.out,List.take_succ_eq_append_getElem HJL.out,show r[j]=x from hx.out,HQX.out,List.append_assoc]; rfl)
    have HGG2:=ι (show ∀ g∈gs'++[q],Cm.Gd N g from fun g hg=>by
     rcases List.mem_append.1 hg with hg | hg
     ·exact HGG.out g hg
     ·rw [List.mem_singleton] at hg; rw [hg]; exact HGQ.out)
    have HL2:=ι (show (gs'++[q]).length≤gs.length+(j+1) by rw [List.length_append]; have:=HL0.out; simp; omega);clear hci2 hkq2 r1 r2 r3 r4 hkb c4x
    gi_wp2
    go_roundw
    case rel=>exact ⟨j+1,_,_,by go_num,HJL.out,CI2,KQ2,HG2,HGG2,HL2⟩
    case measure=>simp [intOf]; have:=HJL.out; omega
   ·obtain rfl:j=r.length:=by omega
    have hjN:¬ (r.length:Int)<(r.length:Int):=by omega
    have HFIN:=ι (show gs'.map Ma.ofN=(pre++[⟨X,HXR.out⟩]:List (Fin RR.length)).flatMap (rowOf RR) by
     have e:=HG0.out;rw [List.take_length] at e;rw [e,HFL.out,List.flatMap_append];simp only [List.flatMap_cons,List.flatMap_nil,List.append_nil]
     exact congrArg (pre.flatMap (rowOf RR)++·) ((getD_inf HXR.out).trans hr.out).symm)
    have HRLE:=ι (show gs'.length≤64*(pre.length+1) by have:=HL0.out; have:=HGLL.out; omega)
    gi_wp2
    exact ⟨KQ.out.keeps,KQ.out.bel,_,_,CI.out,HFIN.out,HGG.out,by rw [List.length_append]; exact HRLE.out⟩
 case stop =>
  rintro D c pre W hD ⟨rfl,h1,h2,h3⟩ hd;go_wp2;exact ck_leave (ds:=[D]) h1 h2 (.inr ⟨by omega,.inr ⟨h3,rfl⟩⟩) rfl (by simp) (fun D' hD'=>by simp at hD'; subst hD'; exact ⟨hd,by have:=HS0.out; omega⟩)
 case done =>
  rintro D Wd hD ⟨v,gs,hci,hfl,hgg,hgl⟩ hd;clear FB HRV CI K;rw [finTo_flat] at hfl;have HD:=ι (show w.heap.size≤D by have:=HS0.out; omega);have DF:=ι hd;have CI:=ι hci;have K:=ι hci.bel;have HFL:=ι hfl;have HGG:=ι hgg;have HGL:=ι (show gs.length≤1000000 by rw [finTo_len (Nat.le_refl _)] at hgl; have:=HLR.out; omega);obtain ⟨va,vc,hsv⟩:=hci.row.shape;subst hsv
  have GR:=ι (show Rg.Rows Wd (.slice va gs.length vc) (gs.map Ma.ofN) from by
   obtain ⟨us,q1,q2⟩:=hci.row.own
   exact Rg.Rows.of_row q1 (by have:=HGL.out; omega) q2.1 (fun i a b=>(q2.2 i a b).ints))
  have HH:=ι (show ChEqR Wd (.slice oa OO.length oc) (.slice ra RR.length rc) OO RR from ChEqR.upto H.out hci.bel);clear hci hfl hgg hgl hd;go_upto_region 19 with (fail);refine Rg.wp_onlyN ?_;have hV0:Below Wd.heap.size Wd Wd.drew:=(Below.refl _ _).drew;replace CI:=ι (CI.out.below hV0);replace GR:=ι (GR.out.below hV0);replace HH:=ι (HH.out.below hV0);replace DF:=ι (DF.out.below hV0);replace K:=ι (Rg.acc K.out hV0);clear hV0;refine Rg.Any.begin (S:=Rg.Both 6 (fun _=>True) (fun W=>Below Wd.drew.heap.size Wd.drew W)) mix ?_;generalize Wd.drew=w61 at *;have hS:∀ (l:Array Bool) W,Below w61.heap.size w61 W→Rg.Both 6 (fun _=>True) (fun W=>Below w61.heap.size w61 W) l W:=fun l W h=>⟨.inr trivial,h⟩;have hI:Below w61.heap.size w61 w61:=Below.refl _ _;refine Rg.tg 0 6 ((.agg #[.int .i64 ((N:Nat):Int),.slice oa OO.length oc,.slice ra RR.length rc])) 70 rfl rfl (Rg.yields_cell _ _ rfl rfl ⟨w.heap.size,0,none⟩ rfl (fun W hW=>run_loadC3 ((Below.cell (p:=⟨w.heap.size,0,none⟩) hW CI.out.a0.lt).trans CI.out.a0.cell) ((Below.cell (p:=⟨w.heap.size,1,none⟩) hW CI.out.a1.lt).trans CI.out.a1.cell) ((Below.cell (p:=⟨w.heap.size,2,none⟩) hW CI.out.a2.lt).trans CI.out.a2.cell))) (hS _ _ hI) ?_;go_frame
  refine Rg.tg 1 6 (.int .i64 ((N:Nat):Int)) 71 rfl rfl (Rg.yields_cell _ _ rfl rfl ⟨(w.heap.size+2),0,none⟩ rfl (fun W hW=>run_loadInt ((Below.cell (p:=⟨(w.heap.size+2),0,none⟩) hW CI.out.c3.lt).trans CI.out.c3.c))) (hS _ _ hI) ?_;go_frame;refine Rg.tg 2 6 (.slice va gs.length vc) 72 rfl rfl (Rg.yields_cell _ _ rfl rfl ⟨(w.heap.size+3),0,none⟩ rfl (fun W hW=>Rg.run_loadSl _ _ Tryz.underlying22 ((Below.cell (p:=⟨(w.heap.size+3),0,none⟩) hW CI.out.c4.lt).trans CI.out.c4.c))) (hS _ _ hI) ?_;go_frame;refine Rg.Any.one (i:=3) (by kernel_rfl) (Rg.Any.ask (some 73) rfl rfl rfl _ _ (exec_fn 117 _ _ _ rfl rfl rfl (Wbcl1 _ _)) ?_);refine (build_b hN1 hN2 GR.out HGG.out HGL.out).mono ?_;rintro e1 w62 ⟨tb,L,F1,T1,V1,rfl,hT1,hc01,hc11,hB1,hb⟩;have HB:=ι hB1;have hI2_0:=Rg.acc hI hb;clear hb hI;refine ⟨_,rfl,(hS _ _ hI2_0),?_⟩;go_frame;have HT:=ι hT1;have C0:=ι hc01
  have C1:=ι hc11;clear hT1 hc01 hc11 hB1;refine Rg.Any.one (i:=4) (by kernel_rfl) (Rg.Any.ask (some 74) rfl rfl rfl _ _ (exec_fn1 118 _ _ rfl rfl (Wbcl2 _ _)) ?_);refine (chain_any hN1 hN2 HT.out C0.out C1.out (Cm.Gr.isG HGG.out) (HB.out.isTr (by omega) HGG.out) (fun j hj=>(HB.out.full j hj).1)).mono ?_;rintro e1 w63 ⟨ov2,rv2,O2,R2,rfl,hO,hR,hCh,hb⟩;have HCH:=ι hCh;have HE2:=ChEqR.mk hO.rows hR.rows;clear hO hR hCh;have hI3_0:=Rg.acc hI2_0 hb;have hI3_1:=hb;clear hb hI2_0;refine ⟨_,rfl,(hS _ _ hI3_0),?_⟩;go_frame;have HF:=ι HE2;clear HE2;obtain ⟨bS,hbS⟩:∃ b,Hid (decide (((N:Nat):Int)=((N:Nat):Int)∧OO=O2.map Ma.ofN∧RR=R2.map (List.map Ma.ofN))=b):=⟨_,ι rfl⟩;refine Rg.Any.one (i:=5) (by kernel_rfl) (Rg.Any.ask (some 75) rfl rfl rfl _ _ (exec_fn 116 _ _ _ rfl rfl rfl (Wvcl4 _ _)) ?_);refine (chSame_b (HH.out.below hI3_0) HF.out hbS).mono ?_
  rintro e1 w64 ⟨rfl,hb⟩;have hI4_0:=Rg.acc hI3_1 hb;have hI4_1:=Rg.acc hI3_0 hb;have hI4_2:=hb;clear hb hI3_1 hI3_0;refine ⟨_,rfl,(hS _ _ hI4_1),?_⟩;go_frame;refine Rg.Any.one (i:=6) (by kernel_rfl) (Rg.Any.run (some 76) rfl rfl rfl (exec_not _ _ bS rfl rfl) (hS _ _ hI4_1) ?_);go_frame;refine Rg.Any.done (by kernel_rfl) ?_ _;refine Rg.onlyN_i ?_;replace CI:=ι (CI.out.below hI4_1);replace GR:=ι (GR.out.below hI4_1);replace HH:=ι (HH.out.below hI4_1);replace DF:=ι (DF.out.below hI4_1);replace HT:=ι (HT.out.below hI4_0);replace C0:=ι (C0.out.below hI4_0);replace C1:=ι (C1.out.below hI4_0);replace HF:=ι (HF.out.below hI4_2);replace K:=ι (Rg.acc K.out hI4_1);clear hS hI4_0 hI4_1 hI4_2;have HOK:=ι (ChOK.same (OO:=OO) (RR:=RR) hN1 hN2 HGG.out HFL.out.symm HCH.out)
  cases bS with
  | false =>
   have C2:=ι CI.out.c2;go_upto_region 20 with (fail);refine Rg.wl ?_;refine Rg.list_skip none rfl rfl (Rg.exec_store _ _ _ rfl _ rfl _ rfl (run_storeE 3 C2.out.c C2.out.f)) ?_;go_frame;have hk:=K.out.setCell (p:=⟨w.heap.size+1,0,none⟩) (by show w.heap.size≤w.heap.size+1; omega) (.int .i64 3);have y2:=C2.out.set (.int .i64 3);have hdd:=RF.Dfr.setCell DF.out ⟨w.heap.size+1,0,none⟩ (.int .i64 3);generalize w64.setCell ⟨w.heap.size+1,0,none⟩ (.int .i64 3)=w99 at *;have KX:=ι hk;have CX:=ι y2;have DX:=ι hdd;have HCX:=ι (show ChC ((N:Nat):Int) OO RR 3 from .inr ⟨by omega,.inr ⟨fun hh=>(of_decide_eq_false hbS.out) ⟨rfl,HOK.out.1 hh⟩,rfl⟩⟩);clear hk y2 hdd;go_wp2;exact ck_leave (ds:=[D]) KX.out CX.out HCX.out rfl (by simp) (fun D' hD'=>by simp at hD'; subst hD'; exact ⟨DX.out,HD.out⟩)
  | true =>
   have C2:=ι CI.out.c2;go_upto_region 21 with (fail);refine Rg.wl ?_;refine Rg.list_skip none rfl rfl (Rg.exec_store _ _ _ rfl _ rfl _ rfl (run_storeE 0 C2.out.c C2.out.f)) ?_;go_frame;have hk:=K.out.setCell (p:=⟨w.heap.size+1,0,none⟩) (by show w.heap.size≤w.heap.size+1; omega) (.int .i64 0);have y2:=C2.out.set (.int .i64 0);have hdd:=RF.Dfr.setCell DF.out ⟨w.heap.size+1,0,none⟩ (.int .i64 0);generalize w64.setCell ⟨w.heap.size+1,0,none⟩ (.int .i64 0)=w99 at *;have KX:=ι hk;have CX:=ι y2;have DX:=ι hdd;have HCX:=ι (show ChC ((N:Nat):Int) OO RR 0 from ChC.of (HOK.out.2 (of_decide_eq_true hbS.out).2));clear hk y2 hdd;go_wp2;exact ck_leave (ds:=[D]) KX.out CX.out HCX.out rfl (by simp) (fun D' hD'=>by simp at hD'; subst hD'; exact ⟨DX.out,HD.out⟩)
end Go.Proofs.YthehbckogieimaaGreat

namespace Go.Proofs.Nu
open Go.Proofs
def lsd (x:Nat):List Nat:=if h:x=0 then [] else (x % 10) :: lsd (x / 10)
termination_by x
decreasing_by omega
theorem lsd_zero:lsd 0=[]:=by unfold lsd; rfl
theorem lsd_pos {x:Nat} (h:0<x):lsd x=(x % 10) :: lsd (x / 10):=by
 conv=>lhs; unfold lsd
 rw [dif_neg (by omega)]
theorem lsd_lt:∀ (j x:Nat),j<(lsd x).length↔0<x / 10 ^ j
 | 0,x=>by
  by_cases h:x=0
  ·subst h; rw [lsd_zero]; simp
  ·rw [lsd_pos (by omega)]; simp; omega
 | j+1,x=>by
  by_cases h:x=0
  ·subst h; rw [lsd_zero]; simp
  ·rw [lsd_pos (by omega),List.length_cons,Nat.succ_lt_succ_iff,lsd_lt j (x / 10),Nat.pow_succ,Nat.div_div_eq_div_mul,Nat.mul_comm 10 (10 ^ j)]
theorem lsd_at:∀ (j x:Nat) (h:j<(lsd x).length),(lsd x)[j]=x / 10 ^ j % 10
 | 0,x,h=>by
  have hx:0<x:=by have:=(lsd_lt 0 x).1 h; simpa using this
  simp only [lsd_pos hx];simp
 | j+1,x,h=>by
  have hx:0<x:=by
   have h2:=(lsd_lt (j+1) x).1 h
   exact Nat.pos_of_ne_zero fun e=>by subst e; simp at h2
  have h2:j<(lsd (x / 10)).length:=by
   rw [lsd_pos hx] at h
   simpa using h
  have h3:=lsd_at j (x / 10) h2;simp only [lsd_pos hx,List.getElem_cons_succ];rw [h3,Nat.pow_succ,Nat.div_div_eq_div_mul,Nat.mul_comm 10 (10 ^ j)]
theorem lsd_dig {x:Nat}:∀ d∈lsd x,d<10:=fun d hd=>by
 obtain ⟨j,hj,rfl⟩:=List.getElem_of_mem hd;rw [lsd_at];omega
theorem lsd_top {x:Nat} (hx:0<x):0<(lsd x).length:=(lsd_lt 0 x).2 (by simpa using hx)
theorem lsd_take {x j:Nat} (h:j<(lsd x).length):(lsd x).take (j+1)=(lsd x).take j++[x / 10 ^ j % 10]:=by
 rw [List.take_succ_eq_append_getElem h,lsd_at]
theorem lsd_last {x:Nat} (hx:0<x):x / 10 ^ ((lsd x).length - 1) % 10≠0:=by
 have h0:=lsd_top hx;have h1:=(lsd_lt ((lsd x).length - 1) x).1 (by omega)
 have h2:¬ 0<x / 10 ^ (lsd x).length:=fun h=>by have:=(lsd_lt _ x).2 h; omega
 have e:x / 10 ^ (lsd x).length=x / 10 ^ ((lsd x).length - 1) / 10:=by
  rw [Nat.div_div_eq_div_mul,← Nat.pow_succ,show ((lsd x).length - 1).succ=(lsd x).length by omega]
 rw [e] at h2;omega
def txt (l:List Nat):ByteArray:=⟨(l.map fun d=>UInt8.ofNat (48+d)).toArray⟩
def num (x:Nat):ByteArray:=txt (lsd x).reverse
theorem txt_size (l:List Nat):(txt l).size=l.length:=by
 show (l.map _).toArray.size=_;simp
theorem num_size (x:Nat):(num x).size=(lsd x).length:=by unfold num; rw [txt_size,List.length_reverse]
theorem txt_at {l:List Nat} {i:Nat} (h:i<(txt l).size) (hl:∀ d∈l,d<10):((txt l)[i]).toNat=48+l[i]'(by rw [← txt_size]; exact h):=by
 have h2:i<l.length:=by rw [← txt_size]; exact h
 have e:(txt l)[i]=UInt8.ofNat (48+l[i]):=by
  show ((l.map fun d=>UInt8.ofNat (48+d)).toArray)[i]'(by simpa using h2)=_;simp
 rw [e];have:=hl _ (List.getElem_mem h2);rw [UInt8.toNat_ofNat'];omega
theorem num_at {x i:Nat} (h:i<(num x).size):((num x)[i]).toNat=48+x / 10 ^ ((lsd x).length - 1 - i) % 10:=by
 have h2:i<(lsd x).length:=by rw [← num_size]; exact h
 unfold num at h ⊢;rw [txt_at h (fun d hd=>lsd_dig d (List.mem_reverse.1 hd)),List.getElem_reverse,lsd_at]
theorem mul_step {m n c j:Nat} (h:m*n / 10 ^ j=c+n*(m / 10 ^ j)) :
  m*n / 10 ^ j % 10=(c+m / 10 ^ j % 10*n) % 10∧m*n / 10 ^ (j+1)=(c+m / 10 ^ j % 10*n) / 10+n*(m / 10 ^ (j+1)):=by
 have e1:∀ x:Nat,x / 10 ^ (j+1)=x / 10 ^ j / 10:=fun x=>by rw [Nat.pow_succ,Nat.div_div_eq_div_mul]
 rw [e1,e1,h];generalize m / 10 ^ j=q
 have e2:n*q=n*(10*(q / 10)+q % 10):=by rw [Nat.div_add_mod]
 have e3:n*(10*(q / 10)+q % 10)=10*(n*(q / 10))+q % 10*n:=by
  rw [Nat.mul_add,Nat.mul_left_comm,Nat.mul_comm n (q % 10)]
 rw [e2,e3];generalize n*(q / 10)=z;generalize q % 10*n=y;omega
theorem digits_lt {m n c j:Nat} (hn:0<n) (h:m*n / 10 ^ j=c+n*(m / 10 ^ j)):j<(lsd (m*n)).length↔j<(lsd m).length∨0<c:=by
 rw [lsd_lt,lsd_lt,h];generalize m / 10 ^ j=q
 constructor
 ·intro h1
  by_cases hq:0<q
  ·exact .inl hq
  ·have:q=0:=by omega
   subst this
   right; simpa using h1
 ·rintro (h1 | h1)
  ·have:=Nat.mul_pos hn h1; omega
  ·omega
end Go.Proofs.Nu

namespace Go.Proofs.YthehbckogieimaaGreat
open Go.RowKit
open Go.Proofs
open Go.Proofs.Ob
attribute [local irreducible] Go.Calls Go.wpList
theorem infoU8:(Tryz.prog.info? 5).map (fun i=>(i.zero,i.size,i.bytes))=some (some (.int .u8 0),1,1):=by kernel_rfl
theorem slBytes:Rg.SlT Tryz.prog 191 5 (.int .u8 0) 1:=⟨Tryz.underlying191,infoU8,rfl,by decide⟩
theorem run_loadU8 {w:World} {ad:Addr} {v:Value} (h:w.cell? ad=some v):(loadVar 5 ad).run Tryz.prog w=.ok v w:=by
 simp [loadVar,isAgg,run_underlying Tryz.underlying5,load];simp [Sem.run,h]
theorem run_storeU8 {w:World} {b o:Nat} {u:Value} (v:Int) (h:w.cell? ⟨b,o,none⟩=some u) (hf:w.frozen? ⟨b,o,none⟩=false) :
  (storeVar 5 ⟨b,o,none⟩ (.int .u8 v)).run Tryz.prog w=.ok () (w.setCell ⟨b,o,none⟩ (.int .u8 v)):=by
 obtain ⟨i0,hi,hz0,hz1,hz2⟩:=info_parts infoU8
 have h0:(⟨b,o,none⟩:Addr).add 0=⟨b,o,none⟩:=by simp [Addr.add]
 simp [storeVar,sizeOf,typeInfo,hi,hz1,Value.cells,storeCells,store,h0];simp [Sem.run,h,hf]
theorem yields_indexB {ops:Array Oper} {S:World→Prop} {o:Oper} {a:Act} (x y:Operand) (hg:Region.wanted o (yielded ops a.tmps)=true) (ho:o.op=.indexAddr 191 x y) (b len cap i:Nat) (hx:a.eval x=.slice (some ⟨b,0,none⟩) len cap) (hy:a.eval y=.int .i64 (i:Int)) (hi:i<len) :
  YieldsIf Tryz.prog ops S o (.pointer (some ⟨b,i,none⟩)) a:=by
 have:=Rg.yields_index (S:=S) slBytes x y hg ho b 0 len cap i hx hy hi
 rwa [Nat.zero_add] at this
theorem exec_indexB {o:Oper} {a:Act} {w:World} (x y:Operand) (ho:o.op=.indexAddr 191 x y) (b len cap i:Nat) (hx:a.eval x=.slice (some ⟨b,0,none⟩) len cap) (hy:a.eval y=.int .i64 (i:Int)) (hi:i<len) :
  (execOp a.eval o).run Tryz.prog w=.ok (.value (.pointer (some ⟨b,i,none⟩))) w:=by
 have:=Rg.run_indexSl slBytes w b 0 len cap i hi;rw [Nat.zero_add] at this;unfold execOp;simp only [ho,hx,hy,Sem.run_bind,Sem.run_pure,Result.andThen_ok,this]
theorem ReverseB_row (b n m cap:Nat) (g:Nat→Int) (F:Nat→Value) (hF:∀ j,j<m→F j=.int .u8 (g j)) (w w0:World) (hm:m≤n) (hn:m≤1000) (hr:w.rowIs b 5 n F) (hb:Below w0.heap.size w0 w) (hB:w0.heap.size≤b) :
  Calls Tryz.prog 180 #[.slice (some ⟨b,0,none⟩) m cap] w fun e w'=>(∃ v,e=.returned v)∧w'.rowIs b 5 n (fun j=>if j<m then .int .u8 (g (m - 1 - j)) else F j)∧Below w0.heap.size w0 w':=by
 have Hr:=ι hr;have HF:=ι hF;clear hr hF
 go_enter Tryz.func180,Tryz.ntmps180
 go_wp2
 go_loopw [2,3] (fun u v wr=>∃ (k:Nat) (j:Int),u=.int .i64 k∧v=.int .i64 j∧j+k+1=m∧k≤m∧Hid (wr.rowIs b 5 n (fun x=>if x<m∧(x<k∨m≤x+k) then .int .u8 (g (m - 1 - x)) else F x))∧Below w0.heap.size w0 wr) (fun u _ _=>m - (intOf u).toNat)
 case atStart=>exact ⟨0,_,rfl,rfl,by omega,by omega,Hr.out.congr (fun i hi=>by rw [if_neg (by omega)]),hb⟩
 case round =>
  clear Hr hb;obtain ⟨k,j,rfl,rfl,hj,hk,hs,hbel⟩:=hrel
  by_cases hlt:(k:Int)<j
  ·obtain ⟨jn,rfl⟩:∃ jn:Nat,j=jn:=⟨j.toNat,by omega⟩
   have hjn:jn+k+1=m:=by omega
   have hkj:k<jn:=by omega
   have ck:=hs.out.cell (show k<n by omega);have cj:=hs.out.cell (show jn<n by omega);rw [if_neg (by omega),HF.out _ (by omega)] at ck cj;have fk:=hs.out.frozen k;have fj:=hs.out.frozen jn;go_upto_region 3 with (fail);have hsd:(World.drew wr).rowIs b 5 n (fun x=>if x<m∧(x<k∨m≤x+k) then .int .u8 (g (m - 1 - x)) else F x):=hs.out;have hbd:Below w0.heap.size w0 (World.drew wr):=hbel.drew;have hT:(World.drew wr).cell? ⟨b,k,none⟩=some (.int .u8 (g k))∧(World.drew wr).cell? ⟨b,jn,none⟩=some (.int .u8 (g jn)):=⟨ck,cj⟩;have hfk:(World.drew wr).frozen? ⟨b,k,none⟩=false:=fk;have hfj:(World.drew wr).frozen? ⟨b,jn,none⟩=false:=fj;have HS:=ι hsd;clear hsd ck cj fk fj hs hbel;refine Rg.Any.begin (S:=Rg.Both 13 (fun W=>W.cell? ⟨b,k,none⟩=some (.int .u8 (g k))∧W.cell? ⟨b,jn,none⟩=some (.int .u8 (g jn))) (fun _=>True)) mix ?_
   generalize World.drew wr=W at *;have hS:∀ l,Rg.Both 13 (fun W=>W.cell? ⟨b,k,none⟩=some (.int .u8 (g k))∧W.cell? ⟨b,jn,none⟩=some (.int .u8 (g jn))) (fun _=>True) l W:=fun l=>⟨.inr hT,trivial⟩;refine Rg.tg 0 13 (.slice (some ⟨b,0,none⟩) m cap) 14 rfl rfl (.inl ⟨rfl,fun W hW=>Rg.exec_move _ rfl rfl⟩) (hS _) ?_;go_frame;refine Rg.tg 1 13 (.int .i64 (k:Int)) 15 rfl rfl (.inl ⟨rfl,fun W hW=>Rg.exec_move _ rfl rfl⟩) (hS _) ?_;go_frame;refine Rg.tg 2 13 (.slice (some ⟨b,0,none⟩) m cap) 16 rfl rfl (.inl ⟨rfl,fun W hW=>Rg.exec_move _ rfl rfl⟩) (hS _) ?_;go_frame;refine Rg.tg 3 13 (.int .i64 (jn:Int)) 17 rfl rfl (.inl ⟨rfl,fun W hW=>Rg.exec_move _ rfl rfl⟩) (hS _) ?_;go_frame;refine Rg.tg 4 13 (.slice (some ⟨b,0,none⟩) m cap) 18 rfl rfl (.inl ⟨rfl,fun W hW=>Rg.exec_move _ rfl rfl⟩) (hS _) ?_;go_frame;refine Rg.tg 5 13 (.int .i64 (jn:Int)) 19 rfl rfl (.inl ⟨rfl,fun W hW=>Rg.exec_move _ rfl rfl⟩) (hS _) ?_;go_frame
   refine Rg.tg 6 13 (.pointer (some ⟨b,jn,none⟩)) 20 rfl rfl (yields_indexB _ _ rfl rfl b m cap jn rfl rfl (by omega)) (hS _) ?_;go_frame;refine Rg.Any.takeT (i:=7) (t:=13) (v:=.int .u8 (g jn)) (some 21) rfl rfl (by kernel_rfl) (by kernel_rfl) (by kernel_rfl) (fun _ _ _ h=>h) rfl (by kernel_rfl) rfl (Rg.yields_cell _ _ rfl rfl ⟨b,jn,none⟩ rfl (fun w h=>run_loadU8 h.2)) (hS _) ?_;go_frame;refine Rg.tg 8 13 (.slice (some ⟨b,0,none⟩) m cap) 22 rfl rfl (.inl ⟨rfl,fun W hW=>Rg.exec_move _ rfl rfl⟩) (hS _) ?_;go_frame;refine Rg.tg 9 13 (.int .i64 (k:Int)) 23 rfl rfl (.inl ⟨rfl,fun W hW=>Rg.exec_move _ rfl rfl⟩) (hS _) ?_;go_frame;refine Rg.tg 10 13 (.pointer (some ⟨b,k,none⟩)) 24 rfl rfl (yields_indexB _ _ rfl rfl b m cap k rfl rfl (by omega)) (hS _) ?_;go_frame;refine Rg.Any.takeT (i:=11) (t:=13) (v:=.int .u8 (g k)) (some 25) rfl rfl (by kernel_rfl) (by kernel_rfl) (by kernel_rfl) (fun _ _ _ h=>h) rfl (by kernel_rfl) rfl (Rg.yields_cell _ _ rfl rfl ⟨b,k,none⟩ rfl (fun w h=>run_loadU8 h.1)) (hS _) ?_;go_frame
   refine Rg.Any.one (i:=12) (by kernel_rfl) (Rg.Any.run (some 26) rfl rfl rfl (exec_indexB _ _ rfl b m cap k rfl rfl (by omega)) (hS _) ?_);go_frame;refine Rg.Any.one (i:=13) (by kernel_rfl) (Rg.Any.runSkip none rfl rfl rfl (Rg.exec_store _ _ _ rfl _ rfl _ rfl (run_storeU8 (g jn) hT.1 hfk)) ⟨.inl rfl,trivial⟩ ?_);go_frame
   have hcj2:(W.setCell ⟨b,k,none⟩ (.int .u8 (g jn))).cell? ⟨b,jn,none⟩=some (.int .u8 (g jn)):=by
    rw [World.cell?_setCell_other (h:=by intro e; injection e with e1 e2; omega) ..]
    exact hT.2
   have hfj2:(W.setCell ⟨b,k,none⟩ (.int .u8 (g jn))).frozen? ⟨b,jn,none⟩=false:=by rw [World.frozen?_setCell]; exact hfj
   refine Rg.Any.one (i:=14) (by kernel_rfl) (Rg.Any.run (some 27) rfl rfl rfl (exec_indexB _ _ rfl b m cap jn rfl rfl (by omega)) ⟨.inl rfl,trivial⟩ ?_);go_frame;refine Rg.Any.one (i:=15) (by kernel_rfl) (Rg.Any.runSkip none rfl rfl rfl (Rg.exec_store _ _ _ rfl _ rfl _ rfl (run_storeU8 (g k) hcj2 hfj2)) ⟨.inl rfl,trivial⟩ ?_);go_frame;refine Rg.Any.done (by kernel_rfl) ?_ _;have hrow:=(HS.out.set k (.int .u8 (g jn))).set jn (.int .u8 (g k));have hbl:Below w0.heap.size w0 ((W.setCell ⟨b,k,none⟩ (.int .u8 (g jn))).setCell ⟨b,jn,none⟩ (.int .u8 (g k))):=(hbd.setCell hB _).setCell hB _;clear hcj2 hfj2 hS hT hfk hfj HS hbd;generalize (W.setCell ⟨b,k,none⟩ (.int .u8 (g jn))).setCell ⟨b,jn,none⟩ (.int .u8 (g k))=W2 at *;have HR:=ι hrow;clear hrow;go_wp2
   go_roundw
   case rel =>
    refine ⟨k+1,(jn:Int) - 1,by go_num,by go_num,by omega,by omega,ι (HR.out.congr fun x hx=>?_),hbl⟩
    by_cases e1:x=jn
    ·rw [if_pos e1,if_pos (by omega),show m - 1 - x=k from by omega]
    ·rw [if_neg e1]
     by_cases e2:x=k
     ·rw [if_pos e2,if_pos (by omega),show m - 1 - x=jn from by omega]
     ·rw [if_neg e2]
      by_cases e3:x<m∧(x<k∨m≤x+k)
      ·rw [if_pos e3,if_pos (by omega)]
      ·rw [if_neg e3,if_neg (by omega)]
   case measure=>simp [intOf]; omega
  ·go_wp2
   go_end0
   refine ⟨⟨_,rfl⟩,hs.out.congr fun x hx=>?_,hbel⟩
   by_cases e1:x<m
   ·rw [if_pos e1]
    by_cases e2:x<m∧(x<k∨m≤x+k)
    ·rw [if_pos e2]
    ·rw [if_neg e2,show m - 1 - x=x from by omega,HF.out x e1]
   ·rw [if_neg e1,if_neg (by omega)]
theorem exec_idx {o:Oper} {a:Act} {w:World} {t:TypeId} (x y:Operand) (ho:o.op=.index t x y) (ht:Tryz.prog.underlying t=some .string) {s:ByteArray} {i:Nat} (hx:a.eval x=.string s) (hy:a.eval y=.int .i64 ((i:Nat):Int)) {d:Nat} (hi:i<s.size) (hd:(s[i]).toNat=d) :
  (execOp a.eval o).run Tryz.prog w=.ok (.value (.int .u8 ((d:Nat):Int))) w:=by
 have h:=run_index_string (P:=Tryz.prog) w t s .i64 ((i:Nat):Int) ht;rw [dif_pos ⟨by omega,by omega⟩] at h
 have e:(s[((i:Nat):Int).toNat]'(by simpa using hi)).toNat=d:=by simpa using hd
 rw [e] at h;unfold execOp;simp only [ho,hx,hy,Sem.run_bind,Sem.run_pure,h,Result.andThen_ok]
theorem exec_lenS {o:Oper} {a:Act} {w:World} (x:Operand) (t:TypeId) (ho:o.op=.call { callee:=.builtin .len,args:=#[x],argTypes:=#[t] }) (ht:Tryz.prog.underlying t=some .string) {s:ByteArray} {n:Nat} (hx:a.eval x=.string s) (hn:s.size=n):(execOp a.eval o).run Tryz.prog w=.ok (.value (.int .i64 ((n:Nat):Int))) w:=by
 have h:=run_len_string (P:=Tryz.prog) w t o.type s ht;unfold execOp;simp [ho,hx,resolve,invoke,builtin,h,goInt,hn]
theorem exec_binU {o:Oper} {a:Act} {w:World} {u v:Int} {R:Value} (op:BinOp) (t:TypeId) (x y:Operand) (ho:o.op=.binOp op t x y t) (hx:a.eval x=.int .u8 u) (hy:a.eval y=.int .u8 v) (h1:(binOp op t (.int .u8 u) (.int .u8 v)).run Tryz.prog w=.ok R w):(execOp a.eval o).run Tryz.prog w=.ok (.value R) w:=by
 have hg:(eqGuard op t x y (.int .u8 u) (.int .u8 v)).run Tryz.prog w=.ok () w:=by
  simp [eqGuard]
 unfold execOp;simp only [ho,hx,hy,Sem.run_bind,Sem.run_pure,hg,h1,Result.andThen_ok]
theorem u_eql {w:World} {u v:Int} {b:Bool} (t:TypeId) (h:decide (u=v)=b):(binOp .eql t (.int .u8 u) (.int .u8 v)).run Tryz.prog w=.ok (.bool b) w:=by
 subst h;simp [binOp,Op.intCmp];rfl
theorem u_gtr {w:World} {u v:Int} {b:Bool} (t:TypeId) (h:decide (v<u)=b):(binOp .gtr t (.int .u8 u) (.int .u8 v)).run Tryz.prog w=.ok (.bool b) w:=by
 subst h;simp [binOp,Op.intCmp]
theorem u_lss {w:World} {u v:Int} {b:Bool} (t:TypeId) (h:decide (u<v)=b):(binOp .lss t (.int .u8 u) (.int .u8 v)).run Tryz.prog w=.ok (.bool b) w:=by
 subst h;simp [binOp,Op.intCmp]
theorem u_sub {w:World} {u v r:Int} (t:TypeId) (h:u - v=r) (hb:0≤r∧r<256):(binOp .sub t (.int .u8 u) (.int .u8 v)).run Tryz.prog w=.ok (.int .u8 r) w:=by
 have e:IntKind.u8.wrap r=r:=by
  have h2:IntKind.u8.wrap r=r % 256:=rfl;rw [h2]; omega
 simp [binOp,Op.intArith,h,e]

theorem Xbcl0 (args:Array Value) (w:World):(callFunc 179 args).run Tryz.prog w=.ok (.enter 179 args) w:=by kernel_rfl
theorem exec_convSB {o:Oper} {a:Act} {w:World} (x:Operand) (ho:o.op=.convert 56 191 x) {s:ByteArray} (hx:a.eval x=.string s) :
  (execOp a.eval o).run Tryz.prog w=.ok (.value (.slice (some ⟨w.heap.size,0,none⟩) s.size (grownCap w s.size 0 5))) (Lib.bytesWorld w 5 s):=by
 have h:=Lib.run_convert_string_bytes (P:=Tryz.prog) w 56 191 5 s Tryz.underlying56 Tryz.underlying191 Tryz.underlying5;unfold execOp;simp only [ho,hx,Sem.run_bind,Sem.run_pure,h,Result.andThen_ok]
theorem exec_convBS {o:Oper} {a:Act} {w:World} (x:Operand) (ho:o.op=.convert 191 56 x) {ad:Addr} {n c:Nat} {l:List UInt8} (hx:a.eval x=.slice (some ad) n c) (hn:n=l.length)
  (hc:∀ j (hj:j<l.length),w.cell? (ad.add j)=some (.int .u8 (l[j].toNat:Int))):(execOp a.eval o).run Tryz.prog w=.ok (.value (.string ⟨l.toArray⟩)) w:=by
 subst hn;have h:=run_convert_bytes_back (P:=Tryz.prog) w 191 56 5 ad c l Tryz.underlying191 Tryz.underlying5 Tryz.underlying56 hc;unfold execOp;simp only [ho,hx,Sem.run_bind,Sem.run_pure,h,Result.andThen_ok]
theorem exec_convUI {o:Oper} {a:Act} {w:World} (x:Operand) (ho:o.op=.convert 5 3 x) {n:Int} (hx:a.eval x=.int .u8 n) (hb:0≤n∧n<256):(execOp a.eval o).run Tryz.prog w=.ok (.value (.int .i64 n)) w:=by
 have h:(convert 5 3 (.int .u8 n)).run Tryz.prog w=.ok (.int .i64 n) w:=by
  simp [convert,run_underlying Tryz.underlying5,run_underlying Tryz.underlying3,Conv.intToInt,IntWalk.i64_in n (by omega)]
 unfold execOp;simp only [ho,hx,Sem.run_bind,Sem.run_pure,h,Result.andThen_ok]
theorem exec_convIU {o:Oper} {a:Act} {w:World} (x:Operand) (ho:o.op=.convert 3 5 x) {n:Int} (hx:a.eval x=.int .i64 n) (hb:0≤n∧n<256):(execOp a.eval o).run Tryz.prog w=.ok (.value (.int .u8 n)) w:=by
 have e:IntKind.u8.wrap n=n:=by
  have h2:IntKind.u8.wrap n=n % 256:=rfl;rw [h2]; omega
 have h:(convert 3 5 (.int .i64 n)).run Tryz.prog w=.ok (.int .u8 n) w:=by
  simp [convert,run_underlying Tryz.underlying5,run_underlying Tryz.underlying3,Conv.intToInt,e]
 unfold execOp;simp only [ho,hx,Sem.run_bind,Sem.run_pure,h,Result.andThen_ok]
theorem RevBcl (args:Array Value) (w:World):(callFunc 180 args).run Tryz.prog w=.ok (.enter 180 args) w:=by kernel_rfl
theorem b_rem {w:World} {u v r:Int} (t:TypeId) (hv:v≠0) (h:u.tmod v=r) (_hb:-9223372036854775808≤r∧r≤9223372036854775807):(binOp .rem t (.int .i64 u) (.int .i64 v)).run Tryz.prog w=.ok (.int .i64 r) w:=by
 simp [binOp,Op.intDiv,hv,h]
theorem bytesBelow (w:World) (e:TypeId) (s:ByteArray):Below w.heap.size w (Lib.bytesWorld w e s) :=
 ⟨rfl,rfl,rfl,by rw [Lib.bytesWorld_size]; omega,fun k hk=>Lib.bytesWorld_at_old w e s k hk⟩
theorem bytesNum (w:World) (x j:Nat) (hj:j<(Nu.lsd x).length):CL (Lib.bytesWorld w 5 (Nu.num x)) w.heap.size j (.int .u8 (((48+x / 10 ^ ((Nu.lsd x).length - 1 - j) % 10:Nat)):Int)):=by
 have hs:j<(Nu.num x).size:=by rw [Nu.num_size]; exact hj
 refine ⟨?_,by rw [Lib.bytesWorld_size]; omega⟩;rw [Lib.bytesWorld_cell w 5 (Nu.num x) j hs,← Nu.num_at hs]
 have e:(Nu.num x).data.toList.getD j 0=(Nu.num x)[j]:=by
  have h1:j<(Nu.num x).data.size:=hs;rw [List.getD_eq_getElem?_getD,List.getElem?_eq_getElem (by simpa using h1)];simp;rfl
 rw [e]
structure OwB (B:Nat) (W:World) (v:Value) (l:List Nat):Prop where
 own:W.ownsRow B 5 1 v l.length (l.map fun x:Nat=>Value.int .u8 (x:Int))
theorem OwB.nil (B:Nat) (W:World):OwB B W (.slice none 0 0) []:=⟨World.ownsRow_nil _ _ _ _⟩
theorem OwB.shape {B:Nat} {W:World} {v:Value} {l:List Nat} (h:OwB B W v l):∃ a c,v=.slice a l.length c:=Rg.row_shape h.own
theorem OwB.below {B:Nat} {W W':World} {v:Value} {l:List Nat} (h:OwB B W v l) (hb:Below W.heap.size W W'):OwB B W' v l:=⟨Rg.row_below h.own hb⟩
theorem run_build1b (X:World) (x:Int):(Instr.buildSlice 191 1 #[(0,.int .u8 x)]).run Tryz.prog X=.ok (.slice (some ⟨X.heap.size,0,none⟩) 1 1) (X.alloc (.cells #[.int .u8 x] 5)):=by
 obtain ⟨i0,hi,hz0,hz1,hz2⟩:=info_parts infoU8;refine run_buildSlice X 191 5 1 _ _ i0 _ Tryz.underlying191 hi hz0 (by rw [hz1]; decide) (by rw [hz1]; decide) ?_;generalize (fun x=>((Value.int IntKind.u8 0).cells)[x % (Value.int IntKind.u8 0).cells.size]!)=f;rw [hz1];have h1:Array.range (1*1)=#[0]:=rfl;simp [Instr.fill,Value.cells,h1]
theorem OwB.push {B:Nat} {W:World} {v:Value} {l:List Nat} (h:OwB B W v l) (hB:B≤W.heap.size) (x:Nat) (hn:l.length<1000000) (ty:TypeId) :
  ∃ a c X,(Builtin.append_ #[191,191] ty #[v,.slice (some ⟨W.heap.size,0,none⟩) 1 1]).run Tryz.prog (W.alloc (.cells #[.int .u8 ((x:Nat):Int)] 5))=.ok (.slice a (l.length+1) c) X∧OwB B X (.slice a (l.length+1) c) (l++[x])∧(∀ {B':Nat} {W0:World},B'≤B→Below B' W0 W→Below B' W0 X):=by
 have hb:Below W.heap.size W (W.alloc (.cells #[.int .u8 ((x:Nat):Int)] 5)):=(Below.refl _ _).alloc (Nat.le_refl _) _;obtain ⟨v',X,r1,r2,r3,r4,a,c,rfl⟩:=app_run (P:=Tryz.prog) slBytes ty (Rg.row_below h.own hb) (Nat.le_trans hB hb.size) W.heap.size 1 (u:=.int .u8 ((x:Nat):Int)) (by rw [Rg.cellNew]; rfl) rfl hn;refine ⟨a,c,X,r1,⟨by rw [List.length_append,List.map_append]; exact r2⟩,fun {B' W0} hB' hb0=>?_⟩;exact (hb0.alloc (Nat.le_trans hB' hB) _).grown r3 (Nat.le_trans (Nat.le_trans hB' hB) hb.size) (fun j hj=>Nat.le_trans hB' ((Rg.row_below h.own hb).lt j hj).1)
theorem order_num {m:Nat} (hm:0<m) (hl:(Nu.lsd m).length≤200) (w:World) :
  Calls Tryz.prog 179 #[.string (Nu.num m)] w fun e w'=>e=.returned (.bool true)∧Below w.heap.size w w':=by
 have HSZ:=ι (Nu.num_size m);have HTOP:=ι (Nu.lsd_top hm);have HLAST:=ι (Nu.lsd_last hm);have K:=ι (Below.refl w.heap.size w);obtain ⟨S,hS⟩:∃ S,Hid (Nu.num m=S):=⟨_,ι rfl⟩;obtain ⟨N,hN⟩:∃ N,Hid ((Nu.lsd m).length=N):=⟨_,ι rfl⟩;rw [hS.out];rw [hS.out,hN.out] at HSZ;rw [hN.out] at HTOP HLAST hl;obtain ⟨d0,hd0⟩:∃ d0,Hid (m / 10 ^ (N - 1) % 10=d0):=⟨_,ι rfl⟩;rw [hd0.out] at HLAST
 have hd1:d0<10:=by rw [← hd0.out]; exact Nat.mod_lt _ (by decide)
 have hn1:1≤N:=HTOP.out;have hd2:d0≠0:=HLAST.out;have HI0:=ι (show 0<S.size by rw [HSZ.out]; omega)
 have HI1:=ι (show (S[0]'HI0.out).toNat=48+d0 by
  have hs:=hS.out;subst hs
  rw [Nu.num_at,hN.out,Nat.sub_zero,hd0.out])
 go_enter Tryz.func179,Tryz.ntmps179
 go_upto_region 1 with (fail);refine Rg.wl ?_;refine Rg.lm 5 ((.string S)) ?_;go_frame;refine Rg.lr 6 (exec_lenS _ _ rfl Tryz.underlying56 rfl HSZ.out) ?_;go_frame;refine Rg.lr 7 (exec_bin (R:=.bool false) .lss _ _ _ rfl rfl rfl (b_lss _ (decide_eq_false (by omega)))) ?_;go_frame;refine Rg.lm 8 (.bool false) ?_;go_frame;refine listW_run (some 9) rfl rfl (Rg.xm ((.string S)) _ rfl rfl) ?_;go_frame;refine listW_run (some 10) rfl rfl (exec_lenS _ _ rfl Tryz.underlying56 rfl HSZ.out) ?_;go_frame;refine listW_run (some 11) rfl rfl (exec_bin (R:=.bool false) .gtr _ _ _ rfl rfl rfl (b_gtr _ (decide_eq_false (by omega)))) ?_;go_frame;refine Rg.lr 12 (exec_pickF (v:=.bool false) _ _ _ rfl rfl rfl) ?_;go_frame;refine Rg.lm 13 (.bool false) ?_;go_frame;refine listW_run (some 14) rfl rfl (Rg.xm ((.string S)) _ rfl rfl) ?_;go_frame;refine listW_run (some 15) rfl rfl (exec_idx (i:=0) _ _ rfl Tryz.underlying56 rfl rfl HI0.out HI1.out) ?_;go_frame
 refine listW_run (some 16) rfl rfl (exec_binU (R:=.bool false) .eql _ _ _ rfl rfl rfl (u_eql _ (decide_eq_false (by omega)))) ?_;go_frame;refine Rg.lr 17 (exec_pickF (v:=.bool false) _ _ _ rfl rfl rfl) ?_;go_frame;go_upto_region 3 with (fail);refine Rg.wl ?_;refine Rg.lm 18 ((.string S)) ?_;go_frame;have hbw:=bytesBelow w 5 S
 have hbc:∀ j,j<N→CL (Lib.bytesWorld w 5 S) w.heap.size j (.int .u8 (((48+m / 10 ^ (N - 1 - j) % 10:Nat)):Int)):=fun j hj=>by rw [← hS.out,← hN.out]; exact bytesNum w m j (by rw [hN.out]; exact hj)
 refine Rg.lr 19 (exec_convSB _ rfl rfl) ?_;go_frame;rw [HSZ.out];obtain ⟨cp,hcp⟩:∃ c,Hid (grownCap w N 0 5=c):=⟨_,ι rfl⟩;rw [hcp.out];generalize Lib.bytesWorld w 5 S=w1 at *;replace K:=ι hbw;have HBC:=ι hbc;clear hbw hbc;refine Rg.lr 20 (exec_len _ _ _ rfl Tryz.underlying191 _ _ _ rfl) ?_;go_frame;refine Rg.lm 21 (.int .i64 ((0:Nat):Int)) ?_;go_frame;go_wp2
 go_loopw [21] (fun kv wr=>∃ k:Nat,kv=.int .i64 k∧k≤N∧Hid (Below w.heap.size w wr)∧Hid (∀ j,j<N→CL wr w.heap.size j (.int .u8 (((48+m / 10 ^ (N - 1 - j) % 10:Nat)):Int)))) (fun kv _=>N - (intOf kv).toNat)
 case atStart=>exact ⟨0,rfl,Nat.zero_le _,K,HBC⟩
 case round =>
  clear K HBC;obtain ⟨k,rfl,hk,K,HBC⟩:=hrel
  by_cases hkl:k<N
  ·have hkN:(k:Int)<(N:Int):=by omega
   have HKL:=ι hkl;obtain ⟨d,hd⟩:∃ d,Hid (m / 10 ^ (N - 1 - k) % 10=d):=⟨_,ι rfl⟩
   have hdl:d<10:=by rw [← hd.out]; exact Nat.mod_lt _ (by decide)
   have hcd:=HBC.out k hkl;rw [hd.out] at hcd;have CD:=ι (show CL wr w.heap.size (0+k) (.int .u8 ((48+d:Nat):Int)) by rw [Nat.zero_add]; exact hcd);clear hcd;go_upto_region 5 with (fail);refine Rg.wl ?_;refine Rg.lr 23 (exec_indexS slBytes _ _ rfl w.heap.size (0) (N) cp (k) rfl rfl HKL.out) ?_;go_frame;refine Rg.lr 24 (Rg.exec_load (v:=(.int .u8 ((48+d:Nat):Int))) _ _ rfl ⟨w.heap.size,0+k,none⟩ rfl (run_loadU8 CD.out.cell)) ?_;go_frame;refine Rg.la 4 ((.int .u8 ((48+d:Nat):Int))) ?_;go_frame;go_upto_region 6 with (fail);refine Rg.wl ?_;refine Rg.lm 25 ((.int .u8 ((48+d:Nat):Int))) ?_;go_frame;refine Rg.lr 26 (exec_binU (R:=.bool false) .lss _ _ _ rfl rfl rfl (u_lss _ (decide_eq_false (by omega)))) ?_;go_frame;refine Rg.lm 27 (.bool false) ?_;go_frame;refine listW_run (some 28) rfl rfl (Rg.xm ((.int .u8 ((48+d:Nat):Int))) _ rfl rfl) ?_;go_frame;refine listW_run (some 29) rfl rfl (exec_binU (R:=.bool false) .gtr _ _ _ rfl rfl rfl (u_gtr _ (decide_eq_false (by omega)))) ?_;go_frame
   refine Rg.lr 30 (exec_pickF (v:=.bool false) _ _ _ rfl rfl rfl) ?_;go_frame;go_wp2
   go_roundw
   case rel=>exact ⟨k+1,by go_num,HKL.out,K,HBC⟩
   case measure=>simp [intOf]; have:=HKL.out; omega
  ·obtain rfl:k=N:=by omega
   have hkN:¬ (k:Int)<(k:Int):=by omega
   go_wp2;go_ret;exact ⟨rfl,K.out⟩
theorem Times_any {m n:Nat} (hm:0<m) (hn0:0<n) (hn1:n≤1000000000) (hl:(Nu.lsd m).length≤200) (hl2:(Nu.lsd (m*n)).length≤200) (w:World) :
  Calls Tryz.prog 108 #[.string (Nu.num m),.int .i64 ((n:Nat):Int)] w fun e w'=>e=.returned (.tuple #[.string (Nu.num (m*n)),.int .i64 0])∧Below w.heap.size w w':=by
 have HSZ:=ι (Nu.num_size m);have HM:=ι hm;have HMN:=ι (Nat.mul_pos hm hn0);have HORD:=ι (order_num hm hl);have K:=ι (Below.refl w.heap.size w);obtain ⟨S,hS⟩:∃ S,Hid (Nu.num m=S):=⟨_,ι rfl⟩;obtain ⟨N,hN⟩:∃ N,Hid ((Nu.lsd m).length=N):=⟨_,ι rfl⟩;obtain ⟨J,hJ⟩:∃ J,Hid ((Nu.lsd (m*n)).length=J):=⟨_,ι rfl⟩
 have hn1':1≤N:=by rw [← hN.out]; exact Nu.lsd_top hm
 have HDL:=ι (show ∀ c j,m*n / 10 ^ j=c+n*(m / 10 ^ j)→(j<J↔j<N∨0<c) from fun c j h=>by rw [← hJ.out,← hN.out]; exact Nu.digits_lt hn0 h)
 have HIX:=ι (show ∀ i (h:i<S.size),(S[i]).toNat=48+m / 10 ^ (N - 1 - i) % 10 from fun i h=>by
  have hs:=hS.out;subst hs
  rw [Nu.num_at,hN.out])
 have HDG:=ι (show ∀ j,j<J→(Nu.lsd (m*n)).take (j+1)=(Nu.lsd (m*n)).take j++[m*n / 10 ^ j % 10] from fun j h=>Nu.lsd_take (by rw [hJ.out]; exact h));rw [hS.out];rw [hS.out,hN.out] at HSZ;rw [hS.out] at HORD;rw [hN.out] at hl;rw [hJ.out] at hl2;clear hm
 go_enter Tryz.func108,Tryz.ntmps108
 go_upto_region 1 with (fail);refine Rg.wl ?_;refine Rg.lm 10 ((.string S)) ?_;go_frame;refine list_ask (some 11) rfl rfl _ _ (exec_fn1 179 _ _ rfl rfl (Xbcl0 _ _)) ?_;refine (HORD.out w).mono ?_;rintro e1 w1 ⟨rfl,hb⟩;refine ⟨_,rfl,?_⟩;go_frame;replace K:=ι (Rg.acc K.out hb);clear hb;refine Rg.lr 12 (exec_not _ _ true rfl rfl) ?_;go_frame;refine Rg.la 9 (.bool false) ?_;go_frame;go_upto_region 3 with (fail);refine Rg.wl ?_;refine Rg.lm 14 (.int .i64 ((n:Nat):Int)) ?_;go_frame;refine Rg.lr 15 (exec_bin (R:=.bool false) .lss _ _ _ rfl rfl rfl (b_lss _ (decide_eq_false (by omega)))) ?_;go_frame;refine Rg.lm 16 (.bool false) ?_;go_frame;refine listW_run (some 17) rfl rfl (Rg.xm (.int .i64 ((n:Nat):Int)) _ rfl rfl) ?_;go_frame;refine listW_run (some 18) rfl rfl (exec_bin (R:=.bool false) .gtr _ _ _ rfl rfl rfl (b_gtr _ (decide_eq_false (by omega)))) ?_;go_frame;refine Rg.lr 19 (exec_pickF (v:=.bool false) _ _ _ rfl rfl rfl) ?_;go_frame
 refine Rg.la 13 (.bool false) ?_;go_frame;go_upto_region 7 with (fail);refine Rg.wl ?_;refine Rg.lm 20 ((.string S)) ?_;go_frame;refine Rg.lr 21 (exec_lenS _ _ rfl Tryz.underlying56 rfl HSZ.out) ?_;go_frame;refine Rg.lr 22 (exec_bin (R:=.int .i64 ((N:Int) - 1)) .sub _ _ _ rfl rfl rfl (b_sub _ (by omega) (by omega))) ?_;go_frame;refine Rg.la 8 (.int .i64 ((N:Int) - 1)) ?_;go_frame;have RB:=ι (show OwB w.heap.size w1 (.slice none 0 0) (((Nu.lsd (m*n)).take 0).map (48+·)) from OwB.nil _ _);have HC:=ι (show m*n / 10 ^ 0=0+n*(m / 10 ^ 0) by simp [Nat.mul_comm]);go_wp2
 go_loopw [6,7,8] (fun dv cv iv wr=>∃ (j c:Nat) (da:Option Addr) (dc:Nat),dv=.slice da j dc∧cv=.int .i64 c∧iv=.int .i64 ((N:Int) - 1 - (j:Int))∧j≤J∧c≤n∧Hid (m*n / 10 ^ j=c+n*(m / 10 ^ j))∧Hid (OwB w.heap.size wr dv (((Nu.lsd (m*n)).take j).map (48+·)))∧Hid (Below w.heap.size w wr)) (fun _ _ iv _=>(J+(intOf iv+1 - N)).toNat)
 case atStart=>exact ⟨0,0,_,_,rfl,rfl,by go_num,Nat.zero_le _,Nat.zero_le _,HC,RB,K⟩
 case round =>
  clear RB HC K;obtain ⟨j,c,da,dc,rfl,rfl,rfl,hj,hc,HC,RB,K⟩:=hrel;have hdl:=HDL.out c j HC.out;have HTL:=ι (show (((Nu.lsd (m*n)).take j).map (48+·)).length=j by rw [List.length_map,List.length_take,hJ.out]; omega);have HPL:=ι (show (((Nu.lsd (m*n)).take j).map (48+·)).length<1000000 by rw [HTL.out]; omega)
  by_cases hjJ:j<J
  ·have hor:=hdl.1 hjJ
   have HJJ:=ι hjJ;have hms:=Nu.mul_step HC.out;obtain ⟨d,hd⟩:∃ d,Hid (m / 10 ^ j % 10=d):=⟨_,ι rfl⟩;rw [hd.out] at hms
   have hd10:d<10:=by rw [← hd.out]; exact Nat.mod_lt _ (by decide)
   obtain ⟨y,hy⟩:∃ y,Hid (d*n=y):=⟨_,ι rfl⟩;rw [hy.out] at hms
   have hyl:y≤9*n:=by rw [← hy.out]; exact Nat.mul_le_mul_right n (by omega)
   have HS1:=ι hms.1;have HS2:=ι hms.2;clear hms hdl
   by_cases hjN:j<N
   ·have HIS:=ι (show N - 1 - j<S.size by rw [HSZ.out]; omega)
    have HIV:=ι (show (S[N - 1 - j]'HIS.out).toNat=48+d by rw [HIX.out _ HIS.out,show N - 1 - (N - 1 - j)=j by omega,hd.out])
    have hiE:((N:Int) - 1 - (j:Int))=((N - 1 - j:Nat):Int):=by omega
    have HIE:=ι hiE;clear hiE hor;go_upto_region 8 with (fail);refine Rg.wl ?_;refine Rg.lm 23 (.int .i64 ((N:Int) - 1 - (j:Int))) ?_;go_frame;refine Rg.lr 24 (exec_bin (R:=.bool true) .geq _ _ _ rfl rfl rfl (b_geq _ (decide_eq_true (by omega)))) ?_;go_frame;refine Rg.lm 25 (.bool true) ?_;go_frame;refine listW_pass (some 26) (by kernel_rfl) rfl ?_;go_frame;refine listW_pass (some 27) (by kernel_rfl) rfl ?_;go_frame;refine Rg.lr 28 (exec_pickT (v:=.bool true) _ _ _ rfl rfl rfl) ?_;go_frame;go_upto_region 10 with (fail);refine Rg.wl ?_;refine Rg.lm 31 (.int .i64 ((N:Int) - 1 - (j:Int))) ?_;go_frame;refine Rg.lr 32 (exec_bin (R:=.bool true) .geq _ _ _ rfl rfl rfl (b_geq _ (decide_eq_true (by omega)))) ?_;go_frame;go_upto_region 11 with (fail);refine Rg.wl ?_;refine Rg.lm 33 (.int .i64 ((c:Nat):Int)) ?_;go_frame;refine Rg.lm 34 ((.string S)) ?_;go_frame;refine Rg.lm 35 (.int .i64 ((N:Int) - 1 - (j:Int))) ?_;go_frame
    refine Rg.lr 36 (exec_idx (i:=N - 1 - j) _ _ rfl Tryz.underlying56 rfl (by show Value.int .i64 _=_; rw [HIE.out]) HIS.out HIV.out) ?_;go_frame;refine Rg.lr 37 (exec_binU (R:=.int .u8 ((d:Nat):Int)) .sub _ _ _ rfl rfl rfl (u_sub _ (by omega) (by omega))) ?_;go_frame;refine Rg.lr 38 (exec_convUI _ rfl rfl (by omega)) ?_;go_frame;refine Rg.lm 39 (.int .i64 ((n:Nat):Int)) ?_;go_frame;refine Rg.lr 40 (exec_bin (R:=.int .i64 ((y:Nat):Int)) .mul _ _ _ rfl rfl rfl (b_mul _ (by rw [← hy.out]; simp) (by omega))) ?_;go_frame;refine Rg.lr 41 (exec_bin (R:=.int .i64 ((c+y:Nat):Int)) .add _ _ _ rfl rfl rfl (b_add _ (by omega) (by omega))) ?_;go_frame;refine Rg.la 7 (.int .i64 (((c+y):Nat):Int)) ?_;go_frame;go_upto_region 12 with (fail);refine Rg.wl ?_;refine Rg.lm 42 (.slice da j dc) ?_;go_frame;refine Rg.lm 43 (.int .i64 (((c+y):Nat):Int)) ?_;go_frame;refine Rg.lr 44 (exec_bin (R:=.int .i64 (((c+y) % 10:Nat):Int)) .rem _ _ _ rfl rfl rfl (b_rem _ (by decide) rfl (by omega))) ?_;go_frame
    refine Rg.lr 45 (exec_bin (R:=.int .i64 ((48+(c+y) % 10:Nat):Int)) .add _ _ _ rfl rfl rfl (b_add _ (by omega) (by omega))) ?_;go_frame;refine Rg.lr 46 (exec_convIU _ rfl rfl (by omega)) ?_;go_frame;refine Rg.lr 47 (Rg.exec_buildSlice _ _ _ rfl (.int .u8 ((48+(c+y) % 10:Nat):Int)) rfl (run_build1b wr _)) ?_;go_frame;obtain ⟨a9,c9,X9,r1,r2,r3⟩:=RB.out.push K.out.size (48+(c+y) % 10) HPL.out 191;rw [HTL.out] at r1 r2;refine Rg.lr 48 (Rg.exec_append _ _ _ rfl rfl rfl r1) ?_;go_frame;refine Rg.la 6 (.slice a9 (j+1) c9) ?_;go_frame;have K2:=ι (r3 (Nat.le_refl _) K.out)
    have RB2:=ι (show OwB w.heap.size X9 (.slice a9 (j+1) c9) (((Nu.lsd (m*n)).take (j+1)).map (48+·)) by
     rw [HDG.out j HJJ.out,List.map_append,HS1.out]; exact r2)
    clear r1 r2 r3;go_upto_region 13 with (fail);refine Rg.wl ?_;refine Rg.lm 49 (.int .i64 (((c+y):Nat):Int)) ?_;go_frame;refine Rg.lr 50 (exec_bin (R:=.int .i64 (((c+y) / 10:Nat):Int)) .quo _ _ _ rfl rfl rfl (b_quo _ (by decide) rfl (by omega))) ?_;go_frame;refine Rg.lr 7 (Rg.exec_assign (v:=.int .i64 ((((c+y) / 10):Nat):Int)) _ rfl rfl) ?_;go_frame;go_wp2
    go_roundw
    case rel=>exact ⟨j+1,(c+y) / 10,_,_,rfl,rfl,by go_num,HJJ.out,by omega,HS2,RB2,K2⟩
    case measure=>simp [intOf]; have:=HJJ.out; omega
   ·have hc0:0<c:=by rcases hor with h | h; exact absurd h hjN; exact h
    have hy0:y=0:=by
     have h1:=hd.out
     have h2:m / 10 ^ j=0:=by
      have h3:=Nu.lsd_lt j m;rw [hN.out] at h3;exact Nat.eq_zero_of_not_pos fun h=>hjN (h3.2 h)
     rw [h2] at h1;rw [← hy.out,← h1]; simp
    subst hy0;replace HS1:=ι (show m*n / 10 ^ j % 10=c % 10 by rw [HS1.out,Nat.add_zero]);replace HS2:=ι (show m*n / 10 ^ (j+1)=c / 10+n*(m / 10 ^ (j+1)) by rw [HS2.out,Nat.add_zero]);clear hor;go_upto_region 8 with (fail);refine Rg.wl ?_;refine Rg.lm 23 (.int .i64 ((N:Int) - 1 - (j:Int))) ?_;go_frame;refine Rg.lr 24 (exec_bin (R:=.bool false) .geq _ _ _ rfl rfl rfl (b_geq _ (decide_eq_false (by omega)))) ?_;go_frame;refine Rg.lm 25 (.bool false) ?_;go_frame;refine listW_run (some 26) rfl rfl (Rg.xm (.int .i64 ((c:Nat):Int)) _ rfl rfl) ?_;go_frame;refine listW_run (some 27) rfl rfl (exec_bin (R:=.bool true) .gtr _ _ _ rfl rfl rfl (b_gtr _ (decide_eq_true (by omega)))) ?_;go_frame;refine Rg.lr 28 (exec_pickF (v:=.bool true) _ _ _ rfl rfl rfl) ?_;go_frame;go_upto_region 10 with (fail);refine Rg.wl ?_;refine Rg.lm 31 (.int .i64 ((N:Int) - 1 - (j:Int))) ?_;go_frame
    refine Rg.lr 32 (exec_bin (R:=.bool false) .geq _ _ _ rfl rfl rfl (b_geq _ (decide_eq_false (by omega)))) ?_;go_frame;go_upto_region 12 with (fail);refine Rg.wl ?_;refine Rg.lm 42 (.slice da j dc) ?_;go_frame;refine Rg.lm 43 (.int .i64 ((c:Nat):Int)) ?_;go_frame;refine Rg.lr 44 (exec_bin (R:=.int .i64 (((c) % 10:Nat):Int)) .rem _ _ _ rfl rfl rfl (b_rem _ (by decide) rfl (by omega))) ?_;go_frame;refine Rg.lr 45 (exec_bin (R:=.int .i64 ((48+(c) % 10:Nat):Int)) .add _ _ _ rfl rfl rfl (b_add _ (by omega) (by omega))) ?_;go_frame;refine Rg.lr 46 (exec_convIU _ rfl rfl (by omega)) ?_;go_frame;refine Rg.lr 47 (Rg.exec_buildSlice _ _ _ rfl (.int .u8 ((48+(c) % 10:Nat):Int)) rfl (run_build1b wr _)) ?_;go_frame;obtain ⟨a9,c9,X9,r1,r2,r3⟩:=RB.out.push K.out.size (48+(c) % 10) HPL.out 191;rw [HTL.out] at r1 r2;refine Rg.lr 48 (Rg.exec_append _ _ _ rfl rfl rfl r1) ?_;go_frame
    refine Rg.la 6 (.slice a9 (j+1) c9) ?_;go_frame;have K2:=ι (r3 (Nat.le_refl _) K.out)
    have RB2:=ι (show OwB w.heap.size X9 (.slice a9 (j+1) c9) (((Nu.lsd (m*n)).take (j+1)).map (48+·)) by
     rw [HDG.out j HJJ.out,List.map_append,HS1.out]; exact r2)
    clear r1 r2 r3;go_upto_region 13 with (fail);refine Rg.wl ?_;refine Rg.lm 49 (.int .i64 ((c:Nat):Int)) ?_;go_frame;refine Rg.lr 50 (exec_bin (R:=.int .i64 (((c) / 10:Nat):Int)) .quo _ _ _ rfl rfl rfl (b_quo _ (by decide) rfl (by omega))) ?_;go_frame;refine Rg.lr 7 (Rg.exec_assign (v:=.int .i64 ((((c) / 10):Nat):Int)) _ rfl rfl) ?_;go_frame;go_wp2
    go_roundw
    case rel=>exact ⟨j+1,(c) / 10,_,_,rfl,rfl,by go_num,HJJ.out,by omega,HS2,RB2,K2⟩
    case measure=>simp [intOf]; have:=HJJ.out; omega
  ·obtain rfl:j=J:=by omega
   have hjN:¬ j<N:=fun h=>hjJ (hdl.2 (.inl h));have hc0:c=0:=Nat.eq_zero_of_not_pos fun h=>hjJ (hdl.2 (.inr h));subst hc0
   have hj0:0<j:=by rw [← hJ.out]; exact Nu.lsd_top HMN.out
   clear hdl;go_upto_region 8 with (fail);refine Rg.wl ?_;refine Rg.lm 23 (.int .i64 ((N:Int) - 1 - (j:Int))) ?_;go_frame;refine Rg.lr 24 (exec_bin (R:=.bool false) .geq _ _ _ rfl rfl rfl (b_geq _ (decide_eq_false (by omega)))) ?_;go_frame;refine Rg.lm 25 (.bool false) ?_;go_frame;refine listW_run (some 26) rfl rfl (Rg.xm (.int .i64 ((0:Nat):Int)) _ rfl rfl) ?_;go_frame;refine listW_run (some 27) rfl rfl (exec_bin (R:=.bool false) .gtr _ _ _ rfl rfl rfl (b_gtr _ (decide_eq_false (by omega)))) ?_;go_frame;refine Rg.lr 28 (exec_pickF (v:=.bool false) _ _ _ rfl rfl rfl) ?_;go_frame
   rcases own_cases RB.out.own with ⟨_,hl0⟩ | ⟨g,cap,F,hu5,hrow,hlc,hcm,hBg,hF⟩
   ·exact absurd (HTL.out.symm.trans hl0) (by omega)
   ·injection hu5 with h1 h2 h3
    subst h1 h3;rw [HTL.out] at hlc;have HFF:=ι hF;have HRW:=ι hrow;clear hF hrow h2;go_upto_region 14 with (fail);refine Rg.wl ?_;refine Rg.lm 51 (.slice (some ⟨g,0,none⟩) j dc) ?_;go_frame;refine Rg.lr 52 (exec_len _ _ _ rfl Tryz.underlying191 _ _ _ rfl) ?_;go_frame;refine Rg.lr 53 (exec_bin (R:=.bool false) .gtr _ _ _ rfl rfl rfl (b_gtr _ (decide_eq_false (by omega)))) ?_;go_frame;go_upto_region 16 with (fail);refine Rg.wl ?_;refine Rg.lm 54 (.slice (some ⟨g,0,none⟩) j dc) ?_;go_frame;refine list_ask (some 55) rfl rfl _ _ (exec_fn1 180 _ _ rfl rfl (RevBcl _ _)) ?_
    have hFi:∀ i,i<j→F i=.int .u8 (((48+m*n / 10 ^ i % 10:Nat)):Int):=fun i hi=>by
     have h1:i<(List.map (fun x:Nat=>Value.int .u8 (x:Int)) (((Nu.lsd (m*n)).take j).map (48+·))).length:=by rw [List.length_map,HTL.out]; exact hi
     rw [HFF.out i h1];simp only [List.getElem_map,List.getElem_take];rw [Nu.lsd_at]
    refine (ReverseB_row g dc j dc (fun i=>(((48+m*n / 10 ^ i % 10:Nat)):Int)) F hFi _ w hlc (by omega) HRW.out K.out hBg).mono ?_;rintro e1 w20 ⟨⟨rv,rfl⟩,hrv,hb⟩;refine ⟨_,rfl,?_⟩;go_frame;have HRV:=ι hrv;replace K:=ι hb;clear hrv hb hFi;go_upto_region 17 with (fail);refine Rg.wl ?_;refine Rg.lm 56 (.slice (some ⟨g,0,none⟩) j dc) ?_;go_frame
    have hcl:∀ i (hi:i<((Nu.lsd (m*n)).reverse.map fun d=>UInt8.ofNat (48+d)).length),w20.cell? ((⟨g,0,none⟩:Addr).add i)=some (.int .u8 ((((Nu.lsd (m*n)).reverse.map fun d=>UInt8.ofNat (48+d))[i].toNat:Nat):Int)):=fun i hi=>by
     have hi2:i<j:=by rw [List.length_map,List.length_reverse,hJ.out] at hi; exact hi
     have e:(⟨g,0,none⟩:Addr).add i=⟨g,i,none⟩:=by rw [Addr.add_mid,Nat.zero_add]
     rw [e,HRV.out.cell (by omega),if_pos hi2];simp only [List.getElem_map,List.getElem_reverse];rw [Nu.lsd_at,hJ.out,UInt8.toNat_ofNat'];have:=Nat.mod_lt (m*n / 10 ^ (j - 1 - i)) (show 0<10 by decide)
     congr 2
     omega
    refine Rg.lr 57 (exec_convBS (l:=((Nu.lsd (m*n)).reverse.map fun d=>UInt8.ofNat (48+d))) _ rfl rfl (by rw [List.length_map,List.length_reverse,hJ.out]) hcl) ?_;go_frame;clear hcl;refine Rg.la 4 ((.string (Nu.num (m*n)))) ?_;go_frame;refine Rg.la 5 (.int .i64 ((0:Nat):Int)) ?_;go_frame;go_wp2
    go_ret2
    exact ⟨rfl,K.out⟩

theorem Xccl0 (args:Array Value) (w:World):(callFunc 42 args).run Tryz.prog w=.ok (.enter 42 args) w:=by kernel_rfl
theorem Xccl1 (args:Array Value) (w:World):(callFunc 108 args).run Tryz.prog w=.ok (.enter 108 args) w:=by kernel_rfl
theorem num_one:Nu.num 1=⟨#[49]⟩:=by
 unfold Nu.num;rw [Nu.lsd_pos (by decide),show 1 / 10=0 from rfl,Nu.lsd_zero];rfl
def prodL:List (List Int)→Nat
 | []=>1
 | l :: r=>l.length*prodL r
theorem prodL_snoc (a:List (List Int)) (l:List Int):prodL (a++[l])=prodL a*l.length:=by
 induction a with
 | nil=>simp [prodL]
 | cons x a ih=>simp only [List.cons_append,prodL,ih,Nat.mul_assoc]
theorem prodL_pos {a:List (List Int)} (h:∀ l∈a,0<l.length):0<prodL a:=by
 induction a with
 | nil=>simp [prodL]
 | cons x a ih=>exact Nat.mul_pos (h x (List.mem_cons_self ..)) (ih fun l hl=>h l (List.mem_cons_of_mem _ hl))
theorem prodL_le {a:List (List Int)} (h:∀ l∈a,l.length≤64):prodL a≤64 ^ a.length:=by
 induction a with
 | nil=>simp [prodL]
 | cons x a ih =>
  have h1:=ih fun l hl=>h l (List.mem_cons_of_mem _ hl);have h2:=h x (List.mem_cons_self ..)
  calc x.length*prodL a≤64*64 ^ a.length:=Nat.mul_le_mul h2 h1
   _=64 ^ (a.length+1):=by rw [Nat.pow_succ,Nat.mul_comm]
theorem prodL_small {a:List (List Int)} (h:∀ l∈a,l.length≤64) (hl:a.length≤64):(Nu.lsd (prodL a)).length≤200:=by
 refine Nat.le_of_not_lt fun hlt=>?_;have h1:=(Nu.lsd_lt 200 _).1 hlt;have h2:=prodL_le h;have h3:(64:Nat) ^ a.length≤64 ^ 64:=Nat.pow_le_pow_right (by decide) hl;have h4:prodL a / 10 ^ 200=0:=Nat.div_eq_of_lt (Nat.lt_of_le_of_lt (Nat.le_trans h2 h3) (by decide +kernel));omega
theorem ChOK.orbs {n:Int} {OO:List (List Int)} {RR:List (List (List Int))} (h:ChOK n OO RR):(∀ l∈OO,0<l.length∧l.length≤64)∧OO.length≤64:=by
 obtain ⟨N,O,R,rfl,h1,h2,rfl,rfl,hc,hg⟩:=h;refine ⟨fun l hl=>?_,by rw [List.length_map,hc.lenO]; exact h2⟩;obtain ⟨o,ho,rfl⟩:=List.mem_map.1 hl;obtain ⟨i,hi,rfl⟩:=List.getElem_of_mem ho
 have hin:i<N:=by rw [← hc.lenO]; exact hi
 have hH:=Cm.Gr.isG (n:=N) (gs:=(·∈R.flatten)) hg;have e1:=chain_len hH hc hin;have e2:=(hc.orb i i hin).2 ⟨Ma.oneN N,⟨.one,Cm.Fx.one (Nat.le_of_lt hin)⟩,Cm.ap_one hin⟩;rw [getD_inf hi] at e1 e2;rw [Ma.len_ofN];exact ⟨List.length_pos_of_mem e2,by omega⟩
def OrdPost (n:Int) (OO:List (List Int)) (RR:List (List (List Int))) (w:World) (e:Ending) (w':World):Prop:=∃ s c,e=.returned (.tuple #[.string s,.int .i64 c])∧ChC n OO RR c∧(c=0→s=Nu.num (prodL OO))∧(c≠0→s=⟨#[]⟩)∧Below w.heap.size w w'
theorem chOrder_any {n:Int} {ov rv:Value} {OO:List (List Int)} {RR:List (List (List Int))} {w:World} (h:ChEqR w ov rv OO RR) :
  Calls Tryz.prog 36 #[.agg #[.int .i64 n,ov,rv]] w (OrdPost n OO RR w):=by
 obtain ⟨oa,oc,rfl,_,hoL,_,hos⟩:=h.1.shape;have HOS:=ι hos;have H:=ι h;clear h hos;have hbx:=box3 w (.int .i64 n) (.slice oa OO.length oc) rv
 go_enter Tryz.func36,Tryz.ntmps36
 go_upto_region 0 with (fail);refine Rg.wl ?_;refine Rg.lr 1 (Rg.exec_box _ _ rfl rfl) ?_;go_frame;have hb:Below w.heap.size w (w.alloc (.cells #[.int .i64 n,.slice oa OO.length oc,rv] 54)):=(Below.refl _ _).alloc (Nat.le_refl _) _;generalize w.alloc (.cells #[.int .i64 n,.slice oa OO.length oc,rv] 54)=w1 at *;have A0:=ι hbx.1;have A1:=ι hbx.2.1;have A2:=ι hbx.2.2;have KB:=ι hb;replace H:=ι (H.out.below hb);have K:=ι (Below.refl w1.heap.size w1);clear hbx hb;refine Rg.la 2 (.string ⟨#[]⟩) ?_;go_frame;refine Rg.la 3 (.int .i64 0) ?_;go_frame;go_upto_region 1 with (fail);refine Rg.wl ?_;refine Rg.lr 8 (Rg.exec_load (v:=(.agg #[.int .i64 n,.slice oa OO.length oc,rv])) _ _ rfl ⟨w.heap.size,0,none⟩ rfl (run_loadC3 ((Below.cell (p:=⟨w.heap.size,0,none⟩) K.out A0.out.lt).trans A0.out.cell) ((Below.cell (p:=⟨w.heap.size,1,none⟩) K.out A1.out.lt).trans A1.out.cell) ((Below.cell (p:=⟨w.heap.size,2,none⟩) K.out A2.out.lt).trans A2.out.cell))) ?_;go_frame
 refine list_ask (some 9) rfl rfl _ _ (exec_fn1 42 _ _ rfl rfl (Xccl0 _ _)) ?_;refine (chCheck_any (H.out.below K.out)).mono ?_;rintro e1 w2 ⟨c,rfl,hc,hb⟩;have HC:=ι hc;clear hc;refine ⟨_,rfl,?_⟩;go_frame;replace K:=ι (Rg.acc K.out hb);clear hb;refine Rg.la 4 (.int .i64 c) ?_;go_frame
 by_cases hc0:c=0
 case neg =>
  skip
  go_upto_region 2 with (fail);refine Rg.wl ?_;refine Rg.lm 10 (.int .i64 c) ?_;go_frame;refine Rg.lr 11 (exec_bin (R:=.bool true) .neq _ _ _ rfl rfl rfl (b_neqB _ (decide_eq_true hc0))) ?_;go_frame;go_upto_region 3 with (fail);refine Rg.wl ?_;refine Rg.lm 12 (.int .i64 c) ?_;go_frame;refine Rg.la 2 (.string ⟨#[]⟩) ?_;go_frame;refine Rg.la 3 (.int .i64 c) ?_;go_frame;have KF:=ι (KB.out.trans (K.out.mono KB.out.size));go_wp2
  go_ret2
  exact (show OrdPost _ _ _ _ _ _ from ⟨_,_,rfl,HC.out,fun e=>absurd e hc0,fun _=>rfl,KF.out⟩)
 subst hc0;have HOK:=ι HC.out.zero;have HOR:=ι HOK.out.orbs;have hoL2:=HOR.out.2;go_upto_region 2 with (fail);refine Rg.wl ?_;refine Rg.lm 10 (.int .i64 ((0:Nat):Int)) ?_;go_frame;refine Rg.lr 11 (exec_bin (R:=.bool false) .neq _ _ _ rfl rfl rfl (b_neqB _ (decide_eq_false (by simp)))) ?_;go_frame;go_upto_region 5 with (fail);refine Rg.wl ?_;refine Rg.lr 13 (exec_field _ rfl rfl (chF1 _ _)) ?_;go_frame;refine Rg.lr 14 (Rg.exec_load (v:=.slice oa OO.length oc) _ _ rfl ⟨w.heap.size,1,none⟩ rfl (Rg.run_loadSl _ _ Tryz.underlying27 ((Below.cell (p:=⟨w.heap.size,1,none⟩) K.out A1.out.lt).trans A1.out.cell))) ?_;go_frame;refine Rg.lr 15 (exec_len _ _ _ rfl Tryz.underlying27 _ _ _ rfl) ?_;go_frame;refine Rg.lm 16 (.int .i64 ((0:Nat):Int)) ?_;go_frame;go_wp2
 go_loopw [5,16] (fun sv kv wr=>∃ k:Nat,sv=.string (Nu.num (prodL (OO.take k)))∧kv=.int .i64 k∧k≤OO.length∧Hid (Below w1.heap.size w1 wr)) (fun _ kv _=>OO.length - (intOf kv).toNat)
 case atStart=>exact ⟨0,by rw [List.take_zero]; show _=Value.string (Nu.num 1); rw [num_one],rfl,Nat.zero_le _,K⟩
 case round =>
  clear K;obtain ⟨k,rfl,rfl,hk,K⟩:=hrel
  by_cases hkl:k<OO.length
  ·have hkN:(k:Int)<(OO.length:Int):=by omega
   have HKL:=ι hkl;obtain ⟨ob,oo,rfl,hob,hoc⟩:=HOS.out (by omega);obtain ⟨yv,hyc,hyi⟩:=hoc k hkl;obtain ⟨o',hoo⟩:∃ o:List Int,Hid (OO[k]'hkl=o):=⟨_,ι rfl⟩
   replace hyi:Rg.Ints w yv o':=by rw [← hoo.out]; exact hyi
   obtain ⟨ya,yc,rfl,_⟩:=hyi.shape;have CO:=ι (CL.upto (CL.mk hyc hob) KB.out hob);have HL1:=ι (HOR.out.1 o' (by rw [← hoo.out]; exact List.getElem_mem hkl));have hl1:=HL1.out;have hx0:0<prodL (OO.take k):=prodL_pos fun l hl=>(HOR.out.1 l (List.mem_of_mem_take hl)).1;have hx1:=prodL_small (a:=OO.take k) (fun l hl=>(HOR.out.1 l (List.mem_of_mem_take hl)).2) (by rw [List.length_take]; omega);have hx2:=prodL_small (a:=OO.take (k+1)) (fun l hl=>(HOR.out.1 l (List.mem_of_mem_take hl)).2) (by rw [List.length_take]; omega)
   have hpe:prodL (OO.take (k+1))=prodL (OO.take k)*o'.length:=by
    rw [List.take_succ_eq_append_getElem hkl,prodL_snoc,hoo.out]
   have HPE:=ι hpe;rw [hpe] at hx2;have HT:=ι (fun W=>Times_any hx0 hl1.1 (by omega) hx1 hx2 W);obtain ⟨x,hx⟩:∃ x,Hid (prodL (OO.take k)=x):=⟨_,ι rfl⟩;rw [hx.out] at HT HPE ⊢;clear hoc hyc hyi hob hpe hx0 hx1 hx2;go_upto_region 7 with (fail);refine Rg.wl ?_;refine Rg.lr 18 (exec_indexS slIntss _ _ rfl ob (oo) (OO.length) oc (k) rfl rfl HKL.out) ?_;go_frame;refine Rg.lr 19 (Rg.exec_load (v:=.slice ya o'.length yc) _ _ rfl ⟨ob,oo+k,none⟩ rfl (Rg.run_loadSl _ _ Tryz.underlying36 ((Below.cell (p:=⟨ob,oo+k,none⟩) K.out CO.out.lt).trans CO.out.cell))) ?_;go_frame;refine Rg.la 7 (.slice ya o'.length yc) ?_;go_frame;go_upto_region 8 with (fail);refine Rg.wl ?_;refine Rg.lm 21 ((.string (Nu.num x))) ?_;go_frame;refine Rg.lm 22 (.slice ya o'.length yc) ?_;go_frame;refine Rg.lr 23 (exec_len _ _ _ rfl Tryz.underlying36 _ _ _ rfl) ?_;go_frame;refine list_ask (some 24) rfl rfl _ _ (exec_fn 108 _ _ _ rfl rfl rfl (Xccl1 _ _)) ?_
   refine (HT.out wr).mono ?_;rintro e1 w11 ⟨rfl,hb⟩;refine ⟨_,rfl,?_⟩;go_frame;replace K:=ι (Rg.acc K.out hb);clear hb;refine Rg.lm 20 (.tuple #[(.string (Nu.num (x*o'.length))),.int .i64 0]) ?_;go_frame;refine Rg.lr 25 (exec_extract (v:=(.string (Nu.num (x*o'.length)))) _ _ rfl rfl rfl) ?_;go_frame;refine Rg.lr 26 (exec_extract (v:=.int .i64 0) _ _ rfl rfl rfl) ?_;go_frame;refine Rg.la 5 ((.string (Nu.num (x*o'.length)))) ?_;go_frame;go_wp2
   go_roundw
   case rel=>exact ⟨k+1,by rw [HPE.out],by go_num,HKL.out,K⟩
   case measure=>simp [intOf]; have:=HKL.out; omega
  ·obtain rfl:k=OO.length:=by omega
   have hkN:¬ (OO.length:Int)<(OO.length:Int):=by omega
   have KF:=ι (KB.out.trans (K.out.mono KB.out.size));rw [List.take_length];go_wp2
   go_ret2
   exact (show OrdPost _ _ _ _ _ _ from ⟨_,_,rfl,HC.out,fun _=>rfl,fun h=>absurd rfl h,KF.out⟩)
end Go.Proofs.YthehbckogieimaaGreat

namespace Go.Proofs.YthehbckogieimaaGreat
open Go.Proofs
open Go.Proofs.Cm (Gr Gd IsChain IsG IsTr St Tr Sd Fx ap)
def sdB (n:Nat) (tr:Tr):Nat→List Nat→Bool
 | 0,x=>x == Ma.oneN n
 | d+1,x=>match tr (n - (d+1)) (ap x (n - (d+1))) with
  | none=>false
  | some u=>sdB n tr d (Ma.mulN x (Ma.invN u))
theorem sdB_sound {n:Nat} {tr:Tr}:∀ {d:Nat} {x:List Nat},sdB n tr d x=true→Sd n tr d x
 | 0,x,h=>by unfold sdB at h; exact eq_of_beq h
 | d+1,x,h=>by
  unfold sdB at h
  cases hu:tr (n - (d+1)) (ap x (n - (d+1))) with
  | none=>rw [hu] at h; cases h
  | some u=>rw [hu] at h; exact ⟨u,hu,sdB_sound h⟩
structure TE where
 i:Nat
 p:Nat
 u:List Nat
 w:List Nat
def trL (tab:List TE):Tr:=fun i p=>(tab.find? fun e=>e.i == i && e.p == p).map (·.u)
theorem trL_mem {tab:List TE} {i p:Nat} {u:List Nat} (h:trL tab i p=some u):∃ e∈tab,e.i=i∧e.p=p∧e.u=u:=by
 unfold trL at h
 cases hf:tab.find? fun e=>e.i == i && e.p == p with
 | none=>rw [hf] at h; cases h
 | some e =>
  rw [hf] at h;have h1:=List.find?_some hf;have h2:=List.mem_of_find?_eq_some hf;simp at h1 h;exact ⟨e,h2,h1.1,h1.2,h⟩
def gdB (n:Nat) (u:List Nat):Bool:=u.all (fun x=>decide (x<n)) && decide u.Nodup && u.length == n
theorem gdB_gd {n:Nat} {u:List Nat} (h:gdB n u=true):Gd n u:=by
 unfold gdB at h;simp only [Bool.and_eq_true,List.all_eq_true,decide_eq_true_eq,beq_iff_eq] at h;obtain ⟨⟨h1,h2⟩,h3⟩:=h;exact ⟨⟨fun x hx=>by rw [h3]; exact h1 x hx,h2⟩,h3⟩
def evalW (n:Nat) (gs:List (List Nat)) (w:List Nat):List Nat:=w.foldl (fun x k=>Ma.mulN x (gs.getD k (Ma.oneN n))) (Ma.oneN n)
theorem evalW_gr {n:Nat} {gs:List (List Nat)} (w:List Nat):Gr n (·∈gs) (evalW n gs w):=by
 unfold evalW
 have key:∀ (w:List Nat) (x:List Nat),Gr n (·∈gs) x→Gr n (·∈gs) (w.foldl (fun x k=>Ma.mulN x (gs.getD k (Ma.oneN n))) x):=by
  intro w
  induction w with
  | nil=>exact fun x h=>h
  | cons k w ih =>
   intro x h;rw [List.foldl_cons];refine ih _ (.mul _ _ h ?_)
   by_cases hk:k<gs.length
   ·rw [List.getD_eq_getElem?_getD,List.getElem?_eq_getElem hk]
    exact .gen _ (List.getElem_mem hk)
   ·rw [List.getD_eq_getElem?_getD,List.getElem?_eq_none (by omega)]
    exact .one
 exact key w _ .one
def entB (n:Nat) (gs:List (List Nat)) (e:TE):Bool:=gdB n e.u && (List.range e.i).all (fun j=>ap e.u j == j) && ap e.u e.i == e.p && evalW n gs e.w == e.u
def tabOK (n:Nat) (gs:List (List Nat)) (tab:List TE):Bool :=
 gs.all (gdB n) && gs.all (sdB n (trL tab) n) && tab.all (entB n gs) && (List.range n).all (fun i=>trL tab i i == some (Ma.oneN n)) && tab.all (fun e=>tab.all (fun e'=>sdB n (trL tab) n (Ma.mulN e.u e'.u)))
theorem tab_tr {n:Nat} {gs:List (List Nat)} {tab:List TE} (h:tabOK n gs tab=true):(∀ s∈gs,Gd n s)∧IsTr n (Gr n (·∈gs)) (trL tab):=by
 unfold tabOK at h;simp only [Bool.and_eq_true,List.all_eq_true,List.mem_range,beq_iff_eq] at h;obtain ⟨⟨⟨⟨h1,h2⟩,h3⟩,h4⟩,h5⟩:=h;have hg:∀ s∈gs,Gd n s:=fun s hs=>gdB_gd (h1 s hs)
 have he:∀ e∈tab,Gd n e.u∧Fx e.i e.u∧ap e.u e.i=e.p∧Gr n (·∈gs) e.u:=fun e hm=>by
  have h6:=h3 e hm;unfold entB at h6;simp only [Bool.and_eq_true,List.all_eq_true,List.mem_range,beq_iff_eq] at h6;obtain ⟨⟨⟨q1,q2⟩,q3⟩,q4⟩:=h6;exact ⟨gdB_gd q1,q2,q3,by rw [← q4]; exact evalW_gr _⟩
 refine ⟨hg,Cm.tab_isTr ⟨fun i p u _ _ hu=>?_,fun i p u _ _ hu=>?_,fun i p u _ _ hu=>?_,fun i _ hi=>h4 i hi⟩ hg (fun s hs=>sdB_sound (h2 s hs)) (fun i p u _ hu=>?_) (fun i p u j q v _ _ hu hv=>?_)⟩
 ·obtain ⟨e,hm,rfl,rfl,rfl⟩:=trL_mem hu; exact (he e hm).1
 ·obtain ⟨e,hm,rfl,rfl,rfl⟩:=trL_mem hu; exact (he e hm).2.1
 ·obtain ⟨e,hm,rfl,rfl,rfl⟩:=trL_mem hu; exact (he e hm).2.2.1
 ·obtain ⟨e,hm,rfl,rfl,rfl⟩:=trL_mem hu; exact (he e hm).2.2.2
 ·obtain ⟨e,hm,rfl,rfl,rfl⟩:=trL_mem hu
  obtain ⟨e',hm',rfl,rfl,rfl⟩:=trL_mem hv;exact sdB_sound (h5 e hm e' hm')
def orbOf (n:Nat) (tab:List TE) (i:Nat):List Nat:=(List.range n).filter fun p=>(trL tab i p).isSome
theorem chain_tab {n:Nat} {gs:List (List Nat)} {tab:List TE} (h:tabOK n gs tab=true) {O:List (List Nat)} {R:List (List (List Nat))} (hc:IsChain n (Gr n (·∈gs)) O R):O=(List.range n).map (orbOf n tab):=by
 obtain ⟨hg,ht⟩:=tab_tr h;have hH:=Gr.isG (n:=n) (gs:=(·∈gs)) hg
 apply List.ext_getElem (by rw [hc.lenO,List.length_map,List.length_range])
 intro i h1 h2
 have hi:i<n:=by rw [← hc.lenO]; exact h1
 rw [List.getElem_map,List.getElem_range,← getD_inf h1];refine Cm.asc_uniq (hc.asc i hi) (List.Pairwise.filter _ List.pairwise_lt_range) fun p=>?_;rw [hc.orb i p hi];unfold orbOf;rw [List.mem_filter,List.mem_range,Option.isSome_iff_exists]
 constructor
 ·rintro ⟨x,hx,rfl⟩
  exact ⟨Cm.ap_lt (hH.gd x hx.1) hi,ht.all i x hi hx⟩
 ·rintro ⟨_,u,hu⟩
  exact ⟨u,⟨ht.mem i p u hi hu,ht.rp.fx i p u (Nat.zero_le _) hi hu⟩,ht.rp.at_ i p u (Nat.zero_le _) hi hu⟩
theorem regular_eq {n:Nat} {H:List Nat→Prop} (hH:IsG n H) {tr:Tr} (ht:IsTr n H tr) (hn:0<n) (h1:∀ i p u,0<i→i<n→tr i p=some u→p=i) {x u:List Nat} (hx:H x) (hu:tr 0 (ap x 0)=some u):x=u:=by
 have gx:=hH.gd x hx;have gu:=ht.rp.gd 0 _ u (Nat.zero_le _) hn hu;have hy:=hH.mul _ _ hx (hH.inv _ (ht.mem 0 _ u hn hu));have gy:=hH.gd _ hy
 have hf:∀ k,k≤n→Fx k (Ma.mulN x (Ma.invN u)):=by
  intro k
  induction k with
  | zero=>exact fun _ j hj=>absurd hj (Nat.not_lt_zero _)
  | succ k ih =>
   intro hk j hj
   by_cases e:j=k
   ·subst e
    by_cases e0:j=0
    ·subst e0
     rw [Cm.ap_mul gx hn,← ht.rp.at_ 0 _ u (Nat.zero_le _) hn hu];exact Cm.ap_inv gu hn
    ·obtain ⟨v,hv⟩:=ht.all j _ (by omega) ⟨hy,ih (by omega)⟩
     exact h1 j _ v (by omega) (by omega) hv
   ·exact ih (by omega) j (by omega)
 have e:=Fx.all gy (hf n (Nat.le_refl _));have:=Cm.mul_inv_cancel gx gu;rw [e,Cm.one_mul gu] at this;exact this.symm
def gsF:List (List Nat):=[[1,2,0,3],[0,1,3,2]]
def gsS:List (List Nat):=[[1,0,3,2],[2,3,0,1]]
def tabF:List TE:=[⟨0,0,[0,1,2,3],[]⟩,⟨0,1,[1,2,0,3],[0]⟩,⟨0,2,[2,0,1,3],[0,0]⟩,⟨0,3,[3,0,1,2],[0,0,1]⟩,⟨1,1,[0,1,2,3],[]⟩,⟨1,2,[0,2,3,1],[0,1,0,0,1]⟩,⟨1,3,[0,3,2,1],[0,1,0,0]⟩,⟨2,2,[0,1,2,3],[]⟩,⟨2,3,[0,1,3,2],[1]⟩,⟨3,3,[0,1,2,3],[]⟩]
theorem tabF_ok:tabOK 4 gsF tabF=true:=by decide +kernel
theorem orbTF:(List.range 4).map (orbOf 4 tabF)=[[0,1,2,3],[1,2,3],[2,3],[3]]:=by decide +kernel
def tabS:List TE:=[⟨0,0,[0,1,2,3],[]⟩,⟨0,1,[1,0,3,2],[0]⟩,⟨0,2,[2,3,0,1],[1]⟩,⟨0,3,[3,2,1,0],[0,1]⟩,⟨1,1,[0,1,2,3],[]⟩,⟨2,2,[0,1,2,3],[]⟩,⟨3,3,[0,1,2,3],[]⟩]
theorem tabS_ok:tabOK 4 gsS tabS=true:=by decide +kernel
theorem orbTS:(List.range 4).map (orbOf 4 tabS)=[[0,1,2,3],[1],[2],[3]]:=by decide +kernel
theorem repsS {O:List (List Nat)} {R:List (List (List Nat))} (hc:IsChain 4 (Gr 4 (·∈gsS)) O R):R.getD 0 []=[[0,1,2,3],[1,0,3,2],[2,3,0,1],[3,2,1,0]]:=by
 obtain ⟨hg,ht⟩:=tab_tr tabS_ok;have hH:=Gr.isG (n:=4) (gs:=(·∈gsS)) hg;have hO:=chain_tab tabS_ok hc;rw [orbTS] at hO;subst hO;have hl:=hc.len 0 (by decide)
 have h1:∀ i p u,0<i→i<4→trL tabS i p=some u→p=i:=fun i p u h0 h4 h=>by
  obtain ⟨e,hm,rfl,rfl,rfl⟩:=trL_mem h
  revert h0
  revert e
  decide
 refine List.ext_getElem hl fun k hk _=>?_
 have hk4:k<4:=by rw [hl] at hk; exact hk
 have hr:=(hc.rep 0 k (by decide) hk4).1;rw [Cm.getD_in hk] at hr
 have e:ap (R.getD 0 [])[k] 0=k:=by
  rw [hr.2]
  rcases k with _ | _ | _ | _ | k <;> first | rfl | omega
 obtain ⟨u,hu⟩:=ht.all 0 _ (by decide) hr.1;have hx:=regular_eq hH ht (by decide) h1 hr.1.1 hu;rw [e] at hu;rw [hx]
 rcases k with _ | _ | _ | _ | k
 ·have h2:trL tabS 0 0=some [0,1,2,3]:=by decide
  rw [h2] at hu; injection hu with hu; exact hu.symm
 ·have h2:trL tabS 0 1=some [1,0,3,2]:=by decide
  rw [h2] at hu; injection hu with hu; exact hu.symm
 ·have h2:trL tabS 0 2=some [2,3,0,1]:=by decide
  rw [h2] at hu; injection hu with hu; exact hu.symm
 ·have h2:trL tabS 0 3=some [3,2,1,0]:=by decide
  rw [h2] at hu; injection hu with hu; exact hu.symm
 ·omega
end Go.Proofs.YthehbckogieimaaGreat

namespace Go.Proofs.YthehbckogieimaaGreat
open Go.RowKit
open Go.Proofs
open Go.Proofs.Ob
attribute [local irreducible] Go.Calls Go.wpList
theorem Xdcl0 (args:Array Value) (w:World):(callFunc 106 args).run Tryz.prog w=.ok (.enter 106 args) w:=by kernel_rfl
theorem Xdcl1 (args:Array Value) (w:World):(callFunc 97 args).run Tryz.prog w=.ok (.enter 97 args) w:=by kernel_rfl
theorem Xdcl2 (args:Array Value) (w:World):(callFunc 107 args).run Tryz.prog w=.ok (.enter 107 args) w:=by kernel_rfl
theorem Xdcl3 (args:Array Value) (w:World):(callFunc 36 args).run Tryz.prog w=.ok (.enter 36 args) w:=by kernel_rfl
theorem Xdcl4 (args:Array Value) (w:World):(callFunc 51 args).run Tryz.prog w=.ok (.enter 51 args) w:=by kernel_rfl
theorem first08_any (w:World):Calls Tryz.prog 106 #[] w (GPost 4 [[1,2,0,3],[0,1,3,2]] w):=by
 go_enter Tryz.func106,Tryz.ntmps106
 go_upto_region 1 with (fail);generalize hW:w.alloc (.cells #[.int .i64 0,.slice none 0 0] 24)=W0
 have hsz:W0.heap.size=w.heap.size+1:=by rw [← hW]; simp
 have hbW:Below w.heap.size w W0:=by rw [← hW]; exact (Below.refl _ _).alloc (Nat.le_refl _) _
 have hc1:W0.cell? ⟨w.heap.size,0,none⟩=some (.int .i64 0):=by rw [← hW,Rg.cellNew]; rfl
 have hc2:W0.cell? ⟨w.heap.size,1,none⟩=some (.slice none 0 0):=by rw [← hW,Rg.cellNew]; rfl
 have hf1:∀ o,W0.frozen? ⟨w.heap.size,o,none⟩=false:=fun o=>by rw [← hW]; exact frozenNewN _ _ _ 0 _
 clear hW;refine Rg.wl ?_;have i1:=ints_new W0 3 [1,2,0,3] (by decide);have b1:Below W0.heap.size W0 _:=(Below.refl W0.heap.size W0).alloc (Nat.le_refl _) (.cells (([1,2,0,3]:List Int).map (Value.int .i64)).toArray 3);refine Rg.lr 1 (exec_flat _ _ 4 _ rfl [1,2,0,3] Tryz.underlying51 szInt zInt rfl (by decide) (by decide) rfl) ?_;go_frame;generalize W0.alloc (.cells (([1,2,0,3]:List Int).map (Value.int .i64)).toArray 3)=W1 at *;have i2:=ints_new W1 3 [0,1,3,2] (by decide);have b2:Below W1.heap.size W1 _:=(Below.refl W1.heap.size W1).alloc (Nat.le_refl _) (.cells (([0,1,3,2]:List Int).map (Value.int .i64)).toArray 3);refine Rg.lr 2 (exec_flat _ _ 4 _ rfl [0,1,3,2] Tryz.underlying51 szInt zInt rfl (by decide) (by decide) rfl) ?_;go_frame;generalize W1.alloc (.cells (([0,1,3,2]:List Int).map (Value.int .i64)).toArray 3)=W2 at *
 have g3:=rowsF_new (B:=w.heap.size+1) (w:=W2) 51 [.slice (some ⟨W0.heap.size,0,none⟩) 4 4,.slice (some ⟨W1.heap.size,0,none⟩) 4 4] [[1,2,0,3],[0,1,3,2]] rfl (by simp) (by
  have s1:=b1.size;have s2:=b2.size;intro i h h2
  match i,h,h2 with
  | 0,_,_=>exact ⟨(i1.below b2),(Rg.Fresh.mk _ _ _ _).mono (by omega)⟩
  | 1,_,_=>exact ⟨i2,(Rg.Fresh.mk _ _ _ _).mono (by omega)⟩) (by have s1:=b1.size; have s2:=b2.size; omega)
 have bz:Below W2.heap.size W2 _:=(Below.refl W2.heap.size W2).alloc (Nat.le_refl _) (.cells #[.slice (some ⟨W0.heap.size,0,none⟩) 4 4,.slice (some ⟨W1.heap.size,0,none⟩) 4 4] 51);refine Rg.lr 3 (exec_buildP (u1:=.slice (some ⟨W0.heap.size,0,none⟩) 4 4) (u2:=.slice (some ⟨W1.heap.size,0,none⟩) 4 4) _ _ rfl rfl rfl (run_buildP2 _ _ _ ⟨_,_,_,rfl⟩ ⟨_,_,_,rfl⟩)) ?_;go_frame;have hb3:=(Rg.acc b1 (Rg.acc b2 bz));clear bz b1 i1 b2 i2;have g4:RowsF (w.heap.size+1) (W2.alloc (.cells #[.slice (some ⟨W0.heap.size,0,none⟩) 4 4,.slice (some ⟨W1.heap.size,0,none⟩) 4 4] 51)) (.slice (some ⟨W2.heap.size,0,none⟩) 2 2) [[1,2,0,3],[0,1,3,2]]:=g3;clear g3;generalize W2.alloc (.cells #[.slice (some ⟨W0.heap.size,0,none⟩) 4 4,.slice (some ⟨W1.heap.size,0,none⟩) 4 4] 51)=Z at *;refine Rg.lr 4 (exec_buildG (d:=4) _ _ rfl rfl rfl) ?_;go_frame;obtain ⟨kc,kf⟩:=Rg.bcell hb3
 have lt1:w.heap.size<W0.heap.size:=by omega
 have r0:=(kc _ 0 lt1).trans hc1;have r1:=(kc _ 1 lt1).trans hc2;have rf:=fun o=>(kf _ o lt1).trans (hf1 o);obtain ⟨p0,p1,p2⟩:=group_set (.int .i64 4) (.slice (some ⟨W2.heap.size,0,none⟩) 2 2) r0 r1 (Rg.acc hbW hb3) (by omega);have hR:=((g4.set w.heap.size 0 (.int .i64 4) (by omega)).set w.heap.size 1 (.slice (some ⟨W2.heap.size,0,none⟩) 2 2) (by omega)).mono (B':=w.heap.size) (by omega);refine Rg.list_skip none rfl rfl (Rg.exec_store _ _ _ rfl _ rfl _ rfl (run_storeG 4 _ 2 2 r0 r1 (rf 0) (rf 1))) ?_;go_frame;generalize (Z.setCell ⟨w.heap.size,0,none⟩ (.int .i64 4)).setCell ⟨w.heap.size,1,none⟩ (.slice (some ⟨W2.heap.size,0,none⟩) 2 2)=W6 at *;have H:=ι (And.intro p0 (And.intro p1 (And.intro p2 hR)));clear hc1 hc2 hf1 kc kf r0 r1 rf p0 p1 p2 hR g4;go_wp2;exact bodyPost_ret (results_cellG rfl _ rfl H.out.1 H.out.2.1) rfl ⟨_,_,_,rfl,H.out.2.2.2,H.out.2.2.1⟩
theorem second08_any (w:World):Calls Tryz.prog 107 #[] w (GPost 4 [[1,0,3,2],[2,3,0,1]] w):=by
 go_enter Tryz.func107,Tryz.ntmps107
 go_upto_region 1 with (fail);generalize hW:w.alloc (.cells #[.int .i64 0,.slice none 0 0] 24)=W0
 have hsz:W0.heap.size=w.heap.size+1:=by rw [← hW]; simp
 have hbW:Below w.heap.size w W0:=by rw [← hW]; exact (Below.refl _ _).alloc (Nat.le_refl _) _
 have hc1:W0.cell? ⟨w.heap.size,0,none⟩=some (.int .i64 0):=by rw [← hW,Rg.cellNew]; rfl
 have hc2:W0.cell? ⟨w.heap.size,1,none⟩=some (.slice none 0 0):=by rw [← hW,Rg.cellNew]; rfl
 have hf1:∀ o,W0.frozen? ⟨w.heap.size,o,none⟩=false:=fun o=>by rw [← hW]; exact frozenNewN _ _ _ 0 _
 clear hW;refine Rg.wl ?_;have i1:=ints_new W0 3 [1,0,3,2] (by decide);have b1:Below W0.heap.size W0 _:=(Below.refl W0.heap.size W0).alloc (Nat.le_refl _) (.cells (([1,0,3,2]:List Int).map (Value.int .i64)).toArray 3);refine Rg.lr 1 (exec_flat _ _ 4 _ rfl [1,0,3,2] Tryz.underlying51 szInt zInt rfl (by decide) (by decide) rfl) ?_;go_frame;generalize W0.alloc (.cells (([1,0,3,2]:List Int).map (Value.int .i64)).toArray 3)=W1 at *;have i2:=ints_new W1 3 [2,3,0,1] (by decide);have b2:Below W1.heap.size W1 _:=(Below.refl W1.heap.size W1).alloc (Nat.le_refl _) (.cells (([2,3,0,1]:List Int).map (Value.int .i64)).toArray 3);refine Rg.lr 2 (exec_flat _ _ 4 _ rfl [2,3,0,1] Tryz.underlying51 szInt zInt rfl (by decide) (by decide) rfl) ?_;go_frame;generalize W1.alloc (.cells (([2,3,0,1]:List Int).map (Value.int .i64)).toArray 3)=W2 at *
 have g3:=rowsF_new (B:=w.heap.size+1) (w:=W2) 51 [.slice (some ⟨W0.heap.size,0,none⟩) 4 4,.slice (some ⟨W1.heap.size,0,none⟩) 4 4] [[1,0,3,2],[2,3,0,1]] rfl (by simp) (by
  have s1:=b1.size;have s2:=b2.size;intro i h h2
  match i,h,h2 with
  | 0,_,_=>exact ⟨(i1.below b2),(Rg.Fresh.mk _ _ _ _).mono (by omega)⟩
  | 1,_,_=>exact ⟨i2,(Rg.Fresh.mk _ _ _ _).mono (by omega)⟩) (by have s1:=b1.size; have s2:=b2.size; omega)
 have bz:Below W2.heap.size W2 _:=(Below.refl W2.heap.size W2).alloc (Nat.le_refl _) (.cells #[.slice (some ⟨W0.heap.size,0,none⟩) 4 4,.slice (some ⟨W1.heap.size,0,none⟩) 4 4] 51);refine Rg.lr 3 (exec_buildP (u1:=.slice (some ⟨W0.heap.size,0,none⟩) 4 4) (u2:=.slice (some ⟨W1.heap.size,0,none⟩) 4 4) _ _ rfl rfl rfl (run_buildP2 _ _ _ ⟨_,_,_,rfl⟩ ⟨_,_,_,rfl⟩)) ?_;go_frame;have hb3:=(Rg.acc b1 (Rg.acc b2 bz));clear bz b1 i1 b2 i2;have g4:RowsF (w.heap.size+1) (W2.alloc (.cells #[.slice (some ⟨W0.heap.size,0,none⟩) 4 4,.slice (some ⟨W1.heap.size,0,none⟩) 4 4] 51)) (.slice (some ⟨W2.heap.size,0,none⟩) 2 2) [[1,0,3,2],[2,3,0,1]]:=g3;clear g3;generalize W2.alloc (.cells #[.slice (some ⟨W0.heap.size,0,none⟩) 4 4,.slice (some ⟨W1.heap.size,0,none⟩) 4 4] 51)=Z at *;refine Rg.lr 4 (exec_buildG (d:=4) _ _ rfl rfl rfl) ?_;go_frame;obtain ⟨kc,kf⟩:=Rg.bcell hb3
 have lt1:w.heap.size<W0.heap.size:=by omega
 have r0:=(kc _ 0 lt1).trans hc1;have r1:=(kc _ 1 lt1).trans hc2;have rf:=fun o=>(kf _ o lt1).trans (hf1 o);obtain ⟨p0,p1,p2⟩:=group_set (.int .i64 4) (.slice (some ⟨W2.heap.size,0,none⟩) 2 2) r0 r1 (Rg.acc hbW hb3) (by omega);have hR:=((g4.set w.heap.size 0 (.int .i64 4) (by omega)).set w.heap.size 1 (.slice (some ⟨W2.heap.size,0,none⟩) 2 2) (by omega)).mono (B':=w.heap.size) (by omega);refine Rg.list_skip none rfl rfl (Rg.exec_store _ _ _ rfl _ rfl _ rfl (run_storeG 4 _ 2 2 r0 r1 (rf 0) (rf 1))) ?_;go_frame;generalize (Z.setCell ⟨w.heap.size,0,none⟩ (.int .i64 4)).setCell ⟨w.heap.size,1,none⟩ (.slice (some ⟨W2.heap.size,0,none⟩) 2 2)=W6 at *;have H:=ι (And.intro p0 (And.intro p1 (And.intro p2 hR)));clear hc1 hc2 hf1 kc kf r0 r1 rf p0 p1 p2 hR g4;go_wp2;exact bodyPost_ret (results_cellG rfl _ rfl H.out.1 H.out.2.1) rfl ⟨_,_,_,rfl,H.out.2.2.2,H.out.2.2.1⟩
theorem chOf_gs {N:Nat} {gs:List (List Nat)} (hg:Ma.gchk ((N:Nat):Int) (gs.map Ma.ofN)=0) {gv:Value} {w:World} (h:Rg.Rows w gv (gs.map Ma.ofN)) :
  Calls Tryz.prog 97 #[.agg #[.int .i64 ((N:Nat):Int),gv]] w fun e w'=>∃ ov rv O R,e=.returned (.tuple #[.agg #[.int .i64 ((N:Nat):Int),ov,rv],.int .i64 0])∧ChEqR w' ov rv (O.map Ma.ofN) (R.map (List.map Ma.ofN))∧Cm.IsChain N (Cm.Gr N (·∈gs)) O R∧Below w.heap.size w w':=by
 refine (chOf_any gv _ _ w h).mono ?_;rintro e w' ⟨cv,rfl,hc,hb⟩;rw [hg] at hc ⊢
 rcases hc with ⟨h0,_⟩ | ⟨_,n,gs',h1,h2,_,_,ov,rv,O,R,rfl,h3,h4,h5⟩
 ·exact absurd rfl h0
 ·obtain rfl:N=n:=by omega
  have:=map_ofN_inj h2;subst this;exact ⟨ov,rv,O,R,rfl,⟨h3,h4⟩,h5,hb⟩
theorem run_buildP4 (X:World) (u1 u2 u3 u4:Value) (h1:∃ a n c,u1=.slice a n c) (h2:∃ a n c,u2=.slice a n c) (h3:∃ a n c,u3=.slice a n c) (h4:∃ a n c,u4=.slice a n c):(Instr.buildSlice 22 4 #[(0,u1),(1,u2),(2,u3),(3,u4)]).run Tryz.prog X=.ok (.slice (some ⟨X.heap.size,0,none⟩) 4 4) (X.alloc (.cells #[u1,u2,u3,u4] 51)):=by
 obtain ⟨i0,hi,hz0,hz1,hz2⟩:=info_parts infoPerm;obtain ⟨_,_,_,rfl⟩:=h1;obtain ⟨_,_,_,rfl⟩:=h2;obtain ⟨_,_,_,rfl⟩:=h3;obtain ⟨_,_,_,rfl⟩:=h4;refine run_buildSlice X 22 51 4 _ _ i0 _ Tryz.underlying22 hi hz0 (by rw [hz1]; decide) (by rw [hz1]; decide) ?_;generalize (fun x=>((Value.slice none 0 0).cells)[x % (Value.slice none 0 0).cells.size]!)=f;rw [hz1];have h1:Array.range (4*1)=#[0,1,2,3]:=rfl;simp [Instr.fill,Value.cells,h1]
theorem exec_buildP4 {o:Oper} {a:Act} {w w':World} {v u1 u2 u3 u4:Value} (x1 x2 x3 x4:Operand) (ho:o.op=.buildSlice 22 4 #[(0,x1),(1,x2),(2,x3),(3,x4)]) (h1:a.eval x1=u1) (h2:a.eval x2=u2) (h3:a.eval x3=u3) (h4:a.eval x4=u4)
  (hr:(Instr.buildSlice 22 4 #[(0,u1),(1,u2),(2,u3),(3,u4)]).run Tryz.prog w=.ok v w'):(execOp a.eval o).run Tryz.prog w=.ok (.value v) w':=by
 subst h1 h2 h3 h4;unfold execOp;simp only [ho,Sem.run_bind,Sem.run_pure];simp only [List.map_toArray,List.map_cons,List.map_nil];rw [hr];rfl
theorem exec_eqS {o:Oper} {a:Act} {w:World} (x y:Operand) (ho:o.op=.binOp .eql 56 x y 56) {s:ByteArray} (hx:a.eval x=.string s) (hy:a.eval y=.string s):(execOp a.eval o).run Tryz.prog w=.ok (.value (.bool true)) w:=by
 have h1:(binOp .eql 56 (.string s) (.string s)).run Tryz.prog w=.ok (.bool true) w:=by
  rw [binOp_string_eql];simp [Sem.run_pure]
 have hg:(eqGuard .eql 56 x y (.string s) (.string s)).run Tryz.prog w=.ok () w:=by
  simp [eqGuard]
 unfold execOp;simp only [ho,hx,hy,Sem.run_bind,Sem.run_pure,hg,h1,Result.andThen_ok]
theorem SamePerms_t {v1 v2:Value} {l1 l2:List (List Int)} {w:World} (h1:Rg.Rows w v1 l1) (h2:Rg.Rows w v2 l2) (he:l1=l2) :
  Calls Tryz.prog 51 #[v1,v2] w fun e w'=>e=.returned (.bool true)∧Below w.heap.size w w' :=
 (SamePerms_q v1 v2 l1 l2 w h1 h2).mono fun _ _ ⟨a,_,c⟩=>⟨by rw [a,he]; simp,by rw [c]; exact Rg.drewN (Below.refl _ _) _⟩
theorem num_24:Nu.num (prodL (([[0,1,2,3],[1,2,3],[2,3],[3]]:List (List Nat)).map Ma.ofN))=⟨#[50,52]⟩:=by
 show Nu.num 24=_;unfold Nu.num;rw [Nu.lsd_pos (by decide),show 24 / 10=2 from rfl,Nu.lsd_pos (by decide),show 2 / 10=0 from rfl,Nu.lsd_zero];rfl
theorem num_4:Nu.num (prodL (([[0,1,2,3],[1],[2],[3]]:List (List Nat)).map Ma.ofN))=⟨#[52]⟩:=by
 show Nu.num 4=_;unfold Nu.num;rw [Nu.lsd_pos (by decide),show 4 / 10=0 from rfl,Nu.lsd_zero];rfl
theorem awake08_any (w:World):Calls Tryz.prog 35 #[] w fun e w'=>e=.returned (.bool true)∧Below w.heap.size w w':=by
 have K:=ι (Below.refl w.heap.size w)
 go_enter Tryz.func35,Tryz.ntmps35
 go_upto_region 1 with (fail);refine Rg.wl ?_;refine list_ask (some 10) rfl rfl _ _ (exec_fn0 106 _ rfl (Xdcl0 _ _)) ?_;refine (first08_any w).mono ?_;rintro e1 w1 ⟨ga,gn,gc,rfl,hgr,hb⟩;refine ⟨_,rfl,?_⟩;go_frame;replace K:=ι (Rg.acc K.out hb);clear hb;have GR:=ι hgr.rows;clear hgr;refine list_ask (some 11) rfl rfl _ _ (exec_fn1 97 _ _ rfl rfl (Xdcl1 _ _)) ?_;refine (chOf_gs (N:=4) (gs:=gsF) (by decide) GR.out).mono ?_;rintro e1 w2 ⟨ov1,rv1,O1,R1,rfl,hce,hch,hb⟩;have hO1:=chain_tab tabF_ok hch;rw [orbTF] at hO1;obtain ⟨oa1,oc1,rfl,_⟩:=hce.1.shape;obtain ⟨ra1,rc1,rfl⟩:=hce.2.shape;obtain ⟨on1,hon1⟩:∃ n,Hid ((O1.map Ma.ofN).length=n):=⟨_,ι rfl⟩;rw [hon1.out] at hce ⊢;have HCH1:=ι hch;have HO1:=ι hO1;clear hch hO1;refine ⟨_,rfl,?_⟩;go_frame;replace GR:=ι (GR.out.below hb);replace K:=ι (Rg.acc K.out hb);clear hb;have E1:=ι hce;refine Rg.lm 9 (.tuple #[(.agg #[.int .i64 ((4:Nat):Int),.slice oa1 on1 oc1,.slice ra1 (R1.map (List.map Ma.ofN)).length rc1]),.int .i64 0]) ?_;go_frame
 refine Rg.lr 12 (exec_extract (v:=(.agg #[.int .i64 ((4:Nat):Int),.slice oa1 on1 oc1,.slice ra1 (R1.map (List.map Ma.ofN)).length rc1])) _ _ rfl rfl rfl) ?_;go_frame;refine Rg.lr 13 (exec_extract (v:=.int .i64 0) _ _ rfl rfl rfl) ?_;go_frame;refine Rg.lr 1 (exec_allocC rfl) ?_;go_frame;refine Rg.list_skip none rfl rfl (Rg.exec_store _ _ _ rfl _ rfl _ rfl (run_storeC _ _ _ _ _ _ _ (Tri.new w2 (.int .i64 0) (.slice none 0 0) (.slice none 0 0)))) ?_;go_frame;have htn:=(Tri.new w2 (.int .i64 0) (.slice none 0 0) (.slice none 0 0)).set (.int .i64 ((4:Nat):Int)) (.slice oa1 on1 oc1) (.slice ra1 (R1.map (List.map Ma.ofN)).length rc1);have hb:=((((Below.refl w2.heap.size w2).alloc (Nat.le_refl _) (.cells #[.int .i64 0,.slice none 0 0,.slice none 0 0] 54)).setCell (p:=⟨w2.heap.size,0,none⟩) (Nat.le_refl _) (.int .i64 ((4:Nat):Int))).setCell (p:=⟨w2.heap.size,1,none⟩) (Nat.le_refl _) (.slice oa1 on1 oc1)).setCell (p:=⟨w2.heap.size,2,none⟩) (Nat.le_refl _) (.slice ra1 (R1.map (List.map Ma.ofN)).length rc1)
 generalize (((w2.alloc (.cells #[.int .i64 0,.slice none 0 0,.slice none 0 0] 54)).setCell ⟨w2.heap.size,0,none⟩ (.int .i64 ((4:Nat):Int))).setCell ⟨w2.heap.size,1,none⟩ (.slice oa1 on1 oc1)).setCell ⟨w2.heap.size,2,none⟩ (.slice ra1 (R1.map (List.map Ma.ofN)).length rc1)=w3 at *;replace GR:=ι (GR.out.below hb);replace E1:=ι (E1.out.below hb);replace K:=ι (Rg.acc K.out hb);clear hb;have T1:=ι htn;clear htn;refine Rg.la 2 (.int .i64 0) ?_;go_frame;clear GR hce;go_upto_region 2 with (fail);refine Rg.wl ?_;refine list_ask (some 15) rfl rfl _ _ (exec_fn0 107 _ rfl (Xdcl2 _ _)) ?_;refine (second08_any w3).mono ?_;rintro e1 w4 ⟨ga,gn,gc,rfl,hgr,hb⟩;refine ⟨_,rfl,?_⟩;go_frame;replace E1:=ι (E1.out.below hb);replace T1:=ι (T1.out.below hb);replace K:=ι (Rg.acc K.out hb);clear hb;have GR:=ι hgr.rows;clear hgr;refine list_ask (some 16) rfl rfl _ _ (exec_fn1 97 _ _ rfl rfl (Xdcl1 _ _)) ?_
 refine (chOf_gs (N:=4) (gs:=gsS) (by decide) GR.out).mono ?_;rintro e1 w5 ⟨ov2,rv2,O2,R2,rfl,hce,hch,hb⟩;have hO2:=chain_tab tabS_ok hch;rw [orbTS] at hO2;obtain ⟨oa2,oc2,rfl,_⟩:=hce.1.shape;obtain ⟨ra2,rc2,rfl⟩:=hce.2.shape;obtain ⟨on2,hon2⟩:∃ n,Hid ((O2.map Ma.ofN).length=n):=⟨_,ι rfl⟩;rw [hon2.out] at hce ⊢;have HCH2:=ι hch;have HO2:=ι hO2;clear hch hO2;refine ⟨_,rfl,?_⟩;go_frame;replace E1:=ι (E1.out.below hb);replace T1:=ι (T1.out.below hb);replace GR:=ι (GR.out.below hb);replace K:=ι (Rg.acc K.out hb);clear hb;have E2:=ι hce;refine Rg.lm 14 (.tuple #[(.agg #[.int .i64 ((4:Nat):Int),.slice oa2 on2 oc2,.slice ra2 (R2.map (List.map Ma.ofN)).length rc2]),.int .i64 0]) ?_;go_frame;refine Rg.lr 17 (exec_extract (v:=(.agg #[.int .i64 ((4:Nat):Int),.slice oa2 on2 oc2,.slice ra2 (R2.map (List.map Ma.ofN)).length rc2])) _ _ rfl rfl rfl) ?_;go_frame
 refine Rg.lr 18 (exec_extract (v:=.int .i64 0) _ _ rfl rfl rfl) ?_;go_frame;refine Rg.lr 3 (exec_allocC rfl) ?_;go_frame;refine Rg.list_skip none rfl rfl (Rg.exec_store _ _ _ rfl _ rfl _ rfl (run_storeC _ _ _ _ _ _ _ (Tri.new w5 (.int .i64 0) (.slice none 0 0) (.slice none 0 0)))) ?_;go_frame;have htn:=(Tri.new w5 (.int .i64 0) (.slice none 0 0) (.slice none 0 0)).set (.int .i64 ((4:Nat):Int)) (.slice oa2 on2 oc2) (.slice ra2 (R2.map (List.map Ma.ofN)).length rc2);have hb:=((((Below.refl w5.heap.size w5).alloc (Nat.le_refl _) (.cells #[.int .i64 0,.slice none 0 0,.slice none 0 0] 54)).setCell (p:=⟨w5.heap.size,0,none⟩) (Nat.le_refl _) (.int .i64 ((4:Nat):Int))).setCell (p:=⟨w5.heap.size,1,none⟩) (Nat.le_refl _) (.slice oa2 on2 oc2)).setCell (p:=⟨w5.heap.size,2,none⟩) (Nat.le_refl _) (.slice ra2 (R2.map (List.map Ma.ofN)).length rc2);generalize (((w5.alloc (.cells #[.int .i64 0,.slice none 0 0,.slice none 0 0] 54)).setCell ⟨w5.heap.size,0,none⟩ (.int .i64 ((4:Nat):Int))).setCell ⟨w5.heap.size,1,none⟩ (.slice oa2 on2 oc2)).setCell ⟨w5.heap.size,2,none⟩ (.slice ra2 (R2.map (List.map Ma.ofN)).length rc2)=w6 at *
 replace E1:=ι (E1.out.below hb);replace T1:=ι (T1.out.below hb);replace GR:=ι (GR.out.below hb);replace E2:=ι (E2.out.below hb);replace K:=ι (Rg.acc K.out hb);clear hb;have T2:=ι htn;clear htn;refine Rg.la 4 (.int .i64 0) ?_;go_frame;clear GR hce;go_upto_region 3 with (fail);refine Rg.wl ?_;refine Rg.lr 20 (Rg.exec_load (v:=(.agg #[.int .i64 ((4:Nat):Int),.slice oa1 on1 oc1,.slice ra1 (R1.map (List.map Ma.ofN)).length rc1])) _ _ rfl ⟨w2.heap.size,0,none⟩ rfl (run_loadC3 T1.out.c0 T1.out.c1 T1.out.c2)) ?_;go_frame;have HOK:=ι (chain_ok (N:=4) (by decide) (by decide) (tab_tr tabF_ok).1 HCH1.out);refine list_ask (some 21) rfl rfl _ _ (exec_fn1 36 _ _ rfl rfl (Xdcl3 _ _)) ?_;refine (chOrder_any E1.out).mono ?_;rintro e1 w7 ⟨s1,c1,rfl,hC,hs,_,hb⟩;obtain rfl:c1=0:=hC.uniq (ChC.of HOK.out);have hs2:=hs rfl;rw [HO1.out,num_24] at hs2;subst hs2;clear HOK hC hs
 refine ⟨_,rfl,?_⟩;go_frame;replace E1:=ι (E1.out.below hb);replace T1:=ι (T1.out.below hb);replace E2:=ι (E2.out.below hb);replace T2:=ι (T2.out.below hb);replace K:=ι (Rg.acc K.out hb);clear hb;refine Rg.lm 19 (.tuple #[(.string ⟨#[50,52]⟩),.int .i64 0]) ?_;go_frame;refine Rg.lr 22 (exec_extract (v:=(.string ⟨#[50,52]⟩)) _ _ rfl rfl rfl) ?_;go_frame;refine Rg.lr 23 (exec_extract (v:=.int .i64 0) _ _ rfl rfl rfl) ?_;go_frame;refine Rg.la 5 ((.string ⟨#[50,52]⟩)) ?_;go_frame;refine Rg.la 6 (.int .i64 0) ?_;go_frame;go_upto_region 4 with (fail);refine Rg.wl ?_;refine Rg.lr 25 (Rg.exec_load (v:=(.agg #[.int .i64 ((4:Nat):Int),.slice oa2 on2 oc2,.slice ra2 (R2.map (List.map Ma.ofN)).length rc2])) _ _ rfl ⟨w5.heap.size,0,none⟩ rfl (run_loadC3 T2.out.c0 T2.out.c1 T2.out.c2)) ?_;go_frame;have HOK:=ι (chain_ok (N:=4) (by decide) (by decide) (tab_tr tabS_ok).1 HCH2.out)
 refine list_ask (some 26) rfl rfl _ _ (exec_fn1 36 _ _ rfl rfl (Xdcl3 _ _)) ?_;refine (chOrder_any E2.out).mono ?_;rintro e1 w8 ⟨s2,c2,rfl,hC,hs,_,hb⟩;obtain rfl:c2=0:=hC.uniq (ChC.of HOK.out);have hs2:=hs rfl;rw [HO2.out,num_4] at hs2;subst hs2;clear HOK hC hs;refine ⟨_,rfl,?_⟩;go_frame;replace E1:=ι (E1.out.below hb);replace T1:=ι (T1.out.below hb);replace E2:=ι (E2.out.below hb);replace T2:=ι (T2.out.below hb);replace K:=ι (Rg.acc K.out hb);clear hb;refine Rg.lm 24 (.tuple #[(.string ⟨#[52]⟩),.int .i64 0]) ?_;go_frame;refine Rg.lr 27 (exec_extract (v:=(.string ⟨#[52]⟩)) _ _ rfl rfl rfl) ?_;go_frame;refine Rg.lr 28 (exec_extract (v:=.int .i64 0) _ _ rfl rfl rfl) ?_;go_frame;refine Rg.la 7 ((.string ⟨#[52]⟩)) ?_;go_frame;refine Rg.la 8 (.int .i64 0) ?_;go_frame;have HR0:=ι (repsS HCH2.out);have HRL:=ι (show (R2.map (List.map Ma.ofN)).length=4 by rw [List.length_map]; exact HCH2.out.lenR)
 obtain ⟨rb,ro,e1,hrb,u0,hu0,hur⟩:=Rows2.at' E2.out.2 (k:=0) (by rw [HRL.out]; decide);subst e1;have CU:=ι (CL.mk hu0 hrb)
 have UR:=ι (show Rg.Rows w8 u0 (([[0,1,2,3],[1,0,3,2],[2,3,0,1],[3,2,1,0]]:List (List Nat)).map Ma.ofN) by
  have e:(R2.map (List.map Ma.ofN))[0]'(by rw [HRL.out]; decide)=((R2.getD 0 []).map Ma.ofN):=by
   rw [List.getElem_map,getD_inf (by have:=HRL.out; rw [List.length_map] at this; omega)]
  rw [e,HR0.out] at hur
  exact hur)
 clear hu0 hur hrb;go_upto_region 5 with (fail);refine Rg.wl ?_;refine Rg.lm 29 (.int .i64 0) ?_;go_frame;refine Rg.lr 30 (exec_eqI _ _ rfl rfl rfl rfl) ?_;go_frame;refine Rg.lm 31 (.bool true) ?_;go_frame;refine listW_run (some 32) rfl rfl (Rg.xm (.int .i64 0) _ rfl rfl) ?_;go_frame;refine listW_run (some 33) rfl rfl (exec_eqI _ _ rfl rfl rfl rfl) ?_;go_frame;refine Rg.lr 34 (exec_pickT (v:=.bool true) _ _ _ rfl rfl rfl) ?_;go_frame;refine Rg.lm 35 (.bool true) ?_;go_frame;refine listW_run (some 36) rfl rfl (Rg.xm ((.string ⟨#[50,52]⟩)) _ rfl rfl) ?_;go_frame;refine listW_run (some 37) rfl rfl (exec_eqS _ _ rfl rfl rfl) ?_;go_frame;refine Rg.lr 38 (exec_pickT (v:=.bool true) _ _ _ rfl rfl rfl) ?_;go_frame;refine Rg.lm 39 (.bool true) ?_;go_frame;refine listW_run (some 40) rfl rfl (Rg.xm (.int .i64 0) _ rfl rfl) ?_;go_frame;refine listW_run (some 41) rfl rfl (exec_eqI _ _ rfl rfl rfl rfl) ?_;go_frame
 refine Rg.lr 42 (exec_pickT (v:=.bool true) _ _ _ rfl rfl rfl) ?_;go_frame;refine Rg.lm 43 (.bool true) ?_;go_frame;refine listW_run (some 44) rfl rfl (Rg.xm ((.string ⟨#[52]⟩)) _ rfl rfl) ?_;go_frame;refine listW_run (some 45) rfl rfl (exec_eqS _ _ rfl rfl rfl) ?_;go_frame;refine Rg.lr 46 (exec_pickT (v:=.bool true) _ _ _ rfl rfl rfl) ?_;go_frame;refine Rg.lm 47 (.bool true) ?_;go_frame;refine listW_run (some 48) rfl rfl (Rg.xm (.int .i64 0) _ rfl rfl) ?_;go_frame;refine listW_run (some 49) rfl rfl (exec_eqI _ _ rfl rfl rfl rfl) ?_;go_frame;refine Rg.lr 50 (exec_pickT (v:=.bool true) _ _ _ rfl rfl rfl) ?_;go_frame;refine Rg.lm 51 (.bool true) ?_;go_frame;refine listW_run (some 52) rfl rfl (exec_field _ rfl rfl (chF2 _ _)) ?_;go_frame;refine listW_run (some 53) rfl rfl (Rg.exec_load (v:=.slice (some ⟨rb,ro,none⟩) (R2.map (List.map Ma.ofN)).length rc2) _ _ rfl ⟨w5.heap.size,2,none⟩ rfl (Rg.run_loadSl _ _ Tryz.underlying52 T2.out.c2)) ?_;go_frame
 refine listW_run (some 54) rfl rfl (exec_len _ _ _ rfl Tryz.underlying52 _ _ _ rfl) ?_;go_frame;refine listW_run (some 55) rfl rfl (exec_bin (R:=.bool true) .eql _ _ _ rfl rfl rfl (b_eql _ (decide_eq_true (by have:=HRL.out; omega)))) ?_;go_frame;refine Rg.lr 56 (exec_pickT (v:=.bool true) _ _ _ rfl rfl rfl) ?_;go_frame;refine Rg.lm 57 (.bool true) ?_;go_frame;refine listW_run (some 58) rfl rfl (exec_field _ rfl rfl (chF2 _ _)) ?_;go_frame;refine listW_run (some 59) rfl rfl (Rg.exec_load (v:=.slice (some ⟨rb,ro,none⟩) (R2.map (List.map Ma.ofN)).length rc2) _ _ rfl ⟨w5.heap.size,2,none⟩ rfl (Rg.run_loadSl _ _ Tryz.underlying52 T2.out.c2)) ?_;go_frame;refine listW_run (some 60) rfl rfl (exec_indexS slPermss _ _ rfl rb (ro) ((R2.map (List.map Ma.ofN)).length) rc2 (0) rfl rfl (by rw [HRL.out]; decide)) ?_;go_frame;refine listW_run (some 61) rfl rfl (Rg.exec_load (v:=u0) _ _ rfl ⟨rb,ro+0,none⟩ rfl (Rg.run_loadSl _ _ Tryz.underlying22 CU.out.cell)) ?_;go_frame
 have hnew:=ints_new w8 3 [0,1,2,3] (by decide);refine listW_run (some 62) rfl rfl (exec_flat _ _ 4 _ rfl [0,1,2,3] Tryz.underlying51 szInt zInt rfl (by decide) (by decide) rfl) ?_;go_frame;have hb:=(Below.refl w8.heap.size w8).alloc (Nat.le_refl _) (.cells (([0,1,2,3]:List Int).map (Value.int .i64)).toArray 3);generalize w8.alloc (.cells (([0,1,2,3]:List Int).map (Value.int .i64)).toArray 3)=w9 at *;replace E1:=ι (E1.out.below hb);replace T1:=ι (T1.out.below hb);replace E2:=ι (E2.out.below hb);replace T2:=ι (T2.out.below hb);replace CU:=ι (CU.out.below hb);replace UR:=ι (UR.out.below hb);replace K:=ι (Rg.acc K.out hb);clear hb;have I0:=ι hnew;clear hnew;have hnew:=ints_new w9 3 [1,0,3,2] (by decide);refine listW_run (some 63) rfl rfl (exec_flat _ _ 4 _ rfl [1,0,3,2] Tryz.underlying51 szInt zInt rfl (by decide) (by decide) rfl) ?_;go_frame;have hb:=(Below.refl w9.heap.size w9).alloc (Nat.le_refl _) (.cells (([1,0,3,2]:List Int).map (Value.int .i64)).toArray 3)
 generalize w9.alloc (.cells (([1,0,3,2]:List Int).map (Value.int .i64)).toArray 3)=w10 at *;replace E1:=ι (E1.out.below hb);replace T1:=ι (T1.out.below hb);replace E2:=ι (E2.out.below hb);replace T2:=ι (T2.out.below hb);replace CU:=ι (CU.out.below hb);replace UR:=ι (UR.out.below hb);replace I0:=ι (I0.out.below hb);replace K:=ι (Rg.acc K.out hb);clear hb;have I1:=ι hnew;clear hnew;have hnew:=ints_new w10 3 [2,3,0,1] (by decide);refine listW_run (some 64) rfl rfl (exec_flat _ _ 4 _ rfl [2,3,0,1] Tryz.underlying51 szInt zInt rfl (by decide) (by decide) rfl) ?_;go_frame;have hb:=(Below.refl w10.heap.size w10).alloc (Nat.le_refl _) (.cells (([2,3,0,1]:List Int).map (Value.int .i64)).toArray 3);generalize w10.alloc (.cells (([2,3,0,1]:List Int).map (Value.int .i64)).toArray 3)=w11 at *;replace E1:=ι (E1.out.below hb);replace T1:=ι (T1.out.below hb)
 replace E2:=ι (E2.out.below hb);replace T2:=ι (T2.out.below hb);replace CU:=ι (CU.out.below hb);replace UR:=ι (UR.out.below hb);replace I0:=ι (I0.out.below hb);replace I1:=ι (I1.out.below hb);replace K:=ι (Rg.acc K.out hb);clear hb;have I2:=ι hnew;clear hnew;have hnew:=ints_new w11 3 [3,2,1,0] (by decide);refine listW_run (some 65) rfl rfl (exec_flat _ _ 4 _ rfl [3,2,1,0] Tryz.underlying51 szInt zInt rfl (by decide) (by decide) rfl) ?_;go_frame;have hb:=(Below.refl w11.heap.size w11).alloc (Nat.le_refl _) (.cells (([3,2,1,0]:List Int).map (Value.int .i64)).toArray 3);generalize w11.alloc (.cells (([3,2,1,0]:List Int).map (Value.int .i64)).toArray 3)=w12 at *;replace E1:=ι (E1.out.below hb);replace T1:=ι (T1.out.below hb);replace E2:=ι (E2.out.below hb);replace T2:=ι (T2.out.below hb);replace CU:=ι (CU.out.below hb);replace UR:=ι (UR.out.below hb)
 replace I0:=ι (I0.out.below hb);replace I1:=ι (I1.out.below hb);replace I2:=ι (I2.out.below hb);replace K:=ι (Rg.acc K.out hb);clear hb;have I3:=ι hnew;clear hnew
 have hrw:Rg.Rows (w12.alloc (.cells #[.slice (some ⟨w8.heap.size,0,none⟩) 4 4,.slice (some ⟨w9.heap.size,0,none⟩) 4 4,.slice (some ⟨w10.heap.size,0,none⟩) 4 4,.slice (some ⟨w11.heap.size,0,none⟩) 4 4] 51)) (.slice (some ⟨w12.heap.size,0,none⟩) 4 4) [[0,1,2,3],[1,0,3,2],[2,3,0,1],[3,2,1,0]]:=(rowsF_new (B:=0) (w:=w12) 51 [.slice (some ⟨w8.heap.size,0,none⟩) 4 4,.slice (some ⟨w9.heap.size,0,none⟩) 4 4,.slice (some ⟨w10.heap.size,0,none⟩) 4 4,.slice (some ⟨w11.heap.size,0,none⟩) 4 4] [[0,1,2,3],[1,0,3,2],[2,3,0,1],[3,2,1,0]] rfl (by simp) (by
  intro i h h2
  match i,h,h2 with
  | 0,_,_=>exact ⟨I0.out,fun _ _ _ _=>Nat.zero_le _⟩
  | 1,_,_=>exact ⟨I1.out,fun _ _ _ _=>Nat.zero_le _⟩
  | 2,_,_=>exact ⟨I2.out,fun _ _ _ _=>Nat.zero_le _⟩
  | 3,_,_=>exact ⟨I3.out,fun _ _ _ _=>Nat.zero_le _⟩) (Nat.zero_le _)).rows
 refine listW_run (some 66) rfl rfl (exec_buildP4 (u1:=.slice (some ⟨w8.heap.size,0,none⟩) 4 4) (u2:=.slice (some ⟨w9.heap.size,0,none⟩) 4 4) (u3:=.slice (some ⟨w10.heap.size,0,none⟩) 4 4) (u4:=.slice (some ⟨w11.heap.size,0,none⟩) 4 4) _ _ _ _ rfl rfl rfl rfl rfl (run_buildP4 w12 _ _ _ _ ⟨_,_,_,rfl⟩ ⟨_,_,_,rfl⟩ ⟨_,_,_,rfl⟩ ⟨_,_,_,rfl⟩)) ?_;go_frame;have hb:=(Below.refl w12.heap.size w12).alloc (Nat.le_refl _) (.cells #[.slice (some ⟨w8.heap.size,0,none⟩) 4 4,.slice (some ⟨w9.heap.size,0,none⟩) 4 4,.slice (some ⟨w10.heap.size,0,none⟩) 4 4,.slice (some ⟨w11.heap.size,0,none⟩) 4 4] 51);generalize w12.alloc (.cells #[.slice (some ⟨w8.heap.size,0,none⟩) 4 4,.slice (some ⟨w9.heap.size,0,none⟩) 4 4,.slice (some ⟨w10.heap.size,0,none⟩) 4 4,.slice (some ⟨w11.heap.size,0,none⟩) 4 4] 51)=w13 at *;replace E1:=ι (E1.out.below hb);replace T1:=ι (T1.out.below hb)
 replace E2:=ι (E2.out.below hb);replace T2:=ι (T2.out.below hb);replace CU:=ι (CU.out.below hb);replace UR:=ι (UR.out.below hb);replace I0:=ι (I0.out.below hb);replace I1:=ι (I1.out.below hb);replace I2:=ι (I2.out.below hb);replace I3:=ι (I3.out.below hb);replace K:=ι (Rg.acc K.out hb);clear hb;have RW:=ι hrw;clear hrw;refine listW_ask (some 67) rfl rfl _ _ (exec_fn 51 _ _ _ rfl rfl rfl (Xdcl4 _ _)) ?_;refine (SamePerms_t UR.out RW.out rfl).mono ?_;rintro e1 w14 ⟨rfl,hb⟩;refine ⟨_,rfl,?_⟩;go_frame;replace E1:=ι (E1.out.below hb);replace T1:=ι (T1.out.below hb);replace E2:=ι (E2.out.below hb);replace T2:=ι (T2.out.below hb);replace CU:=ι (CU.out.below hb);replace UR:=ι (UR.out.below hb);replace I0:=ι (I0.out.below hb);replace I1:=ι (I1.out.below hb);replace I2:=ι (I2.out.below hb);replace I3:=ι (I3.out.below hb);replace RW:=ι (RW.out.below hb)
 replace K:=ι (Rg.acc K.out hb);clear hb;refine Rg.lr 68 (exec_pickT (v:=.bool true) _ _ _ rfl rfl rfl) ?_;go_frame;refine Rg.la 0 (.bool true) ?_;go_frame;go_wp2;go_ret;exact ⟨rfl,K.out⟩

theorem RowsB.low {B:Nat} {w w':World} {v:Value} {ll:List (List Int)} (h:Rg.RowsB B w v ll) (hb:Below w.heap.size w w'):Rg.RowsB B w' v ll:=h.below hb
def bg (d:Int) (ll:List (List Int)):Bool:=lg ll || (decide (12<d) && decide (d≤64))
end Go.Proofs.YthehbckogieimaaGreat

namespace Go.Proofs.RF
open Go Go.RowKit
section
variable {n L:Nat} {P:Program} {Q:Exit→Act→World→Prop} {md:Region.Mode} {ops:Array Oper}
theorem rows_in {m:Nat} {row:String} {args:Array Value} {w:World} {R:Value→World→Prop} (h:Rows P row args w R):RowsIn (Fence.wide.inRound L) m P row args w R :=
 fun c cs _=>let ⟨v,w',r,s⟩:=h c cs; ⟨v,w',r,stepsIn_wide.2 s⟩
theorem op_in {o:Oper} {a:Act} {w:World} {K:Act→World→Prop} (hd:∀ c,o.op≠.defer c) (h:o.wp P a w K Q) :
  o.wpIn (Fence.wide.inRound L) n P a w K Q:=by
 refine ⟨fun _ _=>trivial,?_⟩;rw [show (Fence.wide.inRound L).round=some L from rfl,Oper.semAt_some L a.eval o hd];unfold Oper.wp at h;generalize (execOp a.eval o).run P w=r at h
 cases r with
 | ok x w' =>
  cases x with
  | enter f args =>
   have h':Calls P f args w' _:=h;exact ⟨fun h=>by simp [Fence.wide,Fence.inRound] at h,CallsIn.inRound L (callsIn_wide.2 h')⟩
  | row r args=>exact ⟨fun h=>by simp [Fence.wide,Fence.inRound] at h,rows_in h⟩
  | value v=>exact h
  | skip=>exact h
  | defer d=>exact h
  | _=>exact h.elim
 | halt x w' =>
  cases x with
  | panic v=>exact h
  | _=>exact h.elim
theorem wpOp_in {i:Nat} {K:Act→World→Prop} {a:Act} {w:World} (hQ:∀ a w,¬ Q .outgrown a w) (hd:∀ (j:Nat) o c,ops[j]?=some o→o.op≠.defer c) (h:wpOp P ops Q i K a w) :
  wpOpIn (Fence.wide.inRound L) n P ops Q i K a w:=by
 unfold wpOp at h;unfold wpOpIn
 split
 ·rename_i ho; rw [ho] at h; exact h
 ·rename_i o ho
  rw [ho] at h;simp only at h
  split
  ·rename_i hw
   rw [if_pos hw] at h
   rcases h with h | h
   ·exact op_in (fun c=>hd i o c ho) h
   ·obtain ⟨_,a',w',h'⟩:=h; exact (hQ a' w' h').elim
  ·rename_i hw
   rw [if_neg hw] at h;exact ⟨fun _ _=>trivial,h⟩
theorem wpAny_in (hQ:∀ a w,¬ Q .outgrown a w) (hd:∀ (j:Nat) o c,ops[j]?=some o→o.op≠.defer c):∀ (f:Nat) (listed:Array Bool) (a:Act) (w:World),
  wpAny P md ops Q f listed a w→wpAnyIn (Fence.wide.inRound L) n P md ops Q f listed a w
 | 0,_,_,_,h=>h
 | f+1,_,_,_,h=>⟨h.1,fun i hi=>wpOpIn_mono (fun a' w'=>wpAny_in hQ hd f _ a' w') (wpOp_in hQ hd (h.2 i hi))⟩
def noDefer (l:List Oper):Bool:=l.all fun o=>match o.op with | .defer _=>false | _=>true
theorem noDefer_spec {l:List Oper} (h:noDefer l=true) (j:Nat) (o:Oper) (c:Call) (ho:l.toArray[j]?=some o):o.op≠.defer c:=by
 intro e;have h1:=List.all_eq_true.1 h o (by simp at ho; exact List.mem_of_getElem? ho);rw [e] at h1;simp at h1
end
end Go.Proofs.RF
namespace Go.Proofs.Rg
open Go Go.RowKit
theorem wpIn_onlyN {F:Fence} {n:Nat} {P:Program} {c:Code} {Q:Exit→Act→World→Prop} {a:Act} {w:World} (h:c.wpIn F n P (onlyN Q) a w):c.wpIn F n P Q a w :=
 wpIn_mono h fun e a w hq=>by cases e <;> first | exact hq | exact hq.elim
theorem Any.beginIn {L n:Nat} {P:Program} {Q:Exit→Act→World→Prop} {S:Array Bool→World→Prop} {id:Nat} {a:Act} {w:World} {l:List Oper} (hm:P.follows .mixedOrders=true) (hnd:RF.noDefer l=true)
  (h:Any P .any l.toArray (onlyN Q) S l.toArray.size (Array.replicate l.toArray.size false) a w.drew):(Code.region id l.toArray true).wpIn (Fence.wide.inRound L) n P Q a w :=
 wpIn_onlyN (wpIn_region_any hm (RF.wpAny_in (fun _ _ h=>h) (fun j o c=>RF.noDefer_spec hnd j o c) _ _ _ _ (Any.plain _ _ _ _ h)))
end Go.Proofs.Rg

namespace Go.Proofs.YthehbckogieimaaGreat
open Go.RowKit
open Go.Proofs
open Go.Proofs.Ob
open Go.Shelf
open Go.Proofs.Cm (Tr)
attribute [local go_sem] Oper.semAt_some
attribute [local irreducible] Go.Calls Go.wpList Go.wpListIn
theorem exec_boxV {P:Program} {o:Oper} {a:Act} {w:World} {v:Value} (t:TypeId) (x:Operand) (ho:o.op=.box t x) (hx:a.eval x=v) (hv:v.cells=#[v]) :
  (execOp a.eval o).run P w=.ok (.value (.pointer (some ⟨w.heap.size,0,none⟩))) (w.alloc (.cells #[v] t)):=by
 unfold execOp;simp [ho,hx,Instr.box,newVar,newRow,hv,Result.andThen]
theorem exec_allocBo {o:Oper} {a:Act} {w:World} (ho:o.op=.alloc 4):(execOp a.eval o).run Tryz.prog w=.ok (.value (.pointer (some ⟨w.heap.size,0,none⟩))) (w.alloc (.cells #[.bool false] 4)):=by
 obtain ⟨i0,hi,hz0,hz1,hz2⟩:=info_parts infoBool;unfold execOp;simp [ho,Instr.alloc,typeInfo,zeroValue,hi,hz0,newVar,newRow,Value.cells,Result.andThen]
end Go.Proofs.YthehbckogieimaaGreat

namespace Go.Proofs.YthehbckogieimaaGreat
open Go.RowKit
open Go.Proofs
open Go.Proofs.Cm (Tr)
attribute [local irreducible] Go.Calls Go.wpList
def SS (n:Nat) (tr:Tr) (l:List (List Nat)) (a b:Nat):Prop:=(Cm.sfP n (Cm.idT n tr) n (Ma.mulN (l.getD a []) (l.getD b []))).1=n
end Go.Proofs.YthehbckogieimaaGreat

namespace Go.Proofs.YthehbckogieimaaGreat
open Go.Proofs
open Go.Proofs.Cm (Tr TabOk Gr Gd Sd idT sfP)
def ins1 (n:Nat) (tr:Tr) (x:List Nat):Tr:=insT n tr (sfP n (idT n tr) n x)
structure TL (n:Nat) (gs:List Nat→Prop) (tr:Tr) (l:List (List Nat)):Prop where
 ok:TabOk n gs tr
 sd:∀ x∈l,Sd n (idT n tr) n x
theorem TL.nil (n:Nat) (gs:List Nat→Prop):TL n gs (fun _ _=>none) []:=⟨Cm.TabOk.nil0,fun x hx=>by simp at hx⟩
theorem TL.ins {n:Nat} {gs:List Nat→Prop} (hg:∀ s,gs s→Gd n s) {tr:Tr} {l:List (List Nat)} (h:TL n gs tr l) {x:List Nat} (hx:Gr n gs x):TL n gs (ins1 n tr x) (l++[x]):=by
 obtain ⟨h1,h2,h3,_⟩:=tab_ins hg h.ok hx;refine ⟨h1,fun y hy=>?_⟩
 rcases List.mem_append.1 hy with hy | hy
 ·exact Sd.mono (fun i p u _=>h2 i p u) (h.sd y hy)
 ·rw [List.mem_singleton] at hy; subst hy; exact h3
def pickV (x n:Int):Int:=if x.tmod n<0 then x.tmod n+n else x.tmod n
theorem pickV_range {x n:Int} (h0:0<n):0≤pickV x n∧pickV x n<n:=by
 have h2:=Int.tmod_lt_of_pos x h0
 have h3:-n<x.tmod n:=by
  have:=Int.lt_tmod_of_pos x h0;omega
 unfold pickV
 split <;> omega
def stepR (n:Nat) (st:List (List Nat) × Tr) (a b:Int):List (List Nat) × Tr :=
 (st.1.set (pickV a st.1.length).toNat (Ma.mulN (st.1.getD (pickV a st.1.length).toNat []) (st.1.getD (pickV b st.1.length).toNat [])),
  ins1 n st.2 (Ma.mulN (st.1.getD (pickV a st.1.length).toNat []) (st.1.getD (pickV b st.1.length).toNat [])))
def stR (n:Nat) (s0:List (List Nat) × Tr) (nums:List Int):Nat→List (List Nat) × Tr
 | 0=>s0
 | k+1=>stepR n (stR n s0 nums k) (nums.getD (2*k) 0) (nums.getD (2*k+1) 0)
theorem stR_len {n:Nat} {s0:List (List Nat) × Tr} {nums:List Int}:∀ k,(stR n s0 nums k).1.length=s0.1.length
 | 0=>rfl
 | k+1=>by
  show ((stR n s0 nums k).1.set _ _).length=_;rw [List.length_set,stR_len k]
structure RI (n:Nat) (gs:List Nat→Prop) (st:List (List Nat) × Tr):Prop where
 gr:∀ x∈st.1,Gr n gs x
 tl:∃ l,TL n gs st.2 l∧∀ s,gs s→s∈l
theorem getD_mem {l:List (List Nat)} {i:Nat} (h:i<l.length):l.getD i []∈l:=by rw [getD_li h]; exact List.getElem_mem h
theorem RI.step {n:Nat} {gs:List Nat→Prop} (hg:∀ s,gs s→Gd n s) {st:List (List Nat) × Tr} (h:RI n gs st) (h0:0<st.1.length) (a b:Int):RI n gs (stepR n st a b):=by
 have ha:=pickV_range (x:=a) (n:=st.1.length) (by omega);have hb:=pickV_range (x:=b) (n:=st.1.length) (by omega);have hy:Gr n gs (Ma.mulN (st.1.getD (pickV a st.1.length).toNat []) (st.1.getD (pickV b st.1.length).toNat [])):=.mul _ _ (h.gr _ (getD_mem (by omega))) (h.gr _ (getD_mem (by omega)));refine ⟨fun x hx=>?_,?_⟩
 ·rcases List.mem_or_eq_of_mem_set hx with h1 | h1
  ·exact h.gr x h1
  ·rw [h1]; exact hy
 ·obtain ⟨l,h1,h2⟩:=h.tl
  exact ⟨_,h1.ins hg hy,fun s hs=>List.mem_append.2 (.inl (h2 s hs))⟩
theorem RI.all {n:Nat} {gs:List Nat→Prop} (hg:∀ s,gs s→Gd n s) {s0:List (List Nat) × Tr} (h:RI n gs s0) (h0:0<s0.1.length) (nums:List Int):∀ k,RI n gs (stR n s0 nums k)
 | 0=>h
 | k+1=>(RI.all hg h h0 nums k).step hg (by rw [stR_len]; exact h0) _ _
def tabL (n:Nat) (l:List (List Nat)):Tr:=l.foldl (ins1 n) (fun _ _=>none)
theorem TL.fold {n:Nat} {gs:List Nat→Prop} (hg:∀ s,gs s→Gd n s):∀ (l pre:List (List Nat)) (tr:Tr),TL n gs tr pre→(∀ x∈l,Gr n gs x)→TL n gs (l.foldl (ins1 n) tr) (pre++l)
 | [],pre,tr,h,_=>by rw [List.append_nil]; exact h
 | x :: l,pre,tr,h,hx=>by
  have:=TL.fold hg l (pre++[x]) (ins1 n tr x) (h.ins hg (hx x (by simp))) fun y hy=>hx y (by simp [hy]);rw [List.append_assoc] at this;exact this
theorem TL.tabL {n:Nat} {gs:List Nat→Prop} (hg:∀ s,gs s→Gd n s) (l:List (List Nat)) (h:∀ x∈l,Gr n gs x):TL n gs (tabL n l) l:=TL.fold hg l [] _ (TL.nil n gs) h
def startR (n:Nat) (gs:List (List Nat)):List (List Nat) × Tr:=(gs++gs.map Ma.invN,tabL n gs)
theorem RI.start {n:Nat} {gs:List (List Nat)} (hg:∀ s∈gs,Gd n s):RI n (·∈gs) (startR n gs):=by
 refine ⟨fun x hx=>?_,gs,TL.tabL hg gs fun x hx=>.gen x hx,fun s hs=>hs⟩
 rcases List.mem_append.1 hx with h | h
 ·exact .gen x h
 ·obtain ⟨y,hy,rfl⟩:=List.mem_map.1 h
  exact (Gr.isG hg).inv y (.gen y hy)
end Go.Proofs.YthehbckogieimaaGreat

namespace Go.Proofs.YthehbckogieimaaGreat
open Go.RowKit
open Go.Proofs
open Go.Proofs.Cm (Tr)
theorem RowG.push {F M:Nat→Prop} {W:World} {v:Value} {l:List (List Nat)} (h:RowG F M W v l) {u:Value} {x:List Nat} (hu:FP F W u x) (hs:∃ a m c,u=.slice a m c) (hF:∀ k,F k→k<W.heap.size) (hM:∀ k,M k→k<W.heap.size) (hn:l.length<1000000) (ty:TypeId) :
  ∃ a c X,(Builtin.append_ #[22,22] ty #[v,.slice (some ⟨W.heap.size,0,none⟩) 1 1]).run Tryz.prog (W.alloc (.cells #[u] 51))=.ok (.slice a (l.length+1) c) X∧RowG F M X (.slice a (l.length+1) c) (l++[x])∧Rg.Kp (fun k=>v.ownBlock=some k) W X:=by
 obtain ⟨B,us,h0,h1,h2⟩:=h.own;obtain ⟨a0,m0,c0,rfl⟩:=hs;have hb:Below W.heap.size W (W.alloc (.cells #[.slice a0 m0 c0] 51)):=(Below.refl _ _).alloc (Nat.le_refl _) _;obtain ⟨v',X,r1,r2,r3,r4,a,c,rfl⟩:=app_run (P:=Tryz.prog) slPerms ty (Rg.row_below h1 hb) (Nat.le_trans h0 hb.size) W.heap.size 1 (u:=.slice a0 m0 c0) (by rw [Rg.cellNew]; rfl) rfl hn;have hk:Rg.Kp (fun k=>v.ownBlock=some k) W X:=Rg.Kp.trans (M:=fun k=>v.ownBlock=some k) ((Rg.Kp.of_below hb).weak fun _=>False.elim) (Rg.Kp.of_grown r3 fun _ e=>e) (fun _ _ e=>e);have hg:∀ k,F k→¬ v.ownBlock=some k:=fun k g e=>(h.off k e).1 g;refine ⟨a,c,X,r1,⟨⟨B,us++[.slice a0 m0 c0],Nat.le_trans h0 hk.size,by rw [List.length_append]; exact r2,by rw [List.map_append]; exact FElts.snoc (h2.kp hk hg) (Rg.FI.kp hu hk hg)⟩,fun k e=>?_⟩,hk⟩
 rcases r4 with r4 | r4
 ·exact h.off k (by rw [← r4]; exact e)
 ·rw [r4] at e
  injection e with e
  have e2:(W.alloc (.cells #[.slice a0 m0 c0] 51)).heap.size=W.heap.size+1:=by simp
  exact ⟨fun g=>by have:=hF _ g; omega,fun g=>by have:=hM _ g; omega⟩
theorem RowG.set {F M:Nat→Prop} {W:World} {g c:Nat} {l:List (List Nat)} (h:RowG F M W (.slice (some ⟨g,0,none⟩) l.length c) l) (i:Nat) {u:Value} {x:List Nat} (hu:FP F W u x) :
  RowG F M (W.setCell ⟨g,i,none⟩ u) (.slice (some ⟨g,0,none⟩) l.length c) (l.set i x)∧Rg.Kp (fun k=>k=g) W (W.setCell ⟨g,i,none⟩ u):=by
 obtain ⟨B,us,h0,h1,h2⟩:=h.own;have hk:Rg.Kp (fun k=>k=g) W (W.setCell ⟨g,i,none⟩ u):=Rg.Kp.of_setCell rfl;have hg:∀ k,F k→¬ k=g:=fun k e e2=>(h.off g rfl).1 (e2▸e);have h2':=h2.kp hk hg;refine ⟨⟨⟨B,us.set i u,Nat.le_trans h0 hk.size,?_,?_,fun j hj hj2=>?_⟩,h.off⟩,hk⟩
 ·rw [List.length_set]; exact (h1.stored i u).1
 ·rw [List.length_set,List.length_map,List.length_set,← List.length_map (f:=Ma.ofN)]; exact h2.1
 ·have e1:j<us.length:=by rwa [List.length_set] at hj
  have e2:j<l.length:=by rwa [List.length_map,List.length_set] at hj2
  by_cases e:i=j
  ·subst e
   simp only [List.getElem_set_self,List.getElem_map];exact Rg.FI.kp hu hk hg
  ·simp only [List.getElem_set_ne e,List.getElem_map]
   have:=h2'.2 j e1 (by rw [List.length_map]; exact e2)
   simpa using this
theorem RowG.frozen {F M:Nat→Prop} {W:World} {g n c:Nat} {l:List (List Nat)} (h:RowG F M W (.slice (some ⟨g,0,none⟩) n c) l) (hn:n=l.length) (i:Nat):W.frozen? ⟨g,i,none⟩=false:=by
 subst hn;obtain ⟨B,us,h0,h1,h2⟩:=h.own;exact h1.frozenAt i
end Go.Proofs.YthehbckogieimaaGreat

namespace Go.Proofs.YthehbckogieimaaGreat
open Go.RowKit
open Go.Proofs
open Go.Proofs.Cm (Tr)
attribute [local irreducible] Go.Calls Go.wpList
theorem KI.weak {F F' M M':Nat→Prop} {w w':World} (h:KI F w F' w' M) (hM:∀ z,M z→M' z):KI F w F' w' M':=⟨h.kg,h.kp.weak hM,h.new⟩
theorem KI.trans {F F' F'' M:Nat→Prop} {w w' w'':World} (h:KI F w F' w' M) (h':KI F' w' F'' w'' M):KI F w F'' w'' M :=
 ⟨h.kg.trans h'.kg,Rg.Kp.trans (M:=M) h.kp h'.kp (fun _ _ e=>e),fun k hk=>by
  rcases h'.new k hk with e | e
  ·exact h.new k e
  ·exact .inr (Nat.le_trans h.kp.size e)⟩
end Go.Proofs.YthehbckogieimaaGreat

namespace Go.Proofs.YthehbckogieimaaGreat
open Go.RowKit
open Go.Proofs
open Go.Proofs.Ob
open Go.Proofs.Cm (Tr TabOk)
attribute [local irreducible] Go.Calls Go.wpList
theorem RowG.nil (F M:Nat→Prop) (W:World):RowG F M W (.slice none 0 0) []:=⟨⟨W.heap.size,[],Nat.le_refl _,World.ownsRow_nil _ _ _ _,Rg.FElts.nil _ _⟩,fun k e=>by simp [Value.ownBlock] at e⟩
end Go.Proofs.YthehbckogieimaaGreat

namespace Go.Proofs.YthehbckogieimaaGreat
open Go.RowKit
open Go.Proofs
open Go.Proofs.Cm (Tr)
theorem CW.up {w w':World} {b:Nat} {v:Value} (h:CW w b v) (hb:Below w.heap.size w w'):CW w' b v:=h.below hb
theorem RowG.below {F M:Nat→Prop} {W W':World} {v:Value} {l:List (List Nat)} (h:RowG F M W v l) (hb:Below W.heap.size W W'):RowG F M W' v l:=by
 obtain ⟨B,us,g0,g1,g2⟩:=h.own;exact ⟨⟨B,us,Nat.le_trans g0 hb.size,Rg.row_below g1 hb,g2.kp (M:=fun _=>False) (Rg.Kp.of_below hb) (fun _ _=>id)⟩,h.off⟩
theorem KG.bel {F0 F:Nat→Prop} {w0 w w':World} (h:KG F0 w0 F w) (hb:Below w.heap.size w w'):KG F0 w0 F w':=h.kf' (KF.of_below hb)
end Go.Proofs.YthehbckogieimaaGreat

namespace Go.Proofs.YthehbckogieimaaGreat
open Go.RowKit
open Go.Proofs
attribute [local irreducible] Go.Calls
theorem isNaNC_any (x:Int) (w:World):Calls Tryz.prog 244 #[.int .i64 x] w fun e w'=>e=.returned (.bool false)∧w'=w:=by
 go_enter Tryz.func244,Tryz.ntmps244
 go_wp2;go_ret;exact ⟨by simp,rfl⟩
theorem isNaNS_any (x:Int) (w:World):Calls Tryz.prog 260 #[.int .i64 x] w fun e w'=>e=.returned (.bool false)∧w'=w:=by
 go_enter Tryz.func260,Tryz.ntmps260
 go_wp2;go_ret;exact ⟨by simp,rfl⟩
theorem cmpLess_any (x y:Int) (w:World):Calls Tryz.prog 259 #[.int .i64 x,.int .i64 y] w fun e w'=>e=.returned (.bool (decide (x<y)))∧w'=w:=by
 go_enter Tryz.func259,Tryz.ntmps259
 go_wp2_with (go_at_call 244; refine (isNaNC_any _ _).mono ?_; rintro e w' ⟨rfl,rfl⟩)
 go_ret;exact ⟨rfl,rfl⟩
theorem search_any (v:Value) (l:List Int) (x:Int) (w:World) (h:Rg.Ints w v l) (hs:l.Pairwise (·≤·)) (hbig:l.length<1000000) :
  Calls Tryz.prog 182 #[v,.int .i64 x] w fun e w'=>e=.returned (.tuple #[.int .i64 ((l.countP (· < x):Nat):Int),.bool (l.contains x)])∧Below w.heap.size w w':=by
 obtain ⟨ad,cap,rfl,hcap,_,_,hcell⟩:=h.shape;have S:=ι (show ∀ a b,a≤b→b<l.length→l.getD a 0≤l.getD b 0 from Lib.sorted_at l l.length (Nat.le_refl _) (by rw [List.take_length]; exact hs));have HC:=ι hcell;clear hs h hcell hcap
 go_enter Tryz.func182,Tryz.ntmps182
 go_wp2
 go_loopg [7,8] l.length (fun g s7 s8 wr=>∃ lo hi:Nat,s7=.int .i64 lo∧s8=.int .i64 hi∧lo≤hi∧hi≤l.length∧hi - lo≤g∧wr=w∧Hid ((∀ t,t<lo→l.getD t 0<x)∧(∀ t,hi≤t→t<l.length→x≤l.getD t 0)))
 case atStart=>exact ⟨0,l.length,rfl,rfl,Nat.zero_le _,Nat.le_refl _,by omega,rfl,ι ⟨fun t ht=>absurd ht (Nat.not_lt_zero _),fun t h1 h2=>by omega⟩⟩
 case round =>
  obtain ⟨lo,hi,rfl,rfl,hlh,hin,hg,rfl,I⟩:=hrel
  by_cases hlt:lo<hi
  ·obtain ⟨b,off,rfl,hb,hc⟩:=HC.out (by omega)
   have cm:wr.cell? ⟨b,off+(lo+hi) / 2,none⟩=some (.int .i64 (l.getD ((lo+hi) / 2) 0)):=by
    rw [hc ((lo+hi) / 2) (by omega),List.getD_eq_getElem?_getD,List.getElem?_eq_getElem (by omega)]; rfl
   clear hc;generalize hy:l.getD ((lo+hi) / 2) 0=y at cm;have Y:=ι hy;clear hy
   by_cases hyx:y<x
   ·go_wp2_with (first | (go_at_call 259; refine (cmpLess_any _ _ _).mono ?_; rintro e w' ⟨rfl,rfl⟩) | (go_at_call 260; refine (isNaNS_any _ _).mono ?_; rintro e w' ⟨rfl,rfl⟩))
    go_roundg (hi - ((lo+hi) / 2+1))
    case measure=>omega
    case rel =>
     refine ⟨(lo+hi) / 2+1,hi,by rw [show ((lo:Int)+(hi:Int)) / 2+1=(((lo+hi) / 2+1:Nat):Int) by omega],rfl,by omega,hin,Nat.le_refl _,rfl,ι ⟨fun t ht=>?_,I.out.2⟩⟩;have:=S.out t ((lo+hi) / 2) (by omega) (by omega);rw [Y.out] at this;omega
   ·go_wp2_with (first | (go_at_call 259; refine (cmpLess_any _ _ _).mono ?_; rintro e w' ⟨rfl,rfl⟩) | (go_at_call 260; refine (isNaNS_any _ _).mono ?_; rintro e w' ⟨rfl,rfl⟩))
    go_roundg ((lo+hi) / 2 - lo)
    case measure=>omega
    case rel =>
     refine ⟨lo,(lo+hi) / 2,rfl,by rw [show ((lo:Int)+(hi:Int)) / 2=(((lo+hi) / 2:Nat):Int) by omega],by omega,by omega,Nat.le_refl _,rfl,ι ⟨I.out.1,fun t ht htn=>?_⟩⟩;have:=S.out ((lo+hi) / 2) t ht htn;rw [Y.out] at this;omega
  ·have:hi=lo:=by omega
   subst this;have E:=ι (Lib.search_end l l.length hi x (Nat.le_refl _) hin I.out.1 I.out.2 S.out);rw [List.take_length] at E
   by_cases hn:hi<l.length
   ·obtain ⟨b,off,rfl,hb,hc⟩:=HC.out (by omega)
    have cl:wr.cell? ⟨b,off+hi,none⟩=some (.int .i64 (l.getD hi 0)):=by
     rw [hc hi hn,List.getD_eq_getElem?_getD,List.getElem?_eq_getElem hn]; rfl
    clear hc;generalize hy:l.getD hi 0=y at cl;have Y:=ι hy;clear hy
    by_cases hyx:y=x
    ·go_wp2_with (first | (go_at_call 259; refine (cmpLess_any _ _ _).mono ?_; rintro e w' ⟨rfl,rfl⟩) | (go_at_call 260; refine (isNaNS_any _ _).mono ?_; rintro e w' ⟨rfl,rfl⟩))
     go_ret2
     refine ⟨?_,Below.refl _ _⟩;rw [E.out.1,E.out.2,Y.out,decide_eq_true (show hi<l.length∧y=x from ⟨hn,hyx⟩)]
     first | rfl | simp [*]
    ·go_wp2_with (first | (go_at_call 259; refine (cmpLess_any _ _ _).mono ?_; rintro e w' ⟨rfl,rfl⟩) | (go_at_call 260; refine (isNaNS_any _ _).mono ?_; rintro e w' ⟨rfl,rfl⟩))
     go_ret2
     refine ⟨?_,Below.refl _ _⟩;rw [E.out.1,E.out.2,Y.out,decide_eq_false (show ¬ (hi<l.length∧y=x) from fun h=>hyx h.2)]
     first | rfl | simp [*]
   ·go_wp2_with (first | (go_at_call 259; refine (cmpLess_any _ _ _).mono ?_; rintro e w' ⟨rfl,rfl⟩) | (go_at_call 260; refine (isNaNS_any _ _).mono ?_; rintro e w' ⟨rfl,rfl⟩))
    go_ret2
    refine ⟨?_,Below.refl _ _⟩;rw [E.out.1,E.out.2,decide_eq_false (show ¬ (hi<l.length∧l.getD hi 0=x) from fun h=>hn h.1)]
    first | rfl | simp [*]
end Go.Proofs.YthehbckogieimaaGreat

namespace Go.Proofs.YthehbckogieimaaGreat
open Go.Proofs
open Go.Proofs.Cm (Gr Gd IsChain IsG St Tr Fx ap Rp IsTr Sd sfP Lst)
def trC (O:List (List Nat)) (R:List (List (List Nat))):Tr:=fun i p=>if p∈O.getD i [] then some ((R.getD i []).getD ((O.getD i []).idxOf p) []) else none
theorem trC_some {O:List (List Nat)} {R:List (List (List Nat))} {i p:Nat} (h:p∈O.getD i []):trC O R i p=some ((R.getD i []).getD ((O.getD i []).idxOf p) []):=if_pos h
theorem trC_none {O:List (List Nat)} {R:List (List (List Nat))} {i p:Nat} (h:¬ p∈O.getD i []):trC O R i p=none:=if_neg h
theorem trC_mem {O:List (List Nat)} {R:List (List (List Nat))} {i p:Nat} {u:List Nat} (h:trC O R i p=some u):p∈O.getD i []∧u=(R.getD i []).getD ((O.getD i []).idxOf p) []:=by
 unfold trC at h
 split at h
 ·rename_i hm; injection h with h; exact ⟨hm,h.symm⟩
 ·cases h
theorem getD_idx {l:List Nat} {p:Nat} (h:p∈l):l.getD (l.idxOf p) 0=p:=by
 have hl:=List.idxOf_lt_length_of_mem h;rw [List.getD_eq_getElem?_getD,List.getElem?_eq_getElem hl];exact List.getElem_idxOf hl
theorem trC_lst {n:Nat} {H:List Nat→Prop} {O:List (List Nat)} {R:List (List (List Nat))} (h:IsChain n H O R) {i p:Nat} (hi:i<n) {u:List Nat} (hu:trC O R i p=some u):Lst n (fun z=>St H i z∧ap z i=p) u:=by
 obtain ⟨hm,rfl⟩:=trC_mem hu;have:=h.rep i _ hi (List.idxOf_lt_length_of_mem hm)
 rwa [getD_idx hm] at this
theorem one_least {n:Nat} {H:List Nat→Prop} (hH:IsG n H) {i:Nat} (hi:i<n) {u:List Nat} (h:Lst n (fun z=>St H i z∧ap z i=i) u):u=Ma.oneN n:=by
 have hg:=hH.gd u h.1.1.1
 rcases h.2 (Ma.oneN n) ⟨⟨hH.one,Fx.one (by omega)⟩,Cm.ap_one hi⟩ with e | ⟨j,hj,h1,h2⟩
 ·exact e.symm
 ·rw [Cm.ap_one hj] at h2
  have h3:=h1 _ h2;rw [Cm.ap_one (by omega)] at h3;have:=Cm.ap_inj hg (by omega) hj h3;omega
theorem trC_isTr {n:Nat} {H:List Nat→Prop} (hH:IsG n H) {O:List (List Nat)} {R:List (List (List Nat))} (h:IsChain n H O R):IsTr n H (trC O R):=by
 refine ⟨⟨fun i p u _ hi hu=>hH.gd u (trC_lst h hi hu).1.1.1,fun i p u _ hi hu=>(trC_lst h hi hu).1.1.2,fun i p u _ hi hu=>(trC_lst h hi hu).1.2,fun i _ hi=>?_⟩,fun i p u hi hu=>(trC_lst h hi hu).1.1.1,fun i x hi hx=>?_⟩
 ·have hm:i∈O.getD i []:=(h.orb i i hi).2 ⟨Ma.oneN n,⟨hH.one,Fx.one (by omega)⟩,Cm.ap_one hi⟩
  have e:=trC_some (R:=R) hm;rw [e];exact congrArg some (one_least hH hi (trC_lst h hi e))
 ·exact ⟨_,trC_some ((h.orb i _ hi).2 ⟨x,hx,rfl⟩)⟩
theorem asc_count:∀ {l:List Nat} {p:Nat},l.Pairwise (· < ·)→p∈l→(Ma.ofN l).countP (· < ((p:Nat):Int))=l.idxOf p
 | [],p,_,h=>by simp at h
 | a :: l,p,hs,h=>by
  rw [List.pairwise_cons] at hs;show (((a:Nat):Int) :: Ma.ofN l).countP _=_;rw [List.countP_cons]
  by_cases e:a=p
  ·subst e
   have:(Ma.ofN l).countP (fun x=>decide (x<((a:Nat):Int)))=0:=by
    rw [List.countP_eq_zero];intro x hx;obtain ⟨y,hy,rfl⟩:=List.mem_map.1 hx;have:=hs.1 y hy;simp;omega
   rw [this];simp
  ·have hm:p∈l:=by
    rcases List.mem_cons.1 h with h | h
    ·exact absurd h.symm e
    ·exact h
   have hlt:=hs.1 p hm;rw [asc_count hs.2 hm,List.idxOf_cons,if_pos (by simp; omega)]
   have:(a == p)=false:=by simpa using e
   rw [this]; rfl
theorem ofN_contains {l:List Nat} {p:Nat}:(Ma.ofN l).contains ((p:Nat):Int)=decide (p∈l):=by
 rw [Bool.eq_iff_iff,List.contains_iff_mem,decide_eq_true_iff]
 constructor
 ·intro h
  obtain ⟨y,hy,e⟩:=List.mem_map.1 h
  have:y=p:=by omega
  exact this▸hy
 ·intro h
  exact List.mem_map.2 ⟨p,h,rfl⟩
theorem asc_le {l:List Nat} (h:l.Pairwise (· < ·)):(Ma.ofN l).Pairwise (·≤·):=by
 unfold Ma.ofN;rw [List.pairwise_map];exact h.imp (fun {a b} h=>by omega)
def siC (n:Nat) (O:List (List Nat)) (R:List (List (List Nat))) (x:List Nat):Nat × List Nat:=sfP n (trC O R) n x
theorem siC_le {n:Nat} {O:List (List Nat)} {R:List (List (List Nat))} (x:List Nat):(siC n O R x).1≤n:=by
 have key:∀ d x,(sfP n (trC O R) d x).1≤n:=by
  intro d
  induction d with
  | zero=>intro x; exact Nat.le_refl _
  | succ d ih =>
   intro x
   show (match trC O R (n - (d+1)) (ap x (n - (d+1))) with | none=>(n - (d+1),x) | some u=>sfP n (trC O R) d (Ma.mulN x (Ma.invN u))).1≤n
   split
   ·exact Nat.sub_le _ _
   ·exact ih _
 exact key n x
end Go.Proofs.YthehbckogieimaaGreat
