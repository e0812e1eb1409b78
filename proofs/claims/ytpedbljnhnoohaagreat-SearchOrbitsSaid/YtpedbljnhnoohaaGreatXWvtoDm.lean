/- Lemmas and contracts on the way to the statement; no condition of their own beyond those written. -/
import Derived.Test.YtpedbljnhnoohaaGreatXVntoCu
import Derived.Lib.ConvBytes
import Derived.OrdersIn
import Derived.TacticsIn
import Derived.ChangeKeysEq
import Derived.Laws.Cells
import Derived.Laws.Rows
import Derived.Laws.Tables
import Derived.Deep.WholeRow
import Derived.Deep.LoopGhost
import Derived.Lib.SlicesSearch
import Derived.Shelf.SlSortCmp.Whole1
import Derived.Ground.SlsfProg
import Derived.Lib.SmallJoins
import Derived.Deep.Matrix
import Derived.Deep.Strs
set_option linter.unusedVariables false
set_option linter.unusedSimpArgs false
set_option maxRecDepth 100000
set_option maxHeartbeats 8000000
variable {w W w' W' w0 X:Go.World} {n B N L j d D tc base n₀ cap bytes tk:Nat} {v rv ov u z v1 v2 xv u1 u2 yv u3:Go.Value} {F M F' Fk:Nat->Prop} {ll OO PS:List (List Int)} {O gs T A:List (List Nat)} {R:List (List (List Nat))} {RR:List (List (List Int))} {H:List Nat->Prop} {q:List Nat} {xs:List Go.Value} {ck:Int} {xl:List Int}
namespace Go.Proofs.YtpedbljnhnoohaaGreat
open Go.Proofs
section
open Go.RowKit
open Go.Proofs.Ob
open Go.Shelf
open Go.Proofs.Cm (Lv aY bJ)
attribute [local go_sem] Oper.semAt_some
attribute [local irreducible] Go.Calls Go.wpList Go.wpListIn
theorem GN (args:Array Value) (w:World):(callFunc 74 args).run Tryz.prog w=.ok (.enter 74 args) w:=by kernel_rfl
theorem xe (args:Array Value) (w:World):(callFunc 68 args).run Tryz.prog w=.ok (.enter 68 args) w:=by kernel_rfl
theorem GP (args:Array Value) (w:World):(callFunc 69 args).run Tryz.prog w=.ok (.enter 69 args) w:=by kernel_rfl
theorem GW (args:Array Value) (w:World):(callFunc 70 args).run Tryz.prog w=.ok (.enter 70 args) w:=by kernel_rfl
theorem Ud (args:Array Value) (w:World):(callFunc 96 args).run Tryz.prog w=.ok (.enter 96 args) w:=by kernel_rfl
theorem xf:(Tryz.prog.info? 30).map (fun i=>(i.zero,i.size,i.bytes))=some (some (.int .i64 0),1,8):=by kernel_rfl
theorem rk {o:Oper} {a:Act} (ho:o.op=.alloc 30):(execOp a.eval o).run Tryz.prog w=.ok (.value (.pointer (some ⟨w.heap.size,0,none⟩))) (w.alloc (.cells #[.int .i64 0] 30)):=by
 obtain ⟨i0,hi,cN,bs,dI⟩:=info_parts xf;unfold execOp;simp [ho,Instr.alloc,typeInfo,zeroValue,hi,cN,newVar,Value.cells,Result.andThen];rfl
theorem mH {o:Oper} {a:Act} (ho:o.op=.alloc 3):(execOp a.eval o).run Tryz.prog w=.ok (.value (.pointer (some ⟨w.heap.size,0,none⟩))) (w.alloc (.cells #[.int .i64 0] 3)):=by
 obtain ⟨i0,hi,cN,bs,dI⟩:=info_parts sS;unfold execOp;simp [ho,Instr.alloc,typeInfo,zeroValue,hi,cN,newVar,Value.cells,Result.andThen];rfl
theorem lB {o:Oper} {a:Act} (ho:o.op=.alloc 41):(execOp a.eval o).run Tryz.prog w=.ok (.value (.pointer (some ⟨w.heap.size,0,none⟩))) (w.alloc (.cells #[.slice none 0 0] 41)):=by
 obtain ⟨i0,hi,cN,bs,dI⟩:=info_parts dF;unfold execOp;simp [ho,Instr.alloc,typeInfo,zeroValue,hi,cN,newVar,Value.cells,Result.andThen];rfl
theorem cP {b o:Nat} (v:Int) (h:w.cell? ⟨b,o,none⟩=some u) (hf:w.frozen? ⟨b,o,none⟩=false) :
  (storeVar 30 ⟨b,o,none⟩ (.int .i64 v)).run Tryz.prog w=.ok () (w.setCell ⟨b,o,none⟩ (.int .i64 v)):=by
 obtain ⟨i0,hi,cN,bs,dI⟩:=info_parts xf
 have h0:(⟨b,o,none⟩:Addr).add 0=⟨b,o,none⟩:=by simp [Addr.add]
 simp [storeVar,sizeOf,typeInfo,hi,bs,Value.cells,storeCells,store,h0];simp [Sem.run,h,hf]
theorem mI {ad:Addr} (h:w.cell? ad=some v):(loadVar 30 ad).run Tryz.prog w=.ok v w:=by
 simp [loadVar,isAgg,run_underlying Tryz.underlying30,load];simp [Sem.run,h]
theorem xg {fn:Func} {p:Go.Tmp} (h:fn.results=#[.cell p 30]) (tmps:Array Value) {b:Nat} (hp:tmps.getD p undef=.pointer (some ⟨b,0,none⟩)) (hc:w.cell? ⟨b,0,none⟩=some v) :
  (results fn tmps).run Tryz.prog w=.ok v w:=by
 have sR:tmps[p]?.getD undef=.pointer (some ⟨b,0,none⟩):=by simpa using hp
 simp [results,h,sR,asAddr,mI hc]
theorem aM {b:Nat} {x y:Value} (h0:w.cell? ⟨b,0,none⟩=some x) (h1:w.cell? ⟨b,1,none⟩=some y) (h2:w.cell? ⟨b,2,none⟩=some z):(loadVar 25 ⟨b,0,none⟩).run Tryz.prog w=.ok (.agg #[x,y,z]) w:=by
 obtain ⟨i0,hi,cN,bs,dI⟩:=info_parts fH
 have pY:(⟨b,0,none⟩:Addr).add 0=⟨b,0,none⟩:=by simp [Addr.add]
 have mr:(⟨b,0,none⟩:Addr).add 1=⟨b,1,none⟩:=by simp [Addr.add]
 have lS:(⟨b,0,none⟩:Addr).add 2=⟨b,2,none⟩:=by simp [Addr.add]
 have hg:(isAgg 25).run Tryz.prog w=.ok true w:=by kernel_rfl
 simp [loadVar,hg,sizeOf,typeInfo,hi,bs,loadCells,loadCellsFrom,load,pY,mr,lS];simp [Sem.run,h0,h1,h2]
structure CW (w:World) (b:Nat) (v:Value):Prop where
 c:w.cell? ⟨b,0,none⟩=some v
 f:w.frozen? ⟨b,0,none⟩=false
 lt:b<w.heap.size
theorem CW.jj {b:Nat} (h:CW w b v) (hb:Below w.heap.size w w'):CW w' b v:=⟨(hb.cell (p:=⟨b,0,none⟩) h.lt).trans h.c,(hb.frozen (p:=⟨b,0,none⟩) h.lt).trans h.f,Nat.lt_of_lt_of_le h.lt hb.size⟩
theorem CW.new (w:World) (v:Value) (t:TypeId):CW (w.alloc (.cells #[v] t)) w.heap.size v:=⟨by rw [Rg.aI]; rfl,cp _ _ _ 0 _,by simp⟩
theorem CW.set {b:Nat} (h:CW w b u) (v:Value):CW (w.setCell ⟨b,0,none⟩ v) b v:=⟨World.cell?_setCell_same (h:=h.c) ..,by rw [World.frozen?_setCell]; exact h.f,by simpa using h.lt⟩
theorem CW.other {b b' o:Nat} (h:CW w b u) (v:Value) (hne:b≠b'):CW (w.setCell ⟨b',o,none⟩ v) b u:=⟨by rw [World.cell?_setCell_other (h:=by intro e; injection e with e1 e2; omega) ..]; exact h.c,by rw [World.frozen?_setCell]; exact h.f,by simpa using h.lt⟩
theorem CL.other {b b' o o':Nat} (h:CL w b o' u) (v:Value) (hne:b≠b'):CL (w.setCell ⟨b',o,none⟩ v) b o' u:=⟨by rw [World.cell?_setCell_other (h:=by intro e; injection e with e1 e2; omega) ..]; exact h.cell,by simpa using h.lt⟩
theorem CW.kp {b:Nat} (h:CW w b v) (hk:Rg.Kp M w w') (hM:¬ M b):CW w' b v :=
 ⟨(World.cell?_of_block (a:=⟨b,0,none⟩) (hk.block b h.lt hM)).trans h.c,(World.frozen?_of_block (a:=⟨b,0,none⟩) (hk.block b h.lt hM)).trans h.f,Nat.lt_of_lt_of_le h.lt hk.size⟩
theorem CL.kp {b o:Nat} (h:CL w b o v) (hk:Rg.Kp M w w') (hM:¬ M b):CL w' b o v :=
 ⟨(World.cell?_of_block (a:=⟨b,o,none⟩) (hk.block b h.lt hM)).trans h.cell,Nat.lt_of_lt_of_le h.lt hk.size⟩
structure vh (w:World) (n:Int) (ov rv:Value) (W:World) (v:Value) (gs:List (List Nat)):Prop where
 bX:Below w.heap.size w W
 a0:CL W w.heap.size 0 (.int .i64 n)
 a1:CL W w.heap.size 1 ov
 a2:CL W w.heap.size 2 rv
 c2:CW W (w.heap.size+1) (.int .i64 0)
 c3:CW W (w.heap.size+2) (.int .i64 n)
 c4:CW W (w.heap.size+3) v
 row:eS (fun k=>k<w.heap.size) (w.heap.size+4) W v gs
theorem vh.jj {w:World} {n:Int} {ov rv:Value} {W W':World} {v:Value} {gs:List (List Nat)} (h:vh w n ov rv W v gs) (hb:Below W.heap.size W W'):vh w n ov rv W' v gs :=
 ⟨Rg.acc h.bX hb,h.a0.jj hb,h.a1.jj hb,h.a2.jj hb,h.c2.jj hb,h.c3.jj hb,h.c4.jj hb,h.row.jj hb⟩
theorem vh.keep {n:Int} {row:Option Nat} (h:vh w n ov rv W v gs) (hB:w.heap.size+4<=B) (hg:W.grownBy W' row) (hr:∀ r,row=some r->B<=r/\∃ o:Obj,W.heap[r]?=some o/\o.isCells=false):vh w n ov rv W' v gs:=by
 have hk:Rg.Kp (fun k=>row=some k) W W':=Rg.Kp.cE hg fun _ e=>e
 have hM:∀ b,b<B->¬ row=some b:=fun b hb e=>by have:=(hr b e).1; omega
 obtain ⟨us,h1,h2⟩:=h.row.own;refine ⟨h.bX.grown hg h.bX.size (fun k e=>by have:=(hr k e).1; omega),h.a0.kp hk (hM _ (by omega)),h.a1.kp hk (hM _ (by omega)),h.a2.kp hk (hM _ (by omega)),h.c2.kp hk (hM _ (by omega)),h.c3.kp hk (hM _ (by omega)),h.c4.kp hk (hM _ (by omega)),⟨Nat.le_trans h.row.size hk.size,us,fD h1 hk (fun k e1 e2=>?_),h2.kp hk (fun k cO=>hM k (by omega))⟩⟩;obtain ⟨_,o,ho,hc⟩:=hr k e1;obtain ⟨_,h3⟩:=h1
 rcases h3 with ⟨h4,_⟩ | ⟨g,cap,cur,h4,_,h5,_⟩
 ·rw [h4] at e2; simp [Value.ownBlock] at e2
 ·rw [h4] at e2
  simp [Value.ownBlock] at e2;subst e2;rw [h5] at ho
  cases ho; cases hc
def rowOf (RR:List (List (List Int))) {m:Nat} (x:Fin m):List (List Int):=RR.getD x.1 []
theorem CW.upto {b:Nat} (h:CW w b v) (hb:Below B w w') (hB:b<B):CW w' b v:=⟨(hb.cell (p:=⟨b,0,none⟩) hB).trans h.c,(hb.frozen (p:=⟨b,0,none⟩) hB).trans h.f,Nat.lt_of_lt_of_le h.lt hb.size⟩
theorem CL.upto {b o:Nat} (h:CL w b o v) (hb:Below B w w') (hB:b<B):CL w' b o v:=⟨(hb.cell (p:=⟨b,o,none⟩) hB).trans h.cell,Nat.lt_of_lt_of_le h.lt hb.size⟩
theorem bg.mk (h1:Rg.Rows w ov OO) (h2:fI w rv RR):bg w ov rv OO RR:=⟨h1,h2⟩
theorem bg.upto (h:bg w ov rv OO RR) (hb:Below w.heap.size w w'):bg w' ov rv OO RR:=h.jj hb
theorem _root_.Go.Proofs.RF.ef.jj (h:RF.ef D W) (hb:Below W.heap.size W W'):RF.ef D W':=h.mF hb
theorem KK.jj {qf:World} (h:KK B n₀ W W') (hb:Below W'.heap.size W' qf):KK B n₀ W qf:=h.acc hb
theorem Kq {n m:Int} {yY Be:Value} {DO:List (List Int)} {DP:List (List (List Int))} (h1:bg w ov rv OO RR) (h2:bg w yY Be DO DP) {b:Bool} (hb:Hid (decide (n=m/\OO=DO/\RR=DP)=b)) :
  Calls Tryz.prog 96 #[.agg #[.int .i64 n,ov,rv],.agg #[.int .i64 m,yY,Be]] w fun e w'=>e=.returned (.bool b)/\Below w.heap.size w w':=by
 rw [<- hb.p]; exact DN h1 h2
theorem vh.store {n:Int} {v':Value} {gs':List (List Nat)} (h:vh w n ov rv W v gs) (hb:Below (w.heap.size+4) W X) (hr:eS (fun k=>k<w.heap.size) (w.heap.size+4) X v' gs'):vh w n ov rv (X.setCell ⟨w.heap.size+3,0,none⟩ v') v' gs':=by
 have hk:Rg.Kp (fun z=>z=w.heap.size+3) X (X.setCell ⟨w.heap.size+3,0,none⟩ v'):=Rg.Kp.aL rfl;obtain ⟨us,q1,q2⟩:=hr.own;refine ⟨(h.bX.trans (hb.mono (by omega))).setCell (p:=⟨w.heap.size+3,0,none⟩) (by show w.heap.size<=w.heap.size+3; omega) _,(h.a0.upto hb (by omega)).other _ (by omega),(h.a1.upto hb (by omega)).other _ (by omega),(h.a2.upto hb (by omega)).other _ (by omega),(h.c2.upto hb (by omega)).other _ (by omega),(h.c3.upto hb (by omega)).other _ (by omega),(h.c4.upto hb (by omega)).set _,⟨Nat.le_trans hr.size hk.size,us,fD q1 hk (fun k e1 e2=>by have:=(q1.lt k e2).1; omega),q2.kp hk (fun k cO e=>by omega)⟩⟩
theorem KK.row {W1:World} {B2:Nat} (h:KK B n₀ W W1) (hk:Rg.Kp (fun k=>v.ownBlock=some k) W1 X) (hr:eS F B2 W1 v gs) (hn:n₀<=B2):KK B n₀ W X:=by
 obtain ⟨us,q1,q2⟩:=hr.own
 have Qv:∀ j o,v.ownBlock=some j->W1.heap[j]?=some o->o.isCells=true:=fun j o e1 e2=>by
  obtain ⟨_,h3⟩:=q1
  rcases h3 with ⟨h4,_⟩ | ⟨g,cap,cur,h4,_,h5,_⟩
  ·rw [h4] at e1; simp [Value.ownBlock] at e1
  ·rw [h4] at e1
   simp [Value.ownBlock] at e1;subst e1;rw [h5] at e2
   cases e2; rfl
 refine ⟨h.keeps.trans ⟨hk.size,fun k o _ cO ho=>(hk.block k (Array.getElem?_eq_some_iff.1 cO).1 (fun e=>by rw [Qv k o e cO] at ho; cases ho)).trans cO⟩,h.bX.trans ⟨hk.os,hk.tape,hk.output,hk.size,fun k cO=>hk.block k (by have:=h.bX.size; have:=h.le; omega) (fun e=>by have:=(q1.lt k e).1; omega)⟩,h.le⟩
theorem DT:(dD RR.length RR.length).flatMap (rowOf RR)=RR.flatten:=by
 rw [GH];rw [List.flatMap_def]
 congr 1
 refine List.ext_getElem (by simp) fun i h1 h2=>?_;simp only [List.getElem_map,List.getElem_finRange];exact df h2
def I6 (n:Int) (OO:List (List Int)) (RR:List (List (List Int))) (w:World) (e:Ending) (w':World):Prop:=∃ c,e=.returned (.int .i64 c)/\mG n OO RR c/\Below w.heap.size w w'
theorem jn {n:Int} {tmps:Array Value} {c:Int} {ds:List Nat} (hb:Below w.heap.size w W) (hc:CW W (w.heap.size+1) (.int .i64 c)) (hC:mG n OO RR c) (hp:tmps.getD 2 undef=.pointer (some ⟨w.heap.size+1,0,none⟩)) (hnd:ds.Nodup) (hD:∀ D,D∈ds->RF.ef D W/\w.heap.size<=D) :
  LeavesInM Fence.wide 0 Tryz.prog Tryz.f73 tmps (I6 n OO RR w) (ds.map RF.mark) .returning W :=
 RF.leaves w.heap.size ds W hnd hD fun _ l1 l2 _=>⟨_,xg rfl _ hp ((l2 _).trans hc.c),c,rfl,hC,hb.trans l1⟩
theorem Bh {n:Int} (h:bg w ov rv OO RR) :
  Calls Tryz.prog 73 #[.agg #[.int .i64 n,ov,rv]] w (I6 n OO RR w):=by
 obtain ⟨oa,oc,rfl,_,Ue,_,_⟩:=h.1.shape;obtain ⟨ra,rc,rfl⟩:=h.2.shape;have HO:=U h.1;have HR:=U h.2;have K:=U (Below.refl w.heap.size w)
 have hrL:RR.length<=1000000000:=by
  obtain ⟨us,⟨a,c,e,_,_,e2,_⟩,h2,_⟩:=h.2;unfold Rg.uL at e2;omega
 have H:=U h;clear h;refine RF.fX Tryz.func73 rfl ?_;simp only [Tryz.ntmps73,List.size_toArray,List.length_cons,List.length_nil,Nat.reduceAdd,Nat.reduceSub,Array.replicate_succ,Array.replicate_zero,List.push_toArray,List.append_toArray,List.nil_append,List.cons_append];have aQ:=gR w (.int .i64 n) (.slice oa OO.length oc) (.slice ra RR.length rc)
 have hs:(w.alloc (.cells #[.int .i64 n,.slice oa OO.length oc,.slice ra RR.length rc] 25)).heap.size=w.heap.size+1:=by simp
 go_upto_region 0 with (fail);refine d3 ?_;refine d4 1 (Rg.bq _ _ rfl rfl) ?_;go_frame;have hb:Below w.heap.size w (w.alloc (.cells #[.int .i64 n,.slice oa OO.length oc,.slice ra RR.length rc] 25)):=(Below.refl _ _).alloc (Nat.le_refl _) _;generalize w.alloc (.cells #[.int .i64 n,.slice oa OO.length oc,.slice ra RR.length rc] 25)=w1 at *;have A0:=U aQ.1;have A1:=U aQ.2.1;have A2:=U aQ.2.2;replace K:=U hb;have mq:w1.heap.size=w.heap.size+1:=hs;clear aQ hb hs;have cD:=CW.new w1 (.int .i64 0) 30
 have hs:(w1.alloc (.cells #[.int .i64 0] 30)).heap.size=w1.heap.size+1:=by simp
 refine d4 2 (rk rfl) ?_;go_frame;have hb:=(Below.refl w1.heap.size w1).alloc (Nat.le_refl _) (.cells #[.int .i64 0] 30);generalize w1.alloc (.cells #[.int .i64 0] 30)=w2 at *;replace A0:=U (A0.p.jj hb);replace A1:=U (A1.p.jj hb);replace A2:=U (A2.p.jj hb);replace K:=U (Rg.acc K.p hb);clear hb;rw [mq] at cD ⊢
 have iD:w2.heap.size=w.heap.size+2:=by omega
 have C2:=U cD;clear cD hs;go_upto_region 1 with (fail);refine d3 ?_;refine d4 9 (af _ rfl rfl (gP _ _)) ?_;go_frame;refine d4 10 (g8 (.int .i64 n) ⟨w.heap.size,0,none⟩ (ah A0.p.cell)) ?_;go_frame;have cD:=CW.new w2 (.int .i64 0) 3
 have hs:(w2.alloc (.cells #[.int .i64 0] 3)).heap.size=w2.heap.size+1:=by simp
 refine d4 3 (mH rfl) ?_;go_frame;have hb:=(Below.refl w2.heap.size w2).alloc (Nat.le_refl _) (.cells #[.int .i64 0] 3);generalize w2.alloc (.cells #[.int .i64 0] 3)=w3 at *;replace A0:=U (A0.p.jj hb);replace A1:=U (A1.p.jj hb);replace A2:=U (A2.p.jj hb);replace C2:=U (C2.p.jj hb);replace K:=U (Rg.acc K.p hb);clear hb;rw [iD] at cD ⊢
 have Bi:w3.heap.size=w.heap.size+3:=by omega
 have C3:=U cD;clear cD hs;refine Rg.aD none rfl rfl (Rg.ai _ _ _ rfl _ rfl _ rfl (bI n C3.p.c C3.p.f)) ?_;go_frame;have hk:=K.p.setCell (p:=⟨w.heap.size+2,0,none⟩) (by show w.heap.size<=w.heap.size+2; omega) (.int .i64 n);have x0:=A0.p.other (o:=0) (b':=w.heap.size+2) (.int .i64 n) (by omega);have x1:=A1.p.other (o:=0) (b':=w.heap.size+2) (.int .i64 n) (by omega);have x2:=A2.p.other (o:=0) (b':=w.heap.size+2) (.int .i64 n) (by omega);have y2:=C2.p.other (o:=0) (b':=w.heap.size+2) (.int .i64 n) (by omega);have y3:=C3.p.set (.int .i64 n)
 have M7:(w3.setCell ⟨w.heap.size+2,0,none⟩ (.int .i64 n)).heap.size=w.heap.size+3:=by simp; omega
 generalize w3.setCell ⟨w.heap.size+2,0,none⟩ (.int .i64 n)=w9 at *;replace K:=U hk;replace A0:=U x0;replace A1:=U x1;replace A2:=U x2;replace C2:=U y2;replace C3:=U y3;clear hk x0 x1 x2 y2 y3
 by_cases iG:n<1
 ·skip
  go_upto_region 2 with (fail);refine d3 ?_;refine d4 11 (g8 (.int .i64 n) ⟨(w.heap.size+2),0,none⟩ (ah C3.p.c)) ?_;go_frame;refine d4 12 (g9 (.bool true) .lss (h:=aP _ f8)) ?_;go_frame;refine d5 13 (.bool true) ?_;go_frame;refine g7 14 ?_;go_frame;refine g7 15 ?_;go_frame;refine d4 16 (i5 (.bool true)) ?_;go_frame;go_upto_region 3 with (fail);refine d3 ?_;refine Rg.aD none rfl rfl (Rg.ai _ _ _ rfl _ rfl _ rfl (cP 2 C2.p.c C2.p.f)) ?_;go_frame;have hk:=K.p.setCell (p:=⟨w.heap.size+1,0,none⟩) (by show w.heap.size<=w.heap.size+1; omega) (.int .i64 2);have y2:=C2.p.set (.int .i64 2);generalize w9.setCell ⟨w.heap.size+1,0,none⟩ (.int .i64 2)=dT at *;have KX:=U hk;have CX:=U y2;have xh:=U (show mG n OO RR 2 from .inl ⟨by omega,rfl⟩);clear hk y2;go_wp2;exact jn (ds:=[]) KX.p CX.p xh.p rfl (by simp) (fun D hD=>by simp at hD)
 by_cases oz:64<n
 ·skip
  go_upto_region 2 with (fail);refine d3 ?_;refine d4 11 (g8 (.int .i64 n) ⟨(w.heap.size+2),0,none⟩ (ah C3.p.c)) ?_;go_frame;refine d4 12 (g9 (.bool false) .lss (h:=aP _ f9)) ?_;go_frame;refine d5 13 (.bool false) ?_;go_frame;refine d9 14 (g8 (.int .i64 n) ⟨(w.heap.size+2),0,none⟩ (ah C3.p.c)) ?_;go_frame;refine d9 15 (g9 (.bool true) .gtr (h:=dV _ f8)) ?_;go_frame;refine d4 16 (i4 (.bool true)) ?_;go_frame;go_upto_region 3 with (fail);refine d3 ?_;refine Rg.aD none rfl rfl (Rg.ai _ _ _ rfl _ rfl _ rfl (cP 2 C2.p.c C2.p.f)) ?_;go_frame;have hk:=K.p.setCell (p:=⟨w.heap.size+1,0,none⟩) (by show w.heap.size<=w.heap.size+1; omega) (.int .i64 2);have y2:=C2.p.set (.int .i64 2);generalize w9.setCell ⟨w.heap.size+1,0,none⟩ (.int .i64 2)=dT at *;have KX:=U hk;have CX:=U y2
  have xh:=U (show mG n OO RR 2 from .inl ⟨by omega,rfl⟩);clear hk y2;go_wp2;exact jn (ds:=[]) KX.p CX.p xh.p rfl (by simp) (fun D hD=>by simp at hD)
 go_upto_region 2 with (fail);refine d3 ?_;refine d4 11 (g8 (.int .i64 n) ⟨(w.heap.size+2),0,none⟩ (ah C3.p.c)) ?_;go_frame;refine d4 12 (g9 (.bool false) .lss (h:=aP _ f9)) ?_;go_frame;refine d5 13 (.bool false) ?_;go_frame;refine d9 14 (g8 (.int .i64 n) ⟨(w.heap.size+2),0,none⟩ (ah C3.p.c)) ?_;go_frame;refine d9 15 (g9 (.bool false) .gtr (h:=dV _ f9)) ?_;go_frame;refine d4 16 (i4 (.bool false)) ?_;go_frame
 by_cases lr:(OO.length:Int)=n
 case neg =>
  skip
  go_upto_region 4 with (fail);refine d3 ?_;refine d4 17 (af _ rfl rfl (gQ _ _)) ?_;go_frame;refine d4 18 (g8 (.slice oa OO.length oc) ⟨w.heap.size,1,none⟩ (Rg.ae _ _ Tryz.underlying22 A1.p.cell)) ?_;go_frame;refine d4 19 (i3 Tryz.underlying22) ?_;go_frame;refine d4 20 (g8 (.int .i64 n) ⟨(w.heap.size+2),0,none⟩ (ah C3.p.c)) ?_;go_frame;refine d4 21 (g9 (.bool true) .neq (h:=aU _ f8)) ?_;go_frame;refine d5 22 (.bool true) ?_;go_frame;refine g7 23 ?_;go_frame;refine g7 24 ?_;go_frame;refine g7 25 ?_;go_frame;refine g7 26 ?_;go_frame;refine g7 27 ?_;go_frame;refine d4 28 (i5 (.bool true)) ?_;go_frame;go_upto_region 5 with (fail);refine d3 ?_;refine Rg.aD none rfl rfl (Rg.ai _ _ _ rfl _ rfl _ rfl (cP 3 C2.p.c C2.p.f)) ?_;go_frame;have hk:=K.p.setCell (p:=⟨w.heap.size+1,0,none⟩) (by show w.heap.size<=w.heap.size+1; omega) (.int .i64 3)
  have y2:=C2.p.set (.int .i64 3);generalize w9.setCell ⟨w.heap.size+1,0,none⟩ (.int .i64 3)=dT at *;have KX:=U hk;have CX:=U y2;have xh:=U (show mG n OO RR 3 from .inr ⟨by omega,.inr ⟨fun hh=>lr hh.lens.1,rfl⟩⟩);clear hk y2;go_wp2;exact jn (ds:=[]) KX.p CX.p xh.p rfl (by simp) (fun D hD=>by simp at hD)
 by_cases v8:(RR.length:Int)=n
 case neg =>
  skip
  go_upto_region 4 with (fail);refine d3 ?_;refine d4 17 (af _ rfl rfl (gQ _ _)) ?_;go_frame;refine d4 18 (g8 (.slice oa OO.length oc) ⟨w.heap.size,1,none⟩ (Rg.ae _ _ Tryz.underlying22 A1.p.cell)) ?_;go_frame;refine d4 19 (i3 Tryz.underlying22) ?_;go_frame;refine d4 20 (g8 (.int .i64 n) ⟨(w.heap.size+2),0,none⟩ (ah C3.p.c)) ?_;go_frame;refine d4 21 (g9 (.bool false) .neq (h:=aU _ f9)) ?_;go_frame;refine d5 22 (.bool false) ?_;go_frame;refine d9 23 (af _ rfl rfl (wQ _ _)) ?_;go_frame;refine d9 24 (g8 (.slice ra RR.length rc) ⟨w.heap.size,2,none⟩ (Rg.ae _ _ Tryz.underlying23 A2.p.cell)) ?_;go_frame;refine d9 25 (i3 Tryz.underlying23) ?_;go_frame;refine d9 26 (g8 (.int .i64 n) ⟨(w.heap.size+2),0,none⟩ (ah C3.p.c)) ?_;go_frame;refine d9 27 (g9 (.bool true) .neq (h:=aU _ f8)) ?_;go_frame
  refine d4 28 (i4 (.bool true)) ?_;go_frame;go_upto_region 5 with (fail);refine d3 ?_;refine Rg.aD none rfl rfl (Rg.ai _ _ _ rfl _ rfl _ rfl (cP 3 C2.p.c C2.p.f)) ?_;go_frame;have hk:=K.p.setCell (p:=⟨w.heap.size+1,0,none⟩) (by show w.heap.size<=w.heap.size+1; omega) (.int .i64 3);have y2:=C2.p.set (.int .i64 3);generalize w9.setCell ⟨w.heap.size+1,0,none⟩ (.int .i64 3)=dT at *;have KX:=U hk;have CX:=U y2;have xh:=U (show mG n OO RR 3 from .inr ⟨by omega,.inr ⟨fun hh=>v8 hh.lens.2,rfl⟩⟩);clear hk y2;go_wp2;exact jn (ds:=[]) KX.p CX.p xh.p rfl (by simp) (fun D hD=>by simp at hD)
 go_upto_region 4 with (fail);refine d3 ?_;refine d4 17 (af _ rfl rfl (gQ _ _)) ?_;go_frame;refine d4 18 (g8 (.slice oa OO.length oc) ⟨w.heap.size,1,none⟩ (Rg.ae _ _ Tryz.underlying22 A1.p.cell)) ?_;go_frame;refine d4 19 (i3 Tryz.underlying22) ?_;go_frame;refine d4 20 (g8 (.int .i64 n) ⟨(w.heap.size+2),0,none⟩ (ah C3.p.c)) ?_;go_frame;refine d4 21 (g9 (.bool false) .neq (h:=aU _ f9)) ?_;go_frame;refine d5 22 (.bool false) ?_;go_frame;refine d9 23 (af _ rfl rfl (wQ _ _)) ?_;go_frame;refine d9 24 (g8 (.slice ra RR.length rc) ⟨w.heap.size,2,none⟩ (Rg.ae _ _ Tryz.underlying23 A2.p.cell)) ?_;go_frame;refine d9 25 (i3 Tryz.underlying23) ?_;go_frame;refine d9 26 (g8 (.int .i64 n) ⟨(w.heap.size+2),0,none⟩ (ah C3.p.c)) ?_;go_frame;refine d9 27 (g9 (.bool false) .neq (h:=aU _ f9)) ?_;go_frame
 refine d4 28 (i4 (.bool false)) ?_;go_frame;obtain ⟨N,rfl⟩:∃ N:Nat,n=N:=⟨n.toNat,by omega⟩
 have eZ:1<=N:=by omega
 have DU:N<=64:=by omega
 have Kr:=U (show OO.length=N by omega);have rm:=U (show RR.length=N by omega);clear lr v8 iG oz;go_upto_region 6 with (fail);refine d3 ?_;have cD:=CW.new w9 (.slice none 0 0) 41
 have hs:(w9.alloc (.cells #[.slice none 0 0] 41)).heap.size=w9.heap.size+1:=by simp
 refine d4 4 (lB rfl) ?_;go_frame;have hb:=(Below.refl w9.heap.size w9).alloc (Nat.le_refl _) (.cells #[.slice none 0 0] 41);generalize w9.alloc (.cells #[.slice none 0 0] 41)=Ks at *;replace A0:=U (A0.p.jj hb);replace A1:=U (A1.p.jj hb);replace A2:=U (A2.p.jj hb);replace C2:=U (C2.p.jj hb);replace C3:=U (C3.p.jj hb);replace K:=U (Rg.acc K.p hb);clear hb;rw [M7] at cD ⊢
 have Xy:Ks.heap.size=w.heap.size+4:=by omega
 have C4:=U cD;clear cD hs;have CI:=U (show vh w ((N:Nat):Int) (.slice oa OO.length oc) (.slice ra RR.length rc) Ks (.slice none 0 0) [] from ⟨K.p,A0.p,A1.p,A2.p,C2.p,C3.p,C4.p,eS.nil _ (by omega)⟩);have xi:=U Xy;clear A0 A1 A2 C2 C3 C4 mq iD Bi M7 Xy;go_upto_region 7 with (fail);refine d3 ?_;refine d4 29 (g8 ((.agg #[.int .i64 ((N:Nat):Int),.slice oa OO.length oc,.slice ra RR.length rc])) ⟨w.heap.size,0,none⟩ (aM CI.p.a0.cell CI.p.a1.cell CI.p.a2.cell)) ?_;go_frame;refine f7 30 (aF 74 _ _ rfl rfl (GN _ _)) ?_;refine (tE _ _ _ Ks).mono ?_;rintro e1 nB ⟨fb,rfl,lA,hb⟩;have dR:=hb.size;refine ⟨_,rfl,?_⟩;go_frame;replace CI:=U (CI.p.jj hb);replace K:=U (Rg.acc K.p hb);clear hb;have FB:=U lA;clear lA;have lW:=U (show w.heap.size+4<=nB.heap.size by have:=xi.p; omega)
 clear dR;obtain ⟨us,uM,xj,DV⟩:=HR.p;have M8:=U DV
 have DW:Bg w.heap.size nB ra RR.length (fun k=>us[k]?.getD undef):=by
  obtain ⟨a',c',e,q1,q2,q3,q4⟩:=uM
  injection e with e1 e2 e3
  refine ⟨by omega,fun h0=>?_,fun b off e5 j hj=>?_,K.p.size⟩
  ·obtain ⟨b,o,e4,e5,_⟩:=q4 (by omega)
   exact ⟨b,o,e1.trans e4,e5⟩
  ·obtain ⟨b',o',e4,e6,e7⟩:=q4 (by omega)
   rw [e1,e4] at e5;simp only [Option.some.injEq,Addr.mk.injEq,and_true] at e5;obtain ⟨rfl,rfl⟩:=e5;rw [(K.p.cell (p:=⟨b',o'+j,none⟩) e6)];show _=some (us[j]?.getD undef);rw [List.getElem?_eq_getElem (by omega)];exact e7 j (by omega)
 have xk:=U DW;have xn:=U xj;clear uM DW xj DV;go_wp2
 refine uA rfl FB.p xk.p rfl (fun pre W=>∃ v gs,vh w ((N:Nat):Int) (.slice oa OO.length oc) (.slice ra RR.length rc) W v gs/\gs.map Ma.ag=pre.flatMap (rowOf RR)/\(∀ g∈gs,Cm.Gd N g)/\gs.length<=64*pre.length)
  (fun c pre W=>c=.ret/\Below w.heap.size w W/\CW W (w.heap.size+1) (.int .i64 3)/\¬ fK ((N:Nat):Int) OO RR) ?hI ?hIx ⟨_,[],CI.p,rfl,fun g hg=>by simp at hg,Nat.zero_le _⟩ ?a1 ?assign ?body ?done ?stop
 case assign =>
  intro l x W K hK
  gi_wp2
  exact hK
 case hI =>
  rintro pre W W' row ⟨v,gs,h1,h2⟩ hg hr;exact ⟨v,gs,h1.keep (by have:=lW.p; omega) hg hr,h2⟩
 case hIx =>
  rintro c pre W W' row ⟨rfl,h1,h2,h3⟩ hg hr;exact ⟨rfl,h1.grown hg h1.size (fun k e=>by have:=(hr k e).1; have:=lW.p; omega),h2.kp (Rg.Kp.cE hg (M:=fun k=>row=some k) fun _ e=>e) (fun e=>by have:=(hr _ e).1; have:=lW.p; omega),h3⟩
 case body =>
  rintro l pre ⟨X,hX⟩ W ⟨v,gs,xp,vk,uQ,gD⟩ Xz;obtain ⟨B,hB⟩:∃ B,nB.heap.size=B:=⟨_,rfl⟩;rw [hB] at lW ⊢;clear FB xk CI K hB;have CI:=U xp;have K:=U xp.bX;have KQ:=U (KK.refl (B:=B) (n₀:=w.heap.size) (W:=W) xp.bX.size);have M9:=U vk;have yZ:=U uQ
  have XA:=U (show gs.length<=64*64 by
   have:pre.length<64:=by have:=rm.p; omega
   omega)
  have qo:=U hX;have XB:=U gD;have qp:=U (show X<OO.length by have:=Kr.p; have:=rm.p; omega);clear xp vk uQ gD;have hu:=M8.p X (by rw [xn.p]; exact hX) hX
  have e1:us[X]?.getD undef=us[X]'(by rw [xn.p]; exact hX):=by rw [List.getElem?_eq_getElem (by rw [xn.p]; exact hX)]; rfl
  rw [<- e1] at hu
  dsimp only
  generalize us[X]?.getD undef=u at *;clear e1;obtain ⟨r,hr⟩:∃ r:List (List Int),Hid (RR[X]'hX=r):=⟨_,U rfl⟩
  replace hu:Rg.Rows w u r:=by rw [<- hr.p]; exact hu
  obtain ⟨ua,uc,rfl,_,rq,_,DY⟩:=hu.shape;have Uf:=U DY;obtain ⟨o',TE⟩:∃ o:List Int,Hid (OO[X]'qp.p=o):=⟨_,U rfl⟩;have pD:=HO.p.shape;obtain ⟨oa',XC,e2,_,_,_,pD⟩:=pD
  injection e2 with e3 _ e5
  subst e3 e5;obtain ⟨ob,oo,rfl,AV,pD⟩:=pD (by have:=qp.p; omega);obtain ⟨yv,Kt,Bj⟩:=pD X qp.p;rw [show OO[X]=o' from TE.p] at Bj;obtain ⟨ya,yc,rfl,_⟩:=Bj.shape;have CO:=U (CL.mk Kt AV);clear DY pD Kt Bj AV hu
  by_cases Qo:(r.length:Int)=(o'.length:Int)
  case neg =>
   skip
   gi_upto_region 10 with (fail)
   refine wpIn_region_list ?_;refine Rg.ax (some 33) rfl rfl (fun _ hh=>by cases hh) (a7 (.slice ua r.length uc) _ rfl rfl) ?_;go_frame;refine Rg.ax (some 34) rfl rfl (fun _ hh=>by cases hh) (i3 Tryz.underlying41) ?_;go_frame;refine Rg.ax (some 35) rfl rfl (fun _ hh=>by cases hh) (af _ rfl rfl (gQ _ _)) ?_;go_frame;refine Rg.ax (some 36) rfl rfl (fun _ hh=>by cases hh) (g8 (.slice (some ⟨ob,oo,none⟩) OO.length oc) ⟨w.heap.size,1,none⟩ (Rg.ae _ _ Tryz.underlying22 CI.p.a1.cell)) ?_;go_frame;refine Rg.ax (some 37) rfl rfl (fun _ hh=>by cases hh) (a7 (.int .i64 ((X:Nat):Int)) _ rfl rfl) ?_;go_frame;refine Rg.ax (some 38) rfl rfl (fun _ hh=>by cases hh) (aB bU _ _ rfl ob (oo) (OO.length) oc (X) rfl rfl qp.p) ?_;go_frame;refine Rg.ax (some 39) rfl rfl (fun _ hh=>by cases hh) (g8 (.slice ya o'.length yc) ⟨ob,oo+X,none⟩ (Rg.ae _ _ Tryz.underlying26 ((Below.cell (p:=⟨ob,oo+X,none⟩) K.p CO.p.lt).trans CO.p.cell))) ?_;go_frame
   refine Rg.ax (some 40) rfl rfl (fun _ hh=>by cases hh) (i3 Tryz.underlying26) ?_;go_frame;refine Rg.ax (some 41) rfl rfl (fun _ hh=>by cases hh) (g9 (.bool true) .neq (h:=aU _ f8)) ?_;go_frame;refine Rg.ax (some 42) rfl rfl (fun _ hh=>by cases hh) (a7 (.bool true) _ rfl rfl) ?_;go_frame;refine Rg.fW (some 43) (by kernel_rfl) rfl ?_;go_frame;refine Rg.fW (some 44) (by kernel_rfl) rfl ?_;go_frame;refine Rg.fW (some 45) (by kernel_rfl) rfl ?_;go_frame;refine Rg.fW (some 46) (by kernel_rfl) rfl ?_;go_frame;refine Rg.fW (some 47) (by kernel_rfl) rfl ?_;go_frame;refine Rg.fW (some 48) (by kernel_rfl) rfl ?_;go_frame;refine Rg.ax (some 49) rfl rfl (fun _ hh=>by cases hh) (i5 (.bool true)) ?_;go_frame
   gi_upto_region 11 with (fail)
   refine wpIn_region_list ?_;refine Rg.fJ none rfl rfl (fun _ hh=>by cases hh) (Rg.ai _ _ _ rfl _ rfl _ rfl (cP 3 CI.p.c2.c CI.p.c2.f)) ?_;go_frame;have hk:=K.p.setCell (p:=⟨w.heap.size+1,0,none⟩) (by show w.heap.size<=w.heap.size+1; omega) (.int .i64 3);have y2:=CI.p.c2.set (.int .i64 3);have hq:=KQ.p.set (b:=w.heap.size+1) (o:=0) (.int .i64 3) (by omega);generalize W.setCell ⟨w.heap.size+1,0,none⟩ (.int .i64 3)=dT at *;have KX:=U hk;have CX:=U y2;have QX:=U hq;have GZ:=U (show ¬ fK ((N:Nat):Int) OO RR from fun hh=>by have:=(hh.row qo.p qp.p).1; rw [show RR[X]=r from hr.p,show OO[X]=o' from TE.p] at this; omega);clear hk y2 hq
   gi_wp2
   exact ⟨QX.p.keeps,rfl,KX.p,CX.p,GZ.p⟩
  by_cases wR:(N:Int) - (X:Int)<(r.length:Int)
  case pos =>
   skip
   gi_upto_region 10 with (fail)
   refine wpIn_region_list ?_;refine Rg.ax (some 33) rfl rfl (fun _ hh=>by cases hh) (a7 (.slice ua r.length uc) _ rfl rfl) ?_;go_frame;refine Rg.ax (some 34) rfl rfl (fun _ hh=>by cases hh) (i3 Tryz.underlying41) ?_;go_frame;refine Rg.ax (some 35) rfl rfl (fun _ hh=>by cases hh) (af _ rfl rfl (gQ _ _)) ?_;go_frame;refine Rg.ax (some 36) rfl rfl (fun _ hh=>by cases hh) (g8 (.slice (some ⟨ob,oo,none⟩) OO.length oc) ⟨w.heap.size,1,none⟩ (Rg.ae _ _ Tryz.underlying22 CI.p.a1.cell)) ?_;go_frame;refine Rg.ax (some 37) rfl rfl (fun _ hh=>by cases hh) (a7 (.int .i64 ((X:Nat):Int)) _ rfl rfl) ?_;go_frame;refine Rg.ax (some 38) rfl rfl (fun _ hh=>by cases hh) (aB bU _ _ rfl ob (oo) (OO.length) oc (X) rfl rfl qp.p) ?_;go_frame;refine Rg.ax (some 39) rfl rfl (fun _ hh=>by cases hh) (g8 (.slice ya o'.length yc) ⟨ob,oo+X,none⟩ (Rg.ae _ _ Tryz.underlying26 ((Below.cell (p:=⟨ob,oo+X,none⟩) K.p CO.p.lt).trans CO.p.cell))) ?_;go_frame
   refine Rg.ax (some 40) rfl rfl (fun _ hh=>by cases hh) (i3 Tryz.underlying26) ?_;go_frame;refine Rg.ax (some 41) rfl rfl (fun _ hh=>by cases hh) (g9 (.bool false) .neq (h:=aU _ f9)) ?_;go_frame;refine Rg.ax (some 42) rfl rfl (fun _ hh=>by cases hh) (a7 (.bool false) _ rfl rfl) ?_;go_frame;refine Rg.dz (some 43) rfl rfl (fun _ hh=>by cases hh) (a7 (.slice ua r.length uc) _ rfl rfl) ?_;go_frame;refine Rg.dz (some 44) rfl rfl (fun _ hh=>by cases hh) (i3 Tryz.underlying41) ?_;go_frame;refine Rg.dz (some 45) rfl rfl (fun _ hh=>by cases hh) (g8 (.int .i64 ((N:Nat):Int)) ⟨(w.heap.size+2),0,none⟩ (ah CI.p.c3.c)) ?_;go_frame;refine Rg.dz (some 46) rfl rfl (fun _ hh=>by cases hh) (a7 (.int .i64 ((X:Nat):Int)) _ rfl rfl) ?_;go_frame;refine Rg.dz (some 47) rfl rfl (fun _ hh=>by cases hh) (g9 (.int .i64 ((N:Int) - (X:Int))) .sub (h:=gC _ (by omega) (by omega))) ?_;go_frame
   refine Rg.dz (some 48) rfl rfl (fun _ hh=>by cases hh) (g9 (.bool true) .gtr (h:=dV _ f8)) ?_;go_frame;refine Rg.ax (some 49) rfl rfl (fun _ hh=>by cases hh) (i4 (.bool true)) ?_;go_frame
   gi_upto_region 11 with (fail)
   refine wpIn_region_list ?_;refine Rg.fJ none rfl rfl (fun _ hh=>by cases hh) (Rg.ai _ _ _ rfl _ rfl _ rfl (cP 3 CI.p.c2.c CI.p.c2.f)) ?_;go_frame;have hk:=K.p.setCell (p:=⟨w.heap.size+1,0,none⟩) (by show w.heap.size<=w.heap.size+1; omega) (.int .i64 3);have y2:=CI.p.c2.set (.int .i64 3);have hq:=KQ.p.set (b:=w.heap.size+1) (o:=0) (.int .i64 3) (by omega);generalize W.setCell ⟨w.heap.size+1,0,none⟩ (.int .i64 3)=dT at *;have KX:=U hk;have CX:=U y2;have QX:=U hq;have GZ:=U (show ¬ fK ((N:Nat):Int) OO RR from fun hh=>by have:=(hh.row qo.p qp.p).2; rw [show RR[X]=r from hr.p] at this; omega);clear hk y2 hq
   gi_wp2
   exact ⟨QX.p.keeps,rfl,KX.p,CX.p,GZ.p⟩
  gi_upto_region 10 with (fail)
  refine wpIn_region_list ?_;refine Rg.ax (some 33) rfl rfl (fun _ hh=>by cases hh) (a7 (.slice ua r.length uc) _ rfl rfl) ?_;go_frame;refine Rg.ax (some 34) rfl rfl (fun _ hh=>by cases hh) (i3 Tryz.underlying41) ?_;go_frame;refine Rg.ax (some 35) rfl rfl (fun _ hh=>by cases hh) (af _ rfl rfl (gQ _ _)) ?_;go_frame;refine Rg.ax (some 36) rfl rfl (fun _ hh=>by cases hh) (g8 (.slice (some ⟨ob,oo,none⟩) OO.length oc) ⟨w.heap.size,1,none⟩ (Rg.ae _ _ Tryz.underlying22 CI.p.a1.cell)) ?_;go_frame;refine Rg.ax (some 37) rfl rfl (fun _ hh=>by cases hh) (a7 (.int .i64 ((X:Nat):Int)) _ rfl rfl) ?_;go_frame;refine Rg.ax (some 38) rfl rfl (fun _ hh=>by cases hh) (aB bU _ _ rfl ob (oo) (OO.length) oc (X) rfl rfl qp.p) ?_;go_frame;refine Rg.ax (some 39) rfl rfl (fun _ hh=>by cases hh) (g8 (.slice ya o'.length yc) ⟨ob,oo+X,none⟩ (Rg.ae _ _ Tryz.underlying26 ((Below.cell (p:=⟨ob,oo+X,none⟩) K.p CO.p.lt).trans CO.p.cell))) ?_;go_frame
  refine Rg.ax (some 40) rfl rfl (fun _ hh=>by cases hh) (i3 Tryz.underlying26) ?_;go_frame;refine Rg.ax (some 41) rfl rfl (fun _ hh=>by cases hh) (g9 (.bool false) .neq (h:=aU _ f9)) ?_;go_frame;refine Rg.ax (some 42) rfl rfl (fun _ hh=>by cases hh) (a7 (.bool false) _ rfl rfl) ?_;go_frame;refine Rg.dz (some 43) rfl rfl (fun _ hh=>by cases hh) (a7 (.slice ua r.length uc) _ rfl rfl) ?_;go_frame;refine Rg.dz (some 44) rfl rfl (fun _ hh=>by cases hh) (i3 Tryz.underlying41) ?_;go_frame;refine Rg.dz (some 45) rfl rfl (fun _ hh=>by cases hh) (g8 (.int .i64 ((N:Nat):Int)) ⟨(w.heap.size+2),0,none⟩ (ah CI.p.c3.c)) ?_;go_frame;refine Rg.dz (some 46) rfl rfl (fun _ hh=>by cases hh) (a7 (.int .i64 ((X:Nat):Int)) _ rfl rfl) ?_;go_frame;refine Rg.dz (some 47) rfl rfl (fun _ hh=>by cases hh) (g9 (.int .i64 ((N:Int) - (X:Int))) .sub (h:=gC _ (by omega) (by omega))) ?_;go_frame
  refine Rg.dz (some 48) rfl rfl (fun _ hh=>by cases hh) (g9 (.bool false) .gtr (h:=dV _ f9)) ?_;go_frame;refine Rg.ax (some 49) rfl rfl (fun _ hh=>by cases hh) (i4 (.bool false)) ?_;go_frame;have tF:=U (show gs.map Ma.ag=gs.map Ma.ag++r.take 0 by simp);have qb:=U (show gs.length<=gs.length+0 from Nat.le_refl _)
  gi_wp2
  gi_loopw [52] (fun jv wr=>∃ (j:Nat) (v:Value) (gs':List (List Nat)),jv=.int .i64 j/\j<=r.length/\Hid (vh w ((N:Nat):Int) (.slice (some ⟨ob,oo,none⟩) OO.length oc) (.slice ra RR.length rc) wr v gs')/\Hid (KK B w.heap.size W wr)/\Hid (gs'.map Ma.ag=gs.map Ma.ag++r.take j)/\Hid (∀ g∈gs',Cm.Gd N g)/\Hid (gs'.length<=gs.length+j)) (fun jv _=>r.length - (intOf jv).toNat)
  case atStart=>exact ⟨0,_,_,rfl,Nat.zero_le _,CI,KQ,tF,yZ,qb⟩
  case round =>
   clear CI KQ tF yZ qb K;obtain ⟨j,v,gs',rfl,hj,CI,KQ,tF,yZ,qb⟩:=hrel;have K:=U CI.p.bX;obtain ⟨va,vc,nG⟩:=CI.p.row.shape;subst nG
   by_cases mJ:j<r.length
   ·have Gj:(j:Int)<(r.length:Int):=by omega
    have lC:=U mJ;obtain ⟨ub,uo,rfl,vn,DZ⟩:=Uf.p (by omega);obtain ⟨xv,D0,Bk⟩:=DZ j mJ;obtain ⟨x,hx⟩:∃ x:List Int,Hid (r[j]'mJ=x):=⟨_,U rfl⟩
    replace Bk:Rg.Ints w xv x:=by rw [<- hx.p]; exact Bk
    obtain ⟨xa,xc,rfl,_⟩:=Bk.shape
    have y0:x.length<=1000000000:=by obtain ⟨m',a',c',e',_,Ku⟩:=Bk.len; omega
    have CX:=U (CL.mk D0 vn);have XU:=U Bk;have XD:=U (show x∈RR[X]'qo.p by rw [show RR[X]'qo.p=r from hr.p,<- hx.p]; exact List.getElem_mem mJ);have M_:=U (show gs'.length<1000000 by have:=qb.p; have:=XA.p; omega);clear DZ D0 Bk vn
    gi_upto_region 14 with (fail)
    refine wpIn_region_list ?_;refine Rg.ax (some 54) rfl rfl (fun _ hh=>by cases hh) (aB bP _ _ rfl ub (uo) (r.length) uc (j) rfl rfl lC.p) ?_;go_frame;refine Rg.ax (some 55) rfl rfl (fun _ hh=>by cases hh) (g8 (.slice xa x.length xc) ⟨ub,uo+j,none⟩ (Rg.ae _ _ Tryz.underlying27 ((Below.cell (p:=⟨ub,uo+j,none⟩) K.p CX.p.lt).trans CX.p.cell))) ?_;go_frame;refine Rg.ax (some 8) rfl rfl (fun _ hh=>by cases hh) (c6 (.slice xa x.length xc) _ rfl rfl) ?_;go_frame
    by_cases Xt:(x.length:Int)=(N:Int)
    case neg =>
     skip
     gi_upto_region 15 with (fail)
     refine wpIn_region_list ?_;refine Rg.ax (some 56) rfl rfl (fun _ hh=>by cases hh) (a7 (.slice xa x.length xc) _ rfl rfl) ?_;go_frame;refine Rg.ax (some 57) rfl rfl (fun _ hh=>by cases hh) (i3 Tryz.underlying27) ?_;go_frame;refine Rg.ax (some 58) rfl rfl (fun _ hh=>by cases hh) (g8 (.int .i64 ((N:Nat):Int)) ⟨(w.heap.size+2),0,none⟩ (ah CI.p.c3.c)) ?_;go_frame;refine Rg.ax (some 59) rfl rfl (fun _ hh=>by cases hh) (g9 (.bool true) .neq (h:=aU _ f8)) ?_;go_frame;refine Rg.ax (some 60) rfl rfl (fun _ hh=>by cases hh) (a7 (.bool true) _ rfl rfl) ?_;go_frame;refine Rg.fW (some 61) (by kernel_rfl) rfl ?_;go_frame;refine Rg.fW (some 62) (by kernel_rfl) rfl ?_;go_frame;refine Rg.fW (some 63) (by kernel_rfl) rfl ?_;go_frame;refine Rg.ax (some 64) rfl rfl (fun _ hh=>by cases hh) (i5 (.bool true)) ?_;go_frame
     gi_upto_region 16 with (fail)
     refine wpIn_region_list ?_;refine Rg.fJ none rfl rfl (fun _ hh=>by cases hh) (Rg.ai _ _ _ rfl _ rfl _ rfl (cP 3 CI.p.c2.c CI.p.c2.f)) ?_;go_frame;have hk:=K.p.setCell (p:=⟨w.heap.size+1,0,none⟩) (by show w.heap.size<=w.heap.size+1; omega) (.int .i64 3);have y2:=CI.p.c2.set (.int .i64 3);have hq:=KQ.p.set (b:=w.heap.size+1) (o:=0) (.int .i64 3) (by omega);generalize wr.setCell ⟨w.heap.size+1,0,none⟩ (.int .i64 3)=dT at *;have KX:=U hk;have CX:=U y2;have QX:=U hq;have GZ:=U (show ¬ fK ((N:Nat):Int) OO RR from fun hh=>Xt (hh.perm qo.p XD.p).1);clear hk y2 hq
     gi_wp2
     exact ⟨QX.p.keeps,rfl,KX.p,CX.p,GZ.p⟩
    by_cases wT:Ma.bB x=0
    case neg =>
     skip
     gi_upto_region 15 with (fail)
     refine wpIn_region_list ?_;refine Rg.ax (some 56) rfl rfl (fun _ hh=>by cases hh) (a7 (.slice xa x.length xc) _ rfl rfl) ?_;go_frame;refine Rg.ax (some 57) rfl rfl (fun _ hh=>by cases hh) (i3 Tryz.underlying27) ?_;go_frame;refine Rg.ax (some 58) rfl rfl (fun _ hh=>by cases hh) (g8 (.int .i64 ((N:Nat):Int)) ⟨(w.heap.size+2),0,none⟩ (ah CI.p.c3.c)) ?_;go_frame;refine Rg.ax (some 59) rfl rfl (fun _ hh=>by cases hh) (g9 (.bool false) .neq (h:=aU _ f9)) ?_;go_frame;refine Rg.ax (some 60) rfl rfl (fun _ hh=>by cases hh) (a7 (.bool false) _ rfl rfl) ?_;go_frame;refine Rg.dz (some 61) rfl rfl (fun _ hh=>by cases hh) (a7 (.slice xa x.length xc) _ rfl rfl) ?_;go_frame;refine Rg.DQ (some 62) rfl rfl (fun _ hh=>by cases hh) _ _ (aF 68 _ _ rfl rfl (xe _ _)) ?_;refine (dp _ _ wr (XU.p.jj K.p)).mono ?_
     rintro e1 fG ⟨rfl,hb⟩;refine ⟨_,rfl,?_⟩;go_frame;replace CI:=U (CI.p.jj hb);replace KQ:=U (KQ.p.jj hb);replace K:=U (Rg.acc K.p hb);clear hb;refine Rg.dz (some 63) rfl rfl (fun _ hh=>by cases hh) (g9 (.bool true) .neq (h:=aU _ (decide_eq_true wT))) ?_;go_frame;refine Rg.ax (some 64) rfl rfl (fun _ hh=>by cases hh) (i4 (.bool true)) ?_;go_frame
     gi_upto_region 16 with (fail)
     refine wpIn_region_list ?_;refine Rg.fJ none rfl rfl (fun _ hh=>by cases hh) (Rg.ai _ _ _ rfl _ rfl _ rfl (cP 3 CI.p.c2.c CI.p.c2.f)) ?_;go_frame;have hk:=K.p.setCell (p:=⟨w.heap.size+1,0,none⟩) (by show w.heap.size<=w.heap.size+1; omega) (.int .i64 3);have y2:=CI.p.c2.set (.int .i64 3);have hq:=KQ.p.set (b:=w.heap.size+1) (o:=0) (.int .i64 3) (by omega);generalize fG.setCell ⟨w.heap.size+1,0,none⟩ (.int .i64 3)=dT at *;have KX:=U hk;have CX:=U y2;have QX:=U hq;have GZ:=U (show ¬ fK ((N:Nat):Int) OO RR from fun hh=>wT (hh.perm qo.p XD.p).2);clear hk y2 hq
     gi_wp2
     exact ⟨QX.p.keeps,rfl,KX.p,CX.p,GZ.p⟩
    gi_upto_region 15 with (fail)
    refine wpIn_region_list ?_;refine Rg.ax (some 56) rfl rfl (fun _ hh=>by cases hh) (a7 (.slice xa x.length xc) _ rfl rfl) ?_;go_frame;refine Rg.ax (some 57) rfl rfl (fun _ hh=>by cases hh) (i3 Tryz.underlying27) ?_;go_frame;refine Rg.ax (some 58) rfl rfl (fun _ hh=>by cases hh) (g8 (.int .i64 ((N:Nat):Int)) ⟨(w.heap.size+2),0,none⟩ (ah CI.p.c3.c)) ?_;go_frame;refine Rg.ax (some 59) rfl rfl (fun _ hh=>by cases hh) (g9 (.bool false) .neq (h:=aU _ f9)) ?_;go_frame;refine Rg.ax (some 60) rfl rfl (fun _ hh=>by cases hh) (a7 (.bool false) _ rfl rfl) ?_;go_frame;refine Rg.dz (some 61) rfl rfl (fun _ hh=>by cases hh) (a7 (.slice xa x.length xc) _ rfl rfl) ?_;go_frame;refine Rg.DQ (some 62) rfl rfl (fun _ hh=>by cases hh) _ _ (aF 68 _ _ rfl rfl (xe _ _)) ?_;refine (dp _ _ wr (XU.p.jj K.p)).mono ?_
    rintro e1 fG ⟨rfl,hb⟩;refine ⟨_,rfl,?_⟩;go_frame;replace CI:=U (CI.p.jj hb);replace KQ:=U (KQ.p.jj hb);replace K:=U (Rg.acc K.p hb);clear hb;refine Rg.dz (some 63) rfl rfl (fun _ hh=>by cases hh) (g9 (.bool false) .neq (h:=aU _ (decide_eq_false (fun e=>e wT)))) ?_;go_frame;refine Rg.ax (some 64) rfl rfl (fun _ hh=>by cases hh) (i4 (.bool false)) ?_;go_frame;obtain ⟨q,Ug,Mn⟩:=Ma.kn (Ma.gW wT).2.2;have HGQ:=U (show Cm.Gd N q from ⟨Mn,by have:=congrArg List.length Ug; rw [Ma.ar] at this; omega⟩);have XE:=U Ug;have HFQ:=U (show FP (fun k=>k<w.heap.size) w (.slice xa x.length xc) q from FP.tj (show Rg.NP w _ q by unfold Rg.NP; rw [<- XE.p]; exact XU.p));clear Ug Mn wT
    gi_upto_region 17 with (fail)
    refine wpIn_region_list ?_;refine Rg.ax (some 65) rfl rfl (fun _ hh=>by cases hh) (g8 (.slice va gs'.length vc) ⟨(w.heap.size+3),0,none⟩ (Rg.ae _ _ Tryz.underlying41 CI.p.c4.c)) ?_;go_frame;refine Rg.ax (some 66) rfl rfl (fun _ hh=>by cases hh) (a7 (.slice xa x.length xc) _ rfl rfl) ?_;go_frame;refine Rg.ax (some 67) rfl rfl (fun _ hh=>by cases hh) (Rg.aC _ _ _ rfl (.slice xa x.length xc) rfl (cG fG _ ⟨_,_,_,rfl⟩)) ?_;go_frame;obtain ⟨a9,c9,X9,r1,r2,r3,r4⟩:=CI.p.row.MZ (fun k hk=>by omega) (HFQ.p.jj K.p) ⟨_,_,_,rfl⟩ M_.p 41;have mK:=r3 (Nat.le_refl _) (Below.refl _ _);refine Rg.ax (some 68) rfl rfl (fun _ hh=>by cases hh) (Rg.bu _ _ _ rfl rfl rfl r1) ?_;go_frame;have Uh:=CI.p.c4.upto mK (by omega);refine Rg.fJ none rfl rfl (fun _ hh=>by cases hh) (Rg.ai _ _ _ rfl _ rfl _ rfl (Rg.bn _ dF Uh.c Uh.f)) ?_;go_frame
    have Sq:=CI.p.store mK r2;have zU:KK B w.heap.size W (X9.setCell ⟨w.heap.size+3,0,none⟩ (.slice a9 (gs'.length+1) c9)):=(KQ.p.row r4 CI.p.row (by omega)).set _ (by omega);generalize X9.setCell ⟨w.heap.size+3,0,none⟩ (.slice a9 (gs'.length+1) c9)=XF at *;have CI2:=U Sq;have Ui:=U zU
    have y6:=U (show (gs'++[q]).map Ma.ag=gs.map Ma.ag++r.take (j+1) by
     rw [List.map_append,tF.p,List.take_succ_eq_append_getElem lC.p,show r[j]=x from hx.p,XE.p,List.append_assoc]; rfl)
    have XG:=U (show ∀ g∈gs'++[q],Cm.Gd N g from fun g hg=>by
     rcases List.mem_append.1 hg with hg | hg
     ·exact yZ.p g hg
     ·rw [List.mem_singleton] at hg; rw [hg]; exact HGQ.p)
    have Uj:=U (show (gs'++[q]).length<=gs.length+(j+1) by rw [List.length_append]; have:=qb.p; simp; omega);clear Sq zU r1 r2 r3 r4 mK Uh
    gi_wp2
    go_roundw
    case rel=>exact ⟨j+1,_,_,by go_num,lC.p,CI2,Ui,y6,XG,Uj⟩
    case measure=>simp [intOf]; have:=lC.p; omega
   ·obtain rfl:j=r.length:=by omega
    have Gj:¬ (r.length:Int)<(r.length:Int):=by omega
    have XH:=U (show gs'.map Ma.ag=(pre++[⟨X,qo.p⟩]:List (Fin RR.length)).flatMap (rowOf RR) by
     have e:=tF.p;rw [List.take_length] at e;rw [e,M9.p,List.flatMap_append];simp only [List.flatMap_cons,List.flatMap_nil,List.append_nil]
     exact congrArg (pre.flatMap (rowOf RR)++·) ((df qo.p).trans hr.p).symm)
    have XI:=U (show gs'.length<=64*(pre.length+1) by have:=qb.p; have:=XB.p; omega)
    gi_wp2
    exact ⟨KQ.p.keeps,KQ.p.bX,_,_,CI.p,XH.p,yZ.p,by rw [List.length_append]; exact XI.p⟩
 case stop =>
  rintro D c pre W hD ⟨rfl,h1,h2,h3⟩ hd;go_wp2;exact jn (ds:=[D]) h1 h2 (.inr ⟨by omega,.inr ⟨h3,rfl⟩⟩) rfl (by simp) (fun D' gH=>by simp at gH; subst gH; exact ⟨hd,by have:=lW.p; omega⟩)
 case done =>
  rintro D Wd hD ⟨v,gs,xp,vk,uQ,gD⟩ hd;clear FB xk CI K;rw [DT] at vk;have HD:=U (show w.heap.size<=D by have:=lW.p; omega);have DF:=U hd;have CI:=U xp;have K:=U xp.bX;have M9:=U vk;have yZ:=U uQ;have nH:=U (show gs.length<=1000000 by rw [wY (Nat.le_refl _)] at gD; have:=rm.p; omega);obtain ⟨va,vc,nG⟩:=xp.row.shape;subst nG
  have GR:=U (show Rg.Rows Wd (.slice va gs.length vc) (gs.map Ma.ag) from by
   obtain ⟨us,q1,q2⟩:=xp.row.own
   exact Rg.Rows.cR q1 (by have:=nH.p; omega) q2.1 (fun i a b=>(q2.2 i a b).ints))
  have HH:=U (show bg Wd (.slice oa OO.length oc) (.slice ra RR.length rc) OO RR from bg.upto H.p xp.bX);clear xp vk uQ gD hd;go_upto_region 19 with (fail);refine Rg.zX ?_;have aq:Below Wd.heap.size Wd Wd.drew:=(Below.refl _ _).drew;replace CI:=U (CI.p.jj aq);replace GR:=U (GR.p.jj aq);replace HH:=U (HH.p.jj aq);replace DF:=U (DF.p.jj aq);replace K:=U (Rg.acc K.p aq);clear aq;refine Rg.Any.begin (S:=Rg.aG 6 (fun _=>True) (fun W=>Below Wd.drew.heap.size Wd.drew W)) mix ?_;generalize Wd.drew=iE at *;have hS:∀ (l:Array Bool) W,Below iE.heap.size iE W->Rg.aG 6 (fun _=>True) (fun W=>Below iE.heap.size iE W) l W:=fun l W h=>⟨.inr trivial,h⟩;have hI:Below iE.heap.size iE iE:=Below.refl _ _;refine d7 0 6 ((.agg #[.int .i64 ((N:Nat):Int),.slice oa OO.length oc,.slice ra RR.length rc])) 70 rfl rfl (i9 ⟨w.heap.size,0,none⟩ (fun W hW=>aM ((Below.cell (p:=⟨w.heap.size,0,none⟩) hW CI.p.a0.lt).trans CI.p.a0.cell) ((Below.cell (p:=⟨w.heap.size,1,none⟩) hW CI.p.a1.lt).trans CI.p.a1.cell) ((Below.cell (p:=⟨w.heap.size,2,none⟩) hW CI.p.a2.lt).trans CI.p.a2.cell))) (hS _ _ hI) ?_;go_frame
  refine d7 1 6 (.int .i64 ((N:Nat):Int)) 71 rfl rfl (i9 ⟨(w.heap.size+2),0,none⟩ (fun W hW=>ah ((Below.cell (p:=⟨(w.heap.size+2),0,none⟩) hW CI.p.c3.lt).trans CI.p.c3.c))) (hS _ _ hI) ?_;go_frame;refine d7 2 6 (.slice va gs.length vc) 72 rfl rfl (i9 ⟨(w.heap.size+3),0,none⟩ (fun W hW=>Rg.ae _ _ Tryz.underlying41 ((Below.cell (p:=⟨(w.heap.size+3),0,none⟩) hW CI.p.c4.lt).trans CI.p.c4.c))) (hS _ _ hI) ?_;go_frame;refine Rg.Any.one (i:=3) (by kernel_rfl) (Rg.Any.ask (some 73) rfl rfl rfl _ _ (aw 69 _ _ _ rfl rfl rfl (GP _ _)) ?_);refine (wU eZ DU GR.p yZ.p nH.p).mono ?_;rintro e1 tC ⟨tb,L,F1,T1,V1,rfl,n_,od,oh,D1,hb⟩;have HB:=U D1;have aJ:=Rg.acc hI hb;clear hb hI;refine ⟨_,rfl,(hS _ _ aJ),?_⟩;go_frame;have HT:=U n_;have C0:=U od;have C1:=U oh;clear n_ od oh D1
  refine Rg.Any.one (i:=4) (by kernel_rfl) (Rg.Any.ask (some 74) rfl rfl rfl _ _ (aF 70 _ _ rfl rfl (GW _ _)) ?_);refine (qh eZ DU HT.p C0.p C1.p (Cm.Gr.dC yZ.p) (HB.p.Db (by omega) yZ.p) (fun j hj=>(HB.p.full j hj).1)).mono ?_;rintro e1 w63 ⟨Uk,rv2,O2,R2,rfl,hO,hR,D2,hb⟩;have ew:=U D2;have XJ:=bg.mk hO.rows hR.rows;clear hO hR D2;have a_:=Rg.acc aJ hb;have bL:=hb;clear hb aJ;refine ⟨_,rfl,(hS _ _ a_),?_⟩;go_frame;have HF:=U XJ;clear XJ;obtain ⟨bS,Ul⟩:∃ b,Hid (decide (((N:Nat):Int)=((N:Nat):Int)/\OO=O2.map Ma.ag/\RR=R2.map (List.map Ma.ag))=b):=⟨_,U rfl⟩;refine Rg.Any.one (i:=5) (by kernel_rfl) (Rg.Any.ask (some 75) rfl rfl rfl _ _ (aw 96 _ _ _ rfl rfl rfl (Ud _ _)) ?_);refine (Kq (HH.p.jj a_) HF.p Ul).mono ?_;rintro e1 XK ⟨rfl,hb⟩;have dE:=Rg.acc bL hb
  have aZ:=Rg.acc a_ hb;have dt:=hb;clear hb bL a_;refine ⟨_,rfl,(hS _ _ aZ),?_⟩;go_frame;refine i8 6 76 rfl rfl (bm _ _ bS rfl rfl) (hS _ _ aZ) ?_;go_frame;refine Rg.Any.done (by kernel_rfl) ?_ _;refine Rg.lU ?_;replace CI:=U (CI.p.jj aZ);replace GR:=U (GR.p.jj aZ);replace HH:=U (HH.p.jj aZ);replace DF:=U (DF.p.jj aZ);replace HT:=U (HT.p.jj dE);replace C0:=U (C0.p.jj dE);replace C1:=U (C1.p.jj dE);replace HF:=U (HF.p.jj dt);replace K:=U (Rg.acc K.p aZ);clear hS dE aZ dt;have Um:=U (fK.same (OO:=OO) (RR:=RR) eZ DU yZ.p M9.p.symm ew.p)
  cases bS with
  | false =>
   have C2:=U CI.p.c2;go_upto_region 20 with (fail);refine d3 ?_;refine Rg.aD none rfl rfl (Rg.ai _ _ _ rfl _ rfl _ rfl (cP 3 C2.p.c C2.p.f)) ?_;go_frame;have hk:=K.p.setCell (p:=⟨w.heap.size+1,0,none⟩) (by show w.heap.size<=w.heap.size+1; omega) (.int .i64 3);have y2:=C2.p.set (.int .i64 3);have hdd:=RF.ef.setCell DF.p ⟨w.heap.size+1,0,none⟩ (.int .i64 3);generalize XK.setCell ⟨w.heap.size+1,0,none⟩ (.int .i64 3)=dT at *;have KX:=U hk;have CX:=U y2;have DX:=U hdd;have xh:=U (show mG ((N:Nat):Int) OO RR 3 from .inr ⟨by omega,.inr ⟨fun hh=>(of_decide_eq_false Ul.p) ⟨rfl,Um.p.1 hh⟩,rfl⟩⟩);clear hk y2 hdd;go_wp2;exact jn (ds:=[D]) KX.p CX.p xh.p rfl (by simp) (fun D' gH=>by simp at gH; subst gH; exact ⟨DX.p,HD.p⟩)
  | true =>
   have C2:=U CI.p.c2;go_upto_region 21 with (fail);refine d3 ?_;refine Rg.aD none rfl rfl (Rg.ai _ _ _ rfl _ rfl _ rfl (cP 0 C2.p.c C2.p.f)) ?_;go_frame;have hk:=K.p.setCell (p:=⟨w.heap.size+1,0,none⟩) (by show w.heap.size<=w.heap.size+1; omega) (.int .i64 0);have y2:=C2.p.set (.int .i64 0);have hdd:=RF.ef.setCell DF.p ⟨w.heap.size+1,0,none⟩ (.int .i64 0);generalize XK.setCell ⟨w.heap.size+1,0,none⟩ (.int .i64 0)=dT at *;have KX:=U hk;have CX:=U y2;have DX:=U hdd;have xh:=U (show mG ((N:Nat):Int) OO RR 0 from mG.of (Um.p.2 (of_decide_eq_true Ul.p).2));clear hk y2 hdd;go_wp2;exact jn (ds:=[D]) KX.p CX.p xh.p rfl (by simp) (fun D' gH=>by simp at gH; subst gH; exact ⟨DX.p,HD.p⟩)
end
section
open Go.RowKit
open Go.Proofs.Ob
attribute [local irreducible] Go.Calls Go.wpList
def dL:List (List Int)->Nat
 | []=>1
 | l :: r=>l.length*dL r
theorem oA (a:List (List Int)) (l:List Int):dL (a++[l])=dL a*l.length:=by
 induction a with
 | nil=>simp [dL]
 | cons x a ih=>simp only [List.cons_append,dL,ih,Nat.mul_assoc]
end
section
open Go.Proofs.Cm (Gr Gd ak bT pL St Tr Sd Fx ap)
def Un (n:Nat) (u:List Nat):Bool:=u.all (fun x=>decide (x<n)) && decide u.Nodup && u.length == n
theorem Qw {u:List Nat} (h:Un n u=true):Gd n u:=by
 unfold Un at h;simp only [Bool.and_eq_true,List.all_eq_true,decide_eq_true_eq,beq_iff_eq] at h;obtain ⟨⟨h1,h2⟩,h3⟩:=h;exact ⟨⟨fun x hx=>by rw [h3]; exact h1 x hx,h2⟩,h3⟩
def evalW (n:Nat) (gs:List (List Nat)) (w:List Nat):List Nat:=w.foldl (fun x k=>Ma.aj x (gs.getD k (Ma.bh n))) (Ma.bh n)
theorem Kv (w:List Nat):Gr n (·∈gs) (evalW n gs w):=by
 unfold evalW
 have key:∀ (w:List Nat) (x:List Nat),Gr n (·∈gs) x->Gr n (·∈gs) (w.foldl (fun x k=>Ma.aj x (gs.getD k (Ma.bh n))) x):=by
  intro w
  induction w with
  | nil=>exact fun x h=>h
  | cons k w ih =>
   intro x h;rw [List.foldl_cons];refine ih _ (.mul _ _ h ?_)
   by_cases hk:k<gs.length
   ·rw [List.getD_eq_getElem?_getD,List.getElem?_eq_getElem hk]
    exact .gen _ (List.getElem_mem hk)
   ·rw [List.getD_eq_getElem?_getD,List.getElem?_eq_none (by omega)]
    exact .one
 exact key w _ .one
end
section
open Go.RowKit
open Go.Proofs.Ob
attribute [local irreducible] Go.Calls Go.wpList
theorem Sr (w:World) (x y:Value):CL (w.alloc (.cells #[x,y] 43)) w.heap.size 0 x/\CL (w.alloc (.cells #[x,y] 43)) w.heap.size 1 y :=
 ⟨⟨by rw [Rg.aI]; rfl,by simp⟩,⟨by rw [Rg.aI]; rfl,by simp⟩⟩
theorem i_.low (h:Rg.i_ B w v ll) (hb:Below w.heap.size w w'):Rg.i_ B w' v ll:=h.jj hb
end
section
open Go.RowKit
open Go.Proofs.Ob
open Go.Proofs.Cm (Lv aY bJ)
attribute [local irreducible] Go.Calls Go.wpList
theorem Kw (gv:Value) (d:Int) (ll:List (List Int)) (w:World) (h:Rg.Rows w gv ll) :
  Calls Tryz.prog 42 #[.int .i64 d,gv] w fun e w'=>∃ cv,e=.returned (.tuple #[cv,.int .i64 (dc d ll)])/\dm w.heap.size w' d ll cv (dc d ll)/\Below w.heap.size w w':=by
 obtain ⟨ga,gc,rfl,zZ,XL,_,iO⟩:=h.shape;have G0:=U h;have tq:=U iO;have K:=U (Below.refl w.heap.size w);clear h iO zZ
 go_enter Tryz.func42,Tryz.ntmps42
 go_upto_region 0 with (fail);refine d3 ?_;have bY:=cq.new w (.int .i64 0) (.slice none 0 0) (.slice none 0 0);refine d4 4 (bw rfl) ?_;go_frame;have hb:=(Below.refl w.heap.size w).alloc (Nat.le_refl _) (.cells #[.int .i64 0,.slice none 0 0,.slice none 0 0] 25);generalize w.alloc (.cells #[.int .i64 0,.slice none 0 0,.slice none 0 0] 25)=w1 at *;replace G0:=U (G0.p.jj hb);replace K:=U (Rg.acc K.p hb);clear hb;have FT:=U bY;refine d6 5 (.int .i64 ((0:Nat):Int)) ?_;go_frame;clear bY;have K1:=U (Below.refl w1.heap.size w1);have KB:=K;clear K;have ve:=FT.p.lt
 by_cases iG:d<1
 ·have HC:=U (show dc d ll=2 by unfold dc; rw [if_neg (by omega)])
  go_upto_region 1 with (fail);refine d3 ?_;refine d5 9 (.int .i64 d) ?_;go_frame;refine d4 10 (g9 (.bool true) .lss (h:=aP _ f8)) ?_;go_frame;refine d5 11 (.bool true) ?_;go_frame;refine g7 12 ?_;go_frame;refine g7 13 ?_;go_frame;refine d4 14 (i5 (.bool true)) ?_;go_frame;have kN:=U (FT.p.jj K1.p);have KX:=U (KB.p.trans (K1.p.mono KB.p.size));go_upto_region 2 with (fail);refine d3 ?_;refine d4 15 (ep rfl) ?_;go_frame;refine Rg.aD none rfl rfl (Rg.ai _ _ _ rfl _ rfl _ rfl (aW _ _ _ _ _ _ _ kN.p)) ?_;go_frame;refine d6 5 (.int .i64 ((2:Nat):Int)) ?_;go_frame;have lX:=lT kN.p KX.p (Nat.le_refl _);generalize ((w1.setCell ⟨w.heap.size,0,none⟩ (.int .i64 0)).setCell ⟨w.heap.size,1,none⟩ (.slice none 0 0)).setCell ⟨w.heap.size,2,none⟩ (.slice none 0 0)=dT at *
  have lY:=U (show ∃ cv,Ending.returned (.tuple #[qi,.int .i64 (2)])=.returned (.tuple #[cv,.int .i64 (dc d ll)])/\dm w.heap.size dT d ll cv (dc d ll)/\Below w.heap.size w dT from
   ⟨_,by rw [HC.p],.inl ⟨by rw [HC.p]; decide,rfl⟩,lX.2⟩)
  have qq:=U lX.1;clear lX;go_wp2;exact bodyPost_ret (bz (p:=4) (u:=5) rfl _ rfl rfl qq.p) rfl lY.p
 by_cases oz:64<d
 ·have HC:=U (show dc d ll=2 by unfold dc; rw [if_neg (by omega)])
  go_upto_region 1 with (fail);refine d3 ?_;refine d5 9 (.int .i64 d) ?_;go_frame;refine d4 10 (g9 (.bool false) .lss (h:=aP _ f9)) ?_;go_frame;refine d5 11 (.bool false) ?_;go_frame;refine d9 12 (a7 (.int .i64 d) _ rfl rfl) ?_;go_frame;refine d9 13 (g9 (.bool true) .gtr (h:=dV _ f8)) ?_;go_frame;refine d4 14 (i4 (.bool true)) ?_;go_frame;have kN:=U (FT.p.jj K1.p);have KX:=U (KB.p.trans (K1.p.mono KB.p.size));go_upto_region 2 with (fail);refine d3 ?_;refine d4 15 (ep rfl) ?_;go_frame;refine Rg.aD none rfl rfl (Rg.ai _ _ _ rfl _ rfl _ rfl (aW _ _ _ _ _ _ _ kN.p)) ?_;go_frame;refine d6 5 (.int .i64 ((2:Nat):Int)) ?_;go_frame;have lX:=lT kN.p KX.p (Nat.le_refl _);generalize ((w1.setCell ⟨w.heap.size,0,none⟩ (.int .i64 0)).setCell ⟨w.heap.size,1,none⟩ (.slice none 0 0)).setCell ⟨w.heap.size,2,none⟩ (.slice none 0 0)=dT at *
  have lY:=U (show ∃ cv,Ending.returned (.tuple #[qi,.int .i64 (2)])=.returned (.tuple #[cv,.int .i64 (dc d ll)])/\dm w.heap.size dT d ll cv (dc d ll)/\Below w.heap.size w dT from
   ⟨_,by rw [HC.p],.inl ⟨by rw [HC.p]; decide,rfl⟩,lX.2⟩)
  have qq:=U lX.1;clear lX;go_wp2;exact bodyPost_ret (bz (p:=4) (u:=5) rfl _ rfl rfl qq.p) rfl lY.p
 have vp:1<=d/\d<=64:=by omega
 go_upto_region 1 with (fail);refine d3 ?_;refine d5 9 (.int .i64 d) ?_;go_frame;refine d4 10 (g9 (.bool false) .lss (h:=aP _ f9)) ?_;go_frame;refine d5 11 (.bool false) ?_;go_frame;refine d9 12 (a7 (.int .i64 d) _ rfl rfl) ?_;go_frame;refine d9 13 (g9 (.bool false) .gtr (h:=dV _ f9)) ?_;go_frame;refine d4 14 (i4 (.bool false)) ?_;go_frame
 by_cases hg1:4096<ll.length
 ·have HC:=U (show dc d ll=4 by unfold dc; rw [if_pos vp,if_neg (by omega)])
  go_upto_region 3 with (fail);refine d3 ?_;refine d5 16 (.slice ga ll.length gc) ?_;go_frame;refine d4 17 (i3 Tryz.underlying41) ?_;go_frame;refine d4 18 (g9 (.bool true) .gtr (h:=dV _ f8)) ?_;go_frame;have kN:=U (FT.p.jj K1.p);have KX:=U (KB.p.trans (K1.p.mono KB.p.size));go_upto_region 4 with (fail);refine d3 ?_;refine d4 19 (ep rfl) ?_;go_frame;refine Rg.aD none rfl rfl (Rg.ai _ _ _ rfl _ rfl _ rfl (aW _ _ _ _ _ _ _ kN.p)) ?_;go_frame;refine d6 5 (.int .i64 ((4:Nat):Int)) ?_;go_frame;have lX:=lT kN.p KX.p (Nat.le_refl _);generalize ((w1.setCell ⟨w.heap.size,0,none⟩ (.int .i64 0)).setCell ⟨w.heap.size,1,none⟩ (.slice none 0 0)).setCell ⟨w.heap.size,2,none⟩ (.slice none 0 0)=dT at *
  have lY:=U (show ∃ cv,Ending.returned (.tuple #[qi,.int .i64 (4)])=.returned (.tuple #[cv,.int .i64 (dc d ll)])/\dm w.heap.size dT d ll cv (dc d ll)/\Below w.heap.size w dT from
   ⟨_,by rw [HC.p],.inl ⟨by rw [HC.p]; decide,rfl⟩,lX.2⟩)
  have qq:=U lX.1;clear lX;go_wp2;exact bodyPost_ret (bz (p:=4) (u:=5) rfl _ rfl rfl qq.p) rfl lY.p
 have tG:=U (show dc d ll=Ma.iY d ll by unfold dc; rw [if_pos vp,if_pos (by omega)]);have tF:=U (show Ma.iY d (ll.drop 0)=Ma.iY d ll by rw [List.drop_zero]);go_upto_region 3 with (fail);refine d3 ?_;refine d5 16 (.slice ga ll.length gc) ?_;go_frame;refine d4 17 (i3 Tryz.underlying41) ?_;go_frame;refine d4 18 (g9 (.bool false) .gtr (h:=dV _ f9)) ?_;go_frame;go_wp2
 go_loopw [22] (fun kv wr=>∃ k:Nat,kv=.int .i64 k/\k<=ll.length/\Hid (Below w1.heap.size w1 wr)/\Hid (Ma.iY d (ll.drop k)=Ma.iY d ll)) (fun kv _=>ll.length - (intOf kv).toNat)
 case atStart=>exact ⟨0,rfl,Nat.zero_le _,K1,tF⟩
 case round =>
  clear K1 tF;obtain ⟨k,rfl,hk,K1,tF⟩:=hrel
  by_cases cg:k<ll.length
  ·have ly:(k:Int)<(ll.length:Int):=by omega
   have iO:=tq.p;obtain ⟨gb,go,rfl,tH,MD⟩:=iO (by omega);obtain ⟨u,wN,Qx⟩:=MD k cg;obtain ⟨x,hx⟩:∃ x,Hid (ll[k]=x):=⟨_,U rfl⟩;rw [hx.p] at Qx;have CU:=U (CL.mk ((KB.p.cell (p:=⟨gb,go+k,none⟩) tH).trans wN) (Nat.lt_of_lt_of_le tH KB.p.size));have XU:=U (Rg.Ints.jj Qx KB.p);obtain ⟨xa,xc,rfl,_⟩:=Qx.shape;have bC:=U cg;have y0:=XU.p.len;have HXL:=U (show x.length<=1000000000 by obtain ⟨n,a,c,e,_,e2⟩:=y0; omega);clear iO MD wN Qx y0 tH;go_upto_region 7 with (fail);refine d3 ?_;refine d4 24 (aB bP _ _ rfl gb (go) (ll.length) gc (k) rfl rfl bC.p) ?_;go_frame;refine d4 25 (g8 (.slice xa x.length xc) ⟨gb,go+k,none⟩ (Rg.ae _ _ Tryz.underlying27 ((Below.cell (p:=⟨gb,go+k,none⟩) K1.p CU.p.lt).trans CU.p.cell))) ?_;go_frame;refine d6 7 (.slice xa x.length xc) ?_;go_frame
   go_upto_region 8 with (fail);refine d3 ?_;refine d5 26 (.slice xa x.length xc) ?_;go_frame;refine f7 27 (aF 68 _ _ rfl rfl (xe _ _)) ?_;refine (dp _ _ wr (XU.p.jj K1.p)).mono ?_;rintro e1 nB ⟨rfl,hb⟩;refine ⟨_,rfl,?_⟩;go_frame;replace K1:=U (Rg.acc K1.p hb);clear hb;refine d6 8 (.int .i64 (Ma.bB x)) ?_;go_frame
   by_cases wT:Ma.bB x=0
   ·by_cases D3:(x.length:Int)=d
    ·skip
     go_upto_region 9 with (fail);refine d3 ?_;refine d5 28 (.int .i64 (Ma.bB x)) ?_;go_frame;refine d4 29 (g9 (.bool false) .neq (h:=aU _ f9)) ?_;go_frame;go_upto_region 11 with (fail);refine d3 ?_;refine d5 32 (.slice xa x.length xc) ?_;go_frame;refine d4 33 (i3 Tryz.underlying27) ?_;go_frame;refine d5 34 (.int .i64 d) ?_;go_frame;refine d4 35 (g9 (.bool false) .neq (h:=aU _ f9)) ?_;go_frame;have Qy:=U (show Ma.iY d (ll.drop (k+1))=Ma.iY d ll by rw [<- Ma.zE bC.p (by rw [hx.p]; exact wT) (by rw [hx.p]; exact D3)]; exact tF.p);go_wp2
     go_roundw
     case rel=>exact ⟨k+1,by go_num,bC.p,K1,Qy⟩
     case measure=>simp [intOf]; have:=bC.p; omega
    ·have HC:=U (show dc d ll=10 by rw [tG.p,<- tF.p]; exact Ma.Cs bC.p (by rw [hx.p]; exact wT) (by rw [hx.p]; exact D3))
     go_upto_region 9 with (fail);refine d3 ?_;refine d5 28 (.int .i64 (Ma.bB x)) ?_;go_frame;refine d4 29 (g9 (.bool false) .neq (h:=aU _ f9)) ?_;go_frame;go_upto_region 11 with (fail);refine d3 ?_;refine d5 32 (.slice xa x.length xc) ?_;go_frame;refine d4 33 (i3 Tryz.underlying27) ?_;go_frame;refine d5 34 (.int .i64 d) ?_;go_frame;refine d4 35 (g9 (.bool true) .neq (h:=aU _ f8)) ?_;go_frame;have kN:=U (FT.p.jj K1.p);have KX:=U (KB.p.trans (K1.p.mono KB.p.size));go_upto_region 12 with (fail);refine d3 ?_;refine d4 36 (ep rfl) ?_;go_frame;refine Rg.aD none rfl rfl (Rg.ai _ _ _ rfl _ rfl _ rfl (aW _ _ _ _ _ _ _ kN.p)) ?_;go_frame;refine d6 5 (.int .i64 ((10:Nat):Int)) ?_;go_frame;have lX:=lT kN.p KX.p (Nat.le_refl _);generalize ((nB.setCell ⟨w.heap.size,0,none⟩ (.int .i64 0)).setCell ⟨w.heap.size,1,none⟩ (.slice none 0 0)).setCell ⟨w.heap.size,2,none⟩ (.slice none 0 0)=dT at *
     have lY:=U (show ∃ cv,Ending.returned (.tuple #[qi,.int .i64 (10)])=.returned (.tuple #[cv,.int .i64 (dc d ll)])/\dm w.heap.size dT d ll cv (dc d ll)/\Below w.heap.size w dT from
      ⟨_,by rw [HC.p],.inl ⟨by rw [HC.p]; decide,rfl⟩,lX.2⟩)
     have qq:=U lX.1;clear lX;go_wp2;exact bodyPost_ret (bz (p:=4) (u:=5) rfl _ rfl rfl qq.p) rfl lY.p
   ·have HC:=U (show dc d ll=Ma.bB x by rw [tG.p,<- tF.p,Ma.Cr bC.p (by rw [hx.p]; exact wT),hx.p])
    go_upto_region 9 with (fail);refine d3 ?_;refine d5 28 (.int .i64 (Ma.bB x)) ?_;go_frame;refine d4 29 (g9 (.bool true) .neq (h:=aU _ f8)) ?_;go_frame;have kN:=U (FT.p.jj K1.p);have KX:=U (KB.p.trans (K1.p.mono KB.p.size));go_upto_region 10 with (fail);refine d3 ?_;refine d4 30 (ep rfl) ?_;go_frame;refine d5 31 (.int .i64 (Ma.bB x)) ?_;go_frame;refine Rg.aD none rfl rfl (Rg.ai _ _ _ rfl _ rfl _ rfl (aW _ _ _ _ _ _ _ kN.p)) ?_;go_frame;refine d6 5 (.int .i64 (Ma.bB x)) ?_;go_frame;have lX:=lT kN.p KX.p (Nat.le_refl _);generalize ((nB.setCell ⟨w.heap.size,0,none⟩ (.int .i64 0)).setCell ⟨w.heap.size,1,none⟩ (.slice none 0 0)).setCell ⟨w.heap.size,2,none⟩ (.slice none 0 0)=dT at *
    have lY:=U (show ∃ cv,Ending.returned (.tuple #[qi,.int .i64 (Ma.bB x)])=.returned (.tuple #[cv,.int .i64 (dc d ll)])/\dm w.heap.size dT d ll cv (dc d ll)/\Below w.heap.size w dT from
     ⟨_,by rw [HC.p],.inl ⟨by rw [HC.p]; exact wT,rfl⟩,lX.2⟩)
    have qq:=U lX.1;clear lX;go_wp2;exact bodyPost_ret (bz (p:=4) (u:=5) rfl _ rfl rfl qq.p) rfl lY.p
  ·obtain rfl:k=ll.length:=by omega
   have ly:¬ (ll.length:Int)<(ll.length:Int):=by omega
   have hz:=tF.p;rw [Ma.Ct (Nat.le_refl _)] at hz;obtain ⟨n,gs,WC,y7,eJ,bQ,cC,gD⟩:=TZ vp.1 vp.2 hz.symm;have y8:=U y7;have nH:=U gD;have kC:=U eJ;have HC:=U (show dc d ll=0 by rw [tG.p]; exact hz.symm);subst WC;have kN:=U (FT.p.jj K1.p);have KX:=U (KB.p.trans (K1.p.mono KB.p.size));have GR:=U (Rg.Rows.jj G0.p K1.p);clear y7 gD eJ hz;go_upto_region 14 with (fail);refine d3 ?_;refine d5 38 (.int .i64 ((n:Nat):Int)) ?_;go_frame;refine d5 39 (.slice ga ll.length gc) ?_;go_frame;have Qz:=U kN.p.lt;refine f7 40 (aw 69 _ _ _ rfl rfl rfl (GP _ _)) ?_;refine (wU bQ cC (by have:=GR.p; rw [show gs.map Ma.ag=ll from y8.p.symm]; exact this) kC.p (by have:=nH.p; omega)).mono ?_;rintro e1 iE ⟨tb,L,F1,T1,V1,rfl,n_,od,oh,D1,hb⟩;have HB:=U D1;have Bl:=U (Nat.lt_of_lt_of_le Qz.p hb.size)
   refine ⟨_,rfl,?_⟩;go_frame;replace kN:=U (kN.p.jj hb);replace GR:=U (GR.p.jj hb);replace KX:=U (Rg.acc KX.p hb);clear hb;have HT:=U n_;have C0:=U od;have C1:=U oh;clear n_ od oh D1;refine f7 41 (aF 70 _ _ rfl rfl (GW _ _)) ?_;refine (qh bQ cC HT.p C0.p C1.p (Cm.Gr.dC kC.p) (HB.p.Db (by omega) kC.p) (fun j hj=>(HB.p.full j hj).1)).mono ?_;rintro e1 tC ⟨ov,rv,O,R,rfl,hO,hR,D2,hb⟩;obtain ⟨oa,oc,rfl,_⟩:=hO.rows.shape;obtain ⟨ra,rc,rfl⟩:=hR.rows.shape;have HO:=U hO;have HR:=U hR;have ew:=U D2;clear hO hR D2;refine ⟨_,rfl,?_⟩;go_frame;replace kN:=U (kN.p.jj hb);replace GR:=U (GR.p.jj hb);replace HT:=U (HT.p.jj hb);replace C0:=U (C0.p.jj hb);replace C1:=U (C1.p.jj hb);replace KX:=U (Rg.acc KX.p hb);clear hb;refine Rg.aD none rfl rfl (Rg.ai _ _ _ rfl _ rfl _ rfl (aW _ _ _ _ _ _ _ kN.p)) ?_;go_frame
   refine d6 5 (.int .i64 ((0:Nat):Int)) ?_;go_frame;have yV:=kN.p.set (.int .i64 ((n:Nat):Int)) (.slice oa (O.map Ma.ag).length oc) (.slice ra (R.map (List.map Ma.ag)).length rc);have A9:=Rg.Kp.trans (Rg.Kp.trans (Rg.Kp.aL (M:=fun z=>z=w.heap.size) (w:=tC) (a:=⟨w.heap.size,0,none⟩) (v:=.int .i64 ((n:Nat):Int)) rfl) (Rg.Kp.aL (M:=fun z=>z=w.heap.size) (a:=⟨w.heap.size,1,none⟩) (v:=(.slice oa (O.map Ma.ag).length oc)) rfl) (fun _ _ e=>e)) (Rg.Kp.aL (M:=fun z=>z=w.heap.size) (a:=⟨w.heap.size,2,none⟩) (v:=(.slice ra (R.map (List.map Ma.ag)).length rc)) rfl) (fun _ _ e=>e);have hro:=aH.mono (F':=fun z=>w.heap.size<=z) (aH.kp HO.p A9 (fun z g e=>by have:=Bl.p; omega)) (fun z hz=>by have:=Bl.p; omega);have Na:=bf.mono (F':=fun z=>w.heap.size<=z) (HR.p.kp A9 (fun z g e=>by have:=Bl.p; omega)) (fun z hz=>by have:=Bl.p; omega)
   have yX:=((KX.p.setCell (p:=⟨w.heap.size,0,none⟩) (Nat.le_refl _) (.int .i64 ((n:Nat):Int))).setCell (p:=⟨w.heap.size,1,none⟩) (Nat.le_refl _) (.slice oa (O.map Ma.ag).length oc)).setCell (p:=⟨w.heap.size,2,none⟩) (Nat.le_refl _) (.slice ra (R.map (List.map Ma.ag)).length rc);generalize ((tC.setCell ⟨w.heap.size,0,none⟩ (.int .i64 ((n:Nat):Int))).setCell ⟨w.heap.size,1,none⟩ (.slice oa (O.map Ma.ag).length oc)).setCell ⟨w.heap.size,2,none⟩ (.slice ra (R.map (List.map Ma.ag)).length rc)=dT at *;have qq:=U yV
   have lY:=U (show ∃ cv,Ending.returned (.tuple #[.agg #[.int .i64 ((n:Nat):Int),(.slice oa (O.map Ma.ag).length oc),(.slice ra (R.map (List.map Ma.ag)).length rc)],.int .i64 0])=.returned (.tuple #[cv,.int .i64 (dc ((n:Nat):Int) ll)])/\dm w.heap.size dT ((n:Nat):Int) ll cv (dc ((n:Nat):Int) ll)/\Below w.heap.size w dT from
    ⟨_,by rw [HC.p],.inr ⟨HC.p,n,gs,rfl,y8.p,bQ,cC,_,_,O,R,rfl,hro,Na,ew.p⟩,yX⟩)
   clear yV A9 hro Na yX;go_wp2;exact bodyPost_ret (bz (p:=4) (u:=5) rfl _ rfl rfl qq.p) rfl lY.p
end
section
open Go.RowKit
open Go.Proofs.Ob
attribute [local irreducible] Go.Calls Go.wpList
theorem G1 {a:Option Addr} {c:Nat} {T:List (List Int)} (h:Rg.Rows w (.slice a n c) T) {i:Nat} (hi:i<T.length):∃ b o ua uc,a=some ⟨b,o,none⟩/\b<w.heap.size/\w.cell? ⟨b,o+i,none⟩=some (.slice ua T[i].length uc)/\Rg.Ints w (.slice ua T[i].length uc) T[i]:=by
 obtain ⟨a',c',e,-,-,-,hx⟩:=h.shape;simp only [Value.slice.injEq] at e;obtain ⟨rfl,rfl,rfl⟩:=e;obtain ⟨b,o,e1,e2,e3⟩:=hx (by omega);obtain ⟨u,h1,h2⟩:=e3 i hi;obtain ⟨ua,uc,rfl,-⟩:=h2.shape;exact ⟨b,o,ua,uc,e1,e2,h1,h2⟩
end
end Go.Proofs.YtpedbljnhnoohaaGreat
namespace Go.Proofs.RF
open Go Go.RowKit
section
variable {n L:Nat} {P:Program} {Q:Exit->Act->World->Prop} {md:Region.Mode} {ops:Array Oper}
theorem Nb {m:Nat} {row:String} {args:Array Value} {R:Value->World->Prop} (h:Rows P row args w R):RowsIn (Fence.wide.inRound L) m P row args w R :=
 fun c cs _=>let ⟨v,w',r,s⟩:=h c cs; ⟨v,w',r,stepsIn_wide.2 s⟩
theorem Uo {o:Oper} {a:Act} {K:Act->World->Prop} (hd:∀ c,o.op≠.defer c) (h:o.wp P a w K Q) :
  o.wpIn (Fence.wide.inRound L) n P a w K Q:=by
 refine ⟨fun _ _=>trivial,?_⟩;rw [show (Fence.wide.inRound L).round=some L from rfl,Oper.semAt_some L a.eval o hd];unfold Oper.wp at h;generalize (execOp a.eval o).run P w=r at h
 cases r with
 | ok x w' =>
  cases x with
  | enter f args =>
   have h':Calls P f args w' _:=h;exact ⟨fun h=>by simp [Fence.wide,Fence.inRound] at h,CallsIn.inRound L (callsIn_wide.2 h')⟩
  | row r args=>exact ⟨fun h=>by simp [Fence.wide,Fence.inRound] at h,Nb h⟩
  | value v=>exact h
  | skip=>exact h
  | defer d=>exact h
  | _=>exact h.elim
 | halt x w' =>
  cases x with
  | panic v=>exact h
  | _=>exact h.elim
theorem Nc {i:Nat} {K:Act->World->Prop} {a:Act} (hQ:∀ a w,¬ Q .outgrown a w) (hd:∀ (j:Nat) o c,ops[j]?=some o->o.op≠.defer c) (h:wpOp P ops Q i K a w) :
  wpOpIn (Fence.wide.inRound L) n P ops Q i K a w:=by
 unfold wpOp at h;unfold wpOpIn
 split
 ·rename_i ho; rw [ho] at h; exact h
 ·rename_i o ho
  rw [ho] at h;simp only at h
  split
  ·rename_i hw
   rw [if_pos hw] at h
   rcases h with h | h
   ·exact Uo (fun c=>hd i o c ho) h
   ·obtain ⟨_,a',w',h'⟩:=h; exact (hQ a' w' h').elim
  ·rename_i hw
   rw [if_neg hw] at h;exact ⟨fun _ _=>trivial,h⟩
theorem z6 (hQ:∀ a w,¬ Q .outgrown a w) (hd:∀ (j:Nat) o c,ops[j]?=some o->o.op≠.defer c):∀ (f:Nat) (listed:Array Bool) (a:Act) (w:World),
  wpAny P md ops Q f listed a w->wpAnyIn (Fence.wide.inRound L) n P md ops Q f listed a w
 | 0,_,_,_,h=>h
 | f+1,_,_,_,h=>⟨h.1,fun i hi=>wpOpIn_mono (fun a' w'=>z6 hQ hd f _ a' w') (Nc hQ hd (h.2 i hi))⟩
def D6 (l:List Oper):Bool:=l.all fun o=>match o.op with | .defer _=>false | _=>true
theorem y9 {l:List Oper} (h:D6 l=true) (j:Nat) (o:Oper) (c:Call) (ho:l.toArray[j]?=some o):o.op≠.defer c:=by
 intro e;have h1:=List.all_eq_true.1 h o (by simp at ho; exact List.mem_of_getElem? ho);rw [e] at h1;simp at h1
end
end Go.Proofs.RF
namespace Go.Proofs.Rg
open Go Go.RowKit
theorem D7 {F:Fence} {P:Program} {c:Code} {Q:Exit->Act->World->Prop} {a:Act} (h:c.wpIn F n P (Bf Q) a w):c.wpIn F n P Q a w :=
 wpIn_mono h fun e a w hq=>by cases e <;> first | exact hq | exact hq.elim
theorem Any.rr {P:Program} {Q:Exit->Act->World->Prop} {S:Array Bool->World->Prop} {id:Nat} {a:Act} {l:List Oper} (hm:P.follows .mixedOrders=true) (hnd:RF.D6 l=true)
  (h:Any P .any l.toArray (Bf Q) S l.toArray.size (Array.replicate l.toArray.size false) a w.drew):(Code.region id l.toArray true).wpIn (Fence.wide.inRound L) n P Q a w :=
 D7 (wpIn_region_any hm (RF.z6 (fun _ _ h=>h) (fun j o c=>RF.y9 hnd j o c) _ _ _ _ (Any.plain _ _ _ _ h)))
end Go.Proofs.Rg
namespace Go.Proofs.YtpedbljnhnoohaaGreat
open Go.Proofs
section
open Go.RowKit
open Go.Proofs.Ob
open Go.Shelf
open Go.Proofs.Cm (Tr)
attribute [local go_sem] Oper.semAt_some
attribute [local irreducible] Go.Calls Go.wpList Go.wpListIn
theorem hZ {P:Program} {o:Oper} {a:Act} (t:TypeId) (x:Operand) (ho:o.op=.box t x) (hx:a.eval x=v) (hv:v.cells=#[v]) :
  (execOp a.eval o).run P w=.ok (.value (.pointer (some ⟨w.heap.size,0,none⟩))) (w.alloc (.cells #[v] t)):=by
 unfold execOp;simp [ho,hx,Instr.box,newVar,newRow,hv,Result.andThen]
end
section
open Go.RowKit
open Go.Proofs.Cm (Tr)
attribute [local irreducible] Go.Calls Go.wpList
def SS (n:Nat) (tr:Tr) (l:List (List Nat)) (a b:Nat):Prop:=(Cm.dS n (Cm.Qu n tr) n (Ma.aj (l.getD a []) (l.getD b []))).1=n
end
section
open Go.Proofs.Cm (Tr Gr Gd Sd Qu dS)
def oB (x n:Int):Int:=if x.tmod n<0 then x.tmod n+n else x.tmod n
theorem ru {x n:Int} (h0:0<n):0<=oB x n/\oB x n<n:=by
 have h2:=Int.tmod_lt_of_pos x h0
 have h3:-n<x.tmod n:=by
  have:=Int.lt_tmod_of_pos x h0;omega
 unfold oB
 split <;> omega
end
section
open Go.RowKit
open Go.Proofs.Cm (Tr)
theorem eA.push {l:List (List Nat)} (h:eA F M W v l) {x:List Nat} (hu:FP F W u x) (hs:∃ a m c,u=.slice a m c) (hF:∀ k,F k->k<W.heap.size) (hM:∀ k,M k->k<W.heap.size) (hn:l.length<1000000) (ty:TypeId) :
  ∃ a c X,(Builtin.append_ #[41,41] ty #[v,.slice (some ⟨W.heap.size,0,none⟩) 1 1]).run Tryz.prog (W.alloc (.cells #[u] 27))=.ok (.slice a (l.length+1) c) X/\eA F M X (.slice a (l.length+1) c) (l++[x])/\Rg.Kp (fun k=>v.ownBlock=some k) W X:=by
 obtain ⟨B,us,h0,h1,h2⟩:=h.own;obtain ⟨a0,m0,c0,rfl⟩:=hs;have hb:Below W.heap.size W (W.alloc (.cells #[.slice a0 m0 c0] 27)):=(Below.refl _ _).alloc (Nat.le_refl _) _;obtain ⟨v',X,r1,r2,r3,r4,a,c,rfl⟩:=eE (P:=Tryz.prog) bP ty (Rg.bE h1 hb) (Nat.le_trans h0 hb.size) W.heap.size 1 (u:=.slice a0 m0 c0) (by rw [Rg.aI]; rfl) rfl hn;have hk:Rg.Kp (fun k=>v.ownBlock=some k) W X:=Rg.Kp.trans (M:=fun k=>v.ownBlock=some k) ((Rg.Kp.az hb).iR fun _=>False.elim) (Rg.Kp.cE r3 fun _ e=>e) (fun _ _ e=>e);have hg:∀ k,F k->¬ v.ownBlock=some k:=fun k g e=>(h.off k e).1 g;refine ⟨a,c,X,r1,⟨⟨B,us++[.slice a0 m0 c0],Nat.le_trans h0 hk.size,by rw [List.length_append]; exact r2,by rw [List.map_append]; exact bx.snoc (h2.kp hk hg) (Rg.FI.kp hu hk hg)⟩,fun k e=>?_⟩,hk⟩
 rcases r4 with r4 | r4
 ·exact h.off k (by rw [<- r4]; exact e)
 ·rw [r4] at e
  injection e with e
  have e2:(W.alloc (.cells #[.slice a0 m0 c0] 27)).heap.size=W.heap.size+1:=by simp
  exact ⟨fun g=>by have:=hF _ g; omega,fun g=>by have:=hM _ g; omega⟩
theorem eA.set {F M:Nat->Prop} {W:World} {g c:Nat} {l:List (List Nat)} (h:eA F M W (.slice (some ⟨g,0,none⟩) l.length c) l) (i:Nat) {u:Value} {x:List Nat} (hu:FP F W u x) :
  eA F M (W.setCell ⟨g,i,none⟩ u) (.slice (some ⟨g,0,none⟩) l.length c) (l.set i x)/\Rg.Kp (fun k=>k=g) W (W.setCell ⟨g,i,none⟩ u):=by
 obtain ⟨B,us,h0,h1,h2⟩:=h.own;have hk:Rg.Kp (fun k=>k=g) W (W.setCell ⟨g,i,none⟩ u):=Rg.Kp.aL rfl;have hg:∀ k,F k->¬ k=g:=fun k e e2=>(h.off g rfl).1 (e2▸e);have L0:=h2.kp hk hg;refine ⟨⟨⟨B,us.set i u,Nat.le_trans h0 hk.size,?_,?_,fun j hj CA=>?_⟩,h.off⟩,hk⟩
 ·rw [List.length_set]; exact (h1.stored i u).1
 ·rw [List.length_set,List.length_map,List.length_set,<- List.length_map (f:=Ma.ag)]; exact h2.1
 ·have e1:j<us.length:=by rwa [List.length_set] at hj
  have e2:j<l.length:=by rwa [List.length_map,List.length_set] at CA
  by_cases e:i=j
  ·subst e
   simp only [List.getElem_set_self,List.getElem_map];exact Rg.FI.kp hu hk hg
  ·simp only [List.getElem_set_ne e,List.getElem_map]
   have:=L0.2 j e1 (by rw [List.length_map]; exact e2)
   simpa using this
theorem eA.frozen {F M:Nat->Prop} {W:World} {g n c:Nat} {l:List (List Nat)} (h:eA F M W (.slice (some ⟨g,0,none⟩) n c) l) (hn:n=l.length) (i:Nat):W.frozen? ⟨g,i,none⟩=false:=by
 subst hn;obtain ⟨B,us,h0,h1,h2⟩:=h.own;exact h1.frozenAt i
end
section
open Go.RowKit
attribute [local irreducible] Go.Calls Go.wpList
theorem Ky (x n:Int) (w:World) (h0:0<n) (h1:n<=1000):Calls Tryz.prog 116 #[.int .i64 x,.int .i64 n] w fun e w'=>e=.returned (.int .i64 (oB x n))/\Below w.heap.size w w':=by
 have qK:¬ n=0:=by omega
 have h2:=Int.tmod_lt_of_pos x h0
 have h3:-n<x.tmod n:=by
  have:=Int.lt_tmod_of_pos x h0;omega
 by_cases aE:x.tmod n<0
 ·rw [show oB x n=x.tmod n+n from if_pos aE]
  go_enter Tryz.func116,Tryz.ntmps116
  go_wp2;go_ret;exact ⟨rfl,Below.refl _ _⟩
 ·rw [show oB x n=x.tmod n from if_neg aE]
  go_enter Tryz.func116,Tryz.ntmps116
  go_wp2;go_ret;exact ⟨rfl,Below.refl _ _⟩
end
section
open Go.RowKit
open Go.Proofs.Cm (Tr)
attribute [local irreducible] Go.Calls Go.wpList
theorem KI.iR {F F' M M':Nat->Prop} {w w':World} (h:KI F w F' w' M) (hM:∀ z,M z->M' z):KI F w F' w' M':=⟨h.kg,h.kp.iR hM,h.new⟩
theorem KI.trans {F F' XM M:Nat->Prop} {w w' w'':World} (h:KI F w F' w' M) (h':KI F' w' XM w'' M):KI F w XM w'' M :=
 ⟨h.kg.trans h'.kg,Rg.Kp.trans (M:=M) h.kp h'.kp (fun _ _ e=>e),fun k hk=>by
  rcases h'.new k hk with e | e
  ·exact h.new k e
  ·exact .inr (Nat.le_trans h.kp.size e)⟩
end
section
open Go.RowKit
open Go.Proofs.Ob
open Go.Proofs.Cm (Tr)
attribute [local irreducible] Go.Calls Go.wpList
theorem eA.nil (F M:Nat->Prop) (W:World):eA F M W (.slice none 0 0) []:=⟨⟨W.heap.size,[],Nat.le_refl _,World.ownsRow_nil _ _ _ _,Rg.bx.nil _ _⟩,fun k e=>by simp [Value.ownBlock] at e⟩
end
section
open Go.RowKit
open Go.Proofs.Cm (Tr)
theorem G2 {o:Oper} {a:Act} {x1:Value} (F:FuncId) (f x:Operand) (nV:Array TypeId) (ho:o.op=.call { callee:=.value f,args:=#[x],argTypes:=nV }) (hf:a.eval f=.func (.func F) #[] #[u1]) (hx:a.eval x=x1)
  (hF:(callFunc F #[x1,u1]).run Tryz.prog w=.ok (.enter F #[x1,u1]) w):(execOp a.eval o).run Tryz.prog w=.ok (.enter F #[x1,u1]) w:=by
 unfold execOp;simp [ho,hx,hf,resolve,invoke,Deferred.ofValue,hF]
theorem CW.up {b:Nat} (h:CW w b v) (hb:Below w.heap.size w w'):CW w' b v:=h.jj hb
theorem eA.jj {l:List (List Nat)} (h:eA F M W v l) (hb:Below W.heap.size W W'):eA F M W' v l:=by
 obtain ⟨B,us,g0,g1,g2⟩:=h.own;exact ⟨⟨B,us,Nat.le_trans g0 hb.size,Rg.bE g1 hb,g2.kp (M:=fun _=>False) (Rg.Kp.az hb) (fun _ _=>id)⟩,h.off⟩
theorem KG.bX {F0:Nat->Prop} (h:KG F0 w0 F w) (hb:Below w.heap.size w w'):KG F0 w0 F w':=h.Dh (KF.az hb)
end
section
open Go.RowKit
attribute [local irreducible] Go.Calls
theorem D8 (x:Int) (w:World):Calls Tryz.prog 162 #[.int .i64 x] w fun e w'=>e=.returned (.bool false)/\w'=w:=by
 go_enter Tryz.func162,Tryz.ntmps162
 go_wp2;go_ret;exact ⟨by simp,rfl⟩
theorem jG (x:Int) (w:World):Calls Tryz.prog 141 #[.int .i64 x] w fun e w'=>e=.returned (.bool false)/\w'=w:=by
 go_enter Tryz.func141,Tryz.ntmps141
 go_wp2;go_ret;exact ⟨by simp,rfl⟩
theorem iH (x y:Int) (w:World):Calls Tryz.prog 140 #[.int .i64 x,.int .i64 y] w fun e w'=>e=.returned (.bool (decide (x<y)))/\w'=w:=by
 go_enter Tryz.func140,Tryz.ntmps140
 go_wp2_with (go_at_call 162; refine (D8 _ _).mono ?_; rintro e w' ⟨rfl,rfl⟩)
 go_ret;exact ⟨rfl,rfl⟩
theorem uB (v:Value) (l:List Int) (x:Int) (w:World) (h:Rg.Ints w v l) (hs:l.Pairwise (·<=·)) (XL:l.length<1000000) :
  Calls Tryz.prog 112 #[v,.int .i64 x] w fun e w'=>e=.returned (.tuple #[.int .i64 ((l.countP (· < x):Nat):Int),.bool (l.contains x)])/\Below w.heap.size w w':=by
 obtain ⟨ad,cap,rfl,zZ,_,_,aO⟩:=h.shape;have S:=U (show ∀ a b,a<=b->b<l.length->l.getD a 0<=l.getD b 0 from Lib.sorted_at l l.length (Nat.le_refl _) (by rw [List.take_length]; exact hs));have HC:=U aO;clear hs h aO zZ
 go_enter Tryz.func112,Tryz.ntmps112
 go_wp2
 go_loopg [7,8] l.length (fun g s7 s8 wr=>∃ lo hi:Nat,s7=.int .i64 lo/\s8=.int .i64 hi/\lo<=hi/\hi<=l.length/\hi - lo<=g/\wr=w/\Hid ((∀ t,t<lo->l.getD t 0<x)/\(∀ t,hi<=t->t<l.length->x<=l.getD t 0)))
 case atStart=>exact ⟨0,l.length,rfl,rfl,Nat.zero_le _,Nat.le_refl _,by omega,rfl,U ⟨fun t ht=>absurd ht (Nat.not_lt_zero _),fun t h1 h2=>by omega⟩⟩
 case round =>
  obtain ⟨lo,hi,rfl,rfl,hlh,bF,hg,rfl,I⟩:=hrel
  by_cases aE:lo<hi
  ·obtain ⟨b,off,rfl,hb,hc⟩:=HC.p (by omega)
   have cm:wr.cell? ⟨b,off+(lo+hi) / 2,none⟩=some (.int .i64 (l.getD ((lo+hi) / 2) 0)):=by
    rw [hc ((lo+hi) / 2) (by omega),List.getD_eq_getElem?_getD,List.getElem?_eq_getElem (by omega)]; rfl
   clear hc;generalize hy:l.getD ((lo+hi) / 2) 0=y at cm;have Y:=U hy;clear hy
   by_cases Up:y<x
   ·go_wp2_with (first | (go_at_call 140; refine (iH _ _ _).mono ?_; rintro e w' ⟨rfl,rfl⟩) | (go_at_call 141; refine (jG _ _).mono ?_; rintro e w' ⟨rfl,rfl⟩))
    go_roundg (hi - ((lo+hi) / 2+1))
    case measure=>omega
    case rel =>
     refine ⟨(lo+hi) / 2+1,hi,by rw [show ((lo:Int)+(hi:Int)) / 2+1=(((lo+hi) / 2+1:Nat):Int) by omega],rfl,by omega,bF,Nat.le_refl _,rfl,U ⟨fun t ht=>?_,I.p.2⟩⟩;have:=S.p t ((lo+hi) / 2) (by omega) (by omega);rw [Y.p] at this;omega
   ·go_wp2_with (first | (go_at_call 140; refine (iH _ _ _).mono ?_; rintro e w' ⟨rfl,rfl⟩) | (go_at_call 141; refine (jG _ _).mono ?_; rintro e w' ⟨rfl,rfl⟩))
    go_roundg ((lo+hi) / 2 - lo)
    case measure=>omega
    case rel =>
     refine ⟨lo,(lo+hi) / 2,rfl,by rw [show ((lo:Int)+(hi:Int)) / 2=(((lo+hi) / 2:Nat):Int) by omega],by omega,by omega,Nat.le_refl _,rfl,U ⟨I.p.1,fun t ht jH=>?_⟩⟩;have:=S.p ((lo+hi) / 2) t ht jH;rw [Y.p] at this;omega
  ·have:hi=lo:=by omega
   subst this;have E:=U (Lib.search_end l l.length hi x (Nat.le_refl _) bF I.p.1 I.p.2 S.p);rw [List.take_length] at E
   by_cases hn:hi<l.length
   ·obtain ⟨b,off,rfl,hb,hc⟩:=HC.p (by omega)
    have cl:wr.cell? ⟨b,off+hi,none⟩=some (.int .i64 (l.getD hi 0)):=by
     rw [hc hi hn,List.getD_eq_getElem?_getD,List.getElem?_eq_getElem hn]; rfl
    clear hc;generalize hy:l.getD hi 0=y at cl;have Y:=U hy;clear hy
    by_cases Up:y=x
    ·go_wp2_with (first | (go_at_call 140; refine (iH _ _ _).mono ?_; rintro e w' ⟨rfl,rfl⟩) | (go_at_call 141; refine (jG _ _).mono ?_; rintro e w' ⟨rfl,rfl⟩))
     go_ret2
     refine ⟨?_,Below.refl _ _⟩;rw [E.p.1,E.p.2,Y.p,decide_eq_true (show hi<l.length/\y=x from ⟨hn,Up⟩)]
     first | rfl | simp [*]
    ·go_wp2_with (first | (go_at_call 140; refine (iH _ _ _).mono ?_; rintro e w' ⟨rfl,rfl⟩) | (go_at_call 141; refine (jG _ _).mono ?_; rintro e w' ⟨rfl,rfl⟩))
     go_ret2
     refine ⟨?_,Below.refl _ _⟩;rw [E.p.1,E.p.2,Y.p,decide_eq_false (show ¬ (hi<l.length/\y=x) from fun h=>Up h.2)]
     first | rfl | simp [*]
   ·go_wp2_with (first | (go_at_call 140; refine (iH _ _ _).mono ?_; rintro e w' ⟨rfl,rfl⟩) | (go_at_call 141; refine (jG _ _).mono ?_; rintro e w' ⟨rfl,rfl⟩))
    go_ret2
    refine ⟨?_,Below.refl _ _⟩;rw [E.p.1,E.p.2,decide_eq_false (show ¬ (hi<l.length/\l.getD hi 0=x) from fun h=>hn h.1)]
    first | rfl | simp [*]
end
section
open Go.Proofs.Cm (Gr Gd ak bT St Tr Fx ap Rp pL Sd dS lu)
def lZ (O:List (List Nat)) (R:List (List (List Nat))):Tr:=fun i p=>if p∈O.getD i [] then some ((R.getD i []).getD ((O.getD i []).idxOf p) []) else none
theorem tI {i p:Nat} (h:p∈O.getD i []):lZ O R i p=some ((R.getD i []).getD ((O.getD i []).idxOf p) []):=if_pos h
theorem Kz {i p:Nat} (h:¬ p∈O.getD i []):lZ O R i p=none:=if_neg h
theorem Nd {i p:Nat} {u:List Nat} (h:lZ O R i p=some u):p∈O.getD i []/\u=(R.getD i []).getD ((O.getD i []).idxOf p) []:=by
 unfold lZ at h
 split at h
 ·rename_i hm; injection h with h; exact ⟨hm,h.symm⟩
 ·cases h
theorem KD {l:List Nat} {p:Nat} (h:p∈l):l.getD (l.idxOf p) 0=p:=by
 have hl:=List.idxOf_lt_length_of_mem h;rw [List.getD_eq_getElem?_getD,List.getElem?_eq_getElem hl];exact List.getElem_idxOf hl
theorem oC (h:ak n H O R) {i p:Nat} (hi:i<n) {u:List Nat} (hu:lZ O R i p=some u):lu n (fun z=>St H i z/\ap z i=p) u:=by
 obtain ⟨hm,rfl⟩:=Nd hu;have:=h.rep i _ hi (List.idxOf_lt_length_of_mem hm)
 rwa [KD hm] at this
theorem G3 (hH:bT n H) {i:Nat} (hi:i<n) {u:List Nat} (h:lu n (fun z=>St H i z/\ap z i=i) u):u=Ma.bh n:=by
 have hg:=hH.gd u h.1.1.1
 rcases h.2 (Ma.bh n) ⟨⟨hH.one,Fx.one (by omega)⟩,Cm.cF hi⟩ with e | ⟨j,hj,h1,h2⟩
 ·exact e.symm
 ·rw [Cm.cF hj] at h2
  have h3:=h1 _ h2;rw [Cm.cF (by omega)] at h3;have:=Cm.jz hg (by omega) hj h3;omega
theorem z7 (hH:bT n H) (h:ak n H O R):pL n H (lZ O R):=by
 refine ⟨⟨fun i p u _ hi hu=>hH.gd u (oC h hi hu).1.1.1,fun i p u _ hi hu=>(oC h hi hu).1.1.2,fun i p u _ hi hu=>(oC h hi hu).1.2,fun i _ hi=>?_⟩,fun i p u hi hu=>(oC h hi hu).1.1.1,fun i x hi hx=>?_⟩
 ·have hm:i∈O.getD i []:=(h.orb i i hi).2 ⟨Ma.bh n,⟨hH.one,Fx.one (by omega)⟩,Cm.cF hi⟩
  have e:=tI (R:=R) hm;rw [e];exact congrArg some (G3 hH hi (oC h hi e))
 ·exact ⟨_,tI ((h.orb i _ hi).2 ⟨x,hx,rfl⟩)⟩
theorem xq:∀ {l:List Nat} {p:Nat},l.Pairwise (· < ·)->p∈l->(Ma.ag l).countP (· < ((p:Nat):Int))=l.idxOf p
 | [],p,_,h=>by simp at h
 | a :: l,p,hs,h=>by
  rw [List.pairwise_cons] at hs;show (((a:Nat):Int) :: Ma.ag l).countP _=_;rw [List.countP_cons]
  by_cases e:a=p
  ·subst e
   have:(Ma.ag l).countP (fun x=>decide (x<((a:Nat):Int)))=0:=by
    rw [List.countP_eq_zero];intro x hx;obtain ⟨y,hy,rfl⟩:=List.mem_map.1 hx;have:=hs.1 y hy;simp;omega
   rw [this];simp
  ·have hm:p∈l:=by
    rcases List.mem_cons.1 h with h | h
    ·exact absurd h.symm e
    ·exact h
   have aE:=hs.1 p hm;rw [xq hs.2 hm,List.idxOf_cons,if_pos (by simp; omega)]
   have:(a == p)=false:=by simpa using e
   rw [this]; rfl
theorem pR {l:List Nat} {p:Nat}:(Ma.ag l).contains ((p:Nat):Int)=decide (p∈l):=by
 rw [Bool.eq_iff_iff,List.contains_iff_mem,decide_eq_true_iff]
 constructor
 ·intro h
  obtain ⟨y,hy,e⟩:=List.mem_map.1 h
  have:y=p:=by omega
  exact this▸hy
 ·intro h
  exact List.mem_map.2 ⟨p,h,rfl⟩
theorem I9 {l:List Nat} (h:l.Pairwise (· < ·)):(Ma.ag l).Pairwise (·<=·):=by
 unfold Ma.ag;rw [List.pairwise_map];exact h.imp (fun {a b} h=>by omega)
def vr (n:Nat) (O:List (List Nat)) (R:List (List (List Nat))) (x:List Nat):Nat × List Nat:=dS n (lZ O R) n x
theorem Nf (hH:bT n H) (h:ak n H O R) {x:List Nat} (gx:Gd n x):(vr n O R x).1=n↔H x:=by
 have ht:=z7 hH h
 constructor
 ·intro e
  have key:∀ d x,d<=n->Gd n x->(dS n (lZ O R) d x).1=n->H (dS n (lZ O R) d x).2->H x:=by
   intro d
   induction d with
   | zero=>intro x _ _ _ h; exact h
   | succ d ih =>
    intro x hd gx he hx
    cases hu:lZ O R (n - (d+1)) (ap x (n - (d+1))) with
    | none =>
     rw [Cm.kd hu] at he;simp at he;omega
    | some u =>
     rw [Cm.jg hu] at he hx;have XN:=ht.mem _ _ _ (by omega) hu;have gu:=hH.gd u XN;have:=ih _ (by omega) (Cm.aV gx (Cm.aN gu)) he hx;have h2:=hH.mul _ _ this XN
     rwa [Cm.mul_inv_cancel gx gu] at h2
  have kS:(dS n (lZ O R) n x).2=Ma.bh n:=by
   have h1:=Cm.nY ht.rp (d:=n) (x:=x) (Nat.le_refl _) (Nat.zero_le _) gx (by rw [Nat.sub_self]; intro j hj; omega);refine Fx.all h1.2.2.1 ?_;have h2:=h1.2.2.2.1;have e2:(dS n (lZ O R) n x).1=n:=e
   rwa [e2] at h2
  exact key n x (Nat.le_refl _) gx e (by rw [kS]; exact hH.one)
 ·intro hx
  have key:∀ d x,d<=n->St H (n - d) x->(dS n (lZ O R) d x).1=n:=by
   intro d
   induction d with
   | zero=>intro x _ _; rfl
   | succ d ih =>
    intro x hd hx;obtain ⟨u,hu⟩:=ht.all (n - (d+1)) x (by omega) hx;rw [Cm.jg hu];have gx:=hH.gd x hx.1;have hs:=Cm.wo ht.rp (Nat.zero_le _) (by omega) gx hx.2 hu;refine ih _ (by omega) ⟨hH.mul _ _ hx.1 (hH.inv _ (ht.mem _ _ _ (by omega) hu)),?_⟩;rw [show n - d=n - (d+1)+1 by omega];exact hs.2
  exact key n x (Nat.le_refl _) ⟨hx,by rw [Nat.sub_self]; intro j hj; omega⟩
end
section
open Go.RowKit
open Go.Shelf
open Go.Proofs.Cm (Tr Gd ap dS)
attribute [local irreducible] Go.Calls Go.wpList
def lD (tr:Tr):List Nat->List Nat->Option (List Nat)
 | [],x=>some x
 | i :: l,x=>match tr i (ap x i) with
  | none=>none
  | some u=>lD tr l (Ma.aj x (Ma.aS u))
theorem z8 (tr:Tr):∀ (l:List Nat) (x:List Nat) (i:Nat) {y u:List Nat},lD tr l x=some y->tr i (ap y i)=some u->lD tr (l++[i]) x=some (Ma.aj y (Ma.aS u))
 | [],x,i,y,u,h,h2=>by
  cases h
  show (match tr i (ap x i) with | none=>none | some u=>lD tr [] (Ma.aj x (Ma.aS u)))=_
  rw [h2]; rfl
 | j :: l,x,i,y,u,h,h2=>by
  have h':(match tr j (ap x j) with | none=>none | some u=>lD tr l (Ma.aj x (Ma.aS u)))=some y:=h
  show (match tr j (ap x j) with | none=>none | some u=>lD tr (l++[i]) (Ma.aj x (Ma.aS u)))=_
  cases e:tr j (ap x j) with
  | none=>rw [e] at h'; cases h'
  | some v =>
   rw [e] at h';exact z8 tr l _ i h' h2
theorem D9 (tr:Tr):∀ (l m:List Nat) (x:List Nat),lD tr (l++m) x=(lD tr l x).bind (lD tr m)
 | [],m,x=>rfl
 | j :: l,m,x=>by
  show (match tr j (ap x j) with | none=>none | some u=>lD tr (l++m) (Ma.aj x (Ma.aS u)))=Option.bind (match tr j (ap x j) with | none=>none | some u=>lD tr l (Ma.aj x (Ma.aS u))) _
  cases tr j (ap x j) with
  | none=>rfl
  | some v=>exact D9 tr l m _
theorem qs {n:Nat} {tr:Tr} {x:List Nat}:∀ {k:Nat} {y:List Nat},k<=n->lD tr (List.range k) x=some y->dS n tr n x=dS n tr (n - k) y
 | 0,y,_,h=>by cases h; rfl
 | k+1,y,hk,h=>by
  rw [List.range_succ,D9] at h
  cases e:lD tr (List.range k) x with
  | none=>rw [e] at h; cases h
  | some z =>
   rw [e] at h;rw [qs (by omega) e]
   have h':(match tr k (ap z k) with | none=>none | some u=>lD tr [] (Ma.aj z (Ma.aS u)))=some y:=h
   have ek:n - (n - (k+1)+1)=k:=by omega
   rw [show n - k=n - (k+1)+1 by omega]
   cases e2:tr k (ap z k) with
   | none=>rw [e2] at h'; cases h'
   | some u =>
    rw [e2] at h'
    cases h'
    exact Cm.jg (by rw [ek]; exact e2)
theorem KH {tr:Tr} {x y:List Nat} {k:Nat} (hk:k<n) (h:lD tr (List.range k) x=some y) (h2:tr k (ap y k)=none):dS n tr n x=(k,y):=by
 rw [qs (Nat.le_of_lt hk) h,show n - k=n - (k+1)+1 by omega]
 have ek:n - (n - (k+1)+1)=k:=by omega
 rw [Cm.kd (by rw [ek]; exact h2),ek]
theorem KJ {tr:Tr} {x y:List Nat} (h:lD tr (List.range n) x=some y):dS n tr n x=(n,y):=by
 rw [qs (Nat.le_refl _) h,Nat.sub_self]; rfl
theorem Bm {n:Nat} {tr:Tr} (ht:∀ i p u,i<n->tr i p=some u->Gd n u):∀ {l:List Nat} {x y:List Nat},(∀ i∈l,i<n)->Gd n x->lD tr l x=some y->Gd n y
 | [],x,y,_,gx,h=>by cases h; exact gx
 | i :: l,x,y,hl,gx,h=>by
  have h':(match tr i (ap x i) with | none=>none | some u=>lD tr l (Ma.aj x (Ma.aS u)))=some y:=h
  cases e:tr i (ap x i) with
  | none=>rw [e] at h'; cases h'
  | some u =>
   rw [e] at h';exact Bm ht (fun j hj=>hl j (List.mem_cons_of_mem _ hj)) (Cm.aV gx (Cm.aN (ht i _ u (hl i (List.mem_cons_self ..)) e))) h'
theorem kD {m:Nat}:∀ {k:Nat},k<=m->(dD m k).map (fun x=>x.1)=List.range k
 | 0,_=>rfl
 | k+1,h=>by
  rw [kY h,List.map_append,kD (Nat.le_of_succ_le h),List.range_succ]; rfl
theorem Bn {g:Operand} {ps:Array Go.Tmp} {assign body:Code} {Q:Exit->Act->World->Prop} {a:Act} {m fb:Nat} {ad:Option Addr} {RV:Nat->Value}
  (hg:a.eval g=.func (.func 97) #[] #[.pointer (some ⟨fb,0,none⟩)]) (lA:CL w fb 2 (.slice ad m cap)) (h:Bg n₀ w ad m RV) (DS:ps.size=2)
  (I:List (Fin m)->World->Prop) (Ix:Code->List (Fin m)->World->Prop) (hI:OwnFrom w.heap.size I) (hIx:∀ c,OwnFrom w.heap.size (Ix c)) (h0:I [] w) (lV:Fin m->Act)
  (oy:∀ (l:Nat) (x:Fin m) (W:World) (K:Act->World->Prop),K (lV x) W->assign.wpIn (Fence.wide.inRound l) 1 Tryz.prog (Exit.then K (fun _ _ _=>False)) { tmps:=(ps.zip #[Value.int .i64 ((x.1:Nat):Int),RV x.1]).foldl (fun t (p,v)=>t.setIfInBounds p v) a.tmps,defers:=[] } W)
  (wZ:∀ (l:Nat) (pre:List (Fin m)) (x:Fin m) (W:World),I pre W->pre.length<m->body.wpIn (Fence.wide.inRound l) 1 Tryz.prog (ownPostG w.heap.size (Below n₀) I Ix (pre++[x]) W) (lV x) W)
  (w_:∀ (D:Nat) (W:World),w.heap.size<=D->I (dD m m) W->RF.ef D W->Q .normal { a with defers:=RF.mark D :: a.defers } W)
  (xd:∀ (D:Nat) (c:Code) (k:Nat) (W:World),w.heap.size<=D->k<=m->Ix c (dD m k) W->RF.ef D W->c.wp Tryz.prog Q { a with defers:=RF.mark D :: a.defers } W) :
  (Code.rangeFunc g ps assign body).wp Tryz.prog Q a w :=
 wpIn_wide.1 (wpIn_rangeFunc_ownG (F:=Fence.wide) (n:=3) rfl (by decide) (gf:=97) (lb:=#[.pointer (some ⟨fb,0,none⟩)]) hg trivial (enters_of Tryz.func97 (by kernel_rfl) rfl)
  (uz h lA 2 (by decide)) belowK_t (belowK_b h.sz) (Below.refl _ _) (fun _=>DS.symm) I Ix hI hIx h0 lV oy wZ
  (fun D xs W hD hx hi hd=>by subst hx; exact w_ D W hD hi hd) (fun D c pre W hD hp hi hd=>by obtain ⟨k,hk,rfl⟩:=hp; exact wpIn_wide.2 (xd D c k W hD hk hi hd)))
theorem Ng {row:Option Nat} (hg:W.grownBy W' row) (hr:∀ r,row=some r->∃ o:Obj,W.heap[r]?=some o/\o.isCells=false) {a:Addr} (h:W.cell? a=some v):W'.cell? a=some v:=by
 have key:W'.heap[a.block]?=W.heap[a.block]?:=by
  unfold World.cell? at h
  cases e:W.heap[a.block]? with
  | none=>rw [e] at h; cases h
  | some o =>
   rw [e] at h;have aE:=(Array.getElem?_eq_some_iff.1 e).1;refine (hg.block _ aE fun e2=>?_).trans e;obtain ⟨o',ho,hc⟩:=hr _ e2.symm;rw [e] at ho
   cases ho
   cases o <;> simp at h <;> cases hc
 rw [World.cell?_of_block key];exact h
theorem tJ {row:Option Nat} (hg:W.grownBy W' row) (hr:∀ r,row=some r->∃ o:Obj,W.heap[r]?=some o/\o.isCells=false) {us:List Value} (h:Rg.cB F W v us):Rg.cB F W' v us:=by
 obtain ⟨a,cap,e,h1,h2,h3,h4⟩:=h;refine ⟨a,cap,e,h1,h2,h3,fun h0=>?_⟩;obtain ⟨b,o,e1,e2,e3,e4⟩:=h4 h0;exact ⟨b,o,e1,Nat.lt_of_lt_of_le e2 hg.size,e3,fun i hi=>Ng hg hr (e4 i hi)⟩
theorem Nh {row:Option Nat} (hg:W.grownBy W' row) (hr:∀ r,row=some r->∃ o:Obj,W.heap[r]?=some o/\o.isCells=false) {p:List Nat} (h:FP F W v p):FP F W' v p:=tJ hg hr h
def vt (w:World) (z:Nat):Prop:=z<w.heap.size∨w.heap.size+4<=z
structure ry (w:World) (n:Int) (ov rv:Value) (W:World) (yv:Value) (y:List Nat):Prop where
 bX:Below w.heap.size w W
 a0:CL W w.heap.size 0 (.int .i64 n)
 a1:CL W w.heap.size 1 ov
 a2:CL W w.heap.size 2 rv
 cx:CW W (w.heap.size+1) yv
 c4:CW W (w.heap.size+2) (.slice none 0 0)
 c5:CW W (w.heap.size+3) (.int .i64 0)
 fp:FP (vt w) W yv y
theorem KM {p:List Nat} (h:FP F w v p) (hb:Below w.heap.size w w'):FP F w' v p:=h.kf (KF.az hb)
theorem ry.jj {w:World} {n:Int} {ov rv:Value} {W W':World} {yv:Value} {y:List Nat} (h:ry w n ov rv W yv y) (hb:Below W.heap.size W W'):ry w n ov rv W' yv y :=
 ⟨h.bX.trans (hb.mono h.bX.size),h.a0.up hb,h.a1.up hb,h.a2.up hb,h.cx.jj hb,h.c4.jj hb,h.c5.jj hb,KM h.fp hb⟩
theorem ry.keep {n:Int} {y:List Nat} {row:Option Nat} (h:ry w n ov rv W yv y) (hB:w.heap.size+4<=B) (hg:W.grownBy W' row) (hr:∀ r,row=some r->B<=r/\∃ o:Obj,W.heap[r]?=some o/\o.isCells=false):ry w n ov rv W' yv y:=by
 have hk:Rg.Kp (fun k=>row=some k) W W':=Rg.Kp.cE hg fun _ e=>e
 have hM:∀ b,b<B->¬ row=some b:=fun b hb e=>by have:=(hr b e).1; omega
 exact ⟨h.bX.grown hg h.bX.size (fun k e=>by have:=(hr k e).1; omega),h.a0.kp hk (hM _ (by omega)),h.a1.kp hk (hM _ (by omega)),h.a2.kp hk (hM _ (by omega)),h.cx.kp hk (hM _ (by omega)),h.c4.kp hk (hM _ (by omega)),h.c5.kp hk (hM _ (by omega)),Nh hg (fun r e=>(hr r e).2) h.fp⟩
theorem ry.set {w:World} {n:Int} {ov rv:Value} {W:World} {yv QA:Value} {y y':List Nat} (h:ry w n ov rv W yv y) (hp:FP (vt w) W QA y'):ry w n ov rv (W.setCell ⟨w.heap.size+1,0,none⟩ QA) QA y':=by
 have hk:Rg.Kp (fun z=>z=w.heap.size+1) W (W.setCell ⟨w.heap.size+1,0,none⟩ QA):=Rg.Kp.aL rfl;exact ⟨h.bX.setCell (p:=⟨w.heap.size+1,0,none⟩) (by show w.heap.size<=w.heap.size+1; omega) _,h.a0.kp hk (by omega),h.a1.kp hk (by omega),h.a2.kp hk (by omega),h.cx.set _,h.c4.kp hk (by omega),h.c5.kp hk (by omega),Rg.FI.kp hp hk (fun z hz e=>by unfold vt at hz; omega)⟩
theorem QB {p:List Nat} (hW:w.heap.size+4<=W.heap.size) (hv:Rg.px W W' v p):FP (vt w) W' v p:=by
 refine (FP.new (F:=vt w) hv).mono fun k hk=>?_
 rcases hk with hk | hk
 ·exact hk
 ·exact .inr (by omega)
structure Ni (w W:World) (i:Nat) (yv:Value) (y:List Nat):Prop where
 bX:Below w.heap.size w W
 c4:CW W (w.heap.size+2) yv
 c5:CW W (w.heap.size+3) (.int .i64 ((i:Nat):Int))
 fp:FP (vt w) W yv y
theorem Ni.keep {i:Nat} {y:List Nat} {row:Option Nat} (h:Ni w W i yv y) (hB:w.heap.size+4<=B) (hg:W.grownBy W' row) (hr:∀ r,row=some r->B<=r/\∃ o:Obj,W.heap[r]?=some o/\o.isCells=false):Ni w W' i yv y:=by
 have hk:Rg.Kp (fun k=>row=some k) W W':=Rg.Kp.cE hg fun _ e=>e
 have hM:∀ b,b<B->¬ row=some b:=fun b hb e=>by have:=(hr b e).1; omega
 exact ⟨h.bX.grown hg h.bX.size (fun k e=>by have:=(hr k e).1; omega),h.c4.kp hk (hM _ (by omega)),h.c5.kp hk (hM _ (by omega)),Nh hg (fun r e=>(hr r e).2) h.fp⟩
theorem ry.stop {n:Int} {y:List Nat} (h:ry w n ov rv W yv y) (i:Nat):Ni w ((W.setCell ⟨w.heap.size+2,0,none⟩ yv).setCell ⟨w.heap.size+3,0,none⟩ (.int .i64 ((i:Nat):Int))) i yv y:=by
 have ir:Rg.Kp (fun z=>z=w.heap.size+2) W (W.setCell ⟨w.heap.size+2,0,none⟩ yv):=Rg.Kp.aL rfl;have cO:Rg.Kp (fun z=>z=w.heap.size+3) (W.setCell ⟨w.heap.size+2,0,none⟩ yv) ((W.setCell ⟨w.heap.size+2,0,none⟩ yv).setCell ⟨w.heap.size+3,0,none⟩ (.int .i64 ((i:Nat):Int))):=Rg.Kp.aL rfl
 exact ⟨(h.bX.setCell (p:=⟨w.heap.size+2,0,none⟩) (by show w.heap.size<=w.heap.size+2; omega) _).setCell (p:=⟨w.heap.size+3,0,none⟩) (by show w.heap.size<=w.heap.size+3; omega) _,(h.c4.set _).other _ (by omega),(h.c5.other _ (by omega)).set _,
  Rg.FI.kp (Rg.FI.kp h.fp ir (fun z hz e=>by unfold vt at hz; omega)) cO (fun z hz e=>by unfold vt at hz; omega)⟩
end
section
open Go.RowKit
open Go.Proofs.Ob
open Go.Shelf
open Go.Proofs.Cm (Tr Gd ap dS)
attribute [local go_sem] Oper.semAt_some
attribute [local irreducible] Go.Calls Go.wpList Go.wpListIn
theorem G4 (args:Array Value) (w:World):(callFunc 112 args).run Tryz.prog w=.ok (.enter 112 args) w:=by kernel_rfl
theorem gU {fn:Func} {p u:Go.Tmp} {t1 t2:TypeId} (h:fn.results=#[.cell p t1,.cell u t2]) (tmps:Array Value) {b1 b2:Nat} (hp:tmps.getD p undef=.pointer (some ⟨b1,0,none⟩)) (hu:tmps.getD u undef=.pointer (some ⟨b2,0,none⟩))
  (h1:(loadVar t1 ⟨b1,0,none⟩).run Tryz.prog w=.ok v1 w) (h2:(loadVar t2 ⟨b2,0,none⟩).run Tryz.prog w=.ok v2 w) :
  (results fn tmps).run Tryz.prog w=.ok (.tuple #[v1,v2]) w:=by
 have sR:tmps[p]?.getD undef=.pointer (some ⟨b1,0,none⟩):=by simpa using hp
 have eB:tmps[u]?.getD undef=.pointer (some ⟨b2,0,none⟩):=by simpa using hu
 simp [results,h,sR,eB,asAddr,h1,h2,Result.andThen]
theorem pS {o:Oper} {a:Act} (ho:o.op=.alloc 27):(execOp a.eval o).run Tryz.prog w=.ok (.value (.pointer (some ⟨w.heap.size,0,none⟩))) (w.alloc (.cells #[.slice none 0 0] 27)):=by
 obtain ⟨i0,hi,cN,bs,dI⟩:=info_parts cU;unfold execOp;simp [ho,Instr.alloc,typeInfo,zeroValue,hi,cN,newVar,Value.cells,Result.andThen];rfl
theorem eh (hc:∀ a,W'.cell? a=W.cell? a) (hs:W.heap.size<=W'.heap.size) {us:List Value} (h:Rg.cB F W v us):Rg.cB F W' v us:=by
 obtain ⟨a,cap,e,h1,h2,h3,h4⟩:=h;refine ⟨a,cap,e,h1,h2,h3,fun h0=>?_⟩;obtain ⟨b,o,e1,e2,e3,e4⟩:=h4 h0;exact ⟨b,o,e1,Nat.lt_of_lt_of_le e2 hs,e3,fun i hi=>(hc _).trans (e4 i hi)⟩
def Bo (n:Nat) (O:List (List Nat)) (R:List (List (List Nat))) (x:List Nat) (w:World) (e:Ending) (w':World):Prop:=∃ v,e=.returned (.tuple #[v,.int .i64 (((vr n O R x).1:Nat):Int)])/\Rg.NP w' v (vr n O R x).2/\Below w.heap.size w w'
theorem z_ {x:List Nat} {tmps:Array Value} {y:List Nat} {i:Nat} {ds:List Nat} (hb:Below w.heap.size w W) (h4:CW W (w.heap.size+2) yv) (h5:CW W (w.heap.size+3) (.int .i64 ((i:Nat):Int))) (hp:FP (vt w) W yv y) (he:vr n O R x=(i,y)) (p4:tmps.getD 4 undef=.pointer (some ⟨w.heap.size+2,0,none⟩)) (p5:tmps.getD 5 undef=.pointer (some ⟨w.heap.size+3,0,none⟩)) (hnd:ds.Nodup) (hD:∀ D,D∈ds->RF.ef D W/\w.heap.size<=D) :
  LeavesInM Fence.wide 0 Tryz.prog Tryz.f90 tmps (Bo n O R x w) (ds.map RF.mark) .returning W :=
 RF.leaves w.heap.size ds W hnd hD fun W' l1 l2 _=>⟨_,gU rfl _ p4 p5 (Rg.ae _ _ Tryz.underlying27 ((l2 _).trans h4.c)) (ah ((l2 _).trans h5.c)),yv,by rw [he],by rw [he]; exact FP.np (eh l2 l1.size hp),hb.trans l1⟩
def XO {m:Nat} (w:World) (tr:Tr) (x:List Nat) (pre:List (Fin m)) (W:World):Prop:=∃ vT X yv y,pre=vT++[X]/\Ni w W X.1 yv y/\lD tr (vT.map fun z=>z.1) x=some y/\tr X.1 (ap y X.1)=none
theorem Bp {m k:Nat} (hk:k<=m) {pre:List (Fin m)} {x:Fin m} (h:dD m k=pre++[x]):k=x.1+1/\pre=dD m x.1:=by
 cases k with
 | zero=>have:=congrArg List.length h; simp [DR] at this
 | succ k =>
  rw [kY hk] at h;obtain ⟨e1,e2⟩:=List.append_inj' h rfl
  injection e2 with e2
  subst e2;exact ⟨rfl,e1.symm⟩
theorem o_ {y:List Nat} (h:Gd n y) {z:Nat} (hz:z∈y):z<n:=by
 obtain ⟨i,hi,rfl⟩:=List.getElem_of_mem hz;have:=Cm.cy h (i:=i) (by rw [<- h.2]; exact hi)
 rwa [Cm.jf hi] at this
theorem Nj {l:List Nat} {q k:Nat} (h:Rg.Ints w v (Ma.ag l)) (hs:l.Pairwise (· < ·)) (hl:l.length<1000000) (hm:q∈l) (hk:Hid (l.idxOf q=k)) :
  Calls Tryz.prog 112 #[v,.int .i64 ((q:Nat):Int)] w fun e w'=>e=.returned (.tuple #[.int .i64 ((k:Nat):Int),.bool true])/\Below w.heap.size w w':=by
 refine (uB v (Ma.ag l) q w h (I9 hs) (by rw [Ma.ar]; exact hl)).mono ?_;rintro e w' ⟨rfl,hb⟩;exact ⟨by rw [xq hs hm,pR,decide_eq_true hm,hk.p],hb⟩
theorem QC {l:List Nat} {q:Nat} (h:Rg.Ints w v (Ma.ag l)) (hs:l.Pairwise (· < ·)) (hl:l.length<1000000) (hm:¬ q∈l) :
  Calls Tryz.prog 112 #[v,.int .i64 ((q:Nat):Int)] w fun e w'=>∃ k,e=.returned (.tuple #[.int .i64 k,.bool false])/\Below w.heap.size w w':=by
 refine (uB v (Ma.ag l) q w h (I9 hs) (by rw [Ma.ar]; exact hl)).mono ?_;rintro e w' ⟨rfl,hb⟩;exact ⟨_,by rw [pR,decide_eq_false hm],hb⟩
theorem G6 (bQ:1<=n) (cC:n<=64) (hH:Cm.bT n H) (cK:Cm.ak n H O R) (Ga:OO=O.map Ma.ag) (D_:RR=R.map (List.map Ma.ag)) {x:List Nat} (h:bg w ov rv OO RR) (hx:Rg.NP w xv x) (gx:Gd n x) :
  Calls Tryz.prog 90 #[.agg #[.int .i64 ((n:Nat):Int),ov,rv],xv] w (Bo n O R x w):=by
 obtain ⟨oa,oc,rfl,-,Ue,-,-⟩:=h.1.shape;obtain ⟨ra,rc,rfl⟩:=h.2.shape;obtain ⟨xa,xc,rfl,-⟩:=Rg.Ints.shape hx;have y0:x.length=n:=gx.2;rw [Ma.ar,y0] at hx ⊢;have HO:=U h.1;have HR:=U h.2;have HX:=U hx;have GX:=U gx;have HH:=U hH;have ew:=U cK;have HOO:=U Ga;have Uq:=U D_;have Kr:=U (show OO.length=n by rw [Ga,List.length_map,cK.gK]);have rm:=U (show RR.length=n by rw [D_,List.length_map,cK.iq]);have Ur:=U (show ∀ i p u,i<n->lZ O R i p=some u->Gd n u from fun i p u hi hu=>(z7 hH cK).rp.gd i p u (Nat.zero_le _) hi hu);have K:=U (Below.refl w.heap.size w);clear h hx gx hH cK Ga D_ y0;refine RF.fX Tryz.func90 rfl ?_;simp only [Tryz.ntmps90,List.size_toArray,List.length_cons,List.length_nil,Nat.reduceAdd,Nat.reduceSub,Array.replicate_succ,Array.replicate_zero,List.push_toArray,List.append_toArray,List.nil_append,List.cons_append]
 have aQ:=gR w (.int .i64 ((n:Nat):Int)) (.slice oa OO.length oc) (.slice ra RR.length rc)
 have hs:(w.alloc (.cells #[.int .i64 ((n:Nat):Int),.slice oa OO.length oc,.slice ra RR.length rc] 25)).heap.size=w.heap.size+1:=by simp
 go_upto_region 0 with (fail);refine d3 ?_;refine d4 2 (Rg.bq _ _ rfl rfl) ?_;go_frame;have hb:Below w.heap.size w (w.alloc (.cells #[.int .i64 ((n:Nat):Int),.slice oa OO.length oc,.slice ra RR.length rc] 25)):=(Below.refl _ _).alloc (Nat.le_refl _) _;generalize w.alloc (.cells #[.int .i64 ((n:Nat):Int),.slice oa OO.length oc,.slice ra RR.length rc] 25)=w1 at *;have A0:=U aQ.1;have A1:=U aQ.2.1;have A2:=U aQ.2.2;replace K:=U hb;have mq:w1.heap.size=w.heap.size+1:=hs;clear aQ hb hs;have cD:=CW.new w1 (.slice xa n xc) 27
 have hs:(w1.alloc (.cells #[.slice xa n xc] 27)).heap.size=w1.heap.size+1:=by simp
 refine d4 3 (hZ (v:=.slice xa n xc) _ _ rfl rfl rfl) ?_;go_frame;have hb:=(Below.refl w1.heap.size w1).alloc (Nat.le_refl _) (.cells #[.slice xa n xc] 27);generalize w1.alloc (.cells #[.slice xa n xc] 27)=w2 at *;replace A0:=U (A0.p.jj hb);replace A1:=U (A1.p.jj hb);replace A2:=U (A2.p.jj hb);replace K:=U (Rg.acc K.p hb);clear hb;rw [mq] at cD ⊢
 have iD:w2.heap.size=w.heap.size+2:=by omega
 have CX:=U cD;clear cD hs;have cD:=CW.new w2 (.slice none 0 0) 27
 have hs:(w2.alloc (.cells #[.slice none 0 0] 27)).heap.size=w2.heap.size+1:=by simp
 refine d4 4 (pS rfl) ?_;go_frame;have hb:=(Below.refl w2.heap.size w2).alloc (Nat.le_refl _) (.cells #[.slice none 0 0] 27);generalize w2.alloc (.cells #[.slice none 0 0] 27)=w3 at *;replace A0:=U (A0.p.jj hb);replace A1:=U (A1.p.jj hb);replace A2:=U (A2.p.jj hb);replace CX:=U (CX.p.jj hb);replace K:=U (Rg.acc K.p hb);clear hb;rw [iD] at cD ⊢
 have Bi:w3.heap.size=w.heap.size+3:=by omega
 have C4:=U cD;clear cD hs;have cD:=CW.new w3 (.int .i64 0) 3
 have hs:(w3.alloc (.cells #[.int .i64 0] 3)).heap.size=w3.heap.size+1:=by simp
 refine d4 5 (mH rfl) ?_;go_frame;have hb:=(Below.refl w3.heap.size w3).alloc (Nat.le_refl _) (.cells #[.int .i64 0] 3);generalize w3.alloc (.cells #[.int .i64 0] 3)=w4 at *;replace A0:=U (A0.p.jj hb);replace A1:=U (A1.p.jj hb);replace A2:=U (A2.p.jj hb);replace CX:=U (CX.p.jj hb);replace C4:=U (C4.p.jj hb);replace K:=U (Rg.acc K.p hb);clear hb;rw [Bi] at cD ⊢
 have M7:w4.heap.size=w.heap.size+4:=by omega
 have C5:=U cD;clear cD hs;have QD:=U (show Rg.Ints w4 (.slice xa n xc) (Ma.ag x) from Rg.Ints.jj HX.p K.p);go_upto_region 1 with (fail);refine d3 ?_;refine d4 10 (g8 (.slice xa n xc) ⟨(w.heap.size+1),0,none⟩ (Rg.ae _ _ Tryz.underlying27 CX.p.c)) ?_;go_frame;refine f7 11 (aF 75 _ _ rfl rfl (tB _ _)) ?_;refine (mD _ (Ma.ag x) w4 QD.p (by rw [Ma.ar,GX.p.2]; exact bQ) (by rw [Ma.ar,GX.p.2]; omega)).mono ?_;rintro e1 w5 ⟨yv0,rfl,XP,hb⟩;have Us:FP (vt w) w5 yv0 x:=gG.fi ⟨XP⟩ (by rw [Ma.ar,GX.p.2]; omega) (G:=vt w) (fun k g1 g2=>.inr (by omega));obtain ⟨XQ,XR,XS,rfl⟩:=FP.dQ Us GX.p bQ;clear XP;refine ⟨_,rfl,?_⟩;go_frame;replace A0:=U (A0.p.jj hb);replace A1:=U (A1.p.jj hb);replace A2:=U (A2.p.jj hb);replace CX:=U (CX.p.jj hb);replace C4:=U (C4.p.jj hb)
 replace C5:=U (C5.p.jj hb);replace QD:=U (QD.p.jj hb);replace K:=U (Rg.acc K.p hb);clear hb;have HY:=U Us;refine Rg.aD none rfl rfl (Rg.ai _ _ _ rfl _ rfl _ rfl (Rg.bn _ cU CX.p.c CX.p.f)) ?_;go_frame;clear Us;have jW:=ry.set (yv:=.slice xa n xc) (y:=x) (show ry w ((n:Nat):Int) (.slice oa OO.length oc) (.slice ra RR.length rc) w5 (.slice xa n xc) x from ⟨K.p,A0.p,A1.p,A2.p,CX.p,C4.p,C5.p,(show FP (vt w) w5 (.slice xa n xc) x from (Rg.FI.mono (Rg.FI.kp (Rg.FI.pz HX.p) (Rg.Kp.az (M:=fun _=>False) K.p) (fun _ _=>id)) (fun k hk=>.inl hk)))⟩) HY.p;have dR:w.heap.size+4<=w5.heap.size:=C5.p.lt
 have XT:(w5.setCell ⟨w.heap.size+1,0,none⟩ (.slice (some ⟨XQ,XR,none⟩) n XS)).heap.size=w5.heap.size:=by simp
 rw [<- XT] at dR;generalize w5.setCell ⟨w.heap.size+1,0,none⟩ (.slice (some ⟨XQ,XR,none⟩) n XS)=uY at *;have SI:=U jW;have xi:=U dR;clear jW dR XT mq iD Bi M7 A0 A1 A2 CX C4 C5 QD HY;replace K:=U SI.p.bX;go_upto_region 2 with (fail);refine d3 ?_;refine d4 12 (g8 ((.agg #[.int .i64 ((n:Nat):Int),.slice oa OO.length oc,.slice ra RR.length rc])) ⟨w.heap.size,0,none⟩ (aM SI.p.a0.cell SI.p.a1.cell SI.p.a2.cell)) ?_;go_frame;refine f7 13 (aF 74 _ _ rfl rfl (GN _ _)) ?_;refine (tE _ _ _ uY).mono ?_;rintro e1 cW ⟨fb,rfl,lA,hb⟩;have dR:=hb.size;refine ⟨_,rfl,?_⟩;go_frame;replace SI:=U (SI.p.jj hb);replace K:=U (Rg.acc K.p hb);clear hb;have FB:=U lA;clear lA;have lW:=U (show w.heap.size+4<=cW.heap.size by have:=xi.p; omega);clear dR;obtain ⟨us,uM,xj,DV⟩:=HR.p;have M8:=U DV
 have DW:Bg w.heap.size cW ra RR.length (fun k=>us[k]?.getD undef):=by
  obtain ⟨a',c',e,q1,q2,q3,q4⟩:=uM
  injection e with e1 e2 e3
  refine ⟨by have:=rm.p; omega,fun h0=>?_,fun b off e5 j hj=>?_,K.p.size⟩
  ·obtain ⟨b,o,e4,e5,_⟩:=q4 (by omega)
   exact ⟨b,o,e1.trans e4,e5⟩
  ·obtain ⟨b',o',e4,e6,e7⟩:=q4 (by omega)
   rw [e1,e4] at e5;simp only [Option.some.injEq,Addr.mk.injEq,and_true] at e5;obtain ⟨rfl,rfl⟩:=e5;rw [(K.p.cell (p:=⟨b',o'+j,none⟩) e6)];show _=some (us[j]?.getD undef);rw [List.getElem?_eq_getElem (by omega)];exact e7 j (by omega)
 have xk:=U DW;have xn:=U xj;clear uM DW xj DV;go_wp2
 refine Bn rfl FB.p xk.p rfl (fun pre W=>∃ yv y,ry w ((n:Nat):Int) (.slice oa OO.length oc) (.slice ra RR.length rc) W yv y/\lD (lZ O R) (pre.map fun z=>z.1) x=some y)
  (fun c pre W=>c=.ret/\XO w (lZ O R) x pre W) ?hI ?hIx ⟨_,_,SI.p,rfl⟩ ?a1 ?assign ?body ?done ?stop
 case assign =>
  intro l x W K hK
  gi_wp2
  exact hK
 case hI =>
  rintro pre W W' row ⟨yv,y,h1,h2⟩ hg hr;exact ⟨yv,y,h1.keep (by have:=lW.p; omega) hg hr,h2⟩
 case hIx =>
  rintro c pre W W' row ⟨rfl,vT,X,yv,y,h1,h2,h3⟩ hg hr;exact ⟨rfl,vT,X,yv,y,h1,h2.keep (by have:=lW.p; omega) hg hr,h3⟩
 case body =>
  rintro l pre ⟨X,hX⟩ Wb ⟨yv,y,jW,Ea⟩ Xz;obtain ⟨B,hB⟩:∃ B,cW.heap.size=B:=⟨_,rfl⟩;rw [hB] at lW ⊢;clear FB xk SI K hB
  have pE:X<n:=by have:=rm.p; omega
  have gy:Gd n y:=Bm Ur.p (fun i hi=>by obtain ⟨z,_,rfl⟩:=List.mem_map.1 hi; have:=z.2; have:=rm.p; omega) GX.p Ea;obtain ⟨ya,yo,yc,rfl⟩:=FP.dQ jW.fp gy bQ;have SI:=U jW;have K:=U jW.bX;have KQ:=U (KK.refl (B:=B) (n₀:=w.heap.size) (W:=Wb) jW.bX.size);have QE:=U Ea;have GY:=U gy;have qo:=U hX;have qp:=U (show X<OO.length by have:=Kr.p; omega);have KN:=U pE;have Qz:=U (show w.heap.size+4<=Wb.heap.size from jW.c5.lt);clear jW Ea;have hu:=M8.p X (by rw [xn.p]; exact hX) hX
  have e1:us[X]?.getD undef=us[X]'(by rw [xn.p]; exact hX):=by rw [List.getElem?_eq_getElem (by rw [xn.p]; exact hX)]; rfl
  rw [<- e1] at hu
  dsimp only
  generalize us[X]?.getD undef=u at *;clear e1;obtain ⟨rl,rq⟩:∃ rl:List (List Nat),Hid (R.getD X []=rl):=⟨_,U rfl⟩;obtain ⟨ol,qe⟩:∃ ol:List Nat,Hid (O.getD X []=ol):=⟨_,U rfl⟩
  have Eb:RR[X]'hX=rl.map Ma.ag:=by
   rw [<- rq.p]
   have Bq:X<R.length:=by rw [ew.p.iq]; exact pE
   have:RR[X]'hX=(R.map (List.map Ma.ag))[X]'(by rw [List.length_map]; exact Bq):=by first | (congr 1; done) | (congr 1; exact Uq.p)
   rw [this,List.getElem_map,df Bq]
  have QF:OO[X]'qp.p=Ma.ag ol:=by
   rw [<- qe.p]
   have QG:X<O.length:=by rw [ew.p.gK]; exact pE
   have:OO[X]'qp.p=(O.map Ma.ag)[X]'(by rw [List.length_map]; exact QG):=by first | (congr 1; done) | (congr 1; exact HOO.p)
   rw [this,List.getElem_map,df QG]
  rw [Eb] at hu;have XV:=U (show rl.length=ol.length by rw [<- rq.p,<- qe.p]; exact ew.p.len X pE);have Ss:=U (show ol.Pairwise (· < ·) by rw [<- qe.p]; exact ew.p.eK X pE);have Ue:=hU HH.p ew.p pE;rw [qe.p] at Ue;obtain ⟨ua,uc,rfl,-,-,-,DY⟩:=hu.shape;have Uf:=U DY;obtain ⟨oa',XC,e2,_,_,_,pD⟩:=HO.p.shape
  injection e2 with e3 _ e5
  subst e3 e5;obtain ⟨ob,oo,rfl,AV,pD⟩:=pD (by have:=qp.p; omega);obtain ⟨yv,Kt,Bj⟩:=pD X qp.p;rw [QF] at Bj;obtain ⟨qa,qc,rfl,-⟩:=Bj.shape;rw [Ma.ar] at Bj Kt;rw [List.length_map];have CO:=U (CL.mk Kt AV);have IO:=U Bj;obtain ⟨q,hq⟩:∃ q:Nat,Hid (ap y X=q):=⟨_,U rfl⟩;have CX:=U (show CL Wb ya (yo+X) (.int .i64 ((q:Nat):Int)) by rw [<- hq.p]; exact CL.mk (SI.p.fp.ap GY.p pE).cell (SI.p.fp.ap GY.p pE).lt);clear DY pD Kt Bj AV hu Eb QF
  by_cases hm:q∈ol
  case neg =>
   skip
   gi_upto_region 5 with (fail)
   have aq:Below Wb.heap.size Wb Wb.drew:=(Below.refl _ _).drew;replace SI:=U (SI.p.jj aq);replace KQ:=U (KQ.p.jj aq);replace CX:=U (CX.p.jj aq);replace K:=U (Rg.acc K.p aq);clear aq;refine Rg.Any.rr (hnd:=by kernel_rfl) (S:=Rg.aG 14 (fun W=>Below Wb.drew.heap.size Wb.drew W) (fun W=>Below w.heap.size w W)) mix ?_;generalize Wb.drew=fG at *;have hS:∀ (l:Array Bool) W,Below fG.heap.size fG W->Below w.heap.size w W->Rg.aG 14 (fun W=>Below fG.heap.size fG W) (fun W=>Below w.heap.size w W) l W:=fun l W h h2=>⟨.inr h,h2⟩;have bW:∀ (l:Array Bool) W,l.getD 14 false=true->Below w.heap.size w W->Rg.aG 14 (fun W=>Below fG.heap.size fG W) (fun W=>Below w.heap.size w W) l W:=fun l W h h2=>⟨.inl h,h2⟩;have hI:=K.p;refine d7 0 14 (.pointer (some ⟨w.heap.size,1,none⟩)) 17 rfl rfl (.inl ⟨rfl,fun w _=>af _ rfl rfl (gQ _ _)⟩) (hS _ _ (Below.refl _ _) hI) ?_;go_frame
   refine i7 1 14 (.slice (some ⟨ob,oo,none⟩) OO.length oc) 18 rfl rfl (i9 ⟨w.heap.size,1,none⟩ (fun W hW=>Rg.ae _ _ Tryz.underlying22 ((Below.cell (p:=⟨w.heap.size,1,none⟩) hW SI.p.a1.lt).trans SI.p.a1.cell))) (hS _ _ (Below.refl _ _) hI) ?_;go_frame;refine d7 2 14 (.int .i64 ((X:Nat):Int)) 19 rfl rfl (.inl ⟨rfl,fun w _=>Rg.cI (v:=.int .i64 ((X:Nat):Int)) _ rfl rfl⟩) (hS _ _ (Below.refl _ _) hI) ?_;go_frame;refine d7 3 14 (.pointer (some ⟨ob,oo+X,none⟩)) 20 rfl rfl (Rg.aA bU _ _ rfl rfl ob (oo) (OO.length) oc (X) rfl rfl qp.p) (hS _ _ (Below.refl _ _) hI) ?_;go_frame;refine d7 4 14 (.slice qa ol.length qc) 21 rfl rfl (i9 ⟨ob,oo+X,none⟩ (fun W hW=>Rg.ae _ _ Tryz.underlying26 ((Below.cell (p:=⟨ob,oo+X,none⟩) hW CO.p.lt).trans CO.p.cell))) (hS _ _ (Below.refl _ _) hI) ?_;go_frame;refine i7 5 14 (.slice (some ⟨ya,yo,none⟩) n yc) 22 rfl rfl (i9 ⟨(w.heap.size+1),0,none⟩ (fun W hW=>Rg.ae _ _ Tryz.underlying27 ((Below.cell (p:=⟨(w.heap.size+1),0,none⟩) hW SI.p.cx.lt).trans SI.p.cx.c))) (hS _ _ (Below.refl _ _) hI) ?_;go_frame
   refine d7 6 14 (.int .i64 ((X:Nat):Int)) 23 rfl rfl (.inl ⟨rfl,fun w _=>Rg.cI (v:=.int .i64 ((X:Nat):Int)) _ rfl rfl⟩) (hS _ _ (Below.refl _ _) hI) ?_;go_frame;refine d7 7 14 (.pointer (some ⟨ya,yo+X,none⟩)) 24 rfl rfl (Rg.aA cj _ _ rfl rfl ya (yo) (n) yc (X) rfl rfl KN.p) (hS _ _ (Below.refl _ _) hI) ?_;go_frame;refine i7 8 14 (.int .i64 ((q:Nat):Int)) 25 rfl rfl (i9 ⟨ya,yo+X,none⟩ (fun W hW=>ah ((Below.cell (p:=⟨ya,yo+X,none⟩) hW CX.p.lt).trans CX.p.cell))) (hS _ _ (Below.refl _ _) hI) ?_;go_frame;refine Rg.Any.one (i:=9) (by kernel_rfl) (Rg.Any.ask (some 26) rfl rfl rfl _ _ (aw 112 _ _ _ rfl rfl rfl (G4 _ _)) ?_);refine (QC (IO.p.jj hI) Ss.p (by omega) hm).mono ?_;rintro e1 fU ⟨kk,rfl,hb⟩;have aJ:=Rg.acc hI hb;have cL:=hb;clear hb hI;refine ⟨_,rfl,(hS _ _ cL aJ),?_⟩
   go_frame;refine d7 10 14 (.tuple #[.int .i64 kk,.bool false]) 16 rfl rfl (.inl ⟨rfl,fun w _=>Rg.cI (v:=.tuple #[.int .i64 kk,.bool false]) _ rfl rfl⟩) (hS _ _ cL aJ) ?_;go_frame;refine d7 11 14 (.int .i64 kk) 27 rfl rfl (.inl ⟨rfl,fun w _=>aX (v:=.int .i64 kk) _ _ rfl rfl rfl⟩) (hS _ _ cL aJ) ?_;go_frame;refine d7 12 14 (.bool false) 28 rfl rfl (.inl ⟨rfl,fun w _=>aX (v:=.bool false) _ _ rfl rfl rfl⟩) (hS _ _ cL aJ) ?_;go_frame;refine d7 13 14 (.int .i64 kk) 8 rfl rfl (.inl ⟨rfl,fun w _=>Rg.cw (v:=.int .i64 kk) _ rfl rfl⟩) (hS _ _ cL aJ) ?_;go_frame;refine i8 14 9 rfl rfl (c6 (.bool false) _ rfl rfl) (bW _ _ rfl aJ) ?_;go_frame;refine Rg.Any.done (by kernel_rfl) ?_ _;refine Rg.lU ?_;replace SI:=U (SI.p.jj cL);replace KQ:=U (KQ.p.jj cL);replace CX:=U (CX.p.jj cL)
   replace K:=U aJ;clear bW;clear hS aJ cL
   gi_upto_region 6 with (fail)
   refine wpIn_region_list ?_;refine Rg.ax (some 29) rfl rfl (fun _ hh=>by cases hh) (a7 (.bool false) _ rfl rfl) ?_;go_frame;refine Rg.ax (some 30) rfl rfl (fun _ hh=>by cases hh) (bm _ _ false rfl rfl) ?_;go_frame
   gi_upto_region 7 with (fail)
   refine wpIn_region_list ?_;refine Rg.ax (some 31) rfl rfl (fun _ hh=>by cases hh) (g8 (.slice (some ⟨ya,yo,none⟩) n yc) ⟨(w.heap.size+1),0,none⟩ (Rg.ae _ _ Tryz.underlying27 SI.p.cx.c)) ?_;go_frame;refine Rg.ax (some 32) rfl rfl (fun _ hh=>by cases hh) (a7 (.int .i64 ((X:Nat):Int)) _ rfl rfl) ?_;go_frame;refine Rg.fJ none rfl rfl (fun _ hh=>by cases hh) (Rg.ai _ _ _ rfl _ rfl _ rfl (Rg.bn _ cU SI.p.c4.c SI.p.c4.f)) ?_;go_frame;refine Rg.fJ none rfl rfl (fun _ hh=>by cases hh) (Rg.ai _ _ _ rfl _ rfl _ rfl (bI _ (SI.p.c5.other _ (by omega)).c (SI.p.c5.other _ (by omega)).f)) ?_;go_frame;have Nk:=SI.p.stop X;have wR:=(KQ.p.set (b:=w.heap.size+2) (o:=0) (.slice (some ⟨ya,yo,none⟩) n yc) (by omega)).set (b:=w.heap.size+3) (o:=0) (.int .i64 ((X:Nat):Int)) (by omega)
   generalize (fU.setCell ⟨w.heap.size+2,0,none⟩ (.slice (some ⟨ya,yo,none⟩) n yc)).setCell ⟨w.heap.size+3,0,none⟩ (.int .i64 ((X:Nat):Int))=dT at *;have SS:=U Nk;have QX:=U wR;have HTN:=U (show lZ O R X (ap y X)=none from Kz (by rw [qe.p,hq.p]; exact hm));have SX:=U (show XO w (lZ O R) x (pre++[⟨X,qo.p⟩]) dT from ⟨pre,⟨X,qo.p⟩,_,y,rfl,SS.p,QE.p,HTN.p⟩);clear Nk wR
   gi_wp2
   exact ⟨QX.p.keeps,rfl,SX.p⟩
  case pos =>
   obtain ⟨k,hk⟩:∃ k:Nat,Hid (ol.idxOf q=k):=⟨_,U rfl⟩
   have cg:k<ol.length:=by rw [<- hk.p]; exact List.idxOf_lt_length_of_mem hm
   have Br:k<rl.length:=by have:=XV.p; omega
   have HKR:=U Br;obtain ⟨ub,uo,rfl,vn,DZ⟩:=Uf.p (by rw [List.length_map]; omega);obtain ⟨sv,hsc,jW⟩:=DZ k (by rw [List.length_map]; exact Br);obtain ⟨s,hs⟩:∃ s:List Nat,Hid (rl[k]'Br=s):=⟨_,U rfl⟩
   have nI:Rg.NP w sv s:=by rw [<- hs.p]; rw [List.getElem_map] at jW; exact jW
   have XW:=U (show lZ O R X (ap y X)=some s by
    rw [hq.p];have e:=tI (R:=R) (show q∈O.getD X [] by rw [qe.p]; exact hm)
    rw [e,qe.p,hk.p,rq.p,<- hs.p,List.getD_eq_getElem?_getD,List.getElem?_eq_getElem Br]; rfl)
   have GS:=U (Ur.p X _ s pE XW.p);obtain ⟨sa,so,sc,rfl⟩:=(FP.tj nI).dQ GS.p bQ;have CS:=U (CL.mk hsc vn);have NS:=U (show Rg.Ints w _ (Ma.ag s) from nI);clear DZ hsc jW nI vn
   gi_upto_region 5 with (fail)
   have aq:Below Wb.heap.size Wb Wb.drew:=(Below.refl _ _).drew;replace SI:=U (SI.p.jj aq);replace KQ:=U (KQ.p.jj aq);replace CX:=U (CX.p.jj aq);replace K:=U (Rg.acc K.p aq);clear aq;refine Rg.Any.rr (hnd:=by kernel_rfl) (S:=Rg.aG 14 (fun W=>Below Wb.drew.heap.size Wb.drew W) (fun W=>Below w.heap.size w W)) mix ?_;generalize Wb.drew=fG at *;have hS:∀ (l:Array Bool) W,Below fG.heap.size fG W->Below w.heap.size w W->Rg.aG 14 (fun W=>Below fG.heap.size fG W) (fun W=>Below w.heap.size w W) l W:=fun l W h h2=>⟨.inr h,h2⟩;have bW:∀ (l:Array Bool) W,l.getD 14 false=true->Below w.heap.size w W->Rg.aG 14 (fun W=>Below fG.heap.size fG W) (fun W=>Below w.heap.size w W) l W:=fun l W h h2=>⟨.inl h,h2⟩;have hI:=K.p;refine d7 0 14 (.pointer (some ⟨w.heap.size,1,none⟩)) 17 rfl rfl (.inl ⟨rfl,fun w _=>af _ rfl rfl (gQ _ _)⟩) (hS _ _ (Below.refl _ _) hI) ?_;go_frame
   refine i7 1 14 (.slice (some ⟨ob,oo,none⟩) OO.length oc) 18 rfl rfl (i9 ⟨w.heap.size,1,none⟩ (fun W hW=>Rg.ae _ _ Tryz.underlying22 ((Below.cell (p:=⟨w.heap.size,1,none⟩) hW SI.p.a1.lt).trans SI.p.a1.cell))) (hS _ _ (Below.refl _ _) hI) ?_;go_frame;refine d7 2 14 (.int .i64 ((X:Nat):Int)) 19 rfl rfl (.inl ⟨rfl,fun w _=>Rg.cI (v:=.int .i64 ((X:Nat):Int)) _ rfl rfl⟩) (hS _ _ (Below.refl _ _) hI) ?_;go_frame;refine d7 3 14 (.pointer (some ⟨ob,oo+X,none⟩)) 20 rfl rfl (Rg.aA bU _ _ rfl rfl ob (oo) (OO.length) oc (X) rfl rfl qp.p) (hS _ _ (Below.refl _ _) hI) ?_;go_frame;refine d7 4 14 (.slice qa ol.length qc) 21 rfl rfl (i9 ⟨ob,oo+X,none⟩ (fun W hW=>Rg.ae _ _ Tryz.underlying26 ((Below.cell (p:=⟨ob,oo+X,none⟩) hW CO.p.lt).trans CO.p.cell))) (hS _ _ (Below.refl _ _) hI) ?_;go_frame;refine i7 5 14 (.slice (some ⟨ya,yo,none⟩) n yc) 22 rfl rfl (i9 ⟨(w.heap.size+1),0,none⟩ (fun W hW=>Rg.ae _ _ Tryz.underlying27 ((Below.cell (p:=⟨(w.heap.size+1),0,none⟩) hW SI.p.cx.lt).trans SI.p.cx.c))) (hS _ _ (Below.refl _ _) hI) ?_;go_frame
   refine d7 6 14 (.int .i64 ((X:Nat):Int)) 23 rfl rfl (.inl ⟨rfl,fun w _=>Rg.cI (v:=.int .i64 ((X:Nat):Int)) _ rfl rfl⟩) (hS _ _ (Below.refl _ _) hI) ?_;go_frame;refine d7 7 14 (.pointer (some ⟨ya,yo+X,none⟩)) 24 rfl rfl (Rg.aA cj _ _ rfl rfl ya (yo) (n) yc (X) rfl rfl KN.p) (hS _ _ (Below.refl _ _) hI) ?_;go_frame;refine i7 8 14 (.int .i64 ((q:Nat):Int)) 25 rfl rfl (i9 ⟨ya,yo+X,none⟩ (fun W hW=>ah ((Below.cell (p:=⟨ya,yo+X,none⟩) hW CX.p.lt).trans CX.p.cell))) (hS _ _ (Below.refl _ _) hI) ?_;go_frame;refine Rg.Any.one (i:=9) (by kernel_rfl) (Rg.Any.ask (some 26) rfl rfl rfl _ _ (aw 112 _ _ _ rfl rfl rfl (G4 _ _)) ?_);refine (Nj (IO.p.jj hI) Ss.p (by omega) hm hk).mono ?_;rintro e1 fU ⟨rfl,hb⟩;have a_:=Rg.acc hI hb;have bL:=hb;clear hb hI;refine ⟨_,rfl,(hS _ _ bL a_),?_⟩
   go_frame;refine d7 10 14 (.tuple #[.int .i64 ((k:Nat):Int),.bool true]) 16 rfl rfl (.inl ⟨rfl,fun w _=>Rg.cI (v:=.tuple #[.int .i64 ((k:Nat):Int),.bool true]) _ rfl rfl⟩) (hS _ _ bL a_) ?_;go_frame;refine d7 11 14 (.int .i64 ((k:Nat):Int)) 27 rfl rfl (.inl ⟨rfl,fun w _=>aX (v:=.int .i64 ((k:Nat):Int)) _ _ rfl rfl rfl⟩) (hS _ _ bL a_) ?_;go_frame;refine d7 12 14 (.bool true) 28 rfl rfl (.inl ⟨rfl,fun w _=>aX (v:=.bool true) _ _ rfl rfl rfl⟩) (hS _ _ bL a_) ?_;go_frame;refine d7 13 14 (.int .i64 ((k:Nat):Int)) 8 rfl rfl (.inl ⟨rfl,fun w _=>Rg.cw (v:=.int .i64 ((k:Nat):Int)) _ rfl rfl⟩) (hS _ _ bL a_) ?_;go_frame;refine i8 14 9 rfl rfl (c6 (.bool true) _ rfl rfl) (bW _ _ rfl a_) ?_;go_frame;refine Rg.Any.done (by kernel_rfl) ?_ _;refine Rg.lU ?_;replace SI:=U (SI.p.jj bL)
   replace KQ:=U (KQ.p.jj bL);replace CX:=U (CX.p.jj bL);replace K:=U a_;clear bW;clear hS a_ bL
   gi_upto_region 6 with (fail)
   refine wpIn_region_list ?_;refine Rg.ax (some 29) rfl rfl (fun _ hh=>by cases hh) (a7 (.bool true) _ rfl rfl) ?_;go_frame;refine Rg.ax (some 30) rfl rfl (fun _ hh=>by cases hh) (bm _ _ true rfl rfl) ?_;go_frame
   gi_upto_region 8 with (fail)
   have aq:Below fU.heap.size fU fU.drew:=(Below.refl _ _).drew;replace SI:=U (SI.p.jj aq);replace KQ:=U (KQ.p.jj aq);replace CX:=U (CX.p.jj aq);replace K:=U (Rg.acc K.p aq);clear aq;refine Rg.Any.rr (hnd:=by kernel_rfl) (S:=Rg.aG 7 (fun W=>Below fU.drew.heap.size fU.drew W) (fun W=>Below w.heap.size w W)) mix ?_;generalize fU.drew=qd at *;have hS:∀ (l:Array Bool) W,Below qd.heap.size qd W->Below w.heap.size w W->Rg.aG 7 (fun W=>Below qd.heap.size qd W) (fun W=>Below w.heap.size w W) l W:=fun l W h h2=>⟨.inr h,h2⟩;have bW:∀ (l:Array Bool) W,l.getD 7 false=true->Below w.heap.size w W->Rg.aG 7 (fun W=>Below qd.heap.size qd W) (fun W=>Below w.heap.size w W) l W:=fun l W h h2=>⟨.inl h,h2⟩;have hI:=K.p;refine i7 0 7 (.slice (some ⟨ya,yo,none⟩) n yc) 33 rfl rfl (i9 ⟨(w.heap.size+1),0,none⟩ (fun W hW=>Rg.ae _ _ Tryz.underlying27 ((Below.cell (p:=⟨(w.heap.size+1),0,none⟩) hW SI.p.cx.lt).trans SI.p.cx.c))) (hS _ _ (Below.refl _ _) hI) ?_;go_frame
   refine d7 1 7 (.slice (some ⟨ub,uo,none⟩) rl.length uc) 34 rfl rfl (.inl ⟨rfl,fun w _=>Rg.cI (v:=.slice (some ⟨ub,uo,none⟩) rl.length uc) _ rfl rfl⟩) (hS _ _ (Below.refl _ _) hI) ?_;go_frame;refine d7 2 7 (.int .i64 ((k:Nat):Int)) 35 rfl rfl (.inl ⟨rfl,fun w _=>Rg.cI (v:=.int .i64 ((k:Nat):Int)) _ rfl rfl⟩) (hS _ _ (Below.refl _ _) hI) ?_;go_frame;refine d7 3 7 (.pointer (some ⟨ub,uo+k,none⟩)) 36 rfl rfl (Rg.aA bP _ _ rfl rfl ub (uo) (rl.length) uc (k) rfl rfl HKR.p) (hS _ _ (Below.refl _ _) hI) ?_;go_frame;refine d7 4 7 (.slice (some ⟨sa,so,none⟩) n sc) 37 rfl rfl (i9 ⟨ub,uo+k,none⟩ (fun W hW=>Rg.ae _ _ Tryz.underlying27 ((Below.cell (p:=⟨ub,uo+k,none⟩) hW CS.p.lt).trans CS.p.cell))) (hS _ _ (Below.refl _ _) hI) ?_;go_frame;refine Rg.Any.one (i:=5) (by kernel_rfl) (Rg.Any.ask (some 38) rfl rfl rfl _ _ (aF 118 _ _ rfl rfl (Mj _ _)) ?_)
   refine (wG _ s qd (NS.p.jj hI) GS.p.1 (by rw [GS.p.2]; omega) (by rw [GS.p.2]; exact bQ)).mono ?_;rintro e1 XX ⟨iv,rfl,nA,hb⟩;replace nA:Rg.Ints _ iv (Ma.ag (Ma.aS s)):=nA.1;have dE:=Rg.acc hI hb;have aZ:=hb;clear hb hI;refine ⟨_,rfl,(hS _ _ aZ dE),?_⟩;go_frame;have IV:=U nA;have HZ:=U (show w.heap.size+4<=XX.heap.size from (SI.p.jj aZ).c5.lt);refine Rg.Any.one (i:=6) (by kernel_rfl) (Rg.Any.ask (some 39) rfl rfl rfl _ _ (aw 117 _ _ _ rfl rfl rfl (wI _ _)) ?_);refine (wF _ _ y (Ma.aS s) XX (SI.p.jj aZ).fp.np IV.p (fun z hz=>by rw [(Cm.aN GS.p).2]; exact o_ GY.p hz) (by rw [GY.p.2]; omega) (by rw [GY.p.2]; exact bQ) (by rw [(Cm.aN GS.p).2]; exact bQ)).mono ?_;rintro e1 w45 ⟨mv,rfl,kM,hb⟩;have QH:=QB HZ.p kM;obtain ⟨ma,mo,mc,rfl⟩:=QH.dQ (Cm.aV GY.p (Cm.aN GS.p)) bQ
   clear kM;have jq:=Rg.acc aZ hb;have kE:=Rg.acc dE hb;have dW:=hb;clear hb aZ dE;refine ⟨_,rfl,(hS _ _ jq kE),?_⟩;go_frame;have MV:=U QH;have Ut:=U (SI.p.jj jq);have KQ9:=U (KQ.p.jj jq);have MV9:=U MV.p;have G7:=kE.setCell (p:=⟨w.heap.size+1,0,none⟩) (by show w.heap.size<=w.heap.size+1; omega) (.slice (some ⟨ma,mo,none⟩) n mc);refine Rg.Any.one (i:=7) (by kernel_rfl) (Rg.Any.cA none rfl rfl rfl (Rg.ai _ _ _ rfl _ rfl _ rfl (Rg.bn _ cU Ut.p.cx.c Ut.p.cx.f)) (bW _ _ rfl G7) ?_);go_frame;clear jq kE dW;clear SI;clear KQ;clear CX;clear IV;clear MV;refine Rg.Any.done (by kernel_rfl) ?_ _;refine Rg.lU ?_;replace K:=U G7;clear bW;clear hS G7;have Su:=Ut.p.set MV9.p;have wR:=KQ9.p.set (b:=w.heap.size+1) (o:=0) (.slice (some ⟨ma,mo,none⟩) n mc) (by omega)
   generalize w45.setCell ⟨w.heap.size+1,0,none⟩ (.slice (some ⟨ma,mo,none⟩) n mc)=XF at *;have SI2:=U Su;have QX:=U wR
   have XY:=U (show lD (lZ O R) ((pre++[(⟨X,qo.p⟩:Fin RR.length)]).map fun z=>z.1) x=some (Ma.aj y (Ma.aS s)) by
    rw [List.map_append]
    exact z8 _ _ _ _ QE.p XW.p)
   clear Su wR
   gi_wp2
   exact ⟨QX.p.keeps,QX.p.bX,_,_,SI2.p,XY.p⟩
 case stop =>
  rintro D c k W hD hk ⟨rfl,vT,X,yv,y,h1,h2,h3,h4⟩ hd;obtain ⟨rfl,rfl⟩:=Bp hk h1;rw [kD (by omega)] at h3;go_wp2;exact z_ (ds:=[D]) h2.bX h2.c4 h2.c5 h2.fp (KH (by have:=X.2; have:=rm.p; omega) h3 h4) rfl rfl (by simp) (fun D' gH=>by simp at gH; subst gH; exact ⟨hd,by have:=lW.p; omega⟩)
 case done =>
  rintro D Wd hD ⟨yv,y,jW,Ea⟩ hd;rw [kD (Nat.le_refl _),rm.p] at Ea;have gy:Gd n y:=Bm Ur.p (fun i hi=>List.mem_range.1 hi) GX.p Ea;obtain ⟨ya,yo,yc,rfl⟩:=FP.dQ jW.fp gy bQ;have QE:=U Ea;have HD:=U (show w.heap.size<=D by have:=lW.p; omega);clear FB xk SI K Ea;have SI:=U jW;have DF:=U hd;have K:=U jW.bX;clear jW hd;go_upto_region 9 with (fail);have dr:Below Wd.heap.size Wd Wd.drew:=(Below.refl _ _).drew;replace SI:=U (SI.p.jj dr);replace DF:=U (DF.p.jj dr);clear dr;refine Rg.zX ?_;have aq:Below Wd.heap.size Wd Wd.drew:=(Below.refl _ _).drew;generalize c_ (fun _:Nat=>True) Wd Wd.drew=F1 at *;clear aq;refine Rg.Any.begin (S:=Rg.aG 4 (fun W:World=>W.cell? ⟨w.heap.size,0,none⟩=some (.int .i64 ((n:Nat):Int))/\W.cell? ⟨w.heap.size+1,0,none⟩=some (.slice (some ⟨ya,yo,none⟩) n yc)) (fun _=>True)) mix ?_
  generalize Wd.drew=Sv at *;have hS:∀ (l:Array Bool) W,(fun W:World=>W.cell? ⟨w.heap.size,0,none⟩=some (.int .i64 ((n:Nat):Int))/\W.cell? ⟨w.heap.size+1,0,none⟩=some (.slice (some ⟨ya,yo,none⟩) n yc)) W->Rg.aG 4 (fun W:World=>W.cell? ⟨w.heap.size,0,none⟩=some (.int .i64 ((n:Nat):Int))/\W.cell? ⟨w.heap.size+1,0,none⟩=some (.slice (some ⟨ya,yo,none⟩) n yc)) (fun _=>True) l W:=fun l W h=>⟨.inr h,trivial⟩;have bW:∀ (l:Array Bool) W,l.getD 4 false=true->Rg.aG 4 (fun W:World=>W.cell? ⟨w.heap.size,0,none⟩=some (.int .i64 ((n:Nat):Int))/\W.cell? ⟨w.heap.size+1,0,none⟩=some (.slice (some ⟨ya,yo,none⟩) n yc)) (fun _=>True) l W:=fun l W h=>⟨.inl h,trivial⟩;have hI:(fun W:World=>W.cell? ⟨w.heap.size,0,none⟩=some (.int .i64 ((n:Nat):Int))/\W.cell? ⟨w.heap.size+1,0,none⟩=some (.slice (some ⟨ya,yo,none⟩) n yc)) Sv:=⟨SI.p.a0.cell,SI.p.cx.c⟩
  refine i7 0 4 (.slice (some ⟨ya,yo,none⟩) n yc) 40 rfl rfl (i9 ⟨(w.heap.size+1),0,none⟩ (fun W hW=>Rg.ae _ _ Tryz.underlying27 hW.2)) (hS _ _ hI) ?_;go_frame;refine d7 1 4 (.pointer (some ⟨w.heap.size,0,none⟩)) 41 rfl rfl (.inl ⟨rfl,fun w _=>af _ rfl rfl (gP _ _)⟩) (hS _ _ hI) ?_;go_frame;refine i7 2 4 (.int .i64 ((n:Nat):Int)) 42 rfl rfl (i9 ⟨w.heap.size,0,none⟩ (fun W hW=>ah hW.1)) (hS _ _ hI) ?_;go_frame;have Nl:=(show _/\_ from ⟨(SI.p.a0.other (o:=0) (b':=w.heap.size+2) (.slice (some ⟨ya,yo,none⟩) n yc) (by omega)).cell,(SI.p.cx.other (o:=0) (b':=w.heap.size+2) (.slice (some ⟨ya,yo,none⟩) n yc) (by omega)).c⟩);refine Rg.Any.one (i:=3) (by kernel_rfl) (Rg.Any.cA none rfl rfl rfl (Rg.ai _ _ _ rfl _ rfl _ rfl (Rg.bn _ cU SI.p.c4.c SI.p.c4.f)) (hS _ _ Nl) ?_);go_frame
  refine Rg.Any.one (i:=4) (by kernel_rfl) (Rg.Any.cA none rfl rfl rfl (Rg.ai _ _ _ rfl _ rfl _ rfl (bI _ (SI.p.c5.other _ (by omega)).c (SI.p.c5.other _ (by omega)).f)) (bW _ _ rfl) ?_);go_frame;refine Rg.Any.done (by kernel_rfl) ?_ _;refine Rg.lU ?_;clear bW;clear hS Nl;have Nk:=SI.p.stop n;have hdd:=(RF.ef.setCell DF.p ⟨w.heap.size+2,0,none⟩ (.slice (some ⟨ya,yo,none⟩) n yc)).setCell ⟨w.heap.size+3,0,none⟩ (.int .i64 ((n:Nat):Int));generalize (Sv.setCell ⟨w.heap.size+2,0,none⟩ (.slice (some ⟨ya,yo,none⟩) n yc)).setCell ⟨w.heap.size+3,0,none⟩ (.int .i64 ((n:Nat):Int))=Sw at *;have SS:=U Nk;have DX:=U hdd;clear Nk hdd;go_wp2;exact z_ (ds:=[D]) SS.p.bX SS.p.c4 SS.p.c5 SS.p.fp (KJ QE.p) rfl rfl (by simp) (fun D' gH=>by simp at gH; subst gH; exact ⟨DX.p,HD.p⟩)
end
section
open Go.Proofs.Cm (Gr Gd ak bT St Tr ap dS lu)
open Classical in
noncomputable def bH (n:Int) (OO:List (List Int)) (RR:List (List (List Int))):Int:=if 1<=n/\n<=64 then (if fK n OO RR then 0 else 3) else 2
theorem Aa {n:Int}:mG n OO RR (bH n OO RR):=by
 unfold bH
 by_cases h:1<=n/\n<=64
 ·rw [if_pos h]
  by_cases h2:fK n OO RR
  ·rw [if_pos h2]; exact .inr ⟨h,.inl ⟨h2,rfl⟩⟩
  ·rw [if_neg h2]; exact .inr ⟨h,.inr ⟨h2,rfl⟩⟩
 ·rw [if_neg h]; exact .inl ⟨h,rfl⟩
theorem xr {n:Int} {c:Int} (h:mG n OO RR c):c=bH n OO RR:=h.uniq Aa
theorem fL {n:Int} (h:bH n OO RR=0):fK n OO RR:=by
 have:=Aa (n:=n) (OO:=OO) (RR:=RR);rw [h] at this;exact this.zero
theorem rz {n:Int} (h:fK n OO RR):bH n OO RR=0:=(xr (mG.of h)).symm
noncomputable def e_ (n:Int) (OO:List (List Int)) (RR:List (List (List Int))) (xl:List Int):Int :=
 if bH n OO RR=0 then (if Ma.bB xl=0 then (if (xl.length:Int)=n then 0 else 10) else Ma.bB xl) else bH n OO RR
theorem xt {n:Int} (h:¬ bH n OO RR=0):e_ n OO RR xl=bH n OO RR:=if_neg h
theorem uC {n:Int} (h:bH n OO RR=0) (h2:¬ Ma.bB xl=0):e_ n OO RR xl=Ma.bB xl:=by unfold e_; rw [if_pos h,if_neg h2]
theorem xu {n:Int} (h:bH n OO RR=0) (h2:Ma.bB xl=0) (h3:¬ (xl.length:Int)=n):e_ n OO RR xl=10:=by unfold e_; rw [if_pos h,if_pos h2,if_neg h3]
theorem Ab {n:Int} (h:bH n OO RR=0) (h2:Ma.bB xl=0) (h3:(xl.length:Int)=n):e_ n OO RR xl=0:=by unfold e_; rw [if_pos h,if_pos h2,if_pos h3]
theorem Ec {n:Int} (h:e_ n OO RR xl=0):∃ (N:Nat) (O:List (List Nat)) (R:List (List (List Nat))) (x:List Nat),n=((N:Nat):Int)/\1<=N/\N<=64/\OO=O.map Ma.ag/\RR=R.map (List.map Ma.ag)/\ak N (Gr N (·∈R.flatten)) O R/\bT N (Gr N (·∈R.flatten))/\xl=Ma.ag x/\Gd N x:=by
 by_cases h1:bH n OO RR=0
 ·by_cases h2:Ma.bB xl=0
  ·by_cases h3:(xl.length:Int)=n
   ·obtain ⟨N,O,R,rfl,a1,a2,a3,a4,a5,a6⟩:=fL h1
    obtain ⟨x,rfl,hx⟩:=Ma.kn (Ma.gW h2).2.2;rw [Ma.ar] at h3;exact ⟨N,O,R,x,rfl,a1,a2,a3,a4,a5,Gr.dC a6,rfl,hx,by omega⟩
   ·rw [xu h1 h2 h3] at h; cases h
  ·rw [uC h1 h2] at h; exact absurd h h2
 ·rw [xt h1] at h; exact absurd h h1
def l4 (l:List Int):List Nat:=l.map Int.toNat
theorem fM (l:List Nat):l4 (Ma.ag l)=l:=by
 unfold l4 Ma.ag;rw [List.map_map];exact (List.map_congr_left fun x _=>Int.toNat_natCast x).trans (List.map_id _)
theorem kF (l:List (List Nat)):(l.map Ma.ag).map l4=l:=by
 rw [List.map_map];exact (List.map_congr_left fun x _=>fM x).trans (List.map_id _)
theorem fY (l:List (List (List Nat))):(l.map (List.map Ma.ag)).map (List.map l4)=l:=by
 rw [List.map_map];exact (List.map_congr_left fun x _=>kF x).trans (List.map_id _)
def Uu (n:Int) (OO:List (List Int)) (RR:List (List (List Int))) (xl:List Int):Nat × List Nat:=vr n.toNat (OO.map l4) (RR.map (List.map l4)) (l4 xl)
theorem QI {x:List Nat}:Uu ((N:Nat):Int) (O.map Ma.ag) (R.map (List.map Ma.ag)) (Ma.ag x)=vr N O R x:=by
 unfold Uu;rw [kF,fY,fM,Int.toNat_natCast]
noncomputable def pF (n:Int) (OO:List (List Int)) (RR:List (List (List Int))) (xl:List Int):Bool :=
 if e_ n OO RR xl=0 then decide ((((Uu n OO RR xl).1:Nat):Int)=n) else false
theorem Nn {n:Int} (h:¬ e_ n OO RR xl=0):pF n OO RR xl=false:=if_neg h
theorem I_ {x:List Nat} (h:e_ ((N:Nat):Int) (O.map Ma.ag) (R.map (List.map Ma.ag)) (Ma.ag x)=0):pF ((N:Nat):Int) (O.map Ma.ag) (R.map (List.map Ma.ag)) (Ma.ag x)=decide ((((vr N O R x).1:Nat):Int)=((N:Nat):Int)):=by
 unfold pF; rw [if_pos h,QI]
noncomputable def l7 (n:Int) (OO:List (List Int)) (RR:List (List (List Int))):List (List Int):=if bH n OO RR=0 then RR.flatMap (List.drop 1) else []
end
section
open Go.RowKit
open Go.Proofs.Ob
open Go.Proofs.Cm (Gd)
attribute [local irreducible] Go.Calls Go.wpList
theorem Bu (args:Array Value) (w:World):(callFunc 73 args).run Tryz.prog w=.ok (.enter 73 args) w:=by kernel_rfl
theorem Uv (args:Array Value) (w:World):(callFunc 89 args).run Tryz.prog w=.ok (.enter 89 args) w:=by kernel_rfl
theorem Uw (args:Array Value) (w:World):(callFunc 90 args).run Tryz.prog w=.ok (.enter 90 args) w:=by kernel_rfl
theorem mL {n:Int} (h:bg w ov rv OO RR) :
  Calls Tryz.prog 73 #[.agg #[.int .i64 n,ov,rv]] w fun e w'=>e=.returned (.int .i64 (bH n OO RR))/\Below w.heap.size w w':=by
 refine (Bh h).mono ?_;rintro e w' ⟨c,rfl,h1,h2⟩;exact ⟨by rw [xr h1],h2⟩
theorem Ed {n:Int} (h:bg w ov rv OO RR) (hx:Rg.Ints w xv xl) :
  Calls Tryz.prog 89 #[.agg #[.int .i64 n,ov,rv],xv] w fun e w'=>e=.returned (.int .i64 (e_ n OO RR xl))/\Below w.heap.size w w':=by
 obtain ⟨oa,oc,rfl,-⟩:=h.1.shape;obtain ⟨ra,rc,rfl⟩:=h.2.shape;obtain ⟨xa,xc,rfl,-⟩:=hx.shape;have HC:=U h;have HX:=U hx;have K:=U (Below.refl w.heap.size w);clear h hx
 go_enter Tryz.func89,Tryz.ntmps89
 go_upto_region 0 with (fail);refine d3 ?_;have aQ:=gR w (.int .i64 n) (.slice oa OO.length oc) (.slice ra RR.length rc);refine d4 2 (Rg.bq _ _ rfl rfl) ?_;go_frame;have hb:=(Below.refl w.heap.size w).alloc (Nat.le_refl _) (.cells #[.int .i64 n,.slice oa OO.length oc,.slice ra RR.length rc] 25);generalize w.alloc (.cells #[.int .i64 n,.slice oa OO.length oc,.slice ra RR.length rc] 25)=w1 at *;replace HC:=U (HC.p.jj hb);replace HX:=U (HX.p.jj hb);replace K:=U (Rg.acc K.p hb);clear hb;have A0:=U aQ.1;have A1:=U aQ.2.1;have A2:=U aQ.2.2;clear aQ;refine d6 4 (.int .i64 ((0:Nat):Int)) ?_;go_frame;obtain ⟨ck,dU⟩:∃ c,Hid (bH n OO RR=c):=⟨_,U rfl⟩;obtain ⟨pk,fh⟩:∃ c,Hid (Ma.bB xl=c):=⟨_,U rfl⟩;go_upto_region 1 with (fail);refine d3 ?_;refine d4 7 (g8 ((.agg #[.int .i64 n,.slice oa OO.length oc,.slice ra RR.length rc])) ⟨w.heap.size,0,none⟩ (aM A0.p.cell A1.p.cell A2.p.cell)) ?_;go_frame
 refine f7 8 (aF 73 _ _ rfl rfl (Bu _ _)) ?_;refine (mL HC.p).mono ?_;rintro e1 w2 ⟨rfl,hb⟩;rw [dU.p];refine ⟨_,rfl,?_⟩;go_frame;replace HC:=U (HC.p.jj hb);replace HX:=U (HX.p.jj hb);replace A0:=U (A0.p.jj hb);replace A1:=U (A1.p.jj hb);replace A2:=U (A2.p.jj hb);replace K:=U (Rg.acc K.p hb);clear hb;refine d6 5 (.int .i64 ck) ?_;go_frame
 by_cases h0:ck=0
 case neg =>
  skip
  go_upto_region 2 with (fail);refine d3 ?_;refine d5 9 (.int .i64 ck) ?_;go_frame;refine d4 10 (g9 (.bool true) .neq (h:=aU _ (decide_eq_true h0))) ?_;go_frame;go_upto_region 3 with (fail);refine d3 ?_;refine d5 11 (.int .i64 ck) ?_;go_frame;refine d6 4 (.int .i64 ck) ?_;go_frame;go_wp2;go_ret;exact ⟨by rw [xt (by rw [dU.p]; exact h0),dU.p]; rfl,K.p⟩
 case pos =>
  have HZ:=U (dU.p.trans h0);go_upto_region 2 with (fail);refine d3 ?_;refine d5 9 (.int .i64 ck) ?_;go_frame;refine d4 10 (g9 (.bool false) .neq (h:=aU _ (decide_eq_false (fun e=>e h0)))) ?_;go_frame;clear h0;go_upto_region 4 with (fail);refine d3 ?_;refine d5 12 (.slice xa xl.length xc) ?_;go_frame;refine f7 13 (aF 68 _ _ rfl rfl (xe _ _)) ?_;refine (dp _ _ w2 HX.p).mono ?_;rintro e1 w3 ⟨rfl,hb⟩;rw [fh.p];refine ⟨_,rfl,?_⟩;go_frame;replace HC:=U (HC.p.jj hb);replace HX:=U (HX.p.jj hb);replace A0:=U (A0.p.jj hb);replace A1:=U (A1.p.jj hb);replace A2:=U (A2.p.jj hb);replace K:=U (Rg.acc K.p hb);clear hb;refine d6 6 (.int .i64 pk) ?_;go_frame
  by_cases h1:pk=0
  case neg =>
   skip
   go_upto_region 5 with (fail);refine d3 ?_;refine d5 14 (.int .i64 pk) ?_;go_frame;refine d4 15 (g9 (.bool true) .neq (h:=aU _ (decide_eq_true h1))) ?_;go_frame;go_upto_region 6 with (fail);refine d3 ?_;refine d5 16 (.int .i64 pk) ?_;go_frame;refine d6 4 (.int .i64 pk) ?_;go_frame;go_wp2;go_ret;exact ⟨by rw [uC HZ.p (by rw [fh.p]; exact h1),fh.p]; rfl,K.p⟩
  case pos =>
   have HP:=U (fh.p.trans h1);go_upto_region 5 with (fail);refine d3 ?_;refine d5 14 (.int .i64 pk) ?_;go_frame;refine d4 15 (g9 (.bool false) .neq (h:=aU _ (decide_eq_false (fun e=>e h1)))) ?_;go_frame;clear h1
   by_cases h2:(xl.length:Int)=n
   case neg =>
    skip
    go_upto_region 7 with (fail);refine d3 ?_;refine d5 17 (.slice xa xl.length xc) ?_;go_frame;refine d4 18 (i3 Tryz.underlying27) ?_;go_frame;refine d4 19 (af _ rfl rfl (gP _ _)) ?_;go_frame;refine d4 20 (g8 (.int .i64 n) ⟨w.heap.size,0,none⟩ (ah A0.p.cell)) ?_;go_frame;refine d4 21 (g9 (.bool true) .neq (h:=aU _ (decide_eq_true h2))) ?_;go_frame;go_upto_region 8 with (fail);refine d3 ?_;refine d6 4 (.int .i64 ((10:Nat):Int)) ?_;go_frame;go_wp2;go_ret;exact ⟨by rw [xu HZ.p HP.p h2]; rfl,K.p⟩
   case pos =>
    skip
    go_upto_region 7 with (fail);refine d3 ?_;refine d5 17 (.slice xa xl.length xc) ?_;go_frame;refine d4 18 (i3 Tryz.underlying27) ?_;go_frame;refine d4 19 (af _ rfl rfl (gP _ _)) ?_;go_frame;refine d4 20 (g8 (.int .i64 n) ⟨w.heap.size,0,none⟩ (ah A0.p.cell)) ?_;go_frame;refine d4 21 (g9 (.bool false) .neq (h:=aU _ (decide_eq_false (fun e=>e h2)))) ?_;go_frame;go_upto_region 9 with (fail);refine d3 ?_;refine d6 4 (.int .i64 ((0:Nat):Int)) ?_;go_frame;go_wp2;go_ret;exact ⟨by rw [Ab HZ.p HP.p h2]; rfl,K.p⟩
theorem KO {x:List Nat} (eZ:1<=N) (DU:N<=64) (cK:Cm.ak N (Cm.Gr N (·∈R.flatten)) O R) (hH:Cm.bT N (Cm.Gr N (·∈R.flatten))) (gx:Gd N x) (h:bg w ov rv (O.map Ma.ag) (R.map (List.map Ma.ag))) (hx:Rg.Ints w xv (Ma.ag x)) :
  Calls Tryz.prog 90 #[.agg #[.int .i64 ((N:Nat):Int),ov,rv],xv] w (Bo N O R x w):=G6 eZ DU hH cK rfl rfl h hx gx
theorem tK {n:Int} (h:bg w ov rv OO RR) (hx:Rg.Ints w xv xl) :
  Calls Tryz.prog 67 #[.agg #[.int .i64 n,ov,rv],xv] w fun e w'=>e=.returned (.tuple #[.bool (pF n OO RR xl),.int .i64 (e_ n OO RR xl)])/\Below w.heap.size w w':=by
 obtain ⟨oa,oc,rfl,-⟩:=h.1.shape;obtain ⟨ra,rc,rfl⟩:=h.2.shape;obtain ⟨xa,xc,rfl,-⟩:=hx.shape;have HC:=U h;have HX:=U hx;have K:=U (Below.refl w.heap.size w);clear h hx
 go_enter Tryz.func67,Tryz.ntmps67
 go_upto_region 0 with (fail);refine d3 ?_;have aQ:=gR w (.int .i64 n) (.slice oa OO.length oc) (.slice ra RR.length rc);refine d4 2 (Rg.bq _ _ rfl rfl) ?_;go_frame;have hb:=(Below.refl w.heap.size w).alloc (Nat.le_refl _) (.cells #[.int .i64 n,.slice oa OO.length oc,.slice ra RR.length rc] 25);generalize w.alloc (.cells #[.int .i64 n,.slice oa OO.length oc,.slice ra RR.length rc] 25)=w1 at *;replace HC:=U (HC.p.jj hb);replace HX:=U (HX.p.jj hb);replace K:=U (Rg.acc K.p hb);clear hb;have A0:=U aQ.1;have A1:=U aQ.2.1;have A2:=U aQ.2.2;clear aQ;refine d6 4 (.bool false) ?_;go_frame;refine d6 5 (.int .i64 ((0:Nat):Int)) ?_;go_frame;obtain ⟨bk,DC⟩:∃ c,Hid (e_ n OO RR xl=c):=⟨_,U rfl⟩;go_upto_region 1 with (fail);refine d3 ?_;refine d4 9 (g8 ((.agg #[.int .i64 n,.slice oa OO.length oc,.slice ra RR.length rc])) ⟨w.heap.size,0,none⟩ (aM A0.p.cell A1.p.cell A2.p.cell)) ?_;go_frame
 refine d5 10 (.slice xa xl.length xc) ?_;go_frame;refine f7 11 (aw 89 _ _ _ rfl rfl rfl (Uv _ _)) ?_;refine (Ed HC.p HX.p).mono ?_;rintro e1 w2 ⟨rfl,hb⟩;rw [DC.p];refine ⟨_,rfl,?_⟩;go_frame;replace HC:=U (HC.p.jj hb);replace HX:=U (HX.p.jj hb);replace A0:=U (A0.p.jj hb);replace A1:=U (A1.p.jj hb);replace A2:=U (A2.p.jj hb);replace K:=U (Rg.acc K.p hb);clear hb;refine d6 6 (.int .i64 bk) ?_;go_frame
 by_cases h0:bk=0
 case neg =>
  skip
  go_upto_region 2 with (fail);refine d3 ?_;refine d5 12 (.int .i64 bk) ?_;go_frame;refine d4 13 (g9 (.bool true) .neq (h:=aU _ (decide_eq_true h0))) ?_;go_frame;go_upto_region 3 with (fail);refine d3 ?_;refine d5 14 (.int .i64 bk) ?_;go_frame;refine d6 4 (.bool false) ?_;go_frame;refine d6 5 (.int .i64 bk) ?_;go_frame;go_wp2
  go_ret2
  exact ⟨by rw [Nn (by rw [DC.p]; exact h0),DC.p]; rfl,K.p⟩
 case pos =>
  have HZ:=U (DC.p.trans h0);go_upto_region 2 with (fail);refine d3 ?_;refine d5 12 (.int .i64 bk) ?_;go_frame;refine d4 13 (g9 (.bool false) .neq (h:=aU _ (decide_eq_false (fun e=>e h0)))) ?_;go_frame;obtain ⟨N,O,R,x,rfl,eZ,DU,rfl,rfl,cK,hH,rfl,gx⟩:=Ec HZ.p;have ew:=U cK;have HH:=U hH;have GX:=U gx;clear cK hH gx h0;obtain ⟨bb,nw⟩:∃ b,Hid (decide ((((vr N O R x).1:Nat):Int)=((N:Nat):Int))=b):=⟨_,U rfl⟩;go_upto_region 4 with (fail);refine d3 ?_;refine d4 16 (g8 ((.agg #[.int .i64 ((N:Nat):Int),.slice oa (O.map Ma.ag).length oc,.slice ra (R.map (List.map Ma.ag)).length rc])) ⟨w.heap.size,0,none⟩ (aM A0.p.cell A1.p.cell A2.p.cell)) ?_;go_frame;refine d5 17 (.slice xa (Ma.ag x).length xc) ?_;go_frame;refine f7 18 (aw 90 _ _ _ rfl rfl rfl (Uw _ _)) ?_;refine (KO eZ DU ew.p HH.p GX.p HC.p HX.p).mono ?_
  rintro e1 w3 ⟨v1,rfl,nG,hb⟩;refine ⟨_,rfl,?_⟩;go_frame;replace HC:=U (HC.p.jj hb);replace HX:=U (HX.p.jj hb);replace A0:=U (A0.p.jj hb);replace A1:=U (A1.p.jj hb);replace A2:=U (A2.p.jj hb);replace K:=U (Rg.acc K.p hb);clear hb;refine d5 15 (.tuple #[v1,.int .i64 (((vr N O R x).1:Nat):Int)]) ?_;go_frame;refine d4 19 (i6 (v1)) ?_;go_frame;refine d4 20 (i6 (.int .i64 (((vr N O R x).1:Nat):Int))) ?_;go_frame;refine d6 7 (v1) ?_;go_frame;refine d6 8 (.int .i64 (((vr N O R x).1:Nat):Int)) ?_;go_frame;go_upto_region 5 with (fail);refine d3 ?_;refine d5 21 (.int .i64 (((vr N O R x).1:Nat):Int)) ?_;go_frame;refine d4 22 (af _ rfl rfl (gP _ _)) ?_;go_frame;refine d4 23 (g8 (.int .i64 ((N:Nat):Int)) ⟨w.heap.size,0,none⟩ (ah A0.p.cell)) ?_;go_frame;refine d4 24 (g9 (.bool bb) .eql (h:=fA _ nw.p)) ?_;go_frame
  refine d6 4 (.bool bb) ?_;go_frame;refine d6 5 (.int .i64 ((0:Nat):Int)) ?_;go_frame;go_wp2
  go_ret2
  exact ⟨by rw [I_ HZ.p,HZ.p,nw.p]; rfl,K.p⟩
end
end Go.Proofs.YtpedbljnhnoohaaGreat
set_option linter.unusedVariables false
namespace Go.Proofs.YtpedbljnhnoohaaGreat
open Go.Proofs
section
open Go.RowKit
open Go.Proofs.Ob
open Go.Shelf
attribute [local irreducible] Go.Calls Go.wpList
theorem Ee {o:Oper} {a:Act} {ad:Addr} {c:Nat} (x y:Operand) (ho:o.op=.binOp .eql 26 x y 26) (hx:a.eval x=.slice (some ad) n c) (hy:a.eval y=.slice none 0 0):(execOp a.eval o).run Tryz.prog w=.ok (.value (.bool false)) w:=by
 have h1:(binOp .eql 26 (.slice (some ad) n c) (.slice none 0 0)).run Tryz.prog w=.ok (.bool false) w:=by kernel_rfl
 have hg:(eqGuard .eql 26 x y (.slice (some ad) n c) (.slice none 0 0)).run Tryz.prog w=.ok () w:=by
  simp [eqGuard]
 unfold execOp;simp only [ho,hx,hy,Sem.run_bind,Sem.run_pure,hg,h1,Result.andThen_ok]
theorem Ef (v:Value) (l:List Int) (w:World) (h:Rg.Ints w v l) (h1:1<=l.length) (hl:l.length<=1000000) :
  Calls Tryz.prog 109 #[v] w fun e w'=>∃ v',e=.returned v'/\w'.ownsRow w.heap.size 3 1 v' l.length (l.map (Value.int .i64))/\Below w.heap.size w w':=by
 obtain ⟨la,lc,rfl,_,_,_,hs⟩:=h.shape;obtain ⟨b,o,rfl,_⟩:=hs (by omega);have HI:=U h;have K:=U (Below.refl w.heap.size w);clear h hs
 go_enter Tryz.func109,Tryz.ntmps109
 go_upto_region 1 with (fail);refine d3 ?_;refine d5 3 (.slice (some ⟨b,o,none⟩) l.length lc) ?_;go_frame;refine d4 4 (Ee _ _ rfl rfl rfl) ?_;go_frame;go_upto_region 3 with (fail);refine d3 ?_;have bY:=qX.new (B:=w.heap.size) w (Nat.le_refl _);refine d4 5 (Rg.qO bK rfl w) ?_;go_frame;have hb:=(Below.refl w.heap.size w).alloc (Nat.le_refl _) (.cells #[] 3);generalize w.alloc (.cells #[] 3)=w1 at *;replace HI:=U (HI.p.jj hb);replace K:=U (Rg.acc K.p hb);clear hb;have FO:=U bY;refine d5 6 (.slice (some ⟨b,o,none⟩) l.length lc) ?_;go_frame;obtain ⟨v5,X5,r1,r2,r3⟩:=Rg.sO (P:=Tryz.prog) bK 26 FO.p.1 K.p.size HI.p um (by rw [List.length_map]; omega);refine d4 7 (Rg.bu _ _ _ rfl rfl rfl r1) ?_;go_frame;refine d6 2 (v5) ?_;go_frame;rw [List.length_map,Nat.zero_add,List.nil_append] at r2
 have R2:=U r2;have K5:=U (K.p.grown r3 K.p.size (fun j hj=>(FO.p.1.lt j hj).1));clear r1 r2 r3 FO;go_wp2;go_ret;exact ⟨_,rfl,R2.p,K5.p⟩
def MK (tc:Nat) (ov rv:Value) (z:Nat):Prop:=z=tc∨ov.ownBlock=some z∨rv.ownBlock=some z
theorem mM {e:TypeId} {size:Nat} (h:W.ownsRow B e size v n xs):∀ k,v.ownBlock=some k->∃ o:Obj,W.heap[k]?=some o/\o.isCells=true:=fun k e1=>by
 obtain ⟨_,h3⟩:=h
 rcases h3 with ⟨h4,_⟩ | ⟨g,cap,cur,h4,_,h5,_⟩
 ·rw [h4] at e1; simp [Value.ownBlock] at e1
 ·rw [h4] at e1
  simp [Value.ownBlock] at e1;subst e1;exact ⟨_,h5,rfl⟩
theorem y_ {a:Addr} (h:W.cell? a=some v):∃ o:Obj,W.heap[a.block]?=some o/\o.isCells=true:=by
 unfold World.cell? at h
 cases e:W.heap[a.block]? with
 | none=>rw [e] at h; cases h
 | some o =>
  rw [e] at h;refine ⟨o,rfl,?_⟩
  cases o <;> simp at h <;> rfl
theorem eQ.isCells {B:Nat} {W:World} {tc:Nat} {c0 c1 c2 ov rv:Value} {O:List (List Int)} {R:List (List (List Int))} (h:eQ B W tc c0 c1 c2 ov rv O R):∀ z,MK tc ov rv z->∃ o:Obj,W.heap[z]?=some o/\o.isCells=true:=by
 obtain ⟨us,vs,h1,h2,_⟩:=h.own
 rintro z (e | e | e)
 ·subst e; exact y_ h.nC.c0
 ·exact mM h1 z e
 ·exact mM h2 z e
theorem tL {row:Option Nat} (hg:W.grownBy W' row) (hr:∀ r,row=some r->∃ o:Obj,W.heap[r]?=some o/\o.isCells=false) {us:List Value} (h:Rg.bx F W us ll):Rg.bx F W' us ll :=
 ⟨h.1,fun i a b=>tJ hg hr (h.2 i a b)⟩
theorem KP {row:Option Nat} (hg:W.grownBy W' row) (hr:∀ r,row=some r->∃ o:Obj,W.heap[r]?=some o/\o.isCells=false) (h:Rg.aH F W v ll):Rg.aH F W' v ll:=by
 obtain ⟨us,h1,h2⟩:=h;exact ⟨us,tJ hg hr h1,tL hg hr h2⟩
theorem Bv {row:Option Nat} (hg:W.grownBy W' row) (hr:∀ r,row=some r->∃ o:Obj,W.heap[r]?=some o/\o.isCells=false) {e:TypeId} {size:Nat} (h:W.ownsRow B e size v n xs):W'.ownsRow B e size v n xs :=
 fD h (Rg.Kp.cE hg (M:=fun k=>row=some k) fun _ e=>e) (fun k e1 e2=>by
  obtain ⟨o,h1,h2⟩:=mM h k e2;obtain ⟨o',h3,h4⟩:=hr k e1
  rw [h1] at h3; cases h3; rw [h2] at h4; cases h4)
theorem eQ.nc {c0 c1 c2:Value} {O:List (List Int)} {R:List (List (List Int))} (h:eQ B W tc c0 c1 c2 ov rv O R) {row:Option Nat} (hg:W.grownBy W' row) (hr:∀ r,row=some r->∃ o:Obj,W.heap[r]?=some o/\o.isCells=false):eQ B W' tc c0 c1 c2 ov rv O R:=by
 obtain ⟨us,vs,h1,h2,h3,h4⟩:=h.own;have hk:Rg.Kp (fun k=>row=some k) W W':=Rg.Kp.cE hg fun _ e=>e;refine ⟨h.nC.kp hk (fun e=>?_),h.low,⟨us,vs,Bv hg hr h1,Bv hg hr h2,(tL hg hr h3).mono fun _ g=>g.up hg.size,bG.mono ⟨h4.1,fun i a b=>KP hg hr (h4.2 i a b)⟩ fun _ g=>g.up hg.size⟩,h.apart,h.ot,h.rt⟩;obtain ⟨o,q1,q2⟩:=h.isCells tc (.inl rfl);obtain ⟨o',q3,q4⟩:=hr tc e;rw [q1] at q3; cases q3; rw [q2] at q4; cases q4
theorem uD (hc:∀ a,W'.cell? a=W.cell? a) (hs:W.heap.size<=W'.heap.size) {us:List Value} (h:Rg.cz W v us):Rg.cz W' v us:=by
 obtain ⟨a,cap,e,h1,h2,h3,h4⟩:=h;refine ⟨a,cap,e,h1,h2,h3,fun h0=>?_⟩;obtain ⟨b,o,e1,e2,e4⟩:=h4 h0;exact ⟨b,o,e1,Nat.lt_of_lt_of_le e2 hs,fun i hi=>(hc _).trans (e4 i hi)⟩
theorem Eg (hc:∀ a,W'.cell? a=W.cell? a) (hs:W.heap.size<=W'.heap.size) (h:Rg.Rows W v ll):Rg.Rows W' v ll:=by
 obtain ⟨us,h1,h2,h3⟩:=h;exact ⟨us,uD hc hs h1,h2,fun i a b=>uD hc hs (h3 i a b)⟩
theorem Ac {α:Type} {l:List (List α)} {i:Nat} (h:i<l.length):l.getD i []=l[i]:=by rw [List.getD_eq_getElem?_getD,List.getElem?_eq_getElem h]; rfl
theorem Np {m:Nat} {α:Type} (f:Nat->α):(dD m m).map (fun z=>f z.1)=(List.range m).map f:=by
 rw [<- kD (Nat.le_refl m),List.map_map];rfl
end
section
open Go.RowKit
open Go.Proofs.Ob
attribute [local irreducible] Go.Calls Go.wpList
theorem Ux (args:Array Value) (w:World):(callFunc 116 args).run Tryz.prog w=.ok (.enter 116 args) w:=by kernel_rfl
theorem Ja (b:Nat) (w:World):(Instr.fieldAt 124 (.pointer (some ⟨b,0,none⟩)) 0).run Tryz.prog w=.ok (.pointer (some ⟨b,0,none⟩)) w:=by kernel_rfl
theorem mN {w'':World} (h:Rg.Kp M w w') (hb:Below w'.heap.size w' w''):Rg.Kp M w w'':=Rg.Kp.trans (M:=M) h (Rg.Kp.az (M:=M) hb) (fun _ _ e=>e)
theorem QJ {x m:Int} {r:Nat} (h0:0<m) (h1:m<=1000) (hr:Hid (oB x m=((r:Nat):Int))) (w:World):Calls Tryz.prog 116 #[.int .i64 x,.int .i64 m] w fun e w'=>e=.returned (.int .i64 ((r:Nat):Int))/\Below w.heap.size w w':=by
 rw [<- hr.p];exact Ky x m w h0 h1
theorem Ad (b:Nat) (w:World):(Instr.fieldAt 124 (.pointer (some ⟨b,0,none⟩)) 1).run Tryz.prog w=.ok (.pointer (some ⟨b,1,none⟩)) w:=by kernel_rfl
structure Tk (w0 w:World) (tk k:Nat) (lv:Value) (l:List Int):Prop where
 c0:w.cell? ⟨tk,0,none⟩=some lv
 c1:w.cell? ⟨tk,1,none⟩=some (.int .i64 ((k:Nat):Int))
 f1:w.frozen? ⟨tk,1,none⟩=false
 lt:tk<w.heap.size
 lo:w0.heap.size<=tk
 bX:Below w0.heap.size w0 w
 ints:Rg.cZ maxLen w0 lv l
theorem Tk.jj {k:Nat} {lv:Value} {l:List Int} (h:Tk w0 w tk k lv l) (hb:Below w.heap.size w w'):Tk w0 w' tk k lv l :=
 ⟨(hb.cell (p:=⟨tk,0,none⟩) h.lt).trans h.c0,(hb.cell (p:=⟨tk,1,none⟩) h.lt).trans h.c1,(hb.frozen (p:=⟨tk,1,none⟩) h.lt).trans h.f1,Nat.lt_of_lt_of_le h.lt hb.size,h.lo,h.bX.trans (hb.mono h.bX.size),h.ints⟩
theorem Tk.kp {k:Nat} {lv:Value} {l:List Int} (h:Tk w0 w tk k lv l) (hk:Rg.Kp M w w') (hM:¬ M tk) (hl:∀ z,M z->w0.heap.size<=z):Tk w0 w' tk k lv l :=
 ⟨(World.cell?_of_block (a:=⟨tk,0,none⟩) (hk.block tk h.lt hM)).trans h.c0,(World.cell?_of_block (a:=⟨tk,1,none⟩) (hk.block tk h.lt hM)).trans h.c1,(World.frozen?_of_block (a:=⟨tk,1,none⟩) (hk.block tk h.lt hM)).trans h.f1,Nat.lt_of_lt_of_le h.lt hk.size,h.lo,Rg.Kp.jj h.bX hk hl,h.ints⟩
theorem Tk.next {k:Nat} {lv:Value} {l:List Int} (h:Tk w0 w tk k lv l) (v:Nat):Tk w0 (w.setCell ⟨tk,1,none⟩ (.int .i64 ((v:Nat):Int))) tk v lv l/\Rg.Kp (fun z=>z=tk) w (w.setCell ⟨tk,1,none⟩ (.int .i64 ((v:Nat):Int))):=by
 refine ⟨⟨?_,World.cell?_setCell_same (h:=h.c1) ..,by rw [World.frozen?_setCell]; exact h.f1,by simpa using h.lt,h.lo,h.bX.setCell (p:=⟨tk,1,none⟩) h.lo _,h.ints⟩,Rg.Kp.aL rfl⟩
 rw [World.cell?_setCell_other (h:=by intro e; injection e with e1 e2; omega) ..]
 exact h.c0
def QK (w0 w:World) (tk:Nat) (lv:Value) (l:List Int) (m:Int) (e:Ending) (w':World):Prop:=∃ (r k':Nat),e=.returned (.int .i64 ((r:Nat):Int))/\(1<=m->(r:Int)<m)/\(¬ 1<=m->r=0)/\Tk w0 w' tk k' lv l/\Rg.Kp (fun z=>z=tk) w w'
theorem fZ {k:Nat} {lv:Value} {l:List Int} (h:Tk w0 w tk k lv l) (m:Int) (hm:m<=1000) :
  Calls Tryz.prog 85 #[.pointer (some ⟨tk,0,none⟩),.int .i64 m] w (QK w0 w tk lv l m):=by
 obtain ⟨la,lc,rfl,-,vg,-,Nq⟩:=h.ints.shape;have TK:=U h;have HLM:=U vg;have HLC:=U Nq;have K:=U (Rg.Kp.refl (fun z=>z=tk) w);clear h vg Nq
 go_enter Tryz.func85,Tryz.ntmps85
 by_cases hk:k<l.length
 case neg =>
  have ly:¬ (k:Int)<(l.length:Int):=by omega
  go_upto_region 1 with (fail);have aq:Below w.heap.size w w.drew:=(Below.refl _ _).drew;replace TK:=U (TK.p.jj aq);replace K:=U (mN K.p aq);clear aq;refine Rg.Any.begin (S:=Rg.aG 13 (fun _=>True) (fun W=>Below w.drew.heap.size w.drew W)) mix ?_;generalize w.drew=w1 at *;have hS:∀ (l:Array Bool) W,Below w1.heap.size w1 W->Rg.aG 13 (fun _=>True) (fun W=>Below w1.heap.size w1 W) l W:=fun l W h=>⟨.inr trivial,h⟩;have hI:Below w1.heap.size w1 w1:=Below.refl _ _;refine d8 0 13 (.pointer (some ⟨tk,0,none⟩)) 5 (hS _ _ hI) ?_;go_frame;refine d7 1 13 (.pointer (some ⟨tk,0,none⟩)) 6 rfl rfl (.inl ⟨rfl,fun w _=>aK _ rfl rfl⟩) (hS _ _ hI) ?_;go_frame;refine d7 2 13 (.pointer (some ⟨tk,1,none⟩)) 7 rfl rfl (.inl ⟨rfl,fun w _=>af _ rfl rfl (Ad _ _)⟩) (hS _ _ hI) ?_;go_frame;refine d7 3 13 (.int .i64 ((k:Nat):Int)) 8 rfl rfl (i9 ⟨tk,1,none⟩ (fun W hW=>ah ((Below.cell (p:=⟨tk,1,none⟩) hW TK.p.lt).trans TK.p.c1))) (hS _ _ hI) ?_;go_frame
  refine d8 4 13 (.pointer (some ⟨tk,0,none⟩)) 9 (hS _ _ hI) ?_;go_frame;refine d7 5 13 (.pointer (some ⟨tk,0,none⟩)) 10 rfl rfl (.inl ⟨rfl,fun w _=>aK _ rfl rfl⟩) (hS _ _ hI) ?_;go_frame;refine d7 6 13 (.pointer (some ⟨tk,0,none⟩)) 11 rfl rfl (.inl ⟨rfl,fun w _=>af _ rfl rfl (Ja _ _)⟩) (hS _ _ hI) ?_;go_frame;refine d7 7 13 (.slice la l.length lc) 12 rfl rfl (i9 ⟨tk,0,none⟩ (fun W hW=>Rg.ae _ _ Tryz.underlying26 ((Below.cell (p:=⟨tk,0,none⟩) hW TK.p.lt).trans TK.p.c0))) (hS _ _ hI) ?_;go_frame;refine d7 8 13 (.int .i64 ((l.length:Nat):Int)) 13 rfl rfl (.inl ⟨rfl,fun w _=>kc _ _ _ rfl Tryz.underlying26 _ _ _ rfl⟩) (hS _ _ hI) ?_;go_frame;refine d7 9 13 (.bool true) 14 rfl rfl (.inl ⟨rfl,fun w _=>aT (R:=.bool true) .geq _ _ _ rfl rfl rfl (p8 _ f8)⟩) (hS _ _ hI) ?_;go_frame;refine d8 10 13 (.bool true) 15 (hS _ _ hI) ?_;go_frame
  refine d7 11 13 (undef) 16 rfl rfl (.inr ⟨rfl,rfl⟩) (hS _ _ hI) ?_;go_frame;refine d7 12 13 (undef) 17 rfl rfl (.inr ⟨rfl,rfl⟩) (hS _ _ hI) ?_;go_frame;refine i8 13 18 rfl rfl (i5 (.bool true)) (hS _ _ hI) ?_;go_frame;refine Rg.Any.done (by kernel_rfl) ?_ _;clear hS hI;go_upto_region 2 with (fail);refine d3 ?_;refine d6 4 (.int .i64 ((0:Nat):Int)) ?_;go_frame;go_wp2;go_ret;exact ⟨0,_,rfl,fun h=>by omega,fun _=>rfl,TK.p,K.p⟩
 case pos =>
  have ly:(k:Int)<(l.length:Int):=by omega
  by_cases uV:1<=m
  case neg =>
   skip
   go_upto_region 1 with (fail);have aq:Below w.heap.size w w.drew:=(Below.refl _ _).drew;replace TK:=U (TK.p.jj aq);replace K:=U (mN K.p aq);clear aq;refine Rg.Any.begin (S:=Rg.aG 13 (fun _=>True) (fun W=>Below w.drew.heap.size w.drew W)) mix ?_;generalize w.drew=w1 at *;have hS:∀ (l:Array Bool) W,Below w1.heap.size w1 W->Rg.aG 13 (fun _=>True) (fun W=>Below w1.heap.size w1 W) l W:=fun l W h=>⟨.inr trivial,h⟩;have hI:Below w1.heap.size w1 w1:=Below.refl _ _;refine d8 0 13 (.pointer (some ⟨tk,0,none⟩)) 5 (hS _ _ hI) ?_;go_frame;refine d7 1 13 (.pointer (some ⟨tk,0,none⟩)) 6 rfl rfl (.inl ⟨rfl,fun w _=>aK _ rfl rfl⟩) (hS _ _ hI) ?_;go_frame;refine d7 2 13 (.pointer (some ⟨tk,1,none⟩)) 7 rfl rfl (.inl ⟨rfl,fun w _=>af _ rfl rfl (Ad _ _)⟩) (hS _ _ hI) ?_;go_frame;refine d7 3 13 (.int .i64 ((k:Nat):Int)) 8 rfl rfl (i9 ⟨tk,1,none⟩ (fun W hW=>ah ((Below.cell (p:=⟨tk,1,none⟩) hW TK.p.lt).trans TK.p.c1))) (hS _ _ hI) ?_;go_frame
   refine d8 4 13 (.pointer (some ⟨tk,0,none⟩)) 9 (hS _ _ hI) ?_;go_frame;refine d7 5 13 (.pointer (some ⟨tk,0,none⟩)) 10 rfl rfl (.inl ⟨rfl,fun w _=>aK _ rfl rfl⟩) (hS _ _ hI) ?_;go_frame;refine d7 6 13 (.pointer (some ⟨tk,0,none⟩)) 11 rfl rfl (.inl ⟨rfl,fun w _=>af _ rfl rfl (Ja _ _)⟩) (hS _ _ hI) ?_;go_frame;refine d7 7 13 (.slice la l.length lc) 12 rfl rfl (i9 ⟨tk,0,none⟩ (fun W hW=>Rg.ae _ _ Tryz.underlying26 ((Below.cell (p:=⟨tk,0,none⟩) hW TK.p.lt).trans TK.p.c0))) (hS _ _ hI) ?_;go_frame;refine d7 8 13 (.int .i64 ((l.length:Nat):Int)) 13 rfl rfl (.inl ⟨rfl,fun w _=>kc _ _ _ rfl Tryz.underlying26 _ _ _ rfl⟩) (hS _ _ hI) ?_;go_frame;refine d7 9 13 (.bool false) 14 rfl rfl (.inl ⟨rfl,fun w _=>aT (R:=.bool false) .geq _ _ _ rfl rfl rfl (p8 _ f9)⟩) (hS _ _ hI) ?_;go_frame;refine d8 10 13 (.bool false) 15 (hS _ _ hI) ?_;go_frame
   refine d8 11 13 (.int .i64 m) 16 (hS _ _ hI) ?_;go_frame;refine d7 12 13 (.bool true) 17 rfl rfl (.inl ⟨rfl,fun w _=>aT (R:=.bool true) .lss _ _ _ rfl rfl rfl (aP _ f8)⟩) (hS _ _ hI) ?_;go_frame;refine i8 13 18 rfl rfl (i4 (.bool true)) (hS _ _ hI) ?_;go_frame;refine Rg.Any.done (by kernel_rfl) ?_ _;clear hS hI;go_upto_region 2 with (fail);refine d3 ?_;refine d6 4 (.int .i64 ((0:Nat):Int)) ?_;go_frame;go_wp2;go_ret;exact ⟨0,_,rfl,fun h=>by omega,fun _=>rfl,TK.p,K.p⟩
  case pos =>
   have mK:k+1<=9223372036854775807:=by
    have:=HLM.p;unfold maxLen at this;omega
   obtain ⟨lb,lo,rfl,XZ,aO⟩:=HLC.p (by omega);have dU:=aO k hk;obtain ⟨x,hx⟩:∃ x:Int,l[k]=x:=⟨_,rfl⟩;rw [hx] at dU;have bC:=U hk;obtain ⟨r,hr⟩:∃ r:Nat,Hid (oB x m=((r:Nat):Int)):=⟨_,U (Int.toNat_of_nonneg (ru (x:=x) (n:=m) (by omega)).1).symm⟩;have Uy:=U (show ((r:Nat):Int)<m by rw [<- hr.p]; exact (ru (x:=x) (n:=m) (by omega)).2);have CX:=U (CL.mk dU XZ);clear dU XZ aO hx;go_upto_region 1 with (fail);have aq:Below w.heap.size w w.drew:=(Below.refl _ _).drew;replace TK:=U (TK.p.jj aq);replace K:=U (mN K.p aq);clear aq;refine Rg.Any.begin (S:=Rg.aG 13 (fun _=>True) (fun W=>Below w.drew.heap.size w.drew W)) mix ?_;generalize w.drew=w1 at *;have hS:∀ (l:Array Bool) W,Below w1.heap.size w1 W->Rg.aG 13 (fun _=>True) (fun W=>Below w1.heap.size w1 W) l W:=fun l W h=>⟨.inr trivial,h⟩
   have hI:Below w1.heap.size w1 w1:=Below.refl _ _;refine d8 0 13 (.pointer (some ⟨tk,0,none⟩)) 5 (hS _ _ hI) ?_;go_frame;refine d7 1 13 (.pointer (some ⟨tk,0,none⟩)) 6 rfl rfl (.inl ⟨rfl,fun w _=>aK _ rfl rfl⟩) (hS _ _ hI) ?_;go_frame;refine d7 2 13 (.pointer (some ⟨tk,1,none⟩)) 7 rfl rfl (.inl ⟨rfl,fun w _=>af _ rfl rfl (Ad _ _)⟩) (hS _ _ hI) ?_;go_frame;refine d7 3 13 (.int .i64 ((k:Nat):Int)) 8 rfl rfl (i9 ⟨tk,1,none⟩ (fun W hW=>ah ((Below.cell (p:=⟨tk,1,none⟩) hW TK.p.lt).trans TK.p.c1))) (hS _ _ hI) ?_;go_frame;refine d8 4 13 (.pointer (some ⟨tk,0,none⟩)) 9 (hS _ _ hI) ?_;go_frame;refine d7 5 13 (.pointer (some ⟨tk,0,none⟩)) 10 rfl rfl (.inl ⟨rfl,fun w _=>aK _ rfl rfl⟩) (hS _ _ hI) ?_;go_frame;refine d7 6 13 (.pointer (some ⟨tk,0,none⟩)) 11 rfl rfl (.inl ⟨rfl,fun w _=>af _ rfl rfl (Ja _ _)⟩) (hS _ _ hI) ?_;go_frame
   refine d7 7 13 (.slice (some ⟨lb,lo,none⟩) l.length lc) 12 rfl rfl (i9 ⟨tk,0,none⟩ (fun W hW=>Rg.ae _ _ Tryz.underlying26 ((Below.cell (p:=⟨tk,0,none⟩) hW TK.p.lt).trans TK.p.c0))) (hS _ _ hI) ?_;go_frame;refine d7 8 13 (.int .i64 ((l.length:Nat):Int)) 13 rfl rfl (.inl ⟨rfl,fun w _=>kc _ _ _ rfl Tryz.underlying26 _ _ _ rfl⟩) (hS _ _ hI) ?_;go_frame;refine d7 9 13 (.bool false) 14 rfl rfl (.inl ⟨rfl,fun w _=>aT (R:=.bool false) .geq _ _ _ rfl rfl rfl (p8 _ f9)⟩) (hS _ _ hI) ?_;go_frame;refine d8 10 13 (.bool false) 15 (hS _ _ hI) ?_;go_frame;refine d8 11 13 (.int .i64 m) 16 (hS _ _ hI) ?_;go_frame;refine d7 12 13 (.bool false) 17 rfl rfl (.inl ⟨rfl,fun w _=>aT (R:=.bool false) .lss _ _ _ rfl rfl rfl (aP _ f9)⟩) (hS _ _ hI) ?_;go_frame;refine i8 13 18 rfl rfl (i4 (.bool false)) (hS _ _ hI) ?_;go_frame
   refine Rg.Any.done (by kernel_rfl) ?_ _;clear hS hI;go_upto_region 3 with (fail);refine d3 ?_;refine d5 19 (.pointer (some ⟨tk,0,none⟩)) ?_;go_frame;refine d4 20 (aK _ rfl rfl) ?_;go_frame;refine d4 21 (af _ rfl rfl (Ad _ _)) ?_;go_frame;refine d4 22 (g8 (.int .i64 ((k:Nat):Int)) ⟨tk,1,none⟩ (ah TK.p.c1)) ?_;go_frame;refine d4 23 (g9 (.int .i64 (((k+1):Nat):Int)) .add (h:=bA _ (by omega) (by omega))) ?_;go_frame;refine d4 24 (aK _ rfl rfl) ?_;go_frame;refine d4 25 (af _ rfl rfl (Ad _ _)) ?_;go_frame;refine Rg.aD none rfl rfl (Rg.ai _ _ _ rfl _ rfl _ rfl (bI _ TK.p.c1 TK.p.f1)) ?_;go_frame;obtain ⟨Uz,cO⟩:=TK.p.next (k+1);have K2:=U (Rg.Kp.trans (M:=fun z=>z=tk) K.p cO (fun _ _ e=>e));have KS:=U (CX.p.upto Uz.bX CX.p.lt);generalize w1.setCell ⟨tk,1,none⟩ (.int .i64 (((k+1):Nat):Int))=G8 at *
   have T2:=U Uz;clear Uz cO TK K CX;go_upto_region 4 with (fail);have aq:Below G8.heap.size G8 G8.drew:=(Below.refl _ _).drew;replace T2:=U (T2.p.jj aq);replace KS:=U (KS.p.jj aq);replace K2:=U (mN K2.p aq);clear aq;refine Rg.Any.begin (S:=Rg.aG 13 (fun _=>True) (fun W=>Below G8.drew.heap.size G8.drew W)) mix ?_;generalize G8.drew=Bw at *;have hS:∀ (l:Array Bool) W,Below Bw.heap.size Bw W->Rg.aG 13 (fun _=>True) (fun W=>Below Bw.heap.size Bw W) l W:=fun l W h=>⟨.inr trivial,h⟩;have hI:Below Bw.heap.size Bw Bw:=Below.refl _ _;refine d8 0 13 (.pointer (some ⟨tk,0,none⟩)) 26 (hS _ _ hI) ?_;go_frame;refine d7 1 13 (.pointer (some ⟨tk,0,none⟩)) 27 rfl rfl (.inl ⟨rfl,fun w _=>aK _ rfl rfl⟩) (hS _ _ hI) ?_;go_frame;refine d7 2 13 (.pointer (some ⟨tk,0,none⟩)) 28 rfl rfl (.inl ⟨rfl,fun w _=>af _ rfl rfl (Ja _ _)⟩) (hS _ _ hI) ?_;go_frame
   refine d7 3 13 (.slice (some ⟨lb,lo,none⟩) l.length lc) 29 rfl rfl (i9 ⟨tk,0,none⟩ (fun W hW=>Rg.ae _ _ Tryz.underlying26 ((Below.cell (p:=⟨tk,0,none⟩) hW T2.p.lt).trans T2.p.c0))) (hS _ _ hI) ?_;go_frame;refine d8 4 13 (.pointer (some ⟨tk,0,none⟩)) 30 (hS _ _ hI) ?_;go_frame;refine d7 5 13 (.pointer (some ⟨tk,0,none⟩)) 31 rfl rfl (.inl ⟨rfl,fun w _=>aK _ rfl rfl⟩) (hS _ _ hI) ?_;go_frame;refine d7 6 13 (.pointer (some ⟨tk,1,none⟩)) 32 rfl rfl (.inl ⟨rfl,fun w _=>af _ rfl rfl (Ad _ _)⟩) (hS _ _ hI) ?_;go_frame;refine d7 7 13 (.int .i64 (((k+1):Nat):Int)) 33 rfl rfl (i9 ⟨tk,1,none⟩ (fun W hW=>ah ((Below.cell (p:=⟨tk,1,none⟩) hW T2.p.lt).trans T2.p.c1))) (hS _ _ hI) ?_;go_frame;refine d7 8 13 (.int .i64 ((k:Nat):Int)) 34 rfl rfl (.inl ⟨rfl,fun w _=>aT (R:=.int .i64 ((k:Nat):Int)) .sub _ _ _ rfl rfl rfl (gC _ (by omega) (by omega))⟩) (hS _ _ hI) ?_;go_frame
   refine d7 9 13 (.pointer (some ⟨lb,lo+k,none⟩)) 35 rfl rfl (Rg.aA bK _ _ rfl rfl lb (lo) (l.length) lc (k) rfl rfl bC.p) (hS _ _ hI) ?_;go_frame;refine d7 10 13 (.int .i64 x) 36 rfl rfl (i9 ⟨lb,lo+k,none⟩ (fun W hW=>ah ((Below.cell (p:=⟨lb,lo+k,none⟩) hW KS.p.lt).trans KS.p.cell))) (hS _ _ hI) ?_;go_frame;refine d8 11 13 (.int .i64 m) 37 (hS _ _ hI) ?_;go_frame;refine Rg.Any.one (i:=12) (by kernel_rfl) (Rg.Any.ask (some 38) rfl rfl rfl _ _ (aw 116 _ _ _ rfl rfl rfl (Ux _ _)) ?_);refine (QJ (by omega) hm hr Bw).mono ?_;rintro e1 w52 ⟨rfl,hb⟩;have aJ:=Rg.acc hI hb;clear hb hI;refine ⟨_,rfl,(hS _ _ aJ),?_⟩;go_frame;refine i8 13 4 rfl rfl (c6 (.int .i64 ((r:Nat):Int)) _ rfl rfl) (hS _ _ aJ) ?_;go_frame;refine Rg.Any.done (by kernel_rfl) ?_ _;replace T2:=U (T2.p.jj aJ);replace KS:=U (KS.p.jj aJ)
   replace K2:=U (mN K2.p aJ);clear hS aJ;clear mK;go_wp2;go_ret;exact ⟨r,_,rfl,fun _=>Uy.p,fun h=>by omega,T2.p,K2.p⟩
end
section
open Go.RowKit
open Go.Proofs.Ob
open Go.Proofs.Cm (Gd)
attribute [local irreducible] Go.Calls Go.wpList
theorem G_ (args:Array Value) (w:World):(callFunc 66 args).run Tryz.prog w=.ok (.enter 66 args) w:=by kernel_rfl
theorem mO (args:Array Value) (w:World):(callFunc 85 args).run Tryz.prog w=.ok (.enter 85 args) w:=by kernel_rfl
def bV (w:World) (g n:Nat) (f:Nat->Int):Prop:=g<w.heap.size/\(∀ i,i<n->w.cell? ⟨g,i,none⟩=some (.int .i64 (f i)))/\∀ i,w.frozen? ⟨g,i,none⟩=false
theorem bV.congr {g:Nat} {f f':Nat->Int} (h:bV w g n f) (e:∀ i,i<n->f i=f' i):bV w g n f' :=
 ⟨h.1,fun i hi=>by rw [<- e i hi]; exact h.2.1 i hi,h.2.2⟩
theorem bV.set {g:Nat} {f:Nat->Int} (h:bV w g n f) (k:Nat) (v:Int) (hk:k<n):bV (w.setCell ⟨g,k,none⟩ (.int .i64 v)) g n (fun i=>if i=k then v else f i):=by
 refine ⟨by simpa using h.1,fun i hi=>?_,fun i=>by rw [World.frozen?_setCell]; exact h.2.2 i⟩;show _=some (Value.int .i64 (if i=k then v else f i))
 by_cases e:i=k
 ·subst e
  rw [if_pos rfl];exact World.cell?_setCell_same (h:=h.2.1 i hi) ..
 ·rw [if_neg e,World.cell?_setCell_other (h:=by intro h; injection h with h1 h2; omega) ..]
  exact h.2.1 i hi
theorem bV.kp {g:Nat} {f:Nat->Int} (h:bV w g n f) (hk:Rg.Kp M w w') (hM:¬ M g):bV w' g n f :=
 ⟨Nat.lt_of_lt_of_le h.1 hk.size,fun i hi=>(World.cell?_of_block (a:=⟨g,i,none⟩) (hk.block g h.1 hM)).trans (h.2.1 i hi),fun i=>(World.frozen?_of_block (a:=⟨g,i,none⟩) (hk.block g h.1 hM)).trans (h.2.2 i)⟩
theorem bV.jj {g:Nat} {f:Nat->Int} (h:bV w g n f) (hb:Below w.heap.size w w'):bV w' g n f:=h.kp (M:=fun _=>False) (Rg.Kp.az hb) id
theorem bV.np {g:Nat} {f:Nat->Int} (h:bV w g n f) (l:List Nat) (hl:l.length=n) (hc:n<=cap) (hm:cap<=maxLen) (hn:n<=1000) (e:∀ i (hi:i<l.length),f i=((l[i]:Nat):Int)):Rg.NP w (.slice (some ⟨g,0,none⟩) n cap) l:=by
 refine Rg.Ints.mk (by simp [Ma.ag,hl]) h.1 (by simp [Ma.ag]; omega) hm (by simp [Ma.ag]; omega) fun i hi=>?_
 have nt:i<l.length:=by simpa [Ma.ag] using hi
 rw [Nat.zero_add,h.2.1 i (by omega),e i nt];simp [Ma.ag]
def fN (w:World) (g n:Nat) (y:List Nat):Prop:=bV w g n (fun i=>((y.getD i 0:Nat):Int))
theorem fN.np {w:World} {g n cap:Nat} {y:List Nat} (h:fN w g n y) (gy:Gd n y) (hc:n<=cap) (hm:cap<=maxLen) (hn:n<=1000):Rg.NP w (.slice (some ⟨g,0,none⟩) n cap) y :=
 bV.np h y gy.2 hc hm hn (fun i hi=>by show ((y.getD i 0:Nat):Int)=_; rw [List.getD_eq_getElem?_getD,List.getElem?_eq_getElem hi]; rfl)
theorem fN.jj {w w':World} {g n:Nat} {y:List Nat} (h:fN w g n y) (hb:Below w.heap.size w w'):fN w' g n y:=bV.jj h hb
theorem oD (n:Nat) (w:World) (h1:1<=n) (hn:n<=1000) :
  Calls Tryz.prog 66 #[.int .i64 n] w fun e w'=>∃ g cap,e=.returned (.slice (some ⟨g,0,none⟩) n cap)/\w.heap.size<=g/\n<=cap/\cap<=maxLen/\bV w' g n (fun i=>(i:Int))/\Below w.heap.size w w':=by
 go_enter Tryz.func66,Tryz.ntmps66
 go_wp2
 go_loopw [3,4] (fun v i wr=>∃ k:Nat,k<=n/\i=.int .i64 k/\Hid (wr.ownsRow w.heap.size 3 1 v k (JQ (Ma.bh k)))/\Hid (Below w.heap.size w wr)) (fun _ i _=>n - (intOf i).toNat)
 case atStart=>exact ⟨0,by omega,rfl,World.ownsRow_nil _ _ _ _,Below.refl _ _⟩
 case round =>
  obtain ⟨k,hk,rfl,hs,bN⟩:=hrel
  by_cases aE:k<n
  ·go_wp2_with (at_builtin; refine Rg.IQ rfl _ _ 27 rfl cj hs.p bN.p _ (by simp [Value.oneCell']) rfl rfl (by omega) ?_; intro v' w1 mq cX _ _ _)
   go_roundw
   case rel=>exact ⟨k+1,by omega,by go_num,by rw [show Ma.bh (k+1)=Ma.bh k++[k] from List.range_succ,zN]; exact mq,cX⟩
   case measure=>simp [intOf]; omega
  ·obtain rfl:k=n:=by omega
   go_wp2;go_ret;have ho:=hs.p
   obtain ⟨_,⟨_,h0⟩ | ⟨g,cap,cur,rfl,hg,hc,h3,h4,h5,h6⟩⟩:=hs.p
   ·omega
   ·refine ⟨g,cap,rfl,hg,h3,h4,⟨(ho.lt g rfl).2,fun i hi=>?_,fun i=>ho.frozenAt i⟩,bN.p⟩
    have:=ho.cellAt i (by omega);rw [this];simp [JQ,Ma.bh,hi]
def Eh (a b i:Nat):Nat:=if a<=i/\i+1<b then i+1 else if i+1=b then a else i
def qt (n a b:Nat):List Nat:=(List.range n).map (Eh a b)
theorem QL {f:Nat->Nat} (h:∀ a b,a<n->b<n->f a=f b->a=b):((List.range n).map f).Nodup:=by
 rw [List.Nodup,List.pairwise_map];exact List.Pairwise.imp_of_mem (fun {a b} ha hb hne e=>hne (h a b (List.mem_range.1 ha) (List.mem_range.1 hb) e)) List.nodup_range
theorem Jb {f:Nat->Nat} (h1:∀ a,a<n->f a<n) (h:∀ a b,a<n->b<n->f a=f b->a=b):Gd n ((List.range n).map f):=by
 refine ⟨⟨fun x hx=>?_,QL h⟩,by simp⟩;obtain ⟨a,ha,rfl⟩:=List.mem_map.1 hx
 simpa using h1 a (List.mem_range.1 ha)
theorem getD_map {i:Nat} {f:Nat->Nat} (h:i<n):((List.range n).map f).getD i 0=f i:=by
 rw [List.getD_eq_getElem?_getD,List.getElem?_eq_getElem (by simpa using h)]; simp
theorem Jc {a b:Nat} (eX:a<b) (hb:b<=n):Gd n (qt n a b):=by
 refine Jb (fun i hi=>?_) (fun i j hi hj e=>?_)
 ·unfold Eh; split
  ·omega
  ·split <;> omega
 ·have key:∀ x,(a<=x/\x+1<b/\Eh a b x=x+1)∨(x+1=b/\Eh a b x=a)∨((x<a∨b<=x)/\Eh a b x=x):=fun x=>by
   unfold Eh
   by_cases h1:a<=x/\x+1<b
   ·exact .inl ⟨h1.1,h1.2,if_pos h1⟩
   ·by_cases h2:x+1=b
    ·exact .inr (.inl ⟨h2,by rw [if_neg h1,if_pos h2]⟩)
    ·exact .inr (.inr ⟨by omega,by rw [if_neg h1,if_neg h2]⟩)
  rcases key i with ⟨_,_,e1⟩ | ⟨_,e1⟩ | ⟨_,e1⟩ <;> rcases key j with ⟨_,_,e2⟩ | ⟨_,e2⟩ | ⟨_,e2⟩ <;> omega
theorem xw {g a b:Nat} (h:bV w g n (fun i=>(i:Int))) (eX:a<b) (hb:b<=n) (hn:n<=1000) :
  Calls Tryz.prog 87 #[.slice (some ⟨g,0,none⟩) n cap,.int .i64 a,.int .i64 b] w fun e w'=>e=.returned (.slice (some ⟨g,0,none⟩) n cap)/\fN w' g n (qt n a b)/\Rg.Kp (fun z=>z=g) w w':=by
 have H:=U (show bV w g n (fun j=>if a<=j/\j<a then ((j:Nat):Int)+1 else (j:Int)) from h.congr fun i _=>by rw [if_neg (by omega)]);have K:=U (Rg.Kp.refl (fun z=>z=g) w);clear h
 go_enter Tryz.func87,Tryz.ntmps87
 go_wp2
 go_loopw [7] (fun iv wr=>∃ k:Nat,iv=.int .i64 k/\a<=k/\k<=b/\Hid (bV wr g n (fun j=>if a<=j/\j<k then ((j:Nat):Int)+1 else (j:Int)))/\Hid (Rg.Kp (fun z=>z=g) w wr)) (fun iv _=>b - (intOf iv).toNat)
 case atStart=>exact ⟨a,rfl,Nat.le_refl _,by omega,H,K⟩
 case round =>
  clear H K;obtain ⟨k,rfl,uN,mK,H,K⟩:=hrel
  by_cases aE:k<b
  ·have c1:=H.p.2.1 k (by omega)
   have f1:=H.p.2.2 k;have hs:=U (H.p.set k ((k:Int)+1) (by omega));have cO:=U (Rg.Kp.trans (M:=fun z=>z=g) K.p (Rg.Kp.aL (M:=fun z=>z=g) (a:=⟨g,k,none⟩) (v:=.int .i64 ((k:Int)+1)) rfl) (fun _ _ e=>e));go_wp2
   go_roundw
   case rel=>exact ⟨k+1,by go_num,by omega,aE,U (hs.p.congr fun i hi=>by
    by_cases e:i=k
    ·subst e; rw [if_pos rfl,if_pos (by omega)]
    ·rw [if_neg e]
     by_cases e2:a<=i/\i<k
     ·rw [if_pos e2,if_pos (by omega)]
     ·rw [if_neg e2,if_neg (by omega)]),cO⟩
   case measure=>simp [intOf]; omega
  ·obtain rfl:k=b:=by omega
   obtain ⟨c,rfl⟩:∃ c,k=c+1:=⟨k - 1,by omega⟩;have c1:=H.p.2.1 c (by omega);have f1:=H.p.2.2 c;have hs:=U (H.p.set c (a:Int) (by omega));have cO:=U (Rg.Kp.trans (M:=fun z=>z=g) K.p (Rg.Kp.aL (M:=fun z=>z=g) (a:=⟨g,c,none⟩) (v:=.int .i64 (a:Int)) rfl) (fun _ _ e=>e));go_wp2;go_ret;refine ⟨rfl,bV.congr hs.p fun i hi=>?_,cO.p⟩;show _=((((List.range n).map (Eh a (c+1))).getD i 0:Nat):Int);rw [getD_map hi];unfold Eh
   by_cases e:i=c
   ·subst e; rw [if_pos rfl,if_neg (by omega),if_pos rfl]
   ·rw [if_neg e]
    by_cases e2:a<=i/\i<c+1
    ·rw [if_pos e2,if_pos (by omega)]; rfl
    ·rw [if_neg e2,if_neg (by omega),if_neg (by omega)]
def Nr (y:List Nat) (i k j:Nat):Nat:=if j=k then y.getD i 0 else if j=i then y.getD k 0 else y.getD j 0
def X0 (n:Nat) (y:List Nat) (i k:Nat):List Nat:=(List.range n).map (Nr y i k)
theorem Jd {i k:Nat} {y:List Nat} (gy:Gd n y) (hi:i<n) (hk:k<n):Gd n (X0 n y i k):=by
 have h1:∀ j,j<n->y.getD j 0<n:=fun j hj=>Cm.cy gy hj;have h2:∀ a b,a<n->b<n->y.getD a 0=y.getD b 0->a=b:=fun a b ha hb e=>Cm.jz gy ha hb e;refine Jb (fun j hj=>?_) (fun a b ha hb e=>?_)
 ·unfold Nr; split
  ·exact h1 _ hi
  ·split
   ·exact h1 _ hk
   ·exact h1 _ hj
 ·unfold Nr at e
  by_cases a1:a=k
  ·rw [if_pos a1] at e
   by_cases b1:b=k
   ·omega
   ·rw [if_neg b1] at e
    by_cases b2:b=i
    ·rw [if_pos b2] at e; have:=h2 _ _ hi hk e; omega
    ·rw [if_neg b2] at e; have:=h2 _ _ hi hb e; omega
  ·rw [if_neg a1] at e
   by_cases a2:a=i
   ·rw [if_pos a2] at e
    by_cases b1:b=k
    ·rw [if_pos b1] at e; have:=h2 _ _ hk hi e; omega
    ·rw [if_neg b1] at e
     by_cases b2:b=i
     ·omega
     ·rw [if_neg b2] at e; have:=h2 _ _ hk hb e; omega
   ·rw [if_neg a2] at e
    by_cases b1:b=k
    ·rw [if_pos b1] at e; have:=h2 _ _ ha hi e; omega
    ·rw [if_neg b1] at e
     by_cases b2:b=i
     ·rw [if_pos b2] at e; have:=h2 _ _ ha hk e; omega
     ·rw [if_neg b2] at e; exact h2 _ _ ha hb e
theorem fN.swap {g i k:Nat} {y:List Nat} (h:fN w g n y) (hi:i<n) (hk:k<n):fN ((w.setCell ⟨g,i,none⟩ (.int .i64 ((y.getD k 0:Nat):Int))).setCell ⟨g,k,none⟩ (.int .i64 ((y.getD i 0:Nat):Int))) g n (X0 n y i k):=by
 refine bV.congr ((bV.set h i _ hi).set k _ hk) fun j hj=>?_;show _=((((List.range n).map (Nr y i k)).getD j 0:Nat):Int);rw [getD_map hj];unfold Nr
 by_cases e:j=k
 ·rw [if_pos e,if_pos e]
 ·rw [if_neg e,if_neg e]
  by_cases e2:j=i
  ·rw [if_pos e2,if_pos e2]
  ·rw [if_neg e2,if_neg e2]
theorem Ae {g:Nat} (h:bV w g n (fun i=>(i:Int))):fN w g n (Ma.bh n):=bV.congr h fun i hi=>by
 have:=Cm.cF hi;unfold Cm.ap at this;rw [this]
def QM (w0 w:World) (tk:Nat) (lv:Value) (l:List Int) (n:Nat) (e:Ending) (w':World):Prop:=∃ g cap y k',e=.returned (.slice (some ⟨g,0,none⟩) n cap)/\w.heap.size<=g/\n<=cap/\cap<=maxLen/\Gd n y/\fN w' g n y/\Tk w0 w' tk k' lv l/\Rg.Kp (fun z=>z=tk) w w'
theorem Bx {k:Nat} {lv:Value} {l:List Int} (h:Tk w0 w tk k lv l) (bQ:1<=n) (cC:n<=64) :
  Calls Tryz.prog 86 #[.pointer (some ⟨tk,0,none⟩),.int .i64 ((n:Nat):Int)] w (QM w0 w tk lv l n):=by
 have TK:=U h;have K:=U (Rg.Kp.refl (fun z=>z=tk) w);have Kr:=U h.lo;have KU:=U h.lt;have HWW:=U h.bX.size;clear h
 go_enter Tryz.func86,Tryz.ntmps86
 go_upto_region 1 with (fail);refine d3 ?_;refine d5 8 (.int .i64 ((n:Nat):Int)) ?_;go_frame;refine f7 9 (aF 66 _ _ rfl rfl (G_ _ _)) ?_;refine (oD n w bQ (by omega)).mono ?_;rintro e1 w1 ⟨g,cap,rfl,hg,cJ,eD,hro,hb⟩;have HG:=U hg;have Hb:=U (show n<=cap/\cap<=maxLen from ⟨cJ,eD⟩);have yM:=Ae hro;clear hg cJ eD hro;refine ⟨_,rfl,?_⟩;go_frame;replace TK:=U (TK.p.jj hb);replace K:=U (mN K.p hb);clear hb;have PR:=U yM;refine d6 5 (.slice (some ⟨g,0,none⟩) n cap) ?_;go_frame;go_upto_region 2 with (fail);refine d3 ?_;refine d6 6 (.int .i64 ((0:Nat):Int)) ?_;go_frame;clear yM;have GY:=U (Cm.eL n);go_wp2
 go_loopw [6] (fun iv wr=>∃ (i k':Nat) (y:List Nat),iv=.int .i64 i/\i<=n/\Hid (fN wr g n y)/\Hid (Gd n y)/\Hid (Tk w0 wr tk k' lv l)/\Hid (Rg.Kp (fun z=>z=tk) w wr)) (fun iv _=>n - (intOf iv).toNat)
 case atStart=>exact ⟨0,k,_,rfl,Nat.zero_le _,PR,GY,TK,K⟩
 case round =>
  clear PR GY TK K;obtain ⟨i,k',y,rfl,hi,PR,GY,TK,K⟩:=hrel
  by_cases bF:i+1<n
  ·have Qc:(i:Int)+1<(n:Int):=by omega
   go_upto_region 3 with (fail);refine d3 ?_;refine d5 10 (.int .i64 ((i:Nat):Int)) ?_;go_frame;refine d4 11 (g9 (.int .i64 (((i+1):Nat):Int)) .add (h:=bA _ (by omega) (by omega))) ?_;go_frame;refine d5 12 (.int .i64 ((n:Nat):Int)) ?_;go_frame;refine d4 13 (g9 (.bool true) .lss (h:=aP _ f8)) ?_;go_frame;go_upto_region 5 with (fail);refine d3 ?_;refine d5 16 (.int .i64 ((i:Nat):Int)) ?_;go_frame;refine d5 17 (.pointer (some ⟨tk,0,none⟩)) ?_;go_frame;refine d5 18 (.int .i64 ((n:Nat):Int)) ?_;go_frame;refine d5 19 (.int .i64 ((i:Nat):Int)) ?_;go_frame;refine d4 20 (g9 (.int .i64 (((n - i):Nat):Int)) .sub (h:=gC _ (by omega) (by omega))) ?_;go_frame;refine f7 21 (aw 85 _ _ _ rfl rfl rfl (mO _ _)) ?_;refine (fZ TK.p ((n - i:Nat):Int) (by omega)).mono ?_;rintro e1 cW ⟨r,k2,rfl,cY,nU,fT,bZ⟩
   have By:r<n - i:=by have:=cY (by omega); omega
   have fO:=bV.kp PR.p bZ (fun e=>by have:=KU.p; have:=HG.p; omega);clear cY nU;refine ⟨_,rfl,?_⟩;go_frame;clear TK;replace PR:=U fO;replace K:=U (Rg.Kp.trans (M:=fun z=>z=tk) K.p bZ (fun _ _ e=>e));have UA:=U fT;clear bZ fO;refine d4 22 (g9 (.int .i64 (((i+r):Nat):Int)) .add (h:=bA _ (by omega) (by omega))) ?_;go_frame;refine d6 7 (.int .i64 (((i+r):Nat):Int)) ?_;go_frame;clear fT
   have tM:i+r<n:=by omega
   have j3:i<n:=by omega
   go_upto_region 6 with (fail);have dr:Below cW.heap.size cW cW.drew:=(Below.refl _ _).drew;replace PR:=U (fN.jj PR.p dr);replace UA:=U (UA.p.jj dr);replace K:=U (mN K.p dr);clear dr;have aq:Below cW.heap.size cW cW.drew:=(Below.refl _ _).drew;generalize c_ (fun _:Nat=>True) cW cW.drew=F1 at *;clear aq;refine Rg.Any.begin (S:=Rg.aG 13 (fun W:World=>W.cell? ⟨g,i,none⟩=some (.int .i64 ((y.getD i 0:Nat):Int))/\W.cell? ⟨g,i+r,none⟩=some (.int .i64 ((y.getD (i+r) 0:Nat):Int))) (fun _=>True)) mix ?_;generalize cW.drew=eY at *;have hS:∀ (l:Array Bool) W,(fun W:World=>W.cell? ⟨g,i,none⟩=some (.int .i64 ((y.getD i 0:Nat):Int))/\W.cell? ⟨g,i+r,none⟩=some (.int .i64 ((y.getD (i+r) 0:Nat):Int))) W->Rg.aG 13 (fun W:World=>W.cell? ⟨g,i,none⟩=some (.int .i64 ((y.getD i 0:Nat):Int))/\W.cell? ⟨g,i+r,none⟩=some (.int .i64 ((y.getD (i+r) 0:Nat):Int))) (fun _=>True) l W:=fun l W h=>⟨.inr h,trivial⟩
   have bW:∀ (l:Array Bool) W,l.getD 13 false=true->Rg.aG 13 (fun W:World=>W.cell? ⟨g,i,none⟩=some (.int .i64 ((y.getD i 0:Nat):Int))/\W.cell? ⟨g,i+r,none⟩=some (.int .i64 ((y.getD (i+r) 0:Nat):Int))) (fun _=>True) l W:=fun l W h=>⟨.inl h,trivial⟩;have hI:(fun W:World=>W.cell? ⟨g,i,none⟩=some (.int .i64 ((y.getD i 0:Nat):Int))/\W.cell? ⟨g,i+r,none⟩=some (.int .i64 ((y.getD (i+r) 0:Nat):Int))) eY:=⟨PR.p.2.1 i j3,PR.p.2.1 (i+r) tM⟩;refine d8 0 13 (.slice (some ⟨g,0,none⟩) n cap) 23 (hS _ _ hI) ?_;go_frame;refine d8 1 13 (.int .i64 ((i:Nat):Int)) 24 (hS _ _ hI) ?_;go_frame;refine d8 2 13 (.slice (some ⟨g,0,none⟩) n cap) 25 (hS _ _ hI) ?_;go_frame;refine d8 3 13 (.int .i64 (((i+r):Nat):Int)) 26 (hS _ _ hI) ?_;go_frame;refine d8 4 13 (.slice (some ⟨g,0,none⟩) n cap) 27 (hS _ _ hI) ?_;go_frame
   refine d8 5 13 (.int .i64 (((i+r):Nat):Int)) 28 (hS _ _ hI) ?_;go_frame;refine d7 6 13 (.pointer (some ⟨g,0+(i+r),none⟩)) 29 rfl rfl (Rg.aA cj _ _ rfl rfl g (0) (n) cap ((i+r)) rfl rfl tM) (hS _ _ hI) ?_;go_frame;refine i7 7 13 (.int .i64 (((y.getD (i+r) 0):Nat):Int)) 30 rfl rfl (i9 ⟨g,0+(i+r),none⟩ (fun W hW=>ah (by rw [Nat.zero_add]; exact hW.2))) (hS _ _ hI) ?_;go_frame;refine d8 8 13 (.slice (some ⟨g,0,none⟩) n cap) 31 (hS _ _ hI) ?_;go_frame;refine d8 9 13 (.int .i64 ((i:Nat):Int)) 32 (hS _ _ hI) ?_;go_frame;refine d7 10 13 (.pointer (some ⟨g,0+i,none⟩)) 33 rfl rfl (Rg.aA cj _ _ rfl rfl g (0) (n) cap (i) rfl rfl j3) (hS _ _ hI) ?_;go_frame;refine i7 11 13 (.int .i64 (((y.getD i 0):Nat):Int)) 34 rfl rfl (i9 ⟨g,0+i,none⟩ (fun W hW=>ah (by rw [Nat.zero_add]; exact hW.1))) (hS _ _ hI) ?_;go_frame
   refine d7 12 13 (.pointer (some ⟨g,0+i,none⟩)) 35 rfl rfl (Rg.aA cj _ _ rfl rfl g (0) (n) cap (i) rfl rfl j3) (hS _ _ hI) ?_;go_frame;refine Rg.Any.one (i:=13) (by kernel_rfl) (Rg.Any.cA none rfl rfl rfl (Rg.ai _ _ _ rfl _ rfl _ rfl (bI _ (by rw [Nat.zero_add]; exact PR.p.2.1 i j3) (PR.p.2.2 _))) (bW _ _ rfl) ?_);go_frame;refine d7 14 13 (.pointer (some ⟨g,0+(i+r),none⟩)) 36 rfl rfl (Rg.aA cj _ _ rfl rfl g (0) (n) cap ((i+r)) rfl rfl tM) (bW _ _ rfl) ?_;go_frame;obtain ⟨u2,tN⟩:∃ u,(eY.setCell ⟨g,0+i,none⟩ (.int .i64 ((y.getD (i+r) 0:Nat):Int))).cell? ⟨g,0+(i+r),none⟩=some u:=⟨_,by rw [Nat.zero_add,Nat.zero_add]; exact (bV.set PR.p i _ j3).2.1 (i+r) tM⟩;refine Rg.Any.one (i:=15) (by kernel_rfl) (Rg.Any.cA none rfl rfl rfl (Rg.ai _ _ _ rfl _ rfl _ rfl (bI _ tN (by rw [World.frozen?_setCell]; exact PR.p.2.2 _))) (bW _ _ rfl) ?_)
   go_frame;refine Rg.Any.done (by kernel_rfl) ?_ _;clear bW;clear hS hI;have Ei:=PR.p.swap j3 tM;have vd:=Rg.Kp.trans (M:=fun z=>z=g) (Rg.Kp.aL (M:=fun z=>z=g) (w:=eY) (a:=⟨g,i,none⟩) (v:=.int .i64 ((y.getD (i+r) 0:Nat):Int)) rfl) (Rg.Kp.aL (M:=fun z=>z=g) (a:=⟨g,i+r,none⟩) (v:=.int .i64 ((y.getD i 0:Nat):Int)) rfl) (fun _ _ e=>e);have e0:0+i=i:=Nat.zero_add i;have e1:0+(i+r)=i+r:=Nat.zero_add _;rw [e0,e1];generalize (eY.setCell ⟨g,i,none⟩ (.int .i64 ((y.getD (i+r) 0:Nat):Int))).setCell ⟨g,i+r,none⟩ (.int .i64 ((y.getD i 0:Nat):Int))=dT at *;have UB:=U Ei;have Mg:=U (Jd GY.p j3 tM);have TK3:=U (UA.p.kp vd (fun e=>by have:=KU.p; have:=HG.p; omega) (fun z e=>by have:=KU.p; have:=HG.p; have:=Kr.p; omega));have K3:=U (Rg.Kp.trans (M:=fun z=>z=tk) K.p vd (fun z hz e=>by have:=HG.p; omega))
   clear Ei vd e0 e1;go_wp2
   go_roundw
   case rel=>exact ⟨i+1,_,_,by go_num,by omega,UB,Mg,TK3,K3⟩
   case measure=>simp [intOf]; omega
  ·have Qc:¬ (i:Int)+1<(n:Int):=by omega
   go_upto_region 3 with (fail);refine d3 ?_;refine d5 10 (.int .i64 ((i:Nat):Int)) ?_;go_frame;refine d4 11 (g9 (.int .i64 (((i+1):Nat):Int)) .add (h:=bA _ (by omega) (by omega))) ?_;go_frame;refine d5 12 (.int .i64 ((n:Nat):Int)) ?_;go_frame;refine d4 13 (g9 (.bool false) .lss (h:=aP _ f9)) ?_;go_frame;go_upto_region 7 with (fail);refine d3 ?_;refine d5 37 (.slice (some ⟨g,0,none⟩) n cap) ?_;go_frame;refine d6 4 (.slice (some ⟨g,0,none⟩) n cap) ?_;go_frame;go_wp2;go_ret;exact ⟨g,cap,y,_,rfl,HG.p,Hb.p.1,Hb.p.2,GY.p,PR.p,TK.p,K.p⟩
end
section
open Go.RowKit
open Go.Proofs.Ob
open Go.Proofs.Cm (Gd Gr ak)
attribute [local irreducible] Go.Calls Go.wpList
theorem xx (w:World) (n:Nat):bV (w.alloc (.cells (madeCells #[.int .i64 0] n) 3)) w.heap.size n (fun _=>0):=by
 have h:=World.rowIs_made w (.int .i64 0) n 3;exact ⟨by simp,fun i hi=>h.cell hi,fun i=>h.frozen i⟩
theorem dm.mono {B B':Nat} {w:World} {d:Int} {ll:List (List Int)} {cv:Value} {c:Int} (h:dm B w d ll cv c) (hB:B'<=B):dm B' w d ll cv c:=by
 rcases h with h | ⟨h0,n,gs,h1,h2,h3,h4,ov,rv,O,R,h5,h6,h7,h8⟩
 ·exact .inl h
 ·exact .inr ⟨h0,n,gs,h1,h2,h3,h4,ov,rv,O,R,h5,aH.mono h6 (fun z hz=>Nat.le_trans hB hz),bf.mono h7 (fun z hz=>Nat.le_trans hB hz),h8⟩
theorem dm.jj {d:Int} {cv:Value} {c:Int} (h:dm B w d ll cv c) (hb:Below w.heap.size w w'):dm B w' d ll cv c:=h.kp (M:=fun _=>False) (Rg.Kp.az hb) (fun _ e=>e.elim)
end
section
open Go.RowKit
open Go.Proofs.Ob
open Go.Proofs.Cm (Gd Gr)
attribute [local irreducible] Go.Calls Go.wpList
def Ns (F:FuncId) (gN:Array Value) (mv:List Int) (p:Int->Bool) (w:World):Prop :=
 ∀ x,x∈mv->∀ w1,Below w.heap.size w w1->Calls Tryz.prog F (#[.int .i64 x]++gN) w1 fun e w2=>e=.returned (.bool (p x))/\Below w1.heap.size w1 w2
def uE (mv:List Int) (p:Int->Bool):Int:=match mv.findIdx? p with
 | some i=>i
 | none=>-1
theorem KV {mv:List Int} {p:Int->Bool} {k:Nat} (hk:k<mv.length) (h:∀ i (hi:i<mv.length),i<k->p mv[i]=false) (hp:p mv[k]=true):uE mv p=k:=by
 have:mv.findIdx? p=some k:=by
  rw [List.findIdx?_eq_some_iff_getElem];exact ⟨hk,hp,fun j hj=>by simp [h j (by omega) hj]⟩
 unfold uE; rw [this]
theorem Hh {mv:List Int} {p:Int->Bool} (h:∀ i (hi:i<mv.length),p mv[i]=false):uE mv p = -1:=by
 have:mv.findIdx? p=none:=by
  rw [List.findIdx?_eq_none_iff];intro x hx;obtain ⟨i,hi,rfl⟩:=List.getElem_of_mem hx;exact h i hi
 unfold uE; rw [this]
theorem KZ (mv:List Int) (p:Int->Bool):decide (0<=uE mv p)=mv.any p:=by
 unfold uE
 cases h:mv.findIdx? p with
 | none =>
  rw [List.findIdx?_eq_none_iff] at h
  have:mv.any p=false:=by rw [List.any_eq_false]; intro x hx; simp [h x hx]
  rw [this]; rfl
 | some i =>
  rw [List.findIdx?_eq_some_iff_getElem] at h;obtain ⟨h1,h2,_⟩:=h
  have:mv.any p=true:=by rw [List.any_eq_true]; exact ⟨_,List.getElem_mem h1,h2⟩
  rw [this]; simp
theorem vu (sZ:Value) (mv:List Int) (F:FuncId) (gN:Array Value) (p:Int->Bool) (w:World) (h:Rg.Ints w sZ mv) (hl:mv.length<=1000) (hF:∀ args w,(callFunc F args).run Tryz.prog w=.ok (.enter F args) w) (hf:Ns F gN mv p w) :
  Calls Tryz.prog 136 #[sZ,.func (.func F) #[] gN] w fun e w'=>e=.returned (.int .i64 (uE mv p))/\Below w.heap.size w w':=by
 obtain ⟨ad,cap,rfl,hc,hm,_,aO⟩:=h.shape;have Hr:=U aO;have HF:=U hf;clear h aO hf
 go_enter Tryz.func136,Tryz.ntmps136
 go_wp2
 go_loopw [8] (fun vi wr=>∃ k:Nat,k<=mv.length/\vi=.int .i64 k/\Hid (∀ i (hi:i<mv.length),i<k->p mv[i]=false)/\Hid (Below w.heap.size w wr)) (fun vi _=>mv.length - (intOf vi).toNat)
 case atStart=>exact ⟨0,by omega,rfl,fun i hi h0=>by omega,Below.refl _ _⟩
 case round =>
  obtain ⟨k,hk,rfl,iN,hb⟩:=hrel
  by_cases aE:k<mv.length
  ·obtain ⟨b,o,rfl,Tp,L9⟩:=Hr.p (by omega)
   have eu:=L9 k aE;obtain ⟨x,hx⟩:∃ x,x=mv[k]:=⟨_,rfl⟩;rw [<- hx] at eu;have e0:wr.cell? ⟨b,o+k,none⟩=some (.int .i64 x):=(hb.p.cell (p:=⟨b,o+k,none⟩) Tp).trans eu;have iA:=HF.p x (by rw [hx]; exact List.getElem_mem _) wr hb.p;have lL:=U aE;have Hx:=U hx;clear L9 eu hx
   cases hp:p x
   ·have Hp:=U hp
    have p9:=U (show Calls Tryz.prog F (#[.int .i64 x]++gN) wr (fun e w2=>e=.returned (.bool false)/\Below wr.heap.size wr w2) from iA.mono fun e w2 ⟨h1,h2⟩=>⟨h1.trans (by rw [Hp.p]),h2⟩);clear iA hp
    go_wp2_with (refine p9.p.mono ?_; rintro e w1 ⟨rfl,cX⟩)
    go_roundw
    case rel=>exact ⟨k+1,by omega,by go_num,fun i hi h0=>(by
     rcases Nat.lt_or_ge i k with h1 | h1
     ·exact iN.p i hi h1
     ·obtain rfl:i=k:=by omega
      rw [<- Hx.p]; exact Hp.p),Rg.acc hb.p cX⟩
    case measure=>simp [intOf]; omega
   ·have Hp:=U hp
    have p9:=U (show Calls Tryz.prog F (#[.int .i64 x]++gN) wr (fun e w2=>e=.returned (.bool true)/\Below wr.heap.size wr w2) from iA.mono fun e w2 ⟨h1,h2⟩=>⟨h1.trans (by rw [Hp.p]),h2⟩);clear iA hp
    go_wp2_with (refine p9.p.mono ?_; rintro e w1 ⟨rfl,cX⟩)
    go_ret;exact ⟨Rg.gI (KV lL.p iN.p (by rw [<- Hx.p]; exact Hp.p)).symm,Rg.acc hb.p cX⟩
  ·obtain rfl:k=mv.length:=by omega
   go_wp2;go_ret;exact ⟨Rg.gI (Hh (fun i hi=>iN.p i hi hi)).symm,hb.p⟩
theorem eM (sZ:Value) (mv:List Int) (F:FuncId) (gN:Array Value) (p:Int->Bool) (w:World) (h:Rg.Ints w sZ mv) (hl:mv.length<=1000) (hF:∀ args w,(callFunc F args).run Tryz.prog w=.ok (.enter F args) w) (hf:Ns F gN mv p w) :
  Calls Tryz.prog 105 #[sZ,.func (.func F) #[] gN] w fun e w'=>e=.returned (.bool (mv.any p))/\Below w.heap.size w w':=by
 have hi:=U (vu sZ mv F gN p w h hl hF hf);have ha:=KZ mv p;generalize uE mv p=r at hi ha;generalize mv.any p=b at ha ⊢;have Ha:=U ha;clear ha h hf hF
 go_enter Tryz.func105,Tryz.ntmps105
 go_wp2_with (refine hi.p.mono ?_; rintro e w1 ⟨rfl,cX⟩)
 go_ret;exact ⟨Rg.ja Ha.p,cX⟩
end
section
open Go.RowKit
open Go.Proofs.Ob
open Go.Proofs.Cm (Gd Gr ak ap)
attribute [local irreducible] Go.Calls Go.wpList
theorem kZ (hc:ak N H O R) (h:bg w ov rv (O.map Ma.ag) (R.map (List.map Ma.ag))) {i:Nat} (hi:i<N) :
  ∃ ob oo oc rb ro rc,ov=.slice (some ⟨ob,oo,none⟩) N oc/\rv=.slice (some ⟨rb,ro,none⟩) N rc/\(∃ ua uc,CL w ob (oo+i) (.slice ua (O.getD i []).length uc)/\Rg.Ints w (.slice ua (O.getD i []).length uc) (Ma.ag (O.getD i []))) /\
   (∃ va vc,CL w rb (ro+i) (.slice va (O.getD i []).length vc)/\Rg.Rows w (.slice va (O.getD i []).length vc) ((R.getD i []).map Ma.ag)):=by
 have ve:(O.map Ma.ag).length=N:=by rw [List.length_map,hc.gK]
 have QN:(R.map (List.map Ma.ag)).length=N:=by rw [List.length_map,hc.iq]
 obtain ⟨oa,oc,rfl,-⟩:=h.1.shape;obtain ⟨ra,rc,rfl⟩:=h.2.shape;have h1:=h.1;have h2:=h.2;rw [ve] at h1;rw [QN] at h2;obtain ⟨ob,oo,ua,uc,e5,AV,Kd,tO⟩:=G1 h1 (i:=i) (by rw [ve]; exact hi);subst e5;obtain ⟨rb,ro,e6,l8,u,wN,hu⟩:=h2.at' (k:=i) (by rw [QN]; exact hi);subst e6
 have QF:(O.map Ma.ag)[i]'(by rw [ve]; exact hi)=Ma.ag (O.getD i []):=by
  have QG:i<O.length:=by rw [hc.gK]; exact hi
  rw [List.getElem_map,df QG]
 rw [QF] at Kd tO;rw [Ma.ar] at Kd tO
 have Eb:(R.map (List.map Ma.ag))[i]'(by rw [QN]; exact hi)=(R.getD i []).map Ma.ag:=by
  have Bq:i<R.length:=by rw [hc.iq]; exact hi
  rw [List.getElem_map,df Bq]
 rw [Eb] at hu;obtain ⟨va,vc,rfl,-⟩:=hu.shape;rw [List.length_map,hc.len i hi] at wN hu;rw [ve,QN];exact ⟨ob,oo,oc,rb,ro,rc,rfl,rfl,⟨ua,uc,CL.mk Kd AV,tO⟩,⟨va,vc,CL.mk wN l8,hu⟩⟩

theorem K0 (w:World):Rg.Ints w (.slice none 0 0) []:=(show FP (fun _=>True) w (.slice none 0 0) [] from ⟨none,0,rfl,Nat.le_refl _,Nat.zero_le _,Nat.zero_le _,fun h=>absurd h (Nat.lt_irrefl 0)⟩).np
end
section
open Go.RowKit
open Go.Proofs.Cm (Gd Gr ak)
structure dw (w:World) (v:Value) (l:List Int):Prop where
 i:Rg.Ints w v l
theorem dw.jj {w w':World} {v:Value} {l:List Int} (h:dw w v l) (hb:Below w.heap.size w w'):dw w' v l:=⟨h.i.jj hb⟩
theorem dw.at {lv:Value} {M:List Nat} (h:dw w lv (Ma.ag M)) (hM:M.length=D) (hD:1<=D):∃ b o c,lv=.slice (some ⟨b,o,none⟩) D c/\∀ i,i<D->CL w b (o+i) (.int .i64 ((M.getD i 0:Nat):Int)):=by
 obtain ⟨a,c,rfl,hc,hm,_,aO⟩:=Rg.NP.shape (show Rg.NP w lv M from h.i);obtain ⟨b,o,rfl,hb,hr⟩:=aO (by omega);refine ⟨b,o,c,by rw [hM],fun i hi=>⟨?_,hb⟩⟩;rw [List.getD_eq_getElem?_getD,List.getElem?_eq_getElem (show i<M.length by omega),Option.getD_some];exact hr i (by omega)
theorem kh {a:Option Addr} {c:Nat} {T:List (List Int)} (h:Rg.Rows w (.slice a n c) T) {i:Nat} (hi:i<T.length):∃ b o ua uc,a=some ⟨b,o,none⟩/\b<w.heap.size/\w.cell? ⟨b,o+i,none⟩=some (.slice ua T[i].length uc)/\Rg.Ints w (.slice ua T[i].length uc) T[i]:=by
 obtain ⟨a',c',e,-,-,-,hx⟩:=h.shape;simp only [Value.slice.injEq] at e;obtain ⟨rfl,rfl,rfl⟩:=e;obtain ⟨b,o,e1,e2,e3⟩:=hx (by omega);obtain ⟨u,h1,h2⟩:=e3 i hi;obtain ⟨ua,uc,e4,-⟩:=Rg.Ints.shape h2;subst e4;exact ⟨b,o,ua,uc,e1,e2,h1,h2⟩
theorem Af {a:Option Addr} {c:Nat} {l:List Int} (h:Rg.Ints w (.slice a n c) l) {k:Nat} (hk:k<l.length):∃ b o,a=some ⟨b,o,none⟩/\b<w.heap.size/\w.cell? ⟨b,o+k,none⟩=some (.int .i64 l[k]):=by
 obtain ⟨a',c',e,-,-,-,hx⟩:=h.shape;simp only [Value.slice.injEq] at e;obtain ⟨rfl,rfl,rfl⟩:=e;obtain ⟨b,o,e1,e2,e3⟩:=hx (by omega);exact ⟨b,o,e1,e2,e3 k hk⟩
structure jX (w:World) (v:Value) (T:List (List Int)):Prop where
 r:Rg.Rows w v T
theorem jX.jj {w w':World} {v:Value} {T:List (List Int)} (h:jX w v T) (hb:Below w.heap.size w w'):jX w' v T:=⟨Rg.Rows.jj h.r hb⟩
theorem tP {D:Nat} (h1:1<=D) (h2:D<=64):∀ {gs:List (List Nat)},(∀ s∈gs,Gd D s)->Ma.iY ((D:Nat):Int) (gs.map Ma.ag)=0
 | [],_=>rfl
 | s :: gs,h=>by
  have g:=h s (List.mem_cons_self ..);have e1:Ma.bB (Ma.ag s)=0:=Ma.km (by rw [Ma.ar,g.2]; exact h1) (by rw [Ma.ar,g.2]; exact h2) (Ma.lJ g.1)
  have e2:((Ma.ag s).length:Int)=((D:Nat):Int):=by rw [Ma.ar,g.2]
  show (if Ma.bB (Ma.ag s)=0 then (if ((Ma.ag s).length:Int)=((D:Nat):Int) then Ma.iY ((D:Nat):Int) (gs.map Ma.ag) else 10) else Ma.bB (Ma.ag s))=0;rw [if_pos e1,if_pos e2];exact tP h1 h2 (fun x hx=>h x (List.mem_cons_of_mem _ hx))
theorem Ej (h1:1<=D) (h2:D<=64) (hl:gs.length<=4096) (h:∀ s∈gs,Gd D s):dc ((D:Nat):Int) (gs.map Ma.ag)=0:=by
 unfold dc;rw [if_pos (by omega),if_pos (by rw [List.length_map]; exact hl)];exact tP h1 h2 h
end
section
open Go.RowKit
open Go.Proofs.Ob
open Go.Proofs.Cm (Gd)
attribute [local irreducible] Go.Calls Go.wpList
theorem UC (args:Array Value) (w:World):(callFunc 86 args).run Tryz.prog w=.ok (.enter 86 args) w:=by kernel_rfl
theorem Nt (args:Array Value) (w:World):(callFunc 87 args).run Tryz.prog w=.ok (.enter 87 args) w:=by kernel_rfl
theorem Hi (args:Array Value) (w:World):(callFunc 34 args).run Tryz.prog w=.ok (.enter 34 args) w:=by kernel_rfl
theorem za {o:Oper} {a:Act} {la:Option Addr} {c:Nat} (x:Operand) (ho:o.op=.build 124 #[(0,x)]) (hx:a.eval x=.slice la n c) :
  (execOp a.eval o).run Tryz.prog w=.ok (.value (.agg #[.slice la n c,.int .i64 0])) w:=by
 unfold execOp;simp only [ho,Sem.run_bind,Sem.run_pure];simp only [List.map_toArray,List.map_cons,List.map_nil,hx]
 have h:(Instr.build 124 #[(0,.slice la n c)]).run Tryz.prog w=.ok (.agg #[.slice la n c,.int .i64 0]) w:=by kernel_rfl
 first | (rw [h]; rfl) | (erw [h]; rfl)
theorem Tk.new {la:Option Addr} {c:Nat} {l:List Int} (hb:Below w.heap.size w W) (hl:Rg.cZ maxLen w (.slice la n c) l) (t:TypeId):Tk w (W.alloc (.cells #[.slice la n c,.int .i64 0] t)) W.heap.size 0 (.slice la n c) l :=
 ⟨by rw [Rg.aI]; rfl,by rw [Rg.aI]; rfl,cp _ _ _ 0 _,by simp,hb.size,hb.alloc hb.size _,hl⟩
structure CW1 (w:World) (b:Nat) (v:Value):Prop where
 c:w.cell? ⟨b,1,none⟩=some v
 f:w.frozen? ⟨b,1,none⟩=false
 lt:b<w.heap.size
theorem Tk.up {k:Nat} {lv:Value} {l:List Int} (h:Tk w0 w tk k lv l) (hb:Below w.heap.size w w'):Tk w0 w' tk k lv l:=h.jj hb
theorem fN.up {g:Nat} {y:List Nat} (h:fN w g n y) (hb:Below w.heap.size w w'):fN w' g n y:=h.jj hb
theorem bV.up {g:Nat} {f:Nat->Int} (h:bV w g n f) (hb:Below w.heap.size w w'):bV w' g n f:=h.jj hb
theorem _root_.Go.Proofs.Rg.Kp.up {w'':World} (h:Rg.Kp M w w') (hb:Below w'.heap.size w' w''):Rg.Kp M w w'':=mN h hb
structure FZ (w:World) (b o:Nat):Prop where
 f:w.frozen? ⟨b,o,none⟩=false
 lt:b<w.heap.size
theorem FZ.jj {b o:Nat} (h:FZ w b o) (hb:Below w.heap.size w w'):FZ w' b o:=⟨(hb.frozen (p:=⟨b,o,none⟩) h.lt).trans h.f,Nat.lt_of_lt_of_le h.lt hb.size⟩
theorem FZ.kp {b o:Nat} (h:FZ w b o) (hk:Rg.Kp M w w') (hM:¬ M b):FZ w' b o:=⟨(World.frozen?_of_block (a:=⟨b,o,none⟩) (hk.block b h.lt hM)).trans h.f,Nat.lt_of_lt_of_le h.lt hk.size⟩
theorem X4 (W:World) (x y:Value) (t:TypeId):CL (((W.alloc (.cells #[.int .i64 0,.slice none 0 0] t)).setCell ⟨W.heap.size,0,none⟩ x).setCell ⟨W.heap.size,1,none⟩ y) W.heap.size 0 x/\(CW1 (((W.alloc (.cells #[.int .i64 0,.slice none 0 0] t)).setCell ⟨W.heap.size,0,none⟩ x).setCell ⟨W.heap.size,1,none⟩ y) W.heap.size y)/\Below W.heap.size W (((W.alloc (.cells #[.int .i64 0,.slice none 0 0] t)).setCell ⟨W.heap.size,0,none⟩ x).setCell ⟨W.heap.size,1,none⟩ y):=by
 have c0:(W.alloc (.cells #[.int .i64 0,.slice none 0 0] t)).cell? ⟨W.heap.size,0,none⟩=some (.int .i64 0):=by rw [Rg.aI]; rfl
 have c1:(W.alloc (.cells #[.int .i64 0,.slice none 0 0] t)).cell? ⟨W.heap.size,1,none⟩=some (.slice none 0 0):=by rw [Rg.aI]; rfl
 have f1:(W.alloc (.cells #[.int .i64 0,.slice none 0 0] t)).frozen? ⟨W.heap.size,1,none⟩=false:=cp _ _ _ 0 _
 have c1':((W.alloc (.cells #[.int .i64 0,.slice none 0 0] t)).setCell ⟨W.heap.size,0,none⟩ x).cell? ⟨W.heap.size,1,none⟩=some (.slice none 0 0):=by
  rw [World.cell?_setCell_other (h:=by intro e; injection e with e1 e2; omega) ..]; exact c1
 refine ⟨⟨?_,by simp⟩,⟨World.cell?_setCell_same (h:=c1') ..,by rw [World.frozen?_setCell,World.frozen?_setCell]; exact f1,by simp⟩,(((Below.refl _ _).alloc (Nat.le_refl _) _).setCell (p:=⟨W.heap.size,0,none⟩) (Nat.le_refl _) x).setCell (p:=⟨W.heap.size,1,none⟩) (Nat.le_refl _) y⟩
 rw [World.cell?_setCell_other (h:=by intro e; injection e with e1 e2; omega) ..]
 exact World.cell?_setCell_same (h:=c0) ..
theorem X6 {rb:Nat} {u0 x y:Value} (h0:W.cell? ⟨rb,0,none⟩=some u0) (h1:W.cell? ⟨rb,1,none⟩=some u1) (aE:rb<W.heap.size) (hb:Below w.heap.size w W) (ve:w.heap.size<=rb:=by omega) :
  ((W.setCell ⟨rb,0,none⟩ x).setCell ⟨rb,1,none⟩ y).cell? ⟨rb,0,none⟩=some x/\((W.setCell ⟨rb,0,none⟩ x).setCell ⟨rb,1,none⟩ y).cell? ⟨rb,1,none⟩=some y/\Below w.heap.size w ((W.setCell ⟨rb,0,none⟩ x).setCell ⟨rb,1,none⟩ y)/\Rg.Kp (fun z=>z=rb) W ((W.setCell ⟨rb,0,none⟩ x).setCell ⟨rb,1,none⟩ y):=by
 have c1:(W.setCell ⟨rb,0,none⟩ x).cell? ⟨rb,1,none⟩=some u1:=by
  rw [World.cell?_setCell_other (h:=by intro e; injection e with e1 e2; omega) ..]; exact h1
 refine ⟨?_,World.cell?_setCell_same (h:=c1) ..,(hb.setCell (p:=⟨rb,0,none⟩) ve x).setCell (p:=⟨rb,1,none⟩) ve y,Rg.Kp.trans (M:=fun z=>z=rb) (Rg.Kp.aL rfl) (Rg.Kp.aL (M:=fun z=>z=rb) rfl) (fun _ _ e=>e)⟩
 rw [World.cell?_setCell_other (h:=by intro e; injection e with e1 e2; omega) ..]
 exact World.cell?_setCell_same (h:=h0) ..
theorem fN.fp {g:Nat} {y:List Nat} (h:fN w g n y) (gy:Gd n y) (hc:n<=cap) (hm:cap<=maxLen) (h1:1<=n) (hn:n<=1000) (hF:F g):FP F w (.slice (some ⟨g,0,none⟩) n cap) y :=
 Rg.cB.of (h.np gy hc hm hn) (fun k e=>by simp [Value.ownBlock] at e; exact e▸hF)
def GM (tk gb rb z:Nat):Prop:=z=tk∨z=gb∨z=rb
structure b_ (B:Nat) (F M:Nat->Prop) (W:World) (v:Value) (l:List (List Nat)):Prop where
 size:B<=W.heap.size
 own:∃ us,W.ownsRow B 27 1 v l.length us/\Rg.bx F W us (l.map Ma.ag)
 off:∀ k,v.ownBlock=some k->¬ F k/\¬ M k
theorem b_.lt {B:Nat} {F M:Nat->Prop} {W:World} {v:Value} {l:List (List Nat)} (h:b_ B F M W v l):∀ k,v.ownBlock=some k->B<=k/\k<W.heap.size:=fun k e=>by
 obtain ⟨us,h1,h2⟩:=h.own;exact h1.lt k e
theorem b_.shape {l:List (List Nat)} (h:b_ B F M W v l):∃ a c,v=.slice a l.length c:=by
 obtain ⟨us,h1,h2⟩:=h.own;exact Rg.cn h1
theorem b_.nil (B:Nat) (F M:Nat->Prop) (W:World) (hB:B<=W.heap.size):b_ B F M W (.slice none 0 0) [] :=
 ⟨hB,⟨[],World.ownsRow_nil _ _ _ _,Rg.bx.nil _ _⟩,fun k e=>by simp [Value.ownBlock] at e⟩
theorem b_.rows {l:List (List Nat)} (h:b_ B F M W v l) (hl:l.length<=1000000000):Rg.Rows W v (l.map Ma.ag):=by
 obtain ⟨us,h1,h2⟩:=h.own;exact Rg.Rows.cR h1 hl h2.1 (fun i a b=>(h2.2 i a b).ints)
theorem b_.kp {B:Nat} {F M N:Nat->Prop} {W W':World} {v:Value} {l:List (List Nat)} (h:b_ B F M W v l) (hk:Rg.Kp N W W') (hF:∀ k,F k->¬ N k) (hN:∀ k,v.ownBlock=some k->¬ N k):b_ B F M W' v l:=by
 obtain ⟨us,h1,h2⟩:=h.own;exact ⟨Nat.le_trans h.size hk.size,⟨us,fD h1 hk (fun k hn e=>hN k e hn),h2.kp hk hF⟩,h.off⟩
theorem b_.QO {N:Nat->Prop} {l:List (List Nat)} (h:b_ B F M W v l) (hk:Rg.Kp N W W') (hF:∀ k,F k->¬ N k) (hN:∀ k,N k->M k):b_ B (c_ F W W') M W' v l:=by
 obtain ⟨us,h1,h2⟩:=h.own;refine ⟨Nat.le_trans h.size hk.size,⟨us,fD h1 hk (fun k hn e=>(h.off k e).2 (hN k hn)),(h2.kp hk hF).mono fun k=>.inl⟩,fun k e=>⟨fun g=>?_,(h.off k e).2⟩⟩;have:=(h.lt k e).2
 rcases g with g | g
 ·exact (h.off k e).1 g
 ·omega
theorem b_.push {l:List (List Nat)} (h:b_ B F M W v l) {x:List Nat} (hu:FP F W u x) (hs:∃ a m c,u=.slice a m c) (hF:∀ k,F k->k<W.heap.size) (hM:∀ k,M k->k<W.heap.size) (hn:l.length<1000000) (ty:TypeId) :
  ∃ a c X,(Builtin.append_ #[41,41] ty #[v,.slice (some ⟨W.heap.size,0,none⟩) 1 1]).run Tryz.prog (W.alloc (.cells #[u] 27))=.ok (.slice a (l.length+1) c) X/\b_ B F M X (.slice a (l.length+1) c) (l++[x])/\Rg.Kp (fun k=>v.ownBlock=some k) W X:=by
 obtain ⟨us,h1,h2⟩:=h.own;obtain ⟨a0,m0,c0,rfl⟩:=hs;have hb:Below W.heap.size W (W.alloc (.cells #[.slice a0 m0 c0] 27)):=(Below.refl _ _).alloc (Nat.le_refl _) _;obtain ⟨v',X,r1,r2,r3,r4,a,c,rfl⟩:=eE (P:=Tryz.prog) bP ty (Rg.bE h1 hb) (Nat.le_trans h.size hb.size) W.heap.size 1 (u:=.slice a0 m0 c0) (by rw [Rg.aI]; rfl) rfl hn;have hk:Rg.Kp (fun k=>v.ownBlock=some k) W X:=Rg.Kp.trans (M:=fun k=>v.ownBlock=some k) ((Rg.Kp.az hb).iR fun _=>False.elim) (Rg.Kp.cE r3 fun _ e=>e) (fun _ _ e=>e);have hg:∀ k,F k->¬ v.ownBlock=some k:=fun k g e=>(h.off k e).1 g;refine ⟨a,c,X,r1,⟨Nat.le_trans h.size hk.size,⟨us++[.slice a0 m0 c0],by rw [List.length_append]; exact r2,by rw [List.map_append]; exact bx.snoc (h2.kp hk hg) (Rg.FI.kp hu hk hg)⟩,fun k e=>?_⟩,hk⟩
 rcases r4 with r4 | r4
 ·exact h.off k (by rw [<- r4]; exact e)
 ·rw [r4] at e
  injection e with e
  have e2:(W.alloc (.cells #[.slice a0 m0 c0] 27)).heap.size=W.heap.size+1:=by simp
  exact ⟨fun g=>by have:=hF _ g; omega,fun g=>by have:=hM _ g; omega⟩
structure xy (w W:World) (tk gb rb k d:Nat) (lv:Value) (l:List Int) (F:Nat->Prop) (gv:Value) (gs:List (List Nat)):Prop where
 Bz:Tk w W tk k lv l
 g0:CL W gb 0 (.int .i64 ((d:Nat):Int))
 g1:W.cell? ⟨gb,1,none⟩=some gv
 gf:W.frozen? ⟨gb,1,none⟩=false
 r0:∃ u,W.cell? ⟨rb,0,none⟩=some u
 r1:∃ u,W.cell? ⟨rb,1,none⟩=some u
 Nu:W.frozen? ⟨rb,0,none⟩=false
 Nv:W.frozen? ⟨rb,1,none⟩=false
 zd:rb<W.heap.size
 rw:b_ w.heap.size F (GM tk gb rb) W gv gs
 nF:∀ z,GM tk gb rb z->¬ F z
 jD:∀ z,F z->z<W.heap.size
 n1:gb≠tk
 n2:rb≠tk
 n3:rb≠gb
 lo:∀ z,GM tk gb rb z->w.heap.size<=z
 UD:∀ z,F z->w.heap.size<=z
theorem xy.kt {gb rb k k':Nat} {lv:Value} {l:List Int} {gv:Value} (h:xy w W tk gb rb k d lv l F gv gs) (hk:Rg.Kp (fun z=>z=tk) W W') (ht:Tk w W' tk k' lv l):xy w W' tk gb rb k' d lv l (c_ F W W') gv gs:=by
 have hg:=World.cell?_of_block (a:=⟨gb,1,none⟩) (hk.block gb h.g0.lt h.n1);have hgf:=World.frozen?_of_block (a:=⟨gb,1,none⟩) (hk.block gb h.g0.lt h.n1);have hb:=hk.block rb h.zd h.n2;refine ⟨ht,h.g0.kp hk h.n1,hg.trans h.g1,hgf.trans h.gf,?_,?_,(World.frozen?_of_block (a:=⟨rb,0,none⟩) hb).trans h.Nu,(World.frozen?_of_block (a:=⟨rb,1,none⟩) hb).trans h.Nv,Nat.lt_of_lt_of_le h.zd hk.size,h.rw.QO hk (fun z hz e=>h.nF z (.inl e) hz) (fun z e=>.inl e),fun z hz hf=>?_,fun z hf=>?_,h.n1,h.n2,h.n3,h.lo,fun z hf=>?_⟩
 ·obtain ⟨u,hu⟩:=h.r0; exact ⟨u,(World.cell?_of_block (a:=⟨rb,0,none⟩) hb).trans hu⟩
 ·obtain ⟨u,hu⟩:=h.r1; exact ⟨u,(World.cell?_of_block (a:=⟨rb,1,none⟩) hb).trans hu⟩
 ·rcases hf with hf | hf
  ·exact h.nF z hz hf
  ·rcases hz with e | e | e
   ·have:=h.Bz.lt; omega
   ·have:=h.g0.lt; omega
   ·have:=h.zd; omega
 ·rcases hf with hf | hf
  ·exact Nat.lt_of_lt_of_le (h.jD z hf) hk.size
  ·exact hf.2
 ·rcases hf with hf | hf
  ·exact h.UD z hf
  ·exact Nat.le_trans h.Bz.bX.size hf.1
theorem xy.push {w W:World} {tk gb rb k d:Nat} {lv:Value} {l:List Int} {F:Nat->Prop} {gv:Value} {gs:List (List Nat)} (h:xy w W tk gb rb k d lv l F gv gs) {u:Value} {y:List Nat} (hu:FP F W u y) (hs:∃ a m c,u=.slice a m c) (hn:gs.length<1000000) (ty:TypeId) :
  ∃ a c X,(Builtin.append_ #[41,41] ty #[gv,.slice (some ⟨W.heap.size,0,none⟩) 1 1]).run Tryz.prog (W.alloc (.cells #[u] 27))=.ok (.slice a (gs.length+1) c) X/\X.cell? ⟨gb,1,none⟩=some gv/\X.frozen? ⟨gb,1,none⟩=false /\
   xy w (X.setCell ⟨gb,1,none⟩ (.slice a (gs.length+1) c)) tk gb rb k d lv l F (.slice a (gs.length+1) c) (gs++[y]):=by
 have hM:∀ z,GM tk gb rb z->z<W.heap.size:=fun z e=>by
  rcases e with e | e | e
  ·have:=h.Bz.lt; omega
  ·have:=h.g0.lt; omega
  ·have:=h.zd; omega
 obtain ⟨a,c,X,r1,r2,r3⟩:=h.rw.push hu hs h.jD hM hn ty;have hO:∀ z,GM tk gb rb z->¬ gv.ownBlock=some z:=fun z hz e=>(h.rw.off z e).2 hz;have s5:∀ z,F z->¬ gv.ownBlock=some z:=fun z hz e=>(h.rw.off z e).1 hz;have fF:=r3.block gb h.g0.lt (hO gb (.inr (.inl rfl)));have Br:=r3.block rb h.zd (hO rb (.inr (.inr rfl)));have cJ:=(World.cell?_of_block (a:=⟨gb,1,none⟩) fF).trans h.g1;have nx:=(World.frozen?_of_block (a:=⟨gb,1,none⟩) fF).trans h.gf;have cO:Rg.Kp (fun z=>z=gb) X (X.setCell ⟨gb,1,none⟩ (.slice a (gs.length+1) c)):=Rg.Kp.aL rfl;have hFg:∀ z,F z->¬ z=gb:=fun z hz e=>h.nF z (.inr (.inl e)) hz;have Je:=cO.block rb (Nat.lt_of_lt_of_le h.zd r3.size) h.n3;refine ⟨a,c,X,r1,cJ,nx,⟨(h.Bz.kp r3 (hO tk (.inl rfl)) (fun z e=>(h.rw.lt z e).1)).kp cO (fun e=>h.n1 e.symm) (fun z e=>e▸h.lo gb (.inr (.inl rfl))),?_,World.cell?_setCell_same (h:=cJ) ..,by rw [World.frozen?_setCell]; exact nx,?_,?_,?_,?_,Nat.lt_of_lt_of_le h.zd (Nat.le_trans r3.size cO.size),r2.kp cO hFg (fun k e e2=>?_),h.nF,fun z hz=>Nat.lt_of_lt_of_le (h.jD z hz) (Nat.le_trans r3.size cO.size),h.n1,h.n2,h.n3,h.lo,h.UD⟩⟩
 ·refine ⟨?_,Nat.lt_of_lt_of_le h.g0.lt (Nat.le_trans r3.size cO.size)⟩
  rw [World.cell?_setCell_other (h:=by intro e; injection e with e1 e2; omega) ..]
  exact (World.cell?_of_block (a:=⟨gb,0,none⟩) fF).trans h.g0.cell
 ·obtain ⟨u',eB⟩:=h.r0
  exact ⟨u',(World.cell?_of_block (a:=⟨rb,0,none⟩) Je).trans ((World.cell?_of_block (a:=⟨rb,0,none⟩) Br).trans eB)⟩
 ·obtain ⟨u',eB⟩:=h.r1
  exact ⟨u',(World.cell?_of_block (a:=⟨rb,1,none⟩) Je).trans ((World.cell?_of_block (a:=⟨rb,1,none⟩) Br).trans eB)⟩
 ·exact (World.frozen?_of_block (a:=⟨rb,0,none⟩) Je).trans ((World.frozen?_of_block (a:=⟨rb,0,none⟩) Br).trans h.Nu)
 ·exact (World.frozen?_of_block (a:=⟨rb,1,none⟩) Je).trans ((World.frozen?_of_block (a:=⟨rb,1,none⟩) Br).trans h.Nv)
 ·subst e2
  exact (r2.off k e).2 (.inr (.inl rfl))
def Ek (dM:Nat) (w:World) (e:Ending) (w':World):Prop:=∃ (d:Nat) (gv:Value) (gs:List (List Nat)),e=.returned (.agg #[.int .i64 ((d:Nat):Int),gv])/\1<=d/\d<=dM/\gs.length<=3/\(∀ s∈gs,Gd d s)/\Rg.aH (fun z=>w.heap.size<=z) w' gv (gs.map Ma.ag)/\Below w.heap.size w w'
theorem b_.fr {l:List (List Nat)} (h:b_ B F M W v l) (hl:l.length<=1000000000) (hF:∀ z,F z->B<=z):Rg.aH (fun z=>B<=z) W v (l.map Ma.ag):=by
 obtain ⟨us,h1,h2⟩:=h.own;exact ⟨us,Rg.cB.of (Rg.cz.cR h1 hl) (fun k e=>(h.lt k e).1),h2.mono hF⟩
theorem xy.start {gb rb k:Nat} {lv:Value} {l:List Int} (ht:Tk w W tk k lv l) (h0:CL W gb 0 (.int .i64 ((d:Nat):Int))) (h1:CL W gb 1 (.slice none 0 0)) (hf:W.frozen? ⟨gb,1,none⟩=false) (r0:∃ u,W.cell? ⟨rb,0,none⟩=some u) (r1:∃ u,W.cell? ⟨rb,1,none⟩=some u) (Nu:W.frozen? ⟨rb,0,none⟩=false) (Nv:W.frozen? ⟨rb,1,none⟩=false) (n1:gb≠tk) (n2:rb≠tk) (n3:rb≠gb) (zd:rb<W.heap.size) (lo1:w.heap.size<=gb) (kO:w.heap.size<=rb):xy w W tk gb rb k d lv l (fun _=>False) (.slice none 0 0) [] :=
 ⟨ht,h0,h1.cell,hf,r0,r1,Nu,Nv,zd,b_.nil _ _ _ _ ht.bX.size,fun _ _=>id,fun _=>False.elim,n1,n2,n3,fun z e=>by rcases e with rfl | rfl | rfl; exact ht.lo; exact lo1; exact kO,fun _=>False.elim⟩
theorem Hj (lv:Value) (l:List Int) (dM:Nat) (w:World) (hl:Rg.cZ maxLen w lv l) (uV:1<=dM) (CD:dM<=64) :
  Calls Tryz.prog 64 #[lv,.int .i64 ((dM:Nat):Int)] w (Ek dM w):=by
 obtain ⟨la,lc,rfl,-⟩:=hl.shape;have HL:=U hl;have K:=U (Below.refl w.heap.size w);clear hl;have AY:w.heap.size=w.heap.size+0:=rfl
 go_enter Tryz.func64,Tryz.ntmps64
 go_upto_region 0 with (fail);refine d3 ?_;have ny:=Sr w (.int .i64 0) (.slice none 0 0);have Sx:=cp w #[.int .i64 0,.slice none 0 0] 43 0 0;have Sy:=cp w #[.int .i64 0,.slice none 0 0] 43 0 1;refine d4 4 (iz rfl) ?_;go_frame;have hb:=(Below.refl w.heap.size w).alloc (Nat.le_refl _) (.cells #[.int .i64 0,.slice none 0 0] 43);generalize w.alloc (.cells #[.int .i64 0,.slice none 0 0] 43)=w1 at *;replace K:=U (Rg.acc K.p hb);clear hb;have R0:=U ny.1;have R1:=U ny.2;have F0:=U (show w1.frozen? ⟨w.heap.size,0,none⟩=false from Sx);have F1:=U (show w1.frozen? ⟨w.heap.size,1,none⟩=false from Sy);clear ny Sx Sy;have Em:=U (show FZ w1 w.heap.size 0 from ⟨F0.p,R0.p.lt⟩);have Eo:=U (show FZ w1 w.heap.size 1 from ⟨F1.p,R1.p.lt⟩);clear F0 F1;go_upto_region 1 with (fail);refine d3 ?_;refine d5 10 (.slice la l.length lc) ?_;go_frame
 refine d4 11 (za _ rfl rfl) ?_;go_frame;have fT:=Tk.new K.p HL.p 124;have HRT:=U R0.p.lt;refine d4 12 (Rg.bq _ _ rfl rfl) ?_;go_frame;have hb:=(Below.refl w1.heap.size w1).alloc (Nat.le_refl _) (.cells #[.slice la l.length lc,.int .i64 0] 124);generalize w1.alloc (.cells #[.slice la l.length lc,.int .i64 0] 124)=w2 at *;replace R0:=U (R0.p.jj hb);replace R1:=U (R1.p.jj hb);replace Em:=U (Em.p.jj hb);replace Eo:=U (Eo.p.jj hb);replace K:=U (Rg.acc K.p hb);clear hb;have TK:=U fT;refine d6 5 (.pointer (some ⟨w1.heap.size,0,none⟩)) ?_;go_frame;clear fT;have Kr:=U R0.p.lt;have X7:=U TK.p.lt;have rA:=U TK.p.lo;have tx:=U (show w.heap.size<w1.heap.size from HRT.p);go_upto_region 2 with (fail);refine d3 ?_;refine d5 13 (.pointer (some ⟨w1.heap.size,0,none⟩)) ?_;go_frame;refine d5 14 (.int .i64 ((dM:Nat):Int)) ?_;go_frame
 refine f7 15 (aw 85 _ _ _ rfl rfl rfl (mO _ _)) ?_;refine (fZ TK.p ((dM:Nat):Int) (by omega)).mono ?_;rintro e1 w3 ⟨r0,k0,rfl,iQ,l8,fT,bZ⟩;have rB:=R0.p.kp bZ (fun e=>by have:=tx.p; omega);have cY:=R1.p.kp bZ (fun e=>by have:=tx.p; omega);have X_:=Em.p.kp bZ (fun e=>by have:=tx.p; omega);have nx:=Eo.p.kp bZ (fun e=>by have:=tx.p; omega)
 have Ya:r0<dM:=by have:=iQ (by omega); omega
 clear iQ l8;refine ⟨_,rfl,?_⟩;go_frame;clear TK;replace R0:=U rB;replace R1:=U cY;replace Em:=U X_;replace Eo:=U nx;replace K:=U (show Below w.heap.size w _ from Rg.Kp.jj K.p bZ (fun z e=>by have:=rA.p; omega));have TK:=U fT;clear bZ rB cY X_ nx;refine d4 16 (g9 (.int .i64 (((1+r0):Nat):Int)) .add (h:=bA _ (by omega) (by omega))) ?_;go_frame;refine d4 17 (yH _ rfl rfl) ?_;go_frame;have nJ:=Sr w3 (.int .i64 0) (.slice none 0 0);have Sz:=cp w3 #[.int .i64 0,.slice none 0 0] 43 0 0;have SA:=cp w3 #[.int .i64 0,.slice none 0 0] 43 0 1;refine d4 6 (iz rfl) ?_;go_frame;refine Rg.aD none rfl rfl (Rg.ai _ _ _ rfl _ rfl _ rfl (im _ _ _ _ nJ.1.cell nJ.2.cell Sz SA)) ?_;go_frame;clear fT;have HD:1<=1+r0/\1+r0<=dM:=⟨by omega,by omega⟩;obtain ⟨d,hd⟩:∃ d,1+r0=d:=⟨_,rfl⟩
 rw [hd] at HD ⊢;obtain ⟨Yb,QP,K4⟩:=X4 w3 (.int .i64 ((d:Nat):Int)) (.slice none 0 0) 43;have Qy:=U (show w3.heap.size≠w1.heap.size/\w.heap.size≠w3.heap.size from ⟨fun e=>by have:=TK.p.lt; omega,fun e=>by have:=R0.p.lt; omega⟩);have UE:=U K.p.size;replace R0:=U (R0.p.jj K4);replace R1:=U (R1.p.jj K4);replace Em:=U (Em.p.jj K4);replace Eo:=U (Eo.p.jj K4);replace TK:=U (TK.p.jj K4);generalize ((w3.alloc (.cells #[.int .i64 0,.slice none 0 0] 43)).setCell ⟨w3.heap.size,0,none⟩ (.int .i64 ((d:Nat):Int))).setCell ⟨w3.heap.size,1,none⟩ (.slice none 0 0)=w30 at *;have GO:=U (show xy w w30 w1.heap.size w3.heap.size w.heap.size k0 d (.slice la l.length lc) l (fun _=>False) (.slice none 0 0) [] from xy.start TK.p Yb ⟨QP.c,QP.lt⟩ QP.f ⟨_,R0.p.cell⟩ ⟨_,R1.p.cell⟩ Em.p.f Eo.p.f Qy.p.1 (fun e=>by have:=tx.p; omega) Qy.p.2 R0.p.lt UE.p (Nat.le_refl _))
 clear Yb QP K4 nJ Sz SA R0 R1 Em Eo TK K hd Ya;go_upto_region 3 with (fail);refine d3 ?_;refine d5 18 (.pointer (some ⟨w1.heap.size,0,none⟩)) ?_;go_frame;refine f7 19 (aw 85 _ _ _ rfl rfl rfl (mO _ _)) ?_;refine (fZ GO.p.Bz 4 (by omega)).mono ?_;rintro e1 w31 ⟨r3,k3,rfl,iQ,l8,fT,bZ⟩;have Yc:=GO.p.kt bZ fT
 have Yd:r3<=3:=by have:=iQ (by omega); omega
 clear iQ l8 fT;refine ⟨_,rfl,?_⟩;go_frame;clear bZ;refine d6 7 (.int .i64 ((r3:Nat):Int)) ?_;go_frame;replace GO:=U Yc;have Nw:=U Yd;have tQ:=U HD;clear Yc Yd HD;go_wp2
 go_loopw [7] (fun kv wr=>∃ (k k':Nat) (F:Nat->Prop) (gv:Value) (gs:List (List Nat)),kv=.int .i64 k/\k<=3/\Hid (gs.length+k<=3)/\Hid (∀ s∈gs,Gd d s)/\Hid (xy w wr w1.heap.size w3.heap.size w.heap.size k' d (.slice la l.length lc) l F gv gs)) (fun kv _=>(intOf kv).toNat)
 case atStart=>exact ⟨r3,k3,_,_,[],rfl,Nw.p,by rw [List.length_nil,Nat.zero_add]; exact Nw,U (fun s hs=>by simp at hs),GO⟩
 case round =>
  clear GO Nw;obtain ⟨k,k',F,gv,gs,rfl,iu,nH,tq,GO⟩:=hrel;obtain ⟨Hk,Hm,rfl⟩:=GO.p.rw.shape;have iG:1<=d:=tQ.p.1
  have oz:d<=64:=by have:=tQ.p.2; omega
  by_cases uT:0<k
  case neg =>
   obtain rfl:k=0:=by omega
   go_upto_region 4 with (fail);refine d3 ?_;refine d5 20 (.int .i64 ((0:Nat):Int)) ?_;go_frame;refine d4 21 (g9 (.bool false) .gtr (h:=dV _ f9)) ?_;go_frame;obtain ⟨u0,JO⟩:=GO.p.r0;obtain ⟨u1,Ho⟩:=GO.p.r1;go_upto_region 15 with (fail);refine d3 ?_;refine d4 79 (g8 (.agg #[.int .i64 ((d:Nat):Int),.slice Hk gs.length Hm]) ⟨w3.heap.size,0,none⟩ (je GO.p.g0.cell GO.p.g1)) ?_;go_frame;refine Rg.aD none rfl rfl (Rg.ai _ _ _ rfl _ rfl _ rfl (im _ _ _ _ JO Ho GO.p.Nu GO.p.Nv)) ?_;go_frame;have zW:=X6 (x:=.int .i64 ((d:Nat):Int)) (y:=(.slice Hk gs.length Hm)) JO Ho GO.p.zd GO.p.Bz.bX;have gY:=b_.fr (GO.p.rw.kp zW.2.2.2 (fun z hz e=>GO.p.nF z (.inr (.inr e)) hz) (fun z e1 e2=>(GO.p.rw.off z e1).2 (.inr (.inr e2)))) (by have:=nH.p; omega) GO.p.UD;generalize (wr.setCell ⟨w.heap.size,0,none⟩ (.int .i64 ((d:Nat):Int))).setCell ⟨w.heap.size,1,none⟩ (.slice Hk gs.length Hm)=Sw at *
   have Dx:=U zW;have Gg:=U (show Ek dM w (.returned (.agg #[.int .i64 ((d:Nat):Int),(.slice Hk gs.length Hm)])) Sw from ⟨d,_,gs,rfl,tQ.p.1,tQ.p.2,by have:=nH.p; omega,tq.p,gY,zW.2.2.1⟩);clear zW gY JO Ho;go_wp2;exact bodyPost_ret (wj rfl _ rfl Dx.p.1 Dx.p.2.1) rfl Gg.p
  case pos =>
   have ly:(0:Int)<(k:Int):=by omega
   obtain ⟨q,rfl⟩:∃ q,k=q+1:=⟨k - 1,by omega⟩;go_upto_region 4 with (fail);refine d3 ?_;refine d5 20 (.int .i64 (((q+1):Nat):Int)) ?_;go_frame;refine d4 21 (g9 (.bool true) .gtr (h:=dV _ f8)) ?_;go_frame;have GC:=U GO.p.g0;have TK:=U GO.p.Bz;have KT:=U (Rg.Kp.refl (fun z=>z=w1.heap.size) wr);have jV:=U GO.p.n1;have xz:=U GO.p.Bz.lt;have SC:=U GO.p.Bz.lo;go_upto_region 6 with (fail);refine d3 ?_;refine d4 24 (dh _ rfl rfl) ?_;go_frame;refine d4 25 (g8 (.int .i64 ((d:Nat):Int)) ⟨w3.heap.size,0,none⟩ (ah GC.p.cell)) ?_;go_frame;refine f7 26 (aF 66 _ _ rfl rfl (G_ _ _)) ?_;refine (oD d wr iG (by omega)).mono ?_;rintro e1 rC ⟨g,cap,rfl,hg,cJ,eD,hro,hb⟩;have HG:=U hg;have Hb:=U (show d<=cap/\cap<=maxLen from ⟨cJ,eD⟩);clear hg cJ eD;refine ⟨_,rfl,?_⟩
   go_frame;replace GC:=U (GC.p.jj hb);replace TK:=U (TK.p.jj hb);replace KT:=U (mN KT.p hb);clear hb;have PR:=U hro;refine d6 8 (.slice (some ⟨g,0,none⟩) d cap) ?_;go_frame;clear hro;go_upto_region 7 with (fail);refine d3 ?_;refine d5 27 (.pointer (some ⟨w1.heap.size,0,none⟩)) ?_;go_frame;refine f7 28 (aw 85 _ _ _ rfl rfl rfl (mO _ _)) ?_;refine (fZ TK.p (3) (by omega)).mono ?_;rintro e1 SD ⟨r5,k5,rfl,iQ,l8,fT,bZ⟩;have eI:=GC.p.kp bZ jV.p;have fO:=bV.kp PR.p bZ (fun e=>by have:=xz.p; have:=HG.p; omega);clear iQ l8;obtain ⟨b3,BA⟩:∃ b,Hid (decide (((r5:Nat):Int)=0)=b):=⟨_,U rfl⟩;refine ⟨_,rfl,?_⟩;go_frame;clear TK;replace GC:=U eI;replace PR:=U fO;replace KT:=U (Rg.Kp.trans (M:=fun z=>z=w1.heap.size) KT.p bZ (fun _ _ e=>e));have TK:=U fT;clear bZ eI fO
   refine d4 29 (g9 (.bool b3) .eql (h:=fA _ BA.p)) ?_;go_frame;clear fT
   cases b3 with
   | true =>
    go_upto_region 8 with (fail);refine d3 ?_;refine d5 30 (.pointer (some ⟨w1.heap.size,0,none⟩)) ?_;go_frame;refine d4 31 (dh _ rfl rfl) ?_;go_frame;refine d4 32 (g8 (.int .i64 ((d:Nat):Int)) ⟨w3.heap.size,0,none⟩ (ah GC.p.cell)) ?_;go_frame;refine f7 33 (aw 86 _ _ _ rfl rfl rfl (UC _ _)) ?_;refine (Bx TK.p iG oz).mono ?_;rintro e1 Ag ⟨g2,cS,y,k6,rfl,hg,cJ,eD,Qs,Hq,fT,bZ⟩;have eI:=GC.p.kp bZ jV.p;have SE:=U Hq;have pT:=U Qs;have y6:=U (Nat.le_trans KT.p.size hg);have Nx:=U (show d<=cS/\cS<=maxLen from ⟨cJ,eD⟩);clear hg cJ eD Qs Hq;refine ⟨_,rfl,?_⟩;go_frame;clear TK;clear PR;replace GC:=U eI;replace KT:=U (Rg.Kp.trans (M:=fun z=>z=w1.heap.size) KT.p bZ (fun _ _ e=>e));have TK:=U fT;clear bZ eI;refine d6 8 (.slice (some ⟨g2,0,none⟩) d cS) ?_;go_frame
    clear fT;have Ep:=U (GO.p.kt KT.p TK.p);have Ny:=U (show FP (c_ F wr Ag) Ag (.slice (some ⟨g2,0,none⟩) d cS) y from SE.p.fp pT.p Nx.p.1 Nx.p.2 iG (by omega) (.inr ⟨y6.p,SE.p.1⟩));obtain ⟨a9,c9,X9,r1,r2,r3,r4⟩:=Ep.p.push Ny.p ⟨_,_,_,rfl⟩ (by have:=nH.p; omega) 41;have Nz:=U pT.p;clear GO GC TK KT;go_upto_region 14 with (fail);refine d3 ?_;refine d4 73 (dg _ rfl rfl) ?_;go_frame;refine d4 74 (g8 (.slice Hk gs.length Hm) ⟨w3.heap.size,1,none⟩ (Rg.ae _ _ Tryz.underlying41 Ep.p.g1)) ?_;go_frame;refine d5 75 (.slice (some ⟨g2,0,none⟩) d cS) ?_;go_frame;refine d4 76 (Rg.aC _ _ _ rfl (.slice (some ⟨g2,0,none⟩) d cS) rfl (cG Ag _ ⟨_,_,_,rfl⟩)) ?_;go_frame;refine d4 77 (Rg.bu _ _ _ rfl rfl rfl r1) ?_;go_frame;refine d4 78 (dg _ rfl rfl) ?_;go_frame
    refine Rg.aD none rfl rfl (Rg.ai _ _ _ rfl _ rfl _ rfl (Rg.bn _ dF r2 r3)) ?_;go_frame;generalize X9.setCell ⟨w3.heap.size,1,none⟩ (.slice a9 (gs.length+1) c9)=SF at *;have NA:=U r4;have Er:=U (show (gs++[y]).length+q<=3 by rw [List.length_append]; have:=nH.p; simp; omega)
    have Es:=U (show ∀ s∈gs++[y],Gd d s from fun s hs=>by
     rcases List.mem_append.1 hs with hs | hs
     ·exact tq.p s hs
     ·rw [List.mem_singleton] at hs; rw [hs]; exact Nz.p)
    clear r1 r2 r3 r4;go_wp2
    go_roundw
    case rel=>exact ⟨q,_,_,_,_,by go_num,by omega,Er,Es,NA⟩
    case measure=>simp [intOf]; try omega
   | false =>
    go_upto_region 9 with (fail);refine d3 ?_;refine d5 34 (.pointer (some ⟨w1.heap.size,0,none⟩)) ?_;go_frame;refine d4 35 (dh _ rfl rfl) ?_;go_frame;refine d4 36 (g8 (.int .i64 ((d:Nat):Int)) ⟨w3.heap.size,0,none⟩ (ah GC.p.cell)) ?_;go_frame;refine f7 37 (aw 85 _ _ _ rfl rfl rfl (mO _ _)) ?_;refine (fZ TK.p (((d:Nat):Int)) (by omega)).mono ?_;rintro e1 Ag ⟨fr,k6,rfl,iQ,l8,fT,bZ⟩;have eI:=GC.p.kp bZ jV.p;have fO:=bV.kp PR.p bZ (fun e=>by have:=xz.p; have:=HG.p; omega)
    have nK:fr<d:=by have:=iQ (by omega); omega
    clear iQ l8;refine ⟨_,rfl,?_⟩;go_frame;clear TK;replace GC:=U eI;replace PR:=U fO;replace KT:=U (Rg.Kp.trans (M:=fun z=>z=w1.heap.size) KT.p bZ (fun _ _ e=>e));have TK:=U fT;clear bZ eI fO;refine d6 9 (.int .i64 ((fr:Nat):Int)) ?_;go_frame;clear fT;go_upto_region 10 with (fail);refine d3 ?_;refine d5 38 (.slice (some ⟨g,0,none⟩) d cap) ?_;go_frame;refine d5 39 (.int .i64 ((fr:Nat):Int)) ?_;go_frame;refine d5 40 (.int .i64 ((fr:Nat):Int)) ?_;go_frame;refine d4 41 (g9 (.int .i64 (((fr+1):Nat):Int)) .add (h:=bA _ (by omega) (by omega))) ?_;go_frame;refine d5 42 (.pointer (some ⟨w1.heap.size,0,none⟩)) ?_;go_frame;refine d4 43 (dh _ rfl rfl) ?_;go_frame;refine d4 44 (g8 (.int .i64 ((d:Nat):Int)) ⟨w3.heap.size,0,none⟩ (ah GC.p.cell)) ?_;go_frame;refine d5 45 (.int .i64 ((fr:Nat):Int)) ?_;go_frame
    refine d4 46 (g9 (.int .i64 (((d - fr):Nat):Int)) .sub (h:=gC _ (by omega) (by omega))) ?_;go_frame;refine f7 47 (aw 85 _ _ _ rfl rfl rfl (mO _ _)) ?_;refine (fZ TK.p (((d - fr:Nat):Int)) (by omega)).mono ?_;rintro e1 NB ⟨r7,k7,rfl,iQ,l8,fT,bZ⟩;have eI:=GC.p.kp bZ jV.p;have fO:=bV.kp PR.p bZ (fun e=>by have:=xz.p; have:=HG.p; omega)
    have hr7:r7<d - fr:=by have:=iQ (by omega); omega
    clear iQ l8;refine ⟨_,rfl,?_⟩;go_frame;clear TK;replace GC:=U eI;replace PR:=U fO;replace KT:=U (Rg.Kp.trans (M:=fun z=>z=w1.heap.size) KT.p bZ (fun _ _ e=>e));have TK:=U fT;clear bZ eI fO;refine d4 48 (g9 (.int .i64 (((fr+1+r7):Nat):Int)) .add (h:=bA _ (by omega) (by omega))) ?_;go_frame;clear fT;refine f7 49 (dH 87 _ _ _ _ rfl rfl rfl rfl (Nt _ _)) ?_;refine (xw (a:=fr) (b:=fr+1+r7) PR.p (by omega) (by omega) (by omega)).mono ?_;rintro e1 Ye ⟨rfl,Hq,bZ⟩;have eI:=GC.p.kp bZ (fun e=>by have:=GO.p.g0.lt; have:=HG.p; omega);have Et:=TK.p.kp bZ (fun e=>by have:=xz.p; have:=HG.p; omega) (fun z e=>by have:=SC.p; have:=xz.p; have:=HG.p; omega);have pT:=U (show Gd d (qt d fr (fr+1+r7)) from Jc (by omega) (by omega));refine ⟨_,rfl,?_⟩;go_frame
    clear PR;replace GC:=U eI;replace TK:=U Et;replace KT:=U (Rg.Kp.trans (M:=fun z=>z=w1.heap.size) KT.p bZ (fun z hz e=>by have:=HG.p; omega));have PR:=U Hq;clear bZ eI Et;refine d6 8 (.slice (some ⟨g,0,none⟩) d cap) ?_;go_frame;clear Hq;go_upto_region 11 with (fail);refine d3 ?_;refine d5 50 (.pointer (some ⟨w1.heap.size,0,none⟩)) ?_;go_frame;refine d4 51 (dh _ rfl rfl) ?_;go_frame;refine d4 52 (g8 (.int .i64 ((d:Nat):Int)) ⟨w3.heap.size,0,none⟩ (ah GC.p.cell)) ?_;go_frame;refine f7 53 (aw 85 _ _ _ rfl rfl rfl (mO _ _)) ?_;refine (fZ TK.p (((d:Nat):Int)) (by omega)).mono ?_;rintro e1 aag ⟨f2,k8,rfl,iQ,l8,fT,bZ⟩;have eI:=GC.p.kp bZ jV.p;have fO:=bV.kp PR.p bZ (fun e=>by have:=xz.p; have:=HG.p; omega)
    have AW:f2<d:=by have:=iQ (by omega); omega
    clear iQ l8;refine ⟨_,rfl,?_⟩;go_frame;clear TK;replace GC:=U eI;replace PR:=U fO;replace KT:=U (Rg.Kp.trans (M:=fun z=>z=w1.heap.size) KT.p bZ (fun _ _ e=>e));have TK:=U fT;clear bZ eI fO;refine d6 9 (.int .i64 ((f2:Nat):Int)) ?_;go_frame;clear fT;go_upto_region 12 with (fail);refine d3 ?_;refine d5 54 (.pointer (some ⟨w1.heap.size,0,none⟩)) ?_;go_frame;refine f7 55 (aw 85 _ _ _ rfl rfl rfl (mO _ _)) ?_;refine (fZ TK.p (2) (by omega)).mono ?_;rintro e1 rD ⟨r8,k9,rfl,iQ,l8,fT,bZ⟩;have eI:=GC.p.kp bZ jV.p;have fO:=bV.kp PR.p bZ (fun e=>by have:=xz.p; have:=HG.p; omega);clear iQ l8;obtain ⟨b4,hb4⟩:∃ b,Hid (decide (((r8:Nat):Int)=1)=b):=⟨_,U rfl⟩;refine ⟨_,rfl,?_⟩;go_frame;clear TK;replace GC:=U eI;replace PR:=U fO;replace KT:=U (Rg.Kp.trans (M:=fun z=>z=w1.heap.size) KT.p bZ (fun _ _ e=>e))
    have TK:=U fT;clear bZ eI fO;refine d4 56 (g9 (.bool b4) .eql (h:=fA _ hb4.p)) ?_;go_frame;clear fT
    cases b4 with
    | false =>
     have Ep:=U (GO.p.kt KT.p TK.p);have Ny:=U (show FP (c_ F wr rD) rD (.slice (some ⟨g,0,none⟩) d cap) (qt d fr (fr+1+r7)) from fN.fp PR.p pT.p Hb.p.1 Hb.p.2 iG (by omega) (.inr ⟨HG.p,PR.p.1⟩));obtain ⟨a9,c9,X9,r1,r2,r3,r4⟩:=Ep.p.push Ny.p ⟨_,_,_,rfl⟩ (by have:=nH.p; omega) 41;have Nz:=U pT.p;clear GO GC TK KT;go_upto_region 14 with (fail);refine d3 ?_;refine d4 73 (dg _ rfl rfl) ?_;go_frame;refine d4 74 (g8 (.slice Hk gs.length Hm) ⟨w3.heap.size,1,none⟩ (Rg.ae _ _ Tryz.underlying41 Ep.p.g1)) ?_;go_frame;refine d5 75 (.slice (some ⟨g,0,none⟩) d cap) ?_;go_frame;refine d4 76 (Rg.aC _ _ _ rfl (.slice (some ⟨g,0,none⟩) d cap) rfl (cG rD _ ⟨_,_,_,rfl⟩)) ?_;go_frame;refine d4 77 (Rg.bu _ _ _ rfl rfl rfl r1) ?_;go_frame;refine d4 78 (dg _ rfl rfl) ?_;go_frame
     refine Rg.aD none rfl rfl (Rg.ai _ _ _ rfl _ rfl _ rfl (Rg.bn _ dF r2 r3)) ?_;go_frame;generalize X9.setCell ⟨w3.heap.size,1,none⟩ (.slice a9 (gs.length+1) c9)=SF at *;have NA:=U r4;have Er:=U (show (gs++[(qt d fr (fr+1+r7))]).length+q<=3 by rw [List.length_append]; have:=nH.p; simp; omega)
     have Es:=U (show ∀ s∈gs++[(qt d fr (fr+1+r7))],Gd d s from fun s hs=>by
      rcases List.mem_append.1 hs with hs | hs
      ·exact tq.p s hs
      ·rw [List.mem_singleton] at hs; rw [hs]; exact Nz.p)
     clear r1 r2 r3 r4;go_wp2
     go_roundw
     case rel=>exact ⟨q,_,_,_,_,by go_num,by omega,Er,Es,NA⟩
     case measure=>simp [intOf]; try omega
    | true =>
     go_upto_region 13 with (fail);have aq:Below rD.heap.size rD rD.drew:=(Below.refl _ _).drew;replace GC:=U (GC.p.up aq);replace TK:=U (TK.p.up aq);replace PR:=U (PR.p.up aq);replace KT:=U (KT.p.up aq);generalize c_ (fun _:Nat=>True) rD rD.drew=F1 at *;clear aq;refine Rg.Any.begin (S:=Rg.aG 16 (fun W:World=>W.cell? ⟨w3.heap.size,0,none⟩=some (.int .i64 ((d:Nat):Int))) (fun _=>True)) mix ?_;generalize rD.drew=ND at *;have hS:∀ (l:Array Bool) W,(fun W:World=>W.cell? ⟨w3.heap.size,0,none⟩=some (.int .i64 ((d:Nat):Int))) W->Rg.aG 16 (fun W:World=>W.cell? ⟨w3.heap.size,0,none⟩=some (.int .i64 ((d:Nat):Int))) (fun _=>True) l W:=fun l W h=>⟨.inr h,trivial⟩;have bW:∀ (l:Array Bool) W,l.getD 16 false=true->Rg.aG 16 (fun W:World=>W.cell? ⟨w3.heap.size,0,none⟩=some (.int .i64 ((d:Nat):Int))) (fun _=>True) l W:=fun l W h=>⟨.inl h,trivial⟩
     have hI:(fun W:World=>W.cell? ⟨w3.heap.size,0,none⟩=some (.int .i64 ((d:Nat):Int))) ND:=GC.p.cell;refine d8 0 16 (.slice (some ⟨g,0,none⟩) d cap) 57 (hS _ _ hI) ?_;go_frame;refine d7 1 16 (.pointer (some ⟨w3.heap.size,0,none⟩)) 58 rfl rfl (.inl ⟨rfl,fun w _=>dh _ rfl rfl⟩) (hS _ _ hI) ?_;go_frame;refine i7 2 16 (.int .i64 ((d:Nat):Int)) 59 rfl rfl (i9 ⟨w3.heap.size,0,none⟩ (fun W hW=>ah hW)) (hS _ _ hI) ?_;go_frame;refine d8 4 16 (.int .i64 ((f2:Nat):Int)) 61 (hS _ _ hI) ?_;go_frame;refine d8 5 16 (.int .i64 ((f2:Nat):Int)) 62 (hS _ _ hI) ?_;go_frame;refine d7 6 16 (.int .i64 (((f2+1):Nat):Int)) 63 rfl rfl (.inl ⟨rfl,fun w _=>aT (R:=.int .i64 (((f2+1):Nat):Int)) .add _ _ _ rfl rfl rfl (bA _ (by omega) (by omega))⟩) (hS _ _ hI) ?_;go_frame;refine d8 7 16 (.pointer (some ⟨w1.heap.size,0,none⟩)) 64 (hS _ _ hI) ?_;go_frame
     refine d7 8 16 (.pointer (some ⟨w3.heap.size,0,none⟩)) 65 rfl rfl (.inl ⟨rfl,fun w _=>dh _ rfl rfl⟩) (hS _ _ hI) ?_;go_frame;refine i7 9 16 (.int .i64 ((d:Nat):Int)) 66 rfl rfl (i9 ⟨w3.heap.size,0,none⟩ (fun W hW=>ah hW)) (hS _ _ hI) ?_;go_frame;refine d8 10 16 (.int .i64 ((f2:Nat):Int)) 67 (hS _ _ hI) ?_;go_frame;refine d7 11 16 (.int .i64 (((d - f2):Nat):Int)) 68 rfl rfl (.inl ⟨rfl,fun w _=>aT (R:=.int .i64 (((d - f2):Nat):Int)) .sub _ _ _ rfl rfl rfl (gC _ (by omega) (by omega))⟩) (hS _ _ hI) ?_;go_frame;refine Rg.Any.one (i:=3) (by kernel_rfl) (Rg.Any.ask (some 60) rfl rfl rfl _ _ (aF 66 _ _ rfl rfl (G_ _ _)) ?_);refine (oD d ND iG (by omega)).mono ?_;rintro e1 Yf ⟨g2,cS,rfl,hg,cJ,eD,hro,hb⟩;have y6:=U (Nat.le_trans KT.p.size hg);have Nx:=U (show d<=cS/\cS<=maxLen from ⟨cJ,eD⟩)
     have HNG:=U (show g≠g2 from fun e=>by have:=PR.p.1; omega);clear hg cJ eD;have gZ:=((Below.cell (p:=⟨w3.heap.size,0,none⟩) hb (eH hI)).trans hI);clear hI;replace GC:=U (GC.p.up hb);replace TK:=U (TK.p.up hb);replace PR:=U (PR.p.up hb);replace KT:=U (KT.p.up hb);have P2:=U hro;generalize c_ F1 ND Yf=F2 at *;clear hb;refine ⟨_,rfl,(hS _ _ gZ),?_⟩;go_frame;refine Rg.Any.one (i:=12) (by kernel_rfl) (Rg.Any.ask (some 69) rfl rfl rfl _ _ (aw 85 _ _ _ rfl rfl rfl (mO _ _)) ?_);refine (fZ TK.p (((d - f2:Nat):Int)) (by omega)).mono ?_;rintro e1 aah ⟨r9,k10,rfl,iQ,l8,fT,bZ⟩;have eI:=GC.p.kp bZ jV.p;have fO:=bV.kp PR.p bZ (fun e=>by have:=xz.p; have:=HG.p; omega);have SH:=bV.kp P2.p bZ (fun e=>by have:=xz.p; have:=y6.p; omega)
     have hr9:r9<d - f2:=by have:=iQ (by omega); omega
     clear iQ l8;have xA:=((World.cell?_of_block (a:=⟨w3.heap.size,0,none⟩) (bZ.block w3.heap.size (eH gZ) jV.p)).trans gZ);clear gZ;refine ⟨_,rfl,(hS _ _ xA),?_⟩;go_frame;clear TK;replace GC:=U eI;replace PR:=U fO;replace P2:=U SH;replace KT:=U (Rg.Kp.trans (M:=fun z=>z=w1.heap.size) KT.p bZ (fun _ _ e=>e));have TK:=U fT;clear bZ eI fO SH;refine d7 13 16 (.int .i64 (((f2+1+r9):Nat):Int)) 70 rfl rfl (.inl ⟨rfl,fun w _=>aT (R:=.int .i64 (((f2+1+r9):Nat):Int)) .add _ _ _ rfl rfl rfl (bA _ (by omega) (by omega))⟩) (hS _ _ xA) ?_;go_frame;refine Rg.Any.one (i:=14) (by kernel_rfl) (Rg.Any.ask (some 71) rfl rfl rfl _ _ (dH 87 _ _ _ _ rfl rfl rfl rfl (Nt _ _)) ?_);refine (xw (a:=f2) (b:=f2+1+r9) P2.p (by omega) (by omega) (by omega)).mono ?_;rintro e1 NF ⟨rfl,FM,bZ⟩
     have eI:=GC.p.kp bZ (fun e=>by have:=GO.p.g0.lt; have:=y6.p; omega);have Et:=TK.p.kp bZ (fun e=>by have:=xz.p; have:=y6.p; omega) (fun z e=>by have:=SC.p; have:=xz.p; have:=y6.p; omega);have fO:=bV.kp PR.p bZ HNG.p;have Jf:=U (show Gd d (qt d f2 (f2+1+r9)) from Jc (by omega) (by omega));have BB:=((World.cell?_of_block (a:=⟨w3.heap.size,0,none⟩) (bZ.block w3.heap.size (eH xA) (fun e=>by have:=GO.p.g0.lt; have:=y6.p; omega))).trans xA);clear xA;refine ⟨_,rfl,(hS _ _ BB),?_⟩;go_frame;clear P2;replace GC:=U eI;replace PR:=U fO;replace TK:=U Et;replace KT:=U (Rg.Kp.trans (M:=fun z=>z=w1.heap.size) KT.p bZ (fun z hz e=>by have:=y6.p; omega));have P3:=U FM;clear bZ eI Et fO;have Yg:=U (show wr.heap.size<=NF.heap.size from KT.p.size)
     refine Rg.Any.one (i:=15) (by kernel_rfl) (Rg.Any.ask (some 72) rfl rfl rfl _ _ (aw 34 _ _ _ rfl rfl rfl (Hi _ _)) ?_);refine (nS _ _ (qt d fr (fr+1+r7)) (qt d f2 (f2+1+r9)) NF (fN.np PR.p pT.p Hb.p.1 Hb.p.2 (by omega)) (fN.np P3.p Jf.p Nx.p.1 Nx.p.2 (by omega)) (fun z hz=>by rw [Jf.p.2]; exact o_ pT.p hz) (by rw [pT.p.2]; omega)).mono ?_;rintro e1 Jg ⟨mv,rfl,kM,hb⟩;obtain ⟨mb,mo,mc,rfl⟩:=FP.dQ (FP.new (F:=fun _=>True) kM) (Cm.aV pT.p Jf.p) iG;have QH:=FP.new (F:=F) kM;clear kM;have NH:=((Below.cell (p:=⟨w3.heap.size,0,none⟩) hb (eH BB)).trans BB);clear BB;replace GC:=U (GC.p.up hb);replace PR:=U (PR.p.up hb);replace TK:=U (TK.p.up hb);replace P3:=U (P3.p.up hb);replace KT:=U (KT.p.up hb);have MF:=U QH;generalize c_ (fun _:Nat=>True) NF Jg=F3 at *
     clear hb;refine ⟨_,rfl,(hS _ _ NH),?_⟩;go_frame;refine i8 16 8 rfl rfl (c6 (.slice (some ⟨mb,mo,none⟩) d mc) _ rfl rfl) (bW _ _ rfl) ?_;go_frame;refine Rg.Any.done (by kernel_rfl) ?_ _;clear bW;clear hS NH;have Ep:=U (GO.p.kt KT.p TK.p)
     have Ny:=U (show FP (c_ F wr Jg) Jg (.slice (some ⟨mb,mo,none⟩) d mc) (Ma.aj (qt d fr (fr+1+r7)) (qt d f2 (f2+1+r9))) from MF.p.mono (fun z hz=>by rcases hz with hz | hz; exact .inl hz; exact .inr ⟨Nat.le_trans Yg.p hz.1,hz.2⟩))
     obtain ⟨a9,c9,X9,r1,r2,r3,r4⟩:=Ep.p.push Ny.p ⟨_,_,_,rfl⟩ (by have:=nH.p; omega) 41;have Nz:=U (Cm.aV pT.p Jf.p);clear GO GC TK KT;go_upto_region 14 with (fail);refine d3 ?_;refine d4 73 (dg _ rfl rfl) ?_;go_frame;refine d4 74 (g8 (.slice Hk gs.length Hm) ⟨w3.heap.size,1,none⟩ (Rg.ae _ _ Tryz.underlying41 Ep.p.g1)) ?_;go_frame;refine d5 75 (.slice (some ⟨mb,mo,none⟩) d mc) ?_;go_frame;refine d4 76 (Rg.aC _ _ _ rfl (.slice (some ⟨mb,mo,none⟩) d mc) rfl (cG Jg _ ⟨_,_,_,rfl⟩)) ?_;go_frame;refine d4 77 (Rg.bu _ _ _ rfl rfl rfl r1) ?_;go_frame;refine d4 78 (dg _ rfl rfl) ?_;go_frame;refine Rg.aD none rfl rfl (Rg.ai _ _ _ rfl _ rfl _ rfl (Rg.bn _ dF r2 r3)) ?_;go_frame;generalize X9.setCell ⟨w3.heap.size,1,none⟩ (.slice a9 (gs.length+1) c9)=SF at *
     have NA:=U r4;have Er:=U (show (gs++[(Ma.aj (qt d fr (fr+1+r7)) (qt d f2 (f2+1+r9)))]).length+q<=3 by rw [List.length_append]; have:=nH.p; simp; omega)
     have Es:=U (show ∀ s∈gs++[(Ma.aj (qt d fr (fr+1+r7)) (qt d f2 (f2+1+r9)))],Gd d s from fun s hs=>by
      rcases List.mem_append.1 hs with hs | hs
      ·exact tq.p s hs
      ·rw [List.mem_singleton] at hs; rw [hs]; exact Nz.p)
     clear r1 r2 r3 r4;go_wp2
     go_roundw
     case rel=>exact ⟨q,_,_,_,_,by go_num,by omega,Er,Es,NA⟩
     case measure=>simp [intOf]; try omega
end
section
open Go.RowKit
attribute [local irreducible] Go.Calls Go.wpStill
def cQ:List Int->List Int->Bool
 | [],[]=>false
 | [],_ :: _=>true
 | _ :: _,[]=>false
 | x :: a,y :: b=>if x=y then cQ a b else decide (x<y)
theorem mP:∀ a:List Int,cQ a a=false
 | []=>rfl
 | x :: a=>by rw [cQ,if_pos rfl]; exact mP a
theorem rE:∀ {a b c:List Int},cQ a b=true->cQ b c=true->cQ a c=true
 | [],[],_,h,_=>by simp [cQ] at h
 | [],_ :: _,[],_,h=>by simp [cQ] at h
 | [],_ :: _,_ :: _,_,_=>rfl
 | _ :: _,[],_,h,_=>by simp [cQ] at h
 | _ :: _,_ :: _,[],_,h=>by simp [cQ] at h
 | x :: a,y :: b,z :: c,h,h'=>by
  rw [cQ] at h h' ⊢
  by_cases e1:x=y
  ·rw [if_pos e1] at h
   by_cases e2:y=z
   ·rw [if_pos e2] at h'; rw [if_pos (e1.trans e2)]; exact rE h h'
   ·rw [if_neg e2] at h'; rw [if_neg (by omega)]; simp at h' ⊢; omega
  ·rw [if_neg e1] at h
   by_cases e2:y=z
   ·rw [if_neg (by omega)]; simp at h ⊢; omega
   ·rw [if_neg e2] at h'; simp at h h'; rw [if_neg (by omega)]; simp; omega
theorem ka:∀ {a b:List Int},cQ a b=false->a≠b->cQ b a=true
 | [],[],_,h=>absurd rfl h
 | [],_ :: _,h,_=>by simp [cQ] at h
 | _ :: _,[],_,_=>rfl
 | x :: a,y :: b,h,hn=>by
  rw [cQ] at h ⊢
  by_cases e:x=y
  ·rw [if_pos e] at h; rw [if_pos e.symm]
   exact ka h (fun e2=>hn (by rw [e,e2]))
  ·rw [if_neg e] at h; rw [if_neg (by omega)]; simp at h ⊢; omega
def K7 (L:List (List Int)):Prop:=∀ i j (hi:i<L.length) (hj:j<L.length),i<j->cQ L[i] L[j]=true
theorem iI (L:List (List Int)):K7 L↔L.Pairwise (fun a b=>cQ a b=true):=by
 rw [List.pairwise_iff_getElem];exact ⟨fun h i j hi hj p6=>h i j hi hj p6,fun h i j hi hj p6=>h i j hi hj p6⟩
end
section
open Go.RowKit
open Go.Proofs.Ob
open Go.Proofs.Cm (Gd Gr)
attribute [local irreducible] Go.Calls Go.wpList
def eU (d:Nat) (gs A:List (List Nat)):Prop:=K7 (A.map Ma.ag)/\∀ y,y∈A↔Gr d (·∈gs) y
def BC (d:Nat) (gs:List (List Nat)) (dM:Nat):Prop:=∃ L:List (List Nat),L.Nodup/\(∀ y∈L,Gr d (·∈gs) y)/\L.length=dM+1
theorem dN (h:K7 (A.map Ma.ag)):A.Nodup:=by
 rw [iI] at h;rw [List.pairwise_map] at h
 exact h.imp fun eX e=>by subst e; rw [mP] at eX; cases eX
theorem b_.at {l:List (List Nat)} (h:b_ B F M W v l) {i:Nat} (hi:i<l.length):∃ b c u,v=.slice (some ⟨b,0,none⟩) l.length c/\l.length<=c/\b<W.heap.size/\W.cell? ⟨b,i,none⟩=some u/\FP F W u l[i]:=by
 obtain ⟨us,h1,h2⟩:=h.own;obtain ⟨-,a,c,rfl,h3,h4,h5⟩:=Rg.zK h1 h2;rw [List.length_map] at h3;obtain ⟨g,rfl,hg,hx⟩:=h5 (by rw [List.length_map]; omega);obtain ⟨u,Ho,tN⟩:=hx i (by simpa using hi);exact ⟨g,c,u,congrArg (fun n=>Value.slice _ n c) (List.length_map ..),h3,hg,Ho,by rw [List.getElem_map] at tN; exact tN⟩
theorem b_.Yh {l:List (List Nat)} (h:b_ B F (fun _=>False) W v l) (hb:Below W.heap.size W W'):b_ B (c_ F W W') (fun _=>False) W' v l :=
 h.QO (N:=fun _=>False) (Rg.Kp.az hb) (fun _ _=>id) (fun _=>id)

theorem b_.one {B:Nat} {F M:Nat->Prop} {W:World} {u:Value} {x:List Nat} (hB:B<=W.heap.size) (hu:FP F W u x) (hs:∃ a m c,u=.slice a m c) (hF:∀ k,F k->k<W.heap.size) (hM:∀ k,M k->k<W.heap.size) :
  b_ B F M (W.alloc (.cells #[u] 27)) (.slice (some ⟨W.heap.size,0,none⟩) 1 1) [x]:=by
 have hb:Below W.heap.size W (W.alloc (.cells #[u] 27)):=(Below.refl _ _).alloc (Nat.le_refl _) _;refine ⟨Nat.le_trans hB hb.size,⟨[u],⟨rfl,.inr ⟨W.heap.size,1,#[u],rfl,hB,by show (W.heap.push _)[W.heap.size]?=_; simp,Nat.le_refl _,by decide,rfl,rfl⟩⟩,?_⟩,fun k e=>?_⟩
 ·exact Rg.bx.one (Rg.FI.kp hu (Rg.Kp.az hb) (fun _ _=>id))
 ·simp only [Value.ownBlock,Option.some.injEq] at e
  subst e;exact ⟨fun h=>Nat.lt_irrefl _ (hF _ h),fun h=>Nat.lt_irrefl _ (hM _ h)⟩
end
section
open Go.Proofs.Cm (Gr Gd ak bT St Fx ap lu)
def jA (r A:List (List Nat)):List (List Nat):=r.flatMap fun u=>A.map (Ma.aj u)
theorem oG (r A:List (List Nat)):(jA r A).length=r.length*A.length:=by
 unfold jA
 induction r with
 | nil=>simp
 | cons u r ih=>rw [List.flatMap_cons,List.length_append,ih,List.length_map,List.length_cons,Nat.succ_mul,Nat.add_comm]
theorem k_ {r:List (List Nat)} {x:List Nat}:x∈jA r A↔∃ u∈r,∃ z∈A,Ma.aj u z=x:=by
 unfold jA;simp only [List.mem_flatMap,List.mem_map]
def jr (n:Nat) (R:List (List (List Nat))):Nat->List (List Nat)
 | 0=>[Ma.bh n]
 | i+1=>jA (R.getD i []) (jr n R i)
structure PK (n:Nat) (H:List Nat->Prop) (i:Nat) (L:List (List Nat)):Prop where
 NI:∀ z∈L,H z
 all:∀ x,H x->∃ s z,St H i s/\z∈L/\x=Ma.aj s z
 sep:∀ z z' s s',z∈L->z'∈L->St H i s->St H i s'->Ma.aj s z=Ma.aj s' z'->z=z'
 nd:L.Nodup
theorem PK.zero (hH:bT n H):PK n H 0 [Ma.bh n] :=
 ⟨fun z hz=>by rw [List.mem_singleton] at hz; subst hz; exact hH.one,fun x hx=>⟨x,Ma.bh n,⟨hx,fun j hj=>absurd hj (Nat.not_lt_zero _)⟩,by simp,(Cm.mul_one (hH.gd x hx)).symm⟩,fun z z' _ _ hz uR _ _ _=>by rw [List.mem_singleton] at hz uR; rw [hz,uR],by simp⟩
theorem vH (h:ak n H O R) {i:Nat} (hi:i<n) {k:Nat} (hk:k<(R.getD i []).length):lu n (fun z=>St H i z/\ap z i=(O.getD i []).getD k 0) (R.getD i [])[k]:=by
 have:=h.rep i k hi (by rw [<- h.len i hi]; exact hk)
 rwa [Cm.getD_in hk] at this
theorem rF (h:ak n H O R) {i:Nat} (hi:i<n) {u:List Nat} (hu:u∈R.getD i []):lu n (fun z=>St H i z/\ap z i=ap u i) u:=by
 obtain ⟨k,hk,rfl⟩:=List.getElem_of_mem hu;have:=vH h hi hk;have e:=this.1.2;rw [<- e] at this;exact this
theorem QQ (h:ak n H O R) {i:Nat} (hi:i<n) {s:List Nat} (hs:St H i s):∃ u∈R.getD i [],St H i u/\ap u i=ap s i:=by
 obtain ⟨k,hk,e⟩:=List.getElem_of_mem ((h.orb i (ap s i) hi).2 ⟨s,hs,rfl⟩)
 have cO:k<(R.getD i []).length:=by rw [h.len i hi]; exact hk
 have h1:=(vH h hi cO).1;refine ⟨_,List.getElem_mem cO,h1.1,?_⟩;rw [h1.2,Cm.getD_in hk,e]
theorem K8 (h:ak n H O R) {i:Nat} (hi:i<n):(R.getD i []).Pairwise (fun u v=>ap u i<ap v i):=by
 rw [List.pairwise_iff_getElem];intro a b ha hb eX
 have lS:a<(O.getD i []).length:=by rw [<- h.len i hi]; exact ha
 have dG:b<(O.getD i []).length:=by rw [<- h.len i hi]; exact hb
 rw [(vH h hi ha).1.2,(vH h hi hb).1.2,Cm.getD_in lS,Cm.getD_in dG];exact (List.pairwise_iff_getElem.1 (h.eK i hi)) a b lS dG eX
theorem PK.step {n:Nat} {H:List Nat->Prop} (hH:bT n H) {O:List (List Nat)} {R:List (List (List Nat))} (h:ak n H O R) {i:Nat} (hi:i<n) {L:List (List Nat)} (hL:PK n H i L):PK n H (i+1) (jA (R.getD i []) L):=by
 have key:∀ u z u' z' s s',u∈R.getD i []->u'∈R.getD i []->z∈L->z'∈L->St H (i+1) s->St H (i+1) s'->Ma.aj s (Ma.aj u z)=Ma.aj s' (Ma.aj u' z')->z=z'/\u=u':=by
  intro u z u' z' s s' hu eB hz uR hs K9 e;have l1:=rF h hi hu;have l2:=rF h hi eB;have gs:=hH.gd _ hs.1;have gs':=hH.gd _ K9.1;have gu:=hH.gd _ l1.1.1.1;have Yi:=hH.gd _ l2.1.1.1;rw [<- Cm.mul_assoc gs gu,<- Cm.mul_assoc gs' Yi] at e;have a1:St H i (Ma.aj s u):=⟨hH.mul _ _ hs.1 l1.1.1.1,Fx.mul gs (Nat.le_of_lt hi) (hs.2.mono (Nat.le_succ _)) l1.1.1.2⟩;have a2:St H i (Ma.aj s' u'):=⟨hH.mul _ _ K9.1 l2.1.1.1,Fx.mul gs' (Nat.le_of_lt hi) (K9.2.mono (Nat.le_succ _)) l2.1.1.2⟩;have ez:=hL.sep z z' _ _ hz uR a1 a2 e;subst ez;have gz:=hH.gd _ (hL.NI z hz);have e2:=congrArg (fun t=>Ma.aj t (Ma.aS z)) e;simp only [Cm.dZ (Cm.aV gs gu) gz,Cm.dZ (Cm.aV gs' Yi) gz] at e2;have e3:=congrArg (fun t=>ap t i) e2;simp only [Cm.br gs hi,Cm.br gs' hi,hs.2 i (Nat.lt_succ_self _),K9.2 i (Nat.lt_succ_self _)] at e3
  rw [<- e3] at l2;exact ⟨rfl,l1.uniq l2⟩
 refine ⟨fun y hy=>?_,fun x hx=>?_,fun y y' s s' hy AB hs K9 e=>?_,?_⟩
 ·obtain ⟨u,hu,z,hz,rfl⟩:=k_.1 hy
  exact hH.mul _ _ (rF h hi hu).1.1.1 (hL.NI z hz)
 ·obtain ⟨s,z,hs,hz,rfl⟩:=hL.all x hx
  obtain ⟨u,hu,su,eu⟩:=QQ h hi hs;have gs:=hH.gd _ hs.1;have gu:=hH.gd _ su.1;refine ⟨Ma.aj s (Ma.aS u),Ma.aj u z,⟨hH.mul _ _ hs.1 (hH.inv _ su.1),fun j hj=>?_⟩,k_.2 ⟨u,hu,z,hz,rfl⟩,?_⟩
  ·rw [Cm.br gs (by omega)]
   rcases Nat.lt_or_ge j i with e | e
   ·rw [hs.2 j e]
    exact Fx.inv gu (Nat.le_of_lt hi) su.2 j e
   ·obtain rfl:j=i:=by omega
    rw [<- eu];exact Cm.ee gu hi
  ·rw [<- Cm.mul_assoc (Cm.aV gs (Cm.aN gu)) gu,Cm.mul_inv_cancel gs gu]
 ·obtain ⟨u,hu,z,hz,rfl⟩:=k_.1 hy
  obtain ⟨u',eB,z',uR,rfl⟩:=k_.1 AB;obtain ⟨rfl,rfl⟩:=key u z u' z' s s' hu eB hz uR hs K9 e;rfl
 ·have o1:St H (i+1) (Ma.bh n):=⟨hH.one,Fx.one (by omega)⟩
  have gm:∀ u∈R.getD i [],∀ z∈L,Gd n (Ma.aj u z):=fun u hu z hz=>Cm.aV (hH.gd _ (rF h hi hu).1.1.1) (hH.gd _ (hL.NI z hz))
  have k2:∀ u∈R.getD i [],∀ u'∈R.getD i [],∀ z∈L,∀ z'∈L,Ma.aj u z=Ma.aj u' z'->z=z'/\u=u':=fun u hu u' eB z hz z' uR e =>
   key u z u' z' _ _ hu eB hz uR o1 o1 (by rw [e])
  unfold jA;rw [List.Nodup,List.pairwise_flatMap];refine ⟨fun u hu=>?_,?_⟩
  ·rw [List.pairwise_map]
   exact List.Pairwise.imp_of_mem (fun {a b} ha hb hne e=>hne (k2 u hu u hu a ha b hb e).1) hL.nd
  ·refine List.Pairwise.imp_of_mem (fun {u v} hu hv aE x hx y hy e=>?_) (K8 h hi)
   obtain ⟨z,hz,rfl⟩:=List.mem_map.1 hx;obtain ⟨z',uR,rfl⟩:=List.mem_map.1 hy;have:=(k2 u hu v hv z hz z' uR e).2;subst this;omega
theorem Ah {n:Nat} {H:List Nat->Prop} (hH:bT n H) {O:List (List Nat)} {R:List (List (List Nat))} (h:ak n H O R):∀ {i:Nat},i<=n->PK n H i (jr n R i)
 | 0,_=>PK.zero hH
 | i+1,hi=>PK.step hH h hi (Ah hH h (Nat.le_of_lt hi))
theorem qu (hH:bT n H) (h:ak n H O R):(jr n R n).Nodup/\∀ x,x∈jr n R n↔H x:=by
 have hp:=Ah hH h (Nat.le_refl n);refine ⟨hp.nd,fun x=>⟨hp.NI x,fun hx=>?_⟩⟩;obtain ⟨s,z,hs,hz,rfl⟩:=hp.all x hx;have e:=Fx.all (hH.gd _ hs.1) hs.2;rw [e,Cm.one_mul (hH.gd _ (hp.NI z hz))];exact hz
def NJ (n:Nat):Nat->Nat
 | 0=>1
 | i+1=>(n - i)*NJ n i
theorem Ai {n:Nat} {H:List Nat->Prop} (hH:bT n H) {O:List (List Nat)} {R:List (List (List Nat))} (h:ak n H O R):∀ {i:Nat},i<=n->(jr n R i).length<=NJ n i
 | 0,_=>Nat.le_refl 1
 | i+1,hi=>by
  have h1:=Ai hH h (i:=i) (Nat.le_of_lt hi);have h2:=hU hH h (i:=i) hi;rw [<- h.len i hi] at h2;show (jA _ _).length<=_;rw [oG];exact Nat.mul_le_mul h2 h1
theorem K_:∀ n,n<7->∀ i,i<7->i<=n->NJ n i<=720:=by decide
theorem Hs (hH:bT n H) (h:ak n H O R) (hn:n<=6) {i:Nat} (hi:i<=n):(jr n R i).length<=720 :=
 Nat.le_trans (Ai hH h hi) (K_ n (by omega) i (by omega) hi)
theorem Ht (hl:∀ i,i<n->(R.getD i []).length=(O.getD i []).length) (hO:O.length=n):(jr n R n).length=dL (O.map Ma.ag):=by
 have key:∀ i,i<=n->(jr n R i).length=dL ((O.take i).map Ma.ag):=by
  intro i
  induction i with
  | zero=>intro _; rfl
  | succ i ih =>
   intro hi;show (jA _ _).length=_;rw [oG,ih (by omega),hl i hi,List.take_succ_eq_append_getElem (by omega),List.map_append,List.map_singleton,oA,Ma.ar,df (by omega),Nat.mul_comm]
 have:=key n (Nat.le_refl _)
 rwa [List.take_of_length_le (by omega)] at this
theorem eU.len (hg:∀ s∈gs,Gd d s) (h:ak d (Gr d (·∈gs)) O R) (hA:eU d gs A):A.length=(jr d R d).length:=by
 obtain ⟨h1,h2⟩:=qu (Gr.dC hg) h;exact Nat.le_antisymm (d_ (dN hA.1) fun x hx=>(h2 x).2 ((hA.2 x).1 hx)) (d_ h1 fun x hx=>(hA.2 x).2 ((h2 x).1 hx))
theorem BC.no (hg:∀ s∈gs,Gd d s) (h:ak d (Gr d (·∈gs)) O R) (hd:d<=6):¬ BC d gs 720:=by
 rintro ⟨L,h1,h2,h3⟩;obtain ⟨q1,q2⟩:=qu (Gr.dC hg) h;have:=d_ h1 fun x hx=>(q2 x).2 (h2 x hx);have:=Hs (Gr.dC hg) h hd (Nat.le_refl d);omega
end
section
open Go.Proofs.Cm (Gr Gd ak bT St Fx ap lu lexLt)
def SK (i p:Nat) (a:List Nat) (j:Nat):Bool:=(ap a i == p) && (List.range j).all fun m=>ap a m == m
def Hu (i p:Nat) (a:List Nat):Bool:=SK i p a i
theorem oH {i p:Nat} {a:List Nat}:Hu i p a=true↔Fx i a/\ap a i=p:=by
 unfold Hu SK;rw [Bool.and_eq_true,beq_iff_eq,List.all_eq_true]
 constructor
 ·rintro ⟨h1,h2⟩; exact ⟨fun j hj=>by simpa using h2 j (List.mem_range.2 hj),h1⟩
 ·rintro ⟨h1,h2⟩; exact ⟨h2,fun j hj=>by simpa using h1 j (List.mem_range.1 hj)⟩
def mQ (A:List (List Nat)) (i p:Nat):List Nat:=(List.range p).filter fun q=>A.any (Hu i q)
def qw (A:List (List Nat)) (i p:Nat):List (List Nat):=(mQ A i p).map fun q=>(A.find? (Hu i q)).getD []
theorem xB (A:List (List Nat)) (i p:Nat):(qw A i p).length=(mQ A i p).length:=by unfold qw; rw [List.length_map]
theorem Aj (x:Nat) (a:List Nat):Ma.ag (x :: a)=((x:Nat):Int) :: Ma.ag a:=rfl
theorem qx:∀ {a z:List Nat},a.length=z.length->cQ (Ma.ag a) (Ma.ag z)=true->lexLt a.length a z
 | [],[],_,h=>by simp [Ma.ag,cQ] at h
 | [],_ :: _,e,_=>by simp at e
 | _ :: _,[],e,_=>by simp at e
 | x :: a,y :: z,e,h=>by
  rw [Aj,Aj,cQ] at h
  by_cases Hv:x=y
  ·subst Hv
   rw [if_pos rfl] at h;obtain ⟨j,h1,h2,h3⟩:=qx (by simpa using e) h;refine ⟨j+1,by simpa using h1,fun m hm=>?_,by simpa [ap] using h3⟩
   cases m with
   | zero=>rfl
   | succ m=>simpa [ap] using h2 m (by omega)
  ·rw [if_neg (by omega)] at h
   exact ⟨0,by simp,fun m hm=>absurd hm (Nat.not_lt_zero _),by simpa [ap] using h⟩
theorem js {α:Type} (f:Nat->List α) {i:Nat} (h:i<d):((List.range d).map f).getD i []=f i:=by
 rw [List.getD_eq_getElem?_getD,List.getElem?_map,List.getElem?_range h];rfl
theorem La (hg:∀ s∈gs,Gd d s) (hA:eU d gs A) {i p:Nat} {a:List Nat} (h:A.find? (Hu i p)=some a):lu d (fun z=>St (Gr d (·∈gs)) i z/\ap z i=p) a:=by
 obtain ⟨h1,k,hk,rfl,h2⟩:=List.find?_eq_some_iff_getElem.1 h;have h3:=oH.1 h1;have gk:=(Gr.dC hg).gd _ ((hA.2 _).1 (List.getElem_mem hk));refine ⟨⟨⟨(hA.2 _).1 (List.getElem_mem hk),h3.1⟩,h3.2⟩,fun z hz=>?_⟩;obtain ⟨j,hj,rfl⟩:=List.getElem_of_mem ((hA.2 z).2 hz.1.1);have gj:=(Gr.dC hg).gd _ ((hA.2 _).1 (List.getElem_mem hj))
 rcases Nat.lt_trichotomy j k with e | e | e
 ·have h4:=h2 j e
  rw [oH.2 ⟨hz.1.2,hz.2⟩] at h4
  cases h4
 ·subst e; exact .inl rfl
 ·have h5:=hA.1 k j (by simpa using hk) (by simpa using hj) e
  simp only [List.getElem_map] at h5;have:=qx (gk.2.trans gj.2.symm) h5;rw [gk.2] at this;exact .inr this
theorem Eu (hg:∀ s∈gs,Gd d s) (hA:eU d gs A):ak d (Gr d (·∈gs)) ((List.range d).map fun i=>mQ A i d) ((List.range d).map fun i=>qw A i d):=by
 have hm:∀ {i p:Nat},i<d->(p∈mQ A i d↔∃ x,St (Gr d (·∈gs)) i x/\ap x i=p):=by
  intro i p hi;unfold mQ;rw [List.mem_filter,List.mem_range,List.any_eq_true]
  constructor
  ·rintro ⟨_,a,ha,hb⟩
   exact ⟨a,⟨(hA.2 a).1 ha,(oH.1 hb).1⟩,(oH.1 hb).2⟩
  ·rintro ⟨x,hx,rfl⟩
   exact ⟨Cm.cy ((Gr.dC hg).gd x hx.1) hi,x,(hA.2 x).2 hx.1,oH.2 ⟨hx.2,rfl⟩⟩
 refine ⟨by simp,by simp,fun i hi=>?_,fun i p hi=>?_,fun i hi=>?_,fun i k hi hk=>?_⟩
 ·rw [js _ hi]
  exact List.Pairwise.filter _ List.pairwise_lt_range
 ·rw [js _ hi]; exact hm hi
 ·rw [js _ hi,js _ hi]; exact xB A i d
 ·rw [js _ hi] at hk ⊢
  rw [js _ hi]
  have cO:k<(qw A i d).length:=by rw [xB]; exact hk
  rw [Cm.getD_in hk,Cm.getD_in cO]
  have e:(qw A i d)[k]=(A.find? (Hu i (mQ A i d)[k])).getD []:=by simp only [qw,List.getElem_map]
  rw [e];have hp:=List.getElem_mem hk;unfold mQ at hp;rw [List.mem_filter] at hp
  cases hf:A.find? (Hu i (mQ A i d)[k]) with
  | none =>
   exfalso
   obtain ⟨a,ha,hb⟩:=List.any_eq_true.1 hp.2;have:=List.find?_eq_none.1 hf a ha;exact this hb
  | some a=>exact La hg hA hf
end
section
open Go.RowKit
open Go.Proofs.Cm (Gd Gr ap)
attribute [local irreducible] Go.Calls Go.wpList
theorem FP.own {x:List Nat} {m:Nat} (h:W'.ownsRow W.heap.size 3 1 v m ((Ma.ag x).map (Value.int .i64))) (hm:m<=1000000000):FP (c_ F W W') W' v x :=
 Rg.cB.of (Rg.cz.cR h hm) (fun k e=>.inr (h.lt k e))
theorem rG {b o:Nat} (h:W.cell? ⟨b,o,none⟩=some u) (hk:Rg.Kp M W X) (hM:¬ M b):X.cell? ⟨b,o,none⟩=some u:=(World.cell?_of_block (a:=⟨b,o,none⟩) (hk.block b (eH h) hM)).trans h
def QR (A:List (List Nat)) (n:Nat):List (List Nat):=(List.range n).map fun i=>mQ A i n
def QT (A:List (List Nat)) (n:Nat):List (List (List Nat)):=(List.range n).map fun i=>qw A i n
end
end Go.Proofs.YtpedbljnhnoohaaGreat
namespace Go.Proofs.Km
open Go Go.RowKit
open Go.ChangeMaps
structure KT (P:Program) (t k e v:TypeId) (n:Nat) (z:Value):Prop where
 ht:P.underlying t=some (.map k v)
 hk:P.underlying k=some (.array n e)
 he:P.underlying e=some (.int .u8)
 hs:∀ w,(sizeOf e).run P w=.ok 1 w
 hz:∀ w,(zeroValue v).run P w=.ok z w
section
variable {P:Program} {t k e v:TypeId} {n:Nat} {z:Value}
end
end Go.Proofs.Km
namespace Go.Proofs.YtpedbljnhnoohaaGreat
open Go.RowKit
open Go.Proofs
section
open Go.Proofs.Ob
attribute [local irreducible] Go.Calls Go.wpList
def iw (s l:List Nat):List Nat:=l.map fun x=>s.getD x 0
theorem rH (s l:List Nat):(iw s l).length=l.length:=by simp [iw]
theorem QU (n:Nat) (hn:n<=1000000) (w:World):(Instr.makeSlice 26 (.int .i64 (n:Int)) (.int .i64 (n:Int))).run Tryz.prog w=.ok (.slice (some ⟨w.heap.size,0,none⟩) n n) (w.alloc (.cells (madeCells #[.int .i64 0] n) 3)) :=
 run_make_row' 26 3 (.int .i64 0) 8 Tryz.underlying26 qP rfl .i64 .i64 n (by omega) (by omega) w
def nL (l:List Nat):List Nat:=(eK (Ma.ag l)).map Int.toNat
theorem rI (l:List Nat):Ma.ag (nL l)=eK (Ma.ag l):=by
 have hm:∀ x∈eK (Ma.ag l),0<=x:=fun x hx=>by
  have:=(Mb (Ma.ag l) x).1 hx;obtain ⟨y,_,rfl⟩:=List.mem_map.1 (show x∈l.map (fun z:Nat=>(z:Int)) from this);omega
 unfold nL Ma.ag;rw [List.map_map]
 conv=>rhs; rw [<- List.map_id (eK _)]
 exact List.map_congr_left fun x hx=>by simp [Int.toNat_of_nonneg (hm x hx)]
theorem NK (l:List Nat):(nL l).length=l.length:=by
 have:=congrArg List.length (rI l)
 rwa [Ma.ar,kR,Ma.ar] at this
end
section
open Go.Proofs.Ob
open Go.Proofs.Cm (Gd Gr ak ap)
attribute [local irreducible] Go.Calls Go.wpList
def bR (O:List (List Nat)) (N:Nat):Nat->Nat
 | 0=>1
 | d+1=>(O.getD (N - (d+1)) []).length*bR O N d
theorem BD {O:List (List Nat)} {N:Nat} (hN:N<=12) (h:∀ i,i<N->(O.getD i []).length<=N - i):∀ d,d<=N->bR O N d<=12 ^ d
 | 0,_=>Nat.le_refl _
 | d+1,hd=>by
  have h1:=BD hN h d (by omega);have h2:=h (N - (d+1)) (by omega);show _*bR O N d<=12 ^ (d+1);rw [Nat.pow_succ,Nat.mul_comm (12 ^ d) 12];exact Nat.mul_le_mul (by omega) h1
theorem NL (h1:1<=n) (h2:n<=12):(8916100448256:Int)<=Int.tdiv 1000000000000000000 ((n:Nat):Int):=by
 have key:∀ n:Fin 13,1<=n.1->(8916100448256:Int)<=Int.tdiv 1000000000000000000 ((n.1:Nat):Int):=by decide
 exact key ⟨n,by omega⟩ h1
def ze (O:List (List Nat)) (N i:Nat) (j:Nat):Int:=if i<=j then ((bR O N (N - j):Nat):Int) else 0
theorem NN {i:Nat} (hi:i<N):∀ t,t<N+1->(if t=i then (((O.getD i []).length*bR O N (N - (i+1)):Nat):Int) else ze O N (i+1) t)=ze O N i t:=fun t _=>by
 unfold ze
 by_cases e:t=i
 ·subst e
  rw [if_pos rfl,if_pos (Nat.le_refl _),show N - t=(N - (t+1))+1 by omega,bR,show N - (N - (t+1)+1)=t by omega]
 ·rw [if_neg e]
  by_cases h:i<=t
  ·rw [if_pos (by omega),if_pos h]
  ·rw [if_neg (by omega),if_neg h]
def QV (O:List (List Nat)) (N:Nat) (w:World) (ed:Ending) (w':World):Prop:=∃ g,ed=.returned (.tuple #[.slice (some ⟨g,0,none⟩) (N+1) (N+1),.bool true])/\bV w' g (N+1) (ze O N 0)/\w.heap.size<=g/\Below w.heap.size w w'
theorem BG (bQ:1<=N) (cC:N<=12) (hH:Cm.bT N H) (cK:ak N H O R) (h:bg w ov rv (O.map Ma.ag) (R.map (List.map Ma.ag))) :
  Calls Tryz.prog 151 #[.agg #[.int .i64 ((N:Nat):Int),ov,rv]] w (QV O N w):=by
 obtain ⟨ob,oo,oc,rb,ro,rc,rfl,rfl,-,-⟩:=kZ cK h (i:=0) bQ;have HH:=U hH;have ew:=U cK;have CE:=U h;have UF:=U cC;have K:=U (Below.refl w.heap.size w);have yO:=U (fun i hi=>hU hH cK (i:=i) hi);have HPO:=U (fun i (hi:i<N)=>List.length_pos_of_mem ((cK.orb i i hi).2 ⟨Ma.bh N,⟨hH.one,Cm.Fx.one (by omega)⟩,Cm.cF hi⟩));clear h hH cK
 go_enter Tryz.func151,Tryz.ntmps151
 go_upto_region 0 with (fail);refine d3 ?_;have aQ:=gR w (.int .i64 ((N:Nat):Int)) (.slice (some ⟨ob,oo,none⟩) N oc) (.slice (some ⟨rb,ro,none⟩) N rc);refine d4 1 (Rg.bq _ _ rfl rfl) ?_;go_frame;have hb:=(Below.refl w.heap.size w).alloc (Nat.le_refl _) (.cells #[.int .i64 ((N:Nat):Int),.slice (some ⟨ob,oo,none⟩) N oc,.slice (some ⟨rb,ro,none⟩) N rc] 25);generalize w.alloc (.cells #[.int .i64 ((N:Nat):Int),.slice (some ⟨ob,oo,none⟩) N oc,.slice (some ⟨rb,ro,none⟩) N rc] 25)=w1 at *;replace CE:=U (CE.p.jj hb);replace K:=U (Rg.acc K.p hb);clear hb;have A0:=U aQ.1;have A1:=U aQ.2.1;have A2:=U aQ.2.2;clear aQ;refine d6 2 (.slice none 0 0) ?_;go_frame;refine d6 3 (.bool false) ?_;go_frame;go_upto_region 1 with (fail);refine d3 ?_;refine d4 7 (af _ rfl rfl (gP _ _)) ?_;go_frame;refine d4 8 (g8 (.int .i64 ((N:Nat):Int)) ⟨w.heap.size,0,none⟩ (ah A0.p.cell)) ?_;go_frame
 refine d4 9 (g9 (.int .i64 (((N+1):Nat):Int)) .add (h:=bA _ (by omega) (by omega))) ?_;go_frame;refine d4 10 (nh _ _ _ rfl _ _ rfl rfl (QU (N+1) (by omega) w1)) ?_;go_frame;refine d6 4 (.slice (some ⟨w1.heap.size,0,none⟩) (N+1) (N+1)) ?_;go_frame;have gY:=xx w1 (N+1);have Lb:Below w1.heap.size w1 (w1.alloc (.cells (madeCells #[.int .i64 0] (N+1)) 3)):=(Below.refl _ _).alloc (Nat.le_refl _) _;obtain ⟨gb,tH⟩:∃ b,w1.heap.size=b:=⟨_,rfl⟩;have Hw:=U (show w1.heap.size<=gb from Nat.le_of_eq tH);rw [tH] at gY ⊢;generalize w1.alloc (.cells (madeCells #[.int .i64 0] (N+1)) 3)=wf at *;have RW:=U gY;have KE:=U Lb;have HWG:=U (show w.heap.size<=gb from Nat.le_trans K.p.size Hw.p);clear gY Lb tH;go_upto_region 2 with (fail);refine d3 ?_;refine d5 11 (.slice (some ⟨gb,0,none⟩) (N+1) (N+1)) ?_;go_frame
 refine d4 12 (af _ rfl rfl (gP _ _)) ?_;go_frame;refine d4 13 (g8 (.int .i64 ((N:Nat):Int)) ⟨w.heap.size,0,none⟩ (ah ((Below.cell (p:=⟨w.heap.size,0,none⟩) KE.p A0.p.lt).trans A0.p.cell))) ?_;go_frame;refine d4 14 (aB bK _ _ rfl gb (0) ((N+1)) (N+1) (N) rfl rfl (Nat.lt_succ_self N)) ?_;go_frame;refine Rg.aD none rfl rfl (Rg.ai _ _ _ rfl _ rfl _ rfl (bI 1 (by rw [Nat.zero_add]; exact RW.p.2.1 N (Nat.lt_succ_self N)) (by rw [Nat.zero_add]; exact RW.p.2.2 N))) ?_;go_frame
 have gY:bV (wf.setCell ⟨gb,0+N,none⟩ (.int .i64 1)) gb (N+1) (ze O N N):=by
  rw [Nat.zero_add];refine (RW.p.set N 1 (Nat.lt_succ_self N)).congr fun t ht=>?_;unfold ze
  by_cases e:t=N
  ·subst e; rw [if_pos rfl,if_pos (Nat.le_refl _),Nat.sub_self]; rfl
  ·rw [if_neg e,if_neg (by omega)]
 have qy:=KE.p.setCell (p:=⟨gb,0+N,none⟩) Hw.p (.int .i64 1);generalize wf.setCell ⟨gb,0+N,none⟩ (.int .i64 1)=wg at *;clear RW KE;have RW:=U gY;have KE:=U qy;clear gY qy;obtain ⟨i0,mi⟩:∃ i0,Hid (N=i0+1):=⟨N - 1,U (by omega)⟩;go_upto_region 3 with (fail);refine d3 ?_;refine d4 15 (af _ rfl rfl (gP _ _)) ?_;go_frame;refine d4 16 (g8 (.int .i64 ((N:Nat):Int)) ⟨w.heap.size,0,none⟩ (ah ((Below.cell (p:=⟨w.heap.size,0,none⟩) KE.p A0.p.lt).trans A0.p.cell))) ?_;go_frame;refine d4 17 (g9 (.int .i64 (((N:Nat):Int) - 1)) .sub (h:=gC _ (by omega) (by omega))) ?_;go_frame;refine d6 5 (.int .i64 (((N:Nat):Int) - 1)) ?_;go_frame;have KX:=KE;clear mi i0;go_wp2
 go_loopw [5] (fun iv wr=>∃ i:Nat,iv=.int .i64 (((i:Nat):Int) - 1)/\i<=N/\Hid (bV wr gb (N+1) (ze O N i))/\Hid (Below w1.heap.size w1 wr)) (fun iv _=>(intOf iv+1).toNat)
 case atStart=>exact ⟨N,rfl,Nat.le_refl _,RW,KE⟩
 case round =>
  clear RW KE KX;obtain ⟨i,rfl,hi,RW,KE⟩:=hrel;generalize wr=wd at *;have Yj:N<=12:=UF.p
  cases i with
  | zero =>
   have KT:=U (show Below w.heap.size w wd from K.p.trans (KE.p.mono K.p.size));go_upto_region 4 with (fail);refine d3 ?_;refine d5 18 (.int .i64 (((0:Nat):Int) - 1)) ?_;go_frame;refine d4 19 (g9 (.bool false) .geq (h:=p8 _ f9)) ?_;go_frame;go_upto_region 10 with (fail);refine d3 ?_;refine d5 46 (.slice (some ⟨gb,0,none⟩) (N+1) (N+1)) ?_;go_frame;refine d6 2 (.slice (some ⟨gb,0,none⟩) (N+1) (N+1)) ?_;go_frame;refine d6 3 (.bool true) ?_;go_frame;go_wp2
   go_ret2
   exact ⟨gb,rfl,RW.p,HWG.p,KT.p⟩
  | succ i =>
   have HI:=U (show i<N by omega)
   have bF:i<N:=by omega
   obtain ⟨ob',oo',XC,rb',ro',rc',e1,e2,⟨ua,uc,xC,tO⟩,-⟩:=kZ ew.p CE.p bF
   injection e1 with e1 _ e9
   subst e9
   injection e1 with e1
   injection e1 with e3 e4
   subst e3 e4;clear e2;obtain ⟨n,hn⟩:∃ n:Nat,Hid ((O.getD i []).length=n):=⟨_,U rfl⟩;have Yk:=yO.p i bF;have SL:=HPO.p i bF;rw [hn.p] at xC Yk SL;have CO:=U xC;obtain ⟨s,hs⟩:∃ s:Nat,Hid (bR O N (N - (i+1))=s):=⟨_,U rfl⟩
   have SM:s<=743008370688:=by
    have h5:=BD Yj yO.p (N - (i+1)) (by omega);rw [hs.p] at h5;have h6:=Nat.pow_le_pow_right (n:=12) (by decide) (show N - (i+1)<=11 by omega)
    have e:(12:Nat) ^ 11=743008370688:=by decide
    omega
   obtain ⟨q,hq⟩:∃ q:Int,Hid (Int.tdiv 1000000000000000000 ((n:Nat):Int)=q):=⟨_,U rfl⟩
   have hqb:8916100448256<=q:=by rw [<- hq.p]; exact NL SL (by omega)
   have hqt:q<=1000000000000000000:=by rw [<- hq.p]; exact Int.tdiv_le_self _ (by decide)
   have HQF:=U (show decide (((s:Nat):Int) > q)=false from decide_eq_false (by omega));have HQB:=U (show -9223372036854775808<=q/\q<=9223372036854775807 by omega);have wL:=U (show ((n:Nat):Int)≠0 by omega)
   have Hq:n*s<=8916100448256:=by
    have h5:=Nat.mul_le_mul (show n<=12 by omega) SM;omega
   have HPR:=U (show ((n:Nat):Int)*((s:Nat):Int)=(((n*s):Nat):Int) by rw [Int.natCast_mul]);have HPB:=U (show -9223372036854775808<=(((n*s):Nat):Int)/\(((n*s):Nat):Int)<=9223372036854775807 by omega)
   have NR:=U (show CL wd gb (0+(i+1)) (.int .i64 ((s:Nat):Int)) from CL.mk (by
    rw [Nat.zero_add,RW.p.2.1 (i+1) (by omega)];unfold ze
    rw [if_pos (Nat.le_refl _),hs.p]) RW.p.1)
   clear xC tO SM hqb hqt Hq;have EI:=U (show ((((i+1:Nat)):Int) - 1)=((i:Nat):Int) by omega);rw [EI.p];go_upto_region 4 with (fail);refine d3 ?_;refine d5 18 (.int .i64 ((i:Nat):Int)) ?_;go_frame;refine d4 19 (g9 (.bool true) .geq (h:=p8 _ f8)) ?_;go_frame;go_upto_region 6 with (fail);refine d3 ?_;refine d4 22 (af _ rfl rfl (gQ _ _)) ?_;go_frame;refine d4 23 (g8 (.slice (some ⟨ob,oo,none⟩) N oc) ⟨w.heap.size,1,none⟩ (Rg.ae _ _ Tryz.underlying22 ((Below.cell (p:=⟨w.heap.size,1,none⟩) KE.p A1.p.lt).trans A1.p.cell))) ?_;go_frame;refine d5 24 (.int .i64 ((i:Nat):Int)) ?_;go_frame;refine d4 25 (aB bU _ _ rfl ob (oo) (N) oc (i) rfl rfl HI.p) ?_;go_frame;refine d4 26 (g8 (.slice ua n uc) ⟨ob,oo+i,none⟩ (Rg.ae _ _ Tryz.underlying26 ((Below.cell (p:=⟨ob,oo+i,none⟩) KE.p CO.p.lt).trans CO.p.cell))) ?_;go_frame
   refine d4 27 (i3 Tryz.underlying26) ?_;go_frame;refine d6 6 (.int .i64 ((n:Nat):Int)) ?_;go_frame;go_upto_region 7 with (fail);have aq:Below wd.heap.size wd wd.drew:=(Below.refl _ _).drew;replace NR:=U (NR.p.jj aq);replace RW:=U (RW.p.jj aq);replace KE:=U (Rg.acc KE.p aq);clear aq;refine Rg.Any.begin (S:=Rg.aG 7 (fun W=>Below wd.drew.heap.size wd.drew W) (fun W=>Below w1.heap.size w1 W)) mix ?_;generalize wd.drew=Ev at *;have hS:∀ (l:Array Bool) W,Below Ev.heap.size Ev W->Below w1.heap.size w1 W->Rg.aG 7 (fun W=>Below Ev.heap.size Ev W) (fun W=>Below w1.heap.size w1 W) l W:=fun l W h h2=>⟨.inr h,h2⟩;have bW:∀ (l:Array Bool) W,l.getD 7 false=true->Below w1.heap.size w1 W->Rg.aG 7 (fun W=>Below Ev.heap.size Ev W) (fun W=>Below w1.heap.size w1 W) l W:=fun l W h h2=>⟨.inl h,h2⟩;have hI:=KE.p
   refine d7 0 7 (.slice (some ⟨gb,0,none⟩) (N+1) (N+1)) 28 rfl rfl (.inl ⟨rfl,fun w _=>Rg.cI (v:=.slice (some ⟨gb,0,none⟩) (N+1) (N+1)) _ rfl rfl⟩) (hS _ _ (Below.refl _ _) hI) ?_;go_frame;refine d7 1 7 (.int .i64 ((i:Nat):Int)) 29 rfl rfl (.inl ⟨rfl,fun w _=>Rg.cI (v:=.int .i64 ((i:Nat):Int)) _ rfl rfl⟩) (hS _ _ (Below.refl _ _) hI) ?_;go_frame;refine d7 2 7 (.int .i64 (((i+1):Nat):Int)) 30 rfl rfl (.inl ⟨rfl,fun w _=>aT (R:=.int .i64 (((i+1):Nat):Int)) .add _ _ _ rfl rfl rfl (bA _ (by omega) (by omega))⟩) (hS _ _ (Below.refl _ _) hI) ?_;go_frame;refine d7 3 7 (.pointer (some ⟨gb,0+(i+1),none⟩)) 31 rfl rfl (Rg.aA bK _ _ rfl rfl gb (0) ((N+1)) (N+1) ((i+1)) rfl rfl (by omega)) (hS _ _ (Below.refl _ _) hI) ?_;go_frame;refine i7 4 7 (.int .i64 ((s:Nat):Int)) 32 rfl rfl (i9 ⟨gb,0+(i+1),none⟩ (fun W hW=>ah ((Below.cell (p:=⟨gb,0+(i+1),none⟩) hW NR.p.lt).trans NR.p.cell))) (hS _ _ (Below.refl _ _) hI) ?_;go_frame
   refine d7 5 7 (.int .i64 ((n:Nat):Int)) 33 rfl rfl (.inl ⟨rfl,fun w _=>Rg.cI (v:=.int .i64 ((n:Nat):Int)) _ rfl rfl⟩) (hS _ _ (Below.refl _ _) hI) ?_;go_frame;refine d7 6 7 (.int .i64 q) 34 rfl rfl (.inl ⟨rfl,fun w _=>aT (R:=.int .i64 q) .quo _ _ _ rfl rfl rfl (Td _ wL.p hq.p HQB.p)⟩) (hS _ _ (Below.refl _ _) hI) ?_;go_frame;refine i8 7 35 rfl rfl (g9 (.bool false) .gtr (h:=dV _ HQF.p)) (bW _ _ rfl hI) ?_;go_frame;refine Rg.Any.done (by kernel_rfl) ?_ _;replace KE:=U hI;clear bW;clear hS hI;go_upto_region 9 with (fail);refine d3 ?_;refine d5 36 (.slice (some ⟨gb,0,none⟩) (N+1) (N+1)) ?_;go_frame;refine d5 37 (.int .i64 ((i:Nat):Int)) ?_;go_frame;refine d5 38 (.int .i64 ((n:Nat):Int)) ?_;go_frame;refine d5 39 (.slice (some ⟨gb,0,none⟩) (N+1) (N+1)) ?_;go_frame;refine d5 40 (.int .i64 ((i:Nat):Int)) ?_;go_frame
   refine d4 41 (g9 (.int .i64 (((i+1):Nat):Int)) .add (h:=bA _ (by omega) (by omega))) ?_;go_frame;refine d4 42 (aB bK _ _ rfl gb (0) ((N+1)) (N+1) ((i+1)) rfl rfl (by omega)) ?_;go_frame;refine d4 43 (g8 (.int .i64 ((s:Nat):Int)) ⟨gb,0+(i+1),none⟩ (ah NR.p.cell)) ?_;go_frame;refine d4 44 (g9 (.int .i64 (((n*s):Nat):Int)) .mul (h:=FH _ HPR.p HPB.p)) ?_;go_frame;refine d4 45 (aB bK _ _ rfl gb (0) ((N+1)) (N+1) (i) rfl rfl (by omega)) ?_;go_frame;refine Rg.aD none rfl rfl (Rg.ai _ _ _ rfl _ rfl _ rfl (bI (((n*s):Nat):Int) (by rw [Nat.zero_add]; exact RW.p.2.1 i (by omega)) (by rw [Nat.zero_add]; exact RW.p.2.2 i))) ?_;go_frame;have RW9:=RW;have qy:=KE.p.setCell (p:=⟨gb,0+i,none⟩) Hw.p (.int .i64 (((n*s):Nat):Int))
   have gY:bV (Ev.setCell ⟨gb,0+i,none⟩ (.int .i64 (((n*s):Nat):Int))) gb (N+1) (ze O N i):=by
    rw [Nat.zero_add];have h5:=NN (O:=O) bF;rw [hn.p,hs.p] at h5;exact (RW9.p.set i (((n*s):Nat):Int) (by omega)).congr h5
   generalize Ev.setCell ⟨gb,0+i,none⟩ (.int .i64 (((n*s):Nat):Int))=wh at *;have UG:=U gY;have KE2:=U qy;clear gY qy;go_upto_region 5 with (fail);refine d3 ?_;refine d5 20 (.int .i64 ((i:Nat):Int)) ?_;go_frame;refine d4 21 (g9 (.int .i64 (((i:Nat):Int) - 1)) .sub (h:=gC _ (by omega) (by omega))) ?_;go_frame;refine d6 5 (.int .i64 (((i:Nat):Int) - 1)) ?_;go_frame;go_wp2
   go_roundw
   case rel=>exact ⟨i,rfl,by omega,UG,KE2⟩
   case measure=>simp [intOf]

abbrev Lc:=List (List Nat) × List (List Int)
def Jh (x:List Nat) (wd:List Int) (st:Lc) (y:List Nat × Int):Lc:=if Ma.aj x y.1∈st.1 then st else (st.1++[Ma.aj x y.1],st.2++[wd++[y.2]])
def Ext (st Yl:Lc):Prop:=st.1 <+: Yl.1/\st.2 <+: Yl.2
theorem Ext.refl (st:Lc):Ext st st:=⟨List.prefix_rfl,List.prefix_rfl⟩
theorem Ext.trans {a b c:Lc} (h:Ext a b) (h':Ext b c):Ext a c:=⟨h.1.trans h'.1,h.2.trans h'.2⟩
theorem Ext.step (x:List Nat) (wd:List Int) (st:Lc) (y:List Nat × Int):Ext st (Jh x wd st y):=by
 unfold Jh
 split
 ·exact Ext.refl _
 ·exact ⟨⟨_,rfl⟩,⟨_,rfl⟩⟩

theorem UH (args:Array Value) (w:World):(callFunc 151 args).run Tryz.prog w=.ok (.enter 151 args) w:=by kernel_rfl
theorem Ak {N:Nat} {H:List Nat->Prop} {O:List (List Nat)} {R:List (List (List Nat))} (h:ak N H O R):∀ i,i<=N->(jr N R i).length*bR O N (N - i)=bR O N N
 | 0,_=>by
  show ([Ma.bh N]:List (List Nat)).length*_=_;simp
 | i+1,hi=>by
  have ih:=Ak h i (by omega);show (jA (R.getD i []) (jr N R i)).length*_=_;rw [oG,h.len i (by omega),<- ih];obtain ⟨d,hd⟩:∃ d,N - i=d+1:=⟨N - i - 1,by omega⟩
  have e1:N - (i+1)=d:=by omega
  have e2:N - (d+1)=i:=by omega
  rw [hd,e1];show _=_*((O.getD (N - (d+1)) []).length*bR O N d);rw [e2,Nat.mul_comm (O.getD i []).length,Nat.mul_assoc]
theorem NU (h:ak N H O R):(jr N R N).length=bR O N N:=by
 have:=Ak h N (Nat.le_refl _);rw [Nat.sub_self] at this;rw [<- this];show _=_*1;omega
theorem Ew (hg:∀ s∈gs,Gd N s) (bQ:1<=N) (cC:N<=12) (cK:ak N (Cm.Gr N (·∈gs)) O R) (h:bg w ov rv (O.map Ma.ag) (R.map (List.map Ma.ag))) :
  Calls Tryz.prog 137 #[.agg #[.int .i64 ((N:Nat):Int),ov,rv]] w fun e w'=>e=.returned (.tuple #[.int .i64 ((bR O N N:Nat):Int),.int .i64 0])/\Below w.heap.size w w':=by
 have dU:bH ((N:Nat):Int) (O.map Ma.ag) (R.map (List.map Ma.ag))=0:=rz (zY bQ (by omega) hg cK);obtain ⟨oa,oc,e1,-⟩:=h.1.shape;obtain ⟨ra,rc,e2⟩:=h.2.shape;obtain ⟨on,jT⟩:∃ n,(O.map Ma.ag).length=n:=⟨_,rfl⟩;obtain ⟨rn,ks⟩:∃ n,(R.map (List.map Ma.ag)).length=n:=⟨_,rfl⟩;rw [jT] at e1;rw [ks] at e2;subst e1 e2;clear jT ks;have rJ:=U dU;have HC:=U h;have ew:=U cK;have HG:=U hg;have K:=U (Below.refl w.heap.size w);clear h cK dU hg
 go_enter Tryz.func137,Tryz.ntmps137
 go_upto_region 0 with (fail);refine d3 ?_;have aQ:=gR w (.int .i64 ((N:Nat):Int)) (.slice oa on oc) (.slice ra rn rc);refine d4 1 (Rg.bq _ _ rfl rfl) ?_;go_frame;have hb:=(Below.refl w.heap.size w).alloc (Nat.le_refl _) (.cells #[.int .i64 ((N:Nat):Int),.slice oa on oc,.slice ra rn rc] 25);generalize w.alloc (.cells #[.int .i64 ((N:Nat):Int),.slice oa on oc,.slice ra rn rc] 25)=w1 at *;replace HC:=U (HC.p.jj hb);replace K:=U (Rg.acc K.p hb);clear hb;have A0:=U aQ.1;have A1:=U aQ.2.1;have A2:=U aQ.2.2;clear aQ;refine d6 2 (.int .i64 ((0:Nat):Int)) ?_;go_frame;refine d6 3 (.int .i64 ((0:Nat):Int)) ?_;go_frame;go_upto_region 1 with (fail);refine d3 ?_;refine d4 7 (g8 ((.agg #[.int .i64 ((N:Nat):Int),.slice oa on oc,.slice ra rn rc])) ⟨w.heap.size,0,none⟩ (aM A0.p.cell A1.p.cell A2.p.cell)) ?_;go_frame
 refine f7 8 (aF 73 _ _ rfl rfl (Bu _ _)) ?_;refine (mL HC.p).mono ?_;rintro e1 w2 ⟨rfl,hb⟩;rw [rJ.p];refine ⟨_,rfl,?_⟩;go_frame;replace HC:=U (HC.p.jj hb);replace A0:=U (A0.p.jj hb);replace A1:=U (A1.p.jj hb);replace A2:=U (A2.p.jj hb);replace K:=U (Rg.acc K.p hb);clear hb;refine d6 4 (.int .i64 0) ?_;go_frame;go_upto_region 2 with (fail);refine d3 ?_;refine d5 9 (.int .i64 0) ?_;go_frame;refine d4 10 (g9 (.bool false) .neq (h:=aU _ (decide_eq_false (by decide)))) ?_;go_frame;go_upto_region 4 with (fail);refine d3 ?_;refine d4 13 (g8 ((.agg #[.int .i64 ((N:Nat):Int),.slice oa on oc,.slice ra rn rc])) ⟨w.heap.size,0,none⟩ (aM A0.p.cell A1.p.cell A2.p.cell)) ?_;go_frame;refine f7 14 (aF 151 _ _ rfl rfl (UH _ _)) ?_;refine (BG bQ cC (Cm.Gr.dC HG.p) ew.p HC.p).mono ?_
 rintro e1 w3 ⟨sg,rfl,qz,jt,hb⟩;have hcz:CL w3 sg (0+0) (.int .i64 ((bR O N N:Nat):Int)):=⟨by have:=qz.2.1 0 (by omega); rw [this]; unfold ze; simp,qz.1⟩;clear jt qz;refine ⟨_,rfl,?_⟩;go_frame;replace HC:=U (HC.p.jj hb);replace A0:=U (A0.p.jj hb);replace A1:=U (A1.p.jj hb);replace A2:=U (A2.p.jj hb);replace K:=U (Rg.acc K.p hb);clear hb;have CZ:=U hcz;refine d5 12 (.tuple #[.slice (some ⟨sg,0,none⟩) (N+1) (N+1),.bool true]) ?_;go_frame;refine d4 15 (i6 (.slice (some ⟨sg,0,none⟩) (N+1) (N+1))) ?_;go_frame;refine d4 16 (i6 (.bool true)) ?_;go_frame;refine d6 5 (.slice (some ⟨sg,0,none⟩) (N+1) (N+1)) ?_;go_frame;refine d6 6 (.bool true) ?_;go_frame;go_upto_region 5 with (fail);refine d3 ?_;refine d5 17 (.bool true) ?_;go_frame;refine d4 18 (bm _ _ true rfl rfl) ?_;go_frame;go_upto_region 7 with (fail)
 refine d3 ?_;refine d5 19 (.slice (some ⟨sg,0,none⟩) (N+1) (N+1)) ?_;go_frame;refine d4 20 (aB bK _ _ rfl sg (0) ((N+1)) (N+1) (0) rfl rfl (by omega)) ?_;go_frame;refine d4 21 (g8 (.int .i64 (((bR O N N):Nat):Int)) ⟨sg,0+0,none⟩ (ah CZ.p.cell)) ?_;go_frame;refine d6 2 (.int .i64 (((bR O N N):Nat):Int)) ?_;go_frame;refine d6 3 (.int .i64 ((0:Nat):Int)) ?_;go_frame;go_wp2
 go_ret2
 exact ⟨rfl,K.p⟩
end
section
open Go.Proofs.Ob
open Go.Sort
open Go.Proofs.Cm (Gd Gr ak ap)
attribute [local irreducible] Go.Calls Go.wpList
def ElP (F:Nat->Prop) (w:World):={ p:Value × List Int // Rg.FI F w p.1 p.2 }
theorem NV (F:Nat->Prop) (w:World):Rg.FI F w (.slice none 0 0) []:=⟨none,0,rfl,Nat.le_refl _,Nat.zero_le _,Nat.zero_le _,fun h=>absurd h (Nat.lt_irrefl 0)⟩
instance (F:Nat->Prop) (w:World):Inhabited (ElP F w):=⟨⟨(.slice none 0 0,[]),NV F w⟩⟩
theorem oI {α:Type} [Inhabited α] {enc:α->Value} {blk m:Nat} {dk:Array α} {os:Array Obj}:Rg.Kp (fun z=>z=blk) w (sortWorld enc w blk 0 m dk os):=by
 refine ⟨rfl,rfl,rfl,by simp [sortWorld,grow,putRow,mapBlock,Sort.ahead],fun k hk hn=>?_⟩;unfold sortWorld;rw [heap_grow_old _ _ (by simpa [putRow,mapBlock,Sort.ahead] using hk)];have:blk≠k:=fun e=>hn e.symm;simp [putRow,mapBlock,Sort.ahead,Array.getElem?_modify,this]

theorem Ld {S:List (List Nat)} (h:S.Perm T) (hs:(S.map Ma.ag).Pairwise (fun a b=>cQ b a=false)) (ht:(T.map Ma.ag).Pairwise (fun a b=>cQ b a=false)):S=T:=by
 refine cH ?_;refine List.Perm.eq_of_pairwise (le:=fun a b=>cQ b a=false) ?_ hs ht (h.map _);intro a b _ _ h1 h2
 by_cases e:a=b
 ·exact e
 ·have:=ka h2 e
  rw [h1] at this; cases this
end
end Go.Proofs.YtpedbljnhnoohaaGreat
set_option linter.unusedVariables false
namespace Go.Proofs.YtpedbljnhnoohaaGreat
open Go.RowKit
open Go.Proofs
section
open Go.ChangeShapes Go.WideShapes Go.Deep Go.Joins
attribute [local irreducible] Go.Calls
section
variable {H:Type} {enc:TypeId × Value->H}
theorem H0 {base:Nat} {r:Reach} {d:DataW H} {p:List MemPlace} (h:DataW.Trod enc Tryz.prog W 0 (fun _=>true) true 26 v d p) (hv:∃ x,v.cells.toList=[x]/\v=x) :
  ∃ l,Rg.cZ maxLen W v l:=by
 obtain ⟨fuel,hf⟩:=h;obtain ⟨x,hc,rfl⟩:=hv;rw [hc] at hf
 rcases open_ints Tryz.underlying26 Tryz.underlying3 P1 hf with ⟨ku,_⟩ | ⟨a,len,cap,zs,ku,_,hl,hm,hz,_,aO,_⟩
 ·obtain rfl:v=.slice none 0 0:=by simpa using ku
  exact ⟨[],none,0,rfl,by simp,Nat.zero_le _,by simp,fun h=>by simp at h⟩
 ·obtain rfl:v=.slice (some a) len cap:=by simpa using ku
  simp only [if_true] at hz
  have hlen:(zs.take len).length=len:=by rw [List.length_take]; omega
  refine ⟨zs.take len,some a,cap,by rw [List.length_map,hlen],by rw [List.length_map,hlen]; exact hl,hm,by rw [List.length_map,hlen]; omega,fun h0=>?_⟩;rw [List.length_map,hlen] at h0;have dK:=aO 0 (by omega)
  have ha:a=⟨a.block,a.off,none⟩:=by
   have:=FL (a:=a) (by simpa [Addr.add] using dK)
   cases a; simp at this; subst this; rfl
  refine ⟨a.block,a.off,by rw [<- ha],eH (a:=a) (by simpa [Addr.add] using dK),fun i hi=>?_⟩;rw [List.length_map,hlen] at hi;rw [<- JT ha i,aO i (by omega)];simp [List.getD,List.getElem?_eq_getElem (show i<zs.length by omega)]
end
end
section
open Go.Proofs.Ob
open Go.Proofs.Cm (Gd Gr ak ap)
attribute [local irreducible] Go.Calls Go.wpList
abbrev UI:=Int × Int × Int
abbrev SQ (T:List (List Nat)) (i:Int):Prop:=0<=i/\i<(T.length:Int)
def Ym (T:List (List Nat)) (s:UI):Int :=
 if s.1≠1/\s.1≠2 then 3 else if ¬ SQ T s.2.1 then 2 else if s.1=1/\¬ SQ T s.2.2 then 2 else 0
def rnE (T:List (List Nat)) (s:UI):List Nat:=if s.1=1 then Ma.aj (T.getD s.2.1.toNat []) (T.getD s.2.2.toNat []) else Ma.aS (T.getD s.2.1.toNat [])
def rn:List UI->List (List Nat)->Int × List (List Nat)
 | [],T=>(0,T)
 | s :: l,T=>if Ym T s≠0 then (Ym T s,T) else rn l (T++[rnE T s])
end
section
open Go.Proofs.Ob
open Go.Proofs.Cm (Tr Gr Gd Sd Qu dS Fx ap ak bT pL St)
structure En where
 b:Nat
 i:Nat
 p:Nat
 x:List Nat
 at_:Nat
 by_:Int
end
section
open Go.Proofs.Ob
attribute [local irreducible] Go.Calls
theorem Le:(Tryz.prog.info? 3).map (fun i=>(i.zero,i.size,i.bytes))=some (some (.int .i64 0),1,8):=by kernel_rfl
theorem rK (X:World) (i:Int):(Instr.buildSlice 26 1 #[(0,.int .i64 i)]).run Tryz.prog X=.ok (.slice (some ⟨X.heap.size,0,none⟩) 1 1) (X.alloc (.cells #[.int .i64 i] 3)):=by
 obtain ⟨i0,hi,cN,bs,dI⟩:=info_parts Le;refine run_buildSlice X 26 3 1 _ _ i0 _ Tryz.underlying26 hi cN (by rw [bs]; decide) (by rw [bs]; decide) ?_;generalize (fun x=>((Value.int .i64 0).cells)[x % (Value.int .i64 0).cells.size]!)=f;rw [bs];have h1:Array.range (1*1)=#[0]:=rfl;simp [Instr.fill,Value.cells,h1]
end
section
open Go.Proofs.Ob
open Go.Sort
open Go.Proofs.Cm (Gd Gr ak ap)
attribute [local irreducible] Go.Calls Go.wpList
def G5:List (List Nat):=[[1,2,3,4,0]]
end
end Go.Proofs.YtpedbljnhnoohaaGreat
