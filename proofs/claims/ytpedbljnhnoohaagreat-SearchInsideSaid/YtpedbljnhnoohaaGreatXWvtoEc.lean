/- Lemmas and contracts on the way to the statement; no condition of their own beyond those written. -/
import Derived.Test.YtpedbljnhnoohaaGreatXVntoCu
import Derived.Lib.ConvBytes
import Derived.OrdersIn
import Derived.TacticsIn
import Derived.ChangeKeysEq
import Derived.Laws.Cells
import Derived.Laws.Rows
import Derived.Laws.Tables
import Derived.Deep.WholeRow
import Derived.Deep.LoopGhost
import Derived.Lib.SlicesSearch
set_option linter.unusedVariables false
set_option linter.unusedSimpArgs false
set_option maxRecDepth 100000
set_option maxHeartbeats 8000000
variable {w W w' W' w0 X:Go.World} {n B N L j D tc base n₀ cap bytes tk:Nat} {v rv ov u xv v1 v2 u1 u2 yv tv:Go.Value} {F M F' Fk:Nat->Prop} {O gs A O':List (List Nat)} {R R':List (List (List Nat))} {ll OO dK PS:List (List Int)} {RR dL:List (List (List Int))} {H:List Nat->Prop} {d ck:Int} {q:List Nat} {xs:List Go.Value} {xl:List Int}
namespace Go.Proofs.YtpedbljnhnoohaaGreat
open Go.Proofs
section
open Go.RowKit
open Go.Proofs.Ob
open Go.Shelf
open Go.Proofs.Cm (Lv bq bP)
attribute [local go_sem] Oper.semAt_some
attribute [local irreducible] Go.Calls Go.wpList Go.wpListIn
theorem Dg (args:Array Value) (w:World):(callFunc 74 args).run Tryz.prog w=.ok (.enter 74 args) w:=by kernel_rfl
theorem yO (args:Array Value) (w:World):(callFunc 68 args).run Tryz.prog w=.ok (.enter 68 args) w:=by kernel_rfl
theorem I9 (args:Array Value) (w:World):(callFunc 69 args).run Tryz.prog w=.ok (.enter 69 args) w:=by kernel_rfl
theorem I_ (args:Array Value) (w:World):(callFunc 70 args).run Tryz.prog w=.ok (.enter 70 args) w:=by kernel_rfl
theorem Wm (args:Array Value) (w:World):(callFunc 96 args).run Tryz.prog w=.ok (.enter 96 args) w:=by kernel_rfl
theorem yP:(Tryz.prog.info? 30).map (fun i=>(i.zero,i.size,i.bytes))=some (some (.int .i64 0),1,8):=by kernel_rfl
theorem oN {o:Oper} {a:Act} (ho:o.op=.alloc 30):(execOp a.eval o).run Tryz.prog w=.ok (.value (.pointer (some ⟨w.heap.size,0,none⟩))) (w.alloc (.cells #[.int .i64 0] 30)):=by
 obtain ⟨i0,hi,cT,bz,dW⟩:=info_parts yP;unfold execOp;simp [ho,Instr.alloc,typeInfo,zeroValue,hi,cT,newVar,Value.cells,Result.andThen];rfl
theorem oO {o:Oper} {a:Act} (ho:o.op=.alloc 3):(execOp a.eval o).run Tryz.prog w=.ok (.value (.pointer (some ⟨w.heap.size,0,none⟩))) (w.alloc (.cells #[.int .i64 0] 3)):=by
 obtain ⟨i0,hi,cT,bz,dW⟩:=info_parts uY;unfold execOp;simp [ho,Instr.alloc,typeInfo,zeroValue,hi,cT,newVar,Value.cells,Result.andThen];rfl
theorem nk {o:Oper} {a:Act} (ho:o.op=.alloc 41):(execOp a.eval o).run Tryz.prog w=.ok (.value (.pointer (some ⟨w.heap.size,0,none⟩))) (w.alloc (.cells #[.slice none 0 0] 41)):=by
 obtain ⟨i0,hi,cT,bz,dW⟩:=info_parts eF;unfold execOp;simp [ho,Instr.alloc,typeInfo,zeroValue,hi,cT,newVar,Value.cells,Result.andThen];rfl
theorem bR {b o:Nat} (v:Int) (h:w.cell? ⟨b,o,none⟩=some u) (hf:w.frozen? ⟨b,o,none⟩=false) :
  (storeVar 30 ⟨b,o,none⟩ (.int .i64 v)).run Tryz.prog w=.ok () (w.setCell ⟨b,o,none⟩ (.int .i64 v)):=by
 obtain ⟨i0,hi,cT,bz,dW⟩:=info_parts yP
 have h0:(⟨b,o,none⟩:Addr).add 0=⟨b,o,none⟩:=by simp [Addr.add]
 simp [storeVar,sizeOf,typeInfo,hi,bz,Value.cells,storeCells,store,h0];simp [Sem.run,h,hf]
theorem l7 {ad:Addr} (h:w.cell? ad=some v):(loadVar 30 ad).run Tryz.prog w=.ok v w:=by
 simp [loadVar,isAgg,run_underlying Tryz.underlying30,load];simp [Sem.run,h]
theorem yQ {fn:Func} {p:Go.Tmp} (h:fn.results=#[.cell p 30]) (tmps:Array Value) {b:Nat} (hp:tmps.getD p undef=.pointer (some ⟨b,0,none⟩)) (hc:w.cell? ⟨b,0,none⟩=some v) :
  (results fn tmps).run Tryz.prog w=.ok v w:=by
 have uX:tmps[p]?.getD undef=.pointer (some ⟨b,0,none⟩):=by simpa using hp
 simp [results,h,uX,asAddr,l7 hc]
theorem aq {b:Nat} {x y z:Value} (h0:w.cell? ⟨b,0,none⟩=some x) (h1:w.cell? ⟨b,1,none⟩=some y) (h2:w.cell? ⟨b,2,none⟩=some z):(loadVar 25 ⟨b,0,none⟩).run Tryz.prog w=.ok (.agg #[x,y,z]) w:=by
 obtain ⟨i0,hi,cT,bz,dW⟩:=info_parts gZ
 have pV:(⟨b,0,none⟩:Addr).add 0=⟨b,0,none⟩:=by simp [Addr.add]
 have mX:(⟨b,0,none⟩:Addr).add 1=⟨b,1,none⟩:=by simp [Addr.add]
 have mA:(⟨b,0,none⟩:Addr).add 2=⟨b,2,none⟩:=by simp [Addr.add]
 have hg:(isAgg 25).run Tryz.prog w=.ok true w:=by kernel_rfl
 simp [loadVar,hg,sizeOf,typeInfo,hi,bz,loadCells,loadCellsFrom,load,pV,mX,mA];simp [Sem.run,h0,h1,h2]
structure CW (w:World) (b:Nat) (v:Value):Prop where
 c:w.cell? ⟨b,0,none⟩=some v
 f:w.frozen? ⟨b,0,none⟩=false
 lt:b<w.heap.size
theorem CW.jj {b:Nat} (h:CW w b v) (hb:Below w.heap.size w w'):CW w' b v:=⟨(hb.cell (p:=⟨b,0,none⟩) h.lt).trans h.c,(hb.frozen (p:=⟨b,0,none⟩) h.lt).trans h.f,Nat.lt_of_lt_of_le h.lt hb.size⟩
theorem CW.new (w:World) (v:Value) (t:TypeId):CW (w.alloc (.cells #[v] t)) w.heap.size v:=⟨by rw [Rg.aL]; rfl,cA _ _ _ 0 _,by simp⟩
theorem CW.set {b:Nat} (h:CW w b u) (v:Value):CW (w.setCell ⟨b,0,none⟩ v) b v:=⟨World.cell?_setCell_same (h:=h.c) ..,by rw [World.frozen?_setCell]; exact h.f,by simpa using h.lt⟩
theorem CW.other {b b' o:Nat} (h:CW w b u) (v:Value) (hne:b≠b'):CW (w.setCell ⟨b',o,none⟩ v) b u:=⟨by rw [World.cell?_setCell_other (h:=by intro e; injection e with e1 e2; omega) ..]; exact h.c,by rw [World.frozen?_setCell]; exact h.f,by simpa using h.lt⟩
theorem CL.other {b b' o o':Nat} (h:CL w b o' u) (v:Value) (hne:b≠b'):CL (w.setCell ⟨b',o,none⟩ v) b o' u:=⟨by rw [World.cell?_setCell_other (h:=by intro e; injection e with e1 e2; omega) ..]; exact h.cell,by simpa using h.lt⟩
theorem CW.kp {b:Nat} (h:CW w b v) (hk:Rg.Kp M w w') (hM:¬ M b):CW w' b v :=
 ⟨(World.cell?_of_block (a:=⟨b,0,none⟩) (hk.block b h.lt hM)).trans h.c,(World.frozen?_of_block (a:=⟨b,0,none⟩) (hk.block b h.lt hM)).trans h.f,Nat.lt_of_lt_of_le h.lt hk.size⟩
theorem CL.kp {b o:Nat} (h:CL w b o v) (hk:Rg.Kp M w w') (hM:¬ M b):CL w' b o v :=
 ⟨(World.cell?_of_block (a:=⟨b,o,none⟩) (hk.block b h.lt hM)).trans h.cell,Nat.lt_of_lt_of_le h.lt hk.size⟩
structure xt (w:World) (n:Int) (ov rv:Value) (W:World) (v:Value) (gs:List (List Nat)):Prop where
 cG:Below w.heap.size w W
 a0:CL W w.heap.size 0 (.int .i64 n)
 a1:CL W w.heap.size 1 ov
 a2:CL W w.heap.size 2 rv
 c2:CW W (w.heap.size+1) (.int .i64 0)
 c3:CW W (w.heap.size+2) (.int .i64 n)
 c4:CW W (w.heap.size+3) v
 row:gC (fun k=>k<w.heap.size) (w.heap.size+4) W v gs
theorem xt.jj {w:World} {n:Int} {ov rv:Value} {W W':World} {v:Value} {gs:List (List Nat)} (h:xt w n ov rv W v gs) (hb:Below W.heap.size W W'):xt w n ov rv W' v gs :=
 ⟨Rg.acc h.cG hb,h.a0.jj hb,h.a1.jj hb,h.a2.jj hb,h.c2.jj hb,h.c3.jj hb,h.c4.jj hb,h.row.jj hb⟩
theorem xt.keep {n:Int} {row:Option Nat} (h:xt w n ov rv W v gs) (hB:w.heap.size+4<=B) (hg:W.grownBy W' row) (hr:∀ r,row=some r->B<=r/\∃ o:Obj,W.heap[r]?=some o/\o.isCells=false):xt w n ov rv W' v gs:=by
 have hk:Rg.Kp (fun k=>row=some k) W W':=Rg.Kp.dc hg fun _ e=>e
 have hM:∀ b,b<B->¬ row=some b:=fun b hb e=>by have:=(hr b e).1; omega
 obtain ⟨us,h1,h2⟩:=h.row.own;refine ⟨h.cG.grown hg h.cG.size (fun k e=>by have:=(hr k e).1; omega),h.a0.kp hk (hM _ (by omega)),h.a1.kp hk (hM _ (by omega)),h.a2.kp hk (hM _ (by omega)),h.c2.kp hk (hM _ (by omega)),h.c3.kp hk (hM _ (by omega)),h.c4.kp hk (hM _ (by omega)),⟨Nat.le_trans h.row.size hk.size,us,jl h1 hk (fun k e1 e2=>?_),h2.kp hk (fun k cU=>hM k (by omega))⟩⟩;obtain ⟨_,o,ho,hc⟩:=hr k e1;obtain ⟨_,h3⟩:=h1
 rcases h3 with ⟨h4,_⟩ | ⟨g,cap,cur,h4,_,h5,_⟩
 ·rw [h4] at e2; simp [Value.ownBlock] at e2
 ·rw [h4] at e2
  simp [Value.ownBlock] at e2;subst e2;rw [h5] at ho
  cases ho; cases hc
def rowOf (RR:List (List (List Int))) {m:Nat} (x:Fin m):List (List Int):=RR.getD x.1 []
theorem CW.upto {b:Nat} (h:CW w b v) (hb:Below B w w') (hB:b<B):CW w' b v:=⟨(hb.cell (p:=⟨b,0,none⟩) hB).trans h.c,(hb.frozen (p:=⟨b,0,none⟩) hB).trans h.f,Nat.lt_of_lt_of_le h.lt hb.size⟩
theorem CL.upto {b o:Nat} (h:CL w b o v) (hb:Below B w w') (hB:b<B):CL w' b o v:=⟨(hb.cell (p:=⟨b,o,none⟩) hB).trans h.cell,Nat.lt_of_lt_of_le h.lt hb.size⟩
theorem aW.mk (h1:Rg.Rows w ov OO) (h2:g_ w rv RR):aW w ov rv OO RR:=⟨h1,h2⟩
theorem aW.upto (h:aW w ov rv OO RR) (hb:Below w.heap.size w w'):aW w' ov rv OO RR:=h.jj hb
theorem _root_.Go.Proofs.RF.eP.jj (h:RF.eP D W) (hb:Below W.heap.size W W'):RF.eP D W':=h.oL hb
theorem KK.jj {sx:World} (h:KK B n₀ W W') (hb:Below W'.heap.size W' sx):KK B n₀ W sx:=h.acc hb
theorem Mt {n m:Int} {kL lj:Value} (h1:aW w ov rv OO RR) (h2:aW w kL lj dK dL) {b:Bool} (hb:Hid (decide (n=m/\OO=dK/\RR=dL)=b)) :
  Calls Tryz.prog 96 #[.agg #[.int .i64 n,ov,rv],.agg #[.int .i64 m,kL,lj]] w fun e w'=>e=.returned (.bool b)/\Below w.heap.size w w':=by
 rw [<- hb.p]; exact Fo h1 h2
theorem xt.store {n:Int} {v':Value} {gs':List (List Nat)} (h:xt w n ov rv W v gs) (hb:Below (w.heap.size+4) W X) (hr:gC (fun k=>k<w.heap.size) (w.heap.size+4) X v' gs'):xt w n ov rv (X.setCell ⟨w.heap.size+3,0,none⟩ v') v' gs':=by
 have hk:Rg.Kp (fun z=>z=w.heap.size+3) X (X.setCell ⟨w.heap.size+3,0,none⟩ v'):=Rg.Kp.aO rfl;obtain ⟨us,q1,q2⟩:=hr.own;refine ⟨(h.cG.trans (hb.mono (by omega))).setCell (p:=⟨w.heap.size+3,0,none⟩) (by show w.heap.size<=w.heap.size+3; omega) _,(h.a0.upto hb (by omega)).other _ (by omega),(h.a1.upto hb (by omega)).other _ (by omega),(h.a2.upto hb (by omega)).other _ (by omega),(h.c2.upto hb (by omega)).other _ (by omega),(h.c3.upto hb (by omega)).other _ (by omega),(h.c4.upto hb (by omega)).set _,⟨Nat.le_trans hr.size hk.size,us,jl q1 hk (fun k e1 e2=>by have:=(q1.lt k e2).1; omega),q2.kp hk (fun k cU e=>by omega)⟩⟩
theorem KK.row {W1:World} {B2:Nat} (h:KK B n₀ W W1) (hk:Rg.Kp (fun k=>v.ownBlock=some k) W1 X) (hr:gC F B2 W1 v gs) (hn:n₀<=B2):KK B n₀ W X:=by
 obtain ⟨us,q1,q2⟩:=hr.own
 have S4:∀ j o,v.ownBlock=some j->W1.heap[j]?=some o->o.isCells=true:=fun j o e1 e2=>by
  obtain ⟨_,h3⟩:=q1
  rcases h3 with ⟨h4,_⟩ | ⟨g,cap,cur,h4,_,h5,_⟩
  ·rw [h4] at e1; simp [Value.ownBlock] at e1
  ·rw [h4] at e1
   simp [Value.ownBlock] at e1;subst e1;rw [h5] at e2
   cases e2; rfl
 refine ⟨h.keeps.trans ⟨hk.size,fun k o _ cU ho=>(hk.block k (Array.getElem?_eq_some_iff.1 cU).1 (fun e=>by rw [S4 k o e cU] at ho; cases ho)).trans cU⟩,h.cG.trans ⟨hk.os,hk.tape,hk.output,hk.size,fun k cU=>hk.block k (by have:=h.cG.size; have:=h.le; omega) (fun e=>by have:=(q1.lt k e).1; omega)⟩,h.le⟩
theorem Ft:(dX RR.length RR.length).flatMap (rowOf RR)=RR.flatten:=by
 rw [yJ];rw [List.flatMap_def]
 congr 1
 refine List.ext_getElem (by simp) fun i h1 h2=>?_;simp only [List.getElem_map,List.getElem_finRange];exact df h2
def KP (n:Int) (OO:List (List Int)) (RR:List (List (List Int))) (w:World) (e:Ending) (w':World):Prop:=∃ c,e=.returned (.int .i64 c)/\oM n OO RR c/\Below w.heap.size w w'
theorem kl {n:Int} {tmps:Array Value} {c:Int} {ds:List Nat} (hb:Below w.heap.size w W) (hc:CW W (w.heap.size+1) (.int .i64 c)) (hC:oM n OO RR c) (hp:tmps.getD 2 undef=.pointer (some ⟨w.heap.size+1,0,none⟩)) (hnd:ds.Nodup) (hD:∀ D,D∈ds->RF.eP D W/\w.heap.size<=D) :
  LeavesInM Fence.wide 0 Tryz.prog Tryz.f73 tmps (KP n OO RR w) (ds.map RF.mark) .returning W :=
 RF.leaves w.heap.size ds W hnd hD fun _ l1 l2 _=>⟨_,yQ rfl _ hp ((l2 _).trans hc.c),c,rfl,hC,hb.trans l1⟩
theorem Dh {n:Int} (h:aW w ov rv OO RR) :
  Calls Tryz.prog 73 #[.agg #[.int .i64 n,ov,rv]] w (KP n OO RR w):=by
 obtain ⟨oa,oc,rfl,_,Wn,_,_⟩:=h.1.shape;obtain ⟨ra,rc,rfl⟩:=h.2.shape;have HO:=U h.1;have HR:=U h.2;have K:=U (Below.refl w.heap.size w)
 have hrL:RR.length<=1000000000:=by
  obtain ⟨us,⟨a,c,e,_,_,e2,_⟩,h2,_⟩:=h.2;unfold Rg.xe at e2;omega
 have H:=U h;clear h;refine RF.fV Tryz.func73 rfl ?_;simp only [Tryz.ntmps73,List.size_toArray,List.length_cons,List.length_nil,Nat.reduceAdd,Nat.reduceSub,Array.replicate_succ,Array.replicate_zero,List.push_toArray,List.append_toArray,List.nil_append,List.cons_append];have aF:=eY w (.int .i64 n) (.slice oa OO.length oc) (.slice ra RR.length rc)
 have hs:(w.alloc (.cells #[.int .i64 n,.slice oa OO.length oc,.slice ra RR.length rc] 25)).heap.size=w.heap.size+1:=by simp
 go_upto_region 0 with (fail);refine c6 ?_;refine d4 1 (Rg.aY _ _ rfl rfl) ?_;go_frame;have hb:Below w.heap.size w (w.alloc (.cells #[.int .i64 n,.slice oa OO.length oc,.slice ra RR.length rc] 25)):=(Below.refl _ _).alloc (Nat.le_refl _) _;generalize w.alloc (.cells #[.int .i64 n,.slice oa OO.length oc,.slice ra RR.length rc] 25)=w1 at *;have A0:=U aF.1;have A1:=U aF.2.1;have A2:=U aF.2.2;replace K:=U hb;have lD:w1.heap.size=w.heap.size+1:=hs;clear aF hb hs;have bX:=CW.new w1 (.int .i64 0) 30
 have hs:(w1.alloc (.cells #[.int .i64 0] 30)).heap.size=w1.heap.size+1:=by simp
 refine d4 2 (oN rfl) ?_;go_frame;have hb:=(Below.refl w1.heap.size w1).alloc (Nat.le_refl _) (.cells #[.int .i64 0] 30);generalize w1.alloc (.cells #[.int .i64 0] 30)=w2 at *;replace A0:=U (A0.p.jj hb);replace A1:=U (A1.p.jj hb);replace A2:=U (A2.p.jj hb);replace K:=U (Rg.acc K.p hb);clear hb;rw [lD] at bX ⊢
 have iY:w2.heap.size=w.heap.size+2:=by omega
 have C2:=U bX;clear bX hs;go_upto_region 1 with (fail);refine c6 ?_;refine d4 9 (ag _ rfl rfl (fF _ _)) ?_;go_frame;refine d4 10 (g9 (.int .i64 n) ⟨w.heap.size,0,none⟩ (ah A0.p.cell)) ?_;go_frame;have bX:=CW.new w2 (.int .i64 0) 3
 have hs:(w2.alloc (.cells #[.int .i64 0] 3)).heap.size=w2.heap.size+1:=by simp
 refine d4 3 (oO rfl) ?_;go_frame;have hb:=(Below.refl w2.heap.size w2).alloc (Nat.le_refl _) (.cells #[.int .i64 0] 3);generalize w2.alloc (.cells #[.int .i64 0] 3)=w3 at *;replace A0:=U (A0.p.jj hb);replace A1:=U (A1.p.jj hb);replace A2:=U (A2.p.jj hb);replace C2:=U (C2.p.jj hb);replace K:=U (Rg.acc K.p hb);clear hb;rw [iY] at bX ⊢
 have xu:w3.heap.size=w.heap.size+3:=by omega
 have C3:=U bX;clear bX hs;refine Rg.aA none rfl rfl (Rg.ai _ _ _ rfl _ rfl _ rfl (cy n C3.p.c C3.p.f)) ?_;go_frame;have hk:=K.p.setCell (p:=⟨w.heap.size+2,0,none⟩) (by show w.heap.size<=w.heap.size+2; omega) (.int .i64 n);have x0:=A0.p.other (o:=0) (b':=w.heap.size+2) (.int .i64 n) (by omega);have x1:=A1.p.other (o:=0) (b':=w.heap.size+2) (.int .i64 n) (by omega);have x2:=A2.p.other (o:=0) (b':=w.heap.size+2) (.int .i64 n) (by omega);have y2:=C2.p.other (o:=0) (b':=w.heap.size+2) (.int .i64 n) (by omega);have y3:=C3.p.set (.int .i64 n)
 have Mu:(w3.setCell ⟨w.heap.size+2,0,none⟩ (.int .i64 n)).heap.size=w.heap.size+3:=by simp; omega
 generalize w3.setCell ⟨w.heap.size+2,0,none⟩ (.int .i64 n)=w9 at *;replace K:=U hk;replace A0:=U x0;replace A1:=U x1;replace A2:=U x2;replace C2:=U y2;replace C3:=U y3;clear hk x0 x1 x2 y2 y3
 by_cases dy:n<1
 ·skip
  go_upto_region 2 with (fail);refine c6 ?_;refine d4 11 (g9 (.int .i64 n) ⟨(w.heap.size+2),0,none⟩ (ah C3.p.c)) ?_;go_frame;refine d4 12 (i3 (.bool true) .lss (h:=bj _ f9)) ?_;go_frame;refine d5 13 (.bool true) ?_;go_frame;refine g8 14 ?_;go_frame;refine g8 15 ?_;go_frame;refine d4 16 (i6 (.bool true)) ?_;go_frame;go_upto_region 3 with (fail);refine c6 ?_;refine Rg.aA none rfl rfl (Rg.ai _ _ _ rfl _ rfl _ rfl (bR 2 C2.p.c C2.p.f)) ?_;go_frame;have hk:=K.p.setCell (p:=⟨w.heap.size+1,0,none⟩) (by show w.heap.size<=w.heap.size+1; omega) (.int .i64 2);have y2:=C2.p.set (.int .i64 2);generalize w9.setCell ⟨w.heap.size+1,0,none⟩ (.int .i64 2)=ep at *;have KX:=U hk;have CX:=U y2;have yR:=U (show oM n OO RR 2 from .inl ⟨by omega,rfl⟩);clear hk y2;go_wp2;exact kl (ds:=[]) KX.p CX.p yR.p rfl (by simp) (fun D hD=>by simp at hD)
 by_cases nr:64<n
 ·skip
  go_upto_region 2 with (fail);refine c6 ?_;refine d4 11 (g9 (.int .i64 n) ⟨(w.heap.size+2),0,none⟩ (ah C3.p.c)) ?_;go_frame;refine d4 12 (i3 (.bool false) .lss (h:=bj _ g7)) ?_;go_frame;refine d5 13 (.bool false) ?_;go_frame;refine d9 14 (g9 (.int .i64 n) ⟨(w.heap.size+2),0,none⟩ (ah C3.p.c)) ?_;go_frame;refine d9 15 (i3 (.bool true) .gtr (h:=fD _ f9)) ?_;go_frame;refine d4 16 (i5 (.bool true)) ?_;go_frame;go_upto_region 3 with (fail);refine c6 ?_;refine Rg.aA none rfl rfl (Rg.ai _ _ _ rfl _ rfl _ rfl (bR 2 C2.p.c C2.p.f)) ?_;go_frame;have hk:=K.p.setCell (p:=⟨w.heap.size+1,0,none⟩) (by show w.heap.size<=w.heap.size+1; omega) (.int .i64 2);have y2:=C2.p.set (.int .i64 2);generalize w9.setCell ⟨w.heap.size+1,0,none⟩ (.int .i64 2)=ep at *;have KX:=U hk;have CX:=U y2
  have yR:=U (show oM n OO RR 2 from .inl ⟨by omega,rfl⟩);clear hk y2;go_wp2;exact kl (ds:=[]) KX.p CX.p yR.p rfl (by simp) (fun D hD=>by simp at hD)
 go_upto_region 2 with (fail);refine c6 ?_;refine d4 11 (g9 (.int .i64 n) ⟨(w.heap.size+2),0,none⟩ (ah C3.p.c)) ?_;go_frame;refine d4 12 (i3 (.bool false) .lss (h:=bj _ g7)) ?_;go_frame;refine d5 13 (.bool false) ?_;go_frame;refine d9 14 (g9 (.int .i64 n) ⟨(w.heap.size+2),0,none⟩ (ah C3.p.c)) ?_;go_frame;refine d9 15 (i3 (.bool false) .gtr (h:=fD _ g7)) ?_;go_frame;refine d4 16 (i5 (.bool false)) ?_;go_frame
 by_cases lC:(OO.length:Int)=n
 case neg =>
  skip
  go_upto_region 4 with (fail);refine c6 ?_;refine d4 17 (ag _ rfl rfl (iZ _ _)) ?_;go_frame;refine d4 18 (g9 (.slice oa OO.length oc) ⟨w.heap.size,1,none⟩ (Rg.ae _ _ Tryz.underlying22 A1.p.cell)) ?_;go_frame;refine d4 19 (i4 Tryz.underlying22) ?_;go_frame;refine d4 20 (g9 (.int .i64 n) ⟨(w.heap.size+2),0,none⟩ (ah C3.p.c)) ?_;go_frame;refine d4 21 (i3 (.bool true) .neq (h:=aQ _ f9)) ?_;go_frame;refine d5 22 (.bool true) ?_;go_frame;refine g8 23 ?_;go_frame;refine g8 24 ?_;go_frame;refine g8 25 ?_;go_frame;refine g8 26 ?_;go_frame;refine g8 27 ?_;go_frame;refine d4 28 (i6 (.bool true)) ?_;go_frame;go_upto_region 5 with (fail);refine c6 ?_;refine Rg.aA none rfl rfl (Rg.ai _ _ _ rfl _ rfl _ rfl (bR 3 C2.p.c C2.p.f)) ?_;go_frame;have hk:=K.p.setCell (p:=⟨w.heap.size+1,0,none⟩) (by show w.heap.size<=w.heap.size+1; omega) (.int .i64 3)
  have y2:=C2.p.set (.int .i64 3);generalize w9.setCell ⟨w.heap.size+1,0,none⟩ (.int .i64 3)=ep at *;have KX:=U hk;have CX:=U y2;have yR:=U (show oM n OO RR 3 from .inr ⟨by omega,.inr ⟨fun hh=>lC hh.lens.1,rfl⟩⟩);clear hk y2;go_wp2;exact kl (ds:=[]) KX.p CX.p yR.p rfl (by simp) (fun D hD=>by simp at hD)
 by_cases rX:(RR.length:Int)=n
 case neg =>
  skip
  go_upto_region 4 with (fail);refine c6 ?_;refine d4 17 (ag _ rfl rfl (iZ _ _)) ?_;go_frame;refine d4 18 (g9 (.slice oa OO.length oc) ⟨w.heap.size,1,none⟩ (Rg.ae _ _ Tryz.underlying22 A1.p.cell)) ?_;go_frame;refine d4 19 (i4 Tryz.underlying22) ?_;go_frame;refine d4 20 (g9 (.int .i64 n) ⟨(w.heap.size+2),0,none⟩ (ah C3.p.c)) ?_;go_frame;refine d4 21 (i3 (.bool false) .neq (h:=aQ _ g7)) ?_;go_frame;refine d5 22 (.bool false) ?_;go_frame;refine d9 23 (ag _ rfl rfl (yA _ _)) ?_;go_frame;refine d9 24 (g9 (.slice ra RR.length rc) ⟨w.heap.size,2,none⟩ (Rg.ae _ _ Tryz.underlying23 A2.p.cell)) ?_;go_frame;refine d9 25 (i4 Tryz.underlying23) ?_;go_frame;refine d9 26 (g9 (.int .i64 n) ⟨(w.heap.size+2),0,none⟩ (ah C3.p.c)) ?_;go_frame;refine d9 27 (i3 (.bool true) .neq (h:=aQ _ f9)) ?_;go_frame
  refine d4 28 (i5 (.bool true)) ?_;go_frame;go_upto_region 5 with (fail);refine c6 ?_;refine Rg.aA none rfl rfl (Rg.ai _ _ _ rfl _ rfl _ rfl (bR 3 C2.p.c C2.p.f)) ?_;go_frame;have hk:=K.p.setCell (p:=⟨w.heap.size+1,0,none⟩) (by show w.heap.size<=w.heap.size+1; omega) (.int .i64 3);have y2:=C2.p.set (.int .i64 3);generalize w9.setCell ⟨w.heap.size+1,0,none⟩ (.int .i64 3)=ep at *;have KX:=U hk;have CX:=U y2;have yR:=U (show oM n OO RR 3 from .inr ⟨by omega,.inr ⟨fun hh=>rX hh.lens.2,rfl⟩⟩);clear hk y2;go_wp2;exact kl (ds:=[]) KX.p CX.p yR.p rfl (by simp) (fun D hD=>by simp at hD)
 go_upto_region 4 with (fail);refine c6 ?_;refine d4 17 (ag _ rfl rfl (iZ _ _)) ?_;go_frame;refine d4 18 (g9 (.slice oa OO.length oc) ⟨w.heap.size,1,none⟩ (Rg.ae _ _ Tryz.underlying22 A1.p.cell)) ?_;go_frame;refine d4 19 (i4 Tryz.underlying22) ?_;go_frame;refine d4 20 (g9 (.int .i64 n) ⟨(w.heap.size+2),0,none⟩ (ah C3.p.c)) ?_;go_frame;refine d4 21 (i3 (.bool false) .neq (h:=aQ _ g7)) ?_;go_frame;refine d5 22 (.bool false) ?_;go_frame;refine d9 23 (ag _ rfl rfl (yA _ _)) ?_;go_frame;refine d9 24 (g9 (.slice ra RR.length rc) ⟨w.heap.size,2,none⟩ (Rg.ae _ _ Tryz.underlying23 A2.p.cell)) ?_;go_frame;refine d9 25 (i4 Tryz.underlying23) ?_;go_frame;refine d9 26 (g9 (.int .i64 n) ⟨(w.heap.size+2),0,none⟩ (ah C3.p.c)) ?_;go_frame;refine d9 27 (i3 (.bool false) .neq (h:=aQ _ g7)) ?_;go_frame
 refine d4 28 (i5 (.bool false)) ?_;go_frame;obtain ⟨N,rfl⟩:∃ N:Nat,n=N:=⟨n.toNat,by omega⟩
 have fL:1<=N:=by omega
 have Ax:N<=64:=by omega
 have Mv:=U (show OO.length=N by omega);have qp:=U (show RR.length=N by omega);clear lC rX dy nr;go_upto_region 6 with (fail);refine c6 ?_;have bX:=CW.new w9 (.slice none 0 0) 41
 have hs:(w9.alloc (.cells #[.slice none 0 0] 41)).heap.size=w9.heap.size+1:=by simp
 refine d4 4 (nk rfl) ?_;go_frame;have hb:=(Below.refl w9.heap.size w9).alloc (Nat.le_refl _) (.cells #[.slice none 0 0] 41);generalize w9.alloc (.cells #[.slice none 0 0] 41)=Ja at *;replace A0:=U (A0.p.jj hb);replace A1:=U (A1.p.jj hb);replace A2:=U (A2.p.jj hb);replace C2:=U (C2.p.jj hb);replace C3:=U (C3.p.jj hb);replace K:=U (Rg.acc K.p hb);clear hb;rw [Mu] at bX ⊢
 have Zy:Ja.heap.size=w.heap.size+4:=by omega
 have C4:=U bX;clear bX hs;have CI:=U (show xt w ((N:Nat):Int) (.slice oa OO.length oc) (.slice ra RR.length rc) Ja (.slice none 0 0) [] from ⟨K.p,A0.p,A1.p,A2.p,C2.p,C3.p,C4.p,gC.nil _ (by omega)⟩);have yS:=U Zy;clear A0 A1 A2 C2 C3 C4 lD iY xu Mu Zy;go_upto_region 7 with (fail);refine c6 ?_;refine d4 29 (g9 ((.agg #[.int .i64 ((N:Nat):Int),.slice oa OO.length oc,.slice ra RR.length rc])) ⟨w.heap.size,0,none⟩ (aq CI.p.a0.cell CI.p.a1.cell CI.p.a2.cell)) ?_;go_frame;refine f8 30 (aE 74 _ _ rfl rfl (Dg _ _)) ?_;refine (qX _ _ _ Ja).mono ?_;rintro e1 eh ⟨fb,rfl,lI,hb⟩;have eS:=hb.size;refine ⟨_,rfl,?_⟩;go_frame;replace CI:=U (CI.p.jj hb);replace K:=U (Rg.acc K.p hb);clear hb;have FB:=U lI;clear lI;have kM:=U (show w.heap.size+4<=eh.heap.size by have:=yS.p; omega)
 clear eS;obtain ⟨us,rW,tR,yT⟩:=HR.p;have Jb:=U yT
 have yU:Aw w.heap.size eh ra RR.length (fun k=>us[k]?.getD undef):=by
  obtain ⟨a',c',e,q1,q2,q3,q4⟩:=rW
  injection e with e1 e2 e3
  refine ⟨by omega,fun h0=>?_,fun b off e5 j hj=>?_,K.p.size⟩
  ·obtain ⟨b,o,e4,e5,_⟩:=q4 (by omega)
   exact ⟨b,o,e1.trans e4,e5⟩
  ·obtain ⟨b',o',e4,e6,e7⟩:=q4 (by omega)
   rw [e1,e4] at e5;simp only [Option.some.injEq,Addr.mk.injEq,and_true] at e5;obtain ⟨rfl,rfl⟩:=e5;rw [(K.p.cell (p:=⟨b',o'+j,none⟩) e6)];show _=some (us[j]?.getD undef);rw [List.getElem?_eq_getElem (by omega)];exact e7 j (by omega)
 have sD:=U yU;have sF:=U tR;clear rW yU tR yT;go_wp2
 refine wR rfl FB.p sD.p rfl (fun pre W=>∃ v gs,xt w ((N:Nat):Int) (.slice oa OO.length oc) (.slice ra RR.length rc) W v gs/\gs.map Ma.af=pre.flatMap (rowOf RR)/\(∀ g∈gs,Cm.Gd N g)/\gs.length<=64*pre.length)
  (fun c pre W=>c=.ret/\Below w.heap.size w W/\CW W (w.heap.size+1) (.int .i64 3)/\¬ hZ ((N:Nat):Int) OO RR) ?hI ?hIx ⟨_,[],CI.p,rfl,fun g hg=>by simp at hg,Nat.zero_le _⟩ ?a1 ?assign ?body ?done ?stop
 case assign =>
  intro l x W K hK
  gi_wp2
  exact hK
 case hI =>
  rintro pre W W' row ⟨v,gs,h1,h2⟩ hg hr;exact ⟨v,gs,h1.keep (by have:=kM.p; omega) hg hr,h2⟩
 case hIx =>
  rintro c pre W W' row ⟨rfl,h1,h2,h3⟩ hg hr;exact ⟨rfl,h1.grown hg h1.size (fun k e=>by have:=(hr k e).1; have:=kM.p; omega),h2.kp (Rg.Kp.dc hg (M:=fun k=>row=some k) fun _ e=>e) (fun e=>by have:=(hr _ e).1; have:=kM.p; omega),h3⟩
 case body =>
  rintro l pre ⟨X,hX⟩ W ⟨v,gs,yV,xw,r_,iy⟩ Wo;obtain ⟨B,hB⟩:∃ B,eh.heap.size=B:=⟨_,rfl⟩;rw [hB] at kM ⊢;clear FB sD CI K hB;have CI:=U yV;have K:=U yV.cG;have KQ:=U (KK.refl (B:=B) (n₀:=w.heap.size) (W:=W) yV.cG.size);have Pm:=U xw;have vH:=U r_
  have Zz:=U (show gs.length<=64*64 by
   have:pre.length<64:=by have:=qp.p; omega
   omega)
  have qq:=U hX;have ZA:=U iy;have sG:=U (show X<OO.length by have:=Mv.p; have:=qp.p; omega);clear yV xw r_ iy;have hu:=Jb.p X (by rw [sF.p]; exact hX) hX
  have e1:us[X]?.getD undef=us[X]'(by rw [sF.p]; exact hX):=by rw [List.getElem?_eq_getElem (by rw [sF.p]; exact hX)]; rfl
  rw [<- e1] at hu
  dsimp only
  generalize us[X]?.getD undef=u at *;clear e1;obtain ⟨r,hr⟩:∃ r:List (List Int),Hid (RR[X]'hX=r):=⟨_,U rfl⟩
  replace hu:Rg.Rows w u r:=by rw [<- hr.p]; exact hu
  obtain ⟨ua,uc,rfl,_,oP,_,yX⟩:=hu.shape;have Pn:=U yX;obtain ⟨o',VU⟩:∃ o:List Int,Hid (OO[X]'sG.p=o):=⟨_,U rfl⟩;have ry:=HO.p.shape;obtain ⟨xx,vI,e2,_,_,_,ry⟩:=ry
  injection e2 with e3 _ e5
  subst e3 e5;obtain ⟨ob,oo,rfl,Cv,ry⟩:=ry (by have:=sG.p; omega);obtain ⟨yv,Mw,Di⟩:=ry X sG.p;rw [show OO[X]=o' from VU.p] at Di;obtain ⟨ya,yc,rfl,_⟩:=Di.shape;have CO:=U (CL.mk Mw Cv);clear yX ry Mw Di Cv hu
  by_cases SU:(r.length:Int)=(o'.length:Int)
  case neg =>
   skip
   gi_upto_region 10 with (fail)
   refine wpIn_region_list ?_;refine Rg.ax (some 33) rfl rfl (fun _ hh=>by cases hh) (a7 (.slice ua r.length uc) _ rfl rfl) ?_;go_frame;refine Rg.ax (some 34) rfl rfl (fun _ hh=>by cases hh) (i4 Tryz.underlying41) ?_;go_frame;refine Rg.ax (some 35) rfl rfl (fun _ hh=>by cases hh) (ag _ rfl rfl (iZ _ _)) ?_;go_frame;refine Rg.ax (some 36) rfl rfl (fun _ hh=>by cases hh) (g9 (.slice (some ⟨ob,oo,none⟩) OO.length oc) ⟨w.heap.size,1,none⟩ (Rg.ae _ _ Tryz.underlying22 CI.p.a1.cell)) ?_;go_frame;refine Rg.ax (some 37) rfl rfl (fun _ hh=>by cases hh) (a7 (.int .i64 ((X:Nat):Int)) _ rfl rfl) ?_;go_frame;refine Rg.ax (some 38) rfl rfl (fun _ hh=>by cases hh) (aD ef _ _ rfl ob (oo) (OO.length) oc (X) rfl rfl sG.p) ?_;go_frame;refine Rg.ax (some 39) rfl rfl (fun _ hh=>by cases hh) (g9 (.slice ya o'.length yc) ⟨ob,oo+X,none⟩ (Rg.ae _ _ Tryz.underlying26 ((Below.cell (p:=⟨ob,oo+X,none⟩) K.p CO.p.lt).trans CO.p.cell))) ?_;go_frame
   refine Rg.ax (some 40) rfl rfl (fun _ hh=>by cases hh) (i4 Tryz.underlying26) ?_;go_frame;refine Rg.ax (some 41) rfl rfl (fun _ hh=>by cases hh) (i3 (.bool true) .neq (h:=aQ _ f9)) ?_;go_frame;refine Rg.ax (some 42) rfl rfl (fun _ hh=>by cases hh) (a7 (.bool true) _ rfl rfl) ?_;go_frame;refine Rg.iC (some 43) (by kernel_rfl) rfl ?_;go_frame;refine Rg.iC (some 44) (by kernel_rfl) rfl ?_;go_frame;refine Rg.iC (some 45) (by kernel_rfl) rfl ?_;go_frame;refine Rg.iC (some 46) (by kernel_rfl) rfl ?_;go_frame;refine Rg.iC (some 47) (by kernel_rfl) rfl ?_;go_frame;refine Rg.iC (some 48) (by kernel_rfl) rfl ?_;go_frame;refine Rg.ax (some 49) rfl rfl (fun _ hh=>by cases hh) (i6 (.bool true)) ?_;go_frame
   gi_upto_region 11 with (fail)
   refine wpIn_region_list ?_;refine Rg.fH none rfl rfl (fun _ hh=>by cases hh) (Rg.ai _ _ _ rfl _ rfl _ rfl (bR 3 CI.p.c2.c CI.p.c2.f)) ?_;go_frame;have hk:=K.p.setCell (p:=⟨w.heap.size+1,0,none⟩) (by show w.heap.size<=w.heap.size+1; omega) (.int .i64 3);have y2:=CI.p.c2.set (.int .i64 3);have hq:=KQ.p.set (b:=w.heap.size+1) (o:=0) (.int .i64 3) (by omega);generalize W.setCell ⟨w.heap.size+1,0,none⟩ (.int .i64 3)=ep at *;have KX:=U hk;have CX:=U y2;have QX:=U hq;have Jc:=U (show ¬ hZ ((N:Nat):Int) OO RR from fun hh=>by have:=(hh.row qq.p sG.p).1; rw [show RR[X]=r from hr.p,show OO[X]=o' from VU.p] at this; omega);clear hk y2 hq
   gi_wp2
   exact ⟨QX.p.keeps,rfl,KX.p,CX.p,Jc.p⟩
  by_cases rr:(N:Int) - (X:Int)<(r.length:Int)
  case pos =>
   skip
   gi_upto_region 10 with (fail)
   refine wpIn_region_list ?_;refine Rg.ax (some 33) rfl rfl (fun _ hh=>by cases hh) (a7 (.slice ua r.length uc) _ rfl rfl) ?_;go_frame;refine Rg.ax (some 34) rfl rfl (fun _ hh=>by cases hh) (i4 Tryz.underlying41) ?_;go_frame;refine Rg.ax (some 35) rfl rfl (fun _ hh=>by cases hh) (ag _ rfl rfl (iZ _ _)) ?_;go_frame;refine Rg.ax (some 36) rfl rfl (fun _ hh=>by cases hh) (g9 (.slice (some ⟨ob,oo,none⟩) OO.length oc) ⟨w.heap.size,1,none⟩ (Rg.ae _ _ Tryz.underlying22 CI.p.a1.cell)) ?_;go_frame;refine Rg.ax (some 37) rfl rfl (fun _ hh=>by cases hh) (a7 (.int .i64 ((X:Nat):Int)) _ rfl rfl) ?_;go_frame;refine Rg.ax (some 38) rfl rfl (fun _ hh=>by cases hh) (aD ef _ _ rfl ob (oo) (OO.length) oc (X) rfl rfl sG.p) ?_;go_frame;refine Rg.ax (some 39) rfl rfl (fun _ hh=>by cases hh) (g9 (.slice ya o'.length yc) ⟨ob,oo+X,none⟩ (Rg.ae _ _ Tryz.underlying26 ((Below.cell (p:=⟨ob,oo+X,none⟩) K.p CO.p.lt).trans CO.p.cell))) ?_;go_frame
   refine Rg.ax (some 40) rfl rfl (fun _ hh=>by cases hh) (i4 Tryz.underlying26) ?_;go_frame;refine Rg.ax (some 41) rfl rfl (fun _ hh=>by cases hh) (i3 (.bool false) .neq (h:=aQ _ g7)) ?_;go_frame;refine Rg.ax (some 42) rfl rfl (fun _ hh=>by cases hh) (a7 (.bool false) _ rfl rfl) ?_;go_frame;refine Rg.ew (some 43) rfl rfl (fun _ hh=>by cases hh) (a7 (.slice ua r.length uc) _ rfl rfl) ?_;go_frame;refine Rg.ew (some 44) rfl rfl (fun _ hh=>by cases hh) (i4 Tryz.underlying41) ?_;go_frame;refine Rg.ew (some 45) rfl rfl (fun _ hh=>by cases hh) (g9 (.int .i64 ((N:Nat):Int)) ⟨(w.heap.size+2),0,none⟩ (ah CI.p.c3.c)) ?_;go_frame;refine Rg.ew (some 46) rfl rfl (fun _ hh=>by cases hh) (a7 (.int .i64 ((X:Nat):Int)) _ rfl rfl) ?_;go_frame;refine Rg.ew (some 47) rfl rfl (fun _ hh=>by cases hh) (i3 (.int .i64 ((N:Int) - (X:Int))) .sub (h:=lU _ (by omega) (by omega))) ?_;go_frame
   refine Rg.ew (some 48) rfl rfl (fun _ hh=>by cases hh) (i3 (.bool true) .gtr (h:=fD _ f9)) ?_;go_frame;refine Rg.ax (some 49) rfl rfl (fun _ hh=>by cases hh) (i5 (.bool true)) ?_;go_frame
   gi_upto_region 11 with (fail)
   refine wpIn_region_list ?_;refine Rg.fH none rfl rfl (fun _ hh=>by cases hh) (Rg.ai _ _ _ rfl _ rfl _ rfl (bR 3 CI.p.c2.c CI.p.c2.f)) ?_;go_frame;have hk:=K.p.setCell (p:=⟨w.heap.size+1,0,none⟩) (by show w.heap.size<=w.heap.size+1; omega) (.int .i64 3);have y2:=CI.p.c2.set (.int .i64 3);have hq:=KQ.p.set (b:=w.heap.size+1) (o:=0) (.int .i64 3) (by omega);generalize W.setCell ⟨w.heap.size+1,0,none⟩ (.int .i64 3)=ep at *;have KX:=U hk;have CX:=U y2;have QX:=U hq;have Jc:=U (show ¬ hZ ((N:Nat):Int) OO RR from fun hh=>by have:=(hh.row qq.p sG.p).2; rw [show RR[X]=r from hr.p] at this; omega);clear hk y2 hq
   gi_wp2
   exact ⟨QX.p.keeps,rfl,KX.p,CX.p,Jc.p⟩
  gi_upto_region 10 with (fail)
  refine wpIn_region_list ?_;refine Rg.ax (some 33) rfl rfl (fun _ hh=>by cases hh) (a7 (.slice ua r.length uc) _ rfl rfl) ?_;go_frame;refine Rg.ax (some 34) rfl rfl (fun _ hh=>by cases hh) (i4 Tryz.underlying41) ?_;go_frame;refine Rg.ax (some 35) rfl rfl (fun _ hh=>by cases hh) (ag _ rfl rfl (iZ _ _)) ?_;go_frame;refine Rg.ax (some 36) rfl rfl (fun _ hh=>by cases hh) (g9 (.slice (some ⟨ob,oo,none⟩) OO.length oc) ⟨w.heap.size,1,none⟩ (Rg.ae _ _ Tryz.underlying22 CI.p.a1.cell)) ?_;go_frame;refine Rg.ax (some 37) rfl rfl (fun _ hh=>by cases hh) (a7 (.int .i64 ((X:Nat):Int)) _ rfl rfl) ?_;go_frame;refine Rg.ax (some 38) rfl rfl (fun _ hh=>by cases hh) (aD ef _ _ rfl ob (oo) (OO.length) oc (X) rfl rfl sG.p) ?_;go_frame;refine Rg.ax (some 39) rfl rfl (fun _ hh=>by cases hh) (g9 (.slice ya o'.length yc) ⟨ob,oo+X,none⟩ (Rg.ae _ _ Tryz.underlying26 ((Below.cell (p:=⟨ob,oo+X,none⟩) K.p CO.p.lt).trans CO.p.cell))) ?_;go_frame
  refine Rg.ax (some 40) rfl rfl (fun _ hh=>by cases hh) (i4 Tryz.underlying26) ?_;go_frame;refine Rg.ax (some 41) rfl rfl (fun _ hh=>by cases hh) (i3 (.bool false) .neq (h:=aQ _ g7)) ?_;go_frame;refine Rg.ax (some 42) rfl rfl (fun _ hh=>by cases hh) (a7 (.bool false) _ rfl rfl) ?_;go_frame;refine Rg.ew (some 43) rfl rfl (fun _ hh=>by cases hh) (a7 (.slice ua r.length uc) _ rfl rfl) ?_;go_frame;refine Rg.ew (some 44) rfl rfl (fun _ hh=>by cases hh) (i4 Tryz.underlying41) ?_;go_frame;refine Rg.ew (some 45) rfl rfl (fun _ hh=>by cases hh) (g9 (.int .i64 ((N:Nat):Int)) ⟨(w.heap.size+2),0,none⟩ (ah CI.p.c3.c)) ?_;go_frame;refine Rg.ew (some 46) rfl rfl (fun _ hh=>by cases hh) (a7 (.int .i64 ((X:Nat):Int)) _ rfl rfl) ?_;go_frame;refine Rg.ew (some 47) rfl rfl (fun _ hh=>by cases hh) (i3 (.int .i64 ((N:Int) - (X:Int))) .sub (h:=lU _ (by omega) (by omega))) ?_;go_frame
  refine Rg.ew (some 48) rfl rfl (fun _ hh=>by cases hh) (i3 (.bool false) .gtr (h:=fD _ g7)) ?_;go_frame;refine Rg.ax (some 49) rfl rfl (fun _ hh=>by cases hh) (i5 (.bool false)) ?_;go_frame;have vJ:=U (show gs.map Ma.af=gs.map Ma.af++r.take 0 by simp);have sr:=U (show gs.length<=gs.length+0 from Nat.le_refl _)
  gi_wp2
  gi_loopw [52] (fun jv wr=>∃ (j:Nat) (v:Value) (gs':List (List Nat)),jv=.int .i64 j/\j<=r.length/\Hid (xt w ((N:Nat):Int) (.slice (some ⟨ob,oo,none⟩) OO.length oc) (.slice ra RR.length rc) wr v gs')/\Hid (KK B w.heap.size W wr)/\Hid (gs'.map Ma.af=gs.map Ma.af++r.take j)/\Hid (∀ g∈gs',Cm.Gd N g)/\Hid (gs'.length<=gs.length+j)) (fun jv _=>r.length - (intOf jv).toNat)
  case atStart=>exact ⟨0,_,_,rfl,Nat.zero_le _,CI,KQ,vJ,vH,sr⟩
  case round =>
   clear CI KQ vJ vH sr K;obtain ⟨j,v,gs',rfl,hj,CI,KQ,vJ,vH,sr⟩:=hrel;have K:=U CI.p.cG;obtain ⟨va,vc,nR⟩:=CI.p.row.shape;subst nR
   by_cases rz:j<r.length
   ·have Cz:(j:Int)<(r.length:Int):=by omega
    have pK:=U rz;obtain ⟨ub,uo,rfl,sH,yY⟩:=Pn.p (by omega);obtain ⟨xv,ZB,Dj⟩:=yY j rz;obtain ⟨x,hx⟩:∃ x:List Int,Hid (r[j]'rz=x):=⟨_,U rfl⟩
    replace Dj:Rg.Ints w xv x:=by rw [<- hx.p]; exact Dj
    obtain ⟨xa,xc,rfl,_⟩:=Dj.shape
    have Mx:x.length<=1000000000:=by obtain ⟨m',a',c',e',_,My⟩:=Dj.len; omega
    have CX:=U (CL.mk ZB sH);have XU:=U Dj;have ZC:=U (show x∈RR[X]'qq.p by rw [show RR[X]'qq.p=r from hr.p,<- hx.p]; exact List.getElem_mem rz);have Po:=U (show gs'.length<1000000 by have:=sr.p; have:=Zz.p; omega);clear yY ZB Dj sH
    gi_upto_region 14 with (fail)
    refine wpIn_region_list ?_;refine Rg.ax (some 54) rfl rfl (fun _ hh=>by cases hh) (aD cp _ _ rfl ub (uo) (r.length) uc (j) rfl rfl pK.p) ?_;go_frame;refine Rg.ax (some 55) rfl rfl (fun _ hh=>by cases hh) (g9 (.slice xa x.length xc) ⟨ub,uo+j,none⟩ (Rg.ae _ _ Tryz.underlying27 ((Below.cell (p:=⟨ub,uo+j,none⟩) K.p CX.p.lt).trans CX.p.cell))) ?_;go_frame;refine Rg.ax (some 8) rfl rfl (fun _ hh=>by cases hh) (a8 (.slice xa x.length xc) _ rfl rfl) ?_;go_frame
    by_cases tO:(x.length:Int)=(N:Int)
    case neg =>
     skip
     gi_upto_region 15 with (fail)
     refine wpIn_region_list ?_;refine Rg.ax (some 56) rfl rfl (fun _ hh=>by cases hh) (a7 (.slice xa x.length xc) _ rfl rfl) ?_;go_frame;refine Rg.ax (some 57) rfl rfl (fun _ hh=>by cases hh) (i4 Tryz.underlying27) ?_;go_frame;refine Rg.ax (some 58) rfl rfl (fun _ hh=>by cases hh) (g9 (.int .i64 ((N:Nat):Int)) ⟨(w.heap.size+2),0,none⟩ (ah CI.p.c3.c)) ?_;go_frame;refine Rg.ax (some 59) rfl rfl (fun _ hh=>by cases hh) (i3 (.bool true) .neq (h:=aQ _ f9)) ?_;go_frame;refine Rg.ax (some 60) rfl rfl (fun _ hh=>by cases hh) (a7 (.bool true) _ rfl rfl) ?_;go_frame;refine Rg.iC (some 61) (by kernel_rfl) rfl ?_;go_frame;refine Rg.iC (some 62) (by kernel_rfl) rfl ?_;go_frame;refine Rg.iC (some 63) (by kernel_rfl) rfl ?_;go_frame;refine Rg.ax (some 64) rfl rfl (fun _ hh=>by cases hh) (i6 (.bool true)) ?_;go_frame
     gi_upto_region 16 with (fail)
     refine wpIn_region_list ?_;refine Rg.fH none rfl rfl (fun _ hh=>by cases hh) (Rg.ai _ _ _ rfl _ rfl _ rfl (bR 3 CI.p.c2.c CI.p.c2.f)) ?_;go_frame;have hk:=K.p.setCell (p:=⟨w.heap.size+1,0,none⟩) (by show w.heap.size<=w.heap.size+1; omega) (.int .i64 3);have y2:=CI.p.c2.set (.int .i64 3);have hq:=KQ.p.set (b:=w.heap.size+1) (o:=0) (.int .i64 3) (by omega);generalize wr.setCell ⟨w.heap.size+1,0,none⟩ (.int .i64 3)=ep at *;have KX:=U hk;have CX:=U y2;have QX:=U hq;have Jc:=U (show ¬ hZ ((N:Nat):Int) OO RR from fun hh=>tO (hh.perm qq.p ZC.p).1);clear hk y2 hq
     gi_wp2
     exact ⟨QX.p.keeps,rfl,KX.p,CX.p,Jc.p⟩
    by_cases yD:Ma.bB x=0
    case neg =>
     skip
     gi_upto_region 15 with (fail)
     refine wpIn_region_list ?_;refine Rg.ax (some 56) rfl rfl (fun _ hh=>by cases hh) (a7 (.slice xa x.length xc) _ rfl rfl) ?_;go_frame;refine Rg.ax (some 57) rfl rfl (fun _ hh=>by cases hh) (i4 Tryz.underlying27) ?_;go_frame;refine Rg.ax (some 58) rfl rfl (fun _ hh=>by cases hh) (g9 (.int .i64 ((N:Nat):Int)) ⟨(w.heap.size+2),0,none⟩ (ah CI.p.c3.c)) ?_;go_frame;refine Rg.ax (some 59) rfl rfl (fun _ hh=>by cases hh) (i3 (.bool false) .neq (h:=aQ _ g7)) ?_;go_frame;refine Rg.ax (some 60) rfl rfl (fun _ hh=>by cases hh) (a7 (.bool false) _ rfl rfl) ?_;go_frame;refine Rg.ew (some 61) rfl rfl (fun _ hh=>by cases hh) (a7 (.slice xa x.length xc) _ rfl rfl) ?_;go_frame;refine Rg.Fp (some 62) rfl rfl (fun _ hh=>by cases hh) _ _ (aE 68 _ _ rfl rfl (yO _ _)) ?_;refine (dQ _ _ wr (XU.p.jj K.p)).mono ?_
     rintro e1 gY ⟨rfl,hb⟩;refine ⟨_,rfl,?_⟩;go_frame;replace CI:=U (CI.p.jj hb);replace KQ:=U (KQ.p.jj hb);replace K:=U (Rg.acc K.p hb);clear hb;refine Rg.ew (some 63) rfl rfl (fun _ hh=>by cases hh) (i3 (.bool true) .neq (h:=aQ _ (decide_eq_true yD))) ?_;go_frame;refine Rg.ax (some 64) rfl rfl (fun _ hh=>by cases hh) (i5 (.bool true)) ?_;go_frame
     gi_upto_region 16 with (fail)
     refine wpIn_region_list ?_;refine Rg.fH none rfl rfl (fun _ hh=>by cases hh) (Rg.ai _ _ _ rfl _ rfl _ rfl (bR 3 CI.p.c2.c CI.p.c2.f)) ?_;go_frame;have hk:=K.p.setCell (p:=⟨w.heap.size+1,0,none⟩) (by show w.heap.size<=w.heap.size+1; omega) (.int .i64 3);have y2:=CI.p.c2.set (.int .i64 3);have hq:=KQ.p.set (b:=w.heap.size+1) (o:=0) (.int .i64 3) (by omega);generalize gY.setCell ⟨w.heap.size+1,0,none⟩ (.int .i64 3)=ep at *;have KX:=U hk;have CX:=U y2;have QX:=U hq;have Jc:=U (show ¬ hZ ((N:Nat):Int) OO RR from fun hh=>yD (hh.perm qq.p ZC.p).2);clear hk y2 hq
     gi_wp2
     exact ⟨QX.p.keeps,rfl,KX.p,CX.p,Jc.p⟩
    gi_upto_region 15 with (fail)
    refine wpIn_region_list ?_;refine Rg.ax (some 56) rfl rfl (fun _ hh=>by cases hh) (a7 (.slice xa x.length xc) _ rfl rfl) ?_;go_frame;refine Rg.ax (some 57) rfl rfl (fun _ hh=>by cases hh) (i4 Tryz.underlying27) ?_;go_frame;refine Rg.ax (some 58) rfl rfl (fun _ hh=>by cases hh) (g9 (.int .i64 ((N:Nat):Int)) ⟨(w.heap.size+2),0,none⟩ (ah CI.p.c3.c)) ?_;go_frame;refine Rg.ax (some 59) rfl rfl (fun _ hh=>by cases hh) (i3 (.bool false) .neq (h:=aQ _ g7)) ?_;go_frame;refine Rg.ax (some 60) rfl rfl (fun _ hh=>by cases hh) (a7 (.bool false) _ rfl rfl) ?_;go_frame;refine Rg.ew (some 61) rfl rfl (fun _ hh=>by cases hh) (a7 (.slice xa x.length xc) _ rfl rfl) ?_;go_frame;refine Rg.Fp (some 62) rfl rfl (fun _ hh=>by cases hh) _ _ (aE 68 _ _ rfl rfl (yO _ _)) ?_;refine (dQ _ _ wr (XU.p.jj K.p)).mono ?_
    rintro e1 gY ⟨rfl,hb⟩;refine ⟨_,rfl,?_⟩;go_frame;replace CI:=U (CI.p.jj hb);replace KQ:=U (KQ.p.jj hb);replace K:=U (Rg.acc K.p hb);clear hb;refine Rg.ew (some 63) rfl rfl (fun _ hh=>by cases hh) (i3 (.bool false) .neq (h:=aQ _ (decide_eq_false (fun e=>e yD)))) ?_;go_frame;refine Rg.ax (some 64) rfl rfl (fun _ hh=>by cases hh) (i5 (.bool false)) ?_;go_frame;obtain ⟨q,Wp,Ox⟩:=Ma.lQ (Ma.jh yD).2.2;have HGQ:=U (show Cm.Gd N q from ⟨Ox,by have:=congrArg List.length Wp; rw [Ma.az] at this; omega⟩);have S5:=U Wp;have HFQ:=U (show FP (fun k=>k<w.heap.size) w (.slice xa x.length xc) q from FP.yw (show Rg.NP w _ q by unfold Rg.NP; rw [<- S5.p]; exact XU.p));clear Wp Ox yD
    gi_upto_region 17 with (fail)
    refine wpIn_region_list ?_;refine Rg.ax (some 65) rfl rfl (fun _ hh=>by cases hh) (g9 (.slice va gs'.length vc) ⟨(w.heap.size+3),0,none⟩ (Rg.ae _ _ Tryz.underlying41 CI.p.c4.c)) ?_;go_frame;refine Rg.ax (some 66) rfl rfl (fun _ hh=>by cases hh) (a7 (.slice xa x.length xc) _ rfl rfl) ?_;go_frame;refine Rg.ax (some 67) rfl rfl (fun _ hh=>by cases hh) (Rg.aN _ _ _ rfl (.slice xa x.length xc) rfl (dx gY _ ⟨_,_,_,rfl⟩)) ?_;go_frame;obtain ⟨a9,c9,X9,r1,r2,r3,r4⟩:=CI.p.row.Pe (fun k hk=>by omega) (HFQ.p.jj K.p) ⟨_,_,_,rfl⟩ Po.p 41;have nS:=r3 (Nat.le_refl _) (Below.refl _ _);refine Rg.ax (some 68) rfl rfl (fun _ hh=>by cases hh) (Rg.bF _ _ _ rfl rfl rfl r1) ?_;go_frame;have Wq:=CI.p.c4.upto nS (by omega);refine Rg.fH none rfl rfl (fun _ hh=>by cases hh) (Rg.ai _ _ _ rfl _ rfl _ rfl (Rg.br _ eF Wq.c Wq.f)) ?_;go_frame
    have UR:=CI.p.store nS r2;have Bm:KK B w.heap.size W (X9.setCell ⟨w.heap.size+3,0,none⟩ (.slice a9 (gs'.length+1) c9)):=(KQ.p.row r4 CI.p.row (by omega)).set _ (by omega);generalize X9.setCell ⟨w.heap.size+3,0,none⟩ (.slice a9 (gs'.length+1) c9)=ZD at *;have CI2:=U UR;have Wr:=U Bm
    have qs:=U (show (gs'++[q]).map Ma.af=gs.map Ma.af++r.take (j+1) by
     rw [List.map_append,vJ.p,List.take_succ_eq_append_getElem pK.p,show r[j]=x from hx.p,S5.p,List.append_assoc]; rfl)
    have ZE:=U (show ∀ g∈gs'++[q],Cm.Gd N g from fun g hg=>by
     rcases List.mem_append.1 hg with hg | hg
     ·exact vH.p g hg
     ·rw [List.mem_singleton] at hg; rw [hg]; exact HGQ.p)
    have Ws:=U (show (gs'++[q]).length<=gs.length+(j+1) by rw [List.length_append]; have:=sr.p; simp; omega);clear UR Bm r1 r2 r3 r4 nS Wq
    gi_wp2
    go_roundw
    case rel=>exact ⟨j+1,_,_,by go_num,pK.p,CI2,Wr,qs,ZE,Ws⟩
    case measure=>simp [intOf]; have:=pK.p; omega
   ·obtain rfl:j=r.length:=by omega
    have Cz:¬ (r.length:Int)<(r.length:Int):=by omega
    have ZF:=U (show gs'.map Ma.af=(pre++[⟨X,qq.p⟩]:List (Fin RR.length)).flatMap (rowOf RR) by
     have e:=vJ.p;rw [List.take_length] at e;rw [e,Pm.p,List.flatMap_append];simp only [List.flatMap_cons,List.flatMap_nil,List.append_nil]
     exact congrArg (pre.flatMap (rowOf RR)++·) ((df qq.p).trans hr.p).symm)
    have ZG:=U (show gs'.length<=64*(pre.length+1) by have:=sr.p; have:=ZA.p; omega)
    gi_wp2
    exact ⟨KQ.p.keeps,KQ.p.cG,_,_,CI.p,ZF.p,vH.p,by rw [List.length_append]; exact ZG.p⟩
 case stop =>
  rintro D c pre W hD ⟨rfl,h1,h2,h3⟩ hd;go_wp2;exact kl (ds:=[D]) h1 h2 (.inr ⟨by omega,.inr ⟨h3,rfl⟩⟩) rfl (by simp) (fun D' fU=>by simp at fU; subst fU; exact ⟨hd,by have:=kM.p; omega⟩)
 case done =>
  rintro D Wd hD ⟨v,gs,yV,xw,r_,iy⟩ hd;clear FB sD CI K;rw [Ft] at xw;have HD:=U (show w.heap.size<=D by have:=kM.p; omega);have DF:=U hd;have CI:=U yV;have K:=U yV.cG;have Pm:=U xw;have vH:=U r_;have nT:=U (show gs.length<=1000000 by rw [yI (Nat.le_refl _)] at iy; have:=qp.p; omega);obtain ⟨va,vc,nR⟩:=yV.row.shape;subst nR
  have GR:=U (show Rg.Rows Wd (.slice va gs.length vc) (gs.map Ma.af) from by
   obtain ⟨us,q1,q2⟩:=yV.row.own
   exact Rg.Rows.dr q1 (by have:=nT.p; omega) q2.1 (fun i a b=>(q2.2 i a b).ints))
  have HH:=U (show aW Wd (.slice oa OO.length oc) (.slice ra RR.length rc) OO RR from aW.upto H.p yV.cG);clear yV xw r_ iy hd;go_upto_region 19 with (fail);refine Rg.Bp ?_;have aw:Below Wd.heap.size Wd Wd.drew:=(Below.refl _ _).drew;replace CI:=U (CI.p.jj aw);replace GR:=U (GR.p.jj aw);replace HH:=U (HH.p.jj aw);replace DF:=U (DF.p.jj aw);replace K:=U (Rg.acc K.p aw);clear aw;refine Rg.Any.begin (S:=Rg.aI 6 (fun _=>True) (fun W=>Below Wd.drew.heap.size Wd.drew W)) mix ?_;generalize Wd.drew=jn at *;have hS:∀ (l:Array Bool) W,Below jn.heap.size jn W->Rg.aI 6 (fun _=>True) (fun W=>Below jn.heap.size jn W) l W:=fun l W h=>⟨.inr trivial,h⟩;have hI:Below jn.heap.size jn jn:=Below.refl _ _;refine d7 0 6 ((.agg #[.int .i64 ((N:Nat):Int),.slice oa OO.length oc,.slice ra RR.length rc])) 70 rfl rfl (j0 ⟨w.heap.size,0,none⟩ (fun W hW=>aq ((Below.cell (p:=⟨w.heap.size,0,none⟩) hW CI.p.a0.lt).trans CI.p.a0.cell) ((Below.cell (p:=⟨w.heap.size,1,none⟩) hW CI.p.a1.lt).trans CI.p.a1.cell) ((Below.cell (p:=⟨w.heap.size,2,none⟩) hW CI.p.a2.lt).trans CI.p.a2.cell))) (hS _ _ hI) ?_;go_frame
  refine d7 1 6 (.int .i64 ((N:Nat):Int)) 71 rfl rfl (j0 ⟨(w.heap.size+2),0,none⟩ (fun W hW=>ah ((Below.cell (p:=⟨(w.heap.size+2),0,none⟩) hW CI.p.c3.lt).trans CI.p.c3.c))) (hS _ _ hI) ?_;go_frame;refine d7 2 6 (.slice va gs.length vc) 72 rfl rfl (j0 ⟨(w.heap.size+3),0,none⟩ (fun W hW=>Rg.ae _ _ Tryz.underlying41 ((Below.cell (p:=⟨(w.heap.size+3),0,none⟩) hW CI.p.c4.lt).trans CI.p.c4.c))) (hS _ _ hI) ?_;go_frame;refine Rg.Any.one (i:=3) (by kernel_rfl) (Rg.Any.ask (some 73) rfl rfl rfl _ _ (aj 69 _ _ _ rfl rfl rfl (I9 _ _)) ?_);refine (yE fL Ax GR.p vH.p nT.p).mono ?_;rintro e1 vF ⟨tb,L,F1,T1,V1,rfl,tL,qd,qe,Fu,hb⟩;have HB:=U Fu;have aS:=Rg.acc hI hb;clear hb hI;refine ⟨_,rfl,(hS _ _ aS),?_⟩;go_frame;have HT:=U tL;have C0:=U qd;have C1:=U qe;clear tL qd qe Fu
  refine Rg.Any.one (i:=4) (by kernel_rfl) (Rg.Any.ask (some 74) rfl rfl rfl _ _ (aE 70 _ _ rfl rfl (I_ _ _)) ?_);refine (sy fL Ax HT.p C0.p C1.p (Cm.Gr.bV vH.p) (HB.p.EF (by omega) vH.p) (fun j hj=>(HB.p.full j hj).1)).mono ?_;rintro e1 w63 ⟨Wt,rv2,O2,R2,rfl,hO,hR,Fv,hb⟩;have dE:=U Fv;have ZH:=aW.mk hO.rows hR.rows;clear hO hR Fv;have bf:=Rg.acc aS hb;have bZ:=hb;clear hb aS;refine ⟨_,rfl,(hS _ _ bf),?_⟩;go_frame;have HF:=U ZH;clear ZH;obtain ⟨bS,Wu⟩:∃ b,Hid (decide (((N:Nat):Int)=((N:Nat):Int)/\OO=O2.map Ma.af/\RR=R2.map (List.map Ma.af))=b):=⟨_,U rfl⟩;refine Rg.Any.one (i:=5) (by kernel_rfl) (Rg.Any.ask (some 75) rfl rfl rfl _ _ (aj 96 _ _ _ rfl rfl rfl (Wm _ _)) ?_);refine (Mt (HH.p.jj bf) HF.p Wu).mono ?_;rintro e1 ZI ⟨rfl,hb⟩;have cq:=Rg.acc bZ hb
  have bx:=Rg.acc bf hb;have eK:=hb;clear hb bZ bf;refine ⟨_,rfl,(hS _ _ bx),?_⟩;go_frame;refine i9 6 76 rfl rfl (bu _ _ bS rfl rfl) (hS _ _ bx) ?_;go_frame;refine Rg.Any.done (by kernel_rfl) ?_ _;refine Rg.nO ?_;replace CI:=U (CI.p.jj bx);replace GR:=U (GR.p.jj bx);replace HH:=U (HH.p.jj bx);replace DF:=U (DF.p.jj bx);replace HT:=U (HT.p.jj cq);replace C0:=U (C0.p.jj cq);replace C1:=U (C1.p.jj cq);replace HF:=U (HF.p.jj eK);replace K:=U (Rg.acc K.p bx);clear hS cq bx eK;have Wv:=U (hZ.same (OO:=OO) (RR:=RR) fL Ax vH.p Pm.p.symm dE.p)
  cases bS with
  | false =>
   have C2:=U CI.p.c2;go_upto_region 20 with (fail);refine c6 ?_;refine Rg.aA none rfl rfl (Rg.ai _ _ _ rfl _ rfl _ rfl (bR 3 C2.p.c C2.p.f)) ?_;go_frame;have hk:=K.p.setCell (p:=⟨w.heap.size+1,0,none⟩) (by show w.heap.size<=w.heap.size+1; omega) (.int .i64 3);have y2:=C2.p.set (.int .i64 3);have hdd:=RF.eP.setCell DF.p ⟨w.heap.size+1,0,none⟩ (.int .i64 3);generalize ZI.setCell ⟨w.heap.size+1,0,none⟩ (.int .i64 3)=ep at *;have KX:=U hk;have CX:=U y2;have DX:=U hdd;have yR:=U (show oM ((N:Nat):Int) OO RR 3 from .inr ⟨by omega,.inr ⟨fun hh=>(of_decide_eq_false Wu.p) ⟨rfl,Wv.p.1 hh⟩,rfl⟩⟩);clear hk y2 hdd;go_wp2;exact kl (ds:=[D]) KX.p CX.p yR.p rfl (by simp) (fun D' fU=>by simp at fU; subst fU; exact ⟨DX.p,HD.p⟩)
  | true =>
   have C2:=U CI.p.c2;go_upto_region 21 with (fail);refine c6 ?_;refine Rg.aA none rfl rfl (Rg.ai _ _ _ rfl _ rfl _ rfl (bR 0 C2.p.c C2.p.f)) ?_;go_frame;have hk:=K.p.setCell (p:=⟨w.heap.size+1,0,none⟩) (by show w.heap.size<=w.heap.size+1; omega) (.int .i64 0);have y2:=C2.p.set (.int .i64 0);have hdd:=RF.eP.setCell DF.p ⟨w.heap.size+1,0,none⟩ (.int .i64 0);generalize ZI.setCell ⟨w.heap.size+1,0,none⟩ (.int .i64 0)=ep at *;have KX:=U hk;have CX:=U y2;have DX:=U hdd;have yR:=U (show oM ((N:Nat):Int) OO RR 0 from oM.of (Wv.p.2 (of_decide_eq_true Wu.p).2));clear hk y2 hdd;go_wp2;exact kl (ds:=[D]) KX.p CX.p yR.p rfl (by simp) (fun D' fU=>by simp at fU; subst fU; exact ⟨DX.p,HD.p⟩)
end
section
open Go.RowKit
open Go.Proofs.Ob
attribute [local irreducible] Go.Calls Go.wpList
theorem Pp {u v r:Int} (t:TypeId) (hv:v≠0) (h:u.tmod v=r) (_hb:-9223372036854775808<=r/\r<=9223372036854775807):(binOp .rem t (.int .i64 u) (.int .i64 v)).run Tryz.prog w=.ok (.int .i64 r) w:=by
 simp [binOp,Op.intDiv,hv,h]

def eL:List (List Int)->Nat
 | []=>1
 | l :: r=>l.length*eL r
theorem qt (a:List (List Int)) (l:List Int):eL (a++[l])=eL a*l.length:=by
 induction a with
 | nil=>simp [eL]
 | cons x a ih=>simp only [List.cons_append,eL,ih,Nat.mul_assoc]
end
section
open Go.Proofs.Cm (Gr Gd ak cj rF St Tr Sd Fx ap)
def Ww (n:Nat) (u:List Nat):Bool:=u.all (fun x=>decide (x<n)) && decide u.Nodup && u.length == n
theorem S6 {u:List Nat} (h:Ww n u=true):Gd n u:=by
 unfold Ww at h;simp only [Bool.and_eq_true,List.all_eq_true,decide_eq_true_eq,beq_iff_eq] at h;obtain ⟨⟨h1,h2⟩,h3⟩:=h;exact ⟨⟨fun x hx=>by rw [h3]; exact h1 x hx,h2⟩,h3⟩
def evalW (n:Nat) (gs:List (List Nat)) (w:List Nat):List Nat:=w.foldl (fun x k=>Ma.ar x (gs.getD k (Ma.bh n))) (Ma.bh n)
theorem Mz (w:List Nat):Gr n (·∈gs) (evalW n gs w):=by
 unfold evalW
 have key:∀ (w:List Nat) (x:List Nat),Gr n (·∈gs) x->Gr n (·∈gs) (w.foldl (fun x k=>Ma.ar x (gs.getD k (Ma.bh n))) x):=by
  intro w
  induction w with
  | nil=>exact fun x h=>h
  | cons k w ih =>
   intro x h;rw [List.foldl_cons];refine ih _ (.mul _ _ h ?_)
   by_cases hk:k<gs.length
   ·rw [List.getD_eq_getElem?_getD,List.getElem?_eq_getElem hk]
    exact .gen _ (List.getElem_mem hk)
   ·rw [List.getD_eq_getElem?_getD,List.getElem?_eq_none (by omega)]
    exact .one
 exact key w _ .one
end
section
open Go.RowKit
open Go.Proofs.Ob
attribute [local irreducible] Go.Calls Go.wpList
theorem US (w:World) (x y:Value):CL (w.alloc (.cells #[x,y] 43)) w.heap.size 0 x/\CL (w.alloc (.cells #[x,y] 43)) w.heap.size 1 y :=
 ⟨⟨by rw [Rg.aL]; rfl,by simp⟩,⟨by rw [Rg.aL]; rfl,by simp⟩⟩
theorem j5.low (h:Rg.j5 B w v ll) (hb:Below w.heap.size w w'):Rg.j5 B w' v ll:=h.jj hb
end
section
open Go.RowKit
open Go.Proofs.Cm (Gd Gr ak)
attribute [local irreducible] Go.Calls Go.wpList
def jnN (x y:List Nat):List Nat:=x++y.map (fun p=>p+x.length)
def prN (L M:List (List Nat)):List (List Nat):=List.zipWith jnN L M
end
section
open Go.RowKit
open Go.Proofs.Ob
open Go.Proofs.Cm (Lv bq bP)
attribute [local irreducible] Go.Calls Go.wpList
theorem MA (gv:Value) (d:Int) (ll:List (List Int)) (w:World) (h:Rg.Rows w gv ll) :
  Calls Tryz.prog 42 #[.int .i64 d,gv] w fun e w'=>∃ cv,e=.returned (.tuple #[cv,.int .i64 (dH d ll)])/\dN w.heap.size w' d ll cv (dH d ll)/\Below w.heap.size w w':=by
 obtain ⟨ga,gc,rfl,Br,ZJ,_,iP⟩:=h.shape;have G0:=U h;have rm:=U iP;have K:=U (Below.refl w.heap.size w);clear h iP Br
 go_enter Tryz.func42,Tryz.ntmps42
 go_upto_region 0 with (fail);refine c6 ?_;have cK:=bM.new w (.int .i64 0) (.slice none 0 0) (.slice none 0 0);refine d4 4 (aU rfl) ?_;go_frame;have hb:=(Below.refl w.heap.size w).alloc (Nat.le_refl _) (.cells #[.int .i64 0,.slice none 0 0,.slice none 0 0] 25);generalize w.alloc (.cells #[.int .i64 0,.slice none 0 0,.slice none 0 0] 25)=w1 at *;replace G0:=U (G0.p.jj hb);replace K:=U (Rg.acc K.p hb);clear hb;have FT:=U cK;refine d6 5 (.int .i64 ((0:Nat):Int)) ?_;go_frame;clear cK;have K1:=U (Below.refl w1.heap.size w1);have KB:=K;clear K;have xr:=FT.p.lt
 by_cases dy:d<1
 ·have HC:=U (show dH d ll=2 by unfold dH; rw [if_neg (by omega)])
  go_upto_region 1 with (fail);refine c6 ?_;refine d5 9 (.int .i64 d) ?_;go_frame;refine d4 10 (i3 (.bool true) .lss (h:=bj _ f9)) ?_;go_frame;refine d5 11 (.bool true) ?_;go_frame;refine g8 12 ?_;go_frame;refine g8 13 ?_;go_frame;refine d4 14 (i6 (.bool true)) ?_;go_frame;have mB:=U (FT.p.jj K1.p);have KX:=U (KB.p.trans (K1.p.mono KB.p.size));go_upto_region 2 with (fail);refine c6 ?_;refine d4 15 (e_ rfl) ?_;go_frame;refine Rg.aA none rfl rfl (Rg.ai _ _ _ rfl _ rfl _ rfl (aM _ _ _ _ _ _ _ mB.p)) ?_;go_frame;refine d6 5 (.int .i64 ((2:Nat):Int)) ?_;go_frame;have nt:=nN mB.p KX.p (Nat.le_refl _);generalize ((w1.setCell ⟨w.heap.size,0,none⟩ (.int .i64 0)).setCell ⟨w.heap.size,1,none⟩ (.slice none 0 0)).setCell ⟨w.heap.size,2,none⟩ (.slice none 0 0)=ep at *
  have nU:=U (show ∃ cv,Ending.returned (.tuple #[sA,.int .i64 (2)])=.returned (.tuple #[cv,.int .i64 (dH d ll)])/\dN w.heap.size ep d ll cv (dH d ll)/\Below w.heap.size w ep from
   ⟨_,by rw [HC.p],.inl ⟨by rw [HC.p]; decide,rfl⟩,nt.2⟩)
  have pL:=U nt.1;clear nt;go_wp2;exact bodyPost_ret (bA (p:=4) (u:=5) rfl _ rfl rfl pL.p) rfl nU.p
 by_cases nr:64<d
 ·have HC:=U (show dH d ll=2 by unfold dH; rw [if_neg (by omega)])
  go_upto_region 1 with (fail);refine c6 ?_;refine d5 9 (.int .i64 d) ?_;go_frame;refine d4 10 (i3 (.bool false) .lss (h:=bj _ g7)) ?_;go_frame;refine d5 11 (.bool false) ?_;go_frame;refine d9 12 (a7 (.int .i64 d) _ rfl rfl) ?_;go_frame;refine d9 13 (i3 (.bool true) .gtr (h:=fD _ f9)) ?_;go_frame;refine d4 14 (i5 (.bool true)) ?_;go_frame;have mB:=U (FT.p.jj K1.p);have KX:=U (KB.p.trans (K1.p.mono KB.p.size));go_upto_region 2 with (fail);refine c6 ?_;refine d4 15 (e_ rfl) ?_;go_frame;refine Rg.aA none rfl rfl (Rg.ai _ _ _ rfl _ rfl _ rfl (aM _ _ _ _ _ _ _ mB.p)) ?_;go_frame;refine d6 5 (.int .i64 ((2:Nat):Int)) ?_;go_frame;have nt:=nN mB.p KX.p (Nat.le_refl _);generalize ((w1.setCell ⟨w.heap.size,0,none⟩ (.int .i64 0)).setCell ⟨w.heap.size,1,none⟩ (.slice none 0 0)).setCell ⟨w.heap.size,2,none⟩ (.slice none 0 0)=ep at *
  have nU:=U (show ∃ cv,Ending.returned (.tuple #[sA,.int .i64 (2)])=.returned (.tuple #[cv,.int .i64 (dH d ll)])/\dN w.heap.size ep d ll cv (dH d ll)/\Below w.heap.size w ep from
   ⟨_,by rw [HC.p],.inl ⟨by rw [HC.p]; decide,rfl⟩,nt.2⟩)
  have pL:=U nt.1;clear nt;go_wp2;exact bodyPost_ret (bA (p:=4) (u:=5) rfl _ rfl rfl pL.p) rfl nU.p
 have xy:1<=d/\d<=64:=by omega
 go_upto_region 1 with (fail);refine c6 ?_;refine d5 9 (.int .i64 d) ?_;go_frame;refine d4 10 (i3 (.bool false) .lss (h:=bj _ g7)) ?_;go_frame;refine d5 11 (.bool false) ?_;go_frame;refine d9 12 (a7 (.int .i64 d) _ rfl rfl) ?_;go_frame;refine d9 13 (i3 (.bool false) .gtr (h:=fD _ g7)) ?_;go_frame;refine d4 14 (i5 (.bool false)) ?_;go_frame
 by_cases hg1:4096<ll.length
 ·have HC:=U (show dH d ll=4 by unfold dH; rw [if_pos xy,if_neg (by omega)])
  go_upto_region 3 with (fail);refine c6 ?_;refine d5 16 (.slice ga ll.length gc) ?_;go_frame;refine d4 17 (i4 Tryz.underlying41) ?_;go_frame;refine d4 18 (i3 (.bool true) .gtr (h:=fD _ f9)) ?_;go_frame;have mB:=U (FT.p.jj K1.p);have KX:=U (KB.p.trans (K1.p.mono KB.p.size));go_upto_region 4 with (fail);refine c6 ?_;refine d4 19 (e_ rfl) ?_;go_frame;refine Rg.aA none rfl rfl (Rg.ai _ _ _ rfl _ rfl _ rfl (aM _ _ _ _ _ _ _ mB.p)) ?_;go_frame;refine d6 5 (.int .i64 ((4:Nat):Int)) ?_;go_frame;have nt:=nN mB.p KX.p (Nat.le_refl _);generalize ((w1.setCell ⟨w.heap.size,0,none⟩ (.int .i64 0)).setCell ⟨w.heap.size,1,none⟩ (.slice none 0 0)).setCell ⟨w.heap.size,2,none⟩ (.slice none 0 0)=ep at *
  have nU:=U (show ∃ cv,Ending.returned (.tuple #[sA,.int .i64 (4)])=.returned (.tuple #[cv,.int .i64 (dH d ll)])/\dN w.heap.size ep d ll cv (dH d ll)/\Below w.heap.size w ep from
   ⟨_,by rw [HC.p],.inl ⟨by rw [HC.p]; decide,rfl⟩,nt.2⟩)
  have pL:=U nt.1;clear nt;go_wp2;exact bodyPost_ret (bA (p:=4) (u:=5) rfl _ rfl rfl pL.p) rfl nU.p
 have tS:=U (show dH d ll=Ma.j3 d ll by unfold dH; rw [if_pos xy,if_pos (by omega)]);have vJ:=U (show Ma.j3 d (ll.drop 0)=Ma.j3 d ll by rw [List.drop_zero]);go_upto_region 3 with (fail);refine c6 ?_;refine d5 16 (.slice ga ll.length gc) ?_;go_frame;refine d4 17 (i4 Tryz.underlying41) ?_;go_frame;refine d4 18 (i3 (.bool false) .gtr (h:=fD _ g7)) ?_;go_frame;go_wp2
 go_loopw [22] (fun kv wr=>∃ k:Nat,kv=.int .i64 k/\k<=ll.length/\Hid (Below w1.heap.size w1 wr)/\Hid (Ma.j3 d (ll.drop k)=Ma.j3 d ll)) (fun kv _=>ll.length - (intOf kv).toNat)
 case atStart=>exact ⟨0,rfl,Nat.zero_le _,K1,vJ⟩
 case round =>
  clear K1 vJ;obtain ⟨k,rfl,hk,K1,vJ⟩:=hrel
  by_cases dD:k<ll.length
  ·have m_:(k:Int)<(ll.length:Int):=by omega
   have iP:=rm.p;obtain ⟨gb,go,rfl,vK,OL⟩:=iP (by omega);obtain ⟨u,yx,S7⟩:=OL k dD;obtain ⟨x,hx⟩:∃ x,Hid (ll[k]=x):=⟨_,U rfl⟩;rw [hx.p] at S7;have CU:=U (CL.mk ((KB.p.cell (p:=⟨gb,go+k,none⟩) vK).trans yx) (Nat.lt_of_lt_of_le vK KB.p.size));have XU:=U (Rg.Ints.jj S7 KB.p);obtain ⟨xa,xc,rfl,_⟩:=S7.shape;have dR:=U dD;have Mx:=XU.p.len;have HXL:=U (show x.length<=1000000000 by obtain ⟨n,a,c,e,_,e2⟩:=Mx; omega);clear iP OL yx S7 Mx vK;go_upto_region 7 with (fail);refine c6 ?_;refine d4 24 (aD cp _ _ rfl gb (go) (ll.length) gc (k) rfl rfl dR.p) ?_;go_frame;refine d4 25 (g9 (.slice xa x.length xc) ⟨gb,go+k,none⟩ (Rg.ae _ _ Tryz.underlying27 ((Below.cell (p:=⟨gb,go+k,none⟩) K1.p CU.p.lt).trans CU.p.cell))) ?_;go_frame;refine d6 7 (.slice xa x.length xc) ?_;go_frame
   go_upto_region 8 with (fail);refine c6 ?_;refine d5 26 (.slice xa x.length xc) ?_;go_frame;refine f8 27 (aE 68 _ _ rfl rfl (yO _ _)) ?_;refine (dQ _ _ wr (XU.p.jj K1.p)).mono ?_;rintro e1 eh ⟨rfl,hb⟩;refine ⟨_,rfl,?_⟩;go_frame;replace K1:=U (Rg.acc K1.p hb);clear hb;refine d6 8 (.int .i64 (Ma.bB x)) ?_;go_frame
   by_cases yD:Ma.bB x=0
   ·by_cases ZK:(x.length:Int)=d
    ·skip
     go_upto_region 9 with (fail);refine c6 ?_;refine d5 28 (.int .i64 (Ma.bB x)) ?_;go_frame;refine d4 29 (i3 (.bool false) .neq (h:=aQ _ g7)) ?_;go_frame;go_upto_region 11 with (fail);refine c6 ?_;refine d5 32 (.slice xa x.length xc) ?_;go_frame;refine d4 33 (i4 Tryz.underlying27) ?_;go_frame;refine d5 34 (.int .i64 d) ?_;go_frame;refine d4 35 (i3 (.bool false) .neq (h:=aQ _ g7)) ?_;go_frame;have S8:=U (show Ma.j3 d (ll.drop (k+1))=Ma.j3 d ll by rw [<- Ma.A_ dR.p (by rw [hx.p]; exact yD) (by rw [hx.p]; exact ZK)]; exact vJ.p);go_wp2
     go_roundw
     case rel=>exact ⟨k+1,by go_num,dR.p,K1,S8⟩
     case measure=>simp [intOf]; have:=dR.p; omega
    ·have HC:=U (show dH d ll=10 by rw [tS.p,<- vJ.p]; exact Ma.Ek dR.p (by rw [hx.p]; exact yD) (by rw [hx.p]; exact ZK))
     go_upto_region 9 with (fail);refine c6 ?_;refine d5 28 (.int .i64 (Ma.bB x)) ?_;go_frame;refine d4 29 (i3 (.bool false) .neq (h:=aQ _ g7)) ?_;go_frame;go_upto_region 11 with (fail);refine c6 ?_;refine d5 32 (.slice xa x.length xc) ?_;go_frame;refine d4 33 (i4 Tryz.underlying27) ?_;go_frame;refine d5 34 (.int .i64 d) ?_;go_frame;refine d4 35 (i3 (.bool true) .neq (h:=aQ _ f9)) ?_;go_frame;have mB:=U (FT.p.jj K1.p);have KX:=U (KB.p.trans (K1.p.mono KB.p.size));go_upto_region 12 with (fail);refine c6 ?_;refine d4 36 (e_ rfl) ?_;go_frame;refine Rg.aA none rfl rfl (Rg.ai _ _ _ rfl _ rfl _ rfl (aM _ _ _ _ _ _ _ mB.p)) ?_;go_frame;refine d6 5 (.int .i64 ((10:Nat):Int)) ?_;go_frame;have nt:=nN mB.p KX.p (Nat.le_refl _);generalize ((eh.setCell ⟨w.heap.size,0,none⟩ (.int .i64 0)).setCell ⟨w.heap.size,1,none⟩ (.slice none 0 0)).setCell ⟨w.heap.size,2,none⟩ (.slice none 0 0)=ep at *
     have nU:=U (show ∃ cv,Ending.returned (.tuple #[sA,.int .i64 (10)])=.returned (.tuple #[cv,.int .i64 (dH d ll)])/\dN w.heap.size ep d ll cv (dH d ll)/\Below w.heap.size w ep from
      ⟨_,by rw [HC.p],.inl ⟨by rw [HC.p]; decide,rfl⟩,nt.2⟩)
     have pL:=U nt.1;clear nt;go_wp2;exact bodyPost_ret (bA (p:=4) (u:=5) rfl _ rfl rfl pL.p) rfl nU.p
   ·have HC:=U (show dH d ll=Ma.bB x by rw [tS.p,<- vJ.p,Ma.Ej dR.p (by rw [hx.p]; exact yD),hx.p])
    go_upto_region 9 with (fail);refine c6 ?_;refine d5 28 (.int .i64 (Ma.bB x)) ?_;go_frame;refine d4 29 (i3 (.bool true) .neq (h:=aQ _ f9)) ?_;go_frame;have mB:=U (FT.p.jj K1.p);have KX:=U (KB.p.trans (K1.p.mono KB.p.size));go_upto_region 10 with (fail);refine c6 ?_;refine d4 30 (e_ rfl) ?_;go_frame;refine d5 31 (.int .i64 (Ma.bB x)) ?_;go_frame;refine Rg.aA none rfl rfl (Rg.ai _ _ _ rfl _ rfl _ rfl (aM _ _ _ _ _ _ _ mB.p)) ?_;go_frame;refine d6 5 (.int .i64 (Ma.bB x)) ?_;go_frame;have nt:=nN mB.p KX.p (Nat.le_refl _);generalize ((eh.setCell ⟨w.heap.size,0,none⟩ (.int .i64 0)).setCell ⟨w.heap.size,1,none⟩ (.slice none 0 0)).setCell ⟨w.heap.size,2,none⟩ (.slice none 0 0)=ep at *
    have nU:=U (show ∃ cv,Ending.returned (.tuple #[sA,.int .i64 (Ma.bB x)])=.returned (.tuple #[cv,.int .i64 (dH d ll)])/\dN w.heap.size ep d ll cv (dH d ll)/\Below w.heap.size w ep from
     ⟨_,by rw [HC.p],.inl ⟨by rw [HC.p]; exact yD,rfl⟩,nt.2⟩)
    have pL:=U nt.1;clear nt;go_wp2;exact bodyPost_ret (bA (p:=4) (u:=5) rfl _ rfl rfl pL.p) rfl nU.p
  ·obtain rfl:k=ll.length:=by omega
   have m_:¬ (ll.length:Int)<(ll.length:Int):=by omega
   have hz:=vJ.p;rw [Ma.Em (Nat.le_refl _)] at hz;obtain ⟨n,gs,YG,Ay,ft,bW,cN,iy⟩:=Wf xy.1 xy.2 hz.symm;have Az:=U Ay;have nT:=U iy;have eQ:=U ft;have HC:=U (show dH d ll=0 by rw [tS.p]; exact hz.symm);subst YG;have mB:=U (FT.p.jj K1.p);have KX:=U (KB.p.trans (K1.p.mono KB.p.size));have GR:=U (Rg.Rows.jj G0.p K1.p);clear Ay iy ft hz;go_upto_region 14 with (fail);refine c6 ?_;refine d5 38 (.int .i64 ((n:Nat):Int)) ?_;go_frame;refine d5 39 (.slice ga ll.length gc) ?_;go_frame;have Pq:=U mB.p.lt;refine f8 40 (aj 69 _ _ _ rfl rfl rfl (I9 _ _)) ?_;refine (yE bW cN (by have:=GR.p; rw [show gs.map Ma.af=ll from Az.p.symm]; exact this) eQ.p (by have:=nT.p; omega)).mono ?_;rintro e1 jn ⟨tb,L,F1,T1,V1,rfl,tL,qd,qe,Fu,hb⟩;have HB:=U Fu;have Dk:=U (Nat.lt_of_lt_of_le Pq.p hb.size)
   refine ⟨_,rfl,?_⟩;go_frame;replace mB:=U (mB.p.jj hb);replace GR:=U (GR.p.jj hb);replace KX:=U (Rg.acc KX.p hb);clear hb;have HT:=U tL;have C0:=U qd;have C1:=U qe;clear tL qd qe Fu;refine f8 41 (aE 70 _ _ rfl rfl (I_ _ _)) ?_;refine (sy bW cN HT.p C0.p C1.p (Cm.Gr.bV eQ.p) (HB.p.EF (by omega) eQ.p) (fun j hj=>(HB.p.full j hj).1)).mono ?_;rintro e1 vF ⟨ov,rv,O,R,rfl,hO,hR,Fv,hb⟩;obtain ⟨oa,oc,rfl,_⟩:=hO.rows.shape;obtain ⟨ra,rc,rfl⟩:=hR.rows.shape;have HO:=U hO;have HR:=U hR;have dE:=U Fv;clear hO hR Fv;refine ⟨_,rfl,?_⟩;go_frame;replace mB:=U (mB.p.jj hb);replace GR:=U (GR.p.jj hb);replace HT:=U (HT.p.jj hb);replace C0:=U (C0.p.jj hb);replace C1:=U (C1.p.jj hb);replace KX:=U (Rg.acc KX.p hb);clear hb;refine Rg.aA none rfl rfl (Rg.ai _ _ _ rfl _ rfl _ rfl (aM _ _ _ _ _ _ _ mB.p)) ?_;go_frame
   refine d6 5 (.int .i64 ((0:Nat):Int)) ?_;go_frame;have Au:=mB.p.set (.int .i64 ((n:Nat):Int)) (.slice oa (O.map Ma.af).length oc) (.slice ra (R.map (List.map Ma.af)).length rc);have C_:=Rg.Kp.trans (Rg.Kp.trans (Rg.Kp.aO (M:=fun z=>z=w.heap.size) (w:=vF) (a:=⟨w.heap.size,0,none⟩) (v:=.int .i64 ((n:Nat):Int)) rfl) (Rg.Kp.aO (M:=fun z=>z=w.heap.size) (a:=⟨w.heap.size,1,none⟩) (v:=(.slice oa (O.map Ma.af).length oc)) rfl) (fun _ _ e=>e)) (Rg.Kp.aO (M:=fun z=>z=w.heap.size) (a:=⟨w.heap.size,2,none⟩) (v:=(.slice ra (R.map (List.map Ma.af)).length rc)) rfl) (fun _ _ e=>e);have hro:=aG.mono (F':=fun z=>w.heap.size<=z) (aG.kp HO.p C_ (fun z g e=>by have:=Dk.p; omega)) (fun z hz=>by have:=Dk.p; omega);have Pr:=bg.mono (F':=fun z=>w.heap.size<=z) (HR.p.kp C_ (fun z g e=>by have:=Dk.p; omega)) (fun z hz=>by have:=Dk.p; omega)
   have Av:=((KX.p.setCell (p:=⟨w.heap.size,0,none⟩) (Nat.le_refl _) (.int .i64 ((n:Nat):Int))).setCell (p:=⟨w.heap.size,1,none⟩) (Nat.le_refl _) (.slice oa (O.map Ma.af).length oc)).setCell (p:=⟨w.heap.size,2,none⟩) (Nat.le_refl _) (.slice ra (R.map (List.map Ma.af)).length rc);generalize ((vF.setCell ⟨w.heap.size,0,none⟩ (.int .i64 ((n:Nat):Int))).setCell ⟨w.heap.size,1,none⟩ (.slice oa (O.map Ma.af).length oc)).setCell ⟨w.heap.size,2,none⟩ (.slice ra (R.map (List.map Ma.af)).length rc)=ep at *;have pL:=U Au
   have nU:=U (show ∃ cv,Ending.returned (.tuple #[.agg #[.int .i64 ((n:Nat):Int),(.slice oa (O.map Ma.af).length oc),(.slice ra (R.map (List.map Ma.af)).length rc)],.int .i64 0])=.returned (.tuple #[cv,.int .i64 (dH ((n:Nat):Int) ll)])/\dN w.heap.size ep ((n:Nat):Int) ll cv (dH ((n:Nat):Int) ll)/\Below w.heap.size w ep from
    ⟨_,by rw [HC.p],.inr ⟨HC.p,n,gs,rfl,Az.p,bW,cN,_,_,O,R,rfl,hro,Pr,dE.p⟩,Av⟩)
   clear Au C_ hro Pr Av;go_wp2;exact bodyPost_ret (bA (p:=4) (u:=5) rfl _ rfl rfl pL.p) rfl nU.p
end
section
open Go.RowKit
open Go.Proofs.Ob
attribute [local irreducible] Go.Calls Go.wpList
theorem Jd {a:Option Addr} {c:Nat} {T:List (List Int)} (h:Rg.Rows w (.slice a n c) T) {i:Nat} (hi:i<T.length):∃ b o ua uc,a=some ⟨b,o,none⟩/\b<w.heap.size/\w.cell? ⟨b,o+i,none⟩=some (.slice ua T[i].length uc)/\Rg.Ints w (.slice ua T[i].length uc) T[i]:=by
 obtain ⟨a',c',e,-,-,-,hx⟩:=h.shape;simp only [Value.slice.injEq] at e;obtain ⟨rfl,rfl,rfl⟩:=e;obtain ⟨b,o,e1,e2,e3⟩:=hx (by omega);obtain ⟨u,h1,h2⟩:=e3 i hi;obtain ⟨ua,uc,rfl,-⟩:=h2.shape;exact ⟨b,o,ua,uc,e1,e2,h1,h2⟩
end
end Go.Proofs.YtpedbljnhnoohaaGreat
namespace Go.Proofs.RF
open Go Go.RowKit
section
variable {n L:Nat} {P:Program} {Q:Exit->Act->World->Prop} {md:Region.Mode} {ops:Array Oper}
theorem Ps {m:Nat} {row:String} {args:Array Value} {R:Value->World->Prop} (h:Rows P row args w R):RowsIn (Fence.wide.inRound L) m P row args w R :=
 fun c cs _=>let ⟨v,w',r,s⟩:=h c cs; ⟨v,w',r,stepsIn_wide.2 s⟩
theorem Wx {o:Oper} {a:Act} {K:Act->World->Prop} (hd:∀ c,o.op≠.defer c) (h:o.wp P a w K Q) :
  o.wpIn (Fence.wide.inRound L) n P a w K Q:=by
 refine ⟨fun _ _=>trivial,?_⟩;rw [show (Fence.wide.inRound L).round=some L from rfl,Oper.semAt_some L a.eval o hd];unfold Oper.wp at h;generalize (execOp a.eval o).run P w=r at h
 cases r with
 | ok x w' =>
  cases x with
  | enter f args =>
   have h':Calls P f args w' _:=h;exact ⟨fun h=>by simp [Fence.wide,Fence.inRound] at h,CallsIn.inRound L (callsIn_wide.2 h')⟩
  | row r args=>exact ⟨fun h=>by simp [Fence.wide,Fence.inRound] at h,Ps h⟩
  | value v=>exact h
  | skip=>exact h
  | defer d=>exact h
  | _=>exact h.elim
 | halt x w' =>
  cases x with
  | panic v=>exact h
  | _=>exact h.elim
theorem Pt {i:Nat} {K:Act->World->Prop} {a:Act} (hQ:∀ a w,¬ Q .outgrown a w) (hd:∀ (j:Nat) o c,ops[j]?=some o->o.op≠.defer c) (h:wpOp P ops Q i K a w) :
  wpOpIn (Fence.wide.inRound L) n P ops Q i K a w:=by
 unfold wpOp at h;unfold wpOpIn
 split
 ·rename_i ho; rw [ho] at h; exact h
 ·rename_i o ho
  rw [ho] at h;simp only at h
  split
  ·rename_i hw
   rw [if_pos hw] at h
   rcases h with h | h
   ·exact Wx (fun c=>hd i o c ho) h
   ·obtain ⟨_,a',w',h'⟩:=h; exact (hQ a' w' h').elim
  ·rename_i hw
   rw [if_neg hw] at h;exact ⟨fun _ _=>trivial,h⟩
theorem Bu (hQ:∀ a w,¬ Q .outgrown a w) (hd:∀ (j:Nat) o c,ops[j]?=some o->o.op≠.defer c):∀ (f:Nat) (listed:Array Bool) (a:Act) (w:World),
  wpAny P md ops Q f listed a w->wpAnyIn (Fence.wide.inRound L) n P md ops Q f listed a w
 | 0,_,_,_,h=>h
 | f+1,_,_,_,h=>⟨h.1,fun i hi=>wpOpIn_mono (fun a' w'=>Bu hQ hd f _ a' w') (Pt hQ hd (h.2 i hi))⟩
def Fw (l:List Oper):Bool:=l.all fun o=>match o.op with | .defer _=>false | _=>true
theorem AA {l:List Oper} (h:Fw l=true) (j:Nat) (o:Oper) (c:Call) (ho:l.toArray[j]?=some o):o.op≠.defer c:=by
 intro e;have h1:=List.all_eq_true.1 h o (by simp at ho; exact List.mem_of_getElem? ho);rw [e] at h1;simp at h1
end
end Go.Proofs.RF
namespace Go.Proofs.Rg
open Go Go.RowKit
theorem Fy {F:Fence} {P:Program} {c:Code} {Q:Exit->Act->World->Prop} {a:Act} (h:c.wpIn F n P (Df Q) a w):c.wpIn F n P Q a w :=
 wpIn_mono h fun e a w hq=>by cases e <;> first | exact hq | exact hq.elim
theorem Any.tT {P:Program} {Q:Exit->Act->World->Prop} {S:Array Bool->World->Prop} {id:Nat} {a:Act} {l:List Oper} (hm:P.follows .mixedOrders=true) (hnd:RF.Fw l=true)
  (h:Any P .any l.toArray (Df Q) S l.toArray.size (Array.replicate l.toArray.size false) a w.drew):(Code.region id l.toArray true).wpIn (Fence.wide.inRound L) n P Q a w :=
 Fy (wpIn_region_any hm (RF.Bu (fun _ _ h=>h) (fun j o c=>RF.AA hnd j o c) _ _ _ _ (Any.plain _ _ _ _ h)))
end Go.Proofs.Rg
namespace Go.Proofs.YtpedbljnhnoohaaGreat
open Go.Proofs
section
open Go.RowKit
open Go.Proofs.Ob
open Go.Shelf
open Go.Proofs.Cm (Tr)
attribute [local go_sem] Oper.semAt_some
attribute [local irreducible] Go.Calls Go.wpList Go.wpListIn
theorem jr {P:Program} {o:Oper} {a:Act} (t:TypeId) (x:Operand) (ho:o.op=.box t x) (hx:a.eval x=v) (hv:v.cells=#[v]) :
  (execOp a.eval o).run P w=.ok (.value (.pointer (some ⟨w.heap.size,0,none⟩))) (w.alloc (.cells #[v] t)):=by
 unfold execOp;simp [ho,hx,Instr.box,newVar,newRow,hv,Result.andThen]
theorem AB {o:Oper} {a:Act} (ho:o.op=.alloc 4):(execOp a.eval o).run Tryz.prog w=.ok (.value (.pointer (some ⟨w.heap.size,0,none⟩))) (w.alloc (.cells #[.bool false] 4)):=by
 obtain ⟨i0,hi,cT,bz,dW⟩:=info_parts uW;unfold execOp;simp [ho,Instr.alloc,typeInfo,zeroValue,hi,cT,newVar,newRow,Value.cells,Result.andThen]
end
section
open Go.RowKit
open Go.Proofs.Cm (Tr)
attribute [local irreducible] Go.Calls Go.wpList
def SS (n:Nat) (tr:Tr) (l:List (List Nat)) (a b:Nat):Prop:=(Cm.eG n (Cm.S3 n tr) n (Ma.ar (l.getD a []) (l.getD b []))).1=n
end
section
open Go.Proofs.Cm (Tr Gr Gd Sd S3 eG)
def qu (x n:Int):Int:=if x.tmod n<0 then x.tmod n+n else x.tmod n
theorem tU {x n:Int} (h0:0<n):0<=qu x n/\qu x n<n:=by
 have h2:=Int.tmod_lt_of_pos x h0
 have h3:-n<x.tmod n:=by
  have:=Int.lt_tmod_of_pos x h0;omega
 unfold qu
 split <;> omega
end
section
open Go.RowKit
open Go.Proofs.Cm (Tr)
theorem fq.push {l:List (List Nat)} (h:fq F M W v l) {x:List Nat} (hu:FP F W u x) (hs:∃ a m c,u=.slice a m c) (hF:∀ k,F k->k<W.heap.size) (hM:∀ k,M k->k<W.heap.size) (hn:l.length<1000000) (ty:TypeId) :
  ∃ a c X,(Builtin.append_ #[41,41] ty #[v,.slice (some ⟨W.heap.size,0,none⟩) 1 1]).run Tryz.prog (W.alloc (.cells #[u] 27))=.ok (.slice a (l.length+1) c) X/\fq F M X (.slice a (l.length+1) c) (l++[x])/\Rg.Kp (fun k=>v.ownBlock=some k) W X:=by
 obtain ⟨B,us,h0,h1,h2⟩:=h.own;obtain ⟨a0,m0,c0,rfl⟩:=hs;have hb:Below W.heap.size W (W.alloc (.cells #[.slice a0 m0 c0] 27)):=(Below.refl _ _).alloc (Nat.le_refl _) _;obtain ⟨v',X,r1,r2,r3,r4,a,c,rfl⟩:=gl (P:=Tryz.prog) cp ty (Rg.bK h1 hb) (Nat.le_trans h0 hb.size) W.heap.size 1 (u:=.slice a0 m0 c0) (by rw [Rg.aL]; rfl) rfl hn;have hk:Rg.Kp (fun k=>v.ownBlock=some k) W X:=Rg.Kp.trans (M:=fun k=>v.ownBlock=some k) ((Rg.Kp.aC hb).kF fun _=>False.elim) (Rg.Kp.dc r3 fun _ e=>e) (fun _ _ e=>e);have hg:∀ k,F k->¬ v.ownBlock=some k:=fun k g e=>(h.off k e).1 g;refine ⟨a,c,X,r1,⟨⟨B,us++[.slice a0 m0 c0],Nat.le_trans h0 hk.size,by rw [List.length_append]; exact r2,by rw [List.map_append]; exact bE.snoc (h2.kp hk hg) (Rg.FI.kp hu hk hg)⟩,fun k e=>?_⟩,hk⟩
 rcases r4 with r4 | r4
 ·exact h.off k (by rw [<- r4]; exact e)
 ·rw [r4] at e
  injection e with e
  have e2:(W.alloc (.cells #[.slice a0 m0 c0] 27)).heap.size=W.heap.size+1:=by simp
  exact ⟨fun g=>by have:=hF _ g; omega,fun g=>by have:=hM _ g; omega⟩
theorem fq.set {F M:Nat->Prop} {W:World} {g c:Nat} {l:List (List Nat)} (h:fq F M W (.slice (some ⟨g,0,none⟩) l.length c) l) (i:Nat) {u:Value} {x:List Nat} (hu:FP F W u x) :
  fq F M (W.setCell ⟨g,i,none⟩ u) (.slice (some ⟨g,0,none⟩) l.length c) (l.set i x)/\Rg.Kp (fun k=>k=g) W (W.setCell ⟨g,i,none⟩ u):=by
 obtain ⟨B,us,h0,h1,h2⟩:=h.own;have hk:Rg.Kp (fun k=>k=g) W (W.setCell ⟨g,i,none⟩ u):=Rg.Kp.aO rfl;have hg:∀ k,F k->¬ k=g:=fun k e e2=>(h.off g rfl).1 (e2▸e);have N4:=h2.kp hk hg;refine ⟨⟨⟨B,us.set i u,Nat.le_trans h0 hk.size,?_,?_,fun j hj Ex=>?_⟩,h.off⟩,hk⟩
 ·rw [List.length_set]; exact (h1.stored i u).1
 ·rw [List.length_set,List.length_map,List.length_set,<- List.length_map (f:=Ma.af)]; exact h2.1
 ·have e1:j<us.length:=by rwa [List.length_set] at hj
  have e2:j<l.length:=by rwa [List.length_map,List.length_set] at Ex
  by_cases e:i=j
  ·subst e
   simp only [List.getElem_set_self,List.getElem_map];exact Rg.FI.kp hu hk hg
  ·simp only [List.getElem_set_ne e,List.getElem_map]
   have:=N4.2 j e1 (by rw [List.length_map]; exact e2)
   simpa using this
theorem fq.frozen {F M:Nat->Prop} {W:World} {g n c:Nat} {l:List (List Nat)} (h:fq F M W (.slice (some ⟨g,0,none⟩) n c) l) (hn:n=l.length) (i:Nat):W.frozen? ⟨g,i,none⟩=false:=by
 subst hn;obtain ⟨B,us,h0,h1,h2⟩:=h.own;exact h1.frozenAt i
end
section
open Go.RowKit
attribute [local irreducible] Go.Calls Go.wpList
theorem MB (x n:Int) (w:World) (h0:0<n) (h1:n<=1000):Calls Tryz.prog 116 #[.int .i64 x,.int .i64 n] w fun e w'=>e=.returned (.int .i64 (qu x n))/\Below w.heap.size w w':=by
 have s9:¬ n=0:=by omega
 have h2:=Int.tmod_lt_of_pos x h0
 have h3:-n<x.tmod n:=by
  have:=Int.lt_tmod_of_pos x h0;omega
 by_cases aB:x.tmod n<0
 ·rw [show qu x n=x.tmod n+n from if_pos aB]
  go_enter Tryz.func116,Tryz.ntmps116
  go_wp2;go_ret;exact ⟨rfl,Below.refl _ _⟩
 ·rw [show qu x n=x.tmod n from if_neg aB]
  go_enter Tryz.func116,Tryz.ntmps116
  go_wp2;go_ret;exact ⟨rfl,Below.refl _ _⟩
end
section
open Go.RowKit
open Go.Proofs.Cm (Tr)
attribute [local irreducible] Go.Calls Go.wpList
theorem KI.kF {F F' M M':Nat->Prop} {w w':World} (h:KI F w F' w' M) (hM:∀ z,M z->M' z):KI F w F' w' M':=⟨h.kg,h.kp.kF hM,h.new⟩
theorem KI.trans {F F' ZL M:Nat->Prop} {w w' w'':World} (h:KI F w F' w' M) (h':KI F' w' ZL w'' M):KI F w ZL w'' M :=
 ⟨h.kg.trans h'.kg,Rg.Kp.trans (M:=M) h.kp h'.kp (fun _ _ e=>e),fun k hk=>by
  rcases h'.new k hk with e | e
  ·exact h.new k e
  ·exact .inr (Nat.le_trans h.kp.size e)⟩
end
section
open Go.RowKit
open Go.Proofs.Ob
open Go.Proofs.Cm (Tr)
attribute [local irreducible] Go.Calls Go.wpList
theorem fq.nil (F M:Nat->Prop) (W:World):fq F M W (.slice none 0 0) []:=⟨⟨W.heap.size,[],Nat.le_refl _,World.ownsRow_nil _ _ _ _,Rg.bE.nil _ _⟩,fun k e=>by simp [Value.ownBlock] at e⟩
end
section
open Go.RowKit
open Go.Proofs.Cm (Tr)
theorem Je {o:Oper} {a:Act} {x1:Value} (F:FuncId) (f x:Operand) (pW:Array TypeId) (ho:o.op=.call { callee:=.value f,args:=#[x],argTypes:=pW }) (hf:a.eval f=.func (.func F) #[] #[u1]) (hx:a.eval x=x1)
  (hF:(callFunc F #[x1,u1]).run Tryz.prog w=.ok (.enter F #[x1,u1]) w):(execOp a.eval o).run Tryz.prog w=.ok (.enter F #[x1,u1]) w:=by
 unfold execOp;simp [ho,hx,hf,resolve,invoke,Deferred.ofValue,hF]
theorem CW.up {b:Nat} (h:CW w b v) (hb:Below w.heap.size w w'):CW w' b v:=h.jj hb
theorem fq.jj {l:List (List Nat)} (h:fq F M W v l) (hb:Below W.heap.size W W'):fq F M W' v l:=by
 obtain ⟨B,us,g0,g1,g2⟩:=h.own;exact ⟨⟨B,us,Nat.le_trans g0 hb.size,Rg.bK g1 hb,g2.kp (M:=fun _=>False) (Rg.Kp.aC hb) (fun _ _=>id)⟩,h.off⟩
theorem KG.cG {F0:Nat->Prop} (h:KG F0 w0 F w) (hb:Below w.heap.size w w'):KG F0 w0 F w':=h.EM (KF.aC hb)
end
section
open Go.RowKit
attribute [local irreducible] Go.Calls
theorem Fz (x:Int) (w:World):Calls Tryz.prog 162 #[.int .i64 x] w fun e w'=>e=.returned (.bool false)/\w'=w:=by
 go_enter Tryz.func162,Tryz.ntmps162
 go_wp2;go_ret;exact ⟨by simp,rfl⟩
theorem kN (x:Int) (w:World):Calls Tryz.prog 141 #[.int .i64 x] w fun e w'=>e=.returned (.bool false)/\w'=w:=by
 go_enter Tryz.func141,Tryz.ntmps141
 go_wp2;go_ret;exact ⟨by simp,rfl⟩
theorem jL (x y:Int) (w:World):Calls Tryz.prog 140 #[.int .i64 x,.int .i64 y] w fun e w'=>e=.returned (.bool (decide (x<y)))/\w'=w:=by
 go_enter Tryz.func140,Tryz.ntmps140
 go_wp2_with (go_at_call 162; refine (Fz _ _).mono ?_; rintro e w' ⟨rfl,rfl⟩)
 go_ret;exact ⟨rfl,rfl⟩
theorem wS (v:Value) (l:List Int) (x:Int) (w:World) (h:Rg.Ints w v l) (hs:l.Pairwise (·<=·)) (ZJ:l.length<1000000) :
  Calls Tryz.prog 112 #[v,.int .i64 x] w fun e w'=>e=.returned (.tuple #[.int .i64 ((l.countP (· < x):Nat):Int),.bool (l.contains x)])/\Below w.heap.size w w':=by
 obtain ⟨ad,cap,rfl,Br,_,_,aR⟩:=h.shape;have S:=U (show ∀ a b,a<=b->b<l.length->l.getD a 0<=l.getD b 0 from Lib.sorted_at l l.length (Nat.le_refl _) (by rw [List.take_length]; exact hs));have HC:=U aR;clear hs h aR Br
 go_enter Tryz.func112,Tryz.ntmps112
 go_wp2
 go_loopg [7,8] l.length (fun g s7 s8 wr=>∃ lo hi:Nat,s7=.int .i64 lo/\s8=.int .i64 hi/\lo<=hi/\hi<=l.length/\hi - lo<=g/\wr=w/\Hid ((∀ t,t<lo->l.getD t 0<x)/\(∀ t,hi<=t->t<l.length->x<=l.getD t 0)))
 case atStart=>exact ⟨0,l.length,rfl,rfl,Nat.zero_le _,Nat.le_refl _,by omega,rfl,U ⟨fun t ht=>absurd ht (Nat.not_lt_zero _),fun t h1 h2=>by omega⟩⟩
 case round =>
  obtain ⟨lo,hi,rfl,rfl,hlh,bG,hg,rfl,I⟩:=hrel
  by_cases aB:lo<hi
  ·obtain ⟨b,off,rfl,hb,hc⟩:=HC.p (by omega)
   have cm:wr.cell? ⟨b,off+(lo+hi) / 2,none⟩=some (.int .i64 (l.getD ((lo+hi) / 2) 0)):=by
    rw [hc ((lo+hi) / 2) (by omega),List.getD_eq_getElem?_getD,List.getElem?_eq_getElem (by omega)]; rfl
   clear hc;generalize hy:l.getD ((lo+hi) / 2) 0=y at cm;have Y:=U hy;clear hy
   by_cases Wy:y<x
   ·go_wp2_with (first | (go_at_call 140; refine (jL _ _ _).mono ?_; rintro e w' ⟨rfl,rfl⟩) | (go_at_call 141; refine (kN _ _).mono ?_; rintro e w' ⟨rfl,rfl⟩))
    go_roundg (hi - ((lo+hi) / 2+1))
    case measure=>omega
    case rel =>
     refine ⟨(lo+hi) / 2+1,hi,by rw [show ((lo:Int)+(hi:Int)) / 2+1=(((lo+hi) / 2+1:Nat):Int) by omega],rfl,by omega,bG,Nat.le_refl _,rfl,U ⟨fun t ht=>?_,I.p.2⟩⟩;have:=S.p t ((lo+hi) / 2) (by omega) (by omega);rw [Y.p] at this;omega
   ·go_wp2_with (first | (go_at_call 140; refine (jL _ _ _).mono ?_; rintro e w' ⟨rfl,rfl⟩) | (go_at_call 141; refine (kN _ _).mono ?_; rintro e w' ⟨rfl,rfl⟩))
    go_roundg ((lo+hi) / 2 - lo)
    case measure=>omega
    case rel =>
     refine ⟨lo,(lo+hi) / 2,rfl,by rw [show ((lo:Int)+(hi:Int)) / 2=(((lo+hi) / 2:Nat):Int) by omega],by omega,by omega,Nat.le_refl _,rfl,U ⟨I.p.1,fun t ht eA=>?_⟩⟩;have:=S.p ((lo+hi) / 2) t ht eA;rw [Y.p] at this;omega
  ·have:hi=lo:=by omega
   subst this;have E:=U (Lib.search_end l l.length hi x (Nat.le_refl _) bG I.p.1 I.p.2 S.p);rw [List.take_length] at E
   by_cases hn:hi<l.length
   ·obtain ⟨b,off,rfl,hb,hc⟩:=HC.p (by omega)
    have cl:wr.cell? ⟨b,off+hi,none⟩=some (.int .i64 (l.getD hi 0)):=by
     rw [hc hi hn,List.getD_eq_getElem?_getD,List.getElem?_eq_getElem hn]; rfl
    clear hc;generalize hy:l.getD hi 0=y at cl;have Y:=U hy;clear hy
    by_cases Wy:y=x
    ·go_wp2_with (first | (go_at_call 140; refine (jL _ _ _).mono ?_; rintro e w' ⟨rfl,rfl⟩) | (go_at_call 141; refine (kN _ _).mono ?_; rintro e w' ⟨rfl,rfl⟩))
     go_ret2
     refine ⟨?_,Below.refl _ _⟩;rw [E.p.1,E.p.2,Y.p,decide_eq_true (show hi<l.length/\y=x from ⟨hn,Wy⟩)]
     first | rfl | simp [*]
    ·go_wp2_with (first | (go_at_call 140; refine (jL _ _ _).mono ?_; rintro e w' ⟨rfl,rfl⟩) | (go_at_call 141; refine (kN _ _).mono ?_; rintro e w' ⟨rfl,rfl⟩))
     go_ret2
     refine ⟨?_,Below.refl _ _⟩;rw [E.p.1,E.p.2,Y.p,decide_eq_false (show ¬ (hi<l.length/\y=x) from fun h=>Wy h.2)]
     first | rfl | simp [*]
   ·go_wp2_with (first | (go_at_call 140; refine (jL _ _ _).mono ?_; rintro e w' ⟨rfl,rfl⟩) | (go_at_call 141; refine (kN _ _).mono ?_; rintro e w' ⟨rfl,rfl⟩))
    go_ret2
    refine ⟨?_,Below.refl _ _⟩;rw [E.p.1,E.p.2,decide_eq_false (show ¬ (hi<l.length/\l.getD hi 0=x) from fun h=>hn h.1)]
    first | rfl | simp [*]
end
section
open Go.Proofs.Cm (Gr Gd ak cj St Tr Fx ap Rp rF Sd eG my)
def l8 (O:List (List Nat)) (R:List (List (List Nat))):Tr:=fun i p=>if p∈O.getD i [] then some ((R.getD i []).getD ((O.getD i []).idxOf p) []) else none
theorem vL {i p:Nat} (h:p∈O.getD i []):l8 O R i p=some ((R.getD i []).getD ((O.getD i []).idxOf p) []):=if_pos h
theorem MC {i p:Nat} (h:¬ p∈O.getD i []):l8 O R i p=none:=if_neg h
theorem Pu {i p:Nat} {u:List Nat} (h:l8 O R i p=some u):p∈O.getD i []/\u=(R.getD i []).getD ((O.getD i []).idxOf p) []:=by
 unfold l8 at h
 split at h
 ·rename_i hm; injection h with h; exact ⟨hm,h.symm⟩
 ·cases h
theorem MD {l:List Nat} {p:Nat} (h:p∈l):l.getD (l.idxOf p) 0=p:=by
 have hl:=List.idxOf_lt_length_of_mem h;rw [List.getD_eq_getElem?_getD,List.getElem?_eq_getElem hl];exact List.getElem_idxOf hl
theorem qw (h:ak n H O R) {i p:Nat} (hi:i<n) {u:List Nat} (hu:l8 O R i p=some u):my n (fun z=>St H i z/\ap z i=p) u:=by
 obtain ⟨hm,rfl⟩:=Pu hu;have:=h.rep i _ hi (List.idxOf_lt_length_of_mem hm)
 rwa [MD hm] at this
theorem Jf (hH:cj n H) {i:Nat} (hi:i<n) {u:List Nat} (h:my n (fun z=>St H i z/\ap z i=i) u):u=Ma.bh n:=by
 have hg:=hH.gd u h.1.1.1
 rcases h.2 (Ma.bh n) ⟨⟨hH.one,Fx.one (by omega)⟩,Cm.cD hi⟩ with e | ⟨j,hj,h1,h2⟩
 ·exact e.symm
 ·rw [Cm.cD hj] at h2
  have h3:=h1 _ h2;rw [Cm.cD (by omega)] at h3;have:=Cm.iu hg (by omega) hj h3;omega
theorem Bv (hH:cj n H) (h:ak n H O R):rF n H (l8 O R):=by
 refine ⟨⟨fun i p u _ hi hu=>hH.gd u (qw h hi hu).1.1.1,fun i p u _ hi hu=>(qw h hi hu).1.1.2,fun i p u _ hi hu=>(qw h hi hu).1.2,fun i _ hi=>?_⟩,fun i p u hi hu=>(qw h hi hu).1.1.1,fun i x hi hx=>?_⟩
 ·have hm:i∈O.getD i []:=(h.orb i i hi).2 ⟨Ma.bh n,⟨hH.one,Fx.one (by omega)⟩,Cm.cD hi⟩
  have e:=vL (R:=R) hm;rw [e];exact congrArg some (Jf hH hi (qw h hi e))
 ·exact ⟨_,vL ((h.orb i _ hi).2 ⟨x,hx,rfl⟩)⟩
theorem yZ:∀ {l:List Nat} {p:Nat},l.Pairwise (· < ·)->p∈l->(Ma.af l).countP (· < ((p:Nat):Int))=l.idxOf p
 | [],p,_,h=>by simp at h
 | a :: l,p,hs,h=>by
  rw [List.pairwise_cons] at hs;show (((a:Nat):Int) :: Ma.af l).countP _=_;rw [List.countP_cons]
  by_cases e:a=p
  ·subst e
   have:(Ma.af l).countP (fun x=>decide (x<((a:Nat):Int)))=0:=by
    rw [List.countP_eq_zero];intro x hx;obtain ⟨y,hy,rfl⟩:=List.mem_map.1 hx;have:=hs.1 y hy;simp;omega
   rw [this];simp
  ·have hm:p∈l:=by
    rcases List.mem_cons.1 h with h | h
    ·exact absurd h.symm e
    ·exact h
   have aB:=hs.1 p hm;rw [yZ hs.2 hm,List.idxOf_cons,if_pos (by simp; omega)]
   have:(a == p)=false:=by simpa using e
   rw [this]; rfl
theorem rL {l:List Nat} {p:Nat}:(Ma.af l).contains ((p:Nat):Int)=decide (p∈l):=by
 rw [Bool.eq_iff_iff,List.contains_iff_mem,decide_eq_true_iff]
 constructor
 ·intro h
  obtain ⟨y,hy,e⟩:=List.mem_map.1 h
  have:y=p:=by omega
  exact this▸hy
 ·intro h
  exact List.mem_map.2 ⟨p,h,rfl⟩
theorem KS {l:List Nat} (h:l.Pairwise (· < ·)):(Ma.af l).Pairwise (·<=·):=by
 unfold Ma.af;rw [List.pairwise_map];exact h.imp (fun {a b} h=>by omega)
def l9 (n:Nat) (O:List (List Nat)) (R:List (List (List Nat))) (x:List Nat):Nat × List Nat:=eG n (l8 O R) n x
theorem S9 (x:List Nat):(l9 n O R x).1<=n:=by
 have key:∀ d x,(eG n (l8 O R) d x).1<=n:=by
  intro d
  induction d with
  | zero=>intro x; exact Nat.le_refl _
  | succ d ih =>
   intro x
   show (match l8 O R (n - (d+1)) (ap x (n - (d+1))) with | none=>(n - (d+1),x) | some u=>eG n (l8 O R) d (Ma.ar x (Ma.aX u))).1<=n
   split
   ·exact Nat.sub_le _ _
   ·exact ih _
 exact key n x
theorem FD (hH:cj n H) (h:ak n H O R) {x:List Nat} (gx:Gd n x):(l9 n O R x).1=n↔H x:=by
 have ht:=Bv hH h
 constructor
 ·intro e
  have key:∀ d x,d<=n->Gd n x->(eG n (l8 O R) d x).1=n->H (eG n (l8 O R) d x).2->H x:=by
   intro d
   induction d with
   | zero=>intro x _ _ _ h; exact h
   | succ d ih =>
    intro x hd gx he hx
    cases hu:l8 O R (n - (d+1)) (ap x (n - (d+1))) with
    | none =>
     rw [Cm.lN hu] at he;simp at he;omega
    | some u =>
     rw [Cm.j_ hu] at he hx;have ZM:=ht.mem _ _ _ (by omega) hu;have gu:=hH.gd u ZM;have:=ih _ (by omega) (Cm.aT gx (Cm.aH gu)) he hx;have h2:=hH.mul _ _ this ZM
     rwa [Cm.mul_inv_cancel gx gu] at h2
  have ES:(eG n (l8 O R) n x).2=Ma.bh n:=by
   have h1:=Cm.pY ht.rp (d:=n) (x:=x) (Nat.le_refl _) (Nat.zero_le _) gx (by rw [Nat.sub_self]; intro j hj; omega);refine Fx.all h1.2.2.1 ?_;have h2:=h1.2.2.2.1;have e2:(eG n (l8 O R) n x).1=n:=e
   rwa [e2] at h2
  exact key n x (Nat.le_refl _) gx e (by rw [ES]; exact hH.one)
 ·intro hx
  have key:∀ d x,d<=n->St H (n - d) x->(eG n (l8 O R) d x).1=n:=by
   intro d
   induction d with
   | zero=>intro x _ _; rfl
   | succ d ih =>
    intro x hd hx;obtain ⟨u,hu⟩:=ht.all (n - (d+1)) x (by omega) hx;rw [Cm.j_ hu];have gx:=hH.gd x hx.1;have hs:=Cm.x8 ht.rp (Nat.zero_le _) (by omega) gx hx.2 hu;refine ih _ (by omega) ⟨hH.mul _ _ hx.1 (hH.inv _ (ht.mem _ _ _ (by omega) hu)),?_⟩;rw [show n - d=n - (d+1)+1 by omega];exact hs.2
  exact key n x (Nat.le_refl _) ⟨hx,by rw [Nat.sub_self]; intro j hj; omega⟩
end
section
open Go.RowKit
open Go.Shelf
open Go.Proofs.Cm (Tr Gd ap eG)
attribute [local irreducible] Go.Calls Go.wpList
def nu (tr:Tr):List Nat->List Nat->Option (List Nat)
 | [],x=>some x
 | i :: l,x=>match tr i (ap x i) with
  | none=>none
  | some u=>nu tr l (Ma.ar x (Ma.aX u))
theorem Bw (tr:Tr):∀ (l:List Nat) (x:List Nat) (i:Nat) {y u:List Nat},nu tr l x=some y->tr i (ap y i)=some u->nu tr (l++[i]) x=some (Ma.ar y (Ma.aX u))
 | [],x,i,y,u,h,h2=>by
  cases h
  show (match tr i (ap x i) with | none=>none | some u=>nu tr [] (Ma.ar x (Ma.aX u)))=_
  rw [h2]; rfl
 | j :: l,x,i,y,u,h,h2=>by
  have h':(match tr j (ap x j) with | none=>none | some u=>nu tr l (Ma.ar x (Ma.aX u)))=some y:=h
  show (match tr j (ap x j) with | none=>none | some u=>nu tr (l++[i]) (Ma.ar x (Ma.aX u)))=_
  cases e:tr j (ap x j) with
  | none=>rw [e] at h'; cases h'
  | some v =>
   rw [e] at h';exact Bw tr l _ i h' h2
theorem FE (tr:Tr):∀ (l m:List Nat) (x:List Nat),nu tr (l++m) x=(nu tr l x).bind (nu tr m)
 | [],m,x=>rfl
 | j :: l,m,x=>by
  show (match tr j (ap x j) with | none=>none | some u=>nu tr (l++m) (Ma.ar x (Ma.aX u)))=Option.bind (match tr j (ap x j) with | none=>none | some u=>nu tr l (Ma.ar x (Ma.aX u))) _
  cases tr j (ap x j) with
  | none=>rfl
  | some v=>exact FE tr l m _
theorem sI {n:Nat} {tr:Tr} {x:List Nat}:∀ {k:Nat} {y:List Nat},k<=n->nu tr (List.range k) x=some y->eG n tr n x=eG n tr (n - k) y
 | 0,y,_,h=>by cases h; rfl
 | k+1,y,hk,h=>by
  rw [List.range_succ,FE] at h
  cases e:nu tr (List.range k) x with
  | none=>rw [e] at h; cases h
  | some z =>
   rw [e] at h;rw [sI (by omega) e]
   have h':(match tr k (ap z k) with | none=>none | some u=>nu tr [] (Ma.ar z (Ma.aX u)))=some y:=h
   have ek:n - (n - (k+1)+1)=k:=by omega
   rw [show n - k=n - (k+1)+1 by omega]
   cases e2:tr k (ap z k) with
   | none=>rw [e2] at h'; cases h'
   | some u =>
    rw [e2] at h'
    cases h'
    exact Cm.j_ (by rw [ek]; exact e2)
theorem ME {tr:Tr} {x y:List Nat} {k:Nat} (hk:k<n) (h:nu tr (List.range k) x=some y) (h2:tr k (ap y k)=none):eG n tr n x=(k,y):=by
 rw [sI (Nat.le_of_lt hk) h,show n - k=n - (k+1)+1 by omega]
 have ek:n - (n - (k+1)+1)=k:=by omega
 rw [Cm.lN (by rw [ek]; exact h2),ek]
theorem MG {tr:Tr} {x y:List Nat} (h:nu tr (List.range n) x=some y):eG n tr n x=(n,y):=by
 rw [sI (Nat.le_refl _) h,Nat.sub_self]; rfl
theorem Dl {n:Nat} {tr:Tr} (ht:∀ i p u,i<n->tr i p=some u->Gd n u):∀ {l:List Nat} {x y:List Nat},(∀ i∈l,i<n)->Gd n x->nu tr l x=some y->Gd n y
 | [],x,y,_,gx,h=>by cases h; exact gx
 | i :: l,x,y,hl,gx,h=>by
  have h':(match tr i (ap x i) with | none=>none | some u=>nu tr l (Ma.ar x (Ma.aX u)))=some y:=h
  cases e:tr i (ap x i) with
  | none=>rw [e] at h'; cases h'
  | some u =>
   rw [e] at h';exact Dl ht (fun j hj=>hl j (List.mem_cons_of_mem _ hj)) (Cm.aT gx (Cm.aH (ht i _ u (hl i (List.mem_cons_self ..)) e))) h'
theorem l_ {m:Nat}:∀ {k:Nat},k<=m->(dX m k).map (fun x=>x.1)=List.range k
 | 0,_=>rfl
 | k+1,h=>by
  rw [mL h,List.map_append,l_ (Nat.le_of_succ_le h),List.range_succ]; rfl
theorem tV {g:Operand} {ps:Array Go.Tmp} {assign body:Code} {Q:Exit->Act->World->Prop} {a:Act} {m fb:Nat} {ad:Option Addr} {RV:Nat->Value}
  (hg:a.eval g=.func (.func 97) #[] #[.pointer (some ⟨fb,0,none⟩)]) (lI:CL w fb 2 (.slice ad m cap)) (h:Aw n₀ w ad m RV) (Fs:ps.size=2)
  (I:List (Fin m)->World->Prop) (Ix:Code->List (Fin m)->World->Prop) (hI:OwnFrom w.heap.size I) (hIx:∀ c,OwnFrom w.heap.size (Ix c)) (h0:I [] w) (nP:Fin m->Act)
  (qm:∀ (l:Nat) (x:Fin m) (W:World) (K:Act->World->Prop),K (nP x) W->assign.wpIn (Fence.wide.inRound l) 1 Tryz.prog (Exit.then K (fun _ _ _=>False)) { tmps:=(ps.zip #[Value.int .i64 ((x.1:Nat):Int),RV x.1]).foldl (fun t (p,v)=>t.setIfInBounds p v) a.tmps,defers:=[] } W)
  (yK:∀ (l:Nat) (pre:List (Fin m)) (x:Fin m) (W:World),I pre W->pre.length<m->body.wpIn (Fence.wide.inRound l) 1 Tryz.prog (ownPostG w.heap.size (Below n₀) I Ix (pre++[x]) W) (nP x) W)
  (yL:∀ (D:Nat) (W:World),w.heap.size<=D->I (dX m m) W->RF.eP D W->Q .normal { a with defers:=RF.mark D :: a.defers } W)
  (yM:∀ (D:Nat) (c:Code) (k:Nat) (W:World),w.heap.size<=D->k<=m->Ix c (dX m k) W->RF.eP D W->c.wp Tryz.prog Q { a with defers:=RF.mark D :: a.defers } W) :
  (Code.rangeFunc g ps assign body).wp Tryz.prog Q a w :=
 wpIn_wide.1 (wpIn_rangeFunc_ownG (F:=Fence.wide) (n:=3) rfl (by decide) (gf:=97) (lb:=#[.pointer (some ⟨fb,0,none⟩)]) hg trivial (enters_of Tryz.func97 (by kernel_rfl) rfl)
  (wQ h lI 2 (by decide)) belowK_t (belowK_b h.sz) (Below.refl _ _) (fun _=>Fs.symm) I Ix hI hIx h0 nP qm yK
  (fun D xs W hD hx hi hd=>by subst hx; exact yL D W hD hi hd) (fun D c pre W hD hp hi hd=>by obtain ⟨k,hk,rfl⟩:=hp; exact wpIn_wide.2 (yM D c k W hD hk hi hd)))
theorem Pv {row:Option Nat} (hg:W.grownBy W' row) (hr:∀ r,row=some r->∃ o:Obj,W.heap[r]?=some o/\o.isCells=false) {a:Addr} (h:W.cell? a=some v):W'.cell? a=some v:=by
 have key:W'.heap[a.block]?=W.heap[a.block]?:=by
  unfold World.cell? at h
  cases e:W.heap[a.block]? with
  | none=>rw [e] at h; cases h
  | some o =>
   rw [e] at h;have aB:=(Array.getElem?_eq_some_iff.1 e).1;refine (hg.block _ aB fun e2=>?_).trans e;obtain ⟨o',ho,hc⟩:=hr _ e2.symm;rw [e] at ho
   cases ho
   cases o <;> simp at h <;> cases hc
 rw [World.cell?_of_block key];exact h
theorem vM {row:Option Nat} (hg:W.grownBy W' row) (hr:∀ r,row=some r->∃ o:Obj,W.heap[r]?=some o/\o.isCells=false) {us:List Value} (h:Rg.cW F W v us):Rg.cW F W' v us:=by
 obtain ⟨a,cap,e,h1,h2,h3,h4⟩:=h;refine ⟨a,cap,e,h1,h2,h3,fun h0=>?_⟩;obtain ⟨b,o,e1,e2,e3,e4⟩:=h4 h0;exact ⟨b,o,e1,Nat.lt_of_lt_of_le e2 hg.size,e3,fun i hi=>Pv hg hr (e4 i hi)⟩
theorem Pw {row:Option Nat} (hg:W.grownBy W' row) (hr:∀ r,row=some r->∃ o:Obj,W.heap[r]?=some o/\o.isCells=false) {p:List Nat} (h:FP F W v p):FP F W' v p:=vM hg hr h
def xz (w:World) (z:Nat):Prop:=z<w.heap.size∨w.heap.size+4<=z
structure tW (w:World) (n:Int) (ov rv:Value) (W:World) (yv:Value) (y:List Nat):Prop where
 cG:Below w.heap.size w W
 a0:CL W w.heap.size 0 (.int .i64 n)
 a1:CL W w.heap.size 1 ov
 a2:CL W w.heap.size 2 rv
 cx:CW W (w.heap.size+1) yv
 c4:CW W (w.heap.size+2) (.slice none 0 0)
 c5:CW W (w.heap.size+3) (.int .i64 0)
 fp:FP (xz w) W yv y
theorem MH {p:List Nat} (h:FP F w v p) (hb:Below w.heap.size w w'):FP F w' v p:=h.kf (KF.aC hb)
theorem tW.jj {w:World} {n:Int} {ov rv:Value} {W W':World} {yv:Value} {y:List Nat} (h:tW w n ov rv W yv y) (hb:Below W.heap.size W W'):tW w n ov rv W' yv y :=
 ⟨h.cG.trans (hb.mono h.cG.size),h.a0.up hb,h.a1.up hb,h.a2.up hb,h.cx.jj hb,h.c4.jj hb,h.c5.jj hb,MH h.fp hb⟩
theorem tW.keep {n:Int} {y:List Nat} {row:Option Nat} (h:tW w n ov rv W yv y) (hB:w.heap.size+4<=B) (hg:W.grownBy W' row) (hr:∀ r,row=some r->B<=r/\∃ o:Obj,W.heap[r]?=some o/\o.isCells=false):tW w n ov rv W' yv y:=by
 have hk:Rg.Kp (fun k=>row=some k) W W':=Rg.Kp.dc hg fun _ e=>e
 have hM:∀ b,b<B->¬ row=some b:=fun b hb e=>by have:=(hr b e).1; omega
 exact ⟨h.cG.grown hg h.cG.size (fun k e=>by have:=(hr k e).1; omega),h.a0.kp hk (hM _ (by omega)),h.a1.kp hk (hM _ (by omega)),h.a2.kp hk (hM _ (by omega)),h.cx.kp hk (hM _ (by omega)),h.c4.kp hk (hM _ (by omega)),h.c5.kp hk (hM _ (by omega)),Pw hg (fun r e=>(hr r e).2) h.fp⟩
theorem tW.set {w:World} {n:Int} {ov rv:Value} {W:World} {yv S_:Value} {y y':List Nat} (h:tW w n ov rv W yv y) (hp:FP (xz w) W S_ y'):tW w n ov rv (W.setCell ⟨w.heap.size+1,0,none⟩ S_) S_ y':=by
 have hk:Rg.Kp (fun z=>z=w.heap.size+1) W (W.setCell ⟨w.heap.size+1,0,none⟩ S_):=Rg.Kp.aO rfl;exact ⟨h.cG.setCell (p:=⟨w.heap.size+1,0,none⟩) (by show w.heap.size<=w.heap.size+1; omega) _,h.a0.kp hk (by omega),h.a1.kp hk (by omega),h.a2.kp hk (by omega),h.cx.set _,h.c4.kp hk (by omega),h.c5.kp hk (by omega),Rg.FI.kp hp hk (fun z hz e=>by unfold xz at hz; omega)⟩
theorem Ta {p:List Nat} (hW:w.heap.size+4<=W.heap.size) (hv:Rg.rT W W' v p):FP (xz w) W' v p:=by
 refine (FP.new (F:=xz w) hv).mono fun k hk=>?_
 rcases hk with hk | hk
 ·exact hk
 ·exact .inr (by omega)
structure Px (w W:World) (i:Nat) (yv:Value) (y:List Nat):Prop where
 cG:Below w.heap.size w W
 c4:CW W (w.heap.size+2) yv
 c5:CW W (w.heap.size+3) (.int .i64 ((i:Nat):Int))
 fp:FP (xz w) W yv y
theorem Px.keep {i:Nat} {y:List Nat} {row:Option Nat} (h:Px w W i yv y) (hB:w.heap.size+4<=B) (hg:W.grownBy W' row) (hr:∀ r,row=some r->B<=r/\∃ o:Obj,W.heap[r]?=some o/\o.isCells=false):Px w W' i yv y:=by
 have hk:Rg.Kp (fun k=>row=some k) W W':=Rg.Kp.dc hg fun _ e=>e
 have hM:∀ b,b<B->¬ row=some b:=fun b hb e=>by have:=(hr b e).1; omega
 exact ⟨h.cG.grown hg h.cG.size (fun k e=>by have:=(hr k e).1; omega),h.c4.kp hk (hM _ (by omega)),h.c5.kp hk (hM _ (by omega)),Pw hg (fun r e=>(hr r e).2) h.fp⟩
theorem tW.stop {n:Int} {y:List Nat} (h:tW w n ov rv W yv y) (i:Nat):Px w ((W.setCell ⟨w.heap.size+2,0,none⟩ yv).setCell ⟨w.heap.size+3,0,none⟩ (.int .i64 ((i:Nat):Int))) i yv y:=by
 have gJ:Rg.Kp (fun z=>z=w.heap.size+2) W (W.setCell ⟨w.heap.size+2,0,none⟩ yv):=Rg.Kp.aO rfl;have cU:Rg.Kp (fun z=>z=w.heap.size+3) (W.setCell ⟨w.heap.size+2,0,none⟩ yv) ((W.setCell ⟨w.heap.size+2,0,none⟩ yv).setCell ⟨w.heap.size+3,0,none⟩ (.int .i64 ((i:Nat):Int))):=Rg.Kp.aO rfl
 exact ⟨(h.cG.setCell (p:=⟨w.heap.size+2,0,none⟩) (by show w.heap.size<=w.heap.size+2; omega) _).setCell (p:=⟨w.heap.size+3,0,none⟩) (by show w.heap.size<=w.heap.size+3; omega) _,(h.c4.set _).other _ (by omega),(h.c5.other _ (by omega)).set _,
  Rg.FI.kp (Rg.FI.kp h.fp gJ (fun z hz e=>by unfold xz at hz; omega)) cU (fun z hz e=>by unfold xz at hz; omega)⟩
end
section
open Go.RowKit
open Go.Proofs.Ob
open Go.Shelf
open Go.Proofs.Cm (Tr Gd ap eG)
attribute [local go_sem] Oper.semAt_some
attribute [local irreducible] Go.Calls Go.wpList Go.wpListIn
theorem Jg (args:Array Value) (w:World):(callFunc 112 args).run Tryz.prog w=.ok (.enter 112 args) w:=by kernel_rfl
theorem gD {fn:Func} {p u:Go.Tmp} {t1 t2:TypeId} (h:fn.results=#[.cell p t1,.cell u t2]) (tmps:Array Value) {b1 b2:Nat} (hp:tmps.getD p undef=.pointer (some ⟨b1,0,none⟩)) (hu:tmps.getD u undef=.pointer (some ⟨b2,0,none⟩))
  (h1:(loadVar t1 ⟨b1,0,none⟩).run Tryz.prog w=.ok v1 w) (h2:(loadVar t2 ⟨b2,0,none⟩).run Tryz.prog w=.ok v2 w) :
  (results fn tmps).run Tryz.prog w=.ok (.tuple #[v1,v2]) w:=by
 have uX:tmps[p]?.getD undef=.pointer (some ⟨b1,0,none⟩):=by simpa using hp
 have fR:tmps[u]?.getD undef=.pointer (some ⟨b2,0,none⟩):=by simpa using hu
 simp [results,h,uX,fR,asAddr,h1,h2,Result.andThen]
theorem rM {o:Oper} {a:Act} (ho:o.op=.alloc 27):(execOp a.eval o).run Tryz.prog w=.ok (.value (.pointer (some ⟨w.heap.size,0,none⟩))) (w.alloc (.cells #[.slice none 0 0] 27)):=by
 obtain ⟨i0,hi,cT,bz,dW⟩:=info_parts dC;unfold execOp;simp [ho,Instr.alloc,typeInfo,zeroValue,hi,cT,newVar,Value.cells,Result.andThen];rfl
theorem eZ (hc:∀ a,W'.cell? a=W.cell? a) (hs:W.heap.size<=W'.heap.size) {us:List Value} (h:Rg.cW F W v us):Rg.cW F W' v us:=by
 obtain ⟨a,cap,e,h1,h2,h3,h4⟩:=h;refine ⟨a,cap,e,h1,h2,h3,fun h0=>?_⟩;obtain ⟨b,o,e1,e2,e3,e4⟩:=h4 h0;exact ⟨b,o,e1,Nat.lt_of_lt_of_le e2 hs,e3,fun i hi=>(hc _).trans (e4 i hi)⟩
def Dm (n:Nat) (O:List (List Nat)) (R:List (List (List Nat))) (x:List Nat) (w:World) (e:Ending) (w':World):Prop:=∃ v,e=.returned (.tuple #[v,.int .i64 (((l9 n O R x).1:Nat):Int)])/\Rg.NP w' v (l9 n O R x).2/\Below w.heap.size w w'
theorem Bx {x:List Nat} {tmps:Array Value} {y:List Nat} {i:Nat} {ds:List Nat} (hb:Below w.heap.size w W) (h4:CW W (w.heap.size+2) yv) (h5:CW W (w.heap.size+3) (.int .i64 ((i:Nat):Int))) (hp:FP (xz w) W yv y) (he:l9 n O R x=(i,y)) (p4:tmps.getD 4 undef=.pointer (some ⟨w.heap.size+2,0,none⟩)) (p5:tmps.getD 5 undef=.pointer (some ⟨w.heap.size+3,0,none⟩)) (hnd:ds.Nodup) (hD:∀ D,D∈ds->RF.eP D W/\w.heap.size<=D) :
  LeavesInM Fence.wide 0 Tryz.prog Tryz.f90 tmps (Dm n O R x w) (ds.map RF.mark) .returning W :=
 RF.leaves w.heap.size ds W hnd hD fun W' l1 l2 _=>⟨_,gD rfl _ p4 p5 (Rg.ae _ _ Tryz.underlying27 ((l2 _).trans h4.c)) (ah ((l2 _).trans h5.c)),yv,by rw [he],by rw [he]; exact FP.np (eZ l2 l1.size hp),hb.trans l1⟩
def ZN {m:Nat} (w:World) (tr:Tr) (x:List Nat) (pre:List (Fin m)) (W:World):Prop:=∃ wz X yv y,pre=wz++[X]/\Px w W X.1 yv y/\nu tr (wz.map fun z=>z.1) x=some y/\tr X.1 (ap y X.1)=none
theorem Dn {m k:Nat} (hk:k<=m) {pre:List (Fin m)} {x:Fin m} (h:dX m k=pre++[x]):k=x.1+1/\pre=dX m x.1:=by
 cases k with
 | zero=>have:=congrArg List.length h; simp [Fq] at this
 | succ k =>
  rw [mL hk] at h;obtain ⟨e1,e2⟩:=List.append_inj' h rfl
  injection e2 with e2
  subst e2;exact ⟨rfl,e1.symm⟩
theorem je {y:List Nat} (h:Gd n y) {z:Nat} (hz:z∈y):z<n:=by
 obtain ⟨i,hi,rfl⟩:=List.getElem_of_mem hz;have:=Cm.bI h (i:=i) (by rw [<- h.2]; exact hi)
 rwa [Cm.j9 hi] at this
theorem Py {l:List Nat} {q k:Nat} (h:Rg.Ints w v (Ma.af l)) (hs:l.Pairwise (· < ·)) (hl:l.length<1000000) (hm:q∈l) (hk:Hid (l.idxOf q=k)) :
  Calls Tryz.prog 112 #[v,.int .i64 ((q:Nat):Int)] w fun e w'=>e=.returned (.tuple #[.int .i64 ((k:Nat):Int),.bool true])/\Below w.heap.size w w':=by
 refine (wS v (Ma.af l) q w h (KS hs) (by rw [Ma.az]; exact hl)).mono ?_;rintro e w' ⟨rfl,hb⟩;exact ⟨by rw [yZ hs hm,rL,decide_eq_true hm,hk.p],hb⟩
theorem Tb {l:List Nat} {q:Nat} (h:Rg.Ints w v (Ma.af l)) (hs:l.Pairwise (· < ·)) (hl:l.length<1000000) (hm:¬ q∈l) :
  Calls Tryz.prog 112 #[v,.int .i64 ((q:Nat):Int)] w fun e w'=>∃ k,e=.returned (.tuple #[.int .i64 k,.bool false])/\Below w.heap.size w w':=by
 refine (wS v (Ma.af l) q w h (KS hs) (by rw [Ma.az]; exact hl)).mono ?_;rintro e w' ⟨rfl,hb⟩;exact ⟨_,by rw [rL,decide_eq_false hm],hb⟩
theorem y0 (bW:1<=n) (cN:n<=64) (hH:Cm.cj n H) (cQ:Cm.ak n H O R) (Ag:OO=O.map Ma.af) (vN:RR=R.map (List.map Ma.af)) {x:List Nat} (h:aW w ov rv OO RR) (hx:Rg.NP w xv x) (gx:Gd n x) :
  Calls Tryz.prog 90 #[.agg #[.int .i64 ((n:Nat):Int),ov,rv],xv] w (Dm n O R x w):=by
 obtain ⟨oa,oc,rfl,-,Wn,-,-⟩:=h.1.shape;obtain ⟨ra,rc,rfl⟩:=h.2.shape;obtain ⟨xa,xc,rfl,-⟩:=Rg.Ints.shape hx;have Mx:x.length=n:=gx.2;rw [Ma.az,Mx] at hx ⊢;have HO:=U h.1;have HR:=U h.2;have HX:=U hx;have GX:=U gx;have HH:=U hH;have dE:=U cQ;have Tc:=U Ag;have Jh:=U vN;have Mv:=U (show OO.length=n by rw [Ag,List.length_map,cQ.jH]);have qp:=U (show RR.length=n by rw [vN,List.length_map,cQ.iK]);have Wz:=U (show ∀ i p u,i<n->l8 O R i p=some u->Gd n u from fun i p u hi hu=>(Bv hH cQ).rp.gd i p u (Nat.zero_le _) hi hu);have K:=U (Below.refl w.heap.size w);clear h hx gx hH cQ Ag vN Mx;refine RF.fV Tryz.func90 rfl ?_;simp only [Tryz.ntmps90,List.size_toArray,List.length_cons,List.length_nil,Nat.reduceAdd,Nat.reduceSub,Array.replicate_succ,Array.replicate_zero,List.push_toArray,List.append_toArray,List.nil_append,List.cons_append]
 have aF:=eY w (.int .i64 ((n:Nat):Int)) (.slice oa OO.length oc) (.slice ra RR.length rc)
 have hs:(w.alloc (.cells #[.int .i64 ((n:Nat):Int),.slice oa OO.length oc,.slice ra RR.length rc] 25)).heap.size=w.heap.size+1:=by simp
 go_upto_region 0 with (fail);refine c6 ?_;refine d4 2 (Rg.aY _ _ rfl rfl) ?_;go_frame;have hb:Below w.heap.size w (w.alloc (.cells #[.int .i64 ((n:Nat):Int),.slice oa OO.length oc,.slice ra RR.length rc] 25)):=(Below.refl _ _).alloc (Nat.le_refl _) _;generalize w.alloc (.cells #[.int .i64 ((n:Nat):Int),.slice oa OO.length oc,.slice ra RR.length rc] 25)=w1 at *;have A0:=U aF.1;have A1:=U aF.2.1;have A2:=U aF.2.2;replace K:=U hb;have lD:w1.heap.size=w.heap.size+1:=hs;clear aF hb hs;have bX:=CW.new w1 (.slice xa n xc) 27
 have hs:(w1.alloc (.cells #[.slice xa n xc] 27)).heap.size=w1.heap.size+1:=by simp
 refine d4 3 (jr (v:=.slice xa n xc) _ _ rfl rfl rfl) ?_;go_frame;have hb:=(Below.refl w1.heap.size w1).alloc (Nat.le_refl _) (.cells #[.slice xa n xc] 27);generalize w1.alloc (.cells #[.slice xa n xc] 27)=w2 at *;replace A0:=U (A0.p.jj hb);replace A1:=U (A1.p.jj hb);replace A2:=U (A2.p.jj hb);replace K:=U (Rg.acc K.p hb);clear hb;rw [lD] at bX ⊢
 have iY:w2.heap.size=w.heap.size+2:=by omega
 have CX:=U bX;clear bX hs;have bX:=CW.new w2 (.slice none 0 0) 27
 have hs:(w2.alloc (.cells #[.slice none 0 0] 27)).heap.size=w2.heap.size+1:=by simp
 refine d4 4 (rM rfl) ?_;go_frame;have hb:=(Below.refl w2.heap.size w2).alloc (Nat.le_refl _) (.cells #[.slice none 0 0] 27);generalize w2.alloc (.cells #[.slice none 0 0] 27)=w3 at *;replace A0:=U (A0.p.jj hb);replace A1:=U (A1.p.jj hb);replace A2:=U (A2.p.jj hb);replace CX:=U (CX.p.jj hb);replace K:=U (Rg.acc K.p hb);clear hb;rw [iY] at bX ⊢
 have xu:w3.heap.size=w.heap.size+3:=by omega
 have C4:=U bX;clear bX hs;have bX:=CW.new w3 (.int .i64 0) 3
 have hs:(w3.alloc (.cells #[.int .i64 0] 3)).heap.size=w3.heap.size+1:=by simp
 refine d4 5 (oO rfl) ?_;go_frame;have hb:=(Below.refl w3.heap.size w3).alloc (Nat.le_refl _) (.cells #[.int .i64 0] 3);generalize w3.alloc (.cells #[.int .i64 0] 3)=w4 at *;replace A0:=U (A0.p.jj hb);replace A1:=U (A1.p.jj hb);replace A2:=U (A2.p.jj hb);replace CX:=U (CX.p.jj hb);replace C4:=U (C4.p.jj hb);replace K:=U (Rg.acc K.p hb);clear hb;rw [xu] at bX ⊢
 have Mu:w4.heap.size=w.heap.size+4:=by omega
 have C5:=U bX;clear bX hs;have Td:=U (show Rg.Ints w4 (.slice xa n xc) (Ma.af x) from Rg.Ints.jj HX.p K.p);go_upto_region 1 with (fail);refine c6 ?_;refine d4 10 (g9 (.slice xa n xc) ⟨(w.heap.size+1),0,none⟩ (Rg.ae _ _ Tryz.underlying27 CX.p.c)) ?_;go_frame;refine f8 11 (aE 75 _ _ rfl rfl (vE _ _)) ?_;refine (oJ _ (Ma.af x) w4 Td.p (by rw [Ma.az,GX.p.2]; exact bW) (by rw [Ma.az,GX.p.2]; omega)).mono ?_;rintro e1 w5 ⟨yv0,rfl,ZO,hb⟩;have WA:FP (xz w) w5 yv0 x:=eX.fi ⟨ZO⟩ (by rw [Ma.az,GX.p.2]; omega) (G:=xz w) (fun k g1 g2=>.inr (by omega));obtain ⟨ZP,ZQ,ZR,rfl⟩:=FP.eC WA GX.p bW;clear ZO;refine ⟨_,rfl,?_⟩;go_frame;replace A0:=U (A0.p.jj hb);replace A1:=U (A1.p.jj hb);replace A2:=U (A2.p.jj hb);replace CX:=U (CX.p.jj hb);replace C4:=U (C4.p.jj hb)
 replace C5:=U (C5.p.jj hb);replace Td:=U (Td.p.jj hb);replace K:=U (Rg.acc K.p hb);clear hb;have HY:=U WA;refine Rg.aA none rfl rfl (Rg.ai _ _ _ rfl _ rfl _ rfl (Rg.br _ dC CX.p.c CX.p.f)) ?_;go_frame;clear WA;have jM:=tW.set (yv:=.slice xa n xc) (y:=x) (show tW w ((n:Nat):Int) (.slice oa OO.length oc) (.slice ra RR.length rc) w5 (.slice xa n xc) x from ⟨K.p,A0.p,A1.p,A2.p,CX.p,C4.p,C5.p,(show FP (xz w) w5 (.slice xa n xc) x from (Rg.FI.mono (Rg.FI.kp (Rg.FI.nH HX.p) (Rg.Kp.aC (M:=fun _=>False) K.p) (fun _ _=>id)) (fun k hk=>.inl hk)))⟩) HY.p;have eS:w.heap.size+4<=w5.heap.size:=C5.p.lt
 have ZS:(w5.setCell ⟨w.heap.size+1,0,none⟩ (.slice (some ⟨ZP,ZQ,none⟩) n ZR)).heap.size=w5.heap.size:=by simp
 rw [<- ZS] at eS;generalize w5.setCell ⟨w.heap.size+1,0,none⟩ (.slice (some ⟨ZP,ZQ,none⟩) n ZR)=Am at *;have SI:=U jM;have yS:=U eS;clear jM eS ZS lD iY xu Mu A0 A1 A2 CX C4 C5 Td HY;replace K:=U SI.p.cG;go_upto_region 2 with (fail);refine c6 ?_;refine d4 12 (g9 ((.agg #[.int .i64 ((n:Nat):Int),.slice oa OO.length oc,.slice ra RR.length rc])) ⟨w.heap.size,0,none⟩ (aq SI.p.a0.cell SI.p.a1.cell SI.p.a2.cell)) ?_;go_frame;refine f8 13 (aE 74 _ _ rfl rfl (Dg _ _)) ?_;refine (qX _ _ _ Am).mono ?_;rintro e1 c_ ⟨fb,rfl,lI,hb⟩;have eS:=hb.size;refine ⟨_,rfl,?_⟩;go_frame;replace SI:=U (SI.p.jj hb);replace K:=U (Rg.acc K.p hb);clear hb;have FB:=U lI;clear lI;have kM:=U (show w.heap.size+4<=c_.heap.size by have:=yS.p; omega);clear eS;obtain ⟨us,rW,tR,yT⟩:=HR.p;have Jb:=U yT
 have yU:Aw w.heap.size c_ ra RR.length (fun k=>us[k]?.getD undef):=by
  obtain ⟨a',c',e,q1,q2,q3,q4⟩:=rW
  injection e with e1 e2 e3
  refine ⟨by have:=qp.p; omega,fun h0=>?_,fun b off e5 j hj=>?_,K.p.size⟩
  ·obtain ⟨b,o,e4,e5,_⟩:=q4 (by omega)
   exact ⟨b,o,e1.trans e4,e5⟩
  ·obtain ⟨b',o',e4,e6,e7⟩:=q4 (by omega)
   rw [e1,e4] at e5;simp only [Option.some.injEq,Addr.mk.injEq,and_true] at e5;obtain ⟨rfl,rfl⟩:=e5;rw [(K.p.cell (p:=⟨b',o'+j,none⟩) e6)];show _=some (us[j]?.getD undef);rw [List.getElem?_eq_getElem (by omega)];exact e7 j (by omega)
 have sD:=U yU;have sF:=U tR;clear rW yU tR yT;go_wp2
 refine tV rfl FB.p sD.p rfl (fun pre W=>∃ yv y,tW w ((n:Nat):Int) (.slice oa OO.length oc) (.slice ra RR.length rc) W yv y/\nu (l8 O R) (pre.map fun z=>z.1) x=some y)
  (fun c pre W=>c=.ret/\ZN w (l8 O R) x pre W) ?hI ?hIx ⟨_,_,SI.p,rfl⟩ ?a1 ?assign ?body ?done ?stop
 case assign =>
  intro l x W K hK
  gi_wp2
  exact hK
 case hI =>
  rintro pre W W' row ⟨yv,y,h1,h2⟩ hg hr;exact ⟨yv,y,h1.keep (by have:=kM.p; omega) hg hr,h2⟩
 case hIx =>
  rintro c pre W W' row ⟨rfl,wz,X,yv,y,h1,h2,h3⟩ hg hr;exact ⟨rfl,wz,X,yv,y,h1,h2.keep (by have:=kM.p; omega) hg hr,h3⟩
 case body =>
  rintro l pre ⟨X,hX⟩ Wb ⟨yv,y,jM,FF⟩ Wo;obtain ⟨B,hB⟩:∃ B,c_.heap.size=B:=⟨_,rfl⟩;rw [hB] at kM ⊢;clear FB sD SI K hB
  have nV:X<n:=by have:=qp.p; omega
  have gy:Gd n y:=Dl Wz.p (fun i hi=>by obtain ⟨z,_,rfl⟩:=List.mem_map.1 hi; have:=z.2; have:=qp.p; omega) GX.p FF;obtain ⟨ya,yo,yc,rfl⟩:=FP.eC jM.fp gy bW;have SI:=U jM;have K:=U jM.cG;have KQ:=U (KK.refl (B:=B) (n₀:=w.heap.size) (W:=Wb) jM.cG.size);have Te:=U FF;have GY:=U gy;have qq:=U hX;have sG:=U (show X<OO.length by have:=Mv.p; omega);have AD:=U nV;have Pq:=U (show w.heap.size+4<=Wb.heap.size from jM.c5.lt);clear jM FF;have hu:=Jb.p X (by rw [sF.p]; exact hX) hX
  have e1:us[X]?.getD undef=us[X]'(by rw [sF.p]; exact hX):=by rw [List.getElem?_eq_getElem (by rw [sF.p]; exact hX)]; rfl
  rw [<- e1] at hu
  dsimp only
  generalize us[X]?.getD undef=u at *;clear e1;obtain ⟨rl,oP⟩:∃ rl:List (List Nat),Hid (R.getD X []=rl):=⟨_,U rfl⟩;obtain ⟨ol,ss⟩:∃ ol:List Nat,Hid (O.getD X []=ol):=⟨_,U rfl⟩
  have y6:RR[X]'hX=rl.map Ma.af:=by
   rw [<- oP.p]
   have tX:X<R.length:=by rw [dE.p.iK]; exact nV
   have:RR[X]'hX=(R.map (List.map Ma.af))[X]'(by rw [List.length_map]; exact tX):=by first | (congr 1; done) | (congr 1; exact Jh.p)
   rw [this,List.getElem_map,df tX]
  have Tf:OO[X]'sG.p=Ma.af ol:=by
   rw [<- ss.p]
   have Tg:X<O.length:=by rw [dE.p.jH]; exact nV
   have:OO[X]'sG.p=(O.map Ma.af)[X]'(by rw [List.length_map]; exact Tg):=by first | (congr 1; done) | (congr 1; exact Tc.p)
   rw [this,List.getElem_map,df Tg]
  rw [y6] at hu;have ZT:=U (show rl.length=ol.length by rw [<- oP.p,<- ss.p]; exact dE.p.len X nV);have UT:=U (show ol.Pairwise (· < ·) by rw [<- ss.p]; exact dE.p.jk X nV);have Wn:=hU HH.p dE.p nV;rw [ss.p] at Wn;obtain ⟨ua,uc,rfl,-,-,-,yX⟩:=hu.shape;have Pn:=U yX;obtain ⟨xx,vI,e2,_,_,_,ry⟩:=HO.p.shape
  injection e2 with e3 _ e5
  subst e3 e5;obtain ⟨ob,oo,rfl,Cv,ry⟩:=ry (by have:=sG.p; omega);obtain ⟨yv,Mw,Di⟩:=ry X sG.p;rw [Tf] at Di;obtain ⟨qa,qc,rfl,-⟩:=Di.shape;rw [Ma.az] at Di Mw;rw [List.length_map];have CO:=U (CL.mk Mw Cv);have IO:=U Di;obtain ⟨q,hq⟩:∃ q:Nat,Hid (ap y X=q):=⟨_,U rfl⟩;have CX:=U (show CL Wb ya (yo+X) (.int .i64 ((q:Nat):Int)) by rw [<- hq.p]; exact CL.mk (SI.p.fp.ap GY.p nV).cell (SI.p.fp.ap GY.p nV).lt);clear yX ry Mw Di Cv hu y6 Tf
  by_cases hm:q∈ol
  case neg =>
   skip
   gi_upto_region 5 with (fail)
   have aw:Below Wb.heap.size Wb Wb.drew:=(Below.refl _ _).drew;replace SI:=U (SI.p.jj aw);replace KQ:=U (KQ.p.jj aw);replace CX:=U (CX.p.jj aw);replace K:=U (Rg.acc K.p aw);clear aw;refine Rg.Any.tT (hnd:=by kernel_rfl) (S:=Rg.aI 14 (fun W=>Below Wb.drew.heap.size Wb.drew W) (fun W=>Below w.heap.size w W)) mix ?_;generalize Wb.drew=gY at *;have hS:∀ (l:Array Bool) W,Below gY.heap.size gY W->Below w.heap.size w W->Rg.aI 14 (fun W=>Below gY.heap.size gY W) (fun W=>Below w.heap.size w W) l W:=fun l W h h2=>⟨.inr h,h2⟩;have bT:∀ (l:Array Bool) W,l.getD 14 false=true->Below w.heap.size w W->Rg.aI 14 (fun W=>Below gY.heap.size gY W) (fun W=>Below w.heap.size w W) l W:=fun l W h h2=>⟨.inl h,h2⟩;have hI:=K.p;refine d7 0 14 (.pointer (some ⟨w.heap.size,1,none⟩)) 17 rfl rfl (.inl ⟨rfl,fun w _=>ag _ rfl rfl (iZ _ _)⟩) (hS _ _ (Below.refl _ _) hI) ?_;go_frame
   refine i8 1 14 (.slice (some ⟨ob,oo,none⟩) OO.length oc) 18 rfl rfl (j0 ⟨w.heap.size,1,none⟩ (fun W hW=>Rg.ae _ _ Tryz.underlying22 ((Below.cell (p:=⟨w.heap.size,1,none⟩) hW SI.p.a1.lt).trans SI.p.a1.cell))) (hS _ _ (Below.refl _ _) hI) ?_;go_frame;refine d7 2 14 (.int .i64 ((X:Nat):Int)) 19 rfl rfl (.inl ⟨rfl,fun w _=>Rg.bL (v:=.int .i64 ((X:Nat):Int)) _ rfl rfl⟩) (hS _ _ (Below.refl _ _) hI) ?_;go_frame;refine d7 3 14 (.pointer (some ⟨ob,oo+X,none⟩)) 20 rfl rfl (Rg.aJ ef _ _ rfl rfl ob (oo) (OO.length) oc (X) rfl rfl sG.p) (hS _ _ (Below.refl _ _) hI) ?_;go_frame;refine d7 4 14 (.slice qa ol.length qc) 21 rfl rfl (j0 ⟨ob,oo+X,none⟩ (fun W hW=>Rg.ae _ _ Tryz.underlying26 ((Below.cell (p:=⟨ob,oo+X,none⟩) hW CO.p.lt).trans CO.p.cell))) (hS _ _ (Below.refl _ _) hI) ?_;go_frame;refine i8 5 14 (.slice (some ⟨ya,yo,none⟩) n yc) 22 rfl rfl (j0 ⟨(w.heap.size+1),0,none⟩ (fun W hW=>Rg.ae _ _ Tryz.underlying27 ((Below.cell (p:=⟨(w.heap.size+1),0,none⟩) hW SI.p.cx.lt).trans SI.p.cx.c))) (hS _ _ (Below.refl _ _) hI) ?_;go_frame
   refine d7 6 14 (.int .i64 ((X:Nat):Int)) 23 rfl rfl (.inl ⟨rfl,fun w _=>Rg.bL (v:=.int .i64 ((X:Nat):Int)) _ rfl rfl⟩) (hS _ _ (Below.refl _ _) hI) ?_;go_frame;refine d7 7 14 (.pointer (some ⟨ya,yo+X,none⟩)) 24 rfl rfl (Rg.aJ cw _ _ rfl rfl ya (yo) (n) yc (X) rfl rfl AD.p) (hS _ _ (Below.refl _ _) hI) ?_;go_frame;refine i8 8 14 (.int .i64 ((q:Nat):Int)) 25 rfl rfl (j0 ⟨ya,yo+X,none⟩ (fun W hW=>ah ((Below.cell (p:=⟨ya,yo+X,none⟩) hW CX.p.lt).trans CX.p.cell))) (hS _ _ (Below.refl _ _) hI) ?_;go_frame;refine Rg.Any.one (i:=9) (by kernel_rfl) (Rg.Any.ask (some 26) rfl rfl rfl _ _ (aj 112 _ _ _ rfl rfl rfl (Jg _ _)) ?_);refine (Tb (IO.p.jj hI) UT.p (by omega) hm).mono ?_;rintro e1 iB ⟨kk,rfl,hb⟩;have aS:=Rg.acc hI hb;have eM:=hb;clear hb hI;refine ⟨_,rfl,(hS _ _ eM aS),?_⟩
   go_frame;refine d7 10 14 (.tuple #[.int .i64 kk,.bool false]) 16 rfl rfl (.inl ⟨rfl,fun w _=>Rg.bL (v:=.tuple #[.int .i64 kk,.bool false]) _ rfl rfl⟩) (hS _ _ eM aS) ?_;go_frame;refine d7 11 14 (.int .i64 kk) 27 rfl rfl (.inl ⟨rfl,fun w _=>aV (v:=.int .i64 kk) _ _ rfl rfl rfl⟩) (hS _ _ eM aS) ?_;go_frame;refine d7 12 14 (.bool false) 28 rfl rfl (.inl ⟨rfl,fun w _=>aV (v:=.bool false) _ _ rfl rfl rfl⟩) (hS _ _ eM aS) ?_;go_frame;refine d7 13 14 (.int .i64 kk) 8 rfl rfl (.inl ⟨rfl,fun w _=>Rg.bw (v:=.int .i64 kk) _ rfl rfl⟩) (hS _ _ eM aS) ?_;go_frame;refine i9 14 9 rfl rfl (a8 (.bool false) _ rfl rfl) (bT _ _ rfl aS) ?_;go_frame;refine Rg.Any.done (by kernel_rfl) ?_ _;refine Rg.nO ?_;replace SI:=U (SI.p.jj eM);replace KQ:=U (KQ.p.jj eM);replace CX:=U (CX.p.jj eM)
   replace K:=U aS;clear bT;clear hS aS eM
   gi_upto_region 6 with (fail)
   refine wpIn_region_list ?_;refine Rg.ax (some 29) rfl rfl (fun _ hh=>by cases hh) (a7 (.bool false) _ rfl rfl) ?_;go_frame;refine Rg.ax (some 30) rfl rfl (fun _ hh=>by cases hh) (bu _ _ false rfl rfl) ?_;go_frame
   gi_upto_region 7 with (fail)
   refine wpIn_region_list ?_;refine Rg.ax (some 31) rfl rfl (fun _ hh=>by cases hh) (g9 (.slice (some ⟨ya,yo,none⟩) n yc) ⟨(w.heap.size+1),0,none⟩ (Rg.ae _ _ Tryz.underlying27 SI.p.cx.c)) ?_;go_frame;refine Rg.ax (some 32) rfl rfl (fun _ hh=>by cases hh) (a7 (.int .i64 ((X:Nat):Int)) _ rfl rfl) ?_;go_frame;refine Rg.fH none rfl rfl (fun _ hh=>by cases hh) (Rg.ai _ _ _ rfl _ rfl _ rfl (Rg.br _ dC SI.p.c4.c SI.p.c4.f)) ?_;go_frame;refine Rg.fH none rfl rfl (fun _ hh=>by cases hh) (Rg.ai _ _ _ rfl _ rfl _ rfl (cy _ (SI.p.c5.other _ (by omega)).c (SI.p.c5.other _ (by omega)).f)) ?_;go_frame;have Pz:=SI.p.stop X;have rr:=(KQ.p.set (b:=w.heap.size+2) (o:=0) (.slice (some ⟨ya,yo,none⟩) n yc) (by omega)).set (b:=w.heap.size+3) (o:=0) (.int .i64 ((X:Nat):Int)) (by omega)
   generalize (iB.setCell ⟨w.heap.size+2,0,none⟩ (.slice (some ⟨ya,yo,none⟩) n yc)).setCell ⟨w.heap.size+3,0,none⟩ (.int .i64 ((X:Nat):Int))=ep at *;have SS:=U Pz;have QX:=U rr;have HTN:=U (show l8 O R X (ap y X)=none from MC (by rw [ss.p,hq.p]; exact hm));have SX:=U (show ZN w (l8 O R) x (pre++[⟨X,qq.p⟩]) ep from ⟨pre,⟨X,qq.p⟩,_,y,rfl,SS.p,Te.p,HTN.p⟩);clear Pz rr
   gi_wp2
   exact ⟨QX.p.keeps,rfl,SX.p⟩
  case pos =>
   obtain ⟨k,hk⟩:∃ k:Nat,Hid (ol.idxOf q=k):=⟨_,U rfl⟩
   have dD:k<ol.length:=by rw [<- hk.p]; exact List.idxOf_lt_length_of_mem hm
   have Dp:k<rl.length:=by have:=ZT.p; omega
   have HKR:=U Dp;obtain ⟨ub,uo,rfl,sH,yY⟩:=Pn.p (by rw [List.length_map]; omega);obtain ⟨sv,hsc,jM⟩:=yY k (by rw [List.length_map]; exact Dp);obtain ⟨s,hs⟩:∃ s:List Nat,Hid (rl[k]'Dp=s):=⟨_,U rfl⟩
   have mC:Rg.NP w sv s:=by rw [<- hs.p]; rw [List.getElem_map] at jM; exact jM
   have ZU:=U (show l8 O R X (ap y X)=some s by
    rw [hq.p];have e:=vL (R:=R) (show q∈O.getD X [] by rw [ss.p]; exact hm)
    rw [e,ss.p,hk.p,oP.p,<- hs.p,List.getD_eq_getElem?_getD,List.getElem?_eq_getElem Dp]; rfl)
   have GS:=U (Wz.p X _ s nV ZU.p);obtain ⟨sa,so,sc,rfl⟩:=(FP.yw mC).eC GS.p bW;have CS:=U (CL.mk hsc sH);have NS:=U (show Rg.Ints w _ (Ma.af s) from mC);clear yY hsc jM mC sH
   gi_upto_region 5 with (fail)
   have aw:Below Wb.heap.size Wb Wb.drew:=(Below.refl _ _).drew;replace SI:=U (SI.p.jj aw);replace KQ:=U (KQ.p.jj aw);replace CX:=U (CX.p.jj aw);replace K:=U (Rg.acc K.p aw);clear aw;refine Rg.Any.tT (hnd:=by kernel_rfl) (S:=Rg.aI 14 (fun W=>Below Wb.drew.heap.size Wb.drew W) (fun W=>Below w.heap.size w W)) mix ?_;generalize Wb.drew=gY at *;have hS:∀ (l:Array Bool) W,Below gY.heap.size gY W->Below w.heap.size w W->Rg.aI 14 (fun W=>Below gY.heap.size gY W) (fun W=>Below w.heap.size w W) l W:=fun l W h h2=>⟨.inr h,h2⟩;have bT:∀ (l:Array Bool) W,l.getD 14 false=true->Below w.heap.size w W->Rg.aI 14 (fun W=>Below gY.heap.size gY W) (fun W=>Below w.heap.size w W) l W:=fun l W h h2=>⟨.inl h,h2⟩;have hI:=K.p;refine d7 0 14 (.pointer (some ⟨w.heap.size,1,none⟩)) 17 rfl rfl (.inl ⟨rfl,fun w _=>ag _ rfl rfl (iZ _ _)⟩) (hS _ _ (Below.refl _ _) hI) ?_;go_frame
   refine i8 1 14 (.slice (some ⟨ob,oo,none⟩) OO.length oc) 18 rfl rfl (j0 ⟨w.heap.size,1,none⟩ (fun W hW=>Rg.ae _ _ Tryz.underlying22 ((Below.cell (p:=⟨w.heap.size,1,none⟩) hW SI.p.a1.lt).trans SI.p.a1.cell))) (hS _ _ (Below.refl _ _) hI) ?_;go_frame;refine d7 2 14 (.int .i64 ((X:Nat):Int)) 19 rfl rfl (.inl ⟨rfl,fun w _=>Rg.bL (v:=.int .i64 ((X:Nat):Int)) _ rfl rfl⟩) (hS _ _ (Below.refl _ _) hI) ?_;go_frame;refine d7 3 14 (.pointer (some ⟨ob,oo+X,none⟩)) 20 rfl rfl (Rg.aJ ef _ _ rfl rfl ob (oo) (OO.length) oc (X) rfl rfl sG.p) (hS _ _ (Below.refl _ _) hI) ?_;go_frame;refine d7 4 14 (.slice qa ol.length qc) 21 rfl rfl (j0 ⟨ob,oo+X,none⟩ (fun W hW=>Rg.ae _ _ Tryz.underlying26 ((Below.cell (p:=⟨ob,oo+X,none⟩) hW CO.p.lt).trans CO.p.cell))) (hS _ _ (Below.refl _ _) hI) ?_;go_frame;refine i8 5 14 (.slice (some ⟨ya,yo,none⟩) n yc) 22 rfl rfl (j0 ⟨(w.heap.size+1),0,none⟩ (fun W hW=>Rg.ae _ _ Tryz.underlying27 ((Below.cell (p:=⟨(w.heap.size+1),0,none⟩) hW SI.p.cx.lt).trans SI.p.cx.c))) (hS _ _ (Below.refl _ _) hI) ?_;go_frame
   refine d7 6 14 (.int .i64 ((X:Nat):Int)) 23 rfl rfl (.inl ⟨rfl,fun w _=>Rg.bL (v:=.int .i64 ((X:Nat):Int)) _ rfl rfl⟩) (hS _ _ (Below.refl _ _) hI) ?_;go_frame;refine d7 7 14 (.pointer (some ⟨ya,yo+X,none⟩)) 24 rfl rfl (Rg.aJ cw _ _ rfl rfl ya (yo) (n) yc (X) rfl rfl AD.p) (hS _ _ (Below.refl _ _) hI) ?_;go_frame;refine i8 8 14 (.int .i64 ((q:Nat):Int)) 25 rfl rfl (j0 ⟨ya,yo+X,none⟩ (fun W hW=>ah ((Below.cell (p:=⟨ya,yo+X,none⟩) hW CX.p.lt).trans CX.p.cell))) (hS _ _ (Below.refl _ _) hI) ?_;go_frame;refine Rg.Any.one (i:=9) (by kernel_rfl) (Rg.Any.ask (some 26) rfl rfl rfl _ _ (aj 112 _ _ _ rfl rfl rfl (Jg _ _)) ?_);refine (Py (IO.p.jj hI) UT.p (by omega) hm hk).mono ?_;rintro e1 iB ⟨rfl,hb⟩;have bf:=Rg.acc hI hb;have bZ:=hb;clear hb hI;refine ⟨_,rfl,(hS _ _ bZ bf),?_⟩
   go_frame;refine d7 10 14 (.tuple #[.int .i64 ((k:Nat):Int),.bool true]) 16 rfl rfl (.inl ⟨rfl,fun w _=>Rg.bL (v:=.tuple #[.int .i64 ((k:Nat):Int),.bool true]) _ rfl rfl⟩) (hS _ _ bZ bf) ?_;go_frame;refine d7 11 14 (.int .i64 ((k:Nat):Int)) 27 rfl rfl (.inl ⟨rfl,fun w _=>aV (v:=.int .i64 ((k:Nat):Int)) _ _ rfl rfl rfl⟩) (hS _ _ bZ bf) ?_;go_frame;refine d7 12 14 (.bool true) 28 rfl rfl (.inl ⟨rfl,fun w _=>aV (v:=.bool true) _ _ rfl rfl rfl⟩) (hS _ _ bZ bf) ?_;go_frame;refine d7 13 14 (.int .i64 ((k:Nat):Int)) 8 rfl rfl (.inl ⟨rfl,fun w _=>Rg.bw (v:=.int .i64 ((k:Nat):Int)) _ rfl rfl⟩) (hS _ _ bZ bf) ?_;go_frame;refine i9 14 9 rfl rfl (a8 (.bool true) _ rfl rfl) (bT _ _ rfl bf) ?_;go_frame;refine Rg.Any.done (by kernel_rfl) ?_ _;refine Rg.nO ?_;replace SI:=U (SI.p.jj bZ)
   replace KQ:=U (KQ.p.jj bZ);replace CX:=U (CX.p.jj bZ);replace K:=U bf;clear bT;clear hS bf bZ
   gi_upto_region 6 with (fail)
   refine wpIn_region_list ?_;refine Rg.ax (some 29) rfl rfl (fun _ hh=>by cases hh) (a7 (.bool true) _ rfl rfl) ?_;go_frame;refine Rg.ax (some 30) rfl rfl (fun _ hh=>by cases hh) (bu _ _ true rfl rfl) ?_;go_frame
   gi_upto_region 8 with (fail)
   have aw:Below iB.heap.size iB iB.drew:=(Below.refl _ _).drew;replace SI:=U (SI.p.jj aw);replace KQ:=U (KQ.p.jj aw);replace CX:=U (CX.p.jj aw);replace K:=U (Rg.acc K.p aw);clear aw;refine Rg.Any.tT (hnd:=by kernel_rfl) (S:=Rg.aI 7 (fun W=>Below iB.drew.heap.size iB.drew W) (fun W=>Below w.heap.size w W)) mix ?_;generalize iB.drew=rf at *;have hS:∀ (l:Array Bool) W,Below rf.heap.size rf W->Below w.heap.size w W->Rg.aI 7 (fun W=>Below rf.heap.size rf W) (fun W=>Below w.heap.size w W) l W:=fun l W h h2=>⟨.inr h,h2⟩;have bT:∀ (l:Array Bool) W,l.getD 7 false=true->Below w.heap.size w W->Rg.aI 7 (fun W=>Below rf.heap.size rf W) (fun W=>Below w.heap.size w W) l W:=fun l W h h2=>⟨.inl h,h2⟩;have hI:=K.p;refine i8 0 7 (.slice (some ⟨ya,yo,none⟩) n yc) 33 rfl rfl (j0 ⟨(w.heap.size+1),0,none⟩ (fun W hW=>Rg.ae _ _ Tryz.underlying27 ((Below.cell (p:=⟨(w.heap.size+1),0,none⟩) hW SI.p.cx.lt).trans SI.p.cx.c))) (hS _ _ (Below.refl _ _) hI) ?_;go_frame
   refine d7 1 7 (.slice (some ⟨ub,uo,none⟩) rl.length uc) 34 rfl rfl (.inl ⟨rfl,fun w _=>Rg.bL (v:=.slice (some ⟨ub,uo,none⟩) rl.length uc) _ rfl rfl⟩) (hS _ _ (Below.refl _ _) hI) ?_;go_frame;refine d7 2 7 (.int .i64 ((k:Nat):Int)) 35 rfl rfl (.inl ⟨rfl,fun w _=>Rg.bL (v:=.int .i64 ((k:Nat):Int)) _ rfl rfl⟩) (hS _ _ (Below.refl _ _) hI) ?_;go_frame;refine d7 3 7 (.pointer (some ⟨ub,uo+k,none⟩)) 36 rfl rfl (Rg.aJ cp _ _ rfl rfl ub (uo) (rl.length) uc (k) rfl rfl HKR.p) (hS _ _ (Below.refl _ _) hI) ?_;go_frame;refine d7 4 7 (.slice (some ⟨sa,so,none⟩) n sc) 37 rfl rfl (j0 ⟨ub,uo+k,none⟩ (fun W hW=>Rg.ae _ _ Tryz.underlying27 ((Below.cell (p:=⟨ub,uo+k,none⟩) hW CS.p.lt).trans CS.p.cell))) (hS _ _ (Below.refl _ _) hI) ?_;go_frame;refine Rg.Any.one (i:=5) (by kernel_rfl) (Rg.Any.ask (some 38) rfl rfl rfl _ _ (aE 118 _ _ rfl rfl (Ot _ _)) ?_)
   refine (yh _ s rf (NS.p.jj hI) GS.p.1 (by rw [GS.p.2]; omega) (by rw [GS.p.2]; exact bW)).mono ?_;rintro e1 ZV ⟨iv,rfl,lY,hb⟩;replace lY:Rg.Ints _ iv (Ma.af (Ma.aX s)):=lY.1;have cq:=Rg.acc hI hb;have bx:=hb;clear hb hI;refine ⟨_,rfl,(hS _ _ bx cq),?_⟩;go_frame;have IV:=U lY;have HZ:=U (show w.heap.size+4<=ZV.heap.size from (SI.p.jj bx).c5.lt);refine Rg.Any.one (i:=6) (by kernel_rfl) (Rg.Any.ask (some 39) rfl rfl rfl _ _ (aj 117 _ _ _ rfl rfl rfl (yj _ _)) ?_);refine (yg _ _ y (Ma.aX s) ZV (SI.p.jj bx).fp.np IV.p (fun z hz=>by rw [(Cm.aH GS.p).2]; exact je GY.p hz) (by rw [GY.p.2]; omega) (by rw [GY.p.2]; exact bW) (by rw [(Cm.aH GS.p).2]; exact bW)).mono ?_;rintro e1 w45 ⟨mv,rfl,iO,hb⟩;have Th:=Ta HZ.p iO;obtain ⟨ma,mo,mc,rfl⟩:=Th.eC (Cm.aT GY.p (Cm.aH GS.p)) bW
   clear iO;have fW:=Rg.acc bx hb;have mf:=Rg.acc cq hb;have iQ:=hb;clear hb bx cq;refine ⟨_,rfl,(hS _ _ fW mf),?_⟩;go_frame;have MV:=U Th;have WB:=U (SI.p.jj fW);have KQ9:=U (KQ.p.jj fW);have MV9:=U MV.p;have Ji:=mf.setCell (p:=⟨w.heap.size+1,0,none⟩) (by show w.heap.size<=w.heap.size+1; omega) (.slice (some ⟨ma,mo,none⟩) n mc);refine Rg.Any.one (i:=7) (by kernel_rfl) (Rg.Any.cC none rfl rfl rfl (Rg.ai _ _ _ rfl _ rfl _ rfl (Rg.br _ dC WB.p.cx.c WB.p.cx.f)) (bT _ _ rfl Ji) ?_);go_frame;clear fW mf iQ;clear SI;clear KQ;clear CX;clear IV;clear MV;refine Rg.Any.done (by kernel_rfl) ?_ _;refine Rg.nO ?_;replace K:=U Ji;clear bT;clear hS Ji;have UU:=WB.p.set MV9.p;have rr:=KQ9.p.set (b:=w.heap.size+1) (o:=0) (.slice (some ⟨ma,mo,none⟩) n mc) (by omega)
   generalize w45.setCell ⟨w.heap.size+1,0,none⟩ (.slice (some ⟨ma,mo,none⟩) n mc)=ZD at *;have SI2:=U UU;have QX:=U rr
   have ZW:=U (show nu (l8 O R) ((pre++[(⟨X,qq.p⟩:Fin RR.length)]).map fun z=>z.1) x=some (Ma.ar y (Ma.aX s)) by
    rw [List.map_append]
    exact Bw _ _ _ _ Te.p ZU.p)
   clear UU rr
   gi_wp2
   exact ⟨QX.p.keeps,QX.p.cG,_,_,SI2.p,ZW.p⟩
 case stop =>
  rintro D c k W hD hk ⟨rfl,wz,X,yv,y,h1,h2,h3,h4⟩ hd;obtain ⟨rfl,rfl⟩:=Dn hk h1;rw [l_ (by omega)] at h3;go_wp2;exact Bx (ds:=[D]) h2.cG h2.c4 h2.c5 h2.fp (ME (by have:=X.2; have:=qp.p; omega) h3 h4) rfl rfl (by simp) (fun D' fU=>by simp at fU; subst fU; exact ⟨hd,by have:=kM.p; omega⟩)
 case done =>
  rintro D Wd hD ⟨yv,y,jM,FF⟩ hd;rw [l_ (Nat.le_refl _),qp.p] at FF;have gy:Gd n y:=Dl Wz.p (fun i hi=>List.mem_range.1 hi) GX.p FF;obtain ⟨ya,yo,yc,rfl⟩:=FP.eC jM.fp gy bW;have Te:=U FF;have HD:=U (show w.heap.size<=D by have:=kM.p; omega);clear FB sD SI K FF;have SI:=U jM;have DF:=U hd;have K:=U jM.cG;clear jM hd;go_upto_region 9 with (fail);have eH:Below Wd.heap.size Wd Wd.drew:=(Below.refl _ _).drew;replace SI:=U (SI.p.jj eH);replace DF:=U (DF.p.jj eH);clear eH;refine Rg.Bp ?_;have aw:Below Wd.heap.size Wd Wd.drew:=(Below.refl _ _).drew;generalize dS (fun _:Nat=>True) Wd Wd.drew=F1 at *;clear aw;refine Rg.Any.begin (S:=Rg.aI 4 (fun W:World=>W.cell? ⟨w.heap.size,0,none⟩=some (.int .i64 ((n:Nat):Int))/\W.cell? ⟨w.heap.size+1,0,none⟩=some (.slice (some ⟨ya,yo,none⟩) n yc)) (fun _=>True)) mix ?_
  generalize Wd.drew=UW at *;have hS:∀ (l:Array Bool) W,(fun W:World=>W.cell? ⟨w.heap.size,0,none⟩=some (.int .i64 ((n:Nat):Int))/\W.cell? ⟨w.heap.size+1,0,none⟩=some (.slice (some ⟨ya,yo,none⟩) n yc)) W->Rg.aI 4 (fun W:World=>W.cell? ⟨w.heap.size,0,none⟩=some (.int .i64 ((n:Nat):Int))/\W.cell? ⟨w.heap.size+1,0,none⟩=some (.slice (some ⟨ya,yo,none⟩) n yc)) (fun _=>True) l W:=fun l W h=>⟨.inr h,trivial⟩;have bT:∀ (l:Array Bool) W,l.getD 4 false=true->Rg.aI 4 (fun W:World=>W.cell? ⟨w.heap.size,0,none⟩=some (.int .i64 ((n:Nat):Int))/\W.cell? ⟨w.heap.size+1,0,none⟩=some (.slice (some ⟨ya,yo,none⟩) n yc)) (fun _=>True) l W:=fun l W h=>⟨.inl h,trivial⟩;have hI:(fun W:World=>W.cell? ⟨w.heap.size,0,none⟩=some (.int .i64 ((n:Nat):Int))/\W.cell? ⟨w.heap.size+1,0,none⟩=some (.slice (some ⟨ya,yo,none⟩) n yc)) UW:=⟨SI.p.a0.cell,SI.p.cx.c⟩
  refine i8 0 4 (.slice (some ⟨ya,yo,none⟩) n yc) 40 rfl rfl (j0 ⟨(w.heap.size+1),0,none⟩ (fun W hW=>Rg.ae _ _ Tryz.underlying27 hW.2)) (hS _ _ hI) ?_;go_frame;refine d7 1 4 (.pointer (some ⟨w.heap.size,0,none⟩)) 41 rfl rfl (.inl ⟨rfl,fun w _=>ag _ rfl rfl (fF _ _)⟩) (hS _ _ hI) ?_;go_frame;refine i8 2 4 (.int .i64 ((n:Nat):Int)) 42 rfl rfl (j0 ⟨w.heap.size,0,none⟩ (fun W hW=>ah hW.1)) (hS _ _ hI) ?_;go_frame;have PA:=(show _/\_ from ⟨(SI.p.a0.other (o:=0) (b':=w.heap.size+2) (.slice (some ⟨ya,yo,none⟩) n yc) (by omega)).cell,(SI.p.cx.other (o:=0) (b':=w.heap.size+2) (.slice (some ⟨ya,yo,none⟩) n yc) (by omega)).c⟩);refine Rg.Any.one (i:=3) (by kernel_rfl) (Rg.Any.cC none rfl rfl rfl (Rg.ai _ _ _ rfl _ rfl _ rfl (Rg.br _ dC SI.p.c4.c SI.p.c4.f)) (hS _ _ PA) ?_);go_frame
  refine Rg.Any.one (i:=4) (by kernel_rfl) (Rg.Any.cC none rfl rfl rfl (Rg.ai _ _ _ rfl _ rfl _ rfl (cy _ (SI.p.c5.other _ (by omega)).c (SI.p.c5.other _ (by omega)).f)) (bT _ _ rfl) ?_);go_frame;refine Rg.Any.done (by kernel_rfl) ?_ _;refine Rg.nO ?_;clear bT;clear hS PA;have Pz:=SI.p.stop n;have hdd:=(RF.eP.setCell DF.p ⟨w.heap.size+2,0,none⟩ (.slice (some ⟨ya,yo,none⟩) n yc)).setCell ⟨w.heap.size+3,0,none⟩ (.int .i64 ((n:Nat):Int));generalize (UW.setCell ⟨w.heap.size+2,0,none⟩ (.slice (some ⟨ya,yo,none⟩) n yc)).setCell ⟨w.heap.size+3,0,none⟩ (.int .i64 ((n:Nat):Int))=KU at *;have SS:=U Pz;have DX:=U hdd;clear Pz hdd;go_wp2;exact Bx (ds:=[D]) SS.p.cG SS.p.c4 SS.p.c5 SS.p.fp (MG Te.p) rfl rfl (by simp) (fun D' fU=>by simp at fU; subst fU; exact ⟨DX.p,HD.p⟩)
end
section
open Go.Proofs.Cm (Gr Gd ak cj St Tr ap eG my)
open Classical in
noncomputable def bn (n:Int) (OO:List (List Int)) (RR:List (List (List Int))):Int:=if 1<=n/\n<=64 then (if hZ n OO RR then 0 else 3) else 2
theorem By {n:Int}:oM n OO RR (bn n OO RR):=by
 unfold bn
 by_cases h:1<=n/\n<=64
 ·rw [if_pos h]
  by_cases h2:hZ n OO RR
  ·rw [if_pos h2]; exact .inr ⟨h,.inl ⟨h2,rfl⟩⟩
  ·rw [if_neg h2]; exact .inr ⟨h,.inr ⟨h2,rfl⟩⟩
 ·rw [if_neg h]; exact .inl ⟨h,rfl⟩
theorem y7 {n:Int} {c:Int} (h:oM n OO RR c):c=bn n OO RR:=h.uniq By
theorem fa {n:Int} (h:bn n OO RR=0):hZ n OO RR:=by
 have:=By (n:=n) (OO:=OO) (RR:=RR);rw [h] at this;exact this.zero
theorem tY {n:Int} (h:hZ n OO RR):bn n OO RR=0:=(y7 (oM.of h)).symm
noncomputable def fX (n:Int) (OO:List (List Int)) (RR:List (List (List Int))) (xl:List Int):Int :=
 if bn n OO RR=0 then (if Ma.bB xl=0 then (if (xl.length:Int)=n then 0 else 10) else Ma.bB xl) else bn n OO RR
theorem y8 {n:Int} (h:¬ bn n OO RR=0):fX n OO RR xl=bn n OO RR:=if_neg h
theorem wT {n:Int} (h:bn n OO RR=0) (h2:¬ Ma.bB xl=0):fX n OO RR xl=Ma.bB xl:=by unfold fX; rw [if_pos h,if_neg h2]
theorem y9 {n:Int} (h:bn n OO RR=0) (h2:Ma.bB xl=0) (h3:¬ (xl.length:Int)=n):fX n OO RR xl=10:=by unfold fX; rw [if_pos h,if_pos h2,if_neg h3]
theorem Bz {n:Int} (h:bn n OO RR=0) (h2:Ma.bB xl=0) (h3:(xl.length:Int)=n):fX n OO RR xl=0:=by unfold fX; rw [if_pos h,if_pos h2,if_pos h3]
theorem FG {n:Int} (h:fX n OO RR xl=0):∃ (N:Nat) (O:List (List Nat)) (R:List (List (List Nat))) (x:List Nat),n=((N:Nat):Int)/\1<=N/\N<=64/\OO=O.map Ma.af/\RR=R.map (List.map Ma.af)/\ak N (Gr N (·∈R.flatten)) O R/\cj N (Gr N (·∈R.flatten))/\xl=Ma.af x/\Gd N x:=by
 by_cases h1:bn n OO RR=0
 ·by_cases h2:Ma.bB xl=0
  ·by_cases h3:(xl.length:Int)=n
   ·obtain ⟨N,O,R,rfl,a1,a2,a3,a4,a5,a6⟩:=fa h1
    obtain ⟨x,rfl,hx⟩:=Ma.lQ (Ma.jh h2).2.2;rw [Ma.az] at h3;exact ⟨N,O,R,x,rfl,a1,a2,a3,a4,a5,Gr.bV a6,rfl,hx,by omega⟩
   ·rw [y9 h1 h2 h3] at h; cases h
  ·rw [wT h1 h2] at h; exact absurd h h2
 ·rw [y8 h1] at h; exact absurd h h1
def nW (l:List Int):List Nat:=l.map Int.toNat
theorem dn (l:List Nat):nW (Ma.af l)=l:=by
 unfold nW Ma.af;rw [List.map_map];exact (List.map_congr_left fun x _=>Int.toNat_natCast x).trans (List.map_id _)
theorem kO (l:List (List Nat)):(l.map Ma.af).map nW=l:=by
 rw [List.map_map];exact (List.map_congr_left fun x _=>dn x).trans (List.map_id _)
theorem iD (l:List (List (List Nat))):(l.map (List.map Ma.af)).map (List.map nW)=l:=by
 rw [List.map_map];exact (List.map_congr_left fun x _=>kO x).trans (List.map_id _)
def Ti (n:Int) (OO:List (List Int)) (RR:List (List (List Int))) (xl:List Int):Nat × List Nat:=l9 n.toNat (OO.map nW) (RR.map (List.map nW)) (nW xl)
theorem KV {x:List Nat}:Ti ((N:Nat):Int) (O.map Ma.af) (R.map (List.map Ma.af)) (Ma.af x)=l9 N O R x:=by
 unfold Ti;rw [kO,iD,dn,Int.toNat_natCast]
noncomputable def nX (n:Int) (OO:List (List Int)) (RR:List (List (List Int))) (xl:List Int):Bool :=
 if fX n OO RR xl=0 then decide ((((Ti n OO RR xl).1:Nat):Int)=n) else false
theorem PB {n:Int} (h:¬ fX n OO RR xl=0):nX n OO RR xl=false:=if_neg h
theorem KZ {x:List Nat} (h:fX ((N:Nat):Int) (O.map Ma.af) (R.map (List.map Ma.af)) (Ma.af x)=0):nX ((N:Nat):Int) (O.map Ma.af) (R.map (List.map Ma.af)) (Ma.af x)=decide ((((l9 N O R x).1:Nat):Int)=((N:Nat):Int)):=by
 unfold nX; rw [if_pos h,KV]
noncomputable def lx (n:Int) (OO:List (List Int)) (RR:List (List (List Int))) (m:Int) (dK:List (List Int)) (dL:List (List (List Int))):Int :=
 if bn n OO RR=0 then (if bn m dK dL=0 then (if n=m then 0 else 10) else bn m dK dL) else bn n OO RR
noncomputable def rN (n:Int) (OO:List (List Int)) (RR:List (List (List Int))) (m:Int) (dK:List (List Int)) (dL:List (List (List Int))):Bool :=
 if lx n OO RR m dK dL=0 then RR.flatten.all (fun x=>decide ((((Ti m dK dL x).1:Nat):Int)=m)) else false
theorem MI {n:Int} {m:Int} (h:¬ bn n OO RR=0):lx n OO RR m dK dL=bn n OO RR:=if_neg h
theorem MJ {n:Int} {m:Int} (h:bn n OO RR=0) (h2:¬ bn m dK dL=0):lx n OO RR m dK dL=bn m dK dL:=by unfold lx; rw [if_pos h,if_neg h2]
theorem ML {n:Int} {m:Int} (h:bn n OO RR=0) (h2:bn m dK dL=0) (h3:¬ n=m):lx n OO RR m dK dL=10:=by unfold lx; rw [if_pos h,if_pos h2,if_neg h3]
theorem FH {n:Int} {m:Int} (h:bn n OO RR=0) (h2:bn m dK dL=0) (h3:n=m):lx n OO RR m dK dL=0:=by unfold lx; rw [if_pos h,if_pos h2,if_pos h3]
noncomputable def nY (n:Int) (OO:List (List Int)) (RR:List (List (List Int))):List (List Int):=if bn n OO RR=0 then RR.flatMap (List.drop 1) else []
end
section
open Go.RowKit
open Go.Proofs.Ob
open Go.Proofs.Cm (Gd)
attribute [local irreducible] Go.Calls Go.wpList
theorem vO (args:Array Value) (w:World):(callFunc 73 args).run Tryz.prog w=.ok (.enter 73 args) w:=by kernel_rfl
theorem WC (args:Array Value) (w:World):(callFunc 89 args).run Tryz.prog w=.ok (.enter 89 args) w:=by kernel_rfl
theorem PE (args:Array Value) (w:World):(callFunc 90 args).run Tryz.prog w=.ok (.enter 90 args) w:=by kernel_rfl
theorem km {n:Int} (h:aW w ov rv OO RR) :
  Calls Tryz.prog 73 #[.agg #[.int .i64 n,ov,rv]] w fun e w'=>e=.returned (.int .i64 (bn n OO RR))/\Below w.heap.size w w':=by
 refine (Dh h).mono ?_;rintro e w' ⟨c,rfl,h1,h2⟩;exact ⟨by rw [y7 h1],h2⟩
theorem FL {n:Int} (h:aW w ov rv OO RR) (hx:Rg.Ints w xv xl) :
  Calls Tryz.prog 89 #[.agg #[.int .i64 n,ov,rv],xv] w fun e w'=>e=.returned (.int .i64 (fX n OO RR xl))/\Below w.heap.size w w':=by
 obtain ⟨oa,oc,rfl,-⟩:=h.1.shape;obtain ⟨ra,rc,rfl⟩:=h.2.shape;obtain ⟨xa,xc,rfl,-⟩:=hx.shape;have HC:=U h;have HX:=U hx;have K:=U (Below.refl w.heap.size w);clear h hx
 go_enter Tryz.func89,Tryz.ntmps89
 go_upto_region 0 with (fail);refine c6 ?_;have aF:=eY w (.int .i64 n) (.slice oa OO.length oc) (.slice ra RR.length rc);refine d4 2 (Rg.aY _ _ rfl rfl) ?_;go_frame;have hb:=(Below.refl w.heap.size w).alloc (Nat.le_refl _) (.cells #[.int .i64 n,.slice oa OO.length oc,.slice ra RR.length rc] 25);generalize w.alloc (.cells #[.int .i64 n,.slice oa OO.length oc,.slice ra RR.length rc] 25)=w1 at *;replace HC:=U (HC.p.jj hb);replace HX:=U (HX.p.jj hb);replace K:=U (Rg.acc K.p hb);clear hb;have A0:=U aF.1;have A1:=U aF.2.1;have A2:=U aF.2.2;clear aF;refine d6 4 (.int .i64 ((0:Nat):Int)) ?_;go_frame;obtain ⟨ck,dY⟩:∃ c,Hid (bn n OO RR=c):=⟨_,U rfl⟩;obtain ⟨pk,gP⟩:∃ c,Hid (Ma.bB xl=c):=⟨_,U rfl⟩;go_upto_region 1 with (fail);refine c6 ?_;refine d4 7 (g9 ((.agg #[.int .i64 n,.slice oa OO.length oc,.slice ra RR.length rc])) ⟨w.heap.size,0,none⟩ (aq A0.p.cell A1.p.cell A2.p.cell)) ?_;go_frame
 refine f8 8 (aE 73 _ _ rfl rfl (vO _ _)) ?_;refine (km HC.p).mono ?_;rintro e1 w2 ⟨rfl,hb⟩;rw [dY.p];refine ⟨_,rfl,?_⟩;go_frame;replace HC:=U (HC.p.jj hb);replace HX:=U (HX.p.jj hb);replace A0:=U (A0.p.jj hb);replace A1:=U (A1.p.jj hb);replace A2:=U (A2.p.jj hb);replace K:=U (Rg.acc K.p hb);clear hb;refine d6 5 (.int .i64 ck) ?_;go_frame
 by_cases h0:ck=0
 case neg =>
  skip
  go_upto_region 2 with (fail);refine c6 ?_;refine d5 9 (.int .i64 ck) ?_;go_frame;refine d4 10 (i3 (.bool true) .neq (h:=aQ _ (decide_eq_true h0))) ?_;go_frame;go_upto_region 3 with (fail);refine c6 ?_;refine d5 11 (.int .i64 ck) ?_;go_frame;refine d6 4 (.int .i64 ck) ?_;go_frame;go_wp2;go_ret;exact ⟨by rw [y8 (by rw [dY.p]; exact h0),dY.p]; rfl,K.p⟩
 case pos =>
  have HZ:=U (dY.p.trans h0);go_upto_region 2 with (fail);refine c6 ?_;refine d5 9 (.int .i64 ck) ?_;go_frame;refine d4 10 (i3 (.bool false) .neq (h:=aQ _ (decide_eq_false (fun e=>e h0)))) ?_;go_frame;clear h0;go_upto_region 4 with (fail);refine c6 ?_;refine d5 12 (.slice xa xl.length xc) ?_;go_frame;refine f8 13 (aE 68 _ _ rfl rfl (yO _ _)) ?_;refine (dQ _ _ w2 HX.p).mono ?_;rintro e1 w3 ⟨rfl,hb⟩;rw [gP.p];refine ⟨_,rfl,?_⟩;go_frame;replace HC:=U (HC.p.jj hb);replace HX:=U (HX.p.jj hb);replace A0:=U (A0.p.jj hb);replace A1:=U (A1.p.jj hb);replace A2:=U (A2.p.jj hb);replace K:=U (Rg.acc K.p hb);clear hb;refine d6 6 (.int .i64 pk) ?_;go_frame
  by_cases h1:pk=0
  case neg =>
   skip
   go_upto_region 5 with (fail);refine c6 ?_;refine d5 14 (.int .i64 pk) ?_;go_frame;refine d4 15 (i3 (.bool true) .neq (h:=aQ _ (decide_eq_true h1))) ?_;go_frame;go_upto_region 6 with (fail);refine c6 ?_;refine d5 16 (.int .i64 pk) ?_;go_frame;refine d6 4 (.int .i64 pk) ?_;go_frame;go_wp2;go_ret;exact ⟨by rw [wT HZ.p (by rw [gP.p]; exact h1),gP.p]; rfl,K.p⟩
  case pos =>
   have HP:=U (gP.p.trans h1);go_upto_region 5 with (fail);refine c6 ?_;refine d5 14 (.int .i64 pk) ?_;go_frame;refine d4 15 (i3 (.bool false) .neq (h:=aQ _ (decide_eq_false (fun e=>e h1)))) ?_;go_frame;clear h1
   by_cases h2:(xl.length:Int)=n
   case neg =>
    skip
    go_upto_region 7 with (fail);refine c6 ?_;refine d5 17 (.slice xa xl.length xc) ?_;go_frame;refine d4 18 (i4 Tryz.underlying27) ?_;go_frame;refine d4 19 (ag _ rfl rfl (fF _ _)) ?_;go_frame;refine d4 20 (g9 (.int .i64 n) ⟨w.heap.size,0,none⟩ (ah A0.p.cell)) ?_;go_frame;refine d4 21 (i3 (.bool true) .neq (h:=aQ _ (decide_eq_true h2))) ?_;go_frame;go_upto_region 8 with (fail);refine c6 ?_;refine d6 4 (.int .i64 ((10:Nat):Int)) ?_;go_frame;go_wp2;go_ret;exact ⟨by rw [y9 HZ.p HP.p h2]; rfl,K.p⟩
   case pos =>
    skip
    go_upto_region 7 with (fail);refine c6 ?_;refine d5 17 (.slice xa xl.length xc) ?_;go_frame;refine d4 18 (i4 Tryz.underlying27) ?_;go_frame;refine d4 19 (ag _ rfl rfl (fF _ _)) ?_;go_frame;refine d4 20 (g9 (.int .i64 n) ⟨w.heap.size,0,none⟩ (ah A0.p.cell)) ?_;go_frame;refine d4 21 (i3 (.bool false) .neq (h:=aQ _ (decide_eq_false (fun e=>e h2)))) ?_;go_frame;go_upto_region 9 with (fail);refine c6 ?_;refine d6 4 (.int .i64 ((0:Nat):Int)) ?_;go_frame;go_wp2;go_ret;exact ⟨by rw [Bz HZ.p HP.p h2]; rfl,K.p⟩
theorem MM {x:List Nat} (fL:1<=N) (Ax:N<=64) (cQ:Cm.ak N (Cm.Gr N (·∈R.flatten)) O R) (hH:Cm.cj N (Cm.Gr N (·∈R.flatten))) (gx:Gd N x) (h:aW w ov rv (O.map Ma.af) (R.map (List.map Ma.af))) (hx:Rg.Ints w xv (Ma.af x)) :
  Calls Tryz.prog 90 #[.agg #[.int .i64 ((N:Nat):Int),ov,rv],xv] w (Dm N O R x w):=y0 fL Ax hH cQ rfl rfl h hx gx
theorem nZ {n:Int} (h:aW w ov rv OO RR) (hx:Rg.Ints w xv xl) :
  Calls Tryz.prog 67 #[.agg #[.int .i64 n,ov,rv],xv] w fun e w'=>e=.returned (.tuple #[.bool (nX n OO RR xl),.int .i64 (fX n OO RR xl)])/\Below w.heap.size w w':=by
 obtain ⟨oa,oc,rfl,-⟩:=h.1.shape;obtain ⟨ra,rc,rfl⟩:=h.2.shape;obtain ⟨xa,xc,rfl,-⟩:=hx.shape;have HC:=U h;have HX:=U hx;have K:=U (Below.refl w.heap.size w);clear h hx
 go_enter Tryz.func67,Tryz.ntmps67
 go_upto_region 0 with (fail);refine c6 ?_;have aF:=eY w (.int .i64 n) (.slice oa OO.length oc) (.slice ra RR.length rc);refine d4 2 (Rg.aY _ _ rfl rfl) ?_;go_frame;have hb:=(Below.refl w.heap.size w).alloc (Nat.le_refl _) (.cells #[.int .i64 n,.slice oa OO.length oc,.slice ra RR.length rc] 25);generalize w.alloc (.cells #[.int .i64 n,.slice oa OO.length oc,.slice ra RR.length rc] 25)=w1 at *;replace HC:=U (HC.p.jj hb);replace HX:=U (HX.p.jj hb);replace K:=U (Rg.acc K.p hb);clear hb;have A0:=U aF.1;have A1:=U aF.2.1;have A2:=U aF.2.2;clear aF;refine d6 4 (.bool false) ?_;go_frame;refine d6 5 (.int .i64 ((0:Nat):Int)) ?_;go_frame;obtain ⟨bk,Fb⟩:∃ c,Hid (fX n OO RR xl=c):=⟨_,U rfl⟩;go_upto_region 1 with (fail);refine c6 ?_;refine d4 9 (g9 ((.agg #[.int .i64 n,.slice oa OO.length oc,.slice ra RR.length rc])) ⟨w.heap.size,0,none⟩ (aq A0.p.cell A1.p.cell A2.p.cell)) ?_;go_frame
 refine d5 10 (.slice xa xl.length xc) ?_;go_frame;refine f8 11 (aj 89 _ _ _ rfl rfl rfl (WC _ _)) ?_;refine (FL HC.p HX.p).mono ?_;rintro e1 w2 ⟨rfl,hb⟩;rw [Fb.p];refine ⟨_,rfl,?_⟩;go_frame;replace HC:=U (HC.p.jj hb);replace HX:=U (HX.p.jj hb);replace A0:=U (A0.p.jj hb);replace A1:=U (A1.p.jj hb);replace A2:=U (A2.p.jj hb);replace K:=U (Rg.acc K.p hb);clear hb;refine d6 6 (.int .i64 bk) ?_;go_frame
 by_cases h0:bk=0
 case neg =>
  skip
  go_upto_region 2 with (fail);refine c6 ?_;refine d5 12 (.int .i64 bk) ?_;go_frame;refine d4 13 (i3 (.bool true) .neq (h:=aQ _ (decide_eq_true h0))) ?_;go_frame;go_upto_region 3 with (fail);refine c6 ?_;refine d5 14 (.int .i64 bk) ?_;go_frame;refine d6 4 (.bool false) ?_;go_frame;refine d6 5 (.int .i64 bk) ?_;go_frame;go_wp2
  go_ret2
  exact ⟨by rw [PB (by rw [Fb.p]; exact h0),Fb.p]; rfl,K.p⟩
 case pos =>
  have HZ:=U (Fb.p.trans h0);go_upto_region 2 with (fail);refine c6 ?_;refine d5 12 (.int .i64 bk) ?_;go_frame;refine d4 13 (i3 (.bool false) .neq (h:=aQ _ (decide_eq_false (fun e=>e h0)))) ?_;go_frame;obtain ⟨N,O,R,x,rfl,fL,Ax,rfl,rfl,cQ,hH,rfl,gx⟩:=FG HZ.p;have dE:=U cQ;have HH:=U hH;have GX:=U gx;clear cQ hH gx h0;obtain ⟨bb,mW⟩:∃ b,Hid (decide ((((l9 N O R x).1:Nat):Int)=((N:Nat):Int))=b):=⟨_,U rfl⟩;go_upto_region 4 with (fail);refine c6 ?_;refine d4 16 (g9 ((.agg #[.int .i64 ((N:Nat):Int),.slice oa (O.map Ma.af).length oc,.slice ra (R.map (List.map Ma.af)).length rc])) ⟨w.heap.size,0,none⟩ (aq A0.p.cell A1.p.cell A2.p.cell)) ?_;go_frame;refine d5 17 (.slice xa (Ma.af x).length xc) ?_;go_frame;refine f8 18 (aj 90 _ _ _ rfl rfl rfl (PE _ _)) ?_;refine (MM fL Ax dE.p HH.p GX.p HC.p HX.p).mono ?_
  rintro e1 w3 ⟨v1,rfl,nR,hb⟩;refine ⟨_,rfl,?_⟩;go_frame;replace HC:=U (HC.p.jj hb);replace HX:=U (HX.p.jj hb);replace A0:=U (A0.p.jj hb);replace A1:=U (A1.p.jj hb);replace A2:=U (A2.p.jj hb);replace K:=U (Rg.acc K.p hb);clear hb;refine d5 15 (.tuple #[v1,.int .i64 (((l9 N O R x).1:Nat):Int)]) ?_;go_frame;refine d4 19 (i7 (v1)) ?_;go_frame;refine d4 20 (i7 (.int .i64 (((l9 N O R x).1:Nat):Int))) ?_;go_frame;refine d6 7 (v1) ?_;go_frame;refine d6 8 (.int .i64 (((l9 N O R x).1:Nat):Int)) ?_;go_frame;go_upto_region 5 with (fail);refine c6 ?_;refine d5 21 (.int .i64 (((l9 N O R x).1:Nat):Int)) ?_;go_frame;refine d4 22 (ag _ rfl rfl (fF _ _)) ?_;go_frame;refine d4 23 (g9 (.int .i64 ((N:Nat):Int)) ⟨w.heap.size,0,none⟩ (ah A0.p.cell)) ?_;go_frame;refine d4 24 (i3 (.bool bb) .eql (h:=iN _ mW.p)) ?_;go_frame
  refine d6 4 (.bool bb) ?_;go_frame;refine d6 5 (.int .i64 ((0:Nat):Int)) ?_;go_frame;go_wp2
  go_ret2
  exact ⟨by rw [KZ HZ.p,HZ.p,mW.p]; rfl,K.p⟩
end
section
open Go.RowKit
open Go.Proofs.Ob
open Go.Shelf
open Go.Proofs.Cm (Gd)
attribute [local go_sem] Oper.semAt_some
attribute [local irreducible] Go.Calls Go.wpList Go.wpListIn
structure tZ (w:World) (n m:Int) (ov rv kL lj:Value) (W:World) (bv:Bool) (c:Int):Prop where
 cG:Below w.heap.size w W
 a0:CL W w.heap.size 0 (.int .i64 n)
 a1:CL W w.heap.size 1 ov
 a2:CL W w.heap.size 2 rv
 b0:CL W (w.heap.size+1) 0 (.int .i64 m)
 b1:CL W (w.heap.size+1) 1 kL
 b2:CL W (w.heap.size+1) 2 lj
 c4:CW W (w.heap.size+2) (.bool bv)
 c5:CW W (w.heap.size+3) (.int .i64 c)
theorem tZ.jj {w:World} {n m:Int} {ov rv kL lj:Value} {W W':World} {bv:Bool} {c:Int} (h:tZ w n m ov rv kL lj W bv c) (hb:Below W.heap.size W W'):tZ w n m ov rv kL lj W' bv c :=
 ⟨h.cG.trans (hb.mono h.cG.size),h.a0.up hb,h.a1.up hb,h.a2.up hb,h.b0.up hb,h.b1.up hb,h.b2.up hb,h.c4.jj hb,h.c5.jj hb⟩
theorem tZ.keep {n m:Int} {kL lj:Value} {bv:Bool} {c:Int} {row:Option Nat} (h:tZ w n m ov rv kL lj W bv c) (hB:w.heap.size+4<=B) (hg:W.grownBy W' row) (hr:∀ r,row=some r->B<=r/\∃ o:Obj,W.heap[r]?=some o/\o.isCells=false):tZ w n m ov rv kL lj W' bv c:=by
 have hk:Rg.Kp (fun k=>row=some k) W W':=Rg.Kp.dc hg fun _ e=>e
 have hM:∀ b,b<B->¬ row=some b:=fun b hb e=>by have:=(hr b e).1; omega
 exact ⟨h.cG.grown hg h.cG.size (fun k e=>by have:=(hr k e).1; omega),h.a0.kp hk (hM _ (by omega)),h.a1.kp hk (hM _ (by omega)),h.a2.kp hk (hM _ (by omega)),h.b0.kp hk (hM _ (by omega)),h.b1.kp hk (hM _ (by omega)),h.b2.kp hk (hM _ (by omega)),h.c4.kp hk (hM _ (by omega)),h.c5.kp hk (hM _ (by omega))⟩
theorem tZ.set {w:World} {n m:Int} {ov rv kL lj:Value} {W:World} {bv:Bool} {c:Int} (h:tZ w n m ov rv kL lj W bv c) (PF:Bool) (c':Int):tZ w n m ov rv kL lj ((W.setCell ⟨w.heap.size+2,0,none⟩ (.bool PF)).setCell ⟨w.heap.size+3,0,none⟩ (.int .i64 c')) PF c':=by
 have gJ:Rg.Kp (fun z=>z=w.heap.size+2) W (W.setCell ⟨w.heap.size+2,0,none⟩ (.bool PF)):=Rg.Kp.aO rfl;have cU:Rg.Kp (fun z=>z=w.heap.size+3) (W.setCell ⟨w.heap.size+2,0,none⟩ (.bool PF)) ((W.setCell ⟨w.heap.size+2,0,none⟩ (.bool PF)).setCell ⟨w.heap.size+3,0,none⟩ (.int .i64 c')):=Rg.Kp.aO rfl
 exact ⟨(h.cG.setCell (p:=⟨w.heap.size+2,0,none⟩) (by show w.heap.size<=w.heap.size+2; omega) _).setCell (p:=⟨w.heap.size+3,0,none⟩) (by show w.heap.size<=w.heap.size+3; omega) _,
  (h.a0.kp gJ (by omega)).kp cU (by omega),(h.a1.kp gJ (by omega)).kp cU (by omega),(h.a2.kp gJ (by omega)).kp cU (by omega),(h.b0.kp gJ (by omega)).kp cU (by omega),(h.b1.kp gJ (by omega)).kp cU (by omega),(h.b2.kp gJ (by omega)).kp cU (by omega),(h.c4.set _).other _ (by omega),(h.c5.other _ (by omega)).set _⟩
def K0 (n:Int) (OO:List (List Int)) (RR:List (List (List Int))) (m:Int) (dK:List (List Int)) (dL:List (List (List Int))) (w:World) (e:Ending) (w':World):Prop:=e=.returned (.tuple #[.bool (rN n OO RR m dK dL),.int .i64 (lx n OO RR m dK dL)])/\Below w.heap.size w w'
theorem n5 {n m:Int} {kL lj:Value} {tmps:Array Value} {b:Bool} {c:Int} {ds:List Nat} (h:tZ w n m ov rv kL lj W b c) (hb:rN n OO RR m dK dL=b) (hc:lx n OO RR m dK dL=c) (p4:tmps.getD 4 undef=.pointer (some ⟨w.heap.size+2,0,none⟩)) (p5:tmps.getD 5 undef=.pointer (some ⟨w.heap.size+3,0,none⟩)) (hnd:ds.Nodup) (hD:∀ D,D∈ds->RF.eP D W/\w.heap.size<=D) :
  LeavesInM Fence.wide 0 Tryz.prog Tryz.f72 tmps (K0 n OO RR m dK dL w) (ds.map RF.mark) .returning W :=
 RF.leaves w.heap.size ds W hnd hD fun W' l1 l2 _=>⟨_,gD rfl _ p4 p5 (rE ((l2 _).trans h.c4.c)) (l7 ((l2 _).trans h.c5.c)),by rw [hb,hc],h.cG.trans l1⟩
theorem vP {n m:Int} (h:¬ lx n OO RR m dK dL=0):rN n OO RR m dK dL=false:=if_neg h
theorem vQ (h:lx ((N:Nat):Int) (O.map Ma.af) (R.map (List.map Ma.af)) ((N:Nat):Int) (O'.map Ma.af) (R'.map (List.map Ma.af))=0) :
  rN ((N:Nat):Int) (O.map Ma.af) (R.map (List.map Ma.af)) ((N:Nat):Int) (O'.map Ma.af) (R'.map (List.map Ma.af))=R.flatten.all (fun x=>decide ((l9 N O' R' x).1=N)):=by
 unfold rN;rw [if_pos h,nj,List.all_map]
 congr 1
 funext x
 simp only [Function.comp];rw [KV];exact decide_eq_decide.2 (by omega)
def Tj (N:Nat) (R:List (List (List Nat))) (O':List (List Nat)) (R':List (List (List Nat))) {k:Nat} (pre:List (Fin k)):Prop:=∀ z∈pre,∀ x∈R.getD z.1 [],(l9 N O' R' x).1=N
theorem Tj.all {N:Nat} {R:List (List (List Nat))} {O':List (List Nat)} {R':List (List (List Nat))} {k:Nat} (hk:R.length=k) (h:Tj N R O' R' (dX k k)):R.flatten.all (fun x=>decide ((l9 N O' R' x).1=N))=true:=by
 rw [List.all_eq_true];intro x hx;obtain ⟨r,hr,hx⟩:=List.mem_flatten.1 hx;obtain ⟨i,hi,rfl⟩:=List.getElem_of_mem hr;rw [yJ] at h;have:=h ⟨i,hk▸hi⟩ (List.mem_finRange _) x (by rw [df hi]; exact hx)
 simpa using this
theorem WD {x:List Nat} (hx:x∈R.flatten) (h:¬ (l9 N O' R' x).1=N):R.flatten.all (fun x=>decide ((l9 N O' R' x).1=N))=false:=by
 rw [List.all_eq_false];exact ⟨x,hx,by simpa using h⟩
theorem Dq {n m:Int} {kL lj:Value} (h:aW w ov rv OO RR) (h':aW w kL lj dK dL) :
  Calls Tryz.prog 72 #[.agg #[.int .i64 n,ov,rv],.agg #[.int .i64 m,kL,lj]] w (K0 n OO RR m dK dL w):=by
 obtain ⟨oa,oc,rfl,-⟩:=h.1.shape;obtain ⟨ra,rc,rfl⟩:=h.2.shape;obtain ⟨xx,vI,rfl,-⟩:=h'.1.shape;obtain ⟨AE,y_,rfl⟩:=h'.2.shape;have HC:=U h;have HD:=U h';have tS:=HC;have HR:=U h.2;have HE:=HD;have K:=U (Below.refl w.heap.size w);clear h h';refine RF.fV Tryz.func72 rfl ?_;simp only [Tryz.ntmps72,List.size_toArray,List.length_cons,List.length_nil,Nat.reduceAdd,Nat.reduceSub,Array.replicate_succ,Array.replicate_zero,List.push_toArray,List.append_toArray,List.nil_append,List.cons_append];have yu:w.heap.size=w.heap.size+0:=rfl;go_upto_region 0 with (fail);refine c6 ?_;have aF:=eY w (.int .i64 n) (.slice oa OO.length oc) (.slice ra RR.length rc)
 have hs:(w.alloc (.cells #[.int .i64 n,.slice oa OO.length oc,.slice ra RR.length rc] 25)).heap.size=w.heap.size+1:=by simp
 refine d4 2 (Rg.aY _ _ rfl rfl) ?_;go_frame;have hb:=(Below.refl w.heap.size w).alloc (Nat.le_refl _) (.cells #[.int .i64 n,.slice oa OO.length oc,.slice ra RR.length rc] 25);generalize w.alloc (.cells #[.int .i64 n,.slice oa OO.length oc,.slice ra RR.length rc] 25)=w1 at *;replace HC:=U (HC.p.jj hb);replace HD:=U (HD.p.jj hb);replace K:=U (Rg.acc K.p hb);clear hb;have A0:=U aF.1;have A1:=U aF.2.1;have A2:=U aF.2.2
 have lD:w1.heap.size=w.heap.size+1:=by omega
 clear hs;clear aF;have aF:=eY w1 (.int .i64 m) (.slice xx dK.length vI) (.slice AE dL.length y_)
 have hs:(w1.alloc (.cells #[.int .i64 m,.slice xx dK.length vI,.slice AE dL.length y_] 25)).heap.size=w1.heap.size+1:=by simp
 refine d4 3 (Rg.aY _ _ rfl rfl) ?_;go_frame;have hb:=(Below.refl w1.heap.size w1).alloc (Nat.le_refl _) (.cells #[.int .i64 m,.slice xx dK.length vI,.slice AE dL.length y_] 25);generalize w1.alloc (.cells #[.int .i64 m,.slice xx dK.length vI,.slice AE dL.length y_] 25)=w2 at *;replace HC:=U (HC.p.jj hb);replace HD:=U (HD.p.jj hb);replace A0:=U (A0.p.jj hb);replace A1:=U (A1.p.jj hb);replace A2:=U (A2.p.jj hb);replace K:=U (Rg.acc K.p hb);clear hb;rw [lD] at aF ⊢
 have iY:w2.heap.size=w.heap.size+2:=by omega
 clear hs;have E0:=U aF.1;have E1:=U aF.2.1;have E2:=U aF.2.2;clear aF;have bX:=CW.new w2 (.bool false) 4
 have hs:(w2.alloc (.cells #[.bool false] 4)).heap.size=w2.heap.size+1:=by simp
 refine d4 4 (AB rfl) ?_;go_frame;have hb:=(Below.refl w2.heap.size w2).alloc (Nat.le_refl _) (.cells #[.bool false] 4);generalize w2.alloc (.cells #[.bool false] 4)=w3 at *;replace HC:=U (HC.p.jj hb);replace HD:=U (HD.p.jj hb);replace A0:=U (A0.p.jj hb);replace A1:=U (A1.p.jj hb);replace A2:=U (A2.p.jj hb);replace E0:=U (E0.p.jj hb);replace E1:=U (E1.p.jj hb);replace E2:=U (E2.p.jj hb);replace K:=U (Rg.acc K.p hb);clear hb;rw [iY] at bX ⊢
 have xu:w3.heap.size=w.heap.size+3:=by omega
 have C4:=U bX;clear bX hs;have bX:=CW.new w3 (.int .i64 0) 30
 have hs:(w3.alloc (.cells #[.int .i64 0] 30)).heap.size=w3.heap.size+1:=by simp
 refine d4 5 (oN rfl) ?_;go_frame;have hb:=(Below.refl w3.heap.size w3).alloc (Nat.le_refl _) (.cells #[.int .i64 0] 30);generalize w3.alloc (.cells #[.int .i64 0] 30)=w4 at *;replace HC:=U (HC.p.jj hb);replace HD:=U (HD.p.jj hb);replace A0:=U (A0.p.jj hb);replace A1:=U (A1.p.jj hb);replace A2:=U (A2.p.jj hb);replace E0:=U (E0.p.jj hb);replace E1:=U (E1.p.jj hb);replace E2:=U (E2.p.jj hb);replace C4:=U (C4.p.jj hb);replace K:=U (Rg.acc K.p hb);clear hb;rw [xu] at bX ⊢
 have Mu:w4.heap.size=w.heap.size+4:=by omega
 have C5:=U bX;clear bX hs;have BI:=U (show tZ w n m (.slice oa OO.length oc) (.slice ra RR.length rc) (.slice xx dK.length vI) (.slice AE dL.length y_) w4 false 0 from ⟨K.p,A0.p,A1.p,A2.p,E0.p,E1.p,E2.p,C4.p,C5.p⟩);clear A0 A1 A2 E0 E1 E2 C4 C5 yu lD iY xu;obtain ⟨ck,dY⟩:∃ c,Hid (bn n OO RR=c):=⟨_,U rfl⟩;obtain ⟨dk,Tl⟩:∃ c,Hid (bn m dK dL=c):=⟨_,U rfl⟩;go_upto_region 1 with (fail);refine c6 ?_;refine d4 14 (g9 ((.agg #[.int .i64 n,.slice oa OO.length oc,.slice ra RR.length rc])) ⟨w.heap.size,0,none⟩ (aq BI.p.a0.cell BI.p.a1.cell BI.p.a2.cell)) ?_;go_frame;refine f8 15 (aE 73 _ _ rfl rfl (vO _ _)) ?_;refine (km HC.p).mono ?_;rintro e1 w5 ⟨rfl,hb⟩;rw [dY.p];refine ⟨_,rfl,?_⟩;go_frame;replace HC:=U (HC.p.jj hb);replace HD:=U (HD.p.jj hb);replace BI:=U (BI.p.jj hb)
 replace K:=U (Rg.acc K.p hb);clear hb;refine d6 6 (.int .i64 ck) ?_;go_frame
 by_cases h0:ck=0
 case neg =>
  skip
  go_upto_region 2 with (fail);refine c6 ?_;refine d5 16 (.int .i64 ck) ?_;go_frame;refine d4 17 (i3 (.bool true) .neq (h:=aQ _ (decide_eq_true h0))) ?_;go_frame;go_upto_region 3 with (fail);refine c6 ?_;refine d5 18 (.int .i64 ck) ?_;go_frame;refine Rg.aA none rfl rfl (Rg.ai _ _ _ rfl _ rfl _ rfl (fE _ BI.p.c4.c BI.p.c4.f)) ?_;go_frame;refine Rg.aA none rfl rfl (Rg.ai _ _ _ rfl _ rfl _ rfl (bR _ (BI.p.c5.other _ (by omega)).c (BI.p.c5.other _ (by omega)).f)) ?_;go_frame;have t_:=BI.p.set false ck;generalize (w5.setCell ⟨w.heap.size+2,0,none⟩ (.bool false)).setCell ⟨w.heap.size+3,0,none⟩ (.int .i64 ck)=ep at *;have BX:=U t_;have FM:=U (show lx n OO RR m dK dL=ck from (MI (by rw [dY.p]; exact h0)).trans dY.p);have PH:=U (show rN n OO RR m dK dL=false from vP (by rw [FM.p]; exact h0))
  clear t_;go_wp2;exact n5 (ds:=[]) BX.p PH.p FM.p rfl rfl (by simp) (fun D hD=>by simp at hD)
 case pos =>
  have HZ:=U (dY.p.trans h0);go_upto_region 2 with (fail);refine c6 ?_;refine d5 16 (.int .i64 ck) ?_;go_frame;refine d4 17 (i3 (.bool false) .neq (h:=aQ _ (decide_eq_false (fun e=>e h0)))) ?_;go_frame;clear h0;go_upto_region 4 with (fail);refine c6 ?_;refine d4 19 (g9 ((.agg #[.int .i64 m,.slice xx dK.length vI,.slice AE dL.length y_])) ⟨(w.heap.size+1),0,none⟩ (aq BI.p.b0.cell BI.p.b1.cell BI.p.b2.cell)) ?_;go_frame;refine f8 20 (aE 73 _ _ rfl rfl (vO _ _)) ?_;refine (km HD.p).mono ?_;rintro e1 w6 ⟨rfl,hb⟩;rw [Tl.p];refine ⟨_,rfl,?_⟩;go_frame;replace HC:=U (HC.p.jj hb);replace HD:=U (HD.p.jj hb);replace BI:=U (BI.p.jj hb);replace K:=U (Rg.acc K.p hb);clear hb;refine d6 7 (.int .i64 dk) ?_;go_frame
  by_cases h1:dk=0
  case neg =>
   skip
   go_upto_region 5 with (fail);refine c6 ?_;refine d5 21 (.int .i64 dk) ?_;go_frame;refine d4 22 (i3 (.bool true) .neq (h:=aQ _ (decide_eq_true h1))) ?_;go_frame;go_upto_region 6 with (fail);refine c6 ?_;refine d5 23 (.int .i64 dk) ?_;go_frame;refine Rg.aA none rfl rfl (Rg.ai _ _ _ rfl _ rfl _ rfl (fE _ BI.p.c4.c BI.p.c4.f)) ?_;go_frame;refine Rg.aA none rfl rfl (Rg.ai _ _ _ rfl _ rfl _ rfl (bR _ (BI.p.c5.other _ (by omega)).c (BI.p.c5.other _ (by omega)).f)) ?_;go_frame;have t_:=BI.p.set false dk;generalize (w6.setCell ⟨w.heap.size+2,0,none⟩ (.bool false)).setCell ⟨w.heap.size+3,0,none⟩ (.int .i64 dk)=ep at *;have BX:=U t_;have FM:=U (show lx n OO RR m dK dL=dk from (MJ HZ.p (by rw [Tl.p]; exact h1)).trans Tl.p);have PH:=U (show rN n OO RR m dK dL=false from vP (by rw [FM.p]; exact h1))
   clear t_;go_wp2;exact n5 (ds:=[]) BX.p PH.p FM.p rfl rfl (by simp) (fun D hD=>by simp at hD)
  case pos =>
   have HY:=U (Tl.p.trans h1);go_upto_region 5 with (fail);refine c6 ?_;refine d5 21 (.int .i64 dk) ?_;go_frame;refine d4 22 (i3 (.bool false) .neq (h:=aQ _ (decide_eq_false (fun e=>e h1)))) ?_;go_frame;clear h1
   by_cases h2:n=m
   case neg =>
    skip
    go_upto_region 7 with (fail);refine c6 ?_;refine d4 24 (ag _ rfl rfl (fF _ _)) ?_;go_frame;refine d4 25 (g9 (.int .i64 n) ⟨w.heap.size,0,none⟩ (ah BI.p.a0.cell)) ?_;go_frame;refine d4 26 (ag _ rfl rfl (fF _ _)) ?_;go_frame;refine d4 27 (g9 (.int .i64 m) ⟨(w.heap.size+1),0,none⟩ (ah BI.p.b0.cell)) ?_;go_frame;refine d4 28 (i3 (.bool true) .neq (h:=aQ _ (decide_eq_true h2))) ?_;go_frame;go_upto_region 8 with (fail);refine c6 ?_;refine Rg.aA none rfl rfl (Rg.ai _ _ _ rfl _ rfl _ rfl (fE _ BI.p.c4.c BI.p.c4.f)) ?_;go_frame;refine Rg.aA none rfl rfl (Rg.ai _ _ _ rfl _ rfl _ rfl (bR _ (BI.p.c5.other _ (by omega)).c (BI.p.c5.other _ (by omega)).f)) ?_;go_frame;have t_:=BI.p.set false 10;generalize (w6.setCell ⟨w.heap.size+2,0,none⟩ (.bool false)).setCell ⟨w.heap.size+3,0,none⟩ (.int .i64 10)=ep at *
    have BX:=U t_;have FM:=U (show lx n OO RR m dK dL=10 from ML HZ.p HY.p h2);have PH:=U (show rN n OO RR m dK dL=false from vP (by rw [FM.p]; decide));clear t_;go_wp2;exact n5 (ds:=[]) BX.p PH.p FM.p rfl rfl (by simp) (fun D hD=>by simp at hD)
   case pos =>
    skip
    go_upto_region 7 with (fail);refine c6 ?_;refine d4 24 (ag _ rfl rfl (fF _ _)) ?_;go_frame;refine d4 25 (g9 (.int .i64 n) ⟨w.heap.size,0,none⟩ (ah BI.p.a0.cell)) ?_;go_frame;refine d4 26 (ag _ rfl rfl (fF _ _)) ?_;go_frame;refine d4 27 (g9 (.int .i64 m) ⟨(w.heap.size+1),0,none⟩ (ah BI.p.b0.cell)) ?_;go_frame;refine d4 28 (i3 (.bool false) .neq (h:=aQ _ (decide_eq_false (fun e=>e h2)))) ?_;go_frame;have Jj:=U (FH HZ.p HY.p h2);obtain ⟨N,O,R,rfl,fL,Ax,Ag,vN,cQ,iP⟩:=fa HZ.p;obtain ⟨N',O',R',e2,_,_,UX,UY,UZ,U0⟩:=fa HY.p;obtain rfl:m=((N:Nat):Int):=h2.symm
    obtain rfl:N=N':=by omega
    have qp:=U (show RR.length=N by rw [vN,List.length_map,cQ.iK]);have K4:=U (show R.length=RR.length by rw [vN,List.length_map]);have Jh:=U vN;have Tc:=U Ag;have PI:=U UY;have PJ:=U UX;have dE:=U cQ;have ZX:=U UZ;have rm:=U iP;have HH':=U (Cm.Gr.bV (n:=N) (gs:=(·∈R'.flatten)) U0);clear Ag vN cQ iP UX UY UZ U0 h2 e2;go_upto_region 9 with (fail);refine c6 ?_;refine d4 29 (g9 ((.agg #[.int .i64 ((N:Nat):Int),.slice oa OO.length oc,.slice ra RR.length rc])) ⟨w.heap.size,0,none⟩ (aq BI.p.a0.cell BI.p.a1.cell BI.p.a2.cell)) ?_;go_frame;refine f8 30 (aE 74 _ _ rfl rfl (Dg _ _)) ?_;refine (qX _ _ _ w6).mono ?_;rintro e1 w7 ⟨fb,rfl,lI,hb⟩;have eS:=hb.size;refine ⟨_,rfl,?_⟩;go_frame;replace HC:=U (HC.p.jj hb);replace HD:=U (HD.p.jj hb);replace BI:=U (BI.p.jj hb)
    replace K:=U (Rg.acc K.p hb);clear hb;have FB:=U lI;clear lI;have kM:=U (show w.heap.size+4<=w7.heap.size from BI.p.c5.lt);clear eS;obtain ⟨us,rW,tR,yT⟩:=HR.p;have Jb:=U yT
    have yU:Aw w.heap.size w7 ra RR.length (fun k=>us[k]?.getD undef):=by
     obtain ⟨a',c',e,q1,q2,q3,q4⟩:=rW
     injection e with e1 e2 e3
     refine ⟨by have:=qp.p; omega,fun h0=>?_,fun b off e5 j hj=>?_,K.p.size⟩
     ·obtain ⟨b,o,e4,e5,_⟩:=q4 (by omega)
      exact ⟨b,o,e1.trans e4,e5⟩
     ·obtain ⟨b',o',e4,e6,e7⟩:=q4 (by omega)
      rw [e1,e4] at e5;simp only [Option.some.injEq,Addr.mk.injEq,and_true] at e5;obtain ⟨rfl,rfl⟩:=e5;rw [(K.p.cell (p:=⟨b',o'+j,none⟩) e6)];show _=some (us[j]?.getD undef);rw [List.getElem?_eq_getElem (by omega)];exact e7 j (by omega)
    have sD:=U yU;have sF:=U tR;clear rW yU tR yT;go_wp2
    refine tV rfl FB.p sD.p rfl (fun pre W=>tZ w ((N:Nat):Int) ((N:Nat):Int) (.slice oa OO.length oc) (.slice ra RR.length rc) (.slice xx dK.length vI) (.slice AE dL.length y_) W false 0/\Tj N R O' R' pre)
     (fun c pre W=>c=.ret/\tZ w ((N:Nat):Int) ((N:Nat):Int) (.slice oa OO.length oc) (.slice ra RR.length rc) (.slice xx dK.length vI) (.slice AE dL.length y_) W false 0/\R.flatten.all (fun x=>decide ((l9 N O' R' x).1=N))=false) ?hI ?hIx ⟨BI.p,fun z hz=>by simp at hz⟩ ?a1 ?assign ?body ?done ?stop
    case assign =>
     intro l x W K hK
     gi_wp2
     exact hK
    case hI =>
     rintro pre W W' row ⟨h1,h2⟩ hg hr;exact ⟨h1.keep (by have:=kM.p; omega) hg hr,h2⟩
    case hIx =>
     rintro c pre W W' row ⟨rfl,h1,h2⟩ hg hr;exact ⟨rfl,h1.keep (by have:=kM.p; omega) hg hr,h2⟩
    case body =>
     rintro l pre ⟨X,hX⟩ Wb ⟨FN,ye⟩ Wo;obtain ⟨B,hB⟩:∃ B,w7.heap.size=B:=⟨_,rfl⟩;rw [hB] at kM ⊢;clear FB sD BI K hB HC HD
     have nV:X<N:=by have:=qp.p; omega
     have BI:=U FN;have K:=U FN.cG;have KQ:=U (KK.refl (B:=B) (n₀:=w.heap.size) (W:=Wb) FN.cG.size);have HBR:=U ye;have qq:=U hX;have AD:=U nV;have Pq:=U (show w.heap.size+4<=Wb.heap.size from FN.c5.lt);clear FN ye;have hu:=Jb.p X (by rw [sF.p]; exact hX) hX
     have e1:us[X]?.getD undef=us[X]'(by rw [sF.p]; exact hX):=by rw [List.getElem?_eq_getElem (by rw [sF.p]; exact hX)]; rfl
     rw [<- e1] at hu
     dsimp only
     generalize us[X]?.getD undef=u at *;clear e1;obtain ⟨rl,oP⟩:∃ rl:List (List Nat),Hid (R.getD X []=rl):=⟨_,U rfl⟩
     have tX:X<R.length:=by have:=K4.p; omega
     have y6:RR[X]'hX=rl.map Ma.af:=by
      rw [<- oP.p]
      have:RR[X]'hX=(R.map (List.map Ma.af))[X]'(by rw [List.length_map]; exact tX):=by first | (congr 1; done) | (congr 1; exact Jh.p)
      rw [this,List.getElem_map,df tX]
     rw [y6] at hu;have PL:=U (show ∀ x∈rl,x∈R.flatten from fun x hx=>List.mem_flatten.2 ⟨_,List.getElem_mem tX,by rw [<- df tX,oP.p]; exact hx⟩);obtain ⟨ua,uc,rfl,-,-,-,yX⟩:=hu.shape
     have Jk:rl.length<=N - X:=by
      have h1:=dE.p.len X nV;have h2:=hU (Cm.Gr.bV (n:=N) (gs:=(·∈R.flatten)) rm.p) dE.p nV;rw [oP.p] at h1;omega
     have Pn:=U yX;rw [List.length_map];have ZY:=U (show rl.length<=64 by omega);clear yX hu y6 Jk
     gi_upto_region 11 with (fail)
     refine wpIn_region_list ?_;refine Rg.ax (some 33) rfl rfl (fun _ hh=>by cases hh) (a7 (.slice ua rl.length uc) _ rfl rfl) ?_;go_frame;refine Rg.ax (some 34) rfl rfl (fun _ hh=>by cases hh) (i4 Tryz.underlying41) ?_;go_frame;refine Rg.ax (some 35) rfl rfl (fun _ hh=>by cases hh) (a7 (.int .i64 ((0:Nat):Int)) _ rfl rfl) ?_;go_frame;have ZZ:=U (show ∀ x∈rl.take 0,(l9 N O' R' x).1=N from fun x hx=>by simp at hx)
     gi_wp2
     gi_loopw [35] (fun jv wr=>∃ j:Nat,jv=.int .i64 j/\j<=rl.length/\Hid (tZ w ((N:Nat):Int) ((N:Nat):Int) (.slice oa OO.length oc) (.slice ra RR.length rc) (.slice xx dK.length vI) (.slice AE dL.length y_) wr false 0)/\Hid (KK B w.heap.size Wb wr)/\Hid (∀ x∈rl.take j,(l9 N O' R' x).1=N)) (fun jv _=>rl.length - (intOf jv).toNat)
     case atStart=>exact ⟨0,rfl,Nat.zero_le _,BI,KQ,ZZ⟩
     case round =>
      clear BI KQ ZZ K;obtain ⟨j,rfl,hj,BI,KQ,HJ⟩:=hrel;have K:=U BI.p.cG
      by_cases rz:j<rl.length
      ·have Cz:(j:Int)<(rl.length:Int):=by omega
       have pK:=U rz;obtain ⟨ub,uo,rfl,sH,yY⟩:=Pn.p (by rw [List.length_map]; omega);obtain ⟨sv,hsc,jM⟩:=yY j (by rw [List.length_map]; exact rz);obtain ⟨s,hs⟩:∃ s:List Nat,Hid (rl[j]'rz=s):=⟨_,U rfl⟩
       have mC:Rg.NP w sv s:=by rw [<- hs.p]; rw [List.getElem_map] at jM; exact jM
       have Z0:=U (PL.p s (by rw [<- hs.p]; exact List.getElem_mem rz));have GS:=U (rm.p s Z0.p);obtain ⟨sa,so,sc,rfl⟩:=(FP.yw mC).eC GS.p fL;have CS:=U (CL.mk hsc sH);have NS:=U (show Rg.Ints w _ (Ma.af s) from mC);clear yY hsc jM mC sH;obtain ⟨lv,EU⟩:∃ lv:Nat,Hid ((l9 N O' R' s).1=lv):=⟨_,U rfl⟩
       have hle:lv<=N:=by rw [<- EU.p]; exact S9 _
       gi_upto_region 12 with (fail)
       refine wpIn_region_list ?_;refine Rg.ax (some 36) rfl rfl (fun _ hh=>by cases hh) (i3 (.bool true) .lss (h:=bj _ f9)) ?_;go_frame
       gi_upto_region 13 with (fail)
       refine wpIn_region_list ?_;refine Rg.ax (some 37) rfl rfl (fun _ hh=>by cases hh) (aD cp _ _ rfl ub (uo) (rl.length) uc (j) rfl rfl pK.p) ?_;go_frame;refine Rg.ax (some 38) rfl rfl (fun _ hh=>by cases hh) (g9 (.slice (some ⟨sa,so,none⟩) N sc) ⟨ub,uo+j,none⟩ (Rg.ae _ _ Tryz.underlying27 ((Below.cell (p:=⟨ub,uo+j,none⟩) K.p CS.p.lt).trans CS.p.cell))) ?_;go_frame;refine Rg.ax (some 11) rfl rfl (fun _ hh=>by cases hh) (a8 (.slice (some ⟨sa,so,none⟩) N sc) _ rfl rfl) ?_;go_frame
       gi_upto_region 14 with (fail)
       refine wpIn_region_list ?_;refine Rg.ax (some 40) rfl rfl (fun _ hh=>by cases hh) (g9 ((.agg #[.int .i64 ((N:Nat):Int),.slice xx dK.length vI,.slice AE dL.length y_])) ⟨(w.heap.size+1),0,none⟩ (aq BI.p.b0.cell BI.p.b1.cell BI.p.b2.cell)) ?_;go_frame;refine Rg.ax (some 41) rfl rfl (fun _ hh=>by cases hh) (a7 (.slice (some ⟨sa,so,none⟩) N sc) _ rfl rfl) ?_;go_frame;refine Rg.oK (some 42) rfl rfl (fun _ hh=>by cases hh) _ _ (aj 90 _ _ _ rfl rfl rfl (PE _ _)) ?_;refine (y0 fL Ax HH'.p ZX.p PJ.p PI.p (HE.p.jj K.p) (NS.p.jj K.p) GS.p).mono ?_;rintro e1 jn ⟨v1,rfl,nR,hb⟩;rw [EU.p];clear nR;refine ⟨_,rfl,?_⟩;go_frame;replace BI:=U (BI.p.jj hb);replace KQ:=U (KQ.p.jj hb);replace K:=U (Rg.acc K.p hb);clear hb;refine Rg.ax (some 39) rfl rfl (fun _ hh=>by cases hh) (a7 (.tuple #[v1,.int .i64 ((lv:Nat):Int)]) _ rfl rfl) ?_;go_frame
       refine Rg.ax (some 43) rfl rfl (fun _ hh=>by cases hh) (i7 (v1)) ?_;go_frame;refine Rg.ax (some 44) rfl rfl (fun _ hh=>by cases hh) (i7 (.int .i64 ((lv:Nat):Int))) ?_;go_frame;refine Rg.ax (some 12) rfl rfl (fun _ hh=>by cases hh) (a8 (v1) _ rfl rfl) ?_;go_frame;refine Rg.ax (some 13) rfl rfl (fun _ hh=>by cases hh) (a8 (.int .i64 ((lv:Nat):Int)) _ rfl rfl) ?_;go_frame
       by_cases aB:lv<N
       case pos =>
        skip
        gi_upto_region 15 with (fail)
        refine wpIn_region_list ?_;refine Rg.ax (some 45) rfl rfl (fun _ hh=>by cases hh) (a7 (.int .i64 ((lv:Nat):Int)) _ rfl rfl) ?_;go_frame;refine Rg.ax (some 46) rfl rfl (fun _ hh=>by cases hh) (ag _ rfl rfl (fF _ _)) ?_;go_frame;refine Rg.ax (some 47) rfl rfl (fun _ hh=>by cases hh) (g9 (.int .i64 ((N:Nat):Int)) ⟨(w.heap.size+1),0,none⟩ (ah BI.p.b0.cell)) ?_;go_frame;refine Rg.ax (some 48) rfl rfl (fun _ hh=>by cases hh) (i3 (.bool true) .lss (h:=bj _ f9)) ?_;go_frame
        gi_upto_region 16 with (fail)
        refine wpIn_region_list ?_;refine Rg.fH none rfl rfl (fun _ hh=>by cases hh) (Rg.ai _ _ _ rfl _ rfl _ rfl (fE _ BI.p.c4.c BI.p.c4.f)) ?_;go_frame;refine Rg.fH none rfl rfl (fun _ hh=>by cases hh) (Rg.ai _ _ _ rfl _ rfl _ rfl (bR _ (BI.p.c5.other _ (by omega)).c (BI.p.c5.other _ (by omega)).f)) ?_;go_frame;have t_:=BI.p.set false 0;have rr:=(KQ.p.set (b:=w.heap.size+2) (o:=0) (.bool false) (by omega)).set (b:=w.heap.size+3) (o:=0) (.int .i64 0) (by omega);generalize (jn.setCell ⟨w.heap.size+2,0,none⟩ (.bool false)).setCell ⟨w.heap.size+3,0,none⟩ (.int .i64 0)=ep at *;have BX:=U t_;have QX:=U rr;have E8:=U (WD (N:=N) (O':=O') (R':=R') Z0.p (by rw [EU.p]; omega));clear t_ rr
        gi_wp2
        exact ⟨QX.p.keeps,rfl,BX.p,E8.p⟩
       case neg =>
        skip
        gi_upto_region 15 with (fail)
        refine wpIn_region_list ?_;refine Rg.ax (some 45) rfl rfl (fun _ hh=>by cases hh) (a7 (.int .i64 ((lv:Nat):Int)) _ rfl rfl) ?_;go_frame;refine Rg.ax (some 46) rfl rfl (fun _ hh=>by cases hh) (ag _ rfl rfl (fF _ _)) ?_;go_frame;refine Rg.ax (some 47) rfl rfl (fun _ hh=>by cases hh) (g9 (.int .i64 ((N:Nat):Int)) ⟨(w.heap.size+1),0,none⟩ (ah BI.p.b0.cell)) ?_;go_frame;refine Rg.ax (some 48) rfl rfl (fun _ hh=>by cases hh) (i3 (.bool false) .lss (h:=bj _ g7)) ?_;go_frame
        have HJ2:=U (show ∀ x∈rl.take (j+1),(l9 N O' R' x).1=N from fun x hx=>by
         rw [List.take_succ_eq_append_getElem pK.p,show rl[j]'pK.p=s from hs.p] at hx
         rcases List.mem_append.1 hx with hx | hx
         ·exact HJ.p x hx
         ·rw [List.mem_singleton] at hx; subst hx; rw [EU.p]; omega)
        have pM:rl.length<=64:=ZY.p
        gi_wp2
        go_roundw
        case rel=>exact ⟨j+1,by go_num,pK.p,BI,KQ,HJ2⟩
        case measure=>simp [intOf]; have:=pK.p; omega
      ·obtain rfl:j=rl.length:=by omega
       have Cz:¬ (rl.length:Int)<(rl.length:Int):=by omega
       have rq:=U (show Tj N R O' R' (pre++[(⟨X,qq.p⟩:Fin RR.length)]) from fun z hz x hx=>by
        rcases List.mem_append.1 hz with hz | hz
        ·exact HBR.p z hz x hx
        ·rw [List.mem_singleton] at hz
         subst hz;rw [show R.getD X []=rl from oP.p] at hx
         exact HJ.p x (by rw [List.take_length]; exact hx))
       gi_wp2
       exact ⟨KQ.p.keeps,KQ.p.cG,BI.p,rq.p⟩
    case stop =>
     rintro D c k W hD hk ⟨rfl,h1,h2⟩ hd;go_wp2;refine n5 (ds:=[D]) h1 ?_ Jj.p rfl rfl (by simp) (fun D' fU=>by simp at fU; subst fU; exact ⟨hd,by have:=kM.p; omega⟩);have e:=Jj.p;rw [Tc.p,Jh.p,PJ.p,PI.p] at e ⊢;rw [vQ e];exact h2
    case done =>
     rintro D Wd hD ⟨FN,ye⟩ hd;have HAL:=U (ye.all K4.p);have HD:=U (show w.heap.size<=D by have:=kM.p; omega);clear FB sD BI K ye;have BI:=U FN;have DF:=U hd;clear FN hd;go_upto_region 18 with (fail);refine c6 ?_;refine Rg.aA none rfl rfl (Rg.ai _ _ _ rfl _ rfl _ rfl (fE _ BI.p.c4.c BI.p.c4.f)) ?_;go_frame;refine Rg.aA none rfl rfl (Rg.ai _ _ _ rfl _ rfl _ rfl (bR _ (BI.p.c5.other _ (by omega)).c (BI.p.c5.other _ (by omega)).f)) ?_;go_frame;have t_:=BI.p.set true 0;have hdd:=(RF.eP.setCell DF.p ⟨w.heap.size+2,0,none⟩ (.bool true)).setCell ⟨w.heap.size+3,0,none⟩ (.int .i64 0);generalize (Wd.setCell ⟨w.heap.size+2,0,none⟩ (.bool true)).setCell ⟨w.heap.size+3,0,none⟩ (.int .i64 0)=ep at *;have BX:=U t_;have DX:=U hdd
     have HV:=U (show rN ((N:Nat):Int) OO RR ((N:Nat):Int) dK dL=true by
      have e:=Jj.p;rw [Tc.p,Jh.p,PJ.p,PI.p] at e ⊢;rw [vQ e]
      exact HAL.p)
     clear t_ hdd;go_wp2;exact n5 (ds:=[D]) BX.p HV.p Jj.p rfl rfl (by simp) (fun D' fU=>by simp at fU; subst fU; exact ⟨DX.p,HD.p⟩)
end
end Go.Proofs.YtpedbljnhnoohaaGreat
set_option linter.unusedVariables false
namespace Go.Proofs.YtpedbljnhnoohaaGreat
open Go.Proofs
section
open Go.RowKit
open Go.Proofs.Ob
open Go.Shelf
attribute [local irreducible] Go.Calls Go.wpList
theorem FQ {o:Oper} {a:Act} {ad:Addr} {c:Nat} (x y:Operand) (ho:o.op=.binOp .eql 26 x y 26) (hx:a.eval x=.slice (some ad) n c) (hy:a.eval y=.slice none 0 0):(execOp a.eval o).run Tryz.prog w=.ok (.value (.bool false)) w:=by
 have h1:(binOp .eql 26 (.slice (some ad) n c) (.slice none 0 0)).run Tryz.prog w=.ok (.bool false) w:=by kernel_rfl
 have hg:(eqGuard .eql 26 x y (.slice (some ad) n c) (.slice none 0 0)).run Tryz.prog w=.ok () w:=by
  simp [eqGuard]
 unfold execOp;simp only [ho,hx,hy,Sem.run_bind,Sem.run_pure,hg,h1,Result.andThen_ok]
theorem FU (v:Value) (l:List Int) (w:World) (h:Rg.Ints w v l) (h1:1<=l.length) (hl:l.length<=1000000) :
  Calls Tryz.prog 109 #[v] w fun e w'=>∃ v',e=.returned v'/\w'.ownsRow w.heap.size 3 1 v' l.length (l.map (Value.int .i64))/\Below w.heap.size w w':=by
 obtain ⟨la,lc,rfl,_,_,_,hs⟩:=h.shape;obtain ⟨b,o,rfl,_⟩:=hs (by omega);have HI:=U h;have K:=U (Below.refl w.heap.size w);clear h hs
 go_enter Tryz.func109,Tryz.ntmps109
 go_upto_region 1 with (fail);refine c6 ?_;refine d5 3 (.slice (some ⟨b,o,none⟩) l.length lc) ?_;go_frame;refine d4 4 (FQ _ _ rfl rfl rfl) ?_;go_frame;go_upto_region 3 with (fail);refine c6 ?_;have cK:=rH.new (B:=w.heap.size) w (Nat.le_refl _);refine d4 5 (Rg.oB cM rfl w) ?_;go_frame;have hb:=(Below.refl w.heap.size w).alloc (Nat.le_refl _) (.cells #[] 3);generalize w.alloc (.cells #[] 3)=w1 at *;replace HI:=U (HI.p.jj hb);replace K:=U (Rg.acc K.p hb);clear hb;have FO:=U cK;refine d5 6 (.slice (some ⟨b,o,none⟩) l.length lc) ?_;go_frame;obtain ⟨v5,X5,r1,r2,r3⟩:=Rg.uT (P:=Tryz.prog) cM 26 FO.p.1 K.p.size HI.p p8 (by rw [List.length_map]; omega);refine d4 7 (Rg.bF _ _ _ rfl rfl rfl r1) ?_;go_frame;refine d6 2 (v5) ?_;go_frame;rw [List.length_map,Nat.zero_add,List.nil_append] at r2
 have R2:=U r2;have K5:=U (K.p.grown r3 K.p.size (fun j hj=>(FO.p.1.lt j hj).1));clear r1 r2 r3 FO;go_wp2;go_ret;exact ⟨_,rfl,R2.p,K5.p⟩
def MK (tc:Nat) (ov rv:Value) (z:Nat):Prop:=z=tc∨ov.ownBlock=some z∨rv.ownBlock=some z
theorem oQ {e:TypeId} {size:Nat} (h:W.ownsRow B e size v n xs):∀ k,v.ownBlock=some k->∃ o:Obj,W.heap[k]?=some o/\o.isCells=true:=fun k e1=>by
 obtain ⟨_,h3⟩:=h
 rcases h3 with ⟨h4,_⟩ | ⟨g,cap,cur,h4,_,h5,_⟩
 ·rw [h4] at e1; simp [Value.ownBlock] at e1
 ·rw [h4] at e1
  simp [Value.ownBlock] at e1;subst e1;exact ⟨_,h5,rfl⟩
theorem AG {a:Addr} (h:W.cell? a=some v):∃ o:Obj,W.heap[a.block]?=some o/\o.isCells=true:=by
 unfold World.cell? at h
 cases e:W.heap[a.block]? with
 | none=>rw [e] at h; cases h
 | some o =>
  rw [e] at h;refine ⟨o,rfl,?_⟩
  cases o <;> simp at h <;> rfl
theorem gB.isCells {B:Nat} {W:World} {tc:Nat} {c0 c1 c2 ov rv:Value} {O:List (List Int)} {R:List (List (List Int))} (h:gB B W tc c0 c1 c2 ov rv O R):∀ z,MK tc ov rv z->∃ o:Obj,W.heap[z]?=some o/\o.isCells=true:=by
 obtain ⟨us,vs,h1,h2,_⟩:=h.own
 rintro z (e | e | e)
 ·subst e; exact AG h.pH.c0
 ·exact oQ h1 z e
 ·exact oQ h2 z e
theorem vR {row:Option Nat} (hg:W.grownBy W' row) (hr:∀ r,row=some r->∃ o:Obj,W.heap[r]?=some o/\o.isCells=false) {us:List Value} (h:Rg.bE F W us ll):Rg.bE F W' us ll :=
 ⟨h.1,fun i a b=>vM hg hr (h.2 i a b)⟩
theorem MN {row:Option Nat} (hg:W.grownBy W' row) (hr:∀ r,row=some r->∃ o:Obj,W.heap[r]?=some o/\o.isCells=false) (h:Rg.aG F W v ll):Rg.aG F W' v ll:=by
 obtain ⟨us,h1,h2⟩:=h;exact ⟨us,vM hg hr h1,vR hg hr h2⟩
theorem Dr {row:Option Nat} (hg:W.grownBy W' row) (hr:∀ r,row=some r->∃ o:Obj,W.heap[r]?=some o/\o.isCells=false) {e:TypeId} {size:Nat} (h:W.ownsRow B e size v n xs):W'.ownsRow B e size v n xs :=
 jl h (Rg.Kp.dc hg (M:=fun k=>row=some k) fun _ e=>e) (fun k e1 e2=>by
  obtain ⟨o,h1,h2⟩:=oQ h k e2;obtain ⟨o',h3,h4⟩:=hr k e1
  rw [h1] at h3; cases h3; rw [h2] at h4; cases h4)
theorem gB.nc {c0 c1 c2:Value} {O:List (List Int)} {R:List (List (List Int))} (h:gB B W tc c0 c1 c2 ov rv O R) {row:Option Nat} (hg:W.grownBy W' row) (hr:∀ r,row=some r->∃ o:Obj,W.heap[r]?=some o/\o.isCells=false):gB B W' tc c0 c1 c2 ov rv O R:=by
 obtain ⟨us,vs,h1,h2,h3,h4⟩:=h.own;have hk:Rg.Kp (fun k=>row=some k) W W':=Rg.Kp.dc hg fun _ e=>e;refine ⟨h.pH.kp hk (fun e=>?_),h.low,⟨us,vs,Dr hg hr h1,Dr hg hr h2,(vR hg hr h3).mono fun _ g=>g.up hg.size,bH.mono ⟨h4.1,fun i a b=>MN hg hr (h4.2 i a b)⟩ fun _ g=>g.up hg.size⟩,h.apart,h.ot,h.rt⟩;obtain ⟨o,q1,q2⟩:=h.isCells tc (.inl rfl);obtain ⟨o',q3,q4⟩:=hr tc e;rw [q1] at q3; cases q3; rw [q2] at q4; cases q4
theorem wU (hc:∀ a,W'.cell? a=W.cell? a) (hs:W.heap.size<=W'.heap.size) {us:List Value} (h:Rg.cS W v us):Rg.cS W' v us:=by
 obtain ⟨a,cap,e,h1,h2,h3,h4⟩:=h;refine ⟨a,cap,e,h1,h2,h3,fun h0=>?_⟩;obtain ⟨b,o,e1,e2,e4⟩:=h4 h0;exact ⟨b,o,e1,Nat.lt_of_lt_of_le e2 hs,fun i hi=>(hc _).trans (e4 i hi)⟩
theorem FV (hc:∀ a,W'.cell? a=W.cell? a) (hs:W.heap.size<=W'.heap.size) (h:Rg.Rows W v ll):Rg.Rows W' v ll:=by
 obtain ⟨us,h1,h2,h3⟩:=h;exact ⟨us,wU hc hs h1,h2,fun i a b=>wU hc hs (h3 i a b)⟩
theorem BA {α:Type} {l:List (List α)} {i:Nat} (h:i<l.length):l.getD i []=l[i]:=by rw [List.getD_eq_getElem?_getD,List.getElem?_eq_getElem h]; rfl
theorem PN {m:Nat} {α:Type} (f:Nat->α):(dX m m).map (fun z=>f z.1)=(List.range m).map f:=by
 rw [<- l_ (Nat.le_refl m),List.map_map];rfl
end
section
open Go.RowKit
open Go.Proofs.Ob
attribute [local irreducible] Go.Calls Go.wpList
theorem WE (args:Array Value) (w:World):(callFunc 116 args).run Tryz.prog w=.ok (.enter 116 args) w:=by kernel_rfl
theorem K7 (b:Nat) (w:World):(Instr.fieldAt 124 (.pointer (some ⟨b,0,none⟩)) 0).run Tryz.prog w=.ok (.pointer (some ⟨b,0,none⟩)) w:=by kernel_rfl
theorem oR {w'':World} (h:Rg.Kp M w w') (hb:Below w'.heap.size w' w''):Rg.Kp M w w'':=Rg.Kp.trans (M:=M) h (Rg.Kp.aC (M:=M) hb) (fun _ _ e=>e)
theorem Tm {x m:Int} {r:Nat} (h0:0<m) (h1:m<=1000) (hr:Hid (qu x m=((r:Nat):Int))) (w:World):Calls Tryz.prog 116 #[.int .i64 x,.int .i64 m] w fun e w'=>e=.returned (.int .i64 ((r:Nat):Int))/\Below w.heap.size w w':=by
 rw [<- hr.p];exact MB x m w h0 h1
theorem BB (b:Nat) (w:World):(Instr.fieldAt 124 (.pointer (some ⟨b,0,none⟩)) 1).run Tryz.prog w=.ok (.pointer (some ⟨b,1,none⟩)) w:=by kernel_rfl
structure Tk (w0 w:World) (tk k:Nat) (lv:Value) (l:List Int):Prop where
 c0:w.cell? ⟨tk,0,none⟩=some lv
 c1:w.cell? ⟨tk,1,none⟩=some (.int .i64 ((k:Nat):Int))
 f1:w.frozen? ⟨tk,1,none⟩=false
 lt:tk<w.heap.size
 lo:w0.heap.size<=tk
 cG:Below w0.heap.size w0 w
 ints:Rg.cV maxLen w0 lv l
theorem Tk.jj {k:Nat} {lv:Value} {l:List Int} (h:Tk w0 w tk k lv l) (hb:Below w.heap.size w w'):Tk w0 w' tk k lv l :=
 ⟨(hb.cell (p:=⟨tk,0,none⟩) h.lt).trans h.c0,(hb.cell (p:=⟨tk,1,none⟩) h.lt).trans h.c1,(hb.frozen (p:=⟨tk,1,none⟩) h.lt).trans h.f1,Nat.lt_of_lt_of_le h.lt hb.size,h.lo,h.cG.trans (hb.mono h.cG.size),h.ints⟩
theorem Tk.kp {k:Nat} {lv:Value} {l:List Int} (h:Tk w0 w tk k lv l) (hk:Rg.Kp M w w') (hM:¬ M tk) (hl:∀ z,M z->w0.heap.size<=z):Tk w0 w' tk k lv l :=
 ⟨(World.cell?_of_block (a:=⟨tk,0,none⟩) (hk.block tk h.lt hM)).trans h.c0,(World.cell?_of_block (a:=⟨tk,1,none⟩) (hk.block tk h.lt hM)).trans h.c1,(World.frozen?_of_block (a:=⟨tk,1,none⟩) (hk.block tk h.lt hM)).trans h.f1,Nat.lt_of_lt_of_le h.lt hk.size,h.lo,Rg.Kp.jj h.cG hk hl,h.ints⟩
theorem Tk.next {k:Nat} {lv:Value} {l:List Int} (h:Tk w0 w tk k lv l) (v:Nat):Tk w0 (w.setCell ⟨tk,1,none⟩ (.int .i64 ((v:Nat):Int))) tk v lv l/\Rg.Kp (fun z=>z=tk) w (w.setCell ⟨tk,1,none⟩ (.int .i64 ((v:Nat):Int))):=by
 refine ⟨⟨?_,World.cell?_setCell_same (h:=h.c1) ..,by rw [World.frozen?_setCell]; exact h.f1,by simpa using h.lt,h.lo,h.cG.setCell (p:=⟨tk,1,none⟩) h.lo _,h.ints⟩,Rg.Kp.aO rfl⟩
 rw [World.cell?_setCell_other (h:=by intro e; injection e with e1 e2; omega) ..]
 exact h.c0
def Tn (w0 w:World) (tk:Nat) (lv:Value) (l:List Int) (m:Int) (e:Ending) (w':World):Prop:=∃ (r k':Nat),e=.returned (.int .i64 ((r:Nat):Int))/\(1<=m->(r:Int)<m)/\(¬ 1<=m->r=0)/\Tk w0 w' tk k' lv l/\Rg.Kp (fun z=>z=tk) w w'
theorem iE {k:Nat} {lv:Value} {l:List Int} (h:Tk w0 w tk k lv l) (m:Int) (hm:m<=1000) :
  Calls Tryz.prog 85 #[.pointer (some ⟨tk,0,none⟩),.int .i64 m] w (Tn w0 w tk lv l m):=by
 obtain ⟨la,lc,rfl,-,u_,-,ud⟩:=h.ints.shape;have TK:=U h;have HLM:=U u_;have WG:=U ud;have K:=U (Rg.Kp.refl (fun z=>z=tk) w);clear h u_ ud
 go_enter Tryz.func85,Tryz.ntmps85
 by_cases hk:k<l.length
 case neg =>
  have m_:¬ (k:Int)<(l.length:Int):=by omega
  go_upto_region 1 with (fail);have aw:Below w.heap.size w w.drew:=(Below.refl _ _).drew;replace TK:=U (TK.p.jj aw);replace K:=U (oR K.p aw);clear aw;refine Rg.Any.begin (S:=Rg.aI 13 (fun _=>True) (fun W=>Below w.drew.heap.size w.drew W)) mix ?_;generalize w.drew=w1 at *;have hS:∀ (l:Array Bool) W,Below w1.heap.size w1 W->Rg.aI 13 (fun _=>True) (fun W=>Below w1.heap.size w1 W) l W:=fun l W h=>⟨.inr trivial,h⟩;have hI:Below w1.heap.size w1 w1:=Below.refl _ _;refine d8 0 13 (.pointer (some ⟨tk,0,none⟩)) 5 (hS _ _ hI) ?_;go_frame;refine d7 1 13 (.pointer (some ⟨tk,0,none⟩)) 6 rfl rfl (.inl ⟨rfl,fun w _=>aP _ rfl rfl⟩) (hS _ _ hI) ?_;go_frame;refine d7 2 13 (.pointer (some ⟨tk,1,none⟩)) 7 rfl rfl (.inl ⟨rfl,fun w _=>ag _ rfl rfl (BB _ _)⟩) (hS _ _ hI) ?_;go_frame;refine d7 3 13 (.int .i64 ((k:Nat):Int)) 8 rfl rfl (j0 ⟨tk,1,none⟩ (fun W hW=>ah ((Below.cell (p:=⟨tk,1,none⟩) hW TK.p.lt).trans TK.p.c1))) (hS _ _ hI) ?_;go_frame
  refine d8 4 13 (.pointer (some ⟨tk,0,none⟩)) 9 (hS _ _ hI) ?_;go_frame;refine d7 5 13 (.pointer (some ⟨tk,0,none⟩)) 10 rfl rfl (.inl ⟨rfl,fun w _=>aP _ rfl rfl⟩) (hS _ _ hI) ?_;go_frame;refine d7 6 13 (.pointer (some ⟨tk,0,none⟩)) 11 rfl rfl (.inl ⟨rfl,fun w _=>ag _ rfl rfl (K7 _ _)⟩) (hS _ _ hI) ?_;go_frame;refine d7 7 13 (.slice la l.length lc) 12 rfl rfl (j0 ⟨tk,0,none⟩ (fun W hW=>Rg.ae _ _ Tryz.underlying26 ((Below.cell (p:=⟨tk,0,none⟩) hW TK.p.lt).trans TK.p.c0))) (hS _ _ hI) ?_;go_frame;refine d7 8 13 (.int .i64 ((l.length:Nat):Int)) 13 rfl rfl (.inl ⟨rfl,fun w _=>j8 _ _ _ rfl Tryz.underlying26 _ _ _ rfl⟩) (hS _ _ hI) ?_;go_frame;refine d7 9 13 (.bool true) 14 rfl rfl (.inl ⟨rfl,fun w _=>bN (R:=.bool true) .geq _ _ _ rfl rfl rfl (sf _ f9)⟩) (hS _ _ hI) ?_;go_frame;refine d8 10 13 (.bool true) 15 (hS _ _ hI) ?_;go_frame
  refine d7 11 13 (undef) 16 rfl rfl (.inr ⟨rfl,rfl⟩) (hS _ _ hI) ?_;go_frame;refine d7 12 13 (undef) 17 rfl rfl (.inr ⟨rfl,rfl⟩) (hS _ _ hI) ?_;go_frame;refine i9 13 18 rfl rfl (i6 (.bool true)) (hS _ _ hI) ?_;go_frame;refine Rg.Any.done (by kernel_rfl) ?_ _;clear hS hI;go_upto_region 2 with (fail);refine c6 ?_;refine d6 4 (.int .i64 ((0:Nat):Int)) ?_;go_frame;go_wp2;go_ret;exact ⟨0,_,rfl,fun h=>by omega,fun _=>rfl,TK.p,K.p⟩
 case pos =>
  have m_:(k:Int)<(l.length:Int):=by omega
  by_cases lF:1<=m
  case neg =>
   skip
   go_upto_region 1 with (fail);have aw:Below w.heap.size w w.drew:=(Below.refl _ _).drew;replace TK:=U (TK.p.jj aw);replace K:=U (oR K.p aw);clear aw;refine Rg.Any.begin (S:=Rg.aI 13 (fun _=>True) (fun W=>Below w.drew.heap.size w.drew W)) mix ?_;generalize w.drew=w1 at *;have hS:∀ (l:Array Bool) W,Below w1.heap.size w1 W->Rg.aI 13 (fun _=>True) (fun W=>Below w1.heap.size w1 W) l W:=fun l W h=>⟨.inr trivial,h⟩;have hI:Below w1.heap.size w1 w1:=Below.refl _ _;refine d8 0 13 (.pointer (some ⟨tk,0,none⟩)) 5 (hS _ _ hI) ?_;go_frame;refine d7 1 13 (.pointer (some ⟨tk,0,none⟩)) 6 rfl rfl (.inl ⟨rfl,fun w _=>aP _ rfl rfl⟩) (hS _ _ hI) ?_;go_frame;refine d7 2 13 (.pointer (some ⟨tk,1,none⟩)) 7 rfl rfl (.inl ⟨rfl,fun w _=>ag _ rfl rfl (BB _ _)⟩) (hS _ _ hI) ?_;go_frame;refine d7 3 13 (.int .i64 ((k:Nat):Int)) 8 rfl rfl (j0 ⟨tk,1,none⟩ (fun W hW=>ah ((Below.cell (p:=⟨tk,1,none⟩) hW TK.p.lt).trans TK.p.c1))) (hS _ _ hI) ?_;go_frame
   refine d8 4 13 (.pointer (some ⟨tk,0,none⟩)) 9 (hS _ _ hI) ?_;go_frame;refine d7 5 13 (.pointer (some ⟨tk,0,none⟩)) 10 rfl rfl (.inl ⟨rfl,fun w _=>aP _ rfl rfl⟩) (hS _ _ hI) ?_;go_frame;refine d7 6 13 (.pointer (some ⟨tk,0,none⟩)) 11 rfl rfl (.inl ⟨rfl,fun w _=>ag _ rfl rfl (K7 _ _)⟩) (hS _ _ hI) ?_;go_frame;refine d7 7 13 (.slice la l.length lc) 12 rfl rfl (j0 ⟨tk,0,none⟩ (fun W hW=>Rg.ae _ _ Tryz.underlying26 ((Below.cell (p:=⟨tk,0,none⟩) hW TK.p.lt).trans TK.p.c0))) (hS _ _ hI) ?_;go_frame;refine d7 8 13 (.int .i64 ((l.length:Nat):Int)) 13 rfl rfl (.inl ⟨rfl,fun w _=>j8 _ _ _ rfl Tryz.underlying26 _ _ _ rfl⟩) (hS _ _ hI) ?_;go_frame;refine d7 9 13 (.bool false) 14 rfl rfl (.inl ⟨rfl,fun w _=>bN (R:=.bool false) .geq _ _ _ rfl rfl rfl (sf _ g7)⟩) (hS _ _ hI) ?_;go_frame;refine d8 10 13 (.bool false) 15 (hS _ _ hI) ?_;go_frame
   refine d8 11 13 (.int .i64 m) 16 (hS _ _ hI) ?_;go_frame;refine d7 12 13 (.bool true) 17 rfl rfl (.inl ⟨rfl,fun w _=>bN (R:=.bool true) .lss _ _ _ rfl rfl rfl (bj _ f9)⟩) (hS _ _ hI) ?_;go_frame;refine i9 13 18 rfl rfl (i5 (.bool true)) (hS _ _ hI) ?_;go_frame;refine Rg.Any.done (by kernel_rfl) ?_ _;clear hS hI;go_upto_region 2 with (fail);refine c6 ?_;refine d6 4 (.int .i64 ((0:Nat):Int)) ?_;go_frame;go_wp2;go_ret;exact ⟨0,_,rfl,fun h=>by omega,fun _=>rfl,TK.p,K.p⟩
  case pos =>
   have nS:k+1<=9223372036854775807:=by
    have:=HLM.p;unfold maxLen at this;omega
   obtain ⟨lb,lo,rfl,PO,aR⟩:=WG.p (by omega);have dY:=aR k hk;obtain ⟨x,hx⟩:∃ x:Int,l[k]=x:=⟨_,rfl⟩;rw [hx] at dY;have dR:=U hk;obtain ⟨r,hr⟩:∃ r:Nat,Hid (qu x m=((r:Nat):Int)):=⟨_,U (Int.toNat_of_nonneg (tU (x:=x) (n:=m) (by omega)).1).symm⟩;have PL:=U (show ((r:Nat):Int)<m by rw [<- hr.p]; exact (tU (x:=x) (n:=m) (by omega)).2);have CX:=U (CL.mk dY PO);clear dY PO aR hx;go_upto_region 1 with (fail);have aw:Below w.heap.size w w.drew:=(Below.refl _ _).drew;replace TK:=U (TK.p.jj aw);replace K:=U (oR K.p aw);clear aw;refine Rg.Any.begin (S:=Rg.aI 13 (fun _=>True) (fun W=>Below w.drew.heap.size w.drew W)) mix ?_;generalize w.drew=w1 at *;have hS:∀ (l:Array Bool) W,Below w1.heap.size w1 W->Rg.aI 13 (fun _=>True) (fun W=>Below w1.heap.size w1 W) l W:=fun l W h=>⟨.inr trivial,h⟩
   have hI:Below w1.heap.size w1 w1:=Below.refl _ _;refine d8 0 13 (.pointer (some ⟨tk,0,none⟩)) 5 (hS _ _ hI) ?_;go_frame;refine d7 1 13 (.pointer (some ⟨tk,0,none⟩)) 6 rfl rfl (.inl ⟨rfl,fun w _=>aP _ rfl rfl⟩) (hS _ _ hI) ?_;go_frame;refine d7 2 13 (.pointer (some ⟨tk,1,none⟩)) 7 rfl rfl (.inl ⟨rfl,fun w _=>ag _ rfl rfl (BB _ _)⟩) (hS _ _ hI) ?_;go_frame;refine d7 3 13 (.int .i64 ((k:Nat):Int)) 8 rfl rfl (j0 ⟨tk,1,none⟩ (fun W hW=>ah ((Below.cell (p:=⟨tk,1,none⟩) hW TK.p.lt).trans TK.p.c1))) (hS _ _ hI) ?_;go_frame;refine d8 4 13 (.pointer (some ⟨tk,0,none⟩)) 9 (hS _ _ hI) ?_;go_frame;refine d7 5 13 (.pointer (some ⟨tk,0,none⟩)) 10 rfl rfl (.inl ⟨rfl,fun w _=>aP _ rfl rfl⟩) (hS _ _ hI) ?_;go_frame;refine d7 6 13 (.pointer (some ⟨tk,0,none⟩)) 11 rfl rfl (.inl ⟨rfl,fun w _=>ag _ rfl rfl (K7 _ _)⟩) (hS _ _ hI) ?_;go_frame
   refine d7 7 13 (.slice (some ⟨lb,lo,none⟩) l.length lc) 12 rfl rfl (j0 ⟨tk,0,none⟩ (fun W hW=>Rg.ae _ _ Tryz.underlying26 ((Below.cell (p:=⟨tk,0,none⟩) hW TK.p.lt).trans TK.p.c0))) (hS _ _ hI) ?_;go_frame;refine d7 8 13 (.int .i64 ((l.length:Nat):Int)) 13 rfl rfl (.inl ⟨rfl,fun w _=>j8 _ _ _ rfl Tryz.underlying26 _ _ _ rfl⟩) (hS _ _ hI) ?_;go_frame;refine d7 9 13 (.bool false) 14 rfl rfl (.inl ⟨rfl,fun w _=>bN (R:=.bool false) .geq _ _ _ rfl rfl rfl (sf _ g7)⟩) (hS _ _ hI) ?_;go_frame;refine d8 10 13 (.bool false) 15 (hS _ _ hI) ?_;go_frame;refine d8 11 13 (.int .i64 m) 16 (hS _ _ hI) ?_;go_frame;refine d7 12 13 (.bool false) 17 rfl rfl (.inl ⟨rfl,fun w _=>bN (R:=.bool false) .lss _ _ _ rfl rfl rfl (bj _ g7)⟩) (hS _ _ hI) ?_;go_frame;refine i9 13 18 rfl rfl (i5 (.bool false)) (hS _ _ hI) ?_;go_frame
   refine Rg.Any.done (by kernel_rfl) ?_ _;clear hS hI;go_upto_region 3 with (fail);refine c6 ?_;refine d5 19 (.pointer (some ⟨tk,0,none⟩)) ?_;go_frame;refine d4 20 (aP _ rfl rfl) ?_;go_frame;refine d4 21 (ag _ rfl rfl (BB _ _)) ?_;go_frame;refine d4 22 (g9 (.int .i64 ((k:Nat):Int)) ⟨tk,1,none⟩ (ah TK.p.c1)) ?_;go_frame;refine d4 23 (i3 (.int .i64 (((k+1):Nat):Int)) .add (h:=cg _ (by omega) (by omega))) ?_;go_frame;refine d4 24 (aP _ rfl rfl) ?_;go_frame;refine d4 25 (ag _ rfl rfl (BB _ _)) ?_;go_frame;refine Rg.aA none rfl rfl (Rg.ai _ _ _ rfl _ rfl _ rfl (cy _ TK.p.c1 TK.p.f1)) ?_;go_frame;obtain ⟨WH,cU⟩:=TK.p.next (k+1);have K2:=U (Rg.Kp.trans (M:=fun z=>z=tk) K.p cU (fun _ _ e=>e));have MO:=U (CX.p.upto WH.cG CX.p.lt);generalize w1.setCell ⟨tk,1,none⟩ (.int .i64 (((k+1):Nat):Int))=Jl at *
   have T2:=U WH;clear WH cU TK K CX;go_upto_region 4 with (fail);have aw:Below Jl.heap.size Jl Jl.drew:=(Below.refl _ _).drew;replace T2:=U (T2.p.jj aw);replace MO:=U (MO.p.jj aw);replace K2:=U (oR K2.p aw);clear aw;refine Rg.Any.begin (S:=Rg.aI 13 (fun _=>True) (fun W=>Below Jl.drew.heap.size Jl.drew W)) mix ?_;generalize Jl.drew=Ds at *;have hS:∀ (l:Array Bool) W,Below Ds.heap.size Ds W->Rg.aI 13 (fun _=>True) (fun W=>Below Ds.heap.size Ds W) l W:=fun l W h=>⟨.inr trivial,h⟩;have hI:Below Ds.heap.size Ds Ds:=Below.refl _ _;refine d8 0 13 (.pointer (some ⟨tk,0,none⟩)) 26 (hS _ _ hI) ?_;go_frame;refine d7 1 13 (.pointer (some ⟨tk,0,none⟩)) 27 rfl rfl (.inl ⟨rfl,fun w _=>aP _ rfl rfl⟩) (hS _ _ hI) ?_;go_frame;refine d7 2 13 (.pointer (some ⟨tk,0,none⟩)) 28 rfl rfl (.inl ⟨rfl,fun w _=>ag _ rfl rfl (K7 _ _)⟩) (hS _ _ hI) ?_;go_frame
   refine d7 3 13 (.slice (some ⟨lb,lo,none⟩) l.length lc) 29 rfl rfl (j0 ⟨tk,0,none⟩ (fun W hW=>Rg.ae _ _ Tryz.underlying26 ((Below.cell (p:=⟨tk,0,none⟩) hW T2.p.lt).trans T2.p.c0))) (hS _ _ hI) ?_;go_frame;refine d8 4 13 (.pointer (some ⟨tk,0,none⟩)) 30 (hS _ _ hI) ?_;go_frame;refine d7 5 13 (.pointer (some ⟨tk,0,none⟩)) 31 rfl rfl (.inl ⟨rfl,fun w _=>aP _ rfl rfl⟩) (hS _ _ hI) ?_;go_frame;refine d7 6 13 (.pointer (some ⟨tk,1,none⟩)) 32 rfl rfl (.inl ⟨rfl,fun w _=>ag _ rfl rfl (BB _ _)⟩) (hS _ _ hI) ?_;go_frame;refine d7 7 13 (.int .i64 (((k+1):Nat):Int)) 33 rfl rfl (j0 ⟨tk,1,none⟩ (fun W hW=>ah ((Below.cell (p:=⟨tk,1,none⟩) hW T2.p.lt).trans T2.p.c1))) (hS _ _ hI) ?_;go_frame;refine d7 8 13 (.int .i64 ((k:Nat):Int)) 34 rfl rfl (.inl ⟨rfl,fun w _=>bN (R:=.int .i64 ((k:Nat):Int)) .sub _ _ _ rfl rfl rfl (lU _ (by omega) (by omega))⟩) (hS _ _ hI) ?_;go_frame
   refine d7 9 13 (.pointer (some ⟨lb,lo+k,none⟩)) 35 rfl rfl (Rg.aJ cM _ _ rfl rfl lb (lo) (l.length) lc (k) rfl rfl dR.p) (hS _ _ hI) ?_;go_frame;refine d7 10 13 (.int .i64 x) 36 rfl rfl (j0 ⟨lb,lo+k,none⟩ (fun W hW=>ah ((Below.cell (p:=⟨lb,lo+k,none⟩) hW MO.p.lt).trans MO.p.cell))) (hS _ _ hI) ?_;go_frame;refine d8 11 13 (.int .i64 m) 37 (hS _ _ hI) ?_;go_frame;refine Rg.Any.one (i:=12) (by kernel_rfl) (Rg.Any.ask (some 38) rfl rfl rfl _ _ (aj 116 _ _ _ rfl rfl rfl (WE _ _)) ?_);refine (Tm (by omega) hm hr Ds).mono ?_;rintro e1 w52 ⟨rfl,hb⟩;have aS:=Rg.acc hI hb;clear hb hI;refine ⟨_,rfl,(hS _ _ aS),?_⟩;go_frame;refine i9 13 4 rfl rfl (a8 (.int .i64 ((r:Nat):Int)) _ rfl rfl) (hS _ _ aS) ?_;go_frame;refine Rg.Any.done (by kernel_rfl) ?_ _;replace T2:=U (T2.p.jj aS);replace MO:=U (MO.p.jj aS)
   replace K2:=U (oR K2.p aS);clear hS aS;clear nS;go_wp2;go_ret;exact ⟨r,_,rfl,fun _=>PL.p,fun h=>by omega,T2.p,K2.p⟩
end
section
open Go.RowKit
open Go.Proofs.Ob
open Go.Proofs.Cm (Gd)
attribute [local irreducible] Go.Calls Go.wpList
theorem Dt (args:Array Value) (w:World):(callFunc 66 args).run Tryz.prog w=.ok (.enter 66 args) w:=by kernel_rfl
theorem oT (args:Array Value) (w:World):(callFunc 85 args).run Tryz.prog w=.ok (.enter 85 args) w:=by kernel_rfl
def cL (w:World) (g n:Nat) (f:Nat->Int):Prop:=g<w.heap.size/\(∀ i,i<n->w.cell? ⟨g,i,none⟩=some (.int .i64 (f i)))/\∀ i,w.frozen? ⟨g,i,none⟩=false
theorem cL.congr {g:Nat} {f f':Nat->Int} (h:cL w g n f) (e:∀ i,i<n->f i=f' i):cL w g n f' :=
 ⟨h.1,fun i hi=>by rw [<- e i hi]; exact h.2.1 i hi,h.2.2⟩
theorem cL.set {g:Nat} {f:Nat->Int} (h:cL w g n f) (k:Nat) (v:Int) (hk:k<n):cL (w.setCell ⟨g,k,none⟩ (.int .i64 v)) g n (fun i=>if i=k then v else f i):=by
 refine ⟨by simpa using h.1,fun i hi=>?_,fun i=>by rw [World.frozen?_setCell]; exact h.2.2 i⟩;show _=some (Value.int .i64 (if i=k then v else f i))
 by_cases e:i=k
 ·subst e
  rw [if_pos rfl];exact World.cell?_setCell_same (h:=h.2.1 i hi) ..
 ·rw [if_neg e,World.cell?_setCell_other (h:=by intro h; injection h with h1 h2; omega) ..]
  exact h.2.1 i hi
theorem cL.kp {g:Nat} {f:Nat->Int} (h:cL w g n f) (hk:Rg.Kp M w w') (hM:¬ M g):cL w' g n f :=
 ⟨Nat.lt_of_lt_of_le h.1 hk.size,fun i hi=>(World.cell?_of_block (a:=⟨g,i,none⟩) (hk.block g h.1 hM)).trans (h.2.1 i hi),fun i=>(World.frozen?_of_block (a:=⟨g,i,none⟩) (hk.block g h.1 hM)).trans (h.2.2 i)⟩
theorem cL.jj {g:Nat} {f:Nat->Int} (h:cL w g n f) (hb:Below w.heap.size w w'):cL w' g n f:=h.kp (M:=fun _=>False) (Rg.Kp.aC hb) id
theorem cL.np {g:Nat} {f:Nat->Int} (h:cL w g n f) (l:List Nat) (hl:l.length=n) (hc:n<=cap) (hm:cap<=maxLen) (hn:n<=1000) (e:∀ i (hi:i<l.length),f i=((l[i]:Nat):Int)):Rg.NP w (.slice (some ⟨g,0,none⟩) n cap) l:=by
 refine Rg.Ints.mk (by simp [Ma.af,hl]) h.1 (by simp [Ma.af]; omega) hm (by simp [Ma.af]; omega) fun i hi=>?_
 have s6:i<l.length:=by simpa [Ma.af] using hi
 rw [Nat.zero_add,h.2.1 i (by omega),e i s6];simp [Ma.af]
def h_ (w:World) (g n:Nat) (y:List Nat):Prop:=cL w g n (fun i=>((y.getD i 0:Nat):Int))
theorem h_.np {w:World} {g n cap:Nat} {y:List Nat} (h:h_ w g n y) (gy:Gd n y) (hc:n<=cap) (hm:cap<=maxLen) (hn:n<=1000):Rg.NP w (.slice (some ⟨g,0,none⟩) n cap) y :=
 cL.np h y gy.2 hc hm hn (fun i hi=>by show ((y.getD i 0:Nat):Int)=_; rw [List.getD_eq_getElem?_getD,List.getElem?_eq_getElem hi]; rfl)
theorem h_.jj {w w':World} {g n:Nat} {y:List Nat} (h:h_ w g n y) (hb:Below w.heap.size w w'):h_ w' g n y:=cL.jj h hb
theorem qx (n:Nat) (w:World) (h1:1<=n) (hn:n<=1000) :
  Calls Tryz.prog 66 #[.int .i64 n] w fun e w'=>∃ g cap,e=.returned (.slice (some ⟨g,0,none⟩) n cap)/\w.heap.size<=g/\n<=cap/\cap<=maxLen/\cL w' g n (fun i=>(i:Int))/\Below w.heap.size w w':=by
 go_enter Tryz.func66,Tryz.ntmps66
 go_wp2
 go_loopw [3,4] (fun v i wr=>∃ k:Nat,k<=n/\i=.int .i64 k/\Hid (wr.ownsRow w.heap.size 3 1 v k (Ij (Ma.bh k)))/\Hid (Below w.heap.size w wr)) (fun _ i _=>n - (intOf i).toNat)
 case atStart=>exact ⟨0,by omega,rfl,World.ownsRow_nil _ _ _ _,Below.refl _ _⟩
 case round =>
  obtain ⟨k,hk,rfl,hs,bC⟩:=hrel
  by_cases aB:k<n
  ·go_wp2_with (at_builtin; refine Rg.Ep rfl _ _ 27 rfl cw hs.p bC.p _ (by simp [Value.oneCell']) rfl rfl (by omega) ?_; intro v' w1 lD cZ _ _ _)
   go_roundw
   case rel=>exact ⟨k+1,by omega,by go_num,by rw [show Ma.bh (k+1)=Ma.bh k++[k] from List.range_succ,uV]; exact lD,cZ⟩
   case measure=>simp [intOf]; omega
  ·obtain rfl:k=n:=by omega
   go_wp2;go_ret;have ho:=hs.p
   obtain ⟨_,⟨_,h0⟩ | ⟨g,cap,cur,rfl,hg,hc,h3,h4,h5,h6⟩⟩:=hs.p
   ·omega
   ·refine ⟨g,cap,rfl,hg,h3,h4,⟨(ho.lt g rfl).2,fun i hi=>?_,fun i=>ho.frozenAt i⟩,bC.p⟩
    have:=ho.cellAt i (by omega);rw [this];simp [Ij,Ma.bh,hi]
def FW (a b i:Nat):Nat:=if a<=i/\i+1<b then i+1 else if i+1=b then a else i
def sJ (n a b:Nat):List Nat:=(List.range n).map (FW a b)
theorem To {f:Nat->Nat} (h:∀ a b,a<n->b<n->f a=f b->a=b):((List.range n).map f).Nodup:=by
 rw [List.Nodup,List.pairwise_map];exact List.Pairwise.imp_of_mem (fun {a b} ha hb hne e=>hne (h a b (List.mem_range.1 ha) (List.mem_range.1 hb) e)) List.nodup_range
theorem K8 {f:Nat->Nat} (h1:∀ a,a<n->f a<n) (h:∀ a b,a<n->b<n->f a=f b->a=b):Gd n ((List.range n).map f):=by
 refine ⟨⟨fun x hx=>?_,To h⟩,by simp⟩;obtain ⟨a,ha,rfl⟩:=List.mem_map.1 hx
 simpa using h1 a (List.mem_range.1 ha)
theorem getD_map {i:Nat} {f:Nat->Nat} (h:i<n):((List.range n).map f).getD i 0=f i:=by
 rw [List.getD_eq_getElem?_getD,List.getElem?_eq_getElem (by simpa using h)]; simp
theorem K9 {a b:Nat} (gi:a<b) (hb:b<=n):Gd n (sJ n a b):=by
 refine K8 (fun i hi=>?_) (fun i j hi hj e=>?_)
 ·unfold FW; split
  ·omega
  ·split <;> omega
 ·have key:∀ x,(a<=x/\x+1<b/\FW a b x=x+1)∨(x+1=b/\FW a b x=a)∨((x<a∨b<=x)/\FW a b x=x):=fun x=>by
   unfold FW
   by_cases h1:a<=x/\x+1<b
   ·exact .inl ⟨h1.1,h1.2,if_pos h1⟩
   ·by_cases h2:x+1=b
    ·exact .inr (.inl ⟨h2,by rw [if_neg h1,if_pos h2]⟩)
    ·exact .inr (.inr ⟨by omega,by rw [if_neg h1,if_neg h2]⟩)
  rcases key i with ⟨_,_,e1⟩ | ⟨_,e1⟩ | ⟨_,e1⟩ <;> rcases key j with ⟨_,_,e2⟩ | ⟨_,e2⟩ | ⟨_,e2⟩ <;> omega
theorem zd {g a b:Nat} (h:cL w g n (fun i=>(i:Int))) (gi:a<b) (hb:b<=n) (hn:n<=1000) :
  Calls Tryz.prog 87 #[.slice (some ⟨g,0,none⟩) n cap,.int .i64 a,.int .i64 b] w fun e w'=>e=.returned (.slice (some ⟨g,0,none⟩) n cap)/\h_ w' g n (sJ n a b)/\Rg.Kp (fun z=>z=g) w w':=by
 have H:=U (show cL w g n (fun j=>if a<=j/\j<a then ((j:Nat):Int)+1 else (j:Int)) from h.congr fun i _=>by rw [if_neg (by omega)]);have K:=U (Rg.Kp.refl (fun z=>z=g) w);clear h
 go_enter Tryz.func87,Tryz.ntmps87
 go_wp2
 go_loopw [7] (fun iv wr=>∃ k:Nat,iv=.int .i64 k/\a<=k/\k<=b/\Hid (cL wr g n (fun j=>if a<=j/\j<k then ((j:Nat):Int)+1 else (j:Int)))/\Hid (Rg.Kp (fun z=>z=g) w wr)) (fun iv _=>b - (intOf iv).toNat)
 case atStart=>exact ⟨a,rfl,Nat.le_refl _,by omega,H,K⟩
 case round =>
  clear H K;obtain ⟨k,rfl,xf,nS,H,K⟩:=hrel
  by_cases aB:k<b
  ·have c1:=H.p.2.1 k (by omega)
   have f1:=H.p.2.2 k;have hs:=U (H.p.set k ((k:Int)+1) (by omega));have cU:=U (Rg.Kp.trans (M:=fun z=>z=g) K.p (Rg.Kp.aO (M:=fun z=>z=g) (a:=⟨g,k,none⟩) (v:=.int .i64 ((k:Int)+1)) rfl) (fun _ _ e=>e));go_wp2
   go_roundw
   case rel=>exact ⟨k+1,by go_num,by omega,aB,U (hs.p.congr fun i hi=>by
    by_cases e:i=k
    ·subst e; rw [if_pos rfl,if_pos (by omega)]
    ·rw [if_neg e]
     by_cases e2:a<=i/\i<k
     ·rw [if_pos e2,if_pos (by omega)]
     ·rw [if_neg e2,if_neg (by omega)]),cU⟩
   case measure=>simp [intOf]; omega
  ·obtain rfl:k=b:=by omega
   obtain ⟨c,rfl⟩:∃ c,k=c+1:=⟨k - 1,by omega⟩;have c1:=H.p.2.1 c (by omega);have f1:=H.p.2.2 c;have hs:=U (H.p.set c (a:Int) (by omega));have cU:=U (Rg.Kp.trans (M:=fun z=>z=g) K.p (Rg.Kp.aO (M:=fun z=>z=g) (a:=⟨g,c,none⟩) (v:=.int .i64 (a:Int)) rfl) (fun _ _ e=>e));go_wp2;go_ret;refine ⟨rfl,cL.congr hs.p fun i hi=>?_,cU.p⟩;show _=((((List.range n).map (FW a (c+1))).getD i 0:Nat):Int);rw [getD_map hi];unfold FW
   by_cases e:i=c
   ·subst e; rw [if_pos rfl,if_neg (by omega),if_pos rfl]
   ·rw [if_neg e]
    by_cases e2:a<=i/\i<c+1
    ·rw [if_pos e2,if_pos (by omega)]; rfl
    ·rw [if_neg e2,if_neg (by omega),if_neg (by omega)]
def PQ (y:List Nat) (i k j:Nat):Nat:=if j=k then y.getD i 0 else if j=i then y.getD k 0 else y.getD j 0
def Z1 (n:Nat) (y:List Nat) (i k:Nat):List Nat:=(List.range n).map (PQ y i k)
theorem K_ {i k:Nat} {y:List Nat} (gy:Gd n y) (hi:i<n) (hk:k<n):Gd n (Z1 n y i k):=by
 have h1:∀ j,j<n->y.getD j 0<n:=fun j hj=>Cm.bI gy hj;have h2:∀ a b,a<n->b<n->y.getD a 0=y.getD b 0->a=b:=fun a b ha hb e=>Cm.iu gy ha hb e;refine K8 (fun j hj=>?_) (fun a b ha hb e=>?_)
 ·unfold PQ; split
  ·exact h1 _ hi
  ·split
   ·exact h1 _ hk
   ·exact h1 _ hj
 ·unfold PQ at e
  by_cases a1:a=k
  ·rw [if_pos a1] at e
   by_cases b1:b=k
   ·omega
   ·rw [if_neg b1] at e
    by_cases b2:b=i
    ·rw [if_pos b2] at e; have:=h2 _ _ hi hk e; omega
    ·rw [if_neg b2] at e; have:=h2 _ _ hi hb e; omega
  ·rw [if_neg a1] at e
   by_cases a2:a=i
   ·rw [if_pos a2] at e
    by_cases b1:b=k
    ·rw [if_pos b1] at e; have:=h2 _ _ hk hi e; omega
    ·rw [if_neg b1] at e
     by_cases b2:b=i
     ·omega
     ·rw [if_neg b2] at e; have:=h2 _ _ hk hb e; omega
   ·rw [if_neg a2] at e
    by_cases b1:b=k
    ·rw [if_pos b1] at e; have:=h2 _ _ ha hi e; omega
    ·rw [if_neg b1] at e
     by_cases b2:b=i
     ·rw [if_pos b2] at e; have:=h2 _ _ ha hk e; omega
     ·rw [if_neg b2] at e; exact h2 _ _ ha hb e
theorem h_.swap {g i k:Nat} {y:List Nat} (h:h_ w g n y) (hi:i<n) (hk:k<n):h_ ((w.setCell ⟨g,i,none⟩ (.int .i64 ((y.getD k 0:Nat):Int))).setCell ⟨g,k,none⟩ (.int .i64 ((y.getD i 0:Nat):Int))) g n (Z1 n y i k):=by
 refine cL.congr ((cL.set h i _ hi).set k _ hk) fun j hj=>?_;show _=((((List.range n).map (PQ y i k)).getD j 0:Nat):Int);rw [getD_map hj];unfold PQ
 by_cases e:j=k
 ·rw [if_pos e,if_pos e]
 ·rw [if_neg e,if_neg e]
  by_cases e2:j=i
  ·rw [if_pos e2,if_pos e2]
  ·rw [if_neg e2,if_neg e2]
theorem BC {g:Nat} (h:cL w g n (fun i=>(i:Int))):h_ w g n (Ma.bh n):=cL.congr h fun i hi=>by
 have:=Cm.cD hi;unfold Cm.ap at this;rw [this]
def Tp (w0 w:World) (tk:Nat) (lv:Value) (l:List Int) (n:Nat) (e:Ending) (w':World):Prop:=∃ g cap y k',e=.returned (.slice (some ⟨g,0,none⟩) n cap)/\w.heap.size<=g/\n<=cap/\cap<=maxLen/\Gd n y/\h_ w' g n y/\Tk w0 w' tk k' lv l/\Rg.Kp (fun z=>z=tk) w w'
theorem Du {k:Nat} {lv:Value} {l:List Int} (h:Tk w0 w tk k lv l) (bW:1<=n) (cN:n<=64) :
  Calls Tryz.prog 86 #[.pointer (some ⟨tk,0,none⟩),.int .i64 ((n:Nat):Int)] w (Tp w0 w tk lv l n):=by
 have TK:=U h;have K:=U (Rg.Kp.refl (fun z=>z=tk) w);have Mv:=U h.lo;have MP:=U h.lt;have HWW:=U h.cG.size;clear h
 go_enter Tryz.func86,Tryz.ntmps86
 go_upto_region 1 with (fail);refine c6 ?_;refine d5 8 (.int .i64 ((n:Nat):Int)) ?_;go_frame;refine f8 9 (aE 66 _ _ rfl rfl (Dt _ _)) ?_;refine (qx n w bW (by omega)).mono ?_;rintro e1 w1 ⟨g,cap,rfl,hg,cF,d_,hro,hb⟩;have HG:=U hg;have Jn:=U (show n<=cap/\cap<=maxLen from ⟨cF,d_⟩);have Ah:=BC hro;clear hg cF d_ hro;refine ⟨_,rfl,?_⟩;go_frame;replace TK:=U (TK.p.jj hb);replace K:=U (oR K.p hb);clear hb;have PR:=U Ah;refine d6 5 (.slice (some ⟨g,0,none⟩) n cap) ?_;go_frame;go_upto_region 2 with (fail);refine c6 ?_;refine d6 6 (.int .i64 ((0:Nat):Int)) ?_;go_frame;clear Ah;have GY:=U (Cm.dM n);go_wp2
 go_loopw [6] (fun iv wr=>∃ (i k':Nat) (y:List Nat),iv=.int .i64 i/\i<=n/\Hid (h_ wr g n y)/\Hid (Gd n y)/\Hid (Tk w0 wr tk k' lv l)/\Hid (Rg.Kp (fun z=>z=tk) w wr)) (fun iv _=>n - (intOf iv).toNat)
 case atStart=>exact ⟨0,k,_,rfl,Nat.zero_le _,PR,GY,TK,K⟩
 case round =>
  clear PR GY TK K;obtain ⟨i,k',y,rfl,hi,PR,GY,TK,K⟩:=hrel
  by_cases bG:i+1<n
  ·have SB:(i:Int)+1<(n:Int):=by omega
   go_upto_region 3 with (fail);refine c6 ?_;refine d5 10 (.int .i64 ((i:Nat):Int)) ?_;go_frame;refine d4 11 (i3 (.int .i64 (((i+1):Nat):Int)) .add (h:=cg _ (by omega) (by omega))) ?_;go_frame;refine d5 12 (.int .i64 ((n:Nat):Int)) ?_;go_frame;refine d4 13 (i3 (.bool true) .lss (h:=bj _ f9)) ?_;go_frame;go_upto_region 5 with (fail);refine c6 ?_;refine d5 16 (.int .i64 ((i:Nat):Int)) ?_;go_frame;refine d5 17 (.pointer (some ⟨tk,0,none⟩)) ?_;go_frame;refine d5 18 (.int .i64 ((n:Nat):Int)) ?_;go_frame;refine d5 19 (.int .i64 ((i:Nat):Int)) ?_;go_frame;refine d4 20 (i3 (.int .i64 (((n - i):Nat):Int)) .sub (h:=lU _ (by omega) (by omega))) ?_;go_frame;refine f8 21 (aj 85 _ _ _ rfl rfl rfl (oT _ _)) ?_;refine (iE TK.p ((n - i:Nat):Int) (by omega)).mono ?_;rintro e1 c_ ⟨r,k2,rfl,dg,tx,iA,cE⟩
   have Dv:r<n - i:=by have:=dg (by omega); omega
   have ig:=cL.kp PR.p cE (fun e=>by have:=MP.p; have:=HG.p; omega);clear dg tx;refine ⟨_,rfl,?_⟩;go_frame;clear TK;replace PR:=U ig;replace K:=U (Rg.Kp.trans (M:=fun z=>z=tk) K.p cE (fun _ _ e=>e));have WI:=U iA;clear cE ig;refine d4 22 (i3 (.int .i64 (((i+r):Nat):Int)) .add (h:=cg _ (by omega) (by omega))) ?_;go_frame;refine d6 7 (.int .i64 (((i+r):Nat):Int)) ?_;go_frame;clear iA
   have vS:i+r<n:=by omega
   have ly:i<n:=by omega
   go_upto_region 6 with (fail);have eH:Below c_.heap.size c_ c_.drew:=(Below.refl _ _).drew;replace PR:=U (h_.jj PR.p eH);replace WI:=U (WI.p.jj eH);replace K:=U (oR K.p eH);clear eH;have aw:Below c_.heap.size c_ c_.drew:=(Below.refl _ _).drew;generalize dS (fun _:Nat=>True) c_ c_.drew=F1 at *;clear aw;refine Rg.Any.begin (S:=Rg.aI 13 (fun W:World=>W.cell? ⟨g,i,none⟩=some (.int .i64 ((y.getD i 0:Nat):Int))/\W.cell? ⟨g,i+r,none⟩=some (.int .i64 ((y.getD (i+r) 0:Nat):Int))) (fun _=>True)) mix ?_;generalize c_.drew=fT at *;have hS:∀ (l:Array Bool) W,(fun W:World=>W.cell? ⟨g,i,none⟩=some (.int .i64 ((y.getD i 0:Nat):Int))/\W.cell? ⟨g,i+r,none⟩=some (.int .i64 ((y.getD (i+r) 0:Nat):Int))) W->Rg.aI 13 (fun W:World=>W.cell? ⟨g,i,none⟩=some (.int .i64 ((y.getD i 0:Nat):Int))/\W.cell? ⟨g,i+r,none⟩=some (.int .i64 ((y.getD (i+r) 0:Nat):Int))) (fun _=>True) l W:=fun l W h=>⟨.inr h,trivial⟩
   have bT:∀ (l:Array Bool) W,l.getD 13 false=true->Rg.aI 13 (fun W:World=>W.cell? ⟨g,i,none⟩=some (.int .i64 ((y.getD i 0:Nat):Int))/\W.cell? ⟨g,i+r,none⟩=some (.int .i64 ((y.getD (i+r) 0:Nat):Int))) (fun _=>True) l W:=fun l W h=>⟨.inl h,trivial⟩;have hI:(fun W:World=>W.cell? ⟨g,i,none⟩=some (.int .i64 ((y.getD i 0:Nat):Int))/\W.cell? ⟨g,i+r,none⟩=some (.int .i64 ((y.getD (i+r) 0:Nat):Int))) fT:=⟨PR.p.2.1 i ly,PR.p.2.1 (i+r) vS⟩;refine d8 0 13 (.slice (some ⟨g,0,none⟩) n cap) 23 (hS _ _ hI) ?_;go_frame;refine d8 1 13 (.int .i64 ((i:Nat):Int)) 24 (hS _ _ hI) ?_;go_frame;refine d8 2 13 (.slice (some ⟨g,0,none⟩) n cap) 25 (hS _ _ hI) ?_;go_frame;refine d8 3 13 (.int .i64 (((i+r):Nat):Int)) 26 (hS _ _ hI) ?_;go_frame;refine d8 4 13 (.slice (some ⟨g,0,none⟩) n cap) 27 (hS _ _ hI) ?_;go_frame
   refine d8 5 13 (.int .i64 (((i+r):Nat):Int)) 28 (hS _ _ hI) ?_;go_frame;refine d7 6 13 (.pointer (some ⟨g,0+(i+r),none⟩)) 29 rfl rfl (Rg.aJ cw _ _ rfl rfl g (0) (n) cap ((i+r)) rfl rfl vS) (hS _ _ hI) ?_;go_frame;refine i8 7 13 (.int .i64 (((y.getD (i+r) 0):Nat):Int)) 30 rfl rfl (j0 ⟨g,0+(i+r),none⟩ (fun W hW=>ah (by rw [Nat.zero_add]; exact hW.2))) (hS _ _ hI) ?_;go_frame;refine d8 8 13 (.slice (some ⟨g,0,none⟩) n cap) 31 (hS _ _ hI) ?_;go_frame;refine d8 9 13 (.int .i64 ((i:Nat):Int)) 32 (hS _ _ hI) ?_;go_frame;refine d7 10 13 (.pointer (some ⟨g,0+i,none⟩)) 33 rfl rfl (Rg.aJ cw _ _ rfl rfl g (0) (n) cap (i) rfl rfl ly) (hS _ _ hI) ?_;go_frame;refine i8 11 13 (.int .i64 (((y.getD i 0):Nat):Int)) 34 rfl rfl (j0 ⟨g,0+i,none⟩ (fun W hW=>ah (by rw [Nat.zero_add]; exact hW.1))) (hS _ _ hI) ?_;go_frame
   refine d7 12 13 (.pointer (some ⟨g,0+i,none⟩)) 35 rfl rfl (Rg.aJ cw _ _ rfl rfl g (0) (n) cap (i) rfl rfl ly) (hS _ _ hI) ?_;go_frame;refine Rg.Any.one (i:=13) (by kernel_rfl) (Rg.Any.cC none rfl rfl rfl (Rg.ai _ _ _ rfl _ rfl _ rfl (cy _ (by rw [Nat.zero_add]; exact PR.p.2.1 i ly) (PR.p.2.2 _))) (bT _ _ rfl) ?_);go_frame;refine d7 14 13 (.pointer (some ⟨g,0+(i+r),none⟩)) 36 rfl rfl (Rg.aJ cw _ _ rfl rfl g (0) (n) cap ((i+r)) rfl rfl vS) (bT _ _ rfl) ?_;go_frame;obtain ⟨u2,F7⟩:∃ u,(fT.setCell ⟨g,0+i,none⟩ (.int .i64 ((y.getD (i+r) 0:Nat):Int))).cell? ⟨g,0+(i+r),none⟩=some u:=⟨_,by rw [Nat.zero_add,Nat.zero_add]; exact (cL.set PR.p i _ ly).2.1 (i+r) vS⟩;refine Rg.Any.one (i:=15) (by kernel_rfl) (Rg.Any.cC none rfl rfl rfl (Rg.ai _ _ _ rfl _ rfl _ rfl (cy _ F7 (by rw [World.frozen?_setCell]; exact PR.p.2.2 _))) (bT _ _ rfl) ?_)
   go_frame;refine Rg.Any.done (by kernel_rfl) ?_ _;clear bT;clear hS hI;have PT:=PR.p.swap ly vS;have C9:=Rg.Kp.trans (M:=fun z=>z=g) (Rg.Kp.aO (M:=fun z=>z=g) (w:=fT) (a:=⟨g,i,none⟩) (v:=.int .i64 ((y.getD (i+r) 0:Nat):Int)) rfl) (Rg.Kp.aO (M:=fun z=>z=g) (a:=⟨g,i+r,none⟩) (v:=.int .i64 ((y.getD i 0:Nat):Int)) rfl) (fun _ _ e=>e);have e0:0+i=i:=Nat.zero_add i;have e1:0+(i+r)=i+r:=Nat.zero_add _;rw [e0,e1];generalize (fT.setCell ⟨g,i,none⟩ (.int .i64 ((y.getD (i+r) 0:Nat):Int))).setCell ⟨g,i+r,none⟩ (.int .i64 ((y.getD i 0:Nat):Int))=ep at *;have WJ:=U PT;have On:=U (K_ GY.p ly vS);have TK3:=U (WI.p.kp C9 (fun e=>by have:=MP.p; have:=HG.p; omega) (fun z e=>by have:=MP.p; have:=HG.p; have:=Mv.p; omega));have K3:=U (Rg.Kp.trans (M:=fun z=>z=tk) K.p C9 (fun z hz e=>by have:=HG.p; omega))
   clear PT C9 e0 e1;go_wp2
   go_roundw
   case rel=>exact ⟨i+1,_,_,by go_num,by omega,WJ,On,TK3,K3⟩
   case measure=>simp [intOf]; omega
  ·have SB:¬ (i:Int)+1<(n:Int):=by omega
   go_upto_region 3 with (fail);refine c6 ?_;refine d5 10 (.int .i64 ((i:Nat):Int)) ?_;go_frame;refine d4 11 (i3 (.int .i64 (((i+1):Nat):Int)) .add (h:=cg _ (by omega) (by omega))) ?_;go_frame;refine d5 12 (.int .i64 ((n:Nat):Int)) ?_;go_frame;refine d4 13 (i3 (.bool false) .lss (h:=bj _ g7)) ?_;go_frame;go_upto_region 7 with (fail);refine c6 ?_;refine d5 37 (.slice (some ⟨g,0,none⟩) n cap) ?_;go_frame;refine d6 4 (.slice (some ⟨g,0,none⟩) n cap) ?_;go_frame;go_wp2;go_ret;exact ⟨g,cap,y,_,rfl,HG.p,Jn.p.1,Jn.p.2,GY.p,PR.p,TK.p,K.p⟩
end
section
open Go.RowKit
open Go.Proofs.Ob
open Go.Proofs.Cm (Gd Gr ak)
attribute [local irreducible] Go.Calls Go.wpList
theorem ze (w:World) (n:Nat):cL (w.alloc (.cells (madeCells #[.int .i64 0] n) 3)) w.heap.size n (fun _=>0):=by
 have h:=World.rowIs_made w (.int .i64 0) n 3;exact ⟨by simp,fun i hi=>h.cell hi,fun i=>h.frozen i⟩
theorem dN.mono {B B':Nat} {w:World} {d:Int} {ll:List (List Int)} {cv:Value} {c:Int} (h:dN B w d ll cv c) (hB:B'<=B):dN B' w d ll cv c:=by
 rcases h with h | ⟨h0,n,gs,h1,h2,h3,h4,ov,rv,O,R,h5,h6,h7,h8⟩
 ·exact .inl h
 ·exact .inr ⟨h0,n,gs,h1,h2,h3,h4,ov,rv,O,R,h5,aG.mono h6 (fun z hz=>Nat.le_trans hB hz),bg.mono h7 (fun z hz=>Nat.le_trans hB hz),h8⟩
theorem dN.jj {cv:Value} {c:Int} (h:dN B w d ll cv c) (hb:Below w.heap.size w w'):dN B w' d ll cv c:=h.kp (M:=fun _=>False) (Rg.Kp.aC hb) (fun _ e=>e.elim)
end
section
open Go.RowKit
open Go.Proofs.Cm (Gd Gr cj ak ap Fx St)
attribute [local irreducible] Go.Calls Go.wpList
def Z2 (n m:Nat) (A B:List (List Nat)):List Nat->Prop:=Gr (n+m) (·∈prN A B)
end
section
open Go.RowKit
open Go.Proofs.Ob
open Go.Proofs.Cm (Gd Gr)
attribute [local irreducible] Go.Calls Go.wpList
def PU (F:FuncId) (iX:Array Value) (mv:List Int) (p:Int->Bool) (w:World):Prop :=
 ∀ x,x∈mv->∀ w1,Below w.heap.size w w1->Calls Tryz.prog F (#[.int .i64 x]++iX) w1 fun e w2=>e=.returned (.bool (p x))/\Below w1.heap.size w1 w2
def wV (mv:List Int) (p:Int->Bool):Int:=match mv.findIdx? p with
 | some i=>i
 | none=>-1
theorem MQ {mv:List Int} {p:Int->Bool} {k:Nat} (hk:k<mv.length) (h:∀ i (hi:i<mv.length),i<k->p mv[i]=false) (hp:p mv[k]=true):wV mv p=k:=by
 have:mv.findIdx? p=some k:=by
  rw [List.findIdx?_eq_some_iff_getElem];exact ⟨hk,hp,fun j hj=>by simp [h j (by omega) hj]⟩
 unfold wV; rw [this]
theorem Jo {mv:List Int} {p:Int->Bool} (h:∀ i (hi:i<mv.length),p mv[i]=false):wV mv p = -1:=by
 have:mv.findIdx? p=none:=by
  rw [List.findIdx?_eq_none_iff];intro x hx;obtain ⟨i,hi,rfl⟩:=List.getElem_of_mem hx;exact h i hi
 unfold wV; rw [this]
theorem MR (mv:List Int) (p:Int->Bool):decide (0<=wV mv p)=mv.any p:=by
 unfold wV
 cases h:mv.findIdx? p with
 | none =>
  rw [List.findIdx?_eq_none_iff] at h
  have:mv.any p=false:=by rw [List.any_eq_false]; intro x hx; simp [h x hx]
  rw [this]; rfl
 | some i =>
  rw [List.findIdx?_eq_some_iff_getElem] at h;obtain ⟨h1,h2,_⟩:=h
  have:mv.any p=true:=by rw [List.any_eq_true]; exact ⟨_,List.getElem_mem h1,h2⟩
  rw [this]; simp
theorem xA (vp:Value) (mv:List Int) (F:FuncId) (iX:Array Value) (p:Int->Bool) (w:World) (h:Rg.Ints w vp mv) (hl:mv.length<=1000) (hF:∀ args w,(callFunc F args).run Tryz.prog w=.ok (.enter F args) w) (hf:PU F iX mv p w) :
  Calls Tryz.prog 136 #[vp,.func (.func F) #[] iX] w fun e w'=>e=.returned (.int .i64 (wV mv p))/\Below w.heap.size w w':=by
 obtain ⟨ad,cap,rfl,hc,hm,_,aR⟩:=h.shape;have Hr:=U aR;have HF:=U hf;clear h aR hf
 go_enter Tryz.func136,Tryz.ntmps136
 go_wp2
 go_loopw [8] (fun vi wr=>∃ k:Nat,k<=mv.length/\vi=.int .i64 k/\Hid (∀ i (hi:i<mv.length),i<k->p mv[i]=false)/\Hid (Below w.heap.size w wr)) (fun vi _=>mv.length - (intOf vi).toNat)
 case atStart=>exact ⟨0,by omega,rfl,fun i hi h0=>by omega,Below.refl _ _⟩
 case round =>
  obtain ⟨k,hk,rfl,oz,hb⟩:=hrel
  by_cases aB:k<mv.length
  ·obtain ⟨b,o,rfl,VJ,ye⟩:=Hr.p (by omega)
   have eu:=ye k aB;obtain ⟨x,hx⟩:∃ x,x=mv[k]:=⟨_,rfl⟩;rw [<- hx] at eu;have e0:wr.cell? ⟨b,o+k,none⟩=some (.int .i64 x):=(hb.p.cell (p:=⟨b,o+k,none⟩) VJ).trans eu;have jI:=HF.p x (by rw [hx]; exact List.getElem_mem _) wr hb.p;have nI:=U aB;have Hx:=U hx;clear ye eu hx
   cases hp:p x
   ·have Hp:=U hp
    have sm:=U (show Calls Tryz.prog F (#[.int .i64 x]++iX) wr (fun e w2=>e=.returned (.bool false)/\Below wr.heap.size wr w2) from jI.mono fun e w2 ⟨h1,h2⟩=>⟨h1.trans (by rw [Hp.p]),h2⟩);clear jI hp
    go_wp2_with (refine sm.p.mono ?_; rintro e w1 ⟨rfl,cZ⟩)
    go_roundw
    case rel=>exact ⟨k+1,by omega,by go_num,fun i hi h0=>(by
     rcases Nat.lt_or_ge i k with h1 | h1
     ·exact oz.p i hi h1
     ·obtain rfl:i=k:=by omega
      rw [<- Hx.p]; exact Hp.p),Rg.acc hb.p cZ⟩
    case measure=>simp [intOf]; omega
   ·have Hp:=U hp
    have sm:=U (show Calls Tryz.prog F (#[.int .i64 x]++iX) wr (fun e w2=>e=.returned (.bool true)/\Below wr.heap.size wr w2) from jI.mono fun e w2 ⟨h1,h2⟩=>⟨h1.trans (by rw [Hp.p]),h2⟩);clear jI hp
    go_wp2_with (refine sm.p.mono ?_; rintro e w1 ⟨rfl,cZ⟩)
    go_ret;exact ⟨Rg.iT (MQ nI.p oz.p (by rw [<- Hx.p]; exact Hp.p)).symm,Rg.acc hb.p cZ⟩
  ·obtain rfl:k=mv.length:=by omega
   go_wp2;go_ret;exact ⟨Rg.iT (Jo (fun i hi=>oz.p i hi hi)).symm,hb.p⟩
theorem fY (vp:Value) (mv:List Int) (F:FuncId) (iX:Array Value) (p:Int->Bool) (w:World) (h:Rg.Ints w vp mv) (hl:mv.length<=1000) (hF:∀ args w,(callFunc F args).run Tryz.prog w=.ok (.enter F args) w) (hf:PU F iX mv p w) :
  Calls Tryz.prog 105 #[vp,.func (.func F) #[] iX] w fun e w'=>e=.returned (.bool (mv.any p))/\Below w.heap.size w w':=by
 have hi:=U (xA vp mv F iX p w h hl hF hf);have ha:=MR mv p;generalize wV mv p=r at hi ha;generalize mv.any p=b at ha ⊢;have Ha:=U ha;clear ha h hf hF
 go_enter Tryz.func105,Tryz.ntmps105
 go_wp2_with (refine hi.p.mono ?_; rintro e w1 ⟨rfl,cZ⟩)
 go_ret;exact ⟨Rg.dU Ha.p,cZ⟩
end
section
open Go.RowKit
open Go.Proofs.Ob
open Go.Proofs.Cm (Gd Gr ak ap)
attribute [local irreducible] Go.Calls Go.wpList
theorem mM (hc:ak N H O R) (h:aW w ov rv (O.map Ma.af) (R.map (List.map Ma.af))) {i:Nat} (hi:i<N) :
  ∃ ob oo oc rb ro rc,ov=.slice (some ⟨ob,oo,none⟩) N oc/\rv=.slice (some ⟨rb,ro,none⟩) N rc/\(∃ ua uc,CL w ob (oo+i) (.slice ua (O.getD i []).length uc)/\Rg.Ints w (.slice ua (O.getD i []).length uc) (Ma.af (O.getD i []))) /\
   (∃ va vc,CL w rb (ro+i) (.slice va (O.getD i []).length vc)/\Rg.Rows w (.slice va (O.getD i []).length vc) ((R.getD i []).map Ma.af)):=by
 have xr:(O.map Ma.af).length=N:=by rw [List.length_map,hc.jH]
 have Tq:(R.map (List.map Ma.af)).length=N:=by rw [List.length_map,hc.iK]
 obtain ⟨oa,oc,rfl,-⟩:=h.1.shape;obtain ⟨ra,rc,rfl⟩:=h.2.shape;have h1:=h.1;have h2:=h.2;rw [xr] at h1;rw [Tq] at h2;obtain ⟨ob,oo,ua,uc,e5,Cv,Mh,rA⟩:=Jd h1 (i:=i) (by rw [xr]; exact hi);subst e5;obtain ⟨rb,ro,e6,pM,u,yx,hu⟩:=h2.at' (k:=i) (by rw [Tq]; exact hi);subst e6
 have Tf:(O.map Ma.af)[i]'(by rw [xr]; exact hi)=Ma.af (O.getD i []):=by
  have Tg:i<O.length:=by rw [hc.jH]; exact hi
  rw [List.getElem_map,df Tg]
 rw [Tf] at Mh rA;rw [Ma.az] at Mh rA
 have y6:(R.map (List.map Ma.af))[i]'(by rw [Tq]; exact hi)=(R.getD i []).map Ma.af:=by
  have tX:i<R.length:=by rw [hc.iK]; exact hi
  rw [List.getElem_map,df tX]
 rw [y6] at hu;obtain ⟨va,vc,rfl,-⟩:=hu.shape;rw [List.length_map,hc.len i hi] at yx hu;rw [xr,Tq];exact ⟨ob,oo,oc,rb,ro,rc,rfl,rfl,⟨ua,uc,CL.mk Mh Cv,rA⟩,⟨va,vc,CL.mk yx pM,hu⟩⟩

theorem MS (w:World):Rg.Ints w (.slice none 0 0) []:=(show FP (fun _=>True) w (.slice none 0 0) [] from ⟨none,0,rfl,Nat.le_refl _,Nat.zero_le _,Nat.zero_le _,fun h=>absurd h (Nat.lt_irrefl 0)⟩).np
end
section
open Go.RowKit
open Go.Proofs.Cm (Gd Gr ak)
structure dm (w:World) (v:Value) (l:List Int):Prop where
 i:Rg.Ints w v l
theorem dm.jj {w w':World} {v:Value} {l:List Int} (h:dm w v l) (hb:Below w.heap.size w w'):dm w' v l:=⟨h.i.jj hb⟩
theorem dm.at {lv:Value} {M:List Nat} (h:dm w lv (Ma.af M)) (hM:M.length=D) (hD:1<=D):∃ b o c,lv=.slice (some ⟨b,o,none⟩) D c/\∀ i,i<D->CL w b (o+i) (.int .i64 ((M.getD i 0:Nat):Int)):=by
 obtain ⟨a,c,rfl,hc,hm,_,aR⟩:=Rg.NP.shape (show Rg.NP w lv M from h.i);obtain ⟨b,o,rfl,hb,hr⟩:=aR (by omega);refine ⟨b,o,c,by rw [hM],fun i hi=>⟨?_,hb⟩⟩;rw [List.getD_eq_getElem?_getD,List.getElem?_eq_getElem (show i<M.length by omega),Option.getD_some];exact hr i (by omega)
theorem jy {a:Option Addr} {c:Nat} {T:List (List Int)} (h:Rg.Rows w (.slice a n c) T) {i:Nat} (hi:i<T.length):∃ b o ua uc,a=some ⟨b,o,none⟩/\b<w.heap.size/\w.cell? ⟨b,o+i,none⟩=some (.slice ua T[i].length uc)/\Rg.Ints w (.slice ua T[i].length uc) T[i]:=by
 obtain ⟨a',c',e,-,-,-,hx⟩:=h.shape;simp only [Value.slice.injEq] at e;obtain ⟨rfl,rfl,rfl⟩:=e;obtain ⟨b,o,e1,e2,e3⟩:=hx (by omega);obtain ⟨u,h1,h2⟩:=e3 i hi;obtain ⟨ua,uc,e4,-⟩:=Rg.Ints.shape h2;subst e4;exact ⟨b,o,ua,uc,e1,e2,h1,h2⟩
theorem BD {a:Option Addr} {c:Nat} {l:List Int} (h:Rg.Ints w (.slice a n c) l) {k:Nat} (hk:k<l.length):∃ b o,a=some ⟨b,o,none⟩/\b<w.heap.size/\w.cell? ⟨b,o+k,none⟩=some (.int .i64 l[k]):=by
 obtain ⟨a',c',e,-,-,-,hx⟩:=h.shape;simp only [Value.slice.injEq] at e;obtain ⟨rfl,rfl,rfl⟩:=e;obtain ⟨b,o,e1,e2,e3⟩:=hx (by omega);exact ⟨b,o,e1,e2,e3 k hk⟩
structure iR (w:World) (v:Value) (T:List (List Int)):Prop where
 r:Rg.Rows w v T
theorem iR.jj {w w':World} {v:Value} {T:List (List Int)} (h:iR w v T) (hb:Below w.heap.size w w'):iR w' v T:=⟨Rg.Rows.jj h.r hb⟩
theorem vT {D:Nat} (h1:1<=D) (h2:D<=64):∀ {gs:List (List Nat)},(∀ s∈gs,Gd D s)->Ma.j3 ((D:Nat):Int) (gs.map Ma.af)=0
 | [],_=>rfl
 | s :: gs,h=>by
  have g:=h s (List.mem_cons_self ..);have e1:Ma.bB (Ma.af s)=0:=Ma.nC (by rw [Ma.az,g.2]; exact h1) (by rw [Ma.az,g.2]; exact h2) (Ma.nD g.1)
  have e2:((Ma.af s).length:Int)=((D:Nat):Int):=by rw [Ma.az,g.2]
  show (if Ma.bB (Ma.af s)=0 then (if ((Ma.af s).length:Int)=((D:Nat):Int) then Ma.j3 ((D:Nat):Int) (gs.map Ma.af) else 10) else Ma.bB (Ma.af s))=0;rw [if_pos e1,if_pos e2];exact vT h1 h2 (fun x hx=>h x (List.mem_cons_of_mem _ hx))
theorem F8 (h1:1<=D) (h2:D<=64) (hl:gs.length<=4096) (h:∀ s∈gs,Gd D s):dH ((D:Nat):Int) (gs.map Ma.af)=0:=by
 unfold dH;rw [if_pos (by omega),if_pos (by rw [List.length_map]; exact hl)];exact vT h1 h2 h
end
section
open Go.RowKit
open Go.Proofs.Ob
open Go.Proofs.Cm (Gd)
attribute [local irreducible] Go.Calls Go.wpList
theorem WL (args:Array Value) (w:World):(callFunc 86 args).run Tryz.prog w=.ok (.enter 86 args) w:=by kernel_rfl
theorem PV (args:Array Value) (w:World):(callFunc 87 args).run Tryz.prog w=.ok (.enter 87 args) w:=by kernel_rfl
theorem oU (args:Array Value) (w:World):(callFunc 34 args).run Tryz.prog w=.ok (.enter 34 args) w:=by kernel_rfl
theorem AH {o:Oper} {a:Act} {la:Option Addr} {c:Nat} (x:Operand) (ho:o.op=.build 124 #[(0,x)]) (hx:a.eval x=.slice la n c) :
  (execOp a.eval o).run Tryz.prog w=.ok (.value (.agg #[.slice la n c,.int .i64 0])) w:=by
 unfold execOp;simp only [ho,Sem.run_bind,Sem.run_pure];simp only [List.map_toArray,List.map_cons,List.map_nil,hx]
 have h:(Instr.build 124 #[(0,.slice la n c)]).run Tryz.prog w=.ok (.agg #[.slice la n c,.int .i64 0]) w:=by kernel_rfl
 first | (rw [h]; rfl) | (erw [h]; rfl)
theorem Tk.new {la:Option Addr} {c:Nat} {l:List Int} (hb:Below w.heap.size w W) (hl:Rg.cV maxLen w (.slice la n c) l) (t:TypeId):Tk w (W.alloc (.cells #[.slice la n c,.int .i64 0] t)) W.heap.size 0 (.slice la n c) l :=
 ⟨by rw [Rg.aL]; rfl,by rw [Rg.aL]; rfl,cA _ _ _ 0 _,by simp,hb.size,hb.alloc hb.size _,hl⟩
structure CW1 (w:World) (b:Nat) (v:Value):Prop where
 c:w.cell? ⟨b,1,none⟩=some v
 f:w.frozen? ⟨b,1,none⟩=false
 lt:b<w.heap.size
theorem Tk.up {k:Nat} {lv:Value} {l:List Int} (h:Tk w0 w tk k lv l) (hb:Below w.heap.size w w'):Tk w0 w' tk k lv l:=h.jj hb
theorem h_.up {g:Nat} {y:List Nat} (h:h_ w g n y) (hb:Below w.heap.size w w'):h_ w' g n y:=h.jj hb
theorem cL.up {g:Nat} {f:Nat->Int} (h:cL w g n f) (hb:Below w.heap.size w w'):cL w' g n f:=h.jj hb
theorem _root_.Go.Proofs.Rg.Kp.up {w'':World} (h:Rg.Kp M w w') (hb:Below w'.heap.size w' w''):Rg.Kp M w w'':=oR h hb
structure FZ (w:World) (b o:Nat):Prop where
 f:w.frozen? ⟨b,o,none⟩=false
 lt:b<w.heap.size
theorem FZ.jj {b o:Nat} (h:FZ w b o) (hb:Below w.heap.size w w'):FZ w' b o:=⟨(hb.frozen (p:=⟨b,o,none⟩) h.lt).trans h.f,Nat.lt_of_lt_of_le h.lt hb.size⟩
theorem FZ.kp {b o:Nat} (h:FZ w b o) (hk:Rg.Kp M w w') (hM:¬ M b):FZ w' b o:=⟨(World.frozen?_of_block (a:=⟨b,o,none⟩) (hk.block b h.lt hM)).trans h.f,Nat.lt_of_lt_of_le h.lt hk.size⟩
theorem Z3 (W:World) (x y:Value) (t:TypeId):CL (((W.alloc (.cells #[.int .i64 0,.slice none 0 0] t)).setCell ⟨W.heap.size,0,none⟩ x).setCell ⟨W.heap.size,1,none⟩ y) W.heap.size 0 x/\(CW1 (((W.alloc (.cells #[.int .i64 0,.slice none 0 0] t)).setCell ⟨W.heap.size,0,none⟩ x).setCell ⟨W.heap.size,1,none⟩ y) W.heap.size y)/\Below W.heap.size W (((W.alloc (.cells #[.int .i64 0,.slice none 0 0] t)).setCell ⟨W.heap.size,0,none⟩ x).setCell ⟨W.heap.size,1,none⟩ y):=by
 have c0:(W.alloc (.cells #[.int .i64 0,.slice none 0 0] t)).cell? ⟨W.heap.size,0,none⟩=some (.int .i64 0):=by rw [Rg.aL]; rfl
 have c1:(W.alloc (.cells #[.int .i64 0,.slice none 0 0] t)).cell? ⟨W.heap.size,1,none⟩=some (.slice none 0 0):=by rw [Rg.aL]; rfl
 have f1:(W.alloc (.cells #[.int .i64 0,.slice none 0 0] t)).frozen? ⟨W.heap.size,1,none⟩=false:=cA _ _ _ 0 _
 have c1':((W.alloc (.cells #[.int .i64 0,.slice none 0 0] t)).setCell ⟨W.heap.size,0,none⟩ x).cell? ⟨W.heap.size,1,none⟩=some (.slice none 0 0):=by
  rw [World.cell?_setCell_other (h:=by intro e; injection e with e1 e2; omega) ..]; exact c1
 refine ⟨⟨?_,by simp⟩,⟨World.cell?_setCell_same (h:=c1') ..,by rw [World.frozen?_setCell,World.frozen?_setCell]; exact f1,by simp⟩,(((Below.refl _ _).alloc (Nat.le_refl _) _).setCell (p:=⟨W.heap.size,0,none⟩) (Nat.le_refl _) x).setCell (p:=⟨W.heap.size,1,none⟩) (Nat.le_refl _) y⟩
 rw [World.cell?_setCell_other (h:=by intro e; injection e with e1 e2; omega) ..]
 exact World.cell?_setCell_same (h:=c0) ..
theorem Z4 {rb:Nat} {u0 x y:Value} (h0:W.cell? ⟨rb,0,none⟩=some u0) (h1:W.cell? ⟨rb,1,none⟩=some u1) (aB:rb<W.heap.size) (hb:Below w.heap.size w W) (xr:w.heap.size<=rb:=by omega) :
  ((W.setCell ⟨rb,0,none⟩ x).setCell ⟨rb,1,none⟩ y).cell? ⟨rb,0,none⟩=some x/\((W.setCell ⟨rb,0,none⟩ x).setCell ⟨rb,1,none⟩ y).cell? ⟨rb,1,none⟩=some y/\Below w.heap.size w ((W.setCell ⟨rb,0,none⟩ x).setCell ⟨rb,1,none⟩ y)/\Rg.Kp (fun z=>z=rb) W ((W.setCell ⟨rb,0,none⟩ x).setCell ⟨rb,1,none⟩ y):=by
 have c1:(W.setCell ⟨rb,0,none⟩ x).cell? ⟨rb,1,none⟩=some u1:=by
  rw [World.cell?_setCell_other (h:=by intro e; injection e with e1 e2; omega) ..]; exact h1
 refine ⟨?_,World.cell?_setCell_same (h:=c1) ..,(hb.setCell (p:=⟨rb,0,none⟩) xr x).setCell (p:=⟨rb,1,none⟩) xr y,Rg.Kp.trans (M:=fun z=>z=rb) (Rg.Kp.aO rfl) (Rg.Kp.aO (M:=fun z=>z=rb) rfl) (fun _ _ e=>e)⟩
 rw [World.cell?_setCell_other (h:=by intro e; injection e with e1 e2; omega) ..]
 exact World.cell?_setCell_same (h:=h0) ..
theorem h_.fp {g:Nat} {y:List Nat} (h:h_ w g n y) (gy:Gd n y) (hc:n<=cap) (hm:cap<=maxLen) (h1:1<=n) (hn:n<=1000) (hF:F g):FP F w (.slice (some ⟨g,0,none⟩) n cap) y :=
 Rg.cW.of (h.np gy hc hm hn) (fun k e=>by simp [Value.ownBlock] at e; exact e▸hF)
def GM (tk gb rb z:Nat):Prop:=z=tk∨z=gb∨z=rb
structure cO (B:Nat) (F M:Nat->Prop) (W:World) (v:Value) (l:List (List Nat)):Prop where
 size:B<=W.heap.size
 own:∃ us,W.ownsRow B 27 1 v l.length us/\Rg.bE F W us (l.map Ma.af)
 off:∀ k,v.ownBlock=some k->¬ F k/\¬ M k
theorem cO.lt {B:Nat} {F M:Nat->Prop} {W:World} {v:Value} {l:List (List Nat)} (h:cO B F M W v l):∀ k,v.ownBlock=some k->B<=k/\k<W.heap.size:=fun k e=>by
 obtain ⟨us,h1,h2⟩:=h.own;exact h1.lt k e
theorem cO.shape {l:List (List Nat)} (h:cO B F M W v l):∃ a c,v=.slice a l.length c:=by
 obtain ⟨us,h1,h2⟩:=h.own;exact Rg.dt h1
theorem cO.nil (B:Nat) (F M:Nat->Prop) (W:World) (hB:B<=W.heap.size):cO B F M W (.slice none 0 0) [] :=
 ⟨hB,⟨[],World.ownsRow_nil _ _ _ _,Rg.bE.nil _ _⟩,fun k e=>by simp [Value.ownBlock] at e⟩
theorem cO.rows {l:List (List Nat)} (h:cO B F M W v l) (hl:l.length<=1000000000):Rg.Rows W v (l.map Ma.af):=by
 obtain ⟨us,h1,h2⟩:=h.own;exact Rg.Rows.dr h1 hl h2.1 (fun i a b=>(h2.2 i a b).ints)
theorem cO.kp {B:Nat} {F M N:Nat->Prop} {W W':World} {v:Value} {l:List (List Nat)} (h:cO B F M W v l) (hk:Rg.Kp N W W') (hF:∀ k,F k->¬ N k) (hN:∀ k,v.ownBlock=some k->¬ N k):cO B F M W' v l:=by
 obtain ⟨us,h1,h2⟩:=h.own;exact ⟨Nat.le_trans h.size hk.size,⟨us,jl h1 hk (fun k hn e=>hN k e hn),h2.kp hk hF⟩,h.off⟩
theorem cO.Z5 {N:Nat->Prop} {l:List (List Nat)} (h:cO B F M W v l) (hk:Rg.Kp N W W') (hF:∀ k,F k->¬ N k) (hN:∀ k,N k->M k):cO B (dS F W W') M W' v l:=by
 obtain ⟨us,h1,h2⟩:=h.own;refine ⟨Nat.le_trans h.size hk.size,⟨us,jl h1 hk (fun k hn e=>(h.off k e).2 (hN k hn)),(h2.kp hk hF).mono fun k=>.inl⟩,fun k e=>⟨fun g=>?_,(h.off k e).2⟩⟩;have:=(h.lt k e).2
 rcases g with g | g
 ·exact (h.off k e).1 g
 ·omega
theorem cO.push {l:List (List Nat)} (h:cO B F M W v l) {x:List Nat} (hu:FP F W u x) (hs:∃ a m c,u=.slice a m c) (hF:∀ k,F k->k<W.heap.size) (hM:∀ k,M k->k<W.heap.size) (hn:l.length<1000000) (ty:TypeId) :
  ∃ a c X,(Builtin.append_ #[41,41] ty #[v,.slice (some ⟨W.heap.size,0,none⟩) 1 1]).run Tryz.prog (W.alloc (.cells #[u] 27))=.ok (.slice a (l.length+1) c) X/\cO B F M X (.slice a (l.length+1) c) (l++[x])/\Rg.Kp (fun k=>v.ownBlock=some k) W X:=by
 obtain ⟨us,h1,h2⟩:=h.own;obtain ⟨a0,m0,c0,rfl⟩:=hs;have hb:Below W.heap.size W (W.alloc (.cells #[.slice a0 m0 c0] 27)):=(Below.refl _ _).alloc (Nat.le_refl _) _;obtain ⟨v',X,r1,r2,r3,r4,a,c,rfl⟩:=gl (P:=Tryz.prog) cp ty (Rg.bK h1 hb) (Nat.le_trans h.size hb.size) W.heap.size 1 (u:=.slice a0 m0 c0) (by rw [Rg.aL]; rfl) rfl hn;have hk:Rg.Kp (fun k=>v.ownBlock=some k) W X:=Rg.Kp.trans (M:=fun k=>v.ownBlock=some k) ((Rg.Kp.aC hb).kF fun _=>False.elim) (Rg.Kp.dc r3 fun _ e=>e) (fun _ _ e=>e);have hg:∀ k,F k->¬ v.ownBlock=some k:=fun k g e=>(h.off k e).1 g;refine ⟨a,c,X,r1,⟨Nat.le_trans h.size hk.size,⟨us++[.slice a0 m0 c0],by rw [List.length_append]; exact r2,by rw [List.map_append]; exact bE.snoc (h2.kp hk hg) (Rg.FI.kp hu hk hg)⟩,fun k e=>?_⟩,hk⟩
 rcases r4 with r4 | r4
 ·exact h.off k (by rw [<- r4]; exact e)
 ·rw [r4] at e
  injection e with e
  have e2:(W.alloc (.cells #[.slice a0 m0 c0] 27)).heap.size=W.heap.size+1:=by simp
  exact ⟨fun g=>by have:=hF _ g; omega,fun g=>by have:=hM _ g; omega⟩
structure zf (w W:World) (tk gb rb k d:Nat) (lv:Value) (l:List Int) (F:Nat->Prop) (gv:Value) (gs:List (List Nat)):Prop where
 Dw:Tk w W tk k lv l
 g0:CL W gb 0 (.int .i64 ((d:Nat):Int))
 g1:W.cell? ⟨gb,1,none⟩=some gv
 gf:W.frozen? ⟨gb,1,none⟩=false
 r0:∃ u,W.cell? ⟨rb,0,none⟩=some u
 r1:∃ u,W.cell? ⟨rb,1,none⟩=some u
 PX:W.frozen? ⟨rb,0,none⟩=false
 PY:W.frozen? ⟨rb,1,none⟩=false
 AI:rb<W.heap.size
 rw:cO w.heap.size F (GM tk gb rb) W gv gs
 nF:∀ z,GM tk gb rb z->¬ F z
 kI:∀ z,F z->z<W.heap.size
 n1:gb≠tk
 n2:rb≠tk
 n3:rb≠gb
 lo:∀ z,GM tk gb rb z->w.heap.size<=z
 WM:∀ z,F z->w.heap.size<=z
theorem zf.kt {gb rb k k' d:Nat} {lv:Value} {l:List Int} {gv:Value} (h:zf w W tk gb rb k d lv l F gv gs) (hk:Rg.Kp (fun z=>z=tk) W W') (ht:Tk w W' tk k' lv l):zf w W' tk gb rb k' d lv l (dS F W W') gv gs:=by
 have hg:=World.cell?_of_block (a:=⟨gb,1,none⟩) (hk.block gb h.g0.lt h.n1);have hgf:=World.frozen?_of_block (a:=⟨gb,1,none⟩) (hk.block gb h.g0.lt h.n1);have hb:=hk.block rb h.AI h.n2;refine ⟨ht,h.g0.kp hk h.n1,hg.trans h.g1,hgf.trans h.gf,?_,?_,(World.frozen?_of_block (a:=⟨rb,0,none⟩) hb).trans h.PX,(World.frozen?_of_block (a:=⟨rb,1,none⟩) hb).trans h.PY,Nat.lt_of_lt_of_le h.AI hk.size,h.rw.Z5 hk (fun z hz e=>h.nF z (.inl e) hz) (fun z e=>.inl e),fun z hz hf=>?_,fun z hf=>?_,h.n1,h.n2,h.n3,h.lo,fun z hf=>?_⟩
 ·obtain ⟨u,hu⟩:=h.r0; exact ⟨u,(World.cell?_of_block (a:=⟨rb,0,none⟩) hb).trans hu⟩
 ·obtain ⟨u,hu⟩:=h.r1; exact ⟨u,(World.cell?_of_block (a:=⟨rb,1,none⟩) hb).trans hu⟩
 ·rcases hf with hf | hf
  ·exact h.nF z hz hf
  ·rcases hz with e | e | e
   ·have:=h.Dw.lt; omega
   ·have:=h.g0.lt; omega
   ·have:=h.AI; omega
 ·rcases hf with hf | hf
  ·exact Nat.lt_of_lt_of_le (h.kI z hf) hk.size
  ·exact hf.2
 ·rcases hf with hf | hf
  ·exact h.WM z hf
  ·exact Nat.le_trans h.Dw.cG.size hf.1
theorem zf.push {w W:World} {tk gb rb k d:Nat} {lv:Value} {l:List Int} {F:Nat->Prop} {gv:Value} {gs:List (List Nat)} (h:zf w W tk gb rb k d lv l F gv gs) {u:Value} {y:List Nat} (hu:FP F W u y) (hs:∃ a m c,u=.slice a m c) (hn:gs.length<1000000) (ty:TypeId) :
  ∃ a c X,(Builtin.append_ #[41,41] ty #[gv,.slice (some ⟨W.heap.size,0,none⟩) 1 1]).run Tryz.prog (W.alloc (.cells #[u] 27))=.ok (.slice a (gs.length+1) c) X/\X.cell? ⟨gb,1,none⟩=some gv/\X.frozen? ⟨gb,1,none⟩=false /\
   zf w (X.setCell ⟨gb,1,none⟩ (.slice a (gs.length+1) c)) tk gb rb k d lv l F (.slice a (gs.length+1) c) (gs++[y]):=by
 have hM:∀ z,GM tk gb rb z->z<W.heap.size:=fun z e=>by
  rcases e with e | e | e
  ·have:=h.Dw.lt; omega
  ·have:=h.g0.lt; omega
  ·have:=h.AI; omega
 obtain ⟨a,c,X,r1,r2,r3⟩:=h.rw.push hu hs h.kI hM hn ty;have hO:∀ z,GM tk gb rb z->¬ gv.ownBlock=some z:=fun z hz e=>(h.rw.off z e).2 hz;have vt:∀ z,F z->¬ gv.ownBlock=some z:=fun z hz e=>(h.rw.off z e).1 hz;have gX:=r3.block gb h.g0.lt (hO gb (.inr (.inl rfl)));have Dp:=r3.block rb h.AI (hO rb (.inr (.inr rfl)));have cF:=(World.cell?_of_block (a:=⟨gb,1,none⟩) gX).trans h.g1;have pE:=(World.frozen?_of_block (a:=⟨gb,1,none⟩) gX).trans h.gf;have cU:Rg.Kp (fun z=>z=gb) X (X.setCell ⟨gb,1,none⟩ (.slice a (gs.length+1) c)):=Rg.Kp.aO rfl;have hFg:∀ z,F z->¬ z=gb:=fun z hz e=>h.nF z (.inr (.inl e)) hz;have La:=cU.block rb (Nat.lt_of_lt_of_le h.AI r3.size) h.n3;refine ⟨a,c,X,r1,cF,pE,⟨(h.Dw.kp r3 (hO tk (.inl rfl)) (fun z e=>(h.rw.lt z e).1)).kp cU (fun e=>h.n1 e.symm) (fun z e=>e▸h.lo gb (.inr (.inl rfl))),?_,World.cell?_setCell_same (h:=cF) ..,by rw [World.frozen?_setCell]; exact pE,?_,?_,?_,?_,Nat.lt_of_lt_of_le h.AI (Nat.le_trans r3.size cU.size),r2.kp cU hFg (fun k e e2=>?_),h.nF,fun z hz=>Nat.lt_of_lt_of_le (h.kI z hz) (Nat.le_trans r3.size cU.size),h.n1,h.n2,h.n3,h.lo,h.WM⟩⟩
 ·refine ⟨?_,Nat.lt_of_lt_of_le h.g0.lt (Nat.le_trans r3.size cU.size)⟩
  rw [World.cell?_setCell_other (h:=by intro e; injection e with e1 e2; omega) ..]
  exact (World.cell?_of_block (a:=⟨gb,0,none⟩) gX).trans h.g0.cell
 ·obtain ⟨u',fR⟩:=h.r0
  exact ⟨u',(World.cell?_of_block (a:=⟨rb,0,none⟩) La).trans ((World.cell?_of_block (a:=⟨rb,0,none⟩) Dp).trans fR)⟩
 ·obtain ⟨u',fR⟩:=h.r1
  exact ⟨u',(World.cell?_of_block (a:=⟨rb,1,none⟩) La).trans ((World.cell?_of_block (a:=⟨rb,1,none⟩) Dp).trans fR)⟩
 ·exact (World.frozen?_of_block (a:=⟨rb,0,none⟩) La).trans ((World.frozen?_of_block (a:=⟨rb,0,none⟩) Dp).trans h.PX)
 ·exact (World.frozen?_of_block (a:=⟨rb,1,none⟩) La).trans ((World.frozen?_of_block (a:=⟨rb,1,none⟩) Dp).trans h.PY)
 ·subst e2
  exact (r2.off k e).2 (.inr (.inl rfl))
def F_ (n7:Nat) (w:World) (e:Ending) (w':World):Prop:=∃ (d:Nat) (gv:Value) (gs:List (List Nat)),e=.returned (.agg #[.int .i64 ((d:Nat):Int),gv])/\1<=d/\d<=n7/\gs.length<=3/\(∀ s∈gs,Gd d s)/\Rg.aG (fun z=>w.heap.size<=z) w' gv (gs.map Ma.af)/\Below w.heap.size w w'
theorem cO.fr {l:List (List Nat)} (h:cO B F M W v l) (hl:l.length<=1000000000) (hF:∀ z,F z->B<=z):Rg.aG (fun z=>B<=z) W v (l.map Ma.af):=by
 obtain ⟨us,h1,h2⟩:=h.own;exact ⟨us,Rg.cW.of (Rg.cS.dr h1 hl) (fun k e=>(h.lt k e).1),h2.mono hF⟩
theorem zf.start {gb rb k d:Nat} {lv:Value} {l:List Int} (ht:Tk w W tk k lv l) (h0:CL W gb 0 (.int .i64 ((d:Nat):Int))) (h1:CL W gb 1 (.slice none 0 0)) (hf:W.frozen? ⟨gb,1,none⟩=false) (r0:∃ u,W.cell? ⟨rb,0,none⟩=some u) (r1:∃ u,W.cell? ⟨rb,1,none⟩=some u) (PX:W.frozen? ⟨rb,0,none⟩=false) (PY:W.frozen? ⟨rb,1,none⟩=false) (n1:gb≠tk) (n2:rb≠tk) (n3:rb≠gb) (AI:rb<W.heap.size) (lo1:w.heap.size<=gb) (mD:w.heap.size<=rb):zf w W tk gb rb k d lv l (fun _=>False) (.slice none 0 0) [] :=
 ⟨ht,h0,h1.cell,hf,r0,r1,PX,PY,AI,cO.nil _ _ _ _ ht.cG.size,fun _ _=>id,fun _=>False.elim,n1,n2,n3,fun z e=>by rcases e with rfl | rfl | rfl; exact ht.lo; exact lo1; exact mD,fun _=>False.elim⟩
theorem Jp (lv:Value) (l:List Int) (n7:Nat) (w:World) (hl:Rg.cV maxLen w lv l) (lF:1<=n7) (jF:n7<=64) :
  Calls Tryz.prog 64 #[lv,.int .i64 ((n7:Nat):Int)] w (F_ n7 w):=by
 obtain ⟨la,lc,rfl,-⟩:=hl.shape;have HL:=U hl;have K:=U (Below.refl w.heap.size w);clear hl;have yu:w.heap.size=w.heap.size+0:=rfl
 go_enter Tryz.func64,Tryz.ntmps64
 go_upto_region 0 with (fail);refine c6 ?_;have pF:=US w (.int .i64 0) (.slice none 0 0);have U1:=cA w #[.int .i64 0,.slice none 0 0] 43 0 0;have U2:=cA w #[.int .i64 0,.slice none 0 0] 43 0 1;refine d4 4 (ir rfl) ?_;go_frame;have hb:=(Below.refl w.heap.size w).alloc (Nat.le_refl _) (.cells #[.int .i64 0,.slice none 0 0] 43);generalize w.alloc (.cells #[.int .i64 0,.slice none 0 0] 43)=w1 at *;replace K:=U (Rg.acc K.p hb);clear hb;have R0:=U pF.1;have R1:=U pF.2;have F0:=U (show w1.frozen? ⟨w.heap.size,0,none⟩=false from U1);have F1:=U (show w1.frozen? ⟨w.heap.size,1,none⟩=false from U2);clear pF U1 U2;have Ga:=U (show FZ w1 w.heap.size 0 from ⟨F0.p,R0.p.lt⟩);have Gb:=U (show FZ w1 w.heap.size 1 from ⟨F1.p,R1.p.lt⟩);clear F0 F1;go_upto_region 1 with (fail);refine c6 ?_;refine d5 10 (.slice la l.length lc) ?_;go_frame
 refine d4 11 (AH _ rfl rfl) ?_;go_frame;have iA:=Tk.new K.p HL.p 124;have HRT:=U R0.p.lt;refine d4 12 (Rg.aY _ _ rfl rfl) ?_;go_frame;have hb:=(Below.refl w1.heap.size w1).alloc (Nat.le_refl _) (.cells #[.slice la l.length lc,.int .i64 0] 124);generalize w1.alloc (.cells #[.slice la l.length lc,.int .i64 0] 124)=w2 at *;replace R0:=U (R0.p.jj hb);replace R1:=U (R1.p.jj hb);replace Ga:=U (Ga.p.jj hb);replace Gb:=U (Gb.p.jj hb);replace K:=U (Rg.acc K.p hb);clear hb;have TK:=U iA;refine d6 5 (.pointer (some ⟨w1.heap.size,0,none⟩)) ?_;go_frame;clear iA;have Mv:=U R0.p.lt;have Z6:=U TK.p.lt;have xB:=U TK.p.lo;have vA:=U (show w.heap.size<w1.heap.size from HRT.p);go_upto_region 2 with (fail);refine c6 ?_;refine d5 13 (.pointer (some ⟨w1.heap.size,0,none⟩)) ?_;go_frame;refine d5 14 (.int .i64 ((n7:Nat):Int)) ?_;go_frame
 refine f8 15 (aj 85 _ _ _ rfl rfl rfl (oT _ _)) ?_;refine (iE TK.p ((n7:Nat):Int) (by omega)).mono ?_;rintro e1 w3 ⟨r0,k0,rfl,nw,pM,iA,cE⟩;have Z7:=R0.p.kp cE (fun e=>by have:=vA.p; omega);have dg:=R1.p.kp cE (fun e=>by have:=vA.p; omega);have Z8:=Ga.p.kp cE (fun e=>by have:=vA.p; omega);have pE:=Gb.p.kp cE (fun e=>by have:=vA.p; omega)
 have Z9:r0<n7:=by have:=nw (by omega); omega
 clear nw pM;refine ⟨_,rfl,?_⟩;go_frame;clear TK;replace R0:=U Z7;replace R1:=U dg;replace Ga:=U Z8;replace Gb:=U pE;replace K:=U (show Below w.heap.size w _ from Rg.Kp.jj K.p cE (fun z e=>by have:=xB.p; omega));have TK:=U iA;clear cE Z7 dg Z8 pE;refine d4 16 (i3 (.int .i64 (((1+r0):Nat):Int)) .add (h:=cg _ (by omega) (by omega))) ?_;go_frame;refine d4 17 (Ac _ rfl rfl) ?_;go_frame;have pN:=US w3 (.int .i64 0) (.slice none 0 0);have U3:=cA w3 #[.int .i64 0,.slice none 0 0] 43 0 0;have U4:=cA w3 #[.int .i64 0,.slice none 0 0] 43 0 1;refine d4 6 (ir rfl) ?_;go_frame;refine Rg.aA none rfl rfl (Rg.ai _ _ _ rfl _ rfl _ rfl (gT _ _ _ _ pN.1.cell pN.2.cell U3 U4)) ?_;go_frame;clear iA;have HD:1<=1+r0/\1+r0<=n7:=⟨by omega,by omega⟩;obtain ⟨d,hd⟩:∃ d,1+r0=d:=⟨_,rfl⟩
 rw [hd] at HD ⊢;obtain ⟨Z_,Ts,MT⟩:=Z3 w3 (.int .i64 ((d:Nat):Int)) (.slice none 0 0) 43;have S8:=U (show w3.heap.size≠w1.heap.size/\w.heap.size≠w3.heap.size from ⟨fun e=>by have:=TK.p.lt; omega,fun e=>by have:=R0.p.lt; omega⟩);have WN:=U K.p.size;replace R0:=U (R0.p.jj MT);replace R1:=U (R1.p.jj MT);replace Ga:=U (Ga.p.jj MT);replace Gb:=U (Gb.p.jj MT);replace TK:=U (TK.p.jj MT);generalize ((w3.alloc (.cells #[.int .i64 0,.slice none 0 0] 43)).setCell ⟨w3.heap.size,0,none⟩ (.int .i64 ((d:Nat):Int))).setCell ⟨w3.heap.size,1,none⟩ (.slice none 0 0)=w30 at *;have GO:=U (show zf w w30 w1.heap.size w3.heap.size w.heap.size k0 d (.slice la l.length lc) l (fun _=>False) (.slice none 0 0) [] from zf.start TK.p Z_ ⟨Ts.c,Ts.lt⟩ Ts.f ⟨_,R0.p.cell⟩ ⟨_,R1.p.cell⟩ Ga.p.f Gb.p.f S8.p.1 (fun e=>by have:=vA.p; omega) S8.p.2 R0.p.lt WN.p (Nat.le_refl _))
 clear Z_ Ts MT pN U3 U4 R0 R1 Ga Gb TK K hd Z9;go_upto_region 3 with (fail);refine c6 ?_;refine d5 18 (.pointer (some ⟨w1.heap.size,0,none⟩)) ?_;go_frame;refine f8 19 (aj 85 _ _ _ rfl rfl rfl (oT _ _)) ?_;refine (iE GO.p.Dw 4 (by omega)).mono ?_;rintro e1 w31 ⟨r3,k3,rfl,nw,pM,iA,cE⟩;have PZ:=GO.p.kt cE iA
 have hr4:r3<=3:=by have:=nw (by omega); omega
 clear nw pM iA;refine ⟨_,rfl,?_⟩;go_frame;clear cE;refine d6 7 (.int .i64 ((r3:Nat):Int)) ?_;go_frame;replace GO:=U PZ;have P0:=U hr4;have dI:=U HD;clear PZ hr4 HD;go_wp2
 go_loopw [7] (fun kv wr=>∃ (k k':Nat) (F:Nat->Prop) (gv:Value) (gs:List (List Nat)),kv=.int .i64 k/\k<=3/\Hid (gs.length+k<=3)/\Hid (∀ s∈gs,Gd d s)/\Hid (zf w wr w1.heap.size w3.heap.size w.heap.size k' d (.slice la l.length lc) l F gv gs)) (fun kv _=>(intOf kv).toNat)
 case atStart=>exact ⟨r3,k3,_,_,[],rfl,P0.p,by rw [List.length_nil,Nat.zero_add]; exact P0,U (fun s hs=>by simp at hs),GO⟩
 case round =>
  clear GO P0;obtain ⟨k,k',F,gv,gs,rfl,jB,nT,rm,GO⟩:=hrel;obtain ⟨Jq,Jr,rfl⟩:=GO.p.rw.shape;have dy:1<=d:=dI.p.1
  have nr:d<=64:=by have:=dI.p.2; omega
  by_cases tF:0<k
  case neg =>
   obtain rfl:k=0:=by omega
   go_upto_region 4 with (fail);refine c6 ?_;refine d5 20 (.int .i64 ((0:Nat):Int)) ?_;go_frame;refine d4 21 (i3 (.bool false) .gtr (h:=fD _ g7)) ?_;go_frame;obtain ⟨u0,LS⟩:=GO.p.r0;obtain ⟨u1,P1⟩:=GO.p.r1;go_upto_region 15 with (fail);refine c6 ?_;refine d4 79 (g9 (.agg #[.int .i64 ((d:Nat):Int),.slice Jq gs.length Jr]) ⟨w3.heap.size,0,none⟩ (fS GO.p.g0.cell GO.p.g1)) ?_;go_frame;refine Rg.aA none rfl rfl (Rg.ai _ _ _ rfl _ rfl _ rfl (gT _ _ _ _ LS P1 GO.p.PX GO.p.PY)) ?_;go_frame;have Bo:=Z4 (x:=.int .i64 ((d:Nat):Int)) (y:=(.slice Jq gs.length Jr)) LS P1 GO.p.AI GO.p.Dw.cG;have k_:=cO.fr (GO.p.rw.kp Bo.2.2.2 (fun z hz e=>GO.p.nF z (.inr (.inr e)) hz) (fun z e1 e2=>(GO.p.rw.off z e1).2 (.inr (.inr e2)))) (by have:=nT.p; omega) GO.p.WM;generalize (wr.setCell ⟨w.heap.size,0,none⟩ (.int .i64 ((d:Nat):Int))).setCell ⟨w.heap.size,1,none⟩ (.slice Jq gs.length Jr)=KU at *
   have E6:=U Bo;have IC:=U (show F_ n7 w (.returned (.agg #[.int .i64 ((d:Nat):Int),(.slice Jq gs.length Jr)])) KU from ⟨d,_,gs,rfl,dI.p.1,dI.p.2,by have:=nT.p; omega,rm.p,k_,Bo.2.2.1⟩);clear Bo k_ LS P1;go_wp2;exact bodyPost_ret (x4 rfl _ rfl E6.p.1 E6.p.2.1) rfl IC.p
  case pos =>
   have m_:(0:Int)<(k:Int):=by omega
   obtain ⟨q,rfl⟩:∃ q,k=q+1:=⟨k - 1,by omega⟩;go_upto_region 4 with (fail);refine c6 ?_;refine d5 20 (.int .i64 (((q+1):Nat):Int)) ?_;go_frame;refine d4 21 (i3 (.bool true) .gtr (h:=fD _ f9)) ?_;go_frame;have GC:=U GO.p.g0;have TK:=U GO.p.Dw;have KT:=U (Rg.Kp.refl (fun z=>z=w1.heap.size) wr);have lh:=U GO.p.n1;have zg:=U GO.p.Dw.lt;have U5:=U GO.p.Dw.lo;go_upto_region 6 with (fail);refine c6 ?_;refine d4 24 (bY _ rfl rfl) ?_;go_frame;refine d4 25 (g9 (.int .i64 ((d:Nat):Int)) ⟨w3.heap.size,0,none⟩ (ah GC.p.cell)) ?_;go_frame;refine f8 26 (aE 66 _ _ rfl rfl (Dt _ _)) ?_;refine (qx d wr dy (by omega)).mono ?_;rintro e1 mg ⟨g,cap,rfl,hg,cF,d_,hro,hb⟩;have HG:=U hg;have Jn:=U (show d<=cap/\cap<=maxLen from ⟨cF,d_⟩);clear hg cF d_;refine ⟨_,rfl,?_⟩
   go_frame;replace GC:=U (GC.p.jj hb);replace TK:=U (TK.p.jj hb);replace KT:=U (oR KT.p hb);clear hb;have PR:=U hro;refine d6 8 (.slice (some ⟨g,0,none⟩) d cap) ?_;go_frame;clear hro;go_upto_region 7 with (fail);refine c6 ?_;refine d5 27 (.pointer (some ⟨w1.heap.size,0,none⟩)) ?_;go_frame;refine f8 28 (aj 85 _ _ _ rfl rfl rfl (oT _ _)) ?_;refine (iE TK.p (3) (by omega)).mono ?_;rintro e1 U6 ⟨r5,k5,rfl,nw,pM,iA,cE⟩;have fO:=GC.p.kp cE lh.p;have ig:=cL.kp PR.p cE (fun e=>by have:=zg.p; have:=HG.p; omega);clear nw pM;obtain ⟨b3,Dx⟩:∃ b,Hid (decide (((r5:Nat):Int)=0)=b):=⟨_,U rfl⟩;refine ⟨_,rfl,?_⟩;go_frame;clear TK;replace GC:=U fO;replace PR:=U ig;replace KT:=U (Rg.Kp.trans (M:=fun z=>z=w1.heap.size) KT.p cE (fun _ _ e=>e));have TK:=U iA;clear cE fO ig
   refine d4 29 (i3 (.bool b3) .eql (h:=iN _ Dx.p)) ?_;go_frame;clear iA
   cases b3 with
   | true =>
    go_upto_region 8 with (fail);refine c6 ?_;refine d5 30 (.pointer (some ⟨w1.heap.size,0,none⟩)) ?_;go_frame;refine d4 31 (bY _ rfl rfl) ?_;go_frame;refine d4 32 (g9 (.int .i64 ((d:Nat):Int)) ⟨w3.heap.size,0,none⟩ (ah GC.p.cell)) ?_;go_frame;refine f8 33 (aj 86 _ _ _ rfl rfl rfl (WL _ _)) ?_;refine (Du TK.p dy nr).mono ?_;rintro e1 BG ⟨g2,du,y,k6,rfl,hg,cF,d_,S1,Js,iA,cE⟩;have fO:=GC.p.kp cE lh.p;have U7:=U Js;have rO:=U S1;have qs:=U (Nat.le_trans KT.p.size hg);have AJ:=U (show d<=du/\du<=maxLen from ⟨cF,d_⟩);clear hg cF d_ S1 Js;refine ⟨_,rfl,?_⟩;go_frame;clear TK;clear PR;replace GC:=U fO;replace KT:=U (Rg.Kp.trans (M:=fun z=>z=w1.heap.size) KT.p cE (fun _ _ e=>e));have TK:=U iA;clear cE fO;refine d6 8 (.slice (some ⟨g2,0,none⟩) d du) ?_;go_frame
    clear iA;have Gc:=U (GO.p.kt KT.p TK.p);have P4:=U (show FP (dS F wr BG) BG (.slice (some ⟨g2,0,none⟩) d du) y from U7.p.fp rO.p AJ.p.1 AJ.p.2 dy (by omega) (.inr ⟨qs.p,U7.p.1⟩));obtain ⟨a9,c9,X9,r1,r2,r3,r4⟩:=Gc.p.push P4.p ⟨_,_,_,rfl⟩ (by have:=nT.p; omega) 41;have P5:=U rO.p;clear GO GC TK KT;go_upto_region 14 with (fail);refine c6 ?_;refine d4 73 (dw _ rfl rfl) ?_;go_frame;refine d4 74 (g9 (.slice Jq gs.length Jr) ⟨w3.heap.size,1,none⟩ (Rg.ae _ _ Tryz.underlying41 Gc.p.g1)) ?_;go_frame;refine d5 75 (.slice (some ⟨g2,0,none⟩) d du) ?_;go_frame;refine d4 76 (Rg.aN _ _ _ rfl (.slice (some ⟨g2,0,none⟩) d du) rfl (dx BG _ ⟨_,_,_,rfl⟩)) ?_;go_frame;refine d4 77 (Rg.bF _ _ _ rfl rfl rfl r1) ?_;go_frame;refine d4 78 (dw _ rfl rfl) ?_;go_frame
    refine Rg.aA none rfl rfl (Rg.ai _ _ _ rfl _ rfl _ rfl (Rg.br _ eF r2 r3)) ?_;go_frame;generalize X9.setCell ⟨w3.heap.size,1,none⟩ (.slice a9 (gs.length+1) c9)=U8 at *;have P6:=U r4;have Ge:=U (show (gs++[y]).length+q<=3 by rw [List.length_append]; have:=nT.p; simp; omega)
    have Gf:=U (show ∀ s∈gs++[y],Gd d s from fun s hs=>by
     rcases List.mem_append.1 hs with hs | hs
     ·exact rm.p s hs
     ·rw [List.mem_singleton] at hs; rw [hs]; exact P5.p)
    clear r1 r2 r3 r4;go_wp2
    go_roundw
    case rel=>exact ⟨q,_,_,_,_,by go_num,by omega,Ge,Gf,P6⟩
    case measure=>simp [intOf]; try omega
   | false =>
    go_upto_region 9 with (fail);refine c6 ?_;refine d5 34 (.pointer (some ⟨w1.heap.size,0,none⟩)) ?_;go_frame;refine d4 35 (bY _ rfl rfl) ?_;go_frame;refine d4 36 (g9 (.int .i64 ((d:Nat):Int)) ⟨w3.heap.size,0,none⟩ (ah GC.p.cell)) ?_;go_frame;refine f8 37 (aj 85 _ _ _ rfl rfl rfl (oT _ _)) ?_;refine (iE TK.p (((d:Nat):Int)) (by omega)).mono ?_;rintro e1 BG ⟨fr,k6,rfl,nw,pM,iA,cE⟩;have fO:=GC.p.kp cE lh.p;have ig:=cL.kp PR.p cE (fun e=>by have:=zg.p; have:=HG.p; omega)
    have lJ:fr<d:=by have:=nw (by omega); omega
    clear nw pM;refine ⟨_,rfl,?_⟩;go_frame;clear TK;replace GC:=U fO;replace PR:=U ig;replace KT:=U (Rg.Kp.trans (M:=fun z=>z=w1.heap.size) KT.p cE (fun _ _ e=>e));have TK:=U iA;clear cE fO ig;refine d6 9 (.int .i64 ((fr:Nat):Int)) ?_;go_frame;clear iA;go_upto_region 10 with (fail);refine c6 ?_;refine d5 38 (.slice (some ⟨g,0,none⟩) d cap) ?_;go_frame;refine d5 39 (.int .i64 ((fr:Nat):Int)) ?_;go_frame;refine d5 40 (.int .i64 ((fr:Nat):Int)) ?_;go_frame;refine d4 41 (i3 (.int .i64 (((fr+1):Nat):Int)) .add (h:=cg _ (by omega) (by omega))) ?_;go_frame;refine d5 42 (.pointer (some ⟨w1.heap.size,0,none⟩)) ?_;go_frame;refine d4 43 (bY _ rfl rfl) ?_;go_frame;refine d4 44 (g9 (.int .i64 ((d:Nat):Int)) ⟨w3.heap.size,0,none⟩ (ah GC.p.cell)) ?_;go_frame;refine d5 45 (.int .i64 ((fr:Nat):Int)) ?_;go_frame
    refine d4 46 (i3 (.int .i64 (((d - fr):Nat):Int)) .sub (h:=lU _ (by omega) (by omega))) ?_;go_frame;refine f8 47 (aj 85 _ _ _ rfl rfl rfl (oT _ _)) ?_;refine (iE TK.p (((d - fr:Nat):Int)) (by omega)).mono ?_;rintro e1 U9 ⟨r7,k7,rfl,nw,pM,iA,cE⟩;have fO:=GC.p.kp cE lh.p;have ig:=cL.kp PR.p cE (fun e=>by have:=zg.p; have:=HG.p; omega)
    have hr7:r7<d - fr:=by have:=nw (by omega); omega
    clear nw pM;refine ⟨_,rfl,?_⟩;go_frame;clear TK;replace GC:=U fO;replace PR:=U ig;replace KT:=U (Rg.Kp.trans (M:=fun z=>z=w1.heap.size) KT.p cE (fun _ _ e=>e));have TK:=U iA;clear cE fO ig;refine d4 48 (i3 (.int .i64 (((fr+1+r7):Nat):Int)) .add (h:=cg _ (by omega) (by omega))) ?_;go_frame;clear iA;refine f8 49 (dV 87 _ _ _ _ rfl rfl rfl rfl (PV _ _)) ?_;refine (zd (a:=fr) (b:=fr+1+r7) PR.p (by omega) (by omega) (by omega)).mono ?_;rintro e1 U_ ⟨rfl,Js,cE⟩;have fO:=GC.p.kp cE (fun e=>by have:=GO.p.g0.lt; have:=HG.p; omega);have Gg:=TK.p.kp cE (fun e=>by have:=zg.p; have:=HG.p; omega) (fun z e=>by have:=U5.p; have:=zg.p; have:=HG.p; omega);have rO:=U (show Gd d (sJ d fr (fr+1+r7)) from K9 (by omega) (by omega));refine ⟨_,rfl,?_⟩;go_frame
    clear PR;replace GC:=U fO;replace TK:=U Gg;replace KT:=U (Rg.Kp.trans (M:=fun z=>z=w1.heap.size) KT.p cE (fun z hz e=>by have:=HG.p; omega));have PR:=U Js;clear cE fO Gg;refine d6 8 (.slice (some ⟨g,0,none⟩) d cap) ?_;go_frame;clear Js;go_upto_region 11 with (fail);refine c6 ?_;refine d5 50 (.pointer (some ⟨w1.heap.size,0,none⟩)) ?_;go_frame;refine d4 51 (bY _ rfl rfl) ?_;go_frame;refine d4 52 (g9 (.int .i64 ((d:Nat):Int)) ⟨w3.heap.size,0,none⟩ (ah GC.p.cell)) ?_;go_frame;refine f8 53 (aj 85 _ _ _ rfl rfl rfl (oT _ _)) ?_;refine (iE TK.p (((d:Nat):Int)) (by omega)).mono ?_;rintro e1 aaa ⟨f2,k8,rfl,nw,pM,iA,cE⟩;have fO:=GC.p.kp cE lh.p;have ig:=cL.kp PR.p cE (fun e=>by have:=zg.p; have:=HG.p; omega)
    have Cy:f2<d:=by have:=nw (by omega); omega
    clear nw pM;refine ⟨_,rfl,?_⟩;go_frame;clear TK;replace GC:=U fO;replace PR:=U ig;replace KT:=U (Rg.Kp.trans (M:=fun z=>z=w1.heap.size) KT.p cE (fun _ _ e=>e));have TK:=U iA;clear cE fO ig;refine d6 9 (.int .i64 ((f2:Nat):Int)) ?_;go_frame;clear iA;go_upto_region 12 with (fail);refine c6 ?_;refine d5 54 (.pointer (some ⟨w1.heap.size,0,none⟩)) ?_;go_frame;refine f8 55 (aj 85 _ _ _ rfl rfl rfl (oT _ _)) ?_;refine (iE TK.p (2) (by omega)).mono ?_;rintro e1 ue ⟨r8,k9,rfl,nw,pM,iA,cE⟩;have fO:=GC.p.kp cE lh.p;have ig:=cL.kp PR.p cE (fun e=>by have:=zg.p; have:=HG.p; omega);clear nw pM;obtain ⟨b4,hb4⟩:∃ b,Hid (decide (((r8:Nat):Int)=1)=b):=⟨_,U rfl⟩;refine ⟨_,rfl,?_⟩;go_frame;clear TK;replace GC:=U fO;replace PR:=U ig;replace KT:=U (Rg.Kp.trans (M:=fun z=>z=w1.heap.size) KT.p cE (fun _ _ e=>e))
    have TK:=U iA;clear cE fO ig;refine d4 56 (i3 (.bool b4) .eql (h:=iN _ hb4.p)) ?_;go_frame;clear iA
    cases b4 with
    | false =>
     have Gc:=U (GO.p.kt KT.p TK.p);have P4:=U (show FP (dS F wr ue) ue (.slice (some ⟨g,0,none⟩) d cap) (sJ d fr (fr+1+r7)) from h_.fp PR.p rO.p Jn.p.1 Jn.p.2 dy (by omega) (.inr ⟨HG.p,PR.p.1⟩));obtain ⟨a9,c9,X9,r1,r2,r3,r4⟩:=Gc.p.push P4.p ⟨_,_,_,rfl⟩ (by have:=nT.p; omega) 41;have P5:=U rO.p;clear GO GC TK KT;go_upto_region 14 with (fail);refine c6 ?_;refine d4 73 (dw _ rfl rfl) ?_;go_frame;refine d4 74 (g9 (.slice Jq gs.length Jr) ⟨w3.heap.size,1,none⟩ (Rg.ae _ _ Tryz.underlying41 Gc.p.g1)) ?_;go_frame;refine d5 75 (.slice (some ⟨g,0,none⟩) d cap) ?_;go_frame;refine d4 76 (Rg.aN _ _ _ rfl (.slice (some ⟨g,0,none⟩) d cap) rfl (dx ue _ ⟨_,_,_,rfl⟩)) ?_;go_frame;refine d4 77 (Rg.bF _ _ _ rfl rfl rfl r1) ?_;go_frame;refine d4 78 (dw _ rfl rfl) ?_;go_frame
     refine Rg.aA none rfl rfl (Rg.ai _ _ _ rfl _ rfl _ rfl (Rg.br _ eF r2 r3)) ?_;go_frame;generalize X9.setCell ⟨w3.heap.size,1,none⟩ (.slice a9 (gs.length+1) c9)=U8 at *;have P6:=U r4;have Ge:=U (show (gs++[(sJ d fr (fr+1+r7))]).length+q<=3 by rw [List.length_append]; have:=nT.p; simp; omega)
     have Gf:=U (show ∀ s∈gs++[(sJ d fr (fr+1+r7))],Gd d s from fun s hs=>by
      rcases List.mem_append.1 hs with hs | hs
      ·exact rm.p s hs
      ·rw [List.mem_singleton] at hs; rw [hs]; exact P5.p)
     clear r1 r2 r3 r4;go_wp2
     go_roundw
     case rel=>exact ⟨q,_,_,_,_,by go_num,by omega,Ge,Gf,P6⟩
     case measure=>simp [intOf]; try omega
    | true =>
     go_upto_region 13 with (fail);have aw:Below ue.heap.size ue ue.drew:=(Below.refl _ _).drew;replace GC:=U (GC.p.up aw);replace TK:=U (TK.p.up aw);replace PR:=U (PR.p.up aw);replace KT:=U (KT.p.up aw);generalize dS (fun _:Nat=>True) ue ue.drew=F1 at *;clear aw;refine Rg.Any.begin (S:=Rg.aI 16 (fun W:World=>W.cell? ⟨w3.heap.size,0,none⟩=some (.int .i64 ((d:Nat):Int))) (fun _=>True)) mix ?_;generalize ue.drew=P7 at *;have hS:∀ (l:Array Bool) W,(fun W:World=>W.cell? ⟨w3.heap.size,0,none⟩=some (.int .i64 ((d:Nat):Int))) W->Rg.aI 16 (fun W:World=>W.cell? ⟨w3.heap.size,0,none⟩=some (.int .i64 ((d:Nat):Int))) (fun _=>True) l W:=fun l W h=>⟨.inr h,trivial⟩;have bT:∀ (l:Array Bool) W,l.getD 16 false=true->Rg.aI 16 (fun W:World=>W.cell? ⟨w3.heap.size,0,none⟩=some (.int .i64 ((d:Nat):Int))) (fun _=>True) l W:=fun l W h=>⟨.inl h,trivial⟩
     have hI:(fun W:World=>W.cell? ⟨w3.heap.size,0,none⟩=some (.int .i64 ((d:Nat):Int))) P7:=GC.p.cell;refine d8 0 16 (.slice (some ⟨g,0,none⟩) d cap) 57 (hS _ _ hI) ?_;go_frame;refine d7 1 16 (.pointer (some ⟨w3.heap.size,0,none⟩)) 58 rfl rfl (.inl ⟨rfl,fun w _=>bY _ rfl rfl⟩) (hS _ _ hI) ?_;go_frame;refine i8 2 16 (.int .i64 ((d:Nat):Int)) 59 rfl rfl (j0 ⟨w3.heap.size,0,none⟩ (fun W hW=>ah hW)) (hS _ _ hI) ?_;go_frame;refine d8 4 16 (.int .i64 ((f2:Nat):Int)) 61 (hS _ _ hI) ?_;go_frame;refine d8 5 16 (.int .i64 ((f2:Nat):Int)) 62 (hS _ _ hI) ?_;go_frame;refine d7 6 16 (.int .i64 (((f2+1):Nat):Int)) 63 rfl rfl (.inl ⟨rfl,fun w _=>bN (R:=.int .i64 (((f2+1):Nat):Int)) .add _ _ _ rfl rfl rfl (cg _ (by omega) (by omega))⟩) (hS _ _ hI) ?_;go_frame;refine d8 7 16 (.pointer (some ⟨w1.heap.size,0,none⟩)) 64 (hS _ _ hI) ?_;go_frame
     refine d7 8 16 (.pointer (some ⟨w3.heap.size,0,none⟩)) 65 rfl rfl (.inl ⟨rfl,fun w _=>bY _ rfl rfl⟩) (hS _ _ hI) ?_;go_frame;refine i8 9 16 (.int .i64 ((d:Nat):Int)) 66 rfl rfl (j0 ⟨w3.heap.size,0,none⟩ (fun W hW=>ah hW)) (hS _ _ hI) ?_;go_frame;refine d8 10 16 (.int .i64 ((f2:Nat):Int)) 67 (hS _ _ hI) ?_;go_frame;refine d7 11 16 (.int .i64 (((d - f2):Nat):Int)) 68 rfl rfl (.inl ⟨rfl,fun w _=>bN (R:=.int .i64 (((d - f2):Nat):Int)) .sub _ _ _ rfl rfl rfl (lU _ (by omega) (by omega))⟩) (hS _ _ hI) ?_;go_frame;refine Rg.Any.one (i:=3) (by kernel_rfl) (Rg.Any.ask (some 60) rfl rfl rfl _ _ (aE 66 _ _ rfl rfl (Dt _ _)) ?_);refine (qx d P7 dy (by omega)).mono ?_;rintro e1 aab ⟨g2,du,rfl,hg,cF,d_,hro,hb⟩;have qs:=U (Nat.le_trans KT.p.size hg);have AJ:=U (show d<=du/\du<=maxLen from ⟨cF,d_⟩)
     have HNG:=U (show g≠g2 from fun e=>by have:=PR.p.1; omega);clear hg cF d_;have jm:=((Below.cell (p:=⟨w3.heap.size,0,none⟩) hb (fN hI)).trans hI);clear hI;replace GC:=U (GC.p.up hb);replace TK:=U (TK.p.up hb);replace PR:=U (PR.p.up hb);replace KT:=U (KT.p.up hb);have P2:=U hro;generalize dS F1 P7 aab=F2 at *;clear hb;refine ⟨_,rfl,(hS _ _ jm),?_⟩;go_frame;refine Rg.Any.one (i:=12) (by kernel_rfl) (Rg.Any.ask (some 69) rfl rfl rfl _ _ (aj 85 _ _ _ rfl rfl rfl (oT _ _)) ?_);refine (iE TK.p (((d - f2:Nat):Int)) (by omega)).mono ?_;rintro e1 aaO ⟨r9,k10,rfl,nw,pM,iA,cE⟩;have fO:=GC.p.kp cE lh.p;have ig:=cL.kp PR.p cE (fun e=>by have:=zg.p; have:=HG.p; omega);have Va:=cL.kp P2.p cE (fun e=>by have:=zg.p; have:=qs.p; omega)
     have hr9:r9<d - f2:=by have:=nw (by omega); omega
     clear nw pM;have zh:=((World.cell?_of_block (a:=⟨w3.heap.size,0,none⟩) (cE.block w3.heap.size (fN jm) lh.p)).trans jm);clear jm;refine ⟨_,rfl,(hS _ _ zh),?_⟩;go_frame;clear TK;replace GC:=U fO;replace PR:=U ig;replace P2:=U Va;replace KT:=U (Rg.Kp.trans (M:=fun z=>z=w1.heap.size) KT.p cE (fun _ _ e=>e));have TK:=U iA;clear cE fO ig Va;refine d7 13 16 (.int .i64 (((f2+1+r9):Nat):Int)) 70 rfl rfl (.inl ⟨rfl,fun w _=>bN (R:=.int .i64 (((f2+1+r9):Nat):Int)) .add _ _ _ rfl rfl rfl (cg _ (by omega) (by omega))⟩) (hS _ _ zh) ?_;go_frame;refine Rg.Any.one (i:=14) (by kernel_rfl) (Rg.Any.ask (some 71) rfl rfl rfl _ _ (dV 87 _ _ _ _ rfl rfl rfl rfl (PV _ _)) ?_);refine (zd (a:=f2) (b:=f2+1+r9) P2.p (by omega) (by omega) (by omega)).mono ?_;rintro e1 P8 ⟨rfl,q8,cE⟩
     have fO:=GC.p.kp cE (fun e=>by have:=GO.p.g0.lt; have:=qs.p; omega);have Gg:=TK.p.kp cE (fun e=>by have:=zg.p; have:=qs.p; omega) (fun z e=>by have:=U5.p; have:=zg.p; have:=qs.p; omega);have ig:=cL.kp PR.p cE HNG.p;have Lb:=U (show Gd d (sJ d f2 (f2+1+r9)) from K9 (by omega) (by omega));have Dy:=((World.cell?_of_block (a:=⟨w3.heap.size,0,none⟩) (cE.block w3.heap.size (fN zh) (fun e=>by have:=GO.p.g0.lt; have:=qs.p; omega))).trans zh);clear zh;refine ⟨_,rfl,(hS _ _ Dy),?_⟩;go_frame;clear P2;replace GC:=U fO;replace PR:=U ig;replace TK:=U Gg;replace KT:=U (Rg.Kp.trans (M:=fun z=>z=w1.heap.size) KT.p cE (fun z hz e=>by have:=qs.p; omega));have P3:=U q8;clear cE fO Gg ig;have aac:=U (show wr.heap.size<=P8.heap.size from KT.p.size)
     refine Rg.Any.one (i:=15) (by kernel_rfl) (Rg.Any.ask (some 72) rfl rfl rfl _ _ (aj 34 _ _ _ rfl rfl rfl (oU _ _)) ?_);refine (eV _ _ (sJ d fr (fr+1+r7)) (sJ d f2 (f2+1+r9)) P8 (h_.np PR.p rO.p Jn.p.1 Jn.p.2 (by omega)) (h_.np P3.p Lb.p AJ.p.1 AJ.p.2 (by omega)) (fun z hz=>by rw [Lb.p.2]; exact je rO.p hz) (by rw [rO.p.2]; omega)).mono ?_;rintro e1 Lc ⟨mv,rfl,iO,hb⟩;obtain ⟨mb,mo,mc,rfl⟩:=FP.eC (FP.new (F:=fun _=>True) iO) (Cm.aT rO.p Lb.p) dy;have Th:=FP.new (F:=F) iO;clear iO;have P9:=((Below.cell (p:=⟨w3.heap.size,0,none⟩) hb (fN Dy)).trans Dy);clear Dy;replace GC:=U (GC.p.up hb);replace PR:=U (PR.p.up hb);replace TK:=U (TK.p.up hb);replace P3:=U (P3.p.up hb);replace KT:=U (KT.p.up hb);have MF:=U Th;generalize dS (fun _:Nat=>True) P8 Lc=F3 at *
     clear hb;refine ⟨_,rfl,(hS _ _ P9),?_⟩;go_frame;refine i9 16 8 rfl rfl (a8 (.slice (some ⟨mb,mo,none⟩) d mc) _ rfl rfl) (bT _ _ rfl) ?_;go_frame;refine Rg.Any.done (by kernel_rfl) ?_ _;clear bT;clear hS P9;have Gc:=U (GO.p.kt KT.p TK.p)
     have P4:=U (show FP (dS F wr Lc) Lc (.slice (some ⟨mb,mo,none⟩) d mc) (Ma.ar (sJ d fr (fr+1+r7)) (sJ d f2 (f2+1+r9))) from MF.p.mono (fun z hz=>by rcases hz with hz | hz; exact .inl hz; exact .inr ⟨Nat.le_trans aac.p hz.1,hz.2⟩))
     obtain ⟨a9,c9,X9,r1,r2,r3,r4⟩:=Gc.p.push P4.p ⟨_,_,_,rfl⟩ (by have:=nT.p; omega) 41;have P5:=U (Cm.aT rO.p Lb.p);clear GO GC TK KT;go_upto_region 14 with (fail);refine c6 ?_;refine d4 73 (dw _ rfl rfl) ?_;go_frame;refine d4 74 (g9 (.slice Jq gs.length Jr) ⟨w3.heap.size,1,none⟩ (Rg.ae _ _ Tryz.underlying41 Gc.p.g1)) ?_;go_frame;refine d5 75 (.slice (some ⟨mb,mo,none⟩) d mc) ?_;go_frame;refine d4 76 (Rg.aN _ _ _ rfl (.slice (some ⟨mb,mo,none⟩) d mc) rfl (dx Lc _ ⟨_,_,_,rfl⟩)) ?_;go_frame;refine d4 77 (Rg.bF _ _ _ rfl rfl rfl r1) ?_;go_frame;refine d4 78 (dw _ rfl rfl) ?_;go_frame;refine Rg.aA none rfl rfl (Rg.ai _ _ _ rfl _ rfl _ rfl (Rg.br _ eF r2 r3)) ?_;go_frame;generalize X9.setCell ⟨w3.heap.size,1,none⟩ (.slice a9 (gs.length+1) c9)=U8 at *
     have P6:=U r4;have Ge:=U (show (gs++[(Ma.ar (sJ d fr (fr+1+r7)) (sJ d f2 (f2+1+r9)))]).length+q<=3 by rw [List.length_append]; have:=nT.p; simp; omega)
     have Gf:=U (show ∀ s∈gs++[(Ma.ar (sJ d fr (fr+1+r7)) (sJ d f2 (f2+1+r9)))],Gd d s from fun s hs=>by
      rcases List.mem_append.1 hs with hs | hs
      ·exact rm.p s hs
      ·rw [List.mem_singleton] at hs; rw [hs]; exact P5.p)
     clear r1 r2 r3 r4;go_wp2
     go_roundw
     case rel=>exact ⟨q,_,_,_,_,by go_num,by omega,Ge,Gf,P6⟩
     case measure=>simp [intOf]; try omega
end
section
open Go.RowKit
attribute [local irreducible] Go.Calls Go.wpStill
def bQ:List Int->List Int->Bool
 | [],[]=>false
 | [],_ :: _=>true
 | _ :: _,[]=>false
 | x :: a,y :: b=>if x=y then bQ a b else decide (x<y)
theorem oV:∀ a:List Int,bQ a a=false
 | []=>rfl
 | x :: a=>by rw [bQ,if_pos rfl]; exact oV a
theorem uf:∀ {a b c:List Int},bQ a b=true->bQ b c=true->bQ a c=true
 | [],[],_,h,_=>by simp [bQ] at h
 | [],_ :: _,[],_,h=>by simp [bQ] at h
 | [],_ :: _,_ :: _,_,_=>rfl
 | _ :: _,[],_,h,_=>by simp [bQ] at h
 | _ :: _,_ :: _,[],_,h=>by simp [bQ] at h
 | x :: a,y :: b,z :: c,h,h'=>by
  rw [bQ] at h h' ⊢
  by_cases e1:x=y
  ·rw [if_pos e1] at h
   by_cases e2:y=z
   ·rw [if_pos e2] at h'; rw [if_pos (e1.trans e2)]; exact uf h h'
   ·rw [if_neg e2] at h'; rw [if_neg (by omega)]; simp at h' ⊢; omega
  ·rw [if_neg e1] at h
   by_cases e2:y=z
   ·rw [if_neg (by omega)]; simp at h ⊢; omega
   ·rw [if_neg e2] at h'; simp at h h'; rw [if_neg (by omega)]; simp; omega
theorem oW:∀ {a b:List Int},bQ a b=false->a≠b->bQ b a=true
 | [],[],_,h=>absurd rfl h
 | [],_ :: _,h,_=>by simp [bQ] at h
 | _ :: _,[],_,_=>rfl
 | x :: a,y :: b,h,hn=>by
  rw [bQ] at h ⊢
  by_cases e:x=y
  ·rw [if_pos e] at h; rw [if_pos e.symm]
   exact oW h (fun e2=>hn (by rw [e,e2]))
  ·rw [if_neg e] at h; rw [if_neg (by omega)]; simp at h ⊢; omega
theorem Gh {a b:List Int} {k:Nat} (ha:k<a.length) (hb:k<b.length):bQ (a.drop k) (b.drop k)=if a[k]=b[k] then bQ (a.drop (k+1)) (b.drop (k+1)) else decide (a[k]<b[k]):=by
 rw [List.drop_eq_getElem_cons ha,List.drop_eq_getElem_cons hb,bQ]
theorem zi {a b:List Int} {k:Nat} (h:¬ (k<a.length/\k<b.length)) (hk:k<=a.length) (cU:k<=b.length):bQ (a.drop k) (b.drop k)=decide (a.length<b.length):=by
 by_cases h1:k<a.length
 ·have h2:k=b.length:=by omega
  rw [List.drop_eq_getElem_cons h1,List.drop_of_length_le (l:=b) (by omega)];simp [bQ]; omega
 ·rw [List.drop_of_length_le (l:=a) (by omega)]
  by_cases h2:k<b.length
  ·rw [List.drop_eq_getElem_cons h2]; simp [bQ]; omega
  ·rw [List.drop_of_length_le (l:=b) (by omega)]; simp [bQ]; omega
theorem Tt (v1 v2:Value) (l1 l2:List Int) (w:World) (h1:Rg.Ints w v1 l1) (h2:Rg.Ints w v2 l2) :
  Calls Tryz.prog 40 #[v1,v2] w fun e w'=>e=.returned (.bool (bQ l1 l2))/\∃ k,w'=w.drewN k:=by
 obtain ⟨a1,c1,rfl,n1,m1,_,k1⟩:=h1.shape;obtain ⟨a2,c2,rfl,n2,m2,_,k2⟩:=h2.shape;clear h1 h2;have K1:=U k1;have K2:=U k2;clear k1 k2
 go_enter Tryz.func40,Tryz.ntmps40
 go_wp2
 go_loopw [5] (fun v wr=>∃ i:Nat,v=.int .i64 i/\i<=l1.length/\i<=l2.length/\Hid (∃ k,wr=w.drewN k)/\Hid (bQ (l1.drop i) (l2.drop i)=bQ l1 l2)) (fun v _=>l1.length - (intOf v).toNat)
 case atStart=>exact ⟨0,rfl,by omega,by omega,⟨0,rfl⟩,rfl⟩
 case round =>
  obtain ⟨i,rfl,hi,jE,hw,hs⟩:=hrel
  by_cases aB:i<l1.length
  ·by_cases lS:i<l2.length
   ·obtain ⟨b1,o1,rfl,cZ,d1⟩:=K1.p (by omega)
    obtain ⟨b2,o2,rfl,eB,d2⟩:=K2.p (by omega)
    have x1:wr.cell? ⟨b1,o1+i,none⟩=some (.int .i64 l1[i]):=by obtain ⟨k,e⟩:=hw.p; rw [e]; exact d1 i aB
    have x2:wr.cell? ⟨b2,o2+i,none⟩=some (.int .i64 l2[i]):=by obtain ⟨k,e⟩:=hw.p; rw [e]; exact d2 i lS
    have hd:=Gh aB lS;generalize l1[i]=x at *;generalize l2[i]=y at *;have Hd:=U hd;clear d1 d2 hd
    by_cases he:x=y
    ·have hb:(x != y)=false:=by rw [he]; simp
     have He:=U he;clear he;go_wp2
     go_quiet (fail)
     go_wp2
     go_roundw
     case rel=>exact ⟨i+1,by go_num,by omega,by omega,by obtain ⟨k,e⟩:=hw.p; rw [e]; exact ⟨_,World.drewN_drewN _ _ _⟩,by have:=hs.p; rw [Hd.p,if_pos He.p] at this; exact this⟩
     case measure=>simp [intOf]; omega
    ·have hb:(x != y)=true:=by rw [bne_iff_ne]; exact he
     have He:=U he;clear he;go_wp2
     go_quiet (fail)
     go_wp2
     go_quiet (fail)
     go_wp2;go_ret;exact ⟨Rg.dU (by rw [<- hs.p,Hd.p,if_neg He.p]),by obtain ⟨k,e⟩:=hw.p; rw [e]; exact ⟨_,by rw [World.drewN_drewN,World.drewN_drewN]⟩⟩
   ·go_wp2
    go_ret;exact ⟨Rg.dU (by rw [<- hs.p,zi (by omega) (by omega) (by omega)]),hw.p⟩
  ·go_wp2
   go_ret;exact ⟨Rg.dU (by rw [<- hs.p,zi (by omega) (by omega) (by omega)]),hw.p⟩
def MU (L:List (List Int)):Prop:=∀ i j (hi:i<L.length) (hj:j<L.length),i<j->bQ L[i] L[j]=true
theorem jN (L:List (List Int)):MU L↔L.Pairwise (fun a b=>bQ a b=true):=by
 rw [List.pairwise_iff_getElem];exact ⟨fun h i j hi hj vd=>h i j hi hj vd,fun h i j hi hj vd=>h i j hi hj vd⟩
end
section
open Go.RowKit
open Go.Proofs.Ob
open Go.Proofs.Cm (Gd Gr)
attribute [local irreducible] Go.Calls Go.wpList
def gN (d:Nat) (gs A:List (List Nat)):Prop:=MU (A.map Ma.af)/\∀ y,y∈A↔Gr d (·∈gs) y
def Jt (d:Nat) (gs:List (List Nat)) (n7:Nat):Prop:=∃ L:List (List Nat),L.Nodup/\(∀ y∈L,Gr d (·∈gs) y)/\L.length=n7+1
theorem fZ (h:MU (A.map Ma.af)):A.Nodup:=by
 rw [jN] at h;rw [List.pairwise_map] at h
 exact h.imp fun gi e=>by subst e; rw [oV] at gi; cases gi
theorem cO.at {l:List (List Nat)} (h:cO B F M W v l) {i:Nat} (hi:i<l.length):∃ b c u,v=.slice (some ⟨b,0,none⟩) l.length c/\l.length<=c/\b<W.heap.size/\W.cell? ⟨b,i,none⟩=some u/\FP F W u l[i]:=by
 obtain ⟨us,h1,h2⟩:=h.own;obtain ⟨-,a,c,rfl,h3,h4,h5⟩:=Rg.LP h1 h2;rw [List.length_map] at h3;obtain ⟨g,rfl,hg,hx⟩:=h5 (by rw [List.length_map]; omega);obtain ⟨u,P1,F7⟩:=hx i (by simpa using hi);exact ⟨g,c,u,congrArg (fun n=>Value.slice _ n c) (List.length_map ..),h3,hg,P1,by rw [List.getElem_map] at F7; exact F7⟩
theorem cO.up0 {l:List (List Nat)} (h:cO B F (fun _=>False) W v l) (hb:Below W.heap.size W W'):cO B (dS F W W') (fun _=>False) W' v l :=
 h.Z5 (N:=fun _=>False) (Rg.Kp.aC hb) (fun _ _=>id) (fun _=>id)

theorem cO.one {B:Nat} {F M:Nat->Prop} {W:World} {u:Value} {x:List Nat} (hB:B<=W.heap.size) (hu:FP F W u x) (hs:∃ a m c,u=.slice a m c) (hF:∀ k,F k->k<W.heap.size) (hM:∀ k,M k->k<W.heap.size) :
  cO B F M (W.alloc (.cells #[u] 27)) (.slice (some ⟨W.heap.size,0,none⟩) 1 1) [x]:=by
 have hb:Below W.heap.size W (W.alloc (.cells #[u] 27)):=(Below.refl _ _).alloc (Nat.le_refl _) _;refine ⟨Nat.le_trans hB hb.size,⟨[u],⟨rfl,.inr ⟨W.heap.size,1,#[u],rfl,hB,by show (W.heap.push _)[W.heap.size]?=_; simp,Nat.le_refl _,by decide,rfl,rfl⟩⟩,?_⟩,fun k e=>?_⟩
 ·exact Rg.bE.one (Rg.FI.kp hu (Rg.Kp.aC hb) (fun _ _=>id))
 ·simp only [Value.ownBlock,Option.some.injEq] at e
  subst e;exact ⟨fun h=>Nat.lt_irrefl _ (hF _ h),fun h=>Nat.lt_irrefl _ (hM _ h)⟩
end
section
open Go.Proofs.Cm (Gr Gd ak cj St Fx ap my)
def kC (r A:List (List Nat)):List (List Nat):=r.flatMap fun u=>A.map (Ma.ar u)
theorem qy (r A:List (List Nat)):(kC r A).length=r.length*A.length:=by
 unfold kC
 induction r with
 | nil=>simp
 | cons u r ih=>rw [List.flatMap_cons,List.length_append,ih,List.length_map,List.length_cons,Nat.succ_mul,Nat.add_comm]
theorem mN {r:List (List Nat)} {x:List Nat}:x∈kC r A↔∃ u∈r,∃ z∈A,Ma.ar u z=x:=by
 unfold kC;simp only [List.mem_flatMap,List.mem_map]
def ko (n:Nat) (R:List (List (List Nat))):Nat->List (List Nat)
 | 0=>[Ma.bh n]
 | i+1=>kC (R.getD i []) (ko n R i)
structure PK (n:Nat) (H:List Nat->Prop) (i:Nat) (L:List (List Nat)):Prop where
 P_:∀ z∈L,H z
 all:∀ x,H x->∃ s z,St H i s/\z∈L/\x=Ma.ar s z
 sep:∀ z z' s s',z∈L->z'∈L->St H i s->St H i s'->Ma.ar s z=Ma.ar s' z'->z=z'
 nd:L.Nodup
theorem PK.zero (hH:cj n H):PK n H 0 [Ma.bh n] :=
 ⟨fun z hz=>by rw [List.mem_singleton] at hz; subst hz; exact hH.one,fun x hx=>⟨x,Ma.bh n,⟨hx,fun j hj=>absurd hj (Nat.not_lt_zero _)⟩,by simp,(Cm.mul_one (hH.gd x hx)).symm⟩,fun z z' _ _ hz xi _ _ _=>by rw [List.mem_singleton] at hz xi; rw [hz,xi],by simp⟩
theorem xK (h:ak n H O R) {i:Nat} (hi:i<n) {k:Nat} (hk:k<(R.getD i []).length):my n (fun z=>St H i z/\ap z i=(O.getD i []).getD k 0) (R.getD i [])[k]:=by
 have:=h.rep i k hi (by rw [<- h.len i hi]; exact hk)
 rwa [Cm.getD_in hk] at this
theorem ug (h:ak n H O R) {i:Nat} (hi:i<n) {u:List Nat} (hu:u∈R.getD i []):my n (fun z=>St H i z/\ap z i=ap u i) u:=by
 obtain ⟨k,hk,rfl⟩:=List.getElem_of_mem hu;have:=xK h hi hk;have e:=this.1.2;rw [<- e] at this;exact this
theorem Tu (h:ak n H O R) {i:Nat} (hi:i<n) {s:List Nat} (hs:St H i s):∃ u∈R.getD i [],St H i u/\ap u i=ap s i:=by
 obtain ⟨k,hk,e⟩:=List.getElem_of_mem ((h.orb i (ap s i) hi).2 ⟨s,hs,rfl⟩)
 have cU:k<(R.getD i []).length:=by rw [h.len i hi]; exact hk
 have h1:=(xK h hi cU).1;refine ⟨_,List.getElem_mem cU,h1.1,?_⟩;rw [h1.2,Cm.getD_in hk,e]
theorem MW (h:ak n H O R) {i:Nat} (hi:i<n):(R.getD i []).Pairwise (fun u v=>ap u i<ap v i):=by
 rw [List.pairwise_iff_getElem];intro a b ha hb gi
 have mA:a<(O.getD i []).length:=by rw [<- h.len i hi]; exact ha
 have eB:b<(O.getD i []).length:=by rw [<- h.len i hi]; exact hb
 rw [(xK h hi ha).1.2,(xK h hi hb).1.2,Cm.getD_in mA,Cm.getD_in eB];exact (List.pairwise_iff_getElem.1 (h.jk i hi)) a b mA eB gi
theorem PK.step (hH:cj n H) (h:ak n H O R) {i:Nat} (hi:i<n) {L:List (List Nat)} (hL:PK n H i L):PK n H (i+1) (kC (R.getD i []) L):=by
 have key:∀ u z u' z' s s',u∈R.getD i []->u'∈R.getD i []->z∈L->z'∈L->St H (i+1) s->St H (i+1) s'->Ma.ar s (Ma.ar u z)=Ma.ar s' (Ma.ar u' z')->z=z'/\u=u':=by
  intro u z u' z' s s' hu fR hz xi hs MX e;have l1:=ug h hi hu;have l2:=ug h hi fR;have gs:=hH.gd _ hs.1;have gs':=hH.gd _ MX.1;have gu:=hH.gd _ l1.1.1.1;have gu':=hH.gd _ l2.1.1.1;rw [<- Cm.mul_assoc gs gu,<- Cm.mul_assoc gs' gu'] at e;have a1:St H i (Ma.ar s u):=⟨hH.mul _ _ hs.1 l1.1.1.1,Fx.mul gs (Nat.le_of_lt hi) (hs.2.mono (Nat.le_succ _)) l1.1.1.2⟩;have a2:St H i (Ma.ar s' u'):=⟨hH.mul _ _ MX.1 l2.1.1.1,Fx.mul gs' (Nat.le_of_lt hi) (MX.2.mono (Nat.le_succ _)) l2.1.1.2⟩;have ez:=hL.sep z z' _ _ hz xi a1 a2 e;subst ez;have gz:=hH.gd _ (hL.P_ z hz);have e2:=congrArg (fun t=>Ma.ar t (Ma.aX z)) e;simp only [Cm.jd (Cm.aT gs gu) gz,Cm.jd (Cm.aT gs' gu') gz] at e2;have e3:=congrArg (fun t=>ap t i) e2;simp only [Cm.bs gs hi,Cm.bs gs' hi,hs.2 i (Nat.lt_succ_self _),MX.2 i (Nat.lt_succ_self _)] at e3
  rw [<- e3] at l2;exact ⟨rfl,l1.uniq l2⟩
 refine ⟨fun y hy=>?_,fun x hx=>?_,fun y y' s s' hy uS hs MX e=>?_,?_⟩
 ·obtain ⟨u,hu,z,hz,rfl⟩:=mN.1 hy
  exact hH.mul _ _ (ug h hi hu).1.1.1 (hL.P_ z hz)
 ·obtain ⟨s,z,hs,hz,rfl⟩:=hL.all x hx
  obtain ⟨u,hu,su,eu⟩:=Tu h hi hs;have gs:=hH.gd _ hs.1;have gu:=hH.gd _ su.1;refine ⟨Ma.ar s (Ma.aX u),Ma.ar u z,⟨hH.mul _ _ hs.1 (hH.inv _ su.1),fun j hj=>?_⟩,mN.2 ⟨u,hu,z,hz,rfl⟩,?_⟩
  ·rw [Cm.bs gs (by omega)]
   rcases Nat.lt_or_ge j i with e | e
   ·rw [hs.2 j e]
    exact Fx.inv gu (Nat.le_of_lt hi) su.2 j e
   ·obtain rfl:j=i:=by omega
    rw [<- eu];exact Cm.eW gu hi
  ·rw [<- Cm.mul_assoc (Cm.aT gs (Cm.aH gu)) gu,Cm.mul_inv_cancel gs gu]
 ·obtain ⟨u,hu,z,hz,rfl⟩:=mN.1 hy
  obtain ⟨u',fR,z',xi,rfl⟩:=mN.1 uS;obtain ⟨rfl,rfl⟩:=key u z u' z' s s' hu fR hz xi hs MX e;rfl
 ·have o1:St H (i+1) (Ma.bh n):=⟨hH.one,Fx.one (by omega)⟩
  have gm:∀ u∈R.getD i [],∀ z∈L,Gd n (Ma.ar u z):=fun u hu z hz=>Cm.aT (hH.gd _ (ug h hi hu).1.1.1) (hH.gd _ (hL.P_ z hz))
  have k2:∀ u∈R.getD i [],∀ u'∈R.getD i [],∀ z∈L,∀ z'∈L,Ma.ar u z=Ma.ar u' z'->z=z'/\u=u':=fun u hu u' fR z hz z' xi e =>
   key u z u' z' _ _ hu fR hz xi o1 o1 (by rw [e])
  unfold kC;rw [List.Nodup,List.pairwise_flatMap];refine ⟨fun u hu=>?_,?_⟩
  ·rw [List.pairwise_map]
   exact List.Pairwise.imp_of_mem (fun {a b} ha hb hne e=>hne (k2 u hu u hu a ha b hb e).1) hL.nd
  ·refine List.Pairwise.imp_of_mem (fun {u v} hu hv aB x hx y hy e=>?_) (MW h hi)
   obtain ⟨z,hz,rfl⟩:=List.mem_map.1 hx;obtain ⟨z',xi,rfl⟩:=List.mem_map.1 hy;have:=(k2 u hu v hv z hz z' xi e).2;subst this;omega
theorem BH {n:Nat} {H:List Nat->Prop} (hH:cj n H) {O:List (List Nat)} {R:List (List (List Nat))} (h:ak n H O R):∀ {i:Nat},i<=n->PK n H i (ko n R i)
 | 0,_=>PK.zero hH
 | i+1,hi=>PK.step hH h hi (BH hH h (Nat.le_of_lt hi))
theorem sK (hH:cj n H) (h:ak n H O R):(ko n R n).Nodup/\∀ x,x∈ko n R n↔H x:=by
 have hp:=BH hH h (Nat.le_refl n);refine ⟨hp.nd,fun x=>⟨hp.P_ x,fun hx=>?_⟩⟩;obtain ⟨s,z,hs,hz,rfl⟩:=hp.all x hx;have e:=Fx.all (hH.gd _ hs.1) hs.2;rw [e,Cm.one_mul (hH.gd _ (hp.P_ z hz))];exact hz
def Qa (n:Nat):Nat->Nat
 | 0=>1
 | i+1=>(n - i)*Qa n i
theorem BJ {n:Nat} {H:List Nat->Prop} (hH:cj n H) {O:List (List Nat)} {R:List (List (List Nat))} (h:ak n H O R):∀ {i:Nat},i<=n->(ko n R i).length<=Qa n i
 | 0,_=>Nat.le_refl 1
 | i+1,hi=>by
  have h1:=BJ hH h (i:=i) (Nat.le_of_lt hi);have h2:=hU hH h (i:=i) hi;rw [<- h.len i hi] at h2;show (kC _ _).length<=_;rw [qy];exact Nat.mul_le_mul h2 h1
theorem MY:∀ n,n<7->∀ i,i<7->i<=n->Qa n i<=720:=by decide
theorem Ju (hH:cj n H) (h:ak n H O R) (hn:n<=6) {i:Nat} (hi:i<=n):(ko n R i).length<=720 :=
 Nat.le_trans (BJ hH h hi) (MY n (by omega) i (by omega) hi)
theorem Jv (hl:∀ i,i<n->(R.getD i []).length=(O.getD i []).length) (hO:O.length=n):(ko n R n).length=eL (O.map Ma.af):=by
 have key:∀ i,i<=n->(ko n R i).length=eL ((O.take i).map Ma.af):=by
  intro i
  induction i with
  | zero=>intro _; rfl
  | succ i ih =>
   intro hi;show (kC _ _).length=_;rw [qy,ih (by omega),hl i hi,List.take_succ_eq_append_getElem (by omega),List.map_append,List.map_singleton,qt,Ma.az,df (by omega),Nat.mul_comm]
 have:=key n (Nat.le_refl _)
 rwa [List.take_of_length_le (by omega)] at this
theorem gN.len {d:Nat} (hg:∀ s∈gs,Gd d s) (h:ak d (Gr d (·∈gs)) O R) (hA:gN d gs A):A.length=(ko d R d).length:=by
 obtain ⟨h1,h2⟩:=sK (Gr.bV hg) h;exact Nat.le_antisymm (fG (fZ hA.1) fun x hx=>(h2 x).2 ((hA.2 x).1 hx)) (fG h1 fun x hx=>(hA.2 x).2 ((h2 x).1 hx))
theorem Jt.no {d:Nat} (hg:∀ s∈gs,Gd d s) (h:ak d (Gr d (·∈gs)) O R) (hd:d<=6):¬ Jt d gs 720:=by
 rintro ⟨L,h1,h2,h3⟩;obtain ⟨q1,q2⟩:=sK (Gr.bV hg) h;have:=fG h1 fun x hx=>(q2 x).2 (h2 x hx);have:=Ju (Gr.bV hg) h hd (Nat.le_refl d);omega
end
end Go.Proofs.YtpedbljnhnoohaaGreat
