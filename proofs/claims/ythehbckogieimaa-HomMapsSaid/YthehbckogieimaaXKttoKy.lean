/- Lemmas and contracts on the way to the statement; no condition of their own beyond those written. -/
import Derived.Test.YthehbckogieimaaXWntoKu
import Derived.RangeFuncWrites
import Derived.RangeFuncNested
import Derived.RangeFuncBox
import Derived.RangeFuncLeaves
import Derived.Shelf.Abstract
import Derived.OwnWalkIn
import Derived.TacticsInMore
import Derived.LoopNIn
import Derived.LoopIn
import Derived.Maps.AppendAt
import Derived.Sort.CutIn
import Derived.Deep.CutRange
import Derived.Deep.CutBlock
import Derived.IntWalk
import Derived.Great.BuildSlice
import Derived.ArgAppend
import Derived.Laws.CopyOwn
import Derived.StillTailTactics
import Derived.Deep.MidRow
import Derived.WalkSpells
import Derived.WalkLawsBesides
import Derived.OwnWalk
import Derived.OrdersHeld
import Derived.Deep.OwnRows
import Derived.WalkKit
import Derived.Lib.Hide
import Derived.Laws.OwnMore
import Derived.Test.YthehbckogieimaaProg
import Derived.Outline
import Derived.Deep.DeepFit
import Derived.BigQuiet
import Derived.Deep.QuietTactic
import Derived.Sort.OwnSortedInts
import Derived.WideMake
import Derived.MapKept
import Derived.ChangeMaps5
import Derived.Shelf.Sort.Plain
import Derived.Lib.ConvBytes
import Derived.ChangeKeysEq
import Derived.Laws.Cells
import Derived.Laws.Rows
import Derived.Laws.Tables
import Derived.Deep.WholeRow
import Derived.OrdersIn
import Derived.TacticsIn
import Derived.Deep.LoopGhost
import Derived.Lib.SlicesSearch
set_option linter.unusedVariables false
set_option linter.unusedSimpArgs false
set_option maxRecDepth 100000
set_option maxHeartbeats 8000000
namespace Go.Proofs.Ythehbckogieimaa
open Go.RowKit
open Go.Proofs
open Go.Proofs.Ob
attribute [local irreducible] Go.Calls Go.wpList
theorem Ktcl0 (args:Array Value) (w:World):(callFunc 33 args).run Try.prog w=.ok (.enter 33 args) w:=by kernel_rfl
theorem Ktcl1 (args:Array Value) (w:World):(callFunc 34 args).run Try.prog w=.ok (.enter 34 args) w:=by kernel_rfl
theorem Ktcl2 (args:Array Value) (w:World):(callFunc 36 args).run Try.prog w=.ok (.enter 36 args) w:=by kernel_rfl
theorem Ktcl3 (args:Array Value) (w:World):(callFunc 35 args).run Try.prog w=.ok (.enter 35 args) w:=by kernel_rfl
theorem Ktcl4 (args:Array Value) (w:World):(callFunc 37 args).run Try.prog w=.ok (.enter 37 args) w:=by kernel_rfl
theorem Ktcl5 (args:Array Value) (w:World):(callFunc 38 args).run Try.prog w=.ok (.enter 38 args) w:=by kernel_rfl
theorem infoFa:(Try.prog.info? 61).map (fun i=>(i.zero,i.size,i.bytes))=some (some (.agg #[.int .i64 0,.slice none 0 0,.int .i64 0,.slice none 0 0]),4,64):=by kernel_rfl
structure Qd (w:World) (b:Nat) (x y z u:Value):Prop where
 c0:w.cell? ⟨b,0,none⟩=some x
 c1:w.cell? ⟨b,1,none⟩=some y
 c2:w.cell? ⟨b,2,none⟩=some z
 c3:w.cell? ⟨b,3,none⟩=some u
 f0:w.frozen? ⟨b,0,none⟩=false
 f1:w.frozen? ⟨b,1,none⟩=false
 f2:w.frozen? ⟨b,2,none⟩=false
 f3:w.frozen? ⟨b,3,none⟩=false
 lt:b<w.heap.size
theorem Qd.below {w w':World} {b:Nat} {x y z u:Value} (h:Qd w b x y z u) (hb:Below w.heap.size w w'):Qd w' b x y z u :=
 ⟨(hb.cell (p:=⟨b,0,none⟩) h.lt).trans h.c0,(hb.cell (p:=⟨b,1,none⟩) h.lt).trans h.c1,(hb.cell (p:=⟨b,2,none⟩) h.lt).trans h.c2,(hb.cell (p:=⟨b,3,none⟩) h.lt).trans h.c3,(hb.frozen (p:=⟨b,0,none⟩) h.lt).trans h.f0,(hb.frozen (p:=⟨b,1,none⟩) h.lt).trans h.f1,(hb.frozen (p:=⟨b,2,none⟩) h.lt).trans h.f2,(hb.frozen (p:=⟨b,3,none⟩) h.lt).trans h.f3,Nat.lt_of_lt_of_le h.lt hb.size⟩
theorem Qd.new (w:World) (x y z u:Value) (t:TypeId):Qd (w.alloc (.cells #[x,y,z,u] t)) w.heap.size x y z u :=
 ⟨by rw [Rg.cellNew]; rfl,by rw [Rg.cellNew]; rfl,by rw [Rg.cellNew]; rfl,by rw [Rg.cellNew]; rfl,frozenNewN _ _ _ 0 _,frozenNewN _ _ _ 0 _,frozenNewN _ _ _ 0 _,frozenNewN _ _ _ 0 _,by simp⟩
theorem Qd.set {w:World} {b:Nat} {u1 u2 u3 u4:Value} (h:Qd w b u1 u2 u3 u4) (x y z u:Value):Qd ((((w.setCell ⟨b,0,none⟩ x).setCell ⟨b,1,none⟩ y).setCell ⟨b,2,none⟩ z).setCell ⟨b,3,none⟩ u) b x y z u:=by
 have ne:∀ {w:World} {i j:Nat} {v:Value},i≠j→(w.setCell ⟨b,i,none⟩ v).cell? ⟨b,j,none⟩=w.cell? ⟨b,j,none⟩:=fun hij=>by
  rw [World.cell?_setCell_other (h:=by intro e; injection e with e1 e2; first | exact hij e2 | exact hij e2.symm) ..]
 have s0:(w.setCell ⟨b,0,none⟩ x).cell? ⟨b,0,none⟩=some x:=World.cell?_setCell_same (h:=h.c0) ..;have s1:((w.setCell ⟨b,0,none⟩ x).setCell ⟨b,1,none⟩ y).cell? ⟨b,1,none⟩=some y:=World.cell?_setCell_same (h:=(ne (by decide)).trans h.c1) ..;have s2:(((w.setCell ⟨b,0,none⟩ x).setCell ⟨b,1,none⟩ y).setCell ⟨b,2,none⟩ z).cell? ⟨b,2,none⟩=some z:=World.cell?_setCell_same (h:=(ne (by decide)).trans ((ne (by decide)).trans h.c2)) ..;have s3:((((w.setCell ⟨b,0,none⟩ x).setCell ⟨b,1,none⟩ y).setCell ⟨b,2,none⟩ z).setCell ⟨b,3,none⟩ u).cell? ⟨b,3,none⟩=some u:=World.cell?_setCell_same (h:=(ne (by decide)).trans ((ne (by decide)).trans ((ne (by decide)).trans h.c3))) ..;refine ⟨(ne (by decide)).trans ((ne (by decide)).trans ((ne (by decide)).trans s0)),(ne (by decide)).trans ((ne (by decide)).trans s1),(ne (by decide)).trans s2,s3,?_,?_,?_,?_,by simpa using h.lt⟩
 ·rw [World.frozen?_setCell,World.frozen?_setCell,World.frozen?_setCell,World.frozen?_setCell]; exact h.f0
 ·rw [World.frozen?_setCell,World.frozen?_setCell,World.frozen?_setCell,World.frozen?_setCell]; exact h.f1
 ·rw [World.frozen?_setCell,World.frozen?_setCell,World.frozen?_setCell,World.frozen?_setCell]; exact h.f2
 ·rw [World.frozen?_setCell,World.frozen?_setCell,World.frozen?_setCell,World.frozen?_setCell]; exact h.f3
theorem run_storeFa {w:World} {b:Nat} {u1 u2 u3 u4:Value} (d e:Int) (a a':Option Addr) (n c n' c':Nat) (h:Qd w b u1 u2 u3 u4) :
  (storeVar 61 ⟨b,0,none⟩ (.agg #[.int .i64 d,.slice a n c,.int .i64 e,.slice a' n' c'])).run Try.prog w=.ok () ((((w.setCell ⟨b,0,none⟩ (.int .i64 d)).setCell ⟨b,1,none⟩ (.slice a n c)).setCell ⟨b,2,none⟩ (.int .i64 e)).setCell ⟨b,3,none⟩ (.slice a' n' c')):=by
 obtain ⟨i0,hi,hz0,hz1,hz2⟩:=info_parts infoFa
 have ne:∀ {w:World} {i j:Nat} {v:Value},i≠j→(w.setCell ⟨b,i,none⟩ v).cell? ⟨b,j,none⟩=w.cell? ⟨b,j,none⟩:=fun hij=>by
  rw [World.cell?_setCell_other (h:=by intro e; injection e with e1 e2; first | exact hij e2 | exact hij e2.symm) ..]
 have g1:(w.setCell ⟨b,0,none⟩ (.int .i64 d)).cell? ⟨b,1,none⟩=some u2:=(ne (by decide)).trans h.c1;have g2:((w.setCell ⟨b,0,none⟩ (.int .i64 d)).setCell ⟨b,1,none⟩ (.slice a n c)).cell? ⟨b,2,none⟩=some u3:=(ne (by decide)).trans ((ne (by decide)).trans h.c2);have g3:(((w.setCell ⟨b,0,none⟩ (.int .i64 d)).setCell ⟨b,1,none⟩ (.slice a n c)).setCell ⟨b,2,none⟩ (.int .i64 e)).cell? ⟨b,3,none⟩=some u4:=(ne (by decide)).trans ((ne (by decide)).trans ((ne (by decide)).trans h.c3))
 have k1:(w.setCell ⟨b,0,none⟩ (.int .i64 d)).frozen? ⟨b,1,none⟩=false:=by rw [World.frozen?_setCell]; exact h.f1
 have k2:((w.setCell ⟨b,0,none⟩ (.int .i64 d)).setCell ⟨b,1,none⟩ (.slice a n c)).frozen? ⟨b,2,none⟩=false:=by rw [World.frozen?_setCell,World.frozen?_setCell]; exact h.f2
 have k3:(((w.setCell ⟨b,0,none⟩ (.int .i64 d)).setCell ⟨b,1,none⟩ (.slice a n c)).setCell ⟨b,2,none⟩ (.int .i64 e)).frozen? ⟨b,3,none⟩=false:=by rw [World.frozen?_setCell,World.frozen?_setCell,World.frozen?_setCell]; exact h.f3
 have ha0:(⟨b,0,none⟩:Addr).add 0=⟨b,0,none⟩:=by simp [Addr.add]
 have ha1:(⟨b,0,none⟩:Addr).add 1=⟨b,1,none⟩:=by simp [Addr.add]
 have ha2:(⟨b,0,none⟩:Addr).add 2=⟨b,2,none⟩:=by simp [Addr.add]
 have ha3:(⟨b,0,none⟩:Addr).add 3=⟨b,3,none⟩:=by simp [Addr.add]
 simp [storeVar,sizeOf,typeInfo,hi,hz1,Value.cells,storeCells,store,ha0,ha1,ha2,ha3];simp [Sem.run,h.c0,h.f0,g1,k1,g2,k2,g3,k3]
theorem run_loadFa {w:World} {b:Nat} {x y z u:Value} (h0:w.cell? ⟨b,0,none⟩=some x) (h1:w.cell? ⟨b,1,none⟩=some y) (h2:w.cell? ⟨b,2,none⟩=some z) (h3:w.cell? ⟨b,3,none⟩=some u):(loadVar 61 ⟨b,0,none⟩).run Try.prog w=.ok (.agg #[x,y,z,u]) w:=by
 obtain ⟨i0,hi,hz0,hz1,hz2⟩:=info_parts infoFa
 have ha0:(⟨b,0,none⟩:Addr).add 0=⟨b,0,none⟩:=by simp [Addr.add]
 have ha1:(⟨b,0,none⟩:Addr).add 1=⟨b,1,none⟩:=by simp [Addr.add]
 have ha2:(⟨b,0,none⟩:Addr).add 2=⟨b,2,none⟩:=by simp [Addr.add]
 have ha3:(⟨b,0,none⟩:Addr).add 3=⟨b,3,none⟩:=by simp [Addr.add]
 have hg:(isAgg 61).run Try.prog w=.ok true w:=by kernel_rfl
 simp [loadVar,hg,sizeOf,typeInfo,hi,hz1,loadCells,loadCellsFrom,load,ha0,ha1,ha2,ha3];simp [Sem.run,h0,h1,h2,h3]
theorem exec_allocFa {o:Oper} {a:Act} {w:World} (ho:o.op=.alloc 61):(execOp a.eval o).run Try.prog w=.ok (.value (.pointer (some ⟨w.heap.size,0,none⟩))) (w.alloc (.cells #[.int .i64 0,.slice none 0 0,.int .i64 0,.slice none 0 0] 61)):=by
 obtain ⟨i0,hi,hz0,hz1,hz2⟩:=info_parts infoFa;unfold execOp;simp [ho,Instr.alloc,typeInfo,zeroValue,hi,hz0,newVar,Value.cells,Result.andThen];rfl
theorem exec_buildFa {o:Oper} {ac:Act} {w:World} {d e:Int} {a a':Option Addr} {n c n' c':Nat} (x y:Operand) (ho:o.op=.build 61 #[(0,x),(1,y)]) (hx:ac.eval x=.agg #[.int .i64 d,.slice a n c]) (hy:ac.eval y=.agg #[.int .i64 e,.slice a' n' c']) :
  (execOp ac.eval o).run Try.prog w=.ok (.value (.agg #[.int .i64 d,.slice a n c,.int .i64 e,.slice a' n' c'])) w:=by
 unfold execOp;simp only [ho,Sem.run_bind,Sem.run_pure];simp only [List.map_toArray,List.map_cons,List.map_nil,hx,hy]
 have h:(Instr.build 61 #[(0,.agg #[.int .i64 d,.slice a n c]),(1,.agg #[.int .i64 e,.slice a' n' c'])]).run Try.prog w=.ok (.agg #[.int .i64 d,.slice a n c,.int .i64 e,.slice a' n' c']) w:=by kernel_rfl
 first | (simp [h,Result.andThen]) | (rw [h]; rfl) | (erw [h]; rfl)
theorem exec_buildPr {o:Oper} {ac:Act} {w:World} {d e:Int} {a a':Option Addr} {n c n' c':Nat} (x y:Operand) (ho:o.op=.build 67 #[(1,x),(2,y)]) (hx:ac.eval x=.agg #[.int .i64 d,.slice a n c]) (hy:ac.eval y=.agg #[.int .i64 e,.slice a' n' c']) :
  (execOp ac.eval o).run Try.prog w=.ok (.value (.agg #[.int .i64 0,.slice none 0 0,.slice none 0 0,.int .i64 d,.slice a n c,.int .i64 e,.slice a' n' c'])) w:=by
 unfold execOp;simp only [ho,Sem.run_bind,Sem.run_pure];simp only [List.map_toArray,List.map_cons,List.map_nil,hx,hy]
 have h:(Instr.build 67 #[(1,.agg #[.int .i64 d,.slice a n c]),(2,.agg #[.int .i64 e,.slice a' n' c'])]).run Try.prog w=.ok (.agg #[.int .i64 0,.slice none 0 0,.slice none 0 0,.int .i64 d,.slice a n c,.int .i64 e,.slice a' n' c']) w:=by kernel_rfl
 first | (simp [h,Result.andThen]) | (rw [h]; rfl) | (erw [h]; rfl)
theorem exec_makeFuncB {o:Oper} {a:Act} {w:World} (F:FuncId) (x:Operand) (ho:o.op=.makeFunc (.func F) #[x] #[]) {v:Value} (hx:a.eval x=v):(execOp a.eval o).run Try.prog w=.ok (.value (.func (.func F) #[v] #[])) w:=by
 unfold execOp;simp [ho,hx,Instr.makeFunc]
theorem exec_fnB {o:Oper} {a:Act} {w:World} (F:FuncId) (x:Operand) (tys:Array TypeId) (ho:o.op=.call { callee:=.value x,args:=#[],argTypes:=tys }) {v:Value} (hx:a.eval x=.func (.func F) #[v] #[])
  (hF:(callFunc F #[v]).run Try.prog w=.ok (.enter F #[v]) w):(execOp a.eval o).run Try.prog w=.ok (.enter F #[v]) w:=by
 unfold execOp;simp [ho,hx,resolve,invoke,Deferred.ofValue,hF]
theorem exec_buildE4 {o:Oper} {a:Act} {w:World} {x y z u:Int} (p q r s:Operand) (ho:o.op=.buildSlice 75 4 #[(0,p),(1,q),(2,r),(3,s)]) (hp:a.eval p=.int .i64 x) (hq:a.eval q=.int .i64 y) (hr:a.eval r=.int .i64 z) (hs:a.eval s=.int .i64 u) :
  (execOp a.eval o).run Try.prog w=.ok (.value (.slice (some ⟨w.heap.size,0,none⟩) 4 4)) (w.alloc (.cells #[.int .i64 x,.int .i64 y,.int .i64 z,.int .i64 u] 27)):=by
 unfold execOp;simp only [ho,Sem.run_bind,Sem.run_pure];simp only [List.map_toArray,List.map_cons,List.map_nil,hp,hq,hr,hs];have h:=run_buildE4 w x y z u
 first | (simp [h,Result.andThen]) | (rw [h]; rfl) | (erw [h]; rfl)
theorem box2t (w:World) (x y:Value) (t:TypeId):CL (w.alloc (.cells #[x,y] t)) w.heap.size 0 x∧CL (w.alloc (.cells #[x,y] t)) w.heap.size 1 y :=
 ⟨⟨by rw [Rg.cellNew]; rfl,by simp⟩,⟨by rw [Rg.cellNew]; rfl,by simp⟩⟩
theorem or_hom {d e:Int} {L M:List (List Int)} {r:Int} (hr:(1≤d∧d≤64)→(1≤e∧e≤64)→r=if 64<d+e then 5 else 0):orL [Ma.gchk d L,Ma.gchk e M,mnC L.length M.length,r]=homC d e L M:=by
 have ne:∀ {x:Int},x≠0→∀ l,orL (x :: l)=x:=fun h l=>by rw [orL,if_pos h]
 have eq:∀ {x:Int},x=0→∀ l,orL (x :: l)=orL l:=fun h l=>by rw [orL,if_neg (fun q=>q h)]
 by_cases h1:Ma.gchk d L=0
 ·rw [eq h1]
  by_cases h2:Ma.gchk e M=0
  ·rw [eq h2]
   have g1:1≤d∧d≤64:=by
    obtain ⟨D,gs,e1,_,_,q1,q2,_⟩:=gchk_ok h1;omega
   have g2:1≤e∧e≤64:=by
    obtain ⟨D,gs,e1,_,_,q1,q2,_⟩:=gchk_ok h2;omega
   by_cases h3:L.length=M.length
   ·rw [eq (mnC_eq h3),hr g1 g2]
    by_cases h4:64<d+e
    ·rw [if_pos h4,homC_4 h1 h2 h3 h4]; rfl
    ·rw [if_neg h4,homC_5 h1 h2 h3 h4]; rfl
   ·rw [mnC_ne h3,homC_3 h1 h2 h3]; rfl
  ·rw [ne h2,homC_2 h1 h2]
 ·rw [ne h1,homC_1 h1]
theorem rowsI_get {w:World} {a:Option Addr} {n c:Nat} {T:List (List Int)} (h:Rg.Rows w (.slice a n c) T) {i:Nat} (hi:i<T.length):∃ b o ua uc,a=some ⟨b,o,none⟩∧b<w.heap.size∧w.cell? ⟨b,o+i,none⟩=some (.slice ua T[i].length uc)∧Rg.Ints w (.slice ua T[i].length uc) T[i]:=by
 obtain ⟨a',c',e,-,-,-,hx⟩:=h.shape;simp only [Value.slice.injEq] at e;obtain ⟨rfl,rfl,rfl⟩:=e;obtain ⟨b,o,e1,e2,e3⟩:=hx (by omega);obtain ⟨u,h1,h2⟩:=e3 i hi;obtain ⟨ua,uc,rfl,-⟩:=h2.shape;exact ⟨b,o,ua,uc,e1,e2,h1,h2⟩
theorem prL_step {L M:List (List Int)} {i:Nat} (h1:i<L.length) (h2:i<M.length):(prL L M).take (i+1)=(prL L M).take i++[joinI L[i] M[i]]:=by
 have h3:i<(prL L M).length:=by unfold prL; rw [List.length_zipWith]; omega
 rw [List.take_add_one,List.getElem?_eq_getElem h3]
 have e:(prL L M)[i]=joinI L[i] M[i]:=by
  show (List.zipWith joinI L M)[i]=_;exact List.getElem_zipWith
 rw [e];rfl
structure PrAt (W:World) (pb:Nat) (d e:Int) (gv hv:Value) (oa:Option Addr) (oc:Nat) (ra:Option Addr) (rc:Nat) (L M:List (List Int)):Prop where
 c0:W.cell? ⟨pb,0,none⟩=some (.int .i64 (d+e))
 c1:W.cell? ⟨pb,1,none⟩=some (.slice oa (pO (d+e) (prL L M)).length oc)
 c2:W.cell? ⟨pb,2,none⟩=some (.slice ra (pR (d+e) (prL L M)).length rc)
 c3:W.cell? ⟨pb,3,none⟩=some (.int .i64 d)
 c4:W.cell? ⟨pb,4,none⟩=some gv
 c5:W.cell? ⟨pb,5,none⟩=some (.int .i64 e)
 c6:W.cell? ⟨pb,6,none⟩=some hv
 lt:pb<W.heap.size
 ch:ChEqR W (.slice oa (pO (d+e) (prL L M)).length oc) (.slice ra (pR (d+e) (prL L M)).length rc) (pO (d+e) (prL L M)) (pR (d+e) (prL L M))
 rg:Rg.Rows W gv L
 rh:Rg.Rows W hv M
 pc:∃ N gs,PcF (d+e) (prL L M) N gs
theorem PrAt.below {W W':World} {pb:Nat} {d e:Int} {gv hv:Value} {oa:Option Addr} {oc:Nat} {ra:Option Addr} {rc:Nat} {L M:List (List Int)} (h:PrAt W pb d e gv hv oa oc ra rc L M) (hb:Below W.heap.size W W'):PrAt W' pb d e gv hv oa oc ra rc L M :=
 ⟨(hb.cell (p:=⟨pb,0,none⟩) h.lt).trans h.c0,(hb.cell (p:=⟨pb,1,none⟩) h.lt).trans h.c1,(hb.cell (p:=⟨pb,2,none⟩) h.lt).trans h.c2,(hb.cell (p:=⟨pb,3,none⟩) h.lt).trans h.c3,(hb.cell (p:=⟨pb,4,none⟩) h.lt).trans h.c4,(hb.cell (p:=⟨pb,5,none⟩) h.lt).trans h.c5,(hb.cell (p:=⟨pb,6,none⟩) h.lt).trans h.c6,Nat.lt_of_lt_of_le h.lt hb.size,h.ch.below hb,h.rg.below hb,h.rh.below hb,h.pc⟩
def OfPost (d e:Int) (gv hv:Value) (L M:List (List Int)) (w:World) (ed:Ending) (w':World):Prop :=
 (homC d e L M≠0→ed=.returned (.tuple #[.pointer none,.int .i64 (homC d e L M)]))∧(homC d e L M=0→∃ pb oa oc ra rc,ed=.returned (.tuple #[.pointer (some ⟨pb,0,none⟩),.int .i64 0])∧PrAt w' pb d e gv hv oa oc ra rc L M)∧Below w.heap.size w w'
theorem pair_new {w:World} (x y z u v s t:Value) (ty:TypeId):Tri (w.alloc (.cells #[x,y,z,u,v,s,t] ty)) w.heap.size x y z∧CL (w.alloc (.cells #[x,y,z,u,v,s,t] ty)) w.heap.size 3 u∧CL (w.alloc (.cells #[x,y,z,u,v,s,t] ty)) w.heap.size 4 v∧CL (w.alloc (.cells #[x,y,z,u,v,s,t] ty)) w.heap.size 5 s∧CL (w.alloc (.cells #[x,y,z,u,v,s,t] ty)) w.heap.size 6 t :=
 ⟨⟨by rw [Rg.cellNew]; rfl,by rw [Rg.cellNew]; rfl,by rw [Rg.cellNew]; rfl,frozenNewN _ _ _ 0 _,frozenNewN _ _ _ 0 _,frozenNewN _ _ _ 0 _,by simp⟩,⟨by rw [Rg.cellNew]; rfl,by simp⟩,⟨by rw [Rg.cellNew]; rfl,by simp⟩,⟨by rw [Rg.cellNew]; rfl,by simp⟩,⟨by rw [Rg.cellNew]; rfl,by simp⟩⟩
theorem CL.set3 {w:World} {b o:Nat} {v:Value} (h:CL w b o v) (ho:3≤o) (x y z:Value):CL (((w.setCell ⟨b,0,none⟩ x).setCell ⟨b,1,none⟩ y).setCell ⟨b,2,none⟩ z) b o v:=by
 refine ⟨?_,by simpa using h.lt⟩
 rw [World.cell?_setCell_other (h:=by intro e; injection e with e1 e2; omega) ..,World.cell?_setCell_other (h:=by intro e; injection e with e1 e2; omega) ..,World.cell?_setCell_other (h:=by intro e; injection e with e1 e2; omega) ..]
 exact h.cell
theorem prF0 (b:Nat) (w:World):(Instr.fieldAt 67 (.pointer (some ⟨b,0,none⟩)) 0).run Try.prog w=.ok (.pointer (some ⟨b,0,none⟩)) w:=by kernel_rfl
theorem prF1 (b:Nat) (w:World):(Instr.fieldAt 67 (.pointer (some ⟨b,0,none⟩)) 1).run Try.prog w=.ok (.pointer (some ⟨b,3,none⟩)) w:=by kernel_rfl
theorem prF2 (b:Nat) (w:World):(Instr.fieldAt 67 (.pointer (some ⟨b,0,none⟩)) 2).run Try.prog w=.ok (.pointer (some ⟨b,5,none⟩)) w:=by kernel_rfl
theorem of_any {d e:Int} {gv hv:Value} {L M:List (List Int)} {w:World} (h:Rg.Rows w gv L) (h':Rg.Rows w hv M) :
  Calls Try.prog 18 #[.agg #[.int .i64 d,gv],.agg #[.int .i64 e,hv]] w (OfPost d e gv hv L M w):=by
 obtain ⟨ga,gc,rfl,-⟩:=h.shape;obtain ⟨ha,hc,rfl,-⟩:=h'.shape;have HG:=ι h;have HH:=ι h';have HGw:=HG;have HHw:=HH;have K:=ι (Below.refl w.heap.size w);clear h h'
 go_enter Try.func18,Try.ntmps18
 go_upto_region 0 with (fail);refine Rg.wl ?_;have hbx:=box2t w (.int .i64 d) (.slice ga L.length gc) 24;refine Rg.lr 2 (Rg.exec_box _ _ rfl rfl) ?_;go_frame;have hb:=(Below.refl w.heap.size w).alloc (Nat.le_refl _) (.cells #[.int .i64 d,.slice ga L.length gc] 24);generalize w.alloc (.cells #[.int .i64 d,.slice ga L.length gc] 24)=w1 at *;replace HG:=ι (HG.out.below hb);replace HH:=ι (HH.out.below hb);replace K:=ι (Rg.acc K.out hb);clear hb;have G0:=ι hbx.1;have G1:=ι hbx.2;clear hbx;have hbx:=box2t w1 (.int .i64 e) (.slice ha M.length hc) 24;refine Rg.lr 3 (Rg.exec_box _ _ rfl rfl) ?_;go_frame;have hb:=(Below.refl w1.heap.size w1).alloc (Nat.le_refl _) (.cells #[.int .i64 e,.slice ha M.length hc] 24);generalize w1.alloc (.cells #[.int .i64 e,.slice ha M.length hc] 24)=w2 at *;replace HG:=ι (HG.out.below hb);replace HH:=ι (HH.out.below hb);replace G0:=ι (G0.out.below hb)
 replace G1:=ι (G1.out.below hb);replace K:=ι (Rg.acc K.out hb);clear hb;have H0:=ι hbx.1;have H1:=ι hbx.2;clear hbx;refine Rg.la 4 (.pointer none) ?_;go_frame;refine Rg.la 5 (.int .i64 0) ?_;go_frame;go_upto_region 1 with (fail);refine Rg.wl ?_;refine Rg.lr 14 (Rg.exec_load (v:=.agg #[.int .i64 d,.slice ga L.length gc]) _ _ rfl ⟨w.heap.size,0,none⟩ rfl (run_loadG G0.out.cell G1.out.cell)) ?_;go_frame;refine Rg.lr 15 (Rg.exec_load (v:=.agg #[.int .i64 e,.slice ha M.length hc]) _ _ rfl ⟨w1.heap.size,0,none⟩ rfl (run_loadG H0.out.cell H1.out.cell)) ?_;go_frame;refine Rg.lr 16 (exec_buildFa _ _ rfl rfl rfl) ?_;go_frame;have hnew:=Qd.new w2 (.int .i64 0) (.slice none 0 0) (.int .i64 0) (.slice none 0 0) 61;refine Rg.lr 6 (exec_allocFa rfl) ?_;go_frame;refine Rg.list_skip none rfl rfl (Rg.exec_store _ _ _ rfl _ rfl _ rfl (run_storeFa _ _ _ _ _ _ _ _ hnew)) ?_;go_frame;have hfa:=hnew.set (.int .i64 d) (.slice ga L.length gc) (.int .i64 e) (.slice ha M.length hc)
 have hb:=(((((Below.refl w2.heap.size w2).alloc (Nat.le_refl _) (.cells #[.int .i64 0,.slice none 0 0,.int .i64 0,.slice none 0 0] 61)).setCell (p:=⟨w2.heap.size,0,none⟩) (Nat.le_refl _) (.int .i64 d)).setCell (p:=⟨w2.heap.size,1,none⟩) (Nat.le_refl _) (.slice ga L.length gc)).setCell (p:=⟨w2.heap.size,2,none⟩) (Nat.le_refl _) (.int .i64 e)).setCell (p:=⟨w2.heap.size,3,none⟩) (Nat.le_refl _) (.slice ha M.length hc);generalize ((((w2.alloc (.cells #[.int .i64 0,.slice none 0 0,.int .i64 0,.slice none 0 0] 61)).setCell ⟨w2.heap.size,0,none⟩ (.int .i64 d)).setCell ⟨w2.heap.size,1,none⟩ (.slice ga L.length gc)).setCell ⟨w2.heap.size,2,none⟩ (.int .i64 e)).setCell ⟨w2.heap.size,3,none⟩ (.slice ha M.length hc)=w3 at *;replace HG:=ι (HG.out.below hb);replace HH:=ι (HH.out.below hb);replace G0:=ι (G0.out.below hb);replace G1:=ι (G1.out.below hb);replace H0:=ι (H0.out.below hb)
 replace H1:=ι (H1.out.below hb);replace K:=ι (Rg.acc K.out hb);clear hb;have FA:=ι hfa;clear hnew hfa;go_upto_region 2 with (fail);have hV0:Below w3.heap.size w3 w3.drew:=(Below.refl _ _).drew;replace HG:=ι (HG.out.below hV0);replace HH:=ι (HH.out.below hV0);replace G0:=ι (G0.out.below hV0);replace G1:=ι (G1.out.below hV0);replace H0:=ι (H0.out.below hV0);replace H1:=ι (H1.out.below hV0);replace FA:=ι (FA.out.below hV0);replace K:=ι (Rg.acc K.out hV0);clear hV0;refine Rg.Any.begin (S:=Rg.Both 5 (fun _=>True) (fun W=>Below w3.drew.heap.size w3.drew W)) mix ?_;generalize w3.drew=w4 at *;have hS:∀ (l:Array Bool) W,Below w4.heap.size w4 W→Rg.Both 5 (fun _=>True) (fun W=>Below w4.heap.size w4 W) l W:=fun l W h=>⟨.inr trivial,h⟩;have hI:Below w4.heap.size w4 w4:=Below.refl _ _;refine Rg.tg 0 5 ((.agg #[.int .i64 d,.slice ga L.length gc,.int .i64 e,.slice ha M.length hc])) 17 rfl rfl (Rg.yields_cell _ _ rfl rfl ⟨w2.heap.size,0,none⟩ rfl (fun W hW=>run_loadFa ((Below.cell (p:=⟨w2.heap.size,0,none⟩) hW FA.out.lt).trans FA.out.c0) ((Below.cell (p:=⟨w2.heap.size,1,none⟩) hW FA.out.lt).trans FA.out.c1) ((Below.cell (p:=⟨w2.heap.size,2,none⟩) hW FA.out.lt).trans FA.out.c2) ((Below.cell (p:=⟨w2.heap.size,3,none⟩) hW FA.out.lt).trans FA.out.c3))) (hS _ _ hI) ?_;go_frame
 refine Rg.tg 1 5 ((.func (.func 33) #[.agg #[.int .i64 d,.slice ga L.length gc,.int .i64 e,.slice ha M.length hc]] #[])) 18 rfl rfl (.inl ⟨rfl,fun w _=>exec_makeFuncB _ _ rfl rfl⟩) (hS _ _ hI) ?_;go_frame;refine Rg.tg 2 5 ((.agg #[.int .i64 d,.slice ga L.length gc,.int .i64 e,.slice ha M.length hc])) 19 rfl rfl (Rg.yields_cell _ _ rfl rfl ⟨w2.heap.size,0,none⟩ rfl (fun W hW=>run_loadFa ((Below.cell (p:=⟨w2.heap.size,0,none⟩) hW FA.out.lt).trans FA.out.c0) ((Below.cell (p:=⟨w2.heap.size,1,none⟩) hW FA.out.lt).trans FA.out.c1) ((Below.cell (p:=⟨w2.heap.size,2,none⟩) hW FA.out.lt).trans FA.out.c2) ((Below.cell (p:=⟨w2.heap.size,3,none⟩) hW FA.out.lt).trans FA.out.c3))) (hS _ _ hI) ?_;go_frame;refine Rg.tg 3 5 ((.func (.func 34) #[.agg #[.int .i64 d,.slice ga L.length gc,.int .i64 e,.slice ha M.length hc]] #[])) 20 rfl rfl (.inl ⟨rfl,fun w _=>exec_makeFuncB _ _ rfl rfl⟩) (hS _ _ hI) ?_;go_frame
 refine Rg.tg 4 5 ((.func (.func 33) #[.agg #[.int .i64 d,.slice ga L.length gc,.int .i64 e,.slice ha M.length hc]] #[])) 7 rfl rfl (.inl ⟨rfl,fun w _=>Rg.exec_assign (v:=(.func (.func 33) #[.agg #[.int .i64 d,.slice ga L.length gc,.int .i64 e,.slice ha M.length hc]] #[])) _ rfl rfl⟩) (hS _ _ hI) ?_;go_frame;refine Rg.Any.one (i:=5) (by kernel_rfl) (Rg.Any.run (some 8) rfl rfl rfl (Rg.xa ((.func (.func 34) #[.agg #[.int .i64 d,.slice ga L.length gc,.int .i64 e,.slice ha M.length hc]] #[])) _ rfl rfl) (hS _ _ hI) ?_);go_frame;refine Rg.Any.done (by kernel_rfl) ?_ _;clear hS hI;obtain ⟨g1,hg1⟩:∃ c,Hid (Ma.gchk d L=c):=⟨_,ι rfl⟩;obtain ⟨g2,hg2⟩:∃ c,Hid (Ma.gchk e M=c):=⟨_,ι rfl⟩;obtain ⟨g3,hg3⟩:∃ c,Hid (mnC L.length M.length=c):=⟨_,ι rfl⟩;obtain ⟨hc0,hhc⟩:∃ c,Hid (homC d e L M=c):=⟨_,ι rfl⟩;go_upto_region 3 with (fail);have hV0:Below w4.heap.size w4 w4.drew:=(Below.refl _ _).drew
 replace HG:=ι (HG.out.below hV0);replace HH:=ι (HH.out.below hV0);replace G0:=ι (G0.out.below hV0);replace G1:=ι (G1.out.below hV0);replace H0:=ι (H0.out.below hV0);replace H1:=ι (H1.out.below hV0);replace FA:=ι (FA.out.below hV0);replace K:=ι (Rg.acc K.out hV0);clear hV0;refine Rg.Any.begin (S:=Rg.Both 10 (fun _=>True) (fun W=>Below w4.drew.heap.size w4.drew W)) mix ?_;generalize w4.drew=w5 at *;have hS:∀ (l:Array Bool) W,Below w5.heap.size w5 W→Rg.Both 10 (fun _=>True) (fun W=>Below w5.heap.size w5 W) l W:=fun l W h=>⟨.inr trivial,h⟩;have hI:Below w5.heap.size w5 w5:=Below.refl _ _;refine Rg.tg 0 10 (.agg #[.int .i64 d,.slice ga L.length gc]) 21 rfl rfl (Rg.yields_cell _ _ rfl rfl ⟨w.heap.size,0,none⟩ rfl (fun W hW=>run_loadG ((Below.cell (p:=⟨w.heap.size,0,none⟩) hW G0.out.lt).trans G0.out.cell) ((Below.cell (p:=⟨w.heap.size,1,none⟩) hW G1.out.lt).trans G1.out.cell))) (hS _ _ hI) ?_;go_frame
 refine Rg.tg 2 10 (.agg #[.int .i64 e,.slice ha M.length hc]) 23 rfl rfl (Rg.yields_cell _ _ rfl rfl ⟨w1.heap.size,0,none⟩ rfl (fun W hW=>run_loadG ((Below.cell (p:=⟨w1.heap.size,0,none⟩) hW H0.out.lt).trans H0.out.cell) ((Below.cell (p:=⟨w1.heap.size,1,none⟩) hW H1.out.lt).trans H1.out.cell))) (hS _ _ hI) ?_;go_frame;refine Rg.tm 4 10 ((.func (.func 33) #[.agg #[.int .i64 d,.slice ga L.length gc,.int .i64 e,.slice ha M.length hc]] #[])) 25 (hS _ _ hI) ?_;go_frame;refine Rg.tm 6 10 ((.func (.func 34) #[.agg #[.int .i64 d,.slice ga L.length gc,.int .i64 e,.slice ha M.length hc]] #[])) 27 (hS _ _ hI) ?_;go_frame;refine Rg.Any.one (i:=1) (by kernel_rfl) (Rg.Any.ask (some 22) rfl rfl rfl _ _ (exec_fn1 36 _ _ rfl rfl (Ktcl2 _ _)) ?_);refine (orbitCheck_any _ _ _ w5 HG.out).mono ?_;rintro e1 w6 ⟨rfl,hb⟩;rw [hg1.out];have hI2_0:=Rg.acc hI hb;clear hb hI;refine ⟨_,rfl,(hS _ _ hI2_0),?_⟩
 go_frame;refine Rg.Any.one (i:=3) (by kernel_rfl) (Rg.Any.ask (some 24) rfl rfl rfl _ _ (exec_fn1 36 _ _ rfl rfl (Ktcl2 _ _)) ?_);refine (orbitCheck_any _ _ _ w6 (HH.out.below hI2_0)).mono ?_;rintro e1 w7 ⟨rfl,hb⟩;rw [hg2.out];have hI3_0:=Rg.acc hI2_0 hb;have hI3_1:=hb;clear hb hI2_0;refine ⟨_,rfl,(hS _ _ hI3_0),?_⟩;go_frame;refine Rg.Any.one (i:=5) (by kernel_rfl) (Rg.Any.ask (some 26) rfl rfl rfl _ _ (exec_fnB 33 _ _ rfl rfl (Ktcl0 _ _)) ?_);refine (many_any).mono ?_;rintro e1 w8 ⟨rfl,hb⟩;rw [hg3.out];have hI4_0:=Rg.acc hI3_1 hb;have hI4_1:=Rg.acc hI3_0 hb;have hI4_2:=hb;clear hb hI3_1 hI3_0;refine ⟨_,rfl,(hS _ _ hI4_1),?_⟩;go_frame;refine Rg.Any.one (i:=7) (by kernel_rfl) (Rg.Any.ask (some 28) rfl rfl rfl _ _ (exec_fnB 34 _ _ rfl rfl (Ktcl1 _ _)) ?_);refine (degrees_any).mono ?_;rintro e1 w9 ⟨g4,rfl,hg4,hb⟩;have HG4:=ι hg4;clear hg4;have hI5_0:=Rg.acc hI4_2 hb
 have hI5_1:=Rg.acc hI4_0 hb;have hI5_2:=Rg.acc hI4_1 hb;have hI5_3:=hb;clear hb hI4_2 hI4_0 hI4_1;refine ⟨_,rfl,(hS _ _ hI5_2),?_⟩;go_frame;have hnew:Rg.Ints (w9.alloc (.cells #[.int .i64 g1,.int .i64 g2,.int .i64 g3,.int .i64 g4] 27)) (.slice (some ⟨w9.heap.size,0,none⟩) 4 4) [g1,g2,g3,g4]:=ints_new w9 27 [g1,g2,g3,g4] (by show (4:Nat)≤1000; omega);have hb:=(Below.refl w9.heap.size w9).alloc (Nat.le_refl _) (.cells #[.int .i64 g1,.int .i64 g2,.int .i64 g3,.int .i64 g4] 27);have hI6_0:=Rg.acc hI5_3 hb;have hI6_1:=Rg.acc hI5_0 hb;have hI6_2:=Rg.acc hI5_1 hb;have hI6_3:=Rg.acc hI5_2 hb;have hI6_4:=hb;clear hb hI5_3 hI5_0 hI5_1 hI5_2;refine Rg.Any.one (i:=8) (by kernel_rfl) (Rg.Any.run (some 29) rfl rfl rfl (exec_buildE4 _ _ _ _ rfl rfl rfl rfl rfl) (hS _ _ hI6_3) ?_);go_frame;generalize w9.alloc (.cells #[.int .i64 g1,.int .i64 g2,.int .i64 g3,.int .i64 g4] 27)=w10 at *
 have EI:=ι hnew;refine Rg.Any.one (i:=9) (by kernel_rfl) (Rg.Any.ask (some 30) rfl rfl rfl _ _ (exec_fn1 35 _ _ rfl rfl (Ktcl3 _ _)) ?_);refine (Or_any EI.out (by show (4:Nat)≤1000; omega)).mono ?_;rintro e1 w11 ⟨rfl,hb⟩;rw [show orL [g1,g2,g3,g4]=hc0 by rw [← hg1.out,← hg2.out,← hg3.out,or_hom HG4.out,hhc.out]];have hI7_0:=Rg.acc hI6_4 hb;have hI7_1:=Rg.acc hI6_0 hb;have hI7_2:=Rg.acc hI6_1 hb;have hI7_3:=Rg.acc hI6_2 hb;have hI7_4:=Rg.acc hI6_3 hb;have hI7_5:=hb;clear hb hI6_4 hI6_0 hI6_1 hI6_2 hI6_3;refine ⟨_,rfl,(hS _ _ hI7_4),?_⟩;go_frame;refine Rg.Any.one (i:=10) (by kernel_rfl) (Rg.Any.run (some 9) rfl rfl rfl (Rg.xa (.int .i64 hc0) _ rfl rfl) (hS _ _ hI7_4) ?_);go_frame;refine Rg.Any.done (by kernel_rfl) ?_ _;replace HG:=ι (HG.out.below hI7_4);replace HH:=ι (HH.out.below hI7_4);replace G0:=ι (G0.out.below hI7_4);replace G1:=ι (G1.out.below hI7_4)
 replace H0:=ι (H0.out.below hI7_4);replace H1:=ι (H1.out.below hI7_4);replace FA:=ι (FA.out.below hI7_4);replace EI:=ι (EI.out.below hI7_5);replace K:=ι (Rg.acc K.out hI7_4);clear hS hI7_0 hI7_1 hI7_2 hI7_3 hI7_4 hI7_5
 by_cases h0:hc0=0
 case neg =>
  go_upto_region 4 with (fail);refine Rg.wl ?_;refine Rg.lm 31 (.int .i64 hc0) ?_;go_frame;refine Rg.lr 32 (exec_bin (R:=.bool true) .neq _ _ _ rfl rfl rfl (b_neqB _ (decide_eq_true h0))) ?_;go_frame;go_upto_region 5 with (fail);refine Rg.wl ?_;refine Rg.lm 33 (.int .i64 hc0) ?_;go_frame;refine Rg.la 4 (.pointer none) ?_;go_frame;refine Rg.la 5 (.int .i64 hc0) ?_;go_frame;have HX:=ι h0;have HOP:=ι (show homC d e L M≠0 by rw [hhc.out]; exact h0);go_wp2
  go_ret2
  exact ⟨fun _=>by rw [hhc.out]; rfl,fun h=>absurd h HOP.out,K.out⟩
 case pos =>
  have HZ:=ι (hhc.out.trans h0);go_upto_region 4 with (fail);refine Rg.wl ?_;refine Rg.lm 31 (.int .i64 hc0) ?_;go_frame;refine Rg.lr 32 (exec_bin (R:=.bool false) .neq _ _ _ rfl rfl rfl (b_neqB _ (decide_eq_false (fun q=>q h0)))) ?_;go_frame;go_upto_region 6 with (fail);refine Rg.wl ?_;refine Rg.la 10 (.slice none 0 0) ?_;go_frame;go_upto_region 7 with (fail);refine Rg.wl ?_;refine Rg.lr 34 (exec_fieldG _ rfl rfl) ?_;go_frame;refine Rg.lr 35 (Rg.exec_load (v:=.slice ga L.length gc) _ _ rfl ⟨w.heap.size,1,none⟩ rfl (Rg.run_loadSl _ _ Try.underlying22 G1.out.cell)) ?_;go_frame;refine Rg.lr 36 (exec_len _ _ _ rfl Try.underlying22 _ _ _ rfl) ?_;go_frame;refine Rg.lm 37 (.int .i64 ((0:Nat):Int)) ?_;go_frame;obtain ⟨n,m,A,B,hmg⟩:=homC_get HZ.out;have HMG:=ι hmg;have HLN:=ι hmg.lens;clear hmg;have K1:=ι (Below.refl w11.heap.size w11);have RP:=ι (show RowP w11.heap.size w11 (.slice none 0 0) ((prL L M).take 0) by rw [List.take_zero]; exact RowP.nil _ _)
  have h16:=HLN.out.2.2.2;go_wp2
  go_loopw [10,37] (fun tv iv wr=>∃ i:Nat,iv=.int .i64 ((i:Nat):Int)∧i≤L.length∧Hid (RowP w11.heap.size wr tv ((prL L M).take i))∧Hid (Below w11.heap.size w11 wr)) (fun _ iv _=>L.length - (intOf iv).toNat)
  case atStart=>exact ⟨0,rfl,Nat.zero_le _,RP,K1⟩
  case round =>
   clear K1 RP;obtain ⟨i,rfl,hi,RP,K1⟩:=hrel;generalize wr=wd at *;obtain ⟨ta,tc,rfl⟩:=RP.out.shape
   by_cases hil:i<L.length
   case pos =>
    have HIL:=ι hil
    have him:i<M.length:=by have:=HLN.out.2.2.1; omega
    have HIM:=ι him;have HST:=ι (prL_step hil him);obtain ⟨x,hx⟩:∃ x,Hid (L[i]'hil=x):=⟨_,ι rfl⟩;obtain ⟨y,hy⟩:∃ y,Hid (M[i]'him=y):=⟨_,ι rfl⟩;rw [hx.out,hy.out] at HST;obtain ⟨xb,xo,xa,xc,e1,hxb,hxc,hxi⟩:=rowsI_get HG.out hil;obtain ⟨yb,yo,ya,yc,e2,hyb,hyc,hyi⟩:=rowsI_get HH.out him;subst e1 e2;rw [hx.out] at hxc hxi;rw [hy.out] at hyc hyi;have CX:=ι (CL.mk hxc hxb);have CY:=ι (CL.mk hyc hyb);have XI:=ι hxi;have YI:=ι hyi;have HXL:=ι (show x.length=n from HLN.out.1 x (by rw [← hx.out]; exact List.getElem_mem hil));have HYL:=ι (show y.length=m from HLN.out.2.1 y (by rw [← hy.out]; exact List.getElem_mem him))
    have HYB:=ι (show ∀ z∈y,0≤z∧z≤64 from fun z hz=>by
     have hmem:y∈M:=by rw [← hy.out]; exact List.getElem_mem him
     rw [HMG.out.mb] at hmem;obtain ⟨s,hs,rfl⟩:=List.mem_map.1 hmem;have gs:=HMG.out.gb s hs;obtain ⟨q,hq,rfl⟩:=List.mem_map.1 hz;have:=gs.1.1 q hq;have:=gs.2;have:=HMG.out.nm
     omega)
    obtain ⟨tl,htl⟩:∃ l,Hid ((prL L M).take i=l):=⟨_,ι rfl⟩;have HTL:=ι (show tl.length<1000000 by rw [← htl.out,List.length_take]; omega);rw [htl.out] at RP HST ⊢;clear hxb hxc hxi hyb hyc hyi;go_upto_region 8 with (fail);refine Rg.wl ?_;refine Rg.lr 38 (exec_bin (R:=.bool true) .lss _ _ _ rfl rfl rfl (b_lss _ (decide_eq_true (by omega)))) ?_;go_frame;go_upto_region 9 with (fail);refine Rg.wl ?_;refine Rg.lm 39 (.int .i64 ((i:Nat):Int)) ?_;go_frame;refine Rg.lr 40 (exec_indexS slPerms _ _ rfl xb (xo) (L.length) gc (i) rfl rfl HIL.out) ?_;go_frame;refine Rg.lr 41 (Rg.exec_load (v:=.slice xa x.length xc) _ _ rfl ⟨xb,xo+i,none⟩ rfl (Rg.run_loadSl _ _ Try.underlying39 ((Below.cell (p:=⟨xb,xo+i,none⟩) K1.out CX.out.lt).trans CX.out.cell))) ?_;go_frame;refine Rg.la 11 (.int .i64 ((i:Nat):Int)) ?_;go_frame;refine Rg.la 12 (.slice xa x.length xc) ?_;go_frame;go_upto_region 10 with (fail)
    refine Rg.wl ?_;refine Rg.lm 42 (.slice ta tl.length tc) ?_;go_frame;refine Rg.lm 43 (.slice xa x.length xc) ?_;go_frame;refine Rg.lr 44 (exec_fieldG _ rfl rfl) ?_;go_frame;refine Rg.lr 45 (Rg.exec_load (v:=.slice (some ⟨yb,yo,none⟩) M.length hc) _ _ rfl ⟨w1.heap.size,1,none⟩ rfl (Rg.run_loadSl _ _ Try.underlying22 ((Below.cell (p:=⟨w1.heap.size,1,none⟩) K1.out H1.out.lt).trans H1.out.cell))) ?_;go_frame;refine Rg.lm 46 (.int .i64 ((i:Nat):Int)) ?_;go_frame;refine Rg.lr 47 (exec_indexS slPerms _ _ rfl yb (yo) (M.length) hc (i) rfl rfl HIM.out) ?_;go_frame;refine Rg.lr 48 (Rg.exec_load (v:=.slice ya y.length yc) _ _ rfl ⟨yb,yo+i,none⟩ rfl (Rg.run_loadSl _ _ Try.underlying39 ((Below.cell (p:=⟨yb,yo+i,none⟩) K1.out CY.out.lt).trans CY.out.cell))) ?_;go_frame;have HLT6:=ι (fun z e=>(RP.out.lt z e).2);have HSZ6:=ι K1.out.size;refine list_ask (some 49) rfl rfl _ _ (exec_fn 37 _ _ _ rfl rfl rfl (Ktcl4 _ _)) ?_
    refine (joined_any (XI.out.below K1.out) (YI.out.below K1.out) (by rw [HXL.out]; exact HMG.out.n1) (by rw [HXL.out]; have:=HMG.out.nm; omega) (by rw [HYL.out]; have:=HMG.out.nm; omega) HYB.out).mono ?_;rintro e1 w101 ⟨jv,rfl,hjv,hb⟩;obtain ⟨ja,jc,rfl⟩:=hjv.shape;have HROW:=ι hjv.own;clear hjv;refine ⟨_,rfl,?_⟩;go_frame;replace RP:=ι (RP.out.below hb);replace K1:=ι (Rg.acc K1.out hb);clear hb;refine Rg.lr 50 (Rg.exec_buildSlice _ _ _ rfl (.slice ja (joinI x y).length jc) rfl (run_build1P w101 _ ⟨_,_,_,rfl⟩)) ?_;go_frame;obtain ⟨a9,c9,X9,r1,r2,r3⟩:=RP.out.push K1.out.size HROW.out (by unfold joinI; rw [List.length_append,List.length_map,HXL.out,HYL.out]; have:=HMG.out.nm; omega) (fun z e=>⟨by have:=(HROW.out.lt z e).1; have:=HSZ6.out; omega,fun e2=>by have:=(HROW.out.lt z e).1; have:=HLT6.out z e2; omega⟩) HTL.out 22;refine Rg.lr 51 (Rg.exec_append _ _ _ rfl rfl rfl r1) ?_;go_frame
    refine Rg.la 10 (.slice a9 (tl.length+1) c9) ?_;go_frame;have K6:=ι (r3 (Nat.le_refl _) K1.out);have RP2:=ι (show RowP w11.heap.size X9 (.slice a9 (tl.length+1) c9) ((prL L M).take (i+1)) by rw [HST.out]; exact r2);clear r1 r2 r3;go_upto_region 11 with (fail);refine Rg.wl ?_;refine Rg.lr 52 (exec_bin (R:=.int .i64 (((i+1):Nat):Int)) .add _ _ _ rfl rfl rfl (b_add _ (by omega) (by omega))) ?_;go_frame;refine Rg.lm 37 (.int .i64 (((i+1):Nat):Int)) ?_;go_frame;go_wp2
    go_roundw
    case rel=>exact ⟨i+1,by go_num,HIL.out,RP2,K6⟩
    case measure=>simp [intOf]; have:=HIL.out; omega
   case neg =>
    obtain ⟨PL,hPL⟩:∃ l,Hid (prL L M=l):=⟨_,ι rfl⟩
    have HTE:=ι (show (prL L M).take i=PL by
     rw [hPL.out];refine List.take_of_length_le ?_
     rw [← hPL.out]; unfold prL; rw [List.length_zipWith]; omega)
    rw [HTE.out] at RP ⊢;have HPL:=ι (show PL.length≤16 by rw [← hPL.out]; unfold prL; rw [List.length_zipWith]; omega);have HRP:=ι (FRows.rows (RP.out.frows (by have:=HPL.out; omega) (G:=fun _=>True) (fun _ _ _=>trivial)))
    have HDE:1≤d+e∧d+e≤64:=by have:=HMG.out.dn; have:=HMG.out.em; have:=HMG.out.n1; have:=HMG.out.nm; omega
    have HMK:=ι (show mkchk (d+e) PL=0 by rw [← hPL.out]; exact HMG.out.mk0);have KT:=ι (K.out.trans (K1.out.mono K.out.size));go_upto_region 8 with (fail);refine Rg.wl ?_;refine Rg.lr 38 (exec_bin (R:=.bool false) .lss _ _ _ rfl rfl rfl (b_lss _ (decide_eq_false (by omega)))) ?_;go_frame;replace HG:=ι (HG.out.below K1.out);replace HH:=ι (HH.out.below K1.out);replace G0:=ι (G0.out.below K1.out);replace G1:=ι (G1.out.below K1.out);replace H0:=ι (H0.out.below K1.out);replace H1:=ι (H1.out.below K1.out);replace K:=KT;clear KT K1 RP;have HLO:=ι (show w.heap.size≤wd.heap.size from K.out.size);go_upto_region 12 with (fail);refine Rg.wl ?_;refine Rg.lr 53 (Rg.exec_load (v:=.agg #[.int .i64 d,.slice ga L.length gc]) _ _ rfl ⟨w.heap.size,0,none⟩ rfl (run_loadG G0.out.cell G1.out.cell)) ?_;go_frame;refine Rg.lr 54 (Rg.exec_load (v:=.agg #[.int .i64 e,.slice ha M.length hc]) _ _ rfl ⟨w1.heap.size,0,none⟩ rfl (run_loadG H0.out.cell H1.out.cell)) ?_;go_frame
    refine Rg.lr 55 (exec_buildPr _ _ rfl rfl rfl) ?_;go_frame;have hbx:=pair_new (w:=wd) (.int .i64 0) (.slice none 0 0) (.slice none 0 0) (.int .i64 d) (.slice ga L.length gc) (.int .i64 e) (.slice ha M.length hc) 67;refine Rg.lr 56 (Rg.exec_box _ _ rfl rfl) ?_;go_frame;have hb:=(Below.refl wd.heap.size wd).alloc (Nat.le_refl _) (.cells #[.int .i64 0,.slice none 0 0,.slice none 0 0,.int .i64 d,.slice ga L.length gc,.int .i64 e,.slice ha M.length hc] 67);generalize wd.alloc (.cells #[.int .i64 0,.slice none 0 0,.slice none 0 0,.int .i64 d,.slice ga L.length gc,.int .i64 e,.slice ha M.length hc] 67)=w122 at *;replace HG:=ι (HG.out.below hb);replace HH:=ι (HH.out.below hb);replace G0:=ι (G0.out.below hb);replace G1:=ι (G1.out.below hb);replace H0:=ι (H0.out.below hb);replace H1:=ι (H1.out.below hb);replace HRP:=ι (HRP.out.below hb);replace K:=ι (Rg.acc K.out hb)
    clear hb;have PT:=ι hbx.1;have P3:=ι hbx.2.1;have P4:=ι hbx.2.2.1;have P5:=ι hbx.2.2.2.1;have P6:=ι hbx.2.2.2.2;clear hbx;refine Rg.la 13 (.pointer (some ⟨wd.heap.size,0,none⟩)) ?_;go_frame;go_upto_region 13 with (fail);refine Rg.wl ?_;refine Rg.lm 58 (.pointer (some ⟨wd.heap.size,0,none⟩)) ?_;go_frame;refine Rg.lr 59 (exec_fieldG0 _ rfl rfl) ?_;go_frame;refine Rg.lr 60 (Rg.exec_load (v:=.int .i64 d) _ _ rfl ⟨w.heap.size,0,none⟩ rfl (run_loadInt G0.out.cell)) ?_;go_frame;refine Rg.lr 61 (exec_fieldG0 _ rfl rfl) ?_;go_frame;refine Rg.lr 62 (Rg.exec_load (v:=.int .i64 e) _ _ rfl ⟨w1.heap.size,0,none⟩ rfl (run_loadInt H0.out.cell)) ?_;go_frame;refine Rg.lr 63 (exec_bin (R:=.int .i64 (d+e)) .add _ _ _ rfl rfl rfl (b_add _ (by omega) (by omega))) ?_;go_frame;refine Rg.lm 64 (.slice ta PL.length tc) ?_;go_frame;have HPB:=ι PT.out.lt;refine list_ask (some 65) rfl rfl _ _ (exec_fn 38 _ _ _ rfl rfl rfl (Ktcl5 _ _)) ?_
    refine (chMake_f _ _ _ w122 HRP.out).mono ?_;rintro e1 w123 ⟨cv,rfl,hcv,hb⟩;rw [HMK.out] at hcv ⊢;obtain ⟨oa,oc,ra,rc,rfl,-,-⟩:=hcv.ans.pc;have HCF:=ι hcv;clear hcv;refine ⟨_,rfl,?_⟩;go_frame;replace HG:=ι (HG.out.below hb);replace HH:=ι (HH.out.below hb);replace G0:=ι (G0.out.below hb);replace G1:=ι (G1.out.below hb);replace H0:=ι (H0.out.below hb);replace H1:=ι (H1.out.below hb);replace HRP:=ι (HRP.out.below hb);replace PT:=ι (PT.out.below hb);replace P3:=ι (P3.out.below hb);replace P4:=ι (P4.out.below hb);replace P5:=ι (P5.out.below hb);replace P6:=ι (P6.out.below hb);replace K:=ι (Rg.acc K.out hb);clear hb;refine Rg.lm 57 (.tuple #[(.agg #[.int .i64 (d+e),.slice oa (pO (d+e) PL).length oc,.slice ra (pR (d+e) PL).length rc]),.int .i64 0]) ?_;go_frame;refine Rg.lr 66 (exec_extract (v:=(.agg #[.int .i64 (d+e),.slice oa (pO (d+e) PL).length oc,.slice ra (pR (d+e) PL).length rc])) _ _ rfl rfl rfl) ?_;go_frame
    refine Rg.lr 67 (exec_extract (v:=.int .i64 0) _ _ rfl rfl rfl) ?_;go_frame;refine Rg.lr 68 (exec_nil _ rfl rfl) ?_;go_frame;refine Rg.lr 69 (exec_field _ rfl rfl (prF0 _ _)) ?_;go_frame;refine Rg.list_skip none rfl rfl (Rg.exec_store _ _ _ rfl _ rfl _ rfl (run_storeC _ _ _ _ _ _ _ PT.out)) ?_;go_frame;have htt:=PT.out.set (.int .i64 (d+e)) (.slice oa (pO (d+e) PL).length oc) (.slice ra (pR (d+e) PL).length rc);have h3:=P3.out.set3 (by omega) (.int .i64 (d+e)) (.slice oa (pO (d+e) PL).length oc) (.slice ra (pR (d+e) PL).length rc);have h4:=P4.out.set3 (by omega) (.int .i64 (d+e)) (.slice oa (pO (d+e) PL).length oc) (.slice ra (pR (d+e) PL).length rc);have h5:=P5.out.set3 (by omega) (.int .i64 (d+e)) (.slice oa (pO (d+e) PL).length oc) (.slice ra (pR (d+e) PL).length rc);have h6:=P6.out.set3 (by omega) (.int .i64 (d+e)) (.slice oa (pO (d+e) PL).length oc) (.slice ra (pR (d+e) PL).length rc)
    have hkp:=Rg.Kp.trans (Rg.Kp.trans (Rg.Kp.of_setCell (M:=fun z=>z=wd.heap.size) (w:=w123) (a:=⟨wd.heap.size,0,none⟩) (v:=.int .i64 (d+e)) rfl) (Rg.Kp.of_setCell (M:=fun z=>z=wd.heap.size) (a:=⟨wd.heap.size,1,none⟩) (v:=.slice oa (pO (d+e) PL).length oc) rfl) (fun _ _ e=>e)) (Rg.Kp.of_setCell (M:=fun z=>z=wd.heap.size) (a:=⟨wd.heap.size,2,none⟩) (v:=.slice ra (pR (d+e) PL).length rc) rfl) (fun _ _ e=>e);have hkf:=((K.out.setCell (p:=⟨wd.heap.size,0,none⟩) HLO.out (.int .i64 (d+e))).setCell (p:=⟨wd.heap.size,1,none⟩) HLO.out (.slice oa (pO (d+e) PL).length oc)).setCell (p:=⟨wd.heap.size,2,none⟩) HLO.out (.slice ra (pR (d+e) PL).length rc);have hcf:=(HCF.out.kp hkp (fun z hz=>by have:=HPB.out; omega)).ans.pcv;generalize ((w123.setCell ⟨wd.heap.size,0,none⟩ (.int .i64 (d+e))).setCell ⟨wd.heap.size,1,none⟩ (.slice oa (pO (d+e) PL).length oc)).setCell ⟨wd.heap.size,2,none⟩ (.slice ra (pR (d+e) PL).length rc)=w99 at *
    have hpa:PrAt w99 wd.heap.size d e (.slice ga L.length gc) (.slice ha M.length hc) oa oc ra rc L M:=by
     rw [← hPL.out] at htt hcf;exact ⟨htt.c0,htt.c1,htt.c2,h3.cell,h4.cell,h5.cell,h6.cell,htt.lt,hcf.1,HGw.out.below hkf,HHw.out.below hkf,hcf.2⟩
    have HPA:=ι hpa;have K:=ι hkf;clear hpa hkf hcf hkp htt h3 h4 h5 h6;go_upto_region 14 with (fail);refine Rg.wl ?_;refine Rg.lm 70 (.pointer (some ⟨wd.heap.size,0,none⟩)) ?_;go_frame;refine Rg.la 4 (.pointer (some ⟨wd.heap.size,0,none⟩)) ?_;go_frame;refine Rg.la 5 (.int .i64 ((0:Nat):Int)) ?_;go_frame;go_wp2
    go_ret2
    exact ⟨fun h=>absurd HZ.out h,fun _=>⟨_,_,_,_,_,rfl,HPA.out⟩,K.out⟩

theorem Kvcl0 (args:Array Value) (w:World):(callFunc 18 args).run Try.prog w=.ok (.enter 18 args) w:=by kernel_rfl
theorem Kvcl1 (args:Array Value) (w:World):(callFunc 19 args).run Try.prog w=.ok (.enter 19 args) w:=by kernel_rfl
theorem run_sliceLoI (w:World) (b o n c k:Nat) (h:k<n) (hc:n≤c):(Instr.sliceAt 30 (.slice (some ⟨b,o,none⟩) n c) (some (.int .i64 (k:Int))) none none).run Try.prog w=.ok (.slice (some ⟨b,o+k,none⟩) (n - k) (c - k)) w:=by
 have e1:¬ c=k:=by omega
 have e3:k≤n:=by omega
 by_cases e2:k=0
 ·subst e2
  simp [Instr.sliceAt,Instr.slice,run_underlying Try.underlying30,Instr.sliceBounds,Instr.sliceBound,asIntOf,e3,hc,Addr.add,e1]
 ·simp [Instr.sliceAt,Instr.slice,run_underlying Try.underlying30,Instr.sliceBounds,Instr.sliceBound,asIntOf,e3,hc,Addr.add,e1,e2]
theorem exec_sliceLoI {o:Oper} {a:Act} {w:World} {v r:Value} {k:Nat} (x y:Operand) (ho:o.op=.slice 30 x (some y) none none) (hx:a.eval x=v) (hy:a.eval y=.int .i64 (k:Int)) (hr:(Instr.sliceAt 30 v (some (.int .i64 (k:Int))) none none).run Try.prog w=.ok r w) :
  (execOp a.eval o).run Try.prog w=.ok (.value r) w:=by
 unfold execOp;simp only [ho,hx,hy,Sem.run_bind,Sem.run_pure,Option.map]
 first | (rw [hr]; rfl) | (erw [hr]; rfl) | simp [hr]
theorem run_sliceLoP (w:World) (b o n c k:Nat) (h:k<n) (hc:n≤c):(Instr.sliceAt 31 (.slice (some ⟨b,o,none⟩) n c) (some (.int .i64 (k:Int))) none none).run Try.prog w=.ok (.slice (some ⟨b,o+k,none⟩) (n - k) (c - k)) w:=by
 have e1:¬ c=k:=by omega
 have e3:k≤n:=by omega
 by_cases e2:k=0
 ·subst e2
  simp [Instr.sliceAt,Instr.slice,run_underlying Try.underlying31,Instr.sliceBounds,Instr.sliceBound,asIntOf,e3,hc,Addr.add,e1]
 ·simp [Instr.sliceAt,Instr.slice,run_underlying Try.underlying31,Instr.sliceBounds,Instr.sliceBound,asIntOf,e3,hc,Addr.add,e1,e2]
theorem exec_sliceLoP {o:Oper} {a:Act} {w:World} {v r:Value} {k:Nat} (x y:Operand) (ho:o.op=.slice 31 x (some y) none none) (hx:a.eval x=v) (hy:a.eval y=.int .i64 (k:Int)) (hr:(Instr.sliceAt 31 v (some (.int .i64 (k:Int))) none none).run Try.prog w=.ok r w) :
  (execOp a.eval o).run Try.prog w=.ok (.value r) w:=by
 unfold execOp;simp only [ho,hx,hy,Sem.run_bind,Sem.run_pure,Option.map]
 first | (rw [hr]; rfl) | (erw [hr]; rfl) | simp [hr]
def dfB (n:Nat) (O:List (List Int)):Bool:=(O.drop n).all (fun l=>decide (l.length≤1))
theorem dfB_no {n i:Nat} {O:List (List Int)} (hi:n+i<O.length) (h:1<O[n+i].length):dfB n O=false:=by
 unfold dfB;rw [List.all_eq_false];refine ⟨O[n+i],?_,by rw [decide_eq_true_iff]; omega⟩;rw [List.mem_drop_iff_getElem];exact ⟨i,by omega,by simp⟩
theorem dfB_yes {n:Nat} {O:List (List Int)} (h:∀ i (hi:n+i<O.length),O[n+i].length≤1):dfB n O=true:=by
 unfold dfB;rw [List.all_eq_true];intro l hl;rw [List.mem_drop_iff_getElem] at hl;obtain ⟨i,hi,e⟩:=hl;have h5:=h i (by omega)
 have e2:O[n+i]'(by omega)=l:=by rw [← e]
 rw [e2] at h5;exact decide_eq_true h5
def DfPost (b:Bool) (w:World) (ed:Ending) (w':World):Prop:=ed=.returned (.bool b)∧Below w.heap.size w w'
theorem defined_any {d e:Int} {gv hv:Value} {oa:Option Addr} {oc:Nat} {ra:Option Addr} {rc:Nat} {L M:List (List Int)} {n m:Nat} {A B:List (List Nat)} {pb:Nat} {w:World} (h:PrAt w pb d e gv hv oa oc ra rc L M) (hm:HomG d e L M n m A B) :
  Calls Try.prog 19 #[.pointer (some ⟨pb,0,none⟩)] w (DfPost (dfB n (pO (d+e) (prL L M))) w):=by
 obtain ⟨ga,gc,rfl,-⟩:=h.rg.shape;obtain ⟨ha,hc,rfl,-⟩:=h.rh.shape;obtain ⟨N,gs,hpc⟩:=h.pc
 have hNm:N=n+m:=by have:=hpc.dn; have:=hm.dn; have:=hm.em; omega
 have hON:(pO (d+e) (prL L M)).length=n+m:=by rw [hpc.lenO,hNm]
 have hm1:=hm.m1;have hnm:=hm.nm;obtain ⟨oa',oc',e1,hcap,-,-,hos⟩:=h.ch.1.shape
 injection e1 with e2 _ e4
 subst e2 e4;obtain ⟨ob,oo,rfl,-⟩:=hos (by omega);have PA:=ι h;have HM:=ι hm;have HON:=ι hON;have K:=ι (Below.refl w.heap.size w);have HDN:=ι hm.dn;obtain ⟨OO,hOO⟩:∃ l,Hid (pO (d+e) (prL L M)=l):=⟨_,ι rfl⟩;rw [hOO.out] at HON hcap ⊢
 have HROW:=ι (show ∀ i,i<OO.length→∃ ua uc l,l=OO.getD i []∧w.cell? ⟨ob,oo+i,none⟩=some (.slice ua l.length uc)∧ob<w.heap.size∧l.length≤1000000000 from fun i hi=>by
  have h5:=h.ch.1;rw [hOO.out] at h5;obtain ⟨b,o,ua,uc,e1,e2,e3,e4⟩:=rowsI_get h5 hi
  injection e1 with e1
  injection e1 with e5 e6
  subst e5 e6;refine ⟨ua,uc,OO[i],by rw [List.getD_eq_getElem?_getD,List.getElem?_eq_getElem hi]; rfl,e3,e2,?_⟩;obtain ⟨_,_,_,_,h6,_⟩:=e4.shape
  exact h6)
 have HLT:=ι (show n<OO.length by rw [HON.out]; omega);have HCAP:=ι hcap;clear h hm hpc hos hON hcap
 go_enter Try.func19,Try.ntmps19
 go_upto_region 0 with (fail);refine Rg.wl ?_;refine Rg.la 2 (.bool false) ?_;go_frame;go_upto_region 1 with (fail);have hV0:Below w.heap.size w w.drew:=(Below.refl _ _).drew;replace K:=ι (Rg.acc K.out hV0);clear hV0;refine Rg.Any.begin (S:=Rg.Both 12 (fun _=>True) (fun W=>Below w.heap.size w W)) mix ?_;generalize w.drew=w1 at *;have hS:∀ (l:Array Bool) W,Below w.heap.size w W→Rg.Both 12 (fun _=>True) (fun W=>Below w.heap.size w W) l W:=fun l W h=>⟨.inr trivial,h⟩;have hI:=K.out;refine Rg.tm 0 12 (.pointer (some ⟨pb,0,none⟩)) 5 (hS _ _ hI) ?_;go_frame;refine Rg.tg 1 12 (.pointer (some ⟨pb,0,none⟩)) 6 rfl rfl (.inl ⟨rfl,fun w _=>exec_nil _ rfl rfl⟩) (hS _ _ hI) ?_;go_frame;refine Rg.tg 2 12 (.pointer (some ⟨pb,0,none⟩)) 7 rfl rfl (.inl ⟨rfl,fun w _=>exec_field _ rfl rfl (prF0 _ _)⟩) (hS _ _ hI) ?_;go_frame;refine Rg.tg 3 12 (.pointer (some ⟨pb,1,none⟩)) 8 rfl rfl (.inl ⟨rfl,fun w _=>exec_field _ rfl rfl (chF1 _ _)⟩) (hS _ _ hI) ?_;go_frame
 refine Rg.tg 4 12 (.slice (some ⟨ob,oo,none⟩) OO.length oc) 9 rfl rfl (Rg.yields_cell _ _ rfl rfl ⟨pb,1,none⟩ rfl (fun W hW=>Rg.run_loadSl _ _ Try.underlying30 ((Below.cell (p:=⟨pb,1,none⟩) hW PA.out.lt).trans (show _ from by have h5:=PA.out.c1; rw [hOO.out] at h5; exact h5)))) (hS _ _ hI) ?_;go_frame;refine Rg.tm 5 12 (.pointer (some ⟨pb,0,none⟩)) 10 (hS _ _ hI) ?_;go_frame;refine Rg.tg 6 12 (.pointer (some ⟨pb,0,none⟩)) 11 rfl rfl (.inl ⟨rfl,fun w _=>exec_nil _ rfl rfl⟩) (hS _ _ hI) ?_;go_frame;refine Rg.tg 7 12 (.pointer (some ⟨pb,3,none⟩)) 12 rfl rfl (.inl ⟨rfl,fun w _=>exec_field _ rfl rfl (prF1 _ _)⟩) (hS _ _ hI) ?_;go_frame;refine Rg.tg 8 12 (.pointer (some ⟨pb,3,none⟩)) 13 rfl rfl (.inl ⟨rfl,fun w _=>exec_field _ rfl rfl (grF3_0 _ _)⟩) (hS _ _ hI) ?_;go_frame;refine Rg.tg 9 12 (.int .i64 ((n:Nat):Int)) 14 rfl rfl (Rg.yields_cell _ _ rfl rfl ⟨pb,3,none⟩ rfl (fun W hW=>run_loadInt ((Below.cell (p:=⟨pb,3,none⟩) hW PA.out.lt).trans (show _ from by have h5:=PA.out.c3; rw [HDN.out] at h5; exact h5)))) (hS _ _ hI) ?_;go_frame
 refine Rg.tg 10 12 (.slice (some ⟨ob,oo+n,none⟩) (OO.length - n) (oc - n)) 15 rfl rfl (.inl ⟨rfl,fun w _=>exec_sliceLoI _ _ rfl rfl rfl (run_sliceLoI _ _ _ _ _ _ HLT.out HCAP.out)⟩) (hS _ _ hI) ?_;go_frame;refine Rg.tg 11 12 (.int .i64 (((OO.length - n):Nat):Int)) 16 rfl rfl (.inl ⟨rfl,fun w _=>exec_len _ _ _ rfl Try.underlying30 _ _ _ rfl⟩) (hS _ _ hI) ?_;go_frame;refine Rg.Any.one (i:=12) (by kernel_rfl) (Rg.Any.run (some 17) rfl rfl rfl (Rg.xm (.int .i64 ((0:Nat):Int)) _ rfl rfl) (hS _ _ hI) ?_);go_frame;refine Rg.Any.done (by kernel_rfl) ?_ _;replace K:=ι hI;clear hS hI;have HS:=ι (show ∀ i (hi:n+i<OO.length),i<0→OO[n+i].length≤1 from fun i _ h=>absurd h (Nat.not_lt_zero _));obtain ⟨lo,hlo⟩:∃ l,Hid (OO.length - n=l):=⟨_,ι rfl⟩;rw [hlo.out];have HLO:=ι (show n+lo=OO.length by have:=HLT.out; have:=hlo.out; omega);have HL64:=ι (show lo≤64 by have:=HON.out; have:=HM.out.nm; have:=HLO.out; omega)
 go_wp2
 go_loopw [17] (fun iv wr=>∃ i:Nat,iv=.int .i64 ((i:Nat):Int)∧i≤lo∧Hid (∀ j (hj:n+j<OO.length),j<i→OO[n+j].length≤1)∧Hid (Below w.heap.size w wr)) (fun iv _=>lo - (intOf iv).toNat)
 case atStart=>exact ⟨0,rfl,Nat.zero_le _,HS,K⟩
 case round =>
  clear K HS;obtain ⟨i,rfl,hi,HS,K⟩:=hrel;generalize wr=wd at *;have hl64:lo≤64:=HL64.out
  by_cases hil:i<lo
  case neg =>
   have HV:=ι (show dfB n OO=true from dfB_yes (fun j hj=>HS.out j hj (by have:=HLO.out; omega)));go_upto_region 2 with (fail);refine Rg.wl ?_;refine Rg.lr 18 (exec_bin (R:=.bool false) .lss _ _ _ rfl rfl rfl (b_lss _ (decide_eq_false (by omega)))) ?_;go_frame;go_upto_region 7 with (fail);refine Rg.wl ?_;refine Rg.la 2 (.bool true) ?_;go_frame;go_wp2;go_ret;exact ⟨by rw [HV.out]; rfl,K.out⟩
  case pos =>
   have HIL:=ι hil;have HNI:=ι (show n+i<OO.length by have:=HLO.out; omega);obtain ⟨ua,uc,l,hl,hcu,hob,hl9⟩:=HROW.out (n+i) HNI.out;have HL:=ι (show OO[n+i]'HNI.out=l by rw [hl,List.getD_eq_getElem?_getD,List.getElem?_eq_getElem HNI.out]; rfl);have CU:=ι (CL.mk (show w.cell? ⟨ob,oo+n+i,none⟩=_ by rw [Nat.add_assoc]; exact hcu) hob);clear hcu hob hl
   by_cases h1:1<l.length
   case pos =>
    have HV:=ι (show dfB n OO=false from dfB_no HNI.out (by rw [HL.out]; exact h1));go_upto_region 2 with (fail);refine Rg.wl ?_;refine Rg.lr 18 (exec_bin (R:=.bool true) .lss _ _ _ rfl rfl rfl (b_lss _ (decide_eq_true (by omega)))) ?_;go_frame;go_upto_region 3 with (fail);refine Rg.wl ?_;refine Rg.lr 19 (exec_indexS slIntss _ _ rfl ob (oo+n) (lo) (oc - n) (i) rfl rfl HIL.out) ?_;go_frame;refine Rg.lr 20 (Rg.exec_load (v:=.slice ua l.length uc) _ _ rfl ⟨ob,oo+n+i,none⟩ rfl (Rg.run_loadSl _ _ Try.underlying38 ((Below.cell (p:=⟨ob,oo+n+i,none⟩) K.out CU.out.lt).trans CU.out.cell))) ?_;go_frame;refine Rg.la 4 (.slice ua l.length uc) ?_;go_frame;go_upto_region 4 with (fail);refine Rg.wl ?_;refine Rg.lm 21 (.slice ua l.length uc) ?_;go_frame;refine Rg.lr 22 (exec_len _ _ _ rfl Try.underlying38 _ _ _ rfl) ?_;go_frame;refine Rg.lr 23 (exec_bin (R:=.bool true) .gtr _ _ _ rfl rfl rfl (b_gtr _ (decide_eq_true (by omega)))) ?_;go_frame
    go_upto_region 5 with (fail);refine Rg.wl ?_;refine Rg.la 2 (.bool false) ?_;go_frame;go_wp2;go_ret;exact ⟨by rw [HV.out]; rfl,K.out⟩
   case neg =>
    have HS2:=ι (show ∀ j (hj:n+j<OO.length),j<i+1→OO[n+j].length≤1 from fun j hj h=>by
     by_cases e:j=i
     ·subst e; rw [HL.out]; omega
     ·exact HS.out j hj (by omega))
    go_upto_region 2 with (fail);refine Rg.wl ?_;refine Rg.lr 18 (exec_bin (R:=.bool true) .lss _ _ _ rfl rfl rfl (b_lss _ (decide_eq_true (by omega)))) ?_;go_frame;go_upto_region 3 with (fail);refine Rg.wl ?_;refine Rg.lr 19 (exec_indexS slIntss _ _ rfl ob (oo+n) (lo) (oc - n) (i) rfl rfl HIL.out) ?_;go_frame;refine Rg.lr 20 (Rg.exec_load (v:=.slice ua l.length uc) _ _ rfl ⟨ob,oo+n+i,none⟩ rfl (Rg.run_loadSl _ _ Try.underlying38 ((Below.cell (p:=⟨ob,oo+n+i,none⟩) K.out CU.out.lt).trans CU.out.cell))) ?_;go_frame;refine Rg.la 4 (.slice ua l.length uc) ?_;go_frame;go_upto_region 4 with (fail);refine Rg.wl ?_;refine Rg.lm 21 (.slice ua l.length uc) ?_;go_frame;refine Rg.lr 22 (exec_len _ _ _ rfl Try.underlying38 _ _ _ rfl) ?_;go_frame;refine Rg.lr 23 (exec_bin (R:=.bool false) .gtr _ _ _ rfl rfl rfl (b_gtr _ (decide_eq_false (by omega)))) ?_;go_frame;go_upto_region 6 with (fail)
    refine Rg.wl ?_;refine Rg.lr 24 (exec_bin (R:=.int .i64 (((i+1):Nat):Int)) .add _ _ _ rfl rfl rfl (b_add _ (by omega) (by omega))) ?_;go_frame;refine Rg.lm 17 (.int .i64 (((i+1):Nat):Int)) ?_;go_frame;go_wp2
    go_roundw
    case rel=>exact ⟨i+1,by go_num,HIL.out,HS2,K⟩
    case measure=>simp [intOf]; have:=HIL.out; omega
theorem of_bad {d e:Int} {gv hv:Value} {L M:List (List Int)} {w:World} {c:Int} (h:Rg.Rows w gv L) (h':Rg.Rows w hv M) (hc:homC d e L M=c) (h0:c≠0) :
  Calls Try.prog 18 #[.agg #[.int .i64 d,gv],.agg #[.int .i64 e,hv]] w fun ed w'=>ed=.returned (.tuple #[.pointer none,.int .i64 c])∧Below w.heap.size w w' :=
 (of_any h h').mono fun _ _ ⟨h1,_,h3⟩=>⟨by rw [← hc]; exact h1 (by rw [hc]; exact h0),h3⟩
theorem of_ok {d e:Int} {gv hv:Value} {L M:List (List Int)} {w:World} (h:Rg.Rows w gv L) (h':Rg.Rows w hv M) (h0:homC d e L M=0) :
  Calls Try.prog 18 #[.agg #[.int .i64 d,gv],.agg #[.int .i64 e,hv]] w fun ed w'=>∃ pb oa oc ra rc,ed=.returned (.tuple #[.pointer (some ⟨pb,0,none⟩),.int .i64 0])∧PrAt w' pb d e gv hv oa oc ra rc L M∧Below w.heap.size w w' :=
 (of_any h h').mono fun _ _ ⟨_,h2,h3⟩=>by
  obtain ⟨pb,oa,oc,ra,rc,h4,h5⟩:=h2 h0;exact ⟨pb,oa,oc,ra,rc,h4,h5,h3⟩
noncomputable def rtC (d e:Int) (L M:List (List Int)):Int:=if homC d e L M=0 then (if dfB d.toNat (pO (d+e) (prL L M))=true then 0 else 13) else homC d e L M
theorem rtC_bad {d e:Int} {L M:List (List Int)} (h:homC d e L M≠0):rtC d e L M=homC d e L M:=by unfold rtC; rw [if_neg h]
theorem rtC_yes {d e:Int} {L M:List (List Int)} (h:homC d e L M=0) (h2:dfB d.toNat (pO (d+e) (prL L M))=true):rtC d e L M=0:=by unfold rtC; rw [if_pos h,if_pos h2]
theorem rtC_no {d e:Int} {L M:List (List Int)} (h:homC d e L M=0) (h2:dfB d.toNat (pO (d+e) (prL L M))=false):rtC d e L M=13:=by unfold rtC; rw [if_pos h,if_neg (by rw [h2]; decide)]
def RtPost (d e:Int) (gv hv:Value) (L M:List (List Int)) (w:World) (ed:Ending) (w':World):Prop:=∃ pv,ed=.returned (.tuple #[pv,.int .i64 (rtC d e L M)])∧(homC d e L M=0→∃ pb oa oc ra rc,pv=.pointer (some ⟨pb,0,none⟩)∧PrAt w' pb d e gv hv oa oc ra rc L M)∧Below w.heap.size w w'
theorem right_any' {d e:Int} {gv hv:Value} {L M:List (List Int)} {w:World} (h:Rg.Rows w gv L) (h':Rg.Rows w hv M) :
  Calls Try.prog 22 #[.agg #[.int .i64 d,gv],.agg #[.int .i64 e,hv]] w (RtPost d e gv hv L M w):=by
 obtain ⟨ga,gc,rfl,-⟩:=h.shape;obtain ⟨ha,hc,rfl,-⟩:=h'.shape;have HG:=ι h;have HH:=ι h';have K:=ι (Below.refl w.heap.size w);clear h h';obtain ⟨c,hc0⟩:∃ c,Hid (homC d e L M=c):=⟨_,ι rfl⟩
 go_enter Try.func22,Try.ntmps22
 go_upto_region 0 with (fail);refine Rg.wl ?_;have hbx:=box2t w (.int .i64 d) (.slice ga L.length gc) 24;refine Rg.lr 2 (Rg.exec_box _ _ rfl rfl) ?_;go_frame;have hb:=(Below.refl w.heap.size w).alloc (Nat.le_refl _) (.cells #[.int .i64 d,.slice ga L.length gc] 24);generalize w.alloc (.cells #[.int .i64 d,.slice ga L.length gc] 24)=w1 at *;replace HG:=ι (HG.out.below hb);replace HH:=ι (HH.out.below hb);replace K:=ι (Rg.acc K.out hb);clear hb;have G0:=ι hbx.1;have G1:=ι hbx.2;clear hbx;have hbx:=box2t w1 (.int .i64 e) (.slice ha M.length hc) 24;refine Rg.lr 3 (Rg.exec_box _ _ rfl rfl) ?_;go_frame;have hb:=(Below.refl w1.heap.size w1).alloc (Nat.le_refl _) (.cells #[.int .i64 e,.slice ha M.length hc] 24);generalize w1.alloc (.cells #[.int .i64 e,.slice ha M.length hc] 24)=w2 at *;replace HG:=ι (HG.out.below hb);replace HH:=ι (HH.out.below hb);replace G0:=ι (G0.out.below hb)
 replace G1:=ι (G1.out.below hb);replace K:=ι (Rg.acc K.out hb);clear hb;have H0:=ι hbx.1;have H1:=ι hbx.2;clear hbx;refine Rg.la 4 (.pointer none) ?_;go_frame;refine Rg.la 5 (.int .i64 0) ?_;go_frame
 by_cases h0:c=0
 case neg =>
  have HB:=ι (show homC d e L M≠0 by rw [hc0.out]; exact h0);have HR:=ι (show rtC d e L M=c by rw [rtC_bad HB.out,hc0.out]);go_upto_region 1 with (fail);refine Rg.wl ?_;refine Rg.lr 9 (Rg.exec_load (v:=.agg #[.int .i64 d,.slice ga L.length gc]) _ _ rfl ⟨w.heap.size,0,none⟩ rfl (run_loadG G0.out.cell G1.out.cell)) ?_;go_frame;refine Rg.lr 10 (Rg.exec_load (v:=.agg #[.int .i64 e,.slice ha M.length hc]) _ _ rfl ⟨w1.heap.size,0,none⟩ rfl (run_loadG H0.out.cell H1.out.cell)) ?_;go_frame;refine list_ask (some 11) rfl rfl _ _ (exec_fn 18 _ _ _ rfl rfl rfl (Kvcl0 _ _)) ?_;refine (of_bad HG.out HH.out hc0.out h0).mono ?_;rintro e1 w3 ⟨rfl,hb⟩;refine ⟨_,rfl,?_⟩;go_frame;replace HG:=ι (HG.out.below hb);replace HH:=ι (HH.out.below hb);replace G0:=ι (G0.out.below hb);replace G1:=ι (G1.out.below hb);replace H0:=ι (H0.out.below hb);replace H1:=ι (H1.out.below hb);replace K:=ι (Rg.acc K.out hb)
  clear hb;refine Rg.lm 8 (.tuple #[(.pointer none),.int .i64 c]) ?_;go_frame;refine Rg.lr 12 (exec_extract (v:=(.pointer none)) _ _ rfl rfl rfl) ?_;go_frame;refine Rg.lr 13 (exec_extract (v:=.int .i64 c) _ _ rfl rfl rfl) ?_;go_frame;refine Rg.la 6 ((.pointer none)) ?_;go_frame;refine Rg.la 7 (.int .i64 c) ?_;go_frame;go_upto_region 2 with (fail);refine Rg.wl ?_;refine Rg.lm 14 (.int .i64 c) ?_;go_frame;refine Rg.lr 15 (exec_bin (R:=.bool false) .eql _ _ _ rfl rfl rfl (b_eql _ (decide_eq_false h0))) ?_;go_frame;refine Rg.lm 16 (.bool false) ?_;go_frame;refine listW_pass (some 17) (by kernel_rfl) rfl ?_;go_frame;refine listW_pass (some 18) (by kernel_rfl) rfl ?_;go_frame;refine listW_pass (some 19) (by kernel_rfl) rfl ?_;go_frame;refine Rg.lr 20 (exec_pickF (v:=.bool false) _ _ _ rfl rfl rfl) ?_;go_frame;go_upto_region 4 with (fail);refine Rg.wl ?_;refine Rg.lm 21 ((.pointer none)) ?_;go_frame
  refine Rg.lm 22 (.int .i64 c) ?_;go_frame;refine Rg.la 4 ((.pointer none)) ?_;go_frame;refine Rg.la 5 (.int .i64 c) ?_;go_frame;go_wp2
  go_ret2
  exact ⟨_,by rw [HR.out]; rfl,fun h=>absurd h HB.out,K.out⟩
 case pos =>
  have HZ:=ι (hc0.out.trans h0);obtain ⟨n,m,A,B,hmg⟩:=homC_get HZ.out;have HMG:=ι hmg;have HDT:=ι (show d.toNat=n by have:=hmg.dn; omega);obtain ⟨bd,hbd⟩:∃ b,Hid (dfB n (pO (d+e) (prL L M))=b):=⟨_,ι rfl⟩;clear hmg
  cases bd
  case true =>
   have HR:=ι (rtC_yes HZ.out (by rw [HDT.out]; exact hbd.out));go_upto_region 1 with (fail);refine Rg.wl ?_;refine Rg.lr 9 (Rg.exec_load (v:=.agg #[.int .i64 d,.slice ga L.length gc]) _ _ rfl ⟨w.heap.size,0,none⟩ rfl (run_loadG G0.out.cell G1.out.cell)) ?_;go_frame;refine Rg.lr 10 (Rg.exec_load (v:=.agg #[.int .i64 e,.slice ha M.length hc]) _ _ rfl ⟨w1.heap.size,0,none⟩ rfl (run_loadG H0.out.cell H1.out.cell)) ?_;go_frame;refine list_ask (some 11) rfl rfl _ _ (exec_fn 18 _ _ _ rfl rfl rfl (Kvcl0 _ _)) ?_;refine (of_ok HG.out HH.out HZ.out).mono ?_;rintro e1 w24 ⟨pb,oa,oc,ra,rc,rfl,hpa,hb⟩;refine ⟨_,rfl,?_⟩;go_frame;replace HG:=ι (HG.out.below hb);replace HH:=ι (HH.out.below hb);replace G0:=ι (G0.out.below hb);replace G1:=ι (G1.out.below hb);replace H0:=ι (H0.out.below hb);replace H1:=ι (H1.out.below hb);replace K:=ι (Rg.acc K.out hb);clear hb;have PA:=ι hpa
   refine Rg.lm 8 (.tuple #[.pointer (some ⟨pb,0,none⟩),.int .i64 0]) ?_;go_frame;refine Rg.lr 12 (exec_extract (v:=.pointer (some ⟨pb,0,none⟩)) _ _ rfl rfl rfl) ?_;go_frame;refine Rg.lr 13 (exec_extract (v:=.int .i64 0) _ _ rfl rfl rfl) ?_;go_frame;refine Rg.la 6 (.pointer (some ⟨pb,0,none⟩)) ?_;go_frame;refine Rg.la 7 (.int .i64 0) ?_;go_frame;clear hpa;go_upto_region 2 with (fail);refine Rg.wl ?_;refine Rg.lm 14 (.int .i64 0) ?_;go_frame;refine Rg.lr 15 (exec_eqI _ _ rfl rfl rfl rfl) ?_;go_frame;refine Rg.lm 16 (.bool true) ?_;go_frame;refine listW_run (some 17) rfl rfl (Rg.xm (.pointer (some ⟨pb,0,none⟩)) _ rfl rfl) ?_;go_frame;refine listW_ask (some 18) rfl rfl _ _ (exec_fn1 19 _ _ rfl rfl (Kvcl1 _ _)) ?_;refine (defined_any PA.out HMG.out).mono ?_;rintro e1 w25 ⟨rfl,hb⟩;rw [hbd.out];refine ⟨_,rfl,?_⟩;go_frame;replace HG:=ι (HG.out.below hb);replace HH:=ι (HH.out.below hb)
   replace G0:=ι (G0.out.below hb);replace G1:=ι (G1.out.below hb);replace H0:=ι (H0.out.below hb);replace H1:=ι (H1.out.below hb);replace PA:=ι (PA.out.below hb);replace K:=ι (Rg.acc K.out hb);clear hb;refine listW_run (some 19) rfl rfl (exec_not _ _ true rfl rfl) ?_;go_frame;refine Rg.lr 20 (exec_pickT (v:=.bool false) _ _ _ rfl rfl rfl) ?_;go_frame;go_upto_region 4 with (fail);refine Rg.wl ?_;refine Rg.lm 21 (.pointer (some ⟨pb,0,none⟩)) ?_;go_frame;refine Rg.lm 22 (.int .i64 0) ?_;go_frame;refine Rg.la 4 (.pointer (some ⟨pb,0,none⟩)) ?_;go_frame;refine Rg.la 5 (.int .i64 0) ?_;go_frame;go_wp2
   go_ret2
   exact ⟨_,by rw [HR.out]; rfl,fun _=>⟨_,_,_,_,_,rfl,PA.out⟩,K.out⟩
  case false =>
   have HR:=ι (rtC_no HZ.out (by rw [HDT.out]; exact hbd.out));go_upto_region 1 with (fail);refine Rg.wl ?_;refine Rg.lr 9 (Rg.exec_load (v:=.agg #[.int .i64 d,.slice ga L.length gc]) _ _ rfl ⟨w.heap.size,0,none⟩ rfl (run_loadG G0.out.cell G1.out.cell)) ?_;go_frame;refine Rg.lr 10 (Rg.exec_load (v:=.agg #[.int .i64 e,.slice ha M.length hc]) _ _ rfl ⟨w1.heap.size,0,none⟩ rfl (run_loadG H0.out.cell H1.out.cell)) ?_;go_frame;refine list_ask (some 11) rfl rfl _ _ (exec_fn 18 _ _ _ rfl rfl rfl (Kvcl0 _ _)) ?_;refine (of_ok HG.out HH.out HZ.out).mono ?_;rintro e1 w46 ⟨pb,oa,oc,ra,rc,rfl,hpa,hb⟩;refine ⟨_,rfl,?_⟩;go_frame;replace HG:=ι (HG.out.below hb);replace HH:=ι (HH.out.below hb);replace G0:=ι (G0.out.below hb);replace G1:=ι (G1.out.below hb);replace H0:=ι (H0.out.below hb);replace H1:=ι (H1.out.below hb);replace K:=ι (Rg.acc K.out hb);clear hb;have PA:=ι hpa
   refine Rg.lm 8 (.tuple #[.pointer (some ⟨pb,0,none⟩),.int .i64 0]) ?_;go_frame;refine Rg.lr 12 (exec_extract (v:=.pointer (some ⟨pb,0,none⟩)) _ _ rfl rfl rfl) ?_;go_frame;refine Rg.lr 13 (exec_extract (v:=.int .i64 0) _ _ rfl rfl rfl) ?_;go_frame;refine Rg.la 6 (.pointer (some ⟨pb,0,none⟩)) ?_;go_frame;refine Rg.la 7 (.int .i64 0) ?_;go_frame;clear hpa;go_upto_region 2 with (fail);refine Rg.wl ?_;refine Rg.lm 14 (.int .i64 0) ?_;go_frame;refine Rg.lr 15 (exec_eqI _ _ rfl rfl rfl rfl) ?_;go_frame;refine Rg.lm 16 (.bool true) ?_;go_frame;refine listW_run (some 17) rfl rfl (Rg.xm (.pointer (some ⟨pb,0,none⟩)) _ rfl rfl) ?_;go_frame;refine listW_ask (some 18) rfl rfl _ _ (exec_fn1 19 _ _ rfl rfl (Kvcl1 _ _)) ?_;refine (defined_any PA.out HMG.out).mono ?_;rintro e1 w47 ⟨rfl,hb⟩;rw [hbd.out];refine ⟨_,rfl,?_⟩;go_frame;replace HG:=ι (HG.out.below hb);replace HH:=ι (HH.out.below hb)
   replace G0:=ι (G0.out.below hb);replace G1:=ι (G1.out.below hb);replace H0:=ι (H0.out.below hb);replace H1:=ι (H1.out.below hb);replace PA:=ι (PA.out.below hb);replace K:=ι (Rg.acc K.out hb);clear hb;refine listW_run (some 19) rfl rfl (exec_not _ _ false rfl rfl) ?_;go_frame;refine Rg.lr 20 (exec_pickT (v:=.bool true) _ _ _ rfl rfl rfl) ?_;go_frame;go_upto_region 3 with (fail);refine Rg.wl ?_;refine Rg.la 7 (.int .i64 13) ?_;go_frame;go_upto_region 4 with (fail);refine Rg.wl ?_;refine Rg.lm 21 (.pointer (some ⟨pb,0,none⟩)) ?_;go_frame;refine Rg.lm 22 (.int .i64 13) ?_;go_frame;refine Rg.la 4 (.pointer (some ⟨pb,0,none⟩)) ?_;go_frame;refine Rg.la 5 (.int .i64 13) ?_;go_frame;go_wp2
   go_ret2
   exact ⟨_,by rw [HR.out]; rfl,fun _=>⟨_,_,_,_,_,rfl,PA.out⟩,K.out⟩
theorem turned_any {d e:Int} {gv hv:Value} {oa:Option Addr} {oc:Nat} {ra:Option Addr} {rc:Nat} {L M:List (List Int)} {pb:Nat} {w:World} (h:PrAt w pb d e gv hv oa oc ra rc L M) (hz:homC d e L M=0) :
  Calls Try.prog 23 #[.pointer (some ⟨pb,0,none⟩)] w fun ed w'=>∃ qb oa2 oc2 ra2 rc2,ed=.returned (.pointer (some ⟨qb,0,none⟩))∧PrAt w' qb e d hv gv oa2 oc2 ra2 rc2 M L∧Below w.heap.size w w':=by
 obtain ⟨ga,gc,rfl,-⟩:=h.rg.shape;obtain ⟨ha,hc,rfl,-⟩:=h.rh.shape;have PA:=ι h;have HZ:=ι (homC_swap hz);have K:=ι (Below.refl w.heap.size w);clear h hz
 go_enter Try.func23,Try.ntmps23
 go_upto_region 0 with (fail);refine Rg.wl ?_;refine Rg.la 2 (.pointer none) ?_;go_frame;go_upto_region 1 with (fail);have hV0:Below w.heap.size w w.drew:=(Below.refl _ _).drew;replace PA:=ι (PA.out.below hV0);replace K:=ι (Rg.acc K.out hV0);clear hV0;refine Rg.Any.begin (S:=Rg.Both 13 (fun _=>True) (fun W=>Below w.drew.heap.size w.drew W)) mix ?_;generalize w.drew=w1 at *;have hS:∀ (l:Array Bool) W,Below w1.heap.size w1 W→Rg.Both 13 (fun _=>True) (fun W=>Below w1.heap.size w1 W) l W:=fun l W h=>⟨.inr trivial,h⟩;have hI:Below w1.heap.size w1 w1:=Below.refl _ _;refine Rg.tm 0 13 (.pointer (some ⟨pb,0,none⟩)) 6 (hS _ _ hI) ?_;go_frame;refine Rg.tg 1 13 (.pointer (some ⟨pb,0,none⟩)) 7 rfl rfl (.inl ⟨rfl,fun w _=>exec_nil _ rfl rfl⟩) (hS _ _ hI) ?_;go_frame;refine Rg.tg 2 13 (.pointer (some ⟨pb,5,none⟩)) 8 rfl rfl (.inl ⟨rfl,fun w _=>exec_field _ rfl rfl (prF2 _ _)⟩) (hS _ _ hI) ?_;go_frame
 refine Rg.tg 3 13 (.agg #[.int .i64 e,.slice ha M.length hc]) 9 rfl rfl (Rg.yields_cell _ _ rfl rfl ⟨pb,5,none⟩ rfl (fun W hW=>run_loadG5 ((Below.cell (p:=⟨pb,5,none⟩) hW PA.out.lt).trans PA.out.c5) ((Below.cell (p:=⟨pb,6,none⟩) hW PA.out.lt).trans PA.out.c6))) (hS _ _ hI) ?_;go_frame;refine Rg.tm 4 13 (.pointer (some ⟨pb,0,none⟩)) 10 (hS _ _ hI) ?_;go_frame;refine Rg.tg 5 13 (.pointer (some ⟨pb,0,none⟩)) 11 rfl rfl (.inl ⟨rfl,fun w _=>exec_nil _ rfl rfl⟩) (hS _ _ hI) ?_;go_frame;refine Rg.tg 6 13 (.pointer (some ⟨pb,3,none⟩)) 12 rfl rfl (.inl ⟨rfl,fun w _=>exec_field _ rfl rfl (prF1 _ _)⟩) (hS _ _ hI) ?_;go_frame;refine Rg.tg 7 13 (.agg #[.int .i64 d,.slice ga L.length gc]) 13 rfl rfl (Rg.yields_cell _ _ rfl rfl ⟨pb,3,none⟩ rfl (fun W hW=>run_loadG3 ((Below.cell (p:=⟨pb,3,none⟩) hW PA.out.lt).trans PA.out.c3) ((Below.cell (p:=⟨pb,4,none⟩) hW PA.out.lt).trans PA.out.c4))) (hS _ _ hI) ?_;go_frame
 refine Rg.Any.one (i:=8) (by kernel_rfl) (Rg.Any.ask (some 14) rfl rfl rfl _ _ (exec_fn 18 _ _ _ rfl rfl rfl (Kvcl0 _ _)) ?_);refine (of_ok PA.out.rh PA.out.rg HZ.out).mono ?_;rintro e1 w2 ⟨qb,oa2,oc2,ra2,rc2,rfl,hqa,hb⟩;have hI2_0:=Rg.acc hI hb;clear hb hI;refine ⟨_,rfl,(hS _ _ hI2_0),?_⟩;go_frame;have QA:=ι hqa;refine Rg.tm 9 13 (.tuple #[.pointer (some ⟨qb,0,none⟩),.int .i64 0]) 5 (hS _ _ hI2_0) ?_;go_frame;refine Rg.tg 10 13 (.pointer (some ⟨qb,0,none⟩)) 15 rfl rfl (.inl ⟨rfl,fun w _=>exec_extract (v:=.pointer (some ⟨qb,0,none⟩)) _ _ rfl rfl rfl⟩) (hS _ _ hI2_0) ?_;go_frame;refine Rg.tg 11 13 (.int .i64 0) 16 rfl rfl (.inl ⟨rfl,fun w _=>exec_extract (v:=.int .i64 0) _ _ rfl rfl rfl⟩) (hS _ _ hI2_0) ?_;go_frame;refine Rg.tg 12 13 (.pointer (some ⟨qb,0,none⟩)) 3 rfl rfl (.inl ⟨rfl,fun w _=>Rg.exec_assign (v:=.pointer (some ⟨qb,0,none⟩)) _ rfl rfl⟩) (hS _ _ hI2_0) ?_;go_frame
 refine Rg.Any.one (i:=13) (by kernel_rfl) (Rg.Any.run (some 4) rfl rfl rfl (Rg.xa (.int .i64 0) _ rfl rfl) (hS _ _ hI2_0) ?_);go_frame;refine Rg.Any.done (by kernel_rfl) ?_ _;replace PA:=ι (PA.out.below hI2_0);replace K:=ι (Rg.acc K.out hI2_0);clear hS hI2_0;go_upto_region 2 with (fail);refine Rg.wl ?_;refine Rg.lm 17 (.pointer (some ⟨qb,0,none⟩)) ?_;go_frame;refine Rg.la 2 (.pointer (some ⟨qb,0,none⟩)) ?_;go_frame;go_wp2;go_ret;exact ⟨_,_,_,_,_,rfl,QA.out,K.out⟩
end Go.Proofs.Ythehbckogieimaa

namespace Go.Proofs.Ythehbckogieimaa
open Go.RowKit
open Go.Proofs
open Go.Proofs.Ob
open Go.Shelf
open Go.Proofs.Cm (Tr)
attribute [local go_sem] Oper.semAt_some
attribute [local irreducible] Go.Calls Go.wpList Go.wpListIn
theorem exec_boxV {P:Program} {o:Oper} {a:Act} {w:World} {v:Value} (t:TypeId) (x:Operand) (ho:o.op=.box t x) (hx:a.eval x=v) (hv:v.cells=#[v]) :
  (execOp a.eval o).run P w=.ok (.value (.pointer (some ⟨w.heap.size,0,none⟩))) (w.alloc (.cells #[v] t)):=by
 unfold execOp;simp [ho,hx,Instr.box,newVar,newRow,hv,Result.andThen]
end Go.Proofs.Ythehbckogieimaa

namespace Go.Proofs.Ythehbckogieimaa
open Go.RowKit
open Go.Proofs
open Go.Proofs.Cm (Tr)
theorem RowG.push {F M:Nat→Prop} {W:World} {v:Value} {l:List (List Nat)} (h:RowG F M W v l) {u:Value} {x:List Nat} (hu:FP F W u x) (hs:∃ a m c,u=.slice a m c) (hF:∀ k,F k→k<W.heap.size) (hM:∀ k,M k→k<W.heap.size) (hn:l.length<1000000) (ty:TypeId) :
  ∃ a c X,(Builtin.append_ #[22,22] ty #[v,.slice (some ⟨W.heap.size,0,none⟩) 1 1]).run Try.prog (W.alloc (.cells #[u] 39))=.ok (.slice a (l.length+1) c) X∧RowG F M X (.slice a (l.length+1) c) (l++[x])∧Rg.Kp (fun k=>v.ownBlock=some k) W X:=by
 obtain ⟨B,us,h0,h1,h2⟩:=h.own;obtain ⟨a0,m0,c0,rfl⟩:=hs;have hb:Below W.heap.size W (W.alloc (.cells #[.slice a0 m0 c0] 39)):=(Below.refl _ _).alloc (Nat.le_refl _) _;obtain ⟨v',X,r1,r2,r3,r4,a,c,rfl⟩:=app_run (P:=Try.prog) slPerms ty (Rg.row_below h1 hb) (Nat.le_trans h0 hb.size) W.heap.size 1 (u:=.slice a0 m0 c0) (by rw [Rg.cellNew]; rfl) rfl hn;have hk:Rg.Kp (fun k=>v.ownBlock=some k) W X:=Rg.Kp.trans (M:=fun k=>v.ownBlock=some k) ((Rg.Kp.of_below hb).weak fun _=>False.elim) (Rg.Kp.of_grown r3 fun _ e=>e) (fun _ _ e=>e);have hg:∀ k,F k→¬ v.ownBlock=some k:=fun k g e=>(h.off k e).1 g;refine ⟨a,c,X,r1,⟨⟨B,us++[.slice a0 m0 c0],Nat.le_trans h0 hk.size,by rw [List.length_append]; exact r2,by rw [List.map_append]; exact FElts.snoc (h2.kp hk hg) (Rg.FI.kp hu hk hg)⟩,fun k e=>?_⟩,hk⟩
 rcases r4 with r4 | r4
 ·exact h.off k (by rw [← r4]; exact e)
 ·rw [r4] at e
  injection e with e
  have e2:(W.alloc (.cells #[.slice a0 m0 c0] 39)).heap.size=W.heap.size+1:=by simp
  exact ⟨fun g=>by have:=hF _ g; omega,fun g=>by have:=hM _ g; omega⟩
theorem RowG.set {F M:Nat→Prop} {W:World} {g c:Nat} {l:List (List Nat)} (h:RowG F M W (.slice (some ⟨g,0,none⟩) l.length c) l) (i:Nat) {u:Value} {x:List Nat} (hu:FP F W u x) :
  RowG F M (W.setCell ⟨g,i,none⟩ u) (.slice (some ⟨g,0,none⟩) l.length c) (l.set i x)∧Rg.Kp (fun k=>k=g) W (W.setCell ⟨g,i,none⟩ u):=by
 obtain ⟨B,us,h0,h1,h2⟩:=h.own;have hk:Rg.Kp (fun k=>k=g) W (W.setCell ⟨g,i,none⟩ u):=Rg.Kp.of_setCell rfl;have hg:∀ k,F k→¬ k=g:=fun k e e2=>(h.off g rfl).1 (e2▸e);have h2':=h2.kp hk hg;refine ⟨⟨⟨B,us.set i u,Nat.le_trans h0 hk.size,?_,?_,fun j hj hj2=>?_⟩,h.off⟩,hk⟩
 ·rw [List.length_set]; exact (h1.stored i u).1
 ·rw [List.length_set,List.length_map,List.length_set,← List.length_map (f:=Ma.ofN)]; exact h2.1
 ·have e1:j<us.length:=by rwa [List.length_set] at hj
  have e2:j<l.length:=by rwa [List.length_map,List.length_set] at hj2
  by_cases e:i=j
  ·subst e
   simp only [List.getElem_set_self,List.getElem_map];exact Rg.FI.kp hu hk hg
  ·simp only [List.getElem_set_ne e,List.getElem_map]
   have:=h2'.2 j e1 (by rw [List.length_map]; exact e2)
   simpa using this
theorem RowG.frozen {F M:Nat→Prop} {W:World} {g n c:Nat} {l:List (List Nat)} (h:RowG F M W (.slice (some ⟨g,0,none⟩) n c) l) (hn:n=l.length) (i:Nat):W.frozen? ⟨g,i,none⟩=false:=by
 subst hn;obtain ⟨B,us,h0,h1,h2⟩:=h.own;exact h1.frozenAt i
end Go.Proofs.Ythehbckogieimaa

namespace Go.Proofs.Ythehbckogieimaa
open Go.RowKit
open Go.Proofs
open Go.Proofs.Cm (Tr)
attribute [local irreducible] Go.Calls Go.wpList
theorem KI.weak {F F' M M':Nat→Prop} {w w':World} (h:KI F w F' w' M) (hM:∀ z,M z→M' z):KI F w F' w' M':=⟨h.kg,h.kp.weak hM,h.new⟩
theorem KI.trans {F F' F'' M:Nat→Prop} {w w' w'':World} (h:KI F w F' w' M) (h':KI F' w' F'' w'' M):KI F w F'' w'' M :=
 ⟨h.kg.trans h'.kg,Rg.Kp.trans (M:=M) h.kp h'.kp (fun _ _ e=>e),fun k hk=>by
  rcases h'.new k hk with e | e
  ·exact h.new k e
  ·exact .inr (Nat.le_trans h.kp.size e)⟩
end Go.Proofs.Ythehbckogieimaa

namespace Go.Proofs.Ythehbckogieimaa
open Go.RowKit
open Go.Proofs
open Go.Proofs.Ob
open Go.Proofs.Cm (Tr TabOk)
attribute [local irreducible] Go.Calls Go.wpList
theorem RowG.nil (F M:Nat→Prop) (W:World):RowG F M W (.slice none 0 0) []:=⟨⟨W.heap.size,[],Nat.le_refl _,World.ownsRow_nil _ _ _ _,Rg.FElts.nil _ _⟩,fun k e=>by simp [Value.ownBlock] at e⟩
end Go.Proofs.Ythehbckogieimaa

namespace Go.Proofs.Ythehbckogieimaa
open Go.RowKit
open Go.Proofs
open Go.Proofs.Cm (Tr)
theorem CW.up {w w':World} {b:Nat} {v:Value} (h:CW w b v) (hb:Below w.heap.size w w'):CW w' b v:=h.below hb
theorem RowG.below {F M:Nat→Prop} {W W':World} {v:Value} {l:List (List Nat)} (h:RowG F M W v l) (hb:Below W.heap.size W W'):RowG F M W' v l:=by
 obtain ⟨B,us,g0,g1,g2⟩:=h.own;exact ⟨⟨B,us,Nat.le_trans g0 hb.size,Rg.row_below g1 hb,g2.kp (M:=fun _=>False) (Rg.Kp.of_below hb) (fun _ _=>id)⟩,h.off⟩
theorem KG.bel {F0 F:Nat→Prop} {w0 w w':World} (h:KG F0 w0 F w) (hb:Below w.heap.size w w'):KG F0 w0 F w':=h.kf' (KF.of_below hb)
end Go.Proofs.Ythehbckogieimaa

namespace Go.Proofs.Ythehbckogieimaa
open Go.RowKit
open Go.Proofs
open Go.Proofs.Ob
open Go.Shelf
open Go.Proofs.Cm (Tr Gd ap sfP)
attribute [local go_sem] Oper.semAt_some
attribute [local irreducible] Go.Calls Go.wpList Go.wpListIn
theorem exec_allocPm {o:Oper} {a:Act} {w:World} (ho:o.op=.alloc 39):(execOp a.eval o).run Try.prog w=.ok (.value (.pointer (some ⟨w.heap.size,0,none⟩))) (w.alloc (.cells #[.slice none 0 0] 39)):=by
 obtain ⟨i0,hi,hz0,hz1,hz2⟩:=info_parts infoPerm;unfold execOp;simp [ho,Instr.alloc,typeInfo,zeroValue,hi,hz0,newVar,Value.cells,Result.andThen];rfl
end Go.Proofs.Ythehbckogieimaa

namespace Go.Proofs.Ythehbckogieimaa
open Go.RowKit
open Go.Proofs
open Go.Proofs.Ob
open Go.Proofs.Cm (Gd)
attribute [local irreducible] Go.Calls Go.wpList
def RwAt (w:World) (g n:Nat) (f:Nat→Int):Prop:=g<w.heap.size∧(∀ i,i<n→w.cell? ⟨g,i,none⟩=some (.int .i64 (f i)))∧∀ i,w.frozen? ⟨g,i,none⟩=false
theorem RwAt.congr {w:World} {g n:Nat} {f f':Nat→Int} (h:RwAt w g n f) (e:∀ i,i<n→f i=f' i):RwAt w g n f' :=
 ⟨h.1,fun i hi=>by rw [← e i hi]; exact h.2.1 i hi,h.2.2⟩
theorem RwAt.set {w:World} {g n:Nat} {f:Nat→Int} (h:RwAt w g n f) (k:Nat) (v:Int) (hk:k<n):RwAt (w.setCell ⟨g,k,none⟩ (.int .i64 v)) g n (fun i=>if i=k then v else f i):=by
 refine ⟨by simpa using h.1,fun i hi=>?_,fun i=>by rw [World.frozen?_setCell]; exact h.2.2 i⟩;show _=some (Value.int .i64 (if i=k then v else f i))
 by_cases e:i=k
 ·subst e
  rw [if_pos rfl];exact World.cell?_setCell_same (h:=h.2.1 i hi) ..
 ·rw [if_neg e,World.cell?_setCell_other (h:=by intro h; injection h with h1 h2; omega) ..]
  exact h.2.1 i hi
theorem RwAt.kp {M:Nat→Prop} {w w':World} {g n:Nat} {f:Nat→Int} (h:RwAt w g n f) (hk:Rg.Kp M w w') (hM:¬ M g):RwAt w' g n f :=
 ⟨Nat.lt_of_lt_of_le h.1 hk.size,fun i hi=>(World.cell?_of_block (a:=⟨g,i,none⟩) (hk.block g h.1 hM)).trans (h.2.1 i hi),fun i=>(World.frozen?_of_block (a:=⟨g,i,none⟩) (hk.block g h.1 hM)).trans (h.2.2 i)⟩
theorem RwAt.below {w w':World} {g n:Nat} {f:Nat→Int} (h:RwAt w g n f) (hb:Below w.heap.size w w'):RwAt w' g n f:=h.kp (M:=fun _=>False) (Rg.Kp.of_below hb) id
theorem RwAt.np {w:World} {g n cap:Nat} {f:Nat→Int} (h:RwAt w g n f) (l:List Nat) (hl:l.length=n) (hc:n≤cap) (hm:cap≤maxLen) (hn:n≤1000) (e:∀ i (hi:i<l.length),f i=((l[i]:Nat):Int)):Rg.NP w (.slice (some ⟨g,0,none⟩) n cap) l:=by
 refine Rg.Ints.mk (by simp [Ma.ofN,hl]) h.1 (by simp [Ma.ofN]; omega) hm (by simp [Ma.ofN]; omega) fun i hi=>?_
 have hi':i<l.length:=by simpa [Ma.ofN] using hi
 rw [Nat.zero_add,h.2.1 i (by omega),e i hi'];simp [Ma.ofN]
end Go.Proofs.Ythehbckogieimaa

namespace Go.Proofs.Ythehbckogieimaa
open Go.RowKit
open Go.Proofs
open Go.Proofs.Ob
open Go.Proofs.Cm (Gd Gr IsChain)
attribute [local irreducible] Go.Calls Go.wpList
theorem made_rowH (w:World) (n:Nat):RwAt (w.alloc (.cells (madeCells #[.int .i64 0] n) 3)) w.heap.size n (fun _=>0):=by
 have h:=World.rowIs_made w (.int .i64 0) n 3;exact ⟨by simp,fun i hi=>h.cell hi,fun i=>h.frozen i⟩
theorem rwat_ints {w:World} {g n cap:Nat} {f:Nat→Int} (h:RwAt w g n f) (hc:n≤cap) (hm:cap≤maxLen) (hn:n≤1000):Rg.Ints w (.slice (some ⟨g,0,none⟩) n cap) ((List.range n).map f):=by
 refine Rg.Ints.mk (by simp) h.1 (by simpa using hc) hm (by simp; omega) fun i hi=>?_
 have hi':i<n:=by simpa using hi
 rw [Nat.zero_add,h.2.1 i hi'];simp
theorem RowP.pushF {B:Nat} {W:World} {v:Value} {ll:List (List Int)} (h:RowP B W v ll) (hB:B≤W.heap.size) {u:Value} {l:List Int} (hv:Rg.FI (PG B W v) W u l) (hue:∃ a n c,u=.slice a n c) (hn:ll.length<1000000) (ty:TypeId) :
  ∃ a c X,(Builtin.append_ #[22,22] ty #[v,.slice (some ⟨W.heap.size,0,none⟩) 1 1]).run Try.prog (W.alloc (.cells #[u] 39))=.ok (.slice a (ll.length+1) c) X∧RowP B X (.slice a (ll.length+1) c) (ll++[l])∧(∀ {B':Nat} {W0:World},B'≤B→Below B' W0 W→Below B' W0 X):=by
 obtain ⟨us,h1,h2⟩:=h.own;have hb:Below W.heap.size W (W.alloc (.cells #[u] 39)):=(Below.refl _ _).alloc (Nat.le_refl _) _;obtain ⟨ua,un,uc,hue⟩:=hue;have hlt:=fun k e=>(h1.lt k e).2;obtain ⟨v',X,r1,r2,r3,r4,a,c,rfl⟩:=app_run (P:=Try.prog) slPerms ty (Rg.row_below h1 hb) (Nat.le_trans hB hb.size) W.heap.size 1 (u:=u) (by rw [Rg.cellNew]; rfl) (by rw [hue]; rfl) hn;have hk1:Rg.Kp (fun _=>False) W (W.alloc (.cells #[u] 39)):=Rg.Kp.of_below hb
 have hsz:(W.alloc (.cells #[u] 39)).heap.size=W.heap.size+1:=by simp
 have hk:Rg.Kp (fun k=>v.ownBlock=some k) W X:=Rg.Kp.trans (M:=fun k=>v.ownBlock=some k) (hk1.weak fun _=>False.elim) (Rg.Kp.of_grown r3 fun _ e=>e) (fun _ _ e=>e);have hg:∀ k,PG B W v k→¬ v.ownBlock=some k:=fun k g=>g.2.2
 have hm:∀ k,PG B W v k→PG B X (.slice a (ll.length+1) c) k:=fun k g=>by
  refine ⟨g.1,Nat.lt_of_lt_of_le g.2.1 hk.size,fun e=>?_⟩
  rcases r4 with r4 | r4
  ·rw [r4] at e; exact g.2.2 e
  ·rw [r4] at e; injection e with e; have:=g.2.1; omega
 refine ⟨a,c,X,r1,⟨us++[u],by rw [List.length_append]; exact r2,(FElts.snoc (h2.kp hk hg) (hv.kp hk hg)).mono hm⟩,fun {B' W0} hB' hb0=>?_⟩;refine (hb0.trans ⟨hk.os,hk.tape,hk.output,hk.size,fun k hk'=>hk.block k ?_ fun e=>?_⟩)
 ·have:=hb0.size; omega
 ·have:=(h1.lt k e).1; omega
def bhY (n:Nat) (x:List Int):List Int:=(x.drop n).map (fun q=>q - ((n:Nat):Int))
def bhL (n:Nat) (R:List (List (List Int))):List (List Int):=((R.drop n).flatten).map (bhY n)
def bhT (n:Nat) (R:List (List (List Int))) (i:Nat):List (List Int):=(((R.drop n).take i).flatten).map (bhY n)
theorem bhT_all {n:Nat} {R:List (List (List Int))} {i:Nat} (h:R.length≤n+i):bhT n R i=bhL n R:=by
 unfold bhT bhL;rw [List.take_of_length_le (by rw [List.length_drop]; omega)]
theorem bhT_next {n:Nat} {R:List (List (List Int))} {i:Nat} (h:n+i<R.length):bhT n R (i+1)=bhT n R i++R[n+i].map (bhY n):=by
 unfold bhT
 have h2:i<(R.drop n).length:=by rw [List.length_drop]; omega
 have e:(R.drop n)[i]=R[n+i]:=by simp
 rw [List.take_add_one,List.getElem?_eq_getElem h2,e,List.flatten_append,List.map_append];simp
theorem bhT_len {n:Nat} {R:List (List (List Int))} (hl:R.length≤64) (h:∀ r∈R,r.length≤64) (i:Nat):(bhT n R i).length≤4096:=by
 unfold bhT;rw [List.length_map]
 have key:∀ (T:List (List (List Int))),(∀ r∈T,r.length≤64)→T.flatten.length≤T.length*64:=by
  intro T
  induction T with
  | nil=>intro _; simp
  | cons a T ih =>
   intro hT;rw [List.flatten_cons,List.length_append,List.length_cons];have:=ih (fun r hr=>hT r (List.mem_cons_of_mem _ hr));have:=hT a (List.mem_cons_self ..);omega
 have h1:=key ((R.drop n).take i) (fun r hr=>h r (List.mem_of_mem_drop (List.mem_of_mem_take hr)))
 have h2:((R.drop n).take i).length≤64:=by rw [List.length_take,List.length_drop]; omega
 have h3:((R.drop n).take i).length*64≤64*64:=Nat.mul_le_mul_right 64 h2;omega
theorem bhY_range {n m:Nat} {x:List Int} (h:x.length=n+m):(List.range m).map (fun t=>x.getD (n+t) 0 - ((n:Nat):Int))=bhY n x:=by
 refine List.ext_getElem (by simp [bhY,h]) fun i h1 h2=>?_;simp only [List.length_map,List.length_range] at h1;simp only [bhY,List.getElem_map,List.getElem_range,List.getElem_drop];rw [List.getD_eq_getElem?_getD,List.getElem?_eq_getElem (by omega)];rfl
structure RpF (n m:Nat) (R:List (List (List Int))):Prop where
 len:R.length=n+m
 r64:∀ r∈R,r.length≤64
 xl:∀ r∈R,∀ x∈r,∃ z:List Nat,x=Ma.ofN z∧Gd (n+m) z
theorem HomG.reps {d e:Int} {LL M:List (List Int)} {n m:Nat} {A B:List (List Nat)} (h:HomG d e LL M n m A B) {N:Nat} {gs:List (List Nat)} (hp:PcF (d+e) (prL LL M) N gs):RpF n m (pR (d+e) (prL LL M)):=by
 have hN:N=n+m:=by have:=hp.dn; have:=h.dn; have:=h.em; omega
 subst hN
 have hgs:gs=prN A B:=by
  have e1:=hp.lg;rw [h.la,h.mb,prL_ofN] at e1;exact (map_ofN_inj e1).symm
 have hg:∀ s∈gs,Gd (n+m) s:=by rw [hgs]; exact mem_prN h.ga h.gb
 have hH:=Cm.Gr.isG hg
 have key:∀ r∈(pOR (d+e) (prL LL M)).2,∃ i,i<n+m∧(pOR (d+e) (prL LL M)).2.getD i []=r:=fun r hr=>by
  obtain ⟨i,hi,rfl⟩:=List.getElem_of_mem hr;exact ⟨i,by rw [← hp.ch.lenR]; exact hi,by rw [List.getD_eq_getElem?_getD,List.getElem?_eq_getElem hi]; rfl⟩
 refine ⟨hp.lenR,fun r hr=>?_,fun r hr x hx=>?_⟩
 ·obtain ⟨r0,hr0,rfl⟩:=List.mem_map.1 hr
  obtain ⟨i,hi,rfl⟩:=key r0 hr0;rw [List.length_map,hp.ch.len i hi];have:=chain_len hH hp.ch hi;have:=h.nm;omega
 ·obtain ⟨r0,hr0,rfl⟩:=List.mem_map.1 hr
  obtain ⟨z,hz,rfl⟩:=List.mem_map.1 hx;obtain ⟨i,hi,rfl⟩:=key r0 hr0;obtain ⟨k,hk,rfl⟩:=List.getElem_of_mem hz;refine ⟨_,rfl,?_⟩;have h5:=(hp.ch.rep i k hi (by rw [← hp.ch.len i hi]; exact hk)).1.1.1;rw [List.getD_eq_getElem?_getD,List.getElem?_eq_getElem hk] at h5;exact hH.gd _ h5
def BhPost (e:Int) (ll:List (List Int)) (w:World) (ed:Ending) (w':World):Prop:=∃ cv,ed=.returned cv∧ChAnsF w.heap.size w' e ll cv (mkchk e ll)∧Below w.heap.size w w'
theorem ChAnsF.mono {B B':Nat} {w:World} {d:Int} {ll:List (List Int)} {cv:Value} {c:Int} (h:ChAnsF B w d ll cv c) (hB:B'≤B):ChAnsF B' w d ll cv c:=by
 rcases h with h | ⟨h0,n,gs,h1,h2,h3,h4,ov,rv,O,R,h5,h6,h7,h8⟩
 ·exact .inl h
 ·exact .inr ⟨h0,n,gs,h1,h2,h3,h4,ov,rv,O,R,h5,FRows.mono h6 (fun z hz=>Nat.le_trans hB hz),FRows2.mono h7 (fun z hz=>Nat.le_trans hB hz),h8⟩
theorem ChAnsF.below {B:Nat} {w w':World} {d:Int} {ll:List (List Int)} {cv:Value} {c:Int} (h:ChAnsF B w d ll cv c) (hb:Below w.heap.size w w'):ChAnsF B w' d ll cv c:=h.kp (M:=fun _=>False) (Rg.Kp.of_below hb) (fun _ e=>e.elim)
theorem fill_step {m i:Nat} {X:Nat→Int} {v:Int} (hv:v=X i):∀ t,t<m→(if t=i then v else (if t<i then X t else 0))=(if t<i+1 then X t else 0):=fun t _=>by
 by_cases e:t=i
 ·subst e; rw [if_pos rfl,if_pos (by omega),hv]
 ·rw [if_neg e]
  by_cases e2:t<i
  ·rw [if_pos e2,if_pos (by omega)]
  ·rw [if_neg e2,if_neg (by omega)]
theorem behind_any {d e:Int} {gv hv:Value} {oa:Option Addr} {oc:Nat} {ra:Option Addr} {rc:Nat} {L M:List (List Int)} {n m:Nat} {A B:List (List Nat)} {pb:Nat} {w:World} (h:PrAt w pb d e gv hv oa oc ra rc L M) (hm:HomG d e L M n m A B) :
  Calls Try.prog 24 #[.pointer (some ⟨pb,0,none⟩)] w (BhPost e (bhL n (pR (d+e) (prL L M))) w):=by
 obtain ⟨ga,gc,rfl,-⟩:=h.rg.shape;obtain ⟨ha,hc,rfl,-⟩:=h.rh.shape;obtain ⟨N,gs,hpc⟩:=h.pc;have hrp:=hm.reps hpc;have hm1:=hm.m1;have hnm:=hm.nm;have hrl:n+m=(pR (d+e) (prL L M)).length:=hrp.len.symm
 have hcap:(pR (d+e) (prL L M)).length≤rc:=by
  obtain ⟨us,⟨a,c,e1,e2,_⟩,e3,_⟩:=h.ch.2
  injection e1 with _ e4 e5
  omega
 obtain ⟨rb,ro,e1,-⟩:=h.ch.2.at' (k:=0) (by omega);subst e1;obtain ⟨RR,hRR⟩:∃ l,Hid (pR (d+e) (prL L M)=l):=⟨_,ι rfl⟩;rw [hRR.out] at hrp hcap hrl ⊢;have PA:=ι h;have HRP:=ι hrp;have HRL:=ι hrl.symm;have HCAP:=ι hcap;have HM1:=ι hm1;have HNM:=ι hnm;have HN1:=ι hm.n1;have HDN:=ι hm.dn;have HEM:=ι hm.em;have HR2:=ι (show Rows2 w (.slice (some ⟨rb,ro,none⟩) RR.length rc) RR by have h5:=h.ch.2; rw [hRR.out] at h5; exact h5);have K:=ι (Below.refl w.heap.size w);clear h hm hpc hrp hcap hrl
 go_enter Try.func24,Try.ntmps24
 go_upto_region 0 with (fail);refine Rg.wl ?_;have hnew:=Tri.new w (.int .i64 0) (.slice none 0 0) (.slice none 0 0);refine Rg.lr 2 (exec_allocC rfl) ?_;go_frame;have hb:=(Below.refl w.heap.size w).alloc (Nat.le_refl _) (.cells #[.int .i64 0,.slice none 0 0,.slice none 0 0] 33);generalize w.alloc (.cells #[.int .i64 0,.slice none 0 0,.slice none 0 0] 33)=w1 at *;replace PA:=ι (PA.out.below hb);replace HR2:=ι (HR2.out.below hb);replace K:=ι (Rg.acc K.out hb);clear hb;have FT:=ι hnew;clear hnew;go_upto_region 1 with (fail);refine Rg.wl ?_;refine Rg.lm 13 (.pointer (some ⟨pb,0,none⟩)) ?_;go_frame;refine Rg.lr 14 (exec_nil _ rfl rfl) ?_;go_frame;refine Rg.lr 15 (exec_field _ rfl rfl (prF1 _ _)) ?_;go_frame;refine Rg.lr 16 (exec_field _ rfl rfl (grF3_0 _ _)) ?_;go_frame;refine Rg.lr 17 (Rg.exec_load (v:=.int .i64 ((n:Nat):Int)) _ _ rfl ⟨pb,3,none⟩ rfl (run_loadInt (show _ from by have h5:=PA.out.c3; rw [HDN.out] at h5; exact h5))) ?_;go_frame
 refine Rg.la 3 (.int .i64 ((n:Nat):Int)) ?_;go_frame;go_upto_region 2 with (fail);refine Rg.wl ?_;refine Rg.la 4 (.slice none 0 0) ?_;go_frame;go_upto_region 3 with (fail);refine Rg.wl ?_;refine Rg.lm 18 (.pointer (some ⟨pb,0,none⟩)) ?_;go_frame;refine Rg.lr 19 (exec_nil _ rfl rfl) ?_;go_frame;refine Rg.lr 20 (exec_field _ rfl rfl (prF0 _ _)) ?_;go_frame;refine Rg.lr 21 (exec_field _ rfl rfl (chF2 _ _)) ?_;go_frame;refine Rg.lr 22 (Rg.exec_load (v:=.slice (some ⟨rb,ro,none⟩) RR.length rc) _ _ rfl ⟨pb,2,none⟩ rfl (Rg.run_loadSl _ _ Try.underlying31 (show _ from by have h5:=PA.out.c2; rw [hRR.out] at h5; exact h5))) ?_;go_frame;refine Rg.lm 23 (.int .i64 ((n:Nat):Int)) ?_;go_frame;refine Rg.lr 24 (exec_sliceLoP _ _ rfl rfl rfl (run_sliceLoP _ _ _ _ _ _ (by have:=HRL.out; have:=HM1.out; omega) HCAP.out)) ?_;go_frame;refine Rg.lr 25 (exec_len _ _ _ rfl Try.underlying31 _ _ _ rfl) ?_;go_frame
 refine Rg.lm 26 (.int .i64 ((0:Nat):Int)) ?_;go_frame;have K1:=ι (Below.refl w1.heap.size w1);obtain ⟨lo,hlo⟩:∃ l,Hid (RR.length - n=l):=⟨_,ι rfl⟩;rw [hlo.out];have HLO:=ι (show lo=m by have:=HRL.out; have:=hlo.out; omega);have RP:=ι (show RowP w1.heap.size w1 (.slice none 0 0) (bhT n RR 0) from RowP.nil _ _);have HTL:=ι (fun i=>bhT_len (n:=n) (i:=i) (by have:=HRL.out; have:=HNM.out; omega) HRP.out.r64);go_wp2
 go_loopw [4,26] (fun tv iv wr=>∃ i:Nat,iv=.int .i64 ((i:Nat):Int)∧i≤lo∧Hid (RowP w1.heap.size wr tv (bhT n RR i))∧Hid (Below w1.heap.size w1 wr)) (fun _ iv _=>lo - (intOf iv).toNat)
 case atStart=>exact ⟨0,rfl,Nat.zero_le _,RP,K1⟩
 case round =>
  clear K1 RP;obtain ⟨i,rfl,hi,RP,K1⟩:=hrel;generalize wr=wd at *;obtain ⟨ta,tc,rfl⟩:=RP.out.shape
  have hlm:lo≤64:=by have:=HLO.out; have:=HNM.out; omega
  by_cases hil:i<lo
  case pos =>
   have HIL:=ι hil;have HNI:=ι (show n+i<RR.length by have:=HRL.out; have:=HLO.out; omega);obtain ⟨rb',ro',er,hrb,u,hcu,hu⟩:=HR2.out.at' HNI.out
   injection er with er
   injection er with e5 e6
   subst e5 e6;obtain ⟨r,hr⟩:∃ r:List (List Int),Hid (RR[n+i]'HNI.out=r):=⟨_,ι rfl⟩;rw [hr.out] at hu;obtain ⟨ua,uc,rfl,-⟩:=hu.shape;have CU:=ι (CL.mk (show w1.cell? ⟨rb,ro+n+i,none⟩=_ by rw [Nat.add_assoc]; exact hcu) hrb);have HU:=ι hu
   have hmem:r∈RR:=by rw [← hr.out]; exact List.getElem_mem _
   have HR64:=ι (HRP.out.r64 r hmem);have HXS:=ι (HRP.out.xl r hmem);have HTN:=ι (show bhT n RR (i+1)=bhT n RR i++r.map (bhY n) by rw [bhT_next HNI.out,hr.out]);clear hcu hrb hu hmem;go_upto_region 4 with (fail);refine Rg.wl ?_;refine Rg.lr 27 (exec_bin (R:=.bool true) .lss _ _ _ rfl rfl rfl (b_lss _ (decide_eq_true (by omega)))) ?_;go_frame;go_upto_region 5 with (fail);refine Rg.wl ?_;refine Rg.lr 28 (exec_indexS slPermss _ _ rfl rb (ro+n) (lo) (rc - n) (i) rfl rfl HIL.out) ?_;go_frame;refine Rg.lr 29 (Rg.exec_load (v:=.slice ua r.length uc) _ _ rfl ⟨rb,ro+n+i,none⟩ rfl (Rg.run_loadSl _ _ Try.underlying22 ((Below.cell (p:=⟨rb,ro+n+i,none⟩) K1.out CU.out.lt).trans CU.out.cell))) ?_;go_frame;refine Rg.la 6 (.slice ua r.length uc) ?_;go_frame;go_upto_region 6 with (fail);refine Rg.wl ?_;refine Rg.lm 30 (.slice ua r.length uc) ?_;go_frame;refine Rg.lr 31 (exec_len _ _ _ rfl Try.underlying22 _ _ _ rfl) ?_;go_frame
   refine Rg.lm 32 (.int .i64 ((0:Nat):Int)) ?_;go_frame;have RP2:=ι (show RowP w1.heap.size wd (.slice ta (bhT n RR i).length tc) (bhT n RR i++(r.take 0).map (bhY n)) by rw [List.take_zero,List.map_nil,List.append_nil]; exact RP.out);clear RP;go_wp2
   go_loopw [4,32] (fun tv kv wr=>∃ k:Nat,kv=.int .i64 ((k:Nat):Int)∧k≤r.length∧Hid (RowP w1.heap.size wr tv (bhT n RR i++(r.take k).map (bhY n)))∧Hid (Below w1.heap.size w1 wr)) (fun _ kv _=>r.length - (intOf kv).toNat)
   case atStart=>exact ⟨0,rfl,Nat.zero_le _,RP2,K1⟩
   case round =>
    clear K1 RP2;obtain ⟨k,rfl,hk,RP,K1⟩:=hrel;generalize wr=we at *;obtain ⟨ta,tc,rfl⟩:=RP.out.shape;have hr64:r.length≤64:=HR64.out
    by_cases hkl:k<r.length
    case neg =>
     have HTK:=ι (show bhT n RR i++(r.take k).map (bhY n)=bhT n RR (i+1) by rw [HTN.out,List.take_of_length_le (by omega)]);rw [HTK.out] at RP ⊢;go_upto_region 7 with (fail);refine Rg.wl ?_;refine Rg.lr 33 (exec_bin (R:=.bool false) .lss _ _ _ rfl rfl rfl (b_lss _ (decide_eq_false (by omega)))) ?_;go_frame;go_upto_region 17 with (fail);refine Rg.wl ?_;refine Rg.lr 64 (exec_bin (R:=.int .i64 (((i+1):Nat):Int)) .add _ _ _ rfl rfl rfl (b_add _ (by omega) (by omega))) ?_;go_frame;refine Rg.lm 26 (.int .i64 (((i+1):Nat):Int)) ?_;go_frame;go_wp2
     go_roundw
     case rel=>exact ⟨i+1,by go_num,HIL.out,RP,K1⟩
     case measure=>simp [intOf]; have:=HIL.out; omega
    case pos =>
     have HKL:=ι hkl;obtain ⟨ub,uo,xa,xc,e5,hub,huc,hui⟩:=rowsI_get HU.out hkl;subst e5;obtain ⟨x,hx⟩:∃ x:List Int,Hid (r[k]'hkl=x):=⟨_,ι rfl⟩;rw [hx.out] at huc hui;obtain ⟨z,hz,gz⟩:=HXS.out x (by rw [← hx.out]; exact List.getElem_mem _);have HXL:=ι (show x.length=n+m by rw [hz,Ma.len_ofN]; exact gz.2)
     have HXB:=ι (show ∀ t,t<n+m→∃ q:Nat,x.getD t 0=((q:Nat):Int)∧q<n+m from fun t ht=>by
      have hl:t<z.length:=by rw [gz.2]; exact ht
      refine ⟨z[t],?_,?_⟩
      ·rw [hz,List.getD_eq_getElem?_getD,List.getElem?_eq_getElem (by rw [Ma.len_ofN]; exact hl),Option.getD_some,Ma.get_ofN]
      ·have:=gz.1.1 _ (List.getElem_mem hl); have:=gz.2; omega)
     have CX:=ι (CL.mk huc hub);have XI:=ι hui;have HTS:=ι (show (r.take (k+1)).map (bhY n)=(r.take k).map (bhY n)++[bhY n x] by rw [List.take_add_one,List.getElem?_eq_getElem hkl,hx.out,List.map_append]; rfl);obtain ⟨tl,htl⟩:∃ l,Hid (bhT n RR i++(r.take k).map (bhY n)=l):=⟨_,ι rfl⟩
     have HTL9:=ι (show tl.length<1000000 by
      rw [← htl.out,List.length_append,List.length_map,List.length_take];have:=HTL.out i
      omega)
     have HTS2:=ι (show bhT n RR i++(r.take (k+1)).map (bhY n)=tl++[bhY n x] by rw [HTS.out,← List.append_assoc,htl.out]);rw [htl.out] at RP ⊢
     have hm64:m≤64:=by have:=HNM.out; omega
     clear hub huc hui hz gz;go_upto_region 7 with (fail);refine Rg.wl ?_;refine Rg.lr 33 (exec_bin (R:=.bool true) .lss _ _ _ rfl rfl rfl (b_lss _ (decide_eq_true (by omega)))) ?_;go_frame;go_upto_region 8 with (fail);refine Rg.wl ?_;refine Rg.lr 34 (exec_indexS slPerms _ _ rfl ub (uo) (r.length) uc (k) rfl rfl HKL.out) ?_;go_frame;refine Rg.lr 35 (Rg.exec_load (v:=.slice xa x.length xc) _ _ rfl ⟨ub,uo+k,none⟩ rfl (Rg.run_loadSl _ _ Try.underlying39 ((Below.cell (p:=⟨ub,uo+k,none⟩) K1.out CX.out.lt).trans CX.out.cell))) ?_;go_frame;refine Rg.la 8 (.slice xa x.length xc) ?_;go_frame;go_upto_region 9 with (fail);refine Rg.wl ?_;refine Rg.lm 36 (.pointer (some ⟨pb,0,none⟩)) ?_;go_frame;refine Rg.lr 37 (exec_nil _ rfl rfl) ?_;go_frame;refine Rg.lr 38 (exec_field _ rfl rfl (prF2 _ _)) ?_;go_frame;refine Rg.lr 39 (exec_field _ rfl rfl (grF5_0 _ _)) ?_;go_frame;refine Rg.lr 40 (Rg.exec_load (v:=.int .i64 ((m:Nat):Int)) _ _ rfl ⟨pb,5,none⟩ rfl (run_loadInt ((Below.cell (p:=⟨pb,5,none⟩) K1.out PA.out.lt).trans (show _ from by have h5:=PA.out.c5; rw [HEM.out] at h5; exact h5)))) ?_;go_frame
     refine Rg.lr 41 (exec_makeSlice _ _ _ rfl _ _ rfl rfl (mkPerm m (by omega) we)) ?_;go_frame;refine Rg.la 9 (.slice (some ⟨we.heap.size,0,none⟩) m m) ?_;go_frame;have hrw:=made_rowH we m;have hbw:Below we.heap.size we (we.alloc (.cells (madeCells #[.int .i64 0] m) 3)):=(Below.refl _ _).alloc (Nat.le_refl _) _;obtain ⟨gb,hgb⟩:∃ b,we.heap.size=b:=⟨_,rfl⟩;have HGB:=ι (show we.heap.size≤gb from Nat.le_of_eq hgb);rw [hgb] at hrw ⊢;generalize we.alloc (.cells (madeCells #[.int .i64 0] m) 3)=wf at *;have RW:=ι (show RwAt wf gb m (fun t=>if t<0 then x.getD (n+t) 0 - ((n:Nat):Int) else 0) from hrw.congr (fun i _=>by rw [if_neg (Nat.not_lt_zero _)]));have KE:=ι hbw;have HGW:=ι (show gb=we.heap.size from hgb.symm);clear hrw hbw hgb;go_upto_region 10 with (fail);refine Rg.wl ?_;refine Rg.lm 42 (.slice (some ⟨gb,0,none⟩) m m) ?_;go_frame;refine Rg.lr 43 (exec_len _ _ _ rfl Try.underlying39 _ _ _ rfl) ?_;go_frame
     refine Rg.lm 44 (.int .i64 ((0:Nat):Int)) ?_;go_frame;go_wp2
     go_loopw [44] (fun iv wr=>∃ t:Nat,iv=.int .i64 ((t:Nat):Int)∧t≤m∧Hid (RwAt wr gb m (fun s=>if s<t then x.getD (n+s) 0 - ((n:Nat):Int) else 0))∧Hid (Below we.heap.size we wr)) (fun iv _=>m - (intOf iv).toNat)
     case atStart=>exact ⟨0,rfl,Nat.zero_le _,RW,KE⟩
     case round =>
      clear RW KE;obtain ⟨t,rfl,ht,RW,KE⟩:=hrel;generalize wr=wg at *;have KX:=ι (Rg.acc K1.out KE.out)
      by_cases htm:t<m
      case pos =>
       have HTM:=ι htm;obtain ⟨q,hq,hqn⟩:=HXB.out (n+t) (by omega);have hnm:n+m≤64:=HNM.out;have hxl:x.length=n+m:=HXL.out;obtain ⟨a',c',e1,-,-,-,hs⟩:=XI.out.shape
       injection e1 with e2 _ e4
       subst e2 e4;obtain ⟨xb,xo,rfl,hxb,hxc⟩:=hs (by omega)
       have CQ:=ι (CL.mk (show w1.cell? ⟨xb,xo+(n+t),none⟩=some (.int .i64 ((q:Nat):Int)) by
        rw [hxc (n+t) (by omega),← hq,List.getD_eq_getElem?_getD,List.getElem?_eq_getElem (by omega)]; rfl) hxb)
       clear hs hxb hxc;go_upto_region 11 with (fail);refine Rg.wl ?_;refine Rg.lr 45 (exec_bin (R:=.bool true) .lss _ _ _ rfl rfl rfl (b_lss _ (decide_eq_true (by omega)))) ?_;go_frame;go_upto_region 12 with (fail);refine Rg.wl ?_;refine Rg.lm 46 (.int .i64 ((t:Nat):Int)) ?_;go_frame;refine Rg.la 10 (.int .i64 ((t:Nat):Int)) ?_;go_frame;go_upto_region 13 with (fail);refine Rg.wl ?_;refine Rg.lm 47 (.slice (some ⟨gb,0,none⟩) m m) ?_;go_frame;refine Rg.lm 48 (.int .i64 ((t:Nat):Int)) ?_;go_frame;refine Rg.lm 49 (.slice (some ⟨xb,xo,none⟩) x.length xc) ?_;go_frame;refine Rg.lm 50 (.int .i64 ((n:Nat):Int)) ?_;go_frame;refine Rg.lm 51 (.int .i64 ((t:Nat):Int)) ?_;go_frame;refine Rg.lr 52 (exec_bin (R:=.int .i64 (((n+t):Nat):Int)) .add _ _ _ rfl rfl rfl (b_add _ (by omega) (by omega))) ?_;go_frame;refine Rg.lr 53 (exec_indexS slPerm _ _ rfl xb (xo) (x.length) xc ((n+t)) rfl rfl (by omega)) ?_;go_frame
       refine Rg.lr 54 (Rg.exec_load (v:=.int .i64 ((q:Nat):Int)) _ _ rfl ⟨xb,xo+(n+t),none⟩ rfl (run_loadInt ((Below.cell (p:=⟨xb,xo+(n+t),none⟩) KX.out CQ.out.lt).trans CQ.out.cell))) ?_;go_frame;refine Rg.lm 55 (.int .i64 ((n:Nat):Int)) ?_;go_frame;refine Rg.lr 56 (exec_bin (R:=.int .i64 (((q:Nat):Int) - ((n:Nat):Int))) .sub _ _ _ rfl rfl rfl (b_sub _ (by omega) (by omega))) ?_;go_frame;refine Rg.lr 57 (exec_indexS slPerm _ _ rfl gb (0) (m) m (t) rfl rfl HTM.out) ?_;go_frame;refine Rg.list_skip none rfl rfl (Rg.exec_store _ _ _ rfl _ rfl _ rfl (run_storeInt (((q:Nat):Int) - ((n:Nat):Int)) (by rw [Nat.zero_add]; exact RW.out.2.1 t HTM.out) (by rw [Nat.zero_add]; exact RW.out.2.2 t))) ?_;go_frame
       have hrw:RwAt (wg.setCell ⟨gb,0+t,none⟩ (.int .i64 (((q:Nat):Int) - ((n:Nat):Int)))) gb m (fun s=>if s<t+1 then x.getD (n+s) 0 - ((n:Nat):Int) else 0):=by
        rw [Nat.zero_add];exact (RW.out.set t _ HTM.out).congr (fill_step (X:=fun s=>x.getD (n+s) 0 - ((n:Nat):Int)) (by rw [hq]))
       have hkw:=KE.out.setCell (p:=⟨gb,0+t,none⟩) HGB.out (.int .i64 (((q:Nat):Int) - ((n:Nat):Int)));generalize wg.setCell ⟨gb,0+t,none⟩ (.int .i64 (((q:Nat):Int) - ((n:Nat):Int)))=wh at *;have RW2:=ι hrw;have KE2:=ι hkw;clear hrw hkw;go_upto_region 14 with (fail);refine Rg.wl ?_;refine Rg.lr 58 (exec_bin (R:=.int .i64 (((t+1):Nat):Int)) .add _ _ _ rfl rfl rfl (b_add _ (by omega) (by omega))) ?_;go_frame;refine Rg.lm 44 (.int .i64 (((t+1):Nat):Int)) ?_;go_frame;go_wp2
       go_roundw
       case rel=>exact ⟨t+1,by go_num,HTM.out,RW2,KE2⟩
       case measure=>simp [intOf]; have:=HTM.out; omega
      case neg =>
       have HYI:=ι (show Rg.Ints wg (.slice (some ⟨gb,0,none⟩) m m) (bhY n x) by
        have h5:=rwat_ints RW.out (Nat.le_refl _) (by unfold maxLen; omega:m≤maxLen) (by omega)
        have e5:(List.range m).map (fun s=>if s<t then x.getD (n+s) 0 - ((n:Nat):Int) else 0)=bhY n x:=by
         rw [← bhY_range HXL.out];refine List.map_congr_left fun s hs=>?_;rw [if_pos (by have:=List.mem_range.1 hs; omega)]
        rw [e5] at h5
        exact h5)
       have RPX:=ι (RP.out.below KE.out);have HPG:=ι (show PG w1.heap.size wg (.slice ta tl.length tc) gb from ⟨by have:=HGW.out; have:=K1.out.size; omega,RW.out.1,fun e=>by have:=(RP.out.lt gb e).2; have:=HGW.out; omega⟩);go_upto_region 11 with (fail);refine Rg.wl ?_;refine Rg.lr 45 (exec_bin (R:=.bool false) .lss _ _ _ rfl rfl rfl (b_lss _ (decide_eq_false (by omega)))) ?_;go_frame;go_upto_region 15 with (fail);refine Rg.wl ?_;refine Rg.lm 59 (.slice ta tl.length tc) ?_;go_frame;refine Rg.lm 60 (.slice (some ⟨gb,0,none⟩) m m) ?_;go_frame;refine Rg.lr 61 (Rg.exec_buildSlice _ _ _ rfl (.slice (some ⟨gb,0,none⟩) m m) rfl (run_build1P wg _ ⟨_,_,_,rfl⟩)) ?_;go_frame;obtain ⟨a9,c9,X9,r1,r2,r3⟩:=RPX.out.pushF KX.out.size (Rg.FVals.of HYI.out (fun k e=>by simp [Value.ownBlock] at e; subst e; exact HPG.out)) ⟨_,_,_,rfl⟩ HTL9.out 22;refine Rg.lr 62 (Rg.exec_append _ _ _ rfl rfl rfl r1) ?_;go_frame
       refine Rg.la 4 (.slice a9 (tl.length+1) c9) ?_;go_frame;have K6:=ι (r3 (Nat.le_refl _) KX.out);have RP6:=ι (show RowP w1.heap.size X9 (.slice a9 (tl.length+1) c9) (bhT n RR i++(r.take (k+1)).map (bhY n)) by rw [HTS2.out]; exact r2);clear r1 r2 r3;go_upto_region 16 with (fail);refine Rg.wl ?_;refine Rg.lr 63 (exec_bin (R:=.int .i64 (((k+1):Nat):Int)) .add _ _ _ rfl rfl rfl (b_add _ (by omega) (by omega))) ?_;go_frame;refine Rg.lm 32 (.int .i64 (((k+1):Nat):Int)) ?_;go_frame;go_wp2
       go_roundw
       case rel=>exact ⟨k+1,by go_num,HKL.out,RP6,K6⟩
       case measure=>simp [intOf]; have:=HKL.out; omega
  case neg =>
   have HTE:=ι (show bhT n RR i=bhL n RR from bhT_all (by have:=HRL.out; have:=HLO.out; omega));have HBL:=ι (show (bhT n RR i).length≤4096 from HTL.out i);rw [HTE.out] at RP HBL ⊢;obtain ⟨BL,hBL⟩:∃ l,Hid (bhL n RR=l):=⟨_,ι rfl⟩;rw [hBL.out] at RP HBL ⊢;have HRW:=ι (FRows.rows (RP.out.frows (by have:=HBL.out; omega) (G:=fun _=>True) (fun _ _ _=>trivial)));have KT:=ι (show Below w.heap.size w wd from K.out.trans (K1.out.mono K.out.size));have FTD:=ι (FT.out.below K1.out);have PAD:=ι (PA.out.below K1.out);obtain ⟨mk,hmk⟩:∃ c,Hid (mkchk e BL=c):=⟨_,ι rfl⟩;go_upto_region 4 with (fail);refine Rg.wl ?_;refine Rg.lr 27 (exec_bin (R:=.bool false) .lss _ _ _ rfl rfl rfl (b_lss _ (decide_eq_false (by omega)))) ?_;go_frame;clear K K1 FT PA;go_upto_region 18 with (fail);refine Rg.wl ?_;refine Rg.lm 66 (.pointer (some ⟨pb,0,none⟩)) ?_;go_frame;refine Rg.lr 67 (exec_nil _ rfl rfl) ?_;go_frame
   refine Rg.lr 68 (exec_field _ rfl rfl (prF2 _ _)) ?_;go_frame;refine Rg.lr 69 (exec_field _ rfl rfl (grF5_0 _ _)) ?_;go_frame;refine Rg.lr 70 (Rg.exec_load (v:=.int .i64 e) _ _ rfl ⟨pb,5,none⟩ rfl (run_loadInt PAD.out.c5)) ?_;go_frame;refine Rg.lm 71 (.slice ta BL.length tc) ?_;go_frame;have HTD:=ι FTD.out.lt;have HWS:=ι KT.out.size;refine list_ask (some 72) rfl rfl _ _ (exec_fn 38 _ _ _ rfl rfl rfl (Ktcl5 _ _)) ?_;refine (chMake_f _ _ _ wd HRW.out).mono ?_;rintro e1 w211 ⟨cv,rfl,hcv,hb⟩;rw [hmk.out] at hcv ⊢;obtain ⟨e1,oa1,on1,oc1,ra1,rn1,rc1,rfl⟩:=hcv.ans.shape;refine ⟨_,rfl,?_⟩;go_frame;replace HRW:=ι (HRW.out.below hb);replace FTD:=ι (FTD.out.below hb);replace PAD:=ι (PAD.out.below hb);replace KT:=ι (Rg.acc KT.out hb);clear hb;have CV:=ι hcv;refine Rg.lm 65 (.tuple #[(.agg #[.int .i64 e1,.slice oa1 on1 oc1,.slice ra1 rn1 rc1]),.int .i64 mk]) ?_;go_frame
   refine Rg.lr 73 (exec_extract (v:=(.agg #[.int .i64 e1,.slice oa1 on1 oc1,.slice ra1 rn1 rc1])) _ _ rfl rfl rfl) ?_;go_frame;refine Rg.lr 74 (exec_extract (v:=.int .i64 mk) _ _ rfl rfl rfl) ?_;go_frame;refine Rg.lr 11 (exec_allocC rfl) ?_;go_frame;refine Rg.list_skip none rfl rfl (Rg.exec_store _ _ _ rfl _ rfl _ rfl (run_storeC _ _ _ _ _ _ _ (Tri.new w211 (.int .i64 0) (.slice none 0 0) (.slice none 0 0)))) ?_;go_frame;have htn:=(Tri.new w211 (.int .i64 0) (.slice none 0 0) (.slice none 0 0)).set (.int .i64 e1) (.slice oa1 on1 oc1) (.slice ra1 rn1 rc1);have hb:=((((Below.refl w211.heap.size w211).alloc (Nat.le_refl _) (.cells #[.int .i64 0,.slice none 0 0,.slice none 0 0] 33)).setCell (p:=⟨w211.heap.size,0,none⟩) (Nat.le_refl _) (.int .i64 e1)).setCell (p:=⟨w211.heap.size,1,none⟩) (Nat.le_refl _) (.slice oa1 on1 oc1)).setCell (p:=⟨w211.heap.size,2,none⟩) (Nat.le_refl _) (.slice ra1 rn1 rc1)
   generalize (((w211.alloc (.cells #[.int .i64 0,.slice none 0 0,.slice none 0 0] 33)).setCell ⟨w211.heap.size,0,none⟩ (.int .i64 e1)).setCell ⟨w211.heap.size,1,none⟩ (.slice oa1 on1 oc1)).setCell ⟨w211.heap.size,2,none⟩ (.slice ra1 rn1 rc1)=w212 at *;replace HRW:=ι (HRW.out.below hb);replace FTD:=ι (FTD.out.below hb);replace PAD:=ι (PAD.out.below hb);replace CV:=ι (CV.out.below hb);replace KT:=ι (Rg.acc KT.out hb);clear hb;have S1:=ι htn;clear htn;refine Rg.la 12 (.int .i64 mk) ?_;go_frame;clear hcv;go_upto_region 19 with (fail);refine Rg.wl ?_;refine Rg.lr 75 (Rg.exec_load (v:=(.agg #[.int .i64 e1,.slice oa1 on1 oc1,.slice ra1 rn1 rc1])) _ _ rfl ⟨w211.heap.size,0,none⟩ rfl (run_loadC3 S1.out.c0 S1.out.c1 S1.out.c2)) ?_;go_frame;refine Rg.list_skip none rfl rfl (Rg.exec_store _ _ _ rfl _ rfl _ rfl (run_storeC _ _ _ _ _ _ _ FTD.out)) ?_;go_frame;have htt:=FTD.out.set (.int .i64 e1) (.slice oa1 on1 oc1) (.slice ra1 rn1 rc1)
   have hkp:=Rg.Kp.trans (Rg.Kp.trans (Rg.Kp.of_setCell (M:=fun z=>z=w.heap.size) (w:=w212) (a:=⟨w.heap.size,0,none⟩) (v:=.int .i64 e1) rfl) (Rg.Kp.of_setCell (M:=fun z=>z=w.heap.size) (a:=⟨w.heap.size,1,none⟩) (v:=.slice oa1 on1 oc1) rfl) (fun _ _ e=>e)) (Rg.Kp.of_setCell (M:=fun z=>z=w.heap.size) (a:=⟨w.heap.size,2,none⟩) (v:=.slice ra1 rn1 rc1) rfl) (fun _ _ e=>e);have hkf:=((KT.out.setCell (p:=⟨w.heap.size,0,none⟩) (Nat.le_refl _) (.int .i64 e1)).setCell (p:=⟨w.heap.size,1,none⟩) (Nat.le_refl _) (.slice oa1 on1 oc1)).setCell (p:=⟨w.heap.size,2,none⟩) (Nat.le_refl _) (.slice ra1 rn1 rc1);have hcf:=(CV.out.kp hkp (fun z hz=>by have:=HTD.out; omega)).mono HWS.out;generalize ((w212.setCell ⟨w.heap.size,0,none⟩ (.int .i64 e1)).setCell ⟨w.heap.size,1,none⟩ (.slice oa1 on1 oc1)).setCell ⟨w.heap.size,2,none⟩ (.slice ra1 rn1 rc1)=w99 at *
   have HTT:=ι htt;have HFI:=ι (show BhPost e (bhL n RR) w (.returned (.agg #[.int .i64 e1,.slice oa1 on1 oc1,.slice ra1 rn1 rc1])) w99 from ⟨_,rfl,by rw [hBL.out,hmk.out]; exact hcf,hkf⟩);clear htt hkp hkf hcf;go_wp2;exact bodyPost_ret (results_cellC rfl _ rfl HTT.out) rfl HFI.out

theorem Kxcl0 (args:Array Value) (w:World):(callFunc 28 args).run Try.prog w=.ok (.enter 28 args) w:=by kernel_rfl
theorem Kxcl1 (args:Array Value) (w:World):(callFunc 42 args).run Try.prog w=.ok (.enter 42 args) w:=by kernel_rfl
theorem Kxcl4 (args:Array Value) (w:World):(callFunc 22 args).run Try.prog w=.ok (.enter 22 args) w:=by kernel_rfl
theorem Kxcl5 (args:Array Value) (w:World):(callFunc 23 args).run Try.prog w=.ok (.enter 23 args) w:=by kernel_rfl
theorem Kxcl6 (args:Array Value) (w:World):(callFunc 24 args).run Try.prog w=.ok (.enter 24 args) w:=by kernel_rfl
theorem Kxcl7 (args:Array Value) (w:World):(callFunc 9 args).run Try.prog w=.ok (.enter 9 args) w:=by kernel_rfl
theorem Kxcl8 (args:Array Value) (w:World):(callFunc 27 args).run Try.prog w=.ok (.enter 27 args) w:=by kernel_rfl
theorem HomG.swap {d e:Int} {LL M:List (List Int)} {n m:Nat} {A B:List (List Nat)} (h:HomG d e LL M n m A B):HomG e d M LL m n B A :=
 ⟨h.em,h.dn,h.mb,h.la,h.gb,h.ga,h.m1,h.n1,by have:=h.nm; omega,h.len.symm,by have:=h.len; have:=h.l16; omega⟩
noncomputable def isB (d e:Int) (L M:List (List Int)):Bool:=if homC d e L M=0 then dfB d.toNat (pO (d+e) (prL L M)) else false
noncomputable def knL (d e:Int) (L M:List (List Int)):List (List Int):=bhL e.toNat (pR (e+d) (prL M L))
noncomputable def krC (d e:Int) (L M:List (List Int)):Int:=if rtC d e L M=0 then mkchk d (knL d e L M) else 1
noncomputable def koL (d e:Int) (L M:List (List Int)):List (List Int):=if krC d e L M=0 then pO d (knL d e L M) else []
noncomputable def inB (d e:Int) (L M:List (List Int)):Bool:=if rtC d e L M=0 then !(koL d e L M).any (fun l=>decide (1<l.length)) else false
def IsPost (d e:Int) (L M:List (List Int)) (w:World) (ed:Ending) (w':World):Prop:=ed=.returned (.tuple #[.bool (isB d e L M),.int .i64 (homC d e L M)])∧Below w.heap.size w w'
def KrPost (d e:Int) (L M:List (List Int)) (w:World) (ed:Ending) (w':World):Prop:=∃ cv,ed=.returned (.tuple #[cv,.int .i64 (rtC d e L M)])∧ChAns w' d (knL d e L M) cv (krC d e L M)∧Below w.heap.size w w'
def InPost (d e:Int) (L M:List (List Int)) (w:World) (ed:Ending) (w':World):Prop:=ed=.returned (.tuple #[.bool (inB d e L M),.int .i64 (rtC d e L M)])∧Below w.heap.size w w'
theorem ChAns.ko {d e:Int} {L M:List (List Int)} {w:World} {x ov rv:Value} (h:ChAns w d (knL d e L M) (.agg #[x,ov,rv]) (krC d e L M)):Rg.Rows w ov (koL d e L M)∧(∀ l∈koL d e L M,1≤l.length):=by
 by_cases h0:krC d e L M=0
 ·rw [h0] at h
  obtain ⟨h1,N,gs,hp⟩:=h.pcv;unfold koL;rw [if_pos h0];refine ⟨h1.1,fun l hl=>?_⟩;obtain ⟨s,hs,rfl⟩:=List.mem_map.1 hl;obtain ⟨i,hi,rfl⟩:=List.getElem_of_mem hs
  have hiN:i<N:=by rw [← hp.ch.lenO]; exact hi
  have hm:i∈(pOR d (knL d e L M)).1.getD i []:=(hp.ch.orb i i hiN).2 ⟨Ma.oneN N,⟨.one,Cm.Fx.one (by omega)⟩,Cm.ap_one hiN⟩;rw [List.getD_eq_getElem?_getD,List.getElem?_eq_getElem hi] at hm;rw [Ma.len_ofN];exact List.length_pos_of_mem hm
 ·rcases h with ⟨_,h⟩ | ⟨h,_⟩
  ·injection h with h
   injection h with h
   injection h with _ h
   injection h with h1 _
   subst h1;unfold koL;rw [if_neg h0];exact ⟨Rg.Rows.nil w none 0 (Nat.zero_le _),fun l hl=>by simp at hl⟩
  ·exact absurd h h0
theorem koL_len {d e:Int} {L M:List (List Int)}:(koL d e L M).length≤1000:=by
 unfold koL
 by_cases h0:krC d e L M=0
 ·rw [if_pos h0]
  unfold pO;rw [List.length_map];unfold pOR
  split
  ·rename_i hx
   obtain ⟨n,gs,e1,e2,e3⟩:=hx.choose_spec;rw [e3.lenO];unfold krC at h0
   split at h0
   ·unfold mkchk at h0
    split at h0
    ·omega
    ·exact absurd h0 (by decide)
   ·exact absurd h0 (by decide)
  ·simp
 ·rw [if_neg h0]; simp
theorem exec_fnv1 {o:Oper} {a:Act} {w:World} {u1:Value} (F:FuncId) (x f:Operand) (tys:Array TypeId) (ho:o.op=.call { callee:=.value f,args:=#[x],argTypes:=tys }) (hf:a.eval f=.func (.func F) #[] #[]) (hx:a.eval x=u1)
  (hF:(callFunc F #[u1]).run Try.prog w=.ok (.enter F #[u1]) w):(execOp a.eval o).run Try.prog w=.ok (.enter F #[u1]) w:=by
 unfold execOp;simp [ho,hx,hf,resolve,invoke,Deferred.ofValue,hF]
theorem inj1_any {a:Option Addr} {n c:Nat} {b:Bool} {w:World} (hb:Hid (decide (1<n)=b)) :
  Calls Try.prog 28 #[.slice a n c] w fun ed w'=>ed=.returned (.bool b)∧Below w.heap.size w w':=by
 have K:=ι (Below.refl w.heap.size w)
 go_enter Try.func28,Try.ntmps28
 cases b
 case false =>
  have h1:=of_decide_eq_false hb.out;go_upto_region 0 with (fail);refine Rg.wl ?_;refine Rg.la 2 (.bool false) ?_;go_frame;go_upto_region 1 with (fail);refine Rg.wl ?_;refine Rg.lm 3 (.slice a n c) ?_;go_frame;refine Rg.lr 4 (exec_len _ _ _ rfl Try.underlying38 _ _ _ rfl) ?_;go_frame;refine Rg.lr 5 (exec_bin (R:=.bool false) .gtr _ _ _ rfl rfl rfl (b_gtr _ (decide_eq_false (by omega)))) ?_;go_frame;refine Rg.la 2 (.bool false) ?_;go_frame;go_wp2;go_ret;exact ⟨rfl,K.out⟩
 case true =>
  have h1:=of_decide_eq_true hb.out;go_upto_region 0 with (fail);refine Rg.wl ?_;refine Rg.la 2 (.bool false) ?_;go_frame;go_upto_region 1 with (fail);refine Rg.wl ?_;refine Rg.lm 3 (.slice a n c) ?_;go_frame;refine Rg.lr 4 (exec_len _ _ _ rfl Try.underlying38 _ _ _ rfl) ?_;go_frame;refine Rg.lr 5 (exec_bin (R:=.bool true) .gtr _ _ _ rfl rfl rfl (b_gtr _ (decide_eq_true (by omega)))) ?_;go_frame;refine Rg.la 2 (.bool true) ?_;go_frame;go_wp2;go_ret;exact ⟨rfl,K.out⟩
def IxLPost (O:List (List Int)) (w:World) (ed:Ending) (w':World):Prop:=∃ r:Int,ed=.returned (.int .i64 r)∧(0≤r↔O.any (fun l=>decide (1<l.length))=true)∧Below w.heap.size w w'
theorem indexLen_any {v:Value} {O:List (List Int)} {w:World} (h:Rg.Rows w v O) (hl:O.length≤1000) :
  Calls Try.prog 42 #[v,(.func (.func 28) #[] #[])] w (IxLPost O w):=by
 obtain ⟨oa,oc,rfl,-⟩:=h.shape;have HO:=ι h;have HL:=ι hl;have K:=ι (Below.refl w.heap.size w);clear h hl
 go_enter Try.func42,Try.ntmps42
 go_upto_region 0 with (fail);refine Rg.wl ?_;refine Rg.la 4 (.int .i64 ((0:Nat):Int)) ?_;go_frame;go_upto_region 1 with (fail);refine Rg.wl ?_;refine Rg.lm 6 (.slice oa O.length oc) ?_;go_frame;refine Rg.lr 7 (exec_len _ _ _ rfl Try.underlying30 _ _ _ rfl) ?_;go_frame;refine Rg.lm 8 (.int .i64 ((0:Nat):Int)) ?_;go_frame;have HS:=ι (show ∀ j (h:j<O.length),j<0→O[j].length≤1 from fun j _ h=>absurd h (Nat.not_lt_zero _));go_wp2
 go_loopw [8] (fun iv wr=>∃ i:Nat,iv=.int .i64 ((i:Nat):Int)∧i≤O.length∧Hid (∀ j (h:j<O.length),j<i→O[j].length≤1)∧Hid (Below w.heap.size w wr)) (fun iv _=>O.length - (intOf iv).toNat)
 case atStart=>exact ⟨0,rfl,Nat.zero_le _,HS,K⟩
 case round =>
  clear K HS;obtain ⟨i,rfl,hi,HS,K⟩:=hrel;generalize wr=wd at *;have hl:O.length≤1000:=HL.out
  by_cases hil:i<O.length
  case neg =>
   have HV:=ι (show (0:Int)≤-1↔O.any (fun l=>decide (1<l.length))=true from by
    refine ⟨fun h=>by omega,fun h=>?_⟩;obtain ⟨l,hl,h2⟩:=List.any_eq_true.1 h;obtain ⟨j,hj,rfl⟩:=List.getElem_of_mem hl;have h3:=HS.out j hj (by omega);have h4:=of_decide_eq_true h2
    omega)
   go_upto_region 2 with (fail);refine Rg.wl ?_;refine Rg.lr 9 (exec_bin (R:=.bool false) .lss _ _ _ rfl rfl rfl (b_lss _ (decide_eq_false (by omega)))) ?_;go_frame;go_upto_region 7 with (fail);refine Rg.wl ?_;refine Rg.la 4 (.int .i64 (-1)) ?_;go_frame;go_wp2;go_ret;exact ⟨-1,rfl,HV.out,K.out⟩
  case pos =>
   have HIL:=ι hil;obtain ⟨ob,oo,ua,uc,e1,hob,hoc,hoi⟩:=rowsI_get HO.out hil;subst e1;obtain ⟨l,hll⟩:∃ l,Hid (O[i]'hil=l):=⟨_,ι rfl⟩;rw [hll.out] at hoc hoi;have CU:=ι (CL.mk hoc hob);obtain ⟨b,hb⟩:∃ b,Hid (decide (1<l.length)=b):=⟨_,ι rfl⟩;clear hoc hob hoi
   cases b
   case false =>
    have H1:=ι (of_decide_eq_false hb.out);go_upto_region 2 with (fail);refine Rg.wl ?_;refine Rg.lr 9 (exec_bin (R:=.bool true) .lss _ _ _ rfl rfl rfl (b_lss _ (decide_eq_true (by omega)))) ?_;go_frame;go_upto_region 3 with (fail);refine Rg.wl ?_;refine Rg.lm 10 (.int .i64 ((i:Nat):Int)) ?_;go_frame;refine Rg.la 5 (.int .i64 ((i:Nat):Int)) ?_;go_frame;go_upto_region 4 with (fail);refine Rg.wl ?_;refine Rg.lm 11 ((.func (.func 28) #[] #[])) ?_;go_frame;refine Rg.lm 12 (.slice (some ⟨ob,oo,none⟩) O.length oc) ?_;go_frame;refine Rg.lm 13 (.int .i64 ((i:Nat):Int)) ?_;go_frame;refine Rg.lr 14 (exec_indexS slIntss _ _ rfl ob (oo) (O.length) oc (i) rfl rfl HIL.out) ?_;go_frame;refine Rg.lr 15 (Rg.exec_load (v:=.slice ua l.length uc) _ _ rfl ⟨ob,oo+i,none⟩ rfl (Rg.run_loadSl _ _ Try.underlying38 ((Below.cell (p:=⟨ob,oo+i,none⟩) K.out CU.out.lt).trans CU.out.cell))) ?_;go_frame
    refine list_ask (some 16) rfl rfl _ _ (exec_fnv1 28 _ _ _ rfl rfl rfl (Kxcl0 _ _)) ?_;refine (inj1_any hb).mono ?_;rintro e1 w31 ⟨rfl,hb⟩;refine ⟨_,rfl,?_⟩;go_frame;replace K:=ι (Rg.acc K.out hb);clear hb
    have HS2:=ι (show ∀ j (h:j<O.length),j<i+1→O[j].length≤1 from fun j h hj=>by
     by_cases e:j=i
     ·subst e; rw [hll.out]; have:=H1.out; omega
     ·exact HS.out j h (by omega))
    go_upto_region 6 with (fail);refine Rg.wl ?_;refine Rg.lr 18 (exec_bin (R:=.int .i64 (((i+1):Nat):Int)) .add _ _ _ rfl rfl rfl (b_add _ (by omega) (by omega))) ?_;go_frame;refine Rg.lm 8 (.int .i64 (((i+1):Nat):Int)) ?_;go_frame;go_wp2
    go_roundw
    case rel=>exact ⟨i+1,by go_num,HIL.out,HS2,K⟩
    case measure=>simp [intOf]; have:=HIL.out; omega
   case true =>
    have H1:=ι (of_decide_eq_true hb.out);go_upto_region 2 with (fail);refine Rg.wl ?_;refine Rg.lr 9 (exec_bin (R:=.bool true) .lss _ _ _ rfl rfl rfl (b_lss _ (decide_eq_true (by omega)))) ?_;go_frame;go_upto_region 3 with (fail);refine Rg.wl ?_;refine Rg.lm 10 (.int .i64 ((i:Nat):Int)) ?_;go_frame;refine Rg.la 5 (.int .i64 ((i:Nat):Int)) ?_;go_frame;go_upto_region 4 with (fail);refine Rg.wl ?_;refine Rg.lm 11 ((.func (.func 28) #[] #[])) ?_;go_frame;refine Rg.lm 12 (.slice (some ⟨ob,oo,none⟩) O.length oc) ?_;go_frame;refine Rg.lm 13 (.int .i64 ((i:Nat):Int)) ?_;go_frame;refine Rg.lr 14 (exec_indexS slIntss _ _ rfl ob (oo) (O.length) oc (i) rfl rfl HIL.out) ?_;go_frame;refine Rg.lr 15 (Rg.exec_load (v:=.slice ua l.length uc) _ _ rfl ⟨ob,oo+i,none⟩ rfl (Rg.run_loadSl _ _ Try.underlying38 ((Below.cell (p:=⟨ob,oo+i,none⟩) K.out CU.out.lt).trans CU.out.cell))) ?_;go_frame
    refine list_ask (some 16) rfl rfl _ _ (exec_fnv1 28 _ _ _ rfl rfl rfl (Kxcl0 _ _)) ?_;refine (inj1_any hb).mono ?_;rintro e1 w42 ⟨rfl,hb⟩;refine ⟨_,rfl,?_⟩;go_frame;replace K:=ι (Rg.acc K.out hb);clear hb
    have HV:=ι (show (0:Int)≤((i:Nat):Int)↔O.any (fun l=>decide (1<l.length))=true from
     ⟨fun _=>List.any_eq_true.2 ⟨l,by rw [← hll.out]; exact List.getElem_mem _,decide_eq_true H1.out⟩,fun _=>by omega⟩)
    go_upto_region 5 with (fail);refine Rg.wl ?_;refine Rg.lm 17 (.int .i64 ((i:Nat):Int)) ?_;go_frame;refine Rg.la 4 (.int .i64 ((i:Nat):Int)) ?_;go_frame;go_wp2;go_ret;exact ⟨_,rfl,HV.out,K.out⟩
theorem containsLen_any {v:Value} {O:List (List Int)} {w:World} {b:Bool} (h:Rg.Rows w v O) (hl:O.length≤1000) (hbo:Hid (O.any (fun l=>decide (1<l.length))=b)) :
  Calls Try.prog 27 #[v,(.func (.func 28) #[] #[])] w fun ed w'=>ed=.returned (.bool b)∧Below w.heap.size w w':=by
 obtain ⟨oa,oc,rfl,-⟩:=h.shape;have HO:=ι h;have HL:=ι hl;have K:=ι (Below.refl w.heap.size w);clear h hl
 go_enter Try.func27,Try.ntmps27
 cases b
 case false =>
  go_upto_region 0 with (fail);refine Rg.wl ?_;refine Rg.la 4 (.bool false) ?_;go_frame;go_upto_region 1 with (fail);refine Rg.wl ?_;refine Rg.lm 5 (.slice oa O.length oc) ?_;go_frame;refine Rg.lm 6 ((.func (.func 28) #[] #[])) ?_;go_frame;refine list_ask (some 7) rfl rfl _ _ (exec_fn 42 _ _ _ rfl rfl rfl (Kxcl1 _ _)) ?_;refine (indexLen_any HO.out HL.out).mono ?_;rintro e1 w6 ⟨r,rfl,hr,hb⟩;rw [hbo.out] at hr;have hr2:¬ 0≤r:=fun h=>Bool.false_ne_true (hr.1 h);clear hr;refine ⟨_,rfl,?_⟩;go_frame;replace HO:=ι (HO.out.below hb);replace K:=ι (Rg.acc K.out hb);clear hb;refine Rg.lr 8 (exec_bin (R:=.bool false) .geq _ _ _ rfl rfl rfl (b_geq _ (decide_eq_false (by omega)))) ?_;go_frame;refine Rg.la 4 (.bool false) ?_;go_frame;go_wp2;go_ret;exact ⟨rfl,K.out⟩
 case true =>
  go_upto_region 0 with (fail);refine Rg.wl ?_;refine Rg.la 4 (.bool false) ?_;go_frame;go_upto_region 1 with (fail);refine Rg.wl ?_;refine Rg.lm 5 (.slice oa O.length oc) ?_;go_frame;refine Rg.lm 6 ((.func (.func 28) #[] #[])) ?_;go_frame;refine list_ask (some 7) rfl rfl _ _ (exec_fn 42 _ _ _ rfl rfl rfl (Kxcl1 _ _)) ?_;refine (indexLen_any HO.out HL.out).mono ?_;rintro e1 w12 ⟨r,rfl,hr,hb⟩;rw [hbo.out] at hr;have hr2:0≤r:=hr.2 rfl;clear hr;refine ⟨_,rfl,?_⟩;go_frame;replace HO:=ι (HO.out.below hb);replace K:=ι (Rg.acc K.out hb);clear hb;refine Rg.lr 8 (exec_bin (R:=.bool true) .geq _ _ _ rfl rfl rfl (b_geq _ (decide_eq_true (by omega)))) ?_;go_frame;refine Rg.la 4 (.bool true) ?_;go_frame;go_wp2;go_ret;exact ⟨rfl,K.out⟩
theorem Is_hom {d e:Int} {gv hv:Value} {L M:List (List Int)} {w:World} (h:Rg.Rows w gv L) (h':Rg.Rows w hv M) :
  Calls Try.prog 7 #[.agg #[.int .i64 d,gv],.agg #[.int .i64 e,hv]] w (IsPost d e L M w):=by
 obtain ⟨ga,gc,rfl,-⟩:=h.shape;obtain ⟨ha,hc,rfl,-⟩:=h'.shape;have HG:=ι h;have HH:=ι h';have K:=ι (Below.refl w.heap.size w);clear h h'
 go_enter Try.func7,Try.ntmps7
 go_upto_region 0 with (fail);refine Rg.wl ?_;have hbx:=box2t w (.int .i64 d) (.slice ga L.length gc) 24;refine Rg.lr 2 (Rg.exec_box _ _ rfl rfl) ?_;go_frame;have hb:=(Below.refl w.heap.size w).alloc (Nat.le_refl _) (.cells #[.int .i64 d,.slice ga L.length gc] 24);generalize w.alloc (.cells #[.int .i64 d,.slice ga L.length gc] 24)=w1 at *;replace HG:=ι (HG.out.below hb);replace HH:=ι (HH.out.below hb);replace K:=ι (Rg.acc K.out hb);clear hb;have G0:=ι hbx.1;have G1:=ι hbx.2;clear hbx;have hbx:=box2t w1 (.int .i64 e) (.slice ha M.length hc) 24;refine Rg.lr 3 (Rg.exec_box _ _ rfl rfl) ?_;go_frame;have hb:=(Below.refl w1.heap.size w1).alloc (Nat.le_refl _) (.cells #[.int .i64 e,.slice ha M.length hc] 24);generalize w1.alloc (.cells #[.int .i64 e,.slice ha M.length hc] 24)=w2 at *;replace HG:=ι (HG.out.below hb);replace HH:=ι (HH.out.below hb);replace G0:=ι (G0.out.below hb)
 replace G1:=ι (G1.out.below hb);replace K:=ι (Rg.acc K.out hb);clear hb;have H0:=ι hbx.1;have H1:=ι hbx.2;clear hbx;refine Rg.la 4 (.bool false) ?_;go_frame;refine Rg.la 5 (.int .i64 0) ?_;go_frame;obtain ⟨c,hc0⟩:∃ c,Hid (homC d e L M=c):=⟨_,ι rfl⟩
 by_cases h0:c=0
 case neg =>
  have HR:=ι (show isB d e L M=false by unfold isB; rw [if_neg (by rw [hc0.out]; exact h0)]);go_upto_region 1 with (fail);refine Rg.wl ?_;refine Rg.lr 9 (Rg.exec_load (v:=.agg #[.int .i64 d,.slice ga L.length gc]) _ _ rfl ⟨w.heap.size,0,none⟩ rfl (run_loadG G0.out.cell G1.out.cell)) ?_;go_frame;refine Rg.lr 10 (Rg.exec_load (v:=.agg #[.int .i64 e,.slice ha M.length hc]) _ _ rfl ⟨w1.heap.size,0,none⟩ rfl (run_loadG H0.out.cell H1.out.cell)) ?_;go_frame;refine list_ask (some 11) rfl rfl _ _ (exec_fn 18 _ _ _ rfl rfl rfl (Kvcl0 _ _)) ?_;refine (of_bad HG.out HH.out hc0.out h0).mono ?_;rintro e1 w3 ⟨rfl,hb⟩;refine ⟨_,rfl,?_⟩;go_frame;replace HG:=ι (HG.out.below hb);replace HH:=ι (HH.out.below hb);replace G0:=ι (G0.out.below hb);replace G1:=ι (G1.out.below hb);replace H0:=ι (H0.out.below hb);replace H1:=ι (H1.out.below hb);replace K:=ι (Rg.acc K.out hb);clear hb
  refine Rg.lm 8 (.tuple #[(.pointer none),.int .i64 c]) ?_;go_frame;refine Rg.lr 12 (exec_extract (v:=(.pointer none)) _ _ rfl rfl rfl) ?_;go_frame;refine Rg.lr 13 (exec_extract (v:=.int .i64 c) _ _ rfl rfl rfl) ?_;go_frame;refine Rg.la 6 ((.pointer none)) ?_;go_frame;refine Rg.la 7 (.int .i64 c) ?_;go_frame;go_upto_region 2 with (fail);refine Rg.wl ?_;refine Rg.lm 14 (.int .i64 c) ?_;go_frame;refine Rg.lr 15 (exec_bin (R:=.bool true) .neq _ _ _ rfl rfl rfl (b_neqB _ (decide_eq_true h0))) ?_;go_frame;go_upto_region 3 with (fail);refine Rg.wl ?_;refine Rg.lm 16 (.int .i64 c) ?_;go_frame;refine Rg.la 4 (.bool false) ?_;go_frame;refine Rg.la 5 (.int .i64 c) ?_;go_frame;go_wp2
  go_ret2
  exact ⟨by rw [HR.out,hc0.out]; rfl,K.out⟩
 case pos =>
  have HZ:=ι (hc0.out.trans h0);obtain ⟨n,m,A,B,hmg⟩:=homC_get HZ.out;have HMG:=ι hmg;obtain ⟨bd,hbd⟩:∃ b,Hid (dfB n (pO (d+e) (prL L M))=b):=⟨_,ι rfl⟩;have HR:=ι (show isB d e L M=bd by unfold isB; rw [if_pos HZ.out,show d.toNat=n by have:=hmg.dn; omega,hbd.out]);clear hmg;go_upto_region 1 with (fail);refine Rg.wl ?_;refine Rg.lr 9 (Rg.exec_load (v:=.agg #[.int .i64 d,.slice ga L.length gc]) _ _ rfl ⟨w.heap.size,0,none⟩ rfl (run_loadG G0.out.cell G1.out.cell)) ?_;go_frame;refine Rg.lr 10 (Rg.exec_load (v:=.agg #[.int .i64 e,.slice ha M.length hc]) _ _ rfl ⟨w1.heap.size,0,none⟩ rfl (run_loadG H0.out.cell H1.out.cell)) ?_;go_frame;refine list_ask (some 11) rfl rfl _ _ (exec_fn 18 _ _ _ rfl rfl rfl (Kvcl0 _ _)) ?_;refine (of_ok HG.out HH.out HZ.out).mono ?_;rintro e1 w14 ⟨pb,oa,oc,ra,rc,rfl,hpa,hb⟩;refine ⟨_,rfl,?_⟩;go_frame;replace HG:=ι (HG.out.below hb)
  replace HH:=ι (HH.out.below hb);replace G0:=ι (G0.out.below hb);replace G1:=ι (G1.out.below hb);replace H0:=ι (H0.out.below hb);replace H1:=ι (H1.out.below hb);replace K:=ι (Rg.acc K.out hb);clear hb;have PA:=ι hpa;refine Rg.lm 8 (.tuple #[.pointer (some ⟨pb,0,none⟩),.int .i64 0]) ?_;go_frame;refine Rg.lr 12 (exec_extract (v:=.pointer (some ⟨pb,0,none⟩)) _ _ rfl rfl rfl) ?_;go_frame;refine Rg.lr 13 (exec_extract (v:=.int .i64 0) _ _ rfl rfl rfl) ?_;go_frame;refine Rg.la 6 (.pointer (some ⟨pb,0,none⟩)) ?_;go_frame;refine Rg.la 7 (.int .i64 0) ?_;go_frame;clear hpa;go_upto_region 2 with (fail);refine Rg.wl ?_;refine Rg.lm 14 (.int .i64 0) ?_;go_frame;refine Rg.lr 15 (exec_bin (R:=.bool false) .neq _ _ _ rfl rfl rfl (b_neqB _ (decide_eq_false (fun q=>q rfl)))) ?_;go_frame;go_upto_region 4 with (fail);refine Rg.wl ?_;refine Rg.lm 17 (.pointer (some ⟨pb,0,none⟩)) ?_;go_frame
  refine list_ask (some 18) rfl rfl _ _ (exec_fn1 19 _ _ rfl rfl (Kvcl1 _ _)) ?_;refine (defined_any PA.out HMG.out).mono ?_;rintro e1 w15 ⟨rfl,hb⟩;rw [hbd.out];refine ⟨_,rfl,?_⟩;go_frame;replace HG:=ι (HG.out.below hb);replace HH:=ι (HH.out.below hb);replace G0:=ι (G0.out.below hb);replace G1:=ι (G1.out.below hb);replace H0:=ι (H0.out.below hb);replace H1:=ι (H1.out.below hb);replace PA:=ι (PA.out.below hb);replace K:=ι (Rg.acc K.out hb);clear hb;refine Rg.la 4 (.bool bd) ?_;go_frame;refine Rg.la 5 (.int .i64 ((0:Nat):Int)) ?_;go_frame;go_wp2
  go_ret2
  exact ⟨by rw [HR.out,HZ.out]; rfl,K.out⟩
theorem Kernel_hom {d e:Int} {gv hv:Value} {L M:List (List Int)} {w:World} (h:Rg.Rows w gv L) (h':Rg.Rows w hv M) :
  Calls Try.prog 9 #[.agg #[.int .i64 d,gv],.agg #[.int .i64 e,hv]] w (KrPost d e L M w):=by
 obtain ⟨ga,gc,rfl,-⟩:=h.shape;obtain ⟨ha,hc,rfl,-⟩:=h'.shape;have HG:=ι h;have HH:=ι h';have K:=ι (Below.refl w.heap.size w);clear h h'
 go_enter Try.func9,Try.ntmps9
 go_upto_region 0 with (fail);refine Rg.wl ?_;have hbx:=box2t w (.int .i64 d) (.slice ga L.length gc) 24;refine Rg.lr 2 (Rg.exec_box _ _ rfl rfl) ?_;go_frame;have hb:=(Below.refl w.heap.size w).alloc (Nat.le_refl _) (.cells #[.int .i64 d,.slice ga L.length gc] 24);generalize w.alloc (.cells #[.int .i64 d,.slice ga L.length gc] 24)=w1 at *;replace HG:=ι (HG.out.below hb);replace HH:=ι (HH.out.below hb);replace K:=ι (Rg.acc K.out hb);clear hb;have G0:=ι hbx.1;have G1:=ι hbx.2;clear hbx;have hbx:=box2t w1 (.int .i64 e) (.slice ha M.length hc) 24;refine Rg.lr 3 (Rg.exec_box _ _ rfl rfl) ?_;go_frame;have hb:=(Below.refl w1.heap.size w1).alloc (Nat.le_refl _) (.cells #[.int .i64 e,.slice ha M.length hc] 24);generalize w1.alloc (.cells #[.int .i64 e,.slice ha M.length hc] 24)=w2 at *;replace HG:=ι (HG.out.below hb);replace HH:=ι (HH.out.below hb);replace G0:=ι (G0.out.below hb)
 replace G1:=ι (G1.out.below hb);replace K:=ι (Rg.acc K.out hb);clear hb;have H0:=ι hbx.1;have H1:=ι hbx.2;clear hbx;have HTDL:=ι (show w.heap.size≤w2.heap.size from K.out.size);have hnew:=Tri.new w2 (.int .i64 0) (.slice none 0 0) (.slice none 0 0);refine Rg.lr 4 (exec_allocC rfl) ?_;go_frame;have hb:=(Below.refl w2.heap.size w2).alloc (Nat.le_refl _) (.cells #[.int .i64 0,.slice none 0 0,.slice none 0 0] 33);generalize w2.alloc (.cells #[.int .i64 0,.slice none 0 0,.slice none 0 0] 33)=w3 at *;replace HG:=ι (HG.out.below hb);replace HH:=ι (HH.out.below hb);replace G0:=ι (G0.out.below hb);replace G1:=ι (G1.out.below hb);replace H0:=ι (H0.out.below hb);replace H1:=ι (H1.out.below hb);replace K:=ι (Rg.acc K.out hb);clear hb;have FT:=ι hnew;clear hnew;refine Rg.la 5 (.int .i64 0) ?_;go_frame;obtain ⟨c,hc0⟩:∃ c,Hid (rtC d e L M=c):=⟨_,ι rfl⟩
 by_cases h0:c=0
 case neg =>
  have HK:=ι (show krC d e L M=1 by unfold krC; rw [if_neg (by rw [hc0.out]; exact h0)]);go_upto_region 1 with (fail);refine Rg.wl ?_;refine Rg.lr 9 (Rg.exec_load (v:=.agg #[.int .i64 d,.slice ga L.length gc]) _ _ rfl ⟨w.heap.size,0,none⟩ rfl (run_loadG G0.out.cell G1.out.cell)) ?_;go_frame;refine Rg.lr 10 (Rg.exec_load (v:=.agg #[.int .i64 e,.slice ha M.length hc]) _ _ rfl ⟨w1.heap.size,0,none⟩ rfl (run_loadG H0.out.cell H1.out.cell)) ?_;go_frame;refine list_ask (some 11) rfl rfl _ _ (exec_fn 22 _ _ _ rfl rfl rfl (Kxcl4 _ _)) ?_;refine (right_any' HG.out HH.out).mono ?_;rintro e1 w4 ⟨pv,rfl,_,hb⟩;rw [hc0.out];refine ⟨_,rfl,?_⟩;go_frame;replace HG:=ι (HG.out.below hb);replace HH:=ι (HH.out.below hb);replace G0:=ι (G0.out.below hb);replace G1:=ι (G1.out.below hb);replace H0:=ι (H0.out.below hb);replace H1:=ι (H1.out.below hb);replace FT:=ι (FT.out.below hb)
  replace K:=ι (Rg.acc K.out hb);clear hb;refine Rg.lm 8 (.tuple #[pv,.int .i64 c]) ?_;go_frame;refine Rg.lr 12 (exec_extract (v:=pv) _ _ rfl rfl rfl) ?_;go_frame;refine Rg.lr 13 (exec_extract (v:=.int .i64 c) _ _ rfl rfl rfl) ?_;go_frame;refine Rg.la 6 (pv) ?_;go_frame;refine Rg.la 7 (.int .i64 c) ?_;go_frame;go_upto_region 2 with (fail);refine Rg.wl ?_;refine Rg.lm 14 (.int .i64 c) ?_;go_frame;refine Rg.lr 15 (exec_bin (R:=.bool true) .neq _ _ _ rfl rfl rfl (b_neqB _ (decide_eq_true h0))) ?_;go_frame;go_upto_region 3 with (fail);refine Rg.wl ?_;refine Rg.lr 16 (exec_buildC0 rfl) ?_;go_frame;refine Rg.lm 17 (.int .i64 c) ?_;go_frame;refine Rg.list_skip none rfl rfl (Rg.exec_store _ _ _ rfl _ rfl _ rfl (run_storeC _ _ _ _ _ _ _ FT.out)) ?_;go_frame;refine Rg.la 5 (.int .i64 c) ?_;go_frame;have hfz:=fin_zero FT.out K.out HTDL.out;generalize ((w4.setCell ⟨w2.heap.size,0,none⟩ (.int .i64 0)).setCell ⟨w2.heap.size,1,none⟩ (.slice none 0 0)).setCell ⟨w2.heap.size,2,none⟩ (.slice none 0 0)=w99 at *
  have HFI:=ι (show KrPost d e L M w (.returned (.tuple #[zeroC,.int .i64 c])) w99 from ⟨_,by rw [hc0.out],.inl ⟨by rw [HK.out]; decide,rfl⟩,hfz.2⟩);have HTT:=ι hfz.1;clear hfz;go_wp2;exact bodyPost_ret (results_cellC2 (p:=4) (u:=5) rfl _ rfl rfl HTT.out) rfl HFI.out
 case pos =>
  have HZ:=ι (hc0.out.trans h0)
  have HHC:=ι (show homC d e L M=0 from by
   by_cases q:homC d e L M=0
   ·exact q
   ·have h5:=rtC_bad q
    rw [HZ.out] at h5
    exact h5.symm)
  obtain ⟨n,m,A,B,hmg⟩:=homC_get HHC.out;have HSW:=ι hmg.swap;obtain ⟨mk,hmk⟩:∃ c,Hid (mkchk d (knL d e L M)=c):=⟨_,ι rfl⟩;have HK:=ι (show krC d e L M=mk by unfold krC; rw [if_pos HZ.out,hmk.out]);have HKN:=ι (show bhL m (pR (e+d) (prL M L))=knL d e L M by unfold knL; rw [show e.toNat=m by have:=hmg.em; omega]);clear hmg;go_upto_region 1 with (fail);refine Rg.wl ?_;refine Rg.lr 9 (Rg.exec_load (v:=.agg #[.int .i64 d,.slice ga L.length gc]) _ _ rfl ⟨w.heap.size,0,none⟩ rfl (run_loadG G0.out.cell G1.out.cell)) ?_;go_frame;refine Rg.lr 10 (Rg.exec_load (v:=.agg #[.int .i64 e,.slice ha M.length hc]) _ _ rfl ⟨w1.heap.size,0,none⟩ rfl (run_loadG H0.out.cell H1.out.cell)) ?_;go_frame;refine list_ask (some 11) rfl rfl _ _ (exec_fn 22 _ _ _ rfl rfl rfl (Kxcl4 _ _)) ?_;refine (right_any' HG.out HH.out).mono ?_;rintro e1 w15 ⟨pv,rfl,hpv,hb⟩;rw [HZ.out];obtain ⟨pb,oa,oc,ra,rc,rfl,hpa⟩:=hpv HHC.out
  refine ⟨_,rfl,?_⟩;go_frame;replace HG:=ι (HG.out.below hb);replace HH:=ι (HH.out.below hb);replace G0:=ι (G0.out.below hb);replace G1:=ι (G1.out.below hb);replace H0:=ι (H0.out.below hb);replace H1:=ι (H1.out.below hb);replace FT:=ι (FT.out.below hb);replace K:=ι (Rg.acc K.out hb);clear hb;have PA:=ι hpa;refine Rg.lm 8 (.tuple #[.pointer (some ⟨pb,0,none⟩),.int .i64 0]) ?_;go_frame;refine Rg.lr 12 (exec_extract (v:=.pointer (some ⟨pb,0,none⟩)) _ _ rfl rfl rfl) ?_;go_frame;refine Rg.lr 13 (exec_extract (v:=.int .i64 0) _ _ rfl rfl rfl) ?_;go_frame;refine Rg.la 6 (.pointer (some ⟨pb,0,none⟩)) ?_;go_frame;refine Rg.la 7 (.int .i64 0) ?_;go_frame;clear hpv hpa;go_upto_region 2 with (fail);refine Rg.wl ?_;refine Rg.lm 14 (.int .i64 0) ?_;go_frame;refine Rg.lr 15 (exec_bin (R:=.bool false) .neq _ _ _ rfl rfl rfl (b_neqB _ (decide_eq_false (fun q=>q rfl)))) ?_;go_frame
  go_upto_region 4 with (fail);refine Rg.wl ?_;refine Rg.lm 18 (.pointer (some ⟨pb,0,none⟩)) ?_;go_frame;refine list_ask (some 19) rfl rfl _ _ (exec_fn1 23 _ _ rfl rfl (Kxcl5 _ _)) ?_;refine (turned_any PA.out HHC.out).mono ?_;rintro e1 w16 ⟨qb,oa2,oc2,ra2,rc2,rfl,hqa,hb⟩;refine ⟨_,rfl,?_⟩;go_frame;replace HG:=ι (HG.out.below hb);replace HH:=ι (HH.out.below hb);replace G0:=ι (G0.out.below hb);replace G1:=ι (G1.out.below hb);replace H0:=ι (H0.out.below hb);replace H1:=ι (H1.out.below hb);replace FT:=ι (FT.out.below hb);replace PA:=ι (PA.out.below hb);replace K:=ι (Rg.acc K.out hb);clear hb;have QA:=ι hqa;clear hqa;have HTD:=ι FT.out.lt;refine list_ask (some 20) rfl rfl _ _ (exec_fn1 24 _ _ rfl rfl (Kxcl6 _ _)) ?_;refine (behind_any QA.out HSW.out).mono ?_;rintro e1 w17 ⟨cv,rfl,hcv,hb⟩;rw [HKN.out,hmk.out] at hcv;obtain ⟨e1,oa1,on1,oc1,ra1,rn1,rc1,rfl⟩:=hcv.ans.shape
  refine ⟨_,rfl,?_⟩;go_frame;replace HG:=ι (HG.out.below hb);replace HH:=ι (HH.out.below hb);replace G0:=ι (G0.out.below hb);replace G1:=ι (G1.out.below hb);replace H0:=ι (H0.out.below hb);replace H1:=ι (H1.out.below hb);replace FT:=ι (FT.out.below hb);replace PA:=ι (PA.out.below hb);replace QA:=ι (QA.out.below hb);replace K:=ι (Rg.acc K.out hb);clear hb;have CV:=ι hcv;refine Rg.list_skip none rfl rfl (Rg.exec_store _ _ _ rfl _ rfl _ rfl (run_storeC _ _ _ _ _ _ _ FT.out)) ?_;go_frame;refine Rg.la 5 (.int .i64 ((0:Nat):Int)) ?_;go_frame;clear hcv;have htt:=FT.out.set (.int .i64 e1) (.slice oa1 on1 oc1) (.slice ra1 rn1 rc1);have hkp:=Rg.Kp.trans (Rg.Kp.trans (Rg.Kp.of_setCell (M:=fun z=>z=w2.heap.size) (w:=w17) (a:=⟨w2.heap.size,0,none⟩) (v:=.int .i64 e1) rfl) (Rg.Kp.of_setCell (M:=fun z=>z=w2.heap.size) (a:=⟨w2.heap.size,1,none⟩) (v:=.slice oa1 on1 oc1) rfl) (fun _ _ e=>e)) (Rg.Kp.of_setCell (M:=fun z=>z=w2.heap.size) (a:=⟨w2.heap.size,2,none⟩) (v:=.slice ra1 rn1 rc1) rfl) (fun _ _ e=>e)
  have hkf:=((K.out.setCell (p:=⟨w2.heap.size,0,none⟩) HTDL.out (.int .i64 e1)).setCell (p:=⟨w2.heap.size,1,none⟩) HTDL.out (.slice oa1 on1 oc1)).setCell (p:=⟨w2.heap.size,2,none⟩) HTDL.out (.slice ra1 rn1 rc1);have hcf:=(CV.out.kp hkp (fun z hz=>by have:=HTD.out; omega)).ans;generalize ((w17.setCell ⟨w2.heap.size,0,none⟩ (.int .i64 e1)).setCell ⟨w2.heap.size,1,none⟩ (.slice oa1 on1 oc1)).setCell ⟨w2.heap.size,2,none⟩ (.slice ra1 rn1 rc1)=w99 at *;have HTT:=ι htt;have HFI:=ι (show KrPost d e L M w (.returned (.tuple #[.agg #[.int .i64 e1,.slice oa1 on1 oc1,.slice ra1 rn1 rc1],.int .i64 0])) w99 from ⟨_,by rw [HZ.out],by rw [HK.out]; exact hcf,hkf⟩);clear htt hkp hkf hcf;go_wp2;exact bodyPost_ret (results_cellC2 (p:=4) (u:=5) rfl _ rfl rfl HTT.out) rfl HFI.out
theorem Injective_hom {d e:Int} {gv hv:Value} {L M:List (List Int)} {w:World} (h:Rg.Rows w gv L) (h':Rg.Rows w hv M) :
  Calls Try.prog 11 #[.agg #[.int .i64 d,gv],.agg #[.int .i64 e,hv]] w (InPost d e L M w):=by
 obtain ⟨ga,gc,rfl,-⟩:=h.shape;obtain ⟨ha,hc,rfl,-⟩:=h'.shape;have HG:=ι h;have HH:=ι h';have K:=ι (Below.refl w.heap.size w);clear h h'
 go_enter Try.func11,Try.ntmps11
 go_upto_region 0 with (fail);refine Rg.wl ?_;have hbx:=box2t w (.int .i64 d) (.slice ga L.length gc) 24;refine Rg.lr 2 (Rg.exec_box _ _ rfl rfl) ?_;go_frame;have hb:=(Below.refl w.heap.size w).alloc (Nat.le_refl _) (.cells #[.int .i64 d,.slice ga L.length gc] 24);generalize w.alloc (.cells #[.int .i64 d,.slice ga L.length gc] 24)=w1 at *;replace HG:=ι (HG.out.below hb);replace HH:=ι (HH.out.below hb);replace K:=ι (Rg.acc K.out hb);clear hb;have G0:=ι hbx.1;have G1:=ι hbx.2;clear hbx;have hbx:=box2t w1 (.int .i64 e) (.slice ha M.length hc) 24;refine Rg.lr 3 (Rg.exec_box _ _ rfl rfl) ?_;go_frame;have hb:=(Below.refl w1.heap.size w1).alloc (Nat.le_refl _) (.cells #[.int .i64 e,.slice ha M.length hc] 24);generalize w1.alloc (.cells #[.int .i64 e,.slice ha M.length hc] 24)=w2 at *;replace HG:=ι (HG.out.below hb);replace HH:=ι (HH.out.below hb);replace G0:=ι (G0.out.below hb)
 replace G1:=ι (G1.out.below hb);replace K:=ι (Rg.acc K.out hb);clear hb;have H0:=ι hbx.1;have H1:=ι hbx.2;clear hbx;refine Rg.la 4 (.bool false) ?_;go_frame;refine Rg.la 5 (.int .i64 0) ?_;go_frame;obtain ⟨c,hc0⟩:∃ c,Hid (rtC d e L M=c):=⟨_,ι rfl⟩;go_upto_region 1 with (fail);refine Rg.wl ?_;refine Rg.lr 9 (Rg.exec_load (v:=.agg #[.int .i64 d,.slice ga L.length gc]) _ _ rfl ⟨w.heap.size,0,none⟩ rfl (run_loadG G0.out.cell G1.out.cell)) ?_;go_frame;refine Rg.lr 10 (Rg.exec_load (v:=.agg #[.int .i64 e,.slice ha M.length hc]) _ _ rfl ⟨w1.heap.size,0,none⟩ rfl (run_loadG H0.out.cell H1.out.cell)) ?_;go_frame;refine list_ask (some 11) rfl rfl _ _ (exec_fn 9 _ _ _ rfl rfl rfl (Kxcl7 _ _)) ?_;refine (Kernel_hom HG.out HH.out).mono ?_;rintro e1 w3 ⟨cv,rfl,hcv,hb⟩;rw [hc0.out];obtain ⟨e1,oa1,on1,oc1,ra1,rn1,rc1,rfl⟩:=hcv.shape;have HKO:=ι hcv.ko.2;refine ⟨_,rfl,?_⟩
 go_frame;replace HG:=ι (HG.out.below hb);replace HH:=ι (HH.out.below hb);replace G0:=ι (G0.out.below hb);replace G1:=ι (G1.out.below hb);replace H0:=ι (H0.out.below hb);replace H1:=ι (H1.out.below hb);replace K:=ι (Rg.acc K.out hb);clear hb;have CO:=ι hcv.ko.1;refine Rg.lm 8 (.tuple #[(.agg #[.int .i64 e1,.slice oa1 on1 oc1,.slice ra1 rn1 rc1]),.int .i64 c]) ?_;go_frame;refine Rg.lr 12 (exec_extract (v:=(.agg #[.int .i64 e1,.slice oa1 on1 oc1,.slice ra1 rn1 rc1])) _ _ rfl rfl rfl) ?_;go_frame;refine Rg.lr 13 (exec_extract (v:=.int .i64 c) _ _ rfl rfl rfl) ?_;go_frame;refine Rg.lr 6 (exec_allocC rfl) ?_;go_frame;refine Rg.list_skip none rfl rfl (Rg.exec_store _ _ _ rfl _ rfl _ rfl (run_storeC _ _ _ _ _ _ _ (Tri.new w3 (.int .i64 0) (.slice none 0 0) (.slice none 0 0)))) ?_;go_frame;have htn:=(Tri.new w3 (.int .i64 0) (.slice none 0 0) (.slice none 0 0)).set (.int .i64 e1) (.slice oa1 on1 oc1) (.slice ra1 rn1 rc1)
 have hb:=((((Below.refl w3.heap.size w3).alloc (Nat.le_refl _) (.cells #[.int .i64 0,.slice none 0 0,.slice none 0 0] 33)).setCell (p:=⟨w3.heap.size,0,none⟩) (Nat.le_refl _) (.int .i64 e1)).setCell (p:=⟨w3.heap.size,1,none⟩) (Nat.le_refl _) (.slice oa1 on1 oc1)).setCell (p:=⟨w3.heap.size,2,none⟩) (Nat.le_refl _) (.slice ra1 rn1 rc1);generalize (((w3.alloc (.cells #[.int .i64 0,.slice none 0 0,.slice none 0 0] 33)).setCell ⟨w3.heap.size,0,none⟩ (.int .i64 e1)).setCell ⟨w3.heap.size,1,none⟩ (.slice oa1 on1 oc1)).setCell ⟨w3.heap.size,2,none⟩ (.slice ra1 rn1 rc1)=w4 at *;replace HG:=ι (HG.out.below hb);replace HH:=ι (HH.out.below hb);replace G0:=ι (G0.out.below hb);replace G1:=ι (G1.out.below hb);replace H0:=ι (H0.out.below hb);replace H1:=ι (H1.out.below hb);replace CO:=ι (CO.out.below hb);replace K:=ι (Rg.acc K.out hb);clear hb;have S1:=ι htn;clear htn
 refine Rg.la 7 (.int .i64 c) ?_;go_frame;clear hcv
 by_cases h0:c=0
 case neg =>
  have HR:=ι (show inB d e L M=false by unfold inB; rw [if_neg (by rw [hc0.out]; exact h0)]);go_upto_region 2 with (fail);refine Rg.wl ?_;refine Rg.lm 14 (.int .i64 c) ?_;go_frame;refine Rg.lr 15 (exec_bin (R:=.bool true) .neq _ _ _ rfl rfl rfl (b_neqB _ (decide_eq_true h0))) ?_;go_frame;go_upto_region 3 with (fail);refine Rg.wl ?_;refine Rg.lm 16 (.int .i64 c) ?_;go_frame;refine Rg.la 4 (.bool false) ?_;go_frame;refine Rg.la 5 (.int .i64 c) ?_;go_frame;go_wp2
  go_ret2
  exact ⟨by rw [HR.out,hc0.out]; rfl,K.out⟩
 case pos =>
  have HZ:=ι (hc0.out.trans h0);obtain ⟨ba,hba⟩:∃ b,Hid ((koL d e L M).any (fun l=>decide (1<l.length))=b):=⟨_,ι rfl⟩;have HR:=ι (show inB d e L M = !ba by unfold inB; rw [if_pos HZ.out,hba.out])
  obtain rfl:on1=(koL d e L M).length:=by
   obtain ⟨_,_,e5,_⟩:=CO.out.shape;injection e5
  have HKL:=ι (koL_len (d:=d) (e:=e) (L:=L) (M:=M));go_upto_region 2 with (fail);refine Rg.wl ?_;refine Rg.lm 14 (.int .i64 c) ?_;go_frame;refine Rg.lr 15 (exec_bin (R:=.bool false) .neq _ _ _ rfl rfl rfl (b_neqB _ (decide_eq_false (fun q=>q h0)))) ?_;go_frame;go_upto_region 4 with (fail);refine Rg.wl ?_;refine Rg.lr 17 (exec_field _ rfl rfl (chF1 _ _)) ?_;go_frame;refine Rg.lr 18 (Rg.exec_load (v:=.slice oa1 (koL d e L M).length oc1) _ _ rfl ⟨w3.heap.size,1,none⟩ rfl (Rg.run_loadSl _ _ Try.underlying30 S1.out.c1)) ?_;go_frame;refine list_ask (some 19) rfl rfl _ _ (exec_fn 27 _ _ _ rfl rfl rfl (Kxcl8 _ _)) ?_;refine (containsLen_any CO.out HKL.out hba).mono ?_;rintro e1 w15 ⟨rfl,hb⟩;refine ⟨_,rfl,?_⟩;go_frame;replace HG:=ι (HG.out.below hb);replace HH:=ι (HH.out.below hb);replace G0:=ι (G0.out.below hb);replace G1:=ι (G1.out.below hb);replace H0:=ι (H0.out.below hb)
  replace H1:=ι (H1.out.below hb);replace CO:=ι (CO.out.below hb);replace S1:=ι (S1.out.below hb);replace K:=ι (Rg.acc K.out hb);clear hb;refine Rg.lr 20 (exec_not _ _ ba rfl rfl) ?_;go_frame;refine Rg.la 4 (.bool (!ba)) ?_;go_frame;refine Rg.la 5 (.int .i64 ((0:Nat):Int)) ?_;go_frame;go_wp2
  go_ret2
  exact ⟨by rw [HR.out,HZ.out]; rfl,K.out⟩

theorem Kycl0 (args:Array Value) (w:World):(callFunc 39 args).run Try.prog w=.ok (.enter 39 args) w:=by kernel_rfl
theorem Kycl2 (args:Array Value) (w:World):(callFunc 41 args).run Try.prog w=.ok (.enter 41 args) w:=by kernel_rfl
def CkhPost (d e:Int) (L M:List (List Int)) (w:World) (ed:Ending) (w':World):Prop:=ed=.returned (.int .i64 (homC d e L M))∧Below w.heap.size w w'
theorem hcheck_any {d e:Int} {gv hv:Value} {L M:List (List Int)} {w:World} (h:Rg.Rows w gv L) (h':Rg.Rows w hv M) :
  Calls Try.prog 20 #[.agg #[.int .i64 d,gv],.agg #[.int .i64 e,hv]] w (CkhPost d e L M w):=by
 obtain ⟨ga,gc,rfl,-⟩:=h.shape;obtain ⟨ha,hc,rfl,-⟩:=h'.shape;have HG:=ι h;have HH:=ι h';have K:=ι (Below.refl w.heap.size w);clear h h'
 go_enter Try.func20,Try.ntmps20
 go_upto_region 0 with (fail);refine Rg.wl ?_;have hbx:=box2t w (.int .i64 d) (.slice ga L.length gc) 24;refine Rg.lr 2 (Rg.exec_box _ _ rfl rfl) ?_;go_frame;have hb:=(Below.refl w.heap.size w).alloc (Nat.le_refl _) (.cells #[.int .i64 d,.slice ga L.length gc] 24);generalize w.alloc (.cells #[.int .i64 d,.slice ga L.length gc] 24)=w1 at *;replace HG:=ι (HG.out.below hb);replace HH:=ι (HH.out.below hb);replace K:=ι (Rg.acc K.out hb);clear hb;have G0:=ι hbx.1;have G1:=ι hbx.2;clear hbx;have hbx:=box2t w1 (.int .i64 e) (.slice ha M.length hc) 24;refine Rg.lr 3 (Rg.exec_box _ _ rfl rfl) ?_;go_frame;have hb:=(Below.refl w1.heap.size w1).alloc (Nat.le_refl _) (.cells #[.int .i64 e,.slice ha M.length hc] 24);generalize w1.alloc (.cells #[.int .i64 e,.slice ha M.length hc] 24)=w2 at *;replace HG:=ι (HG.out.below hb);replace HH:=ι (HH.out.below hb);replace G0:=ι (G0.out.below hb)
 replace G1:=ι (G1.out.below hb);replace K:=ι (Rg.acc K.out hb);clear hb;have H0:=ι hbx.1;have H1:=ι hbx.2;clear hbx;refine Rg.la 4 (.int .i64 0) ?_;go_frame;obtain ⟨g1,hg1⟩:∃ c,Hid (Ma.gchk d L=c):=⟨_,ι rfl⟩;obtain ⟨g2,hg2⟩:∃ c,Hid (Ma.gchk e M=c):=⟨_,ι rfl⟩;go_upto_region 1 with (fail);refine Rg.wl ?_;refine Rg.lr 7 (Rg.exec_load (v:=.agg #[.int .i64 d,.slice ga L.length gc]) _ _ rfl ⟨w.heap.size,0,none⟩ rfl (run_loadG G0.out.cell G1.out.cell)) ?_;go_frame;refine list_ask (some 8) rfl rfl _ _ (exec_fn1 39 _ _ rfl rfl (Kycl0 _ _)) ?_;refine (ref07Check_any _ _ _ w2 HG.out).mono ?_;rintro e1 w3 ⟨rfl,hb⟩;rw [hg1.out];refine ⟨_,rfl,?_⟩;go_frame;replace HG:=ι (HG.out.below hb);replace HH:=ι (HH.out.below hb);replace G0:=ι (G0.out.below hb);replace G1:=ι (G1.out.below hb);replace H0:=ι (H0.out.below hb);replace H1:=ι (H1.out.below hb);replace K:=ι (Rg.acc K.out hb)
 clear hb;refine Rg.la 5 (.int .i64 g1) ?_;go_frame
 by_cases h1:g1=0
 case neg =>
  go_upto_region 2 with (fail);refine Rg.wl ?_;refine Rg.lm 9 (.int .i64 g1) ?_;go_frame;refine Rg.lr 10 (exec_bin (R:=.bool true) .neq _ _ _ rfl rfl rfl (b_neqB _ (decide_eq_true h1))) ?_;go_frame;go_upto_region 3 with (fail);refine Rg.wl ?_;refine Rg.lm 11 (.int .i64 g1) ?_;go_frame;refine Rg.la 4 (.int .i64 g1) ?_;go_frame;have HR:=ι (show homC d e L M=g1 by rw [homC_1 (by rw [hg1.out]; exact h1),hg1.out]);go_wp2;go_ret;exact ⟨by rw [HR.out]; rfl,K.out⟩
 case pos =>
  have HZ1:=ι (hg1.out.trans h1);go_upto_region 2 with (fail);refine Rg.wl ?_;refine Rg.lm 9 (.int .i64 g1) ?_;go_frame;refine Rg.lr 10 (exec_bin (R:=.bool false) .neq _ _ _ rfl rfl rfl (b_neqB _ (decide_eq_false (fun q=>q h1)))) ?_;go_frame;go_upto_region 4 with (fail);refine Rg.wl ?_;refine Rg.lr 12 (Rg.exec_load (v:=.agg #[.int .i64 e,.slice ha M.length hc]) _ _ rfl ⟨w1.heap.size,0,none⟩ rfl (run_loadG H0.out.cell H1.out.cell)) ?_;go_frame;refine list_ask (some 13) rfl rfl _ _ (exec_fn1 39 _ _ rfl rfl (Kycl0 _ _)) ?_;refine (ref07Check_any _ _ _ w3 HH.out).mono ?_;rintro e1 w14 ⟨rfl,hb⟩;rw [hg2.out];refine ⟨_,rfl,?_⟩;go_frame;replace HG:=ι (HG.out.below hb);replace HH:=ι (HH.out.below hb);replace G0:=ι (G0.out.below hb);replace G1:=ι (G1.out.below hb);replace H0:=ι (H0.out.below hb);replace H1:=ι (H1.out.below hb);replace K:=ι (Rg.acc K.out hb);clear hb;refine Rg.la 6 (.int .i64 g2) ?_;go_frame
  by_cases h2:g2=0
  case neg =>
   go_upto_region 5 with (fail);refine Rg.wl ?_;refine Rg.lm 14 (.int .i64 g2) ?_;go_frame;refine Rg.lr 15 (exec_bin (R:=.bool true) .neq _ _ _ rfl rfl rfl (b_neqB _ (decide_eq_true h2))) ?_;go_frame;go_upto_region 6 with (fail);refine Rg.wl ?_;refine Rg.lm 16 (.int .i64 g2) ?_;go_frame;refine Rg.la 4 (.int .i64 g2) ?_;go_frame;have HR:=ι (show homC d e L M=g2 by rw [homC_2 HZ1.out (by rw [hg2.out]; exact h2),hg2.out]);go_wp2;go_ret;exact ⟨by rw [HR.out]; rfl,K.out⟩
  case pos =>
   have HZ2:=ι (hg2.out.trans h2)
   have hd:1≤d∧d≤64:=by
    obtain ⟨D,gs,e1,_,_,q1,q2,_⟩:=gchk_ok HZ1.out;omega
   have he:1≤e∧e≤64:=by
    obtain ⟨D,gs,e1,_,_,q1,q2,_⟩:=gchk_ok HZ2.out;omega
   go_upto_region 5 with (fail);refine Rg.wl ?_;refine Rg.lm 14 (.int .i64 g2) ?_;go_frame;refine Rg.lr 15 (exec_bin (R:=.bool false) .neq _ _ _ rfl rfl rfl (b_neqB _ (decide_eq_false (fun q=>q h2)))) ?_;go_frame
   by_cases h3:L.length=M.length
   case neg =>
    go_upto_region 7 with (fail);refine Rg.wl ?_;refine Rg.lr 17 (exec_fieldG _ rfl rfl) ?_;go_frame;refine Rg.lr 18 (Rg.exec_load (v:=.slice ga L.length gc) _ _ rfl ⟨w.heap.size,1,none⟩ rfl (Rg.run_loadSl _ _ Try.underlying22 G1.out.cell)) ?_;go_frame;refine Rg.lr 19 (exec_len _ _ _ rfl Try.underlying22 _ _ _ rfl) ?_;go_frame;refine Rg.lr 20 (exec_fieldG _ rfl rfl) ?_;go_frame;refine Rg.lr 21 (Rg.exec_load (v:=.slice ha M.length hc) _ _ rfl ⟨w1.heap.size,1,none⟩ rfl (Rg.run_loadSl _ _ Try.underlying22 H1.out.cell)) ?_;go_frame;refine Rg.lr 22 (exec_len _ _ _ rfl Try.underlying22 _ _ _ rfl) ?_;go_frame;refine Rg.lr 23 (exec_bin (R:=.bool true) .neq _ _ _ rfl rfl rfl (b_neqB _ (decide_eq_true (by omega)))) ?_;go_frame;go_upto_region 8 with (fail);refine Rg.wl ?_;refine Rg.la 4 (.int .i64 4) ?_;go_frame;have HR:=ι (homC_3 HZ1.out HZ2.out h3);go_wp2;go_ret;exact ⟨by rw [HR.out]; rfl,K.out⟩
   case pos =>
    go_upto_region 7 with (fail);refine Rg.wl ?_;refine Rg.lr 17 (exec_fieldG _ rfl rfl) ?_;go_frame;refine Rg.lr 18 (Rg.exec_load (v:=.slice ga L.length gc) _ _ rfl ⟨w.heap.size,1,none⟩ rfl (Rg.run_loadSl _ _ Try.underlying22 G1.out.cell)) ?_;go_frame;refine Rg.lr 19 (exec_len _ _ _ rfl Try.underlying22 _ _ _ rfl) ?_;go_frame;refine Rg.lr 20 (exec_fieldG _ rfl rfl) ?_;go_frame;refine Rg.lr 21 (Rg.exec_load (v:=.slice ha M.length hc) _ _ rfl ⟨w1.heap.size,1,none⟩ rfl (Rg.run_loadSl _ _ Try.underlying22 H1.out.cell)) ?_;go_frame;refine Rg.lr 22 (exec_len _ _ _ rfl Try.underlying22 _ _ _ rfl) ?_;go_frame;refine Rg.lr 23 (exec_bin (R:=.bool false) .neq _ _ _ rfl rfl rfl (b_neqB _ (decide_eq_false (by omega)))) ?_;go_frame
    by_cases h4:64<d+e
    case pos =>
     go_upto_region 9 with (fail);refine Rg.wl ?_;refine Rg.lr 24 (exec_fieldG0 _ rfl rfl) ?_;go_frame;refine Rg.lr 25 (Rg.exec_load (v:=.int .i64 d) _ _ rfl ⟨w.heap.size,0,none⟩ rfl (run_loadInt G0.out.cell)) ?_;go_frame;refine Rg.lr 26 (exec_fieldG0 _ rfl rfl) ?_;go_frame;refine Rg.lr 27 (Rg.exec_load (v:=.int .i64 e) _ _ rfl ⟨w1.heap.size,0,none⟩ rfl (run_loadInt H0.out.cell)) ?_;go_frame;refine Rg.lr 28 (exec_bin (R:=.int .i64 (d+e)) .add _ _ _ rfl rfl rfl (b_add _ (by omega) (by omega))) ?_;go_frame;refine Rg.lr 29 (exec_bin (R:=.bool true) .gtr _ _ _ rfl rfl rfl (b_gtr _ (decide_eq_true (by omega)))) ?_;go_frame;go_upto_region 10 with (fail);refine Rg.wl ?_;refine Rg.la 4 (.int .i64 5) ?_;go_frame;have HR:=ι (homC_4 HZ1.out HZ2.out h3 h4);go_wp2;go_ret;exact ⟨by rw [HR.out]; rfl,K.out⟩
    case neg =>
     go_upto_region 9 with (fail);refine Rg.wl ?_;refine Rg.lr 24 (exec_fieldG0 _ rfl rfl) ?_;go_frame;refine Rg.lr 25 (Rg.exec_load (v:=.int .i64 d) _ _ rfl ⟨w.heap.size,0,none⟩ rfl (run_loadInt G0.out.cell)) ?_;go_frame;refine Rg.lr 26 (exec_fieldG0 _ rfl rfl) ?_;go_frame;refine Rg.lr 27 (Rg.exec_load (v:=.int .i64 e) _ _ rfl ⟨w1.heap.size,0,none⟩ rfl (run_loadInt H0.out.cell)) ?_;go_frame;refine Rg.lr 28 (exec_bin (R:=.int .i64 (d+e)) .add _ _ _ rfl rfl rfl (b_add _ (by omega) (by omega))) ?_;go_frame;refine Rg.lr 29 (exec_bin (R:=.bool false) .gtr _ _ _ rfl rfl rfl (b_gtr _ (decide_eq_false (by omega)))) ?_;go_frame;go_upto_region 11 with (fail);refine Rg.wl ?_;refine Rg.la 4 (.int .i64 ((0:Nat):Int)) ?_;go_frame;have HR:=ι (homC_5 HZ1.out HZ2.out h3 h4);go_wp2;go_ret;exact ⟨by rw [HR.out]; rfl,K.out⟩
def PpPost (D:Int) (ll:List (List Int)) (w:World) (ed:Ending) (w':World):Prop:=∃ cv,ed=.returned cv∧ChAnsF w.heap.size w' D ll cv (mkchk D ll)∧Below w.heap.size w w'
theorem hpairs_any {n m:Nat} {A B:List (List Nat)} {gv hv:Value} {L M:List (List Int)} {w:World} (h:Rg.Rows w gv L) (h':Rg.Rows w hv M) (hm:HomG ((n:Nat):Int) ((m:Nat):Int) L M n m A B) :
  Calls Try.prog 40 #[.agg #[.int .i64 ((n:Nat):Int),gv],.agg #[.int .i64 ((m:Nat):Int),hv]] w (PpPost (((n:Nat):Int)+((m:Nat):Int)) (prL L M) w):=by
 obtain ⟨ga,gc,rfl,-⟩:=h.shape;obtain ⟨ha,hc,rfl,-⟩:=h'.shape;have HG:=ι h;have HH:=ι h';have K:=ι (Below.refl w.heap.size w);clear h h';have HM:=ι hm;have HLN:=ι hm.lens;have HN1:=ι hm.n1;have HNM:=ι hm.nm;clear hm
 go_enter Try.func40,Try.ntmps40
 go_upto_region 0 with (fail);refine Rg.wl ?_;have hbx:=box2t w (.int .i64 ((n:Nat):Int)) (.slice ga L.length gc) 24;refine Rg.lr 2 (Rg.exec_box _ _ rfl rfl) ?_;go_frame;have hb:=(Below.refl w.heap.size w).alloc (Nat.le_refl _) (.cells #[.int .i64 ((n:Nat):Int),.slice ga L.length gc] 24);generalize w.alloc (.cells #[.int .i64 ((n:Nat):Int),.slice ga L.length gc] 24)=w1 at *;replace HG:=ι (HG.out.below hb);replace HH:=ι (HH.out.below hb);replace K:=ι (Rg.acc K.out hb);clear hb;have G0:=ι hbx.1;have G1:=ι hbx.2;clear hbx;have hbx:=box2t w1 (.int .i64 ((m:Nat):Int)) (.slice ha M.length hc) 24;refine Rg.lr 3 (Rg.exec_box _ _ rfl rfl) ?_;go_frame;have hb:=(Below.refl w1.heap.size w1).alloc (Nat.le_refl _) (.cells #[.int .i64 ((m:Nat):Int),.slice ha M.length hc] 24);generalize w1.alloc (.cells #[.int .i64 ((m:Nat):Int),.slice ha M.length hc] 24)=w2 at *
 replace HG:=ι (HG.out.below hb);replace HH:=ι (HH.out.below hb);replace G0:=ι (G0.out.below hb);replace G1:=ι (G1.out.below hb);replace K:=ι (Rg.acc K.out hb);clear hb;have H0:=ι hbx.1;have H1:=ι hbx.2;clear hbx;have HTDL:=ι (show w.heap.size≤w2.heap.size from K.out.size);have hnew:=Tri.new w2 (.int .i64 0) (.slice none 0 0) (.slice none 0 0);refine Rg.lr 4 (exec_allocC rfl) ?_;go_frame;have hb:=(Below.refl w2.heap.size w2).alloc (Nat.le_refl _) (.cells #[.int .i64 0,.slice none 0 0,.slice none 0 0] 33);generalize w2.alloc (.cells #[.int .i64 0,.slice none 0 0,.slice none 0 0] 33)=w3 at *;replace HG:=ι (HG.out.below hb);replace HH:=ι (HH.out.below hb);replace G0:=ι (G0.out.below hb);replace G1:=ι (G1.out.below hb);replace H0:=ι (H0.out.below hb);replace H1:=ι (H1.out.below hb);replace K:=ι (Rg.acc K.out hb);clear hb;have FT:=ι hnew;clear hnew;go_upto_region 1 with (fail)
 refine Rg.wl ?_;refine Rg.la 5 (.slice none 0 0) ?_;go_frame;go_upto_region 2 with (fail);refine Rg.wl ?_;refine Rg.la 6 (.int .i64 ((0:Nat):Int)) ?_;go_frame;have K1:=ι (Below.refl w3.heap.size w3);have RP:=ι (show RowP w3.heap.size w3 (.slice none 0 0) ((prL L M).take 0) by rw [List.take_zero]; exact RowP.nil _ _);go_wp2
 go_loopw [5,6] (fun tv iv wr=>∃ i:Nat,iv=.int .i64 ((i:Nat):Int)∧i≤L.length∧Hid (RowP w3.heap.size wr tv ((prL L M).take i))∧Hid (Below w3.heap.size w3 wr)) (fun _ iv _=>L.length - (intOf iv).toNat)
 case atStart=>exact ⟨0,rfl,Nat.zero_le _,RP,K1⟩
 case round =>
  clear K1 RP;obtain ⟨i,rfl,hi,RP,K1⟩:=hrel;generalize wr=wd at *;have h16:L.length≤16:=HLN.out.2.2.2;obtain ⟨ta,tc,rfl⟩:=RP.out.shape
  by_cases hil:i<L.length
  case pos =>
   have HIL:=ι hil
   have him:i<M.length:=by have:=HLN.out.2.2.1; omega
   have HIM:=ι him;have HST:=ι (prL_step hil him);obtain ⟨x,hx⟩:∃ x,Hid (L[i]'hil=x):=⟨_,ι rfl⟩;obtain ⟨y,hy⟩:∃ y,Hid (M[i]'him=y):=⟨_,ι rfl⟩;rw [hx.out,hy.out] at HST;obtain ⟨xb,xo,xa,xc,e1,hxb,hxc,hxi⟩:=rowsI_get HG.out hil;obtain ⟨yb,yo,ya,yc,e2,hyb,hyc,hyi⟩:=rowsI_get HH.out him;subst e1 e2;rw [hx.out] at hxc hxi;rw [hy.out] at hyc hyi;have CX:=ι (CL.mk hxc hxb);have CY:=ι (CL.mk hyc hyb);have XI:=ι hxi;have HXL:=ι (show x.length=n from HLN.out.1 x (by rw [← hx.out]; exact List.getElem_mem hil));have HYL:=ι (show y.length=m from HLN.out.2.1 y (by rw [← hy.out]; exact List.getElem_mem him))
   have HYB:=ι (show ∀ z∈y,0≤z∧z≤64 from fun z hz=>by
    have hmem:y∈M:=by rw [← hy.out]; exact List.getElem_mem him
    rw [HM.out.mb] at hmem;obtain ⟨s,hs,rfl⟩:=List.mem_map.1 hmem;have gs:=HM.out.gb s hs;obtain ⟨q,hq,rfl⟩:=List.mem_map.1 hz;have:=gs.1.1 q hq;have:=gs.2;have:=HNM.out
    omega)
   obtain ⟨ya',yc',ey,-,-,-,hys⟩:=hyi.shape
   injection ey with ey1 _ ey3
   subst ey1 ey3
   have hyl0:0<y.length:=by rw [HYL.out]; exact HM.out.m1
   obtain ⟨yb2,yo2,rfl,hyb2,hyc2⟩:=hys hyl0;have YC:=ι (show ∀ k (hk:k<y.length),CL w3 yb2 (yo2+k) (.int .i64 y[k]) from fun k hk=>CL.mk (hyc2 k hk) hyb2);obtain ⟨tl,htl⟩:∃ l,Hid ((prL L M).take i=l):=⟨_,ι rfl⟩;have HTL:=ι (show tl.length<1000000 by rw [← htl.out,List.length_take]; omega);rw [htl.out] at RP HST ⊢;have K1s:=K1;have RPs:=RP;clear hxb hxc hxi hyb hyc hyi hys hyc2 hyb2 hyl0;go_upto_region 3 with (fail);refine Rg.wl ?_;refine Rg.lm 11 (.int .i64 ((i:Nat):Int)) ?_;go_frame;refine Rg.lr 12 (exec_fieldG _ rfl rfl) ?_;go_frame;refine Rg.lr 13 (Rg.exec_load (v:=.slice (some ⟨xb,xo,none⟩) L.length gc) _ _ rfl ⟨w.heap.size,1,none⟩ rfl (Rg.run_loadSl _ _ Try.underlying22 ((Below.cell (p:=⟨w.heap.size,1,none⟩) K1.out G1.out.lt).trans G1.out.cell))) ?_;go_frame;refine Rg.lr 14 (exec_len _ _ _ rfl Try.underlying22 _ _ _ rfl) ?_;go_frame;refine Rg.lr 15 (exec_bin (R:=.bool true) .lss _ _ _ rfl rfl rfl (b_lss _ (decide_eq_true (by omega)))) ?_;go_frame
   go_upto_region 5 with (fail);refine Rg.wl ?_;refine Rg.lr 18 (exec_fieldG _ rfl rfl) ?_;go_frame;refine Rg.lr 19 (Rg.exec_load (v:=.slice (some ⟨xb,xo,none⟩) L.length gc) _ _ rfl ⟨w.heap.size,1,none⟩ rfl (Rg.run_loadSl _ _ Try.underlying22 ((Below.cell (p:=⟨w.heap.size,1,none⟩) K1.out G1.out.lt).trans G1.out.cell))) ?_;go_frame;refine Rg.lm 20 (.int .i64 ((i:Nat):Int)) ?_;go_frame;refine Rg.lr 21 (exec_indexS slPerms _ _ rfl xb (xo) (L.length) gc (i) rfl rfl HIL.out) ?_;go_frame;refine Rg.lr 22 (Rg.exec_load (v:=.slice xa x.length xc) _ _ rfl ⟨xb,xo+i,none⟩ rfl (Rg.run_loadSl _ _ Try.underlying39 ((Below.cell (p:=⟨xb,xo+i,none⟩) K1.out CX.out.lt).trans CX.out.cell))) ?_;go_frame;have HLT6:=ι (fun z e=>(RP.out.lt z e).2);have HSZ6:=ι K1.out.size;refine list_ask (some 23) rfl rfl _ _ (exec_fn1 52 _ _ rfl rfl (Wncl3 _ _)) ?_;refine (Own_any _ x wd (XI.out.below K1.out) (by rw [HXL.out]; have:=HNM.out; omega)).mono ?_
   rintro e1 w101 ⟨ov,rfl,hov,hb⟩;have OW:=ι (OwI.mk hov);have HBX:=ι hb;clear hov;refine ⟨_,rfl,?_⟩;go_frame;replace RP:=ι (RP.out.below hb);replace K1:=ι (Rg.acc K1.out hb);clear hb;refine Rg.la 7 (ov) ?_;go_frame;go_upto_region 6 with (fail);refine Rg.wl ?_;refine Rg.la 8 (.int .i64 ((0:Nat):Int)) ?_;go_frame;have OW0:=ι (show OwI wd.heap.size w101 ov (joinI x (y.take 0)) by rw [List.take_zero]; unfold joinI; rw [List.map_nil,List.append_nil]; exact OW.out);have HWDL:=ι (show w3.heap.size≤wd.heap.size from K1s.out.size);clear OW K1 RP;have K1:=K1s;have RP:=RPs;clear K1s RPs;go_wp2
   go_loopw [7,8] (fun zv kv wr=>∃ k:Nat,kv=.int .i64 ((k:Nat):Int)∧k≤m∧Hid (OwI wd.heap.size wr zv (joinI x (y.take k)))∧Hid (Below wd.heap.size wd wr)) (fun _ kv _=>m - (intOf kv).toNat)
   case atStart=>exact ⟨0,rfl,Nat.zero_le _,OW0,HBX⟩
   case round =>
    clear HBX OW0;obtain ⟨k,rfl,hk,OW,KE⟩:=hrel;generalize wr=we at *;obtain ⟨za,zc,rfl⟩:=OW.out.shape;have KX:=ι (Rg.acc K1.out KE.out)
    have hm64:m≤64:=by have:=HNM.out; omega
    by_cases hkm:k<m
    case neg =>
     have HTK:=ι (show y.take k=y from List.take_of_length_le (by rw [HYL.out]; omega));rw [HTK.out] at OW ⊢;have RPX:=ι (RP.out.below KE.out);go_upto_region 7 with (fail);refine Rg.wl ?_;refine Rg.lm 24 (.int .i64 ((k:Nat):Int)) ?_;go_frame;refine Rg.lr 25 (exec_fieldG0 _ rfl rfl) ?_;go_frame;refine Rg.lr 26 (Rg.exec_load (v:=.int .i64 ((m:Nat):Int)) _ _ rfl ⟨w1.heap.size,0,none⟩ rfl (run_loadInt ((Below.cell (p:=⟨w1.heap.size,0,none⟩) KX.out H0.out.lt).trans H0.out.cell))) ?_;go_frame;refine Rg.lr 27 (exec_bin (R:=.bool false) .lss _ _ _ rfl rfl rfl (b_lss _ (decide_eq_false (by omega)))) ?_;go_frame;go_upto_region 10 with (fail);refine Rg.wl ?_;refine Rg.lm 44 (.slice ta tl.length tc) ?_;go_frame;refine Rg.lm 45 (.slice za (joinI x y).length zc) ?_;go_frame;refine Rg.lr 46 (Rg.exec_buildSlice _ _ _ rfl (.slice za (joinI x y).length zc) rfl (run_build1P we _ ⟨_,_,_,rfl⟩)) ?_;go_frame
     obtain ⟨a9,c9,X9,r1,r2,r3⟩:=RPX.out.push KX.out.size OW.out.own (by unfold joinI; rw [List.length_append,List.length_map,HXL.out,HYL.out]; have:=HNM.out; omega) (fun z e=>⟨by have:=(OW.out.own.lt z e).1; have:=HSZ6.out; omega,fun e2=>by have:=(OW.out.own.lt z e).1; have:=HLT6.out z e2; omega⟩) HTL.out 22;refine Rg.lr 47 (Rg.exec_append _ _ _ rfl rfl rfl r1) ?_;go_frame;refine Rg.la 5 (.slice a9 (tl.length+1) c9) ?_;go_frame;have K6:=ι (r3 (Nat.le_refl _) KX.out);have RP2:=ι (show RowP w3.heap.size X9 (.slice a9 (tl.length+1) c9) ((prL L M).take (i+1)) by rw [HST.out]; exact r2);clear r1 r2 r3;go_upto_region 4 with (fail);refine Rg.wl ?_;refine Rg.lm 16 (.int .i64 ((i:Nat):Int)) ?_;go_frame;refine Rg.lr 17 (exec_bin (R:=.int .i64 (((i+1):Nat):Int)) .add _ _ _ rfl rfl rfl (b_add _ (by omega) (by omega))) ?_;go_frame;refine Rg.la 6 (.int .i64 (((i+1):Nat):Int)) ?_;go_frame
     go_wp2
     go_roundw
     case rel=>exact ⟨i+1,by go_num,HIL.out,RP2,K6⟩
     case measure=>simp [intOf]; have:=HIL.out; omega
    case pos =>
     have HKM:=ι hkm;have HKY:=ι (show k<y.length by rw [HYL.out]; exact hkm);obtain ⟨q,hq⟩:∃ q,Hid (y[k]'HKY.out=q):=⟨_,ι rfl⟩;have CQ:=ι (YC.out k HKY.out);rw [hq.out] at CQ;have hqb:0≤q∧q≤64:=HYB.out q (by rw [← hq.out]; exact List.getElem_mem _);have HJ:=ι (show joinI x (y.take (k+1))=joinI x (y.take k)++[((n:Nat):Int)+q] by rw [joinI_step HKY.out,hq.out,HXL.out,Int.add_comm]);obtain ⟨jl,hjl⟩:∃ l,Hid (joinI x (y.take k)=l):=⟨_,ι rfl⟩;have HJL:=ι (show jl.length<1000000 by rw [← hjl.out]; unfold joinI; rw [List.length_append,List.length_map,List.length_take,HXL.out]; have:=HNM.out; omega)
     have hn64:n≤64:=by have:=HNM.out; omega
     rw [hjl.out] at OW HJ ⊢;go_upto_region 7 with (fail);refine Rg.wl ?_;refine Rg.lm 24 (.int .i64 ((k:Nat):Int)) ?_;go_frame;refine Rg.lr 25 (exec_fieldG0 _ rfl rfl) ?_;go_frame;refine Rg.lr 26 (Rg.exec_load (v:=.int .i64 ((m:Nat):Int)) _ _ rfl ⟨w1.heap.size,0,none⟩ rfl (run_loadInt ((Below.cell (p:=⟨w1.heap.size,0,none⟩) KX.out H0.out.lt).trans H0.out.cell))) ?_;go_frame;refine Rg.lr 27 (exec_bin (R:=.bool true) .lss _ _ _ rfl rfl rfl (b_lss _ (decide_eq_true (by omega)))) ?_;go_frame;have hV1:Below we.heap.size we we.drew:=(Below.refl _ _).drew;replace OW:=ι (OW.out.below hV1);replace KE:=ι (Rg.acc KE.out hV1);clear hV1;go_upto_region 9 with (fail);have hV0:Below we.heap.size we we.drew:=(Below.refl _ _).drew;replace KX:=ι (Rg.acc KX.out hV0);clear hV0;refine Rg.Any.begin (S:=Rg.Both 14 (fun _=>True) (fun W=>Below w3.heap.size w3 W)) mix ?_;generalize we.drew=w142 at *
     have hS:∀ (l:Array Bool) W,Below w3.heap.size w3 W→Rg.Both 14 (fun _=>True) (fun W=>Below w3.heap.size w3 W) l W:=fun l W h=>⟨.inr trivial,h⟩;have hI:=KX.out;refine Rg.tm 0 14 (.slice za jl.length zc) 30 (hS _ _ hI) ?_;go_frame;refine Rg.tg 1 14 (.pointer (some ⟨w.heap.size,0,none⟩)) 31 rfl rfl (.inl ⟨rfl,fun w _=>exec_fieldG0 _ rfl rfl⟩) (hS _ _ hI) ?_;go_frame;refine Rg.tg 2 14 (.int .i64 ((n:Nat):Int)) 32 rfl rfl (Rg.yields_cell _ _ rfl rfl ⟨w.heap.size,0,none⟩ rfl (fun W hW=>run_loadInt ((Below.cell (p:=⟨w.heap.size,0,none⟩) hW G0.out.lt).trans G0.out.cell))) (hS _ _ hI) ?_;go_frame;refine Rg.tg 3 14 (.pointer (some ⟨w1.heap.size,1,none⟩)) 33 rfl rfl (.inl ⟨rfl,fun w _=>exec_fieldG _ rfl rfl⟩) (hS _ _ hI) ?_;go_frame;refine Rg.tg 4 14 (.slice (some ⟨yb,yo,none⟩) M.length hc) 34 rfl rfl (Rg.yields_cell _ _ rfl rfl ⟨w1.heap.size,1,none⟩ rfl (fun W hW=>Rg.run_loadSl _ _ Try.underlying22 ((Below.cell (p:=⟨w1.heap.size,1,none⟩) hW H1.out.lt).trans H1.out.cell))) (hS _ _ hI) ?_;go_frame
     refine Rg.tm 5 14 (.int .i64 ((i:Nat):Int)) 35 (hS _ _ hI) ?_;go_frame;refine Rg.tg 6 14 (.pointer (some ⟨yb,yo+i,none⟩)) 36 rfl rfl (Rg.yields_index slPerms _ _ rfl rfl yb (yo) (M.length) hc (i) rfl rfl HIM.out) (hS _ _ hI) ?_;go_frame;refine Rg.tg 7 14 (.slice (some ⟨yb2,yo2,none⟩) y.length yc) 37 rfl rfl (Rg.yields_cell _ _ rfl rfl ⟨yb,yo+i,none⟩ rfl (fun W hW=>Rg.run_loadSl _ _ Try.underlying39 ((Below.cell (p:=⟨yb,yo+i,none⟩) hW CY.out.lt).trans CY.out.cell))) (hS _ _ hI) ?_;go_frame;refine Rg.tm 8 14 (.int .i64 ((k:Nat):Int)) 38 (hS _ _ hI) ?_;go_frame;refine Rg.tg 9 14 (.pointer (some ⟨yb2,yo2+k,none⟩)) 39 rfl rfl (Rg.yields_index slPerm _ _ rfl rfl yb2 (yo2) (y.length) yc (k) rfl rfl HKY.out) (hS _ _ hI) ?_;go_frame;refine Rg.tg 10 14 (.int .i64 q) 40 rfl rfl (Rg.yields_cell _ _ rfl rfl ⟨yb2,yo2+k,none⟩ rfl (fun W hW=>run_loadInt ((Below.cell (p:=⟨yb2,yo2+k,none⟩) hW CQ.out.lt).trans CQ.out.cell))) (hS _ _ hI) ?_;go_frame
     refine Rg.tg 11 14 (.int .i64 (((n:Nat):Int)+q)) 41 rfl rfl (.inl ⟨rfl,fun w _=>exec_bin (R:=.int .i64 (((n:Nat):Int)+q)) .add _ _ _ rfl rfl rfl (b_add _ (by omega) (by omega))⟩) (hS _ _ hI) ?_;go_frame;obtain ⟨a9,c9,X9,r1,r2,r3⟩:=OW.out.push KE.out.size (((n:Nat):Int)+q) HJL.out 38;have hKW:=hI;have hb:=(Below.refl w142.heap.size w142).alloc (Nat.le_refl _) (.cells #[.int .i64 (((n:Nat):Int)+q)] 3);have hI2_0:=Rg.acc hI hb;have hI2_1:=hb;clear hb hI;refine Rg.Any.one (i:=12) (by kernel_rfl) (Rg.Any.run (some 42) rfl rfl rfl (Rg.exec_buildSlice _ _ _ rfl (.int .i64 (((n:Nat):Int)+q)) rfl (run_build1i w142 _)) (hS _ _ hI2_0) ?_);go_frame;generalize w142.alloc (.cells #[.int .i64 (((n:Nat):Int)+q)] 3)=w143 at *;have hI3_g:=r3 HWDL.out hKW;refine Rg.Any.one (i:=13) (by kernel_rfl) (Rg.Any.run (some 43) rfl rfl rfl (Rg.exec_append _ _ _ rfl rfl rfl r1) (hS _ _ hI3_g) ?_)
     go_frame;clear hI2_0 hI2_1;refine Rg.Any.one (i:=14) (by kernel_rfl) (Rg.Any.run (some 7) rfl rfl rfl (Rg.xa (.slice a9 (jl.length+1) c9) _ rfl rfl) (hS _ _ hI3_g) ?_);go_frame;refine Rg.Any.done (by kernel_rfl) ?_ _;replace KX:=ι hI3_g;clear hS hI3_g;have OW2:=ι (show OwI wd.heap.size X9 (.slice a9 (jl.length+1) c9) (joinI x (y.take (k+1))) by rw [HJ.out]; exact r2);have KE2:=ι (r3 (Nat.le_refl _) KE.out);clear r1 r2 r3;go_upto_region 8 with (fail);refine Rg.wl ?_;refine Rg.lm 28 (.int .i64 ((k:Nat):Int)) ?_;go_frame;refine Rg.lr 29 (exec_bin (R:=.int .i64 (((k+1):Nat):Int)) .add _ _ _ rfl rfl rfl (b_add _ (by omega) (by omega))) ?_;go_frame;refine Rg.la 8 (.int .i64 (((k+1):Nat):Int)) ?_;go_frame;go_wp2
     go_roundw
     case rel=>exact ⟨k+1,by go_num,HKM.out,OW2,KE2⟩
     case measure=>simp [intOf]; have:=HKM.out; omega
  case neg =>
   obtain ⟨PL,hPL⟩:∃ l,Hid (prL L M=l):=⟨_,ι rfl⟩
   have HTE:=ι (show (prL L M).take i=PL by
    rw [hPL.out];refine List.take_of_length_le ?_
    rw [← hPL.out]; unfold prL; rw [List.length_zipWith]; omega)
   rw [HTE.out] at RP ⊢;have HPL:=ι (show PL.length≤16 by rw [← hPL.out]; unfold prL; rw [List.length_zipWith]; omega);have HRP:=ι (FRows.rows (RP.out.frows (by have:=HPL.out; omega) (G:=fun _=>True) (fun _ _ _=>trivial)));have hnm:n+m≤64:=HNM.out;have KT:=ι (show Below w.heap.size w wd from K.out.trans (K1.out.mono K.out.size));obtain ⟨mk,hmk⟩:∃ c,Hid (mkchk (((n:Nat):Int)+((m:Nat):Int)) PL=c):=⟨_,ι rfl⟩;go_upto_region 3 with (fail);refine Rg.wl ?_;refine Rg.lm 11 (.int .i64 ((i:Nat):Int)) ?_;go_frame;refine Rg.lr 12 (exec_fieldG _ rfl rfl) ?_;go_frame;refine Rg.lr 13 (Rg.exec_load (v:=.slice ga L.length gc) _ _ rfl ⟨w.heap.size,1,none⟩ rfl (Rg.run_loadSl _ _ Try.underlying22 ((Below.cell (p:=⟨w.heap.size,1,none⟩) K1.out G1.out.lt).trans G1.out.cell))) ?_;go_frame;refine Rg.lr 14 (exec_len _ _ _ rfl Try.underlying22 _ _ _ rfl) ?_;go_frame
   refine Rg.lr 15 (exec_bin (R:=.bool false) .lss _ _ _ rfl rfl rfl (b_lss _ (decide_eq_false (by omega)))) ?_;go_frame;replace HG:=ι (HG.out.below K1.out);replace HH:=ι (HH.out.below K1.out);replace G0:=ι (G0.out.below K1.out);replace G1:=ι (G1.out.below K1.out);replace H0:=ι (H0.out.below K1.out);replace H1:=ι (H1.out.below K1.out);replace FT:=ι (FT.out.below K1.out);clear K1 RP K;go_upto_region 11 with (fail);refine Rg.wl ?_;refine Rg.lr 49 (exec_fieldG0 _ rfl rfl) ?_;go_frame;refine Rg.lr 50 (Rg.exec_load (v:=.int .i64 ((n:Nat):Int)) _ _ rfl ⟨w.heap.size,0,none⟩ rfl (run_loadInt G0.out.cell)) ?_;go_frame;refine Rg.lr 51 (exec_fieldG0 _ rfl rfl) ?_;go_frame;refine Rg.lr 52 (Rg.exec_load (v:=.int .i64 ((m:Nat):Int)) _ _ rfl ⟨w1.heap.size,0,none⟩ rfl (run_loadInt H0.out.cell)) ?_;go_frame;refine Rg.lr 53 (exec_bin (R:=.int .i64 (((n:Nat):Int)+((m:Nat):Int))) .add _ _ _ rfl rfl rfl (b_add _ (by omega) (by omega))) ?_;go_frame
   refine Rg.lm 54 (.slice ta PL.length tc) ?_;go_frame;have HTD:=ι FT.out.lt;have HWS:=ι KT.out.size;refine list_ask (some 55) rfl rfl _ _ (exec_fn 41 _ _ _ rfl rfl rfl (Kycl2 _ _)) ?_;refine (rMake_any _ _ _ wd HRP.out).mono ?_;rintro e1 w204 ⟨cv,rfl,hcv,hb⟩;rw [hmk.out] at hcv ⊢;obtain ⟨e1,oa1,on1,oc1,ra1,rn1,rc1,rfl⟩:=hcv.ans.shape;refine ⟨_,rfl,?_⟩;go_frame;replace G0:=ι (G0.out.below hb);replace G1:=ι (G1.out.below hb);replace H0:=ι (H0.out.below hb);replace H1:=ι (H1.out.below hb);replace HRP:=ι (HRP.out.below hb);replace FT:=ι (FT.out.below hb);replace KT:=ι (Rg.acc KT.out hb);clear hb;have CV:=ι hcv;refine Rg.lm 48 (.tuple #[(.agg #[.int .i64 e1,.slice oa1 on1 oc1,.slice ra1 rn1 rc1]),.int .i64 mk]) ?_;go_frame;refine Rg.lr 56 (exec_extract (v:=(.agg #[.int .i64 e1,.slice oa1 on1 oc1,.slice ra1 rn1 rc1])) _ _ rfl rfl rfl) ?_;go_frame;refine Rg.lr 57 (exec_extract (v:=.int .i64 mk) _ _ rfl rfl rfl) ?_;go_frame
   refine Rg.lr 9 (exec_allocC rfl) ?_;go_frame;refine Rg.list_skip none rfl rfl (Rg.exec_store _ _ _ rfl _ rfl _ rfl (run_storeC _ _ _ _ _ _ _ (Tri.new w204 (.int .i64 0) (.slice none 0 0) (.slice none 0 0)))) ?_;go_frame;have htn:=(Tri.new w204 (.int .i64 0) (.slice none 0 0) (.slice none 0 0)).set (.int .i64 e1) (.slice oa1 on1 oc1) (.slice ra1 rn1 rc1);have hb:=((((Below.refl w204.heap.size w204).alloc (Nat.le_refl _) (.cells #[.int .i64 0,.slice none 0 0,.slice none 0 0] 33)).setCell (p:=⟨w204.heap.size,0,none⟩) (Nat.le_refl _) (.int .i64 e1)).setCell (p:=⟨w204.heap.size,1,none⟩) (Nat.le_refl _) (.slice oa1 on1 oc1)).setCell (p:=⟨w204.heap.size,2,none⟩) (Nat.le_refl _) (.slice ra1 rn1 rc1);generalize (((w204.alloc (.cells #[.int .i64 0,.slice none 0 0,.slice none 0 0] 33)).setCell ⟨w204.heap.size,0,none⟩ (.int .i64 e1)).setCell ⟨w204.heap.size,1,none⟩ (.slice oa1 on1 oc1)).setCell ⟨w204.heap.size,2,none⟩ (.slice ra1 rn1 rc1)=w205 at *
   replace G0:=ι (G0.out.below hb);replace G1:=ι (G1.out.below hb);replace H0:=ι (H0.out.below hb);replace H1:=ι (H1.out.below hb);replace HRP:=ι (HRP.out.below hb);replace FT:=ι (FT.out.below hb);replace CV:=ι (CV.out.below hb);replace KT:=ι (Rg.acc KT.out hb);clear hb;have S1:=ι htn;clear htn;refine Rg.la 10 (.int .i64 mk) ?_;go_frame;clear hcv;go_upto_region 12 with (fail);refine Rg.wl ?_;refine Rg.lr 58 (Rg.exec_load (v:=(.agg #[.int .i64 e1,.slice oa1 on1 oc1,.slice ra1 rn1 rc1])) _ _ rfl ⟨w204.heap.size,0,none⟩ rfl (run_loadC3 S1.out.c0 S1.out.c1 S1.out.c2)) ?_;go_frame;refine Rg.list_skip none rfl rfl (Rg.exec_store _ _ _ rfl _ rfl _ rfl (run_storeC _ _ _ _ _ _ _ FT.out)) ?_;go_frame;have htt:=FT.out.set (.int .i64 e1) (.slice oa1 on1 oc1) (.slice ra1 rn1 rc1);have hkp:=Rg.Kp.trans (Rg.Kp.trans (Rg.Kp.of_setCell (M:=fun z=>z=w2.heap.size) (w:=w205) (a:=⟨w2.heap.size,0,none⟩) (v:=.int .i64 e1) rfl) (Rg.Kp.of_setCell (M:=fun z=>z=w2.heap.size) (a:=⟨w2.heap.size,1,none⟩) (v:=.slice oa1 on1 oc1) rfl) (fun _ _ e=>e)) (Rg.Kp.of_setCell (M:=fun z=>z=w2.heap.size) (a:=⟨w2.heap.size,2,none⟩) (v:=.slice ra1 rn1 rc1) rfl) (fun _ _ e=>e)
   have hkf:=((KT.out.setCell (p:=⟨w2.heap.size,0,none⟩) HTDL.out (.int .i64 e1)).setCell (p:=⟨w2.heap.size,1,none⟩) HTDL.out (.slice oa1 on1 oc1)).setCell (p:=⟨w2.heap.size,2,none⟩) HTDL.out (.slice ra1 rn1 rc1);have hcf:=(CV.out.kp hkp (fun z hz=>by have:=HTD.out; omega)).mono HWS.out;generalize ((w205.setCell ⟨w2.heap.size,0,none⟩ (.int .i64 e1)).setCell ⟨w2.heap.size,1,none⟩ (.slice oa1 on1 oc1)).setCell ⟨w2.heap.size,2,none⟩ (.slice ra1 rn1 rc1)=w99 at *;have HTT:=ι htt;have HFI:=ι (show PpPost (((n:Nat):Int)+((m:Nat):Int)) (prL L M) w (.returned (.agg #[.int .i64 e1,.slice oa1 on1 oc1,.slice ra1 rn1 rc1])) w99 from ⟨_,rfl,by rw [hPL.out,hmk.out]; exact hcf,hkf⟩);clear htt hkp hkf hcf;go_wp2;exact bodyPost_ret (results_cellC rfl _ rfl HTT.out) rfl HFI.out
end Go.Proofs.Ythehbckogieimaa
