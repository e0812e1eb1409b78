/- Lemmas and contracts on the way to the statement; no condition of their own beyond those written. -/
import Derived.Test.YthehbckogieimaaGreatXWvtoCx
import Derived.Deep.LoopGhost
import Derived.Lib.SlicesSearch
import Derived.Lib.ConvBytes
import Derived.Deep.CutRange
import Derived.Deep.CutBlock
import Derived.IntWalk
import Derived.Great.BuildSlice
import Derived.ArgAppend
import Derived.Laws.CopyOwn
import Derived.StillTailTactics
import Derived.Deep.MidRow
import Derived.WalkSpells
import Derived.WalkLawsBesides
import Derived.Maps.AppendAt
import Derived.OwnWalk
import Derived.OrdersHeld
import Derived.Deep.OwnRows
import Derived.WalkKit
import Derived.Lib.Hide
import Derived.Laws.OwnMore
import Derived.Test.YthehbckogieimaaGreatProg
import Derived.Outline
import Derived.Deep.DeepFit
import Derived.BigQuiet
import Derived.Deep.QuietTactic
import Derived.Sort.OwnSortedInts
import Derived.WideMake
import Derived.MapKept
import Derived.ChangeMaps5
import Derived.Shelf.Sort.Plain
import Derived.RangeFuncBox
import Derived.RangeFuncLeaves
import Derived.Shelf.Abstract
import Derived.OwnWalkIn
import Derived.TacticsInMore
import Derived.LoopNIn
import Derived.LoopIn
import Derived.RangeFuncWrites
import Derived.RangeFuncNested
import Derived.Sort.CutIn
import Derived.ChangeKeysEq
import Derived.Laws.Cells
import Derived.Laws.Rows
import Derived.Laws.Tables
import Derived.Deep.WholeRow
import Derived.OrdersIn
import Derived.TacticsIn
set_option linter.unusedVariables false
set_option linter.unusedSimpArgs false
set_option maxRecDepth 100000
set_option maxHeartbeats 8000000
namespace Go.Proofs.YthehbckogieimaaGreat
open Go.RowKit
open Go.Proofs
open Go.Shelf
open Go.Proofs.Cm (Tr Gd ap sfP)
attribute [local irreducible] Go.Calls Go.wpList
def siF (tr:Tr):List Nat→List Nat→Option (List Nat)
 | [],x=>some x
 | i :: l,x=>match tr i (ap x i) with
  | none=>none
  | some u=>siF tr l (Ma.mulN x (Ma.invN u))
theorem siF_snoc (tr:Tr):∀ (l:List Nat) (x:List Nat) (i:Nat) {y u:List Nat},siF tr l x=some y→tr i (ap y i)=some u→siF tr (l++[i]) x=some (Ma.mulN y (Ma.invN u))
 | [],x,i,y,u,h,h2=>by
  cases h
  show (match tr i (ap x i) with | none=>none | some u=>siF tr [] (Ma.mulN x (Ma.invN u)))=_
  rw [h2]; rfl
 | j :: l,x,i,y,u,h,h2=>by
  have h':(match tr j (ap x j) with | none=>none | some u=>siF tr l (Ma.mulN x (Ma.invN u)))=some y:=h
  show (match tr j (ap x j) with | none=>none | some u=>siF tr (l++[i]) (Ma.mulN x (Ma.invN u)))=_
  cases e:tr j (ap x j) with
  | none=>rw [e] at h'; cases h'
  | some v =>
   rw [e] at h';exact siF_snoc tr l _ i h' h2
theorem siF_app (tr:Tr):∀ (l m:List Nat) (x:List Nat),siF tr (l++m) x=(siF tr l x).bind (siF tr m)
 | [],m,x=>rfl
 | j :: l,m,x=>by
  show (match tr j (ap x j) with | none=>none | some u=>siF tr (l++m) (Ma.mulN x (Ma.invN u)))=Option.bind (match tr j (ap x j) with | none=>none | some u=>siF tr l (Ma.mulN x (Ma.invN u))) _
  cases tr j (ap x j) with
  | none=>rfl
  | some v=>exact siF_app tr l m _
theorem siF_range {n:Nat} {tr:Tr} {x:List Nat}:∀ {k:Nat} {y:List Nat},k≤n→siF tr (List.range k) x=some y→sfP n tr n x=sfP n tr (n - k) y
 | 0,y,_,h=>by cases h; rfl
 | k+1,y,hk,h=>by
  rw [List.range_succ,siF_app] at h
  cases e:siF tr (List.range k) x with
  | none=>rw [e] at h; cases h
  | some z =>
   rw [e] at h;rw [siF_range (by omega) e]
   have h':(match tr k (ap z k) with | none=>none | some u=>siF tr [] (Ma.mulN z (Ma.invN u)))=some y:=h
   have ek:n - (n - (k+1)+1)=k:=by omega
   rw [show n - k=n - (k+1)+1 by omega]
   cases e2:tr k (ap z k) with
   | none=>rw [e2] at h'; cases h'
   | some u =>
    rw [e2] at h'
    cases h'
    exact Cm.sfP_some (by rw [ek]; exact e2)
theorem siF_stop {n:Nat} {tr:Tr} {x y:List Nat} {k:Nat} (hk:k<n) (h:siF tr (List.range k) x=some y) (h2:tr k (ap y k)=none):sfP n tr n x=(k,y):=by
 rw [siF_range (Nat.le_of_lt hk) h,show n - k=n - (k+1)+1 by omega]
 have ek:n - (n - (k+1)+1)=k:=by omega
 rw [Cm.sfP_none (by rw [ek]; exact h2),ek]
theorem siF_done {n:Nat} {tr:Tr} {x y:List Nat} (h:siF tr (List.range n) x=some y):sfP n tr n x=(n,y):=by
 rw [siF_range (Nat.le_refl _) h,Nat.sub_self]; rfl
theorem siF_gd {n:Nat} {tr:Tr} (ht:∀ i p u,i<n→tr i p=some u→Gd n u):∀ {l:List Nat} {x y:List Nat},(∀ i∈l,i<n)→Gd n x→siF tr l x=some y→Gd n y
 | [],x,y,_,gx,h=>by cases h; exact gx
 | i :: l,x,y,hl,gx,h=>by
  have h':(match tr i (ap x i) with | none=>none | some u=>siF tr l (Ma.mulN x (Ma.invN u)))=some y:=h
  cases e:tr i (ap x i) with
  | none=>rw [e] at h'; cases h'
  | some u =>
   rw [e] at h';exact siF_gd ht (fun j hj=>hl j (List.mem_cons_of_mem _ hj)) (Cm.gd_mul gx (Cm.gd_inv (ht i _ u (hl i (List.mem_cons_self ..)) e))) h'
theorem finTo_val {m:Nat}:∀ {k:Nat},k≤m→(finTo m k).map (fun x=>x.1)=List.range k
 | 0,_=>rfl
 | k+1,h=>by
  rw [finTo_succ h,List.map_append,finTo_val (Nat.le_of_succ_le h),List.range_succ]; rfl
theorem range_reps2 {g:Operand} {ps:Array Go.Tmp} {assign body:Code} {Q:Exit→Act→World→Prop} {a:Act} {w:World} {n₀ m cap fb:Nat} {ad:Option Addr} {RV:Nat→Value}
  (hg:a.eval g=.func (.func 185) #[] #[.pointer (some ⟨fb,0,none⟩)]) (hfb:CL w fb 2 (.slice ad m cap)) (h:RV3 n₀ w ad m RV) (hps:ps.size=2)
  (I:List (Fin m)→World→Prop) (Ix:Code→List (Fin m)→World→Prop) (hI:OwnFrom w.heap.size I) (hIx:∀ c,OwnFrom w.heap.size (Ix c)) (h0:I [] w) (a₁:Fin m→Act)
  (hassign:∀ (l:Nat) (x:Fin m) (W:World) (K:Act→World→Prop),K (a₁ x) W→assign.wpIn (Fence.wide.inRound l) 1 Tryz.prog (Exit.then K (fun _ _ _=>False)) { tmps:=(ps.zip #[Value.int .i64 ((x.1:Nat):Int),RV x.1]).foldl (fun t (p,v)=>t.setIfInBounds p v) a.tmps,defers:=[] } W)
  (hbody:∀ (l:Nat) (pre:List (Fin m)) (x:Fin m) (W:World),I pre W→pre.length<m→body.wpIn (Fence.wide.inRound l) 1 Tryz.prog (ownPostG w.heap.size (Below n₀) I Ix (pre++[x]) W) (a₁ x) W)
  (hdone:∀ (D:Nat) (W:World),w.heap.size≤D→I (finTo m m) W→RF.Dfr D W→Q .normal { a with defers:=RF.mark D :: a.defers } W)
  (hstop:∀ (D:Nat) (c:Code) (k:Nat) (W:World),w.heap.size≤D→k≤m→Ix c (finTo m k) W→RF.Dfr D W→c.wp Tryz.prog Q { a with defers:=RF.mark D :: a.defers } W) :
  (Code.rangeFunc g ps assign body).wp Tryz.prog Q a w :=
 wpIn_wide.1 (wpIn_rangeFunc_ownG (F:=Fence.wide) (n:=3) rfl (by decide) (gf:=185) (lb:=#[.pointer (some ⟨fb,0,none⟩)]) hg trivial (enters_of Tryz.func185 (by kernel_rfl) rfl)
  (reps_stops h hfb 2 (by decide)) belowK_t (belowK_b h.sz) (Below.refl _ _) (fun _=>hps.symm) I Ix hI hIx h0 a₁ hassign hbody
  (fun D xs W hD hx hi hd=>by subst hx; exact hdone D W hD hi hd) (fun D c pre W hD hp hi hd=>by obtain ⟨k,hk,rfl⟩:=hp; exact wpIn_wide.2 (hstop D c k W hD hk hi hd)))
theorem cell_nc {W W':World} {row:Option Nat} (hg:W.grownBy W' row) (hr:∀ r,row=some r→∃ o:Obj,W.heap[r]?=some o∧o.isCells=false) {a:Addr} {v:Value} (h:W.cell? a=some v):W'.cell? a=some v:=by
 have key:W'.heap[a.block]?=W.heap[a.block]?:=by
  unfold World.cell? at h
  cases e:W.heap[a.block]? with
  | none=>rw [e] at h; cases h
  | some o =>
   rw [e] at h;have hlt:=(Array.getElem?_eq_some_iff.1 e).1;refine (hg.block _ hlt fun e2=>?_).trans e;obtain ⟨o',ho,hc⟩:=hr _ e2.symm;rw [e] at ho
   cases ho
   cases o <;> simp at h <;> cases hc
 rw [World.cell?_of_block key];exact h
theorem fvals_nc {F:Nat→Prop} {W W':World} {row:Option Nat} (hg:W.grownBy W' row) (hr:∀ r,row=some r→∃ o:Obj,W.heap[r]?=some o∧o.isCells=false) {v:Value} {us:List Value} (h:Rg.FVals F W v us):Rg.FVals F W' v us:=by
 obtain ⟨a,cap,e,h1,h2,h3,h4⟩:=h;refine ⟨a,cap,e,h1,h2,h3,fun h0=>?_⟩;obtain ⟨b,o,e1,e2,e3,e4⟩:=h4 h0;exact ⟨b,o,e1,Nat.lt_of_lt_of_le e2 hg.size,e3,fun i hi=>cell_nc hg hr (e4 i hi)⟩
theorem fp_nc {F:Nat→Prop} {W W':World} {row:Option Nat} (hg:W.grownBy W' row) (hr:∀ r,row=some r→∃ o:Obj,W.heap[r]?=some o∧o.isCells=false) {v:Value} {p:List Nat} (h:FP F W v p):FP F W' v p:=fvals_nc hg hr h
def SfF (w:World) (z:Nat):Prop:=z<w.heap.size∨w.heap.size+4≤z
structure SfI (w:World) (n:Int) (ov rv:Value) (W:World) (yv:Value) (y:List Nat):Prop where
 bel:Below w.heap.size w W
 a0:CL W w.heap.size 0 (.int .i64 n)
 a1:CL W w.heap.size 1 ov
 a2:CL W w.heap.size 2 rv
 cx:CW W (w.heap.size+1) yv
 c4:CW W (w.heap.size+2) (.slice none 0 0)
 c5:CW W (w.heap.size+3) (.int .i64 0)
 fp:FP (SfF w) W yv y
theorem fp_below {F:Nat→Prop} {w w':World} {v:Value} {p:List Nat} (h:FP F w v p) (hb:Below w.heap.size w w'):FP F w' v p:=h.kf (KF.of_below hb)
theorem SfI.below {w:World} {n:Int} {ov rv:Value} {W W':World} {yv:Value} {y:List Nat} (h:SfI w n ov rv W yv y) (hb:Below W.heap.size W W'):SfI w n ov rv W' yv y :=
 ⟨h.bel.trans (hb.mono h.bel.size),h.a0.up hb,h.a1.up hb,h.a2.up hb,h.cx.below hb,h.c4.below hb,h.c5.below hb,fp_below h.fp hb⟩
theorem SfI.keep {w:World} {n:Int} {ov rv:Value} {W W':World} {yv:Value} {y:List Nat} {row:Option Nat} {B:Nat} (h:SfI w n ov rv W yv y) (hB:w.heap.size+4≤B) (hg:W.grownBy W' row) (hr:∀ r,row=some r→B≤r∧∃ o:Obj,W.heap[r]?=some o∧o.isCells=false):SfI w n ov rv W' yv y:=by
 have hk:Rg.Kp (fun k=>row=some k) W W':=Rg.Kp.of_grown hg fun _ e=>e
 have hM:∀ b,b<B→¬ row=some b:=fun b hb e=>by have:=(hr b e).1; omega
 exact ⟨h.bel.grown hg h.bel.size (fun k e=>by have:=(hr k e).1; omega),h.a0.kp hk (hM _ (by omega)),h.a1.kp hk (hM _ (by omega)),h.a2.kp hk (hM _ (by omega)),h.cx.kp hk (hM _ (by omega)),h.c4.kp hk (hM _ (by omega)),h.c5.kp hk (hM _ (by omega)),fp_nc hg (fun r e=>(hr r e).2) h.fp⟩
theorem SfI.set {w:World} {n:Int} {ov rv:Value} {W:World} {yv yv':Value} {y y':List Nat} (h:SfI w n ov rv W yv y) (hp:FP (SfF w) W yv' y'):SfI w n ov rv (W.setCell ⟨w.heap.size+1,0,none⟩ yv') yv' y':=by
 have hk:Rg.Kp (fun z=>z=w.heap.size+1) W (W.setCell ⟨w.heap.size+1,0,none⟩ yv'):=Rg.Kp.of_setCell rfl;exact ⟨h.bel.setCell (p:=⟨w.heap.size+1,0,none⟩) (by show w.heap.size≤w.heap.size+1; omega) _,h.a0.kp hk (by omega),h.a1.kp hk (by omega),h.a2.kp hk (by omega),h.cx.set _,h.c4.kp hk (by omega),h.c5.kp hk (by omega),Rg.FI.kp hp hk (fun z hz e=>by unfold SfF at hz; omega)⟩
theorem sf_new {w W W':World} {v:Value} {p:List Nat} (hW:w.heap.size+4≤W.heap.size) (hv:Rg.NPF W W' v p):FP (SfF w) W' v p:=by
 refine (FP.new (F:=SfF w) hv).mono fun k hk=>?_
 rcases hk with hk | hk
 ·exact hk
 ·exact .inr (by omega)
structure SfS (w W:World) (i:Nat) (yv:Value) (y:List Nat):Prop where
 bel:Below w.heap.size w W
 c4:CW W (w.heap.size+2) yv
 c5:CW W (w.heap.size+3) (.int .i64 ((i:Nat):Int))
 fp:FP (SfF w) W yv y
theorem SfS.keep {w W W':World} {i:Nat} {yv:Value} {y:List Nat} {row:Option Nat} {B:Nat} (h:SfS w W i yv y) (hB:w.heap.size+4≤B) (hg:W.grownBy W' row) (hr:∀ r,row=some r→B≤r∧∃ o:Obj,W.heap[r]?=some o∧o.isCells=false):SfS w W' i yv y:=by
 have hk:Rg.Kp (fun k=>row=some k) W W':=Rg.Kp.of_grown hg fun _ e=>e
 have hM:∀ b,b<B→¬ row=some b:=fun b hb e=>by have:=(hr b e).1; omega
 exact ⟨h.bel.grown hg h.bel.size (fun k e=>by have:=(hr k e).1; omega),h.c4.kp hk (hM _ (by omega)),h.c5.kp hk (hM _ (by omega)),fp_nc hg (fun r e=>(hr r e).2) h.fp⟩
theorem SfI.stop {w:World} {n:Int} {ov rv:Value} {W:World} {yv:Value} {y:List Nat} (h:SfI w n ov rv W yv y) (i:Nat):SfS w ((W.setCell ⟨w.heap.size+2,0,none⟩ yv).setCell ⟨w.heap.size+3,0,none⟩ (.int .i64 ((i:Nat):Int))) i yv y:=by
 have hk1:Rg.Kp (fun z=>z=w.heap.size+2) W (W.setCell ⟨w.heap.size+2,0,none⟩ yv):=Rg.Kp.of_setCell rfl;have hk2:Rg.Kp (fun z=>z=w.heap.size+3) (W.setCell ⟨w.heap.size+2,0,none⟩ yv) ((W.setCell ⟨w.heap.size+2,0,none⟩ yv).setCell ⟨w.heap.size+3,0,none⟩ (.int .i64 ((i:Nat):Int))):=Rg.Kp.of_setCell rfl
 exact ⟨(h.bel.setCell (p:=⟨w.heap.size+2,0,none⟩) (by show w.heap.size≤w.heap.size+2; omega) _).setCell (p:=⟨w.heap.size+3,0,none⟩) (by show w.heap.size≤w.heap.size+3; omega) _,(h.c4.set _).other _ (by omega),(h.c5.other _ (by omega)).set _,
  Rg.FI.kp (Rg.FI.kp h.fp hk1 (fun z hz e=>by unfold SfF at hz; omega)) hk2 (fun z hz e=>by unfold SfF at hz; omega)⟩
end Go.Proofs.YthehbckogieimaaGreat

namespace Go.Proofs.YthehbckogieimaaGreat
open Go.RowKit
open Go.Proofs
open Go.Proofs.Ob
open Go.Shelf
open Go.Proofs.Cm (Tr Gd ap sfP)
attribute [local go_sem] Oper.semAt_some
attribute [local irreducible] Go.Calls Go.wpList Go.wpListIn
theorem Zdcl2 (args:Array Value) (w:World):(callFunc 182 args).run Tryz.prog w=.ok (.enter 182 args) w:=by kernel_rfl
theorem results_cells2 {fn:Func} {p u:Go.Tmp} {t1 t2:TypeId} (h:fn.results=#[.cell p t1,.cell u t2]) (tmps:Array Value) {w:World} {b1 b2:Nat} {v1 v2:Value} (hp:tmps.getD p undef=.pointer (some ⟨b1,0,none⟩)) (hu:tmps.getD u undef=.pointer (some ⟨b2,0,none⟩))
  (h1:(loadVar t1 ⟨b1,0,none⟩).run Tryz.prog w=.ok v1 w) (h2:(loadVar t2 ⟨b2,0,none⟩).run Tryz.prog w=.ok v2 w) :
  (results fn tmps).run Tryz.prog w=.ok (.tuple #[v1,v2]) w:=by
 have hp':tmps[p]?.getD undef=.pointer (some ⟨b1,0,none⟩):=by simpa using hp
 have hu':tmps[u]?.getD undef=.pointer (some ⟨b2,0,none⟩):=by simpa using hu
 simp [results,h,hp',hu',asAddr,h1,h2,Result.andThen]
theorem exec_allocPm {o:Oper} {a:Act} {w:World} (ho:o.op=.alloc 51):(execOp a.eval o).run Tryz.prog w=.ok (.value (.pointer (some ⟨w.heap.size,0,none⟩))) (w.alloc (.cells #[.slice none 0 0] 51)):=by
 obtain ⟨i0,hi,hz0,hz1,hz2⟩:=info_parts infoPerm;unfold execOp;simp [ho,Instr.alloc,typeInfo,zeroValue,hi,hz0,newVar,Value.cells,Result.andThen];rfl
theorem fvals_cells {F:Nat→Prop} {W W':World} (hc:∀ a,W'.cell? a=W.cell? a) (hs:W.heap.size≤W'.heap.size) {v:Value} {us:List Value} (h:Rg.FVals F W v us):Rg.FVals F W' v us:=by
 obtain ⟨a,cap,e,h1,h2,h3,h4⟩:=h;refine ⟨a,cap,e,h1,h2,h3,fun h0=>?_⟩;obtain ⟨b,o,e1,e2,e3,e4⟩:=h4 h0;exact ⟨b,o,e1,Nat.lt_of_lt_of_le e2 hs,e3,fun i hi=>(hc _).trans (e4 i hi)⟩
def SiPost (n:Nat) (O:List (List Nat)) (R:List (List (List Nat))) (x:List Nat) (w:World) (e:Ending) (w':World):Prop:=∃ v,e=.returned (.tuple #[v,.int .i64 (((siC n O R x).1:Nat):Int)])∧Rg.NP w' v (siC n O R x).2∧Below w.heap.size w w'
theorem si_leave {n:Nat} {O:List (List Nat)} {R:List (List (List Nat))} {x:List Nat} {w W:World} {tmps:Array Value} {yv:Value} {y:List Nat} {i:Nat} {ds:List Nat} (hb:Below w.heap.size w W) (h4:CW W (w.heap.size+2) yv) (h5:CW W (w.heap.size+3) (.int .i64 ((i:Nat):Int))) (hp:FP (SfF w) W yv y) (he:siC n O R x=(i,y)) (p4:tmps.getD 4 undef=.pointer (some ⟨w.heap.size+2,0,none⟩)) (p5:tmps.getD 5 undef=.pointer (some ⟨w.heap.size+3,0,none⟩)) (hnd:ds.Nodup) (hD:∀ D,D∈ds→RF.Dfr D W∧w.heap.size≤D) :
  LeavesInM Fence.wide 0 Tryz.prog Tryz.f111 tmps (SiPost n O R x w) (ds.map RF.mark) .returning W :=
 RF.leaves w.heap.size ds W hnd hD fun W' l1 l2 _=>⟨_,results_cells2 rfl _ p4 p5 (Rg.run_loadSl _ _ Tryz.underlying51 ((l2 _).trans h4.c)) (run_loadInt ((l2 _).trans h5.c)),yv,by rw [he],by rw [he]; exact FP.np (fvals_cells l2 l1.size hp),hb.trans l1⟩
def SfX {m:Nat} (w:World) (tr:Tr) (x:List Nat) (pre:List (Fin m)) (W:World):Prop:=∃ pre0 X yv y,pre=pre0++[X]∧SfS w W X.1 yv y∧siF tr (pre0.map fun z=>z.1) x=some y∧tr X.1 (ap y X.1)=none
theorem finTo_split {m k:Nat} (hk:k≤m) {pre:List (Fin m)} {x:Fin m} (h:finTo m k=pre++[x]):k=x.1+1∧pre=finTo m x.1:=by
 cases k with
 | zero=>have:=congrArg List.length h; simp [finTo_zero] at this
 | succ k =>
  rw [finTo_succ hk] at h;obtain ⟨e1,e2⟩:=List.append_inj' h rfl
  injection e2 with e2
  subst e2;exact ⟨rfl,e1.symm⟩
theorem gd_mem {n:Nat} {y:List Nat} (h:Gd n y) {z:Nat} (hz:z∈y):z<n:=by
 obtain ⟨i,hi,rfl⟩:=List.getElem_of_mem hz;have:=Cm.ap_lt h (i:=i) (by rw [← h.2]; exact hi)
 rwa [Cm.ap_at hi] at this
theorem bs_in {v:Value} {l:List Nat} {q k:Nat} {w:World} (h:Rg.Ints w v (Ma.ofN l)) (hs:l.Pairwise (· < ·)) (hl:l.length<1000000) (hm:q∈l) (hk:Hid (l.idxOf q=k)) :
  Calls Tryz.prog 182 #[v,.int .i64 ((q:Nat):Int)] w fun e w'=>e=.returned (.tuple #[.int .i64 ((k:Nat):Int),.bool true])∧Below w.heap.size w w':=by
 refine (search_any v (Ma.ofN l) q w h (asc_le hs) (by rw [Ma.len_ofN]; exact hl)).mono ?_;rintro e w' ⟨rfl,hb⟩;exact ⟨by rw [asc_count hs hm,ofN_contains,decide_eq_true hm,hk.out],hb⟩
theorem bs_out {v:Value} {l:List Nat} {q:Nat} {w:World} (h:Rg.Ints w v (Ma.ofN l)) (hs:l.Pairwise (· < ·)) (hl:l.length<1000000) (hm:¬ q∈l) :
  Calls Tryz.prog 182 #[v,.int .i64 ((q:Nat):Int)] w fun e w'=>∃ k,e=.returned (.tuple #[.int .i64 k,.bool false])∧Below w.heap.size w w':=by
 refine (search_any v (Ma.ofN l) q w h (asc_le hs) (by rw [Ma.len_ofN]; exact hl)).mono ?_;rintro e w' ⟨rfl,hb⟩;exact ⟨_,by rw [ofN_contains,decide_eq_false hm],hb⟩
theorem csift_any {n:Nat} {H:List Nat→Prop} {O:List (List Nat)} {R:List (List (List Nat))} (hn1:1≤n) (hn2:n≤64) (hH:Cm.IsG n H) (hch:Cm.IsChain n H O R) {OO:List (List Int)} {RR:List (List (List Int))} (hOO:OO=O.map Ma.ofN) (hRR:RR=R.map (List.map Ma.ofN)) {ov rv xv:Value} {x:List Nat} {w:World} (h:ChEqR w ov rv OO RR) (hx:Rg.NP w xv x) (gx:Gd n x) :
  Calls Tryz.prog 111 #[.agg #[.int .i64 ((n:Nat):Int),ov,rv],xv] w (SiPost n O R x w):=by
 obtain ⟨oa,oc,rfl,-,hoL,-,-⟩:=h.1.shape;obtain ⟨ra,rc,rfl⟩:=h.2.shape;obtain ⟨xa,xc,rfl,-⟩:=Rg.Ints.shape hx;have hxl:x.length=n:=gx.2;rw [Ma.len_ofN,hxl] at hx ⊢;have HO:=ι h.1;have HR:=ι h.2;have HX:=ι hx;have GX:=ι gx;have HH:=ι hH;have HCH:=ι hch;have HOO:=ι hOO;have HRR:=ι hRR;have HLO:=ι (show OO.length=n by rw [hOO,List.length_map,hch.lenO]);have HLR:=ι (show RR.length=n by rw [hRR,List.length_map,hch.lenR]);have HTG:=ι (show ∀ i p u,i<n→trC O R i p=some u→Gd n u from fun i p u hi hu=>(trC_isTr hH hch).rp.gd i p u (Nat.zero_le _) hi hu);have K:=ι (Below.refl w.heap.size w);clear h hx gx hH hch hOO hRR hxl;refine RF.calls_marks Tryz.func111 rfl ?_;simp only [Tryz.ntmps111,List.size_toArray,List.length_cons,List.length_nil,Nat.reduceAdd,Nat.reduceSub,Array.replicate_succ,Array.replicate_zero,List.push_toArray,List.append_toArray,List.nil_append,List.cons_append]
 have hbx:=box3 w (.int .i64 ((n:Nat):Int)) (.slice oa OO.length oc) (.slice ra RR.length rc)
 have hs:(w.alloc (.cells #[.int .i64 ((n:Nat):Int),.slice oa OO.length oc,.slice ra RR.length rc] 54)).heap.size=w.heap.size+1:=by simp
 go_upto_region 0 with (fail);refine Rg.wl ?_;refine Rg.lr 2 (Rg.exec_box _ _ rfl rfl) ?_;go_frame;have hb:Below w.heap.size w (w.alloc (.cells #[.int .i64 ((n:Nat):Int),.slice oa OO.length oc,.slice ra RR.length rc] 54)):=(Below.refl _ _).alloc (Nat.le_refl _) _;generalize w.alloc (.cells #[.int .i64 ((n:Nat):Int),.slice oa OO.length oc,.slice ra RR.length rc] 54)=w1 at *;have A0:=ι hbx.1;have A1:=ι hbx.2.1;have A2:=ι hbx.2.2;replace K:=ι hb;have hs1:w1.heap.size=w.heap.size+1:=hs;clear hbx hb hs;have hnw:=CW.new w1 (.slice xa n xc) 51
 have hs:(w1.alloc (.cells #[.slice xa n xc] 51)).heap.size=w1.heap.size+1:=by simp
 refine Rg.lr 3 (exec_boxV (v:=.slice xa n xc) _ _ rfl rfl rfl) ?_;go_frame;have hb:=(Below.refl w1.heap.size w1).alloc (Nat.le_refl _) (.cells #[.slice xa n xc] 51);generalize w1.alloc (.cells #[.slice xa n xc] 51)=w2 at *;replace A0:=ι (A0.out.below hb);replace A1:=ι (A1.out.below hb);replace A2:=ι (A2.out.below hb);replace K:=ι (Rg.acc K.out hb);clear hb;rw [hs1] at hnw ⊢
 have hs2:w2.heap.size=w.heap.size+2:=by omega
 have CX:=ι hnw;clear hnw hs;have hnw:=CW.new w2 (.slice none 0 0) 51
 have hs:(w2.alloc (.cells #[.slice none 0 0] 51)).heap.size=w2.heap.size+1:=by simp
 refine Rg.lr 4 (exec_allocPm rfl) ?_;go_frame;have hb:=(Below.refl w2.heap.size w2).alloc (Nat.le_refl _) (.cells #[.slice none 0 0] 51);generalize w2.alloc (.cells #[.slice none 0 0] 51)=w3 at *;replace A0:=ι (A0.out.below hb);replace A1:=ι (A1.out.below hb);replace A2:=ι (A2.out.below hb);replace CX:=ι (CX.out.below hb);replace K:=ι (Rg.acc K.out hb);clear hb;rw [hs2] at hnw ⊢
 have hs3:w3.heap.size=w.heap.size+3:=by omega
 have C4:=ι hnw;clear hnw hs;have hnw:=CW.new w3 (.int .i64 0) 3
 have hs:(w3.alloc (.cells #[.int .i64 0] 3)).heap.size=w3.heap.size+1:=by simp
 refine Rg.lr 5 (exec_allocI rfl) ?_;go_frame;have hb:=(Below.refl w3.heap.size w3).alloc (Nat.le_refl _) (.cells #[.int .i64 0] 3);generalize w3.alloc (.cells #[.int .i64 0] 3)=w4 at *;replace A0:=ι (A0.out.below hb);replace A1:=ι (A1.out.below hb);replace A2:=ι (A2.out.below hb);replace CX:=ι (CX.out.below hb);replace C4:=ι (C4.out.below hb);replace K:=ι (Rg.acc K.out hb);clear hb;rw [hs3] at hnw ⊢
 have hs4:w4.heap.size=w.heap.size+4:=by omega
 have C5:=ι hnw;clear hnw hs;have HXB:=ι (show Rg.Ints w4 (.slice xa n xc) (Ma.ofN x) from Rg.Ints.below HX.out K.out);go_upto_region 1 with (fail);refine Rg.wl ?_;refine Rg.lr 10 (Rg.exec_load (v:=.slice xa n xc) _ _ rfl ⟨(w.heap.size+1),0,none⟩ rfl (Rg.run_loadSl _ _ Tryz.underlying51 CX.out.c)) ?_;go_frame;refine list_ask (some 11) rfl rfl _ _ (exec_fn1 123 _ _ rfl rfl (Vzcl3 _ _)) ?_;refine (Clone_any _ (Ma.ofN x) w4 HXB.out (by rw [Ma.len_ofN,GX.out.2]; exact hn1) (by rw [Ma.len_ofN,GX.out.2]; omega)).mono ?_;rintro e1 w5 ⟨yv0,rfl,hyr,hb⟩;have hyf:FP (SfF w) w5 yv0 x:=OwI.fi ⟨hyr⟩ (by rw [Ma.len_ofN,GX.out.2]; omega) (G:=SfF w) (fun k g1 g2=>.inr (by omega));obtain ⟨ya0,yo0,yc0,rfl⟩:=FP.shape' hyf GX.out hn1;clear hyr;refine ⟨_,rfl,?_⟩;go_frame;replace A0:=ι (A0.out.below hb);replace A1:=ι (A1.out.below hb);replace A2:=ι (A2.out.below hb);replace CX:=ι (CX.out.below hb)
 replace C4:=ι (C4.out.below hb);replace C5:=ι (C5.out.below hb);replace HXB:=ι (HXB.out.below hb);replace K:=ι (Rg.acc K.out hb);clear hb;have HY:=ι hyf;refine Rg.list_skip none rfl rfl (Rg.exec_store _ _ _ rfl _ rfl _ rfl (Rg.run_storeSl _ infoPerm CX.out.c CX.out.f)) ?_;go_frame;clear hyf;have hsi:=SfI.set (yv:=.slice xa n xc) (y:=x) (show SfI w ((n:Nat):Int) (.slice oa OO.length oc) (.slice ra RR.length rc) w5 (.slice xa n xc) x from ⟨K.out,A0.out,A1.out,A2.out,CX.out,C4.out,C5.out,(show FP (SfF w) w5 (.slice xa n xc) x from (Rg.FI.mono (Rg.FI.kp (Rg.FI.old HX.out) (Rg.Kp.of_below (M:=fun _=>False) K.out) (fun _ _=>id)) (fun k hk=>.inl hk)))⟩) HY.out;have hsz:w.heap.size+4≤w5.heap.size:=C5.out.lt
 have hs9:(w5.setCell ⟨w.heap.size+1,0,none⟩ (.slice (some ⟨ya0,yo0,none⟩) n yc0)).heap.size=w5.heap.size:=by simp
 rw [← hs9] at hsz;generalize w5.setCell ⟨w.heap.size+1,0,none⟩ (.slice (some ⟨ya0,yo0,none⟩) n yc0)=w20 at *;have SI:=ι hsi;have HSZ:=ι hsz;clear hsi hsz hs9 hs1 hs2 hs3 hs4 A0 A1 A2 CX C4 C5 HXB HY;replace K:=ι SI.out.bel;go_upto_region 2 with (fail);refine Rg.wl ?_;refine Rg.lr 12 (Rg.exec_load (v:=(.agg #[.int .i64 ((n:Nat):Int),.slice oa OO.length oc,.slice ra RR.length rc])) _ _ rfl ⟨w.heap.size,0,none⟩ rfl (run_loadC3 SI.out.a0.cell SI.out.a1.cell SI.out.a2.cell)) ?_;go_frame;refine list_ask (some 13) rfl rfl _ _ (exec_fn1 114 _ _ rfl rfl (Wvcl0 _ _)) ?_;refine (reps_any _ _ _ w20).mono ?_;rintro e1 w21 ⟨fb,rfl,hfb,hb⟩;have hsz:=hb.size;refine ⟨_,rfl,?_⟩;go_frame;replace SI:=ι (SI.out.below hb);replace K:=ι (Rg.acc K.out hb);clear hb;have FB:=ι hfb;clear hfb;have HS0:=ι (show w.heap.size+4≤w21.heap.size by have:=HSZ.out; omega);clear hsz
 obtain ⟨us,hus,hul,hur⟩:=HR.out;have HUR:=ι hur
 have hrv:RV3 w.heap.size w21 ra RR.length (fun k=>us[k]?.getD undef):=by
  obtain ⟨a',c',e,q1,q2,q3,q4⟩:=hus
  injection e with e1 e2 e3
  refine ⟨by have:=HLR.out; omega,fun h0=>?_,fun b off e5 j hj=>?_,K.out.size⟩
  ·obtain ⟨b,o,e4,e5,_⟩:=q4 (by omega)
   exact ⟨b,o,e1.trans e4,e5⟩
  ·obtain ⟨b',o',e4,e6,e7⟩:=q4 (by omega)
   rw [e1,e4] at e5;simp only [Option.some.injEq,Addr.mk.injEq,and_true] at e5;obtain ⟨rfl,rfl⟩:=e5;rw [(K.out.cell (p:=⟨b',o'+j,none⟩) e6)];show _=some (us[j]?.getD undef);rw [List.getElem?_eq_getElem (by omega)];exact e7 j (by omega)
 have HRV:=ι hrv;have HUL:=ι hul;clear hus hrv hul hur;go_wp2
 refine range_reps2 rfl FB.out HRV.out rfl (fun pre W=>∃ yv y,SfI w ((n:Nat):Int) (.slice oa OO.length oc) (.slice ra RR.length rc) W yv y∧siF (trC O R) (pre.map fun z=>z.1) x=some y)
  (fun c pre W=>c=.ret∧SfX w (trC O R) x pre W) ?hI ?hIx ⟨_,_,SI.out,rfl⟩ ?a1 ?assign ?body ?done ?stop
 case assign =>
  intro l x W K hK
  gi_wp2
  exact hK
 case hI =>
  rintro pre W W' row ⟨yv,y,h1,h2⟩ hg hr;exact ⟨yv,y,h1.keep (by have:=HS0.out; omega) hg hr,h2⟩
 case hIx =>
  rintro c pre W W' row ⟨rfl,pre0,X,yv,y,h1,h2,h3⟩ hg hr;exact ⟨rfl,pre0,X,yv,y,h1,h2.keep (by have:=HS0.out; omega) hg hr,h3⟩
 case body =>
  rintro l pre ⟨X,hX⟩ Wb ⟨yv,y,hsi,hsf⟩ hpl;obtain ⟨B,hB⟩:∃ B,w21.heap.size=B:=⟨_,rfl⟩;rw [hB] at HS0 ⊢;clear FB HRV SI K hB
  have hXn:X<n:=by have:=HLR.out; omega
  have gy:Gd n y:=siF_gd HTG.out (fun i hi=>by obtain ⟨z,_,rfl⟩:=List.mem_map.1 hi; have:=z.2; have:=HLR.out; omega) GX.out hsf;obtain ⟨ya,yo,yc,rfl⟩:=FP.shape' hsi.fp gy hn1;have SI:=ι hsi;have K:=ι hsi.bel;have KQ:=ι (KK.refl (B:=B) (n₀:=w.heap.size) (W:=Wb) hsi.bel.size);have HSF:=ι hsf;have GY:=ι gy;have HXR:=ι hX;have HXO:=ι (show X<OO.length by have:=HLO.out; omega);have HXN:=ι hXn;have HWB:=ι (show w.heap.size+4≤Wb.heap.size from hsi.c5.lt);clear hsi hsf;have hu:=HUR.out X (by rw [HUL.out]; exact hX) hX
  have e1:us[X]?.getD undef=us[X]'(by rw [HUL.out]; exact hX):=by rw [List.getElem?_eq_getElem (by rw [HUL.out]; exact hX)]; rfl
  rw [← e1] at hu
  dsimp only
  generalize us[X]?.getD undef=u at *;clear e1;obtain ⟨rl,hrl⟩:∃ rl:List (List Nat),Hid (R.getD X []=rl):=⟨_,ι rfl⟩;obtain ⟨ol,hol⟩:∃ ol:List Nat,Hid (O.getD X []=ol):=⟨_,ι rfl⟩
  have hrx:RR[X]'hX=rl.map Ma.ofN:=by
   rw [← hrl.out]
   have hXR:X<R.length:=by rw [HCH.out.lenR]; exact hXn
   have:RR[X]'hX=(R.map (List.map Ma.ofN))[X]'(by rw [List.length_map]; exact hXR):=by first | (congr 1; done) | (congr 1; exact HRR.out)
   rw [this,List.getElem_map,getD_inf hXR]
  have hox:OO[X]'HXO.out=Ma.ofN ol:=by
   rw [← hol.out]
   have hXO:X<O.length:=by rw [HCH.out.lenO]; exact hXn
   have:OO[X]'HXO.out=(O.map Ma.ofN)[X]'(by rw [List.length_map]; exact hXO):=by first | (congr 1; done) | (congr 1; exact HOO.out)
   rw [this,List.getElem_map,getD_inf hXO]
  rw [hrx] at hu;have HLEN:=ι (show rl.length=ol.length by rw [← hrl.out,← hol.out]; exact HCH.out.len X hXn);have HASC:=ι (show ol.Pairwise (· < ·) by rw [← hol.out]; exact HCH.out.asc X hXn);have hoL:=chain_len HH.out HCH.out hXn;rw [hol.out] at hoL;obtain ⟨ua,uc,rfl,-,-,-,hrc⟩:=hu.shape;have HRC:=ι hrc;obtain ⟨oa',oc',e2,_,_,_,hos⟩:=HO.out.shape
  injection e2 with e3 _ e5
  subst e3 e5;obtain ⟨ob,oo,rfl,hob,hos⟩:=hos (by have:=HXO.out; omega);obtain ⟨yv,hyc,hyi⟩:=hos X HXO.out;rw [hox] at hyi;obtain ⟨qa,qc,rfl,-⟩:=hyi.shape;rw [Ma.len_ofN] at hyi hyc;rw [List.length_map];have CO:=ι (CL.mk hyc hob);have IO:=ι hyi;obtain ⟨q,hq⟩:∃ q:Nat,Hid (ap y X=q):=⟨_,ι rfl⟩;have CX:=ι (show CL Wb ya (yo+X) (.int .i64 ((q:Nat):Int)) by rw [← hq.out]; exact CL.mk (SI.out.fp.ap GY.out hXn).cell (SI.out.fp.ap GY.out hXn).lt);clear hrc hos hyc hyi hob hu hrx hox
  by_cases hm:q∈ol
  case neg =>
   skip
   gi_upto_region 5 with (fail)
   have hV0:Below Wb.heap.size Wb Wb.drew:=(Below.refl _ _).drew;replace SI:=ι (SI.out.below hV0);replace KQ:=ι (KQ.out.below hV0);replace CX:=ι (CX.out.below hV0);replace K:=ι (Rg.acc K.out hV0);clear hV0;refine Rg.Any.beginIn (hnd:=by kernel_rfl) (S:=Rg.Both 14 (fun W=>Below Wb.drew.heap.size Wb.drew W) (fun W=>Below w.heap.size w W)) mix ?_;generalize Wb.drew=w41 at *;have hS:∀ (l:Array Bool) W,Below w41.heap.size w41 W→Below w.heap.size w W→Rg.Both 14 (fun W=>Below w41.heap.size w41 W) (fun W=>Below w.heap.size w W) l W:=fun l W h h2=>⟨.inr h,h2⟩;have hS2:∀ (l:Array Bool) W,l.getD 14 false=true→Below w.heap.size w W→Rg.Both 14 (fun W=>Below w41.heap.size w41 W) (fun W=>Below w.heap.size w W) l W:=fun l W h h2=>⟨.inl h,h2⟩;have hI:=K.out;refine Rg.tg 0 14 (.pointer (some ⟨w.heap.size,1,none⟩)) 17 rfl rfl (.inl ⟨rfl,fun w _=>exec_field _ rfl rfl (chF1 _ _)⟩) (hS _ _ (Below.refl _ _) hI) ?_;go_frame
   refine Rg.Any.takeT (i:=1) (t:=14) (v:=.slice (some ⟨ob,oo,none⟩) OO.length oc) (some 18) rfl rfl (by kernel_rfl) (by kernel_rfl) (by kernel_rfl) (fun _ _ _ h=>h) rfl (by kernel_rfl) rfl (Rg.yields_cell _ _ rfl rfl ⟨w.heap.size,1,none⟩ rfl (fun W hW=>Rg.run_loadSl _ _ Tryz.underlying27 ((Below.cell (p:=⟨w.heap.size,1,none⟩) hW SI.out.a1.lt).trans SI.out.a1.cell))) (hS _ _ (Below.refl _ _) hI) ?_;go_frame;refine Rg.tg 2 14 (.int .i64 ((X:Nat):Int)) 19 rfl rfl (.inl ⟨rfl,fun w _=>Rg.exec_move (v:=.int .i64 ((X:Nat):Int)) _ rfl rfl⟩) (hS _ _ (Below.refl _ _) hI) ?_;go_frame;refine Rg.tg 3 14 (.pointer (some ⟨ob,oo+X,none⟩)) 20 rfl rfl (Rg.yields_index slIntss _ _ rfl rfl ob (oo) (OO.length) oc (X) rfl rfl HXO.out) (hS _ _ (Below.refl _ _) hI) ?_;go_frame;refine Rg.tg 4 14 (.slice qa ol.length qc) 21 rfl rfl (Rg.yields_cell _ _ rfl rfl ⟨ob,oo+X,none⟩ rfl (fun W hW=>Rg.run_loadSl _ _ Tryz.underlying36 ((Below.cell (p:=⟨ob,oo+X,none⟩) hW CO.out.lt).trans CO.out.cell))) (hS _ _ (Below.refl _ _) hI) ?_;go_frame
   refine Rg.Any.takeT (i:=5) (t:=14) (v:=.slice (some ⟨ya,yo,none⟩) n yc) (some 22) rfl rfl (by kernel_rfl) (by kernel_rfl) (by kernel_rfl) (fun _ _ _ h=>h) rfl (by kernel_rfl) rfl (Rg.yields_cell _ _ rfl rfl ⟨(w.heap.size+1),0,none⟩ rfl (fun W hW=>Rg.run_loadSl _ _ Tryz.underlying51 ((Below.cell (p:=⟨(w.heap.size+1),0,none⟩) hW SI.out.cx.lt).trans SI.out.cx.c))) (hS _ _ (Below.refl _ _) hI) ?_;go_frame;refine Rg.tg 6 14 (.int .i64 ((X:Nat):Int)) 23 rfl rfl (.inl ⟨rfl,fun w _=>Rg.exec_move (v:=.int .i64 ((X:Nat):Int)) _ rfl rfl⟩) (hS _ _ (Below.refl _ _) hI) ?_;go_frame;refine Rg.tg 7 14 (.pointer (some ⟨ya,yo+X,none⟩)) 24 rfl rfl (Rg.yields_index slPerm _ _ rfl rfl ya (yo) (n) yc (X) rfl rfl HXN.out) (hS _ _ (Below.refl _ _) hI) ?_;go_frame;refine Rg.Any.takeT (i:=8) (t:=14) (v:=.int .i64 ((q:Nat):Int)) (some 25) rfl rfl (by kernel_rfl) (by kernel_rfl) (by kernel_rfl) (fun _ _ _ h=>h) rfl (by kernel_rfl) rfl (Rg.yields_cell _ _ rfl rfl ⟨ya,yo+X,none⟩ rfl (fun W hW=>run_loadInt ((Below.cell (p:=⟨ya,yo+X,none⟩) hW CX.out.lt).trans CX.out.cell))) (hS _ _ (Below.refl _ _) hI) ?_;go_frame
   refine Rg.Any.one (i:=9) (by kernel_rfl) (Rg.Any.ask (some 26) rfl rfl rfl _ _ (exec_fn 182 _ _ _ rfl rfl rfl (Zdcl2 _ _)) ?_);refine (bs_out (IO.out.below hI) HASC.out (by omega) hm).mono ?_;rintro e1 w42 ⟨kk,rfl,hb⟩;have hI2_0:=Rg.acc hI hb;have hI2_1:=hb;clear hb hI;refine ⟨_,rfl,(hS _ _ hI2_1 hI2_0),?_⟩;go_frame;refine Rg.tg 10 14 (.tuple #[.int .i64 kk,.bool false]) 16 rfl rfl (.inl ⟨rfl,fun w _=>Rg.exec_move (v:=.tuple #[.int .i64 kk,.bool false]) _ rfl rfl⟩) (hS _ _ hI2_1 hI2_0) ?_;go_frame;refine Rg.tg 11 14 (.int .i64 kk) 27 rfl rfl (.inl ⟨rfl,fun w _=>exec_extract (v:=.int .i64 kk) _ _ rfl rfl rfl⟩) (hS _ _ hI2_1 hI2_0) ?_;go_frame;refine Rg.tg 12 14 (.bool false) 28 rfl rfl (.inl ⟨rfl,fun w _=>exec_extract (v:=.bool false) _ _ rfl rfl rfl⟩) (hS _ _ hI2_1 hI2_0) ?_;go_frame;refine Rg.tg 13 14 (.int .i64 kk) 8 rfl rfl (.inl ⟨rfl,fun w _=>Rg.exec_assign (v:=.int .i64 kk) _ rfl rfl⟩) (hS _ _ hI2_1 hI2_0) ?_;go_frame
   refine Rg.Any.one (i:=14) (by kernel_rfl) (Rg.Any.run (some 9) rfl rfl rfl (Rg.xa (.bool false) _ rfl rfl) (hS2 _ _ rfl hI2_0) ?_);go_frame;refine Rg.Any.done (by kernel_rfl) ?_ _;refine Rg.onlyN_i ?_;replace SI:=ι (SI.out.below hI2_1);replace KQ:=ι (KQ.out.below hI2_1);replace CX:=ι (CX.out.below hI2_1);replace K:=ι hI2_0;clear hS2;clear hS hI2_0 hI2_1
   gi_upto_region 6 with (fail)
   refine wpIn_region_list ?_;refine Rg.in_run (some 29) rfl rfl (fun _ hh=>by cases hh) (Rg.xm (.bool false) _ rfl rfl) ?_;go_frame;refine Rg.in_run (some 30) rfl rfl (fun _ hh=>by cases hh) (exec_not _ _ false rfl rfl) ?_;go_frame
   gi_upto_region 7 with (fail)
   refine wpIn_region_list ?_;refine Rg.in_run (some 31) rfl rfl (fun _ hh=>by cases hh) (Rg.exec_load (v:=.slice (some ⟨ya,yo,none⟩) n yc) _ _ rfl ⟨(w.heap.size+1),0,none⟩ rfl (Rg.run_loadSl _ _ Tryz.underlying51 SI.out.cx.c)) ?_;go_frame;refine Rg.in_run (some 32) rfl rfl (fun _ hh=>by cases hh) (Rg.xm (.int .i64 ((X:Nat):Int)) _ rfl rfl) ?_;go_frame;refine Rg.in_skip none rfl rfl (fun _ hh=>by cases hh) (Rg.exec_store _ _ _ rfl _ rfl _ rfl (Rg.run_storeSl _ infoPerm SI.out.c4.c SI.out.c4.f)) ?_;go_frame;refine Rg.in_skip none rfl rfl (fun _ hh=>by cases hh) (Rg.exec_store _ _ _ rfl _ rfl _ rfl (run_storeInt _ (SI.out.c5.other _ (by omega)).c (SI.out.c5.other _ (by omega)).f)) ?_;go_frame;have hss:=SI.out.stop X;have hq2:=(KQ.out.set (b:=w.heap.size+2) (o:=0) (.slice (some ⟨ya,yo,none⟩) n yc) (by omega)).set (b:=w.heap.size+3) (o:=0) (.int .i64 ((X:Nat):Int)) (by omega)
   generalize (w42.setCell ⟨w.heap.size+2,0,none⟩ (.slice (some ⟨ya,yo,none⟩) n yc)).setCell ⟨w.heap.size+3,0,none⟩ (.int .i64 ((X:Nat):Int))=w99 at *;have SS:=ι hss;have QX:=ι hq2;have HTN:=ι (show trC O R X (ap y X)=none from trC_none (by rw [hol.out,hq.out]; exact hm));have SX:=ι (show SfX w (trC O R) x (pre++[⟨X,HXR.out⟩]) w99 from ⟨pre,⟨X,HXR.out⟩,_,y,rfl,SS.out,HSF.out,HTN.out⟩);clear hss hq2
   gi_wp2
   exact ⟨QX.out.keeps,rfl,SX.out⟩
  case pos =>
   obtain ⟨k,hk⟩:∃ k:Nat,Hid (ol.idxOf q=k):=⟨_,ι rfl⟩
   have hkl:k<ol.length:=by rw [← hk.out]; exact List.idxOf_lt_length_of_mem hm
   have hkr:k<rl.length:=by have:=HLEN.out; omega
   have HKR:=ι hkr;obtain ⟨ub,uo,rfl,hub,huc⟩:=HRC.out (by rw [List.length_map]; omega);obtain ⟨sv,hsc,hsi⟩:=huc k (by rw [List.length_map]; exact hkr);obtain ⟨s,hs⟩:∃ s:List Nat,Hid (rl[k]'hkr=s):=⟨_,ι rfl⟩
   have hsn:Rg.NP w sv s:=by rw [← hs.out]; rw [List.getElem_map] at hsi; exact hsi
   have HTS:=ι (show trC O R X (ap y X)=some s by
    rw [hq.out];have e:=trC_some (R:=R) (show q∈O.getD X [] by rw [hol.out]; exact hm)
    rw [e,hol.out,hk.out,hrl.out,← hs.out,List.getD_eq_getElem?_getD,List.getElem?_eq_getElem hkr]; rfl)
   have GS:=ι (HTG.out X _ s hXn HTS.out);obtain ⟨sa,so,sc,rfl⟩:=(FP.of_np hsn).shape' GS.out hn1;have CS:=ι (CL.mk hsc hub);have NS:=ι (show Rg.Ints w _ (Ma.ofN s) from hsn);clear huc hsc hsi hsn hub
   gi_upto_region 5 with (fail)
   have hV0:Below Wb.heap.size Wb Wb.drew:=(Below.refl _ _).drew;replace SI:=ι (SI.out.below hV0);replace KQ:=ι (KQ.out.below hV0);replace CX:=ι (CX.out.below hV0);replace K:=ι (Rg.acc K.out hV0);clear hV0;refine Rg.Any.beginIn (hnd:=by kernel_rfl) (S:=Rg.Both 14 (fun W=>Below Wb.drew.heap.size Wb.drew W) (fun W=>Below w.heap.size w W)) mix ?_;generalize Wb.drew=w41 at *;have hS:∀ (l:Array Bool) W,Below w41.heap.size w41 W→Below w.heap.size w W→Rg.Both 14 (fun W=>Below w41.heap.size w41 W) (fun W=>Below w.heap.size w W) l W:=fun l W h h2=>⟨.inr h,h2⟩;have hS2:∀ (l:Array Bool) W,l.getD 14 false=true→Below w.heap.size w W→Rg.Both 14 (fun W=>Below w41.heap.size w41 W) (fun W=>Below w.heap.size w W) l W:=fun l W h h2=>⟨.inl h,h2⟩;have hI:=K.out;refine Rg.tg 0 14 (.pointer (some ⟨w.heap.size,1,none⟩)) 17 rfl rfl (.inl ⟨rfl,fun w _=>exec_field _ rfl rfl (chF1 _ _)⟩) (hS _ _ (Below.refl _ _) hI) ?_;go_frame
   refine Rg.Any.takeT (i:=1) (t:=14) (v:=.slice (some ⟨ob,oo,none⟩) OO.length oc) (some 18) rfl rfl (by kernel_rfl) (by kernel_rfl) (by kernel_rfl) (fun _ _ _ h=>h) rfl (by kernel_rfl) rfl (Rg.yields_cell _ _ rfl rfl ⟨w.heap.size,1,none⟩ rfl (fun W hW=>Rg.run_loadSl _ _ Tryz.underlying27 ((Below.cell (p:=⟨w.heap.size,1,none⟩) hW SI.out.a1.lt).trans SI.out.a1.cell))) (hS _ _ (Below.refl _ _) hI) ?_;go_frame;refine Rg.tg 2 14 (.int .i64 ((X:Nat):Int)) 19 rfl rfl (.inl ⟨rfl,fun w _=>Rg.exec_move (v:=.int .i64 ((X:Nat):Int)) _ rfl rfl⟩) (hS _ _ (Below.refl _ _) hI) ?_;go_frame;refine Rg.tg 3 14 (.pointer (some ⟨ob,oo+X,none⟩)) 20 rfl rfl (Rg.yields_index slIntss _ _ rfl rfl ob (oo) (OO.length) oc (X) rfl rfl HXO.out) (hS _ _ (Below.refl _ _) hI) ?_;go_frame;refine Rg.tg 4 14 (.slice qa ol.length qc) 21 rfl rfl (Rg.yields_cell _ _ rfl rfl ⟨ob,oo+X,none⟩ rfl (fun W hW=>Rg.run_loadSl _ _ Tryz.underlying36 ((Below.cell (p:=⟨ob,oo+X,none⟩) hW CO.out.lt).trans CO.out.cell))) (hS _ _ (Below.refl _ _) hI) ?_;go_frame
   refine Rg.Any.takeT (i:=5) (t:=14) (v:=.slice (some ⟨ya,yo,none⟩) n yc) (some 22) rfl rfl (by kernel_rfl) (by kernel_rfl) (by kernel_rfl) (fun _ _ _ h=>h) rfl (by kernel_rfl) rfl (Rg.yields_cell _ _ rfl rfl ⟨(w.heap.size+1),0,none⟩ rfl (fun W hW=>Rg.run_loadSl _ _ Tryz.underlying51 ((Below.cell (p:=⟨(w.heap.size+1),0,none⟩) hW SI.out.cx.lt).trans SI.out.cx.c))) (hS _ _ (Below.refl _ _) hI) ?_;go_frame;refine Rg.tg 6 14 (.int .i64 ((X:Nat):Int)) 23 rfl rfl (.inl ⟨rfl,fun w _=>Rg.exec_move (v:=.int .i64 ((X:Nat):Int)) _ rfl rfl⟩) (hS _ _ (Below.refl _ _) hI) ?_;go_frame;refine Rg.tg 7 14 (.pointer (some ⟨ya,yo+X,none⟩)) 24 rfl rfl (Rg.yields_index slPerm _ _ rfl rfl ya (yo) (n) yc (X) rfl rfl HXN.out) (hS _ _ (Below.refl _ _) hI) ?_;go_frame;refine Rg.Any.takeT (i:=8) (t:=14) (v:=.int .i64 ((q:Nat):Int)) (some 25) rfl rfl (by kernel_rfl) (by kernel_rfl) (by kernel_rfl) (fun _ _ _ h=>h) rfl (by kernel_rfl) rfl (Rg.yields_cell _ _ rfl rfl ⟨ya,yo+X,none⟩ rfl (fun W hW=>run_loadInt ((Below.cell (p:=⟨ya,yo+X,none⟩) hW CX.out.lt).trans CX.out.cell))) (hS _ _ (Below.refl _ _) hI) ?_;go_frame
   refine Rg.Any.one (i:=9) (by kernel_rfl) (Rg.Any.ask (some 26) rfl rfl rfl _ _ (exec_fn 182 _ _ _ rfl rfl rfl (Zdcl2 _ _)) ?_);refine (bs_in (IO.out.below hI) HASC.out (by omega) hm hk).mono ?_;rintro e1 w42 ⟨rfl,hb⟩;have hI3_0:=Rg.acc hI hb;have hI3_1:=hb;clear hb hI;refine ⟨_,rfl,(hS _ _ hI3_1 hI3_0),?_⟩;go_frame;refine Rg.tg 10 14 (.tuple #[.int .i64 ((k:Nat):Int),.bool true]) 16 rfl rfl (.inl ⟨rfl,fun w _=>Rg.exec_move (v:=.tuple #[.int .i64 ((k:Nat):Int),.bool true]) _ rfl rfl⟩) (hS _ _ hI3_1 hI3_0) ?_;go_frame;refine Rg.tg 11 14 (.int .i64 ((k:Nat):Int)) 27 rfl rfl (.inl ⟨rfl,fun w _=>exec_extract (v:=.int .i64 ((k:Nat):Int)) _ _ rfl rfl rfl⟩) (hS _ _ hI3_1 hI3_0) ?_;go_frame;refine Rg.tg 12 14 (.bool true) 28 rfl rfl (.inl ⟨rfl,fun w _=>exec_extract (v:=.bool true) _ _ rfl rfl rfl⟩) (hS _ _ hI3_1 hI3_0) ?_;go_frame;refine Rg.tg 13 14 (.int .i64 ((k:Nat):Int)) 8 rfl rfl (.inl ⟨rfl,fun w _=>Rg.exec_assign (v:=.int .i64 ((k:Nat):Int)) _ rfl rfl⟩) (hS _ _ hI3_1 hI3_0) ?_;go_frame
   refine Rg.Any.one (i:=14) (by kernel_rfl) (Rg.Any.run (some 9) rfl rfl rfl (Rg.xa (.bool true) _ rfl rfl) (hS2 _ _ rfl hI3_0) ?_);go_frame;refine Rg.Any.done (by kernel_rfl) ?_ _;refine Rg.onlyN_i ?_;replace SI:=ι (SI.out.below hI3_1);replace KQ:=ι (KQ.out.below hI3_1);replace CX:=ι (CX.out.below hI3_1);replace K:=ι hI3_0;clear hS2;clear hS hI3_0 hI3_1
   gi_upto_region 6 with (fail)
   refine wpIn_region_list ?_;refine Rg.in_run (some 29) rfl rfl (fun _ hh=>by cases hh) (Rg.xm (.bool true) _ rfl rfl) ?_;go_frame;refine Rg.in_run (some 30) rfl rfl (fun _ hh=>by cases hh) (exec_not _ _ true rfl rfl) ?_;go_frame
   gi_upto_region 8 with (fail)
   have hV0:Below w42.heap.size w42 w42.drew:=(Below.refl _ _).drew;replace SI:=ι (SI.out.below hV0);replace KQ:=ι (KQ.out.below hV0);replace CX:=ι (CX.out.below hV0);replace K:=ι (Rg.acc K.out hV0);clear hV0;refine Rg.Any.beginIn (hnd:=by kernel_rfl) (S:=Rg.Both 7 (fun W=>Below w42.drew.heap.size w42.drew W) (fun W=>Below w.heap.size w W)) mix ?_;generalize w42.drew=w43 at *;have hS:∀ (l:Array Bool) W,Below w43.heap.size w43 W→Below w.heap.size w W→Rg.Both 7 (fun W=>Below w43.heap.size w43 W) (fun W=>Below w.heap.size w W) l W:=fun l W h h2=>⟨.inr h,h2⟩;have hS2:∀ (l:Array Bool) W,l.getD 7 false=true→Below w.heap.size w W→Rg.Both 7 (fun W=>Below w43.heap.size w43 W) (fun W=>Below w.heap.size w W) l W:=fun l W h h2=>⟨.inl h,h2⟩;have hI:=K.out;refine Rg.Any.takeT (i:=0) (t:=7) (v:=.slice (some ⟨ya,yo,none⟩) n yc) (some 33) rfl rfl (by kernel_rfl) (by kernel_rfl) (by kernel_rfl) (fun _ _ _ h=>h) rfl (by kernel_rfl) rfl (Rg.yields_cell _ _ rfl rfl ⟨(w.heap.size+1),0,none⟩ rfl (fun W hW=>Rg.run_loadSl _ _ Tryz.underlying51 ((Below.cell (p:=⟨(w.heap.size+1),0,none⟩) hW SI.out.cx.lt).trans SI.out.cx.c))) (hS _ _ (Below.refl _ _) hI) ?_;go_frame
   refine Rg.tg 1 7 (.slice (some ⟨ub,uo,none⟩) rl.length uc) 34 rfl rfl (.inl ⟨rfl,fun w _=>Rg.exec_move (v:=.slice (some ⟨ub,uo,none⟩) rl.length uc) _ rfl rfl⟩) (hS _ _ (Below.refl _ _) hI) ?_;go_frame;refine Rg.tg 2 7 (.int .i64 ((k:Nat):Int)) 35 rfl rfl (.inl ⟨rfl,fun w _=>Rg.exec_move (v:=.int .i64 ((k:Nat):Int)) _ rfl rfl⟩) (hS _ _ (Below.refl _ _) hI) ?_;go_frame;refine Rg.tg 3 7 (.pointer (some ⟨ub,uo+k,none⟩)) 36 rfl rfl (Rg.yields_index slPerms _ _ rfl rfl ub (uo) (rl.length) uc (k) rfl rfl HKR.out) (hS _ _ (Below.refl _ _) hI) ?_;go_frame;refine Rg.tg 4 7 (.slice (some ⟨sa,so,none⟩) n sc) 37 rfl rfl (Rg.yields_cell _ _ rfl rfl ⟨ub,uo+k,none⟩ rfl (fun W hW=>Rg.run_loadSl _ _ Tryz.underlying51 ((Below.cell (p:=⟨ub,uo+k,none⟩) hW CS.out.lt).trans CS.out.cell))) (hS _ _ (Below.refl _ _) hI) ?_;go_frame;refine Rg.Any.one (i:=5) (by kernel_rfl) (Rg.Any.ask (some 38) rfl rfl rfl _ _ (exec_fn1 184 _ _ rfl rfl (Vncl1 _ _)) ?_)
   refine (chInv_any _ s w43 (NS.out.below hI) GS.out.1 (by rw [GS.out.2]; omega) (by rw [GS.out.2]; exact hn1)).mono ?_;rintro e1 w44 ⟨iv,rfl,hiv,hb⟩;replace hiv:Rg.Ints _ iv (Ma.ofN (Ma.invN s)):=hiv.1;have hI4_0:=Rg.acc hI hb;have hI4_1:=hb;clear hb hI;refine ⟨_,rfl,(hS _ _ hI4_1 hI4_0),?_⟩;go_frame;have IV:=ι hiv;have HZ:=ι (show w.heap.size+4≤w44.heap.size from (SI.out.below hI4_1).c5.lt);refine Rg.Any.one (i:=6) (by kernel_rfl) (Rg.Any.ask (some 39) rfl rfl rfl _ _ (exec_fn 183 _ _ _ rfl rfl rfl (Vmcl0 _ _)) ?_);refine (chMul_any _ _ y (Ma.invN s) w44 (SI.out.below hI4_1).fp.np IV.out (fun z hz=>by rw [(Cm.gd_inv GS.out).2]; exact gd_mem GY.out hz) (by rw [GY.out.2]; omega) (by rw [GY.out.2]; exact hn1) (by rw [(Cm.gd_inv GS.out).2]; exact hn1)).mono ?_;rintro e1 w45 ⟨mv,rfl,hmv,hb⟩;have hmf:=sf_new HZ.out hmv;obtain ⟨ma,mo,mc,rfl⟩:=hmf.shape' (Cm.gd_mul GY.out (Cm.gd_inv GS.out)) hn1
   clear hmv;have hI5_0:=Rg.acc hI4_1 hb;have hI5_1:=Rg.acc hI4_0 hb;have hI5_2:=hb;clear hb hI4_1 hI4_0;refine ⟨_,rfl,(hS _ _ hI5_0 hI5_1),?_⟩;go_frame;have MV:=ι hmf;have SI9:=ι (SI.out.below hI5_0);have KQ9:=ι (KQ.out.below hI5_0);have MV9:=ι MV.out;have hI6_g:=hI5_1.setCell (p:=⟨w.heap.size+1,0,none⟩) (by show w.heap.size≤w.heap.size+1; omega) (.slice (some ⟨ma,mo,none⟩) n mc);refine Rg.Any.one (i:=7) (by kernel_rfl) (Rg.Any.runSkip none rfl rfl rfl (Rg.exec_store _ _ _ rfl _ rfl _ rfl (Rg.run_storeSl _ infoPerm SI9.out.cx.c SI9.out.cx.f)) (hS2 _ _ rfl hI6_g) ?_);go_frame;clear hI5_0 hI5_1 hI5_2;clear SI;clear KQ;clear CX;clear IV;clear MV;refine Rg.Any.done (by kernel_rfl) ?_ _;refine Rg.onlyN_i ?_;replace K:=ι hI6_g;clear hS2;clear hS hI6_g;have hsi2:=SI9.out.set MV9.out;have hq2:=KQ9.out.set (b:=w.heap.size+1) (o:=0) (.slice (some ⟨ma,mo,none⟩) n mc) (by omega)
   generalize w45.setCell ⟨w.heap.size+1,0,none⟩ (.slice (some ⟨ma,mo,none⟩) n mc)=w98 at *;have SI2:=ι hsi2;have QX:=ι hq2
   have HSF2:=ι (show siF (trC O R) ((pre++[(⟨X,HXR.out⟩:Fin RR.length)]).map fun z=>z.1) x=some (Ma.mulN y (Ma.invN s)) by
    rw [List.map_append]
    exact siF_snoc _ _ _ _ HSF.out HTS.out)
   clear hsi2 hq2
   gi_wp2
   exact ⟨QX.out.keeps,QX.out.bel,_,_,SI2.out,HSF2.out⟩
 case stop =>
  rintro D c k W hD hk ⟨rfl,pre0,X,yv,y,h1,h2,h3,h4⟩ hd;obtain ⟨rfl,rfl⟩:=finTo_split hk h1;rw [finTo_val (by omega)] at h3;go_wp2;exact si_leave (ds:=[D]) h2.bel h2.c4 h2.c5 h2.fp (siF_stop (by have:=X.2; have:=HLR.out; omega) h3 h4) rfl rfl (by simp) (fun D' hD'=>by simp at hD'; subst hD'; exact ⟨hd,by have:=HS0.out; omega⟩)
 case done =>
  rintro D Wd hD ⟨yv,y,hsi,hsf⟩ hd;rw [finTo_val (Nat.le_refl _),HLR.out] at hsf;have gy:Gd n y:=siF_gd HTG.out (fun i hi=>List.mem_range.1 hi) GX.out hsf;obtain ⟨ya,yo,yc,rfl⟩:=FP.shape' hsi.fp gy hn1;have HSF:=ι hsf;have HD:=ι (show w.heap.size≤D by have:=HS0.out; omega);clear FB HRV SI K hsf;have SI:=ι hsi;have DF:=ι hd;have K:=ι hsi.bel;clear hsi hd;go_upto_region 9 with (fail);have hV1:Below Wd.heap.size Wd Wd.drew:=(Below.refl _ _).drew;replace SI:=ι (SI.out.below hV1);replace DF:=ι (DF.out.below hV1);clear hV1;refine Rg.wp_onlyN ?_;have hV0:Below Wd.heap.size Wd Wd.drew:=(Below.refl _ _).drew;generalize Fup (fun _:Nat=>True) Wd Wd.drew=F1 at *;clear hV0;refine Rg.Any.begin (S:=Rg.Both 4 (fun W:World=>W.cell? ⟨w.heap.size,0,none⟩=some (.int .i64 ((n:Nat):Int))∧W.cell? ⟨w.heap.size+1,0,none⟩=some (.slice (some ⟨ya,yo,none⟩) n yc)) (fun _=>True)) mix ?_
  generalize Wd.drew=w161 at *;have hS:∀ (l:Array Bool) W,(fun W:World=>W.cell? ⟨w.heap.size,0,none⟩=some (.int .i64 ((n:Nat):Int))∧W.cell? ⟨w.heap.size+1,0,none⟩=some (.slice (some ⟨ya,yo,none⟩) n yc)) W→Rg.Both 4 (fun W:World=>W.cell? ⟨w.heap.size,0,none⟩=some (.int .i64 ((n:Nat):Int))∧W.cell? ⟨w.heap.size+1,0,none⟩=some (.slice (some ⟨ya,yo,none⟩) n yc)) (fun _=>True) l W:=fun l W h=>⟨.inr h,trivial⟩;have hS2:∀ (l:Array Bool) W,l.getD 4 false=true→Rg.Both 4 (fun W:World=>W.cell? ⟨w.heap.size,0,none⟩=some (.int .i64 ((n:Nat):Int))∧W.cell? ⟨w.heap.size+1,0,none⟩=some (.slice (some ⟨ya,yo,none⟩) n yc)) (fun _=>True) l W:=fun l W h=>⟨.inl h,trivial⟩;have hI:(fun W:World=>W.cell? ⟨w.heap.size,0,none⟩=some (.int .i64 ((n:Nat):Int))∧W.cell? ⟨w.heap.size+1,0,none⟩=some (.slice (some ⟨ya,yo,none⟩) n yc)) w161:=⟨SI.out.a0.cell,SI.out.cx.c⟩
  refine Rg.Any.takeT (i:=0) (t:=4) (v:=.slice (some ⟨ya,yo,none⟩) n yc) (some 40) rfl rfl (by kernel_rfl) (by kernel_rfl) (by kernel_rfl) (fun _ _ _ h=>h) rfl (by kernel_rfl) rfl (Rg.yields_cell _ _ rfl rfl ⟨(w.heap.size+1),0,none⟩ rfl (fun W hW=>Rg.run_loadSl _ _ Tryz.underlying51 hW.2)) (hS _ _ hI) ?_;go_frame;refine Rg.tg 1 4 (.pointer (some ⟨w.heap.size,0,none⟩)) 41 rfl rfl (.inl ⟨rfl,fun w _=>exec_field _ rfl rfl (chF0 _ _)⟩) (hS _ _ hI) ?_;go_frame;refine Rg.Any.takeT (i:=2) (t:=4) (v:=.int .i64 ((n:Nat):Int)) (some 42) rfl rfl (by kernel_rfl) (by kernel_rfl) (by kernel_rfl) (fun _ _ _ h=>h) rfl (by kernel_rfl) rfl (Rg.yields_cell _ _ rfl rfl ⟨w.heap.size,0,none⟩ rfl (fun W hW=>run_loadInt hW.1)) (hS _ _ hI) ?_;go_frame;have hI7_m:=(show _∧_ from ⟨(SI.out.a0.other (o:=0) (b':=w.heap.size+2) (.slice (some ⟨ya,yo,none⟩) n yc) (by omega)).cell,(SI.out.cx.other (o:=0) (b':=w.heap.size+2) (.slice (some ⟨ya,yo,none⟩) n yc) (by omega)).c⟩)
  refine Rg.Any.one (i:=3) (by kernel_rfl) (Rg.Any.runSkip none rfl rfl rfl (Rg.exec_store _ _ _ rfl _ rfl _ rfl (Rg.run_storeSl _ infoPerm SI.out.c4.c SI.out.c4.f)) (hS _ _ hI7_m) ?_);go_frame;refine Rg.Any.one (i:=4) (by kernel_rfl) (Rg.Any.runSkip none rfl rfl rfl (Rg.exec_store _ _ _ rfl _ rfl _ rfl (run_storeInt _ (SI.out.c5.other _ (by omega)).c (SI.out.c5.other _ (by omega)).f)) (hS2 _ _ rfl) ?_);go_frame;refine Rg.Any.done (by kernel_rfl) ?_ _;refine Rg.onlyN_i ?_;clear hS2;clear hS hI7_m;have hss:=SI.out.stop n;have hdd:=(RF.Dfr.setCell DF.out ⟨w.heap.size+2,0,none⟩ (.slice (some ⟨ya,yo,none⟩) n yc)).setCell ⟨w.heap.size+3,0,none⟩ (.int .i64 ((n:Nat):Int));generalize (w161.setCell ⟨w.heap.size+2,0,none⟩ (.slice (some ⟨ya,yo,none⟩) n yc)).setCell ⟨w.heap.size+3,0,none⟩ (.int .i64 ((n:Nat):Int))=w199 at *;have SS:=ι hss;have DX:=ι hdd;clear hss hdd
  go_wp2;exact si_leave (ds:=[D]) SS.out.bel SS.out.c4 SS.out.c5 SS.out.fp (siF_done HSF.out) rfl rfl (by simp) (fun D' hD'=>by simp at hD'; subst hD'; exact ⟨DX.out,HD.out⟩)
end Go.Proofs.YthehbckogieimaaGreat

namespace Go.Proofs.YthehbckogieimaaGreat
open Go.Proofs
open Go.Proofs.Cm (Gr Gd IsChain IsG St Tr ap sfP Lst)
open Classical in
noncomputable def chCode (n:Int) (OO:List (List Int)) (RR:List (List (List Int))):Int:=if 1≤n∧n≤64 then (if ChOK n OO RR then 0 else 3) else 2
theorem chCode_C {n:Int} {OO:List (List Int)} {RR:List (List (List Int))}:ChC n OO RR (chCode n OO RR):=by
 unfold chCode
 by_cases h:1≤n∧n≤64
 ·rw [if_pos h]
  by_cases h2:ChOK n OO RR
  ·rw [if_pos h2]; exact .inr ⟨h,.inl ⟨h2,rfl⟩⟩
  ·rw [if_neg h2]; exact .inr ⟨h,.inr ⟨h2,rfl⟩⟩
 ·rw [if_neg h]; exact .inl ⟨h,rfl⟩
theorem chCode_eq {n:Int} {OO:List (List Int)} {RR:List (List (List Int))} {c:Int} (h:ChC n OO RR c):c=chCode n OO RR:=h.uniq chCode_C
theorem chCode_ok {n:Int} {OO:List (List Int)} {RR:List (List (List Int))} (h:chCode n OO RR=0):ChOK n OO RR:=by
 have:=chCode_C (n:=n) (OO:=OO) (RR:=RR);rw [h] at this;exact this.zero
theorem chCode_zero {n:Int} {OO:List (List Int)} {RR:List (List (List Int))} (h:ChOK n OO RR):chCode n OO RR=0:=(chCode_eq (ChC.of h)).symm
noncomputable def bothC (n:Int) (OO:List (List Int)) (RR:List (List (List Int))) (xl:List Int):Int :=
 if chCode n OO RR=0 then (if Ma.pchk xl=0 then (if (xl.length:Int)=n then 0 else 10) else Ma.pchk xl) else chCode n OO RR
theorem bothC_bad {n:Int} {OO:List (List Int)} {RR:List (List (List Int))} {xl:List Int} (h:¬ chCode n OO RR=0):bothC n OO RR xl=chCode n OO RR:=if_neg h
theorem bothC_perm {n:Int} {OO:List (List Int)} {RR:List (List (List Int))} {xl:List Int} (h:chCode n OO RR=0) (h2:¬ Ma.pchk xl=0):bothC n OO RR xl=Ma.pchk xl:=by unfold bothC; rw [if_pos h,if_neg h2]
theorem bothC_len {n:Int} {OO:List (List Int)} {RR:List (List (List Int))} {xl:List Int} (h:chCode n OO RR=0) (h2:Ma.pchk xl=0) (h3:¬ (xl.length:Int)=n):bothC n OO RR xl=10:=by unfold bothC; rw [if_pos h,if_pos h2,if_neg h3]
theorem bothC_ok {n:Int} {OO:List (List Int)} {RR:List (List (List Int))} {xl:List Int} (h:chCode n OO RR=0) (h2:Ma.pchk xl=0) (h3:(xl.length:Int)=n):bothC n OO RR xl=0:=by unfold bothC; rw [if_pos h,if_pos h2,if_pos h3]
theorem bothC_zero {n:Int} {OO:List (List Int)} {RR:List (List (List Int))} {xl:List Int} (h:bothC n OO RR xl=0):∃ (N:Nat) (O:List (List Nat)) (R:List (List (List Nat))) (x:List Nat),n=((N:Nat):Int)∧1≤N∧N≤64∧OO=O.map Ma.ofN∧RR=R.map (List.map Ma.ofN)∧IsChain N (Gr N (·∈R.flatten)) O R∧IsG N (Gr N (·∈R.flatten))∧xl=Ma.ofN x∧Gd N x:=by
 by_cases h1:chCode n OO RR=0
 ·by_cases h2:Ma.pchk xl=0
  ·by_cases h3:(xl.length:Int)=n
   ·obtain ⟨N,O,R,rfl,a1,a2,a3,a4,a5,a6⟩:=chCode_ok h1
    obtain ⟨x,rfl,hx⟩:=Ma.okL_ofN (Ma.pchk_zero h2).2.2;rw [Ma.len_ofN] at h3;exact ⟨N,O,R,x,rfl,a1,a2,a3,a4,a5,Gr.isG a6,rfl,hx,by omega⟩
   ·rw [bothC_len h1 h2 h3] at h; cases h
  ·rw [bothC_perm h1 h2] at h; exact absurd h h2
 ·rw [bothC_bad h1] at h; exact absurd h h1
def unN (l:List Int):List Nat:=l.map Int.toNat
theorem unN_ofN (l:List Nat):unN (Ma.ofN l)=l:=by
 unfold unN Ma.ofN;rw [List.map_map];exact (List.map_congr_left fun x _=>Int.toNat_natCast x).trans (List.map_id _)
theorem unN_map (l:List (List Nat)):(l.map Ma.ofN).map unN=l:=by
 rw [List.map_map];exact (List.map_congr_left fun x _=>unN_ofN x).trans (List.map_id _)
theorem unN_map2 (l:List (List (List Nat))):(l.map (List.map Ma.ofN)).map (List.map unN)=l:=by
 rw [List.map_map];exact (List.map_congr_left fun x _=>unN_map x).trans (List.map_id _)
def siZ (n:Int) (OO:List (List Int)) (RR:List (List (List Int))) (xl:List Int):Nat × List Nat:=siC n.toNat (OO.map unN) (RR.map (List.map unN)) (unN xl)
theorem siZ_eq {N:Nat} {O:List (List Nat)} {R:List (List (List Nat))} {x:List Nat}:siZ ((N:Nat):Int) (O.map Ma.ofN) (R.map (List.map Ma.ofN)) (Ma.ofN x)=siC N O R x:=by
 unfold siZ;rw [unN_map,unN_map2,unN_ofN,Int.toNat_natCast]
noncomputable def siA (n:Int) (OO:List (List Int)) (RR:List (List (List Int))) (xl:List Int):List Int × Int :=
 if bothC n OO RR xl=0 then (Ma.ofN (siZ n OO RR xl).2,(((siZ n OO RR xl).1:Nat):Int)) else ([],0)
theorem siA_bad {n:Int} {OO:List (List Int)} {RR:List (List (List Int))} {xl:List Int} (h:¬ bothC n OO RR xl=0):siA n OO RR xl=([],0):=if_neg h
theorem siA_ok {N:Nat} {O:List (List Nat)} {R:List (List (List Nat))} {x:List Nat} (h:bothC ((N:Nat):Int) (O.map Ma.ofN) (R.map (List.map Ma.ofN)) (Ma.ofN x)=0):siA ((N:Nat):Int) (O.map Ma.ofN) (R.map (List.map Ma.ofN)) (Ma.ofN x)=(Ma.ofN (siC N O R x).2,(((siC N O R x).1:Nat):Int)):=by
 unfold siA; rw [if_pos h,siZ_eq]
noncomputable def inA (n:Int) (OO:List (List Int)) (RR:List (List (List Int))) (xl:List Int):Bool :=
 if bothC n OO RR xl=0 then decide ((((siZ n OO RR xl).1:Nat):Int)=n) else false
theorem inA_bad {n:Int} {OO:List (List Int)} {RR:List (List (List Int))} {xl:List Int} (h:¬ bothC n OO RR xl=0):inA n OO RR xl=false:=if_neg h
theorem inA_ok {N:Nat} {O:List (List Nat)} {R:List (List (List Nat))} {x:List Nat} (h:bothC ((N:Nat):Int) (O.map Ma.ofN) (R.map (List.map Ma.ofN)) (Ma.ofN x)=0):inA ((N:Nat):Int) (O.map Ma.ofN) (R.map (List.map Ma.ofN)) (Ma.ofN x)=decide ((((siC N O R x).1:Nat):Int)=((N:Nat):Int)):=by
 unfold inA; rw [if_pos h,siZ_eq]
noncomputable def belC (n:Int) (OO:List (List Int)) (RR:List (List (List Int))) (m:Int) (OO':List (List Int)) (RR':List (List (List Int))):Int :=
 if chCode n OO RR=0 then (if chCode m OO' RR'=0 then (if n=m then 0 else 10) else chCode m OO' RR') else chCode n OO RR
noncomputable def belA (n:Int) (OO:List (List Int)) (RR:List (List (List Int))) (m:Int) (OO':List (List Int)) (RR':List (List (List Int))):Bool :=
 if belC n OO RR m OO' RR'=0 then RR.flatten.all (fun x=>decide ((((siZ m OO' RR' x).1:Nat):Int)=m)) else false
theorem belC_one {n:Int} {OO:List (List Int)} {RR:List (List (List Int))} {m:Int} {OO':List (List Int)} {RR':List (List (List Int))} (h:¬ chCode n OO RR=0):belC n OO RR m OO' RR'=chCode n OO RR:=if_neg h
theorem belC_two {n:Int} {OO:List (List Int)} {RR:List (List (List Int))} {m:Int} {OO':List (List Int)} {RR':List (List (List Int))} (h:chCode n OO RR=0) (h2:¬ chCode m OO' RR'=0):belC n OO RR m OO' RR'=chCode m OO' RR':=by unfold belC; rw [if_pos h,if_neg h2]
theorem belC_deg {n:Int} {OO:List (List Int)} {RR:List (List (List Int))} {m:Int} {OO':List (List Int)} {RR':List (List (List Int))} (h:chCode n OO RR=0) (h2:chCode m OO' RR'=0) (h3:¬ n=m):belC n OO RR m OO' RR'=10:=by unfold belC; rw [if_pos h,if_pos h2,if_neg h3]
theorem belC_ok {n:Int} {OO:List (List Int)} {RR:List (List (List Int))} {m:Int} {OO':List (List Int)} {RR':List (List (List Int))} (h:chCode n OO RR=0) (h2:chCode m OO' RR'=0) (h3:n=m):belC n OO RR m OO' RR'=0:=by unfold belC; rw [if_pos h,if_pos h2,if_pos h3]
noncomputable def stC (n:Int) (OO:List (List Int)) (RR:List (List (List Int))) (k:Int):Int:=if chCode n OO RR=0 then (if 0≤k∧k≤n then 0 else 2) else chCode n OO RR
def oneI (n:Int):List Int:=Ma.ofN (Ma.oneN n.toNat)
def stO (k:Int) (OO:List (List Int)):List (List Int):=(List.range OO.length).map fun (i:Nat)=>if (i:Int)<k then [(i:Int)] else OO.getD i []
def stR' (n k:Int) (RR:List (List (List Int))):List (List (List Int)):=(List.range RR.length).map fun (i:Nat)=>if (i:Int)<k then [oneI n] else RR.getD i []
noncomputable def sgA (n:Int) (OO:List (List Int)) (RR:List (List (List Int))):List (List Int):=if chCode n OO RR=0 then RR.flatMap (List.drop 1) else []
end Go.Proofs.YthehbckogieimaaGreat

namespace Go.Proofs.YthehbckogieimaaGreat
open Go.RowKit
open Go.Proofs
open Go.Proofs.Ob
open Go.Proofs.Cm (Gd)
attribute [local irreducible] Go.Calls Go.wpList
theorem Zecl2 (args:Array Value) (w:World):(callFunc 110 args).run Tryz.prog w=.ok (.enter 110 args) w:=by kernel_rfl
theorem Zecl3 (args:Array Value) (w:World):(callFunc 111 args).run Tryz.prog w=.ok (.enter 111 args) w:=by kernel_rfl
theorem chCheck_c {n:Int} {ov rv:Value} {OO:List (List Int)} {RR:List (List (List Int))} {w:World} (h:ChEqR w ov rv OO RR) :
  Calls Tryz.prog 42 #[.agg #[.int .i64 n,ov,rv]] w fun e w'=>e=.returned (.int .i64 (chCode n OO RR))∧Below w.heap.size w w':=by
 refine (chCheck_any h).mono ?_;rintro e w' ⟨c,rfl,h1,h2⟩;exact ⟨by rw [chCode_eq h1],h2⟩
theorem chBoth_any {n:Int} {ov rv xv:Value} {OO:List (List Int)} {RR:List (List (List Int))} {xl:List Int} {w:World} (h:ChEqR w ov rv OO RR) (hx:Rg.Ints w xv xl) :
  Calls Tryz.prog 110 #[.agg #[.int .i64 n,ov,rv],xv] w fun e w'=>e=.returned (.int .i64 (bothC n OO RR xl))∧Below w.heap.size w w':=by
 obtain ⟨oa,oc,rfl,-⟩:=h.1.shape;obtain ⟨ra,rc,rfl⟩:=h.2.shape;obtain ⟨xa,xc,rfl,-⟩:=hx.shape;have HC:=ι h;have HX:=ι hx;have K:=ι (Below.refl w.heap.size w);clear h hx
 go_enter Tryz.func110,Tryz.ntmps110
 go_upto_region 0 with (fail);refine Rg.wl ?_;have hbx:=box3 w (.int .i64 n) (.slice oa OO.length oc) (.slice ra RR.length rc);refine Rg.lr 2 (Rg.exec_box _ _ rfl rfl) ?_;go_frame;have hb:=(Below.refl w.heap.size w).alloc (Nat.le_refl _) (.cells #[.int .i64 n,.slice oa OO.length oc,.slice ra RR.length rc] 54);generalize w.alloc (.cells #[.int .i64 n,.slice oa OO.length oc,.slice ra RR.length rc] 54)=w1 at *;replace HC:=ι (HC.out.below hb);replace HX:=ι (HX.out.below hb);replace K:=ι (Rg.acc K.out hb);clear hb;have A0:=ι hbx.1;have A1:=ι hbx.2.1;have A2:=ι hbx.2.2;clear hbx;refine Rg.la 4 (.int .i64 ((0:Nat):Int)) ?_;go_frame;obtain ⟨ck,hck⟩:∃ c,Hid (chCode n OO RR=c):=⟨_,ι rfl⟩;obtain ⟨pk,hpk⟩:∃ c,Hid (Ma.pchk xl=c):=⟨_,ι rfl⟩;go_upto_region 1 with (fail);refine Rg.wl ?_;refine Rg.lr 7 (Rg.exec_load (v:=(.agg #[.int .i64 n,.slice oa OO.length oc,.slice ra RR.length rc])) _ _ rfl ⟨w.heap.size,0,none⟩ rfl (run_loadC3 A0.out.cell A1.out.cell A2.out.cell)) ?_;go_frame
 refine list_ask (some 8) rfl rfl _ _ (exec_fn1 42 _ _ rfl rfl (Xccl0 _ _)) ?_;refine (chCheck_c HC.out).mono ?_;rintro e1 w2 ⟨rfl,hb⟩;rw [hck.out];refine ⟨_,rfl,?_⟩;go_frame;replace HC:=ι (HC.out.below hb);replace HX:=ι (HX.out.below hb);replace A0:=ι (A0.out.below hb);replace A1:=ι (A1.out.below hb);replace A2:=ι (A2.out.below hb);replace K:=ι (Rg.acc K.out hb);clear hb;refine Rg.la 5 (.int .i64 ck) ?_;go_frame
 by_cases h0:ck=0
 case neg =>
  skip
  go_upto_region 2 with (fail);refine Rg.wl ?_;refine Rg.lm 9 (.int .i64 ck) ?_;go_frame;refine Rg.lr 10 (exec_bin (R:=.bool true) .neq _ _ _ rfl rfl rfl (b_neqB _ (decide_eq_true h0))) ?_;go_frame;go_upto_region 3 with (fail);refine Rg.wl ?_;refine Rg.lm 11 (.int .i64 ck) ?_;go_frame;refine Rg.la 4 (.int .i64 ck) ?_;go_frame;go_wp2;go_ret;exact ⟨by rw [bothC_bad (by rw [hck.out]; exact h0),hck.out]; rfl,K.out⟩
 case pos =>
  have HZ:=ι (hck.out.trans h0);go_upto_region 2 with (fail);refine Rg.wl ?_;refine Rg.lm 9 (.int .i64 ck) ?_;go_frame;refine Rg.lr 10 (exec_bin (R:=.bool false) .neq _ _ _ rfl rfl rfl (b_neqB _ (decide_eq_false (fun e=>e h0)))) ?_;go_frame;clear h0;go_upto_region 4 with (fail);refine Rg.wl ?_;refine Rg.lm 12 (.slice xa xl.length xc) ?_;go_frame;refine list_ask (some 13) rfl rfl _ _ (exec_fn1 115 _ _ rfl rfl (Wvcl1 _ _)) ?_;refine (permCheck_any _ _ w2 HX.out).mono ?_;rintro e1 w3 ⟨rfl,hb⟩;rw [hpk.out];refine ⟨_,rfl,?_⟩;go_frame;replace HC:=ι (HC.out.below hb);replace HX:=ι (HX.out.below hb);replace A0:=ι (A0.out.below hb);replace A1:=ι (A1.out.below hb);replace A2:=ι (A2.out.below hb);replace K:=ι (Rg.acc K.out hb);clear hb;refine Rg.la 6 (.int .i64 pk) ?_;go_frame
  by_cases h1:pk=0
  case neg =>
   skip
   go_upto_region 5 with (fail);refine Rg.wl ?_;refine Rg.lm 14 (.int .i64 pk) ?_;go_frame;refine Rg.lr 15 (exec_bin (R:=.bool true) .neq _ _ _ rfl rfl rfl (b_neqB _ (decide_eq_true h1))) ?_;go_frame;go_upto_region 6 with (fail);refine Rg.wl ?_;refine Rg.lm 16 (.int .i64 pk) ?_;go_frame;refine Rg.la 4 (.int .i64 pk) ?_;go_frame;go_wp2;go_ret;exact ⟨by rw [bothC_perm HZ.out (by rw [hpk.out]; exact h1),hpk.out]; rfl,K.out⟩
  case pos =>
   have HP:=ι (hpk.out.trans h1);go_upto_region 5 with (fail);refine Rg.wl ?_;refine Rg.lm 14 (.int .i64 pk) ?_;go_frame;refine Rg.lr 15 (exec_bin (R:=.bool false) .neq _ _ _ rfl rfl rfl (b_neqB _ (decide_eq_false (fun e=>e h1)))) ?_;go_frame;clear h1
   by_cases h2:(xl.length:Int)=n
   case neg =>
    skip
    go_upto_region 7 with (fail);refine Rg.wl ?_;refine Rg.lm 17 (.slice xa xl.length xc) ?_;go_frame;refine Rg.lr 18 (exec_len _ _ _ rfl Tryz.underlying51 _ _ _ rfl) ?_;go_frame;refine Rg.lr 19 (exec_field _ rfl rfl (chF0 _ _)) ?_;go_frame;refine Rg.lr 20 (Rg.exec_load (v:=.int .i64 n) _ _ rfl ⟨w.heap.size,0,none⟩ rfl (run_loadInt A0.out.cell)) ?_;go_frame;refine Rg.lr 21 (exec_bin (R:=.bool true) .neq _ _ _ rfl rfl rfl (b_neqB _ (decide_eq_true h2))) ?_;go_frame;go_upto_region 8 with (fail);refine Rg.wl ?_;refine Rg.la 4 (.int .i64 ((10:Nat):Int)) ?_;go_frame;go_wp2;go_ret;exact ⟨by rw [bothC_len HZ.out HP.out h2]; rfl,K.out⟩
   case pos =>
    skip
    go_upto_region 7 with (fail);refine Rg.wl ?_;refine Rg.lm 17 (.slice xa xl.length xc) ?_;go_frame;refine Rg.lr 18 (exec_len _ _ _ rfl Tryz.underlying51 _ _ _ rfl) ?_;go_frame;refine Rg.lr 19 (exec_field _ rfl rfl (chF0 _ _)) ?_;go_frame;refine Rg.lr 20 (Rg.exec_load (v:=.int .i64 n) _ _ rfl ⟨w.heap.size,0,none⟩ rfl (run_loadInt A0.out.cell)) ?_;go_frame;refine Rg.lr 21 (exec_bin (R:=.bool false) .neq _ _ _ rfl rfl rfl (b_neqB _ (decide_eq_false (fun e=>e h2)))) ?_;go_frame;go_upto_region 9 with (fail);refine Rg.wl ?_;refine Rg.la 4 (.int .i64 ((0:Nat):Int)) ?_;go_frame;go_wp2;go_ret;exact ⟨by rw [bothC_ok HZ.out HP.out h2]; rfl,K.out⟩
theorem chSift_c {N:Nat} {O:List (List Nat)} {R:List (List (List Nat))} {x:List Nat} {ov rv xv:Value} {w:World} (hN1:1≤N) (hN2:N≤64) (hch:Cm.IsChain N (Cm.Gr N (·∈R.flatten)) O R) (hH:Cm.IsG N (Cm.Gr N (·∈R.flatten))) (gx:Gd N x) (h:ChEqR w ov rv (O.map Ma.ofN) (R.map (List.map Ma.ofN))) (hx:Rg.Ints w xv (Ma.ofN x)) :
  Calls Tryz.prog 111 #[.agg #[.int .i64 ((N:Nat):Int),ov,rv],xv] w (SiPost N O R x w):=csift_any hN1 hN2 hH hch rfl rfl h hx gx
theorem chSift_any {n:Int} {ov rv xv:Value} {OO:List (List Int)} {RR:List (List (List Int))} {xl:List Int} {w:World} (h:ChEqR w ov rv OO RR) (hx:Rg.Ints w xv xl) :
  Calls Tryz.prog 38 #[.agg #[.int .i64 n,ov,rv],xv] w fun e w'=>∃ v,e=.returned (.tuple #[v,.int .i64 (siA n OO RR xl).2,.int .i64 (bothC n OO RR xl)])∧Rg.Ints w' v (siA n OO RR xl).1∧Below w.heap.size w w':=by
 obtain ⟨oa,oc,rfl,-⟩:=h.1.shape;obtain ⟨ra,rc,rfl⟩:=h.2.shape;obtain ⟨xa,xc,rfl,-⟩:=hx.shape;have HC:=ι h;have HX:=ι hx;have K:=ι (Below.refl w.heap.size w);clear h hx
 go_enter Tryz.func38,Tryz.ntmps38
 go_upto_region 0 with (fail);refine Rg.wl ?_;have hbx:=box3 w (.int .i64 n) (.slice oa OO.length oc) (.slice ra RR.length rc);refine Rg.lr 2 (Rg.exec_box _ _ rfl rfl) ?_;go_frame;have hb:=(Below.refl w.heap.size w).alloc (Nat.le_refl _) (.cells #[.int .i64 n,.slice oa OO.length oc,.slice ra RR.length rc] 54);generalize w.alloc (.cells #[.int .i64 n,.slice oa OO.length oc,.slice ra RR.length rc] 54)=w1 at *;replace HC:=ι (HC.out.below hb);replace HX:=ι (HX.out.below hb);replace K:=ι (Rg.acc K.out hb);clear hb;have A0:=ι hbx.1;have A1:=ι hbx.2.1;have A2:=ι hbx.2.2;clear hbx;refine Rg.la 4 (.slice none 0 0) ?_;go_frame;refine Rg.la 5 (.int .i64 ((0:Nat):Int)) ?_;go_frame;refine Rg.la 6 (.int .i64 ((0:Nat):Int)) ?_;go_frame;obtain ⟨bk,hbk⟩:∃ c,Hid (bothC n OO RR xl=c):=⟨_,ι rfl⟩;go_upto_region 1 with (fail);refine Rg.wl ?_;refine Rg.lr 8 (Rg.exec_load (v:=(.agg #[.int .i64 n,.slice oa OO.length oc,.slice ra RR.length rc])) _ _ rfl ⟨w.heap.size,0,none⟩ rfl (run_loadC3 A0.out.cell A1.out.cell A2.out.cell)) ?_;go_frame
 refine Rg.lm 9 (.slice xa xl.length xc) ?_;go_frame;refine list_ask (some 10) rfl rfl _ _ (exec_fn 110 _ _ _ rfl rfl rfl (Zecl2 _ _)) ?_;refine (chBoth_any HC.out HX.out).mono ?_;rintro e1 w2 ⟨rfl,hb⟩;rw [hbk.out];refine ⟨_,rfl,?_⟩;go_frame;replace HC:=ι (HC.out.below hb);replace HX:=ι (HX.out.below hb);replace A0:=ι (A0.out.below hb);replace A1:=ι (A1.out.below hb);replace A2:=ι (A2.out.below hb);replace K:=ι (Rg.acc K.out hb);clear hb;refine Rg.la 7 (.int .i64 bk) ?_;go_frame
 by_cases h0:bk=0
 case neg =>
  skip
  go_upto_region 2 with (fail);refine Rg.wl ?_;refine Rg.lm 11 (.int .i64 bk) ?_;go_frame;refine Rg.lr 12 (exec_bin (R:=.bool true) .neq _ _ _ rfl rfl rfl (b_neqB _ (decide_eq_true h0))) ?_;go_frame;go_upto_region 3 with (fail);refine Rg.wl ?_;refine Rg.lm 13 (.int .i64 bk) ?_;go_frame;refine Rg.la 4 (.slice none 0 0) ?_;go_frame;refine Rg.la 5 (.int .i64 ((0:Nat):Int)) ?_;go_frame;refine Rg.la 6 (.int .i64 bk) ?_;go_frame;go_wp2
  go_ret3
  exact ⟨.slice none 0 0,by rw [siA_bad (by rw [hbk.out]; exact h0),hbk.out]; rfl,by rw [siA_bad (by rw [hbk.out]; exact h0)]; exact Rg.Ints.nil _ none 0 (Nat.zero_le _),K.out⟩
 case pos =>
  have HZ:=ι (hbk.out.trans h0);go_upto_region 2 with (fail);refine Rg.wl ?_;refine Rg.lm 11 (.int .i64 bk) ?_;go_frame;refine Rg.lr 12 (exec_bin (R:=.bool false) .neq _ _ _ rfl rfl rfl (b_neqB _ (decide_eq_false (fun e=>e h0)))) ?_;go_frame;obtain ⟨N,O,R,x,rfl,hN1,hN2,rfl,rfl,hch,hH,rfl,gx⟩:=bothC_zero HZ.out;have HCH:=ι hch;have HH:=ι hH;have GX:=ι gx;clear hch hH gx h0;go_upto_region 4 with (fail);refine Rg.wl ?_;refine Rg.lr 15 (Rg.exec_load (v:=(.agg #[.int .i64 ((N:Nat):Int),.slice oa (O.map Ma.ofN).length oc,.slice ra (R.map (List.map Ma.ofN)).length rc])) _ _ rfl ⟨w.heap.size,0,none⟩ rfl (run_loadC3 A0.out.cell A1.out.cell A2.out.cell)) ?_;go_frame;refine Rg.lm 16 (.slice xa (Ma.ofN x).length xc) ?_;go_frame;refine list_ask (some 17) rfl rfl _ _ (exec_fn 111 _ _ _ rfl rfl rfl (Zecl3 _ _)) ?_;refine (chSift_c hN1 hN2 HCH.out HH.out GX.out HC.out HX.out).mono ?_
  rintro e1 w3 ⟨v1,rfl,hsv,hb⟩;refine ⟨_,rfl,?_⟩;go_frame;replace HC:=ι (HC.out.below hb);replace HX:=ι (HX.out.below hb);replace A0:=ι (A0.out.below hb);replace A1:=ι (A1.out.below hb);replace A2:=ι (A2.out.below hb);replace K:=ι (Rg.acc K.out hb);clear hb;have HV:=ι hsv;refine Rg.lm 14 (.tuple #[v1,.int .i64 (((siC N O R x).1:Nat):Int)]) ?_;go_frame;refine Rg.lr 18 (exec_extract (v:=v1) _ _ rfl rfl rfl) ?_;go_frame;refine Rg.lr 19 (exec_extract (v:=.int .i64 (((siC N O R x).1:Nat):Int)) _ _ rfl rfl rfl) ?_;go_frame;refine Rg.la 4 (v1) ?_;go_frame;refine Rg.la 5 (.int .i64 (((siC N O R x).1:Nat):Int)) ?_;go_frame;go_upto_region 5 with (fail);refine Rg.wl ?_;refine Rg.lm 20 (v1) ?_;go_frame;refine Rg.lm 21 (.int .i64 (((siC N O R x).1:Nat):Int)) ?_;go_frame;refine Rg.la 4 (v1) ?_;go_frame;refine Rg.la 5 (.int .i64 (((siC N O R x).1:Nat):Int)) ?_;go_frame
  refine Rg.la 6 (.int .i64 ((0:Nat):Int)) ?_;go_frame;go_wp2
  go_ret3
  exact ⟨v1,by rw [siA_ok HZ.out,HZ.out]; rfl,by rw [siA_ok HZ.out]; exact HV.out,K.out⟩
theorem chIn_any {n:Int} {ov rv xv:Value} {OO:List (List Int)} {RR:List (List (List Int))} {xl:List Int} {w:World} (h:ChEqR w ov rv OO RR) (hx:Rg.Ints w xv xl) :
  Calls Tryz.prog 40 #[.agg #[.int .i64 n,ov,rv],xv] w fun e w'=>e=.returned (.tuple #[.bool (inA n OO RR xl),.int .i64 (bothC n OO RR xl)])∧Below w.heap.size w w':=by
 obtain ⟨oa,oc,rfl,-⟩:=h.1.shape;obtain ⟨ra,rc,rfl⟩:=h.2.shape;obtain ⟨xa,xc,rfl,-⟩:=hx.shape;have HC:=ι h;have HX:=ι hx;have K:=ι (Below.refl w.heap.size w);clear h hx
 go_enter Tryz.func40,Tryz.ntmps40
 go_upto_region 0 with (fail);refine Rg.wl ?_;have hbx:=box3 w (.int .i64 n) (.slice oa OO.length oc) (.slice ra RR.length rc);refine Rg.lr 2 (Rg.exec_box _ _ rfl rfl) ?_;go_frame;have hb:=(Below.refl w.heap.size w).alloc (Nat.le_refl _) (.cells #[.int .i64 n,.slice oa OO.length oc,.slice ra RR.length rc] 54);generalize w.alloc (.cells #[.int .i64 n,.slice oa OO.length oc,.slice ra RR.length rc] 54)=w1 at *;replace HC:=ι (HC.out.below hb);replace HX:=ι (HX.out.below hb);replace K:=ι (Rg.acc K.out hb);clear hb;have A0:=ι hbx.1;have A1:=ι hbx.2.1;have A2:=ι hbx.2.2;clear hbx;refine Rg.la 4 (.bool false) ?_;go_frame;refine Rg.la 5 (.int .i64 ((0:Nat):Int)) ?_;go_frame;obtain ⟨bk,hbk⟩:∃ c,Hid (bothC n OO RR xl=c):=⟨_,ι rfl⟩;go_upto_region 1 with (fail);refine Rg.wl ?_;refine Rg.lr 9 (Rg.exec_load (v:=(.agg #[.int .i64 n,.slice oa OO.length oc,.slice ra RR.length rc])) _ _ rfl ⟨w.heap.size,0,none⟩ rfl (run_loadC3 A0.out.cell A1.out.cell A2.out.cell)) ?_;go_frame
 refine Rg.lm 10 (.slice xa xl.length xc) ?_;go_frame;refine list_ask (some 11) rfl rfl _ _ (exec_fn 110 _ _ _ rfl rfl rfl (Zecl2 _ _)) ?_;refine (chBoth_any HC.out HX.out).mono ?_;rintro e1 w2 ⟨rfl,hb⟩;rw [hbk.out];refine ⟨_,rfl,?_⟩;go_frame;replace HC:=ι (HC.out.below hb);replace HX:=ι (HX.out.below hb);replace A0:=ι (A0.out.below hb);replace A1:=ι (A1.out.below hb);replace A2:=ι (A2.out.below hb);replace K:=ι (Rg.acc K.out hb);clear hb;refine Rg.la 6 (.int .i64 bk) ?_;go_frame
 by_cases h0:bk=0
 case neg =>
  skip
  go_upto_region 2 with (fail);refine Rg.wl ?_;refine Rg.lm 12 (.int .i64 bk) ?_;go_frame;refine Rg.lr 13 (exec_bin (R:=.bool true) .neq _ _ _ rfl rfl rfl (b_neqB _ (decide_eq_true h0))) ?_;go_frame;go_upto_region 3 with (fail);refine Rg.wl ?_;refine Rg.lm 14 (.int .i64 bk) ?_;go_frame;refine Rg.la 4 (.bool false) ?_;go_frame;refine Rg.la 5 (.int .i64 bk) ?_;go_frame;go_wp2
  go_ret2
  exact ⟨by rw [inA_bad (by rw [hbk.out]; exact h0),hbk.out]; rfl,K.out⟩
 case pos =>
  have HZ:=ι (hbk.out.trans h0);go_upto_region 2 with (fail);refine Rg.wl ?_;refine Rg.lm 12 (.int .i64 bk) ?_;go_frame;refine Rg.lr 13 (exec_bin (R:=.bool false) .neq _ _ _ rfl rfl rfl (b_neqB _ (decide_eq_false (fun e=>e h0)))) ?_;go_frame;obtain ⟨N,O,R,x,rfl,hN1,hN2,rfl,rfl,hch,hH,rfl,gx⟩:=bothC_zero HZ.out;have HCH:=ι hch;have HH:=ι hH;have GX:=ι gx;clear hch hH gx h0;obtain ⟨bb,hbb⟩:∃ b,Hid (decide ((((siC N O R x).1:Nat):Int)=((N:Nat):Int))=b):=⟨_,ι rfl⟩;go_upto_region 4 with (fail);refine Rg.wl ?_;refine Rg.lr 16 (Rg.exec_load (v:=(.agg #[.int .i64 ((N:Nat):Int),.slice oa (O.map Ma.ofN).length oc,.slice ra (R.map (List.map Ma.ofN)).length rc])) _ _ rfl ⟨w.heap.size,0,none⟩ rfl (run_loadC3 A0.out.cell A1.out.cell A2.out.cell)) ?_;go_frame;refine Rg.lm 17 (.slice xa (Ma.ofN x).length xc) ?_;go_frame;refine list_ask (some 18) rfl rfl _ _ (exec_fn 111 _ _ _ rfl rfl rfl (Zecl3 _ _)) ?_
  refine (chSift_c hN1 hN2 HCH.out HH.out GX.out HC.out HX.out).mono ?_;rintro e1 w3 ⟨v1,rfl,hsv,hb⟩;refine ⟨_,rfl,?_⟩;go_frame;replace HC:=ι (HC.out.below hb);replace HX:=ι (HX.out.below hb);replace A0:=ι (A0.out.below hb);replace A1:=ι (A1.out.below hb);replace A2:=ι (A2.out.below hb);replace K:=ι (Rg.acc K.out hb);clear hb;refine Rg.lm 15 (.tuple #[v1,.int .i64 (((siC N O R x).1:Nat):Int)]) ?_;go_frame;refine Rg.lr 19 (exec_extract (v:=v1) _ _ rfl rfl rfl) ?_;go_frame;refine Rg.lr 20 (exec_extract (v:=.int .i64 (((siC N O R x).1:Nat):Int)) _ _ rfl rfl rfl) ?_;go_frame;refine Rg.la 7 (v1) ?_;go_frame;refine Rg.la 8 (.int .i64 (((siC N O R x).1:Nat):Int)) ?_;go_frame;go_upto_region 5 with (fail);refine Rg.wl ?_;refine Rg.lm 21 (.int .i64 (((siC N O R x).1:Nat):Int)) ?_;go_frame;refine Rg.lr 22 (exec_field _ rfl rfl (chF0 _ _)) ?_;go_frame;refine Rg.lr 23 (Rg.exec_load (v:=.int .i64 ((N:Nat):Int)) _ _ rfl ⟨w.heap.size,0,none⟩ rfl (run_loadInt A0.out.cell)) ?_;go_frame
  refine Rg.lr 24 (exec_bin (R:=.bool bb) .eql _ _ _ rfl rfl rfl (b_eql _ hbb.out)) ?_;go_frame;refine Rg.la 4 (.bool bb) ?_;go_frame;refine Rg.la 5 (.int .i64 ((0:Nat):Int)) ?_;go_frame;go_wp2
  go_ret2
  exact ⟨by rw [inA_ok HZ.out,HZ.out,hbb.out]; rfl,K.out⟩
end Go.Proofs.YthehbckogieimaaGreat

namespace Go.Proofs.YthehbckogieimaaGreat
open Go.RowKit
open Go.Proofs
open Go.Proofs.Ob
open Go.Shelf
open Go.Proofs.Cm (Gd)
attribute [local go_sem] Oper.semAt_some
attribute [local irreducible] Go.Calls Go.wpList Go.wpListIn
structure BeI (w:World) (n m:Int) (ov rv ov' rv':Value) (W:World) (bv:Bool) (c:Int):Prop where
 bel:Below w.heap.size w W
 a0:CL W w.heap.size 0 (.int .i64 n)
 a1:CL W w.heap.size 1 ov
 a2:CL W w.heap.size 2 rv
 b0:CL W (w.heap.size+1) 0 (.int .i64 m)
 b1:CL W (w.heap.size+1) 1 ov'
 b2:CL W (w.heap.size+1) 2 rv'
 c4:CW W (w.heap.size+2) (.bool bv)
 c5:CW W (w.heap.size+3) (.int .i64 c)
theorem BeI.below {w:World} {n m:Int} {ov rv ov' rv':Value} {W W':World} {bv:Bool} {c:Int} (h:BeI w n m ov rv ov' rv' W bv c) (hb:Below W.heap.size W W'):BeI w n m ov rv ov' rv' W' bv c :=
 ⟨h.bel.trans (hb.mono h.bel.size),h.a0.up hb,h.a1.up hb,h.a2.up hb,h.b0.up hb,h.b1.up hb,h.b2.up hb,h.c4.below hb,h.c5.below hb⟩
theorem BeI.keep {w:World} {n m:Int} {ov rv ov' rv':Value} {W W':World} {bv:Bool} {c:Int} {row:Option Nat} {B:Nat} (h:BeI w n m ov rv ov' rv' W bv c) (hB:w.heap.size+4≤B) (hg:W.grownBy W' row) (hr:∀ r,row=some r→B≤r∧∃ o:Obj,W.heap[r]?=some o∧o.isCells=false):BeI w n m ov rv ov' rv' W' bv c:=by
 have hk:Rg.Kp (fun k=>row=some k) W W':=Rg.Kp.of_grown hg fun _ e=>e
 have hM:∀ b,b<B→¬ row=some b:=fun b hb e=>by have:=(hr b e).1; omega
 exact ⟨h.bel.grown hg h.bel.size (fun k e=>by have:=(hr k e).1; omega),h.a0.kp hk (hM _ (by omega)),h.a1.kp hk (hM _ (by omega)),h.a2.kp hk (hM _ (by omega)),h.b0.kp hk (hM _ (by omega)),h.b1.kp hk (hM _ (by omega)),h.b2.kp hk (hM _ (by omega)),h.c4.kp hk (hM _ (by omega)),h.c5.kp hk (hM _ (by omega))⟩
theorem BeI.set {w:World} {n m:Int} {ov rv ov' rv':Value} {W:World} {bv:Bool} {c:Int} (h:BeI w n m ov rv ov' rv' W bv c) (bv':Bool) (c':Int):BeI w n m ov rv ov' rv' ((W.setCell ⟨w.heap.size+2,0,none⟩ (.bool bv')).setCell ⟨w.heap.size+3,0,none⟩ (.int .i64 c')) bv' c':=by
 have hk1:Rg.Kp (fun z=>z=w.heap.size+2) W (W.setCell ⟨w.heap.size+2,0,none⟩ (.bool bv')):=Rg.Kp.of_setCell rfl;have hk2:Rg.Kp (fun z=>z=w.heap.size+3) (W.setCell ⟨w.heap.size+2,0,none⟩ (.bool bv')) ((W.setCell ⟨w.heap.size+2,0,none⟩ (.bool bv')).setCell ⟨w.heap.size+3,0,none⟩ (.int .i64 c')):=Rg.Kp.of_setCell rfl
 exact ⟨(h.bel.setCell (p:=⟨w.heap.size+2,0,none⟩) (by show w.heap.size≤w.heap.size+2; omega) _).setCell (p:=⟨w.heap.size+3,0,none⟩) (by show w.heap.size≤w.heap.size+3; omega) _,
  (h.a0.kp hk1 (by omega)).kp hk2 (by omega),(h.a1.kp hk1 (by omega)).kp hk2 (by omega),(h.a2.kp hk1 (by omega)).kp hk2 (by omega),(h.b0.kp hk1 (by omega)).kp hk2 (by omega),(h.b1.kp hk1 (by omega)).kp hk2 (by omega),(h.b2.kp hk1 (by omega)).kp hk2 (by omega),(h.c4.set _).other _ (by omega),(h.c5.other _ (by omega)).set _⟩
def BePost (n:Int) (OO:List (List Int)) (RR:List (List (List Int))) (m:Int) (OO':List (List Int)) (RR':List (List (List Int))) (w:World) (e:Ending) (w':World):Prop:=e=.returned (.tuple #[.bool (belA n OO RR m OO' RR'),.int .i64 (belC n OO RR m OO' RR')])∧Below w.heap.size w w'
theorem be_leave {n m:Int} {OO OO':List (List Int)} {RR RR':List (List (List Int))} {ov rv ov' rv':Value} {w W:World} {tmps:Array Value} {b:Bool} {c:Int} {ds:List Nat} (h:BeI w n m ov rv ov' rv' W b c) (hb:belA n OO RR m OO' RR'=b) (hc:belC n OO RR m OO' RR'=c) (p4:tmps.getD 4 undef=.pointer (some ⟨w.heap.size+2,0,none⟩)) (p5:tmps.getD 5 undef=.pointer (some ⟨w.heap.size+3,0,none⟩)) (hnd:ds.Nodup) (hD:∀ D,D∈ds→RF.Dfr D W∧w.heap.size≤D) :
  LeavesInM Fence.wide 0 Tryz.prog Tryz.f44 tmps (BePost n OO RR m OO' RR' w) (ds.map RF.mark) .returning W :=
 RF.leaves w.heap.size ds W hnd hD fun W' l1 l2 _=>⟨_,results_cells2 rfl _ p4 p5 (run_loadBool ((l2 _).trans h.c4.c)) (run_loadE ((l2 _).trans h.c5.c)),by rw [hb,hc],h.bel.trans l1⟩
theorem belA_bad {n m:Int} {OO OO':List (List Int)} {RR RR':List (List (List Int))} (h:¬ belC n OO RR m OO' RR'=0):belA n OO RR m OO' RR'=false:=if_neg h
theorem belA_val {N:Nat} {O O':List (List Nat)} {R R':List (List (List Nat))} (h:belC ((N:Nat):Int) (O.map Ma.ofN) (R.map (List.map Ma.ofN)) ((N:Nat):Int) (O'.map Ma.ofN) (R'.map (List.map Ma.ofN))=0) :
  belA ((N:Nat):Int) (O.map Ma.ofN) (R.map (List.map Ma.ofN)) ((N:Nat):Int) (O'.map Ma.ofN) (R'.map (List.map Ma.ofN))=R.flatten.all (fun x=>decide ((siC N O' R' x).1=N)):=by
 unfold belA;rw [if_pos h,flat_map_ofN,List.all_map]
 congr 1
 funext x
 simp only [Function.comp];rw [siZ_eq];exact decide_eq_decide.2 (by omega)
def BeR (N:Nat) (R:List (List (List Nat))) (O':List (List Nat)) (R':List (List (List Nat))) {k:Nat} (pre:List (Fin k)):Prop:=∀ z∈pre,∀ x∈R.getD z.1 [],(siC N O' R' x).1=N
theorem BeR.all {N:Nat} {R:List (List (List Nat))} {O':List (List Nat)} {R':List (List (List Nat))} {k:Nat} (hk:R.length=k) (h:BeR N R O' R' (finTo k k)):R.flatten.all (fun x=>decide ((siC N O' R' x).1=N))=true:=by
 rw [List.all_eq_true];intro x hx;obtain ⟨r,hr,hx⟩:=List.mem_flatten.1 hx;obtain ⟨i,hi,rfl⟩:=List.getElem_of_mem hr;rw [finTo_all] at h;have:=h ⟨i,hk▸hi⟩ (List.mem_finRange _) x (by rw [getD_inf hi]; exact hx)
 simpa using this
theorem be_no {N:Nat} {R:List (List (List Nat))} {O':List (List Nat)} {R':List (List (List Nat))} {x:List Nat} (hx:x∈R.flatten) (h:¬ (siC N O' R' x).1=N):R.flatten.all (fun x=>decide ((siC N O' R' x).1=N))=false:=by
 rw [List.all_eq_false];exact ⟨x,hx,by simpa using h⟩
theorem chBelow_any {n m:Int} {ov rv ov' rv':Value} {OO OO':List (List Int)} {RR RR':List (List (List Int))} {w:World} (h:ChEqR w ov rv OO RR) (h':ChEqR w ov' rv' OO' RR') :
  Calls Tryz.prog 44 #[.agg #[.int .i64 n,ov,rv],.agg #[.int .i64 m,ov',rv']] w (BePost n OO RR m OO' RR' w):=by
 obtain ⟨oa,oc,rfl,-⟩:=h.1.shape;obtain ⟨ra,rc,rfl⟩:=h.2.shape;obtain ⟨oa',oc',rfl,-⟩:=h'.1.shape;obtain ⟨ra',rc',rfl⟩:=h'.2.shape;have HC:=ι h;have HD:=ι h';have HC0:=HC;have HR:=ι h.2;have HE:=HD;have K:=ι (Below.refl w.heap.size w);clear h h';refine RF.calls_marks Tryz.func44 rfl ?_;simp only [Tryz.ntmps44,List.size_toArray,List.length_cons,List.length_nil,Nat.reduceAdd,Nat.reduceSub,Array.replicate_succ,Array.replicate_zero,List.push_toArray,List.append_toArray,List.nil_append,List.cons_append];have hs0:w.heap.size=w.heap.size+0:=rfl;go_upto_region 0 with (fail);refine Rg.wl ?_;have hbx:=box3 w (.int .i64 n) (.slice oa OO.length oc) (.slice ra RR.length rc)
 have hs:(w.alloc (.cells #[.int .i64 n,.slice oa OO.length oc,.slice ra RR.length rc] 54)).heap.size=w.heap.size+1:=by simp
 refine Rg.lr 2 (Rg.exec_box _ _ rfl rfl) ?_;go_frame;have hb:=(Below.refl w.heap.size w).alloc (Nat.le_refl _) (.cells #[.int .i64 n,.slice oa OO.length oc,.slice ra RR.length rc] 54);generalize w.alloc (.cells #[.int .i64 n,.slice oa OO.length oc,.slice ra RR.length rc] 54)=w1 at *;replace HC:=ι (HC.out.below hb);replace HD:=ι (HD.out.below hb);replace K:=ι (Rg.acc K.out hb);clear hb;have A0:=ι hbx.1;have A1:=ι hbx.2.1;have A2:=ι hbx.2.2
 have hs1:w1.heap.size=w.heap.size+1:=by omega
 clear hs;clear hbx;have hbx:=box3 w1 (.int .i64 m) (.slice oa' OO'.length oc') (.slice ra' RR'.length rc')
 have hs:(w1.alloc (.cells #[.int .i64 m,.slice oa' OO'.length oc',.slice ra' RR'.length rc'] 54)).heap.size=w1.heap.size+1:=by simp
 refine Rg.lr 3 (Rg.exec_box _ _ rfl rfl) ?_;go_frame;have hb:=(Below.refl w1.heap.size w1).alloc (Nat.le_refl _) (.cells #[.int .i64 m,.slice oa' OO'.length oc',.slice ra' RR'.length rc'] 54);generalize w1.alloc (.cells #[.int .i64 m,.slice oa' OO'.length oc',.slice ra' RR'.length rc'] 54)=w2 at *;replace HC:=ι (HC.out.below hb);replace HD:=ι (HD.out.below hb);replace A0:=ι (A0.out.below hb);replace A1:=ι (A1.out.below hb);replace A2:=ι (A2.out.below hb);replace K:=ι (Rg.acc K.out hb);clear hb;rw [hs1] at hbx ⊢
 have hs2:w2.heap.size=w.heap.size+2:=by omega
 clear hs;have E0:=ι hbx.1;have E1:=ι hbx.2.1;have E2:=ι hbx.2.2;clear hbx;have hnw:=CW.new w2 (.bool false) 4
 have hs:(w2.alloc (.cells #[.bool false] 4)).heap.size=w2.heap.size+1:=by simp
 refine Rg.lr 4 (exec_allocBo rfl) ?_;go_frame;have hb:=(Below.refl w2.heap.size w2).alloc (Nat.le_refl _) (.cells #[.bool false] 4);generalize w2.alloc (.cells #[.bool false] 4)=w3 at *;replace HC:=ι (HC.out.below hb);replace HD:=ι (HD.out.below hb);replace A0:=ι (A0.out.below hb);replace A1:=ι (A1.out.below hb);replace A2:=ι (A2.out.below hb);replace E0:=ι (E0.out.below hb);replace E1:=ι (E1.out.below hb);replace E2:=ι (E2.out.below hb);replace K:=ι (Rg.acc K.out hb);clear hb;rw [hs2] at hnw ⊢
 have hs3:w3.heap.size=w.heap.size+3:=by omega
 have C4:=ι hnw;clear hnw hs;have hnw:=CW.new w3 (.int .i64 0) 28
 have hs:(w3.alloc (.cells #[.int .i64 0] 28)).heap.size=w3.heap.size+1:=by simp
 refine Rg.lr 5 (exec_allocE rfl) ?_;go_frame;have hb:=(Below.refl w3.heap.size w3).alloc (Nat.le_refl _) (.cells #[.int .i64 0] 28);generalize w3.alloc (.cells #[.int .i64 0] 28)=w4 at *;replace HC:=ι (HC.out.below hb);replace HD:=ι (HD.out.below hb);replace A0:=ι (A0.out.below hb);replace A1:=ι (A1.out.below hb);replace A2:=ι (A2.out.below hb);replace E0:=ι (E0.out.below hb);replace E1:=ι (E1.out.below hb);replace E2:=ι (E2.out.below hb);replace C4:=ι (C4.out.below hb);replace K:=ι (Rg.acc K.out hb);clear hb;rw [hs3] at hnw ⊢
 have hs4:w4.heap.size=w.heap.size+4:=by omega
 have C5:=ι hnw;clear hnw hs;have BI:=ι (show BeI w n m (.slice oa OO.length oc) (.slice ra RR.length rc) (.slice oa' OO'.length oc') (.slice ra' RR'.length rc') w4 false 0 from ⟨K.out,A0.out,A1.out,A2.out,E0.out,E1.out,E2.out,C4.out,C5.out⟩);clear A0 A1 A2 E0 E1 E2 C4 C5 hs0 hs1 hs2 hs3;obtain ⟨ck,hck⟩:∃ c,Hid (chCode n OO RR=c):=⟨_,ι rfl⟩;obtain ⟨dk,hdk⟩:∃ c,Hid (chCode m OO' RR'=c):=⟨_,ι rfl⟩;go_upto_region 1 with (fail);refine Rg.wl ?_;refine Rg.lr 14 (Rg.exec_load (v:=(.agg #[.int .i64 n,.slice oa OO.length oc,.slice ra RR.length rc])) _ _ rfl ⟨w.heap.size,0,none⟩ rfl (run_loadC3 BI.out.a0.cell BI.out.a1.cell BI.out.a2.cell)) ?_;go_frame;refine list_ask (some 15) rfl rfl _ _ (exec_fn1 42 _ _ rfl rfl (Xccl0 _ _)) ?_;refine (chCheck_c HC.out).mono ?_;rintro e1 w5 ⟨rfl,hb⟩;rw [hck.out];refine ⟨_,rfl,?_⟩;go_frame;replace HC:=ι (HC.out.below hb);replace HD:=ι (HD.out.below hb)
 replace BI:=ι (BI.out.below hb);replace K:=ι (Rg.acc K.out hb);clear hb;refine Rg.la 6 (.int .i64 ck) ?_;go_frame
 by_cases h0:ck=0
 case neg =>
  skip
  go_upto_region 2 with (fail);refine Rg.wl ?_;refine Rg.lm 16 (.int .i64 ck) ?_;go_frame;refine Rg.lr 17 (exec_bin (R:=.bool true) .neq _ _ _ rfl rfl rfl (b_neqB _ (decide_eq_true h0))) ?_;go_frame;go_upto_region 3 with (fail);refine Rg.wl ?_;refine Rg.lm 18 (.int .i64 ck) ?_;go_frame;refine Rg.list_skip none rfl rfl (Rg.exec_store _ _ _ rfl _ rfl _ rfl (run_storeBool _ BI.out.c4.c BI.out.c4.f)) ?_;go_frame;refine Rg.list_skip none rfl rfl (Rg.exec_store _ _ _ rfl _ rfl _ rfl (run_storeE _ (BI.out.c5.other _ (by omega)).c (BI.out.c5.other _ (by omega)).f)) ?_;go_frame;have hbs:=BI.out.set false ck;generalize (w5.setCell ⟨w.heap.size+2,0,none⟩ (.bool false)).setCell ⟨w.heap.size+3,0,none⟩ (.int .i64 ck)=w99 at *;have BX:=ι hbs;have HV1:=ι (show belC n OO RR m OO' RR'=ck from (belC_one (by rw [hck.out]; exact h0)).trans hck.out);have HV2:=ι (show belA n OO RR m OO' RR'=false from belA_bad (by rw [HV1.out]; exact h0))
  clear hbs;go_wp2;exact be_leave (ds:=[]) BX.out HV2.out HV1.out rfl rfl (by simp) (fun D hD=>by simp at hD)
 case pos =>
  have HZ:=ι (hck.out.trans h0);go_upto_region 2 with (fail);refine Rg.wl ?_;refine Rg.lm 16 (.int .i64 ck) ?_;go_frame;refine Rg.lr 17 (exec_bin (R:=.bool false) .neq _ _ _ rfl rfl rfl (b_neqB _ (decide_eq_false (fun e=>e h0)))) ?_;go_frame;clear h0;go_upto_region 4 with (fail);refine Rg.wl ?_;refine Rg.lr 19 (Rg.exec_load (v:=(.agg #[.int .i64 m,.slice oa' OO'.length oc',.slice ra' RR'.length rc'])) _ _ rfl ⟨(w.heap.size+1),0,none⟩ rfl (run_loadC3 BI.out.b0.cell BI.out.b1.cell BI.out.b2.cell)) ?_;go_frame;refine list_ask (some 20) rfl rfl _ _ (exec_fn1 42 _ _ rfl rfl (Xccl0 _ _)) ?_;refine (chCheck_c HD.out).mono ?_;rintro e1 w6 ⟨rfl,hb⟩;rw [hdk.out];refine ⟨_,rfl,?_⟩;go_frame;replace HC:=ι (HC.out.below hb);replace HD:=ι (HD.out.below hb);replace BI:=ι (BI.out.below hb);replace K:=ι (Rg.acc K.out hb);clear hb;refine Rg.la 7 (.int .i64 dk) ?_;go_frame
  by_cases h1:dk=0
  case neg =>
   skip
   go_upto_region 5 with (fail);refine Rg.wl ?_;refine Rg.lm 21 (.int .i64 dk) ?_;go_frame;refine Rg.lr 22 (exec_bin (R:=.bool true) .neq _ _ _ rfl rfl rfl (b_neqB _ (decide_eq_true h1))) ?_;go_frame;go_upto_region 6 with (fail);refine Rg.wl ?_;refine Rg.lm 23 (.int .i64 dk) ?_;go_frame;refine Rg.list_skip none rfl rfl (Rg.exec_store _ _ _ rfl _ rfl _ rfl (run_storeBool _ BI.out.c4.c BI.out.c4.f)) ?_;go_frame;refine Rg.list_skip none rfl rfl (Rg.exec_store _ _ _ rfl _ rfl _ rfl (run_storeE _ (BI.out.c5.other _ (by omega)).c (BI.out.c5.other _ (by omega)).f)) ?_;go_frame;have hbs:=BI.out.set false dk;generalize (w6.setCell ⟨w.heap.size+2,0,none⟩ (.bool false)).setCell ⟨w.heap.size+3,0,none⟩ (.int .i64 dk)=w99 at *;have BX:=ι hbs;have HV1:=ι (show belC n OO RR m OO' RR'=dk from (belC_two HZ.out (by rw [hdk.out]; exact h1)).trans hdk.out);have HV2:=ι (show belA n OO RR m OO' RR'=false from belA_bad (by rw [HV1.out]; exact h1))
   clear hbs;go_wp2;exact be_leave (ds:=[]) BX.out HV2.out HV1.out rfl rfl (by simp) (fun D hD=>by simp at hD)
  case pos =>
   have HY:=ι (hdk.out.trans h1);go_upto_region 5 with (fail);refine Rg.wl ?_;refine Rg.lm 21 (.int .i64 dk) ?_;go_frame;refine Rg.lr 22 (exec_bin (R:=.bool false) .neq _ _ _ rfl rfl rfl (b_neqB _ (decide_eq_false (fun e=>e h1)))) ?_;go_frame;clear h1
   by_cases h2:n=m
   case neg =>
    skip
    go_upto_region 7 with (fail);refine Rg.wl ?_;refine Rg.lr 24 (exec_field _ rfl rfl (chF0 _ _)) ?_;go_frame;refine Rg.lr 25 (Rg.exec_load (v:=.int .i64 n) _ _ rfl ⟨w.heap.size,0,none⟩ rfl (run_loadInt BI.out.a0.cell)) ?_;go_frame;refine Rg.lr 26 (exec_field _ rfl rfl (chF0 _ _)) ?_;go_frame;refine Rg.lr 27 (Rg.exec_load (v:=.int .i64 m) _ _ rfl ⟨(w.heap.size+1),0,none⟩ rfl (run_loadInt BI.out.b0.cell)) ?_;go_frame;refine Rg.lr 28 (exec_bin (R:=.bool true) .neq _ _ _ rfl rfl rfl (b_neqB _ (decide_eq_true h2))) ?_;go_frame;go_upto_region 8 with (fail);refine Rg.wl ?_;refine Rg.list_skip none rfl rfl (Rg.exec_store _ _ _ rfl _ rfl _ rfl (run_storeBool _ BI.out.c4.c BI.out.c4.f)) ?_;go_frame;refine Rg.list_skip none rfl rfl (Rg.exec_store _ _ _ rfl _ rfl _ rfl (run_storeE _ (BI.out.c5.other _ (by omega)).c (BI.out.c5.other _ (by omega)).f)) ?_;go_frame;have hbs:=BI.out.set false 10
    generalize (w6.setCell ⟨w.heap.size+2,0,none⟩ (.bool false)).setCell ⟨w.heap.size+3,0,none⟩ (.int .i64 10)=w99 at *;have BX:=ι hbs;have HV1:=ι (show belC n OO RR m OO' RR'=10 from belC_deg HZ.out HY.out h2);have HV2:=ι (show belA n OO RR m OO' RR'=false from belA_bad (by rw [HV1.out]; decide));clear hbs;go_wp2;exact be_leave (ds:=[]) BX.out HV2.out HV1.out rfl rfl (by simp) (fun D hD=>by simp at hD)
   case pos =>
    skip
    go_upto_region 7 with (fail);refine Rg.wl ?_;refine Rg.lr 24 (exec_field _ rfl rfl (chF0 _ _)) ?_;go_frame;refine Rg.lr 25 (Rg.exec_load (v:=.int .i64 n) _ _ rfl ⟨w.heap.size,0,none⟩ rfl (run_loadInt BI.out.a0.cell)) ?_;go_frame;refine Rg.lr 26 (exec_field _ rfl rfl (chF0 _ _)) ?_;go_frame;refine Rg.lr 27 (Rg.exec_load (v:=.int .i64 m) _ _ rfl ⟨(w.heap.size+1),0,none⟩ rfl (run_loadInt BI.out.b0.cell)) ?_;go_frame;refine Rg.lr 28 (exec_bin (R:=.bool false) .neq _ _ _ rfl rfl rfl (b_neqB _ (decide_eq_false (fun e=>e h2)))) ?_;go_frame;have HB0:=ι (belC_ok HZ.out HY.out h2);obtain ⟨N,O,R,rfl,hN1,hN2,hOO,hRR,hch,hgs⟩:=chCode_ok HZ.out;obtain ⟨N',O',R',e2,_,_,hOO',hRR',hch',hgs'⟩:=chCode_ok HY.out;obtain rfl:m=((N:Nat):Int):=h2.symm
    obtain rfl:N=N':=by omega
    have HLR:=ι (show RR.length=N by rw [hRR,List.length_map,hch.lenR]);have HLR2:=ι (show R.length=RR.length by rw [hRR,List.length_map]);have HRR:=ι hRR;have HOO:=ι hOO;have HRR':=ι hRR';have HOO':=ι hOO';have HCH:=ι hch;have HCH':=ι hch';have HGS:=ι hgs;have HH':=ι (Cm.Gr.isG (n:=N) (gs:=(·∈R'.flatten)) hgs');clear hOO hRR hch hgs hOO' hRR' hch' hgs' h2 e2;go_upto_region 9 with (fail);refine Rg.wl ?_;refine Rg.lr 29 (Rg.exec_load (v:=(.agg #[.int .i64 ((N:Nat):Int),.slice oa OO.length oc,.slice ra RR.length rc])) _ _ rfl ⟨w.heap.size,0,none⟩ rfl (run_loadC3 BI.out.a0.cell BI.out.a1.cell BI.out.a2.cell)) ?_;go_frame;refine list_ask (some 30) rfl rfl _ _ (exec_fn1 114 _ _ rfl rfl (Wvcl0 _ _)) ?_;refine (reps_any _ _ _ w6).mono ?_;rintro e1 w7 ⟨fb,rfl,hfb,hb⟩;have hsz:=hb.size;refine ⟨_,rfl,?_⟩;go_frame;replace HC:=ι (HC.out.below hb);replace HD:=ι (HD.out.below hb)
    replace BI:=ι (BI.out.below hb);replace K:=ι (Rg.acc K.out hb);clear hb;have FB:=ι hfb;clear hfb;have HS0:=ι (show w.heap.size+4≤w7.heap.size from BI.out.c5.lt);clear hsz;obtain ⟨us,hus,hul,hur⟩:=HR.out;have HUR:=ι hur
    have hrv:RV3 w.heap.size w7 ra RR.length (fun k=>us[k]?.getD undef):=by
     obtain ⟨a',c',e,q1,q2,q3,q4⟩:=hus
     injection e with e1 e2 e3
     refine ⟨by have:=HLR.out; omega,fun h0=>?_,fun b off e5 j hj=>?_,K.out.size⟩
     ·obtain ⟨b,o,e4,e5,_⟩:=q4 (by omega)
      exact ⟨b,o,e1.trans e4,e5⟩
     ·obtain ⟨b',o',e4,e6,e7⟩:=q4 (by omega)
      rw [e1,e4] at e5;simp only [Option.some.injEq,Addr.mk.injEq,and_true] at e5;obtain ⟨rfl,rfl⟩:=e5;rw [(K.out.cell (p:=⟨b',o'+j,none⟩) e6)];show _=some (us[j]?.getD undef);rw [List.getElem?_eq_getElem (by omega)];exact e7 j (by omega)
    have HRV:=ι hrv;have HUL:=ι hul;clear hus hrv hul hur;go_wp2
    refine range_reps2 rfl FB.out HRV.out rfl (fun pre W=>BeI w ((N:Nat):Int) ((N:Nat):Int) (.slice oa OO.length oc) (.slice ra RR.length rc) (.slice oa' OO'.length oc') (.slice ra' RR'.length rc') W false 0∧BeR N R O' R' pre)
     (fun c pre W=>c=.ret∧BeI w ((N:Nat):Int) ((N:Nat):Int) (.slice oa OO.length oc) (.slice ra RR.length rc) (.slice oa' OO'.length oc') (.slice ra' RR'.length rc') W false 0∧R.flatten.all (fun x=>decide ((siC N O' R' x).1=N))=false) ?hI ?hIx ⟨BI.out,fun z hz=>by simp at hz⟩ ?a1 ?assign ?body ?done ?stop
    case assign =>
     intro l x W K hK
     gi_wp2
     exact hK
    case hI =>
     rintro pre W W' row ⟨h1,h2⟩ hg hr;exact ⟨h1.keep (by have:=HS0.out; omega) hg hr,h2⟩
    case hIx =>
     rintro c pre W W' row ⟨rfl,h1,h2⟩ hg hr;exact ⟨rfl,h1.keep (by have:=HS0.out; omega) hg hr,h2⟩
    case body =>
     rintro l pre ⟨X,hX⟩ Wb ⟨hbi,hbr⟩ hpl;obtain ⟨B,hB⟩:∃ B,w7.heap.size=B:=⟨_,rfl⟩;rw [hB] at HS0 ⊢;clear FB HRV BI K hB HC HD
     have hXn:X<N:=by have:=HLR.out; omega
     have BI:=ι hbi;have K:=ι hbi.bel;have KQ:=ι (KK.refl (B:=B) (n₀:=w.heap.size) (W:=Wb) hbi.bel.size);have HBR:=ι hbr;have HXR:=ι hX;have HXN:=ι hXn;have HWB:=ι (show w.heap.size+4≤Wb.heap.size from hbi.c5.lt);clear hbi hbr;have hu:=HUR.out X (by rw [HUL.out]; exact hX) hX
     have e1:us[X]?.getD undef=us[X]'(by rw [HUL.out]; exact hX):=by rw [List.getElem?_eq_getElem (by rw [HUL.out]; exact hX)]; rfl
     rw [← e1] at hu
     dsimp only
     generalize us[X]?.getD undef=u at *;clear e1;obtain ⟨rl,hrl⟩:∃ rl:List (List Nat),Hid (R.getD X []=rl):=⟨_,ι rfl⟩
     have hXR:X<R.length:=by have:=HLR2.out; omega
     have hrx:RR[X]'hX=rl.map Ma.ofN:=by
      rw [← hrl.out]
      have:RR[X]'hX=(R.map (List.map Ma.ofN))[X]'(by rw [List.length_map]; exact hXR):=by first | (congr 1; done) | (congr 1; exact HRR.out)
      rw [this,List.getElem_map,getD_inf hXR]
     rw [hrx] at hu;have HRM:=ι (show ∀ x∈rl,x∈R.flatten from fun x hx=>List.mem_flatten.2 ⟨_,List.getElem_mem hXR,by rw [← getD_inf hXR,hrl.out]; exact hx⟩);obtain ⟨ua,uc,rfl,-,-,-,hrc⟩:=hu.shape
     have hrlen:rl.length≤N - X:=by
      have h1:=HCH.out.len X hXn;have h2:=chain_len (Cm.Gr.isG (n:=N) (gs:=(·∈R.flatten)) HGS.out) HCH.out hXn;rw [hrl.out] at h1;omega
     have HRC:=ι hrc;rw [List.length_map];have HRLN:=ι (show rl.length≤64 by omega);clear hrc hu hrx hrlen
     gi_upto_region 11 with (fail)
     refine wpIn_region_list ?_;refine Rg.in_run (some 33) rfl rfl (fun _ hh=>by cases hh) (Rg.xm (.slice ua rl.length uc) _ rfl rfl) ?_;go_frame;refine Rg.in_run (some 34) rfl rfl (fun _ hh=>by cases hh) (exec_len _ _ _ rfl Tryz.underlying22 _ _ _ rfl) ?_;go_frame;refine Rg.in_run (some 35) rfl rfl (fun _ hh=>by cases hh) (Rg.xm (.int .i64 ((0:Nat):Int)) _ rfl rfl) ?_;go_frame;have HJ0:=ι (show ∀ x∈rl.take 0,(siC N O' R' x).1=N from fun x hx=>by simp at hx)
     gi_wp2
     gi_loopw [35] (fun jv wr=>∃ j:Nat,jv=.int .i64 j∧j≤rl.length∧Hid (BeI w ((N:Nat):Int) ((N:Nat):Int) (.slice oa OO.length oc) (.slice ra RR.length rc) (.slice oa' OO'.length oc') (.slice ra' RR'.length rc') wr false 0)∧Hid (KK B w.heap.size Wb wr)∧Hid (∀ x∈rl.take j,(siC N O' R' x).1=N)) (fun jv _=>rl.length - (intOf jv).toNat)
     case atStart=>exact ⟨0,rfl,Nat.zero_le _,BI,KQ,HJ0⟩
     case round =>
      clear BI KQ HJ0 K;obtain ⟨j,rfl,hj,BI,KQ,HJ⟩:=hrel;have K:=ι BI.out.bel
      by_cases hjl:j<rl.length
      ·have hjN:(j:Int)<(rl.length:Int):=by omega
       have HJL:=ι hjl;obtain ⟨ub,uo,rfl,hub,huc⟩:=HRC.out (by rw [List.length_map]; omega);obtain ⟨sv,hsc,hsi⟩:=huc j (by rw [List.length_map]; exact hjl);obtain ⟨s,hs⟩:∃ s:List Nat,Hid (rl[j]'hjl=s):=⟨_,ι rfl⟩
       have hsn:Rg.NP w sv s:=by rw [← hs.out]; rw [List.getElem_map] at hsi; exact hsi
       have HSM:=ι (HRM.out s (by rw [← hs.out]; exact List.getElem_mem hjl));have GS:=ι (HGS.out s HSM.out);obtain ⟨sa,so,sc,rfl⟩:=(FP.of_np hsn).shape' GS.out hN1;have CS:=ι (CL.mk hsc hub);have NS:=ι (show Rg.Ints w _ (Ma.ofN s) from hsn);clear huc hsc hsi hsn hub;obtain ⟨lv,hlv⟩:∃ lv:Nat,Hid ((siC N O' R' s).1=lv):=⟨_,ι rfl⟩
       have hle:lv≤N:=by rw [← hlv.out]; exact siC_le _
       gi_upto_region 12 with (fail)
       refine wpIn_region_list ?_;refine Rg.in_run (some 36) rfl rfl (fun _ hh=>by cases hh) (exec_bin (R:=.bool true) .lss _ _ _ rfl rfl rfl (b_lss _ (decide_eq_true (by omega)))) ?_;go_frame
       gi_upto_region 13 with (fail)
       refine wpIn_region_list ?_;refine Rg.in_run (some 37) rfl rfl (fun _ hh=>by cases hh) (exec_indexS slPerms _ _ rfl ub (uo) (rl.length) uc (j) rfl rfl HJL.out) ?_;go_frame;refine Rg.in_run (some 38) rfl rfl (fun _ hh=>by cases hh) (Rg.exec_load (v:=.slice (some ⟨sa,so,none⟩) N sc) _ _ rfl ⟨ub,uo+j,none⟩ rfl (Rg.run_loadSl _ _ Tryz.underlying51 ((Below.cell (p:=⟨ub,uo+j,none⟩) K.out CS.out.lt).trans CS.out.cell))) ?_;go_frame;refine Rg.in_run (some 11) rfl rfl (fun _ hh=>by cases hh) (Rg.xa (.slice (some ⟨sa,so,none⟩) N sc) _ rfl rfl) ?_;go_frame
       gi_upto_region 14 with (fail)
       refine wpIn_region_list ?_;refine Rg.in_run (some 40) rfl rfl (fun _ hh=>by cases hh) (Rg.exec_load (v:=(.agg #[.int .i64 ((N:Nat):Int),.slice oa' OO'.length oc',.slice ra' RR'.length rc'])) _ _ rfl ⟨(w.heap.size+1),0,none⟩ rfl (run_loadC3 BI.out.b0.cell BI.out.b1.cell BI.out.b2.cell)) ?_;go_frame;refine Rg.in_run (some 41) rfl rfl (fun _ hh=>by cases hh) (Rg.xm (.slice (some ⟨sa,so,none⟩) N sc) _ rfl rfl) ?_;go_frame;refine Rg.in_ask (some 42) rfl rfl (fun _ hh=>by cases hh) _ _ (exec_fn 111 _ _ _ rfl rfl rfl (Zecl3 _ _)) ?_;refine (csift_any hN1 hN2 HH'.out HCH'.out HOO'.out HRR'.out (HE.out.below K.out) (NS.out.below K.out) GS.out).mono ?_;rintro e1 w61 ⟨v1,rfl,hsv,hb⟩;rw [hlv.out];clear hsv;refine ⟨_,rfl,?_⟩;go_frame;replace BI:=ι (BI.out.below hb);replace KQ:=ι (KQ.out.below hb);replace K:=ι (Rg.acc K.out hb);clear hb;refine Rg.in_run (some 39) rfl rfl (fun _ hh=>by cases hh) (Rg.xm (.tuple #[v1,.int .i64 ((lv:Nat):Int)]) _ rfl rfl) ?_;go_frame
       refine Rg.in_run (some 43) rfl rfl (fun _ hh=>by cases hh) (exec_extract (v:=v1) _ _ rfl rfl rfl) ?_;go_frame;refine Rg.in_run (some 44) rfl rfl (fun _ hh=>by cases hh) (exec_extract (v:=.int .i64 ((lv:Nat):Int)) _ _ rfl rfl rfl) ?_;go_frame;refine Rg.in_run (some 12) rfl rfl (fun _ hh=>by cases hh) (Rg.xa (v1) _ rfl rfl) ?_;go_frame;refine Rg.in_run (some 13) rfl rfl (fun _ hh=>by cases hh) (Rg.xa (.int .i64 ((lv:Nat):Int)) _ rfl rfl) ?_;go_frame
       by_cases hlt:lv<N
       case pos =>
        skip
        gi_upto_region 15 with (fail)
        refine wpIn_region_list ?_;refine Rg.in_run (some 45) rfl rfl (fun _ hh=>by cases hh) (Rg.xm (.int .i64 ((lv:Nat):Int)) _ rfl rfl) ?_;go_frame;refine Rg.in_run (some 46) rfl rfl (fun _ hh=>by cases hh) (exec_field _ rfl rfl (chF0 _ _)) ?_;go_frame;refine Rg.in_run (some 47) rfl rfl (fun _ hh=>by cases hh) (Rg.exec_load (v:=.int .i64 ((N:Nat):Int)) _ _ rfl ⟨(w.heap.size+1),0,none⟩ rfl (run_loadInt BI.out.b0.cell)) ?_;go_frame;refine Rg.in_run (some 48) rfl rfl (fun _ hh=>by cases hh) (exec_bin (R:=.bool true) .lss _ _ _ rfl rfl rfl (b_lss _ (decide_eq_true (by omega)))) ?_;go_frame
        gi_upto_region 16 with (fail)
        refine wpIn_region_list ?_;refine Rg.in_skip none rfl rfl (fun _ hh=>by cases hh) (Rg.exec_store _ _ _ rfl _ rfl _ rfl (run_storeBool _ BI.out.c4.c BI.out.c4.f)) ?_;go_frame;refine Rg.in_skip none rfl rfl (fun _ hh=>by cases hh) (Rg.exec_store _ _ _ rfl _ rfl _ rfl (run_storeE _ (BI.out.c5.other _ (by omega)).c (BI.out.c5.other _ (by omega)).f)) ?_;go_frame;have hbs:=BI.out.set false 0;have hq2:=(KQ.out.set (b:=w.heap.size+2) (o:=0) (.bool false) (by omega)).set (b:=w.heap.size+3) (o:=0) (.int .i64 0) (by omega);generalize (w61.setCell ⟨w.heap.size+2,0,none⟩ (.bool false)).setCell ⟨w.heap.size+3,0,none⟩ (.int .i64 0)=w99 at *;have BX:=ι hbs;have QX:=ι hq2;have HNO:=ι (be_no (N:=N) (O':=O') (R':=R') HSM.out (by rw [hlv.out]; omega));clear hbs hq2
        gi_wp2
        exact ⟨QX.out.keeps,rfl,BX.out,HNO.out⟩
       case neg =>
        skip
        gi_upto_region 15 with (fail)
        refine wpIn_region_list ?_;refine Rg.in_run (some 45) rfl rfl (fun _ hh=>by cases hh) (Rg.xm (.int .i64 ((lv:Nat):Int)) _ rfl rfl) ?_;go_frame;refine Rg.in_run (some 46) rfl rfl (fun _ hh=>by cases hh) (exec_field _ rfl rfl (chF0 _ _)) ?_;go_frame;refine Rg.in_run (some 47) rfl rfl (fun _ hh=>by cases hh) (Rg.exec_load (v:=.int .i64 ((N:Nat):Int)) _ _ rfl ⟨(w.heap.size+1),0,none⟩ rfl (run_loadInt BI.out.b0.cell)) ?_;go_frame;refine Rg.in_run (some 48) rfl rfl (fun _ hh=>by cases hh) (exec_bin (R:=.bool false) .lss _ _ _ rfl rfl rfl (b_lss _ (decide_eq_false (by omega)))) ?_;go_frame
        have HJ2:=ι (show ∀ x∈rl.take (j+1),(siC N O' R' x).1=N from fun x hx=>by
         rw [List.take_succ_eq_append_getElem HJL.out,show rl[j]'HJL.out=s from hs.out] at hx
         rcases List.mem_append.1 hx with hx | hx
         ·exact HJ.out x hx
         ·rw [List.mem_singleton] at hx; subst hx; rw [hlv.out]; omega)
        have hrb:rl.length≤64:=HRLN.out
        gi_wp2
        go_roundw
        case rel=>exact ⟨j+1,by go_num,HJL.out,BI,KQ,HJ2⟩
        case measure=>simp [intOf]; have:=HJL.out; omega
      ·obtain rfl:j=rl.length:=by omega
       have hjN:¬ (rl.length:Int)<(rl.length:Int):=by omega
       have HB2:=ι (show BeR N R O' R' (pre++[(⟨X,HXR.out⟩:Fin RR.length)]) from fun z hz x hx=>by
        rcases List.mem_append.1 hz with hz | hz
        ·exact HBR.out z hz x hx
        ·rw [List.mem_singleton] at hz
         subst hz;rw [show R.getD X []=rl from hrl.out] at hx
         exact HJ.out x (by rw [List.take_length]; exact hx))
       gi_wp2
       exact ⟨KQ.out.keeps,KQ.out.bel,BI.out,HB2.out⟩
    case stop =>
     rintro D c k W hD hk ⟨rfl,h1,h2⟩ hd;go_wp2;refine be_leave (ds:=[D]) h1 ?_ HB0.out rfl rfl (by simp) (fun D' hD'=>by simp at hD'; subst hD'; exact ⟨hd,by have:=HS0.out; omega⟩);have e:=HB0.out;rw [HOO.out,HRR.out,HOO'.out,HRR'.out] at e ⊢;rw [belA_val e];exact h2
    case done =>
     rintro D Wd hD ⟨hbi,hbr⟩ hd;have HAL:=ι (hbr.all HLR2.out);have HD:=ι (show w.heap.size≤D by have:=HS0.out; omega);clear FB HRV BI K hbr;have BI:=ι hbi;have DF:=ι hd;clear hbi hd;go_upto_region 18 with (fail);refine Rg.wl ?_;refine Rg.list_skip none rfl rfl (Rg.exec_store _ _ _ rfl _ rfl _ rfl (run_storeBool _ BI.out.c4.c BI.out.c4.f)) ?_;go_frame;refine Rg.list_skip none rfl rfl (Rg.exec_store _ _ _ rfl _ rfl _ rfl (run_storeE _ (BI.out.c5.other _ (by omega)).c (BI.out.c5.other _ (by omega)).f)) ?_;go_frame;have hbs:=BI.out.set true 0;have hdd:=(RF.Dfr.setCell DF.out ⟨w.heap.size+2,0,none⟩ (.bool true)).setCell ⟨w.heap.size+3,0,none⟩ (.int .i64 0);generalize (Wd.setCell ⟨w.heap.size+2,0,none⟩ (.bool true)).setCell ⟨w.heap.size+3,0,none⟩ (.int .i64 0)=w99 at *;have BX:=ι hbs;have DX:=ι hdd
     have HV:=ι (show belA ((N:Nat):Int) OO RR ((N:Nat):Int) OO' RR'=true by
      have e:=HB0.out;rw [HOO.out,HRR.out,HOO'.out,HRR'.out] at e ⊢;rw [belA_val e]
      exact HAL.out)
     clear hbs hdd;go_wp2;exact be_leave (ds:=[D]) BX.out HV.out HB0.out rfl rfl (by simp) (fun D' hD'=>by simp at hD'; subst hD'; exact ⟨DX.out,HD.out⟩)
end Go.Proofs.YthehbckogieimaaGreat

namespace Go.Proofs.Rg
open Go Go.RowKit
variable {P:Program} {md:Region.Mode} {ops:Array Oper} {Q:Exit→Act→World→Prop} {S:Array Bool→World→Prop}
theorem Any.c3f1q {e i k j q de di dk dj dq:Nat} {vq:Value} {I R0:World→Prop} {Re Rk Rj:Value→World→Prop} {Ri:Value→Value→World→Prop} {n:Nat} {l:Array Bool} {a:Act} {w:World} (hS:∀ l W,I W→S l W)
  (ej:e≠j) (ij:i≠j) (kj:k≠j) (qj:q≠j) (dej:de≠dj) (dij:di≠dj) (dkj:dk≠dj) (dqj:dq≠dj)
  (r0:Region.ready md ops l=[e,j]) (re:Region.ready md ops (l.setIfInBounds e true)=[i,j]) (ri:Region.ready md ops ((l.setIfInBounds e true).setIfInBounds i true)=[k,j])
  (rk:Region.ready md ops ((((l.setIfInBounds e true).setIfInBounds i true).setIfInBounds k true).setIfInBounds q true)=[j])
  (rj:Region.ready md ops (l.setIfInBounds j true)=[e]) (rje:Region.ready md ops ((l.setIfInBounds e true).setIfInBounds j true)=[i]) (rji:Region.ready md ops (((l.setIfInBounds e true).setIfInBounds i true).setIfInBounds j true)=[k])
  (hq1:∀ u x y W m,S (((l.setIfInBounds e true).setIfInBounds i true).setIfInBounds k true) W→Any P md ops Q S m ((((l.setIfInBounds e true).setIfInBounds i true).setIfInBounds k true).setIfInBounds q true) ((((a.put (some de) u).put (some di) x).put (some dk) y).put (some dq) vq) W→Any P md ops Q S (m+1) (((l.setIfInBounds e true).setIfInBounds i true).setIfInBounds k true) (((a.put (some de) u).put (some di) x).put (some dk) y) W)
  (hq2:∀ u x v y W m,S ((((l.setIfInBounds e true).setIfInBounds i true).setIfInBounds j true).setIfInBounds k true) W→Any P md ops Q S m (((((l.setIfInBounds e true).setIfInBounds i true).setIfInBounds j true).setIfInBounds k true).setIfInBounds q true) (((((a.put (some de) u).put (some di) x).put (some dj) v).put (some dk) y).put (some dq) vq) W→Any P md ops Q S (m+1) ((((l.setIfInBounds e true).setIfInBounds i true).setIfInBounds j true).setIfInBounds k true) ((((a.put (some de) u).put (some di) x).put (some dj) v).put (some dk) y) W)
  (s0:∀ W W',Below W.heap.size W W'→R0 W→R0 W') (se:∀ u W W',Below W.heap.size W W'→Re u W→Re u W') (si:∀ u x W W',Below W.heap.size W W'→Ri u x W→Ri u x W') (sk:∀ u W W',Below W.heap.size W W'→Rk u W→Rk u W') (sj:∀ u W W',Below W.heap.size W W'→Rj u W→Rj u W')
  (he:∀ b,(b=a∨∃ v,b=a.put (some dj) v)→∀ W,I W→Does P ops Q e de I Re (fun W W'=>Below W.heap.size W W') b W)
  (hi:∀ u b,(b=a.put (some de) u∨∃ v,b=(a.put (some de) u).put (some dj) v)→∀ W,I W→Re u W→Does P ops Q i di I (Ri u) (fun W W'=>Below W.heap.size W W') b W)
  (hk:∀ u x b,(b=(a.put (some de) u).put (some di) x∨∃ v,b=((a.put (some de) u).put (some di) x).put (some dj) v)→∀ W,I W→R0 W→Ri u x W→Does P ops Q k dk I Rk (fun W W'=>∀ v,Rj v W→Rj v W') b W)
  (hj:∀ b,(b=a∨(∃ u,b=a.put (some de) u)∨(∃ u x,b=(a.put (some de) u).put (some di) x)∨∃ u x y,b=((((a.put (some de) u).put (some di) x).put (some dk) y).put (some dq) vq))→∀ W,I W→Does P ops Q j dj I Rj (fun W W'=>Below W.heap.size W W') b W)
  (hI:I w) (h0:R0 w) (h:∀ W u x y v,I W→Rk y W→Rj v W→Any P md ops Q S n (((((l.setIfInBounds e true).setIfInBounds i true).setIfInBounds k true).setIfInBounds q true).setIfInBounds j true) (((((a.put (some de) u).put (some di) x).put (some dk) y).put (some dq) vq).put (some dj) v) W) :
  Any P md ops Q S (n+5) l a w:=by
 have ha:∀ u x y v:Value,((((a.put (some de) u).put (some di) x).put (some dj) v).put (some dk) y).put (some dq) vq=(((((a.put (some de) u).put (some di) x).put (some dk) y).put (some dq) vq).put (some dj) v):=fun u x y v=>by
  rw [put_comm ((a.put (some de) u).put (some di) x) v y (Ne.symm dkj),put_comm (((a.put (some de) u).put (some di) x).put (some dk) y) v vq (Ne.symm dqj)]
 have hl:((((l.setIfInBounds e true).setIfInBounds i true).setIfInBounds j true).setIfInBounds k true).setIfInBounds q true=((((l.setIfInBounds e true).setIfInBounds i true).setIfInBounds k true).setIfInBounds q true).setIfInBounds j true:=by
  rw [Array.setIfInBounds_comm true true (xs:=(l.setIfInBounds e true).setIfInBounds i true) (Ne.symm kj),Array.setIfInBounds_comm true true (xs:=((l.setIfInBounds e true).setIfInBounds i true).setIfInBounds k true) (Ne.symm qj)]
 refine Any.two r0 ?_ ?_
 ·
  refine wpOp_mono ?_ (he a (.inl rfl) w hI);rintro c W ⟨u,rfl,h1,h2,h3⟩;refine ⟨hS _ _ h1,Any.two re ?_ ?_⟩
  ·refine wpOp_mono ?_ (hi u _ (.inl rfl) W h1 h2)
   rintro c W' ⟨x,rfl,g1,g2,g3⟩;refine ⟨hS _ _ g1,Any.two ri ?_ ?_⟩
   ·refine wpOp_mono ?_ (hk u x _ (.inl rfl) W' g1 (s0 _ _ g3 (s0 _ _ h3 h0)) g2)
    rintro c W2 ⟨y,rfl,e1,e2,e3⟩;refine ⟨hS _ _ e1,hq1 u x y W2 (n+1) (hS _ _ e1) (Any.one rk ?_)⟩;refine wpOp_mono ?_ (hj _ (.inr (.inr (.inr ⟨u,x,y,rfl⟩))) W2 e1);rintro c W3 ⟨v,rfl,f1,f2,f3⟩;exact ⟨hS _ _ f1,h _ _ _ _ _ f1 (sk _ _ _ f3 e2) f2⟩
   ·refine wpOp_mono ?_ (hj _ (.inr (.inr (.inl ⟨u,x,rfl⟩))) W' g1)
    rintro c W2 ⟨v,rfl,e1,e2,e3⟩;refine ⟨hS _ _ e1,Any.one rji ?_⟩;refine wpOp_mono ?_ (hk u x _ (.inr ⟨v,rfl⟩) W2 e1 (s0 _ _ e3 (s0 _ _ g3 (s0 _ _ h3 h0))) (si _ _ _ _ e3 g2));rintro c W3 ⟨y,rfl,f1,f2,f3⟩;refine ⟨hS _ _ f1,hq2 u x v y W3 n (hS _ _ f1) ?_⟩;rw [ha,hl];exact h W3 u x y v f1 f2 (f3 _ e2)
  ·refine wpOp_mono ?_ (hj _ (.inr (.inl ⟨u,rfl⟩)) W h1)
   rintro c W' ⟨v,rfl,g1,g2,g3⟩;refine ⟨hS _ _ g1,Any.one rje ?_⟩;refine wpOp_mono ?_ (hi u _ (.inr ⟨v,rfl⟩) W' g1 (se _ _ _ g3 h2));rintro c W2 ⟨x,rfl,e1,e2,e3⟩;refine ⟨hS _ _ e1,Any.one (by rw [Array.setIfInBounds_comm _ _ (Ne.symm ij)]; exact rji) ?_⟩;rw [put_comm _ v x (Ne.symm dij),Array.setIfInBounds_comm _ _ (Ne.symm ij)];refine wpOp_mono ?_ (hk u x _ (.inr ⟨v,rfl⟩) W2 e1 (s0 _ _ e3 (s0 _ _ g3 (s0 _ _ h3 h0))) e2);rintro c W3 ⟨y,rfl,f1,f2,f3⟩;refine ⟨hS _ _ f1,hq2 u x v y W3 n (hS _ _ f1) ?_⟩;rw [ha,hl];exact h W3 u x y v f1 f2 (f3 _ (sj _ _ _ e3 g2))
 ·refine wpOp_mono ?_ (hj a (.inl rfl) w hI)
  rintro c W ⟨v,rfl,h1,h2,h3⟩;refine ⟨hS _ _ h1,Any.one rj ?_⟩;refine wpOp_mono ?_ (he _ (.inr ⟨v,rfl⟩) W h1);rintro c W' ⟨u,rfl,g1,g2,g3⟩;refine ⟨hS _ _ g1,Any.one (by rw [Array.setIfInBounds_comm _ _ (Ne.symm ej)]; exact rje) ?_⟩;rw [put_comm a v u (Ne.symm dej),Array.setIfInBounds_comm _ _ (Ne.symm ej)];refine wpOp_mono ?_ (hi u _ (.inr ⟨v,rfl⟩) W' g1 g2);rintro c W2 ⟨x,rfl,e1,e2,e3⟩;refine ⟨hS _ _ e1,Any.one (by rw [Array.setIfInBounds_comm _ _ (Ne.symm ij)]; exact rji) ?_⟩;rw [put_comm _ v x (Ne.symm dij),Array.setIfInBounds_comm _ _ (Ne.symm ij)];refine wpOp_mono ?_ (hk u x _ (.inr ⟨v,rfl⟩) W2 e1 (s0 _ _ e3 (s0 _ _ g3 (s0 _ _ h3 h0))) e2);rintro c W3 ⟨y,rfl,f1,f2,f3⟩;refine ⟨hS _ _ f1,hq2 u x v y W3 n (hS _ _ f1) ?_⟩;rw [ha,hl];exact h W3 u x y v f1 f2 (f3 _ (sj _ _ _ e3 (sj _ _ _ g3 h2)))
theorem doesCall {i d:Nat} {I:World→Prop} {R:Value→World→Prop} {K:World→World→Prop} {oi:Oper} {b:Act} {W:World} (hi:ops[i]?=some oi) (hd:oi.dst=some d) (hw:Region.wanted oi (yielded ops b.tmps)=true) (f:FuncId) (args:Array Value)
  (hr:(execOp b.eval oi).run P W=.ok (.enter f args) W) (hc:Calls P f args W fun e W'=>∃ v,e=.returned v∧I W'∧R v W'∧K W W'):Does P ops Q i d I R K b W:=by
 unfold Does wpOp;simp only [hi,hw,if_true]
 left
 unfold Oper.wp;rw [hr,Oper.upon_enter];refine hc.mono fun e w' ⟨v,h1,h2⟩=>?_;rw [h1];refine ⟨v,?_,h2⟩;rw [hd]
end Go.Proofs.Rg

set_option linter.unusedVariables false
namespace Go.Proofs.YthehbckogieimaaGreat
open Go.RowKit
open Go.Proofs
open Go.Proofs.Ob
open Go.Shelf
attribute [local irreducible] Go.Calls Go.wpList
theorem exec_nilFi {o:Oper} {a:Act} {w:World} {ad:Addr} {n c:Nat} (x y:Operand) (ho:o.op=.binOp .eql 36 x y 36) (hx:a.eval x=.slice (some ad) n c) (hy:a.eval y=.slice none 0 0):(execOp a.eval o).run Tryz.prog w=.ok (.value (.bool false)) w:=by
 have h1:(binOp .eql 36 (.slice (some ad) n c) (.slice none 0 0)).run Tryz.prog w=.ok (.bool false) w:=by kernel_rfl
 have hg:(eqGuard .eql 36 x y (.slice (some ad) n c) (.slice none 0 0)).run Tryz.prog w=.ok () w:=by
  simp [eqGuard]
 unfold execOp;simp only [ho,hx,hy,Sem.run_bind,Sem.run_pure,hg,h1,Result.andThen_ok]
theorem CloneI_any (v:Value) (l:List Int) (w:World) (h:Rg.Ints w v l) (h1:1≤l.length) (hl:l.length≤1000000) :
  Calls Tryz.prog 124 #[v] w fun e w'=>∃ v',e=.returned v'∧w'.ownsRow w.heap.size 3 1 v' l.length (l.map (Value.int .i64))∧Below w.heap.size w w':=by
 obtain ⟨la,lc,rfl,_,_,_,hs⟩:=h.shape;obtain ⟨b,o,rfl,_⟩:=hs (by omega);have HI:=ι h;have K:=ι (Below.refl w.heap.size w);clear h hs
 go_enter Tryz.func124,Tryz.ntmps124
 go_upto_region 1 with (fail);refine Rg.wl ?_;refine Rg.lm 3 (.slice (some ⟨b,o,none⟩) l.length lc) ?_;go_frame;refine Rg.lr 4 (exec_nilFi _ _ rfl rfl rfl) ?_;go_frame;go_upto_region 3 with (fail);refine Rg.wl ?_;have hnew:=Own0.new (B:=w.heap.size) w (Nat.le_refl _);refine Rg.lr 5 (Rg.exec_build0 slInts rfl w) ?_;go_frame;have hb:=(Below.refl w.heap.size w).alloc (Nat.le_refl _) (.cells #[] 3);generalize w.alloc (.cells #[] 3)=w1 at *;replace HI:=ι (HI.out.below hb);replace K:=ι (Rg.acc K.out hb);clear hb;have FO:=ι hnew;refine Rg.lm 6 (.slice (some ⟨b,o,none⟩) l.length lc) ?_;go_frame;obtain ⟨v5,X5,r1,r2,r3⟩:=Rg.appL_run (P:=Tryz.prog) slInts 36 FO.out.1 K.out.size HI.out ints_cells (by rw [List.length_map]; omega);refine Rg.lr 7 (Rg.exec_append _ _ _ rfl rfl rfl r1) ?_;go_frame;refine Rg.la 2 (v5) ?_;go_frame;rw [List.length_map,Nat.zero_add,List.nil_append] at r2
 have R2:=ι r2;have K5:=ι (K.out.grown r3 K.out.size (fun j hj=>(FO.out.1.lt j hj).1));clear r1 r2 r3 FO;go_wp2;go_ret;exact ⟨_,rfl,R2.out,K5.out⟩
def MK (tc:Nat) (ov rv:Value) (z:Nat):Prop:=z=tc∨ov.ownBlock=some z∨rv.ownBlock=some z
theorem row_isCells {W:World} {B:Nat} {e:TypeId} {size:Nat} {v:Value} {n:Nat} {xs:List Value} (h:W.ownsRow B e size v n xs):∀ k,v.ownBlock=some k→∃ o:Obj,W.heap[k]?=some o∧o.isCells=true:=fun k e1=>by
 obtain ⟨_,h3⟩:=h
 rcases h3 with ⟨h4,_⟩ | ⟨g,cap,cur,h4,_,h5,_⟩
 ·rw [h4] at e1; simp [Value.ownBlock] at e1
 ·rw [h4] at e1
  simp [Value.ownBlock] at e1;subst e1;exact ⟨_,h5,rfl⟩
theorem cell_isCells {W:World} {a:Addr} {v:Value} (h:W.cell? a=some v):∃ o:Obj,W.heap[a.block]?=some o∧o.isCells=true:=by
 unfold World.cell? at h
 cases e:W.heap[a.block]? with
 | none=>rw [e] at h; cases h
 | some o =>
  rw [e] at h;refine ⟨o,rfl,?_⟩
  cases o <;> simp at h <;> rfl
theorem ChR.isCells {B:Nat} {W:World} {tc:Nat} {c0 c1 c2 ov rv:Value} {O:List (List Int)} {R:List (List (List Int))} (h:ChR B W tc c0 c1 c2 ov rv O R):∀ z,MK tc ov rv z→∃ o:Obj,W.heap[z]?=some o∧o.isCells=true:=by
 obtain ⟨us,vs,h1,h2,_⟩:=h.own
 rintro z (e | e | e)
 ·subst e; exact cell_isCells h.tri.c0
 ·exact row_isCells h1 z e
 ·exact row_isCells h2 z e
theorem keepsK {B:Nat} {M:Nat→Prop} {W W':World} (h:Rg.Kp M W W') (hM:∀ z,M z→∃ o:Obj,W.heap[z]?=some o∧o.isCells=true):KeepsFrom B W W' :=
 ⟨h.size,fun k o _ hk ho=>(h.block k (Array.getElem?_eq_some_iff.1 hk).1 (fun e=>by obtain ⟨o',h1,h2⟩:=hM k e; rw [hk] at h1; cases h1; rw [ho] at h2; cases h2)).trans hk⟩
theorem felts_nc {F:Nat→Prop} {W W':World} {row:Option Nat} (hg:W.grownBy W' row) (hr:∀ r,row=some r→∃ o:Obj,W.heap[r]?=some o∧o.isCells=false) {us:List Value} {ll:List (List Int)} (h:Rg.FElts F W us ll):Rg.FElts F W' us ll :=
 ⟨h.1,fun i a b=>fvals_nc hg hr (h.2 i a b)⟩
theorem frows_nc {F:Nat→Prop} {W W':World} {row:Option Nat} (hg:W.grownBy W' row) (hr:∀ r,row=some r→∃ o:Obj,W.heap[r]?=some o∧o.isCells=false) {v:Value} {ll:List (List Int)} (h:Rg.FRows F W v ll):Rg.FRows F W' v ll:=by
 obtain ⟨us,h1,h2⟩:=h;exact ⟨us,fvals_nc hg hr h1,felts_nc hg hr h2⟩
theorem row_nc {W W':World} {row:Option Nat} (hg:W.grownBy W' row) (hr:∀ r,row=some r→∃ o:Obj,W.heap[r]?=some o∧o.isCells=false) {B:Nat} {e:TypeId} {size:Nat} {v:Value} {n:Nat} {xs:List Value} (h:W.ownsRow B e size v n xs):W'.ownsRow B e size v n xs :=
 rowKp h (Rg.Kp.of_grown hg (M:=fun k=>row=some k) fun _ e=>e) (fun k e1 e2=>by
  obtain ⟨o,h1,h2⟩:=row_isCells h k e2;obtain ⟨o',h3,h4⟩:=hr k e1
  rw [h1] at h3; cases h3; rw [h2] at h4; cases h4)
theorem ChR.nc {B:Nat} {W W':World} {tc:Nat} {c0 c1 c2 ov rv:Value} {O:List (List Int)} {R:List (List (List Int))} (h:ChR B W tc c0 c1 c2 ov rv O R) {row:Option Nat} (hg:W.grownBy W' row) (hr:∀ r,row=some r→∃ o:Obj,W.heap[r]?=some o∧o.isCells=false):ChR B W' tc c0 c1 c2 ov rv O R:=by
 obtain ⟨us,vs,h1,h2,h3,h4⟩:=h.own;have hk:Rg.Kp (fun k=>row=some k) W W':=Rg.Kp.of_grown hg fun _ e=>e;refine ⟨h.tri.kp hk (fun e=>?_),h.low,⟨us,vs,row_nc hg hr h1,row_nc hg hr h2,(felts_nc hg hr h3).mono fun _ g=>g.up hg.size,FElts2.mono ⟨h4.1,fun i a b=>frows_nc hg hr (h4.2 i a b)⟩ fun _ g=>g.up hg.size⟩,h.apart,h.ot,h.rt⟩;obtain ⟨o,q1,q2⟩:=h.isCells tc (.inl rfl);obtain ⟨o',q3,q4⟩:=hr tc e;rw [q1] at q3; cases q3; rw [q2] at q4; cases q4
def StI (tc:Nat) (nv OV RV:Value) (M:Nat→Prop) (wB Wr W:World):Prop:=Tri W tc nv OV RV∧Below tc wB W∧Rg.Kp M Wr W
theorem StI.below {tc:Nat} {nv OV RV:Value} {M:Nat→Prop} {wB Wr W W':World} (h:StI tc nv OV RV M wB Wr W) (hz:tc≤W.heap.size) (hb:Below W.heap.size W W'):StI tc nv OV RV M wB Wr W' :=
 ⟨h.1.below hb,h.2.1.trans (hb.mono hz),Rg.Kp.trans (M:=M) h.2.2 (Rg.Kp.of_below (M:=M) hb) (fun _ _ e=>e)⟩
theorem StI.st {tc:Nat} {nv OV RV:Value} {M:Nat→Prop} {wB Wr W W':World} (h:StI tc nv OV RV M wB Wr W) (hb:Below W.heap.size W W'):StI tc nv OV RV M wB Wr W':=h.below (Nat.le_of_lt h.1.lt) hb
theorem ChR.putO {B:Nat} {W:World} {tc:Nat} {c0 c1 c2 ov rv:Value} {O:List (List Int)} {R:List (List (List Int))} (h:ChR B W tc c0 c1 c2 ov rv O R) (hB:B≤W.heap.size) (hO:O.length<1000000) (i:Int) (ty:TypeId) :
  ∃ W1 W2 a c X,W.alloc (.cells #[.int .i64 i] 3)=W1∧W1.alloc (.cells #[.slice (some ⟨W.heap.size,0,none⟩) 1 1] 36)=W2∧Below W.heap.size W W1∧Below W1.heap.size W1 W2 ∧
   (Builtin.append_ #[27,27] ty #[ov,.slice (some ⟨W1.heap.size,0,none⟩) 1 1]).run Tryz.prog W2=.ok (.slice a (O.length+1) c) X∧ChR B X tc c0 c1 c2 (.slice a (O.length+1) c) rv (O++[[i]]) R∧W2.grownBy X ov.ownBlock:=by
 have hb1:Below W.heap.size W (W.alloc (.cells #[.int .i64 i] 3)):=(Below.refl _ _).alloc (Nat.le_refl _) _
 have hc1:(W.alloc (.cells #[.int .i64 i] 3)).cell? ⟨W.heap.size,0,none⟩=some (.int .i64 i):=by rw [Rg.cellNew]; rfl
 have hs1:(W.alloc (.cells #[.int .i64 i] 3)).heap.size=W.heap.size+1:=by simp
 generalize hW1:W.alloc (.cells #[.int .i64 i] 3)=W1 at *;have hb2:Below W1.heap.size W1 (W1.alloc (.cells #[.slice (some ⟨W.heap.size,0,none⟩) 1 1] 36)):=(Below.refl _ _).alloc (Nat.le_refl _) _
 have hc2:(W1.alloc (.cells #[.slice (some ⟨W.heap.size,0,none⟩) 1 1] 36)).cell? ⟨W1.heap.size,0,none⟩=some (.slice (some ⟨W.heap.size,0,none⟩) 1 1):=by rw [Rg.cellNew]; rfl
 have hs2:(W1.alloc (.cells #[.slice (some ⟨W.heap.size,0,none⟩) 1 1] 36)).heap.size=W1.heap.size+1:=by simp
 generalize hW2:W1.alloc (.cells #[.slice (some ⟨W.heap.size,0,none⟩) 1 1] 36)=W2 at *;have h2:=(h.below hb1).below hb2;have hc3:=(hb2.cell (p:=⟨W.heap.size,0,none⟩) (by show W.heap.size<W1.heap.size; omega)).trans hc1
 obtain ⟨a,c,X,r1,r2,r3,r4⟩:=h2.pushO (by omega) (x:=.slice (some ⟨W.heap.size,0,none⟩) 1 1) (l:=[i])
  ⟨_,_,rfl,Nat.le_refl _,by unfold maxLen; omega,by simp,fun _=>⟨W.heap.size,0,rfl,by omega,⟨hB,by omega,fun e=>by have:=(h.lts.1 _ e).2; omega,fun e=>by have:=(h.lts.2 _ e).2; omega,fun e=>by have:=h.tri.lt; omega⟩,fun j hj=>by simp at hj; subst hj; exact hc3⟩⟩ rfl hO hc2 ty
 exact ⟨W1,W2,a,c,X,rfl,hW2,hb1,hb2,r1,r2,r3⟩
theorem ChR.putR {B:Nat} {W:World} {tc:Nat} {c0 c1 c2 ov rv:Value} {O:List (List Int)} {R:List (List (List Int))} (h:ChR B W tc c0 c1 c2 ov rv O R) (hB:B≤W.heap.size) (hR:R.length<1000000) {V:World} (hV:Below V.heap.size V W) (hVs:(∀ k,ov.ownBlock=some k→k<V.heap.size)∧(∀ k,rv.ownBlock=some k→k<V.heap.size)∧tc<V.heap.size) (hVB:B≤V.heap.size) {v:Value} {p:List Nat} (hp:Rg.NPF V W v p) (hs:∃ a n c,v=.slice a n c) (ty:TypeId) :
  ∃ W1 W2 a c X,W.alloc (.cells #[v] 51)=W1∧W1.alloc (.cells #[.slice (some ⟨W.heap.size,0,none⟩) 1 1] 22)=W2∧Below W.heap.size W W1∧Below W1.heap.size W1 W2 ∧
   (Builtin.append_ #[52,52] ty #[rv,.slice (some ⟨W1.heap.size,0,none⟩) 1 1]).run Tryz.prog W2=.ok (.slice a (R.length+1) c) X∧ChR B X tc c0 c1 c2 ov (.slice a (R.length+1) c) O (R++[[Ma.ofN p]])∧W2.grownBy X rv.ownBlock:=by
 have hb1:Below W.heap.size W (W.alloc (.cells #[v] 51)):=(Below.refl _ _).alloc (Nat.le_refl _) _
 have hc1:(W.alloc (.cells #[v] 51)).cell? ⟨W.heap.size,0,none⟩=some v:=by rw [Rg.cellNew]; rfl
 have hs1:(W.alloc (.cells #[v] 51)).heap.size=W.heap.size+1:=by simp
 generalize hW1:W.alloc (.cells #[v] 51)=W1 at *;have hb2:Below W1.heap.size W1 (W1.alloc (.cells #[.slice (some ⟨W.heap.size,0,none⟩) 1 1] 22)):=(Below.refl _ _).alloc (Nat.le_refl _) _
 have hc2:(W1.alloc (.cells #[.slice (some ⟨W.heap.size,0,none⟩) 1 1] 22)).cell? ⟨W1.heap.size,0,none⟩=some (.slice (some ⟨W.heap.size,0,none⟩) 1 1):=by rw [Rg.cellNew]; rfl
 have hs2:(W1.alloc (.cells #[.slice (some ⟨W.heap.size,0,none⟩) 1 1] 22)).heap.size=W1.heap.size+1:=by simp
 generalize hW2:W1.alloc (.cells #[.slice (some ⟨W.heap.size,0,none⟩) 1 1] 22)=W2 at *;have h2:=(h.below hb1).below hb2;have hc3:=(hb2.cell (p:=⟨W.heap.size,0,none⟩) (by show W.heap.size<W1.heap.size; omega)).trans hc1
 have hG:∀ k,Fup (fun _=>False) V W k→GS2 B W2 tc ov rv k:=fun k hk=>by
  rcases hk with hk | hk
  ·exact hk.elim
  ·exact ⟨by omega,by omega,fun e=>by have:=hVs.1 _ e; omega,fun e=>by have:=hVs.2.1 _ e; omega,fun e=>by have:=hVs.2.2; omega⟩
 have hv:Rg.FI (GS2 B W2 tc ov rv) W2 v (Ma.ofN p):=by
  have h0:FP (Fup (fun _=>False) V W) W v p:=FP.new hp;exact Rg.FI.mono (Rg.FI.kp (Rg.FI.kp (M:=fun _=>False) h0 (Rg.Kp.of_below hb1) (fun _ _=>id)) (M:=fun _=>False) (Rg.Kp.of_below hb2) (fun _ _=>id)) hG
 obtain ⟨a,c,X,r1,r2,r3⟩:=h2.pushR (by omega) (x:=.slice (some ⟨W.heap.size,0,none⟩) 1 1) (l:=[Ma.ofN p])
  ⟨[v],⟨_,_,rfl,Nat.le_refl _,by unfold maxLen; simp,by simp,fun _=>⟨W.heap.size,0,rfl,by omega,⟨hB,by omega,fun e=>by have:=(h.lts.1 _ e).2; omega,fun e=>by have:=(h.lts.2 _ e).2; omega,fun e=>by have:=h.tri.lt; omega⟩,fun j hj=>by simp at hj; subst hj; exact hc3⟩⟩,Rg.FElts.one hv⟩ rfl hR hc2 ty
 exact ⟨W1,W2,a,c,X,rfl,hW2,hb1,hb2,r1,r2,r3⟩
def StAns (n:Int) (OO:List (List Int)) (RR:List (List (List Int))) (k:Int) (W:World) (cv:Value):Prop:=(stC n OO RR k≠0∧cv=zeroC)∨(stC n OO RR k=0∧∃ ov rv,cv=.agg #[.int .i64 n,ov,rv]∧ChEqR W ov rv (stO k OO) (stR' n k RR))
def StPost (n:Int) (OO:List (List Int)) (RR:List (List (List Int))) (k:Int) (w:World) (e:Ending) (w':World):Prop:=∃ cv,e=.returned (.tuple #[cv,.int .i64 (stC n OO RR k)])∧StAns n OO RR k w' cv∧Below w.heap.size w w'
theorem vals_cells {W W':World} (hc:∀ a,W'.cell? a=W.cell? a) (hs:W.heap.size≤W'.heap.size) {v:Value} {us:List Value} (h:Rg.Vals W v us):Rg.Vals W' v us:=by
 obtain ⟨a,cap,e,h1,h2,h3,h4⟩:=h;refine ⟨a,cap,e,h1,h2,h3,fun h0=>?_⟩;obtain ⟨b,o,e1,e2,e4⟩:=h4 h0;exact ⟨b,o,e1,Nat.lt_of_lt_of_le e2 hs,fun i hi=>(hc _).trans (e4 i hi)⟩
theorem rows_cells {W W':World} (hc:∀ a,W'.cell? a=W.cell? a) (hs:W.heap.size≤W'.heap.size) {v:Value} {ll:List (List Int)} (h:Rg.Rows W v ll):Rg.Rows W' v ll:=by
 obtain ⟨us,h1,h2,h3⟩:=h;exact ⟨us,vals_cells hc hs h1,h2,fun i a b=>vals_cells hc hs (h3 i a b)⟩
theorem cheq_cells {W W':World} (hc:∀ a,W'.cell? a=W.cell? a) (hs:W.heap.size≤W'.heap.size) {ov rv:Value} {OO:List (List Int)} {RR:List (List (List Int))} (h:ChEqR W ov rv OO RR):ChEqR W' ov rv OO RR:=by
 obtain ⟨h0,us,h1,h2,h3⟩:=h;exact ⟨rows_cells hc hs h0,us,vals_cells hc hs h1,h2,fun i a b=>rows_cells hc hs (h3 i a b)⟩
theorem StAns.cells {n:Int} {OO:List (List Int)} {RR:List (List (List Int))} {k:Int} {W W':World} {cv:Value} (hc:∀ a,W'.cell? a=W.cell? a) (hs:W.heap.size≤W'.heap.size) (h:StAns n OO RR k W cv):StAns n OO RR k W' cv:=by
 rcases h with h | ⟨h,ov,rv,e,h2⟩
 ·exact .inl h
 ·exact .inr ⟨h,ov,rv,e,cheq_cells hc hs h2⟩
theorem st_leave {n:Int} {OO:List (List Int)} {RR:List (List (List Int))} {k:Int} {w W:World} {tmps:Array Value} {x y z:Value} {tb:Nat} {ds:List Nat} (hb:Below w.heap.size w W) (ht:Tri W tb x y z) (ha:StAns n OO RR k W (.agg #[x,y,z])) (p4:tmps.getD 4 undef=.pointer (some ⟨tb,0,none⟩)) (p5:tmps.getD 5 undef=.int .i64 (stC n OO RR k)) (hnd:ds.Nodup) (hD:∀ D,D∈ds→RF.Dfr D W∧w.heap.size≤D) :
  LeavesInM Fence.wide 0 Tryz.prog Tryz.f46 tmps (StPost n OO RR k w) (ds.map RF.mark) .returning W :=
 RF.leaves w.heap.size ds W hnd hD fun W' l1 l2 l3=>⟨_,results_cellC2 rfl _ p4 p5 ⟨(l2 _).trans ht.c0,(l2 _).trans ht.c1,(l2 _).trans ht.c2,(l3 _).trans ht.f0,(l3 _).trans ht.f1,(l3 _).trans ht.f2,Nat.lt_of_lt_of_le ht.lt l1.size⟩,_,rfl,ha.cells l2 l1.size,hb.trans l1⟩
theorem kp_low {B:Nat} {M:Nat→Prop} {W W':World} (h:Rg.Kp M W W') (hB:B≤W.heap.size) (hM:∀ z,M z→B≤z):Below B W W' :=
 ⟨h.os,h.tape,h.output,h.size,fun k hk=>h.block k (Nat.lt_of_lt_of_le hk hB) (fun e=>by have:=hM k e; omega)⟩
theorem newI_below {V W W':World} {u:Value} {l:List Int} (h:Rg.FI (fun z=>V.heap.size≤z∧z<W.heap.size) W u l) (hb:Below W.heap.size W W'):Rg.FI (fun z=>V.heap.size≤z∧z<W'.heap.size) W' u l :=
 Rg.FI.mono (Rg.FI.kp (M:=fun _=>False) h (Rg.Kp.of_below hb) (fun _ _=>id)) (fun z g=>⟨g.1,Nat.lt_of_lt_of_le g.2 hb.size⟩)
theorem getD_in2 {α:Type} {l:List (List α)} {i:Nat} (h:i<l.length):l.getD i []=l[i]:=by rw [List.getD_eq_getElem?_getD,List.getElem?_eq_getElem h]; rfl
def fO (k:Int) (OO:List (List Int)) (z:Nat):List Int:=if (z:Int)<k then [(z:Int)] else OO.getD z []
def fR (n k:Int) (RR:List (List (List Int))) (z:Nat):List (List Int):=if (z:Int)<k then [oneI n] else RR.getD z []
theorem fin_map {m:Nat} {α:Type} (f:Nat→α):(finTo m m).map (fun z=>f z.1)=(List.range m).map f:=by
 rw [← finTo_val (Nat.le_refl m),List.map_map];rfl
end Go.Proofs.YthehbckogieimaaGreat
