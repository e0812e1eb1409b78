/- Lemmas and contracts on the way to the statement; no condition of their own beyond those written. -/
import Derived.Test.YtdnmmibchbceeaaGreatXBbtoBm
import Derived.RangeFuncWrites
import Derived.RangeFuncNested
import Derived.RangeFuncBox
import Derived.RangeFuncLeaves
import Derived.Shelf.Abstract
import Derived.OwnWalkIn
import Derived.TacticsInMore
import Derived.LoopNIn
import Derived.LoopIn
import Derived.Maps.AppendAt
import Derived.Sort.CutIn
import Derived.Deep.CutRange
import Derived.Deep.CutBlock
import Derived.IntWalk
import Derived.Great.BuildSlice
import Derived.ArgAppend
import Derived.Laws.CopyOwn
import Derived.StillTailTactics
import Derived.Deep.MidRow
import Derived.WalkSpells
import Derived.WalkLawsBesides
import Derived.OwnWalk
import Derived.OrdersHeld
import Derived.Deep.OwnRows
import Derived.WalkKit
import Derived.Lib.Hide
import Derived.Laws.OwnMore
import Derived.Test.YtdnmmibchbceeaaGreatProg
import Derived.Outline
import Derived.Deep.DeepFit
import Derived.BigQuiet
import Derived.Deep.QuietTactic
import Derived.Sort.OwnSortedInts
import Derived.WideMake
import Derived.MapKept
import Derived.ChangeMaps5
import Derived.Shelf.Sort.Plain
import Derived.Lib.ConvBytes
import Derived.ChangeKeysEq
import Derived.Laws.Cells
import Derived.Laws.Rows
import Derived.Laws.Tables
import Derived.Deep.WholeRow
import Derived.OrdersIn
import Derived.TacticsIn
import Derived.Deep.LoopGhost
import Derived.Lib.SlicesSearch
import Derived.Stop.BytesEq
import Derived.Shelf.SlSortCmp.Whole1
import Derived.Ground.SlsfProg
import Derived.Lib.SmallJoins
import Derived.Deep.Matrix
set_option linter.unusedVariables false
set_option linter.unusedSimpArgs false
set_option maxRecDepth 100000
set_option maxHeartbeats 8000000
namespace Go.Proofs.YtdnmmibchbceeaaGreat
open Go.RowKit
open Go.Proofs
open Go.Proofs.Ob
open Go.Sort
open Go.Proofs.Cm (Gd Gr IsChain ap)
attribute [local irreducible] Go.Calls Go.wpList
theorem Bncl0 (args:Array Value) (w:World):(callFunc 25 args).run Tryz.prog w=.ok (.enter 25 args) w:=by kernel_rfl
theorem Bncl1 (args:Array Value) (w:World):(callFunc 13 args).run Tryz.prog w=.ok (.enter 13 args) w:=by kernel_rfl
theorem Bncl2 (args:Array Value) (w:World):(callFunc 15 args).run Tryz.prog w=.ok (.enter 15 args) w:=by kernel_rfl
theorem Bncl3 (args:Array Value) (w:World):(callFunc 18 args).run Tryz.prog w=.ok (.enter 18 args) w:=by kernel_rfl
theorem Bncl4 (args:Array Value) (w:World):(callFunc 27 args).run Tryz.prog w=.ok (.enter 27 args) w:=by kernel_rfl
theorem Bncl5 (args:Array Value) (w:World):(callFunc 24 args).run Tryz.prog w=.ok (.enter 24 args) w:=by kernel_rfl
theorem sameWords_q (v1 v2:Value) (l1 l2:List (List Int)) (w:World) (h1:Rg.Rows w v1 l1) (h2:Rg.Rows w v2 l2) :
  Calls Tryz.prog 24 #[v1,v2] w fun e w'=>e=.returned (.bool (decide (l1=l2)))∧∃ k,w'=w.drewN k:=by
 obtain ⟨a1,c1,rfl,n1,m1,_,k1⟩:=h1.shape;obtain ⟨a2,c2,rfl,n2,m2,_,k2⟩:=h2.shape;clear h1 h2;have K1:=ι k1;have K2:=ι k2;clear k1 k2;generalize hD:decide (l1=l2)=D;have HD:=ι hD;clear hD
 by_cases hl:l1.length=l2.length
 ·have hb:((l1.length:Int) != (l2.length:Int))=false:=by rw [hl]; simp
  have Hl:=ι hl;clear hl
  go_enter Tryz.func24,Tryz.ntmps24
  go_wp2;clear hb
  go_loopw [5] (fun v wr=>∃ i:Nat,v=.int .i64 i∧i≤l1.length∧Hid (∃ k,wr=w.drewN k)∧Hid (l1.take i=l2.take i)) (fun v _=>l1.length - (intOf v).toNat)
  case atStart=>exact ⟨0,rfl,by omega,⟨0,rfl⟩,by show _=_; simp⟩
  case round =>
   obtain ⟨i,rfl,hi,hw,hs⟩:=hrel
   by_cases hlt:i<l1.length
   ·have hi2:i<l2.length:=by have:=Hl.out; omega
    obtain ⟨b1,o1,rfl,hb1,d1⟩:=K1.out (by omega);obtain ⟨b2,o2,rfl,hb2,d2⟩:=K2.out (by omega);obtain ⟨u1,y1,hu1⟩:=d1 i hlt;obtain ⟨u2,y2,hu2⟩:=d2 i hi2
    have x1:wr.cell? ⟨b1,o1+i,none⟩=some u1:=by obtain ⟨k,e⟩:=hw.out; rw [e]; exact y1
    have x2:wr.cell? ⟨b2,o2+i,none⟩=some u2:=by obtain ⟨k,e⟩:=hw.out; rw [e]; exact y2
    have hlt2:(i:Int)<(l2.length:Int):=by omega
    generalize hx:l1[i]=x at hu1;generalize hy:l2[i]=y at hu2;have Hx:=ι hx;have Hy:=ι hy;clear d1 d2 hx hy y1 y2;have hq:∀ n,_:=fun n=>Same_q u1 u2 x y (wr.drewN n) (by obtain ⟨k,e⟩:=hw.out; rw [e]; exact hu1) (by obtain ⟨k,e⟩:=hw.out; rw [e]; exact hu2)
    by_cases he:x=y
    ·have hdd:decide (x=y)=true:=decide_eq_true he
     have He:=ι he;rw [hdd] at hq;have Hq:=ι hq;clear he hdd hq;go_wp2
     go_quiet ((go_at_call 15; exact Calls.quiet_of (Hq.out _)))
     go_wp2
     go_roundw
     case rel=>exact ⟨i+1,by go_num,by omega,by obtain ⟨k,e⟩:=hw.out; rw [e]; exact ⟨_,World.drewN_drewN _ _ _⟩,by show _=_; rw [List.take_succ_eq_append_getElem hlt,List.take_succ_eq_append_getElem hi2,hs.out,Hx.out,Hy.out,He.out]⟩
     case measure=>simp [intOf]; omega
    ·have hdd:decide (x=y)=false:=decide_eq_false he
     have He:=ι he;rw [hdd] at hq;have Hq:=ι hq;clear he hdd hq;go_wp2
     go_quiet ((go_at_call 15; exact Calls.quiet_of (Hq.out _)))
     go_wp2;go_ret;exact ⟨Rg.ret_bool (by rw [← HD.out]; symm; rw [decide_eq_false_iff_not]; intro hc; subst hc; exact He.out (Hx.out.symm.trans Hy.out)),by obtain ⟨k,e⟩:=hw.out; rw [e]; exact ⟨_,World.drewN_drewN _ _ _⟩⟩
   ·go_wp2
    go_ret;refine ⟨Rg.ret_bool ?_,hw.out⟩;rw [← HD.out]; symm;rw [decide_eq_true_eq];have h1:=hs.out
    rwa [List.take_of_length_le (by omega),List.take_of_length_le (by have:=Hl.out; omega)] at h1
 ·have hb:((l1.length:Int) != (l2.length:Int))=true:=by rw [bne_iff_ne]; omega
  have Hl:=ι hl;clear hl
  go_enter Tryz.func24,Tryz.ntmps24
  go_wp2;go_ret;exact ⟨Rg.ret_bool (by rw [← HD.out]; symm; rw [decide_eq_false_iff_not]; intro hc; subst hc; exact Hl.out rfl),0,rfl⟩
theorem sameWords_b {v1 v2:Value} {l1 l2:List (List Int)} {w:World} {b:Bool} (h1:Rg.Rows w v1 l1) (h2:Rg.Rows w v2 l2) (hd:Hid (decide (l1=l2)=b)) :
  Calls Tryz.prog 24 #[v1,v2] w fun e w'=>e=.returned (.bool b)∧Below w.heap.size w w':=by
 refine (sameWords_q v1 v2 l1 l2 w h1 h2).mono ?_;rintro e w' ⟨rfl,k,rfl⟩;exact ⟨by rw [hd.out],Rg.drewN (Below.refl _ _) k⟩
theorem three10_any (w:World):Calls Tryz.prog 25 #[] w (GPost 3 [[1,0,2],[0,2,1]] w):=by
 go_enter Tryz.func25,Tryz.ntmps25
 go_upto_region 1 with (fail);generalize hW:w.alloc (.cells #[.int .i64 0,.slice none 0 0] 24)=W0
 have hsz:W0.heap.size=w.heap.size+1:=by rw [← hW]; simp
 have hbW:Below w.heap.size w W0:=by rw [← hW]; exact (Below.refl _ _).alloc (Nat.le_refl _) _
 have hc1:W0.cell? ⟨w.heap.size,0,none⟩=some (.int .i64 0):=by rw [← hW,Rg.cellNew]; rfl
 have hc2:W0.cell? ⟨w.heap.size,1,none⟩=some (.slice none 0 0):=by rw [← hW,Rg.cellNew]; rfl
 have hf1:∀ o,W0.frozen? ⟨w.heap.size,o,none⟩=false:=fun o=>by rw [← hW]; exact frozenNewN _ _ _ 0 _
 clear hW;refine Rg.wl ?_;have i1:=ints_new W0 3 [1,0,2] (by decide);have b1:Below W0.heap.size W0 _:=(Below.refl W0.heap.size W0).alloc (Nat.le_refl _) (.cells (([1,0,2]:List Int).map (Value.int .i64)).toArray 3);refine Rg.lr 1 (exec_flat _ _ 3 _ rfl [1,0,2] Tryz.underlying30 szInt zInt rfl (by decide) (by decide) rfl) ?_;go_frame;generalize W0.alloc (.cells (([1,0,2]:List Int).map (Value.int .i64)).toArray 3)=W1 at *;have i2:=ints_new W1 3 [0,2,1] (by decide);have b2:Below W1.heap.size W1 _:=(Below.refl W1.heap.size W1).alloc (Nat.le_refl _) (.cells (([0,2,1]:List Int).map (Value.int .i64)).toArray 3);refine Rg.lr 2 (exec_flat _ _ 3 _ rfl [0,2,1] Tryz.underlying30 szInt zInt rfl (by decide) (by decide) rfl) ?_;go_frame;generalize W1.alloc (.cells (([0,2,1]:List Int).map (Value.int .i64)).toArray 3)=W2 at *
 have g3:=rowsF_new (B:=w.heap.size+1) (w:=W2) 30 [.slice (some ⟨W0.heap.size,0,none⟩) 3 3,.slice (some ⟨W1.heap.size,0,none⟩) 3 3] [[1,0,2],[0,2,1]] rfl (by simp) (by
  have s1:=b1.size;have s2:=b2.size;intro i h h2
  match i,h,h2 with
  | 0,_,_=>exact ⟨(i1.below b2),(Rg.Fresh.mk _ _ _ _).mono (by omega)⟩
  | 1,_,_=>exact ⟨i2,(Rg.Fresh.mk _ _ _ _).mono (by omega)⟩) (by have s1:=b1.size; have s2:=b2.size; omega)
 have bz:Below W2.heap.size W2 _:=(Below.refl W2.heap.size W2).alloc (Nat.le_refl _) (.cells #[.slice (some ⟨W0.heap.size,0,none⟩) 3 3,.slice (some ⟨W1.heap.size,0,none⟩) 3 3] 30);refine Rg.lr 3 (exec_buildP (u1:=.slice (some ⟨W0.heap.size,0,none⟩) 3 3) (u2:=.slice (some ⟨W1.heap.size,0,none⟩) 3 3) _ _ rfl rfl rfl (run_buildP2 _ _ _ ⟨_,_,_,rfl⟩ ⟨_,_,_,rfl⟩)) ?_;go_frame;have hb3:=(Rg.acc b1 (Rg.acc b2 bz));clear bz b1 i1 b2 i2;have g4:RowsF (w.heap.size+1) (W2.alloc (.cells #[.slice (some ⟨W0.heap.size,0,none⟩) 3 3,.slice (some ⟨W1.heap.size,0,none⟩) 3 3] 30)) (.slice (some ⟨W2.heap.size,0,none⟩) 2 2) [[1,0,2],[0,2,1]]:=g3;clear g3;generalize W2.alloc (.cells #[.slice (some ⟨W0.heap.size,0,none⟩) 3 3,.slice (some ⟨W1.heap.size,0,none⟩) 3 3] 30)=Z at *;refine Rg.lr 4 (exec_buildG (d:=3) _ _ rfl rfl rfl) ?_;go_frame;obtain ⟨kc,kf⟩:=Rg.bcell hb3
 have lt1:w.heap.size<W0.heap.size:=by omega
 have r0:=(kc _ 0 lt1).trans hc1;have r1:=(kc _ 1 lt1).trans hc2;have rf:=fun o=>(kf _ o lt1).trans (hf1 o);obtain ⟨p0,p1,p2⟩:=group_set (.int .i64 3) (.slice (some ⟨W2.heap.size,0,none⟩) 2 2) r0 r1 (Rg.acc hbW hb3) (by omega);have hR:=((g4.set w.heap.size 0 (.int .i64 3) (by omega)).set w.heap.size 1 (.slice (some ⟨W2.heap.size,0,none⟩) 2 2) (by omega)).mono (B':=w.heap.size) (by omega);refine Rg.list_skip none rfl rfl (Rg.exec_store _ _ _ rfl _ rfl _ rfl (run_storeG 3 _ 2 2 r0 r1 (rf 0) (rf 1))) ?_;go_frame;generalize (Z.setCell ⟨w.heap.size,0,none⟩ (.int .i64 3)).setCell ⟨w.heap.size,1,none⟩ (.slice (some ⟨W2.heap.size,0,none⟩) 2 2)=W6 at *;have H:=ι (And.intro p0 (And.intro p1 (And.intro p2 hR)));clear hc1 hc2 hf1 kc kf r0 r1 rf p0 p1 p2 hR g4;go_wp2;exact bodyPost_ret (results_cellG rfl _ rfl H.out.1 H.out.2.1) rfl ⟨_,_,_,rfl,H.out.2.2.2,H.out.2.2.1⟩
def G3:List (List Nat):=[[1,0,2],[0,2,1]]
theorem gchk3:Ma.gchk 3 [[1,0,2],[0,2,1]]=0:=by decide
theorem bf3:BfE (mlets G3) 3 (bfs (mlets G3) 3 6):=⟨6,rfl,by decide +kernel⟩
theorem asc_only {S T:List (List Nat)} (h:S.Perm T) (hs:(S.map Ma.ofN).Pairwise (fun a b=>lessL b a=false)) (ht:(T.map Ma.ofN).Pairwise (fun a b=>lessL b a=false)):S=T:=by
 refine map_ofN_inj ?_;refine List.Perm.eq_of_pairwise (le:=fun a b=>lessL b a=false) ?_ hs ht (h.map _);intro a b _ _ h1 h2
 by_cases e:a=b
 ·exact e
 ·have:=lessL_total h2 e
  rw [h1] at this; cases this
theorem wdV_three {l:List (List Int)} {c:Int} (h:WdV 3 [[1,0,2],[0,2,1]] l c):l=[[],[2],[1],[2,1],[1,2],[1,2,1]]∧c=0:=by
 rcases h with ⟨h,_⟩ | ⟨_,N,gs,O,R,e1,e2,hN1,hgl,hgd,hch,⟨h2,_⟩ | ⟨h2,rfl,st,S,hbe,hbi,hp,hpw,rfl⟩⟩
 ·exact absurd gchk3 h
 ·exfalso
  obtain rfl:N=3:=by omega
  have h7:=prodK_720 (Cm.Gr.isG hgd) hch (by decide) (Nat.le_refl 3);rw [szD_len hch] at h7;omega
 ·obtain rfl:N=3:=by omega
  have e3:G3=gs:=map_ofN_inj (show G3.map Ma.ofN=gs.map Ma.ofN from e2);subst e3;have:=hbe.uniq bf3;subst this
  have hS:S=[[0,1,2],[0,2,1],[1,0,2],[1,2,0],[2,0,1],[2,1,0]]:=by
   have h0:([[0,1,2],[0,2,1],[1,0,2],[1,2,0],[2,0,1],[2,1,0]]:List (List Nat)).Perm (bfs (mlets G3) 3 6).1:=by decide +kernel
   exact asc_only (hp.trans h0.symm) hpw (by decide +kernel)
  subst hS;exact ⟨by decide +kernel,rfl⟩
theorem evV_three {u l:List Int} (hu:u.length≤4000) (ho:okW 2 u) (hl:l=Ma.ofN (evN 3 G3 u)):EvV 3 [[1,0,2],[0,2,1]] u l 0 :=
 .inr (.inr (.inr ⟨gchk3,hu,ho,3,G3,rfl,rfl,rfl,hl⟩))
theorem run_build6W (X:World) (u1 u2 u3 u4 u5 u6:Value) (h1:∃ a n c,u1=.slice a n c) (h2:∃ a n c,u2=.slice a n c) (h3:∃ a n c,u3=.slice a n c) (h4:∃ a n c,u4=.slice a n c) (h5:∃ a n c,u5=.slice a n c) (h6:∃ a n c,u6=.slice a n c) :
  (Instr.buildSlice 39 6 #[(0,u1),(1,u2),(2,u3),(3,u4),(4,u5),(5,u6)]).run Tryz.prog X=.ok (.slice (some ⟨X.heap.size,0,none⟩) 6 6) (X.alloc (.cells #[u1,u2,u3,u4,u5,u6] 26)):=by
 obtain ⟨i0,hi,hz0,hz1,hz2⟩:=info_parts infoWordB;obtain ⟨_,_,_,rfl⟩:=h1;obtain ⟨_,_,_,rfl⟩:=h2;obtain ⟨_,_,_,rfl⟩:=h3;obtain ⟨_,_,_,rfl⟩:=h4;obtain ⟨_,_,_,rfl⟩:=h5;obtain ⟨_,_,_,rfl⟩:=h6;refine run_buildSlice X 39 26 6 _ _ i0 _ Tryz.underlying39 hi hz0 (by rw [hz1]; decide) (by rw [hz1]; decide) ?_;generalize (fun x=>((Value.slice none 0 0).cells)[x % (Value.slice none 0 0).cells.size]!)=f;rw [hz1];have h1:Array.range (6*1)=#[0,1,2,3,4,5]:=rfl;simp [Instr.fill,Value.cells,h1]
theorem exec_build6W {o:Oper} {a:Act} {w w':World} {v u1 u2 u3 u4 u5 u6:Value} (x1 x2 x3 x4 x5 x6:Operand) (ho:o.op=.buildSlice 39 6 #[(0,x1),(1,x2),(2,x3),(3,x4),(4,x5),(5,x6)]) (h1:a.eval x1=u1) (h2:a.eval x2=u2) (h3:a.eval x3=u3) (h4:a.eval x4=u4) (h5:a.eval x5=u5) (h6:a.eval x6=u6)
  (hr:(Instr.buildSlice 39 6 #[(0,u1),(1,u2),(2,u3),(3,u4),(4,u5),(5,u6)]).run Tryz.prog w=.ok v w'):(execOp a.eval o).run Tryz.prog w=.ok (.value v) w':=by
 subst h1 h2 h3 h4 h5 h6;unfold execOp;simp only [ho,Sem.run_bind,Sem.run_pure];simp only [List.map_toArray,List.map_cons,List.map_nil];rw [hr];rfl
theorem rows6W {W:World} {u1 u2 u3 u4 u5 u6:Value} {l1 l2 l3 l4 l5 l6:List Int} (h1:NpI W u1 l1) (h2:NpI W u2 l2) (h3:NpI W u3 l3) (h4:NpI W u4 l4) (h5:NpI W u5 l5) (h6:NpI W u6 l6) :
  Rg.Rows (W.alloc (.cells #[u1,u2,u3,u4,u5,u6] 26)) (.slice (some ⟨W.heap.size,0,none⟩) 6 6) [l1,l2,l3,l4,l5,l6]:=by
 have hb:Below W.heap.size W (W.alloc (.cells #[u1,u2,u3,u4,u5,u6] 26)):=(Below.refl _ _).alloc (Nat.le_refl _) _;refine ⟨[u1,u2,u3,u4,u5,u6],Rg.BlkF.vals (Rg.BlkF.new W [u1,u2,u3,u4,u5,u6] 26 (Nat.le_refl _)) (by simp),rfl,fun i a b=>?_⟩
 match i,a,b with
 | 0,_,_=>exact (h1.below hb).i
 | 1,_,_=>exact (h2.below hb).i
 | 2,_,_=>exact (h3.below hb).i
 | 3,_,_=>exact (h4.below hb).i
 | 4,_,_=>exact (h5.below hb).i
 | 5,_,_=>exact (h6.below hb).i
theorem evals_yes {wv xv:Value} {u l:List Int} {w:World} (hu:Rg.Ints w wv u) (hx:Rg.Ints w xv l) (hul:u.length≤4000) (ho:okW 2 u) (hl:l=Ma.ofN (evN 3 G3 u)) :
  Calls Tryz.prog 27 #[wv,xv] w fun e w'=>e=.returned (.bool true)∧Below w.heap.size w w':=by
 obtain ⟨wa,wc,rfl,-⟩:=hu.shape;obtain ⟨xa,xc,rfl,-⟩:=hx.shape;have HV:=ι (evV_three hul ho hl);have HU:=ι (NpI.mk hu);have HX:=ι (NpI.mk hx);have K:=ι (Below.refl w.heap.size w);clear hu hx hl ho
 go_enter Tryz.func27,Tryz.ntmps27
 go_upto_region 0 with (fail);refine Rg.wl ?_;refine Rg.la 4 (.bool false) ?_;go_frame;go_upto_region 1 with (fail);refine Rg.wl ?_;refine Rg.lk 8 (exec_fn0 25 _ rfl (Bncl0 _ _)) ?_;refine (three10_any w).mono ?_;rintro e1 w1 ⟨ga,gn,gc,rfl,hgr,hb⟩;have hgr2:=hgr.rows;refine ⟨_,rfl,?_⟩;go_frame;replace HU:=ι (HU.out.below hb);replace HX:=ι (HX.out.below hb);replace K:=ι (Rg.acc K.out hb);clear hb;have GR:=ι (RsO.mk hgr2);refine Rg.lm 9 (.slice wa u.length wc) ?_;go_frame;clear hgr hgr2;refine Rg.lk 10 (exec_fn 13 _ _ _ rfl rfl rfl (Bncl1 _ _)) ?_;refine (fcEval_any _ _ 3 [[1,0,2],[0,2,1]] u w1 GR.out.r HU.out.i).mono ?_;rintro e1 w2 ⟨rv,rl,rc,rfl,hev,hri,hb⟩;obtain ⟨rfl,rfl⟩:=HV.out.uniq hev;obtain ⟨ra,rcc,rfl,-⟩:=hri.shape;clear hev;refine ⟨_,rfl,?_⟩;go_frame;replace HU:=ι (HU.out.below hb);replace HX:=ι (HX.out.below hb);replace GR:=ι (GR.out.below hb)
 replace K:=ι (Rg.acc K.out hb);clear hb;have HR:=ι (NpI.mk hri);refine Rg.lm 7 (.tuple #[.slice ra l.length rcc,.int .i64 0]) ?_;go_frame;refine Rg.lr 11 (exec_extract (v:=.slice ra l.length rcc) _ _ rfl rfl rfl) ?_;go_frame;refine Rg.lr 12 (exec_extract (v:=.int .i64 0) _ _ rfl rfl rfl) ?_;go_frame;refine Rg.la 5 (.slice ra l.length rcc) ?_;go_frame;refine Rg.la 6 (.int .i64 0) ?_;go_frame;clear hri GR;go_upto_region 2 with (fail);refine Rg.wl ?_;refine Rg.lm 13 (.slice ra l.length rcc) ?_;go_frame;refine Rg.lm 14 (.slice xa l.length xc) ?_;go_frame;refine Rg.lk 15 (exec_fn 15 _ _ _ rfl rfl rfl (Bncl2 _ _)) ?_;refine (Same_any (w0:=w2) (b:=true) HR.out.i HX.out.i (ι (decide_eq_true rfl)) (Below.refl _ _)).mono ?_;rintro e1 w3 ⟨rfl,hb⟩;refine ⟨_,rfl,?_⟩;go_frame;replace HU:=ι (HU.out.below hb);replace HX:=ι (HX.out.below hb);replace HR:=ι (HR.out.below hb);replace K:=ι (Rg.acc K.out hb)
 clear hb;refine Rg.lm 16 (.bool true) ?_;go_frame;refine Rg.lW 17 (Rg.xm (.int .i64 0) _ rfl rfl) ?_;go_frame;refine Rg.lW 18 (exec_eqI _ _ rfl rfl rfl rfl) ?_;go_frame;refine Rg.lr 19 (exec_pickT (v:=.bool true) _ _ _ rfl rfl rfl) ?_;go_frame;refine Rg.la 4 (.bool true) ?_;go_frame;go_wp2;go_ret;exact ⟨rfl,K.out⟩
theorem awake10_any (w:World):Calls Tryz.prog 11 #[] w fun e w'=>e=.returned (.bool true)∧Below w.heap.size w w':=by
 have K:=ι (Below.refl w.heap.size w)
 go_enter Tryz.func11,Tryz.ntmps11
 go_upto_region 0 with (fail);refine Rg.wl ?_;refine Rg.la 0 (.bool false) ?_;go_frame;go_upto_region 1 with (fail);refine Rg.wl ?_;refine Rg.lk 4 (exec_fn0 25 _ rfl (Bncl0 _ _)) ?_;refine (three10_any w).mono ?_;rintro e1 w1 ⟨ga,gn,gc,rfl,hgr,hb⟩;have hgr2:=hgr.rows;refine ⟨_,rfl,?_⟩;go_frame;replace K:=ι (Rg.acc K.out hb);clear hb;have GR:=ι (RsO.mk hgr2);clear hgr hgr2;refine Rg.lk 5 (exec_fn1 18 _ _ rfl rfl (Bncl3 _ _)) ?_;refine (fcWords_any _ 3 [[1,0,2],[0,2,1]] w1 GR.out.r (by decide)).mono ?_;rintro e1 w2 ⟨rv,rl,rc,rfl,hev,hri,hb⟩;obtain ⟨rfl,rfl⟩:=wdV_three hev;obtain ⟨ra,rcc,hsh,-⟩:=hri.shape;rw [show ([[],[2],[1],[2,1],[1,2],[1,2,1]]:List (List Int)).length=6 from rfl] at hsh;subst hsh;clear hev;refine ⟨_,rfl,?_⟩;go_frame;replace GR:=ι (GR.out.below hb);replace K:=ι (Rg.acc K.out hb);clear hb;have WR:=ι (RsO.mk hri);refine Rg.lm 3 (.tuple #[.slice ra 6 rcc,.int .i64 0]) ?_;go_frame
 refine Rg.lr 6 (exec_extract (v:=.slice ra 6 rcc) _ _ rfl rfl rfl) ?_;go_frame;refine Rg.lr 7 (exec_extract (v:=.int .i64 0) _ _ rfl rfl rfl) ?_;go_frame;refine Rg.la 1 (.slice ra 6 rcc) ?_;go_frame;refine Rg.la 2 (.int .i64 0) ?_;go_frame;clear hri GR;go_upto_region 2 with (fail);refine Rg.wl ?_;have hnew:=ints_new w2 3 [1,2] (by decide);refine Rg.lr 8 (exec_flat _ _ 2 _ rfl [1,2] Tryz.underlying26 szInt zInt rfl (by decide) (by decide) rfl) ?_;go_frame;have hb:=(Below.refl w2.heap.size w2).alloc (Nat.le_refl _) (.cells (([1,2]:List Int).map (Value.int .i64)).toArray 3);generalize w2.alloc (.cells (([1,2]:List Int).map (Value.int .i64)).toArray 3)=w3 at *;replace WR:=ι (WR.out.below hb);replace K:=ι (Rg.acc K.out hb);clear hb;have A1:=ι hnew;clear hnew;have hnew:=ints_new w3 3 [2,0,1] (by decide);refine Rg.lr 9 (exec_flat _ _ 3 _ rfl [2,0,1] Tryz.underlying30 szInt zInt rfl (by decide) (by decide) rfl) ?_;go_frame
 have hb:=(Below.refl w3.heap.size w3).alloc (Nat.le_refl _) (.cells (([2,0,1]:List Int).map (Value.int .i64)).toArray 3);generalize w3.alloc (.cells (([2,0,1]:List Int).map (Value.int .i64)).toArray 3)=w4 at *;replace WR:=ι (WR.out.below hb);replace A1:=ι (A1.out.below hb);replace K:=ι (Rg.acc K.out hb);clear hb;have A2:=ι hnew;clear hnew;refine Rg.lk 10 (exec_fn 27 _ _ _ rfl rfl rfl (Bncl4 _ _)) ?_;refine (evals_yes A1.out A2.out (by decide) (by unfold okW; decide) (by decide +kernel)).mono ?_;rintro e1 w5 ⟨rfl,hb⟩;refine ⟨_,rfl,?_⟩;go_frame;replace WR:=ι (WR.out.below hb);replace A1:=ι (A1.out.below hb);replace A2:=ι (A2.out.below hb);replace K:=ι (Rg.acc K.out hb);clear hb;refine Rg.lm 11 (.bool true) ?_;go_frame;have hnew:=ints_new w5 3 [2,1] (by decide);refine Rg.lW 12 (exec_flat _ _ 2 _ rfl [2,1] Tryz.underlying26 szInt zInt rfl (by decide) (by decide) rfl) ?_;go_frame
 have hb:=(Below.refl w5.heap.size w5).alloc (Nat.le_refl _) (.cells (([2,1]:List Int).map (Value.int .i64)).toArray 3);generalize w5.alloc (.cells (([2,1]:List Int).map (Value.int .i64)).toArray 3)=w6 at *;replace WR:=ι (WR.out.below hb);replace A1:=ι (A1.out.below hb);replace A2:=ι (A2.out.below hb);replace K:=ι (Rg.acc K.out hb);clear hb;have A3:=ι hnew;clear hnew;have hnew:=ints_new w6 3 [1,2,0] (by decide);refine Rg.lW 13 (exec_flat _ _ 3 _ rfl [1,2,0] Tryz.underlying30 szInt zInt rfl (by decide) (by decide) rfl) ?_;go_frame;have hb:=(Below.refl w6.heap.size w6).alloc (Nat.le_refl _) (.cells (([1,2,0]:List Int).map (Value.int .i64)).toArray 3);generalize w6.alloc (.cells (([1,2,0]:List Int).map (Value.int .i64)).toArray 3)=w7 at *;replace WR:=ι (WR.out.below hb);replace A1:=ι (A1.out.below hb);replace A2:=ι (A2.out.below hb);replace A3:=ι (A3.out.below hb)
 replace K:=ι (Rg.acc K.out hb);clear hb;have A4:=ι hnew;clear hnew;refine listW_ask (some 14) rfl rfl _ _ (exec_fn 27 _ _ _ rfl rfl rfl (Bncl4 _ _)) ?_;refine (evals_yes A3.out A4.out (by decide) (by unfold okW; decide) (by decide +kernel)).mono ?_;rintro e1 w8 ⟨rfl,hb⟩;refine ⟨_,rfl,?_⟩;go_frame;replace WR:=ι (WR.out.below hb);replace A1:=ι (A1.out.below hb);replace A2:=ι (A2.out.below hb);replace A3:=ι (A3.out.below hb);replace A4:=ι (A4.out.below hb);replace K:=ι (Rg.acc K.out hb);clear hb;refine Rg.lr 15 (exec_pickT (v:=.bool true) _ _ _ rfl rfl rfl) ?_;go_frame;refine Rg.lm 16 (.bool true) ?_;go_frame;refine Rg.lW 17 (Rg.xm (.int .i64 0) _ rfl rfl) ?_;go_frame;refine Rg.lW 18 (exec_eqI _ _ rfl rfl rfl rfl) ?_;go_frame;refine Rg.lr 19 (exec_pickT (v:=.bool true) _ _ _ rfl rfl rfl) ?_;go_frame;refine Rg.lm 20 (.bool true) ?_;go_frame;refine Rg.lW 21 (Rg.xm (.slice ra 6 rcc) _ rfl rfl) ?_;go_frame
 have hn0:NpI (w8.alloc (.cells #[] 3)) (.slice (some ⟨w8.heap.size,0,none⟩) 0 0) []:=NpI.mk (EX.nil (mb:=0) (fv:=.slice none 0 0) _).ints;refine Rg.lW 22 (Rg.exec_build0 slWord rfl w8) ?_;go_frame;have hb:=(Below.refl w8.heap.size w8).alloc (Nat.le_refl _) (.cells #[] 3);generalize w8.alloc (.cells #[] 3)=w9 at *;replace WR:=ι (WR.out.below hb);replace A1:=ι (A1.out.below hb);replace A2:=ι (A2.out.below hb);replace A3:=ι (A3.out.below hb);replace A4:=ι (A4.out.below hb);replace K:=ι (Rg.acc K.out hb);clear hb;have B0:=ι hn0;clear hn0;have hnew:=ints_new w9 3 [2] (by decide);refine Rg.lW 23 (exec_flat _ _ 1 _ rfl [2] Tryz.underlying26 szInt zInt rfl (by decide) (by decide) rfl) ?_;go_frame;have hb:=(Below.refl w9.heap.size w9).alloc (Nat.le_refl _) (.cells (([2]:List Int).map (Value.int .i64)).toArray 3);generalize w9.alloc (.cells (([2]:List Int).map (Value.int .i64)).toArray 3)=w10 at *
 replace WR:=ι (WR.out.below hb);replace A1:=ι (A1.out.below hb);replace A2:=ι (A2.out.below hb);replace A3:=ι (A3.out.below hb);replace A4:=ι (A4.out.below hb);replace B0:=ι (B0.out.below hb);replace K:=ι (Rg.acc K.out hb);clear hb;have B1:=ι hnew;clear hnew;have hnew:=ints_new w10 3 [1] (by decide);refine Rg.lW 24 (exec_flat _ _ 1 _ rfl [1] Tryz.underlying26 szInt zInt rfl (by decide) (by decide) rfl) ?_;go_frame;have hb:=(Below.refl w10.heap.size w10).alloc (Nat.le_refl _) (.cells (([1]:List Int).map (Value.int .i64)).toArray 3);generalize w10.alloc (.cells (([1]:List Int).map (Value.int .i64)).toArray 3)=w11 at *;replace WR:=ι (WR.out.below hb);replace A1:=ι (A1.out.below hb);replace A2:=ι (A2.out.below hb);replace A3:=ι (A3.out.below hb);replace A4:=ι (A4.out.below hb);replace B0:=ι (B0.out.below hb);replace B1:=ι (B1.out.below hb);replace K:=ι (Rg.acc K.out hb)
 clear hb;have B2:=ι hnew;clear hnew;have hnew:=ints_new w11 3 [2,1] (by decide);refine Rg.lW 25 (exec_flat _ _ 2 _ rfl [2,1] Tryz.underlying26 szInt zInt rfl (by decide) (by decide) rfl) ?_;go_frame;have hb:=(Below.refl w11.heap.size w11).alloc (Nat.le_refl _) (.cells (([2,1]:List Int).map (Value.int .i64)).toArray 3);generalize w11.alloc (.cells (([2,1]:List Int).map (Value.int .i64)).toArray 3)=w12 at *;replace WR:=ι (WR.out.below hb);replace A1:=ι (A1.out.below hb);replace A2:=ι (A2.out.below hb);replace A3:=ι (A3.out.below hb);replace A4:=ι (A4.out.below hb);replace B0:=ι (B0.out.below hb);replace B1:=ι (B1.out.below hb);replace B2:=ι (B2.out.below hb);replace K:=ι (Rg.acc K.out hb);clear hb;have B3:=ι hnew;clear hnew;have hnew:=ints_new w12 3 [1,2] (by decide);refine Rg.lW 26 (exec_flat _ _ 2 _ rfl [1,2] Tryz.underlying26 szInt zInt rfl (by decide) (by decide) rfl) ?_;go_frame
 have hb:=(Below.refl w12.heap.size w12).alloc (Nat.le_refl _) (.cells (([1,2]:List Int).map (Value.int .i64)).toArray 3);generalize w12.alloc (.cells (([1,2]:List Int).map (Value.int .i64)).toArray 3)=w13 at *;replace WR:=ι (WR.out.below hb);replace A1:=ι (A1.out.below hb);replace A2:=ι (A2.out.below hb);replace A3:=ι (A3.out.below hb);replace A4:=ι (A4.out.below hb);replace B0:=ι (B0.out.below hb);replace B1:=ι (B1.out.below hb);replace B2:=ι (B2.out.below hb);replace B3:=ι (B3.out.below hb);replace K:=ι (Rg.acc K.out hb);clear hb;have B4:=ι hnew;clear hnew;have hnew:=ints_new w13 3 [1,2,1] (by decide);refine Rg.lW 27 (exec_flat _ _ 3 _ rfl [1,2,1] Tryz.underlying26 szInt zInt rfl (by decide) (by decide) rfl) ?_;go_frame;have hb:=(Below.refl w13.heap.size w13).alloc (Nat.le_refl _) (.cells (([1,2,1]:List Int).map (Value.int .i64)).toArray 3);generalize w13.alloc (.cells (([1,2,1]:List Int).map (Value.int .i64)).toArray 3)=w14 at *
 replace WR:=ι (WR.out.below hb);replace A1:=ι (A1.out.below hb);replace A2:=ι (A2.out.below hb);replace A3:=ι (A3.out.below hb);replace A4:=ι (A4.out.below hb);replace B0:=ι (B0.out.below hb);replace B1:=ι (B1.out.below hb);replace B2:=ι (B2.out.below hb);replace B3:=ι (B3.out.below hb);replace B4:=ι (B4.out.below hb);replace K:=ι (Rg.acc K.out hb);clear hb;have B5:=ι hnew;clear hnew;have hr6:=rows6W B0.out (NpI.mk B1.out) (NpI.mk B2.out) (NpI.mk B3.out) (NpI.mk B4.out) (NpI.mk B5.out);refine Rg.lW 28 (exec_build6W (u1:=.slice (some ⟨w8.heap.size,0,none⟩) 0 0) (u2:=.slice (some ⟨w9.heap.size,0,none⟩) 1 1) (u3:=.slice (some ⟨w10.heap.size,0,none⟩) 1 1) (u4:=.slice (some ⟨w11.heap.size,0,none⟩) 2 2) (u5:=.slice (some ⟨w12.heap.size,0,none⟩) 2 2) (u6:=.slice (some ⟨w13.heap.size,0,none⟩) 3 3) _ _ _ _ _ _ rfl rfl rfl rfl rfl rfl rfl (run_build6W w14 _ _ _ _ _ _ ⟨_,_,_,rfl⟩ ⟨_,_,_,rfl⟩ ⟨_,_,_,rfl⟩ ⟨_,_,_,rfl⟩ ⟨_,_,_,rfl⟩ ⟨_,_,_,rfl⟩)) ?_;go_frame
 have hb:=(Below.refl w14.heap.size w14).alloc (Nat.le_refl _) (.cells #[.slice (some ⟨w8.heap.size,0,none⟩) 0 0,.slice (some ⟨w9.heap.size,0,none⟩) 1 1,.slice (some ⟨w10.heap.size,0,none⟩) 1 1,.slice (some ⟨w11.heap.size,0,none⟩) 2 2,.slice (some ⟨w12.heap.size,0,none⟩) 2 2,.slice (some ⟨w13.heap.size,0,none⟩) 3 3] 26);generalize w14.alloc (.cells #[.slice (some ⟨w8.heap.size,0,none⟩) 0 0,.slice (some ⟨w9.heap.size,0,none⟩) 1 1,.slice (some ⟨w10.heap.size,0,none⟩) 1 1,.slice (some ⟨w11.heap.size,0,none⟩) 2 2,.slice (some ⟨w12.heap.size,0,none⟩) 2 2,.slice (some ⟨w13.heap.size,0,none⟩) 3 3] 26)=w15 at *;replace WR:=ι (WR.out.below hb);replace A1:=ι (A1.out.below hb);replace A2:=ι (A2.out.below hb);replace A3:=ι (A3.out.below hb);replace A4:=ι (A4.out.below hb);replace B0:=ι (B0.out.below hb);replace B1:=ι (B1.out.below hb);replace B2:=ι (B2.out.below hb)
 replace B3:=ι (B3.out.below hb);replace B4:=ι (B4.out.below hb);replace B5:=ι (B5.out.below hb);replace K:=ι (Rg.acc K.out hb);clear hb;have R6:=ι (RsO.mk hr6);clear hr6;refine listW_ask (some 29) rfl rfl _ _ (exec_fn 24 _ _ _ rfl rfl rfl (Bncl5 _ _)) ?_;refine (sameWords_b (b:=true) WR.out.r R6.out.r (ι (decide_eq_true rfl))).mono ?_;rintro e1 w16 ⟨rfl,hb⟩;refine ⟨_,rfl,?_⟩;go_frame;replace WR:=ι (WR.out.below hb);replace A1:=ι (A1.out.below hb);replace A2:=ι (A2.out.below hb);replace A3:=ι (A3.out.below hb);replace A4:=ι (A4.out.below hb);replace B0:=ι (B0.out.below hb);replace B1:=ι (B1.out.below hb);replace B2:=ι (B2.out.below hb);replace B3:=ι (B3.out.below hb);replace B4:=ι (B4.out.below hb);replace B5:=ι (B5.out.below hb);replace R6:=ι (R6.out.below hb);replace K:=ι (Rg.acc K.out hb);clear hb;refine Rg.lr 30 (exec_pickT (v:=.bool true) _ _ _ rfl rfl rfl) ?_;go_frame
 refine Rg.la 0 (.bool true) ?_;go_frame;go_wp2;go_ret;exact ⟨rfl,K.out⟩
end Go.Proofs.YtdnmmibchbceeaaGreat

namespace Go.Proofs.YtdnmmibchbceeaaGreat
open Go.RowKit
open Go.Proofs
open Go.Proofs.Ob
open Go.Proofs.Cm (Gd Gr IsChain ap)
attribute [local irreducible] Go.Calls Go.wpList
abbrev Stp:=Int × Int × Int
abbrev rnIn (T:List (List Nat)) (i:Int):Prop:=0≤i∧i<(T.length:Int)
def rnC (T:List (List Nat)) (s:Stp):Int :=
 if s.1≠1∧s.1≠2 then 3 else if ¬ rnIn T s.2.1 then 2 else if s.1=1∧¬ rnIn T s.2.2 then 2 else 0
def rnE (T:List (List Nat)) (s:Stp):List Nat:=if s.1=1 then Ma.mulN (T.getD s.2.1.toNat []) (T.getD s.2.2.toNat []) else Ma.invN (T.getD s.2.1.toNat [])
def rn:List Stp→List (List Nat)→Int × List (List Nat)
 | [],T=>(0,T)
 | s :: l,T=>if rnC T s≠0 then (rnC T s,T) else rn l (T++[rnE T s])
theorem rn_bad {s:Stp} {l:List Stp} {T:List (List Nat)} (h:rnC T s≠0):rn (s :: l) T=(rnC T s,T):=by rw [rn,if_pos h]
theorem rn_ok {s:Stp} {l:List Stp} {T:List (List Nat)} (h:rnC T s=0):rn (s :: l) T=rn l (T++[rnE T s]):=by rw [rn,if_neg (fun e=>e h)]
theorem rnC_3 {T:List (List Nat)} {s:Stp} (h1:s.1≠1) (h2:s.1≠2):rnC T s=3:=by unfold rnC; rw [if_pos ⟨h1,h2⟩]
theorem rnC_a {T:List (List Nat)} {s:Stp} (h:s.1=1∨s.1=2) (h2:¬ rnIn T s.2.1):rnC T s=2:=by
 unfold rnC; rw [if_neg (fun e=>h.elim e.1 e.2),if_pos h2]
theorem rnC_b {T:List (List Nat)} {s:Stp} (h:s.1=1) (h2:¬ rnIn T s.2.2):rnC T s=2:=by
 by_cases h3:rnIn T s.2.1
 ·unfold rnC; rw [if_neg (fun e=>e.1 h),if_neg (fun e=>e h3),if_pos ⟨h,h2⟩]
 ·exact rnC_a (.inl h) h3
theorem rnC_m {T:List (List Nat)} {s:Stp} (h:s.1=1) (h1:rnIn T s.2.1) (h2:rnIn T s.2.2):rnC T s=0:=by
 unfold rnC; rw [if_neg (fun e=>e.1 h),if_neg (fun e=>e h1),if_neg (fun e=>e.2 h2)]
theorem rnC_i {T:List (List Nat)} {s:Stp} (h:s.1=2) (h1:rnIn T s.2.1):rnC T s=0:=by
 unfold rnC; rw [if_neg (fun e=>e.2 h),if_neg (fun e=>e h1),if_neg (fun e=>by omega)]
theorem rnE_m {T:List (List Nat)} {s:Stp} {x y:List Nat} (h:s.1=1) (hx:T[s.2.1.toNat]?=some x) (hy:T[s.2.2.toNat]?=some y):rnE T s=Ma.mulN x y:=by
 unfold rnE; rw [if_pos h,List.getD_eq_getElem?_getD,List.getD_eq_getElem?_getD,hx,hy]; rfl
theorem rnE_i {T:List (List Nat)} {s:Stp} {x:List Nat} (h:s.1=2) (hx:T[s.2.1.toNat]?=some x):rnE T s=Ma.invN x:=by
 unfold rnE; rw [if_neg (by omega),List.getD_eq_getElem?_getD,hx]; rfl
def RnV (d:Int) (ll:List (List Int)) (S:List Stp) (l:List Int) (c:Int):Prop :=
 (Ma.gchk d ll≠0∧c=Ma.gchk d ll∧l=[])∨(Ma.gchk d ll=0∧5000<S.length∧c=4∧l=[]) ∨
 (Ma.gchk d ll=0∧S.length≤5000∧∃ (N:Nat) (gs:List (List Nat)),d=N∧ll=gs.map Ma.ofN∧c=(rn S gs).1 ∧
  ((c≠0∧l=[])∨(c=0∧l=Ma.ofN (if S.length=0 then Ma.oneN N else (rn S gs).2.getD ((rn S gs).2.length - 1) []))))
theorem rn_same {d:Int} {ll:List (List Int)} {S:List Stp} {l l':List Int} {c c':Int} {N N':Nat} {gs gs':List (List Nat)} (e1:d=N) (e2:ll=gs.map Ma.ofN) (f1:d=N') (f2:ll=gs'.map Ma.ofN) (a1:c=(rn S gs).1) (b1:c'=(rn S gs').1)
  (a2:(c≠0∧l=[])∨(c=0∧l=Ma.ofN (if S.length=0 then Ma.oneN N else (rn S gs).2.getD ((rn S gs).2.length - 1) []))) (b2:(c'≠0∧l'=[])∨(c'=0∧l'=Ma.ofN (if S.length=0 then Ma.oneN N' else (rn S gs').2.getD ((rn S gs').2.length - 1) []))):l=l'∧c=c':=by
 obtain rfl:N=N':=by omega
 have:=map_ofN_inj (e2.symm.trans f2);subst this;have hc:=a1.trans b1.symm;subst hc;refine ⟨?_,rfl⟩
 rcases a2 with ⟨h0,a2⟩ | ⟨h0,a2⟩ <;> rcases b2 with ⟨g0,b2⟩ | ⟨g0,b2⟩
 ·exact a2.trans b2.symm
 ·exact absurd g0 h0
 ·exact absurd h0 g0
 ·exact a2.trans b2.symm
theorem RnV.uniq {d:Int} {ll:List (List Int)} {S:List Stp} {l l':List Int} {c c':Int} (h:RnV d ll S l c) (h':RnV d ll S l' c'):l=l'∧c=c':=by
 rcases h with ⟨a0,a1,a2⟩ | ⟨a0,a3,a1,a2⟩ | ⟨a0,a3,N,gs,e1,e2,a1,a2⟩ <;> rcases h' with ⟨b0,b1,b2⟩ | ⟨b0,b3,b1,b2⟩ | ⟨b0,b3,N',gs',f1,f2,b1,b2⟩ <;>
  first
  | exact absurd b0 a0
  | exact absurd a0 b0
  | omega
  | exact ⟨a2.trans b2.symm,a1.trans b1.symm⟩
  | exact rn_same e1 e2 f1 f2 a1 b1 a2 b2
structure StA (w:World) (v:Value) (S:List Stp):Prop where
 st:∃ a cap,v=.slice a S.length cap∧(0<S.length→∃ b o,a=some ⟨b,o,none⟩∧b<w.heap.size∧∀ i (h:i<S.length),w.cell? ⟨b,o+i*3,none⟩=some (.int .i64 S[i].1)∧w.cell? ⟨b,o+i*3+1,none⟩=some (.int .i64 S[i].2.1)∧w.cell? ⟨b,o+i*3+2,none⟩=some (.int .i64 S[i].2.2))
theorem StA.below {w w':World} {v:Value} {S:List Stp} (h:StA w v S) (hb:Below w.heap.size w w'):StA w' v S:=by
 obtain ⟨a,cap,e,h2⟩:=h.st;refine ⟨a,cap,e,fun h0=>?_⟩;obtain ⟨b,o,e2,hlt,hc⟩:=h2 h0;exact ⟨b,o,e2,Nat.lt_of_lt_of_le hlt hb.size,fun i hi=>⟨(hb.cell (p:=⟨b,o+i*3,none⟩) hlt).trans (hc i hi).1,(hb.cell (p:=⟨b,o+i*3+1,none⟩) hlt).trans (hc i hi).2.1,(hb.cell (p:=⟨b,o+i*3+2,none⟩) hlt).trans (hc i hi).2.2⟩⟩
theorem infoSt:(Tryz.prog.info? 51).map (fun i=>(i.zero,i.size,i.bytes))=some (some (.agg #[.int .i64 0,.int .i64 0,.int .i64 0]),3,24):=by kernel_rfl
theorem szStp:(Tryz.prog.info? 51).map (·.size)=some 3:=by kernel_rfl
theorem run_loadSt {w:World} {b o:Nat} {x y z:Value} (h0:w.cell? ⟨b,o,none⟩=some x) (h1:w.cell? ⟨b,o+1,none⟩=some y) (h2:w.cell? ⟨b,o+2,none⟩=some z):(loadVar 51 ⟨b,o,none⟩).run Tryz.prog w=.ok (.agg #[x,y,z]) w:=by
 obtain ⟨i0,hi,hz0,hz1,hz2⟩:=info_parts infoSt
 have ha0:(⟨b,o,none⟩:Addr).add 0=⟨b,o,none⟩:=by simp [Addr.add]
 have ha1:(⟨b,o,none⟩:Addr).add 1=⟨b,o+1,none⟩:=by simp [Addr.add]
 have ha2:(⟨b,o,none⟩:Addr).add 2=⟨b,o+2,none⟩:=by simp [Addr.add]
 have hg:(isAgg 51).run Tryz.prog w=.ok true w:=by kernel_rfl
 simp [loadVar,hg,sizeOf,typeInfo,hi,hz1,loadCells,loadCellsFrom,load,ha0,ha1,ha2];simp [Sem.run,h0,h1,h2]
theorem TriS.new (w:World) (x y z:Value):Tri (w.alloc (.cells #[x,y,z] 51)) w.heap.size x y z :=
 ⟨by rw [Rg.cellNew]; rfl,by rw [Rg.cellNew]; rfl,by rw [Rg.cellNew]; rfl,frozenNewN _ _ _ 0 _,frozenNewN _ _ _ 0 _,frozenNewN _ _ _ 0 _,by simp⟩
theorem run_storeSt {w:World} {b:Nat} {u1 u2 u3:Value} (x y z:Int) (h:Tri w b u1 u2 u3) :
  (storeVar 51 ⟨b,0,none⟩ (.agg #[.int .i64 x,.int .i64 y,.int .i64 z])).run Tryz.prog w=.ok () (((w.setCell ⟨b,0,none⟩ (.int .i64 x)).setCell ⟨b,1,none⟩ (.int .i64 y)).setCell ⟨b,2,none⟩ (.int .i64 z)):=by
 obtain ⟨i0,hi,hz0,hz1,hz2⟩:=info_parts infoSt
 have g2:(w.setCell ⟨b,0,none⟩ (.int .i64 x)).cell? ⟨b,1,none⟩=some u2:=by
  rw [World.cell?_setCell_other (h:=by intro e; injection e with e1 e2; omega) ..]
  exact h.c1
 have gf:(w.setCell ⟨b,0,none⟩ (.int .i64 x)).frozen? ⟨b,1,none⟩=false:=by rw [World.frozen?_setCell]; exact h.f1
 have g3:((w.setCell ⟨b,0,none⟩ (.int .i64 x)).setCell ⟨b,1,none⟩ (.int .i64 y)).cell? ⟨b,2,none⟩=some u3:=by
  rw [World.cell?_setCell_other (h:=by intro e; injection e with e1 e2; omega) ..,World.cell?_setCell_other (h:=by intro e; injection e with e1 e2; omega) ..]
  exact h.c2
 have gf3:((w.setCell ⟨b,0,none⟩ (.int .i64 x)).setCell ⟨b,1,none⟩ (.int .i64 y)).frozen? ⟨b,2,none⟩=false:=by rw [World.frozen?_setCell,World.frozen?_setCell]; exact h.f2
 have ha0:(⟨b,0,none⟩:Addr).add 0=⟨b,0,none⟩:=by simp [Addr.add]
 have ha1:(⟨b,0,none⟩:Addr).add 1=⟨b,1,none⟩:=by simp [Addr.add]
 have ha2:(⟨b,0,none⟩:Addr).add 2=⟨b,2,none⟩:=by simp [Addr.add]
 simp [storeVar,sizeOf,typeInfo,hi,hz1,Value.cells,storeCells,store,ha0,ha1,ha2];simp [Sem.run,h.c0,h.f0,g2,gf,g3,gf3]
theorem exec_allocSt {o:Oper} {a:Act} {w:World} (ho:o.op=.alloc 51):(execOp a.eval o).run Tryz.prog w=.ok (.value (.pointer (some ⟨w.heap.size,0,none⟩))) (w.alloc (.cells #[.int .i64 0,.int .i64 0,.int .i64 0] 51)):=by
 obtain ⟨i0,hi,hz0,hz1,hz2⟩:=info_parts infoSt;unfold execOp;simp [ho,Instr.alloc,typeInfo,zeroValue,hi,hz0,newVar,Value.cells,Result.andThen]
 try rfl
theorem boxSt (W:World) (x y z:Int):∃ X,(storeVar 51 ⟨W.heap.size,0,none⟩ (.agg #[.int .i64 x,.int .i64 y,.int .i64 z])).run Tryz.prog (W.alloc (.cells #[.int .i64 0,.int .i64 0,.int .i64 0] 51))=.ok () X∧CL X W.heap.size 0 (.int .i64 x)∧CL X W.heap.size 1 (.int .i64 y)∧CL X W.heap.size 2 (.int .i64 z)∧Below W.heap.size W X:=by
 have ht:=TriS.new W (.int .i64 0) (.int .i64 0) (.int .i64 0);have hs:=ht.set (.int .i64 x) (.int .i64 y) (.int .i64 z);exact ⟨_,run_storeSt x y z ht,⟨hs.c0,hs.lt⟩,⟨hs.c1,hs.lt⟩,⟨hs.c2,hs.lt⟩,((((Below.refl _ _).alloc (Nat.le_refl _) _).setCell (p:=⟨W.heap.size,0,none⟩) (Nat.le_refl _) _).setCell (p:=⟨W.heap.size,1,none⟩) (Nat.le_refl _) _).setCell (p:=⟨W.heap.size,2,none⟩) (Nat.le_refl _) _⟩
structure RnM (B:Nat) (W:World) (cb:Nat) (fv:Value) (T:List (List Nat)):Prop where
 row:∃ us,W.ownsRow B 30 1 fv T.length us∧Rg.FElts (GF W cb fv) W us (T.map Ma.ofN)
 off:fv.ownBlock≠some cb
 sz:B≤W.heap.size
theorem RnM.below {B:Nat} {W W':World} {cb:Nat} {fv:Value} {T:List (List Nat)} (h:RnM B W cb fv T) (hb:Below W.heap.size W W'):RnM B W' cb fv T:=by
 obtain ⟨us,h1,h2⟩:=h.row;exact ⟨⟨us,Rg.row_below h1 hb,(h2.kp (M:=fun _=>False) (Rg.Kp.of_below hb) (fun _ _=>id)).mono fun k g=>g.up hb.size⟩,h.off,Nat.le_trans h.sz hb.size⟩
theorem RnM.shape {B:Nat} {W:World} {cb:Nat} {fv:Value} {T:List (List Nat)} (h:RnM B W cb fv T):∃ a c,fv=.slice a T.length c:=by
 obtain ⟨us,h1,h2⟩:=h.row;exact Rg.row_shape h1
theorem RnM.lt1 {B:Nat} {W:World} {cb:Nat} {fv:Value} {T:List (List Nat)} (h:RnM B W cb fv T):∀ k,fv.ownBlock=some k→B≤k∧k<W.heap.size:=fun k e=>by
 obtain ⟨us,h1,h2⟩:=h.row;exact h1.lt k e
theorem RnM.at {B:Nat} {W:World} {cb:Nat} {fv:Value} {T:List (List Nat)} (h:RnM B W cb fv T) (hl:T.length≤1000000) {i:Nat} {x:List Nat} (hi:i<T.length) (hx:T[i]?=some x) :
  ∃ b o c u,fv=.slice (some ⟨b,o,none⟩) T.length c∧CL W b (o+i) u∧EX W cb fv u (Ma.ofN x):=by
 obtain ⟨us,h1,h2⟩:=h.row;obtain ⟨a,c,e,h3,h4,h5,h6⟩:=Rg.Vals.of_row h1 (by omega)
 have hul:us.length=T.length:=by have:=h2.1; simpa using this
 obtain ⟨b,o,e1,e2,e3⟩:=h6 (by omega)
 have hiu:i<us.length:=by omega
 refine ⟨b,o,c,us[i],by rw [e,e1,hul],⟨e3 i hiu,e2⟩,⟨?_⟩⟩;have:=h2.2 i hiu (by simpa using hi);rw [List.getElem_map] at this;rw [List.getElem?_eq_getElem hi] at hx
 injection hx with hx
 rw [← hx]; exact this
theorem RnM.push {B:Nat} {W:World} {cb:Nat} {fv:Value} {T:List (List Nat)} (h:RnM B W cb fv T) (hcb:cb<W.heap.size) {x:List Nat} {u:Value} (hu:EX W cb fv u (Ma.ofN x)) (hs:∃ a m c,u=.slice a m c) (hn:T.length<1000000) (ty:TypeId) :
  ∃ a c X,(Builtin.append_ #[22,22] ty #[fv,.slice (some ⟨W.heap.size,0,none⟩) 1 1]).run Tryz.prog (W.alloc (.cells #[u] 30))=.ok (.slice a (T.length+1) c) X∧RnM B X cb (.slice a (T.length+1) c) (T++[x])∧Rg.Kp (fun k=>fv.ownBlock=some k) W X:=by
 obtain ⟨us,h1,h2⟩:=h.row;obtain ⟨a0,m0,c0,rfl⟩:=hs;have hb:Below W.heap.size W (W.alloc (.cells #[.slice a0 m0 c0] 30)):=(Below.refl _ _).alloc (Nat.le_refl _) _;obtain ⟨v',X,r1,r2,r3,r4,a,c,rfl⟩:=app_run (P:=Tryz.prog) slPerms ty (Rg.row_below h1 hb) (Nat.le_trans h.sz hb.size) W.heap.size 1 (u:=.slice a0 m0 c0) (by rw [Rg.cellNew]; rfl) rfl hn;have hk:Rg.Kp (fun k=>fv.ownBlock=some k) W X:=Rg.Kp.trans (M:=fun k=>fv.ownBlock=some k) ((Rg.Kp.of_below hb).weak fun _=>False.elim) (Rg.Kp.of_grown r3 fun _ e=>e) (fun _ _ e=>e)
 have e2:(W.alloc (.cells #[.slice a0 m0 c0] 30)).heap.size=W.heap.size+1:=by simp
 have hmono:∀ k,GF W cb fv k→GF X cb (.slice a (T.length+1) c) k:=fun k g=>by
  refine ⟨Nat.lt_of_lt_of_le g.1 hk.size,g.2.1,fun e=>?_⟩
  rcases r4 with r4 | r4
  ·exact g.2.2 (by rw [← r4]; exact e)
  ·rw [r4] at e
   injection e with e
   have:=g.1;omega
 have hmb:(Value.slice a (T.length+1) c).ownBlock≠some cb:=fun e=>by
  rcases r4 with r4 | r4
  ·exact h.off (by rw [← r4]; exact e)
  ·rw [r4] at e
   injection e with e
   omega
 exact ⟨a,c,X,r1,⟨⟨us++[.slice a0 m0 c0],by rw [List.length_append]; exact r2,by rw [List.map_append]; exact (FElts.snoc (h2.kp hk (fun k g e=>g.2.2 e)) (Rg.FI.kp hu.fi hk (fun k g e=>g.2.2 e))).mono hmono⟩,hmb,Nat.le_trans h.sz hk.size⟩,hk⟩
theorem RnM.set {B:Nat} {W:World} {cb:Nat} {fv:Value} {T:List (List Nat)} (h:RnM B W cb fv T) (y:Value):RnM B (W.setCell ⟨cb,0,none⟩ y) cb fv T:=by
 obtain ⟨us,h1,h2⟩:=h.row;have hk:Rg.Kp (fun k=>k=cb) W (W.setCell ⟨cb,0,none⟩ y):=Rg.Kp.of_setCell rfl;exact ⟨⟨us,rowKp h1 hk (fun k e e2=>h.off (by rw [e2,e])),(h2.kp hk (fun k g e=>g.2.1 e)).mono fun k g=>g.up hk.size⟩,h.off,Nat.le_trans h.sz hk.size⟩
end Go.Proofs.YtdnmmibchbceeaaGreat

namespace Go.Proofs.YtdnmmibchbceeaaGreat
open Go.RowKit
open Go.Proofs
open Go.Proofs.Ob
open Go.Proofs.Cm (Gd Gr IsChain ap)
theorem fold_new {x:List Nat} {wd:List Int}:∀ (l:List (List Nat × Int)) (st:BSt),∀ y∈l,Ma.mulN x y.1∈(l.foldl (bfStep x wd) st).1
 | [],st,y,hy=>by simp at hy
 | z :: l,st,y,hy=>by
  rcases List.mem_cons.1 hy with hy | hy
  ·subst hy
   have h1:Ma.mulN x y.1∈(bfStep x wd st y).1:=by
    unfold bfStep
    split
    ·assumption
    ·exact List.mem_append_right _ (List.mem_singleton.2 rfl)
   exact (Ext.fold x wd l _).1.subset h1
  ·exact fold_new l _ y hy
theorem bfs_step_ext (ml:List (List Nat × Int)) (N i:Nat):Ext (bfs ml N i) (bfs ml N (i+1)):=by
 show Ext _ (if i<(bfs ml N i).1.length then bfRow ml (bfs ml N i) i else bfs ml N i)
 split
 ·exact Ext.fold _ _ _ _
 ·exact Ext.refl _
theorem bfs_closed (ml:List (List Nat × Int)) (N:Nat):∀ (i j:Nat) (x:List Nat),j<i→(bfs ml N i).1[j]?=some x→∀ y∈ml,Ma.mulN x y.1∈(bfs ml N i).1
 | 0,j,x,hj,_,_,_=>absurd hj (Nat.not_lt_zero _)
 | i+1,j,x,hj,hx,y,hy=>by
  obtain ⟨t,ht⟩:=(bfs_step_ext ml N i).1
  by_cases h:i<(bfs ml N i).1.length
  ·by_cases e:j=i
   ·subst e
    have hx2:(bfs ml N j).1.getD j []=x:=by
     rw [← ht,List.getElem?_append_left h,List.getElem?_eq_getElem h] at hx;rw [List.getD_eq_getElem?_getD,List.getElem?_eq_getElem h];exact Option.some.inj hx
    have e3:bfs ml N (j+1)=bfRow ml (bfs ml N j) j:=by
     show (if j<(bfs ml N j).1.length then bfRow ml (bfs ml N j) j else bfs ml N j)=_;rw [if_pos h]
    rw [e3];unfold bfRow;rw [hx2];exact fold_new ml _ y hy
   ·have hji:j<i:=by omega
    have hx2:(bfs ml N i).1[j]?=some x:=by
     rw [← ht,List.getElem?_append_left (by omega)] at hx;exact hx
    have:=bfs_closed ml N i j x hji hx2 y hy;rw [← ht];exact List.mem_append_left _ this
  ·have e3:bfs ml N (i+1)=bfs ml N i:=by
    show (if i<(bfs ml N i).1.length then bfRow ml (bfs ml N i) i else bfs ml N i)=_;rw [if_neg h]
   rw [e3] at hx ⊢;have hj2:j<(bfs ml N i).1.length:=(List.getElem?_eq_some_iff.1 hx).1;exact bfs_closed ml N i j x (by omega) hx y hy
theorem BfE.closed {ml:List (List Nat × Int)} {N:Nat} {st:BSt} (h:BfE ml N st) {x:List Nat} (hx:x∈st.1) {y:List Nat × Int} (hy:y∈ml):Ma.mulN x y.1∈st.1:=by
 obtain ⟨i,rfl,hi⟩:=h;obtain ⟨j,hj,e⟩:=List.getElem_of_mem hx;exact bfs_closed ml N i j x (by omega) (by rw [List.getElem?_eq_getElem hj,e]) y hy
theorem BfE.one {ml:List (List Nat × Int)} {N:Nat} {st:BSt} (h:BfE ml N st):Ma.oneN N∈st.1:=by
 obtain ⟨i,rfl,h2⟩:=h;clear h2
 induction i with
 | zero=>exact List.mem_singleton.2 rfl
 | succ i ih=>exact (bfs_step_ext ml N i).1.subset ih
theorem mlets_at {gs:List (List Nat)} {s:List Nat} (hs:s∈gs):(∃ z,(s,z)∈mlets gs)∧∃ z,(Ma.invN s,z)∈mlets gs:=by
 have h1:s∈(mlets gs).map (·.1):=by
  rw [mlets_fst]; exact List.mem_flatMap.2 ⟨s,hs,by simp⟩
 have h2:Ma.invN s∈(mlets gs).map (·.1):=by
  rw [mlets_fst]; exact List.mem_flatMap.2 ⟨s,hs,by simp⟩
 obtain ⟨p,hp,e⟩:=List.mem_map.1 h1;obtain ⟨q,hq,e2⟩:=List.mem_map.1 h2;exact ⟨⟨p.2,by rw [← e]; exact hp⟩,⟨q.2,by rw [← e2]; exact hq⟩⟩
theorem inv_unique {n:Nat} {x y:List Nat} (hx:Gd n x) (hy:Gd n y) (h:Ma.mulN x y=Ma.oneN n):Ma.invN x=y:=by
 rw [← Cm.mul_one (Cm.gd_inv hx),← h,← Cm.mul_assoc (Cm.gd_inv hx) hx,Cm.inv_mul hx,Cm.one_mul hy]
theorem inv_twice {n:Nat} {x:List Nat} (hx:Gd n x):Ma.invN (Ma.invN x)=x:=inv_unique (Cm.gd_inv hx) hx (Cm.inv_mul hx)
theorem inv_prod {n:Nat} {a b:List Nat} (ha:Gd n a) (hb:Gd n b):Ma.invN (Ma.mulN a b)=Ma.mulN (Ma.invN b) (Ma.invN a):=by
 refine inv_unique (Cm.gd_mul ha hb) (Cm.gd_mul (Cm.gd_inv hb) (Cm.gd_inv ha)) ?_;rw [← Cm.mul_assoc (Cm.gd_mul ha hb) (Cm.gd_inv hb),Cm.mul_cancel_inv ha hb,Cm.mul_inv ha]
theorem BfE.all {N:Nat} {gs:List (List Nat)} (hg:∀ s∈gs,Gd N s) {st:BSt} (h:BfE (mlets gs) N st) {x:List Nat} (hx:Cm.Gr N (·∈gs) x):x∈st.1:=by
 have hb:BI N st:=by obtain ⟨i,rfl,_⟩:=h; exact bfs_BI (mlets_gd hg) i
 have key:(∀ y∈st.1,Ma.mulN y x∈st.1)∧(∀ y∈st.1,Ma.mulN y (Ma.invN x)∈st.1):=by
  induction hx with
  | one =>
   have e:Ma.invN (Ma.oneN N)=Ma.oneN N:=Cm.inv_one N;refine ⟨fun y hy=>?_,fun y hy=>?_⟩
   ·rw [Cm.mul_one (hb.gd y hy)]; exact hy
   ·rw [e,Cm.mul_one (hb.gd y hy)]; exact hy
  | gen s hs =>
   obtain ⟨⟨z1,h1⟩,⟨z2,h2⟩⟩:=mlets_at hs;exact ⟨fun y hy=>h.closed hy h1,fun y hy=>h.closed hy h2⟩
  | mul a b ha hbb iha ihb =>
   have ga:=(Cm.Gr.isG hg).gd _ ha;have gb:=(Cm.Gr.isG hg).gd _ hbb;refine ⟨fun y hy=>?_,fun y hy=>?_⟩
   ·rw [← Cm.mul_assoc (hb.gd y hy) ga]; exact ihb.1 _ (iha.1 y hy)
   ·rw [inv_prod ga gb,← Cm.mul_assoc (hb.gd y hy) (Cm.gd_inv gb)]
    exact iha.2 _ (ihb.2 y hy)
  | inv a ha iha =>
   have ga:=(Cm.Gr.isG hg).gd _ ha;exact ⟨iha.2,fun y hy=>by rw [inv_twice ga]; exact iha.1 y hy⟩
 have:=key.1 _ h.one
 rwa [Cm.one_mul ((Cm.Gr.isG hg).gd _ hx)] at this
end Go.Proofs.YtdnmmibchbceeaaGreat

namespace Go.Proofs.YtdnmmibchbceeaaGreat
open Go.RowKit
open Go.Proofs
open Go.Proofs.Ob
open Go.Proofs.Cm (Tr TabOk Gr Gd Sd idT sfP Fx ap IsChain IsG IsTr St setT)
theorem rn_snoc:∀ {S:List Stp} {gs T:List (List Nat)} {s:Stp},rn S gs=(0,T)→rnC T s=0→rn (S++[s]) gs=(0,T++[rnE T s])
 | [],gs,T,s,h,hc=>by
  have h:((0:Int),gs)=(0,T):=h
  injection h with _ h; subst h
  rw [List.nil_append,rn_ok hc]; rfl
 | a :: S,gs,T,s,h,hc=>by
  by_cases h0:rnC gs a=0
  ·rw [rn_ok h0] at h
   rw [List.cons_append,rn_ok h0];exact rn_snoc h hc
  ·rw [rn_bad h0] at h
   injection h with h1 h2
   exact absurd h1 h0
theorem rn_len:∀ {S:List Stp} {gs T:List (List Nat)},rn S gs=(0,T)→T.length=gs.length+S.length
 | [],gs,T,h=>by
  have h:((0:Int),gs)=(0,T):=h
  injection h with _ h; subst h; rfl
 | a :: S,gs,T,h=>by
  by_cases h0:rnC gs a=0
  ·rw [rn_ok h0] at h
   have:=rn_len h;simp at this ⊢; omega
  ·rw [rn_bad h0] at h
   injection h with h1 h2
   exact absurd h1 h0
structure Mk (N:Nat) (gs:List (List Nat)) (S:List Stp) (T:List (List Nat)):Prop where
 run:rn S gs=(0,T)
 gd:∀ y∈T,Gd N y
theorem Mk.len {N:Nat} {gs:List (List Nat)} {S:List Stp} {T:List (List Nat)} (h:Mk N gs S T):T.length=gs.length+S.length:=rn_len h.run
theorem Mk.start {N:Nat} {gs:List (List Nat)} (h:∀ s∈gs,Gd N s):Mk N gs [] gs:=⟨rfl,h⟩
theorem Mk.at {N:Nat} {gs:List (List Nat)} {S:List Stp} {T:List (List Nat)} (h:Mk N gs S T) {k:Nat} {x:List Nat} (hx:T[k]?=some x):Gd N x:=h.gd x (List.mem_of_getElem? hx)
theorem rnIn_of {T:List (List Nat)} {k:Nat} {x:List Nat} (hx:T[k]?=some x):rnIn T ((k:Nat):Int):=⟨by omega,by have:=(List.getElem?_eq_some_iff.1 hx).1; omega⟩
theorem Mk.mul {N:Nat} {gs:List (List Nat)} {S:List Stp} {T:List (List Nat)} (h:Mk N gs S T) {a b:Nat} {x y:List Nat} (hx:T[a]?=some x) (hy:T[b]?=some y) :
  Mk N gs (S++[((1:Int),((a:Nat):Int),((b:Nat):Int))]) (T++[Ma.mulN x y]):=by
 have hc:rnC T ((1:Int),((a:Nat):Int),((b:Nat):Int))=0:=rnC_m rfl (rnIn_of hx) (rnIn_of hy);have he:rnE T ((1:Int),((a:Nat):Int),((b:Nat):Int))=Ma.mulN x y:=rnE_m rfl hx hy;refine ⟨by rw [rn_snoc h.run hc,he],fun z hz=>?_⟩
 rcases List.mem_append.1 hz with hz | hz
 ·exact h.gd z hz
 ·rw [List.mem_singleton] at hz; rw [hz]; exact Cm.gd_mul (h.at hx) (h.at hy)
theorem Mk.inv {N:Nat} {gs:List (List Nat)} {S:List Stp} {T:List (List Nat)} (h:Mk N gs S T) {a:Nat} {x:List Nat} (hx:T[a]?=some x) :
  Mk N gs (S++[((2:Int),((a:Nat):Int),(0:Int))]) (T++[Ma.invN x]):=by
 have hc:rnC T ((2:Int),((a:Nat):Int),(0:Int))=0:=rnC_i rfl (rnIn_of hx);have he:rnE T ((2:Int),((a:Nat):Int),(0:Int))=Ma.invN x:=rnE_i rfl hx;refine ⟨by rw [rn_snoc h.run hc,he],fun z hz=>?_⟩
 rcases List.mem_append.1 hz with hz | hz
 ·exact h.gd z hz
 ·rw [List.mem_singleton] at hz; rw [hz]; exact Cm.gd_inv (h.at hx)
theorem pre_at {T T':List (List Nat)} (h:T <+: T') {k:Nat} {x:List Nat} (hx:T[k]?=some x):T'[k]?=some x:=by
 obtain ⟨t,rfl⟩:=h;rw [List.getElem?_append_left (List.getElem?_eq_some_iff.1 hx).1]; exact hx
theorem at_last {T:List (List Nat)} (x:List Nat):(T++[x])[T.length]?=some x:=by
 rw [List.getElem?_append_right (Nat.le_refl _),Nat.sub_self]; rfl
structure En where
 b:Nat
 i:Nat
 p:Nat
 x:List Nat
 at_:Nat
 by_:Int
structure EnOk (N:Nat) (T:List (List Nat)) (e:En):Prop where
 gd:Gd N e.x
 fx:Fx e.i e.x
 ap_:ap e.x e.i=e.p
 lt:e.i<N
 ne:e.p≠e.i
 at_:T[e.at_]?=some e.x
 by_:e.by_ = -1∨∃ k:Nat,e.by_=((k:Nat):Int)∧T[k]?=some (Ma.invN e.x)
theorem EnOk.mono {N:Nat} {T T':List (List Nat)} {e:En} (h:EnOk N T e) (hT:T <+: T'):EnOk N T' e :=
 ⟨h.gd,h.fx,h.ap_,h.lt,h.ne,pre_at hT h.at_,h.by_.imp id fun ⟨k,h1,h2⟩=>⟨k,h1,pre_at hT h2⟩⟩
def fnd (es:List En) (i p:Nat):Option En:=es.find? fun e=>(i,p) == (e.i,e.p)
def trE (es:List En):Tr:=fun i p=>(fnd es i p).map (·.x)
theorem fnd_mem {es:List En} {i p:Nat} {e:En} (h:fnd es i p=some e):e∈es∧e.i=i∧e.p=p:=by
 refine ⟨List.mem_of_find?_eq_some h,?_⟩;have:=List.find?_some h;simp at this;exact ⟨this.1.symm,this.2.symm⟩
def setBy (es:List En) (b:Nat) (k:Int):List En:=es.map fun e=>if e.b=b then { e with by_:=k } else e
theorem setBy_len (es:List En) (b:Nat) (k:Int):(setBy es b k).length=es.length:=List.length_map _
theorem setBy_key (es:List En) (b:Nat) (k:Int):(setBy es b k).map (fun e=>(e.i,e.p))=es.map fun e=>(e.i,e.p):=by
 unfold setBy;rw [List.map_map];refine List.map_congr_left fun e _=>?_;show (_,_)=_
 dsimp only [Function.comp]
 split <;> rfl
theorem setBy_b (es:List En) (b:Nat) (k:Int):(setBy es b k).map (·.b)=es.map (·.b):=by
 unfold setBy;rw [List.map_map];refine List.map_congr_left fun e _=>?_
 dsimp only [Function.comp]
 split <;> rfl
theorem setBy_fnd (es:List En) (b:Nat) (k:Int) (i p:Nat):fnd (setBy es b k) i p=(fnd es i p).map fun e=>if e.b=b then { e with by_:=k } else e:=by
 unfold fnd setBy;rw [List.find?_map]
 congr 2
 funext e
 dsimp only [Function.comp]
 split <;> rfl
theorem setBy_tr (es:List En) (b:Nat) (k:Int):trE (setBy es b k)=trE es:=by
 funext i p
 unfold trE;rw [setBy_fnd,Option.map_map]
 congr 1
 funext e
 dsimp only [Function.comp]
 split <;> rfl
theorem fnd_snoc {es:List En} {e:En} (i p:Nat):fnd (es++[e]) i p=(fnd es i p).or (if i=e.i∧p=e.p then some e else none):=by
 unfold fnd;rw [List.find?_append]
 congr 1
 by_cases h:i=e.i∧p=e.p
 ·rw [if_pos h,List.find?_cons_of_pos (by simp [h.1,h.2])]
 ·rw [if_neg h,List.find?_cons_of_neg (by simpa using h)]; rfl
theorem trE_snoc {es:List En} {e:En} (h:fnd es e.i e.p=none):trE (es++[e])=setT (trE es) e.i e.p e.x:=by
 funext i p
 show (fnd (es++[e]) i p).map (·.x)=if i=e.i∧p=e.p then some e.x else (fnd es i p).map (·.x);rw [fnd_snoc]
 by_cases hc:i=e.i∧p=e.p
 ·rw [if_pos hc,if_pos hc,hc.1,hc.2,h]; rfl
 ·rw [if_neg hc,if_neg hc]
  cases fnd es i p <;> rfl
theorem idT_at {N:Nat} {es:List En} {i p:Nat} (h:p≠i):idT N (trE es) i p=(fnd es i p).map (·.x):=Cm.idT_ne h
def usE (es:List En) (N:Nat):Nat→List Nat→List En
 | 0,_=>[]
 | d+1,x=>if ap x (N - (d+1))=N - (d+1) then usE es N d x else
  match fnd es (N - (d+1)) (ap x (N - (d+1))) with
  | none=>[]
  | some e=>e :: usE es N d (Ma.mulN x (Ma.invN e.x))
theorem usE_eq {es:List En} {N i:Nat} {x:List Nat} (hi:i<N) (h:ap x i=i):usE es N (N - i) x=usE es N (N - (i+1)) x:=by
 obtain ⟨d,e⟩:∃ d,N - i=d+1:=⟨N - i - 1,by omega⟩
 have e2:N - (i+1)=d:=by omega
 have e3:N - (d+1)=i:=by omega
 rw [e,e2];show (if ap x (N - (d+1))=N - (d+1) then usE es N d x else _)=_;rw [e3,if_pos h]
theorem usE_none {es:List En} {N i:Nat} {x:List Nat} (hi:i<N) (h:ap x i≠i) (hf:fnd es i (ap x i)=none):usE es N (N - i) x=[]:=by
 obtain ⟨d,e⟩:∃ d,N - i=d+1:=⟨N - i - 1,by omega⟩
 have e3:N - (d+1)=i:=by omega
 rw [e];unfold usE;rw [e3,if_neg h,hf]
theorem usE_some {es:List En} {N i:Nat} {x:List Nat} {e0:En} (hi:i<N) (h:ap x i≠i) (hf:fnd es i (ap x i)=some e0):usE es N (N - i) x=e0 :: usE es N (N - (i+1)) (Ma.mulN x (Ma.invN e0.x)):=by
 obtain ⟨d,e⟩:∃ d,N - i=d+1:=⟨N - i - 1,by omega⟩
 have e2:N - (i+1)=d:=by omega
 have e3:N - (d+1)=i:=by omega
 rw [e,e2]
 conv=>lhs; unfold usE
 rw [e3,if_neg h,hf]
theorem sfP_eq {es:List En} {N i:Nat} {x:List Nat} (hi:i<N) (gx:Gd N x) (h:ap x i=i):sfP N (idT N (trE es)) (N - i) x=sfP N (idT N (trE es)) (N - (i+1)) x:=by
 obtain ⟨d,e⟩:∃ d,N - i=d+1:=⟨N - i - 1,by omega⟩
 have e2:N - (i+1)=d:=by omega
 have e3:N - (d+1)=i:=by omega
 rw [e,e2,Cm.sfP_some (u:=Ma.oneN N) (by rw [e3,h]; exact Cm.idT_self),Cm.inv_one,Cm.mul_one gx]
theorem sfP_no {es:List En} {N i:Nat} {x:List Nat} (hi:i<N) (h:ap x i≠i) (hf:fnd es i (ap x i)=none):sfP N (idT N (trE es)) (N - i) x=(i,x):=by
 obtain ⟨d,e⟩:∃ d,N - i=d+1:=⟨N - i - 1,by omega⟩
 have e3:N - (d+1)=i:=by omega
 rw [e,Cm.sfP_none (by rw [e3,idT_at h,hf]; rfl),e3]
theorem sfP_yes {es:List En} {N i:Nat} {x:List Nat} {e0:En} (hi:i<N) (h:ap x i≠i) (hf:fnd es i (ap x i)=some e0):sfP N (idT N (trE es)) (N - i) x=sfP N (idT N (trE es)) (N - (i+1)) (Ma.mulN x (Ma.invN e0.x)):=by
 obtain ⟨d,e⟩:∃ d,N - i=d+1:=⟨N - i - 1,by omega⟩
 have e2:N - (i+1)=d:=by omega
 have e3:N - (d+1)=i:=by omega
 rw [e,e2,Cm.sfP_some (u:=e0.x) (by rw [e3,idT_at h,hf]; rfl)]
theorem usE_len (es:List En) (N:Nat):∀ d x,(usE es N d x).length≤d
 | 0,_=>Nat.le_refl _
 | d+1,x=>by
  unfold usE
  split
  ·exact Nat.le_succ_of_le (usE_len es N d x)
  ·split
   ·exact Nat.zero_le _
   ·exact Nat.succ_le_succ (usE_len es N d _)
theorem usE_mem {es:List En} {N:Nat}:∀ {d:Nat} {x:List Nat} {e:En},e∈usE es N d x→e∈es
 | 0,_,e,h=>by cases h
 | d+1,x,e,h=>by
  unfold usE at h
  split at h
  ·exact usE_mem h
  ·split at h
   ·cases h
   ·rename_i e0 hf
    rcases List.mem_cons.1 h with h | h
    ·rw [h]; exact (fnd_mem hf).1
    ·exact usE_mem h
theorem usE_val {es:List En} {N:Nat} (hg:∀ e∈es,Gd N e.x):∀ {d:Nat} {x:List Nat},d≤N→Gd N x→(sfP N (idT N (trE es)) d x).2=(usE es N d x).foldl (fun y e=>Ma.mulN y (Ma.invN e.x)) x
 | 0,x,_,_=>rfl
 | d+1,x,hd,gx=>by
  have hi:N - (d+1)<N:=by omega
  have e1:N - (N - (d+1))=d+1:=by omega
  have e2:N - (N - (d+1)+1)=d:=by omega
  by_cases h:ap x (N - (d+1))=N - (d+1)
  ·have q1:=sfP_eq (es:=es) hi gx h
   have q2:=usE_eq (es:=es) hi h;rw [e1,e2] at q1 q2;rw [q1,q2];exact usE_val hg (by omega) gx
  ·cases hf:fnd es (N - (d+1)) (ap x (N - (d+1))) with
   | none =>
    have q1:=sfP_no hi h hf;have q2:=usE_none hi h hf;rw [e1] at q1 q2;rw [q1,q2]; rfl
   | some e0 =>
    have q1:=sfP_yes hi h hf;have q2:=usE_some hi h hf;rw [e1,e2] at q1 q2;rw [q1,q2];exact usE_val hg (by omega) (Cm.gd_mul gx (Cm.gd_inv (hg _ (fnd_mem hf).1)))
theorem fold_back {N:Nat}:∀ (l:List En) (x:List Nat),(∀ e∈l,Gd N e.x)→Gd N x→l.foldl (fun y e=>Ma.mulN y (Ma.invN e.x)) x=Ma.oneN N→x=l.reverse.foldl (fun y e=>Ma.mulN y e.x) (Ma.oneN N)
 | [],x,_,_,h=>h
 | e :: l,x,hl,gx,h=>by
  have ge:=hl e (List.mem_cons_self ..);have ih:=fold_back l (Ma.mulN x (Ma.invN e.x)) (fun z hz=>hl z (List.mem_cons_of_mem _ hz)) (Cm.gd_mul gx (Cm.gd_inv ge)) h;rw [List.reverse_cons,List.foldl_append,← ih];exact (Cm.mul_inv_cancel gx ge).symm
structure Tb (N:Nat) (gs:List (List Nat)) (S:List Stp) (T:List (List Nat)) (es:List En):Prop where
 sk:Mk N gs S T
 en:∀ e∈es,EnOk N T e
 ok:TabOk N (·∈gs) (trE es)
 nk:(es.map fun e=>(e.i,e.p)).Nodup
theorem fnd_of {es:List En} (h:(es.map fun e=>(e.i,e.p)).Nodup) {e:En} (he:e∈es):fnd es e.i e.p=some e:=by
 induction es with
 | nil=>cases he
 | cons a es ih =>
  rw [List.map_cons,List.nodup_cons] at h;unfold fnd
  rcases List.mem_cons.1 he with rfl | he
  ·rw [List.find?_cons_of_pos (by simp)]
  ·rw [List.find?_cons_of_neg]
   ·exact ih h.2 he
   ·intro q
    have q:=eq_of_beq q;exact h.1 (List.mem_map.2 ⟨e,he,q⟩)
theorem Tb.le {N:Nat} {gs:List (List Nat)} {S:List Stp} {T:List (List Nat)} {es:List En} (h:Tb N gs S T es) (hg:∀ s,s∈gs→Sd N (idT N (trE es)) N s):LE N (·∈gs) (trE es) (es.map (·.x)):=by
 have key:∀ e∈es,trE es e.i e.p=some e.x:=fun e he=>by unfold trE; rw [fnd_of h.nk he]; rfl
 refine ⟨h.ok,fun x hx=>?_,fun x hx=>?_,?_,hg⟩
 ·obtain ⟨e,he,rfl⟩:=List.mem_map.1 hx
  have:=key e he;obtain ⟨h1,h2⟩:=h.ok.lt _ _ _ this;exact mem_ents.2 ⟨e.i,e.p,h1,h2,this⟩
 ·obtain ⟨i,p,hi,hp,e⟩:=mem_ents.1 hx
  unfold trE at e;obtain ⟨e0,h1,h2⟩:=Option.map_eq_some_iff.1 e;rw [← h2]; exact List.mem_map_of_mem (fnd_mem h1).1
 ·rw [List.Nodup,List.pairwise_map]
  have:=h.nk;rw [List.Nodup,List.pairwise_map] at this;refine List.Pairwise.imp_of_mem (fun {a b} ha hb hne e=>hne ?_) this;have h1:=key a ha;have h2:=key b hb;rw [← e] at h2;obtain ⟨q1,q2⟩:=tab_inj h.ok h1 h2;exact Prod.ext q1 q2
theorem Tb.few {N:Nat} {gs:List (List Nat)} {S:List Stp} {T:List (List Nat)} {es:List En} (h:Tb N gs S T es):es.length≤N*N:=by
 have key:∀ e∈es,trE es e.i e.p=some e.x:=fun e he=>by unfold trE; rw [fnd_of h.nk he]; rfl
 have h1:=nodup_le (l:=es.map fun e=>(e.i,e.p)) (m:=(List.range N).flatMap fun i=>(List.range N).map fun p=>(i,p)) h.nk fun x hx=>by
  obtain ⟨e,he,rfl⟩:=List.mem_map.1 hx;obtain ⟨h1,h2⟩:=h.ok.lt _ _ _ (key e he);exact List.mem_flatMap.2 ⟨e.i,List.mem_range.2 h1,List.mem_map.2 ⟨e.p,List.mem_range.2 h2,rfl⟩⟩
 have h2:∀ l:List Nat,(l.flatMap fun i=>(List.range N).map fun p=>(i,p)).length=l.length*N:=by
  intro l
  induction l with
  | nil=>simp
  | cons a l ih=>rw [List.flatMap_cons,List.length_append,ih,List.length_map,List.length_range,List.length_cons,Nat.succ_mul,Nat.add_comm]
 rw [h2,List.length_map,List.length_range] at h1;exact h1
theorem Tb.grow {N:Nat} {gs:List (List Nat)} {S S':List Stp} {T T':List (List Nat)} {es:List En} (h:Tb N gs S T es) (hm:Mk N gs S' T') (hT:T <+: T'):Tb N gs S' T' es :=
 ⟨hm,fun e he=>(h.en e he).mono hT,h.ok,h.nk⟩
theorem Tb.setBy {N:Nat} {gs:List (List Nat)} {S:List Stp} {T:List (List Nat)} {es:List En} (h:Tb N gs S T es) {b k:Nat} (hk:∀ e∈es,e.b=b→T[k]?=some (Ma.invN e.x)):Tb N gs S T (setBy es b ((k:Nat):Int)):=by
 refine ⟨h.sk,fun e he=>?_,by rw [setBy_tr]; exact h.ok,by rw [setBy_key]; exact h.nk⟩;unfold Go.Proofs.YtdnmmibchbceeaaGreat.setBy at he;obtain ⟨e0,h0,rfl⟩:=List.mem_map.1 he;have h1:=h.en e0 h0
 split
 ·rename_i hb
  exact ⟨h1.gd,h1.fx,h1.ap_,h1.lt,h1.ne,h1.at_,.inr ⟨k,rfl,hk e0 h0 hb⟩⟩
 ·exact h1
theorem Tb.put {N:Nat} {gs:List (List Nat)} (hg:∀ s∈gs,Gd N s) {S:List Stp} {T:List (List Nat)} {es:List En} (h:Tb N gs S T es) {x:List Nat} (hx:Gr N (·∈gs) x) {i:Nat} {y:List Nat} (hA:sfP N (idT N (trE es)) N x=(i,y)) (hi:i<N) {b k:Nat} (hk:T[k]?=some y) :
  Tb N gs S T (es++[⟨b,i,ap y i,y,k,-1⟩])∧(∀ j q u,idT N (trE es) j q=some u→idT N (trE (es++[⟨b,i,ap y i,y,k,-1⟩])) j q=some u)∧Sd N (idT N (trE (es++[⟨b,i,ap y i,y,k,-1⟩]))) N x:=by
 have gx:=(Gr.isG hg).gd x hx;obtain ⟨a1,_,a3,a4,a5⟩:=Cm.sfP_all h.ok.rp (Nat.le_refl N) (by omega) gx (fun j hj=>absurd hj (by omega));obtain ⟨b1,b2,b3,_⟩:=tab_ins hg h.ok hx;rw [hA] at a1 a3 a4 a5 b1 b2 b3;have a5:=a5 hi
 have hne:ap y i≠i:=fun e=>by rw [e,Cm.idT_self] at a5; cases a5
 have hno:fnd es i (ap y i)=none:=by
  rw [idT_at hne] at a5;exact Option.map_eq_none_iff.1 a5
 have ht:trE (es++[⟨b,i,ap y i,y,k,-1⟩])=insT N (trE es) (i,y):=by
  rw [trE_snoc (e:=⟨b,i,ap y i,y,k,-1⟩) hno];unfold insT;rw [if_pos hi]
 rw [ht];refine ⟨⟨h.sk,fun e he=>?_,by rw [ht]; exact b1,?_⟩,b2,b3⟩
 ·rcases List.mem_append.1 he with he | he
  ·exact h.en e he
  ·rw [List.mem_singleton] at he; subst he
   exact ⟨a3,a4,rfl,hi,hne,hk,.inl rfl⟩
 ·rw [List.map_append,List.map_singleton]
  refine List.nodup_append.2 ⟨h.nk,by simp,fun a ha b hb e=>?_⟩;rw [List.mem_singleton] at hb;subst hb;obtain ⟨e0,h0,h1⟩:=List.mem_map.1 ha;rw [e] at h1
  injection h1 with h1 h2
  have:=fnd_of h.nk h0;rw [h1,h2,hno] at this
  cases this
theorem Tb.same {N:Nat} {gs:List (List Nat)} (hg:∀ s∈gs,Gd N s) {S:List Stp} {T:List (List Nat)} {es:List En} (h:Tb N gs S T es) {x:List Nat} (hx:Gr N (·∈gs) x) (hA:¬ (sfP N (idT N (trE es)) N x).1<N):Sd N (idT N (trE es)) N x:=by
 obtain ⟨_,_,b3,_⟩:=tab_ins hg h.ok hx;unfold insT at b3
 rwa [if_neg hA] at b3
theorem sfP_grp {n:Nat} {H:List Nat→Prop} (hH:IsG n H) {tr:Tr} (ht:IsTr n H tr) {x:List Nat} (gx:Gd n x):(sfP n tr n x).1=n↔H x:=by
 constructor
 ·intro e
  have key:∀ d x,d≤n→Gd n x→(sfP n tr d x).1=n→H (sfP n tr d x).2→H x:=by
   intro d
   induction d with
   | zero=>intro x _ _ _ h; exact h
   | succ d ih =>
    intro x hd gx he hx
    cases hu:tr (n - (d+1)) (ap x (n - (d+1))) with
    | none =>
     rw [Cm.sfP_none hu] at he;simp at he;omega
    | some u =>
     rw [Cm.sfP_some hu] at he hx;have hmu:=ht.mem _ _ _ (by omega) hu;have gu:=hH.gd u hmu;have:=ih _ (by omega) (Cm.gd_mul gx (Cm.gd_inv gu)) he hx;have h2:=hH.mul _ _ this hmu
     rwa [Cm.mul_inv_cancel gx gu] at h2
  have hone:(sfP n tr n x).2=Ma.oneN n:=by
   have h1:=Cm.sfP_all ht.rp (d:=n) (x:=x) (Nat.le_refl _) (Nat.zero_le _) gx (by rw [Nat.sub_self]; intro j hj; omega);refine Fx.all h1.2.2.1 ?_;have h2:=h1.2.2.2.1;have e2:(sfP n tr n x).1=n:=e
   rwa [e2] at h2
  exact key n x (Nat.le_refl _) gx e (by rw [hone]; exact hH.one)
 ·intro hx
  have key:∀ d x,d≤n→St H (n - d) x→(sfP n tr d x).1=n:=by
   intro d
   induction d with
   | zero=>intro x _ _; rfl
   | succ d ih =>
    intro x hd hx;obtain ⟨u,hu⟩:=ht.all (n - (d+1)) x (by omega) hx;rw [Cm.sfP_some hu];have gx:=hH.gd x hx.1;have hs:=Cm.step_fx ht.rp (Nat.zero_le _) (by omega) gx hx.2 hu;refine ih _ (by omega) ⟨hH.mul _ _ hx.1 (hH.inv _ (ht.mem _ _ _ (by omega) hu)),?_⟩;rw [show n - d=n - (d+1)+1 by omega];exact hs.2
  exact key n x (Nat.le_refl _) ⟨hx,by rw [Nat.sub_self]; intro j hj; omega⟩
theorem Tb.prod {N:Nat} {gs:List (List Nat)} {S:List Stp} {T:List (List Nat)} {es:List En} (h:Tb N gs S T es) {x:List Nat} (gx:Gd N x) (hA:(sfP N (idT N (trE es)) N x).1=N):x=(usE es N N x).reverse.foldl (fun y e=>Ma.mulN y e.x) (Ma.oneN N):=by
 have hg:∀ e∈es,Gd N e.x:=fun e he=>(h.en e he).gd;refine fold_back _ _ (fun e he=>hg e (usE_mem he)) gx ?_;rw [← usE_val hg (Nat.le_refl _) gx];have h1:=Cm.sfP_all h.ok.rp (d:=N) (x:=x) (Nat.le_refl _) (Nat.zero_le _) gx (by rw [Nat.sub_self]; intro j hj; omega);refine Fx.all h1.2.2.1 ?_;have h2:=h1.2.2.2.1
 rwa [hA] at h2
end Go.Proofs.YtdnmmibchbceeaaGreat

namespace Go.Proofs.YtdnmmibchbceeaaGreat
open Go.RowKit
open Go.Proofs
open Go.Proofs.Ob
open Go.Proofs.Cm (Gd)
attribute [local irreducible] Go.Calls
structure Gw (F M:Nat→Prop) (w:World) (F' M':Nat→Prop) (w':World):Prop where
 kg:KG F w F' w'
 kp:Rg.Kp M w w'
 nF:∀ k,F' k→F k∨w.heap.size≤k
 nM:∀ k,M' k→M k∨w.heap.size≤k
theorem Gw.refl {F M:Nat→Prop} {w:World} (h:∀ k,F k→k<w.heap.size):Gw F M w F M w:=⟨KG.refl h,Rg.Kp.refl _ _,fun _=>.inl,fun _=>.inl⟩
theorem Gw.trans {F M F' M' F'' M'':Nat→Prop} {w w' w'':World} (h:Gw F M w F' M' w') (h':Gw F' M' w' F'' M'' w''):Gw F M w F'' M'' w'':=by
 have hs:=h.kp.size;refine ⟨h.kg.trans h'.kg,Rg.Kp.trans h.kp h'.kp (fun k hk hm=>?_),fun k hk=>?_,fun k hk=>?_⟩
 ·rcases h.nM k hm with e | e
  ·exact e
  ·omega
 ·rcases h'.nF k hk with e | e
  ·exact h.nF k e
  ·exact .inr (by omega)
 ·rcases h'.nM k hk with e | e
  ·exact h.nM k e
  ·exact .inr (by omega)
theorem Gw.up {F M F' M':Nat→Prop} {w w' w'':World} (h:Gw F M w F' M' w') (hb:Below w'.heap.size w' w''):Gw F M w (Fup F' w' w'') M' w'':=by
 have hs:=h.kp.size;refine ⟨h.kg.up hb,Rg.Kp.trans (M:=M) h.kp (Rg.Kp.of_below (M:=M) hb) (fun _ _ e=>e),fun k hk=>?_,h.nM⟩
 rcases hk with hk | hk
 ·exact h.nF k hk
 ·exact .inr (by omega)
theorem Gw.put {F M M':Nat→Prop} {w w':World} (hF:∀ k,F k→k<w.heap.size∧¬ M k) (hk:Rg.Kp M w w') (hM:∀ k,M' k→M k∨w.heap.size≤k):Gw F M w F M' w' :=
 ⟨(KG.refl fun k h=>(hF k h).1).kf' (hk.weak fun k hm hf=>(hF k hf).2 hm),hk,fun _=>.inl,hM⟩
structure RwI (F M:Nat→Prop) (W:World) (v:Value) (l:List Int):Prop where
 own:∃ B,B≤W.heap.size∧W.ownsRow B 3 1 v l.length (l.map (Value.int .i64))
 off:∀ k,v.ownBlock=some k→¬ F k∧¬ M k∧k<W.heap.size
theorem RwI.gw {F M F' M':Nat→Prop} {w w':World} {v:Value} {l:List Int} (h:RwI F M w v l) (hg:Gw F M w F' M' w'):RwI F' M' w' v l:=by
 obtain ⟨B,h0,h1⟩:=h.own;refine ⟨⟨B,Nat.le_trans h0 hg.kp.size,rowKp h1 hg.kp (fun k hm e=>(h.off k e).2.1 hm)⟩,fun k e=>?_⟩;obtain ⟨a,b,c⟩:=h.off k e;refine ⟨fun hf=>?_,fun hm=>?_,Nat.lt_of_lt_of_le c hg.kp.size⟩
 ·rcases hg.nF k hf with q | q
  ·exact a q
  ·omega
 ·rcases hg.nM k hm with q | q
  ·exact b q
  ·omega
theorem RwI.up {F M:Nat→Prop} {w w':World} {v:Value} {l:List Int} (h:RwI F M w v l) (hb:Below w.heap.size w w'):RwI (Fup F w w') M w' v l:=by
 obtain ⟨B,h0,h1⟩:=h.own;refine ⟨⟨B,Nat.le_trans h0 hb.size,Rg.row_below h1 hb⟩,fun k e=>?_⟩;obtain ⟨a,b,c⟩:=h.off k e;refine ⟨fun hf=>?_,b,Nat.lt_of_lt_of_le c hb.size⟩
 rcases hf with hf | hf
 ·exact a hf
 ·omega
theorem RwI.shape {F M:Nat→Prop} {w:World} {v:Value} {l:List Int} (h:RwI F M w v l):∃ a c,v=.slice a l.length c:=by
 obtain ⟨B,h0,h1⟩:=h.own;exact Rg.row_shape h1
theorem RwI.push {F M:Nat→Prop} {W:World} {v:Value} {l:List Int} (h:RwI F M W v l) (hF:∀ k,F k→k<W.heap.size) (hM:∀ k,M k→k<W.heap.size) (x:Int) (hn:l.length<1000000) (ty:TypeId) :
  ∃ a c X,(Builtin.append_ #[25,25] ty #[v,.slice (some ⟨W.heap.size,0,none⟩) 1 1]).run Tryz.prog (W.alloc (.cells #[.int .i64 x] 3))=.ok (.slice a (l.length+1) c) X∧RwI F M X (.slice a (l.length+1) c) (l++[x])∧Rg.Kp (fun k=>v.ownBlock=some k) W X∧(∀ k,(Value.slice a (l.length+1) c).ownBlock=some k→v.ownBlock=some k∨W.heap.size≤k):=by
 obtain ⟨B,h0,h1⟩:=h.own;have hb:Below W.heap.size W (W.alloc (.cells #[.int .i64 x] 3)):=(Below.refl _ _).alloc (Nat.le_refl _) _
 have e2:(W.alloc (.cells #[.int .i64 x] 3)).heap.size=W.heap.size+1:=by simp
 have c0:(W.alloc (.cells #[.int .i64 x] 3)).cell? ⟨W.heap.size,0,none⟩=some (.int .i64 x):=by rw [Rg.cellNew]; rfl
 have h':=Rg.row_below h1 hb;generalize W.alloc (.cells #[.int .i64 x] 3)=W1 at *;obtain ⟨v',X,r1,r2,r3,r4,a,c,rfl⟩:=app_run (P:=Tryz.prog) slInts ty h' (by omega) W.heap.size 1 (u:=.int .i64 x) c0 rfl hn;have hk:Rg.Kp (fun k=>v.ownBlock=some k) W X:=Rg.Kp.trans (M:=fun k=>v.ownBlock=some k) ((Rg.Kp.of_below hb).weak fun _=>False.elim) (Rg.Kp.of_grown r3 fun _ e=>e) (fun _ _ e=>e)
 refine ⟨a,c,X,r1,⟨⟨B,Nat.le_trans h0 hk.size,by rw [List.length_append,List.map_append]; exact r2⟩,fun k e=>?_⟩,hk,fun k e=>by
  rcases r4 with r4 | r4
  ·exact .inl (by rw [← r4]; exact e)
  ·rw [r4] at e
   injection e with e
   exact .inr (by omega)⟩
 have hlt:=(World.ownsRow.lt r2 k e).2
 rcases r4 with r4 | r4
 ·obtain ⟨q1,q2,_⟩:=h.off k (by rw [← r4]; exact e)
  exact ⟨q1,q2,hlt⟩
 ·rw [r4] at e
  injection e with e
  exact ⟨fun hf=>by have:=hF k hf; omega,fun hm=>by have:=hM k hm; omega,hlt⟩
theorem RwI.ints {F M:Nat→Prop} {w:World} {v:Value} {l:List Int} (h:RwI F M w v l) (hl:l.length≤1000000000):Rg.Ints w v l:=by
 obtain ⟨B,h0,h1⟩:=h.own;exact Rg.Ints.of_row h1 hl
def flat3 (S:List Stp):List Value:=S.flatMap fun s=>[.int .i64 s.1,.int .i64 s.2.1,.int .i64 s.2.2]
theorem flat3_snoc (S:List Stp) (s:Stp):flat3 (S++[s])=flat3 S++[.int .i64 s.1,.int .i64 s.2.1,.int .i64 s.2.2]:=by unfold flat3; rw [List.flatMap_append]; simp
theorem flat3_at (S:List Stp):∀ (i:Nat) (h:i<S.length),(flat3 S)[i*3]?=some (.int .i64 S[i].1)∧(flat3 S)[i*3+1]?=some (.int .i64 S[i].2.1)∧(flat3 S)[i*3+2]?=some (.int .i64 S[i].2.2):=by
 induction S with
 | nil=>intro i h; cases h
 | cons z S ih =>
  intro i h;have e:flat3 (z :: S)=[.int .i64 z.1,.int .i64 z.2.1,.int .i64 z.2.2]++flat3 S:=rfl
  cases i with
  | zero=>rw [e]; exact ⟨rfl,rfl,rfl⟩
  | succ i =>
   have:=ih i (by simpa using h);rw [e,List.getElem?_append_right (by simp; omega),List.getElem?_append_right (by simp; omega),List.getElem?_append_right (by simp; omega)]
   have e1:(i+1)*3 - [Value.int .i64 z.1,.int .i64 z.2.1,.int .i64 z.2.2].length=i*3:=by simp; omega
   have e2:(i+1)*3+1 - [Value.int .i64 z.1,.int .i64 z.2.1,.int .i64 z.2.2].length=i*3+1:=by simp; omega
   have e3:(i+1)*3+2 - [Value.int .i64 z.1,.int .i64 z.2.1,.int .i64 z.2.2].length=i*3+2:=by simp; omega
   rw [e1,e2,e3];exact this
def Own3 (B:Nat) (w:World) (v:Value) (S:List Stp):Prop:=w.ownsRow B 51 3 v S.length (flat3 S)
theorem Own3.nil (B:Nat) (w:World):Own3 B w (.slice none 0 0) []:=World.ownsRow_nil _ _ _ _
theorem Own3.shape {B:Nat} {w:World} {v:Value} {T:List Stp} (h:Own3 B w v T):∃ a c,v=.slice a T.length c∧T.length≤c:=by
 obtain ⟨_,h2⟩:=h
 rcases h2 with ⟨h3,h4⟩ | ⟨g,cap,cur,h3,_,_,h5,_⟩
 ·exact ⟨none,0,by rw [h3,h4],by omega⟩
 ·exact ⟨_,cap,h3,h5⟩
theorem Own3.lt {B:Nat} {w:World} {v:Value} {T:List Stp} (h:Own3 B w v T):∀ k,v.ownBlock=some k→B≤k∧k<w.heap.size:=fun k e=>World.ownsRow.lt h k e
theorem Own3.kp {M:Nat→Prop} {B:Nat} {w w':World} {v:Value} {T:List Stp} (h:Own3 B w v T) (hk:Rg.Kp M w w') (hM:∀ k,M k→v.ownBlock≠some k):Own3 B w' v T:=rowKp h hk hM
theorem Own3.at {B:Nat} {w:World} {v:Value} {T:List Stp} (h:Own3 B w v T) {i:Nat} (hi:i<T.length):∃ g c,v=.slice (some ⟨g,0,none⟩) T.length c∧g<w.heap.size∧w.cell? ⟨g,i*3,none⟩=some (.int .i64 T[i].1)∧w.cell? ⟨g,i*3+1,none⟩=some (.int .i64 T[i].2.1)∧w.cell? ⟨g,i*3+2,none⟩=some (.int .i64 T[i].2.2):=by
 obtain ⟨h1,h2⟩:=h
 rcases h2 with ⟨h3,h4⟩ | ⟨g,cap,cur,h3,hB,hc,h5,h6,h7,h8⟩
 ·omega
 ·have hl:cur.toList.take (T.length*3)=flat3 T:=h8
  obtain ⟨q1,q2,q3⟩:=flat3_at T i hi;refine ⟨g,cap,h3,(Array.getElem?_eq_some_iff.1 hc).1,?_,?_,?_⟩
  ·rw [cell_of_row w _ _ _ _ _ hc,← Array.getElem?_toList,← q1,← hl,List.getElem?_take_of_lt (by omega)]
  ·rw [cell_of_row w _ _ _ _ _ hc,← Array.getElem?_toList,← q2,← hl,List.getElem?_take_of_lt (by omega)]
  ·rw [cell_of_row w _ _ _ _ _ hc,← Array.getElem?_toList,← q3,← hl,List.getElem?_take_of_lt (by omega)]
theorem Own3.sta {B:Nat} {w:World} {v:Value} {T:List Stp} (h:Own3 B w v T):StA w v T:=by
 obtain ⟨a,c,hs,hc⟩:=h.shape;refine ⟨a,c,hs,fun h0=>?_⟩;obtain ⟨g,c',e,hg,_⟩:=h.at h0;rw [hs] at e;simp only [Value.slice.injEq,true_and] at e;obtain ⟨rfl,rfl⟩:=e;refine ⟨g,0,rfl,hg,fun i hi=>?_⟩;obtain ⟨g',c',e,_,h1,h2⟩:=h.at hi;rw [hs] at e;simp only [Value.slice.injEq,Option.some.injEq,Addr.mk.injEq,and_true,true_and] at e;obtain ⟨rfl,rfl⟩:=e;rw [Nat.zero_add];exact ⟨h1,h2⟩
theorem run_build1St (X:World) (a b c:Int):(Instr.buildSlice 36 1 #[(0,.agg #[.int .i64 a,.int .i64 b,.int .i64 c])]).run Tryz.prog X=.ok (.slice (some ⟨X.heap.size,0,none⟩) 1 1) (X.alloc (.cells #[.int .i64 a,.int .i64 b,.int .i64 c] 51)):=by
 obtain ⟨i0,hi,hz0,hz1,hz2⟩:=info_parts infoSt;refine run_buildSlice X 36 51 1 _ _ i0 _ Tryz.underlying36 hi hz0 (by rw [hz1]; decide) (by rw [hz1]; decide) ?_;generalize (fun x=>((Value.agg #[.int .i64 0,.int .i64 0,.int .i64 0]).cells)[x % (Value.agg #[.int .i64 0,.int .i64 0,.int .i64 0]).cells.size]!)=f;rw [hz1];have h1:Array.range (1*3)=#[0,1,2]:=rfl;simp [Instr.fill,Value.cells,h1]
theorem Own3.push {B:Nat} {W:World} {v:Value} {T:List Stp} (h:Own3 B W v T) (hB:B≤W.heap.size) (z:Stp) (hn:T.length<1000000) (ty:TypeId) :
  ∃ a c X,(Builtin.append_ #[36,36] ty #[v,.slice (some ⟨W.heap.size,0,none⟩) 1 1]).run Tryz.prog (W.alloc (.cells #[.int .i64 z.1,.int .i64 z.2.1,.int .i64 z.2.2] 51))=.ok (.slice a (T.length+1) c) X∧Own3 B X (.slice a (T.length+1) c) (T++[z])∧Rg.Kp (fun k=>v.ownBlock=some k) W X∧(∀ k,(Value.slice a (T.length+1) c).ownBlock=some k→v.ownBlock=some k∨W.heap.size≤k):=by
 have hb:Below W.heap.size W (W.alloc (.cells #[.int .i64 z.1,.int .i64 z.2.1,.int .i64 z.2.2] 51)):=(Below.refl _ _).alloc (Nat.le_refl _) _;obtain ⟨i0,hi,hz0,hz1,hz2⟩:=info_parts infoSt;have h':=Rg.row_below h hb
 have e2:(W.alloc (.cells #[.int .i64 z.1,.int .i64 z.2.1,.int .i64 z.2.2] 51)).heap.size=W.heap.size+1:=by simp
 have c0:(W.alloc (.cells #[.int .i64 z.1,.int .i64 z.2.1,.int .i64 z.2.2] 51)).cell? ⟨W.heap.size,0,none⟩=some (.int .i64 z.1):=by rw [Rg.cellNew]; rfl
 have c1:(W.alloc (.cells #[.int .i64 z.1,.int .i64 z.2.1,.int .i64 z.2.2] 51)).cell? ⟨W.heap.size,1,none⟩=some (.int .i64 z.2.1):=by rw [Rg.cellNew]; rfl
 have c2:(W.alloc (.cells #[.int .i64 z.1,.int .i64 z.2.1,.int .i64 z.2.2] 51)).cell? ⟨W.heap.size,2,none⟩=some (.int .i64 z.2.2):=by rw [Rg.cellNew]; rfl
 generalize W.alloc (.cells #[.int .i64 z.1,.int .i64 z.2.1,.int .i64 z.2.2] 51)=W1 at *
 obtain ⟨v',X,hr,h2,h3,h4,h5⟩:=run_append_own_at (P:=Tryz.prog) W1 B 36 ty 51 i0 (.agg #[.int .i64 0,.int .i64 0,.int .i64 0]) 3 24 Tryz.underlying36 hi hz0 hz1 hz2 rfl (by decide) v T.length (flat3 T) h' ⟨W.heap.size,0,none⟩ 1 1 [.int .i64 z.1,.int .i64 z.2.1,.int .i64 z.2.2] rfl (fun j x hj=>by
  match j,hj with
  | 0,hj=>simp at hj; subst hj; exact c0
  | 1,hj=>simp at hj; subst hj; exact c1
  | 2,hj=>simp at hj; subst hj; exact c2) (by simp [Value.oneCell']) (by unfold maxLen; omega) (by omega) (by omega)
 have hs2:Own3 B X v' (T++[z]):=by
  unfold Own3;rw [flat3_snoc,List.length_append];exact h2
 obtain ⟨a,c,hs,hc⟩:=hs2.shape;rw [List.length_append,List.length_singleton] at hs hc;subst hs;refine ⟨a,c,X,hr,hs2,Rg.Kp.trans (M:=fun k=>v.ownBlock=some k) ((Rg.Kp.of_below hb).weak fun _=>False.elim) (Rg.Kp.of_grown h3 fun _ e=>e) (fun _ _ e=>e),fun k e=>?_⟩
 rcases h5 with h5 | h5
 ·exact .inl (by rw [← h5]; exact e)
 ·rw [h5] at e
  injection e with e
  exact .inr (by omega)
structure Cw (W:World) (b o:Nat) (v:Value):Prop where
 c:W.cell? ⟨b,o,none⟩=some v
 f:W.frozen? ⟨b,o,none⟩=false
 lt:b<W.heap.size
theorem frozen_of_block {w w':World} {b o:Nat} (h:w'.heap[b]?=w.heap[b]?):w'.frozen? ⟨b,o,none⟩=w.frozen? ⟨b,o,none⟩:=by
 simp only [World.frozen?,h]
theorem Cw.kp {M:Nat→Prop} {w w':World} {b o:Nat} {v:Value} (h:Cw w b o v) (hk:Rg.Kp M w w') (hM:¬ M b):Cw w' b o v:=by
 have e:=hk.block b h.lt hM;exact ⟨(World.cell?_of_block (a:=⟨b,o,none⟩) e).trans h.c,(frozen_of_block e).trans h.f,Nat.lt_of_lt_of_le h.lt hk.size⟩
theorem Cw.set {w:World} {b o:Nat} {v:Value} (h:Cw w b o v) (u:Value):Cw (w.setCell ⟨b,o,none⟩ u) b o u :=
 ⟨World.cell?_setCell_same (h:=h.c) ..,by rw [World.frozen?_setCell]; exact h.f,by rw [World.setCell]; simpa using h.lt⟩
theorem Cw.other {w:World} {b o b2 o2:Nat} {v:Value} (h:Cw w b o v) (u:Value) (hne:b≠b2∨o≠o2):Cw (w.setCell ⟨b2,o2,none⟩ u) b o v :=
 ⟨(World.cell?_setCell_other (h:=by intro e; injection e with e1 e2; omega) ..).trans h.c,by rw [World.frozen?_setCell]; exact h.f,by rw [World.setCell]; simpa using h.lt⟩
structure EnAt (F:Nat→Prop) (W:World) (e:En) (xv yv:Value):Prop where
 c0:Cw W e.b 0 xv
 c1:Cw W e.b 1 yv
 c2:Cw W e.b 2 (.int .i64 ((e.at_:Nat):Int))
 c3:Cw W e.b 3 (.int .i64 e.by_)
 x:FP F W xv e.x
 y:FP F W yv (Ma.invN e.x)
theorem EnAt.kp {F M:Nat→Prop} {w w':World} {e:En} {xv yv:Value} (h:EnAt F w e xv yv) (hk:Rg.Kp M w w') (hM:¬ M e.b) (hF:∀ k,F k→¬ M k):EnAt F w' e xv yv :=
 ⟨h.c0.kp hk hM,h.c1.kp hk hM,h.c2.kp hk hM,h.c3.kp hk hM,Rg.FI.kp h.x hk hF,Rg.FI.kp h.y hk hF⟩
theorem EnAt.mono {F F':Nat→Prop} {w:World} {e:En} {xv yv:Value} (h:EnAt F w e xv yv) (hF:∀ k,F k→F' k):EnAt F' w e xv yv:=⟨h.c0,h.c1,h.c2,h.c3,h.x.mono hF,h.y.mono hF⟩
abbrev enP (e:En):Value:=.pointer (some ⟨e.b,0,none⟩)
def tbS (tb mb:Nat) (es:List En) (sv lv:Value) (k:Nat):Prop:=k=tb∨k=mb∨sv.ownBlock=some k∨lv.ownBlock=some k∨∃ e∈es,e.b=k
structure Ds (tb mb:Nat) (es:List En) (sv lv:Value):Prop where
 tm:tb≠mb
 st:sv.ownBlock≠some tb
 sm:sv.ownBlock≠some mb
 lt:lv.ownBlock≠some tb
 lm:lv.ownBlock≠some mb
 sl:∀ k,sv.ownBlock=some k→lv.ownBlock≠some k
 et:∀ e∈es,e.b≠tb
 em:∀ e∈es,e.b≠mb
 es_:∀ e∈es,sv.ownBlock≠some e.b
 el:∀ e∈es,lv.ownBlock≠some e.b
 nb:(es.map (·.b)).Nodup
structure TbM (B:Nat) (F:Nat→Prop) (tb mb N:Nat) (W:World) (S:List Stp) (nx:Nat) (es ms ls:List En) (sv lv:Value):Prop where
 Flt:∀ k,F k→k<W.heap.size
 h0:Cw W tb 0 sv
 h1:Cw W tb 1 (.int .i64 ((nx:Nat):Int))
 h2:Cw W tb 2 (.int .i64 ((N:Nat):Int))
 h3:Cw W tb 3 (.map (some mb))
 h4:Cw W tb 4 lv
 st:Own3 B W sv S
 ls:W.ownsRow B 110 1 lv ls.length (ls.map enP)
 mp:Jm.KMap W mb (ms.map fun e=>((e.i,e.p),enP e))
 en:∀ e∈es,∃ xv yv,EnAt F W e xv yv
 nF:∀ k,F k→¬ tbS tb mb es sv lv k
 ds:Ds tb mb es sv lv
 sz:B≤W.heap.size
theorem TbM.Mlt {B:Nat} {F:Nat→Prop} {tb mb N:Nat} {W:World} {S:List Stp} {nx:Nat} {es ms ls:List En} {sv lv:Value} (h:TbM B F tb mb N W S nx es ms ls sv lv):∀ k,tbS tb mb es sv lv k→k<W.heap.size:=by
 rintro k (rfl | rfl | e | e | ⟨e,he,rfl⟩)
 ·exact h.h0.lt
 ·exact h.mp.lt
 ·exact (h.st.lt k e).2
 ·exact (World.ownsRow.lt h.ls k e).2
 ·obtain ⟨xv,yv,q⟩:=h.en e he
  exact q.c0.lt
theorem TbM.kp {M:Nat→Prop} {B:Nat} {F:Nat→Prop} {tb mb N:Nat} {W W':World} {S:List Stp} {nx:Nat} {es ms ls:List En} {sv lv:Value} (h:TbM B F tb mb N W S nx es ms ls sv lv) (hk:Rg.Kp M W W') (hM:∀ k,M k→¬ tbS tb mb es sv lv k) (hF:∀ k,F k→¬ M k):TbM B F tb mb N W' S nx es ms ls sv lv:=by
 have ht:¬ M tb:=fun e=>hM _ e (.inl rfl);refine ⟨fun k hf=>Nat.lt_of_lt_of_le (h.Flt k hf) hk.size,h.h0.kp hk ht,h.h1.kp hk ht,h.h2.kp hk ht,h.h3.kp hk ht,h.h4.kp hk ht,h.st.kp hk (fun k hm e=>hM k hm (.inr (.inr (.inl e)))),rowKp h.ls hk (fun k hm e=>hM k hm (.inr (.inr (.inr (.inl e))))),h.mp.of_block (hk.block mb h.mp.lt (fun e=>hM _ e (.inr (.inl rfl)))),fun e he=>?_,h.nF,h.ds,Nat.le_trans h.sz hk.size⟩;obtain ⟨xv,yv,q⟩:=h.en e he;exact ⟨xv,yv,q.kp hk (fun hm=>hM _ hm (.inr (.inr (.inr (.inr ⟨e,he,rfl⟩))))) hF⟩
theorem TbM.below {B:Nat} {F:Nat→Prop} {tb mb N:Nat} {W W':World} {S:List Stp} {nx:Nat} {es ms ls:List En} {sv lv:Value} (h:TbM B F tb mb N W S nx es ms ls sv lv) (hb:Below W.heap.size W W'):TbM B F tb mb N W' S nx es ms ls sv lv :=
 h.kp (M:=fun _=>False) (Rg.Kp.of_below hb) (fun _=>False.elim) (fun _ _=>id)
theorem TbM.mono {B:Nat} {F F':Nat→Prop} {tb mb N:Nat} {W:World} {S:List Stp} {nx:Nat} {es ms ls:List En} {sv lv:Value} (h:TbM B F tb mb N W S nx es ms ls sv lv) (hF:∀ k,F k→F' k) (h1:∀ k,F' k→k<W.heap.size) (h2:∀ k,F' k→¬ tbS tb mb es sv lv k):TbM B F' tb mb N W S nx es ms ls sv lv :=
 ⟨h1,h.h0,h.h1,h.h2,h.h3,h.h4,h.st,h.ls,h.mp,fun e he=>by
  obtain ⟨xv,yv,q⟩:=h.en e he
  exact ⟨xv,yv,q.mono hF⟩,h2,h.ds,h.sz⟩
theorem TbM.up {B:Nat} {F:Nat→Prop} {tb mb N:Nat} {W W':World} {S:List Stp} {nx:Nat} {es ms ls:List En} {sv lv:Value} (h:TbM B F tb mb N W S nx es ms ls sv lv) (hb:Below W.heap.size W W'):TbM B (Fup F W W') tb mb N W' S nx es ms ls sv lv:=by
 have hl:=h.Mlt;refine (h.below hb).mono (fun k=>.inl) (fun k hk=>?_) (fun k hk hm=>?_)
 ·rcases hk with hk | hk
  ·exact Nat.lt_of_lt_of_le (h.Flt k hk) hb.size
  ·exact hk.2
 ·rcases hk with hk | hk
  ·exact h.nF k hk hm
  ·have:=hl k hm; omega
theorem TbM.next {B:Nat} {F:Nat→Prop} {tb mb N:Nat} {W:World} {S:List Stp} {nx:Nat} {es ms ls:List En} {sv lv:Value} (h:TbM B F tb mb N W S nx es ms ls sv lv) (k:Nat):TbM B F tb mb N (W.setCell ⟨tb,1,none⟩ (.int .i64 ((k:Nat):Int))) S k es ms ls sv lv∧Rg.Kp (tbS tb mb es sv lv) W (W.setCell ⟨tb,1,none⟩ (.int .i64 ((k:Nat):Int))):=by
 have hk:Rg.Kp (fun z=>z=tb) W (W.setCell ⟨tb,1,none⟩ (.int .i64 ((k:Nat):Int))):=Rg.Kp.of_setCell rfl;refine ⟨⟨fun k hf=>Nat.lt_of_lt_of_le (h.Flt k hf) hk.size,h.h0.other _ (.inr (by decide)),h.h1.set _,h.h2.other _ (.inr (by decide)),h.h3.other _ (.inr (by decide)),h.h4.other _ (.inr (by decide)),h.st.kp hk (fun z hz e=>h.ds.st (hz▸e)),rowKp h.ls hk (fun z hz e=>h.ds.lt (hz▸e)),h.mp.of_block (hk.block mb h.mp.lt (fun e=>h.ds.tm e.symm)),fun e he=>?_,h.nF,h.ds,Nat.le_trans h.sz hk.size⟩,hk.weak fun z hz=>.inl hz⟩;obtain ⟨xv,yv,q⟩:=h.en e he;exact ⟨xv,yv,q.kp hk (h.ds.et e he) (fun z hf hz=>h.nF z hf (.inl hz))⟩
theorem TbM.push {B:Nat} {F:Nat→Prop} {tb mb N:Nat} {W:World} {S:List Stp} {nx:Nat} {es ms ls:List En} {sv lv:Value} (h:TbM B F tb mb N W S nx es ms ls sv lv) (z:Stp) (hn:S.length<1000000) (ty:TypeId) :
  ∃ a c X,(Builtin.append_ #[36,36] ty #[sv,.slice (some ⟨W.heap.size,0,none⟩) 1 1]).run Tryz.prog (W.alloc (.cells #[.int .i64 z.1,.int .i64 z.2.1,.int .i64 z.2.2] 51))=.ok (.slice a (S.length+1) c) X∧Cw X tb 0 sv∧Rg.Kp (fun k=>sv.ownBlock=some k) W X ∧
   TbM B F tb mb N (X.setCell ⟨tb,0,none⟩ (.slice a (S.length+1) c)) (S++[z]) nx es ms ls (.slice a (S.length+1) c) lv∧Rg.Kp (tbS tb mb es sv lv) W (X.setCell ⟨tb,0,none⟩ (.slice a (S.length+1) c))∧(∀ k,tbS tb mb es (.slice a (S.length+1) c) lv k→tbS tb mb es sv lv k∨W.heap.size≤k):=by
 obtain ⟨a,c,X,r1,r2,r3,r4⟩:=h.st.push h.sz z hn ty;have h0:Cw X tb 0 sv:=h.h0.kp r3 h.ds.st;have hk:Rg.Kp (fun z=>z=tb) X (X.setCell ⟨tb,0,none⟩ (.slice a (S.length+1) c)):=Rg.Kp.of_setCell rfl;generalize hv:Value.slice a (S.length+1) c=v at *;have hkk:Rg.Kp (fun k=>k=tb∨sv.ownBlock=some k) W (X.setCell ⟨tb,0,none⟩ v):=Rg.Kp.trans (r3.weak fun _=>.inr) (hk.weak (M':=fun k=>k=tb∨sv.ownBlock=some k) fun _=>.inl) (fun _ _ e=>e);have hml:=h.Mlt
 have hds:Ds tb mb es v lv:=by
  have key:∀ q,q<W.heap.size→sv.ownBlock≠some q→v.ownBlock≠some q:=fun q hq h1 e=>by
   rcases r4 q e with e2 | e2
   ·exact h1 e2
   ·omega
  refine ⟨h.ds.tm,key _ h.h0.lt h.ds.st,key _ h.mp.lt h.ds.sm,h.ds.lt,h.ds.lm,fun k e e2=>?_,h.ds.et,h.ds.em,fun e he=>key _ ?_ (h.ds.es_ e he),h.ds.el,h.ds.nb⟩
  ·exact key k (World.ownsRow.lt h.ls k e2).2 (fun e3=>h.ds.sl k e3 e2) e
  ·obtain ⟨xv,yv,q⟩:=h.en e he
   exact q.c0.lt
 have hst:∀ k,tbS tb mb es v lv k→tbS tb mb es sv lv k∨W.heap.size≤k:=by
  rintro k (rfl | rfl | e | e | e)
  ·exact .inl (.inl rfl)
  ·exact .inl (.inr (.inl rfl))
  ·exact (r4 k e).imp (fun e=>.inr (.inr (.inl e))) id
  ·exact .inl (.inr (.inr (.inr (.inl e))))
  ·exact .inl (.inr (.inr (.inr (.inr e))))
 have hX:X.heap.size=(X.setCell ⟨tb,0,none⟩ v).heap.size:=by simp [World.setCell]
 subst hv;refine ⟨a,c,X,r1,h0,r3,?_,hkk.weak fun k hk=>?_,hst⟩
 ·refine ⟨fun k hf=>Nat.lt_of_lt_of_le (h.Flt k hf) hkk.size,h0.set _,(h.h1.kp r3 h.ds.st).other _ (.inr (by decide)),(h.h2.kp r3 h.ds.st).other _ (.inr (by decide)),(h.h3.kp r3 h.ds.st).other _ (.inr (by decide)),(h.h4.kp r3 h.ds.st).other _ (.inr (by decide)),r2.kp hk (fun z hz e=>hds.st (hz▸e)),rowKp h.ls hkk (fun z hz e=>?_),h.mp.of_block (hkk.block mb h.mp.lt (fun e=>e.elim (fun e=>h.ds.tm e.symm) h.ds.sm)),fun e he=>?_,fun k hf hm=>?_,hds,Nat.le_trans h.sz hkk.size⟩
  ·rcases hz with hz | hz
   ·exact h.ds.lt (hz▸e)
   ·exact h.ds.sl z hz e
  ·obtain ⟨xv,yv,q⟩:=h.en e he
   exact ⟨xv,yv,q.kp hkk (fun hz=>hz.elim (h.ds.et e he) (h.ds.es_ e he)) (fun z hf hz=>h.nF z hf (hz.elim .inl (fun e=>.inr (.inr (.inl e)))))⟩
  ·rcases hst k hm with q | q
   ·exact h.nF k hf q
   ·have:=h.Flt k hf; omega
 ·exact hk.elim .inl (fun e=>.inr (.inr (.inl e)))
theorem TbM.by {B:Nat} {F:Nat→Prop} {tb mb N:Nat} {W:World} {S:List Stp} {nx:Nat} {es:List En} {sv lv:Value} (h:TbM B F tb mb N W S nx es es es sv lv) {e:En} (he:e∈es) (k:Int) :
  TbM B F tb mb N (W.setCell ⟨e.b,3,none⟩ (.int .i64 k)) S nx (setBy es e.b k) (setBy es e.b k) (setBy es e.b k) sv lv∧Rg.Kp (tbS tb mb es sv lv) W (W.setCell ⟨e.b,3,none⟩ (.int .i64 k))∧(∀ q,tbS tb mb (setBy es e.b k) sv lv q↔tbS tb mb es sv lv q):=by
 have hk:Rg.Kp (fun z=>z=e.b) W (W.setCell ⟨e.b,3,none⟩ (.int .i64 k)):=Rg.Kp.of_setCell rfl
 have hmem:∀ q,(∃ e0∈setBy es e.b k,e0.b=q)↔∃ e0∈es,e0.b=q:=fun q=>by
  have h1:(∃ e0∈setBy es e.b k,e0.b=q)↔q∈(setBy es e.b k).map (·.b):=by rw [List.mem_map]
  have h2:(∃ e0∈es,e0.b=q)↔q∈es.map (·.b):=by rw [List.mem_map]
  rw [h1,h2,setBy_b]
 have hset:∀ q,tbS tb mb (setBy es e.b k) sv lv q↔tbS tb mb es sv lv q:=fun q=>by
  unfold tbS; rw [hmem]
 have hP:(setBy es e.b k).map enP=es.map enP:=by
  unfold setBy;rw [List.map_map];refine List.map_congr_left fun e0 _=>?_
  dsimp only [Function.comp]
  split <;> rfl
 have hM:((setBy es e.b k).map fun e=>((e.i,e.p),enP e))=es.map fun e=>((e.i,e.p),enP e):=by
  unfold setBy;rw [List.map_map];refine List.map_congr_left fun e0 _=>?_
  dsimp only [Function.comp]
  split <;> rfl
 have hin:∀ e0∈setBy es e.b k,∃ e1∈es,e0.b=e1.b:=fun e0 h0=>by
  obtain ⟨e1,h1,h2⟩:=(hmem e0.b).1 ⟨e0,h0,rfl⟩;exact ⟨e1,h1,h2.symm⟩
 refine ⟨⟨fun k hf=>Nat.lt_of_lt_of_le (h.Flt k hf) hk.size,h.h0.other _ (.inl fun q=>h.ds.et e he q.symm),h.h1.other _ (.inl fun q=>h.ds.et e he q.symm),h.h2.other _ (.inl fun q=>h.ds.et e he q.symm),h.h3.other _ (.inl fun q=>h.ds.et e he q.symm),h.h4.other _ (.inl fun q=>h.ds.et e he q.symm),h.st.kp hk (fun z hz q=>h.ds.es_ e he (hz▸q)),?_,?_,fun e0 h0=>?_,fun q hf hm=>h.nF q hf ((hset q).1 hm),?_,Nat.le_trans h.sz hk.size⟩,hk.weak fun z hz=>.inr (.inr (.inr (.inr ⟨e,he,hz.symm⟩))),hset⟩
 ·rw [hP,setBy_len]; exact rowKp h.ls hk (fun z hz q=>h.ds.el e he (hz▸q))
 ·rw [hM]; exact h.mp.of_block (hk.block mb h.mp.lt (fun q=>h.ds.em e he q.symm))
 ·have h0':=h0
  unfold Go.Proofs.YtdnmmibchbceeaaGreat.setBy at h0;obtain ⟨e1,h1,h2⟩:=List.mem_map.1 h0;obtain ⟨xv,yv,q⟩:=h.en e1 h1
  by_cases hb:e1.b=e.b
  ·rw [if_pos hb] at h2
   subst h2;refine ⟨xv,yv,⟨?_,?_,?_,?_,Rg.FI.kp q.x hk (fun z hf hz=>h.nF z hf (.inr (.inr (.inr (.inr ⟨e,he,hz.symm⟩))))),Rg.FI.kp q.y hk (fun z hf hz=>h.nF z hf (.inr (.inr (.inr (.inr ⟨e,he,hz.symm⟩)))))⟩⟩
   ·exact q.c0.other _ (.inr (by decide))
   ·exact q.c1.other _ (.inr (by decide))
   ·exact q.c2.other _ (.inr (by decide))
   ·have:=q.c3.set (.int .i64 k)
    rw [hb] at this;show Cw _ e1.b 3 _;rw [hb]; exact this
  ·rw [if_neg hb] at h2
   subst h2;exact ⟨xv,yv,q.kp hk hb (fun z hf hz=>h.nF z hf (.inr (.inr (.inr (.inr ⟨e,he,hz.symm⟩)))))⟩
 ·refine ⟨h.ds.tm,h.ds.st,h.ds.sm,h.ds.lt,h.ds.lm,h.ds.sl,fun e0 h0=>?_,fun e0 h0=>?_,fun e0 h0=>?_,fun e0 h0=>?_,by rw [setBy_b]; exact h.ds.nb⟩
  ·obtain ⟨e1,h1,h2⟩:=hin e0 h0; rw [h2]; exact h.ds.et e1 h1
  ·obtain ⟨e1,h1,h2⟩:=hin e0 h0; rw [h2]; exact h.ds.em e1 h1
  ·obtain ⟨e1,h1,h2⟩:=hin e0 h0; rw [h2]; exact h.ds.es_ e1 h1
  ·obtain ⟨e1,h1,h2⟩:=hin e0 h0; rw [h2]; exact h.ds.el e1 h1
theorem TbM.box {B:Nat} {F:Nat→Prop} {tb mb N:Nat} {W:World} {S:List Stp} {nx:Nat} {es:List En} {sv lv:Value} (h:TbM B F tb mb N W S nx es es es sv lv) {x:List Nat} {xv yv:Value} (hx:FP F W xv x) (hy:FP F W yv (Ma.invN x)) (i p k:Nat) (t:TypeId) :
  TbM B F tb mb N (W.alloc (.cells #[xv,yv,.int .i64 ((k:Nat):Int),.int .i64 (-1)] t)) S nx (es++[⟨W.heap.size,i,p,x,k,-1⟩]) es es sv lv∧(∀ q,tbS tb mb (es++[⟨W.heap.size,i,p,x,k,-1⟩]) sv lv q→tbS tb mb es sv lv q∨W.heap.size≤q):=by
 have hb:Below W.heap.size W (W.alloc (.cells #[xv,yv,.int .i64 ((k:Nat):Int),.int .i64 (-1)] t)):=(Below.refl _ _).alloc (Nat.le_refl _) _;have hk:Rg.Kp (fun _=>False) W (W.alloc (.cells #[xv,yv,.int .i64 ((k:Nat):Int),.int .i64 (-1)] t)):=Rg.Kp.of_below hb;have hl:=h.Mlt
 have hq:∀ q,tbS tb mb (es++[⟨W.heap.size,i,p,x,k,-1⟩]) sv lv q→tbS tb mb es sv lv q∨W.heap.size≤q:=by
  rintro q (e | e | e | e | ⟨e,he,hq⟩)
  ·exact .inl (.inl e)
  ·exact .inl (.inr (.inl e))
  ·exact .inl (.inr (.inr (.inl e)))
  ·exact .inl (.inr (.inr (.inr (.inl e))))
  ·rcases List.mem_append.1 he with he | he
   ·exact .inl (.inr (.inr (.inr (.inr ⟨e,he,hq⟩))))
   ·rw [List.mem_singleton] at he; subst he; exact .inr (by rw [← hq]; exact Nat.le_refl _)
 have h':=h.below hb;have hcell:∀ o (u:Value),(#[xv,yv,Value.int .i64 ((k:Nat):Int),.int .i64 (-1)]:Array Value)[o]?=some u→Cw (W.alloc (.cells #[xv,yv,.int .i64 ((k:Nat):Int),.int .i64 (-1)] t)) W.heap.size o u:=fun o u e=>⟨by rw [Rg.cellNew]; exact e,frozenNewN _ _ _ o _,by simp⟩;have hlt:∀ q,(∃ e∈es,e.b=q)→q<W.heap.size:=fun q e=>hl q (.inr (.inr (.inr (.inr e))));refine ⟨⟨h'.Flt,h'.h0,h'.h1,h'.h2,h'.h3,h'.h4,h'.st,h'.ls,h'.mp,fun e he=>?_,fun q hf hm=>?_,?_,h'.sz⟩,hq⟩
 ·rcases List.mem_append.1 he with he | he
  ·exact h'.en e he
  ·rw [List.mem_singleton] at he; subst he
   exact ⟨xv,yv,hcell 0 _ rfl,hcell 1 _ rfl,hcell 2 _ rfl,hcell 3 _ rfl,Rg.FI.kp hx hk (fun _ _=>id),Rg.FI.kp hy hk (fun _ _=>id)⟩
 ·rcases hq q hm with e | e
  ·exact h.nF q hf e
  ·have:=h.Flt q hf; omega
 ·have hne:∀ q,tbS tb mb es sv lv q→q≠W.heap.size:=fun q e e2=>by have:=hl q e; omega
  have key:∀ {P:En→Prop},(∀ e∈es,P e)→P ⟨W.heap.size,i,p,x,k,-1⟩→∀ e∈es++[⟨W.heap.size,i,p,x,k,-1⟩],P e:=fun h1 h2 e he=>by
   rcases List.mem_append.1 he with he | he
   ·exact h1 e he
   ·rw [List.mem_singleton] at he; subst he; exact h2
  refine ⟨h.ds.tm,h.ds.st,h.ds.sm,h.ds.lt,h.ds.lm,h.ds.sl,key h.ds.et (fun e=>hne tb (.inl rfl) e.symm),key h.ds.em (fun e=>hne mb (.inr (.inl rfl)) e.symm),key h.ds.es_ (fun e=>hne _ (.inr (.inr (.inl e))) rfl),key h.ds.el (fun e=>hne _ (.inr (.inr (.inr (.inl e)))) rfl),?_⟩;rw [List.map_append,List.map_singleton];refine List.nodup_append.2 ⟨h.ds.nb,by simp,fun a ha b hb e=>?_⟩;rw [List.mem_singleton] at hb;obtain ⟨e0,h0,h1⟩:=List.mem_map.1 ha;have:=hlt a ⟨e0,h0,h1⟩;rw [hb] at e;simp at e;omega
theorem ktT:Jm.KT Tryz.prog 101 106 3 110 (.pointer none):=⟨Tryz.underlying101,Tryz.underlying106,Tryz.underlying3,fun w=>by kernel_rfl,fun w=>by kernel_rfl⟩
theorem look_fnd (es:List En) (i p:Nat):Jm.look (es.map fun e=>((e.i,e.p),enP e)) (i,p)=(fnd es i p).map enP:=by
 unfold Jm.look fnd;rw [List.find?_map,Option.map_map];rfl
theorem TbM.put {B:Nat} {F:Nat→Prop} {tb mb N:Nat} {W:World} {S:List Stp} {nx:Nat} {es ms ls:List En} {sv lv:Value} (h:TbM B F tb mb N W S nx es ms ls sv lv) {e:En} (hno:fnd ms e.i e.p=none) :
  ∃ W',(Instr.mapUpdate 101 (.map (some mb)) (Jm.keyV (e.i,e.p)) (enP e)).run Tryz.prog W=.ok () W'∧TbM B F tb mb N W' S nx es (ms++[e]) ls sv lv∧Rg.Kp (tbS tb mb es sv lv) W W':=by
 obtain ⟨W',r1,r2,r3⟩:=Jm.update_new ktT h.mp (e.i,e.p) (by rw [look_fnd,hno]; rfl) (enP e);have hk:Rg.Kp (fun k=>k=mb) W W':=Rg.Kp.of_grown r3 (fun k e=>(Option.some.inj e).symm);refine ⟨W',r1,⟨fun k hf=>Nat.lt_of_lt_of_le (h.Flt k hf) hk.size,h.h0.kp hk h.ds.tm,h.h1.kp hk h.ds.tm,h.h2.kp hk h.ds.tm,h.h3.kp hk h.ds.tm,h.h4.kp hk h.ds.tm,h.st.kp hk (fun z hz e=>h.ds.sm (hz▸e)),rowKp h.ls hk (fun z hz e=>h.ds.lm (hz▸e)),by rw [List.map_append]; exact r2,fun e he=>?_,h.nF,h.ds,Nat.le_trans h.sz hk.size⟩,hk.weak fun z hz=>.inr (.inl hz)⟩;obtain ⟨xv,yv,q⟩:=h.en e he;exact ⟨xv,yv,q.kp hk (h.ds.em e he) (fun z hf hz=>h.nF z hf (.inr (.inl hz)))⟩
theorem slEnts:Rg.SlT Tryz.prog 102 110 (.pointer none) 8:=⟨Tryz.underlying102,by kernel_rfl,rfl,by decide⟩
theorem TbM.list {B:Nat} {F:Nat→Prop} {tb mb N:Nat} {W:World} {S:List Stp} {nx:Nat} {es ms ls:List En} {sv lv:Value} (h:TbM B F tb mb N W S nx es ms ls sv lv) (e:En) (hn:ls.length<1000000) (ty:TypeId) :
  ∃ a c X,(Builtin.append_ #[102,102] ty #[lv,.slice (some ⟨W.heap.size,0,none⟩) 1 1]).run Tryz.prog (W.alloc (.cells #[enP e] 110))=.ok (.slice a (ls.length+1) c) X∧Cw X tb 4 lv∧Rg.Kp (fun k=>lv.ownBlock=some k) W X ∧
   TbM B F tb mb N (X.setCell ⟨tb,4,none⟩ (.slice a (ls.length+1) c)) S nx es ms (ls++[e]) sv (.slice a (ls.length+1) c)∧Rg.Kp (tbS tb mb es sv lv) W (X.setCell ⟨tb,4,none⟩ (.slice a (ls.length+1) c))∧(∀ k,tbS tb mb es sv (.slice a (ls.length+1) c) k→tbS tb mb es sv lv k∨W.heap.size≤k):=by
 have hb:Below W.heap.size W (W.alloc (.cells #[enP e] 110)):=(Below.refl _ _).alloc (Nat.le_refl _) _
 have e2:(W.alloc (.cells #[enP e] 110)).heap.size=W.heap.size+1:=by simp
 obtain ⟨v',X,r1,r2,q3,q4,a,c,rfl⟩:=app_run (P:=Tryz.prog) slEnts ty (Rg.row_below h.ls hb) (Nat.le_trans h.sz hb.size) W.heap.size 1 (u:=enP e) (by rw [Rg.cellNew]; rfl) rfl hn;have r3:Rg.Kp (fun k=>lv.ownBlock=some k) W X:=Rg.Kp.trans (M:=fun k=>lv.ownBlock=some k) ((Rg.Kp.of_below hb).weak fun _=>False.elim) (Rg.Kp.of_grown q3 fun _ e=>e) (fun _ _ e=>e)
 have r4:∀ k,(Value.slice a (ls.length+1) c).ownBlock=some k→lv.ownBlock=some k∨W.heap.size≤k:=fun k e=>by
  rcases q4 with q4 | q4
  ·exact .inl (by rw [← q4]; exact e)
  ·rw [q4] at e
   injection e with e
   exact .inr (by omega)
 have h4:Cw X tb 4 lv:=h.h4.kp r3 h.ds.lt;have hk:Rg.Kp (fun z=>z=tb) X (X.setCell ⟨tb,4,none⟩ (.slice a (ls.length+1) c)):=Rg.Kp.of_setCell rfl;generalize hv:Value.slice a (ls.length+1) c=v at *;have hkk:Rg.Kp (fun k=>k=tb∨lv.ownBlock=some k) W (X.setCell ⟨tb,4,none⟩ v):=Rg.Kp.trans (r3.weak fun _=>.inr) (hk.weak (M':=fun k=>k=tb∨lv.ownBlock=some k) fun _=>.inl) (fun _ _ e=>e)
 have hds:Ds tb mb es sv v:=by
  have key:∀ q,q<W.heap.size→lv.ownBlock≠some q→v.ownBlock≠some q:=fun q hq h1 e=>by
   rcases r4 q e with e2 | e2
   ·exact h1 e2
   ·omega
  refine ⟨h.ds.tm,h.ds.st,h.ds.sm,key _ h.h0.lt h.ds.lt,key _ h.mp.lt h.ds.lm,fun k e e2=>?_,h.ds.et,h.ds.em,h.ds.es_,fun e he=>key _ ?_ (h.ds.el e he),h.ds.nb⟩
  ·exact key k (h.st.lt k e).2 (h.ds.sl k e) e2
  ·obtain ⟨xv,yv,q⟩:=h.en e he
   exact q.c0.lt
 have hst:∀ k,tbS tb mb es sv v k→tbS tb mb es sv lv k∨W.heap.size≤k:=by
  rintro k (rfl | rfl | e | e | e)
  ·exact .inl (.inl rfl)
  ·exact .inl (.inr (.inl rfl))
  ·exact .inl (.inr (.inr (.inl e)))
  ·exact (r4 k e).imp (fun e=>.inr (.inr (.inr (.inl e)))) id
  ·exact .inl (.inr (.inr (.inr (.inr e))))
 subst hv;refine ⟨a,c,X,r1,h4,r3,?_,hkk.weak fun k hk=>?_,hst⟩
 ·refine ⟨fun k hf=>Nat.lt_of_lt_of_le (h.Flt k hf) hkk.size,(h.h0.kp r3 h.ds.lt).other _ (.inr (by decide)),(h.h1.kp r3 h.ds.lt).other _ (.inr (by decide)),(h.h2.kp r3 h.ds.lt).other _ (.inr (by decide)),(h.h3.kp r3 h.ds.lt).other _ (.inr (by decide)),h4.set _,h.st.kp hkk (fun z hz e=>?_),?_,h.mp.of_block (hkk.block mb h.mp.lt (fun e=>e.elim (fun e=>h.ds.tm e.symm) h.ds.lm)),fun e he=>?_,fun k hf hm=>?_,hds,Nat.le_trans h.sz hkk.size⟩
  ·rcases hz with hz | hz
   ·exact h.ds.st (hz▸e)
   ·exact h.ds.sl z e hz
  ·rw [List.length_append,List.map_append]; exact rowKp r2 hk (fun z hz e=>hds.lt (hz▸e))
  ·obtain ⟨xv,yv,q⟩:=h.en e he
   exact ⟨xv,yv,q.kp hkk (fun hz=>hz.elim (h.ds.et e he) (h.ds.el e he)) (fun z hf hz=>h.nF z hf (hz.elim .inl (fun e=>.inr (.inr (.inr (.inl e))))))⟩
  ·rcases hst k hm with q | q
   ·exact h.nF k hf q
   ·have:=h.Flt k hf; omega
 ·exact hk.elim .inl (fun e=>.inr (.inr (.inr (.inl e))))
theorem TbM.gw {M':Nat→Prop} {B:Nat} {F:Nat→Prop} {tb mb N:Nat} {W W':World} {S:List Stp} {nx:Nat} {es ms ls:List En} {sv lv:Value} (h:TbM B F tb mb N W S nx es ms ls sv lv) (hk:Rg.Kp (tbS tb mb es sv lv) W W') (hM:∀ k,M' k→tbS tb mb es sv lv k∨W.heap.size≤k):Gw F (tbS tb mb es sv lv) W F M' W' :=
 Gw.put (fun k hf=>⟨h.Flt k hf,h.nF k hf⟩) hk hM
theorem TbM.at {B:Nat} {F:Nat→Prop} {tb mb N:Nat} {W:World} {S:List Stp} {nx:Nat} {es ms ls:List En} {sv lv:Value} (h:TbM B F tb mb N W S nx es ms ls sv lv) {i:Nat} (hi:i<ls.length):∃ g c,lv=.slice (some ⟨g,0,none⟩) ls.length c∧CL W g (0+i) (enP ls[i]):=by
 obtain ⟨g,c,u,e1,e2,e3,e4⟩:=row_of h.ls hi;rw [List.getElem?_map,List.getElem?_eq_getElem hi] at e3;obtain rfl:enP ls[i]=u:=Option.some.inj e3;exact ⟨g,c,e1,e2,e4⟩
end Go.Proofs.YtdnmmibchbceeaaGreat

namespace Go.Proofs.YtdnmmibchbceeaaGreat
open Go.RowKit
open Go.Proofs
open Go.Proofs.Ob
attribute [local irreducible] Go.Calls
theorem recF0 (b:Nat) (w:World):(Instr.fieldAt 100 (.pointer (some ⟨b,0,none⟩)) 0).run Tryz.prog w=.ok (.pointer (some ⟨b,0,none⟩)) w:=by kernel_rfl
theorem recF1 (b:Nat) (w:World):(Instr.fieldAt 100 (.pointer (some ⟨b,0,none⟩)) 1).run Tryz.prog w=.ok (.pointer (some ⟨b,1,none⟩)) w:=by kernel_rfl
theorem tblF0 (b:Nat) (w:World):(Instr.fieldAt 104 (.pointer (some ⟨b,0,none⟩)) 0).run Tryz.prog w=.ok (.pointer (some ⟨b,0,none⟩)) w:=by kernel_rfl
theorem tblF1 (b:Nat) (w:World):(Instr.fieldAt 104 (.pointer (some ⟨b,0,none⟩)) 1).run Tryz.prog w=.ok (.pointer (some ⟨b,2,none⟩)) w:=by kernel_rfl
theorem tblF2 (b:Nat) (w:World):(Instr.fieldAt 104 (.pointer (some ⟨b,0,none⟩)) 2).run Tryz.prog w=.ok (.pointer (some ⟨b,3,none⟩)) w:=by kernel_rfl
theorem tblF3 (b:Nat) (w:World):(Instr.fieldAt 104 (.pointer (some ⟨b,0,none⟩)) 3).run Tryz.prog w=.ok (.pointer (some ⟨b,4,none⟩)) w:=by kernel_rfl
theorem enF0 (b:Nat) (w:World):(Instr.fieldAt 113 (.pointer (some ⟨b,0,none⟩)) 0).run Tryz.prog w=.ok (.pointer (some ⟨b,0,none⟩)) w:=by kernel_rfl
theorem enF1 (b:Nat) (w:World):(Instr.fieldAt 113 (.pointer (some ⟨b,0,none⟩)) 1).run Tryz.prog w=.ok (.pointer (some ⟨b,1,none⟩)) w:=by kernel_rfl
theorem enF2 (b:Nat) (w:World):(Instr.fieldAt 113 (.pointer (some ⟨b,0,none⟩)) 2).run Tryz.prog w=.ok (.pointer (some ⟨b,2,none⟩)) w:=by kernel_rfl
theorem enF3 (b:Nat) (w:World):(Instr.fieldAt 113 (.pointer (some ⟨b,0,none⟩)) 3).run Tryz.prog w=.ok (.pointer (some ⟨b,3,none⟩)) w:=by kernel_rfl
theorem exec_buildKy {o:Oper} {a:Act} {w:World} {i j:Int} (x y:Operand) (ho:o.op=.build 106 #[(0,x),(1,y)]) (hx:a.eval x=.int .i64 i) (hy:a.eval y=.int .i64 j) :
  (execOp a.eval o).run Tryz.prog w=.ok (.value (.agg #[.int .i64 i,.int .i64 j])) w:=by
 unfold execOp;simp only [ho,Sem.run_bind,Sem.run_pure];simp only [List.map_toArray,List.map_cons,List.map_nil,hx,hy]
 have h:(Instr.build 106 #[(0,.int .i64 i),(1,.int .i64 j)]).run Tryz.prog w=.ok (.agg #[.int .i64 i,.int .i64 j]) w:=by kernel_rfl
 first | (rw [h]; rfl) | (erw [h]; rfl)
theorem exec_buildSi {o:Oper} {a:Act} {w:World} {i j:Int} (x y:Operand) (ho:o.op=.build 51 #[(0,x),(1,y)]) (hx:a.eval x=.int .i64 i) (hy:a.eval y=.int .i64 j) :
  (execOp a.eval o).run Tryz.prog w=.ok (.value (.agg #[.int .i64 i,.int .i64 j,.int .i64 0])) w:=by
 unfold execOp;simp only [ho,Sem.run_bind,Sem.run_pure];simp only [List.map_toArray,List.map_cons,List.map_nil,hx,hy]
 have h:(Instr.build 51 #[(0,.int .i64 i),(1,.int .i64 j)]).run Tryz.prog w=.ok (.agg #[.int .i64 i,.int .i64 j,.int .i64 0]) w:=by kernel_rfl
 first | (rw [h]; rfl) | (erw [h]; rfl)
theorem exec_buildSm {o:Oper} {a:Act} {w:World} {i j k:Int} (x y z:Operand) (ho:o.op=.build 51 #[(0,x),(1,y),(2,z)]) (hx:a.eval x=.int .i64 i) (hy:a.eval y=.int .i64 j) (hz:a.eval z=.int .i64 k) :
  (execOp a.eval o).run Tryz.prog w=.ok (.value (.agg #[.int .i64 i,.int .i64 j,.int .i64 k])) w:=by
 unfold execOp;simp only [ho,Sem.run_bind,Sem.run_pure];simp only [List.map_toArray,List.map_cons,List.map_nil,hx,hy,hz]
 have h:(Instr.build 51 #[(0,.int .i64 i),(1,.int .i64 j),(2,.int .i64 k)]).run Tryz.prog w=.ok (.agg #[.int .i64 i,.int .i64 j,.int .i64 k]) w:=by kernel_rfl
 first | (rw [h]; rfl) | (erw [h]; rfl)
theorem exec_buildEn {o:Oper} {a:Act} {w:World} {a1 a2:Option Addr} {n1 n2 c1 c2:Nat} {i j:Int} (x y z u:Operand) (ho:o.op=.build 113 #[(0,x),(1,y),(2,z),(3,u)]) (hx:a.eval x=.slice a1 n1 c1) (hy:a.eval y=.slice a2 n2 c2) (hz:a.eval z=.int .i64 i) (hu:a.eval u=.int .i64 j) :
  (execOp a.eval o).run Tryz.prog w=.ok (.value (.agg #[.slice a1 n1 c1,.slice a2 n2 c2,.int .i64 i,.int .i64 j])) w:=by
 unfold execOp;simp only [ho,Sem.run_bind,Sem.run_pure];simp only [List.map_toArray,List.map_cons,List.map_nil,hx,hy,hz,hu]
 have h:(Instr.build 113 #[(0,.slice a1 n1 c1),(1,.slice a2 n2 c2),(2,.int .i64 i),(3,.int .i64 j)]).run Tryz.prog w=.ok (.agg #[.slice a1 n1 c1,.slice a2 n2 c2,.int .i64 i,.int .i64 j]) w:=by kernel_rfl
 first | (rw [h]; rfl) | (erw [h]; rfl)
theorem exec_buildRc {o:Oper} {a:Act} {w:World} {i:Int} (x:Operand) (ho:o.op=.build 100 #[(1,x)]) (hx:a.eval x=.int .i64 i) :
  (execOp a.eval o).run Tryz.prog w=.ok (.value (.agg #[.slice none 0 0,.int .i64 i])) w:=by
 unfold execOp;simp only [ho,Sem.run_bind,Sem.run_pure];simp only [List.map_toArray,List.map_cons,List.map_nil,hx]
 have h:(Instr.build 100 #[(1,.int .i64 i)]).run Tryz.prog w=.ok (.agg #[.slice none 0 0,.int .i64 i]) w:=by kernel_rfl
 first | (rw [h]; rfl) | (erw [h]; rfl)
theorem exec_buildTb4 {o:Oper} {a:Act} {w:World} {i j:Int} {m:Nat} (x y z:Operand) (ho:o.op=.build 104 #[(0,x),(1,y),(2,z)]) (hx:a.eval x=.agg #[.slice none 0 0,.int .i64 i]) (hy:a.eval y=.int .i64 j) (hz:a.eval z=.map (some m)) :
  (execOp a.eval o).run Tryz.prog w=.ok (.value (.agg #[.slice none 0 0,.int .i64 i,.int .i64 j,.map (some m),.slice none 0 0])) w:=by
 unfold execOp;simp only [ho,Sem.run_bind,Sem.run_pure];simp only [List.map_toArray,List.map_cons,List.map_nil,hx,hy,hz]
 have h:(Instr.build 104 #[(0,.agg #[.slice none 0 0,.int .i64 i]),(1,.int .i64 j),(2,.map (some m))]).run Tryz.prog w=.ok (.agg #[.slice none 0 0,.int .i64 i,.int .i64 j,.map (some m),.slice none 0 0]) w:=by kernel_rfl
 first | (rw [h]; rfl) | (erw [h]; rfl)
theorem exec_pnilT {o:Oper} {a:Act} {w:World} (x y:Operand) (ho:o.op=.binOp .eql 110 x y 110) (hx:a.eval x=.pointer none) (hy:a.eval y=.pointer none):(execOp a.eval o).run Tryz.prog w=.ok (.value (.bool true)) w:=by
 have h1:(binOp .eql 110 (.pointer none) (.pointer none)).run Tryz.prog w=.ok (.bool true) w:=by kernel_rfl
 have hg:(eqGuard .eql 110 x y (.pointer none) (.pointer none)).run Tryz.prog w=.ok () w:=by
  simp [eqGuard]
 unfold execOp;simp only [ho,hx,hy,Sem.run_bind,Sem.run_pure,hg,h1,Result.andThen_ok]
theorem exec_pnilF {o:Oper} {a:Act} {w:World} {ad:Addr} (x y:Operand) (ho:o.op=.binOp .eql 110 x y 110) (hx:a.eval x=.pointer (some ad)) (hy:a.eval y=.pointer none):(execOp a.eval o).run Tryz.prog w=.ok (.value (.bool false)) w:=by
 have h1:(binOp .eql 110 (.pointer (some ad)) (.pointer none)).run Tryz.prog w=.ok (.bool false) w:=by kernel_rfl
 have hg:(eqGuard .eql 110 x y (.pointer (some ad)) (.pointer none)).run Tryz.prog w=.ok () w:=by
  simp [eqGuard]
 unfold execOp;simp only [ho,hx,hy,Sem.run_bind,Sem.run_pure,hg,h1,Result.andThen_ok]
theorem run_loadME {w:World} {ad:Addr} {v:Value} (h:w.cell? ad=some v):(loadVar 101 ad).run Tryz.prog w=.ok v w:=by
 simp [loadVar,isAgg,run_underlying Tryz.underlying101,load];simp [Sem.run,h]
theorem infoP2:(Tryz.prog.info? 106).map (fun i=>(i.zero,i.size,i.bytes))=some (some (.agg #[.int .i64 0,.int .i64 0]),2,16):=by kernel_rfl
theorem run_loadP2 {b o:Nat} {x y:Value} {W:World} (h0:W.cell? ⟨b,o,none⟩=some x) (h1:W.cell? ⟨b,o+1,none⟩=some y):(loadVar 106 ⟨b,o,none⟩).run Tryz.prog W=.ok (.agg #[x,y]) W:=by
 have hl:(loadCells ⟨b,o,none⟩ 2).run Tryz.prog W=.ok #[x,y] W :=
  run_loadCells_list (P:=Tryz.prog) W ⟨b,o,none⟩ [x,y] (fun j v hv=>by
   match j,hv with
   | 0,hv=>simp at hv; subst hv; exact h0
   | 1,hv=>simp at hv; subst hv; exact h1)
 have ha:(isAgg 106).run Tryz.prog W=.ok true W:=by kernel_rfl
 simp [loadVar,Sem.run_bind,ha,hl]
theorem exec_allocP2 {o:Oper} {a:Act} {w:World} (ho:o.op=.alloc 106):(execOp a.eval o).run Tryz.prog w=.ok (.value (.pointer (some ⟨w.heap.size,0,none⟩))) (w.alloc (.cells #[.int .i64 0,.int .i64 0] 106)):=by
 obtain ⟨i0,hi,hz0,hz1,hz2⟩:=info_parts infoP2;unfold execOp;simp [ho,Instr.alloc,typeInfo,zeroValue,hi,hz0,newVar,Value.cells,Result.andThen];rfl
theorem run_storeP2 {w:World} {b:Nat} {u1 u2:Value} (x y:Int) (h1:Cw w b 0 u1) (h2:Cw w b 1 u2) :
  (storeVar 106 ⟨b,0,none⟩ (.agg #[.int .i64 x,.int .i64 y])).run Tryz.prog w=.ok () ((w.setCell ⟨b,0,none⟩ (.int .i64 x)).setCell ⟨b,1,none⟩ (.int .i64 y)):=by
 obtain ⟨i0,hi,hz0,hz1,hz2⟩:=info_parts infoP2;have g2:=h2.other (.int .i64 x) (b2:=b) (o2:=0) (.inr (by decide))
 have ha0:(⟨b,0,none⟩:Addr).add 0=⟨b,0,none⟩:=by simp [Addr.add]
 have ha1:(⟨b,0,none⟩:Addr).add 1=⟨b,1,none⟩:=by simp [Addr.add]
 simp [storeVar,sizeOf,typeInfo,hi,hz1,Value.cells,storeCells,store,ha0,ha1];simp [Sem.run,h1.c,h1.f,g2.c,g2.f]
structure Pw (W:World) (b:Nat) (x y:Int):Prop where
 c0:Cw W b 0 (.int .i64 x)
 c1:Cw W b 1 (.int .i64 y)
theorem Pw.new (W:World):Pw (W.alloc (.cells #[.int .i64 0,.int .i64 0] 106)) W.heap.size 0 0 :=
 ⟨⟨by rw [Rg.cellNew]; rfl,frozenNewN _ _ _ 0 _,by simp⟩,⟨by rw [Rg.cellNew]; rfl,frozenNewN _ _ _ 1 _,by simp⟩⟩
theorem Pw.kp {M:Nat→Prop} {w w':World} {b:Nat} {x y:Int} (h:Pw w b x y) (hk:Rg.Kp M w w') (hM:¬ M b):Pw w' b x y:=⟨h.c0.kp hk hM,h.c1.kp hk hM⟩
theorem Pw.below {w w':World} {b:Nat} {x y:Int} (h:Pw w b x y) (hb:Below w.heap.size w w'):Pw w' b x y:=h.kp (M:=fun _=>False) (Rg.Kp.of_below hb) id
theorem Pw.set {w:World} {b:Nat} {x y:Int} (h:Pw w b x y) (u v:Int):Pw ((w.setCell ⟨b,0,none⟩ (.int .i64 u)).setCell ⟨b,1,none⟩ (.int .i64 v)) b u v :=
 ⟨(h.c0.set _).other _ (.inr (by decide)),(h.c1.other _ (.inr (by decide))).set _⟩
theorem Pw.run {w:World} {b:Nat} {x y:Int} (h:Pw w b x y) (u v:Int):(storeVar 106 ⟨b,0,none⟩ (.agg #[.int .i64 u,.int .i64 v])).run Tryz.prog w=.ok () ((w.setCell ⟨b,0,none⟩ (.int .i64 u)).setCell ⟨b,1,none⟩ (.int .i64 v)):=run_storeP2 u v h.c0 h.c1
theorem Pw.load {w:World} {b:Nat} {x y:Int} (h:Pw w b x y):(loadVar 106 ⟨b,0,none⟩).run Tryz.prog w=.ok (.agg #[.int .i64 x,.int .i64 y]) w:=run_loadP2 h.c0.c h.c1.c
theorem results_sift {fn:Func} {t u p v:Go.Tmp} (h:fn.results=#[.tmp t,.tmp u,.cell p 106,.tmp v]) (tmps:Array Value) {w:World} {b:Nat} {x y:Int} {vt vu vv:Value} (hp:tmps.getD p undef=.pointer (some ⟨b,0,none⟩)) (ht:tmps.getD t undef=vt) (hu:tmps.getD u undef=vu) (hv:tmps.getD v undef=vv) (h1:Pw w b x y) :
  (results fn tmps).run Tryz.prog w=.ok (.tuple #[vt,vu,.agg #[.int .i64 x,.int .i64 y],vv]) w:=by
 simp only [Array.getD_eq_getD_getElem?] at hp ht hu hv;simp only [results,h];simp [Result.andThen,hp,ht,hu,hv,asAddr,h1.load]
theorem infoTbp:(Tryz.prog.info? 98).map (fun i=>(i.zero,i.size,i.bytes))=some (some (.pointer none),1,8):=by kernel_rfl
theorem exec_allocTbp {o:Oper} {a:Act} {w:World} (ho:o.op=.alloc 98):(execOp a.eval o).run Tryz.prog w=.ok (.value (.pointer (some ⟨w.heap.size,0,none⟩))) (w.alloc (.cells #[.pointer none] 98)):=by
 obtain ⟨i0,hi,hz0,hz1,hz2⟩:=info_parts infoTbp;unfold execOp;simp [ho,Instr.alloc,typeInfo,zeroValue,hi,hz0,newVar,newRow,Value.cells,Result.andThen]
theorem run_storeTbp {w:World} {b o:Nat} {u:Value} (v:Option Addr) (h:w.cell? ⟨b,o,none⟩=some u) (hf:w.frozen? ⟨b,o,none⟩=false) :
  (storeVar 98 ⟨b,o,none⟩ (.pointer v)).run Tryz.prog w=.ok () (w.setCell ⟨b,o,none⟩ (.pointer v)):=by
 obtain ⟨i0,hi,hz0,hz1,hz2⟩:=info_parts infoTbp
 have h0:(⟨b,o,none⟩:Addr).add 0=⟨b,o,none⟩:=by simp [Addr.add]
 simp [storeVar,sizeOf,typeInfo,hi,hz1,Value.cells,storeCells,store,h0];simp [Sem.run,h,hf]
theorem infoStepsV:(Tryz.prog.info? 36).map (fun i=>(i.zero,i.size,i.bytes))=some (some (.slice none 0 0),1,24):=by kernel_rfl
theorem infoEntsV:(Tryz.prog.info? 102).map (fun i=>(i.zero,i.size,i.bytes))=some (some (.slice none 0 0),1,24):=by kernel_rfl
theorem infoEnp:(Tryz.prog.info? 110).map (fun i=>(i.zero,i.size,i.bytes))=some (some (.pointer none),1,8):=by kernel_rfl
theorem run_build1E (X:World) (ad:Addr):(Instr.buildSlice 102 1 #[(0,.pointer (some ad))]).run Tryz.prog X=.ok (.slice (some ⟨X.heap.size,0,none⟩) 1 1) (X.alloc (.cells #[.pointer (some ad)] 110)):=by
 obtain ⟨i0,hi,hz0,hz1,hz2⟩:=info_parts infoEnp;refine run_buildSlice X 102 110 1 _ _ i0 _ Tryz.underlying102 hi hz0 (by rw [hz1]; decide) (by rw [hz1]; decide) ?_;generalize (fun x=>((Value.pointer none).cells)[x % (Value.pointer none).cells.size]!)=f;rw [hz1];have h1:Array.range (1*1)=#[0]:=rfl;simp [Instr.fill,Value.cells,h1]
theorem infoIntB:(Tryz.prog.info? 3).map (fun i=>(i.zero,i.size,i.bytes))=some (some (.int .i64 0),1,8):=by kernel_rfl
theorem run_build1N (X:World) (i:Int):(Instr.buildSlice 25 1 #[(0,.int .i64 i)]).run Tryz.prog X=.ok (.slice (some ⟨X.heap.size,0,none⟩) 1 1) (X.alloc (.cells #[.int .i64 i] 3)):=by
 obtain ⟨i0,hi,hz0,hz1,hz2⟩:=info_parts infoIntB;refine run_buildSlice X 25 3 1 _ _ i0 _ Tryz.underlying25 hi hz0 (by rw [hz1]; decide) (by rw [hz1]; decide) ?_;generalize (fun x=>((Value.int .i64 0).cells)[x % (Value.int .i64 0).cells.size]!)=f;rw [hz1];have h1:Array.range (1*1)=#[0]:=rfl;simp [Instr.fill,Value.cells,h1]
theorem run_build2N (X:World) (i j:Int):(Instr.buildSlice 25 2 #[(0,.int .i64 i),(1,.int .i64 j)]).run Tryz.prog X=.ok (.slice (some ⟨X.heap.size,0,none⟩) 2 2) (X.alloc (.cells #[.int .i64 i,.int .i64 j] 3)):=by
 obtain ⟨i0,hi,hz0,hz1,hz2⟩:=info_parts infoIntB;refine run_buildSlice X 25 3 2 _ _ i0 _ Tryz.underlying25 hi hz0 (by rw [hz1]; decide) (by rw [hz1]; decide) ?_;generalize (fun x=>((Value.int .i64 0).cells)[x % (Value.int .i64 0).cells.size]!)=f;rw [hz1];have h1:Array.range (2*1)=#[0,1]:=rfl;simp [Instr.fill,Value.cells,h1]
theorem RwI.new {F M:Nat→Prop} {W:World} (hF:∀ k,F k→k<W.heap.size) (hM:∀ k,M k→k<W.heap.size) (l:List Int) (hl:l.length≤1000) (t:TypeId) (ht:t=3):RwI F M (W.alloc (.cells (l.map (Value.int .i64)).toArray t)) (.slice (some ⟨W.heap.size,0,none⟩) l.length l.length) l:=by
 subst ht;refine ⟨⟨W.heap.size,by simp,⟨by simp,.inr ⟨W.heap.size,l.length,(l.map (Value.int .i64)).toArray,rfl,Nat.le_refl _,by unfold World.alloc; simp,Nat.le_refl _,by unfold maxLen; omega,by simp,by simpa using List.take_of_length_le (by simp)⟩⟩⟩,fun k e=>?_⟩;have e:some W.heap.size=some k:=e
 injection e with e
 subst e;exact ⟨fun h=>Nat.lt_irrefl _ (hF _ h),fun h=>Nat.lt_irrefl _ (hM _ h),by simp⟩
theorem exec_slice1E {o:Oper} {a:Act} {w:World} {v r:Value} (x:Operand) (ho:o.op=.slice 102 x (some (.const (.int .i64 1))) none none) (hx:a.eval x=v) (hr:(Instr.sliceAt 102 v (some (.int .i64 1)) none none).run Tryz.prog w=.ok r w) :
  (execOp a.eval o).run Tryz.prog w=.ok (.value r) w:=by
 unfold execOp;simp only [ho,hx,Sem.run_bind,Sem.run_pure,Option.map]
 first | (rw [hr]; rfl) | (erw [hr]; rfl) | simp [hr]
end Go.Proofs.YtdnmmibchbceeaaGreat

namespace Go.Proofs.YtdnmmibchbceeaaGreat
open Go.RowKit
open Go.Proofs
open Go.Proofs.Ob
attribute [local irreducible] Go.Calls Go.wpList
theorem Decl0 (args:Array Value) (w:World):(callFunc 69 args).run Tryz.prog w=.ok (.enter 69 args) w:=by kernel_rfl
theorem eb_inj:∀ {es:List En},(es.map (·.b)).Nodup→∀ {e e':En},e∈es→e'∈es→e.b=e'.b→e=e'
 | [],_,e,e',h,_,_=>by cases h
 | a :: es,hn,e,e',h,h',hb=>by
  rw [List.map_cons,List.nodup_cons] at hn
  rcases List.mem_cons.1 h with h | h <;> rcases List.mem_cons.1 h' with h' | h'
  ·rw [h,h']
  ·exact absurd (List.mem_map.2 ⟨e',h',by rw [← hb,h]⟩:a.b∈es.map (·.b)) hn.1
  ·exact absurd (List.mem_map.2 ⟨e,h,by rw [hb,h']⟩:a.b∈es.map (·.b)) hn.1
  ·exact eb_inj hn.2 h h' hb
theorem setBy_all (es:List En) (b:Nat) (k:Int):(setBy es b k).map (fun e=>(e.b,e.i,e.p,e.x,e.at_))=es.map fun e=>(e.b,e.i,e.p,e.x,e.at_):=by
 unfold setBy;rw [List.map_map];refine List.map_congr_left fun e _=>?_
 dsimp only [Function.comp]
 split <;> rfl
def RecP (B:Nat) (F:Nat→Prop) (tb mb N:Nat) (S:List Stp) (nx:Nat) (es:List En) (sv lv:Value) (z:Stp) (w:World) (e:Ending) (w':World):Prop :=
 ∃ F' sv',e=.returned (.int .i64 ((nx:Nat):Int))∧TbM B F' tb mb N w' (S++[z]) (nx+1) es es es sv' lv∧Gw F (tbS tb mb es sv lv) w F' (tbS tb mb es sv' lv) w'
theorem record_any {B:Nat} {F:Nat→Prop} {tb mb N:Nat} {w:World} {S:List Stp} {nx:Nat} {es:List En} {sv lv:Value} (h:TbM B F tb mb N w S nx es es es sv lv) (x y z:Int) (hn:S.length<100000) (hx:nx<1000000) :
  Calls Tryz.prog 69 #[.pointer (some ⟨tb,0,none⟩),.agg #[.int .i64 x,.int .i64 y,.int .i64 z]] w (RecP B F tb mb N S nx es sv lv (x,y,z) w):=by
 obtain ⟨M0,hM0⟩:∃ M,Hid (M=tbS tb mb es sv lv):=⟨_,ι rfl⟩;have T:=ι h;have K:=ι (Gw.refl (M:=tbS tb mb es sv lv) h.Flt);have HN:=ι hn;have hb:Below w.heap.size w (w.alloc (.cells #[.int .i64 x,.int .i64 y,.int .i64 z] 51)):=(Below.refl _ _).alloc (Nat.le_refl _) _;replace T:=ι (T.out.up hb);replace K:=ι (K.out.up hb);have A0:=ι (show CF (Fup F w (w.alloc (.cells #[.int .i64 x,.int .i64 y,.int .i64 z] 51))) (w.alloc (.cells #[.int .i64 x,.int .i64 y,.int .i64 z] 51)) w.heap.size 0 (.int .i64 x) from ⟨by rw [Rg.cellNew]; rfl,.inr ⟨Nat.le_refl _,by simp⟩,by simp⟩);have A1:=ι (show CF (Fup F w (w.alloc (.cells #[.int .i64 x,.int .i64 y,.int .i64 z] 51))) (w.alloc (.cells #[.int .i64 x,.int .i64 y,.int .i64 z] 51)) w.heap.size 1 (.int .i64 y) from ⟨by rw [Rg.cellNew]; rfl,.inr ⟨Nat.le_refl _,by simp⟩,by simp⟩);have A2:=ι (show CF (Fup F w (w.alloc (.cells #[.int .i64 x,.int .i64 y,.int .i64 z] 51))) (w.alloc (.cells #[.int .i64 x,.int .i64 y,.int .i64 z] 51)) w.heap.size 2 (.int .i64 z) from ⟨by rw [Rg.cellNew]; rfl,.inr ⟨Nat.le_refl _,by simp⟩,by simp⟩)
 clear h hn hb;obtain ⟨xb,hxb⟩:∃ b,b=w.heap.size:=⟨_,rfl⟩
 go_enter Tryz.func69,Tryz.ntmps69
 go_upto_region 0 with (fail);refine Rg.wl ?_;refine Rg.lr 3 (Rg.exec_box _ _ rfl rfl) ?_;go_frame;refine Rg.la 4 (.int .i64 0) ?_;go_frame;generalize Fup F w (w.alloc (.cells #[.int .i64 x,.int .i64 y,.int .i64 z] 51))=F1 at *;rw [← hxb] at A0 A1 A2;generalize w.alloc (.cells #[.int .i64 x,.int .i64 y,.int .i64 z] 51)=w0 at *;rw [← hxb];clear hxb;go_upto_region 1 with (fail);have hV0:Below w0.heap.size w0 w0.drew:=(Below.refl _ _).drew;replace T:=ι (T.out.up hV0);replace A0:=ι (A0.out.up hV0);replace A1:=ι (A1.out.up hV0);replace A2:=ι (A2.out.up hV0);replace K:=ι (K.out.up hV0);generalize Fup F1 w0 w0.drew=F2 at *;clear hV0;refine Rg.Any.begin (S:=Rg.Both 8 (fun W:World=>W.cell? ⟨tb,0,none⟩=some sv∧W.cell? ⟨xb,0,none⟩=some (.int .i64 x)∧W.cell? ⟨xb,1,none⟩=some (.int .i64 y)∧W.cell? ⟨xb,2,none⟩=some (.int .i64 z)) (fun _=>True)) mix ?_
 generalize w0.drew=w1 at *;have hS:∀ (l:Array Bool) W,(fun W:World=>W.cell? ⟨tb,0,none⟩=some sv∧W.cell? ⟨xb,0,none⟩=some (.int .i64 x)∧W.cell? ⟨xb,1,none⟩=some (.int .i64 y)∧W.cell? ⟨xb,2,none⟩=some (.int .i64 z)) W→Rg.Both 8 (fun W:World=>W.cell? ⟨tb,0,none⟩=some sv∧W.cell? ⟨xb,0,none⟩=some (.int .i64 x)∧W.cell? ⟨xb,1,none⟩=some (.int .i64 y)∧W.cell? ⟨xb,2,none⟩=some (.int .i64 z)) (fun _=>True) l W:=fun l W h=>⟨.inr h,trivial⟩;have hS2:∀ (l:Array Bool) W,l.getD 8 false=true→Rg.Both 8 (fun W:World=>W.cell? ⟨tb,0,none⟩=some sv∧W.cell? ⟨xb,0,none⟩=some (.int .i64 x)∧W.cell? ⟨xb,1,none⟩=some (.int .i64 y)∧W.cell? ⟨xb,2,none⟩=some (.int .i64 z)) (fun _=>True) l W:=fun l W h=>⟨.inl h,trivial⟩;have hI:(fun W:World=>W.cell? ⟨tb,0,none⟩=some sv∧W.cell? ⟨xb,0,none⟩=some (.int .i64 x)∧W.cell? ⟨xb,1,none⟩=some (.int .i64 y)∧W.cell? ⟨xb,2,none⟩=some (.int .i64 z)) w1:=⟨T.out.h0.c,A0.out.cell,A1.out.cell,A2.out.cell⟩
 refine Rg.tm 0 8 (.pointer (some ⟨tb,0,none⟩)) 5 (hS _ _ hI) ?_;go_frame;refine Rg.tm 1 8 (.pointer (some ⟨tb,0,none⟩)) 6 (hS _ _ hI) ?_;go_frame;refine Rg.tg 2 8 (.pointer (some ⟨tb,0,none⟩)) 7 rfl rfl (.inl ⟨rfl,fun w _=>exec_nil _ rfl rfl⟩) (hS _ _ hI) ?_;go_frame;refine Rg.tg 3 8 (.pointer (some ⟨tb,0,none⟩)) 8 rfl rfl (.inl ⟨rfl,fun w _=>exec_field _ rfl rfl (recF0 _ _)⟩) (hS _ _ hI) ?_;go_frame;refine Rg.Any.takeT (i:=4) (t:=8) (v:=sv) (some 9) rfl rfl (by kernel_rfl) (by kernel_rfl) (by kernel_rfl) (fun _ _ _ h=>h) rfl (by kernel_rfl) rfl (Rg.yields_cell _ _ rfl rfl ⟨tb,0,none⟩ rfl (fun W hW=>Rg.run_loadSl _ _ Tryz.underlying36 hW.1)) (hS _ _ hI) ?_;go_frame;refine Rg.Any.takeT (i:=5) (t:=8) (v:=(.agg #[.int .i64 x,.int .i64 y,.int .i64 z])) (some 10) rfl rfl (by kernel_rfl) (by kernel_rfl) (by kernel_rfl) (fun _ _ _ h=>h) rfl (by kernel_rfl) rfl (Rg.yields_cell _ _ rfl rfl ⟨xb,0,none⟩ rfl (fun W hW=>run_loadSt hW.2.1 hW.2.2.1 hW.2.2.2)) (hS _ _ hI) ?_;go_frame
 obtain ⟨a9,c9,X9,r1,hc9,hk9,hT9,hkp9,hst9⟩:=T.out.push (x,y,z) (by have:=HN.out; omega) 36;have hba:Below w1.heap.size w1 (w1.alloc (.cells #[.int .i64 x,.int .i64 y,.int .i64 z] 51)):=(Below.refl _ _).alloc (Nat.le_refl _) _;have hq0:sv.ownBlock≠some xb:=fun e=>T.out.nF xb A0.out.inF (.inr (.inr (.inl e)));have hI2_m:=(show (fun W:World=>W.cell? ⟨tb,0,none⟩=some sv∧W.cell? ⟨xb,0,none⟩=some (.int .i64 x)∧W.cell? ⟨xb,1,none⟩=some (.int .i64 y)∧W.cell? ⟨xb,2,none⟩=some (.int .i64 z)) (w1.alloc (.cells #[.int .i64 x,.int .i64 y,.int .i64 z] 51)) from ⟨(hba.cell (p:=⟨tb,0,none⟩) T.out.h0.lt).trans T.out.h0.c,(hba.cell (p:=⟨xb,0,none⟩) A0.out.lt).trans A0.out.cell,(hba.cell (p:=⟨xb,1,none⟩) A1.out.lt).trans A1.out.cell,(hba.cell (p:=⟨xb,2,none⟩) A2.out.lt).trans A2.out.cell⟩);refine Rg.Any.one (i:=6) (by kernel_rfl) (Rg.Any.run (some 11) rfl rfl rfl (Rg.exec_buildSlice _ _ _ rfl (.agg #[.int .i64 x,.int .i64 y,.int .i64 z]) rfl (run_build1St w1 x y z)) (hS _ _ hI2_m) ?_)
 go_frame;have hI3_m:=(show (fun W:World=>W.cell? ⟨tb,0,none⟩=some sv∧W.cell? ⟨xb,0,none⟩=some (.int .i64 x)∧W.cell? ⟨xb,1,none⟩=some (.int .i64 y)∧W.cell? ⟨xb,2,none⟩=some (.int .i64 z)) X9 from ⟨hc9.c,(World.cell?_of_block (a:=⟨xb,0,none⟩) (hk9.block xb A0.out.lt hq0)).trans A0.out.cell,(World.cell?_of_block (a:=⟨xb,1,none⟩) (hk9.block xb A1.out.lt hq0)).trans A1.out.cell,(World.cell?_of_block (a:=⟨xb,2,none⟩) (hk9.block xb A2.out.lt hq0)).trans A2.out.cell⟩);refine Rg.Any.one (i:=7) (by kernel_rfl) (Rg.Any.run (some 12) rfl rfl rfl (Rg.exec_append _ _ _ rfl rfl rfl r1) (hS _ _ hI3_m) ?_);go_frame;refine Rg.Any.one (i:=8) (by kernel_rfl) (Rg.Any.run (some 13) rfl rfl rfl (exec_nil _ rfl rfl) (hS2 _ _ rfl) ?_);go_frame;refine Rg.tg 9 8 (.pointer (some ⟨tb,0,none⟩)) 14 rfl rfl (.inl ⟨rfl,fun w _=>exec_field _ rfl rfl (recF0 _ _)⟩) (hS2 _ _ rfl) ?_;go_frame
 refine Rg.Any.one (i:=10) (by kernel_rfl) (Rg.Any.runSkip none rfl rfl rfl (Rg.exec_store _ _ _ rfl _ rfl _ rfl (Rg.run_storeSl _ infoStepsV hc9.c hc9.f)) (hS2 _ _ rfl) ?_);go_frame;refine Rg.Any.done (by kernel_rfl) ?_ _;clear hS2;clear hS hI3_m;replace K:=ι (K.out.trans (T.out.gw hkp9 hst9));replace T:=ι hT9;clear hT9 hkp9 hst9 hk9 hc9 r1 A0 A1 A2;generalize X9.setCell ⟨tb,0,none⟩ (.slice a9 (S.length+1) c9)=W5 at *;generalize Value.slice a9 (S.length+1) c9=sv9 at *;go_upto_region 2 with (fail);refine Rg.wl ?_;refine Rg.lm 15 (.pointer (some ⟨tb,0,none⟩)) ?_;go_frame;refine Rg.lr 16 (exec_nil _ rfl rfl) ?_;go_frame;refine Rg.lr 17 (exec_field _ rfl rfl (recF1 _ _)) ?_;go_frame;refine Rg.lr 18 (Rg.exec_load (v:=.int .i64 ((nx:Nat):Int)) _ _ rfl ⟨tb,1,none⟩ rfl (run_loadInt T.out.h1.c)) ?_;go_frame;refine Rg.lr 19 (exec_bin (R:=.int .i64 (((nx+1):Nat):Int)) .add _ _ _ rfl rfl rfl (b_add _ (by omega) (by omega))) ?_;go_frame
 refine Rg.lr 20 (exec_nil _ rfl rfl) ?_;go_frame;refine Rg.lr 21 (exec_field _ rfl rfl (recF1 _ _)) ?_;go_frame;obtain ⟨hT2,hkp2⟩:=T.out.next (nx+1);refine Rg.list_skip none rfl rfl (Rg.exec_store _ _ _ rfl _ rfl _ rfl (run_storeInt _ T.out.h1.c T.out.h1.f)) ?_;go_frame;replace K:=ι (K.out.trans (T.out.gw hkp2 (fun _=>.inl)));replace T:=ι hT2;clear hT2 hkp2;generalize W5.setCell ⟨tb,1,none⟩ (.int .i64 ((nx+1:Nat):Int))=W6 at *;go_upto_region 3 with (fail);refine Rg.wl ?_;refine Rg.lm 22 (.pointer (some ⟨tb,0,none⟩)) ?_;go_frame;refine Rg.lr 23 (exec_nil _ rfl rfl) ?_;go_frame;refine Rg.lr 24 (exec_field _ rfl rfl (recF1 _ _)) ?_;go_frame;refine Rg.lr 25 (Rg.exec_load (v:=.int .i64 (((nx+1):Nat):Int)) _ _ rfl ⟨tb,1,none⟩ rfl (run_loadInt T.out.h1.c)) ?_;go_frame;refine Rg.lr 26 (exec_bin (R:=.int .i64 ((nx:Nat):Int)) .sub _ _ _ rfl rfl rfl (b_sub _ (by omega) (by omega))) ?_;go_frame
 refine Rg.la 4 (.int .i64 ((nx:Nat):Int)) ?_;go_frame;go_wp2;go_ret;exact ⟨_,_,rfl,T.out,K.out⟩
def InvP (B:Nat) (F:Nat→Prop) (tb mb N:Nat) (gs:List (List Nat)) (S:List Stp) (T:List (List Nat)) (es:List En) (sv lv:Value) (x:List Nat) (w:World) (ed:Ending) (w':World):Prop :=
 ∃ (F':Nat→Prop) (sv':Value) (S':List Stp) (T':List (List Nat)) (es':List En) (k:Nat),ed=.returned (.int .i64 ((k:Nat):Int))∧T'[k]?=some (Ma.invN x)∧T <+: T'∧S'.length≤S.length+1∧Tb N gs S' T' es'∧trE es'=trE es∧es'.map (fun e=>(e.b,e.i,e.p,e.x,e.at_))=es.map (fun e=>(e.b,e.i,e.p,e.x,e.at_)) ∧
  TbM B F' tb mb N w' S' T'.length es' es' es' sv' lv∧Gw F (tbS tb mb es sv lv) w F' (tbS tb mb es' sv' lv) w'
theorem inverse_any {B:Nat} {F:Nat→Prop} {tb mb N:Nat} {w:World} {gs:List (List Nat)} {S:List Stp} {T:List (List Nat)} {es:List En} {sv lv:Value} (hp:Tb N gs S T es) (h:TbM B F tb mb N w S T.length es es es sv lv) {b:Nat} {x:List Nat} (hb:∃ e∈es,e.b=b∧e.x=x) (hn:T.length<100000) :
  Calls Tryz.prog 113 #[.pointer (some ⟨tb,0,none⟩),.pointer (some ⟨b,0,none⟩)] w (InvP B F tb mb N gs S T es sv lv x w):=by
 obtain ⟨e,he,rfl,rfl⟩:=hb
 have hsl:S.length<100000:=by have:=hp.sk.len; omega
 have HP:=ι hp;have TM:=ι h;have HE:=ι he;have EO:=ι (hp.en e he);have HN:=ι hn;have HSL:=ι hsl;have HNB:=ι h.ds.nb;have K:=ι (Gw.refl (M:=tbS tb mb es sv lv) h.Flt);obtain ⟨xv,yv,q0⟩:=h.en e he;have EA:=ι q0;obtain ⟨eb,heb⟩:∃ b,Hid (e.b=b):=⟨_,ι rfl⟩;obtain ⟨ek,hek⟩:∃ b,Hid (e.at_=b):=⟨_,ι rfl⟩;obtain ⟨ey,hey⟩:∃ b,Hid (e.by_=b):=⟨_,ι rfl⟩;have C2:=ι (show Cw w eb 2 (.int .i64 ((ek:Nat):Int)) by rw [← heb.out,← hek.out]; exact q0.c2);have C3:=ι (show Cw w eb 3 (.int .i64 ey) by rw [← heb.out,← hey.out]; exact q0.c3);rw [heb.out];clear hp h he hn hsl q0 EA
 go_enter Tryz.func113,Tryz.ntmps113
 go_upto_region 0 with (fail);refine Rg.wl ?_;refine Rg.la 4 (.int .i64 ((0:Nat):Int)) ?_;go_frame
 by_cases hy:ey<0
 case neg =>
  obtain ⟨k,hk,hkT⟩:∃ k:Nat,e.by_=((k:Nat):Int)∧T[k]?=some (Ma.invN e.x):=by
   rcases EO.out.by_ with h9 | h9
   ·rw [hey.out] at h9; omega
   ·exact h9
  have HKT:=ι hkT
  have hky:ey=((k:Nat):Int):=by rw [← hey.out]; exact hk
  clear hk hkT;subst hky;go_upto_region 1 with (fail);refine Rg.wl ?_;refine Rg.lm 5 (.pointer (some ⟨eb,0,none⟩)) ?_;go_frame;refine Rg.lr 6 (exec_nil _ rfl rfl) ?_;go_frame;refine Rg.lr 7 (exec_field _ rfl rfl (enF3 _ _)) ?_;go_frame;refine Rg.lr 8 (Rg.exec_load (v:=.int .i64 ((k:Nat):Int)) _ _ rfl ⟨eb,3,none⟩ rfl (run_loadInt C3.out.c)) ?_;go_frame;refine Rg.lr 9 (exec_bin (R:=.bool false) .lss _ _ _ rfl rfl rfl (b_lss _ (decide_eq_false hy))) ?_;go_frame;go_upto_region 3 with (fail);refine Rg.wl ?_;refine Rg.lm 22 (.pointer (some ⟨eb,0,none⟩)) ?_;go_frame;refine Rg.lr 23 (exec_nil _ rfl rfl) ?_;go_frame;refine Rg.lr 24 (exec_field _ rfl rfl (enF3 _ _)) ?_;go_frame;refine Rg.lr 25 (Rg.exec_load (v:=.int .i64 ((k:Nat):Int)) _ _ rfl ⟨eb,3,none⟩ rfl (run_loadInt C3.out.c)) ?_;go_frame;refine Rg.la 4 (.int .i64 ((k:Nat):Int)) ?_;go_frame;go_wp2;go_ret;exact ⟨F,sv,S,T,es,k,rfl,HKT.out,List.prefix_rfl,Nat.le_succ _,HP.out,rfl,rfl,TM.out,K.out⟩
 case pos =>
  skip
  go_upto_region 1 with (fail);refine Rg.wl ?_;refine Rg.lm 5 (.pointer (some ⟨eb,0,none⟩)) ?_;go_frame;refine Rg.lr 6 (exec_nil _ rfl rfl) ?_;go_frame;refine Rg.lr 7 (exec_field _ rfl rfl (enF3 _ _)) ?_;go_frame;refine Rg.lr 8 (Rg.exec_load (v:=.int .i64 ey) _ _ rfl ⟨eb,3,none⟩ rfl (run_loadInt C3.out.c)) ?_;go_frame;refine Rg.lr 9 (exec_bin (R:=.bool true) .lss _ _ _ rfl rfl rfl (b_lss _ (decide_eq_true hy))) ?_;go_frame;clear hy;have HC2:=ι ((show Below w.heap.size w w.drew from (Below.refl _ _).drew).cell (p:=⟨eb,2,none⟩) C2.out.lt);have HC3:=ι (C3.out.kp (M:=fun _=>False) (Rg.Kp.of_below (show Below w.heap.size w w.drew from (Below.refl _ _).drew)) id);go_upto_region 2 with (fail);have hV0:Below w.heap.size w w.drew:=(Below.refl _ _).drew;replace TM:=ι (TM.out.up hV0);replace K:=ι (K.out.up hV0);generalize Fup F w w.drew=F1 at *;clear hV0;refine Rg.Any.begin (S:=Rg.Both 8 (fun W:World=>W.cell? ⟨eb,2,none⟩=some (.int .i64 ((ek:Nat):Int))) (fun _=>True)) mix ?_
  generalize w.drew=w1 at *;have hS:∀ (l:Array Bool) W,(fun W:World=>W.cell? ⟨eb,2,none⟩=some (.int .i64 ((ek:Nat):Int))) W→Rg.Both 8 (fun W:World=>W.cell? ⟨eb,2,none⟩=some (.int .i64 ((ek:Nat):Int))) (fun _=>True) l W:=fun l W h=>⟨.inr h,trivial⟩;have hS2:∀ (l:Array Bool) W,l.getD 8 false=true→Rg.Both 8 (fun W:World=>W.cell? ⟨eb,2,none⟩=some (.int .i64 ((ek:Nat):Int))) (fun _=>True) l W:=fun l W h=>⟨.inl h,trivial⟩;have hI:(fun W:World=>W.cell? ⟨eb,2,none⟩=some (.int .i64 ((ek:Nat):Int))) w1:=HC2.out.trans C2.out.c;refine Rg.tm 0 8 (.pointer (some ⟨eb,0,none⟩)) 10 (hS _ _ hI) ?_;go_frame;refine Rg.tm 1 8 (.pointer (some ⟨tb,0,none⟩)) 11 (hS _ _ hI) ?_;go_frame;refine Rg.tg 2 8 (.pointer (some ⟨tb,0,none⟩)) 12 rfl rfl (.inl ⟨rfl,fun w _=>exec_nil _ rfl rfl⟩) (hS _ _ hI) ?_;go_frame;refine Rg.tg 3 8 (.pointer (some ⟨tb,0,none⟩)) 13 rfl rfl (.inl ⟨rfl,fun w _=>exec_field _ rfl rfl (tblF0 _ _)⟩) (hS _ _ hI) ?_;go_frame
  refine Rg.tm 4 8 (.pointer (some ⟨eb,0,none⟩)) 14 (hS _ _ hI) ?_;go_frame;refine Rg.tg 5 8 (.pointer (some ⟨eb,0,none⟩)) 15 rfl rfl (.inl ⟨rfl,fun w _=>exec_nil _ rfl rfl⟩) (hS _ _ hI) ?_;go_frame;refine Rg.tg 6 8 (.pointer (some ⟨eb,2,none⟩)) 16 rfl rfl (.inl ⟨rfl,fun w _=>exec_field _ rfl rfl (enF2 _ _)⟩) (hS _ _ hI) ?_;go_frame;refine Rg.Any.takeT (i:=7) (t:=8) (v:=.int .i64 ((ek:Nat):Int)) (some 17) rfl rfl (by kernel_rfl) (by kernel_rfl) (by kernel_rfl) (fun _ _ _ h=>h) rfl (by kernel_rfl) rfl (Rg.yields_cell _ _ rfl rfl ⟨eb,2,none⟩ rfl (fun W hW=>run_loadInt hW)) (hS _ _ hI) ?_;go_frame;refine Rg.Any.one (i:=8) (by kernel_rfl) (Rg.Any.run (some 18) rfl rfl rfl (exec_buildSi _ _ rfl rfl rfl) (hS2 _ _ rfl) ?_);go_frame;refine Rg.Any.one (i:=9) (by kernel_rfl) (Rg.Any.ask (some 19) rfl rfl rfl _ _ (exec_fn 69 _ _ _ rfl rfl rfl (Decl0 _ _)) ?_);refine (record_any TM.out 2 ((ek:Nat):Int) 0 HSL.out (by have:=HN.out; omega)).mono ?_
  rintro e1 w2 ⟨F9,sv9,rfl,hT9,hg9⟩;have hI2_k:=trivial;clear hI;refine ⟨_,rfl,(hS2 _ _ rfl),?_⟩;go_frame;replace TM:=ι hT9;replace K:=ι (K.out.trans hg9);clear hg9 hT9;refine Rg.tg 10 8 (.pointer (some ⟨eb,0,none⟩)) 20 rfl rfl (.inl ⟨rfl,fun w _=>exec_nil _ rfl rfl⟩) (hS2 _ _ rfl) ?_;go_frame;refine Rg.tg 11 8 (.pointer (some ⟨eb,3,none⟩)) 21 rfl rfl (.inl ⟨rfl,fun w _=>exec_field _ rfl rfl (enF3 _ _)⟩) (hS2 _ _ rfl) ?_;go_frame;obtain ⟨xv9,yv9,q9⟩:=TM.out.en e HE.out;have C39:=ι (show Cw w2 eb 3 (.int .i64 ey) by rw [← heb.out,← hey.out]; exact q9.c3);clear q9;obtain ⟨hT8,hkp8,hst8⟩:=TM.out.by HE.out ((T.length:Nat):Int);rw [heb.out] at hT8 hkp8 hst8;refine Rg.Any.one (i:=12) (by kernel_rfl) (Rg.Any.runSkip none rfl rfl rfl (Rg.exec_store _ _ _ rfl _ rfl _ rfl (run_storeInt _ C39.out.c C39.out.f)) (hS2 _ _ rfl) ?_);go_frame;refine Rg.Any.done (by kernel_rfl) ?_ _
  clear hS2;clear hS hI2_k;replace K:=ι (K.out.trans (TM.out.gw hkp8 (fun q hq=>.inl ((hst8 q).1 hq))));replace TM:=ι hT8;have C3N:=ι (show (w2.setCell ⟨eb,3,none⟩ (.int .i64 ((T.length:Nat):Int))).cell? ⟨eb,3,none⟩=some (.int .i64 ((T.length:Nat):Int)) from World.cell?_setCell_same (h:=C39.out.c) ..);generalize w2.setCell ⟨eb,3,none⟩ (.int .i64 ((T.length:Nat):Int))=W7 at *;have hmk:=HP.out.sk.inv EO.out.at_;have hpre:T <+: T++[Ma.invN e.x]:=⟨_,rfl⟩;have hlast:=at_last (T:=T) (Ma.invN e.x)
  have HP2:=ι ((HP.out.grow hmk hpre).setBy (b:=eb) (k:=T.length) (fun e0 h0 hb0=>by
   have h1:e0=e:=eb_inj HNB.out h0 HE.out (by rw [hb0,heb.out])
   rw [h1]; exact hlast))
  rw [hek.out] at hmk HP2;go_upto_region 3 with (fail);refine Rg.wl ?_;refine Rg.lm 22 (.pointer (some ⟨eb,0,none⟩)) ?_;go_frame;refine Rg.lr 23 (exec_nil _ rfl rfl) ?_;go_frame;refine Rg.lr 24 (exec_field _ rfl rfl (enF3 _ _)) ?_;go_frame;refine Rg.lr 25 (Rg.exec_load (v:=.int .i64 ((T.length:Nat):Int)) _ _ rfl ⟨eb,3,none⟩ rfl (run_loadInt C3N.out)) ?_;go_frame;refine Rg.la 4 (.int .i64 ((T.length:Nat):Int)) ?_;go_frame;go_wp2;go_ret;refine ⟨_,sv9,_,_,_,T.length,rfl,hlast,hpre,?_,HP2.out,?_,?_,?_,K.out⟩
  ·rw [List.length_append]; exact Nat.le_refl _
  ·exact setBy_tr _ _ _
  ·exact setBy_all _ _ _
  ·rw [List.length_append]; exact TM.out

theorem clIns1 (args:Array Value) (w:World):(callFunc 115 args).run Tryz.prog w=.ok (.enter 115 args) w:=by kernel_rfl
theorem clPro1 (args:Array Value) (w:World):(callFunc 68 args).run Tryz.prog w=.ok (.enter 68 args) w:=by kernel_rfl
def RdV (M:Nat→Prop) (W:World) (ad:Option Addr) (us:List Value):Prop:=0<us.length→∃ g o,ad=some ⟨g,o,none⟩∧g<W.heap.size∧¬ M g∧∀ i (h:i<us.length),W.cell? ⟨g,o+i,none⟩=some us[i]
theorem RdV.kp {M M' N:Nat→Prop} {w w':World} {ad:Option Addr} {us:List Value} (h:RdV M w ad us) (hk:Rg.Kp N w w') (h1:∀ k,k<w.heap.size→N k→M k) (h2:∀ k,k<w.heap.size→M' k→M k):RdV M' w' ad us:=fun h0=>by
 obtain ⟨g,o,e,hg,hm,hc⟩:=h h0;exact ⟨g,o,e,Nat.lt_of_lt_of_le hg hk.size,fun q=>hm (h2 g hg q),fun i hi=>(World.cell?_of_block (a:=⟨g,o+i,none⟩) (hk.block g hg (fun q=>hm (h1 g hg q)))).trans (hc i hi)⟩
theorem RdV.gw {F M F' M':Nat→Prop} {w w':World} {ad:Option Addr} {us:List Value} (h:RdV M w ad us) (hg:Gw F M w F' M' w'):RdV M' w' ad us :=
 h.kp hg.kp (fun _ _ e=>e) (fun k hk e=>(hg.nM k e).elim id (fun q=>absurd hk (by omega)))
theorem RdV.below {M:Nat→Prop} {w w':World} {ad:Option Addr} {us:List Value} (h:RdV M w ad us) (hb:Below w.heap.size w w'):RdV M w' ad us :=
 h.kp (N:=fun _=>False) (Rg.Kp.of_below hb) (fun _ _=>False.elim) (fun _ _ e=>e)
theorem ins1_any {B:Nat} {F:Nat→Prop} {tb mb N tp:Nat} {w:World} {S:List Stp} {nx:Nat} {es:List En} {sv lv:Value} (h:TbM B F tb mb N w S nx es es es sv lv) (hc:CF F w tp 0 (.pointer (some ⟨tb,0,none⟩))) (x y:Int) (hn:S.length<100000) (hx:nx<1000000) :
  Calls Tryz.prog 115 #[.int .i64 x,.int .i64 y,.pointer (some ⟨tp,0,none⟩)] w (RecP B F tb mb N S nx es sv lv (1,x,y) w):=by
 have T:=ι h;have C:=ι hc;have HN:=ι hn;have HX:=ι hx;clear h hc hn hx
 go_enter Tryz.func115,Tryz.ntmps115
 go_upto_region 0 with (fail);refine Rg.wl ?_;refine Rg.la 5 (.int .i64 ((0:Nat):Int)) ?_;go_frame;go_upto_region 1 with (fail);refine Rg.wl ?_;refine Rg.lr 6 (Rg.exec_load (v:=.pointer (some ⟨tb,0,none⟩)) _ _ rfl ⟨tp,0,none⟩ rfl (Rg.run_loadPtr _ _ Tryz.underlying98 C.out.cell)) ?_;go_frame;refine Rg.lr 7 (exec_nil _ rfl rfl) ?_;go_frame;refine Rg.lr 8 (exec_field _ rfl rfl (tblF0 _ _)) ?_;go_frame;refine Rg.lm 9 (.int .i64 x) ?_;go_frame;refine Rg.lm 10 (.int .i64 y) ?_;go_frame;refine Rg.lr 11 (exec_buildSm _ _ _ rfl rfl rfl rfl) ?_;go_frame;refine Rg.lk 12 (exec_fn 69 _ _ _ rfl rfl rfl (Decl0 _ _)) ?_;refine (record_any T.out 1 x y HN.out HX.out).mono ?_;rintro e1 w1 ⟨F9,sv9,rfl,hT9,hg9⟩;have hg9x:=hg9;refine ⟨_,rfl,?_⟩;go_frame;clear hg9x;refine Rg.la 5 (.int .i64 ((nx:Nat):Int)) ?_;go_frame;go_wp2;go_ret;exact ⟨_,_,rfl,hT9,hg9⟩
theorem pro1_any {B:Nat} {F:Nat→Prop} {tb mb N tp:Nat} {w:World} {S:List Stp} {nx:Nat} {es:List En} {sv lv:Value} (h:TbM B F tb mb N w S nx es es es sv lv) (hc:CF F w tp 0 (.pointer (some ⟨tb,0,none⟩))) (x:Int) {e:En} (he:e∈es) (hn:S.length<100000) (hx:nx<1000000) :
  Calls Tryz.prog 68 #[.int .i64 x,.pointer (some ⟨e.b,0,none⟩),.pointer (some ⟨tp,0,none⟩)] w (RecP B F tb mb N S nx es sv lv (1,x,((e.at_:Nat):Int)) w):=by
 have TM:=ι h;have C:=ι hc;have HN:=ι hn;have HX:=ι hx;have K:=ι (Gw.refl (M:=tbS tb mb es sv lv) h.Flt);obtain ⟨xv,yv,q0⟩:=h.en e he;obtain ⟨eb,heb⟩:∃ b,Hid (e.b=b):=⟨_,ι rfl⟩;obtain ⟨ek,hek⟩:∃ b,Hid (e.at_=b):=⟨_,ι rfl⟩;have C2:=ι (show Cw w eb 2 (.int .i64 ((ek:Nat):Int)) by rw [← heb.out,← hek.out]; exact q0.c2);have HC2:=ι ((show Below w.heap.size w w.drew from (Below.refl _ _).drew).cell (p:=⟨eb,2,none⟩) C2.out.lt);rw [heb.out,hek.out];have HE:=ι he;clear h hc hn hx he q0
 go_enter Tryz.func68,Tryz.ntmps68
 go_upto_region 0 with (fail);refine Rg.wl ?_;refine Rg.la 5 (.int .i64 ((0:Nat):Int)) ?_;go_frame;go_upto_region 1 with (fail);have hV0:Below w.heap.size w w.drew:=(Below.refl _ _).drew;replace TM:=ι (TM.out.up hV0);replace C:=ι (C.out.up hV0);replace K:=ι (K.out.up hV0);generalize Fup F w w.drew=F1 at *;clear hV0;refine Rg.Any.begin (S:=Rg.Both 10 (fun W:World=>W.cell? ⟨tp,0,none⟩=some (.pointer (some ⟨tb,0,none⟩))∧W.cell? ⟨eb,2,none⟩=some (.int .i64 ((ek:Nat):Int))) (fun _=>True)) mix ?_;generalize w.drew=w1 at *;have hS:∀ (l:Array Bool) W,(fun W:World=>W.cell? ⟨tp,0,none⟩=some (.pointer (some ⟨tb,0,none⟩))∧W.cell? ⟨eb,2,none⟩=some (.int .i64 ((ek:Nat):Int))) W→Rg.Both 10 (fun W:World=>W.cell? ⟨tp,0,none⟩=some (.pointer (some ⟨tb,0,none⟩))∧W.cell? ⟨eb,2,none⟩=some (.int .i64 ((ek:Nat):Int))) (fun _=>True) l W:=fun l W h=>⟨.inr h,trivial⟩
 have hS2:∀ (l:Array Bool) W,l.getD 10 false=true→Rg.Both 10 (fun W:World=>W.cell? ⟨tp,0,none⟩=some (.pointer (some ⟨tb,0,none⟩))∧W.cell? ⟨eb,2,none⟩=some (.int .i64 ((ek:Nat):Int))) (fun _=>True) l W:=fun l W h=>⟨.inl h,trivial⟩;have hI:(fun W:World=>W.cell? ⟨tp,0,none⟩=some (.pointer (some ⟨tb,0,none⟩))∧W.cell? ⟨eb,2,none⟩=some (.int .i64 ((ek:Nat):Int))) w1:=⟨C.out.cell,HC2.out.trans C2.out.c⟩;refine Rg.Any.takeT (i:=0) (t:=10) (v:=.pointer (some ⟨tb,0,none⟩)) (some 6) rfl rfl (by kernel_rfl) (by kernel_rfl) (by kernel_rfl) (fun _ _ _ h=>h) rfl (by kernel_rfl) rfl (Rg.yields_cell _ _ rfl rfl ⟨tp,0,none⟩ rfl (fun W hW=>Rg.run_loadPtr _ _ Tryz.underlying98 hW.1)) (hS _ _ hI) ?_;go_frame;refine Rg.tg 1 10 (.pointer (some ⟨tb,0,none⟩)) 7 rfl rfl (.inl ⟨rfl,fun w _=>exec_nil _ rfl rfl⟩) (hS _ _ hI) ?_;go_frame;refine Rg.tg 2 10 (.pointer (some ⟨tb,0,none⟩)) 8 rfl rfl (.inl ⟨rfl,fun w _=>exec_field _ rfl rfl (tblF0 _ _)⟩) (hS _ _ hI) ?_;go_frame
 refine Rg.tm 3 10 (.int .i64 x) 9 (hS _ _ hI) ?_;go_frame;refine Rg.tm 4 10 (.pointer (some ⟨eb,0,none⟩)) 10 (hS _ _ hI) ?_;go_frame;refine Rg.tg 5 10 (.pointer (some ⟨eb,0,none⟩)) 11 rfl rfl (.inl ⟨rfl,fun w _=>exec_nil _ rfl rfl⟩) (hS _ _ hI) ?_;go_frame;refine Rg.tg 6 10 (.pointer (some ⟨eb,2,none⟩)) 12 rfl rfl (.inl ⟨rfl,fun w _=>exec_field _ rfl rfl (enF2 _ _)⟩) (hS _ _ hI) ?_;go_frame;refine Rg.Any.takeT (i:=7) (t:=10) (v:=.int .i64 ((ek:Nat):Int)) (some 13) rfl rfl (by kernel_rfl) (by kernel_rfl) (by kernel_rfl) (fun _ _ _ h=>h) rfl (by kernel_rfl) rfl (Rg.yields_cell _ _ rfl rfl ⟨eb,2,none⟩ rfl (fun W hW=>run_loadInt hW.2)) (hS _ _ hI) ?_;go_frame;refine Rg.tg 8 10 ((.agg #[.int .i64 1,.int .i64 x,.int .i64 ((ek:Nat):Int)])) 14 rfl rfl (.inl ⟨rfl,fun w _=>exec_buildSm _ _ _ rfl rfl rfl rfl⟩) (hS _ _ hI) ?_;go_frame;refine Rg.Any.one (i:=9) (by kernel_rfl) (Rg.Any.ask (some 15) rfl rfl rfl _ _ (exec_fn 69 _ _ _ rfl rfl rfl (Decl0 _ _)) ?_)
 refine (record_any TM.out 1 x ((ek:Nat):Int) HN.out HX.out).mono ?_;rintro e1 w2 ⟨F9,sv9,rfl,hT9,hg9⟩;have hg9x:=hg9;have hC9:=C.out.kg hg9.kg;obtain ⟨xv9,yv9,q9⟩:=hT9.en e HE.out;have HK9:=(show (fun W:World=>W.cell? ⟨tp,0,none⟩=some (.pointer (some ⟨tb,0,none⟩))∧W.cell? ⟨eb,2,none⟩=some (.int .i64 ((ek:Nat):Int))) w2 from ⟨(C.out.kg hg9.kg).cell,by rw [← heb.out,← hek.out]; exact q9.c2.c⟩);have hI2_k:=HK9;clear hI;refine ⟨_,rfl,(hS _ _ hI2_k),?_⟩;go_frame;replace TM:=ι hT9;replace C:=ι hC9;replace K:=ι (K.out.trans hg9x);clear hg9x hT9 hC9;refine Rg.Any.one (i:=10) (by kernel_rfl) (Rg.Any.run (some 5) rfl rfl rfl (Rg.xa (.int .i64 ((nx:Nat):Int)) _ rfl rfl) (hS2 _ _ rfl) ?_);go_frame;refine Rg.Any.done (by kernel_rfl) ?_ _;clear hS2;clear hS hI2_k;go_wp2;go_ret;exact ⟨_,_,rfl,TM.out,K.out⟩
def FoP (B:Nat) (F:Nat→Prop) (tb mb N:Nat) (gs:List (List Nat)) (S:List Stp) (T:List (List Nat)) (es:List En) (sv lv:Value) (n:Nat) (y:List Nat) (w:World) (ed:Ending) (w':World):Prop :=
 ∃ (F':Nat→Prop) (sv':Value) (S':List Stp) (T':List (List Nat)) (a:Nat),ed=.returned (.int .i64 ((a:Nat):Int))∧T'[a]?=some y∧T <+: T'∧S'.length=S.length+n∧Mk N gs S' T'∧(0<n→a+1=T'.length) ∧
  TbM B F' tb mb N w' S' T'.length es es es sv' lv∧Gw F (tbS tb mb es sv lv) w F' (tbS tb mb es sv' lv) w'
theorem foldTI_any {B:Nat} {F:Nat→Prop} {tb mb N tp:Nat} {w:World} {gs:List (List Nat)} {S:List Stp} {T:List (List Nat)} {es:List En} {sv lv:Value} (hm:Mk N gs S T) (h:TbM B F tb mb N w S T.length es es es sv lv) (hc:CF F w tp 0 (.pointer (some ⟨tb,0,none⟩)))
  {l:List Nat} {ad:Option Addr} {cap a0:Nat} {y0:List Nat} (hl:∀ k∈l,∃ z,T[k]?=some z) (ha:T[a0]?=some y0) (hr:RdV (tbS tb mb es sv lv) w ad (l.map fun k:Nat=>Value.int .i64 ((k:Nat):Int))) (hn:T.length+l.length<100000) :
  Calls Tryz.prog 114 #[.slice ad l.length cap,.int .i64 ((a0:Nat):Int),(.func (.func 115) #[] #[.pointer (some ⟨tp,0,none⟩)])] w (FoP B F tb mb N gs S T es sv lv l.length (l.foldl (fun y (k:Nat)=>Ma.mulN y (T.getD k [])) y0) w):=by
 have HL:=ι hl;have HN:=ι hn;have HM0:=ι hm.len;have MK:=ι hm;have TM:=ι h;have C:=ι hc;have RD:=ι hr;have HA:=ι (show T[a0]?=some ((l.take 0).foldl (fun y (k:Nat)=>Ma.mulN y (T.getD k [])) y0) from ha);have HP:=ι (show T <+: T from List.prefix_rfl);have HS:=ι (show S.length=S.length+0 from rfl);have HE:=ι (show 0<0→a0+1=T.length from fun h=>absurd h (Nat.lt_irrefl 0));have K:=ι (Gw.refl (M:=tbS tb mb es sv lv) h.Flt);obtain ⟨m,hm⟩:∃ m,Hid (l.length=m):=⟨_,ι rfl⟩;rw [hm.out]
 have hm5:m<100000:=by have:=hm.out; omega
 clear hl hn h hc hr ha
 go_enter Tryz.func114,Tryz.ntmps114
 go_upto_region 0 with (fail);refine Rg.wl ?_;refine Rg.la 6 (.int .i64 ((0:Nat):Int)) ?_;go_frame;go_upto_region 1 with (fail);refine Rg.wl ?_;refine Rg.lm 9 (.slice ad m cap) ?_;go_frame;refine Rg.lr 10 (exec_len _ _ _ rfl Tryz.underlying25 _ _ _ rfl) ?_;go_frame;refine Rg.lm 11 (.int .i64 ((0:Nat):Int)) ?_;go_frame;go_wp2
 go_loopw [1,11] (fun vv iv wr=>∃ (i a:Nat) (F1:Nat→Prop) (sv1:Value) (S1:List Stp) (T1:List (List Nat)),vv=.int .i64 ((a:Nat):Int)∧iv=.int .i64 ((i:Nat):Int)∧i≤m∧Hid (T1[a]?=some ((l.take i).foldl (fun y (k:Nat)=>Ma.mulN y (T.getD k [])) y0))∧Hid (T <+: T1)∧Hid (S1.length=S.length+i)∧Hid (0<i→a+1=T1.length)∧Hid (Mk N gs S1 T1)∧Hid (TbM B F1 tb mb N wr S1 T1.length es es es sv1 lv)∧Hid (Gw F (tbS tb mb es sv lv) w F1 (tbS tb mb es sv1 lv) wr)∧Hid (CF F1 wr tp 0 (.pointer (some ⟨tb,0,none⟩)))∧Hid (RdV (tbS tb mb es sv1 lv) wr ad (l.map fun k:Nat=>Value.int .i64 ((k:Nat):Int)))) (fun _ iv _=>m - (intOf iv).toNat)
 case atStart=>exact ⟨0,a0,F,sv,S,T,rfl,rfl,Nat.zero_le _,HA,HP,HS,HE,MK,TM,K,C,RD⟩
 case round =>
  clear HA HP HS HE MK TM K C RD;obtain ⟨i,a,F1,sv1,S1,T1,rfl,rfl,hi,HA,HP,HS,HE,MK,TM,K,C,RD⟩:=hrel
  by_cases hil:i<m
  case neg =>
   have HT:=ι (show l.take i=l from List.take_of_length_le (by have:=hm.out; omega))
   have hie:i=m:=by omega
   subst hie;go_upto_region 2 with (fail);refine Rg.wl ?_;refine Rg.lr 12 (exec_bin (R:=.bool false) .lss _ _ _ rfl rfl rfl (b_lss _ Rg.dF)) ?_;go_frame;go_upto_region 6 with (fail);refine Rg.wl ?_;refine Rg.lm 20 (.int .i64 ((a:Nat):Int)) ?_;go_frame;refine Rg.la 6 (.int .i64 ((a:Nat):Int)) ?_;go_frame;go_wp2;go_ret;exact ⟨_,_,_,_,a,rfl,by have:=HA.out; rwa [HT.out] at this,HP.out,HS.out,MK.out,HE.out,TM.out,K.out⟩
  case pos =>
   have HIL:=ι hil
   have hiS:i<l.length:=by rw [hm.out]; exact hil
   obtain ⟨g,o,e1,hg,-,hc⟩:=RD.out (by rw [List.length_map]; omega);subst e1;obtain ⟨x,hx⟩:∃ x,Hid (l[i]'hiS=x):=⟨_,ι rfl⟩;have hc:=hc i (by rw [List.length_map]; exact hiS);rw [List.getElem_map,hx.out] at hc;have CX:=ι (CL.mk hc hg);have HXL:=ι (HL.out x (hx.out▸List.getElem_mem hiS));have HLN:=ι (show S1.length<100000∧T1.length<100000 by have:=MK.out.len; have:=HM0.out; have:=HS.out; have:=HN.out; have:=hm.out; omega);have HNX:=ι (show (l.take (i+1)).foldl (fun y (k:Nat)=>Ma.mulN y (T.getD k [])) y0=(fun y (k:Nat)=>Ma.mulN y (T.getD k [])) ((l.take i).foldl (fun y (k:Nat)=>Ma.mulN y (T.getD k [])) y0) x by rw [List.take_succ_eq_append_getElem hiS,hx.out,List.foldl_append]; rfl);clear hc hg;go_upto_region 2 with (fail);refine Rg.wl ?_;refine Rg.lr 12 (exec_bin (R:=.bool true) .lss _ _ _ rfl rfl rfl (b_lss _ Rg.dT)) ?_;go_frame
   go_upto_region 3 with (fail);refine Rg.wl ?_;refine Rg.lr 13 (exec_indexS slInts _ _ rfl g (o) (m) cap (i) rfl rfl HIL.out) ?_;go_frame;refine Rg.lr 14 (Rg.exec_load (v:=.int .i64 ((x:Nat):Int)) _ _ rfl ⟨g,o+i,none⟩ rfl (run_loadInt CX.out.cell)) ?_;go_frame;refine Rg.la 8 (.int .i64 ((x:Nat):Int)) ?_;go_frame;go_upto_region 4 with (fail);refine Rg.wl ?_;refine Rg.lm 15 ((.func (.func 115) #[] #[.pointer (some ⟨tp,0,none⟩)])) ?_;go_frame;refine Rg.lm 16 (.int .i64 ((a:Nat):Int)) ?_;go_frame;refine Rg.lm 17 (.int .i64 ((x:Nat):Int)) ?_;go_frame;refine Rg.lk 18 (exec_fnc2 115 _ _ _ _ rfl rfl rfl rfl (clIns1 _ _)) ?_;refine (ins1_any TM.out C.out ((a:Nat):Int) ((x:Nat):Int) HLN.out.1 (by have:=HLN.out.2; omega)).mono ?_;rintro e1 w21 ⟨F9,sv9,rfl,hT9,hg9⟩;have hg9x:=hg9;refine ⟨_,rfl,?_⟩;go_frame;clear hg9x;refine Rg.la 1 (.int .i64 ((T1.length:Nat):Int)) ?_;go_frame
   have hz:T1[x]?=some (T.getD x []):=by
    obtain ⟨z,hz⟩:=HXL.out;rw [List.getD_eq_getElem?_getD,hz];exact pre_at HP.out hz
   have hmk:=MK.out.mul HA.out hz
   have hal:(T1++[Ma.mulN ((l.take i).foldl (fun y (k:Nat)=>Ma.mulN y (T.getD k [])) y0) (T.getD x [])])[T1.length]?=some ((l.take (i+1)).foldl (fun y (k:Nat)=>Ma.mulN y (T.getD k [])) y0):=by rw [HNX.out]; exact at_last _
   have HA2:=ι hal;have HP2:=ι (show T <+: T1++[Ma.mulN ((l.take i).foldl (fun y (k:Nat)=>Ma.mulN y (T.getD k [])) y0) (T.getD x [])] from HP.out.trans ⟨_,rfl⟩);have HS2:=ι (show (S1++[((1:Int),((a:Nat):Int),((x:Nat):Int))]).length=S.length+(i+1) by rw [List.length_append,HS.out]; rfl);have HE2:=ι (show 0<i+1→T1.length+1=(T1++[Ma.mulN ((l.take i).foldl (fun y (k:Nat)=>Ma.mulN y (T.getD k [])) y0) (T.getD x [])]).length from fun _=>by rw [List.length_append]; rfl);have MK2:=ι hmk;have TM2:=ι (show TbM B F9 tb mb N _ _ (T1++[Ma.mulN ((l.take i).foldl (fun y (k:Nat)=>Ma.mulN y (T.getD k [])) y0) (T.getD x [])]).length es es es sv9 lv by rw [List.length_append]; exact hT9);have K2:=ι (K.out.trans hg9);have C2:=ι (C.out.kg hg9.kg);have RD2:=ι (RD.out.gw hg9);clear hz hmk hal hT9 hg9 HA HP HS HE MK TM K C RD CX HNX;go_upto_region 5 with (fail)
   refine Rg.wl ?_;refine Rg.lr 19 (exec_bin (R:=.int .i64 (((i+1):Nat):Int)) .add _ _ _ rfl rfl rfl (b_add _ (by omega) (by omega))) ?_;go_frame;refine Rg.lm 11 (.int .i64 (((i+1):Nat):Int)) ?_;go_frame;go_wp2
   go_roundw
   case rel=>exact ⟨i+1,_,_,_,_,_,rfl,by go_num,HIL.out,HA2,HP2,HS2,HE2,MK2,TM2,K2,C2,RD2⟩
   case measure=>simp [intOf]; have:=HIL.out; omega
theorem foldTE_any {B:Nat} {F:Nat→Prop} {tb mb N tp:Nat} {w:World} {gs:List (List Nat)} {S:List Stp} {T:List (List Nat)} {es:List En} {sv lv:Value} (hm:Mk N gs S T) (h:TbM B F tb mb N w S T.length es es es sv lv) (hc:CF F w tp 0 (.pointer (some ⟨tb,0,none⟩)))
  {l:List En} {ad:Option Addr} {cap a0:Nat} {y0:List Nat} (hl:∀ e∈l,e∈es∧T[e.at_]?=some e.x) (ha:T[a0]?=some y0) (hr:RdV (tbS tb mb es sv lv) w ad (l.map enP)) (hn:T.length+l.length<100000) :
  Calls Tryz.prog 67 #[.slice ad l.length cap,.int .i64 ((a0:Nat):Int),(.func (.func 68) #[] #[.pointer (some ⟨tp,0,none⟩)])] w (FoP B F tb mb N gs S T es sv lv l.length (l.foldl (fun y (e:En)=>Ma.mulN y e.x) y0) w):=by
 have HL:=ι hl;have HN:=ι hn;have HM0:=ι hm.len;have MK:=ι hm;have TM:=ι h;have C:=ι hc;have RD:=ι hr;have HA:=ι (show T[a0]?=some ((l.take 0).foldl (fun y (e:En)=>Ma.mulN y e.x) y0) from ha);have HP:=ι (show T <+: T from List.prefix_rfl);have HS:=ι (show S.length=S.length+0 from rfl);have HE:=ι (show 0<0→a0+1=T.length from fun h=>absurd h (Nat.lt_irrefl 0));have K:=ι (Gw.refl (M:=tbS tb mb es sv lv) h.Flt);obtain ⟨m,hm⟩:∃ m,Hid (l.length=m):=⟨_,ι rfl⟩;rw [hm.out]
 have hm5:m<100000:=by have:=hm.out; omega
 clear hl hn h hc hr ha
 go_enter Tryz.func67,Tryz.ntmps67
 go_upto_region 0 with (fail);refine Rg.wl ?_;refine Rg.la 6 (.int .i64 ((0:Nat):Int)) ?_;go_frame;go_upto_region 1 with (fail);refine Rg.wl ?_;refine Rg.lm 9 (.slice ad m cap) ?_;go_frame;refine Rg.lr 10 (exec_len _ _ _ rfl Tryz.underlying102 _ _ _ rfl) ?_;go_frame;refine Rg.lm 11 (.int .i64 ((0:Nat):Int)) ?_;go_frame;go_wp2
 go_loopw [1,11] (fun vv iv wr=>∃ (i a:Nat) (F1:Nat→Prop) (sv1:Value) (S1:List Stp) (T1:List (List Nat)),vv=.int .i64 ((a:Nat):Int)∧iv=.int .i64 ((i:Nat):Int)∧i≤m∧Hid (T1[a]?=some ((l.take i).foldl (fun y (e:En)=>Ma.mulN y e.x) y0))∧Hid (T <+: T1)∧Hid (S1.length=S.length+i)∧Hid (0<i→a+1=T1.length)∧Hid (Mk N gs S1 T1)∧Hid (TbM B F1 tb mb N wr S1 T1.length es es es sv1 lv)∧Hid (Gw F (tbS tb mb es sv lv) w F1 (tbS tb mb es sv1 lv) wr)∧Hid (CF F1 wr tp 0 (.pointer (some ⟨tb,0,none⟩)))∧Hid (RdV (tbS tb mb es sv1 lv) wr ad (l.map enP))) (fun _ iv _=>m - (intOf iv).toNat)
 case atStart=>exact ⟨0,a0,F,sv,S,T,rfl,rfl,Nat.zero_le _,HA,HP,HS,HE,MK,TM,K,C,RD⟩
 case round =>
  clear HA HP HS HE MK TM K C RD;obtain ⟨i,a,F1,sv1,S1,T1,rfl,rfl,hi,HA,HP,HS,HE,MK,TM,K,C,RD⟩:=hrel
  by_cases hil:i<m
  case neg =>
   have HT:=ι (show l.take i=l from List.take_of_length_le (by have:=hm.out; omega))
   have hie:i=m:=by omega
   subst hie;go_upto_region 2 with (fail);refine Rg.wl ?_;refine Rg.lr 12 (exec_bin (R:=.bool false) .lss _ _ _ rfl rfl rfl (b_lss _ Rg.dF)) ?_;go_frame;go_upto_region 6 with (fail);refine Rg.wl ?_;refine Rg.lm 20 (.int .i64 ((a:Nat):Int)) ?_;go_frame;refine Rg.la 6 (.int .i64 ((a:Nat):Int)) ?_;go_frame;go_wp2;go_ret;exact ⟨_,_,_,_,a,rfl,by have:=HA.out; rwa [HT.out] at this,HP.out,HS.out,MK.out,HE.out,TM.out,K.out⟩
  case pos =>
   have HIL:=ι hil
   have hiS:i<l.length:=by rw [hm.out]; exact hil
   obtain ⟨g,o,e1,hg,-,hc⟩:=RD.out (by rw [List.length_map]; omega);subst e1;obtain ⟨x,hx⟩:∃ x,Hid (l[i]'hiS=x):=⟨_,ι rfl⟩;have hc:=hc i (by rw [List.length_map]; exact hiS);rw [List.getElem_map,hx.out] at hc;have CX:=ι (CL.mk hc hg);have HXL:=ι (HL.out x (hx.out▸List.getElem_mem hiS));have HLN:=ι (show S1.length<100000∧T1.length<100000 by have:=MK.out.len; have:=HM0.out; have:=HS.out; have:=HN.out; have:=hm.out; omega);have HNX:=ι (show (l.take (i+1)).foldl (fun y (e:En)=>Ma.mulN y e.x) y0=(fun y (e:En)=>Ma.mulN y e.x) ((l.take i).foldl (fun y (e:En)=>Ma.mulN y e.x) y0) x by rw [List.take_succ_eq_append_getElem hiS,hx.out,List.foldl_append]; rfl);clear hc hg;go_upto_region 2 with (fail);refine Rg.wl ?_;refine Rg.lr 12 (exec_bin (R:=.bool true) .lss _ _ _ rfl rfl rfl (b_lss _ Rg.dT)) ?_;go_frame;go_upto_region 3 with (fail)
   refine Rg.wl ?_;refine Rg.lr 13 (exec_indexS slEnts _ _ rfl g (o) (m) cap (i) rfl rfl HIL.out) ?_;go_frame;refine Rg.lr 14 (Rg.exec_load (v:=.pointer (some ⟨x.b,0,none⟩)) _ _ rfl ⟨g,o+i,none⟩ rfl (Rg.run_loadPtr _ _ Tryz.underlying110 CX.out.cell)) ?_;go_frame;refine Rg.la 8 (.pointer (some ⟨x.b,0,none⟩)) ?_;go_frame;go_upto_region 4 with (fail);refine Rg.wl ?_;refine Rg.lm 15 ((.func (.func 68) #[] #[.pointer (some ⟨tp,0,none⟩)])) ?_;go_frame;refine Rg.lm 16 (.int .i64 ((a:Nat):Int)) ?_;go_frame;refine Rg.lm 17 (.pointer (some ⟨x.b,0,none⟩)) ?_;go_frame;refine Rg.lk 18 (exec_fnc2 68 _ _ _ _ rfl rfl rfl rfl (clPro1 _ _)) ?_;refine (pro1_any TM.out C.out ((a:Nat):Int) HXL.out.1 HLN.out.1 (by have:=HLN.out.2; omega)).mono ?_;rintro e1 w21 ⟨F9,sv9,rfl,hT9,hg9⟩;have hg9x:=hg9;refine ⟨_,rfl,?_⟩;go_frame;clear hg9x;refine Rg.la 1 (.int .i64 ((T1.length:Nat):Int)) ?_;go_frame
   have hz:T1[x.at_]?=some x.x:=by
    exact pre_at HP.out HXL.out.2
   have hmk:=MK.out.mul HA.out hz
   have hal:(T1++[Ma.mulN ((l.take i).foldl (fun y (e:En)=>Ma.mulN y e.x) y0) x.x])[T1.length]?=some ((l.take (i+1)).foldl (fun y (e:En)=>Ma.mulN y e.x) y0):=by rw [HNX.out]; exact at_last _
   have HA2:=ι hal;have HP2:=ι (show T <+: T1++[Ma.mulN ((l.take i).foldl (fun y (e:En)=>Ma.mulN y e.x) y0) x.x] from HP.out.trans ⟨_,rfl⟩);have HS2:=ι (show (S1++[((1:Int),((a:Nat):Int),((x.at_:Nat):Int))]).length=S.length+(i+1) by rw [List.length_append,HS.out]; rfl);have HE2:=ι (show 0<i+1→T1.length+1=(T1++[Ma.mulN ((l.take i).foldl (fun y (e:En)=>Ma.mulN y e.x) y0) x.x]).length from fun _=>by rw [List.length_append]; rfl);have MK2:=ι hmk;have TM2:=ι (show TbM B F9 tb mb N _ _ (T1++[Ma.mulN ((l.take i).foldl (fun y (e:En)=>Ma.mulN y e.x) y0) x.x]).length es es es sv9 lv by rw [List.length_append]; exact hT9);have K2:=ι (K.out.trans hg9);have C2:=ι (C.out.kg hg9.kg);have RD2:=ι (RD.out.gw hg9);clear hz hmk hal hT9 hg9 HA HP HS HE MK TM K C RD CX HNX;go_upto_region 5 with (fail);refine Rg.wl ?_;refine Rg.lr 19 (exec_bin (R:=.int .i64 (((i+1):Nat):Int)) .add _ _ _ rfl rfl rfl (b_add _ (by omega) (by omega))) ?_;go_frame
   refine Rg.lm 11 (.int .i64 (((i+1):Nat):Int)) ?_;go_frame;go_wp2
   go_roundw
   case rel=>exact ⟨i+1,_,_,_,_,_,rfl,by go_num,HIL.out,HA2,HP2,HS2,HE2,MK2,TM2,K2,C2,RD2⟩
   case measure=>simp [intOf]; have:=HIL.out; omega
end Go.Proofs.YtdnmmibchbceeaaGreat
