/- Lemmas and contracts on the way to the statement; no condition of their own beyond those written. -/
import Derived.Test.YthehbckogieimaaGreatXYgtoFz
import Derived.RangeFuncWrites
import Derived.RangeFuncNested
import Derived.RangeFuncBox
import Derived.RangeFuncLeaves
import Derived.Shelf.Abstract
import Derived.OwnWalkIn
import Derived.TacticsInMore
import Derived.LoopNIn
import Derived.LoopIn
import Derived.Maps.AppendAt
import Derived.Sort.CutIn
import Derived.Deep.CutRange
import Derived.Deep.CutBlock
import Derived.IntWalk
import Derived.Great.BuildSlice
import Derived.ArgAppend
import Derived.Laws.CopyOwn
import Derived.StillTailTactics
import Derived.Deep.MidRow
import Derived.WalkSpells
import Derived.WalkLawsBesides
import Derived.OwnWalk
import Derived.OrdersHeld
import Derived.Deep.OwnRows
import Derived.WalkKit
import Derived.Lib.Hide
import Derived.Laws.OwnMore
import Derived.Test.YthehbckogieimaaGreatProg
import Derived.Outline
import Derived.Deep.DeepFit
import Derived.BigQuiet
import Derived.Deep.QuietTactic
import Derived.Sort.OwnSortedInts
import Derived.WideMake
import Derived.MapKept
import Derived.ChangeMaps5
import Derived.Shelf.Sort.Plain
import Derived.Lib.ConvBytes
import Derived.ChangeKeysEq
import Derived.Laws.Cells
import Derived.Laws.Rows
import Derived.Laws.Tables
import Derived.Deep.WholeRow
import Derived.OrdersIn
import Derived.TacticsIn
import Derived.Deep.LoopGhost
import Derived.Lib.SlicesSearch
set_option linter.unusedVariables false
set_option linter.unusedSimpArgs false
set_option maxRecDepth 100000
set_option maxHeartbeats 8000000
namespace Go.Proofs.YthehbckogieimaaGreat
open Go.RowKit
open Go.Proofs
open Go.Proofs.Ob
open Go.Proofs.Cm (Gd Gr IsChain ap)
attribute [local irreducible] Go.Calls Go.wpList
theorem Adcl0 (args:Array Value) (w:World):(callFunc 163 args).run Tryz.prog w=.ok (.enter 163 args) w:=by kernel_rfl
theorem Adcl1 (args:Array Value) (w:World):(callFunc 201 args).run Tryz.prog w=.ok (.enter 201 args) w:=by kernel_rfl
theorem Adcl2 (args:Array Value) (w:World):(callFunc 203 args).run Tryz.prog w=.ok (.enter 203 args) w:=by kernel_rfl
theorem exec_makeFunc3 {o:Oper} {a:Act} {w:World} (F:FuncId) (x y z:Operand) (ho:o.op=.makeFunc (.func F) #[] #[x,y,z]) {u1 u2 u3:Value} (hx:a.eval x=u1) (hy:a.eval y=u2) (hz:a.eval z=u3):(execOp a.eval o).run Tryz.prog w=.ok (.value (.func (.func F) #[] #[u1,u2,u3])) w:=by
 unfold execOp;simp [ho,hx,hy,hz,Instr.makeFunc]
structure PtI (w W:World) (zv:Value) (z:List Nat):Prop where
 bel:Below w.heap.size w W
 cz:CW W w.heap.size zv
 fp:FP (fun k=>k≠w.heap.size) W zv z
theorem PtI.below {w W W':World} {zv:Value} {z:List Nat} (h:PtI w W zv z) (hb:Below W.heap.size W W'):PtI w W' zv z :=
 ⟨Rg.acc h.bel hb,h.cz.below hb,h.fp.below hb⟩
theorem PtI.set {w W:World} {zv zv':Value} {z z':List Nat} (h:PtI w W zv z) (hp:FP (fun k=>k≠w.heap.size) W zv' z'):PtI w (W.setCell ⟨w.heap.size,0,none⟩ zv') zv' z':=by
 have hk:Rg.Kp (fun z=>z=w.heap.size) W (W.setCell ⟨w.heap.size,0,none⟩ zv'):=Rg.Kp.of_setCell rfl;exact ⟨h.bel.setCell (p:=⟨w.heap.size,0,none⟩) (Nat.le_refl _) _,h.cz.set _,Rg.FI.kp hp hk (fun _ hz=>hz)⟩
theorem PtI.new {W:World} {zv:Value} {z:List Nat} (h:Rg.NP W zv z):PtI W ((W.alloc (.cells #[.slice none 0 0] 51)).setCell ⟨W.heap.size,0,none⟩ zv) zv z:=by
 have hb:Below W.heap.size W (W.alloc (.cells #[.slice none 0 0] 51)):=(Below.refl _ _).alloc (Nat.le_refl _) _;have hk:Rg.Kp (fun z=>z=W.heap.size) (W.alloc (.cells #[.slice none 0 0] 51)) ((W.alloc (.cells #[.slice none 0 0] 51)).setCell ⟨W.heap.size,0,none⟩ zv):=Rg.Kp.of_setCell rfl;exact ⟨hb.setCell (p:=⟨W.heap.size,0,none⟩) (Nat.le_refl _) _,(CW.new W _ _).set _,Rg.FI.kp ((FP.below (FP.of_np h) hb).mono (fun k hk=>by omega)) hk (fun _ hz=>hz)⟩
theorem pt_new {w V W:World} {v:Value} {p:List Nat} (hz:w.heap.size<V.heap.size) (h:Rg.NPF V W v p):FP (fun k=>k≠w.heap.size) W v p :=
 (FP.new (F:=fun k=>k≠w.heap.size) h).mono fun k hk=>by rcases hk with hk | hk <;> omega
theorem idxJ_no {l z x:List Nat} {i:Nat} (h:∀ q∈l,ap z q≠ap x i):idxJ (Ma.ofN l) (fun q=>decide (ap z q.toNat=ap x i)) = -1:=by
 refine idxJ_none fun j hj=>?_;rw [Ma.get_ofN]
 have hj2:j<l.length:=by rw [← Ma.len_ofN]; exact hj
 exact decide_eq_false (by rw [Int.toNat_natCast]; exact h _ (List.getElem_mem hj2))
theorem idxJ_yes {l z x:List Nat} {i:Nat} (h:∃ q∈l,ap z q=ap x i):∃ k,k<l.length∧idxJ (Ma.ofN l) (fun q=>decide (ap z q.toNat=ap x i))=((k:Nat):Int)∧ap z (l.getD k 0)=ap x i:=by
 obtain ⟨k,hk⟩:∃ k,l.findIdx? (fun q=>decide (ap z q=ap x i))=some k:=by
  cases e:l.findIdx? (fun q=>decide (ap z q=ap x i)) with
  | some k=>exact ⟨k,rfl⟩
  | none =>
   rw [List.findIdx?_eq_none_iff] at e;obtain ⟨q,hq,e2⟩:=h;exact absurd e2 (of_decide_eq_false (e q hq))
 rw [List.findIdx?_eq_some_iff_getElem] at hk;obtain ⟨h1,h2,h3⟩:=hk;refine ⟨k,h1,?_,?_⟩
 ·have hk2:k<(Ma.ofN l).length:=by rw [Ma.len_ofN]; exact h1
  refine idxJ_hit hk2 (fun j hj hjk=>?_) ?_
  ·rw [Ma.get_ofN,Int.toNat_natCast]
   have:=h3 j hjk;exact decide_eq_false (by simpa using this)
  ·rw [Ma.get_ofN,Int.toNat_natCast]
   exact h2
 ·rw [List.getD_eq_getElem?_getD,List.getElem?_eq_getElem h1,Option.getD_some]
  exact of_decide_eq_true h2
theorem clPt1 (args:Array Value) (w:World):(callFunc 202 args).run Tryz.prog w=.ok (.enter 202 args) w:=by kernel_rfl
theorem partner1_any {zb xb ib zo xo zc xc za xa N n i q u v:Nat} {w:World} (h1:CL w zb 0 (.slice (some ⟨za,zo,none⟩) N zc)) (h2:CL w za (zo+q) (.int .i64 ((u:Nat):Int))) (h3:CL w xb 0 (.slice (some ⟨xa,xo,none⟩) n xc)) (h4:CL w xa (xo+i) (.int .i64 ((v:Nat):Int))) (h5:CL w ib 0 (.int .i64 ((i:Nat):Int))) (hq:q<N) (hi:i<n) :
  Calls Tryz.prog 202 #[.int .i64 ((q:Nat):Int),.pointer (some ⟨zb,0,none⟩),.pointer (some ⟨xb,0,none⟩),.pointer (some ⟨ib,0,none⟩)] w fun e w'=>e=.returned (.bool (decide (u=v)))∧Below w.heap.size w w':=by
 have H1:=ι h1;have H2:=ι h2;have H3:=ι h3;have H4:=ι h4;have H5:=ι h5;have HQ:=ι hq;have HI:=ι hi;have K:=ι (Below.refl w.heap.size w);clear h1 h2 h3 h4 h5 hq hi
 go_enter Tryz.func202,Tryz.ntmps202
 go_upto_region 0 with (fail);refine Rg.wl ?_;refine Rg.la 5 (.bool false) ?_;go_frame
 by_cases h:u=v
 case pos =>
  go_upto_region 1 with (fail);have hV0:Below w.heap.size w w.drew:=(Below.refl _ _).drew;replace H1:=ι (H1.out.below hV0);replace H2:=ι (H2.out.below hV0);replace H3:=ι (H3.out.below hV0);replace H4:=ι (H4.out.below hV0);replace H5:=ι (H5.out.below hV0);replace K:=ι (Rg.acc K.out hV0);clear hV0;refine Rg.Any.begin (S:=Rg.Both 9 (fun _=>True) (fun W=>Below w.drew.heap.size w.drew W)) mix ?_;generalize w.drew=w11 at *;have hS:∀ (l:Array Bool) W,Below w11.heap.size w11 W→Rg.Both 9 (fun _=>True) (fun W=>Below w11.heap.size w11 W) l W:=fun l W h=>⟨.inr trivial,h⟩;have hI:Below w11.heap.size w11 w11:=Below.refl _ _;refine Rg.tg 0 9 (.slice (some ⟨za,zo,none⟩) N zc) 6 rfl rfl (Rg.yields_cell _ _ rfl rfl ⟨zb,0,none⟩ rfl (fun W hW=>Rg.run_loadSl _ _ Tryz.underlying51 ((Below.cell (p:=⟨zb,0,none⟩) hW H1.out.lt).trans H1.out.cell))) (hS _ _ hI) ?_;go_frame
  refine Rg.tm 1 9 (.int .i64 ((q:Nat):Int)) 7 (hS _ _ hI) ?_;go_frame;refine Rg.tg 2 9 (.pointer (some ⟨za,zo+q,none⟩)) 8 rfl rfl (Rg.yields_index slPerm _ _ rfl rfl za (zo) (N) zc (q) rfl rfl HQ.out) (hS _ _ hI) ?_;go_frame;refine Rg.tg 3 9 (.int .i64 ((u:Nat):Int)) 9 rfl rfl (Rg.yields_cell _ _ rfl rfl ⟨za,zo+q,none⟩ rfl (fun W hW=>run_loadInt ((Below.cell (p:=⟨za,zo+q,none⟩) hW H2.out.lt).trans H2.out.cell))) (hS _ _ hI) ?_;go_frame;refine Rg.tg 4 9 (.slice (some ⟨xa,xo,none⟩) n xc) 10 rfl rfl (Rg.yields_cell _ _ rfl rfl ⟨xb,0,none⟩ rfl (fun W hW=>Rg.run_loadSl _ _ Tryz.underlying51 ((Below.cell (p:=⟨xb,0,none⟩) hW H3.out.lt).trans H3.out.cell))) (hS _ _ hI) ?_;go_frame;refine Rg.tg 5 9 (.int .i64 ((i:Nat):Int)) 11 rfl rfl (Rg.yields_cell _ _ rfl rfl ⟨ib,0,none⟩ rfl (fun W hW=>run_loadInt ((Below.cell (p:=⟨ib,0,none⟩) hW H5.out.lt).trans H5.out.cell))) (hS _ _ hI) ?_;go_frame
  refine Rg.tg 6 9 (.pointer (some ⟨xa,xo+i,none⟩)) 12 rfl rfl (Rg.yields_index slPerm _ _ rfl rfl xa (xo) (n) xc (i) rfl rfl HI.out) (hS _ _ hI) ?_;go_frame;refine Rg.tg 7 9 (.int .i64 ((v:Nat):Int)) 13 rfl rfl (Rg.yields_cell _ _ rfl rfl ⟨xa,xo+i,none⟩ rfl (fun W hW=>run_loadInt ((Below.cell (p:=⟨xa,xo+i,none⟩) hW H4.out.lt).trans H4.out.cell))) (hS _ _ hI) ?_;go_frame;refine Rg.tg 8 9 (.bool true) 14 rfl rfl (.inl ⟨rfl,fun w _=>exec_bin (R:=.bool true) .eql _ _ _ rfl rfl rfl (b_eql _ Rg.dT)⟩) (hS _ _ hI) ?_;go_frame;refine Rg.Any.one (i:=9) (by kernel_rfl) (Rg.Any.run (some 5) rfl rfl rfl (Rg.xa (.bool true) _ rfl rfl) (hS _ _ hI) ?_);go_frame;refine Rg.Any.done (by kernel_rfl) ?_ _;clear hS hI;go_wp2;go_ret;exact ⟨by rw [decide_eq_true h]; rfl,K.out⟩
 case neg =>
  go_upto_region 1 with (fail);have hV0:Below w.heap.size w w.drew:=(Below.refl _ _).drew;replace H1:=ι (H1.out.below hV0);replace H2:=ι (H2.out.below hV0);replace H3:=ι (H3.out.below hV0);replace H4:=ι (H4.out.below hV0);replace H5:=ι (H5.out.below hV0);replace K:=ι (Rg.acc K.out hV0);clear hV0;refine Rg.Any.begin (S:=Rg.Both 9 (fun _=>True) (fun W=>Below w.drew.heap.size w.drew W)) mix ?_;generalize w.drew=w22 at *;have hS:∀ (l:Array Bool) W,Below w22.heap.size w22 W→Rg.Both 9 (fun _=>True) (fun W=>Below w22.heap.size w22 W) l W:=fun l W h=>⟨.inr trivial,h⟩;have hI:Below w22.heap.size w22 w22:=Below.refl _ _;refine Rg.tg 0 9 (.slice (some ⟨za,zo,none⟩) N zc) 6 rfl rfl (Rg.yields_cell _ _ rfl rfl ⟨zb,0,none⟩ rfl (fun W hW=>Rg.run_loadSl _ _ Tryz.underlying51 ((Below.cell (p:=⟨zb,0,none⟩) hW H1.out.lt).trans H1.out.cell))) (hS _ _ hI) ?_;go_frame
  refine Rg.tm 1 9 (.int .i64 ((q:Nat):Int)) 7 (hS _ _ hI) ?_;go_frame;refine Rg.tg 2 9 (.pointer (some ⟨za,zo+q,none⟩)) 8 rfl rfl (Rg.yields_index slPerm _ _ rfl rfl za (zo) (N) zc (q) rfl rfl HQ.out) (hS _ _ hI) ?_;go_frame;refine Rg.tg 3 9 (.int .i64 ((u:Nat):Int)) 9 rfl rfl (Rg.yields_cell _ _ rfl rfl ⟨za,zo+q,none⟩ rfl (fun W hW=>run_loadInt ((Below.cell (p:=⟨za,zo+q,none⟩) hW H2.out.lt).trans H2.out.cell))) (hS _ _ hI) ?_;go_frame;refine Rg.tg 4 9 (.slice (some ⟨xa,xo,none⟩) n xc) 10 rfl rfl (Rg.yields_cell _ _ rfl rfl ⟨xb,0,none⟩ rfl (fun W hW=>Rg.run_loadSl _ _ Tryz.underlying51 ((Below.cell (p:=⟨xb,0,none⟩) hW H3.out.lt).trans H3.out.cell))) (hS _ _ hI) ?_;go_frame;refine Rg.tg 5 9 (.int .i64 ((i:Nat):Int)) 11 rfl rfl (Rg.yields_cell _ _ rfl rfl ⟨ib,0,none⟩ rfl (fun W hW=>run_loadInt ((Below.cell (p:=⟨ib,0,none⟩) hW H5.out.lt).trans H5.out.cell))) (hS _ _ hI) ?_;go_frame
  refine Rg.tg 6 9 (.pointer (some ⟨xa,xo+i,none⟩)) 12 rfl rfl (Rg.yields_index slPerm _ _ rfl rfl xa (xo) (n) xc (i) rfl rfl HI.out) (hS _ _ hI) ?_;go_frame;refine Rg.tg 7 9 (.int .i64 ((v:Nat):Int)) 13 rfl rfl (Rg.yields_cell _ _ rfl rfl ⟨xa,xo+i,none⟩ rfl (fun W hW=>run_loadInt ((Below.cell (p:=⟨xa,xo+i,none⟩) hW H4.out.lt).trans H4.out.cell))) (hS _ _ hI) ?_;go_frame;refine Rg.tg 8 9 (.bool false) 14 rfl rfl (.inl ⟨rfl,fun w _=>exec_bin (R:=.bool false) .eql _ _ _ rfl rfl rfl (b_eql _ Rg.dF)⟩) (hS _ _ hI) ?_;go_frame;refine Rg.Any.one (i:=9) (by kernel_rfl) (Rg.Any.run (some 5) rfl rfl rfl (Rg.xa (.bool false) _ rfl rfl) (hS _ _ hI) ?_);go_frame;refine Rg.Any.done (by kernel_rfl) ?_ _;clear hS hI;go_wp2;go_ret;exact ⟨by rw [decide_eq_false h]; rfl,K.out⟩
theorem pt_asks {F:Nat→Prop} {zb xb ib zo xo zc xc za xa N n i:Nat} {z x ol:List Nat} {W:World} (h1:CL W zb 0 (.slice (some ⟨za,zo,none⟩) N zc)) (h2:FP F W (.slice (some ⟨za,zo,none⟩) N zc) z) (gz:Gd N z) (h3:CL W xb 0 (.slice (some ⟨xa,xo,none⟩) n xc)) (h4:CL W xa (xo+i) (.int .i64 ((ap x i:Nat):Int))) (hi:i<n) (h5:CL W ib 0 (.int .i64 ((i:Nat):Int))) (ho:∀ q∈ol,q<N) :
  AsksI 202 #[.pointer (some ⟨zb,0,none⟩),.pointer (some ⟨xb,0,none⟩),.pointer (some ⟨ib,0,none⟩)] (Ma.ofN ol) (fun q=>decide (ap z q.toNat=ap x i)) W:=by
 intro y hy w1 hb;obtain ⟨q,hq,rfl⟩:=List.mem_map.1 hy;have hqN:=ho q hq;have hc:=h2.ap gz hqN;show Calls Tryz.prog _ #[_,_,_,_] w1 (fun e w2=>e=.returned (.bool (decide (ap z (((q:Nat):Int)).toNat=ap x i)))∧Below w1.heap.size w1 w2);rw [Int.toNat_natCast];exact partner1_any (h1.below hb) ((CL.mk hc.cell hc.lt).below hb) (h3.below hb) (h4.below hb) (h5.below hb) hqN hi
def PtPost (n m:Nat) (A B:List (List Nat)) (x:List Nat) (w:World) (ed:Ending) (w':World):Prop :=
 ((ed=.returned (.tuple #[.slice none 0 0,.bool false])∧ImR m (PG2 n m A B) x none)∨∃ v y,ed=.returned (.tuple #[v,.bool true])∧Rg.NP w' v y∧ImR m (PG2 n m A B) x (some y))∧Below w.heap.size w w'
theorem partner_any {d e:Int} {gv hv:Value} {oa:Option Addr} {oc:Nat} {ra:Option Addr} {rc:Nat} {L M:List (List Int)} {n m:Nat} {A B:List (List Nat)} {pb:Nat} {w:World} (h:PrAt w pb d e gv hv oa oc ra rc L M) (hm:HomG d e L M n m A B) {xv:Value} {x:List Nat} (hx:Rg.NP w xv x) (gx:Gd n x) :
  Calls Tryz.prog 127 #[.pointer (some ⟨pb,0,none⟩),xv] w (PtPost n m A B x w):=by
 obtain ⟨ga,gc,rfl,-⟩:=h.rg.shape;obtain ⟨ha,hc,rfl,-⟩:=h.rh.shape;obtain ⟨N,gs,hpc⟩:=h.pc;obtain ⟨hN,hch⟩:=hm.pgc hpc;have hn1:=hm.n1;have hm1:=hm.m1;have hnm:=hm.nm;have HGA:=ι hm.ga;have HGB:=ι hm.gb;have HH:=ι (pg_isG hm.ga hm.gb);obtain rfl:=hm.dn;obtain rfl:=hm.em;obtain ⟨xa,xo,xc,rfl⟩:=FP.shape' (FP.of_np hx) gx hn1;obtain ⟨O,hO⟩:∃ O,Hid ((pOR (((n:Nat):Int)+((m:Nat):Int)) (prL L M)).1=O):=⟨_,ι rfl⟩;obtain ⟨R,hR⟩:∃ R,Hid ((pOR (((n:Nat):Int)+((m:Nat):Int)) (prL L M)).2=R):=⟨_,ι rfl⟩
 have eO:pO (((n:Nat):Int)+((m:Nat):Int)) (prL L M)=O.map Ma.ofN:=by unfold pO; rw [hO.out]
 have eR:pR (((n:Nat):Int)+((m:Nat):Int)) (prL L M)=R.map (List.map Ma.ofN):=by unfold pR; rw [hR.out]
 rw [hO.out,hR.out] at hch
 have hlo:(O.map Ma.ofN).length=n+m:=by rw [List.length_map,hch.lenO]
 have hlr:(R.map (List.map Ma.ofN)).length=n+m:=by rw [List.length_map,hch.lenR]
 have h1:=h.c1;have h2:=h.c2;have h9:=h.ch;rw [eO,hlo] at h1 h9;rw [eR,hlr] at h2 h9;have CHO:=ι h9.1;have CHR:=ι h9.2;obtain ⟨ob,oo,-,-,e5,-⟩:=rowsI_get CHO.out (i:=0) (by omega);subst e5;obtain ⟨rb,ro,e6,-⟩:=CHR.out.at' (k:=0) (by omega);subst e6;have P1:=ι (CL.mk h1 h.lt);have P2:=ι (CL.mk h2 h.lt);have P3:=ι (CL.mk h.c3 h.lt);have P5:=ι (CL.mk h.c5 h.lt);have HCH:=ι hch;have HX:=ι hx;have GX:=ι gx;have HN1:=ι hn1;have HM1:=ι hm1;have HNM:=ι hnm;have HLO:=ι hlo;have HLR:=ι hlr;have K:=ι (Below.refl w.heap.size w);clear h hm hpc hch hx gx h1 h2 h9 hn1 hm1 hlo hlr eO eR
 go_enter Tryz.func127,Tryz.ntmps127
 go_upto_region 0 with (fail);refine Rg.wl ?_;have hbx:=CW.new w (.slice (some ⟨xa,xo,none⟩) n xc) 51;refine Rg.lr 3 (exec_boxV (v:=.slice (some ⟨xa,xo,none⟩) n xc) _ _ rfl rfl rfl) ?_;go_frame;have hb:=(Below.refl w.heap.size w).alloc (Nat.le_refl _) (.cells #[.slice (some ⟨xa,xo,none⟩) n xc] 51);generalize w.alloc (.cells #[.slice (some ⟨xa,xo,none⟩) n xc] 51)=w1 at *;replace P1:=ι (P1.out.below hb);replace P2:=ι (P2.out.below hb);replace P3:=ι (P3.out.below hb);replace P5:=ι (P5.out.below hb);replace CHO:=ι (CHO.out.below hb);replace CHR:=ι (CHR.out.below hb);replace HX:=ι (HX.out.below hb);replace K:=ι (Rg.acc K.out hb);clear hb;have BX:=ι hbx;clear hbx;refine Rg.la 4 (.slice none 0 0) ?_;go_frame;refine Rg.la 5 (.bool false) ?_;go_frame;go_upto_region 1 with (fail);refine Rg.wl ?_;refine Rg.lm 13 (.pointer (some ⟨pb,0,none⟩)) ?_;go_frame;refine Rg.lr 14 (exec_nil _ rfl rfl) ?_;go_frame
 refine Rg.lr 15 (exec_field _ rfl rfl (prF1 _ _)) ?_;go_frame;refine Rg.lr 16 (exec_field _ rfl rfl (grF3_0 _ _)) ?_;go_frame;refine Rg.lr 17 (Rg.exec_load (v:=.int .i64 ((n:Nat):Int)) _ _ rfl ⟨pb,3,none⟩ rfl (run_loadInt P3.out.cell)) ?_;go_frame;refine Rg.la 6 (.int .i64 ((n:Nat):Int)) ?_;go_frame;go_upto_region 2 with (fail);refine Rg.wl ?_;refine Rg.lm 19 (.int .i64 ((n:Nat):Int)) ?_;go_frame;refine Rg.lm 20 (.pointer (some ⟨pb,0,none⟩)) ?_;go_frame;refine Rg.lr 21 (exec_nil _ rfl rfl) ?_;go_frame;refine Rg.lr 22 (exec_field _ rfl rfl (prF2 _ _)) ?_;go_frame;refine Rg.lr 23 (exec_field _ rfl rfl (grF5_0 _ _)) ?_;go_frame;refine Rg.lr 24 (Rg.exec_load (v:=.int .i64 ((m:Nat):Int)) _ _ rfl ⟨pb,5,none⟩ rfl (run_loadInt P5.out.cell)) ?_;go_frame;refine Rg.lr 25 (exec_bin (R:=.int .i64 (((n+m):Nat):Int)) .add _ _ _ rfl rfl rfl (b_add _ (by omega) (by omega))) ?_;go_frame
 refine Rg.lk 26 (exec_fn1 163 _ _ rfl rfl (Adcl0 _ _)) ?_;refine (permOne_in (n+m) w1 (by have:=HN1.out; omega) hnm).mono ?_;rintro e1 w2 ⟨ov,rfl,hov,hb⟩;obtain ⟨za0,zo0,zc0,rfl⟩:=FP.shape' (FP.of_np hov.1) (Cm.gd_one (n+m)) (by have:=HN1.out; omega);refine ⟨_,rfl,?_⟩;go_frame;replace P1:=ι (P1.out.below hb);replace P2:=ι (P2.out.below hb);replace P3:=ι (P3.out.below hb);replace P5:=ι (P5.out.below hb);replace CHO:=ι (CHO.out.below hb);replace CHR:=ι (CHR.out.below hb);replace HX:=ι (HX.out.below hb);replace BX:=ι (BX.out.below hb);replace K:=ι (Rg.acc K.out hb);clear hb;refine Rg.lm 18 (.tuple #[.slice (some ⟨za0,zo0,none⟩) (n+m) zc0,.int .i64 0]) ?_;go_frame;refine Rg.lr 27 (exec_extract (v:=.slice (some ⟨za0,zo0,none⟩) (n+m) zc0) _ _ rfl rfl rfl) ?_;go_frame;refine Rg.lr 28 (exec_extract (v:=.int .i64 0) _ _ rfl rfl rfl) ?_;go_frame;have P1b:=P1
 have P2b:=P2;have P3b:=P3;have P5b:=P5;have CHOb:=CHO;have CHRb:=CHR;have HXb:=HX;have BXb:=BX;have Kb:=K;refine Rg.lr 7 (exec_allocPm rfl) ?_;go_frame;refine Rg.list_skip none rfl rfl (Rg.exec_store _ _ _ rfl _ rfl _ rfl (Rg.run_storeSl _ infoPerm (CW.new w2 (.slice none 0 0) 51).c (CW.new w2 (.slice none 0 0) 51).f)) ?_;go_frame;have hpt:=PtI.new hov.1;have hb:=((Below.refl w2.heap.size w2).alloc (Nat.le_refl _) (.cells #[.slice none 0 0] 51)).setCell (p:=⟨w2.heap.size,0,none⟩) (Nat.le_refl _) (.slice (some ⟨za0,zo0,none⟩) (n+m) zc0);generalize (w2.alloc (.cells #[.slice none 0 0] 51)).setCell ⟨w2.heap.size,0,none⟩ (.slice (some ⟨za0,zo0,none⟩) (n+m) zc0)=w3 at *;replace P1:=ι (P1.out.below hb);replace P2:=ι (P2.out.below hb);replace P3:=ι (P3.out.below hb);replace P5:=ι (P5.out.below hb);replace CHO:=ι (CHO.out.below hb);replace CHR:=ι (CHR.out.below hb)
 replace HX:=ι (HX.out.below hb);replace BX:=ι (BX.out.below hb);replace K:=ι (Rg.acc K.out hb);clear hb;refine Rg.la 8 (.int .i64 0) ?_;go_frame;have PT0:=ι hpt;clear hpt hov;go_upto_region 3 with (fail);refine Rg.wl ?_;refine Rg.lm 29 (.int .i64 ((n:Nat):Int)) ?_;go_frame;refine Rg.lm 30 (.int .i64 ((0:Nat):Int)) ?_;go_frame;clear P1 P2 P3 P5 CHO CHR HX BX K;have P1:=P1b;have P2:=P2b;have P3:=P3b;have P5:=P5b;have CHO:=CHOb;have CHR:=CHRb;have HX:=HXb;have BX:=BXb;have K:=Kb;clear P1b P2b P3b P5b CHOb CHRb HXb BXb Kb;have HAG:=ι (show PG2 n m A B (Ma.oneN (n+m))∧Agr x (Ma.oneN (n+m)) 0 from ⟨HH.out.one,fun _ h=>absurd h (Nat.not_lt_zero _)⟩);go_wp2
 go_loopw [30] (fun iv wr=>∃ (i:Nat) (z:List Nat) (zv:Value),iv=.int .i64 ((i:Nat):Int)∧i≤n∧Hid (PtI w2 wr zv z)∧Hid (PG2 n m A B z∧Agr x z i)) (fun iv _=>n - (intOf iv).toNat)
 case atStart=>exact ⟨0,_,_,rfl,Nat.zero_le _,PT0,HAG⟩
 case round =>
  clear HAG;obtain ⟨i,z,zv,rfl,hi,PT,HAG⟩:=hrel;generalize wr=wd at *;have GZ:=ι (HH.out.gd _ HAG.out.1);obtain ⟨za,zo,zc,rfl⟩:=FP.shape' PT.out.fp GZ.out (by have:=HN1.out; omega);have K1:=ι PT.out.bel
  by_cases hin:i<n
  case pos =>
   have HIN:=ι hin
   have hinm:i<n+m:=by omega
   obtain ⟨ol,hol⟩:∃ ol:List Nat,Hid (O.getD i []=ol):=⟨_,ι rfl⟩;obtain ⟨rl,hrl⟩:∃ rl:List (List Nat),Hid (R.getD i []=rl):=⟨_,ι rfl⟩;have HLEN:=ι (show rl.length=ol.length by rw [← hrl.out,← hol.out]; exact HCH.out.len i hinm);have hoL:=chain_len HH.out HCH.out hinm;rw [hol.out] at hoL
   have HOQ:=ι (show ∀ q∈ol,q<n+m from fun q hq=>by
    rw [← hol.out] at hq;obtain ⟨y,hy,rfl⟩:=(HCH.out.orb i q hinm).1 hq
    exact Cm.ap_lt (HH.out.gd _ hy.1) hinm)
   obtain ⟨ob',oo',ua,uc,eo,hob,hoc,hoi⟩:=rowsI_get CHO.out (i:=i) (by rw [HLO.out]; exact hinm)
   injection eo with eo
   injection eo with e5 e6
   subst e5 e6
   have hox:(O.map Ma.ofN)[i]'(by rw [HLO.out]; exact hinm)=Ma.ofN ol:=by
    have hXO:i<O.length:=by rw [HCH.out.lenO]; exact hinm
    rw [← hol.out,List.getElem_map,getD_inf hXO]
   rw [hox] at hoc hoi;rw [Ma.len_ofN] at hoc hoi;have CO:=ι (CL.mk hoc hob);have IO:=ι hoi;have hxc:=(FP.of_np HX.out).ap GX.out hin;have CX:=ι (CL.mk hxc.cell hxc.lt);clear hob hoc hoi hox hxc;go_upto_region 4 with (fail);refine Rg.wl ?_;refine Rg.lr 31 (exec_bin (R:=.bool true) .lss _ _ _ rfl rfl rfl (b_lss _ Rg.dT)) ?_;go_frame;go_upto_region 5 with (fail);refine Rg.wl ?_;refine Rg.lm 32 (.int .i64 ((i:Nat):Int)) ?_;go_frame;refine Rg.lr 9 (exec_allocI rfl) ?_;go_frame;refine Rg.list_skip none rfl rfl (Rg.exec_store _ _ _ rfl _ rfl _ rfl (run_storeInt _ (CW.new wd (.int .i64 0) 3).c (CW.new wd (.int .i64 0) 3).f)) ?_;go_frame;have hci:=(CW.new wd (.int .i64 0) 3).set (.int .i64 ((i:Nat):Int));have hb:=((Below.refl wd.heap.size wd).alloc (Nat.le_refl _) (.cells #[.int .i64 0] 3)).setCell (p:=⟨wd.heap.size,0,none⟩) (Nat.le_refl _) (.int .i64 ((i:Nat):Int))
   generalize (wd.alloc (.cells #[.int .i64 0] 3)).setCell ⟨wd.heap.size,0,none⟩ (.int .i64 ((i:Nat):Int))=w51 at *;replace PT:=ι (PT.out.below hb);replace K1:=ι (Rg.acc K1.out hb);clear hb;have CI:=ι hci;clear hci
   by_cases hq:∃ q∈ol,ap z q=ap x i
   case neg =>
    have HIX:=ι (idxJ_no (fun q h1 h2=>hq ⟨q,h1,h2⟩):idxJ (Ma.ofN ol) (fun q=>decide (ap z q.toNat=ap x i)) = -1);have HNO:=ι (agr_none HGA.out HGB.out HCH.out HIN.out GX.out HAG.out.1 HAG.out.2 (fun q h1 h2=>hq ⟨q,by rw [← hol.out]; exact h1,h2⟩));go_upto_region 6 with (fail);have hV0:Below w51.heap.size w51 w51.drew:=(Below.refl _ _).drew;replace PT:=ι (PT.out.below hV0);replace CI:=ι (CI.out.below hV0);replace K1:=ι (Rg.acc K1.out hV0);clear hV0;refine Rg.Any.begin (S:=Rg.Both 10 (fun W=>Below w51.drew.heap.size w51.drew W) (fun W=>Below w2.heap.size w2 W)) mix ?_;generalize w51.drew=w52 at *;have hS:∀ (l:Array Bool) W,Below w52.heap.size w52 W→Below w2.heap.size w2 W→Rg.Both 10 (fun W=>Below w52.heap.size w52 W) (fun W=>Below w2.heap.size w2 W) l W:=fun l W h h2=>⟨.inr h,h2⟩;have hS2:∀ (l:Array Bool) W,l.getD 10 false=true→Below w2.heap.size w2 W→Rg.Both 10 (fun W=>Below w52.heap.size w52 W) (fun W=>Below w2.heap.size w2 W) l W:=fun l W h h2=>⟨.inl h,h2⟩
    have hI:=K1.out;refine Rg.tg 0 10 (.pointer (some ⟨pb,0,none⟩)) 33 rfl rfl (.inl ⟨rfl,fun w _=>Rg.exec_move (v:=.pointer (some ⟨pb,0,none⟩)) _ rfl rfl⟩) (hS _ _ (Below.refl _ _) hI) ?_;go_frame;refine Rg.tg 1 10 (.pointer (some ⟨pb,0,none⟩)) 34 rfl rfl (.inl ⟨rfl,fun w _=>exec_nil _ rfl rfl⟩) (hS _ _ (Below.refl _ _) hI) ?_;go_frame;refine Rg.tg 2 10 (.pointer (some ⟨pb,0,none⟩)) 35 rfl rfl (.inl ⟨rfl,fun w _=>exec_field _ rfl rfl (prF0 _ _)⟩) (hS _ _ (Below.refl _ _) hI) ?_;go_frame;refine Rg.tg 3 10 (.pointer (some ⟨pb,1,none⟩)) 36 rfl rfl (.inl ⟨rfl,fun w _=>exec_field _ rfl rfl (chF1 _ _)⟩) (hS _ _ (Below.refl _ _) hI) ?_;go_frame;refine Rg.tg 4 10 (.slice (some ⟨ob,oo,none⟩) (n+m) oc) 37 rfl rfl (Rg.yields_cell _ _ rfl rfl ⟨pb,1,none⟩ rfl (fun W hW=>Rg.run_loadSl _ _ Tryz.underlying27 ((Below.cell (p:=⟨pb,1,none⟩) hW P1.out.lt).trans P1.out.cell))) (hS _ _ (Below.refl _ _) hI) ?_;go_frame
    refine Rg.Any.takeT (i:=5) (t:=10) (v:=.int .i64 ((i:Nat):Int)) (some 38) rfl rfl (by kernel_rfl) (by kernel_rfl) (by kernel_rfl) (fun _ _ _ h=>h) rfl (by kernel_rfl) rfl (Rg.yields_cell _ _ rfl rfl ⟨wd.heap.size,0,none⟩ rfl (fun W hW=>run_loadInt ((Below.cell (p:=⟨wd.heap.size,0,none⟩) hW CI.out.lt).trans CI.out.c))) (hS _ _ (Below.refl _ _) hI) ?_;go_frame;refine Rg.tg 6 10 (.pointer (some ⟨ob,oo+i,none⟩)) 39 rfl rfl (Rg.yields_index slIntss _ _ rfl rfl ob (oo) ((n+m)) oc (i) rfl rfl (by omega)) (hS _ _ (Below.refl _ _) hI) ?_;go_frame;refine Rg.tg 7 10 (.slice ua ol.length uc) 40 rfl rfl (Rg.yields_cell _ _ rfl rfl ⟨ob,oo+i,none⟩ rfl (fun W hW=>Rg.run_loadSl _ _ Tryz.underlying36 ((Below.cell (p:=⟨ob,oo+i,none⟩) hW CO.out.lt).trans CO.out.cell))) (hS _ _ (Below.refl _ _) hI) ?_;go_frame;refine Rg.tg 8 10 ((.func (.func 202) #[] #[.pointer (some ⟨w2.heap.size,0,none⟩),.pointer (some ⟨w.heap.size,0,none⟩),.pointer (some ⟨wd.heap.size,0,none⟩)])) 41 rfl rfl (.inl ⟨rfl,fun w _=>exec_makeFunc3 _ _ _ _ rfl rfl rfl rfl⟩) (hS _ _ (Below.refl _ _) hI) ?_;go_frame
    have hcf:=indexFuncI_any _ (Ma.ofN ol) 202 #[.pointer (some ⟨w2.heap.size,0,none⟩),.pointer (some ⟨w.heap.size,0,none⟩),.pointer (some ⟨wd.heap.size,0,none⟩)] (fun q=>decide (ap z q.toNat=ap x i)) w52 (IO.out.below hI) (by rw [Ma.len_ofN]; omega) clPt1 (pt_asks (CL.mk PT.out.cz.c PT.out.cz.lt) PT.out.fp GZ.out (CL.mk (BX.out.below hI).c (BX.out.below hI).lt) (CX.out.below hI) HIN.out (CL.mk CI.out.c CI.out.lt) HOQ.out);rw [HIX.out] at hcf;refine Rg.Any.one (i:=9) (by kernel_rfl) (Rg.Any.ask (some 42) rfl rfl rfl _ _ (exec_fn 201 _ _ _ rfl rfl rfl (Adcl1 _ _)) ?_);refine (hcf).mono ?_;rintro e1 w53 ⟨rfl,hb⟩;have hI2_0:=Rg.acc hI hb;have hI2_1:=hb;clear hb hI;refine ⟨_,rfl,(hS _ _ hI2_1 hI2_0),?_⟩;go_frame;refine Rg.Any.one (i:=10) (by kernel_rfl) (Rg.Any.run (some 10) rfl rfl rfl (Rg.xa (.int .i64 (-1)) _ rfl rfl) (hS2 _ _ rfl hI2_0) ?_);go_frame;refine Rg.Any.done (by kernel_rfl) ?_ _
    replace PT:=ι (PT.out.below hI2_1);replace CI:=ι (CI.out.below hI2_1);replace K1:=ι hI2_0;clear hS2;clear hS hI2_0 hI2_1;go_upto_region 7 with (fail);refine Rg.wl ?_;refine Rg.lm 43 (.int .i64 (-1)) ?_;go_frame;refine Rg.lr 44 (exec_bin (R:=.bool true) .lss _ _ _ rfl rfl rfl (b_lss _ Rg.dT)) ?_;go_frame;go_upto_region 8 with (fail);refine Rg.wl ?_;refine Rg.la 4 (.slice none 0 0) ?_;go_frame;refine Rg.la 5 (.bool false) ?_;go_frame;have KT:=ι (show Below w.heap.size w w53 from K.out.trans (K1.out.mono K.out.size));go_wp2
    go_ret2
    exact ⟨.inl ⟨rfl,HNO.out⟩,KT.out⟩
   case pos =>
    obtain ⟨k,hkl,hix,hkq⟩:=idxJ_yes hq;have HIX:=ι hix;have HKL:=ι hkl;obtain ⟨s,hs⟩:∃ s:List Nat,Hid (rl.getD k []=s):=⟨_,ι rfl⟩;have hnx:=agr_next HH.out HCH.out hinm HAG.out.1 HAG.out.2 (k:=k) (by rw [hol.out]; exact hkl) (by rw [hol.out]; exact hkq);rw [hrl.out,hs.out] at hnx;have HNX:=ι hnx;have hrp:=(HCH.out.rep i k hinm (by rw [hol.out]; exact hkl)).1;rw [hrl.out,hs.out] at hrp;have GS:=ι (HH.out.gd _ hrp.1.1)
    have hkr:k<rl.length:=by have:=HLEN.out; omega
    obtain ⟨rb',ro',er,hrb,u,hcu,hu⟩:=CHR.out.at' (k:=i) (by rw [HLR.out]; exact hinm)
    injection er with er
    injection er with e5 e6
    subst e5 e6
    have hrx:(R.map (List.map Ma.ofN))[i]'(by rw [HLR.out]; exact hinm)=rl.map Ma.ofN:=by
     have hXR:i<R.length:=by rw [HCH.out.lenR]; exact hinm
     rw [← hrl.out,List.getElem_map,getD_inf hXR]
    rw [hrx] at hu;obtain ⟨va,vc,rfl,-⟩:=hu.shape;rw [List.length_map] at hcu hu;have CR:=ι (CL.mk hcu hrb);obtain ⟨vb,vo,sa,sc,e7,hvb,hvc,hvi⟩:=rowsI_get hu (i:=k) (by rw [List.length_map]; exact hkr);subst e7
    have hsx:(rl.map Ma.ofN)[k]'(by rw [List.length_map]; exact hkr)=Ma.ofN s:=by
     rw [← hs.out,List.getElem_map,getD_inf hkr]
    rw [hsx] at hvc hvi;rw [Ma.len_ofN,GS.out.2] at hvc hvi;have CS:=ι (CL.mk hvc hvb);have NS:=ι (show Rg.NP w2 (.slice sa (n+m) sc) s from hvi);have HKR:=ι hkr;clear hnx hrp hrx hu hcu hrb hvb hvc hvi hsx;go_upto_region 6 with (fail);have hV0:Below w51.heap.size w51 w51.drew:=(Below.refl _ _).drew;replace PT:=ι (PT.out.below hV0);replace CI:=ι (CI.out.below hV0);replace K1:=ι (Rg.acc K1.out hV0);clear hV0;refine Rg.Any.begin (S:=Rg.Both 10 (fun W=>Below w51.drew.heap.size w51.drew W) (fun W=>Below w2.heap.size w2 W)) mix ?_;generalize w51.drew=w74 at *;have hS:∀ (l:Array Bool) W,Below w74.heap.size w74 W→Below w2.heap.size w2 W→Rg.Both 10 (fun W=>Below w74.heap.size w74 W) (fun W=>Below w2.heap.size w2 W) l W:=fun l W h h2=>⟨.inr h,h2⟩;have hS2:∀ (l:Array Bool) W,l.getD 10 false=true→Below w2.heap.size w2 W→Rg.Both 10 (fun W=>Below w74.heap.size w74 W) (fun W=>Below w2.heap.size w2 W) l W:=fun l W h h2=>⟨.inl h,h2⟩
    have hI:=K1.out;refine Rg.tg 0 10 (.pointer (some ⟨pb,0,none⟩)) 33 rfl rfl (.inl ⟨rfl,fun w _=>Rg.exec_move (v:=.pointer (some ⟨pb,0,none⟩)) _ rfl rfl⟩) (hS _ _ (Below.refl _ _) hI) ?_;go_frame;refine Rg.tg 1 10 (.pointer (some ⟨pb,0,none⟩)) 34 rfl rfl (.inl ⟨rfl,fun w _=>exec_nil _ rfl rfl⟩) (hS _ _ (Below.refl _ _) hI) ?_;go_frame;refine Rg.tg 2 10 (.pointer (some ⟨pb,0,none⟩)) 35 rfl rfl (.inl ⟨rfl,fun w _=>exec_field _ rfl rfl (prF0 _ _)⟩) (hS _ _ (Below.refl _ _) hI) ?_;go_frame;refine Rg.tg 3 10 (.pointer (some ⟨pb,1,none⟩)) 36 rfl rfl (.inl ⟨rfl,fun w _=>exec_field _ rfl rfl (chF1 _ _)⟩) (hS _ _ (Below.refl _ _) hI) ?_;go_frame;refine Rg.tg 4 10 (.slice (some ⟨ob,oo,none⟩) (n+m) oc) 37 rfl rfl (Rg.yields_cell _ _ rfl rfl ⟨pb,1,none⟩ rfl (fun W hW=>Rg.run_loadSl _ _ Tryz.underlying27 ((Below.cell (p:=⟨pb,1,none⟩) hW P1.out.lt).trans P1.out.cell))) (hS _ _ (Below.refl _ _) hI) ?_;go_frame
    refine Rg.Any.takeT (i:=5) (t:=10) (v:=.int .i64 ((i:Nat):Int)) (some 38) rfl rfl (by kernel_rfl) (by kernel_rfl) (by kernel_rfl) (fun _ _ _ h=>h) rfl (by kernel_rfl) rfl (Rg.yields_cell _ _ rfl rfl ⟨wd.heap.size,0,none⟩ rfl (fun W hW=>run_loadInt ((Below.cell (p:=⟨wd.heap.size,0,none⟩) hW CI.out.lt).trans CI.out.c))) (hS _ _ (Below.refl _ _) hI) ?_;go_frame;refine Rg.tg 6 10 (.pointer (some ⟨ob,oo+i,none⟩)) 39 rfl rfl (Rg.yields_index slIntss _ _ rfl rfl ob (oo) ((n+m)) oc (i) rfl rfl (by omega)) (hS _ _ (Below.refl _ _) hI) ?_;go_frame;refine Rg.tg 7 10 (.slice ua ol.length uc) 40 rfl rfl (Rg.yields_cell _ _ rfl rfl ⟨ob,oo+i,none⟩ rfl (fun W hW=>Rg.run_loadSl _ _ Tryz.underlying36 ((Below.cell (p:=⟨ob,oo+i,none⟩) hW CO.out.lt).trans CO.out.cell))) (hS _ _ (Below.refl _ _) hI) ?_;go_frame;refine Rg.tg 8 10 ((.func (.func 202) #[] #[.pointer (some ⟨w2.heap.size,0,none⟩),.pointer (some ⟨w.heap.size,0,none⟩),.pointer (some ⟨wd.heap.size,0,none⟩)])) 41 rfl rfl (.inl ⟨rfl,fun w _=>exec_makeFunc3 _ _ _ _ rfl rfl rfl rfl⟩) (hS _ _ (Below.refl _ _) hI) ?_;go_frame
    have hcf:=indexFuncI_any _ (Ma.ofN ol) 202 #[.pointer (some ⟨w2.heap.size,0,none⟩),.pointer (some ⟨w.heap.size,0,none⟩),.pointer (some ⟨wd.heap.size,0,none⟩)] (fun q=>decide (ap z q.toNat=ap x i)) w74 (IO.out.below hI) (by rw [Ma.len_ofN]; omega) clPt1 (pt_asks (CL.mk PT.out.cz.c PT.out.cz.lt) PT.out.fp GZ.out (CL.mk (BX.out.below hI).c (BX.out.below hI).lt) (CX.out.below hI) HIN.out (CL.mk CI.out.c CI.out.lt) HOQ.out);rw [HIX.out] at hcf;refine Rg.Any.one (i:=9) (by kernel_rfl) (Rg.Any.ask (some 42) rfl rfl rfl _ _ (exec_fn 201 _ _ _ rfl rfl rfl (Adcl1 _ _)) ?_);refine (hcf).mono ?_;rintro e1 w75 ⟨rfl,hb⟩;have hI3_0:=Rg.acc hI hb;have hI3_1:=hb;clear hb hI;refine ⟨_,rfl,(hS _ _ hI3_1 hI3_0),?_⟩;go_frame;refine Rg.Any.one (i:=10) (by kernel_rfl) (Rg.Any.run (some 10) rfl rfl rfl (Rg.xa (.int .i64 ((k:Nat):Int)) _ rfl rfl) (hS2 _ _ rfl hI3_0) ?_);go_frame
    refine Rg.Any.done (by kernel_rfl) ?_ _;replace PT:=ι (PT.out.below hI3_1);replace CI:=ι (CI.out.below hI3_1);replace K1:=ι hI3_0;clear hS2;clear hS hI3_0 hI3_1;go_upto_region 7 with (fail);refine Rg.wl ?_;refine Rg.lm 43 (.int .i64 ((k:Nat):Int)) ?_;go_frame;refine Rg.lr 44 (exec_bin (R:=.bool false) .lss _ _ _ rfl rfl rfl (b_lss _ Rg.dF)) ?_;go_frame;go_upto_region 9 with (fail);have hV0:Below w75.heap.size w75 w75.drew:=(Below.refl _ _).drew;replace PT:=ι (PT.out.below hV0);replace CI:=ι (CI.out.below hV0);replace K1:=ι (Rg.acc K1.out hV0);clear hV0;refine Rg.Any.begin (S:=Rg.Both 16 (fun W=>Below w75.drew.heap.size w75.drew W) (fun W=>Below w2.heap.size w2 W)) mix ?_;generalize w75.drew=w76 at *;have hS:∀ (l:Array Bool) W,Below w76.heap.size w76 W→Below w2.heap.size w2 W→Rg.Both 16 (fun W=>Below w76.heap.size w76 W) (fun W=>Below w2.heap.size w2 W) l W:=fun l W h h2=>⟨.inr h,h2⟩
    have hS2:∀ (l:Array Bool) W,l.getD 16 false=true→Below w2.heap.size w2 W→Rg.Both 16 (fun W=>Below w76.heap.size w76 W) (fun W=>Below w2.heap.size w2 W) l W:=fun l W h h2=>⟨.inl h,h2⟩;have hI:=K1.out;refine Rg.tg 0 16 (.pointer (some ⟨pb,0,none⟩)) 46 rfl rfl (.inl ⟨rfl,fun w _=>Rg.exec_move (v:=.pointer (some ⟨pb,0,none⟩)) _ rfl rfl⟩) (hS _ _ (Below.refl _ _) hI) ?_;go_frame;refine Rg.tg 1 16 (.pointer (some ⟨pb,0,none⟩)) 47 rfl rfl (.inl ⟨rfl,fun w _=>exec_nil _ rfl rfl⟩) (hS _ _ (Below.refl _ _) hI) ?_;go_frame;refine Rg.tg 2 16 (.pointer (some ⟨pb,0,none⟩)) 48 rfl rfl (.inl ⟨rfl,fun w _=>exec_field _ rfl rfl (prF0 _ _)⟩) (hS _ _ (Below.refl _ _) hI) ?_;go_frame;refine Rg.tg 3 16 (.pointer (some ⟨pb,2,none⟩)) 49 rfl rfl (.inl ⟨rfl,fun w _=>exec_field _ rfl rfl (chF2 _ _)⟩) (hS _ _ (Below.refl _ _) hI) ?_;go_frame;refine Rg.tg 4 16 (.slice (some ⟨rb,ro,none⟩) (n+m) rc) 50 rfl rfl (Rg.yields_cell _ _ rfl rfl ⟨pb,2,none⟩ rfl (fun W hW=>Rg.run_loadSl _ _ Tryz.underlying52 ((Below.cell (p:=⟨pb,2,none⟩) hW P2.out.lt).trans P2.out.cell))) (hS _ _ (Below.refl _ _) hI) ?_;go_frame
    refine Rg.Any.takeT (i:=5) (t:=16) (v:=.int .i64 ((i:Nat):Int)) (some 51) rfl rfl (by kernel_rfl) (by kernel_rfl) (by kernel_rfl) (fun _ _ _ h=>h) rfl (by kernel_rfl) rfl (Rg.yields_cell _ _ rfl rfl ⟨wd.heap.size,0,none⟩ rfl (fun W hW=>run_loadInt ((Below.cell (p:=⟨wd.heap.size,0,none⟩) hW CI.out.lt).trans CI.out.c))) (hS _ _ (Below.refl _ _) hI) ?_;go_frame;refine Rg.tg 6 16 (.pointer (some ⟨rb,ro+i,none⟩)) 52 rfl rfl (Rg.yields_index slPermss _ _ rfl rfl rb (ro) ((n+m)) rc (i) rfl rfl (by omega)) (hS _ _ (Below.refl _ _) hI) ?_;go_frame;refine Rg.tg 7 16 (.slice (some ⟨vb,vo,none⟩) rl.length vc) 53 rfl rfl (Rg.yields_cell _ _ rfl rfl ⟨rb,ro+i,none⟩ rfl (fun W hW=>Rg.run_loadSl _ _ Tryz.underlying22 ((Below.cell (p:=⟨rb,ro+i,none⟩) hW CR.out.lt).trans CR.out.cell))) (hS _ _ (Below.refl _ _) hI) ?_;go_frame;refine Rg.tg 8 16 (.int .i64 ((k:Nat):Int)) 54 rfl rfl (.inl ⟨rfl,fun w _=>Rg.exec_move (v:=.int .i64 ((k:Nat):Int)) _ rfl rfl⟩) (hS _ _ (Below.refl _ _) hI) ?_;go_frame
    refine Rg.tg 9 16 (.pointer (some ⟨vb,vo+k,none⟩)) 55 rfl rfl (Rg.yields_index slPerms _ _ rfl rfl vb (vo) (rl.length) vc (k) rfl rfl HKR.out) (hS _ _ (Below.refl _ _) hI) ?_;go_frame;refine Rg.tg 10 16 (.slice sa (n+m) sc) 56 rfl rfl (Rg.yields_cell _ _ rfl rfl ⟨vb,vo+k,none⟩ rfl (fun W hW=>Rg.run_loadSl _ _ Tryz.underlying51 ((Below.cell (p:=⟨vb,vo+k,none⟩) hW CS.out.lt).trans CS.out.cell))) (hS _ _ (Below.refl _ _) hI) ?_;go_frame;refine Rg.Any.takeT (i:=11) (t:=16) (v:=.slice (some ⟨za,zo,none⟩) (n+m) zc) (some 57) rfl rfl (by kernel_rfl) (by kernel_rfl) (by kernel_rfl) (fun _ _ _ h=>h) rfl (by kernel_rfl) rfl (Rg.yields_cell _ _ rfl rfl ⟨w2.heap.size,0,none⟩ rfl (fun W hW=>Rg.run_loadSl _ _ Tryz.underlying51 ((Below.cell (p:=⟨w2.heap.size,0,none⟩) hW PT.out.cz.lt).trans PT.out.cz.c))) (hS _ _ (Below.refl _ _) hI) ?_;go_frame;have HZ9:=ι (show w2.heap.size<w76.heap.size from PT.out.cz.lt)
    refine Rg.Any.one (i:=12) (by kernel_rfl) (Rg.Any.ask (some 58) rfl rfl rfl _ _ (exec_fn 203 _ _ _ rfl rfl rfl (Adcl2 _ _)) ?_);refine (permMul_ok _ _ s z w76 (NS.out.below hI) PT.out.fp.np GS.out.1 GZ.out.1 (by rw [GS.out.2,GZ.out.2]) (by rw [GS.out.2]; omega) (by rw [GS.out.2]; exact hnm)).mono ?_;rintro e1 w77 ⟨mv,rfl,hmv,hb⟩;have hmf:=pt_new HZ9.out hmv;obtain ⟨ma,mo,mc,rfl⟩:=hmf.shape' (Cm.gd_mul GS.out GZ.out) (by omega);clear hmv;have hI4_0:=Rg.acc hI hb;have hI4_1:=hb;clear hb hI;refine ⟨_,rfl,(hS _ _ hI4_1 hI4_0),?_⟩;go_frame;have MV:=ι hmf;refine Rg.tg 13 16 (.tuple #[.slice (some ⟨ma,mo,none⟩) (n+m) mc,.int .i64 0]) 45 rfl rfl (.inl ⟨rfl,fun w _=>Rg.exec_move (v:=.tuple #[.slice (some ⟨ma,mo,none⟩) (n+m) mc,.int .i64 0]) _ rfl rfl⟩) (hS _ _ hI4_1 hI4_0) ?_;go_frame;refine Rg.tg 14 16 (.slice (some ⟨ma,mo,none⟩) (n+m) mc) 59 rfl rfl (.inl ⟨rfl,fun w _=>exec_extract (v:=.slice (some ⟨ma,mo,none⟩) (n+m) mc) _ _ rfl rfl rfl⟩) (hS _ _ hI4_1 hI4_0) ?_;go_frame
    refine Rg.tg 15 16 (.int .i64 0) 60 rfl rfl (.inl ⟨rfl,fun w _=>exec_extract (v:=.int .i64 0) _ _ rfl rfl rfl⟩) (hS _ _ hI4_1 hI4_0) ?_;go_frame;have PT9:=ι (PT.out.below hI4_1);have MV9:=ι MV.out;have hI5_g:=hI4_0.setCell (p:=⟨w2.heap.size,0,none⟩) (Nat.le_refl _) (.slice (some ⟨ma,mo,none⟩) (n+m) mc);refine Rg.Any.one (i:=16) (by kernel_rfl) (Rg.Any.runSkip none rfl rfl rfl (Rg.exec_store _ _ _ rfl _ rfl _ rfl (Rg.run_storeSl _ infoPerm PT9.out.cz.c PT9.out.cz.f)) (hS2 _ _ rfl hI5_g) ?_);go_frame;clear hI4_0 hI4_1;clear PT;clear CI;clear MV;refine Rg.Any.done (by kernel_rfl) ?_ _;replace K1:=ι hI5_g;clear hS2;clear hS hI5_g;have hpt2:=PT9.out.set MV9.out;generalize w77.setCell ⟨w2.heap.size,0,none⟩ (.slice (some ⟨ma,mo,none⟩) (n+m) mc)=w98 at *;have PT2:=ι hpt2;clear hpt2;go_upto_region 10 with (fail);refine Rg.wl ?_;refine Rg.lr 61 (exec_bin (R:=.int .i64 (((i+1):Nat):Int)) .add _ _ _ rfl rfl rfl (b_add _ (by omega) (by omega))) ?_;go_frame
    refine Rg.lm 30 (.int .i64 (((i+1):Nat):Int)) ?_;go_frame;go_wp2
    go_roundw
    case rel=>exact ⟨i+1,_,_,by go_num,HIN.out,PT2,HNX⟩
    case measure=>simp [intOf]; have:=HIN.out; omega
  case neg =>
   have hie:i=n:=by omega
   obtain ⟨b,hgb,hzb,hib⟩:=agr_all HGA.out HGB.out GX.out HAG.out.1 (by have:=HAG.out.2; rw [hie] at this; exact this);have GB:=ι hgb;have HIB:=ι (show ImR m (PG2 n m A B) x (some b) from ⟨hgb,hib⟩);have HZQ:=ι (show ∀ t,t<m→ap z (n+t)=n+ap b t from fun t ht=>by rw [hzb,ap_jn2 GX.out hgb ht])
   have hm64:m≤64:=by omega
   clear hgb hzb hib;go_upto_region 4 with (fail);refine Rg.wl ?_;refine Rg.lr 31 (exec_bin (R:=.bool false) .lss _ _ _ rfl rfl rfl (b_lss _ Rg.dF)) ?_;go_frame;go_upto_region 11 with (fail);refine Rg.wl ?_;refine Rg.lm 62 (.pointer (some ⟨pb,0,none⟩)) ?_;go_frame;refine Rg.lr 63 (exec_nil _ rfl rfl) ?_;go_frame;refine Rg.lr 64 (exec_field _ rfl rfl (prF2 _ _)) ?_;go_frame;refine Rg.lr 65 (exec_field _ rfl rfl (grF5_0 _ _)) ?_;go_frame;refine Rg.lr 66 (Rg.exec_load (v:=.int .i64 ((m:Nat):Int)) _ _ rfl ⟨pb,5,none⟩ rfl (run_loadInt ((Below.cell (p:=⟨pb,5,none⟩) K1.out P5.out.lt).trans P5.out.cell))) ?_;go_frame;refine Rg.lr 67 (exec_makeSlice _ _ _ rfl _ _ rfl rfl (mkPerm m (by omega) wd)) ?_;go_frame;refine Rg.la 11 (.slice (some ⟨wd.heap.size,0,none⟩) m m) ?_;go_frame;have hrw:=made_rowH wd m;have hbw:Below wd.heap.size wd (wd.alloc (.cells (madeCells #[.int .i64 0] m) 3)):=(Below.refl _ _).alloc (Nat.le_refl _) _
   obtain ⟨gb,hgb⟩:∃ b,wd.heap.size=b:=⟨_,rfl⟩;have HGB2:=ι (show wd.heap.size≤gb from Nat.le_of_eq hgb);rw [hgb] at hrw ⊢;generalize wd.alloc (.cells (madeCells #[.int .i64 0] m) 3)=wf at *;have RW:=ι (show RwAt wf gb m (fun t=>if t<0 then ((ap z (n+t):Nat):Int) - ((n:Nat):Int) else 0) from hrw.congr (fun i _=>by rw [if_neg (Nat.not_lt_zero _)]));have KE:=ι hbw;clear hrw hbw hgb;go_upto_region 12 with (fail);refine Rg.wl ?_;refine Rg.lm 68 (.slice (some ⟨gb,0,none⟩) m m) ?_;go_frame;refine Rg.lr 69 (exec_len _ _ _ rfl Tryz.underlying51 _ _ _ rfl) ?_;go_frame;refine Rg.lm 70 (.int .i64 ((0:Nat):Int)) ?_;go_frame;go_wp2
   go_loopw [70] (fun iv wr=>∃ t:Nat,iv=.int .i64 ((t:Nat):Int)∧t≤m∧Hid (RwAt wr gb m (fun s=>if s<t then ((ap z (n+s):Nat):Int) - ((n:Nat):Int) else 0))∧Hid (Below wd.heap.size wd wr)) (fun iv _=>m - (intOf iv).toNat)
   case atStart=>exact ⟨0,rfl,Nat.zero_le _,RW,KE⟩
   case round =>
    clear RW KE;obtain ⟨t,rfl,ht,RW,KE⟩:=hrel;generalize wr=wg at *;have KX:=ι (Rg.acc K1.out KE.out)
    by_cases htm:t<m
    case pos =>
     have HTM:=ι htm
     have hnt:n+t<n+m:=by omega
     have PTX:=ι (PT.out.below KE.out);obtain ⟨q,hq⟩:∃ q:Nat,Hid (ap z (n+t)=q):=⟨_,ι rfl⟩
     have hqb:q<n+m:=by rw [← hq.out]; exact Cm.ap_lt GZ.out hnt
     have hzc:=PTX.out.fp.ap GZ.out hnt;rw [hq.out] at hzc;have CQ:=ι (CL.mk hzc.cell hzc.lt);clear hzc;go_upto_region 13 with (fail);refine Rg.wl ?_;refine Rg.lr 71 (exec_bin (R:=.bool true) .lss _ _ _ rfl rfl rfl (b_lss _ Rg.dT)) ?_;go_frame;go_upto_region 14 with (fail);refine Rg.wl ?_;refine Rg.lm 72 (.int .i64 ((t:Nat):Int)) ?_;go_frame;refine Rg.la 12 (.int .i64 ((t:Nat):Int)) ?_;go_frame;go_upto_region 15 with (fail);refine Rg.wl ?_;refine Rg.lm 73 (.slice (some ⟨gb,0,none⟩) m m) ?_;go_frame;refine Rg.lm 74 (.int .i64 ((t:Nat):Int)) ?_;go_frame;refine Rg.lr 75 (Rg.exec_load (v:=.slice (some ⟨za,zo,none⟩) (n+m) zc) _ _ rfl ⟨w2.heap.size,0,none⟩ rfl (Rg.run_loadSl _ _ Tryz.underlying51 PTX.out.cz.c)) ?_;go_frame;refine Rg.lm 76 (.int .i64 ((n:Nat):Int)) ?_;go_frame;refine Rg.lm 77 (.int .i64 ((t:Nat):Int)) ?_;go_frame;refine Rg.lr 78 (exec_bin (R:=.int .i64 (((n+t):Nat):Int)) .add _ _ _ rfl rfl rfl (b_add _ (by omega) (by omega))) ?_;go_frame
     refine Rg.lr 79 (exec_indexS slPerm _ _ rfl za (zo) ((n+m)) zc ((n+t)) rfl rfl hnt) ?_;go_frame;refine Rg.lr 80 (Rg.exec_load (v:=.int .i64 ((q:Nat):Int)) _ _ rfl ⟨za,zo+(n+t),none⟩ rfl (run_loadInt CQ.out.cell)) ?_;go_frame;refine Rg.lm 81 (.int .i64 ((n:Nat):Int)) ?_;go_frame;refine Rg.lr 82 (exec_bin (R:=.int .i64 (((q:Nat):Int) - ((n:Nat):Int))) .sub _ _ _ rfl rfl rfl (b_sub _ (by omega) (by omega))) ?_;go_frame;refine Rg.lr 83 (exec_indexS slPerm _ _ rfl gb (0) (m) m (t) rfl rfl HTM.out) ?_;go_frame;refine Rg.list_skip none rfl rfl (Rg.exec_store _ _ _ rfl _ rfl _ rfl (run_storeInt (((q:Nat):Int) - ((n:Nat):Int)) (by rw [Nat.zero_add]; exact RW.out.2.1 t HTM.out) (by rw [Nat.zero_add]; exact RW.out.2.2 t))) ?_;go_frame
     have hrw:RwAt (wg.setCell ⟨gb,0+t,none⟩ (.int .i64 (((q:Nat):Int) - ((n:Nat):Int)))) gb m (fun s=>if s<t+1 then ((ap z (n+s):Nat):Int) - ((n:Nat):Int) else 0):=by
      rw [Nat.zero_add];exact (RW.out.set t _ HTM.out).congr (fill_step (X:=fun s=>((ap z (n+s):Nat):Int) - ((n:Nat):Int)) (by rw [hq.out]))
     have hkw:=KE.out.setCell (p:=⟨gb,0+t,none⟩) HGB2.out (.int .i64 (((q:Nat):Int) - ((n:Nat):Int)));generalize wg.setCell ⟨gb,0+t,none⟩ (.int .i64 (((q:Nat):Int) - ((n:Nat):Int)))=wh at *;have RW2:=ι hrw;have KE2:=ι hkw;clear hrw hkw;go_upto_region 16 with (fail);refine Rg.wl ?_;refine Rg.lr 84 (exec_bin (R:=.int .i64 (((t+1):Nat):Int)) .add _ _ _ rfl rfl rfl (b_add _ (by omega) (by omega))) ?_;go_frame;refine Rg.lm 70 (.int .i64 (((t+1):Nat):Int)) ?_;go_frame;go_wp2
     go_roundw
     case rel=>exact ⟨t+1,by go_num,HTM.out,RW2,KE2⟩
     case measure=>simp [intOf]; have:=HTM.out; omega
    case neg =>
     have HYI:=ι (show Rg.NP wg (.slice (some ⟨gb,0,none⟩) m m) b by
      have h5:=rwat_ints RW.out (Nat.le_refl _) (by unfold maxLen; omega:m≤maxLen) (by omega)
      have e5:(List.range m).map (fun s=>if s<t then ((ap z (n+s):Nat):Int) - ((n:Nat):Int) else 0)=Ma.ofN b:=by
       refine List.ext_getElem (by rw [List.length_map,List.length_range,Ma.len_ofN,GB.out.2]) fun j h1 h2=>?_
       have hj:j<m:=by rw [List.length_map,List.length_range] at h1; exact h1
       rw [List.getElem_map,List.getElem_range,if_pos (by omega),HZQ.out j hj,Ma.get_ofN,Cm.ap_at (by rw [GB.out.2]; exact hj)];omega
      rw [e5] at h5
      exact h5)
     have KT:=ι (show Below w.heap.size w wg from K.out.trans (KX.out.mono K.out.size));go_upto_region 13 with (fail);refine Rg.wl ?_;refine Rg.lr 71 (exec_bin (R:=.bool false) .lss _ _ _ rfl rfl rfl (b_lss _ Rg.dF)) ?_;go_frame;go_upto_region 17 with (fail);refine Rg.wl ?_;refine Rg.lm 85 (.slice (some ⟨gb,0,none⟩) m m) ?_;go_frame;refine Rg.la 4 (.slice (some ⟨gb,0,none⟩) m m) ?_;go_frame;refine Rg.la 5 (.bool true) ?_;go_frame;go_wp2
     go_ret2
     exact ⟨.inr ⟨_,b,rfl,HYI.out,HIB.out⟩,KT.out⟩

theorem Aicl1 (args:Array Value) (w:World):(callFunc 314 args).run Tryz.prog w=.ok (.enter 314 args) w:=by kernel_rfl
theorem rkMul_any (v1 v2:Value) (a c:List Nat) (w:World) (h:Rg.NP w v1 a) (h':Rg.NP w v2 c) (hac:∀ x∈a,x<c.length) (hn:a.length≤1000) (h1:1≤a.length) (h2:1≤c.length) :
  Calls Tryz.prog 314 #[v1,v2] w fun e w'=>∃ v,e=.returned v∧Rg.NPF w w' v (Ma.mulN a c)∧Below w.heap.size w w':=by
 obtain ⟨ad,cap,rfl,hc,_,_,hcell⟩:=h.shape;obtain ⟨b,o,rfl,hb,hr⟩:=hcell (by omega);obtain ⟨ad2,cap2,rfl,hc2,_,_,hcell2⟩:=h'.shape;obtain ⟨b2,o2,rfl,hb2,hr2⟩:=hcell2 (by omega);have Hr:=ι hr;have Hr2:=ι hr2;have Hac:=ι hac;clear hr hcell h hr2 hcell2 h' hac;have hmk:=mkPerm a.length (by omega) w;have hrow:=ι (World.rowIs_made w (.int .i64 0) a.length 3)
 go_enter Tryz.func314,Tryz.ntmps314
 go_wp2;clear hmk
 go_loopw [13] (fun i wr=>∃ k:Nat,k≤a.length∧i=.int .i64 k∧Hid (wr.rowIs w.heap.size 3 a.length (fun j=>.int .i64 (if j<k then ((c.getD (a.getD j 0) 0:Nat):Int) else 0)))∧Below w.heap.size w wr) (fun i _=>a.length - (intOf i).toNat)
 case atStart=>exact ⟨0,by omega,rfl,hrow.out.congr (fun i hi=>by simp),(Below.refl _ _).alloc (Nat.le_refl _) _⟩
 case round =>
  obtain ⟨k,hk,rfl,hs,hbel⟩:=hrel;obtain ⟨hc,hf⟩:=Rg.bcell hbel
  by_cases hlt:k<a.length
  ·have e0:wr.cell? ⟨b,o+k,none⟩=some (.int .i64 ((a[k]:Nat):Int)):=(hc b (o+k) hb).trans (Hr.out k hlt)
   have hak:a[k]<c.length:=Hac.out _ (List.getElem_mem hlt);have hga:a.getD k 0=a[k]:=Ma.getD_lt hlt
   have e1:wr.cell? ⟨b2,o2+a[k],none⟩=some (.int .i64 ((c.getD (a.getD k 0) 0:Nat):Int)):=by
    rw [hga,Ma.getD_lt hak];exact (hc b2 (o2+a[k]) hb2).trans (Hr2.out a[k] hak)
   generalize a[k]=x at *;have Hga:=ι hga;generalize hy:c.getD (a.getD k 0) 0=y at *;have Hy:=ι hy;clear hc hf hga hy;have c1:=hs.out.cell hlt;have f1:=hs.out.frozen k;simp only [Nat.lt_irrefl,if_false] at c1;go_wp2
   go_roundw
   case rel =>
    refine ⟨k+1,by omega,by go_num,?_,hbel.setCell (Nat.le_refl _) _⟩;refine (hs.out.set k _).congr fun i hi=>?_
    by_cases e:i=k
    ·subst e; rw [if_pos rfl,if_pos (by omega),Hy.out]
    ·rw [if_neg e]
     by_cases e2:i<k
     ·rw [if_pos e2,if_pos (by omega)]
     ·rw [if_neg e2,if_neg (by omega)]
   case measure=>simp [intOf]; omega
  ·obtain rfl:k=a.length:=by omega
   go_wp2;go_ret;refine ⟨_,rfl,⟨Rg.NP.of_rowIs hs.out (by rw [Ma.len_mulN]) (by omega) (fun i hi=>?_),Rg.Fresh.mk _ _ _ _⟩,by assumption⟩;rw [Ma.get_mulN];rw [Ma.len_mulN] at hi;rw [if_pos hi,Ma.getD_lt hi]
theorem rkMember_any {n:Int} {ov rv xv:Value} {OO:List (List Int)} {RR:List (List (List Int))} {xl:List Int} {w:World} (h:ChEqR w ov rv OO RR) (hx:Rg.Ints w xv xl) :
  Calls Tryz.prog 206 #[.agg #[.int .i64 n,ov,rv],xv] w fun e w'=>e=.returned (.int .i64 (bothC n OO RR xl))∧Below w.heap.size w w':=by
 obtain ⟨oa,oc,rfl,-⟩:=h.1.shape;obtain ⟨ra,rc,rfl⟩:=h.2.shape;obtain ⟨xa,xc,rfl,-⟩:=hx.shape;have HC:=ι h;have HX:=ι hx;have K:=ι (Below.refl w.heap.size w);clear h hx
 go_enter Tryz.func206,Tryz.ntmps206
 go_upto_region 0 with (fail);refine Rg.wl ?_;have hbx:=box3 w (.int .i64 n) (.slice oa OO.length oc) (.slice ra RR.length rc);refine Rg.lr 2 (Rg.exec_box _ _ rfl rfl) ?_;go_frame;have hb:=(Below.refl w.heap.size w).alloc (Nat.le_refl _) (.cells #[.int .i64 n,.slice oa OO.length oc,.slice ra RR.length rc] 54);generalize w.alloc (.cells #[.int .i64 n,.slice oa OO.length oc,.slice ra RR.length rc] 54)=w1 at *;replace HC:=ι (HC.out.below hb);replace HX:=ι (HX.out.below hb);replace K:=ι (Rg.acc K.out hb);clear hb;have A0:=ι hbx.1;have A1:=ι hbx.2.1;have A2:=ι hbx.2.2;clear hbx;refine Rg.la 4 (.int .i64 ((0:Nat):Int)) ?_;go_frame;obtain ⟨ck,hck⟩:∃ c,Hid (chCode n OO RR=c):=⟨_,ι rfl⟩;obtain ⟨pk,hpk⟩:∃ c,Hid (Ma.pchk xl=c):=⟨_,ι rfl⟩;go_upto_region 1 with (fail);refine Rg.wl ?_;refine Rg.lr 7 (Rg.exec_load (v:=(.agg #[.int .i64 n,.slice oa OO.length oc,.slice ra RR.length rc])) _ _ rfl ⟨w.heap.size,0,none⟩ rfl (run_loadC3 A0.out.cell A1.out.cell A2.out.cell)) ?_;go_frame
 refine Rg.lk 8 (exec_fn1 42 _ _ rfl rfl (Zecl0 _ _)) ?_;refine (chCheck_c HC.out).mono ?_;rintro e1 w2 ⟨rfl,hb⟩;rw [hck.out];refine ⟨_,rfl,?_⟩;go_frame;replace HC:=ι (HC.out.below hb);replace HX:=ι (HX.out.below hb);replace A0:=ι (A0.out.below hb);replace A1:=ι (A1.out.below hb);replace A2:=ι (A2.out.below hb);replace K:=ι (Rg.acc K.out hb);clear hb;refine Rg.la 5 (.int .i64 ck) ?_;go_frame
 by_cases h0:ck=0
 case neg =>
  skip
  go_upto_region 2 with (fail);refine Rg.wl ?_;refine Rg.lm 9 (.int .i64 ck) ?_;go_frame;refine Rg.lr 10 (exec_bin (R:=.bool true) .neq _ _ _ rfl rfl rfl (b_neqB _ (decide_eq_true h0))) ?_;go_frame;go_upto_region 3 with (fail);refine Rg.wl ?_;refine Rg.lm 11 (.int .i64 ck) ?_;go_frame;refine Rg.la 4 (.int .i64 ck) ?_;go_frame;go_wp2;go_ret;exact ⟨by rw [bothC_bad (by rw [hck.out]; exact h0),hck.out]; rfl,K.out⟩
 case pos =>
  have HZ:=ι (hck.out.trans h0);go_upto_region 2 with (fail);refine Rg.wl ?_;refine Rg.lm 9 (.int .i64 ck) ?_;go_frame;refine Rg.lr 10 (exec_bin (R:=.bool false) .neq _ _ _ rfl rfl rfl (b_neqB _ (decide_eq_false (fun e=>e h0)))) ?_;go_frame;clear h0;go_upto_region 4 with (fail);refine Rg.wl ?_;refine Rg.lm 12 (.slice xa xl.length xc) ?_;go_frame;refine Rg.lk 13 (exec_fn1 115 _ _ rfl rfl (Wvcl1 _ _)) ?_;refine (permCheck_any _ _ w2 HX.out).mono ?_;rintro e1 w3 ⟨rfl,hb⟩;rw [hpk.out];refine ⟨_,rfl,?_⟩;go_frame;replace HC:=ι (HC.out.below hb);replace HX:=ι (HX.out.below hb);replace A0:=ι (A0.out.below hb);replace A1:=ι (A1.out.below hb);replace A2:=ι (A2.out.below hb);replace K:=ι (Rg.acc K.out hb);clear hb;refine Rg.la 6 (.int .i64 pk) ?_;go_frame
  by_cases h1:pk=0
  case neg =>
   skip
   go_upto_region 5 with (fail);refine Rg.wl ?_;refine Rg.lm 14 (.int .i64 pk) ?_;go_frame;refine Rg.lr 15 (exec_bin (R:=.bool true) .neq _ _ _ rfl rfl rfl (b_neqB _ (decide_eq_true h1))) ?_;go_frame;go_upto_region 6 with (fail);refine Rg.wl ?_;refine Rg.lm 16 (.int .i64 pk) ?_;go_frame;refine Rg.la 4 (.int .i64 pk) ?_;go_frame;go_wp2;go_ret;exact ⟨by rw [bothC_perm HZ.out (by rw [hpk.out]; exact h1),hpk.out]; rfl,K.out⟩
  case pos =>
   have HP:=ι (hpk.out.trans h1);go_upto_region 5 with (fail);refine Rg.wl ?_;refine Rg.lm 14 (.int .i64 pk) ?_;go_frame;refine Rg.lr 15 (exec_bin (R:=.bool false) .neq _ _ _ rfl rfl rfl (b_neqB _ (decide_eq_false (fun e=>e h1)))) ?_;go_frame;clear h1
   by_cases h2:(xl.length:Int)=n
   case neg =>
    skip
    go_upto_region 7 with (fail);refine Rg.wl ?_;refine Rg.lm 17 (.slice xa xl.length xc) ?_;go_frame;refine Rg.lr 18 (exec_len _ _ _ rfl Tryz.underlying51 _ _ _ rfl) ?_;go_frame;refine Rg.lr 19 (exec_field _ rfl rfl (chF0 _ _)) ?_;go_frame;refine Rg.lr 20 (Rg.exec_load (v:=.int .i64 n) _ _ rfl ⟨w.heap.size,0,none⟩ rfl (run_loadInt A0.out.cell)) ?_;go_frame;refine Rg.lr 21 (exec_bin (R:=.bool true) .neq _ _ _ rfl rfl rfl (b_neqB _ (decide_eq_true h2))) ?_;go_frame;go_upto_region 8 with (fail);refine Rg.wl ?_;refine Rg.la 4 (.int .i64 ((10:Nat):Int)) ?_;go_frame;go_wp2;go_ret;exact ⟨by rw [bothC_len HZ.out HP.out h2]; rfl,K.out⟩
   case pos =>
    skip
    go_upto_region 7 with (fail);refine Rg.wl ?_;refine Rg.lm 17 (.slice xa xl.length xc) ?_;go_frame;refine Rg.lr 18 (exec_len _ _ _ rfl Tryz.underlying51 _ _ _ rfl) ?_;go_frame;refine Rg.lr 19 (exec_field _ rfl rfl (chF0 _ _)) ?_;go_frame;refine Rg.lr 20 (Rg.exec_load (v:=.int .i64 n) _ _ rfl ⟨w.heap.size,0,none⟩ rfl (run_loadInt A0.out.cell)) ?_;go_frame;refine Rg.lr 21 (exec_bin (R:=.bool false) .neq _ _ _ rfl rfl rfl (b_neqB _ (decide_eq_false (fun e=>e h2)))) ?_;go_frame;go_upto_region 9 with (fail);refine Rg.wl ?_;refine Rg.la 4 (.int .i64 ((0:Nat):Int)) ?_;go_frame;go_wp2;go_ret;exact ⟨by rw [bothC_ok HZ.out HP.out h2]; rfl,K.out⟩
theorem clSt1 (args:Array Value) (w:World):(callFunc 313 args).run Tryz.prog w=.ok (.enter 313 args) w:=by kernel_rfl
theorem step1_any {xb ib xo xc xa N q u im:Nat} {w:World} (h1:CL w xb 0 (.slice (some ⟨xa,xo,none⟩) N xc)) (h2:CL w xa (xo+q) (.int .i64 ((u:Nat):Int))) (h5:CL w ib 0 (.int .i64 ((im:Nat):Int))) (hq:q<N) :
  Calls Tryz.prog 313 #[.int .i64 ((q:Nat):Int),.pointer (some ⟨xb,0,none⟩),.pointer (some ⟨ib,0,none⟩)] w fun e w'=>e=.returned (.bool (decide (u=im)))∧Below w.heap.size w w':=by
 have H1:=ι h1;have H2:=ι h2;have H5:=ι h5;have HQ:=ι hq;have K:=ι (Below.refl w.heap.size w);clear h1 h2 h5 hq
 go_enter Tryz.func313,Tryz.ntmps313
 go_upto_region 0 with (fail);refine Rg.wl ?_;refine Rg.la 4 (.bool false) ?_;go_frame
 by_cases h:u=im
 case pos =>
  go_upto_region 1 with (fail);have hV0:Below w.heap.size w w.drew:=(Below.refl _ _).drew;replace H1:=ι (H1.out.below hV0);replace H2:=ι (H2.out.below hV0);replace H5:=ι (H5.out.below hV0);replace K:=ι (Rg.acc K.out hV0);clear hV0;refine Rg.Any.begin (S:=Rg.Both 6 (fun _=>True) (fun W=>Below w.drew.heap.size w.drew W)) mix ?_;generalize w.drew=w11 at *;have hS:∀ (l:Array Bool) W,Below w11.heap.size w11 W→Rg.Both 6 (fun _=>True) (fun W=>Below w11.heap.size w11 W) l W:=fun l W h=>⟨.inr trivial,h⟩;have hI:Below w11.heap.size w11 w11:=Below.refl _ _;refine Rg.tg 0 6 (.slice (some ⟨xa,xo,none⟩) N xc) 5 rfl rfl (Rg.yields_cell _ _ rfl rfl ⟨xb,0,none⟩ rfl (fun W hW=>Rg.run_loadSl _ _ Tryz.underlying51 ((Below.cell (p:=⟨xb,0,none⟩) hW H1.out.lt).trans H1.out.cell))) (hS _ _ hI) ?_;go_frame;refine Rg.tm 1 6 (.int .i64 ((q:Nat):Int)) 6 (hS _ _ hI) ?_;go_frame
  refine Rg.tg 2 6 (.pointer (some ⟨xa,xo+q,none⟩)) 7 rfl rfl (Rg.yields_index slPerm _ _ rfl rfl xa (xo) (N) xc (q) rfl rfl HQ.out) (hS _ _ hI) ?_;go_frame;refine Rg.tg 3 6 (.int .i64 ((u:Nat):Int)) 8 rfl rfl (Rg.yields_cell _ _ rfl rfl ⟨xa,xo+q,none⟩ rfl (fun W hW=>run_loadInt ((Below.cell (p:=⟨xa,xo+q,none⟩) hW H2.out.lt).trans H2.out.cell))) (hS _ _ hI) ?_;go_frame;refine Rg.tg 4 6 (.int .i64 ((im:Nat):Int)) 9 rfl rfl (Rg.yields_cell _ _ rfl rfl ⟨ib,0,none⟩ rfl (fun W hW=>run_loadInt ((Below.cell (p:=⟨ib,0,none⟩) hW H5.out.lt).trans H5.out.cell))) (hS _ _ hI) ?_;go_frame;refine Rg.tg 5 6 (.bool true) 10 rfl rfl (.inl ⟨rfl,fun w _=>exec_bin (R:=.bool true) .eql _ _ _ rfl rfl rfl (b_eql _ Rg.dT)⟩) (hS _ _ hI) ?_;go_frame;refine Rg.Any.one (i:=6) (by kernel_rfl) (Rg.Any.run (some 4) rfl rfl rfl (Rg.xa (.bool true) _ rfl rfl) (hS _ _ hI) ?_);go_frame
  refine Rg.Any.done (by kernel_rfl) ?_ _;clear hS hI;go_wp2;go_ret;exact ⟨by rw [decide_eq_true h]; rfl,K.out⟩
 case neg =>
  go_upto_region 1 with (fail);have hV0:Below w.heap.size w w.drew:=(Below.refl _ _).drew;replace H1:=ι (H1.out.below hV0);replace H2:=ι (H2.out.below hV0);replace H5:=ι (H5.out.below hV0);replace K:=ι (Rg.acc K.out hV0);clear hV0;refine Rg.Any.begin (S:=Rg.Both 6 (fun _=>True) (fun W=>Below w.drew.heap.size w.drew W)) mix ?_;generalize w.drew=w22 at *;have hS:∀ (l:Array Bool) W,Below w22.heap.size w22 W→Rg.Both 6 (fun _=>True) (fun W=>Below w22.heap.size w22 W) l W:=fun l W h=>⟨.inr trivial,h⟩;have hI:Below w22.heap.size w22 w22:=Below.refl _ _;refine Rg.tg 0 6 (.slice (some ⟨xa,xo,none⟩) N xc) 5 rfl rfl (Rg.yields_cell _ _ rfl rfl ⟨xb,0,none⟩ rfl (fun W hW=>Rg.run_loadSl _ _ Tryz.underlying51 ((Below.cell (p:=⟨xb,0,none⟩) hW H1.out.lt).trans H1.out.cell))) (hS _ _ hI) ?_;go_frame;refine Rg.tm 1 6 (.int .i64 ((q:Nat):Int)) 6 (hS _ _ hI) ?_;go_frame
  refine Rg.tg 2 6 (.pointer (some ⟨xa,xo+q,none⟩)) 7 rfl rfl (Rg.yields_index slPerm _ _ rfl rfl xa (xo) (N) xc (q) rfl rfl HQ.out) (hS _ _ hI) ?_;go_frame;refine Rg.tg 3 6 (.int .i64 ((u:Nat):Int)) 8 rfl rfl (Rg.yields_cell _ _ rfl rfl ⟨xa,xo+q,none⟩ rfl (fun W hW=>run_loadInt ((Below.cell (p:=⟨xa,xo+q,none⟩) hW H2.out.lt).trans H2.out.cell))) (hS _ _ hI) ?_;go_frame;refine Rg.tg 4 6 (.int .i64 ((im:Nat):Int)) 9 rfl rfl (Rg.yields_cell _ _ rfl rfl ⟨ib,0,none⟩ rfl (fun W hW=>run_loadInt ((Below.cell (p:=⟨ib,0,none⟩) hW H5.out.lt).trans H5.out.cell))) (hS _ _ hI) ?_;go_frame;refine Rg.tg 5 6 (.bool false) 10 rfl rfl (.inl ⟨rfl,fun w _=>exec_bin (R:=.bool false) .eql _ _ _ rfl rfl rfl (b_eql _ Rg.dF)⟩) (hS _ _ hI) ?_;go_frame;refine Rg.Any.one (i:=6) (by kernel_rfl) (Rg.Any.run (some 4) rfl rfl rfl (Rg.xa (.bool false) _ rfl rfl) (hS _ _ hI) ?_);go_frame
  refine Rg.Any.done (by kernel_rfl) ?_ _;clear hS hI;go_wp2;go_ret;exact ⟨by rw [decide_eq_false h]; rfl,K.out⟩
theorem st_asks {F:Nat→Prop} {xb ib xo xc xa N im:Nat} {x ol:List Nat} {W:World} (h1:CL W xb 0 (.slice (some ⟨xa,xo,none⟩) N xc)) (h2:FP F W (.slice (some ⟨xa,xo,none⟩) N xc) x) (gx:Gd N x) (h5:CL W ib 0 (.int .i64 ((im:Nat):Int))) (ho:∀ q∈ol,q<N) :
  AsksI 313 #[.pointer (some ⟨xb,0,none⟩),.pointer (some ⟨ib,0,none⟩)] (Ma.ofN ol) (fun q=>decide (ap x q.toNat=im)) W:=by
 intro y hy w1 hb;obtain ⟨q,hq,rfl⟩:=List.mem_map.1 hy;have hqN:=ho q hq;have hc:=h2.ap gx hqN;show Calls Tryz.prog _ #[_,_,_] w1 (fun e w2=>e=.returned (.bool (decide (ap x (((q:Nat):Int)).toNat=im)))∧Below w1.heap.size w1 w2);rw [Int.toNat_natCast];exact step1_any (h1.below hb) ((CL.mk hc.cell hc.lt).below hb) (h5.below hb) hqN
theorem idxJ_im {l x:List Nat} {im:Nat} (h:∃ q∈l,ap x q=im):∃ k,k<l.length∧idxJ (Ma.ofN l) (fun q=>decide (ap x q.toNat=im))=((k:Nat):Int)∧ap x (l.getD k 0)=im:=by
 have h5:∃ q∈l,ap x q=ap [im] 0:=h;obtain ⟨k,h1,h2,h3⟩:=idxJ_yes h5;exact ⟨k,h1,h2,h3⟩
theorem level_rows {w:World} {N:Nat} {H:List Nat→Prop} {O:List (List Nat)} {R:List (List (List Nat))} {ov rv:Value} (hc:IsChain N H O R) (h:ChEqR w ov rv (O.map Ma.ofN) (R.map (List.map Ma.ofN))) {i:Nat} (hi:i<N) :
  ∃ ob oo oc rb ro rc,ov=.slice (some ⟨ob,oo,none⟩) N oc∧rv=.slice (some ⟨rb,ro,none⟩) N rc∧(∃ ua uc,CL w ob (oo+i) (.slice ua (O.getD i []).length uc)∧Rg.Ints w (.slice ua (O.getD i []).length uc) (Ma.ofN (O.getD i []))) ∧
   (∃ va vc,CL w rb (ro+i) (.slice va (O.getD i []).length vc)∧Rg.Rows w (.slice va (O.getD i []).length vc) ((R.getD i []).map Ma.ofN)):=by
 have hlo:(O.map Ma.ofN).length=N:=by rw [List.length_map,hc.lenO]
 have hlr:(R.map (List.map Ma.ofN)).length=N:=by rw [List.length_map,hc.lenR]
 obtain ⟨oa,oc,rfl,-⟩:=h.1.shape;obtain ⟨ra,rc,rfl⟩:=h.2.shape;have h1:=h.1;have h2:=h.2;rw [hlo] at h1;rw [hlr] at h2;obtain ⟨ob,oo,ua,uc,e5,hob,hoc,hoi⟩:=rowsI_get h1 (i:=i) (by rw [hlo]; exact hi);subst e5;obtain ⟨rb,ro,e6,hrb,u,hcu,hu⟩:=h2.at' (k:=i) (by rw [hlr]; exact hi);subst e6
 have hox:(O.map Ma.ofN)[i]'(by rw [hlo]; exact hi)=Ma.ofN (O.getD i []):=by
  have hXO:i<O.length:=by rw [hc.lenO]; exact hi
  rw [List.getElem_map,getD_inf hXO]
 rw [hox] at hoc hoi;rw [Ma.len_ofN] at hoc hoi
 have hrx:(R.map (List.map Ma.ofN))[i]'(by rw [hlr]; exact hi)=(R.getD i []).map Ma.ofN:=by
  have hXR:i<R.length:=by rw [hc.lenR]; exact hi
  rw [List.getElem_map,getD_inf hXR]
 rw [hrx] at hu;obtain ⟨va,vc,rfl,-⟩:=hu.shape;rw [List.length_map,hc.len i hi] at hcu hu;rw [hlo,hlr];exact ⟨ob,oo,oc,rb,ro,rc,rfl,rfl,⟨ua,uc,CL.mk hoc hob,hoi⟩,⟨va,vc,CL.mk hcu hrb,hu⟩⟩
theorem level_rep {w:World} {N n:Nat} {va:Option Addr} {vc:Nat} {rl:List (List Nat)} (h:Rg.Rows w (.slice va n vc) (rl.map Ma.ofN)) (hn:rl.length=n) {k:Nat} (hk:k<n) (hg:Gd N (rl.getD k [])) (h1:1≤N) :
  ∃ vb vo sa so sc,va=some ⟨vb,vo,none⟩∧CL w vb (vo+k) (.slice (some ⟨sa,so,none⟩) N sc)∧Rg.NP w (.slice (some ⟨sa,so,none⟩) N sc) (rl.getD k []):=by
 have hkr:k<rl.length:=by omega
 obtain ⟨vb,vo,sa,sc,e7,hvb,hvc,hvi⟩:=rowsI_get h (i:=k) (by rw [List.length_map]; exact hkr)
 have hsx:(rl.map Ma.ofN)[k]'(by rw [List.length_map]; exact hkr)=Ma.ofN (rl.getD k []):=by
  rw [List.getElem_map,getD_inf hkr]
 rw [hsx] at hvc hvi;rw [Ma.len_ofN,hg.2] at hvc hvi;have hnp:Rg.NP w (.slice sa N sc) (rl.getD k []):=hvi;obtain ⟨xa,xo,xc,e⟩:=FP.shape' (FP.of_np hnp) hg h1
 injection e with e1 _ e3
 subst e1 e3;exact ⟨vb,vo,xa,xo,sc,e7,CL.mk hvc hvb,hnp⟩
def StpPost (O:List (List Nat)) (R:List (List (List Nat))) (x:List Nat) (i im:Nat) (w:World) (ed:Ending) (w':World):Prop:=∃ v k,ed=.returned v∧k<(O.getD i []).length∧ap x ((O.getD i []).getD k 0)=im∧Rg.NPF w w' v (Ma.mulN ((R.getD i []).getD k []) x)∧Below w.heap.size w w'
theorem step_any {N:Nat} {H:List Nat→Prop} {O:List (List Nat)} {R:List (List (List Nat))} (hn1:1≤N) (hn2:N≤64) (hH:Cm.IsG N H) (hch:IsChain N H O R) {ov rv xv:Value} {x:List Nat} {w:World} (h:ChEqR w ov rv (O.map Ma.ofN) (R.map (List.map Ma.ofN))) (hx:Rg.NP w xv x) (gx:Gd N x) {i im:Nat} (hi:i<N) (him:∃ q∈O.getD i [],ap x q=im) :
  Calls Tryz.prog 275 #[.agg #[.int .i64 ((N:Nat):Int),ov,rv],xv,.int .i64 ((i:Nat):Int),.int .i64 ((im:Nat):Int)] w (StpPost O R x i im w):=by
 obtain ⟨ob,oo,oc,rb,ro,rc,rfl,rfl,⟨ua,uc,hco,hoi⟩,⟨va,vc,hcr,hri⟩⟩:=level_rows hch h hi;obtain ⟨xa,xo,xc,rfl⟩:=FP.shape' (FP.of_np hx) gx hn1;obtain ⟨k,hkl,hix,hkq⟩:=idxJ_im him;have HIX:=ι hix;have HKQ:=ι hkq
 have HOQ:=ι (show ∀ q∈O.getD i [],q<N from fun q hq=>by
  obtain ⟨y,hy,rfl⟩:=(hch.orb i q hi).1 hq
  exact Cm.ap_lt (hH.gd _ hy.1) hi)
 have hoL:=chain_len hH hch hi;have GS:=ι (hH.gd _ (hch.rep i k hi hkl).1.1.1);have HLEN:=ι (hch.len i hi);obtain ⟨ol,hol⟩:∃ ol:List Nat,Hid (O.getD i []=ol):=⟨_,ι rfl⟩;obtain ⟨rl,hrl⟩:∃ rl:List (List Nat),Hid (R.getD i []=rl):=⟨_,ι rfl⟩;rw [hol.out] at HOQ HIX HKQ hkl hco hoi hcr hri hoL HLEN;rw [hrl.out] at hri GS HLEN;obtain ⟨vb,vo,sa,so,sc,e7,hcs,hns⟩:=level_rep hri HLEN.out hkl GS.out hn1;subst e7;obtain ⟨s,hs⟩:∃ s:List Nat,Hid (rl.getD k []=s):=⟨_,ι rfl⟩;rw [hs.out] at GS hns;have CO:=ι hco;have CR:=ι hcr;have CS:=ι hcs;have IO:=ι hoi;have NS:=ι hns;have NX:=ι hx;have GX:=ι gx;have HKL:=ι hkl;have HI:=ι hi;have K:=ι (Below.refl w.heap.size w);clear h hx gx hch hH him hix hkq hco hcr hcs hoi hns hri
 go_enter Tryz.func275,Tryz.ntmps275
 go_upto_region 0 with (fail);refine Rg.wl ?_;have hbx:=box3 w (.int .i64 ((N:Nat):Int)) (.slice (some ⟨ob,oo,none⟩) N oc) (.slice (some ⟨rb,ro,none⟩) N rc);refine Rg.lr 4 (Rg.exec_box _ _ rfl rfl) ?_;go_frame;have hb:=(Below.refl w.heap.size w).alloc (Nat.le_refl _) (.cells #[.int .i64 ((N:Nat):Int),.slice (some ⟨ob,oo,none⟩) N oc,.slice (some ⟨rb,ro,none⟩) N rc] 54);generalize w.alloc (.cells #[.int .i64 ((N:Nat):Int),.slice (some ⟨ob,oo,none⟩) N oc,.slice (some ⟨rb,ro,none⟩) N rc] 54)=w1 at *;replace CO:=ι (CO.out.below hb);replace CR:=ι (CR.out.below hb);replace CS:=ι (CS.out.below hb);replace IO:=ι (IO.out.below hb);replace NS:=ι (NS.out.below hb);replace NX:=ι (NX.out.below hb);replace K:=ι (Rg.acc K.out hb);clear hb;have A0:=ι hbx.1;have A1:=ι hbx.2.1;have A2:=ι hbx.2.2;clear hbx;have hbx:=CW.new w1 (.slice (some ⟨xa,xo,none⟩) N xc) 51
 refine Rg.lr 5 (exec_boxV (v:=.slice (some ⟨xa,xo,none⟩) N xc) _ _ rfl rfl rfl) ?_;go_frame;have hb:=(Below.refl w1.heap.size w1).alloc (Nat.le_refl _) (.cells #[.slice (some ⟨xa,xo,none⟩) N xc] 51);generalize w1.alloc (.cells #[.slice (some ⟨xa,xo,none⟩) N xc] 51)=w2 at *;replace CO:=ι (CO.out.below hb);replace CR:=ι (CR.out.below hb);replace CS:=ι (CS.out.below hb);replace IO:=ι (IO.out.below hb);replace NS:=ι (NS.out.below hb);replace NX:=ι (NX.out.below hb);replace A0:=ι (A0.out.below hb);replace A1:=ι (A1.out.below hb);replace A2:=ι (A2.out.below hb);replace K:=ι (Rg.acc K.out hb);clear hb;have BX:=ι hbx;clear hbx;have hbx:=CW.new w2 (.int .i64 ((im:Nat):Int)) 3;refine Rg.lr 7 (exec_boxV (v:=.int .i64 ((im:Nat):Int)) _ _ rfl rfl rfl) ?_;go_frame;have hb:=(Below.refl w2.heap.size w2).alloc (Nat.le_refl _) (.cells #[.int .i64 ((im:Nat):Int)] 3)
 generalize w2.alloc (.cells #[.int .i64 ((im:Nat):Int)] 3)=w3 at *;replace CO:=ι (CO.out.below hb);replace CR:=ι (CR.out.below hb);replace CS:=ι (CS.out.below hb);replace IO:=ι (IO.out.below hb);replace NS:=ι (NS.out.below hb);replace NX:=ι (NX.out.below hb);replace A0:=ι (A0.out.below hb);replace A1:=ι (A1.out.below hb);replace A2:=ι (A2.out.below hb);replace BX:=ι (BX.out.below hb);replace K:=ι (Rg.acc K.out hb);clear hb;have BI:=ι hbx;clear hbx;refine Rg.la 8 (.slice none 0 0) ?_;go_frame;go_upto_region 1 with (fail);refine Rg.wl ?_;refine Rg.lr 10 (exec_field _ rfl rfl (chF1 _ _)) ?_;go_frame;refine Rg.lr 11 (Rg.exec_load (v:=.slice (some ⟨ob,oo,none⟩) N oc) _ _ rfl ⟨w.heap.size,1,none⟩ rfl (Rg.run_loadSl _ _ Tryz.underlying27 A1.out.cell)) ?_;go_frame;refine Rg.lm 12 (.int .i64 ((i:Nat):Int)) ?_;go_frame;refine Rg.lr 13 (exec_indexS slIntss _ _ rfl ob (oo) (N) oc (i) rfl rfl HI.out) ?_;go_frame
 refine Rg.lr 14 (Rg.exec_load (v:=.slice ua ol.length uc) _ _ rfl ⟨ob,oo+i,none⟩ rfl (Rg.run_loadSl _ _ Tryz.underlying36 CO.out.cell)) ?_;go_frame;refine Rg.lr 15 (exec_makeFunc2 _ _ _ rfl rfl rfl) ?_;go_frame;have hcf:=indexFuncI_any _ (Ma.ofN ol) 313 #[.pointer (some ⟨w1.heap.size,0,none⟩),.pointer (some ⟨w2.heap.size,0,none⟩)] (fun q=>decide (ap x q.toNat=im)) w3 IO.out (by rw [Ma.len_ofN]; omega) clSt1 (st_asks (F:=fun z=>z<w3.heap.size) (CL.mk BX.out.c BX.out.lt) (FP.of_np NX.out) GX.out (CL.mk BI.out.c BI.out.lt) HOQ.out);rw [HIX.out] at hcf;refine Rg.lk 16 (exec_fn 201 _ _ _ rfl rfl rfl (Adcl1 _ _)) ?_;refine (hcf).mono ?_;rintro e1 w4 ⟨rfl,hb⟩;refine ⟨_,rfl,?_⟩;go_frame;replace CO:=ι (CO.out.below hb);replace CR:=ι (CR.out.below hb);replace CS:=ι (CS.out.below hb);replace IO:=ι (IO.out.below hb);replace NS:=ι (NS.out.below hb);replace NX:=ι (NX.out.below hb)
 replace A0:=ι (A0.out.below hb);replace A1:=ι (A1.out.below hb);replace A2:=ι (A2.out.below hb);replace BX:=ι (BX.out.below hb);replace BI:=ι (BI.out.below hb);replace K:=ι (Rg.acc K.out hb);clear hb;refine Rg.la 9 (.int .i64 ((k:Nat):Int)) ?_;go_frame;go_upto_region 2 with (fail);have hV0:Below w4.heap.size w4 w4.drew:=(Below.refl _ _).drew;replace CO:=ι (CO.out.below hV0);replace CR:=ι (CR.out.below hV0);replace CS:=ι (CS.out.below hV0);replace IO:=ι (IO.out.below hV0);replace NS:=ι (NS.out.below hV0);replace NX:=ι (NX.out.below hV0);replace A0:=ι (A0.out.below hV0);replace A1:=ι (A1.out.below hV0);replace A2:=ι (A2.out.below hV0);replace BX:=ι (BX.out.below hV0);replace BI:=ι (BI.out.below hV0);replace K:=ι (Rg.acc K.out hV0);clear hV0;refine Rg.Any.begin (S:=Rg.Both 10 (fun _=>True) (fun W=>Below w4.drew.heap.size w4.drew W)) mix ?_;generalize w4.drew=w5 at *
 have hS:∀ (l:Array Bool) W,Below w5.heap.size w5 W→Rg.Both 10 (fun _=>True) (fun W=>Below w5.heap.size w5 W) l W:=fun l W h=>⟨.inr trivial,h⟩;have hI:Below w5.heap.size w5 w5:=Below.refl _ _;refine Rg.tg 0 10 (.pointer (some ⟨w.heap.size,2,none⟩)) 17 rfl rfl (.inl ⟨rfl,fun w _=>exec_field _ rfl rfl (chF2 _ _)⟩) (hS _ _ hI) ?_;go_frame;refine Rg.tg 1 10 (.slice (some ⟨rb,ro,none⟩) N rc) 18 rfl rfl (Rg.yields_cell _ _ rfl rfl ⟨w.heap.size,2,none⟩ rfl (fun W hW=>Rg.run_loadSl _ _ Tryz.underlying52 ((Below.cell (p:=⟨w.heap.size,2,none⟩) hW A2.out.lt).trans A2.out.cell))) (hS _ _ hI) ?_;go_frame;refine Rg.tm 2 10 (.int .i64 ((i:Nat):Int)) 19 (hS _ _ hI) ?_;go_frame;refine Rg.tg 3 10 (.pointer (some ⟨rb,ro+i,none⟩)) 20 rfl rfl (Rg.yields_index slPermss _ _ rfl rfl rb (ro) (N) rc (i) rfl rfl HI.out) (hS _ _ hI) ?_;go_frame;refine Rg.tg 4 10 (.slice (some ⟨vb,vo,none⟩) ol.length vc) 21 rfl rfl (Rg.yields_cell _ _ rfl rfl ⟨rb,ro+i,none⟩ rfl (fun W hW=>Rg.run_loadSl _ _ Tryz.underlying22 ((Below.cell (p:=⟨rb,ro+i,none⟩) hW CR.out.lt).trans CR.out.cell))) (hS _ _ hI) ?_;go_frame
 refine Rg.tm 5 10 (.int .i64 ((k:Nat):Int)) 22 (hS _ _ hI) ?_;go_frame;refine Rg.tg 6 10 (.pointer (some ⟨vb,vo+k,none⟩)) 23 rfl rfl (Rg.yields_index slPerms _ _ rfl rfl vb (vo) (ol.length) vc (k) rfl rfl HKL.out) (hS _ _ hI) ?_;go_frame;refine Rg.tg 7 10 (.slice (some ⟨sa,so,none⟩) N sc) 24 rfl rfl (Rg.yields_cell _ _ rfl rfl ⟨vb,vo+k,none⟩ rfl (fun W hW=>Rg.run_loadSl _ _ Tryz.underlying51 ((Below.cell (p:=⟨vb,vo+k,none⟩) hW CS.out.lt).trans CS.out.cell))) (hS _ _ hI) ?_;go_frame;refine Rg.tg 8 10 (.slice (some ⟨xa,xo,none⟩) N xc) 25 rfl rfl (Rg.yields_cell _ _ rfl rfl ⟨w1.heap.size,0,none⟩ rfl (fun W hW=>Rg.run_loadSl _ _ Tryz.underlying51 ((Below.cell (p:=⟨w1.heap.size,0,none⟩) hW BX.out.lt).trans BX.out.c))) (hS _ _ hI) ?_;go_frame;have HSZV:=ι (Nat.le_trans K.out.size hI.size);refine Rg.Any.one (i:=9) (by kernel_rfl) (Rg.Any.ask (some 26) rfl rfl rfl _ _ (exec_fn 314 _ _ _ rfl rfl rfl (Aicl1 _ _)) ?_)
 refine (rkMul_any _ _ s x w5 NS.out NX.out (fun z hz=>by rw [GX.out.2]; exact gd_mem GS.out hz) (by rw [GS.out.2]; omega) (by rw [GS.out.2]; exact hn1) (by rw [GX.out.2]; exact hn1)).mono ?_;rintro e1 w6 ⟨mv,rfl,hmv,hb⟩;have HMV:=ι hmv;clear hmv;have hI2_0:=Rg.acc hI hb;clear hb hI;refine ⟨_,rfl,(hS _ _ hI2_0),?_⟩;go_frame;refine Rg.Any.one (i:=10) (by kernel_rfl) (Rg.Any.run (some 8) rfl rfl rfl (Rg.xa (mv) _ rfl rfl) (hS _ _ hI2_0) ?_);go_frame;refine Rg.Any.done (by kernel_rfl) ?_ _;replace CO:=ι (CO.out.below hI2_0);replace CR:=ι (CR.out.below hI2_0);replace CS:=ι (CS.out.below hI2_0);replace IO:=ι (IO.out.below hI2_0);replace NS:=ι (NS.out.below hI2_0);replace NX:=ι (NX.out.below hI2_0);replace A0:=ι (A0.out.below hI2_0);replace A1:=ι (A1.out.below hI2_0);replace A2:=ι (A2.out.below hI2_0);replace BX:=ι (BX.out.below hI2_0);replace BI:=ι (BI.out.below hI2_0)
 replace K:=ι (Rg.acc K.out hI2_0);clear hS hI2_0;have HMF:=ι (show Rg.NPF w w6 mv (Ma.mulN s x) from ⟨HMV.out.1,HMV.out.2.mono HSZV.out⟩);go_wp2;go_ret;exact ⟨mv,k,rfl,by rw [hol.out]; exact HKL.out,by rw [hol.out]; exact HKQ.out,by rw [hrl.out,hs.out]; exact HMF.out,K.out⟩
theorem clLs1 (args:Array Value) (w:World):(callFunc 274 args).run Tryz.prog w=.ok (.enter 274 args) w:=by kernel_rfl
theorem least1_any {xb xo xc xa N q u:Nat} {w:World} (h1:CL w xb 0 (.slice (some ⟨xa,xo,none⟩) N xc)) (h2:CL w xa (xo+q) (.int .i64 ((u:Nat):Int))) (hq:q<N) :
  Calls Tryz.prog 274 #[.int .i64 ((q:Nat):Int),.pointer (some ⟨xb,0,none⟩)] w fun e w'=>e=.returned (.int .i64 ((u:Nat):Int))∧Below w.heap.size w w':=by
 have H1:=ι h1;have H2:=ι h2;have HQ:=ι hq;have K:=ι (Below.refl w.heap.size w);clear h1 h2 hq
 go_enter Tryz.func274,Tryz.ntmps274
 go_upto_region 0 with (fail);refine Rg.wl ?_;refine Rg.la 3 (.int .i64 ((0:Nat):Int)) ?_;go_frame;go_upto_region 1 with (fail);refine Rg.wl ?_;refine Rg.lr 4 (Rg.exec_load (v:=.slice (some ⟨xa,xo,none⟩) N xc) _ _ rfl ⟨xb,0,none⟩ rfl (Rg.run_loadSl _ _ Tryz.underlying51 H1.out.cell)) ?_;go_frame;refine Rg.lm 5 (.int .i64 ((q:Nat):Int)) ?_;go_frame;refine Rg.lr 6 (exec_indexS slPerm _ _ rfl xa (xo) (N) xc (q) rfl rfl HQ.out) ?_;go_frame;refine Rg.lr 7 (Rg.exec_load (v:=.int .i64 ((u:Nat):Int)) _ _ rfl ⟨xa,xo+q,none⟩ rfl (run_loadInt H2.out.cell)) ?_;go_frame;refine Rg.la 3 (.int .i64 ((u:Nat):Int)) ?_;go_frame;go_wp2;go_ret;exact ⟨rfl,K.out⟩
theorem run_slice1I (w:World) (b o m c:Nat) (h:m≤c):∃ ca:Addr,(Instr.sliceAt 36 (.slice (some ⟨b,o,none⟩) (m+1) (c+1)) (some (.int .i64 1)) none none).run Tryz.prog w=.ok (.slice (some ca) m c) w∧(0<m→ca=⟨b,o+1,none⟩):=by
 by_cases e:c=0
 ·refine ⟨⟨b,o,none⟩,?_,fun h=>by omega⟩
  obtain rfl:m=0:=by omega
  subst e;simp [Instr.sliceAt,Instr.slice,run_underlying Tryz.underlying36,Instr.sliceBounds,Instr.sliceBound,asIntOf,Addr.add]
 ·refine ⟨⟨b,o+1,none⟩,?_,fun _=>rfl⟩
  simp [Instr.sliceAt,Instr.slice,run_underlying Tryz.underlying36,Instr.sliceBounds,Instr.sliceBound,asIntOf,Addr.add,e];intro hh;omega
theorem exec_slice1I {o:Oper} {a:Act} {w:World} {v r:Value} (x:Operand) (ho:o.op=.slice 36 x (some (.const (.int .i64 1))) none none) (hx:a.eval x=v) (hr:(Instr.sliceAt 36 v (some (.int .i64 1)) none none).run Tryz.prog w=.ok r w) :
  (execOp a.eval o).run Tryz.prog w=.ok (.value r) w:=by
 unfold execOp;simp only [ho,hx,Sem.run_bind,Sem.run_pure,Option.map]
 first | (rw [hr]; rfl) | (erw [hr]; rfl) | simp [hr]

theorem Aecl1 (args:Array Value) (w:World):(callFunc 125 args).run Tryz.prog w=.ok (.enter 125 args) w:=by kernel_rfl
theorem Aecl2 (args:Array Value) (w:World):(callFunc 126 args).run Tryz.prog w=.ok (.enter 126 args) w:=by kernel_rfl
theorem Aecl3 (args:Array Value) (w:World):(callFunc 127 args).run Tryz.prog w=.ok (.enter 127 args) w:=by kernel_rfl
def elC (xl:List Int) (d:Int):Int:=if Ma.pchk xl=0 then (if (xl.length:Int)=d then 0 else 10) else Ma.pchk xl
theorem elC_1 {xl:List Int} {d:Int} (h:Ma.pchk xl≠0):elC xl d=Ma.pchk xl:=by unfold elC; rw [if_neg h]
theorem elC_2 {xl:List Int} {d:Int} (h:Ma.pchk xl=0) (h2:¬ (xl.length:Int)=d):elC xl d=10:=by unfold elC; rw [if_pos h,if_neg h2]
theorem elC_3 {xl:List Int} {d:Int} (h:Ma.pchk xl=0) (h2:(xl.length:Int)=d):elC xl d=0:=by unfold elC; rw [if_pos h,if_pos h2]
theorem elC_get {xl:List Int} {n:Nat} (h:elC xl ((n:Nat):Int)=0):∃ x,xl=Ma.ofN x∧Gd n x:=by
 by_cases h1:Ma.pchk xl=0
 ·by_cases h2:(xl.length:Int)=((n:Nat):Int)
  ·obtain ⟨x,rfl,hx⟩:=Ma.okL_ofN (Ma.pchk_zero h1).2.2
   rw [Ma.len_ofN] at h2;exact ⟨x,rfl,hx,by omega⟩
  ·rw [elC_2 h1 h2] at h; cases h
 ·rw [elC_1 h1] at h; exact absurd h h1
def ElPost' (xl:List Int) (d:Int) (w:World) (ed:Ending) (w':World):Prop:=ed=.returned (.int .i64 (elC xl d))∧Below w.heap.size w w'
def HiV (d e:Int) (L M:List (List Int)) (xl:List Int) (l:List Int) (c:Int):Prop :=
 (rtC d e L M≠0∧c=rtC d e L M∧l=[])∨(rtC d e L M=0∧elC xl d≠0∧c=elC xl d∧l=[]) ∨
 (rtC d e L M=0∧elC xl d=0∧∃ n m A B x r,HomG d e L M n m A B∧DefH n m (PG2 n m A B)∧xl=Ma.ofN x∧Gd n x∧ImR m (PG2 n m A B) x r∧c=(if r=none then 18 else 0)∧l=Ma.ofN (r.getD []))
theorem HomG.uniq {d e:Int} {L M:List (List Int)} {n m:Nat} {A B:List (List Nat)} {n' m':Nat} {A' B':List (List Nat)} (h:HomG d e L M n m A B) (h':HomG d e L M n' m' A' B'):n=n'∧m=m'∧A=A'∧B=B':=by
 refine ⟨?_,?_,?_,?_⟩
 ·have:=h.dn; have:=h'.dn; omega
 ·have:=h.em; have:=h'.em; omega
 ·exact map_ofN_inj (h.la.symm.trans h'.la)
 ·exact map_ofN_inj (h.mb.symm.trans h'.mb)
theorem HiV.uniq {d e:Int} {L M:List (List Int)} {xl l l':List Int} {c c':Int} (h:HiV d e L M xl l c) (h':HiV d e L M xl l' c'):l=l'∧c=c':=by
 rcases h with ⟨h1,rfl,rfl⟩ | ⟨h1,h2,rfl,rfl⟩ | ⟨h1,h2,n,m,A,B,x,r,h3,h4,h5,h6,h7,rfl,rfl⟩
 ·rcases h' with ⟨g1,rfl,rfl⟩ | ⟨g1,g2,rfl,rfl⟩ | ⟨g1,g2,_⟩
  ·exact ⟨rfl,rfl⟩
  ·exact absurd g1 h1
  ·exact absurd g1 h1
 ·rcases h' with ⟨g1,rfl,rfl⟩ | ⟨g1,g2,rfl,rfl⟩ | ⟨g1,g2,_⟩
  ·exact absurd h1 g1
  ·exact ⟨rfl,rfl⟩
  ·exact absurd g2 h2
 ·rcases h' with ⟨g1,rfl,rfl⟩ | ⟨g1,g2,rfl,rfl⟩ | ⟨g1,g2,n',m',A',B',x',r',g3,g4,g5,g6,g7,rfl,rfl⟩
  ·exact absurd h1 g1
  ·exact absurd h2 g2
  ·obtain ⟨rfl,rfl,rfl,rfl⟩:=h3.uniq g3
   have e:x=x':=Ma.ofN_inj (h5.symm.trans g5);subst e;have e2:=ImR.uniq (pg_isG h3.ga h3.gb) h4 h6 h7 g7;subst e2;exact ⟨rfl,rfl⟩
def PtC (n m:Nat) (A B:List (List Nat)) (x:List Nat) (w':World) (v:Value) (b:Bool):Prop:=match b with
 | false=>v=.slice none 0 0∧ImR m (PG2 n m A B) x none
 | true=>∃ y,Rg.NP w' v y∧ImR m (PG2 n m A B) x (some y)
theorem partner_c {d e:Int} {gv hv:Value} {oa:Option Addr} {oc:Nat} {ra:Option Addr} {rc:Nat} {L M:List (List Int)} {n m:Nat} {A B:List (List Nat)} {pb:Nat} {w:World} (h:PrAt w pb d e gv hv oa oc ra rc L M) (hm:HomG d e L M n m A B) {xv:Value} {x:List Nat} (hx:Rg.NP w xv x) (gx:Gd n x) :
  Calls Tryz.prog 127 #[.pointer (some ⟨pb,0,none⟩),xv] w fun ed w'=>∃ v b,ed=.returned (.tuple #[v,.bool b])∧PtC n m A B x w' v b∧Below w.heap.size w w':=by
 refine (partner_any h hm hx gx).mono ?_
 rintro ed w' ⟨⟨rfl,h1⟩ | ⟨v,y,rfl,h1,h2⟩,hb⟩
 ·exact ⟨_,false,rfl,⟨rfl,h1⟩,hb⟩
 ·exact ⟨v,true,rfl,⟨y,h1,h2⟩,hb⟩
def HiPost (d e:Int) (L M:List (List Int)) (xl:List Int) (w:World) (ed:Ending) (w':World):Prop:=∃ v c l,ed=.returned (.tuple #[v,.int .i64 c])∧Rg.Ints w' v l∧HiV d e L M xl l c∧Below w.heap.size w w'
theorem ints_nil (w:World):Rg.Ints w (.slice none 0 0) []:=(show FP (fun _=>True) w (.slice none 0 0) [] from ⟨none,0,rfl,Nat.le_refl _,Nat.zero_le _,Nat.zero_le _,fun h=>absurd h (Nat.lt_irrefl 0)⟩).np
theorem rtC_hom {d e:Int} {L M:List (List Int)} (h:rtC d e L M=0):homC d e L M=0:=by
 by_cases q:homC d e L M=0
 ·exact q
 ·have h5:=rtC_bad q
  rw [h] at h5;exact h5.symm
theorem rtC_def {d e:Int} {L M:List (List Int)} (h:rtC d e L M=0):dfB d.toNat (pO (d+e) (prL L M))=true:=by
 by_cases q:dfB d.toNat (pO (d+e) (prL L M))=true
 ·exact q
 ·rw [rtC_no (rtC_hom h) (by simpa using q)] at h; cases h
theorem element_any {xv:Value} {xl:List Int} {d:Int} {w:World} (h:Rg.Ints w xv xl) :
  Calls Tryz.prog 126 #[xv,.int .i64 d] w (ElPost' xl d w):=by
 obtain ⟨xa,xc,rfl,-⟩:=h.shape;have HX:=ι h;have K:=ι (Below.refl w.heap.size w);clear h;obtain ⟨c,hc0⟩:∃ c,Hid (Ma.pchk xl=c):=⟨_,ι rfl⟩
 go_enter Tryz.func126,Tryz.ntmps126
 go_upto_region 0 with (fail);refine Rg.wl ?_;refine Rg.la 4 (.int .i64 0) ?_;go_frame;go_upto_region 1 with (fail);refine Rg.wl ?_;refine Rg.lm 6 (.slice xa xl.length xc) ?_;go_frame;refine Rg.lk 7 (exec_fn1 115 _ _ rfl rfl (Wvcl1 _ _)) ?_;refine (permCheck_any _ _ w HX.out).mono ?_;rintro e1 w1 ⟨rfl,hb⟩;rw [hc0.out];refine ⟨_,rfl,?_⟩;go_frame;replace HX:=ι (HX.out.below hb);replace K:=ι (Rg.acc K.out hb);clear hb;refine Rg.la 5 (.int .i64 c) ?_;go_frame
 by_cases h0:c=0
 case neg =>
  have HR:=ι (show elC xl d=c by rw [elC_1 (by rw [hc0.out]; exact h0),hc0.out]);go_upto_region 2 with (fail);refine Rg.wl ?_;refine Rg.lm 8 (.int .i64 c) ?_;go_frame;refine Rg.lr 9 (exec_bin (R:=.bool true) .neq _ _ _ rfl rfl rfl (b_neqB _ (decide_eq_true h0))) ?_;go_frame;go_upto_region 3 with (fail);refine Rg.wl ?_;refine Rg.lm 10 (.int .i64 c) ?_;go_frame;refine Rg.la 4 (.int .i64 c) ?_;go_frame;go_wp2;go_ret;exact ⟨by rw [HR.out]; rfl,K.out⟩
 case pos =>
  have HZ:=ι (hc0.out.trans h0);have hxl:xl.length≤64:=(Ma.pchk_zero HZ.out).2.1;go_upto_region 2 with (fail);refine Rg.wl ?_;refine Rg.lm 8 (.int .i64 c) ?_;go_frame;refine Rg.lr 9 (exec_bin (R:=.bool false) .neq _ _ _ rfl rfl rfl (b_neqB _ (decide_eq_false (fun q=>q h0)))) ?_;go_frame
  by_cases h1:(xl.length:Int)=d
  case neg =>
   have HR:=ι (elC_2 HZ.out h1);go_upto_region 4 with (fail);refine Rg.wl ?_;refine Rg.lm 11 (.slice xa xl.length xc) ?_;go_frame;refine Rg.lr 12 (exec_len _ _ _ rfl Tryz.underlying51 _ _ _ rfl) ?_;go_frame;refine Rg.lm 13 (.int .i64 d) ?_;go_frame;refine Rg.lr 14 (exec_bin (R:=.bool true) .neq _ _ _ rfl rfl rfl (b_neqB _ (decide_eq_true h1))) ?_;go_frame;go_upto_region 5 with (fail);refine Rg.wl ?_;refine Rg.la 4 (.int .i64 10) ?_;go_frame;go_wp2;go_ret;exact ⟨by rw [HR.out]; rfl,K.out⟩
  case pos =>
   have HR:=ι (elC_3 HZ.out h1);go_upto_region 4 with (fail);refine Rg.wl ?_;refine Rg.lm 11 (.slice xa xl.length xc) ?_;go_frame;refine Rg.lr 12 (exec_len _ _ _ rfl Tryz.underlying51 _ _ _ rfl) ?_;go_frame;refine Rg.lm 13 (.int .i64 d) ?_;go_frame;refine Rg.lr 14 (exec_bin (R:=.bool false) .neq _ _ _ rfl rfl rfl (b_neqB _ (decide_eq_false (fun q=>q h1)))) ?_;go_frame;go_upto_region 6 with (fail);refine Rg.wl ?_;refine Rg.la 4 (.int .i64 0) ?_;go_frame;go_wp2;go_ret;exact ⟨by rw [HR.out]; rfl,K.out⟩
theorem Image_hom {d e:Int} {gv hv xv:Value} {L M:List (List Int)} {xl:List Int} {w:World} (h:Rg.Rows w gv L) (h':Rg.Rows w hv M) (hx:Rg.Ints w xv xl) :
  Calls Tryz.prog 54 #[.agg #[.int .i64 d,gv],.agg #[.int .i64 e,hv],xv] w (HiPost d e L M xl w):=by
 obtain ⟨ga,gc,rfl,-⟩:=h.shape;obtain ⟨ha,hc,rfl,-⟩:=h'.shape;obtain ⟨xa,xc,rfl,-⟩:=hx.shape;have HG:=ι h;have HH:=ι h';have HX:=ι hx;have K:=ι (Below.refl w.heap.size w);clear h h' hx;obtain ⟨c,hc0⟩:∃ c,Hid (rtC d e L M=c):=⟨_,ι rfl⟩;obtain ⟨c2,hc2⟩:∃ c,Hid (elC xl d=c):=⟨_,ι rfl⟩
 go_enter Tryz.func54,Tryz.ntmps54
 go_upto_region 0 with (fail);refine Rg.wl ?_;have hbx:=box2t w (.int .i64 d) (.slice ga L.length gc) 24;refine Rg.lr 3 (Rg.exec_box _ _ rfl rfl) ?_;go_frame;have hb:=(Below.refl w.heap.size w).alloc (Nat.le_refl _) (.cells #[.int .i64 d,.slice ga L.length gc] 24);generalize w.alloc (.cells #[.int .i64 d,.slice ga L.length gc] 24)=w1 at *;replace HG:=ι (HG.out.below hb);replace HH:=ι (HH.out.below hb);replace HX:=ι (HX.out.below hb);replace K:=ι (Rg.acc K.out hb);clear hb;have G0:=ι hbx.1;have G1:=ι hbx.2;clear hbx;have hbx:=box2t w1 (.int .i64 e) (.slice ha M.length hc) 24;refine Rg.lr 4 (Rg.exec_box _ _ rfl rfl) ?_;go_frame;have hb:=(Below.refl w1.heap.size w1).alloc (Nat.le_refl _) (.cells #[.int .i64 e,.slice ha M.length hc] 24);generalize w1.alloc (.cells #[.int .i64 e,.slice ha M.length hc] 24)=w2 at *;replace HG:=ι (HG.out.below hb);replace HH:=ι (HH.out.below hb)
 replace HX:=ι (HX.out.below hb);replace G0:=ι (G0.out.below hb);replace G1:=ι (G1.out.below hb);replace K:=ι (Rg.acc K.out hb);clear hb;have H0:=ι hbx.1;have H1:=ι hbx.2;clear hbx;refine Rg.la 6 (.slice none 0 0) ?_;go_frame;refine Rg.la 7 (.int .i64 0) ?_;go_frame
 by_cases h0:c=0
 case neg =>
  have HV:=ι (show HiV d e L M xl [] c from .inl ⟨by rw [hc0.out]; exact h0,hc0.out.symm,rfl⟩);go_upto_region 1 with (fail);refine Rg.wl ?_;refine Rg.lr 14 (Rg.exec_load (v:=.agg #[.int .i64 d,.slice ga L.length gc]) _ _ rfl ⟨w.heap.size,0,none⟩ rfl (run_loadG G0.out.cell G1.out.cell)) ?_;go_frame;refine Rg.lr 15 (Rg.exec_load (v:=.agg #[.int .i64 e,.slice ha M.length hc]) _ _ rfl ⟨w1.heap.size,0,none⟩ rfl (run_loadG H0.out.cell H1.out.cell)) ?_;go_frame;refine Rg.lk 16 (exec_fn 125 _ _ _ rfl rfl rfl (Aecl1 _ _)) ?_;refine (right_any' HG.out HH.out).mono ?_;rintro e1 w3 ⟨pv,rfl,_,hb⟩;rw [hc0.out];refine ⟨_,rfl,?_⟩;go_frame;replace HG:=ι (HG.out.below hb);replace HH:=ι (HH.out.below hb);replace HX:=ι (HX.out.below hb);replace G0:=ι (G0.out.below hb);replace G1:=ι (G1.out.below hb);replace H0:=ι (H0.out.below hb);replace H1:=ι (H1.out.below hb);replace K:=ι (Rg.acc K.out hb)
  clear hb;refine Rg.lm 13 (.tuple #[pv,.int .i64 c]) ?_;go_frame;refine Rg.lr 17 (exec_extract (v:=pv) _ _ rfl rfl rfl) ?_;go_frame;refine Rg.lr 18 (exec_extract (v:=.int .i64 c) _ _ rfl rfl rfl) ?_;go_frame;refine Rg.la 8 (pv) ?_;go_frame;refine Rg.la 9 (.int .i64 c) ?_;go_frame;go_upto_region 2 with (fail);refine Rg.wl ?_;refine Rg.lm 19 (.int .i64 c) ?_;go_frame;refine Rg.lr 20 (exec_bin (R:=.bool true) .neq _ _ _ rfl rfl rfl (b_neqB _ (decide_eq_true h0))) ?_;go_frame;go_upto_region 3 with (fail);refine Rg.wl ?_;refine Rg.lm 21 (.int .i64 c) ?_;go_frame;refine Rg.la 6 (.slice none 0 0) ?_;go_frame;refine Rg.la 7 (.int .i64 c) ?_;go_frame;go_wp2
  go_ret2
  exact ⟨_,_,[],rfl,ints_nil _,HV.out,K.out⟩
 case pos =>
  have HZ:=ι (hc0.out.trans h0);obtain ⟨n,m,A,B,hmg⟩:=homC_get (rtC_hom HZ.out);have HMG:=ι hmg;have HDN:=ι hmg.dn;clear hmg;go_upto_region 1 with (fail);refine Rg.wl ?_;refine Rg.lr 14 (Rg.exec_load (v:=.agg #[.int .i64 d,.slice ga L.length gc]) _ _ rfl ⟨w.heap.size,0,none⟩ rfl (run_loadG G0.out.cell G1.out.cell)) ?_;go_frame;refine Rg.lr 15 (Rg.exec_load (v:=.agg #[.int .i64 e,.slice ha M.length hc]) _ _ rfl ⟨w1.heap.size,0,none⟩ rfl (run_loadG H0.out.cell H1.out.cell)) ?_;go_frame;refine Rg.lk 16 (exec_fn 125 _ _ _ rfl rfl rfl (Aecl1 _ _)) ?_;refine (right_any' HG.out HH.out).mono ?_;rintro e1 w14 ⟨pv,rfl,hpv,hb⟩;rw [HZ.out];obtain ⟨pb,oa,oc,ra,rc,rfl,hpa⟩:=hpv (rtC_hom HZ.out);refine ⟨_,rfl,?_⟩;go_frame;replace HG:=ι (HG.out.below hb);replace HH:=ι (HH.out.below hb);replace HX:=ι (HX.out.below hb);replace G0:=ι (G0.out.below hb);replace G1:=ι (G1.out.below hb)
  replace H0:=ι (H0.out.below hb);replace H1:=ι (H1.out.below hb);replace K:=ι (Rg.acc K.out hb);clear hb;have PA:=ι hpa;refine Rg.lm 13 (.tuple #[.pointer (some ⟨pb,0,none⟩),.int .i64 0]) ?_;go_frame;refine Rg.lr 17 (exec_extract (v:=.pointer (some ⟨pb,0,none⟩)) _ _ rfl rfl rfl) ?_;go_frame;refine Rg.lr 18 (exec_extract (v:=.int .i64 0) _ _ rfl rfl rfl) ?_;go_frame;refine Rg.la 8 (.pointer (some ⟨pb,0,none⟩)) ?_;go_frame;refine Rg.la 9 (.int .i64 0) ?_;go_frame;clear hpv hpa;go_upto_region 2 with (fail);refine Rg.wl ?_;refine Rg.lm 19 (.int .i64 0) ?_;go_frame;refine Rg.lr 20 (exec_bin (R:=.bool false) .neq _ _ _ rfl rfl rfl (b_neqB _ (decide_eq_false (fun q=>q rfl)))) ?_;go_frame;go_upto_region 4 with (fail);refine Rg.wl ?_;refine Rg.lm 22 (.slice xa xl.length xc) ?_;go_frame;refine Rg.lr 23 (exec_fieldG0 _ rfl rfl) ?_;go_frame;refine Rg.lr 24 (Rg.exec_load (v:=.int .i64 d) _ _ rfl ⟨w.heap.size,0,none⟩ rfl (run_loadInt G0.out.cell)) ?_;go_frame
  refine Rg.lk 25 (exec_fn 126 _ _ _ rfl rfl rfl (Aecl2 _ _)) ?_;refine (element_any (d:=d) HX.out).mono ?_;rintro e1 w15 ⟨rfl,hb⟩;rw [hc2.out];refine ⟨_,rfl,?_⟩;go_frame;replace HG:=ι (HG.out.below hb);replace HH:=ι (HH.out.below hb);replace HX:=ι (HX.out.below hb);replace G0:=ι (G0.out.below hb);replace G1:=ι (G1.out.below hb);replace H0:=ι (H0.out.below hb);replace H1:=ι (H1.out.below hb);replace PA:=ι (PA.out.below hb);replace K:=ι (Rg.acc K.out hb);clear hb;refine Rg.la 10 (.int .i64 c2) ?_;go_frame
  by_cases h2:c2=0
  case neg =>
   have HV:=ι (show HiV d e L M xl [] c2 from .inr (.inl ⟨HZ.out,by rw [hc2.out]; exact h2,hc2.out.symm,rfl⟩));go_upto_region 5 with (fail);refine Rg.wl ?_;refine Rg.lm 26 (.int .i64 c2) ?_;go_frame;refine Rg.lr 27 (exec_bin (R:=.bool true) .neq _ _ _ rfl rfl rfl (b_neqB _ (decide_eq_true h2))) ?_;go_frame;go_upto_region 6 with (fail);refine Rg.wl ?_;refine Rg.lm 28 (.int .i64 c2) ?_;go_frame;refine Rg.la 6 (.slice none 0 0) ?_;go_frame;refine Rg.la 7 (.int .i64 c2) ?_;go_frame;go_wp2
   go_ret2
   exact ⟨_,_,[],rfl,ints_nil _,HV.out,K.out⟩
  case pos =>
   have HZ2:=ι (hc2.out.trans h2);obtain ⟨x,hxx,hgx⟩:=elC_get (n:=n) (by rw [← HDN.out]; exact HZ2.out);have HXX:=ι hxx;have GX:=ι hgx
   have HDF:=ι (show DefH n m (PG2 n m A B) from by
    obtain ⟨N,gs,hpc⟩:=PA.out.pc;refine HMG.out.defH hpc ?_;have h5:=rtC_def HZ.out;rw [show d.toNat=n by have:=HDN.out; omega] at h5
    exact h5)
   clear hxx hgx;have HNP:=ι (show Rg.NP w15 (.slice xa xl.length xc) x by have h5:=HX.out; rw [HXX.out] at h5 ⊢; exact h5);go_upto_region 5 with (fail);refine Rg.wl ?_;refine Rg.lm 26 (.int .i64 c2) ?_;go_frame;refine Rg.lr 27 (exec_bin (R:=.bool false) .neq _ _ _ rfl rfl rfl (b_neqB _ (decide_eq_false (fun q=>q h2)))) ?_;go_frame;go_upto_region 7 with (fail);refine Rg.wl ?_;refine Rg.lm 30 (.pointer (some ⟨pb,0,none⟩)) ?_;go_frame;refine Rg.lm 31 (.slice xa xl.length xc) ?_;go_frame;refine Rg.lk 32 (exec_fn 127 _ _ _ rfl rfl rfl (Aecl3 _ _)) ?_;refine (partner_c PA.out HMG.out HNP.out GX.out).mono ?_;rintro e1 w26 ⟨yv,bb,rfl,hyb,hb⟩;refine ⟨_,rfl,?_⟩;go_frame;replace HG:=ι (HG.out.below hb);replace HH:=ι (HH.out.below hb);replace HX:=ι (HX.out.below hb);replace G0:=ι (G0.out.below hb);replace G1:=ι (G1.out.below hb);replace H0:=ι (H0.out.below hb);replace H1:=ι (H1.out.below hb)
   replace PA:=ι (PA.out.below hb);replace HNP:=ι (HNP.out.below hb);replace K:=ι (Rg.acc K.out hb);clear hb;refine Rg.lm 29 (.tuple #[yv,.bool bb]) ?_;go_frame;refine Rg.lr 33 (exec_extract (v:=yv) _ _ rfl rfl rfl) ?_;go_frame;refine Rg.lr 34 (exec_extract (v:=.bool bb) _ _ rfl rfl rfl) ?_;go_frame;refine Rg.la 11 (yv) ?_;go_frame;refine Rg.la 12 (.bool bb) ?_;go_frame
   cases bb
   case false =>
    go_upto_region 8 with (fail);refine Rg.wl ?_;refine Rg.lm 35 (.bool false) ?_;go_frame;refine Rg.lr 36 (exec_not _ _ false rfl rfl) ?_;go_frame;go_upto_region 9 with (fail);refine Rg.wl ?_;refine Rg.la 6 (.slice none 0 0) ?_;go_frame;refine Rg.la 7 (.int .i64 18) ?_;go_frame;have HV:=ι (show HiV d e L M xl [] 18 from .inr (.inr ⟨HZ.out,HZ2.out,n,m,A,B,x,none,HMG.out,HDF.out,HXX.out,GX.out,hyb.2,rfl,rfl⟩));go_wp2
    go_ret2
    exact ⟨_,_,[],rfl,ints_nil _,HV.out,K.out⟩
   case true =>
    go_upto_region 8 with (fail);refine Rg.wl ?_;refine Rg.lm 35 (.bool true) ?_;go_frame;refine Rg.lr 36 (exec_not _ _ true rfl rfl) ?_;go_frame;obtain ⟨y,hyy,hyr⟩:=hyb;have HYY:=ι hyy;have HV:=ι (show HiV d e L M xl (Ma.ofN y) 0 from .inr (.inr ⟨HZ.out,HZ2.out,n,m,A,B,x,some y,HMG.out,HDF.out,HXX.out,GX.out,hyr,rfl,rfl⟩));clear hyy hyr;go_upto_region 10 with (fail);refine Rg.wl ?_;refine Rg.lm 37 (yv) ?_;go_frame;refine Rg.la 6 (yv) ?_;go_frame;refine Rg.la 7 (.int .i64 0) ?_;go_frame;go_wp2
    go_ret2
    exact ⟨_,_,_,rfl,HYY.out,HV.out,K.out⟩

theorem Ajcl0 (args:Array Value) (w:World):(callFunc 273 args).run Tryz.prog w=.ok (.enter 273 args) w:=by kernel_rfl
theorem Ajcl1 (args:Array Value) (w:World):(callFunc 275 args).run Tryz.prog w=.ok (.enter 275 args) w:=by kernel_rfl
theorem Ajcl2 (args:Array Value) (w:World):(callFunc 206 args).run Tryz.prog w=.ok (.enter 206 args) w:=by kernel_rfl
theorem Ajcl3 (args:Array Value) (w:World):(callFunc 207 args).run Tryz.prog w=.ok (.enter 207 args) w:=by kernel_rfl
def AsksV (F:FuncId) (u:Value) (mv:List Int) (g:Int→Int) (w:World):Prop :=
 ∀ x,x∈mv→∀ w1,Below w.heap.size w w1→Calls Tryz.prog F #[.int .i64 x,u] w1 fun e w2=>e=.returned (.int .i64 (g x))∧Below w1.heap.size w1 w2
def LwPost (mv:List Int) (g:Int→Int) (w:World) (ed:Ending) (w':World):Prop:=∃ b,ed=.returned (.int .i64 b)∧b∈mv∧(∀ x∈mv,g b≤g x)∧Below w.heap.size w w'
theorem lowest_any (mvv:Value) (mv:List Int) (F:FuncId) (u:Value) (g:Int→Int) (w:World) (h:Rg.Ints w mvv mv) (h1:1≤mv.length) (hl:mv.length≤1000) (hF:∀ args w,(callFunc F args).run Tryz.prog w=.ok (.enter F args) w) (hf:AsksV F u mv g w) :
  Calls Tryz.prog 273 #[mvv,.func (.func F) #[] #[u]] w (LwPost mv g w):=by
 obtain ⟨a,c,rfl,hcap,-,-,hs⟩:=h.shape;obtain ⟨lb,lo,rfl,hlb,hlc⟩:=hs (by omega);obtain ⟨m,hm⟩:∃ m,Hid (mv.length=m+1):=⟨mv.length - 1,ι (by omega)⟩;rw [hm.out] at hcap;obtain ⟨c2,rfl⟩:∃ c2,c=c2+1:=⟨c - 1,by omega⟩;obtain ⟨ca,hsr,hca⟩:=run_slice1I w lb lo m c2 (by omega);rw [hm.out];have HSR:=ι hsr;have HCA:=ι hca;have HC:=ι (show ∀ k (hk:k<mv.length),CL w lb (lo+k) (.int .i64 mv[k]) from fun k hk=>CL.mk (hlc k hk) hlb);have HA:=ι hf;have HML:=ι (show m≤1000 by have:=hm.out; omega);obtain ⟨b0,hb0⟩:∃ b,Hid (mv[0]'(by omega)=b):=⟨_,ι rfl⟩;have C0:=ι (show CL w lb (lo+0) (.int .i64 b0) by rw [← hb0.out]; exact HC.out 0 (by omega))
 have hs0:b0∈mv∧∀ (j:Nat) (hj:j<mv.length),j<0+1→g b0≤g mv[j]:=by
  refine ⟨by rw [← hb0.out]; exact List.getElem_mem _,fun j hj h=>?_⟩
  obtain rfl:j=0:=by omega
  rw [hb0.out];exact Int.le_refl _
 have HS0:=ι hs0;clear hs0;have K:=ι (Below.refl w.heap.size w);clear h hs hlc hf hsr hca hcap
 go_enter Tryz.func273,Tryz.ntmps273
 go_upto_region 0 with (fail);refine Rg.wl ?_;refine Rg.la 4 (.int .i64 0) ?_;go_frame;go_upto_region 1 with (fail);refine Rg.wl ?_;refine Rg.lm 8 (.slice (some ⟨lb,lo,none⟩) (m+1) (c2+1)) ?_;go_frame;refine Rg.lr 9 (exec_indexS slInts _ _ rfl lb lo (m+1) (c2+1) 0 rfl rfl (Nat.succ_pos m)) ?_;go_frame;refine Rg.lr 10 (Rg.exec_load (v:=.int .i64 b0) _ _ rfl ⟨lb,lo+0,none⟩ rfl (run_loadInt C0.out.cell)) ?_;go_frame;refine Rg.la 5 (.int .i64 b0) ?_;go_frame;go_upto_region 2 with (fail);refine Rg.wl ?_;refine Rg.lm 11 (.slice (some ⟨lb,lo,none⟩) (m+1) (c2+1)) ?_;go_frame;refine Rg.lr 12 (exec_slice1I _ rfl rfl HSR.out) ?_;go_frame;refine Rg.lr 13 (exec_len _ _ _ rfl Tryz.underlying36 _ _ _ rfl) ?_;go_frame;refine Rg.lm 14 (.int .i64 ((0:Nat):Int)) ?_;go_frame;go_wp2
 go_loopw [5,14] (fun bv kv wr=>∃ (k:Nat) (b:Int),bv=.int .i64 b∧kv=.int .i64 ((k:Nat):Int)∧k≤m∧Hid (b∈mv∧∀ j (hj:j<mv.length),j<k+1→g b≤g mv[j])∧Hid (Below w.heap.size w wr)) (fun _ kv _=>m - (intOf kv).toNat)
 case atStart=>exact ⟨0,b0,rfl,rfl,Nat.zero_le _,HS0,K⟩
 case round =>
  clear K HS0;obtain ⟨k,b,rfl,rfl,hk,HS,K⟩:=hrel;generalize wr=wd at *;have hml:m≤1000:=HML.out
  by_cases hkm:k<m
  case neg =>
   have HV:=ι (show ∀ x∈mv,g b≤g x from fun x hx=>by
    obtain ⟨j,hj,rfl⟩:=List.getElem_of_mem hx
    exact HS.out.2 j hj (by have:=hm.out; omega))
   go_upto_region 3 with (fail);refine Rg.wl ?_;refine Rg.lr 15 (exec_bin (R:=.bool false) .lss _ _ _ rfl rfl rfl (b_lss _ Rg.dF)) ?_;go_frame;go_upto_region 8 with (fail);refine Rg.wl ?_;refine Rg.lm 27 (.int .i64 b) ?_;go_frame;refine Rg.la 4 (.int .i64 b) ?_;go_frame;go_wp2;go_ret;exact ⟨b,rfl,HS.out.1,HV.out,K.out⟩
  case pos =>
   have HKM:=ι hkm
   have hk2:k+1<mv.length:=by have:=hm.out; omega
   obtain ⟨x,hx⟩:∃ x,Hid (mv[k+1]'hk2=x):=⟨_,ι rfl⟩
   have CX:=ι (show CL w lb (lo+1+k) (.int .i64 x) by
    rw [← hx.out,show lo+1+k=lo+(k+1) by omega]; exact HC.out (k+1) hk2)
   have hce:=HCA.out (by omega);have HXM:=ι (show x∈mv by rw [← hx.out]; exact List.getElem_mem _);have HBM:=ι HS.out.1;have HK2:=ι hk2;obtain ⟨gx,hgx⟩:∃ z,Hid (g x=z):=⟨_,ι rfl⟩;obtain ⟨gb,hgb⟩:∃ z,Hid (g b=z):=⟨_,ι rfl⟩;rw [hce];clear hce
   by_cases hlt:gx<gb
   case pos =>
    go_upto_region 3 with (fail);refine Rg.wl ?_;refine Rg.lr 15 (exec_bin (R:=.bool true) .lss _ _ _ rfl rfl rfl (b_lss _ Rg.dT)) ?_;go_frame;go_upto_region 4 with (fail);refine Rg.wl ?_;refine Rg.lr 16 (exec_indexS slInts _ _ rfl lb (lo+1) m c2 k rfl rfl HKM.out) ?_;go_frame;refine Rg.lr 17 (Rg.exec_load (v:=.int .i64 x) _ _ rfl ⟨lb,lo+1+k,none⟩ rfl (run_loadInt ((Below.cell (p:=⟨lb,lo+1+k,none⟩) K.out CX.out.lt).trans CX.out.cell))) ?_;go_frame;refine Rg.la 7 (.int .i64 x) ?_;go_frame;go_upto_region 5 with (fail);refine Rg.wl ?_;refine Rg.lm 18 ((.func (.func F) #[] #[u])) ?_;go_frame;refine Rg.lm 19 (.int .i64 x) ?_;go_frame;refine Rg.lk 20 (exec_fnc1 F _ _ _ rfl rfl rfl (hF _ _)) ?_;refine (HA.out x HXM.out wd K.out).mono ?_;rintro e1 w31 ⟨rfl,hb⟩;rw [hgx.out];refine ⟨_,rfl,?_⟩;go_frame;replace K:=ι (Rg.acc K.out hb);clear hb;refine Rg.lm 21 ((.func (.func F) #[] #[u])) ?_;go_frame
    refine Rg.lm 22 (.int .i64 b) ?_;go_frame;refine Rg.lk 23 (exec_fnc1 F _ _ _ rfl rfl rfl (hF _ _)) ?_;refine (HA.out b HBM.out w31 K.out).mono ?_;rintro e1 w32 ⟨rfl,hb⟩;rw [hgb.out];refine ⟨_,rfl,?_⟩;go_frame;replace K:=ι (Rg.acc K.out hb);clear hb;refine Rg.lr 24 (exec_bin (R:=.bool true) .lss _ _ _ rfl rfl rfl (b_lss _ (decide_eq_true hlt))) ?_;go_frame;go_upto_region 6 with (fail);refine Rg.wl ?_;refine Rg.lm 25 (.int .i64 x) ?_;go_frame;refine Rg.la 5 (.int .i64 x) ?_;go_frame
    have HS2:=ι (show x∈mv∧∀ j (hj:j<mv.length),j<k+1+1→g x≤g mv[j] from ⟨HXM.out,fun j hj h=>by
     by_cases e:j=k+1
     ·subst e; rw [hx.out]; exact Int.le_refl _
     ·have:=HS.out.2 j hj (by omega)
      rw [hgb.out] at this;rw [hgx.out]
      omega⟩)
    go_upto_region 7 with (fail);refine Rg.wl ?_;refine Rg.lr 26 (exec_bin (R:=.int .i64 (((k+1):Nat):Int)) .add _ _ _ rfl rfl rfl (b_add _ (by omega) (by omega))) ?_;go_frame;refine Rg.lm 14 (.int .i64 (((k+1):Nat):Int)) ?_;go_frame;go_wp2
    go_roundw
    case rel=>exact ⟨k+1,_,rfl,by go_num,HKM.out,HS2,K⟩
    case measure=>simp [intOf]; have:=HKM.out; omega
   case neg =>
    go_upto_region 3 with (fail);refine Rg.wl ?_;refine Rg.lr 15 (exec_bin (R:=.bool true) .lss _ _ _ rfl rfl rfl (b_lss _ Rg.dT)) ?_;go_frame;go_upto_region 4 with (fail);refine Rg.wl ?_;refine Rg.lr 16 (exec_indexS slInts _ _ rfl lb (lo+1) m c2 k rfl rfl HKM.out) ?_;go_frame;refine Rg.lr 17 (Rg.exec_load (v:=.int .i64 x) _ _ rfl ⟨lb,lo+1+k,none⟩ rfl (run_loadInt ((Below.cell (p:=⟨lb,lo+1+k,none⟩) K.out CX.out.lt).trans CX.out.cell))) ?_;go_frame;refine Rg.la 7 (.int .i64 x) ?_;go_frame;go_upto_region 5 with (fail);refine Rg.wl ?_;refine Rg.lm 18 ((.func (.func F) #[] #[u])) ?_;go_frame;refine Rg.lm 19 (.int .i64 x) ?_;go_frame;refine Rg.lk 20 (exec_fnc1 F _ _ _ rfl rfl rfl (hF _ _)) ?_;refine (HA.out x HXM.out wd K.out).mono ?_;rintro e1 w43 ⟨rfl,hb⟩;rw [hgx.out];refine ⟨_,rfl,?_⟩;go_frame;replace K:=ι (Rg.acc K.out hb);clear hb;refine Rg.lm 21 ((.func (.func F) #[] #[u])) ?_;go_frame
    refine Rg.lm 22 (.int .i64 b) ?_;go_frame;refine Rg.lk 23 (exec_fnc1 F _ _ _ rfl rfl rfl (hF _ _)) ?_;refine (HA.out b HBM.out w43 K.out).mono ?_;rintro e1 w44 ⟨rfl,hb⟩;rw [hgb.out];refine ⟨_,rfl,?_⟩;go_frame;replace K:=ι (Rg.acc K.out hb);clear hb;refine Rg.lr 24 (exec_bin (R:=.bool false) .lss _ _ _ rfl rfl rfl (b_lss _ (decide_eq_false hlt))) ?_;go_frame
    have HS2:=ι (show b∈mv∧∀ j (hj:j<mv.length),j<k+1+1→g b≤g mv[j] from ⟨HBM.out,fun j hj h=>by
     by_cases e:j=k+1
     ·subst e; rw [hx.out,hgx.out,hgb.out]; omega
     ·exact HS.out.2 j hj (by omega)⟩)
    go_upto_region 7 with (fail);refine Rg.wl ?_;refine Rg.lr 26 (exec_bin (R:=.int .i64 (((k+1):Nat):Int)) .add _ _ _ rfl rfl rfl (b_add _ (by omega) (by omega))) ?_;go_frame;refine Rg.lm 14 (.int .i64 (((k+1):Nat):Int)) ?_;go_frame;go_wp2
    go_roundw
    case rel=>exact ⟨k+1,_,rfl,by go_num,HKM.out,HS2,K⟩
    case measure=>simp [intOf]; have:=HKM.out; omega
theorem PtI.box {W:World} {zv:Value} {z:List Nat} (h:Rg.NP W zv z):PtI W (W.alloc (.cells #[zv] 51)) zv z:=by
 have hb:Below W.heap.size W (W.alloc (.cells #[zv] 51)):=(Below.refl _ _).alloc (Nat.le_refl _) _;exact ⟨hb,CW.new W _ _,(FP.below (FP.of_np h) hb).mono (fun k hk=>by omega)⟩
theorem ls_asks {F:Nat→Prop} {xb xo xc xa N:Nat} {x ol:List Nat} {W:World} (h1:CL W xb 0 (.slice (some ⟨xa,xo,none⟩) N xc)) (h2:FP F W (.slice (some ⟨xa,xo,none⟩) N xc) x) (gx:Gd N x) (ho:∀ q∈ol,q<N) :
  AsksV 274 (.pointer (some ⟨xb,0,none⟩)) (Ma.ofN ol) (fun q=>((ap x q.toNat:Nat):Int)) W:=by
 intro y hy w1 hb;obtain ⟨q,hq,rfl⟩:=List.mem_map.1 hy;have hqN:=ho q hq;have hc:=h2.ap gx hqN;show Calls Tryz.prog _ #[_,_] w1 (fun e w2=>e=.returned (.int .i64 ((ap x (((q:Nat):Int)).toNat:Nat):Int))∧Below w1.heap.size w1 w2);rw [Int.toNat_natCast];exact least1_any (h1.below hb) ((CL.mk hc.cell hc.lt).below hb) hqN
def LsP (N:Nat) (H:List Nat→Prop) (x:List Nat) (w:World) (ed:Ending) (w':World):Prop:=∃ v y,ed=.returned v∧Rg.NP w' v y∧Cm.LstC N H x y∧Gd N y∧Below w.heap.size w w'
theorem rkLeast_any {N:Nat} {H:List Nat→Prop} {O:List (List Nat)} {R:List (List (List Nat))} (hn1:1≤N) (hn2:N≤64) (hH:Cm.IsG N H) (hch:IsChain N H O R) {ov rv xv:Value} {x:List Nat} {w:World} (h:ChEqR w ov rv (O.map Ma.ofN) (R.map (List.map Ma.ofN))) (hx:Rg.NP w xv x) (gx:Gd N x) :
  Calls Tryz.prog 207 #[.agg #[.int .i64 ((N:Nat):Int),ov,rv],xv] w (LsP N H x w):=by
 obtain ⟨ob,oo,oc,rb,ro,rc,rfl,rfl,-,-⟩:=level_rows hch h (i:=0) hn1;obtain ⟨xa,xo,xc,rfl⟩:=FP.shape' (FP.of_np hx) gx hn1;have HH:=ι hH;have HCH:=ι hch;have CE:=ι h;have HX:=ι hx;have GX:=ι gx;have K:=ι (Below.refl w.heap.size w);clear h hx gx hH hch
 go_enter Tryz.func207,Tryz.ntmps207
 go_upto_region 0 with (fail);refine Rg.wl ?_;have hbx:=box3 w (.int .i64 ((N:Nat):Int)) (.slice (some ⟨ob,oo,none⟩) N oc) (.slice (some ⟨rb,ro,none⟩) N rc);refine Rg.lr 2 (Rg.exec_box _ _ rfl rfl) ?_;go_frame;have hb:=(Below.refl w.heap.size w).alloc (Nat.le_refl _) (.cells #[.int .i64 ((N:Nat):Int),.slice (some ⟨ob,oo,none⟩) N oc,.slice (some ⟨rb,ro,none⟩) N rc] 54);generalize w.alloc (.cells #[.int .i64 ((N:Nat):Int),.slice (some ⟨ob,oo,none⟩) N oc,.slice (some ⟨rb,ro,none⟩) N rc] 54)=w1 at *;replace CE:=ι (CE.out.below hb);replace HX:=ι (HX.out.below hb);replace K:=ι (Rg.acc K.out hb);clear hb;have A0:=ι hbx.1;have A1:=ι hbx.2.1;have A2:=ι hbx.2.2;clear hbx;have hpt:=PtI.box HX.out;have CEb:=CE;have A0b:=A0;have A1b:=A1;have A2b:=A2;have Kb:=K;refine Rg.lr 3 (exec_boxV (v:=.slice (some ⟨xa,xo,none⟩) N xc) _ _ rfl rfl rfl) ?_;go_frame
 have hb:=(Below.refl w1.heap.size w1).alloc (Nat.le_refl _) (.cells #[.slice (some ⟨xa,xo,none⟩) N xc] 51);generalize w1.alloc (.cells #[.slice (some ⟨xa,xo,none⟩) N xc] 51)=w2 at *;replace CE:=ι (CE.out.below hb);replace HX:=ι (HX.out.below hb);replace A0:=ι (A0.out.below hb);replace A1:=ι (A1.out.below hb);replace A2:=ι (A2.out.below hb);replace K:=ι (Rg.acc K.out hb);clear hb;refine Rg.la 4 (.slice none 0 0) ?_;go_frame;clear CE A0 A1 A2 K HX;have CE:=CEb;have A0:=A0b;have A1:=A1b;have A2:=A2b;have K:=Kb;clear CEb A0b A1b A2b Kb;have PT0:=ι hpt;clear hpt;have K1:=ι PT0.out.bel;go_upto_region 1 with (fail);refine Rg.wl ?_;refine Rg.lr 7 (exec_field _ rfl rfl (chF0 _ _)) ?_;go_frame;refine Rg.lr 8 (Rg.exec_load (v:=.int .i64 ((N:Nat):Int)) _ _ rfl ⟨w.heap.size,0,none⟩ rfl (run_loadInt ((Below.cell (p:=⟨w.heap.size,0,none⟩) K1.out A0.out.lt).trans A0.out.cell))) ?_;go_frame
 refine Rg.lm 9 (.int .i64 ((0:Nat):Int)) ?_;go_frame;have LC0:=ι (Cm.LcI.start HH.out GX.out);clear K1;go_wp2
 go_loopw [9] (fun iv wr=>∃ (i:Nat) (y:List Nat) (yv:Value),iv=.int .i64 ((i:Nat):Int)∧i≤N∧Hid (PtI w1 wr yv y)∧Hid (Cm.LcI H x i y)) (fun iv _=>N - (intOf iv).toNat)
 case atStart=>exact ⟨0,_,_,rfl,Nat.zero_le _,PT0,LC0⟩
 case round =>
  clear LC0;obtain ⟨i,y,yv,rfl,hi,PT,LC⟩:=hrel;generalize wr=wd at *;have GY:=ι (LC.out.gd HH.out GX.out);obtain ⟨ya,yo,yc,rfl⟩:=FP.shape' PT.out.fp GY.out hn1;have K1:=ι PT.out.bel
  by_cases hin:i<N
  case neg =>
   obtain rfl:i=N:=by omega
   have LD:=ι (LC.out.done HH.out GX.out);have KT:=ι (show Below w.heap.size w wd from K.out.trans (K1.out.mono K.out.size));clear LC hi hin;go_upto_region 2 with (fail);refine Rg.wl ?_;refine Rg.lr 10 (exec_bin (R:=.bool false) .lss _ _ _ rfl rfl rfl (b_lss _ Rg.dF)) ?_;go_frame;go_upto_region 7 with (fail);refine Rg.wl ?_;refine Rg.lr 28 (Rg.exec_load (v:=.slice (some ⟨ya,yo,none⟩) i yc) _ _ rfl ⟨w1.heap.size,0,none⟩ rfl (Rg.run_loadSl _ _ Tryz.underlying51 PT.out.cz.c)) ?_;go_frame;refine Rg.la 4 (.slice (some ⟨ya,yo,none⟩) i yc) ?_;go_frame;go_wp2;go_ret;exact ⟨_,y,rfl,PT.out.fp.np,LD.out,GY.out,KT.out⟩
  case pos =>
   have HIN:=ι hin;obtain ⟨ob',oo',oc',rb',ro',rc',e1,e2,⟨ua,uc,hco,hoi⟩,-⟩:=level_rows HCH.out CE.out hin
   injection e1 with e1 _ e9
   subst e9
   injection e1 with e1
   injection e1 with e3 e4
   subst e3 e4;clear e2
   have HOQ:=ι (show ∀ q∈O.getD i [],q<N from fun q hq=>by
    obtain ⟨z,hz,rfl⟩:=(HCH.out.orb i q hin).1 hq
    exact Cm.ap_lt (HH.out.gd _ hz.1) hin)
   have hoL:=chain_len HH.out HCH.out hin;have HO1:=ι (show 1≤(O.getD i []).length from List.length_pos_of_mem ((HCH.out.orb i i hin).2 ⟨Ma.oneN N,⟨HH.out.one,Cm.Fx.one (by omega)⟩,Cm.ap_one hin⟩));obtain ⟨ol,hol⟩:∃ ol:List Nat,Hid (O.getD i []=ol):=⟨_,ι rfl⟩;rw [hol.out] at HOQ hco hoi hoL HO1;have CO:=ι hco;have IO:=ι hoi;clear hco hoi;go_upto_region 2 with (fail);refine Rg.wl ?_;refine Rg.lr 10 (exec_bin (R:=.bool true) .lss _ _ _ rfl rfl rfl (b_lss _ Rg.dT)) ?_;go_frame;go_upto_region 3 with (fail);refine Rg.wl ?_;refine Rg.lm 11 (.int .i64 ((i:Nat):Int)) ?_;go_frame;refine Rg.la 5 (.int .i64 ((i:Nat):Int)) ?_;go_frame;go_upto_region 4 with (fail);refine Rg.wl ?_;refine Rg.lr 12 (exec_field _ rfl rfl (chF1 _ _)) ?_;go_frame;refine Rg.lr 13 (Rg.exec_load (v:=.slice (some ⟨ob,oo,none⟩) N oc) _ _ rfl ⟨w.heap.size,1,none⟩ rfl (Rg.run_loadSl _ _ Tryz.underlying27 ((Below.cell (p:=⟨w.heap.size,1,none⟩) K1.out A1.out.lt).trans A1.out.cell))) ?_;go_frame
   refine Rg.lm 14 (.int .i64 ((i:Nat):Int)) ?_;go_frame;refine Rg.lr 15 (exec_indexS slIntss _ _ rfl ob (oo) (N) oc (i) rfl rfl HIN.out) ?_;go_frame;refine Rg.lr 16 (Rg.exec_load (v:=.slice ua ol.length uc) _ _ rfl ⟨ob,oo+i,none⟩ rfl (Rg.run_loadSl _ _ Tryz.underlying36 ((Below.cell (p:=⟨ob,oo+i,none⟩) K1.out CO.out.lt).trans CO.out.cell))) ?_;go_frame;refine Rg.lr 17 (exec_makeFunc (v:=.pointer (some ⟨w1.heap.size,0,none⟩)) _ _ rfl rfl) ?_;go_frame;refine Rg.lk 18 (exec_fn 273 _ _ _ rfl rfl rfl (Ajcl0 _ _)) ?_;refine (lowest_any _ (Ma.ofN ol) 274 (.pointer (some ⟨w1.heap.size,0,none⟩)) (fun q=>((ap y q.toNat:Nat):Int)) wd (IO.out.below K1.out) (by rw [Ma.len_ofN]; exact HO1.out) (by rw [Ma.len_ofN]; omega) clLs1 (ls_asks (CL.mk PT.out.cz.c PT.out.cz.lt) PT.out.fp GY.out HOQ.out)).mono ?_;rintro e1 w91 ⟨b9,rfl,hbm,hmin,hb⟩;obtain ⟨q,hq,rfl⟩:=List.mem_map.1 hbm
   have HQM:=ι hq;have HMN:=ι (show ∀ z∈ol,ap y q≤ap y z from fun z hz=>by have h5:=hmin ((z:Nat):Int) (List.mem_map.2 ⟨z,hz,rfl⟩); simp only [Int.toNat_natCast] at h5; omega);clear hbm hmin hq;refine ⟨_,rfl,?_⟩;go_frame;replace PT:=ι (PT.out.below hb);replace K1:=ι (Rg.acc K1.out hb);clear hb;refine Rg.la 6 (.int .i64 ((q:Nat):Int)) ?_;go_frame;have hqN:q<N:=HOQ.out q HQM.out;have HQN:=ι hqN;have hyc:=PT.out.fp.ap GY.out hqN;have CQ:=ι (CL.mk hyc.cell hyc.lt);clear hyc;go_upto_region 5 with (fail);have hV0:Below w91.heap.size w91 w91.drew:=(Below.refl _ _).drew;replace PT:=ι (PT.out.below hV0);replace CQ:=ι (CQ.out.below hV0);replace K1:=ι (Rg.acc K1.out hV0);clear hV0;refine Rg.Any.begin (S:=Rg.Both 8 (fun W=>Below w91.drew.heap.size w91.drew W) (fun W=>Below w1.heap.size w1 W)) mix ?_;generalize w91.drew=w92 at *;have hS:∀ (l:Array Bool) W,Below w92.heap.size w92 W→Below w1.heap.size w1 W→Rg.Both 8 (fun W=>Below w92.heap.size w92 W) (fun W=>Below w1.heap.size w1 W) l W:=fun l W h h2=>⟨.inr h,h2⟩
   have hS2:∀ (l:Array Bool) W,l.getD 8 false=true→Below w1.heap.size w1 W→Rg.Both 8 (fun W=>Below w92.heap.size w92 W) (fun W=>Below w1.heap.size w1 W) l W:=fun l W h h2=>⟨.inl h,h2⟩;have hI:=K1.out;refine Rg.tg 0 8 ((.agg #[.int .i64 ((N:Nat):Int),.slice (some ⟨ob,oo,none⟩) N oc,.slice (some ⟨rb,ro,none⟩) N rc])) 19 rfl rfl (Rg.yields_cell _ _ rfl rfl ⟨w.heap.size,0,none⟩ rfl (fun W hW=>run_loadC3 ((Below.cell (p:=⟨w.heap.size,0,none⟩) hW A0.out.lt).trans A0.out.cell) ((Below.cell (p:=⟨w.heap.size,1,none⟩) hW A1.out.lt).trans A1.out.cell) ((Below.cell (p:=⟨w.heap.size,2,none⟩) hW A2.out.lt).trans A2.out.cell))) (hS _ _ (Below.refl _ _) hI) ?_;go_frame;refine Rg.Any.takeT (i:=1) (t:=8) (v:=.slice (some ⟨ya,yo,none⟩) N yc) (some 20) rfl rfl (by kernel_rfl) (by kernel_rfl) (by kernel_rfl) (fun _ _ _ h=>h) rfl (by kernel_rfl) rfl (Rg.yields_cell _ _ rfl rfl ⟨w1.heap.size,0,none⟩ rfl (fun W hW=>Rg.run_loadSl _ _ Tryz.underlying51 ((Below.cell (p:=⟨w1.heap.size,0,none⟩) hW PT.out.cz.lt).trans PT.out.cz.c))) (hS _ _ (Below.refl _ _) hI) ?_;go_frame
   refine Rg.tg 2 8 (.int .i64 ((i:Nat):Int)) 21 rfl rfl (.inl ⟨rfl,fun w _=>Rg.exec_move (v:=.int .i64 ((i:Nat):Int)) _ rfl rfl⟩) (hS _ _ (Below.refl _ _) hI) ?_;go_frame;refine Rg.Any.takeT (i:=3) (t:=8) (v:=.slice (some ⟨ya,yo,none⟩) N yc) (some 22) rfl rfl (by kernel_rfl) (by kernel_rfl) (by kernel_rfl) (fun _ _ _ h=>h) rfl (by kernel_rfl) rfl (Rg.yields_cell _ _ rfl rfl ⟨w1.heap.size,0,none⟩ rfl (fun W hW=>Rg.run_loadSl _ _ Tryz.underlying51 ((Below.cell (p:=⟨w1.heap.size,0,none⟩) hW PT.out.cz.lt).trans PT.out.cz.c))) (hS _ _ (Below.refl _ _) hI) ?_;go_frame;refine Rg.tg 4 8 (.int .i64 ((q:Nat):Int)) 23 rfl rfl (.inl ⟨rfl,fun w _=>Rg.exec_move (v:=.int .i64 ((q:Nat):Int)) _ rfl rfl⟩) (hS _ _ (Below.refl _ _) hI) ?_;go_frame;refine Rg.tg 5 8 (.pointer (some ⟨ya,yo+q,none⟩)) 24 rfl rfl (Rg.yields_index slPerm _ _ rfl rfl ya (yo) (N) yc (q) rfl rfl HQN.out) (hS _ _ (Below.refl _ _) hI) ?_;go_frame
   refine Rg.Any.takeT (i:=6) (t:=8) (v:=.int .i64 (((ap y q):Nat):Int)) (some 25) rfl rfl (by kernel_rfl) (by kernel_rfl) (by kernel_rfl) (fun _ _ _ h=>h) rfl (by kernel_rfl) rfl (Rg.yields_cell _ _ rfl rfl ⟨ya,yo+q,none⟩ rfl (fun W hW=>run_loadInt ((Below.cell (p:=⟨ya,yo+q,none⟩) hW CQ.out.lt).trans CQ.out.cell))) (hS _ _ (Below.refl _ _) hI) ?_;go_frame;have HZ9:=ι (show w1.heap.size<w92.heap.size from PT.out.cz.lt);refine Rg.Any.one (i:=7) (by kernel_rfl) (Rg.Any.ask (some 26) rfl rfl rfl _ _ (exec_fn4 275 _ _ _ _ _ rfl rfl rfl rfl rfl (Ajcl1 _ _)) ?_);refine (step_any hn1 hn2 HH.out HCH.out (CE.out.below hI) PT.out.fp.np GY.out HIN.out ⟨q,by rw [hol.out]; exact HQM.out,rfl⟩).mono ?_;rintro e1 w93 ⟨mv,k,rfl,hkl,hkq,hmv,hb⟩;have HKL:=ι hkl;have HKQ:=ι hkq;have hrg:=HH.out.gd _ (HCH.out.rep i k HIN.out hkl).1.1.1;have hmf:=pt_new HZ9.out hmv
   obtain ⟨ma,mo,mc,rfl⟩:=hmf.shape' (Cm.gd_mul hrg GY.out) hn1;clear hmv hrg hkl hkq;have hI2_0:=Rg.acc hI hb;have hI2_1:=hb;clear hb hI;refine ⟨_,rfl,(hS _ _ hI2_1 hI2_0),?_⟩;go_frame;have MV:=ι hmf;have PT9:=ι (PT.out.below hI2_1);have MV9:=ι MV.out;have hI3_g:=hI2_0.setCell (p:=⟨w1.heap.size,0,none⟩) (Nat.le_refl _) (.slice (some ⟨ma,mo,none⟩) N mc);refine Rg.Any.one (i:=8) (by kernel_rfl) (Rg.Any.runSkip none rfl rfl rfl (Rg.exec_store _ _ _ rfl _ rfl _ rfl (Rg.run_storeSl _ infoPerm PT9.out.cz.c PT9.out.cz.f)) (hS2 _ _ rfl hI3_g) ?_);go_frame;clear hI2_0 hI2_1;clear PT;clear CQ;clear MV;refine Rg.Any.done (by kernel_rfl) ?_ _;replace K1:=ι hI3_g;clear hS2;clear hS hI3_g;have hpt2:=PT9.out.set MV9.out;generalize w93.setCell ⟨w1.heap.size,0,none⟩ (.slice (some ⟨ma,mo,none⟩) N mc)=w98 at *;have PT2:=ι hpt2;have LC2:=ι (LC.out.step HH.out HCH.out GX.out HIN.out HKL.out (fun z hz=>by rw [HKQ.out]; exact HMN.out z (by rw [← hol.out]; exact hz)))
   clear hpt2;go_upto_region 6 with (fail);refine Rg.wl ?_;refine Rg.lr 27 (exec_bin (R:=.int .i64 (((i+1):Nat):Int)) .add _ _ _ rfl rfl rfl (b_add _ (by omega) (by omega))) ?_;go_frame;refine Rg.lm 9 (.int .i64 (((i+1):Nat):Int)) ?_;go_frame;go_wp2
   go_roundw
   case rel=>exact ⟨i+1,_,_,by go_num,HIN.out,PT2,LC2⟩
   case measure=>simp [intOf]; have:=HIN.out; omega
def LeV (n:Int) (OO:List (List Int)) (RR:List (List (List Int))) (xl l:List Int) (c:Int):Prop :=
 (bothC n OO RR xl≠0∧c=bothC n OO RR xl∧l=[])∨(bothC n OO RR xl=0∧c=0∧∃ (N:Nat) (O:List (List Nat)) (R:List (List (List Nat))) (x y:List Nat),n=((N:Nat):Int)∧OO=O.map Ma.ofN∧RR=R.map (List.map Ma.ofN)∧xl=Ma.ofN x∧Gd N x∧IsChain N (Gr N (·∈R.flatten)) O R∧Cm.IsG N (Gr N (·∈R.flatten))∧Cm.LstC N (Gr N (·∈R.flatten)) x y∧l=Ma.ofN y)
theorem LeV.uniq {n:Int} {OO:List (List Int)} {RR:List (List (List Int))} {xl l l':List Int} {c c':Int} (h:LeV n OO RR xl l c) (h':LeV n OO RR xl l' c'):l=l'∧c=c':=by
 rcases h with ⟨h1,rfl,rfl⟩ | ⟨h1,rfl,N,O,R,x,y,h2,h3,h4,h5,h6,h7,h8,h9,rfl⟩
 ·rcases h' with ⟨g1,rfl,rfl⟩ | ⟨g1,_⟩
  ·exact ⟨rfl,rfl⟩
  ·exact absurd g1 h1
 ·rcases h' with ⟨g1,rfl,rfl⟩ | ⟨g1,rfl,N',O',R',x',y',g2,g3,g4,g5,g6,g7,g8,g9,rfl⟩
  ·exact absurd h1 g1
  ·obtain rfl:N=N':=by omega
   obtain rfl:=Ma.ofN_inj (h5.symm.trans g5)
   have e:R=R':=by
    have e2:=h4.symm.trans g4;have e3:=congrArg (List.map (List.map unN)) e2;rw [unN_map2,unN_map2] at e3;exact e3
   subst e;rw [h9.uniq g9];exact ⟨rfl,rfl⟩
def LePost (n:Int) (OO:List (List Int)) (RR:List (List (List Int))) (xl:List Int) (w:World) (ed:Ending) (w':World):Prop:=∃ v c l,ed=.returned (.tuple #[v,.int .i64 c])∧Rg.Ints w' v l∧LeV n OO RR xl l c∧Below w.heap.size w w'
theorem Least_rank {n:Int} {ov rv xv:Value} {OO:List (List Int)} {RR:List (List (List Int))} {xl:List Int} {w:World} (h:ChEqR w ov rv OO RR) (hx:Rg.Ints w xv xl) :
  Calls Tryz.prog 131 #[.agg #[.int .i64 n,ov,rv],xv] w (LePost n OO RR xl w):=by
 obtain ⟨oa,oc,rfl,-⟩:=h.1.shape;obtain ⟨ra,rc,rfl⟩:=h.2.shape;obtain ⟨xa,xc,rfl,-⟩:=hx.shape;have HC:=ι h;have HX:=ι hx;have K:=ι (Below.refl w.heap.size w);clear h hx;obtain ⟨c,hc0⟩:∃ c,Hid (bothC n OO RR xl=c):=⟨_,ι rfl⟩
 go_enter Tryz.func131,Tryz.ntmps131
 go_upto_region 0 with (fail);refine Rg.wl ?_;have hbx:=box3 w (.int .i64 n) (.slice oa OO.length oc) (.slice ra RR.length rc);refine Rg.lr 2 (Rg.exec_box _ _ rfl rfl) ?_;go_frame;have hb:=(Below.refl w.heap.size w).alloc (Nat.le_refl _) (.cells #[.int .i64 n,.slice oa OO.length oc,.slice ra RR.length rc] 54);generalize w.alloc (.cells #[.int .i64 n,.slice oa OO.length oc,.slice ra RR.length rc] 54)=w1 at *;replace HC:=ι (HC.out.below hb);replace HX:=ι (HX.out.below hb);replace K:=ι (Rg.acc K.out hb);clear hb;have A0:=ι hbx.1;have A1:=ι hbx.2.1;have A2:=ι hbx.2.2;clear hbx;refine Rg.la 4 (.slice none 0 0) ?_;go_frame;refine Rg.la 5 (.int .i64 0) ?_;go_frame;go_upto_region 1 with (fail);refine Rg.wl ?_;refine Rg.lr 7 (Rg.exec_load (v:=(.agg #[.int .i64 n,.slice oa OO.length oc,.slice ra RR.length rc])) _ _ rfl ⟨w.heap.size,0,none⟩ rfl (run_loadC3 A0.out.cell A1.out.cell A2.out.cell)) ?_;go_frame
 refine Rg.lm 8 (.slice xa xl.length xc) ?_;go_frame;refine Rg.lk 9 (exec_fn 206 _ _ _ rfl rfl rfl (Ajcl2 _ _)) ?_;refine (rkMember_any HC.out HX.out).mono ?_;rintro e1 w2 ⟨rfl,hb⟩;rw [hc0.out];refine ⟨_,rfl,?_⟩;go_frame;replace HC:=ι (HC.out.below hb);replace HX:=ι (HX.out.below hb);replace A0:=ι (A0.out.below hb);replace A1:=ι (A1.out.below hb);replace A2:=ι (A2.out.below hb);replace K:=ι (Rg.acc K.out hb);clear hb;refine Rg.la 6 (.int .i64 c) ?_;go_frame
 by_cases h0:c=0
 case neg =>
  have HV:=ι (show LeV n OO RR xl [] c from .inl ⟨by rw [hc0.out]; exact h0,hc0.out.symm,rfl⟩);go_upto_region 2 with (fail);refine Rg.wl ?_;refine Rg.lm 10 (.int .i64 c) ?_;go_frame;refine Rg.lr 11 (exec_bin (R:=.bool true) .neq _ _ _ rfl rfl rfl (b_neqB _ (decide_eq_true h0))) ?_;go_frame;go_upto_region 3 with (fail);refine Rg.wl ?_;refine Rg.lm 12 (.int .i64 c) ?_;go_frame;refine Rg.la 4 (.slice none 0 0) ?_;go_frame;refine Rg.la 5 (.int .i64 c) ?_;go_frame;go_wp2
  go_ret2
  exact ⟨_,_,[],rfl,ints_nil _,HV.out,K.out⟩
 case pos =>
  have HZ:=ι (hc0.out.trans h0);obtain ⟨N,O,R,x,hn,hn1,hn2,hO,hR,hch,hH,hxl,gx⟩:=bothC_zero HZ.out;have HCH:=ι hch;have HHG:=ι hH;have HXL:=ι hxl;have GX:=ι gx;have HOO:=ι hO;have HRR:=ι hR;have HNN:=ι hn;subst hn;have HCN:=ι (show ChEqR w2 (.slice oa OO.length oc) (.slice ra RR.length rc) (O.map Ma.ofN) (R.map (List.map Ma.ofN)) by have h5:=HC.out; rw [← HOO.out,← HRR.out]; exact h5);have HXN:=ι (show Rg.NP w2 (.slice xa xl.length xc) x by have h5:=HX.out; rw [HXL.out] at h5 ⊢; exact h5);clear hch hH hxl gx hO hR HC HX HNN;go_upto_region 2 with (fail);refine Rg.wl ?_;refine Rg.lm 10 (.int .i64 c) ?_;go_frame;refine Rg.lr 11 (exec_bin (R:=.bool false) .neq _ _ _ rfl rfl rfl (b_neqB _ (decide_eq_false (fun q=>q h0)))) ?_;go_frame;go_upto_region 4 with (fail);refine Rg.wl ?_;refine Rg.lr 13 (Rg.exec_load (v:=(.agg #[.int .i64 ((N:Nat):Int),.slice oa OO.length oc,.slice ra RR.length rc])) _ _ rfl ⟨w.heap.size,0,none⟩ rfl (run_loadC3 A0.out.cell A1.out.cell A2.out.cell)) ?_;go_frame
  refine Rg.lm 14 (.slice xa xl.length xc) ?_;go_frame;refine Rg.lk 15 (exec_fn 207 _ _ _ rfl rfl rfl (Ajcl3 _ _)) ?_;refine (rkLeast_any hn1 hn2 HHG.out HCH.out HCN.out HXN.out GX.out).mono ?_;rintro e1 w13 ⟨yv,y,rfl,hyv,hlc,gy,hb⟩;have HLC:=ι hlc;have GY:=ι gy;clear hlc gy;refine ⟨_,rfl,?_⟩;go_frame;replace A0:=ι (A0.out.below hb);replace A1:=ι (A1.out.below hb);replace A2:=ι (A2.out.below hb);replace HCN:=ι (HCN.out.below hb);replace HXN:=ι (HXN.out.below hb);replace K:=ι (Rg.acc K.out hb);clear hb;have YV:=ι hyv;refine Rg.lk 16 (exec_fn1 123 _ _ rfl rfl (Vzcl3 _ _)) ?_;refine (Clone_any _ (Ma.ofN y) w13 YV.out (by rw [Ma.len_ofN,GY.out.2]; exact hn1) (by rw [Ma.len_ofN,GY.out.2]; omega)).mono ?_;rintro e1 w14 ⟨cv,rfl,hcv,hb⟩;have HCV:=ι (Rg.Ints.of_row hcv (by rw [Ma.len_ofN,GY.out.2]; omega));clear hcv;refine ⟨_,rfl,?_⟩;go_frame;replace A0:=ι (A0.out.below hb)
  replace A1:=ι (A1.out.below hb);replace A2:=ι (A2.out.below hb);replace HCN:=ι (HCN.out.below hb);replace HXN:=ι (HXN.out.below hb);replace YV:=ι (YV.out.below hb);replace K:=ι (Rg.acc K.out hb);clear hb;refine Rg.la 4 (cv) ?_;go_frame;refine Rg.la 5 (.int .i64 0) ?_;go_frame;have HV:=ι (show LeV ((N:Nat):Int) OO RR xl (Ma.ofN y) 0 from .inr ⟨HZ.out,rfl,N,O,R,x,y,rfl,HOO.out,HRR.out,HXL.out,GX.out,HCH.out,HHG.out,HLC.out,rfl⟩);go_wp2
  go_ret2
  exact ⟨_,_,_,rfl,HCV.out,HV.out,K.out⟩
end Go.Proofs.YthehbckogieimaaGreat

namespace Go.Proofs.YthehbckogieimaaGreat
open Go.RowKit
open Go.Proofs
open Go.Proofs.Cm (Gd Gr IsChain)
structure NpI (w:World) (v:Value) (l:List Int):Prop where
 i:Rg.Ints w v l
theorem NpI.below {w w':World} {v:Value} {l:List Int} (h:NpI w v l) (hb:Below w.heap.size w w'):NpI w' v l:=⟨h.i.below hb⟩
theorem NpI.at {w:World} {lv:Value} {M:List Nat} {D:Nat} (h:NpI w lv (Ma.ofN M)) (hM:M.length=D) (hD:1≤D):∃ b o c,lv=.slice (some ⟨b,o,none⟩) D c∧∀ i,i<D→CL w b (o+i) (.int .i64 ((M.getD i 0:Nat):Int)):=by
 obtain ⟨a,c,rfl,hc,hm,_,hcell⟩:=Rg.NP.shape (show Rg.NP w lv M from h.i);obtain ⟨b,o,rfl,hb,hr⟩:=hcell (by omega);refine ⟨b,o,c,by rw [hM],fun i hi=>⟨?_,hb⟩⟩;rw [List.getD_eq_getElem?_getD,List.getElem?_eq_getElem (show i<M.length by omega),Option.getD_some];exact hr i (by omega)
theorem rows_get {w:World} {a:Option Addr} {n c:Nat} {T:List (List Int)} (h:Rg.Rows w (.slice a n c) T) {i:Nat} (hi:i<T.length):∃ b o ua uc,a=some ⟨b,o,none⟩∧b<w.heap.size∧w.cell? ⟨b,o+i,none⟩=some (.slice ua T[i].length uc)∧Rg.Ints w (.slice ua T[i].length uc) T[i]:=by
 obtain ⟨a',c',e,-,-,-,hx⟩:=h.shape;simp only [Value.slice.injEq] at e;obtain ⟨rfl,rfl,rfl⟩:=e;obtain ⟨b,o,e1,e2,e3⟩:=hx (by omega);obtain ⟨u,h1,h2⟩:=e3 i hi;obtain ⟨ua,uc,e4,-⟩:=Rg.Ints.shape h2;subst e4;exact ⟨b,o,ua,uc,e1,e2,h1,h2⟩
structure RsO (w:World) (v:Value) (T:List (List Int)):Prop where
 r:Rg.Rows w v T
theorem RsO.below {w w':World} {v:Value} {T:List (List Int)} (h:RsO w v T) (hb:Below w.heap.size w w'):RsO w' v T:=⟨Rg.Rows.below h.r hb⟩
theorem kp_below {B:Nat} {M:Nat→Prop} {W0 W X:World} (hb:Below B W0 W) (hB:B≤W.heap.size) (hk:Rg.Kp M W X) (hM:∀ k,M k→B≤k):Below B W0 X :=
 hb.trans ⟨hk.os,hk.tape,hk.output,hk.size,fun k h=>hk.block k (Nat.lt_of_lt_of_le h hB) fun e=>Nat.lt_irrefl _ (Nat.lt_of_lt_of_le h (hM k e))⟩
theorem gck_good {D:Nat} (h1:1≤D) (h2:D≤64):∀ {gs:List (List Nat)},(∀ s∈gs,Gd D s)→Ma.gck ((D:Nat):Int) (gs.map Ma.ofN)=0
 | [],_=>rfl
 | s :: gs,h=>by
  have g:=h s (List.mem_cons_self ..);have e1:Ma.pchk (Ma.ofN s)=0:=Ma.pchk_ok (by rw [Ma.len_ofN,g.2]; exact h1) (by rw [Ma.len_ofN,g.2]; exact h2) (Ma.okN_ofN g.1)
  have e2:((Ma.ofN s).length:Int)=((D:Nat):Int):=by rw [Ma.len_ofN,g.2]
  show (if Ma.pchk (Ma.ofN s)=0 then (if ((Ma.ofN s).length:Int)=((D:Nat):Int) then Ma.gck ((D:Nat):Int) (gs.map Ma.ofN) else 10) else Ma.pchk (Ma.ofN s))=0;rw [if_pos e1,if_pos e2];exact gck_good h1 h2 (fun x hx=>h x (List.mem_cons_of_mem _ hx))
theorem mkchk_good {D:Nat} (h1:1≤D) (h2:D≤64) {gs:List (List Nat)} (hl:gs.length≤4096) (h:∀ s∈gs,Gd D s):mkchk ((D:Nat):Int) (gs.map Ma.ofN)=0:=by
 unfold mkchk;rw [if_pos (by omega),if_pos (by rw [List.length_map]; exact hl)];exact gck_good h1 h2 h
theorem chAns_ok {w:World} {d:Nat} {gs:List (List Nat)} {cv:Value} (h:ChAns w ((d:Nat):Int) (gs.map Ma.ofN) cv 0) :
  ∃ oa on oc ra rn rc O R,cv=.agg #[.int .i64 ((d:Nat):Int),.slice oa on oc,.slice ra rn rc]∧ChEqR w (.slice oa on oc) (.slice ra rn rc) (O.map Ma.ofN) (R.map (List.map Ma.ofN))∧IsChain d (Gr d (·∈gs)) O R:=by
 rcases h with ⟨h,_⟩ | ⟨_,n,gs',h1,h2,_,_,ov,rv,O,R,rfl,h3,h4,h5⟩
 ·exact absurd rfl h
 ·obtain rfl:d=n:=by omega
  obtain rfl:=map_ofN_inj h2;obtain ⟨oa,oc,rfl,-⟩:=h3.shape;obtain ⟨ra,rc,rfl⟩:=h4.shape;exact ⟨_,_,_,_,_,_,O,R,rfl,⟨h3,h4⟩,h5⟩
end Go.Proofs.YthehbckogieimaaGreat

namespace Go.Proofs.YthehbckogieimaaGreat
open Go.RowKit
open Go.Proofs
open Go.Proofs.Ob
open Go.Proofs.Cm (Gd ap)
attribute [local irreducible] Go.Calls Go.wpList
theorem Kbcl0 (args:Array Value) (w:World):(callFunc 22 args).run Tryz.prog w=.ok (.enter 22 args) w:=by kernel_rfl
theorem Kbcl1 (args:Array Value) (w:World):(callFunc 51 args).run Tryz.prog w=.ok (.enter 51 args) w:=by kernel_rfl
theorem SameChain_d {n n':Int} {ov rv ov' rv':Value} {OO OO':List (List Int)} {RR RR':List (List (List Int))} {w:World} {b:Bool} (h1:ChEqR w ov rv OO RR) (h2:ChEqR w ov' rv' OO' RR') (hb:Hid (b=true↔(n=n'∧OO=OO'∧RR=RR'))) :
  Calls Tryz.prog 50 #[.agg #[.int .i64 n,ov,rv],.agg #[.int .i64 n',ov',rv']] w fun e w'=>e=.returned (.bool b)∧Below w.heap.size w w':=by
 obtain ⟨oa,oc,rfl,_⟩:=h1.1.shape;obtain ⟨ra,rc,rfl⟩:=h1.2.shape;obtain ⟨oe,od,rfl,_⟩:=h2.1.shape;obtain ⟨re,rd,rfl⟩:=h2.2.shape
 have hrl:RR.length≤1000000000:=by
  obtain ⟨us,⟨_,_,_,_,_,h4,_⟩,h5,_⟩:=h1.2;have:us.length≤Rg.big:=h4;unfold Rg.big at this; omega
 have hrl':RR'.length≤1000000000:=by
  obtain ⟨us,⟨_,_,_,_,_,h4,_⟩,h5,_⟩:=h2.2;have:us.length≤Rg.big:=h4;unfold Rg.big at this; omega
 have H1:=ι h1;have H2:=ι h2;have hbx:=box3 w (.int .i64 n) (.slice oa OO.length oc) (.slice ra RR.length rc);have hbb:Below w.heap.size w (w.alloc (.cells #[.int .i64 n,.slice oa OO.length oc,.slice ra RR.length rc] 54)):=(Below.refl _ _).alloc (Nat.le_refl _) _;clear h1 h2
 go_enter Tryz.func50,Tryz.ntmps50
 obtain ⟨ca,hca⟩:∃ ca,w.heap.size=ca:=⟨_,rfl⟩;rw [hca] at hbx;go_upto_region 0 with (fail);refine Rg.wl ?_;refine Rg.lr 2 (Rg.exec_box _ _ rfl rfl) ?_;go_frame;rw [hca];generalize w.alloc (.cells #[.int .i64 n,.slice oa OO.length oc,.slice ra RR.length rc] 54)=w0 at *;have hbx2:=box3 w0 (.int .i64 n') (.slice oe OO'.length od) (.slice re RR'.length rd);have hb2:Below w0.heap.size w0 (w0.alloc (.cells #[.int .i64 n',.slice oe OO'.length od,.slice re RR'.length rd] 54)):=(Below.refl _ _).alloc (Nat.le_refl _) _;obtain ⟨cb,hcb⟩:∃ cb,w0.heap.size=cb:=⟨_,rfl⟩;rw [hcb] at hbx2;refine Rg.lr 3 (Rg.exec_box _ _ rfl rfl) ?_;go_frame;rw [hcb];refine Rg.la 4 (.bool false) ?_;go_frame;generalize w0.alloc (.cells #[.int .i64 n',.slice oe OO'.length od,.slice re RR'.length rd] 54)=w1 at *;have HWB:=ι (Rg.acc hbb hb2);have A0:=ι (hbx.1.up hb2);have A1:=ι (hbx.2.1.up hb2)
 have A2:=ι (hbx.2.2.up hb2);have B0:=ι hbx2.1;have B1:=ι hbx2.2.1;have B2:=ι hbx2.2.2;have HO1:=ι (RsO.mk (Rg.Rows.below H1.out.1 HWB.out));have HO2:=ι (RsO.mk (Rg.Rows.below H2.out.1 HWB.out));have HR1:=ι (H1.out.2.below HWB.out);have HR2:=ι (H2.out.2.below HWB.out);have K:=ι (Below.refl w1.heap.size w1);clear hbx hbx2 hbb hb2 hca hcb H1 H2
 by_cases hn:n=n'
 case neg =>
  have HBF:=ι (show b=false from by
   cases e:b with
   | false=>rfl
   | true=>exact absurd ((hb.out.1 e).1) (by assumption))
  go_upto_region 1 with (fail);refine Rg.wl ?_;refine Rg.lr 6 (exec_field _ rfl rfl (chF0 _ _)) ?_;go_frame;refine Rg.lr 7 (Rg.exec_load (v:=.int .i64 n) _ _ rfl ⟨ca,0,none⟩ rfl (run_loadInt ((Below.cell (p:=⟨ca,0,none⟩) K.out A0.out.lt).trans A0.out.cell))) ?_;go_frame;refine Rg.lr 8 (exec_field _ rfl rfl (chF0 _ _)) ?_;go_frame;refine Rg.lr 9 (Rg.exec_load (v:=.int .i64 n') _ _ rfl ⟨cb,0,none⟩ rfl (run_loadInt ((Below.cell (p:=⟨cb,0,none⟩) K.out B0.out.lt).trans B0.out.cell))) ?_;go_frame;refine Rg.lr 10 (exec_bin (R:=.bool true) .neq _ _ _ rfl rfl rfl (b_neqB _ (decide_eq_true hn))) ?_;go_frame;refine Rg.lm 11 (.bool true) ?_;go_frame;refine listW_pass (some 12) (by kernel_rfl) rfl ?_;go_frame;refine listW_pass (some 13) (by kernel_rfl) rfl ?_;go_frame;refine listW_pass (some 14) (by kernel_rfl) rfl ?_;go_frame;refine listW_pass (some 15) (by kernel_rfl) rfl ?_;go_frame
  refine listW_pass (some 16) (by kernel_rfl) rfl ?_;go_frame;refine listW_pass (some 17) (by kernel_rfl) rfl ?_;go_frame;refine Rg.lr 18 (exec_pickT (v:=.bool true) _ _ _ rfl rfl rfl) ?_;go_frame;refine Rg.lm 19 (.bool true) ?_;go_frame;refine listW_pass (some 20) (by kernel_rfl) rfl ?_;go_frame;refine listW_pass (some 21) (by kernel_rfl) rfl ?_;go_frame;refine listW_pass (some 22) (by kernel_rfl) rfl ?_;go_frame;refine listW_pass (some 23) (by kernel_rfl) rfl ?_;go_frame;refine listW_pass (some 24) (by kernel_rfl) rfl ?_;go_frame;refine listW_pass (some 25) (by kernel_rfl) rfl ?_;go_frame;refine listW_pass (some 26) (by kernel_rfl) rfl ?_;go_frame;refine Rg.lr 27 (exec_pickT (v:=.bool true) _ _ _ rfl rfl rfl) ?_;go_frame;go_upto_region 2 with (fail);refine Rg.wl ?_;refine Rg.la 4 (.bool false) ?_;go_frame;go_wp2;go_ret;exact ⟨by rw [HBF.out]; rfl,Rg.acc HWB.out K.out⟩
 case pos =>
  obtain ⟨bo,hbo⟩:∃ t,Hid (decide (OO=OO')=t):=⟨_,ι rfl⟩
  cases bo
  case false =>
   have hon:¬ OO=OO':=of_decide_eq_false hbo.out
   have HBF:=ι (show b=false from by
    cases e:b with
    | false=>rfl
    | true=>exact absurd ((hb.out.1 e).2.1) (by assumption))
   go_upto_region 1 with (fail);refine Rg.wl ?_;refine Rg.lr 6 (exec_field _ rfl rfl (chF0 _ _)) ?_;go_frame;refine Rg.lr 7 (Rg.exec_load (v:=.int .i64 n) _ _ rfl ⟨ca,0,none⟩ rfl (run_loadInt ((Below.cell (p:=⟨ca,0,none⟩) K.out A0.out.lt).trans A0.out.cell))) ?_;go_frame;refine Rg.lr 8 (exec_field _ rfl rfl (chF0 _ _)) ?_;go_frame;refine Rg.lr 9 (Rg.exec_load (v:=.int .i64 n') _ _ rfl ⟨cb,0,none⟩ rfl (run_loadInt ((Below.cell (p:=⟨cb,0,none⟩) K.out B0.out.lt).trans B0.out.cell))) ?_;go_frame;refine Rg.lr 10 (exec_bin (R:=.bool false) .neq _ _ _ rfl rfl rfl (b_neqB _ (decide_eq_false (fun h=>h hn)))) ?_;go_frame;refine Rg.lm 11 (.bool false) ?_;go_frame;refine Rg.lW 12 (exec_field _ rfl rfl (chF1 _ _)) ?_;go_frame;refine Rg.lW 13 (Rg.exec_load (v:=.slice oa OO.length oc) _ _ rfl ⟨ca,1,none⟩ rfl (Rg.run_loadSl _ _ Tryz.underlying27 ((Below.cell (p:=⟨ca,1,none⟩) K.out A1.out.lt).trans A1.out.cell))) ?_;go_frame
   refine Rg.lW 14 (exec_field _ rfl rfl (chF1 _ _)) ?_;go_frame;refine Rg.lW 15 (Rg.exec_load (v:=.slice oe OO'.length od) _ _ rfl ⟨cb,1,none⟩ rfl (Rg.run_loadSl _ _ Tryz.underlying27 ((Below.cell (p:=⟨cb,1,none⟩) K.out B1.out.lt).trans B1.out.cell))) ?_;go_frame;refine listW_ask (some 16) rfl rfl _ _ (exec_fn 22 _ _ _ rfl rfl rfl (Kbcl0 _ _)) ?_;refine (SameLists_b (HO1.out.below K.out).r (HO2.out.below K.out).r hbo).mono ?_;rintro e1 w22 ⟨rfl,hb⟩;refine ⟨_,rfl,?_⟩;go_frame;replace K:=ι (Rg.acc K.out hb);clear hb;refine Rg.lW 17 (exec_not _ _ false rfl rfl) ?_;go_frame;refine Rg.lr 18 (exec_pickF (v:=.bool true) _ _ _ rfl rfl rfl) ?_;go_frame;refine Rg.lm 19 (.bool true) ?_;go_frame;refine listW_pass (some 20) (by kernel_rfl) rfl ?_;go_frame;refine listW_pass (some 21) (by kernel_rfl) rfl ?_;go_frame;refine listW_pass (some 22) (by kernel_rfl) rfl ?_;go_frame;refine listW_pass (some 23) (by kernel_rfl) rfl ?_;go_frame
   refine listW_pass (some 24) (by kernel_rfl) rfl ?_;go_frame;refine listW_pass (some 25) (by kernel_rfl) rfl ?_;go_frame;refine listW_pass (some 26) (by kernel_rfl) rfl ?_;go_frame;refine Rg.lr 27 (exec_pickT (v:=.bool true) _ _ _ rfl rfl rfl) ?_;go_frame;go_upto_region 2 with (fail);refine Rg.wl ?_;refine Rg.la 4 (.bool false) ?_;go_frame;go_wp2;go_ret;exact ⟨by rw [HBF.out]; rfl,Rg.acc HWB.out K.out⟩
  case true =>
   have hoy:OO=OO':=of_decide_eq_true hbo.out;have HOY:=ι hoy;have HNY:=ι hn
   by_cases hlen:RR.length=RR'.length
   case neg =>
    have hrn:¬ RR=RR':=fun e=>hlen (by rw [e])
    have HBF:=ι (show b=false from by
     cases e:b with
     | false=>rfl
     | true=>exact absurd ((hb.out.1 e).2.2) (by assumption))
    go_upto_region 1 with (fail);refine Rg.wl ?_;refine Rg.lr 6 (exec_field _ rfl rfl (chF0 _ _)) ?_;go_frame;refine Rg.lr 7 (Rg.exec_load (v:=.int .i64 n) _ _ rfl ⟨ca,0,none⟩ rfl (run_loadInt ((Below.cell (p:=⟨ca,0,none⟩) K.out A0.out.lt).trans A0.out.cell))) ?_;go_frame;refine Rg.lr 8 (exec_field _ rfl rfl (chF0 _ _)) ?_;go_frame;refine Rg.lr 9 (Rg.exec_load (v:=.int .i64 n') _ _ rfl ⟨cb,0,none⟩ rfl (run_loadInt ((Below.cell (p:=⟨cb,0,none⟩) K.out B0.out.lt).trans B0.out.cell))) ?_;go_frame;refine Rg.lr 10 (exec_bin (R:=.bool false) .neq _ _ _ rfl rfl rfl (b_neqB _ (decide_eq_false (fun h=>h hn)))) ?_;go_frame;refine Rg.lm 11 (.bool false) ?_;go_frame;refine Rg.lW 12 (exec_field _ rfl rfl (chF1 _ _)) ?_;go_frame;refine Rg.lW 13 (Rg.exec_load (v:=.slice oa OO.length oc) _ _ rfl ⟨ca,1,none⟩ rfl (Rg.run_loadSl _ _ Tryz.underlying27 ((Below.cell (p:=⟨ca,1,none⟩) K.out A1.out.lt).trans A1.out.cell))) ?_;go_frame
    refine Rg.lW 14 (exec_field _ rfl rfl (chF1 _ _)) ?_;go_frame;refine Rg.lW 15 (Rg.exec_load (v:=.slice oe OO'.length od) _ _ rfl ⟨cb,1,none⟩ rfl (Rg.run_loadSl _ _ Tryz.underlying27 ((Below.cell (p:=⟨cb,1,none⟩) K.out B1.out.lt).trans B1.out.cell))) ?_;go_frame;refine listW_ask (some 16) rfl rfl _ _ (exec_fn 22 _ _ _ rfl rfl rfl (Kbcl0 _ _)) ?_;refine (SameLists_b (HO1.out.below K.out).r (HO2.out.below K.out).r hbo).mono ?_;rintro e1 w33 ⟨rfl,hb⟩;refine ⟨_,rfl,?_⟩;go_frame;replace K:=ι (Rg.acc K.out hb);clear hb;refine Rg.lW 17 (exec_not _ _ true rfl rfl) ?_;go_frame;refine Rg.lr 18 (exec_pickF (v:=.bool false) _ _ _ rfl rfl rfl) ?_;go_frame;refine Rg.lm 19 (.bool false) ?_;go_frame;refine Rg.lW 20 (exec_field _ rfl rfl (chF2 _ _)) ?_;go_frame;refine Rg.lW 21 (Rg.exec_load (v:=.slice ra RR.length rc) _ _ rfl ⟨ca,2,none⟩ rfl (Rg.run_loadSl _ _ Tryz.underlying52 ((Below.cell (p:=⟨ca,2,none⟩) K.out A2.out.lt).trans A2.out.cell))) ?_;go_frame
    refine Rg.lW 22 (exec_len _ _ _ rfl Tryz.underlying52 _ _ _ rfl) ?_;go_frame;refine Rg.lW 23 (exec_field _ rfl rfl (chF2 _ _)) ?_;go_frame;refine Rg.lW 24 (Rg.exec_load (v:=.slice re RR'.length rd) _ _ rfl ⟨cb,2,none⟩ rfl (Rg.run_loadSl _ _ Tryz.underlying52 ((Below.cell (p:=⟨cb,2,none⟩) K.out B2.out.lt).trans B2.out.cell))) ?_;go_frame;refine Rg.lW 25 (exec_len _ _ _ rfl Tryz.underlying52 _ _ _ rfl) ?_;go_frame;refine Rg.lW 26 (exec_bin (R:=.bool true) .neq _ _ _ rfl rfl rfl (b_neqB _ Rg.dT)) ?_;go_frame;refine Rg.lr 27 (exec_pickF (v:=.bool true) _ _ _ rfl rfl rfl) ?_;go_frame;go_upto_region 2 with (fail);refine Rg.wl ?_;refine Rg.la 4 (.bool false) ?_;go_frame;go_wp2;go_ret;exact ⟨by rw [HBF.out]; rfl,Rg.acc HWB.out K.out⟩
   case pos =>
    have HLEN:=ι hlen;have hl1:RR.length≤RR'.length:=Nat.le_of_eq hlen;have hl2:RR'.length≤RR.length:=Nat.le_of_eq hlen.symm;go_upto_region 1 with (fail);refine Rg.wl ?_;refine Rg.lr 6 (exec_field _ rfl rfl (chF0 _ _)) ?_;go_frame;refine Rg.lr 7 (Rg.exec_load (v:=.int .i64 n) _ _ rfl ⟨ca,0,none⟩ rfl (run_loadInt ((Below.cell (p:=⟨ca,0,none⟩) K.out A0.out.lt).trans A0.out.cell))) ?_;go_frame;refine Rg.lr 8 (exec_field _ rfl rfl (chF0 _ _)) ?_;go_frame;refine Rg.lr 9 (Rg.exec_load (v:=.int .i64 n') _ _ rfl ⟨cb,0,none⟩ rfl (run_loadInt ((Below.cell (p:=⟨cb,0,none⟩) K.out B0.out.lt).trans B0.out.cell))) ?_;go_frame;refine Rg.lr 10 (exec_bin (R:=.bool false) .neq _ _ _ rfl rfl rfl (b_neqB _ (decide_eq_false (fun h=>h hn)))) ?_;go_frame;refine Rg.lm 11 (.bool false) ?_;go_frame;refine Rg.lW 12 (exec_field _ rfl rfl (chF1 _ _)) ?_;go_frame;refine Rg.lW 13 (Rg.exec_load (v:=.slice oa OO.length oc) _ _ rfl ⟨ca,1,none⟩ rfl (Rg.run_loadSl _ _ Tryz.underlying27 ((Below.cell (p:=⟨ca,1,none⟩) K.out A1.out.lt).trans A1.out.cell))) ?_;go_frame
    refine Rg.lW 14 (exec_field _ rfl rfl (chF1 _ _)) ?_;go_frame;refine Rg.lW 15 (Rg.exec_load (v:=.slice oe OO'.length od) _ _ rfl ⟨cb,1,none⟩ rfl (Rg.run_loadSl _ _ Tryz.underlying27 ((Below.cell (p:=⟨cb,1,none⟩) K.out B1.out.lt).trans B1.out.cell))) ?_;go_frame;refine listW_ask (some 16) rfl rfl _ _ (exec_fn 22 _ _ _ rfl rfl rfl (Kbcl0 _ _)) ?_;refine (SameLists_b (HO1.out.below K.out).r (HO2.out.below K.out).r hbo).mono ?_;rintro e1 w54 ⟨rfl,hb⟩;refine ⟨_,rfl,?_⟩;go_frame;replace K:=ι (Rg.acc K.out hb);clear hb;refine Rg.lW 17 (exec_not _ _ true rfl rfl) ?_;go_frame;refine Rg.lr 18 (exec_pickF (v:=.bool false) _ _ _ rfl rfl rfl) ?_;go_frame;refine Rg.lm 19 (.bool false) ?_;go_frame;refine Rg.lW 20 (exec_field _ rfl rfl (chF2 _ _)) ?_;go_frame;refine Rg.lW 21 (Rg.exec_load (v:=.slice ra RR.length rc) _ _ rfl ⟨ca,2,none⟩ rfl (Rg.run_loadSl _ _ Tryz.underlying52 ((Below.cell (p:=⟨ca,2,none⟩) K.out A2.out.lt).trans A2.out.cell))) ?_;go_frame
    refine Rg.lW 22 (exec_len _ _ _ rfl Tryz.underlying52 _ _ _ rfl) ?_;go_frame;refine Rg.lW 23 (exec_field _ rfl rfl (chF2 _ _)) ?_;go_frame;refine Rg.lW 24 (Rg.exec_load (v:=.slice re RR'.length rd) _ _ rfl ⟨cb,2,none⟩ rfl (Rg.run_loadSl _ _ Tryz.underlying52 ((Below.cell (p:=⟨cb,2,none⟩) K.out B2.out.lt).trans B2.out.cell))) ?_;go_frame;refine Rg.lW 25 (exec_len _ _ _ rfl Tryz.underlying52 _ _ _ rfl) ?_;go_frame;refine Rg.lW 26 (exec_bin (R:=.bool false) .neq _ _ _ rfl rfl rfl (b_neqB _ Rg.dF)) ?_;go_frame;refine Rg.lr 27 (exec_pickF (v:=.bool false) _ _ _ rfl rfl rfl) ?_;go_frame;go_upto_region 3 with (fail);refine Rg.wl ?_;refine Rg.la 5 (.int .i64 ((0:Nat):Int)) ?_;go_frame;have HEQ:=ι (show ∀ j (h:j<RR.length) (h':j<RR'.length),j<0→RR[j]=RR'[j] from fun j _ _ h=>absurd h (Nat.not_lt_zero _));clear hlen hoy hn;go_wp2
    go_loopw [5] (fun iv wr=>∃ i:Nat,iv=.int .i64 ((i:Nat):Int)∧i≤RR.length∧Hid (∀ j (h:j<RR.length) (h':j<RR'.length),j<i→RR[j]=RR'[j])∧Hid (Below w1.heap.size w1 wr)) (fun iv _=>RR.length - (intOf iv).toNat)
    case atStart=>exact ⟨0,rfl,Nat.zero_le _,HEQ,K⟩
    case round =>
     clear HEQ K;obtain ⟨i,rfl,hi,HEQ,K⟩:=hrel;generalize wr=wd at *
     by_cases hil:i<RR.length
     case neg =>
      have HBT:=ι (show b=true from hb.out.2 ⟨HNY.out,HOY.out,List.ext_getElem HLEN.out fun j h h'=>HEQ.out j h h' (by omega)⟩);go_upto_region 4 with (fail);refine Rg.wl ?_;refine Rg.lm 28 (.int .i64 ((i:Nat):Int)) ?_;go_frame;refine Rg.lr 29 (exec_field _ rfl rfl (chF2 _ _)) ?_;go_frame;refine Rg.lr 30 (Rg.exec_load (v:=.slice ra RR.length rc) _ _ rfl ⟨ca,2,none⟩ rfl (Rg.run_loadSl _ _ Tryz.underlying52 ((Below.cell (p:=⟨ca,2,none⟩) K.out A2.out.lt).trans A2.out.cell))) ?_;go_frame;refine Rg.lr 31 (exec_len _ _ _ rfl Tryz.underlying52 _ _ _ rfl) ?_;go_frame;refine Rg.lr 32 (exec_bin (R:=.bool false) .lss _ _ _ rfl rfl rfl (b_lss _ Rg.dF)) ?_;go_frame;go_upto_region 8 with (fail);refine Rg.wl ?_;refine Rg.la 4 (.bool true) ?_;go_frame;go_wp2;go_ret;exact ⟨by rw [HBT.out]; rfl,Rg.acc HWB.out K.out⟩
     case pos =>
      have HIL:=ι hil
      have hil2:i<RR'.length:=by omega
      have HIL2:=ι hil2;obtain ⟨xb,xo,e1,xlt,u1,hu1,hr1⟩:=HR1.out.at' hil;subst e1;obtain ⟨yb,yo,e1,ylt,u2,hu2,hr2⟩:=HR2.out.at' hil2;subst e1;obtain ⟨x,hx⟩:∃ x,Hid (RR[i]'hil=x):=⟨_,ι rfl⟩;obtain ⟨y,hy⟩:∃ x,Hid (RR'[i]'hil2=x):=⟨_,ι rfl⟩;rw [hx.out] at hr1;rw [hy.out] at hr2;obtain ⟨pa,pc,rfl,_⟩:=hr1.shape;obtain ⟨pb,pd,rfl,_⟩:=hr2.shape;have CX:=ι (CL.mk hu1 xlt);have CY:=ι (CL.mk hu2 ylt);have RX:=ι (RsO.mk hr1);have RY:=ι (RsO.mk hr2);obtain ⟨t,ht⟩:∃ t,Hid (decide (x=y)=t):=⟨_,ι rfl⟩;clear hu1 hu2 hr1 hr2 xlt ylt
      cases t
      case false =>
       have HBF:=ι (show b=false from by
        cases e:b with
        | false=>rfl
        | true =>
         have h5:=(hb.out.1 e).2.2;subst h5;rw [hx.out] at hy
         exact absurd hy.out (of_decide_eq_false ht.out))
       go_upto_region 4 with (fail);refine Rg.wl ?_;refine Rg.lm 28 (.int .i64 ((i:Nat):Int)) ?_;go_frame;refine Rg.lr 29 (exec_field _ rfl rfl (chF2 _ _)) ?_;go_frame;refine Rg.lr 30 (Rg.exec_load (v:=.slice (some ⟨xb,xo,none⟩) RR.length rc) _ _ rfl ⟨ca,2,none⟩ rfl (Rg.run_loadSl _ _ Tryz.underlying52 ((Below.cell (p:=⟨ca,2,none⟩) K.out A2.out.lt).trans A2.out.cell))) ?_;go_frame;refine Rg.lr 31 (exec_len _ _ _ rfl Tryz.underlying52 _ _ _ rfl) ?_;go_frame;refine Rg.lr 32 (exec_bin (R:=.bool true) .lss _ _ _ rfl rfl rfl (b_lss _ Rg.dT)) ?_;go_frame;go_upto_region 6 with (fail);have hV0:Below wd.heap.size wd wd.drew:=(Below.refl _ _).drew;replace K:=ι (Rg.acc K.out hV0);clear hV0;refine Rg.Any.begin (S:=Rg.Both 11 (fun _=>True) (fun W=>Below w1.heap.size w1 W)) mix ?_;generalize wd.drew=w85 at *;have hS:∀ (l:Array Bool) W,Below w1.heap.size w1 W→Rg.Both 11 (fun _=>True) (fun W=>Below w1.heap.size w1 W) l W:=fun l W h=>⟨.inr trivial,h⟩
       have hI:=K.out;refine Rg.tg 0 11 (.pointer (some ⟨ca,2,none⟩)) 35 rfl rfl (.inl ⟨rfl,fun w _=>exec_field _ rfl rfl (chF2 _ _)⟩) (hS _ _ hI) ?_;go_frame;refine Rg.tg 1 11 (.slice (some ⟨xb,xo,none⟩) RR.length rc) 36 rfl rfl (Rg.yields_cell _ _ rfl rfl ⟨ca,2,none⟩ rfl (fun W hW=>Rg.run_loadSl _ _ Tryz.underlying52 ((Below.cell (p:=⟨ca,2,none⟩) hW A2.out.lt).trans A2.out.cell))) (hS _ _ hI) ?_;go_frame;refine Rg.tm 2 11 (.int .i64 ((i:Nat):Int)) 37 (hS _ _ hI) ?_;go_frame;refine Rg.tg 3 11 (.pointer (some ⟨xb,xo+i,none⟩)) 38 rfl rfl (Rg.yields_index slPermss _ _ rfl rfl xb (xo) (RR.length) rc (i) rfl rfl HIL.out) (hS _ _ hI) ?_;go_frame;refine Rg.tg 4 11 (.slice pa x.length pc) 39 rfl rfl (Rg.yields_cell _ _ rfl rfl ⟨xb,xo+i,none⟩ rfl (fun W hW=>Rg.run_loadSl _ _ Tryz.underlying22 ((Below.cell (p:=⟨xb,xo+i,none⟩) hW CX.out.lt).trans CX.out.cell))) (hS _ _ hI) ?_;go_frame
       refine Rg.tg 5 11 (.pointer (some ⟨cb,2,none⟩)) 40 rfl rfl (.inl ⟨rfl,fun w _=>exec_field _ rfl rfl (chF2 _ _)⟩) (hS _ _ hI) ?_;go_frame;refine Rg.tg 6 11 (.slice (some ⟨yb,yo,none⟩) RR'.length rd) 41 rfl rfl (Rg.yields_cell _ _ rfl rfl ⟨cb,2,none⟩ rfl (fun W hW=>Rg.run_loadSl _ _ Tryz.underlying52 ((Below.cell (p:=⟨cb,2,none⟩) hW B2.out.lt).trans B2.out.cell))) (hS _ _ hI) ?_;go_frame;refine Rg.tm 7 11 (.int .i64 ((i:Nat):Int)) 42 (hS _ _ hI) ?_;go_frame;refine Rg.tg 8 11 (.pointer (some ⟨yb,yo+i,none⟩)) 43 rfl rfl (Rg.yields_index slPermss _ _ rfl rfl yb (yo) (RR'.length) rd (i) rfl rfl HIL2.out) (hS _ _ hI) ?_;go_frame;refine Rg.tg 9 11 (.slice pb y.length pd) 44 rfl rfl (Rg.yields_cell _ _ rfl rfl ⟨yb,yo+i,none⟩ rfl (fun W hW=>Rg.run_loadSl _ _ Tryz.underlying22 ((Below.cell (p:=⟨yb,yo+i,none⟩) hW CY.out.lt).trans CY.out.cell))) (hS _ _ hI) ?_;go_frame
       refine Rg.Any.one (i:=10) (by kernel_rfl) (Rg.Any.ask (some 45) rfl rfl rfl _ _ (exec_fn 51 _ _ _ rfl rfl rfl (Kbcl1 _ _)) ?_);refine (SamePerms_b (RX.out.below hI).r (RY.out.below hI).r ht).mono ?_;rintro e1 w86 ⟨rfl,hb⟩;have hI2_0:=Rg.acc hI hb;have hI2_1:=hb;clear hb hI;refine ⟨_,rfl,(hS _ _ hI2_0),?_⟩;go_frame;refine Rg.Any.one (i:=11) (by kernel_rfl) (Rg.Any.run (some 46) rfl rfl rfl (exec_not _ _ false rfl rfl) (hS _ _ hI2_0) ?_);go_frame;refine Rg.Any.done (by kernel_rfl) ?_ _;replace K:=ι hI2_0;clear hS hI2_0 hI2_1;go_upto_region 7 with (fail);refine Rg.wl ?_;refine Rg.la 4 (.bool false) ?_;go_frame;go_wp2;go_ret;exact ⟨by rw [HBF.out]; rfl,Rg.acc HWB.out K.out⟩
      case true =>
       have HE2:=ι (show ∀ j (h:j<RR.length) (h':j<RR'.length),j<i+1→RR[j]=RR'[j] from fun j h h' hj=>by
        by_cases e:j=i
        ·subst e; rw [hx.out,hy.out]; exact of_decide_eq_true ht.out
        ·exact HEQ.out j h h' (by omega))
       go_upto_region 4 with (fail);refine Rg.wl ?_;refine Rg.lm 28 (.int .i64 ((i:Nat):Int)) ?_;go_frame;refine Rg.lr 29 (exec_field _ rfl rfl (chF2 _ _)) ?_;go_frame;refine Rg.lr 30 (Rg.exec_load (v:=.slice (some ⟨xb,xo,none⟩) RR.length rc) _ _ rfl ⟨ca,2,none⟩ rfl (Rg.run_loadSl _ _ Tryz.underlying52 ((Below.cell (p:=⟨ca,2,none⟩) K.out A2.out.lt).trans A2.out.cell))) ?_;go_frame;refine Rg.lr 31 (exec_len _ _ _ rfl Tryz.underlying52 _ _ _ rfl) ?_;go_frame;refine Rg.lr 32 (exec_bin (R:=.bool true) .lss _ _ _ rfl rfl rfl (b_lss _ Rg.dT)) ?_;go_frame;go_upto_region 6 with (fail);have hV0:Below wd.heap.size wd wd.drew:=(Below.refl _ _).drew;replace K:=ι (Rg.acc K.out hV0);clear hV0;refine Rg.Any.begin (S:=Rg.Both 11 (fun _=>True) (fun W=>Below w1.heap.size w1 W)) mix ?_;generalize wd.drew=w107 at *;have hS:∀ (l:Array Bool) W,Below w1.heap.size w1 W→Rg.Both 11 (fun _=>True) (fun W=>Below w1.heap.size w1 W) l W:=fun l W h=>⟨.inr trivial,h⟩
       have hI:=K.out;refine Rg.tg 0 11 (.pointer (some ⟨ca,2,none⟩)) 35 rfl rfl (.inl ⟨rfl,fun w _=>exec_field _ rfl rfl (chF2 _ _)⟩) (hS _ _ hI) ?_;go_frame;refine Rg.tg 1 11 (.slice (some ⟨xb,xo,none⟩) RR.length rc) 36 rfl rfl (Rg.yields_cell _ _ rfl rfl ⟨ca,2,none⟩ rfl (fun W hW=>Rg.run_loadSl _ _ Tryz.underlying52 ((Below.cell (p:=⟨ca,2,none⟩) hW A2.out.lt).trans A2.out.cell))) (hS _ _ hI) ?_;go_frame;refine Rg.tm 2 11 (.int .i64 ((i:Nat):Int)) 37 (hS _ _ hI) ?_;go_frame;refine Rg.tg 3 11 (.pointer (some ⟨xb,xo+i,none⟩)) 38 rfl rfl (Rg.yields_index slPermss _ _ rfl rfl xb (xo) (RR.length) rc (i) rfl rfl HIL.out) (hS _ _ hI) ?_;go_frame;refine Rg.tg 4 11 (.slice pa x.length pc) 39 rfl rfl (Rg.yields_cell _ _ rfl rfl ⟨xb,xo+i,none⟩ rfl (fun W hW=>Rg.run_loadSl _ _ Tryz.underlying22 ((Below.cell (p:=⟨xb,xo+i,none⟩) hW CX.out.lt).trans CX.out.cell))) (hS _ _ hI) ?_;go_frame
       refine Rg.tg 5 11 (.pointer (some ⟨cb,2,none⟩)) 40 rfl rfl (.inl ⟨rfl,fun w _=>exec_field _ rfl rfl (chF2 _ _)⟩) (hS _ _ hI) ?_;go_frame;refine Rg.tg 6 11 (.slice (some ⟨yb,yo,none⟩) RR'.length rd) 41 rfl rfl (Rg.yields_cell _ _ rfl rfl ⟨cb,2,none⟩ rfl (fun W hW=>Rg.run_loadSl _ _ Tryz.underlying52 ((Below.cell (p:=⟨cb,2,none⟩) hW B2.out.lt).trans B2.out.cell))) (hS _ _ hI) ?_;go_frame;refine Rg.tm 7 11 (.int .i64 ((i:Nat):Int)) 42 (hS _ _ hI) ?_;go_frame;refine Rg.tg 8 11 (.pointer (some ⟨yb,yo+i,none⟩)) 43 rfl rfl (Rg.yields_index slPermss _ _ rfl rfl yb (yo) (RR'.length) rd (i) rfl rfl HIL2.out) (hS _ _ hI) ?_;go_frame;refine Rg.tg 9 11 (.slice pb y.length pd) 44 rfl rfl (Rg.yields_cell _ _ rfl rfl ⟨yb,yo+i,none⟩ rfl (fun W hW=>Rg.run_loadSl _ _ Tryz.underlying22 ((Below.cell (p:=⟨yb,yo+i,none⟩) hW CY.out.lt).trans CY.out.cell))) (hS _ _ hI) ?_;go_frame
       refine Rg.Any.one (i:=10) (by kernel_rfl) (Rg.Any.ask (some 45) rfl rfl rfl _ _ (exec_fn 51 _ _ _ rfl rfl rfl (Kbcl1 _ _)) ?_);refine (SamePerms_b (RX.out.below hI).r (RY.out.below hI).r ht).mono ?_;rintro e1 w108 ⟨rfl,hb⟩;have hI3_0:=Rg.acc hI hb;have hI3_1:=hb;clear hb hI;refine ⟨_,rfl,(hS _ _ hI3_0),?_⟩;go_frame;refine Rg.Any.one (i:=11) (by kernel_rfl) (Rg.Any.run (some 46) rfl rfl rfl (exec_not _ _ true rfl rfl) (hS _ _ hI3_0) ?_);go_frame;refine Rg.Any.done (by kernel_rfl) ?_ _;replace K:=ι hI3_0;clear hS hI3_0 hI3_1;go_upto_region 5 with (fail);refine Rg.wl ?_;refine Rg.lm 33 (.int .i64 ((i:Nat):Int)) ?_;go_frame;refine Rg.lr 34 (exec_bin (R:=.int .i64 (((i+1):Nat):Int)) .add _ _ _ rfl rfl rfl (b_add _ (by omega) (by omega))) ?_;go_frame;refine Rg.la 5 (.int .i64 (((i+1):Nat):Int)) ?_;go_frame;go_wp2
       go_roundw
       case rel=>exact ⟨i+1,by go_num,HIL.out,HE2,K⟩
       case measure=>simp [intOf]; have:=HIL.out; omega
end Go.Proofs.YthehbckogieimaaGreat

namespace Go.Proofs.YthehbckogieimaaGreat
open Go.RowKit
open Go.Proofs
open Go.Proofs.Ob
open Go.Proofs.Cm (Gd)
attribute [local irreducible] Go.Calls Go.wpList
theorem RwAt.up {w w':World} {g n:Nat} {f:Nat→Int} (h:RwAt w g n f) (hb:Below w.heap.size w w'):RwAt w' g n f:=h.below hb
def GM (tk gb rb z:Nat):Prop:=z=tk∨z=gb∨z=rb
structure RowH (B:Nat) (F M:Nat→Prop) (W:World) (v:Value) (l:List (List Nat)):Prop where
 size:B≤W.heap.size
 own:∃ us,W.ownsRow B 51 1 v l.length us∧Rg.FElts F W us (l.map Ma.ofN)
 off:∀ k,v.ownBlock=some k→¬ F k∧¬ M k
theorem RowH.lt {B:Nat} {F M:Nat→Prop} {W:World} {v:Value} {l:List (List Nat)} (h:RowH B F M W v l):∀ k,v.ownBlock=some k→B≤k∧k<W.heap.size:=fun k e=>by
 obtain ⟨us,h1,h2⟩:=h.own;exact h1.lt k e
theorem RowH.shape {B:Nat} {F M:Nat→Prop} {W:World} {v:Value} {l:List (List Nat)} (h:RowH B F M W v l):∃ a c,v=.slice a l.length c:=by
 obtain ⟨us,h1,h2⟩:=h.own;exact Rg.row_shape h1
theorem RowH.nil (B:Nat) (F M:Nat→Prop) (W:World) (hB:B≤W.heap.size):RowH B F M W (.slice none 0 0) [] :=
 ⟨hB,⟨[],World.ownsRow_nil _ _ _ _,Rg.FElts.nil _ _⟩,fun k e=>by simp [Value.ownBlock] at e⟩
theorem RowH.rows {B:Nat} {F M:Nat→Prop} {W:World} {v:Value} {l:List (List Nat)} (h:RowH B F M W v l) (hl:l.length≤1000000000):Rg.Rows W v (l.map Ma.ofN):=by
 obtain ⟨us,h1,h2⟩:=h.own;exact Rg.Rows.of_row h1 hl h2.1 (fun i a b=>(h2.2 i a b).ints)
theorem RowH.kp {B:Nat} {F M N:Nat→Prop} {W W':World} {v:Value} {l:List (List Nat)} (h:RowH B F M W v l) (hk:Rg.Kp N W W') (hF:∀ k,F k→¬ N k) (hN:∀ k,v.ownBlock=some k→¬ N k):RowH B F M W' v l:=by
 obtain ⟨us,h1,h2⟩:=h.own;exact ⟨Nat.le_trans h.size hk.size,⟨us,rowKp h1 hk (fun k hn e=>hN k e hn),h2.kp hk hF⟩,h.off⟩
theorem RowH.push {B:Nat} {F M:Nat→Prop} {W:World} {v:Value} {l:List (List Nat)} (h:RowH B F M W v l) {u:Value} {x:List Nat} (hu:FP F W u x) (hs:∃ a m c,u=.slice a m c) (hF:∀ k,F k→k<W.heap.size) (hM:∀ k,M k→k<W.heap.size) (hn:l.length<1000000) (ty:TypeId) :
  ∃ a c X,(Builtin.append_ #[22,22] ty #[v,.slice (some ⟨W.heap.size,0,none⟩) 1 1]).run Tryz.prog (W.alloc (.cells #[u] 51))=.ok (.slice a (l.length+1) c) X∧RowH B F M X (.slice a (l.length+1) c) (l++[x])∧Rg.Kp (fun k=>v.ownBlock=some k) W X:=by
 obtain ⟨us,h1,h2⟩:=h.own;obtain ⟨a0,m0,c0,rfl⟩:=hs;have hb:Below W.heap.size W (W.alloc (.cells #[.slice a0 m0 c0] 51)):=(Below.refl _ _).alloc (Nat.le_refl _) _;obtain ⟨v',X,r1,r2,r3,r4,a,c,rfl⟩:=app_run (P:=Tryz.prog) slPerms ty (Rg.row_below h1 hb) (Nat.le_trans h.size hb.size) W.heap.size 1 (u:=.slice a0 m0 c0) (by rw [Rg.cellNew]; rfl) rfl hn;have hk:Rg.Kp (fun k=>v.ownBlock=some k) W X:=Rg.Kp.trans (M:=fun k=>v.ownBlock=some k) ((Rg.Kp.of_below hb).weak fun _=>False.elim) (Rg.Kp.of_grown r3 fun _ e=>e) (fun _ _ e=>e);have hg:∀ k,F k→¬ v.ownBlock=some k:=fun k g e=>(h.off k e).1 g;refine ⟨a,c,X,r1,⟨Nat.le_trans h.size hk.size,⟨us++[.slice a0 m0 c0],by rw [List.length_append]; exact r2,by rw [List.map_append]; exact FElts.snoc (h2.kp hk hg) (Rg.FI.kp hu hk hg)⟩,fun k e=>?_⟩,hk⟩
 rcases r4 with r4 | r4
 ·exact h.off k (by rw [← r4]; exact e)
 ·rw [r4] at e
  injection e with e
  have e2:(W.alloc (.cells #[.slice a0 m0 c0] 51)).heap.size=W.heap.size+1:=by simp
  exact ⟨fun g=>by have:=hF _ g; omega,fun g=>by have:=hM _ g; omega⟩
end Go.Proofs.YthehbckogieimaaGreat
