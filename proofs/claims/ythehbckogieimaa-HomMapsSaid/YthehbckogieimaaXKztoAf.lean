/- Lemmas and contracts on the way to the statement; no condition of their own beyond those written. -/
import Derived.Test.YthehbckogieimaaXKttoKy
import Derived.RangeFuncWrites
import Derived.RangeFuncNested
import Derived.RangeFuncBox
import Derived.RangeFuncLeaves
import Derived.Shelf.Abstract
import Derived.OwnWalkIn
import Derived.TacticsInMore
import Derived.LoopNIn
import Derived.LoopIn
import Derived.Maps.AppendAt
import Derived.Sort.CutIn
import Derived.Deep.CutRange
import Derived.Deep.CutBlock
import Derived.IntWalk
import Derived.Great.BuildSlice
import Derived.ArgAppend
import Derived.Laws.CopyOwn
import Derived.StillTailTactics
import Derived.Deep.MidRow
import Derived.WalkSpells
import Derived.WalkLawsBesides
import Derived.OwnWalk
import Derived.OrdersHeld
import Derived.Deep.OwnRows
import Derived.WalkKit
import Derived.Lib.Hide
import Derived.Laws.OwnMore
import Derived.Test.YthehbckogieimaaProg
import Derived.Outline
import Derived.Deep.DeepFit
import Derived.BigQuiet
import Derived.Deep.QuietTactic
import Derived.Sort.OwnSortedInts
import Derived.WideMake
import Derived.MapKept
import Derived.ChangeMaps5
import Derived.Shelf.Sort.Plain
import Derived.Lib.ConvBytes
import Derived.ChangeKeysEq
import Derived.Laws.Cells
import Derived.Laws.Rows
import Derived.Laws.Tables
import Derived.Deep.WholeRow
import Derived.OrdersIn
import Derived.TacticsIn
import Derived.Deep.LoopGhost
import Derived.Lib.SlicesSearch
set_option linter.unusedVariables false
set_option linter.unusedSimpArgs false
set_option maxRecDepth 100000
set_option maxHeartbeats 8000000
namespace Go.Proofs.Ythehbckogieimaa
open Go.RowKit
open Go.Proofs
open Go.Proofs.Ob
open Go.Proofs.Cm (Gd Gr IsChain)
attribute [local irreducible] Go.Calls Go.wpList
theorem Kzcl0 (args:Array Value) (w:World):(callFunc 40 args).run Try.prog w=.ok (.enter 40 args) w:=by kernel_rfl
theorem Kzcl1 (args:Array Value) (w:World):(callFunc 20 args).run Try.prog w=.ok (.enter 20 args) w:=by kernel_rfl
theorem Kzcl2 (args:Array Value) (w:World):(callFunc 21 args).run Try.prog w=.ok (.enter 21 args) w:=by kernel_rfl
theorem Kzcl3 (args:Array Value) (w:World):(callFunc 8 args).run Try.prog w=.ok (.enter 8 args) w:=by kernel_rfl
theorem PcF.pos {D:Int} {ll:List (List Int)} {N:Nat} {gs:List (List Nat)} (hp:PcF D ll N gs):∀ i,i<N→1≤((pO D ll).getD i []).length:=fun i hiN=>by
 have hi:i<(pOR D ll).1.length:=by rw [hp.ch.lenO]; exact hiN
 have hm:i∈(pOR D ll).1.getD i []:=(hp.ch.orb i i hiN).2 ⟨Ma.oneN N,⟨.one,Cm.Fx.one (by omega)⟩,Cm.ap_one hiN⟩;rw [List.getD_eq_getElem?_getD,List.getElem?_eq_getElem hi] at hm;unfold pO;rw [List.getD_eq_getElem?_getD,List.getElem?_map,List.getElem?_eq_getElem hi];simp only [Option.map_some,Option.getD_some,Ma.len_ofN];exact List.length_pos_of_mem hm
theorem hpairs_ok {n m:Nat} {A B:List (List Nat)} {gv hv:Value} {L M:List (List Int)} {w:World} (h:Rg.Rows w gv L) (h':Rg.Rows w hv M) (hm:HomG ((n:Nat):Int) ((m:Nat):Int) L M n m A B) :
  Calls Try.prog 40 #[.agg #[.int .i64 ((n:Nat):Int),gv],.agg #[.int .i64 ((m:Nat):Int),hv]] w fun ed w'=>∃ oa oc ra rc,ed=.returned (.agg #[.int .i64 (((n:Nat):Int)+((m:Nat):Int)),.slice oa (n+m) oc,.slice ra (n+m) rc])∧ChEqR w' (.slice oa (n+m) oc) (.slice ra (n+m) rc) (pO (((n:Nat):Int)+((m:Nat):Int)) (prL L M)) (pR (((n:Nat):Int)+((m:Nat):Int)) (prL L M))∧(∃ N gs,PcF (((n:Nat):Int)+((m:Nat):Int)) (prL L M) N gs)∧Below w.heap.size w w':=by
 refine (hpairs_any h h' hm).mono ?_;rintro ed w' ⟨cv,rfl,h1,h2⟩;rw [hm.mk0] at h1;obtain ⟨oa,oc,ra,rc,rfl,h3,N,gs,h4⟩:=h1.ans.pc
 have hN:N=n+m:=by have:=h4.dn; omega
 have e1:(pO (((n:Nat):Int)+((m:Nat):Int)) (prL L M)).length=n+m:=by rw [h4.lenO,hN]
 have e2:(pR (((n:Nat):Int)+((m:Nat):Int)) (prL L M)).length=n+m:=by rw [h4.lenR,hN]
 rw [e1,e2] at h3 ⊢;exact ⟨oa,oc,ra,rc,rfl,h3,⟨N,gs,h4⟩,h2⟩
theorem his_any {n m:Nat} {A B:List (List Nat)} {gv hv:Value} {L M:List (List Int)} {w:World} (h:Rg.Rows w gv L) (h':Rg.Rows w hv M) (hm:HomG ((n:Nat):Int) ((m:Nat):Int) L M n m A B) :
  Calls Try.prog 21 #[.agg #[.int .i64 ((n:Nat):Int),gv],.agg #[.int .i64 ((m:Nat):Int),hv]] w (DfPost (dfB n (pO (((n:Nat):Int)+((m:Nat):Int)) (prL L M))) w):=by
 obtain ⟨ga,gc,rfl,-⟩:=h.shape;obtain ⟨ha,hc,rfl,-⟩:=h'.shape;have HG:=ι h;have HH:=ι h';have K:=ι (Below.refl w.heap.size w);clear h h';have HM:=ι hm;have HNM:=ι hm.nm;clear hm
 go_enter Try.func21,Try.ntmps21
 go_upto_region 0 with (fail);refine Rg.wl ?_;have hbx:=box2t w (.int .i64 ((n:Nat):Int)) (.slice ga L.length gc) 24;refine Rg.lr 2 (Rg.exec_box _ _ rfl rfl) ?_;go_frame;have hb:=(Below.refl w.heap.size w).alloc (Nat.le_refl _) (.cells #[.int .i64 ((n:Nat):Int),.slice ga L.length gc] 24);generalize w.alloc (.cells #[.int .i64 ((n:Nat):Int),.slice ga L.length gc] 24)=w1 at *;replace HG:=ι (HG.out.below hb);replace HH:=ι (HH.out.below hb);replace K:=ι (Rg.acc K.out hb);clear hb;have G0:=ι hbx.1;have G1:=ι hbx.2;clear hbx;have hbx:=box2t w1 (.int .i64 ((m:Nat):Int)) (.slice ha M.length hc) 24;refine Rg.lr 3 (Rg.exec_box _ _ rfl rfl) ?_;go_frame;have hb:=(Below.refl w1.heap.size w1).alloc (Nat.le_refl _) (.cells #[.int .i64 ((m:Nat):Int),.slice ha M.length hc] 24);generalize w1.alloc (.cells #[.int .i64 ((m:Nat):Int),.slice ha M.length hc] 24)=w2 at *
 replace HG:=ι (HG.out.below hb);replace HH:=ι (HH.out.below hb);replace G0:=ι (G0.out.below hb);replace G1:=ι (G1.out.below hb);replace K:=ι (Rg.acc K.out hb);clear hb;have H0:=ι hbx.1;have H1:=ι hbx.2;clear hbx;refine Rg.la 4 (.bool false) ?_;go_frame;go_upto_region 1 with (fail);refine Rg.wl ?_;refine Rg.lr 7 (Rg.exec_load (v:=.agg #[.int .i64 ((n:Nat):Int),.slice ga L.length gc]) _ _ rfl ⟨w.heap.size,0,none⟩ rfl (run_loadG G0.out.cell G1.out.cell)) ?_;go_frame;refine Rg.lr 8 (Rg.exec_load (v:=.agg #[.int .i64 ((m:Nat):Int),.slice ha M.length hc]) _ _ rfl ⟨w1.heap.size,0,none⟩ rfl (run_loadG H0.out.cell H1.out.cell)) ?_;go_frame;refine list_ask (some 9) rfl rfl _ _ (exec_fn 40 _ _ _ rfl rfl rfl (Kzcl0 _ _)) ?_;refine (hpairs_ok HG.out HH.out HM.out).mono ?_;rintro e1 w3 ⟨oa,oc,ra,rc,rfl,hce,hpx,hb⟩;obtain ⟨N,gs,hpc⟩:=hpx;have HPC:=ι hpc;clear hpc
 refine ⟨_,rfl,?_⟩;go_frame;replace HG:=ι (HG.out.below hb);replace HH:=ι (HH.out.below hb);replace G0:=ι (G0.out.below hb);replace G1:=ι (G1.out.below hb);replace H0:=ι (H0.out.below hb);replace H1:=ι (H1.out.below hb);replace K:=ι (Rg.acc K.out hb);clear hb;have CE:=ι hce;refine Rg.lr 5 (exec_allocC rfl) ?_;go_frame;refine Rg.list_skip none rfl rfl (Rg.exec_store _ _ _ rfl _ rfl _ rfl (run_storeC _ _ _ _ _ _ _ (Tri.new w3 (.int .i64 0) (.slice none 0 0) (.slice none 0 0)))) ?_;go_frame;have htn:=(Tri.new w3 (.int .i64 0) (.slice none 0 0) (.slice none 0 0)).set (.int .i64 (((n:Nat):Int)+((m:Nat):Int))) (.slice oa (n+m) oc) (.slice ra (n+m) rc);have hb:=((((Below.refl w3.heap.size w3).alloc (Nat.le_refl _) (.cells #[.int .i64 0,.slice none 0 0,.slice none 0 0] 33)).setCell (p:=⟨w3.heap.size,0,none⟩) (Nat.le_refl _) (.int .i64 (((n:Nat):Int)+((m:Nat):Int)))).setCell (p:=⟨w3.heap.size,1,none⟩) (Nat.le_refl _) (.slice oa (n+m) oc)).setCell (p:=⟨w3.heap.size,2,none⟩) (Nat.le_refl _) (.slice ra (n+m) rc)
 generalize (((w3.alloc (.cells #[.int .i64 0,.slice none 0 0,.slice none 0 0] 33)).setCell ⟨w3.heap.size,0,none⟩ (.int .i64 (((n:Nat):Int)+((m:Nat):Int)))).setCell ⟨w3.heap.size,1,none⟩ (.slice oa (n+m) oc)).setCell ⟨w3.heap.size,2,none⟩ (.slice ra (n+m) rc)=w4 at *;replace HG:=ι (HG.out.below hb);replace HH:=ι (HH.out.below hb);replace G0:=ι (G0.out.below hb);replace G1:=ι (G1.out.below hb);replace H0:=ι (H0.out.below hb);replace H1:=ι (H1.out.below hb);replace CE:=ι (CE.out.below hb);replace K:=ι (Rg.acc K.out hb);clear hb;have S1:=ι htn;clear htn;go_upto_region 2 with (fail);refine Rg.wl ?_;refine Rg.lr 10 (exec_fieldG0 _ rfl rfl) ?_;go_frame;refine Rg.lr 11 (Rg.exec_load (v:=.int .i64 ((n:Nat):Int)) _ _ rfl ⟨w.heap.size,0,none⟩ rfl (run_loadInt G0.out.cell)) ?_;go_frame;refine Rg.la 6 (.int .i64 ((n:Nat):Int)) ?_;go_frame;clear hce
 obtain ⟨OO,hOO⟩:∃ l,Hid (pO (((n:Nat):Int)+((m:Nat):Int)) (prL L M)=l):=⟨_,ι rfl⟩;have HON:=ι (show OO.length=n+m by rw [← hOO.out,HPC.out.lenO]; have:=HPC.out.dn; omega);have HPOS:=ι (show ∀ i,i<n+m→1≤(OO.getD i []).length by rw [← hOO.out]; intro i hi; exact HPC.out.pos i (by have:=HPC.out.dn; omega));rw [hOO.out] at CE ⊢;have CO:=ι CE.out.1;have K1:=ι (Below.refl w4.heap.size w4);have HS:=ι (show ∀ i (hi:n+i<OO.length),i<0→OO[n+i].length≤1 from fun i _ h=>absurd h (Nat.not_lt_zero _));go_wp2
 go_loopw [6] (fun iv wr=>∃ i:Nat,iv=.int .i64 (((n+i):Nat):Int)∧i≤m∧Hid (∀ j (hj:n+j<OO.length),j<i→OO[n+j].length≤1)∧Hid (Below w4.heap.size w4 wr)) (fun iv _=>n+m - (intOf iv).toNat)
 case atStart=>exact ⟨0,rfl,Nat.zero_le _,HS,K1⟩
 case round =>
  clear K1 HS;obtain ⟨i,rfl,hi,HS,K1⟩:=hrel;generalize wr=wd at *;have hnm:n+m≤64:=HNM.out;have KT:=ι (show Below w.heap.size w wd from K.out.trans (K1.out.mono K.out.size))
  by_cases him:i<m
  case neg =>
   have HV:=ι (show dfB n OO=true from dfB_yes (fun j hj=>HS.out j hj (by have:=HON.out; omega)));go_upto_region 3 with (fail);refine Rg.wl ?_;refine Rg.lm 12 (.int .i64 (((n+i):Nat):Int)) ?_;go_frame;refine Rg.lr 13 (exec_field _ rfl rfl (chF0 _ _)) ?_;go_frame;refine Rg.lr 14 (Rg.exec_load (v:=.int .i64 (((n:Nat):Int)+((m:Nat):Int))) _ _ rfl ⟨w3.heap.size,0,none⟩ rfl (run_loadInt ((Below.cell (p:=⟨w3.heap.size,0,none⟩) K1.out S1.out.lt).trans S1.out.c0))) ?_;go_frame;refine Rg.lr 15 (exec_bin (R:=.bool false) .lss _ _ _ rfl rfl rfl (b_lss _ (decide_eq_false (by omega)))) ?_;go_frame;go_upto_region 7 with (fail);refine Rg.wl ?_;refine Rg.la 4 (.bool true) ?_;go_frame;go_wp2;go_ret;exact ⟨by rw [hOO.out,HV.out]; rfl,KT.out⟩
  case pos =>
   have HIM:=ι him;have HNI:=ι (show n+i<OO.length by have:=HON.out; omega)
   have hnim:n+i<n+m:=by omega
   obtain ⟨ob,oo,ua,uc,e1,hob,hoc,hoi⟩:=rowsI_get CO.out HNI.out;subst e1;obtain ⟨l,hll⟩:∃ l,Hid (OO[n+i]'HNI.out=l):=⟨_,ι rfl⟩;rw [hll.out] at hoc hoi;have CU:=ι (CL.mk hoc hob)
   have hl1:1≤l.length:=by
    have h5:=HPOS.out (n+i) hnim;rw [List.getD_eq_getElem?_getD,List.getElem?_eq_getElem HNI.out,Option.getD_some,hll.out] at h5;exact h5
   clear hoc hob hoi
   by_cases h1:1<l.length
   case pos =>
    have HV:=ι (show dfB n OO=false from dfB_no HNI.out (by rw [hll.out]; exact h1));go_upto_region 3 with (fail);refine Rg.wl ?_;refine Rg.lm 12 (.int .i64 (((n+i):Nat):Int)) ?_;go_frame;refine Rg.lr 13 (exec_field _ rfl rfl (chF0 _ _)) ?_;go_frame;refine Rg.lr 14 (Rg.exec_load (v:=.int .i64 (((n:Nat):Int)+((m:Nat):Int))) _ _ rfl ⟨w3.heap.size,0,none⟩ rfl (run_loadInt ((Below.cell (p:=⟨w3.heap.size,0,none⟩) K1.out S1.out.lt).trans S1.out.c0))) ?_;go_frame;refine Rg.lr 15 (exec_bin (R:=.bool true) .lss _ _ _ rfl rfl rfl (b_lss _ (decide_eq_true (by omega)))) ?_;go_frame;go_upto_region 5 with (fail);refine Rg.wl ?_;refine Rg.lr 18 (exec_field _ rfl rfl (chF1 _ _)) ?_;go_frame;refine Rg.lr 19 (Rg.exec_load (v:=.slice (some ⟨ob,oo,none⟩) (n+m) oc) _ _ rfl ⟨w3.heap.size,1,none⟩ rfl (Rg.run_loadSl _ _ Try.underlying30 ((Below.cell (p:=⟨w3.heap.size,1,none⟩) K1.out S1.out.lt).trans S1.out.c1))) ?_;go_frame
    refine Rg.lm 20 (.int .i64 (((n+i):Nat):Int)) ?_;go_frame;refine Rg.lr 21 (exec_indexS slIntss _ _ rfl ob (oo) ((n+m)) oc ((n+i)) rfl rfl (by omega)) ?_;go_frame;refine Rg.lr 22 (Rg.exec_load (v:=.slice ua l.length uc) _ _ rfl ⟨ob,oo+(n+i),none⟩ rfl (Rg.run_loadSl _ _ Try.underlying38 ((Below.cell (p:=⟨ob,oo+(n+i),none⟩) K1.out CU.out.lt).trans CU.out.cell))) ?_;go_frame;refine Rg.lr 23 (exec_len _ _ _ rfl Try.underlying38 _ _ _ rfl) ?_;go_frame;refine Rg.lr 24 (exec_bin (R:=.bool true) .neq _ _ _ rfl rfl rfl (b_neqB _ (decide_eq_true (by omega)))) ?_;go_frame;go_upto_region 6 with (fail);refine Rg.wl ?_;refine Rg.la 4 (.bool false) ?_;go_frame;go_wp2;go_ret;exact ⟨by rw [hOO.out,HV.out]; rfl,KT.out⟩
   case neg =>
    have HS2:=ι (show ∀ j (hj:n+j<OO.length),j<i+1→OO[n+j].length≤1 from fun j hj h=>by
     by_cases e:j=i
     ·subst e; rw [hll.out]; omega
     ·exact HS.out j hj (by omega))
    go_upto_region 3 with (fail);refine Rg.wl ?_;refine Rg.lm 12 (.int .i64 (((n+i):Nat):Int)) ?_;go_frame;refine Rg.lr 13 (exec_field _ rfl rfl (chF0 _ _)) ?_;go_frame;refine Rg.lr 14 (Rg.exec_load (v:=.int .i64 (((n:Nat):Int)+((m:Nat):Int))) _ _ rfl ⟨w3.heap.size,0,none⟩ rfl (run_loadInt ((Below.cell (p:=⟨w3.heap.size,0,none⟩) K1.out S1.out.lt).trans S1.out.c0))) ?_;go_frame;refine Rg.lr 15 (exec_bin (R:=.bool true) .lss _ _ _ rfl rfl rfl (b_lss _ (decide_eq_true (by omega)))) ?_;go_frame;go_upto_region 5 with (fail);refine Rg.wl ?_;refine Rg.lr 18 (exec_field _ rfl rfl (chF1 _ _)) ?_;go_frame;refine Rg.lr 19 (Rg.exec_load (v:=.slice (some ⟨ob,oo,none⟩) (n+m) oc) _ _ rfl ⟨w3.heap.size,1,none⟩ rfl (Rg.run_loadSl _ _ Try.underlying30 ((Below.cell (p:=⟨w3.heap.size,1,none⟩) K1.out S1.out.lt).trans S1.out.c1))) ?_;go_frame;refine Rg.lm 20 (.int .i64 (((n+i):Nat):Int)) ?_;go_frame
    refine Rg.lr 21 (exec_indexS slIntss _ _ rfl ob (oo) ((n+m)) oc ((n+i)) rfl rfl (by omega)) ?_;go_frame;refine Rg.lr 22 (Rg.exec_load (v:=.slice ua l.length uc) _ _ rfl ⟨ob,oo+(n+i),none⟩ rfl (Rg.run_loadSl _ _ Try.underlying38 ((Below.cell (p:=⟨ob,oo+(n+i),none⟩) K1.out CU.out.lt).trans CU.out.cell))) ?_;go_frame;refine Rg.lr 23 (exec_len _ _ _ rfl Try.underlying38 _ _ _ rfl) ?_;go_frame;refine Rg.lr 24 (exec_bin (R:=.bool false) .neq _ _ _ rfl rfl rfl (b_neqB _ (decide_eq_false (by omega)))) ?_;go_frame;go_upto_region 4 with (fail);refine Rg.wl ?_;refine Rg.lm 16 (.int .i64 (((n+i):Nat):Int)) ?_;go_frame;refine Rg.lr 17 (exec_bin (R:=.int .i64 (((n+(i+1)):Nat):Int)) .add _ _ _ rfl rfl rfl (b_add _ (by omega) (by omega))) ?_;go_frame;refine Rg.lr 6 (Rg.exec_assign (v:=.int .i64 (((n+(i+1)):Nat):Int)) _ rfl rfl) ?_;go_frame;go_wp2
    go_roundw
    case rel=>exact ⟨i+1,by go_num,HIM.out,HS2,K1⟩
    case measure=>simp [intOf]; have:=HIM.out; omega
theorem hIs_any {d e:Int} {gv hv:Value} {L M:List (List Int)} {w:World} (h:Rg.Rows w gv L) (h':Rg.Rows w hv M) :
  Calls Try.prog 8 #[.agg #[.int .i64 d,gv],.agg #[.int .i64 e,hv]] w (IsPost d e L M w):=by
 obtain ⟨ga,gc,rfl,-⟩:=h.shape;obtain ⟨ha,hc,rfl,-⟩:=h'.shape;have HG:=ι h;have HH:=ι h';have K:=ι (Below.refl w.heap.size w);clear h h'
 go_enter Try.func8,Try.ntmps8
 go_upto_region 0 with (fail);refine Rg.wl ?_;have hbx:=box2t w (.int .i64 d) (.slice ga L.length gc) 24;refine Rg.lr 2 (Rg.exec_box _ _ rfl rfl) ?_;go_frame;have hb:=(Below.refl w.heap.size w).alloc (Nat.le_refl _) (.cells #[.int .i64 d,.slice ga L.length gc] 24);generalize w.alloc (.cells #[.int .i64 d,.slice ga L.length gc] 24)=w1 at *;replace HG:=ι (HG.out.below hb);replace HH:=ι (HH.out.below hb);replace K:=ι (Rg.acc K.out hb);clear hb;have G0:=ι hbx.1;have G1:=ι hbx.2;clear hbx;have hbx:=box2t w1 (.int .i64 e) (.slice ha M.length hc) 24;refine Rg.lr 3 (Rg.exec_box _ _ rfl rfl) ?_;go_frame;have hb:=(Below.refl w1.heap.size w1).alloc (Nat.le_refl _) (.cells #[.int .i64 e,.slice ha M.length hc] 24);generalize w1.alloc (.cells #[.int .i64 e,.slice ha M.length hc] 24)=w2 at *;replace HG:=ι (HG.out.below hb);replace HH:=ι (HH.out.below hb);replace G0:=ι (G0.out.below hb)
 replace G1:=ι (G1.out.below hb);replace K:=ι (Rg.acc K.out hb);clear hb;have H0:=ι hbx.1;have H1:=ι hbx.2;clear hbx;refine Rg.la 4 (.bool false) ?_;go_frame;refine Rg.la 5 (.int .i64 0) ?_;go_frame;obtain ⟨c,hc0⟩:∃ c,Hid (homC d e L M=c):=⟨_,ι rfl⟩;go_upto_region 1 with (fail);refine Rg.wl ?_;refine Rg.lr 7 (Rg.exec_load (v:=.agg #[.int .i64 d,.slice ga L.length gc]) _ _ rfl ⟨w.heap.size,0,none⟩ rfl (run_loadG G0.out.cell G1.out.cell)) ?_;go_frame;refine Rg.lr 8 (Rg.exec_load (v:=.agg #[.int .i64 e,.slice ha M.length hc]) _ _ rfl ⟨w1.heap.size,0,none⟩ rfl (run_loadG H0.out.cell H1.out.cell)) ?_;go_frame;refine list_ask (some 9) rfl rfl _ _ (exec_fn 20 _ _ _ rfl rfl rfl (Kzcl1 _ _)) ?_;refine (hcheck_any HG.out HH.out).mono ?_;rintro e1 w3 ⟨rfl,hb⟩;rw [hc0.out];refine ⟨_,rfl,?_⟩;go_frame;replace HG:=ι (HG.out.below hb);replace HH:=ι (HH.out.below hb);replace G0:=ι (G0.out.below hb)
 replace G1:=ι (G1.out.below hb);replace H0:=ι (H0.out.below hb);replace H1:=ι (H1.out.below hb);replace K:=ι (Rg.acc K.out hb);clear hb;refine Rg.la 6 (.int .i64 c) ?_;go_frame
 by_cases h0:c=0
 case neg =>
  have HR:=ι (show isB d e L M=false by unfold isB; rw [if_neg (by rw [hc0.out]; exact h0)]);go_upto_region 2 with (fail);refine Rg.wl ?_;refine Rg.lm 10 (.int .i64 c) ?_;go_frame;refine Rg.lr 11 (exec_bin (R:=.bool true) .neq _ _ _ rfl rfl rfl (b_neqB _ (decide_eq_true h0))) ?_;go_frame;go_upto_region 3 with (fail);refine Rg.wl ?_;refine Rg.lm 12 (.int .i64 c) ?_;go_frame;refine Rg.la 4 (.bool false) ?_;go_frame;refine Rg.la 5 (.int .i64 c) ?_;go_frame;go_wp2
  go_ret2
  exact ⟨by rw [HR.out,hc0.out]; rfl,K.out⟩
 case pos =>
  have HZ:=ι (hc0.out.trans h0);obtain ⟨n,m,A,B,hmg⟩:=homC_get HZ.out;obtain rfl:=hmg.dn;obtain rfl:=hmg.em;have HMG:=ι hmg;obtain ⟨bd,hbd⟩:∃ b,Hid (dfB n (pO (((n:Nat):Int)+((m:Nat):Int)) (prL L M))=b):=⟨_,ι rfl⟩;have HR:=ι (show isB ((n:Nat):Int) ((m:Nat):Int) L M=bd by unfold isB; rw [if_pos HZ.out,Int.toNat_natCast,hbd.out]);clear hmg;go_upto_region 2 with (fail);refine Rg.wl ?_;refine Rg.lm 10 (.int .i64 c) ?_;go_frame;refine Rg.lr 11 (exec_bin (R:=.bool false) .neq _ _ _ rfl rfl rfl (b_neqB _ (decide_eq_false (fun q=>q h0)))) ?_;go_frame;go_upto_region 4 with (fail);refine Rg.wl ?_;refine Rg.lr 13 (Rg.exec_load (v:=.agg #[.int .i64 ((n:Nat):Int),.slice ga L.length gc]) _ _ rfl ⟨w.heap.size,0,none⟩ rfl (run_loadG G0.out.cell G1.out.cell)) ?_;go_frame;refine Rg.lr 14 (Rg.exec_load (v:=.agg #[.int .i64 ((m:Nat):Int),.slice ha M.length hc]) _ _ rfl ⟨w1.heap.size,0,none⟩ rfl (run_loadG H0.out.cell H1.out.cell)) ?_;go_frame
  refine list_ask (some 15) rfl rfl _ _ (exec_fn 21 _ _ _ rfl rfl rfl (Kzcl2 _ _)) ?_;refine (his_any HG.out HH.out HMG.out).mono ?_;rintro e1 w14 ⟨rfl,hb⟩;rw [hbd.out];refine ⟨_,rfl,?_⟩;go_frame;replace HG:=ι (HG.out.below hb);replace HH:=ι (HH.out.below hb);replace G0:=ι (G0.out.below hb);replace G1:=ι (G1.out.below hb);replace H0:=ι (H0.out.below hb);replace H1:=ι (H1.out.below hb);replace K:=ι (Rg.acc K.out hb);clear hb;refine Rg.la 4 (.bool bd) ?_;go_frame;refine Rg.la 5 (.int .i64 ((0:Nat):Int)) ?_;go_frame;go_wp2
  go_ret2
  exact ⟨by rw [HR.out,HZ.out]; rfl,K.out⟩
def VaPost (d e:Int) (L M:List (List Int)) (w:World) (ed:Ending) (w':World):Prop:=ed=.returned (.int .i64 (rtC d e L M))∧Below w.heap.size w w'
theorem hvalid_any {d e:Int} {gv hv:Value} {L M:List (List Int)} {w:World} (h:Rg.Rows w gv L) (h':Rg.Rows w hv M) :
  Calls Try.prog 25 #[.agg #[.int .i64 d,gv],.agg #[.int .i64 e,hv]] w (VaPost d e L M w):=by
 obtain ⟨ga,gc,rfl,-⟩:=h.shape;obtain ⟨ha,hc,rfl,-⟩:=h'.shape;have HG:=ι h;have HH:=ι h';have K:=ι (Below.refl w.heap.size w);clear h h'
 go_enter Try.func25,Try.ntmps25
 go_upto_region 0 with (fail);refine Rg.wl ?_;have hbx:=box2t w (.int .i64 d) (.slice ga L.length gc) 24;refine Rg.lr 2 (Rg.exec_box _ _ rfl rfl) ?_;go_frame;have hb:=(Below.refl w.heap.size w).alloc (Nat.le_refl _) (.cells #[.int .i64 d,.slice ga L.length gc] 24);generalize w.alloc (.cells #[.int .i64 d,.slice ga L.length gc] 24)=w1 at *;replace HG:=ι (HG.out.below hb);replace HH:=ι (HH.out.below hb);replace K:=ι (Rg.acc K.out hb);clear hb;have G0:=ι hbx.1;have G1:=ι hbx.2;clear hbx;have hbx:=box2t w1 (.int .i64 e) (.slice ha M.length hc) 24;refine Rg.lr 3 (Rg.exec_box _ _ rfl rfl) ?_;go_frame;have hb:=(Below.refl w1.heap.size w1).alloc (Nat.le_refl _) (.cells #[.int .i64 e,.slice ha M.length hc] 24);generalize w1.alloc (.cells #[.int .i64 e,.slice ha M.length hc] 24)=w2 at *;replace HG:=ι (HG.out.below hb);replace HH:=ι (HH.out.below hb);replace G0:=ι (G0.out.below hb)
 replace G1:=ι (G1.out.below hb);replace K:=ι (Rg.acc K.out hb);clear hb;have H0:=ι hbx.1;have H1:=ι hbx.2;clear hbx;refine Rg.la 4 (.int .i64 0) ?_;go_frame;obtain ⟨c,hc0⟩:∃ c,Hid (homC d e L M=c):=⟨_,ι rfl⟩;obtain ⟨bi,hbi⟩:∃ c,Hid (isB d e L M=c):=⟨_,ι rfl⟩;go_upto_region 1 with (fail);refine Rg.wl ?_;refine Rg.lr 8 (Rg.exec_load (v:=.agg #[.int .i64 d,.slice ga L.length gc]) _ _ rfl ⟨w.heap.size,0,none⟩ rfl (run_loadG G0.out.cell G1.out.cell)) ?_;go_frame;refine Rg.lr 9 (Rg.exec_load (v:=.agg #[.int .i64 e,.slice ha M.length hc]) _ _ rfl ⟨w1.heap.size,0,none⟩ rfl (run_loadG H0.out.cell H1.out.cell)) ?_;go_frame;refine list_ask (some 10) rfl rfl _ _ (exec_fn 8 _ _ _ rfl rfl rfl (Kzcl3 _ _)) ?_;refine (hIs_any HG.out HH.out).mono ?_;rintro e1 w3 ⟨rfl,hb⟩;rw [hbi.out,hc0.out];refine ⟨_,rfl,?_⟩;go_frame;replace HG:=ι (HG.out.below hb);replace HH:=ι (HH.out.below hb)
 replace G0:=ι (G0.out.below hb);replace G1:=ι (G1.out.below hb);replace H0:=ι (H0.out.below hb);replace H1:=ι (H1.out.below hb);replace K:=ι (Rg.acc K.out hb);clear hb;refine Rg.lm 7 (.tuple #[.bool bi,.int .i64 c]) ?_;go_frame;refine Rg.lr 11 (exec_extract (v:=.bool bi) _ _ rfl rfl rfl) ?_;go_frame;refine Rg.lr 12 (exec_extract (v:=.int .i64 c) _ _ rfl rfl rfl) ?_;go_frame;refine Rg.la 5 (.bool bi) ?_;go_frame;refine Rg.la 6 (.int .i64 c) ?_;go_frame
 by_cases h0:c=0
 case neg =>
  have HR:=ι (show rtC d e L M=c by rw [rtC_bad (by rw [hc0.out]; exact h0),hc0.out]);go_upto_region 2 with (fail);refine Rg.wl ?_;refine Rg.lm 13 (.int .i64 c) ?_;go_frame;refine Rg.lr 14 (exec_bin (R:=.bool false) .eql _ _ _ rfl rfl rfl (b_eql _ (decide_eq_false h0))) ?_;go_frame;refine Rg.lm 15 (.bool false) ?_;go_frame;refine listW_pass (some 16) (by kernel_rfl) rfl ?_;go_frame;refine listW_pass (some 17) (by kernel_rfl) rfl ?_;go_frame;refine Rg.lr 18 (exec_pickF (v:=.bool false) _ _ _ rfl rfl rfl) ?_;go_frame;go_upto_region 4 with (fail);refine Rg.wl ?_;refine Rg.lm 19 (.int .i64 c) ?_;go_frame;refine Rg.la 4 (.int .i64 c) ?_;go_frame;go_wp2;go_ret;exact ⟨by rw [HR.out]; rfl,K.out⟩
 case pos =>
  have HZ:=ι (hc0.out.trans h0);have HB:=ι (show dfB d.toNat (pO (d+e) (prL L M))=bi by rw [← hbi.out]; unfold isB; rw [if_pos HZ.out])
  cases bi
  case false =>
   have HR:=ι (rtC_no HZ.out HB.out);go_upto_region 2 with (fail);refine Rg.wl ?_;refine Rg.lm 13 (.int .i64 c) ?_;go_frame;refine Rg.lr 14 (exec_bin (R:=.bool true) .eql _ _ _ rfl rfl rfl (b_eql _ (decide_eq_true h0))) ?_;go_frame;refine Rg.lm 15 (.bool true) ?_;go_frame;refine listW_run (some 16) rfl rfl (Rg.xm (.bool false) _ rfl rfl) ?_;go_frame;refine listW_run (some 17) rfl rfl (exec_not _ _ false rfl rfl) ?_;go_frame;refine Rg.lr 18 (exec_pickT (v:=.bool true) _ _ _ rfl rfl rfl) ?_;go_frame;go_upto_region 3 with (fail);refine Rg.wl ?_;refine Rg.la 4 (.int .i64 13) ?_;go_frame;go_wp2;go_ret
   exact ⟨by rw [HR.out]; first | rfl | (rw [h0]; rfl) | (have:=h0; subst this; rfl),K.out⟩
  case true =>
   have HR:=ι (rtC_yes HZ.out HB.out);go_upto_region 2 with (fail);refine Rg.wl ?_;refine Rg.lm 13 (.int .i64 c) ?_;go_frame;refine Rg.lr 14 (exec_bin (R:=.bool true) .eql _ _ _ rfl rfl rfl (b_eql _ (decide_eq_true h0))) ?_;go_frame;refine Rg.lm 15 (.bool true) ?_;go_frame;refine listW_run (some 16) rfl rfl (Rg.xm (.bool true) _ rfl rfl) ?_;go_frame;refine listW_run (some 17) rfl rfl (exec_not _ _ true rfl rfl) ?_;go_frame;refine Rg.lr 18 (exec_pickT (v:=.bool false) _ _ _ rfl rfl rfl) ?_;go_frame;go_upto_region 4 with (fail);refine Rg.wl ?_;refine Rg.lm 19 (.int .i64 c) ?_;go_frame;refine Rg.la 4 (.int .i64 c) ?_;go_frame;go_wp2;go_ret
   exact ⟨by rw [HR.out]; first | rfl | (rw [h0]; rfl) | (have:=h0; subst this; rfl),K.out⟩

theorem Accl2 (args:Array Value) (w:World):(callFunc 25 args).run Try.prog w=.ok (.enter 25 args) w:=by kernel_rfl
theorem Accl3 (args:Array Value) (w:World):(callFunc 26 args).run Try.prog w=.ok (.enter 26 args) w:=by kernel_rfl
theorem Accl4 (args:Array Value) (w:World):(callFunc 10 args).run Try.prog w=.ok (.enter 10 args) w:=by kernel_rfl
theorem bhY_step {m t:Nat} {x:List Int} (h:m+t<x.length):(bhY m x).take (t+1)=(bhY m x).take t++[x[m+t] - ((m:Nat):Int)]:=by
 have h2:t<(bhY m x).length:=by unfold bhY; rw [List.length_map,List.length_drop]; omega
 rw [List.take_add_one,List.getElem?_eq_getElem h2]
 congr 1
 unfold bhY;simp
theorem bhY_len {m n:Nat} {x:List Int} (h:x.length=m+n):(bhY m x).length=n:=by
 unfold bhY; rw [List.length_map,List.length_drop]; omega
def KnPost (n:Nat) (PL:List (List Int)) (w:World) (ed:Ending) (w':World):Prop:=∃ cv,ed=.returned cv∧ChAnsF w.heap.size w' ((n:Nat):Int) PL cv (mkchk ((n:Nat):Int) PL)∧Below w.heap.size w w'
theorem hkernel_any {n m:Nat} {A B:List (List Nat)} {gv hv:Value} {L M:List (List Int)} {w:World} (h:Rg.Rows w gv L) (h':Rg.Rows w hv M) (hm:HomG ((n:Nat):Int) ((m:Nat):Int) L M n m A B) :
  Calls Try.prog 26 #[.agg #[.int .i64 ((n:Nat):Int),gv],.agg #[.int .i64 ((m:Nat):Int),hv]] w (KnPost n (bhL m (pR (((m:Nat):Int)+((n:Nat):Int)) (prL M L))) w):=by
 obtain ⟨ga,gc,rfl,-⟩:=h.shape;obtain ⟨ha,hc,rfl,-⟩:=h'.shape;have HG:=ι h;have HH:=ι h';have K:=ι (Below.refl w.heap.size w);clear h h';have HM:=ι hm.swap;have HN1:=ι hm.n1;have HNM:=ι hm.nm;clear hm
 go_enter Try.func26,Try.ntmps26
 go_upto_region 0 with (fail);refine Rg.wl ?_;have hbx:=box2t w (.int .i64 ((n:Nat):Int)) (.slice ga L.length gc) 24;refine Rg.lr 2 (Rg.exec_box _ _ rfl rfl) ?_;go_frame;have hb:=(Below.refl w.heap.size w).alloc (Nat.le_refl _) (.cells #[.int .i64 ((n:Nat):Int),.slice ga L.length gc] 24);generalize w.alloc (.cells #[.int .i64 ((n:Nat):Int),.slice ga L.length gc] 24)=w1 at *;replace HG:=ι (HG.out.below hb);replace HH:=ι (HH.out.below hb);replace K:=ι (Rg.acc K.out hb);clear hb;have G0:=ι hbx.1;have G1:=ι hbx.2;clear hbx;have hbx:=box2t w1 (.int .i64 ((m:Nat):Int)) (.slice ha M.length hc) 24;refine Rg.lr 3 (Rg.exec_box _ _ rfl rfl) ?_;go_frame;have hb:=(Below.refl w1.heap.size w1).alloc (Nat.le_refl _) (.cells #[.int .i64 ((m:Nat):Int),.slice ha M.length hc] 24);generalize w1.alloc (.cells #[.int .i64 ((m:Nat):Int),.slice ha M.length hc] 24)=w2 at *
 replace HG:=ι (HG.out.below hb);replace HH:=ι (HH.out.below hb);replace G0:=ι (G0.out.below hb);replace G1:=ι (G1.out.below hb);replace K:=ι (Rg.acc K.out hb);clear hb;have H0:=ι hbx.1;have H1:=ι hbx.2;clear hbx;have HTDL:=ι (show w.heap.size≤w2.heap.size from K.out.size);have hnew:=Tri.new w2 (.int .i64 0) (.slice none 0 0) (.slice none 0 0);refine Rg.lr 4 (exec_allocC rfl) ?_;go_frame;have hb:=(Below.refl w2.heap.size w2).alloc (Nat.le_refl _) (.cells #[.int .i64 0,.slice none 0 0,.slice none 0 0] 33);generalize w2.alloc (.cells #[.int .i64 0,.slice none 0 0,.slice none 0 0] 33)=w3 at *;replace HG:=ι (HG.out.below hb);replace HH:=ι (HH.out.below hb);replace G0:=ι (G0.out.below hb);replace G1:=ι (G1.out.below hb);replace H0:=ι (H0.out.below hb);replace H1:=ι (H1.out.below hb);replace K:=ι (Rg.acc K.out hb);clear hb;have FT:=ι hnew;clear hnew;go_upto_region 1 with (fail)
 refine Rg.wl ?_;refine Rg.lr 13 (Rg.exec_load (v:=.agg #[.int .i64 ((m:Nat):Int),.slice ha M.length hc]) _ _ rfl ⟨w1.heap.size,0,none⟩ rfl (run_loadG H0.out.cell H1.out.cell)) ?_;go_frame;refine Rg.lr 14 (Rg.exec_load (v:=.agg #[.int .i64 ((n:Nat):Int),.slice ga L.length gc]) _ _ rfl ⟨w.heap.size,0,none⟩ rfl (run_loadG G0.out.cell G1.out.cell)) ?_;go_frame;refine list_ask (some 15) rfl rfl _ _ (exec_fn 40 _ _ _ rfl rfl rfl (Kzcl0 _ _)) ?_;refine (hpairs_ok HH.out HG.out HM.out).mono ?_;rintro e1 w4 ⟨oa,oc,ra,rc,rfl,hce,hpx,hb⟩;obtain ⟨N,gs,hpc⟩:=hpx;have HRP:=ι (HM.out.reps hpc);clear hpc;refine ⟨_,rfl,?_⟩;go_frame;replace HG:=ι (HG.out.below hb);replace HH:=ι (HH.out.below hb);replace G0:=ι (G0.out.below hb);replace G1:=ι (G1.out.below hb);replace H0:=ι (H0.out.below hb);replace H1:=ι (H1.out.below hb);replace FT:=ι (FT.out.below hb);replace K:=ι (Rg.acc K.out hb)
 clear hb;have CE:=ι hce;refine Rg.lr 5 (exec_allocC rfl) ?_;go_frame;refine Rg.list_skip none rfl rfl (Rg.exec_store _ _ _ rfl _ rfl _ rfl (run_storeC _ _ _ _ _ _ _ (Tri.new w4 (.int .i64 0) (.slice none 0 0) (.slice none 0 0)))) ?_;go_frame;have htn:=(Tri.new w4 (.int .i64 0) (.slice none 0 0) (.slice none 0 0)).set (.int .i64 (((m:Nat):Int)+((n:Nat):Int))) (.slice oa (m+n) oc) (.slice ra (m+n) rc);have hb:=((((Below.refl w4.heap.size w4).alloc (Nat.le_refl _) (.cells #[.int .i64 0,.slice none 0 0,.slice none 0 0] 33)).setCell (p:=⟨w4.heap.size,0,none⟩) (Nat.le_refl _) (.int .i64 (((m:Nat):Int)+((n:Nat):Int)))).setCell (p:=⟨w4.heap.size,1,none⟩) (Nat.le_refl _) (.slice oa (m+n) oc)).setCell (p:=⟨w4.heap.size,2,none⟩) (Nat.le_refl _) (.slice ra (m+n) rc);generalize (((w4.alloc (.cells #[.int .i64 0,.slice none 0 0,.slice none 0 0] 33)).setCell ⟨w4.heap.size,0,none⟩ (.int .i64 (((m:Nat):Int)+((n:Nat):Int)))).setCell ⟨w4.heap.size,1,none⟩ (.slice oa (m+n) oc)).setCell ⟨w4.heap.size,2,none⟩ (.slice ra (m+n) rc)=w5 at *
 replace HG:=ι (HG.out.below hb);replace HH:=ι (HH.out.below hb);replace G0:=ι (G0.out.below hb);replace G1:=ι (G1.out.below hb);replace H0:=ι (H0.out.below hb);replace H1:=ι (H1.out.below hb);replace FT:=ι (FT.out.below hb);replace CE:=ι (CE.out.below hb);replace K:=ι (Rg.acc K.out hb);clear hb;have S1:=ι htn;clear htn;clear hce;obtain ⟨RR,hRR⟩:∃ l,Hid (pR (((m:Nat):Int)+((n:Nat):Int)) (prL M L)=l):=⟨_,ι rfl⟩;rw [hRR.out] at HRP CE ⊢;have HRL:=ι HRP.out.len;obtain ⟨rb,ro,e1,-⟩:=CE.out.2.at' (k:=0) (by have:=HRL.out; have:=HN1.out; omega);subst e1;go_upto_region 2 with (fail);refine Rg.wl ?_;refine Rg.la 6 (.slice none 0 0) ?_;go_frame;go_upto_region 3 with (fail);refine Rg.wl ?_;refine Rg.lr 16 (exec_fieldG0 _ rfl rfl) ?_;go_frame;refine Rg.lr 17 (Rg.exec_load (v:=.int .i64 ((m:Nat):Int)) _ _ rfl ⟨w1.heap.size,0,none⟩ rfl (run_loadInt H0.out.cell)) ?_;go_frame
 refine Rg.la 7 (.int .i64 ((m:Nat):Int)) ?_;go_frame;have K1:=ι (Below.refl w5.heap.size w5);have HR2:=ι CE.out.2;have RP:=ι (show RowP w5.heap.size w5 (.slice none 0 0) (bhT m RR 0) from RowP.nil _ _);have HTL:=ι (fun i=>bhT_len (n:=m) (i:=i) (by have:=HRL.out; have:=HNM.out; omega) HRP.out.r64);clear CE HG HH;go_wp2
 go_loopw [6,7] (fun tv iv wr=>∃ i:Nat,iv=.int .i64 (((m+i):Nat):Int)∧i≤n∧Hid (RowP w5.heap.size wr tv (bhT m RR i))∧Hid (Below w5.heap.size w5 wr)) (fun _ iv _=>m+n - (intOf iv).toNat)
 case atStart=>exact ⟨0,rfl,Nat.zero_le _,RP,K1⟩
 case round =>
  clear K1 RP;obtain ⟨i,rfl,hi,RP,K1⟩:=hrel;generalize wr=wd at *;obtain ⟨ta,tc,rfl⟩:=RP.out.shape;have hnm:n+m≤64:=HNM.out
  by_cases hil:i<n
  case pos =>
   have HIL:=ι hil;have HNI:=ι (show m+i<RR.length by have:=HRL.out; omega);obtain ⟨rb',ro',er,hrb,u,hcu,hu⟩:=HR2.out.at' HNI.out
   injection er with er
   injection er with e5 e6
   subst e5 e6;obtain ⟨r,hr⟩:∃ r:List (List Int),Hid (RR[m+i]'HNI.out=r):=⟨_,ι rfl⟩;rw [hr.out] at hu;obtain ⟨ua,uc,rfl,-⟩:=hu.shape;have CU:=ι (CL.mk hcu hrb);have HU:=ι hu
   have hmem:r∈RR:=by rw [← hr.out]; exact List.getElem_mem _
   have HR64:=ι (HRP.out.r64 r hmem);have HXS:=ι (HRP.out.xl r hmem);have HTN:=ι (show bhT m RR (i+1)=bhT m RR i++r.map (bhY m) by rw [bhT_next HNI.out,hr.out]);clear hcu hrb hu hmem;go_upto_region 4 with (fail);refine Rg.wl ?_;refine Rg.lm 18 (.int .i64 (((m+i):Nat):Int)) ?_;go_frame;refine Rg.lr 19 (exec_field _ rfl rfl (chF0 _ _)) ?_;go_frame;refine Rg.lr 20 (Rg.exec_load (v:=.int .i64 (((m:Nat):Int)+((n:Nat):Int))) _ _ rfl ⟨w4.heap.size,0,none⟩ rfl (run_loadInt ((Below.cell (p:=⟨w4.heap.size,0,none⟩) K1.out S1.out.lt).trans S1.out.c0))) ?_;go_frame;refine Rg.lr 21 (exec_bin (R:=.bool true) .lss _ _ _ rfl rfl rfl (b_lss _ (decide_eq_true (by omega)))) ?_;go_frame;go_upto_region 6 with (fail);refine Rg.wl ?_;refine Rg.la 8 (.int .i64 ((0:Nat):Int)) ?_;go_frame;have RP2:=ι (show RowP w5.heap.size wd (.slice ta (bhT m RR i).length tc) (bhT m RR i++(r.take 0).map (bhY m)) by rw [List.take_zero,List.map_nil,List.append_nil]; exact RP.out)
   clear RP;go_wp2
   go_loopw [6,8] (fun tv kv wr=>∃ k:Nat,kv=.int .i64 ((k:Nat):Int)∧k≤r.length∧Hid (RowP w5.heap.size wr tv (bhT m RR i++(r.take k).map (bhY m)))∧Hid (Below w5.heap.size w5 wr)) (fun _ kv _=>r.length - (intOf kv).toNat)
   case atStart=>exact ⟨0,rfl,Nat.zero_le _,RP2,K1⟩
   case round =>
    clear K1 RP2;obtain ⟨k,rfl,hk,RP,K1⟩:=hrel;generalize wr=we at *;obtain ⟨ta,tc,rfl⟩:=RP.out.shape;have hnm:n+m≤64:=HNM.out;have hr64:r.length≤64:=HR64.out;have him:i<n:=HIL.out
    by_cases hkl:k<r.length
    case neg =>
     have HTK:=ι (show bhT m RR i++(r.take k).map (bhY m)=bhT m RR (i+1) by rw [HTN.out,List.take_of_length_le (by omega)]);rw [HTK.out] at RP ⊢;go_upto_region 7 with (fail);refine Rg.wl ?_;refine Rg.lm 24 (.int .i64 ((k:Nat):Int)) ?_;go_frame;refine Rg.lr 25 (exec_field _ rfl rfl (chF2 _ _)) ?_;go_frame;refine Rg.lr 26 (Rg.exec_load (v:=.slice (some ⟨rb,ro,none⟩) (m+n) rc) _ _ rfl ⟨w4.heap.size,2,none⟩ rfl (Rg.run_loadSl _ _ Try.underlying31 ((Below.cell (p:=⟨w4.heap.size,2,none⟩) K1.out S1.out.lt).trans S1.out.c2))) ?_;go_frame;refine Rg.lm 27 (.int .i64 (((m+i):Nat):Int)) ?_;go_frame;refine Rg.lr 28 (exec_indexS slPermss _ _ rfl rb (ro) ((m+n)) rc ((m+i)) rfl rfl (by omega)) ?_;go_frame;refine Rg.lr 29 (Rg.exec_load (v:=.slice ua r.length uc) _ _ rfl ⟨rb,ro+(m+i),none⟩ rfl (Rg.run_loadSl _ _ Try.underlying22 ((Below.cell (p:=⟨rb,ro+(m+i),none⟩) K1.out CU.out.lt).trans CU.out.cell))) ?_;go_frame
     refine Rg.lr 30 (exec_len _ _ _ rfl Try.underlying22 _ _ _ rfl) ?_;go_frame;refine Rg.lr 31 (exec_bin (R:=.bool false) .lss _ _ _ rfl rfl rfl (b_lss _ (decide_eq_false (by omega)))) ?_;go_frame;go_upto_region 5 with (fail);refine Rg.wl ?_;refine Rg.lm 22 (.int .i64 (((m+i):Nat):Int)) ?_;go_frame;refine Rg.lr 23 (exec_bin (R:=.int .i64 (((m+(i+1)):Nat):Int)) .add _ _ _ rfl rfl rfl (b_add _ (by omega) (by omega))) ?_;go_frame;refine Rg.lr 7 (Rg.exec_assign (v:=.int .i64 (((m+(i+1)):Nat):Int)) _ rfl rfl) ?_;go_frame;go_wp2
     go_roundw
     case rel=>exact ⟨i+1,by go_num,HIL.out,RP,K1⟩
     case measure=>simp [intOf]; have:=HIL.out; omega
    case pos =>
     have HKL:=ι hkl;obtain ⟨ub,uo,xa,xc,e5,hub,huc,hui⟩:=rowsI_get HU.out hkl;subst e5;obtain ⟨x,hx⟩:∃ x:List Int,Hid (r[k]'hkl=x):=⟨_,ι rfl⟩;rw [hx.out] at huc hui;obtain ⟨z,hz,gz⟩:=HXS.out x (by rw [← hx.out]; exact List.getElem_mem _);have HXL:=ι (show x.length=m+n by rw [hz,Ma.len_ofN]; exact gz.2)
     have HXB:=ι (show ∀ z∈x,0≤z∧z≤64 from fun a ha=>by
      rw [hz] at ha;obtain ⟨q,hq,rfl⟩:=List.mem_map.1 ha;have:=gz.1.1 q hq;have:=gz.2;have:=HNM.out
      omega)
     have CX:=ι (CL.mk huc hub);obtain ⟨xa',xc',ey,-,-,-,hxs⟩:=hui.shape
     injection ey with ey1 _ ey3
     subst ey1 ey3;obtain ⟨xb,xo,rfl,hxb2,hxc2⟩:=hxs (by have:=HXL.out; have:=HN1.out; omega);have XC:=ι (show ∀ k (hk:k<x.length),CL w5 xb (xo+k) (.int .i64 x[k]) from fun k hk=>CL.mk (hxc2 k hk) hxb2);have HTS:=ι (show (r.take (k+1)).map (bhY m)=(r.take k).map (bhY m)++[bhY m x] by rw [List.take_add_one,List.getElem?_eq_getElem hkl,hx.out,List.map_append]; rfl);obtain ⟨tl,htl⟩:∃ l,Hid (bhT m RR i++(r.take k).map (bhY m)=l):=⟨_,ι rfl⟩
     have HTL9:=ι (show tl.length<1000000 by
      rw [← htl.out,List.length_append,List.length_map,List.length_take];have:=HTL.out i
      omega)
     have HTS2:=ι (show bhT m RR i++(r.take (k+1)).map (bhY m)=tl++[bhY m x] by rw [HTS.out,← List.append_assoc,htl.out]);rw [htl.out] at RP ⊢;have HLT6:=ι (fun z e=>(RP.out.lt z e).2);have HSZ6:=ι K1.out.size;clear hub huc hui hz gz hxs hxb2 hxc2;go_upto_region 7 with (fail);refine Rg.wl ?_;refine Rg.lm 24 (.int .i64 ((k:Nat):Int)) ?_;go_frame;refine Rg.lr 25 (exec_field _ rfl rfl (chF2 _ _)) ?_;go_frame;refine Rg.lr 26 (Rg.exec_load (v:=.slice (some ⟨rb,ro,none⟩) (m+n) rc) _ _ rfl ⟨w4.heap.size,2,none⟩ rfl (Rg.run_loadSl _ _ Try.underlying31 ((Below.cell (p:=⟨w4.heap.size,2,none⟩) K1.out S1.out.lt).trans S1.out.c2))) ?_;go_frame;refine Rg.lm 27 (.int .i64 (((m+i):Nat):Int)) ?_;go_frame;refine Rg.lr 28 (exec_indexS slPermss _ _ rfl rb (ro) ((m+n)) rc ((m+i)) rfl rfl (by omega)) ?_;go_frame;refine Rg.lr 29 (Rg.exec_load (v:=.slice (some ⟨ub,uo,none⟩) r.length uc) _ _ rfl ⟨rb,ro+(m+i),none⟩ rfl (Rg.run_loadSl _ _ Try.underlying22 ((Below.cell (p:=⟨rb,ro+(m+i),none⟩) K1.out CU.out.lt).trans CU.out.cell))) ?_;go_frame
     refine Rg.lr 30 (exec_len _ _ _ rfl Try.underlying22 _ _ _ rfl) ?_;go_frame;refine Rg.lr 31 (exec_bin (R:=.bool true) .lss _ _ _ rfl rfl rfl (b_lss _ (decide_eq_true (by omega)))) ?_;go_frame;go_upto_region 9 with (fail);refine Rg.wl ?_;refine Rg.la 9 (.slice none 0 0) ?_;go_frame;go_upto_region 10 with (fail);refine Rg.wl ?_;refine Rg.lr 34 (exec_fieldG0 _ rfl rfl) ?_;go_frame;refine Rg.lr 35 (Rg.exec_load (v:=.int .i64 ((m:Nat):Int)) _ _ rfl ⟨w1.heap.size,0,none⟩ rfl (run_loadInt ((Below.cell (p:=⟨w1.heap.size,0,none⟩) K1.out H0.out.lt).trans H0.out.cell))) ?_;go_frame;refine Rg.la 10 (.int .i64 ((m:Nat):Int)) ?_;go_frame;have OW:=ι (show OwI we.heap.size we (.slice none 0 0) ((bhY m x).take 0) from OwI.nil _ _);have KE:=ι (Below.refl we.heap.size we);go_wp2
     go_loopw [9,10] (fun zv kv wr=>∃ t:Nat,kv=.int .i64 (((m+t):Nat):Int)∧t≤n∧Hid (OwI we.heap.size wr zv ((bhY m x).take t))∧Hid (Below we.heap.size we wr)) (fun _ kv _=>m+n - (intOf kv).toNat)
     case atStart=>exact ⟨0,rfl,Nat.zero_le _,OW,KE⟩
     case round =>
      clear OW KE;obtain ⟨t,rfl,ht,OW,KE⟩:=hrel;generalize wr=wg at *;obtain ⟨za,zc,rfl⟩:=OW.out.shape;have KX:=ι (Rg.acc K1.out KE.out);have hnm:n+m≤64:=HNM.out;have him:i<n:=HIL.out;have hkr:k<r.length:=HKL.out
      by_cases htn:t<n
      case neg =>
       have HTK:=ι (show (bhY m x).take t=bhY m x from List.take_of_length_le (by rw [bhY_len HXL.out]; omega));rw [HTK.out] at OW ⊢;have RPX:=ι (RP.out.below KE.out);go_upto_region 11 with (fail);refine Rg.wl ?_;refine Rg.lm 36 (.int .i64 (((m+t):Nat):Int)) ?_;go_frame;refine Rg.lr 37 (exec_field _ rfl rfl (chF0 _ _)) ?_;go_frame;refine Rg.lr 38 (Rg.exec_load (v:=.int .i64 (((m:Nat):Int)+((n:Nat):Int))) _ _ rfl ⟨w4.heap.size,0,none⟩ rfl (run_loadInt ((Below.cell (p:=⟨w4.heap.size,0,none⟩) KX.out S1.out.lt).trans S1.out.c0))) ?_;go_frame;refine Rg.lr 39 (exec_bin (R:=.bool false) .lss _ _ _ rfl rfl rfl (b_lss _ (decide_eq_false (by omega)))) ?_;go_frame;go_upto_region 14 with (fail);refine Rg.wl ?_;refine Rg.lm 59 (.slice ta tl.length tc) ?_;go_frame;refine Rg.lm 60 (.slice za (bhY m x).length zc) ?_;go_frame;refine Rg.lr 61 (Rg.exec_buildSlice _ _ _ rfl (.slice za (bhY m x).length zc) rfl (run_build1P wg _ ⟨_,_,_,rfl⟩)) ?_;go_frame
       obtain ⟨a9,c9,X9,r1,r2,r3⟩:=RPX.out.push KX.out.size OW.out.own (by rw [bhY_len HXL.out]; have:=HNM.out; omega) (fun z e=>⟨by have:=(OW.out.own.lt z e).1; have:=HSZ6.out; omega,fun e2=>by have:=(OW.out.own.lt z e).1; have:=HLT6.out z e2; omega⟩) HTL9.out 22;refine Rg.lr 62 (Rg.exec_append _ _ _ rfl rfl rfl r1) ?_;go_frame;refine Rg.la 6 (.slice a9 (tl.length+1) c9) ?_;go_frame;have K6:=ι (r3 (Nat.le_refl _) KX.out);have RP2:=ι (show RowP w5.heap.size X9 (.slice a9 (tl.length+1) c9) (bhT m RR i++(r.take (k+1)).map (bhY m)) by rw [HTS2.out]; exact r2);clear r1 r2 r3;go_upto_region 8 with (fail);refine Rg.wl ?_;refine Rg.lm 32 (.int .i64 ((k:Nat):Int)) ?_;go_frame;refine Rg.lr 33 (exec_bin (R:=.int .i64 (((k+1):Nat):Int)) .add _ _ _ rfl rfl rfl (b_add _ (by omega) (by omega))) ?_;go_frame;refine Rg.la 8 (.int .i64 (((k+1):Nat):Int)) ?_;go_frame
       go_wp2
       go_roundw
       case rel=>exact ⟨k+1,by go_num,HKL.out,RP2,K6⟩
       case measure=>simp [intOf]; have:=HKL.out; omega
      case pos =>
       have HTN2:=ι htn;have HKY:=ι (show m+t<x.length by rw [HXL.out]; omega);obtain ⟨q,hq⟩:∃ q,Hid (x[m+t]'HKY.out=q):=⟨_,ι rfl⟩;have CQ:=ι (XC.out (m+t) HKY.out);rw [hq.out] at CQ;have hqb:0≤q∧q≤64:=HXB.out q (by rw [← hq.out]; exact List.getElem_mem _);have HJ:=ι (show (bhY m x).take (t+1)=(bhY m x).take t++[q - ((m:Nat):Int)] by rw [bhY_step HKY.out,hq.out]);obtain ⟨jl,hjl⟩:∃ l,Hid ((bhY m x).take t=l):=⟨_,ι rfl⟩;have HJL:=ι (show jl.length<1000000 by rw [← hjl.out,List.length_take]; omega);rw [hjl.out] at OW HJ ⊢;go_upto_region 11 with (fail);refine Rg.wl ?_;refine Rg.lm 36 (.int .i64 (((m+t):Nat):Int)) ?_;go_frame;refine Rg.lr 37 (exec_field _ rfl rfl (chF0 _ _)) ?_;go_frame;refine Rg.lr 38 (Rg.exec_load (v:=.int .i64 (((m:Nat):Int)+((n:Nat):Int))) _ _ rfl ⟨w4.heap.size,0,none⟩ rfl (run_loadInt ((Below.cell (p:=⟨w4.heap.size,0,none⟩) KX.out S1.out.lt).trans S1.out.c0))) ?_;go_frame
       refine Rg.lr 39 (exec_bin (R:=.bool true) .lss _ _ _ rfl rfl rfl (b_lss _ (decide_eq_true (by omega)))) ?_;go_frame;have hV1:Below wg.heap.size wg wg.drew:=(Below.refl _ _).drew;replace OW:=ι (OW.out.below hV1);replace KE:=ι (Rg.acc KE.out hV1);clear hV1;go_upto_region 13 with (fail);have hV0:Below wg.heap.size wg wg.drew:=(Below.refl _ _).drew;replace KX:=ι (Rg.acc KX.out hV0);clear hV0;refine Rg.Any.begin (S:=Rg.Both 17 (fun _=>True) (fun W=>Below w5.heap.size w5 W)) mix ?_;generalize wg.drew=w181 at *;have hS:∀ (l:Array Bool) W,Below w5.heap.size w5 W→Rg.Both 17 (fun _=>True) (fun W=>Below w5.heap.size w5 W) l W:=fun l W h=>⟨.inr trivial,h⟩;have hI:=KX.out;refine Rg.tm 0 17 (.slice za jl.length zc) 42 (hS _ _ hI) ?_;go_frame;refine Rg.tg 1 17 (.pointer (some ⟨w4.heap.size,2,none⟩)) 43 rfl rfl (.inl ⟨rfl,fun w _=>exec_field _ rfl rfl (chF2 _ _)⟩) (hS _ _ hI) ?_;go_frame
       refine Rg.tg 2 17 (.slice (some ⟨rb,ro,none⟩) (m+n) rc) 44 rfl rfl (Rg.yields_cell _ _ rfl rfl ⟨w4.heap.size,2,none⟩ rfl (fun W hW=>Rg.run_loadSl _ _ Try.underlying31 ((Below.cell (p:=⟨w4.heap.size,2,none⟩) hW S1.out.lt).trans S1.out.c2))) (hS _ _ hI) ?_;go_frame;refine Rg.tm 3 17 (.int .i64 (((m+i):Nat):Int)) 45 (hS _ _ hI) ?_;go_frame;refine Rg.tg 4 17 (.pointer (some ⟨rb,ro+(m+i),none⟩)) 46 rfl rfl (Rg.yields_index slPermss _ _ rfl rfl rb (ro) ((m+n)) rc ((m+i)) rfl rfl (by omega)) (hS _ _ hI) ?_;go_frame;refine Rg.tg 5 17 (.slice (some ⟨ub,uo,none⟩) r.length uc) 47 rfl rfl (Rg.yields_cell _ _ rfl rfl ⟨rb,ro+(m+i),none⟩ rfl (fun W hW=>Rg.run_loadSl _ _ Try.underlying22 ((Below.cell (p:=⟨rb,ro+(m+i),none⟩) hW CU.out.lt).trans CU.out.cell))) (hS _ _ hI) ?_;go_frame;refine Rg.tm 6 17 (.int .i64 ((k:Nat):Int)) 48 (hS _ _ hI) ?_;go_frame
       refine Rg.tg 7 17 (.pointer (some ⟨ub,uo+k,none⟩)) 49 rfl rfl (Rg.yields_index slPerms _ _ rfl rfl ub (uo) (r.length) uc (k) rfl rfl HKL.out) (hS _ _ hI) ?_;go_frame;refine Rg.tg 8 17 (.slice (some ⟨xb,xo,none⟩) x.length xc) 50 rfl rfl (Rg.yields_cell _ _ rfl rfl ⟨ub,uo+k,none⟩ rfl (fun W hW=>Rg.run_loadSl _ _ Try.underlying39 ((Below.cell (p:=⟨ub,uo+k,none⟩) hW CX.out.lt).trans CX.out.cell))) (hS _ _ hI) ?_;go_frame;refine Rg.tm 9 17 (.int .i64 (((m+t):Nat):Int)) 51 (hS _ _ hI) ?_;go_frame;refine Rg.tg 10 17 (.pointer (some ⟨xb,xo+(m+t),none⟩)) 52 rfl rfl (Rg.yields_index slPerm _ _ rfl rfl xb (xo) (x.length) xc ((m+t)) rfl rfl HKY.out) (hS _ _ hI) ?_;go_frame;refine Rg.tg 11 17 (.int .i64 q) 53 rfl rfl (Rg.yields_cell _ _ rfl rfl ⟨xb,xo+(m+t),none⟩ rfl (fun W hW=>run_loadInt ((Below.cell (p:=⟨xb,xo+(m+t),none⟩) hW CQ.out.lt).trans CQ.out.cell))) (hS _ _ hI) ?_;go_frame
       refine Rg.tg 12 17 (.pointer (some ⟨w1.heap.size,0,none⟩)) 54 rfl rfl (.inl ⟨rfl,fun w _=>exec_fieldG0 _ rfl rfl⟩) (hS _ _ hI) ?_;go_frame;refine Rg.tg 13 17 (.int .i64 ((m:Nat):Int)) 55 rfl rfl (Rg.yields_cell _ _ rfl rfl ⟨w1.heap.size,0,none⟩ rfl (fun W hW=>run_loadInt ((Below.cell (p:=⟨w1.heap.size,0,none⟩) hW H0.out.lt).trans H0.out.cell))) (hS _ _ hI) ?_;go_frame;refine Rg.tg 14 17 (.int .i64 (q - ((m:Nat):Int))) 56 rfl rfl (.inl ⟨rfl,fun w _=>exec_bin (R:=.int .i64 (q - ((m:Nat):Int))) .sub _ _ _ rfl rfl rfl (b_sub _ (by omega) (by omega))⟩) (hS _ _ hI) ?_;go_frame;obtain ⟨a9,c9,X9,r1,r2,r3⟩:=OW.out.pushP KE.out.size (q - ((m:Nat):Int)) HJL.out 39;have hKW:=hI;have hb:=(Below.refl w181.heap.size w181).alloc (Nat.le_refl _) (.cells #[.int .i64 (q - ((m:Nat):Int))] 3);have hI2_0:=Rg.acc hI hb;have hI2_1:=hb;clear hb hI;refine Rg.Any.one (i:=15) (by kernel_rfl) (Rg.Any.run (some 57) rfl rfl rfl (Rg.exec_buildSlice _ _ _ rfl (.int .i64 (q - ((m:Nat):Int))) rfl (run_build1p w181 _)) (hS _ _ hI2_0) ?_)
       go_frame;generalize w181.alloc (.cells #[.int .i64 (q - ((m:Nat):Int))] 3)=w182 at *;have hI3_g:=r3 HSZ6.out hKW;refine Rg.Any.one (i:=16) (by kernel_rfl) (Rg.Any.run (some 58) rfl rfl rfl (Rg.exec_append _ _ _ rfl rfl rfl r1) (hS _ _ hI3_g) ?_);go_frame;clear hI2_0 hI2_1;refine Rg.Any.one (i:=17) (by kernel_rfl) (Rg.Any.run (some 9) rfl rfl rfl (Rg.xa (.slice a9 (jl.length+1) c9) _ rfl rfl) (hS _ _ hI3_g) ?_);go_frame;refine Rg.Any.done (by kernel_rfl) ?_ _;replace KX:=ι hI3_g;clear hS hI3_g;have OW2:=ι (show OwI we.heap.size X9 (.slice a9 (jl.length+1) c9) ((bhY m x).take (t+1)) by rw [HJ.out]; exact r2);have KE2:=ι (r3 (Nat.le_refl _) KE.out);clear r1 r2 r3;go_upto_region 12 with (fail);refine Rg.wl ?_;refine Rg.lm 40 (.int .i64 (((m+t):Nat):Int)) ?_;go_frame;refine Rg.lr 41 (exec_bin (R:=.int .i64 (((m+(t+1)):Nat):Int)) .add _ _ _ rfl rfl rfl (b_add _ (by omega) (by omega))) ?_;go_frame
       refine Rg.lr 10 (Rg.exec_assign (v:=.int .i64 (((m+(t+1)):Nat):Int)) _ rfl rfl) ?_;go_frame;go_wp2
       go_roundw
       case rel=>exact ⟨t+1,by go_num,HTN2.out,OW2,KE2⟩
       case measure=>simp [intOf]; have:=HTN2.out; omega
  case neg =>
   obtain ⟨PL,hPL⟩:∃ l,Hid (bhL m RR=l):=⟨_,ι rfl⟩;have HTE:=ι (show bhT m RR i=PL by rw [← hPL.out]; exact bhT_all (by have:=HRL.out; omega));have HPL:=ι (show PL.length≤4096 by rw [← HTE.out]; exact HTL.out i);rw [HTE.out] at RP ⊢;have HRW:=ι (FRows.rows (RP.out.frows (by have:=HPL.out; omega) (G:=fun _=>True) (fun _ _ _=>trivial)));have KT:=ι (show Below w.heap.size w wd from K.out.trans (K1.out.mono K.out.size));obtain ⟨mk,hmk⟩:∃ c,Hid (mkchk ((n:Nat):Int) PL=c):=⟨_,ι rfl⟩;go_upto_region 4 with (fail);refine Rg.wl ?_;refine Rg.lm 18 (.int .i64 (((m+i):Nat):Int)) ?_;go_frame;refine Rg.lr 19 (exec_field _ rfl rfl (chF0 _ _)) ?_;go_frame;refine Rg.lr 20 (Rg.exec_load (v:=.int .i64 (((m:Nat):Int)+((n:Nat):Int))) _ _ rfl ⟨w4.heap.size,0,none⟩ rfl (run_loadInt ((Below.cell (p:=⟨w4.heap.size,0,none⟩) K1.out S1.out.lt).trans S1.out.c0))) ?_;go_frame
   refine Rg.lr 21 (exec_bin (R:=.bool false) .lss _ _ _ rfl rfl rfl (b_lss _ (decide_eq_false (by omega)))) ?_;go_frame;replace G0:=ι (G0.out.below K1.out);replace G1:=ι (G1.out.below K1.out);replace H0:=ι (H0.out.below K1.out);replace H1:=ι (H1.out.below K1.out);replace S1:=ι (S1.out.below K1.out);replace FT:=ι (FT.out.below K1.out);clear K1 RP K;go_upto_region 15 with (fail);refine Rg.wl ?_;refine Rg.lr 64 (exec_fieldG0 _ rfl rfl) ?_;go_frame;refine Rg.lr 65 (Rg.exec_load (v:=.int .i64 ((n:Nat):Int)) _ _ rfl ⟨w.heap.size,0,none⟩ rfl (run_loadInt G0.out.cell)) ?_;go_frame;refine Rg.lm 66 (.slice ta PL.length tc) ?_;go_frame;have HTD:=ι FT.out.lt;have HWS:=ι KT.out.size;refine list_ask (some 67) rfl rfl _ _ (exec_fn 41 _ _ _ rfl rfl rfl (Kycl2 _ _)) ?_;refine (rMake_any _ _ _ wd HRW.out).mono ?_;rintro e1 w383 ⟨cv,rfl,hcv,hb⟩;rw [hmk.out] at hcv ⊢;obtain ⟨e1,oa1,on1,oc1,ra1,rn1,rc1,rfl⟩:=hcv.ans.shape
   refine ⟨_,rfl,?_⟩;go_frame;replace G0:=ι (G0.out.below hb);replace G1:=ι (G1.out.below hb);replace H0:=ι (H0.out.below hb);replace H1:=ι (H1.out.below hb);replace S1:=ι (S1.out.below hb);replace HRW:=ι (HRW.out.below hb);replace FT:=ι (FT.out.below hb);replace KT:=ι (Rg.acc KT.out hb);clear hb;have CV:=ι hcv;refine Rg.lm 63 (.tuple #[(.agg #[.int .i64 e1,.slice oa1 on1 oc1,.slice ra1 rn1 rc1]),.int .i64 mk]) ?_;go_frame;refine Rg.lr 68 (exec_extract (v:=(.agg #[.int .i64 e1,.slice oa1 on1 oc1,.slice ra1 rn1 rc1])) _ _ rfl rfl rfl) ?_;go_frame;refine Rg.lr 69 (exec_extract (v:=.int .i64 mk) _ _ rfl rfl rfl) ?_;go_frame;refine Rg.lr 11 (exec_allocC rfl) ?_;go_frame;refine Rg.list_skip none rfl rfl (Rg.exec_store _ _ _ rfl _ rfl _ rfl (run_storeC _ _ _ _ _ _ _ (Tri.new w383 (.int .i64 0) (.slice none 0 0) (.slice none 0 0)))) ?_;go_frame;have htn:=(Tri.new w383 (.int .i64 0) (.slice none 0 0) (.slice none 0 0)).set (.int .i64 e1) (.slice oa1 on1 oc1) (.slice ra1 rn1 rc1)
   have hb:=((((Below.refl w383.heap.size w383).alloc (Nat.le_refl _) (.cells #[.int .i64 0,.slice none 0 0,.slice none 0 0] 33)).setCell (p:=⟨w383.heap.size,0,none⟩) (Nat.le_refl _) (.int .i64 e1)).setCell (p:=⟨w383.heap.size,1,none⟩) (Nat.le_refl _) (.slice oa1 on1 oc1)).setCell (p:=⟨w383.heap.size,2,none⟩) (Nat.le_refl _) (.slice ra1 rn1 rc1);generalize (((w383.alloc (.cells #[.int .i64 0,.slice none 0 0,.slice none 0 0] 33)).setCell ⟨w383.heap.size,0,none⟩ (.int .i64 e1)).setCell ⟨w383.heap.size,1,none⟩ (.slice oa1 on1 oc1)).setCell ⟨w383.heap.size,2,none⟩ (.slice ra1 rn1 rc1)=w384 at *;replace G0:=ι (G0.out.below hb);replace G1:=ι (G1.out.below hb);replace H0:=ι (H0.out.below hb);replace H1:=ι (H1.out.below hb);replace S1:=ι (S1.out.below hb);replace HRW:=ι (HRW.out.below hb);replace FT:=ι (FT.out.below hb);replace CV:=ι (CV.out.below hb);replace KT:=ι (Rg.acc KT.out hb)
   clear hb;have S2:=ι htn;clear htn;refine Rg.la 12 (.int .i64 mk) ?_;go_frame;clear hcv;go_upto_region 16 with (fail);refine Rg.wl ?_;refine Rg.lr 70 (Rg.exec_load (v:=(.agg #[.int .i64 e1,.slice oa1 on1 oc1,.slice ra1 rn1 rc1])) _ _ rfl ⟨w383.heap.size,0,none⟩ rfl (run_loadC3 S2.out.c0 S2.out.c1 S2.out.c2)) ?_;go_frame;refine Rg.list_skip none rfl rfl (Rg.exec_store _ _ _ rfl _ rfl _ rfl (run_storeC _ _ _ _ _ _ _ FT.out)) ?_;go_frame;have htt:=FT.out.set (.int .i64 e1) (.slice oa1 on1 oc1) (.slice ra1 rn1 rc1);have hkp:=Rg.Kp.trans (Rg.Kp.trans (Rg.Kp.of_setCell (M:=fun z=>z=w2.heap.size) (w:=w384) (a:=⟨w2.heap.size,0,none⟩) (v:=.int .i64 e1) rfl) (Rg.Kp.of_setCell (M:=fun z=>z=w2.heap.size) (a:=⟨w2.heap.size,1,none⟩) (v:=.slice oa1 on1 oc1) rfl) (fun _ _ e=>e)) (Rg.Kp.of_setCell (M:=fun z=>z=w2.heap.size) (a:=⟨w2.heap.size,2,none⟩) (v:=.slice ra1 rn1 rc1) rfl) (fun _ _ e=>e)
   have hkf:=((KT.out.setCell (p:=⟨w2.heap.size,0,none⟩) HTDL.out (.int .i64 e1)).setCell (p:=⟨w2.heap.size,1,none⟩) HTDL.out (.slice oa1 on1 oc1)).setCell (p:=⟨w2.heap.size,2,none⟩) HTDL.out (.slice ra1 rn1 rc1);have hcf:=(CV.out.kp hkp (fun z hz=>by have:=HTD.out; omega)).mono HWS.out;generalize ((w384.setCell ⟨w2.heap.size,0,none⟩ (.int .i64 e1)).setCell ⟨w2.heap.size,1,none⟩ (.slice oa1 on1 oc1)).setCell ⟨w2.heap.size,2,none⟩ (.slice ra1 rn1 rc1)=w99 at *;have HTT:=ι htt;have HFI:=ι (show KnPost n (bhL m (pR (((m:Nat):Int)+((n:Nat):Int)) (prL M L))) w (.returned (.agg #[.int .i64 e1,.slice oa1 on1 oc1,.slice ra1 rn1 rc1])) w99 from ⟨_,rfl,by rw [hRR.out,hPL.out,hmk.out]; exact hcf,hkf⟩);clear htt hkp hkf hcf;go_wp2;exact bodyPost_ret (results_cellC rfl _ rfl HTT.out) rfl HFI.out
theorem hKernel_any {d e:Int} {gv hv:Value} {L M:List (List Int)} {w:World} (h:Rg.Rows w gv L) (h':Rg.Rows w hv M) :
  Calls Try.prog 10 #[.agg #[.int .i64 d,gv],.agg #[.int .i64 e,hv]] w (KrPost d e L M w):=by
 obtain ⟨ga,gc,rfl,-⟩:=h.shape;obtain ⟨ha,hc,rfl,-⟩:=h'.shape;have HG:=ι h;have HH:=ι h';have K:=ι (Below.refl w.heap.size w);clear h h'
 go_enter Try.func10,Try.ntmps10
 go_upto_region 0 with (fail);refine Rg.wl ?_;have hbx:=box2t w (.int .i64 d) (.slice ga L.length gc) 24;refine Rg.lr 2 (Rg.exec_box _ _ rfl rfl) ?_;go_frame;have hb:=(Below.refl w.heap.size w).alloc (Nat.le_refl _) (.cells #[.int .i64 d,.slice ga L.length gc] 24);generalize w.alloc (.cells #[.int .i64 d,.slice ga L.length gc] 24)=w1 at *;replace HG:=ι (HG.out.below hb);replace HH:=ι (HH.out.below hb);replace K:=ι (Rg.acc K.out hb);clear hb;have G0:=ι hbx.1;have G1:=ι hbx.2;clear hbx;have hbx:=box2t w1 (.int .i64 e) (.slice ha M.length hc) 24;refine Rg.lr 3 (Rg.exec_box _ _ rfl rfl) ?_;go_frame;have hb:=(Below.refl w1.heap.size w1).alloc (Nat.le_refl _) (.cells #[.int .i64 e,.slice ha M.length hc] 24);generalize w1.alloc (.cells #[.int .i64 e,.slice ha M.length hc] 24)=w2 at *;replace HG:=ι (HG.out.below hb);replace HH:=ι (HH.out.below hb);replace G0:=ι (G0.out.below hb)
 replace G1:=ι (G1.out.below hb);replace K:=ι (Rg.acc K.out hb);clear hb;have H0:=ι hbx.1;have H1:=ι hbx.2;clear hbx;have HTDL:=ι (show w.heap.size≤w2.heap.size from K.out.size);have hnew:=Tri.new w2 (.int .i64 0) (.slice none 0 0) (.slice none 0 0);refine Rg.lr 4 (exec_allocC rfl) ?_;go_frame;have hb:=(Below.refl w2.heap.size w2).alloc (Nat.le_refl _) (.cells #[.int .i64 0,.slice none 0 0,.slice none 0 0] 33);generalize w2.alloc (.cells #[.int .i64 0,.slice none 0 0,.slice none 0 0] 33)=w3 at *;replace HG:=ι (HG.out.below hb);replace HH:=ι (HH.out.below hb);replace G0:=ι (G0.out.below hb);replace G1:=ι (G1.out.below hb);replace H0:=ι (H0.out.below hb);replace H1:=ι (H1.out.below hb);replace K:=ι (Rg.acc K.out hb);clear hb;have FT:=ι hnew;clear hnew;refine Rg.la 5 (.int .i64 0) ?_;go_frame;obtain ⟨c,hc0⟩:∃ c,Hid (rtC d e L M=c):=⟨_,ι rfl⟩;go_upto_region 1 with (fail)
 refine Rg.wl ?_;refine Rg.lr 7 (Rg.exec_load (v:=.agg #[.int .i64 d,.slice ga L.length gc]) _ _ rfl ⟨w.heap.size,0,none⟩ rfl (run_loadG G0.out.cell G1.out.cell)) ?_;go_frame;refine Rg.lr 8 (Rg.exec_load (v:=.agg #[.int .i64 e,.slice ha M.length hc]) _ _ rfl ⟨w1.heap.size,0,none⟩ rfl (run_loadG H0.out.cell H1.out.cell)) ?_;go_frame;refine list_ask (some 9) rfl rfl _ _ (exec_fn 25 _ _ _ rfl rfl rfl (Accl2 _ _)) ?_;refine (hvalid_any HG.out HH.out).mono ?_;rintro e1 w4 ⟨rfl,hb⟩;rw [hc0.out];refine ⟨_,rfl,?_⟩;go_frame;replace HG:=ι (HG.out.below hb);replace HH:=ι (HH.out.below hb);replace G0:=ι (G0.out.below hb);replace G1:=ι (G1.out.below hb);replace H0:=ι (H0.out.below hb);replace H1:=ι (H1.out.below hb);replace FT:=ι (FT.out.below hb);replace K:=ι (Rg.acc K.out hb);clear hb;refine Rg.la 6 (.int .i64 c) ?_;go_frame
 by_cases h0:c=0
 case neg =>
  have HK:=ι (show krC d e L M=1 by unfold krC; rw [if_neg (by rw [hc0.out]; exact h0)]);go_upto_region 2 with (fail);refine Rg.wl ?_;refine Rg.lm 10 (.int .i64 c) ?_;go_frame;refine Rg.lr 11 (exec_bin (R:=.bool true) .neq _ _ _ rfl rfl rfl (b_neqB _ (decide_eq_true h0))) ?_;go_frame;go_upto_region 3 with (fail);refine Rg.wl ?_;refine Rg.lr 12 (exec_buildC0 rfl) ?_;go_frame;refine Rg.lm 13 (.int .i64 c) ?_;go_frame;refine Rg.list_skip none rfl rfl (Rg.exec_store _ _ _ rfl _ rfl _ rfl (run_storeC _ _ _ _ _ _ _ FT.out)) ?_;go_frame;refine Rg.la 5 (.int .i64 c) ?_;go_frame;have hfz:=fin_zero FT.out K.out HTDL.out;generalize ((w4.setCell ⟨w2.heap.size,0,none⟩ (.int .i64 0)).setCell ⟨w2.heap.size,1,none⟩ (.slice none 0 0)).setCell ⟨w2.heap.size,2,none⟩ (.slice none 0 0)=w99 at *;have HFI:=ι (show KrPost d e L M w (.returned (.tuple #[zeroC,.int .i64 c])) w99 from ⟨_,by rw [hc0.out],.inl ⟨by rw [HK.out]; decide,rfl⟩,hfz.2⟩)
  have HTT:=ι hfz.1;clear hfz;go_wp2;exact bodyPost_ret (results_cellC2 (p:=4) (u:=5) rfl _ rfl rfl HTT.out) rfl HFI.out
 case pos =>
  have HZ:=ι (hc0.out.trans h0)
  have HHC:=ι (show homC d e L M=0 from by
   by_cases q:homC d e L M=0
   ·exact q
   ·have h5:=rtC_bad q
    rw [HZ.out] at h5
    exact h5.symm)
  obtain ⟨n,m,A,B,hmg⟩:=homC_get HHC.out;obtain ⟨mk,hmk⟩:∃ c,Hid (mkchk d (knL d e L M)=c):=⟨_,ι rfl⟩;have HK:=ι (show krC d e L M=mk by unfold krC; rw [if_pos HZ.out,hmk.out]);have HKN:=ι (show bhL m (pR (e+d) (prL M L))=knL d e L M by unfold knL; rw [show e.toNat=m by have:=hmg.em; omega]);obtain rfl:=hmg.dn;obtain rfl:=hmg.em;have HMG:=ι hmg;clear hmg;go_upto_region 2 with (fail);refine Rg.wl ?_;refine Rg.lm 10 (.int .i64 c) ?_;go_frame;refine Rg.lr 11 (exec_bin (R:=.bool false) .neq _ _ _ rfl rfl rfl (b_neqB _ (decide_eq_false (fun q=>q h0)))) ?_;go_frame;go_upto_region 4 with (fail);refine Rg.wl ?_;refine Rg.lr 14 (Rg.exec_load (v:=.agg #[.int .i64 ((n:Nat):Int),.slice ga L.length gc]) _ _ rfl ⟨w.heap.size,0,none⟩ rfl (run_loadG G0.out.cell G1.out.cell)) ?_;go_frame;refine Rg.lr 15 (Rg.exec_load (v:=.agg #[.int .i64 ((m:Nat):Int),.slice ha M.length hc]) _ _ rfl ⟨w1.heap.size,0,none⟩ rfl (run_loadG H0.out.cell H1.out.cell)) ?_;go_frame
  have HTD:=ι FT.out.lt;refine list_ask (some 16) rfl rfl _ _ (exec_fn 26 _ _ _ rfl rfl rfl (Accl3 _ _)) ?_;refine (hkernel_any HG.out HH.out HMG.out).mono ?_;rintro e1 w15 ⟨cv,rfl,hcv,hb⟩;rw [HKN.out,hmk.out] at hcv;obtain ⟨e1,oa1,on1,oc1,ra1,rn1,rc1,rfl⟩:=hcv.ans.shape;refine ⟨_,rfl,?_⟩;go_frame;replace HG:=ι (HG.out.below hb);replace HH:=ι (HH.out.below hb);replace G0:=ι (G0.out.below hb);replace G1:=ι (G1.out.below hb);replace H0:=ι (H0.out.below hb);replace H1:=ι (H1.out.below hb);replace FT:=ι (FT.out.below hb);replace K:=ι (Rg.acc K.out hb);clear hb;have CV:=ι hcv;refine Rg.list_skip none rfl rfl (Rg.exec_store _ _ _ rfl _ rfl _ rfl (run_storeC _ _ _ _ _ _ _ FT.out)) ?_;go_frame;refine Rg.la 5 (.int .i64 ((0:Nat):Int)) ?_;go_frame;clear hcv;have htt:=FT.out.set (.int .i64 e1) (.slice oa1 on1 oc1) (.slice ra1 rn1 rc1);have hkp:=Rg.Kp.trans (Rg.Kp.trans (Rg.Kp.of_setCell (M:=fun z=>z=w2.heap.size) (w:=w15) (a:=⟨w2.heap.size,0,none⟩) (v:=.int .i64 e1) rfl) (Rg.Kp.of_setCell (M:=fun z=>z=w2.heap.size) (a:=⟨w2.heap.size,1,none⟩) (v:=.slice oa1 on1 oc1) rfl) (fun _ _ e=>e)) (Rg.Kp.of_setCell (M:=fun z=>z=w2.heap.size) (a:=⟨w2.heap.size,2,none⟩) (v:=.slice ra1 rn1 rc1) rfl) (fun _ _ e=>e)
  have hkf:=((K.out.setCell (p:=⟨w2.heap.size,0,none⟩) HTDL.out (.int .i64 e1)).setCell (p:=⟨w2.heap.size,1,none⟩) HTDL.out (.slice oa1 on1 oc1)).setCell (p:=⟨w2.heap.size,2,none⟩) HTDL.out (.slice ra1 rn1 rc1);have hcf:=(CV.out.kp hkp (fun z hz=>by have:=HTD.out; omega)).ans;generalize ((w15.setCell ⟨w2.heap.size,0,none⟩ (.int .i64 e1)).setCell ⟨w2.heap.size,1,none⟩ (.slice oa1 on1 oc1)).setCell ⟨w2.heap.size,2,none⟩ (.slice ra1 rn1 rc1)=w99 at *;have HTT:=ι htt;have HFI:=ι (show KrPost ((n:Nat):Int) ((m:Nat):Int) L M w (.returned (.tuple #[.agg #[.int .i64 e1,.slice oa1 on1 oc1,.slice ra1 rn1 rc1],.int .i64 0])) w99 from ⟨_,by rw [HZ.out],by rw [HK.out]; exact hcf,hkf⟩);clear htt hkp hkf hcf;go_wp2;exact bodyPost_ret (results_cellC2 (p:=4) (u:=5) rfl _ rfl rfl HTT.out) rfl HFI.out
theorem inB_one {d e:Int} {L M:List (List Int)} {i:Nat} (hi:i<(koL d e L M).length) (h:∀ l∈koL d e L M,1≤l.length) (h2:(koL d e L M)[i].length≠1):inB d e L M=false:=by
 unfold inB
 by_cases h0:rtC d e L M=0
 ·rw [if_pos h0]
  have h3:=h _ (List.getElem_mem hi);have h4:(koL d e L M).any (fun l=>decide (1<l.length))=true:=List.any_eq_true.2 ⟨_,List.getElem_mem hi,decide_eq_true (by omega)⟩;rw [h4]; rfl
 ·rw [if_neg h0]
theorem inB_all {d e:Int} {L M:List (List Int)} (h:∀ i (hi:i<(koL d e L M).length),(koL d e L M)[i].length=1):inB d e L M=decide (rtC d e L M=0):=by
 unfold inB
 by_cases h0:rtC d e L M=0
 ·rw [if_pos h0,decide_eq_true h0]
  have h4:(koL d e L M).any (fun l=>decide (1<l.length))=false:=by
   rw [List.any_eq_false];intro l hl;obtain ⟨i,hi,rfl⟩:=List.getElem_of_mem hl;rw [h i hi]; decide
  rw [h4]; rfl
 ·rw [if_neg h0,decide_eq_false h0]
theorem hInjective_any {d e:Int} {gv hv:Value} {L M:List (List Int)} {w:World} (h:Rg.Rows w gv L) (h':Rg.Rows w hv M) :
  Calls Try.prog 12 #[.agg #[.int .i64 d,gv],.agg #[.int .i64 e,hv]] w (InPost d e L M w):=by
 obtain ⟨ga,gc,rfl,-⟩:=h.shape;obtain ⟨ha,hc,rfl,-⟩:=h'.shape;have HG:=ι h;have HH:=ι h';have K:=ι (Below.refl w.heap.size w);clear h h'
 go_enter Try.func12,Try.ntmps12
 go_upto_region 0 with (fail);refine Rg.wl ?_;have hbx:=box2t w (.int .i64 d) (.slice ga L.length gc) 24;refine Rg.lr 2 (Rg.exec_box _ _ rfl rfl) ?_;go_frame;have hb:=(Below.refl w.heap.size w).alloc (Nat.le_refl _) (.cells #[.int .i64 d,.slice ga L.length gc] 24);generalize w.alloc (.cells #[.int .i64 d,.slice ga L.length gc] 24)=w1 at *;replace HG:=ι (HG.out.below hb);replace HH:=ι (HH.out.below hb);replace K:=ι (Rg.acc K.out hb);clear hb;have G0:=ι hbx.1;have G1:=ι hbx.2;clear hbx;have hbx:=box2t w1 (.int .i64 e) (.slice ha M.length hc) 24;refine Rg.lr 3 (Rg.exec_box _ _ rfl rfl) ?_;go_frame;have hb:=(Below.refl w1.heap.size w1).alloc (Nat.le_refl _) (.cells #[.int .i64 e,.slice ha M.length hc] 24);generalize w1.alloc (.cells #[.int .i64 e,.slice ha M.length hc] 24)=w2 at *;replace HG:=ι (HG.out.below hb);replace HH:=ι (HH.out.below hb);replace G0:=ι (G0.out.below hb)
 replace G1:=ι (G1.out.below hb);replace K:=ι (Rg.acc K.out hb);clear hb;have H0:=ι hbx.1;have H1:=ι hbx.2;clear hbx;refine Rg.la 4 (.bool false) ?_;go_frame;refine Rg.la 5 (.int .i64 0) ?_;go_frame;obtain ⟨c,hc0⟩:∃ c,Hid (rtC d e L M=c):=⟨_,ι rfl⟩;go_upto_region 1 with (fail);refine Rg.wl ?_;refine Rg.lr 10 (Rg.exec_load (v:=.agg #[.int .i64 d,.slice ga L.length gc]) _ _ rfl ⟨w.heap.size,0,none⟩ rfl (run_loadG G0.out.cell G1.out.cell)) ?_;go_frame;refine Rg.lr 11 (Rg.exec_load (v:=.agg #[.int .i64 e,.slice ha M.length hc]) _ _ rfl ⟨w1.heap.size,0,none⟩ rfl (run_loadG H0.out.cell H1.out.cell)) ?_;go_frame;refine list_ask (some 12) rfl rfl _ _ (exec_fn 10 _ _ _ rfl rfl rfl (Accl4 _ _)) ?_;refine (hKernel_any HG.out HH.out).mono ?_;rintro e1 w3 ⟨cv,rfl,hcv,hb⟩;rw [hc0.out];obtain ⟨e1,oa1,on1,oc1,ra1,rn1,rc1,rfl⟩:=hcv.shape;have HKO:=ι hcv.ko.2;refine ⟨_,rfl,?_⟩
 go_frame;replace HG:=ι (HG.out.below hb);replace HH:=ι (HH.out.below hb);replace G0:=ι (G0.out.below hb);replace G1:=ι (G1.out.below hb);replace H0:=ι (H0.out.below hb);replace H1:=ι (H1.out.below hb);replace K:=ι (Rg.acc K.out hb);clear hb;have CO:=ι hcv.ko.1;refine Rg.lm 9 (.tuple #[(.agg #[.int .i64 e1,.slice oa1 on1 oc1,.slice ra1 rn1 rc1]),.int .i64 c]) ?_;go_frame;refine Rg.lr 13 (exec_extract (v:=(.agg #[.int .i64 e1,.slice oa1 on1 oc1,.slice ra1 rn1 rc1])) _ _ rfl rfl rfl) ?_;go_frame;refine Rg.lr 14 (exec_extract (v:=.int .i64 c) _ _ rfl rfl rfl) ?_;go_frame;refine Rg.lr 6 (exec_allocC rfl) ?_;go_frame;refine Rg.list_skip none rfl rfl (Rg.exec_store _ _ _ rfl _ rfl _ rfl (run_storeC _ _ _ _ _ _ _ (Tri.new w3 (.int .i64 0) (.slice none 0 0) (.slice none 0 0)))) ?_;go_frame;have htn:=(Tri.new w3 (.int .i64 0) (.slice none 0 0) (.slice none 0 0)).set (.int .i64 e1) (.slice oa1 on1 oc1) (.slice ra1 rn1 rc1)
 have hb:=((((Below.refl w3.heap.size w3).alloc (Nat.le_refl _) (.cells #[.int .i64 0,.slice none 0 0,.slice none 0 0] 33)).setCell (p:=⟨w3.heap.size,0,none⟩) (Nat.le_refl _) (.int .i64 e1)).setCell (p:=⟨w3.heap.size,1,none⟩) (Nat.le_refl _) (.slice oa1 on1 oc1)).setCell (p:=⟨w3.heap.size,2,none⟩) (Nat.le_refl _) (.slice ra1 rn1 rc1);generalize (((w3.alloc (.cells #[.int .i64 0,.slice none 0 0,.slice none 0 0] 33)).setCell ⟨w3.heap.size,0,none⟩ (.int .i64 e1)).setCell ⟨w3.heap.size,1,none⟩ (.slice oa1 on1 oc1)).setCell ⟨w3.heap.size,2,none⟩ (.slice ra1 rn1 rc1)=w4 at *;replace HG:=ι (HG.out.below hb);replace HH:=ι (HH.out.below hb);replace G0:=ι (G0.out.below hb);replace G1:=ι (G1.out.below hb);replace H0:=ι (H0.out.below hb);replace H1:=ι (H1.out.below hb);replace CO:=ι (CO.out.below hb);replace K:=ι (Rg.acc K.out hb);clear hb;have S1:=ι htn;clear htn
 refine Rg.la 7 (.int .i64 c) ?_;go_frame;clear hcv
 obtain rfl:on1=(koL d e L M).length:=by
  obtain ⟨_,_,e5,_⟩:=CO.out.shape;injection e5
 have HKL:=ι (koL_len (d:=d) (e:=e) (L:=L) (M:=M));obtain ⟨OO,hOO⟩:∃ l,Hid (koL d e L M=l):=⟨_,ι rfl⟩;have HI1:=ι (fun i hi h=>inB_one (d:=d) (e:=e) (L:=L) (M:=M) (i:=i) hi HKO.out h);have HI2:=ι (inB_all (d:=d) (e:=e) (L:=L) (M:=M));rw [hOO.out] at HKL CO S1 ⊢;simp only [hOO.out] at HI1 HI2;go_upto_region 2 with (fail);refine Rg.wl ?_;refine Rg.la 8 (.int .i64 ((0:Nat):Int)) ?_;go_frame;have K1:=ι (Below.refl w4.heap.size w4);have HS:=ι (show ∀ j (h:j<OO.length),j<0→OO[j].length=1 from fun j _ h=>absurd h (Nat.not_lt_zero _));go_wp2
 go_loopw [8] (fun iv wr=>∃ i:Nat,iv=.int .i64 ((i:Nat):Int)∧i≤OO.length∧Hid (∀ j (h:j<OO.length),j<i→OO[j].length=1)∧Hid (Below w4.heap.size w4 wr)) (fun iv _=>OO.length - (intOf iv).toNat)
 case atStart=>exact ⟨0,rfl,Nat.zero_le _,HS,K1⟩
 case round =>
  clear K1 HS;obtain ⟨i,rfl,hi,HS,K1⟩:=hrel;generalize wr=wd at *;have KT:=ι (show Below w.heap.size w wd from K.out.trans (K1.out.mono K.out.size));have hl:OO.length≤1000:=HKL.out
  by_cases hil:i<OO.length
  case neg =>
   have HV:=ι (show inB d e L M=decide (c=0) by rw [HI2.out (fun j hj=>HS.out j hj (by omega)),hc0.out]);go_upto_region 3 with (fail);refine Rg.wl ?_;refine Rg.lm 15 (.int .i64 ((i:Nat):Int)) ?_;go_frame;refine Rg.lr 16 (exec_field _ rfl rfl (chF1 _ _)) ?_;go_frame;refine Rg.lr 17 (Rg.exec_load (v:=.slice oa1 OO.length oc1) _ _ rfl ⟨w3.heap.size,1,none⟩ rfl (Rg.run_loadSl _ _ Try.underlying30 ((Below.cell (p:=⟨w3.heap.size,1,none⟩) K1.out S1.out.lt).trans S1.out.c1))) ?_;go_frame;refine Rg.lr 18 (exec_len _ _ _ rfl Try.underlying30 _ _ _ rfl) ?_;go_frame;refine Rg.lr 19 (exec_bin (R:=.bool false) .lss _ _ _ rfl rfl rfl (b_lss _ (decide_eq_false (by omega)))) ?_;go_frame
   by_cases h0:c=0
   case pos =>
    have HV2:=ι (HV.out.trans (decide_eq_true h0));go_upto_region 7 with (fail);refine Rg.wl ?_;refine Rg.lm 30 (.int .i64 c) ?_;go_frame;refine Rg.lr 31 (exec_bin (R:=.bool true) .eql _ _ _ rfl rfl rfl (b_eql _ (decide_eq_true h0))) ?_;go_frame;refine Rg.lm 32 (.int .i64 c) ?_;go_frame;refine Rg.la 4 (.bool true) ?_;go_frame;refine Rg.la 5 (.int .i64 c) ?_;go_frame;go_wp2
    go_ret2
    exact ⟨by rw [HV2.out,hc0.out]; rfl,KT.out⟩
   case neg =>
    have HV2:=ι (HV.out.trans (decide_eq_false h0));go_upto_region 7 with (fail);refine Rg.wl ?_;refine Rg.lm 30 (.int .i64 c) ?_;go_frame;refine Rg.lr 31 (exec_bin (R:=.bool false) .eql _ _ _ rfl rfl rfl (b_eql _ (decide_eq_false h0))) ?_;go_frame;refine Rg.lm 32 (.int .i64 c) ?_;go_frame;refine Rg.la 4 (.bool false) ?_;go_frame;refine Rg.la 5 (.int .i64 c) ?_;go_frame;go_wp2
    go_ret2
    exact ⟨by rw [HV2.out,hc0.out]; rfl,KT.out⟩
  case pos =>
   have HIL:=ι hil;obtain ⟨ob,oo,ua,uc,e1,hob,hoc,hoi⟩:=rowsI_get CO.out hil;subst e1;obtain ⟨l,hll⟩:∃ l,Hid (OO[i]'hil=l):=⟨_,ι rfl⟩;rw [hll.out] at hoc hoi;have CU:=ι (CL.mk hoc hob);clear hoc hob hoi
   by_cases h1:l.length=1
   case neg =>
    have HV:=ι (show inB d e L M=false from HI1.out i HIL.out (by rw [hll.out]; exact h1));go_upto_region 3 with (fail);refine Rg.wl ?_;refine Rg.lm 15 (.int .i64 ((i:Nat):Int)) ?_;go_frame;refine Rg.lr 16 (exec_field _ rfl rfl (chF1 _ _)) ?_;go_frame;refine Rg.lr 17 (Rg.exec_load (v:=.slice (some ⟨ob,oo,none⟩) OO.length oc1) _ _ rfl ⟨w3.heap.size,1,none⟩ rfl (Rg.run_loadSl _ _ Try.underlying30 ((Below.cell (p:=⟨w3.heap.size,1,none⟩) K1.out S1.out.lt).trans S1.out.c1))) ?_;go_frame;refine Rg.lr 18 (exec_len _ _ _ rfl Try.underlying30 _ _ _ rfl) ?_;go_frame;refine Rg.lr 19 (exec_bin (R:=.bool true) .lss _ _ _ rfl rfl rfl (b_lss _ (decide_eq_true (by omega)))) ?_;go_frame;go_upto_region 5 with (fail);refine Rg.wl ?_;refine Rg.lr 22 (exec_field _ rfl rfl (chF1 _ _)) ?_;go_frame;refine Rg.lr 23 (Rg.exec_load (v:=.slice (some ⟨ob,oo,none⟩) OO.length oc1) _ _ rfl ⟨w3.heap.size,1,none⟩ rfl (Rg.run_loadSl _ _ Try.underlying30 ((Below.cell (p:=⟨w3.heap.size,1,none⟩) K1.out S1.out.lt).trans S1.out.c1))) ?_;go_frame
    refine Rg.lm 24 (.int .i64 ((i:Nat):Int)) ?_;go_frame;refine Rg.lr 25 (exec_indexS slIntss _ _ rfl ob (oo) (OO.length) oc1 (i) rfl rfl HIL.out) ?_;go_frame;refine Rg.lr 26 (Rg.exec_load (v:=.slice ua l.length uc) _ _ rfl ⟨ob,oo+i,none⟩ rfl (Rg.run_loadSl _ _ Try.underlying38 ((Below.cell (p:=⟨ob,oo+i,none⟩) K1.out CU.out.lt).trans CU.out.cell))) ?_;go_frame;refine Rg.lr 27 (exec_len _ _ _ rfl Try.underlying38 _ _ _ rfl) ?_;go_frame;refine Rg.lr 28 (exec_bin (R:=.bool true) .neq _ _ _ rfl rfl rfl (b_neqB _ (decide_eq_true (by omega)))) ?_;go_frame;go_upto_region 6 with (fail);refine Rg.wl ?_;refine Rg.lm 29 (.int .i64 c) ?_;go_frame;refine Rg.la 4 (.bool false) ?_;go_frame;refine Rg.la 5 (.int .i64 c) ?_;go_frame;go_wp2
    go_ret2
    exact ⟨by rw [HV.out,hc0.out]; rfl,KT.out⟩
   case pos =>
    have HS2:=ι (show ∀ j (h:j<OO.length),j<i+1→OO[j].length=1 from fun j h hj=>by
     by_cases e:j=i
     ·subst e; rw [hll.out]; exact h1
     ·exact HS.out j h (by omega))
    go_upto_region 3 with (fail);refine Rg.wl ?_;refine Rg.lm 15 (.int .i64 ((i:Nat):Int)) ?_;go_frame;refine Rg.lr 16 (exec_field _ rfl rfl (chF1 _ _)) ?_;go_frame;refine Rg.lr 17 (Rg.exec_load (v:=.slice (some ⟨ob,oo,none⟩) OO.length oc1) _ _ rfl ⟨w3.heap.size,1,none⟩ rfl (Rg.run_loadSl _ _ Try.underlying30 ((Below.cell (p:=⟨w3.heap.size,1,none⟩) K1.out S1.out.lt).trans S1.out.c1))) ?_;go_frame;refine Rg.lr 18 (exec_len _ _ _ rfl Try.underlying30 _ _ _ rfl) ?_;go_frame;refine Rg.lr 19 (exec_bin (R:=.bool true) .lss _ _ _ rfl rfl rfl (b_lss _ (decide_eq_true (by omega)))) ?_;go_frame;go_upto_region 5 with (fail);refine Rg.wl ?_;refine Rg.lr 22 (exec_field _ rfl rfl (chF1 _ _)) ?_;go_frame;refine Rg.lr 23 (Rg.exec_load (v:=.slice (some ⟨ob,oo,none⟩) OO.length oc1) _ _ rfl ⟨w3.heap.size,1,none⟩ rfl (Rg.run_loadSl _ _ Try.underlying30 ((Below.cell (p:=⟨w3.heap.size,1,none⟩) K1.out S1.out.lt).trans S1.out.c1))) ?_;go_frame
    refine Rg.lm 24 (.int .i64 ((i:Nat):Int)) ?_;go_frame;refine Rg.lr 25 (exec_indexS slIntss _ _ rfl ob (oo) (OO.length) oc1 (i) rfl rfl HIL.out) ?_;go_frame;refine Rg.lr 26 (Rg.exec_load (v:=.slice ua l.length uc) _ _ rfl ⟨ob,oo+i,none⟩ rfl (Rg.run_loadSl _ _ Try.underlying38 ((Below.cell (p:=⟨ob,oo+i,none⟩) K1.out CU.out.lt).trans CU.out.cell))) ?_;go_frame;refine Rg.lr 27 (exec_len _ _ _ rfl Try.underlying38 _ _ _ rfl) ?_;go_frame;refine Rg.lr 28 (exec_bin (R:=.bool false) .neq _ _ _ rfl rfl rfl (b_neqB _ (decide_eq_false (by omega)))) ?_;go_frame;go_upto_region 4 with (fail);refine Rg.wl ?_;refine Rg.lm 20 (.int .i64 ((i:Nat):Int)) ?_;go_frame;refine Rg.lr 21 (exec_bin (R:=.int .i64 (((i+1):Nat):Int)) .add _ _ _ rfl rfl rfl (b_add _ (by omega) (by omega))) ?_;go_frame;refine Rg.la 8 (.int .i64 (((i+1):Nat):Int)) ?_;go_frame;go_wp2
    go_roundw
    case rel=>exact ⟨i+1,by go_num,HIL.out,HS2,K1⟩
    case measure=>simp [intOf]; have:=HIL.out; omega
end Go.Proofs.Ythehbckogieimaa

namespace Go.Proofs.Ythehbckogieimaa
open Go.RowKit
open Go.Proofs
open Go.Proofs.Cm (Gd Gr IsG IsChain ap Fx St)
attribute [local irreducible] Go.Calls Go.wpList
theorem ap_jn1 {n m:Nat} {a b:List Nat} (ha:Gd n a) {i:Nat} (hi:i<n):ap (jnN a b) i=ap a i:=by
 unfold ap jnN;rw [List.getD_eq_getElem?_getD,List.getD_eq_getElem?_getD,List.getElem?_append_left (by rw [ha.2]; exact hi)]
theorem ap_jn2 {n m:Nat} {a b:List Nat} (ha:Gd n a) (hb:Gd m b) {i:Nat} (hi:i<m):ap (jnN a b) (n+i)=n+ap b i:=by
 unfold ap jnN;rw [List.getD_eq_getElem?_getD,List.getD_eq_getElem?_getD,List.getElem?_append_right (by rw [ha.2]; omega),List.getElem?_map,ha.2,Nat.add_sub_cancel_left,List.getElem?_eq_getElem (by rw [hb.2]; exact hi)];simp only [Option.map_some,Option.getD_some];omega
theorem jn_mul {n m:Nat} {a b c e:List Nat} (ha:Gd n a) (hb:Gd m b) (hc:Gd n c) (he:Gd m e):Ma.mulN (jnN a b) (jnN c e)=jnN (Ma.mulN a c) (Ma.mulN b e):=by
 have g1:=jnN_gd ha hb;have g2:=jnN_gd hc he;have g3:=jnN_gd (Cm.gd_mul ha hc) (Cm.gd_mul hb he);refine Cm.gd_ext (Cm.gd_mul g1 g2).2 g3.2 fun i hi=>?_;rw [Cm.ap_mul g1 hi]
 by_cases h:i<n
 ·rw [ap_jn1 (m:=m) ha h,ap_jn1 (m:=m) hc (Cm.ap_lt ha h),ap_jn1 (m:=m) (Cm.gd_mul ha hc) h,Cm.ap_mul ha h]
 ·obtain ⟨k,rfl⟩:∃ k,i=n+k:=⟨i - n,by omega⟩
  have hk:k<m:=by omega
  rw [ap_jn2 ha hb hk,ap_jn2 hc he (Cm.ap_lt hb hk),ap_jn2 (Cm.gd_mul ha hc) (Cm.gd_mul hb he) hk,Cm.ap_mul hb hk]
theorem jn_one (n m:Nat):jnN (Ma.oneN n) (Ma.oneN m)=Ma.oneN (n+m):=by
 have g1:=jnN_gd (Cm.gd_one n) (Cm.gd_one m);refine Cm.gd_ext g1.2 (Ma.len_oneN _) fun i hi=>?_;rw [Cm.ap_one hi]
 by_cases h:i<n
 ·rw [ap_jn1 (m:=m) (Cm.gd_one n) h,Cm.ap_one h]
 ·obtain ⟨k,rfl⟩:∃ k,i=n+k:=⟨i - n,by omega⟩
  rw [ap_jn2 (Cm.gd_one n) (Cm.gd_one m) (by omega),Cm.ap_one (by omega)]
theorem jn_inv {n m:Nat} {a b:List Nat} (ha:Gd n a) (hb:Gd m b):Ma.invN (jnN a b)=jnN (Ma.invN a) (Ma.invN b):=by
 have g1:=jnN_gd ha hb;have g2:=jnN_gd (Cm.gd_inv ha) (Cm.gd_inv hb)
 have e:Ma.mulN (jnN (Ma.invN a) (Ma.invN b)) (jnN a b)=Ma.oneN (n+m):=by
  rw [jn_mul (Cm.gd_inv ha) (Cm.gd_inv hb) ha hb,Cm.inv_mul ha,Cm.inv_mul hb,jn_one]
 have e2:=Cm.mul_cancel_inv g2 g1;rw [e,Cm.one_mul (Cm.gd_inv g1)] at e2;exact e2
theorem jn_inj {n m:Nat} {a b c e:List Nat} (ha:Gd n a) (hb:Gd m b) (hc:Gd n c) (he:Gd m e) (h:jnN a b=jnN c e):a=c∧b=e:=by
 refine ⟨Cm.gd_ext ha.2 hc.2 fun i hi=>?_,Cm.gd_ext hb.2 he.2 fun i hi=>?_⟩
 ·have h1:=ap_jn1 (m:=m) (b:=b) ha hi
  rw [h,ap_jn1 (m:=m) hc hi] at h1;exact h1.symm
 ·have h1:=ap_jn2 ha hb hi
  rw [h,ap_jn2 hc he hi] at h1;omega
def PG2 (n m:Nat) (A B:List (List Nat)):List Nat→Prop:=Gr (n+m) (·∈prN A B)
theorem pg_isG {n m:Nat} {A B:List (List Nat)} (ga:∀ s∈A,Gd n s) (gb:∀ s∈B,Gd m s):IsG (n+m) (PG2 n m A B):=Cm.Gr.isG (mem_prN ga gb)
theorem mem_prN':∀ {A B:List (List Nat)} {s:List Nat},s∈prN A B→∃ a∈A,∃ b∈B,s=jnN a b
 | [],_,s,h=>by simp [prN] at h
 | _ :: _,[],s,h=>by simp [prN] at h
 | x :: A,y :: B,s,h=>by
  unfold prN at h;rw [List.zipWith_cons_cons] at h
  rcases List.mem_cons.1 h with rfl | h
  ·exact ⟨x,List.mem_cons_self ..,y,List.mem_cons_self ..,rfl⟩
  ·obtain ⟨a,ha,b,hb,e⟩:=mem_prN' h
   exact ⟨a,List.mem_cons_of_mem _ ha,b,List.mem_cons_of_mem _ hb,e⟩
theorem pg_split {n m:Nat} {A B:List (List Nat)} (ga:∀ s∈A,Gd n s) (gb:∀ s∈B,Gd m s) {z:List Nat} (hz:PG2 n m A B z):∃ a b,Gr n (·∈A) a∧Gr m (·∈B) b∧z=jnN a b:=by
 have hA:=Cm.Gr.isG (gs:=(·∈A)) ga;have hB:=Cm.Gr.isG (gs:=(·∈B)) gb;refine Cm.Gr.sub (H:=fun z=>∃ a b,Gr n (·∈A) a∧Gr m (·∈B) b∧z=jnN a b) ⟨?_,?_,?_,?_⟩ (fun s hs=>?_) hz
 ·rintro x ⟨a,b,h1,h2,rfl⟩
  exact jnN_gd (hA.gd _ h1) (hB.gd _ h2)
 ·exact ⟨_,_,.one,.one,(jn_one n m).symm⟩
 ·rintro x y ⟨a,b,h1,h2,rfl⟩ ⟨c,e,h3,h4,rfl⟩
  exact ⟨_,_,.mul _ _ h1 h3,.mul _ _ h2 h4,jn_mul (hA.gd _ h1) (hB.gd _ h2) (hA.gd _ h3) (hB.gd _ h4)⟩
 ·rintro x ⟨a,b,h1,h2,rfl⟩
  exact ⟨_,_,.inv _ h1,.inv _ h2,jn_inv (hA.gd _ h1) (hB.gd _ h2)⟩
 ·obtain ⟨a,ha,b,hb,rfl⟩:=mem_prN' hs
  exact ⟨a,b,.gen _ ha,.gen _ hb,rfl⟩
def ImR (m:Nat) (H:List Nat→Prop) (x:List Nat):Option (List Nat)→Prop
 | none=>∀ y,Gd m y→¬ H (jnN x y)
 | some y=>Gd m y∧H (jnN x y)
def DefH (n m:Nat) (H:List Nat→Prop):Prop:=∀ y,Gd m y→H (jnN (Ma.oneN n) y)→y=Ma.oneN m
theorem ImR.uniq {n m:Nat} {H:List Nat→Prop} (hH:IsG (n+m) H) (hd:DefH n m H) {x:List Nat} (hx:Gd n x):∀ {r r':Option (List Nat)},ImR m H x r→ImR m H x r'→r=r'
 | none,none,_,_=>rfl
 | none,some y,h,h'=>absurd h'.2 (h y h'.1)
 | some y,none,h,h'=>absurd h.2 (h' y h.1)
 | some y,some y',h,h'=>by
  have e:=hH.mul _ _ h.2 (hH.inv _ h'.2);rw [jn_inv hx h'.1,jn_mul hx h.1 (Cm.gd_inv hx) (Cm.gd_inv h'.1),Cm.mul_inv hx] at e;have e2:=hd _ (Cm.gd_mul h.1 (Cm.gd_inv h'.1)) e;have e3:=Cm.mul_inv_cancel h.1 h'.1;rw [e2,Cm.one_mul h'.1] at e3;rw [e3]
def Agr (x z:List Nat) (i:Nat):Prop:=∀ j,j<i→ap z j=ap x j
theorem agr_find {N i:Nat} {H:List Nat→Prop} (hH:IsG N H) {O:List (List Nat)} {R:List (List (List Nat))} (hc:IsChain N H O R) (hi:i<N) {x z w:List Nat} (hz:H z) (hw:H w) (az:Agr x z i) (aw:Agr x w (i+1)):∃ q∈O.getD i [],ap z q=ap x i:=by
 have gz:=hH.gd _ hz;have gw:=hH.gd _ hw;have gi:=Cm.gd_inv gz
 have hs:St H i (Ma.mulN w (Ma.invN z)):=⟨hH.mul _ _ hw (hH.inv _ hz),fun j hj=>by
  rw [Cm.ap_mul gw (by omega),aw j (by omega),← az j hj,Cm.ap_inv gz (by omega)]⟩
 refine ⟨ap (Ma.mulN w (Ma.invN z)) i,(hc.orb i _ hi).2 ⟨_,hs,rfl⟩,?_⟩;rw [Cm.ap_mul gw hi,Cm.ap_inv2 gz (Cm.ap_lt gw hi),aw i (by omega)]
theorem agr_next {N i k:Nat} {H:List Nat→Prop} (hH:IsG N H) {O:List (List Nat)} {R:List (List (List Nat))} (hc:IsChain N H O R) (hi:i<N) {x z:List Nat} (hz:H z) (az:Agr x z i) (hk:k<(O.getD i []).length) (hq:ap z ((O.getD i []).getD k 0)=ap x i) :
  H (Ma.mulN ((R.getD i []).getD k []) z)∧Agr x (Ma.mulN ((R.getD i []).getD k []) z) (i+1):=by
 have hr:=(hc.rep i k hi hk).1;have gr:=hH.gd _ hr.1.1;refine ⟨hH.mul _ _ hr.1.1 hz,fun j hj=>?_⟩;rw [Cm.ap_mul gr (by omega)]
 by_cases e:j=i
 ·subst e
  rw [hr.2]; exact hq
 ·rw [hr.1.2 j (by omega)]
  exact az j (by omega)
theorem agr_all {n m:Nat} {A B:List (List Nat)} (ga:∀ s∈A,Gd n s) (gb:∀ s∈B,Gd m s) {x z:List Nat} (hx:Gd n x) (hz:PG2 n m A B z) (az:Agr x z n):∃ b,Gd m b∧z=jnN x b∧PG2 n m A B (jnN x b):=by
 obtain ⟨a,b,h1,h2,rfl⟩:=pg_split ga gb hz;have g1:=(Cm.Gr.isG (gs:=(·∈A)) ga).gd _ h1;have g2:=(Cm.Gr.isG (gs:=(·∈B)) gb).gd _ h2
 have e:a=x:=Cm.gd_ext g1.2 hx.2 fun i hi=>by rw [← az i hi,ap_jn1 (m:=m) g1 hi]
 subst e;exact ⟨b,g2,rfl,hz⟩
theorem agr_none {n m i:Nat} {A B:List (List Nat)} (ga:∀ s∈A,Gd n s) (gb:∀ s∈B,Gd m s) {O:List (List Nat)} {R:List (List (List Nat))} (hc:IsChain (n+m) (PG2 n m A B) O R) (hi:i<n) {x z:List Nat} (hx:Gd n x) (hz:PG2 n m A B z) (az:Agr x z i) (hno:∀ q∈O.getD i [],ap z q≠ap x i):ImR m (PG2 n m A B) x none:=fun y gy hy=>by
 obtain ⟨q,hq,e⟩:=agr_find (pg_isG ga gb) hc (i:=i) (by omega) hz hy az (fun j hj=>ap_jn1 (m:=m) hx (by omega));exact hno q hq e
theorem HomG.pgc {d e:Int} {L M:List (List Int)} {n m:Nat} {A B:List (List Nat)} (h:HomG d e L M n m A B) {N:Nat} {gs:List (List Nat)} (hp:PcF (d+e) (prL L M) N gs):N=n+m∧IsChain (n+m) (PG2 n m A B) (pOR (d+e) (prL L M)).1 (pOR (d+e) (prL L M)).2:=by
 have hN:N=n+m:=by have:=hp.dn; have:=h.dn; have:=h.em; omega
 subst hN
 have hgs:gs=prN A B:=by
  have e1:=hp.lg;rw [h.la,h.mb,prL_ofN] at e1;exact (map_ofN_inj e1).symm
 subst hgs;exact ⟨rfl,hp.ch⟩
theorem len1_eq {l:List Nat} {a b:Nat} (h:l.length≤1) (ha:a∈l) (hb:b∈l):a=b:=by
 match l,h with
 | [],_=>simp at ha
 | [x],_=>rw [List.mem_singleton.1 ha,List.mem_singleton.1 hb]
theorem HomG.defH {d e:Int} {L M:List (List Int)} {n m:Nat} {A B:List (List Nat)} (h:HomG d e L M n m A B) {N:Nat} {gs:List (List Nat)} (hp:PcF (d+e) (prL L M) N gs) (hd:dfB n (pO (d+e) (prL L M))=true):DefH n m (PG2 n m A B):=by
 obtain ⟨hN,hc⟩:=h.pgc hp;have hH:=pg_isG h.ga h.gb;intro y gy hy;have g1:=hH.gd _ hy
 have key:∀ k,k≤m→Fx (n+k) (jnN (Ma.oneN n) y):=by
  intro k
  induction k with
  | zero=>exact fun _ j hj=>by rw [ap_jn1 (m:=m) (Cm.gd_one n) (by omega),Cm.ap_one (by omega)]
  | succ k ih =>
   intro hk j hj
   by_cases hj2:j<n+k
   ·exact ih (by omega) j hj2
   ·obtain rfl:j=n+k:=by omega
    have h1:((pOR (d+e) (prL L M)).1.getD (n+k) []).length≤1:=by
     have hlt:n+k<(pO (d+e) (prL L M)).length:=by unfold pO; rw [List.length_map,hc.lenO]; omega
     have h2:(pO (d+e) (prL L M))[n+k].length≤1:=by
      by_cases q:(pO (d+e) (prL L M))[n+k].length≤1
      ·exact q
      ·rw [dfB_no hlt (by omega)] at hd; cases hd
     have h3:n+k<(pOR (d+e) (prL L M)).1.length:=by rw [hc.lenO]; omega
     rw [List.getD_eq_getElem?_getD,List.getElem?_eq_getElem h3,Option.getD_some]
     have h9:(pO (d+e) (prL L M))[n+k]=Ma.ofN ((pOR (d+e) (prL L M)).1[n+k]):=by
      show (List.map Ma.ofN (pOR (d+e) (prL L M)).1)[n+k]'hlt=_;exact List.getElem_map ..
     rw [h9,Ma.len_ofN] at h2;exact h2
    exact len1_eq h1 ((hc.orb (n+k) _ (by omega)).2 ⟨_,⟨hy,ih (by omega)⟩,rfl⟩) ((hc.orb (n+k) _ (by omega)).2 ⟨_,⟨hH.one,Cm.Fx.one (by omega)⟩,Cm.ap_one (by omega)⟩)
 have e1:=Cm.Fx.all g1 (key m (Nat.le_refl _));rw [← jn_one] at e1;exact (jn_inj (Cm.gd_one n) gy (Cm.gd_one n) (Cm.gd_one m) e1).2
theorem HomG.defH' {d e:Int} {L M:List (List Int)} {n m:Nat} {A B:List (List Nat)} (h:HomG d e L M n m A B) {N:Nat} {gs:List (List Nat)} (hp:PcF (d+e) (prL L M) N gs) (hd:DefH n m (PG2 n m A B)):dfB n (pO (d+e) (prL L M))=true:=by
 obtain ⟨hN,hc⟩:=h.pgc hp;have hH:=pg_isG h.ga h.gb;refine dfB_yes fun i hi=>?_
 have hlt:n+i<n+m:=by unfold pO at hi; rw [List.length_map,hc.lenO] at hi; exact hi
 have h3:n+i<(pOR (d+e) (prL L M)).1.length:=by rw [hc.lenO]; exact hlt
 have hone:∀ q∈(pOR (d+e) (prL L M)).1.getD (n+i) [],q=n+i:=fun q hq=>by
  obtain ⟨x,⟨hx,fx⟩,rfl⟩:=(hc.orb (n+i) _ hlt).1 hq;obtain ⟨a,b,h1,h2,rfl⟩:=pg_split h.ga h.gb hx;have g1:=(Cm.Gr.isG (gs:=(·∈A)) h.ga).gd _ h1;have g2:=(Cm.Gr.isG (gs:=(·∈B)) h.gb).gd _ h2
  have e:a=Ma.oneN n:=Cm.gd_ext g1.2 (Ma.len_oneN n) fun j hj=>by rw [← ap_jn1 (m:=m) (b:=b) g1 hj,fx j (by omega),Cm.ap_one hj]
  subst e;rw [hd b g2 hx,jn_one,Cm.ap_one hlt]
 have hasc:=hc.asc (n+i) hlt
 have e9:((pO (d+e) (prL L M))[n+i]).length=((pOR (d+e) (prL L M)).1.getD (n+i) []).length:=by
  rw [List.getD_eq_getElem?_getD,List.getElem?_eq_getElem h3,Option.getD_some]
  have h9:(pO (d+e) (prL L M))[n+i]=Ma.ofN ((pOR (d+e) (prL L M)).1[n+i]):=by
   show (List.map Ma.ofN (pOR (d+e) (prL L M)).1)[n+i]'hi=_;exact List.getElem_map ..
  rw [h9,Ma.len_ofN]
 rw [e9]
 match hl:(pOR (d+e) (prL L M)).1.getD (n+i) [] with
 | []=>simp
 | [_]=>simp
 | a :: b :: l =>
  rw [hl] at hone hasc;have h1:=hone a (by simp);have h2:=hone b (by simp);have h4:=(List.pairwise_cons.1 hasc).1 b (by simp);omega
end Go.Proofs.Ythehbckogieimaa

namespace Go.Proofs.Ythehbckogieimaa
open Go.RowKit
open Go.Proofs
open Go.Proofs.Ob
open Go.Proofs.Cm (Gd Gr)
attribute [local irreducible] Go.Calls Go.wpList
def AsksI (F:FuncId) (caps:Array Value) (mv:List Int) (p:Int→Bool) (w:World):Prop :=
 ∀ x,x∈mv→∀ w1,Below w.heap.size w w1→Calls Try.prog F (#[.int .i64 x]++caps) w1 fun e w2=>e=.returned (.bool (p x))∧Below w1.heap.size w1 w2
def idxJ (mv:List Int) (p:Int→Bool):Int:=match mv.findIdx? p with
 | some i=>i
 | none=>-1
theorem idxJ_hit {mv:List Int} {p:Int→Bool} {k:Nat} (hk:k<mv.length) (h:∀ i (hi:i<mv.length),i<k→p mv[i]=false) (hp:p mv[k]=true):idxJ mv p=k:=by
 have:mv.findIdx? p=some k:=by
  rw [List.findIdx?_eq_some_iff_getElem];exact ⟨hk,hp,fun j hj=>by simp [h j (by omega) hj]⟩
 unfold idxJ; rw [this]
theorem idxJ_none {mv:List Int} {p:Int→Bool} (h:∀ i (hi:i<mv.length),p mv[i]=false):idxJ mv p = -1:=by
 have:mv.findIdx? p=none:=by
  rw [List.findIdx?_eq_none_iff];intro x hx;obtain ⟨i,hi,rfl⟩:=List.getElem_of_mem hx;exact h i hi
 unfold idxJ; rw [this]
theorem indexFuncI_any (mvv:Value) (mv:List Int) (F:FuncId) (caps:Array Value) (p:Int→Bool) (w:World) (h:Rg.Ints w mvv mv) (hl:mv.length≤1000) (hF:∀ args w,(callFunc F args).run Try.prog w=.ok (.enter F args) w) (hf:AsksI F caps mv p w) :
  Calls Try.prog 45 #[mvv,.func (.func F) #[] caps] w fun e w'=>e=.returned (.int .i64 (idxJ mv p))∧Below w.heap.size w w':=by
 obtain ⟨ad,cap,rfl,hc,hm,_,hcell⟩:=h.shape;have Hr:=ι hcell;have HF:=ι hf;clear h hcell hf
 go_enter Try.func45,Try.ntmps45
 go_wp2
 go_loopw [8] (fun vi wr=>∃ k:Nat,k≤mv.length∧vi=.int .i64 k∧Hid (∀ i (hi:i<mv.length),i<k→p mv[i]=false)∧Hid (Below w.heap.size w wr)) (fun vi _=>mv.length - (intOf vi).toNat)
 case atStart=>exact ⟨0,by omega,rfl,fun i hi h0=>by omega,Below.refl _ _⟩
 case round =>
  obtain ⟨k,hk,rfl,hno,hb⟩:=hrel
  by_cases hlt:k<mv.length
  ·obtain ⟨b,o,rfl,hbl,hbr⟩:=Hr.out (by omega)
   have eu:=hbr k hlt;obtain ⟨x,hx⟩:∃ x,x=mv[k]:=⟨_,rfl⟩;rw [← hx] at eu;have e0:wr.cell? ⟨b,o+k,none⟩=some (.int .i64 x):=(hb.out.cell (p:=⟨b,o+k,none⟩) hbl).trans eu;have hcall:=HF.out x (by rw [hx]; exact List.getElem_mem _) wr hb.out;have hlt':=ι hlt;have Hx:=ι hx;clear hbr eu hx
   cases hp:p x
   ·have Hp:=ι hp
    have Hcall:=ι (show Calls Try.prog F (#[.int .i64 x]++caps) wr (fun e w2=>e=.returned (.bool false)∧Below wr.heap.size wr w2) from hcall.mono fun e w2 ⟨h1,h2⟩=>⟨h1.trans (by rw [Hp.out]),h2⟩);clear hcall hp
    go_wp2_with (refine Hcall.out.mono ?_; rintro e w1 ⟨rfl,hb1⟩)
    go_roundw
    case rel=>exact ⟨k+1,by omega,by go_num,fun i hi h0=>(by
     rcases Nat.lt_or_ge i k with h1 | h1
     ·exact hno.out i hi h1
     ·obtain rfl:i=k:=by omega
      rw [← Hx.out]; exact Hp.out),Rg.acc hb.out hb1⟩
    case measure=>simp [intOf]; omega
   ·have Hp:=ι hp
    have Hcall:=ι (show Calls Try.prog F (#[.int .i64 x]++caps) wr (fun e w2=>e=.returned (.bool true)∧Below wr.heap.size wr w2) from hcall.mono fun e w2 ⟨h1,h2⟩=>⟨h1.trans (by rw [Hp.out]),h2⟩);clear hcall hp
    go_wp2_with (refine Hcall.out.mono ?_; rintro e w1 ⟨rfl,hb1⟩)
    go_ret;exact ⟨Rg.ret_int (idxJ_hit hlt'.out hno.out (by rw [← Hx.out]; exact Hp.out)).symm,Rg.acc hb.out hb1⟩
  ·obtain rfl:k=mv.length:=by omega
   go_wp2;go_ret;exact ⟨Rg.ret_int (idxJ_none (fun i hi=>hno.out i hi hi)).symm,hb.out⟩
end Go.Proofs.Ythehbckogieimaa

namespace Go.Proofs.Ythehbckogieimaa
open Go.RowKit
open Go.Proofs
open Go.Proofs.Ob
open Go.Proofs.Cm (Gd Gr IsChain ap)
attribute [local irreducible] Go.Calls Go.wpList
theorem Adcl0 (args:Array Value) (w:World):(callFunc 44 args).run Try.prog w=.ok (.enter 44 args) w:=by kernel_rfl
theorem Adcl1 (args:Array Value) (w:World):(callFunc 45 args).run Try.prog w=.ok (.enter 45 args) w:=by kernel_rfl
theorem Adcl2 (args:Array Value) (w:World):(callFunc 47 args).run Try.prog w=.ok (.enter 47 args) w:=by kernel_rfl
theorem exec_makeFunc3 {o:Oper} {a:Act} {w:World} (F:FuncId) (x y z:Operand) (ho:o.op=.makeFunc (.func F) #[] #[x,y,z]) {u1 u2 u3:Value} (hx:a.eval x=u1) (hy:a.eval y=u2) (hz:a.eval z=u3):(execOp a.eval o).run Try.prog w=.ok (.value (.func (.func F) #[] #[u1,u2,u3])) w:=by
 unfold execOp;simp [ho,hx,hy,hz,Instr.makeFunc]
structure PtI (w W:World) (zv:Value) (z:List Nat):Prop where
 bel:Below w.heap.size w W
 cz:CW W w.heap.size zv
 fp:FP (fun k=>k≠w.heap.size) W zv z
theorem PtI.below {w W W':World} {zv:Value} {z:List Nat} (h:PtI w W zv z) (hb:Below W.heap.size W W'):PtI w W' zv z :=
 ⟨Rg.acc h.bel hb,h.cz.below hb,h.fp.below hb⟩
theorem PtI.set {w W:World} {zv zv':Value} {z z':List Nat} (h:PtI w W zv z) (hp:FP (fun k=>k≠w.heap.size) W zv' z'):PtI w (W.setCell ⟨w.heap.size,0,none⟩ zv') zv' z':=by
 have hk:Rg.Kp (fun z=>z=w.heap.size) W (W.setCell ⟨w.heap.size,0,none⟩ zv'):=Rg.Kp.of_setCell rfl;exact ⟨h.bel.setCell (p:=⟨w.heap.size,0,none⟩) (Nat.le_refl _) _,h.cz.set _,Rg.FI.kp hp hk (fun _ hz=>hz)⟩
theorem PtI.new {W:World} {zv:Value} {z:List Nat} (h:Rg.NP W zv z):PtI W ((W.alloc (.cells #[.slice none 0 0] 39)).setCell ⟨W.heap.size,0,none⟩ zv) zv z:=by
 have hb:Below W.heap.size W (W.alloc (.cells #[.slice none 0 0] 39)):=(Below.refl _ _).alloc (Nat.le_refl _) _;have hk:Rg.Kp (fun z=>z=W.heap.size) (W.alloc (.cells #[.slice none 0 0] 39)) ((W.alloc (.cells #[.slice none 0 0] 39)).setCell ⟨W.heap.size,0,none⟩ zv):=Rg.Kp.of_setCell rfl;exact ⟨hb.setCell (p:=⟨W.heap.size,0,none⟩) (Nat.le_refl _) _,(CW.new W _ _).set _,Rg.FI.kp ((FP.below (FP.of_np h) hb).mono (fun k hk=>by omega)) hk (fun _ hz=>hz)⟩
theorem pt_new {w V W:World} {v:Value} {p:List Nat} (hz:w.heap.size<V.heap.size) (h:Rg.NPF V W v p):FP (fun k=>k≠w.heap.size) W v p :=
 (FP.new (F:=fun k=>k≠w.heap.size) h).mono fun k hk=>by rcases hk with hk | hk <;> omega
theorem idxJ_no {l z x:List Nat} {i:Nat} (h:∀ q∈l,ap z q≠ap x i):idxJ (Ma.ofN l) (fun q=>decide (ap z q.toNat=ap x i)) = -1:=by
 refine idxJ_none fun j hj=>?_;rw [Ma.get_ofN]
 have hj2:j<l.length:=by rw [← Ma.len_ofN]; exact hj
 exact decide_eq_false (by rw [Int.toNat_natCast]; exact h _ (List.getElem_mem hj2))
theorem idxJ_yes {l z x:List Nat} {i:Nat} (h:∃ q∈l,ap z q=ap x i):∃ k,k<l.length∧idxJ (Ma.ofN l) (fun q=>decide (ap z q.toNat=ap x i))=((k:Nat):Int)∧ap z (l.getD k 0)=ap x i:=by
 obtain ⟨k,hk⟩:∃ k,l.findIdx? (fun q=>decide (ap z q=ap x i))=some k:=by
  cases e:l.findIdx? (fun q=>decide (ap z q=ap x i)) with
  | some k=>exact ⟨k,rfl⟩
  | none =>
   rw [List.findIdx?_eq_none_iff] at e;obtain ⟨q,hq,e2⟩:=h;exact absurd e2 (of_decide_eq_false (e q hq))
 rw [List.findIdx?_eq_some_iff_getElem] at hk;obtain ⟨h1,h2,h3⟩:=hk;refine ⟨k,h1,?_,?_⟩
 ·have hk2:k<(Ma.ofN l).length:=by rw [Ma.len_ofN]; exact h1
  refine idxJ_hit hk2 (fun j hj hjk=>?_) ?_
  ·rw [Ma.get_ofN,Int.toNat_natCast]
   have:=h3 j hjk;exact decide_eq_false (by simpa using this)
  ·rw [Ma.get_ofN,Int.toNat_natCast]
   exact h2
 ·rw [List.getD_eq_getElem?_getD,List.getElem?_eq_getElem h1,Option.getD_some]
  exact of_decide_eq_true h2
theorem clPt1 (args:Array Value) (w:World):(callFunc 46 args).run Try.prog w=.ok (.enter 46 args) w:=by kernel_rfl
theorem partner1_any {zb xb ib zo xo zc xc za xa N n i q u v:Nat} {w:World} (h1:CL w zb 0 (.slice (some ⟨za,zo,none⟩) N zc)) (h2:CL w za (zo+q) (.int .i64 ((u:Nat):Int))) (h3:CL w xb 0 (.slice (some ⟨xa,xo,none⟩) n xc)) (h4:CL w xa (xo+i) (.int .i64 ((v:Nat):Int))) (h5:CL w ib 0 (.int .i64 ((i:Nat):Int))) (hq:q<N) (hi:i<n) :
  Calls Try.prog 46 #[.int .i64 ((q:Nat):Int),.pointer (some ⟨zb,0,none⟩),.pointer (some ⟨xb,0,none⟩),.pointer (some ⟨ib,0,none⟩)] w fun e w'=>e=.returned (.bool (decide (u=v)))∧Below w.heap.size w w':=by
 have H1:=ι h1;have H2:=ι h2;have H3:=ι h3;have H4:=ι h4;have H5:=ι h5;have HQ:=ι hq;have HI:=ι hi;have K:=ι (Below.refl w.heap.size w);clear h1 h2 h3 h4 h5 hq hi
 go_enter Try.func46,Try.ntmps46
 go_upto_region 0 with (fail);refine Rg.wl ?_;refine Rg.la 5 (.bool false) ?_;go_frame
 by_cases h:u=v
 case pos =>
  go_upto_region 1 with (fail);have hV0:Below w.heap.size w w.drew:=(Below.refl _ _).drew;replace H1:=ι (H1.out.below hV0);replace H2:=ι (H2.out.below hV0);replace H3:=ι (H3.out.below hV0);replace H4:=ι (H4.out.below hV0);replace H5:=ι (H5.out.below hV0);replace K:=ι (Rg.acc K.out hV0);clear hV0;refine Rg.Any.begin (S:=Rg.Both 9 (fun _=>True) (fun W=>Below w.drew.heap.size w.drew W)) mix ?_;generalize w.drew=w11 at *;have hS:∀ (l:Array Bool) W,Below w11.heap.size w11 W→Rg.Both 9 (fun _=>True) (fun W=>Below w11.heap.size w11 W) l W:=fun l W h=>⟨.inr trivial,h⟩;have hI:Below w11.heap.size w11 w11:=Below.refl _ _;refine Rg.tg 0 9 (.slice (some ⟨za,zo,none⟩) N zc) 6 rfl rfl (Rg.yields_cell _ _ rfl rfl ⟨zb,0,none⟩ rfl (fun W hW=>Rg.run_loadSl _ _ Try.underlying39 ((Below.cell (p:=⟨zb,0,none⟩) hW H1.out.lt).trans H1.out.cell))) (hS _ _ hI) ?_;go_frame
  refine Rg.tm 1 9 (.int .i64 ((q:Nat):Int)) 7 (hS _ _ hI) ?_;go_frame;refine Rg.tg 2 9 (.pointer (some ⟨za,zo+q,none⟩)) 8 rfl rfl (Rg.yields_index slPerm _ _ rfl rfl za (zo) (N) zc (q) rfl rfl HQ.out) (hS _ _ hI) ?_;go_frame;refine Rg.tg 3 9 (.int .i64 ((u:Nat):Int)) 9 rfl rfl (Rg.yields_cell _ _ rfl rfl ⟨za,zo+q,none⟩ rfl (fun W hW=>run_loadInt ((Below.cell (p:=⟨za,zo+q,none⟩) hW H2.out.lt).trans H2.out.cell))) (hS _ _ hI) ?_;go_frame;refine Rg.tg 4 9 (.slice (some ⟨xa,xo,none⟩) n xc) 10 rfl rfl (Rg.yields_cell _ _ rfl rfl ⟨xb,0,none⟩ rfl (fun W hW=>Rg.run_loadSl _ _ Try.underlying39 ((Below.cell (p:=⟨xb,0,none⟩) hW H3.out.lt).trans H3.out.cell))) (hS _ _ hI) ?_;go_frame;refine Rg.tg 5 9 (.int .i64 ((i:Nat):Int)) 11 rfl rfl (Rg.yields_cell _ _ rfl rfl ⟨ib,0,none⟩ rfl (fun W hW=>run_loadInt ((Below.cell (p:=⟨ib,0,none⟩) hW H5.out.lt).trans H5.out.cell))) (hS _ _ hI) ?_;go_frame
  refine Rg.tg 6 9 (.pointer (some ⟨xa,xo+i,none⟩)) 12 rfl rfl (Rg.yields_index slPerm _ _ rfl rfl xa (xo) (n) xc (i) rfl rfl HI.out) (hS _ _ hI) ?_;go_frame;refine Rg.tg 7 9 (.int .i64 ((v:Nat):Int)) 13 rfl rfl (Rg.yields_cell _ _ rfl rfl ⟨xa,xo+i,none⟩ rfl (fun W hW=>run_loadInt ((Below.cell (p:=⟨xa,xo+i,none⟩) hW H4.out.lt).trans H4.out.cell))) (hS _ _ hI) ?_;go_frame;refine Rg.tg 8 9 (.bool true) 14 rfl rfl (.inl ⟨rfl,fun w _=>exec_bin (R:=.bool true) .eql _ _ _ rfl rfl rfl (b_eql _ (decide_eq_true (by omega)))⟩) (hS _ _ hI) ?_;go_frame;refine Rg.Any.one (i:=9) (by kernel_rfl) (Rg.Any.run (some 5) rfl rfl rfl (Rg.xa (.bool true) _ rfl rfl) (hS _ _ hI) ?_);go_frame;refine Rg.Any.done (by kernel_rfl) ?_ _;clear hS hI;go_wp2;go_ret;exact ⟨by rw [decide_eq_true h]; rfl,K.out⟩
 case neg =>
  go_upto_region 1 with (fail);have hV0:Below w.heap.size w w.drew:=(Below.refl _ _).drew;replace H1:=ι (H1.out.below hV0);replace H2:=ι (H2.out.below hV0);replace H3:=ι (H3.out.below hV0);replace H4:=ι (H4.out.below hV0);replace H5:=ι (H5.out.below hV0);replace K:=ι (Rg.acc K.out hV0);clear hV0;refine Rg.Any.begin (S:=Rg.Both 9 (fun _=>True) (fun W=>Below w.drew.heap.size w.drew W)) mix ?_;generalize w.drew=w22 at *;have hS:∀ (l:Array Bool) W,Below w22.heap.size w22 W→Rg.Both 9 (fun _=>True) (fun W=>Below w22.heap.size w22 W) l W:=fun l W h=>⟨.inr trivial,h⟩;have hI:Below w22.heap.size w22 w22:=Below.refl _ _;refine Rg.tg 0 9 (.slice (some ⟨za,zo,none⟩) N zc) 6 rfl rfl (Rg.yields_cell _ _ rfl rfl ⟨zb,0,none⟩ rfl (fun W hW=>Rg.run_loadSl _ _ Try.underlying39 ((Below.cell (p:=⟨zb,0,none⟩) hW H1.out.lt).trans H1.out.cell))) (hS _ _ hI) ?_;go_frame
  refine Rg.tm 1 9 (.int .i64 ((q:Nat):Int)) 7 (hS _ _ hI) ?_;go_frame;refine Rg.tg 2 9 (.pointer (some ⟨za,zo+q,none⟩)) 8 rfl rfl (Rg.yields_index slPerm _ _ rfl rfl za (zo) (N) zc (q) rfl rfl HQ.out) (hS _ _ hI) ?_;go_frame;refine Rg.tg 3 9 (.int .i64 ((u:Nat):Int)) 9 rfl rfl (Rg.yields_cell _ _ rfl rfl ⟨za,zo+q,none⟩ rfl (fun W hW=>run_loadInt ((Below.cell (p:=⟨za,zo+q,none⟩) hW H2.out.lt).trans H2.out.cell))) (hS _ _ hI) ?_;go_frame;refine Rg.tg 4 9 (.slice (some ⟨xa,xo,none⟩) n xc) 10 rfl rfl (Rg.yields_cell _ _ rfl rfl ⟨xb,0,none⟩ rfl (fun W hW=>Rg.run_loadSl _ _ Try.underlying39 ((Below.cell (p:=⟨xb,0,none⟩) hW H3.out.lt).trans H3.out.cell))) (hS _ _ hI) ?_;go_frame;refine Rg.tg 5 9 (.int .i64 ((i:Nat):Int)) 11 rfl rfl (Rg.yields_cell _ _ rfl rfl ⟨ib,0,none⟩ rfl (fun W hW=>run_loadInt ((Below.cell (p:=⟨ib,0,none⟩) hW H5.out.lt).trans H5.out.cell))) (hS _ _ hI) ?_;go_frame
  refine Rg.tg 6 9 (.pointer (some ⟨xa,xo+i,none⟩)) 12 rfl rfl (Rg.yields_index slPerm _ _ rfl rfl xa (xo) (n) xc (i) rfl rfl HI.out) (hS _ _ hI) ?_;go_frame;refine Rg.tg 7 9 (.int .i64 ((v:Nat):Int)) 13 rfl rfl (Rg.yields_cell _ _ rfl rfl ⟨xa,xo+i,none⟩ rfl (fun W hW=>run_loadInt ((Below.cell (p:=⟨xa,xo+i,none⟩) hW H4.out.lt).trans H4.out.cell))) (hS _ _ hI) ?_;go_frame;refine Rg.tg 8 9 (.bool false) 14 rfl rfl (.inl ⟨rfl,fun w _=>exec_bin (R:=.bool false) .eql _ _ _ rfl rfl rfl (b_eql _ (decide_eq_false (by omega)))⟩) (hS _ _ hI) ?_;go_frame;refine Rg.Any.one (i:=9) (by kernel_rfl) (Rg.Any.run (some 5) rfl rfl rfl (Rg.xa (.bool false) _ rfl rfl) (hS _ _ hI) ?_);go_frame;refine Rg.Any.done (by kernel_rfl) ?_ _;clear hS hI;go_wp2;go_ret;exact ⟨by rw [decide_eq_false h]; rfl,K.out⟩
theorem pt_asks {F:Nat→Prop} {zb xb ib zo xo zc xc za xa N n i:Nat} {z x ol:List Nat} {W:World} (h1:CL W zb 0 (.slice (some ⟨za,zo,none⟩) N zc)) (h2:FP F W (.slice (some ⟨za,zo,none⟩) N zc) z) (gz:Gd N z) (h3:CL W xb 0 (.slice (some ⟨xa,xo,none⟩) n xc)) (h4:CL W xa (xo+i) (.int .i64 ((ap x i:Nat):Int))) (hi:i<n) (h5:CL W ib 0 (.int .i64 ((i:Nat):Int))) (ho:∀ q∈ol,q<N) :
  AsksI 46 #[.pointer (some ⟨zb,0,none⟩),.pointer (some ⟨xb,0,none⟩),.pointer (some ⟨ib,0,none⟩)] (Ma.ofN ol) (fun q=>decide (ap z q.toNat=ap x i)) W:=by
 intro y hy w1 hb;obtain ⟨q,hq,rfl⟩:=List.mem_map.1 hy;have hqN:=ho q hq;have hc:=h2.ap gz hqN;show Calls Try.prog _ #[_,_,_,_] w1 (fun e w2=>e=.returned (.bool (decide (ap z (((q:Nat):Int)).toNat=ap x i)))∧Below w1.heap.size w1 w2);rw [Int.toNat_natCast];exact partner1_any (h1.below hb) ((CL.mk hc.cell hc.lt).below hb) (h3.below hb) (h4.below hb) (h5.below hb) hqN hi
def PtPost (n m:Nat) (A B:List (List Nat)) (x:List Nat) (w:World) (ed:Ending) (w':World):Prop :=
 ((ed=.returned (.tuple #[.slice none 0 0,.bool false])∧ImR m (PG2 n m A B) x none)∨∃ v y,ed=.returned (.tuple #[v,.bool true])∧Rg.NP w' v y∧ImR m (PG2 n m A B) x (some y))∧Below w.heap.size w w'
theorem partner_any {d e:Int} {gv hv:Value} {oa:Option Addr} {oc:Nat} {ra:Option Addr} {rc:Nat} {L M:List (List Int)} {n m:Nat} {A B:List (List Nat)} {pb:Nat} {w:World} (h:PrAt w pb d e gv hv oa oc ra rc L M) (hm:HomG d e L M n m A B) {xv:Value} {x:List Nat} (hx:Rg.NP w xv x) (gx:Gd n x) :
  Calls Try.prog 32 #[.pointer (some ⟨pb,0,none⟩),xv] w (PtPost n m A B x w):=by
 obtain ⟨ga,gc,rfl,-⟩:=h.rg.shape;obtain ⟨ha,hc,rfl,-⟩:=h.rh.shape;obtain ⟨N,gs,hpc⟩:=h.pc;obtain ⟨hN,hch⟩:=hm.pgc hpc;have hn1:=hm.n1;have hm1:=hm.m1;have hnm:=hm.nm;have HGA:=ι hm.ga;have HGB:=ι hm.gb;have HH:=ι (pg_isG hm.ga hm.gb);obtain rfl:=hm.dn;obtain rfl:=hm.em;obtain ⟨xa,xo,xc,rfl⟩:=FP.shape' (FP.of_np hx) gx hn1;obtain ⟨O,hO⟩:∃ O,Hid ((pOR (((n:Nat):Int)+((m:Nat):Int)) (prL L M)).1=O):=⟨_,ι rfl⟩;obtain ⟨R,hR⟩:∃ R,Hid ((pOR (((n:Nat):Int)+((m:Nat):Int)) (prL L M)).2=R):=⟨_,ι rfl⟩
 have eO:pO (((n:Nat):Int)+((m:Nat):Int)) (prL L M)=O.map Ma.ofN:=by unfold pO; rw [hO.out]
 have eR:pR (((n:Nat):Int)+((m:Nat):Int)) (prL L M)=R.map (List.map Ma.ofN):=by unfold pR; rw [hR.out]
 rw [hO.out,hR.out] at hch
 have hlo:(O.map Ma.ofN).length=n+m:=by rw [List.length_map,hch.lenO]
 have hlr:(R.map (List.map Ma.ofN)).length=n+m:=by rw [List.length_map,hch.lenR]
 have h1:=h.c1;have h2:=h.c2;have h9:=h.ch;rw [eO,hlo] at h1 h9;rw [eR,hlr] at h2 h9;have CHO:=ι h9.1;have CHR:=ι h9.2;obtain ⟨ob,oo,-,-,e5,-⟩:=rowsI_get CHO.out (i:=0) (by omega);subst e5;obtain ⟨rb,ro,e6,-⟩:=CHR.out.at' (k:=0) (by omega);subst e6;have P1:=ι (CL.mk h1 h.lt);have P2:=ι (CL.mk h2 h.lt);have P3:=ι (CL.mk h.c3 h.lt);have P5:=ι (CL.mk h.c5 h.lt);have HCH:=ι hch;have HX:=ι hx;have GX:=ι gx;have HN1:=ι hn1;have HM1:=ι hm1;have HNM:=ι hnm;have HLO:=ι hlo;have HLR:=ι hlr;have K:=ι (Below.refl w.heap.size w);clear h hm hpc hch hx gx h1 h2 h9 hn1 hm1 hlo hlr eO eR
 go_enter Try.func32,Try.ntmps32
 go_upto_region 0 with (fail);refine Rg.wl ?_;have hbx:=CW.new w (.slice (some ⟨xa,xo,none⟩) n xc) 39;refine Rg.lr 3 (exec_boxV (v:=.slice (some ⟨xa,xo,none⟩) n xc) _ _ rfl rfl rfl) ?_;go_frame;have hb:=(Below.refl w.heap.size w).alloc (Nat.le_refl _) (.cells #[.slice (some ⟨xa,xo,none⟩) n xc] 39);generalize w.alloc (.cells #[.slice (some ⟨xa,xo,none⟩) n xc] 39)=w1 at *;replace P1:=ι (P1.out.below hb);replace P2:=ι (P2.out.below hb);replace P3:=ι (P3.out.below hb);replace P5:=ι (P5.out.below hb);replace CHO:=ι (CHO.out.below hb);replace CHR:=ι (CHR.out.below hb);replace HX:=ι (HX.out.below hb);replace K:=ι (Rg.acc K.out hb);clear hb;have BX:=ι hbx;clear hbx;refine Rg.la 4 (.slice none 0 0) ?_;go_frame;refine Rg.la 5 (.bool false) ?_;go_frame;go_upto_region 1 with (fail);refine Rg.wl ?_;refine Rg.lm 13 (.pointer (some ⟨pb,0,none⟩)) ?_;go_frame;refine Rg.lr 14 (exec_nil _ rfl rfl) ?_;go_frame
 refine Rg.lr 15 (exec_field _ rfl rfl (prF1 _ _)) ?_;go_frame;refine Rg.lr 16 (exec_field _ rfl rfl (grF3_0 _ _)) ?_;go_frame;refine Rg.lr 17 (Rg.exec_load (v:=.int .i64 ((n:Nat):Int)) _ _ rfl ⟨pb,3,none⟩ rfl (run_loadInt P3.out.cell)) ?_;go_frame;refine Rg.la 6 (.int .i64 ((n:Nat):Int)) ?_;go_frame;go_upto_region 2 with (fail);refine Rg.wl ?_;refine Rg.lm 19 (.int .i64 ((n:Nat):Int)) ?_;go_frame;refine Rg.lm 20 (.pointer (some ⟨pb,0,none⟩)) ?_;go_frame;refine Rg.lr 21 (exec_nil _ rfl rfl) ?_;go_frame;refine Rg.lr 22 (exec_field _ rfl rfl (prF2 _ _)) ?_;go_frame;refine Rg.lr 23 (exec_field _ rfl rfl (grF5_0 _ _)) ?_;go_frame;refine Rg.lr 24 (Rg.exec_load (v:=.int .i64 ((m:Nat):Int)) _ _ rfl ⟨pb,5,none⟩ rfl (run_loadInt P5.out.cell)) ?_;go_frame;refine Rg.lr 25 (exec_bin (R:=.int .i64 (((n+m):Nat):Int)) .add _ _ _ rfl rfl rfl (b_add _ (by omega) (by omega))) ?_;go_frame
 refine list_ask (some 26) rfl rfl _ _ (exec_fn1 44 _ _ rfl rfl (Adcl0 _ _)) ?_;refine (permOne_in (n+m) w1 (by have:=HN1.out; omega) hnm).mono ?_;rintro e1 w2 ⟨ov,rfl,hov,hb⟩;obtain ⟨za0,zo0,zc0,rfl⟩:=FP.shape' (FP.of_np hov.1) (Cm.gd_one (n+m)) (by have:=HN1.out; omega);refine ⟨_,rfl,?_⟩;go_frame;replace P1:=ι (P1.out.below hb);replace P2:=ι (P2.out.below hb);replace P3:=ι (P3.out.below hb);replace P5:=ι (P5.out.below hb);replace CHO:=ι (CHO.out.below hb);replace CHR:=ι (CHR.out.below hb);replace HX:=ι (HX.out.below hb);replace BX:=ι (BX.out.below hb);replace K:=ι (Rg.acc K.out hb);clear hb;refine Rg.lm 18 (.tuple #[.slice (some ⟨za0,zo0,none⟩) (n+m) zc0,.int .i64 0]) ?_;go_frame;refine Rg.lr 27 (exec_extract (v:=.slice (some ⟨za0,zo0,none⟩) (n+m) zc0) _ _ rfl rfl rfl) ?_;go_frame;refine Rg.lr 28 (exec_extract (v:=.int .i64 0) _ _ rfl rfl rfl) ?_;go_frame
 have P1b:=P1;have P2b:=P2;have P3b:=P3;have P5b:=P5;have CHOb:=CHO;have CHRb:=CHR;have HXb:=HX;have BXb:=BX;have Kb:=K;refine Rg.lr 7 (exec_allocPm rfl) ?_;go_frame;refine Rg.list_skip none rfl rfl (Rg.exec_store _ _ _ rfl _ rfl _ rfl (Rg.run_storeSl _ infoPerm (CW.new w2 (.slice none 0 0) 39).c (CW.new w2 (.slice none 0 0) 39).f)) ?_;go_frame;have hpt:=PtI.new hov.1;have hb:=((Below.refl w2.heap.size w2).alloc (Nat.le_refl _) (.cells #[.slice none 0 0] 39)).setCell (p:=⟨w2.heap.size,0,none⟩) (Nat.le_refl _) (.slice (some ⟨za0,zo0,none⟩) (n+m) zc0);generalize (w2.alloc (.cells #[.slice none 0 0] 39)).setCell ⟨w2.heap.size,0,none⟩ (.slice (some ⟨za0,zo0,none⟩) (n+m) zc0)=w3 at *;replace P1:=ι (P1.out.below hb);replace P2:=ι (P2.out.below hb);replace P3:=ι (P3.out.below hb);replace P5:=ι (P5.out.below hb);replace CHO:=ι (CHO.out.below hb);replace CHR:=ι (CHR.out.below hb)
 replace HX:=ι (HX.out.below hb);replace BX:=ι (BX.out.below hb);replace K:=ι (Rg.acc K.out hb);clear hb;refine Rg.la 8 (.int .i64 0) ?_;go_frame;have PT0:=ι hpt;clear hpt hov;go_upto_region 3 with (fail);refine Rg.wl ?_;refine Rg.lm 29 (.int .i64 ((n:Nat):Int)) ?_;go_frame;refine Rg.lm 30 (.int .i64 ((0:Nat):Int)) ?_;go_frame;clear P1 P2 P3 P5 CHO CHR HX BX K;have P1:=P1b;have P2:=P2b;have P3:=P3b;have P5:=P5b;have CHO:=CHOb;have CHR:=CHRb;have HX:=HXb;have BX:=BXb;have K:=Kb;clear P1b P2b P3b P5b CHOb CHRb HXb BXb Kb;have HAG:=ι (show PG2 n m A B (Ma.oneN (n+m))∧Agr x (Ma.oneN (n+m)) 0 from ⟨HH.out.one,fun _ h=>absurd h (Nat.not_lt_zero _)⟩);go_wp2
 go_loopw [30] (fun iv wr=>∃ (i:Nat) (z:List Nat) (zv:Value),iv=.int .i64 ((i:Nat):Int)∧i≤n∧Hid (PtI w2 wr zv z)∧Hid (PG2 n m A B z∧Agr x z i)) (fun iv _=>n - (intOf iv).toNat)
 case atStart=>exact ⟨0,_,_,rfl,Nat.zero_le _,PT0,HAG⟩
 case round =>
  clear HAG;obtain ⟨i,z,zv,rfl,hi,PT,HAG⟩:=hrel;generalize wr=wd at *;have GZ:=ι (HH.out.gd _ HAG.out.1);obtain ⟨za,zo,zc,rfl⟩:=FP.shape' PT.out.fp GZ.out (by have:=HN1.out; omega);have K1:=ι PT.out.bel
  by_cases hin:i<n
  case pos =>
   have HIN:=ι hin
   have hinm:i<n+m:=by omega
   obtain ⟨ol,hol⟩:∃ ol:List Nat,Hid (O.getD i []=ol):=⟨_,ι rfl⟩;obtain ⟨rl,hrl⟩:∃ rl:List (List Nat),Hid (R.getD i []=rl):=⟨_,ι rfl⟩;have HLEN:=ι (show rl.length=ol.length by rw [← hrl.out,← hol.out]; exact HCH.out.len i hinm);have hoL:=chain_len HH.out HCH.out hinm;rw [hol.out] at hoL
   have HOQ:=ι (show ∀ q∈ol,q<n+m from fun q hq=>by
    rw [← hol.out] at hq;obtain ⟨y,hy,rfl⟩:=(HCH.out.orb i q hinm).1 hq
    exact Cm.ap_lt (HH.out.gd _ hy.1) hinm)
   obtain ⟨ob',oo',ua,uc,eo,hob,hoc,hoi⟩:=rowsI_get CHO.out (i:=i) (by rw [HLO.out]; exact hinm)
   injection eo with eo
   injection eo with e5 e6
   subst e5 e6
   have hox:(O.map Ma.ofN)[i]'(by rw [HLO.out]; exact hinm)=Ma.ofN ol:=by
    have hXO:i<O.length:=by rw [HCH.out.lenO]; exact hinm
    rw [← hol.out,List.getElem_map,getD_inf hXO]
   rw [hox] at hoc hoi;rw [Ma.len_ofN] at hoc hoi;have CO:=ι (CL.mk hoc hob);have IO:=ι hoi;have hxc:=(FP.of_np HX.out).ap GX.out hin;have CX:=ι (CL.mk hxc.cell hxc.lt);clear hob hoc hoi hox hxc;go_upto_region 4 with (fail);refine Rg.wl ?_;refine Rg.lr 31 (exec_bin (R:=.bool true) .lss _ _ _ rfl rfl rfl (b_lss _ (decide_eq_true (by omega)))) ?_;go_frame;go_upto_region 5 with (fail);refine Rg.wl ?_;refine Rg.lm 32 (.int .i64 ((i:Nat):Int)) ?_;go_frame;refine Rg.lr 9 (exec_allocI rfl) ?_;go_frame;refine Rg.list_skip none rfl rfl (Rg.exec_store _ _ _ rfl _ rfl _ rfl (run_storeInt _ (CW.new wd (.int .i64 0) 3).c (CW.new wd (.int .i64 0) 3).f)) ?_;go_frame;have hci:=(CW.new wd (.int .i64 0) 3).set (.int .i64 ((i:Nat):Int));have hb:=((Below.refl wd.heap.size wd).alloc (Nat.le_refl _) (.cells #[.int .i64 0] 3)).setCell (p:=⟨wd.heap.size,0,none⟩) (Nat.le_refl _) (.int .i64 ((i:Nat):Int))
   generalize (wd.alloc (.cells #[.int .i64 0] 3)).setCell ⟨wd.heap.size,0,none⟩ (.int .i64 ((i:Nat):Int))=w51 at *;replace PT:=ι (PT.out.below hb);replace K1:=ι (Rg.acc K1.out hb);clear hb;have CI:=ι hci;clear hci
   by_cases hq:∃ q∈ol,ap z q=ap x i
   case neg =>
    have HIX:=ι (idxJ_no (fun q h1 h2=>hq ⟨q,h1,h2⟩):idxJ (Ma.ofN ol) (fun q=>decide (ap z q.toNat=ap x i)) = -1);have HNO:=ι (agr_none HGA.out HGB.out HCH.out HIN.out GX.out HAG.out.1 HAG.out.2 (fun q h1 h2=>hq ⟨q,by rw [← hol.out]; exact h1,h2⟩));go_upto_region 6 with (fail);have hV0:Below w51.heap.size w51 w51.drew:=(Below.refl _ _).drew;replace PT:=ι (PT.out.below hV0);replace CI:=ι (CI.out.below hV0);replace K1:=ι (Rg.acc K1.out hV0);clear hV0;refine Rg.Any.begin (S:=Rg.Both 10 (fun W=>Below w51.drew.heap.size w51.drew W) (fun W=>Below w2.heap.size w2 W)) mix ?_;generalize w51.drew=w52 at *;have hS:∀ (l:Array Bool) W,Below w52.heap.size w52 W→Below w2.heap.size w2 W→Rg.Both 10 (fun W=>Below w52.heap.size w52 W) (fun W=>Below w2.heap.size w2 W) l W:=fun l W h h2=>⟨.inr h,h2⟩;have hS2:∀ (l:Array Bool) W,l.getD 10 false=true→Below w2.heap.size w2 W→Rg.Both 10 (fun W=>Below w52.heap.size w52 W) (fun W=>Below w2.heap.size w2 W) l W:=fun l W h h2=>⟨.inl h,h2⟩
    have hI:=K1.out;refine Rg.tg 0 10 (.pointer (some ⟨pb,0,none⟩)) 33 rfl rfl (.inl ⟨rfl,fun w _=>Rg.exec_move (v:=.pointer (some ⟨pb,0,none⟩)) _ rfl rfl⟩) (hS _ _ (Below.refl _ _) hI) ?_;go_frame;refine Rg.tg 1 10 (.pointer (some ⟨pb,0,none⟩)) 34 rfl rfl (.inl ⟨rfl,fun w _=>exec_nil _ rfl rfl⟩) (hS _ _ (Below.refl _ _) hI) ?_;go_frame;refine Rg.tg 2 10 (.pointer (some ⟨pb,0,none⟩)) 35 rfl rfl (.inl ⟨rfl,fun w _=>exec_field _ rfl rfl (prF0 _ _)⟩) (hS _ _ (Below.refl _ _) hI) ?_;go_frame;refine Rg.tg 3 10 (.pointer (some ⟨pb,1,none⟩)) 36 rfl rfl (.inl ⟨rfl,fun w _=>exec_field _ rfl rfl (chF1 _ _)⟩) (hS _ _ (Below.refl _ _) hI) ?_;go_frame;refine Rg.tg 4 10 (.slice (some ⟨ob,oo,none⟩) (n+m) oc) 37 rfl rfl (Rg.yields_cell _ _ rfl rfl ⟨pb,1,none⟩ rfl (fun W hW=>Rg.run_loadSl _ _ Try.underlying30 ((Below.cell (p:=⟨pb,1,none⟩) hW P1.out.lt).trans P1.out.cell))) (hS _ _ (Below.refl _ _) hI) ?_;go_frame
    refine Rg.Any.takeT (i:=5) (t:=10) (v:=.int .i64 ((i:Nat):Int)) (some 38) rfl rfl (by kernel_rfl) (by kernel_rfl) (by kernel_rfl) (fun _ _ _ h=>h) rfl (by kernel_rfl) rfl (Rg.yields_cell _ _ rfl rfl ⟨wd.heap.size,0,none⟩ rfl (fun W hW=>run_loadInt ((Below.cell (p:=⟨wd.heap.size,0,none⟩) hW CI.out.lt).trans CI.out.c))) (hS _ _ (Below.refl _ _) hI) ?_;go_frame;refine Rg.tg 6 10 (.pointer (some ⟨ob,oo+i,none⟩)) 39 rfl rfl (Rg.yields_index slIntss _ _ rfl rfl ob (oo) ((n+m)) oc (i) rfl rfl (by omega)) (hS _ _ (Below.refl _ _) hI) ?_;go_frame;refine Rg.tg 7 10 (.slice ua ol.length uc) 40 rfl rfl (Rg.yields_cell _ _ rfl rfl ⟨ob,oo+i,none⟩ rfl (fun W hW=>Rg.run_loadSl _ _ Try.underlying38 ((Below.cell (p:=⟨ob,oo+i,none⟩) hW CO.out.lt).trans CO.out.cell))) (hS _ _ (Below.refl _ _) hI) ?_;go_frame;refine Rg.tg 8 10 ((.func (.func 46) #[] #[.pointer (some ⟨w2.heap.size,0,none⟩),.pointer (some ⟨w.heap.size,0,none⟩),.pointer (some ⟨wd.heap.size,0,none⟩)])) 41 rfl rfl (.inl ⟨rfl,fun w _=>exec_makeFunc3 _ _ _ _ rfl rfl rfl rfl⟩) (hS _ _ (Below.refl _ _) hI) ?_;go_frame
    have hcf:=indexFuncI_any _ (Ma.ofN ol) 46 #[.pointer (some ⟨w2.heap.size,0,none⟩),.pointer (some ⟨w.heap.size,0,none⟩),.pointer (some ⟨wd.heap.size,0,none⟩)] (fun q=>decide (ap z q.toNat=ap x i)) w52 (IO.out.below hI) (by rw [Ma.len_ofN]; omega) clPt1 (pt_asks (CL.mk PT.out.cz.c PT.out.cz.lt) PT.out.fp GZ.out (CL.mk (BX.out.below hI).c (BX.out.below hI).lt) (CX.out.below hI) HIN.out (CL.mk CI.out.c CI.out.lt) HOQ.out);rw [HIX.out] at hcf;refine Rg.Any.one (i:=9) (by kernel_rfl) (Rg.Any.ask (some 42) rfl rfl rfl _ _ (exec_fn 45 _ _ _ rfl rfl rfl (Adcl1 _ _)) ?_);refine (hcf).mono ?_;rintro e1 w53 ⟨rfl,hb⟩;have hI2_0:=Rg.acc hI hb;have hI2_1:=hb;clear hb hI;refine ⟨_,rfl,(hS _ _ hI2_1 hI2_0),?_⟩;go_frame;refine Rg.Any.one (i:=10) (by kernel_rfl) (Rg.Any.run (some 10) rfl rfl rfl (Rg.xa (.int .i64 (-1)) _ rfl rfl) (hS2 _ _ rfl hI2_0) ?_);go_frame;refine Rg.Any.done (by kernel_rfl) ?_ _
    replace PT:=ι (PT.out.below hI2_1);replace CI:=ι (CI.out.below hI2_1);replace K1:=ι hI2_0;clear hS2;clear hS hI2_0 hI2_1;go_upto_region 7 with (fail);refine Rg.wl ?_;refine Rg.lm 43 (.int .i64 (-1)) ?_;go_frame;refine Rg.lr 44 (exec_bin (R:=.bool true) .lss _ _ _ rfl rfl rfl (b_lss _ (decide_eq_true (by omega)))) ?_;go_frame;go_upto_region 8 with (fail);refine Rg.wl ?_;refine Rg.la 4 (.slice none 0 0) ?_;go_frame;refine Rg.la 5 (.bool false) ?_;go_frame;have KT:=ι (show Below w.heap.size w w53 from K.out.trans (K1.out.mono K.out.size));go_wp2
    go_ret2
    exact ⟨.inl ⟨rfl,HNO.out⟩,KT.out⟩
   case pos =>
    obtain ⟨k,hkl,hix,hkq⟩:=idxJ_yes hq;have HIX:=ι hix;have HKL:=ι hkl;obtain ⟨s,hs⟩:∃ s:List Nat,Hid (rl.getD k []=s):=⟨_,ι rfl⟩;have hnx:=agr_next HH.out HCH.out hinm HAG.out.1 HAG.out.2 (k:=k) (by rw [hol.out]; exact hkl) (by rw [hol.out]; exact hkq);rw [hrl.out,hs.out] at hnx;have HNX:=ι hnx;have hrp:=(HCH.out.rep i k hinm (by rw [hol.out]; exact hkl)).1;rw [hrl.out,hs.out] at hrp;have GS:=ι (HH.out.gd _ hrp.1.1)
    have hkr:k<rl.length:=by have:=HLEN.out; omega
    obtain ⟨rb',ro',er,hrb,u,hcu,hu⟩:=CHR.out.at' (k:=i) (by rw [HLR.out]; exact hinm)
    injection er with er
    injection er with e5 e6
    subst e5 e6
    have hrx:(R.map (List.map Ma.ofN))[i]'(by rw [HLR.out]; exact hinm)=rl.map Ma.ofN:=by
     have hXR:i<R.length:=by rw [HCH.out.lenR]; exact hinm
     rw [← hrl.out,List.getElem_map,getD_inf hXR]
    rw [hrx] at hu;obtain ⟨va,vc,rfl,-⟩:=hu.shape;rw [List.length_map] at hcu hu;have CR:=ι (CL.mk hcu hrb);obtain ⟨vb,vo,sa,sc,e7,hvb,hvc,hvi⟩:=rowsI_get hu (i:=k) (by rw [List.length_map]; exact hkr);subst e7
    have hsx:(rl.map Ma.ofN)[k]'(by rw [List.length_map]; exact hkr)=Ma.ofN s:=by
     rw [← hs.out,List.getElem_map,getD_inf hkr]
    rw [hsx] at hvc hvi;rw [Ma.len_ofN,GS.out.2] at hvc hvi;have CS:=ι (CL.mk hvc hvb);have NS:=ι (show Rg.NP w2 (.slice sa (n+m) sc) s from hvi);have HKR:=ι hkr;clear hnx hrp hrx hu hcu hrb hvb hvc hvi hsx;go_upto_region 6 with (fail);have hV0:Below w51.heap.size w51 w51.drew:=(Below.refl _ _).drew;replace PT:=ι (PT.out.below hV0);replace CI:=ι (CI.out.below hV0);replace K1:=ι (Rg.acc K1.out hV0);clear hV0;refine Rg.Any.begin (S:=Rg.Both 10 (fun W=>Below w51.drew.heap.size w51.drew W) (fun W=>Below w2.heap.size w2 W)) mix ?_;generalize w51.drew=w74 at *;have hS:∀ (l:Array Bool) W,Below w74.heap.size w74 W→Below w2.heap.size w2 W→Rg.Both 10 (fun W=>Below w74.heap.size w74 W) (fun W=>Below w2.heap.size w2 W) l W:=fun l W h h2=>⟨.inr h,h2⟩;have hS2:∀ (l:Array Bool) W,l.getD 10 false=true→Below w2.heap.size w2 W→Rg.Both 10 (fun W=>Below w74.heap.size w74 W) (fun W=>Below w2.heap.size w2 W) l W:=fun l W h h2=>⟨.inl h,h2⟩
    have hI:=K1.out;refine Rg.tg 0 10 (.pointer (some ⟨pb,0,none⟩)) 33 rfl rfl (.inl ⟨rfl,fun w _=>Rg.exec_move (v:=.pointer (some ⟨pb,0,none⟩)) _ rfl rfl⟩) (hS _ _ (Below.refl _ _) hI) ?_;go_frame;refine Rg.tg 1 10 (.pointer (some ⟨pb,0,none⟩)) 34 rfl rfl (.inl ⟨rfl,fun w _=>exec_nil _ rfl rfl⟩) (hS _ _ (Below.refl _ _) hI) ?_;go_frame;refine Rg.tg 2 10 (.pointer (some ⟨pb,0,none⟩)) 35 rfl rfl (.inl ⟨rfl,fun w _=>exec_field _ rfl rfl (prF0 _ _)⟩) (hS _ _ (Below.refl _ _) hI) ?_;go_frame;refine Rg.tg 3 10 (.pointer (some ⟨pb,1,none⟩)) 36 rfl rfl (.inl ⟨rfl,fun w _=>exec_field _ rfl rfl (chF1 _ _)⟩) (hS _ _ (Below.refl _ _) hI) ?_;go_frame;refine Rg.tg 4 10 (.slice (some ⟨ob,oo,none⟩) (n+m) oc) 37 rfl rfl (Rg.yields_cell _ _ rfl rfl ⟨pb,1,none⟩ rfl (fun W hW=>Rg.run_loadSl _ _ Try.underlying30 ((Below.cell (p:=⟨pb,1,none⟩) hW P1.out.lt).trans P1.out.cell))) (hS _ _ (Below.refl _ _) hI) ?_;go_frame
    refine Rg.Any.takeT (i:=5) (t:=10) (v:=.int .i64 ((i:Nat):Int)) (some 38) rfl rfl (by kernel_rfl) (by kernel_rfl) (by kernel_rfl) (fun _ _ _ h=>h) rfl (by kernel_rfl) rfl (Rg.yields_cell _ _ rfl rfl ⟨wd.heap.size,0,none⟩ rfl (fun W hW=>run_loadInt ((Below.cell (p:=⟨wd.heap.size,0,none⟩) hW CI.out.lt).trans CI.out.c))) (hS _ _ (Below.refl _ _) hI) ?_;go_frame;refine Rg.tg 6 10 (.pointer (some ⟨ob,oo+i,none⟩)) 39 rfl rfl (Rg.yields_index slIntss _ _ rfl rfl ob (oo) ((n+m)) oc (i) rfl rfl (by omega)) (hS _ _ (Below.refl _ _) hI) ?_;go_frame;refine Rg.tg 7 10 (.slice ua ol.length uc) 40 rfl rfl (Rg.yields_cell _ _ rfl rfl ⟨ob,oo+i,none⟩ rfl (fun W hW=>Rg.run_loadSl _ _ Try.underlying38 ((Below.cell (p:=⟨ob,oo+i,none⟩) hW CO.out.lt).trans CO.out.cell))) (hS _ _ (Below.refl _ _) hI) ?_;go_frame;refine Rg.tg 8 10 ((.func (.func 46) #[] #[.pointer (some ⟨w2.heap.size,0,none⟩),.pointer (some ⟨w.heap.size,0,none⟩),.pointer (some ⟨wd.heap.size,0,none⟩)])) 41 rfl rfl (.inl ⟨rfl,fun w _=>exec_makeFunc3 _ _ _ _ rfl rfl rfl rfl⟩) (hS _ _ (Below.refl _ _) hI) ?_;go_frame
    have hcf:=indexFuncI_any _ (Ma.ofN ol) 46 #[.pointer (some ⟨w2.heap.size,0,none⟩),.pointer (some ⟨w.heap.size,0,none⟩),.pointer (some ⟨wd.heap.size,0,none⟩)] (fun q=>decide (ap z q.toNat=ap x i)) w74 (IO.out.below hI) (by rw [Ma.len_ofN]; omega) clPt1 (pt_asks (CL.mk PT.out.cz.c PT.out.cz.lt) PT.out.fp GZ.out (CL.mk (BX.out.below hI).c (BX.out.below hI).lt) (CX.out.below hI) HIN.out (CL.mk CI.out.c CI.out.lt) HOQ.out);rw [HIX.out] at hcf;refine Rg.Any.one (i:=9) (by kernel_rfl) (Rg.Any.ask (some 42) rfl rfl rfl _ _ (exec_fn 45 _ _ _ rfl rfl rfl (Adcl1 _ _)) ?_);refine (hcf).mono ?_;rintro e1 w75 ⟨rfl,hb⟩;have hI3_0:=Rg.acc hI hb;have hI3_1:=hb;clear hb hI;refine ⟨_,rfl,(hS _ _ hI3_1 hI3_0),?_⟩;go_frame;refine Rg.Any.one (i:=10) (by kernel_rfl) (Rg.Any.run (some 10) rfl rfl rfl (Rg.xa (.int .i64 ((k:Nat):Int)) _ rfl rfl) (hS2 _ _ rfl hI3_0) ?_);go_frame;refine Rg.Any.done (by kernel_rfl) ?_ _
    replace PT:=ι (PT.out.below hI3_1);replace CI:=ι (CI.out.below hI3_1);replace K1:=ι hI3_0;clear hS2;clear hS hI3_0 hI3_1;go_upto_region 7 with (fail);refine Rg.wl ?_;refine Rg.lm 43 (.int .i64 ((k:Nat):Int)) ?_;go_frame;refine Rg.lr 44 (exec_bin (R:=.bool false) .lss _ _ _ rfl rfl rfl (b_lss _ (decide_eq_false (by omega)))) ?_;go_frame;go_upto_region 9 with (fail);have hV0:Below w75.heap.size w75 w75.drew:=(Below.refl _ _).drew;replace PT:=ι (PT.out.below hV0);replace CI:=ι (CI.out.below hV0);replace K1:=ι (Rg.acc K1.out hV0);clear hV0;refine Rg.Any.begin (S:=Rg.Both 16 (fun W=>Below w75.drew.heap.size w75.drew W) (fun W=>Below w2.heap.size w2 W)) mix ?_;generalize w75.drew=w76 at *;have hS:∀ (l:Array Bool) W,Below w76.heap.size w76 W→Below w2.heap.size w2 W→Rg.Both 16 (fun W=>Below w76.heap.size w76 W) (fun W=>Below w2.heap.size w2 W) l W:=fun l W h h2=>⟨.inr h,h2⟩
    have hS2:∀ (l:Array Bool) W,l.getD 16 false=true→Below w2.heap.size w2 W→Rg.Both 16 (fun W=>Below w76.heap.size w76 W) (fun W=>Below w2.heap.size w2 W) l W:=fun l W h h2=>⟨.inl h,h2⟩;have hI:=K1.out;refine Rg.tg 0 16 (.pointer (some ⟨pb,0,none⟩)) 46 rfl rfl (.inl ⟨rfl,fun w _=>Rg.exec_move (v:=.pointer (some ⟨pb,0,none⟩)) _ rfl rfl⟩) (hS _ _ (Below.refl _ _) hI) ?_;go_frame;refine Rg.tg 1 16 (.pointer (some ⟨pb,0,none⟩)) 47 rfl rfl (.inl ⟨rfl,fun w _=>exec_nil _ rfl rfl⟩) (hS _ _ (Below.refl _ _) hI) ?_;go_frame;refine Rg.tg 2 16 (.pointer (some ⟨pb,0,none⟩)) 48 rfl rfl (.inl ⟨rfl,fun w _=>exec_field _ rfl rfl (prF0 _ _)⟩) (hS _ _ (Below.refl _ _) hI) ?_;go_frame;refine Rg.tg 3 16 (.pointer (some ⟨pb,2,none⟩)) 49 rfl rfl (.inl ⟨rfl,fun w _=>exec_field _ rfl rfl (chF2 _ _)⟩) (hS _ _ (Below.refl _ _) hI) ?_;go_frame;refine Rg.tg 4 16 (.slice (some ⟨rb,ro,none⟩) (n+m) rc) 50 rfl rfl (Rg.yields_cell _ _ rfl rfl ⟨pb,2,none⟩ rfl (fun W hW=>Rg.run_loadSl _ _ Try.underlying31 ((Below.cell (p:=⟨pb,2,none⟩) hW P2.out.lt).trans P2.out.cell))) (hS _ _ (Below.refl _ _) hI) ?_;go_frame
    refine Rg.Any.takeT (i:=5) (t:=16) (v:=.int .i64 ((i:Nat):Int)) (some 51) rfl rfl (by kernel_rfl) (by kernel_rfl) (by kernel_rfl) (fun _ _ _ h=>h) rfl (by kernel_rfl) rfl (Rg.yields_cell _ _ rfl rfl ⟨wd.heap.size,0,none⟩ rfl (fun W hW=>run_loadInt ((Below.cell (p:=⟨wd.heap.size,0,none⟩) hW CI.out.lt).trans CI.out.c))) (hS _ _ (Below.refl _ _) hI) ?_;go_frame;refine Rg.tg 6 16 (.pointer (some ⟨rb,ro+i,none⟩)) 52 rfl rfl (Rg.yields_index slPermss _ _ rfl rfl rb (ro) ((n+m)) rc (i) rfl rfl (by omega)) (hS _ _ (Below.refl _ _) hI) ?_;go_frame;refine Rg.tg 7 16 (.slice (some ⟨vb,vo,none⟩) rl.length vc) 53 rfl rfl (Rg.yields_cell _ _ rfl rfl ⟨rb,ro+i,none⟩ rfl (fun W hW=>Rg.run_loadSl _ _ Try.underlying22 ((Below.cell (p:=⟨rb,ro+i,none⟩) hW CR.out.lt).trans CR.out.cell))) (hS _ _ (Below.refl _ _) hI) ?_;go_frame;refine Rg.tg 8 16 (.int .i64 ((k:Nat):Int)) 54 rfl rfl (.inl ⟨rfl,fun w _=>Rg.exec_move (v:=.int .i64 ((k:Nat):Int)) _ rfl rfl⟩) (hS _ _ (Below.refl _ _) hI) ?_;go_frame
    refine Rg.tg 9 16 (.pointer (some ⟨vb,vo+k,none⟩)) 55 rfl rfl (Rg.yields_index slPerms _ _ rfl rfl vb (vo) (rl.length) vc (k) rfl rfl HKR.out) (hS _ _ (Below.refl _ _) hI) ?_;go_frame;refine Rg.tg 10 16 (.slice sa (n+m) sc) 56 rfl rfl (Rg.yields_cell _ _ rfl rfl ⟨vb,vo+k,none⟩ rfl (fun W hW=>Rg.run_loadSl _ _ Try.underlying39 ((Below.cell (p:=⟨vb,vo+k,none⟩) hW CS.out.lt).trans CS.out.cell))) (hS _ _ (Below.refl _ _) hI) ?_;go_frame;refine Rg.Any.takeT (i:=11) (t:=16) (v:=.slice (some ⟨za,zo,none⟩) (n+m) zc) (some 57) rfl rfl (by kernel_rfl) (by kernel_rfl) (by kernel_rfl) (fun _ _ _ h=>h) rfl (by kernel_rfl) rfl (Rg.yields_cell _ _ rfl rfl ⟨w2.heap.size,0,none⟩ rfl (fun W hW=>Rg.run_loadSl _ _ Try.underlying39 ((Below.cell (p:=⟨w2.heap.size,0,none⟩) hW PT.out.cz.lt).trans PT.out.cz.c))) (hS _ _ (Below.refl _ _) hI) ?_;go_frame;have HZ9:=ι (show w2.heap.size<w76.heap.size from PT.out.cz.lt)
    refine Rg.Any.one (i:=12) (by kernel_rfl) (Rg.Any.ask (some 58) rfl rfl rfl _ _ (exec_fn 47 _ _ _ rfl rfl rfl (Adcl2 _ _)) ?_);refine (permMul_ok _ _ s z w76 (NS.out.below hI) PT.out.fp.np GS.out.1 GZ.out.1 (by rw [GS.out.2,GZ.out.2]) (by rw [GS.out.2]; omega) (by rw [GS.out.2]; exact hnm)).mono ?_;rintro e1 w77 ⟨mv,rfl,hmv,hb⟩;have hmf:=pt_new HZ9.out hmv;obtain ⟨ma,mo,mc,rfl⟩:=hmf.shape' (Cm.gd_mul GS.out GZ.out) (by omega);clear hmv;have hI4_0:=Rg.acc hI hb;have hI4_1:=hb;clear hb hI;refine ⟨_,rfl,(hS _ _ hI4_1 hI4_0),?_⟩;go_frame;have MV:=ι hmf;refine Rg.tg 13 16 (.tuple #[.slice (some ⟨ma,mo,none⟩) (n+m) mc,.int .i64 0]) 45 rfl rfl (.inl ⟨rfl,fun w _=>Rg.exec_move (v:=.tuple #[.slice (some ⟨ma,mo,none⟩) (n+m) mc,.int .i64 0]) _ rfl rfl⟩) (hS _ _ hI4_1 hI4_0) ?_;go_frame;refine Rg.tg 14 16 (.slice (some ⟨ma,mo,none⟩) (n+m) mc) 59 rfl rfl (.inl ⟨rfl,fun w _=>exec_extract (v:=.slice (some ⟨ma,mo,none⟩) (n+m) mc) _ _ rfl rfl rfl⟩) (hS _ _ hI4_1 hI4_0) ?_;go_frame
    refine Rg.tg 15 16 (.int .i64 0) 60 rfl rfl (.inl ⟨rfl,fun w _=>exec_extract (v:=.int .i64 0) _ _ rfl rfl rfl⟩) (hS _ _ hI4_1 hI4_0) ?_;go_frame;have PT9:=ι (PT.out.below hI4_1);have MV9:=ι MV.out;have hI5_g:=hI4_0.setCell (p:=⟨w2.heap.size,0,none⟩) (Nat.le_refl _) (.slice (some ⟨ma,mo,none⟩) (n+m) mc);refine Rg.Any.one (i:=16) (by kernel_rfl) (Rg.Any.runSkip none rfl rfl rfl (Rg.exec_store _ _ _ rfl _ rfl _ rfl (Rg.run_storeSl _ infoPerm PT9.out.cz.c PT9.out.cz.f)) (hS2 _ _ rfl hI5_g) ?_);go_frame;clear hI4_0 hI4_1;clear PT;clear CI;clear MV;refine Rg.Any.done (by kernel_rfl) ?_ _;replace K1:=ι hI5_g;clear hS2;clear hS hI5_g;have hpt2:=PT9.out.set MV9.out;generalize w77.setCell ⟨w2.heap.size,0,none⟩ (.slice (some ⟨ma,mo,none⟩) (n+m) mc)=w98 at *;have PT2:=ι hpt2;clear hpt2;go_upto_region 10 with (fail);refine Rg.wl ?_;refine Rg.lr 61 (exec_bin (R:=.int .i64 (((i+1):Nat):Int)) .add _ _ _ rfl rfl rfl (b_add _ (by omega) (by omega))) ?_;go_frame
    refine Rg.lm 30 (.int .i64 (((i+1):Nat):Int)) ?_;go_frame;go_wp2
    go_roundw
    case rel=>exact ⟨i+1,_,_,by go_num,HIN.out,PT2,HNX⟩
    case measure=>simp [intOf]; have:=HIN.out; omega
  case neg =>
   have hie:i=n:=by omega
   obtain ⟨b,hgb,hzb,hib⟩:=agr_all HGA.out HGB.out GX.out HAG.out.1 (by have:=HAG.out.2; rw [hie] at this; exact this);have GB:=ι hgb;have HIB:=ι (show ImR m (PG2 n m A B) x (some b) from ⟨hgb,hib⟩);have HZQ:=ι (show ∀ t,t<m→ap z (n+t)=n+ap b t from fun t ht=>by rw [hzb,ap_jn2 GX.out hgb ht])
   have hm64:m≤64:=by omega
   clear hgb hzb hib;go_upto_region 4 with (fail);refine Rg.wl ?_;refine Rg.lr 31 (exec_bin (R:=.bool false) .lss _ _ _ rfl rfl rfl (b_lss _ (decide_eq_false (by omega)))) ?_;go_frame;go_upto_region 11 with (fail);refine Rg.wl ?_;refine Rg.lm 62 (.pointer (some ⟨pb,0,none⟩)) ?_;go_frame;refine Rg.lr 63 (exec_nil _ rfl rfl) ?_;go_frame;refine Rg.lr 64 (exec_field _ rfl rfl (prF2 _ _)) ?_;go_frame;refine Rg.lr 65 (exec_field _ rfl rfl (grF5_0 _ _)) ?_;go_frame;refine Rg.lr 66 (Rg.exec_load (v:=.int .i64 ((m:Nat):Int)) _ _ rfl ⟨pb,5,none⟩ rfl (run_loadInt ((Below.cell (p:=⟨pb,5,none⟩) K1.out P5.out.lt).trans P5.out.cell))) ?_;go_frame;refine Rg.lr 67 (exec_makeSlice _ _ _ rfl _ _ rfl rfl (mkPerm m (by omega) wd)) ?_;go_frame;refine Rg.la 11 (.slice (some ⟨wd.heap.size,0,none⟩) m m) ?_;go_frame;have hrw:=made_rowH wd m;have hbw:Below wd.heap.size wd (wd.alloc (.cells (madeCells #[.int .i64 0] m) 3)):=(Below.refl _ _).alloc (Nat.le_refl _) _
   obtain ⟨gb,hgb⟩:∃ b,wd.heap.size=b:=⟨_,rfl⟩;have HGB2:=ι (show wd.heap.size≤gb from Nat.le_of_eq hgb);rw [hgb] at hrw ⊢;generalize wd.alloc (.cells (madeCells #[.int .i64 0] m) 3)=wf at *;have RW:=ι (show RwAt wf gb m (fun t=>if t<0 then ((ap z (n+t):Nat):Int) - ((n:Nat):Int) else 0) from hrw.congr (fun i _=>by rw [if_neg (Nat.not_lt_zero _)]));have KE:=ι hbw;clear hrw hbw hgb;go_upto_region 12 with (fail);refine Rg.wl ?_;refine Rg.lm 68 (.slice (some ⟨gb,0,none⟩) m m) ?_;go_frame;refine Rg.lr 69 (exec_len _ _ _ rfl Try.underlying39 _ _ _ rfl) ?_;go_frame;refine Rg.lm 70 (.int .i64 ((0:Nat):Int)) ?_;go_frame;go_wp2
   go_loopw [70] (fun iv wr=>∃ t:Nat,iv=.int .i64 ((t:Nat):Int)∧t≤m∧Hid (RwAt wr gb m (fun s=>if s<t then ((ap z (n+s):Nat):Int) - ((n:Nat):Int) else 0))∧Hid (Below wd.heap.size wd wr)) (fun iv _=>m - (intOf iv).toNat)
   case atStart=>exact ⟨0,rfl,Nat.zero_le _,RW,KE⟩
   case round =>
    clear RW KE;obtain ⟨t,rfl,ht,RW,KE⟩:=hrel;generalize wr=wg at *;have KX:=ι (Rg.acc K1.out KE.out)
    by_cases htm:t<m
    case pos =>
     have HTM:=ι htm
     have hnt:n+t<n+m:=by omega
     have PTX:=ι (PT.out.below KE.out);obtain ⟨q,hq⟩:∃ q:Nat,Hid (ap z (n+t)=q):=⟨_,ι rfl⟩
     have hqb:q<n+m:=by rw [← hq.out]; exact Cm.ap_lt GZ.out hnt
     have hzc:=PTX.out.fp.ap GZ.out hnt;rw [hq.out] at hzc;have CQ:=ι (CL.mk hzc.cell hzc.lt);clear hzc;go_upto_region 13 with (fail);refine Rg.wl ?_;refine Rg.lr 71 (exec_bin (R:=.bool true) .lss _ _ _ rfl rfl rfl (b_lss _ (decide_eq_true (by omega)))) ?_;go_frame;go_upto_region 14 with (fail);refine Rg.wl ?_;refine Rg.lm 72 (.int .i64 ((t:Nat):Int)) ?_;go_frame;refine Rg.la 12 (.int .i64 ((t:Nat):Int)) ?_;go_frame;go_upto_region 15 with (fail);refine Rg.wl ?_;refine Rg.lm 73 (.slice (some ⟨gb,0,none⟩) m m) ?_;go_frame;refine Rg.lm 74 (.int .i64 ((t:Nat):Int)) ?_;go_frame;refine Rg.lr 75 (Rg.exec_load (v:=.slice (some ⟨za,zo,none⟩) (n+m) zc) _ _ rfl ⟨w2.heap.size,0,none⟩ rfl (Rg.run_loadSl _ _ Try.underlying39 PTX.out.cz.c)) ?_;go_frame;refine Rg.lm 76 (.int .i64 ((n:Nat):Int)) ?_;go_frame;refine Rg.lm 77 (.int .i64 ((t:Nat):Int)) ?_;go_frame;refine Rg.lr 78 (exec_bin (R:=.int .i64 (((n+t):Nat):Int)) .add _ _ _ rfl rfl rfl (b_add _ (by omega) (by omega))) ?_;go_frame
     refine Rg.lr 79 (exec_indexS slPerm _ _ rfl za (zo) ((n+m)) zc ((n+t)) rfl rfl hnt) ?_;go_frame;refine Rg.lr 80 (Rg.exec_load (v:=.int .i64 ((q:Nat):Int)) _ _ rfl ⟨za,zo+(n+t),none⟩ rfl (run_loadInt CQ.out.cell)) ?_;go_frame;refine Rg.lm 81 (.int .i64 ((n:Nat):Int)) ?_;go_frame;refine Rg.lr 82 (exec_bin (R:=.int .i64 (((q:Nat):Int) - ((n:Nat):Int))) .sub _ _ _ rfl rfl rfl (b_sub _ (by omega) (by omega))) ?_;go_frame;refine Rg.lr 83 (exec_indexS slPerm _ _ rfl gb (0) (m) m (t) rfl rfl HTM.out) ?_;go_frame;refine Rg.list_skip none rfl rfl (Rg.exec_store _ _ _ rfl _ rfl _ rfl (run_storeInt (((q:Nat):Int) - ((n:Nat):Int)) (by rw [Nat.zero_add]; exact RW.out.2.1 t HTM.out) (by rw [Nat.zero_add]; exact RW.out.2.2 t))) ?_;go_frame
     have hrw:RwAt (wg.setCell ⟨gb,0+t,none⟩ (.int .i64 (((q:Nat):Int) - ((n:Nat):Int)))) gb m (fun s=>if s<t+1 then ((ap z (n+s):Nat):Int) - ((n:Nat):Int) else 0):=by
      rw [Nat.zero_add];exact (RW.out.set t _ HTM.out).congr (fill_step (X:=fun s=>((ap z (n+s):Nat):Int) - ((n:Nat):Int)) (by rw [hq.out]))
     have hkw:=KE.out.setCell (p:=⟨gb,0+t,none⟩) HGB2.out (.int .i64 (((q:Nat):Int) - ((n:Nat):Int)));generalize wg.setCell ⟨gb,0+t,none⟩ (.int .i64 (((q:Nat):Int) - ((n:Nat):Int)))=wh at *;have RW2:=ι hrw;have KE2:=ι hkw;clear hrw hkw;go_upto_region 16 with (fail);refine Rg.wl ?_;refine Rg.lr 84 (exec_bin (R:=.int .i64 (((t+1):Nat):Int)) .add _ _ _ rfl rfl rfl (b_add _ (by omega) (by omega))) ?_;go_frame;refine Rg.lm 70 (.int .i64 (((t+1):Nat):Int)) ?_;go_frame;go_wp2
     go_roundw
     case rel=>exact ⟨t+1,by go_num,HTM.out,RW2,KE2⟩
     case measure=>simp [intOf]; have:=HTM.out; omega
    case neg =>
     have HYI:=ι (show Rg.NP wg (.slice (some ⟨gb,0,none⟩) m m) b by
      have h5:=rwat_ints RW.out (Nat.le_refl _) (by unfold maxLen; omega:m≤maxLen) (by omega)
      have e5:(List.range m).map (fun s=>if s<t then ((ap z (n+s):Nat):Int) - ((n:Nat):Int) else 0)=Ma.ofN b:=by
       refine List.ext_getElem (by rw [List.length_map,List.length_range,Ma.len_ofN,GB.out.2]) fun j h1 h2=>?_
       have hj:j<m:=by rw [List.length_map,List.length_range] at h1; exact h1
       rw [List.getElem_map,List.getElem_range,if_pos (by omega),HZQ.out j hj,Ma.get_ofN,Cm.ap_at (by rw [GB.out.2]; exact hj)];omega
      rw [e5] at h5
      exact h5)
     have KT:=ι (show Below w.heap.size w wg from K.out.trans (KX.out.mono K.out.size));go_upto_region 13 with (fail);refine Rg.wl ?_;refine Rg.lr 71 (exec_bin (R:=.bool false) .lss _ _ _ rfl rfl rfl (b_lss _ (decide_eq_false (by omega)))) ?_;go_frame;go_upto_region 17 with (fail);refine Rg.wl ?_;refine Rg.lm 85 (.slice (some ⟨gb,0,none⟩) m m) ?_;go_frame;refine Rg.la 4 (.slice (some ⟨gb,0,none⟩) m m) ?_;go_frame;refine Rg.la 5 (.bool true) ?_;go_frame;go_wp2
     go_ret2
     exact ⟨.inr ⟨_,b,rfl,HYI.out,HIB.out⟩,KT.out⟩

theorem Aecl2 (args:Array Value) (w:World):(callFunc 31 args).run Try.prog w=.ok (.enter 31 args) w:=by kernel_rfl
theorem Aecl3 (args:Array Value) (w:World):(callFunc 32 args).run Try.prog w=.ok (.enter 32 args) w:=by kernel_rfl
def elC (xl:List Int) (d:Int):Int:=if Ma.pchk xl=0 then (if (xl.length:Int)=d then 0 else 10) else Ma.pchk xl
theorem elC_1 {xl:List Int} {d:Int} (h:Ma.pchk xl≠0):elC xl d=Ma.pchk xl:=by unfold elC; rw [if_neg h]
theorem elC_2 {xl:List Int} {d:Int} (h:Ma.pchk xl=0) (h2:¬ (xl.length:Int)=d):elC xl d=10:=by unfold elC; rw [if_pos h,if_neg h2]
theorem elC_3 {xl:List Int} {d:Int} (h:Ma.pchk xl=0) (h2:(xl.length:Int)=d):elC xl d=0:=by unfold elC; rw [if_pos h,if_pos h2]
theorem elC_get {xl:List Int} {n:Nat} (h:elC xl ((n:Nat):Int)=0):∃ x,xl=Ma.ofN x∧Gd n x:=by
 by_cases h1:Ma.pchk xl=0
 ·by_cases h2:(xl.length:Int)=((n:Nat):Int)
  ·obtain ⟨x,rfl,hx⟩:=Ma.okL_ofN (Ma.pchk_zero h1).2.2
   rw [Ma.len_ofN] at h2;exact ⟨x,rfl,hx,by omega⟩
  ·rw [elC_2 h1 h2] at h; cases h
 ·rw [elC_1 h1] at h; exact absurd h h1
def ElPost' (xl:List Int) (d:Int) (w:World) (ed:Ending) (w':World):Prop:=ed=.returned (.int .i64 (elC xl d))∧Below w.heap.size w w'
def HiV (d e:Int) (L M:List (List Int)) (xl:List Int) (l:List Int) (c:Int):Prop :=
 (rtC d e L M≠0∧c=rtC d e L M∧l=[])∨(rtC d e L M=0∧elC xl d≠0∧c=elC xl d∧l=[]) ∨
 (rtC d e L M=0∧elC xl d=0∧∃ n m A B x r,HomG d e L M n m A B∧DefH n m (PG2 n m A B)∧xl=Ma.ofN x∧Gd n x∧ImR m (PG2 n m A B) x r∧c=(if r=none then 18 else 0)∧l=Ma.ofN (r.getD []))
theorem HomG.uniq {d e:Int} {L M:List (List Int)} {n m:Nat} {A B:List (List Nat)} {n' m':Nat} {A' B':List (List Nat)} (h:HomG d e L M n m A B) (h':HomG d e L M n' m' A' B'):n=n'∧m=m'∧A=A'∧B=B':=by
 refine ⟨?_,?_,?_,?_⟩
 ·have:=h.dn; have:=h'.dn; omega
 ·have:=h.em; have:=h'.em; omega
 ·exact map_ofN_inj (h.la.symm.trans h'.la)
 ·exact map_ofN_inj (h.mb.symm.trans h'.mb)
theorem HiV.uniq {d e:Int} {L M:List (List Int)} {xl l l':List Int} {c c':Int} (h:HiV d e L M xl l c) (h':HiV d e L M xl l' c'):l=l'∧c=c':=by
 rcases h with ⟨h1,rfl,rfl⟩ | ⟨h1,h2,rfl,rfl⟩ | ⟨h1,h2,n,m,A,B,x,r,h3,h4,h5,h6,h7,rfl,rfl⟩
 ·rcases h' with ⟨g1,rfl,rfl⟩ | ⟨g1,g2,rfl,rfl⟩ | ⟨g1,g2,_⟩
  ·exact ⟨rfl,rfl⟩
  ·exact absurd g1 h1
  ·exact absurd g1 h1
 ·rcases h' with ⟨g1,rfl,rfl⟩ | ⟨g1,g2,rfl,rfl⟩ | ⟨g1,g2,_⟩
  ·exact absurd h1 g1
  ·exact ⟨rfl,rfl⟩
  ·exact absurd g2 h2
 ·rcases h' with ⟨g1,rfl,rfl⟩ | ⟨g1,g2,rfl,rfl⟩ | ⟨g1,g2,n',m',A',B',x',r',g3,g4,g5,g6,g7,rfl,rfl⟩
  ·exact absurd h1 g1
  ·exact absurd h2 g2
  ·obtain ⟨rfl,rfl,rfl,rfl⟩:=h3.uniq g3
   have e:x=x':=Ma.ofN_inj (h5.symm.trans g5);subst e;have e2:=ImR.uniq (pg_isG h3.ga h3.gb) h4 h6 h7 g7;subst e2;exact ⟨rfl,rfl⟩
def PtC (n m:Nat) (A B:List (List Nat)) (x:List Nat) (w':World) (v:Value) (b:Bool):Prop:=match b with
 | false=>v=.slice none 0 0∧ImR m (PG2 n m A B) x none
 | true=>∃ y,Rg.NP w' v y∧ImR m (PG2 n m A B) x (some y)
theorem partner_c {d e:Int} {gv hv:Value} {oa:Option Addr} {oc:Nat} {ra:Option Addr} {rc:Nat} {L M:List (List Int)} {n m:Nat} {A B:List (List Nat)} {pb:Nat} {w:World} (h:PrAt w pb d e gv hv oa oc ra rc L M) (hm:HomG d e L M n m A B) {xv:Value} {x:List Nat} (hx:Rg.NP w xv x) (gx:Gd n x) :
  Calls Try.prog 32 #[.pointer (some ⟨pb,0,none⟩),xv] w fun ed w'=>∃ v b,ed=.returned (.tuple #[v,.bool b])∧PtC n m A B x w' v b∧Below w.heap.size w w':=by
 refine (partner_any h hm hx gx).mono ?_
 rintro ed w' ⟨⟨rfl,h1⟩ | ⟨v,y,rfl,h1,h2⟩,hb⟩
 ·exact ⟨_,false,rfl,⟨rfl,h1⟩,hb⟩
 ·exact ⟨v,true,rfl,⟨y,h1,h2⟩,hb⟩
def HiPost (d e:Int) (L M:List (List Int)) (xl:List Int) (w:World) (ed:Ending) (w':World):Prop:=∃ v c l,ed=.returned (.tuple #[v,.int .i64 c])∧Rg.Ints w' v l∧HiV d e L M xl l c∧Below w.heap.size w w'
theorem ints_nil (w:World):Rg.Ints w (.slice none 0 0) []:=(show FP (fun _=>True) w (.slice none 0 0) [] from ⟨none,0,rfl,Nat.le_refl _,Nat.zero_le _,Nat.zero_le _,fun h=>absurd h (Nat.lt_irrefl 0)⟩).np
theorem rtC_hom {d e:Int} {L M:List (List Int)} (h:rtC d e L M=0):homC d e L M=0:=by
 by_cases q:homC d e L M=0
 ·exact q
 ·have h5:=rtC_bad q
  rw [h] at h5;exact h5.symm
theorem rtC_def {d e:Int} {L M:List (List Int)} (h:rtC d e L M=0):dfB d.toNat (pO (d+e) (prL L M))=true:=by
 by_cases q:dfB d.toNat (pO (d+e) (prL L M))=true
 ·exact q
 ·rw [rtC_no (rtC_hom h) (by simpa using q)] at h; cases h
theorem element_any {xv:Value} {xl:List Int} {d:Int} {w:World} (h:Rg.Ints w xv xl) :
  Calls Try.prog 31 #[xv,.int .i64 d] w (ElPost' xl d w):=by
 obtain ⟨xa,xc,rfl,-⟩:=h.shape;have HX:=ι h;have K:=ι (Below.refl w.heap.size w);clear h;obtain ⟨c,hc0⟩:∃ c,Hid (Ma.pchk xl=c):=⟨_,ι rfl⟩
 go_enter Try.func31,Try.ntmps31
 go_upto_region 0 with (fail);refine Rg.wl ?_;refine Rg.la 4 (.int .i64 0) ?_;go_frame;go_upto_region 1 with (fail);refine Rg.wl ?_;refine Rg.lm 6 (.slice xa xl.length xc) ?_;go_frame;refine list_ask (some 7) rfl rfl _ _ (exec_fn1 43 _ _ rfl rfl (Kucl0 _ _)) ?_;refine (permCheck_any _ _ w HX.out).mono ?_;rintro e1 w1 ⟨rfl,hb⟩;rw [hc0.out];refine ⟨_,rfl,?_⟩;go_frame;replace HX:=ι (HX.out.below hb);replace K:=ι (Rg.acc K.out hb);clear hb;refine Rg.la 5 (.int .i64 c) ?_;go_frame
 by_cases h0:c=0
 case neg =>
  have HR:=ι (show elC xl d=c by rw [elC_1 (by rw [hc0.out]; exact h0),hc0.out]);go_upto_region 2 with (fail);refine Rg.wl ?_;refine Rg.lm 8 (.int .i64 c) ?_;go_frame;refine Rg.lr 9 (exec_bin (R:=.bool true) .neq _ _ _ rfl rfl rfl (b_neqB _ (decide_eq_true h0))) ?_;go_frame;go_upto_region 3 with (fail);refine Rg.wl ?_;refine Rg.lm 10 (.int .i64 c) ?_;go_frame;refine Rg.la 4 (.int .i64 c) ?_;go_frame;go_wp2;go_ret;exact ⟨by rw [HR.out]; rfl,K.out⟩
 case pos =>
  have HZ:=ι (hc0.out.trans h0);have hxl:xl.length≤64:=(Ma.pchk_zero HZ.out).2.1;go_upto_region 2 with (fail);refine Rg.wl ?_;refine Rg.lm 8 (.int .i64 c) ?_;go_frame;refine Rg.lr 9 (exec_bin (R:=.bool false) .neq _ _ _ rfl rfl rfl (b_neqB _ (decide_eq_false (fun q=>q h0)))) ?_;go_frame
  by_cases h1:(xl.length:Int)=d
  case neg =>
   have HR:=ι (elC_2 HZ.out h1);go_upto_region 4 with (fail);refine Rg.wl ?_;refine Rg.lm 11 (.slice xa xl.length xc) ?_;go_frame;refine Rg.lr 12 (exec_len _ _ _ rfl Try.underlying39 _ _ _ rfl) ?_;go_frame;refine Rg.lm 13 (.int .i64 d) ?_;go_frame;refine Rg.lr 14 (exec_bin (R:=.bool true) .neq _ _ _ rfl rfl rfl (b_neqB _ (decide_eq_true h1))) ?_;go_frame;go_upto_region 5 with (fail);refine Rg.wl ?_;refine Rg.la 4 (.int .i64 10) ?_;go_frame;go_wp2;go_ret;exact ⟨by rw [HR.out]; rfl,K.out⟩
  case pos =>
   have HR:=ι (elC_3 HZ.out h1);go_upto_region 4 with (fail);refine Rg.wl ?_;refine Rg.lm 11 (.slice xa xl.length xc) ?_;go_frame;refine Rg.lr 12 (exec_len _ _ _ rfl Try.underlying39 _ _ _ rfl) ?_;go_frame;refine Rg.lm 13 (.int .i64 d) ?_;go_frame;refine Rg.lr 14 (exec_bin (R:=.bool false) .neq _ _ _ rfl rfl rfl (b_neqB _ (decide_eq_false (fun q=>q h1)))) ?_;go_frame;go_upto_region 6 with (fail);refine Rg.wl ?_;refine Rg.la 4 (.int .i64 0) ?_;go_frame;go_wp2;go_ret;exact ⟨by rw [HR.out]; rfl,K.out⟩
theorem Image_hom {d e:Int} {gv hv xv:Value} {L M:List (List Int)} {xl:List Int} {w:World} (h:Rg.Rows w gv L) (h':Rg.Rows w hv M) (hx:Rg.Ints w xv xl) :
  Calls Try.prog 15 #[.agg #[.int .i64 d,gv],.agg #[.int .i64 e,hv],xv] w (HiPost d e L M xl w):=by
 obtain ⟨ga,gc,rfl,-⟩:=h.shape;obtain ⟨ha,hc,rfl,-⟩:=h'.shape;obtain ⟨xa,xc,rfl,-⟩:=hx.shape;have HG:=ι h;have HH:=ι h';have HX:=ι hx;have K:=ι (Below.refl w.heap.size w);clear h h' hx;obtain ⟨c,hc0⟩:∃ c,Hid (rtC d e L M=c):=⟨_,ι rfl⟩;obtain ⟨c2,hc2⟩:∃ c,Hid (elC xl d=c):=⟨_,ι rfl⟩
 go_enter Try.func15,Try.ntmps15
 go_upto_region 0 with (fail);refine Rg.wl ?_;have hbx:=box2t w (.int .i64 d) (.slice ga L.length gc) 24;refine Rg.lr 3 (Rg.exec_box _ _ rfl rfl) ?_;go_frame;have hb:=(Below.refl w.heap.size w).alloc (Nat.le_refl _) (.cells #[.int .i64 d,.slice ga L.length gc] 24);generalize w.alloc (.cells #[.int .i64 d,.slice ga L.length gc] 24)=w1 at *;replace HG:=ι (HG.out.below hb);replace HH:=ι (HH.out.below hb);replace HX:=ι (HX.out.below hb);replace K:=ι (Rg.acc K.out hb);clear hb;have G0:=ι hbx.1;have G1:=ι hbx.2;clear hbx;have hbx:=box2t w1 (.int .i64 e) (.slice ha M.length hc) 24;refine Rg.lr 4 (Rg.exec_box _ _ rfl rfl) ?_;go_frame;have hb:=(Below.refl w1.heap.size w1).alloc (Nat.le_refl _) (.cells #[.int .i64 e,.slice ha M.length hc] 24);generalize w1.alloc (.cells #[.int .i64 e,.slice ha M.length hc] 24)=w2 at *;replace HG:=ι (HG.out.below hb);replace HH:=ι (HH.out.below hb)
 replace HX:=ι (HX.out.below hb);replace G0:=ι (G0.out.below hb);replace G1:=ι (G1.out.below hb);replace K:=ι (Rg.acc K.out hb);clear hb;have H0:=ι hbx.1;have H1:=ι hbx.2;clear hbx;refine Rg.la 6 (.slice none 0 0) ?_;go_frame;refine Rg.la 7 (.int .i64 0) ?_;go_frame
 by_cases h0:c=0
 case neg =>
  have HV:=ι (show HiV d e L M xl [] c from .inl ⟨by rw [hc0.out]; exact h0,hc0.out.symm,rfl⟩);go_upto_region 1 with (fail);refine Rg.wl ?_;refine Rg.lr 14 (Rg.exec_load (v:=.agg #[.int .i64 d,.slice ga L.length gc]) _ _ rfl ⟨w.heap.size,0,none⟩ rfl (run_loadG G0.out.cell G1.out.cell)) ?_;go_frame;refine Rg.lr 15 (Rg.exec_load (v:=.agg #[.int .i64 e,.slice ha M.length hc]) _ _ rfl ⟨w1.heap.size,0,none⟩ rfl (run_loadG H0.out.cell H1.out.cell)) ?_;go_frame;refine list_ask (some 16) rfl rfl _ _ (exec_fn 22 _ _ _ rfl rfl rfl (Kxcl4 _ _)) ?_;refine (right_any' HG.out HH.out).mono ?_;rintro e1 w3 ⟨pv,rfl,_,hb⟩;rw [hc0.out];refine ⟨_,rfl,?_⟩;go_frame;replace HG:=ι (HG.out.below hb);replace HH:=ι (HH.out.below hb);replace HX:=ι (HX.out.below hb);replace G0:=ι (G0.out.below hb);replace G1:=ι (G1.out.below hb);replace H0:=ι (H0.out.below hb);replace H1:=ι (H1.out.below hb)
  replace K:=ι (Rg.acc K.out hb);clear hb;refine Rg.lm 13 (.tuple #[pv,.int .i64 c]) ?_;go_frame;refine Rg.lr 17 (exec_extract (v:=pv) _ _ rfl rfl rfl) ?_;go_frame;refine Rg.lr 18 (exec_extract (v:=.int .i64 c) _ _ rfl rfl rfl) ?_;go_frame;refine Rg.la 8 (pv) ?_;go_frame;refine Rg.la 9 (.int .i64 c) ?_;go_frame;go_upto_region 2 with (fail);refine Rg.wl ?_;refine Rg.lm 19 (.int .i64 c) ?_;go_frame;refine Rg.lr 20 (exec_bin (R:=.bool true) .neq _ _ _ rfl rfl rfl (b_neqB _ (decide_eq_true h0))) ?_;go_frame;go_upto_region 3 with (fail);refine Rg.wl ?_;refine Rg.lm 21 (.int .i64 c) ?_;go_frame;refine Rg.la 6 (.slice none 0 0) ?_;go_frame;refine Rg.la 7 (.int .i64 c) ?_;go_frame;go_wp2
  go_ret2
  exact ⟨_,_,[],rfl,ints_nil _,HV.out,K.out⟩
 case pos =>
  have HZ:=ι (hc0.out.trans h0);obtain ⟨n,m,A,B,hmg⟩:=homC_get (rtC_hom HZ.out);have HMG:=ι hmg;have HDN:=ι hmg.dn;clear hmg;go_upto_region 1 with (fail);refine Rg.wl ?_;refine Rg.lr 14 (Rg.exec_load (v:=.agg #[.int .i64 d,.slice ga L.length gc]) _ _ rfl ⟨w.heap.size,0,none⟩ rfl (run_loadG G0.out.cell G1.out.cell)) ?_;go_frame;refine Rg.lr 15 (Rg.exec_load (v:=.agg #[.int .i64 e,.slice ha M.length hc]) _ _ rfl ⟨w1.heap.size,0,none⟩ rfl (run_loadG H0.out.cell H1.out.cell)) ?_;go_frame;refine list_ask (some 16) rfl rfl _ _ (exec_fn 22 _ _ _ rfl rfl rfl (Kxcl4 _ _)) ?_;refine (right_any' HG.out HH.out).mono ?_;rintro e1 w14 ⟨pv,rfl,hpv,hb⟩;rw [HZ.out];obtain ⟨pb,oa,oc,ra,rc,rfl,hpa⟩:=hpv (rtC_hom HZ.out);refine ⟨_,rfl,?_⟩;go_frame;replace HG:=ι (HG.out.below hb);replace HH:=ι (HH.out.below hb);replace HX:=ι (HX.out.below hb);replace G0:=ι (G0.out.below hb)
  replace G1:=ι (G1.out.below hb);replace H0:=ι (H0.out.below hb);replace H1:=ι (H1.out.below hb);replace K:=ι (Rg.acc K.out hb);clear hb;have PA:=ι hpa;refine Rg.lm 13 (.tuple #[.pointer (some ⟨pb,0,none⟩),.int .i64 0]) ?_;go_frame;refine Rg.lr 17 (exec_extract (v:=.pointer (some ⟨pb,0,none⟩)) _ _ rfl rfl rfl) ?_;go_frame;refine Rg.lr 18 (exec_extract (v:=.int .i64 0) _ _ rfl rfl rfl) ?_;go_frame;refine Rg.la 8 (.pointer (some ⟨pb,0,none⟩)) ?_;go_frame;refine Rg.la 9 (.int .i64 0) ?_;go_frame;clear hpv hpa;go_upto_region 2 with (fail);refine Rg.wl ?_;refine Rg.lm 19 (.int .i64 0) ?_;go_frame;refine Rg.lr 20 (exec_bin (R:=.bool false) .neq _ _ _ rfl rfl rfl (b_neqB _ (decide_eq_false (fun q=>q rfl)))) ?_;go_frame;go_upto_region 4 with (fail);refine Rg.wl ?_;refine Rg.lm 22 (.slice xa xl.length xc) ?_;go_frame;refine Rg.lr 23 (exec_fieldG0 _ rfl rfl) ?_;go_frame;refine Rg.lr 24 (Rg.exec_load (v:=.int .i64 d) _ _ rfl ⟨w.heap.size,0,none⟩ rfl (run_loadInt G0.out.cell)) ?_;go_frame
  refine list_ask (some 25) rfl rfl _ _ (exec_fn 31 _ _ _ rfl rfl rfl (Aecl2 _ _)) ?_;refine (element_any (d:=d) HX.out).mono ?_;rintro e1 w15 ⟨rfl,hb⟩;rw [hc2.out];refine ⟨_,rfl,?_⟩;go_frame;replace HG:=ι (HG.out.below hb);replace HH:=ι (HH.out.below hb);replace HX:=ι (HX.out.below hb);replace G0:=ι (G0.out.below hb);replace G1:=ι (G1.out.below hb);replace H0:=ι (H0.out.below hb);replace H1:=ι (H1.out.below hb);replace PA:=ι (PA.out.below hb);replace K:=ι (Rg.acc K.out hb);clear hb;refine Rg.la 10 (.int .i64 c2) ?_;go_frame
  by_cases h2:c2=0
  case neg =>
   have HV:=ι (show HiV d e L M xl [] c2 from .inr (.inl ⟨HZ.out,by rw [hc2.out]; exact h2,hc2.out.symm,rfl⟩));go_upto_region 5 with (fail);refine Rg.wl ?_;refine Rg.lm 26 (.int .i64 c2) ?_;go_frame;refine Rg.lr 27 (exec_bin (R:=.bool true) .neq _ _ _ rfl rfl rfl (b_neqB _ (decide_eq_true h2))) ?_;go_frame;go_upto_region 6 with (fail);refine Rg.wl ?_;refine Rg.lm 28 (.int .i64 c2) ?_;go_frame;refine Rg.la 6 (.slice none 0 0) ?_;go_frame;refine Rg.la 7 (.int .i64 c2) ?_;go_frame;go_wp2
   go_ret2
   exact ⟨_,_,[],rfl,ints_nil _,HV.out,K.out⟩
  case pos =>
   have HZ2:=ι (hc2.out.trans h2);obtain ⟨x,hxx,hgx⟩:=elC_get (n:=n) (by rw [← HDN.out]; exact HZ2.out);have HXX:=ι hxx;have GX:=ι hgx
   have HDF:=ι (show DefH n m (PG2 n m A B) from by
    obtain ⟨N,gs,hpc⟩:=PA.out.pc;refine HMG.out.defH hpc ?_;have h5:=rtC_def HZ.out;rw [show d.toNat=n by have:=HDN.out; omega] at h5
    exact h5)
   clear hxx hgx;have HNP:=ι (show Rg.NP w15 (.slice xa xl.length xc) x by have h5:=HX.out; rw [HXX.out] at h5 ⊢; exact h5);go_upto_region 5 with (fail);refine Rg.wl ?_;refine Rg.lm 26 (.int .i64 c2) ?_;go_frame;refine Rg.lr 27 (exec_bin (R:=.bool false) .neq _ _ _ rfl rfl rfl (b_neqB _ (decide_eq_false (fun q=>q h2)))) ?_;go_frame;go_upto_region 7 with (fail);refine Rg.wl ?_;refine Rg.lm 30 (.pointer (some ⟨pb,0,none⟩)) ?_;go_frame;refine Rg.lm 31 (.slice xa xl.length xc) ?_;go_frame;refine list_ask (some 32) rfl rfl _ _ (exec_fn 32 _ _ _ rfl rfl rfl (Aecl3 _ _)) ?_;refine (partner_c PA.out HMG.out HNP.out GX.out).mono ?_;rintro e1 w26 ⟨yv,bb,rfl,hyb,hb⟩;refine ⟨_,rfl,?_⟩;go_frame;replace HG:=ι (HG.out.below hb);replace HH:=ι (HH.out.below hb);replace HX:=ι (HX.out.below hb);replace G0:=ι (G0.out.below hb);replace G1:=ι (G1.out.below hb);replace H0:=ι (H0.out.below hb)
   replace H1:=ι (H1.out.below hb);replace PA:=ι (PA.out.below hb);replace HNP:=ι (HNP.out.below hb);replace K:=ι (Rg.acc K.out hb);clear hb;refine Rg.lm 29 (.tuple #[yv,.bool bb]) ?_;go_frame;refine Rg.lr 33 (exec_extract (v:=yv) _ _ rfl rfl rfl) ?_;go_frame;refine Rg.lr 34 (exec_extract (v:=.bool bb) _ _ rfl rfl rfl) ?_;go_frame;refine Rg.la 11 (yv) ?_;go_frame;refine Rg.la 12 (.bool bb) ?_;go_frame
   cases bb
   case false =>
    go_upto_region 8 with (fail);refine Rg.wl ?_;refine Rg.lm 35 (.bool false) ?_;go_frame;refine Rg.lr 36 (exec_not _ _ false rfl rfl) ?_;go_frame;go_upto_region 9 with (fail);refine Rg.wl ?_;refine Rg.la 6 (.slice none 0 0) ?_;go_frame;refine Rg.la 7 (.int .i64 18) ?_;go_frame;have HV:=ι (show HiV d e L M xl [] 18 from .inr (.inr ⟨HZ.out,HZ2.out,n,m,A,B,x,none,HMG.out,HDF.out,HXX.out,GX.out,hyb.2,rfl,rfl⟩));go_wp2
    go_ret2
    exact ⟨_,_,[],rfl,ints_nil _,HV.out,K.out⟩
   case true =>
    go_upto_region 8 with (fail);refine Rg.wl ?_;refine Rg.lm 35 (.bool true) ?_;go_frame;refine Rg.lr 36 (exec_not _ _ true rfl rfl) ?_;go_frame;obtain ⟨y,hyy,hyr⟩:=hyb;have HYY:=ι hyy;have HV:=ι (show HiV d e L M xl (Ma.ofN y) 0 from .inr (.inr ⟨HZ.out,HZ2.out,n,m,A,B,x,some y,HMG.out,HDF.out,HXX.out,GX.out,hyr,rfl,rfl⟩));clear hyy hyr;go_upto_region 10 with (fail);refine Rg.wl ?_;refine Rg.lm 37 (yv) ?_;go_frame;refine Rg.la 6 (yv) ?_;go_frame;refine Rg.la 7 (.int .i64 0) ?_;go_frame;go_wp2
    go_ret2
    exact ⟨_,_,_,rfl,HYY.out,HV.out,K.out⟩
end Go.Proofs.Ythehbckogieimaa

namespace Go.Proofs.Ythehbckogieimaa
open Go.RowKit
open Go.Proofs
open Go.Proofs.Ob
open Go.Proofs.Cm (Gd)
attribute [local irreducible] Go.Calls Go.wpList
theorem RwAt.up {w w':World} {g n:Nat} {f:Nat→Int} (h:RwAt w g n f) (hb:Below w.heap.size w w'):RwAt w' g n f:=h.below hb
def GM (tk gb rb z:Nat):Prop:=z=tk∨z=gb∨z=rb
end Go.Proofs.Ythehbckogieimaa

namespace Go.Proofs.Ythehbckogieimaa
open Go.RowKit
open Go.Proofs
attribute [local irreducible] Go.Calls Go.wpStill
def lessL:List Int→List Int→Bool
 | [],[]=>false
 | [],_ :: _=>true
 | _ :: _,[]=>false
 | x :: a,y :: b=>if x=y then lessL a b else decide (x<y)
theorem lessL_irr:∀ a:List Int,lessL a a=false
 | []=>rfl
 | x :: a=>by rw [lessL,if_pos rfl]; exact lessL_irr a
theorem lessL_trans:∀ {a b c:List Int},lessL a b=true→lessL b c=true→lessL a c=true
 | [],[],_,h,_=>by simp [lessL] at h
 | [],_ :: _,[],_,h=>by simp [lessL] at h
 | [],_ :: _,_ :: _,_,_=>rfl
 | _ :: _,[],_,h,_=>by simp [lessL] at h
 | _ :: _,_ :: _,[],_,h=>by simp [lessL] at h
 | x :: a,y :: b,z :: c,h,h'=>by
  rw [lessL] at h h' ⊢
  by_cases e1:x=y
  ·rw [if_pos e1] at h
   by_cases e2:y=z
   ·rw [if_pos e2] at h'; rw [if_pos (e1.trans e2)]; exact lessL_trans h h'
   ·rw [if_neg e2] at h'; rw [if_neg (by omega)]; simp at h' ⊢; omega
  ·rw [if_neg e1] at h
   by_cases e2:y=z
   ·rw [if_neg (by omega)]; simp at h ⊢; omega
   ·rw [if_neg e2] at h'; simp at h h'; rw [if_neg (by omega)]; simp; omega
theorem lessL_total:∀ {a b:List Int},lessL a b=false→a≠b→lessL b a=true
 | [],[],_,h=>absurd rfl h
 | [],_ :: _,h,_=>by simp [lessL] at h
 | _ :: _,[],_,_=>rfl
 | x :: a,y :: b,h,hn=>by
  rw [lessL] at h ⊢
  by_cases e:x=y
  ·rw [if_pos e] at h; rw [if_pos e.symm]
   exact lessL_total h (fun e2=>hn (by rw [e,e2]))
  ·rw [if_neg e] at h; rw [if_neg (by omega)]; simp at h ⊢; omega
def Asc (L:List (List Int)):Prop:=∀ i j (hi:i<L.length) (hj:j<L.length),i<j→lessL L[i] L[j]=true
theorem asc_iff (L:List (List Int)):Asc L↔L.Pairwise (fun a b=>lessL a b=true):=by
 rw [List.pairwise_iff_getElem];exact ⟨fun h i j hi hj hij=>h i j hi hj hij,fun h i j hi hj hij=>h i j hi hj hij⟩
end Go.Proofs.Ythehbckogieimaa

namespace Go.Proofs.Ythehbckogieimaa
open Go.RowKit
open Go.Proofs
open Go.Proofs.Ob
open Go.Proofs.Cm (Gd Gr)
attribute [local irreducible] Go.Calls Go.wpList
theorem ofN_back (l:List Nat):(Ma.ofN l).map Int.toNat=l:=by
 unfold Ma.ofN;rw [List.map_map];exact List.map_id'' (fun _=>rfl) l
theorem ofN_inj' {a b:List Nat} (h:Ma.ofN a=Ma.ofN b):a=b:=by rw [← ofN_back a,h,ofN_back]
def AllE (d:Nat) (gs A:List (List Nat)):Prop:=Asc (A.map Ma.ofN)∧∀ y,y∈A↔Gr d (·∈gs) y
theorem asc_one (l:List (List Int)) (h:l.length≤1):Asc l:=fun i j hi hj hij=>by omega
theorem asc_nodup {A:List (List Nat)} (h:Asc (A.map Ma.ofN)):A.Nodup:=by
 rw [asc_iff] at h;rw [List.pairwise_map] at h
 exact h.imp fun hab e=>by subst e; rw [lessL_irr] at hab; cases hab
theorem FP.nil0 (F:Nat→Prop) (w:World):FP F w (.slice none 0 0) []:=⟨none,0,rfl,Nat.le_refl _,Nat.zero_le _,Nat.zero_le _,fun h=>absurd h (Nat.lt_irrefl 0)⟩
end Go.Proofs.Ythehbckogieimaa

namespace Go.Proofs.Ythehbckogieimaa
open Go.Proofs
open Go.Proofs.Cm (Gr Gd IsChain IsG St Fx ap Lst)
def mulAll (r A:List (List Nat)):List (List Nat):=r.flatMap fun u=>A.map (Ma.mulN u)
theorem mem_mulAll {r A:List (List Nat)} {x:List Nat}:x∈mulAll r A↔∃ u∈r,∃ z∈A,Ma.mulN u z=x:=by
 unfold mulAll;simp only [List.mem_flatMap,List.mem_map]
def prodK (n:Nat) (R:List (List (List Nat))):Nat→List (List Nat)
 | 0=>[Ma.oneN n]
 | i+1=>mulAll (R.getD i []) (prodK n R i)
structure PK (n:Nat) (H:List Nat→Prop) (i:Nat) (L:List (List Nat)):Prop where
 inH:∀ z∈L,H z
 all:∀ x,H x→∃ s z,St H i s∧z∈L∧x=Ma.mulN s z
 sep:∀ z z' s s',z∈L→z'∈L→St H i s→St H i s'→Ma.mulN s z=Ma.mulN s' z'→z=z'
 nd:L.Nodup
theorem PK.zero {n:Nat} {H:List Nat→Prop} (hH:IsG n H):PK n H 0 [Ma.oneN n] :=
 ⟨fun z hz=>by rw [List.mem_singleton] at hz; subst hz; exact hH.one,fun x hx=>⟨x,Ma.oneN n,⟨hx,fun j hj=>absurd hj (Nat.not_lt_zero _)⟩,by simp,(Cm.mul_one (hH.gd x hx)).symm⟩,fun z z' _ _ hz hz' _ _ _=>by rw [List.mem_singleton] at hz hz'; rw [hz,hz'],by simp⟩
theorem rep_at {n:Nat} {H:List Nat→Prop} {O:List (List Nat)} {R:List (List (List Nat))} (h:IsChain n H O R) {i:Nat} (hi:i<n) {k:Nat} (hk:k<(R.getD i []).length):Lst n (fun z=>St H i z∧ap z i=(O.getD i []).getD k 0) (R.getD i [])[k]:=by
 have:=h.rep i k hi (by rw [← h.len i hi]; exact hk)
 rwa [Cm.getD_in hk] at this
theorem rep_mem {n:Nat} {H:List Nat→Prop} {O:List (List Nat)} {R:List (List (List Nat))} (h:IsChain n H O R) {i:Nat} (hi:i<n) {u:List Nat} (hu:u∈R.getD i []):Lst n (fun z=>St H i z∧ap z i=ap u i) u:=by
 obtain ⟨k,hk,rfl⟩:=List.getElem_of_mem hu;have:=rep_at h hi hk;have e:=this.1.2;rw [← e] at this;exact this
theorem rep_of {n:Nat} {H:List Nat→Prop} {O:List (List Nat)} {R:List (List (List Nat))} (h:IsChain n H O R) {i:Nat} (hi:i<n) {s:List Nat} (hs:St H i s):∃ u∈R.getD i [],St H i u∧ap u i=ap s i:=by
 obtain ⟨k,hk,e⟩:=List.getElem_of_mem ((h.orb i (ap s i) hi).2 ⟨s,hs,rfl⟩)
 have hk2:k<(R.getD i []).length:=by rw [h.len i hi]; exact hk
 have h1:=(rep_at h hi hk2).1;refine ⟨_,List.getElem_mem hk2,h1.1,?_⟩;rw [h1.2,Cm.getD_in hk,e]
theorem rep_pair {n:Nat} {H:List Nat→Prop} {O:List (List Nat)} {R:List (List (List Nat))} (h:IsChain n H O R) {i:Nat} (hi:i<n):(R.getD i []).Pairwise (fun u v=>ap u i<ap v i):=by
 rw [List.pairwise_iff_getElem];intro a b ha hb hab
 have ha2:a<(O.getD i []).length:=by rw [← h.len i hi]; exact ha
 have hb2:b<(O.getD i []).length:=by rw [← h.len i hi]; exact hb
 rw [(rep_at h hi ha).1.2,(rep_at h hi hb).1.2,Cm.getD_in ha2,Cm.getD_in hb2];exact (List.pairwise_iff_getElem.1 (h.asc i hi)) a b ha2 hb2 hab
theorem PK.step {n:Nat} {H:List Nat→Prop} (hH:IsG n H) {O:List (List Nat)} {R:List (List (List Nat))} (h:IsChain n H O R) {i:Nat} (hi:i<n) {L:List (List Nat)} (hL:PK n H i L):PK n H (i+1) (mulAll (R.getD i []) L):=by
 have key:∀ u z u' z' s s',u∈R.getD i []→u'∈R.getD i []→z∈L→z'∈L→St H (i+1) s→St H (i+1) s'→Ma.mulN s (Ma.mulN u z)=Ma.mulN s' (Ma.mulN u' z')→z=z'∧u=u':=by
  intro u z u' z' s s' hu hu' hz hz' hs hs' e;have l1:=rep_mem h hi hu;have l2:=rep_mem h hi hu';have gs:=hH.gd _ hs.1;have gs':=hH.gd _ hs'.1;have gu:=hH.gd _ l1.1.1.1;have gu':=hH.gd _ l2.1.1.1;rw [← Cm.mul_assoc gs gu,← Cm.mul_assoc gs' gu'] at e;have a1:St H i (Ma.mulN s u):=⟨hH.mul _ _ hs.1 l1.1.1.1,Fx.mul gs (Nat.le_of_lt hi) (hs.2.mono (Nat.le_succ _)) l1.1.1.2⟩;have a2:St H i (Ma.mulN s' u'):=⟨hH.mul _ _ hs'.1 l2.1.1.1,Fx.mul gs' (Nat.le_of_lt hi) (hs'.2.mono (Nat.le_succ _)) l2.1.1.2⟩;have ez:=hL.sep z z' _ _ hz hz' a1 a2 e;subst ez;have gz:=hH.gd _ (hL.inH z hz);have e2:=congrArg (fun t=>Ma.mulN t (Ma.invN z)) e;simp only [Cm.mul_cancel_inv (Cm.gd_mul gs gu) gz,Cm.mul_cancel_inv (Cm.gd_mul gs' gu') gz] at e2;have e3:=congrArg (fun t=>ap t i) e2;simp only [Cm.ap_mul gs hi,Cm.ap_mul gs' hi,hs.2 i (Nat.lt_succ_self _),hs'.2 i (Nat.lt_succ_self _)] at e3
  rw [← e3] at l2;exact ⟨rfl,l1.uniq l2⟩
 refine ⟨fun y hy=>?_,fun x hx=>?_,fun y y' s s' hy hy' hs hs' e=>?_,?_⟩
 ·obtain ⟨u,hu,z,hz,rfl⟩:=mem_mulAll.1 hy
  exact hH.mul _ _ (rep_mem h hi hu).1.1.1 (hL.inH z hz)
 ·obtain ⟨s,z,hs,hz,rfl⟩:=hL.all x hx
  obtain ⟨u,hu,su,eu⟩:=rep_of h hi hs;have gs:=hH.gd _ hs.1;have gu:=hH.gd _ su.1;refine ⟨Ma.mulN s (Ma.invN u),Ma.mulN u z,⟨hH.mul _ _ hs.1 (hH.inv _ su.1),fun j hj=>?_⟩,mem_mulAll.2 ⟨u,hu,z,hz,rfl⟩,?_⟩
  ·rw [Cm.ap_mul gs (by omega)]
   rcases Nat.lt_or_ge j i with e | e
   ·rw [hs.2 j e]
    exact Fx.inv gu (Nat.le_of_lt hi) su.2 j e
   ·obtain rfl:j=i:=by omega
    rw [← eu];exact Cm.ap_inv gu hi
  ·rw [← Cm.mul_assoc (Cm.gd_mul gs (Cm.gd_inv gu)) gu,Cm.mul_inv_cancel gs gu]
 ·obtain ⟨u,hu,z,hz,rfl⟩:=mem_mulAll.1 hy
  obtain ⟨u',hu',z',hz',rfl⟩:=mem_mulAll.1 hy';obtain ⟨rfl,rfl⟩:=key u z u' z' s s' hu hu' hz hz' hs hs' e;rfl
 ·have o1:St H (i+1) (Ma.oneN n):=⟨hH.one,Fx.one (by omega)⟩
  have gm:∀ u∈R.getD i [],∀ z∈L,Gd n (Ma.mulN u z):=fun u hu z hz=>Cm.gd_mul (hH.gd _ (rep_mem h hi hu).1.1.1) (hH.gd _ (hL.inH z hz))
  have k2:∀ u∈R.getD i [],∀ u'∈R.getD i [],∀ z∈L,∀ z'∈L,Ma.mulN u z=Ma.mulN u' z'→z=z'∧u=u':=fun u hu u' hu' z hz z' hz' e =>
   key u z u' z' _ _ hu hu' hz hz' o1 o1 (by rw [e])
  unfold mulAll;rw [List.Nodup,List.pairwise_flatMap];refine ⟨fun u hu=>?_,?_⟩
  ·rw [List.pairwise_map]
   exact List.Pairwise.imp_of_mem (fun {a b} ha hb hne e=>hne (k2 u hu u hu a ha b hb e).1) hL.nd
  ·refine List.Pairwise.imp_of_mem (fun {u v} hu hv hlt x hx y hy e=>?_) (rep_pair h hi)
   obtain ⟨z,hz,rfl⟩:=List.mem_map.1 hx;obtain ⟨z',hz',rfl⟩:=List.mem_map.1 hy;have:=(k2 u hu v hv z hz z' hz' e).2;subst this;omega
theorem prodK_PK {n:Nat} {H:List Nat→Prop} (hH:IsG n H) {O:List (List Nat)} {R:List (List (List Nat))} (h:IsChain n H O R):∀ {i:Nat},i≤n→PK n H i (prodK n R i)
 | 0,_=>PK.zero hH
 | i+1,hi=>PK.step hH h hi (prodK_PK hH h (Nat.le_of_lt hi))
theorem prodK_all {n:Nat} {H:List Nat→Prop} (hH:IsG n H) {O:List (List Nat)} {R:List (List (List Nat))} (h:IsChain n H O R):(prodK n R n).Nodup∧∀ x,x∈prodK n R n↔H x:=by
 have hp:=prodK_PK hH h (Nat.le_refl n);refine ⟨hp.nd,fun x=>⟨hp.inH x,fun hx=>?_⟩⟩;obtain ⟨s,z,hs,hz,rfl⟩:=hp.all x hx;have e:=Fx.all (hH.gd _ hs.1) hs.2;rw [e,Cm.one_mul (hH.gd _ (hp.inH z hz))];exact hz
theorem AllE.len {d:Nat} {gs A:List (List Nat)} (hg:∀ s∈gs,Gd d s) {O:List (List Nat)} {R:List (List (List Nat))} (h:IsChain d (Gr d (·∈gs)) O R) (hA:AllE d gs A):A.length=(prodK d R d).length:=by
 obtain ⟨h1,h2⟩:=prodK_all (Gr.isG hg) h;exact Nat.le_antisymm (nodup_le (asc_nodup hA.1) fun x hx=>(h2 x).2 ((hA.2 x).1 hx)) (nodup_le h1 fun x hx=>(hA.2 x).2 ((h2 x).1 hx))
end Go.Proofs.Ythehbckogieimaa

namespace Go.Proofs.Ythehbckogieimaa
open Go.Proofs
open Go.Proofs.Cm (Gr Gd IsChain IsG St Fx ap Lst lexLt)
def fxTo (i p:Nat) (a:List Nat) (j:Nat):Bool:=(ap a i == p) && (List.range j).all fun m=>ap a m == m
def fxB (i p:Nat) (a:List Nat):Bool:=fxTo i p a i
theorem fxB_iff {i p:Nat} {a:List Nat}:fxB i p a=true↔Fx i a∧ap a i=p:=by
 unfold fxB fxTo;rw [Bool.and_eq_true,beq_iff_eq,List.all_eq_true]
 constructor
 ·rintro ⟨h1,h2⟩; exact ⟨fun j hj=>by simpa using h2 j (List.mem_range.2 hj),h1⟩
 ·rintro ⟨h1,h2⟩; exact ⟨h2,fun j hj=>by simpa using h1 j (List.mem_range.1 hj)⟩
def orbTo (A:List (List Nat)) (i p:Nat):List Nat:=(List.range p).filter fun q=>A.any (fxB i q)
def repTo (A:List (List Nat)) (i p:Nat):List (List Nat):=(orbTo A i p).map fun q=>(A.find? (fxB i q)).getD []
theorem len_repTo (A:List (List Nat)) (i p:Nat):(repTo A i p).length=(orbTo A i p).length:=by unfold repTo; rw [List.length_map]
theorem ofN_cons (x:Nat) (a:List Nat):Ma.ofN (x :: a)=((x:Nat):Int) :: Ma.ofN a:=rfl
theorem lessL_lex:∀ {a z:List Nat},a.length=z.length→lessL (Ma.ofN a) (Ma.ofN z)=true→lexLt a.length a z
 | [],[],_,h=>by simp [Ma.ofN,lessL] at h
 | [],_ :: _,e,_=>by simp at e
 | _ :: _,[],e,_=>by simp at e
 | x :: a,y :: z,e,h=>by
  rw [ofN_cons,ofN_cons,lessL] at h
  by_cases hxy:x=y
  ·subst hxy
   rw [if_pos rfl] at h;obtain ⟨j,h1,h2,h3⟩:=lessL_lex (by simpa using e) h;refine ⟨j+1,by simpa using h1,fun m hm=>?_,by simpa [ap] using h3⟩
   cases m with
   | zero=>rfl
   | succ m=>simpa [ap] using h2 m (by omega)
  ·rw [if_neg (by omega)] at h
   exact ⟨0,by simp,fun m hm=>absurd hm (Nat.not_lt_zero _),by simpa [ap] using h⟩
theorem getD_mapR {α:Type} (f:Nat→List α) {d i:Nat} (h:i<d):((List.range d).map f).getD i []=f i:=by
 rw [List.getD_eq_getElem?_getD,List.getElem?_map,List.getElem?_range h];rfl
theorem find_lst {d:Nat} {gs A:List (List Nat)} (hg:∀ s∈gs,Gd d s) (hA:AllE d gs A) {i p:Nat} {a:List Nat} (h:A.find? (fxB i p)=some a):Lst d (fun z=>St (Gr d (·∈gs)) i z∧ap z i=p) a:=by
 obtain ⟨h1,k,hk,rfl,h2⟩:=List.find?_eq_some_iff_getElem.1 h;have h3:=fxB_iff.1 h1;have gk:=(Gr.isG hg).gd _ ((hA.2 _).1 (List.getElem_mem hk));refine ⟨⟨⟨(hA.2 _).1 (List.getElem_mem hk),h3.1⟩,h3.2⟩,fun z hz=>?_⟩;obtain ⟨j,hj,rfl⟩:=List.getElem_of_mem ((hA.2 z).2 hz.1.1);have gj:=(Gr.isG hg).gd _ ((hA.2 _).1 (List.getElem_mem hj))
 rcases Nat.lt_trichotomy j k with e | e | e
 ·have h4:=h2 j e
  rw [fxB_iff.2 ⟨hz.1.2,hz.2⟩] at h4
  cases h4
 ·subst e; exact .inl rfl
 ·have h5:=hA.1 k j (by simpa using hk) (by simpa using hj) e
  simp only [List.getElem_map] at h5;have:=lessL_lex (gk.2.trans gj.2.symm) h5;rw [gk.2] at this;exact .inr this
theorem chainOf_is {d:Nat} {gs A:List (List Nat)} (hg:∀ s∈gs,Gd d s) (hA:AllE d gs A):IsChain d (Gr d (·∈gs)) ((List.range d).map fun i=>orbTo A i d) ((List.range d).map fun i=>repTo A i d):=by
 have hm:∀ {i p:Nat},i<d→(p∈orbTo A i d↔∃ x,St (Gr d (·∈gs)) i x∧ap x i=p):=by
  intro i p hi;unfold orbTo;rw [List.mem_filter,List.mem_range,List.any_eq_true]
  constructor
  ·rintro ⟨_,a,ha,hb⟩
   exact ⟨a,⟨(hA.2 a).1 ha,(fxB_iff.1 hb).1⟩,(fxB_iff.1 hb).2⟩
  ·rintro ⟨x,hx,rfl⟩
   exact ⟨Cm.ap_lt ((Gr.isG hg).gd x hx.1) hi,x,(hA.2 x).2 hx.1,fxB_iff.2 ⟨hx.2,rfl⟩⟩
 refine ⟨by simp,by simp,fun i hi=>?_,fun i p hi=>?_,fun i hi=>?_,fun i k hi hk=>?_⟩
 ·rw [getD_mapR _ hi]
  exact List.Pairwise.filter _ List.pairwise_lt_range
 ·rw [getD_mapR _ hi]; exact hm hi
 ·rw [getD_mapR _ hi,getD_mapR _ hi]; exact len_repTo A i d
 ·rw [getD_mapR _ hi] at hk ⊢
  rw [getD_mapR _ hi]
  have hk2:k<(repTo A i d).length:=by rw [len_repTo]; exact hk
  rw [Cm.getD_in hk,Cm.getD_in hk2]
  have e:(repTo A i d)[k]=(A.find? (fxB i (orbTo A i d)[k])).getD []:=by simp only [repTo,List.getElem_map]
  rw [e];have hp:=List.getElem_mem hk;unfold orbTo at hp;rw [List.mem_filter] at hp
  cases hf:A.find? (fxB i (orbTo A i d)[k]) with
  | none =>
   exfalso
   obtain ⟨a,ha,hb⟩:=List.any_eq_true.1 hp.2;have:=List.find?_eq_none.1 hf a ha;exact this hb
  | some a=>exact find_lst hg hA hf
end Go.Proofs.Ythehbckogieimaa

namespace Go.Proofs.Ythehbckogieimaa
open Go.Proofs
open Go.Proofs.Ob
open Go.Proofs.Cm (Gr IsChain IsG St Fx ap Lst allL)
theorem asc_ins {A:List (List Nat)} (h:Asc (A.map Ma.ofN)) (y:List Nat):∃ B:List (List Nat),Asc (B.map Ma.ofN)∧∀ z,z∈B↔z∈A∨z=y:=by
 by_cases hy:y∈A
 ·exact ⟨A,h,fun z=>⟨.inl,fun e=>e.elim id fun e=>e▸hy⟩⟩
 ·refine ⟨A.filter (fun a=>lessL (Ma.ofN a) (Ma.ofN y))++(y :: A.filter (fun a=>!lessL (Ma.ofN a) (Ma.ofN y))),?_,fun z=>?_⟩
  ·rw [asc_iff,List.pairwise_map] at h ⊢
   rw [List.pairwise_append,List.pairwise_cons]
   have gt:∀ b∈A.filter (fun a=>!lessL (Ma.ofN a) (Ma.ofN y)),lessL (Ma.ofN y) (Ma.ofN b)=true:=by
    intro b hb;obtain ⟨h1,h2⟩:=List.mem_filter.1 hb;refine lessL_total (by simpa using h2) fun e=>hy ?_;rw [← ofN_inj' e]; exact h1
   refine ⟨h.filter _,⟨gt,h.filter _⟩,fun a ha b hb=>?_⟩
   have h1:lessL (Ma.ofN a) (Ma.ofN y)=true:=by simpa using (List.mem_filter.1 ha).2
   rcases List.mem_cons.1 hb with rfl | hb
   ·exact h1
   ·exact lessL_trans h1 (gt b hb)
  ·rw [List.mem_append,List.mem_cons,List.mem_filter,List.mem_filter]
   cases lessL (Ma.ofN z) (Ma.ofN y) <;> simp
   ·exact or_comm
theorem asc_exists (P:List Nat→Prop):∀ L:List (List Nat),∃ A:List (List Nat),Asc (A.map Ma.ofN)∧∀ z,z∈A↔z∈L∧P z
 | []=>⟨[],asc_one _ (by simp),fun z=>by simp⟩
 | y :: L=>by
  obtain ⟨A,h1,h2⟩:=asc_exists P L
  by_cases hy:P y
  ·obtain ⟨B,h3,h4⟩:=asc_ins h1 y
   refine ⟨B,h3,fun z=>?_⟩;rw [h4,h2,List.mem_cons]
   constructor
   ·rintro (⟨e1,e2⟩ | rfl)
    ·exact ⟨.inr e1,e2⟩
    ·exact ⟨.inl rfl,hy⟩
   ·rintro ⟨rfl | e1,e2⟩
    ·exact .inr rfl
    ·exact .inl ⟨e1,e2⟩
  ·refine ⟨A,h1,fun z=>?_⟩
   rw [h2,List.mem_cons]
   constructor
   ·exact fun ⟨e1,e2⟩=>⟨.inr e1,e2⟩
   ·rintro ⟨rfl | e1,e2⟩
    ·exact absurd e2 hy
    ·exact ⟨e1,e2⟩
theorem mem_allL' {n:Nat} {x:List Nat} (h:Cm.Gd n x):x∈allL n n:=by
 have:=Cm.mem_allL (n:=n) (l:=x) (fun y hy=>by rw [← h.2]; exact h.1.1 y hy)
 rwa [h.2] at this
theorem allE_exists {d:Nat} {gs:List (List Nat)} (hg:∀ s∈gs,Cm.Gd d s):∃ A,AllE d gs A:=by
 obtain ⟨A,h1,h2⟩:=asc_exists (Gr d (·∈gs)) (allL d d);exact ⟨A,h1,fun y=>⟨fun h=>((h2 y).1 h).2,fun h=>(h2 y).2 ⟨mem_allL' ((Gr.isG hg).gd _ h),h⟩⟩⟩
theorem chain_exists {d:Nat} {gs:List (List Nat)} (hg:∀ s∈gs,Cm.Gd d s):∃ O R,IsChain d (Gr d (·∈gs)) O R:=by
 obtain ⟨A,hA⟩:=allE_exists hg;exact ⟨_,_,chainOf_is hg hA⟩
end Go.Proofs.Ythehbckogieimaa

namespace Go.Proofs.Ythehbckogieimaa
open Go.RowKit
open Go.Proofs
open Go.Proofs.Cm (Gd Gr IsChain ap)
attribute [local irreducible] Go.Calls Go.wpList
theorem gr_list {n:Nat} {gs T:List (List Nat)} (hg:∀ s∈gs,Gd n s) (h1:Ma.oneN n∈T) (hc:∀ x∈T,∀ s∈gs,Ma.mulN x s∈T) {x:List Nat} (hx:Gr n (·∈gs) x):x∈T :=
 Cm.gr_ind (gs:=(·∈gs)) hg (P:=(·∈T)) h1 (fun x s _ hx hs=>hc x hx s hs) hx
theorem mem_all2 {n:Nat} {x:List Nat} (h:Gd n x):x∈Cm.allL n n:=mem_allL' h
theorem HomG.pcx {d e:Int} {L M:List (List Int)} {n m:Nat} {A B:List (List Nat)} (h:HomG d e L M n m A B):∃ N gs,PcF (d+e) (prL L M) N gs:=by
 have hde:d+e=((n+m:Nat):Int):=by rw [h.dn,h.em]; omega
 have hpl:prL L M=(prN A B).map Ma.ofN:=by rw [h.la,h.mb,prL_ofN]
 obtain ⟨O,R,hc⟩:=chain_exists (mem_prN h.ga h.gb);refine ⟨n+m,prN A B,hde,hpl,by have:=h.n1; omega,h.nm,?_⟩;rw [hde,hpl,pOR_eq hc];exact hc
theorem isB_yes {d e:Int} {L M:List (List Int)} {n m:Nat} {A B:List (List Nat)} (h:HomG d e L M n m A B) (h0:homC d e L M=0) (hd:DefH n m (PG2 n m A B)):isB d e L M=true∧rtC d e L M=0:=by
 obtain ⟨N,gs,hp⟩:=h.pcx;have h1:=h.defH' hp hd
 have h2:d.toNat=n:=by have:=h.dn; omega
 rw [← h2] at h1;exact ⟨by unfold isB; rw [if_pos h0]; exact h1,rtC_yes h0 h1⟩
theorem isB_no {d e:Int} {L M:List (List Int)} {n m:Nat} {A B:List (List Nat)} (h:HomG d e L M n m A B) (h0:homC d e L M=0) (hd:¬ DefH n m (PG2 n m A B)):isB d e L M=false∧rtC d e L M=13:=by
 obtain ⟨N,gs,hp⟩:=h.pcx
 have h2:d.toNat=n:=by have:=h.dn; omega
 have h1:dfB d.toNat (pO (d+e) (prL L M))=false:=by
  cases q:dfB d.toNat (pO (d+e) (prL L M)) with
  | false=>rfl
  | true=>rw [h2] at q; exact absurd (h.defH hp q) hd
 exact ⟨by unfold isB; rw [if_pos h0]; exact h1,rtC_no h0 h1⟩
def sA:List (List Nat):=[[1,0,2],[0,2,1]]
def tA:List (List Nat):=[[1,0],[1,0]]
def uA:List (List Nat):=[[1,0],[0,1]]
theorem sA_gd:∀ s∈sA,Gd 3 s:=by unfold sA Gd Ma.okN; decide
theorem tA_gd:∀ s∈tA,Gd 2 s:=by unfold tA Gd Ma.okN; decide
theorem uA_gd:∀ s∈uA,Gd 2 s:=by unfold uA Gd Ma.okN; decide
theorem hom_st:HomG 3 2 [[1,0,2],[0,2,1]] [[1,0],[1,0]] 3 2 sA tA:=⟨rfl,rfl,rfl,rfl,sA_gd,tA_gd,by decide,by decide,by decide,rfl,by decide⟩
theorem hom_su:HomG 3 2 [[1,0,2],[0,2,1]] [[1,0],[0,1]] 3 2 sA uA:=⟨rfl,rfl,rfl,rfl,sA_gd,uA_gd,by decide,by decide,by decide,rfl,by decide⟩
theorem hom_ts:HomG 2 3 [[1,0],[1,0]] [[1,0,2],[0,2,1]] 2 3 tA sA:=hom_st.swap
theorem gchk_s:Ma.gchk 3 [[1,0,2],[0,2,1]]=0:=by decide
theorem gchk_t:Ma.gchk 2 [[1,0],[1,0]]=0:=by decide
theorem gchk_u:Ma.gchk 2 [[1,0],[0,1]]=0:=by decide
theorem homC_st:homC 3 2 [[1,0,2],[0,2,1]] [[1,0],[1,0]]=0:=homC_5 gchk_s gchk_t rfl (by decide)
theorem homC_su:homC 3 2 [[1,0,2],[0,2,1]] [[1,0],[0,1]]=0:=homC_5 gchk_s gchk_u rfl (by decide)
theorem homC_ts:homC 2 3 [[1,0],[1,0]] [[1,0,2],[0,2,1]]=0:=homC_swap homC_st
def stL:List (List Nat):=[[0,1,2,3,4],[1,0,2,4,3],[0,2,1,4,3],[2,0,1,3,4],[1,2,0,3,4],[2,1,0,4,3]]
theorem stL_mem {x:List Nat} (hx:PG2 3 2 sA tA x):x∈stL:=gr_list (mem_prN sA_gd tA_gd) (by decide) (by decide) hx
theorem def_st:DefH 3 2 (PG2 3 2 sA tA):=fun y gy hy=>by
 have h1:=stL_mem hy;have h2:=mem_all2 gy
 revert h1
 revert y
 have key:∀ y∈Cm.allL 2 2,jnN (Ma.oneN 3) y∈stL→y=Ma.oneN 2:=by decide
 exact fun y _ _ h2 h1=>key y h2 h1
theorem ndef_su:¬ DefH 3 2 (PG2 3 2 sA uA):=fun h=>by
 have hA:PG2 3 2 sA uA [1,0,2,4,3]:=.gen _ (by decide);have hB:PG2 3 2 sA uA [0,2,1,3,4]:=.gen _ (by decide);have h1:PG2 3 2 sA uA (jnN (Ma.oneN 3) [1,0]):=.mul _ _ (.mul _ _ (.mul _ _ (.mul _ _ (.mul _ _ hA hB) hA) hB) hA) hB;have:=h [1,0] (by unfold Gd Ma.okN; decide) h1
 revert this; decide
theorem ndef_ts:¬ DefH 2 3 (PG2 2 3 tA sA):=fun h=>by
 have hA:PG2 2 3 tA sA [1,0,3,2,4]:=.gen _ (by decide);have hB:PG2 2 3 tA sA [1,0,2,4,3]:=.gen _ (by decide);have h1:PG2 2 3 tA sA (jnN (Ma.oneN 2) [2,0,1]):=.mul _ _ hA hB;have:=h [2,0,1] (by unfold Gd Ma.okN; decide) h1
 revert this; decide
theorem img_st:ImR 2 (PG2 3 2 sA tA) [1,2,0] (some [0,1]):=by
 have hA:PG2 3 2 sA tA [1,0,2,4,3]:=.gen _ (by decide);have hB:PG2 3 2 sA tA [0,2,1,4,3]:=.gen _ (by decide);exact ⟨by unfold Gd Ma.okN; decide,.mul _ _ hB hA⟩
theorem hiv_st {l:List Int} {c:Int} (h:HiV 3 2 [[1,0,2],[0,2,1]] [[1,0],[1,0]] [1,2,0] l c):l=[0,1]∧c=0:=by
 have h1:HiV 3 2 [[1,0,2],[0,2,1]] [[1,0],[1,0]] [1,2,0] [0,1] 0:=.inr (.inr ⟨(isB_yes hom_st homC_st def_st).2,by decide,3,2,sA,tA,[1,2,0],some [0,1],hom_st,def_st,rfl,by unfold Gd Ma.okN; decide,img_st,rfl,rfl⟩);exact h.uniq h1
end Go.Proofs.Ythehbckogieimaa
