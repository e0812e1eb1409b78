/- Lemmas and contracts on the way to the statement; no condition of their own beyond those written. -/
import Derived.Test.YthehbckogieimaaGreatXZctoZg
import Derived.Deep.LoopGhost
import Derived.Lib.SlicesSearch
import Derived.Lib.ConvBytes
import Derived.Deep.CutRange
import Derived.Deep.CutBlock
import Derived.IntWalk
import Derived.Great.BuildSlice
import Derived.ArgAppend
import Derived.Laws.CopyOwn
import Derived.StillTailTactics
import Derived.Deep.MidRow
import Derived.WalkSpells
import Derived.WalkLawsBesides
import Derived.Maps.AppendAt
import Derived.OwnWalk
import Derived.OrdersHeld
import Derived.Deep.OwnRows
import Derived.WalkKit
import Derived.Lib.Hide
import Derived.Laws.OwnMore
import Derived.Test.YthehbckogieimaaGreatProg
import Derived.Outline
import Derived.Deep.DeepFit
import Derived.BigQuiet
import Derived.Deep.QuietTactic
import Derived.Sort.OwnSortedInts
import Derived.WideMake
import Derived.MapKept
import Derived.ChangeMaps5
import Derived.Shelf.Sort.Plain
import Derived.RangeFuncBox
import Derived.RangeFuncLeaves
import Derived.Shelf.Abstract
import Derived.OwnWalkIn
import Derived.TacticsInMore
import Derived.LoopNIn
import Derived.LoopIn
import Derived.RangeFuncWrites
import Derived.RangeFuncNested
import Derived.Sort.CutIn
import Derived.ChangeKeysEq
import Derived.Laws.Cells
import Derived.Laws.Rows
import Derived.Laws.Tables
import Derived.Deep.WholeRow
import Derived.OrdersIn
import Derived.TacticsIn
import Derived.Stop.BytesEq
import Derived.Shelf.SlSortCmp.Whole1
import Derived.Ground.SlsfProg
set_option linter.unusedVariables false
set_option linter.unusedSimpArgs false
set_option maxRecDepth 100000
set_option maxHeartbeats 8000000
namespace Go.Proofs.YthehbckogieimaaGreat
open Go.RowKit
open Go.Proofs
open Go.Proofs.Ob
open Go.Shelf
open Go.Proofs.Cm (Gd)
attribute [local go_sem] Oper.semAt_some
attribute [local irreducible] Go.Calls Go.wpList Go.wpListIn
theorem Zhcl4 (args:Array Value) (w:World):(callFunc 124 args).run Tryz.prog w=.ok (.enter 124 args) w:=by kernel_rfl
theorem chStab_any {n k:Int} {ov rv:Value} {OO:List (List Int)} {RR:List (List (List Int))} {w:World} (h:ChEqR w ov rv OO RR) :
  Calls Tryz.prog 46 #[.agg #[.int .i64 n,ov,rv],.int .i64 k] w (StPost n OO RR k w):=by
 obtain ⟨oa,oc,rfl,-⟩:=h.1.shape;obtain ⟨ra,rc,rfl⟩:=h.2.shape;have HC:=ι h;have HR:=ι h.2;have K:=ι (Below.refl w.heap.size w);clear h;refine RF.calls_marks Tryz.func46 rfl ?_;simp only [Tryz.ntmps46,List.size_toArray,List.length_cons,List.length_nil,Nat.reduceAdd,Nat.reduceSub,Array.replicate_succ,Array.replicate_zero,List.push_toArray,List.append_toArray,List.nil_append,List.cons_append];have hs0:w.heap.size=w.heap.size+0:=rfl;go_upto_region 0 with (fail);refine Rg.wl ?_;have hbx:=box3 w (.int .i64 n) (.slice oa OO.length oc) (.slice ra RR.length rc)
 have hs:(w.alloc (.cells #[.int .i64 n,.slice oa OO.length oc,.slice ra RR.length rc] 54)).heap.size=w.heap.size+1:=by simp
 refine Rg.lr 2 (Rg.exec_box _ _ rfl rfl) ?_;go_frame;have hb:=(Below.refl w.heap.size w).alloc (Nat.le_refl _) (.cells #[.int .i64 n,.slice oa OO.length oc,.slice ra RR.length rc] 54);generalize w.alloc (.cells #[.int .i64 n,.slice oa OO.length oc,.slice ra RR.length rc] 54)=w1 at *;replace HC:=ι (HC.out.below hb);replace K:=ι (Rg.acc K.out hb);clear hb;have A0:=ι hbx.1;have A1:=ι hbx.2.1;have A2:=ι hbx.2.2
 have hs1:w1.heap.size=w.heap.size+1:=by omega
 clear hs;clear hbx;have hnw:=CW.new w1 (.int .i64 k) 3
 have hs:(w1.alloc (.cells #[.int .i64 k] 3)).heap.size=w1.heap.size+1:=by simp
 refine Rg.lr 3 (exec_boxV (v:=.int .i64 k) _ _ rfl rfl rfl) ?_;go_frame;have hb:=(Below.refl w1.heap.size w1).alloc (Nat.le_refl _) (.cells #[.int .i64 k] 3);generalize w1.alloc (.cells #[.int .i64 k] 3)=w2 at *;replace HC:=ι (HC.out.below hb);replace A0:=ι (A0.out.below hb);replace A1:=ι (A1.out.below hb);replace A2:=ι (A2.out.below hb);replace K:=ι (Rg.acc K.out hb);clear hb;rw [hs1] at hnw ⊢
 have hs2:w2.heap.size=w.heap.size+2:=by omega
 have CK:=ι hnw;clear hnw hs;have hnw:=Tri.new w2 (.int .i64 0) (.slice none 0 0) (.slice none 0 0)
 have hs:(w2.alloc (.cells #[.int .i64 0,.slice none 0 0,.slice none 0 0] 54)).heap.size=w2.heap.size+1:=by simp
 refine Rg.lr 4 (exec_allocC rfl) ?_;go_frame;have hb:=(Below.refl w2.heap.size w2).alloc (Nat.le_refl _) (.cells #[.int .i64 0,.slice none 0 0,.slice none 0 0] 54);generalize w2.alloc (.cells #[.int .i64 0,.slice none 0 0,.slice none 0 0] 54)=w3 at *;replace HC:=ι (HC.out.below hb);replace A0:=ι (A0.out.below hb);replace A1:=ι (A1.out.below hb);replace A2:=ι (A2.out.below hb);replace CK:=ι (CK.out.below hb);replace K:=ι (Rg.acc K.out hb);clear hb;rw [hs2] at hnw ⊢
 have hs3:w3.heap.size=w.heap.size+3:=by omega
 have FT:=ι hnw;clear hnw hs;refine Rg.la 5 (.int .i64 0) ?_;go_frame;obtain ⟨ck,hck⟩:∃ c,Hid (chCode n OO RR=c):=⟨_,ι rfl⟩;go_upto_region 1 with (fail);refine Rg.wl ?_;refine Rg.lr 13 (Rg.exec_load (v:=(.agg #[.int .i64 n,.slice oa OO.length oc,.slice ra RR.length rc])) _ _ rfl ⟨w.heap.size,0,none⟩ rfl (run_loadC3 A0.out.cell A1.out.cell A2.out.cell)) ?_;go_frame;refine list_ask (some 14) rfl rfl _ _ (exec_fn1 42 _ _ rfl rfl (Xccl0 _ _)) ?_;refine (chCheck_c HC.out).mono ?_;rintro e1 w4 ⟨rfl,hb⟩;rw [hck.out];refine ⟨_,rfl,?_⟩;go_frame;replace HC:=ι (HC.out.below hb);replace A0:=ι (A0.out.below hb);replace A1:=ι (A1.out.below hb);replace A2:=ι (A2.out.below hb);replace CK:=ι (CK.out.below hb);replace FT:=ι (FT.out.below hb);replace K:=ι (Rg.acc K.out hb);clear hb;refine Rg.la 6 (.int .i64 ck) ?_;go_frame
 by_cases h0:ck=0
 case neg =>
  skip
  go_upto_region 2 with (fail);refine Rg.wl ?_;refine Rg.lm 15 (.int .i64 ck) ?_;go_frame;refine Rg.lr 16 (exec_bin (R:=.bool true) .neq _ _ _ rfl rfl rfl (b_neqB _ (decide_eq_true h0))) ?_;go_frame;go_upto_region 3 with (fail);refine Rg.wl ?_;refine Rg.lr 17 (exec_buildC0 rfl) ?_;go_frame;refine Rg.lm 18 (.int .i64 ck) ?_;go_frame;refine Rg.list_skip none rfl rfl (Rg.exec_store _ _ _ rfl _ rfl _ rfl (run_storeC _ _ _ _ _ _ _ FT.out)) ?_;go_frame;refine Rg.la 5 (.int .i64 ck) ?_;go_frame;have htt:=FT.out.set (.int .i64 0) (.slice none 0 0) (.slice none 0 0);have hkf:=((K.out.setCell (p:=⟨(w.heap.size+2),0,none⟩) (by show w.heap.size≤w.heap.size+2; omega) (.int .i64 0)).setCell (p:=⟨(w.heap.size+2),1,none⟩) (by show w.heap.size≤w.heap.size+2; omega) (.slice none 0 0)).setCell (p:=⟨(w.heap.size+2),2,none⟩) (by show w.heap.size≤w.heap.size+2; omega) (.slice none 0 0)
  generalize ((w4.setCell ⟨(w.heap.size+2),0,none⟩ (.int .i64 0)).setCell ⟨(w.heap.size+2),1,none⟩ (.slice none 0 0)).setCell ⟨(w.heap.size+2),2,none⟩ (.slice none 0 0)=w99 at *;have HTT:=ι htt;have KX:=ι hkf;have HV:=ι (show stC n OO RR k=ck from by unfold stC; rw [if_neg (by rw [hck.out]; exact h0)]; exact hck.out)
  have HA:=ι (show StAns n OO RR k w99 zeroC from .inl ⟨by rw [HV.out]; first | exact h0 | decide,rfl⟩)
  clear htt hkf ;go_wp2;exact st_leave (ds:=[]) KX.out HTT.out HA.out rfl (by rw [HV.out]; rfl) (by simp) (fun D hD=>by simp at hD)
 case pos =>
  have HZ:=ι (hck.out.trans h0);go_upto_region 2 with (fail);refine Rg.wl ?_;refine Rg.lm 15 (.int .i64 ck) ?_;go_frame;refine Rg.lr 16 (exec_bin (R:=.bool false) .neq _ _ _ rfl rfl rfl (b_neqB _ (decide_eq_false (fun e=>e h0)))) ?_;go_frame;clear h0
  by_cases hk0:k<0
  case pos =>
   skip
   go_upto_region 4 with (fail);refine Rg.wl ?_;refine Rg.lr 19 (Rg.exec_load (v:=.int .i64 k) _ _ rfl ⟨(w.heap.size+1),0,none⟩ rfl (run_loadInt CK.out.c)) ?_;go_frame;refine Rg.lr 20 (exec_bin (R:=.bool true) .lss _ _ _ rfl rfl rfl (b_lss _ (decide_eq_true (by omega)))) ?_;go_frame;refine Rg.lm 21 (.bool true) ?_;go_frame;refine listW_pass (some 22) (by kernel_rfl) rfl ?_;go_frame;refine listW_pass (some 23) (by kernel_rfl) rfl ?_;go_frame;refine listW_pass (some 24) (by kernel_rfl) rfl ?_;go_frame;refine listW_pass (some 25) (by kernel_rfl) rfl ?_;go_frame;refine Rg.lr 26 (exec_pickT (v:=.bool true) _ _ _ rfl rfl rfl) ?_;go_frame;go_upto_region 5 with (fail);refine Rg.wl ?_;refine Rg.lr 27 (exec_buildC0 rfl) ?_;go_frame;refine Rg.list_skip none rfl rfl (Rg.exec_store _ _ _ rfl _ rfl _ rfl (run_storeC _ _ _ _ _ _ _ FT.out)) ?_;go_frame;refine Rg.la 5 (.int .i64 ((2:Nat):Int)) ?_;go_frame
   have htt:=FT.out.set (.int .i64 0) (.slice none 0 0) (.slice none 0 0);have hkf:=((K.out.setCell (p:=⟨(w.heap.size+2),0,none⟩) (by show w.heap.size≤w.heap.size+2; omega) (.int .i64 0)).setCell (p:=⟨(w.heap.size+2),1,none⟩) (by show w.heap.size≤w.heap.size+2; omega) (.slice none 0 0)).setCell (p:=⟨(w.heap.size+2),2,none⟩) (by show w.heap.size≤w.heap.size+2; omega) (.slice none 0 0);generalize ((w4.setCell ⟨(w.heap.size+2),0,none⟩ (.int .i64 0)).setCell ⟨(w.heap.size+2),1,none⟩ (.slice none 0 0)).setCell ⟨(w.heap.size+2),2,none⟩ (.slice none 0 0)=w99 at *;have HTT:=ι htt;have KX:=ι hkf;have HV:=ι (show stC n OO RR k=2 from by unfold stC; rw [if_pos HZ.out,if_neg (by omega)])
   have HA:=ι (show StAns n OO RR k w99 zeroC from .inl ⟨by rw [HV.out]; first | exact h0 | decide,rfl⟩)
   clear htt hkf hk0 hs0 hs1 hs2 hs3;go_wp2;exact st_leave (ds:=[]) KX.out HTT.out HA.out rfl (by rw [HV.out]; rfl) (by simp) (fun D hD=>by simp at hD)
  by_cases hk1:n<k
  case pos =>
   skip
   go_upto_region 4 with (fail);refine Rg.wl ?_;refine Rg.lr 19 (Rg.exec_load (v:=.int .i64 k) _ _ rfl ⟨(w.heap.size+1),0,none⟩ rfl (run_loadInt CK.out.c)) ?_;go_frame;refine Rg.lr 20 (exec_bin (R:=.bool false) .lss _ _ _ rfl rfl rfl (b_lss _ (decide_eq_false (by omega)))) ?_;go_frame;refine Rg.lm 21 (.bool false) ?_;go_frame;refine listW_run (some 22) rfl rfl (Rg.exec_load (v:=.int .i64 k) _ _ rfl ⟨(w.heap.size+1),0,none⟩ rfl (run_loadInt CK.out.c)) ?_;go_frame;refine listW_run (some 23) rfl rfl (exec_field _ rfl rfl (chF0 _ _)) ?_;go_frame;refine listW_run (some 24) rfl rfl (Rg.exec_load (v:=.int .i64 n) _ _ rfl ⟨w.heap.size,0,none⟩ rfl (run_loadInt A0.out.cell)) ?_;go_frame;refine listW_run (some 25) rfl rfl (exec_bin (R:=.bool true) .gtr _ _ _ rfl rfl rfl (b_gtr _ (decide_eq_true (by omega)))) ?_;go_frame;refine Rg.lr 26 (exec_pickF (v:=.bool true) _ _ _ rfl rfl rfl) ?_;go_frame
   go_upto_region 5 with (fail);refine Rg.wl ?_;refine Rg.lr 27 (exec_buildC0 rfl) ?_;go_frame;refine Rg.list_skip none rfl rfl (Rg.exec_store _ _ _ rfl _ rfl _ rfl (run_storeC _ _ _ _ _ _ _ FT.out)) ?_;go_frame;refine Rg.la 5 (.int .i64 ((2:Nat):Int)) ?_;go_frame;have htt:=FT.out.set (.int .i64 0) (.slice none 0 0) (.slice none 0 0);have hkf:=((K.out.setCell (p:=⟨(w.heap.size+2),0,none⟩) (by show w.heap.size≤w.heap.size+2; omega) (.int .i64 0)).setCell (p:=⟨(w.heap.size+2),1,none⟩) (by show w.heap.size≤w.heap.size+2; omega) (.slice none 0 0)).setCell (p:=⟨(w.heap.size+2),2,none⟩) (by show w.heap.size≤w.heap.size+2; omega) (.slice none 0 0);generalize ((w4.setCell ⟨(w.heap.size+2),0,none⟩ (.int .i64 0)).setCell ⟨(w.heap.size+2),1,none⟩ (.slice none 0 0)).setCell ⟨(w.heap.size+2),2,none⟩ (.slice none 0 0)=w99 at *;have HTT:=ι htt;have KX:=ι hkf
   have HV:=ι (show stC n OO RR k=2 from by unfold stC; rw [if_pos HZ.out,if_neg (by omega)])
   have HA:=ι (show StAns n OO RR k w99 zeroC from .inl ⟨by rw [HV.out]; first | exact h0 | decide,rfl⟩)
   clear htt hkf hk0 hk1 hs0 hs1 hs2 hs3;go_wp2;exact st_leave (ds:=[]) KX.out HTT.out HA.out rfl (by rw [HV.out]; rfl) (by simp) (fun D hD=>by simp at hD)
  go_upto_region 4 with (fail);refine Rg.wl ?_;refine Rg.lr 19 (Rg.exec_load (v:=.int .i64 k) _ _ rfl ⟨(w.heap.size+1),0,none⟩ rfl (run_loadInt CK.out.c)) ?_;go_frame;refine Rg.lr 20 (exec_bin (R:=.bool false) .lss _ _ _ rfl rfl rfl (b_lss _ (decide_eq_false (by omega)))) ?_;go_frame;refine Rg.lm 21 (.bool false) ?_;go_frame;refine listW_run (some 22) rfl rfl (Rg.exec_load (v:=.int .i64 k) _ _ rfl ⟨(w.heap.size+1),0,none⟩ rfl (run_loadInt CK.out.c)) ?_;go_frame;refine listW_run (some 23) rfl rfl (exec_field _ rfl rfl (chF0 _ _)) ?_;go_frame;refine listW_run (some 24) rfl rfl (Rg.exec_load (v:=.int .i64 n) _ _ rfl ⟨w.heap.size,0,none⟩ rfl (run_loadInt A0.out.cell)) ?_;go_frame;refine listW_run (some 25) rfl rfl (exec_bin (R:=.bool false) .gtr _ _ _ rfl rfl rfl (b_gtr _ (decide_eq_false (by omega)))) ?_;go_frame;refine Rg.lr 26 (exec_pickF (v:=.bool false) _ _ _ rfl rfl rfl) ?_;go_frame
  have HSC:=ι (show stC n OO RR k=0 by unfold stC; rw [if_pos HZ.out,if_pos (by omega)]);obtain ⟨N,O,R,rfl,hN1,hN2,hOO,hRR,hch,hgs⟩:=chCode_ok HZ.out;have HOK:=ι (chCode_ok HZ.out);have HLR:=ι (show RR.length=N by rw [hRR,List.length_map,hch.lenR]);have HLO:=ι (show OO.length=N by rw [hOO,List.length_map,hch.lenO])
  have HON:=ι (show ∀ X (h:X<OO.length) (h2:X<RR.length),OO[X].length=RR[X].length∧1≤OO[X].length∧OO[X].length≤64 from fun X h h2=>by
   have e:=(chCode_ok HZ.out).row h2 h
   have hXn:X<N:=by rw [hOO,List.length_map,hch.lenO] at h; exact h
   have hm:X∈O.getD X []:=(hch.orb X X hXn).2 ⟨Ma.oneN N,⟨.one,Cm.Fx.one (by omega)⟩,Cm.ap_one hXn⟩
   have e2:OO[X].length=(O.getD X []).length:=by
    have hXO:X<O.length:=by rw [hch.lenO]; exact hXn
    simp only [hOO,List.getElem_map,Ma.len_ofN,getD_inf hXO]
   have:=List.length_pos_of_mem hm
   exact ⟨e.1.symm,by omega,by omega⟩)
  have HNN:=ι (show k≤((N:Nat):Int) from by omega);clear hOO hRR hch hgs hk1;go_upto_region 6 with (fail);refine Rg.wl ?_;refine Rg.lr 28 (exec_field _ rfl rfl (chF0 _ _)) ?_;go_frame;refine Rg.lr 29 (Rg.exec_load (v:=.int .i64 ((N:Nat):Int)) _ _ rfl ⟨w.heap.size,0,none⟩ rfl (run_loadInt A0.out.cell)) ?_;go_frame;refine Rg.lr 30 (exec_buildC1 (d:=((N:Nat):Int)) _ rfl rfl) ?_;go_frame;have hnw:=Tri.new w4 (.int .i64 0) (.slice none 0 0) (.slice none 0 0);refine Rg.lr 7 (exec_allocC rfl) ?_;go_frame;have hKB:=(Below.refl w4.heap.size w4).alloc (Nat.le_refl _) (.cells #[.int .i64 0,.slice none 0 0,.slice none 0 0] 54);generalize w4.alloc (.cells #[.int .i64 0,.slice none 0 0,.slice none 0 0] 54)=w5 at *;refine Rg.list_skip none rfl rfl (Rg.exec_store _ _ _ rfl _ rfl _ rfl (run_storeC _ _ _ _ _ _ _ hnw)) ?_;go_frame;have hFC:=hnw.set (.int .i64 ((N:Nat):Int)) (.slice none 0 0) (.slice none 0 0)
  have hK1:=((hKB.setCell (p:=⟨w4.heap.size,0,none⟩) (Nat.le_refl _) (.int .i64 ((N:Nat):Int))).setCell (p:=⟨w4.heap.size,1,none⟩) (Nat.le_refl _) (.slice none 0 0)).setCell (p:=⟨w4.heap.size,2,none⟩) (Nat.le_refl _) (.slice none 0 0);generalize ((w5.setCell ⟨w4.heap.size,0,none⟩ (.int .i64 ((N:Nat):Int))).setCell ⟨w4.heap.size,1,none⟩ (.slice none 0 0)).setCell ⟨w4.heap.size,2,none⟩ (.slice none 0 0)=w50 at *;have K1:=ι (show Below w4.heap.size w4 w50 from hK1);have CH:=ι (ChR.start hFC (Nat.le_refl _));have HSZ:=ι (show w.heap.size+3≤w4.heap.size by have:=FT.out.lt; omega);clear hFC hK1 hKB hnw hs0 hs1 hs2 hs3;go_upto_region 7 with (fail);refine Rg.wl ?_;refine Rg.lr 31 (Rg.exec_load (v:=(.agg #[.int .i64 ((N:Nat):Int),.slice oa OO.length oc,.slice ra RR.length rc])) _ _ rfl ⟨w.heap.size,0,none⟩ rfl (run_loadC3 ((Below.cell (p:=⟨w.heap.size,0,none⟩) K1.out A0.out.lt).trans A0.out.cell) ((Below.cell (p:=⟨w.heap.size,1,none⟩) K1.out A1.out.lt).trans A1.out.cell) ((Below.cell (p:=⟨w.heap.size,2,none⟩) K1.out A2.out.lt).trans A2.out.cell))) ?_;go_frame
  refine list_ask (some 32) rfl rfl _ _ (exec_fn1 114 _ _ rfl rfl (Wvcl0 _ _)) ?_;refine (reps_any _ _ _ w50).mono ?_;rintro e1 w51 ⟨fb,rfl,hfb,hb⟩;have hsz:=hb.size;refine ⟨_,rfl,?_⟩;go_frame;replace CH:=ι (CH.out.below hb);replace K1:=ι (Rg.acc K1.out hb);clear hb;have FB:=ι hfb;clear hfb;have HS0:=ι (show w.heap.size+4≤w51.heap.size by have:=CH.out.tri.lt; have:=HSZ.out; omega);have HS1:=ι (show w4.heap.size<w51.heap.size from CH.out.tri.lt);clear hsz;obtain ⟨us,hus,hul,hur⟩:=HR.out;have HUR:=ι hur;have KW:=ι (show Below w.heap.size w w51 from K.out.trans (K1.out.mono K.out.size))
  have hrv:RV3 w.heap.size w51 ra RR.length (fun k=>us[k]?.getD undef):=by
   obtain ⟨a',c',e,q1,q2,q3,q4⟩:=hus
   injection e with e1 e2 e3
   refine ⟨by have:=HLR.out; omega,fun h0=>?_,fun b off e5 j hj=>?_,KW.out.size⟩
   ·obtain ⟨b,o,e4,e5,_⟩:=q4 (by omega)
    exact ⟨b,o,e1.trans e4,e5⟩
   ·obtain ⟨b',o',e4,e6,e7⟩:=q4 (by omega)
    rw [e1,e4] at e5;simp only [Option.some.injEq,Addr.mk.injEq,and_true] at e5;obtain ⟨rfl,rfl⟩:=e5;rw [(KW.out.cell (p:=⟨b',o'+j,none⟩) e6)];show _=some (us[j]?.getD undef);rw [List.getElem?_eq_getElem (by omega)];exact e7 j (by omega)
  have HRV:=ι hrv;have HUL:=ι hul;clear hus hrv hul hur;go_wp2
  refine range_reps2 rfl FB.out HRV.out rfl (fun pre W=>(∃ ov rv,ChR w4.heap.size W w4.heap.size (.int .i64 ((N:Nat):Int)) ov rv ov rv (pre.map fun z=>fO k OO z.1) (pre.map fun z=>fR ((N:Nat):Int) k RR z.1))∧Below w4.heap.size w4 W)
   (fun c pre W=>False) ?hI ?hIx ⟨⟨_,_,CH.out⟩,K1.out⟩ ?a1 ?assign ?body ?done ?stop
  case assign =>
   intro l x W K hK
   gi_wp2
   exact hK
  case hI =>
   rintro pre W W' row ⟨⟨ov,rv,h1⟩,h2⟩ hg hr;exact ⟨⟨ov,rv,h1.nc hg (fun r e=>(hr r e).2)⟩,h2.grown hg h2.size (fun k e=>by have:=(hr k e).1; have:=HS1.out; omega)⟩
  case hIx =>
   intro c pre W W' row h hg hr;exact h
  case stop =>
   intro D c k' W hD hk h hd;exact h.elim
  case body =>
   rintro l pre ⟨X,hX⟩ Wb ⟨⟨ov,rv,hch⟩,hbl⟩ hpl;obtain ⟨B,hB⟩:∃ B,w51.heap.size=B:=⟨_,rfl⟩;rw [hB] at HS0 HS1 ⊢;clear FB HRV CH K1 KW hB
   have hXn:X<N:=by have:=HLR.out; omega
   have CH:=ι hch;have K1:=ι hbl;obtain ⟨OL,hOL⟩:∃ l,Hid ((pre.map fun z=>fO k OO z.1)=l):=⟨_,ι rfl⟩;obtain ⟨RL,hRL⟩:∃ l,Hid ((pre.map fun z=>fR ((N:Nat):Int) k RR z.1)=l):=⟨_,ι rfl⟩;rw [hOL.out,hRL.out] at CH;have HOLN:=ι (show OL.length<1000000 by rw [← hOL.out,List.length_map]; have:=HLR.out; omega);have HRLN:=ι (show RL.length<1000000 by rw [← hRL.out,List.length_map]; have:=HLR.out; omega);obtain ⟨ova,ovc,rfl⟩:=CH.out.shapeO;obtain ⟨rva,rvc,rfl⟩:=CH.out.shapeR;have HXR:=ι hX;have HXN:=ι hXn;have HXO:=ι (show X<OO.length by have:=HLO.out; omega);clear hch hbl;have hu:=HUR.out X (by rw [HUL.out]; exact hX) hX
   have e1:us[X]?.getD undef=us[X]'(by rw [HUL.out]; exact hX):=by rw [List.getElem?_eq_getElem (by rw [HUL.out]; exact hX)]; rfl
   rw [← e1] at hu
   dsimp only
   generalize us[X]?.getD undef=u at *;clear e1;obtain ⟨r,hr⟩:∃ r:List (List Int),Hid (RR[X]'hX=r):=⟨_,ι rfl⟩;obtain ⟨ol,hol⟩:∃ o:List Int,Hid (OO[X]'HXO.out=o):=⟨_,ι rfl⟩;rw [hr.out] at hu;obtain ⟨ua,uc,rfl,-,-,-,hrc⟩:=hu.shape;have HRC:=ι hrc;have hon:=HON.out X HXO.out hX;rw [hr.out,hol.out] at hon;have HLE:=ι hon;have HXP:=ι (show ∀ x∈r,(x.length:Int)=((N:Nat):Int) from fun x hx=>(HOK.out.perm hX (by rw [hr.out]; exact hx)).1);clear hrc hon hu;obtain ⟨oa',oc',e2,-,-,-,hos⟩:=HC.out.1.shape
   injection e2 with e3 _ e5
   subst e3 e5;obtain ⟨ob,oo,rfl,hob,hos⟩:=hos (by have:=HXO.out; omega);obtain ⟨yv,hyc,hyi⟩:=hos X HXO.out;rw [hol.out] at hyi;obtain ⟨qa,qc,rfl,-⟩:=hyi.shape;have CO:=ι (CL.mk hyc hob);have IO:=ι hyi;obtain ⟨M,hM⟩:∃ M,Hid (MK w4.heap.size (.slice ova OL.length ovc) (.slice rva RL.length rvc)=M):=⟨_,ι rfl⟩;have HMC:=ι (show ∀ z,M z→∃ o:Obj,Wb.heap[z]?=some o∧o.isCells=true by rw [← hM.out]; exact CH.out.isCells);have HMO:=ι (show (∀ z,(Value.slice ova OL.length ovc).ownBlock=some z→M z)∧(∀ z,(Value.slice rva RL.length rvc).ownBlock=some z→M z)∧M w4.heap.size by rw [← hM.out]; exact ⟨fun z e=>.inr (.inl e),fun z e=>.inr (.inr e),.inl rfl⟩)
   have HML:=ι (show ∀ z,M z→w4.heap.size≤z by
    rw [← hM.out]
    rintro z (e | e | e)
    ·omega
    ·exact (CH.out.lts.1 z e).1
    ·exact (CH.out.lts.2 z e).1)
   have HBW:=ι (show w4.heap.size≤Wb.heap.size from Nat.le_of_lt CH.out.tri.lt);clear hos hyc hyi hob
   by_cases hXk:(X:Int)<k
   case pos =>
    have HF1:=ι (show fO k OO X=[(X:Int)] from if_pos hXk);have HF2:=ι (show fR ((N:Nat):Int) k RR X=[oneI ((N:Nat):Int)] from if_pos hXk)
    gi_upto_region 10 with (fail)
    refine wpIn_region_list ?_;refine Rg.in_run (some 35) rfl rfl (fun _ hh=>by cases hh) (Rg.xm (.int .i64 ((X:Nat):Int)) _ rfl rfl) ?_;go_frame;refine Rg.in_run (some 36) rfl rfl (fun _ hh=>by cases hh) (Rg.exec_load (v:=.int .i64 k) _ _ rfl ⟨(w.heap.size+1),0,none⟩ rfl (run_loadInt ((Below.cell (p:=⟨(w.heap.size+1),0,none⟩) K1.out CK.out.lt).trans CK.out.c))) ?_;go_frame;refine Rg.in_run (some 37) rfl rfl (fun _ hh=>by cases hh) (exec_bin (R:=.bool true) .lss _ _ _ rfl rfl rfl (b_lss _ (decide_eq_true (by omega)))) ?_;go_frame
    gi_upto_region 11 with (fail)
    have hV1:Below Wb.heap.size Wb Wb.drew:=(Below.refl _ _).drew;have hWr:Below Wb.heap.size Wb Wb.drew:=(Below.refl _ _).drew;replace CH:=ι (CH.out.below hV1);replace K1:=ι (K1.out.trans (hV1.mono HBW.out));clear hV1;have hV0:Below Wb.heap.size Wb Wb.drew:=(Below.refl _ _).drew;generalize Fup (fun _:Nat=>True) Wb Wb.drew=F1 at *;clear hV0;refine Rg.Any.beginIn (hnd:=by kernel_rfl) (S:=Rg.Both 15 (StI w4.heap.size (.int .i64 ((N:Nat):Int)) (Value.slice ova OL.length ovc) (Value.slice rva RL.length rvc) M w4 Wb) (fun W:World=>Below w4.heap.size w4 W)) mix ?_;generalize Wb.drew=w61 at *;have hS:∀ (l:Array Bool) W,(StI w4.heap.size (.int .i64 ((N:Nat):Int)) (Value.slice ova OL.length ovc) (Value.slice rva RL.length rvc) M w4 Wb) W→Rg.Both 15 (StI w4.heap.size (.int .i64 ((N:Nat):Int)) (Value.slice ova OL.length ovc) (Value.slice rva RL.length rvc) M w4 Wb) (fun W:World=>Below w4.heap.size w4 W) l W:=fun l W h=>⟨.inr h,h.2.1⟩
    have hS2:∀ (l:Array Bool) W,l.getD 15 false=true→(fun W:World=>Below w4.heap.size w4 W) W→Rg.Both 15 (StI w4.heap.size (.int .i64 ((N:Nat):Int)) (Value.slice ova OL.length ovc) (Value.slice rva RL.length rvc) M w4 Wb) (fun W:World=>Below w4.heap.size w4 W) l W:=fun l W h h2=>⟨.inl h,h2⟩;have hI:(StI w4.heap.size (.int .i64 ((N:Nat):Int)) (Value.slice ova OL.length ovc) (Value.slice rva RL.length rvc) M w4 Wb) w61:=⟨CH.out.tri,K1.out,Rg.Kp.of_below (M:=M) hWr⟩;refine Rg.tg 0 15 (.pointer (some ⟨w4.heap.size,1,none⟩)) 38 rfl rfl (.inl ⟨rfl,fun w _=>exec_field _ rfl rfl (chF1 _ _)⟩) (hS _ _ hI) ?_;go_frame;refine Rg.Any.takeT (i:=1) (t:=15) (v:=.slice ova OL.length ovc) (some 39) rfl rfl (by kernel_rfl) (by kernel_rfl) (by kernel_rfl) (fun _ _ _ h=>h) rfl (by kernel_rfl) rfl (Rg.yields_cell _ _ rfl rfl ⟨w4.heap.size,1,none⟩ rfl (fun W hW=>Rg.run_loadSl _ _ Tryz.underlying27 hW.1.c1)) (hS _ _ hI) ?_;go_frame
    refine Rg.tm 2 15 (.int .i64 ((X:Nat):Int)) 40 (hS _ _ hI) ?_;go_frame;refine Rg.tg 6 15 (.pointer (some ⟨w4.heap.size,2,none⟩)) 44 rfl rfl (.inl ⟨rfl,fun w _=>exec_field _ rfl rfl (chF2 _ _)⟩) (hS _ _ hI) ?_;go_frame;refine Rg.Any.takeT (i:=7) (t:=15) (v:=.slice rva RL.length rvc) (some 45) rfl rfl (by kernel_rfl) (by kernel_rfl) (by kernel_rfl) (fun _ _ _ h=>h) rfl (by kernel_rfl) rfl (Rg.yields_cell _ _ rfl rfl ⟨w4.heap.size,2,none⟩ rfl (fun W hW=>Rg.run_loadSl _ _ Tryz.underlying52 hW.1.c2)) (hS _ _ hI) ?_;go_frame;refine Rg.tg 8 15 (.pointer (some ⟨w.heap.size,0,none⟩)) 46 rfl rfl (.inl ⟨rfl,fun w _=>exec_field _ rfl rfl (chF0 _ _)⟩) (hS _ _ hI) ?_;go_frame;refine Rg.tg 9 15 (.int .i64 ((N:Nat):Int)) 47 rfl rfl (Rg.yields_cell _ _ rfl rfl ⟨w.heap.size,0,none⟩ rfl (fun W hW=>run_loadInt ((Below.cell (p:=⟨w.heap.size,0,none⟩) hW A0.out.lt).trans A0.out.cell))) (hS _ _ hI) ?_;go_frame
    obtain ⟨wp1,wp2,a3,c3,X3,hp1,hp2,hp3,hp4,q1,q2,q3⟩:=CH.out.putO (Nat.le_of_lt CH.out.tri.lt) HOLN.out ((X:Nat):Int) 27;have HVS:=ι (show (∀ z,(Value.slice ova OL.length ovc).ownBlock=some z→z<w61.heap.size)∧(∀ z,(Value.slice rva RL.length rvc).ownBlock=some z→z<w61.heap.size)∧w4.heap.size<w61.heap.size from ⟨fun z e=>(CH.out.lts.1 z e).2,fun z e=>(CH.out.lts.2 z e).2,CH.out.tri.lt⟩);have q41:=run_build1i w61 ((X:Nat):Int);rw [hp1] at q41;have hI2_m:=hI.st hp3;refine Rg.Any.one (i:=3) (by kernel_rfl) (Rg.Any.run (some 41) rfl rfl rfl (Rg.exec_buildSlice _ _ _ rfl (.int .i64 ((X:Nat):Int)) rfl q41) (hS _ _ hI2_m) ?_);go_frame;have q42:=run_build1L wp1 (.slice (some ⟨w61.heap.size,0,none⟩) 1 1) ⟨_,_,_,rfl⟩;rw [hp2] at q42;have hI3_m:=hI2_m.st hp4;refine Rg.Any.one (i:=4) (by kernel_rfl) (Rg.Any.run (some 42) rfl rfl rfl (Rg.exec_buildSlice _ _ _ rfl (.slice (some ⟨w61.heap.size,0,none⟩) 1 1) rfl q42) (hS _ _ hI3_m) ?_)
    go_frame;have HOW:=ι (fun j e=>(CH.out.lts.1 j e).1);have hI4_m:=(show StI _ _ _ _ _ _ _ _ from ⟨q2.tri,hI3_m.2.1.grown q3 hI3_m.2.1.size (fun j e=>(HOW.out j e)),Rg.Kp.trans (M:=M) hI3_m.2.2 (Rg.Kp.of_grown q3 (M:=M) fun z e=>HMO.out.1 z e) (fun _ _ e=>e)⟩);refine Rg.Any.one (i:=5) (by kernel_rfl) (Rg.Any.run (some 43) rfl rfl rfl (Rg.exec_append _ _ _ rfl rfl rfl q1) (hS _ _ hI4_m) ?_);go_frame;refine Rg.tg 14 15 (.pointer (some ⟨w4.heap.size,1,none⟩)) 52 rfl rfl (.inl ⟨rfl,fun w _=>exec_field _ rfl rfl (chF1 _ _)⟩) (hS _ _ hI4_m) ?_;go_frame;have HWX:=ι (show w4.heap.size≤X3.heap.size from Nat.le_of_lt q2.tri.lt);have HXS:=ι (show (∀ z,(Value.slice a3 (OL.length+1) c3).ownBlock=some z→z<X3.heap.size)∧(∀ z,(Value.slice rva RL.length rvc).ownBlock=some z→z<X3.heap.size)∧w4.heap.size<X3.heap.size from ⟨fun z e=>(q2.lts.1 z e).2,fun z e=>(q2.lts.2 z e).2,q2.tri.lt⟩)
    refine Rg.Any.one (i:=10) (by kernel_rfl) (Rg.Any.ask (some 48) rfl rfl rfl _ _ (exec_fn1 122 _ _ rfl rfl (Vqcl0 _ _)) ?_);refine (chOne_any N X3 (by omega)).mono ?_;rintro e1 w62 ⟨ov1,rfl,hone,hb⟩;obtain ⟨b1,o1,c1,rfl⟩:=FP.shape' (FP.new (F:=fun _=>True) hone) (Cm.gd_one N) hN1;obtain ⟨wq1,wq2,a4,c4,X4,hr1,hr2,hr3,hr4,r1,r2,r3⟩:=(q2.below hb).putR (Nat.le_trans HWX.out hb.size) HRLN.out hb HXS.out HWX.out hone ⟨_,_,_,rfl⟩ 52;have hI5_u:=hI4_m.st hb;clear hI4_m;generalize Fup F1 X3 w62=F2 at *;clear hb;refine ⟨_,rfl,(hS _ _ hI5_u),?_⟩;go_frame;have q49:=run_build1P w62 (.slice (some ⟨b1,o1,none⟩) N c1) ⟨_,_,_,rfl⟩;rw [hr1] at q49;have hI6_m:=hI5_u.st hr3;refine Rg.Any.one (i:=11) (by kernel_rfl) (Rg.Any.run (some 49) rfl rfl rfl (Rg.exec_buildSlice _ _ _ rfl (.slice (some ⟨b1,o1,none⟩) N c1) rfl q49) (hS _ _ hI6_m) ?_);go_frame;have q50:=run_build1PP wq1 (.slice (some ⟨w62.heap.size,0,none⟩) 1 1) ⟨_,_,_,rfl⟩
    rw [hr2] at q50;have hI7_m:=hI6_m.st hr4;refine Rg.Any.one (i:=12) (by kernel_rfl) (Rg.Any.run (some 50) rfl rfl rfl (Rg.exec_buildSlice _ _ _ rfl (.slice (some ⟨w62.heap.size,0,none⟩) 1 1) rfl q50) (hS _ _ hI7_m) ?_);go_frame;have HRW:=ι (fun j e=>(CH.out.lts.2 j e).1);have hI8_m:=(show StI _ _ _ _ _ _ _ _ from ⟨r2.tri,hI7_m.2.1.grown r3 hI7_m.2.1.size (fun j e=>(HRW.out j e)),Rg.Kp.trans (M:=M) hI7_m.2.2 (Rg.Kp.of_grown r3 (M:=M) fun z e=>HMO.out.2.1 z e) (fun _ _ e=>e)⟩);refine Rg.Any.one (i:=13) (by kernel_rfl) (Rg.Any.run (some 51) rfl rfl rfl (Rg.exec_append _ _ _ rfl rfl rfl r1) (hS _ _ hI8_m) ?_);go_frame;have hKX:=hI8_m;have hJ9:=hKX.2.1.setCell (p:=⟨w4.heap.size,1,none⟩) (Nat.le_refl _) (.slice a3 (OL.length+1) c3);refine Rg.Any.one (i:=15) (by kernel_rfl) (Rg.Any.runSkip none rfl rfl rfl (Rg.exec_store _ _ _ rfl _ rfl _ rfl (Rg.run_storeSl _ infoIntss r2.tri.c1 r2.tri.f1)) (hS2 _ _ rfl hJ9) ?_)
    go_frame;refine Rg.tg 16 15 (.pointer (some ⟨w4.heap.size,2,none⟩)) 53 rfl rfl (.inl ⟨rfl,fun w _=>exec_field _ rfl rfl (chF2 _ _)⟩) (hS2 _ _ rfl hJ9) ?_;go_frame;have hJ10:=(hKX.2.1.setCell (p:=⟨w4.heap.size,1,none⟩) (Nat.le_refl _) (.slice a3 (OL.length+1) c3)).setCell (p:=⟨w4.heap.size,2,none⟩) (Nat.le_refl _) (.slice a4 (RL.length+1) c4);refine Rg.Any.one (i:=17) (by kernel_rfl) (Rg.Any.runSkip none rfl rfl rfl (Rg.exec_store _ _ _ rfl _ rfl _ rfl (Rg.run_storeSl _ infoPermss (r2.tri.set1 _).c2 (r2.tri.set1 _).f2)) (hS2 _ _ rfl hJ10) ?_);go_frame;refine Rg.Any.done (by kernel_rfl) ?_ _;refine Rg.onlyN_i ?_;clear hS2;clear hS hI8_m;have hst:=r2.store (.slice a3 (OL.length+1) c3) (.slice a4 (RL.length+1) c4);have hkk:=(hKX.2.1.setCell (p:=⟨w4.heap.size,1,none⟩) (Nat.le_refl _) (.slice a3 (OL.length+1) c3)).setCell (p:=⟨w4.heap.size,2,none⟩) (Nat.le_refl _) (.slice a4 (RL.length+1) c4)
    have hkm:=Rg.Kp.trans (M:=M) (Rg.Kp.trans (M:=M) hKX.2.2 (Rg.Kp.of_setCell (M:=M) (a:=⟨w4.heap.size,1,none⟩) (v:=.slice a3 (OL.length+1) c3) HMO.out.2.2) (fun _ _ e=>e)) (Rg.Kp.of_setCell (M:=M) (a:=⟨w4.heap.size,2,none⟩) (v:=.slice a4 (RL.length+1) c4) HMO.out.2.2) (fun _ _ e=>e);generalize (X4.setCell ⟨w4.heap.size,1,none⟩ (.slice a3 (OL.length+1) c3)).setCell ⟨w4.heap.size,2,none⟩ (.slice a4 (RL.length+1) c4)=w199 at *;have CH2:=ι (show ChR w4.heap.size w199 w4.heap.size (.int .i64 ((N:Nat):Int)) (.slice a3 (OL.length+1) c3) (.slice a4 (RL.length+1) c4) (.slice a3 (OL.length+1) c3) (.slice a4 (RL.length+1) c4) ((pre++[(⟨X,HXR.out⟩:Fin RR.length)]).map fun z=>fO k OO z.1) ((pre++[(⟨X,HXR.out⟩:Fin RR.length)]).map fun z=>fR ((N:Nat):Int) k RR z.1) by rw [List.map_append,List.map_append,hOL.out,hRL.out]; simp only [List.map_cons,List.map_nil]; rw [show fO k OO X=[(X:Int)] from HF1.out,show fR ((N:Nat):Int) k RR X=[oneI ((N:Nat):Int)] from HF2.out]; exact hst)
    have K2:=ι hkk;have KP2:=ι (keepsK (B:=B) hkm HMC.out);have KB2:=ι (show Below w.heap.size Wb w199 from kp_low hkm (by have:=HBW.out; have:=HSZ.out; omega) (fun z hz=>by have:=HML.out z hz; have:=HSZ.out; omega));clear hst hkk hkm
    gi_wp2
    exact ⟨KP2.out,KB2.out,⟨_,_,CH2.out⟩,K2.out⟩
   case neg =>
    have HF1:=ι (show fO k OO X=ol by unfold fO; rw [if_neg hXk,getD_in2 HXO.out]; exact hol.out);have HF2:=ι (show fR ((N:Nat):Int) k RR X=r by unfold fR; rw [if_neg hXk,getD_in2 HXR.out]; exact hr.out)
    gi_upto_region 10 with (fail)
    refine wpIn_region_list ?_;refine Rg.in_run (some 35) rfl rfl (fun _ hh=>by cases hh) (Rg.xm (.int .i64 ((X:Nat):Int)) _ rfl rfl) ?_;go_frame;refine Rg.in_run (some 36) rfl rfl (fun _ hh=>by cases hh) (Rg.exec_load (v:=.int .i64 k) _ _ rfl ⟨(w.heap.size+1),0,none⟩ rfl (run_loadInt ((Below.cell (p:=⟨(w.heap.size+1),0,none⟩) K1.out CK.out.lt).trans CK.out.c))) ?_;go_frame;refine Rg.in_run (some 37) rfl rfl (fun _ hh=>by cases hh) (exec_bin (R:=.bool false) .lss _ _ _ rfl rfl rfl (b_lss _ (decide_eq_false (by omega)))) ?_;go_frame
    gi_upto_region 12 with (fail)
    refine wpIn_region_list ?_;refine Rg.in_run (some 10) rfl rfl (fun _ hh=>by cases hh) (Rg.xa (.slice none 0 0) _ rfl rfl) ?_;go_frame
    gi_upto_region 13 with (fail)
    refine wpIn_region_list ?_;refine Rg.in_run (some 54) rfl rfl (fun _ hh=>by cases hh) (Rg.xm (.slice ua r.length uc) _ rfl rfl) ?_;go_frame;refine Rg.in_run (some 55) rfl rfl (fun _ hh=>by cases hh) (exec_len _ _ _ rfl Tryz.underlying22 _ _ _ rfl) ?_;go_frame;refine Rg.in_run (some 56) rfl rfl (fun _ hh=>by cases hh) (Rg.xm (.int .i64 ((0:Nat):Int)) _ rfl rfl) ?_;go_frame;have KWb:=ι (show Below w.heap.size w Wb from K.out.trans (K1.out.mono K.out.size));have K5:=ι (Below.refl Wb.heap.size Wb);have RP:=ι (show RowP Wb.heap.size Wb (.slice none 0 0) (r.take 0) from RowP.nil Wb.heap.size Wb);have HRL:=ι (show r.length≤64 by have:=HLE.out; omega);clear hXk
    gi_wp2
    gi_loopw [56,10] (fun iv tv wr=>∃ m:Nat,iv=.int .i64 m∧m≤r.length∧Hid (RowP Wb.heap.size wr tv (r.take m))∧Hid (Below Wb.heap.size Wb wr)) (fun iv _ _=>r.length - (intOf iv).toNat)
    case atStart=>exact ⟨0,rfl,Nat.zero_le _,RP,K5⟩
    case round =>
     clear K5 RP;obtain ⟨m,rfl,hm,RP,K5⟩:=hrel;have hrb:r.length≤64:=HRL.out;obtain ⟨ta,tc,htv⟩:=RP.out.shape;rw [List.length_take,Nat.min_eq_left hm] at htv;subst htv
     by_cases hml:m<r.length
     ·have hmN:(m:Int)<(r.length:Int):=by omega
      have HML:=ι hml;obtain ⟨ub,uo,rfl,hub,huc⟩:=HRC.out (by omega);obtain ⟨sv,hsc,hsi⟩:=huc m hml;obtain ⟨x,hx⟩:∃ x:List Int,Hid (r[m]'hml=x):=⟨_,ι rfl⟩;rw [hx.out] at hsi;have hxl:(x.length:Int)=((N:Nat):Int):=HXP.out x (by rw [← hx.out]; exact List.getElem_mem hml);obtain ⟨sa,sc,rfl,-⟩:=hsi.shape;have CS:=ι ((CL.mk hsc hub).below KWb.out);have NS:=ι (Rg.Ints.below hsi KWb.out);have HXL:=ι (show x.length=N by omega);clear huc hsc hsi hub hxl
      gi_upto_region 14 with (fail)
      refine wpIn_region_list ?_;refine Rg.in_run (some 57) rfl rfl (fun _ hh=>by cases hh) (exec_bin (R:=.bool true) .lss _ _ _ rfl rfl rfl (b_lss _ (decide_eq_true (by omega)))) ?_;go_frame
      gi_upto_region 15 with (fail)
      refine wpIn_region_list ?_;refine Rg.in_run (some 58) rfl rfl (fun _ hh=>by cases hh) (exec_indexS slPerms _ _ rfl ub (uo) (r.length) uc (m) rfl rfl HML.out) ?_;go_frame;refine Rg.in_run (some 59) rfl rfl (fun _ hh=>by cases hh) (Rg.exec_load (v:=.slice sa x.length sc) _ _ rfl ⟨ub,uo+m,none⟩ rfl (Rg.run_loadSl _ _ Tryz.underlying51 ((Below.cell (p:=⟨ub,uo+m,none⟩) K5.out CS.out.lt).trans CS.out.cell))) ?_;go_frame;refine Rg.in_run (some 12) rfl rfl (fun _ hh=>by cases hh) (Rg.xa (.slice sa x.length sc) _ rfl rfl) ?_;go_frame
      gi_upto_region 16 with (fail)
      refine wpIn_region_list ?_;refine Rg.in_run (some 60) rfl rfl (fun _ hh=>by cases hh) (Rg.xm (.slice ta m tc) _ rfl rfl) ?_;go_frame;refine Rg.in_run (some 61) rfl rfl (fun _ hh=>by cases hh) (Rg.xm (.slice sa x.length sc) _ rfl rfl) ?_;go_frame;have HLT6:=ι (fun z e=>(RP.out.lt z e).2);have HSZ6:=ι K5.out.size;refine Rg.in_ask (some 62) rfl rfl (fun _ hh=>by cases hh) _ _ (exec_fn1 123 _ _ rfl rfl (Vzcl3 _ _)) ?_;refine (Clone_any _ x wr (NS.out.below K5.out) (by rw [HXL.out]; exact hN1) (by rw [HXL.out]; omega)).mono ?_;rintro e1 w141 ⟨cv,rfl,hrow,hb⟩;obtain ⟨ca,cc,rfl⟩:=Rg.row_shape hrow;have HROW:=ι hrow;refine ⟨_,rfl,?_⟩;go_frame;replace RP:=ι (RP.out.below hb);replace K5:=ι (Rg.acc K5.out hb);clear hb;refine Rg.in_run (some 63) rfl rfl (fun _ hh=>by cases hh) (Rg.exec_buildSlice _ _ _ rfl (.slice ca x.length cc) rfl (run_build1P w141 _ ⟨_,_,_,rfl⟩)) ?_;go_frame
      obtain ⟨a9,c9,X9,r1,r2,r3⟩:=RP.out.push K5.out.size HROW.out (by rw [HXL.out]; omega) (fun z e=>⟨by have:=(HROW.out.lt z e).1; have:=HSZ6.out; omega,fun e2=>by have:=(HROW.out.lt z e).1; have:=HLT6.out z e2; omega⟩) (by rw [List.length_take]; omega) 22;have r1:=r1;rw [List.length_take,Nat.min_eq_left (Nat.le_of_lt HML.out)] at r1 r2;refine Rg.in_run (some 64) rfl rfl (fun _ hh=>by cases hh) (Rg.exec_append _ _ _ rfl rfl rfl r1) ?_;go_frame;refine Rg.in_run (some 10) rfl rfl (fun _ hh=>by cases hh) (Rg.xa (.slice a9 (m+1) c9) _ rfl rfl) ?_;go_frame;have K6:=ι (r3 (Nat.le_refl _) K5.out);have RP2:=ι (show RowP Wb.heap.size X9 (.slice a9 (m+1) c9) (r.take (m+1)) by rw [List.take_succ_eq_append_getElem HML.out,show r[m]'HML.out=x from hx.out]; exact r2);clear r1 r2 r3
      gi_wp2
      go_roundw
      case rel=>exact ⟨m+1,by go_num,HML.out,RP2,K6⟩
      case measure=>simp [intOf]; have:=HML.out; omega
     ·obtain rfl:m=r.length:=by omega
      have hmN:¬ (r.length:Int)<(r.length:Int):=by omega
      rw [List.take_length] at RP
      gi_upto_region 14 with (fail)
      refine wpIn_region_list ?_;refine Rg.in_run (some 57) rfl rfl (fun _ hh=>by cases hh) (exec_bin (R:=.bool false) .lss _ _ _ rfl rfl rfl (b_lss _ (decide_eq_false (by omega)))) ?_;go_frame;have HV6:=ι (show (∀ z,(Value.slice ova OL.length ovc).ownBlock=some z→z<Wb.heap.size)∧(∀ z,(Value.slice rva RL.length rvc).ownBlock=some z→z<Wb.heap.size)∧w4.heap.size<Wb.heap.size from ⟨fun z e=>(CH.out.lts.1 z e).2,fun z e=>(CH.out.lts.2 z e).2,CH.out.tri.lt⟩);have CHq:=ι (CH.out.below K5.out);have K1q:=ι (show Below w4.heap.size w4 wr from K1.out.trans (K5.out.mono HBW.out));have HSQ:=ι K5.out.size;have FRq:=ι (RP.out.frows (by omega) (G:=GS2 w4.heap.size wr w4.heap.size (Value.slice ova OL.length ovc) (Value.slice rva RL.length rvc)) (fun z g1 g2=>⟨by have:=HBW.out; omega,g2,fun e=>by have:=HV6.out.1 z e; omega,fun e=>by have:=HV6.out.2.1 z e; omega,fun e=>by have:=HV6.out.2.2; omega⟩))
      have KPq:=ι (Rg.Kp.of_below (M:=M) K5.out);have COA:=CO;have IOA:=IO;clear CH K1 RP K5
      gi_upto_region 18 with (fail)
      have hV1:Below wr.heap.size wr wr.drew:=(Below.refl _ _).drew;replace CHq:=ι (CHq.out.below hV1);replace K1q:=ι (K1q.out.trans (hV1.mono (by have:=HBW.out; have:=HSQ.out; omega)));replace FRq:=ι (frows_below FRq.out hV1);replace KPq:=ι (Rg.Kp.trans (M:=M) KPq.out (Rg.Kp.of_below (M:=M) hV1) (fun _ _ e=>e));clear hV1;have hV0:Below wr.heap.size wr wr.drew:=(Below.refl _ _).drew;generalize Fup (fun _:Nat=>True) wr wr.drew=F3 at *;clear hV0;refine Rg.Any.beginIn (hnd:=by kernel_rfl) (S:=Rg.Both 16 (StI w4.heap.size (.int .i64 ((N:Nat):Int)) (Value.slice ova OL.length ovc) (Value.slice rva RL.length rvc) M w4 Wb) (fun _=>True)) mix ?_;generalize wr.drew=w171 at *;have hS:∀ (l:Array Bool) W,(StI w4.heap.size (.int .i64 ((N:Nat):Int)) (Value.slice ova OL.length ovc) (Value.slice rva RL.length rvc) M w4 Wb) W→Rg.Both 16 (StI w4.heap.size (.int .i64 ((N:Nat):Int)) (Value.slice ova OL.length ovc) (Value.slice rva RL.length rvc) M w4 Wb) (fun _=>True) l W:=fun l W h=>⟨.inr h,trivial⟩
      have hS2:∀ (l:Array Bool) W,l.getD 16 false=true→Rg.Both 16 (StI w4.heap.size (.int .i64 ((N:Nat):Int)) (Value.slice ova OL.length ovc) (Value.slice rva RL.length rvc) M w4 Wb) (fun _=>True) l W:=fun l W h=>⟨.inl h,trivial⟩;have hI:(StI w4.heap.size (.int .i64 ((N:Nat):Int)) (Value.slice ova OL.length ovc) (Value.slice rva RL.length rvc) M w4 Wb) w171:=⟨CHq.out.tri,K1q.out,KPq.out⟩;have HVQ:=ι (show (∀ z,(Value.slice ova OL.length ovc).ownBlock=some z→z<w171.heap.size)∧(∀ z,(Value.slice rva RL.length rvc).ownBlock=some z→z<w171.heap.size)∧w4.heap.size<w171.heap.size from ⟨fun z e=>(CHq.out.lts.1 z e).2,fun z e=>(CHq.out.lts.2 z e).2,CHq.out.tri.lt⟩);refine Rg.tg 0 16 (.pointer (some ⟨w4.heap.size,1,none⟩)) 66 rfl rfl (.inl ⟨rfl,fun w _=>exec_field _ rfl rfl (chF1 _ _)⟩) (hS _ _ hI) ?_;go_frame;refine Rg.Any.takeT (i:=1) (t:=16) (v:=.slice ova OL.length ovc) (some 67) rfl rfl (by kernel_rfl) (by kernel_rfl) (by kernel_rfl) (fun _ _ _ h=>h) rfl (by kernel_rfl) rfl (Rg.yields_cell _ _ rfl rfl ⟨w4.heap.size,1,none⟩ rfl (fun W hW=>Rg.run_loadSl _ _ Tryz.underlying27 hW.1.c1)) (hS _ _ hI) ?_;go_frame
      refine Rg.tg 2 16 (.pointer (some ⟨w.heap.size,1,none⟩)) 68 rfl rfl (.inl ⟨rfl,fun w _=>exec_field _ rfl rfl (chF1 _ _)⟩) (hS _ _ hI) ?_;go_frame;refine Rg.Any.takeT (i:=3) (t:=16) (v:=.slice (some ⟨ob,oo,none⟩) OO.length oc) (some 69) rfl rfl (by kernel_rfl) (by kernel_rfl) (by kernel_rfl) (fun _ _ _ h=>h) rfl (by kernel_rfl) rfl (Rg.yields_cell _ _ rfl rfl ⟨w.heap.size,1,none⟩ rfl (fun W hW=>Rg.run_loadSl _ _ Tryz.underlying27 ((Below.cell (p:=⟨w.heap.size,1,none⟩) hW.2.1 A1.out.lt).trans A1.out.cell))) (hS _ _ hI) ?_;go_frame;refine Rg.tm 4 16 (.int .i64 ((X:Nat):Int)) 70 (hS _ _ hI) ?_;go_frame;refine Rg.tg 5 16 (.pointer (some ⟨ob,oo+X,none⟩)) 71 rfl rfl (Rg.yields_index slIntss _ _ rfl rfl ob (oo) (OO.length) oc (X) rfl rfl HXO.out) (hS _ _ hI) ?_;go_frame;refine Rg.Any.takeT (i:=6) (t:=16) (v:=.slice qa ol.length qc) (some 72) rfl rfl (by kernel_rfl) (by kernel_rfl) (by kernel_rfl) (fun _ _ _ h=>h) rfl (by kernel_rfl) rfl (Rg.yields_cell _ _ rfl rfl ⟨ob,oo+X,none⟩ rfl (fun W hW=>Rg.run_loadSl _ _ Tryz.underlying36 ((Below.cell (p:=⟨ob,oo+X,none⟩) hW.2.1 COA.out.lt).trans COA.out.cell))) (hS _ _ hI) ?_;go_frame
      refine Rg.tg 10 16 (.pointer (some ⟨w4.heap.size,2,none⟩)) 76 rfl rfl (.inl ⟨rfl,fun w _=>exec_field _ rfl rfl (chF2 _ _)⟩) (hS _ _ hI) ?_;go_frame;refine Rg.Any.takeT (i:=11) (t:=16) (v:=.slice rva RL.length rvc) (some 77) rfl rfl (by kernel_rfl) (by kernel_rfl) (by kernel_rfl) (fun _ _ _ h=>h) rfl (by kernel_rfl) rfl (Rg.yields_cell _ _ rfl rfl ⟨w4.heap.size,2,none⟩ rfl (fun W hW=>Rg.run_loadSl _ _ Tryz.underlying52 hW.1.c2)) (hS _ _ hI) ?_;go_frame;refine Rg.tm 12 16 (.slice ta r.length tc) 78 (hS _ _ hI) ?_;go_frame
      refine Rg.Any.c3f1q (e:=7) (i:=8) (k:=9) (j:=13) (de:=73) (di:=74) (dk:=75) (dj:=79) (q:=15) (dq:=81) (vq:=.pointer (some ⟨w4.heap.size,1,none⟩)) (I:=fun W=>(StI w4.heap.size (.int .i64 ((N:Nat):Int)) (Value.slice ova OL.length ovc) (Value.slice rva RL.length rvc) M w4 Wb) W∧w171.heap.size≤W.heap.size) (R0:=fun W=>ChR w4.heap.size W w4.heap.size (.int .i64 ((N:Nat):Int)) (Value.slice ova OL.length ovc) (Value.slice rva RL.length rvc) (Value.slice ova OL.length ovc) (Value.slice rva RL.length rvc) OL RL∧Rg.FRows (GS2 w4.heap.size W w4.heap.size (Value.slice ova OL.length ovc) (Value.slice rva RL.length rvc)) W (.slice ta r.length tc) r) (Re:=fun u W=>Rg.FI (fun z=>w171.heap.size≤z∧z<W.heap.size) W u ol∧∃ a n c,u=.slice a n c) (Ri:=fun u x W=>(fun u W=>Rg.FI (fun z=>w171.heap.size≤z∧z<W.heap.size) W u ol∧∃ a n c,u=.slice a n c) u W∧Rg.BlkF w171.heap.size [u] x W) (Rk:=fun x W=>ChR w4.heap.size W w4.heap.size (.int .i64 ((N:Nat):Int)) (Value.slice ova OL.length ovc) (Value.slice rva RL.length rvc) x (Value.slice rva RL.length rvc) (OL++[ol]) RL∧Rg.FRows (GS2 w4.heap.size W w4.heap.size x (Value.slice rva RL.length rvc)) W (.slice ta r.length tc) r∧∃ a c,x=.slice a (OL.length+1) c) (Rj:=fun v W=>Rg.BlkF w171.heap.size [.slice ta r.length tc] v W) (fun l W h=>hS l W h.1)
       (by decide) (by decide) (by decide) (by decide) (by decide) (by decide) (by decide) (by decide) (by kernel_rfl) (by kernel_rfl) (by kernel_rfl) (by kernel_rfl) (by kernel_rfl) (by kernel_rfl) (by kernel_rfl) ?_ ?_
       (fun _ _ hb h=>⟨h.1.below hb,frows_below h.2 hb⟩) (fun _ _ _ hb h=>⟨newI_below h.1 hb,h.2⟩) (fun _ _ _ _ hb h=>⟨⟨newI_below h.1.1 hb,h.1.2⟩,h.2.below hb⟩) (fun _ _ _ hb h=>⟨h.1.below hb,frows_below h.2.1 hb,h.2.2⟩) (fun _ _ _ hb h=>h.below hb) ?_ ?_ ?_ ?_ ⟨hI,Nat.le_refl _⟩ (⟨CHq.out,FRq.out⟩) ?_
      ·intro u x y W m hs h
       exact Rg.Any.takeG (i:=15) (t:=16) (v:=.pointer (some ⟨w4.heap.size,1,none⟩)) (some 81) rfl rfl (by kernel_rfl) (by kernel_rfl) (by kernel_rfl) (fun _ _ _ h=>h) rfl (.inl ⟨rfl,fun w _=>exec_field _ rfl rfl (chF1 _ _)⟩) hs h
      ·intro u x v y W m hs h
       exact Rg.Any.takeG (i:=15) (t:=16) (v:=.pointer (some ⟨w4.heap.size,1,none⟩)) (some 81) rfl rfl (by kernel_rfl) (by kernel_rfl) (by kernel_rfl) (fun _ _ _ h=>h) rfl (.inl ⟨rfl,fun w _=>exec_field _ rfl rfl (chF1 _ _)⟩) hs h
      ·intro b hb W hW
       refine Rg.doesCall rfl rfl (by rcases hb with rfl | ⟨v,rfl⟩ <;> rfl) _ _ (exec_fn1 124 _ _ rfl (by rcases hb with rfl | ⟨v,rfl⟩ <;> rfl) (Zhcl4 _ _)) ?_
       refine (CloneI_any _ ol W (Rg.Ints.below IOA.out hW.1.2.1) (by have:=HLE.out; omega) (by have:=HLE.out; omega)).mono ?_;rintro e2 W2 ⟨v2,rfl,hrow,hb2⟩;obtain ⟨va2,vc2,rfl⟩:=Rg.row_shape hrow;exact ⟨_,rfl,⟨hW.1.st hb2,Nat.le_trans hW.2 hb2.size⟩,⟨OwI.fi ⟨hrow⟩ (by have:=HLE.out; omega) (fun z g1 g2=>⟨Nat.le_trans hW.2 g1,g2⟩),_,_,_,rfl⟩,hb2⟩
      ·intro u b hb W hW hu
       obtain ⟨hu1,ua2,un2,uc2,rfl⟩:=hu;have hbA:Below W.heap.size W (W.alloc (.cells #[.slice ua2 un2 uc2] 36)):=(Below.refl _ _).alloc (Nat.le_refl _) _
       exact Rg.doesRun rfl rfl (by rcases hb with rfl | ⟨v,rfl⟩ <;> rfl) (Rg.exec_buildSlice _ _ _ rfl (.slice ua2 un2 uc2) (by rcases hb with rfl | ⟨v,rfl⟩ <;> rfl) (run_build1L W _ ⟨_,_,_,rfl⟩)) ⟨⟨hW.1.st hbA,by simp; have:=hW.2; omega⟩,⟨⟨newI_below hu1 hbA,_,_,_,rfl⟩,Rg.BlkF.new W [.slice ua2 un2 uc2] 36 hW.2⟩,hbA⟩
      ·intro u x b hb W hW h0 hx
       obtain ⟨⟨hu1,ua2,un2,uc2,rfl⟩,pu,rfl,hp0,hp1,hp2⟩:=hx;have hfi:Rg.FI (GS2 w4.heap.size W w4.heap.size (Value.slice ova OL.length ovc) (Value.slice rva RL.length rvc)) W (.slice ua2 un2 uc2) ol:=Rg.FI.mono hu1 (fun z g=>⟨by have:=HVQ.out.2.2; omega,g.2,fun e=>by have:=HVQ.out.1 z e; omega,fun e=>by have:=HVQ.out.2.1 z e; omega,fun e=>by have:=HVQ.out.2.2; omega⟩);obtain ⟨a2,c2,X,r1,r2,r3,r4⟩:=h0.1.pushO hW.1.2.1.size hfi rfl HOLN.out (hp2 0 (by simp)) 27;have hkX:=Rg.Kp.of_grown r3 (M:=fun z=>(Value.slice ova OL.length ovc).ownBlock=some z) (fun _ e=>e)
       exact Rg.doesRun rfl rfl (by rcases hb with rfl | ⟨v,rfl⟩ <;> rfl) (Rg.exec_append _ _ _ rfl (by rcases hb with rfl | ⟨v,rfl⟩ <;> rfl) (by rcases hb with rfl | ⟨v,rfl⟩ <;> rfl) r1) ⟨⟨(show StI _ _ _ _ _ _ _ _ from ⟨r2.tri,hW.1.2.1.grown r3 hW.1.2.1.size (fun j e=>(h0.1.lts.1 j e).1),Rg.Kp.trans (M:=M) hW.1.2.2 (Rg.Kp.of_grown r3 (M:=M) fun z e=>HMO.out.1 z e) (fun _ _ e=>e)⟩),Nat.le_trans hW.2 r3.size⟩,⟨r2,FRows.mono (FRows.kp h0.2 hkX (fun z g e=>g.2.2.1 e)) r4,_,_,rfl⟩,fun v hv=>hv.grown r3 (fun j e=>HVQ.out.1 j e)⟩
      ·intro b hb W hW
       have hbA:Below W.heap.size W (W.alloc (.cells #[.slice ta r.length tc] 22)):=(Below.refl _ _).alloc (Nat.le_refl _) _
       exact Rg.doesRun rfl rfl (by rcases hb with rfl | ⟨u,rfl⟩ | ⟨u,x,rfl⟩ | ⟨u,x,y,rfl⟩ <;> rfl) (Rg.exec_buildSlice _ _ _ rfl (.slice ta r.length tc) (by rcases hb with rfl | ⟨u,rfl⟩ | ⟨u,x,rfl⟩ | ⟨u,x,y,rfl⟩ <;> rfl) (run_build1PP W _ ⟨_,_,_,rfl⟩)) ⟨⟨hW.1.st hbA,by simp; have:=hW.2; omega⟩,Rg.BlkF.new W [.slice ta r.length tc] 22 hW.2,hbA⟩
      rintro w172 fu fx fy fv hb hk hj;have hI11_f:=hb.1;have hVsz:=hb.2;clear hb hI;go_frame;have FK:=ι hk;have FJ:=ι hj;obtain ⟨pj,hje,hj0,hj1,hj2⟩:=FJ.out;subst hje;obtain ⟨a3,c3,hfx⟩:=FK.out.2.2;subst hfx;obtain ⟨a4,c4,X4,q1,r2,q3⟩:=FK.out.1.pushR hI11_f.2.1.size FK.out.2.1 rfl HRLN.out (hj2 0 (by simp)) 52;have hI12_m:=(show StI _ _ _ _ _ _ _ _ from ⟨r2.tri,hI11_f.2.1.grown q3 hI11_f.2.1.size (fun j e=>(FK.out.1.lts.2 j e).1),Rg.Kp.trans (M:=M) hI11_f.2.2 (Rg.Kp.of_grown q3 (M:=M) fun z e=>HMO.out.2.1 z e) (fun _ _ e=>e)⟩);refine Rg.Any.one (i:=14) (by kernel_rfl) (Rg.Any.run (some 80) rfl rfl rfl (Rg.exec_append _ _ _ rfl rfl rfl q1) (hS _ _ hI12_m) ?_);go_frame;have hKX:=hI12_m;refine Rg.Any.one (i:=16) (by kernel_rfl) (Rg.Any.runSkip none rfl rfl rfl (Rg.exec_store _ _ _ rfl _ rfl _ rfl (Rg.run_storeSl _ infoIntss r2.tri.c1 r2.tri.f1)) (hS2 _ _ rfl) ?_)
      go_frame;refine Rg.tg 17 16 (.pointer (some ⟨w4.heap.size,2,none⟩)) 82 rfl rfl (.inl ⟨rfl,fun w _=>exec_field _ rfl rfl (chF2 _ _)⟩) (hS2 _ _ rfl) ?_;go_frame;refine Rg.Any.one (i:=18) (by kernel_rfl) (Rg.Any.runSkip none rfl rfl rfl (Rg.exec_store _ _ _ rfl _ rfl _ rfl (Rg.run_storeSl _ infoPermss (r2.tri.set1 _).c2 (r2.tri.set1 _).f2)) (hS2 _ _ rfl) ?_);go_frame;refine Rg.Any.done (by kernel_rfl) ?_ _;refine Rg.onlyN_i ?_;clear hS2;clear hS hI12_m;have hst:=r2.store (.slice a3 (OL.length+1) c3) (.slice a4 (RL.length+1) c4);have hkk:=(hKX.2.1.setCell (p:=⟨w4.heap.size,1,none⟩) (Nat.le_refl _) (.slice a3 (OL.length+1) c3)).setCell (p:=⟨w4.heap.size,2,none⟩) (Nat.le_refl _) (.slice a4 (RL.length+1) c4);have hkm:=Rg.Kp.trans (M:=M) (Rg.Kp.trans (M:=M) hKX.2.2 (Rg.Kp.of_setCell (M:=M) (a:=⟨w4.heap.size,1,none⟩) (v:=.slice a3 (OL.length+1) c3) HMO.out.2.2) (fun _ _ e=>e)) (Rg.Kp.of_setCell (M:=M) (a:=⟨w4.heap.size,2,none⟩) (v:=.slice a4 (RL.length+1) c4) HMO.out.2.2) (fun _ _ e=>e)
      generalize (X4.setCell ⟨w4.heap.size,1,none⟩ (.slice a3 (OL.length+1) c3)).setCell ⟨w4.heap.size,2,none⟩ (.slice a4 (RL.length+1) c4)=w199 at *;have CH2:=ι (show ChR w4.heap.size w199 w4.heap.size (.int .i64 ((N:Nat):Int)) (.slice a3 (OL.length+1) c3) (.slice a4 (RL.length+1) c4) (.slice a3 (OL.length+1) c3) (.slice a4 (RL.length+1) c4) ((pre++[(⟨X,HXR.out⟩:Fin RR.length)]).map fun z=>fO k OO z.1) ((pre++[(⟨X,HXR.out⟩:Fin RR.length)]).map fun z=>fR ((N:Nat):Int) k RR z.1) by rw [List.map_append,List.map_append,hOL.out,hRL.out]; simp only [List.map_cons,List.map_nil]; rw [show fO k OO X=ol from HF1.out,show fR ((N:Nat):Int) k RR X=r from HF2.out]; exact hst);have K2:=ι hkk;have KP2:=ι (keepsK (B:=B) hkm HMC.out);have KB2:=ι (show Below w.heap.size Wb w199 from kp_low hkm (by have:=HBW.out; have:=HSZ.out; omega) (fun z hz=>by have:=HML.out z hz; have:=HSZ.out; omega))
      clear hst hkk hkm
      gi_wp2
      exact ⟨KP2.out,KB2.out,⟨_,_,CH2.out⟩,K2.out⟩
  case done =>
   rintro D Wd hD ⟨⟨ov,rv,hch⟩,hbl⟩ hd;rw [fin_map (fun z=>fO k OO z),fin_map (fun z=>fR ((N:Nat):Int) k RR z)] at hch;have HD:=ι (show w.heap.size≤D by have:=HS0.out; omega);clear FB HRV CH K1 KW;have CHD:=ι hch;have KD:=ι (show Below w.heap.size w Wd from K.out.trans (hbl.mono K.out.size));have FTD:=ι (FT.out.below hbl);have DF:=ι hd;have HLS:=ι (show ((List.range RR.length).map fun z=>fO k OO z)=stO k OO by unfold stO; rw [HLO.out,HLR.out]; rfl);have HLT:=ι (show ((List.range RR.length).map fun z=>fR ((N:Nat):Int) k RR z)=stR' ((N:Nat):Int) k RR from rfl);obtain ⟨ova,ovc,rfl⟩:=hch.shapeO;obtain ⟨rva,rvc,rfl⟩:=hch.shapeR;have HLM:=ι (show RR.length≤64 by have:=HLR.out; omega);simp only [List.length_map,List.length_range] at CHD;clear hch hbl hd;go_upto_region 19 with (fail);refine Rg.wl ?_;refine Rg.lr 83 (Rg.exec_load _ _ rfl ⟨w4.heap.size,0,none⟩ rfl (run_loadC CHD.out.tri)) ?_;go_frame
   refine Rg.list_skip none rfl rfl (Rg.exec_store _ _ _ rfl _ rfl _ rfl (run_storeC _ _ _ _ _ _ _ FTD.out)) ?_;go_frame;refine Rg.la 5 (.int .i64 ((0:Nat):Int)) ?_;go_frame;have htt:=FTD.out.set (.int .i64 ((N:Nat):Int)) (.slice ova RR.length ovc) (.slice rva RR.length rvc);have hkt:=Rg.Kp.trans (Rg.Kp.trans (Rg.Kp.of_setCell (M:=fun z=>z=(w.heap.size+2)) (w:=Wd) (a:=⟨(w.heap.size+2),0,none⟩) (v:=.int .i64 ((N:Nat):Int)) rfl) (Rg.Kp.of_setCell (M:=fun z=>z=(w.heap.size+2)) (a:=⟨(w.heap.size+2),1,none⟩) (v:=.slice ova RR.length ovc) rfl) (fun _ _ e=>e)) (Rg.Kp.of_setCell (M:=fun z=>z=(w.heap.size+2)) (a:=⟨(w.heap.size+2),2,none⟩) (v:=.slice rva RR.length rvc) rfl) (fun _ _ e=>e);have hch2:=CHD.out.kp hkt (fun z e=>by have:=HSZ.out; omega);have hkf:=((KD.out.setCell (p:=⟨(w.heap.size+2),0,none⟩) (by show w.heap.size≤w.heap.size+2; omega) (.int .i64 ((N:Nat):Int))).setCell (p:=⟨(w.heap.size+2),1,none⟩) (by show w.heap.size≤w.heap.size+2; omega) (.slice ova RR.length ovc)).setCell (p:=⟨(w.heap.size+2),2,none⟩) (by show w.heap.size≤w.heap.size+2; omega) (.slice rva RR.length rvc)
   have hdd:=(((RF.Dfr.setCell DF.out ⟨(w.heap.size+2),0,none⟩ (.int .i64 ((N:Nat):Int))).setCell ⟨(w.heap.size+2),1,none⟩ (.slice ova RR.length ovc)).setCell ⟨(w.heap.size+2),2,none⟩ (.slice rva RR.length rvc));generalize ((Wd.setCell ⟨(w.heap.size+2),0,none⟩ (.int .i64 ((N:Nat):Int))).setCell ⟨(w.heap.size+2),1,none⟩ (.slice ova RR.length ovc)).setCell ⟨(w.heap.size+2),2,none⟩ (.slice rva RR.length rvc)=w299 at *;have HTT:=ι htt;have KX:=ι hkf;have DX:=ι hdd;have HA:=ι (show StAns ((N:Nat):Int) OO RR k w299 (.agg #[.int .i64 ((N:Nat):Int),.slice ova RR.length ovc,.slice rva RR.length rvc]) from .inr ⟨HSC.out,_,_,rfl,by rw [← HLS.out]; exact hch2.rowsO (by rw [List.length_map,List.length_range]; have:=HLM.out; omega),by rw [← HLT.out]; exact hch2.rowsR (by rw [List.length_map,List.length_range]; have:=HLM.out; omega)⟩);clear htt hkt hch2 hkf hdd
   go_wp2;exact st_leave (ds:=[D]) KX.out HTT.out HA.out rfl (by rw [HSC.out]; rfl) (by simp) (fun D' hD'=>by simp at hD'; subst hD'; exact ⟨DX.out,HD.out⟩)
end Go.Proofs.YthehbckogieimaaGreat

namespace Go.Proofs.YthehbckogieimaaGreat
open Go.RowKit
open Go.Proofs
open Go.Proofs.Ob
open Go.Proofs.Cm (Gd)
attribute [local irreducible] Go.Calls Go.wpList
def RwAt (w:World) (g n:Nat) (f:Nat→Int):Prop:=g<w.heap.size∧(∀ i,i<n→w.cell? ⟨g,i,none⟩=some (.int .i64 (f i)))∧∀ i,w.frozen? ⟨g,i,none⟩=false
theorem RwAt.congr {w:World} {g n:Nat} {f f':Nat→Int} (h:RwAt w g n f) (e:∀ i,i<n→f i=f' i):RwAt w g n f' :=
 ⟨h.1,fun i hi=>by rw [← e i hi]; exact h.2.1 i hi,h.2.2⟩
theorem RwAt.set {w:World} {g n:Nat} {f:Nat→Int} (h:RwAt w g n f) (k:Nat) (v:Int) (hk:k<n):RwAt (w.setCell ⟨g,k,none⟩ (.int .i64 v)) g n (fun i=>if i=k then v else f i):=by
 refine ⟨by simpa using h.1,fun i hi=>?_,fun i=>by rw [World.frozen?_setCell]; exact h.2.2 i⟩;show _=some (Value.int .i64 (if i=k then v else f i))
 by_cases e:i=k
 ·subst e
  rw [if_pos rfl];exact World.cell?_setCell_same (h:=h.2.1 i hi) ..
 ·rw [if_neg e,World.cell?_setCell_other (h:=by intro h; injection h with h1 h2; omega) ..]
  exact h.2.1 i hi
theorem RwAt.kp {M:Nat→Prop} {w w':World} {g n:Nat} {f:Nat→Int} (h:RwAt w g n f) (hk:Rg.Kp M w w') (hM:¬ M g):RwAt w' g n f :=
 ⟨Nat.lt_of_lt_of_le h.1 hk.size,fun i hi=>(World.cell?_of_block (a:=⟨g,i,none⟩) (hk.block g h.1 hM)).trans (h.2.1 i hi),fun i=>(World.frozen?_of_block (a:=⟨g,i,none⟩) (hk.block g h.1 hM)).trans (h.2.2 i)⟩
theorem RwAt.below {w w':World} {g n:Nat} {f:Nat→Int} (h:RwAt w g n f) (hb:Below w.heap.size w w'):RwAt w' g n f:=h.kp (M:=fun _=>False) (Rg.Kp.of_below hb) id
theorem RwAt.np {w:World} {g n cap:Nat} {f:Nat→Int} (h:RwAt w g n f) (l:List Nat) (hl:l.length=n) (hc:n≤cap) (hm:cap≤maxLen) (hn:n≤1000) (e:∀ i (hi:i<l.length),f i=((l[i]:Nat):Int)):Rg.NP w (.slice (some ⟨g,0,none⟩) n cap) l:=by
 refine Rg.Ints.mk (by simp [Ma.ofN,hl]) h.1 (by simp [Ma.ofN]; omega) hm (by simp [Ma.ofN]; omega) fun i hi=>?_
 have hi':i<l.length:=by simpa [Ma.ofN] using hi
 rw [Nat.zero_add,h.2.1 i (by omega),e i hi'];simp [Ma.ofN]
theorem kitOne_row (n:Nat) (w:World) (h1:1≤n) (hn:n≤1000) :
  Calls Tryz.prog 101 #[.int .i64 n] w fun e w'=>∃ g cap,e=.returned (.slice (some ⟨g,0,none⟩) n cap)∧w.heap.size≤g∧n≤cap∧cap≤maxLen∧RwAt w' g n (fun i=>(i:Int))∧Below w.heap.size w w':=by
 go_enter Tryz.func101,Tryz.ntmps101
 go_wp2
 go_loopw [3,4] (fun v i wr=>∃ k:Nat,k≤n∧i=.int .i64 k∧Hid (wr.ownsRow w.heap.size 3 1 v k (ivs (Ma.oneN k)))∧Hid (Below w.heap.size w wr)) (fun _ i _=>n - (intOf i).toNat)
 case atStart=>exact ⟨0,by omega,rfl,World.ownsRow_nil _ _ _ _,Below.refl _ _⟩
 case round =>
  obtain ⟨k,hk,rfl,hs,hbel⟩:=hrel
  by_cases hlt:k<n
  ·go_wp2_with (at_builtin; refine Rg.app1 rfl _ _ 51 rfl slPerm hs.out hbel.out _ (by simp [Value.oneCell']) rfl rfl (by omega) ?_; intro v' w1 hs1 hb1 _ _ _)
   go_roundw
   case rel=>exact ⟨k+1,by omega,by go_num,by rw [show Ma.oneN (k+1)=Ma.oneN k++[k] from List.range_succ,ivs_snoc]; exact hs1,hb1⟩
   case measure=>simp [intOf]; omega
  ·obtain rfl:k=n:=by omega
   go_wp2;go_ret;have ho:=hs.out
   obtain ⟨_,⟨_,h0⟩ | ⟨g,cap,cur,rfl,hg,hc,h3,h4,h5,h6⟩⟩:=hs.out
   ·omega
   ·refine ⟨g,cap,rfl,hg,h3,h4,⟨(ho.lt g rfl).2,fun i hi=>?_,fun i=>ho.frozenAt i⟩,hbel.out⟩
    have:=ho.cellAt i (by omega);rw [this];simp [ivs,Ma.oneN,hi]

theorem RwAt.up {w w':World} {g n:Nat} {f:Nat→Int} (h:RwAt w g n f) (hb:Below w.heap.size w w'):RwAt w' g n f:=h.below hb
def GM (tk gb rb z:Nat):Prop:=z=tk∨z=gb∨z=rb
structure RowH (B:Nat) (F M:Nat→Prop) (W:World) (v:Value) (l:List (List Nat)):Prop where
 size:B≤W.heap.size
 own:∃ us,W.ownsRow B 51 1 v l.length us∧Rg.FElts F W us (l.map Ma.ofN)
 off:∀ k,v.ownBlock=some k→¬ F k∧¬ M k
theorem RowH.lt {B:Nat} {F M:Nat→Prop} {W:World} {v:Value} {l:List (List Nat)} (h:RowH B F M W v l):∀ k,v.ownBlock=some k→B≤k∧k<W.heap.size:=fun k e=>by
 obtain ⟨us,h1,h2⟩:=h.own;exact h1.lt k e
theorem RowH.shape {B:Nat} {F M:Nat→Prop} {W:World} {v:Value} {l:List (List Nat)} (h:RowH B F M W v l):∃ a c,v=.slice a l.length c:=by
 obtain ⟨us,h1,h2⟩:=h.own;exact Rg.row_shape h1
theorem RowH.nil (B:Nat) (F M:Nat→Prop) (W:World) (hB:B≤W.heap.size):RowH B F M W (.slice none 0 0) [] :=
 ⟨hB,⟨[],World.ownsRow_nil _ _ _ _,Rg.FElts.nil _ _⟩,fun k e=>by simp [Value.ownBlock] at e⟩
theorem RowH.rows {B:Nat} {F M:Nat→Prop} {W:World} {v:Value} {l:List (List Nat)} (h:RowH B F M W v l) (hl:l.length≤1000000000):Rg.Rows W v (l.map Ma.ofN):=by
 obtain ⟨us,h1,h2⟩:=h.own;exact Rg.Rows.of_row h1 hl h2.1 (fun i a b=>(h2.2 i a b).ints)
theorem RowH.kp {B:Nat} {F M N:Nat→Prop} {W W':World} {v:Value} {l:List (List Nat)} (h:RowH B F M W v l) (hk:Rg.Kp N W W') (hF:∀ k,F k→¬ N k) (hN:∀ k,v.ownBlock=some k→¬ N k):RowH B F M W' v l:=by
 obtain ⟨us,h1,h2⟩:=h.own;exact ⟨Nat.le_trans h.size hk.size,⟨us,rowKp h1 hk (fun k hn e=>hN k e hn),h2.kp hk hF⟩,h.off⟩
theorem RowH.upk {B:Nat} {F M N:Nat→Prop} {W W':World} {v:Value} {l:List (List Nat)} (h:RowH B F M W v l) (hk:Rg.Kp N W W') (hF:∀ k,F k→¬ N k) (hN:∀ k,N k→M k):RowH B (Fup F W W') M W' v l:=by
 obtain ⟨us,h1,h2⟩:=h.own;refine ⟨Nat.le_trans h.size hk.size,⟨us,rowKp h1 hk (fun k hn e=>(h.off k e).2 (hN k hn)),(h2.kp hk hF).mono fun k=>.inl⟩,fun k e=>⟨fun g=>?_,(h.off k e).2⟩⟩;have:=(h.lt k e).2
 rcases g with g | g
 ·exact (h.off k e).1 g
 ·omega
theorem RowH.push {B:Nat} {F M:Nat→Prop} {W:World} {v:Value} {l:List (List Nat)} (h:RowH B F M W v l) {u:Value} {x:List Nat} (hu:FP F W u x) (hs:∃ a m c,u=.slice a m c) (hF:∀ k,F k→k<W.heap.size) (hM:∀ k,M k→k<W.heap.size) (hn:l.length<1000000) (ty:TypeId) :
  ∃ a c X,(Builtin.append_ #[22,22] ty #[v,.slice (some ⟨W.heap.size,0,none⟩) 1 1]).run Tryz.prog (W.alloc (.cells #[u] 51))=.ok (.slice a (l.length+1) c) X∧RowH B F M X (.slice a (l.length+1) c) (l++[x])∧Rg.Kp (fun k=>v.ownBlock=some k) W X:=by
 obtain ⟨us,h1,h2⟩:=h.own;obtain ⟨a0,m0,c0,rfl⟩:=hs;have hb:Below W.heap.size W (W.alloc (.cells #[.slice a0 m0 c0] 51)):=(Below.refl _ _).alloc (Nat.le_refl _) _;obtain ⟨v',X,r1,r2,r3,r4,a,c,rfl⟩:=app_run (P:=Tryz.prog) slPerms ty (Rg.row_below h1 hb) (Nat.le_trans h.size hb.size) W.heap.size 1 (u:=.slice a0 m0 c0) (by rw [Rg.cellNew]; rfl) rfl hn;have hk:Rg.Kp (fun k=>v.ownBlock=some k) W X:=Rg.Kp.trans (M:=fun k=>v.ownBlock=some k) ((Rg.Kp.of_below hb).weak fun _=>False.elim) (Rg.Kp.of_grown r3 fun _ e=>e) (fun _ _ e=>e);have hg:∀ k,F k→¬ v.ownBlock=some k:=fun k g e=>(h.off k e).1 g;refine ⟨a,c,X,r1,⟨Nat.le_trans h.size hk.size,⟨us++[.slice a0 m0 c0],by rw [List.length_append]; exact r2,by rw [List.map_append]; exact FElts.snoc (h2.kp hk hg) (Rg.FI.kp hu hk hg)⟩,fun k e=>?_⟩,hk⟩
 rcases r4 with r4 | r4
 ·exact h.off k (by rw [← r4]; exact e)
 ·rw [r4] at e
  injection e with e
  have e2:(W.alloc (.cells #[.slice a0 m0 c0] 51)).heap.size=W.heap.size+1:=by simp
  exact ⟨fun g=>by have:=hF _ g; omega,fun g=>by have:=hM _ g; omega⟩
end Go.Proofs.YthehbckogieimaaGreat

namespace Go.Proofs.YthehbckogieimaaGreat
open Go.RowKit
open Go.Proofs
open Go.Proofs.Ob
open Go.Proofs.Cm (Gd Gr)
attribute [local irreducible] Go.Calls Go.wpList
theorem RowH.at {B:Nat} {F M:Nat→Prop} {W:World} {v:Value} {l:List (List Nat)} (h:RowH B F M W v l) {i:Nat} (hi:i<l.length):∃ b c u,v=.slice (some ⟨b,0,none⟩) l.length c∧l.length≤c∧b<W.heap.size∧W.cell? ⟨b,i,none⟩=some u∧FP F W u l[i]:=by
 obtain ⟨us,h1,h2⟩:=h.own;obtain ⟨-,a,c,rfl,h3,h4,h5⟩:=Rg.own_elts h1 h2;rw [List.length_map] at h3;obtain ⟨g,rfl,hg,hx⟩:=h5 (by rw [List.length_map]; omega);obtain ⟨u,hu1,hu2⟩:=hx i (by simpa using hi);exact ⟨g,c,u,congrArg (fun n=>Value.slice _ n c) (List.length_map ..),h3,hg,hu1,by rw [List.getElem_map] at hu2; exact hu2⟩
theorem RowH.up0 {B:Nat} {F:Nat→Prop} {W W':World} {v:Value} {l:List (List Nat)} (h:RowH B F (fun _=>False) W v l) (hb:Below W.heap.size W W'):RowH B (Fup F W W') (fun _=>False) W' v l :=
 h.upk (N:=fun _=>False) (Rg.Kp.of_below hb) (fun _ _=>id) (fun _=>id)
theorem FP.nil0 (F:Nat→Prop) (w:World):FP F w (.slice none 0 0) []:=⟨none,0,rfl,Nat.le_refl _,Nat.zero_le _,Nat.zero_le _,fun h=>absurd h (Nat.lt_irrefl 0)⟩

theorem RowH.one {B:Nat} {F M:Nat→Prop} {W:World} {u:Value} {x:List Nat} (hB:B≤W.heap.size) (hu:FP F W u x) (hs:∃ a m c,u=.slice a m c) (hF:∀ k,F k→k<W.heap.size) (hM:∀ k,M k→k<W.heap.size) :
  RowH B F M (W.alloc (.cells #[u] 51)) (.slice (some ⟨W.heap.size,0,none⟩) 1 1) [x]:=by
 have hb:Below W.heap.size W (W.alloc (.cells #[u] 51)):=(Below.refl _ _).alloc (Nat.le_refl _) _;refine ⟨Nat.le_trans hB hb.size,⟨[u],⟨rfl,.inr ⟨W.heap.size,1,#[u],rfl,hB,by show (W.heap.push _)[W.heap.size]?=_; simp,Nat.le_refl _,by decide,rfl,rfl⟩⟩,?_⟩,fun k e=>?_⟩
 ·exact Rg.FElts.one (Rg.FI.kp hu (Rg.Kp.of_below hb) (fun _ _=>id))
 ·simp only [Value.ownBlock,Option.some.injEq] at e
  subst e;exact ⟨fun h=>Nat.lt_irrefl _ (hF _ h),fun h=>Nat.lt_irrefl _ (hM _ h)⟩

theorem exec_conv {o:Oper} {a:Act} {w:World} {u v:Value} (s t:TypeId) (x:Operand) (ho:o.op=.convert s t x) (hx:a.eval x=u) (h:(convert s t u).run Tryz.prog w=.ok v w):(execOp a.eval o).run Tryz.prog w=.ok (.value v) w:=by
 unfold execOp;simp only [ho,hx,Sem.run_bind,Sem.run_pure,h,Result.andThen_ok]
theorem conv_rune {w:World} {n:Int} (h:0≤n∧n<1000):(convert 3 21 (.int .i64 n)).run Tryz.prog w=.ok (.int .i32 n) w:=by
 have e:IntKind.i32.wrap n=n:=by
  unfold IntKind.wrap;simp [IntKind.bits,IntKind.signed];omega
 simp [convert,run_underlying Tryz.underlying3,run_underlying Tryz.underlying21,Conv.intToInt,e]
theorem conv_text {w:World} {n:Nat} (h:n<10):(convert 21 9 (.int .i32 ((48+n:Nat):Int))).run Tryz.prog w=.ok (.string (Nu.txt [n])) w:=by
 have hh:=run_convert_int_string (P:=Tryz.prog) w 21 9 .i32 ((48+n:Nat):Int) (by rw [Tryz.underlying21]; rfl) Tryz.underlying9;rw [hh]
 have hv:Utf8.valid ((48+n:Nat):Int)=true:=by
  simp only [Utf8.valid];simp;omega
 have e:Utf8.encode ((48+n:Nat):Int)=Nu.txt [n]:=by
  unfold Utf8.encode Nu.txt
  have h1:(((48+n:Nat):Int)).toNat=48+n:=by omega
  simp only [hv,if_true,h1];rw [if_pos (by omega)];rfl
 rw [e]
theorem exec_add {o:Oper} {a:Act} {w:World} {s t:ByteArray} (y:TypeId) (p q:Operand) (ho:o.op=.binOp .add y p q y) (hp:a.eval p=.string s) (hq:a.eval q=.string t) (hl:s.size+t.size≤9223372036854775807):(execOp a.eval o).run Tryz.prog w=.ok (.value (.string (s++t))) w:=by
 have h1:(binOp .add y (.string s) (.string t)).run Tryz.prog w=.ok (.string (s++t)) w:=by
  have:=run_string_add_sum (P:=Tryz.prog) w s t hl;simp [binOp,this]
 have hg:(eqGuard .add y p q (.string s) (.string t)).run Tryz.prog w=.ok () w:=by
  simp [eqGuard]
 unfold execOp;simp only [ho,hp,hq,Sem.run_bind,Sem.run_pure,hg,h1,Result.andThen_ok]
theorem txt_app (a b:List Nat):Nu.txt (a++b)=Nu.txt a++Nu.txt b:=by
 unfold Nu.txt
 apply ByteArray.ext
 simp [ByteArray.data_append]
end Go.Proofs.YthehbckogieimaaGreat

namespace Go.Proofs.YthehbckogieimaaGreat
open Go.RowKit
open Go.Proofs
open Go.Proofs.Cm (Gd Gr ap)
attribute [local irreducible] Go.Calls Go.wpList
theorem kp_below {B:Nat} {M:Nat→Prop} {W0 W X:World} (hb:Below B W0 W) (hB:B≤W.heap.size) (hk:Rg.Kp M W X) (hM:∀ k,M k→B≤k):Below B W0 X :=
 hb.trans ⟨hk.os,hk.tape,hk.output,hk.size,fun k h=>hk.block k (Nat.lt_of_lt_of_le h hB) fun e=>Nat.lt_irrefl _ (Nat.lt_of_lt_of_le h (hM k e))⟩
theorem FP.own {F:Nat→Prop} {W W':World} {v:Value} {x:List Nat} {m:Nat} (h:W'.ownsRow W.heap.size 3 1 v m ((Ma.ofN x).map (Value.int .i64))) (hm:m≤1000000000):FP (Fup F W W') W' v x :=
 Rg.FVals.of (Rg.Vals.of_row h hm) (fun k e=>.inr (h.lt k e))
theorem cell_kp {M:Nat→Prop} {W X:World} {b o:Nat} {u:Value} (h:W.cell? ⟨b,o,none⟩=some u) (hk:Rg.Kp M W X) (hM:¬ M b):X.cell? ⟨b,o,none⟩=some u:=(World.cell?_of_block (a:=⟨b,o,none⟩) (hk.block b (lt_of_cell h) hM)).trans h
end Go.Proofs.YthehbckogieimaaGreat

namespace Go.Proofs.YthehbckogieimaaGreat
open Go.RowKit
open Go.Proofs
open Go.Sort
attribute [local irreducible] Go.Calls
def El (F:Nat→Prop) (w:World):={ p:Value × List Int // Rg.FI F w p.1 p.2 }
theorem fi_nil (F:Nat→Prop) (w:World):Rg.FI F w (.slice none 0 0) []:=⟨none,0,rfl,Nat.le_refl _,Nat.zero_le _,Nat.zero_le _,fun h=>absurd h (Nat.lt_irrefl 0)⟩
instance (F:Nat→Prop) (w:World):Inhabited (El F w):=⟨⟨(.slice none 0 0,[]),fi_nil F w⟩⟩
end Go.Proofs.YthehbckogieimaaGreat

namespace Go.Proofs.YthehbckogieimaaGreat
open Go.RowKit
open Go.Proofs
open Go.Proofs.Ob
open Go.Proofs.Cm (Gd)
attribute [local irreducible] Go.Calls Go.wpList
structure IB (w:World) (v:Value) (l:List Int):Prop where
 i:Rg.IntsB maxLen w v l
theorem IB.below {w w':World} {v:Value} {l:List Int} (h:IB w v l) (hb:Below w.heap.size w w'):IB w' v l:=⟨Rg.IntsB.below h.i hb⟩
theorem ChAns.zero {w:World} {d:Int} {ll:List (List Int)} {cv:Value} {c:Int} (h:ChAns w d ll cv c) (hc:c≠0):cv=zeroC:=by
 rcases h with ⟨_,h⟩ | ⟨h,_⟩
 ·exact h
 ·exact absurd h hc
theorem gck_good {D:Nat} (h1:1≤D) (h2:D≤64):∀ {gs:List (List Nat)},(∀ s∈gs,Gd D s)→Ma.gck ((D:Nat):Int) (gs.map Ma.ofN)=0
 | [],_=>rfl
 | s :: gs,h=>by
  have g:=h s (List.mem_cons_self ..);have e1:Ma.pchk (Ma.ofN s)=0:=Ma.pchk_ok (by rw [Ma.len_ofN,g.2]; exact h1) (by rw [Ma.len_ofN,g.2]; exact h2) (Ma.okN_ofN g.1)
  have e2:((Ma.ofN s).length:Int)=((D:Nat):Int):=by rw [Ma.len_ofN,g.2]
  show (if Ma.pchk (Ma.ofN s)=0 then (if ((Ma.ofN s).length:Int)=((D:Nat):Int) then Ma.gck ((D:Nat):Int) (gs.map Ma.ofN) else 10) else Ma.pchk (Ma.ofN s))=0;rw [if_pos e1,if_pos e2];exact gck_good h1 h2 (fun x hx=>h x (List.mem_cons_of_mem _ hx))
end Go.Proofs.YthehbckogieimaaGreat

namespace Go.Proofs.YthehbckogieimaaGreat
open Go.RowKit
open Go.Proofs
open Go.Proofs.Ob
open Go.Proofs.Cm (Gd Gr IsChain)
attribute [local irreducible] Go.Calls Go.wpList
theorem exec_eqB {o:Oper} {a:Act} {w:World} (x y:Operand) (ho:o.op=.binOp .eql 4 x y 4) {s:Bool} (hx:a.eval x=.bool s) (hy:a.eval y=.bool s):(execOp a.eval o).run Tryz.prog w=.ok (.value (.bool true)) w:=by
 unfold execOp;simp only [ho,hx,hy]
 cases s <;> kernel_rfl
theorem chAns_ok {w:World} {d:Nat} {gs:List (List Nat)} {cv:Value} (h:ChAns w ((d:Nat):Int) (gs.map Ma.ofN) cv 0) :
  ∃ oa on oc ra rn rc O R,cv=.agg #[.int .i64 ((d:Nat):Int),.slice oa on oc,.slice ra rn rc]∧ChEqR w (.slice oa on oc) (.slice ra rn rc) (O.map Ma.ofN) (R.map (List.map Ma.ofN))∧IsChain d (Gr d (·∈gs)) O R:=by
 rcases h with ⟨h,_⟩ | ⟨_,n,gs',h1,h2,_,_,ov,rv,O,R,rfl,h3,h4,h5⟩
 ·exact absurd rfl h
 ·obtain rfl:d=n:=by omega
  obtain rfl:=map_ofN_inj h2;obtain ⟨oa,oc,rfl,-⟩:=h3.shape;obtain ⟨ra,rc,rfl⟩:=h4.shape;exact ⟨_,_,_,_,_,_,O,R,rfl,⟨h3,h4⟩,h5⟩

structure C4 (W:World) (b1 o1 b2 o2 b3 o3 b4 o4:Nat) (v1 v2 v3 v4:Value):Prop where
 c1:W.cell? ⟨b1,o1,none⟩=some v1
 c2:W.cell? ⟨b2,o2,none⟩=some v2
 c3:W.cell? ⟨b3,o3,none⟩=some v3
 c4:W.cell? ⟨b4,o4,none⟩=some v4
theorem cell_below {W X:World} {b o:Nat} {u:Value} (h:W.cell? ⟨b,o,none⟩=some u) (hb:Below W.heap.size W X):X.cell? ⟨b,o,none⟩=some u:=(Below.cell (p:=⟨b,o,none⟩) hb (lt_of_cell h)).trans h
theorem C4.below {W X:World} {b1 o1 b2 o2 b3 o3 b4 o4:Nat} {v1 v2 v3 v4:Value} (h:C4 W b1 o1 b2 o2 b3 o3 b4 o4 v1 v2 v3 v4) (hb:Below W.heap.size W X):C4 X b1 o1 b2 o2 b3 o3 b4 o4 v1 v2 v3 v4 :=
 ⟨cell_below h.c1 hb,cell_below h.c2 hb,cell_below h.c3 hb,cell_below h.c4 hb⟩
theorem C4.kp {M:Nat→Prop} {W X:World} {b1 o1 b2 o2 b3 o3 b4 o4:Nat} {v1 v2 v3 v4:Value} (h:C4 W b1 o1 b2 o2 b3 o3 b4 o4 v1 v2 v3 v4) (hk:Rg.Kp M W X) (n1:¬ M b1) (n2:¬ M b2) (n3:¬ M b3) (n4:¬ M b4):C4 X b1 o1 b2 o2 b3 o3 b4 o4 v1 v2 v3 v4 :=
 ⟨cell_kp h.c1 hk n1,cell_kp h.c2 hk n2,cell_kp h.c3 hk n3,cell_kp h.c4 hk n4⟩
structure NpW (w:World) (v:Value) (x:List Nat):Prop where
 np:Rg.NP w v x
theorem NpW.below {w w':World} {v:Value} {x:List Nat} (h:NpW w v x) (hb:Below w.heap.size w w'):NpW w' v x:=⟨Rg.NP.below h.np hb⟩
end Go.Proofs.YthehbckogieimaaGreat

namespace Go.Proofs.YthehbckogieimaaGreat
open Go.RowKit
open Go.Proofs
open Go.Proofs.Ob
open Go.Proofs.Cm (Gd Gr)
attribute [local irreducible] Go.Calls Go.wpList
theorem toN1 (x:List Nat):(Ma.ofN x).map Int.toNat=x:=by
 unfold Ma.ofN;rw [List.map_map];exact (List.map_congr_left (fun _ _=>rfl)).trans (List.map_id x)

structure RsO (w:World) (v:Value) (T:List (List Int)):Prop where
 r:Rg.Rows w v T
theorem RsO.below {w w':World} {v:Value} {T:List (List Int)} (h:RsO w v T) (hb:Below w.heap.size w w'):RsO w' v T:=⟨Rg.Rows.below h.r hb⟩
theorem rows_get {w:World} {a:Option Addr} {n c:Nat} {T:List (List Int)} (h:Rg.Rows w (.slice a n c) T) {i:Nat} (hi:i<T.length):∃ b o ua uc,a=some ⟨b,o,none⟩∧b<w.heap.size∧w.cell? ⟨b,o+i,none⟩=some (.slice ua T[i].length uc)∧Rg.Ints w (.slice ua T[i].length uc) T[i]:=by
 obtain ⟨a',c',e,-,-,-,hx⟩:=h.shape;simp only [Value.slice.injEq] at e;obtain ⟨rfl,rfl,rfl⟩:=e;obtain ⟨b,o,e1,e2,e3⟩:=hx (by omega);obtain ⟨u,h1,h2⟩:=e3 i hi;obtain ⟨ua,uc,e4,-⟩:=Rg.Ints.shape h2;subst e4;exact ⟨b,o,ua,uc,e1,e2,h1,h2⟩
theorem ints_get {w:World} {a:Option Addr} {n c:Nat} {l:List Int} (h:Rg.Ints w (.slice a n c) l) {k:Nat} (hk:k<l.length):∃ b o,a=some ⟨b,o,none⟩∧b<w.heap.size∧w.cell? ⟨b,o+k,none⟩=some (.int .i64 l[k]):=by
 obtain ⟨a',c',e,-,-,-,hx⟩:=h.shape;simp only [Value.slice.injEq] at e;obtain ⟨rfl,rfl,rfl⟩:=e;obtain ⟨b,o,e1,e2,e3⟩:=hx (by omega);exact ⟨b,o,e1,e2,e3 k hk⟩
variable {gs:List (List Nat)} {D:Nat} {O:List (List Int)} {cls:Nat→Nat}
end Go.Proofs.YthehbckogieimaaGreat

namespace Go.Proofs.YthehbckogieimaaGreat
open Go.Proofs
open Go.Proofs.Ob
open Go.Proofs.Cm (Gr IsChain IsG St Fx ap Lst allL)
def uq (gs:List (List Nat)) (D p q:Nat):List Nat:=wprod gs D (wd (tree gs D p) q)
end Go.Proofs.YthehbckogieimaaGreat

namespace Go.Proofs.YthehbckogieimaaGreat
open Go.RowKit
open Go.Proofs
open Go.Proofs.Ob
open Go.Shelf
open Go.Proofs.Cm (Gd)
attribute [local go_sem] Oper.semAt_some
attribute [local irreducible] Go.Calls Go.wpList Go.wpListIn
structure SgI (w:World) (tb:Nat) (n:Int) (ov rv:Value) (W:World) (F:Nat→Prop) (v:Value) (T:List (List Nat)):Prop where
 bel:Below w.heap.size w W
 low:w.heap.size+1≤tb
 a0:CL W w.heap.size 0 (.int .i64 n)
 a1:CL W w.heap.size 1 ov
 a2:CL W w.heap.size 2 rv
 c5:CW W tb v
 row:RowH (tb+1) F (fun _=>False) W v T
 Fr:∀ z,F z→tb+1≤z∧z<W.heap.size
theorem SgI.up {w:World} {tb:Nat} {n:Int} {ov rv:Value} {W W':World} {F:Nat→Prop} {v:Value} {T:List (List Nat)} (h:SgI w tb n ov rv W F v T) (hb:Below W.heap.size W W'):SgI w tb n ov rv W' (Fup F W W') v T :=
 ⟨h.bel.trans (hb.mono h.bel.size),h.low,h.a0.up hb,h.a1.up hb,h.a2.up hb,h.c5.below hb,h.row.up0 hb,fun z hz=>by
  rcases hz with hz | hz
  ·exact ⟨(h.Fr z hz).1,Nat.lt_of_lt_of_le (h.Fr z hz).2 hb.size⟩
  ·exact ⟨by have:=h.c5.lt; omega,hz.2⟩⟩
theorem RowH.nc {B:Nat} {F:Nat→Prop} {W W':World} {v:Value} {l:List (List Nat)} (h:RowH B F (fun _=>False) W v l) {row:Option Nat} (hg:W.grownBy W' row) (hr:∀ r,row=some r→∃ o:Obj,W.heap[r]?=some o∧o.isCells=false):RowH B F (fun _=>False) W' v l:=by
 obtain ⟨us,h1,h2⟩:=h.own;exact ⟨Nat.le_trans h.size hg.size,⟨us,row_nc hg hr h1,felts_nc hg hr h2⟩,h.off⟩
theorem SgI.keep {w:World} {tb:Nat} {n:Int} {ov rv:Value} {W W':World} {F:Nat→Prop} {v:Value} {T:List (List Nat)} {row:Option Nat} {B:Nat} (h:SgI w tb n ov rv W F v T) (hB:tb+1≤B) (hg:W.grownBy W' row) (hr:∀ r,row=some r→B≤r∧∃ o:Obj,W.heap[r]?=some o∧o.isCells=false):SgI w tb n ov rv W' F v T:=by
 have hk:Rg.Kp (fun k=>row=some k) W W':=Rg.Kp.of_grown hg fun _ e=>e
 have hM:∀ b,b<B→¬ row=some b:=fun b hb e=>by have:=(hr b e).1; omega
 have lo:=h.low;exact ⟨h.bel.grown hg h.bel.size (fun k e=>by have:=(hr k e).1; omega),h.low,h.a0.kp hk (hM _ (by omega)),h.a1.kp hk (hM _ (by omega)),h.a2.kp hk (hM _ (by omega)),h.c5.kp hk (hM _ (by omega)),h.row.nc hg (fun r e=>(hr r e).2),fun z hz=>⟨(h.Fr z hz).1,Nat.lt_of_lt_of_le (h.Fr z hz).2 hg.size⟩⟩
theorem SgI.store {w:World} {tb:Nat} {n:Int} {ov rv:Value} {W X:World} {F:Nat→Prop} {v v':Value} {T T':List (List Nat)} (h:SgI w tb n ov rv W F v T) (hk:Rg.Kp (fun k=>v.ownBlock=some k) W X) (hr:RowH (tb+1) F (fun _=>False) X v' T'):SgI w tb n ov rv (X.setCell ⟨tb,0,none⟩ v') F v' T':=by
 have hk2:Rg.Kp (fun z=>z=tb) X (X.setCell ⟨tb,0,none⟩ v'):=Rg.Kp.of_setCell rfl;have lo:∀ k,v.ownBlock=some k→tb+1≤k:=fun k e=>(h.row.lt k e).1;have low:=h.low
 exact ⟨(Rg.Kp.below h.bel hk (fun k e=>by have:=lo k e; omega)).setCell (p:=⟨tb,0,none⟩) (by show w.heap.size≤tb; omega) _,h.low,
  (h.a0.kp hk (fun e=>by have:=lo _ e; omega)).kp hk2 (by omega),(h.a1.kp hk (fun e=>by have:=lo _ e; omega)).kp hk2 (by omega),(h.a2.kp hk (fun e=>by have:=lo _ e; omega)).kp hk2 (by omega),
  (h.c5.kp hk (fun e=>by have:=lo _ e; omega)).set _,hr.kp hk2 (fun z hz e=>by have:=(h.Fr z hz).1; omega) (fun z hz e=>by have:=(hr.lt z hz).1; omega),
  fun z hz=>⟨(h.Fr z hz).1,by have:=(h.Fr z hz).2; have:=hk.size; have:=hk2.size; omega⟩⟩
theorem KK.rowH {B n₀:Nat} {W W1 X:World} {F M:Nat→Prop} {B2:Nat} {v:Value} {gs:List (List Nat)} (h:KK B n₀ W W1) (hk:Rg.Kp (fun k=>v.ownBlock=some k) W1 X) (hr:RowH B2 F M W1 v gs) (hn:n₀≤B2):KK B n₀ W X:=by
 obtain ⟨us,q1,q2⟩:=hr.own;exact h.row (F:=F) (B2:=B2) (gs:=gs) hk ⟨hr.size,us,q1,q2⟩ hn
theorem results_2 {fn:Func} {t u:Go.Tmp} (h:fn.results=#[.tmp t,.tmp u]) (tmps:Array Value) {w:World} {x y:Value} (hx:tmps.getD t undef=x) (hy:tmps.getD u undef=y):(results fn tmps).run Tryz.prog w=.ok (.tuple #[x,y]) w:=by
 rw [results_tmp2 h,hx,hy]
def SgPost (n:Int) (OO:List (List Int)) (RR:List (List (List Int))) (w:World) (e:Ending) (w':World):Prop:=∃ v,e=.returned (.tuple #[v,.int .i64 (chCode n OO RR)])∧Rg.Rows w' v (sgA n OO RR)∧Below w.heap.size w w'
theorem sg_leave {n:Int} {OO:List (List Int)} {RR:List (List (List Int))} {w W:World} {tmps:Array Value} {v:Value} {c:Int} {ds:List Nat} (hb:Below w.heap.size w W) (hv:Rg.Rows W v (sgA n OO RR)) (hc:chCode n OO RR=c) (p2:tmps.getD 2 undef=v) (p3:tmps.getD 3 undef=.int .i64 c) (hnd:ds.Nodup) (hD:∀ D,D∈ds→RF.Dfr D W∧w.heap.size≤D) :
  LeavesInM Fence.wide 0 Tryz.prog Tryz.f48 tmps (SgPost n OO RR w) (ds.map RF.mark) .returning W :=
 RF.leaves w.heap.size ds W hnd hD fun W' l1 l2 _=>⟨_,results_2 rfl _ p2 p3,_,by rw [hc],rows_cells l2 l1.size hv,hb.trans l1⟩
theorem run_slice1P (w:World) (b o m c:Nat) (h:m≤c):∃ ca:Addr,(Instr.sliceAt 22 (.slice (some ⟨b,o,none⟩) (m+1) (c+1)) (some (.int .i64 1)) none none).run Tryz.prog w=.ok (.slice (some ca) m c) w∧(0<m→ca=⟨b,o+1,none⟩):=by
 by_cases e:c=0
 ·refine ⟨⟨b,o,none⟩,?_,fun h=>by omega⟩
  obtain rfl:m=0:=by omega
  subst e;simp [Instr.sliceAt,Instr.slice,run_underlying Tryz.underlying22,Instr.sliceBounds,Instr.sliceBound,asIntOf,Addr.add]
 ·refine ⟨⟨b,o+1,none⟩,?_,fun _=>rfl⟩
  simp [Instr.sliceAt,Instr.slice,run_underlying Tryz.underlying22,Instr.sliceBounds,Instr.sliceBound,asIntOf,Addr.add,e];intro hh;omega
theorem exec_slice1P {o:Oper} {a:Act} {w:World} {v r:Value} (x:Operand) (ho:o.op=.slice 22 x (some (.const (.int .i64 1))) none none) (hx:a.eval x=v) (hr:(Instr.sliceAt 22 v (some (.int .i64 1)) none none).run Tryz.prog w=.ok r w) :
  (execOp a.eval o).run Tryz.prog w=.ok (.value r) w:=by
 unfold execOp;simp only [ho,hx,Sem.run_bind,Sem.run_pure,Option.map]
 first | (rw [hr]; rfl) | (erw [hr]; rfl) | simp [hr]
def tlOf (RR:List (List (List Int))) (z:Nat):List (List Int):=(RR.getD z []).drop 1
theorem finTo_tl {RR:List (List (List Int))}:(finTo RR.length RR.length).flatMap (fun z=>tlOf RR z.1)=RR.flatMap (List.drop 1):=by
 have h:(finTo RR.length RR.length).flatMap (fun z=>tlOf RR z.1)=((finTo RR.length RR.length).map (fun z=>RR.getD z.1 [])).flatMap (List.drop 1):=by rw [List.flatMap_map]; rfl
 rw [h,fin_map (fun x=>RR.getD x [])]
 congr 1
 refine List.ext_getElem (by simp) fun i h1 h2=>?_;rw [List.getElem_map,List.getElem_range,getD_in2 h2]
theorem chStrong_any {n:Int} {ov rv:Value} {OO:List (List Int)} {RR:List (List (List Int))} {w:World} (h:ChEqR w ov rv OO RR) :
  Calls Tryz.prog 48 #[.agg #[.int .i64 n,ov,rv]] w (SgPost n OO RR w):=by
 obtain ⟨oa,oc,rfl,-⟩:=h.1.shape;obtain ⟨ra,rc,rfl⟩:=h.2.shape;have HC:=ι h;have HR:=ι h.2;have K:=ι (Below.refl w.heap.size w);clear h;refine RF.calls_marks Tryz.func48 rfl ?_;simp only [Tryz.ntmps48,List.size_toArray,List.length_cons,List.length_nil,Nat.reduceAdd,Nat.reduceSub,Array.replicate_succ,Array.replicate_zero,List.push_toArray,List.append_toArray,List.nil_append,List.cons_append];have hs0:w.heap.size=w.heap.size+0:=rfl;go_upto_region 0 with (fail);refine Rg.wl ?_;have hbx:=box3 w (.int .i64 n) (.slice oa OO.length oc) (.slice ra RR.length rc)
 have hs:(w.alloc (.cells #[.int .i64 n,.slice oa OO.length oc,.slice ra RR.length rc] 54)).heap.size=w.heap.size+1:=by simp
 refine Rg.lr 1 (Rg.exec_box _ _ rfl rfl) ?_;go_frame;have hb:=(Below.refl w.heap.size w).alloc (Nat.le_refl _) (.cells #[.int .i64 n,.slice oa OO.length oc,.slice ra RR.length rc] 54);generalize w.alloc (.cells #[.int .i64 n,.slice oa OO.length oc,.slice ra RR.length rc] 54)=w1 at *;replace HC:=ι (HC.out.below hb);replace K:=ι (Rg.acc K.out hb);clear hb;have A0:=ι hbx.1;have A1:=ι hbx.2.1;have A2:=ι hbx.2.2
 have hs1:w1.heap.size=w.heap.size+1:=by omega
 clear hs;clear hbx;refine Rg.la 2 (.slice none 0 0) ?_;go_frame;refine Rg.la 3 (.int .i64 ((0:Nat):Int)) ?_;go_frame;obtain ⟨ck,hck⟩:∃ c,Hid (chCode n OO RR=c):=⟨_,ι rfl⟩;clear hs0;go_upto_region 1 with (fail);refine Rg.wl ?_;refine Rg.lr 10 (Rg.exec_load (v:=(.agg #[.int .i64 n,.slice oa OO.length oc,.slice ra RR.length rc])) _ _ rfl ⟨w.heap.size,0,none⟩ rfl (run_loadC3 A0.out.cell A1.out.cell A2.out.cell)) ?_;go_frame;refine list_ask (some 11) rfl rfl _ _ (exec_fn1 42 _ _ rfl rfl (Xccl0 _ _)) ?_;refine (chCheck_c HC.out).mono ?_;rintro e1 w2 ⟨rfl,hb⟩;rw [hck.out];refine ⟨_,rfl,?_⟩;go_frame;replace HC:=ι (HC.out.below hb);replace A0:=ι (A0.out.below hb);replace A1:=ι (A1.out.below hb);replace A2:=ι (A2.out.below hb);replace K:=ι (Rg.acc K.out hb);clear hb;refine Rg.la 4 (.int .i64 ck) ?_;go_frame
 by_cases h0:ck=0
 case neg =>
  skip
  go_upto_region 2 with (fail);refine Rg.wl ?_;refine Rg.lm 12 (.int .i64 ck) ?_;go_frame;refine Rg.lr 13 (exec_bin (R:=.bool true) .neq _ _ _ rfl rfl rfl (b_neqB _ (decide_eq_true h0))) ?_;go_frame;go_upto_region 3 with (fail);refine Rg.wl ?_;refine Rg.lm 14 (.int .i64 ck) ?_;go_frame;refine Rg.la 2 (.slice none 0 0) ?_;go_frame;refine Rg.la 3 (.int .i64 ck) ?_;go_frame;have HV:=ι (show sgA n OO RR=[] from if_neg (by rw [hck.out]; exact h0));have HX:=ι (show Rg.Rows w2 (.slice none 0 0) (sgA n OO RR) by rw [HV.out]; exact rowsNone _);go_wp2;exact sg_leave (ds:=[]) K.out HX.out hck.out rfl rfl (by simp) (fun D hD=>by simp at hD)
 case pos =>
  have HZ:=ι (hck.out.trans h0);go_upto_region 2 with (fail);refine Rg.wl ?_;refine Rg.lm 12 (.int .i64 ck) ?_;go_frame;refine Rg.lr 13 (exec_bin (R:=.bool false) .neq _ _ _ rfl rfl rfl (b_neqB _ (decide_eq_false (fun e=>e h0)))) ?_;go_frame;clear h0;obtain ⟨N,O,R,rfl,hN1,hN2,hOO,hRR,hch,hgs⟩:=chCode_ok HZ.out;have HOK:=ι (chCode_ok HZ.out);have HLR:=ι (show RR.length=N by rw [hRR,List.length_map,hch.lenR]);have HLR2:=ι (show R.length=RR.length by rw [hRR,List.length_map]);have HRR:=ι hRR;have HCH:=ι hch;have HGS:=ι hgs;clear hOO hRR hch hgs;obtain ⟨tb,htb⟩:∃ tb,Hid (w2.heap.size=tb):=⟨_,ι rfl⟩;have hnw:=CW.new w2 (.slice none 0 0) 22;rw [htb.out] at hnw;have HSW:=ι (show w.heap.size+1≤tb by have:=A0.out.lt; rw [htb.out] at this; exact this);go_upto_region 4 with (fail);refine Rg.wl ?_;refine Rg.lr 5 (exec_allocPs rfl) ?_;go_frame;have hb:=(Below.refl w2.heap.size w2).alloc (Nat.le_refl _) (.cells #[.slice none 0 0] 22)
  generalize w2.alloc (.cells #[.slice none 0 0] 22)=w3 at *;replace HC:=ι (HC.out.below hb);replace A0:=ι (A0.out.below hb);replace A1:=ι (A1.out.below hb);replace A2:=ι (A2.out.below hb);replace K:=ι (Rg.acc K.out hb);clear hb;rw [htb.out] at *;have C5:=ι hnw;clear hnw;have SG:=ι (show SgI w tb ((N:Nat):Int) (.slice oa OO.length oc) (.slice ra RR.length rc) w3 (fun _=>False) (.slice none 0 0) [] from ⟨K.out,HSW.out,A0.out,A1.out,A2.out,C5.out,RowH.nil _ _ _ _ C5.out.lt,fun z hz=>hz.elim⟩);clear A0 A1 A2 C5;go_upto_region 5 with (fail);refine Rg.wl ?_;refine Rg.lr 15 (Rg.exec_load (v:=(.agg #[.int .i64 ((N:Nat):Int),.slice oa OO.length oc,.slice ra RR.length rc])) _ _ rfl ⟨w.heap.size,0,none⟩ rfl (run_loadC3 SG.out.a0.cell SG.out.a1.cell SG.out.a2.cell)) ?_;go_frame;refine list_ask (some 16) rfl rfl _ _ (exec_fn1 114 _ _ rfl rfl (Wvcl0 _ _)) ?_;refine (reps_any _ _ _ w3).mono ?_
  rintro e1 w4 ⟨fb,rfl,hfb,hb⟩;have hsz:=hb.size;have hsg:=SG.out.up hb;refine ⟨_,rfl,?_⟩;go_frame;replace HC:=ι (HC.out.below hb);replace K:=ι (Rg.acc K.out hb);clear hb;have FB:=ι hfb;clear SG;have SG:=ι hsg;generalize Fup (fun _=>False) w3 w4=FA at *;clear hfb hsg;have HS0:=ι (show tb+1≤w4.heap.size from SG.out.c5.lt);clear hsz;obtain ⟨us,hus,hul,hur⟩:=HR.out;have HUR:=ι hur
  have hrv:RV3 w.heap.size w4 ra RR.length (fun k=>us[k]?.getD undef):=by
   obtain ⟨a',c',e,q1,q2,q3,q4⟩:=hus
   injection e with e1 e2 e3
   refine ⟨by have:=HLR.out; omega,fun h0=>?_,fun b off e5 j hj=>?_,K.out.size⟩
   ·obtain ⟨b,o,e4,e5,_⟩:=q4 (by omega)
    exact ⟨b,o,e1.trans e4,e5⟩
   ·obtain ⟨b',o',e4,e6,e7⟩:=q4 (by omega)
    rw [e1,e4] at e5;simp only [Option.some.injEq,Addr.mk.injEq,and_true] at e5;obtain ⟨rfl,rfl⟩:=e5;rw [(K.out.cell (p:=⟨b',o'+j,none⟩) e6)];show _=some (us[j]?.getD undef);rw [List.getElem?_eq_getElem (by omega)];exact e7 j (by omega)
  have HRV:=ι hrv;have HUL:=ι hul;clear hus hrv hul hur;go_wp2
  refine range_reps rfl FB.out HRV.out rfl (fun pre W=>∃ F v T,SgI w tb ((N:Nat):Int) (.slice oa OO.length oc) (.slice ra RR.length rc) W F v T∧T.map Ma.ofN=pre.flatMap (fun z=>tlOf RR z.1)∧T.length≤64*pre.length)
   (fun c pre W=>False) ?hI ?hIx ⟨_,_,[],SG.out,rfl,Nat.zero_le _⟩ ?a1 ?assign ?body ?done ?stop
  case assign =>
   intro l x W K hK
   gi_wp2
   exact hK
  case hI =>
   rintro pre W W' row ⟨F,v,T,h1,h2⟩ hg hr;exact ⟨F,v,T,h1.keep (by have:=HS0.out; omega) hg hr,h2⟩
  case hIx =>
   intro c pre W W' row h hg hr;exact h
  case stop =>
   intro D c pre W hD h hd;exact h.elim
  case body =>
   rintro l pre ⟨X,hX⟩ W ⟨F,v,T,hsg,hfl,htl⟩ hpl;obtain ⟨B,hB⟩:∃ B,w4.heap.size=B:=⟨_,rfl⟩;rw [hB] at HS0 ⊢;clear FB HRV SG K hB HC
   have hXn:X<N:=by have:=HLR.out; omega
   have SG:=ι hsg;have KQ:=ι (KK.refl (B:=B) (n₀:=w.heap.size) (W:=W) hsg.bel.size);have HFL:=ι hfl
   have HTL:=ι (show T.length≤64*64 by
    have:pre.length<64:=by have:=HLR.out; omega
    omega)
   have HTL0:=ι htl;have HXR:=ι hX;have HXN:=ι hXn;clear hsg hfl htl;have hu:=HUR.out X (by rw [HUL.out]; exact hX) hX
   have e1:us[X]?.getD undef=us[X]'(by rw [HUL.out]; exact hX):=by rw [List.getElem?_eq_getElem (by rw [HUL.out]; exact hX)]; rfl
   rw [← e1] at hu
   dsimp only
   generalize us[X]?.getD undef=u at *;clear e1;obtain ⟨rl,hrl⟩:∃ rl:List (List Nat),Hid (R.getD X []=rl):=⟨_,ι rfl⟩
   have hXR:X<R.length:=by have:=HLR2.out; omega
   have hrx:RR[X]'hX=rl.map Ma.ofN:=by
    rw [← hrl.out]
    have:RR[X]'hX=(R.map (List.map Ma.ofN))[X]'(by rw [List.length_map]; exact hXR):=by first | (congr 1; done) | (congr 1; exact HRR.out)
    rw [this,List.getElem_map,getD_inf hXR]
   have HTLO:=ι (show tlOf RR X=(rl.drop 1).map Ma.ofN by
    unfold tlOf
    rw [getD_in2 hX,hrx,List.map_drop])
   rw [hrx] at hu;have HRM:=ι (show ∀ x∈rl,Gd N x from fun x hx=>HGS.out x (List.mem_flatten.2 ⟨_,List.getElem_mem hXR,by rw [← getD_inf hXR,hrl.out]; exact hx⟩))
   have hrlen:rl.length≤N - X:=by
    have h1:=HCH.out.len X hXn;have h2:=chain_len (Cm.Gr.isG (n:=N) (gs:=(·∈R.flatten)) HGS.out) HCH.out hXn;rw [hrl.out] at h1;omega
   have hrpos:1≤rl.length:=by
    have h1:=HCH.out.len X hXn;rw [hrl.out] at h1;have hm:X∈O.getD X []:=(HCH.out.orb X X hXn).2 ⟨Ma.oneN N,⟨.one,Cm.Fx.one (by omega)⟩,Cm.ap_one hXn⟩;have:=List.length_pos_of_mem hm;omega
   obtain ⟨ua,uc,rfl,hcap,-,-,hrc⟩:=hu.shape;obtain ⟨ub,uo,rfl,hub,huc⟩:=hrc (by rw [List.length_map]; omega);rw [List.length_map] at hcap;obtain ⟨m,hm⟩:∃ m,rl.length=m+1:=⟨rl.length - 1,by omega⟩;obtain ⟨cm,rfl⟩:∃ cm,uc=cm+1:=⟨uc - 1,by omega⟩;rw [List.length_map,hm];have HM:=ι hm
   have hm64:m<64:=by omega
   have HUC:=ι huc;have HUB:=ι hub;obtain ⟨ca,hsr,hca⟩:=run_slice1P W ub uo m cm (by omega);have HCA:=ι hca;clear huc hrc hu hrx hrlen hrpos hub hm hca hcap
   gi_upto_region 7 with (fail)
   refine wpIn_region_list ?_;refine Rg.in_run (some 19) rfl rfl (fun _ hh=>by cases hh) (Rg.xm (.slice (some ⟨ub,uo,none⟩) (m+1) (cm+1)) _ rfl rfl) ?_;go_frame;refine Rg.in_run (some 20) rfl rfl (fun _ hh=>by cases hh) (exec_slice1P _ rfl rfl hsr) ?_;go_frame;refine Rg.in_run (some 21) rfl rfl (fun _ hh=>by cases hh) (exec_len _ _ _ rfl Tryz.underlying22 _ _ _ rfl) ?_;go_frame;refine Rg.in_run (some 22) rfl rfl (fun _ hh=>by cases hh) (Rg.xm (.int .i64 ((0:Nat):Int)) _ rfl rfl) ?_;go_frame;clear hsr;have HL0:=ι (show T.map Ma.ofN=T.map Ma.ofN++(tlOf RR X).take 0 by simp);have HN0:=ι (show T.length≤T.length+0 from Nat.le_refl _)
   gi_wp2
   gi_loopw [22] (fun jv wr=>∃ (j:Nat) (F:Nat→Prop) (v:Value) (T':List (List Nat)),jv=.int .i64 j∧j≤m∧Hid (SgI w tb ((N:Nat):Int) (.slice oa OO.length oc) (.slice ra RR.length rc) wr F v T')∧Hid (KK B w.heap.size W wr)∧Hid (T'.map Ma.ofN=T.map Ma.ofN++(tlOf RR X).take j)∧Hid (T'.length≤T.length+j)) (fun jv _=>m - (intOf jv).toNat)
   case atStart=>exact ⟨0,_,_,_,rfl,Nat.zero_le _,SG,KQ,HL0,HN0⟩
   case round =>
    clear SG KQ HL0 HN0;obtain ⟨j,F,v,T',rfl,hj,SG,KQ,HL0,HN0⟩:=hrel;obtain ⟨va,vc,hsv⟩:=SG.out.row.shape;subst hsv
    by_cases hjl:j<m
    case neg =>
     obtain rfl:j=m:=by omega
     have hjN:¬ (j:Int)<(j:Int):=by omega
     gi_upto_region 8 with (fail)
     refine wpIn_region_list ?_;refine Rg.in_run (some 23) rfl rfl (fun _ hh=>by cases hh) (exec_bin (R:=.bool false) .lss _ _ _ rfl rfl rfl (b_lss _ (decide_eq_false hjN))) ?_;go_frame
     have HT9:=ι (show T'.map Ma.ofN=(pre++[(⟨X,HXR.out⟩:Fin RR.length)]).flatMap (fun z=>tlOf RR z.1) by
      rw [List.flatMap_append,List.flatMap_singleton,HL0.out,HFL.out,List.take_of_length_le]
      rw [HTLO.out,List.length_map,List.length_drop,HM.out]; omega)
     have HN9:=ι (show T'.length≤64*(pre++[(⟨X,HXR.out⟩:Fin RR.length)]).length by
      rw [List.length_append,List.length_singleton]
      have:=HN0.out; have:=HTL0.out; omega)
     gi_wp2
     exact ⟨KQ.out.keeps,KQ.out.bel,_,_,_,SG.out,HT9.out,HN9.out⟩
    case pos =>
     have hjN:(j:Int)<(m:Int):=by omega
     have HJL:=ι hjl;obtain rfl:=HCA.out (by omega);obtain ⟨sv,hsc,hsi⟩:=HUC.out (1+j) (by rw [List.length_map,HM.out]; omega);obtain ⟨s,hs⟩:∃ s:List Nat,Hid (rl[1+j]'(by rw [HM.out]; omega)=s):=⟨_,ι rfl⟩
     have hsn:Rg.NP w sv s:=by rw [← hs.out]; rw [List.getElem_map] at hsi; exact hsi
     have GS:=ι (HRM.out s (by rw [← hs.out]; exact List.getElem_mem _));obtain ⟨sa,so,sc,rfl⟩:=(FP.of_np hsn).shape' GS.out hN1;have CS:=ι (show CL w ub (uo+1+j) (.slice (some ⟨sa,so,none⟩) N sc) from CL.mk (by rw [Nat.add_assoc]; exact hsc) HUB.out);have NS:=ι (show Rg.Ints w _ (Ma.ofN s) from hsn);have HSL:=ι (show (Ma.ofN s).length=N by rw [Ma.len_ofN,GS.out.2]);have HPS:=ι (show T'.length<1000000 by have:=HN0.out; have:=HTL.out; omega);have KW:=ι SG.out.bel;clear hsc hsi hsn
     gi_upto_region 8 with (fail)
     refine wpIn_region_list ?_;refine Rg.in_run (some 23) rfl rfl (fun _ hh=>by cases hh) (exec_bin (R:=.bool true) .lss _ _ _ rfl rfl rfl (b_lss _ (decide_eq_true (by omega)))) ?_;go_frame
     gi_upto_region 9 with (fail)
     refine wpIn_region_list ?_;refine Rg.in_run (some 24) rfl rfl (fun _ hh=>by cases hh) (exec_indexS slPerms _ _ rfl ub (uo+1) (m) cm (j) rfl rfl HJL.out) ?_;go_frame;refine Rg.in_run (some 25) rfl rfl (fun _ hh=>by cases hh) (Rg.exec_load (v:=.slice (some ⟨sa,so,none⟩) N sc) _ _ rfl ⟨ub,uo+1+j,none⟩ rfl (Rg.run_loadSl _ _ Tryz.underlying51 ((Below.cell (p:=⟨ub,uo+1+j,none⟩) KW.out CS.out.lt).trans CS.out.cell))) ?_;go_frame;refine Rg.in_run (some 9) rfl rfl (fun _ hh=>by cases hh) (Rg.xa (.slice (some ⟨sa,so,none⟩) N sc) _ rfl rfl) ?_;go_frame;have NS2:=ι (NpW.mk (x:=s) (Rg.NP.below (show Rg.NP w _ s from NS.out) KW.out));clear KW;have NS3:=ι (NpW.below NS2.out ((Below.refl _ _).drew));have KQ1:=ι (KQ.out.acc ((Below.refl _ _).drew))
     gi_upto_region 10 with (fail)
     have hV0:Below wr.heap.size wr wr.drew:=(Below.refl _ _).drew;replace SG:=ι (SG.out.up hV0);generalize Fup F wr wr.drew=F1 at *;clear hV0;refine Rg.Any.beginIn (hnd:=by kernel_rfl) (S:=Rg.Both 4 (fun W=>Below wr.drew.heap.size wr.drew W) (fun _=>True)) mix ?_;generalize wr.drew=w61 at *;have hS:∀ (l:Array Bool) W,Below w61.heap.size w61 W→Rg.Both 4 (fun W=>Below w61.heap.size w61 W) (fun _=>True) l W:=fun l W h=>⟨.inr h,trivial⟩;have hS2:∀ (l:Array Bool) W,l.getD 4 false=true→Rg.Both 4 (fun W=>Below w61.heap.size w61 W) (fun _=>True) l W:=fun l W h=>⟨.inl h,trivial⟩;have hI:Below w61.heap.size w61 w61:=Below.refl _ _;refine Rg.Any.takeT (i:=0) (t:=4) (v:=.slice va T'.length vc) (some 26) rfl rfl (by kernel_rfl) (by kernel_rfl) (by kernel_rfl) (fun _ _ _ h=>h) rfl (by kernel_rfl) rfl (Rg.yields_cell _ _ rfl rfl ⟨tb,0,none⟩ rfl (fun W hW=>Rg.run_loadSl _ _ Tryz.underlying22 ((Below.cell (p:=⟨tb,0,none⟩) hW SG.out.c5.lt).trans SG.out.c5.c))) (hS _ _ hI) ?_;go_frame
     refine Rg.tm 1 4 (.slice (some ⟨sa,so,none⟩) N sc) 27 (hS _ _ hI) ?_;go_frame;refine Rg.Any.one (i:=2) (by kernel_rfl) (Rg.Any.ask (some 28) rfl rfl rfl _ _ (exec_fn1 123 _ _ rfl rfl (Vzcl3 _ _)) ?_);refine (Clone_any _ (Ma.ofN s) w61 NS3.out.np (by rw [HSL.out]; exact hN1) (by rw [HSL.out]; omega)).mono ?_;rintro e1 w62 ⟨cv,rfl,hcv,hb⟩;have hfp:=FP.own (F:=F1) (x:=s) hcv (by rw [HSL.out]; omega);obtain ⟨yb,yo,yc,rfl⟩:=FP.shape' hfp GS.out hN1;have hkq2:=KQ1.out.acc hb;have hI2_u:=Rg.acc hI hb;clear hI;replace SG:=ι (SG.out.up hb);have YV:=ι hfp;generalize Fup F1 w61 w62=F2 at *;clear hb;refine ⟨_,rfl,(hS _ _ hI2_u),?_⟩;go_frame;obtain ⟨a9,c9,X9,r1,hrow,hkp⟩:=SG.out.row.push YV.out ⟨_,_,_,rfl⟩ (fun k hk=>(SG.out.Fr k hk).2) (fun _ e=>e.elim) HPS.out 22;have hI3_m:=Rg.acc hI2_u ((Below.refl _ _).alloc (Nat.le_refl _) (.cells #[.slice (some ⟨yb,yo,none⟩) N yc] 51))
     refine Rg.Any.one (i:=3) (by kernel_rfl) (Rg.Any.run (some 29) rfl rfl rfl (Rg.exec_buildSlice _ _ _ rfl (.slice (some ⟨yb,yo,none⟩) N yc) rfl (run_build1P w62 _ ⟨_,_,_,rfl⟩)) (hS _ _ hI3_m) ?_);go_frame;refine Rg.Any.one (i:=4) (by kernel_rfl) (Rg.Any.run (some 30) rfl rfl rfl (Rg.exec_append _ _ _ rfl rfl rfl r1) (hS2 _ _ rfl) ?_);go_frame;have c5x:=SG.out.c5.kp hkp (fun e=>by have:=(SG.out.row.lt _ e).1; omega);refine Rg.Any.one (i:=5) (by kernel_rfl) (Rg.Any.runSkip none rfl rfl rfl (Rg.exec_store _ _ _ rfl _ rfl _ rfl (Rg.run_storeSl _ infoPermsV c5x.c c5x.f)) (hS2 _ _ rfl) ?_);go_frame;refine Rg.Any.done (by kernel_rfl) ?_ _;refine Rg.onlyN_i ?_;clear hS2;clear hS hI3_m;have hsg2:=SG.out.store hkp hrow;have hkq3:KK B w.heap.size W (X9.setCell ⟨tb,0,none⟩ (.slice a9 (T'.length+1) c9)):=(hkq2.rowH hkp SG.out.row (by have:=SG.out.low; omega)).set _ (by have:=SG.out.low; omega)
     generalize X9.setCell ⟨tb,0,none⟩ (.slice a9 (T'.length+1) c9)=w98 at *;have SG2:=ι hsg2;have KQ2:=ι hkq3
     have HL2:=ι (show (T'++[s]).map Ma.ofN=T.map Ma.ofN++(tlOf RR X).take (j+1) by
      have e:(tlOf RR X).take (j+1)=(tlOf RR X).take j++[Ma.ofN s]:=by
       rw [HTLO.out,List.take_succ_eq_append_getElem (by rw [List.length_map,List.length_drop,HM.out]; have:=HJL.out; omega),List.getElem_map,List.getElem_drop,hs.out]
      rw [List.map_append,HL0.out,e,List.append_assoc]; rfl)
     have HN2:=ι (show (T'++[s]).length≤T.length+(j+1) by rw [List.length_append,List.length_singleton]; have:=HN0.out; omega);clear hsg2 hkq3 hkq2 r1 hrow hkp c5x SG KQ KQ1 hcv hfp YV
     gi_wp2
     go_roundw
     case rel=>exact ⟨j+1,_,_,_,by go_num,HJL.out,SG2,KQ2,HL2,HN2⟩
     case measure=>simp [intOf]; have:=HJL.out; omega
  case done =>
   rintro D Wd hD ⟨F,v,T,hsg,hfl,htl⟩ hd;have HD:=ι (show w.heap.size≤D by have:=HS0.out; have:=SG.out.low; omega);clear FB HRV SG K;have SG:=ι hsg;have DF:=ι hd;obtain ⟨va,vc,hsv⟩:=hsg.row.shape;subst hsv
   have HX:=ι (show Rg.Rows Wd (.slice va T.length vc) (sgA ((N:Nat):Int) OO RR) by
    have e:T.map Ma.ofN=sgA ((N:Nat):Int) OO RR:=by
     unfold sgA;rw [if_pos HZ.out,hfl,finTo_tl]
    rw [← e]
    exact hsg.row.rows (by
     have:=finTo_val (Nat.le_refl RR.length);have h2:=congrArg List.length this;rw [List.length_map,List.length_range] at h2;have:=HLR.out
     omega))
   clear hsg hfl htl hd;go_upto_region 12 with (fail);refine Rg.wl ?_;refine Rg.lr 32 (Rg.exec_load (v:=.slice va T.length vc) _ _ rfl ⟨tb,0,none⟩ rfl (Rg.run_loadSl _ _ Tryz.underlying22 SG.out.c5.c)) ?_;go_frame;refine Rg.la 2 (.slice va T.length vc) ?_;go_frame;refine Rg.la 3 (.int .i64 ((0:Nat):Int)) ?_;go_frame;go_wp2;exact sg_leave (ds:=[D]) SG.out.bel HX.out HZ.out rfl rfl (by simp) (fun D' hD'=>by simp at hD'; subst hD'; exact ⟨DF.out,HD.out⟩)
end Go.Proofs.YthehbckogieimaaGreat

namespace Go.Proofs.YthehbckogieimaaGreat
open Go.RowKit
open Go.Proofs
open Go.Proofs.Ob
open Go.Proofs.Cm (Gr Gd IsChain IsG St Fx ap Lst lexLt)
attribute [local irreducible] Go.Calls Go.wpList
theorem fx_or {n:Nat} {z:List Nat} (gz:Gd n z):∀ k,k≤n→Fx k z∨∃ j,j<k∧(∀ m,m<j→ap z m=m)∧ap z j≠j
 | 0,_=>.inl fun j hj=>absurd hj (Nat.not_lt_zero _)
 | k+1,hk=>by
  rcases fx_or gz k (by omega) with h | ⟨j,h1,h2⟩
  ·by_cases e:ap z k=k
   ·exact .inl fun j hj=>by
     by_cases e2:j=k
     ·subst e2; exact e
     ·exact h j (by omega)
   ·exact .inr ⟨k,by omega,h,e⟩
  ·exact .inr ⟨j,by omega,h2⟩
theorem one_leastP {n:Nat} {z:List Nat} (gz:Gd n z):z=Ma.oneN n∨lexLt n (Ma.oneN n) z:=by
 rcases fx_or gz n (Nat.le_refl _) with h | ⟨j,h1,h2,h3⟩
 ·exact .inl (Fx.all gz h)
 ·refine .inr ⟨j,h1,fun m hm=>by rw [Cm.ap_one (by omega),h2 m hm],?_⟩
  rw [Cm.ap_one h1];have h4:¬ ap z j<j:=fun h=>h3 (Cm.ap_inj gz (Cm.ap_lt gz h1) h1 (h2 _ h));omega
theorem rep_first {n:Nat} {H:List Nat→Prop} (hH:IsG n H) {O:List (List Nat)} {R:List (List (List Nat))} (h:IsChain n H O R) {i:Nat} (hi:i<n):∃ t,R.getD i []=Ma.oneN n :: t:=by
 have s1:St H i (Ma.oneN n):=⟨hH.one,Fx.one (Nat.le_of_lt hi)⟩;have hm:i∈O.getD i []:=(h.orb i i hi).2 ⟨_,s1,Cm.ap_one hi⟩;have hp:=List.length_pos_of_mem hm
 have h0:(O.getD i [])[0]=i:=by
  obtain ⟨x,hx,e⟩:=(h.orb i _ hi).1 (List.getElem_mem hp);have gx:=hH.gd _ hx.1;obtain ⟨k,hk,ek⟩:=List.getElem_of_mem hm
  rcases Nat.eq_zero_or_pos k with rfl | hk0
  ·exact ek
  ·have hlt:=(List.pairwise_iff_getElem.1 (h.asc i hi)) 0 k hp hk hk0
   rw [ek] at hlt;have h3:=hx.2 _ hlt;have:=Cm.ap_inj gx (by omega) hi (h3.trans e.symm);omega
 have hr:=h.rep i 0 hi hp;rw [show (O.getD i []).getD 0 0=i by rw [Cm.getD_in hp]; exact h0] at hr;have ho:Lst n (fun z=>St H i z∧ap z i=i) (Ma.oneN n):=⟨⟨s1,Cm.ap_one hi⟩,fun z hz=>(one_leastP (hH.gd _ hz.1.1)).imp id id⟩;have e:=hr.uniq ho
 have hl:0<(R.getD i []).length:=by rw [h.len i hi]; exact hp
 cases hR:R.getD i [] with
 | nil=>rw [hR] at hl; cases hl
 | cons a t =>
  rw [hR] at e;exact ⟨t,by rw [show a=Ma.oneN n from e]⟩
def sgL (R:List (List (List Nat))):List (List Nat):=R.flatMap (List.drop 1)
theorem sgL_map (R:List (List (List Nat))):(R.map (List.map Ma.ofN)).flatMap (List.drop 1)=(sgL R).map Ma.ofN:=by
 unfold sgL;rw [List.flatMap_map,List.map_flatMap]
 congr 1
 funext r
 rw [List.map_drop]
theorem mkchk_good {D:Nat} (h1:1≤D) (h2:D≤64) {gs:List (List Nat)} (hl:gs.length≤4096) (h:∀ s∈gs,Gd D s):mkchk ((D:Nat):Int) (gs.map Ma.ofN)=0:=by
 unfold mkchk;rw [if_pos (by omega),if_pos (by rw [List.length_map]; exact hl)];exact gck_good h1 h2 h
end Go.Proofs.YthehbckogieimaaGreat

namespace Go.Proofs.YthehbckogieimaaGreat
open Go.RowKit
open Go.Proofs
open Go.Proofs.Ob
open Go.Proofs.Cm (Gd)
attribute [local irreducible] Go.Calls Go.wpList
theorem RwAt.ints {w:World} {g n cap:Nat} {f:Nat→Int} (h:RwAt w g n f) (hc:n≤cap) (hm:cap≤maxLen) (hn:n≤1000):Rg.Ints w (.slice (some ⟨g,0,none⟩) n cap) ((List.range n).map f):=by
 refine Rg.Ints.mk (by simp) h.1 (by simpa using hc) hm (by simp; omega) fun i hi=>?_
 have hi':i<n:=by simpa using hi
 rw [Nat.zero_add,h.2.1 i hi'];simp

theorem getN_at {l:List Nat} {i:Nat} (h:i<l.length):l.getD i 0=l[i]:=Bk.getD_lt h

theorem GI.up {w w':World} {b:Nat} {d:Int} {a:Option Addr} {ll:List (List Int)} {c:Nat} (h:GI w b d a ll c) (hb:Below w.heap.size w w'):GI w' b d a ll c:=h.below hb

structure NpI (w:World) (v:Value) (l:List Int):Prop where
 i:Rg.Ints w v l
theorem NpI.below {w w':World} {v:Value} {l:List Int} (h:NpI w v l) (hb:Below w.heap.size w w'):NpI w' v l:=⟨h.i.below hb⟩

theorem GI.at {w:World} {D gb:Nat} {ga:Option Addr} {gc:Nat} {gs:List (List Nat)} (h:GI w gb ((D:Nat):Int) ga (gs.map Ma.ofN) gc) (hg:GG D gs) (hD:1≤D) {s:Nat} (hs:s<gs.length) :
  ∃ b o sb so sc,ga=some ⟨b,o,none⟩∧CL w b (o+s) (.slice (some ⟨sb,so,none⟩) D sc)∧∀ i,i<D→CL w sb (so+i) (.int .i64 ((img gs s i:Nat):Int)):=by
 obtain ⟨ga',gc',hsh,-,-,-,har⟩:=h.rows.shape;simp only [Value.slice.injEq,true_and] at hsh;obtain ⟨rfl,rfl⟩:=hsh;obtain ⟨b,o,e,hb,hx⟩:=har (by rw [List.length_map]; omega);obtain ⟨u,h1,h2⟩:=hx s (by rw [List.length_map]; exact hs);rw [List.getElem_map] at h2;have hlen:(gs[s]).length=D:=(hg _ (List.getElem_mem hs)).2;obtain ⟨a,c,rfl,hc,hm,_,hcell⟩:=Rg.NP.shape (show Rg.NP w u gs[s] from h2);obtain ⟨sb,so,rfl,hsb,hr⟩:=hcell (by omega);refine ⟨b,o,sb,so,c,e,⟨by rw [hlen] at h1; exact h1,hb⟩,fun i hi=>⟨?_,hsb⟩⟩
 have e:img gs s i=gs[s].getD i 0:=by
  unfold img;rw [List.getD_eq_getElem?_getD (l:=gs),List.getElem?_eq_getElem hs,Option.getD_some]
 rw [e,getN_at (by omega)];exact hr i (by omega)
theorem NpI.at {w:World} {lv:Value} {M:List Nat} {D:Nat} (h:NpI w lv (Ma.ofN M)) (hM:M.length=D) (hD:1≤D):∃ b o c,lv=.slice (some ⟨b,o,none⟩) D c∧∀ i,i<D→CL w b (o+i) (.int .i64 ((M.getD i 0:Nat):Int)):=by
 obtain ⟨a,c,rfl,hc,hm,_,hcell⟩:=Rg.NP.shape (show Rg.NP w lv M from h.i);obtain ⟨b,o,rfl,hb,hr⟩:=hcell (by omega);refine ⟨b,o,c,by rw [hM],fun i hi=>⟨?_,hb⟩⟩;rw [getN_at (by omega)];exact hr i (by omega)

structure RdR (w:World) (v:Value) (T:List (List Nat)):Prop where
 rows:Rg.Rows w v (T.map Ma.ofN)
theorem RdR.below {w w':World} {v:Value} {T:List (List Nat)} (h:RdR w v T) (hb:Below w.heap.size w w'):RdR w' v T:=⟨h.rows.below hb⟩
theorem RdR.at {w:World} {v:Value} {T:List (List Nat)} (h:RdR w v T) {i:Nat} (hi:i<T.length):∃ b o c u,v=.slice (some ⟨b,o,none⟩) T.length c∧CL w b (o+i) u∧Rg.NP w u (T[i]):=by
 obtain ⟨us,⟨a,c,e,_,_,_,h5⟩,h2,h3⟩:=h.rows
 have hl:us.length=T.length:=by rw [h2,List.length_map]
 obtain ⟨b,o,e1,e2,e3⟩:=h5 (by omega);subst e1;have h6:=h3 i (by omega) (by rw [List.length_map]; exact hi);rw [List.getElem_map] at h6;exact ⟨b,o,c,us[i],by rw [e,hl],⟨e3 i (by omega),e2⟩,h6⟩
theorem RdR.sh {w:World} {v:Value} {T:List (List Nat)} (h:RdR w v T):∃ a c,v=.slice a T.length c:=by
 obtain ⟨us,⟨a,c,e,_⟩,h2,_⟩:=h.rows;exact ⟨a,c,by rw [e,h2,List.length_map]⟩

theorem rows_nil0 (w:World):Rg.Rows w (.slice none 0 0) []:=⟨[],⟨none,0,rfl,Nat.le_refl _,by unfold maxLen; omega,by simp,fun h=>by simp at h⟩,rfl,fun i h=>by simp at h⟩
end Go.Proofs.YthehbckogieimaaGreat

namespace Go.Proofs.YthehbckogieimaaGreat
open Go.RowKit
open Go.Proofs
open Go.Proofs.Ob
open Go.Proofs.Cm (Gd ap)
attribute [local irreducible] Go.Calls Go.wpList
theorem idx_nodup {l:List Nat} (h:l.Nodup) {k:Nat} (hk:k<l.length):l.idxOf l[k]=k:=by
 have h1:l.idxOf l[k]<l.length:=List.idxOf_lt_length_of_mem (List.getElem_mem hk);exact (List.getElem_inj h).1 (List.getElem_idxOf h1)
theorem rsift_any {n:Nat} {H:List Nat→Prop} {O:List (List Nat)} {R:List (List (List Nat))} (hn1:1≤n) (hn2:n≤64) (hH:Cm.IsG n H) (hch:Cm.IsChain n H O R) {ov rv xv:Value} {x:List Nat} {w:World} (h:ChEqR w ov rv (O.map Ma.ofN) (R.map (List.map Ma.ofN))) (hx:Rg.NP w xv x) (gx:Gd n x) :
  Calls Tryz.prog 113 #[.agg #[.int .i64 ((n:Nat):Int),ov,rv],xv] w (SiPost n O R x w):=by
 obtain ⟨oa,oc,hsh,-⟩:=h.1.shape;rw [List.length_map,hch.lenO] at hsh;subst hsh;obtain ⟨ra,rc,hsh⟩:=h.2.shape;rw [List.length_map,hch.lenR] at hsh;subst hsh;obtain ⟨xa,xc,hsh,-⟩:=Rg.NP.shape hx;rw [gx.2] at hsh;subst hsh;have HC:=ι h;have HX:=ι hx;have GX:=ι gx;have HH:=ι hH;have HCH:=ι hch;have HTG:=ι (show ∀ i p u,i<n→trC O R i p=some u→Gd n u from fun i p u hi hu=>(trC_isTr hH hch).rp.gd i p u (Nat.zero_le _) hi hu);have hbx:=box3 w (.int .i64 ((n:Nat):Int)) (.slice oa n oc) (.slice ra n rc);have hb:Below w.heap.size w (w.alloc (.cells #[.int .i64 ((n:Nat):Int),.slice oa n oc,.slice ra n rc] 54)):=(Below.refl _ _).alloc (Nat.le_refl _) _;clear h hx gx hH hch
 go_enter Tryz.func113,Tryz.ntmps113
 obtain ⟨cb,hcb⟩:∃ cb,w.heap.size=cb:=⟨_,rfl⟩;rw [hcb] at hbx;go_upto_region 0 with (fail);refine Rg.wl ?_;refine Rg.lr 2 (Rg.exec_box _ _ rfl rfl) ?_;go_frame;refine Rg.la 4 (.slice none 0 0) ?_;go_frame;refine Rg.la 5 (.int .i64 0) ?_;go_frame;rw [hcb];clear hcb;generalize w.alloc (.cells #[.int .i64 ((n:Nat):Int),.slice oa n oc,.slice ra n rc] 54)=w0 at *;have A0:=ι hbx.1;have A1:=ι hbx.2.1;have A2:=ι hbx.2.2;have HWB:=ι hb;have K:=ι (Below.refl w0.heap.size w0);clear hbx hb;go_upto_region 1 with (fail);refine Rg.wl ?_;refine Rg.la 6 (.int .i64 ((0:Nat):Int)) ?_;go_frame;have XV:=ι (NpI.mk (Rg.NP.below HX.out HWB.out));have HSF:=ι (show siF (trC O R) (List.range 0) x=some x from rfl);go_wp2
 go_loopw [1,6] (fun yv iv wr=>∃ (i:Nat) (y:List Nat),iv=.int .i64 ((i:Nat):Int)∧i≤n∧Hid (NpI wr yv (Ma.ofN y))∧Hid (siF (trC O R) (List.range i) x=some y)∧Hid (Below w0.heap.size w0 wr)) (fun _ iv _=>n - (intOf iv).toNat)
 case atStart=>exact ⟨0,x,rfl,Nat.zero_le _,XV,HSF,K⟩
 case round =>
  clear XV HSF K;obtain ⟨i,y,rfl,hi,YV,HSF,K⟩:=hrel;generalize wr=wd at *;have GY:=ι (siF_gd HTG.out (fun q hq=>by have:=List.mem_range.1 hq; omega) GX.out HSF.out);obtain ⟨yb,yo,yc,hsh,hyx⟩:=YV.out.at GY.out.2 hn1;subst hsh
  by_cases hin:i<n
  case neg =>
   have hin2:i=n:=by omega
   have HSD:=ι (show siC n O R x=(n,y) from by
    have h5:=HSF.out;rw [hin2] at h5
    exact siF_done h5)
   go_upto_region 2 with (fail);refine Rg.wl ?_;refine Rg.lm 8 (.int .i64 ((i:Nat):Int)) ?_;go_frame;refine Rg.lr 9 (exec_field _ rfl rfl (chF0 _ _)) ?_;go_frame;refine Rg.lr 10 (Rg.exec_load (v:=.int .i64 ((n:Nat):Int)) _ _ rfl ⟨cb,0,none⟩ rfl (run_loadInt ((Below.cell (p:=⟨cb,0,none⟩) K.out A0.out.lt).trans A0.out.cell))) ?_;go_frame;refine Rg.lr 11 (exec_bin (R:=.bool false) .lss _ _ _ rfl rfl rfl (b_lss _ (decide_eq_false (by omega)))) ?_;go_frame;go_upto_region 10 with (fail);have hV0:Below wd.heap.size wd wd.drew:=(Below.refl _ _).drew;replace YV:=ι (YV.out.below hV0);replace K:=ι (Rg.acc K.out hV0);clear hV0;refine Rg.Any.begin (S:=Rg.Both 5 (fun _=>True) (fun W=>Below w0.heap.size w0 W)) mix ?_;generalize wd.drew=w11 at *;have hS:∀ (l:Array Bool) W,Below w0.heap.size w0 W→Rg.Both 5 (fun _=>True) (fun W=>Below w0.heap.size w0 W) l W:=fun l W h=>⟨.inr trivial,h⟩
   have hI:=K.out;refine Rg.tm 0 5 (.slice (some ⟨yb,yo,none⟩) n yc) 61 (hS _ _ hI) ?_;go_frame;refine Rg.tg 2 5 (.pointer (some ⟨cb,0,none⟩)) 63 rfl rfl (.inl ⟨rfl,fun w _=>exec_field _ rfl rfl (chF0 _ _)⟩) (hS _ _ hI) ?_;go_frame;refine Rg.tg 3 5 (.int .i64 ((n:Nat):Int)) 64 rfl rfl (Rg.yields_cell _ _ rfl rfl ⟨cb,0,none⟩ rfl (fun W hW=>run_loadInt ((Below.cell (p:=⟨cb,0,none⟩) hW A0.out.lt).trans A0.out.cell))) (hS _ _ hI) ?_;go_frame;refine Rg.Any.one (i:=1) (by kernel_rfl) (Rg.Any.ask (some 62) rfl rfl rfl _ _ (exec_fn1 70 _ _ rfl rfl (Wncl3 _ _)) ?_);refine (Own_any _ (Ma.ofN y) w11 YV.out.i (by rw [Ma.len_ofN,GY.out.2]; omega)).mono ?_;rintro e1 w12 ⟨zv,rfl,hzv,hb⟩;have hzi:Rg.NP w12 zv y:=Rg.Ints.of_row hzv (by rw [Ma.len_ofN,GY.out.2]; omega);clear hzv;have hI2_0:=Rg.acc hI hb;have hI2_1:=hb;clear hb hI;refine ⟨_,rfl,(hS _ _ hI2_0),?_⟩;go_frame
   have ZV:=ι (NpI.mk hzi);refine Rg.tg 4 5 (zv) 4 rfl rfl (.inl ⟨rfl,fun w _=>Rg.exec_assign (v:=zv) _ rfl rfl⟩) (hS _ _ hI2_0) ?_;go_frame;refine Rg.Any.one (i:=5) (by kernel_rfl) (Rg.Any.run (some 5) rfl rfl rfl (Rg.xa (.int .i64 ((n:Nat):Int)) _ rfl rfl) (hS _ _ hI2_0) ?_);go_frame;refine Rg.Any.done (by kernel_rfl) ?_ _;replace YV:=ι (YV.out.below hI2_1);replace K:=ι hI2_0;clear hS hI2_0 hI2_1;go_wp2
   go_ret2
   exact ⟨_,by rw [HSD.out]; rfl,by rw [HSD.out]; exact ZV.out.i,Rg.acc HWB.out K.out⟩
  case pos =>
   have HIN:=ι hin;obtain ⟨ol,hol⟩:∃ ol:List Nat,Hid (O.getD i []=ol):=⟨_,ι rfl⟩;obtain ⟨rl,hrl⟩:∃ rl:List (List Nat),Hid (R.getD i []=rl):=⟨_,ι rfl⟩;have hoL:=chain_len HH.out HCH.out hin;rw [hol.out] at hoL;have HLEN:=ι (show rl.length=ol.length by rw [← hrl.out,← hol.out]; exact HCH.out.len i hin);have HASC:=ι (show ol.Pairwise (· < ·) by rw [← hol.out]; exact HCH.out.asc i hin)
   have hiO:i<(O.map Ma.ofN).length:=by rw [List.length_map,HCH.out.lenO]; exact hin
   have hiR:i<(R.map (List.map Ma.ofN)).length:=by rw [List.length_map,HCH.out.lenR]; exact hin
   obtain ⟨ob,oo,qa,qc,e1,hob,hoc,hoi⟩:=rows_get HC.out.1 hiO;subst e1
   have eO:(O.map Ma.ofN)[i]'hiO=Ma.ofN ol:=by rw [← hol.out,List.getElem_map,getD_inf (by rw [HCH.out.lenO]; exact hin)]
   rw [eO,Ma.len_ofN] at hoc hoi;obtain ⟨rb,ro,e1,hrb,ru,hru,hri⟩:=HC.out.2.at' hiR;subst e1
   have eR:(R.map (List.map Ma.ofN))[i]'hiR=rl.map Ma.ofN:=by rw [← hrl.out,List.getElem_map,getD_inf (by rw [HCH.out.lenR]; exact hin)]
   rw [eR] at hri;obtain ⟨ua,uc,hsh,-⟩:=hri.shape;rw [List.length_map] at hsh;subst hsh;have KD:=ι (Rg.acc HWB.out K.out);have K9:=ι K.out;have CO:=ι (CL.up (CL.mk hoc hob) KD.out);have CR:=ι (CL.up (CL.mk hru hrb) KD.out);have OI:=ι (Rg.Ints.below hoi KD.out);have RI:=ι (Rg.Rows.below hri KD.out);have B0:=ι (A0.out.up K.out);have B1:=ι (A1.out.up K.out);have B2:=ι (A2.out.up K.out);clear K;obtain ⟨q,hq⟩:∃ q:Nat,Hid (ap y i=q):=⟨_,ι rfl⟩;have CY:=ι (show CL wd yb (yo+i) (.int .i64 ((q:Nat):Int)) by rw [← hq.out]; exact hyx i hin);have KE:=ι (Below.refl wd.heap.size wd);have HNE:=ι (show ∀ j (h:j<ol.length),j<0→ol[j]≠q from fun j _ h=>absurd h (Nat.not_lt_zero _));clear hoc hoi hru hri hob hrb hyx;go_upto_region 2 with (fail);refine Rg.wl ?_;refine Rg.lm 8 (.int .i64 ((i:Nat):Int)) ?_;go_frame;refine Rg.lr 9 (exec_field _ rfl rfl (chF0 _ _)) ?_;go_frame
   refine Rg.lr 10 (Rg.exec_load (v:=.int .i64 ((n:Nat):Int)) _ _ rfl ⟨cb,0,none⟩ rfl (run_loadInt ((Below.cell (p:=⟨cb,0,none⟩) KE.out B0.out.lt).trans B0.out.cell))) ?_;go_frame;refine Rg.lr 11 (exec_bin (R:=.bool true) .lss _ _ _ rfl rfl rfl (b_lss _ (decide_eq_true (by omega)))) ?_;go_frame;go_upto_region 4 with (fail);refine Rg.wl ?_;refine Rg.la 7 (.int .i64 ((0:Nat):Int)) ?_;go_frame;go_wp2
   go_loopw [7] (fun kv wr=>∃ k:Nat,kv=.int .i64 ((k:Nat):Int)∧k≤ol.length∧Hid (∀ j (h:j<ol.length),j<k→ol[j]≠q)∧Hid (Below wd.heap.size wd wr)) (fun kv _=>ol.length - (intOf kv).toNat)
   case atStart=>exact ⟨0,rfl,Nat.zero_le _,HNE,KE⟩
   case round =>
    clear HNE KE;obtain ⟨k,rfl,hk,HNE,KE⟩:=hrel;generalize wr=we at *;have YW:=ι (YV.out.below KE.out)
    by_cases hkl:k<ol.length
    case neg =>
     have hkl2:k=ol.length:=by omega
     have hkr1:k≤ol.length:=hk
     have hkr2:ol.length≤k:=by omega
     have HTN:=ι (show trC O R i (ap y i)=none from trC_none (by
      rw [hol.out,hq.out];intro hm;obtain ⟨j,hj,e⟩:=List.getElem_of_mem hm
      exact HNE.out j hj (by omega) e))
     have HSD:=ι (show siC n O R x=(i,y) from siF_stop hin HSF.out HTN.out);clear hkl2;go_upto_region 5 with (fail);have hV0:Below we.heap.size we we.drew:=(Below.refl _ _).drew;replace YW:=ι (YW.out.below hV0);replace KE:=ι (Rg.acc KE.out hV0);clear hV0;refine Rg.Any.begin (S:=Rg.Both 22 (fun _=>True) (fun W=>Below wd.heap.size wd W)) mix ?_;generalize we.drew=w61 at *;have hS:∀ (l:Array Bool) W,Below wd.heap.size wd W→Rg.Both 22 (fun _=>True) (fun W=>Below wd.heap.size wd W) l W:=fun l W h=>⟨.inr trivial,h⟩;have hI:=KE.out;refine Rg.tm 0 22 (.int .i64 ((k:Nat):Int)) 14 (hS _ _ hI) ?_;go_frame;refine Rg.tg 1 22 (.pointer (some ⟨cb,1,none⟩)) 15 rfl rfl (.inl ⟨rfl,fun w _=>exec_field _ rfl rfl (chF1 _ _)⟩) (hS _ _ hI) ?_;go_frame;refine Rg.tg 2 22 (.slice (some ⟨ob,oo,none⟩) n oc) 16 rfl rfl (Rg.yields_cell _ _ rfl rfl ⟨cb,1,none⟩ rfl (fun W hW=>Rg.run_loadSl _ _ Tryz.underlying27 ((Below.cell (p:=⟨cb,1,none⟩) hW B1.out.lt).trans B1.out.cell))) (hS _ _ hI) ?_;go_frame
     refine Rg.tm 3 22 (.int .i64 ((i:Nat):Int)) 17 (hS _ _ hI) ?_;go_frame;refine Rg.tg 4 22 (.pointer (some ⟨ob,oo+i,none⟩)) 18 rfl rfl (Rg.yields_index slIntss _ _ rfl rfl ob (oo) (n) oc (i) rfl rfl hin) (hS _ _ hI) ?_;go_frame;refine Rg.tg 5 22 (.slice qa ol.length qc) 19 rfl rfl (Rg.yields_cell _ _ rfl rfl ⟨ob,oo+i,none⟩ rfl (fun W hW=>Rg.run_loadSl _ _ Tryz.underlying36 ((Below.cell (p:=⟨ob,oo+i,none⟩) hW CO.out.lt).trans CO.out.cell))) (hS _ _ hI) ?_;go_frame;refine Rg.tg 6 22 (.int .i64 ((ol.length:Nat):Int)) 20 rfl rfl (.inl ⟨rfl,fun w _=>exec_len _ _ _ rfl Tryz.underlying36 _ _ _ rfl⟩) (hS _ _ hI) ?_;go_frame;refine Rg.tg 7 22 (.bool false) 21 rfl rfl (.inl ⟨rfl,fun w _=>exec_bin (R:=.bool false) .lss _ _ _ rfl rfl rfl (b_lss _ (decide_eq_false (by omega)))⟩) (hS _ _ hI) ?_;go_frame;refine Rg.tm 8 22 (.bool false) 22 (hS _ _ hI) ?_;go_frame;refine Rg.tg 9 22 (undef) 23 rfl rfl (.inr ⟨rfl,rfl⟩) (hS _ _ hI) ?_;go_frame
     refine Rg.tg 10 22 (undef) 24 rfl rfl (.inr ⟨rfl,rfl⟩) (hS _ _ hI) ?_;go_frame;refine Rg.tg 11 22 (undef) 25 rfl rfl (.inr ⟨rfl,rfl⟩) (hS _ _ hI) ?_;go_frame;refine Rg.tg 12 22 (undef) 26 rfl rfl (.inr ⟨rfl,rfl⟩) (hS _ _ hI) ?_;go_frame;refine Rg.tg 13 22 (undef) 27 rfl rfl (.inr ⟨rfl,rfl⟩) (hS _ _ hI) ?_;go_frame;refine Rg.tg 14 22 (undef) 28 rfl rfl (.inr ⟨rfl,rfl⟩) (hS _ _ hI) ?_;go_frame;refine Rg.tg 15 22 (undef) 29 rfl rfl (.inr ⟨rfl,rfl⟩) (hS _ _ hI) ?_;go_frame;refine Rg.tg 16 22 (undef) 30 rfl rfl (.inr ⟨rfl,rfl⟩) (hS _ _ hI) ?_;go_frame;refine Rg.tg 17 22 (undef) 31 rfl rfl (.inr ⟨rfl,rfl⟩) (hS _ _ hI) ?_;go_frame;refine Rg.tg 18 22 (undef) 32 rfl rfl (.inr ⟨rfl,rfl⟩) (hS _ _ hI) ?_;go_frame;refine Rg.tg 19 22 (undef) 33 rfl rfl (.inr ⟨rfl,rfl⟩) (hS _ _ hI) ?_;go_frame;refine Rg.tg 20 22 (undef) 34 rfl rfl (.inr ⟨rfl,rfl⟩) (hS _ _ hI) ?_;go_frame;refine Rg.tg 21 22 (undef) 35 rfl rfl (.inr ⟨rfl,rfl⟩) (hS _ _ hI) ?_;go_frame
     refine Rg.Any.one (i:=22) (by kernel_rfl) (Rg.Any.run (some 36) rfl rfl rfl (exec_pickF (v:=.bool false) _ _ _ rfl rfl rfl) (hS _ _ hI) ?_);go_frame;refine Rg.Any.done (by kernel_rfl) ?_ _;replace KE:=ι hI;clear hS hI;go_upto_region 7 with (fail);refine Rg.wl ?_;refine Rg.lm 39 (.int .i64 ((k:Nat):Int)) ?_;go_frame;refine Rg.lr 40 (exec_field _ rfl rfl (chF1 _ _)) ?_;go_frame;refine Rg.lr 41 (Rg.exec_load (v:=.slice (some ⟨ob,oo,none⟩) n oc) _ _ rfl ⟨cb,1,none⟩ rfl (Rg.run_loadSl _ _ Tryz.underlying27 ((Below.cell (p:=⟨cb,1,none⟩) KE.out B1.out.lt).trans B1.out.cell))) ?_;go_frame;refine Rg.lm 42 (.int .i64 ((i:Nat):Int)) ?_;go_frame;refine Rg.lr 43 (exec_indexS slIntss _ _ rfl ob (oo) (n) oc (i) rfl rfl hin) ?_;go_frame;refine Rg.lr 44 (Rg.exec_load (v:=.slice qa ol.length qc) _ _ rfl ⟨ob,oo+i,none⟩ rfl (Rg.run_loadSl _ _ Tryz.underlying36 ((Below.cell (p:=⟨ob,oo+i,none⟩) KE.out CO.out.lt).trans CO.out.cell))) ?_;go_frame
     refine Rg.lr 45 (exec_len _ _ _ rfl Tryz.underlying36 _ _ _ rfl) ?_;go_frame;refine Rg.lr 46 (exec_bin (R:=.bool true) .eql _ _ _ rfl rfl rfl (b_eql _ (decide_eq_true (by omega)))) ?_;go_frame;go_upto_region 8 with (fail);refine Rg.wl ?_;refine Rg.lm 47 (.slice (some ⟨yb,yo,none⟩) n yc) ?_;go_frame;refine list_ask (some 48) rfl rfl _ _ (exec_fn1 70 _ _ rfl rfl (Wncl3 _ _)) ?_;refine (Own_any _ (Ma.ofN y) w61 YW.out.i (by rw [Ma.len_ofN,GY.out.2]; omega)).mono ?_;rintro e1 w62 ⟨zv,rfl,hzv,hb⟩;have hzi:Rg.NP w62 zv y:=Rg.Ints.of_row hzv (by rw [Ma.len_ofN,GY.out.2]; omega);clear hzv;refine ⟨_,rfl,?_⟩;go_frame;replace YW:=ι (YW.out.below hb);replace KE:=ι (Rg.acc KE.out hb);clear hb;have ZV:=ι (NpI.mk hzi);refine Rg.lm 49 (.int .i64 ((i:Nat):Int)) ?_;go_frame;refine Rg.la 4 (zv) ?_;go_frame;refine Rg.la 5 (.int .i64 ((i:Nat):Int)) ?_;go_frame;go_wp2
     go_ret2
     exact ⟨_,by rw [HSD.out]; rfl,by rw [HSD.out]; exact ZV.out.i,Rg.acc KD.out KE.out⟩
    case pos =>
     have HKL:=ι hkl;obtain ⟨ob2,oo2,e1,hob2,hox2⟩:=ints_get OI.out (k:=k) (by rw [Ma.len_ofN]; exact hkl);subst e1;obtain ⟨p,hp⟩:∃ p,Hid (ol[k]'hkl=p):=⟨_,ι rfl⟩;have CP:=ι (show CL wd ob2 (oo2+k) (.int .i64 ((p:Nat):Int)) from ⟨by rw [hox2,Ma.get_ofN,hp.out],hob2⟩);clear hob2 hox2
     by_cases hpq:p=q
     case neg =>
      have HN2:=ι (show ∀ j (h:j<ol.length),j<k+1→ol[j]≠q from fun j hj hlt e=>by
       by_cases ej:j=k
       ·subst ej; exact hpq (by rw [← hp.out]; exact e)
       ·exact HNE.out j hj (by omega) e)
      go_upto_region 5 with (fail);have hV0:Below we.heap.size we we.drew:=(Below.refl _ _).drew;replace YW:=ι (YW.out.below hV0);replace KE:=ι (Rg.acc KE.out hV0);clear hV0;refine Rg.Any.begin (S:=Rg.Both 22 (fun _=>True) (fun W=>Below wd.heap.size wd W)) mix ?_;generalize we.drew=w81 at *;have hS:∀ (l:Array Bool) W,Below wd.heap.size wd W→Rg.Both 22 (fun _=>True) (fun W=>Below wd.heap.size wd W) l W:=fun l W h=>⟨.inr trivial,h⟩;have hI:=KE.out;refine Rg.tm 0 22 (.int .i64 ((k:Nat):Int)) 14 (hS _ _ hI) ?_;go_frame;refine Rg.tg 1 22 (.pointer (some ⟨cb,1,none⟩)) 15 rfl rfl (.inl ⟨rfl,fun w _=>exec_field _ rfl rfl (chF1 _ _)⟩) (hS _ _ hI) ?_;go_frame;refine Rg.tg 2 22 (.slice (some ⟨ob,oo,none⟩) n oc) 16 rfl rfl (Rg.yields_cell _ _ rfl rfl ⟨cb,1,none⟩ rfl (fun W hW=>Rg.run_loadSl _ _ Tryz.underlying27 ((Below.cell (p:=⟨cb,1,none⟩) hW B1.out.lt).trans B1.out.cell))) (hS _ _ hI) ?_;go_frame
      refine Rg.tm 3 22 (.int .i64 ((i:Nat):Int)) 17 (hS _ _ hI) ?_;go_frame;refine Rg.tg 4 22 (.pointer (some ⟨ob,oo+i,none⟩)) 18 rfl rfl (Rg.yields_index slIntss _ _ rfl rfl ob (oo) (n) oc (i) rfl rfl hin) (hS _ _ hI) ?_;go_frame;refine Rg.tg 5 22 (.slice (some ⟨ob2,oo2,none⟩) ol.length qc) 19 rfl rfl (Rg.yields_cell _ _ rfl rfl ⟨ob,oo+i,none⟩ rfl (fun W hW=>Rg.run_loadSl _ _ Tryz.underlying36 ((Below.cell (p:=⟨ob,oo+i,none⟩) hW CO.out.lt).trans CO.out.cell))) (hS _ _ hI) ?_;go_frame;refine Rg.tg 6 22 (.int .i64 ((ol.length:Nat):Int)) 20 rfl rfl (.inl ⟨rfl,fun w _=>exec_len _ _ _ rfl Tryz.underlying36 _ _ _ rfl⟩) (hS _ _ hI) ?_;go_frame;refine Rg.tg 7 22 (.bool true) 21 rfl rfl (.inl ⟨rfl,fun w _=>exec_bin (R:=.bool true) .lss _ _ _ rfl rfl rfl (b_lss _ (decide_eq_true (by omega)))⟩) (hS _ _ hI) ?_;go_frame;refine Rg.tm 8 22 (.bool true) 22 (hS _ _ hI) ?_;go_frame
      refine Rg.tg 9 22 (.pointer (some ⟨cb,1,none⟩)) 23 rfl rfl (.inl ⟨rfl,fun w _=>exec_field _ rfl rfl (chF1 _ _)⟩) (hS _ _ hI) ?_;go_frame;refine Rg.tg 10 22 (.slice (some ⟨ob,oo,none⟩) n oc) 24 rfl rfl (Rg.yields_cell _ _ rfl rfl ⟨cb,1,none⟩ rfl (fun W hW=>Rg.run_loadSl _ _ Tryz.underlying27 ((Below.cell (p:=⟨cb,1,none⟩) hW B1.out.lt).trans B1.out.cell))) (hS _ _ hI) ?_;go_frame;refine Rg.tm 11 22 (.int .i64 ((i:Nat):Int)) 25 (hS _ _ hI) ?_;go_frame;refine Rg.tg 12 22 (.pointer (some ⟨ob,oo+i,none⟩)) 26 rfl rfl (Rg.yields_index slIntss _ _ rfl rfl ob (oo) (n) oc (i) rfl rfl hin) (hS _ _ hI) ?_;go_frame;refine Rg.tg 13 22 (.slice (some ⟨ob2,oo2,none⟩) ol.length qc) 27 rfl rfl (Rg.yields_cell _ _ rfl rfl ⟨ob,oo+i,none⟩ rfl (fun W hW=>Rg.run_loadSl _ _ Tryz.underlying36 ((Below.cell (p:=⟨ob,oo+i,none⟩) hW CO.out.lt).trans CO.out.cell))) (hS _ _ hI) ?_;go_frame
      refine Rg.tm 14 22 (.int .i64 ((k:Nat):Int)) 28 (hS _ _ hI) ?_;go_frame;refine Rg.tg 15 22 (.pointer (some ⟨ob2,oo2+k,none⟩)) 29 rfl rfl (Rg.yields_index slInts _ _ rfl rfl ob2 (oo2) (ol.length) qc (k) rfl rfl HKL.out) (hS _ _ hI) ?_;go_frame;refine Rg.tg 16 22 (.int .i64 ((p:Nat):Int)) 30 rfl rfl (Rg.yields_cell _ _ rfl rfl ⟨ob2,oo2+k,none⟩ rfl (fun W hW=>run_loadInt ((Below.cell (p:=⟨ob2,oo2+k,none⟩) hW CP.out.lt).trans CP.out.cell))) (hS _ _ hI) ?_;go_frame;refine Rg.tm 17 22 (.slice (some ⟨yb,yo,none⟩) n yc) 31 (hS _ _ hI) ?_;go_frame;refine Rg.tm 18 22 (.int .i64 ((i:Nat):Int)) 32 (hS _ _ hI) ?_;go_frame;refine Rg.tg 19 22 (.pointer (some ⟨yb,yo+i,none⟩)) 33 rfl rfl (Rg.yields_index slPerm _ _ rfl rfl yb (yo) (n) yc (i) rfl rfl hin) (hS _ _ hI) ?_;go_frame;refine Rg.tg 20 22 (.int .i64 ((q:Nat):Int)) 34 rfl rfl (Rg.yields_cell _ _ rfl rfl ⟨yb,yo+i,none⟩ rfl (fun W hW=>run_loadInt ((Below.cell (p:=⟨yb,yo+i,none⟩) hW CY.out.lt).trans CY.out.cell))) (hS _ _ hI) ?_;go_frame
      refine Rg.tg 21 22 (.bool true) 35 rfl rfl (.inl ⟨rfl,fun w _=>exec_bin (R:=.bool true) .neq _ _ _ rfl rfl rfl (b_neqB _ (decide_eq_true (by omega)))⟩) (hS _ _ hI) ?_;go_frame;refine Rg.Any.one (i:=22) (by kernel_rfl) (Rg.Any.run (some 36) rfl rfl rfl (exec_pickT (v:=.bool true) _ _ _ rfl rfl rfl) (hS _ _ hI) ?_);go_frame;refine Rg.Any.done (by kernel_rfl) ?_ _;replace KE:=ι hI;clear hS hI;go_upto_region 6 with (fail);refine Rg.wl ?_;refine Rg.lm 37 (.int .i64 ((k:Nat):Int)) ?_;go_frame;refine Rg.lr 38 (exec_bin (R:=.int .i64 (((k+1):Nat):Int)) .add _ _ _ rfl rfl rfl (b_add _ (by omega) (by omega))) ?_;go_frame;refine Rg.la 7 (.int .i64 (((k+1):Nat):Int)) ?_;go_frame;go_wp2
      go_roundw
      case rel=>exact ⟨k+1,by go_num,HKL.out,HN2,KE⟩
      case measure=>simp [intOf]; have:=HKL.out; omega
     case pos =>
      have hkr:k<rl.length:=by rw [HLEN.out]; exact hkl
      obtain ⟨ub,uo,sa0,sc,e1,hub,huc,hus⟩:=rows_get RI.out (i:=k) (by rw [List.length_map]; exact hkr);subst e1;obtain ⟨s,hs⟩:∃ s:List Nat,Hid (rl[k]'hkr=s):=⟨_,ι rfl⟩;rw [List.getElem_map,hs.out] at huc hus
      have HTS:=ι (show trC O R i (ap y i)=some s by
       have hm:q∈O.getD i []:=by rw [hol.out,← hpq,← hp.out]; exact List.getElem_mem _
       have hidx:ol.idxOf q=k:=by
        rw [← hpq,← hp.out];exact idx_nodup (HASC.out.imp fun {a b} h=>Nat.ne_of_lt h) hkl
       rw [hq.out,trC_some (R:=R) hm,hol.out,hidx,hrl.out,← hs.out,List.getD_eq_getElem?_getD,List.getElem?_eq_getElem hkr]; rfl)
      have GS:=ι (HTG.out i _ s hin HTS.out);have CS:=ι (CL.mk huc hub);have SV:=ι (NpI.mk (Rg.Ints.below hus KE.out));have HKR:=ι hkr
      have HSF2:=ι (show siF (trC O R) (List.range (i+1)) x=some (Ma.mulN y (Ma.invN s)) by
       rw [List.range_succ]
       exact siF_snoc _ _ _ _ HSF.out HTS.out)
      clear huc hus hub;go_upto_region 5 with (fail);have hV0:Below we.heap.size we we.drew:=(Below.refl _ _).drew;replace YW:=ι (YW.out.below hV0);replace SV:=ι (SV.out.below hV0);replace KE:=ι (Rg.acc KE.out hV0);clear hV0;refine Rg.Any.begin (S:=Rg.Both 22 (fun _=>True) (fun W=>Below wd.heap.size wd W)) mix ?_;generalize we.drew=w111 at *;have hS:∀ (l:Array Bool) W,Below wd.heap.size wd W→Rg.Both 22 (fun _=>True) (fun W=>Below wd.heap.size wd W) l W:=fun l W h=>⟨.inr trivial,h⟩;have hI:=KE.out;refine Rg.tm 0 22 (.int .i64 ((k:Nat):Int)) 14 (hS _ _ hI) ?_;go_frame;refine Rg.tg 1 22 (.pointer (some ⟨cb,1,none⟩)) 15 rfl rfl (.inl ⟨rfl,fun w _=>exec_field _ rfl rfl (chF1 _ _)⟩) (hS _ _ hI) ?_;go_frame;refine Rg.tg 2 22 (.slice (some ⟨ob,oo,none⟩) n oc) 16 rfl rfl (Rg.yields_cell _ _ rfl rfl ⟨cb,1,none⟩ rfl (fun W hW=>Rg.run_loadSl _ _ Tryz.underlying27 ((Below.cell (p:=⟨cb,1,none⟩) hW B1.out.lt).trans B1.out.cell))) (hS _ _ hI) ?_;go_frame
      refine Rg.tm 3 22 (.int .i64 ((i:Nat):Int)) 17 (hS _ _ hI) ?_;go_frame;refine Rg.tg 4 22 (.pointer (some ⟨ob,oo+i,none⟩)) 18 rfl rfl (Rg.yields_index slIntss _ _ rfl rfl ob (oo) (n) oc (i) rfl rfl hin) (hS _ _ hI) ?_;go_frame;refine Rg.tg 5 22 (.slice (some ⟨ob2,oo2,none⟩) ol.length qc) 19 rfl rfl (Rg.yields_cell _ _ rfl rfl ⟨ob,oo+i,none⟩ rfl (fun W hW=>Rg.run_loadSl _ _ Tryz.underlying36 ((Below.cell (p:=⟨ob,oo+i,none⟩) hW CO.out.lt).trans CO.out.cell))) (hS _ _ hI) ?_;go_frame;refine Rg.tg 6 22 (.int .i64 ((ol.length:Nat):Int)) 20 rfl rfl (.inl ⟨rfl,fun w _=>exec_len _ _ _ rfl Tryz.underlying36 _ _ _ rfl⟩) (hS _ _ hI) ?_;go_frame;refine Rg.tg 7 22 (.bool true) 21 rfl rfl (.inl ⟨rfl,fun w _=>exec_bin (R:=.bool true) .lss _ _ _ rfl rfl rfl (b_lss _ (decide_eq_true (by omega)))⟩) (hS _ _ hI) ?_;go_frame;refine Rg.tm 8 22 (.bool true) 22 (hS _ _ hI) ?_;go_frame
      refine Rg.tg 9 22 (.pointer (some ⟨cb,1,none⟩)) 23 rfl rfl (.inl ⟨rfl,fun w _=>exec_field _ rfl rfl (chF1 _ _)⟩) (hS _ _ hI) ?_;go_frame;refine Rg.tg 10 22 (.slice (some ⟨ob,oo,none⟩) n oc) 24 rfl rfl (Rg.yields_cell _ _ rfl rfl ⟨cb,1,none⟩ rfl (fun W hW=>Rg.run_loadSl _ _ Tryz.underlying27 ((Below.cell (p:=⟨cb,1,none⟩) hW B1.out.lt).trans B1.out.cell))) (hS _ _ hI) ?_;go_frame;refine Rg.tm 11 22 (.int .i64 ((i:Nat):Int)) 25 (hS _ _ hI) ?_;go_frame;refine Rg.tg 12 22 (.pointer (some ⟨ob,oo+i,none⟩)) 26 rfl rfl (Rg.yields_index slIntss _ _ rfl rfl ob (oo) (n) oc (i) rfl rfl hin) (hS _ _ hI) ?_;go_frame;refine Rg.tg 13 22 (.slice (some ⟨ob2,oo2,none⟩) ol.length qc) 27 rfl rfl (Rg.yields_cell _ _ rfl rfl ⟨ob,oo+i,none⟩ rfl (fun W hW=>Rg.run_loadSl _ _ Tryz.underlying36 ((Below.cell (p:=⟨ob,oo+i,none⟩) hW CO.out.lt).trans CO.out.cell))) (hS _ _ hI) ?_;go_frame
      refine Rg.tm 14 22 (.int .i64 ((k:Nat):Int)) 28 (hS _ _ hI) ?_;go_frame;refine Rg.tg 15 22 (.pointer (some ⟨ob2,oo2+k,none⟩)) 29 rfl rfl (Rg.yields_index slInts _ _ rfl rfl ob2 (oo2) (ol.length) qc (k) rfl rfl HKL.out) (hS _ _ hI) ?_;go_frame;refine Rg.tg 16 22 (.int .i64 ((p:Nat):Int)) 30 rfl rfl (Rg.yields_cell _ _ rfl rfl ⟨ob2,oo2+k,none⟩ rfl (fun W hW=>run_loadInt ((Below.cell (p:=⟨ob2,oo2+k,none⟩) hW CP.out.lt).trans CP.out.cell))) (hS _ _ hI) ?_;go_frame;refine Rg.tm 17 22 (.slice (some ⟨yb,yo,none⟩) n yc) 31 (hS _ _ hI) ?_;go_frame;refine Rg.tm 18 22 (.int .i64 ((i:Nat):Int)) 32 (hS _ _ hI) ?_;go_frame;refine Rg.tg 19 22 (.pointer (some ⟨yb,yo+i,none⟩)) 33 rfl rfl (Rg.yields_index slPerm _ _ rfl rfl yb (yo) (n) yc (i) rfl rfl hin) (hS _ _ hI) ?_;go_frame;refine Rg.tg 20 22 (.int .i64 ((q:Nat):Int)) 34 rfl rfl (Rg.yields_cell _ _ rfl rfl ⟨yb,yo+i,none⟩ rfl (fun W hW=>run_loadInt ((Below.cell (p:=⟨yb,yo+i,none⟩) hW CY.out.lt).trans CY.out.cell))) (hS _ _ hI) ?_;go_frame
      refine Rg.tg 21 22 (.bool false) 35 rfl rfl (.inl ⟨rfl,fun w _=>exec_bin (R:=.bool false) .neq _ _ _ rfl rfl rfl (b_neqB _ (decide_eq_false (by omega)))⟩) (hS _ _ hI) ?_;go_frame;refine Rg.Any.one (i:=22) (by kernel_rfl) (Rg.Any.run (some 36) rfl rfl rfl (exec_pickT (v:=.bool false) _ _ _ rfl rfl rfl) (hS _ _ hI) ?_);go_frame;refine Rg.Any.done (by kernel_rfl) ?_ _;replace KE:=ι hI;clear hS hI;go_upto_region 7 with (fail);refine Rg.wl ?_;refine Rg.lm 39 (.int .i64 ((k:Nat):Int)) ?_;go_frame;refine Rg.lr 40 (exec_field _ rfl rfl (chF1 _ _)) ?_;go_frame;refine Rg.lr 41 (Rg.exec_load (v:=.slice (some ⟨ob,oo,none⟩) n oc) _ _ rfl ⟨cb,1,none⟩ rfl (Rg.run_loadSl _ _ Tryz.underlying27 ((Below.cell (p:=⟨cb,1,none⟩) KE.out B1.out.lt).trans B1.out.cell))) ?_;go_frame;refine Rg.lm 42 (.int .i64 ((i:Nat):Int)) ?_;go_frame;refine Rg.lr 43 (exec_indexS slIntss _ _ rfl ob (oo) (n) oc (i) rfl rfl hin) ?_;go_frame
      refine Rg.lr 44 (Rg.exec_load (v:=.slice (some ⟨ob2,oo2,none⟩) ol.length qc) _ _ rfl ⟨ob,oo+i,none⟩ rfl (Rg.run_loadSl _ _ Tryz.underlying36 ((Below.cell (p:=⟨ob,oo+i,none⟩) KE.out CO.out.lt).trans CO.out.cell))) ?_;go_frame;refine Rg.lr 45 (exec_len _ _ _ rfl Tryz.underlying36 _ _ _ rfl) ?_;go_frame;refine Rg.lr 46 (exec_bin (R:=.bool false) .eql _ _ _ rfl rfl rfl (b_eql _ (decide_eq_false (by omega)))) ?_;go_frame;go_upto_region 9 with (fail);refine Rg.wl ?_;refine Rg.lm 50 (.slice (some ⟨yb,yo,none⟩) n yc) ?_;go_frame;refine Rg.lr 51 (exec_field _ rfl rfl (chF2 _ _)) ?_;go_frame;refine Rg.lr 52 (Rg.exec_load (v:=.slice (some ⟨rb,ro,none⟩) n rc) _ _ rfl ⟨cb,2,none⟩ rfl (Rg.run_loadSl _ _ Tryz.underlying52 ((Below.cell (p:=⟨cb,2,none⟩) KE.out B2.out.lt).trans B2.out.cell))) ?_;go_frame;refine Rg.lm 53 (.int .i64 ((i:Nat):Int)) ?_;go_frame;refine Rg.lr 54 (exec_indexS slPermss _ _ rfl rb (ro) (n) rc (i) rfl rfl hin) ?_;go_frame
      refine Rg.lr 55 (Rg.exec_load (v:=.slice (some ⟨ub,uo,none⟩) rl.length uc) _ _ rfl ⟨rb,ro+i,none⟩ rfl (Rg.run_loadSl _ _ Tryz.underlying22 ((Below.cell (p:=⟨rb,ro+i,none⟩) KE.out CR.out.lt).trans CR.out.cell))) ?_;go_frame;refine Rg.lm 56 (.int .i64 ((k:Nat):Int)) ?_;go_frame;refine Rg.lr 57 (exec_indexS slPerms _ _ rfl ub (uo) (rl.length) uc (k) rfl rfl HKR.out) ?_;go_frame;refine Rg.lr 58 (Rg.exec_load (v:=.slice sa0 (Ma.ofN s).length sc) _ _ rfl ⟨ub,uo+k,none⟩ rfl (Rg.run_loadSl _ _ Tryz.underlying51 ((Below.cell (p:=⟨ub,uo+k,none⟩) KE.out CS.out.lt).trans CS.out.cell))) ?_;go_frame;refine list_ask (some 59) rfl rfl _ _ (exec_fn1 146 _ _ rfl rfl (Wfcl0 _ _)) ?_;refine (kitInv_any _ s w111 SV.out.i GS.out.1 (by rw [GS.out.2]; omega)).mono ?_;rintro e1 w112 ⟨iv,rfl,hiv,hb⟩;have hin2:=hiv.1;clear hiv;refine ⟨_,rfl,?_⟩;go_frame;replace YW:=ι (YW.out.below hb)
      replace SV:=ι (SV.out.below hb);replace KE:=ι (Rg.acc KE.out hb);clear hb;have IV:=ι (NpI.mk hin2);refine list_ask (some 60) rfl rfl _ _ (exec_fn 72 _ _ _ rfl rfl rfl (Wfcl1 _ _)) ?_;refine (kitMul_any _ _ y (Ma.invN s) w112 YW.out.i IV.out.i (fun z hz=>by rw [(Cm.gd_inv GS.out).2]; exact gd_mem GY.out hz) (by rw [GY.out.2]; omega)).mono ?_;rintro e1 w113 ⟨mv,rfl,hmv,hb⟩;have hmn:=hmv.1;clear hmv;refine ⟨_,rfl,?_⟩;go_frame;replace YW:=ι (YW.out.below hb);replace SV:=ι (SV.out.below hb);replace IV:=ι (IV.out.below hb);replace KE:=ι (Rg.acc KE.out hb);clear hb;have MV:=ι (NpI.mk hmn);refine Rg.la 1 (mv) ?_;go_frame;go_upto_region 3 with (fail);refine Rg.wl ?_;refine Rg.lm 12 (.int .i64 ((i:Nat):Int)) ?_;go_frame;refine Rg.lr 13 (exec_bin (R:=.int .i64 (((i+1):Nat):Int)) .add _ _ _ rfl rfl rfl (b_add _ (by omega) (by omega))) ?_;go_frame;refine Rg.la 6 (.int .i64 (((i+1):Nat):Int)) ?_;go_frame
      go_wp2
      go_roundw
      case rel=>exact ⟨i+1,_,by go_num,HIN.out,MV,HSF2,ι (Rg.acc K9.out KE.out)⟩
      case measure=>simp [intOf]; have:=HIN.out; omega

theorem Kbcl0 (args:Array Value) (w:World):(callFunc 22 args).run Tryz.prog w=.ok (.enter 22 args) w:=by kernel_rfl
theorem SameChain_d {n n':Int} {ov rv ov' rv':Value} {OO OO':List (List Int)} {RR RR':List (List (List Int))} {w:World} {b:Bool} (h1:ChEqR w ov rv OO RR) (h2:ChEqR w ov' rv' OO' RR') (hb:Hid (b=true↔(n=n'∧OO=OO'∧RR=RR'))) :
  Calls Tryz.prog 50 #[.agg #[.int .i64 n,ov,rv],.agg #[.int .i64 n',ov',rv']] w fun e w'=>e=.returned (.bool b)∧Below w.heap.size w w':=by
 obtain ⟨oa,oc,rfl,_⟩:=h1.1.shape;obtain ⟨ra,rc,rfl⟩:=h1.2.shape;obtain ⟨oe,od,rfl,_⟩:=h2.1.shape;obtain ⟨re,rd,rfl⟩:=h2.2.shape
 have hrl:RR.length≤1000000000:=by
  obtain ⟨us,⟨_,_,_,_,_,h4,_⟩,h5,_⟩:=h1.2;have:us.length≤Rg.big:=h4;unfold Rg.big at this; omega
 have hrl':RR'.length≤1000000000:=by
  obtain ⟨us,⟨_,_,_,_,_,h4,_⟩,h5,_⟩:=h2.2;have:us.length≤Rg.big:=h4;unfold Rg.big at this; omega
 have H1:=ι h1;have H2:=ι h2;have hbx:=box3 w (.int .i64 n) (.slice oa OO.length oc) (.slice ra RR.length rc);have hbb:Below w.heap.size w (w.alloc (.cells #[.int .i64 n,.slice oa OO.length oc,.slice ra RR.length rc] 54)):=(Below.refl _ _).alloc (Nat.le_refl _) _;clear h1 h2
 go_enter Tryz.func50,Tryz.ntmps50
 obtain ⟨ca,hca⟩:∃ ca,w.heap.size=ca:=⟨_,rfl⟩;rw [hca] at hbx;go_upto_region 0 with (fail);refine Rg.wl ?_;refine Rg.lr 2 (Rg.exec_box _ _ rfl rfl) ?_;go_frame;rw [hca];generalize w.alloc (.cells #[.int .i64 n,.slice oa OO.length oc,.slice ra RR.length rc] 54)=w0 at *;have hbx2:=box3 w0 (.int .i64 n') (.slice oe OO'.length od) (.slice re RR'.length rd);have hb2:Below w0.heap.size w0 (w0.alloc (.cells #[.int .i64 n',.slice oe OO'.length od,.slice re RR'.length rd] 54)):=(Below.refl _ _).alloc (Nat.le_refl _) _;obtain ⟨cb,hcb⟩:∃ cb,w0.heap.size=cb:=⟨_,rfl⟩;rw [hcb] at hbx2;refine Rg.lr 3 (Rg.exec_box _ _ rfl rfl) ?_;go_frame;rw [hcb];refine Rg.la 4 (.bool false) ?_;go_frame;generalize w0.alloc (.cells #[.int .i64 n',.slice oe OO'.length od,.slice re RR'.length rd] 54)=w1 at *;have HWB:=ι (Rg.acc hbb hb2);have A0:=ι (hbx.1.up hb2);have A1:=ι (hbx.2.1.up hb2)
 have A2:=ι (hbx.2.2.up hb2);have B0:=ι hbx2.1;have B1:=ι hbx2.2.1;have B2:=ι hbx2.2.2;have HO1:=ι (RsO.mk (Rg.Rows.below H1.out.1 HWB.out));have HO2:=ι (RsO.mk (Rg.Rows.below H2.out.1 HWB.out));have HR1:=ι (H1.out.2.below HWB.out);have HR2:=ι (H2.out.2.below HWB.out);have K:=ι (Below.refl w1.heap.size w1);clear hbx hbx2 hbb hb2 hca hcb H1 H2
 by_cases hn:n=n'
 case neg =>
  have HBF:=ι (show b=false from by
   cases e:b with
   | false=>rfl
   | true=>exact absurd ((hb.out.1 e).1) (by assumption))
  go_upto_region 1 with (fail);refine Rg.wl ?_;refine Rg.lr 6 (exec_field _ rfl rfl (chF0 _ _)) ?_;go_frame;refine Rg.lr 7 (Rg.exec_load (v:=.int .i64 n) _ _ rfl ⟨ca,0,none⟩ rfl (run_loadInt ((Below.cell (p:=⟨ca,0,none⟩) K.out A0.out.lt).trans A0.out.cell))) ?_;go_frame;refine Rg.lr 8 (exec_field _ rfl rfl (chF0 _ _)) ?_;go_frame;refine Rg.lr 9 (Rg.exec_load (v:=.int .i64 n') _ _ rfl ⟨cb,0,none⟩ rfl (run_loadInt ((Below.cell (p:=⟨cb,0,none⟩) K.out B0.out.lt).trans B0.out.cell))) ?_;go_frame;refine Rg.lr 10 (exec_bin (R:=.bool true) .neq _ _ _ rfl rfl rfl (b_neqB _ (decide_eq_true hn))) ?_;go_frame;refine Rg.lm 11 (.bool true) ?_;go_frame;refine listW_pass (some 12) (by kernel_rfl) rfl ?_;go_frame;refine listW_pass (some 13) (by kernel_rfl) rfl ?_;go_frame;refine listW_pass (some 14) (by kernel_rfl) rfl ?_;go_frame;refine listW_pass (some 15) (by kernel_rfl) rfl ?_;go_frame
  refine listW_pass (some 16) (by kernel_rfl) rfl ?_;go_frame;refine listW_pass (some 17) (by kernel_rfl) rfl ?_;go_frame;refine Rg.lr 18 (exec_pickT (v:=.bool true) _ _ _ rfl rfl rfl) ?_;go_frame;refine Rg.lm 19 (.bool true) ?_;go_frame;refine listW_pass (some 20) (by kernel_rfl) rfl ?_;go_frame;refine listW_pass (some 21) (by kernel_rfl) rfl ?_;go_frame;refine listW_pass (some 22) (by kernel_rfl) rfl ?_;go_frame;refine listW_pass (some 23) (by kernel_rfl) rfl ?_;go_frame;refine listW_pass (some 24) (by kernel_rfl) rfl ?_;go_frame;refine listW_pass (some 25) (by kernel_rfl) rfl ?_;go_frame;refine listW_pass (some 26) (by kernel_rfl) rfl ?_;go_frame;refine Rg.lr 27 (exec_pickT (v:=.bool true) _ _ _ rfl rfl rfl) ?_;go_frame;go_upto_region 2 with (fail);refine Rg.wl ?_;refine Rg.la 4 (.bool false) ?_;go_frame;go_wp2;go_ret;exact ⟨by rw [HBF.out]; rfl,Rg.acc HWB.out K.out⟩
 case pos =>
  obtain ⟨bo,hbo⟩:∃ t,Hid (decide (OO=OO')=t):=⟨_,ι rfl⟩
  cases bo
  case false =>
   have hon:¬ OO=OO':=of_decide_eq_false hbo.out
   have HBF:=ι (show b=false from by
    cases e:b with
    | false=>rfl
    | true=>exact absurd ((hb.out.1 e).2.1) (by assumption))
   go_upto_region 1 with (fail);refine Rg.wl ?_;refine Rg.lr 6 (exec_field _ rfl rfl (chF0 _ _)) ?_;go_frame;refine Rg.lr 7 (Rg.exec_load (v:=.int .i64 n) _ _ rfl ⟨ca,0,none⟩ rfl (run_loadInt ((Below.cell (p:=⟨ca,0,none⟩) K.out A0.out.lt).trans A0.out.cell))) ?_;go_frame;refine Rg.lr 8 (exec_field _ rfl rfl (chF0 _ _)) ?_;go_frame;refine Rg.lr 9 (Rg.exec_load (v:=.int .i64 n') _ _ rfl ⟨cb,0,none⟩ rfl (run_loadInt ((Below.cell (p:=⟨cb,0,none⟩) K.out B0.out.lt).trans B0.out.cell))) ?_;go_frame;refine Rg.lr 10 (exec_bin (R:=.bool false) .neq _ _ _ rfl rfl rfl (b_neqB _ (decide_eq_false (fun h=>h hn)))) ?_;go_frame;refine Rg.lm 11 (.bool false) ?_;go_frame;refine listW_run (some 12) rfl rfl (exec_field _ rfl rfl (chF1 _ _)) ?_;go_frame;refine listW_run (some 13) rfl rfl (Rg.exec_load (v:=.slice oa OO.length oc) _ _ rfl ⟨ca,1,none⟩ rfl (Rg.run_loadSl _ _ Tryz.underlying27 ((Below.cell (p:=⟨ca,1,none⟩) K.out A1.out.lt).trans A1.out.cell))) ?_;go_frame
   refine listW_run (some 14) rfl rfl (exec_field _ rfl rfl (chF1 _ _)) ?_;go_frame;refine listW_run (some 15) rfl rfl (Rg.exec_load (v:=.slice oe OO'.length od) _ _ rfl ⟨cb,1,none⟩ rfl (Rg.run_loadSl _ _ Tryz.underlying27 ((Below.cell (p:=⟨cb,1,none⟩) K.out B1.out.lt).trans B1.out.cell))) ?_;go_frame;refine listW_ask (some 16) rfl rfl _ _ (exec_fn 22 _ _ _ rfl rfl rfl (Kbcl0 _ _)) ?_;refine (SameLists_b (HO1.out.below K.out).r (HO2.out.below K.out).r hbo).mono ?_;rintro e1 w22 ⟨rfl,hb⟩;refine ⟨_,rfl,?_⟩;go_frame;replace K:=ι (Rg.acc K.out hb);clear hb;refine listW_run (some 17) rfl rfl (exec_not _ _ false rfl rfl) ?_;go_frame;refine Rg.lr 18 (exec_pickF (v:=.bool true) _ _ _ rfl rfl rfl) ?_;go_frame;refine Rg.lm 19 (.bool true) ?_;go_frame;refine listW_pass (some 20) (by kernel_rfl) rfl ?_;go_frame;refine listW_pass (some 21) (by kernel_rfl) rfl ?_;go_frame;refine listW_pass (some 22) (by kernel_rfl) rfl ?_;go_frame
   refine listW_pass (some 23) (by kernel_rfl) rfl ?_;go_frame;refine listW_pass (some 24) (by kernel_rfl) rfl ?_;go_frame;refine listW_pass (some 25) (by kernel_rfl) rfl ?_;go_frame;refine listW_pass (some 26) (by kernel_rfl) rfl ?_;go_frame;refine Rg.lr 27 (exec_pickT (v:=.bool true) _ _ _ rfl rfl rfl) ?_;go_frame;go_upto_region 2 with (fail);refine Rg.wl ?_;refine Rg.la 4 (.bool false) ?_;go_frame;go_wp2;go_ret;exact ⟨by rw [HBF.out]; rfl,Rg.acc HWB.out K.out⟩
  case true =>
   have hoy:OO=OO':=of_decide_eq_true hbo.out;have HOY:=ι hoy;have HNY:=ι hn
   by_cases hlen:RR.length=RR'.length
   case neg =>
    have hrn:¬ RR=RR':=fun e=>hlen (by rw [e])
    have HBF:=ι (show b=false from by
     cases e:b with
     | false=>rfl
     | true=>exact absurd ((hb.out.1 e).2.2) (by assumption))
    go_upto_region 1 with (fail);refine Rg.wl ?_;refine Rg.lr 6 (exec_field _ rfl rfl (chF0 _ _)) ?_;go_frame;refine Rg.lr 7 (Rg.exec_load (v:=.int .i64 n) _ _ rfl ⟨ca,0,none⟩ rfl (run_loadInt ((Below.cell (p:=⟨ca,0,none⟩) K.out A0.out.lt).trans A0.out.cell))) ?_;go_frame;refine Rg.lr 8 (exec_field _ rfl rfl (chF0 _ _)) ?_;go_frame;refine Rg.lr 9 (Rg.exec_load (v:=.int .i64 n') _ _ rfl ⟨cb,0,none⟩ rfl (run_loadInt ((Below.cell (p:=⟨cb,0,none⟩) K.out B0.out.lt).trans B0.out.cell))) ?_;go_frame;refine Rg.lr 10 (exec_bin (R:=.bool false) .neq _ _ _ rfl rfl rfl (b_neqB _ (decide_eq_false (fun h=>h hn)))) ?_;go_frame;refine Rg.lm 11 (.bool false) ?_;go_frame;refine listW_run (some 12) rfl rfl (exec_field _ rfl rfl (chF1 _ _)) ?_;go_frame;refine listW_run (some 13) rfl rfl (Rg.exec_load (v:=.slice oa OO.length oc) _ _ rfl ⟨ca,1,none⟩ rfl (Rg.run_loadSl _ _ Tryz.underlying27 ((Below.cell (p:=⟨ca,1,none⟩) K.out A1.out.lt).trans A1.out.cell))) ?_;go_frame
    refine listW_run (some 14) rfl rfl (exec_field _ rfl rfl (chF1 _ _)) ?_;go_frame;refine listW_run (some 15) rfl rfl (Rg.exec_load (v:=.slice oe OO'.length od) _ _ rfl ⟨cb,1,none⟩ rfl (Rg.run_loadSl _ _ Tryz.underlying27 ((Below.cell (p:=⟨cb,1,none⟩) K.out B1.out.lt).trans B1.out.cell))) ?_;go_frame;refine listW_ask (some 16) rfl rfl _ _ (exec_fn 22 _ _ _ rfl rfl rfl (Kbcl0 _ _)) ?_;refine (SameLists_b (HO1.out.below K.out).r (HO2.out.below K.out).r hbo).mono ?_;rintro e1 w33 ⟨rfl,hb⟩;refine ⟨_,rfl,?_⟩;go_frame;replace K:=ι (Rg.acc K.out hb);clear hb;refine listW_run (some 17) rfl rfl (exec_not _ _ true rfl rfl) ?_;go_frame;refine Rg.lr 18 (exec_pickF (v:=.bool false) _ _ _ rfl rfl rfl) ?_;go_frame;refine Rg.lm 19 (.bool false) ?_;go_frame;refine listW_run (some 20) rfl rfl (exec_field _ rfl rfl (chF2 _ _)) ?_;go_frame;refine listW_run (some 21) rfl rfl (Rg.exec_load (v:=.slice ra RR.length rc) _ _ rfl ⟨ca,2,none⟩ rfl (Rg.run_loadSl _ _ Tryz.underlying52 ((Below.cell (p:=⟨ca,2,none⟩) K.out A2.out.lt).trans A2.out.cell))) ?_;go_frame
    refine listW_run (some 22) rfl rfl (exec_len _ _ _ rfl Tryz.underlying52 _ _ _ rfl) ?_;go_frame;refine listW_run (some 23) rfl rfl (exec_field _ rfl rfl (chF2 _ _)) ?_;go_frame;refine listW_run (some 24) rfl rfl (Rg.exec_load (v:=.slice re RR'.length rd) _ _ rfl ⟨cb,2,none⟩ rfl (Rg.run_loadSl _ _ Tryz.underlying52 ((Below.cell (p:=⟨cb,2,none⟩) K.out B2.out.lt).trans B2.out.cell))) ?_;go_frame;refine listW_run (some 25) rfl rfl (exec_len _ _ _ rfl Tryz.underlying52 _ _ _ rfl) ?_;go_frame;refine listW_run (some 26) rfl rfl (exec_bin (R:=.bool true) .neq _ _ _ rfl rfl rfl (b_neqB _ (decide_eq_true (by omega)))) ?_;go_frame;refine Rg.lr 27 (exec_pickF (v:=.bool true) _ _ _ rfl rfl rfl) ?_;go_frame;go_upto_region 2 with (fail);refine Rg.wl ?_;refine Rg.la 4 (.bool false) ?_;go_frame;go_wp2;go_ret;exact ⟨by rw [HBF.out]; rfl,Rg.acc HWB.out K.out⟩
   case pos =>
    have HLEN:=ι hlen;have hl1:RR.length≤RR'.length:=Nat.le_of_eq hlen;have hl2:RR'.length≤RR.length:=Nat.le_of_eq hlen.symm;go_upto_region 1 with (fail);refine Rg.wl ?_;refine Rg.lr 6 (exec_field _ rfl rfl (chF0 _ _)) ?_;go_frame;refine Rg.lr 7 (Rg.exec_load (v:=.int .i64 n) _ _ rfl ⟨ca,0,none⟩ rfl (run_loadInt ((Below.cell (p:=⟨ca,0,none⟩) K.out A0.out.lt).trans A0.out.cell))) ?_;go_frame;refine Rg.lr 8 (exec_field _ rfl rfl (chF0 _ _)) ?_;go_frame;refine Rg.lr 9 (Rg.exec_load (v:=.int .i64 n') _ _ rfl ⟨cb,0,none⟩ rfl (run_loadInt ((Below.cell (p:=⟨cb,0,none⟩) K.out B0.out.lt).trans B0.out.cell))) ?_;go_frame;refine Rg.lr 10 (exec_bin (R:=.bool false) .neq _ _ _ rfl rfl rfl (b_neqB _ (decide_eq_false (fun h=>h hn)))) ?_;go_frame;refine Rg.lm 11 (.bool false) ?_;go_frame;refine listW_run (some 12) rfl rfl (exec_field _ rfl rfl (chF1 _ _)) ?_;go_frame;refine listW_run (some 13) rfl rfl (Rg.exec_load (v:=.slice oa OO.length oc) _ _ rfl ⟨ca,1,none⟩ rfl (Rg.run_loadSl _ _ Tryz.underlying27 ((Below.cell (p:=⟨ca,1,none⟩) K.out A1.out.lt).trans A1.out.cell))) ?_;go_frame
    refine listW_run (some 14) rfl rfl (exec_field _ rfl rfl (chF1 _ _)) ?_;go_frame;refine listW_run (some 15) rfl rfl (Rg.exec_load (v:=.slice oe OO'.length od) _ _ rfl ⟨cb,1,none⟩ rfl (Rg.run_loadSl _ _ Tryz.underlying27 ((Below.cell (p:=⟨cb,1,none⟩) K.out B1.out.lt).trans B1.out.cell))) ?_;go_frame;refine listW_ask (some 16) rfl rfl _ _ (exec_fn 22 _ _ _ rfl rfl rfl (Kbcl0 _ _)) ?_;refine (SameLists_b (HO1.out.below K.out).r (HO2.out.below K.out).r hbo).mono ?_;rintro e1 w54 ⟨rfl,hb⟩;refine ⟨_,rfl,?_⟩;go_frame;replace K:=ι (Rg.acc K.out hb);clear hb;refine listW_run (some 17) rfl rfl (exec_not _ _ true rfl rfl) ?_;go_frame;refine Rg.lr 18 (exec_pickF (v:=.bool false) _ _ _ rfl rfl rfl) ?_;go_frame;refine Rg.lm 19 (.bool false) ?_;go_frame;refine listW_run (some 20) rfl rfl (exec_field _ rfl rfl (chF2 _ _)) ?_;go_frame;refine listW_run (some 21) rfl rfl (Rg.exec_load (v:=.slice ra RR.length rc) _ _ rfl ⟨ca,2,none⟩ rfl (Rg.run_loadSl _ _ Tryz.underlying52 ((Below.cell (p:=⟨ca,2,none⟩) K.out A2.out.lt).trans A2.out.cell))) ?_;go_frame
    refine listW_run (some 22) rfl rfl (exec_len _ _ _ rfl Tryz.underlying52 _ _ _ rfl) ?_;go_frame;refine listW_run (some 23) rfl rfl (exec_field _ rfl rfl (chF2 _ _)) ?_;go_frame;refine listW_run (some 24) rfl rfl (Rg.exec_load (v:=.slice re RR'.length rd) _ _ rfl ⟨cb,2,none⟩ rfl (Rg.run_loadSl _ _ Tryz.underlying52 ((Below.cell (p:=⟨cb,2,none⟩) K.out B2.out.lt).trans B2.out.cell))) ?_;go_frame;refine listW_run (some 25) rfl rfl (exec_len _ _ _ rfl Tryz.underlying52 _ _ _ rfl) ?_;go_frame;refine listW_run (some 26) rfl rfl (exec_bin (R:=.bool false) .neq _ _ _ rfl rfl rfl (b_neqB _ (decide_eq_false (by omega)))) ?_;go_frame;refine Rg.lr 27 (exec_pickF (v:=.bool false) _ _ _ rfl rfl rfl) ?_;go_frame;go_upto_region 3 with (fail);refine Rg.wl ?_;refine Rg.la 5 (.int .i64 ((0:Nat):Int)) ?_;go_frame;have HEQ:=ι (show ∀ j (h:j<RR.length) (h':j<RR'.length),j<0→RR[j]=RR'[j] from fun j _ _ h=>absurd h (Nat.not_lt_zero _))
    clear hlen hoy hn;go_wp2
    go_loopw [5] (fun iv wr=>∃ i:Nat,iv=.int .i64 ((i:Nat):Int)∧i≤RR.length∧Hid (∀ j (h:j<RR.length) (h':j<RR'.length),j<i→RR[j]=RR'[j])∧Hid (Below w1.heap.size w1 wr)) (fun iv _=>RR.length - (intOf iv).toNat)
    case atStart=>exact ⟨0,rfl,Nat.zero_le _,HEQ,K⟩
    case round =>
     clear HEQ K;obtain ⟨i,rfl,hi,HEQ,K⟩:=hrel;generalize wr=wd at *
     by_cases hil:i<RR.length
     case neg =>
      have HBT:=ι (show b=true from hb.out.2 ⟨HNY.out,HOY.out,List.ext_getElem HLEN.out fun j h h'=>HEQ.out j h h' (by omega)⟩);go_upto_region 4 with (fail);refine Rg.wl ?_;refine Rg.lm 28 (.int .i64 ((i:Nat):Int)) ?_;go_frame;refine Rg.lr 29 (exec_field _ rfl rfl (chF2 _ _)) ?_;go_frame;refine Rg.lr 30 (Rg.exec_load (v:=.slice ra RR.length rc) _ _ rfl ⟨ca,2,none⟩ rfl (Rg.run_loadSl _ _ Tryz.underlying52 ((Below.cell (p:=⟨ca,2,none⟩) K.out A2.out.lt).trans A2.out.cell))) ?_;go_frame;refine Rg.lr 31 (exec_len _ _ _ rfl Tryz.underlying52 _ _ _ rfl) ?_;go_frame;refine Rg.lr 32 (exec_bin (R:=.bool false) .lss _ _ _ rfl rfl rfl (b_lss _ (decide_eq_false (by omega)))) ?_;go_frame;go_upto_region 8 with (fail);refine Rg.wl ?_;refine Rg.la 4 (.bool true) ?_;go_frame;go_wp2;go_ret;exact ⟨by rw [HBT.out]; rfl,Rg.acc HWB.out K.out⟩
     case pos =>
      have HIL:=ι hil
      have hil2:i<RR'.length:=by omega
      have HIL2:=ι hil2;obtain ⟨xb,xo,e1,xlt,u1,hu1,hr1⟩:=HR1.out.at' hil;subst e1;obtain ⟨yb,yo,e1,ylt,u2,hu2,hr2⟩:=HR2.out.at' hil2;subst e1;obtain ⟨x,hx⟩:∃ x,Hid (RR[i]'hil=x):=⟨_,ι rfl⟩;obtain ⟨y,hy⟩:∃ x,Hid (RR'[i]'hil2=x):=⟨_,ι rfl⟩;rw [hx.out] at hr1;rw [hy.out] at hr2;obtain ⟨pa,pc,rfl,_⟩:=hr1.shape;obtain ⟨pb,pd,rfl,_⟩:=hr2.shape;have CX:=ι (CL.mk hu1 xlt);have CY:=ι (CL.mk hu2 ylt);have RX:=ι (RsO.mk hr1);have RY:=ι (RsO.mk hr2);obtain ⟨t,ht⟩:∃ t,Hid (decide (x=y)=t):=⟨_,ι rfl⟩;clear hu1 hu2 hr1 hr2 xlt ylt
      cases t
      case false =>
       have HBF:=ι (show b=false from by
        cases e:b with
        | false=>rfl
        | true =>
         have h5:=(hb.out.1 e).2.2;subst h5;rw [hx.out] at hy
         exact absurd hy.out (of_decide_eq_false ht.out))
       go_upto_region 4 with (fail);refine Rg.wl ?_;refine Rg.lm 28 (.int .i64 ((i:Nat):Int)) ?_;go_frame;refine Rg.lr 29 (exec_field _ rfl rfl (chF2 _ _)) ?_;go_frame;refine Rg.lr 30 (Rg.exec_load (v:=.slice (some ⟨xb,xo,none⟩) RR.length rc) _ _ rfl ⟨ca,2,none⟩ rfl (Rg.run_loadSl _ _ Tryz.underlying52 ((Below.cell (p:=⟨ca,2,none⟩) K.out A2.out.lt).trans A2.out.cell))) ?_;go_frame;refine Rg.lr 31 (exec_len _ _ _ rfl Tryz.underlying52 _ _ _ rfl) ?_;go_frame;refine Rg.lr 32 (exec_bin (R:=.bool true) .lss _ _ _ rfl rfl rfl (b_lss _ (decide_eq_true (by omega)))) ?_;go_frame;go_upto_region 6 with (fail);have hV0:Below wd.heap.size wd wd.drew:=(Below.refl _ _).drew;replace K:=ι (Rg.acc K.out hV0);clear hV0;refine Rg.Any.begin (S:=Rg.Both 11 (fun _=>True) (fun W=>Below w1.heap.size w1 W)) mix ?_;generalize wd.drew=w85 at *;have hS:∀ (l:Array Bool) W,Below w1.heap.size w1 W→Rg.Both 11 (fun _=>True) (fun W=>Below w1.heap.size w1 W) l W:=fun l W h=>⟨.inr trivial,h⟩
       have hI:=K.out;refine Rg.tg 0 11 (.pointer (some ⟨ca,2,none⟩)) 35 rfl rfl (.inl ⟨rfl,fun w _=>exec_field _ rfl rfl (chF2 _ _)⟩) (hS _ _ hI) ?_;go_frame;refine Rg.tg 1 11 (.slice (some ⟨xb,xo,none⟩) RR.length rc) 36 rfl rfl (Rg.yields_cell _ _ rfl rfl ⟨ca,2,none⟩ rfl (fun W hW=>Rg.run_loadSl _ _ Tryz.underlying52 ((Below.cell (p:=⟨ca,2,none⟩) hW A2.out.lt).trans A2.out.cell))) (hS _ _ hI) ?_;go_frame;refine Rg.tm 2 11 (.int .i64 ((i:Nat):Int)) 37 (hS _ _ hI) ?_;go_frame;refine Rg.tg 3 11 (.pointer (some ⟨xb,xo+i,none⟩)) 38 rfl rfl (Rg.yields_index slPermss _ _ rfl rfl xb (xo) (RR.length) rc (i) rfl rfl HIL.out) (hS _ _ hI) ?_;go_frame;refine Rg.tg 4 11 (.slice pa x.length pc) 39 rfl rfl (Rg.yields_cell _ _ rfl rfl ⟨xb,xo+i,none⟩ rfl (fun W hW=>Rg.run_loadSl _ _ Tryz.underlying22 ((Below.cell (p:=⟨xb,xo+i,none⟩) hW CX.out.lt).trans CX.out.cell))) (hS _ _ hI) ?_;go_frame
       refine Rg.tg 5 11 (.pointer (some ⟨cb,2,none⟩)) 40 rfl rfl (.inl ⟨rfl,fun w _=>exec_field _ rfl rfl (chF2 _ _)⟩) (hS _ _ hI) ?_;go_frame;refine Rg.tg 6 11 (.slice (some ⟨yb,yo,none⟩) RR'.length rd) 41 rfl rfl (Rg.yields_cell _ _ rfl rfl ⟨cb,2,none⟩ rfl (fun W hW=>Rg.run_loadSl _ _ Tryz.underlying52 ((Below.cell (p:=⟨cb,2,none⟩) hW B2.out.lt).trans B2.out.cell))) (hS _ _ hI) ?_;go_frame;refine Rg.tm 7 11 (.int .i64 ((i:Nat):Int)) 42 (hS _ _ hI) ?_;go_frame;refine Rg.tg 8 11 (.pointer (some ⟨yb,yo+i,none⟩)) 43 rfl rfl (Rg.yields_index slPermss _ _ rfl rfl yb (yo) (RR'.length) rd (i) rfl rfl HIL2.out) (hS _ _ hI) ?_;go_frame;refine Rg.tg 9 11 (.slice pb y.length pd) 44 rfl rfl (Rg.yields_cell _ _ rfl rfl ⟨yb,yo+i,none⟩ rfl (fun W hW=>Rg.run_loadSl _ _ Tryz.underlying22 ((Below.cell (p:=⟨yb,yo+i,none⟩) hW CY.out.lt).trans CY.out.cell))) (hS _ _ hI) ?_;go_frame
       refine Rg.Any.one (i:=10) (by kernel_rfl) (Rg.Any.ask (some 45) rfl rfl rfl _ _ (exec_fn 51 _ _ _ rfl rfl rfl (Xdcl4 _ _)) ?_);refine (SamePerms_b (RX.out.below hI).r (RY.out.below hI).r ht).mono ?_;rintro e1 w86 ⟨rfl,hb⟩;have hI2_0:=Rg.acc hI hb;have hI2_1:=hb;clear hb hI;refine ⟨_,rfl,(hS _ _ hI2_0),?_⟩;go_frame;refine Rg.Any.one (i:=11) (by kernel_rfl) (Rg.Any.run (some 46) rfl rfl rfl (exec_not _ _ false rfl rfl) (hS _ _ hI2_0) ?_);go_frame;refine Rg.Any.done (by kernel_rfl) ?_ _;replace K:=ι hI2_0;clear hS hI2_0 hI2_1;go_upto_region 7 with (fail);refine Rg.wl ?_;refine Rg.la 4 (.bool false) ?_;go_frame;go_wp2;go_ret;exact ⟨by rw [HBF.out]; rfl,Rg.acc HWB.out K.out⟩
      case true =>
       have HE2:=ι (show ∀ j (h:j<RR.length) (h':j<RR'.length),j<i+1→RR[j]=RR'[j] from fun j h h' hj=>by
        by_cases e:j=i
        ·subst e; rw [hx.out,hy.out]; exact of_decide_eq_true ht.out
        ·exact HEQ.out j h h' (by omega))
       go_upto_region 4 with (fail);refine Rg.wl ?_;refine Rg.lm 28 (.int .i64 ((i:Nat):Int)) ?_;go_frame;refine Rg.lr 29 (exec_field _ rfl rfl (chF2 _ _)) ?_;go_frame;refine Rg.lr 30 (Rg.exec_load (v:=.slice (some ⟨xb,xo,none⟩) RR.length rc) _ _ rfl ⟨ca,2,none⟩ rfl (Rg.run_loadSl _ _ Tryz.underlying52 ((Below.cell (p:=⟨ca,2,none⟩) K.out A2.out.lt).trans A2.out.cell))) ?_;go_frame;refine Rg.lr 31 (exec_len _ _ _ rfl Tryz.underlying52 _ _ _ rfl) ?_;go_frame;refine Rg.lr 32 (exec_bin (R:=.bool true) .lss _ _ _ rfl rfl rfl (b_lss _ (decide_eq_true (by omega)))) ?_;go_frame;go_upto_region 6 with (fail);have hV0:Below wd.heap.size wd wd.drew:=(Below.refl _ _).drew;replace K:=ι (Rg.acc K.out hV0);clear hV0;refine Rg.Any.begin (S:=Rg.Both 11 (fun _=>True) (fun W=>Below w1.heap.size w1 W)) mix ?_;generalize wd.drew=w107 at *;have hS:∀ (l:Array Bool) W,Below w1.heap.size w1 W→Rg.Both 11 (fun _=>True) (fun W=>Below w1.heap.size w1 W) l W:=fun l W h=>⟨.inr trivial,h⟩
       have hI:=K.out;refine Rg.tg 0 11 (.pointer (some ⟨ca,2,none⟩)) 35 rfl rfl (.inl ⟨rfl,fun w _=>exec_field _ rfl rfl (chF2 _ _)⟩) (hS _ _ hI) ?_;go_frame;refine Rg.tg 1 11 (.slice (some ⟨xb,xo,none⟩) RR.length rc) 36 rfl rfl (Rg.yields_cell _ _ rfl rfl ⟨ca,2,none⟩ rfl (fun W hW=>Rg.run_loadSl _ _ Tryz.underlying52 ((Below.cell (p:=⟨ca,2,none⟩) hW A2.out.lt).trans A2.out.cell))) (hS _ _ hI) ?_;go_frame;refine Rg.tm 2 11 (.int .i64 ((i:Nat):Int)) 37 (hS _ _ hI) ?_;go_frame;refine Rg.tg 3 11 (.pointer (some ⟨xb,xo+i,none⟩)) 38 rfl rfl (Rg.yields_index slPermss _ _ rfl rfl xb (xo) (RR.length) rc (i) rfl rfl HIL.out) (hS _ _ hI) ?_;go_frame;refine Rg.tg 4 11 (.slice pa x.length pc) 39 rfl rfl (Rg.yields_cell _ _ rfl rfl ⟨xb,xo+i,none⟩ rfl (fun W hW=>Rg.run_loadSl _ _ Tryz.underlying22 ((Below.cell (p:=⟨xb,xo+i,none⟩) hW CX.out.lt).trans CX.out.cell))) (hS _ _ hI) ?_;go_frame
       refine Rg.tg 5 11 (.pointer (some ⟨cb,2,none⟩)) 40 rfl rfl (.inl ⟨rfl,fun w _=>exec_field _ rfl rfl (chF2 _ _)⟩) (hS _ _ hI) ?_;go_frame;refine Rg.tg 6 11 (.slice (some ⟨yb,yo,none⟩) RR'.length rd) 41 rfl rfl (Rg.yields_cell _ _ rfl rfl ⟨cb,2,none⟩ rfl (fun W hW=>Rg.run_loadSl _ _ Tryz.underlying52 ((Below.cell (p:=⟨cb,2,none⟩) hW B2.out.lt).trans B2.out.cell))) (hS _ _ hI) ?_;go_frame;refine Rg.tm 7 11 (.int .i64 ((i:Nat):Int)) 42 (hS _ _ hI) ?_;go_frame;refine Rg.tg 8 11 (.pointer (some ⟨yb,yo+i,none⟩)) 43 rfl rfl (Rg.yields_index slPermss _ _ rfl rfl yb (yo) (RR'.length) rd (i) rfl rfl HIL2.out) (hS _ _ hI) ?_;go_frame;refine Rg.tg 9 11 (.slice pb y.length pd) 44 rfl rfl (Rg.yields_cell _ _ rfl rfl ⟨yb,yo+i,none⟩ rfl (fun W hW=>Rg.run_loadSl _ _ Tryz.underlying22 ((Below.cell (p:=⟨yb,yo+i,none⟩) hW CY.out.lt).trans CY.out.cell))) (hS _ _ hI) ?_;go_frame
       refine Rg.Any.one (i:=10) (by kernel_rfl) (Rg.Any.ask (some 45) rfl rfl rfl _ _ (exec_fn 51 _ _ _ rfl rfl rfl (Xdcl4 _ _)) ?_);refine (SamePerms_b (RX.out.below hI).r (RY.out.below hI).r ht).mono ?_;rintro e1 w108 ⟨rfl,hb⟩;have hI3_0:=Rg.acc hI hb;have hI3_1:=hb;clear hb hI;refine ⟨_,rfl,(hS _ _ hI3_0),?_⟩;go_frame;refine Rg.Any.one (i:=11) (by kernel_rfl) (Rg.Any.run (some 46) rfl rfl rfl (exec_not _ _ true rfl rfl) (hS _ _ hI3_0) ?_);go_frame;refine Rg.Any.done (by kernel_rfl) ?_ _;replace K:=ι hI3_0;clear hS hI3_0 hI3_1;go_upto_region 5 with (fail);refine Rg.wl ?_;refine Rg.lm 33 (.int .i64 ((i:Nat):Int)) ?_;go_frame;refine Rg.lr 34 (exec_bin (R:=.int .i64 (((i+1):Nat):Int)) .add _ _ _ rfl rfl rfl (b_add _ (by omega) (by omega))) ?_;go_frame;refine Rg.la 5 (.int .i64 (((i+1):Nat):Int)) ?_;go_frame;go_wp2
       go_roundw
       case rel=>exact ⟨i+1,by go_num,HIL.out,HE2,K⟩
       case measure=>simp [intOf]; have:=HIL.out; omega
end Go.Proofs.YthehbckogieimaaGreat
