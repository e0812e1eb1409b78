/- Lemmas and contracts on the way to the statement; no condition of their own beyond those written. -/
import Derived.Test.YthehbckogieimaaGreatXAdtoZl
import Derived.RangeFuncWrites
import Derived.RangeFuncNested
import Derived.RangeFuncBox
import Derived.RangeFuncLeaves
import Derived.Shelf.Abstract
import Derived.OwnWalkIn
import Derived.TacticsInMore
import Derived.LoopNIn
import Derived.LoopIn
import Derived.Maps.AppendAt
import Derived.Sort.CutIn
import Derived.Deep.CutRange
import Derived.Deep.CutBlock
import Derived.IntWalk
import Derived.Great.BuildSlice
import Derived.ArgAppend
import Derived.Laws.CopyOwn
import Derived.StillTailTactics
import Derived.Deep.MidRow
import Derived.WalkSpells
import Derived.WalkLawsBesides
import Derived.OwnWalk
import Derived.OrdersHeld
import Derived.Deep.OwnRows
import Derived.WalkKit
import Derived.Lib.Hide
import Derived.Laws.OwnMore
import Derived.Test.YthehbckogieimaaGreatProg
import Derived.Outline
import Derived.Deep.DeepFit
import Derived.BigQuiet
import Derived.Deep.QuietTactic
import Derived.Sort.OwnSortedInts
import Derived.WideMake
import Derived.MapKept
import Derived.ChangeMaps5
import Derived.Shelf.Sort.Plain
import Derived.Lib.ConvBytes
import Derived.ChangeKeysEq
import Derived.Laws.Cells
import Derived.Laws.Rows
import Derived.Laws.Tables
import Derived.Deep.WholeRow
import Derived.OrdersIn
import Derived.TacticsIn
import Derived.Deep.LoopGhost
import Derived.Lib.SlicesSearch
set_option linter.unusedVariables false
set_option linter.unusedSimpArgs false
set_option maxRecDepth 100000
set_option maxHeartbeats 8000000
namespace Go.Proofs.YthehbckogieimaaGreat
open Go.RowKit
open Go.Proofs
open Go.Proofs.Ob
open Go.Proofs.Cm (Gd ap Gr IsChain)
attribute [local irreducible] Go.Calls Go.wpList
theorem Kccl1 (args:Array Value) (w:World):(callFunc 50 args).run Tryz.prog w=.ok (.enter 50 args) w:=by kernel_rfl
theorem chCode_no {n:Int} {OO:List (List Int)} {RR:List (List (List Int))} (h:1≤n∧n≤64) (hk:¬ ChOK n OO RR):chCode n OO RR=3:=by unfold chCode; rw [if_pos h,if_neg hk]
theorem chCode_out {n:Int} {OO:List (List Int)} {RR:List (List (List Int))} (h:¬ (1≤n∧n≤64)):chCode n OO RR=2:=by unfold chCode; rw [if_neg h]
theorem rows_el {w:World} {v:Value} {ll:List (List Int)} (h:Rg.Rows w v ll) {i:Nat} (hi:i<ll.length):∃ u,Rg.Ints w u ll[i]:=by
 obtain ⟨us,_,h2,h3⟩:=h;exact ⟨_,h3 i (by omega) hi⟩
structure CkL (w W:World) (v:Value) (gs:List (List Nat)):Prop where
 bel:Below w.heap.size w W
 row:RowH w.heap.size (fun z=>z<w.heap.size) (fun _=>False) W v gs
theorem CkL.nil {w W:World} (h:Below w.heap.size w W):CkL w W (.slice none 0 0) []:=⟨h,RowH.nil _ _ _ _ h.size⟩
theorem CkL.below {w W W':World} {v:Value} {gs:List (List Nat)} (h:CkL w W v gs) (hb:Below W.heap.size W W'):CkL w W' v gs :=
 ⟨Rg.acc h.bel hb,h.row.kp (N:=fun _=>False) (Rg.Kp.of_below hb) (fun _ _=>id) (fun _ _=>id)⟩
theorem CkL.push {w W:World} {v u:Value} {gs:List (List Nat)} {x:List Nat} (h:CkL w W v gs) (hu:Rg.NP w u x) (hs:∃ a m c,u=.slice a m c) (hT:gs.length<1000000) (ty:TypeId) :
  ∃ a c Y,(Builtin.append_ #[22,22] ty #[v,.slice (some ⟨W.heap.size,0,none⟩) 1 1]).run Tryz.prog (W.alloc (.cells #[u] 51))=.ok (.slice a (gs.length+1) c) Y∧CkL w Y (.slice a (gs.length+1) c) (gs++[x]):=by
 obtain ⟨a,c,Y,r1,r2,r3⟩:=h.row.push ((FP.of_np hu).below h.bel) hs (fun k hk=>Nat.lt_of_lt_of_le hk h.bel.size) (fun _ e=>e.elim) hT ty;exact ⟨a,c,Y,r1,kp_below h.bel h.bel.size r3 (fun k e=>(h.row.lt k e).1),r2⟩
theorem rCheck_any {n:Int} {ov rv:Value} {OO:List (List Int)} {RR:List (List (List Int))} {w:World} (h:ChEqR w ov rv OO RR) :
  Calls Tryz.prog 43 #[.agg #[.int .i64 n,ov,rv]] w fun e w'=>e=.returned (.int .i64 (chCode n OO RR))∧Below w.heap.size w w':=by
 obtain ⟨oa,oc,rfl,-,hol,-⟩:=h.1.shape;obtain ⟨ra,rc,rfl⟩:=h.2.shape
 have hrl:RR.length≤1000000000:=by
  obtain ⟨us,⟨_,_,_,_,_,h4,_⟩,h5,_⟩:=h.2;have:us.length≤Rg.big:=h4;unfold Rg.big at this; omega
 have H:=ι h;have hbx:=box3 w (.int .i64 n) (.slice oa OO.length oc) (.slice ra RR.length rc);have hb:Below w.heap.size w (w.alloc (.cells #[.int .i64 n,.slice oa OO.length oc,.slice ra RR.length rc] 54)):=(Below.refl _ _).alloc (Nat.le_refl _) _;clear h
 go_enter Tryz.func43,Tryz.ntmps43
 obtain ⟨cb,hcb⟩:∃ cb,w.heap.size=cb:=⟨_,rfl⟩;rw [hcb] at hbx;go_upto_region 0 with (fail);refine Rg.wl ?_;refine Rg.lr 1 (Rg.exec_box _ _ rfl rfl) ?_;go_frame;refine Rg.la 2 (.int .i64 0) ?_;go_frame;rw [hcb];clear hcb;generalize w.alloc (.cells #[.int .i64 n,.slice oa OO.length oc,.slice ra RR.length rc] 54)=w0 at *;have A0:=ι hbx.1;have A1:=ι hbx.2.1;have A2:=ι hbx.2.2;have HWB:=ι hb;have HO:=ι (Rg.Rows.below H.out.1 HWB.out);have HR:=ι (H.out.2.below HWB.out);have K:=ι (Below.refl w0.heap.size w0);clear hbx hb H;go_upto_region 1 with (fail);refine Rg.wl ?_;refine Rg.lr 9 (exec_field _ rfl rfl (chF0 _ _)) ?_;go_frame;refine Rg.lr 10 (Rg.exec_load (v:=.int .i64 n) _ _ rfl ⟨cb,0,none⟩ rfl (run_loadInt ((Below.cell (p:=⟨cb,0,none⟩) K.out A0.out.lt).trans A0.out.cell))) ?_;go_frame;refine Rg.la 3 (.int .i64 n) ?_;go_frame
 by_cases hn1:n<1
 case pos =>
  have HCD:=ι (chCode_out (OO:=OO) (RR:=RR) (fun h:1≤n∧n≤64=>by omega));go_upto_region 2 with (fail);refine Rg.wl ?_;refine Rg.lm 11 (.int .i64 n) ?_;go_frame;refine Rg.lr 12 (exec_bin (R:=.bool true) .lss _ _ _ rfl rfl rfl (b_lss _ (decide_eq_true hn1))) ?_;go_frame;refine Rg.lm 13 (.bool true) ?_;go_frame;refine listW_pass (some 14) (by kernel_rfl) rfl ?_;go_frame;refine listW_pass (some 15) (by kernel_rfl) rfl ?_;go_frame;refine Rg.lr 16 (exec_pickT (v:=.bool true) _ _ _ rfl rfl rfl) ?_;go_frame;go_upto_region 3 with (fail);refine Rg.wl ?_;refine Rg.la 2 (.int .i64 ((2:Nat):Int)) ?_;go_frame;go_wp2;go_ret;exact ⟨by rw [HCD.out]; rfl,Rg.acc HWB.out K.out⟩
 case neg =>
  by_cases hn2:64<n
  case pos =>
   have HCD:=ι (chCode_out (OO:=OO) (RR:=RR) (fun h:1≤n∧n≤64=>by omega));go_upto_region 2 with (fail);refine Rg.wl ?_;refine Rg.lm 11 (.int .i64 n) ?_;go_frame;refine Rg.lr 12 (exec_bin (R:=.bool false) .lss _ _ _ rfl rfl rfl (b_lss _ (decide_eq_false hn1))) ?_;go_frame;refine Rg.lm 13 (.bool false) ?_;go_frame;refine Rg.lW 14 (Rg.xm (.int .i64 n) _ rfl rfl) ?_;go_frame;refine Rg.lW 15 (exec_bin (R:=.bool true) .gtr _ _ _ rfl rfl rfl (b_gtr _ (decide_eq_true hn2))) ?_;go_frame;refine Rg.lr 16 (exec_pickF (v:=.bool true) _ _ _ rfl rfl rfl) ?_;go_frame;go_upto_region 3 with (fail);refine Rg.wl ?_;refine Rg.la 2 (.int .i64 ((2:Nat):Int)) ?_;go_frame;go_wp2;go_ret;exact ⟨by rw [HCD.out]; rfl,Rg.acc HWB.out K.out⟩
  case neg =>
   have HN:=ι (show 1≤n∧n≤64 from by omega)
   by_cases hlo:(OO.length:Int)=n
   case neg =>
    have HCD:=ι (chCode_no HN.out (OO:=OO) (RR:=RR) (fun h=>hlo h.lens.1));go_upto_region 2 with (fail);refine Rg.wl ?_;refine Rg.lm 11 (.int .i64 n) ?_;go_frame;refine Rg.lr 12 (exec_bin (R:=.bool false) .lss _ _ _ rfl rfl rfl (b_lss _ (decide_eq_false hn1))) ?_;go_frame;refine Rg.lm 13 (.bool false) ?_;go_frame;refine Rg.lW 14 (Rg.xm (.int .i64 n) _ rfl rfl) ?_;go_frame;refine Rg.lW 15 (exec_bin (R:=.bool false) .gtr _ _ _ rfl rfl rfl (b_gtr _ (decide_eq_false hn2))) ?_;go_frame;refine Rg.lr 16 (exec_pickF (v:=.bool false) _ _ _ rfl rfl rfl) ?_;go_frame;go_upto_region 4 with (fail);refine Rg.wl ?_;refine Rg.lr 17 (exec_field _ rfl rfl (chF1 _ _)) ?_;go_frame;refine Rg.lr 18 (Rg.exec_load (v:=.slice oa OO.length oc) _ _ rfl ⟨cb,1,none⟩ rfl (Rg.run_loadSl _ _ Tryz.underlying27 ((Below.cell (p:=⟨cb,1,none⟩) K.out A1.out.lt).trans A1.out.cell))) ?_;go_frame;refine Rg.lr 19 (exec_len _ _ _ rfl Tryz.underlying27 _ _ _ rfl) ?_;go_frame
    refine Rg.lm 20 (.int .i64 n) ?_;go_frame;refine Rg.lr 21 (exec_bin (R:=.bool true) .neq _ _ _ rfl rfl rfl (b_neqB _ (decide_eq_true hlo))) ?_;go_frame;refine Rg.lm 22 (.bool true) ?_;go_frame;refine listW_pass (some 23) (by kernel_rfl) rfl ?_;go_frame;refine listW_pass (some 24) (by kernel_rfl) rfl ?_;go_frame;refine listW_pass (some 25) (by kernel_rfl) rfl ?_;go_frame;refine listW_pass (some 26) (by kernel_rfl) rfl ?_;go_frame;refine listW_pass (some 27) (by kernel_rfl) rfl ?_;go_frame;refine Rg.lr 28 (exec_pickT (v:=.bool true) _ _ _ rfl rfl rfl) ?_;go_frame;go_upto_region 5 with (fail);refine Rg.wl ?_;refine Rg.la 2 (.int .i64 ((3:Nat):Int)) ?_;go_frame;go_wp2;go_ret;exact ⟨by rw [HCD.out]; rfl,Rg.acc HWB.out K.out⟩
   case pos =>
    by_cases hlr:(RR.length:Int)=n
    case neg =>
     have HCD:=ι (chCode_no HN.out (OO:=OO) (RR:=RR) (fun h=>hlr h.lens.2));go_upto_region 2 with (fail);refine Rg.wl ?_;refine Rg.lm 11 (.int .i64 n) ?_;go_frame;refine Rg.lr 12 (exec_bin (R:=.bool false) .lss _ _ _ rfl rfl rfl (b_lss _ (decide_eq_false hn1))) ?_;go_frame;refine Rg.lm 13 (.bool false) ?_;go_frame;refine Rg.lW 14 (Rg.xm (.int .i64 n) _ rfl rfl) ?_;go_frame;refine Rg.lW 15 (exec_bin (R:=.bool false) .gtr _ _ _ rfl rfl rfl (b_gtr _ (decide_eq_false hn2))) ?_;go_frame;refine Rg.lr 16 (exec_pickF (v:=.bool false) _ _ _ rfl rfl rfl) ?_;go_frame;go_upto_region 4 with (fail);refine Rg.wl ?_;refine Rg.lr 17 (exec_field _ rfl rfl (chF1 _ _)) ?_;go_frame;refine Rg.lr 18 (Rg.exec_load (v:=.slice oa OO.length oc) _ _ rfl ⟨cb,1,none⟩ rfl (Rg.run_loadSl _ _ Tryz.underlying27 ((Below.cell (p:=⟨cb,1,none⟩) K.out A1.out.lt).trans A1.out.cell))) ?_;go_frame;refine Rg.lr 19 (exec_len _ _ _ rfl Tryz.underlying27 _ _ _ rfl) ?_;go_frame
     refine Rg.lm 20 (.int .i64 n) ?_;go_frame;refine Rg.lr 21 (exec_bin (R:=.bool false) .neq _ _ _ rfl rfl rfl (b_neqB _ (decide_eq_false (fun h=>h hlo)))) ?_;go_frame;refine Rg.lm 22 (.bool false) ?_;go_frame;refine Rg.lW 23 (exec_field _ rfl rfl (chF2 _ _)) ?_;go_frame;refine Rg.lW 24 (Rg.exec_load (v:=.slice ra RR.length rc) _ _ rfl ⟨cb,2,none⟩ rfl (Rg.run_loadSl _ _ Tryz.underlying52 ((Below.cell (p:=⟨cb,2,none⟩) K.out A2.out.lt).trans A2.out.cell))) ?_;go_frame;refine Rg.lW 25 (exec_len _ _ _ rfl Tryz.underlying52 _ _ _ rfl) ?_;go_frame;refine Rg.lW 26 (Rg.xm (.int .i64 n) _ rfl rfl) ?_;go_frame;refine Rg.lW 27 (exec_bin (R:=.bool true) .neq _ _ _ rfl rfl rfl (b_neqB _ (decide_eq_true hlr))) ?_;go_frame;refine Rg.lr 28 (exec_pickF (v:=.bool true) _ _ _ rfl rfl rfl) ?_;go_frame;go_upto_region 5 with (fail);refine Rg.wl ?_;refine Rg.la 2 (.int .i64 ((3:Nat):Int)) ?_;go_frame
     go_wp2;go_ret;exact ⟨by rw [HCD.out]; rfl,Rg.acc HWB.out K.out⟩
    case pos =>
     obtain ⟨N,hN⟩:∃ N:Nat,RR.length=N:=⟨_,rfl⟩
     have hnN:n=((N:Nat):Int):=by omega
     subst hnN
     have hON:OO.length=N:=by omega
     have HON:=ι hON;have HRN:=ι hN
     have hN1:1≤N:=by omega
     have hN2:N≤64:=by omega
     rw [hON] at A1 ⊢;rw [hN] at A2 ⊢;clear hlo hlr hON hN hn1 hn2;go_upto_region 2 with (fail);refine Rg.wl ?_;refine Rg.lm 11 (.int .i64 ((N:Nat):Int)) ?_;go_frame;refine Rg.lr 12 (exec_bin (R:=.bool false) .lss _ _ _ rfl rfl rfl (b_lss _ Rg.dF)) ?_;go_frame;refine Rg.lm 13 (.bool false) ?_;go_frame;refine Rg.lW 14 (Rg.xm (.int .i64 ((N:Nat):Int)) _ rfl rfl) ?_;go_frame;refine Rg.lW 15 (exec_bin (R:=.bool false) .gtr _ _ _ rfl rfl rfl (b_gtr _ Rg.dF)) ?_;go_frame;refine Rg.lr 16 (exec_pickF (v:=.bool false) _ _ _ rfl rfl rfl) ?_;go_frame;go_upto_region 4 with (fail);refine Rg.wl ?_;refine Rg.lr 17 (exec_field _ rfl rfl (chF1 _ _)) ?_;go_frame;refine Rg.lr 18 (Rg.exec_load (v:=.slice oa N oc) _ _ rfl ⟨cb,1,none⟩ rfl (Rg.run_loadSl _ _ Tryz.underlying27 ((Below.cell (p:=⟨cb,1,none⟩) K.out A1.out.lt).trans A1.out.cell))) ?_;go_frame;refine Rg.lr 19 (exec_len _ _ _ rfl Tryz.underlying27 _ _ _ rfl) ?_;go_frame
     refine Rg.lm 20 (.int .i64 ((N:Nat):Int)) ?_;go_frame;refine Rg.lr 21 (exec_bin (R:=.bool false) .neq _ _ _ rfl rfl rfl (b_neqB _ (decide_eq_false (fun h=>h rfl)))) ?_;go_frame;refine Rg.lm 22 (.bool false) ?_;go_frame;refine Rg.lW 23 (exec_field _ rfl rfl (chF2 _ _)) ?_;go_frame;refine Rg.lW 24 (Rg.exec_load (v:=.slice ra N rc) _ _ rfl ⟨cb,2,none⟩ rfl (Rg.run_loadSl _ _ Tryz.underlying52 ((Below.cell (p:=⟨cb,2,none⟩) K.out A2.out.lt).trans A2.out.cell))) ?_;go_frame;refine Rg.lW 25 (exec_len _ _ _ rfl Tryz.underlying52 _ _ _ rfl) ?_;go_frame;refine Rg.lW 26 (Rg.xm (.int .i64 ((N:Nat):Int)) _ rfl rfl) ?_;go_frame;refine Rg.lW 27 (exec_bin (R:=.bool false) .neq _ _ _ rfl rfl rfl (b_neqB _ (decide_eq_false (fun h=>h rfl)))) ?_;go_frame;refine Rg.lr 28 (exec_pickF (v:=.bool false) _ _ _ rfl rfl rfl) ?_;go_frame;go_upto_region 6 with (fail);refine Rg.wl ?_;refine Rg.la 4 (.slice none 0 0) ?_;go_frame
     go_upto_region 7 with (fail);refine Rg.wl ?_;refine Rg.la 5 (.int .i64 ((0:Nat):Int)) ?_;go_frame;have CK:=ι (CkL.nil K.out);have HGS:=ι (show ([]:List (List Nat)).map Ma.ofN=(RR.take 0).flatten from by rw [List.take_zero]; rfl);have HGD:=ι (show ∀ s∈([]:List (List Nat)),Gd N s from fun s hs=>(List.not_mem_nil hs).elim);have HCN:=ι (fun hk:¬ ChOK ((N:Nat):Int) OO RR=>chCode_no (OO:=OO) (RR:=RR) HN.out hk);clear K;go_wp2
     go_loopw [4,5] (fun lv iv wr=>∃ (i:Nat) (gs:List (List Nat)),iv=.int .i64 ((i:Nat):Int)∧i≤N∧Hid (CkL w0 wr lv gs)∧Hid (gs.map Ma.ofN=(RR.take i).flatten)∧Hid (∀ s∈gs,Gd N s)∧Hid (gs.length≤i*64)) (fun _ iv _=>N - (intOf iv).toNat)
     case atStart=>exact ⟨0,[],rfl,Nat.zero_le _,CK,HGS,HGD,ι (Nat.zero_le _)⟩
     case round =>
      clear CK HGS HGD;obtain ⟨i,gs,rfl,hi,CK,HGS,HGD,HGL⟩:=hrel;obtain ⟨la,lc,rfl⟩:=CK.out.row.shape;generalize wr=wd at *;have K:=ι CK.out.bel
      have hgl:gs.length≤4096:=by have:=HGL.out; omega
      by_cases hin:i<N
      case neg =>
       have hiN:i=N:=by omega
       have HFL:=ι (show RR.flatten=gs.map Ma.ofN by rw [HGS.out,List.take_of_length_le (by rw [HRN.out]; omega)]);have HMK:=ι (mkchk_good hN1 hN2 hgl HGD.out);go_upto_region 8 with (fail);refine Rg.wl ?_;refine Rg.lm 29 (.int .i64 ((i:Nat):Int)) ?_;go_frame;refine Rg.lm 30 (.int .i64 ((N:Nat):Int)) ?_;go_frame;refine Rg.lr 31 (exec_bin (R:=.bool false) .lss _ _ _ rfl rfl rfl (b_lss _ Rg.dF)) ?_;go_frame;go_upto_region 18 with (fail);refine Rg.wl ?_;refine Rg.lm 101 (.slice la gs.length lc) ?_;go_frame;refine Rg.lr 102 (exec_len _ _ _ rfl Tryz.underlying22 _ _ _ rfl) ?_;go_frame;refine Rg.lr 103 (exec_bin (R:=.bool false) .gtr _ _ _ rfl rfl rfl (b_gtr _ Rg.dF)) ?_;go_frame;have LR:=ι (RsO.mk (CK.out.row.rows (by omega)));have C0:=ι (A0.out.up K.out);have C1:=ι (A1.out.up K.out);have C2:=ι (A2.out.up K.out);have HC:=ι (show ChEqR wd (.slice oa N oc) (.slice ra N rc) OO RR from ⟨by have h5:=Rg.Rows.below HO.out K.out; rwa [HON.out] at h5,by have h5:=HR.out.below K.out; rwa [HRN.out] at h5⟩)
       clear CK;go_upto_region 20 with (fail);refine Rg.wl ?_;refine Rg.lm 105 (.int .i64 ((N:Nat):Int)) ?_;go_frame;refine Rg.lm 106 (.slice la gs.length lc) ?_;go_frame;refine Rg.lk 107 (exec_fn 120 _ _ _ rfl rfl rfl (Kycl2 _ _)) ?_;refine (rMake_any _ ((N:Nat):Int) (gs.map Ma.ofN) wd LR.out.r).mono ?_;rintro e1 w52 ⟨cv,rfl,hcv,hb⟩;rw [HMK.out] at hcv ⊢;obtain ⟨oa2,on2,oc2,ra2,rn2,rc2,O2,R2,rfl,hce,hci⟩:=chAns_ok hcv.ans;have HI2:=ι hci;clear hcv hci;refine ⟨_,rfl,?_⟩;go_frame;replace LR:=ι (LR.out.below hb);replace C0:=ι (C0.out.below hb);replace C1:=ι (C1.out.below hb);replace C2:=ι (C2.out.below hb);replace HC:=ι (HC.out.below hb);replace K:=ι (Rg.acc K.out hb);clear hb;have E2:=ι hce;refine Rg.lm 104 (.tuple #[(.agg #[.int .i64 ((N:Nat):Int),.slice oa2 on2 oc2,.slice ra2 rn2 rc2]),.int .i64 0]) ?_;go_frame;refine Rg.lr 108 (exec_extract (v:=(.agg #[.int .i64 ((N:Nat):Int),.slice oa2 on2 oc2,.slice ra2 rn2 rc2])) _ _ rfl rfl rfl) ?_;go_frame
       refine Rg.lr 109 (exec_extract (v:=.int .i64 0) _ _ rfl rfl rfl) ?_;go_frame;refine Rg.lr 7 (exec_allocC rfl) ?_;go_frame;refine Rg.list_skip none rfl rfl (Rg.exec_store _ _ _ rfl _ rfl _ rfl (run_storeC _ _ _ _ _ _ _ (Tri.new w52 (.int .i64 0) (.slice none 0 0) (.slice none 0 0)))) ?_;go_frame;have htn:=(Tri.new w52 (.int .i64 0) (.slice none 0 0) (.slice none 0 0)).set (.int .i64 ((N:Nat):Int)) (.slice oa2 on2 oc2) (.slice ra2 rn2 rc2);have hb:=((((Below.refl w52.heap.size w52).alloc (Nat.le_refl _) (.cells #[.int .i64 0,.slice none 0 0,.slice none 0 0] 54)).setCell (p:=⟨w52.heap.size,0,none⟩) (Nat.le_refl _) (.int .i64 ((N:Nat):Int))).setCell (p:=⟨w52.heap.size,1,none⟩) (Nat.le_refl _) (.slice oa2 on2 oc2)).setCell (p:=⟨w52.heap.size,2,none⟩) (Nat.le_refl _) (.slice ra2 rn2 rc2);generalize (((w52.alloc (.cells #[.int .i64 0,.slice none 0 0,.slice none 0 0] 54)).setCell ⟨w52.heap.size,0,none⟩ (.int .i64 ((N:Nat):Int))).setCell ⟨w52.heap.size,1,none⟩ (.slice oa2 on2 oc2)).setCell ⟨w52.heap.size,2,none⟩ (.slice ra2 rn2 rc2)=w53 at *
       replace LR:=ι (LR.out.below hb);replace C0:=ι (C0.out.below hb);replace C1:=ι (C1.out.below hb);replace C2:=ι (C2.out.below hb);replace HC:=ι (HC.out.below hb);replace E2:=ι (E2.out.below hb);replace K:=ι (Rg.acc K.out hb);clear hb;have TD:=ι htn;clear htn;refine Rg.la 8 (.int .i64 0) ?_;go_frame;clear hce;obtain ⟨bb,hbb⟩:∃ t,Hid (decide (OO=O2.map Ma.ofN∧RR=R2.map (List.map Ma.ofN))=t):=⟨_,ι rfl⟩;have HSM:=ι (ChOK.same (OO:=OO) hN1 hN2 HGD.out HFL.out HI2.out)
       have HBI:Hid (bb=true↔(((N:Nat):Int)=((N:Nat):Int)∧OO=O2.map Ma.ofN∧RR=R2.map (List.map Ma.ofN))):=ι (by
        rw [← hbb.out,decide_eq_true_iff]
        exact ⟨fun h=>⟨rfl,h⟩,fun h=>h.2⟩)
       cases bb
       case false =>
        have HCD:=ι (HCN.out (fun h=>Bool.false_ne_true (HBI.out.2 ⟨rfl,HSM.out.1 h⟩)));go_upto_region 21 with (fail);refine Rg.wl ?_;refine Rg.lr 110 (Rg.exec_load (v:=(.agg #[.int .i64 ((N:Nat):Int),.slice oa N oc,.slice ra N rc])) _ _ rfl ⟨cb,0,none⟩ rfl (run_loadC3 C0.out.cell C1.out.cell C2.out.cell)) ?_;go_frame;refine Rg.lr 111 (Rg.exec_load (v:=(.agg #[.int .i64 ((N:Nat):Int),.slice oa2 on2 oc2,.slice ra2 rn2 rc2])) _ _ rfl ⟨w52.heap.size,0,none⟩ rfl (run_loadC3 TD.out.c0 TD.out.c1 TD.out.c2)) ?_;go_frame;refine Rg.lk 112 (exec_fn 50 _ _ _ rfl rfl rfl (Kccl1 _ _)) ?_;refine (SameChain_d HC.out E2.out HBI).mono ?_;rintro e1 w54 ⟨rfl,hb⟩;refine ⟨_,rfl,?_⟩;go_frame;replace LR:=ι (LR.out.below hb);replace C0:=ι (C0.out.below hb);replace C1:=ι (C1.out.below hb);replace C2:=ι (C2.out.below hb);replace HC:=ι (HC.out.below hb);replace E2:=ι (E2.out.below hb)
        replace TD:=ι (TD.out.below hb);replace K:=ι (Rg.acc K.out hb);clear hb;refine Rg.lr 113 (exec_not _ _ false rfl rfl) ?_;go_frame;go_upto_region 22 with (fail);refine Rg.wl ?_;refine Rg.la 2 (.int .i64 ((3:Nat):Int)) ?_;go_frame;go_wp2;go_ret;exact ⟨by rw [HCD.out]; rfl,Rg.acc HWB.out K.out⟩
       case true =>
        have HCD:=ι (chCode_zero (HSM.out.2 (HBI.out.1 rfl).2));go_upto_region 21 with (fail);refine Rg.wl ?_;refine Rg.lr 110 (Rg.exec_load (v:=(.agg #[.int .i64 ((N:Nat):Int),.slice oa N oc,.slice ra N rc])) _ _ rfl ⟨cb,0,none⟩ rfl (run_loadC3 C0.out.cell C1.out.cell C2.out.cell)) ?_;go_frame;refine Rg.lr 111 (Rg.exec_load (v:=(.agg #[.int .i64 ((N:Nat):Int),.slice oa2 on2 oc2,.slice ra2 rn2 rc2])) _ _ rfl ⟨w52.heap.size,0,none⟩ rfl (run_loadC3 TD.out.c0 TD.out.c1 TD.out.c2)) ?_;go_frame;refine Rg.lk 112 (exec_fn 50 _ _ _ rfl rfl rfl (Kccl1 _ _)) ?_;refine (SameChain_d HC.out E2.out HBI).mono ?_;rintro e1 w64 ⟨rfl,hb⟩;refine ⟨_,rfl,?_⟩;go_frame;replace LR:=ι (LR.out.below hb);replace C0:=ι (C0.out.below hb);replace C1:=ι (C1.out.below hb);replace C2:=ι (C2.out.below hb);replace HC:=ι (HC.out.below hb);replace E2:=ι (E2.out.below hb);replace TD:=ι (TD.out.below hb)
        replace K:=ι (Rg.acc K.out hb);clear hb;refine Rg.lr 113 (exec_not _ _ true rfl rfl) ?_;go_frame;go_upto_region 23 with (fail);refine Rg.wl ?_;refine Rg.la 2 (.int .i64 ((0:Nat):Int)) ?_;go_frame;go_wp2;go_ret;exact ⟨by rw [HCD.out]; rfl,Rg.acc HWB.out K.out⟩
      case pos =>
       have HIN:=ι hin
       have hiO:i<OO.length:=by rw [HON.out]; exact hin
       have hiR:i<RR.length:=by rw [HRN.out]; exact hin
       obtain ⟨ob,oo,qa,qc,e1,hob,hoc,-⟩:=rows_get HO.out hiO;subst e1;obtain ⟨rb,ro,e1,hrb,ru,hru,hri⟩:=HR.out.at' hiR;subst e1;obtain ⟨ol,hol⟩:∃ ol,Hid (OO[i]'hiO=ol):=⟨_,ι rfl⟩;obtain ⟨rl,hrl⟩:∃ rl,Hid (RR[i]'hiR=rl):=⟨_,ι rfl⟩;rw [hol.out] at hoc;rw [hrl.out] at hri;obtain ⟨ua,uc,rfl,-,hrlb,-⟩:=hri.shape
       have hroc:ol.length≤1000000000:=by
        obtain ⟨u,hu⟩:=rows_el HO.out hiO;obtain ⟨_,_,_,_,h5,_⟩:=hu.shape;rw [hol.out] at h5;exact h5
       have CO:=ι (CL.mk hoc hob);have CR:=ι (CL.mk hru hrb);have RI:=ι hri
       have HROW:=ι (show ChOK ((N:Nat):Int) OO RR→rl.length=ol.length∧(rl.length:Int)≤((N:Nat):Int) - (i:Int) from fun h=>by
        have h5:=h.row hiR hiO
        rwa [hrl.out,hol.out] at h5)
       have HPRM:=ι (show ChOK ((N:Nat):Int) OO RR→∀ x∈rl,(x.length:Int)=((N:Nat):Int)∧Ma.pchk x=0 from fun h x hx=>h.perm hiR (by rw [hrl.out]; exact hx))
       have HTK:=ι (show (RR.take (i+1)).flatten=(RR.take i).flatten++rl by
        rw [List.take_add_one,List.getElem?_eq_getElem hiR,hrl.out]
        simp)
       clear hoc hob hru hrb hri
       by_cases hc1:N<ol.length
       case pos =>
        have HCD:=ι (HCN.out (fun h=>by have:=HROW.out h; omega));go_upto_region 8 with (fail);refine Rg.wl ?_;refine Rg.lm 29 (.int .i64 ((i:Nat):Int)) ?_;go_frame;refine Rg.lm 30 (.int .i64 ((N:Nat):Int)) ?_;go_frame;refine Rg.lr 31 (exec_bin (R:=.bool true) .lss _ _ _ rfl rfl rfl (b_lss _ Rg.dT)) ?_;go_frame;go_upto_region 10 with (fail);have hV0:Below wd.heap.size wd wd.drew:=(Below.refl _ _).drew;replace CK:=ι (CK.out.below hV0);replace K:=ι (Rg.acc K.out hV0);clear hV0;refine Rg.Any.begin (S:=Rg.Both 22 (fun _=>True) (fun W=>Below w0.heap.size w0 W)) mix ?_;generalize wd.drew=w85 at *;have hS:∀ (l:Array Bool) W,Below w0.heap.size w0 W→Rg.Both 22 (fun _=>True) (fun W=>Below w0.heap.size w0 W) l W:=fun l W h=>⟨.inr trivial,h⟩;have hI:=K.out;refine Rg.tg 0 22 (.pointer (some ⟨cb,1,none⟩)) 34 rfl rfl (.inl ⟨rfl,fun w _=>exec_field _ rfl rfl (chF1 _ _)⟩) (hS _ _ hI) ?_;go_frame
        refine Rg.tg 1 22 (.slice (some ⟨ob,oo,none⟩) N oc) 35 rfl rfl (Rg.yields_cell _ _ rfl rfl ⟨cb,1,none⟩ rfl (fun W hW=>Rg.run_loadSl _ _ Tryz.underlying27 ((Below.cell (p:=⟨cb,1,none⟩) hW A1.out.lt).trans A1.out.cell))) (hS _ _ hI) ?_;go_frame;refine Rg.tm 2 22 (.int .i64 ((i:Nat):Int)) 36 (hS _ _ hI) ?_;go_frame;refine Rg.tg 3 22 (.pointer (some ⟨ob,oo+i,none⟩)) 37 rfl rfl (Rg.yields_index slIntss _ _ rfl rfl ob (oo) (N) oc (i) rfl rfl hin) (hS _ _ hI) ?_;go_frame;refine Rg.tg 4 22 (.slice qa ol.length qc) 38 rfl rfl (Rg.yields_cell _ _ rfl rfl ⟨ob,oo+i,none⟩ rfl (fun W hW=>Rg.run_loadSl _ _ Tryz.underlying36 ((Below.cell (p:=⟨ob,oo+i,none⟩) hW CO.out.lt).trans CO.out.cell))) (hS _ _ hI) ?_;go_frame;refine Rg.tg 5 22 (.int .i64 ((ol.length:Nat):Int)) 39 rfl rfl (.inl ⟨rfl,fun w _=>exec_len _ _ _ rfl Tryz.underlying36 _ _ _ rfl⟩) (hS _ _ hI) ?_;go_frame
        refine Rg.tm 6 22 (.int .i64 ((N:Nat):Int)) 40 (hS _ _ hI) ?_;go_frame;refine Rg.tg 7 22 (.bool true) 41 rfl rfl (.inl ⟨rfl,fun w _=>exec_bin (R:=.bool true) .gtr _ _ _ rfl rfl rfl (b_gtr _ Rg.dT)⟩) (hS _ _ hI) ?_;go_frame;refine Rg.tm 8 22 (.bool true) 42 (hS _ _ hI) ?_;go_frame;refine Rg.tg 9 22 (undef) 43 rfl rfl (.inr ⟨rfl,rfl⟩) (hS _ _ hI) ?_;go_frame;refine Rg.tg 10 22 (undef) 44 rfl rfl (.inr ⟨rfl,rfl⟩) (hS _ _ hI) ?_;go_frame;refine Rg.tg 11 22 (undef) 45 rfl rfl (.inr ⟨rfl,rfl⟩) (hS _ _ hI) ?_;go_frame;refine Rg.tg 12 22 (undef) 46 rfl rfl (.inr ⟨rfl,rfl⟩) (hS _ _ hI) ?_;go_frame;refine Rg.tg 13 22 (undef) 47 rfl rfl (.inr ⟨rfl,rfl⟩) (hS _ _ hI) ?_;go_frame;refine Rg.tg 14 22 (undef) 48 rfl rfl (.inr ⟨rfl,rfl⟩) (hS _ _ hI) ?_;go_frame;refine Rg.tg 15 22 (undef) 49 rfl rfl (.inr ⟨rfl,rfl⟩) (hS _ _ hI) ?_;go_frame;refine Rg.tg 16 22 (undef) 50 rfl rfl (.inr ⟨rfl,rfl⟩) (hS _ _ hI) ?_;go_frame
        refine Rg.tg 17 22 (undef) 51 rfl rfl (.inr ⟨rfl,rfl⟩) (hS _ _ hI) ?_;go_frame;refine Rg.tg 18 22 (undef) 52 rfl rfl (.inr ⟨rfl,rfl⟩) (hS _ _ hI) ?_;go_frame;refine Rg.tg 19 22 (undef) 53 rfl rfl (.inr ⟨rfl,rfl⟩) (hS _ _ hI) ?_;go_frame;refine Rg.tg 20 22 (undef) 54 rfl rfl (.inr ⟨rfl,rfl⟩) (hS _ _ hI) ?_;go_frame;refine Rg.tg 21 22 (undef) 55 rfl rfl (.inr ⟨rfl,rfl⟩) (hS _ _ hI) ?_;go_frame;refine Rg.Any.one (i:=22) (by kernel_rfl) (Rg.Any.run (some 56) rfl rfl rfl (exec_pickT (v:=.bool true) _ _ _ rfl rfl rfl) (hS _ _ hI) ?_);go_frame;refine Rg.Any.done (by kernel_rfl) ?_ _;replace K:=ι hI;clear hS hI;go_upto_region 11 with (fail);refine Rg.wl ?_;refine Rg.la 2 (.int .i64 ((3:Nat):Int)) ?_;go_frame;go_wp2;go_ret;exact ⟨by rw [HCD.out]; rfl,Rg.acc HWB.out K.out⟩
       case neg =>
        by_cases hc2:ol.length=rl.length
        case neg =>
         have HCD:=ι (HCN.out (fun h=>hc2 (HROW.out h).1.symm));go_upto_region 8 with (fail);refine Rg.wl ?_;refine Rg.lm 29 (.int .i64 ((i:Nat):Int)) ?_;go_frame;refine Rg.lm 30 (.int .i64 ((N:Nat):Int)) ?_;go_frame;refine Rg.lr 31 (exec_bin (R:=.bool true) .lss _ _ _ rfl rfl rfl (b_lss _ Rg.dT)) ?_;go_frame;go_upto_region 10 with (fail);have hV0:Below wd.heap.size wd wd.drew:=(Below.refl _ _).drew;replace CK:=ι (CK.out.below hV0);replace K:=ι (Rg.acc K.out hV0);clear hV0;refine Rg.Any.begin (S:=Rg.Both 22 (fun _=>True) (fun W=>Below w0.heap.size w0 W)) mix ?_;generalize wd.drew=w96 at *;have hS:∀ (l:Array Bool) W,Below w0.heap.size w0 W→Rg.Both 22 (fun _=>True) (fun W=>Below w0.heap.size w0 W) l W:=fun l W h=>⟨.inr trivial,h⟩;have hI:=K.out;refine Rg.tg 0 22 (.pointer (some ⟨cb,1,none⟩)) 34 rfl rfl (.inl ⟨rfl,fun w _=>exec_field _ rfl rfl (chF1 _ _)⟩) (hS _ _ hI) ?_;go_frame
         refine Rg.tg 1 22 (.slice (some ⟨ob,oo,none⟩) N oc) 35 rfl rfl (Rg.yields_cell _ _ rfl rfl ⟨cb,1,none⟩ rfl (fun W hW=>Rg.run_loadSl _ _ Tryz.underlying27 ((Below.cell (p:=⟨cb,1,none⟩) hW A1.out.lt).trans A1.out.cell))) (hS _ _ hI) ?_;go_frame;refine Rg.tm 2 22 (.int .i64 ((i:Nat):Int)) 36 (hS _ _ hI) ?_;go_frame;refine Rg.tg 3 22 (.pointer (some ⟨ob,oo+i,none⟩)) 37 rfl rfl (Rg.yields_index slIntss _ _ rfl rfl ob (oo) (N) oc (i) rfl rfl hin) (hS _ _ hI) ?_;go_frame;refine Rg.tg 4 22 (.slice qa ol.length qc) 38 rfl rfl (Rg.yields_cell _ _ rfl rfl ⟨ob,oo+i,none⟩ rfl (fun W hW=>Rg.run_loadSl _ _ Tryz.underlying36 ((Below.cell (p:=⟨ob,oo+i,none⟩) hW CO.out.lt).trans CO.out.cell))) (hS _ _ hI) ?_;go_frame;refine Rg.tg 5 22 (.int .i64 ((ol.length:Nat):Int)) 39 rfl rfl (.inl ⟨rfl,fun w _=>exec_len _ _ _ rfl Tryz.underlying36 _ _ _ rfl⟩) (hS _ _ hI) ?_;go_frame
         refine Rg.tm 6 22 (.int .i64 ((N:Nat):Int)) 40 (hS _ _ hI) ?_;go_frame;refine Rg.tg 7 22 (.bool false) 41 rfl rfl (.inl ⟨rfl,fun w _=>exec_bin (R:=.bool false) .gtr _ _ _ rfl rfl rfl (b_gtr _ Rg.dF)⟩) (hS _ _ hI) ?_;go_frame;refine Rg.tm 8 22 (.bool false) 42 (hS _ _ hI) ?_;go_frame;refine Rg.tg 9 22 (.pointer (some ⟨cb,1,none⟩)) 43 rfl rfl (.inl ⟨rfl,fun w _=>exec_field _ rfl rfl (chF1 _ _)⟩) (hS _ _ hI) ?_;go_frame;refine Rg.tg 10 22 (.slice (some ⟨ob,oo,none⟩) N oc) 44 rfl rfl (Rg.yields_cell _ _ rfl rfl ⟨cb,1,none⟩ rfl (fun W hW=>Rg.run_loadSl _ _ Tryz.underlying27 ((Below.cell (p:=⟨cb,1,none⟩) hW A1.out.lt).trans A1.out.cell))) (hS _ _ hI) ?_;go_frame;refine Rg.tm 11 22 (.int .i64 ((i:Nat):Int)) 45 (hS _ _ hI) ?_;go_frame;refine Rg.tg 12 22 (.pointer (some ⟨ob,oo+i,none⟩)) 46 rfl rfl (Rg.yields_index slIntss _ _ rfl rfl ob (oo) (N) oc (i) rfl rfl hin) (hS _ _ hI) ?_;go_frame
         refine Rg.tg 13 22 (.slice qa ol.length qc) 47 rfl rfl (Rg.yields_cell _ _ rfl rfl ⟨ob,oo+i,none⟩ rfl (fun W hW=>Rg.run_loadSl _ _ Tryz.underlying36 ((Below.cell (p:=⟨ob,oo+i,none⟩) hW CO.out.lt).trans CO.out.cell))) (hS _ _ hI) ?_;go_frame;refine Rg.tg 14 22 (.int .i64 ((ol.length:Nat):Int)) 48 rfl rfl (.inl ⟨rfl,fun w _=>exec_len _ _ _ rfl Tryz.underlying36 _ _ _ rfl⟩) (hS _ _ hI) ?_;go_frame;refine Rg.tg 15 22 (.pointer (some ⟨cb,2,none⟩)) 49 rfl rfl (.inl ⟨rfl,fun w _=>exec_field _ rfl rfl (chF2 _ _)⟩) (hS _ _ hI) ?_;go_frame;refine Rg.tg 16 22 (.slice (some ⟨rb,ro,none⟩) N rc) 50 rfl rfl (Rg.yields_cell _ _ rfl rfl ⟨cb,2,none⟩ rfl (fun W hW=>Rg.run_loadSl _ _ Tryz.underlying52 ((Below.cell (p:=⟨cb,2,none⟩) hW A2.out.lt).trans A2.out.cell))) (hS _ _ hI) ?_;go_frame;refine Rg.tm 17 22 (.int .i64 ((i:Nat):Int)) 51 (hS _ _ hI) ?_;go_frame;refine Rg.tg 18 22 (.pointer (some ⟨rb,ro+i,none⟩)) 52 rfl rfl (Rg.yields_index slPermss _ _ rfl rfl rb (ro) (N) rc (i) rfl rfl hin) (hS _ _ hI) ?_;go_frame
         refine Rg.tg 19 22 (.slice ua rl.length uc) 53 rfl rfl (Rg.yields_cell _ _ rfl rfl ⟨rb,ro+i,none⟩ rfl (fun W hW=>Rg.run_loadSl _ _ Tryz.underlying22 ((Below.cell (p:=⟨rb,ro+i,none⟩) hW CR.out.lt).trans CR.out.cell))) (hS _ _ hI) ?_;go_frame;refine Rg.tg 20 22 (.int .i64 ((rl.length:Nat):Int)) 54 rfl rfl (.inl ⟨rfl,fun w _=>exec_len _ _ _ rfl Tryz.underlying22 _ _ _ rfl⟩) (hS _ _ hI) ?_;go_frame;refine Rg.tg 21 22 (.bool true) 55 rfl rfl (.inl ⟨rfl,fun w _=>exec_bin (R:=.bool true) .neq _ _ _ rfl rfl rfl (b_neqB _ Rg.dT)⟩) (hS _ _ hI) ?_;go_frame;refine Rg.Any.one (i:=22) (by kernel_rfl) (Rg.Any.run (some 56) rfl rfl rfl (exec_pickF (v:=.bool true) _ _ _ rfl rfl rfl) (hS _ _ hI) ?_);go_frame;refine Rg.Any.done (by kernel_rfl) ?_ _;replace K:=ι hI;clear hS hI;go_upto_region 11 with (fail);refine Rg.wl ?_;refine Rg.la 2 (.int .i64 ((3:Nat):Int)) ?_;go_frame
         go_wp2;go_ret;exact ⟨by rw [HCD.out]; rfl,Rg.acc HWB.out K.out⟩
        case pos =>
         have hrN:rl.length≤N:=by omega
         have HRLN:=ι hrN;have hor1:ol.length≤rl.length:=Nat.le_of_eq hc2;have hor2:rl.length≤ol.length:=Nat.le_of_eq hc2.symm;clear hc2;go_upto_region 8 with (fail);refine Rg.wl ?_;refine Rg.lm 29 (.int .i64 ((i:Nat):Int)) ?_;go_frame;refine Rg.lm 30 (.int .i64 ((N:Nat):Int)) ?_;go_frame;refine Rg.lr 31 (exec_bin (R:=.bool true) .lss _ _ _ rfl rfl rfl (b_lss _ Rg.dT)) ?_;go_frame;go_upto_region 10 with (fail);have hV0:Below wd.heap.size wd wd.drew:=(Below.refl _ _).drew;replace CK:=ι (CK.out.below hV0);replace K:=ι (Rg.acc K.out hV0);clear hV0;refine Rg.Any.begin (S:=Rg.Both 22 (fun _=>True) (fun W=>Below w0.heap.size w0 W)) mix ?_;generalize wd.drew=w107 at *;have hS:∀ (l:Array Bool) W,Below w0.heap.size w0 W→Rg.Both 22 (fun _=>True) (fun W=>Below w0.heap.size w0 W) l W:=fun l W h=>⟨.inr trivial,h⟩;have hI:=K.out;refine Rg.tg 0 22 (.pointer (some ⟨cb,1,none⟩)) 34 rfl rfl (.inl ⟨rfl,fun w _=>exec_field _ rfl rfl (chF1 _ _)⟩) (hS _ _ hI) ?_;go_frame
         refine Rg.tg 1 22 (.slice (some ⟨ob,oo,none⟩) N oc) 35 rfl rfl (Rg.yields_cell _ _ rfl rfl ⟨cb,1,none⟩ rfl (fun W hW=>Rg.run_loadSl _ _ Tryz.underlying27 ((Below.cell (p:=⟨cb,1,none⟩) hW A1.out.lt).trans A1.out.cell))) (hS _ _ hI) ?_;go_frame;refine Rg.tm 2 22 (.int .i64 ((i:Nat):Int)) 36 (hS _ _ hI) ?_;go_frame;refine Rg.tg 3 22 (.pointer (some ⟨ob,oo+i,none⟩)) 37 rfl rfl (Rg.yields_index slIntss _ _ rfl rfl ob (oo) (N) oc (i) rfl rfl hin) (hS _ _ hI) ?_;go_frame;refine Rg.tg 4 22 (.slice qa ol.length qc) 38 rfl rfl (Rg.yields_cell _ _ rfl rfl ⟨ob,oo+i,none⟩ rfl (fun W hW=>Rg.run_loadSl _ _ Tryz.underlying36 ((Below.cell (p:=⟨ob,oo+i,none⟩) hW CO.out.lt).trans CO.out.cell))) (hS _ _ hI) ?_;go_frame;refine Rg.tg 5 22 (.int .i64 ((ol.length:Nat):Int)) 39 rfl rfl (.inl ⟨rfl,fun w _=>exec_len _ _ _ rfl Tryz.underlying36 _ _ _ rfl⟩) (hS _ _ hI) ?_;go_frame
         refine Rg.tm 6 22 (.int .i64 ((N:Nat):Int)) 40 (hS _ _ hI) ?_;go_frame;refine Rg.tg 7 22 (.bool false) 41 rfl rfl (.inl ⟨rfl,fun w _=>exec_bin (R:=.bool false) .gtr _ _ _ rfl rfl rfl (b_gtr _ Rg.dF)⟩) (hS _ _ hI) ?_;go_frame;refine Rg.tm 8 22 (.bool false) 42 (hS _ _ hI) ?_;go_frame;refine Rg.tg 9 22 (.pointer (some ⟨cb,1,none⟩)) 43 rfl rfl (.inl ⟨rfl,fun w _=>exec_field _ rfl rfl (chF1 _ _)⟩) (hS _ _ hI) ?_;go_frame;refine Rg.tg 10 22 (.slice (some ⟨ob,oo,none⟩) N oc) 44 rfl rfl (Rg.yields_cell _ _ rfl rfl ⟨cb,1,none⟩ rfl (fun W hW=>Rg.run_loadSl _ _ Tryz.underlying27 ((Below.cell (p:=⟨cb,1,none⟩) hW A1.out.lt).trans A1.out.cell))) (hS _ _ hI) ?_;go_frame;refine Rg.tm 11 22 (.int .i64 ((i:Nat):Int)) 45 (hS _ _ hI) ?_;go_frame;refine Rg.tg 12 22 (.pointer (some ⟨ob,oo+i,none⟩)) 46 rfl rfl (Rg.yields_index slIntss _ _ rfl rfl ob (oo) (N) oc (i) rfl rfl hin) (hS _ _ hI) ?_;go_frame
         refine Rg.tg 13 22 (.slice qa ol.length qc) 47 rfl rfl (Rg.yields_cell _ _ rfl rfl ⟨ob,oo+i,none⟩ rfl (fun W hW=>Rg.run_loadSl _ _ Tryz.underlying36 ((Below.cell (p:=⟨ob,oo+i,none⟩) hW CO.out.lt).trans CO.out.cell))) (hS _ _ hI) ?_;go_frame;refine Rg.tg 14 22 (.int .i64 ((ol.length:Nat):Int)) 48 rfl rfl (.inl ⟨rfl,fun w _=>exec_len _ _ _ rfl Tryz.underlying36 _ _ _ rfl⟩) (hS _ _ hI) ?_;go_frame;refine Rg.tg 15 22 (.pointer (some ⟨cb,2,none⟩)) 49 rfl rfl (.inl ⟨rfl,fun w _=>exec_field _ rfl rfl (chF2 _ _)⟩) (hS _ _ hI) ?_;go_frame;refine Rg.tg 16 22 (.slice (some ⟨rb,ro,none⟩) N rc) 50 rfl rfl (Rg.yields_cell _ _ rfl rfl ⟨cb,2,none⟩ rfl (fun W hW=>Rg.run_loadSl _ _ Tryz.underlying52 ((Below.cell (p:=⟨cb,2,none⟩) hW A2.out.lt).trans A2.out.cell))) (hS _ _ hI) ?_;go_frame;refine Rg.tm 17 22 (.int .i64 ((i:Nat):Int)) 51 (hS _ _ hI) ?_;go_frame;refine Rg.tg 18 22 (.pointer (some ⟨rb,ro+i,none⟩)) 52 rfl rfl (Rg.yields_index slPermss _ _ rfl rfl rb (ro) (N) rc (i) rfl rfl hin) (hS _ _ hI) ?_;go_frame
         refine Rg.tg 19 22 (.slice ua rl.length uc) 53 rfl rfl (Rg.yields_cell _ _ rfl rfl ⟨rb,ro+i,none⟩ rfl (fun W hW=>Rg.run_loadSl _ _ Tryz.underlying22 ((Below.cell (p:=⟨rb,ro+i,none⟩) hW CR.out.lt).trans CR.out.cell))) (hS _ _ hI) ?_;go_frame;refine Rg.tg 20 22 (.int .i64 ((rl.length:Nat):Int)) 54 rfl rfl (.inl ⟨rfl,fun w _=>exec_len _ _ _ rfl Tryz.underlying22 _ _ _ rfl⟩) (hS _ _ hI) ?_;go_frame;refine Rg.tg 21 22 (.bool false) 55 rfl rfl (.inl ⟨rfl,fun w _=>exec_bin (R:=.bool false) .neq _ _ _ rfl rfl rfl (b_neqB _ Rg.dF)⟩) (hS _ _ hI) ?_;go_frame;refine Rg.Any.one (i:=22) (by kernel_rfl) (Rg.Any.run (some 56) rfl rfl rfl (exec_pickF (v:=.bool false) _ _ _ rfl rfl rfl) (hS _ _ hI) ?_);go_frame;refine Rg.Any.done (by kernel_rfl) ?_ _;replace K:=ι hI;clear hS hI;go_upto_region 12 with (fail);refine Rg.wl ?_;refine Rg.la 6 (.int .i64 ((0:Nat):Int)) ?_;go_frame
         have HG2:=ι (show gs.map Ma.ofN=(RR.take i).flatten++rl.take 0 by rw [HGS.out,List.take_zero,List.append_nil]);have HGL2:=ι (show gs.length≤i*64+0 from HGL.out);clear K HGS HGL;go_wp2
         go_loopw [4,6] (fun lv kv wr=>∃ (k:Nat) (gs:List (List Nat)),kv=.int .i64 ((k:Nat):Int)∧k≤rl.length∧Hid (CkL w0 wr lv gs)∧Hid (gs.map Ma.ofN=(RR.take i).flatten++rl.take k)∧Hid (∀ s∈gs,Gd N s)∧Hid (gs.length≤i*64+k)) (fun _ kv _=>rl.length - (intOf kv).toNat)
         case atStart=>exact ⟨0,gs,rfl,Nat.zero_le _,CK,HG2,HGD,HGL2⟩
         case round =>
          clear CK HG2 HGD HGL2;obtain ⟨k,gs,rfl,hk,CK,HG2,HGD,HGL2⟩:=hrel;obtain ⟨la,lc,rfl⟩:=CK.out.row.shape;generalize wr=we at *;have K:=ι CK.out.bel;have hin:i<N:=HIN.out;have hrN:rl.length≤N:=HRLN.out
          by_cases hkl:k<rl.length
          case neg =>
           have HGS3:=ι (show gs.map Ma.ofN=(RR.take (i+1)).flatten by rw [HTK.out,HG2.out,show rl.take k=rl from List.take_of_length_le (by omega)]);have HGL3:=ι (show gs.length≤(i+1)*64 by have:=HGL2.out; omega);go_upto_region 13 with (fail);refine Rg.wl ?_;refine Rg.lm 57 (.int .i64 ((k:Nat):Int)) ?_;go_frame;refine Rg.lr 58 (exec_field _ rfl rfl (chF2 _ _)) ?_;go_frame;refine Rg.lr 59 (Rg.exec_load (v:=.slice (some ⟨rb,ro,none⟩) N rc) _ _ rfl ⟨cb,2,none⟩ rfl (Rg.run_loadSl _ _ Tryz.underlying52 ((Below.cell (p:=⟨cb,2,none⟩) K.out A2.out.lt).trans A2.out.cell))) ?_;go_frame;refine Rg.lm 60 (.int .i64 ((i:Nat):Int)) ?_;go_frame;refine Rg.lr 61 (exec_indexS slPermss _ _ rfl rb (ro) (N) rc (i) rfl rfl hin) ?_;go_frame;refine Rg.lr 62 (Rg.exec_load (v:=.slice ua rl.length uc) _ _ rfl ⟨rb,ro+i,none⟩ rfl (Rg.run_loadSl _ _ Tryz.underlying22 ((Below.cell (p:=⟨rb,ro+i,none⟩) K.out CR.out.lt).trans CR.out.cell))) ?_;go_frame
           refine Rg.lr 63 (exec_len _ _ _ rfl Tryz.underlying22 _ _ _ rfl) ?_;go_frame;refine Rg.lr 64 (exec_bin (R:=.bool false) .lss _ _ _ rfl rfl rfl (b_lss _ Rg.dF)) ?_;go_frame;go_upto_region 9 with (fail);refine Rg.wl ?_;refine Rg.lm 32 (.int .i64 ((i:Nat):Int)) ?_;go_frame;refine Rg.lr 33 (exec_bin (R:=.int .i64 (((i+1):Nat):Int)) .add _ _ _ rfl rfl rfl (b_add _ (by omega) (by omega))) ?_;go_frame;refine Rg.la 5 (.int .i64 (((i+1):Nat):Int)) ?_;go_frame;go_wp2
           go_roundw
           case rel=>exact ⟨i+1,gs,by go_num,HIN.out,CK,HGS3,HGD,HGL3⟩
           case measure=>simp [intOf]; have:=HIN.out; omega
          case pos =>
           have HKL:=ι hkl;obtain ⟨ub,uo,sa0,sc,e1,hub,huc,hus⟩:=rows_get RI.out (i:=k) hkl;subst e1;obtain ⟨x,hx⟩:∃ x,Hid (rl[k]'hkl=x):=⟨_,ι rfl⟩;rw [hx.out] at huc hus;have CS:=ι (CL.mk huc hub);have XV0:=ι hus;have XV:=ι (NpI.mk (Rg.Ints.below hus K.out))
           have hxl9:x.length≤1000000000:=by
            obtain ⟨_,_,_,_,h5,_⟩:=hus.shape;exact h5
           have HXM:=ι (show x∈rl by rw [← hx.out]; exact List.getElem_mem _);clear huc hus hub
           by_cases hxl:x.length=N
           case neg =>
            have HCD:=ι (HCN.out (fun h=>hxl (by have:=(HPRM.out h x HXM.out).1; omega)));go_upto_region 13 with (fail);refine Rg.wl ?_;refine Rg.lm 57 (.int .i64 ((k:Nat):Int)) ?_;go_frame;refine Rg.lr 58 (exec_field _ rfl rfl (chF2 _ _)) ?_;go_frame;refine Rg.lr 59 (Rg.exec_load (v:=.slice (some ⟨rb,ro,none⟩) N rc) _ _ rfl ⟨cb,2,none⟩ rfl (Rg.run_loadSl _ _ Tryz.underlying52 ((Below.cell (p:=⟨cb,2,none⟩) K.out A2.out.lt).trans A2.out.cell))) ?_;go_frame;refine Rg.lm 60 (.int .i64 ((i:Nat):Int)) ?_;go_frame;refine Rg.lr 61 (exec_indexS slPermss _ _ rfl rb (ro) (N) rc (i) rfl rfl hin) ?_;go_frame;refine Rg.lr 62 (Rg.exec_load (v:=.slice (some ⟨ub,uo,none⟩) rl.length uc) _ _ rfl ⟨rb,ro+i,none⟩ rfl (Rg.run_loadSl _ _ Tryz.underlying22 ((Below.cell (p:=⟨rb,ro+i,none⟩) K.out CR.out.lt).trans CR.out.cell))) ?_;go_frame;refine Rg.lr 63 (exec_len _ _ _ rfl Tryz.underlying22 _ _ _ rfl) ?_;go_frame
            refine Rg.lr 64 (exec_bin (R:=.bool true) .lss _ _ _ rfl rfl rfl (b_lss _ Rg.dT)) ?_;go_frame;go_upto_region 15 with (fail);refine Rg.wl ?_;refine Rg.lr 67 (exec_field _ rfl rfl (chF2 _ _)) ?_;go_frame;refine Rg.lr 68 (Rg.exec_load (v:=.slice (some ⟨rb,ro,none⟩) N rc) _ _ rfl ⟨cb,2,none⟩ rfl (Rg.run_loadSl _ _ Tryz.underlying52 ((Below.cell (p:=⟨cb,2,none⟩) K.out A2.out.lt).trans A2.out.cell))) ?_;go_frame;refine Rg.lm 69 (.int .i64 ((i:Nat):Int)) ?_;go_frame;refine Rg.lr 70 (exec_indexS slPermss _ _ rfl rb (ro) (N) rc (i) rfl rfl hin) ?_;go_frame;refine Rg.lr 71 (Rg.exec_load (v:=.slice (some ⟨ub,uo,none⟩) rl.length uc) _ _ rfl ⟨rb,ro+i,none⟩ rfl (Rg.run_loadSl _ _ Tryz.underlying22 ((Below.cell (p:=⟨rb,ro+i,none⟩) K.out CR.out.lt).trans CR.out.cell))) ?_;go_frame;refine Rg.lm 72 (.int .i64 ((k:Nat):Int)) ?_;go_frame;refine Rg.lr 73 (exec_indexS slPerms _ _ rfl ub (uo) (rl.length) uc (k) rfl rfl HKL.out) ?_;go_frame
            refine Rg.lr 74 (Rg.exec_load (v:=.slice sa0 x.length sc) _ _ rfl ⟨ub,uo+k,none⟩ rfl (Rg.run_loadSl _ _ Tryz.underlying51 ((Below.cell (p:=⟨ub,uo+k,none⟩) K.out CS.out.lt).trans CS.out.cell))) ?_;go_frame;refine Rg.lr 75 (exec_len _ _ _ rfl Tryz.underlying51 _ _ _ rfl) ?_;go_frame;refine Rg.lm 76 (.int .i64 ((N:Nat):Int)) ?_;go_frame;refine Rg.lr 77 (exec_bin (R:=.bool true) .neq _ _ _ rfl rfl rfl (b_neqB _ Rg.dT)) ?_;go_frame;refine Rg.lm 78 (.bool true) ?_;go_frame;refine listW_pass (some 79) (by kernel_rfl) rfl ?_;go_frame;refine listW_pass (some 80) (by kernel_rfl) rfl ?_;go_frame;refine listW_pass (some 81) (by kernel_rfl) rfl ?_;go_frame;refine listW_pass (some 82) (by kernel_rfl) rfl ?_;go_frame;refine listW_pass (some 83) (by kernel_rfl) rfl ?_;go_frame;refine listW_pass (some 84) (by kernel_rfl) rfl ?_;go_frame;refine listW_pass (some 85) (by kernel_rfl) rfl ?_;go_frame
            refine listW_pass (some 86) (by kernel_rfl) rfl ?_;go_frame;refine listW_pass (some 87) (by kernel_rfl) rfl ?_;go_frame;refine listW_pass (some 88) (by kernel_rfl) rfl ?_;go_frame;refine Rg.lr 89 (exec_pickT (v:=.bool true) _ _ _ rfl rfl rfl) ?_;go_frame;go_upto_region 16 with (fail);refine Rg.wl ?_;refine Rg.la 2 (.int .i64 ((3:Nat):Int)) ?_;go_frame;go_wp2;go_ret;exact ⟨by rw [HCD.out]; rfl,Rg.acc HWB.out K.out⟩
           case pos =>
            obtain ⟨ck,hck⟩:∃ c,Hid (Ma.pchk x=c):=⟨_,ι rfl⟩;have hxl1:x.length≤N:=Nat.le_of_eq hxl;have hxl2:N≤x.length:=Nat.le_of_eq hxl.symm;have HXL:=ι hxl;clear hxl
            by_cases hc0:ck=0
            case neg =>
             have HCD:=ι (HCN.out (fun h=>hc0 (by rw [← hck.out]; exact (HPRM.out h x HXM.out).2)));go_upto_region 13 with (fail);refine Rg.wl ?_;refine Rg.lm 57 (.int .i64 ((k:Nat):Int)) ?_;go_frame;refine Rg.lr 58 (exec_field _ rfl rfl (chF2 _ _)) ?_;go_frame;refine Rg.lr 59 (Rg.exec_load (v:=.slice (some ⟨rb,ro,none⟩) N rc) _ _ rfl ⟨cb,2,none⟩ rfl (Rg.run_loadSl _ _ Tryz.underlying52 ((Below.cell (p:=⟨cb,2,none⟩) K.out A2.out.lt).trans A2.out.cell))) ?_;go_frame;refine Rg.lm 60 (.int .i64 ((i:Nat):Int)) ?_;go_frame;refine Rg.lr 61 (exec_indexS slPermss _ _ rfl rb (ro) (N) rc (i) rfl rfl hin) ?_;go_frame;refine Rg.lr 62 (Rg.exec_load (v:=.slice (some ⟨ub,uo,none⟩) rl.length uc) _ _ rfl ⟨rb,ro+i,none⟩ rfl (Rg.run_loadSl _ _ Tryz.underlying22 ((Below.cell (p:=⟨rb,ro+i,none⟩) K.out CR.out.lt).trans CR.out.cell))) ?_;go_frame;refine Rg.lr 63 (exec_len _ _ _ rfl Tryz.underlying22 _ _ _ rfl) ?_;go_frame
             refine Rg.lr 64 (exec_bin (R:=.bool true) .lss _ _ _ rfl rfl rfl (b_lss _ Rg.dT)) ?_;go_frame;go_upto_region 15 with (fail);refine Rg.wl ?_;refine Rg.lr 67 (exec_field _ rfl rfl (chF2 _ _)) ?_;go_frame;refine Rg.lr 68 (Rg.exec_load (v:=.slice (some ⟨rb,ro,none⟩) N rc) _ _ rfl ⟨cb,2,none⟩ rfl (Rg.run_loadSl _ _ Tryz.underlying52 ((Below.cell (p:=⟨cb,2,none⟩) K.out A2.out.lt).trans A2.out.cell))) ?_;go_frame;refine Rg.lm 69 (.int .i64 ((i:Nat):Int)) ?_;go_frame;refine Rg.lr 70 (exec_indexS slPermss _ _ rfl rb (ro) (N) rc (i) rfl rfl hin) ?_;go_frame;refine Rg.lr 71 (Rg.exec_load (v:=.slice (some ⟨ub,uo,none⟩) rl.length uc) _ _ rfl ⟨rb,ro+i,none⟩ rfl (Rg.run_loadSl _ _ Tryz.underlying22 ((Below.cell (p:=⟨rb,ro+i,none⟩) K.out CR.out.lt).trans CR.out.cell))) ?_;go_frame;refine Rg.lm 72 (.int .i64 ((k:Nat):Int)) ?_;go_frame;refine Rg.lr 73 (exec_indexS slPerms _ _ rfl ub (uo) (rl.length) uc (k) rfl rfl HKL.out) ?_;go_frame
             refine Rg.lr 74 (Rg.exec_load (v:=.slice sa0 x.length sc) _ _ rfl ⟨ub,uo+k,none⟩ rfl (Rg.run_loadSl _ _ Tryz.underlying51 ((Below.cell (p:=⟨ub,uo+k,none⟩) K.out CS.out.lt).trans CS.out.cell))) ?_;go_frame;refine Rg.lr 75 (exec_len _ _ _ rfl Tryz.underlying51 _ _ _ rfl) ?_;go_frame;refine Rg.lm 76 (.int .i64 ((N:Nat):Int)) ?_;go_frame;refine Rg.lr 77 (exec_bin (R:=.bool false) .neq _ _ _ rfl rfl rfl (b_neqB _ Rg.dF)) ?_;go_frame;refine Rg.lm 78 (.bool false) ?_;go_frame;refine Rg.lW 79 (exec_field _ rfl rfl (chF2 _ _)) ?_;go_frame;refine Rg.lW 80 (Rg.exec_load (v:=.slice (some ⟨rb,ro,none⟩) N rc) _ _ rfl ⟨cb,2,none⟩ rfl (Rg.run_loadSl _ _ Tryz.underlying52 ((Below.cell (p:=⟨cb,2,none⟩) K.out A2.out.lt).trans A2.out.cell))) ?_;go_frame;refine Rg.lW 81 (Rg.xm (.int .i64 ((i:Nat):Int)) _ rfl rfl) ?_;go_frame;refine Rg.lW 82 (exec_indexS slPermss _ _ rfl rb (ro) (N) rc (i) rfl rfl hin) ?_;go_frame
             refine Rg.lW 83 (Rg.exec_load (v:=.slice (some ⟨ub,uo,none⟩) rl.length uc) _ _ rfl ⟨rb,ro+i,none⟩ rfl (Rg.run_loadSl _ _ Tryz.underlying22 ((Below.cell (p:=⟨rb,ro+i,none⟩) K.out CR.out.lt).trans CR.out.cell))) ?_;go_frame;refine Rg.lW 84 (Rg.xm (.int .i64 ((k:Nat):Int)) _ rfl rfl) ?_;go_frame;refine Rg.lW 85 (exec_indexS slPerms _ _ rfl ub (uo) (rl.length) uc (k) rfl rfl HKL.out) ?_;go_frame;refine Rg.lW 86 (Rg.exec_load (v:=.slice sa0 x.length sc) _ _ rfl ⟨ub,uo+k,none⟩ rfl (Rg.run_loadSl _ _ Tryz.underlying51 ((Below.cell (p:=⟨ub,uo+k,none⟩) K.out CS.out.lt).trans CS.out.cell))) ?_;go_frame;refine listW_ask (some 87) rfl rfl _ _ (exec_fn1 119 _ _ rfl rfl (Wpcl0 _ _)) ?_;refine (refPermCheck_any _ x we XV.out.i).mono ?_;rintro e1 w168 ⟨rfl,hb⟩;rw [hck.out];refine ⟨_,rfl,?_⟩;go_frame;replace CK:=ι (CK.out.below hb);replace XV:=ι (XV.out.below hb)
             replace K:=ι (Rg.acc K.out hb);clear hb;refine Rg.lW 88 (exec_bin (R:=.bool true) .neq _ _ _ rfl rfl rfl (b_neqB _ (decide_eq_true hc0))) ?_;go_frame;refine Rg.lr 89 (exec_pickF (v:=.bool true) _ _ _ rfl rfl rfl) ?_;go_frame;go_upto_region 16 with (fail);refine Rg.wl ?_;refine Rg.la 2 (.int .i64 ((3:Nat):Int)) ?_;go_frame;go_wp2;go_ret;exact ⟨by rw [HCD.out]; rfl,Rg.acc HWB.out K.out⟩
            case pos =>
             obtain ⟨s,hs,hsk⟩:=Ma.okL_ofN (Ma.pchk_zero (hck.out.trans hc0)).2.2;have HGS0:=ι (show Gd N s from ⟨hsk,by rw [← HXL.out,hs,Ma.len_ofN]⟩);have HS:=ι hs;have HC0:=ι hc0
             have hgl:gs.length≤8192:=by have:=HGL2.out; omega
             clear hs hsk;go_upto_region 13 with (fail);refine Rg.wl ?_;refine Rg.lm 57 (.int .i64 ((k:Nat):Int)) ?_;go_frame;refine Rg.lr 58 (exec_field _ rfl rfl (chF2 _ _)) ?_;go_frame;refine Rg.lr 59 (Rg.exec_load (v:=.slice (some ⟨rb,ro,none⟩) N rc) _ _ rfl ⟨cb,2,none⟩ rfl (Rg.run_loadSl _ _ Tryz.underlying52 ((Below.cell (p:=⟨cb,2,none⟩) K.out A2.out.lt).trans A2.out.cell))) ?_;go_frame;refine Rg.lm 60 (.int .i64 ((i:Nat):Int)) ?_;go_frame;refine Rg.lr 61 (exec_indexS slPermss _ _ rfl rb (ro) (N) rc (i) rfl rfl hin) ?_;go_frame;refine Rg.lr 62 (Rg.exec_load (v:=.slice (some ⟨ub,uo,none⟩) rl.length uc) _ _ rfl ⟨rb,ro+i,none⟩ rfl (Rg.run_loadSl _ _ Tryz.underlying22 ((Below.cell (p:=⟨rb,ro+i,none⟩) K.out CR.out.lt).trans CR.out.cell))) ?_;go_frame;refine Rg.lr 63 (exec_len _ _ _ rfl Tryz.underlying22 _ _ _ rfl) ?_;go_frame;refine Rg.lr 64 (exec_bin (R:=.bool true) .lss _ _ _ rfl rfl rfl (b_lss _ Rg.dT)) ?_;go_frame
             go_upto_region 15 with (fail);refine Rg.wl ?_;refine Rg.lr 67 (exec_field _ rfl rfl (chF2 _ _)) ?_;go_frame;refine Rg.lr 68 (Rg.exec_load (v:=.slice (some ⟨rb,ro,none⟩) N rc) _ _ rfl ⟨cb,2,none⟩ rfl (Rg.run_loadSl _ _ Tryz.underlying52 ((Below.cell (p:=⟨cb,2,none⟩) K.out A2.out.lt).trans A2.out.cell))) ?_;go_frame;refine Rg.lm 69 (.int .i64 ((i:Nat):Int)) ?_;go_frame;refine Rg.lr 70 (exec_indexS slPermss _ _ rfl rb (ro) (N) rc (i) rfl rfl hin) ?_;go_frame;refine Rg.lr 71 (Rg.exec_load (v:=.slice (some ⟨ub,uo,none⟩) rl.length uc) _ _ rfl ⟨rb,ro+i,none⟩ rfl (Rg.run_loadSl _ _ Tryz.underlying22 ((Below.cell (p:=⟨rb,ro+i,none⟩) K.out CR.out.lt).trans CR.out.cell))) ?_;go_frame;refine Rg.lm 72 (.int .i64 ((k:Nat):Int)) ?_;go_frame;refine Rg.lr 73 (exec_indexS slPerms _ _ rfl ub (uo) (rl.length) uc (k) rfl rfl HKL.out) ?_;go_frame;refine Rg.lr 74 (Rg.exec_load (v:=.slice sa0 x.length sc) _ _ rfl ⟨ub,uo+k,none⟩ rfl (Rg.run_loadSl _ _ Tryz.underlying51 ((Below.cell (p:=⟨ub,uo+k,none⟩) K.out CS.out.lt).trans CS.out.cell))) ?_;go_frame
             refine Rg.lr 75 (exec_len _ _ _ rfl Tryz.underlying51 _ _ _ rfl) ?_;go_frame;refine Rg.lm 76 (.int .i64 ((N:Nat):Int)) ?_;go_frame;refine Rg.lr 77 (exec_bin (R:=.bool false) .neq _ _ _ rfl rfl rfl (b_neqB _ Rg.dF)) ?_;go_frame;refine Rg.lm 78 (.bool false) ?_;go_frame;refine Rg.lW 79 (exec_field _ rfl rfl (chF2 _ _)) ?_;go_frame;refine Rg.lW 80 (Rg.exec_load (v:=.slice (some ⟨rb,ro,none⟩) N rc) _ _ rfl ⟨cb,2,none⟩ rfl (Rg.run_loadSl _ _ Tryz.underlying52 ((Below.cell (p:=⟨cb,2,none⟩) K.out A2.out.lt).trans A2.out.cell))) ?_;go_frame;refine Rg.lW 81 (Rg.xm (.int .i64 ((i:Nat):Int)) _ rfl rfl) ?_;go_frame;refine Rg.lW 82 (exec_indexS slPermss _ _ rfl rb (ro) (N) rc (i) rfl rfl hin) ?_;go_frame;refine Rg.lW 83 (Rg.exec_load (v:=.slice (some ⟨ub,uo,none⟩) rl.length uc) _ _ rfl ⟨rb,ro+i,none⟩ rfl (Rg.run_loadSl _ _ Tryz.underlying22 ((Below.cell (p:=⟨rb,ro+i,none⟩) K.out CR.out.lt).trans CR.out.cell))) ?_;go_frame
             refine Rg.lW 84 (Rg.xm (.int .i64 ((k:Nat):Int)) _ rfl rfl) ?_;go_frame;refine Rg.lW 85 (exec_indexS slPerms _ _ rfl ub (uo) (rl.length) uc (k) rfl rfl HKL.out) ?_;go_frame;refine Rg.lW 86 (Rg.exec_load (v:=.slice sa0 x.length sc) _ _ rfl ⟨ub,uo+k,none⟩ rfl (Rg.run_loadSl _ _ Tryz.underlying51 ((Below.cell (p:=⟨ub,uo+k,none⟩) K.out CS.out.lt).trans CS.out.cell))) ?_;go_frame;refine listW_ask (some 87) rfl rfl _ _ (exec_fn1 119 _ _ rfl rfl (Wpcl0 _ _)) ?_;refine (refPermCheck_any _ x we XV.out.i).mono ?_;rintro e1 w189 ⟨rfl,hb⟩;rw [hck.out];refine ⟨_,rfl,?_⟩;go_frame;replace CK:=ι (CK.out.below hb);replace XV:=ι (XV.out.below hb);replace K:=ι (Rg.acc K.out hb);clear hb;refine Rg.lW 88 (exec_bin (R:=.bool false) .neq _ _ _ rfl rfl rfl (b_neqB _ (decide_eq_false (fun h=>h hc0)))) ?_;go_frame;refine Rg.lr 89 (exec_pickF (v:=.bool false) _ _ _ rfl rfl rfl) ?_;go_frame
             go_upto_region 17 with (fail);refine Rg.wl ?_;refine Rg.lm 90 (.slice la gs.length lc) ?_;go_frame;refine Rg.lr 91 (exec_field _ rfl rfl (chF2 _ _)) ?_;go_frame;refine Rg.lr 92 (Rg.exec_load (v:=.slice (some ⟨rb,ro,none⟩) N rc) _ _ rfl ⟨cb,2,none⟩ rfl (Rg.run_loadSl _ _ Tryz.underlying52 ((Below.cell (p:=⟨cb,2,none⟩) K.out A2.out.lt).trans A2.out.cell))) ?_;go_frame;refine Rg.lm 93 (.int .i64 ((i:Nat):Int)) ?_;go_frame;refine Rg.lr 94 (exec_indexS slPermss _ _ rfl rb (ro) (N) rc (i) rfl rfl hin) ?_;go_frame;refine Rg.lr 95 (Rg.exec_load (v:=.slice (some ⟨ub,uo,none⟩) rl.length uc) _ _ rfl ⟨rb,ro+i,none⟩ rfl (Rg.run_loadSl _ _ Tryz.underlying22 ((Below.cell (p:=⟨rb,ro+i,none⟩) K.out CR.out.lt).trans CR.out.cell))) ?_;go_frame;refine Rg.lm 96 (.int .i64 ((k:Nat):Int)) ?_;go_frame;refine Rg.lr 97 (exec_indexS slPerms _ _ rfl ub (uo) (rl.length) uc (k) rfl rfl HKL.out) ?_;go_frame
             refine Rg.lr 98 (Rg.exec_load (v:=.slice sa0 x.length sc) _ _ rfl ⟨ub,uo+k,none⟩ rfl (Rg.run_loadSl _ _ Tryz.underlying51 ((Below.cell (p:=⟨ub,uo+k,none⟩) K.out CS.out.lt).trans CS.out.cell))) ?_;go_frame;obtain ⟨a9,c9,X9,r1,hpu⟩:=CK.out.push (Eq.mp (congrArg (fun z=>Rg.Ints w0 (.slice sa0 x.length sc) z) HS.out) XV0.out:Rg.NP w0 (.slice sa0 x.length sc) s) ⟨_,_,_,rfl⟩ (by omega) 22;refine Rg.lr 99 (Rg.exec_buildSlice _ _ _ rfl (.slice sa0 x.length sc) rfl (run_build1P w189 _ ⟨_,_,_,rfl⟩)) ?_;go_frame;refine Rg.lr 100 (Rg.exec_append _ _ _ rfl rfl rfl r1) ?_;go_frame;refine Rg.la 4 (.slice a9 (gs.length+1) c9) ?_;go_frame;have CK2:=ι hpu
             have HG3:=ι (show (gs++[s]).map Ma.ofN=(RR.take i).flatten++rl.take (k+1) by
              rw [List.map_append,HG2.out,List.take_add_one,List.getElem?_eq_getElem HKL.out,hx.out,HS.out,List.append_assoc]
              rfl)
             have HGD3:=ι (show ∀ z∈gs++[s],Gd N z from fun z hz=>by
              rcases List.mem_append.1 hz with hz | hz
              ·exact HGD.out z hz
              ·rw [List.mem_singleton] at hz; subst hz; exact HGS0.out)
             have HGL3:=ι (show (gs++[s]).length≤i*64+(k+1) by rw [List.length_append]; have:=HGL2.out; simp; omega);clear r1 hpu;go_upto_region 14 with (fail);refine Rg.wl ?_;refine Rg.lm 65 (.int .i64 ((k:Nat):Int)) ?_;go_frame;refine Rg.lr 66 (exec_bin (R:=.int .i64 (((k+1):Nat):Int)) .add _ _ _ rfl rfl rfl (b_add _ (by omega) (by omega))) ?_;go_frame;refine Rg.la 6 (.int .i64 (((k+1):Nat):Int)) ?_;go_frame;go_wp2
             go_roundw
             case rel=>exact ⟨k+1,gs++[s],by go_num,HKL.out,CK2,HG3,HGD3,HGL3⟩
             case measure=>simp [intOf]; have:=HKL.out; omega
end Go.Proofs.YthehbckogieimaaGreat

namespace Go.Proofs.YthehbckogieimaaGreat
open Go.RowKit
open Go.Proofs
open Go.Proofs.Ob
open Go.Proofs.Cm (Gd)
attribute [local irreducible] Go.Calls Go.wpList
theorem Kdcl0 (args:Array Value) (w:World):(callFunc 43 args).run Tryz.prog w=.ok (.enter 43 args) w:=by kernel_rfl
end Go.Proofs.YthehbckogieimaaGreat

namespace Go.Proofs.YthehbckogieimaaGreat
open Go.RowKit
open Go.Proofs
open Go.Proofs.Ob
open Go.Proofs.Cm (Gd Gr IsChain ap)
attribute [local irreducible] Go.Calls Go.wpList
theorem Akcl2 (args:Array Value) (w:World):(callFunc 208 args).run Tryz.prog w=.ok (.enter 208 args) w:=by kernel_rfl
theorem Akcl3 (args:Array Value) (w:World):(callFunc 209 args).run Tryz.prog w=.ok (.enter 209 args) w:=by kernel_rfl
theorem r9Member_any {n:Int} {ov rv xv:Value} {OO:List (List Int)} {RR:List (List (List Int))} {xl:List Int} {w:World} (h:ChEqR w ov rv OO RR) (hx:Rg.Ints w xv xl) :
  Calls Tryz.prog 208 #[.agg #[.int .i64 n,ov,rv],xv] w fun e w'=>e=.returned (.int .i64 (bothC n OO RR xl))∧Below w.heap.size w w':=by
 obtain ⟨oa,oc,rfl,-⟩:=h.1.shape;obtain ⟨ra,rc,rfl⟩:=h.2.shape;obtain ⟨xa,xc,rfl,-⟩:=hx.shape;have HC:=ι h;have HX:=ι hx;have K:=ι (Below.refl w.heap.size w);clear h hx
 go_enter Tryz.func208,Tryz.ntmps208
 go_upto_region 0 with (fail);refine Rg.wl ?_;have hbx:=box3 w (.int .i64 n) (.slice oa OO.length oc) (.slice ra RR.length rc);refine Rg.lr 2 (Rg.exec_box _ _ rfl rfl) ?_;go_frame;have hb:=(Below.refl w.heap.size w).alloc (Nat.le_refl _) (.cells #[.int .i64 n,.slice oa OO.length oc,.slice ra RR.length rc] 54);generalize w.alloc (.cells #[.int .i64 n,.slice oa OO.length oc,.slice ra RR.length rc] 54)=w1 at *;replace HC:=ι (HC.out.below hb);replace HX:=ι (HX.out.below hb);replace K:=ι (Rg.acc K.out hb);clear hb;have A0:=ι hbx.1;have A1:=ι hbx.2.1;have A2:=ι hbx.2.2;clear hbx;refine Rg.la 4 (.int .i64 ((0:Nat):Int)) ?_;go_frame;obtain ⟨ck,hck⟩:∃ c,Hid (chCode n OO RR=c):=⟨_,ι rfl⟩;obtain ⟨pk,hpk⟩:∃ c,Hid (Ma.pchk xl=c):=⟨_,ι rfl⟩;go_upto_region 1 with (fail);refine Rg.wl ?_;refine Rg.lr 7 (Rg.exec_load (v:=(.agg #[.int .i64 n,.slice oa OO.length oc,.slice ra RR.length rc])) _ _ rfl ⟨w.heap.size,0,none⟩ rfl (run_loadC3 A0.out.cell A1.out.cell A2.out.cell)) ?_;go_frame
 refine Rg.lk 8 (exec_fn1 43 _ _ rfl rfl (Kdcl0 _ _)) ?_;refine (rCheck_any HC.out).mono ?_;rintro e1 w2 ⟨rfl,hb⟩;rw [hck.out];refine ⟨_,rfl,?_⟩;go_frame;replace HC:=ι (HC.out.below hb);replace HX:=ι (HX.out.below hb);replace A0:=ι (A0.out.below hb);replace A1:=ι (A1.out.below hb);replace A2:=ι (A2.out.below hb);replace K:=ι (Rg.acc K.out hb);clear hb;refine Rg.la 5 (.int .i64 ck) ?_;go_frame
 by_cases h0:ck=0
 case neg =>
  skip
  go_upto_region 2 with (fail);refine Rg.wl ?_;refine Rg.lm 9 (.int .i64 ck) ?_;go_frame;refine Rg.lr 10 (exec_bin (R:=.bool true) .neq _ _ _ rfl rfl rfl (b_neqB _ (decide_eq_true h0))) ?_;go_frame;go_upto_region 3 with (fail);refine Rg.wl ?_;refine Rg.lm 11 (.int .i64 ck) ?_;go_frame;refine Rg.la 4 (.int .i64 ck) ?_;go_frame;go_wp2;go_ret;exact ⟨by rw [bothC_bad (by rw [hck.out]; exact h0),hck.out]; rfl,K.out⟩
 case pos =>
  have HZ:=ι (hck.out.trans h0);go_upto_region 2 with (fail);refine Rg.wl ?_;refine Rg.lm 9 (.int .i64 ck) ?_;go_frame;refine Rg.lr 10 (exec_bin (R:=.bool false) .neq _ _ _ rfl rfl rfl (b_neqB _ (decide_eq_false (fun e=>e h0)))) ?_;go_frame;clear h0;go_upto_region 4 with (fail);refine Rg.wl ?_;refine Rg.lm 12 (.slice xa xl.length xc) ?_;go_frame;refine Rg.lk 13 (exec_fn1 119 _ _ rfl rfl (Wpcl0 _ _)) ?_;refine (refPermCheck_any _ _ w2 HX.out).mono ?_;rintro e1 w3 ⟨rfl,hb⟩;rw [hpk.out];refine ⟨_,rfl,?_⟩;go_frame;replace HC:=ι (HC.out.below hb);replace HX:=ι (HX.out.below hb);replace A0:=ι (A0.out.below hb);replace A1:=ι (A1.out.below hb);replace A2:=ι (A2.out.below hb);replace K:=ι (Rg.acc K.out hb);clear hb;refine Rg.la 6 (.int .i64 pk) ?_;go_frame
  by_cases h1:pk=0
  case neg =>
   skip
   go_upto_region 5 with (fail);refine Rg.wl ?_;refine Rg.lm 14 (.int .i64 pk) ?_;go_frame;refine Rg.lr 15 (exec_bin (R:=.bool true) .neq _ _ _ rfl rfl rfl (b_neqB _ (decide_eq_true h1))) ?_;go_frame;go_upto_region 6 with (fail);refine Rg.wl ?_;refine Rg.lm 16 (.int .i64 pk) ?_;go_frame;refine Rg.la 4 (.int .i64 pk) ?_;go_frame;go_wp2;go_ret;exact ⟨by rw [bothC_perm HZ.out (by rw [hpk.out]; exact h1),hpk.out]; rfl,K.out⟩
  case pos =>
   have HP:=ι (hpk.out.trans h1);go_upto_region 5 with (fail);refine Rg.wl ?_;refine Rg.lm 14 (.int .i64 pk) ?_;go_frame;refine Rg.lr 15 (exec_bin (R:=.bool false) .neq _ _ _ rfl rfl rfl (b_neqB _ (decide_eq_false (fun e=>e h1)))) ?_;go_frame;clear h1
   by_cases h2:(xl.length:Int)=n
   case neg =>
    skip
    go_upto_region 7 with (fail);refine Rg.wl ?_;refine Rg.lm 17 (.slice xa xl.length xc) ?_;go_frame;refine Rg.lr 18 (exec_len _ _ _ rfl Tryz.underlying51 _ _ _ rfl) ?_;go_frame;refine Rg.lr 19 (exec_field _ rfl rfl (chF0 _ _)) ?_;go_frame;refine Rg.lr 20 (Rg.exec_load (v:=.int .i64 n) _ _ rfl ⟨w.heap.size,0,none⟩ rfl (run_loadInt A0.out.cell)) ?_;go_frame;refine Rg.lr 21 (exec_bin (R:=.bool true) .neq _ _ _ rfl rfl rfl (b_neqB _ (decide_eq_true h2))) ?_;go_frame;go_upto_region 8 with (fail);refine Rg.wl ?_;refine Rg.la 4 (.int .i64 ((10:Nat):Int)) ?_;go_frame;go_wp2;go_ret;exact ⟨by rw [bothC_len HZ.out HP.out h2]; rfl,K.out⟩
   case pos =>
    skip
    go_upto_region 7 with (fail);refine Rg.wl ?_;refine Rg.lm 17 (.slice xa xl.length xc) ?_;go_frame;refine Rg.lr 18 (exec_len _ _ _ rfl Tryz.underlying51 _ _ _ rfl) ?_;go_frame;refine Rg.lr 19 (exec_field _ rfl rfl (chF0 _ _)) ?_;go_frame;refine Rg.lr 20 (Rg.exec_load (v:=.int .i64 n) _ _ rfl ⟨w.heap.size,0,none⟩ rfl (run_loadInt A0.out.cell)) ?_;go_frame;refine Rg.lr 21 (exec_bin (R:=.bool false) .neq _ _ _ rfl rfl rfl (b_neqB _ (decide_eq_false (fun e=>e h2)))) ?_;go_frame;go_upto_region 9 with (fail);refine Rg.wl ?_;refine Rg.la 4 (.int .i64 ((0:Nat):Int)) ?_;go_frame;go_wp2;go_ret;exact ⟨by rw [bothC_ok HZ.out HP.out h2]; rfl,K.out⟩
theorem r9least_any {N:Nat} {H:List Nat→Prop} {O:List (List Nat)} {R:List (List (List Nat))} (hn1:1≤N) (hn2:N≤64) (hH:Cm.IsG N H) (hch:IsChain N H O R) {ov rv xv:Value} {x:List Nat} {w:World} (h:ChEqR w ov rv (O.map Ma.ofN) (R.map (List.map Ma.ofN))) (hx:Rg.NP w xv x) (gx:Gd N x) :
  Calls Tryz.prog 209 #[.agg #[.int .i64 ((N:Nat):Int),ov,rv],xv] w (LsP N H x w):=by
 obtain ⟨ob,oo,oc,rb,ro,rc,rfl,rfl,-,-⟩:=level_rows hch h (i:=0) hn1;obtain ⟨xa,xo,xc,rfl⟩:=FP.shape' (FP.of_np hx) gx hn1;have HH:=ι hH;have HCH:=ι hch;have CE:=ι h;have HX:=ι hx;have GX:=ι gx;have K:=ι (Below.refl w.heap.size w);clear h hx gx hH hch
 go_enter Tryz.func209,Tryz.ntmps209
 go_upto_region 0 with (fail);refine Rg.wl ?_;have hbx:=box3 w (.int .i64 ((N:Nat):Int)) (.slice (some ⟨ob,oo,none⟩) N oc) (.slice (some ⟨rb,ro,none⟩) N rc);refine Rg.lr 2 (Rg.exec_box _ _ rfl rfl) ?_;go_frame;have hb:=(Below.refl w.heap.size w).alloc (Nat.le_refl _) (.cells #[.int .i64 ((N:Nat):Int),.slice (some ⟨ob,oo,none⟩) N oc,.slice (some ⟨rb,ro,none⟩) N rc] 54);generalize w.alloc (.cells #[.int .i64 ((N:Nat):Int),.slice (some ⟨ob,oo,none⟩) N oc,.slice (some ⟨rb,ro,none⟩) N rc] 54)=w1 at *;replace CE:=ι (CE.out.below hb);replace HX:=ι (HX.out.below hb);replace K:=ι (Rg.acc K.out hb);clear hb;have A0:=ι hbx.1;have A1:=ι hbx.2.1;have A2:=ι hbx.2.2;clear hbx;refine Rg.la 4 (.slice none 0 0) ?_;go_frame;go_upto_region 1 with (fail);refine Rg.wl ?_;refine Rg.lm 8 (.slice (some ⟨xa,xo,none⟩) N xc) ?_;go_frame;refine Rg.lk 9 (exec_fn1 70 _ _ rfl rfl (Wncl3 _ _)) ?_
 refine (Own_any _ (Ma.ofN x) w1 HX.out (by rw [Ma.len_ofN,GX.out.2]; omega)).mono ?_;rintro e1 w2 ⟨yv0,rfl,hyv,hb⟩;have NY0:=ι (show Rg.NP w2 yv0 x from Rg.Ints.of_row hyv (by rw [Ma.len_ofN,GX.out.2]; omega));clear hyv;refine ⟨_,rfl,?_⟩;go_frame;replace CE:=ι (CE.out.below hb);replace HX:=ι (HX.out.below hb);replace A0:=ι (A0.out.below hb);replace A1:=ι (A1.out.below hb);replace A2:=ι (A2.out.below hb);replace K:=ι (Rg.acc K.out hb);clear hb;refine Rg.la 1 (yv0) ?_;go_frame;go_upto_region 2 with (fail);refine Rg.wl ?_;refine Rg.la 5 (.int .i64 ((0:Nat):Int)) ?_;go_frame;have LC0:=ι (Cm.LcI.start HH.out GX.out);have K1:=ι (Below.refl w2.heap.size w2);clear HX;go_wp2
 go_loopw [1,5] (fun yv iv wr=>∃ (i:Nat) (y:List Nat),iv=.int .i64 ((i:Nat):Int)∧i≤N∧Hid (Rg.NP wr yv y)∧Hid (Cm.LcI H x i y)∧Hid (Below w2.heap.size w2 wr)) (fun _ iv _=>N - (intOf iv).toNat)
 case atStart=>exact ⟨0,_,rfl,Nat.zero_le _,NY0,LC0,K1⟩
 case round =>
  clear LC0 K1 NY0;obtain ⟨i,y,rfl,hi,NY,LC,K1⟩:=hrel;generalize wr=wd at *;have GY:=ι (LC.out.gd HH.out GX.out);obtain ⟨ya,yo,yc,rfl⟩:=FP.shape' (FP.of_np NY.out) GY.out hn1
  by_cases hin:i<N
  case neg =>
   have hie:i=N:=by omega
   have LD:=ι (show Cm.LstC N H x y from (show Cm.LcI H x N y by rw [← hie]; exact LC.out).done HH.out GX.out);have KT:=ι (show Below w.heap.size w wd from K.out.trans (K1.out.mono K.out.size));go_upto_region 3 with (fail);refine Rg.wl ?_;refine Rg.lm 10 (.int .i64 ((i:Nat):Int)) ?_;go_frame;refine Rg.lr 11 (exec_field _ rfl rfl (chF0 _ _)) ?_;go_frame;refine Rg.lr 12 (Rg.exec_load (v:=.int .i64 ((N:Nat):Int)) _ _ rfl ⟨w.heap.size,0,none⟩ rfl (run_loadInt ((Below.cell (p:=⟨w.heap.size,0,none⟩) K1.out A0.out.lt).trans A0.out.cell))) ?_;go_frame;refine Rg.lr 13 (exec_bin (R:=.bool false) .lss _ _ _ rfl rfl rfl (b_lss _ Rg.dF)) ?_;go_frame;go_upto_region 12 with (fail);refine Rg.wl ?_;refine Rg.lm 60 (.slice (some ⟨ya,yo,none⟩) N yc) ?_;go_frame;refine Rg.la 4 (.slice (some ⟨ya,yo,none⟩) N yc) ?_;go_frame;go_wp2;go_ret;exact ⟨_,y,rfl,NY.out,LD.out,GY.out,KT.out⟩
  case pos =>
   have HIN:=ι hin;obtain ⟨ob',oo',oc',rb',ro',rc',e1,e2,⟨ua,uc,hco,hoi⟩,⟨va,vc,hcr,hri⟩⟩:=level_rows HCH.out CE.out hin
   injection e1 with e1 _ e9
   subst e9
   injection e1 with e1
   injection e1 with e3 e4
   subst e3 e4
   injection e2 with e2 _ e9
   subst e9
   injection e2 with e2
   injection e2 with e3 e4
   subst e3 e4
   have HOQ:=ι (show ∀ q∈O.getD i [],q<N from fun q hq=>by
    obtain ⟨z,hz,rfl⟩:=(HCH.out.orb i q hin).1 hq
    exact Cm.ap_lt (HH.out.gd _ hz.1) hin)
   have hoL:=chain_len HH.out HCH.out hin;have HO1:=ι (show 1≤(O.getD i []).length from List.length_pos_of_mem ((HCH.out.orb i i hin).2 ⟨Ma.oneN N,⟨HH.out.one,Cm.Fx.one (by omega)⟩,Cm.ap_one hin⟩));have HLEN:=ι (HCH.out.len i hin);obtain ⟨ol,hol⟩:∃ ol:List Nat,Hid (O.getD i []=ol):=⟨_,ι rfl⟩;obtain ⟨rl,hrl⟩:∃ rl:List (List Nat),Hid (R.getD i []=rl):=⟨_,ι rfl⟩;rw [hol.out] at HOQ hco hoi hoL HO1 hcr hri HLEN;rw [hrl.out] at hri HLEN;obtain ⟨ua',uc',e6,-,-,-,hos⟩:=hoi.shape;rw [Ma.len_ofN] at e6
   injection e6 with e7 _ e8
   subst e7 e8;obtain ⟨ub,uo,rfl,hub,huc⟩:=hos (by rw [Ma.len_ofN]; exact HO1.out)
   have OC:=ι (show ∀ j (hj:j<ol.length),CL w2 ub (uo+j) (.int .i64 ((ol[j]:Nat):Int)) from fun j hj=>by
    have h5:=huc j (by rw [Ma.len_ofN]; exact hj);rw [Ma.get_ofN] at h5
    exact CL.mk h5 hub)
   have COw:=ι (hco.below K1.out);have CRw:=ι (hcr.below K1.out);have HRI:=ι (hri.below K1.out);have OCw:=ι (fun j hj=>(OC.out j hj).below K1.out);have A0w:=ι (A0.out.below K1.out);have A1w:=ι (A1.out.below K1.out);have A2w:=ι (A2.out.below K1.out)
   have YC:=ι (show ∀ q,q<N→CL wd ya (yo+q) (.int .i64 ((ap y q:Nat):Int)) from fun q hq=>by
    have h5:=(FP.of_np NY.out).ap GY.out hq
    exact CL.mk h5.cell h5.lt)
   have KI:=ι (Below.refl wd.heap.size wd);have HS:=ι (show (0:Nat)<ol.length∧∀ j (hj:j<ol.length),j<0→ap y (ol.getD 0 0)≤ap y ol[j] from ⟨HO1.out,fun j _ h=>absurd h (Nat.not_lt_zero _)⟩);clear hco hoi hcr hri hos huc hub OC;go_upto_region 3 with (fail);refine Rg.wl ?_;refine Rg.lm 10 (.int .i64 ((i:Nat):Int)) ?_;go_frame;refine Rg.lr 11 (exec_field _ rfl rfl (chF0 _ _)) ?_;go_frame;refine Rg.lr 12 (Rg.exec_load (v:=.int .i64 ((N:Nat):Int)) _ _ rfl ⟨w.heap.size,0,none⟩ rfl (run_loadInt ((Below.cell (p:=⟨w.heap.size,0,none⟩) K1.out A0.out.lt).trans A0.out.cell))) ?_;go_frame;refine Rg.lr 13 (exec_bin (R:=.bool true) .lss _ _ _ rfl rfl rfl (b_lss _ Rg.dT)) ?_;go_frame;go_upto_region 5 with (fail);refine Rg.wl ?_;refine Rg.la 6 (.int .i64 ((0:Nat):Int)) ?_;go_frame;go_upto_region 6 with (fail);refine Rg.wl ?_;refine Rg.la 7 (.int .i64 ((0:Nat):Int)) ?_;go_frame
   go_wp2
   go_loopw [6,7] (fun bv kv wr=>∃ (k b:Nat),bv=.int .i64 ((b:Nat):Int)∧kv=.int .i64 ((k:Nat):Int)∧k≤ol.length∧Hid (b<ol.length∧∀ j (hj:j<ol.length),j<k→ap y (ol.getD b 0)≤ap y ol[j])∧Hid (Below wd.heap.size wd wr)) (fun _ kv _=>ol.length - (intOf kv).toNat)
   case atStart=>exact ⟨0,0,rfl,rfl,Nat.zero_le _,HS,KI⟩
   case round =>
    clear HS KI;obtain ⟨k,b,rfl,rfl,hk,HS,KI⟩:=hrel;generalize wr=we at *;have hin:i<N:=HIN.out
    by_cases hkl:k<ol.length
    case pos =>
     have HKL:=ι hkl;have hbl:b<ol.length:=HS.out.1;have HBL:=ι hbl;obtain ⟨q,hq⟩:∃ q:Nat,Hid (ol[k]'hkl=q):=⟨_,ι rfl⟩;obtain ⟨r,hr⟩:∃ r:Nat,Hid (ol[b]'hbl=r):=⟨_,ι rfl⟩;have hqN:q<N:=HOQ.out q (by rw [← hq.out]; exact List.getElem_mem _);have hrN:r<N:=HOQ.out r (by rw [← hr.out]; exact List.getElem_mem _);have HQN:=ι hqN;have HRN:=ι hrN;have CK:=ι (OCw.out k hkl);have CB:=ι (OCw.out b hbl);rw [hq.out] at CK;rw [hr.out] at CB;have CYK:=ι (YC.out q hqN);have CYB:=ι (YC.out r hrN);obtain ⟨u,hu⟩:∃ u:Nat,Hid (ap y q=u):=⟨_,ι rfl⟩;obtain ⟨v,hv⟩:∃ v:Nat,Hid (ap y r=v):=⟨_,ι rfl⟩;rw [hu.out] at CYK;rw [hv.out] at CYB;have HBD:=ι (show ol.getD b 0=r by rw [List.getD_eq_getElem?_getD,List.getElem?_eq_getElem hbl,Option.getD_some]; exact hr.out);have HKD:=ι (show ol.getD k 0=q by rw [List.getD_eq_getElem?_getD,List.getElem?_eq_getElem hkl,Option.getD_some]; exact hq.out)
     by_cases hlt:u<v
     case pos =>
      go_upto_region 7 with (fail);refine Rg.wl ?_;refine Rg.lm 16 (.int .i64 ((k:Nat):Int)) ?_;go_frame;refine Rg.lr 17 (exec_field _ rfl rfl (chF1 _ _)) ?_;go_frame;refine Rg.lr 18 (Rg.exec_load (v:=.slice (some ⟨ob,oo,none⟩) N oc) _ _ rfl ⟨w.heap.size,1,none⟩ rfl (Rg.run_loadSl _ _ Tryz.underlying27 ((Below.cell (p:=⟨w.heap.size,1,none⟩) KI.out A1w.out.lt).trans A1w.out.cell))) ?_;go_frame;refine Rg.lm 19 (.int .i64 ((i:Nat):Int)) ?_;go_frame;refine Rg.lr 20 (exec_indexS slIntss _ _ rfl ob (oo) (N) oc (i) rfl rfl hin) ?_;go_frame;refine Rg.lr 21 (Rg.exec_load (v:=.slice (some ⟨ub,uo,none⟩) ol.length uc) _ _ rfl ⟨ob,oo+i,none⟩ rfl (Rg.run_loadSl _ _ Tryz.underlying36 ((Below.cell (p:=⟨ob,oo+i,none⟩) KI.out COw.out.lt).trans COw.out.cell))) ?_;go_frame;refine Rg.lr 22 (exec_len _ _ _ rfl Tryz.underlying36 _ _ _ rfl) ?_;go_frame;refine Rg.lr 23 (exec_bin (R:=.bool true) .lss _ _ _ rfl rfl rfl (b_lss _ Rg.dT)) ?_;go_frame
      go_upto_region 9 with (fail);have hV0:Below we.heap.size we we.drew:=(Below.refl _ _).drew;replace KI:=ι (Rg.acc KI.out hV0);clear hV0;refine Rg.Any.begin (S:=Rg.Both 22 (fun _=>True) (fun W=>Below wd.heap.size wd W)) mix ?_;generalize we.drew=w131 at *;have hS:∀ (l:Array Bool) W,Below wd.heap.size wd W→Rg.Both 22 (fun _=>True) (fun W=>Below wd.heap.size wd W) l W:=fun l W h=>⟨.inr trivial,h⟩;have hI:=KI.out;refine Rg.tm 0 22 (.slice (some ⟨ya,yo,none⟩) N yc) 26 (hS _ _ hI) ?_;go_frame;refine Rg.tg 1 22 (.pointer (some ⟨w.heap.size,1,none⟩)) 27 rfl rfl (.inl ⟨rfl,fun w _=>exec_field _ rfl rfl (chF1 _ _)⟩) (hS _ _ hI) ?_;go_frame;refine Rg.tg 2 22 (.slice (some ⟨ob,oo,none⟩) N oc) 28 rfl rfl (Rg.yields_cell _ _ rfl rfl ⟨w.heap.size,1,none⟩ rfl (fun W hW=>Rg.run_loadSl _ _ Tryz.underlying27 ((Below.cell (p:=⟨w.heap.size,1,none⟩) hW A1w.out.lt).trans A1w.out.cell))) (hS _ _ hI) ?_;go_frame
      refine Rg.tm 3 22 (.int .i64 ((i:Nat):Int)) 29 (hS _ _ hI) ?_;go_frame;refine Rg.tg 4 22 (.pointer (some ⟨ob,oo+i,none⟩)) 30 rfl rfl (Rg.yields_index slIntss _ _ rfl rfl ob (oo) (N) oc (i) rfl rfl HIN.out) (hS _ _ hI) ?_;go_frame;refine Rg.tg 5 22 (.slice (some ⟨ub,uo,none⟩) ol.length uc) 31 rfl rfl (Rg.yields_cell _ _ rfl rfl ⟨ob,oo+i,none⟩ rfl (fun W hW=>Rg.run_loadSl _ _ Tryz.underlying36 ((Below.cell (p:=⟨ob,oo+i,none⟩) hW COw.out.lt).trans COw.out.cell))) (hS _ _ hI) ?_;go_frame;refine Rg.tm 6 22 (.int .i64 ((k:Nat):Int)) 32 (hS _ _ hI) ?_;go_frame;refine Rg.tg 7 22 (.pointer (some ⟨ub,uo+k,none⟩)) 33 rfl rfl (Rg.yields_index slInts _ _ rfl rfl ub (uo) (ol.length) uc (k) rfl rfl HKL.out) (hS _ _ hI) ?_;go_frame;refine Rg.tg 8 22 (.int .i64 ((q:Nat):Int)) 34 rfl rfl (Rg.yields_cell _ _ rfl rfl ⟨ub,uo+k,none⟩ rfl (fun W hW=>run_loadInt ((Below.cell (p:=⟨ub,uo+k,none⟩) hW CK.out.lt).trans CK.out.cell))) (hS _ _ hI) ?_;go_frame
      refine Rg.tg 9 22 (.pointer (some ⟨ya,yo+q,none⟩)) 35 rfl rfl (Rg.yields_index slPerm _ _ rfl rfl ya (yo) (N) yc (q) rfl rfl HQN.out) (hS _ _ hI) ?_;go_frame;refine Rg.tg 10 22 (.int .i64 ((u:Nat):Int)) 36 rfl rfl (Rg.yields_cell _ _ rfl rfl ⟨ya,yo+q,none⟩ rfl (fun W hW=>run_loadInt ((Below.cell (p:=⟨ya,yo+q,none⟩) hW CYK.out.lt).trans CYK.out.cell))) (hS _ _ hI) ?_;go_frame;refine Rg.tm 11 22 (.slice (some ⟨ya,yo,none⟩) N yc) 37 (hS _ _ hI) ?_;go_frame;refine Rg.tg 12 22 (.pointer (some ⟨w.heap.size,1,none⟩)) 38 rfl rfl (.inl ⟨rfl,fun w _=>exec_field _ rfl rfl (chF1 _ _)⟩) (hS _ _ hI) ?_;go_frame;refine Rg.tg 13 22 (.slice (some ⟨ob,oo,none⟩) N oc) 39 rfl rfl (Rg.yields_cell _ _ rfl rfl ⟨w.heap.size,1,none⟩ rfl (fun W hW=>Rg.run_loadSl _ _ Tryz.underlying27 ((Below.cell (p:=⟨w.heap.size,1,none⟩) hW A1w.out.lt).trans A1w.out.cell))) (hS _ _ hI) ?_;go_frame
      refine Rg.tm 14 22 (.int .i64 ((i:Nat):Int)) 40 (hS _ _ hI) ?_;go_frame;refine Rg.tg 15 22 (.pointer (some ⟨ob,oo+i,none⟩)) 41 rfl rfl (Rg.yields_index slIntss _ _ rfl rfl ob (oo) (N) oc (i) rfl rfl HIN.out) (hS _ _ hI) ?_;go_frame;refine Rg.tg 16 22 (.slice (some ⟨ub,uo,none⟩) ol.length uc) 42 rfl rfl (Rg.yields_cell _ _ rfl rfl ⟨ob,oo+i,none⟩ rfl (fun W hW=>Rg.run_loadSl _ _ Tryz.underlying36 ((Below.cell (p:=⟨ob,oo+i,none⟩) hW COw.out.lt).trans COw.out.cell))) (hS _ _ hI) ?_;go_frame;refine Rg.tm 17 22 (.int .i64 ((b:Nat):Int)) 43 (hS _ _ hI) ?_;go_frame;refine Rg.tg 18 22 (.pointer (some ⟨ub,uo+b,none⟩)) 44 rfl rfl (Rg.yields_index slInts _ _ rfl rfl ub (uo) (ol.length) uc (b) rfl rfl HBL.out) (hS _ _ hI) ?_;go_frame;refine Rg.tg 19 22 (.int .i64 ((r:Nat):Int)) 45 rfl rfl (Rg.yields_cell _ _ rfl rfl ⟨ub,uo+b,none⟩ rfl (fun W hW=>run_loadInt ((Below.cell (p:=⟨ub,uo+b,none⟩) hW CB.out.lt).trans CB.out.cell))) (hS _ _ hI) ?_;go_frame
      refine Rg.tg 20 22 (.pointer (some ⟨ya,yo+r,none⟩)) 46 rfl rfl (Rg.yields_index slPerm _ _ rfl rfl ya (yo) (N) yc (r) rfl rfl HRN.out) (hS _ _ hI) ?_;go_frame;refine Rg.tg 21 22 (.int .i64 ((v:Nat):Int)) 47 rfl rfl (Rg.yields_cell _ _ rfl rfl ⟨ya,yo+r,none⟩ rfl (fun W hW=>run_loadInt ((Below.cell (p:=⟨ya,yo+r,none⟩) hW CYB.out.lt).trans CYB.out.cell))) (hS _ _ hI) ?_;go_frame;refine Rg.Any.one (i:=22) (by kernel_rfl) (Rg.Any.run (some 48) rfl rfl rfl (exec_bin (R:=.bool true) .lss _ _ _ rfl rfl rfl (b_lss _ Rg.dT)) (hS _ _ hI) ?_);go_frame;refine Rg.Any.done (by kernel_rfl) ?_ _;replace KI:=ι hI;clear hS hI;go_upto_region 10 with (fail);refine Rg.wl ?_;refine Rg.lm 49 (.int .i64 ((k:Nat):Int)) ?_;go_frame;refine Rg.la 6 (.int .i64 ((k:Nat):Int)) ?_;go_frame
      have HS2:=ι (show k<ol.length∧∀ j (hj:j<ol.length),j<k+1→ap y (ol.getD k 0)≤ap y ol[j] from ⟨HKL.out,fun j hj h=>by
       rw [HKD.out,hu.out]
       by_cases e:j=k
       ·subst e; rw [hq.out,hu.out]; exact Nat.le_refl _
       ·have:=HS.out.2 j hj (by omega)
        rw [HBD.out,hv.out] at this
        omega⟩)
      go_upto_region 8 with (fail);refine Rg.wl ?_;refine Rg.lm 24 (.int .i64 ((k:Nat):Int)) ?_;go_frame;refine Rg.lr 25 (exec_bin (R:=.int .i64 (((k+1):Nat):Int)) .add _ _ _ rfl rfl rfl (b_add _ (by omega) (by omega))) ?_;go_frame;refine Rg.la 7 (.int .i64 (((k+1):Nat):Int)) ?_;go_frame;go_wp2
      go_roundw
      case rel=>exact ⟨k+1,_,rfl,by go_num,HKL.out,HS2,KI⟩
      case measure=>simp [intOf]; have:=HKL.out; omega
     case neg =>
      go_upto_region 7 with (fail);refine Rg.wl ?_;refine Rg.lm 16 (.int .i64 ((k:Nat):Int)) ?_;go_frame;refine Rg.lr 17 (exec_field _ rfl rfl (chF1 _ _)) ?_;go_frame;refine Rg.lr 18 (Rg.exec_load (v:=.slice (some ⟨ob,oo,none⟩) N oc) _ _ rfl ⟨w.heap.size,1,none⟩ rfl (Rg.run_loadSl _ _ Tryz.underlying27 ((Below.cell (p:=⟨w.heap.size,1,none⟩) KI.out A1w.out.lt).trans A1w.out.cell))) ?_;go_frame;refine Rg.lm 19 (.int .i64 ((i:Nat):Int)) ?_;go_frame;refine Rg.lr 20 (exec_indexS slIntss _ _ rfl ob (oo) (N) oc (i) rfl rfl hin) ?_;go_frame;refine Rg.lr 21 (Rg.exec_load (v:=.slice (some ⟨ub,uo,none⟩) ol.length uc) _ _ rfl ⟨ob,oo+i,none⟩ rfl (Rg.run_loadSl _ _ Tryz.underlying36 ((Below.cell (p:=⟨ob,oo+i,none⟩) KI.out COw.out.lt).trans COw.out.cell))) ?_;go_frame;refine Rg.lr 22 (exec_len _ _ _ rfl Tryz.underlying36 _ _ _ rfl) ?_;go_frame;refine Rg.lr 23 (exec_bin (R:=.bool true) .lss _ _ _ rfl rfl rfl (b_lss _ Rg.dT)) ?_;go_frame
      go_upto_region 9 with (fail);have hV0:Below we.heap.size we we.drew:=(Below.refl _ _).drew;replace KI:=ι (Rg.acc KI.out hV0);clear hV0;refine Rg.Any.begin (S:=Rg.Both 22 (fun _=>True) (fun W=>Below wd.heap.size wd W)) mix ?_;generalize we.drew=w152 at *;have hS:∀ (l:Array Bool) W,Below wd.heap.size wd W→Rg.Both 22 (fun _=>True) (fun W=>Below wd.heap.size wd W) l W:=fun l W h=>⟨.inr trivial,h⟩;have hI:=KI.out;refine Rg.tm 0 22 (.slice (some ⟨ya,yo,none⟩) N yc) 26 (hS _ _ hI) ?_;go_frame;refine Rg.tg 1 22 (.pointer (some ⟨w.heap.size,1,none⟩)) 27 rfl rfl (.inl ⟨rfl,fun w _=>exec_field _ rfl rfl (chF1 _ _)⟩) (hS _ _ hI) ?_;go_frame;refine Rg.tg 2 22 (.slice (some ⟨ob,oo,none⟩) N oc) 28 rfl rfl (Rg.yields_cell _ _ rfl rfl ⟨w.heap.size,1,none⟩ rfl (fun W hW=>Rg.run_loadSl _ _ Tryz.underlying27 ((Below.cell (p:=⟨w.heap.size,1,none⟩) hW A1w.out.lt).trans A1w.out.cell))) (hS _ _ hI) ?_;go_frame
      refine Rg.tm 3 22 (.int .i64 ((i:Nat):Int)) 29 (hS _ _ hI) ?_;go_frame;refine Rg.tg 4 22 (.pointer (some ⟨ob,oo+i,none⟩)) 30 rfl rfl (Rg.yields_index slIntss _ _ rfl rfl ob (oo) (N) oc (i) rfl rfl HIN.out) (hS _ _ hI) ?_;go_frame;refine Rg.tg 5 22 (.slice (some ⟨ub,uo,none⟩) ol.length uc) 31 rfl rfl (Rg.yields_cell _ _ rfl rfl ⟨ob,oo+i,none⟩ rfl (fun W hW=>Rg.run_loadSl _ _ Tryz.underlying36 ((Below.cell (p:=⟨ob,oo+i,none⟩) hW COw.out.lt).trans COw.out.cell))) (hS _ _ hI) ?_;go_frame;refine Rg.tm 6 22 (.int .i64 ((k:Nat):Int)) 32 (hS _ _ hI) ?_;go_frame;refine Rg.tg 7 22 (.pointer (some ⟨ub,uo+k,none⟩)) 33 rfl rfl (Rg.yields_index slInts _ _ rfl rfl ub (uo) (ol.length) uc (k) rfl rfl HKL.out) (hS _ _ hI) ?_;go_frame;refine Rg.tg 8 22 (.int .i64 ((q:Nat):Int)) 34 rfl rfl (Rg.yields_cell _ _ rfl rfl ⟨ub,uo+k,none⟩ rfl (fun W hW=>run_loadInt ((Below.cell (p:=⟨ub,uo+k,none⟩) hW CK.out.lt).trans CK.out.cell))) (hS _ _ hI) ?_;go_frame
      refine Rg.tg 9 22 (.pointer (some ⟨ya,yo+q,none⟩)) 35 rfl rfl (Rg.yields_index slPerm _ _ rfl rfl ya (yo) (N) yc (q) rfl rfl HQN.out) (hS _ _ hI) ?_;go_frame;refine Rg.tg 10 22 (.int .i64 ((u:Nat):Int)) 36 rfl rfl (Rg.yields_cell _ _ rfl rfl ⟨ya,yo+q,none⟩ rfl (fun W hW=>run_loadInt ((Below.cell (p:=⟨ya,yo+q,none⟩) hW CYK.out.lt).trans CYK.out.cell))) (hS _ _ hI) ?_;go_frame;refine Rg.tm 11 22 (.slice (some ⟨ya,yo,none⟩) N yc) 37 (hS _ _ hI) ?_;go_frame;refine Rg.tg 12 22 (.pointer (some ⟨w.heap.size,1,none⟩)) 38 rfl rfl (.inl ⟨rfl,fun w _=>exec_field _ rfl rfl (chF1 _ _)⟩) (hS _ _ hI) ?_;go_frame;refine Rg.tg 13 22 (.slice (some ⟨ob,oo,none⟩) N oc) 39 rfl rfl (Rg.yields_cell _ _ rfl rfl ⟨w.heap.size,1,none⟩ rfl (fun W hW=>Rg.run_loadSl _ _ Tryz.underlying27 ((Below.cell (p:=⟨w.heap.size,1,none⟩) hW A1w.out.lt).trans A1w.out.cell))) (hS _ _ hI) ?_;go_frame
      refine Rg.tm 14 22 (.int .i64 ((i:Nat):Int)) 40 (hS _ _ hI) ?_;go_frame;refine Rg.tg 15 22 (.pointer (some ⟨ob,oo+i,none⟩)) 41 rfl rfl (Rg.yields_index slIntss _ _ rfl rfl ob (oo) (N) oc (i) rfl rfl HIN.out) (hS _ _ hI) ?_;go_frame;refine Rg.tg 16 22 (.slice (some ⟨ub,uo,none⟩) ol.length uc) 42 rfl rfl (Rg.yields_cell _ _ rfl rfl ⟨ob,oo+i,none⟩ rfl (fun W hW=>Rg.run_loadSl _ _ Tryz.underlying36 ((Below.cell (p:=⟨ob,oo+i,none⟩) hW COw.out.lt).trans COw.out.cell))) (hS _ _ hI) ?_;go_frame;refine Rg.tm 17 22 (.int .i64 ((b:Nat):Int)) 43 (hS _ _ hI) ?_;go_frame;refine Rg.tg 18 22 (.pointer (some ⟨ub,uo+b,none⟩)) 44 rfl rfl (Rg.yields_index slInts _ _ rfl rfl ub (uo) (ol.length) uc (b) rfl rfl HBL.out) (hS _ _ hI) ?_;go_frame;refine Rg.tg 19 22 (.int .i64 ((r:Nat):Int)) 45 rfl rfl (Rg.yields_cell _ _ rfl rfl ⟨ub,uo+b,none⟩ rfl (fun W hW=>run_loadInt ((Below.cell (p:=⟨ub,uo+b,none⟩) hW CB.out.lt).trans CB.out.cell))) (hS _ _ hI) ?_;go_frame
      refine Rg.tg 20 22 (.pointer (some ⟨ya,yo+r,none⟩)) 46 rfl rfl (Rg.yields_index slPerm _ _ rfl rfl ya (yo) (N) yc (r) rfl rfl HRN.out) (hS _ _ hI) ?_;go_frame;refine Rg.tg 21 22 (.int .i64 ((v:Nat):Int)) 47 rfl rfl (Rg.yields_cell _ _ rfl rfl ⟨ya,yo+r,none⟩ rfl (fun W hW=>run_loadInt ((Below.cell (p:=⟨ya,yo+r,none⟩) hW CYB.out.lt).trans CYB.out.cell))) (hS _ _ hI) ?_;go_frame;refine Rg.Any.one (i:=22) (by kernel_rfl) (Rg.Any.run (some 48) rfl rfl rfl (exec_bin (R:=.bool false) .lss _ _ _ rfl rfl rfl (b_lss _ Rg.dF)) (hS _ _ hI) ?_);go_frame;refine Rg.Any.done (by kernel_rfl) ?_ _;replace KI:=ι hI;clear hS hI
      have HS2:=ι (show b<ol.length∧∀ j (hj:j<ol.length),j<k+1→ap y (ol.getD b 0)≤ap y ol[j] from ⟨HBL.out,fun j hj h=>by
       by_cases e:j=k
       ·subst e; rw [hq.out,hu.out,HBD.out,hv.out]; omega
       ·exact HS.out.2 j hj (by omega)⟩)
      go_upto_region 8 with (fail);refine Rg.wl ?_;refine Rg.lm 24 (.int .i64 ((k:Nat):Int)) ?_;go_frame;refine Rg.lr 25 (exec_bin (R:=.int .i64 (((k+1):Nat):Int)) .add _ _ _ rfl rfl rfl (b_add _ (by omega) (by omega))) ?_;go_frame;refine Rg.la 7 (.int .i64 (((k+1):Nat):Int)) ?_;go_frame;go_wp2
      go_roundw
      case rel=>exact ⟨k+1,_,rfl,by go_num,HKL.out,HS2,KI⟩
      case measure=>simp [intOf]; have:=HKL.out; omega
    case neg =>
     have HBL:=ι HS.out.1
     have HMN:=ι (show ∀ z∈O.getD i [],ap y ((O.getD i []).getD b 0)≤ap y z from fun z hz=>by
      rw [hol.out] at hz ⊢;obtain ⟨j,hj,rfl⟩:=List.getElem_of_mem hz
      exact HS.out.2 j hj (by omega))
     have HBO:=ι (show b<(O.getD i []).length by rw [hol.out]; exact HBL.out);have hrg:=HH.out.gd _ (HCH.out.rep i b hin HBO.out).1.1.1;rw [hrl.out] at hrg;have GS:=ι hrg;obtain ⟨vb,vo,sa,so,sc,e7,hcs,hns⟩:=level_rep HRI.out HLEN.out HBL.out GS.out hn1;subst e7;have CS:=ι hcs;have NS:=ι hns;clear hcs hns hrg;go_upto_region 7 with (fail);refine Rg.wl ?_;refine Rg.lm 16 (.int .i64 ((k:Nat):Int)) ?_;go_frame;refine Rg.lr 17 (exec_field _ rfl rfl (chF1 _ _)) ?_;go_frame;refine Rg.lr 18 (Rg.exec_load (v:=.slice (some ⟨ob,oo,none⟩) N oc) _ _ rfl ⟨w.heap.size,1,none⟩ rfl (Rg.run_loadSl _ _ Tryz.underlying27 ((Below.cell (p:=⟨w.heap.size,1,none⟩) KI.out A1w.out.lt).trans A1w.out.cell))) ?_;go_frame;refine Rg.lm 19 (.int .i64 ((i:Nat):Int)) ?_;go_frame;refine Rg.lr 20 (exec_indexS slIntss _ _ rfl ob (oo) (N) oc (i) rfl rfl hin) ?_;go_frame;refine Rg.lr 21 (Rg.exec_load (v:=.slice (some ⟨ub,uo,none⟩) ol.length uc) _ _ rfl ⟨ob,oo+i,none⟩ rfl (Rg.run_loadSl _ _ Tryz.underlying36 ((Below.cell (p:=⟨ob,oo+i,none⟩) KI.out COw.out.lt).trans COw.out.cell))) ?_;go_frame
     refine Rg.lr 22 (exec_len _ _ _ rfl Tryz.underlying36 _ _ _ rfl) ?_;go_frame;refine Rg.lr 23 (exec_bin (R:=.bool false) .lss _ _ _ rfl rfl rfl (b_lss _ Rg.dF)) ?_;go_frame;go_upto_region 11 with (fail);refine Rg.wl ?_;refine Rg.lr 50 (exec_field _ rfl rfl (chF2 _ _)) ?_;go_frame;refine Rg.lr 51 (Rg.exec_load (v:=.slice (some ⟨rb,ro,none⟩) N rc) _ _ rfl ⟨w.heap.size,2,none⟩ rfl (Rg.run_loadSl _ _ Tryz.underlying52 ((Below.cell (p:=⟨w.heap.size,2,none⟩) KI.out A2w.out.lt).trans A2w.out.cell))) ?_;go_frame;refine Rg.lm 52 (.int .i64 ((i:Nat):Int)) ?_;go_frame;refine Rg.lr 53 (exec_indexS slPermss _ _ rfl rb (ro) (N) rc (i) rfl rfl HIN.out) ?_;go_frame;refine Rg.lr 54 (Rg.exec_load (v:=.slice (some ⟨vb,vo,none⟩) ol.length vc) _ _ rfl ⟨rb,ro+i,none⟩ rfl (Rg.run_loadSl _ _ Tryz.underlying22 ((Below.cell (p:=⟨rb,ro+i,none⟩) KI.out CRw.out.lt).trans CRw.out.cell))) ?_;go_frame
     refine Rg.lm 55 (.int .i64 ((b:Nat):Int)) ?_;go_frame;refine Rg.lr 56 (exec_indexS slPerms _ _ rfl vb (vo) (ol.length) vc (b) rfl rfl HBL.out) ?_;go_frame;refine Rg.lr 57 (Rg.exec_load (v:=.slice (some ⟨sa,so,none⟩) N sc) _ _ rfl ⟨vb,vo+b,none⟩ rfl (Rg.run_loadSl _ _ Tryz.underlying51 ((Below.cell (p:=⟨vb,vo+b,none⟩) KI.out CS.out.lt).trans CS.out.cell))) ?_;go_frame;refine Rg.lm 58 (.slice (some ⟨ya,yo,none⟩) N yc) ?_;go_frame;refine Rg.lk 59 (exec_fn 72 _ _ _ rfl rfl rfl (Wfcl1 _ _)) ?_;refine (kitMul_any _ _ (rl.getD b []) y we (NS.out.below KI.out) (NY.out.below KI.out) (fun z hz=>by rw [GY.out.2]; exact gd_mem GS.out hz) (by rw [GS.out.2]; omega)).mono ?_;rintro e1 w193 ⟨mv,rfl,hmv,hb⟩;have NM:=ι hmv.1;clear hmv;refine ⟨_,rfl,?_⟩;go_frame;replace KI:=ι (Rg.acc KI.out hb);clear hb;refine Rg.la 1 (mv) ?_;go_frame;have LC2:=ι (LC.out.step HH.out HCH.out GX.out HIN.out HBO.out HMN.out)
     rw [hrl.out] at LC2;have K2:=ι (K1.out.trans (KI.out.mono K1.out.size));go_upto_region 4 with (fail);refine Rg.wl ?_;refine Rg.lm 14 (.int .i64 ((i:Nat):Int)) ?_;go_frame;refine Rg.lr 15 (exec_bin (R:=.int .i64 (((i+1):Nat):Int)) .add _ _ _ rfl rfl rfl (b_add _ (by omega) (by omega))) ?_;go_frame;refine Rg.la 5 (.int .i64 (((i+1):Nat):Int)) ?_;go_frame;go_wp2
     go_roundw
     case rel=>exact ⟨i+1,_,by go_num,HIN.out,NM,LC2,K2⟩
     case measure=>simp [intOf]; have:=HIN.out; omega
theorem Least_r9 {n:Int} {ov rv xv:Value} {OO:List (List Int)} {RR:List (List (List Int))} {xl:List Int} {w:World} (h:ChEqR w ov rv OO RR) (hx:Rg.Ints w xv xl) :
  Calls Tryz.prog 133 #[.agg #[.int .i64 n,ov,rv],xv] w (LePost n OO RR xl w):=by
 obtain ⟨oa,oc,rfl,-⟩:=h.1.shape;obtain ⟨ra,rc,rfl⟩:=h.2.shape;obtain ⟨xa,xc,rfl,-⟩:=hx.shape;have HC:=ι h;have HX:=ι hx;have K:=ι (Below.refl w.heap.size w);clear h hx;obtain ⟨c,hc0⟩:∃ c,Hid (bothC n OO RR xl=c):=⟨_,ι rfl⟩
 go_enter Tryz.func133,Tryz.ntmps133
 go_upto_region 0 with (fail);refine Rg.wl ?_;have hbx:=box3 w (.int .i64 n) (.slice oa OO.length oc) (.slice ra RR.length rc);refine Rg.lr 2 (Rg.exec_box _ _ rfl rfl) ?_;go_frame;have hb:=(Below.refl w.heap.size w).alloc (Nat.le_refl _) (.cells #[.int .i64 n,.slice oa OO.length oc,.slice ra RR.length rc] 54);generalize w.alloc (.cells #[.int .i64 n,.slice oa OO.length oc,.slice ra RR.length rc] 54)=w1 at *;replace HC:=ι (HC.out.below hb);replace HX:=ι (HX.out.below hb);replace K:=ι (Rg.acc K.out hb);clear hb;have A0:=ι hbx.1;have A1:=ι hbx.2.1;have A2:=ι hbx.2.2;clear hbx;refine Rg.la 4 (.slice none 0 0) ?_;go_frame;refine Rg.la 5 (.int .i64 0) ?_;go_frame;go_upto_region 1 with (fail);refine Rg.wl ?_;refine Rg.lr 7 (Rg.exec_load (v:=(.agg #[.int .i64 n,.slice oa OO.length oc,.slice ra RR.length rc])) _ _ rfl ⟨w.heap.size,0,none⟩ rfl (run_loadC3 A0.out.cell A1.out.cell A2.out.cell)) ?_;go_frame
 refine Rg.lm 8 (.slice xa xl.length xc) ?_;go_frame;refine Rg.lk 9 (exec_fn 208 _ _ _ rfl rfl rfl (Akcl2 _ _)) ?_;refine (r9Member_any HC.out HX.out).mono ?_;rintro e1 w2 ⟨rfl,hb⟩;rw [hc0.out];refine ⟨_,rfl,?_⟩;go_frame;replace HC:=ι (HC.out.below hb);replace HX:=ι (HX.out.below hb);replace A0:=ι (A0.out.below hb);replace A1:=ι (A1.out.below hb);replace A2:=ι (A2.out.below hb);replace K:=ι (Rg.acc K.out hb);clear hb;refine Rg.la 6 (.int .i64 c) ?_;go_frame
 by_cases h0:c=0
 case neg =>
  have HV:=ι (show LeV n OO RR xl [] c from .inl ⟨by rw [hc0.out]; exact h0,hc0.out.symm,rfl⟩);go_upto_region 2 with (fail);refine Rg.wl ?_;refine Rg.lm 10 (.int .i64 c) ?_;go_frame;refine Rg.lr 11 (exec_bin (R:=.bool true) .neq _ _ _ rfl rfl rfl (b_neqB _ (decide_eq_true h0))) ?_;go_frame;go_upto_region 3 with (fail);refine Rg.wl ?_;refine Rg.lm 12 (.int .i64 c) ?_;go_frame;refine Rg.la 4 (.slice none 0 0) ?_;go_frame;refine Rg.la 5 (.int .i64 c) ?_;go_frame;go_wp2
  go_ret2
  exact ⟨_,_,[],rfl,ints_nil _,HV.out,K.out⟩
 case pos =>
  have HZ:=ι (hc0.out.trans h0);obtain ⟨N,O,R,x,hn,hn1,hn2,hO,hR,hch,hH,hxl,gx⟩:=bothC_zero HZ.out;have HCH:=ι hch;have HHG:=ι hH;have HXL:=ι hxl;have GX:=ι gx;have HOO:=ι hO;have HRR:=ι hR;subst hn;have HCN:=ι (show ChEqR w2 (.slice oa OO.length oc) (.slice ra RR.length rc) (O.map Ma.ofN) (R.map (List.map Ma.ofN)) by have h5:=HC.out; rw [← HOO.out,← HRR.out]; exact h5);have HXN:=ι (show Rg.NP w2 (.slice xa xl.length xc) x by have h5:=HX.out; rw [HXL.out] at h5 ⊢; exact h5);clear hch hH hxl gx hO hR HC HX;go_upto_region 2 with (fail);refine Rg.wl ?_;refine Rg.lm 10 (.int .i64 c) ?_;go_frame;refine Rg.lr 11 (exec_bin (R:=.bool false) .neq _ _ _ rfl rfl rfl (b_neqB _ (decide_eq_false (fun q=>q h0)))) ?_;go_frame;go_upto_region 4 with (fail);refine Rg.wl ?_;refine Rg.lr 13 (Rg.exec_load (v:=(.agg #[.int .i64 ((N:Nat):Int),.slice oa OO.length oc,.slice ra RR.length rc])) _ _ rfl ⟨w.heap.size,0,none⟩ rfl (run_loadC3 A0.out.cell A1.out.cell A2.out.cell)) ?_;go_frame
  refine Rg.lm 14 (.slice xa xl.length xc) ?_;go_frame;refine Rg.lk 15 (exec_fn 209 _ _ _ rfl rfl rfl (Akcl3 _ _)) ?_;refine (r9least_any hn1 hn2 HHG.out HCH.out HCN.out HXN.out GX.out).mono ?_;rintro e1 w13 ⟨yv,y,rfl,hyv,hlc,gy,hb⟩;have HLC:=ι hlc;have GY:=ι gy;clear hlc gy;refine ⟨_,rfl,?_⟩;go_frame;replace A0:=ι (A0.out.below hb);replace A1:=ι (A1.out.below hb);replace A2:=ι (A2.out.below hb);replace HCN:=ι (HCN.out.below hb);replace HXN:=ι (HXN.out.below hb);replace K:=ι (Rg.acc K.out hb);clear hb;have YV:=ι hyv;refine Rg.la 4 (yv) ?_;go_frame;refine Rg.la 5 (.int .i64 0) ?_;go_frame;have HV:=ι (show LeV ((N:Nat):Int) OO RR xl (Ma.ofN y) 0 from .inr ⟨HZ.out,rfl,N,O,R,x,y,rfl,HOO.out,HRR.out,HXL.out,GX.out,HCH.out,HHG.out,HLC.out,rfl⟩);go_wp2
  go_ret2
  exact ⟨_,_,_,rfl,YV.out,HV.out,K.out⟩
end Go.Proofs.YthehbckogieimaaGreat

namespace Go.Proofs.YthehbckogieimaaGreat
open Go.RowKit
open Go.Proofs
open Go.Proofs.Cm (Gd Gr IsG IsChain ap Fx St)
attribute [local irreducible] Go.Calls Go.wpList
theorem stab_gen {n:Nat} {H:List Nat→Prop} (hH:IsG n H) {O:List (List Nat)} {R:List (List (List Nat))} (h:IsChain n H O R):∀ (d i:Nat),i+d=n→∀ x,St H i x→Gr n (·∈(R.drop i).flatten) x
 | 0,i,hi,x,hx=>by
  obtain rfl:i=n:=by omega
  rw [Fx.all (hH.gd _ hx.1) hx.2];exact .one
 | d+1,i,hi,x,hx=>by
  have hin:i<n:=by omega
  have gx:=hH.gd _ hx.1;have hq:ap x i∈O.getD i []:=(h.orb i _ hin).2 ⟨x,hx,rfl⟩;have hk:=List.idxOf_lt_length_of_mem hq;have hr:=(h.rep i _ hin hk).1;rw [getD_idx hq] at hr;obtain ⟨r,hre⟩:∃ r,(R.getD i []).getD ((O.getD i []).idxOf (ap x i)) []=r:=⟨_,rfl⟩;rw [hre] at hr;have gr:=hH.gd _ hr.1.1
  have hs:St H (i+1) (Ma.mulN x (Ma.invN r)):=⟨hH.mul _ _ hx.1 (hH.inv _ hr.1.1),fun j hj=>by
   rw [Cm.ap_mul gx (by omega)]
   by_cases e:j=i
   ·subst e
    have h5:=Cm.ap_inv gr (i:=j) hin;rw [hr.2] at h5;exact h5
   ·rw [hx.2 j (by omega)]
    have h5:=Cm.ap_inv gr (i:=j) (by omega);rw [hr.1.2 j (by omega)] at h5
    exact h5⟩
  have h1:=stab_gen hH h d (i+1) (by omega) _ hs
  have hiR:i<R.length:=by rw [h.lenR]; exact hin
  have hdrop:R.drop i=R[i] :: R.drop (i+1):=List.drop_eq_getElem_cons hiR
  have h2:Gr n (·∈(R.drop i).flatten) (Ma.mulN x (Ma.invN r)):=Cm.Gr.mono (fun s hs=>by
   show s∈(R.drop i).flatten;rw [hdrop,List.flatten_cons]
   exact List.mem_append_right _ hs) h1
  have hmem:r∈(R.drop i).flatten:=by
   rw [hdrop,List.flatten_cons];refine List.mem_append_left _ ?_
   have e1:R.getD i []=R[i]:=by rw [List.getD_eq_getElem?_getD,List.getElem?_eq_getElem hiR,Option.getD_some]
   rw [e1] at hre
   have hkr:(O.getD i []).idxOf (ap x i)<R[i].length:=by rw [← e1,h.len i hin]; exact hk
   rw [List.getD_eq_getElem?_getD,List.getElem?_eq_getElem hkr,Option.getD_some] at hre;rw [← hre];exact List.getElem_mem _
  have e:=Cm.mul_inv_cancel gx gr;rw [← e];exact .mul _ _ h2 (.gen _ hmem)
def KerH (n m:Nat) (H:List Nat→Prop) (x:List Nat):Prop:=Gd n x∧H (jnN (Ma.oneN m) x)
theorem KerH.isG {n m:Nat} {H:List Nat→Prop} (hH:IsG (m+n) H):IsG n (KerH n m H):=by
 refine ⟨fun x h=>h.1,⟨Cm.gd_one n,?_⟩,fun x y h h'=>⟨Cm.gd_mul h.1 h'.1,?_⟩,fun x h=>⟨Cm.gd_inv h.1,?_⟩⟩
 ·rw [jn_one]; exact hH.one
 ·have:=hH.mul _ _ h.2 h'.2
  rw [jn_mul (Cm.gd_one m) h.1 (Cm.gd_one m) h'.1,Cm.one_mul (Cm.gd_one m)] at this;exact this
 ·have:=hH.inv _ h.2
  rw [jn_inv (Cm.gd_one m) h.1,Cm.inv_one] at this;exact this
def knN (m:Nat) (R:List (List (List Nat))):List (List Nat):=((R.drop m).flatten).map (bhN m)
theorem rep_low {n m:Nat} {A B:List (List Nat)} (ga:∀ s∈A,Gd n s) (gb:∀ s∈B,Gd m s) {O:List (List Nat)} {R:List (List (List Nat))} (hc:IsChain (m+n) (PG2 m n B A) O R) {r:List Nat} (hr:r∈(R.drop m).flatten):∃ c,Gd n c∧r=jnN (Ma.oneN m) c∧PG2 m n B A r:=by
 obtain ⟨rl,hrl,hrm⟩:=List.mem_flatten.1 hr;obtain ⟨j,hj,rfl⟩:=List.getElem_of_mem hrl;rw [List.length_drop,hc.lenR] at hj
 have hjn:m+j<m+n:=by omega
 have hjR:m+j<R.length:=by rw [hc.lenR]; exact hjn
 rw [List.getElem_drop] at hrm;obtain ⟨k,hk,rfl⟩:=List.getElem_of_mem hrm
 have e1:R.getD (m+j) []=R[m+j]:=by rw [List.getD_eq_getElem?_getD,List.getElem?_eq_getElem hjR,Option.getD_some]
 have hk2:k<(O.getD (m+j) []).length:=by rw [← hc.len _ hjn,e1]; exact hk
 have h1:=(hc.rep (m+j) k hjn hk2).1.1;rw [e1,List.getD_eq_getElem?_getD,List.getElem?_eq_getElem hk,Option.getD_some] at h1;obtain ⟨a,c,g1,g2,e⟩:=pg_split gb ga h1.1;have ga':=(Cm.Gr.isG (gs:=(·∈B)) gb).gd _ g1;have gc':=(Cm.Gr.isG (gs:=(·∈A)) ga).gd _ g2
 have ea:a=Ma.oneN m:=Cm.gd_ext ga'.2 (Ma.len_oneN m) fun i hi=>by
  rw [← ap_jn1 (m:=n) (b:=c) ga' hi,← e,h1.2 i (by omega),Cm.ap_one hi]
 subst ea;exact ⟨c,gc',e,h1.1⟩
theorem ker_gen {n m:Nat} {A B:List (List Nat)} (ga:∀ s∈A,Gd n s) (gb:∀ s∈B,Gd m s) {O:List (List Nat)} {R:List (List (List Nat))} (hc:IsChain (m+n) (PG2 m n B A) O R) (x:List Nat):KerH n m (PG2 m n B A) x↔Gr n (·∈knN m R) x:=by
 have hH:=pg_isG gb ga;have hK:=KerH.isG (n:=n) (m:=m) hH
 have hkn:∀ s∈knN m R,KerH n m (PG2 m n B A) s:=fun s hs=>by
  obtain ⟨r,hr,rfl⟩:=List.mem_map.1 hs;obtain ⟨c,gc,e,hr2⟩:=rep_low ga gb hc hr;subst e;rw [bh_jn (m:=n) (Cm.gd_one m)];exact ⟨gc,hr2⟩
 constructor
 ·intro hx
  have hs:St (PG2 m n B A) m (jnN (Ma.oneN m) x):=⟨hx.2,fun j hj=>by rw [ap_jn1 (m:=n) (Cm.gd_one m) hj,Cm.ap_one hj]⟩;have h1:=stab_gen hH hc n m rfl _ hs;have hG:=Cm.Gr.isG (n:=n) (gs:=(·∈knN m R)) (fun s hs=>(hkn s hs).1)
  obtain ⟨c,hc2,e⟩:=Cm.Gr.sub (H:=fun z=>∃ c,Gr n (·∈knN m R) c∧z=jnN (Ma.oneN m) c) ⟨by
    rintro z ⟨c,h2,rfl⟩
    exact jnN_gd (Cm.gd_one m) (hG.gd _ h2),⟨_,.one,(jn_one m n).symm⟩,by
    rintro z z' ⟨c,h2,rfl⟩ ⟨c',h3,rfl⟩
    exact ⟨_,.mul _ _ h2 h3,by rw [jn_mul (Cm.gd_one m) (hG.gd _ h2) (Cm.gd_one m) (hG.gd _ h3),Cm.one_mul (Cm.gd_one m)]⟩,by
    rintro z ⟨c,h2,rfl⟩
    exact ⟨_,.inv _ h2,by rw [jn_inv (Cm.gd_one m) (hG.gd _ h2),Cm.inv_one]⟩⟩ (fun s hs=>by
    obtain ⟨c,gc,e,-⟩:=rep_low ga gb hc hs;refine ⟨c,.gen _ (List.mem_map.2 ⟨s,hs,?_⟩),e⟩
    rw [e,bh_jn (m:=n) (Cm.gd_one m)]) h1
  rw [(jn_inj (Cm.gd_one m) hx.1 (Cm.gd_one m) (hG.gd _ hc2) e).2];exact hc2
 ·exact fun hx=>Cm.Gr.sub hK hkn hx
theorem bhY_ofN {m n:Nat} {c:List Nat} (hc:Gd n c):bhY m (Ma.ofN (jnN (Ma.oneN m) c))=Ma.ofN c:=by
 unfold bhY jnN Ma.ofN;rw [List.map_append,List.drop_append_of_le_length (by rw [List.length_map,Ma.len_oneN]; exact Nat.le_refl _),List.drop_of_length_le (by rw [List.length_map,Ma.len_oneN]; exact Nat.le_refl _),List.nil_append,List.map_map,List.map_map,Ma.len_oneN];refine List.map_congr_left fun x _=>?_;simp only [Function.comp];omega
theorem bhL_knN {n m:Nat} {A B:List (List Nat)} (ga:∀ s∈A,Gd n s) (gb:∀ s∈B,Gd m s) {O:List (List Nat)} {R:List (List (List Nat))} (hc:IsChain (m+n) (PG2 m n B A) O R):bhL m (R.map (List.map Ma.ofN))=(knN m R).map Ma.ofN:=by
 unfold bhL knN;rw [← List.map_drop,flat_map_ofN,List.map_map,List.map_map];refine List.map_congr_left fun r hr=>?_;obtain ⟨c,gc,rfl,-⟩:=rep_low ga gb hc hr;show bhY m (Ma.ofN _)=Ma.ofN (bhN m _);rw [bhY_ofN gc,bh_jn (m:=n) (Cm.gd_one m)]
theorem knN_gd {n m:Nat} {A B:List (List Nat)} (ga:∀ s∈A,Gd n s) (gb:∀ s∈B,Gd m s) {O:List (List Nat)} {R:List (List (List Nat))} (hc:IsChain (m+n) (PG2 m n B A) O R):∀ s∈knN m R,Gd n s:=fun s hs=>by
 obtain ⟨r,hr,rfl⟩:=List.mem_map.1 hs;obtain ⟨c,gc,rfl,-⟩:=rep_low ga gb hc hr;rw [bh_jn (m:=n) (Cm.gd_one m)];exact gc
theorem LstC.congr {n:Nat} {H H':List Nat→Prop} (h:∀ z,H z↔H' z) {x y:List Nat} (hl:Cm.LstC n H x y):Cm.LstC n H' x y:=by
 refine ⟨?_,fun z hz=>hl.2 z ?_⟩
 ·obtain ⟨k,hk,e⟩:=hl.1
  exact ⟨k,(h k).1 hk,e⟩
 ·obtain ⟨k,hk,e⟩:=hz
  exact ⟨k,(h k).2 hk,e⟩
theorem LstC.move {n:Nat} {H:List Nat→Prop} (hH:IsG n H) {x x' y:List Nat} (gx:Gd n x) (h:H (Ma.mulN x' (Ma.invN x))) (gx':Gd n x') (hl:Cm.LstC n H x' y):Cm.LstC n H x y:=by
 have e:=Cm.mul_inv_cancel gx' gx;have gk:=hH.gd _ h;refine ⟨?_,fun z hz=>hl.2 z ?_⟩
 ·obtain ⟨k,hk,rfl⟩:=hl.1
  exact ⟨_,hH.mul _ _ hk h,by rw [Cm.mul_assoc (hH.gd _ hk) gk,e]⟩
 ·obtain ⟨k,hk,rfl⟩:=hz
  have hi:=hH.inv _ h
  have e2:Ma.mulN (Ma.invN (Ma.mulN x' (Ma.invN x))) x'=x:=by
   have h5:Ma.mulN (Ma.invN (Ma.mulN x' (Ma.invN x))) (Ma.mulN (Ma.mulN x' (Ma.invN x)) x)=x:=by
    rw [← Cm.mul_assoc (hH.gd _ hi) gk,Cm.inv_mul gk,Cm.one_mul gx]
   rw [e] at h5;exact h5
  exact ⟨_,hH.mul _ _ hk hi,by rw [Cm.mul_assoc (hH.gd _ hk) (hH.gd _ hi),e2]⟩
theorem kr_mk {d e:Int} {L M:List (List Int)} {n m:Nat} {A B:List (List Nat)} (hm:HomG d e L M n m A B) {N:Nat} {gs:List (List Nat)} (hp:PcF (e+d) (prL M L) N gs):mkchk d (bhL m (pR (e+d) (prL M L)))=0:=by
 obtain ⟨hN,hc⟩:=hm.swap.pgc hp;have hr:=hm.swap.reps hp;have e1:bhL m (pR (e+d) (prL M L))=(knN m (pOR (e+d) (prL M L)).2).map Ma.ofN:=bhL_knN hm.ga hm.gb hc
 have hl:(knN m (pOR (e+d) (prL M L)).2).length≤4096:=by
  have h5:=bhT_len (n:=m) (R:=pR (e+d) (prL M L)) (by rw [hr.len]; have:=hm.nm; omega) hr.r64 n;rw [bhT_all (by rw [hr.len]; exact Nat.le_refl _),e1,List.length_map] at h5;exact h5
 have hgd:=knN_gd hm.ga hm.gb hc;rw [e1];generalize knN m (pOR (e+d) (prL M L)).2=KN at *;rw [hm.dn];exact mkchk_good hm.n1 (by have:=hm.nm; have:=hm.m1; omega) hl hgd
theorem kr_least {d e:Int} {L M:List (List Int)} {n m:Nat} {A B:List (List Nat)} (hm:HomG d e L M n m A B) {N:Nat} {gs:List (List Nat)} (hp:PcF (e+d) (prL M L) N gs) {N':Nat} {gs':List (List Nat)} (hp':PcF d (bhL m (pR (e+d) (prL M L))) N' gs') {x:List Nat} (gx:Gd n x) {l:List Int} {c:Int}
  (h:LeV d (pO d (bhL m (pR (e+d) (prL M L)))) (pR d (bhL m (pR (e+d) (prL M L)))) (Ma.ofN x) l c):c=0∧∃ z,Cm.LstC n (KerH n m (PG2 m n B A)) x z∧l=Ma.ofN z:=by
 obtain ⟨hN,hc⟩:=hm.swap.pgc hp;have e1:bhL m (pR (e+d) (prL M L))=(knN m (pOR (e+d) (prL M L)).2).map Ma.ofN:=bhL_knN hm.ga hm.gb hc;obtain ⟨ll,hll⟩:∃ ll,bhL m (pR (e+d) (prL M L))=ll:=⟨_,rfl⟩;rw [hll] at h hp' e1
 have hn':N'=n:=by have:=hp'.dn; have:=hm.dn; omega
 subst hn';have egs:gs'=knN m (pOR (e+d) (prL M L)).2:=map_ofN_inj (hp'.lg.symm.trans e1);subst egs;have hgd:=knN_gd hm.ga hm.gb hc;have hok:=chain_ok hp'.n1 hp'.n2 hgd hp'.ch
 have hck:chCode d (pO d ll) (pR d ll)=0:=by rw [hm.dn]; rw [hm.dn] at hok; exact chCode_zero hok
 have hb:bothC d (pO d ll) (pR d ll) (Ma.ofN x)=0:=bothC_ok hck (Ma.pchk_ok (by rw [Ma.len_ofN,gx.2]; exact hp'.n1) (by rw [Ma.len_ofN,gx.2]; exact hp'.n2) (Ma.okN_ofN gx.1)) (by rw [Ma.len_ofN,gx.2]; exact hm.dn.symm)
 rcases h with ⟨h1,_⟩ | ⟨_,h0,N2,O2,R2,x2,y2,g1,g2,g3,g4,g5,g6,g7,g8,g9⟩
 ·exact absurd hb h1
 ·have e2:N2=N':=by have:=hm.dn; omega
  subst e2;obtain rfl:=Ma.ofN_inj g4
  have e3:(pOR d ll).2=R2:=by
   have e4:=congrArg (List.map (List.map unN)) g3;unfold pR at e4;rw [unN_map2,unN_map2] at e4;exact e4
  refine ⟨h0,y2,?_,g9⟩;refine LstC.congr (fun z=>?_) g8;rw [ker_gen hm.ga hm.gb hc z,← e3];exact (chain_gen (Cm.Gr.isG hgd) hp'.ch z).symm
def HpV (d e:Int) (L M:List (List Int)) (yl:List Int) (l:List Int) (c:Int):Prop :=
 (rtC d e L M≠0∧c=rtC d e L M∧l=[])∨(rtC d e L M=0∧elC yl e≠0∧c=elC yl e∧l=[]) ∨
 (rtC d e L M=0∧elC yl e=0∧∃ n m A B y,HomG d e L M n m A B∧DefH n m (PG2 n m A B)∧yl=Ma.ofN y∧Gd m y∧((ImR n (PG2 m n B A) y none∧c=18∧l=[])∨∃ x z,ImR n (PG2 m n B A) y (some x)∧Cm.LstC n (KerH n m (PG2 m n B A)) x z∧c=0∧l=Ma.ofN z))
theorem HpV.uniq {d e:Int} {L M:List (List Int)} {yl l l':List Int} {c c':Int} (h:HpV d e L M yl l c) (h':HpV d e L M yl l' c'):l=l'∧c=c':=by
 rcases h with ⟨h1,rfl,rfl⟩ | ⟨h1,h2,rfl,rfl⟩ | ⟨h1,h2,n,m,A,B,y,h3,h4,h5,h6,h7⟩
 ·rcases h' with ⟨g1,rfl,rfl⟩ | ⟨g1,g2,rfl,rfl⟩ | ⟨g1,g2,_⟩
  ·exact ⟨rfl,rfl⟩
  ·exact absurd g1 h1
  ·exact absurd g1 h1
 ·rcases h' with ⟨g1,rfl,rfl⟩ | ⟨g1,g2,rfl,rfl⟩ | ⟨g1,g2,_⟩
  ·exact absurd h1 g1
  ·exact ⟨rfl,rfl⟩
  ·exact absurd g2 h2
 ·rcases h' with ⟨g1,rfl,rfl⟩ | ⟨g1,g2,rfl,rfl⟩ | ⟨g1,g2,n',m',A',B',y',g3,g4,g5,g6,g7⟩
  ·exact absurd h1 g1
  ·exact absurd h2 g2
  ·obtain ⟨rfl,rfl,rfl,rfl⟩:=h3.uniq g3
   obtain rfl:=Ma.ofN_inj (h5.symm.trans g5);have hH:=pg_isG h3.gb h3.ga
   rcases h7 with ⟨h7,rfl,rfl⟩ | ⟨x,z,h7,h8,rfl,rfl⟩
   ·rcases g7 with ⟨g7,rfl,rfl⟩ | ⟨x',z',g7,g8,rfl,rfl⟩
    ·exact ⟨rfl,rfl⟩
    ·exact absurd g7.2 (h7 _ g7.1)
   ·rcases g7 with ⟨g7,rfl,rfl⟩ | ⟨x',z',g7,g8,rfl,rfl⟩
    ·exact absurd h7.2 (g7 _ h7.1)
    ·have hk:KerH n m (PG2 m n B A) (Ma.mulN x' (Ma.invN x)):=⟨Cm.gd_mul g7.1 (Cm.gd_inv h7.1),by
      have h9:=hH.mul _ _ g7.2 (hH.inv _ h7.2);rw [jn_inv h6 h7.1,jn_mul h6 g7.1 (Cm.gd_inv h6) (Cm.gd_inv h7.1),Cm.mul_inv h6] at h9
      exact h9⟩
     have h10:=LstC.move (KerH.isG hH) h7.1 hk g7.1 g8;rw [Cm.Lst.uniq h8 h10];exact ⟨rfl,rfl⟩
end Go.Proofs.YthehbckogieimaaGreat

namespace Go.Proofs.YthehbckogieimaaGreat
open Go.RowKit
open Go.Proofs
open Go.Proofs.Ob
open Go.Proofs.Cm (Gd Gr IsChain ap)
attribute [local irreducible] Go.Calls Go.wpList
theorem Amcl2 (args:Array Value) (w:World):(callFunc 130 args).run Tryz.prog w=.ok (.enter 130 args) w:=by kernel_rfl
theorem Amcl4 (args:Array Value) (w:World):(callFunc 132 args).run Tryz.prog w=.ok (.enter 132 args) w:=by kernel_rfl
theorem Amcl5 (args:Array Value) (w:World):(callFunc 131 args).run Tryz.prog w=.ok (.enter 131 args) w:=by kernel_rfl
def HpPost (d e:Int) (L M:List (List Int)) (yl:List Int) (w:World) (ed:Ending) (w':World):Prop:=∃ v c l,ed=.returned (.tuple #[v,.int .i64 c])∧Rg.Ints w' v l∧HpV d e L M yl l c∧Below w.heap.size w w'
theorem Pre_hom {d e:Int} {gv hv yv:Value} {L M:List (List Int)} {yl:List Int} {w:World} (h:Rg.Rows w gv L) (h':Rg.Rows w hv M) (hy:Rg.Ints w yv yl) :
  Calls Tryz.prog 56 #[.agg #[.int .i64 d,gv],.agg #[.int .i64 e,hv],yv] w (HpPost d e L M yl w):=by
 obtain ⟨ga,gc,rfl,-⟩:=h.shape;obtain ⟨ha,hc,rfl,-⟩:=h'.shape;obtain ⟨xa,xc,rfl,-⟩:=hy.shape;have HG:=ι h;have HH:=ι h';have HX:=ι hy;have K:=ι (Below.refl w.heap.size w);clear h h' hy;obtain ⟨c,hc0⟩:∃ c,Hid (rtC d e L M=c):=⟨_,ι rfl⟩;obtain ⟨c2,hc2⟩:∃ c,Hid (elC yl e=c):=⟨_,ι rfl⟩
 go_enter Tryz.func56,Tryz.ntmps56
 go_upto_region 0 with (fail);refine Rg.wl ?_;have hbx:=box2t w (.int .i64 d) (.slice ga L.length gc) 24;refine Rg.lr 3 (Rg.exec_box _ _ rfl rfl) ?_;go_frame;have hb:=(Below.refl w.heap.size w).alloc (Nat.le_refl _) (.cells #[.int .i64 d,.slice ga L.length gc] 24);generalize w.alloc (.cells #[.int .i64 d,.slice ga L.length gc] 24)=w1 at *;replace HG:=ι (HG.out.below hb);replace HH:=ι (HH.out.below hb);replace HX:=ι (HX.out.below hb);replace K:=ι (Rg.acc K.out hb);clear hb;have G0:=ι hbx.1;have G1:=ι hbx.2;clear hbx;have hbx:=box2t w1 (.int .i64 e) (.slice ha M.length hc) 24;refine Rg.lr 4 (Rg.exec_box _ _ rfl rfl) ?_;go_frame;have hb:=(Below.refl w1.heap.size w1).alloc (Nat.le_refl _) (.cells #[.int .i64 e,.slice ha M.length hc] 24);generalize w1.alloc (.cells #[.int .i64 e,.slice ha M.length hc] 24)=w2 at *;replace HG:=ι (HG.out.below hb);replace HH:=ι (HH.out.below hb)
 replace HX:=ι (HX.out.below hb);replace G0:=ι (G0.out.below hb);replace G1:=ι (G1.out.below hb);replace K:=ι (Rg.acc K.out hb);clear hb;have H0:=ι hbx.1;have H1:=ι hbx.2;clear hbx;refine Rg.la 6 (.slice none 0 0) ?_;go_frame;refine Rg.la 7 (.int .i64 0) ?_;go_frame
 by_cases h0:c=0
 case neg =>
  have HV:=ι (show HpV d e L M yl [] c from .inl ⟨by rw [hc0.out]; exact h0,hc0.out.symm,rfl⟩);go_upto_region 1 with (fail);refine Rg.wl ?_;refine Rg.lr 15 (Rg.exec_load (v:=.agg #[.int .i64 d,.slice ga L.length gc]) _ _ rfl ⟨w.heap.size,0,none⟩ rfl (run_loadG G0.out.cell G1.out.cell)) ?_;go_frame;refine Rg.lr 16 (Rg.exec_load (v:=.agg #[.int .i64 e,.slice ha M.length hc]) _ _ rfl ⟨w1.heap.size,0,none⟩ rfl (run_loadG H0.out.cell H1.out.cell)) ?_;go_frame;refine Rg.lk 17 (exec_fn 125 _ _ _ rfl rfl rfl (Aecl1 _ _)) ?_;refine (right_any' HG.out HH.out).mono ?_;rintro e1 w3 ⟨pv,rfl,_,hb⟩;rw [hc0.out];refine ⟨_,rfl,?_⟩;go_frame;replace HG:=ι (HG.out.below hb);replace HH:=ι (HH.out.below hb);replace HX:=ι (HX.out.below hb);replace G0:=ι (G0.out.below hb);replace G1:=ι (G1.out.below hb);replace H0:=ι (H0.out.below hb);replace H1:=ι (H1.out.below hb);replace K:=ι (Rg.acc K.out hb)
  clear hb;refine Rg.lm 14 (.tuple #[pv,.int .i64 c]) ?_;go_frame;refine Rg.lr 18 (exec_extract (v:=pv) _ _ rfl rfl rfl) ?_;go_frame;refine Rg.lr 19 (exec_extract (v:=.int .i64 c) _ _ rfl rfl rfl) ?_;go_frame;refine Rg.la 8 (pv) ?_;go_frame;refine Rg.la 9 (.int .i64 c) ?_;go_frame;go_upto_region 2 with (fail);refine Rg.wl ?_;refine Rg.lm 20 (.int .i64 c) ?_;go_frame;refine Rg.lr 21 (exec_bin (R:=.bool true) .neq _ _ _ rfl rfl rfl (b_neqB _ (decide_eq_true h0))) ?_;go_frame;go_upto_region 3 with (fail);refine Rg.wl ?_;refine Rg.lm 22 (.int .i64 c) ?_;go_frame;refine Rg.la 6 (.slice none 0 0) ?_;go_frame;refine Rg.la 7 (.int .i64 c) ?_;go_frame;go_wp2
  go_ret2
  exact ⟨_,_,[],rfl,ints_nil _,HV.out,K.out⟩
 case pos =>
  have HZ:=ι (hc0.out.trans h0);obtain ⟨n,m,A,B,hmg⟩:=homC_get (rtC_hom HZ.out);have HMG:=ι hmg;have HEM:=ι hmg.em;clear hmg;go_upto_region 1 with (fail);refine Rg.wl ?_;refine Rg.lr 15 (Rg.exec_load (v:=.agg #[.int .i64 d,.slice ga L.length gc]) _ _ rfl ⟨w.heap.size,0,none⟩ rfl (run_loadG G0.out.cell G1.out.cell)) ?_;go_frame;refine Rg.lr 16 (Rg.exec_load (v:=.agg #[.int .i64 e,.slice ha M.length hc]) _ _ rfl ⟨w1.heap.size,0,none⟩ rfl (run_loadG H0.out.cell H1.out.cell)) ?_;go_frame;refine Rg.lk 17 (exec_fn 125 _ _ _ rfl rfl rfl (Aecl1 _ _)) ?_;refine (right_any' HG.out HH.out).mono ?_;rintro e1 w14 ⟨pv,rfl,hpv,hb⟩;rw [HZ.out];obtain ⟨pb,oa,oc,ra,rc,rfl,hpa⟩:=hpv (rtC_hom HZ.out);refine ⟨_,rfl,?_⟩;go_frame;replace HG:=ι (HG.out.below hb);replace HH:=ι (HH.out.below hb);replace HX:=ι (HX.out.below hb);replace G0:=ι (G0.out.below hb);replace G1:=ι (G1.out.below hb)
  replace H0:=ι (H0.out.below hb);replace H1:=ι (H1.out.below hb);replace K:=ι (Rg.acc K.out hb);clear hb;have PA:=ι hpa;refine Rg.lm 14 (.tuple #[.pointer (some ⟨pb,0,none⟩),.int .i64 0]) ?_;go_frame;refine Rg.lr 18 (exec_extract (v:=.pointer (some ⟨pb,0,none⟩)) _ _ rfl rfl rfl) ?_;go_frame;refine Rg.lr 19 (exec_extract (v:=.int .i64 0) _ _ rfl rfl rfl) ?_;go_frame;refine Rg.la 8 (.pointer (some ⟨pb,0,none⟩)) ?_;go_frame;refine Rg.la 9 (.int .i64 0) ?_;go_frame;clear hpv hpa;go_upto_region 2 with (fail);refine Rg.wl ?_;refine Rg.lm 20 (.int .i64 0) ?_;go_frame;refine Rg.lr 21 (exec_bin (R:=.bool false) .neq _ _ _ rfl rfl rfl (b_neqB _ (decide_eq_false (fun q=>q rfl)))) ?_;go_frame;go_upto_region 4 with (fail);refine Rg.wl ?_;refine Rg.lm 23 (.slice xa yl.length xc) ?_;go_frame;refine Rg.lr 24 (exec_fieldG0 _ rfl rfl) ?_;go_frame;refine Rg.lr 25 (Rg.exec_load (v:=.int .i64 e) _ _ rfl ⟨w1.heap.size,0,none⟩ rfl (run_loadInt H0.out.cell)) ?_;go_frame
  refine Rg.lk 26 (exec_fn 126 _ _ _ rfl rfl rfl (Aecl2 _ _)) ?_;refine (element_any (d:=e) HX.out).mono ?_;rintro e1 w15 ⟨rfl,hb⟩;rw [hc2.out];refine ⟨_,rfl,?_⟩;go_frame;replace HG:=ι (HG.out.below hb);replace HH:=ι (HH.out.below hb);replace HX:=ι (HX.out.below hb);replace G0:=ι (G0.out.below hb);replace G1:=ι (G1.out.below hb);replace H0:=ι (H0.out.below hb);replace H1:=ι (H1.out.below hb);replace PA:=ι (PA.out.below hb);replace K:=ι (Rg.acc K.out hb);clear hb;refine Rg.la 10 (.int .i64 c2) ?_;go_frame
  by_cases h2:c2=0
  case neg =>
   have HV:=ι (show HpV d e L M yl [] c2 from .inr (.inl ⟨HZ.out,by rw [hc2.out]; exact h2,hc2.out.symm,rfl⟩));go_upto_region 5 with (fail);refine Rg.wl ?_;refine Rg.lm 27 (.int .i64 c2) ?_;go_frame;refine Rg.lr 28 (exec_bin (R:=.bool true) .neq _ _ _ rfl rfl rfl (b_neqB _ (decide_eq_true h2))) ?_;go_frame;go_upto_region 6 with (fail);refine Rg.wl ?_;refine Rg.lm 29 (.int .i64 c2) ?_;go_frame;refine Rg.la 6 (.slice none 0 0) ?_;go_frame;refine Rg.la 7 (.int .i64 c2) ?_;go_frame;go_wp2
   go_ret2
   exact ⟨_,_,[],rfl,ints_nil _,HV.out,K.out⟩
  case pos =>
   have HZ2:=ι (hc2.out.trans h2);obtain ⟨y,hyy,hgy⟩:=elC_get (n:=m) (by rw [← HEM.out]; exact HZ2.out);have HYY:=ι hyy;have GY:=ι hgy;have HSW:=ι HMG.out.swap
   have HDF:=ι (show DefH n m (PG2 n m A B) from by
    obtain ⟨N,gs,hpc⟩:=PA.out.pc;refine HMG.out.defH hpc ?_;have h5:=rtC_def HZ.out;rw [show d.toNat=n by have:=HMG.out.dn; omega] at h5
    exact h5)
   clear hyy hgy;have HNP:=ι (show Rg.NP w15 (.slice xa yl.length xc) y by have h5:=HX.out; rw [HYY.out] at h5 ⊢; exact h5);go_upto_region 5 with (fail);refine Rg.wl ?_;refine Rg.lm 27 (.int .i64 c2) ?_;go_frame;refine Rg.lr 28 (exec_bin (R:=.bool false) .neq _ _ _ rfl rfl rfl (b_neqB _ (decide_eq_false (fun q=>q h2)))) ?_;go_frame;go_upto_region 7 with (fail);refine Rg.wl ?_;refine Rg.lm 30 (.pointer (some ⟨pb,0,none⟩)) ?_;go_frame;refine Rg.lk 31 (exec_fn1 130 _ _ rfl rfl (Amcl2 _ _)) ?_;refine (turned_any PA.out (rtC_hom HZ.out)).mono ?_;rintro e1 w26 ⟨qb,oa2,oc2,ra2,rc2,rfl,hqa,hb⟩;refine ⟨_,rfl,?_⟩;go_frame;replace HG:=ι (HG.out.below hb);replace HH:=ι (HH.out.below hb);replace HX:=ι (HX.out.below hb);replace G0:=ι (G0.out.below hb);replace G1:=ι (G1.out.below hb);replace H0:=ι (H0.out.below hb);replace H1:=ι (H1.out.below hb);replace PA:=ι (PA.out.below hb)
   replace HNP:=ι (HNP.out.below hb);replace K:=ι (Rg.acc K.out hb);clear hb;have QA:=ι hqa;refine Rg.la 11 (.pointer (some ⟨qb,0,none⟩)) ?_;go_frame;clear hqa;go_upto_region 8 with (fail);refine Rg.wl ?_;refine Rg.lm 33 (.pointer (some ⟨qb,0,none⟩)) ?_;go_frame;refine Rg.lm 34 (.slice xa yl.length xc) ?_;go_frame;refine Rg.lk 35 (exec_fn 127 _ _ _ rfl rfl rfl (Aecl3 _ _)) ?_;refine (partner_c QA.out HSW.out HNP.out GY.out).mono ?_;rintro e1 w27 ⟨yv,bb,rfl,hyb,hb⟩;refine ⟨_,rfl,?_⟩;go_frame;replace HG:=ι (HG.out.below hb);replace HH:=ι (HH.out.below hb);replace HX:=ι (HX.out.below hb);replace G0:=ι (G0.out.below hb);replace G1:=ι (G1.out.below hb);replace H0:=ι (H0.out.below hb);replace H1:=ι (H1.out.below hb);replace PA:=ι (PA.out.below hb);replace HNP:=ι (HNP.out.below hb);replace QA:=ι (QA.out.below hb);replace K:=ι (Rg.acc K.out hb);clear hb;refine Rg.lm 32 (.tuple #[yv,.bool bb]) ?_;go_frame
   refine Rg.lr 36 (exec_extract (v:=yv) _ _ rfl rfl rfl) ?_;go_frame;refine Rg.lr 37 (exec_extract (v:=.bool bb) _ _ rfl rfl rfl) ?_;go_frame;refine Rg.la 12 (yv) ?_;go_frame;refine Rg.la 13 (.bool bb) ?_;go_frame
   cases bb
   case false =>
    go_upto_region 9 with (fail);refine Rg.wl ?_;refine Rg.lm 38 (.bool false) ?_;go_frame;refine Rg.lr 39 (exec_not _ _ false rfl rfl) ?_;go_frame;go_upto_region 10 with (fail);refine Rg.wl ?_;refine Rg.la 6 (.slice none 0 0) ?_;go_frame;refine Rg.la 7 (.int .i64 18) ?_;go_frame;have HV:=ι (show HpV d e L M yl [] 18 from .inr (.inr ⟨HZ.out,HZ2.out,n,m,A,B,y,HMG.out,HDF.out,HYY.out,GY.out,.inl ⟨hyb.2,rfl,rfl⟩⟩));go_wp2
    go_ret2
    exact ⟨_,_,[],rfl,ints_nil _,HV.out,K.out⟩
   case true =>
    go_upto_region 9 with (fail);refine Rg.wl ?_;refine Rg.lm 38 (.bool true) ?_;go_frame;refine Rg.lr 39 (exec_not _ _ true rfl rfl) ?_;go_frame;obtain ⟨x,hxx,hxr⟩:=hyb;have HXX:=ι hxx;have HXR:=ι hxr;obtain ⟨N1,gs1,hp1⟩:=QA.out.pc;have HP1:=ι hp1;have HMK:=ι (kr_mk HMG.out hp1);obtain ⟨KL,hKL⟩:∃ l,Hid (bhL m (pR (e+d) (prL M L))=l):=⟨_,ι rfl⟩;clear hxx hxr hp1;go_upto_region 11 with (fail);refine Rg.wl ?_;refine Rg.lm 40 (.pointer (some ⟨qb,0,none⟩)) ?_;go_frame;refine Rg.lk 41 (exec_fn1 132 _ _ rfl rfl (Amcl4 _ _)) ?_;refine (behind_any QA.out HSW.out).mono ?_;rintro e1 w108 ⟨cv,rfl,hcv,hb⟩;rw [HMK.out] at hcv;rw [hKL.out] at hcv;obtain ⟨oa3,oc3,ra3,rc3,rfl,hce,N3,gs3,hp3⟩:=hcv.ans.pc;have HP3:=ι hp3;clear hp3;refine ⟨_,rfl,?_⟩;go_frame;replace HG:=ι (HG.out.below hb);replace HH:=ι (HH.out.below hb);replace HX:=ι (HX.out.below hb);replace G0:=ι (G0.out.below hb)
    replace G1:=ι (G1.out.below hb);replace H0:=ι (H0.out.below hb);replace H1:=ι (H1.out.below hb);replace PA:=ι (PA.out.below hb);replace HNP:=ι (HNP.out.below hb);replace QA:=ι (QA.out.below hb);replace HXX:=ι (HXX.out.below hb);replace K:=ι (Rg.acc K.out hb);clear hb;have CE:=ι hce;refine Rg.lm 42 (yv) ?_;go_frame;refine Rg.lk 43 (exec_fn 131 _ _ _ rfl rfl rfl (Amcl5 _ _)) ?_;refine (Least_rank CE.out (show Rg.Ints w108 _ (Ma.ofN x) from HXX.out)).mono ?_;rintro e1 w109 ⟨lv,lc,ll,rfl,hlv,hle,hb⟩;obtain ⟨rfl,z,hlz,rfl⟩:=kr_least HMG.out HP1.out (by rw [hKL.out]; exact HP3.out) HXR.out.1 (by rw [hKL.out]; exact hle);have HLZ:=ι hlz;clear hle hlz;refine ⟨_,rfl,?_⟩;go_frame;replace HG:=ι (HG.out.below hb);replace HH:=ι (HH.out.below hb);replace HX:=ι (HX.out.below hb);replace G0:=ι (G0.out.below hb);replace G1:=ι (G1.out.below hb);replace H0:=ι (H0.out.below hb)
    replace H1:=ι (H1.out.below hb);replace PA:=ι (PA.out.below hb);replace HNP:=ι (HNP.out.below hb);replace QA:=ι (QA.out.below hb);replace HXX:=ι (HXX.out.below hb);replace CE:=ι (CE.out.below hb);replace K:=ι (Rg.acc K.out hb);clear hb;have LV:=ι hlv;refine Rg.lr 44 (exec_extract (v:=lv) _ _ rfl rfl rfl) ?_;go_frame;refine Rg.lr 45 (exec_extract (v:=.int .i64 0) _ _ rfl rfl rfl) ?_;go_frame;refine Rg.la 6 (lv) ?_;go_frame;refine Rg.la 7 (.int .i64 0) ?_;go_frame;have HV:=ι (show HpV d e L M yl (Ma.ofN z) 0 from .inr (.inr ⟨HZ.out,HZ2.out,n,m,A,B,y,HMG.out,HDF.out,HYY.out,GY.out,.inr ⟨x,z,HXR.out,HLZ.out,rfl,rfl⟩⟩));go_wp2
    go_ret2
    exact ⟨_,_,_,rfl,LV.out,HV.out,K.out⟩
theorem ChEqR.up2 {w0 w w':World} {ov rv:Value} {OO:List (List Int)} {RR:List (List (List Int))} (h:ChEqR w0 ov rv OO RR) (hb0:Below w0.heap.size w0 w) (hb:Below w0.heap.size w w'):ChEqR w' ov rv OO RR:=h.below (hb0.trans hb)
def OtP (n m:Nat) (A B:List (List Nat)) (x:List Nat) (w:World) (ed:Ending) (w':World):Prop :=
 ((ed=.returned (.slice none 0 0)∧ImR m (PG2 n m A B) x none)∨∃ b o c y,ed=.returned (.slice (some ⟨b,o,none⟩) m c)∧Rg.NP w' (.slice (some ⟨b,o,none⟩) m c) y∧ImR m (PG2 n m A B) x (some y))∧Below w.heap.size w w'
theorem jn_ext (n m:Nat) (x:List Nat) (hx:x.length=n):(Ma.ofN x++(List.range m).map (fun t=>((n+t:Nat):Int)))=Ma.ofN (jnN x (Ma.oneN m)):=by
 unfold jnN Ma.ofN Ma.oneN;rw [List.map_append,List.map_map,hx]
 congr 1
 refine List.map_congr_left fun t _=>?_;simp only [Function.comp];omega
theorem idx_none {l:List Nat} {v:Nat} (h:∀ j (hj:j<l.length),l[j]≠v):v∉l:=fun hv=>by
 obtain ⟨j,hj,e⟩:=List.getElem_of_mem hv;exact h j hj e
theorem other_any {n m:Nat} {A B:List (List Nat)} {gv hv xv:Value} {L M:List (List Int)} {x:List Nat} {w:World} (h:Rg.Rows w gv L) (h':Rg.Rows w hv M) (hm:HomG ((n:Nat):Int) ((m:Nat):Int) L M n m A B) (hx:Rg.NP w xv x) (gx:Gd n x) :
  Calls Tryz.prog 129 #[.agg #[.int .i64 ((n:Nat):Int),gv],.agg #[.int .i64 ((m:Nat):Int),hv],xv] w (OtP n m A B x w):=by
 obtain ⟨ga,gc,rfl,-⟩:=h.shape;obtain ⟨ha,hc,rfl,-⟩:=h'.shape;have hn1:=hm.n1;have hm1:=hm.m1;have hnm:=hm.nm;have HGA:=ι hm.ga;have HGB:=ι hm.gb;have HN1:=ι hn1;have HM1:=ι hm1;have HNM:=ι hnm;have HH:=ι (pg_isG hm.ga hm.gb);obtain ⟨xa,xo,xc,rfl⟩:=FP.shape' (FP.of_np hx) gx hn1;have HM:=ι hm;have HG:=ι h;have HHR:=ι h';have HX:=ι hx;have GX:=ι gx;have K:=ι (Below.refl w.heap.size w);clear h h' hm hx gx hn1 hm1
 go_enter Tryz.func129,Tryz.ntmps129
 go_upto_region 0 with (fail);refine Rg.wl ?_;have hbx:=box2t w (.int .i64 ((n:Nat):Int)) (.slice ga L.length gc) 24;refine Rg.lr 3 (Rg.exec_box _ _ rfl rfl) ?_;go_frame;have hb:=(Below.refl w.heap.size w).alloc (Nat.le_refl _) (.cells #[.int .i64 ((n:Nat):Int),.slice ga L.length gc] 24);generalize w.alloc (.cells #[.int .i64 ((n:Nat):Int),.slice ga L.length gc] 24)=w1 at *;replace HG:=ι (HG.out.below hb);replace HHR:=ι (HHR.out.below hb);replace HX:=ι (HX.out.below hb);replace K:=ι (Rg.acc K.out hb);clear hb;have G0:=ι hbx.1;have G1:=ι hbx.2;clear hbx;have hbx:=box2t w1 (.int .i64 ((m:Nat):Int)) (.slice ha M.length hc) 24;refine Rg.lr 4 (Rg.exec_box _ _ rfl rfl) ?_;go_frame;have hb:=(Below.refl w1.heap.size w1).alloc (Nat.le_refl _) (.cells #[.int .i64 ((m:Nat):Int),.slice ha M.length hc] 24);generalize w1.alloc (.cells #[.int .i64 ((m:Nat):Int),.slice ha M.length hc] 24)=w2 at *
 replace HG:=ι (HG.out.below hb);replace HHR:=ι (HHR.out.below hb);replace HX:=ι (HX.out.below hb);replace G0:=ι (G0.out.below hb);replace G1:=ι (G1.out.below hb);replace K:=ι (Rg.acc K.out hb);clear hb;have H0:=ι hbx.1;have H1:=ι hbx.2;clear hbx;refine Rg.la 6 (.slice none 0 0) ?_;go_frame;go_upto_region 1 with (fail);refine Rg.wl ?_;refine Rg.lr 13 (Rg.exec_load (v:=.agg #[.int .i64 ((n:Nat):Int),.slice ga L.length gc]) _ _ rfl ⟨w.heap.size,0,none⟩ rfl (run_loadG G0.out.cell G1.out.cell)) ?_;go_frame;refine Rg.lr 14 (Rg.exec_load (v:=.agg #[.int .i64 ((m:Nat):Int),.slice ha M.length hc]) _ _ rfl ⟨w1.heap.size,0,none⟩ rfl (run_loadG H0.out.cell H1.out.cell)) ?_;go_frame;refine Rg.lk 15 (exec_fn 205 _ _ _ rfl rfl rfl (Kzcl0 _ _)) ?_;refine (hpairs_ok HG.out HHR.out HM.out).mono ?_;rintro e1 w3 ⟨oa,oc,ra,rc,rfl,hce,hpx,hb⟩;obtain ⟨N,gs,hpc⟩:=hpx
 obtain ⟨hN,hch⟩:=HM.out.pgc hpc;obtain ⟨O,hO⟩:∃ O,Hid ((pOR (((n:Nat):Int)+((m:Nat):Int)) (prL L M)).1=O):=⟨_,ι rfl⟩;obtain ⟨R,hR⟩:∃ R,Hid ((pOR (((n:Nat):Int)+((m:Nat):Int)) (prL L M)).2=R):=⟨_,ι rfl⟩
 have eO:pO (((n:Nat):Int)+((m:Nat):Int)) (prL L M)=O.map Ma.ofN:=by unfold pO; rw [hO.out]
 have eR:pR (((n:Nat):Int)+((m:Nat):Int)) (prL L M)=R.map (List.map Ma.ofN):=by unfold pR; rw [hR.out]
 rw [hO.out,hR.out] at hch;rw [eO,eR] at hce;have HCH:=ι hch;obtain ⟨ob,oo,oc9,rb,ro,rc9,eo9,er9,-,-⟩:=level_rows hch hce (i:=0) (by have:=HN1.out; omega)
 injection eo9 with eo9 _ e8
 subst e8;subst eo9
 injection er9 with er9 _ e8
 subst e8;subst er9;clear hpc hch eO eR hN;refine ⟨_,rfl,?_⟩;go_frame;replace HG:=ι (HG.out.below hb);replace HHR:=ι (HHR.out.below hb);replace HX:=ι (HX.out.below hb);replace G0:=ι (G0.out.below hb);replace G1:=ι (G1.out.below hb);replace H0:=ι (H0.out.below hb);replace H1:=ι (H1.out.below hb);replace K:=ι (Rg.acc K.out hb);clear hb;have CE:=ι hce;refine Rg.lr 7 (exec_allocC rfl) ?_;go_frame;refine Rg.list_skip none rfl rfl (Rg.exec_store _ _ _ rfl _ rfl _ rfl (run_storeC _ _ _ _ _ _ _ (Tri.new w3 (.int .i64 0) (.slice none 0 0) (.slice none 0 0)))) ?_;go_frame;have htn:=(Tri.new w3 (.int .i64 0) (.slice none 0 0) (.slice none 0 0)).set (.int .i64 (((n:Nat):Int)+((m:Nat):Int))) (.slice (some ⟨ob,oo,none⟩) (n+m) oc) (.slice (some ⟨rb,ro,none⟩) (n+m) rc);have hb:=((((Below.refl w3.heap.size w3).alloc (Nat.le_refl _) (.cells #[.int .i64 0,.slice none 0 0,.slice none 0 0] 54)).setCell (p:=⟨w3.heap.size,0,none⟩) (Nat.le_refl _) (.int .i64 (((n:Nat):Int)+((m:Nat):Int)))).setCell (p:=⟨w3.heap.size,1,none⟩) (Nat.le_refl _) (.slice (some ⟨ob,oo,none⟩) (n+m) oc)).setCell (p:=⟨w3.heap.size,2,none⟩) (Nat.le_refl _) (.slice (some ⟨rb,ro,none⟩) (n+m) rc)
 generalize (((w3.alloc (.cells #[.int .i64 0,.slice none 0 0,.slice none 0 0] 54)).setCell ⟨w3.heap.size,0,none⟩ (.int .i64 (((n:Nat):Int)+((m:Nat):Int)))).setCell ⟨w3.heap.size,1,none⟩ (.slice (some ⟨ob,oo,none⟩) (n+m) oc)).setCell ⟨w3.heap.size,2,none⟩ (.slice (some ⟨rb,ro,none⟩) (n+m) rc)=w4 at *;replace HG:=ι (HG.out.below hb);replace HHR:=ι (HHR.out.below hb);replace HX:=ι (HX.out.below hb);replace G0:=ι (G0.out.below hb);replace G1:=ι (G1.out.below hb);replace H0:=ι (H0.out.below hb);replace H1:=ι (H1.out.below hb);replace CE:=ι (CE.out.below hb);replace K:=ι (Rg.acc K.out hb);clear hb;have S1:=ι htn;clear htn;clear hce;go_upto_region 2 with (fail);refine Rg.wl ?_;refine Rg.lm 16 (.slice (some ⟨xa,xo,none⟩) n xc) ?_;go_frame;have G0o:=G0;have H0o:=H0;have S1o:=S1;have CEo:=CE;have Ko:=K;have HB0:=ι (Below.refl w4.heap.size w4)
 refine Rg.lk 17 (exec_fn1 70 _ _ rfl rfl (Wncl3 _ _)) ?_;refine (Own_any _ (Ma.ofN x) w4 HX.out (by rw [Ma.len_ofN,GX.out.2]; omega)).mono ?_;rintro e1 w5 ⟨zv0,rfl,hzv,hb⟩;have OW:=ι (OwI.mk hzv);have HSZ:=ι hb.size;have KOB:=ι hb;clear hzv;refine ⟨_,rfl,?_⟩;go_frame;replace HG:=ι (HG.out.below hb);replace HHR:=ι (HHR.out.below hb);replace HX:=ι (HX.out.below hb);replace G0:=ι (G0.out.below hb);replace G1:=ι (G1.out.below hb);replace H0:=ι (H0.out.below hb);replace H1:=ι (H1.out.below hb);replace CE:=ι (CE.out.below hb);replace S1:=ι (S1.out.below hb);replace K:=ι (Rg.acc K.out hb);clear hb;refine Rg.la 2 (zv0) ?_;go_frame;clear HB0;have KO:=ι (show Below w4.heap.size w4 w5 from KOB.out);go_upto_region 3 with (fail);refine Rg.wl ?_;refine Rg.la 8 (.int .i64 ((0:Nat):Int)) ?_;go_frame;have OW0:=ι (show OwI w4.heap.size w5 zv0 (Ma.ofN x++(List.range 0).map (fun t=>((n+t:Nat):Int))) by rw [List.range_zero,List.map_nil,List.append_nil]; exact OW.out)
 have K1:=ι (Below.refl w4.heap.size w5);have HLG0:=ι (show w.heap.size<w4.heap.size from G0o.out.lt);have HLH0:=ι (show w1.heap.size<w4.heap.size from H0o.out.lt);have HLS1:=ι (show w3.heap.size<w4.heap.size from S1o.out.lt);have HWO:=ι Ko.out.size;clear OW HG HHR HX;go_wp2
 go_loopw [2,8] (fun zv kv wr=>∃ k:Nat,kv=.int .i64 ((k:Nat):Int)∧k≤m∧Hid (OwI w4.heap.size wr zv (Ma.ofN x++(List.range k).map (fun t=>((n+t:Nat):Int))))∧Hid (Below w4.heap.size w5 wr)) (fun _ kv _=>m - (intOf kv).toNat)
 case atStart=>exact ⟨0,rfl,Nat.zero_le _,OW0,K1⟩
 case round =>
  clear OW0 K1;obtain ⟨k,rfl,hk,OW,K1⟩:=hrel;generalize wr=wd at *;obtain ⟨za,zc,rfl⟩:=OW.out.shape
  by_cases hkm:k<m
  case pos =>
   have HKM:=ι hkm;obtain ⟨jl,hjl⟩:∃ l,Hid ((Ma.ofN x++(List.range k).map (fun t=>((n+t:Nat):Int)))=l):=⟨_,ι rfl⟩;have HJ:=ι (show (Ma.ofN x++(List.range (k+1)).map (fun t=>((n+t:Nat):Int)))=jl++[((n+k:Nat):Int)] by rw [← hjl.out,List.range_succ,List.map_append,List.append_assoc]; rfl);have HJL:=ι (show jl.length<1000000 by rw [← hjl.out,List.length_append,Ma.len_ofN,List.length_map,List.length_range,GX.out.2]; omega);rw [hjl.out] at OW ⊢
   skip
   have qG0:=ι (CL.upto G0.out K1.out HLG0.out);have qH0:=ι (CL.upto H0.out K1.out HLH0.out);go_upto_region 4 with (fail);refine Rg.wl ?_;refine Rg.lm 18 (.int .i64 ((k:Nat):Int)) ?_;go_frame;refine Rg.lr 19 (exec_fieldG0 _ rfl rfl) ?_;go_frame;refine Rg.lr 20 (Rg.exec_load (v:=.int .i64 ((m:Nat):Int)) _ _ rfl ⟨w1.heap.size,0,none⟩ rfl (run_loadInt qH0.out.cell)) ?_;go_frame;refine Rg.lr 21 (exec_bin (R:=.bool true) .lss _ _ _ rfl rfl rfl (b_lss _ Rg.dT)) ?_;go_frame;go_upto_region 6 with (fail);refine Rg.wl ?_;refine Rg.lm 24 (.slice za jl.length zc) ?_;go_frame;refine Rg.lr 25 (exec_fieldG0 _ rfl rfl) ?_;go_frame;refine Rg.lr 26 (Rg.exec_load (v:=.int .i64 ((n:Nat):Int)) _ _ rfl ⟨w.heap.size,0,none⟩ rfl (run_loadInt qG0.out.cell)) ?_;go_frame;refine Rg.lm 27 (.int .i64 ((k:Nat):Int)) ?_;go_frame;refine Rg.lr 28 (exec_bin (R:=.int .i64 (((n+k):Nat):Int)) .add _ _ _ rfl rfl rfl (b_add _ (by omega) (by omega))) ?_;go_frame
   refine Rg.lr 29 (Rg.exec_buildSlice _ _ _ rfl (.int .i64 (((n+k):Nat):Int)) rfl (run_build1p wd _)) ?_;go_frame;obtain ⟨a9,c9,X9,r1,r2,r3⟩:=OW.out.pushP (Nat.le_trans HSZ.out K1.out.size) (((n+k):Nat):Int) HJL.out 51;refine Rg.lr 30 (Rg.exec_append _ _ _ rfl rfl rfl r1) ?_;go_frame;refine Rg.la 2 (.slice a9 (jl.length+1) c9) ?_;go_frame;have OW2:=ι (show OwI w4.heap.size X9 (.slice a9 (jl.length+1) c9) (Ma.ofN x++(List.range (k+1)).map (fun t=>((n+t:Nat):Int))) by rw [HJ.out]; exact r2);have K2:=ι (r3 (Nat.le_refl _) K1.out);clear r1 r2 r3;go_upto_region 5 with (fail);refine Rg.wl ?_;refine Rg.lm 22 (.int .i64 ((k:Nat):Int)) ?_;go_frame;refine Rg.lr 23 (exec_bin (R:=.int .i64 (((k+1):Nat):Int)) .add _ _ _ rfl rfl rfl (b_add _ (by omega) (by omega))) ?_;go_frame;refine Rg.la 8 (.int .i64 (((k+1):Nat):Int)) ?_;go_frame;go_wp2
   go_roundw
   case rel=>exact ⟨k+1,by go_num,HKM.out,OW2,K2⟩
   case measure=>simp [intOf]; have:=HKM.out; omega
  case neg =>
   have HJE:=ι (show (Ma.ofN x++(List.range k).map (fun t=>((n+t:Nat):Int)))=Ma.ofN (jnN x (Ma.oneN m)) by rw [show k=m by omega]; exact jn_ext n m x GX.out.2);have hgj:=jnN_gd GX.out (Cm.gd_one m)
   have NV:=ι (show Rg.NP wd (.slice za (Ma.ofN x++(List.range k).map (fun t=>((n+t:Nat):Int))).length zc) (jnN x (Ma.oneN m)) by
    have h5:=OW.out.own;rw [HJE.out] at h5 ⊢
    exact Rg.Ints.of_row h5 (by rw [Ma.len_ofN,hgj.2]; omega))
   obtain ⟨ea,eo,ec,e9⟩:=FP.shape' (FP.of_np NV.out) hgj (by have:=HN1.out; omega);rw [e9] at NV ⊢;clear e9 OW HJE;have SI0:=ι (SiI.start HH.out GX.out (m:=m));have qG0:=ι (CL.upto G0.out K1.out HLG0.out);have qH0:=ι (CL.upto H0.out K1.out HLH0.out);have qS1:=ι (Tri.upto S1.out K1.out HLS1.out);have qCE:=ι (show ChEqR wd (.slice (some ⟨ob,oo,none⟩) (n+m) oc) (.slice (some ⟨rb,ro,none⟩) (n+m) rc) (O.map Ma.ofN) (R.map (List.map Ma.ofN)) from ChEqR.up2 CEo.out KO.out K1.out);have KW:=ι (show Below w.heap.size w wd from K.out.trans (K1.out.mono HWO.out));clear G0 H0 G1 H1 S1 CE K1;go_upto_region 4 with (fail);refine Rg.wl ?_;refine Rg.lm 18 (.int .i64 ((k:Nat):Int)) ?_;go_frame;refine Rg.lr 19 (exec_fieldG0 _ rfl rfl) ?_;go_frame;refine Rg.lr 20 (Rg.exec_load (v:=.int .i64 ((m:Nat):Int)) _ _ rfl ⟨w1.heap.size,0,none⟩ rfl (run_loadInt qH0.out.cell)) ?_;go_frame
   refine Rg.lr 21 (exec_bin (R:=.bool false) .lss _ _ _ rfl rfl rfl (b_lss _ Rg.dF)) ?_;go_frame;go_upto_region 7 with (fail);refine Rg.wl ?_;refine Rg.la 9 (.int .i64 ((0:Nat):Int)) ?_;go_frame;have K2:=ι (Below.refl wd.heap.size wd);go_wp2
   go_loopw [2,9] (fun vv iv wr=>∃ (i:Nat) (v:List Nat),iv=.int .i64 ((i:Nat):Int)∧i≤n∧Hid (Rg.NP wr vv v)∧Hid (SiI n m (PG2 n m A B) x i v)∧Hid (Below wd.heap.size wd wr)) (fun _ iv _=>n - (intOf iv).toNat)
   case atStart=>exact ⟨0,_,rfl,Nat.zero_le _,NV,SI0,K2⟩
   case round =>
    clear NV SI0 K2;obtain ⟨i,v,rfl,hi,NV,SI,K2⟩:=hrel;generalize wr=we at *;have GV:=ι SI.out.2.1;have hnm:n+m≤64:=HNM.out;obtain ⟨ya,yo,yc,rfl⟩:=FP.shape' (FP.of_np NV.out) GV.out (by have:=HN1.out; omega)
    by_cases hin:i<n
    case pos =>
     have HIN:=ι hin
     have hinm:i<n+m:=by omega
     have HINM:=ι hinm;obtain ⟨ob',oo',oc',rb',ro',rc',e1,e2,⟨ua,uc,hco,hoi⟩,⟨va,vc,hcr,hri⟩⟩:=level_rows HCH.out qCE.out hinm
     injection e1 with e1 _ e9
     subst e9
     injection e1 with e1
     injection e1 with e3 e4
     subst e3 e4
     injection e2 with e2 _ e9
     subst e9
     injection e2 with e2
     injection e2 with e3 e4
     subst e3 e4;have hoL:=chain_len HH.out HCH.out hinm;have HO1:=ι (show 1≤(O.getD i []).length from List.length_pos_of_mem ((HCH.out.orb i i hinm).2 ⟨Ma.oneN (n+m),⟨HH.out.one,Cm.Fx.one (by omega)⟩,Cm.ap_one hinm⟩));have HLEN:=ι (HCH.out.len i hinm);obtain ⟨ol,hol⟩:∃ ol:List Nat,Hid (O.getD i []=ol):=⟨_,ι rfl⟩;obtain ⟨rl,hrl⟩:∃ rl:List (List Nat),Hid (R.getD i []=rl):=⟨_,ι rfl⟩;rw [hol.out] at hco hoi hoL HO1 hcr hri HLEN;rw [hrl.out] at hri HLEN;obtain ⟨ua',uc',e6,-,-,-,hos⟩:=hoi.shape;rw [Ma.len_ofN] at e6
     injection e6 with e7 _ e8
     subst e7 e8;obtain ⟨ub,uo,rfl,hub,huc⟩:=hos (by rw [Ma.len_ofN]; exact HO1.out)
     have OC:=ι (show ∀ j (hj:j<ol.length),CL wd ub (uo+j) (.int .i64 ((ol[j]:Nat):Int)) from fun j hj=>by
      have h5:=huc j (by rw [Ma.len_ofN]; exact hj);rw [Ma.get_ofN] at h5
      exact CL.mk h5 hub)
     have COw:=ι (hco.below K2.out);have CRw:=ι (hcr.below K2.out);have HRI:=ι (hri.below K2.out);have OCw:=ι (fun j hj=>(OC.out j hj).below K2.out);have S1w:=ι (qS1.out.below K2.out);obtain ⟨q,hq⟩:∃ q:Nat,Hid (ap v i=q):=⟨_,ι rfl⟩;have hvc:=(FP.of_np NV.out).ap GV.out hinm;rw [hq.out] at hvc;have CV:=ι (CL.mk hvc.cell hvc.lt);have KI:=ι (Below.refl we.heap.size we);have HS:=ι (show ∀ j (hj:j<ol.length),j<0→ol[j]≠q from fun j _ h=>absurd h (Nat.not_lt_zero _));clear hco hoi hcr hri hos huc hub OC hvc;go_upto_region 8 with (fail);refine Rg.wl ?_;refine Rg.lm 31 (.int .i64 ((i:Nat):Int)) ?_;go_frame;refine Rg.lr 32 (exec_fieldG0 _ rfl rfl) ?_;go_frame;refine Rg.lr 33 (Rg.exec_load (v:=.int .i64 ((n:Nat):Int)) _ _ rfl ⟨w.heap.size,0,none⟩ rfl (run_loadInt ((Below.cell (p:=⟨w.heap.size,0,none⟩) K2.out qG0.out.lt).trans qG0.out.cell))) ?_;go_frame
     refine Rg.lr 34 (exec_bin (R:=.bool true) .lss _ _ _ rfl rfl rfl (b_lss _ Rg.dT)) ?_;go_frame;go_upto_region 10 with (fail);refine Rg.wl ?_;refine Rg.la 10 (.int .i64 ((0:Nat):Int)) ?_;go_frame;go_wp2
     go_loopw [10] (fun kv wr=>∃ k:Nat,kv=.int .i64 ((k:Nat):Int)∧k≤ol.length∧Hid (∀ j (hj:j<ol.length),j<k→ol[j]≠q)∧Hid (Below we.heap.size we wr)) (fun kv _=>ol.length - (intOf kv).toNat)
     case atStart=>exact ⟨0,rfl,Nat.zero_le _,HS,KI⟩
     case round =>
      clear HS KI;obtain ⟨k,rfl,hk,HS,KI⟩:=hrel;generalize wr=wf at *;have hnm:n+m≤64:=HNM.out;have hin:i<n:=HIN.out
      by_cases hkl:k<ol.length
      case pos =>
       have HKL:=ι hkl;obtain ⟨r,hr⟩:∃ r:Nat,Hid (ol[k]'hkl=r):=⟨_,ι rfl⟩;have CK:=ι (OCw.out k hkl);rw [hr.out] at CK
       by_cases hrq:r=q
       case neg =>
        go_upto_region 11 with (fail);have hV0:Below wf.heap.size wf wf.drew:=(Below.refl _ _).drew;replace KI:=ι (Rg.acc KI.out hV0);clear hV0;refine Rg.Any.begin (S:=Rg.Both 22 (fun _=>True) (fun W=>Below we.heap.size we W)) mix ?_;generalize wf.drew=w141 at *;have hS:∀ (l:Array Bool) W,Below we.heap.size we W→Rg.Both 22 (fun _=>True) (fun W=>Below we.heap.size we W) l W:=fun l W h=>⟨.inr trivial,h⟩;have hI:=KI.out;refine Rg.tm 0 22 (.int .i64 ((k:Nat):Int)) 37 (hS _ _ hI) ?_;go_frame;refine Rg.tg 1 22 (.pointer (some ⟨w3.heap.size,1,none⟩)) 38 rfl rfl (.inl ⟨rfl,fun w _=>exec_field _ rfl rfl (chF1 _ _)⟩) (hS _ _ hI) ?_;go_frame;refine Rg.tg 2 22 (.slice (some ⟨ob,oo,none⟩) (n+m) oc) 39 rfl rfl (Rg.yields_cell _ _ rfl rfl ⟨w3.heap.size,1,none⟩ rfl (fun W hW=>Rg.run_loadSl _ _ Tryz.underlying27 ((Below.cell (p:=⟨w3.heap.size,1,none⟩) hW S1w.out.lt).trans S1w.out.c1))) (hS _ _ hI) ?_;go_frame
        refine Rg.tm 3 22 (.int .i64 ((i:Nat):Int)) 40 (hS _ _ hI) ?_;go_frame;refine Rg.tg 4 22 (.pointer (some ⟨ob,oo+i,none⟩)) 41 rfl rfl (Rg.yields_index slIntss _ _ rfl rfl ob (oo) ((n+m)) oc (i) rfl rfl (by omega)) (hS _ _ hI) ?_;go_frame;refine Rg.tg 5 22 (.slice (some ⟨ub,uo,none⟩) ol.length uc) 42 rfl rfl (Rg.yields_cell _ _ rfl rfl ⟨ob,oo+i,none⟩ rfl (fun W hW=>Rg.run_loadSl _ _ Tryz.underlying36 ((Below.cell (p:=⟨ob,oo+i,none⟩) hW COw.out.lt).trans COw.out.cell))) (hS _ _ hI) ?_;go_frame;refine Rg.tg 6 22 (.int .i64 ((ol.length:Nat):Int)) 43 rfl rfl (.inl ⟨rfl,fun w _=>exec_len _ _ _ rfl Tryz.underlying36 _ _ _ rfl⟩) (hS _ _ hI) ?_;go_frame;refine Rg.tg 7 22 (.bool true) 44 rfl rfl (.inl ⟨rfl,fun w _=>exec_bin (R:=.bool true) .lss _ _ _ rfl rfl rfl (b_lss _ Rg.dT)⟩) (hS _ _ hI) ?_;go_frame;refine Rg.tm 8 22 (.bool true) 45 (hS _ _ hI) ?_;go_frame
        refine Rg.tg 9 22 (.pointer (some ⟨w3.heap.size,1,none⟩)) 46 rfl rfl (.inl ⟨rfl,fun w _=>exec_field _ rfl rfl (chF1 _ _)⟩) (hS _ _ hI) ?_;go_frame;refine Rg.tg 10 22 (.slice (some ⟨ob,oo,none⟩) (n+m) oc) 47 rfl rfl (Rg.yields_cell _ _ rfl rfl ⟨w3.heap.size,1,none⟩ rfl (fun W hW=>Rg.run_loadSl _ _ Tryz.underlying27 ((Below.cell (p:=⟨w3.heap.size,1,none⟩) hW S1w.out.lt).trans S1w.out.c1))) (hS _ _ hI) ?_;go_frame;refine Rg.tm 11 22 (.int .i64 ((i:Nat):Int)) 48 (hS _ _ hI) ?_;go_frame;refine Rg.tg 12 22 (.pointer (some ⟨ob,oo+i,none⟩)) 49 rfl rfl (Rg.yields_index slIntss _ _ rfl rfl ob (oo) ((n+m)) oc (i) rfl rfl (by omega)) (hS _ _ hI) ?_;go_frame;refine Rg.tg 13 22 (.slice (some ⟨ub,uo,none⟩) ol.length uc) 50 rfl rfl (Rg.yields_cell _ _ rfl rfl ⟨ob,oo+i,none⟩ rfl (fun W hW=>Rg.run_loadSl _ _ Tryz.underlying36 ((Below.cell (p:=⟨ob,oo+i,none⟩) hW COw.out.lt).trans COw.out.cell))) (hS _ _ hI) ?_;go_frame
        refine Rg.tm 14 22 (.int .i64 ((k:Nat):Int)) 51 (hS _ _ hI) ?_;go_frame;refine Rg.tg 15 22 (.pointer (some ⟨ub,uo+k,none⟩)) 52 rfl rfl (Rg.yields_index slInts _ _ rfl rfl ub (uo) (ol.length) uc (k) rfl rfl HKL.out) (hS _ _ hI) ?_;go_frame;refine Rg.tg 16 22 (.int .i64 ((r:Nat):Int)) 53 rfl rfl (Rg.yields_cell _ _ rfl rfl ⟨ub,uo+k,none⟩ rfl (fun W hW=>run_loadInt ((Below.cell (p:=⟨ub,uo+k,none⟩) hW CK.out.lt).trans CK.out.cell))) (hS _ _ hI) ?_;go_frame;refine Rg.tm 17 22 (.slice (some ⟨ya,yo,none⟩) (n+m) yc) 54 (hS _ _ hI) ?_;go_frame;refine Rg.tm 18 22 (.int .i64 ((i:Nat):Int)) 55 (hS _ _ hI) ?_;go_frame;refine Rg.tg 19 22 (.pointer (some ⟨ya,yo+i,none⟩)) 56 rfl rfl (Rg.yields_index slPerm _ _ rfl rfl ya (yo) ((n+m)) yc (i) rfl rfl (by omega)) (hS _ _ hI) ?_;go_frame;refine Rg.tg 20 22 (.int .i64 ((q:Nat):Int)) 57 rfl rfl (Rg.yields_cell _ _ rfl rfl ⟨ya,yo+i,none⟩ rfl (fun W hW=>run_loadInt ((Below.cell (p:=⟨ya,yo+i,none⟩) hW CV.out.lt).trans CV.out.cell))) (hS _ _ hI) ?_;go_frame
        refine Rg.tg 21 22 (.bool true) 58 rfl rfl (.inl ⟨rfl,fun w _=>exec_bin (R:=.bool true) .neq _ _ _ rfl rfl rfl (b_neqB _ Rg.dT)⟩) (hS _ _ hI) ?_;go_frame;refine Rg.Any.one (i:=22) (by kernel_rfl) (Rg.Any.run (some 59) rfl rfl rfl (exec_pickT (v:=.bool true) _ _ _ rfl rfl rfl) (hS _ _ hI) ?_);go_frame;refine Rg.Any.done (by kernel_rfl) ?_ _;replace KI:=ι hI;clear hS hI;go_upto_region 12 with (fail);refine Rg.wl ?_;refine Rg.lm 60 (.int .i64 ((k:Nat):Int)) ?_;go_frame;refine Rg.lr 61 (exec_bin (R:=.int .i64 (((k+1):Nat):Int)) .add _ _ _ rfl rfl rfl (b_add _ (by omega) (by omega))) ?_;go_frame;refine Rg.la 10 (.int .i64 (((k+1):Nat):Int)) ?_;go_frame
        have HS2:=ι (show ∀ j (hj:j<ol.length),j<k+1→ol[j]≠q from fun j hj h=>by
         by_cases e:j=k
         ·subst e; rw [hr.out]; exact hrq
         ·exact HS.out j hj (by omega))
        go_wp2
        go_roundw
        case rel=>exact ⟨k+1,by go_num,HKL.out,HS2,KI⟩
        case measure=>simp [intOf]; have:=HKL.out; omega
       case pos =>
        have HKO:=ι (show k<(O.getD i []).length by rw [hol.out]; exact HKL.out);have HSN:=ι (SI.out.next HH.out HCH.out HIN.out HKO.out (by rw [hol.out,List.getD_eq_getElem?_getD,List.getElem?_eq_getElem HKL.out,Option.getD_some,hr.out,hrq,hq.out]));have hrg:=HH.out.gd _ (HCH.out.rep i k HINM.out HKO.out).1.1.1;rw [hrl.out] at hrg HSN;have GS:=ι hrg;obtain ⟨vb,vo,sa,so,sc,e7,hcs,hns⟩:=level_rep HRI.out HLEN.out HKL.out GS.out (by have:=HN1.out; omega);subst e7;have CS:=ι hcs;have NS:=ι hns;clear hcs hns hrg;go_upto_region 11 with (fail);have hV0:Below wf.heap.size wf wf.drew:=(Below.refl _ _).drew;replace KI:=ι (Rg.acc KI.out hV0);clear hV0;refine Rg.Any.begin (S:=Rg.Both 22 (fun _=>True) (fun W=>Below we.heap.size we W)) mix ?_;generalize wf.drew=w172 at *;have hS:∀ (l:Array Bool) W,Below we.heap.size we W→Rg.Both 22 (fun _=>True) (fun W=>Below we.heap.size we W) l W:=fun l W h=>⟨.inr trivial,h⟩
        have hI:=KI.out;refine Rg.tm 0 22 (.int .i64 ((k:Nat):Int)) 37 (hS _ _ hI) ?_;go_frame;refine Rg.tg 1 22 (.pointer (some ⟨w3.heap.size,1,none⟩)) 38 rfl rfl (.inl ⟨rfl,fun w _=>exec_field _ rfl rfl (chF1 _ _)⟩) (hS _ _ hI) ?_;go_frame;refine Rg.tg 2 22 (.slice (some ⟨ob,oo,none⟩) (n+m) oc) 39 rfl rfl (Rg.yields_cell _ _ rfl rfl ⟨w3.heap.size,1,none⟩ rfl (fun W hW=>Rg.run_loadSl _ _ Tryz.underlying27 ((Below.cell (p:=⟨w3.heap.size,1,none⟩) hW S1w.out.lt).trans S1w.out.c1))) (hS _ _ hI) ?_;go_frame;refine Rg.tm 3 22 (.int .i64 ((i:Nat):Int)) 40 (hS _ _ hI) ?_;go_frame;refine Rg.tg 4 22 (.pointer (some ⟨ob,oo+i,none⟩)) 41 rfl rfl (Rg.yields_index slIntss _ _ rfl rfl ob (oo) ((n+m)) oc (i) rfl rfl (by omega)) (hS _ _ hI) ?_;go_frame;refine Rg.tg 5 22 (.slice (some ⟨ub,uo,none⟩) ol.length uc) 42 rfl rfl (Rg.yields_cell _ _ rfl rfl ⟨ob,oo+i,none⟩ rfl (fun W hW=>Rg.run_loadSl _ _ Tryz.underlying36 ((Below.cell (p:=⟨ob,oo+i,none⟩) hW COw.out.lt).trans COw.out.cell))) (hS _ _ hI) ?_;go_frame
        refine Rg.tg 6 22 (.int .i64 ((ol.length:Nat):Int)) 43 rfl rfl (.inl ⟨rfl,fun w _=>exec_len _ _ _ rfl Tryz.underlying36 _ _ _ rfl⟩) (hS _ _ hI) ?_;go_frame;refine Rg.tg 7 22 (.bool true) 44 rfl rfl (.inl ⟨rfl,fun w _=>exec_bin (R:=.bool true) .lss _ _ _ rfl rfl rfl (b_lss _ Rg.dT)⟩) (hS _ _ hI) ?_;go_frame;refine Rg.tm 8 22 (.bool true) 45 (hS _ _ hI) ?_;go_frame;refine Rg.tg 9 22 (.pointer (some ⟨w3.heap.size,1,none⟩)) 46 rfl rfl (.inl ⟨rfl,fun w _=>exec_field _ rfl rfl (chF1 _ _)⟩) (hS _ _ hI) ?_;go_frame;refine Rg.tg 10 22 (.slice (some ⟨ob,oo,none⟩) (n+m) oc) 47 rfl rfl (Rg.yields_cell _ _ rfl rfl ⟨w3.heap.size,1,none⟩ rfl (fun W hW=>Rg.run_loadSl _ _ Tryz.underlying27 ((Below.cell (p:=⟨w3.heap.size,1,none⟩) hW S1w.out.lt).trans S1w.out.c1))) (hS _ _ hI) ?_;go_frame;refine Rg.tm 11 22 (.int .i64 ((i:Nat):Int)) 48 (hS _ _ hI) ?_;go_frame;refine Rg.tg 12 22 (.pointer (some ⟨ob,oo+i,none⟩)) 49 rfl rfl (Rg.yields_index slIntss _ _ rfl rfl ob (oo) ((n+m)) oc (i) rfl rfl (by omega)) (hS _ _ hI) ?_;go_frame
        refine Rg.tg 13 22 (.slice (some ⟨ub,uo,none⟩) ol.length uc) 50 rfl rfl (Rg.yields_cell _ _ rfl rfl ⟨ob,oo+i,none⟩ rfl (fun W hW=>Rg.run_loadSl _ _ Tryz.underlying36 ((Below.cell (p:=⟨ob,oo+i,none⟩) hW COw.out.lt).trans COw.out.cell))) (hS _ _ hI) ?_;go_frame;refine Rg.tm 14 22 (.int .i64 ((k:Nat):Int)) 51 (hS _ _ hI) ?_;go_frame;refine Rg.tg 15 22 (.pointer (some ⟨ub,uo+k,none⟩)) 52 rfl rfl (Rg.yields_index slInts _ _ rfl rfl ub (uo) (ol.length) uc (k) rfl rfl HKL.out) (hS _ _ hI) ?_;go_frame;refine Rg.tg 16 22 (.int .i64 ((r:Nat):Int)) 53 rfl rfl (Rg.yields_cell _ _ rfl rfl ⟨ub,uo+k,none⟩ rfl (fun W hW=>run_loadInt ((Below.cell (p:=⟨ub,uo+k,none⟩) hW CK.out.lt).trans CK.out.cell))) (hS _ _ hI) ?_;go_frame;refine Rg.tm 17 22 (.slice (some ⟨ya,yo,none⟩) (n+m) yc) 54 (hS _ _ hI) ?_;go_frame;refine Rg.tm 18 22 (.int .i64 ((i:Nat):Int)) 55 (hS _ _ hI) ?_;go_frame
        refine Rg.tg 19 22 (.pointer (some ⟨ya,yo+i,none⟩)) 56 rfl rfl (Rg.yields_index slPerm _ _ rfl rfl ya (yo) ((n+m)) yc (i) rfl rfl (by omega)) (hS _ _ hI) ?_;go_frame;refine Rg.tg 20 22 (.int .i64 ((q:Nat):Int)) 57 rfl rfl (Rg.yields_cell _ _ rfl rfl ⟨ya,yo+i,none⟩ rfl (fun W hW=>run_loadInt ((Below.cell (p:=⟨ya,yo+i,none⟩) hW CV.out.lt).trans CV.out.cell))) (hS _ _ hI) ?_;go_frame;refine Rg.tg 21 22 (.bool false) 58 rfl rfl (.inl ⟨rfl,fun w _=>exec_bin (R:=.bool false) .neq _ _ _ rfl rfl rfl (b_neqB _ Rg.dF)⟩) (hS _ _ hI) ?_;go_frame;refine Rg.Any.one (i:=22) (by kernel_rfl) (Rg.Any.run (some 59) rfl rfl rfl (exec_pickT (v:=.bool false) _ _ _ rfl rfl rfl) (hS _ _ hI) ?_);go_frame;refine Rg.Any.done (by kernel_rfl) ?_ _;replace KI:=ι hI;clear hS hI;go_upto_region 13 with (fail);refine Rg.wl ?_;refine Rg.lm 62 (.int .i64 ((k:Nat):Int)) ?_;go_frame
        refine Rg.lr 63 (exec_field _ rfl rfl (chF1 _ _)) ?_;go_frame;refine Rg.lr 64 (Rg.exec_load (v:=.slice (some ⟨ob,oo,none⟩) (n+m) oc) _ _ rfl ⟨w3.heap.size,1,none⟩ rfl (Rg.run_loadSl _ _ Tryz.underlying27 ((Below.cell (p:=⟨w3.heap.size,1,none⟩) KI.out S1w.out.lt).trans S1w.out.c1))) ?_;go_frame;refine Rg.lm 65 (.int .i64 ((i:Nat):Int)) ?_;go_frame;refine Rg.lr 66 (exec_indexS slIntss _ _ rfl ob (oo) ((n+m)) oc (i) rfl rfl (by omega)) ?_;go_frame;refine Rg.lr 67 (Rg.exec_load (v:=.slice (some ⟨ub,uo,none⟩) ol.length uc) _ _ rfl ⟨ob,oo+i,none⟩ rfl (Rg.run_loadSl _ _ Tryz.underlying36 ((Below.cell (p:=⟨ob,oo+i,none⟩) KI.out COw.out.lt).trans COw.out.cell))) ?_;go_frame;refine Rg.lr 68 (exec_len _ _ _ rfl Tryz.underlying36 _ _ _ rfl) ?_;go_frame;refine Rg.lr 69 (exec_bin (R:=.bool false) .eql _ _ _ rfl rfl rfl (b_eql _ Rg.dF)) ?_;go_frame;go_upto_region 15 with (fail)
        refine Rg.wl ?_;refine Rg.lm 70 (.slice (some ⟨ya,yo,none⟩) (n+m) yc) ?_;go_frame;refine Rg.lr 71 (exec_field _ rfl rfl (chF2 _ _)) ?_;go_frame;refine Rg.lr 72 (Rg.exec_load (v:=.slice (some ⟨rb,ro,none⟩) (n+m) rc) _ _ rfl ⟨w3.heap.size,2,none⟩ rfl (Rg.run_loadSl _ _ Tryz.underlying52 ((Below.cell (p:=⟨w3.heap.size,2,none⟩) KI.out S1w.out.lt).trans S1w.out.c2))) ?_;go_frame;refine Rg.lm 73 (.int .i64 ((i:Nat):Int)) ?_;go_frame;refine Rg.lr 74 (exec_indexS slPermss _ _ rfl rb (ro) ((n+m)) rc (i) rfl rfl (by omega)) ?_;go_frame;refine Rg.lr 75 (Rg.exec_load (v:=.slice (some ⟨vb,vo,none⟩) ol.length vc) _ _ rfl ⟨rb,ro+i,none⟩ rfl (Rg.run_loadSl _ _ Tryz.underlying22 ((Below.cell (p:=⟨rb,ro+i,none⟩) KI.out CRw.out.lt).trans CRw.out.cell))) ?_;go_frame;refine Rg.lm 76 (.int .i64 ((k:Nat):Int)) ?_;go_frame;refine Rg.lr 77 (exec_indexS slPerms _ _ rfl vb (vo) (ol.length) vc (k) rfl rfl HKL.out) ?_;go_frame
        refine Rg.lr 78 (Rg.exec_load (v:=.slice (some ⟨sa,so,none⟩) (n+m) sc) _ _ rfl ⟨vb,vo+k,none⟩ rfl (Rg.run_loadSl _ _ Tryz.underlying51 ((Below.cell (p:=⟨vb,vo+k,none⟩) KI.out CS.out.lt).trans CS.out.cell))) ?_;go_frame;refine Rg.lk 79 (exec_fn1 146 _ _ rfl rfl (Wfcl0 _ _)) ?_;refine (kitInv_any _ (rl.getD k []) w172 (NS.out.below KI.out) GS.out.1 (by rw [GS.out.2]; omega)).mono ?_;rintro e1 w173 ⟨iv,rfl,hiv,hb⟩;refine ⟨_,rfl,?_⟩;go_frame;replace KI:=ι (Rg.acc KI.out hb);clear hb;have NI9:=ι hiv.1;refine Rg.lk 80 (exec_fn 72 _ _ _ rfl rfl rfl (Wfcl1 _ _)) ?_;refine (kitMul_any _ _ v (Ma.invN (rl.getD k [])) w173 (NV.out.below KI.out) NI9.out (fun z hz=>by rw [(Cm.gd_inv GS.out).2]; exact gd_mem GV.out hz) (by rw [GV.out.2]; omega)).mono ?_;rintro e1 w174 ⟨mv,rfl,hmv,hb⟩;have NM:=ι hmv.1;clear hmv;refine ⟨_,rfl,?_⟩;go_frame;replace NI9:=ι (NI9.out.below hb)
        replace KI:=ι (Rg.acc KI.out hb);clear hb;refine Rg.la 2 (mv) ?_;go_frame;clear hiv;have K3:=ι (K2.out.trans (KI.out.mono K2.out.size));go_upto_region 9 with (fail);refine Rg.wl ?_;refine Rg.lm 35 (.int .i64 ((i:Nat):Int)) ?_;go_frame;refine Rg.lr 36 (exec_bin (R:=.int .i64 (((i+1):Nat):Int)) .add _ _ _ rfl rfl rfl (b_add _ (by omega) (by omega))) ?_;go_frame;refine Rg.la 9 (.int .i64 (((i+1):Nat):Int)) ?_;go_frame;go_wp2
        go_roundw
        case rel=>exact ⟨i+1,_,by go_num,HIN.out,NM,HSN,K3⟩
        case measure=>simp [intOf]; have:=HIN.out; omega
      case neg =>
       have HNO:=ι (show ImR m (PG2 n m A B) x none from SiI.none HGA.out HGB.out HCH.out HIN.out GX.out SI.out (by rw [hol.out,hq.out]; exact idx_none (fun j hj=>HS.out j hj (by omega))));go_upto_region 11 with (fail);have hV0:Below wf.heap.size wf wf.drew:=(Below.refl _ _).drew;replace KI:=ι (Rg.acc KI.out hV0);clear hV0;refine Rg.Any.begin (S:=Rg.Both 22 (fun _=>True) (fun W=>Below we.heap.size we W)) mix ?_;generalize wf.drew=w235 at *;have hS:∀ (l:Array Bool) W,Below we.heap.size we W→Rg.Both 22 (fun _=>True) (fun W=>Below we.heap.size we W) l W:=fun l W h=>⟨.inr trivial,h⟩;have hI:=KI.out;refine Rg.tm 0 22 (.int .i64 ((k:Nat):Int)) 37 (hS _ _ hI) ?_;go_frame;refine Rg.tg 1 22 (.pointer (some ⟨w3.heap.size,1,none⟩)) 38 rfl rfl (.inl ⟨rfl,fun w _=>exec_field _ rfl rfl (chF1 _ _)⟩) (hS _ _ hI) ?_;go_frame;refine Rg.tg 2 22 (.slice (some ⟨ob,oo,none⟩) (n+m) oc) 39 rfl rfl (Rg.yields_cell _ _ rfl rfl ⟨w3.heap.size,1,none⟩ rfl (fun W hW=>Rg.run_loadSl _ _ Tryz.underlying27 ((Below.cell (p:=⟨w3.heap.size,1,none⟩) hW S1w.out.lt).trans S1w.out.c1))) (hS _ _ hI) ?_;go_frame
       refine Rg.tm 3 22 (.int .i64 ((i:Nat):Int)) 40 (hS _ _ hI) ?_;go_frame;refine Rg.tg 4 22 (.pointer (some ⟨ob,oo+i,none⟩)) 41 rfl rfl (Rg.yields_index slIntss _ _ rfl rfl ob (oo) ((n+m)) oc (i) rfl rfl (by omega)) (hS _ _ hI) ?_;go_frame;refine Rg.tg 5 22 (.slice (some ⟨ub,uo,none⟩) ol.length uc) 42 rfl rfl (Rg.yields_cell _ _ rfl rfl ⟨ob,oo+i,none⟩ rfl (fun W hW=>Rg.run_loadSl _ _ Tryz.underlying36 ((Below.cell (p:=⟨ob,oo+i,none⟩) hW COw.out.lt).trans COw.out.cell))) (hS _ _ hI) ?_;go_frame;refine Rg.tg 6 22 (.int .i64 ((ol.length:Nat):Int)) 43 rfl rfl (.inl ⟨rfl,fun w _=>exec_len _ _ _ rfl Tryz.underlying36 _ _ _ rfl⟩) (hS _ _ hI) ?_;go_frame;refine Rg.tg 7 22 (.bool false) 44 rfl rfl (.inl ⟨rfl,fun w _=>exec_bin (R:=.bool false) .lss _ _ _ rfl rfl rfl (b_lss _ Rg.dF)⟩) (hS _ _ hI) ?_;go_frame;refine Rg.tm 8 22 (.bool false) 45 (hS _ _ hI) ?_;go_frame
       refine Rg.tg 9 22 (undef) 46 rfl rfl (.inr ⟨rfl,rfl⟩) (hS _ _ hI) ?_;go_frame;refine Rg.tg 10 22 (undef) 47 rfl rfl (.inr ⟨rfl,rfl⟩) (hS _ _ hI) ?_;go_frame;refine Rg.tg 11 22 (undef) 48 rfl rfl (.inr ⟨rfl,rfl⟩) (hS _ _ hI) ?_;go_frame;refine Rg.tg 12 22 (undef) 49 rfl rfl (.inr ⟨rfl,rfl⟩) (hS _ _ hI) ?_;go_frame;refine Rg.tg 13 22 (undef) 50 rfl rfl (.inr ⟨rfl,rfl⟩) (hS _ _ hI) ?_;go_frame;refine Rg.tg 14 22 (undef) 51 rfl rfl (.inr ⟨rfl,rfl⟩) (hS _ _ hI) ?_;go_frame;refine Rg.tg 15 22 (undef) 52 rfl rfl (.inr ⟨rfl,rfl⟩) (hS _ _ hI) ?_;go_frame;refine Rg.tg 16 22 (undef) 53 rfl rfl (.inr ⟨rfl,rfl⟩) (hS _ _ hI) ?_;go_frame;refine Rg.tg 17 22 (undef) 54 rfl rfl (.inr ⟨rfl,rfl⟩) (hS _ _ hI) ?_;go_frame;refine Rg.tg 18 22 (undef) 55 rfl rfl (.inr ⟨rfl,rfl⟩) (hS _ _ hI) ?_;go_frame;refine Rg.tg 19 22 (undef) 56 rfl rfl (.inr ⟨rfl,rfl⟩) (hS _ _ hI) ?_;go_frame;refine Rg.tg 20 22 (undef) 57 rfl rfl (.inr ⟨rfl,rfl⟩) (hS _ _ hI) ?_;go_frame
       refine Rg.tg 21 22 (undef) 58 rfl rfl (.inr ⟨rfl,rfl⟩) (hS _ _ hI) ?_;go_frame;refine Rg.Any.one (i:=22) (by kernel_rfl) (Rg.Any.run (some 59) rfl rfl rfl (exec_pickF (v:=.bool false) _ _ _ rfl rfl rfl) (hS _ _ hI) ?_);go_frame;refine Rg.Any.done (by kernel_rfl) ?_ _;replace KI:=ι hI;clear hS hI;go_upto_region 13 with (fail);refine Rg.wl ?_;refine Rg.lm 62 (.int .i64 ((k:Nat):Int)) ?_;go_frame;refine Rg.lr 63 (exec_field _ rfl rfl (chF1 _ _)) ?_;go_frame;refine Rg.lr 64 (Rg.exec_load (v:=.slice (some ⟨ob,oo,none⟩) (n+m) oc) _ _ rfl ⟨w3.heap.size,1,none⟩ rfl (Rg.run_loadSl _ _ Tryz.underlying27 ((Below.cell (p:=⟨w3.heap.size,1,none⟩) KI.out S1w.out.lt).trans S1w.out.c1))) ?_;go_frame;refine Rg.lm 65 (.int .i64 ((i:Nat):Int)) ?_;go_frame;refine Rg.lr 66 (exec_indexS slIntss _ _ rfl ob (oo) ((n+m)) oc (i) rfl rfl (by omega)) ?_;go_frame;refine Rg.lr 67 (Rg.exec_load (v:=.slice (some ⟨ub,uo,none⟩) ol.length uc) _ _ rfl ⟨ob,oo+i,none⟩ rfl (Rg.run_loadSl _ _ Tryz.underlying36 ((Below.cell (p:=⟨ob,oo+i,none⟩) KI.out COw.out.lt).trans COw.out.cell))) ?_;go_frame
       refine Rg.lr 68 (exec_len _ _ _ rfl Tryz.underlying36 _ _ _ rfl) ?_;go_frame;refine Rg.lr 69 (exec_bin (R:=.bool true) .eql _ _ _ rfl rfl rfl (b_eql _ Rg.dT)) ?_;go_frame;go_upto_region 14 with (fail);refine Rg.wl ?_;refine Rg.la 6 (.slice none 0 0) ?_;go_frame;have KT:=ι (show Below w.heap.size w w235 from KW.out.trans ((K2.out.trans (KI.out.mono K2.out.size)).mono KW.out.size));go_wp2;go_ret;exact ⟨.inl ⟨rfl,HNO.out⟩,KT.out⟩
    case neg =>
     obtain ⟨cc,hgc,hvc,him⟩:=SiI.all HGA.out HGB.out GX.out (by have h5:=SI.out; rw [show i=n by omega] at h5; exact h5);have GC:=ι hgc;have HIM:=ι him;have HVQ:=ι (show ∀ t,t<m→ap v (n+t)=n+ap cc t from fun t ht=>by rw [hvc,ap_jn2 (Cm.gd_one n) hgc ht]);clear hgc him hvc;go_upto_region 8 with (fail);refine Rg.wl ?_;refine Rg.lm 31 (.int .i64 ((i:Nat):Int)) ?_;go_frame;refine Rg.lr 32 (exec_fieldG0 _ rfl rfl) ?_;go_frame;refine Rg.lr 33 (Rg.exec_load (v:=.int .i64 ((n:Nat):Int)) _ _ rfl ⟨w.heap.size,0,none⟩ rfl (run_loadInt ((Below.cell (p:=⟨w.heap.size,0,none⟩) K2.out qG0.out.lt).trans qG0.out.cell))) ?_;go_frame;refine Rg.lr 34 (exec_bin (R:=.bool false) .lss _ _ _ rfl rfl rfl (b_lss _ Rg.dF)) ?_;go_frame;go_upto_region 16 with (fail);refine Rg.wl ?_;refine Rg.la 11 (.slice none 0 0) ?_;go_frame;go_upto_region 17 with (fail);refine Rg.wl ?_
     refine Rg.lr 81 (exec_fieldG0 _ rfl rfl) ?_;go_frame;refine Rg.lr 82 (Rg.exec_load (v:=.int .i64 ((n:Nat):Int)) _ _ rfl ⟨w.heap.size,0,none⟩ rfl (run_loadInt ((Below.cell (p:=⟨w.heap.size,0,none⟩) K2.out qG0.out.lt).trans qG0.out.cell))) ?_;go_frame;refine Rg.la 12 (.int .i64 ((n:Nat):Int)) ?_;go_frame;have OW:=ι (show OwI we.heap.size we (.slice none 0 0) ((Ma.ofN cc).take 0) from OwI.nil _ _);have KE:=ι (Below.refl we.heap.size we);go_wp2
     go_loopw [11,12] (fun zv kv wr=>∃ t:Nat,kv=.int .i64 (((n+t):Nat):Int)∧t≤m∧Hid (OwI we.heap.size wr zv ((Ma.ofN cc).take t))∧Hid (Below we.heap.size we wr)) (fun _ kv _=>n+m - (intOf kv).toNat)
     case atStart=>exact ⟨0,rfl,Nat.zero_le _,OW,KE⟩
     case round =>
      clear OW KE;obtain ⟨t,rfl,ht,OW,KE⟩:=hrel;generalize wr=wg at *;obtain ⟨za2,zc2,rfl⟩:=OW.out.shape;have KX:=ι (Rg.acc K2.out KE.out);have hnm:n+m≤64:=HNM.out
      by_cases htm:t<m
      case pos =>
       have HTM:=ι htm
       have hntm:n+t<n+m:=by omega
       have HNTM:=ι hntm;have hvc:=(FP.of_np NV.out).ap GV.out hntm;rw [HVQ.out t htm] at hvc;obtain ⟨u,hu⟩:∃ u:Nat,Hid (ap cc t=u):=⟨_,ι rfl⟩;rw [hu.out] at hvc
       have hub:u<m:=by rw [← hu.out]; exact Cm.ap_lt GC.out htm
       have CQ:=ι (CL.mk hvc.cell hvc.lt);obtain ⟨jl,hjl⟩:∃ l,Hid ((Ma.ofN cc).take t=l):=⟨_,ι rfl⟩
       have htl:t<(Ma.ofN cc).length:=by rw [Ma.len_ofN,GC.out.2]; exact htm
       have HJ:=ι (show (Ma.ofN cc).take (t+1)=jl++[((u:Nat):Int)] by
        rw [List.take_add_one,List.getElem?_eq_getElem htl,hjl.out,Ma.get_ofN,← Cm.ap_at (by rw [GC.out.2]; exact htm),hu.out]; rfl)
       have HJL:=ι (show jl.length<1000000 by rw [← hjl.out,List.length_take,Ma.len_ofN,GC.out.2]; omega);rw [hjl.out] at OW ⊢;have hV1:Below wg.heap.size wg wg.drew:=(Below.refl _ _).drew;replace OW:=ι (OW.out.below hV1);have KEd:=ι (Rg.acc KE.out hV1);clear hV1 hvc;have qG0w:=ι (qG0.out.below K2.out);have qS1w:=ι (qS1.out.below K2.out);go_upto_region 18 with (fail);refine Rg.wl ?_;refine Rg.lm 83 (.int .i64 (((n+t):Nat):Int)) ?_;go_frame;refine Rg.lr 84 (exec_field _ rfl rfl (chF0 _ _)) ?_;go_frame;refine Rg.lr 85 (Rg.exec_load (v:=.int .i64 (((n:Nat):Int)+((m:Nat):Int))) _ _ rfl ⟨w3.heap.size,0,none⟩ rfl (run_loadInt ((Below.cell (p:=⟨w3.heap.size,0,none⟩) KE.out qS1w.out.lt).trans qS1w.out.c0))) ?_;go_frame;refine Rg.lr 86 (exec_bin (R:=.bool true) .lss _ _ _ rfl rfl rfl (b_lss _ Rg.dT)) ?_;go_frame;go_upto_region 20 with (fail);have hV0:Below wg.heap.size wg wg.drew:=(Below.refl _ _).drew
       replace KE:=ι (Rg.acc KE.out hV0);clear hV0;refine Rg.Any.begin (S:=Rg.Both 10 (fun _=>True) (fun W=>Below we.heap.size we W)) mix ?_;generalize wg.drew=w356 at *;have hS:∀ (l:Array Bool) W,Below we.heap.size we W→Rg.Both 10 (fun _=>True) (fun W=>Below we.heap.size we W) l W:=fun l W h=>⟨.inr trivial,h⟩;have hI:=KE.out;refine Rg.tm 0 10 (.slice za2 jl.length zc2) 89 (hS _ _ hI) ?_;go_frame;refine Rg.tm 1 10 (.slice (some ⟨ya,yo,none⟩) (n+m) yc) 90 (hS _ _ hI) ?_;go_frame;refine Rg.tm 2 10 (.int .i64 (((n+t):Nat):Int)) 91 (hS _ _ hI) ?_;go_frame;refine Rg.tg 3 10 (.pointer (some ⟨ya,yo+(n+t),none⟩)) 92 rfl rfl (Rg.yields_index slPerm _ _ rfl rfl ya (yo) ((n+m)) yc ((n+t)) rfl rfl HNTM.out) (hS _ _ hI) ?_;go_frame;refine Rg.tg 4 10 (.int .i64 (((n+u):Nat):Int)) 93 rfl rfl (Rg.yields_cell _ _ rfl rfl ⟨ya,yo+(n+t),none⟩ rfl (fun W hW=>run_loadInt ((Below.cell (p:=⟨ya,yo+(n+t),none⟩) hW CQ.out.lt).trans CQ.out.cell))) (hS _ _ hI) ?_;go_frame
       refine Rg.tg 5 10 (.pointer (some ⟨w.heap.size,0,none⟩)) 94 rfl rfl (.inl ⟨rfl,fun w _=>exec_fieldG0 _ rfl rfl⟩) (hS _ _ hI) ?_;go_frame;refine Rg.tg 6 10 (.int .i64 ((n:Nat):Int)) 95 rfl rfl (Rg.yields_cell _ _ rfl rfl ⟨w.heap.size,0,none⟩ rfl (fun W hW=>run_loadInt ((Below.cell (p:=⟨w.heap.size,0,none⟩) hW qG0w.out.lt).trans qG0w.out.cell))) (hS _ _ hI) ?_;go_frame;refine Rg.tg 7 10 (.int .i64 ((u:Nat):Int)) 96 rfl rfl (.inl ⟨rfl,fun w _=>exec_bin (R:=.int .i64 ((u:Nat):Int)) .sub _ _ _ rfl rfl rfl (b_sub _ (by omega) (by omega))⟩) (hS _ _ hI) ?_;go_frame;obtain ⟨a9,c9,X9,r1,r2,r3⟩:=OW.out.pushP KEd.out.size ((u:Nat):Int) HJL.out 51;have hKW:=hI;have hb:=(Below.refl w356.heap.size w356).alloc (Nat.le_refl _) (.cells #[.int .i64 ((u:Nat):Int)] 3);have hI2_0:=Rg.acc hI hb;have hI2_1:=hb;clear hb hI;refine Rg.Any.one (i:=8) (by kernel_rfl) (Rg.Any.run (some 97) rfl rfl rfl (Rg.exec_buildSlice _ _ _ rfl (.int .i64 ((u:Nat):Int)) rfl (run_build1p w356 _)) (hS _ _ hI2_0) ?_)
       go_frame;generalize w356.alloc (.cells #[.int .i64 ((u:Nat):Int)] 3)=w357 at *;have hI3_g:=r3 (Nat.le_refl _) hKW;refine Rg.Any.one (i:=9) (by kernel_rfl) (Rg.Any.run (some 98) rfl rfl rfl (Rg.exec_append _ _ _ rfl rfl rfl r1) (hS _ _ hI3_g) ?_);go_frame;clear hI2_0 hI2_1;refine Rg.Any.one (i:=10) (by kernel_rfl) (Rg.Any.run (some 11) rfl rfl rfl (Rg.xa (.slice a9 (jl.length+1) c9) _ rfl rfl) (hS _ _ hI3_g) ?_);go_frame;refine Rg.Any.done (by kernel_rfl) ?_ _;replace KE:=ι hI3_g;clear hS hI3_g;have OW2:=ι (show OwI we.heap.size X9 (.slice a9 (jl.length+1) c9) ((Ma.ofN cc).take (t+1)) by rw [HJ.out]; exact r2);have KE2:=ι (r3 (Nat.le_refl _) KEd.out);clear r1 r2 r3;go_upto_region 19 with (fail);refine Rg.wl ?_;refine Rg.lm 87 (.int .i64 (((n+t):Nat):Int)) ?_;go_frame;refine Rg.lr 88 (exec_bin (R:=.int .i64 (((n+(t+1)):Nat):Int)) .add _ _ _ rfl rfl rfl (b_add _ (by omega) (by omega))) ?_;go_frame
       refine Rg.lr 12 (Rg.exec_assign (v:=.int .i64 (((n+(t+1)):Nat):Int)) _ rfl rfl) ?_;go_frame;go_wp2
       go_roundw
       case rel=>exact ⟨t+1,by go_num,HTM.out,OW2,KE2⟩
       case measure=>simp [intOf]; have:=HTM.out; omega
      case neg =>
       have HTE:=ι (show (Ma.ofN cc).take t=Ma.ofN cc from List.take_of_length_le (by rw [Ma.len_ofN,GC.out.2]; omega));rw [HTE.out] at OW ⊢;have NC:=ι (show Rg.NP wg (.slice za2 (Ma.ofN cc).length zc2) cc from Rg.Ints.of_row OW.out.own (by rw [Ma.len_ofN,GC.out.2]; omega));have qG0w:=ι (qG0.out.below KX.out);have qS1w:=ι (qS1.out.below KX.out);have KT:=ι (show Below w.heap.size w wg from KW.out.trans (KX.out.mono KW.out.size));clear OW;go_upto_region 18 with (fail);refine Rg.wl ?_;refine Rg.lm 83 (.int .i64 (((n+t):Nat):Int)) ?_;go_frame;refine Rg.lr 84 (exec_field _ rfl rfl (chF0 _ _)) ?_;go_frame;refine Rg.lr 85 (Rg.exec_load (v:=.int .i64 (((n:Nat):Int)+((m:Nat):Int))) _ _ rfl ⟨w3.heap.size,0,none⟩ rfl (run_loadInt qS1w.out.c0)) ?_;go_frame;refine Rg.lr 86 (exec_bin (R:=.bool false) .lss _ _ _ rfl rfl rfl (b_lss _ Rg.dF)) ?_;go_frame;go_upto_region 21 with (fail)
       refine Rg.wl ?_;refine Rg.lm 99 (.slice za2 (Ma.ofN cc).length zc2) ?_;go_frame;refine Rg.lk 100 (exec_fn1 146 _ _ rfl rfl (Wfcl0 _ _)) ?_;refine (kitInv_any _ cc wg NC.out GC.out.1 (by rw [GC.out.2]; omega)).mono ?_;rintro e1 w418 ⟨iv,rfl,hiv,hb⟩;obtain ⟨ib,io,ic,rfl⟩:=FP.shape' (FP.of_np hiv.1) (Cm.gd_inv GC.out) HM1.out;have NR:=ι hiv.1;clear hiv;refine ⟨_,rfl,?_⟩;go_frame;replace NC:=ι (NC.out.below hb);replace KT:=ι (Rg.acc KT.out hb);clear hb;refine Rg.la 6 (.slice (some ⟨ib,io,none⟩) m ic) ?_;go_frame;go_wp2;go_ret;exact ⟨.inr ⟨_,_,_,_,rfl,NR.out,HIM.out⟩,KT.out⟩
end Go.Proofs.YthehbckogieimaaGreat

namespace Go.Proofs.YthehbckogieimaaGreat
open Go.RowKit
open Go.Proofs
attribute [local irreducible] Go.Calls Go.wpStill
def lessL:List Int→List Int→Bool
 | [],[]=>false
 | [],_ :: _=>true
 | _ :: _,[]=>false
 | x :: a,y :: b=>if x=y then lessL a b else decide (x<y)
theorem lessL_irr:∀ a:List Int,lessL a a=false
 | []=>rfl
 | x :: a=>by rw [lessL,if_pos rfl]; exact lessL_irr a
theorem lessL_trans:∀ {a b c:List Int},lessL a b=true→lessL b c=true→lessL a c=true
 | [],[],_,h,_=>by simp [lessL] at h
 | [],_ :: _,[],_,h=>by simp [lessL] at h
 | [],_ :: _,_ :: _,_,_=>rfl
 | _ :: _,[],_,h,_=>by simp [lessL] at h
 | _ :: _,_ :: _,[],_,h=>by simp [lessL] at h
 | x :: a,y :: b,z :: c,h,h'=>by
  rw [lessL] at h h' ⊢
  by_cases e1:x=y
  ·rw [if_pos e1] at h
   by_cases e2:y=z
   ·rw [if_pos e2] at h'; rw [if_pos (e1.trans e2)]; exact lessL_trans h h'
   ·rw [if_neg e2] at h'; rw [if_neg (by omega)]; simp at h' ⊢; omega
  ·rw [if_neg e1] at h
   by_cases e2:y=z
   ·rw [if_neg (by omega)]; simp at h ⊢; omega
   ·rw [if_neg e2] at h'; simp at h h'; rw [if_neg (by omega)]; simp; omega
theorem lessL_total:∀ {a b:List Int},lessL a b=false→a≠b→lessL b a=true
 | [],[],_,h=>absurd rfl h
 | [],_ :: _,h,_=>by simp [lessL] at h
 | _ :: _,[],_,_=>rfl
 | x :: a,y :: b,h,hn=>by
  rw [lessL] at h ⊢
  by_cases e:x=y
  ·rw [if_pos e] at h; rw [if_pos e.symm]
   exact lessL_total h (fun e2=>hn (by rw [e,e2]))
  ·rw [if_neg e] at h; rw [if_neg (by omega)]; simp at h ⊢; omega
def Asc (L:List (List Int)):Prop:=∀ i j (hi:i<L.length) (hj:j<L.length),i<j→lessL L[i] L[j]=true
theorem asc_iff (L:List (List Int)):Asc L↔L.Pairwise (fun a b=>lessL a b=true):=by
 rw [List.pairwise_iff_getElem];exact ⟨fun h i j hi hj hij=>h i j hi hj hij,fun h i j hi hj hij=>h i j hi hj hij⟩
end Go.Proofs.YthehbckogieimaaGreat

namespace Go.Proofs.YthehbckogieimaaGreat
open Go.RowKit
open Go.Proofs
open Go.Proofs.Ob
open Go.Proofs.Cm (Gd Gr)
attribute [local irreducible] Go.Calls Go.wpList
theorem ofN_back (l:List Nat):(Ma.ofN l).map Int.toNat=l:=by
 unfold Ma.ofN;rw [List.map_map];exact List.map_id'' (fun _=>rfl) l
theorem ofN_inj' {a b:List Nat} (h:Ma.ofN a=Ma.ofN b):a=b:=by rw [← ofN_back a,h,ofN_back]
def AllE (d:Nat) (gs A:List (List Nat)):Prop:=Asc (A.map Ma.ofN)∧∀ y,y∈A↔Gr d (·∈gs) y
theorem asc_one (l:List (List Int)) (h:l.length≤1):Asc l:=fun i j hi hj hij=>by omega
theorem asc_nodup {A:List (List Nat)} (h:Asc (A.map Ma.ofN)):A.Nodup:=by
 rw [asc_iff] at h;rw [List.pairwise_map] at h
 exact h.imp fun hab e=>by subst e; rw [lessL_irr] at hab; cases hab
theorem RowH.at {B:Nat} {F M:Nat→Prop} {W:World} {v:Value} {l:List (List Nat)} (h:RowH B F M W v l) {i:Nat} (hi:i<l.length):∃ b c u,v=.slice (some ⟨b,0,none⟩) l.length c∧l.length≤c∧b<W.heap.size∧W.cell? ⟨b,i,none⟩=some u∧FP F W u l[i]:=by
 obtain ⟨us,h1,h2⟩:=h.own;obtain ⟨-,a,c,rfl,h3,h4,h5⟩:=Rg.own_elts h1 h2;rw [List.length_map] at h3;obtain ⟨g,rfl,hg,hx⟩:=h5 (by rw [List.length_map]; omega);obtain ⟨u,hu1,hu2⟩:=hx i (by simpa using hi);exact ⟨g,c,u,congrArg (fun n=>Value.slice _ n c) (List.length_map ..),h3,hg,hu1,by rw [List.getElem_map] at hu2; exact hu2⟩
theorem FP.nil0 (F:Nat→Prop) (w:World):FP F w (.slice none 0 0) []:=⟨none,0,rfl,Nat.le_refl _,Nat.zero_le _,Nat.zero_le _,fun h=>absurd h (Nat.lt_irrefl 0)⟩
end Go.Proofs.YthehbckogieimaaGreat

namespace Go.Proofs.YthehbckogieimaaGreat
open Go.Proofs
open Go.Proofs.Cm (Gr Gd IsChain IsG St Fx ap Lst)
def mulAll (r A:List (List Nat)):List (List Nat):=r.flatMap fun u=>A.map (Ma.mulN u)
theorem mem_mulAll {r A:List (List Nat)} {x:List Nat}:x∈mulAll r A↔∃ u∈r,∃ z∈A,Ma.mulN u z=x:=by
 unfold mulAll;simp only [List.mem_flatMap,List.mem_map]
def prodK (n:Nat) (R:List (List (List Nat))):Nat→List (List Nat)
 | 0=>[Ma.oneN n]
 | i+1=>mulAll (R.getD i []) (prodK n R i)
structure PK (n:Nat) (H:List Nat→Prop) (i:Nat) (L:List (List Nat)):Prop where
 inH:∀ z∈L,H z
 all:∀ x,H x→∃ s z,St H i s∧z∈L∧x=Ma.mulN s z
 sep:∀ z z' s s',z∈L→z'∈L→St H i s→St H i s'→Ma.mulN s z=Ma.mulN s' z'→z=z'
 nd:L.Nodup
theorem PK.zero {n:Nat} {H:List Nat→Prop} (hH:IsG n H):PK n H 0 [Ma.oneN n] :=
 ⟨fun z hz=>by rw [List.mem_singleton] at hz; subst hz; exact hH.one,fun x hx=>⟨x,Ma.oneN n,⟨hx,fun j hj=>absurd hj (Nat.not_lt_zero _)⟩,by simp,(Cm.mul_one (hH.gd x hx)).symm⟩,fun z z' _ _ hz hz' _ _ _=>by rw [List.mem_singleton] at hz hz'; rw [hz,hz'],by simp⟩
theorem rep_at {n:Nat} {H:List Nat→Prop} {O:List (List Nat)} {R:List (List (List Nat))} (h:IsChain n H O R) {i:Nat} (hi:i<n) {k:Nat} (hk:k<(R.getD i []).length):Lst n (fun z=>St H i z∧ap z i=(O.getD i []).getD k 0) (R.getD i [])[k]:=by
 have:=h.rep i k hi (by rw [← h.len i hi]; exact hk)
 rwa [Cm.getD_in hk] at this
theorem rep_mem {n:Nat} {H:List Nat→Prop} {O:List (List Nat)} {R:List (List (List Nat))} (h:IsChain n H O R) {i:Nat} (hi:i<n) {u:List Nat} (hu:u∈R.getD i []):Lst n (fun z=>St H i z∧ap z i=ap u i) u:=by
 obtain ⟨k,hk,rfl⟩:=List.getElem_of_mem hu;have:=rep_at h hi hk;have e:=this.1.2;rw [← e] at this;exact this
theorem rep_of {n:Nat} {H:List Nat→Prop} {O:List (List Nat)} {R:List (List (List Nat))} (h:IsChain n H O R) {i:Nat} (hi:i<n) {s:List Nat} (hs:St H i s):∃ u∈R.getD i [],St H i u∧ap u i=ap s i:=by
 obtain ⟨k,hk,e⟩:=List.getElem_of_mem ((h.orb i (ap s i) hi).2 ⟨s,hs,rfl⟩)
 have hk2:k<(R.getD i []).length:=by rw [h.len i hi]; exact hk
 have h1:=(rep_at h hi hk2).1;refine ⟨_,List.getElem_mem hk2,h1.1,?_⟩;rw [h1.2,Cm.getD_in hk,e]
theorem rep_pair {n:Nat} {H:List Nat→Prop} {O:List (List Nat)} {R:List (List (List Nat))} (h:IsChain n H O R) {i:Nat} (hi:i<n):(R.getD i []).Pairwise (fun u v=>ap u i<ap v i):=by
 rw [List.pairwise_iff_getElem];intro a b ha hb hab
 have ha2:a<(O.getD i []).length:=by rw [← h.len i hi]; exact ha
 have hb2:b<(O.getD i []).length:=by rw [← h.len i hi]; exact hb
 rw [(rep_at h hi ha).1.2,(rep_at h hi hb).1.2,Cm.getD_in ha2,Cm.getD_in hb2];exact (List.pairwise_iff_getElem.1 (h.asc i hi)) a b ha2 hb2 hab
theorem PK.step {n:Nat} {H:List Nat→Prop} (hH:IsG n H) {O:List (List Nat)} {R:List (List (List Nat))} (h:IsChain n H O R) {i:Nat} (hi:i<n) {L:List (List Nat)} (hL:PK n H i L):PK n H (i+1) (mulAll (R.getD i []) L):=by
 have key:∀ u z u' z' s s',u∈R.getD i []→u'∈R.getD i []→z∈L→z'∈L→St H (i+1) s→St H (i+1) s'→Ma.mulN s (Ma.mulN u z)=Ma.mulN s' (Ma.mulN u' z')→z=z'∧u=u':=by
  intro u z u' z' s s' hu hu' hz hz' hs hs' e;have l1:=rep_mem h hi hu;have l2:=rep_mem h hi hu';have gs:=hH.gd _ hs.1;have gs':=hH.gd _ hs'.1;have gu:=hH.gd _ l1.1.1.1;have gu':=hH.gd _ l2.1.1.1;rw [← Cm.mul_assoc gs gu,← Cm.mul_assoc gs' gu'] at e;have a1:St H i (Ma.mulN s u):=⟨hH.mul _ _ hs.1 l1.1.1.1,Fx.mul gs (Nat.le_of_lt hi) (hs.2.mono (Nat.le_succ _)) l1.1.1.2⟩;have a2:St H i (Ma.mulN s' u'):=⟨hH.mul _ _ hs'.1 l2.1.1.1,Fx.mul gs' (Nat.le_of_lt hi) (hs'.2.mono (Nat.le_succ _)) l2.1.1.2⟩;have ez:=hL.sep z z' _ _ hz hz' a1 a2 e;subst ez;have gz:=hH.gd _ (hL.inH z hz);have e2:=congrArg (fun t=>Ma.mulN t (Ma.invN z)) e;simp only [Cm.mul_cancel_inv (Cm.gd_mul gs gu) gz,Cm.mul_cancel_inv (Cm.gd_mul gs' gu') gz] at e2;have e3:=congrArg (fun t=>ap t i) e2;simp only [Cm.ap_mul gs hi,Cm.ap_mul gs' hi,hs.2 i (Nat.lt_succ_self _),hs'.2 i (Nat.lt_succ_self _)] at e3
  rw [← e3] at l2;exact ⟨rfl,l1.uniq l2⟩
 refine ⟨fun y hy=>?_,fun x hx=>?_,fun y y' s s' hy hy' hs hs' e=>?_,?_⟩
 ·obtain ⟨u,hu,z,hz,rfl⟩:=mem_mulAll.1 hy
  exact hH.mul _ _ (rep_mem h hi hu).1.1.1 (hL.inH z hz)
 ·obtain ⟨s,z,hs,hz,rfl⟩:=hL.all x hx
  obtain ⟨u,hu,su,eu⟩:=rep_of h hi hs;have gs:=hH.gd _ hs.1;have gu:=hH.gd _ su.1;refine ⟨Ma.mulN s (Ma.invN u),Ma.mulN u z,⟨hH.mul _ _ hs.1 (hH.inv _ su.1),fun j hj=>?_⟩,mem_mulAll.2 ⟨u,hu,z,hz,rfl⟩,?_⟩
  ·rw [Cm.ap_mul gs (by omega)]
   rcases Nat.lt_or_ge j i with e | e
   ·rw [hs.2 j e]
    exact Fx.inv gu (Nat.le_of_lt hi) su.2 j e
   ·obtain rfl:j=i:=by omega
    rw [← eu];exact Cm.ap_inv gu hi
  ·rw [← Cm.mul_assoc (Cm.gd_mul gs (Cm.gd_inv gu)) gu,Cm.mul_inv_cancel gs gu]
 ·obtain ⟨u,hu,z,hz,rfl⟩:=mem_mulAll.1 hy
  obtain ⟨u',hu',z',hz',rfl⟩:=mem_mulAll.1 hy';obtain ⟨rfl,rfl⟩:=key u z u' z' s s' hu hu' hz hz' hs hs' e;rfl
 ·have o1:St H (i+1) (Ma.oneN n):=⟨hH.one,Fx.one (by omega)⟩
  have gm:∀ u∈R.getD i [],∀ z∈L,Gd n (Ma.mulN u z):=fun u hu z hz=>Cm.gd_mul (hH.gd _ (rep_mem h hi hu).1.1.1) (hH.gd _ (hL.inH z hz))
  have k2:∀ u∈R.getD i [],∀ u'∈R.getD i [],∀ z∈L,∀ z'∈L,Ma.mulN u z=Ma.mulN u' z'→z=z'∧u=u':=fun u hu u' hu' z hz z' hz' e =>
   key u z u' z' _ _ hu hu' hz hz' o1 o1 (by rw [e])
  unfold mulAll;rw [List.Nodup,List.pairwise_flatMap];refine ⟨fun u hu=>?_,?_⟩
  ·rw [List.pairwise_map]
   exact List.Pairwise.imp_of_mem (fun {a b} ha hb hne e=>hne (k2 u hu u hu a ha b hb e).1) hL.nd
  ·refine List.Pairwise.imp_of_mem (fun {u v} hu hv hlt x hx y hy e=>?_) (rep_pair h hi)
   obtain ⟨z,hz,rfl⟩:=List.mem_map.1 hx;obtain ⟨z',hz',rfl⟩:=List.mem_map.1 hy;have:=(k2 u hu v hv z hz z' hz' e).2;subst this;omega
theorem prodK_PK {n:Nat} {H:List Nat→Prop} (hH:IsG n H) {O:List (List Nat)} {R:List (List (List Nat))} (h:IsChain n H O R):∀ {i:Nat},i≤n→PK n H i (prodK n R i)
 | 0,_=>PK.zero hH
 | i+1,hi=>PK.step hH h hi (prodK_PK hH h (Nat.le_of_lt hi))
theorem prodK_all {n:Nat} {H:List Nat→Prop} (hH:IsG n H) {O:List (List Nat)} {R:List (List (List Nat))} (h:IsChain n H O R):(prodK n R n).Nodup∧∀ x,x∈prodK n R n↔H x:=by
 have hp:=prodK_PK hH h (Nat.le_refl n);refine ⟨hp.nd,fun x=>⟨hp.inH x,fun hx=>?_⟩⟩;obtain ⟨s,z,hs,hz,rfl⟩:=hp.all x hx;have e:=Fx.all (hH.gd _ hs.1) hs.2;rw [e,Cm.one_mul (hH.gd _ (hp.inH z hz))];exact hz
theorem AllE.len {d:Nat} {gs A:List (List Nat)} (hg:∀ s∈gs,Gd d s) {O:List (List Nat)} {R:List (List (List Nat))} (h:IsChain d (Gr d (·∈gs)) O R) (hA:AllE d gs A):A.length=(prodK d R d).length:=by
 obtain ⟨h1,h2⟩:=prodK_all (Gr.isG hg) h;exact Nat.le_antisymm (nodup_le (asc_nodup hA.1) fun x hx=>(h2 x).2 ((hA.2 x).1 hx)) (nodup_le h1 fun x hx=>(hA.2 x).2 ((h2 x).1 hx))
end Go.Proofs.YthehbckogieimaaGreat

namespace Go.Proofs.YthehbckogieimaaGreat
open Go.Proofs
open Go.Proofs.Cm (Gr Gd IsChain IsG St Fx ap Lst lexLt)
def fxTo (i p:Nat) (a:List Nat) (j:Nat):Bool:=(ap a i == p) && (List.range j).all fun m=>ap a m == m
def fxB (i p:Nat) (a:List Nat):Bool:=fxTo i p a i
theorem fxB_iff {i p:Nat} {a:List Nat}:fxB i p a=true↔Fx i a∧ap a i=p:=by
 unfold fxB fxTo;rw [Bool.and_eq_true,beq_iff_eq,List.all_eq_true]
 constructor
 ·rintro ⟨h1,h2⟩; exact ⟨fun j hj=>by simpa using h2 j (List.mem_range.2 hj),h1⟩
 ·rintro ⟨h1,h2⟩; exact ⟨h2,fun j hj=>by simpa using h1 j (List.mem_range.1 hj)⟩
def orbTo (A:List (List Nat)) (i p:Nat):List Nat:=(List.range p).filter fun q=>A.any (fxB i q)
def repTo (A:List (List Nat)) (i p:Nat):List (List Nat):=(orbTo A i p).map fun q=>(A.find? (fxB i q)).getD []
theorem len_repTo (A:List (List Nat)) (i p:Nat):(repTo A i p).length=(orbTo A i p).length:=by unfold repTo; rw [List.length_map]
theorem ofN_cons (x:Nat) (a:List Nat):Ma.ofN (x :: a)=((x:Nat):Int) :: Ma.ofN a:=rfl
theorem lessL_lex:∀ {a z:List Nat},a.length=z.length→lessL (Ma.ofN a) (Ma.ofN z)=true→lexLt a.length a z
 | [],[],_,h=>by simp [Ma.ofN,lessL] at h
 | [],_ :: _,e,_=>by simp at e
 | _ :: _,[],e,_=>by simp at e
 | x :: a,y :: z,e,h=>by
  rw [ofN_cons,ofN_cons,lessL] at h
  by_cases hxy:x=y
  ·subst hxy
   rw [if_pos rfl] at h;obtain ⟨j,h1,h2,h3⟩:=lessL_lex (by simpa using e) h;refine ⟨j+1,by simpa using h1,fun m hm=>?_,by simpa [ap] using h3⟩
   cases m with
   | zero=>rfl
   | succ m=>simpa [ap] using h2 m (by omega)
  ·rw [if_neg (by omega)] at h
   exact ⟨0,by simp,fun m hm=>absurd hm (Nat.not_lt_zero _),by simpa [ap] using h⟩
theorem getD_mapR {α:Type} (f:Nat→List α) {d i:Nat} (h:i<d):((List.range d).map f).getD i []=f i:=by
 rw [List.getD_eq_getElem?_getD,List.getElem?_map,List.getElem?_range h];rfl
theorem find_lst {d:Nat} {gs A:List (List Nat)} (hg:∀ s∈gs,Gd d s) (hA:AllE d gs A) {i p:Nat} {a:List Nat} (h:A.find? (fxB i p)=some a):Lst d (fun z=>St (Gr d (·∈gs)) i z∧ap z i=p) a:=by
 obtain ⟨h1,k,hk,rfl,h2⟩:=List.find?_eq_some_iff_getElem.1 h;have h3:=fxB_iff.1 h1;have gk:=(Gr.isG hg).gd _ ((hA.2 _).1 (List.getElem_mem hk));refine ⟨⟨⟨(hA.2 _).1 (List.getElem_mem hk),h3.1⟩,h3.2⟩,fun z hz=>?_⟩;obtain ⟨j,hj,rfl⟩:=List.getElem_of_mem ((hA.2 z).2 hz.1.1);have gj:=(Gr.isG hg).gd _ ((hA.2 _).1 (List.getElem_mem hj))
 rcases Nat.lt_trichotomy j k with e | e | e
 ·have h4:=h2 j e
  rw [fxB_iff.2 ⟨hz.1.2,hz.2⟩] at h4
  cases h4
 ·subst e; exact .inl rfl
 ·have h5:=hA.1 k j (by simpa using hk) (by simpa using hj) e
  simp only [List.getElem_map] at h5;have:=lessL_lex (gk.2.trans gj.2.symm) h5;rw [gk.2] at this;exact .inr this
theorem chainOf_is {d:Nat} {gs A:List (List Nat)} (hg:∀ s∈gs,Gd d s) (hA:AllE d gs A):IsChain d (Gr d (·∈gs)) ((List.range d).map fun i=>orbTo A i d) ((List.range d).map fun i=>repTo A i d):=by
 have hm:∀ {i p:Nat},i<d→(p∈orbTo A i d↔∃ x,St (Gr d (·∈gs)) i x∧ap x i=p):=by
  intro i p hi;unfold orbTo;rw [List.mem_filter,List.mem_range,List.any_eq_true]
  constructor
  ·rintro ⟨_,a,ha,hb⟩
   exact ⟨a,⟨(hA.2 a).1 ha,(fxB_iff.1 hb).1⟩,(fxB_iff.1 hb).2⟩
  ·rintro ⟨x,hx,rfl⟩
   exact ⟨Cm.ap_lt ((Gr.isG hg).gd x hx.1) hi,x,(hA.2 x).2 hx.1,fxB_iff.2 ⟨hx.2,rfl⟩⟩
 refine ⟨by simp,by simp,fun i hi=>?_,fun i p hi=>?_,fun i hi=>?_,fun i k hi hk=>?_⟩
 ·rw [getD_mapR _ hi]
  exact List.Pairwise.filter _ List.pairwise_lt_range
 ·rw [getD_mapR _ hi]; exact hm hi
 ·rw [getD_mapR _ hi,getD_mapR _ hi]; exact len_repTo A i d
 ·rw [getD_mapR _ hi] at hk ⊢
  rw [getD_mapR _ hi]
  have hk2:k<(repTo A i d).length:=by rw [len_repTo]; exact hk
  rw [Cm.getD_in hk,Cm.getD_in hk2]
  have e:(repTo A i d)[k]=(A.find? (fxB i (orbTo A i d)[k])).getD []:=by simp only [repTo,List.getElem_map]
  rw [e];have hp:=List.getElem_mem hk;unfold orbTo at hp;rw [List.mem_filter] at hp
  cases hf:A.find? (fxB i (orbTo A i d)[k]) with
  | none =>
   exfalso
   obtain ⟨a,ha,hb⟩:=List.any_eq_true.1 hp.2;have:=List.find?_eq_none.1 hf a ha;exact this hb
  | some a=>exact find_lst hg hA hf
end Go.Proofs.YthehbckogieimaaGreat

namespace Go.Proofs.YthehbckogieimaaGreat
open Go.Proofs
open Go.Proofs.Ob
open Go.Proofs.Cm (Gr IsChain IsG St Fx ap Lst allL)
theorem asc_ins {A:List (List Nat)} (h:Asc (A.map Ma.ofN)) (y:List Nat):∃ B:List (List Nat),Asc (B.map Ma.ofN)∧∀ z,z∈B↔z∈A∨z=y:=by
 by_cases hy:y∈A
 ·exact ⟨A,h,fun z=>⟨.inl,fun e=>e.elim id fun e=>e▸hy⟩⟩
 ·refine ⟨A.filter (fun a=>lessL (Ma.ofN a) (Ma.ofN y))++(y :: A.filter (fun a=>!lessL (Ma.ofN a) (Ma.ofN y))),?_,fun z=>?_⟩
  ·rw [asc_iff,List.pairwise_map] at h ⊢
   rw [List.pairwise_append,List.pairwise_cons]
   have gt:∀ b∈A.filter (fun a=>!lessL (Ma.ofN a) (Ma.ofN y)),lessL (Ma.ofN y) (Ma.ofN b)=true:=by
    intro b hb;obtain ⟨h1,h2⟩:=List.mem_filter.1 hb;refine lessL_total (by simpa using h2) fun e=>hy ?_;rw [← ofN_inj' e]; exact h1
   refine ⟨h.filter _,⟨gt,h.filter _⟩,fun a ha b hb=>?_⟩
   have h1:lessL (Ma.ofN a) (Ma.ofN y)=true:=by simpa using (List.mem_filter.1 ha).2
   rcases List.mem_cons.1 hb with rfl | hb
   ·exact h1
   ·exact lessL_trans h1 (gt b hb)
  ·rw [List.mem_append,List.mem_cons,List.mem_filter,List.mem_filter]
   cases lessL (Ma.ofN z) (Ma.ofN y) <;> simp
   ·exact or_comm
theorem asc_exists (P:List Nat→Prop):∀ L:List (List Nat),∃ A:List (List Nat),Asc (A.map Ma.ofN)∧∀ z,z∈A↔z∈L∧P z
 | []=>⟨[],asc_one _ (by simp),fun z=>by simp⟩
 | y :: L=>by
  obtain ⟨A,h1,h2⟩:=asc_exists P L
  by_cases hy:P y
  ·obtain ⟨B,h3,h4⟩:=asc_ins h1 y
   refine ⟨B,h3,fun z=>?_⟩;rw [h4,h2,List.mem_cons]
   constructor
   ·rintro (⟨e1,e2⟩ | rfl)
    ·exact ⟨.inr e1,e2⟩
    ·exact ⟨.inl rfl,hy⟩
   ·rintro ⟨rfl | e1,e2⟩
    ·exact .inr rfl
    ·exact .inl ⟨e1,e2⟩
  ·refine ⟨A,h1,fun z=>?_⟩
   rw [h2,List.mem_cons]
   constructor
   ·exact fun ⟨e1,e2⟩=>⟨.inr e1,e2⟩
   ·rintro ⟨rfl | e1,e2⟩
    ·exact absurd e2 hy
    ·exact ⟨e1,e2⟩
theorem mem_allL' {n:Nat} {x:List Nat} (h:Cm.Gd n x):x∈allL n n:=by
 have:=Cm.mem_allL (n:=n) (l:=x) (fun y hy=>by rw [← h.2]; exact h.1.1 y hy)
 rwa [h.2] at this
theorem allE_exists {d:Nat} {gs:List (List Nat)} (hg:∀ s∈gs,Cm.Gd d s):∃ A,AllE d gs A:=by
 obtain ⟨A,h1,h2⟩:=asc_exists (Gr d (·∈gs)) (allL d d);exact ⟨A,h1,fun y=>⟨fun h=>((h2 y).1 h).2,fun h=>(h2 y).2 ⟨mem_allL' ((Gr.isG hg).gd _ h),h⟩⟩⟩
theorem chain_exists {d:Nat} {gs:List (List Nat)} (hg:∀ s∈gs,Cm.Gd d s):∃ O R,IsChain d (Gr d (·∈gs)) O R:=by
 obtain ⟨A,hA⟩:=allE_exists hg;exact ⟨_,_,chainOf_is hg hA⟩
end Go.Proofs.YthehbckogieimaaGreat
