/- Lemmas and contracts on the way to the statement; no condition of their own beyond those written. -/
import Derived.Test.YthehbckogieimaaGreatXHjtoHu
import Derived.Deep.MidRow
import Derived.Deep.WholeRow
import Derived.Laws.CopyOwn
import Derived.RangeFuncWrites
import Derived.RangeFuncNested
import Derived.RangeFuncBox
import Derived.RangeFuncLeaves
import Derived.Shelf.Abstract
import Derived.OwnWalkIn
import Derived.TacticsInMore
import Derived.LoopNIn
import Derived.LoopIn
import Derived.Maps.AppendAt
import Derived.Sort.CutIn
import Derived.Deep.CutRange
import Derived.Deep.CutBlock
import Derived.IntWalk
import Derived.Great.BuildSlice
import Derived.ArgAppend
import Derived.StillTailTactics
import Derived.WalkSpells
import Derived.WalkLawsBesides
import Derived.OwnWalk
import Derived.OrdersHeld
import Derived.Deep.OwnRows
import Derived.WalkKit
import Derived.Lib.Hide
import Derived.Laws.OwnMore
import Derived.Test.YthehbckogieimaaGreatProg
import Derived.Outline
import Derived.Deep.DeepFit
import Derived.BigQuiet
import Derived.Deep.QuietTactic
import Derived.Sort.OwnSortedInts
import Derived.WideMake
import Derived.MapKept
import Derived.ChangeMaps5
import Derived.Shelf.Sort.Plain
import Derived.Lib.ConvBytes
import Derived.ChangeKeysEq
import Derived.Laws.Cells
import Derived.Laws.Rows
import Derived.Laws.Tables
import Derived.OrdersIn
import Derived.TacticsIn
import Derived.Deep.LoopGhost
import Derived.Lib.SlicesSearch
import Derived.Stop.BytesEq
import Derived.Shelf.SlSortCmp.Whole1
import Derived.Ground.SlsfProg
set_option linter.unusedVariables false
set_option linter.unusedSimpArgs false
set_option maxRecDepth 100000
set_option maxHeartbeats 8000000
namespace Go.Proofs.YthehbckogieimaaGreat
open Go.RowKit
open Go.Proofs
open Go.Proofs.Ob
open Go.Proofs.Cm (Gd)
attribute [local irreducible] Go.Calls Go.wpList
theorem Hvcl0 (args:Array Value) (w:World):(callFunc 97 args).run Tryz.prog w=.ok (.enter 97 args) w:=by kernel_rfl
def TvPost (d:Int) (ll:List (List Int)) (w:World) (e:Ending) (w':World):Prop :=
 Below w.heap.size w w'∧((Ma.gchk d ll≠0∧e=.returned (.tuple #[.int .i64 0,.int .i64 (Ma.gchk d ll)])) ∨
  (Ma.gchk d ll=0∧∃ (D:Nat) (gs:List (List Nat)) (k:Nat) (O:List (List Nat)) (R:List (List (List Nat))),d=D∧ll=gs.map Ma.ofN∧e=.returned (.tuple #[.int .i64 ((k:Nat):Int),.int .i64 0])∧Cm.IsChain D (Cm.Gr D (·∈gs)) O R∧TrIs O D k))
theorem Transitivity_any (gv:Value) (d:Int) (ll:List (List Int)) (w:World) (h:Rg.Rows w gv ll) :
  Calls Tryz.prog 20 #[.agg #[.int .i64 d,gv]] w (TvPost d ll w):=by
 obtain ⟨ga,gc,rfl,hga,hba⟩:=GI.enter (d) h;have K:=ι hba;have G0:=ι hga;clear h hga hba;obtain ⟨ck,hck⟩:∃ c,Hid (Ma.gchk d ll=c):=⟨_,ι rfl⟩
 go_enter Tryz.func20,Tryz.ntmps20
 go_upto_region 0 with (fail);refine wp_region_list ?_;refine Rg.lr 1 (Rg.exec_box _ _ rfl rfl) ?_;go_frame;refine Rg.la 2 (.int .i64 0) ?_;go_frame;refine Rg.la 3 (.int .i64 0) ?_;go_frame;obtain ⟨gb,hgb⟩:∃ gb,w.heap.size=gb:=⟨_,rfl⟩;rw [hgb] at G0 ⊢;clear hgb;generalize w.alloc (.cells #[.int .i64 d,.slice ga ll.length gc] 24)=w0 at *
 by_cases h0:ck=0
 case neg =>
  skip
  go_upto_region 1 with (fail);refine wp_region_list ?_;refine Rg.lr 8 (Rg.exec_load (v:=.agg #[.int .i64 d,.slice ga ll.length gc]) _ _ rfl ⟨gb,0,none⟩ rfl (run_loadG G0.out.c0 G0.out.c1)) ?_;go_frame;refine list_ask (some 9) rfl rfl _ _ (exec_fn1 97 _ _ rfl rfl (Hvcl0 _ _)) ?_;refine (chOf_any _ d ll w0 G0.out.rows).mono ?_;rintro e1 w1 ⟨cv,rfl,hcv,hb⟩;obtain ⟨e9,oa,on,oc,ra,rn,rc,rfl⟩:=hcv.shape;rw [hck.out];clear hcv;refine ⟨_,rfl,?_⟩;go_frame;replace G0:=ι (G0.out.below hb);replace K:=ι (Rg.acc K.out hb);clear hb;refine Rg.lm 7 (.tuple #[(.agg #[.int .i64 e9,.slice oa on oc,.slice ra rn rc]),.int .i64 ck]) ?_;go_frame;refine Rg.lr 10 (exec_extract (v:=(.agg #[.int .i64 e9,.slice oa on oc,.slice ra rn rc])) _ _ rfl rfl rfl) ?_;go_frame;refine Rg.lr 11 (exec_extract (v:=.int .i64 ck) _ _ rfl rfl rfl) ?_;go_frame;refine Rg.lr 4 (exec_allocC rfl) ?_;go_frame
  refine Rg.list_skip none rfl rfl (Rg.exec_store _ _ _ rfl _ rfl _ rfl (run_storeC _ _ _ _ _ _ _ (Tri.new w1 (.int .i64 0) (.slice none 0 0) (.slice none 0 0)))) ?_;go_frame;have htn:=(Tri.new w1 (.int .i64 0) (.slice none 0 0) (.slice none 0 0)).set (.int .i64 e9) (.slice oa on oc) (.slice ra rn rc);have hb:=((((Below.refl w1.heap.size w1).alloc (Nat.le_refl _) (.cells #[.int .i64 0,.slice none 0 0,.slice none 0 0] 54)).setCell (p:=⟨w1.heap.size,0,none⟩) (Nat.le_refl _) (.int .i64 e9)).setCell (p:=⟨w1.heap.size,1,none⟩) (Nat.le_refl _) (.slice oa on oc)).setCell (p:=⟨w1.heap.size,2,none⟩) (Nat.le_refl _) (.slice ra rn rc);generalize (((w1.alloc (.cells #[.int .i64 0,.slice none 0 0,.slice none 0 0] 54)).setCell ⟨w1.heap.size,0,none⟩ (.int .i64 e9)).setCell ⟨w1.heap.size,1,none⟩ (.slice oa on oc)).setCell ⟨w1.heap.size,2,none⟩ (.slice ra rn rc)=w2 at *;replace G0:=ι (G0.out.below hb)
  replace K:=ι (Rg.acc K.out hb);clear hb;have T1:=ι htn;clear htn;refine Rg.la 5 (.int .i64 ck) ?_;go_frame;go_upto_region 2 with (fail);refine wp_region_list ?_;refine Rg.lm 12 (.int .i64 ck) ?_;go_frame;refine Rg.lr 13 (exec_bin (R:=.bool true) .neq _ _ _ rfl rfl rfl (b_neqB _ (decide_eq_true h0))) ?_;go_frame;go_upto_region 3 with (fail);refine wp_region_list ?_;refine Rg.lm 14 (.int .i64 ck) ?_;go_frame;refine Rg.la 2 (.int .i64 ((0:Nat):Int)) ?_;go_frame;refine Rg.la 3 (.int .i64 ck) ?_;go_frame;go_wp2
  go_ret2
  exact ⟨K.out,.inl ⟨by rw [hck.out]; exact h0,by rw [hck.out]; rfl⟩⟩
 case pos =>
  have HZ:=ι (hck.out.trans h0);obtain ⟨D,gs,hD,hgs,hgg,hD1,hD2,hgl⟩:=gchk_ok HZ.out;subst hD hgs;clear hgg h0 hck;go_upto_region 1 with (fail);refine wp_region_list ?_;refine Rg.lr 8 (Rg.exec_load (v:=.agg #[.int .i64 ((D:Nat):Int),.slice ga (gs.map Ma.ofN).length gc]) _ _ rfl ⟨gb,0,none⟩ rfl (run_loadG G0.out.c0 G0.out.c1)) ?_;go_frame;refine list_ask (some 9) rfl rfl _ _ (exec_fn1 97 _ _ rfl rfl (Hvcl0 _ _)) ?_;refine (chOf_gs HZ.out G0.out.rows).mono ?_;rintro e1 w1 ⟨ov,rv,O,R,rfl,hce,hci,hb⟩;obtain ⟨oa,oc,rfl,_⟩:=hce.1.shape;obtain ⟨ra,rc,rfl⟩:=hce.2.shape;obtain ⟨rn,hrn⟩:∃ n,(R.map (List.map Ma.ofN)).length=n:=⟨_,rfl⟩;obtain ⟨on,hon⟩:∃ n,Hid ((O.map Ma.ofN).length=n):=⟨_,ι rfl⟩;rw [hrn,hon.out] at hce ⊢;have HCI:=ι hci;clear hci hrn;refine ⟨_,rfl,?_⟩;go_frame;replace G0:=ι (G0.out.below hb);replace K:=ι (Rg.acc K.out hb)
  clear hb;have E1:=ι hce;refine Rg.lm 7 (.tuple #[(.agg #[.int .i64 ((D:Nat):Int),.slice oa on oc,.slice ra rn rc]),.int .i64 0]) ?_;go_frame;refine Rg.lr 10 (exec_extract (v:=(.agg #[.int .i64 ((D:Nat):Int),.slice oa on oc,.slice ra rn rc])) _ _ rfl rfl rfl) ?_;go_frame;refine Rg.lr 11 (exec_extract (v:=.int .i64 0) _ _ rfl rfl rfl) ?_;go_frame;refine Rg.lr 4 (exec_allocC rfl) ?_;go_frame;refine Rg.list_skip none rfl rfl (Rg.exec_store _ _ _ rfl _ rfl _ rfl (run_storeC _ _ _ _ _ _ _ (Tri.new w1 (.int .i64 0) (.slice none 0 0) (.slice none 0 0)))) ?_;go_frame;have htn:=(Tri.new w1 (.int .i64 0) (.slice none 0 0) (.slice none 0 0)).set (.int .i64 ((D:Nat):Int)) (.slice oa on oc) (.slice ra rn rc);have hb:=((((Below.refl w1.heap.size w1).alloc (Nat.le_refl _) (.cells #[.int .i64 0,.slice none 0 0,.slice none 0 0] 54)).setCell (p:=⟨w1.heap.size,0,none⟩) (Nat.le_refl _) (.int .i64 ((D:Nat):Int))).setCell (p:=⟨w1.heap.size,1,none⟩) (Nat.le_refl _) (.slice oa on oc)).setCell (p:=⟨w1.heap.size,2,none⟩) (Nat.le_refl _) (.slice ra rn rc)
  generalize (((w1.alloc (.cells #[.int .i64 0,.slice none 0 0,.slice none 0 0] 54)).setCell ⟨w1.heap.size,0,none⟩ (.int .i64 ((D:Nat):Int))).setCell ⟨w1.heap.size,1,none⟩ (.slice oa on oc)).setCell ⟨w1.heap.size,2,none⟩ (.slice ra rn rc)=w2 at *;replace G0:=ι (G0.out.below hb);replace E1:=ι (E1.out.below hb);replace K:=ι (Rg.acc K.out hb);clear hb;have T1:=ι htn;clear htn;refine Rg.la 5 (.int .i64 0) ?_;go_frame;clear hce;go_upto_region 2 with (fail);refine wp_region_list ?_;refine Rg.lm 12 (.int .i64 0) ?_;go_frame;refine Rg.lr 13 (exec_bin (R:=.bool false) .neq _ _ _ rfl rfl rfl (b_neqB _ (decide_eq_false (fun e=>e rfl)))) ?_;go_frame;go_upto_region 4 with (fail);refine wp_region_list ?_;refine Rg.la 6 (.int .i64 ((0:Nat):Int)) ?_;go_frame;obtain ⟨cb,hcb⟩:∃ b,w1.heap.size=b:=⟨_,rfl⟩;rw [hcb] at T1 ⊢;clear hcb;have HOL:=ι HCI.out.lenO
  have hon2:on=D:=by rw [← hon.out,List.length_map]; exact HOL.out
  subst hon2
  obtain ⟨ob,oo,rfl,hor⟩:∃ b o,oa=some ⟨b,o,none⟩∧∀ k,k<on→∃ ua uc,CL w2 b (o+k) (.slice ua (O.getD k []).length uc):=by
   obtain ⟨oa',oc',hsh,-,-,-,har⟩:=E1.out.1.shape;simp only [Value.slice.injEq] at hsh;obtain ⟨rfl,-,rfl⟩:=hsh;obtain ⟨bb,o,e,hbb,hx⟩:=har (by rw [hon.out]; omega);refine ⟨bb,o,e,fun k hk=>?_⟩;obtain ⟨u,h1,h2⟩:=hx k (by rw [hon.out]; exact hk)
   have hk2:k<O.length:=by rw [HOL.out]; exact hk
   rw [List.getElem_map] at h2;obtain ⟨ua,uc,rfl,-⟩:=Rg.NP.shape (show Rg.NP _ u O[k] from h2);refine ⟨ua,uc,?_,hbb⟩;rw [List.getD_eq_getElem?_getD,List.getElem?_eq_getElem hk2,Option.getD_some];exact h1
  have HOR:=ι hor;have HWB:=ι K.out;have GB:=ι G0.out;have TB:=ι T1.out;have KK:=ι (Below.refl w2.heap.size w2);have AL:=ι (show ∀ i,i<0→(O.getD i []).length=on - i from fun i hi=>absurd hi (Nat.not_lt_zero _));clear hor K G0 T1 E1;go_wp2
  go_loopw [6] (fun kv wr=>∃ k:Nat,kv=.int .i64 ((k:Nat):Int)∧k≤on∧Hid (∀ i,i<k→(O.getD i []).length=on - i)∧Hid (Below w2.heap.size w2 wr)) (fun kv _=>on - (intOf kv).toNat)
  case atStart=>exact ⟨0,rfl,Nat.zero_le _,AL,KK⟩
  case round =>
   clear AL KK;obtain ⟨k,rfl,hk,AL,KK⟩:=hrel;generalize wr=wd at *;have G0:=ι (GB.out.below KK.out);have T1:=ι (TB.out.below KK.out)
   by_cases hkD:k<on
   case neg =>
    have hkD2:k=on:=by omega
    go_upto_region 5 with (fail);have hV0:Below wd.heap.size wd wd.drew:=(Below.refl _ _).drew;replace G0:=ι (G0.out.below hV0);replace T1:=ι (T1.out.below hV0);replace KK:=ι (Rg.acc KK.out hV0);clear hV0;refine Rg.Any.begin (S:=Rg.Both 16 (fun _=>True) (fun W=>Below wd.drew.heap.size wd.drew W)) mix ?_;generalize wd.drew=w41 at *;have hS:∀ (l:Array Bool) W,Below w41.heap.size w41 W→Rg.Both 16 (fun _=>True) (fun W=>Below w41.heap.size w41 W) l W:=fun l W h=>⟨.inr trivial,h⟩;have hI:Below w41.heap.size w41 w41:=Below.refl _ _;refine Rg.tm 0 16 (.int .i64 ((k:Nat):Int)) 15 (hS _ _ hI) ?_;go_frame;refine Rg.tg 1 16 (.pointer (some ⟨gb,0,none⟩)) 16 rfl rfl (.inl ⟨rfl,fun w _=>exec_fieldG0 _ rfl rfl⟩) (hS _ _ hI) ?_;go_frame;refine Rg.tg 2 16 (.int .i64 ((on:Nat):Int)) 17 rfl rfl (Rg.yields_cell _ _ rfl rfl ⟨gb,0,none⟩ rfl (fun W hW=>run_loadInt ((Below.cell (p:=⟨gb,0,none⟩) hW G0.out.lt).trans G0.out.c0))) (hS _ _ hI) ?_;go_frame
    refine Rg.tg 3 16 (.bool false) 18 rfl rfl (.inl ⟨rfl,fun w _=>exec_bin (R:=.bool false) .lss _ _ _ rfl rfl rfl (b_lss _ (decide_eq_false (by omega)))⟩) (hS _ _ hI) ?_;go_frame;refine Rg.tm 4 16 (.bool false) 19 (hS _ _ hI) ?_;go_frame;refine Rg.tg 5 16 (undef) 20 rfl rfl (.inr ⟨rfl,rfl⟩) (hS _ _ hI) ?_;go_frame;refine Rg.tg 6 16 (undef) 21 rfl rfl (.inr ⟨rfl,rfl⟩) (hS _ _ hI) ?_;go_frame;refine Rg.tg 7 16 (undef) 22 rfl rfl (.inr ⟨rfl,rfl⟩) (hS _ _ hI) ?_;go_frame;refine Rg.tg 8 16 (undef) 23 rfl rfl (.inr ⟨rfl,rfl⟩) (hS _ _ hI) ?_;go_frame;refine Rg.tg 9 16 (undef) 24 rfl rfl (.inr ⟨rfl,rfl⟩) (hS _ _ hI) ?_;go_frame;refine Rg.tg 10 16 (undef) 25 rfl rfl (.inr ⟨rfl,rfl⟩) (hS _ _ hI) ?_;go_frame;refine Rg.tg 11 16 (undef) 26 rfl rfl (.inr ⟨rfl,rfl⟩) (hS _ _ hI) ?_;go_frame;refine Rg.tg 12 16 (undef) 27 rfl rfl (.inr ⟨rfl,rfl⟩) (hS _ _ hI) ?_;go_frame;refine Rg.tg 13 16 (undef) 28 rfl rfl (.inr ⟨rfl,rfl⟩) (hS _ _ hI) ?_;go_frame
    refine Rg.tg 14 16 (undef) 29 rfl rfl (.inr ⟨rfl,rfl⟩) (hS _ _ hI) ?_;go_frame;refine Rg.tg 15 16 (undef) 30 rfl rfl (.inr ⟨rfl,rfl⟩) (hS _ _ hI) ?_;go_frame;refine Rg.Any.one (i:=16) (by kernel_rfl) (Rg.Any.run (some 31) rfl rfl rfl (exec_pickF (v:=.bool false) _ _ _ rfl rfl rfl) (hS _ _ hI) ?_);go_frame;refine Rg.Any.done (by kernel_rfl) ?_ _;clear hS hI;go_upto_region 7 with (fail);refine wp_region_list ?_;refine Rg.lm 34 (.int .i64 ((k:Nat):Int)) ?_;go_frame;refine Rg.la 2 (.int .i64 ((k:Nat):Int)) ?_;go_frame;refine Rg.la 3 (.int .i64 ((0:Nat):Int)) ?_;go_frame;go_wp2
    go_ret2
    exact ⟨Rg.acc HWB.out KK.out,.inr ⟨HZ.out,on,gs,k,O,R,rfl,rfl,rfl,HCI.out,hk,AL.out,.inl hkD2⟩⟩
   case pos =>
    obtain ⟨ua,uc,hcu⟩:=HOR.out k hkD;obtain ⟨m,hm⟩:∃ n,Hid ((O.getD k []).length=n):=⟨_,ι rfl⟩;rw [hm.out] at hcu;have CU:=ι (hcu.up KK.out);have HKD:=ι hkD;clear hcu
    by_cases hmk:m=on - k
    case pos =>
     have AL2:=ι (show ∀ i,i<k+1→(O.getD i []).length=on - i from fun i hi=>by
      by_cases e:i=k
      ·rw [e,hm.out]; exact hmk
      ·exact AL.out i (by omega))
     go_upto_region 5 with (fail);have hV0:Below wd.heap.size wd wd.drew:=(Below.refl _ _).drew;replace G0:=ι (G0.out.below hV0);replace T1:=ι (T1.out.below hV0);replace CU:=ι (CU.out.below hV0);replace KK:=ι (Rg.acc KK.out hV0);clear hV0;refine Rg.Any.begin (S:=Rg.Both 16 (fun _=>True) (fun W=>Below wd.drew.heap.size wd.drew W)) mix ?_;generalize wd.drew=w61 at *;have hS:∀ (l:Array Bool) W,Below w61.heap.size w61 W→Rg.Both 16 (fun _=>True) (fun W=>Below w61.heap.size w61 W) l W:=fun l W h=>⟨.inr trivial,h⟩;have hI:Below w61.heap.size w61 w61:=Below.refl _ _;refine Rg.tm 0 16 (.int .i64 ((k:Nat):Int)) 15 (hS _ _ hI) ?_;go_frame;refine Rg.tg 1 16 (.pointer (some ⟨gb,0,none⟩)) 16 rfl rfl (.inl ⟨rfl,fun w _=>exec_fieldG0 _ rfl rfl⟩) (hS _ _ hI) ?_;go_frame;refine Rg.tg 2 16 (.int .i64 ((on:Nat):Int)) 17 rfl rfl (Rg.yields_cell _ _ rfl rfl ⟨gb,0,none⟩ rfl (fun W hW=>run_loadInt ((Below.cell (p:=⟨gb,0,none⟩) hW G0.out.lt).trans G0.out.c0))) (hS _ _ hI) ?_;go_frame
     refine Rg.tg 3 16 (.bool true) 18 rfl rfl (.inl ⟨rfl,fun w _=>exec_bin (R:=.bool true) .lss _ _ _ rfl rfl rfl (b_lss _ (decide_eq_true (by omega)))⟩) (hS _ _ hI) ?_;go_frame;refine Rg.tm 4 16 (.bool true) 19 (hS _ _ hI) ?_;go_frame;refine Rg.tg 5 16 (.pointer (some ⟨cb,1,none⟩)) 20 rfl rfl (.inl ⟨rfl,fun w _=>exec_field _ rfl rfl (chF1 _ _)⟩) (hS _ _ hI) ?_;go_frame;refine Rg.tg 6 16 (.slice (some ⟨ob,oo,none⟩) on oc) 21 rfl rfl (Rg.yields_cell _ _ rfl rfl ⟨cb,1,none⟩ rfl (fun W hW=>Rg.run_loadSl _ _ Tryz.underlying27 ((Below.cell (p:=⟨cb,1,none⟩) hW T1.out.lt).trans T1.out.c1))) (hS _ _ hI) ?_;go_frame;refine Rg.tm 7 16 (.int .i64 ((k:Nat):Int)) 22 (hS _ _ hI) ?_;go_frame;refine Rg.tg 8 16 (.pointer (some ⟨ob,oo+k,none⟩)) 23 rfl rfl (Rg.yields_index slIntss _ _ rfl rfl ob (oo) (on) oc (k) rfl rfl hkD) (hS _ _ hI) ?_;go_frame;refine Rg.tg 9 16 (.slice ua m uc) 24 rfl rfl (Rg.yields_cell _ _ rfl rfl ⟨ob,oo+k,none⟩ rfl (fun W hW=>Rg.run_loadSl _ _ Tryz.underlying36 ((Below.cell (p:=⟨ob,oo+k,none⟩) hW CU.out.lt).trans CU.out.cell))) (hS _ _ hI) ?_;go_frame
     refine Rg.tg 10 16 (.int .i64 ((m:Nat):Int)) 25 rfl rfl (.inl ⟨rfl,fun w _=>exec_len _ _ _ rfl Tryz.underlying36 _ _ _ rfl⟩) (hS _ _ hI) ?_;go_frame;refine Rg.tg 11 16 (.pointer (some ⟨gb,0,none⟩)) 26 rfl rfl (.inl ⟨rfl,fun w _=>exec_fieldG0 _ rfl rfl⟩) (hS _ _ hI) ?_;go_frame;refine Rg.tg 12 16 (.int .i64 ((on:Nat):Int)) 27 rfl rfl (Rg.yields_cell _ _ rfl rfl ⟨gb,0,none⟩ rfl (fun W hW=>run_loadInt ((Below.cell (p:=⟨gb,0,none⟩) hW G0.out.lt).trans G0.out.c0))) (hS _ _ hI) ?_;go_frame;refine Rg.tm 13 16 (.int .i64 ((k:Nat):Int)) 28 (hS _ _ hI) ?_;go_frame;refine Rg.tg 14 16 (.int .i64 ((on:Int) - (k:Int))) 29 rfl rfl (.inl ⟨rfl,fun w _=>exec_bin (R:=.int .i64 ((on:Int) - (k:Int))) .sub _ _ _ rfl rfl rfl (b_sub _ (by omega) (by omega))⟩) (hS _ _ hI) ?_;go_frame;refine Rg.tg 15 16 (.bool true) 30 rfl rfl (.inl ⟨rfl,fun w _=>exec_bin (R:=.bool true) .eql _ _ _ rfl rfl rfl (b_eql _ (decide_eq_true (by omega)))⟩) (hS _ _ hI) ?_;go_frame
     refine Rg.Any.one (i:=16) (by kernel_rfl) (Rg.Any.run (some 31) rfl rfl rfl (exec_pickT (v:=.bool true) _ _ _ rfl rfl rfl) (hS _ _ hI) ?_);go_frame;refine Rg.Any.done (by kernel_rfl) ?_ _;clear hS hI;go_upto_region 6 with (fail);refine wp_region_list ?_;refine Rg.lm 32 (.int .i64 ((k:Nat):Int)) ?_;go_frame;refine Rg.lr 33 (exec_bin (R:=.int .i64 (((k+1):Nat):Int)) .add _ _ _ rfl rfl rfl (b_add _ (by omega) (by omega))) ?_;go_frame;refine Rg.la 6 (.int .i64 (((k+1):Nat):Int)) ?_;go_frame;go_wp2
     go_roundw
     case rel=>exact ⟨k+1,by go_num,HKD.out,AL2,KK⟩
     case measure=>simp [intOf]; have:=HKD.out; omega
    case neg =>
     skip
     go_upto_region 5 with (fail);have hV0:Below wd.heap.size wd wd.drew:=(Below.refl _ _).drew;replace G0:=ι (G0.out.below hV0);replace T1:=ι (T1.out.below hV0);replace CU:=ι (CU.out.below hV0);replace KK:=ι (Rg.acc KK.out hV0);clear hV0;refine Rg.Any.begin (S:=Rg.Both 16 (fun _=>True) (fun W=>Below wd.drew.heap.size wd.drew W)) mix ?_;generalize wd.drew=w81 at *;have hS:∀ (l:Array Bool) W,Below w81.heap.size w81 W→Rg.Both 16 (fun _=>True) (fun W=>Below w81.heap.size w81 W) l W:=fun l W h=>⟨.inr trivial,h⟩;have hI:Below w81.heap.size w81 w81:=Below.refl _ _;refine Rg.tm 0 16 (.int .i64 ((k:Nat):Int)) 15 (hS _ _ hI) ?_;go_frame;refine Rg.tg 1 16 (.pointer (some ⟨gb,0,none⟩)) 16 rfl rfl (.inl ⟨rfl,fun w _=>exec_fieldG0 _ rfl rfl⟩) (hS _ _ hI) ?_;go_frame;refine Rg.tg 2 16 (.int .i64 ((on:Nat):Int)) 17 rfl rfl (Rg.yields_cell _ _ rfl rfl ⟨gb,0,none⟩ rfl (fun W hW=>run_loadInt ((Below.cell (p:=⟨gb,0,none⟩) hW G0.out.lt).trans G0.out.c0))) (hS _ _ hI) ?_;go_frame
     refine Rg.tg 3 16 (.bool true) 18 rfl rfl (.inl ⟨rfl,fun w _=>exec_bin (R:=.bool true) .lss _ _ _ rfl rfl rfl (b_lss _ (decide_eq_true (by omega)))⟩) (hS _ _ hI) ?_;go_frame;refine Rg.tm 4 16 (.bool true) 19 (hS _ _ hI) ?_;go_frame;refine Rg.tg 5 16 (.pointer (some ⟨cb,1,none⟩)) 20 rfl rfl (.inl ⟨rfl,fun w _=>exec_field _ rfl rfl (chF1 _ _)⟩) (hS _ _ hI) ?_;go_frame;refine Rg.tg 6 16 (.slice (some ⟨ob,oo,none⟩) on oc) 21 rfl rfl (Rg.yields_cell _ _ rfl rfl ⟨cb,1,none⟩ rfl (fun W hW=>Rg.run_loadSl _ _ Tryz.underlying27 ((Below.cell (p:=⟨cb,1,none⟩) hW T1.out.lt).trans T1.out.c1))) (hS _ _ hI) ?_;go_frame;refine Rg.tm 7 16 (.int .i64 ((k:Nat):Int)) 22 (hS _ _ hI) ?_;go_frame;refine Rg.tg 8 16 (.pointer (some ⟨ob,oo+k,none⟩)) 23 rfl rfl (Rg.yields_index slIntss _ _ rfl rfl ob (oo) (on) oc (k) rfl rfl hkD) (hS _ _ hI) ?_;go_frame;refine Rg.tg 9 16 (.slice ua m uc) 24 rfl rfl (Rg.yields_cell _ _ rfl rfl ⟨ob,oo+k,none⟩ rfl (fun W hW=>Rg.run_loadSl _ _ Tryz.underlying36 ((Below.cell (p:=⟨ob,oo+k,none⟩) hW CU.out.lt).trans CU.out.cell))) (hS _ _ hI) ?_;go_frame
     refine Rg.tg 10 16 (.int .i64 ((m:Nat):Int)) 25 rfl rfl (.inl ⟨rfl,fun w _=>exec_len _ _ _ rfl Tryz.underlying36 _ _ _ rfl⟩) (hS _ _ hI) ?_;go_frame;refine Rg.tg 11 16 (.pointer (some ⟨gb,0,none⟩)) 26 rfl rfl (.inl ⟨rfl,fun w _=>exec_fieldG0 _ rfl rfl⟩) (hS _ _ hI) ?_;go_frame;refine Rg.tg 12 16 (.int .i64 ((on:Nat):Int)) 27 rfl rfl (Rg.yields_cell _ _ rfl rfl ⟨gb,0,none⟩ rfl (fun W hW=>run_loadInt ((Below.cell (p:=⟨gb,0,none⟩) hW G0.out.lt).trans G0.out.c0))) (hS _ _ hI) ?_;go_frame;refine Rg.tm 13 16 (.int .i64 ((k:Nat):Int)) 28 (hS _ _ hI) ?_;go_frame;refine Rg.tg 14 16 (.int .i64 ((on:Int) - (k:Int))) 29 rfl rfl (.inl ⟨rfl,fun w _=>exec_bin (R:=.int .i64 ((on:Int) - (k:Int))) .sub _ _ _ rfl rfl rfl (b_sub _ (by omega) (by omega))⟩) (hS _ _ hI) ?_;go_frame;refine Rg.tg 15 16 (.bool false) 30 rfl rfl (.inl ⟨rfl,fun w _=>exec_bin (R:=.bool false) .eql _ _ _ rfl rfl rfl (b_eql _ (decide_eq_false (by omega)))⟩) (hS _ _ hI) ?_;go_frame
     refine Rg.Any.one (i:=16) (by kernel_rfl) (Rg.Any.run (some 31) rfl rfl rfl (exec_pickT (v:=.bool false) _ _ _ rfl rfl rfl) (hS _ _ hI) ?_);go_frame;refine Rg.Any.done (by kernel_rfl) ?_ _;clear hS hI;go_upto_region 7 with (fail);refine wp_region_list ?_;refine Rg.lm 34 (.int .i64 ((k:Nat):Int)) ?_;go_frame;refine Rg.la 2 (.int .i64 ((k:Nat):Int)) ?_;go_frame;refine Rg.la 3 (.int .i64 ((0:Nat):Int)) ?_;go_frame;go_wp2
     go_ret2
     exact ⟨Rg.acc HWB.out KK.out,.inr ⟨HZ.out,on,gs,k,O,R,rfl,rfl,rfl,HCI.out,hk,AL.out,.inr (by rw [hm.out]; exact hmk)⟩⟩

theorem Jbcl0 (args:Array Value) (w:World):(callFunc 175 args).run Tryz.prog w=.ok (.enter 175 args) w:=by kernel_rfl
theorem Jbcl2 (args:Array Value) (w:World):(callFunc 67 args).run Tryz.prog w=.ok (.enter 67 args) w:=by kernel_rfl
theorem rtrans_any (gv:Value) (D:Nat) (gs:List (List Nat)) (w:World) (hz:Ma.gchk ((D:Nat):Int) (gs.map Ma.ofN)=0) (h:Rg.Rows w gv (gs.map Ma.ofN)) :
  Calls Tryz.prog 93 #[.agg #[.int .i64 ((D:Nat):Int),gv]] w fun e w'=>e=.returned (.bool (trn gs D))∧Below w.heap.size w w':=by
 have hD:1≤D∧D≤64:=by
  obtain ⟨D',_,e,_,_,h1,h2,_⟩:=gchk_ok hz;omega
 have HPT:=ι (ptE_good (p:=0) hz (by omega));have HOR:=ι (orbS_ok HPT.out);obtain ⟨t,ht⟩:∃ t,Hid ((tree gs D 0).length=t):=⟨_,ι rfl⟩;obtain ⟨b,hb⟩:∃ b,Hid (trn gs D=b):=⟨_,ι rfl⟩;have HB:=ι (show decide (((t:Nat):Int)=((D:Nat):Int))=b by rw [← hb.out,trn,ht.out]; exact decide_eq_decide.2 (by omega));rw [hb.out];obtain ⟨ga,gc,rfl,hga,hba⟩:=GI.enter ((D:Nat):Int) h;have K:=ι hba;have G0:=ι hga;clear h hga hba hz
 go_enter Tryz.func93,Tryz.ntmps93
 go_upto_region 0 with (fail);refine wp_region_list ?_;refine Rg.lr 1 (Rg.exec_box _ _ rfl rfl) ?_;go_frame;refine Rg.la 2 (.bool false) ?_;go_frame;generalize w.alloc (.cells #[.int .i64 ((D:Nat):Int),.slice ga (gs.map Ma.ofN).length gc] 24)=w0 at *;go_upto_region 1 with (fail);refine wp_region_list ?_;refine Rg.lr 6 (Rg.exec_load (v:=.agg #[.int .i64 ((D:Nat):Int),.slice ga (gs.map Ma.ofN).length gc]) _ _ rfl ⟨w.heap.size,0,none⟩ rfl (run_loadG G0.out.c0 G0.out.c1)) ?_;go_frame;refine list_ask (some 7) rfl rfl _ _ (exec_fn 175 _ _ _ rfl rfl rfl (Jbcl0 _ _)) ?_;refine (refOrbit_any _ ((D:Nat):Int) (gs.map Ma.ofN) (((0:Nat):Nat):Int) w0 G0.out.rows).mono ?_;rintro e1 w1 ⟨ov,rfl,how,hb⟩;rw [HOR.out] at how ⊢;obtain ⟨oa,oc,hsh,-⟩:=how.shape;rw [asc_length,Ma.len_ofN,len_pts,ht.out] at hsh;subst hsh;clear how;refine ⟨_,rfl,?_⟩;go_frame;replace G0:=ι (G0.out.below hb)
 replace K:=ι (Rg.acc K.out hb);clear hb;refine Rg.lm 5 (.tuple #[.slice oa t oc,.int .i64 ((0:Nat):Int)]) ?_;go_frame;refine Rg.lr 8 (exec_extract (v:=.slice oa t oc) _ _ rfl rfl rfl) ?_;go_frame;refine Rg.lr 9 (exec_extract (v:=.int .i64 ((0:Nat):Int)) _ _ rfl rfl rfl) ?_;go_frame;refine Rg.la 3 (.slice oa t oc) ?_;go_frame;refine Rg.la 4 (.int .i64 ((0:Nat):Int)) ?_;go_frame;go_upto_region 2 with (fail);refine wp_region_list ?_;refine Rg.lm 10 (.slice oa t oc) ?_;go_frame;refine Rg.lr 11 (exec_len _ _ _ rfl Tryz.underlying36 _ _ _ rfl) ?_;go_frame;refine Rg.lr 12 (exec_fieldG0 _ rfl rfl) ?_;go_frame;refine Rg.lr 13 (Rg.exec_load (v:=.int .i64 ((D:Nat):Int)) _ _ rfl ⟨w.heap.size,0,none⟩ rfl (run_loadInt G0.out.c0)) ?_;go_frame;refine Rg.lr 14 (exec_bin (R:=.bool b) .eql _ _ _ rfl rfl rfl (b_eql _ HB.out)) ?_;go_frame;refine Rg.la 2 (.bool b) ?_;go_frame;go_wp2
 go_ret;exact ⟨rfl,K.out⟩
theorem rOf_gs {N:Nat} {gs:List (List Nat)} (hg:Ma.gchk ((N:Nat):Int) (gs.map Ma.ofN)=0) {gv:Value} {w:World} (h:Rg.Rows w gv (gs.map Ma.ofN)) :
  Calls Tryz.prog 67 #[.agg #[.int .i64 ((N:Nat):Int),gv]] w fun e w'=>∃ ov rv O R,e=.returned (.tuple #[.agg #[.int .i64 ((N:Nat):Int),ov,rv],.int .i64 0])∧ChEqR w' ov rv (O.map Ma.ofN) (R.map (List.map Ma.ofN))∧Cm.IsChain N (Cm.Gr N (·∈gs)) O R∧Below w.heap.size w w':=by
 refine (rOf_any gv _ _ w h).mono ?_;rintro e w' ⟨cv,rfl,hc,hb⟩;rw [hg] at hc ⊢
 rcases hc with ⟨h0,_⟩ | ⟨_,n,gs',h1,h2,_,_,ov,rv,O,R,rfl,h3,h4,h5⟩
 ·exact absurd rfl h0
 ·obtain rfl:N=n:=by omega
  have:=map_ofN_inj h2;subst this;exact ⟨ov,rv,O,R,rfl,⟨h3,h4⟩,h5,hb⟩
theorem refTransitivity_any (gv:Value) (d:Int) (ll:List (List Int)) (w:World) (h:Rg.Rows w gv ll) :
  Calls Tryz.prog 21 #[.agg #[.int .i64 d,gv]] w (TvPost d ll w):=by
 obtain ⟨ga,gc,rfl,hga,hba⟩:=GI.enter (d) h;have K:=ι hba;have G0:=ι hga;clear h hga hba;obtain ⟨ck,hck⟩:∃ c,Hid (Ma.gchk d ll=c):=⟨_,ι rfl⟩
 go_enter Tryz.func21,Tryz.ntmps21
 go_upto_region 0 with (fail);refine wp_region_list ?_;refine Rg.lr 1 (Rg.exec_box _ _ rfl rfl) ?_;go_frame;refine Rg.la 2 (.int .i64 0) ?_;go_frame;refine Rg.la 3 (.int .i64 0) ?_;go_frame;obtain ⟨gb,hgb⟩:∃ gb,w.heap.size=gb:=⟨_,rfl⟩;rw [hgb] at G0 ⊢;clear hgb;generalize w.alloc (.cells #[.int .i64 d,.slice ga ll.length gc] 24)=w0 at *;go_upto_region 1 with (fail);refine wp_region_list ?_;refine Rg.lr 8 (Rg.exec_load (v:=.agg #[.int .i64 d,.slice ga ll.length gc]) _ _ rfl ⟨gb,0,none⟩ rfl (run_loadG G0.out.c0 G0.out.c1)) ?_;go_frame;refine list_ask (some 9) rfl rfl _ _ (exec_fn1 92 _ _ rfl rfl (Wqcl0 _ _)) ?_;refine (ref07Check_any _ d ll w0 G0.out.rows).mono ?_;rintro e1 w1 ⟨rfl,hb⟩;rw [hck.out];refine ⟨_,rfl,?_⟩;go_frame;replace G0:=ι (G0.out.below hb);replace K:=ι (Rg.acc K.out hb);clear hb;refine Rg.la 4 (.int .i64 ck) ?_;go_frame
 by_cases h0:ck=0
 case neg =>
  skip
  go_upto_region 2 with (fail);refine wp_region_list ?_;refine Rg.lm 10 (.int .i64 ck) ?_;go_frame;refine Rg.lr 11 (exec_bin (R:=.bool true) .neq _ _ _ rfl rfl rfl (b_neqB _ (decide_eq_true h0))) ?_;go_frame;go_upto_region 3 with (fail);refine wp_region_list ?_;refine Rg.lm 12 (.int .i64 ck) ?_;go_frame;refine Rg.la 2 (.int .i64 ((0:Nat):Int)) ?_;go_frame;refine Rg.la 3 (.int .i64 ck) ?_;go_frame;go_wp2
  go_ret2
  exact ⟨K.out,.inl ⟨by rw [hck.out]; exact h0,by rw [hck.out]; rfl⟩⟩
 case pos =>
  have HZ:=ι (hck.out.trans h0);go_upto_region 2 with (fail);refine wp_region_list ?_;refine Rg.lm 10 (.int .i64 ck) ?_;go_frame;refine Rg.lr 11 (exec_bin (R:=.bool false) .neq _ _ _ rfl rfl rfl (b_neqB _ (decide_eq_false (fun e=>e h0)))) ?_;go_frame;obtain ⟨D,gs,hD,hgs,hgg,hD1,hD2,hgl⟩:=gchk_ok HZ.out;subst hD hgs;clear hgg h0 hck;go_upto_region 4 with (fail);refine wp_region_list ?_;refine Rg.lr 14 (Rg.exec_load (v:=.agg #[.int .i64 ((D:Nat):Int),.slice ga (gs.map Ma.ofN).length gc]) _ _ rfl ⟨gb,0,none⟩ rfl (run_loadG G0.out.c0 G0.out.c1)) ?_;go_frame;refine list_ask (some 15) rfl rfl _ _ (exec_fn1 67 _ _ rfl rfl (Jbcl2 _ _)) ?_;refine (rOf_gs HZ.out G0.out.rows).mono ?_;rintro e1 w2 ⟨ov,rv,O,R,rfl,hce,hci,hb⟩;obtain ⟨oa,oc,rfl,_⟩:=hce.1.shape;obtain ⟨ra,rc,rfl⟩:=hce.2.shape;obtain ⟨rn,hrn⟩:∃ n,(R.map (List.map Ma.ofN)).length=n:=⟨_,rfl⟩
  obtain ⟨on,hon⟩:∃ n,Hid ((O.map Ma.ofN).length=n):=⟨_,ι rfl⟩;rw [hrn,hon.out] at hce ⊢;have HCI:=ι hci;clear hci hrn;refine ⟨_,rfl,?_⟩;go_frame;replace G0:=ι (G0.out.below hb);replace K:=ι (Rg.acc K.out hb);clear hb;have E1:=ι hce;refine Rg.lm 13 (.tuple #[(.agg #[.int .i64 ((D:Nat):Int),.slice oa on oc,.slice ra rn rc]),.int .i64 0]) ?_;go_frame;refine Rg.lr 16 (exec_extract (v:=(.agg #[.int .i64 ((D:Nat):Int),.slice oa on oc,.slice ra rn rc])) _ _ rfl rfl rfl) ?_;go_frame;refine Rg.lr 17 (exec_extract (v:=.int .i64 0) _ _ rfl rfl rfl) ?_;go_frame;refine Rg.lr 5 (exec_allocC rfl) ?_;go_frame;refine Rg.list_skip none rfl rfl (Rg.exec_store _ _ _ rfl _ rfl _ rfl (run_storeC _ _ _ _ _ _ _ (Tri.new w2 (.int .i64 0) (.slice none 0 0) (.slice none 0 0)))) ?_;go_frame;have htn:=(Tri.new w2 (.int .i64 0) (.slice none 0 0) (.slice none 0 0)).set (.int .i64 ((D:Nat):Int)) (.slice oa on oc) (.slice ra rn rc)
  have hb:=((((Below.refl w2.heap.size w2).alloc (Nat.le_refl _) (.cells #[.int .i64 0,.slice none 0 0,.slice none 0 0] 54)).setCell (p:=⟨w2.heap.size,0,none⟩) (Nat.le_refl _) (.int .i64 ((D:Nat):Int))).setCell (p:=⟨w2.heap.size,1,none⟩) (Nat.le_refl _) (.slice oa on oc)).setCell (p:=⟨w2.heap.size,2,none⟩) (Nat.le_refl _) (.slice ra rn rc);generalize (((w2.alloc (.cells #[.int .i64 0,.slice none 0 0,.slice none 0 0] 54)).setCell ⟨w2.heap.size,0,none⟩ (.int .i64 ((D:Nat):Int))).setCell ⟨w2.heap.size,1,none⟩ (.slice oa on oc)).setCell ⟨w2.heap.size,2,none⟩ (.slice ra rn rc)=w3 at *;replace G0:=ι (G0.out.below hb);replace E1:=ι (E1.out.below hb);replace K:=ι (Rg.acc K.out hb);clear hb;have T1:=ι htn;clear htn;refine Rg.la 6 (.int .i64 0) ?_;go_frame;clear hce;go_upto_region 5 with (fail);refine wp_region_list ?_;refine Rg.la 7 (.int .i64 ((0:Nat):Int)) ?_;go_frame
  obtain ⟨cb,hcb⟩:∃ b,w2.heap.size=b:=⟨_,rfl⟩;rw [hcb] at T1 ⊢;clear hcb;have HOL:=ι HCI.out.lenO
  have hon2:on=D:=by rw [← hon.out,List.length_map]; exact HOL.out
  subst hon2
  obtain ⟨ob,oo,rfl,hor⟩:∃ b o,oa=some ⟨b,o,none⟩∧∀ k,k<on→∃ ua uc,CL w3 b (o+k) (.slice ua (O.getD k []).length uc):=by
   obtain ⟨oa',oc',hsh,-,-,-,har⟩:=E1.out.1.shape;simp only [Value.slice.injEq] at hsh;obtain ⟨rfl,-,rfl⟩:=hsh;obtain ⟨bb,o,e,hbb,hx⟩:=har (by rw [hon.out]; omega);refine ⟨bb,o,e,fun k hk=>?_⟩;obtain ⟨u,h1,h2⟩:=hx k (by rw [hon.out]; exact hk)
   have hk2:k<O.length:=by rw [HOL.out]; exact hk
   rw [List.getElem_map] at h2;obtain ⟨ua,uc,rfl,-⟩:=Rg.NP.shape (show Rg.NP _ u O[k] from h2);refine ⟨ua,uc,?_,hbb⟩;rw [List.getD_eq_getElem?_getD,List.getElem?_eq_getElem hk2,Option.getD_some];exact h1
  have HOR:=ι hor;have HWB:=ι K.out;have GB:=ι G0.out;have TB:=ι T1.out;have KK:=ι (Below.refl w3.heap.size w3);have AL:=ι (show ∀ i,i<0→(O.getD i []).length=on - i from fun i hi=>absurd hi (Nat.not_lt_zero _));clear hor K G0 T1 E1;go_wp2
  go_loopw [7] (fun kv wr=>∃ k:Nat,kv=.int .i64 ((k:Nat):Int)∧k≤on∧Hid (∀ i,i<k→(O.getD i []).length=on - i)∧Hid (Below w3.heap.size w3 wr)) (fun kv _=>on - (intOf kv).toNat)
  case atStart=>exact ⟨0,rfl,Nat.zero_le _,AL,KK⟩
  case round =>
   clear AL KK;obtain ⟨k,rfl,hk,AL,KK⟩:=hrel;generalize wr=wd at *;have G0:=ι (GB.out.below KK.out);have T1:=ι (TB.out.below KK.out)
   by_cases hkD:k<on
   case neg =>
    have hkD2:k=on:=by omega
    go_upto_region 6 with (fail);have hV0:Below wd.heap.size wd wd.drew:=(Below.refl _ _).drew;replace G0:=ι (G0.out.below hV0);replace T1:=ι (T1.out.below hV0);replace KK:=ι (Rg.acc KK.out hV0);clear hV0;refine Rg.Any.begin (S:=Rg.Both 16 (fun _=>True) (fun W=>Below wd.drew.heap.size wd.drew W)) mix ?_;generalize wd.drew=w41 at *;have hS:∀ (l:Array Bool) W,Below w41.heap.size w41 W→Rg.Both 16 (fun _=>True) (fun W=>Below w41.heap.size w41 W) l W:=fun l W h=>⟨.inr trivial,h⟩;have hI:Below w41.heap.size w41 w41:=Below.refl _ _;refine Rg.tm 0 16 (.int .i64 ((k:Nat):Int)) 18 (hS _ _ hI) ?_;go_frame;refine Rg.tg 1 16 (.pointer (some ⟨gb,0,none⟩)) 19 rfl rfl (.inl ⟨rfl,fun w _=>exec_fieldG0 _ rfl rfl⟩) (hS _ _ hI) ?_;go_frame;refine Rg.tg 2 16 (.int .i64 ((on:Nat):Int)) 20 rfl rfl (Rg.yields_cell _ _ rfl rfl ⟨gb,0,none⟩ rfl (fun W hW=>run_loadInt ((Below.cell (p:=⟨gb,0,none⟩) hW G0.out.lt).trans G0.out.c0))) (hS _ _ hI) ?_;go_frame
    refine Rg.tg 3 16 (.bool false) 21 rfl rfl (.inl ⟨rfl,fun w _=>exec_bin (R:=.bool false) .lss _ _ _ rfl rfl rfl (b_lss _ (decide_eq_false (by omega)))⟩) (hS _ _ hI) ?_;go_frame;refine Rg.tm 4 16 (.bool false) 22 (hS _ _ hI) ?_;go_frame;refine Rg.tg 5 16 (undef) 23 rfl rfl (.inr ⟨rfl,rfl⟩) (hS _ _ hI) ?_;go_frame;refine Rg.tg 6 16 (undef) 24 rfl rfl (.inr ⟨rfl,rfl⟩) (hS _ _ hI) ?_;go_frame;refine Rg.tg 7 16 (undef) 25 rfl rfl (.inr ⟨rfl,rfl⟩) (hS _ _ hI) ?_;go_frame;refine Rg.tg 8 16 (undef) 26 rfl rfl (.inr ⟨rfl,rfl⟩) (hS _ _ hI) ?_;go_frame;refine Rg.tg 9 16 (undef) 27 rfl rfl (.inr ⟨rfl,rfl⟩) (hS _ _ hI) ?_;go_frame;refine Rg.tg 10 16 (undef) 28 rfl rfl (.inr ⟨rfl,rfl⟩) (hS _ _ hI) ?_;go_frame;refine Rg.tg 11 16 (undef) 29 rfl rfl (.inr ⟨rfl,rfl⟩) (hS _ _ hI) ?_;go_frame;refine Rg.tg 12 16 (undef) 30 rfl rfl (.inr ⟨rfl,rfl⟩) (hS _ _ hI) ?_;go_frame;refine Rg.tg 13 16 (undef) 31 rfl rfl (.inr ⟨rfl,rfl⟩) (hS _ _ hI) ?_;go_frame
    refine Rg.tg 14 16 (undef) 32 rfl rfl (.inr ⟨rfl,rfl⟩) (hS _ _ hI) ?_;go_frame;refine Rg.tg 15 16 (undef) 33 rfl rfl (.inr ⟨rfl,rfl⟩) (hS _ _ hI) ?_;go_frame;refine Rg.Any.one (i:=16) (by kernel_rfl) (Rg.Any.run (some 34) rfl rfl rfl (exec_pickF (v:=.bool false) _ _ _ rfl rfl rfl) (hS _ _ hI) ?_);go_frame;refine Rg.Any.done (by kernel_rfl) ?_ _;clear hS hI;go_upto_region 8 with (fail);refine wp_region_list ?_;refine Rg.lm 37 (.int .i64 ((k:Nat):Int)) ?_;go_frame;refine Rg.la 2 (.int .i64 ((k:Nat):Int)) ?_;go_frame;refine Rg.la 3 (.int .i64 ((0:Nat):Int)) ?_;go_frame;go_wp2
    go_ret2
    exact ⟨Rg.acc HWB.out KK.out,.inr ⟨HZ.out,on,gs,k,O,R,rfl,rfl,rfl,HCI.out,hk,AL.out,.inl hkD2⟩⟩
   case pos =>
    obtain ⟨ua,uc,hcu⟩:=HOR.out k hkD;obtain ⟨m,hm⟩:∃ n,Hid ((O.getD k []).length=n):=⟨_,ι rfl⟩;rw [hm.out] at hcu;have CU:=ι (hcu.up KK.out);have HKD:=ι hkD;clear hcu
    by_cases hmk:m=on - k
    case pos =>
     have AL2:=ι (show ∀ i,i<k+1→(O.getD i []).length=on - i from fun i hi=>by
      by_cases e:i=k
      ·rw [e,hm.out]; exact hmk
      ·exact AL.out i (by omega))
     go_upto_region 6 with (fail);have hV0:Below wd.heap.size wd wd.drew:=(Below.refl _ _).drew;replace G0:=ι (G0.out.below hV0);replace T1:=ι (T1.out.below hV0);replace CU:=ι (CU.out.below hV0);replace KK:=ι (Rg.acc KK.out hV0);clear hV0;refine Rg.Any.begin (S:=Rg.Both 16 (fun _=>True) (fun W=>Below wd.drew.heap.size wd.drew W)) mix ?_;generalize wd.drew=w61 at *;have hS:∀ (l:Array Bool) W,Below w61.heap.size w61 W→Rg.Both 16 (fun _=>True) (fun W=>Below w61.heap.size w61 W) l W:=fun l W h=>⟨.inr trivial,h⟩;have hI:Below w61.heap.size w61 w61:=Below.refl _ _;refine Rg.tm 0 16 (.int .i64 ((k:Nat):Int)) 18 (hS _ _ hI) ?_;go_frame;refine Rg.tg 1 16 (.pointer (some ⟨gb,0,none⟩)) 19 rfl rfl (.inl ⟨rfl,fun w _=>exec_fieldG0 _ rfl rfl⟩) (hS _ _ hI) ?_;go_frame;refine Rg.tg 2 16 (.int .i64 ((on:Nat):Int)) 20 rfl rfl (Rg.yields_cell _ _ rfl rfl ⟨gb,0,none⟩ rfl (fun W hW=>run_loadInt ((Below.cell (p:=⟨gb,0,none⟩) hW G0.out.lt).trans G0.out.c0))) (hS _ _ hI) ?_;go_frame
     refine Rg.tg 3 16 (.bool true) 21 rfl rfl (.inl ⟨rfl,fun w _=>exec_bin (R:=.bool true) .lss _ _ _ rfl rfl rfl (b_lss _ (decide_eq_true (by omega)))⟩) (hS _ _ hI) ?_;go_frame;refine Rg.tm 4 16 (.bool true) 22 (hS _ _ hI) ?_;go_frame;refine Rg.tg 5 16 (.pointer (some ⟨cb,1,none⟩)) 23 rfl rfl (.inl ⟨rfl,fun w _=>exec_field _ rfl rfl (chF1 _ _)⟩) (hS _ _ hI) ?_;go_frame;refine Rg.tg 6 16 (.slice (some ⟨ob,oo,none⟩) on oc) 24 rfl rfl (Rg.yields_cell _ _ rfl rfl ⟨cb,1,none⟩ rfl (fun W hW=>Rg.run_loadSl _ _ Tryz.underlying27 ((Below.cell (p:=⟨cb,1,none⟩) hW T1.out.lt).trans T1.out.c1))) (hS _ _ hI) ?_;go_frame;refine Rg.tm 7 16 (.int .i64 ((k:Nat):Int)) 25 (hS _ _ hI) ?_;go_frame;refine Rg.tg 8 16 (.pointer (some ⟨ob,oo+k,none⟩)) 26 rfl rfl (Rg.yields_index slIntss _ _ rfl rfl ob (oo) (on) oc (k) rfl rfl hkD) (hS _ _ hI) ?_;go_frame;refine Rg.tg 9 16 (.slice ua m uc) 27 rfl rfl (Rg.yields_cell _ _ rfl rfl ⟨ob,oo+k,none⟩ rfl (fun W hW=>Rg.run_loadSl _ _ Tryz.underlying36 ((Below.cell (p:=⟨ob,oo+k,none⟩) hW CU.out.lt).trans CU.out.cell))) (hS _ _ hI) ?_;go_frame
     refine Rg.tg 10 16 (.int .i64 ((m:Nat):Int)) 28 rfl rfl (.inl ⟨rfl,fun w _=>exec_len _ _ _ rfl Tryz.underlying36 _ _ _ rfl⟩) (hS _ _ hI) ?_;go_frame;refine Rg.tg 11 16 (.pointer (some ⟨gb,0,none⟩)) 29 rfl rfl (.inl ⟨rfl,fun w _=>exec_fieldG0 _ rfl rfl⟩) (hS _ _ hI) ?_;go_frame;refine Rg.tg 12 16 (.int .i64 ((on:Nat):Int)) 30 rfl rfl (Rg.yields_cell _ _ rfl rfl ⟨gb,0,none⟩ rfl (fun W hW=>run_loadInt ((Below.cell (p:=⟨gb,0,none⟩) hW G0.out.lt).trans G0.out.c0))) (hS _ _ hI) ?_;go_frame;refine Rg.tm 13 16 (.int .i64 ((k:Nat):Int)) 31 (hS _ _ hI) ?_;go_frame;refine Rg.tg 14 16 (.int .i64 ((on:Int) - (k:Int))) 32 rfl rfl (.inl ⟨rfl,fun w _=>exec_bin (R:=.int .i64 ((on:Int) - (k:Int))) .sub _ _ _ rfl rfl rfl (b_sub _ (by omega) (by omega))⟩) (hS _ _ hI) ?_;go_frame;refine Rg.tg 15 16 (.bool true) 33 rfl rfl (.inl ⟨rfl,fun w _=>exec_bin (R:=.bool true) .eql _ _ _ rfl rfl rfl (b_eql _ (decide_eq_true (by omega)))⟩) (hS _ _ hI) ?_;go_frame
     refine Rg.Any.one (i:=16) (by kernel_rfl) (Rg.Any.run (some 34) rfl rfl rfl (exec_pickT (v:=.bool true) _ _ _ rfl rfl rfl) (hS _ _ hI) ?_);go_frame;refine Rg.Any.done (by kernel_rfl) ?_ _;clear hS hI;go_upto_region 7 with (fail);refine wp_region_list ?_;refine Rg.lm 35 (.int .i64 ((k:Nat):Int)) ?_;go_frame;refine Rg.lr 36 (exec_bin (R:=.int .i64 (((k+1):Nat):Int)) .add _ _ _ rfl rfl rfl (b_add _ (by omega) (by omega))) ?_;go_frame;refine Rg.la 7 (.int .i64 (((k+1):Nat):Int)) ?_;go_frame;go_wp2
     go_roundw
     case rel=>exact ⟨k+1,by go_num,HKD.out,AL2,KK⟩
     case measure=>simp [intOf]; have:=HKD.out; omega
    case neg =>
     skip
     go_upto_region 6 with (fail);have hV0:Below wd.heap.size wd wd.drew:=(Below.refl _ _).drew;replace G0:=ι (G0.out.below hV0);replace T1:=ι (T1.out.below hV0);replace CU:=ι (CU.out.below hV0);replace KK:=ι (Rg.acc KK.out hV0);clear hV0;refine Rg.Any.begin (S:=Rg.Both 16 (fun _=>True) (fun W=>Below wd.drew.heap.size wd.drew W)) mix ?_;generalize wd.drew=w81 at *;have hS:∀ (l:Array Bool) W,Below w81.heap.size w81 W→Rg.Both 16 (fun _=>True) (fun W=>Below w81.heap.size w81 W) l W:=fun l W h=>⟨.inr trivial,h⟩;have hI:Below w81.heap.size w81 w81:=Below.refl _ _;refine Rg.tm 0 16 (.int .i64 ((k:Nat):Int)) 18 (hS _ _ hI) ?_;go_frame;refine Rg.tg 1 16 (.pointer (some ⟨gb,0,none⟩)) 19 rfl rfl (.inl ⟨rfl,fun w _=>exec_fieldG0 _ rfl rfl⟩) (hS _ _ hI) ?_;go_frame;refine Rg.tg 2 16 (.int .i64 ((on:Nat):Int)) 20 rfl rfl (Rg.yields_cell _ _ rfl rfl ⟨gb,0,none⟩ rfl (fun W hW=>run_loadInt ((Below.cell (p:=⟨gb,0,none⟩) hW G0.out.lt).trans G0.out.c0))) (hS _ _ hI) ?_;go_frame
     refine Rg.tg 3 16 (.bool true) 21 rfl rfl (.inl ⟨rfl,fun w _=>exec_bin (R:=.bool true) .lss _ _ _ rfl rfl rfl (b_lss _ (decide_eq_true (by omega)))⟩) (hS _ _ hI) ?_;go_frame;refine Rg.tm 4 16 (.bool true) 22 (hS _ _ hI) ?_;go_frame;refine Rg.tg 5 16 (.pointer (some ⟨cb,1,none⟩)) 23 rfl rfl (.inl ⟨rfl,fun w _=>exec_field _ rfl rfl (chF1 _ _)⟩) (hS _ _ hI) ?_;go_frame;refine Rg.tg 6 16 (.slice (some ⟨ob,oo,none⟩) on oc) 24 rfl rfl (Rg.yields_cell _ _ rfl rfl ⟨cb,1,none⟩ rfl (fun W hW=>Rg.run_loadSl _ _ Tryz.underlying27 ((Below.cell (p:=⟨cb,1,none⟩) hW T1.out.lt).trans T1.out.c1))) (hS _ _ hI) ?_;go_frame;refine Rg.tm 7 16 (.int .i64 ((k:Nat):Int)) 25 (hS _ _ hI) ?_;go_frame;refine Rg.tg 8 16 (.pointer (some ⟨ob,oo+k,none⟩)) 26 rfl rfl (Rg.yields_index slIntss _ _ rfl rfl ob (oo) (on) oc (k) rfl rfl hkD) (hS _ _ hI) ?_;go_frame;refine Rg.tg 9 16 (.slice ua m uc) 27 rfl rfl (Rg.yields_cell _ _ rfl rfl ⟨ob,oo+k,none⟩ rfl (fun W hW=>Rg.run_loadSl _ _ Tryz.underlying36 ((Below.cell (p:=⟨ob,oo+k,none⟩) hW CU.out.lt).trans CU.out.cell))) (hS _ _ hI) ?_;go_frame
     refine Rg.tg 10 16 (.int .i64 ((m:Nat):Int)) 28 rfl rfl (.inl ⟨rfl,fun w _=>exec_len _ _ _ rfl Tryz.underlying36 _ _ _ rfl⟩) (hS _ _ hI) ?_;go_frame;refine Rg.tg 11 16 (.pointer (some ⟨gb,0,none⟩)) 29 rfl rfl (.inl ⟨rfl,fun w _=>exec_fieldG0 _ rfl rfl⟩) (hS _ _ hI) ?_;go_frame;refine Rg.tg 12 16 (.int .i64 ((on:Nat):Int)) 30 rfl rfl (Rg.yields_cell _ _ rfl rfl ⟨gb,0,none⟩ rfl (fun W hW=>run_loadInt ((Below.cell (p:=⟨gb,0,none⟩) hW G0.out.lt).trans G0.out.c0))) (hS _ _ hI) ?_;go_frame;refine Rg.tm 13 16 (.int .i64 ((k:Nat):Int)) 31 (hS _ _ hI) ?_;go_frame;refine Rg.tg 14 16 (.int .i64 ((on:Int) - (k:Int))) 32 rfl rfl (.inl ⟨rfl,fun w _=>exec_bin (R:=.int .i64 ((on:Int) - (k:Int))) .sub _ _ _ rfl rfl rfl (b_sub _ (by omega) (by omega))⟩) (hS _ _ hI) ?_;go_frame;refine Rg.tg 15 16 (.bool false) 33 rfl rfl (.inl ⟨rfl,fun w _=>exec_bin (R:=.bool false) .eql _ _ _ rfl rfl rfl (b_eql _ (decide_eq_false (by omega)))⟩) (hS _ _ hI) ?_;go_frame
     refine Rg.Any.one (i:=16) (by kernel_rfl) (Rg.Any.run (some 34) rfl rfl rfl (exec_pickT (v:=.bool false) _ _ _ rfl rfl rfl) (hS _ _ hI) ?_);go_frame;refine Rg.Any.done (by kernel_rfl) ?_ _;clear hS hI;go_upto_region 8 with (fail);refine wp_region_list ?_;refine Rg.lm 37 (.int .i64 ((k:Nat):Int)) ?_;go_frame;refine Rg.la 2 (.int .i64 ((k:Nat):Int)) ?_;go_frame;refine Rg.la 3 (.int .i64 ((0:Nat):Int)) ?_;go_frame;go_wp2
     go_ret2
     exact ⟨Rg.acc HWB.out KK.out,.inr ⟨HZ.out,on,gs,k,O,R,rfl,rfl,rfl,HCI.out,hk,AL.out,.inr (by rw [hm.out]; exact hmk)⟩⟩

theorem Jccl1 (args:Array Value) (w:World):(callFunc 93 args).run Tryz.prog w=.ok (.enter 93 args) w:=by kernel_rfl
theorem Jccl2 (args:Array Value) (w:World):(callFunc 96 args).run Tryz.prog w=.ok (.enter 96 args) w:=by kernel_rfl
theorem less12_any (v1 v2:Value) (l1 l2:List Int) (w:World) (h1:Rg.Ints w v1 l1) (h2:Rg.Ints w v2 l2) (hl:l1.length=l2.length) :
  Calls Tryz.prog 257 #[v1,v2] w fun e w'=>e=.returned (.bool (lessL l1 l2))∧Below w.heap.size w w':=by
 obtain ⟨aa,ac,rfl,-,-,-,hax⟩:=h1.shape;obtain ⟨ba,bc,rfl,-,-,-,hbx⟩:=h2.shape;have HA:=ι hax;have HB:=ι hbx;have HL:=ι hl
 have hlA:(l1.length:Int)≤1000000000:=by have:=h1.shape; obtain ⟨_,_,_,_,h9,_⟩:=this; omega
 clear h1 h2 hax hbx hl
 go_enter Tryz.func257,Tryz.ntmps257
 go_wp2
 go_loopw [5] (fun iv wr=>∃ k:Nat,iv=.int .i64 k∧k≤l1.length∧Hid (∀ j (h:j<l1.length) (h2:j<l2.length),j<k→l1[j]=l2[j])∧Hid (Below w.heap.size w wr)) (fun iv _=>l1.length - (intOf iv).toNat)
 case atStart=>exact ⟨0,rfl,Nat.zero_le _,fun j h h2 h3=>by omega,Below.refl _ _⟩
 case round =>
  obtain ⟨k,rfl,hk,HE,K⟩:=hrel
  by_cases hkl:k<l1.length
  case neg =>
   have hkN:¬ ((k:Nat):Int)<(l1.length:Int):=by omega
   go_upto_region 2 with (fail);refine wp_region_list ?_;refine Rg.lm 6 (.int .i64 ((k:Nat):Int)) ?_;go_frame;refine Rg.lm 7 (.slice aa l1.length ac) ?_;go_frame;refine Rg.lr 8 (exec_len _ _ _ rfl Tryz.underlying36 _ _ _ rfl) ?_;go_frame;refine Rg.lr 9 (exec_bin (R:=.bool false) .lss _ _ _ rfl rfl rfl (b_lss _ (decide_eq_false hkN))) ?_;go_frame;go_upto_region 6 with (fail);refine wp_region_list ?_;refine Rg.la 4 (.bool false) ?_;go_frame;go_wp2;go_ret;exact ⟨Rg.ret_bool (by rw [lessL_same HE.out hk (by have:=HL.out; omega),lessL_end (by omega) hk (by have:=HL.out; omega)]; exact (decide_eq_false (by have:=HL.out; omega)).symm),K.out⟩
  case pos =>
   have hkN:((k:Nat):Int)<(l1.length:Int):=by omega
   have hkl2:k<l2.length:=by have:=HL.out; omega
   obtain ⟨ab,ao,rfl,hab,hax⟩:=HA.out (by omega);obtain ⟨bb,bo,rfl,hbb,hbx⟩:=HB.out (by omega);obtain ⟨u,hu⟩:∃ x,Hid (l1[k]'hkl=x):=⟨_,ι rfl⟩;obtain ⟨v,hv⟩:∃ x,Hid (l2[k]'hkl2=x):=⟨_,ι rfl⟩;have C1:=ι (show w.cell? ⟨ab,ao+k,none⟩=some (.int .i64 u) by rw [← hu.out]; exact hax k hkl);have C2:=ι (show w.cell? ⟨bb,bo+k,none⟩=some (.int .i64 v) by rw [← hv.out]; exact hbx k hkl2);have HAB:=ι hab;have HBB:=ι hbb;clear hax hbx hab hbb;have HLS:=ι (show lessL l1 l2=if u=v then lessL (l1.drop (k+1)) (l2.drop (k+1)) else decide (u<v) by rw [lessL_same HE.out hk (by omega),lessL_drop hkl hkl2,hu.out,hv.out]);go_upto_region 2 with (fail);refine wp_region_list ?_;refine Rg.lm 6 (.int .i64 ((k:Nat):Int)) ?_;go_frame;refine Rg.lm 7 (.slice (some ⟨ab,ao,none⟩) l1.length ac) ?_;go_frame;refine Rg.lr 8 (exec_len _ _ _ rfl Tryz.underlying36 _ _ _ rfl) ?_;go_frame
   refine Rg.lr 9 (exec_bin (R:=.bool true) .lss _ _ _ rfl rfl rfl (b_lss _ (decide_eq_true hkN))) ?_;go_frame
   by_cases huv:u=v
   case pos =>
    skip
    go_upto_region 4 with (fail);have hV0:Below wr.heap.size wr wr.drew:=(Below.refl _ _).drew;replace K:=ι (Rg.acc K.out hV0);clear hV0;refine Rg.Any.begin (S:=Rg.Both 8 (fun _=>True) (fun W=>Below wr.drew.heap.size wr.drew W)) mix ?_;generalize wr.drew=w6 at *;have hS:∀ (l:Array Bool) W,Below w6.heap.size w6 W→Rg.Both 8 (fun _=>True) (fun W=>Below w6.heap.size w6 W) l W:=fun l W h=>⟨.inr trivial,h⟩;have hI:Below w6.heap.size w6 w6:=Below.refl _ _;refine Rg.tm 0 8 (.slice (some ⟨ab,ao,none⟩) l1.length ac) 12 (hS _ _ hI) ?_;go_frame;refine Rg.tm 1 8 (.int .i64 ((k:Nat):Int)) 13 (hS _ _ hI) ?_;go_frame;refine Rg.tg 2 8 (.pointer (some ⟨ab,ao+k,none⟩)) 14 rfl rfl (Rg.yields_index slInts _ _ rfl rfl ab (ao) (l1.length) ac (k) rfl rfl hkl) (hS _ _ hI) ?_;go_frame;refine Rg.tg 3 8 (.int .i64 u) 15 rfl rfl (Rg.yields_cell _ _ rfl rfl ⟨ab,ao+k,none⟩ rfl (fun W hW=>run_loadInt ((Below.cell (p:=⟨ab,ao+k,none⟩) hW (Nat.lt_of_lt_of_le HAB.out K.out.size)).trans ((K.out.cell (p:=⟨ab,ao+k,none⟩) HAB.out).trans C1.out)))) (hS _ _ hI) ?_;go_frame
    refine Rg.tm 4 8 (.slice (some ⟨bb,bo,none⟩) l2.length bc) 16 (hS _ _ hI) ?_;go_frame;refine Rg.tm 5 8 (.int .i64 ((k:Nat):Int)) 17 (hS _ _ hI) ?_;go_frame;refine Rg.tg 6 8 (.pointer (some ⟨bb,bo+k,none⟩)) 18 rfl rfl (Rg.yields_index slInts _ _ rfl rfl bb (bo) (l2.length) bc (k) rfl rfl hkl2) (hS _ _ hI) ?_;go_frame;refine Rg.tg 7 8 (.int .i64 v) 19 rfl rfl (Rg.yields_cell _ _ rfl rfl ⟨bb,bo+k,none⟩ rfl (fun W hW=>run_loadInt ((Below.cell (p:=⟨bb,bo+k,none⟩) hW (Nat.lt_of_lt_of_le HBB.out K.out.size)).trans ((K.out.cell (p:=⟨bb,bo+k,none⟩) HBB.out).trans C2.out)))) (hS _ _ hI) ?_;go_frame;refine Rg.Any.one (i:=8) (by kernel_rfl) (Rg.Any.run (some 20) rfl rfl rfl (exec_bin (R:=.bool false) .neq _ _ _ rfl rfl rfl (b_neqB _ (decide_eq_false (by simpa using huv)))) (hS _ _ hI) ?_);go_frame;refine Rg.Any.done (by kernel_rfl) ?_ _;clear hS hI;go_upto_region 3 with (fail)
    refine wp_region_list ?_;refine Rg.lm 10 (.int .i64 ((k:Nat):Int)) ?_;go_frame;refine Rg.lr 11 (exec_bin (R:=.int .i64 (((k+1):Nat):Int)) .add _ _ _ rfl rfl rfl (b_add _ (by omega) (by omega))) ?_;go_frame;refine Rg.la 5 (.int .i64 (((k+1):Nat):Int)) ?_;go_frame;go_wp2
    go_roundw
    case rel=>exact ⟨k+1,by go_num,hkl,ι fun j h h2 h3=>by
     by_cases e:j=k
     ·subst e; rw [hu.out,hv.out]; exact huv
     ·exact HE.out j h h2 (by omega),K⟩
    case measure=>simp [intOf]; omega
   case neg =>
    obtain ⟨bl,hbl⟩:∃ b,Hid (decide (u<v)=b):=⟨_,ι rfl⟩
    skip
    go_upto_region 4 with (fail);have hV0:Below wr.heap.size wr wr.drew:=(Below.refl _ _).drew;replace K:=ι (Rg.acc K.out hV0);clear hV0;refine Rg.Any.begin (S:=Rg.Both 8 (fun _=>True) (fun W=>Below wr.drew.heap.size wr.drew W)) mix ?_;generalize wr.drew=w6 at *;have hS:∀ (l:Array Bool) W,Below w6.heap.size w6 W→Rg.Both 8 (fun _=>True) (fun W=>Below w6.heap.size w6 W) l W:=fun l W h=>⟨.inr trivial,h⟩;have hI:Below w6.heap.size w6 w6:=Below.refl _ _;refine Rg.tm 0 8 (.slice (some ⟨ab,ao,none⟩) l1.length ac) 12 (hS _ _ hI) ?_;go_frame;refine Rg.tm 1 8 (.int .i64 ((k:Nat):Int)) 13 (hS _ _ hI) ?_;go_frame;refine Rg.tg 2 8 (.pointer (some ⟨ab,ao+k,none⟩)) 14 rfl rfl (Rg.yields_index slInts _ _ rfl rfl ab (ao) (l1.length) ac (k) rfl rfl hkl) (hS _ _ hI) ?_;go_frame;refine Rg.tg 3 8 (.int .i64 u) 15 rfl rfl (Rg.yields_cell _ _ rfl rfl ⟨ab,ao+k,none⟩ rfl (fun W hW=>run_loadInt ((Below.cell (p:=⟨ab,ao+k,none⟩) hW (Nat.lt_of_lt_of_le HAB.out K.out.size)).trans ((K.out.cell (p:=⟨ab,ao+k,none⟩) HAB.out).trans C1.out)))) (hS _ _ hI) ?_;go_frame
    refine Rg.tm 4 8 (.slice (some ⟨bb,bo,none⟩) l2.length bc) 16 (hS _ _ hI) ?_;go_frame;refine Rg.tm 5 8 (.int .i64 ((k:Nat):Int)) 17 (hS _ _ hI) ?_;go_frame;refine Rg.tg 6 8 (.pointer (some ⟨bb,bo+k,none⟩)) 18 rfl rfl (Rg.yields_index slInts _ _ rfl rfl bb (bo) (l2.length) bc (k) rfl rfl hkl2) (hS _ _ hI) ?_;go_frame;refine Rg.tg 7 8 (.int .i64 v) 19 rfl rfl (Rg.yields_cell _ _ rfl rfl ⟨bb,bo+k,none⟩ rfl (fun W hW=>run_loadInt ((Below.cell (p:=⟨bb,bo+k,none⟩) hW (Nat.lt_of_lt_of_le HBB.out K.out.size)).trans ((K.out.cell (p:=⟨bb,bo+k,none⟩) HBB.out).trans C2.out)))) (hS _ _ hI) ?_;go_frame;refine Rg.Any.one (i:=8) (by kernel_rfl) (Rg.Any.run (some 20) rfl rfl rfl (exec_bin (R:=.bool true) .neq _ _ _ rfl rfl rfl (b_neqB _ (decide_eq_true huv))) (hS _ _ hI) ?_);go_frame;refine Rg.Any.done (by kernel_rfl) ?_ _;clear hS hI;go_upto_region 5 with (fail);have hV0:Below w6.heap.size w6 w6.drew:=(Below.refl _ _).drew
    replace K:=ι (Rg.acc K.out hV0);clear hV0;refine Rg.Any.begin (S:=Rg.Both 9 (fun _=>True) (fun W=>Below w6.drew.heap.size w6.drew W)) mix ?_;generalize w6.drew=w7 at *;have hS:∀ (l:Array Bool) W,Below w7.heap.size w7 W→Rg.Both 9 (fun _=>True) (fun W=>Below w7.heap.size w7 W) l W:=fun l W h=>⟨.inr trivial,h⟩;have hI:Below w7.heap.size w7 w7:=Below.refl _ _;refine Rg.tm 0 9 (.slice (some ⟨ab,ao,none⟩) l1.length ac) 21 (hS _ _ hI) ?_;go_frame;refine Rg.tm 1 9 (.int .i64 ((k:Nat):Int)) 22 (hS _ _ hI) ?_;go_frame;refine Rg.tg 2 9 (.pointer (some ⟨ab,ao+k,none⟩)) 23 rfl rfl (Rg.yields_index slInts _ _ rfl rfl ab (ao) (l1.length) ac (k) rfl rfl hkl) (hS _ _ hI) ?_;go_frame;refine Rg.tg 3 9 (.int .i64 u) 24 rfl rfl (Rg.yields_cell _ _ rfl rfl ⟨ab,ao+k,none⟩ rfl (fun W hW=>run_loadInt ((Below.cell (p:=⟨ab,ao+k,none⟩) hW (Nat.lt_of_lt_of_le HAB.out K.out.size)).trans ((K.out.cell (p:=⟨ab,ao+k,none⟩) HAB.out).trans C1.out)))) (hS _ _ hI) ?_;go_frame
    refine Rg.tm 4 9 (.slice (some ⟨bb,bo,none⟩) l2.length bc) 25 (hS _ _ hI) ?_;go_frame;refine Rg.tm 5 9 (.int .i64 ((k:Nat):Int)) 26 (hS _ _ hI) ?_;go_frame;refine Rg.tg 6 9 (.pointer (some ⟨bb,bo+k,none⟩)) 27 rfl rfl (Rg.yields_index slInts _ _ rfl rfl bb (bo) (l2.length) bc (k) rfl rfl hkl2) (hS _ _ hI) ?_;go_frame;refine Rg.tg 7 9 (.int .i64 v) 28 rfl rfl (Rg.yields_cell _ _ rfl rfl ⟨bb,bo+k,none⟩ rfl (fun W hW=>run_loadInt ((Below.cell (p:=⟨bb,bo+k,none⟩) hW (Nat.lt_of_lt_of_le HBB.out K.out.size)).trans ((K.out.cell (p:=⟨bb,bo+k,none⟩) HBB.out).trans C2.out)))) (hS _ _ hI) ?_;go_frame;refine Rg.tg 8 9 (.bool bl) 29 rfl rfl (.inl ⟨rfl,fun w _=>exec_bin (R:=.bool bl) .lss _ _ _ rfl rfl rfl (b_lss _ hbl.out)⟩) (hS _ _ hI) ?_;go_frame;refine Rg.Any.one (i:=9) (by kernel_rfl) (Rg.Any.run (some 4) rfl rfl rfl (Rg.xa (.bool bl) _ rfl rfl) (hS _ _ hI) ?_)
    go_frame;refine Rg.Any.done (by kernel_rfl) ?_ _;clear hS hI;go_wp2;go_ret;exact ⟨Rg.ret_bool (by rw [HLS.out,if_neg huv]; exact hbl.out.symm),K.out⟩
theorem LsAns.get {w:World} {gs:List (List Nat)} {D A B:Nat} {v:Value} (h:LsAns w ((D:Nat):Int) (gs.map Ma.ofN) ((A:Nat):Int) ((B:Nat):Int) v) (hc:lsC ((D:Nat):Int) (gs.map Ma.ofN) ((A:Nat):Int) ((B:Nat):Int)=0):∃ M,Bk.IsLab D (Bk.BR gs.length (img gs) (Bk.onep A B)) M∧Rg.NP w v M:=by
 rcases h with ⟨h0,_⟩ | ⟨_,D',gs',A',B',M',e1,e2,e3,e4,_,_,_,_,_,k9,k10⟩
 ·exact absurd hc h0
 ·obtain rfl:D=D':=by omega
  obtain rfl:=map_ofN_inj e2
  obtain rfl:A=A':=by omega
  obtain rfl:B=B':=by omega
  exact ⟨M',k9,k10⟩
theorem refPrimitive_any (gv:Value) (d:Int) (ll:List (List Int)) (w:World) (h:Rg.Rows w gv ll) :
  Calls Tryz.prog 19 #[.agg #[.int .i64 d,gv]] w (PrPost d ll w):=by
 obtain ⟨ga,gc,rfl,hga,hba⟩:=GI.enter (d) h;have K:=ι hba;have G0:=ι hga;clear h hga hba;obtain ⟨ck,hck⟩:∃ c,Hid (Ma.gchk d ll=c):=⟨_,ι rfl⟩
 go_enter Tryz.func19,Tryz.ntmps19
 go_upto_region 0 with (fail);refine wp_region_list ?_;refine Rg.lr 1 (Rg.exec_box _ _ rfl rfl) ?_;go_frame;refine Rg.la 2 (.bool false) ?_;go_frame;refine Rg.la 3 (.int .i64 0) ?_;go_frame;obtain ⟨gb,hgb⟩:∃ gb,w.heap.size=gb:=⟨_,rfl⟩;rw [hgb] at G0 ⊢;clear hgb;generalize w.alloc (.cells #[.int .i64 d,.slice ga ll.length gc] 24)=w0 at *;go_upto_region 1 with (fail);refine wp_region_list ?_;refine Rg.lr 9 (Rg.exec_load (v:=.agg #[.int .i64 d,.slice ga ll.length gc]) _ _ rfl ⟨gb,0,none⟩ rfl (run_loadG G0.out.c0 G0.out.c1)) ?_;go_frame;refine list_ask (some 10) rfl rfl _ _ (exec_fn1 92 _ _ rfl rfl (Wqcl0 _ _)) ?_;refine (ref07Check_any _ d ll w0 G0.out.rows).mono ?_;rintro e1 w1 ⟨rfl,hb⟩;rw [hck.out];refine ⟨_,rfl,?_⟩;go_frame;replace G0:=ι (G0.out.below hb);replace K:=ι (Rg.acc K.out hb);clear hb;refine Rg.la 4 (.int .i64 ck) ?_;go_frame
 by_cases h0:ck=0
 case neg =>
  skip
  go_upto_region 2 with (fail);refine wp_region_list ?_;refine Rg.lm 11 (.int .i64 ck) ?_;go_frame;refine Rg.lr 12 (exec_bin (R:=.bool true) .neq _ _ _ rfl rfl rfl (b_neqB _ (decide_eq_true h0))) ?_;go_frame;go_upto_region 3 with (fail);refine wp_region_list ?_;refine Rg.lm 13 (.int .i64 ck) ?_;go_frame;refine Rg.la 2 (.bool false) ?_;go_frame;refine Rg.la 3 (.int .i64 ck) ?_;go_frame;go_wp2
  go_ret2
  exact ⟨K.out,.inl ⟨by rw [hck.out]; exact h0,by rw [hck.out]; rfl⟩⟩
 case pos =>
  have HZ:=ι (hck.out.trans h0);go_upto_region 2 with (fail);refine wp_region_list ?_;refine Rg.lm 11 (.int .i64 ck) ?_;go_frame;refine Rg.lr 12 (exec_bin (R:=.bool false) .neq _ _ _ rfl rfl rfl (b_neqB _ (decide_eq_false (fun e=>e h0)))) ?_;go_frame;clear h0;obtain ⟨D,gs,hD,hgs,hgg,hD1,hD2,hgl⟩:=gchk_ok HZ.out;subst hD hgs;have HGG:=ι hgg;clear hgg;obtain ⟨tb,htb⟩:∃ b,Hid (trn gs D=b):=⟨_,ι rfl⟩
  by_cases hD2':D<2
  case pos =>
   skip
   go_upto_region 4 with (fail);refine wp_region_list ?_;refine Rg.lr 14 (exec_fieldG0 _ rfl rfl) ?_;go_frame;refine Rg.lr 15 (Rg.exec_load (v:=.int .i64 ((D:Nat):Int)) _ _ rfl ⟨gb,0,none⟩ rfl (run_loadInt G0.out.c0)) ?_;go_frame;refine Rg.lr 16 (exec_bin (R:=.bool true) .lss _ _ _ rfl rfl rfl (b_lss _ (decide_eq_true (by omega)))) ?_;go_frame;refine Rg.lm 17 (.bool true) ?_;go_frame;refine listW_pass (some 18) (by kernel_rfl) rfl ?_;go_frame;refine listW_pass (some 19) (by kernel_rfl) rfl ?_;go_frame;refine listW_pass (some 20) (by kernel_rfl) rfl ?_;go_frame;refine Rg.lr 21 (exec_pickT (v:=.bool true) _ _ _ rfl rfl rfl) ?_;go_frame;go_upto_region 5 with (fail);refine wp_region_list ?_;refine Rg.la 2 (.bool false) ?_;go_frame;refine Rg.la 3 (.int .i64 ((0:Nat):Int)) ?_;go_frame;go_wp2
   go_ret2
   exact ⟨K.out,.inr ⟨HZ.out,D,gs,false,rfl,rfl,rfl,⟨fun h=>(Bool.false_ne_true h).elim,fun h=>by have:=h.1; omega⟩⟩⟩
  case neg =>
   cases tb
   case false =>
    skip
    go_upto_region 4 with (fail);refine wp_region_list ?_;refine Rg.lr 14 (exec_fieldG0 _ rfl rfl) ?_;go_frame;refine Rg.lr 15 (Rg.exec_load (v:=.int .i64 ((D:Nat):Int)) _ _ rfl ⟨gb,0,none⟩ rfl (run_loadInt G0.out.c0)) ?_;go_frame;refine Rg.lr 16 (exec_bin (R:=.bool false) .lss _ _ _ rfl rfl rfl (b_lss _ (decide_eq_false (by omega)))) ?_;go_frame;refine Rg.lm 17 (.bool false) ?_;go_frame;refine listW_run (some 18) rfl rfl (Rg.exec_load (v:=.agg #[.int .i64 ((D:Nat):Int),.slice ga (gs.map Ma.ofN).length gc]) _ _ rfl ⟨gb,0,none⟩ rfl (run_loadG G0.out.c0 G0.out.c1)) ?_;go_frame;refine listW_ask (some 19) rfl rfl _ _ (exec_fn1 93 _ _ rfl rfl (Jccl1 _ _)) ?_;refine (rtrans_any _ D gs w1 HZ.out G0.out.rows).mono ?_;rintro e1 w2 ⟨rfl,hb⟩;rw [htb.out];refine ⟨_,rfl,?_⟩;go_frame;replace G0:=ι (G0.out.below hb);replace K:=ι (Rg.acc K.out hb);clear hb;refine listW_run (some 20) rfl rfl (exec_not _ _ false rfl rfl) ?_;go_frame
    refine Rg.lr 21 (exec_pickF (v:=.bool true) _ _ _ rfl rfl rfl) ?_;go_frame;go_upto_region 5 with (fail);refine wp_region_list ?_;refine Rg.la 2 (.bool false) ?_;go_frame;refine Rg.la 3 (.int .i64 ((0:Nat):Int)) ?_;go_frame;go_wp2
    go_ret2
    exact ⟨K.out,.inr ⟨HZ.out,D,gs,false,rfl,rfl,rfl,⟨fun h=>(Bool.false_ne_true h).elim,fun h=>by have:=h.2.1; rw [htb.out] at this; exact this⟩⟩⟩
   case true =>
    skip
    go_upto_region 4 with (fail);refine wp_region_list ?_;refine Rg.lr 14 (exec_fieldG0 _ rfl rfl) ?_;go_frame;refine Rg.lr 15 (Rg.exec_load (v:=.int .i64 ((D:Nat):Int)) _ _ rfl ⟨gb,0,none⟩ rfl (run_loadInt G0.out.c0)) ?_;go_frame;refine Rg.lr 16 (exec_bin (R:=.bool false) .lss _ _ _ rfl rfl rfl (b_lss _ (decide_eq_false (by omega)))) ?_;go_frame;refine Rg.lm 17 (.bool false) ?_;go_frame;refine listW_run (some 18) rfl rfl (Rg.exec_load (v:=.agg #[.int .i64 ((D:Nat):Int),.slice ga (gs.map Ma.ofN).length gc]) _ _ rfl ⟨gb,0,none⟩ rfl (run_loadG G0.out.c0 G0.out.c1)) ?_;go_frame;refine listW_ask (some 19) rfl rfl _ _ (exec_fn1 93 _ _ rfl rfl (Jccl1 _ _)) ?_;refine (rtrans_any _ D gs w1 HZ.out G0.out.rows).mono ?_;rintro e1 w2 ⟨rfl,hb⟩;rw [htb.out];refine ⟨_,rfl,?_⟩;go_frame;replace G0:=ι (G0.out.below hb);replace K:=ι (Rg.acc K.out hb);clear hb;refine listW_run (some 20) rfl rfl (exec_not _ _ true rfl rfl) ?_;go_frame
    refine Rg.lr 21 (exec_pickF (v:=.bool false) _ _ _ rfl rfl rfl) ?_;go_frame;go_upto_region 6 with (fail);refine wp_region_list ?_;refine Rg.la 5 (.int .i64 ((1:Nat):Int)) ?_;go_frame;have HWB:=ι K.out;have GB:=ι G0.out;have KK:=ι (Below.refl w2.heap.size w2);have AL:=ι (show ∀ p,0<p→p≤0→∀ M,Bk.IsLab D (Bk.BR gs.length (img gs) (Bk.onep 0 p)) M→∀ x∈M,x=0 from fun p h1 h2=>by omega);clear G0 K;simp only [List.length_map,Bool.not_true];go_wp2
    go_loopw [5] (fun pv wr=>∃ k:Nat,pv=.int .i64 ((k+1:Nat):Int)∧k+1≤D∧Hid (∀ p,0<p→p≤k→∀ M,Bk.IsLab D (Bk.BR gs.length (img gs) (Bk.onep 0 p)) M→∀ x∈M,x=0)∧Hid (Below w2.heap.size w2 wr)) (fun pv _=>D - (intOf pv).toNat)
    case atStart=>exact ⟨0,rfl,by omega,AL,KK⟩
    case round =>
     clear AL KK;obtain ⟨k,rfl,hk,AL,KK⟩:=hrel;generalize wr=wd at *;have G0:=ι (GB.out.below KK.out)
     by_cases hkD:k+1<D
     case neg =>
      have hkD2:k+1=D:=by omega
      go_upto_region 7 with (fail);refine wp_region_list ?_;refine Rg.lm 22 (.int .i64 (((k+1):Nat):Int)) ?_;go_frame;refine Rg.lr 23 (exec_fieldG0 _ rfl rfl) ?_;go_frame;refine Rg.lr 24 (Rg.exec_load (v:=.int .i64 ((D:Nat):Int)) _ _ rfl ⟨gb,0,none⟩ rfl (run_loadInt G0.out.c0)) ?_;go_frame;refine Rg.lr 25 (exec_bin (R:=.bool false) .lss _ _ _ rfl rfl rfl (b_lss _ (decide_eq_false (by omega)))) ?_;go_frame;go_upto_region 15 with (fail);refine wp_region_list ?_;refine Rg.la 2 (.bool true) ?_;go_frame;refine Rg.la 3 (.int .i64 ((0:Nat):Int)) ?_;go_frame;go_wp2
      go_ret2
      exact ⟨Rg.acc HWB.out KK.out,.inr ⟨HZ.out,D,gs,true,rfl,rfl,rfl,⟨fun _=>⟨by omega,htb.out,fun p h1 h2=>AL.out p h1 (by omega)⟩,fun _=>rfl⟩⟩⟩
     case pos =>
      have HKD:=ι hkD;have HC:=ι (lsC_z (a:=((0:Nat):Int)) (b:=(((k+1:Nat):Nat):Int)) HZ.out ⟨⟨by omega,by omega⟩,⟨by omega,by omega⟩⟩);go_upto_region 7 with (fail);refine wp_region_list ?_;refine Rg.lm 22 (.int .i64 (((k+1):Nat):Int)) ?_;go_frame;refine Rg.lr 23 (exec_fieldG0 _ rfl rfl) ?_;go_frame;refine Rg.lr 24 (Rg.exec_load (v:=.int .i64 ((D:Nat):Int)) _ _ rfl ⟨gb,0,none⟩ rfl (run_loadInt G0.out.c0)) ?_;go_frame;refine Rg.lr 25 (exec_bin (R:=.bool true) .lss _ _ _ rfl rfl rfl (b_lss _ (decide_eq_true (by omega)))) ?_;go_frame;go_upto_region 9 with (fail);refine wp_region_list ?_;refine Rg.lr 29 (Rg.exec_load (v:=.agg #[.int .i64 ((D:Nat):Int),.slice ga (gs.map Ma.ofN).length gc]) _ _ rfl ⟨gb,0,none⟩ rfl (run_loadG G0.out.c0 G0.out.c1)) ?_;go_frame;refine Rg.lm 30 (.int .i64 (((k+1):Nat):Int)) ?_;go_frame;refine list_ask (some 31) rfl rfl _ _ (exec_fn3 96 _ _ _ _ rfl rfl rfl rfl (Jccl2 _ _)) ?_
      refine (refLeast_any _ ((D:Nat):Int) (gs.map Ma.ofN) ((0:Nat):Int) (((k+1:Nat):Nat):Int) wd G0.out.rows).mono ?_;rintro e1 w61 ⟨v,rfl,hans,hb⟩;rw [HC.out];obtain ⟨M,hM,hv⟩:=hans.get HC.out;obtain ⟨va,vc,rfl,-⟩:=hv.shape;rw [hM.len] at hv ⊢;have HM:=ι hM;clear hM hans;refine ⟨_,rfl,?_⟩;go_frame;replace G0:=ι (G0.out.below hb);replace KK:=ι (Rg.acc KK.out hb);clear hb;have HV:=ι (NpI.mk hv);refine Rg.lm 28 (.tuple #[.slice va D vc,.int .i64 0]) ?_;go_frame;refine Rg.lr 32 (exec_extract (v:=.slice va D vc) _ _ rfl rfl rfl) ?_;go_frame;refine Rg.lr 33 (exec_extract (v:=.int .i64 0) _ _ rfl rfl rfl) ?_;go_frame;refine Rg.la 6 (.slice va D vc) ?_;go_frame;refine Rg.la 7 (.int .i64 0) ?_;go_frame;clear hv;go_upto_region 10 with (fail);refine wp_region_list ?_;refine Rg.la 8 (.int .i64 ((0:Nat):Int)) ?_;go_frame;obtain ⟨vb,vo,vc',hvv,hvx⟩:=HV.out.at HM.out.len (by omega)
      injection hvv with e1 _ e3
      subst e1 e3;have HVX:=ι hvx;have KB:=ι KK.out;have KE:=ι (Below.refl w61.heap.size w61);have AZ:=ι (show ∀ j,j<0→M.getD j 0=0 from fun j hj=>absurd hj (Nat.not_lt_zero _));clear hvx HV G0 KK;go_wp2
      go_loopw [8] (fun iv wr=>∃ i:Nat,iv=.int .i64 ((i:Nat):Int)∧i≤D∧Hid (∀ j,j<i→M.getD j 0=0)∧Hid (Below w61.heap.size w61 wr)) (fun iv _=>D - (intOf iv).toNat)
      case atStart=>exact ⟨0,rfl,Nat.zero_le _,AZ,KE⟩
      case round =>
       clear AZ KE;obtain ⟨i,rfl,hi,AZ,KE⟩:=hrel;generalize wr=we at *
       by_cases hiD:i<D
       case neg =>
        have HAL:=ι (show ∀ p,0<p→p≤k+1→∀ M,Bk.IsLab D (Bk.BR gs.length (img gs) (Bk.onep 0 p)) M→∀ x∈M,x=0 from fun p h1 h2 M' hM' x hx=>by
         by_cases e:p=k+1
         ·subst e
          rw [hM'.uniq HM.out] at hx;obtain ⟨j,hj,e⟩:=List.getElem_of_mem hx
          have hj2:j<D:=by rw [← HM.out.len]; exact hj
          rw [← e,← Bk.getD_lt hj];exact AZ.out j (by omega)
         ·exact AL.out p h1 (by omega) M' hM' x hx)
        have KF:=ι (Rg.acc KB.out KE.out);go_upto_region 11 with (fail);refine wp_region_list ?_;refine Rg.lm 34 (.int .i64 ((i:Nat):Int)) ?_;go_frame;refine Rg.lm 35 (.slice (some ⟨vb,vo,none⟩) D vc) ?_;go_frame;refine Rg.lr 36 (exec_len _ _ _ rfl Tryz.underlying36 _ _ _ rfl) ?_;go_frame;refine Rg.lr 37 (exec_bin (R:=.bool false) .lss _ _ _ rfl rfl rfl (b_lss _ (decide_eq_false (by omega)))) ?_;go_frame;go_upto_region 8 with (fail);refine wp_region_list ?_;refine Rg.lm 26 (.int .i64 (((k+1):Nat):Int)) ?_;go_frame;refine Rg.lr 27 (exec_bin (R:=.int .i64 (((k+1+1):Nat):Int)) .add _ _ _ rfl rfl rfl (b_add _ (by omega) (by omega))) ?_;go_frame;refine Rg.la 5 (.int .i64 (((k+1+1):Nat):Int)) ?_;go_frame;go_wp2
        go_roundw
        case rel=>exact ⟨k+1,by go_num,HKD.out,HAL,KF⟩
        case measure=>simp [intOf]; have:=HKD.out; omega
       case pos =>
        have HID:=ι hiD;obtain ⟨x,hx⟩:∃ x,Hid (M.getD i 0=x):=⟨_,ι rfl⟩;have CX:=ι (show CL we vb (vo+i) (.int .i64 ((x:Nat):Int)) by rw [← hx.out]; exact (HVX.out i hiD).up KE.out)
        by_cases hx0:x=0
        case pos =>
         have AZ2:=ι (show ∀ j,j<i+1→M.getD j 0=0 from fun j hj=>by
          by_cases e:j=i
          ·rw [e,hx.out]; exact hx0
          ·exact AZ.out j (by omega))
         go_upto_region 11 with (fail);refine wp_region_list ?_;refine Rg.lm 34 (.int .i64 ((i:Nat):Int)) ?_;go_frame;refine Rg.lm 35 (.slice (some ⟨vb,vo,none⟩) D vc) ?_;go_frame;refine Rg.lr 36 (exec_len _ _ _ rfl Tryz.underlying36 _ _ _ rfl) ?_;go_frame;refine Rg.lr 37 (exec_bin (R:=.bool true) .lss _ _ _ rfl rfl rfl (b_lss _ (decide_eq_true (by omega)))) ?_;go_frame;go_upto_region 13 with (fail);refine wp_region_list ?_;refine Rg.lm 40 (.slice (some ⟨vb,vo,none⟩) D vc) ?_;go_frame;refine Rg.lm 41 (.int .i64 ((i:Nat):Int)) ?_;go_frame;refine Rg.lr 42 (exec_indexS slInts _ _ rfl vb (vo) (D) vc (i) rfl rfl hiD) ?_;go_frame;refine Rg.lr 43 (Rg.exec_load (v:=.int .i64 ((x:Nat):Int)) _ _ rfl ⟨vb,vo+i,none⟩ rfl (run_loadInt CX.out.cell)) ?_;go_frame;refine Rg.lr 44 (exec_bin (R:=.bool false) .neq _ _ _ rfl rfl rfl (b_neqB _ (decide_eq_false (by omega)))) ?_;go_frame
         go_upto_region 12 with (fail);refine wp_region_list ?_;refine Rg.lm 38 (.int .i64 ((i:Nat):Int)) ?_;go_frame;refine Rg.lr 39 (exec_bin (R:=.int .i64 (((i+1):Nat):Int)) .add _ _ _ rfl rfl rfl (b_add _ (by omega) (by omega))) ?_;go_frame;refine Rg.la 8 (.int .i64 (((i+1):Nat):Int)) ?_;go_frame;go_wp2
         go_roundw
         case rel=>exact ⟨i+1,by go_num,HID.out,AZ2,KE⟩
         case measure=>simp [intOf]; have:=HID.out; omega
        case neg =>
         skip
         go_upto_region 11 with (fail);refine wp_region_list ?_;refine Rg.lm 34 (.int .i64 ((i:Nat):Int)) ?_;go_frame;refine Rg.lm 35 (.slice (some ⟨vb,vo,none⟩) D vc) ?_;go_frame;refine Rg.lr 36 (exec_len _ _ _ rfl Tryz.underlying36 _ _ _ rfl) ?_;go_frame;refine Rg.lr 37 (exec_bin (R:=.bool true) .lss _ _ _ rfl rfl rfl (b_lss _ (decide_eq_true (by omega)))) ?_;go_frame;go_upto_region 13 with (fail);refine wp_region_list ?_;refine Rg.lm 40 (.slice (some ⟨vb,vo,none⟩) D vc) ?_;go_frame;refine Rg.lm 41 (.int .i64 ((i:Nat):Int)) ?_;go_frame;refine Rg.lr 42 (exec_indexS slInts _ _ rfl vb (vo) (D) vc (i) rfl rfl hiD) ?_;go_frame;refine Rg.lr 43 (Rg.exec_load (v:=.int .i64 ((x:Nat):Int)) _ _ rfl ⟨vb,vo+i,none⟩ rfl (run_loadInt CX.out.cell)) ?_;go_frame;refine Rg.lr 44 (exec_bin (R:=.bool true) .neq _ _ _ rfl rfl rfl (b_neqB _ (decide_eq_true (by omega)))) ?_;go_frame;go_upto_region 14 with (fail)
         refine wp_region_list ?_;refine Rg.la 2 (.bool false) ?_;go_frame;refine Rg.la 3 (.int .i64 ((0:Nat):Int)) ?_;go_frame;go_wp2
         go_ret2
         exact ⟨Rg.acc HWB.out (Rg.acc KB.out KE.out),.inr ⟨HZ.out,D,gs,false,rfl,rfl,rfl,⟨fun h=>(Bool.false_ne_true h).elim,fun h=>by
          have h1:=h.2.2 (k+1) (by omega) HKD.out M HM.out x (by rw [← hx.out,Bk.getD_lt (by rw [HM.out.len]; exact HID.out)]; exact List.getElem_mem _)
          exact absurd h1 hx0⟩⟩⟩

theorem Jdcl0 (args:Array Value) (w:World):(callFunc 257 args).run Tryz.prog w=.ok (.enter 257 args) w:=by kernel_rfl
def OwnL (B:Nat) (u:Value) (w:World):Prop:=w.ownsRow B 36 1 u 0 []∧∃ p,u=.slice (some ⟨p,0,none⟩) 0 0∧p<w.heap.size∧w.cell? ⟨p,0,none⟩=none
theorem OwnL.below {B:Nat} {u:Value} {w w':World} (h:OwnL B u w) (hb:Below w.heap.size w w'):OwnL B u w':=by
 obtain ⟨h1,p,e,h2,h3⟩:=h;exact ⟨Rg.row_below h1 hb,p,e,Nat.lt_of_lt_of_le h2 hb.size,(hb.cell (p:=⟨p,0,none⟩) h2).trans h3⟩
theorem OwnL.new {B:Nat} (w:World) (hB:B≤w.heap.size):OwnL B (.slice (some ⟨w.heap.size,0,none⟩) 0 0) (w.alloc (.cells #[] 36)):=by
 refine ⟨⟨rfl,.inr ⟨w.heap.size,0,#[],rfl,hB,by show (w.heap.push _)[w.heap.size]?=_; simp,Nat.le_refl _,Nat.zero_le _,rfl,rfl⟩⟩,w.heap.size,rfl,by simp,by rw [Rg.cellNew]; rfl⟩
theorem OwnL.ne {B B':Nat} {u v:Value} {x:Value} {w:World} (h:OwnL B u w) (h':Rg.BlkF B' [x] v w):∀ p,v=.slice (some ⟨p,0,none⟩) 1 1→u.ownBlock≠some p:=by
 obtain ⟨_,p,rfl,_,h3⟩:=h;obtain ⟨q,rfl,_,_,h4⟩:=h';intro p' e' e;simp at e';subst e';simp [Value.ownBlock] at e;subst e;have:=h4 0 (by simp);rw [h3] at this; cases this
theorem vals_hi {w0:World} {v:Value} {us:List Value} (h:Rg.Vals w0 v us) (k:Nat) (hk:k≤us.length) :
  ∃ v',(∀ w,(Instr.sliceAt 27 v none (some (.int .i64 (k:Int))) none).run Tryz.prog w=.ok v' w)∧(∀ w,Rg.Vals w v us→Rg.Vals w v' (us.take k))∧∃ a c,v'=.slice a k c:=by
 obtain ⟨a,cap,rfl,h2,h3,h4,h5⟩:=h;refine ⟨.slice (if cap=0 then a else a.map (·.add 0)) k cap,fun w=>?_,fun w hw=>?_,_,_,rfl⟩
 ·simp [Instr.sliceAt,Instr.slice,run_underlying Tryz.underlying27,Instr.sliceBounds,Instr.sliceBound,asIntOf,Nat.le_trans hk h2,Addr.add]
  try (cases a <;> simp [Addr.add])
 ·obtain ⟨a',cap',e,g2,g3,g4,g5⟩:=hw
  simp at e;obtain ⟨rfl,rfl⟩:=e
  have hlen:(us.take k).length=k:=by rw [List.length_take]; omega
  refine ⟨_,cap,by rw [hlen],by rw [hlen]; omega,g3,by rw [hlen]; unfold Rg.big at g4 ⊢; omega,fun h0=>?_⟩;rw [hlen] at h0;obtain ⟨b,o,e1,e2,e3⟩:=g5 (by omega);subst e1;refine ⟨b,o,by simp [Addr.add],e2,fun i hi=>?_⟩;rw [hlen] at hi;rw [e3 i (by omega)];simp [List.getElem_take]
theorem vals_lo {w0:World} {v:Value} {us:List Value} (h:Rg.Vals w0 v us) (k:Nat) (hk:k≤us.length) :
  ∃ v',(∀ w,(Instr.sliceAt 27 v (some (.int .i64 (k:Int))) none none).run Tryz.prog w=.ok v' w)∧(∀ w,Rg.Vals w v us→Rg.Vals w v' (us.drop k))∧∃ a c,v'=.slice a (us.length - k) c:=by
 obtain ⟨a,cap,rfl,h2,h3,h4,h5⟩:=h;refine ⟨.slice (if cap=k then a else a.map (·.add k)) (us.length - k) (cap - k),fun w=>?_,fun w hw=>?_,_,_,rfl⟩
 ·simp [Instr.sliceAt,Instr.slice,run_underlying Tryz.underlying27,Instr.sliceBounds,Instr.sliceBound,asIntOf,hk,h2]
  try (by_cases e:cap=k <;> simp [e,Nat.mul_one])
 ·obtain ⟨a',cap',e,g2,g3,g4,g5⟩:=hw
  simp at e;obtain ⟨rfl,rfl⟩:=e
  have hlen:(us.drop k).length=us.length - k:=by rw [List.length_drop]
  refine ⟨_,cap - k,by rw [hlen],by rw [hlen]; omega,by omega,by rw [hlen]; unfold Rg.big at g4 ⊢; omega,fun h0=>?_⟩;rw [hlen] at h0;obtain ⟨b,o,e1,e2,e3⟩:=g5 (by clear h5 g5; omega);subst e1;clear h5 g5;rw [if_neg (by omega)];refine ⟨b,o+k,by simp [Addr.add],e2,fun i hi=>?_⟩;rw [hlen] at hi;rw [Nat.add_assoc,e3 (k+i) (by omega)];simp [List.getElem_drop]
structure RwV (F:Nat→Prop) (w:World) (v:Value) (us:List Value) (ll:List (List Int)):Prop where
 fv:Rg.FVals F w v us
 fe:Rg.FElts F w us ll
theorem RwV.below {F:Nat→Prop} {w w':World} {v:Value} {us:List Value} {ll:List (List Int)} (h:RwV F w v us ll) (hb:Below w.heap.size w w'):RwV F w' v us ll :=
 ⟨h.fv.kp (M:=fun _=>False) (Rg.Kp.of_below hb) (fun _ _=>id),h.fe.kp (M:=fun _=>False) (Rg.Kp.of_below hb) (fun _ _=>id)⟩
theorem RwV.vals {F:Nat→Prop} {w:World} {v:Value} {us:List Value} {ll:List (List Int)} (h:RwV F w v us ll):Rg.Vals w v us:=h.fv.vals
theorem RwV.el {F:Nat→Prop} {w:World} {v:Value} {us:List Value} {ll:List (List Int)} (h:RwV F w v us ll) (i:Nat) (a:i<us.length) (b:i<ll.length):Rg.FI F w us[i] ll[i]:=h.fe.2 i a b
theorem RwV.cells {F:Nat→Prop} {w:World} {v:Value} {us:List Value} {ll:List (List Int)} (h:RwV F w v us ll):∀ u∈us,u.oneCell'=true:=fun u hu=>by
 obtain ⟨i,hi,rfl⟩:=List.getElem_of_mem hu;obtain ⟨a,c,e,_⟩:=(h.el i hi (by have:=h.fe.1; omega)).ints.shape;rw [e]; rfl
structure FiX (F:Nat→Prop) (w:World) (v:Value) (l:List Int):Prop where
 fi:Rg.FI F w v l
theorem FiX.below {F:Nat→Prop} {w w':World} {v:Value} {l:List Int} (h:FiX F w v l) (hb:Below w.heap.size w w'):FiX F w' v l :=
 ⟨Rg.FI.kp (M:=fun _=>False) h.fi (Rg.Kp.of_below hb) (fun _ _=>id)⟩
theorem FiX.i {F:Nat→Prop} {w:World} {v:Value} {l:List Int} (h:FiX F w v l):Rg.Ints w v l:=h.fi.ints
theorem asc_pair {T:List (List Int)} (h:Asc T) {i k:Nat} (hi:i<T.length) (hk:k<T.length) {x:List Int} (hki:k≤i) (hx:lessL T[k] x=false):lessL T[i] x=false:=by
 by_cases e:k=i
 ·subst e; exact hx
 ·cases h1:lessL T[i] x with
  | false=>rfl
  | true =>
   have:=lessL_trans (h k i hk hi (by omega)) h1;rw [this] at hx; cases hx
theorem felts_take {F:Nat→Prop} {w:World} {us:List Value} {ll:List (List Int)} (h:Rg.FElts F w us ll) (k:Nat):Rg.FElts F w (us.take k) (ll.take k) :=
 ⟨by rw [List.length_take,List.length_take,h.1],fun i a b=>by
  rw [List.getElem_take,List.getElem_take]
  exact h.2 i _ _⟩
theorem felts_drop {F:Nat→Prop} {w:World} {us:List Value} {ll:List (List Int)} (h:Rg.FElts F w us ll) (k:Nat):Rg.FElts F w (us.drop k) (ll.drop k) :=
 ⟨by rw [List.length_drop,List.length_drop,h.1],fun i a b=>by
  rw [List.getElem_drop,List.getElem_drop]
  exact h.2 _ _ _⟩
structure AddT (T:List (List Nat)) (x:List Nat) (T':List (List Nat)):Prop where
 asc:Asc (T'.map Ma.ofN)
 mem:∀ y,y∈T'↔y∈T∨y=x
 old:x∈T→T'=T
 new:x∉T→T'.length=T.length+1
theorem AddT.hit {T:List (List Nat)} {x:List Nat} (hs:Asc (T.map Ma.ofN)) (h:x∈T):AddT T x T:=⟨hs,fun y=>⟨.inl,fun g=>g.elim id fun e=>e▸h⟩,fun _=>rfl,fun g=>absurd h g⟩
theorem AddT.put {T:List (List Nat)} {x:List Nat} {k:Nat} (hs:Asc (T.map Ma.ofN)) (h:x∉T) (hp:Place (T.map Ma.ofN) (Ma.ofN x) k):AddT T x (T.take k++x :: T.drop k):=by
 have e:(T.take k++x :: T.drop k).map Ma.ofN=putIn (T.map Ma.ofN) k (Ma.ofN x):=by simp [putIn]
 have hx:Ma.ofN x∉T.map Ma.ofN:=fun g=>by
  obtain ⟨y,hy,e⟩:=List.mem_map.1 g
  have:y=x:=by
   have:=congrArg (List.map Int.toNat) e
   rwa [toN1,toN1] at this
  exact h (this▸hy)
 refine ⟨by rw [e]; exact asc_putIn hp hs hx,fun y=>?_,fun g=>absurd g h,fun _=>?_⟩
 ·have:y∈T↔y∈T.take k∨y∈T.drop k:=by rw [← List.mem_append,List.take_append_drop]
  rw [this];simp only [List.mem_append,List.mem_cons]
  constructor
  ·rintro (h | h | h)
   ·exact .inl (.inl h)
   ·exact .inr h
   ·exact .inl (.inr h)
  ·rintro ((h | h) | h)
   ·exact .inl h
   ·exact .inr (.inr h)
   ·exact .inr (.inl h)
 ·have:=hp.le
  rw [List.length_map] at this;simp; omega
theorem added_any (F:Nat→Prop) (D:Nat) (tv xv:Value) (T:List (List Nat)) (x:List Nat) (w:World) (ht:Rg.FRows F w tv (T.map Ma.ofN)) (hx:Rg.FI F w xv (Ma.ofN x)) (hs:Asc (T.map Ma.ofN)) (hd:∀ y∈T,y.length=D) (hxd:x.length=D) (hl:T.length≤200000) :
  Calls Tryz.prog 176 #[tv,xv] w fun e w'=>∃ v T',e=.returned (.tuple #[v,.bool (decide (x∉T))])∧Rg.FRows (Fup F w w') w' v (T'.map Ma.ofN)∧AddT T x T'∧Below w.heap.size w w':=by
 obtain ⟨us,hu1,hu2⟩:=ht;have HV:=ι (RwV.mk hu1 hu2);have HUL:=ι (show us.length=T.length by rw [hu2.1,List.length_map]);obtain ⟨ta,tc,rfl,-,-,-,hcl⟩:=hu1.vals;rw [HUL.out] at HV ⊢;have HCL:=ι hcl;obtain ⟨xa,xc,rfl,-⟩:=hx.ints.shape;rw [Ma.len_ofN] at hx ⊢;have HX:=ι (FiX.mk hx);have HS:=ι hs;have HD:=ι hd;have HXD:=ι hxd;have HTL:=ι hl;clear hu1 hu2 hcl hx hs hd hxd;have K:=ι (Below.refl w.heap.size w);have HLT:=ι (show ∀ j (h:j<(T.map Ma.ofN).length),j<0→lessL (T.map Ma.ofN)[j] (Ma.ofN x)=true from fun j _ h=>absurd h (Nat.not_lt_zero _))
 go_enter Tryz.func176,Tryz.ntmps176
 go_upto_region 0 with (fail);refine wp_region_list ?_;refine Rg.la 4 (.slice none 0 0) ?_;go_frame;refine Rg.la 5 (.bool false) ?_;go_frame;go_upto_region 1 with (fail);refine wp_region_list ?_;refine Rg.la 6 (.int .i64 ((0:Nat):Int)) ?_;go_frame;go_wp2
 go_loopw [6] (fun kv wr=>∃ k:Nat,kv=.int .i64 ((k:Nat):Int)∧k≤T.length∧Hid (Below w.heap.size w wr)∧Hid (∀ j (h:j<(T.map Ma.ofN).length),j<k→lessL (T.map Ma.ofN)[j] (Ma.ofN x)=true)) (fun kv _=>T.length - (intOf kv).toNat)
 case atStart=>exact ⟨0,rfl,Nat.zero_le _,K,HLT⟩
 case round =>
  clear K HLT;obtain ⟨k,rfl,hk,K,HLT⟩:=hrel;generalize wr=wd at *;have HXW:=ι (HX.out.below K.out);have HTW:=ι (HV.out.below K.out);have HTM:T.length≤200000:=HTL.out
  by_cases hkT:k<T.length
  case pos =>
   obtain ⟨tb,tp,e1,hc1,hc2⟩:=HCL.out (by rw [HUL.out]; omega);subst e1;obtain ⟨u,hu⟩:∃ u,Hid (us[k]'(by rw [HUL.out]; exact hkT)=u):=⟨_,ι rfl⟩;obtain ⟨y,hy⟩:∃ y,Hid (T[k]'hkT=y):=⟨_,ι rfl⟩;have CU:=ι (show CL wd tb (tp+k) u from (CL.mk (by rw [← hu.out]; exact hc2 k (by rw [HUL.out]; exact hkT)) hc1:CL w tb (tp+k) u).up K.out)
   have UV:=ι (show FiX F wd u (Ma.ofN y) from ⟨by
    have h5:=HTW.out.el k (by rw [HUL.out]; exact hkT) (by rw [List.length_map]; exact hkT);rw [List.getElem_map,hu.out,hy.out] at h5
    exact h5⟩)
   have HYD:=ι (show y.length=D from HD.out y (by rw [← hy.out]; exact List.getElem_mem hkT));have HKT:=ι hkT;obtain ⟨bl,hbl⟩:∃ b,Hid (lessL (Ma.ofN y) (Ma.ofN x)=b):=⟨_,ι rfl⟩;clear hc1 hc2
   cases bl
   case true =>
    skip
    go_upto_region 2 with (fail);refine wp_region_list ?_;refine Rg.lm 7 (.int .i64 ((k:Nat):Int)) ?_;go_frame;refine Rg.lm 8 (.slice (some ⟨tb,tp,none⟩) T.length tc) ?_;go_frame;refine Rg.lr 9 (exec_len _ _ _ rfl Tryz.underlying27 _ _ _ rfl) ?_;go_frame;refine Rg.lr 10 (exec_bin (R:=.bool true) .lss _ _ _ rfl rfl rfl (b_lss _ (decide_eq_true (by omega)))) ?_;go_frame;refine Rg.lm 11 (.bool true) ?_;go_frame;refine listW_run (some 12) rfl rfl (Rg.xm (.slice (some ⟨tb,tp,none⟩) T.length tc) _ rfl rfl) ?_;go_frame;refine listW_run (some 13) rfl rfl (Rg.xm (.int .i64 ((k:Nat):Int)) _ rfl rfl) ?_;go_frame;refine listW_run (some 14) rfl rfl (exec_indexS slIntss _ _ rfl tb (tp) (T.length) tc (k) rfl rfl hkT) ?_;go_frame;refine listW_run (some 15) rfl rfl (Rg.exec_load (v:=u) _ _ rfl ⟨tb,tp+k,none⟩ rfl (Rg.run_loadSl _ _ Tryz.underlying36 CU.out.cell)) ?_;go_frame;refine listW_run (some 16) rfl rfl (Rg.xm (.slice xa x.length xc) _ rfl rfl) ?_;go_frame
    refine listW_ask (some 17) rfl rfl _ _ (exec_fn 257 _ _ _ rfl rfl rfl (Jdcl0 _ _)) ?_;refine (less12_any _ _ _ _ wd UV.out.i HXW.out.i (by rw [Ma.len_ofN,Ma.len_ofN,HYD.out,HXD.out])).mono ?_;rintro e1 w21 ⟨rfl,hb⟩;rw [hbl.out];refine ⟨_,rfl,?_⟩;go_frame;replace HXW:=ι (HXW.out.below hb);replace HTW:=ι (HTW.out.below hb);replace CU:=ι (CU.out.below hb);replace UV:=ι (UV.out.below hb);replace K:=ι (Rg.acc K.out hb);clear hb;refine Rg.lr 18 (exec_pickT (v:=.bool true) _ _ _ rfl rfl rfl) ?_;go_frame;go_upto_region 3 with (fail);refine wp_region_list ?_;refine Rg.lm 19 (.int .i64 ((k:Nat):Int)) ?_;go_frame;refine Rg.lr 20 (exec_bin (R:=.int .i64 (((k+1):Nat):Int)) .add _ _ _ rfl rfl rfl (b_add _ (by omega) (by omega))) ?_;go_frame;refine Rg.la 6 (.int .i64 (((k+1):Nat):Int)) ?_;go_frame
    have HL2:=ι (show ∀ j (h:j<(T.map Ma.ofN).length),j<k+1→lessL (T.map Ma.ofN)[j] (Ma.ofN x)=true from fun j h hj=>by
     by_cases e:j=k
     ·subst e
      rw [List.getElem_map,hy.out]; exact hbl.out
     ·exact HLT.out j h (by omega))
    go_wp2
    go_roundw
    case rel=>exact ⟨k+1,by go_num,HKT.out,K,HL2⟩
    case measure=>simp [intOf]; have:=HKT.out; omega
   case false =>
    have HPL:=ι (show Place (T.map Ma.ofN) (Ma.ofN x) k from ⟨by rw [List.length_map]; exact hk,HLT.out,fun i h hi=>asc_pair HS.out h (by rw [List.length_map]; exact hkT) hi (by rw [List.getElem_map,hy.out]; exact hbl.out)⟩)
    by_cases hxy:y=x
    case pos =>
     have HD1:Hid (decide (Ma.ofN y=Ma.ofN x)=true):=ι (decide_eq_true (by rw [hxy]));go_upto_region 2 with (fail);refine wp_region_list ?_;refine Rg.lm 7 (.int .i64 ((k:Nat):Int)) ?_;go_frame;refine Rg.lm 8 (.slice (some ⟨tb,tp,none⟩) T.length tc) ?_;go_frame;refine Rg.lr 9 (exec_len _ _ _ rfl Tryz.underlying27 _ _ _ rfl) ?_;go_frame;refine Rg.lr 10 (exec_bin (R:=.bool true) .lss _ _ _ rfl rfl rfl (b_lss _ (decide_eq_true (by omega)))) ?_;go_frame;refine Rg.lm 11 (.bool true) ?_;go_frame;refine listW_run (some 12) rfl rfl (Rg.xm (.slice (some ⟨tb,tp,none⟩) T.length tc) _ rfl rfl) ?_;go_frame;refine listW_run (some 13) rfl rfl (Rg.xm (.int .i64 ((k:Nat):Int)) _ rfl rfl) ?_;go_frame;refine listW_run (some 14) rfl rfl (exec_indexS slIntss _ _ rfl tb (tp) (T.length) tc (k) rfl rfl hkT) ?_;go_frame;refine listW_run (some 15) rfl rfl (Rg.exec_load (v:=u) _ _ rfl ⟨tb,tp+k,none⟩ rfl (Rg.run_loadSl _ _ Tryz.underlying36 CU.out.cell)) ?_;go_frame
     refine listW_run (some 16) rfl rfl (Rg.xm (.slice xa x.length xc) _ rfl rfl) ?_;go_frame;refine listW_ask (some 17) rfl rfl _ _ (exec_fn 257 _ _ _ rfl rfl rfl (Jdcl0 _ _)) ?_;refine (less12_any _ _ _ _ wd UV.out.i HXW.out.i (by rw [Ma.len_ofN,Ma.len_ofN,HYD.out,HXD.out])).mono ?_;rintro e1 w21 ⟨rfl,hb⟩;rw [hbl.out];refine ⟨_,rfl,?_⟩;go_frame;replace HXW:=ι (HXW.out.below hb);replace HTW:=ι (HTW.out.below hb);replace CU:=ι (CU.out.below hb);replace UV:=ι (UV.out.below hb);replace K:=ι (Rg.acc K.out hb);clear hb;refine Rg.lr 18 (exec_pickT (v:=.bool false) _ _ _ rfl rfl rfl) ?_;go_frame;go_upto_region 4 with (fail);refine wp_region_list ?_;refine Rg.lm 21 (.int .i64 ((k:Nat):Int)) ?_;go_frame;refine Rg.lm 22 (.slice (some ⟨tb,tp,none⟩) T.length tc) ?_;go_frame;refine Rg.lr 23 (exec_len _ _ _ rfl Tryz.underlying27 _ _ _ rfl) ?_;go_frame;refine Rg.lr 24 (exec_bin (R:=.bool true) .lss _ _ _ rfl rfl rfl (b_lss _ (decide_eq_true (by omega)))) ?_;go_frame
     refine Rg.lm 25 (.bool true) ?_;go_frame;refine listW_run (some 26) rfl rfl (Rg.xm (.slice (some ⟨tb,tp,none⟩) T.length tc) _ rfl rfl) ?_;go_frame;refine listW_run (some 27) rfl rfl (Rg.xm (.int .i64 ((k:Nat):Int)) _ rfl rfl) ?_;go_frame;refine listW_run (some 28) rfl rfl (exec_indexS slIntss _ _ rfl tb (tp) (T.length) tc (k) rfl rfl hkT) ?_;go_frame;refine listW_run (some 29) rfl rfl (Rg.exec_load (v:=u) _ _ rfl ⟨tb,tp+k,none⟩ rfl (Rg.run_loadSl _ _ Tryz.underlying36 CU.out.cell)) ?_;go_frame;refine listW_run (some 30) rfl rfl (Rg.xm (.slice xa x.length xc) _ rfl rfl) ?_;go_frame;refine listW_ask (some 31) rfl rfl _ _ (exec_fn 33 _ _ _ rfl rfl rfl (Wkcl1 _ _)) ?_;refine (Same_any (w0:=w21) (b:=true) UV.out.i HXW.out.i HD1 (Below.refl _ _)).mono ?_;rintro e1 w22 ⟨rfl,hb⟩;refine ⟨_,rfl,?_⟩;go_frame;replace HXW:=ι (HXW.out.below hb);replace HTW:=ι (HTW.out.below hb)
     replace CU:=ι (CU.out.below hb);replace UV:=ι (UV.out.below hb);replace K:=ι (Rg.acc K.out hb);clear hb;refine Rg.lr 32 (exec_pickT (v:=.bool true) _ _ _ rfl rfl rfl) ?_;go_frame;go_upto_region 5 with (fail);refine wp_region_list ?_;refine Rg.lm 33 (.slice (some ⟨tb,tp,none⟩) T.length tc) ?_;go_frame;refine Rg.la 4 (.slice (some ⟨tb,tp,none⟩) T.length tc) ?_;go_frame;refine Rg.la 5 (.bool false) ?_;go_frame
     have HXT:x∈T:=by rw [← hxy,← hy.out]; exact List.getElem_mem hkT
     go_wp2
     go_ret2
     exact ⟨_,T,by rw [decide_eq_false (fun h=>h HXT)]; rfl,FRows.mono (show Rg.FRows F _ _ (T.map Ma.ofN) from ⟨us,HTW.out.fv,HTW.out.fe⟩) (fun _=>.inl),AddT.hit HS.out HXT,K.out⟩
    case neg =>
     have HD1:Hid (decide (Ma.ofN y=Ma.ofN x)=false):=ι (decide_eq_false (fun h=>hxy (by
      have h6:=congrArg (List.map Int.toNat) h
      rwa [toN1,toN1] at h6)))
     have HXT:=ι (show x∉T from fun h=>by
      obtain ⟨h1,h2⟩:=(HPL.out.mem HS.out).1 (List.mem_map.2 ⟨x,h,rfl⟩);rw [List.getElem_map,hy.out] at h2;have h6:=congrArg (List.map Int.toNat) h2;rw [toN1,toN1] at h6
      exact hxy h6)
     go_upto_region 2 with (fail);refine wp_region_list ?_;refine Rg.lm 7 (.int .i64 ((k:Nat):Int)) ?_;go_frame;refine Rg.lm 8 (.slice (some ⟨tb,tp,none⟩) T.length tc) ?_;go_frame;refine Rg.lr 9 (exec_len _ _ _ rfl Tryz.underlying27 _ _ _ rfl) ?_;go_frame;refine Rg.lr 10 (exec_bin (R:=.bool true) .lss _ _ _ rfl rfl rfl (b_lss _ (decide_eq_true (by omega)))) ?_;go_frame;refine Rg.lm 11 (.bool true) ?_;go_frame;refine listW_run (some 12) rfl rfl (Rg.xm (.slice (some ⟨tb,tp,none⟩) T.length tc) _ rfl rfl) ?_;go_frame;refine listW_run (some 13) rfl rfl (Rg.xm (.int .i64 ((k:Nat):Int)) _ rfl rfl) ?_;go_frame;refine listW_run (some 14) rfl rfl (exec_indexS slIntss _ _ rfl tb (tp) (T.length) tc (k) rfl rfl hkT) ?_;go_frame;refine listW_run (some 15) rfl rfl (Rg.exec_load (v:=u) _ _ rfl ⟨tb,tp+k,none⟩ rfl (Rg.run_loadSl _ _ Tryz.underlying36 CU.out.cell)) ?_;go_frame;refine listW_run (some 16) rfl rfl (Rg.xm (.slice xa x.length xc) _ rfl rfl) ?_;go_frame
     refine listW_ask (some 17) rfl rfl _ _ (exec_fn 257 _ _ _ rfl rfl rfl (Jdcl0 _ _)) ?_;refine (less12_any _ _ _ _ wd UV.out.i HXW.out.i (by rw [Ma.len_ofN,Ma.len_ofN,HYD.out,HXD.out])).mono ?_;rintro e1 w41 ⟨rfl,hb⟩;rw [hbl.out];refine ⟨_,rfl,?_⟩;go_frame;replace HXW:=ι (HXW.out.below hb);replace HTW:=ι (HTW.out.below hb);replace CU:=ι (CU.out.below hb);replace UV:=ι (UV.out.below hb);replace K:=ι (Rg.acc K.out hb);clear hb;refine Rg.lr 18 (exec_pickT (v:=.bool false) _ _ _ rfl rfl rfl) ?_;go_frame;go_upto_region 4 with (fail);refine wp_region_list ?_;refine Rg.lm 21 (.int .i64 ((k:Nat):Int)) ?_;go_frame;refine Rg.lm 22 (.slice (some ⟨tb,tp,none⟩) T.length tc) ?_;go_frame;refine Rg.lr 23 (exec_len _ _ _ rfl Tryz.underlying27 _ _ _ rfl) ?_;go_frame;refine Rg.lr 24 (exec_bin (R:=.bool true) .lss _ _ _ rfl rfl rfl (b_lss _ (decide_eq_true (by omega)))) ?_;go_frame
     refine Rg.lm 25 (.bool true) ?_;go_frame;refine listW_run (some 26) rfl rfl (Rg.xm (.slice (some ⟨tb,tp,none⟩) T.length tc) _ rfl rfl) ?_;go_frame;refine listW_run (some 27) rfl rfl (Rg.xm (.int .i64 ((k:Nat):Int)) _ rfl rfl) ?_;go_frame;refine listW_run (some 28) rfl rfl (exec_indexS slIntss _ _ rfl tb (tp) (T.length) tc (k) rfl rfl hkT) ?_;go_frame;refine listW_run (some 29) rfl rfl (Rg.exec_load (v:=u) _ _ rfl ⟨tb,tp+k,none⟩ rfl (Rg.run_loadSl _ _ Tryz.underlying36 CU.out.cell)) ?_;go_frame;refine listW_run (some 30) rfl rfl (Rg.xm (.slice xa x.length xc) _ rfl rfl) ?_;go_frame;refine listW_ask (some 31) rfl rfl _ _ (exec_fn 33 _ _ _ rfl rfl rfl (Wkcl1 _ _)) ?_;refine (Same_any (w0:=w41) (b:=false) UV.out.i HXW.out.i HD1 (Below.refl _ _)).mono ?_;rintro e1 w42 ⟨rfl,hb⟩;refine ⟨_,rfl,?_⟩;go_frame;replace HXW:=ι (HXW.out.below hb);replace HTW:=ι (HTW.out.below hb)
     replace CU:=ι (CU.out.below hb);replace UV:=ι (UV.out.below hb);replace K:=ι (Rg.acc K.out hb);clear hb;refine Rg.lr 32 (exec_pickT (v:=.bool false) _ _ _ rfl rfl rfl) ?_;go_frame;obtain ⟨hv,hh1,hh2,ha,hc,rfl⟩:=vals_hi HTW.out.vals k (by rw [HUL.out]; exact hk);obtain ⟨lv,ht1,ht2,la,lc,rfl⟩:=vals_lo HTW.out.vals k (by rw [HUL.out]; exact hk);rw [HUL.out] at ht1 ht2;have HA:=ι hh2;have HT:=ι ht2;have HR1:=ι hh1;have HR2:=ι ht1;have HONE:=ι HTW.out.cells;have HKL:=ι (show (us.take k).length=k by rw [List.length_take,HUL.out]; omega);have HKD:=ι (show (us.drop k).length=T.length - k by rw [List.length_drop,HUL.out]);clear hh1 hh2 ht1 ht2;have KB:=ι K.out;clear K;have K:=ι (Below.refl w42.heap.size w42);go_upto_region 6 with (fail);have hV0:Below w42.heap.size w42 w42.drew:=(Below.refl _ _).drew;replace K:=ι (Rg.acc K.out hV0);clear hV0
     refine Rg.Any.begin (S:=Rg.Both 13 (fun _=>True) (fun W=>Below w42.heap.size w42 W)) mix ?_;generalize w42.drew=w43 at *;have hS:∀ (l:Array Bool) W,Below w42.heap.size w42 W→Rg.Both 13 (fun _=>True) (fun W=>Below w42.heap.size w42 W) l W:=fun l W h=>⟨.inr trivial,h⟩;have hI:=K.out;refine Rg.tm 1 13 (.slice (some ⟨tb,tp,none⟩) T.length tc) 35 (hS _ _ hI) ?_;go_frame;refine Rg.tm 2 13 (.int .i64 ((k:Nat):Int)) 36 (hS _ _ hI) ?_;go_frame;refine Rg.tg 3 13 (.slice ha k hc) 37 rfl rfl (.inl ⟨rfl,fun w _=>exec_sliceHiL _ _ rfl rfl rfl (HR1.out _)⟩) (hS _ _ hI) ?_;go_frame;refine Rg.tm 5 13 (.slice xa x.length xc) 39 (hS _ _ hI) ?_;go_frame;refine Rg.tm 8 13 (.slice (some ⟨tb,tp,none⟩) T.length tc) 42 (hS _ _ hI) ?_;go_frame;refine Rg.tm 9 13 (.int .i64 ((k:Nat):Int)) 43 (hS _ _ hI) ?_;go_frame;refine Rg.tg 10 13 (.slice la (T.length - k) lc) 44 rfl rfl (.inl ⟨rfl,fun w _=>exec_sliceLoL _ _ rfl rfl rfl (HR2.out _)⟩) (hS _ _ hI) ?_;go_frame
     refine Rg.Any.c2f1 (i:=0) (k:=4) (j:=6) (di:=34) (dk:=38) (dj:=40) (I:=fun W=>Below w42.heap.size w42 W∧w43.heap.size≤W.heap.size) (R0:=fun _=>True) (Ri:=fun u W=>OwnL w42.heap.size u W) (Rk:=fun x W=>W.ownsRow w42.heap.size 36 1 x k (us.take k)) (Rj:=fun v W=>Rg.BlkF w42.heap.size [(.slice xa x.length xc)] v W) (fun l W h=>hS l W h.1)
      (by decide) (by decide) (by decide) (by decide) (by kernel_rfl) (by kernel_rfl) (by kernel_rfl) (by kernel_rfl) (by kernel_rfl)
      (fun _ _ _ _=>trivial) (fun _ _ _ hb h=>h.below hb) (fun _ _ _ hb h=>Rg.row_below h hb) (fun _ _ _ hb h=>h.below hb) ?_ ?_ ?_ ⟨hI,Nat.le_refl _⟩ (trivial) ?_
     ·intro b hb W hW
      exact Rg.doesRun rfl rfl (by rcases hb with rfl | ⟨u,rfl⟩ <;> rfl) (Rg.exec_build0 slIntss rfl W) ⟨⟨Rg.acc hW.1 ((Below.refl _ _).alloc (Nat.le_refl _) _),by simp; have:=hW.2; omega⟩,OwnL.new W hW.1.size,(Below.refl _ _).alloc (Nat.le_refl _) _⟩
     ·intro b hb W hW
      exact Rg.doesRun rfl rfl (by rcases hb with rfl | ⟨u,rfl⟩ | ⟨u,v,rfl⟩ <;> rfl) (Rg.exec_buildSlice _ _ _ rfl (.slice xa x.length xc) (by rcases hb with rfl | ⟨u,rfl⟩ | ⟨u,v,rfl⟩ <;> rfl) (run_build1L W _ ⟨_,_,_,rfl⟩)) ⟨⟨Rg.acc hW.1 ((Below.refl _ _).alloc (Nat.le_refl _) _),by simp; have:=hW.2; omega⟩,Rg.BlkF.new W [(.slice xa x.length xc)] 36 hW.1.size,(Below.refl _ _).alloc (Nat.le_refl _) _⟩
     ·intro u b hb W hW h0 hu
      obtain ⟨v2,X,r1,r2,r3⟩:=Rg.appL_run (P:=Tryz.prog) slIntss 27 hu.1 hW.1.size (HA.out W (HTW.out.vals.below hW.1)) (fun z hz=>HONE.out z (List.mem_of_mem_take hz)) (by rw [HKL.out]; omega);rw [HKL.out,Nat.zero_add,List.nil_append] at r2
      exact Rg.doesRun rfl rfl (by rcases hb with rfl | ⟨v,rfl⟩ <;> rfl) (Rg.exec_append _ _ _ rfl (by rcases hb with rfl | ⟨v,rfl⟩ <;> rfl) (by rcases hb with rfl | ⟨v,rfl⟩ <;> rfl) r1) ⟨⟨hW.1.grown r3 hW.1.size (fun j hj=>(hu.1.lt j hj).1),Nat.le_trans hW.2 r3.size⟩,r2,fun v hv=>BlkF.off hv r3 (hu.ne hv)⟩
     rintro w44 fu fx fv hb hk hj;have hI2_f:=hb.1;have hVsz:=hb.2;clear hb hI;go_frame;have FK:=ι hk;have FJ:=ι hj;obtain ⟨v10,X10,r1,r2,r3⟩:=Rg.appL_run (P:=Tryz.prog) slIntss 27 FK.out hI2_f.size (Rg.BlkF.vals FJ.out (by simp)) (by intro u hu; simp at hu; subst hu; rfl) (by simp; omega);have hI3_g:=hI2_f.grown r3 hI2_f.size (fun j hj=>((FK.out).lt j hj).1);refine Rg.Any.one (i:=7) (by kernel_rfl) (Rg.Any.run (some 41) rfl rfl rfl (Rg.exec_append _ _ _ rfl rfl rfl r1) (hS _ _ hI3_g) ?_);go_frame;clear hI2_f;clear FK;clear FJ;have FX:=ι r2;obtain ⟨v14,X14,r1,r2,r4⟩:=Rg.appL_run (P:=Tryz.prog) slIntss 27 FX.out hI3_g.size (HT.out _ (HTW.out.vals.below hI3_g)) (fun z hz=>HONE.out z (List.mem_of_mem_drop hz)) (by rw [HKD.out,List.length_singleton]; omega);have hI4_g:=hI3_g.grown r4 hI3_g.size (fun j hj=>((FX.out).lt j hj).1);refine Rg.Any.one (i:=11) (by kernel_rfl) (Rg.Any.run (some 45) rfl rfl rfl (Rg.exec_append _ _ _ rfl rfl rfl r1) (hS _ _ hI4_g) ?_)
     go_frame;clear hI3_g;clear FX;have FZ:=ι r2;refine Rg.tg 12 13 (v14) 4 rfl rfl (.inl ⟨rfl,fun w _=>Rg.exec_assign (v:=v14) _ rfl rfl⟩) (hS _ _ hI4_g) ?_;go_frame;refine Rg.Any.one (i:=13) (by kernel_rfl) (Rg.Any.run (some 5) rfl rfl rfl (Rg.xa (.bool true) _ rfl rfl) (hS _ _ hI4_g) ?_);go_frame;refine Rg.Any.done (by kernel_rfl) ?_ _;replace K:=ι hI4_g;clear hS hI4_g;have h5:=FZ.out;simp only [List.length_singleton,HKD.out] at h5;have hvs:=Rg.Vals.of_row h5 (by omega);have hup:∀ b,v14.ownBlock=some b→Fup F w X14 b:=fun b e=>.inr ⟨Nat.le_trans KB.out.size (h5.lt b e).1,(h5.lt b e).2⟩
     have hR:Rg.FRows (Fup F w X14) X14 v14 ((T.take k++x :: T.drop k).map Ma.ofN):=by
      have HTZ:=HTW.out.below K.out;have HXZ:=HXW.out.below K.out;refine ⟨_,Rg.FVals.of hvs hup,?_⟩
      have h6:Rg.FElts F X14 (us.take k++[Value.slice xa x.length xc]++us.drop k) ((T.map Ma.ofN).take k++[Ma.ofN x]++(T.map Ma.ofN).drop k):=by
       refine Rg.FElts.app (Rg.FElts.app (felts_take HTZ.fe k) ?_) (felts_drop HTZ.fe k)
       exact ⟨rfl,fun i a b=>by
        have:i=0:=by simpa using a
        subst this
        exact HXZ.fi⟩
      have e:(T.take k++x :: T.drop k).map Ma.ofN=(T.map Ma.ofN).take k++[Ma.ofN x]++(T.map Ma.ofN).drop k:=by simp
      rw [e];exact h6.mono (fun _=>.inl)
     have HRR:=ι hR;clear h5 hvs hup hR;go_wp2
     go_ret2
     exact ⟨_,_,by rw [decide_eq_true HXT.out]; rfl,HRR.out,AddT.put HS.out HXT.out HPL.out,Rg.acc KB.out K.out⟩
  case neg =>
   have hkT2:k=T.length:=by omega
   have HPL:=ι (show Place (T.map Ma.ofN) (Ma.ofN x) k from ⟨by rw [List.length_map]; exact hk,HLT.out,fun i h hi=>by rw [List.length_map] at h; omega⟩)
   have HXT:=ι (show x∉T from fun h=>by
    obtain ⟨h1,h2⟩:=(HPL.out.mem HS.out).1 (List.mem_map.2 ⟨x,h,rfl⟩)
    rw [List.length_map] at h1; omega)
   go_upto_region 2 with (fail);refine wp_region_list ?_;refine Rg.lm 7 (.int .i64 ((k:Nat):Int)) ?_;go_frame;refine Rg.lm 8 (.slice ta T.length tc) ?_;go_frame;refine Rg.lr 9 (exec_len _ _ _ rfl Tryz.underlying27 _ _ _ rfl) ?_;go_frame;refine Rg.lr 10 (exec_bin (R:=.bool false) .lss _ _ _ rfl rfl rfl (b_lss _ (decide_eq_false (by omega)))) ?_;go_frame;refine Rg.lm 11 (.bool false) ?_;go_frame;refine listW_pass (some 12) (by kernel_rfl) rfl ?_;go_frame;refine listW_pass (some 13) (by kernel_rfl) rfl ?_;go_frame;refine listW_pass (some 14) (by kernel_rfl) rfl ?_;go_frame;refine listW_pass (some 15) (by kernel_rfl) rfl ?_;go_frame;refine listW_pass (some 16) (by kernel_rfl) rfl ?_;go_frame;refine listW_pass (some 17) (by kernel_rfl) rfl ?_;go_frame;refine Rg.lr 18 (exec_pickF (v:=.bool false) _ _ _ rfl rfl rfl) ?_;go_frame;go_upto_region 4 with (fail);refine wp_region_list ?_;refine Rg.lm 21 (.int .i64 ((k:Nat):Int)) ?_;go_frame
   refine Rg.lm 22 (.slice ta T.length tc) ?_;go_frame;refine Rg.lr 23 (exec_len _ _ _ rfl Tryz.underlying27 _ _ _ rfl) ?_;go_frame;refine Rg.lr 24 (exec_bin (R:=.bool false) .lss _ _ _ rfl rfl rfl (b_lss _ (decide_eq_false (by omega)))) ?_;go_frame;refine Rg.lm 25 (.bool false) ?_;go_frame;refine listW_pass (some 26) (by kernel_rfl) rfl ?_;go_frame;refine listW_pass (some 27) (by kernel_rfl) rfl ?_;go_frame;refine listW_pass (some 28) (by kernel_rfl) rfl ?_;go_frame;refine listW_pass (some 29) (by kernel_rfl) rfl ?_;go_frame;refine listW_pass (some 30) (by kernel_rfl) rfl ?_;go_frame;refine listW_pass (some 31) (by kernel_rfl) rfl ?_;go_frame;refine Rg.lr 32 (exec_pickF (v:=.bool false) _ _ _ rfl rfl rfl) ?_;go_frame;obtain ⟨hv,hh1,hh2,ha,hc,rfl⟩:=vals_hi HTW.out.vals k (by rw [HUL.out]; exact hk);obtain ⟨lv,ht1,ht2,la,lc,rfl⟩:=vals_lo HTW.out.vals k (by rw [HUL.out]; exact hk)
   rw [HUL.out] at ht1 ht2;have HA:=ι hh2;have HT:=ι ht2;have HR1:=ι hh1;have HR2:=ι ht1;have HONE:=ι HTW.out.cells;have HKL:=ι (show (us.take k).length=k by rw [List.length_take,HUL.out]; omega);have HKD:=ι (show (us.drop k).length=T.length - k by rw [List.length_drop,HUL.out]);clear hh1 hh2 ht1 ht2;have KB:=ι K.out;clear K;have K:=ι (Below.refl wd.heap.size wd);go_upto_region 6 with (fail);have hV0:Below wd.heap.size wd wd.drew:=(Below.refl _ _).drew;replace K:=ι (Rg.acc K.out hV0);clear hV0;refine Rg.Any.begin (S:=Rg.Both 13 (fun _=>True) (fun W=>Below wd.heap.size wd W)) mix ?_;generalize wd.drew=w81 at *;have hS:∀ (l:Array Bool) W,Below wd.heap.size wd W→Rg.Both 13 (fun _=>True) (fun W=>Below wd.heap.size wd W) l W:=fun l W h=>⟨.inr trivial,h⟩;have hI:=K.out;refine Rg.tm 1 13 (.slice ta T.length tc) 35 (hS _ _ hI) ?_;go_frame;refine Rg.tm 2 13 (.int .i64 ((k:Nat):Int)) 36 (hS _ _ hI) ?_;go_frame
   refine Rg.tg 3 13 (.slice ha k hc) 37 rfl rfl (.inl ⟨rfl,fun w _=>exec_sliceHiL _ _ rfl rfl rfl (HR1.out _)⟩) (hS _ _ hI) ?_;go_frame;refine Rg.tm 5 13 (.slice xa x.length xc) 39 (hS _ _ hI) ?_;go_frame;refine Rg.tm 8 13 (.slice ta T.length tc) 42 (hS _ _ hI) ?_;go_frame;refine Rg.tm 9 13 (.int .i64 ((k:Nat):Int)) 43 (hS _ _ hI) ?_;go_frame;refine Rg.tg 10 13 (.slice la (T.length - k) lc) 44 rfl rfl (.inl ⟨rfl,fun w _=>exec_sliceLoL _ _ rfl rfl rfl (HR2.out _)⟩) (hS _ _ hI) ?_;go_frame
   refine Rg.Any.c2f1 (i:=0) (k:=4) (j:=6) (di:=34) (dk:=38) (dj:=40) (I:=fun W=>Below wd.heap.size wd W∧w81.heap.size≤W.heap.size) (R0:=fun _=>True) (Ri:=fun u W=>OwnL wd.heap.size u W) (Rk:=fun x W=>W.ownsRow wd.heap.size 36 1 x k (us.take k)) (Rj:=fun v W=>Rg.BlkF wd.heap.size [(.slice xa x.length xc)] v W) (fun l W h=>hS l W h.1)
    (by decide) (by decide) (by decide) (by decide) (by kernel_rfl) (by kernel_rfl) (by kernel_rfl) (by kernel_rfl) (by kernel_rfl)
    (fun _ _ _ _=>trivial) (fun _ _ _ hb h=>h.below hb) (fun _ _ _ hb h=>Rg.row_below h hb) (fun _ _ _ hb h=>h.below hb) ?_ ?_ ?_ ⟨hI,Nat.le_refl _⟩ (trivial) ?_
   ·intro b hb W hW
    exact Rg.doesRun rfl rfl (by rcases hb with rfl | ⟨u,rfl⟩ <;> rfl) (Rg.exec_build0 slIntss rfl W) ⟨⟨Rg.acc hW.1 ((Below.refl _ _).alloc (Nat.le_refl _) _),by simp; have:=hW.2; omega⟩,OwnL.new W hW.1.size,(Below.refl _ _).alloc (Nat.le_refl _) _⟩
   ·intro b hb W hW
    exact Rg.doesRun rfl rfl (by rcases hb with rfl | ⟨u,rfl⟩ | ⟨u,v,rfl⟩ <;> rfl) (Rg.exec_buildSlice _ _ _ rfl (.slice xa x.length xc) (by rcases hb with rfl | ⟨u,rfl⟩ | ⟨u,v,rfl⟩ <;> rfl) (run_build1L W _ ⟨_,_,_,rfl⟩)) ⟨⟨Rg.acc hW.1 ((Below.refl _ _).alloc (Nat.le_refl _) _),by simp; have:=hW.2; omega⟩,Rg.BlkF.new W [(.slice xa x.length xc)] 36 hW.1.size,(Below.refl _ _).alloc (Nat.le_refl _) _⟩
   ·intro u b hb W hW h0 hu
    obtain ⟨v2,X,r1,r2,r3⟩:=Rg.appL_run (P:=Tryz.prog) slIntss 27 hu.1 hW.1.size (HA.out W (HTW.out.vals.below hW.1)) (fun z hz=>HONE.out z (List.mem_of_mem_take hz)) (by rw [HKL.out]; omega);rw [HKL.out,Nat.zero_add,List.nil_append] at r2
    exact Rg.doesRun rfl rfl (by rcases hb with rfl | ⟨v,rfl⟩ <;> rfl) (Rg.exec_append _ _ _ rfl (by rcases hb with rfl | ⟨v,rfl⟩ <;> rfl) (by rcases hb with rfl | ⟨v,rfl⟩ <;> rfl) r1) ⟨⟨hW.1.grown r3 hW.1.size (fun j hj=>(hu.1.lt j hj).1),Nat.le_trans hW.2 r3.size⟩,r2,fun v hv=>BlkF.off hv r3 (hu.ne hv)⟩
   rintro w82 fu fx fv hb hk hj;have hI5_f:=hb.1;have hVsz:=hb.2;clear hb hI;go_frame;have FK:=ι hk;have FJ:=ι hj;obtain ⟨v10,X10,r1,r2,r3⟩:=Rg.appL_run (P:=Tryz.prog) slIntss 27 FK.out hI5_f.size (Rg.BlkF.vals FJ.out (by simp)) (by intro u hu; simp at hu; subst hu; rfl) (by simp; omega);have hI6_g:=hI5_f.grown r3 hI5_f.size (fun j hj=>((FK.out).lt j hj).1);refine Rg.Any.one (i:=7) (by kernel_rfl) (Rg.Any.run (some 41) rfl rfl rfl (Rg.exec_append _ _ _ rfl rfl rfl r1) (hS _ _ hI6_g) ?_);go_frame;clear hI5_f;clear FK;clear FJ;have FX:=ι r2;obtain ⟨v14,X14,r1,r2,r4⟩:=Rg.appL_run (P:=Tryz.prog) slIntss 27 FX.out hI6_g.size (HT.out _ (HTW.out.vals.below hI6_g)) (fun z hz=>HONE.out z (List.mem_of_mem_drop hz)) (by rw [HKD.out,List.length_singleton]; omega);have hI7_g:=hI6_g.grown r4 hI6_g.size (fun j hj=>((FX.out).lt j hj).1);refine Rg.Any.one (i:=11) (by kernel_rfl) (Rg.Any.run (some 45) rfl rfl rfl (Rg.exec_append _ _ _ rfl rfl rfl r1) (hS _ _ hI7_g) ?_)
   go_frame;clear hI6_g;clear FX;have FZ:=ι r2;refine Rg.tg 12 13 (v14) 4 rfl rfl (.inl ⟨rfl,fun w _=>Rg.exec_assign (v:=v14) _ rfl rfl⟩) (hS _ _ hI7_g) ?_;go_frame;refine Rg.Any.one (i:=13) (by kernel_rfl) (Rg.Any.run (some 5) rfl rfl rfl (Rg.xa (.bool true) _ rfl rfl) (hS _ _ hI7_g) ?_);go_frame;refine Rg.Any.done (by kernel_rfl) ?_ _;replace K:=ι hI7_g;clear hS hI7_g;have h5:=FZ.out;simp only [List.length_singleton,HKD.out] at h5;have hvs:=Rg.Vals.of_row h5 (by omega);have hup:∀ b,v14.ownBlock=some b→Fup F w X14 b:=fun b e=>.inr ⟨Nat.le_trans KB.out.size (h5.lt b e).1,(h5.lt b e).2⟩
   have hR:Rg.FRows (Fup F w X14) X14 v14 ((T.take k++x :: T.drop k).map Ma.ofN):=by
    have HTZ:=HTW.out.below K.out;have HXZ:=HXW.out.below K.out;refine ⟨_,Rg.FVals.of hvs hup,?_⟩
    have h6:Rg.FElts F X14 (us.take k++[Value.slice xa x.length xc]++us.drop k) ((T.map Ma.ofN).take k++[Ma.ofN x]++(T.map Ma.ofN).drop k):=by
     refine Rg.FElts.app (Rg.FElts.app (felts_take HTZ.fe k) ?_) (felts_drop HTZ.fe k)
     exact ⟨rfl,fun i a b=>by
      have:i=0:=by simpa using a
      subst this
      exact HXZ.fi⟩
    have e:(T.take k++x :: T.drop k).map Ma.ofN=(T.map Ma.ofN).take k++[Ma.ofN x]++(T.map Ma.ofN).drop k:=by simp
    rw [e];exact h6.mono (fun _=>.inl)
   have HRR:=ι hR;clear h5 hvs hup hR;go_wp2
   go_ret2
   exact ⟨_,_,by rw [decide_eq_true HXT.out]; rfl,HRR.out,AddT.put HS.out HXT.out HPL.out,Rg.acc KB.out K.out⟩

theorem Jecl1 (args:Array Value) (w:World):(callFunc 176 args).run Tryz.prog w=.ok (.enter 176 args) w:=by kernel_rfl
theorem Jecl2 (args:Array Value) (w:World):(callFunc 177 args).run Tryz.prog w=.ok (.enter 177 args) w:=by kernel_rfl
def LsPostZ (d:Int) (ll:List (List Int)) (a b:Int) (w:World) (e:Ending) (w':World):Prop :=
 lsC d ll a b=0→∃ (D:Nat) (gs:List (List Nat)) (A B:Nat) (M:List Nat) (v:Value),d=D∧ll=gs.map Ma.ofN∧a=A∧b=B∧e=.returned (.tuple #[v,.int .i64 0])∧OwZ w.heap.size w' v (Ma.ofN M)∧Bk.IsLab D (Bk.BR gs.length (img gs) (Bk.onep A B)) M∧Below w.heap.size w w'
theorem refLeastZ (gv:Value) (d:Int) (ll:List (List Int)) (a b:Int) (w:World) (h:Rg.Rows w gv ll) :
  Calls Tryz.prog 96 #[.agg #[.int .i64 d,gv],.int .i64 a,.int .i64 b] w (LsPostZ d ll a b w):=by
 have HG9:=ι h;obtain ⟨ga,gc,rfl,hga,hba⟩:=GI.enter (d) h;have K:=ι hba;have G0:=ι hga;clear h hga hba;obtain ⟨ck,hck⟩:∃ c,Hid (Ma.gchk d ll=c):=⟨_,ι rfl⟩
 go_enter Tryz.func96,Tryz.ntmps96
 go_upto_region 0 with (fail);refine wp_region_list ?_;refine Rg.lr 3 (Rg.exec_box _ _ rfl rfl) ?_;go_frame;refine Rg.la 6 (.slice none 0 0) ?_;go_frame;refine Rg.la 7 (.int .i64 0) ?_;go_frame;generalize w.alloc (.cells #[.int .i64 d,.slice ga ll.length gc] 24)=w0 at *;go_upto_region 1 with (fail);refine wp_region_list ?_;refine Rg.lr 10 (Rg.exec_load (v:=.agg #[.int .i64 d,.slice ga ll.length gc]) _ _ rfl ⟨w.heap.size,0,none⟩ rfl (run_loadG G0.out.c0 G0.out.c1)) ?_;go_frame;refine list_ask (some 11) rfl rfl _ _ (exec_fn1 92 _ _ rfl rfl (Wqcl0 _ _)) ?_;refine (ref07Check_any _ d ll w0 G0.out.rows).mono ?_;rintro e1 w1 ⟨rfl,hb⟩;rw [hck.out];refine ⟨_,rfl,?_⟩;go_frame;replace G0:=ι (G0.out.below hb);replace K:=ι (Rg.acc K.out hb);clear hb;refine Rg.la 8 (.int .i64 ck) ?_;go_frame
 by_cases h0:ck=0
 case neg =>
  skip
  go_upto_region 2 with (fail);refine wp_region_list ?_;refine Rg.lm 12 (.int .i64 ck) ?_;go_frame;refine Rg.lr 13 (exec_bin (R:=.bool true) .neq _ _ _ rfl rfl rfl (b_neqB _ (decide_eq_true h0))) ?_;go_frame;go_upto_region 3 with (fail);refine wp_region_list ?_;refine Rg.lm 14 (.int .i64 ck) ?_;go_frame;refine Rg.la 6 (.slice none 0 0) ?_;go_frame;refine Rg.la 7 (.int .i64 ck) ?_;go_frame;go_wp2
  go_ret2
  exact fun hz=>absurd hz (by rw [lsC_g hck.out h0]; exact h0)
 case pos =>
  have HZ:=ι (hck.out.trans h0);go_upto_region 2 with (fail);refine wp_region_list ?_;refine Rg.lm 12 (.int .i64 ck) ?_;go_frame;refine Rg.lr 13 (exec_bin (R:=.bool false) .neq _ _ _ rfl rfl rfl (b_neqB _ (decide_eq_false (fun e=>e h0)))) ?_;go_frame;clear h0
  by_cases ha0:a<0
  case pos =>
   have HB:=ι (lsC_p (b:=b) HZ.out (fun h=>by omega:¬ ((0≤a∧a<d)∧(0≤b∧b<d))));go_upto_region 4 with (fail);refine wp_region_list ?_;refine Rg.lm 15 (.int .i64 a) ?_;go_frame;refine Rg.lr 16 (exec_bin (R:=.bool true) .lss _ _ _ rfl rfl rfl (b_lss _ (decide_eq_true ha0))) ?_;go_frame;refine Rg.lm 17 (.bool true) ?_;go_frame;refine listW_pass (some 18) (by kernel_rfl) rfl ?_;go_frame;refine listW_pass (some 19) (by kernel_rfl) rfl ?_;go_frame;refine listW_pass (some 20) (by kernel_rfl) rfl ?_;go_frame;refine listW_pass (some 21) (by kernel_rfl) rfl ?_;go_frame;refine Rg.lr 22 (exec_pickT (v:=.bool true) _ _ _ rfl rfl rfl) ?_;go_frame;refine Rg.lm 23 (.bool true) ?_;go_frame;refine listW_pass (some 24) (by kernel_rfl) rfl ?_;go_frame;refine listW_pass (some 25) (by kernel_rfl) rfl ?_;go_frame;refine Rg.lr 26 (exec_pickT (v:=.bool true) _ _ _ rfl rfl rfl) ?_;go_frame
   refine Rg.lm 27 (.bool true) ?_;go_frame;refine listW_pass (some 28) (by kernel_rfl) rfl ?_;go_frame;refine listW_pass (some 29) (by kernel_rfl) rfl ?_;go_frame;refine listW_pass (some 30) (by kernel_rfl) rfl ?_;go_frame;refine listW_pass (some 31) (by kernel_rfl) rfl ?_;go_frame;refine Rg.lr 32 (exec_pickT (v:=.bool true) _ _ _ rfl rfl rfl) ?_;go_frame;go_upto_region 5 with (fail);refine wp_region_list ?_;refine Rg.la 6 (.slice none 0 0) ?_;go_frame;refine Rg.la 7 (.int .i64 ((2:Nat):Int)) ?_;go_frame;go_wp2
   go_ret2
   exact fun hz=>absurd hz (by rw [HB.out]; decide)
  by_cases ha1:d≤a
  case pos =>
   have HB:=ι (lsC_p (b:=b) HZ.out (fun h=>by omega:¬ ((0≤a∧a<d)∧(0≤b∧b<d))));go_upto_region 4 with (fail);refine wp_region_list ?_;refine Rg.lm 15 (.int .i64 a) ?_;go_frame;refine Rg.lr 16 (exec_bin (R:=.bool false) .lss _ _ _ rfl rfl rfl (b_lss _ (decide_eq_false ha0))) ?_;go_frame;refine Rg.lm 17 (.bool false) ?_;go_frame;refine listW_run (some 18) rfl rfl (Rg.xm (.int .i64 a) _ rfl rfl) ?_;go_frame;refine listW_run (some 19) rfl rfl (exec_fieldG0 _ rfl rfl) ?_;go_frame;refine listW_run (some 20) rfl rfl (Rg.exec_load (v:=.int .i64 d) _ _ rfl ⟨w.heap.size,0,none⟩ rfl (run_loadInt G0.out.c0)) ?_;go_frame;refine listW_run (some 21) rfl rfl (exec_bin (R:=.bool true) .geq _ _ _ rfl rfl rfl (b_geq _ (decide_eq_true ha1))) ?_;go_frame;refine Rg.lr 22 (exec_pickF (v:=.bool true) _ _ _ rfl rfl rfl) ?_;go_frame;refine Rg.lm 23 (.bool true) ?_;go_frame;refine listW_pass (some 24) (by kernel_rfl) rfl ?_;go_frame
   refine listW_pass (some 25) (by kernel_rfl) rfl ?_;go_frame;refine Rg.lr 26 (exec_pickT (v:=.bool true) _ _ _ rfl rfl rfl) ?_;go_frame;refine Rg.lm 27 (.bool true) ?_;go_frame;refine listW_pass (some 28) (by kernel_rfl) rfl ?_;go_frame;refine listW_pass (some 29) (by kernel_rfl) rfl ?_;go_frame;refine listW_pass (some 30) (by kernel_rfl) rfl ?_;go_frame;refine listW_pass (some 31) (by kernel_rfl) rfl ?_;go_frame;refine Rg.lr 32 (exec_pickT (v:=.bool true) _ _ _ rfl rfl rfl) ?_;go_frame;go_upto_region 5 with (fail);refine wp_region_list ?_;refine Rg.la 6 (.slice none 0 0) ?_;go_frame;refine Rg.la 7 (.int .i64 ((2:Nat):Int)) ?_;go_frame;go_wp2
   go_ret2
   exact fun hz=>absurd hz (by rw [HB.out]; decide)
  by_cases hb0:b<0
  case pos =>
   have HB:=ι (lsC_p (a:=a) HZ.out (fun h=>by omega:¬ ((0≤a∧a<d)∧(0≤b∧b<d))));go_upto_region 4 with (fail);refine wp_region_list ?_;refine Rg.lm 15 (.int .i64 a) ?_;go_frame;refine Rg.lr 16 (exec_bin (R:=.bool false) .lss _ _ _ rfl rfl rfl (b_lss _ (decide_eq_false ha0))) ?_;go_frame;refine Rg.lm 17 (.bool false) ?_;go_frame;refine listW_run (some 18) rfl rfl (Rg.xm (.int .i64 a) _ rfl rfl) ?_;go_frame;refine listW_run (some 19) rfl rfl (exec_fieldG0 _ rfl rfl) ?_;go_frame;refine listW_run (some 20) rfl rfl (Rg.exec_load (v:=.int .i64 d) _ _ rfl ⟨w.heap.size,0,none⟩ rfl (run_loadInt G0.out.c0)) ?_;go_frame;refine listW_run (some 21) rfl rfl (exec_bin (R:=.bool false) .geq _ _ _ rfl rfl rfl (b_geq _ (decide_eq_false ha1))) ?_;go_frame;refine Rg.lr 22 (exec_pickF (v:=.bool false) _ _ _ rfl rfl rfl) ?_;go_frame;refine Rg.lm 23 (.bool false) ?_;go_frame;refine listW_run (some 24) rfl rfl (Rg.xm (.int .i64 b) _ rfl rfl) ?_;go_frame
   refine listW_run (some 25) rfl rfl (exec_bin (R:=.bool true) .lss _ _ _ rfl rfl rfl (b_lss _ (decide_eq_true hb0))) ?_;go_frame;refine Rg.lr 26 (exec_pickF (v:=.bool true) _ _ _ rfl rfl rfl) ?_;go_frame;refine Rg.lm 27 (.bool true) ?_;go_frame;refine listW_pass (some 28) (by kernel_rfl) rfl ?_;go_frame;refine listW_pass (some 29) (by kernel_rfl) rfl ?_;go_frame;refine listW_pass (some 30) (by kernel_rfl) rfl ?_;go_frame;refine listW_pass (some 31) (by kernel_rfl) rfl ?_;go_frame;refine Rg.lr 32 (exec_pickT (v:=.bool true) _ _ _ rfl rfl rfl) ?_;go_frame;go_upto_region 5 with (fail);refine wp_region_list ?_;refine Rg.la 6 (.slice none 0 0) ?_;go_frame;refine Rg.la 7 (.int .i64 ((2:Nat):Int)) ?_;go_frame;go_wp2
   go_ret2
   exact fun hz=>absurd hz (by rw [HB.out]; decide)
  by_cases hb1:d≤b
  case pos =>
   have HB:=ι (lsC_p (a:=a) HZ.out (fun h=>by omega:¬ ((0≤a∧a<d)∧(0≤b∧b<d))));go_upto_region 4 with (fail);refine wp_region_list ?_;refine Rg.lm 15 (.int .i64 a) ?_;go_frame;refine Rg.lr 16 (exec_bin (R:=.bool false) .lss _ _ _ rfl rfl rfl (b_lss _ (decide_eq_false ha0))) ?_;go_frame;refine Rg.lm 17 (.bool false) ?_;go_frame;refine listW_run (some 18) rfl rfl (Rg.xm (.int .i64 a) _ rfl rfl) ?_;go_frame;refine listW_run (some 19) rfl rfl (exec_fieldG0 _ rfl rfl) ?_;go_frame;refine listW_run (some 20) rfl rfl (Rg.exec_load (v:=.int .i64 d) _ _ rfl ⟨w.heap.size,0,none⟩ rfl (run_loadInt G0.out.c0)) ?_;go_frame;refine listW_run (some 21) rfl rfl (exec_bin (R:=.bool false) .geq _ _ _ rfl rfl rfl (b_geq _ (decide_eq_false ha1))) ?_;go_frame;refine Rg.lr 22 (exec_pickF (v:=.bool false) _ _ _ rfl rfl rfl) ?_;go_frame;refine Rg.lm 23 (.bool false) ?_;go_frame;refine listW_run (some 24) rfl rfl (Rg.xm (.int .i64 b) _ rfl rfl) ?_;go_frame
   refine listW_run (some 25) rfl rfl (exec_bin (R:=.bool false) .lss _ _ _ rfl rfl rfl (b_lss _ (decide_eq_false hb0))) ?_;go_frame;refine Rg.lr 26 (exec_pickF (v:=.bool false) _ _ _ rfl rfl rfl) ?_;go_frame;refine Rg.lm 27 (.bool false) ?_;go_frame;refine listW_run (some 28) rfl rfl (Rg.xm (.int .i64 b) _ rfl rfl) ?_;go_frame;refine listW_run (some 29) rfl rfl (exec_fieldG0 _ rfl rfl) ?_;go_frame;refine listW_run (some 30) rfl rfl (Rg.exec_load (v:=.int .i64 d) _ _ rfl ⟨w.heap.size,0,none⟩ rfl (run_loadInt G0.out.c0)) ?_;go_frame;refine listW_run (some 31) rfl rfl (exec_bin (R:=.bool true) .geq _ _ _ rfl rfl rfl (b_geq _ (decide_eq_true hb1))) ?_;go_frame;refine Rg.lr 32 (exec_pickF (v:=.bool true) _ _ _ rfl rfl rfl) ?_;go_frame;go_upto_region 5 with (fail);refine wp_region_list ?_;refine Rg.la 6 (.slice none 0 0) ?_;go_frame;refine Rg.la 7 (.int .i64 ((2:Nat):Int)) ?_;go_frame
   go_wp2
   go_ret2
   exact fun hz=>absurd hz (by rw [HB.out]; decide)
  have HB:=ι (lsC_z (a:=a) (b:=b) HZ.out ⟨by omega,by omega⟩);go_upto_region 4 with (fail);refine wp_region_list ?_;refine Rg.lm 15 (.int .i64 a) ?_;go_frame;refine Rg.lr 16 (exec_bin (R:=.bool false) .lss _ _ _ rfl rfl rfl (b_lss _ (decide_eq_false ha0))) ?_;go_frame;refine Rg.lm 17 (.bool false) ?_;go_frame;refine listW_run (some 18) rfl rfl (Rg.xm (.int .i64 a) _ rfl rfl) ?_;go_frame;refine listW_run (some 19) rfl rfl (exec_fieldG0 _ rfl rfl) ?_;go_frame;refine listW_run (some 20) rfl rfl (Rg.exec_load (v:=.int .i64 d) _ _ rfl ⟨w.heap.size,0,none⟩ rfl (run_loadInt G0.out.c0)) ?_;go_frame;refine listW_run (some 21) rfl rfl (exec_bin (R:=.bool false) .geq _ _ _ rfl rfl rfl (b_geq _ (decide_eq_false ha1))) ?_;go_frame;refine Rg.lr 22 (exec_pickF (v:=.bool false) _ _ _ rfl rfl rfl) ?_;go_frame;refine Rg.lm 23 (.bool false) ?_;go_frame;refine listW_run (some 24) rfl rfl (Rg.xm (.int .i64 b) _ rfl rfl) ?_;go_frame
  refine listW_run (some 25) rfl rfl (exec_bin (R:=.bool false) .lss _ _ _ rfl rfl rfl (b_lss _ (decide_eq_false hb0))) ?_;go_frame;refine Rg.lr 26 (exec_pickF (v:=.bool false) _ _ _ rfl rfl rfl) ?_;go_frame;refine Rg.lm 27 (.bool false) ?_;go_frame;refine listW_run (some 28) rfl rfl (Rg.xm (.int .i64 b) _ rfl rfl) ?_;go_frame;refine listW_run (some 29) rfl rfl (exec_fieldG0 _ rfl rfl) ?_;go_frame;refine listW_run (some 30) rfl rfl (Rg.exec_load (v:=.int .i64 d) _ _ rfl ⟨w.heap.size,0,none⟩ rfl (run_loadInt G0.out.c0)) ?_;go_frame;refine listW_run (some 31) rfl rfl (exec_bin (R:=.bool false) .geq _ _ _ rfl rfl rfl (b_geq _ (decide_eq_false hb1))) ?_;go_frame;refine Rg.lr 32 (exec_pickF (v:=.bool false) _ _ _ rfl rfl rfl) ?_;go_frame;obtain ⟨D,gs,hD,hgs,hgg,hD1,hD2,hgl⟩:=gchk_ok HZ.out;obtain ⟨A,hA⟩:∃ A:Nat,a=A:=⟨a.toNat,by omega⟩;obtain ⟨B,hB⟩:∃ A:Nat,b=A:=⟨b.toNat,by omega⟩
  subst hD hgs hA hB
  have hAD:A<D:=by omega
  have hBD:B<D:=by omega
  have HGG:=ι hgg
  have hgl2:(gs.map Ma.ofN).length≤16:=by rw [List.length_map]; exact hgl
  clear ha0 ha1 hb0 hb1 hgg;have HSZ:=ι K.out.size;go_upto_region 6 with (fail);refine wp_region_list ?_;refine Rg.lr 33 (exec_fieldG0 _ rfl rfl) ?_;go_frame;refine Rg.lr 34 (Rg.exec_load (v:=.int .i64 ((D:Nat):Int)) _ _ rfl ⟨w.heap.size,0,none⟩ rfl (run_loadInt G0.out.c0)) ?_;go_frame;refine list_ask (some 35) rfl rfl _ _ (exec_fn1 101 _ _ rfl rfl (Wncl0 _ _)) ?_;refine (kitOne_row D w1 hD1 (by omega)).mono ?_;rintro e1 w2 ⟨g,cap,rfl,hg1,hg2,hg3,hg4,hb⟩;have HC:=ι (And.intro hg2 hg3);have HGL:=ι (And.intro G0.out.lt hg1);clear hg1 hg2 hg3;refine ⟨_,rfl,?_⟩;go_frame;replace G0:=ι (G0.out.below hb);replace K:=ι (Rg.acc K.out hb);clear hb;have RW:=ι hg4;refine Rg.la 9 (.slice (some ⟨g,0,none⟩) D cap) ?_;go_frame;clear hg4;have CB:=ι (show Cel w2 g (0+B) (.int .i64 ((B:Nat):Int)) from ⟨by rw [Nat.zero_add]; exact RW.out.2.1 B hBD,RW.out.1⟩);have C1:=ι (show w2.cell? ⟨g,0+A,none⟩=some (.int .i64 ((A:Nat):Int)) by rw [Nat.zero_add]; exact RW.out.2.1 A hAD)
  have F1:=ι (show w2.frozen? ⟨g,0+A,none⟩=false by rw [Nat.zero_add]; exact RW.out.2.2 A);go_upto_region 7 with (fail);refine wp_region_list ?_;refine Rg.lm 36 (.slice (some ⟨g,0,none⟩) D cap) ?_;go_frame;refine Rg.lm 37 (.int .i64 ((A:Nat):Int)) ?_;go_frame;refine Rg.lm 38 (.slice (some ⟨g,0,none⟩) D cap) ?_;go_frame;refine Rg.lm 39 (.int .i64 ((B:Nat):Int)) ?_;go_frame;refine Rg.lr 40 (exec_indexS slInts _ _ rfl g (0) (D) cap (B) rfl rfl hBD) ?_;go_frame;refine Rg.lr 41 (Rg.exec_load (v:=.int .i64 ((B:Nat):Int)) _ _ rfl ⟨g,0+B,none⟩ rfl (run_loadInt CB.out.1)) ?_;go_frame;refine Rg.lr 42 (exec_indexS slInts _ _ rfl g (0) (D) cap (A) rfl rfl hAD) ?_;go_frame;refine Rg.list_skip none rfl rfl (Rg.exec_store _ _ _ rfl _ rfl _ rfl (run_storeIntB _ C1.out F1.out)) ?_;go_frame;have hrs:=RW.out.set A ((B:Nat):Int) hAD;have hkp:Rg.Kp (fun z=>z=g) w2 (w2.setCell ⟨g,0+A,none⟩ (.int .i64 ((B:Nat):Int))):=Rg.Kp.of_setCell rfl
  have hG0:=G0.out.kpG hkp (fun e=>by have:=HGL.out; omega) (HG9.out.below (Rg.Kp.below K.out hkp (fun z e=>by have:=HSZ.out; have:=HGL.out; omega)));have hK:=Rg.Kp.below K.out hkp (fun z e=>by have:=HSZ.out; have:=HGL.out; omega);have hz0:0+A=A:=Nat.zero_add A;rw [← hz0] at hrs;rw [hz0] at hrs
  have hrs2:RwAt (w2.setCell ⟨g,0+A,none⟩ (.int .i64 ((B:Nat):Int))) g D (fun i=>if i=A then ((B:Nat):Int) else ((i:Nat):Int)):=by rw [hz0]; exact hrs
  generalize w2.setCell ⟨g,0+A,none⟩ (.int .i64 ((B:Nat):Int))=w88 at *;replace G0:=ι hG0;replace K:=ι hK;have HSZ9:=ι hK.size;have LV:=ι (hrs2.ints HC.out.1 HC.out.2 (by omega));have HLV:=ι (show ((List.range D).map fun i=>if i=A then ((B:Nat):Int) else ((i:Nat):Int)).length=D by simp);have HEQ:=ι (oneAB_br (gs:=gs) hAD hBD);clear hrs hkp hG0 hK hz0 hrs2 CB RW C1 F1;go_upto_region 8 with (fail);refine wp_region_list ?_;refine Rg.lr 43 (Rg.exec_load (v:=.agg #[.int .i64 ((D:Nat):Int),.slice ga (gs.map Ma.ofN).length gc]) _ _ rfl ⟨w.heap.size,0,none⟩ rfl (run_loadG G0.out.c0 G0.out.c1)) ?_;go_frame;refine Rg.lm 44 (.slice (some ⟨g,0,none⟩) D cap) ?_;go_frame;refine list_ask (some 45) rfl rfl _ _ (exec_fn 178 _ _ _ rfl rfl rfl (Hicl4 _ _)) ?_;refine (closed_any D _ _ gs _ w88 hD1 hD2 G0.out.rows HGG.out (by omega) LV.out HLV.out).mono ?_;rintro e1 w3 ⟨v,M,rfl,hin,hlab,hb⟩
  have HIZ:=ι (hin.mono HSZ9.out);have HIN:=ι (OwZ.ints hin (by rw [Ma.len_ofN,hlab.len]; omega));have HLB:=ι hlab;clear hin hlab;refine ⟨_,rfl,?_⟩;go_frame;replace G0:=ι (G0.out.below hb);replace K:=ι (Rg.acc K.out hb);clear hb;refine Rg.la 6 (v) ?_;go_frame;refine Rg.la 7 (.int .i64 ((0:Nat):Int)) ?_;go_frame;rw [HEQ.out] at HLB;go_wp2
  go_ret2
  exact fun _=>⟨D,gs,A,B,M,_,rfl,rfl,rfl,rfl,rfl,HIZ.out,HLB.out,K.out⟩
theorem refLeast_at (D:Nat) (gs:List (List Nat)) (A B:Nat) (gv:Value) (w:World) (h0:Ma.gchk ((D:Nat):Int) (gs.map Ma.ofN)=0) (h:Rg.Rows w gv (gs.map Ma.ofN)) (hA:A<D) (hB:B<D) :
  Calls Tryz.prog 96 #[.agg #[.int .i64 ((D:Nat):Int),gv],.int .i64 ((A:Nat):Int),.int .i64 ((B:Nat):Int)] w fun e w'=>∃ M v,e=.returned (.tuple #[v,.int .i64 0])∧OwZ w.heap.size w' v (Ma.ofN M)∧Bk.IsLab D (Bk.BR gs.length (img gs) (Bk.onep A B)) M∧Below w.heap.size w w' :=
 (refLeastZ gv _ _ _ _ w h).mono fun e w' hp=>by
  obtain ⟨D',gs',A',B',M,v,e1,e2,e3,e4,e5,e6,e7,e8⟩:=hp (lsC_z h0 ⟨by omega,by omega⟩)
  obtain rfl:D=D':=by omega
  obtain rfl:=map_ofN_inj e2
  obtain rfl:A=A':=by omega
  obtain rfl:B=B':=by omega
  exact ⟨M,v,e5,e6,e7,e8⟩
theorem OwZ.fiw {F:Nat→Prop} {w w':World} {v:Value} {M:List Nat} (h:OwZ w.heap.size w' v (Ma.ofN M)) (hl:M.length≤1000):FiW (Fup F w w') w' v M :=
 ⟨Rg.FVals.of (Rg.Vals.of_row h.row (by rw [Ma.len_ofN]; omega)) (fun k e=>.inr (h.lt k e))⟩
theorem ascT_nodup {T:List (List Nat)} (h:Asc (T.map Ma.ofN)):T.Nodup:=by
 rw [List.nodup_iff_pairwise_ne];have h1:=(asc_iff _).1 h;rw [List.pairwise_map] at h1
 exact h1.imp fun {a b} hab e=>by rw [e,lessL_irr] at hab; cases hab
theorem asc_L {T:List (List Nat)} (h:Asc (T.map Ma.ofN)):AscL T:=by
 have h1:=(asc_iff _).1 h
 exact h1.imp fun {a b} hab=>by
  cases e:lessL b a with
  | false=>rfl
  | true=>have:=lessL_trans hab e; rw [lessL_irr] at this; cases this
structure RaM (w W:World) (F:Nat→Prop) (ov lv:Value) (T Ls:List (List Nat)):Prop where
 bel:Below w.heap.size w W
 row:RowJ w.heap.size F (fun _=>False) W lv (Ls.map Ma.ofN)
 out:Rg.FRows F W ov (T.map Ma.ofN)
 Flt:∀ z,F z→z<W.heap.size
theorem RaM.up {w W W':World} {F:Nat→Prop} {ov lv:Value} {T Ls:List (List Nat)} (h:RaM w W F ov lv T Ls) (hb:Below W.heap.size W W'):RaM w W' (Fup F W W') ov lv T Ls :=
 ⟨Rg.acc h.bel hb,h.row.upk (N:=fun _=>False) (Rg.Kp.of_below hb) (fun _ _=>id) (fun _ e=>e.elim),FRows.mono (FRows.kp (M:=fun _=>False) h.out (Rg.Kp.of_below hb) (fun _ _=>id)) (fun _=>.inl),fun z g=>by
  rcases g with g | g
  ·exact Nat.lt_of_lt_of_le (h.Flt z g) hb.size
  ·exact g.2⟩
theorem RaM.withOut {w W:World} {F:Nat→Prop} {ov ov' lv:Value} {T T' Ls:List (List Nat)} (h:RaM w W F ov lv T Ls) (ho:Rg.FRows F W ov' (T'.map Ma.ofN)):RaM w W F ov' lv T' Ls:=⟨h.bel,h.row,ho,h.Flt⟩
theorem RaM.push {w W:World} {F:Nat→Prop} {ov lv u:Value} {T Ls:List (List Nat)} {x:List Nat} (h:RaM w W F ov lv T Ls) (hu:Rg.FI F W u (Ma.ofN x)) (hs:∃ a m c,u=.slice a m c) (hT:Ls.length<1000000) (ty:TypeId) :
  ∃ a c Y,(Builtin.append_ #[27,27] ty #[lv,.slice (some ⟨W.heap.size,0,none⟩) 1 1]).run Tryz.prog (W.alloc (.cells #[u] 36))=.ok (.slice a (Ls.length+1) c) Y∧RaM w Y F ov (.slice a (Ls.length+1) c) T (Ls++[x])∧Rg.FI F Y u (Ma.ofN x):=by
 obtain ⟨a,c,Y,r1,r2,r3⟩:=h.row.push hu hs h.Flt (fun _ e=>e.elim) (by rw [List.length_map]; exact hT) ty;rw [List.length_map] at r1 r2;have hoff:∀ k,F k→¬ lv.ownBlock=some k:=fun k g e=>(h.row.off k e).1 g;exact ⟨a,c,Y,r1,⟨kp_below h.bel h.bel.size r3 (fun k e=>(h.row.lt k e).1),by rw [List.map_append]; exact r2,FRows.kp h.out r3 hoff,fun z g=>Nat.lt_of_lt_of_le (h.Flt z g) r3.size⟩,Rg.FI.kp hu r3 hoff⟩
structure RdR (w:World) (v:Value) (T:List (List Nat)):Prop where
 rows:Rg.Rows w v (T.map Ma.ofN)
theorem RdR.below {w w':World} {v:Value} {T:List (List Nat)} (h:RdR w v T) (hb:Below w.heap.size w w'):RdR w' v T:=⟨h.rows.below hb⟩
theorem rows_frows {w:World} {v:Value} {ll:List (List Int)} (h:Rg.Rows w v ll):Rg.FRows (fun _=>True) w v ll:=by
 obtain ⟨us,h1,h2,h3⟩:=h;exact ⟨us,Rg.FVals.of h1 (fun _ _=>trivial),h2,fun i a b=>Rg.FVals.of (h3 i a b) (fun _ _=>trivial)⟩
theorem RdR.at {w:World} {v:Value} {T:List (List Nat)} (h:RdR w v T) {i:Nat} (hi:i<T.length):∃ b o c u,v=.slice (some ⟨b,o,none⟩) T.length c∧CL w b (o+i) u∧Rg.NP w u (T[i]):=by
 obtain ⟨us,⟨a,c,e,_,_,_,h5⟩,h2,h3⟩:=h.rows
 have hl:us.length=T.length:=by rw [h2,List.length_map]
 obtain ⟨b,o,e1,e2,e3⟩:=h5 (by omega);subst e1;have h6:=h3 i (by omega) (by rw [List.length_map]; exact hi);rw [List.getElem_map] at h6;exact ⟨b,o,c,us[i],by rw [e,hl],⟨e3 i (by omega),e2⟩,h6⟩
theorem RdR.sh {w:World} {v:Value} {T:List (List Nat)} (h:RdR w v T):∃ a c,v=.slice a T.length c:=by
 obtain ⟨us,⟨a,c,e,_⟩,h2,_⟩:=h.rows;exact ⟨a,c,by rw [e,h2,List.length_map]⟩
theorem RaM.start (w:World):RaM w w (fun _=>False) (.slice none 0 0) (.slice none 0 0) [] [] :=
 ⟨Below.refl _ _,RowJ.nil _ _ _ _ (Nat.le_refl _),⟨[],⟨none,0,rfl,Nat.le_refl _,by unfold maxLen; omega,by simp,fun h=>by simp at h⟩,Rg.FElts.nil _ _⟩,fun _ h=>h.elim⟩
theorem _root_.Go.Proofs.Bk.RcB.len {n m:Nat} {f:Nat→Nat→Nat} {y:List Nat} (h:Bk.RcB n m f y) (hf:∀ s a,s<m→a<n→f s a<n):y.length=n:=(h.inv hf).2.1
structure RiI (D:Nat) (gs T Ls:List (List Nat)):Prop where
 asc:Asc (T.map Ma.ofN)
 rc:∀ y∈T,Bk.RcB D gs.length (img gs) y
 ls:∀ b∈Ls,b∈T
theorem RiI.nil (D:Nat) (gs:List (List Nat)):RiI D gs [] []:=⟨fun i j hi=>by simp at hi,fun y hy=>(List.not_mem_nil hy).elim,fun y hy=>(List.not_mem_nil hy).elim⟩
theorem RiI.put {D:Nat} {gs T Ls T2:List (List Nat)} {M:List Nat} {k:Nat} (hg:GG D gs) (hL:Bk.LsOk D gs.length (img gs) Ls k) (h:RiI D gs T Ls) (ha:AddT T M T2) (hM:Bk.IsLab D (Bk.BR gs.length (img gs) (Bk.onep 0 k)) M) (hk:k<D):RiI D gs T2 (Ls++[M]) :=
 ⟨ha.asc,fun y hy=>by
  rcases (ha.mem y).1 hy with h1 | rfl
  ·exact h.rc y h1
  ·by_cases e:k=0
   ·subst e; exact .first (Bk.onep_first.1 hM)
   ·have h0:0<Ls.length:=by rw [hL.1]; omega
    exact Bk.RcB.base (img_lt hg) (Bk.onep_first.1 (hL.2 0 _ (List.getElem?_eq_getElem h0))) hk hM,fun b hb=>by
  rcases List.mem_append.1 hb with h1 | h1
  ·exact (ha.mem b).2 (.inl (h.ls b h1))
  ·rw [List.mem_singleton] at h1
   exact (ha.mem b).2 (.inr h1)⟩
theorem RiI.rj {D:Nat} {gs T Ls:List (List Nat)} (h:RiI D gs T Ls):Bk.RJ D gs.length (img gs) Ls T T 0 0 :=
 ⟨ascT_nodup h.asc,fun _=>id,h.rc,h.ls,fun _ _ h=>absurd h (Nat.not_lt_zero _),fun _ _ _ _ h=>absurd h (Nat.not_lt_zero _)⟩
theorem _root_.Go.Proofs.Bk.LsOk.snoc {n m:Nat} {f:Nat→Nat→Nat} {Ls:List (List Nat)} {k:Nat} {b:List Nat} (h:Bk.LsOk n m f Ls k) (hb:Bk.IsLab n (Bk.BR m f (Bk.onep 0 k)) b):Bk.LsOk n m f (Ls++[b]) (k+1):=by
 refine ⟨by rw [List.length_append,h.1]; rfl,fun q c hq=>?_⟩
 by_cases e:q<Ls.length
 ·rw [List.getElem?_append_left e] at hq
  exact h.2 q c hq
 ·have h1:=(List.getElem?_eq_some_iff.1 hq).1
  rw [List.length_append,h.1] at h1
  have h2:q=k:=by have:=h.1; simp at h1; omega
  subst h2;rw [List.getElem?_append_right (by omega)] at hq
  have e3:q - Ls.length=0:=by have:=h.1; omega
  rw [e3] at hq
  obtain rfl:b=c:=by simpa using hq
  exact hb
theorem _root_.Go.Proofs.Bk.RJ.next {n m:Nat} {f:Nat→Nat→Nat} {Ls W T:List (List Nat)} {i k:Nat} (h:Bk.RJ n m f Ls W T i k) (hk:Ls.length≤k):Bk.RJ n m f Ls W T (i+1) 0 :=
 ⟨h.nd,h.sub,h.rc,h.ls,fun i' x hi' hx b hb y hy=>by
  by_cases e:i'=i
  ·subst e
   obtain ⟨q,hq,e⟩:=List.getElem_of_mem hb;exact h.c2 x hx q b (by omega) (by rw [List.getElem?_eq_getElem hq,e]) y hy
  ·exact h.c1 i' x (by omega) hx b hb y hy,fun _ _ _ _ h=>absurd h (Nat.not_lt_zero _)⟩
theorem _root_.Go.Proofs.Bk.RJ.step {n m:Nat} {f:Nat→Nat→Nat} {Ls W T T2:List (List Nat)} {i k p:Nat} {x b y:List Nat} (h:Bk.RJ n m f Ls W T i k) (hx:W[i]?=some x) (hb:Ls[k]?=some b) (hy:Bk.IsLab n (Bk.BR m f (Bk.both n x b)) y) (hp:p<n) (hbp:Bk.IsLab n (Bk.BR m f (Bk.onep 0 p)) b) (ha:AddT T y T2):Bk.RJ n m f Ls W T2 i (k+1) :=
 ⟨ascT_nodup ha.asc,fun z hz=>(ha.mem z).2 (.inl (h.sub z hz)),fun z hz=>by
  rcases (ha.mem z).1 hz with h1 | rfl
  ·exact h.rc z h1
  ·exact .join (h.rc x (h.sub x (List.mem_of_getElem? hx))) hp hbp hy,fun z hz=>(ha.mem z).2 (.inl (h.ls z hz)),
  fun i' z hi' hz b' hb' y' hy'=>(ha.mem _).2 (.inl (h.c1 i' z hi' hz b' hb' y' hy')),fun z hz k' b' hk' hb' y' hy'=>by
  by_cases e:k'=k
  ·subst e
   rw [hx] at hz; rw [hb] at hb'
   injection hz with e1; injection hb' with e2
   subst e1 e2;rw [hy'.uniq hy]; exact (ha.mem _).2 (.inr rfl)
  ·exact (ha.mem _).2 (.inl (h.c2 z hz k' b' (by omega) hb' y' hy'))⟩
structure GrO (T T':List (List Nat)) (g:Bool):Prop where
 m1:g=true→T.length<T'.length
 m2:g=false→T'=T
theorem GrO.refl (T:List (List Nat)):GrO T T false:=⟨fun h=>(Bool.false_ne_true h).elim,fun _=>rfl⟩
theorem GrO.more {T T' T2:List (List Nat)} {y:List Nat} {b:Bool} (h:GrO T T' true) (ha:AddT T' y T2) (_:decide (y∉T')=b):GrO T T2 true :=
 ⟨fun _=>by
  have h1:=h.m1 rfl
  by_cases e:y∈T'
  ·rw [ha.old e]; exact h1
  ·rw [ha.new e]; omega,fun h=>(Bool.false_ne_true h.symm).elim⟩
theorem GrO.put {T T' T2:List (List Nat)} {y:List Nat} {b:Bool} (h:GrO T T' false) (ha:AddT T' y T2) (hb:decide (y∉T')=b):GrO T T2 b:=by
 have h1:=h.m2 rfl;subst h1;refine ⟨fun e=>?_,fun e=>?_⟩
 ·have:=ha.new (of_decide_eq_true (hb.trans e)); omega
 ·exact ha.old (by have:=of_decide_eq_false (hb.trans e); exact Decidable.not_not.1 this)
def slN:Value→Nat
 | .slice _ n _=>n
 | _=>0
def RaPost (D:Nat) (gs:List (List Nat)) (w:World) (e:Ending) (w':World):Prop:=∃ v T,e=.returned v∧Rg.Rows w' v (T.map Ma.ofN)∧Bk.AllB D gs.length (img gs) T∧AscL T∧Below w.heap.size w w'
theorem rall_any (gv:Value) (D:Nat) (gs:List (List Nat)) (w:World) (hz:Ma.gchk ((D:Nat):Int) (gs.map Ma.ofN)=0) (h:Rg.Rows w gv (gs.map Ma.ofN))
  (hbd:∀ T:List (List Nat),T.Nodup→(∀ y∈T,Bk.RcB D gs.length (img gs) y)→T.length≤200000) :
  Calls Tryz.prog 94 #[.agg #[.int .i64 ((D:Nat):Int),gv]] w (RaPost D gs w):=by
 have HBD:=ι hbd;have HZ:=ι hz;obtain ⟨D',gs',hD,hgs,hgg,hD1,hD2,hgl⟩:=gchk_ok hz
 obtain rfl:D=D':=by omega
 obtain rfl:=map_ofN_inj hgs;clear hgs hD;have HGG:=ι hgg;clear hgg hz hbd;obtain ⟨ga,gc,rfl,hga,hba⟩:=GI.enter (((D:Nat):Int)) h;have K:=ι hba;have G0:=ι hga;clear h hga hba
 go_enter Tryz.func94,Tryz.ntmps94
 go_upto_region 0 with (fail);refine wp_region_list ?_;refine Rg.lr 1 (Rg.exec_box _ _ rfl rfl) ?_;go_frame;refine Rg.la 2 (.slice none 0 0) ?_;go_frame;obtain ⟨gb,hgb⟩:∃ gb,w.heap.size=gb:=⟨_,rfl⟩;rw [hgb] at G0 ⊢;clear hgb;generalize w.alloc (.cells #[.int .i64 ((D:Nat):Int),.slice ga (gs.map Ma.ofN).length gc] 24)=w0 at *;go_upto_region 1 with (fail);refine wp_region_list ?_;refine Rg.la 3 (.slice none 0 0) ?_;go_frame;refine Rg.la 4 (.slice none 0 0) ?_;go_frame;go_upto_region 2 with (fail);refine wp_region_list ?_;refine Rg.la 5 (.int .i64 ((0:Nat):Int)) ?_;go_frame;have HWB:=ι K.out;have GB:=ι G0.out;have AM:=ι (RaM.start w0);have LO:=ι (show Bk.LsOk D gs.length (img gs) [] 0 from ⟨rfl,fun q b h=>by simp at h⟩);have RI:=ι (RiI.nil D gs);clear G0 K;go_wp2
 go_loopw [3,4,5] (fun ov lv bv wr=>∃ (k:Nat) (F:Nat→Prop) (T Ls:List (List Nat)),bv=.int .i64 ((k:Nat):Int)∧k≤D∧Hid (RaM w0 wr F ov lv T Ls)∧Hid (Bk.LsOk D gs.length (img gs) Ls k)∧Hid (RiI D gs T Ls)) (fun _ _ bv _=>D - (intOf bv).toNat)
 case atStart=>exact ⟨0,_,_,_,rfl,Nat.zero_le _,AM,LO,RI⟩
 case round =>
  clear AM LO RI;obtain ⟨k,F,T,Ls,rfl,hk,AM,LO,RI⟩:=hrel;obtain ⟨la,lc,hsh⟩:=AM.out.row.shape;rw [List.length_map] at hsh;subst hsh;obtain ⟨oa,oc,hsh⟩:=RdR.sh ⟨AM.out.out.rows⟩;subst hsh;generalize wr=wd at *;have GD:=ι (GB.out.below AM.out.bel);have HLL:=ι LO.out.1;have HTM:=ι (HBD.out T (ascT_nodup RI.out.asc) RI.out.rc)
  by_cases hkD:k<D
  case pos =>
   have HKD:=ι hkD;go_upto_region 3 with (fail);refine wp_region_list ?_;refine Rg.lm 13 (.int .i64 ((k:Nat):Int)) ?_;go_frame;refine Rg.lr 14 (exec_fieldG0 _ rfl rfl) ?_;go_frame;refine Rg.lr 15 (Rg.exec_load (v:=.int .i64 ((D:Nat):Int)) _ _ rfl ⟨gb,0,none⟩ rfl (run_loadInt GD.out.c0)) ?_;go_frame;refine Rg.lr 16 (exec_bin (R:=.bool true) .lss _ _ _ rfl rfl rfl (b_lss _ (decide_eq_true (by omega)))) ?_;go_frame;go_upto_region 5 with (fail);refine wp_region_list ?_;refine Rg.lr 20 (Rg.exec_load (v:=.agg #[.int .i64 ((D:Nat):Int),.slice ga (gs.map Ma.ofN).length gc]) _ _ rfl ⟨gb,0,none⟩ rfl (run_loadG GD.out.c0 GD.out.c1)) ?_;go_frame;refine Rg.lm 21 (.int .i64 ((k:Nat):Int)) ?_;go_frame;refine list_ask (some 22) rfl rfl _ _ (exec_fn3 96 _ _ _ _ rfl rfl rfl rfl (Jccl2 _ _)) ?_;refine (refLeast_at D gs 0 k _ wd HZ.out (GB.out.below AM.out.bel).rows (by omega) HKD.out).mono ?_
   rintro e1 w11 ⟨M,xv,rfl,how,hlab,hb⟩;have HML:=ι (show M.length=D from hlab.len);have HLB:=ι hlab;obtain ⟨xb,xc,hsh⟩:=how.sh;rw [Ma.len_ofN,HML.out] at hsh;subst hsh;clear hlab;refine ⟨_,rfl,?_⟩;go_frame;replace AM:=ι (AM.out.up hb);have XV:=ι (how.fiw (F:=F) (by rw [HML.out]; omega));generalize Fup F wd w11=F1 at *;clear hb;refine Rg.lm 19 (.tuple #[.slice xb D xc,.int .i64 0]) ?_;go_frame;refine Rg.lr 23 (exec_extract (v:=.slice xb D xc) _ _ rfl rfl rfl) ?_;go_frame;refine Rg.lr 24 (exec_extract (v:=.int .i64 0) _ _ rfl rfl rfl) ?_;go_frame;refine Rg.la 6 (.slice xb D xc) ?_;go_frame;refine Rg.la 7 (.int .i64 0) ?_;go_frame
   skip
   go_upto_region 6 with (fail);refine wp_region_list ?_;refine Rg.lm 25 (.slice la Ls.length lc) ?_;go_frame;refine Rg.lm 26 (.slice xb D xc) ?_;go_frame;clear how;obtain ⟨a9,c9,X9,r1,ham,hfx⟩:=AM.out.push XV.out.fi ⟨_,_,_,rfl⟩ (by have:=HLL.out; omega) 27;refine Rg.lr 27 (Rg.exec_buildSlice _ _ _ rfl (.slice xb D xc) rfl (run_build1L w11 _ ⟨_,_,_,rfl⟩)) ?_;go_frame;refine Rg.lr 28 (Rg.exec_append _ _ _ rfl rfl rfl r1) ?_;go_frame;refine Rg.la 4 (.slice a9 (Ls.length+1) c9) ?_;go_frame;clear AM XV GD;have AM:=ι ham;have XV:=ι (FiW.mk hfx);clear r1 ham hfx;go_upto_region 7 with (fail);refine wp_region_list ?_;refine Rg.lm 30 (.slice oa T.length oc) ?_;go_frame;refine Rg.lm 31 (.slice xb D xc) ?_;go_frame;refine list_ask (some 32) rfl rfl _ _ (exec_fn 176 _ _ _ rfl rfl rfl (Jecl1 _ _)) ?_;refine (added_any F1 D _ _ T M X9 AM.out.out XV.out.fi RI.out.asc (fun y hy=>(RI.out.rc y hy).len (img_lt HGG.out)) HML.out HTM.out).mono ?_
   rintro e1 w12 ⟨v2,T2,rfl,hfr,hadd,hb⟩;have HAD:=ι hadd;clear hadd;refine ⟨_,rfl,?_⟩;go_frame;replace AM:=ι (AM.out.up hb);replace XV:=ι (XV.out.up hb);have FR:=ι hfr;generalize Fup F1 X9 w12=F2 at *;clear hb;refine Rg.lm 29 (.tuple #[v2,.bool (decide (M∉T))]) ?_;go_frame;refine Rg.lr 33 (exec_extract (v:=v2) _ _ rfl rfl rfl) ?_;go_frame;refine Rg.lr 34 (exec_extract (v:=.bool (decide (M∉T))) _ _ rfl rfl rfl) ?_;go_frame;refine Rg.la 3 (v2) ?_;go_frame;clear hfr;have AM2:=ι (AM.out.withOut FR.out);have LO2:=ι (LO.out.snoc HLB.out);have RI2:=ι (RiI.put HGG.out LO.out RI.out HAD.out HLB.out HKD.out);clear AM FR XV;go_upto_region 4 with (fail);refine wp_region_list ?_;refine Rg.lm 17 (.int .i64 ((k:Nat):Int)) ?_;go_frame;refine Rg.lr 18 (exec_bin (R:=.int .i64 (((k+1):Nat):Int)) .add _ _ _ rfl rfl rfl (b_add _ (by omega) (by omega))) ?_;go_frame
   refine Rg.la 5 (.int .i64 (((k+1):Nat):Int)) ?_;go_frame;go_wp2
   go_roundw
   case rel=>exact ⟨k+1,_,T2,Ls++[M],by go_num,HKD.out,AM2,LO2,RI2⟩
   case measure=>simp [intOf]; have:=HKD.out; omega
  case neg =>
   have hDk:k=D:=by omega
   subst hDk;go_upto_region 3 with (fail);refine wp_region_list ?_;refine Rg.lm 13 (.int .i64 ((k:Nat):Int)) ?_;go_frame;refine Rg.lr 14 (exec_fieldG0 _ rfl rfl) ?_;go_frame;refine Rg.lr 15 (Rg.exec_load (v:=.int .i64 ((k:Nat):Int)) _ _ rfl ⟨gb,0,none⟩ rfl (run_loadInt GD.out.c0)) ?_;go_frame;refine Rg.lr 16 (exec_bin (R:=.bool false) .lss _ _ _ rfl rfl rfl (b_lss _ (decide_eq_false (by omega)))) ?_;go_frame;have OV:=ι (RdR.mk AM.out.out.rows);have LV:=ι (RdR.mk (AM.out.row.rows (by rw [List.length_map,HLL.out]; omega)));have KB:=ι (Rg.acc HWB.out AM.out.bel);have K1:=ι (Below.refl wd.heap.size wd);have HT0:Hid (∀ b∈Ls,b.length=k):=ι (fun b hb=>(RI.out.rc b (RI.out.ls b hb)).len (img_lt HGG.out));have RT:=ι (RI.out);clear AM GD HTM RI;go_wp2
   go_loopw [3] (fun ov wr=>∃ T:List (List Nat),Hid (RdR wr ov T)∧Hid (RiI k gs T Ls)∧Hid (Below wd.heap.size wd wr)) (fun ov _=>200001 - slN ov)
   case atStart=>exact ⟨T,OV,RT,K1⟩
   case round =>
    clear OV RT K1;obtain ⟨T,OV,RT,K1⟩:=hrel;obtain ⟨oa,oc,hsh⟩:=OV.out.sh;subst hsh;generalize wr=we at *;have HTM:=ι (HBD.out T (ascT_nodup RT.out.asc) RT.out.rc);go_upto_region 8 with (fail);refine wp_region_list ?_;refine Rg.la 8 (.bool false) ?_;go_frame;go_upto_region 9 with (fail);refine wp_region_list ?_;refine Rg.lm 35 (.slice oa T.length oc) ?_;go_frame;refine Rg.la 9 (.slice oa T.length oc) ?_;go_frame;go_upto_region 10 with (fail);refine wp_region_list ?_;refine Rg.la 10 (.int .i64 ((0:Nat):Int)) ?_;go_frame;have KE:=ι (Below.refl we.heap.size we);have OW:=ι OV.out;have RJ0:=ι (RT.out.rj);have HAS:=ι RT.out.asc;have HGO:=ι (GrO.refl T);go_wp2
    go_loopw [3,8,10] (fun ov gv iv wr=>∃ (i:Nat) (T':List (List Nat)) (g:Bool),iv=.int .i64 ((i:Nat):Int)∧gv=.bool g∧i≤T.length∧Hid (RdR wr ov T')∧Hid (Bk.RJ k gs.length (img gs) Ls T T' i 0)∧Hid (Asc (T'.map Ma.ofN))∧Hid (GrO T T' g)∧Hid (Below we.heap.size we wr)) (fun _ _ iv _=>T.length - (intOf iv).toNat)
    case atStart=>exact ⟨0,T,false,rfl,rfl,Nat.zero_le _,OV,RJ0,HAS,HGO,KE⟩
    case round =>
     clear OV RJ0 HAS HGO KE;obtain ⟨i,T',g,rfl,rfl,hi,OV,RJ0,HAS,HGO,KE⟩:=hrel;obtain ⟨ra,rc,hsh⟩:=OV.out.sh;subst hsh;generalize wr=wf at *
     by_cases hiT:i<T.length
     case neg =>
      have hiT2:i=T.length:=by omega
      cases g
      case false =>
       have hTT:T'=T:=HGO.out.m2 rfl
       have HALL:=ι (show Bk.AllB k gs.length (img gs) T' from by
        have h5:=RJ0.out;rw [hTT] at h5 ⊢
        exact h5.done hD1 (by omega) LO.out)
       go_upto_region 11 with (fail);refine wp_region_list ?_;refine Rg.lm 36 (.int .i64 ((i:Nat):Int)) ?_;go_frame;refine Rg.lm 37 (.slice oa T.length oc) ?_;go_frame;refine Rg.lr 38 (exec_len _ _ _ rfl Tryz.underlying27 _ _ _ rfl) ?_;go_frame;refine Rg.lr 39 (exec_bin (R:=.bool false) .lss _ _ _ rfl rfl rfl (b_lss _ (decide_eq_false (by omega)))) ?_;go_frame;go_upto_region 19 with (fail);refine wp_region_list ?_;refine Rg.lm 66 (.bool false) ?_;go_frame;refine Rg.lr 67 (exec_not _ _ false rfl rfl) ?_;go_frame;go_upto_region 20 with (fail);refine wp_region_list ?_;refine Rg.lm 68 (.slice ra T'.length rc) ?_;go_frame;refine Rg.la 2 (.slice ra T'.length rc) ?_;go_frame;go_wp2;go_ret;exact ⟨_,T',rfl,OV.out.rows,HALL.out,asc_L HAS.out,Rg.acc KB.out (Rg.acc K1.out KE.out)⟩
      case true =>
       have hlt:T.length<T'.length:=HGO.out.m1 rfl;have hT9:=HBD.out T' RJ0.out.nd RJ0.out.rc;have RT2:=ι (show RiI k gs T' Ls from ⟨HAS.out,RJ0.out.rc,RJ0.out.ls⟩);have KF:=ι (Rg.acc K1.out KE.out);go_upto_region 11 with (fail);refine wp_region_list ?_;refine Rg.lm 36 (.int .i64 ((i:Nat):Int)) ?_;go_frame;refine Rg.lm 37 (.slice oa T.length oc) ?_;go_frame;refine Rg.lr 38 (exec_len _ _ _ rfl Tryz.underlying27 _ _ _ rfl) ?_;go_frame;refine Rg.lr 39 (exec_bin (R:=.bool false) .lss _ _ _ rfl rfl rfl (b_lss _ (decide_eq_false (by omega)))) ?_;go_frame;go_upto_region 19 with (fail);refine wp_region_list ?_;refine Rg.lm 66 (.bool true) ?_;go_frame;refine Rg.lr 67 (exec_not _ _ true rfl rfl) ?_;go_frame;go_wp2
       go_roundw
       case rel=>exact ⟨T',OV,RT2,KF⟩
       case measure=>simp [slN]; omega
     case pos =>
      have HIT:=ι hiT;go_upto_region 11 with (fail);refine wp_region_list ?_;refine Rg.lm 36 (.int .i64 ((i:Nat):Int)) ?_;go_frame;refine Rg.lm 37 (.slice oa T.length oc) ?_;go_frame;refine Rg.lr 38 (exec_len _ _ _ rfl Tryz.underlying27 _ _ _ rfl) ?_;go_frame;refine Rg.lr 39 (exec_bin (R:=.bool true) .lss _ _ _ rfl rfl rfl (b_lss _ (decide_eq_true (by omega)))) ?_;go_frame;go_upto_region 13 with (fail);refine wp_region_list ?_;refine Rg.la 11 (.int .i64 ((0:Nat):Int)) ?_;go_frame;have KG:=ι (Below.refl wf.heap.size wf);have HLL2:Hid (Ls.length≤64):=ι (by have:=HLL.out; omega);go_wp2
      go_loopw [3,8,11] (fun ov gv kv wr=>∃ (j:Nat) (T':List (List Nat)) (g:Bool),kv=.int .i64 ((j:Nat):Int)∧gv=.bool g∧j≤Ls.length∧Hid (RdR wr ov T')∧Hid (Bk.RJ k gs.length (img gs) Ls T T' i j)∧Hid (Asc (T'.map Ma.ofN))∧Hid (GrO T T' g)∧Hid (Below wf.heap.size wf wr)) (fun _ _ kv _=>Ls.length - (intOf kv).toNat)
      case atStart=>exact ⟨0,T',g,rfl,rfl,Nat.zero_le _,OV,RJ0,HAS,HGO,KG⟩
      case round =>
       clear OV RJ0 HAS HGO KG;obtain ⟨j,T',g,rfl,rfl,hj,OV,RJ0,HAS,HGO,KG⟩:=hrel;obtain ⟨ra,rc,hsh⟩:=OV.out.sh;subst hsh;generalize wr=wg at *;have hll:Ls.length≤64:=HLL2.out
       by_cases hjL:j<Ls.length
       case neg =>
        have htm:T.length≤200000:=HTM.out;have hit:i<T.length:=HIT.out;have RJ2:=ι (RJ0.out.next (by omega));have KH:=ι (Rg.acc KE.out KG.out);go_upto_region 14 with (fail);refine wp_region_list ?_;refine Rg.lm 42 (.int .i64 ((j:Nat):Int)) ?_;go_frame;refine Rg.lm 43 (.slice la Ls.length lc) ?_;go_frame;refine Rg.lr 44 (exec_len _ _ _ rfl Tryz.underlying27 _ _ _ rfl) ?_;go_frame;refine Rg.lr 45 (exec_bin (R:=.bool false) .lss _ _ _ rfl rfl rfl (b_lss _ (decide_eq_false (by omega)))) ?_;go_frame;go_upto_region 12 with (fail);refine wp_region_list ?_;refine Rg.lm 40 (.int .i64 ((i:Nat):Int)) ?_;go_frame;refine Rg.lr 41 (exec_bin (R:=.int .i64 (((i+1):Nat):Int)) .add _ _ _ rfl rfl rfl (b_add _ (by omega) (by omega))) ?_;go_frame;refine Rg.la 10 (.int .i64 (((i+1):Nat):Int)) ?_;go_frame;go_wp2
        go_roundw
        case rel=>exact ⟨i+1,T',g,by go_num,rfl,HIT.out,OV,RJ2,HAS,HGO,KH⟩
        case measure=>simp [intOf]; have:=HIT.out; omega
       case pos =>
        have HJL:=ι hjL;have hit:i<T.length:=HIT.out;have KA:=ι (Rg.acc K1.out (Rg.acc KE.out KG.out));have WR:=ι (OW.out.below (Rg.acc KE.out KG.out));have LR:=ι (LV.out.below KA.out);obtain ⟨wb,wo,wc,u1,e1,hc1,hn1⟩:=WR.out.at hit;obtain ⟨lb,lo,lc2,u2,e2,hc2,hn2⟩:=LR.out.at hjL
        injection e1 with e1 _ e3
        injection e2 with e2 _ e4
        subst e1 e3 e2 e4;obtain ⟨x,hx⟩:∃ x,Hid (T[i]'hit=x):=⟨_,ι rfl⟩;obtain ⟨b,hb⟩:∃ x,Hid (Ls[j]'hjL=x):=⟨_,ι rfl⟩;rw [hx.out] at hn1;rw [hb.out] at hn2;have HX1:=ι (show T[i]?=some x by rw [List.getElem?_eq_getElem hit,hx.out]);have HB1:=ι (show Ls[j]?=some b by rw [List.getElem?_eq_getElem hjL,hb.out]);have HXR:=ι (RJ0.out.rc x (RJ0.out.sub x (List.mem_of_getElem? HX1.out)));have HBL:=ι (LO.out.2 j b HB1.out);have HBR:=ι (RJ0.out.rc b (RJ0.out.ls b (List.mem_of_getElem? HB1.out)));have C1:=ι hc1;have C2:=ι hc2;have U1:=ι (NpI.mk hn1);have U2:=ι (NpI.mk hn2);have HT9:=ι (HBD.out T' RJ0.out.nd RJ0.out.rc)
        have hjk:j<k:=by rw [← HLL.out]; exact hjL
        have HJK:=ι hjk;clear hc1 hc2 hn1 hn2
        cases g
        case false =>
         skip
         go_upto_region 14 with (fail);refine wp_region_list ?_;refine Rg.lm 42 (.int .i64 ((j:Nat):Int)) ?_;go_frame;refine Rg.lm 43 (.slice (some ⟨lb,lo,none⟩) Ls.length lc) ?_;go_frame;refine Rg.lr 44 (exec_len _ _ _ rfl Tryz.underlying27 _ _ _ rfl) ?_;go_frame;refine Rg.lr 45 (exec_bin (R:=.bool true) .lss _ _ _ rfl rfl rfl (b_lss _ (decide_eq_true (by omega)))) ?_;go_frame;go_upto_region 16 with (fail);refine wp_region_list ?_;refine Rg.la 12 (.bool false) ?_;go_frame;go_upto_region 17 with (fail);have hV0:Below wg.heap.size wg wg.drew:=(Below.refl _ _).drew;replace OV:=ι (OV.out.below hV0);replace C1:=ι (C1.out.below hV0);replace C2:=ι (C2.out.below hV0);replace U1:=ι (U1.out.below hV0);replace U2:=ι (U2.out.below hV0);replace KG:=ι (Rg.acc KG.out hV0);clear hV0;refine Rg.Any.begin (S:=Rg.Both 15 (fun _=>True) (fun W=>Below wg.drew.heap.size wg.drew W)) mix ?_
         generalize wg.drew=w131 at *;have hS:∀ (l:Array Bool) W,Below w131.heap.size w131 W→Rg.Both 15 (fun _=>True) (fun W=>Below w131.heap.size w131 W) l W:=fun l W h=>⟨.inr trivial,h⟩;have hI:Below w131.heap.size w131 w131:=Below.refl _ _;refine Rg.tm 0 15 (.slice ra T'.length rc) 49 (hS _ _ hI) ?_;go_frame;refine Rg.tm 1 15 (.slice (some ⟨wb,wo,none⟩) T.length oc) 50 (hS _ _ hI) ?_;go_frame;refine Rg.tm 2 15 (.int .i64 ((i:Nat):Int)) 51 (hS _ _ hI) ?_;go_frame;refine Rg.tg 3 15 (.pointer (some ⟨wb,wo+i,none⟩)) 52 rfl rfl (Rg.yields_index slIntss _ _ rfl rfl wb (wo) (T.length) oc (i) rfl rfl hit) (hS _ _ hI) ?_;go_frame;refine Rg.tg 4 15 (u1) 53 rfl rfl (Rg.yields_cell _ _ rfl rfl ⟨wb,wo+i,none⟩ rfl (fun W hW=>Rg.run_loadSl _ _ Tryz.underlying36 ((Below.cell (p:=⟨wb,wo+i,none⟩) hW C1.out.lt).trans C1.out.cell))) (hS _ _ hI) ?_;go_frame;refine Rg.tm 5 15 (.slice (some ⟨lb,lo,none⟩) Ls.length lc) 54 (hS _ _ hI) ?_;go_frame
         refine Rg.tm 6 15 (.int .i64 ((j:Nat):Int)) 55 (hS _ _ hI) ?_;go_frame;refine Rg.tg 7 15 (.pointer (some ⟨lb,lo+j,none⟩)) 56 rfl rfl (Rg.yields_index slIntss _ _ rfl rfl lb (lo) (Ls.length) lc (j) rfl rfl hjL) (hS _ _ hI) ?_;go_frame;refine Rg.tg 8 15 (u2) 57 rfl rfl (Rg.yields_cell _ _ rfl rfl ⟨lb,lo+j,none⟩ rfl (fun W hW=>Rg.run_loadSl _ _ Tryz.underlying36 ((Below.cell (p:=⟨lb,lo+j,none⟩) hW C2.out.lt).trans C2.out.cell))) (hS _ _ hI) ?_;go_frame;refine Rg.Any.one (i:=9) (by kernel_rfl) (Rg.Any.ask (some 58) rfl rfl rfl _ _ (exec_fn 177 _ _ _ rfl rfl rfl (Jecl2 _ _)) ?_);refine (rjoined_any k gs.length (img gs) _ _ x b w131 hD1 hD2 U1.out.i U2.out.i (HXR.out.len (img_lt HGG.out)) (HBR.out.len (img_lt HGG.out)) (HXR.out.inv (img_lt HGG.out)).1 (HBR.out.inv (img_lt HGG.out)).1 (img_lt HGG.out)).mono ?_;rintro e1 w132 ⟨yv,y,rfl,how,hlab,hb⟩;have HYL:=ι hlab
         have hyi:=how.ints (by rw [Ma.len_ofN,hlab.len]; omega);obtain ⟨bm,hbm⟩:∃ b,Hid (decide (y∉T')=b):=⟨_,ι rfl⟩;clear hlab how;have hI2_0:=Rg.acc hI hb;clear hb hI;refine ⟨_,rfl,(hS _ _ hI2_0),?_⟩;go_frame;have YV:=ι (NpI.mk hyi);refine Rg.Any.one (i:=10) (by kernel_rfl) (Rg.Any.ask (some 59) rfl rfl rfl _ _ (exec_fn 176 _ _ _ rfl rfl rfl (Jecl1 _ _)) ?_);refine (added_any (fun _=>True) k _ _ T' y w132 (rows_frows (OV.out.below hI2_0).rows) (Rg.FVals.of YV.out.i (fun _ _=>trivial)) HAS.out (fun z hz=>(RJ0.out.rc z hz).len (img_lt HGG.out)) HYL.out.len HT9.out).mono ?_;rintro e1 w133 ⟨v9,T9,rfl,hfr,hadd,hb⟩;rw [hbm.out];have HAD:=ι hadd;have hrr:=FRows.rows hfr;clear hfr hadd;have hI3_0:=Rg.acc hI2_0 hb;have hI3_1:=hb;clear hb hI2_0;refine ⟨_,rfl,(hS _ _ hI3_0),?_⟩;go_frame;have O9:=ι (RdR.mk hrr);refine Rg.tm 11 15 (.tuple #[v9,.bool bm]) 48 (hS _ _ hI3_0) ?_;go_frame
         refine Rg.tg 12 15 (v9) 60 rfl rfl (.inl ⟨rfl,fun w _=>exec_extract (v:=v9) _ _ rfl rfl rfl⟩) (hS _ _ hI3_0) ?_;go_frame;refine Rg.tg 13 15 (.bool bm) 61 rfl rfl (.inl ⟨rfl,fun w _=>exec_extract (v:=.bool bm) _ _ rfl rfl rfl⟩) (hS _ _ hI3_0) ?_;go_frame;refine Rg.tg 14 15 (v9) 3 rfl rfl (.inl ⟨rfl,fun w _=>Rg.exec_assign (v:=v9) _ rfl rfl⟩) (hS _ _ hI3_0) ?_;go_frame;refine Rg.Any.one (i:=15) (by kernel_rfl) (Rg.Any.run (some 12) rfl rfl rfl (Rg.xa (.bool bm) _ rfl rfl) (hS _ _ hI3_0) ?_);go_frame;refine Rg.Any.done (by kernel_rfl) ?_ _;replace OV:=ι (OV.out.below hI3_0);replace C1:=ι (C1.out.below hI3_0);replace C2:=ι (C2.out.below hI3_0);replace U1:=ι (U1.out.below hI3_0);replace U2:=ι (U2.out.below hI3_0);replace YV:=ι (YV.out.below hI3_1);replace KG:=ι (Rg.acc KG.out hI3_0);clear hS hI3_0 hI3_1
         skip
         go_upto_region 18 with (fail);refine wp_region_list ?_;refine Rg.lm 62 (.bool false) ?_;go_frame;refine Rg.lm 63 (.bool false) ?_;go_frame;refine listW_run (some 64) rfl rfl (Rg.xm (.bool bm) _ rfl rfl) ?_;go_frame;refine Rg.lr 65 (exec_pickF (v:=.bool bm) _ _ _ rfl rfl rfl) ?_;go_frame;refine Rg.la 8 (.bool bm) ?_;go_frame;go_upto_region 15 with (fail);refine wp_region_list ?_;refine Rg.lm 46 (.int .i64 ((j:Nat):Int)) ?_;go_frame;refine Rg.lr 47 (exec_bin (R:=.int .i64 (((j+1):Nat):Int)) .add _ _ _ rfl rfl rfl (b_add _ (by omega) (by omega))) ?_;go_frame;refine Rg.la 11 (.int .i64 (((j+1):Nat):Int)) ?_;go_frame;have RJ9:=ι (RJ0.out.step HX1.out HB1.out HYL.out HJK.out HBL.out HAD.out);have HAS9:=ι HAD.out.asc;have HGO9:=ι (HGO.out.put HAD.out hbm.out);go_wp2
         go_roundw
         case rel=>exact ⟨j+1,T9,bm,by go_num,rfl,HJL.out,O9,RJ9,HAS9,HGO9,KG⟩
         case measure=>simp [intOf]; have:=HJL.out; omega
        case true =>
         skip
         go_upto_region 14 with (fail);refine wp_region_list ?_;refine Rg.lm 42 (.int .i64 ((j:Nat):Int)) ?_;go_frame;refine Rg.lm 43 (.slice (some ⟨lb,lo,none⟩) Ls.length lc) ?_;go_frame;refine Rg.lr 44 (exec_len _ _ _ rfl Tryz.underlying27 _ _ _ rfl) ?_;go_frame;refine Rg.lr 45 (exec_bin (R:=.bool true) .lss _ _ _ rfl rfl rfl (b_lss _ (decide_eq_true (by omega)))) ?_;go_frame;go_upto_region 16 with (fail);refine wp_region_list ?_;refine Rg.la 12 (.bool false) ?_;go_frame;go_upto_region 17 with (fail);have hV0:Below wg.heap.size wg wg.drew:=(Below.refl _ _).drew;replace OV:=ι (OV.out.below hV0);replace C1:=ι (C1.out.below hV0);replace C2:=ι (C2.out.below hV0);replace U1:=ι (U1.out.below hV0);replace U2:=ι (U2.out.below hV0);replace KG:=ι (Rg.acc KG.out hV0);clear hV0;refine Rg.Any.begin (S:=Rg.Both 15 (fun _=>True) (fun W=>Below wg.drew.heap.size wg.drew W)) mix ?_
         generalize wg.drew=w181 at *;have hS:∀ (l:Array Bool) W,Below w181.heap.size w181 W→Rg.Both 15 (fun _=>True) (fun W=>Below w181.heap.size w181 W) l W:=fun l W h=>⟨.inr trivial,h⟩;have hI:Below w181.heap.size w181 w181:=Below.refl _ _;refine Rg.tm 0 15 (.slice ra T'.length rc) 49 (hS _ _ hI) ?_;go_frame;refine Rg.tm 1 15 (.slice (some ⟨wb,wo,none⟩) T.length oc) 50 (hS _ _ hI) ?_;go_frame;refine Rg.tm 2 15 (.int .i64 ((i:Nat):Int)) 51 (hS _ _ hI) ?_;go_frame;refine Rg.tg 3 15 (.pointer (some ⟨wb,wo+i,none⟩)) 52 rfl rfl (Rg.yields_index slIntss _ _ rfl rfl wb (wo) (T.length) oc (i) rfl rfl hit) (hS _ _ hI) ?_;go_frame;refine Rg.tg 4 15 (u1) 53 rfl rfl (Rg.yields_cell _ _ rfl rfl ⟨wb,wo+i,none⟩ rfl (fun W hW=>Rg.run_loadSl _ _ Tryz.underlying36 ((Below.cell (p:=⟨wb,wo+i,none⟩) hW C1.out.lt).trans C1.out.cell))) (hS _ _ hI) ?_;go_frame;refine Rg.tm 5 15 (.slice (some ⟨lb,lo,none⟩) Ls.length lc) 54 (hS _ _ hI) ?_;go_frame
         refine Rg.tm 6 15 (.int .i64 ((j:Nat):Int)) 55 (hS _ _ hI) ?_;go_frame;refine Rg.tg 7 15 (.pointer (some ⟨lb,lo+j,none⟩)) 56 rfl rfl (Rg.yields_index slIntss _ _ rfl rfl lb (lo) (Ls.length) lc (j) rfl rfl hjL) (hS _ _ hI) ?_;go_frame;refine Rg.tg 8 15 (u2) 57 rfl rfl (Rg.yields_cell _ _ rfl rfl ⟨lb,lo+j,none⟩ rfl (fun W hW=>Rg.run_loadSl _ _ Tryz.underlying36 ((Below.cell (p:=⟨lb,lo+j,none⟩) hW C2.out.lt).trans C2.out.cell))) (hS _ _ hI) ?_;go_frame;refine Rg.Any.one (i:=9) (by kernel_rfl) (Rg.Any.ask (some 58) rfl rfl rfl _ _ (exec_fn 177 _ _ _ rfl rfl rfl (Jecl2 _ _)) ?_);refine (rjoined_any k gs.length (img gs) _ _ x b w181 hD1 hD2 U1.out.i U2.out.i (HXR.out.len (img_lt HGG.out)) (HBR.out.len (img_lt HGG.out)) (HXR.out.inv (img_lt HGG.out)).1 (HBR.out.inv (img_lt HGG.out)).1 (img_lt HGG.out)).mono ?_;rintro e1 w182 ⟨yv,y,rfl,how,hlab,hb⟩;have HYL:=ι hlab
         have hyi:=how.ints (by rw [Ma.len_ofN,hlab.len]; omega);obtain ⟨bm,hbm⟩:∃ b,Hid (decide (y∉T')=b):=⟨_,ι rfl⟩;clear hlab how;have hI4_0:=Rg.acc hI hb;clear hb hI;refine ⟨_,rfl,(hS _ _ hI4_0),?_⟩;go_frame;have YV:=ι (NpI.mk hyi);refine Rg.Any.one (i:=10) (by kernel_rfl) (Rg.Any.ask (some 59) rfl rfl rfl _ _ (exec_fn 176 _ _ _ rfl rfl rfl (Jecl1 _ _)) ?_);refine (added_any (fun _=>True) k _ _ T' y w182 (rows_frows (OV.out.below hI4_0).rows) (Rg.FVals.of YV.out.i (fun _ _=>trivial)) HAS.out (fun z hz=>(RJ0.out.rc z hz).len (img_lt HGG.out)) HYL.out.len HT9.out).mono ?_;rintro e1 w183 ⟨v9,T9,rfl,hfr,hadd,hb⟩;rw [hbm.out];have HAD:=ι hadd;have hrr:=FRows.rows hfr;clear hfr hadd;have hI5_0:=Rg.acc hI4_0 hb;have hI5_1:=hb;clear hb hI4_0;refine ⟨_,rfl,(hS _ _ hI5_0),?_⟩;go_frame;have O9:=ι (RdR.mk hrr);refine Rg.tm 11 15 (.tuple #[v9,.bool bm]) 48 (hS _ _ hI5_0) ?_;go_frame
         refine Rg.tg 12 15 (v9) 60 rfl rfl (.inl ⟨rfl,fun w _=>exec_extract (v:=v9) _ _ rfl rfl rfl⟩) (hS _ _ hI5_0) ?_;go_frame;refine Rg.tg 13 15 (.bool bm) 61 rfl rfl (.inl ⟨rfl,fun w _=>exec_extract (v:=.bool bm) _ _ rfl rfl rfl⟩) (hS _ _ hI5_0) ?_;go_frame;refine Rg.tg 14 15 (v9) 3 rfl rfl (.inl ⟨rfl,fun w _=>Rg.exec_assign (v:=v9) _ rfl rfl⟩) (hS _ _ hI5_0) ?_;go_frame;refine Rg.Any.one (i:=15) (by kernel_rfl) (Rg.Any.run (some 12) rfl rfl rfl (Rg.xa (.bool bm) _ rfl rfl) (hS _ _ hI5_0) ?_);go_frame;refine Rg.Any.done (by kernel_rfl) ?_ _;replace OV:=ι (OV.out.below hI5_0);replace C1:=ι (C1.out.below hI5_0);replace C2:=ι (C2.out.below hI5_0);replace U1:=ι (U1.out.below hI5_0);replace U2:=ι (U2.out.below hI5_0);replace YV:=ι (YV.out.below hI5_1);replace KG:=ι (Rg.acc KG.out hI5_0);clear hS hI5_0 hI5_1
         skip
         go_upto_region 18 with (fail);refine wp_region_list ?_;refine Rg.lm 62 (.bool true) ?_;go_frame;refine Rg.lm 63 (.bool true) ?_;go_frame;refine listW_pass (some 64) (by kernel_rfl) rfl ?_;go_frame;refine Rg.lr 65 (exec_pickT (v:=.bool true) _ _ _ rfl rfl rfl) ?_;go_frame;refine Rg.la 8 (.bool true) ?_;go_frame;go_upto_region 15 with (fail);refine wp_region_list ?_;refine Rg.lm 46 (.int .i64 ((j:Nat):Int)) ?_;go_frame;refine Rg.lr 47 (exec_bin (R:=.int .i64 (((j+1):Nat):Int)) .add _ _ _ rfl rfl rfl (b_add _ (by omega) (by omega))) ?_;go_frame;refine Rg.la 11 (.int .i64 (((j+1):Nat):Int)) ?_;go_frame;have RJ9:=ι (RJ0.out.step HX1.out HB1.out HYL.out HJK.out HBL.out HAD.out);have HAS9:=ι HAD.out.asc;have HGO9:=ι (HGO.out.more HAD.out hbm.out);go_wp2
         go_roundw
         case rel=>exact ⟨j+1,T9,true,by go_num,rfl,HJL.out,O9,RJ9,HAS9,HGO9,KG⟩
         case measure=>simp [intOf]; have:=HJL.out; omega
end Go.Proofs.YthehbckogieimaaGreat
