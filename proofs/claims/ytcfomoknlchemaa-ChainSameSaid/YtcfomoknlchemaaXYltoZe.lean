/- Lemmas and contracts on the way to the statement; no condition of their own beyond those written. -/
import Derived.Test.YtcfomoknlchemaaXYatoYn
import Derived.Laws.OwnMore
import Derived.ChangeKeysEq
import Derived.Laws.Cells
import Derived.Laws.Rows
import Derived.Laws.Tables
import Derived.Deep.WholeRow
import Derived.Deep.OwnRows
import Derived.Deep.CutRange
import Derived.Deep.CutBlock
import Derived.IntWalk
import Derived.Great.BuildSlice
import Derived.ArgAppend
import Derived.Laws.CopyOwn
import Derived.StillTailTactics
import Derived.Deep.MidRow
import Derived.WalkSpells
import Derived.WalkLawsBesides
import Derived.Maps.AppendAt
import Derived.OwnWalk
import Derived.OrdersHeld
import Derived.WalkKit
import Derived.Lib.Hide
import Derived.Test.YtcfomoknlchemaaProg
import Derived.Outline
import Derived.Deep.DeepFit
import Derived.BigQuiet
import Derived.Deep.QuietTactic
import Derived.Sort.OwnSortedInts
import Derived.WideMake
import Derived.MapKept
import Derived.ChangeMaps5
import Derived.Shelf.Sort.Plain
import Derived.RangeFuncBox
import Derived.RangeFuncLeaves
import Derived.Shelf.Abstract
import Derived.OwnWalkIn
import Derived.TacticsInMore
import Derived.LoopNIn
import Derived.LoopIn
import Derived.RangeFuncWrites
import Derived.RangeFuncNested
import Derived.Sort.CutIn
import Derived.OrdersIn
import Derived.TacticsIn
import Derived.Lib.ConvBytes
import Derived.Deep.LoopGhost
import Derived.Lib.SlicesSearch
set_option linter.unusedVariables false
set_option linter.unusedSimpArgs false
set_option maxRecDepth 100000
set_option maxHeartbeats 8000000
namespace Go.Proofs.Ytcfomoknlchemaa
open Go.RowKit
open Go.Proofs
open Go.Proofs.Ob
open Go.Proofs.Cm (Tr TabOk)
attribute [local irreducible] Go.Calls Go.wpList
theorem Ylcl1 (args : Array Value) (w : World) : (callFunc 118 args).run Try.prog w = .ok (.enter 118 args) w := by kernel_rfl
theorem Ylcl2 (args : Array Value) (w : World) : (callFunc 119 args).run Try.prog w = .ok (.enter 119 args) w := by kernel_rfl
theorem Ylcl4 (args : Array Value) (w : World) : (callFunc 122 args).run Try.prog w = .ok (.enter 122 args) w := by kernel_rfl
theorem Ylcl5 (args : Array Value) (w : World) : (callFunc 124 args).run Try.prog w = .ok (.enter 124 args) w := by kernel_rfl
theorem infoPtb : (Try.prog.info? 146).map (fun i => (i.zero, i.size, i.bytes)) = some (some (.pointer none), 1, 8) := by kernel_rfl
theorem exec_buildTbC {o : Oper} {a : Act} {w : World} {v : Int} {cT : Array Value} (hc : Hid (zT.toArray.setIfInBounds 0 (.int .i64 v) = cT)) (x : Operand) (ho : o.op = .build 150 #[(0, x)]) (hx : a.eval x = .int .i64 v) :
  (execOp a.eval o).run Try.prog w = .ok (.value (.agg cT)) w := by
 rw [← hc.out];exact exec_buildTb x ho hx
theorem exec_allocPt {o : Oper} {a : Act} {w : World} (ho : o.op = .alloc 146) : (execOp a.eval o).run Try.prog w = .ok (.value (.pointer (some ⟨w.heap.size, 0, none⟩))) (w.alloc (.cells #[.pointer none] 146)) := by
 obtain ⟨i0, hi, hz0, hz1, hz2⟩ := info_parts infoPtb;unfold execOp;simp [ho, Instr.alloc, typeInfo, zeroValue, hi, hz0, newVar, newRow, Value.cells, Result.andThen]
theorem run_storePt {w : World} {b o : Nat} {u : Value} (v : Option Addr) (h : w.cell? ⟨b, o, none⟩ = some u) (hf : w.frozen? ⟨b, o, none⟩ = false) :
  (storeVar 146 ⟨b, o, none⟩ (.pointer v)).run Try.prog w = .ok () (w.setCell ⟨b, o, none⟩ (.pointer v)) := by
 obtain ⟨i0, hi, hz0, hz1, hz2⟩ := info_parts infoPtb
 have h0 : (⟨b, o, none⟩ : Addr).add 0 = ⟨b, o, none⟩ := by simp [Addr.add]
 simp [storeVar, sizeOf, typeInfo, hi, hz1, Value.cells, storeCells, store, h0];simp [Sem.run, h, hf]
theorem mod_i {x : Int} {m mb i : Nat} {w : World} (h0 : 0 < m) (h1 : m ≤ 1000000) (hc : CW w mb (.int .i64 ((m : Nat) : Int))) (hi : Hid (pickV x ((m : Nat) : Int) = ((i : Nat) : Int))) : Calls Try.prog 122 #[.int .i64 x, .pointer (some ⟨mb, 0, none⟩)] w fun e w' => e = .returned (.int .i64 ((i : Nat) : Int)) ∧ Below w.heap.size w w' := by
 rw [← hi.out];exact chMod_any x h0 h1 hc
theorem pRandom_any (gv nv : Value) (d : Int) (ll : List (List Int)) (nums : List Int) (w : World) (h : Rg.Rows w gv ll) (hnu : Rg.Ints w nv nums) :
  Calls Try.prog 72 #[.agg #[.int .i64 d, gv], nv] w (RndPost d ll nums w) := by
 obtain ⟨na, nc, rfl, _⟩ := hnu.shape;obtain ⟨ga, gc, rfl, hga, hba⟩ := GI.enter (d) h;have K := ι hba;have G0 := ι hga;clear h hga hba;have NU := ι (Rg.Ints.below hnu K.out);clear hnu
 go_enter Try.func72, Try.ntmps72
 go_upto_region 0 with (fail);refine wp_region_list ?_;refine Rg.lr 2 (Rg.exec_box _ _ rfl rfl) ?_;go_frame;generalize w.alloc (.cells #[.int .i64 d, .slice ga ll.length gc] 26) = w0 at *;have HW0 := ι K.out.size;have hnew := Tri.new w0 (.int .i64 0) (.slice none 0 0) (.slice none 0 0);refine Rg.lr 4 (exec_allocC rfl) ?_;go_frame;have hb := (Below.refl w0.heap.size w0).alloc (Nat.le_refl _) (.cells #[.int .i64 0, .slice none 0 0, .slice none 0 0] 32);generalize w0.alloc (.cells #[.int .i64 0, .slice none 0 0, .slice none 0 0] 32) = w1 at *;replace G0 := ι (G0.out.below hb);replace NU := ι (NU.out.below hb);replace K := ι (Rg.acc K.out hb);clear hb;have FT := ι hnew;clear hnew;go_upto_region 1 with (fail);refine wp_region_list ?_;refine Rg.lr 17 (Rg.exec_load (v := .agg #[.int .i64 d, .slice ga ll.length gc]) _ _ rfl ⟨w.heap.size, 0, none⟩ rfl (run_loadG G0.out.c0 G0.out.c1)) ?_;go_frame;refine list_ask (some 18) rfl rfl _ _ (exec_fn1 48 _ _ rfl rfl (Wbcl0 _ _)) ?_
 refine (orbitCheck_any _ _ _ w1 G0.out.rows).mono ?_;rintro e1 w2 ⟨rfl, hb⟩;refine ⟨_, rfl, ?_⟩;go_frame;replace G0 := ι (G0.out.below hb);replace NU := ι (NU.out.below hb);replace FT := ι (FT.out.below hb);replace K := ι (Rg.acc K.out hb);clear hb;refine Rg.lr 6 (Rg.xa (.int .i64 (Ma.gchk d ll)) _ rfl rfl) ?_;go_frame
 by_cases hz : Ma.gchk d ll = 0
 case neg =>
  skip
  go_upto_region 2 with (fail);refine wp_region_list ?_;refine Rg.lr 19 (Rg.xm (.int .i64 (Ma.gchk d ll)) _ rfl rfl) ?_;go_frame;refine Rg.lr 20 (exec_bin (R := .bool true) .neq _ _ _ rfl rfl rfl (b_neqB _ (decide_eq_true (by omega)))) ?_;go_frame;go_upto_region 3 with (fail);refine wp_region_list ?_;refine Rg.lr 21 (exec_buildC0 rfl) ?_;go_frame;refine Rg.lr 22 (Rg.xm (.int .i64 (Ma.gchk d ll)) _ rfl rfl) ?_;go_frame;refine Rg.list_skip none rfl rfl (Rg.exec_store _ _ _ rfl _ rfl _ rfl (run_storeC _ _ _ _ _ _ _ FT.out)) ?_;go_frame;refine Rg.lr 5 (Rg.xa (.int .i64 (Ma.gchk d ll)) _ rfl rfl) ?_;go_frame;have htt := FT.out.set (.int .i64 0) (.slice none 0 0) (.slice none 0 0);have hkf := ((K.out.setCell (p := ⟨w0.heap.size, 0, none⟩) HW0.out (.int .i64 0)).setCell (p := ⟨w0.heap.size, 1, none⟩) HW0.out (.slice none 0 0)).setCell (p := ⟨w0.heap.size, 2, none⟩) HW0.out (.slice none 0 0);generalize ((w2.setCell ⟨w0.heap.size, 0, none⟩ (.int .i64 0)).setCell ⟨w0.heap.size, 1, none⟩ (.slice none 0 0)).setCell ⟨w0.heap.size, 2, none⟩ (.slice none 0 0) = w99 at *
  have HTT := ι htt
  have HFI := ι (show RndPost d ll nums w (.returned (.tuple #[zeroC, .int .i64 (Ma.gchk d ll)])) w99 from
   ⟨_, by rw [rndc_bad hz], .inl ⟨by rw [rndc_bad hz]; exact hz, rfl⟩, hkf⟩)
  clear htt hkf;go_wp2;exact bodyPost_ret (results_cellC2 (p := 4) (u := 5) rfl _ rfl rfl HTT.out) rfl HFI.out
 go_upto_region 2 with (fail);refine wp_region_list ?_;refine Rg.lr 19 (Rg.xm (.int .i64 (Ma.gchk d ll)) _ rfl rfl) ?_;go_frame;refine Rg.lr 20 (exec_bin (R := .bool false) .neq _ _ _ rfl rfl rfl (b_neqB _ (decide_eq_false (by omega)))) ?_;go_frame
 by_cases hlong : 1000 < nums.length
 case pos =>
  skip
  go_upto_region 4 with (fail);refine wp_region_list ?_;refine Rg.lr 23 (Rg.xm (.slice na nums.length nc) _ rfl rfl) ?_;go_frame;refine Rg.lr 24 (exec_len _ _ _ rfl Try.underlying22 _ _ _ rfl) ?_;go_frame;refine Rg.lr 25 (exec_bin (R := .bool true) .gtr _ _ _ rfl rfl rfl (b_gtr _ (decide_eq_true (by omega)))) ?_;go_frame;go_upto_region 5 with (fail);refine wp_region_list ?_;refine Rg.lr 26 (exec_buildC0 rfl) ?_;go_frame;refine Rg.list_skip none rfl rfl (Rg.exec_store _ _ _ rfl _ rfl _ rfl (run_storeC _ _ _ _ _ _ _ FT.out)) ?_;go_frame;refine Rg.lr 5 (Rg.xa (.int .i64 ((4 : Nat) : Int)) _ rfl rfl) ?_;go_frame;have htt := FT.out.set (.int .i64 0) (.slice none 0 0) (.slice none 0 0);have hkf := ((K.out.setCell (p := ⟨w0.heap.size, 0, none⟩) HW0.out (.int .i64 0)).setCell (p := ⟨w0.heap.size, 1, none⟩) HW0.out (.slice none 0 0)).setCell (p := ⟨w0.heap.size, 2, none⟩) HW0.out (.slice none 0 0)
  generalize ((w2.setCell ⟨w0.heap.size, 0, none⟩ (.int .i64 0)).setCell ⟨w0.heap.size, 1, none⟩ (.slice none 0 0)).setCell ⟨w0.heap.size, 2, none⟩ (.slice none 0 0) = w99 at *;have HTT := ι htt
  have HFI := ι (show RndPost d ll nums w (.returned (.tuple #[zeroC, .int .i64 (4)])) w99 from
   ⟨_, by rw [rndc_long hz hlong], .inl ⟨by rw [rndc_long hz hlong]; decide, rfl⟩, hkf⟩)
  clear htt hkf;go_wp2;exact bodyPost_ret (results_cellC2 (p := 4) (u := 5) rfl _ rfl rfl HTT.out) rfl HFI.out
 go_upto_region 4 with (fail);refine wp_region_list ?_;refine Rg.lr 23 (Rg.xm (.slice na nums.length nc) _ rfl rfl) ?_;go_frame;refine Rg.lr 24 (exec_len _ _ _ rfl Try.underlying22 _ _ _ rfl) ?_;go_frame;refine Rg.lr 25 (exec_bin (R := .bool false) .gtr _ _ _ rfl rfl rfl (b_gtr _ (decide_eq_false (by omega)))) ?_;go_frame;obtain ⟨n, gs, hdn, hll, hgd, hn1, hn2, hgl, hl16⟩ := ok_of hz;subst hdn;have HLL := ι hll;have HGL := ι hgl;have HGD := ι hgd;have HZ := ι hz;have HLG := ι hlong;have HL16 := ι hl16;clear hll hgl hgd hz hlong;have HC0 := ι (show CF (fun k => k < w2.heap.size) w2 w.heap.size 0 (.int .i64 ((n : Nat) : Int)) from ⟨G0.out.c0, G0.out.lt, G0.out.lt⟩);have HC1 := ι (show CF (fun k => k < w2.heap.size) w2 w.heap.size 1 (.slice ga ll.length gc) from ⟨G0.out.c1, G0.out.lt, G0.out.lt⟩);have HFR := ι (show Rg.FRows (fun k => k < w2.heap.size) w2 (.slice ga ll.length gc) (gs.map Ma.ofN) from Rg.FRows.old (by have := G0.out.rows; rw [show gs.map Ma.ofN = ll from HLL.out.symm]; exact this))
 have HNF := ι (show NF (fun k => k < w2.heap.size) w2 (.slice na nums.length nc) nums from Rg.FI.old NU.out);have KB := K;have FT0 := FT;clear K FT;have K := ι (Below.refl w2.heap.size w2);obtain ⟨cT, hcT⟩ : ∃ c, Hid (zT.toArray.setIfInBounds 0 (Value.int .i64 ((n : Nat) : Int)) = c) := ⟨_, ι rfl⟩;go_upto_region 6 with (fail);refine wp_region_list ?_;refine Rg.lr 27 (exec_fieldG0 _ rfl rfl) ?_;go_frame;refine Rg.lr 28 (Rg.exec_load (v := .int .i64 ((n : Nat) : Int)) _ _ rfl ⟨w.heap.size, 0, none⟩ rfl (run_loadInt ((Below.cell (p := ⟨w.heap.size, 0, none⟩) K.out G0.out.lt).trans G0.out.c0))) ?_;go_frame;refine Rg.lr 29 (exec_buildTbC hcT _ rfl rfl) ?_;go_frame;have hpt := PtAt.new (F := fun k => k < w2.heap.size) (w := w2) (fun _ h => h) n;rw [hcT.out] at hpt;refine Rg.lr 30 (Rg.exec_box _ _ rfl rfl) ?_;go_frame;have hb := (Below.refl w2.heap.size w2).alloc (Nat.le_refl _) (.cells cT 150)
 generalize w2.alloc (.cells cT 150) = w3 at *;replace K := ι (Rg.acc K.out hb);clear hb;have HT := ι hpt;have HTL := ι HT.out.lt;have hcp := CW.new w3 (.pointer none) 146;refine Rg.lr 7 (exec_allocPt rfl) ?_;go_frame;have hb := (Below.refl w3.heap.size w3).alloc (Nat.le_refl _) (.cells #[.pointer none] 146);generalize w3.alloc (.cells #[.pointer none] 146) = w4 at *;replace HT := ι (HT.out.below hb);replace K := ι (Rg.acc K.out hb);clear hb;have CP := ι hcp;refine Rg.list_skip none rfl rfl (Rg.exec_store _ _ _ rfl _ rfl _ rfl (run_storePt _ CP.out.c CP.out.f)) ?_;go_frame;have hk6 : Rg.Kp (fun z => z = w3.heap.size) w4 (w4.setCell ⟨w3.heap.size, 0, none⟩ (.pointer (some ⟨w2.heap.size, 0, none⟩))) := Rg.Kp.of_setCell rfl;have HPT := ι (show w2.heap.size < w3.heap.size from HTL.out);have HT2 := ι (HT.out.kp hk6 (fun z hz e => by have := HPT.out; omega) (fun e => by have := HPT.out; omega))
 have CP2 := ι (CP.out.set (.pointer (some ⟨w2.heap.size, 0, none⟩)));have K2 := ι (K.out.setCell (p := ⟨w3.heap.size, 0, none⟩) (by have := HPT.out; exact Nat.le_of_lt this) (.pointer (some ⟨w2.heap.size, 0, none⟩)));have HPL := ι CP2.out.lt;generalize w4.setCell ⟨w3.heap.size, 0, none⟩ (.pointer (some ⟨w2.heap.size, 0, none⟩)) = w20 at *;clear hk6 HT CP K HTL hpt hcp hcT;go_upto_region 7 with (fail);refine wp_region_list ?_;refine Rg.lr 31 (exec_fieldG _ rfl rfl) ?_;go_frame;refine Rg.lr 32 (Rg.exec_load (v := .slice ga ll.length gc) _ _ rfl ⟨w.heap.size, 1, none⟩ rfl (Rg.run_loadSl _ _ Try.underlying24 ((Below.cell (p := ⟨w.heap.size, 1, none⟩) K2.out G0.out.lt).trans G0.out.c1))) ?_;go_frame;refine list_ask (some 33) rfl rfl _ _ (exec_fn1 118 _ _ rfl rfl (Ylcl1 _ _)) ?_;refine (ClonePs_f _ gs w20 (fun k hk => by have := K2.out.size; omega) (FRows.kp HFR.out (M := fun _ => False) (Rg.Kp.of_below K2.out) (fun _ _ => id)) (by have := HGL.out; have := HL16.out; omega)).mono ?_
 rintro e1 w21 ⟨v1, rfl, hrf1, hb⟩;obtain ⟨a1, c1, rfl⟩ := (hrf1.g (M := fun _ => False) (fun k hk => by have := K2.out.size; omega) (fun _ => False.elim)).shape;have hrg1 : RowG (fun k => k < w2.heap.size) (fun z => z = w2.heap.size) w21 (.slice a1 gs.length c1) gs := hrf1.g (fun k hk => by have := K2.out.size; omega) (fun k hk => by have := HPL.out; have := HPT.out; omega);refine ⟨_, rfl, ?_⟩;go_frame;replace HT2 := ι (HT2.out.below hb);replace CP2 := ι (CP2.out.below hb);replace K2 := ι (Rg.acc K2.out hb);clear hb;have RF := ι hrg1;have HOQ := ι RF.out.lt;have HPQ := ι CP2.out.lt;have hcq := CW.new w21 (.slice none 0 0) 24;refine Rg.lr 8 (exec_allocPs rfl) ?_;go_frame;have hb := (Below.refl w21.heap.size w21).alloc (Nat.le_refl _) (.cells #[.slice none 0 0] 24);generalize w21.alloc (.cells #[.slice none 0 0] 24) = w22 at *;replace HT2 := ι (HT2.out.below hb);replace CP2 := ι (CP2.out.below hb)
 replace RF := ι (RF.out.below hb);replace K2 := ι (Rg.acc K2.out hb);clear hb;have CQ := ι hcq;refine Rg.list_skip none rfl rfl (Rg.exec_store _ _ _ rfl _ rfl _ rfl (Rg.run_storeSl _ infoPermsV CQ.out.c CQ.out.f)) ?_;go_frame;have hk7 : Rg.Kp (fun z => z = w21.heap.size) w22 (w22.setCell ⟨w21.heap.size, 0, none⟩ (.slice a1 gs.length c1)) := Rg.Kp.of_setCell rfl;have HQP := ι (show w3.heap.size < w21.heap.size from HPQ.out)
 have HFq : ∀ z, z < w2.heap.size → ¬ z = w21.heap.size := fun z hz e => by have := HPT.out; have := HQP.out; omega
 have HT3 := ι (HT2.out.kp hk7 HFq (fun e => by have := HPT.out; have := HQP.out; omega));have CP3 := ι (CP2.out.kp hk7 (fun e => by have := HQP.out; omega));have CQ3 := ι (CQ.out.set (.slice a1 gs.length c1));have RF3 := ι (RF.out.kpo hk7 HFq (fun k e e2 => by have := HOQ.out k e; omega));have KE := ι (show KG (fun k => k < w2.heap.size) w2 (fun k => k < w2.heap.size) (w22.setCell ⟨w21.heap.size, 0, none⟩ (.slice a1 gs.length c1)) from ((KG.refl fun _ h => h).bel K2.out).kf' (Rg.Kp.weak hk7 fun z e hz => HFq z hz e));generalize w22.setCell ⟨w21.heap.size, 0, none⟩ (.slice a1 gs.length c1) = w30 at *;have HNE := ι (show w3.heap.size ≠ w2.heap.size ∧ w21.heap.size ≠ w2.heap.size ∧ w3.heap.size ≠ w21.heap.size from ⟨by have := HPT.out; omega, by have := HPT.out; have := HQP.out; omega, by have := HQP.out; omega⟩);have HQF := ι (show ¬ w21.heap.size < w2.heap.size by have := HPT.out; have := HQP.out; omega)
 have HQL := ι CQ3.out.lt;clear hk7 HFq HT2 CP2 CQ RF K2 hrf1 hrg1 hcq HOQ;go_upto_region 8 with (fail);refine wp_region_list ?_;refine Rg.lr 34 (exec_makeFunc2 (v := .pointer (some ⟨w21.heap.size, 0, none⟩)) (u := .pointer (some ⟨w3.heap.size, 0, none⟩)) _ _ _ rfl rfl rfl) ?_;go_frame;refine Rg.lr 9 (Rg.xa (.func (.func 119) #[] #[.pointer (some ⟨w21.heap.size, 0, none⟩), .pointer (some ⟨w3.heap.size, 0, none⟩)]) _ rfl rfl) ?_;go_frame;have TL0 := ι (TL.nil n (· ∈ gs));go_upto_region 9 with (fail);refine wp_region_list ?_;refine Rg.lr 35 (Rg.xm (.func (.func 119) #[] #[.pointer (some ⟨w21.heap.size, 0, none⟩), .pointer (some ⟨w3.heap.size, 0, none⟩)]) _ rfl rfl) ?_;go_frame;have HPB := ι CP3.out.lt;refine list_ask (some 36) rfl rfl _ _ (exec_fnc0 _ _ _ rfl rfl (Ylcl2 _ _)) ?_;refine (chDrain_any (m := 0) HGD.out hn1 hn2 (by omega) HT3.out TL0.out (fun x hx => .gen x hx) RF3.out (by have := HGL.out; have := HL16.out; omega) CP3.out CQ3.out HNE.out.1 HNE.out.2.1 HQF.out).mono ?_
 rintro e1 w31 ⟨F4, V4, m4, rfl, hki, hpt4, hm4, hcq4, htl4⟩
 have hcp4 := CP3.out.kp hki.kp (by rintro (e | e); exact HNE.out.1 e; exact HNE.out.2.2 e)
 have hkg := hki.kg;have HKN := ι hki.new;have HKS := ι hki.kp.size;have HM4 := ι hm4;have HTL := ι htl4;clear hki hm4 htl4;refine ⟨_, rfl, ?_⟩;go_frame;clear HT3;clear CP3;clear CQ3;clear RF3;replace KE := ι (KE.out.trans hkg);have HT := ι hpt4;have CP := ι hcp4;have CQ := ι hcq4;clear hkg;clear hpt4 hcp4 hcq4 TL0;have HFL := ι HT.out.Flt
 have HMF := ι (show ∀ k, (fun z => z = w2.heap.size ∨ z = w3.heap.size ∨ z = w21.heap.size) k → ¬ F4 k ∧ k < w31.heap.size from fun k hk => by
  have h1 := HPT.out;have h2 := HQP.out;have h3 := HQL.out;have h4 := HKS.out
  refine ⟨fun e => ?_, by rcases hk with e | e | e <;> omega⟩
  rcases hk with e2 | e2 | e2 <;> subst e2 <;> rcases HKN.out _ e with e3 | e3 <;> omega)
 have htb0 : gs.foldl (ins1 n) (fun _ _ => none) = tabL n gs := rfl;rw [htb0] at HT HTL;rw [List.nil_append] at HTL;have CH0 := ι (HC0.out.kg KE.out);have CH1 := ι (HC1.out.kg KE.out);clear htb0 HKN;go_upto_region 10 with (fail);refine wp_region_list ?_;refine Rg.lr 37 (exec_fieldG _ rfl rfl) ?_;go_frame;refine Rg.lr 38 (Rg.exec_load (v := .slice ga ll.length gc) _ _ rfl ⟨w.heap.size, 1, none⟩ rfl (Rg.run_loadSl _ _ Try.underlying24 CH1.out.cell)) ?_;go_frame;refine list_ask (some 39) rfl rfl _ _ (exec_fn1 118 _ _ rfl rfl (Ylcl1 _ _)) ?_;refine (ClonePs_f _ gs w31 HFL.out (FRows.mono (FRows.kp HFR.out KE.out.kf (fun _ hF hn => hn hF)) KE.out.sub) (by have := HGL.out; have := HL16.out; omega)).mono ?_;rintro e1 w32 ⟨v2, rfl, hrf2, hb⟩;have HSZ := ι hb.size;obtain ⟨a2, c2, rfl⟩ := (hrf2.g (M := fun _ => False) HFL.out (fun _ => False.elim)).shape;have hrg2 : RowG F4 (fun z => z = w2.heap.size ∨ z = w3.heap.size ∨ z = w21.heap.size) w32 (.slice a2 gs.length c2) gs := hrf2.g HFL.out (fun k hk => (HMF.out k hk).2)
 refine ⟨_, rfl, ?_⟩;go_frame;replace HT := ι (HT.out.below hb);replace CP := ι (CP.out.below hb);replace CQ := ι (CQ.out.below hb);replace KE := ι (KG.bel KE.out hb);clear hb;have RF := ι hrg2;refine Rg.lr 10 (Rg.xa (.slice a2 gs.length c2) _ rfl rfl) ?_;go_frame;have HRS := ι (show RS (fun z => z = w2.heap.size ∨ z = w3.heap.size ∨ z = w21.heap.size) F4 w2.heap.size w3.heap.size w21.heap.size n w32 (tabL n gs) m4 V4 (.slice a2 gs.length c2) gs from ⟨HT.out, RF.out, CP.out, CQ.out, fun k hk => (HMF.out k hk).1, fun k hk => Nat.lt_of_lt_of_le (HMF.out k hk).2 HSZ.out, .inl rfl, .inr (.inl rfl), .inr (.inr rfl), HNE.out.1, HNE.out.2.1, HNE.out.2.2⟩);clear hrf2 hrg2 HT RF CP CQ CH0 CH1 HFL HMF;have CH0 := ι (HC0.out.kg KE.out);have CH1 := ι (HC1.out.kg KE.out);go_upto_region 11 with (fail);refine wp_region_list ?_;refine Rg.lr 40 (exec_fieldG _ rfl rfl) ?_;go_frame;refine Rg.lr 41 (Rg.exec_load (v := .slice ga ll.length gc) _ _ rfl ⟨w.heap.size, 1, none⟩ rfl (Rg.run_loadSl _ _ Try.underlying24 CH1.out.cell)) ?_;go_frame
 refine Rg.lr 42 (exec_len _ _ _ rfl Try.underlying24 _ _ _ rfl) ?_;go_frame;refine Rg.lr 43 (Rg.xm (.int .i64 ((0 : Nat) : Int)) _ rfl rfl) ?_;go_frame;have HR0 := ι (show RS (fun z => z = w2.heap.size ∨ z = w3.heap.size ∨ z = w21.heap.size) F4 w2.heap.size w3.heap.size w21.heap.size n w32 (tabL n gs) m4 V4 (.slice a2 gs.length c2) (gs ++ (gs.take 0).map Ma.invN) by rw [List.take_zero, List.map_nil, List.append_nil]; exact HRS.out);clear CH0 CH1 HRS;go_wp2
 go_loopw [10, 43] (fun v jv wr => ∃ (j : Nat) (F1 : Nat → Prop), jv = .int .i64 j ∧ j ≤ ll.length ∧ Hid (RS (fun z => z = w2.heap.size ∨ z = w3.heap.size ∨ z = w21.heap.size) F1 w2.heap.size w3.heap.size w21.heap.size n wr (tabL n gs) m4 V4 v (gs ++ (gs.take j).map Ma.invN)) ∧ Hid (KG (fun k => k < w2.heap.size) w2 F1 wr)) (fun _ jv _ => ll.length - (intOf jv).toNat)
 case atStart => exact ⟨0, _, rfl, Nat.zero_le _, HR0, KE⟩
 case round =>
  clear HR0 KE;obtain ⟨j, F, rfl, hj, HR, KE⟩ := hrel;obtain ⟨va, vc, hsv⟩ := HR.out.rw.shape;subst hsv;have hjg0 : gs.length = ll.length := HGL.out
  by_cases hjl : j < ll.length
  ·have hjN : (j : Int) < (ll.length : Int) := by omega
   have HJL := ι hjl
   have hjg : j < gs.length := by omega
   have HJG := ι hjg;have HTK := ι (show (gs ++ (gs.take j).map Ma.invN).length = gs.length + j by rw [List.length_append, List.length_map, List.length_take]; omega);have GE : GS (fun k => k < w2.heap.size) w2 (.slice ga ll.length gc) gs := GS.of_rows (by have := G0.out.rows; rw [show gs.map Ma.ofN = ll from HLL.out.symm]; exact this)
   have hga : ∃ gb go, ga = some ⟨gb, go, none⟩ := by
    obtain ⟨a, c, e, h1⟩ := GE;obtain ⟨b, o, e2, _⟩ := h1 (by omega)
    injection e with e _ _
    exact ⟨b, o, e.trans e2⟩
   obtain ⟨gb, go, rfl⟩ := hga;obtain ⟨u, hcu, hxu⟩ := GE.at hjg;obtain ⟨x, hx⟩ : ∃ x : List Nat, Hid (gs[j]'hjg = x) := ⟨_, ι rfl⟩
   replace hxu : FP (fun k => k < w2.heap.size) w2 u x := by rw [← hx.out]; exact hxu
   have GX := ι (HGD.out x (by rw [← hx.out]; exact List.getElem_mem hjg));have CU := ι (hcu.kg KE.out);have XU := ι (hxu.kg KE.out);clear hcu hxu GE;go_upto_region 12 with (fail);refine wp_region_list ?_;refine Rg.lr 44 (exec_bin (R := .bool true) .lss _ _ _ rfl rfl rfl (b_lss _ (decide_eq_true (by omega)))) ?_;go_frame;go_upto_region 13 with (fail);refine wp_region_list ?_;refine Rg.lr 45 (exec_indexS slPerms _ _ rfl gb (go) (ll.length) gc (j) rfl rfl HJL.out) ?_;go_frame;refine Rg.lr 46 (Rg.exec_load (v := u) _ _ rfl ⟨gb, go + j, none⟩ rfl (Rg.run_loadSl _ _ Try.underlying39 CU.out.cell)) ?_;go_frame;refine Rg.lr 12 (Rg.xa (u) _ rfl rfl) ?_;go_frame;go_upto_region 14 with (fail);refine wp_region_list ?_;refine Rg.lr 47 (Rg.xm (.slice va (gs ++ (gs.take j).map Ma.invN).length vc) _ rfl rfl) ?_;go_frame;refine Rg.lr 48 (Rg.xm (u) _ rfl rfl) ?_;go_frame;refine list_ask (some 49) rfl rfl _ _ (exec_fn1 121 _ _ rfl rfl (Vncl1 _ _)) ?_
   refine (chInv_f XU.out GX.out hn1 hn2).mono ?_;rintro e1 w101 ⟨iv, rfl, hiv, hb⟩;obtain ⟨jb, jo, jc, rfl⟩ := hiv.shape' (Cm.gd_inv GX.out) hn1;refine ⟨_, rfl, ?_⟩;go_frame;replace HR := ι (HR.out.up hb);replace CU := ι (CU.out.up hb);replace XU := ι (XU.out.up hb);replace KE := ι (KE.out.up hb);have IV := ι hiv;generalize Fup F wr w101 = F1 at *;clear hb;obtain ⟨a9, c9, X9, r1, r2, r3⟩ := HR.out.push IV.out ⟨_, _, _, rfl⟩ (by rw [HTK.out]; have := HL16.out; omega) 24;refine Rg.lr 50 (Rg.exec_buildSlice _ _ _ rfl (.slice (some ⟨jb, jo, none⟩) n jc) rfl (run_build1P w101 _ ⟨_, _, _, rfl⟩)) ?_;go_frame;refine Rg.lr 51 (Rg.exec_append _ _ _ rfl rfl rfl r1) ?_;go_frame;refine Rg.lr 10 (Rg.xa (.slice a9 ((gs ++ (gs.take j).map Ma.invN).length + 1) c9) _ rfl rfl) ?_;go_frame;have K2 := ι (KE.out.kf' r3)
   have HR2 := ι (show RS (fun z => z = w2.heap.size ∨ z = w3.heap.size ∨ z = w21.heap.size) _ w2.heap.size w3.heap.size w21.heap.size n X9 (tabL n gs) m4 V4 (.slice a9 ((gs ++ (gs.take j).map Ma.invN).length + 1) c9) (gs ++ (gs.take (j + 1)).map Ma.invN) by
    rw [List.take_succ_eq_append_getElem HJG.out, show gs[j]'HJG.out = x from hx.out, List.map_append, ← List.append_assoc]; exact r2)
   clear r1 r2 r3 hiv;go_wp2
   go_roundw
   case rel => exact ⟨j + 1, _, by go_num, HJL.out, HR2, K2⟩
   case measure => simp [intOf]; have := HJL.out; omega
  ·obtain rfl : j = ll.length := by omega
   have hjN : ¬ (ll.length : Int) < (ll.length : Int) := by omega
   rw [show gs.take ll.length = gs from List.take_of_length_le (by omega)] at HR ⊢;go_upto_region 12 with (fail);refine wp_region_list ?_;refine Rg.lr 44 (exec_bin (R := .bool false) .lss _ _ _ rfl rfl rfl (b_lss _ (decide_eq_false (by omega)))) ?_;go_frame;go_upto_region 16 with (fail);refine wp_region_list ?_;refine Rg.lr 53 (Rg.xm (.slice va (gs ++ gs.map Ma.invN).length vc) _ rfl rfl) ?_;go_frame;refine Rg.lr 54 (exec_len _ _ _ rfl Try.underlying24 _ _ _ rfl) ?_;go_frame;refine Rg.lr 13 (exec_allocI rfl) ?_;go_frame;refine Rg.list_skip none rfl rfl (Rg.exec_store _ _ _ rfl _ rfl _ rfl (run_storeInt _ (CW.new wr (.int .i64 0) 3).c (CW.new wr (.int .i64 0) 3).f)) ?_;go_frame
   have HLN : (gs ++ gs.map Ma.invN).length = ll.length + ll.length := by rw [List.length_append, List.length_map]; omega
   obtain ⟨hrs9, hcm9, hb9⟩ := HR.out.cell (.int .i64 0) (.int .i64 (((gs ++ gs.map Ma.invN).length : Nat) : Int)) 3;have HR9 := ι hrs9;have CM := ι hcm9;have K9 := ι (KE.out.bel hb9);obtain ⟨M4, hM4⟩ : ∃ M4 : Nat → Prop, Hid ((fun z => (fun z => z = w2.heap.size ∨ z = w3.heap.size ∨ z = w21.heap.size) z ∨ z = wr.heap.size) = M4) := ⟨_, ι rfl⟩;rw [hM4.out] at HR9;have HMB := ι (show M4 wr.heap.size by rw [← hM4.out]; exact .inr rfl);have HMN := ι (show wr.heap.size ≠ w2.heap.size ∧ wr.heap.size ≠ w21.heap.size from ⟨fun e => by have := HR.out.lt _ HR.out.mt; omega, fun e => by have := HR.out.lt _ HR.out.mq; omega⟩);generalize (wr.alloc (.cells #[.int .i64 0] 3)).setCell ⟨wr.heap.size, 0, none⟩ (.int .i64 (((gs ++ gs.map Ma.invN).length : Nat) : Int)) = w200 at *;generalize wr.heap.size = mb at *;clear hrs9 hcm9 hb9 HR KE hM4;go_upto_region 17 with (fail);refine wp_region_list ?_;refine Rg.lr 55 (exec_makeFunc (v := .pointer (some ⟨mb, 0, none⟩)) _ _ rfl rfl) ?_;go_frame
   refine Rg.lr 14 (Rg.xa (.func (.func 122) #[] #[.pointer (some ⟨mb, 0, none⟩)]) _ rfl rfl) ?_;go_frame;go_upto_region 18 with (fail);refine wp_region_list ?_;refine Rg.lr 15 (Rg.xa (.int .i64 ((0 : Nat) : Int)) _ rfl rfl) ?_;go_frame;obtain ⟨sl0, hsl0⟩ : ∃ l, Hid (gs ++ gs.map Ma.invN = l) := ⟨_, ι rfl⟩;rw [hsl0.out] at HR9 CM HLN;rw [HLN] at CM;obtain ⟨st0, hst0⟩ : ∃ s, Hid (startR n gs = s) := ⟨_, ι rfl⟩;have HX1 := ι (show st0.1 = sl0 by rw [← hst0.out, ← hsl0.out]; rfl);have HX2 := ι (show st0.2 = tabL n gs by rw [← hst0.out]; rfl);have HSL := ι (show st0.1.length = ll.length + ll.length by rw [HX1.out]; exact HLN)
   have HRL := ι (show RS M4 F w2.heap.size w3.heap.size w21.heap.size n w200 st0.2 m4 V4 (.slice va (ll.length + ll.length) vc) st0.1 by
    rw [HX2.out, HX1.out, ← HLN]; exact HR9.out)
   have HM5 := ι (show m4 ≤ 16 + 0 by have := HM4.out; have := HL16.out; omega);clear HR9;rw [hsl0.out, HLN];go_wp2
   go_loopw [15] (fun kv wr => ∃ (k m' : Nat) (F1 : Nat → Prop) (V : Nat → Nat → Value), kv = .int .i64 ((2 * k : Nat) : Int) ∧ 2 * k ≤ nums.length ∧ (gs = [] → k = 0) ∧ Hid (m' ≤ 16 + k) ∧ Hid (RS M4 F1 w2.heap.size w3.heap.size w21.heap.size n wr (stR n st0 nums k).2 m' V (.slice va (ll.length + ll.length) vc) (stR n st0 nums k).1) ∧ Hid (CW wr mb (.int .i64 ((ll.length + ll.length : Nat) : Int))) ∧ Hid (KG (fun k => k < w2.heap.size) w2 F1 wr)) (fun kv _ => nums.length - (intOf kv).toNat)
   case atStart => exact ⟨0, m4, _, _, rfl, Nat.zero_le _, fun _ => rfl, HM5, HRL, CM, K9⟩
   case round =>
    clear HRL CM K9 HM5;obtain ⟨k, m', F, V, rfl, hk, hk0, HM', HR, CM, KE⟩ := hrel
    have hnl : nums.length ≤ 1000 := by have := HLG.out; omega
    by_cases hge : gs = []
    case pos =>
     obtain rfl := hk0 hge
     have hll0 : ll.length = 0 := by have := HGL.out; rw [hge] at this; simpa using this.symm
     have hsN : ¬ (0 : Int) < ((ll.length + ll.length : Nat) : Int) := by omega
     have HEND := ι (show (stR n st0 nums 0).2 = endR n gs nums by unfold endR stepsR; rw [if_pos hge, hst0.out]);go_upto_region 19 with (fail);refine wp_region_list ?_;refine Rg.lr 56 (Rg.exec_load (v := .int .i64 (((ll.length + ll.length) : Nat) : Int)) _ _ rfl ⟨mb, 0, none⟩ rfl (run_loadInt CM.out.c)) ?_;go_frame;refine Rg.lr 57 (exec_bin (R := .bool false) .gtr _ _ _ rfl rfl rfl (b_gtr _ (decide_eq_false (by omega)))) ?_;go_frame;refine Rg.lr 58 (Rg.xm (.bool false) _ rfl rfl) ?_;go_frame;refine listW_pass (some 59) (by kernel_rfl) rfl ?_;go_frame;refine listW_pass (some 60) (by kernel_rfl) rfl ?_;go_frame;refine listW_pass (some 61) (by kernel_rfl) rfl ?_;go_frame;refine listW_pass (some 62) (by kernel_rfl) rfl ?_;go_frame;refine listW_pass (some 63) (by kernel_rfl) rfl ?_;go_frame;refine Rg.lr 64 (exec_pickF (v := .bool false) _ _ _ rfl rfl rfl) ?_;go_frame;rw [HEND.out] at HR;have HRI := ι (endR_ok HGD.out nums)
     obtain ⟨lE, hlE, _⟩ := HRI.out.tl;have OKE := ι hlE.ok;have HT := ι HR.out.ht;have CP := ι HR.out.cp;clear hlE HR;have HM7 := ι (show m' < 1000000000000 by have := HM'.out; omega);go_upto_region 25 with (fail);refine wp_region_list ?_;refine Rg.lr 100 (Rg.exec_load (v := .pointer (some ⟨w2.heap.size, 0, none⟩)) _ _ rfl ⟨w3.heap.size, 0, none⟩ rfl (Rg.run_loadPtr _ _ Try.underlying146 CP.out.c)) ?_;go_frame;refine list_ask (some 101) rfl rfl _ _ (exec_fn1 124 _ _ rfl rfl (Ylcl5 _ _)) ?_;refine (pclosed_any hn1 hn2 HM7.out HT.out OKE.out.rp).mono ?_;rintro e1 w351 ⟨bC, rfl, hbc, hb⟩;have HBC := ι hbc;clear hbc;refine ⟨_, rfl, ?_⟩;go_frame;replace HT := ι (HT.out.below hb);replace CP := ι (CP.out.below hb);replace KE := ι (KG.bel KE.out hb);clear hb;refine Rg.lr 102 (exec_not _ _ bC rfl rfl) ?_;go_frame;have hbk : Below w2.heap.size w2 w351 := KE.out.kf.below (Nat.le_refl _) (fun _ h => h)
     have FT := ι (FT0.out.below hbk);have G9 := ι (G0.out.below hbk);have K := ι (show Below w.heap.size w w351 from (KB.out.trans (hbk.mono KB.out.size)));clear hbk KE
     cases bC with
     | false =>
      have HNC := ι (show ¬ PClosed n (endR n gs nums) from fun h => by have := HBC.out.2 h; cases this);have HRC := ι (show rndc ((n : Nat) : Int) ll nums = 13 by rw [HLL.out]; exact rndc_no (by rw [← HLL.out]; exact HZ.out) HLG.out HNC.out);go_upto_region 26 with (fail);refine wp_region_list ?_;refine Rg.lr 103 (exec_buildC0 rfl) ?_;go_frame;refine Rg.list_skip none rfl rfl (Rg.exec_store _ _ _ rfl _ rfl _ rfl (run_storeC _ _ _ _ _ _ _ FT.out)) ?_;go_frame;refine Rg.lr 5 (Rg.xa (.int .i64 ((13 : Nat) : Int)) _ rfl rfl) ?_;go_frame;have htt := FT.out.set (.int .i64 0) (.slice none 0 0) (.slice none 0 0);have hkf := ((K.out.setCell (p := ⟨w0.heap.size, 0, none⟩) HW0.out (.int .i64 0)).setCell (p := ⟨w0.heap.size, 1, none⟩) HW0.out (.slice none 0 0)).setCell (p := ⟨w0.heap.size, 2, none⟩) HW0.out (.slice none 0 0);generalize ((w351.setCell ⟨w0.heap.size, 0, none⟩ (.int .i64 0)).setCell ⟨w0.heap.size, 1, none⟩ (.slice none 0 0)).setCell ⟨w0.heap.size, 2, none⟩ (.slice none 0 0) = w99 at *
      have HTT := ι htt
      have HFI := ι (show RndPost ((n : Nat) : Int) ll nums w (.returned (.tuple #[zeroC, .int .i64 13])) w99 from
       ⟨_, by rw [HRC.out], .inl ⟨by rw [HRC.out]; decide, rfl⟩, hkf⟩)
      clear htt hkf;go_wp2;exact bodyPost_ret (results_cellC2 (p := 4) (u := 5) rfl _ rfl rfl HTT.out) rfl HFI.out
     | true =>
      have HPC := ι (HBC.out.1 rfl);have HRC := ι (show rndc ((n : Nat) : Int) ll nums = 0 by rw [HLL.out]; exact rndc_yes (by rw [← HLL.out]; exact HZ.out) HLG.out HPC.out);clear HT CP;go_upto_region 27 with (fail);refine wp_region_list ?_;refine Rg.lr 104 (exec_fieldG0 _ rfl rfl) ?_;go_frame;refine Rg.lr 105 (Rg.exec_load (v := .int .i64 ((n : Nat) : Int)) _ _ rfl ⟨w.heap.size, 0, none⟩ rfl (run_loadInt G9.out.c0)) ?_;go_frame;refine Rg.lr 106 (exec_fieldG _ rfl rfl) ?_;go_frame;refine Rg.lr 107 (Rg.exec_load (v := .slice ga ll.length gc) _ _ rfl ⟨w.heap.size, 1, none⟩ rfl (Rg.run_loadSl _ _ Try.underlying24 G9.out.c1)) ?_;go_frame;have HWB := ι FT.out.lt;refine list_ask (some 108) rfl rfl _ _ (exec_fn 76 _ _ _ rfl rfl rfl (Wbcl1 _ _)) ?_;refine (build_b hn1 hn2 (by have := G9.out.rows; rw [show gs.map Ma.ofN = ll from HLL.out.symm]; exact this) HGD.out (by have := HGL.out; have := HL16.out; omega)).mono ?_
      rintro e1 w352 ⟨tb, L, F1, T1, V1, rfl, hT1, hc01, hc11, hB1, hb⟩;have HB := ι hB1;have HWC := ι (Nat.lt_of_lt_of_le HWB.out hb.size);refine ⟨_, rfl, ?_⟩;go_frame;replace FT := ι (FT.out.below hb);replace G9 := ι (G9.out.below hb);replace K := ι (Rg.acc K.out hb);clear hb;have HT := ι hT1;have C0 := ι hc01;have C1 := ι hc11;clear hT1 hc01 hc11 hB1;refine list_ask (some 109) rfl rfl _ _ (exec_fn1 77 _ _ rfl rfl (Wbcl2 _ _)) ?_;refine (chain_any hn1 hn2 HT.out C0.out C1.out (Cm.Gr.isG HGD.out) (HB.out.isTr (by omega) HGD.out) (fun j hj => (HB.out.full j hj).1)).mono ?_;rintro e1 w353 ⟨ov, rv, O, R, rfl, hO, hR, hCh, hb⟩;obtain ⟨oa, oc, rfl, _⟩ := hO.rows.shape;obtain ⟨ra, rc, rfl⟩ := hR.rows.shape;have HO := ι hO;have HR := ι hR;have HCH := ι hCh;clear hO hR hCh;refine ⟨_, rfl, ?_⟩;go_frame;replace FT := ι (FT.out.below hb);replace G9 := ι (G9.out.below hb);replace HT := ι (HT.out.below hb)
      replace C0 := ι (C0.out.below hb);replace C1 := ι (C1.out.below hb);replace K := ι (Rg.acc K.out hb);clear hb;refine Rg.list_skip none rfl rfl (Rg.exec_store _ _ _ rfl _ rfl _ rfl (run_storeC _ _ _ _ _ _ _ FT.out)) ?_;go_frame;refine Rg.lr 5 (Rg.xa (.int .i64 ((0 : Nat) : Int)) _ rfl rfl) ?_;go_frame;have htt := FT.out.set (.int .i64 ((n : Nat) : Int)) (.slice oa (O.map Ma.ofN).length oc) (.slice ra (R.map (List.map Ma.ofN)).length rc);have hkt := Rg.Kp.trans (Rg.Kp.trans (Rg.Kp.of_setCell (M := fun z => z = w0.heap.size) (w := w353) (a := ⟨w0.heap.size, 0, none⟩) (v := .int .i64 ((n : Nat) : Int)) rfl) (Rg.Kp.of_setCell (M := fun z => z = w0.heap.size) (a := ⟨w0.heap.size, 1, none⟩) (v := (.slice oa (O.map Ma.ofN).length oc)) rfl) (fun _ _ e => e)) (Rg.Kp.of_setCell (M := fun z => z = w0.heap.size) (a := ⟨w0.heap.size, 2, none⟩) (v := (.slice ra (R.map (List.map Ma.ofN)).length rc)) rfl) (fun _ _ e => e)
      have hro := FRows.kp HO.out hkt (fun z g e => by have := HWC.out; omega);have hrr := HR.out.kp hkt (fun z g e => by have := HWC.out; omega);have hkf := ((K.out.setCell (p := ⟨w0.heap.size, 0, none⟩) HW0.out (.int .i64 ((n : Nat) : Int))).setCell (p := ⟨w0.heap.size, 1, none⟩) HW0.out (.slice oa (O.map Ma.ofN).length oc)).setCell (p := ⟨w0.heap.size, 2, none⟩) HW0.out (.slice ra (R.map (List.map Ma.ofN)).length rc);generalize ((w353.setCell ⟨w0.heap.size, 0, none⟩ (.int .i64 ((n : Nat) : Int))).setCell ⟨w0.heap.size, 1, none⟩ (.slice oa (O.map Ma.ofN).length oc)).setCell ⟨w0.heap.size, 2, none⟩ (.slice ra (R.map (List.map Ma.ofN)).length rc) = w99 at *;have HTT := ι htt
      have HFI := ι (show RndPost ((n : Nat) : Int) ll nums w (.returned (.tuple #[.agg #[.int .i64 ((n : Nat) : Int), (.slice oa (O.map Ma.ofN).length oc), (.slice ra (R.map (List.map Ma.ofN)).length rc)], .int .i64 0])) w99 from
       ⟨_, by rw [HRC.out], .inr ⟨HRC.out, n, gs, rfl, HLL.out, hn1, hn2, _, _, O, R, rfl, FRows.rows hro, hrr.rows, HCH.out⟩, hkf⟩)
      clear htt hkt hro hrr hkf;go_wp2;exact bodyPost_ret (results_cellC2 (p := 4) (u := 5) rfl _ rfl rfl HTT.out) rfl HFI.out
    case neg =>
     have hgl1 : 1 ≤ gs.length := List.length_pos_iff.2 hge
     have hsN : (0 : Int) < ((ll.length + ll.length : Nat) : Int) := by have := HGL.out; omega
     by_cases hkl : 2 * k + 1 < nums.length
     case pos =>
      obtain ⟨st, hst⟩ : ∃ s, Hid (stR n st0 nums k = s) := ⟨_, ι rfl⟩;rw [hst.out] at HR
      have hsl : st.1.length = ll.length + ll.length := by rw [← hst.out, stR_len]; exact HSL.out
      have HSK := ι hsl;have HRI := ι (show RI n (· ∈ gs) st by rw [← hst.out]; exact RI.all HGD.out (hst0.out ▸ RI.start HGD.out) (by rw [HSL.out]; omega) nums k);obtain ⟨lk, hlk, _⟩ := HRI.out.tl;have HLK := ι hlk
      have hL0 : 0 < ll.length + ll.length := by omega
      have hL1 : ll.length + ll.length ≤ 1000000 := by have := HL16.out; omega
      have hp1 := pickV_range (x := nums[2 * k]) (n := ((ll.length + ll.length : Nat) : Int)) (by omega);have hp2 := pickV_range (x := nums[2 * k + 1]) (n := ((ll.length + ll.length : Nat) : Int)) (by omega);obtain ⟨i, hi⟩ : ∃ i : Nat, Hid (pickV nums[2 * k] ((ll.length + ll.length : Nat) : Int) = ((i : Nat) : Int)) := ⟨_, ι (Int.toNat_of_nonneg hp1.1).symm⟩;obtain ⟨j, hj⟩ : ∃ j : Nat, Hid (pickV nums[2 * k + 1] ((ll.length + ll.length : Nat) : Int) = ((j : Nat) : Int)) := ⟨_, ι (Int.toNat_of_nonneg hp2.1).symm⟩
      have hiL : i < ll.length + ll.length := by rw [hi.out] at hp1; omega
      have hjL : j < ll.length + ll.length := by rw [hj.out] at hp2; omega
      have HIL := ι (show i < st.1.length by omega);have HJL := ι (show j < st.1.length by omega);have NE : NF F wr (.slice na nums.length nc) nums := HNF.out.kg KE.out;obtain ⟨nb, no, rfl, hcn⟩ := NE.at (by omega);have CN1 := ι (hcn (2 * k) (by omega));have CN2 := ι (hcn (2 * k + 1) hkl);obtain ⟨g, c, ua, e1, e2, e3⟩ := HR.out.rw.at HIL.out;rw [hsl] at e1
      injection e1 with e1a _ e1c
      subst e1a e1c;obtain ⟨g', c', ub, e1', e2', e3'⟩ := HR.out.rw.at HJL.out;simp only [Value.slice.injEq, Option.some.injEq, Addr.mk.injEq, and_true, true_and] at e1';obtain ⟨e1a, _⟩ := e1';subst e1a;have CA := ι e2;have UA := ι e3;have CB := ι e2';have UB := ι e3';have GA := ι ((Cm.Gr.isG HGD.out).gd _ (HRI.out.gr _ (List.getElem_mem HIL.out)));have GB := ι ((Cm.Gr.isG HGD.out).gd _ (HRI.out.gr _ (List.getElem_mem HJL.out)));clear e2 e3 e2' e3' hcn hlk hp1 hp2 hsl NE;go_upto_region 19 with (fail);refine wp_region_list ?_;refine Rg.lr 56 (Rg.exec_load (v := .int .i64 (((ll.length + ll.length) : Nat) : Int)) _ _ rfl ⟨mb, 0, none⟩ rfl (run_loadInt CM.out.c)) ?_;go_frame;refine Rg.lr 57 (exec_bin (R := .bool true) .gtr _ _ _ rfl rfl rfl (b_gtr _ (decide_eq_true (by omega)))) ?_;go_frame;refine Rg.lr 58 (Rg.xm (.bool true) _ rfl rfl) ?_;go_frame;refine listW_run (some 59) rfl rfl (Rg.xm (.int .i64 (((2 * k) : Nat) : Int)) _ rfl rfl) ?_;go_frame
      refine listW_run (some 60) rfl rfl (exec_bin (R := .int .i64 (((2 * k + 1) : Nat) : Int)) .add _ _ _ rfl rfl rfl (b_add _ (by omega) (by omega))) ?_;go_frame;refine listW_run (some 61) rfl rfl (Rg.xm (.slice (some ⟨nb, no, none⟩) nums.length nc) _ rfl rfl) ?_;go_frame;refine listW_run (some 62) rfl rfl (exec_len _ _ _ rfl Try.underlying22 _ _ _ rfl) ?_;go_frame;refine listW_run (some 63) rfl rfl (exec_bin (R := .bool true) .lss _ _ _ rfl rfl rfl (b_lss _ (decide_eq_true (by omega)))) ?_;go_frame;refine Rg.lr 64 (exec_pickT (v := .bool true) _ _ _ rfl rfl rfl) ?_;go_frame;go_upto_region 21 with (fail);refine wp_region_list ?_;refine Rg.lr 67 (Rg.xm (.func (.func 122) #[] #[.pointer (some ⟨mb, 0, none⟩)]) _ rfl rfl) ?_;go_frame;refine Rg.lr 68 (Rg.xm (.slice (some ⟨nb, no, none⟩) nums.length nc) _ rfl rfl) ?_;go_frame;refine Rg.lr 69 (Rg.xm (.int .i64 (((2 * k) : Nat) : Int)) _ rfl rfl) ?_;go_frame
      refine Rg.lr 70 (exec_indexS slInts _ _ rfl nb (no) (nums.length) nc ((2 * k)) rfl rfl (by omega)) ?_;go_frame;refine Rg.lr 71 (Rg.exec_load (v := .int .i64 nums[2 * k]) _ _ rfl ⟨nb, no + (2 * k), none⟩ rfl (run_loadInt CN1.out.cell)) ?_;go_frame;refine list_ask (some 72) rfl rfl _ _ (exec_fnc1 _ _ _ _ rfl rfl rfl (Ylcl4 _ _)) ?_;refine (mod_i hL0 hL1 CM.out hi).mono ?_;rintro e1 w221 ⟨rfl, hb⟩;refine ⟨_, rfl, ?_⟩;go_frame;replace HR := ι (HR.out.up hb);replace CM := ι (CM.out.up hb);replace CN1 := ι (CN1.out.up hb);replace CN2 := ι (CN2.out.up hb);replace CA := ι (CA.out.up hb);replace CB := ι (CB.out.up hb);replace UA := ι (UA.out.up hb);replace UB := ι (UB.out.up hb);replace KE := ι (KE.out.up hb);generalize Fup F wr w221 = F61 at *;clear hb;refine Rg.lr 16 (Rg.xa (.int .i64 ((i : Nat) : Int)) _ rfl rfl) ?_;go_frame;go_upto_region 22 with (fail);have hV0 : Below w221.heap.size w221 w221.drew := (Below.refl _ _).drew
      replace HR := ι (HR.out.up hV0);replace CM := ι (CM.out.up hV0);replace CN1 := ι (CN1.out.up hV0);replace CN2 := ι (CN2.out.up hV0);replace CA := ι (CA.out.up hV0);replace CB := ι (CB.out.up hV0);replace UA := ι (UA.out.up hV0);replace UB := ι (UB.out.up hV0);replace KE := ι (KE.out.up hV0);generalize Fup F61 w221 w221.drew = F62 at *;clear hV0;refine Rg.Any.begin (S := Rg.Both 18 (fun W => Below w221.drew.heap.size w221.drew W) (fun _ => True)) mix ?_;generalize w221.drew = w222 at *;have hS : ∀ (l : Array Bool) W, Below w222.heap.size w222 W → Rg.Both 18 (fun W => Below w222.heap.size w222 W) (fun _ => True) l W := fun l W h => ⟨.inr h, trivial⟩;have hS2 : ∀ (l : Array Bool) W, l.getD 18 false = true → Rg.Both 18 (fun W => Below w222.heap.size w222 W) (fun _ => True) l W := fun l W h => ⟨.inl h, trivial⟩;have hI : Below w222.heap.size w222 w222 := Below.refl _ _;have CB0 := CB;refine Rg.tg 0 18 (.slice (some ⟨g, 0, none⟩) (ll.length + ll.length) vc) 73 rfl rfl (.inl ⟨rfl, fun w _ => Rg.exec_move (v := .slice (some ⟨g, 0, none⟩) (ll.length + ll.length) vc) _ rfl rfl⟩) (hS _ _ hI) ?_;go_frame
      refine Rg.tg 1 18 (.int .i64 ((i : Nat) : Int)) 74 rfl rfl (.inl ⟨rfl, fun w _ => Rg.exec_move (v := .int .i64 ((i : Nat) : Int)) _ rfl rfl⟩) (hS _ _ hI) ?_;go_frame;refine Rg.tg 2 18 (.slice (some ⟨g, 0, none⟩) (ll.length + ll.length) vc) 75 rfl rfl (.inl ⟨rfl, fun w _ => Rg.exec_move (v := .slice (some ⟨g, 0, none⟩) (ll.length + ll.length) vc) _ rfl rfl⟩) (hS _ _ hI) ?_;go_frame;refine Rg.tg 3 18 (.int .i64 ((i : Nat) : Int)) 76 rfl rfl (.inl ⟨rfl, fun w _ => Rg.exec_move (v := .int .i64 ((i : Nat) : Int)) _ rfl rfl⟩) (hS _ _ hI) ?_;go_frame;refine Rg.tg 4 18 (.pointer (some ⟨g, 0 + i, none⟩)) 77 rfl rfl (Rg.yields_index slPerms _ _ rfl rfl g (0) ((ll.length + ll.length)) vc (i) rfl rfl hiL) (hS _ _ hI) ?_;go_frame;refine Rg.Any.takeT (i := 5) (t := 18) (v := ua) (some 78) rfl rfl (by kernel_rfl) (by kernel_rfl) (by kernel_rfl) (fun _ _ _ h => h) rfl (by kernel_rfl) rfl (Rg.yields_cell _ _ rfl rfl ⟨g, 0 + i, none⟩ rfl (fun W hW => Rg.run_loadSl _ _ Try.underlying39 ((Below.cell (p := ⟨g, 0 + i, none⟩) hW CA.out.lt).trans CA.out.cell))) (hS _ _ hI) ?_;go_frame
      refine Rg.tg 6 18 (.slice (some ⟨g, 0, none⟩) (ll.length + ll.length) vc) 79 rfl rfl (.inl ⟨rfl, fun w _ => Rg.exec_move (v := .slice (some ⟨g, 0, none⟩) (ll.length + ll.length) vc) _ rfl rfl⟩) (hS _ _ hI) ?_;go_frame;refine Rg.tg 7 18 (.func (.func 122) #[] #[.pointer (some ⟨mb, 0, none⟩)]) 80 rfl rfl (.inl ⟨rfl, fun w _ => Rg.exec_move (v := .func (.func 122) #[] #[.pointer (some ⟨mb, 0, none⟩)]) _ rfl rfl⟩) (hS _ _ hI) ?_;go_frame;refine Rg.tg 8 18 (.slice (some ⟨nb, no, none⟩) nums.length nc) 81 rfl rfl (.inl ⟨rfl, fun w _ => Rg.exec_move (v := .slice (some ⟨nb, no, none⟩) nums.length nc) _ rfl rfl⟩) (hS _ _ hI) ?_;go_frame;refine Rg.tg 9 18 (.int .i64 (((2 * k) : Nat) : Int)) 82 rfl rfl (.inl ⟨rfl, fun w _ => Rg.exec_move (v := .int .i64 (((2 * k) : Nat) : Int)) _ rfl rfl⟩) (hS _ _ hI) ?_;go_frame;refine Rg.tg 10 18 (.int .i64 (((2 * k + 1) : Nat) : Int)) 83 rfl rfl (.inl ⟨rfl, fun w _ => exec_bin (R := .int .i64 (((2 * k + 1) : Nat) : Int)) .add _ _ _ rfl rfl rfl (b_add _ (by omega) (by omega))⟩) (hS _ _ hI) ?_;go_frame
      refine Rg.tg 11 18 (.pointer (some ⟨nb, no + (2 * k + 1), none⟩)) 84 rfl rfl (Rg.yields_index slInts _ _ rfl rfl nb (no) (nums.length) nc ((2 * k + 1)) rfl rfl (by omega)) (hS _ _ hI) ?_;go_frame;refine Rg.Any.takeT (i := 12) (t := 18) (v := .int .i64 nums[2 * k + 1]) (some 85) rfl rfl (by kernel_rfl) (by kernel_rfl) (by kernel_rfl) (fun _ _ _ h => h) rfl (by kernel_rfl) rfl (Rg.yields_cell _ _ rfl rfl ⟨nb, no + (2 * k + 1), none⟩ rfl (fun W hW => run_loadInt ((Below.cell (p := ⟨nb, no + (2 * k + 1), none⟩) hW CN2.out.lt).trans CN2.out.cell))) (hS _ _ hI) ?_;go_frame;refine Rg.Any.one (i := 13) (by kernel_rfl) (Rg.Any.ask (some 86) rfl rfl rfl _ _ (exec_fnc1 _ _ _ _ rfl rfl rfl (Ylcl4 _ _)) ?_);refine (mod_i hL0 hL1 CM.out hj).mono ?_;rintro e1 w223 ⟨rfl, hb⟩;have hI2_u := Rg.acc hI hb;clear hI;replace HR := ι (HR.out.up hb);replace CM := ι (CM.out.up hb);replace CN1 := ι (CN1.out.up hb)
      replace CN2 := ι (CN2.out.up hb);replace CA := ι (CA.out.up hb);replace CB := ι (CB.out.up hb);replace UA := ι (UA.out.up hb);replace UB := ι (UB.out.up hb);replace KE := ι (KE.out.up hb);generalize Fup F62 w222 w223 = F63 at *;clear hb;refine ⟨_, rfl, (hS _ _ hI2_u), ?_⟩;go_frame;refine Rg.tg 14 18 (.pointer (some ⟨g, 0 + j, none⟩)) 87 rfl rfl (Rg.yields_index slPerms _ _ rfl rfl g (0) ((ll.length + ll.length)) vc (j) rfl rfl hjL) (hS _ _ hI2_u) ?_;go_frame;refine Rg.Any.takeT (i := 15) (t := 18) (v := ub) (some 88) rfl rfl (by kernel_rfl) (by kernel_rfl) (by kernel_rfl) (fun _ _ _ h => h) rfl (by kernel_rfl) rfl (Rg.yields_cell _ _ rfl rfl ⟨g, 0 + j, none⟩ rfl (fun W hW => Rg.run_loadSl _ _ Try.underlying39 ((Below.cell (p := ⟨g, 0 + j, none⟩) hW CB0.out.lt).trans CB0.out.cell))) (hS _ _ hI2_u) ?_;go_frame;refine Rg.Any.one (i := 16) (by kernel_rfl) (Rg.Any.ask (some 89) rfl rfl rfl _ _ (exec_fn 123 _ _ _ rfl rfl rfl (Vmcl0 _ _)) ?_)
      refine (chMul_f UA.out UB.out GA.out GB.out hn1 hn2).mono ?_;rintro e1 w224 ⟨mv, rfl, hmv, hb⟩;obtain ⟨mb1, mo, mc, rfl⟩ := hmv.shape' (Cm.gd_mul GA.out GB.out) hn1;have hI3_u := Rg.acc hI2_u hb;clear hI2_u;replace HR := ι (HR.out.up hb);replace CM := ι (CM.out.up hb);replace CN1 := ι (CN1.out.up hb);replace CN2 := ι (CN2.out.up hb);replace CA := ι (CA.out.up hb);replace CB := ι (CB.out.up hb);replace UA := ι (UA.out.up hb);replace UB := ι (UB.out.up hb);replace KE := ι (KE.out.up hb);have XV := ι hmv;generalize Fup F63 w223 w224 = F64 at *;clear hb;refine ⟨_, rfl, (hS _ _ hI3_u), ?_⟩;go_frame;refine Rg.tg 17 18 (.pointer (some ⟨g, 0 + i, none⟩)) 90 rfl rfl (Rg.yields_index slPerms _ _ rfl rfl g (0) ((ll.length + ll.length)) vc (i) rfl rfl hiL) (hS _ _ hI3_u) ?_;go_frame;refine Rg.Any.one (i := 18) (by kernel_rfl) (Rg.Any.runSkip none rfl rfl rfl (Rg.exec_store _ _ _ rfl _ rfl _ rfl (Rg.run_storeSl _ infoPerm CA.out.cell (HR.out.rw.frozen HSK.out.symm _))) (hS2 _ _ rfl) ?_)
      go_frame;refine Rg.Any.done (by kernel_rfl) ?_ _;clear hS2;clear hS hI3_u;obtain ⟨hr2, hkf2⟩ := HR.out.set HSK.out.symm (0 + i) XV.out;have hkp2 : Rg.Kp (fun z => z = g) w224 (w224.setCell ⟨g, 0 + i, none⟩ (.slice (some ⟨mb1, mo, none⟩) n mc)) := Rg.Kp.of_setCell rfl;have K2 := ι (KE.out.kf' hkf2);have XV2 := ι (XV.out.kf hkf2);have CM2 := ι (CM.out.kp hkp2 (fun e => (HR.out.rw.off g rfl).2 (e ▸ HMB.out)));have CA2 := ι (CL.mk (World.cell?_setCell_same (v := .slice (some ⟨mb1, mo, none⟩) n mc) (h := CA.out.cell) ..) (Nat.lt_of_lt_of_le CA.out.lt hkp2.size));have HR2 := ι hr2;generalize w224.setCell ⟨g, 0 + i, none⟩ (.slice (some ⟨mb1, mo, none⟩) n mc) = w250 at *;clear hr2 hkp2 hkf2 hmv HR KE XV CA CM CB UA UB CN1 CN2;go_upto_region 23 with (fail);have hV0 : Below w250.heap.size w250 w250.drew := (Below.refl _ _).drew;replace HR2 := ι (HR2.out.up hV0);replace XV2 := ι (XV2.out.up hV0)
      replace CA2 := ι (CA2.out.up hV0);replace CM2 := ι (CM2.out.up hV0);replace K2 := ι (K2.out.up hV0);generalize Fup F64 w250 w250.drew = F81 at *;clear hV0;refine Rg.Any.begin (S := Rg.Both 7 (fun W => Below w250.drew.heap.size w250.drew W) (fun _ => True)) mix ?_;generalize w250.drew = w251 at *;have hS : ∀ (l : Array Bool) W, Below w251.heap.size w251 W → Rg.Both 7 (fun W => Below w251.heap.size w251 W) (fun _ => True) l W := fun l W h => ⟨.inr h, trivial⟩;have hS2 : ∀ (l : Array Bool) W, l.getD 7 false = true → Rg.Both 7 (fun W => Below w251.heap.size w251 W) (fun _ => True) l W := fun l W h => ⟨.inl h, trivial⟩;have hI : Below w251.heap.size w251 w251 := Below.refl _ _;refine Rg.Any.takeT (i := 0) (t := 7) (v := .slice none 0 0) (some 91) rfl rfl (by kernel_rfl) (by kernel_rfl) (by kernel_rfl) (fun _ _ _ h => h) rfl (by kernel_rfl) rfl (Rg.yields_cell _ _ rfl rfl ⟨w21.heap.size, 0, none⟩ rfl (fun W hW => Rg.run_loadSl _ _ Try.underlying24 ((Below.cell (p := ⟨w21.heap.size, 0, none⟩) hW HR2.out.cq.lt).trans HR2.out.cq.c))) (hS _ _ hI) ?_;go_frame
      refine Rg.tg 1 7 (.slice (some ⟨g, 0, none⟩) (ll.length + ll.length) vc) 92 rfl rfl (.inl ⟨rfl, fun w _ => Rg.exec_move (v := .slice (some ⟨g, 0, none⟩) (ll.length + ll.length) vc) _ rfl rfl⟩) (hS _ _ hI) ?_;go_frame;refine Rg.tg 2 7 (.int .i64 ((i : Nat) : Int)) 93 rfl rfl (.inl ⟨rfl, fun w _ => Rg.exec_move (v := .int .i64 ((i : Nat) : Int)) _ rfl rfl⟩) (hS _ _ hI) ?_;go_frame;refine Rg.tg 3 7 (.pointer (some ⟨g, 0 + i, none⟩)) 94 rfl rfl (Rg.yields_index slPerms _ _ rfl rfl g (0) ((ll.length + ll.length)) vc (i) rfl rfl hiL) (hS _ _ hI) ?_;go_frame;refine Rg.Any.takeT (i := 4) (t := 7) (v := .slice (some ⟨mb1, mo, none⟩) n mc) (some 95) rfl rfl (by kernel_rfl) (by kernel_rfl) (by kernel_rfl) (fun _ _ _ h => h) rfl (by kernel_rfl) rfl (Rg.yields_cell _ _ rfl rfl ⟨g, 0 + i, none⟩ rfl (fun W hW => Rg.run_loadSl _ _ Try.underlying39 ((Below.cell (p := ⟨g, 0 + i, none⟩) hW CA2.out.lt).trans CA2.out.cell))) (hS _ _ hI) ?_;go_frame
      obtain ⟨a9, c9, X9, r1, r2, r3, r4⟩ := HR2.out.fill XV2.out ⟨_, _, _, rfl⟩ 24;have hI4_m := Rg.acc hI (r2);refine Rg.Any.one (i := 5) (by kernel_rfl) (Rg.Any.run (some 96) rfl rfl rfl (Rg.exec_buildSlice _ _ _ rfl (.slice (some ⟨mb1, mo, none⟩) n mc) rfl (run_build1P w251 _ ⟨_, _, _, rfl⟩)) (hS _ _ hI4_m) ?_);go_frame;have hI5_m := Rg.acc hI4_m (r3);refine Rg.Any.one (i := 6) (by kernel_rfl) (Rg.Any.run (some 97) rfl rfl rfl (Rg.exec_append _ _ _ rfl rfl rfl r1) (hS _ _ hI5_m) ?_);go_frame;have r23 := Rg.acc r2 r3;refine Rg.Any.one (i := 7) (by kernel_rfl) (Rg.Any.runSkip none rfl rfl rfl (Rg.exec_store _ _ _ rfl _ rfl _ rfl (Rg.run_storeSl _ infoPermsV (HR2.out.cq.below r23).c (HR2.out.cq.below r23).f)) (hS2 _ _ rfl) ?_);go_frame;refine Rg.Any.done (by kernel_rfl) ?_ _;clear hS2;clear hS hI5_m;have HR3 := HR2.out.below r23;obtain ⟨t1, t2, t3, t4, t5, hkq, hkf3⟩ := HR3.wait r4;have RX := ι t1
      have HT3 := ι t2;have CP3 := ι t3;have CQ3 := ι t4;have RL3 := ι t5;have HNF3 := ι HR3.nF;have HLT3 := ι (show ∀ k, M4 k → k < (X9.setCell ⟨w21.heap.size, 0, none⟩ (.slice a9 1 c9)).heap.size from fun k hk => Nat.lt_of_lt_of_le (HR3.lt k hk) hkq.size);have HMT := ι HR3.mt;have HMP := ι HR3.mp;have HMQ := ι HR3.mq;have K3 := ι ((K2.out.bel r23).kf' hkf3);have CM3 := ι ((CM2.out.below r23).kp hkq HMN.out.2);generalize X9.setCell ⟨w21.heap.size, 0, none⟩ (.slice a9 1 c9) = w270 at *;clear t1 t2 t3 t4 t5 hkq hkf3 HR3 r1 r2 r3 r4 r23 HR2 XV2 CA2 CM2 K2
      have HGX := ι (show ∀ x ∈ [(Ma.mulN (st.1[i]'HIL.out) (st.1[j]'HJL.out))], Cm.Gr n (· ∈ gs) x from fun x hx => by
       rw [List.mem_singleton] at hx;subst hx
       exact .mul _ _ (HRI.out.gr _ (List.getElem_mem HIL.out)) (HRI.out.gr _ (List.getElem_mem HJL.out)))
      go_upto_region 24 with (fail);refine wp_region_list ?_;refine Rg.lr 98 (Rg.xm (.func (.func 119) #[] #[.pointer (some ⟨w21.heap.size, 0, none⟩), .pointer (some ⟨w3.heap.size, 0, none⟩)]) _ rfl rfl) ?_;go_frame;refine list_ask (some 99) rfl rfl _ _ (exec_fnc0 _ _ _ rfl rfl (Ylcl2 _ _)) ?_;refine (chDrain_any (m := m') HGD.out hn1 hn2 (by have := HM'.out; omega) HT3.out HLK.out HGX.out (RX.out.less fun k e => e ▸ HMT.out) (by simp) CP3.out CQ3.out HNE.out.1 HNE.out.2.1 (HNF3.out _ HMQ.out)).mono ?_;rintro e1 w271 ⟨F6, V6, m6, rfl, hki, hpt6, hm6, hcq6, htl6⟩;have hrs6 := RS.drained HT3.out RL3.out CP3.out HNF3.out HLT3.out HMT.out HMP.out HMQ.out HNE.out.1 HNE.out.2.1 HNE.out.2.2 hki hpt6 hcq6
      have hcm6 := CM3.out.kp hki.kp (by rintro (e | e); exact HMN.out.1 e; exact HMN.out.2 e)
      have hkg := hki.kg;have HM6 := ι (show m6 ≤ 16 + (k + 1) by have := HM'.out; simp at hm6; omega);clear hki hpt6 hm6 hcq6 htl6 HLT3 HNF3;refine ⟨_, rfl, ?_⟩;go_frame;clear HT3;clear CP3;clear CQ3;clear RX;clear RL3;clear CM3;replace K3 := ι (K3.out.trans hkg);have HR6 := ι hrs6;have CM6 := ι hcm6;clear hkg;clear hrs6 hcm6
      have hst2 : stR n st0 nums (k + 1) = (st.1.set i (Ma.mulN (st.1[i]'HIL.out) (st.1[j]'HJL.out)), ins1 n st.2 (Ma.mulN (st.1[i]'HIL.out) (st.1[j]'HJL.out))) := by
       show stepR n (stR n st0 nums k) _ _ = _
       have e1 : nums.getD (2 * k) 0 = nums[2 * k] := by rw [List.getD_eq_getElem?_getD, List.getElem?_eq_getElem (by omega)]; rfl
       have e2 : nums.getD (2 * k + 1) 0 = nums[2 * k + 1] := by rw [List.getD_eq_getElem?_getD, List.getElem?_eq_getElem (by omega)]; rfl
       rw [hst.out, e1, e2];exact stepR_eq HSK.out hi.out hj.out HIL.out HJL.out
      have HR7 := ι (show RS M4 F6 w2.heap.size w3.heap.size w21.heap.size n w271 (stR n st0 nums (k + 1)).2 m6 V6 (.slice (some ⟨g, 0, none⟩) (ll.length + ll.length) vc) (stR n st0 nums (k + 1)).1 by
       rw [hst2];have := HR6.out;rw [Nat.zero_add] at this
       exact this)
      clear hst2 HR6;go_wp2
      go_roundw
      case rel => exact ⟨k + 1, m6, _, _, by go_num, by omega, fun e => absurd e hge, HM6, HR7, CM6, K3⟩
      case measure => simp [intOf]; omega
     case neg =>
      have HEND := ι (show (stR n st0 nums k).2 = endR n gs nums by unfold endR stepsR; rw [if_neg hge, hst0.out, show nums.length / 2 = k by omega]);go_upto_region 19 with (fail);refine wp_region_list ?_;refine Rg.lr 56 (Rg.exec_load (v := .int .i64 (((ll.length + ll.length) : Nat) : Int)) _ _ rfl ⟨mb, 0, none⟩ rfl (run_loadInt CM.out.c)) ?_;go_frame;refine Rg.lr 57 (exec_bin (R := .bool true) .gtr _ _ _ rfl rfl rfl (b_gtr _ (decide_eq_true (by omega)))) ?_;go_frame;refine Rg.lr 58 (Rg.xm (.bool true) _ rfl rfl) ?_;go_frame;refine listW_run (some 59) rfl rfl (Rg.xm (.int .i64 (((2 * k) : Nat) : Int)) _ rfl rfl) ?_;go_frame;refine listW_run (some 60) rfl rfl (exec_bin (R := .int .i64 (((2 * k + 1) : Nat) : Int)) .add _ _ _ rfl rfl rfl (b_add _ (by omega) (by omega))) ?_;go_frame;refine listW_run (some 61) rfl rfl (Rg.xm (.slice na nums.length nc) _ rfl rfl) ?_;go_frame;refine listW_run (some 62) rfl rfl (exec_len _ _ _ rfl Try.underlying22 _ _ _ rfl) ?_;go_frame
      refine listW_run (some 63) rfl rfl (exec_bin (R := .bool false) .lss _ _ _ rfl rfl rfl (b_lss _ (decide_eq_false (by omega)))) ?_;go_frame;refine Rg.lr 64 (exec_pickT (v := .bool false) _ _ _ rfl rfl rfl) ?_;go_frame;rw [HEND.out] at HR;have HRI := ι (endR_ok HGD.out nums);obtain ⟨lE, hlE, _⟩ := HRI.out.tl;have OKE := ι hlE.ok;have HT := ι HR.out.ht;have CP := ι HR.out.cp;clear hlE HR;have HM7 := ι (show m' < 1000000000000 by have := HM'.out; omega);go_upto_region 25 with (fail);refine wp_region_list ?_;refine Rg.lr 100 (Rg.exec_load (v := .pointer (some ⟨w2.heap.size, 0, none⟩)) _ _ rfl ⟨w3.heap.size, 0, none⟩ rfl (Rg.run_loadPtr _ _ Try.underlying146 CP.out.c)) ?_;go_frame;refine list_ask (some 101) rfl rfl _ _ (exec_fn1 124 _ _ rfl rfl (Ylcl5 _ _)) ?_;refine (pclosed_any hn1 hn2 HM7.out HT.out OKE.out.rp).mono ?_;rintro e1 w351 ⟨bC, rfl, hbc, hb⟩;have HBC := ι hbc;clear hbc;refine ⟨_, rfl, ?_⟩
      go_frame;replace HT := ι (HT.out.below hb);replace CP := ι (CP.out.below hb);replace KE := ι (KG.bel KE.out hb);clear hb;refine Rg.lr 102 (exec_not _ _ bC rfl rfl) ?_;go_frame;have hbk : Below w2.heap.size w2 w351 := KE.out.kf.below (Nat.le_refl _) (fun _ h => h);have FT := ι (FT0.out.below hbk);have G9 := ι (G0.out.below hbk);have K := ι (show Below w.heap.size w w351 from (KB.out.trans (hbk.mono KB.out.size)));clear hbk KE
      cases bC with
      | false =>
       have HNC := ι (show ¬ PClosed n (endR n gs nums) from fun h => by have := HBC.out.2 h; cases this);have HRC := ι (show rndc ((n : Nat) : Int) ll nums = 13 by rw [HLL.out]; exact rndc_no (by rw [← HLL.out]; exact HZ.out) HLG.out HNC.out);go_upto_region 26 with (fail);refine wp_region_list ?_;refine Rg.lr 103 (exec_buildC0 rfl) ?_;go_frame;refine Rg.list_skip none rfl rfl (Rg.exec_store _ _ _ rfl _ rfl _ rfl (run_storeC _ _ _ _ _ _ _ FT.out)) ?_;go_frame;refine Rg.lr 5 (Rg.xa (.int .i64 ((13 : Nat) : Int)) _ rfl rfl) ?_;go_frame;have htt := FT.out.set (.int .i64 0) (.slice none 0 0) (.slice none 0 0);have hkf := ((K.out.setCell (p := ⟨w0.heap.size, 0, none⟩) HW0.out (.int .i64 0)).setCell (p := ⟨w0.heap.size, 1, none⟩) HW0.out (.slice none 0 0)).setCell (p := ⟨w0.heap.size, 2, none⟩) HW0.out (.slice none 0 0);generalize ((w351.setCell ⟨w0.heap.size, 0, none⟩ (.int .i64 0)).setCell ⟨w0.heap.size, 1, none⟩ (.slice none 0 0)).setCell ⟨w0.heap.size, 2, none⟩ (.slice none 0 0) = w99 at *
       have HTT := ι htt
       have HFI := ι (show RndPost ((n : Nat) : Int) ll nums w (.returned (.tuple #[zeroC, .int .i64 13])) w99 from
        ⟨_, by rw [HRC.out], .inl ⟨by rw [HRC.out]; decide, rfl⟩, hkf⟩)
       clear htt hkf;go_wp2;exact bodyPost_ret (results_cellC2 (p := 4) (u := 5) rfl _ rfl rfl HTT.out) rfl HFI.out
      | true =>
       have HPC := ι (HBC.out.1 rfl);have HRC := ι (show rndc ((n : Nat) : Int) ll nums = 0 by rw [HLL.out]; exact rndc_yes (by rw [← HLL.out]; exact HZ.out) HLG.out HPC.out);clear HT CP;go_upto_region 27 with (fail);refine wp_region_list ?_;refine Rg.lr 104 (exec_fieldG0 _ rfl rfl) ?_;go_frame;refine Rg.lr 105 (Rg.exec_load (v := .int .i64 ((n : Nat) : Int)) _ _ rfl ⟨w.heap.size, 0, none⟩ rfl (run_loadInt G9.out.c0)) ?_;go_frame;refine Rg.lr 106 (exec_fieldG _ rfl rfl) ?_;go_frame;refine Rg.lr 107 (Rg.exec_load (v := .slice ga ll.length gc) _ _ rfl ⟨w.heap.size, 1, none⟩ rfl (Rg.run_loadSl _ _ Try.underlying24 G9.out.c1)) ?_;go_frame;have HWB := ι FT.out.lt;refine list_ask (some 108) rfl rfl _ _ (exec_fn 76 _ _ _ rfl rfl rfl (Wbcl1 _ _)) ?_;refine (build_b hn1 hn2 (by have := G9.out.rows; rw [show gs.map Ma.ofN = ll from HLL.out.symm]; exact this) HGD.out (by have := HGL.out; have := HL16.out; omega)).mono ?_
       rintro e1 w352 ⟨tb, L, F1, T1, V1, rfl, hT1, hc01, hc11, hB1, hb⟩;have HB := ι hB1;have HWC := ι (Nat.lt_of_lt_of_le HWB.out hb.size);refine ⟨_, rfl, ?_⟩;go_frame;replace FT := ι (FT.out.below hb);replace G9 := ι (G9.out.below hb);replace K := ι (Rg.acc K.out hb);clear hb;have HT := ι hT1;have C0 := ι hc01;have C1 := ι hc11;clear hT1 hc01 hc11 hB1;refine list_ask (some 109) rfl rfl _ _ (exec_fn1 77 _ _ rfl rfl (Wbcl2 _ _)) ?_;refine (chain_any hn1 hn2 HT.out C0.out C1.out (Cm.Gr.isG HGD.out) (HB.out.isTr (by omega) HGD.out) (fun j hj => (HB.out.full j hj).1)).mono ?_;rintro e1 w353 ⟨ov, rv, O, R, rfl, hO, hR, hCh, hb⟩;obtain ⟨oa, oc, rfl, _⟩ := hO.rows.shape;obtain ⟨ra, rc, rfl⟩ := hR.rows.shape;have HO := ι hO;have HR := ι hR;have HCH := ι hCh;clear hO hR hCh;refine ⟨_, rfl, ?_⟩;go_frame;replace FT := ι (FT.out.below hb);replace G9 := ι (G9.out.below hb);replace HT := ι (HT.out.below hb)
       replace C0 := ι (C0.out.below hb);replace C1 := ι (C1.out.below hb);replace K := ι (Rg.acc K.out hb);clear hb;refine Rg.list_skip none rfl rfl (Rg.exec_store _ _ _ rfl _ rfl _ rfl (run_storeC _ _ _ _ _ _ _ FT.out)) ?_;go_frame;refine Rg.lr 5 (Rg.xa (.int .i64 ((0 : Nat) : Int)) _ rfl rfl) ?_;go_frame;have htt := FT.out.set (.int .i64 ((n : Nat) : Int)) (.slice oa (O.map Ma.ofN).length oc) (.slice ra (R.map (List.map Ma.ofN)).length rc);have hkt := Rg.Kp.trans (Rg.Kp.trans (Rg.Kp.of_setCell (M := fun z => z = w0.heap.size) (w := w353) (a := ⟨w0.heap.size, 0, none⟩) (v := .int .i64 ((n : Nat) : Int)) rfl) (Rg.Kp.of_setCell (M := fun z => z = w0.heap.size) (a := ⟨w0.heap.size, 1, none⟩) (v := (.slice oa (O.map Ma.ofN).length oc)) rfl) (fun _ _ e => e)) (Rg.Kp.of_setCell (M := fun z => z = w0.heap.size) (a := ⟨w0.heap.size, 2, none⟩) (v := (.slice ra (R.map (List.map Ma.ofN)).length rc)) rfl) (fun _ _ e => e)
       have hro := FRows.kp HO.out hkt (fun z g e => by have := HWC.out; omega);have hrr := HR.out.kp hkt (fun z g e => by have := HWC.out; omega);have hkf := ((K.out.setCell (p := ⟨w0.heap.size, 0, none⟩) HW0.out (.int .i64 ((n : Nat) : Int))).setCell (p := ⟨w0.heap.size, 1, none⟩) HW0.out (.slice oa (O.map Ma.ofN).length oc)).setCell (p := ⟨w0.heap.size, 2, none⟩) HW0.out (.slice ra (R.map (List.map Ma.ofN)).length rc);generalize ((w353.setCell ⟨w0.heap.size, 0, none⟩ (.int .i64 ((n : Nat) : Int))).setCell ⟨w0.heap.size, 1, none⟩ (.slice oa (O.map Ma.ofN).length oc)).setCell ⟨w0.heap.size, 2, none⟩ (.slice ra (R.map (List.map Ma.ofN)).length rc) = w99 at *;have HTT := ι htt
       have HFI := ι (show RndPost ((n : Nat) : Int) ll nums w (.returned (.tuple #[.agg #[.int .i64 ((n : Nat) : Int), (.slice oa (O.map Ma.ofN).length oc), (.slice ra (R.map (List.map Ma.ofN)).length rc)], .int .i64 0])) w99 from
        ⟨_, by rw [HRC.out], .inr ⟨HRC.out, n, gs, rfl, HLL.out, hn1, hn2, _, _, O, R, rfl, FRows.rows hro, hrr.rows, HCH.out⟩, hkf⟩)
       clear htt hkt hro hrr hkf;go_wp2;exact bodyPost_ret (results_cellC2 (p := 4) (u := 5) rfl _ rfl rfl HTT.out) rfl HFI.out
end Go.Proofs.Ytcfomoknlchemaa

namespace Go.Proofs.Ytcfomoknlchemaa
open Go.RowKit
open Go.Proofs
attribute [local irreducible] Go.Calls
theorem isNaNC_any (x : Int) (w : World) : Calls Try.prog 186 #[.int .i64 x] w fun e w' => e = .returned (.bool false) ∧ w' = w := by
 go_enter Try.func186, Try.ntmps186
 go_wp2;go_ret;exact ⟨by simp, rfl⟩
theorem isNaNS_any (x : Int) (w : World) : Calls Try.prog 173 #[.int .i64 x] w fun e w' => e = .returned (.bool false) ∧ w' = w := by
 go_enter Try.func173, Try.ntmps173
 go_wp2;go_ret;exact ⟨by simp, rfl⟩
theorem cmpLess_any (x y : Int) (w : World) : Calls Try.prog 172 #[.int .i64 x, .int .i64 y] w fun e w' => e = .returned (.bool (decide (x < y))) ∧ w' = w := by
 go_enter Try.func172, Try.ntmps172
 go_wp2_with (go_at_call 186; refine (isNaNC_any _ _).mono ?_; rintro e w' ⟨rfl, rfl⟩)
 go_ret;exact ⟨rfl, rfl⟩
theorem search_any (v : Value) (l : List Int) (x : Int) (w : World) (h : Rg.Ints w v l) (hs : l.Pairwise (· ≤ ·)) (hbig : l.length < 1000000) :
  Calls Try.prog 133 #[v, .int .i64 x] w fun e w' => e = .returned (.tuple #[.int .i64 ((l.countP (· < x) : Nat) : Int), .bool (l.contains x)]) ∧ Below w.heap.size w w' := by
 obtain ⟨ad, cap, rfl, hcap, _, _, hcell⟩ := h.shape;have S := ι (show ∀ a b, a ≤ b → b < l.length → l.getD a 0 ≤ l.getD b 0 from Lib.sorted_at l l.length (Nat.le_refl _) (by rw [List.take_length]; exact hs));have HC := ι hcell;clear hs h hcell hcap
 go_enter Try.func133, Try.ntmps133
 go_wp2
 go_loopg [7, 8] l.length (fun g s7 s8 wr => ∃ lo hi : Nat, s7 = .int .i64 lo ∧ s8 = .int .i64 hi ∧ lo ≤ hi ∧ hi ≤ l.length ∧ hi - lo ≤ g ∧ wr = w ∧ Hid ((∀ t, t < lo → l.getD t 0 < x) ∧ (∀ t, hi ≤ t → t < l.length → x ≤ l.getD t 0)))
 case atStart => exact ⟨0, l.length, rfl, rfl, Nat.zero_le _, Nat.le_refl _, by omega, rfl, ι ⟨fun t ht => absurd ht (Nat.not_lt_zero _), fun t h1 h2 => by omega⟩⟩
 case round =>
  obtain ⟨lo, hi, rfl, rfl, hlh, hin, hg, rfl, I⟩ := hrel
  by_cases hlt : lo < hi
  ·obtain ⟨b, off, rfl, hb, hc⟩ := HC.out (by omega)
   have cm : wr.cell? ⟨b, off + (lo + hi) / 2, none⟩ = some (.int .i64 (l.getD ((lo + hi) / 2) 0)) := by
    rw [hc ((lo + hi) / 2) (by omega), List.getD_eq_getElem?_getD, List.getElem?_eq_getElem (by omega)]; rfl
   clear hc;generalize hy : l.getD ((lo + hi) / 2) 0 = y at cm;have Y := ι hy;clear hy
   by_cases hyx : y < x
   ·go_wp2_with (first | (go_at_call 172; refine (cmpLess_any _ _ _).mono ?_; rintro e w' ⟨rfl, rfl⟩) | (go_at_call 173; refine (isNaNS_any _ _).mono ?_; rintro e w' ⟨rfl, rfl⟩))
    go_roundg (hi - ((lo + hi) / 2 + 1))
    case measure => omega
    case rel =>
     refine ⟨(lo + hi) / 2 + 1, hi, by rw [show ((lo : Int) + (hi : Int)) / 2 + 1 = (((lo + hi) / 2 + 1 : Nat) : Int) by omega], rfl, by omega, hin, Nat.le_refl _, rfl, ι ⟨fun t ht => ?_, I.out.2⟩⟩;have := S.out t ((lo + hi) / 2) (by omega) (by omega);rw [Y.out] at this;omega
   ·go_wp2_with (first | (go_at_call 172; refine (cmpLess_any _ _ _).mono ?_; rintro e w' ⟨rfl, rfl⟩) | (go_at_call 173; refine (isNaNS_any _ _).mono ?_; rintro e w' ⟨rfl, rfl⟩))
    go_roundg ((lo + hi) / 2 - lo)
    case measure => omega
    case rel =>
     refine ⟨lo, (lo + hi) / 2, rfl, by rw [show ((lo : Int) + (hi : Int)) / 2 = (((lo + hi) / 2 : Nat) : Int) by omega], by omega, by omega, Nat.le_refl _, rfl, ι ⟨I.out.1, fun t ht htn => ?_⟩⟩;have := S.out ((lo + hi) / 2) t ht htn;rw [Y.out] at this;omega
  ·have : hi = lo := by omega
   subst this;have E := ι (Lib.search_end l l.length hi x (Nat.le_refl _) hin I.out.1 I.out.2 S.out);rw [List.take_length] at E
   by_cases hn : hi < l.length
   ·obtain ⟨b, off, rfl, hb, hc⟩ := HC.out (by omega)
    have cl : wr.cell? ⟨b, off + hi, none⟩ = some (.int .i64 (l.getD hi 0)) := by
     rw [hc hi hn, List.getD_eq_getElem?_getD, List.getElem?_eq_getElem hn]; rfl
    clear hc;generalize hy : l.getD hi 0 = y at cl;have Y := ι hy;clear hy
    by_cases hyx : y = x
    ·go_wp2_with (first | (go_at_call 172; refine (cmpLess_any _ _ _).mono ?_; rintro e w' ⟨rfl, rfl⟩) | (go_at_call 173; refine (isNaNS_any _ _).mono ?_; rintro e w' ⟨rfl, rfl⟩))
     go_ret2
     refine ⟨?_, Below.refl _ _⟩;rw [E.out.1, E.out.2, Y.out, decide_eq_true (show hi < l.length ∧ y = x from ⟨hn, hyx⟩)]
     first | rfl | simp [*]
    ·go_wp2_with (first | (go_at_call 172; refine (cmpLess_any _ _ _).mono ?_; rintro e w' ⟨rfl, rfl⟩) | (go_at_call 173; refine (isNaNS_any _ _).mono ?_; rintro e w' ⟨rfl, rfl⟩))
     go_ret2
     refine ⟨?_, Below.refl _ _⟩;rw [E.out.1, E.out.2, Y.out, decide_eq_false (show ¬ (hi < l.length ∧ y = x) from fun h => hyx h.2)]
     first | rfl | simp [*]
   ·go_wp2_with (first | (go_at_call 172; refine (cmpLess_any _ _ _).mono ?_; rintro e w' ⟨rfl, rfl⟩) | (go_at_call 173; refine (isNaNS_any _ _).mono ?_; rintro e w' ⟨rfl, rfl⟩))
    go_ret2
    refine ⟨?_, Below.refl _ _⟩;rw [E.out.1, E.out.2, decide_eq_false (show ¬ (hi < l.length ∧ l.getD hi 0 = x) from fun h => hn h.1)]
    first | rfl | simp [*]
end Go.Proofs.Ytcfomoknlchemaa

namespace Go.Proofs.Ytcfomoknlchemaa
open Go.Proofs
open Go.Proofs.Cm (Gr Gd IsChain IsG St Tr Fx ap Rp IsTr Sd sfP Lst)
def trC (O : List (List Nat)) (R : List (List (List Nat))) : Tr := fun i p => if p ∈ O.getD i [] then some ((R.getD i []).getD ((O.getD i []).idxOf p) []) else none
theorem trC_some {O : List (List Nat)} {R : List (List (List Nat))} {i p : Nat} (h : p ∈ O.getD i []) : trC O R i p = some ((R.getD i []).getD ((O.getD i []).idxOf p) []) := if_pos h
theorem trC_none {O : List (List Nat)} {R : List (List (List Nat))} {i p : Nat} (h : ¬ p ∈ O.getD i []) : trC O R i p = none := if_neg h
theorem trC_mem {O : List (List Nat)} {R : List (List (List Nat))} {i p : Nat} {u : List Nat} (h : trC O R i p = some u) : p ∈ O.getD i [] ∧ u = (R.getD i []).getD ((O.getD i []).idxOf p) [] := by
 unfold trC at h
 split at h
 ·rename_i hm; injection h with h; exact ⟨hm, h.symm⟩
 ·cases h
theorem getD_idx {l : List Nat} {p : Nat} (h : p ∈ l) : l.getD (l.idxOf p) 0 = p := by
 have hl := List.idxOf_lt_length_of_mem h;rw [List.getD_eq_getElem?_getD, List.getElem?_eq_getElem hl];exact List.getElem_idxOf hl
theorem trC_lst {n : Nat} {H : List Nat → Prop} {O : List (List Nat)} {R : List (List (List Nat))} (h : IsChain n H O R) {i p : Nat} (hi : i < n) {u : List Nat} (hu : trC O R i p = some u) : Lst n (fun z => St H i z ∧ ap z i = p) u := by
 obtain ⟨hm, rfl⟩ := trC_mem hu;have := h.rep i _ hi (List.idxOf_lt_length_of_mem hm)
 rwa [getD_idx hm] at this
theorem one_least {n : Nat} {H : List Nat → Prop} (hH : IsG n H) {i : Nat} (hi : i < n) {u : List Nat} (h : Lst n (fun z => St H i z ∧ ap z i = i) u) : u = Ma.oneN n := by
 have hg := hH.gd u h.1.1.1
 rcases h.2 (Ma.oneN n) ⟨⟨hH.one, Fx.one (by omega)⟩, Cm.ap_one hi⟩ with e | ⟨j, hj, h1, h2⟩
 ·exact e.symm
 ·rw [Cm.ap_one hj] at h2
  have h3 := h1 _ h2;rw [Cm.ap_one (by omega)] at h3;have := Cm.ap_inj hg (by omega) hj h3;omega
theorem trC_isTr {n : Nat} {H : List Nat → Prop} (hH : IsG n H) {O : List (List Nat)} {R : List (List (List Nat))} (h : IsChain n H O R) : IsTr n H (trC O R) := by
 refine ⟨⟨fun i p u _ hi hu => hH.gd u (trC_lst h hi hu).1.1.1, fun i p u _ hi hu => (trC_lst h hi hu).1.1.2, fun i p u _ hi hu => (trC_lst h hi hu).1.2, fun i _ hi => ?_⟩, fun i p u hi hu => (trC_lst h hi hu).1.1.1, fun i x hi hx => ?_⟩
 ·have hm : i ∈ O.getD i [] := (h.orb i i hi).2 ⟨Ma.oneN n, ⟨hH.one, Fx.one (by omega)⟩, Cm.ap_one hi⟩
  have e := trC_some (R := R) hm;rw [e];exact congrArg some (one_least hH hi (trC_lst h hi e))
 ·exact ⟨_, trC_some ((h.orb i _ hi).2 ⟨x, hx, rfl⟩)⟩
theorem asc_count : ∀ {l : List Nat} {p : Nat}, l.Pairwise (· < ·) → p ∈ l → (Ma.ofN l).countP (· < ((p : Nat) : Int)) = l.idxOf p
 | [], p, _, h => by simp at h
 | a :: l, p, hs, h => by
  rw [List.pairwise_cons] at hs;show (((a : Nat) : Int) :: Ma.ofN l).countP _ = _;rw [List.countP_cons]
  by_cases e : a = p
  ·subst e
   have : (Ma.ofN l).countP (fun x => decide (x < ((a : Nat) : Int))) = 0 := by
    rw [List.countP_eq_zero];intro x hx;obtain ⟨y, hy, rfl⟩ := List.mem_map.1 hx;have := hs.1 y hy;simp;omega
   rw [this];simp
  ·have hm : p ∈ l := by
    rcases List.mem_cons.1 h with h | h
    ·exact absurd h.symm e
    ·exact h
   have hlt := hs.1 p hm;rw [asc_count hs.2 hm, List.idxOf_cons, if_pos (by simp; omega)]
   have : (a == p) = false := by simpa using e
   rw [this]; rfl
theorem ofN_contains {l : List Nat} {p : Nat} : (Ma.ofN l).contains ((p : Nat) : Int) = decide (p ∈ l) := by
 rw [Bool.eq_iff_iff, List.contains_iff_mem, decide_eq_true_iff]
 constructor
 ·intro h
  obtain ⟨y, hy, e⟩ := List.mem_map.1 h
  have : y = p := by omega
  exact this ▸ hy
 ·intro h
  exact List.mem_map.2 ⟨p, h, rfl⟩
theorem asc_le {l : List Nat} (h : l.Pairwise (· < ·)) : (Ma.ofN l).Pairwise (· ≤ ·) := by
 unfold Ma.ofN;rw [List.pairwise_map];exact h.imp (fun {a b} h => by omega)
def siC (n : Nat) (O : List (List Nat)) (R : List (List (List Nat))) (x : List Nat) : Nat × List Nat := sfP n (trC O R) n x
theorem siC_le {n : Nat} {O : List (List Nat)} {R : List (List (List Nat))} (x : List Nat) : (siC n O R x).1 ≤ n := by
 have key : ∀ d x, (sfP n (trC O R) d x).1 ≤ n := by
  intro d
  induction d with
  | zero => intro x; exact Nat.le_refl _
  | succ d ih =>
   intro x
   show (match trC O R (n - (d + 1)) (ap x (n - (d + 1))) with | none => (n - (d + 1), x) | some u => sfP n (trC O R) d (Ma.mulN x (Ma.invN u))).1 ≤ n
   split
   ·exact Nat.sub_le _ _
   ·exact ih _
 exact key n x
theorem siC_all {n : Nat} {H : List Nat → Prop} (hH : IsG n H) {O : List (List Nat)} {R : List (List (List Nat))} (h : IsChain n H O R) {x : List Nat} (gx : Gd n x) : (siC n O R x).1 = n ↔ H x := by
 have ht := trC_isTr hH h
 constructor
 ·intro e
  have key : ∀ d x, d ≤ n → Gd n x → (sfP n (trC O R) d x).1 = n → H (sfP n (trC O R) d x).2 → H x := by
   intro d
   induction d with
   | zero => intro x _ _ _ h; exact h
   | succ d ih =>
    intro x hd gx he hx
    cases hu : trC O R (n - (d + 1)) (ap x (n - (d + 1))) with
    | none =>
     rw [Cm.sfP_none hu] at he;simp at he;omega
    | some u =>
     rw [Cm.sfP_some hu] at he hx;have hmu := ht.mem _ _ _ (by omega) hu;have gu := hH.gd u hmu;have := ih _ (by omega) (Cm.gd_mul gx (Cm.gd_inv gu)) he hx;have h2 := hH.mul _ _ this hmu
     rwa [Cm.mul_inv_cancel gx gu] at h2
  have hone : (sfP n (trC O R) n x).2 = Ma.oneN n := by
   have h1 := Cm.sfP_all ht.rp (d := n) (x := x) (Nat.le_refl _) (Nat.zero_le _) gx (by rw [Nat.sub_self]; intro j hj; omega);refine Fx.all h1.2.2.1 ?_;have h2 := h1.2.2.2.1;have e2 : (sfP n (trC O R) n x).1 = n := e
   rwa [e2] at h2
  exact key n x (Nat.le_refl _) gx e (by rw [hone]; exact hH.one)
 ·intro hx
  have key : ∀ d x, d ≤ n → St H (n - d) x → (sfP n (trC O R) d x).1 = n := by
   intro d
   induction d with
   | zero => intro x _ _; rfl
   | succ d ih =>
    intro x hd hx;obtain ⟨u, hu⟩ := ht.all (n - (d + 1)) x (by omega) hx;rw [Cm.sfP_some hu];have gx := hH.gd x hx.1;have hs := Cm.step_fx ht.rp (Nat.zero_le _) (by omega) gx hx.2 hu;refine ih _ (by omega) ⟨hH.mul _ _ hx.1 (hH.inv _ (ht.mem _ _ _ (by omega) hu)), ?_⟩;rw [show n - d = n - (d + 1) + 1 by omega];exact hs.2
  exact key n x (Nat.le_refl _) ⟨hx, by rw [Nat.sub_self]; intro j hj; omega⟩
end Go.Proofs.Ytcfomoknlchemaa

namespace Go.Proofs.Ytcfomoknlchemaa
open Go.RowKit
open Go.Proofs
open Go.Shelf
open Go.Proofs.Cm (Tr Gd ap sfP)
attribute [local irreducible] Go.Calls Go.wpList
def siF (tr : Tr) : List Nat → List Nat → Option (List Nat)
 | [], x => some x
 | i :: l, x => match tr i (ap x i) with
  | none => none
  | some u => siF tr l (Ma.mulN x (Ma.invN u))
theorem siF_snoc (tr : Tr) : ∀ (l : List Nat) (x : List Nat) (i : Nat) {y u : List Nat}, siF tr l x = some y → tr i (ap y i) = some u → siF tr (l ++ [i]) x = some (Ma.mulN y (Ma.invN u))
 | [], x, i, y, u, h, h2 => by
  cases h
  show (match tr i (ap x i) with | none => none | some u => siF tr [] (Ma.mulN x (Ma.invN u))) = _
  rw [h2]; rfl
 | j :: l, x, i, y, u, h, h2 => by
  have h' : (match tr j (ap x j) with | none => none | some u => siF tr l (Ma.mulN x (Ma.invN u))) = some y := h
  show (match tr j (ap x j) with | none => none | some u => siF tr (l ++ [i]) (Ma.mulN x (Ma.invN u))) = _
  cases e : tr j (ap x j) with
  | none => rw [e] at h'; cases h'
  | some v =>
   rw [e] at h';exact siF_snoc tr l _ i h' h2
theorem siF_app (tr : Tr) : ∀ (l m : List Nat) (x : List Nat), siF tr (l ++ m) x = (siF tr l x).bind (siF tr m)
 | [], m, x => rfl
 | j :: l, m, x => by
  show (match tr j (ap x j) with | none => none | some u => siF tr (l ++ m) (Ma.mulN x (Ma.invN u))) = Option.bind (match tr j (ap x j) with | none => none | some u => siF tr l (Ma.mulN x (Ma.invN u))) _
  cases tr j (ap x j) with
  | none => rfl
  | some v => exact siF_app tr l m _
theorem siF_range {n : Nat} {tr : Tr} {x : List Nat} : ∀ {k : Nat} {y : List Nat}, k ≤ n → siF tr (List.range k) x = some y → sfP n tr n x = sfP n tr (n - k) y
 | 0, y, _, h => by cases h; rfl
 | k + 1, y, hk, h => by
  rw [List.range_succ, siF_app] at h
  cases e : siF tr (List.range k) x with
  | none => rw [e] at h; cases h
  | some z =>
   rw [e] at h;rw [siF_range (by omega) e]
   have h' : (match tr k (ap z k) with | none => none | some u => siF tr [] (Ma.mulN z (Ma.invN u))) = some y := h
   have ek : n - (n - (k + 1) + 1) = k := by omega
   rw [show n - k = n - (k + 1) + 1 by omega]
   cases e2 : tr k (ap z k) with
   | none => rw [e2] at h'; cases h'
   | some u =>
    rw [e2] at h'
    cases h'
    exact Cm.sfP_some (by rw [ek]; exact e2)
theorem siF_stop {n : Nat} {tr : Tr} {x y : List Nat} {k : Nat} (hk : k < n) (h : siF tr (List.range k) x = some y) (h2 : tr k (ap y k) = none) : sfP n tr n x = (k, y) := by
 rw [siF_range (Nat.le_of_lt hk) h, show n - k = n - (k + 1) + 1 by omega]
 have ek : n - (n - (k + 1) + 1) = k := by omega
 rw [Cm.sfP_none (by rw [ek]; exact h2), ek]
theorem siF_done {n : Nat} {tr : Tr} {x y : List Nat} (h : siF tr (List.range n) x = some y) : sfP n tr n x = (n, y) := by
 rw [siF_range (Nat.le_refl _) h, Nat.sub_self]; rfl
theorem siF_gd {n : Nat} {tr : Tr} (ht : ∀ i p u, i < n → tr i p = some u → Gd n u) : ∀ {l : List Nat} {x y : List Nat}, (∀ i ∈ l, i < n) → Gd n x → siF tr l x = some y → Gd n y
 | [], x, y, _, gx, h => by cases h; exact gx
 | i :: l, x, y, hl, gx, h => by
  have h' : (match tr i (ap x i) with | none => none | some u => siF tr l (Ma.mulN x (Ma.invN u))) = some y := h
  cases e : tr i (ap x i) with
  | none => rw [e] at h'; cases h'
  | some u =>
   rw [e] at h';exact siF_gd ht (fun j hj => hl j (List.mem_cons_of_mem _ hj)) (Cm.gd_mul gx (Cm.gd_inv (ht i _ u (hl i (List.mem_cons_self ..)) e))) h'
theorem finTo_val {m : Nat} : ∀ {k : Nat}, k ≤ m → (finTo m k).map (fun x => x.1) = List.range k
 | 0, _ => rfl
 | k + 1, h => by
  rw [finTo_succ h, List.map_append, finTo_val (Nat.le_of_succ_le h), List.range_succ]; rfl
theorem range_reps2 {g : Operand} {ps : Array Go.Tmp} {assign body : Code} {Q : Exit → Act → World → Prop} {a : Act} {w : World} {n₀ m cap fb : Nat} {ad : Option Addr} {RV : Nat → Value}
  (hg : a.eval g = .func (.func 134) #[] #[.pointer (some ⟨fb, 0, none⟩)]) (hfb : CL w fb 2 (.slice ad m cap)) (h : RV3 n₀ w ad m RV) (hps : ps.size = 2)
  (I : List (Fin m) → World → Prop) (Ix : Code → List (Fin m) → World → Prop) (hI : OwnFrom w.heap.size I) (hIx : ∀ c, OwnFrom w.heap.size (Ix c)) (h0 : I [] w) (a₁ : Fin m → Act)
  (hassign : ∀ (l : Nat) (x : Fin m) (W : World) (K : Act → World → Prop), K (a₁ x) W → assign.wpIn (Fence.wide.inRound l) 1 Try.prog (Exit.then K (fun _ _ _ => False)) { tmps := (ps.zip #[Value.int .i64 ((x.1 : Nat) : Int), RV x.1]).foldl (fun t (p, v) => t.setIfInBounds p v) a.tmps, defers := [] } W)
  (hbody : ∀ (l : Nat) (pre : List (Fin m)) (x : Fin m) (W : World), I pre W → pre.length < m → body.wpIn (Fence.wide.inRound l) 1 Try.prog (ownPostG w.heap.size (Below n₀) I Ix (pre ++ [x]) W) (a₁ x) W)
  (hdone : ∀ (D : Nat) (W : World), w.heap.size ≤ D → I (finTo m m) W → RF.Dfr D W → Q .normal { a with defers := RF.mark D :: a.defers } W)
  (hstop : ∀ (D : Nat) (c : Code) (k : Nat) (W : World), w.heap.size ≤ D → k ≤ m → Ix c (finTo m k) W → RF.Dfr D W → c.wp Try.prog Q { a with defers := RF.mark D :: a.defers } W) :
  (Code.rangeFunc g ps assign body).wp Try.prog Q a w :=
 wpIn_wide.1 (wpIn_rangeFunc_ownG (F := Fence.wide) (n := 3) rfl (by decide) (gf := 134) (lb := #[.pointer (some ⟨fb, 0, none⟩)]) hg trivial (enters_of Try.func134 (by kernel_rfl) rfl)
  (reps_stops h hfb 2 (by decide)) belowK_t (belowK_b h.sz) (Below.refl _ _) (fun _ => hps.symm) I Ix hI hIx h0 a₁ hassign hbody
  (fun D xs W hD hx hi hd => by subst hx; exact hdone D W hD hi hd) (fun D c pre W hD hp hi hd => by obtain ⟨k, hk, rfl⟩ := hp; exact wpIn_wide.2 (hstop D c k W hD hk hi hd)))
theorem cell_nc {W W' : World} {row : Option Nat} (hg : W.grownBy W' row) (hr : ∀ r, row = some r → ∃ o : Obj, W.heap[r]? = some o ∧ o.isCells = false) {a : Addr} {v : Value} (h : W.cell? a = some v) : W'.cell? a = some v := by
 have key : W'.heap[a.block]? = W.heap[a.block]? := by
  unfold World.cell? at h
  cases e : W.heap[a.block]? with
  | none => rw [e] at h; cases h
  | some o =>
   rw [e] at h;have hlt := (Array.getElem?_eq_some_iff.1 e).1;refine (hg.block _ hlt fun e2 => ?_).trans e;obtain ⟨o', ho, hc⟩ := hr _ e2.symm;rw [e] at ho
   cases ho
   cases o <;> simp at h <;> cases hc
 rw [World.cell?_of_block key];exact h
theorem fvals_nc {F : Nat → Prop} {W W' : World} {row : Option Nat} (hg : W.grownBy W' row) (hr : ∀ r, row = some r → ∃ o : Obj, W.heap[r]? = some o ∧ o.isCells = false) {v : Value} {us : List Value} (h : Rg.FVals F W v us) : Rg.FVals F W' v us := by
 obtain ⟨a, cap, e, h1, h2, h3, h4⟩ := h;refine ⟨a, cap, e, h1, h2, h3, fun h0 => ?_⟩;obtain ⟨b, o, e1, e2, e3, e4⟩ := h4 h0;exact ⟨b, o, e1, Nat.lt_of_lt_of_le e2 hg.size, e3, fun i hi => cell_nc hg hr (e4 i hi)⟩
theorem fp_nc {F : Nat → Prop} {W W' : World} {row : Option Nat} (hg : W.grownBy W' row) (hr : ∀ r, row = some r → ∃ o : Obj, W.heap[r]? = some o ∧ o.isCells = false) {v : Value} {p : List Nat} (h : FP F W v p) : FP F W' v p := fvals_nc hg hr h
def SfF (w : World) (z : Nat) : Prop := z < w.heap.size ∨ w.heap.size + 4 ≤ z
structure SfI (w : World) (n : Int) (ov rv : Value) (W : World) (yv : Value) (y : List Nat) : Prop where
 bel : Below w.heap.size w W
 a0 : CL W w.heap.size 0 (.int .i64 n)
 a1 : CL W w.heap.size 1 ov
 a2 : CL W w.heap.size 2 rv
 cx : CW W (w.heap.size + 1) yv
 c4 : CW W (w.heap.size + 2) (.slice none 0 0)
 c5 : CW W (w.heap.size + 3) (.int .i64 0)
 fp : FP (SfF w) W yv y
theorem fp_below {F : Nat → Prop} {w w' : World} {v : Value} {p : List Nat} (h : FP F w v p) (hb : Below w.heap.size w w') : FP F w' v p := h.kf (KF.of_below hb)
theorem SfI.below {w : World} {n : Int} {ov rv : Value} {W W' : World} {yv : Value} {y : List Nat} (h : SfI w n ov rv W yv y) (hb : Below W.heap.size W W') : SfI w n ov rv W' yv y :=
 ⟨h.bel.trans (hb.mono h.bel.size), h.a0.up hb, h.a1.up hb, h.a2.up hb, h.cx.below hb, h.c4.below hb, h.c5.below hb, fp_below h.fp hb⟩
theorem SfI.keep {w : World} {n : Int} {ov rv : Value} {W W' : World} {yv : Value} {y : List Nat} {row : Option Nat} {B : Nat} (h : SfI w n ov rv W yv y) (hB : w.heap.size + 4 ≤ B) (hg : W.grownBy W' row) (hr : ∀ r, row = some r → B ≤ r ∧ ∃ o : Obj, W.heap[r]? = some o ∧ o.isCells = false) : SfI w n ov rv W' yv y := by
 have hk : Rg.Kp (fun k => row = some k) W W' := Rg.Kp.of_grown hg fun _ e => e
 have hM : ∀ b, b < B → ¬ row = some b := fun b hb e => by have := (hr b e).1; omega
 exact ⟨h.bel.grown hg h.bel.size (fun k e => by have := (hr k e).1; omega), h.a0.kp hk (hM _ (by omega)), h.a1.kp hk (hM _ (by omega)), h.a2.kp hk (hM _ (by omega)), h.cx.kp hk (hM _ (by omega)), h.c4.kp hk (hM _ (by omega)), h.c5.kp hk (hM _ (by omega)), fp_nc hg (fun r e => (hr r e).2) h.fp⟩
theorem SfI.set {w : World} {n : Int} {ov rv : Value} {W : World} {yv yv' : Value} {y y' : List Nat} (h : SfI w n ov rv W yv y) (hp : FP (SfF w) W yv' y') : SfI w n ov rv (W.setCell ⟨w.heap.size + 1, 0, none⟩ yv') yv' y' := by
 have hk : Rg.Kp (fun z => z = w.heap.size + 1) W (W.setCell ⟨w.heap.size + 1, 0, none⟩ yv') := Rg.Kp.of_setCell rfl;exact ⟨h.bel.setCell (p := ⟨w.heap.size + 1, 0, none⟩) (by show w.heap.size ≤ w.heap.size + 1; omega) _, h.a0.kp hk (by omega), h.a1.kp hk (by omega), h.a2.kp hk (by omega), h.cx.set _, h.c4.kp hk (by omega), h.c5.kp hk (by omega), Rg.FI.kp hp hk (fun z hz e => by unfold SfF at hz; omega)⟩
theorem sf_new {w W W' : World} {v : Value} {p : List Nat} (hW : w.heap.size + 4 ≤ W.heap.size) (hv : Rg.NPF W W' v p) : FP (SfF w) W' v p := by
 refine (FP.new (F := SfF w) hv).mono fun k hk => ?_
 rcases hk with hk | hk
 ·exact hk
 ·exact .inr (by omega)
structure SfS (w W : World) (i : Nat) (yv : Value) (y : List Nat) : Prop where
 bel : Below w.heap.size w W
 c4 : CW W (w.heap.size + 2) yv
 c5 : CW W (w.heap.size + 3) (.int .i64 ((i : Nat) : Int))
 fp : FP (SfF w) W yv y
theorem SfS.keep {w W W' : World} {i : Nat} {yv : Value} {y : List Nat} {row : Option Nat} {B : Nat} (h : SfS w W i yv y) (hB : w.heap.size + 4 ≤ B) (hg : W.grownBy W' row) (hr : ∀ r, row = some r → B ≤ r ∧ ∃ o : Obj, W.heap[r]? = some o ∧ o.isCells = false) : SfS w W' i yv y := by
 have hk : Rg.Kp (fun k => row = some k) W W' := Rg.Kp.of_grown hg fun _ e => e
 have hM : ∀ b, b < B → ¬ row = some b := fun b hb e => by have := (hr b e).1; omega
 exact ⟨h.bel.grown hg h.bel.size (fun k e => by have := (hr k e).1; omega), h.c4.kp hk (hM _ (by omega)), h.c5.kp hk (hM _ (by omega)), fp_nc hg (fun r e => (hr r e).2) h.fp⟩
theorem SfI.stop {w : World} {n : Int} {ov rv : Value} {W : World} {yv : Value} {y : List Nat} (h : SfI w n ov rv W yv y) (i : Nat) : SfS w ((W.setCell ⟨w.heap.size + 2, 0, none⟩ yv).setCell ⟨w.heap.size + 3, 0, none⟩ (.int .i64 ((i : Nat) : Int))) i yv y := by
 have hk1 : Rg.Kp (fun z => z = w.heap.size + 2) W (W.setCell ⟨w.heap.size + 2, 0, none⟩ yv) := Rg.Kp.of_setCell rfl;have hk2 : Rg.Kp (fun z => z = w.heap.size + 3) (W.setCell ⟨w.heap.size + 2, 0, none⟩ yv) ((W.setCell ⟨w.heap.size + 2, 0, none⟩ yv).setCell ⟨w.heap.size + 3, 0, none⟩ (.int .i64 ((i : Nat) : Int))) := Rg.Kp.of_setCell rfl
 exact ⟨(h.bel.setCell (p := ⟨w.heap.size + 2, 0, none⟩) (by show w.heap.size ≤ w.heap.size + 2; omega) _).setCell (p := ⟨w.heap.size + 3, 0, none⟩) (by show w.heap.size ≤ w.heap.size + 3; omega) _, (h.c4.set _).other _ (by omega), (h.c5.other _ (by omega)).set _,
  Rg.FI.kp (Rg.FI.kp h.fp hk1 (fun z hz e => by unfold SfF at hz; omega)) hk2 (fun z hz e => by unfold SfF at hz; omega)⟩
end Go.Proofs.Ytcfomoknlchemaa

namespace Go.Proofs.Ytcfomoknlchemaa
open Go.RowKit
open Go.Proofs
open Go.Proofs.Ob
open Go.Shelf
open Go.Proofs.Cm (Tr Gd ap sfP)
attribute [local go_sem] Oper.semAt_some
attribute [local irreducible] Go.Calls Go.wpList Go.wpListIn
theorem Zdcl2 (args : Array Value) (w : World) : (callFunc 133 args).run Try.prog w = .ok (.enter 133 args) w := by kernel_rfl
theorem results_cells2 {fn : Func} {p u : Go.Tmp} {t1 t2 : TypeId} (h : fn.results = #[.cell p t1, .cell u t2]) (tmps : Array Value) {w : World} {b1 b2 : Nat} {v1 v2 : Value} (hp : tmps.getD p undef = .pointer (some ⟨b1, 0, none⟩)) (hu : tmps.getD u undef = .pointer (some ⟨b2, 0, none⟩))
  (h1 : (loadVar t1 ⟨b1, 0, none⟩).run Try.prog w = .ok v1 w) (h2 : (loadVar t2 ⟨b2, 0, none⟩).run Try.prog w = .ok v2 w) :
  (results fn tmps).run Try.prog w = .ok (.tuple #[v1, v2]) w := by
 have hp' : tmps[p]?.getD undef = .pointer (some ⟨b1, 0, none⟩) := by simpa using hp
 have hu' : tmps[u]?.getD undef = .pointer (some ⟨b2, 0, none⟩) := by simpa using hu
 simp [results, h, hp', hu', asAddr, h1, h2, Result.andThen]
theorem exec_allocPm {o : Oper} {a : Act} {w : World} (ho : o.op = .alloc 39) : (execOp a.eval o).run Try.prog w = .ok (.value (.pointer (some ⟨w.heap.size, 0, none⟩))) (w.alloc (.cells #[.slice none 0 0] 39)) := by
 obtain ⟨i0, hi, hz0, hz1, hz2⟩ := info_parts infoPerm;unfold execOp;simp [ho, Instr.alloc, typeInfo, zeroValue, hi, hz0, newVar, Value.cells, Result.andThen];rfl
theorem fvals_cells {F : Nat → Prop} {W W' : World} (hc : ∀ a, W'.cell? a = W.cell? a) (hs : W.heap.size ≤ W'.heap.size) {v : Value} {us : List Value} (h : Rg.FVals F W v us) : Rg.FVals F W' v us := by
 obtain ⟨a, cap, e, h1, h2, h3, h4⟩ := h;refine ⟨a, cap, e, h1, h2, h3, fun h0 => ?_⟩;obtain ⟨b, o, e1, e2, e3, e4⟩ := h4 h0;exact ⟨b, o, e1, Nat.lt_of_lt_of_le e2 hs, e3, fun i hi => (hc _).trans (e4 i hi)⟩
def SiPost (n : Nat) (O : List (List Nat)) (R : List (List (List Nat))) (x : List Nat) (w : World) (e : Ending) (w' : World) : Prop := ∃ v, e = .returned (.tuple #[v, .int .i64 (((siC n O R x).1 : Nat) : Int)]) ∧ Rg.NP w' v (siC n O R x).2 ∧ Below w.heap.size w w'
theorem si_leave {n : Nat} {O : List (List Nat)} {R : List (List (List Nat))} {x : List Nat} {w W : World} {tmps : Array Value} {yv : Value} {y : List Nat} {i : Nat} {ds : List Nat} (hb : Below w.heap.size w W) (h4 : CW W (w.heap.size + 2) yv) (h5 : CW W (w.heap.size + 3) (.int .i64 ((i : Nat) : Int))) (hp : FP (SfF w) W yv y) (he : siC n O R x = (i, y)) (p4 : tmps.getD 4 undef = .pointer (some ⟨w.heap.size + 2, 0, none⟩)) (p5 : tmps.getD 5 undef = .pointer (some ⟨w.heap.size + 3, 0, none⟩)) (hnd : ds.Nodup) (hD : ∀ D, D ∈ ds → RF.Dfr D W ∧ w.heap.size ≤ D) :
  LeavesInM Fence.wide 0 Try.prog Try.f80 tmps (SiPost n O R x w) (ds.map RF.mark) .returning W :=
 RF.leaves w.heap.size ds W hnd hD fun W' l1 l2 _ => ⟨_, results_cells2 rfl _ p4 p5 (Rg.run_loadSl _ _ Try.underlying39 ((l2 _).trans h4.c)) (run_loadInt ((l2 _).trans h5.c)), yv, by rw [he], by rw [he]; exact FP.np (fvals_cells l2 l1.size hp), hb.trans l1⟩
def SfX {m : Nat} (w : World) (tr : Tr) (x : List Nat) (pre : List (Fin m)) (W : World) : Prop := ∃ pre0 X yv y, pre = pre0 ++ [X] ∧ SfS w W X.1 yv y ∧ siF tr (pre0.map fun z => z.1) x = some y ∧ tr X.1 (ap y X.1) = none
theorem finTo_split {m k : Nat} (hk : k ≤ m) {pre : List (Fin m)} {x : Fin m} (h : finTo m k = pre ++ [x]) : k = x.1 + 1 ∧ pre = finTo m x.1 := by
 cases k with
 | zero => have := congrArg List.length h; simp [finTo_zero] at this
 | succ k =>
  rw [finTo_succ hk] at h;obtain ⟨e1, e2⟩ := List.append_inj' h rfl
  injection e2 with e2
  subst e2;exact ⟨rfl, e1.symm⟩
theorem gd_mem {n : Nat} {y : List Nat} (h : Gd n y) {z : Nat} (hz : z ∈ y) : z < n := by
 obtain ⟨i, hi, rfl⟩ := List.getElem_of_mem hz;have := Cm.ap_lt h (i := i) (by rw [← h.2]; exact hi)
 rwa [Cm.ap_at hi] at this
theorem bs_in {v : Value} {l : List Nat} {q k : Nat} {w : World} (h : Rg.Ints w v (Ma.ofN l)) (hs : l.Pairwise (· < ·)) (hl : l.length < 1000000) (hm : q ∈ l) (hk : Hid (l.idxOf q = k)) :
  Calls Try.prog 133 #[v, .int .i64 ((q : Nat) : Int)] w fun e w' => e = .returned (.tuple #[.int .i64 ((k : Nat) : Int), .bool true]) ∧ Below w.heap.size w w' := by
 refine (search_any v (Ma.ofN l) q w h (asc_le hs) (by rw [Ma.len_ofN]; exact hl)).mono ?_;rintro e w' ⟨rfl, hb⟩;exact ⟨by rw [asc_count hs hm, ofN_contains, decide_eq_true hm, hk.out], hb⟩
theorem bs_out {v : Value} {l : List Nat} {q : Nat} {w : World} (h : Rg.Ints w v (Ma.ofN l)) (hs : l.Pairwise (· < ·)) (hl : l.length < 1000000) (hm : ¬ q ∈ l) :
  Calls Try.prog 133 #[v, .int .i64 ((q : Nat) : Int)] w fun e w' => ∃ k, e = .returned (.tuple #[.int .i64 k, .bool false]) ∧ Below w.heap.size w w' := by
 refine (search_any v (Ma.ofN l) q w h (asc_le hs) (by rw [Ma.len_ofN]; exact hl)).mono ?_;rintro e w' ⟨rfl, hb⟩;exact ⟨_, by rw [ofN_contains, decide_eq_false hm], hb⟩
theorem csift_any {n : Nat} {H : List Nat → Prop} {O : List (List Nat)} {R : List (List (List Nat))} (hn1 : 1 ≤ n) (hn2 : n ≤ 64) (hH : Cm.IsG n H) (hch : Cm.IsChain n H O R) {OO : List (List Int)} {RR : List (List (List Int))} (hOO : OO = O.map Ma.ofN) (hRR : RR = R.map (List.map Ma.ofN)) {ov rv xv : Value} {x : List Nat} {w : World} (h : ChEqR w ov rv OO RR) (hx : Rg.NP w xv x) (gx : Gd n x) :
  Calls Try.prog 80 #[.agg #[.int .i64 ((n : Nat) : Int), ov, rv], xv] w (SiPost n O R x w) := by
 obtain ⟨oa, oc, rfl, -, hoL, -, -⟩ := h.1.shape;obtain ⟨ra, rc, rfl⟩ := h.2.shape;obtain ⟨xa, xc, rfl, -⟩ := Rg.Ints.shape hx;have hxl : x.length = n := gx.2;rw [Ma.len_ofN, hxl] at hx ⊢;have HO := ι h.1;have HR := ι h.2;have HX := ι hx;have GX := ι gx;have HH := ι hH;have HCH := ι hch;have HOO := ι hOO;have HRR := ι hRR;have HLO := ι (show OO.length = n by rw [hOO, List.length_map, hch.lenO]);have HLR := ι (show RR.length = n by rw [hRR, List.length_map, hch.lenR]);have HTG := ι (show ∀ i p u, i < n → trC O R i p = some u → Gd n u from fun i p u hi hu => (trC_isTr hH hch).rp.gd i p u (Nat.zero_le _) hi hu);have K := ι (Below.refl w.heap.size w);clear h hx gx hH hch hOO hRR hxl;refine RF.calls_marks Try.func80 rfl ?_;simp only [Try.ntmps80, List.size_toArray, List.length_cons, List.length_nil, Nat.reduceAdd, Nat.reduceSub, Array.replicate_succ, Array.replicate_zero, List.push_toArray, List.append_toArray, List.nil_append, List.cons_append]
 have hbx := box3 w (.int .i64 ((n : Nat) : Int)) (.slice oa OO.length oc) (.slice ra RR.length rc)
 have hs : (w.alloc (.cells #[.int .i64 ((n : Nat) : Int), .slice oa OO.length oc, .slice ra RR.length rc] 32)).heap.size = w.heap.size + 1 := by simp
 go_upto_region 0 with (fail);refine wp_region_list ?_;refine Rg.lr 2 (Rg.exec_box _ _ rfl rfl) ?_;go_frame;have hb : Below w.heap.size w (w.alloc (.cells #[.int .i64 ((n : Nat) : Int), .slice oa OO.length oc, .slice ra RR.length rc] 32)) := (Below.refl _ _).alloc (Nat.le_refl _) _;generalize w.alloc (.cells #[.int .i64 ((n : Nat) : Int), .slice oa OO.length oc, .slice ra RR.length rc] 32) = w1 at *;have A0 := ι hbx.1;have A1 := ι hbx.2.1;have A2 := ι hbx.2.2;replace K := ι hb;have hs1 : w1.heap.size = w.heap.size + 1 := hs;clear hbx hb hs;have hnw := CW.new w1 (.slice xa n xc) 39
 have hs : (w1.alloc (.cells #[.slice xa n xc] 39)).heap.size = w1.heap.size + 1 := by simp
 refine Rg.lr 3 (exec_boxV (v := .slice xa n xc) _ _ rfl rfl rfl) ?_;go_frame;have hb := (Below.refl w1.heap.size w1).alloc (Nat.le_refl _) (.cells #[.slice xa n xc] 39);generalize w1.alloc (.cells #[.slice xa n xc] 39) = w2 at *;replace A0 := ι (A0.out.below hb);replace A1 := ι (A1.out.below hb);replace A2 := ι (A2.out.below hb);replace K := ι (Rg.acc K.out hb);clear hb;rw [hs1] at hnw ⊢
 have hs2 : w2.heap.size = w.heap.size + 2 := by omega
 have CX := ι hnw;clear hnw hs;have hnw := CW.new w2 (.slice none 0 0) 39
 have hs : (w2.alloc (.cells #[.slice none 0 0] 39)).heap.size = w2.heap.size + 1 := by simp
 refine Rg.lr 4 (exec_allocPm rfl) ?_;go_frame;have hb := (Below.refl w2.heap.size w2).alloc (Nat.le_refl _) (.cells #[.slice none 0 0] 39);generalize w2.alloc (.cells #[.slice none 0 0] 39) = w3 at *;replace A0 := ι (A0.out.below hb);replace A1 := ι (A1.out.below hb);replace A2 := ι (A2.out.below hb);replace CX := ι (CX.out.below hb);replace K := ι (Rg.acc K.out hb);clear hb;rw [hs2] at hnw ⊢
 have hs3 : w3.heap.size = w.heap.size + 3 := by omega
 have C4 := ι hnw;clear hnw hs;have hnw := CW.new w3 (.int .i64 0) 3
 have hs : (w3.alloc (.cells #[.int .i64 0] 3)).heap.size = w3.heap.size + 1 := by simp
 refine Rg.lr 5 (exec_allocI rfl) ?_;go_frame;have hb := (Below.refl w3.heap.size w3).alloc (Nat.le_refl _) (.cells #[.int .i64 0] 3);generalize w3.alloc (.cells #[.int .i64 0] 3) = w4 at *;replace A0 := ι (A0.out.below hb);replace A1 := ι (A1.out.below hb);replace A2 := ι (A2.out.below hb);replace CX := ι (CX.out.below hb);replace C4 := ι (C4.out.below hb);replace K := ι (Rg.acc K.out hb);clear hb;rw [hs3] at hnw ⊢
 have hs4 : w4.heap.size = w.heap.size + 4 := by omega
 have C5 := ι hnw;clear hnw hs;have HXB := ι (show Rg.Ints w4 (.slice xa n xc) (Ma.ofN x) from Rg.Ints.below HX.out K.out);go_upto_region 1 with (fail);refine wp_region_list ?_;refine Rg.lr 10 (Rg.exec_load (v := .slice xa n xc) _ _ rfl ⟨(w.heap.size + 1), 0, none⟩ rfl (Rg.run_loadSl _ _ Try.underlying39 CX.out.c)) ?_;go_frame;refine list_ask (some 11) rfl rfl _ _ (exec_fn1 83 _ _ rfl rfl (Vzcl3 _ _)) ?_;refine (Clone_any _ (Ma.ofN x) w4 HXB.out (by rw [Ma.len_ofN, GX.out.2]; exact hn1) (by rw [Ma.len_ofN, GX.out.2]; omega)).mono ?_;rintro e1 w5 ⟨yv0, rfl, hyr, hb⟩;have hyf : FP (SfF w) w5 yv0 x := OwI.fi ⟨hyr⟩ (by rw [Ma.len_ofN, GX.out.2]; omega) (G := SfF w) (fun k g1 g2 => .inr (by omega));obtain ⟨ya0, yo0, yc0, rfl⟩ := FP.shape' hyf GX.out hn1;clear hyr;refine ⟨_, rfl, ?_⟩;go_frame;replace A0 := ι (A0.out.below hb);replace A1 := ι (A1.out.below hb);replace A2 := ι (A2.out.below hb);replace CX := ι (CX.out.below hb)
 replace C4 := ι (C4.out.below hb);replace C5 := ι (C5.out.below hb);replace HXB := ι (HXB.out.below hb);replace K := ι (Rg.acc K.out hb);clear hb;have HY := ι hyf;refine Rg.list_skip none rfl rfl (Rg.exec_store _ _ _ rfl _ rfl _ rfl (Rg.run_storeSl _ infoPerm CX.out.c CX.out.f)) ?_;go_frame;clear hyf;have hsi := SfI.set (yv := .slice xa n xc) (y := x) (show SfI w ((n : Nat) : Int) (.slice oa OO.length oc) (.slice ra RR.length rc) w5 (.slice xa n xc) x from ⟨K.out, A0.out, A1.out, A2.out, CX.out, C4.out, C5.out, (show FP (SfF w) w5 (.slice xa n xc) x from (Rg.FI.mono (Rg.FI.kp (Rg.FI.old HX.out) (Rg.Kp.of_below (M := fun _ => False) K.out) (fun _ _ => id)) (fun k hk => .inl hk)))⟩) HY.out;have hsz : w.heap.size + 4 ≤ w5.heap.size := C5.out.lt
 have hs9 : (w5.setCell ⟨w.heap.size + 1, 0, none⟩ (.slice (some ⟨ya0, yo0, none⟩) n yc0)).heap.size = w5.heap.size := by simp
 rw [← hs9] at hsz;generalize w5.setCell ⟨w.heap.size + 1, 0, none⟩ (.slice (some ⟨ya0, yo0, none⟩) n yc0) = w20 at *;have SI := ι hsi;have HSZ := ι hsz;clear hsi hsz hs9 hs1 hs2 hs3 hs4 A0 A1 A2 CX C4 C5 HXB HY;replace K := ι SI.out.bel;go_upto_region 2 with (fail);refine wp_region_list ?_;refine Rg.lr 12 (Rg.exec_load (v := (.agg #[.int .i64 ((n : Nat) : Int), .slice oa OO.length oc, .slice ra RR.length rc])) _ _ rfl ⟨w.heap.size, 0, none⟩ rfl (run_loadC3 SI.out.a0.cell SI.out.a1.cell SI.out.a2.cell)) ?_;go_frame;refine list_ask (some 13) rfl rfl _ _ (exec_fn1 82 _ _ rfl rfl (Wvcl0 _ _)) ?_;refine (reps_any _ _ _ w20).mono ?_;rintro e1 w21 ⟨fb, rfl, hfb, hb⟩;have hsz := hb.size;refine ⟨_, rfl, ?_⟩;go_frame;replace SI := ι (SI.out.below hb);replace K := ι (Rg.acc K.out hb);clear hb;have FB := ι hfb;clear hfb;have HS0 := ι (show w.heap.size + 4 ≤ w21.heap.size by have := HSZ.out; omega);clear hsz
 obtain ⟨us, hus, hul, hur⟩ := HR.out;have HUR := ι hur
 have hrv : RV3 w.heap.size w21 ra RR.length (fun k => us[k]?.getD undef) := by
  obtain ⟨a', c', e, q1, q2, q3, q4⟩ := hus
  injection e with e1 e2 e3
  refine ⟨by have := HLR.out; omega, fun h0 => ?_, fun b off e5 j hj => ?_, K.out.size⟩
  ·obtain ⟨b, o, e4, e5, _⟩ := q4 (by omega)
   exact ⟨b, o, e1.trans e4, e5⟩
  ·obtain ⟨b', o', e4, e6, e7⟩ := q4 (by omega)
   rw [e1, e4] at e5;simp only [Option.some.injEq, Addr.mk.injEq, and_true] at e5;obtain ⟨rfl, rfl⟩ := e5;rw [(K.out.cell (p := ⟨b', o' + j, none⟩) e6)];show _ = some (us[j]?.getD undef);rw [List.getElem?_eq_getElem (by omega)];exact e7 j (by omega)
 have HRV := ι hrv;have HUL := ι hul;clear hus hrv hul hur;go_wp2
 refine range_reps2 rfl FB.out HRV.out rfl (fun pre W => ∃ yv y, SfI w ((n : Nat) : Int) (.slice oa OO.length oc) (.slice ra RR.length rc) W yv y ∧ siF (trC O R) (pre.map fun z => z.1) x = some y)
  (fun c pre W => c = .ret ∧ SfX w (trC O R) x pre W) ?hI ?hIx ⟨_, _, SI.out, rfl⟩ ?a1 ?assign ?body ?done ?stop
 case assign =>
  intro l x W K hK
  gi_wp2
  exact hK
 case hI =>
  rintro pre W W' row ⟨yv, y, h1, h2⟩ hg hr;exact ⟨yv, y, h1.keep (by have := HS0.out; omega) hg hr, h2⟩
 case hIx =>
  rintro c pre W W' row ⟨rfl, pre0, X, yv, y, h1, h2, h3⟩ hg hr;exact ⟨rfl, pre0, X, yv, y, h1, h2.keep (by have := HS0.out; omega) hg hr, h3⟩
 case body =>
  rintro l pre ⟨X, hX⟩ Wb ⟨yv, y, hsi, hsf⟩ hpl;obtain ⟨B, hB⟩ : ∃ B, w21.heap.size = B := ⟨_, rfl⟩;rw [hB] at HS0 ⊢;clear FB HRV SI K hB
  have hXn : X < n := by have := HLR.out; omega
  have gy : Gd n y := siF_gd HTG.out (fun i hi => by obtain ⟨z, _, rfl⟩ := List.mem_map.1 hi; have := z.2; have := HLR.out; omega) GX.out hsf;obtain ⟨ya, yo, yc, rfl⟩ := FP.shape' hsi.fp gy hn1;have SI := ι hsi;have K := ι hsi.bel;have KQ := ι (KK.refl (B := B) (n₀ := w.heap.size) (W := Wb) hsi.bel.size);have HSF := ι hsf;have GY := ι gy;have HXR := ι hX;have HXO := ι (show X < OO.length by have := HLO.out; omega);have HXN := ι hXn;have HWB := ι (show w.heap.size + 4 ≤ Wb.heap.size from hsi.c5.lt);clear hsi hsf;have hu := HUR.out X (by rw [HUL.out]; exact hX) hX
  have e1 : us[X]?.getD undef = us[X]'(by rw [HUL.out]; exact hX) := by rw [List.getElem?_eq_getElem (by rw [HUL.out]; exact hX)]; rfl
  rw [← e1] at hu
  dsimp only
  generalize us[X]?.getD undef = u at *;clear e1;obtain ⟨rl, hrl⟩ : ∃ rl : List (List Nat), Hid (R.getD X [] = rl) := ⟨_, ι rfl⟩;obtain ⟨ol, hol⟩ : ∃ ol : List Nat, Hid (O.getD X [] = ol) := ⟨_, ι rfl⟩
  have hrx : RR[X]'hX = rl.map Ma.ofN := by
   rw [← hrl.out]
   have hXR : X < R.length := by rw [HCH.out.lenR]; exact hXn
   have : RR[X]'hX = (R.map (List.map Ma.ofN))[X]'(by rw [List.length_map]; exact hXR) := by first | (congr 1; done) | (congr 1; exact HRR.out)
   rw [this, List.getElem_map, getD_inf hXR]
  have hox : OO[X]'HXO.out = Ma.ofN ol := by
   rw [← hol.out]
   have hXO : X < O.length := by rw [HCH.out.lenO]; exact hXn
   have : OO[X]'HXO.out = (O.map Ma.ofN)[X]'(by rw [List.length_map]; exact hXO) := by first | (congr 1; done) | (congr 1; exact HOO.out)
   rw [this, List.getElem_map, getD_inf hXO]
  rw [hrx] at hu;have HLEN := ι (show rl.length = ol.length by rw [← hrl.out, ← hol.out]; exact HCH.out.len X hXn);have HASC := ι (show ol.Pairwise (· < ·) by rw [← hol.out]; exact HCH.out.asc X hXn);have hoL := chain_len HH.out HCH.out hXn;rw [hol.out] at hoL;obtain ⟨ua, uc, rfl, -, -, -, hrc⟩ := hu.shape;have HRC := ι hrc;obtain ⟨oa', oc', e2, _, _, _, hos⟩ := HO.out.shape
  injection e2 with e3 _ e5
  subst e3 e5;obtain ⟨ob, oo, rfl, hob, hos⟩ := hos (by have := HXO.out; omega);obtain ⟨yv, hyc, hyi⟩ := hos X HXO.out;rw [hox] at hyi;obtain ⟨qa, qc, rfl, -⟩ := hyi.shape;rw [Ma.len_ofN] at hyi hyc;rw [List.length_map];have CO := ι (CL.mk hyc hob);have IO := ι hyi;obtain ⟨q, hq⟩ : ∃ q : Nat, Hid (ap y X = q) := ⟨_, ι rfl⟩;have CX := ι (show CL Wb ya (yo + X) (.int .i64 ((q : Nat) : Int)) by rw [← hq.out]; exact CL.mk (SI.out.fp.ap GY.out hXn).cell (SI.out.fp.ap GY.out hXn).lt);clear hrc hos hyc hyi hob hu hrx hox
  by_cases hm : q ∈ ol
  case neg =>
   skip
   gi_upto_region 5 with (fail)
   have hV0 : Below Wb.heap.size Wb Wb.drew := (Below.refl _ _).drew;replace SI := ι (SI.out.below hV0);replace KQ := ι (KQ.out.below hV0);replace CX := ι (CX.out.below hV0);replace K := ι (Rg.acc K.out hV0);clear hV0;refine Rg.Any.beginIn (hnd := by kernel_rfl) (S := Rg.Both 14 (fun W => Below Wb.drew.heap.size Wb.drew W) (fun W => Below w.heap.size w W)) mix ?_;generalize Wb.drew = w41 at *;have hS : ∀ (l : Array Bool) W, Below w41.heap.size w41 W → Below w.heap.size w W → Rg.Both 14 (fun W => Below w41.heap.size w41 W) (fun W => Below w.heap.size w W) l W := fun l W h h2 => ⟨.inr h, h2⟩;have hS2 : ∀ (l : Array Bool) W, l.getD 14 false = true → Below w.heap.size w W → Rg.Both 14 (fun W => Below w41.heap.size w41 W) (fun W => Below w.heap.size w W) l W := fun l W h h2 => ⟨.inl h, h2⟩;have hI := K.out;refine Rg.tg 0 14 (.pointer (some ⟨w.heap.size, 1, none⟩)) 17 rfl rfl (.inl ⟨rfl, fun w _ => exec_field _ rfl rfl (chF1 _ _)⟩) (hS _ _ (Below.refl _ _) hI) ?_;go_frame
   refine Rg.Any.takeT (i := 1) (t := 14) (v := .slice (some ⟨ob, oo, none⟩) OO.length oc) (some 18) rfl rfl (by kernel_rfl) (by kernel_rfl) (by kernel_rfl) (fun _ _ _ h => h) rfl (by kernel_rfl) rfl (Rg.yields_cell _ _ rfl rfl ⟨w.heap.size, 1, none⟩ rfl (fun W hW => Rg.run_loadSl _ _ Try.underlying29 ((Below.cell (p := ⟨w.heap.size, 1, none⟩) hW SI.out.a1.lt).trans SI.out.a1.cell))) (hS _ _ (Below.refl _ _) hI) ?_;go_frame;refine Rg.tg 2 14 (.int .i64 ((X : Nat) : Int)) 19 rfl rfl (.inl ⟨rfl, fun w _ => Rg.exec_move (v := .int .i64 ((X : Nat) : Int)) _ rfl rfl⟩) (hS _ _ (Below.refl _ _) hI) ?_;go_frame;refine Rg.tg 3 14 (.pointer (some ⟨ob, oo + X, none⟩)) 20 rfl rfl (Rg.yields_index slIntss _ _ rfl rfl ob (oo) (OO.length) oc (X) rfl rfl HXO.out) (hS _ _ (Below.refl _ _) hI) ?_;go_frame;refine Rg.tg 4 14 (.slice qa ol.length qc) 21 rfl rfl (Rg.yields_cell _ _ rfl rfl ⟨ob, oo + X, none⟩ rfl (fun W hW => Rg.run_loadSl _ _ Try.underlying22 ((Below.cell (p := ⟨ob, oo + X, none⟩) hW CO.out.lt).trans CO.out.cell))) (hS _ _ (Below.refl _ _) hI) ?_;go_frame
   refine Rg.Any.takeT (i := 5) (t := 14) (v := .slice (some ⟨ya, yo, none⟩) n yc) (some 22) rfl rfl (by kernel_rfl) (by kernel_rfl) (by kernel_rfl) (fun _ _ _ h => h) rfl (by kernel_rfl) rfl (Rg.yields_cell _ _ rfl rfl ⟨(w.heap.size + 1), 0, none⟩ rfl (fun W hW => Rg.run_loadSl _ _ Try.underlying39 ((Below.cell (p := ⟨(w.heap.size + 1), 0, none⟩) hW SI.out.cx.lt).trans SI.out.cx.c))) (hS _ _ (Below.refl _ _) hI) ?_;go_frame;refine Rg.tg 6 14 (.int .i64 ((X : Nat) : Int)) 23 rfl rfl (.inl ⟨rfl, fun w _ => Rg.exec_move (v := .int .i64 ((X : Nat) : Int)) _ rfl rfl⟩) (hS _ _ (Below.refl _ _) hI) ?_;go_frame;refine Rg.tg 7 14 (.pointer (some ⟨ya, yo + X, none⟩)) 24 rfl rfl (Rg.yields_index slPerm _ _ rfl rfl ya (yo) (n) yc (X) rfl rfl HXN.out) (hS _ _ (Below.refl _ _) hI) ?_;go_frame;refine Rg.Any.takeT (i := 8) (t := 14) (v := .int .i64 ((q : Nat) : Int)) (some 25) rfl rfl (by kernel_rfl) (by kernel_rfl) (by kernel_rfl) (fun _ _ _ h => h) rfl (by kernel_rfl) rfl (Rg.yields_cell _ _ rfl rfl ⟨ya, yo + X, none⟩ rfl (fun W hW => run_loadInt ((Below.cell (p := ⟨ya, yo + X, none⟩) hW CX.out.lt).trans CX.out.cell))) (hS _ _ (Below.refl _ _) hI) ?_;go_frame
   refine Rg.Any.one (i := 9) (by kernel_rfl) (Rg.Any.ask (some 26) rfl rfl rfl _ _ (exec_fn 133 _ _ _ rfl rfl rfl (Zdcl2 _ _)) ?_);refine (bs_out (IO.out.below hI) HASC.out (by omega) hm).mono ?_;rintro e1 w42 ⟨kk, rfl, hb⟩;have hI2_0 := Rg.acc hI hb;have hI2_1 := hb;clear hb hI;refine ⟨_, rfl, (hS _ _ hI2_1 hI2_0), ?_⟩;go_frame;refine Rg.tg 10 14 (.tuple #[.int .i64 kk, .bool false]) 16 rfl rfl (.inl ⟨rfl, fun w _ => Rg.exec_move (v := .tuple #[.int .i64 kk, .bool false]) _ rfl rfl⟩) (hS _ _ hI2_1 hI2_0) ?_;go_frame;refine Rg.tg 11 14 (.int .i64 kk) 27 rfl rfl (.inl ⟨rfl, fun w _ => exec_extract (v := .int .i64 kk) _ _ rfl rfl rfl⟩) (hS _ _ hI2_1 hI2_0) ?_;go_frame;refine Rg.tg 12 14 (.bool false) 28 rfl rfl (.inl ⟨rfl, fun w _ => exec_extract (v := .bool false) _ _ rfl rfl rfl⟩) (hS _ _ hI2_1 hI2_0) ?_;go_frame;refine Rg.tg 13 14 (.int .i64 kk) 8 rfl rfl (.inl ⟨rfl, fun w _ => Rg.exec_assign (v := .int .i64 kk) _ rfl rfl⟩) (hS _ _ hI2_1 hI2_0) ?_;go_frame
   refine Rg.Any.one (i := 14) (by kernel_rfl) (Rg.Any.run (some 9) rfl rfl rfl (Rg.xa (.bool false) _ rfl rfl) (hS2 _ _ rfl hI2_0) ?_);go_frame;refine Rg.Any.done (by kernel_rfl) ?_ _;refine Rg.onlyN_i ?_;replace SI := ι (SI.out.below hI2_1);replace KQ := ι (KQ.out.below hI2_1);replace CX := ι (CX.out.below hI2_1);replace K := ι hI2_0;clear hS2;clear hS hI2_0 hI2_1
   gi_upto_region 6 with (fail)
   refine wpIn_region_list ?_;refine Rg.in_run (some 29) rfl rfl (fun _ hh => by cases hh) (Rg.xm (.bool false) _ rfl rfl) ?_;go_frame;refine Rg.in_run (some 30) rfl rfl (fun _ hh => by cases hh) (exec_not _ _ false rfl rfl) ?_;go_frame
   gi_upto_region 7 with (fail)
   refine wpIn_region_list ?_;refine Rg.in_run (some 31) rfl rfl (fun _ hh => by cases hh) (Rg.exec_load (v := .slice (some ⟨ya, yo, none⟩) n yc) _ _ rfl ⟨(w.heap.size + 1), 0, none⟩ rfl (Rg.run_loadSl _ _ Try.underlying39 SI.out.cx.c)) ?_;go_frame;refine Rg.in_run (some 32) rfl rfl (fun _ hh => by cases hh) (Rg.xm (.int .i64 ((X : Nat) : Int)) _ rfl rfl) ?_;go_frame;refine Rg.in_skip none rfl rfl (fun _ hh => by cases hh) (Rg.exec_store _ _ _ rfl _ rfl _ rfl (Rg.run_storeSl _ infoPerm SI.out.c4.c SI.out.c4.f)) ?_;go_frame;refine Rg.in_skip none rfl rfl (fun _ hh => by cases hh) (Rg.exec_store _ _ _ rfl _ rfl _ rfl (run_storeInt _ (SI.out.c5.other _ (by omega)).c (SI.out.c5.other _ (by omega)).f)) ?_;go_frame;have hss := SI.out.stop X;have hq2 := (KQ.out.set (b := w.heap.size + 2) (o := 0) (.slice (some ⟨ya, yo, none⟩) n yc) (by omega)).set (b := w.heap.size + 3) (o := 0) (.int .i64 ((X : Nat) : Int)) (by omega)
   generalize (w42.setCell ⟨w.heap.size + 2, 0, none⟩ (.slice (some ⟨ya, yo, none⟩) n yc)).setCell ⟨w.heap.size + 3, 0, none⟩ (.int .i64 ((X : Nat) : Int)) = w99 at *;have SS := ι hss;have QX := ι hq2;have HTN := ι (show trC O R X (ap y X) = none from trC_none (by rw [hol.out, hq.out]; exact hm));have SX := ι (show SfX w (trC O R) x (pre ++ [⟨X, HXR.out⟩]) w99 from ⟨pre, ⟨X, HXR.out⟩, _, y, rfl, SS.out, HSF.out, HTN.out⟩);clear hss hq2
   gi_wp2
   exact ⟨QX.out.keeps, rfl, SX.out⟩
  case pos =>
   obtain ⟨k, hk⟩ : ∃ k : Nat, Hid (ol.idxOf q = k) := ⟨_, ι rfl⟩
   have hkl : k < ol.length := by rw [← hk.out]; exact List.idxOf_lt_length_of_mem hm
   have hkr : k < rl.length := by have := HLEN.out; omega
   have HKR := ι hkr;obtain ⟨ub, uo, rfl, hub, huc⟩ := HRC.out (by rw [List.length_map]; omega);obtain ⟨sv, hsc, hsi⟩ := huc k (by rw [List.length_map]; exact hkr);obtain ⟨s, hs⟩ : ∃ s : List Nat, Hid (rl[k]'hkr = s) := ⟨_, ι rfl⟩
   have hsn : Rg.NP w sv s := by rw [← hs.out]; rw [List.getElem_map] at hsi; exact hsi
   have HTS := ι (show trC O R X (ap y X) = some s by
    rw [hq.out];have e := trC_some (R := R) (show q ∈ O.getD X [] by rw [hol.out]; exact hm)
    rw [e, hol.out, hk.out, hrl.out, ← hs.out, List.getD_eq_getElem?_getD, List.getElem?_eq_getElem hkr]; rfl)
   have GS := ι (HTG.out X _ s hXn HTS.out);obtain ⟨sa, so, sc, rfl⟩ := (FP.of_np hsn).shape' GS.out hn1;have CS := ι (CL.mk hsc hub);have NS := ι (show Rg.Ints w _ (Ma.ofN s) from hsn);clear huc hsc hsi hsn hub
   gi_upto_region 5 with (fail)
   have hV0 : Below Wb.heap.size Wb Wb.drew := (Below.refl _ _).drew;replace SI := ι (SI.out.below hV0);replace KQ := ι (KQ.out.below hV0);replace CX := ι (CX.out.below hV0);replace K := ι (Rg.acc K.out hV0);clear hV0;refine Rg.Any.beginIn (hnd := by kernel_rfl) (S := Rg.Both 14 (fun W => Below Wb.drew.heap.size Wb.drew W) (fun W => Below w.heap.size w W)) mix ?_;generalize Wb.drew = w41 at *;have hS : ∀ (l : Array Bool) W, Below w41.heap.size w41 W → Below w.heap.size w W → Rg.Both 14 (fun W => Below w41.heap.size w41 W) (fun W => Below w.heap.size w W) l W := fun l W h h2 => ⟨.inr h, h2⟩;have hS2 : ∀ (l : Array Bool) W, l.getD 14 false = true → Below w.heap.size w W → Rg.Both 14 (fun W => Below w41.heap.size w41 W) (fun W => Below w.heap.size w W) l W := fun l W h h2 => ⟨.inl h, h2⟩;have hI := K.out;refine Rg.tg 0 14 (.pointer (some ⟨w.heap.size, 1, none⟩)) 17 rfl rfl (.inl ⟨rfl, fun w _ => exec_field _ rfl rfl (chF1 _ _)⟩) (hS _ _ (Below.refl _ _) hI) ?_;go_frame
   refine Rg.Any.takeT (i := 1) (t := 14) (v := .slice (some ⟨ob, oo, none⟩) OO.length oc) (some 18) rfl rfl (by kernel_rfl) (by kernel_rfl) (by kernel_rfl) (fun _ _ _ h => h) rfl (by kernel_rfl) rfl (Rg.yields_cell _ _ rfl rfl ⟨w.heap.size, 1, none⟩ rfl (fun W hW => Rg.run_loadSl _ _ Try.underlying29 ((Below.cell (p := ⟨w.heap.size, 1, none⟩) hW SI.out.a1.lt).trans SI.out.a1.cell))) (hS _ _ (Below.refl _ _) hI) ?_;go_frame;refine Rg.tg 2 14 (.int .i64 ((X : Nat) : Int)) 19 rfl rfl (.inl ⟨rfl, fun w _ => Rg.exec_move (v := .int .i64 ((X : Nat) : Int)) _ rfl rfl⟩) (hS _ _ (Below.refl _ _) hI) ?_;go_frame;refine Rg.tg 3 14 (.pointer (some ⟨ob, oo + X, none⟩)) 20 rfl rfl (Rg.yields_index slIntss _ _ rfl rfl ob (oo) (OO.length) oc (X) rfl rfl HXO.out) (hS _ _ (Below.refl _ _) hI) ?_;go_frame;refine Rg.tg 4 14 (.slice qa ol.length qc) 21 rfl rfl (Rg.yields_cell _ _ rfl rfl ⟨ob, oo + X, none⟩ rfl (fun W hW => Rg.run_loadSl _ _ Try.underlying22 ((Below.cell (p := ⟨ob, oo + X, none⟩) hW CO.out.lt).trans CO.out.cell))) (hS _ _ (Below.refl _ _) hI) ?_;go_frame
   refine Rg.Any.takeT (i := 5) (t := 14) (v := .slice (some ⟨ya, yo, none⟩) n yc) (some 22) rfl rfl (by kernel_rfl) (by kernel_rfl) (by kernel_rfl) (fun _ _ _ h => h) rfl (by kernel_rfl) rfl (Rg.yields_cell _ _ rfl rfl ⟨(w.heap.size + 1), 0, none⟩ rfl (fun W hW => Rg.run_loadSl _ _ Try.underlying39 ((Below.cell (p := ⟨(w.heap.size + 1), 0, none⟩) hW SI.out.cx.lt).trans SI.out.cx.c))) (hS _ _ (Below.refl _ _) hI) ?_;go_frame;refine Rg.tg 6 14 (.int .i64 ((X : Nat) : Int)) 23 rfl rfl (.inl ⟨rfl, fun w _ => Rg.exec_move (v := .int .i64 ((X : Nat) : Int)) _ rfl rfl⟩) (hS _ _ (Below.refl _ _) hI) ?_;go_frame;refine Rg.tg 7 14 (.pointer (some ⟨ya, yo + X, none⟩)) 24 rfl rfl (Rg.yields_index slPerm _ _ rfl rfl ya (yo) (n) yc (X) rfl rfl HXN.out) (hS _ _ (Below.refl _ _) hI) ?_;go_frame;refine Rg.Any.takeT (i := 8) (t := 14) (v := .int .i64 ((q : Nat) : Int)) (some 25) rfl rfl (by kernel_rfl) (by kernel_rfl) (by kernel_rfl) (fun _ _ _ h => h) rfl (by kernel_rfl) rfl (Rg.yields_cell _ _ rfl rfl ⟨ya, yo + X, none⟩ rfl (fun W hW => run_loadInt ((Below.cell (p := ⟨ya, yo + X, none⟩) hW CX.out.lt).trans CX.out.cell))) (hS _ _ (Below.refl _ _) hI) ?_;go_frame
   refine Rg.Any.one (i := 9) (by kernel_rfl) (Rg.Any.ask (some 26) rfl rfl rfl _ _ (exec_fn 133 _ _ _ rfl rfl rfl (Zdcl2 _ _)) ?_);refine (bs_in (IO.out.below hI) HASC.out (by omega) hm hk).mono ?_;rintro e1 w42 ⟨rfl, hb⟩;have hI3_0 := Rg.acc hI hb;have hI3_1 := hb;clear hb hI;refine ⟨_, rfl, (hS _ _ hI3_1 hI3_0), ?_⟩;go_frame;refine Rg.tg 10 14 (.tuple #[.int .i64 ((k : Nat) : Int), .bool true]) 16 rfl rfl (.inl ⟨rfl, fun w _ => Rg.exec_move (v := .tuple #[.int .i64 ((k : Nat) : Int), .bool true]) _ rfl rfl⟩) (hS _ _ hI3_1 hI3_0) ?_;go_frame;refine Rg.tg 11 14 (.int .i64 ((k : Nat) : Int)) 27 rfl rfl (.inl ⟨rfl, fun w _ => exec_extract (v := .int .i64 ((k : Nat) : Int)) _ _ rfl rfl rfl⟩) (hS _ _ hI3_1 hI3_0) ?_;go_frame;refine Rg.tg 12 14 (.bool true) 28 rfl rfl (.inl ⟨rfl, fun w _ => exec_extract (v := .bool true) _ _ rfl rfl rfl⟩) (hS _ _ hI3_1 hI3_0) ?_;go_frame;refine Rg.tg 13 14 (.int .i64 ((k : Nat) : Int)) 8 rfl rfl (.inl ⟨rfl, fun w _ => Rg.exec_assign (v := .int .i64 ((k : Nat) : Int)) _ rfl rfl⟩) (hS _ _ hI3_1 hI3_0) ?_;go_frame
   refine Rg.Any.one (i := 14) (by kernel_rfl) (Rg.Any.run (some 9) rfl rfl rfl (Rg.xa (.bool true) _ rfl rfl) (hS2 _ _ rfl hI3_0) ?_);go_frame;refine Rg.Any.done (by kernel_rfl) ?_ _;refine Rg.onlyN_i ?_;replace SI := ι (SI.out.below hI3_1);replace KQ := ι (KQ.out.below hI3_1);replace CX := ι (CX.out.below hI3_1);replace K := ι hI3_0;clear hS2;clear hS hI3_0 hI3_1
   gi_upto_region 6 with (fail)
   refine wpIn_region_list ?_;refine Rg.in_run (some 29) rfl rfl (fun _ hh => by cases hh) (Rg.xm (.bool true) _ rfl rfl) ?_;go_frame;refine Rg.in_run (some 30) rfl rfl (fun _ hh => by cases hh) (exec_not _ _ true rfl rfl) ?_;go_frame
   gi_upto_region 8 with (fail)
   have hV0 : Below w42.heap.size w42 w42.drew := (Below.refl _ _).drew;replace SI := ι (SI.out.below hV0);replace KQ := ι (KQ.out.below hV0);replace CX := ι (CX.out.below hV0);replace K := ι (Rg.acc K.out hV0);clear hV0;refine Rg.Any.beginIn (hnd := by kernel_rfl) (S := Rg.Both 7 (fun W => Below w42.drew.heap.size w42.drew W) (fun W => Below w.heap.size w W)) mix ?_;generalize w42.drew = w43 at *;have hS : ∀ (l : Array Bool) W, Below w43.heap.size w43 W → Below w.heap.size w W → Rg.Both 7 (fun W => Below w43.heap.size w43 W) (fun W => Below w.heap.size w W) l W := fun l W h h2 => ⟨.inr h, h2⟩;have hS2 : ∀ (l : Array Bool) W, l.getD 7 false = true → Below w.heap.size w W → Rg.Both 7 (fun W => Below w43.heap.size w43 W) (fun W => Below w.heap.size w W) l W := fun l W h h2 => ⟨.inl h, h2⟩;have hI := K.out;refine Rg.Any.takeT (i := 0) (t := 7) (v := .slice (some ⟨ya, yo, none⟩) n yc) (some 33) rfl rfl (by kernel_rfl) (by kernel_rfl) (by kernel_rfl) (fun _ _ _ h => h) rfl (by kernel_rfl) rfl (Rg.yields_cell _ _ rfl rfl ⟨(w.heap.size + 1), 0, none⟩ rfl (fun W hW => Rg.run_loadSl _ _ Try.underlying39 ((Below.cell (p := ⟨(w.heap.size + 1), 0, none⟩) hW SI.out.cx.lt).trans SI.out.cx.c))) (hS _ _ (Below.refl _ _) hI) ?_;go_frame
   refine Rg.tg 1 7 (.slice (some ⟨ub, uo, none⟩) rl.length uc) 34 rfl rfl (.inl ⟨rfl, fun w _ => Rg.exec_move (v := .slice (some ⟨ub, uo, none⟩) rl.length uc) _ rfl rfl⟩) (hS _ _ (Below.refl _ _) hI) ?_;go_frame;refine Rg.tg 2 7 (.int .i64 ((k : Nat) : Int)) 35 rfl rfl (.inl ⟨rfl, fun w _ => Rg.exec_move (v := .int .i64 ((k : Nat) : Int)) _ rfl rfl⟩) (hS _ _ (Below.refl _ _) hI) ?_;go_frame;refine Rg.tg 3 7 (.pointer (some ⟨ub, uo + k, none⟩)) 36 rfl rfl (Rg.yields_index slPerms _ _ rfl rfl ub (uo) (rl.length) uc (k) rfl rfl HKR.out) (hS _ _ (Below.refl _ _) hI) ?_;go_frame;refine Rg.tg 4 7 (.slice (some ⟨sa, so, none⟩) n sc) 37 rfl rfl (Rg.yields_cell _ _ rfl rfl ⟨ub, uo + k, none⟩ rfl (fun W hW => Rg.run_loadSl _ _ Try.underlying39 ((Below.cell (p := ⟨ub, uo + k, none⟩) hW CS.out.lt).trans CS.out.cell))) (hS _ _ (Below.refl _ _) hI) ?_;go_frame;refine Rg.Any.one (i := 5) (by kernel_rfl) (Rg.Any.ask (some 38) rfl rfl rfl _ _ (exec_fn1 121 _ _ rfl rfl (Vncl1 _ _)) ?_)
   refine (chInv_any _ s w43 (NS.out.below hI) GS.out.1 (by rw [GS.out.2]; omega) (by rw [GS.out.2]; exact hn1)).mono ?_;rintro e1 w44 ⟨iv, rfl, hiv, hb⟩;replace hiv : Rg.Ints _ iv (Ma.ofN (Ma.invN s)) := hiv.1;have hI4_0 := Rg.acc hI hb;have hI4_1 := hb;clear hb hI;refine ⟨_, rfl, (hS _ _ hI4_1 hI4_0), ?_⟩;go_frame;have IV := ι hiv;have HZ := ι (show w.heap.size + 4 ≤ w44.heap.size from (SI.out.below hI4_1).c5.lt);refine Rg.Any.one (i := 6) (by kernel_rfl) (Rg.Any.ask (some 39) rfl rfl rfl _ _ (exec_fn 123 _ _ _ rfl rfl rfl (Vmcl0 _ _)) ?_);refine (chMul_any _ _ y (Ma.invN s) w44 (SI.out.below hI4_1).fp.np IV.out (fun z hz => by rw [(Cm.gd_inv GS.out).2]; exact gd_mem GY.out hz) (by rw [GY.out.2]; omega) (by rw [GY.out.2]; exact hn1) (by rw [(Cm.gd_inv GS.out).2]; exact hn1)).mono ?_;rintro e1 w45 ⟨mv, rfl, hmv, hb⟩;have hmf := sf_new HZ.out hmv;obtain ⟨ma, mo, mc, rfl⟩ := hmf.shape' (Cm.gd_mul GY.out (Cm.gd_inv GS.out)) hn1
   clear hmv;have hI5_0 := Rg.acc hI4_1 hb;have hI5_1 := Rg.acc hI4_0 hb;have hI5_2 := hb;clear hb hI4_1 hI4_0;refine ⟨_, rfl, (hS _ _ hI5_0 hI5_1), ?_⟩;go_frame;have MV := ι hmf;have SI9 := ι (SI.out.below hI5_0);have KQ9 := ι (KQ.out.below hI5_0);have MV9 := ι MV.out;have hI6_g := hI5_1.setCell (p := ⟨w.heap.size + 1, 0, none⟩) (by show w.heap.size ≤ w.heap.size + 1; omega) (.slice (some ⟨ma, mo, none⟩) n mc);refine Rg.Any.one (i := 7) (by kernel_rfl) (Rg.Any.runSkip none rfl rfl rfl (Rg.exec_store _ _ _ rfl _ rfl _ rfl (Rg.run_storeSl _ infoPerm SI9.out.cx.c SI9.out.cx.f)) (hS2 _ _ rfl hI6_g) ?_);go_frame;clear hI5_0 hI5_1 hI5_2;clear SI;clear KQ;clear CX;clear IV;clear MV;refine Rg.Any.done (by kernel_rfl) ?_ _;refine Rg.onlyN_i ?_;replace K := ι hI6_g;clear hS2;clear hS hI6_g;have hsi2 := SI9.out.set MV9.out;have hq2 := KQ9.out.set (b := w.heap.size + 1) (o := 0) (.slice (some ⟨ma, mo, none⟩) n mc) (by omega)
   generalize w45.setCell ⟨w.heap.size + 1, 0, none⟩ (.slice (some ⟨ma, mo, none⟩) n mc) = w98 at *;have SI2 := ι hsi2;have QX := ι hq2
   have HSF2 := ι (show siF (trC O R) ((pre ++ [(⟨X, HXR.out⟩ : Fin RR.length)]).map fun z => z.1) x = some (Ma.mulN y (Ma.invN s)) by
    rw [List.map_append]
    exact siF_snoc _ _ _ _ HSF.out HTS.out)
   clear hsi2 hq2
   gi_wp2
   exact ⟨QX.out.keeps, QX.out.bel, _, _, SI2.out, HSF2.out⟩
 case stop =>
  rintro D c k W hD hk ⟨rfl, pre0, X, yv, y, h1, h2, h3, h4⟩ hd;obtain ⟨rfl, rfl⟩ := finTo_split hk h1;rw [finTo_val (by omega)] at h3;go_wp2;exact si_leave (ds := [D]) h2.bel h2.c4 h2.c5 h2.fp (siF_stop (by have := X.2; have := HLR.out; omega) h3 h4) rfl rfl (by simp) (fun D' hD' => by simp at hD'; subst hD'; exact ⟨hd, by have := HS0.out; omega⟩)
 case done =>
  rintro D Wd hD ⟨yv, y, hsi, hsf⟩ hd;rw [finTo_val (Nat.le_refl _), HLR.out] at hsf;have gy : Gd n y := siF_gd HTG.out (fun i hi => List.mem_range.1 hi) GX.out hsf;obtain ⟨ya, yo, yc, rfl⟩ := FP.shape' hsi.fp gy hn1;have HSF := ι hsf;have HD := ι (show w.heap.size ≤ D by have := HS0.out; omega);clear FB HRV SI K hsf;have SI := ι hsi;have DF := ι hd;have K := ι hsi.bel;clear hsi hd;go_upto_region 9 with (fail);have hV1 : Below Wd.heap.size Wd Wd.drew := (Below.refl _ _).drew;replace SI := ι (SI.out.below hV1);replace DF := ι (DF.out.below hV1);clear hV1;refine Rg.wp_onlyN ?_;have hV0 : Below Wd.heap.size Wd Wd.drew := (Below.refl _ _).drew;generalize Fup (fun _ : Nat => True) Wd Wd.drew = F1 at *;clear hV0;refine Rg.Any.begin (S := Rg.Both 4 (fun W : World => W.cell? ⟨w.heap.size, 0, none⟩ = some (.int .i64 ((n : Nat) : Int)) ∧ W.cell? ⟨w.heap.size + 1, 0, none⟩ = some (.slice (some ⟨ya, yo, none⟩) n yc)) (fun _ => True)) mix ?_
  generalize Wd.drew = w161 at *;have hS : ∀ (l : Array Bool) W, (fun W : World => W.cell? ⟨w.heap.size, 0, none⟩ = some (.int .i64 ((n : Nat) : Int)) ∧ W.cell? ⟨w.heap.size + 1, 0, none⟩ = some (.slice (some ⟨ya, yo, none⟩) n yc)) W → Rg.Both 4 (fun W : World => W.cell? ⟨w.heap.size, 0, none⟩ = some (.int .i64 ((n : Nat) : Int)) ∧ W.cell? ⟨w.heap.size + 1, 0, none⟩ = some (.slice (some ⟨ya, yo, none⟩) n yc)) (fun _ => True) l W := fun l W h => ⟨.inr h, trivial⟩;have hS2 : ∀ (l : Array Bool) W, l.getD 4 false = true → Rg.Both 4 (fun W : World => W.cell? ⟨w.heap.size, 0, none⟩ = some (.int .i64 ((n : Nat) : Int)) ∧ W.cell? ⟨w.heap.size + 1, 0, none⟩ = some (.slice (some ⟨ya, yo, none⟩) n yc)) (fun _ => True) l W := fun l W h => ⟨.inl h, trivial⟩;have hI : (fun W : World => W.cell? ⟨w.heap.size, 0, none⟩ = some (.int .i64 ((n : Nat) : Int)) ∧ W.cell? ⟨w.heap.size + 1, 0, none⟩ = some (.slice (some ⟨ya, yo, none⟩) n yc)) w161 := ⟨SI.out.a0.cell, SI.out.cx.c⟩
  refine Rg.Any.takeT (i := 0) (t := 4) (v := .slice (some ⟨ya, yo, none⟩) n yc) (some 40) rfl rfl (by kernel_rfl) (by kernel_rfl) (by kernel_rfl) (fun _ _ _ h => h) rfl (by kernel_rfl) rfl (Rg.yields_cell _ _ rfl rfl ⟨(w.heap.size + 1), 0, none⟩ rfl (fun W hW => Rg.run_loadSl _ _ Try.underlying39 hW.2)) (hS _ _ hI) ?_;go_frame;refine Rg.tg 1 4 (.pointer (some ⟨w.heap.size, 0, none⟩)) 41 rfl rfl (.inl ⟨rfl, fun w _ => exec_field _ rfl rfl (chF0 _ _)⟩) (hS _ _ hI) ?_;go_frame;refine Rg.Any.takeT (i := 2) (t := 4) (v := .int .i64 ((n : Nat) : Int)) (some 42) rfl rfl (by kernel_rfl) (by kernel_rfl) (by kernel_rfl) (fun _ _ _ h => h) rfl (by kernel_rfl) rfl (Rg.yields_cell _ _ rfl rfl ⟨w.heap.size, 0, none⟩ rfl (fun W hW => run_loadInt hW.1)) (hS _ _ hI) ?_;go_frame;have hI7_m := (show _ ∧ _ from ⟨(SI.out.a0.other (o := 0) (b' := w.heap.size + 2) (.slice (some ⟨ya, yo, none⟩) n yc) (by omega)).cell, (SI.out.cx.other (o := 0) (b' := w.heap.size + 2) (.slice (some ⟨ya, yo, none⟩) n yc) (by omega)).c⟩)
  refine Rg.Any.one (i := 3) (by kernel_rfl) (Rg.Any.runSkip none rfl rfl rfl (Rg.exec_store _ _ _ rfl _ rfl _ rfl (Rg.run_storeSl _ infoPerm SI.out.c4.c SI.out.c4.f)) (hS _ _ hI7_m) ?_);go_frame;refine Rg.Any.one (i := 4) (by kernel_rfl) (Rg.Any.runSkip none rfl rfl rfl (Rg.exec_store _ _ _ rfl _ rfl _ rfl (run_storeInt _ (SI.out.c5.other _ (by omega)).c (SI.out.c5.other _ (by omega)).f)) (hS2 _ _ rfl) ?_);go_frame;refine Rg.Any.done (by kernel_rfl) ?_ _;refine Rg.onlyN_i ?_;clear hS2;clear hS hI7_m;have hss := SI.out.stop n;have hdd := (RF.Dfr.setCell DF.out ⟨w.heap.size + 2, 0, none⟩ (.slice (some ⟨ya, yo, none⟩) n yc)).setCell ⟨w.heap.size + 3, 0, none⟩ (.int .i64 ((n : Nat) : Int));generalize (w161.setCell ⟨w.heap.size + 2, 0, none⟩ (.slice (some ⟨ya, yo, none⟩) n yc)).setCell ⟨w.heap.size + 3, 0, none⟩ (.int .i64 ((n : Nat) : Int)) = w199 at *;have SS := ι hss;have DX := ι hdd;clear hss hdd
  go_wp2;exact si_leave (ds := [D]) SS.out.bel SS.out.c4 SS.out.c5 SS.out.fp (siF_done HSF.out) rfl rfl (by simp) (fun D' hD' => by simp at hD'; subst hD'; exact ⟨DX.out, HD.out⟩)
end Go.Proofs.Ytcfomoknlchemaa

namespace Go.Proofs.Ytcfomoknlchemaa
open Go.Proofs
open Go.Proofs.Cm (Gr Gd IsChain IsG St Tr ap sfP Lst)
open Classical in
noncomputable def chCode (n : Int) (OO : List (List Int)) (RR : List (List (List Int))) : Int := if 1 ≤ n ∧ n ≤ 64 then (if ChOK n OO RR then 0 else 3) else 2
theorem chCode_C {n : Int} {OO : List (List Int)} {RR : List (List (List Int))} : ChC n OO RR (chCode n OO RR) := by
 unfold chCode
 by_cases h : 1 ≤ n ∧ n ≤ 64
 ·rw [if_pos h]
  by_cases h2 : ChOK n OO RR
  ·rw [if_pos h2]; exact .inr ⟨h, .inl ⟨h2, rfl⟩⟩
  ·rw [if_neg h2]; exact .inr ⟨h, .inr ⟨h2, rfl⟩⟩
 ·rw [if_neg h]; exact .inl ⟨h, rfl⟩
theorem chCode_eq {n : Int} {OO : List (List Int)} {RR : List (List (List Int))} {c : Int} (h : ChC n OO RR c) : c = chCode n OO RR := h.uniq chCode_C
theorem chCode_ok {n : Int} {OO : List (List Int)} {RR : List (List (List Int))} (h : chCode n OO RR = 0) : ChOK n OO RR := by
 have := chCode_C (n := n) (OO := OO) (RR := RR);rw [h] at this;exact this.zero
theorem chCode_zero {n : Int} {OO : List (List Int)} {RR : List (List (List Int))} (h : ChOK n OO RR) : chCode n OO RR = 0 := (chCode_eq (ChC.of h)).symm
noncomputable def bothC (n : Int) (OO : List (List Int)) (RR : List (List (List Int))) (xl : List Int) : Int :=
 if chCode n OO RR = 0 then (if Ma.pchk xl = 0 then (if (xl.length : Int) = n then 0 else 10) else Ma.pchk xl) else chCode n OO RR
theorem bothC_bad {n : Int} {OO : List (List Int)} {RR : List (List (List Int))} {xl : List Int} (h : ¬ chCode n OO RR = 0) : bothC n OO RR xl = chCode n OO RR := if_neg h
theorem bothC_perm {n : Int} {OO : List (List Int)} {RR : List (List (List Int))} {xl : List Int} (h : chCode n OO RR = 0) (h2 : ¬ Ma.pchk xl = 0) : bothC n OO RR xl = Ma.pchk xl := by unfold bothC; rw [if_pos h, if_neg h2]
theorem bothC_len {n : Int} {OO : List (List Int)} {RR : List (List (List Int))} {xl : List Int} (h : chCode n OO RR = 0) (h2 : Ma.pchk xl = 0) (h3 : ¬ (xl.length : Int) = n) : bothC n OO RR xl = 10 := by unfold bothC; rw [if_pos h, if_pos h2, if_neg h3]
theorem bothC_ok {n : Int} {OO : List (List Int)} {RR : List (List (List Int))} {xl : List Int} (h : chCode n OO RR = 0) (h2 : Ma.pchk xl = 0) (h3 : (xl.length : Int) = n) : bothC n OO RR xl = 0 := by unfold bothC; rw [if_pos h, if_pos h2, if_pos h3]
theorem bothC_zero {n : Int} {OO : List (List Int)} {RR : List (List (List Int))} {xl : List Int} (h : bothC n OO RR xl = 0) : ∃ (N : Nat) (O : List (List Nat)) (R : List (List (List Nat))) (x : List Nat), n = ((N : Nat) : Int) ∧ 1 ≤ N ∧ N ≤ 64 ∧ OO = O.map Ma.ofN ∧ RR = R.map (List.map Ma.ofN) ∧ IsChain N (Gr N (· ∈ R.flatten)) O R ∧ IsG N (Gr N (· ∈ R.flatten)) ∧ xl = Ma.ofN x ∧ Gd N x := by
 by_cases h1 : chCode n OO RR = 0
 ·by_cases h2 : Ma.pchk xl = 0
  ·by_cases h3 : (xl.length : Int) = n
   ·obtain ⟨N, O, R, rfl, a1, a2, a3, a4, a5, a6⟩ := chCode_ok h1
    obtain ⟨x, rfl, hx⟩ := Ma.okL_ofN (Ma.pchk_zero h2).2.2;rw [Ma.len_ofN] at h3;exact ⟨N, O, R, x, rfl, a1, a2, a3, a4, a5, Gr.isG a6, rfl, hx, by omega⟩
   ·rw [bothC_len h1 h2 h3] at h; cases h
  ·rw [bothC_perm h1 h2] at h; exact absurd h h2
 ·rw [bothC_bad h1] at h; exact absurd h h1
def unN (l : List Int) : List Nat := l.map Int.toNat
theorem unN_ofN (l : List Nat) : unN (Ma.ofN l) = l := by
 unfold unN Ma.ofN;rw [List.map_map];exact (List.map_congr_left fun x _ => Int.toNat_natCast x).trans (List.map_id _)
theorem unN_map (l : List (List Nat)) : (l.map Ma.ofN).map unN = l := by
 rw [List.map_map];exact (List.map_congr_left fun x _ => unN_ofN x).trans (List.map_id _)
theorem unN_map2 (l : List (List (List Nat))) : (l.map (List.map Ma.ofN)).map (List.map unN) = l := by
 rw [List.map_map];exact (List.map_congr_left fun x _ => unN_map x).trans (List.map_id _)
def siZ (n : Int) (OO : List (List Int)) (RR : List (List (List Int))) (xl : List Int) : Nat × List Nat := siC n.toNat (OO.map unN) (RR.map (List.map unN)) (unN xl)
theorem siZ_eq {N : Nat} {O : List (List Nat)} {R : List (List (List Nat))} {x : List Nat} : siZ ((N : Nat) : Int) (O.map Ma.ofN) (R.map (List.map Ma.ofN)) (Ma.ofN x) = siC N O R x := by
 unfold siZ;rw [unN_map, unN_map2, unN_ofN, Int.toNat_natCast]
noncomputable def siA (n : Int) (OO : List (List Int)) (RR : List (List (List Int))) (xl : List Int) : List Int × Int :=
 if bothC n OO RR xl = 0 then (Ma.ofN (siZ n OO RR xl).2, (((siZ n OO RR xl).1 : Nat) : Int)) else ([], 0)
theorem siA_bad {n : Int} {OO : List (List Int)} {RR : List (List (List Int))} {xl : List Int} (h : ¬ bothC n OO RR xl = 0) : siA n OO RR xl = ([], 0) := if_neg h
theorem siA_ok {N : Nat} {O : List (List Nat)} {R : List (List (List Nat))} {x : List Nat} (h : bothC ((N : Nat) : Int) (O.map Ma.ofN) (R.map (List.map Ma.ofN)) (Ma.ofN x) = 0) : siA ((N : Nat) : Int) (O.map Ma.ofN) (R.map (List.map Ma.ofN)) (Ma.ofN x) = (Ma.ofN (siC N O R x).2, (((siC N O R x).1 : Nat) : Int)) := by
 unfold siA; rw [if_pos h, siZ_eq]
noncomputable def inA (n : Int) (OO : List (List Int)) (RR : List (List (List Int))) (xl : List Int) : Bool :=
 if bothC n OO RR xl = 0 then decide ((((siZ n OO RR xl).1 : Nat) : Int) = n) else false
theorem inA_bad {n : Int} {OO : List (List Int)} {RR : List (List (List Int))} {xl : List Int} (h : ¬ bothC n OO RR xl = 0) : inA n OO RR xl = false := if_neg h
theorem inA_ok {N : Nat} {O : List (List Nat)} {R : List (List (List Nat))} {x : List Nat} (h : bothC ((N : Nat) : Int) (O.map Ma.ofN) (R.map (List.map Ma.ofN)) (Ma.ofN x) = 0) : inA ((N : Nat) : Int) (O.map Ma.ofN) (R.map (List.map Ma.ofN)) (Ma.ofN x) = decide ((((siC N O R x).1 : Nat) : Int) = ((N : Nat) : Int)) := by
 unfold inA; rw [if_pos h, siZ_eq]
noncomputable def belC (n : Int) (OO : List (List Int)) (RR : List (List (List Int))) (m : Int) (OO' : List (List Int)) (RR' : List (List (List Int))) : Int :=
 if chCode n OO RR = 0 then (if chCode m OO' RR' = 0 then (if n = m then 0 else 10) else chCode m OO' RR') else chCode n OO RR
noncomputable def belA (n : Int) (OO : List (List Int)) (RR : List (List (List Int))) (m : Int) (OO' : List (List Int)) (RR' : List (List (List Int))) : Bool :=
 if belC n OO RR m OO' RR' = 0 then RR.flatten.all (fun x => decide ((((siZ m OO' RR' x).1 : Nat) : Int) = m)) else false
theorem belC_one {n : Int} {OO : List (List Int)} {RR : List (List (List Int))} {m : Int} {OO' : List (List Int)} {RR' : List (List (List Int))} (h : ¬ chCode n OO RR = 0) : belC n OO RR m OO' RR' = chCode n OO RR := if_neg h
theorem belC_two {n : Int} {OO : List (List Int)} {RR : List (List (List Int))} {m : Int} {OO' : List (List Int)} {RR' : List (List (List Int))} (h : chCode n OO RR = 0) (h2 : ¬ chCode m OO' RR' = 0) : belC n OO RR m OO' RR' = chCode m OO' RR' := by unfold belC; rw [if_pos h, if_neg h2]
theorem belC_deg {n : Int} {OO : List (List Int)} {RR : List (List (List Int))} {m : Int} {OO' : List (List Int)} {RR' : List (List (List Int))} (h : chCode n OO RR = 0) (h2 : chCode m OO' RR' = 0) (h3 : ¬ n = m) : belC n OO RR m OO' RR' = 10 := by unfold belC; rw [if_pos h, if_pos h2, if_neg h3]
theorem belC_ok {n : Int} {OO : List (List Int)} {RR : List (List (List Int))} {m : Int} {OO' : List (List Int)} {RR' : List (List (List Int))} (h : chCode n OO RR = 0) (h2 : chCode m OO' RR' = 0) (h3 : n = m) : belC n OO RR m OO' RR' = 0 := by unfold belC; rw [if_pos h, if_pos h2, if_pos h3]
noncomputable def stC (n : Int) (OO : List (List Int)) (RR : List (List (List Int))) (k : Int) : Int := if chCode n OO RR = 0 then (if 0 ≤ k ∧ k ≤ n then 0 else 2) else chCode n OO RR
def oneI (n : Int) : List Int := Ma.ofN (Ma.oneN n.toNat)
def stO (k : Int) (OO : List (List Int)) : List (List Int) := (List.range OO.length).map fun (i : Nat) => if (i : Int) < k then [(i : Int)] else OO.getD i []
def stR' (n k : Int) (RR : List (List (List Int))) : List (List (List Int)) := (List.range RR.length).map fun (i : Nat) => if (i : Int) < k then [oneI n] else RR.getD i []
noncomputable def sgA (n : Int) (OO : List (List Int)) (RR : List (List (List Int))) : List (List Int) := if chCode n OO RR = 0 then RR.flatMap (List.drop 1) else []
end Go.Proofs.Ytcfomoknlchemaa

namespace Go.Proofs.Ytcfomoknlchemaa
open Go.RowKit
open Go.Proofs
open Go.Proofs.Ob
open Go.Proofs.Cm (Gd)
attribute [local irreducible] Go.Calls Go.wpList
theorem Zecl2 (args : Array Value) (w : World) : (callFunc 79 args).run Try.prog w = .ok (.enter 79 args) w := by kernel_rfl
theorem Zecl3 (args : Array Value) (w : World) : (callFunc 80 args).run Try.prog w = .ok (.enter 80 args) w := by kernel_rfl
theorem chCheck_c {n : Int} {ov rv : Value} {OO : List (List Int)} {RR : List (List (List Int))} {w : World} (h : ChEqR w ov rv OO RR) :
  Calls Try.prog 33 #[.agg #[.int .i64 n, ov, rv]] w fun e w' => e = .returned (.int .i64 (chCode n OO RR)) ∧ Below w.heap.size w w' := by
 refine (chCheck_any h).mono ?_;rintro e w' ⟨c, rfl, h1, h2⟩;exact ⟨by rw [chCode_eq h1], h2⟩
theorem chBoth_any {n : Int} {ov rv xv : Value} {OO : List (List Int)} {RR : List (List (List Int))} {xl : List Int} {w : World} (h : ChEqR w ov rv OO RR) (hx : Rg.Ints w xv xl) :
  Calls Try.prog 79 #[.agg #[.int .i64 n, ov, rv], xv] w fun e w' => e = .returned (.int .i64 (bothC n OO RR xl)) ∧ Below w.heap.size w w' := by
 obtain ⟨oa, oc, rfl, -⟩ := h.1.shape;obtain ⟨ra, rc, rfl⟩ := h.2.shape;obtain ⟨xa, xc, rfl, -⟩ := hx.shape;have HC := ι h;have HX := ι hx;have K := ι (Below.refl w.heap.size w);clear h hx
 go_enter Try.func79, Try.ntmps79
 go_upto_region 0 with (fail);refine wp_region_list ?_;have hbx := box3 w (.int .i64 n) (.slice oa OO.length oc) (.slice ra RR.length rc);refine Rg.lr 2 (Rg.exec_box _ _ rfl rfl) ?_;go_frame;have hb := (Below.refl w.heap.size w).alloc (Nat.le_refl _) (.cells #[.int .i64 n, .slice oa OO.length oc, .slice ra RR.length rc] 32);generalize w.alloc (.cells #[.int .i64 n, .slice oa OO.length oc, .slice ra RR.length rc] 32) = w1 at *;replace HC := ι (HC.out.below hb);replace HX := ι (HX.out.below hb);replace K := ι (Rg.acc K.out hb);clear hb;have A0 := ι hbx.1;have A1 := ι hbx.2.1;have A2 := ι hbx.2.2;clear hbx;refine Rg.lr 4 (Rg.xa (.int .i64 ((0 : Nat) : Int)) _ rfl rfl) ?_;go_frame;obtain ⟨ck, hck⟩ : ∃ c, Hid (chCode n OO RR = c) := ⟨_, ι rfl⟩;obtain ⟨pk, hpk⟩ : ∃ c, Hid (Ma.pchk xl = c) := ⟨_, ι rfl⟩;go_upto_region 1 with (fail);refine wp_region_list ?_;refine Rg.lr 7 (Rg.exec_load (v := (.agg #[.int .i64 n, .slice oa OO.length oc, .slice ra RR.length rc])) _ _ rfl ⟨w.heap.size, 0, none⟩ rfl (run_loadC3 A0.out.cell A1.out.cell A2.out.cell)) ?_;go_frame
 refine list_ask (some 8) rfl rfl _ _ (exec_fn1 33 _ _ rfl rfl (Xccl0 _ _)) ?_;refine (chCheck_c HC.out).mono ?_;rintro e1 w2 ⟨rfl, hb⟩;rw [hck.out];refine ⟨_, rfl, ?_⟩;go_frame;replace HC := ι (HC.out.below hb);replace HX := ι (HX.out.below hb);replace A0 := ι (A0.out.below hb);replace A1 := ι (A1.out.below hb);replace A2 := ι (A2.out.below hb);replace K := ι (Rg.acc K.out hb);clear hb;refine Rg.lr 5 (Rg.xa (.int .i64 ck) _ rfl rfl) ?_;go_frame
 by_cases h0 : ck = 0
 case neg =>
  skip
  go_upto_region 2 with (fail);refine wp_region_list ?_;refine Rg.lr 9 (Rg.xm (.int .i64 ck) _ rfl rfl) ?_;go_frame;refine Rg.lr 10 (exec_bin (R := .bool true) .neq _ _ _ rfl rfl rfl (b_neqB _ (decide_eq_true h0))) ?_;go_frame;go_upto_region 3 with (fail);refine wp_region_list ?_;refine Rg.lr 11 (Rg.xm (.int .i64 ck) _ rfl rfl) ?_;go_frame;refine Rg.lr 4 (Rg.xa (.int .i64 ck) _ rfl rfl) ?_;go_frame;go_wp2;go_ret;exact ⟨by rw [bothC_bad (by rw [hck.out]; exact h0), hck.out]; rfl, K.out⟩
 case pos =>
  have HZ := ι (hck.out.trans h0);go_upto_region 2 with (fail);refine wp_region_list ?_;refine Rg.lr 9 (Rg.xm (.int .i64 ck) _ rfl rfl) ?_;go_frame;refine Rg.lr 10 (exec_bin (R := .bool false) .neq _ _ _ rfl rfl rfl (b_neqB _ (decide_eq_false (fun e => e h0)))) ?_;go_frame;clear h0;go_upto_region 4 with (fail);refine wp_region_list ?_;refine Rg.lr 12 (Rg.xm (.slice xa xl.length xc) _ rfl rfl) ?_;go_frame;refine list_ask (some 13) rfl rfl _ _ (exec_fn1 84 _ _ rfl rfl (Wccl0 _ _)) ?_;refine (permCheck_any _ _ w2 HX.out).mono ?_;rintro e1 w3 ⟨rfl, hb⟩;rw [hpk.out];refine ⟨_, rfl, ?_⟩;go_frame;replace HC := ι (HC.out.below hb);replace HX := ι (HX.out.below hb);replace A0 := ι (A0.out.below hb);replace A1 := ι (A1.out.below hb);replace A2 := ι (A2.out.below hb);replace K := ι (Rg.acc K.out hb);clear hb;refine Rg.lr 6 (Rg.xa (.int .i64 pk) _ rfl rfl) ?_;go_frame
  by_cases h1 : pk = 0
  case neg =>
   skip
   go_upto_region 5 with (fail);refine wp_region_list ?_;refine Rg.lr 14 (Rg.xm (.int .i64 pk) _ rfl rfl) ?_;go_frame;refine Rg.lr 15 (exec_bin (R := .bool true) .neq _ _ _ rfl rfl rfl (b_neqB _ (decide_eq_true h1))) ?_;go_frame;go_upto_region 6 with (fail);refine wp_region_list ?_;refine Rg.lr 16 (Rg.xm (.int .i64 pk) _ rfl rfl) ?_;go_frame;refine Rg.lr 4 (Rg.xa (.int .i64 pk) _ rfl rfl) ?_;go_frame;go_wp2;go_ret;exact ⟨by rw [bothC_perm HZ.out (by rw [hpk.out]; exact h1), hpk.out]; rfl, K.out⟩
  case pos =>
   have HP := ι (hpk.out.trans h1);go_upto_region 5 with (fail);refine wp_region_list ?_;refine Rg.lr 14 (Rg.xm (.int .i64 pk) _ rfl rfl) ?_;go_frame;refine Rg.lr 15 (exec_bin (R := .bool false) .neq _ _ _ rfl rfl rfl (b_neqB _ (decide_eq_false (fun e => e h1)))) ?_;go_frame;clear h1
   by_cases h2 : (xl.length : Int) = n
   case neg =>
    skip
    go_upto_region 7 with (fail);refine wp_region_list ?_;refine Rg.lr 17 (Rg.xm (.slice xa xl.length xc) _ rfl rfl) ?_;go_frame;refine Rg.lr 18 (exec_len _ _ _ rfl Try.underlying39 _ _ _ rfl) ?_;go_frame;refine Rg.lr 19 (exec_field _ rfl rfl (chF0 _ _)) ?_;go_frame;refine Rg.lr 20 (Rg.exec_load (v := .int .i64 n) _ _ rfl ⟨w.heap.size, 0, none⟩ rfl (run_loadInt A0.out.cell)) ?_;go_frame;refine Rg.lr 21 (exec_bin (R := .bool true) .neq _ _ _ rfl rfl rfl (b_neqB _ (decide_eq_true h2))) ?_;go_frame;go_upto_region 8 with (fail);refine wp_region_list ?_;refine Rg.lr 4 (Rg.xa (.int .i64 ((10 : Nat) : Int)) _ rfl rfl) ?_;go_frame;go_wp2;go_ret;exact ⟨by rw [bothC_len HZ.out HP.out h2]; rfl, K.out⟩
   case pos =>
    skip
    go_upto_region 7 with (fail);refine wp_region_list ?_;refine Rg.lr 17 (Rg.xm (.slice xa xl.length xc) _ rfl rfl) ?_;go_frame;refine Rg.lr 18 (exec_len _ _ _ rfl Try.underlying39 _ _ _ rfl) ?_;go_frame;refine Rg.lr 19 (exec_field _ rfl rfl (chF0 _ _)) ?_;go_frame;refine Rg.lr 20 (Rg.exec_load (v := .int .i64 n) _ _ rfl ⟨w.heap.size, 0, none⟩ rfl (run_loadInt A0.out.cell)) ?_;go_frame;refine Rg.lr 21 (exec_bin (R := .bool false) .neq _ _ _ rfl rfl rfl (b_neqB _ (decide_eq_false (fun e => e h2)))) ?_;go_frame;go_upto_region 9 with (fail);refine wp_region_list ?_;refine Rg.lr 4 (Rg.xa (.int .i64 ((0 : Nat) : Int)) _ rfl rfl) ?_;go_frame;go_wp2;go_ret;exact ⟨by rw [bothC_ok HZ.out HP.out h2]; rfl, K.out⟩
theorem chSift_c {N : Nat} {O : List (List Nat)} {R : List (List (List Nat))} {x : List Nat} {ov rv xv : Value} {w : World} (hN1 : 1 ≤ N) (hN2 : N ≤ 64) (hch : Cm.IsChain N (Cm.Gr N (· ∈ R.flatten)) O R) (hH : Cm.IsG N (Cm.Gr N (· ∈ R.flatten))) (gx : Gd N x) (h : ChEqR w ov rv (O.map Ma.ofN) (R.map (List.map Ma.ofN))) (hx : Rg.Ints w xv (Ma.ofN x)) :
  Calls Try.prog 80 #[.agg #[.int .i64 ((N : Nat) : Int), ov, rv], xv] w (SiPost N O R x w) := csift_any hN1 hN2 hH hch rfl rfl h hx gx
theorem chSift_any {n : Int} {ov rv xv : Value} {OO : List (List Int)} {RR : List (List (List Int))} {xl : List Int} {w : World} (h : ChEqR w ov rv OO RR) (hx : Rg.Ints w xv xl) :
  Calls Try.prog 21 #[.agg #[.int .i64 n, ov, rv], xv] w fun e w' => ∃ v, e = .returned (.tuple #[v, .int .i64 (siA n OO RR xl).2, .int .i64 (bothC n OO RR xl)]) ∧ Rg.Ints w' v (siA n OO RR xl).1 ∧ Below w.heap.size w w' := by
 obtain ⟨oa, oc, rfl, -⟩ := h.1.shape;obtain ⟨ra, rc, rfl⟩ := h.2.shape;obtain ⟨xa, xc, rfl, -⟩ := hx.shape;have HC := ι h;have HX := ι hx;have K := ι (Below.refl w.heap.size w);clear h hx
 go_enter Try.func21, Try.ntmps21
 go_upto_region 0 with (fail);refine wp_region_list ?_;have hbx := box3 w (.int .i64 n) (.slice oa OO.length oc) (.slice ra RR.length rc);refine Rg.lr 2 (Rg.exec_box _ _ rfl rfl) ?_;go_frame;have hb := (Below.refl w.heap.size w).alloc (Nat.le_refl _) (.cells #[.int .i64 n, .slice oa OO.length oc, .slice ra RR.length rc] 32);generalize w.alloc (.cells #[.int .i64 n, .slice oa OO.length oc, .slice ra RR.length rc] 32) = w1 at *;replace HC := ι (HC.out.below hb);replace HX := ι (HX.out.below hb);replace K := ι (Rg.acc K.out hb);clear hb;have A0 := ι hbx.1;have A1 := ι hbx.2.1;have A2 := ι hbx.2.2;clear hbx;refine Rg.lr 4 (Rg.xa (.slice none 0 0) _ rfl rfl) ?_;go_frame;refine Rg.lr 5 (Rg.xa (.int .i64 ((0 : Nat) : Int)) _ rfl rfl) ?_;go_frame;refine Rg.lr 6 (Rg.xa (.int .i64 ((0 : Nat) : Int)) _ rfl rfl) ?_;go_frame;obtain ⟨bk, hbk⟩ : ∃ c, Hid (bothC n OO RR xl = c) := ⟨_, ι rfl⟩;go_upto_region 1 with (fail)
 refine wp_region_list ?_;refine Rg.lr 8 (Rg.exec_load (v := (.agg #[.int .i64 n, .slice oa OO.length oc, .slice ra RR.length rc])) _ _ rfl ⟨w.heap.size, 0, none⟩ rfl (run_loadC3 A0.out.cell A1.out.cell A2.out.cell)) ?_;go_frame;refine Rg.lr 9 (Rg.xm (.slice xa xl.length xc) _ rfl rfl) ?_;go_frame;refine list_ask (some 10) rfl rfl _ _ (exec_fn 79 _ _ _ rfl rfl rfl (Zecl2 _ _)) ?_;refine (chBoth_any HC.out HX.out).mono ?_;rintro e1 w2 ⟨rfl, hb⟩;rw [hbk.out];refine ⟨_, rfl, ?_⟩;go_frame;replace HC := ι (HC.out.below hb);replace HX := ι (HX.out.below hb);replace A0 := ι (A0.out.below hb);replace A1 := ι (A1.out.below hb);replace A2 := ι (A2.out.below hb);replace K := ι (Rg.acc K.out hb);clear hb;refine Rg.lr 7 (Rg.xa (.int .i64 bk) _ rfl rfl) ?_;go_frame
 by_cases h0 : bk = 0
 case neg =>
  skip
  go_upto_region 2 with (fail);refine wp_region_list ?_;refine Rg.lr 11 (Rg.xm (.int .i64 bk) _ rfl rfl) ?_;go_frame;refine Rg.lr 12 (exec_bin (R := .bool true) .neq _ _ _ rfl rfl rfl (b_neqB _ (decide_eq_true h0))) ?_;go_frame;go_upto_region 3 with (fail);refine wp_region_list ?_;refine Rg.lr 13 (Rg.xm (.int .i64 bk) _ rfl rfl) ?_;go_frame;refine Rg.lr 4 (Rg.xa (.slice none 0 0) _ rfl rfl) ?_;go_frame;refine Rg.lr 5 (Rg.xa (.int .i64 ((0 : Nat) : Int)) _ rfl rfl) ?_;go_frame;refine Rg.lr 6 (Rg.xa (.int .i64 bk) _ rfl rfl) ?_;go_frame;go_wp2
  go_ret3
  exact ⟨.slice none 0 0, by rw [siA_bad (by rw [hbk.out]; exact h0), hbk.out]; rfl, by rw [siA_bad (by rw [hbk.out]; exact h0)]; exact Rg.Ints.nil _ none 0 (Nat.zero_le _), K.out⟩
 case pos =>
  have HZ := ι (hbk.out.trans h0);go_upto_region 2 with (fail);refine wp_region_list ?_;refine Rg.lr 11 (Rg.xm (.int .i64 bk) _ rfl rfl) ?_;go_frame;refine Rg.lr 12 (exec_bin (R := .bool false) .neq _ _ _ rfl rfl rfl (b_neqB _ (decide_eq_false (fun e => e h0)))) ?_;go_frame;obtain ⟨N, O, R, x, rfl, hN1, hN2, rfl, rfl, hch, hH, rfl, gx⟩ := bothC_zero HZ.out;have HCH := ι hch;have HH := ι hH;have GX := ι gx;clear hch hH gx h0;go_upto_region 4 with (fail);refine wp_region_list ?_;refine Rg.lr 15 (Rg.exec_load (v := (.agg #[.int .i64 ((N : Nat) : Int), .slice oa (O.map Ma.ofN).length oc, .slice ra (R.map (List.map Ma.ofN)).length rc])) _ _ rfl ⟨w.heap.size, 0, none⟩ rfl (run_loadC3 A0.out.cell A1.out.cell A2.out.cell)) ?_;go_frame;refine Rg.lr 16 (Rg.xm (.slice xa (Ma.ofN x).length xc) _ rfl rfl) ?_;go_frame;refine list_ask (some 17) rfl rfl _ _ (exec_fn 80 _ _ _ rfl rfl rfl (Zecl3 _ _)) ?_;refine (chSift_c hN1 hN2 HCH.out HH.out GX.out HC.out HX.out).mono ?_
  rintro e1 w3 ⟨v1, rfl, hsv, hb⟩;refine ⟨_, rfl, ?_⟩;go_frame;replace HC := ι (HC.out.below hb);replace HX := ι (HX.out.below hb);replace A0 := ι (A0.out.below hb);replace A1 := ι (A1.out.below hb);replace A2 := ι (A2.out.below hb);replace K := ι (Rg.acc K.out hb);clear hb;have HV := ι hsv;refine Rg.lr 14 (Rg.xm (.tuple #[v1, .int .i64 (((siC N O R x).1 : Nat) : Int)]) _ rfl rfl) ?_;go_frame;refine Rg.lr 18 (exec_extract (v := v1) _ _ rfl rfl rfl) ?_;go_frame;refine Rg.lr 19 (exec_extract (v := .int .i64 (((siC N O R x).1 : Nat) : Int)) _ _ rfl rfl rfl) ?_;go_frame;refine Rg.lr 4 (Rg.xa (v1) _ rfl rfl) ?_;go_frame;refine Rg.lr 5 (Rg.xa (.int .i64 (((siC N O R x).1 : Nat) : Int)) _ rfl rfl) ?_;go_frame;go_upto_region 5 with (fail);refine wp_region_list ?_;refine Rg.lr 20 (Rg.xm (v1) _ rfl rfl) ?_;go_frame;refine Rg.lr 21 (Rg.xm (.int .i64 (((siC N O R x).1 : Nat) : Int)) _ rfl rfl) ?_;go_frame
  refine Rg.lr 4 (Rg.xa (v1) _ rfl rfl) ?_;go_frame;refine Rg.lr 5 (Rg.xa (.int .i64 (((siC N O R x).1 : Nat) : Int)) _ rfl rfl) ?_;go_frame;refine Rg.lr 6 (Rg.xa (.int .i64 ((0 : Nat) : Int)) _ rfl rfl) ?_;go_frame;go_wp2
  go_ret3
  exact ⟨v1, by rw [siA_ok HZ.out, HZ.out]; rfl, by rw [siA_ok HZ.out]; exact HV.out, K.out⟩
theorem chIn_any {n : Int} {ov rv xv : Value} {OO : List (List Int)} {RR : List (List (List Int))} {xl : List Int} {w : World} (h : ChEqR w ov rv OO RR) (hx : Rg.Ints w xv xl) :
  Calls Try.prog 20 #[.agg #[.int .i64 n, ov, rv], xv] w fun e w' => e = .returned (.tuple #[.bool (inA n OO RR xl), .int .i64 (bothC n OO RR xl)]) ∧ Below w.heap.size w w' := by
 obtain ⟨oa, oc, rfl, -⟩ := h.1.shape;obtain ⟨ra, rc, rfl⟩ := h.2.shape;obtain ⟨xa, xc, rfl, -⟩ := hx.shape;have HC := ι h;have HX := ι hx;have K := ι (Below.refl w.heap.size w);clear h hx
 go_enter Try.func20, Try.ntmps20
 go_upto_region 0 with (fail);refine wp_region_list ?_;have hbx := box3 w (.int .i64 n) (.slice oa OO.length oc) (.slice ra RR.length rc);refine Rg.lr 2 (Rg.exec_box _ _ rfl rfl) ?_;go_frame;have hb := (Below.refl w.heap.size w).alloc (Nat.le_refl _) (.cells #[.int .i64 n, .slice oa OO.length oc, .slice ra RR.length rc] 32);generalize w.alloc (.cells #[.int .i64 n, .slice oa OO.length oc, .slice ra RR.length rc] 32) = w1 at *;replace HC := ι (HC.out.below hb);replace HX := ι (HX.out.below hb);replace K := ι (Rg.acc K.out hb);clear hb;have A0 := ι hbx.1;have A1 := ι hbx.2.1;have A2 := ι hbx.2.2;clear hbx;refine Rg.lr 4 (Rg.xa (.bool false) _ rfl rfl) ?_;go_frame;refine Rg.lr 5 (Rg.xa (.int .i64 ((0 : Nat) : Int)) _ rfl rfl) ?_;go_frame;obtain ⟨bk, hbk⟩ : ∃ c, Hid (bothC n OO RR xl = c) := ⟨_, ι rfl⟩;go_upto_region 1 with (fail);refine wp_region_list ?_;refine Rg.lr 9 (Rg.exec_load (v := (.agg #[.int .i64 n, .slice oa OO.length oc, .slice ra RR.length rc])) _ _ rfl ⟨w.heap.size, 0, none⟩ rfl (run_loadC3 A0.out.cell A1.out.cell A2.out.cell)) ?_;go_frame
 refine Rg.lr 10 (Rg.xm (.slice xa xl.length xc) _ rfl rfl) ?_;go_frame;refine list_ask (some 11) rfl rfl _ _ (exec_fn 79 _ _ _ rfl rfl rfl (Zecl2 _ _)) ?_;refine (chBoth_any HC.out HX.out).mono ?_;rintro e1 w2 ⟨rfl, hb⟩;rw [hbk.out];refine ⟨_, rfl, ?_⟩;go_frame;replace HC := ι (HC.out.below hb);replace HX := ι (HX.out.below hb);replace A0 := ι (A0.out.below hb);replace A1 := ι (A1.out.below hb);replace A2 := ι (A2.out.below hb);replace K := ι (Rg.acc K.out hb);clear hb;refine Rg.lr 6 (Rg.xa (.int .i64 bk) _ rfl rfl) ?_;go_frame
 by_cases h0 : bk = 0
 case neg =>
  skip
  go_upto_region 2 with (fail);refine wp_region_list ?_;refine Rg.lr 12 (Rg.xm (.int .i64 bk) _ rfl rfl) ?_;go_frame;refine Rg.lr 13 (exec_bin (R := .bool true) .neq _ _ _ rfl rfl rfl (b_neqB _ (decide_eq_true h0))) ?_;go_frame;go_upto_region 3 with (fail);refine wp_region_list ?_;refine Rg.lr 14 (Rg.xm (.int .i64 bk) _ rfl rfl) ?_;go_frame;refine Rg.lr 4 (Rg.xa (.bool false) _ rfl rfl) ?_;go_frame;refine Rg.lr 5 (Rg.xa (.int .i64 bk) _ rfl rfl) ?_;go_frame;go_wp2
  go_ret2
  exact ⟨by rw [inA_bad (by rw [hbk.out]; exact h0), hbk.out]; rfl, K.out⟩
 case pos =>
  have HZ := ι (hbk.out.trans h0);go_upto_region 2 with (fail);refine wp_region_list ?_;refine Rg.lr 12 (Rg.xm (.int .i64 bk) _ rfl rfl) ?_;go_frame;refine Rg.lr 13 (exec_bin (R := .bool false) .neq _ _ _ rfl rfl rfl (b_neqB _ (decide_eq_false (fun e => e h0)))) ?_;go_frame;obtain ⟨N, O, R, x, rfl, hN1, hN2, rfl, rfl, hch, hH, rfl, gx⟩ := bothC_zero HZ.out;have HCH := ι hch;have HH := ι hH;have GX := ι gx;clear hch hH gx h0;obtain ⟨bb, hbb⟩ : ∃ b, Hid (decide ((((siC N O R x).1 : Nat) : Int) = ((N : Nat) : Int)) = b) := ⟨_, ι rfl⟩;go_upto_region 4 with (fail);refine wp_region_list ?_;refine Rg.lr 16 (Rg.exec_load (v := (.agg #[.int .i64 ((N : Nat) : Int), .slice oa (O.map Ma.ofN).length oc, .slice ra (R.map (List.map Ma.ofN)).length rc])) _ _ rfl ⟨w.heap.size, 0, none⟩ rfl (run_loadC3 A0.out.cell A1.out.cell A2.out.cell)) ?_;go_frame;refine Rg.lr 17 (Rg.xm (.slice xa (Ma.ofN x).length xc) _ rfl rfl) ?_;go_frame
  refine list_ask (some 18) rfl rfl _ _ (exec_fn 80 _ _ _ rfl rfl rfl (Zecl3 _ _)) ?_;refine (chSift_c hN1 hN2 HCH.out HH.out GX.out HC.out HX.out).mono ?_;rintro e1 w3 ⟨v1, rfl, hsv, hb⟩;refine ⟨_, rfl, ?_⟩;go_frame;replace HC := ι (HC.out.below hb);replace HX := ι (HX.out.below hb);replace A0 := ι (A0.out.below hb);replace A1 := ι (A1.out.below hb);replace A2 := ι (A2.out.below hb);replace K := ι (Rg.acc K.out hb);clear hb;refine Rg.lr 15 (Rg.xm (.tuple #[v1, .int .i64 (((siC N O R x).1 : Nat) : Int)]) _ rfl rfl) ?_;go_frame;refine Rg.lr 19 (exec_extract (v := v1) _ _ rfl rfl rfl) ?_;go_frame;refine Rg.lr 20 (exec_extract (v := .int .i64 (((siC N O R x).1 : Nat) : Int)) _ _ rfl rfl rfl) ?_;go_frame;refine Rg.lr 7 (Rg.xa (v1) _ rfl rfl) ?_;go_frame;refine Rg.lr 8 (Rg.xa (.int .i64 (((siC N O R x).1 : Nat) : Int)) _ rfl rfl) ?_;go_frame;go_upto_region 5 with (fail);refine wp_region_list ?_
  refine Rg.lr 21 (Rg.xm (.int .i64 (((siC N O R x).1 : Nat) : Int)) _ rfl rfl) ?_;go_frame;refine Rg.lr 22 (exec_field _ rfl rfl (chF0 _ _)) ?_;go_frame;refine Rg.lr 23 (Rg.exec_load (v := .int .i64 ((N : Nat) : Int)) _ _ rfl ⟨w.heap.size, 0, none⟩ rfl (run_loadInt A0.out.cell)) ?_;go_frame;refine Rg.lr 24 (exec_bin (R := .bool bb) .eql _ _ _ rfl rfl rfl (b_eql _ hbb.out)) ?_;go_frame;refine Rg.lr 4 (Rg.xa (.bool bb) _ rfl rfl) ?_;go_frame;refine Rg.lr 5 (Rg.xa (.int .i64 ((0 : Nat) : Int)) _ rfl rfl) ?_;go_frame;go_wp2
  go_ret2
  exact ⟨by rw [inA_ok HZ.out, HZ.out, hbb.out]; rfl, K.out⟩
end Go.Proofs.Ytcfomoknlchemaa
