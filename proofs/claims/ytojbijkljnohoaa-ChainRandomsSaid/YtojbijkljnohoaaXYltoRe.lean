/- Lemmas and contracts on the way to the statement; no condition of their own beyond those written. -/
import Derived.Test.YtojbijkljnohoaaXYhtoYn
import Derived.Laws.OwnMore
import Derived.ChangeKeysEq
import Derived.Laws.Cells
import Derived.Laws.Rows
import Derived.Laws.Tables
import Derived.Deep.WholeRow
import Derived.Deep.OwnRows
import Derived.Deep.CutRange
import Derived.Deep.CutBlock
import Derived.IntWalk
import Derived.Great.BuildSlice
import Derived.ArgAppend
import Derived.Laws.CopyOwn
import Derived.StillTailTactics
import Derived.Deep.MidRow
import Derived.WalkSpells
import Derived.WalkLawsBesides
import Derived.Maps.AppendAt
import Derived.OwnWalk
import Derived.OrdersHeld
import Derived.WalkKit
import Derived.Lib.Hide
import Derived.Test.YtojbijkljnohoaaProg
import Derived.Outline
import Derived.Deep.DeepFit
import Derived.BigQuiet
import Derived.Deep.QuietTactic
import Derived.Sort.OwnSortedInts
import Derived.WideMake
import Derived.MapKept
import Derived.ChangeMaps5
import Derived.Shelf.Sort.Plain
import Derived.RangeFuncBox
import Derived.RangeFuncLeaves
import Derived.Shelf.Abstract
import Derived.OwnWalkIn
import Derived.TacticsInMore
import Derived.LoopNIn
import Derived.LoopIn
import Derived.RangeFuncWrites
import Derived.RangeFuncNested
import Derived.Sort.CutIn
import Derived.OrdersIn
import Derived.TacticsIn
import Derived.Lib.ConvBytes
import Derived.Lib.SmallJoins
import Derived.Deep.Matrix
set_option linter.unusedVariables false
set_option linter.unusedSimpArgs false
/-! The program: Random. -/
namespace Go.Proofs.Ytojbijkljnohoaa
open Go.RowKit
open Go.Proofs
open Go.Proofs.Ob
open Go.Proofs.Cm (Tr TabOk)
attribute [local irreducible] Go.Calls Go.wpList

theorem Ylcl0 (args : Array Value) (w : World) : (callFunc 26 args).run Try.prog w = .ok (.enter 26 args) w := by kernel_rfl
theorem Ylcl1 (args : Array Value) (w : World) : (callFunc 79 args).run Try.prog w = .ok (.enter 79 args) w := by kernel_rfl
theorem Ylcl2 (args : Array Value) (w : World) : (callFunc 80 args).run Try.prog w = .ok (.enter 80 args) w := by kernel_rfl
theorem Ylcl3 (args : Array Value) (w : World) : (callFunc 82 args).run Try.prog w = .ok (.enter 82 args) w := by kernel_rfl
theorem Ylcl4 (args : Array Value) (w : World) : (callFunc 83 args).run Try.prog w = .ok (.enter 83 args) w := by kernel_rfl
theorem Ylcl5 (args : Array Value) (w : World) : (callFunc 85 args).run Try.prog w = .ok (.enter 85 args) w := by kernel_rfl
theorem Ylcl6 (args : Array Value) (w : World) : (callFunc 73 args).run Try.prog w = .ok (.enter 73 args) w := by kernel_rfl
theorem Ylcl7 (args : Array Value) (w : World) : (callFunc 74 args).run Try.prog w = .ok (.enter 74 args) w := by kernel_rfl
theorem Ylcl8 (args : Array Value) (w : World) : (callFunc 84 args).run Try.prog w = .ok (.enter 84 args) w := by kernel_rfl
theorem infoPtb : (Try.prog.info? 108).map (fun i => (i.zero, i.size, i.bytes)) = some (some (.pointer none), 1, 8) := by kernel_rfl
theorem exec_buildTbC {o : Oper} {a : Act} {w : World} {v : Int} {cT : Array Value} (hc : Hid (zT.toArray.setIfInBounds 0 (.int .i64 v) = cT)) (x : Operand) (ho : o.op = .build 112 #[(0, x)]) (hx : a.eval x = .int .i64 v) :
    (execOp a.eval o).run Try.prog w = .ok (.value (.agg cT)) w := by
  rw [← hc.out]
  exact exec_buildTb x ho hx
theorem exec_allocPt {o : Oper} {a : Act} {w : World} (ho : o.op = .alloc 108) : (execOp a.eval o).run Try.prog w = .ok (.value (.pointer (some ⟨w.heap.size, 0, none⟩))) (w.alloc (.cells #[.pointer none] 108)) := by
  obtain ⟨i0, hi, hz0, hz1, hz2⟩ := info_parts infoPtb
  unfold execOp
  simp [ho, Instr.alloc, typeInfo, zeroValue, hi, hz0, newVar, newRow, Value.cells, Result.andThen]
theorem run_storePt {w : World} {b o : Nat} {u : Value} (v : Option Addr) (h : w.cell? ⟨b, o, none⟩ = some u) (hf : w.frozen? ⟨b, o, none⟩ = false) :
    (storeVar 108 ⟨b, o, none⟩ (.pointer v)).run Try.prog w = .ok () (w.setCell ⟨b, o, none⟩ (.pointer v)) := by
  obtain ⟨i0, hi, hz0, hz1, hz2⟩ := info_parts infoPtb
  have h0 : (⟨b, o, none⟩ : Addr).add 0 = ⟨b, o, none⟩ := by simp [Addr.add]
  simp [storeVar, sizeOf, typeInfo, hi, hz1, Value.cells, storeCells, store, h0]
  simp [Sem.run, h, hf]
theorem mod_i {x : Int} {m mb i : Nat} {w : World} (h0 : 0 < m) (h1 : m ≤ 1000000) (hc : CW w mb (.int .i64 ((m : Nat) : Int))) (hi : Hid (pickV x ((m : Nat) : Int) = ((i : Nat) : Int))) : Calls Try.prog 83 #[.int .i64 x, .pointer (some ⟨mb, 0, none⟩)] w fun e w' => e = .returned (.int .i64 ((i : Nat) : Int)) ∧ Below w.heap.size w w' := by
  rw [← hi.out]
  exact chMod_any x h0 h1 hc
set_option maxRecDepth 100000 in
set_option maxHeartbeats 4000000 in
theorem pRandom_any (gv nv : Value) (d : Int) (ll : List (List Int)) (nums : List Int) (w : World) (h : Rg.Rows w gv ll) (hnu : Rg.Ints w nv nums) :
    Calls Try.prog 36 #[.agg #[.int .i64 d, gv], nv] w (RndPost d ll nums w) := by
  obtain ⟨na, nc, rfl, _⟩ := hnu.shape
  obtain ⟨ga, gc, rfl, hga, hba⟩ := GI.enter (d) h
  have K := Lib.hid hba
  have G0 := Lib.hid hga
  clear h hga hba
  have NU := Lib.hid (Rg.Ints.below hnu K.out)
  clear hnu
  go_enter Try.func36, Try.ntmps36
  go_upto_region 0 with (fail)
  refine wp_region_list ?_
  refine Rg.list_run (some 2) rfl rfl (Rg.exec_box _ _ rfl rfl) ?_
  go_frame
  generalize w.alloc (.cells #[.int .i64 d, .slice ga ll.length gc] 24) = w0 at *
  have HW0 := Lib.hid K.out.size
  have hnew := Tri.new w0 (.int .i64 0) (.slice none 0 0) (.slice none 0 0)
  refine Rg.list_run (some 4) rfl rfl (exec_allocC rfl) ?_
  go_frame
  have hb := (Below.refl w0.heap.size w0).alloc (Nat.le_refl _) (.cells #[.int .i64 0, .slice none 0 0, .slice none 0 0] 51)
  generalize w0.alloc (.cells #[.int .i64 0, .slice none 0 0, .slice none 0 0] 51) = w1 at *
  replace G0 := Lib.hid (G0.out.below hb)
  replace NU := Lib.hid (NU.out.below hb)
  replace K := Lib.hid (Rg.acc K.out hb)
  clear hb
  have FT := Lib.hid hnew
  clear hnew
  go_upto_region 1 with (fail)
  refine wp_region_list ?_
  refine Rg.list_run (some 17) rfl rfl (Rg.exec_load (v := .agg #[.int .i64 d, .slice ga ll.length gc]) _ _ rfl ⟨w.heap.size, 0, none⟩ rfl (run_loadG G0.out.c0 G0.out.c1)) ?_
  go_frame
  refine list_ask (some 18) rfl rfl _ _ (exec_fn1 26 _ _ rfl rfl (Ylcl0 _ _)) ?_
  refine (orbitCheck_any _ _ _ w1 G0.out.rows).mono ?_
  rintro e1 w2 ⟨rfl, hb⟩
  refine ⟨_, rfl, ?_⟩
  go_frame
  replace G0 := Lib.hid (G0.out.below hb)
  replace NU := Lib.hid (NU.out.below hb)
  replace FT := Lib.hid (FT.out.below hb)
  replace K := Lib.hid (Rg.acc K.out hb)
  clear hb
  refine Rg.list_run (some 6) rfl rfl (Rg.exec_assign (v := .int .i64 (Ma.gchk d ll)) _ rfl rfl) ?_
  go_frame
  by_cases hz : Ma.gchk d ll = 0
  case neg =>
    skip
    go_upto_region 2 with (fail)
    refine wp_region_list ?_
    refine Rg.list_run (some 19) rfl rfl (Rg.exec_move (v := .int .i64 (Ma.gchk d ll)) _ rfl rfl) ?_
    go_frame
    refine Rg.list_run (some 20) rfl rfl (exec_bin (R := .bool true) .neq _ _ _ rfl rfl rfl (b_neqB _ (decide_eq_true (by omega)))) ?_
    go_frame
    go_upto_region 3 with (fail)
    refine wp_region_list ?_
    refine Rg.list_run (some 21) rfl rfl (exec_buildC0 rfl) ?_
    go_frame
    refine Rg.list_run (some 22) rfl rfl (Rg.exec_move (v := .int .i64 (Ma.gchk d ll)) _ rfl rfl) ?_
    go_frame
    refine Rg.list_skip none rfl rfl (Rg.exec_store _ _ _ rfl _ rfl _ rfl (run_storeC _ _ _ _ _ _ _ FT.out)) ?_
    go_frame
    refine Rg.list_run (some 5) rfl rfl (Rg.exec_assign (v := .int .i64 (Ma.gchk d ll)) _ rfl rfl) ?_
    go_frame
    have htt := FT.out.set (.int .i64 0) (.slice none 0 0) (.slice none 0 0)
    have hkf := ((K.out.setCell (p := ⟨w0.heap.size, 0, none⟩) HW0.out (.int .i64 0)).setCell (p := ⟨w0.heap.size, 1, none⟩) HW0.out (.slice none 0 0)).setCell (p := ⟨w0.heap.size, 2, none⟩) HW0.out (.slice none 0 0)
    generalize ((w2.setCell ⟨w0.heap.size, 0, none⟩ (.int .i64 0)).setCell ⟨w0.heap.size, 1, none⟩ (.slice none 0 0)).setCell ⟨w0.heap.size, 2, none⟩ (.slice none 0 0) = w99 at *
    have HTT := Lib.hid htt
    have HFI := Lib.hid (show RndPost d ll nums w (.returned (.tuple #[zeroC, .int .i64 (Ma.gchk d ll)])) w99 from
      ⟨_, by rw [rndc_bad hz], .inl ⟨by rw [rndc_bad hz]; exact hz, rfl⟩, hkf⟩)
    clear htt hkf
    go_wp2
    exact bodyPost_ret (results_cellC2 (p := 4) (u := 5) rfl _ rfl rfl HTT.out) rfl HFI.out
  go_upto_region 2 with (fail)
  refine wp_region_list ?_
  refine Rg.list_run (some 19) rfl rfl (Rg.exec_move (v := .int .i64 (Ma.gchk d ll)) _ rfl rfl) ?_
  go_frame
  refine Rg.list_run (some 20) rfl rfl (exec_bin (R := .bool false) .neq _ _ _ rfl rfl rfl (b_neqB _ (decide_eq_false (by omega)))) ?_
  go_frame
  by_cases hlong : 1000 < nums.length
  case pos =>
    skip
    go_upto_region 4 with (fail)
    refine wp_region_list ?_
    refine Rg.list_run (some 23) rfl rfl (Rg.exec_move (v := .slice na nums.length nc) _ rfl rfl) ?_
    go_frame
    refine Rg.list_run (some 24) rfl rfl (exec_len _ _ _ rfl Try.underlying33 _ _ _ rfl) ?_
    go_frame
    refine Rg.list_run (some 25) rfl rfl (exec_bin (R := .bool true) .gtr _ _ _ rfl rfl rfl (b_gtr _ (decide_eq_true (by omega)))) ?_
    go_frame
    go_upto_region 5 with (fail)
    refine wp_region_list ?_
    refine Rg.list_run (some 26) rfl rfl (exec_buildC0 rfl) ?_
    go_frame
    refine Rg.list_skip none rfl rfl (Rg.exec_store _ _ _ rfl _ rfl _ rfl (run_storeC _ _ _ _ _ _ _ FT.out)) ?_
    go_frame
    refine Rg.list_run (some 5) rfl rfl (Rg.exec_assign (v := .int .i64 ((4 : Nat) : Int)) _ rfl rfl) ?_
    go_frame
    have htt := FT.out.set (.int .i64 0) (.slice none 0 0) (.slice none 0 0)
    have hkf := ((K.out.setCell (p := ⟨w0.heap.size, 0, none⟩) HW0.out (.int .i64 0)).setCell (p := ⟨w0.heap.size, 1, none⟩) HW0.out (.slice none 0 0)).setCell (p := ⟨w0.heap.size, 2, none⟩) HW0.out (.slice none 0 0)
    generalize ((w2.setCell ⟨w0.heap.size, 0, none⟩ (.int .i64 0)).setCell ⟨w0.heap.size, 1, none⟩ (.slice none 0 0)).setCell ⟨w0.heap.size, 2, none⟩ (.slice none 0 0) = w99 at *
    have HTT := Lib.hid htt
    have HFI := Lib.hid (show RndPost d ll nums w (.returned (.tuple #[zeroC, .int .i64 (4)])) w99 from
      ⟨_, by rw [rndc_long hz hlong], .inl ⟨by rw [rndc_long hz hlong]; decide, rfl⟩, hkf⟩)
    clear htt hkf
    go_wp2
    exact bodyPost_ret (results_cellC2 (p := 4) (u := 5) rfl _ rfl rfl HTT.out) rfl HFI.out
  go_upto_region 4 with (fail)
  refine wp_region_list ?_
  refine Rg.list_run (some 23) rfl rfl (Rg.exec_move (v := .slice na nums.length nc) _ rfl rfl) ?_
  go_frame
  refine Rg.list_run (some 24) rfl rfl (exec_len _ _ _ rfl Try.underlying33 _ _ _ rfl) ?_
  go_frame
  refine Rg.list_run (some 25) rfl rfl (exec_bin (R := .bool false) .gtr _ _ _ rfl rfl rfl (b_gtr _ (decide_eq_false (by omega)))) ?_
  go_frame
  obtain ⟨n, gs, hdn, hll, hgd, hn1, hn2, hgl, hl16⟩ := ok_of hz
  subst hdn
  have HLL := Lib.hid hll
  have HGL := Lib.hid hgl
  have HGD := Lib.hid hgd
  have HZ := Lib.hid hz
  have HLG := Lib.hid hlong
  have HL16 := Lib.hid hl16
  clear hll hgl hgd hz hlong
  have HC0 := Lib.hid (show CF (fun k => k < w2.heap.size) w2 w.heap.size 0 (.int .i64 ((n : Nat) : Int)) from ⟨G0.out.c0, G0.out.lt, G0.out.lt⟩)
  have HC1 := Lib.hid (show CF (fun k => k < w2.heap.size) w2 w.heap.size 1 (.slice ga ll.length gc) from ⟨G0.out.c1, G0.out.lt, G0.out.lt⟩)
  have HFR := Lib.hid (show Rg.FRows (fun k => k < w2.heap.size) w2 (.slice ga ll.length gc) (gs.map Ma.ofN) from Rg.FRows.old (by have := G0.out.rows; rw [show gs.map Ma.ofN = ll from HLL.out.symm]; exact this))
  have HNF := Lib.hid (show NF (fun k => k < w2.heap.size) w2 (.slice na nums.length nc) nums from Rg.FI.old NU.out)
  have KB := K
  have FT0 := FT
  clear K FT
  have K := Lib.hid (Below.refl w2.heap.size w2)
  obtain ⟨cT, hcT⟩ : ∃ c, Hid (zT.toArray.setIfInBounds 0 (Value.int .i64 ((n : Nat) : Int)) = c) := ⟨_, Lib.hid rfl⟩
  go_upto_region 6 with (fail)
  refine wp_region_list ?_
  refine Rg.list_run (some 27) rfl rfl (exec_fieldG0 _ rfl rfl) ?_
  go_frame
  refine Rg.list_run (some 28) rfl rfl (Rg.exec_load (v := .int .i64 ((n : Nat) : Int)) _ _ rfl ⟨w.heap.size, 0, none⟩ rfl (run_loadInt ((Below.cell (p := ⟨w.heap.size, 0, none⟩) K.out G0.out.lt).trans G0.out.c0))) ?_
  go_frame
  refine Rg.list_run (some 29) rfl rfl (exec_buildTbC hcT _ rfl rfl) ?_
  go_frame
  have hpt := PtAt.new (F := fun k => k < w2.heap.size) (w := w2) (fun _ h => h) n
  rw [hcT.out] at hpt
  refine Rg.list_run (some 30) rfl rfl (Rg.exec_box _ _ rfl rfl) ?_
  go_frame
  have hb := (Below.refl w2.heap.size w2).alloc (Nat.le_refl _) (.cells cT 112)
  generalize w2.alloc (.cells cT 112) = w3 at *
  replace K := Lib.hid (Rg.acc K.out hb)
  clear hb
  have HT := Lib.hid hpt
  have HTL := Lib.hid HT.out.lt
  have hcp := CW.new w3 (.pointer none) 108
  refine Rg.list_run (some 7) rfl rfl (exec_allocPt rfl) ?_
  go_frame
  have hb := (Below.refl w3.heap.size w3).alloc (Nat.le_refl _) (.cells #[.pointer none] 108)
  generalize w3.alloc (.cells #[.pointer none] 108) = w4 at *
  replace HT := Lib.hid (HT.out.below hb)
  replace K := Lib.hid (Rg.acc K.out hb)
  clear hb
  have CP := Lib.hid hcp
  refine Rg.list_skip none rfl rfl (Rg.exec_store _ _ _ rfl _ rfl _ rfl (run_storePt _ CP.out.c CP.out.f)) ?_
  go_frame
  have hk6 : Rg.Kp (fun z => z = w3.heap.size) w4 (w4.setCell ⟨w3.heap.size, 0, none⟩ (.pointer (some ⟨w2.heap.size, 0, none⟩))) := Rg.Kp.of_setCell rfl
  have HPT := Lib.hid (show w2.heap.size < w3.heap.size from HTL.out)
  have HT2 := Lib.hid (HT.out.kp hk6 (fun z hz e => by have := HPT.out; omega) (fun e => by have := HPT.out; omega))
  have CP2 := Lib.hid (CP.out.set (.pointer (some ⟨w2.heap.size, 0, none⟩)))
  have K2 := Lib.hid (K.out.setCell (p := ⟨w3.heap.size, 0, none⟩) (by have := HPT.out; exact Nat.le_of_lt this) (.pointer (some ⟨w2.heap.size, 0, none⟩)))
  have HPL := Lib.hid CP2.out.lt
  generalize w4.setCell ⟨w3.heap.size, 0, none⟩ (.pointer (some ⟨w2.heap.size, 0, none⟩)) = w20 at *
  clear hk6 HT CP K HTL hpt hcp hcT
  go_upto_region 7 with (fail)
  refine wp_region_list ?_
  refine Rg.list_run (some 31) rfl rfl (exec_fieldG _ rfl rfl) ?_
  go_frame
  refine Rg.list_run (some 32) rfl rfl (Rg.exec_load (v := .slice ga ll.length gc) _ _ rfl ⟨w.heap.size, 1, none⟩ rfl (Rg.run_loadSl _ _ Try.underlying22 ((Below.cell (p := ⟨w.heap.size, 1, none⟩) K2.out G0.out.lt).trans G0.out.c1))) ?_
  go_frame
  refine list_ask (some 33) rfl rfl _ _ (exec_fn1 79 _ _ rfl rfl (Ylcl1 _ _)) ?_
  refine (ClonePs_f _ gs w20 (fun k hk => by have := K2.out.size; omega) (FRows.kp HFR.out (M := fun _ => False) (Rg.Kp.of_below K2.out) (fun _ _ => id)) (by have := HGL.out; have := HL16.out; omega)).mono ?_
  rintro e1 w21 ⟨v1, rfl, hrf1, hb⟩
  obtain ⟨a1, c1, rfl⟩ := (hrf1.g (M := fun _ => False) (fun k hk => by have := K2.out.size; omega) (fun _ => False.elim)).shape
  have hrg1 : RowG (fun k => k < w2.heap.size) (fun z => z = w2.heap.size) w21 (.slice a1 gs.length c1) gs := hrf1.g (fun k hk => by have := K2.out.size; omega) (fun k hk => by have := HPL.out; have := HPT.out; omega)
  refine ⟨_, rfl, ?_⟩
  go_frame
  replace HT2 := Lib.hid (HT2.out.below hb)
  replace CP2 := Lib.hid (CP2.out.below hb)
  replace K2 := Lib.hid (Rg.acc K2.out hb)
  clear hb
  have RF := Lib.hid hrg1
  have HOQ := Lib.hid RF.out.lt
  have HPQ := Lib.hid CP2.out.lt
  have hcq := CW.new w21 (.slice none 0 0) 22
  refine Rg.list_run (some 8) rfl rfl (exec_allocPs rfl) ?_
  go_frame
  have hb := (Below.refl w21.heap.size w21).alloc (Nat.le_refl _) (.cells #[.slice none 0 0] 22)
  generalize w21.alloc (.cells #[.slice none 0 0] 22) = w22 at *
  replace HT2 := Lib.hid (HT2.out.below hb)
  replace CP2 := Lib.hid (CP2.out.below hb)
  replace RF := Lib.hid (RF.out.below hb)
  replace K2 := Lib.hid (Rg.acc K2.out hb)
  clear hb
  have CQ := Lib.hid hcq
  refine Rg.list_skip none rfl rfl (Rg.exec_store _ _ _ rfl _ rfl _ rfl (Rg.run_storeSl _ infoPermsV CQ.out.c CQ.out.f)) ?_
  go_frame
  have hk7 : Rg.Kp (fun z => z = w21.heap.size) w22 (w22.setCell ⟨w21.heap.size, 0, none⟩ (.slice a1 gs.length c1)) := Rg.Kp.of_setCell rfl
  have HQP := Lib.hid (show w3.heap.size < w21.heap.size from HPQ.out)
  have HFq : ∀ z, z < w2.heap.size → ¬ z = w21.heap.size := fun z hz e => by have := HPT.out; have := HQP.out; omega
  have HT3 := Lib.hid (HT2.out.kp hk7 HFq (fun e => by have := HPT.out; have := HQP.out; omega))
  have CP3 := Lib.hid (CP2.out.kp hk7 (fun e => by have := HQP.out; omega))
  have CQ3 := Lib.hid (CQ.out.set (.slice a1 gs.length c1))
  have RF3 := Lib.hid (RF.out.kpo hk7 HFq (fun k e e2 => by have := HOQ.out k e; omega))
  have KE := Lib.hid (show KG (fun k => k < w2.heap.size) w2 (fun k => k < w2.heap.size) (w22.setCell ⟨w21.heap.size, 0, none⟩ (.slice a1 gs.length c1)) from ((KG.refl fun _ h => h).bel K2.out).kf' (Rg.Kp.weak hk7 fun z e hz => HFq z hz e))
  generalize w22.setCell ⟨w21.heap.size, 0, none⟩ (.slice a1 gs.length c1) = w30 at *
  have HNE := Lib.hid (show w3.heap.size ≠ w2.heap.size ∧ w21.heap.size ≠ w2.heap.size ∧ w3.heap.size ≠ w21.heap.size from ⟨by have := HPT.out; omega, by have := HPT.out; have := HQP.out; omega, by have := HQP.out; omega⟩)
  have HQF := Lib.hid (show ¬ w21.heap.size < w2.heap.size by have := HPT.out; have := HQP.out; omega)
  have HQL := Lib.hid CQ3.out.lt
  clear hk7 HFq HT2 CP2 CQ RF K2 hrf1 hrg1 hcq HOQ
  go_upto_region 8 with (fail)
  refine wp_region_list ?_
  refine Rg.list_run (some 34) rfl rfl (exec_makeFunc2 (v := .pointer (some ⟨w21.heap.size, 0, none⟩)) (u := .pointer (some ⟨w3.heap.size, 0, none⟩)) _ _ _ rfl rfl rfl) ?_
  go_frame
  refine Rg.list_run (some 9) rfl rfl (Rg.exec_assign (v := .func (.func 80) #[] #[.pointer (some ⟨w21.heap.size, 0, none⟩), .pointer (some ⟨w3.heap.size, 0, none⟩)]) _ rfl rfl) ?_
  go_frame
  have TL0 := Lib.hid (TL.nil n (· ∈ gs))
  go_upto_region 9 with (fail)
  refine wp_region_list ?_
  refine Rg.list_run (some 35) rfl rfl (Rg.exec_move (v := .func (.func 80) #[] #[.pointer (some ⟨w21.heap.size, 0, none⟩), .pointer (some ⟨w3.heap.size, 0, none⟩)]) _ rfl rfl) ?_
  go_frame
  have HPB := Lib.hid CP3.out.lt
  refine list_ask (some 36) rfl rfl _ _ (exec_fnc0 _ _ _ rfl rfl (Ylcl2 _ _)) ?_
  refine (chDrain_any (m := 0) HGD.out hn1 hn2 (by omega) HT3.out TL0.out (fun x hx => .gen x hx) RF3.out (by have := HGL.out; have := HL16.out; omega) CP3.out CQ3.out HNE.out.1 HNE.out.2.1 HQF.out).mono ?_
  rintro e1 w31 ⟨F4, V4, m4, rfl, hki, hpt4, hm4, hcq4, htl4⟩
  have hcp4 := CP3.out.kp hki.kp (by rintro (e | e); exact HNE.out.1 e; exact HNE.out.2.2 e)
  have hkg := hki.kg
  have HKN := Lib.hid hki.new
  have HKS := Lib.hid hki.kp.size
  have HM4 := Lib.hid hm4
  have HTL := Lib.hid htl4
  clear hki hm4 htl4
  refine ⟨_, rfl, ?_⟩
  go_frame
  clear HT3
  clear CP3
  clear CQ3
  clear RF3
  replace KE := Lib.hid (KE.out.trans hkg)
  have HT := Lib.hid hpt4
  have CP := Lib.hid hcp4
  have CQ := Lib.hid hcq4
  clear hkg
  clear hpt4 hcp4 hcq4 TL0
  have HFL := Lib.hid HT.out.Flt
  have HMF := Lib.hid (show ∀ k, (fun z => z = w2.heap.size ∨ z = w3.heap.size ∨ z = w21.heap.size) k → ¬ F4 k ∧ k < w31.heap.size from fun k hk => by
    have h1 := HPT.out
    have h2 := HQP.out
    have h3 := HQL.out
    have h4 := HKS.out
    refine ⟨fun e => ?_, by rcases hk with e | e | e <;> omega⟩
    rcases hk with e2 | e2 | e2 <;> subst e2 <;> rcases HKN.out _ e with e3 | e3 <;> omega)
  have htb0 : gs.foldl (ins1 n) (fun _ _ => none) = tabL n gs := rfl
  rw [htb0] at HT HTL
  rw [List.nil_append] at HTL
  have CH0 := Lib.hid (HC0.out.kg KE.out)
  have CH1 := Lib.hid (HC1.out.kg KE.out)
  clear htb0 HKN
  go_upto_region 10 with (fail)
  refine wp_region_list ?_
  refine Rg.list_run (some 37) rfl rfl (exec_fieldG _ rfl rfl) ?_
  go_frame
  refine Rg.list_run (some 38) rfl rfl (Rg.exec_load (v := .slice ga ll.length gc) _ _ rfl ⟨w.heap.size, 1, none⟩ rfl (Rg.run_loadSl _ _ Try.underlying22 CH1.out.cell)) ?_
  go_frame
  refine list_ask (some 39) rfl rfl _ _ (exec_fn1 79 _ _ rfl rfl (Ylcl1 _ _)) ?_
  refine (ClonePs_f _ gs w31 HFL.out (FRows.mono (FRows.kp HFR.out KE.out.kf (fun _ hF hn => hn hF)) KE.out.sub) (by have := HGL.out; have := HL16.out; omega)).mono ?_
  rintro e1 w32 ⟨v2, rfl, hrf2, hb⟩
  have HSZ := Lib.hid hb.size
  obtain ⟨a2, c2, rfl⟩ := (hrf2.g (M := fun _ => False) HFL.out (fun _ => False.elim)).shape
  have hrg2 : RowG F4 (fun z => z = w2.heap.size ∨ z = w3.heap.size ∨ z = w21.heap.size) w32 (.slice a2 gs.length c2) gs := hrf2.g HFL.out (fun k hk => (HMF.out k hk).2)
  refine ⟨_, rfl, ?_⟩
  go_frame
  replace HT := Lib.hid (HT.out.below hb)
  replace CP := Lib.hid (CP.out.below hb)
  replace CQ := Lib.hid (CQ.out.below hb)
  replace KE := Lib.hid (KG.bel KE.out hb)
  clear hb
  have RF := Lib.hid hrg2
  refine Rg.list_run (some 10) rfl rfl (Rg.exec_assign (v := .slice a2 gs.length c2) _ rfl rfl) ?_
  go_frame
  have HRS := Lib.hid (show RS (fun z => z = w2.heap.size ∨ z = w3.heap.size ∨ z = w21.heap.size) F4 w2.heap.size w3.heap.size w21.heap.size n w32 (tabL n gs) m4 V4 (.slice a2 gs.length c2) gs from ⟨HT.out, RF.out, CP.out, CQ.out, fun k hk => (HMF.out k hk).1, fun k hk => Nat.lt_of_lt_of_le (HMF.out k hk).2 HSZ.out, .inl rfl, .inr (.inl rfl), .inr (.inr rfl), HNE.out.1, HNE.out.2.1, HNE.out.2.2⟩)
  clear hrf2 hrg2 HT RF CP CQ CH0 CH1 HFL HMF
  have CH0 := Lib.hid (HC0.out.kg KE.out)
  have CH1 := Lib.hid (HC1.out.kg KE.out)
  go_upto_region 11 with (fail)
  refine wp_region_list ?_
  refine Rg.list_run (some 40) rfl rfl (exec_fieldG _ rfl rfl) ?_
  go_frame
  refine Rg.list_run (some 41) rfl rfl (Rg.exec_load (v := .slice ga ll.length gc) _ _ rfl ⟨w.heap.size, 1, none⟩ rfl (Rg.run_loadSl _ _ Try.underlying22 CH1.out.cell)) ?_
  go_frame
  refine Rg.list_run (some 42) rfl rfl (exec_len _ _ _ rfl Try.underlying22 _ _ _ rfl) ?_
  go_frame
  refine Rg.list_run (some 43) rfl rfl (Rg.exec_move (v := .int .i64 ((0 : Nat) : Int)) _ rfl rfl) ?_
  go_frame
  have HR0 := Lib.hid (show RS (fun z => z = w2.heap.size ∨ z = w3.heap.size ∨ z = w21.heap.size) F4 w2.heap.size w3.heap.size w21.heap.size n w32 (tabL n gs) m4 V4 (.slice a2 gs.length c2) (gs ++ (gs.take 0).map Ma.invN) by rw [List.take_zero, List.map_nil, List.append_nil]; exact HRS.out)
  clear CH0 CH1 HRS
  go_wp2
  go_loopw [10, 43] (fun v jv wr => ∃ (j : Nat) (F1 : Nat → Prop), jv = .int .i64 j ∧ j ≤ ll.length ∧ Hid (RS (fun z => z = w2.heap.size ∨ z = w3.heap.size ∨ z = w21.heap.size) F1 w2.heap.size w3.heap.size w21.heap.size n wr (tabL n gs) m4 V4 v (gs ++ (gs.take j).map Ma.invN)) ∧ Hid (KG (fun k => k < w2.heap.size) w2 F1 wr)) (fun _ jv _ => ll.length - (intOf jv).toNat)
  case atStart => exact ⟨0, _, rfl, Nat.zero_le _, HR0, KE⟩
  case round =>
    clear HR0 KE
    obtain ⟨j, F, rfl, hj, HR, KE⟩ := hrel
    obtain ⟨va, vc, hsv⟩ := HR.out.rw.shape
    subst hsv
    have hjg0 : gs.length = ll.length := HGL.out
    by_cases hjl : j < ll.length
    · have hjN : (j : Int) < (ll.length : Int) := by omega
      have HJL := Lib.hid hjl
      have hjg : j < gs.length := by omega
      have HJG := Lib.hid hjg
      have HTK := Lib.hid (show (gs ++ (gs.take j).map Ma.invN).length = gs.length + j by rw [List.length_append, List.length_map, List.length_take]; omega)
      have GE : GS (fun k => k < w2.heap.size) w2 (.slice ga ll.length gc) gs := GS.of_rows (by have := G0.out.rows; rw [show gs.map Ma.ofN = ll from HLL.out.symm]; exact this)
      have hga : ∃ gb go, ga = some ⟨gb, go, none⟩ := by
        obtain ⟨a, c, e, h1⟩ := GE
        obtain ⟨b, o, e2, _⟩ := h1 (by omega)
        injection e with e _ _
        exact ⟨b, o, e.trans e2⟩
      obtain ⟨gb, go, rfl⟩ := hga
      obtain ⟨u, hcu, hxu⟩ := GE.at hjg
      obtain ⟨x, hx⟩ : ∃ x : List Nat, Hid (gs[j]'hjg = x) := ⟨_, Lib.hid rfl⟩
      replace hxu : FP (fun k => k < w2.heap.size) w2 u x := by rw [← hx.out]; exact hxu
      have GX := Lib.hid (HGD.out x (by rw [← hx.out]; exact List.getElem_mem hjg))
      have CU := Lib.hid (hcu.kg KE.out)
      have XU := Lib.hid (hxu.kg KE.out)
      clear hcu hxu GE
      go_upto_region 12 with (fail)
      refine wp_region_list ?_
      refine Rg.list_run (some 44) rfl rfl (exec_bin (R := .bool true) .lss _ _ _ rfl rfl rfl (b_lss _ (decide_eq_true (by omega)))) ?_
      go_frame
      go_upto_region 13 with (fail)
      refine wp_region_list ?_
      refine Rg.list_run (some 45) rfl rfl (exec_indexS slPerms _ _ rfl gb (go) (ll.length) gc (j) rfl rfl HJL.out) ?_
      go_frame
      refine Rg.list_run (some 46) rfl rfl (Rg.exec_load (v := u) _ _ rfl ⟨gb, go + j, none⟩ rfl (Rg.run_loadSl _ _ Try.underlying62 CU.out.cell)) ?_
      go_frame
      refine Rg.list_run (some 12) rfl rfl (Rg.exec_assign (v := u) _ rfl rfl) ?_
      go_frame
      go_upto_region 14 with (fail)
      refine wp_region_list ?_
      refine Rg.list_run (some 47) rfl rfl (Rg.exec_move (v := .slice va (gs ++ (gs.take j).map Ma.invN).length vc) _ rfl rfl) ?_
      go_frame
      refine Rg.list_run (some 48) rfl rfl (Rg.exec_move (v := u) _ rfl rfl) ?_
      go_frame
      refine list_ask (some 49) rfl rfl _ _ (exec_fn1 82 _ _ rfl rfl (Ylcl3 _ _)) ?_
      refine (chInv_f XU.out GX.out hn1 hn2).mono ?_
      rintro e1 w101 ⟨iv, rfl, hiv, hb⟩
      obtain ⟨jb, jo, jc, rfl⟩ := hiv.shape' (Cm.gd_inv GX.out) hn1
      refine ⟨_, rfl, ?_⟩
      go_frame
      replace HR := Lib.hid (HR.out.up hb)
      replace CU := Lib.hid (CU.out.up hb)
      replace XU := Lib.hid (XU.out.up hb)
      replace KE := Lib.hid (KE.out.up hb)
      have IV := Lib.hid hiv
      generalize Fup F wr w101 = F1 at *
      clear hb
      obtain ⟨a9, c9, X9, r1, r2, r3⟩ := HR.out.push IV.out ⟨_, _, _, rfl⟩ (by rw [HTK.out]; have := HL16.out; omega) 22
      refine Rg.list_run (some 50) rfl rfl (Rg.exec_buildSlice _ _ _ rfl (.slice (some ⟨jb, jo, none⟩) n jc) rfl (run_build1P w101 _ ⟨_, _, _, rfl⟩)) ?_
      go_frame
      refine Rg.list_run (some 51) rfl rfl (Rg.exec_append _ _ _ rfl rfl rfl r1) ?_
      go_frame
      refine Rg.list_run (some 10) rfl rfl (Rg.exec_assign (v := .slice a9 ((gs ++ (gs.take j).map Ma.invN).length + 1) c9) _ rfl rfl) ?_
      go_frame
      have K2 := Lib.hid (KE.out.kf' r3)
      have HR2 := Lib.hid (show RS (fun z => z = w2.heap.size ∨ z = w3.heap.size ∨ z = w21.heap.size) _ w2.heap.size w3.heap.size w21.heap.size n X9 (tabL n gs) m4 V4 (.slice a9 ((gs ++ (gs.take j).map Ma.invN).length + 1) c9) (gs ++ (gs.take (j + 1)).map Ma.invN) by
        rw [List.take_succ_eq_append_getElem HJG.out, show gs[j]'HJG.out = x from hx.out, List.map_append, ← List.append_assoc]; exact r2)
      clear r1 r2 r3 hiv
      go_wp2
      go_roundw
      case rel => exact ⟨j + 1, _, by go_num, HJL.out, HR2, K2⟩
      case measure => simp [intOf]; have := HJL.out; omega
    · obtain rfl : j = ll.length := by omega
      have hjN : ¬ (ll.length : Int) < (ll.length : Int) := by omega
      rw [show gs.take ll.length = gs from List.take_of_length_le (by omega)] at HR ⊢
      go_upto_region 12 with (fail)
      refine wp_region_list ?_
      refine Rg.list_run (some 44) rfl rfl (exec_bin (R := .bool false) .lss _ _ _ rfl rfl rfl (b_lss _ (decide_eq_false (by omega)))) ?_
      go_frame
      go_upto_region 16 with (fail)
      refine wp_region_list ?_
      refine Rg.list_run (some 53) rfl rfl (Rg.exec_move (v := .slice va (gs ++ gs.map Ma.invN).length vc) _ rfl rfl) ?_
      go_frame
      refine Rg.list_run (some 54) rfl rfl (exec_len _ _ _ rfl Try.underlying22 _ _ _ rfl) ?_
      go_frame
      refine Rg.list_run (some 13) rfl rfl (exec_allocI rfl) ?_
      go_frame
      refine Rg.list_skip none rfl rfl (Rg.exec_store _ _ _ rfl _ rfl _ rfl (run_storeInt _ (CW.new wr (.int .i64 0) 3).c (CW.new wr (.int .i64 0) 3).f)) ?_
      go_frame
      have HLN : (gs ++ gs.map Ma.invN).length = ll.length + ll.length := by rw [List.length_append, List.length_map]; omega
      obtain ⟨hrs9, hcm9, hb9⟩ := HR.out.cell (.int .i64 0) (.int .i64 (((gs ++ gs.map Ma.invN).length : Nat) : Int)) 3
      have HR9 := Lib.hid hrs9
      have CM := Lib.hid hcm9
      have K9 := Lib.hid (KE.out.bel hb9)
      obtain ⟨M4, hM4⟩ : ∃ M4 : Nat → Prop, Hid ((fun z => (fun z => z = w2.heap.size ∨ z = w3.heap.size ∨ z = w21.heap.size) z ∨ z = wr.heap.size) = M4) := ⟨_, Lib.hid rfl⟩
      rw [hM4.out] at HR9
      have HMB := Lib.hid (show M4 wr.heap.size by rw [← hM4.out]; exact .inr rfl)
      have HMN := Lib.hid (show wr.heap.size ≠ w2.heap.size ∧ wr.heap.size ≠ w21.heap.size from ⟨fun e => by have := HR.out.lt _ HR.out.mt; omega, fun e => by have := HR.out.lt _ HR.out.mq; omega⟩)
      generalize (wr.alloc (.cells #[.int .i64 0] 3)).setCell ⟨wr.heap.size, 0, none⟩ (.int .i64 (((gs ++ gs.map Ma.invN).length : Nat) : Int)) = w200 at *
      generalize wr.heap.size = mb at *
      clear hrs9 hcm9 hb9 HR KE hM4
      go_upto_region 17 with (fail)
      refine wp_region_list ?_
      refine Rg.list_run (some 55) rfl rfl (exec_makeFunc (v := .pointer (some ⟨mb, 0, none⟩)) _ _ rfl rfl) ?_
      go_frame
      refine Rg.list_run (some 14) rfl rfl (Rg.exec_assign (v := .func (.func 83) #[] #[.pointer (some ⟨mb, 0, none⟩)]) _ rfl rfl) ?_
      go_frame
      go_upto_region 18 with (fail)
      refine wp_region_list ?_
      refine Rg.list_run (some 15) rfl rfl (Rg.exec_assign (v := .int .i64 ((0 : Nat) : Int)) _ rfl rfl) ?_
      go_frame
      obtain ⟨sl0, hsl0⟩ : ∃ l, Hid (gs ++ gs.map Ma.invN = l) := ⟨_, Lib.hid rfl⟩
      rw [hsl0.out] at HR9 CM HLN
      rw [HLN] at CM
      obtain ⟨st0, hst0⟩ : ∃ s, Hid (startR n gs = s) := ⟨_, Lib.hid rfl⟩
      have HX1 := Lib.hid (show st0.1 = sl0 by rw [← hst0.out, ← hsl0.out]; rfl)
      have HX2 := Lib.hid (show st0.2 = tabL n gs by rw [← hst0.out]; rfl)
      have HSL := Lib.hid (show st0.1.length = ll.length + ll.length by rw [HX1.out]; exact HLN)
      have HRL := Lib.hid (show RS M4 F w2.heap.size w3.heap.size w21.heap.size n w200 st0.2 m4 V4 (.slice va (ll.length + ll.length) vc) st0.1 by
        rw [HX2.out, HX1.out, ← HLN]; exact HR9.out)
      have HM5 := Lib.hid (show m4 ≤ 16 + 0 by have := HM4.out; have := HL16.out; omega)
      clear HR9
      rw [hsl0.out, HLN]
      go_wp2
      go_loopw [15] (fun kv wr => ∃ (k m' : Nat) (F1 : Nat → Prop) (V : Nat → Nat → Value), kv = .int .i64 ((2 * k : Nat) : Int) ∧ 2 * k ≤ nums.length ∧ (gs = [] → k = 0) ∧ Hid (m' ≤ 16 + k) ∧ Hid (RS M4 F1 w2.heap.size w3.heap.size w21.heap.size n wr (stR n st0 nums k).2 m' V (.slice va (ll.length + ll.length) vc) (stR n st0 nums k).1) ∧ Hid (CW wr mb (.int .i64 ((ll.length + ll.length : Nat) : Int))) ∧ Hid (KG (fun k => k < w2.heap.size) w2 F1 wr)) (fun kv _ => nums.length - (intOf kv).toNat)
      case atStart => exact ⟨0, m4, _, _, rfl, Nat.zero_le _, fun _ => rfl, HM5, HRL, CM, K9⟩
      case round =>
        clear HRL CM K9 HM5
        obtain ⟨k, m', F, V, rfl, hk, hk0, HM', HR, CM, KE⟩ := hrel
        have hnl : nums.length ≤ 1000 := by have := HLG.out; omega
        by_cases hge : gs = []
        case pos =>
          obtain rfl := hk0 hge
          have hll0 : ll.length = 0 := by have := HGL.out; rw [hge] at this; simpa using this.symm
          have hsN : ¬ (0 : Int) < ((ll.length + ll.length : Nat) : Int) := by omega
          have HEND := Lib.hid (show (stR n st0 nums 0).2 = endR n gs nums by unfold endR stepsR; rw [if_pos hge, hst0.out])
          go_upto_region 19 with (fail)
          refine wp_region_list ?_
          refine Rg.list_run (some 56) rfl rfl (Rg.exec_load (v := .int .i64 (((ll.length + ll.length) : Nat) : Int)) _ _ rfl ⟨mb, 0, none⟩ rfl (run_loadInt CM.out.c)) ?_
          go_frame
          refine Rg.list_run (some 57) rfl rfl (exec_bin (R := .bool false) .gtr _ _ _ rfl rfl rfl (b_gtr _ (decide_eq_false (by omega)))) ?_
          go_frame
          refine Rg.list_run (some 58) rfl rfl (Rg.exec_move (v := .bool false) _ rfl rfl) ?_
          go_frame
          refine listW_pass (some 59) (by kernel_rfl) rfl ?_
          go_frame
          refine listW_pass (some 60) (by kernel_rfl) rfl ?_
          go_frame
          refine listW_pass (some 61) (by kernel_rfl) rfl ?_
          go_frame
          refine listW_pass (some 62) (by kernel_rfl) rfl ?_
          go_frame
          refine listW_pass (some 63) (by kernel_rfl) rfl ?_
          go_frame
          refine Rg.list_run (some 64) rfl rfl (exec_pickF (v := .bool false) _ _ _ rfl rfl rfl) ?_
          go_frame
          rw [HEND.out] at HR
          have HRI := Lib.hid (endR_ok HGD.out nums)
          obtain ⟨lE, hlE, _⟩ := HRI.out.tl
          have OKE := Lib.hid hlE.ok
          have HT := Lib.hid HR.out.ht
          have CP := Lib.hid HR.out.cp
          clear hlE HR
          have HM7 := Lib.hid (show m' < 1000000000000 by have := HM'.out; omega)
          go_upto_region 25 with (fail)
          refine wp_region_list ?_
          refine Rg.list_run (some 100) rfl rfl (Rg.exec_load (v := .pointer (some ⟨w2.heap.size, 0, none⟩)) _ _ rfl ⟨w3.heap.size, 0, none⟩ rfl (Rg.run_loadPtr _ _ Try.underlying108 CP.out.c)) ?_
          go_frame
          refine list_ask (some 101) rfl rfl _ _ (exec_fn1 85 _ _ rfl rfl (Ylcl5 _ _)) ?_
          refine (pclosed_any hn1 hn2 HM7.out HT.out OKE.out.rp).mono ?_
          rintro e1 w351 ⟨bC, rfl, hbc, hb⟩
          have HBC := Lib.hid hbc
          clear hbc
          refine ⟨_, rfl, ?_⟩
          go_frame
          replace HT := Lib.hid (HT.out.below hb)
          replace CP := Lib.hid (CP.out.below hb)
          replace KE := Lib.hid (KG.bel KE.out hb)
          clear hb
          refine Rg.list_run (some 102) rfl rfl (exec_not _ _ bC rfl rfl) ?_
          go_frame
          have hbk : Below w2.heap.size w2 w351 := KE.out.kf.below (Nat.le_refl _) (fun _ h => h)
          have FT := Lib.hid (FT0.out.below hbk)
          have G9 := Lib.hid (G0.out.below hbk)
          have K := Lib.hid (show Below w.heap.size w w351 from (KB.out.trans (hbk.mono KB.out.size)))
          clear hbk KE
          cases bC with
          | false =>
            have HNC := Lib.hid (show ¬ PClosed n (endR n gs nums) from fun h => by have := HBC.out.2 h; cases this)
            have HRC := Lib.hid (show rndc ((n : Nat) : Int) ll nums = 13 by rw [HLL.out]; exact rndc_no (by rw [← HLL.out]; exact HZ.out) HLG.out HNC.out)
            go_upto_region 26 with (fail)
            refine wp_region_list ?_
            refine Rg.list_run (some 103) rfl rfl (exec_buildC0 rfl) ?_
            go_frame
            refine Rg.list_skip none rfl rfl (Rg.exec_store _ _ _ rfl _ rfl _ rfl (run_storeC _ _ _ _ _ _ _ FT.out)) ?_
            go_frame
            refine Rg.list_run (some 5) rfl rfl (Rg.exec_assign (v := .int .i64 ((13 : Nat) : Int)) _ rfl rfl) ?_
            go_frame
            have htt := FT.out.set (.int .i64 0) (.slice none 0 0) (.slice none 0 0)
            have hkf := ((K.out.setCell (p := ⟨w0.heap.size, 0, none⟩) HW0.out (.int .i64 0)).setCell (p := ⟨w0.heap.size, 1, none⟩) HW0.out (.slice none 0 0)).setCell (p := ⟨w0.heap.size, 2, none⟩) HW0.out (.slice none 0 0)
            generalize ((w351.setCell ⟨w0.heap.size, 0, none⟩ (.int .i64 0)).setCell ⟨w0.heap.size, 1, none⟩ (.slice none 0 0)).setCell ⟨w0.heap.size, 2, none⟩ (.slice none 0 0) = w99 at *
            have HTT := Lib.hid htt
            have HFI := Lib.hid (show RndPost ((n : Nat) : Int) ll nums w (.returned (.tuple #[zeroC, .int .i64 13])) w99 from
              ⟨_, by rw [HRC.out], .inl ⟨by rw [HRC.out]; decide, rfl⟩, hkf⟩)
            clear htt hkf
            go_wp2
            exact bodyPost_ret (results_cellC2 (p := 4) (u := 5) rfl _ rfl rfl HTT.out) rfl HFI.out
          | true =>
            have HPC := Lib.hid (HBC.out.1 rfl)
            have HRC := Lib.hid (show rndc ((n : Nat) : Int) ll nums = 0 by rw [HLL.out]; exact rndc_yes (by rw [← HLL.out]; exact HZ.out) HLG.out HPC.out)
            clear HT CP
            go_upto_region 27 with (fail)
            refine wp_region_list ?_
            refine Rg.list_run (some 104) rfl rfl (exec_fieldG0 _ rfl rfl) ?_
            go_frame
            refine Rg.list_run (some 105) rfl rfl (Rg.exec_load (v := .int .i64 ((n : Nat) : Int)) _ _ rfl ⟨w.heap.size, 0, none⟩ rfl (run_loadInt G9.out.c0)) ?_
            go_frame
            refine Rg.list_run (some 106) rfl rfl (exec_fieldG _ rfl rfl) ?_
            go_frame
            refine Rg.list_run (some 107) rfl rfl (Rg.exec_load (v := .slice ga ll.length gc) _ _ rfl ⟨w.heap.size, 1, none⟩ rfl (Rg.run_loadSl _ _ Try.underlying22 G9.out.c1)) ?_
            go_frame
            have HWB := Lib.hid FT.out.lt
            refine list_ask (some 108) rfl rfl _ _ (exec_fn 73 _ _ _ rfl rfl rfl (Ylcl6 _ _)) ?_
            refine (build_b hn1 hn2 (by have := G9.out.rows; rw [show gs.map Ma.ofN = ll from HLL.out.symm]; exact this) HGD.out (by have := HGL.out; have := HL16.out; omega)).mono ?_
            rintro e1 w352 ⟨tb, L, F1, T1, V1, rfl, hT1, hc01, hc11, hB1, hb⟩
            have HB := Lib.hid hB1
            have HWC := Lib.hid (Nat.lt_of_lt_of_le HWB.out hb.size)
            refine ⟨_, rfl, ?_⟩
            go_frame
            replace FT := Lib.hid (FT.out.below hb)
            replace G9 := Lib.hid (G9.out.below hb)
            replace K := Lib.hid (Rg.acc K.out hb)
            clear hb
            have HT := Lib.hid hT1
            have C0 := Lib.hid hc01
            have C1 := Lib.hid hc11
            clear hT1 hc01 hc11 hB1
            refine list_ask (some 109) rfl rfl _ _ (exec_fn1 74 _ _ rfl rfl (Ylcl7 _ _)) ?_
            refine (chain_any hn1 hn2 HT.out C0.out C1.out (Cm.Gr.isG HGD.out) (HB.out.isTr (by omega) HGD.out) (fun j hj => (HB.out.full j hj).1)).mono ?_
            rintro e1 w353 ⟨ov, rv, O, R, rfl, hO, hR, hCh, hb⟩
            obtain ⟨oa, oc, rfl, _⟩ := hO.rows.shape
            obtain ⟨ra, rc, rfl⟩ := hR.rows.shape
            have HO := Lib.hid hO
            have HR := Lib.hid hR
            have HCH := Lib.hid hCh
            clear hO hR hCh
            refine ⟨_, rfl, ?_⟩
            go_frame
            replace FT := Lib.hid (FT.out.below hb)
            replace G9 := Lib.hid (G9.out.below hb)
            replace HT := Lib.hid (HT.out.below hb)
            replace C0 := Lib.hid (C0.out.below hb)
            replace C1 := Lib.hid (C1.out.below hb)
            replace K := Lib.hid (Rg.acc K.out hb)
            clear hb
            refine Rg.list_skip none rfl rfl (Rg.exec_store _ _ _ rfl _ rfl _ rfl (run_storeC _ _ _ _ _ _ _ FT.out)) ?_
            go_frame
            refine Rg.list_run (some 5) rfl rfl (Rg.exec_assign (v := .int .i64 ((0 : Nat) : Int)) _ rfl rfl) ?_
            go_frame
            have htt := FT.out.set (.int .i64 ((n : Nat) : Int)) (.slice oa (O.map Ma.ofN).length oc) (.slice ra (R.map (List.map Ma.ofN)).length rc)
            have hkt := Rg.Kp.trans (Rg.Kp.trans (Rg.Kp.of_setCell (M := fun z => z = w0.heap.size) (w := w353) (a := ⟨w0.heap.size, 0, none⟩) (v := .int .i64 ((n : Nat) : Int)) rfl) (Rg.Kp.of_setCell (M := fun z => z = w0.heap.size) (a := ⟨w0.heap.size, 1, none⟩) (v := (.slice oa (O.map Ma.ofN).length oc)) rfl) (fun _ _ e => e)) (Rg.Kp.of_setCell (M := fun z => z = w0.heap.size) (a := ⟨w0.heap.size, 2, none⟩) (v := (.slice ra (R.map (List.map Ma.ofN)).length rc)) rfl) (fun _ _ e => e)
            have hro := FRows.kp HO.out hkt (fun z g e => by have := HWC.out; omega)
            have hrr := HR.out.kp hkt (fun z g e => by have := HWC.out; omega)
            have hkf := ((K.out.setCell (p := ⟨w0.heap.size, 0, none⟩) HW0.out (.int .i64 ((n : Nat) : Int))).setCell (p := ⟨w0.heap.size, 1, none⟩) HW0.out (.slice oa (O.map Ma.ofN).length oc)).setCell (p := ⟨w0.heap.size, 2, none⟩) HW0.out (.slice ra (R.map (List.map Ma.ofN)).length rc)
            generalize ((w353.setCell ⟨w0.heap.size, 0, none⟩ (.int .i64 ((n : Nat) : Int))).setCell ⟨w0.heap.size, 1, none⟩ (.slice oa (O.map Ma.ofN).length oc)).setCell ⟨w0.heap.size, 2, none⟩ (.slice ra (R.map (List.map Ma.ofN)).length rc) = w99 at *
            have HTT := Lib.hid htt
            have HFI := Lib.hid (show RndPost ((n : Nat) : Int) ll nums w (.returned (.tuple #[.agg #[.int .i64 ((n : Nat) : Int), (.slice oa (O.map Ma.ofN).length oc), (.slice ra (R.map (List.map Ma.ofN)).length rc)], .int .i64 0])) w99 from
              ⟨_, by rw [HRC.out], .inr ⟨HRC.out, n, gs, rfl, HLL.out, hn1, hn2, _, _, O, R, rfl, FRows.rows hro, hrr.rows, HCH.out⟩, hkf⟩)
            clear htt hkt hro hrr hkf
            go_wp2
            exact bodyPost_ret (results_cellC2 (p := 4) (u := 5) rfl _ rfl rfl HTT.out) rfl HFI.out
        case neg =>
          have hgl1 : 1 ≤ gs.length := List.length_pos_iff.2 hge
          have hsN : (0 : Int) < ((ll.length + ll.length : Nat) : Int) := by have := HGL.out; omega
          by_cases hkl : 2 * k + 1 < nums.length
          case pos =>
            obtain ⟨st, hst⟩ : ∃ s, Hid (stR n st0 nums k = s) := ⟨_, Lib.hid rfl⟩
            rw [hst.out] at HR
            have hsl : st.1.length = ll.length + ll.length := by rw [← hst.out, stR_len]; exact HSL.out
            have HSK := Lib.hid hsl
            have HRI := Lib.hid (show RI n (· ∈ gs) st by rw [← hst.out]; exact RI.all HGD.out (hst0.out ▸ RI.start HGD.out) (by rw [HSL.out]; omega) nums k)
            obtain ⟨lk, hlk, _⟩ := HRI.out.tl
            have HLK := Lib.hid hlk
            have hL0 : 0 < ll.length + ll.length := by omega
            have hL1 : ll.length + ll.length ≤ 1000000 := by have := HL16.out; omega
            have hp1 := pickV_range (x := nums[2 * k]) (n := ((ll.length + ll.length : Nat) : Int)) (by omega)
            have hp2 := pickV_range (x := nums[2 * k + 1]) (n := ((ll.length + ll.length : Nat) : Int)) (by omega)
            obtain ⟨i, hi⟩ : ∃ i : Nat, Hid (pickV nums[2 * k] ((ll.length + ll.length : Nat) : Int) = ((i : Nat) : Int)) := ⟨_, Lib.hid (Int.toNat_of_nonneg hp1.1).symm⟩
            obtain ⟨j, hj⟩ : ∃ j : Nat, Hid (pickV nums[2 * k + 1] ((ll.length + ll.length : Nat) : Int) = ((j : Nat) : Int)) := ⟨_, Lib.hid (Int.toNat_of_nonneg hp2.1).symm⟩
            have hiL : i < ll.length + ll.length := by rw [hi.out] at hp1; omega
            have hjL : j < ll.length + ll.length := by rw [hj.out] at hp2; omega
            have HIL := Lib.hid (show i < st.1.length by omega)
            have HJL := Lib.hid (show j < st.1.length by omega)
            have NE : NF F wr (.slice na nums.length nc) nums := HNF.out.kg KE.out
            obtain ⟨nb, no, rfl, hcn⟩ := NE.at (by omega)
            have CN1 := Lib.hid (hcn (2 * k) (by omega))
            have CN2 := Lib.hid (hcn (2 * k + 1) hkl)
            obtain ⟨g, c, ua, e1, e2, e3⟩ := HR.out.rw.at HIL.out
            rw [hsl] at e1
            injection e1 with e1a _ e1c
            subst e1a e1c
            obtain ⟨g', c', ub, e1', e2', e3'⟩ := HR.out.rw.at HJL.out
            simp only [Value.slice.injEq, Option.some.injEq, Addr.mk.injEq, and_true, true_and] at e1'
            obtain ⟨e1a, _⟩ := e1'
            subst e1a
            have CA := Lib.hid e2
            have UA := Lib.hid e3
            have CB := Lib.hid e2'
            have UB := Lib.hid e3'
            have GA := Lib.hid ((Cm.Gr.isG HGD.out).gd _ (HRI.out.gr _ (List.getElem_mem HIL.out)))
            have GB := Lib.hid ((Cm.Gr.isG HGD.out).gd _ (HRI.out.gr _ (List.getElem_mem HJL.out)))
            clear e2 e3 e2' e3' hcn hlk hp1 hp2 hsl NE
            go_upto_region 19 with (fail)
            refine wp_region_list ?_
            refine Rg.list_run (some 56) rfl rfl (Rg.exec_load (v := .int .i64 (((ll.length + ll.length) : Nat) : Int)) _ _ rfl ⟨mb, 0, none⟩ rfl (run_loadInt CM.out.c)) ?_
            go_frame
            refine Rg.list_run (some 57) rfl rfl (exec_bin (R := .bool true) .gtr _ _ _ rfl rfl rfl (b_gtr _ (decide_eq_true (by omega)))) ?_
            go_frame
            refine Rg.list_run (some 58) rfl rfl (Rg.exec_move (v := .bool true) _ rfl rfl) ?_
            go_frame
            refine listW_run (some 59) rfl rfl (Rg.exec_move (v := .int .i64 (((2 * k) : Nat) : Int)) _ rfl rfl) ?_
            go_frame
            refine listW_run (some 60) rfl rfl (exec_bin (R := .int .i64 (((2 * k + 1) : Nat) : Int)) .add _ _ _ rfl rfl rfl (b_add _ (by omega) (by omega))) ?_
            go_frame
            refine listW_run (some 61) rfl rfl (Rg.exec_move (v := .slice (some ⟨nb, no, none⟩) nums.length nc) _ rfl rfl) ?_
            go_frame
            refine listW_run (some 62) rfl rfl (exec_len _ _ _ rfl Try.underlying33 _ _ _ rfl) ?_
            go_frame
            refine listW_run (some 63) rfl rfl (exec_bin (R := .bool true) .lss _ _ _ rfl rfl rfl (b_lss _ (decide_eq_true (by omega)))) ?_
            go_frame
            refine Rg.list_run (some 64) rfl rfl (exec_pickT (v := .bool true) _ _ _ rfl rfl rfl) ?_
            go_frame
            go_upto_region 21 with (fail)
            refine wp_region_list ?_
            refine Rg.list_run (some 67) rfl rfl (Rg.exec_move (v := .func (.func 83) #[] #[.pointer (some ⟨mb, 0, none⟩)]) _ rfl rfl) ?_
            go_frame
            refine Rg.list_run (some 68) rfl rfl (Rg.exec_move (v := .slice (some ⟨nb, no, none⟩) nums.length nc) _ rfl rfl) ?_
            go_frame
            refine Rg.list_run (some 69) rfl rfl (Rg.exec_move (v := .int .i64 (((2 * k) : Nat) : Int)) _ rfl rfl) ?_
            go_frame
            refine Rg.list_run (some 70) rfl rfl (exec_indexS slInts _ _ rfl nb (no) (nums.length) nc ((2 * k)) rfl rfl (by omega)) ?_
            go_frame
            refine Rg.list_run (some 71) rfl rfl (Rg.exec_load (v := .int .i64 nums[2 * k]) _ _ rfl ⟨nb, no + (2 * k), none⟩ rfl (run_loadInt CN1.out.cell)) ?_
            go_frame
            refine list_ask (some 72) rfl rfl _ _ (exec_fnc1 _ _ _ _ rfl rfl rfl (Ylcl4 _ _)) ?_
            refine (mod_i hL0 hL1 CM.out hi).mono ?_
            rintro e1 w221 ⟨rfl, hb⟩
            refine ⟨_, rfl, ?_⟩
            go_frame
            replace HR := Lib.hid (HR.out.up hb)
            replace CM := Lib.hid (CM.out.up hb)
            replace CN1 := Lib.hid (CN1.out.up hb)
            replace CN2 := Lib.hid (CN2.out.up hb)
            replace CA := Lib.hid (CA.out.up hb)
            replace CB := Lib.hid (CB.out.up hb)
            replace UA := Lib.hid (UA.out.up hb)
            replace UB := Lib.hid (UB.out.up hb)
            replace KE := Lib.hid (KE.out.up hb)
            generalize Fup F wr w221 = F61 at *
            clear hb
            refine Rg.list_run (some 16) rfl rfl (Rg.exec_assign (v := .int .i64 ((i : Nat) : Int)) _ rfl rfl) ?_
            go_frame
            go_upto_region 22 with (fail)
            have hV0 : Below w221.heap.size w221 w221.drew := (Below.refl _ _).drew
            replace HR := Lib.hid (HR.out.up hV0)
            replace CM := Lib.hid (CM.out.up hV0)
            replace CN1 := Lib.hid (CN1.out.up hV0)
            replace CN2 := Lib.hid (CN2.out.up hV0)
            replace CA := Lib.hid (CA.out.up hV0)
            replace CB := Lib.hid (CB.out.up hV0)
            replace UA := Lib.hid (UA.out.up hV0)
            replace UB := Lib.hid (UB.out.up hV0)
            replace KE := Lib.hid (KE.out.up hV0)
            generalize Fup F61 w221 w221.drew = F62 at *
            clear hV0
            refine Rg.Any.begin (S := Rg.Both 18 (fun W => Below w221.drew.heap.size w221.drew W) (fun _ => True)) mix ?_
            generalize w221.drew = w222 at *
            have hS : ∀ (l : Array Bool) W, Below w222.heap.size w222 W → Rg.Both 18 (fun W => Below w222.heap.size w222 W) (fun _ => True) l W := fun l W h => ⟨.inr h, trivial⟩
            have hS2 : ∀ (l : Array Bool) W, l.getD 18 false = true → Rg.Both 18 (fun W => Below w222.heap.size w222 W) (fun _ => True) l W := fun l W h => ⟨.inl h, trivial⟩
            have hI : Below w222.heap.size w222 w222 := Below.refl _ _
            have CB0 := CB
            refine Rg.Any.takeG (i := 0) (t := 18) (v := .slice (some ⟨g, 0, none⟩) (ll.length + ll.length) vc) (some 73) rfl rfl (by kernel_rfl) (by kernel_rfl) (by kernel_rfl) (fun _ _ _ h => h) rfl (.inl ⟨rfl, fun w _ => Rg.exec_move (v := .slice (some ⟨g, 0, none⟩) (ll.length + ll.length) vc) _ rfl rfl⟩) (hS _ _ hI) ?_
            go_frame
            refine Rg.Any.takeG (i := 1) (t := 18) (v := .int .i64 ((i : Nat) : Int)) (some 74) rfl rfl (by kernel_rfl) (by kernel_rfl) (by kernel_rfl) (fun _ _ _ h => h) rfl (.inl ⟨rfl, fun w _ => Rg.exec_move (v := .int .i64 ((i : Nat) : Int)) _ rfl rfl⟩) (hS _ _ hI) ?_
            go_frame
            refine Rg.Any.takeG (i := 2) (t := 18) (v := .slice (some ⟨g, 0, none⟩) (ll.length + ll.length) vc) (some 75) rfl rfl (by kernel_rfl) (by kernel_rfl) (by kernel_rfl) (fun _ _ _ h => h) rfl (.inl ⟨rfl, fun w _ => Rg.exec_move (v := .slice (some ⟨g, 0, none⟩) (ll.length + ll.length) vc) _ rfl rfl⟩) (hS _ _ hI) ?_
            go_frame
            refine Rg.Any.takeG (i := 3) (t := 18) (v := .int .i64 ((i : Nat) : Int)) (some 76) rfl rfl (by kernel_rfl) (by kernel_rfl) (by kernel_rfl) (fun _ _ _ h => h) rfl (.inl ⟨rfl, fun w _ => Rg.exec_move (v := .int .i64 ((i : Nat) : Int)) _ rfl rfl⟩) (hS _ _ hI) ?_
            go_frame
            refine Rg.Any.takeG (i := 4) (t := 18) (v := .pointer (some ⟨g, 0 + i, none⟩)) (some 77) rfl rfl (by kernel_rfl) (by kernel_rfl) (by kernel_rfl) (fun _ _ _ h => h) rfl (Rg.yields_index slPerms _ _ rfl rfl g (0) ((ll.length + ll.length)) vc (i) rfl rfl hiL) (hS _ _ hI) ?_
            go_frame
            refine Rg.Any.takeT (i := 5) (t := 18) (v := ua) (some 78) rfl rfl (by kernel_rfl) (by kernel_rfl) (by kernel_rfl) (fun _ _ _ h => h) rfl (by kernel_rfl) rfl (Rg.yields_cell _ _ rfl rfl ⟨g, 0 + i, none⟩ rfl (fun W hW => Rg.run_loadSl _ _ Try.underlying62 ((Below.cell (p := ⟨g, 0 + i, none⟩) hW CA.out.lt).trans CA.out.cell))) (hS _ _ hI) ?_
            go_frame
            refine Rg.Any.takeG (i := 6) (t := 18) (v := .slice (some ⟨g, 0, none⟩) (ll.length + ll.length) vc) (some 79) rfl rfl (by kernel_rfl) (by kernel_rfl) (by kernel_rfl) (fun _ _ _ h => h) rfl (.inl ⟨rfl, fun w _ => Rg.exec_move (v := .slice (some ⟨g, 0, none⟩) (ll.length + ll.length) vc) _ rfl rfl⟩) (hS _ _ hI) ?_
            go_frame
            refine Rg.Any.takeG (i := 7) (t := 18) (v := .func (.func 83) #[] #[.pointer (some ⟨mb, 0, none⟩)]) (some 80) rfl rfl (by kernel_rfl) (by kernel_rfl) (by kernel_rfl) (fun _ _ _ h => h) rfl (.inl ⟨rfl, fun w _ => Rg.exec_move (v := .func (.func 83) #[] #[.pointer (some ⟨mb, 0, none⟩)]) _ rfl rfl⟩) (hS _ _ hI) ?_
            go_frame
            refine Rg.Any.takeG (i := 8) (t := 18) (v := .slice (some ⟨nb, no, none⟩) nums.length nc) (some 81) rfl rfl (by kernel_rfl) (by kernel_rfl) (by kernel_rfl) (fun _ _ _ h => h) rfl (.inl ⟨rfl, fun w _ => Rg.exec_move (v := .slice (some ⟨nb, no, none⟩) nums.length nc) _ rfl rfl⟩) (hS _ _ hI) ?_
            go_frame
            refine Rg.Any.takeG (i := 9) (t := 18) (v := .int .i64 (((2 * k) : Nat) : Int)) (some 82) rfl rfl (by kernel_rfl) (by kernel_rfl) (by kernel_rfl) (fun _ _ _ h => h) rfl (.inl ⟨rfl, fun w _ => Rg.exec_move (v := .int .i64 (((2 * k) : Nat) : Int)) _ rfl rfl⟩) (hS _ _ hI) ?_
            go_frame
            refine Rg.Any.takeG (i := 10) (t := 18) (v := .int .i64 (((2 * k + 1) : Nat) : Int)) (some 83) rfl rfl (by kernel_rfl) (by kernel_rfl) (by kernel_rfl) (fun _ _ _ h => h) rfl (.inl ⟨rfl, fun w _ => exec_bin (R := .int .i64 (((2 * k + 1) : Nat) : Int)) .add _ _ _ rfl rfl rfl (b_add _ (by omega) (by omega))⟩) (hS _ _ hI) ?_
            go_frame
            refine Rg.Any.takeG (i := 11) (t := 18) (v := .pointer (some ⟨nb, no + (2 * k + 1), none⟩)) (some 84) rfl rfl (by kernel_rfl) (by kernel_rfl) (by kernel_rfl) (fun _ _ _ h => h) rfl (Rg.yields_index slInts _ _ rfl rfl nb (no) (nums.length) nc ((2 * k + 1)) rfl rfl (by omega)) (hS _ _ hI) ?_
            go_frame
            refine Rg.Any.takeT (i := 12) (t := 18) (v := .int .i64 nums[2 * k + 1]) (some 85) rfl rfl (by kernel_rfl) (by kernel_rfl) (by kernel_rfl) (fun _ _ _ h => h) rfl (by kernel_rfl) rfl (Rg.yields_cell _ _ rfl rfl ⟨nb, no + (2 * k + 1), none⟩ rfl (fun W hW => run_loadInt ((Below.cell (p := ⟨nb, no + (2 * k + 1), none⟩) hW CN2.out.lt).trans CN2.out.cell))) (hS _ _ hI) ?_
            go_frame
            refine Rg.Any.one (i := 13) (by kernel_rfl) (Rg.Any.ask (some 86) rfl rfl rfl _ _ (exec_fnc1 _ _ _ _ rfl rfl rfl (Ylcl4 _ _)) ?_)
            refine (mod_i hL0 hL1 CM.out hj).mono ?_
            rintro e1 w223 ⟨rfl, hb⟩
            have hI2_u := Rg.acc hI hb
            clear hI
            replace HR := Lib.hid (HR.out.up hb)
            replace CM := Lib.hid (CM.out.up hb)
            replace CN1 := Lib.hid (CN1.out.up hb)
            replace CN2 := Lib.hid (CN2.out.up hb)
            replace CA := Lib.hid (CA.out.up hb)
            replace CB := Lib.hid (CB.out.up hb)
            replace UA := Lib.hid (UA.out.up hb)
            replace UB := Lib.hid (UB.out.up hb)
            replace KE := Lib.hid (KE.out.up hb)
            generalize Fup F62 w222 w223 = F63 at *
            clear hb
            refine ⟨_, rfl, (hS _ _ hI2_u), ?_⟩
            go_frame
            refine Rg.Any.takeG (i := 14) (t := 18) (v := .pointer (some ⟨g, 0 + j, none⟩)) (some 87) rfl rfl (by kernel_rfl) (by kernel_rfl) (by kernel_rfl) (fun _ _ _ h => h) rfl (Rg.yields_index slPerms _ _ rfl rfl g (0) ((ll.length + ll.length)) vc (j) rfl rfl hjL) (hS _ _ hI2_u) ?_
            go_frame
            refine Rg.Any.takeT (i := 15) (t := 18) (v := ub) (some 88) rfl rfl (by kernel_rfl) (by kernel_rfl) (by kernel_rfl) (fun _ _ _ h => h) rfl (by kernel_rfl) rfl (Rg.yields_cell _ _ rfl rfl ⟨g, 0 + j, none⟩ rfl (fun W hW => Rg.run_loadSl _ _ Try.underlying62 ((Below.cell (p := ⟨g, 0 + j, none⟩) hW CB0.out.lt).trans CB0.out.cell))) (hS _ _ hI2_u) ?_
            go_frame
            refine Rg.Any.one (i := 16) (by kernel_rfl) (Rg.Any.ask (some 89) rfl rfl rfl _ _ (exec_fn 84 _ _ _ rfl rfl rfl (Ylcl8 _ _)) ?_)
            refine (chMul_f UA.out UB.out GA.out GB.out hn1 hn2).mono ?_
            rintro e1 w224 ⟨mv, rfl, hmv, hb⟩
            obtain ⟨mb1, mo, mc, rfl⟩ := hmv.shape' (Cm.gd_mul GA.out GB.out) hn1
            have hI3_u := Rg.acc hI2_u hb
            clear hI2_u
            replace HR := Lib.hid (HR.out.up hb)
            replace CM := Lib.hid (CM.out.up hb)
            replace CN1 := Lib.hid (CN1.out.up hb)
            replace CN2 := Lib.hid (CN2.out.up hb)
            replace CA := Lib.hid (CA.out.up hb)
            replace CB := Lib.hid (CB.out.up hb)
            replace UA := Lib.hid (UA.out.up hb)
            replace UB := Lib.hid (UB.out.up hb)
            replace KE := Lib.hid (KE.out.up hb)
            have XV := Lib.hid hmv
            generalize Fup F63 w223 w224 = F64 at *
            clear hb
            refine ⟨_, rfl, (hS _ _ hI3_u), ?_⟩
            go_frame
            refine Rg.Any.takeG (i := 17) (t := 18) (v := .pointer (some ⟨g, 0 + i, none⟩)) (some 90) rfl rfl (by kernel_rfl) (by kernel_rfl) (by kernel_rfl) (fun _ _ _ h => h) rfl (Rg.yields_index slPerms _ _ rfl rfl g (0) ((ll.length + ll.length)) vc (i) rfl rfl hiL) (hS _ _ hI3_u) ?_
            go_frame
            refine Rg.Any.one (i := 18) (by kernel_rfl) (Rg.Any.runSkip none rfl rfl rfl (Rg.exec_store _ _ _ rfl _ rfl _ rfl (Rg.run_storeSl _ infoPerm CA.out.cell (HR.out.rw.frozen HSK.out.symm _))) (hS2 _ _ rfl) ?_)
            go_frame
            refine Rg.Any.done (by kernel_rfl) ?_ _
            clear hS2
            clear hS hI3_u
            obtain ⟨hr2, hkf2⟩ := HR.out.set HSK.out.symm (0 + i) XV.out
            have hkp2 : Rg.Kp (fun z => z = g) w224 (w224.setCell ⟨g, 0 + i, none⟩ (.slice (some ⟨mb1, mo, none⟩) n mc)) := Rg.Kp.of_setCell rfl
            have K2 := Lib.hid (KE.out.kf' hkf2)
            have XV2 := Lib.hid (XV.out.kf hkf2)
            have CM2 := Lib.hid (CM.out.kp hkp2 (fun e => (HR.out.rw.off g rfl).2 (e ▸ HMB.out)))
            have CA2 := Lib.hid (CL.mk (World.cell?_setCell_same (v := .slice (some ⟨mb1, mo, none⟩) n mc) (h := CA.out.cell) ..) (Nat.lt_of_lt_of_le CA.out.lt hkp2.size))
            have HR2 := Lib.hid hr2
            generalize w224.setCell ⟨g, 0 + i, none⟩ (.slice (some ⟨mb1, mo, none⟩) n mc) = w250 at *
            clear hr2 hkp2 hkf2 hmv HR KE XV CA CM CB UA UB CN1 CN2
            go_upto_region 23 with (fail)
            have hV0 : Below w250.heap.size w250 w250.drew := (Below.refl _ _).drew
            replace HR2 := Lib.hid (HR2.out.up hV0)
            replace XV2 := Lib.hid (XV2.out.up hV0)
            replace CA2 := Lib.hid (CA2.out.up hV0)
            replace CM2 := Lib.hid (CM2.out.up hV0)
            replace K2 := Lib.hid (K2.out.up hV0)
            generalize Fup F64 w250 w250.drew = F81 at *
            clear hV0
            refine Rg.Any.begin (S := Rg.Both 7 (fun W => Below w250.drew.heap.size w250.drew W) (fun _ => True)) mix ?_
            generalize w250.drew = w251 at *
            have hS : ∀ (l : Array Bool) W, Below w251.heap.size w251 W → Rg.Both 7 (fun W => Below w251.heap.size w251 W) (fun _ => True) l W := fun l W h => ⟨.inr h, trivial⟩
            have hS2 : ∀ (l : Array Bool) W, l.getD 7 false = true → Rg.Both 7 (fun W => Below w251.heap.size w251 W) (fun _ => True) l W := fun l W h => ⟨.inl h, trivial⟩
            have hI : Below w251.heap.size w251 w251 := Below.refl _ _
            refine Rg.Any.takeT (i := 0) (t := 7) (v := .slice none 0 0) (some 91) rfl rfl (by kernel_rfl) (by kernel_rfl) (by kernel_rfl) (fun _ _ _ h => h) rfl (by kernel_rfl) rfl (Rg.yields_cell _ _ rfl rfl ⟨w21.heap.size, 0, none⟩ rfl (fun W hW => Rg.run_loadSl _ _ Try.underlying22 ((Below.cell (p := ⟨w21.heap.size, 0, none⟩) hW HR2.out.cq.lt).trans HR2.out.cq.c))) (hS _ _ hI) ?_
            go_frame
            refine Rg.Any.takeG (i := 1) (t := 7) (v := .slice (some ⟨g, 0, none⟩) (ll.length + ll.length) vc) (some 92) rfl rfl (by kernel_rfl) (by kernel_rfl) (by kernel_rfl) (fun _ _ _ h => h) rfl (.inl ⟨rfl, fun w _ => Rg.exec_move (v := .slice (some ⟨g, 0, none⟩) (ll.length + ll.length) vc) _ rfl rfl⟩) (hS _ _ hI) ?_
            go_frame
            refine Rg.Any.takeG (i := 2) (t := 7) (v := .int .i64 ((i : Nat) : Int)) (some 93) rfl rfl (by kernel_rfl) (by kernel_rfl) (by kernel_rfl) (fun _ _ _ h => h) rfl (.inl ⟨rfl, fun w _ => Rg.exec_move (v := .int .i64 ((i : Nat) : Int)) _ rfl rfl⟩) (hS _ _ hI) ?_
            go_frame
            refine Rg.Any.takeG (i := 3) (t := 7) (v := .pointer (some ⟨g, 0 + i, none⟩)) (some 94) rfl rfl (by kernel_rfl) (by kernel_rfl) (by kernel_rfl) (fun _ _ _ h => h) rfl (Rg.yields_index slPerms _ _ rfl rfl g (0) ((ll.length + ll.length)) vc (i) rfl rfl hiL) (hS _ _ hI) ?_
            go_frame
            refine Rg.Any.takeT (i := 4) (t := 7) (v := .slice (some ⟨mb1, mo, none⟩) n mc) (some 95) rfl rfl (by kernel_rfl) (by kernel_rfl) (by kernel_rfl) (fun _ _ _ h => h) rfl (by kernel_rfl) rfl (Rg.yields_cell _ _ rfl rfl ⟨g, 0 + i, none⟩ rfl (fun W hW => Rg.run_loadSl _ _ Try.underlying62 ((Below.cell (p := ⟨g, 0 + i, none⟩) hW CA2.out.lt).trans CA2.out.cell))) (hS _ _ hI) ?_
            go_frame
            obtain ⟨a9, c9, X9, r1, r2, r3, r4⟩ := HR2.out.fill XV2.out ⟨_, _, _, rfl⟩ 22
            have hI4_m := Rg.acc hI (r2)
            refine Rg.Any.one (i := 5) (by kernel_rfl) (Rg.Any.run (some 96) rfl rfl rfl (Rg.exec_buildSlice _ _ _ rfl (.slice (some ⟨mb1, mo, none⟩) n mc) rfl (run_build1P w251 _ ⟨_, _, _, rfl⟩)) (hS _ _ hI4_m) ?_)
            go_frame
            have hI5_m := Rg.acc hI4_m (r3)
            refine Rg.Any.one (i := 6) (by kernel_rfl) (Rg.Any.run (some 97) rfl rfl rfl (Rg.exec_append _ _ _ rfl rfl rfl r1) (hS _ _ hI5_m) ?_)
            go_frame
            have r23 := Rg.acc r2 r3
            refine Rg.Any.one (i := 7) (by kernel_rfl) (Rg.Any.runSkip none rfl rfl rfl (Rg.exec_store _ _ _ rfl _ rfl _ rfl (Rg.run_storeSl _ infoPermsV (HR2.out.cq.below r23).c (HR2.out.cq.below r23).f)) (hS2 _ _ rfl) ?_)
            go_frame
            refine Rg.Any.done (by kernel_rfl) ?_ _
            clear hS2
            clear hS hI5_m
            have HR3 := HR2.out.below r23
            obtain ⟨t1, t2, t3, t4, t5, hkq, hkf3⟩ := HR3.wait r4
            have RX := Lib.hid t1
            have HT3 := Lib.hid t2
            have CP3 := Lib.hid t3
            have CQ3 := Lib.hid t4
            have RL3 := Lib.hid t5
            have HNF3 := Lib.hid HR3.nF
            have HLT3 := Lib.hid (show ∀ k, M4 k → k < (X9.setCell ⟨w21.heap.size, 0, none⟩ (.slice a9 1 c9)).heap.size from fun k hk => Nat.lt_of_lt_of_le (HR3.lt k hk) hkq.size)
            have HMT := Lib.hid HR3.mt
            have HMP := Lib.hid HR3.mp
            have HMQ := Lib.hid HR3.mq
            have K3 := Lib.hid ((K2.out.bel r23).kf' hkf3)
            have CM3 := Lib.hid ((CM2.out.below r23).kp hkq HMN.out.2)
            generalize X9.setCell ⟨w21.heap.size, 0, none⟩ (.slice a9 1 c9) = w270 at *
            clear t1 t2 t3 t4 t5 hkq hkf3 HR3 r1 r2 r3 r4 r23 HR2 XV2 CA2 CM2 K2
            have HGX := Lib.hid (show ∀ x ∈ [(Ma.mulN (st.1[i]'HIL.out) (st.1[j]'HJL.out))], Cm.Gr n (· ∈ gs) x from fun x hx => by
              rw [List.mem_singleton] at hx
              subst hx
              exact .mul _ _ (HRI.out.gr _ (List.getElem_mem HIL.out)) (HRI.out.gr _ (List.getElem_mem HJL.out)))
            go_upto_region 24 with (fail)
            refine wp_region_list ?_
            refine Rg.list_run (some 98) rfl rfl (Rg.exec_move (v := .func (.func 80) #[] #[.pointer (some ⟨w21.heap.size, 0, none⟩), .pointer (some ⟨w3.heap.size, 0, none⟩)]) _ rfl rfl) ?_
            go_frame
            refine list_ask (some 99) rfl rfl _ _ (exec_fnc0 _ _ _ rfl rfl (Ylcl2 _ _)) ?_
            refine (chDrain_any (m := m') HGD.out hn1 hn2 (by have := HM'.out; omega) HT3.out HLK.out HGX.out (RX.out.less fun k e => e ▸ HMT.out) (by simp) CP3.out CQ3.out HNE.out.1 HNE.out.2.1 (HNF3.out _ HMQ.out)).mono ?_
            rintro e1 w271 ⟨F6, V6, m6, rfl, hki, hpt6, hm6, hcq6, htl6⟩
            have hrs6 := RS.drained HT3.out RL3.out CP3.out HNF3.out HLT3.out HMT.out HMP.out HMQ.out HNE.out.1 HNE.out.2.1 HNE.out.2.2 hki hpt6 hcq6
            have hcm6 := CM3.out.kp hki.kp (by rintro (e | e); exact HMN.out.1 e; exact HMN.out.2 e)
            have hkg := hki.kg
            have HM6 := Lib.hid (show m6 ≤ 16 + (k + 1) by have := HM'.out; simp at hm6; omega)
            clear hki hpt6 hm6 hcq6 htl6 HLT3 HNF3
            refine ⟨_, rfl, ?_⟩
            go_frame
            clear HT3
            clear CP3
            clear CQ3
            clear RX
            clear RL3
            clear CM3
            replace K3 := Lib.hid (K3.out.trans hkg)
            have HR6 := Lib.hid hrs6
            have CM6 := Lib.hid hcm6
            clear hkg
            clear hrs6 hcm6
            have hst2 : stR n st0 nums (k + 1) = (st.1.set i (Ma.mulN (st.1[i]'HIL.out) (st.1[j]'HJL.out)), ins1 n st.2 (Ma.mulN (st.1[i]'HIL.out) (st.1[j]'HJL.out))) := by
              show stepR n (stR n st0 nums k) _ _ = _
              have e1 : nums.getD (2 * k) 0 = nums[2 * k] := by rw [List.getD_eq_getElem?_getD, List.getElem?_eq_getElem (by omega)]; rfl
              have e2 : nums.getD (2 * k + 1) 0 = nums[2 * k + 1] := by rw [List.getD_eq_getElem?_getD, List.getElem?_eq_getElem (by omega)]; rfl
              rw [hst.out, e1, e2]
              exact stepR_eq HSK.out hi.out hj.out HIL.out HJL.out
            have HR7 := Lib.hid (show RS M4 F6 w2.heap.size w3.heap.size w21.heap.size n w271 (stR n st0 nums (k + 1)).2 m6 V6 (.slice (some ⟨g, 0, none⟩) (ll.length + ll.length) vc) (stR n st0 nums (k + 1)).1 by
              rw [hst2]
              have := HR6.out
              rw [Nat.zero_add] at this
              exact this)
            clear hst2 HR6
            go_wp2
            go_roundw
            case rel => exact ⟨k + 1, m6, _, _, by go_num, by omega, fun e => absurd e hge, HM6, HR7, CM6, K3⟩
            case measure => simp [intOf]; omega
          case neg =>
            have HEND := Lib.hid (show (stR n st0 nums k).2 = endR n gs nums by unfold endR stepsR; rw [if_neg hge, hst0.out, show nums.length / 2 = k by omega])
            go_upto_region 19 with (fail)
            refine wp_region_list ?_
            refine Rg.list_run (some 56) rfl rfl (Rg.exec_load (v := .int .i64 (((ll.length + ll.length) : Nat) : Int)) _ _ rfl ⟨mb, 0, none⟩ rfl (run_loadInt CM.out.c)) ?_
            go_frame
            refine Rg.list_run (some 57) rfl rfl (exec_bin (R := .bool true) .gtr _ _ _ rfl rfl rfl (b_gtr _ (decide_eq_true (by omega)))) ?_
            go_frame
            refine Rg.list_run (some 58) rfl rfl (Rg.exec_move (v := .bool true) _ rfl rfl) ?_
            go_frame
            refine listW_run (some 59) rfl rfl (Rg.exec_move (v := .int .i64 (((2 * k) : Nat) : Int)) _ rfl rfl) ?_
            go_frame
            refine listW_run (some 60) rfl rfl (exec_bin (R := .int .i64 (((2 * k + 1) : Nat) : Int)) .add _ _ _ rfl rfl rfl (b_add _ (by omega) (by omega))) ?_
            go_frame
            refine listW_run (some 61) rfl rfl (Rg.exec_move (v := .slice na nums.length nc) _ rfl rfl) ?_
            go_frame
            refine listW_run (some 62) rfl rfl (exec_len _ _ _ rfl Try.underlying33 _ _ _ rfl) ?_
            go_frame
            refine listW_run (some 63) rfl rfl (exec_bin (R := .bool false) .lss _ _ _ rfl rfl rfl (b_lss _ (decide_eq_false (by omega)))) ?_
            go_frame
            refine Rg.list_run (some 64) rfl rfl (exec_pickT (v := .bool false) _ _ _ rfl rfl rfl) ?_
            go_frame
            rw [HEND.out] at HR
            have HRI := Lib.hid (endR_ok HGD.out nums)
            obtain ⟨lE, hlE, _⟩ := HRI.out.tl
            have OKE := Lib.hid hlE.ok
            have HT := Lib.hid HR.out.ht
            have CP := Lib.hid HR.out.cp
            clear hlE HR
            have HM7 := Lib.hid (show m' < 1000000000000 by have := HM'.out; omega)
            go_upto_region 25 with (fail)
            refine wp_region_list ?_
            refine Rg.list_run (some 100) rfl rfl (Rg.exec_load (v := .pointer (some ⟨w2.heap.size, 0, none⟩)) _ _ rfl ⟨w3.heap.size, 0, none⟩ rfl (Rg.run_loadPtr _ _ Try.underlying108 CP.out.c)) ?_
            go_frame
            refine list_ask (some 101) rfl rfl _ _ (exec_fn1 85 _ _ rfl rfl (Ylcl5 _ _)) ?_
            refine (pclosed_any hn1 hn2 HM7.out HT.out OKE.out.rp).mono ?_
            rintro e1 w351 ⟨bC, rfl, hbc, hb⟩
            have HBC := Lib.hid hbc
            clear hbc
            refine ⟨_, rfl, ?_⟩
            go_frame
            replace HT := Lib.hid (HT.out.below hb)
            replace CP := Lib.hid (CP.out.below hb)
            replace KE := Lib.hid (KG.bel KE.out hb)
            clear hb
            refine Rg.list_run (some 102) rfl rfl (exec_not _ _ bC rfl rfl) ?_
            go_frame
            have hbk : Below w2.heap.size w2 w351 := KE.out.kf.below (Nat.le_refl _) (fun _ h => h)
            have FT := Lib.hid (FT0.out.below hbk)
            have G9 := Lib.hid (G0.out.below hbk)
            have K := Lib.hid (show Below w.heap.size w w351 from (KB.out.trans (hbk.mono KB.out.size)))
            clear hbk KE
            cases bC with
            | false =>
              have HNC := Lib.hid (show ¬ PClosed n (endR n gs nums) from fun h => by have := HBC.out.2 h; cases this)
              have HRC := Lib.hid (show rndc ((n : Nat) : Int) ll nums = 13 by rw [HLL.out]; exact rndc_no (by rw [← HLL.out]; exact HZ.out) HLG.out HNC.out)
              go_upto_region 26 with (fail)
              refine wp_region_list ?_
              refine Rg.list_run (some 103) rfl rfl (exec_buildC0 rfl) ?_
              go_frame
              refine Rg.list_skip none rfl rfl (Rg.exec_store _ _ _ rfl _ rfl _ rfl (run_storeC _ _ _ _ _ _ _ FT.out)) ?_
              go_frame
              refine Rg.list_run (some 5) rfl rfl (Rg.exec_assign (v := .int .i64 ((13 : Nat) : Int)) _ rfl rfl) ?_
              go_frame
              have htt := FT.out.set (.int .i64 0) (.slice none 0 0) (.slice none 0 0)
              have hkf := ((K.out.setCell (p := ⟨w0.heap.size, 0, none⟩) HW0.out (.int .i64 0)).setCell (p := ⟨w0.heap.size, 1, none⟩) HW0.out (.slice none 0 0)).setCell (p := ⟨w0.heap.size, 2, none⟩) HW0.out (.slice none 0 0)
              generalize ((w351.setCell ⟨w0.heap.size, 0, none⟩ (.int .i64 0)).setCell ⟨w0.heap.size, 1, none⟩ (.slice none 0 0)).setCell ⟨w0.heap.size, 2, none⟩ (.slice none 0 0) = w99 at *
              have HTT := Lib.hid htt
              have HFI := Lib.hid (show RndPost ((n : Nat) : Int) ll nums w (.returned (.tuple #[zeroC, .int .i64 13])) w99 from
                ⟨_, by rw [HRC.out], .inl ⟨by rw [HRC.out]; decide, rfl⟩, hkf⟩)
              clear htt hkf
              go_wp2
              exact bodyPost_ret (results_cellC2 (p := 4) (u := 5) rfl _ rfl rfl HTT.out) rfl HFI.out
            | true =>
              have HPC := Lib.hid (HBC.out.1 rfl)
              have HRC := Lib.hid (show rndc ((n : Nat) : Int) ll nums = 0 by rw [HLL.out]; exact rndc_yes (by rw [← HLL.out]; exact HZ.out) HLG.out HPC.out)
              clear HT CP
              go_upto_region 27 with (fail)
              refine wp_region_list ?_
              refine Rg.list_run (some 104) rfl rfl (exec_fieldG0 _ rfl rfl) ?_
              go_frame
              refine Rg.list_run (some 105) rfl rfl (Rg.exec_load (v := .int .i64 ((n : Nat) : Int)) _ _ rfl ⟨w.heap.size, 0, none⟩ rfl (run_loadInt G9.out.c0)) ?_
              go_frame
              refine Rg.list_run (some 106) rfl rfl (exec_fieldG _ rfl rfl) ?_
              go_frame
              refine Rg.list_run (some 107) rfl rfl (Rg.exec_load (v := .slice ga ll.length gc) _ _ rfl ⟨w.heap.size, 1, none⟩ rfl (Rg.run_loadSl _ _ Try.underlying22 G9.out.c1)) ?_
              go_frame
              have HWB := Lib.hid FT.out.lt
              refine list_ask (some 108) rfl rfl _ _ (exec_fn 73 _ _ _ rfl rfl rfl (Ylcl6 _ _)) ?_
              refine (build_b hn1 hn2 (by have := G9.out.rows; rw [show gs.map Ma.ofN = ll from HLL.out.symm]; exact this) HGD.out (by have := HGL.out; have := HL16.out; omega)).mono ?_
              rintro e1 w352 ⟨tb, L, F1, T1, V1, rfl, hT1, hc01, hc11, hB1, hb⟩
              have HB := Lib.hid hB1
              have HWC := Lib.hid (Nat.lt_of_lt_of_le HWB.out hb.size)
              refine ⟨_, rfl, ?_⟩
              go_frame
              replace FT := Lib.hid (FT.out.below hb)
              replace G9 := Lib.hid (G9.out.below hb)
              replace K := Lib.hid (Rg.acc K.out hb)
              clear hb
              have HT := Lib.hid hT1
              have C0 := Lib.hid hc01
              have C1 := Lib.hid hc11
              clear hT1 hc01 hc11 hB1
              refine list_ask (some 109) rfl rfl _ _ (exec_fn1 74 _ _ rfl rfl (Ylcl7 _ _)) ?_
              refine (chain_any hn1 hn2 HT.out C0.out C1.out (Cm.Gr.isG HGD.out) (HB.out.isTr (by omega) HGD.out) (fun j hj => (HB.out.full j hj).1)).mono ?_
              rintro e1 w353 ⟨ov, rv, O, R, rfl, hO, hR, hCh, hb⟩
              obtain ⟨oa, oc, rfl, _⟩ := hO.rows.shape
              obtain ⟨ra, rc, rfl⟩ := hR.rows.shape
              have HO := Lib.hid hO
              have HR := Lib.hid hR
              have HCH := Lib.hid hCh
              clear hO hR hCh
              refine ⟨_, rfl, ?_⟩
              go_frame
              replace FT := Lib.hid (FT.out.below hb)
              replace G9 := Lib.hid (G9.out.below hb)
              replace HT := Lib.hid (HT.out.below hb)
              replace C0 := Lib.hid (C0.out.below hb)
              replace C1 := Lib.hid (C1.out.below hb)
              replace K := Lib.hid (Rg.acc K.out hb)
              clear hb
              refine Rg.list_skip none rfl rfl (Rg.exec_store _ _ _ rfl _ rfl _ rfl (run_storeC _ _ _ _ _ _ _ FT.out)) ?_
              go_frame
              refine Rg.list_run (some 5) rfl rfl (Rg.exec_assign (v := .int .i64 ((0 : Nat) : Int)) _ rfl rfl) ?_
              go_frame
              have htt := FT.out.set (.int .i64 ((n : Nat) : Int)) (.slice oa (O.map Ma.ofN).length oc) (.slice ra (R.map (List.map Ma.ofN)).length rc)
              have hkt := Rg.Kp.trans (Rg.Kp.trans (Rg.Kp.of_setCell (M := fun z => z = w0.heap.size) (w := w353) (a := ⟨w0.heap.size, 0, none⟩) (v := .int .i64 ((n : Nat) : Int)) rfl) (Rg.Kp.of_setCell (M := fun z => z = w0.heap.size) (a := ⟨w0.heap.size, 1, none⟩) (v := (.slice oa (O.map Ma.ofN).length oc)) rfl) (fun _ _ e => e)) (Rg.Kp.of_setCell (M := fun z => z = w0.heap.size) (a := ⟨w0.heap.size, 2, none⟩) (v := (.slice ra (R.map (List.map Ma.ofN)).length rc)) rfl) (fun _ _ e => e)
              have hro := FRows.kp HO.out hkt (fun z g e => by have := HWC.out; omega)
              have hrr := HR.out.kp hkt (fun z g e => by have := HWC.out; omega)
              have hkf := ((K.out.setCell (p := ⟨w0.heap.size, 0, none⟩) HW0.out (.int .i64 ((n : Nat) : Int))).setCell (p := ⟨w0.heap.size, 1, none⟩) HW0.out (.slice oa (O.map Ma.ofN).length oc)).setCell (p := ⟨w0.heap.size, 2, none⟩) HW0.out (.slice ra (R.map (List.map Ma.ofN)).length rc)
              generalize ((w353.setCell ⟨w0.heap.size, 0, none⟩ (.int .i64 ((n : Nat) : Int))).setCell ⟨w0.heap.size, 1, none⟩ (.slice oa (O.map Ma.ofN).length oc)).setCell ⟨w0.heap.size, 2, none⟩ (.slice ra (R.map (List.map Ma.ofN)).length rc) = w99 at *
              have HTT := Lib.hid htt
              have HFI := Lib.hid (show RndPost ((n : Nat) : Int) ll nums w (.returned (.tuple #[.agg #[.int .i64 ((n : Nat) : Int), (.slice oa (O.map Ma.ofN).length oc), (.slice ra (R.map (List.map Ma.ofN)).length rc)], .int .i64 0])) w99 from
                ⟨_, by rw [HRC.out], .inr ⟨HRC.out, n, gs, rfl, HLL.out, hn1, hn2, _, _, O, R, rfl, FRows.rows hro, hrr.rows, HCH.out⟩, hkf⟩)
              clear htt hkt hro hrr hkf
              go_wp2
              exact bodyPost_ret (results_cellC2 (p := 4) (u := 5) rfl _ rfl rfl HTT.out) rfl HFI.out
end Go.Proofs.Ytojbijkljnohoaa

/-! The law ChainRandoms. -/
namespace Go.Proofs.Ytojbijkljnohoaa
open Go.RowKit
open Go.Proofs
open Go.Proofs.Ob
attribute [local irreducible] Go.Calls Go.wpList

theorem Zacl0 (args : Array Value) (w : World) : (callFunc 29 args).run Try.prog w = .ok (.enter 29 args) w := by kernel_rfl
theorem Zacl1 (args : Array Value) (w : World) : (callFunc 30 args).run Try.prog w = .ok (.enter 30 args) w := by kernel_rfl
theorem Zacl2 (args : Array Value) (w : World) : (callFunc 36 args).run Try.prog w = .ok (.enter 36 args) w := by kernel_rfl
theorem Zacl3 (args : Array Value) (w : World) : (callFunc 37 args).run Try.prog w = .ok (.enter 37 args) w := by kernel_rfl
theorem Zacl4 (args : Array Value) (w : World) : (callFunc 35 args).run Try.prog w = .ok (.enter 35 args) w := by kernel_rfl
set_option maxRecDepth 100000 in
set_option maxHeartbeats 8000000 in
theorem ChainRandoms_any (gv : Value) (d : Int) (ll : List (List Int)) (nv : Value) (nums : List Int) (w : World) (h : Rg.RowsB maxLen w gv ll) (hnu : Rg.IntsB maxLen w nv nums) :
    Calls Try.prog 6 #[.agg #[.int .i64 d, gv], nv] w fun e w' => e = .returned (.bool true) ∧ Below w.heap.size w w' := by
  obtain ⟨ga, gc, rfl, _⟩ := h.shape
  obtain ⟨na, nc, rfl, _⟩ := hnu.shape
  have H := Lib.hid h
  have N := Lib.hid hnu
  have hbx := box2 w (.int .i64 d) (.slice ga ll.length gc)
  clear h hnu
  go_enter Try.func6, Try.ntmps6
  go_upto_region 0 with (fail)
  refine wp_region_list ?_
  refine Rg.list_run (some 2) rfl rfl (Rg.exec_box _ _ rfl rfl) ?_
  go_frame
  have hb : Below w.heap.size w (w.alloc (.cells #[.int .i64 d, .slice ga ll.length gc] 24)) := (Below.refl _ _).alloc (Nat.le_refl _) _
  generalize w.alloc (.cells #[.int .i64 d, .slice ga ll.length gc] 24) = w1 at *
  have A0 := Lib.hid hbx.1
  have A1 := Lib.hid hbx.2
  have K := Lib.hid hb
  replace H := Lib.hid (RowsB.low H.out hb)
  replace N := Lib.hid (Rg.IntsB.below N.out hb)
  clear hbx hb
  refine Rg.list_run (some 4) rfl rfl (Rg.exec_assign (v := .bool false) _ rfl rfl) ?_
  go_frame
  obtain ⟨bl, hbl⟩ : ∃ b, Hid (bg d ll = b) := ⟨_, Lib.hid rfl⟩
  cases bl with
  | true =>
    go_upto_region 1 with (fail)
    refine wp_region_list ?_
    refine Rg.list_run (some 9) rfl rfl (Rg.exec_load (v := .agg #[.int .i64 d, .slice ga ll.length gc]) _ _ rfl ⟨w.heap.size, 0, none⟩ rfl (run_loadG A0.out.cell A1.out.cell)) ?_
    go_frame
    refine list_ask (some 10) rfl rfl _ _ (exec_fn1 29 _ _ rfl rfl (Zacl0 _ _)) ?_
    refine (big08_any _ d ll w1 H.out).mono ?_
    rintro e1 w2 ⟨rfl, hb⟩
    rw [hbl.out]
    refine ⟨_, rfl, ?_⟩
    go_frame
    replace A0 := Lib.hid (A0.out.below hb)
    replace A1 := Lib.hid (A1.out.below hb)
    replace H := Lib.hid (H.out.below hb)
    replace N := Lib.hid (N.out.below hb)
    replace K := Lib.hid (Rg.acc K.out hb)
    clear hb
    refine Rg.list_run (some 11) rfl rfl (Rg.exec_move (v := .bool true) _ rfl rfl) ?_
    go_frame
    refine listW_pass (some 12) (by kernel_rfl) rfl ?_
    go_frame
    refine listW_pass (some 13) (by kernel_rfl) rfl ?_
    go_frame
    refine listW_pass (some 14) (by kernel_rfl) rfl ?_
    go_frame
    refine listW_pass (some 15) (by kernel_rfl) rfl ?_
    go_frame
    refine listW_pass (some 16) (by kernel_rfl) rfl ?_
    go_frame
    refine listW_pass (some 17) (by kernel_rfl) rfl ?_
    go_frame
    refine listW_pass (some 18) (by kernel_rfl) rfl ?_
    go_frame
    refine listW_pass (some 19) (by kernel_rfl) rfl ?_
    go_frame
    refine Rg.list_run (some 20) rfl rfl (exec_pickT (v := .bool true) _ _ _ rfl rfl rfl) ?_
    go_frame
    refine Rg.list_run (some 21) rfl rfl (Rg.exec_move (v := .bool true) _ rfl rfl) ?_
    go_frame
    refine listW_pass (some 22) (by kernel_rfl) rfl ?_
    go_frame
    refine listW_pass (some 23) (by kernel_rfl) rfl ?_
    go_frame
    refine listW_pass (some 24) (by kernel_rfl) rfl ?_
    go_frame
    refine Rg.list_run (some 25) rfl rfl (exec_pickT (v := .bool true) _ _ _ rfl rfl rfl) ?_
    go_frame
    go_upto_region 2 with (fail)
    refine wp_region_list ?_
    refine list_ask (some 26) rfl rfl _ _ (exec_fn0 30 _ rfl (Zacl1 _ _)) ?_
    refine (awake08_any w2).mono ?_
    rintro e1 w3 ⟨rfl, hb⟩
    refine ⟨_, rfl, ?_⟩
    go_frame
    replace A0 := Lib.hid (A0.out.below hb)
    replace A1 := Lib.hid (A1.out.below hb)
    replace H := Lib.hid (H.out.below hb)
    replace N := Lib.hid (N.out.below hb)
    replace K := Lib.hid (Rg.acc K.out hb)
    clear hb
    refine Rg.list_run (some 4) rfl rfl (Rg.exec_assign (v := .bool true) _ rfl rfl) ?_
    go_frame
    go_wp2
    go_ret
    exact ⟨rfl, K.out⟩
  | false =>
    by_cases hd1 : 8 < d
    · by_cases hd2 : d ≤ 64
      · skip
        go_upto_region 1 with (fail)
        refine wp_region_list ?_
        refine Rg.list_run (some 9) rfl rfl (Rg.exec_load (v := .agg #[.int .i64 d, .slice ga ll.length gc]) _ _ rfl ⟨w.heap.size, 0, none⟩ rfl (run_loadG A0.out.cell A1.out.cell)) ?_
        go_frame
        refine list_ask (some 10) rfl rfl _ _ (exec_fn1 29 _ _ rfl rfl (Zacl0 _ _)) ?_
        refine (big08_any _ d ll w1 H.out).mono ?_
        rintro e1 w2 ⟨rfl, hb⟩
        rw [hbl.out]
        refine ⟨_, rfl, ?_⟩
        go_frame
        replace A0 := Lib.hid (A0.out.below hb)
        replace A1 := Lib.hid (A1.out.below hb)
        replace H := Lib.hid (H.out.below hb)
        replace N := Lib.hid (N.out.below hb)
        replace K := Lib.hid (Rg.acc K.out hb)
        clear hb
        refine Rg.list_run (some 11) rfl rfl (Rg.exec_move (v := .bool false) _ rfl rfl) ?_
        go_frame
        refine listW_run (some 12) rfl rfl (exec_fieldG0 _ rfl rfl) ?_
        go_frame
        refine listW_run (some 13) rfl rfl (Rg.exec_load (v := .int .i64 d) _ _ rfl ⟨w.heap.size, 0, none⟩ rfl (run_loadInt A0.out.cell)) ?_
        go_frame
        refine listW_run (some 14) rfl rfl (exec_bin (R := .bool true) .gtr _ _ _ rfl rfl rfl (b_gtr _ (decide_eq_true (by omega)))) ?_
        go_frame
        refine listW_run (some 15) rfl rfl (Rg.exec_move (v := .bool true) _ rfl rfl) ?_
        go_frame
        refine listW_run (some 16) rfl rfl (exec_fieldG0 _ rfl rfl) ?_
        go_frame
        refine listW_run (some 17) rfl rfl (Rg.exec_load (v := .int .i64 d) _ _ rfl ⟨w.heap.size, 0, none⟩ rfl (run_loadInt A0.out.cell)) ?_
        go_frame
        refine listW_run (some 18) rfl rfl (exec_bin (R := .bool true) .leq _ _ _ rfl rfl rfl (b_leq _ (decide_eq_true (by omega)))) ?_
        go_frame
        refine listW_run (some 19) rfl rfl (exec_pickT (v := .bool true) _ _ _ rfl rfl rfl) ?_
        go_frame
        refine Rg.list_run (some 20) rfl rfl (exec_pickF (v := .bool true) _ _ _ rfl rfl rfl) ?_
        go_frame
        refine Rg.list_run (some 21) rfl rfl (Rg.exec_move (v := .bool true) _ rfl rfl) ?_
        go_frame
        refine listW_pass (some 22) (by kernel_rfl) rfl ?_
        go_frame
        refine listW_pass (some 23) (by kernel_rfl) rfl ?_
        go_frame
        refine listW_pass (some 24) (by kernel_rfl) rfl ?_
        go_frame
        refine Rg.list_run (some 25) rfl rfl (exec_pickT (v := .bool true) _ _ _ rfl rfl rfl) ?_
        go_frame
        go_upto_region 2 with (fail)
        refine wp_region_list ?_
        refine list_ask (some 26) rfl rfl _ _ (exec_fn0 30 _ rfl (Zacl1 _ _)) ?_
        refine (awake08_any w2).mono ?_
        rintro e1 w3 ⟨rfl, hb⟩
        refine ⟨_, rfl, ?_⟩
        go_frame
        replace A0 := Lib.hid (A0.out.below hb)
        replace A1 := Lib.hid (A1.out.below hb)
        replace H := Lib.hid (H.out.below hb)
        replace N := Lib.hid (N.out.below hb)
        replace K := Lib.hid (Rg.acc K.out hb)
        clear hb
        refine Rg.list_run (some 4) rfl rfl (Rg.exec_assign (v := .bool true) _ rfl rfl) ?_
        go_frame
        go_wp2
        go_ret
        exact ⟨rfl, K.out⟩
      · by_cases hl : 1010 < nums.length
        · skip
          go_upto_region 1 with (fail)
          refine wp_region_list ?_
          refine Rg.list_run (some 9) rfl rfl (Rg.exec_load (v := .agg #[.int .i64 d, .slice ga ll.length gc]) _ _ rfl ⟨w.heap.size, 0, none⟩ rfl (run_loadG A0.out.cell A1.out.cell)) ?_
          go_frame
          refine list_ask (some 10) rfl rfl _ _ (exec_fn1 29 _ _ rfl rfl (Zacl0 _ _)) ?_
          refine (big08_any _ d ll w1 H.out).mono ?_
          rintro e1 w2 ⟨rfl, hb⟩
          rw [hbl.out]
          refine ⟨_, rfl, ?_⟩
          go_frame
          replace A0 := Lib.hid (A0.out.below hb)
          replace A1 := Lib.hid (A1.out.below hb)
          replace H := Lib.hid (H.out.below hb)
          replace N := Lib.hid (N.out.below hb)
          replace K := Lib.hid (Rg.acc K.out hb)
          clear hb
          refine Rg.list_run (some 11) rfl rfl (Rg.exec_move (v := .bool false) _ rfl rfl) ?_
          go_frame
          refine listW_run (some 12) rfl rfl (exec_fieldG0 _ rfl rfl) ?_
          go_frame
          refine listW_run (some 13) rfl rfl (Rg.exec_load (v := .int .i64 d) _ _ rfl ⟨w.heap.size, 0, none⟩ rfl (run_loadInt A0.out.cell)) ?_
          go_frame
          refine listW_run (some 14) rfl rfl (exec_bin (R := .bool true) .gtr _ _ _ rfl rfl rfl (b_gtr _ (decide_eq_true (by omega)))) ?_
          go_frame
          refine listW_run (some 15) rfl rfl (Rg.exec_move (v := .bool true) _ rfl rfl) ?_
          go_frame
          refine listW_run (some 16) rfl rfl (exec_fieldG0 _ rfl rfl) ?_
          go_frame
          refine listW_run (some 17) rfl rfl (Rg.exec_load (v := .int .i64 d) _ _ rfl ⟨w.heap.size, 0, none⟩ rfl (run_loadInt A0.out.cell)) ?_
          go_frame
          refine listW_run (some 18) rfl rfl (exec_bin (R := .bool false) .leq _ _ _ rfl rfl rfl (b_leq _ (decide_eq_false (by omega)))) ?_
          go_frame
          refine listW_run (some 19) rfl rfl (exec_pickT (v := .bool false) _ _ _ rfl rfl rfl) ?_
          go_frame
          refine Rg.list_run (some 20) rfl rfl (exec_pickF (v := .bool false) _ _ _ rfl rfl rfl) ?_
          go_frame
          refine Rg.list_run (some 21) rfl rfl (Rg.exec_move (v := .bool false) _ rfl rfl) ?_
          go_frame
          refine listW_run (some 22) rfl rfl (Rg.exec_move (v := .slice na nums.length nc) _ rfl rfl) ?_
          go_frame
          refine listW_run (some 23) rfl rfl (exec_len _ _ _ rfl Try.underlying33 _ _ _ rfl) ?_
          go_frame
          refine listW_run (some 24) rfl rfl (exec_bin (R := .bool true) .gtr _ _ _ rfl rfl rfl (b_gtr _ (decide_eq_true (by omega)))) ?_
          go_frame
          refine Rg.list_run (some 25) rfl rfl (exec_pickF (v := .bool true) _ _ _ rfl rfl rfl) ?_
          go_frame
          go_upto_region 2 with (fail)
          refine wp_region_list ?_
          refine list_ask (some 26) rfl rfl _ _ (exec_fn0 30 _ rfl (Zacl1 _ _)) ?_
          refine (awake08_any w2).mono ?_
          rintro e1 w3 ⟨rfl, hb⟩
          refine ⟨_, rfl, ?_⟩
          go_frame
          replace A0 := Lib.hid (A0.out.below hb)
          replace A1 := Lib.hid (A1.out.below hb)
          replace H := Lib.hid (H.out.below hb)
          replace N := Lib.hid (N.out.below hb)
          replace K := Lib.hid (Rg.acc K.out hb)
          clear hb
          refine Rg.list_run (some 4) rfl rfl (Rg.exec_assign (v := .bool true) _ rfl rfl) ?_
          go_frame
          go_wp2
          go_ret
          exact ⟨rfl, K.out⟩
        · skip
          go_upto_region 1 with (fail)
          refine wp_region_list ?_
          refine Rg.list_run (some 9) rfl rfl (Rg.exec_load (v := .agg #[.int .i64 d, .slice ga ll.length gc]) _ _ rfl ⟨w.heap.size, 0, none⟩ rfl (run_loadG A0.out.cell A1.out.cell)) ?_
          go_frame
          refine list_ask (some 10) rfl rfl _ _ (exec_fn1 29 _ _ rfl rfl (Zacl0 _ _)) ?_
          refine (big08_any _ d ll w1 H.out).mono ?_
          rintro e1 w2 ⟨rfl, hb⟩
          rw [hbl.out]
          refine ⟨_, rfl, ?_⟩
          go_frame
          replace A0 := Lib.hid (A0.out.below hb)
          replace A1 := Lib.hid (A1.out.below hb)
          replace H := Lib.hid (H.out.below hb)
          replace N := Lib.hid (N.out.below hb)
          replace K := Lib.hid (Rg.acc K.out hb)
          clear hb
          refine Rg.list_run (some 11) rfl rfl (Rg.exec_move (v := .bool false) _ rfl rfl) ?_
          go_frame
          refine listW_run (some 12) rfl rfl (exec_fieldG0 _ rfl rfl) ?_
          go_frame
          refine listW_run (some 13) rfl rfl (Rg.exec_load (v := .int .i64 d) _ _ rfl ⟨w.heap.size, 0, none⟩ rfl (run_loadInt A0.out.cell)) ?_
          go_frame
          refine listW_run (some 14) rfl rfl (exec_bin (R := .bool true) .gtr _ _ _ rfl rfl rfl (b_gtr _ (decide_eq_true (by omega)))) ?_
          go_frame
          refine listW_run (some 15) rfl rfl (Rg.exec_move (v := .bool true) _ rfl rfl) ?_
          go_frame
          refine listW_run (some 16) rfl rfl (exec_fieldG0 _ rfl rfl) ?_
          go_frame
          refine listW_run (some 17) rfl rfl (Rg.exec_load (v := .int .i64 d) _ _ rfl ⟨w.heap.size, 0, none⟩ rfl (run_loadInt A0.out.cell)) ?_
          go_frame
          refine listW_run (some 18) rfl rfl (exec_bin (R := .bool false) .leq _ _ _ rfl rfl rfl (b_leq _ (decide_eq_false (by omega)))) ?_
          go_frame
          refine listW_run (some 19) rfl rfl (exec_pickT (v := .bool false) _ _ _ rfl rfl rfl) ?_
          go_frame
          refine Rg.list_run (some 20) rfl rfl (exec_pickF (v := .bool false) _ _ _ rfl rfl rfl) ?_
          go_frame
          refine Rg.list_run (some 21) rfl rfl (Rg.exec_move (v := .bool false) _ rfl rfl) ?_
          go_frame
          refine listW_run (some 22) rfl rfl (Rg.exec_move (v := .slice na nums.length nc) _ rfl rfl) ?_
          go_frame
          refine listW_run (some 23) rfl rfl (exec_len _ _ _ rfl Try.underlying33 _ _ _ rfl) ?_
          go_frame
          refine listW_run (some 24) rfl rfl (exec_bin (R := .bool false) .gtr _ _ _ rfl rfl rfl (b_gtr _ (decide_eq_false (by omega)))) ?_
          go_frame
          refine Rg.list_run (some 25) rfl rfl (exec_pickF (v := .bool false) _ _ _ rfl rfl rfl) ?_
          go_frame
          have hlg : lg ll = false := by
            have := hbl.out
            unfold bg at this
            rw [Bool.or_eq_false_iff] at this
            exact this.1
          obtain ⟨hs1, hs2⟩ := lg_small hlg
          have HR := Lib.hid (show Rg.Rows w2 (.slice ga ll.length gc) ll from H.out.small (by omega) (fun l hl => by have := hs2 l hl; omega))
          have HN := Lib.hid (show Rg.Ints w2 (.slice na nums.length nc) nums from N.out.small (by omega))
          obtain ⟨ck, hck⟩ : ∃ ck, Hid (rndc d ll nums = ck) := ⟨_, Lib.hid rfl⟩
          clear H N hlg hs2
          go_upto_region 3 with (fail)
          refine wp_region_list ?_
          refine Rg.list_run (some 28) rfl rfl (Rg.exec_load (v := .agg #[.int .i64 d, .slice ga ll.length gc]) _ _ rfl ⟨w.heap.size, 0, none⟩ rfl (run_loadG A0.out.cell A1.out.cell)) ?_
          go_frame
          refine Rg.list_run (some 29) rfl rfl (Rg.exec_move (v := .slice na nums.length nc) _ rfl rfl) ?_
          go_frame
          refine list_ask (some 30) rfl rfl _ _ (exec_fn 36 _ _ _ rfl rfl rfl (Zacl2 _ _)) ?_
          refine (pRandom_any _ _ d ll nums w2 HR.out HN.out).mono ?_
          rintro e1 w3 ⟨cv, rfl, hcv, hb⟩
          have hcv := hcv
          obtain ⟨e1, oa1, on1, oc1, ra1, rn1, rc1, rfl⟩ := hcv.shape
          rw [hck.out] at hcv ⊢
          refine ⟨_, rfl, ?_⟩
          go_frame
          replace A0 := Lib.hid (A0.out.below hb)
          replace A1 := Lib.hid (A1.out.below hb)
          replace HR := Lib.hid (HR.out.below hb)
          replace HN := Lib.hid (HN.out.below hb)
          replace K := Lib.hid (Rg.acc K.out hb)
          clear hb
          have N1 := Lib.hid hcv
          refine Rg.list_run (some 27) rfl rfl (Rg.exec_move (v := .tuple #[(.agg #[.int .i64 e1, .slice oa1 on1 oc1, .slice ra1 rn1 rc1]), .int .i64 ck]) _ rfl rfl) ?_
          go_frame
          refine Rg.list_run (some 31) rfl rfl (exec_extract (v := (.agg #[.int .i64 e1, .slice oa1 on1 oc1, .slice ra1 rn1 rc1])) _ _ rfl rfl rfl) ?_
          go_frame
          refine Rg.list_run (some 32) rfl rfl (exec_extract (v := .int .i64 ck) _ _ rfl rfl rfl) ?_
          go_frame
          refine Rg.list_run (some 5) rfl rfl (exec_allocC rfl) ?_
          go_frame
          refine Rg.list_skip none rfl rfl (Rg.exec_store _ _ _ rfl _ rfl _ rfl (run_storeC _ _ _ _ _ _ _ (Tri.new w3 (.int .i64 0) (.slice none 0 0) (.slice none 0 0)))) ?_
          go_frame
          have htn := (Tri.new w3 (.int .i64 0) (.slice none 0 0) (.slice none 0 0)).set (.int .i64 e1) (.slice oa1 on1 oc1) (.slice ra1 rn1 rc1)
          have hb := ((((Below.refl w3.heap.size w3).alloc (Nat.le_refl _) (.cells #[.int .i64 0, .slice none 0 0, .slice none 0 0] 51)).setCell (p := ⟨w3.heap.size, 0, none⟩) (Nat.le_refl _) (.int .i64 e1)).setCell (p := ⟨w3.heap.size, 1, none⟩) (Nat.le_refl _) (.slice oa1 on1 oc1)).setCell (p := ⟨w3.heap.size, 2, none⟩) (Nat.le_refl _) (.slice ra1 rn1 rc1)
          generalize (((w3.alloc (.cells #[.int .i64 0, .slice none 0 0, .slice none 0 0] 51)).setCell ⟨w3.heap.size, 0, none⟩ (.int .i64 e1)).setCell ⟨w3.heap.size, 1, none⟩ (.slice oa1 on1 oc1)).setCell ⟨w3.heap.size, 2, none⟩ (.slice ra1 rn1 rc1) = w4 at *
          replace A0 := Lib.hid (A0.out.below hb)
          replace A1 := Lib.hid (A1.out.below hb)
          replace HR := Lib.hid (HR.out.below hb)
          replace HN := Lib.hid (HN.out.below hb)
          replace N1 := Lib.hid (N1.out.below hb)
          replace K := Lib.hid (Rg.acc K.out hb)
          clear hb
          have T1 := Lib.hid htn
          clear htn
          refine Rg.list_run (some 6) rfl rfl (Rg.exec_assign (v := .int .i64 ck) _ rfl rfl) ?_
          go_frame
          clear hcv
          go_upto_region 4 with (fail)
          refine wp_region_list ?_
          refine Rg.list_run (some 34) rfl rfl (Rg.exec_load (v := .agg #[.int .i64 d, .slice ga ll.length gc]) _ _ rfl ⟨w.heap.size, 0, none⟩ rfl (run_loadG A0.out.cell A1.out.cell)) ?_
          go_frame
          refine Rg.list_run (some 35) rfl rfl (Rg.exec_move (v := .slice na nums.length nc) _ rfl rfl) ?_
          go_frame
          refine list_ask (some 36) rfl rfl _ _ (exec_fn 37 _ _ _ rfl rfl rfl (Zacl3 _ _)) ?_
          refine (rRandom_any _ _ d ll nums w4 HR.out HN.out).mono ?_
          rintro e1 w5 ⟨cv, rfl, hcv, hb⟩
          have hcv := hcv
          obtain ⟨e2, oa2, on2, oc2, ra2, rn2, rc2, rfl⟩ := hcv.shape
          rw [hck.out] at hcv ⊢
          refine ⟨_, rfl, ?_⟩
          go_frame
          replace A0 := Lib.hid (A0.out.below hb)
          replace A1 := Lib.hid (A1.out.below hb)
          replace HR := Lib.hid (HR.out.below hb)
          replace HN := Lib.hid (HN.out.below hb)
          replace N1 := Lib.hid (N1.out.below hb)
          replace T1 := Lib.hid (T1.out.below hb)
          replace K := Lib.hid (Rg.acc K.out hb)
          clear hb
          have N2 := Lib.hid hcv
          refine Rg.list_run (some 33) rfl rfl (Rg.exec_move (v := .tuple #[(.agg #[.int .i64 e2, .slice oa2 on2 oc2, .slice ra2 rn2 rc2]), .int .i64 ck]) _ rfl rfl) ?_
          go_frame
          refine Rg.list_run (some 37) rfl rfl (exec_extract (v := (.agg #[.int .i64 e2, .slice oa2 on2 oc2, .slice ra2 rn2 rc2])) _ _ rfl rfl rfl) ?_
          go_frame
          refine Rg.list_run (some 38) rfl rfl (exec_extract (v := .int .i64 ck) _ _ rfl rfl rfl) ?_
          go_frame
          refine Rg.list_run (some 7) rfl rfl (exec_allocC rfl) ?_
          go_frame
          refine Rg.list_skip none rfl rfl (Rg.exec_store _ _ _ rfl _ rfl _ rfl (run_storeC _ _ _ _ _ _ _ (Tri.new w5 (.int .i64 0) (.slice none 0 0) (.slice none 0 0)))) ?_
          go_frame
          have htn := (Tri.new w5 (.int .i64 0) (.slice none 0 0) (.slice none 0 0)).set (.int .i64 e2) (.slice oa2 on2 oc2) (.slice ra2 rn2 rc2)
          have hb := ((((Below.refl w5.heap.size w5).alloc (Nat.le_refl _) (.cells #[.int .i64 0, .slice none 0 0, .slice none 0 0] 51)).setCell (p := ⟨w5.heap.size, 0, none⟩) (Nat.le_refl _) (.int .i64 e2)).setCell (p := ⟨w5.heap.size, 1, none⟩) (Nat.le_refl _) (.slice oa2 on2 oc2)).setCell (p := ⟨w5.heap.size, 2, none⟩) (Nat.le_refl _) (.slice ra2 rn2 rc2)
          generalize (((w5.alloc (.cells #[.int .i64 0, .slice none 0 0, .slice none 0 0] 51)).setCell ⟨w5.heap.size, 0, none⟩ (.int .i64 e2)).setCell ⟨w5.heap.size, 1, none⟩ (.slice oa2 on2 oc2)).setCell ⟨w5.heap.size, 2, none⟩ (.slice ra2 rn2 rc2) = w6 at *
          replace A0 := Lib.hid (A0.out.below hb)
          replace A1 := Lib.hid (A1.out.below hb)
          replace HR := Lib.hid (HR.out.below hb)
          replace HN := Lib.hid (HN.out.below hb)
          replace N1 := Lib.hid (N1.out.below hb)
          replace T1 := Lib.hid (T1.out.below hb)
          replace N2 := Lib.hid (N2.out.below hb)
          replace K := Lib.hid (Rg.acc K.out hb)
          clear hb
          have T2 := Lib.hid htn
          clear htn
          refine Rg.list_run (some 8) rfl rfl (Rg.exec_assign (v := .int .i64 ck) _ rfl rfl) ?_
          go_frame
          clear hcv
          go_upto_region 5 with (fail)
          refine wp_region_list ?_
          refine Rg.list_run (some 39) rfl rfl (Rg.exec_load (v := (.agg #[.int .i64 e1, .slice oa1 on1 oc1, .slice ra1 rn1 rc1])) _ _ rfl ⟨w3.heap.size, 0, none⟩ rfl (run_loadC3 T1.out.c0 T1.out.c1 T1.out.c2)) ?_
          go_frame
          refine Rg.list_run (some 40) rfl rfl (Rg.exec_load (v := (.agg #[.int .i64 e2, .slice oa2 on2 oc2, .slice ra2 rn2 rc2])) _ _ rfl ⟨w5.heap.size, 0, none⟩ rfl (run_loadC3 T2.out.c0 T2.out.c1 T2.out.c2)) ?_
          go_frame
          refine list_ask (some 41) rfl rfl _ _ (exec_fn 35 _ _ _ rfl rfl rfl (Zacl4 _ _)) ?_
          refine (SameChain_ans N1.out N2.out).mono ?_
          rintro e1 w7 ⟨rfl, hb⟩
          refine ⟨_, rfl, ?_⟩
          go_frame
          replace A0 := Lib.hid (A0.out.below hb)
          replace A1 := Lib.hid (A1.out.below hb)
          replace HR := Lib.hid (HR.out.below hb)
          replace HN := Lib.hid (HN.out.below hb)
          replace N1 := Lib.hid (N1.out.below hb)
          replace T1 := Lib.hid (T1.out.below hb)
          replace N2 := Lib.hid (N2.out.below hb)
          replace T2 := Lib.hid (T2.out.below hb)
          replace K := Lib.hid (Rg.acc K.out hb)
          clear hb
          refine Rg.list_run (some 42) rfl rfl (Rg.exec_move (v := .bool true) _ rfl rfl) ?_
          go_frame
          refine listW_run (some 43) rfl rfl (Rg.exec_move (v := .int .i64 ck) _ rfl rfl) ?_
          go_frame
          refine listW_run (some 44) rfl rfl (Rg.exec_move (v := .int .i64 ck) _ rfl rfl) ?_
          go_frame
          refine listW_run (some 45) rfl rfl (exec_eqI _ _ rfl rfl rfl rfl) ?_
          go_frame
          refine Rg.list_run (some 46) rfl rfl (exec_pickT (v := .bool true) _ _ _ rfl rfl rfl) ?_
          go_frame
          refine Rg.list_run (some 47) rfl rfl (Rg.exec_move (v := .bool true) _ rfl rfl) ?_
          go_frame
          refine listW_ask (some 48) rfl rfl _ _ (exec_fn0 30 _ rfl (Zacl1 _ _)) ?_
          refine (awake08_any w7).mono ?_
          rintro e1 w8 ⟨rfl, hb⟩
          refine ⟨_, rfl, ?_⟩
          go_frame
          replace A0 := Lib.hid (A0.out.below hb)
          replace A1 := Lib.hid (A1.out.below hb)
          replace HR := Lib.hid (HR.out.below hb)
          replace HN := Lib.hid (HN.out.below hb)
          replace N1 := Lib.hid (N1.out.below hb)
          replace T1 := Lib.hid (T1.out.below hb)
          replace N2 := Lib.hid (N2.out.below hb)
          replace T2 := Lib.hid (T2.out.below hb)
          replace K := Lib.hid (Rg.acc K.out hb)
          clear hb
          refine Rg.list_run (some 49) rfl rfl (exec_pickT (v := .bool true) _ _ _ rfl rfl rfl) ?_
          go_frame
          refine Rg.list_run (some 4) rfl rfl (Rg.exec_assign (v := .bool true) _ rfl rfl) ?_
          go_frame
          go_wp2
          go_ret
          exact ⟨rfl, K.out⟩
    · by_cases hl : 1010 < nums.length
      · skip
        go_upto_region 1 with (fail)
        refine wp_region_list ?_
        refine Rg.list_run (some 9) rfl rfl (Rg.exec_load (v := .agg #[.int .i64 d, .slice ga ll.length gc]) _ _ rfl ⟨w.heap.size, 0, none⟩ rfl (run_loadG A0.out.cell A1.out.cell)) ?_
        go_frame
        refine list_ask (some 10) rfl rfl _ _ (exec_fn1 29 _ _ rfl rfl (Zacl0 _ _)) ?_
        refine (big08_any _ d ll w1 H.out).mono ?_
        rintro e1 w2 ⟨rfl, hb⟩
        rw [hbl.out]
        refine ⟨_, rfl, ?_⟩
        go_frame
        replace A0 := Lib.hid (A0.out.below hb)
        replace A1 := Lib.hid (A1.out.below hb)
        replace H := Lib.hid (H.out.below hb)
        replace N := Lib.hid (N.out.below hb)
        replace K := Lib.hid (Rg.acc K.out hb)
        clear hb
        refine Rg.list_run (some 11) rfl rfl (Rg.exec_move (v := .bool false) _ rfl rfl) ?_
        go_frame
        refine listW_run (some 12) rfl rfl (exec_fieldG0 _ rfl rfl) ?_
        go_frame
        refine listW_run (some 13) rfl rfl (Rg.exec_load (v := .int .i64 d) _ _ rfl ⟨w.heap.size, 0, none⟩ rfl (run_loadInt A0.out.cell)) ?_
        go_frame
        refine listW_run (some 14) rfl rfl (exec_bin (R := .bool false) .gtr _ _ _ rfl rfl rfl (b_gtr _ (decide_eq_false (by omega)))) ?_
        go_frame
        refine listW_run (some 15) rfl rfl (Rg.exec_move (v := .bool false) _ rfl rfl) ?_
        go_frame
        refine listW_pass (some 16) (by kernel_rfl) rfl ?_
        go_frame
        refine listW_pass (some 17) (by kernel_rfl) rfl ?_
        go_frame
        refine listW_pass (some 18) (by kernel_rfl) rfl ?_
        go_frame
        refine listW_run (some 19) rfl rfl (exec_pickF (v := .bool false) _ _ _ rfl rfl rfl) ?_
        go_frame
        refine Rg.list_run (some 20) rfl rfl (exec_pickF (v := .bool false) _ _ _ rfl rfl rfl) ?_
        go_frame
        refine Rg.list_run (some 21) rfl rfl (Rg.exec_move (v := .bool false) _ rfl rfl) ?_
        go_frame
        refine listW_run (some 22) rfl rfl (Rg.exec_move (v := .slice na nums.length nc) _ rfl rfl) ?_
        go_frame
        refine listW_run (some 23) rfl rfl (exec_len _ _ _ rfl Try.underlying33 _ _ _ rfl) ?_
        go_frame
        refine listW_run (some 24) rfl rfl (exec_bin (R := .bool true) .gtr _ _ _ rfl rfl rfl (b_gtr _ (decide_eq_true (by omega)))) ?_
        go_frame
        refine Rg.list_run (some 25) rfl rfl (exec_pickF (v := .bool true) _ _ _ rfl rfl rfl) ?_
        go_frame
        go_upto_region 2 with (fail)
        refine wp_region_list ?_
        refine list_ask (some 26) rfl rfl _ _ (exec_fn0 30 _ rfl (Zacl1 _ _)) ?_
        refine (awake08_any w2).mono ?_
        rintro e1 w3 ⟨rfl, hb⟩
        refine ⟨_, rfl, ?_⟩
        go_frame
        replace A0 := Lib.hid (A0.out.below hb)
        replace A1 := Lib.hid (A1.out.below hb)
        replace H := Lib.hid (H.out.below hb)
        replace N := Lib.hid (N.out.below hb)
        replace K := Lib.hid (Rg.acc K.out hb)
        clear hb
        refine Rg.list_run (some 4) rfl rfl (Rg.exec_assign (v := .bool true) _ rfl rfl) ?_
        go_frame
        go_wp2
        go_ret
        exact ⟨rfl, K.out⟩
      · skip
        go_upto_region 1 with (fail)
        refine wp_region_list ?_
        refine Rg.list_run (some 9) rfl rfl (Rg.exec_load (v := .agg #[.int .i64 d, .slice ga ll.length gc]) _ _ rfl ⟨w.heap.size, 0, none⟩ rfl (run_loadG A0.out.cell A1.out.cell)) ?_
        go_frame
        refine list_ask (some 10) rfl rfl _ _ (exec_fn1 29 _ _ rfl rfl (Zacl0 _ _)) ?_
        refine (big08_any _ d ll w1 H.out).mono ?_
        rintro e1 w2 ⟨rfl, hb⟩
        rw [hbl.out]
        refine ⟨_, rfl, ?_⟩
        go_frame
        replace A0 := Lib.hid (A0.out.below hb)
        replace A1 := Lib.hid (A1.out.below hb)
        replace H := Lib.hid (H.out.below hb)
        replace N := Lib.hid (N.out.below hb)
        replace K := Lib.hid (Rg.acc K.out hb)
        clear hb
        refine Rg.list_run (some 11) rfl rfl (Rg.exec_move (v := .bool false) _ rfl rfl) ?_
        go_frame
        refine listW_run (some 12) rfl rfl (exec_fieldG0 _ rfl rfl) ?_
        go_frame
        refine listW_run (some 13) rfl rfl (Rg.exec_load (v := .int .i64 d) _ _ rfl ⟨w.heap.size, 0, none⟩ rfl (run_loadInt A0.out.cell)) ?_
        go_frame
        refine listW_run (some 14) rfl rfl (exec_bin (R := .bool false) .gtr _ _ _ rfl rfl rfl (b_gtr _ (decide_eq_false (by omega)))) ?_
        go_frame
        refine listW_run (some 15) rfl rfl (Rg.exec_move (v := .bool false) _ rfl rfl) ?_
        go_frame
        refine listW_pass (some 16) (by kernel_rfl) rfl ?_
        go_frame
        refine listW_pass (some 17) (by kernel_rfl) rfl ?_
        go_frame
        refine listW_pass (some 18) (by kernel_rfl) rfl ?_
        go_frame
        refine listW_run (some 19) rfl rfl (exec_pickF (v := .bool false) _ _ _ rfl rfl rfl) ?_
        go_frame
        refine Rg.list_run (some 20) rfl rfl (exec_pickF (v := .bool false) _ _ _ rfl rfl rfl) ?_
        go_frame
        refine Rg.list_run (some 21) rfl rfl (Rg.exec_move (v := .bool false) _ rfl rfl) ?_
        go_frame
        refine listW_run (some 22) rfl rfl (Rg.exec_move (v := .slice na nums.length nc) _ rfl rfl) ?_
        go_frame
        refine listW_run (some 23) rfl rfl (exec_len _ _ _ rfl Try.underlying33 _ _ _ rfl) ?_
        go_frame
        refine listW_run (some 24) rfl rfl (exec_bin (R := .bool false) .gtr _ _ _ rfl rfl rfl (b_gtr _ (decide_eq_false (by omega)))) ?_
        go_frame
        refine Rg.list_run (some 25) rfl rfl (exec_pickF (v := .bool false) _ _ _ rfl rfl rfl) ?_
        go_frame
        have hlg : lg ll = false := by
          have := hbl.out
          unfold bg at this
          rw [Bool.or_eq_false_iff] at this
          exact this.1
        obtain ⟨hs1, hs2⟩ := lg_small hlg
        have HR := Lib.hid (show Rg.Rows w2 (.slice ga ll.length gc) ll from H.out.small (by omega) (fun l hl => by have := hs2 l hl; omega))
        have HN := Lib.hid (show Rg.Ints w2 (.slice na nums.length nc) nums from N.out.small (by omega))
        obtain ⟨ck, hck⟩ : ∃ ck, Hid (rndc d ll nums = ck) := ⟨_, Lib.hid rfl⟩
        clear H N hlg hs2
        go_upto_region 3 with (fail)
        refine wp_region_list ?_
        refine Rg.list_run (some 28) rfl rfl (Rg.exec_load (v := .agg #[.int .i64 d, .slice ga ll.length gc]) _ _ rfl ⟨w.heap.size, 0, none⟩ rfl (run_loadG A0.out.cell A1.out.cell)) ?_
        go_frame
        refine Rg.list_run (some 29) rfl rfl (Rg.exec_move (v := .slice na nums.length nc) _ rfl rfl) ?_
        go_frame
        refine list_ask (some 30) rfl rfl _ _ (exec_fn 36 _ _ _ rfl rfl rfl (Zacl2 _ _)) ?_
        refine (pRandom_any _ _ d ll nums w2 HR.out HN.out).mono ?_
        rintro e1 w3 ⟨cv, rfl, hcv, hb⟩
        have hcv := hcv
        obtain ⟨e1, oa1, on1, oc1, ra1, rn1, rc1, rfl⟩ := hcv.shape
        rw [hck.out] at hcv ⊢
        refine ⟨_, rfl, ?_⟩
        go_frame
        replace A0 := Lib.hid (A0.out.below hb)
        replace A1 := Lib.hid (A1.out.below hb)
        replace HR := Lib.hid (HR.out.below hb)
        replace HN := Lib.hid (HN.out.below hb)
        replace K := Lib.hid (Rg.acc K.out hb)
        clear hb
        have N1 := Lib.hid hcv
        refine Rg.list_run (some 27) rfl rfl (Rg.exec_move (v := .tuple #[(.agg #[.int .i64 e1, .slice oa1 on1 oc1, .slice ra1 rn1 rc1]), .int .i64 ck]) _ rfl rfl) ?_
        go_frame
        refine Rg.list_run (some 31) rfl rfl (exec_extract (v := (.agg #[.int .i64 e1, .slice oa1 on1 oc1, .slice ra1 rn1 rc1])) _ _ rfl rfl rfl) ?_
        go_frame
        refine Rg.list_run (some 32) rfl rfl (exec_extract (v := .int .i64 ck) _ _ rfl rfl rfl) ?_
        go_frame
        refine Rg.list_run (some 5) rfl rfl (exec_allocC rfl) ?_
        go_frame
        refine Rg.list_skip none rfl rfl (Rg.exec_store _ _ _ rfl _ rfl _ rfl (run_storeC _ _ _ _ _ _ _ (Tri.new w3 (.int .i64 0) (.slice none 0 0) (.slice none 0 0)))) ?_
        go_frame
        have htn := (Tri.new w3 (.int .i64 0) (.slice none 0 0) (.slice none 0 0)).set (.int .i64 e1) (.slice oa1 on1 oc1) (.slice ra1 rn1 rc1)
        have hb := ((((Below.refl w3.heap.size w3).alloc (Nat.le_refl _) (.cells #[.int .i64 0, .slice none 0 0, .slice none 0 0] 51)).setCell (p := ⟨w3.heap.size, 0, none⟩) (Nat.le_refl _) (.int .i64 e1)).setCell (p := ⟨w3.heap.size, 1, none⟩) (Nat.le_refl _) (.slice oa1 on1 oc1)).setCell (p := ⟨w3.heap.size, 2, none⟩) (Nat.le_refl _) (.slice ra1 rn1 rc1)
        generalize (((w3.alloc (.cells #[.int .i64 0, .slice none 0 0, .slice none 0 0] 51)).setCell ⟨w3.heap.size, 0, none⟩ (.int .i64 e1)).setCell ⟨w3.heap.size, 1, none⟩ (.slice oa1 on1 oc1)).setCell ⟨w3.heap.size, 2, none⟩ (.slice ra1 rn1 rc1) = w4 at *
        replace A0 := Lib.hid (A0.out.below hb)
        replace A1 := Lib.hid (A1.out.below hb)
        replace HR := Lib.hid (HR.out.below hb)
        replace HN := Lib.hid (HN.out.below hb)
        replace N1 := Lib.hid (N1.out.below hb)
        replace K := Lib.hid (Rg.acc K.out hb)
        clear hb
        have T1 := Lib.hid htn
        clear htn
        refine Rg.list_run (some 6) rfl rfl (Rg.exec_assign (v := .int .i64 ck) _ rfl rfl) ?_
        go_frame
        clear hcv
        go_upto_region 4 with (fail)
        refine wp_region_list ?_
        refine Rg.list_run (some 34) rfl rfl (Rg.exec_load (v := .agg #[.int .i64 d, .slice ga ll.length gc]) _ _ rfl ⟨w.heap.size, 0, none⟩ rfl (run_loadG A0.out.cell A1.out.cell)) ?_
        go_frame
        refine Rg.list_run (some 35) rfl rfl (Rg.exec_move (v := .slice na nums.length nc) _ rfl rfl) ?_
        go_frame
        refine list_ask (some 36) rfl rfl _ _ (exec_fn 37 _ _ _ rfl rfl rfl (Zacl3 _ _)) ?_
        refine (rRandom_any _ _ d ll nums w4 HR.out HN.out).mono ?_
        rintro e1 w5 ⟨cv, rfl, hcv, hb⟩
        have hcv := hcv
        obtain ⟨e2, oa2, on2, oc2, ra2, rn2, rc2, rfl⟩ := hcv.shape
        rw [hck.out] at hcv ⊢
        refine ⟨_, rfl, ?_⟩
        go_frame
        replace A0 := Lib.hid (A0.out.below hb)
        replace A1 := Lib.hid (A1.out.below hb)
        replace HR := Lib.hid (HR.out.below hb)
        replace HN := Lib.hid (HN.out.below hb)
        replace N1 := Lib.hid (N1.out.below hb)
        replace T1 := Lib.hid (T1.out.below hb)
        replace K := Lib.hid (Rg.acc K.out hb)
        clear hb
        have N2 := Lib.hid hcv
        refine Rg.list_run (some 33) rfl rfl (Rg.exec_move (v := .tuple #[(.agg #[.int .i64 e2, .slice oa2 on2 oc2, .slice ra2 rn2 rc2]), .int .i64 ck]) _ rfl rfl) ?_
        go_frame
        refine Rg.list_run (some 37) rfl rfl (exec_extract (v := (.agg #[.int .i64 e2, .slice oa2 on2 oc2, .slice ra2 rn2 rc2])) _ _ rfl rfl rfl) ?_
        go_frame
        refine Rg.list_run (some 38) rfl rfl (exec_extract (v := .int .i64 ck) _ _ rfl rfl rfl) ?_
        go_frame
        refine Rg.list_run (some 7) rfl rfl (exec_allocC rfl) ?_
        go_frame
        refine Rg.list_skip none rfl rfl (Rg.exec_store _ _ _ rfl _ rfl _ rfl (run_storeC _ _ _ _ _ _ _ (Tri.new w5 (.int .i64 0) (.slice none 0 0) (.slice none 0 0)))) ?_
        go_frame
        have htn := (Tri.new w5 (.int .i64 0) (.slice none 0 0) (.slice none 0 0)).set (.int .i64 e2) (.slice oa2 on2 oc2) (.slice ra2 rn2 rc2)
        have hb := ((((Below.refl w5.heap.size w5).alloc (Nat.le_refl _) (.cells #[.int .i64 0, .slice none 0 0, .slice none 0 0] 51)).setCell (p := ⟨w5.heap.size, 0, none⟩) (Nat.le_refl _) (.int .i64 e2)).setCell (p := ⟨w5.heap.size, 1, none⟩) (Nat.le_refl _) (.slice oa2 on2 oc2)).setCell (p := ⟨w5.heap.size, 2, none⟩) (Nat.le_refl _) (.slice ra2 rn2 rc2)
        generalize (((w5.alloc (.cells #[.int .i64 0, .slice none 0 0, .slice none 0 0] 51)).setCell ⟨w5.heap.size, 0, none⟩ (.int .i64 e2)).setCell ⟨w5.heap.size, 1, none⟩ (.slice oa2 on2 oc2)).setCell ⟨w5.heap.size, 2, none⟩ (.slice ra2 rn2 rc2) = w6 at *
        replace A0 := Lib.hid (A0.out.below hb)
        replace A1 := Lib.hid (A1.out.below hb)
        replace HR := Lib.hid (HR.out.below hb)
        replace HN := Lib.hid (HN.out.below hb)
        replace N1 := Lib.hid (N1.out.below hb)
        replace T1 := Lib.hid (T1.out.below hb)
        replace N2 := Lib.hid (N2.out.below hb)
        replace K := Lib.hid (Rg.acc K.out hb)
        clear hb
        have T2 := Lib.hid htn
        clear htn
        refine Rg.list_run (some 8) rfl rfl (Rg.exec_assign (v := .int .i64 ck) _ rfl rfl) ?_
        go_frame
        clear hcv
        go_upto_region 5 with (fail)
        refine wp_region_list ?_
        refine Rg.list_run (some 39) rfl rfl (Rg.exec_load (v := (.agg #[.int .i64 e1, .slice oa1 on1 oc1, .slice ra1 rn1 rc1])) _ _ rfl ⟨w3.heap.size, 0, none⟩ rfl (run_loadC3 T1.out.c0 T1.out.c1 T1.out.c2)) ?_
        go_frame
        refine Rg.list_run (some 40) rfl rfl (Rg.exec_load (v := (.agg #[.int .i64 e2, .slice oa2 on2 oc2, .slice ra2 rn2 rc2])) _ _ rfl ⟨w5.heap.size, 0, none⟩ rfl (run_loadC3 T2.out.c0 T2.out.c1 T2.out.c2)) ?_
        go_frame
        refine list_ask (some 41) rfl rfl _ _ (exec_fn 35 _ _ _ rfl rfl rfl (Zacl4 _ _)) ?_
        refine (SameChain_ans N1.out N2.out).mono ?_
        rintro e1 w7 ⟨rfl, hb⟩
        refine ⟨_, rfl, ?_⟩
        go_frame
        replace A0 := Lib.hid (A0.out.below hb)
        replace A1 := Lib.hid (A1.out.below hb)
        replace HR := Lib.hid (HR.out.below hb)
        replace HN := Lib.hid (HN.out.below hb)
        replace N1 := Lib.hid (N1.out.below hb)
        replace T1 := Lib.hid (T1.out.below hb)
        replace N2 := Lib.hid (N2.out.below hb)
        replace T2 := Lib.hid (T2.out.below hb)
        replace K := Lib.hid (Rg.acc K.out hb)
        clear hb
        refine Rg.list_run (some 42) rfl rfl (Rg.exec_move (v := .bool true) _ rfl rfl) ?_
        go_frame
        refine listW_run (some 43) rfl rfl (Rg.exec_move (v := .int .i64 ck) _ rfl rfl) ?_
        go_frame
        refine listW_run (some 44) rfl rfl (Rg.exec_move (v := .int .i64 ck) _ rfl rfl) ?_
        go_frame
        refine listW_run (some 45) rfl rfl (exec_eqI _ _ rfl rfl rfl rfl) ?_
        go_frame
        refine Rg.list_run (some 46) rfl rfl (exec_pickT (v := .bool true) _ _ _ rfl rfl rfl) ?_
        go_frame
        refine Rg.list_run (some 47) rfl rfl (Rg.exec_move (v := .bool true) _ rfl rfl) ?_
        go_frame
        refine listW_ask (some 48) rfl rfl _ _ (exec_fn0 30 _ rfl (Zacl1 _ _)) ?_
        refine (awake08_any w7).mono ?_
        rintro e1 w8 ⟨rfl, hb⟩
        refine ⟨_, rfl, ?_⟩
        go_frame
        replace A0 := Lib.hid (A0.out.below hb)
        replace A1 := Lib.hid (A1.out.below hb)
        replace HR := Lib.hid (HR.out.below hb)
        replace HN := Lib.hid (HN.out.below hb)
        replace N1 := Lib.hid (N1.out.below hb)
        replace T1 := Lib.hid (T1.out.below hb)
        replace N2 := Lib.hid (N2.out.below hb)
        replace T2 := Lib.hid (T2.out.below hb)
        replace K := Lib.hid (Rg.acc K.out hb)
        clear hb
        refine Rg.list_run (some 49) rfl rfl (exec_pickT (v := .bool true) _ _ _ rfl rfl rfl) ?_
        go_frame
        refine Rg.list_run (some 4) rfl rfl (Rg.exec_assign (v := .bool true) _ rfl rfl) ?_
        go_frame
        go_wp2
        go_ret
        exact ⟨rfl, K.out⟩
end Go.Proofs.Ytojbijkljnohoaa

/-! The laws' arguments read. -/
set_option linter.unusedVariables false
namespace Go.Proofs.Ytojbijkljnohoaa
open Go.RowKit
open Go.Proofs
open Go.ChangeShapes Go.WideShapes Go.Deep Go.Joins
attribute [local irreducible] Go.Calls

section
variable {H : Type} {enc : TypeId × Value → H}
set_option maxRecDepth 100000 in
theorem readG {W : World} {base : Nat} {r : Reach} {v : Value} {d : DataW H} {p : List MemPlace} (hv : Value.okWide Try.prog W r base 24 v) (h : DataW.Trod enc Try.prog W 0 (fun _ => true) true 24 v d p) :
    ∃ (dd : Int) (gv : Value) (ll : List (List Int)), v = .agg #[.int .i64 dd, gv] ∧ Rg.RowsB maxLen W gv ll := by
  obtain ⟨c0, c1, y0, y1, m, rfl, rfl, rfl, hy0, hy1⟩ := open_agg2 Try.underlying24 (by kernel_rfl) cells24 hv h
  obtain ⟨a, e0, _, _⟩ := DataW.trod_int Try.underlying3 hy0
  simp at e0
  subst e0
  rcases open_int_rows Try.underlying22 Try.underlying62 Try.underlying3 cells39 cells3 hy1 with ⟨hcs, _⟩ | ⟨a1, len, cap, A, L, C, Z, hcs, _, hl, hm, _, hrow⟩
  · obtain rfl : c1 = .slice none 0 0 := by simpa using hcs
    exact ⟨a, _, [], rfl, [], ⟨none, 0, rfl, by simp, Nat.zero_le _, by simp, fun h => by simp at h⟩, rfl, fun i h => by simp at h⟩
  · obtain rfl : c1 = .slice (some a1) len cap := by simpa using hcs
    refine ⟨a, _, (List.range len).map fun r => (Z r).take (L r), rfl, (List.range len).map fun r => .slice (A r) (L r) (C r), ⟨some a1, cap, by simp, by simp; exact hl, hm, by simp; omega, fun h0 => ?_⟩, by simp, fun i h1 h2 => ?_⟩
    · simp only [List.length_map, List.length_range] at h0
      obtain ⟨hc0, _⟩ := hrow 0 (by omega)
      have ha : a1 = ⟨a1.block, a1.off, none⟩ := by
        have := spot_none (a := a1) (by simpa [Addr.add] using hc0)
        cases a1; simp at this; subst this; rfl
      refine ⟨a1.block, a1.off, by rw [← ha], lt_of_cell (a := a1) (by simpa [Addr.add] using hc0), fun i hi => ?_⟩
      simp only [List.length_map, List.length_range] at hi
      rw [← add_none ha i, (hrow i (by omega)).1]
      simp
    · simp only [List.length_map, List.length_range] at h1
      simp only [List.getElem_map, List.getElem_range]
      obtain ⟨_, hLC, hCm, hZ, _, hn, hcell⟩ := hrow i (by omega)
      have hlen : ((Z i).take (L i)).length = L i := by rw [List.length_take]; omega
      refine ⟨A i, C i, by rw [List.length_map, hlen], by rw [List.length_map, hlen]; exact hLC, hCm, by rw [List.length_map, hlen]; omega, fun h0 => ?_⟩
      rw [List.length_map, hlen] at h0
      cases hA : A i with
      | none => have := hn hA; omega
      | some a' =>
        obtain ⟨_, hcl⟩ := hcell a' hA
        have hc0 := hcl 0 (by omega)
        have ha : a' = ⟨a'.block, a'.off, none⟩ := by
          have := spot_none (a := a') (by simpa [Addr.add] using hc0)
          cases a'; simp at this; subst this; rfl
        refine ⟨a'.block, a'.off, by rw [← ha], lt_of_cell (a := a') (by simpa [Addr.add] using hc0), fun c hc => ?_⟩
        rw [List.length_map, hlen] at hc
        rw [← add_none ha c, hcl c (by omega)]
        simp [List.getD, List.getElem?_eq_getElem (show c < (Z i).length by omega)]
end

end Go.Proofs.Ytojbijkljnohoaa

/-! The laws' numbers read. -/
set_option linter.unusedVariables false
namespace Go.Proofs.Ytojbijkljnohoaa
open Go.RowKit
open Go.Proofs
open Go.ChangeShapes Go.WideShapes Go.Deep Go.Joins
attribute [local irreducible] Go.Calls

section
variable {H : Type} {enc : TypeId × Value → H}
/-- numbers handed in read as a list of integers -/
theorem readI {W : World} {base : Nat} {r : Reach} {v : Value} {d : DataW H} {p : List MemPlace} (h : DataW.Trod enc Try.prog W 0 (fun _ => true) true 33 v d p) (hv : ∃ x, v.cells.toList = [x] ∧ v = x) :
    ∃ l, Rg.IntsB maxLen W v l := by
  obtain ⟨fuel, hf⟩ := h
  obtain ⟨x, hc, rfl⟩ := hv
  rw [hc] at hf
  rcases open_ints Try.underlying33 Try.underlying3 cells3 hf with ⟨hcs, _⟩ | ⟨a, len, cap, zs, hcs, _, hl, hm, hz, _, hcell, _⟩
  · obtain rfl : v = .slice none 0 0 := by simpa using hcs
    exact ⟨[], none, 0, rfl, by simp, Nat.zero_le _, by simp, fun h => by simp at h⟩
  · obtain rfl : v = .slice (some a) len cap := by simpa using hcs
    simp only [if_true] at hz
    have hlen : (zs.take len).length = len := by rw [List.length_take]; omega
    refine ⟨zs.take len, some a, cap, by rw [List.length_map, hlen], by rw [List.length_map, hlen]; exact hl, hm, by rw [List.length_map, hlen]; omega, fun h0 => ?_⟩
    rw [List.length_map, hlen] at h0
    have hc0 := hcell 0 (by omega)
    have ha : a = ⟨a.block, a.off, none⟩ := by
      have := spot_none (a := a) (by simpa [Addr.add] using hc0)
      cases a; simp at this; subst this; rfl
    refine ⟨a.block, a.off, by rw [← ha], lt_of_cell (a := a) (by simpa [Addr.add] using hc0), fun i hi => ?_⟩
    rw [List.length_map, hlen] at hi
    rw [← add_none ha i, hcell i (by omega)]
    simp [List.getD, List.getElem?_eq_getElem (show i < zs.length by omega)]

end
end Go.Proofs.Ytojbijkljnohoaa
