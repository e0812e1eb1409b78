/- Lemmas and contracts on the way to the statement; no condition of their own beyond those written. -/
import Derived.Test.YtojbijkljnohoaaXZdtoZg
import Derived.Deep.LoopGhost
import Derived.Lib.SlicesSearch
import Derived.Lib.ConvBytes
import Derived.Deep.CutRange
import Derived.Deep.CutBlock
import Derived.IntWalk
import Derived.Great.BuildSlice
import Derived.ArgAppend
import Derived.Laws.CopyOwn
import Derived.StillTailTactics
import Derived.Deep.MidRow
import Derived.WalkSpells
import Derived.WalkLawsBesides
import Derived.Maps.AppendAt
import Derived.OwnWalk
import Derived.OrdersHeld
import Derived.Deep.OwnRows
import Derived.WalkKit
import Derived.Lib.Hide
import Derived.Laws.OwnMore
import Derived.Test.YtojbijkljnohoaaProg
import Derived.Outline
import Derived.Deep.DeepFit
import Derived.BigQuiet
import Derived.Deep.QuietTactic
import Derived.Sort.OwnSortedInts
import Derived.WideMake
import Derived.MapKept
import Derived.ChangeMaps5
import Derived.Shelf.Sort.Plain
import Derived.RangeFuncBox
import Derived.RangeFuncLeaves
import Derived.Shelf.Abstract
import Derived.OwnWalkIn
import Derived.TacticsInMore
import Derived.LoopNIn
import Derived.LoopIn
import Derived.RangeFuncWrites
import Derived.RangeFuncNested
import Derived.Sort.CutIn
import Derived.ChangeKeysEq
import Derived.Laws.Cells
import Derived.Laws.Rows
import Derived.Laws.Tables
import Derived.Deep.WholeRow
import Derived.OrdersIn
import Derived.TacticsIn
set_option linter.unusedVariables false
set_option linter.unusedSimpArgs false
/-! Stab. -/
namespace Go.Proofs.Ytojbijkljnohoaa
open Go.RowKit
open Go.Proofs
open Go.Proofs.Ob
open Go.Shelf
open Go.Proofs.Cm (Gd)
attribute [local go_sem] Oper.semAt_some
attribute [local irreducible] Go.Calls Go.wpList Go.wpListIn

theorem Zhcl0 (args : Array Value) (w : World) : (callFunc 45 args).run Try.prog w = .ok (.enter 45 args) w := by kernel_rfl
theorem Zhcl1 (args : Array Value) (w : World) : (callFunc 92 args).run Try.prog w = .ok (.enter 92 args) w := by kernel_rfl
theorem Zhcl2 (args : Array Value) (w : World) : (callFunc 93 args).run Try.prog w = .ok (.enter 93 args) w := by kernel_rfl
theorem Zhcl3 (args : Array Value) (w : World) : (callFunc 94 args).run Try.prog w = .ok (.enter 94 args) w := by kernel_rfl
theorem Zhcl4 (args : Array Value) (w : World) : (callFunc 95 args).run Try.prog w = .ok (.enter 95 args) w := by kernel_rfl
set_option maxRecDepth 100000 in
set_option maxHeartbeats 16000000 in
theorem chStab_any {n k : Int} {ov rv : Value} {OO : List (List Int)} {RR : List (List (List Int))} {w : World} (h : ChEqR w ov rv OO RR) :
    Calls Try.prog 44 #[.agg #[.int .i64 n, ov, rv], .int .i64 k] w (StPost n OO RR k w) := by
  obtain ⟨oa, oc, rfl, -⟩ := h.1.shape
  obtain ⟨ra, rc, rfl⟩ := h.2.shape
  have HC := Lib.hid h
  have HR := Lib.hid h.2
  have K := Lib.hid (Below.refl w.heap.size w)
  clear h
  refine RF.calls_marks Try.func44 rfl ?_
  simp only [Try.ntmps44, List.size_toArray, List.length_cons, List.length_nil, Nat.reduceAdd, Nat.reduceSub, Array.replicate_succ, Array.replicate_zero, List.push_toArray, List.append_toArray, List.nil_append, List.cons_append]
  have hs0 : w.heap.size = w.heap.size + 0 := rfl
  go_upto_region 0 with (fail)
  refine wp_region_list ?_
  have hbx := box3 w (.int .i64 n) (.slice oa OO.length oc) (.slice ra RR.length rc)
  have hs : (w.alloc (.cells #[.int .i64 n, .slice oa OO.length oc, .slice ra RR.length rc] 51)).heap.size = w.heap.size + 1 := by simp
  refine Rg.list_run (some 2) rfl rfl (Rg.exec_box _ _ rfl rfl) ?_
  go_frame
  have hb := (Below.refl w.heap.size w).alloc (Nat.le_refl _) (.cells #[.int .i64 n, .slice oa OO.length oc, .slice ra RR.length rc] 51)
  generalize w.alloc (.cells #[.int .i64 n, .slice oa OO.length oc, .slice ra RR.length rc] 51) = w1 at *
  replace HC := Lib.hid (HC.out.below hb)
  replace K := Lib.hid (Rg.acc K.out hb)
  clear hb
  have A0 := Lib.hid hbx.1
  have A1 := Lib.hid hbx.2.1
  have A2 := Lib.hid hbx.2.2
  have hs1 : w1.heap.size = w.heap.size + 1 := by omega
  clear hs
  clear hbx
  have hnw := CW.new w1 (.int .i64 k) 3
  have hs : (w1.alloc (.cells #[.int .i64 k] 3)).heap.size = w1.heap.size + 1 := by simp
  refine Rg.list_run (some 3) rfl rfl (exec_boxV (v := .int .i64 k) _ _ rfl rfl rfl) ?_
  go_frame
  have hb := (Below.refl w1.heap.size w1).alloc (Nat.le_refl _) (.cells #[.int .i64 k] 3)
  generalize w1.alloc (.cells #[.int .i64 k] 3) = w2 at *
  replace HC := Lib.hid (HC.out.below hb)
  replace A0 := Lib.hid (A0.out.below hb)
  replace A1 := Lib.hid (A1.out.below hb)
  replace A2 := Lib.hid (A2.out.below hb)
  replace K := Lib.hid (Rg.acc K.out hb)
  clear hb
  rw [hs1] at hnw ⊢
  have hs2 : w2.heap.size = w.heap.size + 2 := by omega
  have CK := Lib.hid hnw
  clear hnw hs
  have hnw := Tri.new w2 (.int .i64 0) (.slice none 0 0) (.slice none 0 0)
  have hs : (w2.alloc (.cells #[.int .i64 0, .slice none 0 0, .slice none 0 0] 51)).heap.size = w2.heap.size + 1 := by simp
  refine Rg.list_run (some 4) rfl rfl (exec_allocC rfl) ?_
  go_frame
  have hb := (Below.refl w2.heap.size w2).alloc (Nat.le_refl _) (.cells #[.int .i64 0, .slice none 0 0, .slice none 0 0] 51)
  generalize w2.alloc (.cells #[.int .i64 0, .slice none 0 0, .slice none 0 0] 51) = w3 at *
  replace HC := Lib.hid (HC.out.below hb)
  replace A0 := Lib.hid (A0.out.below hb)
  replace A1 := Lib.hid (A1.out.below hb)
  replace A2 := Lib.hid (A2.out.below hb)
  replace CK := Lib.hid (CK.out.below hb)
  replace K := Lib.hid (Rg.acc K.out hb)
  clear hb
  rw [hs2] at hnw ⊢
  have hs3 : w3.heap.size = w.heap.size + 3 := by omega
  have FT := Lib.hid hnw
  clear hnw hs
  refine Rg.list_run (some 5) rfl rfl (Rg.exec_assign (v := .int .i64 0) _ rfl rfl) ?_
  go_frame
  obtain ⟨ck, hck⟩ : ∃ c, Hid (chCode n OO RR = c) := ⟨_, Lib.hid rfl⟩
  go_upto_region 1 with (fail)
  refine wp_region_list ?_
  refine Rg.list_run (some 13) rfl rfl (Rg.exec_load (v := (.agg #[.int .i64 n, .slice oa OO.length oc, .slice ra RR.length rc])) _ _ rfl ⟨w.heap.size, 0, none⟩ rfl (run_loadC3 A0.out.cell A1.out.cell A2.out.cell)) ?_
  go_frame
  refine list_ask (some 14) rfl rfl _ _ (exec_fn1 45 _ _ rfl rfl (Zhcl0 _ _)) ?_
  refine (chCheck_c HC.out).mono ?_
  rintro e1 w4 ⟨rfl, hb⟩
  rw [hck.out]
  refine ⟨_, rfl, ?_⟩
  go_frame
  replace HC := Lib.hid (HC.out.below hb)
  replace A0 := Lib.hid (A0.out.below hb)
  replace A1 := Lib.hid (A1.out.below hb)
  replace A2 := Lib.hid (A2.out.below hb)
  replace CK := Lib.hid (CK.out.below hb)
  replace FT := Lib.hid (FT.out.below hb)
  replace K := Lib.hid (Rg.acc K.out hb)
  clear hb
  refine Rg.list_run (some 6) rfl rfl (Rg.exec_assign (v := .int .i64 ck) _ rfl rfl) ?_
  go_frame
  by_cases h0 : ck = 0
  case neg =>
    skip
    go_upto_region 2 with (fail)
    refine wp_region_list ?_
    refine Rg.list_run (some 15) rfl rfl (Rg.exec_move (v := .int .i64 ck) _ rfl rfl) ?_
    go_frame
    refine Rg.list_run (some 16) rfl rfl (exec_bin (R := .bool true) .neq _ _ _ rfl rfl rfl (b_neqB _ (decide_eq_true h0))) ?_
    go_frame
    go_upto_region 3 with (fail)
    refine wp_region_list ?_
    refine Rg.list_run (some 17) rfl rfl (exec_buildC0 rfl) ?_
    go_frame
    refine Rg.list_run (some 18) rfl rfl (Rg.exec_move (v := .int .i64 ck) _ rfl rfl) ?_
    go_frame
    refine Rg.list_skip none rfl rfl (Rg.exec_store _ _ _ rfl _ rfl _ rfl (run_storeC _ _ _ _ _ _ _ FT.out)) ?_
    go_frame
    refine Rg.list_run (some 5) rfl rfl (Rg.exec_assign (v := .int .i64 ck) _ rfl rfl) ?_
    go_frame
    have htt := FT.out.set (.int .i64 0) (.slice none 0 0) (.slice none 0 0)
    have hkf := ((K.out.setCell (p := ⟨(w.heap.size + 2), 0, none⟩) (by show w.heap.size ≤ w.heap.size + 2; omega) (.int .i64 0)).setCell (p := ⟨(w.heap.size + 2), 1, none⟩) (by show w.heap.size ≤ w.heap.size + 2; omega) (.slice none 0 0)).setCell (p := ⟨(w.heap.size + 2), 2, none⟩) (by show w.heap.size ≤ w.heap.size + 2; omega) (.slice none 0 0)
    generalize ((w4.setCell ⟨(w.heap.size + 2), 0, none⟩ (.int .i64 0)).setCell ⟨(w.heap.size + 2), 1, none⟩ (.slice none 0 0)).setCell ⟨(w.heap.size + 2), 2, none⟩ (.slice none 0 0) = w99 at *
    have HTT := Lib.hid htt
    have KX := Lib.hid hkf
    have HV := Lib.hid (show stC n OO RR k = ck from by unfold stC; rw [if_neg (by rw [hck.out]; exact h0)]; exact hck.out)
    have HA := Lib.hid (show StAns n OO RR k w99 zeroC from .inl ⟨by rw [HV.out]; first | exact h0 | decide, rfl⟩)
    clear htt hkf 
    go_wp2
    exact st_leave (ds := []) KX.out HTT.out HA.out rfl (by rw [HV.out]; rfl) (by simp) (fun D hD => by simp at hD)
  case pos =>
    have HZ := Lib.hid (hck.out.trans h0)
    go_upto_region 2 with (fail)
    refine wp_region_list ?_
    refine Rg.list_run (some 15) rfl rfl (Rg.exec_move (v := .int .i64 ck) _ rfl rfl) ?_
    go_frame
    refine Rg.list_run (some 16) rfl rfl (exec_bin (R := .bool false) .neq _ _ _ rfl rfl rfl (b_neqB _ (decide_eq_false (fun e => e h0)))) ?_
    go_frame
    clear h0
    by_cases hk0 : k < 0
    case pos =>
      skip
      go_upto_region 4 with (fail)
      refine wp_region_list ?_
      refine Rg.list_run (some 19) rfl rfl (Rg.exec_load (v := .int .i64 k) _ _ rfl ⟨(w.heap.size + 1), 0, none⟩ rfl (run_loadInt CK.out.c)) ?_
      go_frame
      refine Rg.list_run (some 20) rfl rfl (exec_bin (R := .bool true) .lss _ _ _ rfl rfl rfl (b_lss _ (decide_eq_true (by omega)))) ?_
      go_frame
      refine Rg.list_run (some 21) rfl rfl (Rg.exec_move (v := .bool true) _ rfl rfl) ?_
      go_frame
      refine listW_pass (some 22) (by kernel_rfl) rfl ?_
      go_frame
      refine listW_pass (some 23) (by kernel_rfl) rfl ?_
      go_frame
      refine listW_pass (some 24) (by kernel_rfl) rfl ?_
      go_frame
      refine listW_pass (some 25) (by kernel_rfl) rfl ?_
      go_frame
      refine Rg.list_run (some 26) rfl rfl (exec_pickT (v := .bool true) _ _ _ rfl rfl rfl) ?_
      go_frame
      go_upto_region 5 with (fail)
      refine wp_region_list ?_
      refine Rg.list_run (some 27) rfl rfl (exec_buildC0 rfl) ?_
      go_frame
      refine Rg.list_skip none rfl rfl (Rg.exec_store _ _ _ rfl _ rfl _ rfl (run_storeC _ _ _ _ _ _ _ FT.out)) ?_
      go_frame
      refine Rg.list_run (some 5) rfl rfl (Rg.exec_assign (v := .int .i64 ((2 : Nat) : Int)) _ rfl rfl) ?_
      go_frame
      have htt := FT.out.set (.int .i64 0) (.slice none 0 0) (.slice none 0 0)
      have hkf := ((K.out.setCell (p := ⟨(w.heap.size + 2), 0, none⟩) (by show w.heap.size ≤ w.heap.size + 2; omega) (.int .i64 0)).setCell (p := ⟨(w.heap.size + 2), 1, none⟩) (by show w.heap.size ≤ w.heap.size + 2; omega) (.slice none 0 0)).setCell (p := ⟨(w.heap.size + 2), 2, none⟩) (by show w.heap.size ≤ w.heap.size + 2; omega) (.slice none 0 0)
      generalize ((w4.setCell ⟨(w.heap.size + 2), 0, none⟩ (.int .i64 0)).setCell ⟨(w.heap.size + 2), 1, none⟩ (.slice none 0 0)).setCell ⟨(w.heap.size + 2), 2, none⟩ (.slice none 0 0) = w99 at *
      have HTT := Lib.hid htt
      have KX := Lib.hid hkf
      have HV := Lib.hid (show stC n OO RR k = 2 from by unfold stC; rw [if_pos HZ.out, if_neg (by omega)])
      have HA := Lib.hid (show StAns n OO RR k w99 zeroC from .inl ⟨by rw [HV.out]; first | exact h0 | decide, rfl⟩)
      clear htt hkf hk0 hs0 hs1 hs2 hs3
      go_wp2
      exact st_leave (ds := []) KX.out HTT.out HA.out rfl (by rw [HV.out]; rfl) (by simp) (fun D hD => by simp at hD)
    by_cases hk1 : n < k
    case pos =>
      skip
      go_upto_region 4 with (fail)
      refine wp_region_list ?_
      refine Rg.list_run (some 19) rfl rfl (Rg.exec_load (v := .int .i64 k) _ _ rfl ⟨(w.heap.size + 1), 0, none⟩ rfl (run_loadInt CK.out.c)) ?_
      go_frame
      refine Rg.list_run (some 20) rfl rfl (exec_bin (R := .bool false) .lss _ _ _ rfl rfl rfl (b_lss _ (decide_eq_false (by omega)))) ?_
      go_frame
      refine Rg.list_run (some 21) rfl rfl (Rg.exec_move (v := .bool false) _ rfl rfl) ?_
      go_frame
      refine listW_run (some 22) rfl rfl (Rg.exec_load (v := .int .i64 k) _ _ rfl ⟨(w.heap.size + 1), 0, none⟩ rfl (run_loadInt CK.out.c)) ?_
      go_frame
      refine listW_run (some 23) rfl rfl (exec_field _ rfl rfl (chF0 _ _)) ?_
      go_frame
      refine listW_run (some 24) rfl rfl (Rg.exec_load (v := .int .i64 n) _ _ rfl ⟨w.heap.size, 0, none⟩ rfl (run_loadInt A0.out.cell)) ?_
      go_frame
      refine listW_run (some 25) rfl rfl (exec_bin (R := .bool true) .gtr _ _ _ rfl rfl rfl (b_gtr _ (decide_eq_true (by omega)))) ?_
      go_frame
      refine Rg.list_run (some 26) rfl rfl (exec_pickF (v := .bool true) _ _ _ rfl rfl rfl) ?_
      go_frame
      go_upto_region 5 with (fail)
      refine wp_region_list ?_
      refine Rg.list_run (some 27) rfl rfl (exec_buildC0 rfl) ?_
      go_frame
      refine Rg.list_skip none rfl rfl (Rg.exec_store _ _ _ rfl _ rfl _ rfl (run_storeC _ _ _ _ _ _ _ FT.out)) ?_
      go_frame
      refine Rg.list_run (some 5) rfl rfl (Rg.exec_assign (v := .int .i64 ((2 : Nat) : Int)) _ rfl rfl) ?_
      go_frame
      have htt := FT.out.set (.int .i64 0) (.slice none 0 0) (.slice none 0 0)
      have hkf := ((K.out.setCell (p := ⟨(w.heap.size + 2), 0, none⟩) (by show w.heap.size ≤ w.heap.size + 2; omega) (.int .i64 0)).setCell (p := ⟨(w.heap.size + 2), 1, none⟩) (by show w.heap.size ≤ w.heap.size + 2; omega) (.slice none 0 0)).setCell (p := ⟨(w.heap.size + 2), 2, none⟩) (by show w.heap.size ≤ w.heap.size + 2; omega) (.slice none 0 0)
      generalize ((w4.setCell ⟨(w.heap.size + 2), 0, none⟩ (.int .i64 0)).setCell ⟨(w.heap.size + 2), 1, none⟩ (.slice none 0 0)).setCell ⟨(w.heap.size + 2), 2, none⟩ (.slice none 0 0) = w99 at *
      have HTT := Lib.hid htt
      have KX := Lib.hid hkf
      have HV := Lib.hid (show stC n OO RR k = 2 from by unfold stC; rw [if_pos HZ.out, if_neg (by omega)])
      have HA := Lib.hid (show StAns n OO RR k w99 zeroC from .inl ⟨by rw [HV.out]; first | exact h0 | decide, rfl⟩)
      clear htt hkf hk0 hk1 hs0 hs1 hs2 hs3
      go_wp2
      exact st_leave (ds := []) KX.out HTT.out HA.out rfl (by rw [HV.out]; rfl) (by simp) (fun D hD => by simp at hD)
    go_upto_region 4 with (fail)
    refine wp_region_list ?_
    refine Rg.list_run (some 19) rfl rfl (Rg.exec_load (v := .int .i64 k) _ _ rfl ⟨(w.heap.size + 1), 0, none⟩ rfl (run_loadInt CK.out.c)) ?_
    go_frame
    refine Rg.list_run (some 20) rfl rfl (exec_bin (R := .bool false) .lss _ _ _ rfl rfl rfl (b_lss _ (decide_eq_false (by omega)))) ?_
    go_frame
    refine Rg.list_run (some 21) rfl rfl (Rg.exec_move (v := .bool false) _ rfl rfl) ?_
    go_frame
    refine listW_run (some 22) rfl rfl (Rg.exec_load (v := .int .i64 k) _ _ rfl ⟨(w.heap.size + 1), 0, none⟩ rfl (run_loadInt CK.out.c)) ?_
    go_frame
    refine listW_run (some 23) rfl rfl (exec_field _ rfl rfl (chF0 _ _)) ?_
    go_frame
    refine listW_run (some 24) rfl rfl (Rg.exec_load (v := .int .i64 n) _ _ rfl ⟨w.heap.size, 0, none⟩ rfl (run_loadInt A0.out.cell)) ?_
    go_frame
    refine listW_run (some 25) rfl rfl (exec_bin (R := .bool false) .gtr _ _ _ rfl rfl rfl (b_gtr _ (decide_eq_false (by omega)))) ?_
    go_frame
    refine Rg.list_run (some 26) rfl rfl (exec_pickF (v := .bool false) _ _ _ rfl rfl rfl) ?_
    go_frame
    have HSC := Lib.hid (show stC n OO RR k = 0 by unfold stC; rw [if_pos HZ.out, if_pos (by omega)])
    obtain ⟨N, O, R, rfl, hN1, hN2, hOO, hRR, hch, hgs⟩ := chCode_ok HZ.out
    have HOK := Lib.hid (chCode_ok HZ.out)
    have HLR := Lib.hid (show RR.length = N by rw [hRR, List.length_map, hch.lenR])
    have HLO := Lib.hid (show OO.length = N by rw [hOO, List.length_map, hch.lenO])
    have HON := Lib.hid (show ∀ X (h : X < OO.length) (h2 : X < RR.length), OO[X].length = RR[X].length ∧ 1 ≤ OO[X].length ∧ OO[X].length ≤ 64 from fun X h h2 => by
      have e := (chCode_ok HZ.out).row h2 h
      have hXn : X < N := by rw [hOO, List.length_map, hch.lenO] at h; exact h
      have hm : X ∈ O.getD X [] := (hch.orb X X hXn).2 ⟨Ma.oneN N, ⟨.one, Cm.Fx.one (by omega)⟩, Cm.ap_one hXn⟩
      have e2 : OO[X].length = (O.getD X []).length := by
        have hXO : X < O.length := by rw [hch.lenO]; exact hXn
        simp only [hOO, List.getElem_map, Ma.len_ofN, getD_inf hXO]
      have := List.length_pos_of_mem hm
      exact ⟨e.1.symm, by omega, by omega⟩)
    have HNN := Lib.hid (show k ≤ ((N : Nat) : Int) from by omega)
    clear hOO hRR hch hgs hk1
    go_upto_region 6 with (fail)
    refine wp_region_list ?_
    refine Rg.list_run (some 28) rfl rfl (exec_field _ rfl rfl (chF0 _ _)) ?_
    go_frame
    refine Rg.list_run (some 29) rfl rfl (Rg.exec_load (v := .int .i64 ((N : Nat) : Int)) _ _ rfl ⟨w.heap.size, 0, none⟩ rfl (run_loadInt A0.out.cell)) ?_
    go_frame
    refine Rg.list_run (some 30) rfl rfl (exec_buildC1 (d := ((N : Nat) : Int)) _ rfl rfl) ?_
    go_frame
    have hnw := Tri.new w4 (.int .i64 0) (.slice none 0 0) (.slice none 0 0)
    refine Rg.list_run (some 7) rfl rfl (exec_allocC rfl) ?_
    go_frame
    have hKB := (Below.refl w4.heap.size w4).alloc (Nat.le_refl _) (.cells #[.int .i64 0, .slice none 0 0, .slice none 0 0] 51)
    generalize w4.alloc (.cells #[.int .i64 0, .slice none 0 0, .slice none 0 0] 51) = w5 at *
    refine Rg.list_skip none rfl rfl (Rg.exec_store _ _ _ rfl _ rfl _ rfl (run_storeC _ _ _ _ _ _ _ hnw)) ?_
    go_frame
    have hFC := hnw.set (.int .i64 ((N : Nat) : Int)) (.slice none 0 0) (.slice none 0 0)
    have hK1 := ((hKB.setCell (p := ⟨w4.heap.size, 0, none⟩) (Nat.le_refl _) (.int .i64 ((N : Nat) : Int))).setCell (p := ⟨w4.heap.size, 1, none⟩) (Nat.le_refl _) (.slice none 0 0)).setCell (p := ⟨w4.heap.size, 2, none⟩) (Nat.le_refl _) (.slice none 0 0)
    generalize ((w5.setCell ⟨w4.heap.size, 0, none⟩ (.int .i64 ((N : Nat) : Int))).setCell ⟨w4.heap.size, 1, none⟩ (.slice none 0 0)).setCell ⟨w4.heap.size, 2, none⟩ (.slice none 0 0) = w50 at *
    have K1 := Lib.hid (show Below w4.heap.size w4 w50 from hK1)
    have CH := Lib.hid (ChR.start hFC (Nat.le_refl _))
    have HSZ := Lib.hid (show w.heap.size + 3 ≤ w4.heap.size by have := FT.out.lt; omega)
    clear hFC hK1 hKB hnw hs0 hs1 hs2 hs3
    go_upto_region 7 with (fail)
    refine wp_region_list ?_
    refine Rg.list_run (some 31) rfl rfl (Rg.exec_load (v := (.agg #[.int .i64 ((N : Nat) : Int), .slice oa OO.length oc, .slice ra RR.length rc])) _ _ rfl ⟨w.heap.size, 0, none⟩ rfl (run_loadC3 ((Below.cell (p := ⟨w.heap.size, 0, none⟩) K1.out A0.out.lt).trans A0.out.cell) ((Below.cell (p := ⟨w.heap.size, 1, none⟩) K1.out A1.out.lt).trans A1.out.cell) ((Below.cell (p := ⟨w.heap.size, 2, none⟩) K1.out A2.out.lt).trans A2.out.cell))) ?_
    go_frame
    refine list_ask (some 32) rfl rfl _ _ (exec_fn1 92 _ _ rfl rfl (Zhcl1 _ _)) ?_
    refine (reps_any _ _ _ w50).mono ?_
    rintro e1 w51 ⟨fb, rfl, hfb, hb⟩
    have hsz := hb.size
    refine ⟨_, rfl, ?_⟩
    go_frame
    replace CH := Lib.hid (CH.out.below hb)
    replace K1 := Lib.hid (Rg.acc K1.out hb)
    clear hb
    have FB := Lib.hid hfb
    clear hfb
    have HS0 := Lib.hid (show w.heap.size + 4 ≤ w51.heap.size by have := CH.out.tri.lt; have := HSZ.out; omega)
    have HS1 := Lib.hid (show w4.heap.size < w51.heap.size from CH.out.tri.lt)
    clear hsz
    obtain ⟨us, hus, hul, hur⟩ := HR.out
    have HUR := Lib.hid hur
    have KW := Lib.hid (show Below w.heap.size w w51 from K.out.trans (K1.out.mono K.out.size))
    have hrv : RV3 w.heap.size w51 ra RR.length (fun k => us[k]?.getD undef) := by
      obtain ⟨a', c', e, q1, q2, q3, q4⟩ := hus
      injection e with e1 e2 e3
      refine ⟨by have := HLR.out; omega, fun h0 => ?_, fun b off e5 j hj => ?_, KW.out.size⟩
      · obtain ⟨b, o, e4, e5, _⟩ := q4 (by omega)
        exact ⟨b, o, e1.trans e4, e5⟩
      · obtain ⟨b', o', e4, e6, e7⟩ := q4 (by omega)
        rw [e1, e4] at e5
        simp only [Option.some.injEq, Addr.mk.injEq, and_true] at e5
        obtain ⟨rfl, rfl⟩ := e5
        rw [(KW.out.cell (p := ⟨b', o' + j, none⟩) e6)]
        show _ = some (us[j]?.getD undef)
        rw [List.getElem?_eq_getElem (by omega)]
        exact e7 j (by omega)
    have HRV := Lib.hid hrv
    have HUL := Lib.hid hul
    clear hus hrv hul hur
    go_wp2
    refine range_reps2 rfl FB.out HRV.out rfl (fun pre W => (∃ ov rv, ChR w4.heap.size W w4.heap.size (.int .i64 ((N : Nat) : Int)) ov rv ov rv (pre.map fun z => fO k OO z.1) (pre.map fun z => fR ((N : Nat) : Int) k RR z.1)) ∧ Below w4.heap.size w4 W)
      (fun c pre W => False) ?hI ?hIx ⟨⟨_, _, CH.out⟩, K1.out⟩ ?a1 ?assign ?body ?done ?stop
    case assign =>
      intro l x W K hK
      gi_wp2
      exact hK
    case hI =>
      rintro pre W W' row ⟨⟨ov, rv, h1⟩, h2⟩ hg hr
      exact ⟨⟨ov, rv, h1.nc hg (fun r e => (hr r e).2)⟩, h2.grown hg h2.size (fun k e => by have := (hr k e).1; have := HS1.out; omega)⟩
    case hIx =>
      intro c pre W W' row h hg hr
      exact h
    case stop =>
      intro D c k' W hD hk h hd
      exact h.elim
    case body =>
      rintro l pre ⟨X, hX⟩ Wb ⟨⟨ov, rv, hch⟩, hbl⟩ hpl
      obtain ⟨B, hB⟩ : ∃ B, w51.heap.size = B := ⟨_, rfl⟩
      rw [hB] at HS0 HS1 ⊢
      clear FB HRV CH K1 KW hB
      have hXn : X < N := by have := HLR.out; omega
      have CH := Lib.hid hch
      have K1 := Lib.hid hbl
      obtain ⟨OL, hOL⟩ : ∃ l, Hid ((pre.map fun z => fO k OO z.1) = l) := ⟨_, Lib.hid rfl⟩
      obtain ⟨RL, hRL⟩ : ∃ l, Hid ((pre.map fun z => fR ((N : Nat) : Int) k RR z.1) = l) := ⟨_, Lib.hid rfl⟩
      rw [hOL.out, hRL.out] at CH
      have HOLN := Lib.hid (show OL.length < 1000000 by rw [← hOL.out, List.length_map]; have := HLR.out; omega)
      have HRLN := Lib.hid (show RL.length < 1000000 by rw [← hRL.out, List.length_map]; have := HLR.out; omega)
      obtain ⟨ova, ovc, rfl⟩ := CH.out.shapeO
      obtain ⟨rva, rvc, rfl⟩ := CH.out.shapeR
      have HXR := Lib.hid hX
      have HXN := Lib.hid hXn
      have HXO := Lib.hid (show X < OO.length by have := HLO.out; omega)
      clear hch hbl
      have hu := HUR.out X (by rw [HUL.out]; exact hX) hX
      have e1 : us[X]?.getD undef = us[X]'(by rw [HUL.out]; exact hX) := by rw [List.getElem?_eq_getElem (by rw [HUL.out]; exact hX)]; rfl
      rw [← e1] at hu
      dsimp only
      generalize us[X]?.getD undef = u at *
      clear e1
      obtain ⟨r, hr⟩ : ∃ r : List (List Int), Hid (RR[X]'hX = r) := ⟨_, Lib.hid rfl⟩
      obtain ⟨ol, hol⟩ : ∃ o : List Int, Hid (OO[X]'HXO.out = o) := ⟨_, Lib.hid rfl⟩
      rw [hr.out] at hu
      obtain ⟨ua, uc, rfl, -, -, -, hrc⟩ := hu.shape
      have HRC := Lib.hid hrc
      have hon := HON.out X HXO.out hX
      rw [hr.out, hol.out] at hon
      have HLE := Lib.hid hon
      have HXP := Lib.hid (show ∀ x ∈ r, (x.length : Int) = ((N : Nat) : Int) from fun x hx => (HOK.out.perm hX (by rw [hr.out]; exact hx)).1)
      clear hrc hon hu
      obtain ⟨oa', oc', e2, -, -, -, hos⟩ := HC.out.1.shape
      injection e2 with e3 _ e5
      subst e3 e5
      obtain ⟨ob, oo, rfl, hob, hos⟩ := hos (by have := HXO.out; omega)
      obtain ⟨yv, hyc, hyi⟩ := hos X HXO.out
      rw [hol.out] at hyi
      obtain ⟨qa, qc, rfl, -⟩ := hyi.shape
      have CO := Lib.hid (CL.mk hyc hob)
      have IO := Lib.hid hyi
      obtain ⟨M, hM⟩ : ∃ M, Hid (MK w4.heap.size (.slice ova OL.length ovc) (.slice rva RL.length rvc) = M) := ⟨_, Lib.hid rfl⟩
      have HMC := Lib.hid (show ∀ z, M z → ∃ o : Obj, Wb.heap[z]? = some o ∧ o.isCells = true by rw [← hM.out]; exact CH.out.isCells)
      have HMO := Lib.hid (show (∀ z, (Value.slice ova OL.length ovc).ownBlock = some z → M z) ∧ (∀ z, (Value.slice rva RL.length rvc).ownBlock = some z → M z) ∧ M w4.heap.size by rw [← hM.out]; exact ⟨fun z e => .inr (.inl e), fun z e => .inr (.inr e), .inl rfl⟩)
      have HML := Lib.hid (show ∀ z, M z → w4.heap.size ≤ z by
        rw [← hM.out]
        rintro z (e | e | e)
        · omega
        · exact (CH.out.lts.1 z e).1
        · exact (CH.out.lts.2 z e).1)
      have HBW := Lib.hid (show w4.heap.size ≤ Wb.heap.size from Nat.le_of_lt CH.out.tri.lt)
      clear hos hyc hyi hob
      by_cases hXk : (X : Int) < k
      case pos =>
        have HF1 := Lib.hid (show fO k OO X = [(X : Int)] from if_pos hXk)
        have HF2 := Lib.hid (show fR ((N : Nat) : Int) k RR X = [oneI ((N : Nat) : Int)] from if_pos hXk)
        gi_upto_region 10 with (fail)
        refine wpIn_region_list ?_
        refine Rg.in_run (some 35) rfl rfl (fun _ hh => by cases hh) (Rg.exec_move (v := .int .i64 ((X : Nat) : Int)) _ rfl rfl) ?_
        go_frame
        refine Rg.in_run (some 36) rfl rfl (fun _ hh => by cases hh) (Rg.exec_load (v := .int .i64 k) _ _ rfl ⟨(w.heap.size + 1), 0, none⟩ rfl (run_loadInt ((Below.cell (p := ⟨(w.heap.size + 1), 0, none⟩) K1.out CK.out.lt).trans CK.out.c))) ?_
        go_frame
        refine Rg.in_run (some 37) rfl rfl (fun _ hh => by cases hh) (exec_bin (R := .bool true) .lss _ _ _ rfl rfl rfl (b_lss _ (decide_eq_true (by omega)))) ?_
        go_frame
        gi_upto_region 11 with (fail)
        have hV1 : Below Wb.heap.size Wb Wb.drew := (Below.refl _ _).drew
        have hWr : Below Wb.heap.size Wb Wb.drew := (Below.refl _ _).drew
        replace CH := Lib.hid (CH.out.below hV1)
        replace K1 := Lib.hid (K1.out.trans (hV1.mono HBW.out))
        clear hV1
        have hV0 : Below Wb.heap.size Wb Wb.drew := (Below.refl _ _).drew
        generalize Fup (fun _ : Nat => True) Wb Wb.drew = F1 at *
        clear hV0
        refine Rg.Any.beginIn (hnd := by kernel_rfl) (S := Rg.Both 15 (StI w4.heap.size (.int .i64 ((N : Nat) : Int)) (Value.slice ova OL.length ovc) (Value.slice rva RL.length rvc) M w4 Wb) (fun W : World => Below w4.heap.size w4 W)) mix ?_
        generalize Wb.drew = w61 at *
        have hS : ∀ (l : Array Bool) W, (StI w4.heap.size (.int .i64 ((N : Nat) : Int)) (Value.slice ova OL.length ovc) (Value.slice rva RL.length rvc) M w4 Wb) W → Rg.Both 15 (StI w4.heap.size (.int .i64 ((N : Nat) : Int)) (Value.slice ova OL.length ovc) (Value.slice rva RL.length rvc) M w4 Wb) (fun W : World => Below w4.heap.size w4 W) l W := fun l W h => ⟨.inr h, h.2.1⟩
        have hS2 : ∀ (l : Array Bool) W, l.getD 15 false = true → (fun W : World => Below w4.heap.size w4 W) W → Rg.Both 15 (StI w4.heap.size (.int .i64 ((N : Nat) : Int)) (Value.slice ova OL.length ovc) (Value.slice rva RL.length rvc) M w4 Wb) (fun W : World => Below w4.heap.size w4 W) l W := fun l W h h2 => ⟨.inl h, h2⟩
        have hI : (StI w4.heap.size (.int .i64 ((N : Nat) : Int)) (Value.slice ova OL.length ovc) (Value.slice rva RL.length rvc) M w4 Wb) w61 := ⟨CH.out.tri, K1.out, Rg.Kp.of_below (M := M) hWr⟩
        refine Rg.Any.takeG (i := 0) (t := 15) (v := .pointer (some ⟨w4.heap.size, 1, none⟩)) (some 38) rfl rfl (by kernel_rfl) (by kernel_rfl) (by kernel_rfl) (fun _ _ _ h => h) rfl (.inl ⟨rfl, fun w _ => exec_field _ rfl rfl (chF1 _ _)⟩) (hS _ _ hI) ?_
        go_frame
        refine Rg.Any.takeT (i := 1) (t := 15) (v := .slice ova OL.length ovc) (some 39) rfl rfl (by kernel_rfl) (by kernel_rfl) (by kernel_rfl) (fun _ _ _ h => h) rfl (by kernel_rfl) rfl (Rg.yields_cell _ _ rfl rfl ⟨w4.heap.size, 1, none⟩ rfl (fun W hW => Rg.run_loadSl _ _ Try.underlying41 hW.1.c1)) (hS _ _ hI) ?_
        go_frame
        refine Rg.Any.takeG (i := 2) (t := 15) (v := .int .i64 ((X : Nat) : Int)) (some 40) rfl rfl (by kernel_rfl) (by kernel_rfl) (by kernel_rfl) (fun _ _ _ h => h) rfl (.inl ⟨rfl, fun w _ => Rg.exec_move (v := .int .i64 ((X : Nat) : Int)) _ rfl rfl⟩) (hS _ _ hI) ?_
        go_frame
        refine Rg.Any.takeG (i := 6) (t := 15) (v := .pointer (some ⟨w4.heap.size, 2, none⟩)) (some 44) rfl rfl (by kernel_rfl) (by kernel_rfl) (by kernel_rfl) (fun _ _ _ h => h) rfl (.inl ⟨rfl, fun w _ => exec_field _ rfl rfl (chF2 _ _)⟩) (hS _ _ hI) ?_
        go_frame
        refine Rg.Any.takeT (i := 7) (t := 15) (v := .slice rva RL.length rvc) (some 45) rfl rfl (by kernel_rfl) (by kernel_rfl) (by kernel_rfl) (fun _ _ _ h => h) rfl (by kernel_rfl) rfl (Rg.yields_cell _ _ rfl rfl ⟨w4.heap.size, 2, none⟩ rfl (fun W hW => Rg.run_loadSl _ _ Try.underlying49 hW.1.c2)) (hS _ _ hI) ?_
        go_frame
        refine Rg.Any.takeG (i := 8) (t := 15) (v := .pointer (some ⟨w.heap.size, 0, none⟩)) (some 46) rfl rfl (by kernel_rfl) (by kernel_rfl) (by kernel_rfl) (fun _ _ _ h => h) rfl (.inl ⟨rfl, fun w _ => exec_field _ rfl rfl (chF0 _ _)⟩) (hS _ _ hI) ?_
        go_frame
        refine Rg.Any.takeG (i := 9) (t := 15) (v := .int .i64 ((N : Nat) : Int)) (some 47) rfl rfl (by kernel_rfl) (by kernel_rfl) (by kernel_rfl) (fun _ _ _ h => h) rfl (Rg.yields_cell _ _ rfl rfl ⟨w.heap.size, 0, none⟩ rfl (fun W hW => run_loadInt ((Below.cell (p := ⟨w.heap.size, 0, none⟩) hW A0.out.lt).trans A0.out.cell))) (hS _ _ hI) ?_
        go_frame
        obtain ⟨wp1, wp2, a3, c3, X3, hp1, hp2, hp3, hp4, q1, q2, q3⟩ := CH.out.putO (Nat.le_of_lt CH.out.tri.lt) HOLN.out ((X : Nat) : Int) 41
        have HVS := Lib.hid (show (∀ z, (Value.slice ova OL.length ovc).ownBlock = some z → z < w61.heap.size) ∧ (∀ z, (Value.slice rva RL.length rvc).ownBlock = some z → z < w61.heap.size) ∧ w4.heap.size < w61.heap.size from ⟨fun z e => (CH.out.lts.1 z e).2, fun z e => (CH.out.lts.2 z e).2, CH.out.tri.lt⟩)
        have q41 := run_build1i w61 ((X : Nat) : Int)
        rw [hp1] at q41
        have hI2_m := hI.st hp3
        refine Rg.Any.one (i := 3) (by kernel_rfl) (Rg.Any.run (some 41) rfl rfl rfl (Rg.exec_buildSlice _ _ _ rfl (.int .i64 ((X : Nat) : Int)) rfl q41) (hS _ _ hI2_m) ?_)
        go_frame
        have q42 := run_build1L wp1 (.slice (some ⟨w61.heap.size, 0, none⟩) 1 1) ⟨_, _, _, rfl⟩
        rw [hp2] at q42
        have hI3_m := hI2_m.st hp4
        refine Rg.Any.one (i := 4) (by kernel_rfl) (Rg.Any.run (some 42) rfl rfl rfl (Rg.exec_buildSlice _ _ _ rfl (.slice (some ⟨w61.heap.size, 0, none⟩) 1 1) rfl q42) (hS _ _ hI3_m) ?_)
        go_frame
        have HOW := Lib.hid (fun j e => (CH.out.lts.1 j e).1)
        have hI4_m := (show StI _ _ _ _ _ _ _ _ from ⟨q2.tri, hI3_m.2.1.grown q3 hI3_m.2.1.size (fun j e => (HOW.out j e)), Rg.Kp.trans (M := M) hI3_m.2.2 (Rg.Kp.of_grown q3 (M := M) fun z e => HMO.out.1 z e) (fun _ _ e => e)⟩)
        refine Rg.Any.one (i := 5) (by kernel_rfl) (Rg.Any.run (some 43) rfl rfl rfl (Rg.exec_append _ _ _ rfl rfl rfl q1) (hS _ _ hI4_m) ?_)
        go_frame
        refine Rg.Any.takeG (i := 14) (t := 15) (v := .pointer (some ⟨w4.heap.size, 1, none⟩)) (some 52) rfl rfl (by kernel_rfl) (by kernel_rfl) (by kernel_rfl) (fun _ _ _ h => h) rfl (.inl ⟨rfl, fun w _ => exec_field _ rfl rfl (chF1 _ _)⟩) (hS _ _ hI4_m) ?_
        go_frame
        have HWX := Lib.hid (show w4.heap.size ≤ X3.heap.size from Nat.le_of_lt q2.tri.lt)
        have HXS := Lib.hid (show (∀ z, (Value.slice a3 (OL.length + 1) c3).ownBlock = some z → z < X3.heap.size) ∧ (∀ z, (Value.slice rva RL.length rvc).ownBlock = some z → z < X3.heap.size) ∧ w4.heap.size < X3.heap.size from ⟨fun z e => (q2.lts.1 z e).2, fun z e => (q2.lts.2 z e).2, q2.tri.lt⟩)
        refine Rg.Any.one (i := 10) (by kernel_rfl) (Rg.Any.ask (some 48) rfl rfl rfl _ _ (exec_fn1 93 _ _ rfl rfl (Zhcl2 _ _)) ?_)
        refine (chOne_any N X3 (by omega)).mono ?_
        rintro e1 w62 ⟨ov1, rfl, hone, hb⟩
        obtain ⟨b1, o1, c1, rfl⟩ := FP.shape' (FP.new (F := fun _ => True) hone) (Cm.gd_one N) hN1
        obtain ⟨wq1, wq2, a4, c4, X4, hr1, hr2, hr3, hr4, r1, r2, r3⟩ := (q2.below hb).putR (Nat.le_trans HWX.out hb.size) HRLN.out hb HXS.out HWX.out hone ⟨_, _, _, rfl⟩ 49
        have hI5_u := hI4_m.st hb
        clear hI4_m
        generalize Fup F1 X3 w62 = F2 at *
        clear hb
        refine ⟨_, rfl, (hS _ _ hI5_u), ?_⟩
        go_frame
        have q49 := run_build1P w62 (.slice (some ⟨b1, o1, none⟩) N c1) ⟨_, _, _, rfl⟩
        rw [hr1] at q49
        have hI6_m := hI5_u.st hr3
        refine Rg.Any.one (i := 11) (by kernel_rfl) (Rg.Any.run (some 49) rfl rfl rfl (Rg.exec_buildSlice _ _ _ rfl (.slice (some ⟨b1, o1, none⟩) N c1) rfl q49) (hS _ _ hI6_m) ?_)
        go_frame
        have q50 := run_build1PP wq1 (.slice (some ⟨w62.heap.size, 0, none⟩) 1 1) ⟨_, _, _, rfl⟩
        rw [hr2] at q50
        have hI7_m := hI6_m.st hr4
        refine Rg.Any.one (i := 12) (by kernel_rfl) (Rg.Any.run (some 50) rfl rfl rfl (Rg.exec_buildSlice _ _ _ rfl (.slice (some ⟨w62.heap.size, 0, none⟩) 1 1) rfl q50) (hS _ _ hI7_m) ?_)
        go_frame
        have HRW := Lib.hid (fun j e => (CH.out.lts.2 j e).1)
        have hI8_m := (show StI _ _ _ _ _ _ _ _ from ⟨r2.tri, hI7_m.2.1.grown r3 hI7_m.2.1.size (fun j e => (HRW.out j e)), Rg.Kp.trans (M := M) hI7_m.2.2 (Rg.Kp.of_grown r3 (M := M) fun z e => HMO.out.2.1 z e) (fun _ _ e => e)⟩)
        refine Rg.Any.one (i := 13) (by kernel_rfl) (Rg.Any.run (some 51) rfl rfl rfl (Rg.exec_append _ _ _ rfl rfl rfl r1) (hS _ _ hI8_m) ?_)
        go_frame
        have hKX := hI8_m
        have hJ9 := hKX.2.1.setCell (p := ⟨w4.heap.size, 1, none⟩) (Nat.le_refl _) (.slice a3 (OL.length + 1) c3)
        refine Rg.Any.one (i := 15) (by kernel_rfl) (Rg.Any.runSkip none rfl rfl rfl (Rg.exec_store _ _ _ rfl _ rfl _ rfl (Rg.run_storeSl _ infoIntss r2.tri.c1 r2.tri.f1)) (hS2 _ _ rfl hJ9) ?_)
        go_frame
        refine Rg.Any.takeG (i := 16) (t := 15) (v := .pointer (some ⟨w4.heap.size, 2, none⟩)) (some 53) rfl rfl (by kernel_rfl) (by kernel_rfl) (by kernel_rfl) (fun _ _ _ h => h) rfl (.inl ⟨rfl, fun w _ => exec_field _ rfl rfl (chF2 _ _)⟩) (hS2 _ _ rfl hJ9) ?_
        go_frame
        have hJ10 := (hKX.2.1.setCell (p := ⟨w4.heap.size, 1, none⟩) (Nat.le_refl _) (.slice a3 (OL.length + 1) c3)).setCell (p := ⟨w4.heap.size, 2, none⟩) (Nat.le_refl _) (.slice a4 (RL.length + 1) c4)
        refine Rg.Any.one (i := 17) (by kernel_rfl) (Rg.Any.runSkip none rfl rfl rfl (Rg.exec_store _ _ _ rfl _ rfl _ rfl (Rg.run_storeSl _ infoPermss (r2.tri.set1 _).c2 (r2.tri.set1 _).f2)) (hS2 _ _ rfl hJ10) ?_)
        go_frame
        refine Rg.Any.done (by kernel_rfl) ?_ _
        refine Rg.onlyN_i ?_
        clear hS2
        clear hS hI8_m
        have hst := r2.store (.slice a3 (OL.length + 1) c3) (.slice a4 (RL.length + 1) c4)
        have hkk := (hKX.2.1.setCell (p := ⟨w4.heap.size, 1, none⟩) (Nat.le_refl _) (.slice a3 (OL.length + 1) c3)).setCell (p := ⟨w4.heap.size, 2, none⟩) (Nat.le_refl _) (.slice a4 (RL.length + 1) c4)
        have hkm := Rg.Kp.trans (M := M) (Rg.Kp.trans (M := M) hKX.2.2 (Rg.Kp.of_setCell (M := M) (a := ⟨w4.heap.size, 1, none⟩) (v := .slice a3 (OL.length + 1) c3) HMO.out.2.2) (fun _ _ e => e)) (Rg.Kp.of_setCell (M := M) (a := ⟨w4.heap.size, 2, none⟩) (v := .slice a4 (RL.length + 1) c4) HMO.out.2.2) (fun _ _ e => e)
        generalize (X4.setCell ⟨w4.heap.size, 1, none⟩ (.slice a3 (OL.length + 1) c3)).setCell ⟨w4.heap.size, 2, none⟩ (.slice a4 (RL.length + 1) c4) = w199 at *
        have CH2 := Lib.hid (show ChR w4.heap.size w199 w4.heap.size (.int .i64 ((N : Nat) : Int)) (.slice a3 (OL.length + 1) c3) (.slice a4 (RL.length + 1) c4) (.slice a3 (OL.length + 1) c3) (.slice a4 (RL.length + 1) c4) ((pre ++ [(⟨X, HXR.out⟩ : Fin RR.length)]).map fun z => fO k OO z.1) ((pre ++ [(⟨X, HXR.out⟩ : Fin RR.length)]).map fun z => fR ((N : Nat) : Int) k RR z.1) by rw [List.map_append, List.map_append, hOL.out, hRL.out]; simp only [List.map_cons, List.map_nil]; rw [show fO k OO X = [(X : Int)] from HF1.out, show fR ((N : Nat) : Int) k RR X = [oneI ((N : Nat) : Int)] from HF2.out]; exact hst)
        have K2 := Lib.hid hkk
        have KP2 := Lib.hid (keepsK (B := B) hkm HMC.out)
        have KB2 := Lib.hid (show Below w.heap.size Wb w199 from kp_low hkm (by have := HBW.out; have := HSZ.out; omega) (fun z hz => by have := HML.out z hz; have := HSZ.out; omega))
        clear hst hkk hkm
        gi_wp2
        exact ⟨KP2.out, KB2.out, ⟨_, _, CH2.out⟩, K2.out⟩
      case neg =>
        have HF1 := Lib.hid (show fO k OO X = ol by unfold fO; rw [if_neg hXk, getD_in2 HXO.out]; exact hol.out)
        have HF2 := Lib.hid (show fR ((N : Nat) : Int) k RR X = r by unfold fR; rw [if_neg hXk, getD_in2 HXR.out]; exact hr.out)
        gi_upto_region 10 with (fail)
        refine wpIn_region_list ?_
        refine Rg.in_run (some 35) rfl rfl (fun _ hh => by cases hh) (Rg.exec_move (v := .int .i64 ((X : Nat) : Int)) _ rfl rfl) ?_
        go_frame
        refine Rg.in_run (some 36) rfl rfl (fun _ hh => by cases hh) (Rg.exec_load (v := .int .i64 k) _ _ rfl ⟨(w.heap.size + 1), 0, none⟩ rfl (run_loadInt ((Below.cell (p := ⟨(w.heap.size + 1), 0, none⟩) K1.out CK.out.lt).trans CK.out.c))) ?_
        go_frame
        refine Rg.in_run (some 37) rfl rfl (fun _ hh => by cases hh) (exec_bin (R := .bool false) .lss _ _ _ rfl rfl rfl (b_lss _ (decide_eq_false (by omega)))) ?_
        go_frame
        gi_upto_region 12 with (fail)
        refine wpIn_region_list ?_
        refine Rg.in_run (some 10) rfl rfl (fun _ hh => by cases hh) (Rg.exec_assign (v := .slice none 0 0) _ rfl rfl) ?_
        go_frame
        gi_upto_region 13 with (fail)
        refine wpIn_region_list ?_
        refine Rg.in_run (some 54) rfl rfl (fun _ hh => by cases hh) (Rg.exec_move (v := .slice ua r.length uc) _ rfl rfl) ?_
        go_frame
        refine Rg.in_run (some 55) rfl rfl (fun _ hh => by cases hh) (exec_len _ _ _ rfl Try.underlying22 _ _ _ rfl) ?_
        go_frame
        refine Rg.in_run (some 56) rfl rfl (fun _ hh => by cases hh) (Rg.exec_move (v := .int .i64 ((0 : Nat) : Int)) _ rfl rfl) ?_
        go_frame
        have KWb := Lib.hid (show Below w.heap.size w Wb from K.out.trans (K1.out.mono K.out.size))
        have K5 := Lib.hid (Below.refl Wb.heap.size Wb)
        have RP := Lib.hid (show RowP Wb.heap.size Wb (.slice none 0 0) (r.take 0) from RowP.nil Wb.heap.size Wb)
        have HRL := Lib.hid (show r.length ≤ 64 by have := HLE.out; omega)
        clear hXk
        gi_wp2
        gi_loopw [56, 10] (fun iv tv wr => ∃ m : Nat, iv = .int .i64 m ∧ m ≤ r.length ∧ Hid (RowP Wb.heap.size wr tv (r.take m)) ∧ Hid (Below Wb.heap.size Wb wr)) (fun iv _ _ => r.length - (intOf iv).toNat)
        case atStart => exact ⟨0, rfl, Nat.zero_le _, RP, K5⟩
        case round =>
          clear K5 RP
          obtain ⟨m, rfl, hm, RP, K5⟩ := hrel
          have hrb : r.length ≤ 64 := HRL.out
          obtain ⟨ta, tc, htv⟩ := RP.out.shape
          rw [List.length_take, Nat.min_eq_left hm] at htv
          subst htv
          by_cases hml : m < r.length
          · have hmN : (m : Int) < (r.length : Int) := by omega
            have HML := Lib.hid hml
            obtain ⟨ub, uo, rfl, hub, huc⟩ := HRC.out (by omega)
            obtain ⟨sv, hsc, hsi⟩ := huc m hml
            obtain ⟨x, hx⟩ : ∃ x : List Int, Hid (r[m]'hml = x) := ⟨_, Lib.hid rfl⟩
            rw [hx.out] at hsi
            have hxl : (x.length : Int) = ((N : Nat) : Int) := HXP.out x (by rw [← hx.out]; exact List.getElem_mem hml)
            obtain ⟨sa, sc, rfl, -⟩ := hsi.shape
            have CS := Lib.hid ((CL.mk hsc hub).below KWb.out)
            have NS := Lib.hid (Rg.Ints.below hsi KWb.out)
            have HXL := Lib.hid (show x.length = N by omega)
            clear huc hsc hsi hub hxl
            gi_upto_region 14 with (fail)
            refine wpIn_region_list ?_
            refine Rg.in_run (some 57) rfl rfl (fun _ hh => by cases hh) (exec_bin (R := .bool true) .lss _ _ _ rfl rfl rfl (b_lss _ (decide_eq_true (by omega)))) ?_
            go_frame
            gi_upto_region 15 with (fail)
            refine wpIn_region_list ?_
            refine Rg.in_run (some 58) rfl rfl (fun _ hh => by cases hh) (exec_indexS slPerms _ _ rfl ub (uo) (r.length) uc (m) rfl rfl HML.out) ?_
            go_frame
            refine Rg.in_run (some 59) rfl rfl (fun _ hh => by cases hh) (Rg.exec_load (v := .slice sa x.length sc) _ _ rfl ⟨ub, uo + m, none⟩ rfl (Rg.run_loadSl _ _ Try.underlying62 ((Below.cell (p := ⟨ub, uo + m, none⟩) K5.out CS.out.lt).trans CS.out.cell))) ?_
            go_frame
            refine Rg.in_run (some 12) rfl rfl (fun _ hh => by cases hh) (Rg.exec_assign (v := .slice sa x.length sc) _ rfl rfl) ?_
            go_frame
            gi_upto_region 16 with (fail)
            refine wpIn_region_list ?_
            refine Rg.in_run (some 60) rfl rfl (fun _ hh => by cases hh) (Rg.exec_move (v := .slice ta m tc) _ rfl rfl) ?_
            go_frame
            refine Rg.in_run (some 61) rfl rfl (fun _ hh => by cases hh) (Rg.exec_move (v := .slice sa x.length sc) _ rfl rfl) ?_
            go_frame
            have HLT6 := Lib.hid (fun z e => (RP.out.lt z e).2)
            have HSZ6 := Lib.hid K5.out.size
            refine Rg.in_ask (some 62) rfl rfl (fun _ hh => by cases hh) _ _ (exec_fn1 94 _ _ rfl rfl (Zhcl3 _ _)) ?_
            refine (Clone_any _ x wr (NS.out.below K5.out) (by rw [HXL.out]; exact hN1) (by rw [HXL.out]; omega)).mono ?_
            rintro e1 w141 ⟨cv, rfl, hrow, hb⟩
            obtain ⟨ca, cc, rfl⟩ := Rg.row_shape hrow
            have HROW := Lib.hid hrow
            refine ⟨_, rfl, ?_⟩
            go_frame
            replace RP := Lib.hid (RP.out.below hb)
            replace K5 := Lib.hid (Rg.acc K5.out hb)
            clear hb
            refine Rg.in_run (some 63) rfl rfl (fun _ hh => by cases hh) (Rg.exec_buildSlice _ _ _ rfl (.slice ca x.length cc) rfl (run_build1P w141 _ ⟨_, _, _, rfl⟩)) ?_
            go_frame
            obtain ⟨a9, c9, X9, r1, r2, r3⟩ := RP.out.push K5.out.size HROW.out (by rw [HXL.out]; omega) (fun z e => ⟨by have := (HROW.out.lt z e).1; have := HSZ6.out; omega, fun e2 => by have := (HROW.out.lt z e).1; have := HLT6.out z e2; omega⟩) (by rw [List.length_take]; omega) 22
            have r1 := r1
            rw [List.length_take, Nat.min_eq_left (Nat.le_of_lt HML.out)] at r1 r2
            refine Rg.in_run (some 64) rfl rfl (fun _ hh => by cases hh) (Rg.exec_append _ _ _ rfl rfl rfl r1) ?_
            go_frame
            refine Rg.in_run (some 10) rfl rfl (fun _ hh => by cases hh) (Rg.exec_assign (v := .slice a9 (m + 1) c9) _ rfl rfl) ?_
            go_frame
            have K6 := Lib.hid (r3 (Nat.le_refl _) K5.out)
            have RP2 := Lib.hid (show RowP Wb.heap.size X9 (.slice a9 (m + 1) c9) (r.take (m + 1)) by rw [List.take_succ_eq_append_getElem HML.out, show r[m]'HML.out = x from hx.out]; exact r2)
            clear r1 r2 r3
            gi_wp2
            go_roundw
            case rel => exact ⟨m + 1, by go_num, HML.out, RP2, K6⟩
            case measure => simp [intOf]; have := HML.out; omega
          · obtain rfl : m = r.length := by omega
            have hmN : ¬ (r.length : Int) < (r.length : Int) := by omega
            rw [List.take_length] at RP
            gi_upto_region 14 with (fail)
            refine wpIn_region_list ?_
            refine Rg.in_run (some 57) rfl rfl (fun _ hh => by cases hh) (exec_bin (R := .bool false) .lss _ _ _ rfl rfl rfl (b_lss _ (decide_eq_false (by omega)))) ?_
            go_frame
            have HV6 := Lib.hid (show (∀ z, (Value.slice ova OL.length ovc).ownBlock = some z → z < Wb.heap.size) ∧ (∀ z, (Value.slice rva RL.length rvc).ownBlock = some z → z < Wb.heap.size) ∧ w4.heap.size < Wb.heap.size from ⟨fun z e => (CH.out.lts.1 z e).2, fun z e => (CH.out.lts.2 z e).2, CH.out.tri.lt⟩)
            have CHq := Lib.hid (CH.out.below K5.out)
            have K1q := Lib.hid (show Below w4.heap.size w4 wr from K1.out.trans (K5.out.mono HBW.out))
            have HSQ := Lib.hid K5.out.size
            have FRq := Lib.hid (RP.out.frows (by omega) (G := GS2 w4.heap.size wr w4.heap.size (Value.slice ova OL.length ovc) (Value.slice rva RL.length rvc)) (fun z g1 g2 => ⟨by have := HBW.out; omega, g2, fun e => by have := HV6.out.1 z e; omega, fun e => by have := HV6.out.2.1 z e; omega, fun e => by have := HV6.out.2.2; omega⟩))
            have KPq := Lib.hid (Rg.Kp.of_below (M := M) K5.out)
            have COA := CO
            have IOA := IO
            clear CH K1 RP K5
            gi_upto_region 18 with (fail)
            have hV1 : Below wr.heap.size wr wr.drew := (Below.refl _ _).drew
            replace CHq := Lib.hid (CHq.out.below hV1)
            replace K1q := Lib.hid (K1q.out.trans (hV1.mono (by have := HBW.out; have := HSQ.out; omega)))
            replace FRq := Lib.hid (frows_below FRq.out hV1)
            replace KPq := Lib.hid (Rg.Kp.trans (M := M) KPq.out (Rg.Kp.of_below (M := M) hV1) (fun _ _ e => e))
            clear hV1
            have hV0 : Below wr.heap.size wr wr.drew := (Below.refl _ _).drew
            generalize Fup (fun _ : Nat => True) wr wr.drew = F3 at *
            clear hV0
            refine Rg.Any.beginIn (hnd := by kernel_rfl) (S := Rg.Both 16 (StI w4.heap.size (.int .i64 ((N : Nat) : Int)) (Value.slice ova OL.length ovc) (Value.slice rva RL.length rvc) M w4 Wb) (fun _ => True)) mix ?_
            generalize wr.drew = w171 at *
            have hS : ∀ (l : Array Bool) W, (StI w4.heap.size (.int .i64 ((N : Nat) : Int)) (Value.slice ova OL.length ovc) (Value.slice rva RL.length rvc) M w4 Wb) W → Rg.Both 16 (StI w4.heap.size (.int .i64 ((N : Nat) : Int)) (Value.slice ova OL.length ovc) (Value.slice rva RL.length rvc) M w4 Wb) (fun _ => True) l W := fun l W h => ⟨.inr h, trivial⟩
            have hS2 : ∀ (l : Array Bool) W, l.getD 16 false = true → Rg.Both 16 (StI w4.heap.size (.int .i64 ((N : Nat) : Int)) (Value.slice ova OL.length ovc) (Value.slice rva RL.length rvc) M w4 Wb) (fun _ => True) l W := fun l W h => ⟨.inl h, trivial⟩
            have hI : (StI w4.heap.size (.int .i64 ((N : Nat) : Int)) (Value.slice ova OL.length ovc) (Value.slice rva RL.length rvc) M w4 Wb) w171 := ⟨CHq.out.tri, K1q.out, KPq.out⟩
            have HVQ := Lib.hid (show (∀ z, (Value.slice ova OL.length ovc).ownBlock = some z → z < w171.heap.size) ∧ (∀ z, (Value.slice rva RL.length rvc).ownBlock = some z → z < w171.heap.size) ∧ w4.heap.size < w171.heap.size from ⟨fun z e => (CHq.out.lts.1 z e).2, fun z e => (CHq.out.lts.2 z e).2, CHq.out.tri.lt⟩)
            refine Rg.Any.takeG (i := 0) (t := 16) (v := .pointer (some ⟨w4.heap.size, 1, none⟩)) (some 66) rfl rfl (by kernel_rfl) (by kernel_rfl) (by kernel_rfl) (fun _ _ _ h => h) rfl (.inl ⟨rfl, fun w _ => exec_field _ rfl rfl (chF1 _ _)⟩) (hS _ _ hI) ?_
            go_frame
            refine Rg.Any.takeT (i := 1) (t := 16) (v := .slice ova OL.length ovc) (some 67) rfl rfl (by kernel_rfl) (by kernel_rfl) (by kernel_rfl) (fun _ _ _ h => h) rfl (by kernel_rfl) rfl (Rg.yields_cell _ _ rfl rfl ⟨w4.heap.size, 1, none⟩ rfl (fun W hW => Rg.run_loadSl _ _ Try.underlying41 hW.1.c1)) (hS _ _ hI) ?_
            go_frame
            refine Rg.Any.takeG (i := 2) (t := 16) (v := .pointer (some ⟨w.heap.size, 1, none⟩)) (some 68) rfl rfl (by kernel_rfl) (by kernel_rfl) (by kernel_rfl) (fun _ _ _ h => h) rfl (.inl ⟨rfl, fun w _ => exec_field _ rfl rfl (chF1 _ _)⟩) (hS _ _ hI) ?_
            go_frame
            refine Rg.Any.takeT (i := 3) (t := 16) (v := .slice (some ⟨ob, oo, none⟩) OO.length oc) (some 69) rfl rfl (by kernel_rfl) (by kernel_rfl) (by kernel_rfl) (fun _ _ _ h => h) rfl (by kernel_rfl) rfl (Rg.yields_cell _ _ rfl rfl ⟨w.heap.size, 1, none⟩ rfl (fun W hW => Rg.run_loadSl _ _ Try.underlying41 ((Below.cell (p := ⟨w.heap.size, 1, none⟩) hW.2.1 A1.out.lt).trans A1.out.cell))) (hS _ _ hI) ?_
            go_frame
            refine Rg.Any.takeG (i := 4) (t := 16) (v := .int .i64 ((X : Nat) : Int)) (some 70) rfl rfl (by kernel_rfl) (by kernel_rfl) (by kernel_rfl) (fun _ _ _ h => h) rfl (.inl ⟨rfl, fun w _ => Rg.exec_move (v := .int .i64 ((X : Nat) : Int)) _ rfl rfl⟩) (hS _ _ hI) ?_
            go_frame
            refine Rg.Any.takeG (i := 5) (t := 16) (v := .pointer (some ⟨ob, oo + X, none⟩)) (some 71) rfl rfl (by kernel_rfl) (by kernel_rfl) (by kernel_rfl) (fun _ _ _ h => h) rfl (Rg.yields_index slIntss _ _ rfl rfl ob (oo) (OO.length) oc (X) rfl rfl HXO.out) (hS _ _ hI) ?_
            go_frame
            refine Rg.Any.takeT (i := 6) (t := 16) (v := .slice qa ol.length qc) (some 72) rfl rfl (by kernel_rfl) (by kernel_rfl) (by kernel_rfl) (fun _ _ _ h => h) rfl (by kernel_rfl) rfl (Rg.yields_cell _ _ rfl rfl ⟨ob, oo + X, none⟩ rfl (fun W hW => Rg.run_loadSl _ _ Try.underlying33 ((Below.cell (p := ⟨ob, oo + X, none⟩) hW.2.1 COA.out.lt).trans COA.out.cell))) (hS _ _ hI) ?_
            go_frame
            refine Rg.Any.takeG (i := 10) (t := 16) (v := .pointer (some ⟨w4.heap.size, 2, none⟩)) (some 76) rfl rfl (by kernel_rfl) (by kernel_rfl) (by kernel_rfl) (fun _ _ _ h => h) rfl (.inl ⟨rfl, fun w _ => exec_field _ rfl rfl (chF2 _ _)⟩) (hS _ _ hI) ?_
            go_frame
            refine Rg.Any.takeT (i := 11) (t := 16) (v := .slice rva RL.length rvc) (some 77) rfl rfl (by kernel_rfl) (by kernel_rfl) (by kernel_rfl) (fun _ _ _ h => h) rfl (by kernel_rfl) rfl (Rg.yields_cell _ _ rfl rfl ⟨w4.heap.size, 2, none⟩ rfl (fun W hW => Rg.run_loadSl _ _ Try.underlying49 hW.1.c2)) (hS _ _ hI) ?_
            go_frame
            refine Rg.Any.takeG (i := 12) (t := 16) (v := .slice ta r.length tc) (some 78) rfl rfl (by kernel_rfl) (by kernel_rfl) (by kernel_rfl) (fun _ _ _ h => h) rfl (.inl ⟨rfl, fun w _ => Rg.exec_move (v := .slice ta r.length tc) _ rfl rfl⟩) (hS _ _ hI) ?_
            go_frame
            refine Rg.Any.c3f1q (e := 7) (i := 8) (k := 9) (j := 13) (de := 73) (di := 74) (dk := 75) (dj := 79) (q := 15) (dq := 81) (vq := .pointer (some ⟨w4.heap.size, 1, none⟩)) (I := fun W => (StI w4.heap.size (.int .i64 ((N : Nat) : Int)) (Value.slice ova OL.length ovc) (Value.slice rva RL.length rvc) M w4 Wb) W ∧ w171.heap.size ≤ W.heap.size) (R0 := fun W => ChR w4.heap.size W w4.heap.size (.int .i64 ((N : Nat) : Int)) (Value.slice ova OL.length ovc) (Value.slice rva RL.length rvc) (Value.slice ova OL.length ovc) (Value.slice rva RL.length rvc) OL RL ∧ Rg.FRows (GS2 w4.heap.size W w4.heap.size (Value.slice ova OL.length ovc) (Value.slice rva RL.length rvc)) W (.slice ta r.length tc) r) (Re := fun u W => Rg.FI (fun z => w171.heap.size ≤ z ∧ z < W.heap.size) W u ol ∧ ∃ a n c, u = .slice a n c) (Ri := fun u x W => (fun u W => Rg.FI (fun z => w171.heap.size ≤ z ∧ z < W.heap.size) W u ol ∧ ∃ a n c, u = .slice a n c) u W ∧ Rg.BlkF w171.heap.size [u] x W) (Rk := fun x W => ChR w4.heap.size W w4.heap.size (.int .i64 ((N : Nat) : Int)) (Value.slice ova OL.length ovc) (Value.slice rva RL.length rvc) x (Value.slice rva RL.length rvc) (OL ++ [ol]) RL ∧ Rg.FRows (GS2 w4.heap.size W w4.heap.size x (Value.slice rva RL.length rvc)) W (.slice ta r.length tc) r ∧ ∃ a c, x = .slice a (OL.length + 1) c) (Rj := fun v W => Rg.BlkF w171.heap.size [.slice ta r.length tc] v W) (fun l W h => hS l W h.1)
              (by decide) (by decide) (by decide) (by decide) (by decide) (by decide) (by decide) (by decide) (by kernel_rfl) (by kernel_rfl) (by kernel_rfl) (by kernel_rfl) (by kernel_rfl) (by kernel_rfl) (by kernel_rfl) ?_ ?_
              (fun _ _ hb h => ⟨h.1.below hb, frows_below h.2 hb⟩) (fun _ _ _ hb h => ⟨newI_below h.1 hb, h.2⟩) (fun _ _ _ _ hb h => ⟨⟨newI_below h.1.1 hb, h.1.2⟩, h.2.below hb⟩) (fun _ _ _ hb h => ⟨h.1.below hb, frows_below h.2.1 hb, h.2.2⟩) (fun _ _ _ hb h => h.below hb) ?_ ?_ ?_ ?_ ⟨hI, Nat.le_refl _⟩ (⟨CHq.out, FRq.out⟩) ?_
            · intro u x y W m hs h
              exact Rg.Any.takeG (i := 15) (t := 16) (v := .pointer (some ⟨w4.heap.size, 1, none⟩)) (some 81) rfl rfl (by kernel_rfl) (by kernel_rfl) (by kernel_rfl) (fun _ _ _ h => h) rfl (.inl ⟨rfl, fun w _ => exec_field _ rfl rfl (chF1 _ _)⟩) hs h
            · intro u x v y W m hs h
              exact Rg.Any.takeG (i := 15) (t := 16) (v := .pointer (some ⟨w4.heap.size, 1, none⟩)) (some 81) rfl rfl (by kernel_rfl) (by kernel_rfl) (by kernel_rfl) (fun _ _ _ h => h) rfl (.inl ⟨rfl, fun w _ => exec_field _ rfl rfl (chF1 _ _)⟩) hs h
            · intro b hb W hW
              refine Rg.doesCall rfl rfl (by rcases hb with rfl | ⟨v, rfl⟩ <;> rfl) _ _ (exec_fn1 95 _ _ rfl (by rcases hb with rfl | ⟨v, rfl⟩ <;> rfl) (Zhcl4 _ _)) ?_
              refine (CloneI_any _ ol W (Rg.Ints.below IOA.out hW.1.2.1) (by have := HLE.out; omega) (by have := HLE.out; omega)).mono ?_
              rintro e2 W2 ⟨v2, rfl, hrow, hb2⟩
              obtain ⟨va2, vc2, rfl⟩ := Rg.row_shape hrow
              exact ⟨_, rfl, ⟨hW.1.st hb2, Nat.le_trans hW.2 hb2.size⟩, ⟨OwI.fi ⟨hrow⟩ (by have := HLE.out; omega) (fun z g1 g2 => ⟨Nat.le_trans hW.2 g1, g2⟩), _, _, _, rfl⟩, hb2⟩
            · intro u b hb W hW hu
              obtain ⟨hu1, ua2, un2, uc2, rfl⟩ := hu
              have hbA : Below W.heap.size W (W.alloc (.cells #[.slice ua2 un2 uc2] 33)) := (Below.refl _ _).alloc (Nat.le_refl _) _
              exact Rg.doesRun rfl rfl (by rcases hb with rfl | ⟨v, rfl⟩ <;> rfl) (Rg.exec_buildSlice _ _ _ rfl (.slice ua2 un2 uc2) (by rcases hb with rfl | ⟨v, rfl⟩ <;> rfl) (run_build1L W _ ⟨_, _, _, rfl⟩)) ⟨⟨hW.1.st hbA, by simp; have := hW.2; omega⟩, ⟨⟨newI_below hu1 hbA, _, _, _, rfl⟩, Rg.BlkF.new W [.slice ua2 un2 uc2] 33 hW.2⟩, hbA⟩
            · intro u x b hb W hW h0 hx
              obtain ⟨⟨hu1, ua2, un2, uc2, rfl⟩, pu, rfl, hp0, hp1, hp2⟩ := hx
              have hfi : Rg.FI (GS2 w4.heap.size W w4.heap.size (Value.slice ova OL.length ovc) (Value.slice rva RL.length rvc)) W (.slice ua2 un2 uc2) ol := Rg.FI.mono hu1 (fun z g => ⟨by have := HVQ.out.2.2; omega, g.2, fun e => by have := HVQ.out.1 z e; omega, fun e => by have := HVQ.out.2.1 z e; omega, fun e => by have := HVQ.out.2.2; omega⟩)
              obtain ⟨a2, c2, X, r1, r2, r3, r4⟩ := h0.1.pushO hW.1.2.1.size hfi rfl HOLN.out (hp2 0 (by simp)) 41
              have hkX := Rg.Kp.of_grown r3 (M := fun z => (Value.slice ova OL.length ovc).ownBlock = some z) (fun _ e => e)
              exact Rg.doesRun rfl rfl (by rcases hb with rfl | ⟨v, rfl⟩ <;> rfl) (Rg.exec_append _ _ _ rfl (by rcases hb with rfl | ⟨v, rfl⟩ <;> rfl) (by rcases hb with rfl | ⟨v, rfl⟩ <;> rfl) r1) ⟨⟨(show StI _ _ _ _ _ _ _ _ from ⟨r2.tri, hW.1.2.1.grown r3 hW.1.2.1.size (fun j e => (h0.1.lts.1 j e).1), Rg.Kp.trans (M := M) hW.1.2.2 (Rg.Kp.of_grown r3 (M := M) fun z e => HMO.out.1 z e) (fun _ _ e => e)⟩), Nat.le_trans hW.2 r3.size⟩, ⟨r2, FRows.mono (FRows.kp h0.2 hkX (fun z g e => g.2.2.1 e)) r4, _, _, rfl⟩, fun v hv => hv.grown r3 (fun j e => HVQ.out.1 j e)⟩
            · intro b hb W hW
              have hbA : Below W.heap.size W (W.alloc (.cells #[.slice ta r.length tc] 22)) := (Below.refl _ _).alloc (Nat.le_refl _) _
              exact Rg.doesRun rfl rfl (by rcases hb with rfl | ⟨u, rfl⟩ | ⟨u, x, rfl⟩ | ⟨u, x, y, rfl⟩ <;> rfl) (Rg.exec_buildSlice _ _ _ rfl (.slice ta r.length tc) (by rcases hb with rfl | ⟨u, rfl⟩ | ⟨u, x, rfl⟩ | ⟨u, x, y, rfl⟩ <;> rfl) (run_build1PP W _ ⟨_, _, _, rfl⟩)) ⟨⟨hW.1.st hbA, by simp; have := hW.2; omega⟩, Rg.BlkF.new W [.slice ta r.length tc] 22 hW.2, hbA⟩
            rintro w172 fu fx fy fv hb hk hj
            have hI11_f := hb.1
            have hVsz := hb.2
            clear hb hI
            go_frame
            have FK := Lib.hid hk
            have FJ := Lib.hid hj
            obtain ⟨pj, hje, hj0, hj1, hj2⟩ := FJ.out
            subst hje
            obtain ⟨a3, c3, hfx⟩ := FK.out.2.2
            subst hfx
            obtain ⟨a4, c4, X4, q1, r2, q3⟩ := FK.out.1.pushR hI11_f.2.1.size FK.out.2.1 rfl HRLN.out (hj2 0 (by simp)) 49
            have hI12_m := (show StI _ _ _ _ _ _ _ _ from ⟨r2.tri, hI11_f.2.1.grown q3 hI11_f.2.1.size (fun j e => (FK.out.1.lts.2 j e).1), Rg.Kp.trans (M := M) hI11_f.2.2 (Rg.Kp.of_grown q3 (M := M) fun z e => HMO.out.2.1 z e) (fun _ _ e => e)⟩)
            refine Rg.Any.one (i := 14) (by kernel_rfl) (Rg.Any.run (some 80) rfl rfl rfl (Rg.exec_append _ _ _ rfl rfl rfl q1) (hS _ _ hI12_m) ?_)
            go_frame
            have hKX := hI12_m
            refine Rg.Any.one (i := 16) (by kernel_rfl) (Rg.Any.runSkip none rfl rfl rfl (Rg.exec_store _ _ _ rfl _ rfl _ rfl (Rg.run_storeSl _ infoIntss r2.tri.c1 r2.tri.f1)) (hS2 _ _ rfl) ?_)
            go_frame
            refine Rg.Any.takeG (i := 17) (t := 16) (v := .pointer (some ⟨w4.heap.size, 2, none⟩)) (some 82) rfl rfl (by kernel_rfl) (by kernel_rfl) (by kernel_rfl) (fun _ _ _ h => h) rfl (.inl ⟨rfl, fun w _ => exec_field _ rfl rfl (chF2 _ _)⟩) (hS2 _ _ rfl) ?_
            go_frame
            refine Rg.Any.one (i := 18) (by kernel_rfl) (Rg.Any.runSkip none rfl rfl rfl (Rg.exec_store _ _ _ rfl _ rfl _ rfl (Rg.run_storeSl _ infoPermss (r2.tri.set1 _).c2 (r2.tri.set1 _).f2)) (hS2 _ _ rfl) ?_)
            go_frame
            refine Rg.Any.done (by kernel_rfl) ?_ _
            refine Rg.onlyN_i ?_
            clear hS2
            clear hS hI12_m
            have hst := r2.store (.slice a3 (OL.length + 1) c3) (.slice a4 (RL.length + 1) c4)
            have hkk := (hKX.2.1.setCell (p := ⟨w4.heap.size, 1, none⟩) (Nat.le_refl _) (.slice a3 (OL.length + 1) c3)).setCell (p := ⟨w4.heap.size, 2, none⟩) (Nat.le_refl _) (.slice a4 (RL.length + 1) c4)
            have hkm := Rg.Kp.trans (M := M) (Rg.Kp.trans (M := M) hKX.2.2 (Rg.Kp.of_setCell (M := M) (a := ⟨w4.heap.size, 1, none⟩) (v := .slice a3 (OL.length + 1) c3) HMO.out.2.2) (fun _ _ e => e)) (Rg.Kp.of_setCell (M := M) (a := ⟨w4.heap.size, 2, none⟩) (v := .slice a4 (RL.length + 1) c4) HMO.out.2.2) (fun _ _ e => e)
            generalize (X4.setCell ⟨w4.heap.size, 1, none⟩ (.slice a3 (OL.length + 1) c3)).setCell ⟨w4.heap.size, 2, none⟩ (.slice a4 (RL.length + 1) c4) = w199 at *
            have CH2 := Lib.hid (show ChR w4.heap.size w199 w4.heap.size (.int .i64 ((N : Nat) : Int)) (.slice a3 (OL.length + 1) c3) (.slice a4 (RL.length + 1) c4) (.slice a3 (OL.length + 1) c3) (.slice a4 (RL.length + 1) c4) ((pre ++ [(⟨X, HXR.out⟩ : Fin RR.length)]).map fun z => fO k OO z.1) ((pre ++ [(⟨X, HXR.out⟩ : Fin RR.length)]).map fun z => fR ((N : Nat) : Int) k RR z.1) by rw [List.map_append, List.map_append, hOL.out, hRL.out]; simp only [List.map_cons, List.map_nil]; rw [show fO k OO X = ol from HF1.out, show fR ((N : Nat) : Int) k RR X = r from HF2.out]; exact hst)
            have K2 := Lib.hid hkk
            have KP2 := Lib.hid (keepsK (B := B) hkm HMC.out)
            have KB2 := Lib.hid (show Below w.heap.size Wb w199 from kp_low hkm (by have := HBW.out; have := HSZ.out; omega) (fun z hz => by have := HML.out z hz; have := HSZ.out; omega))
            clear hst hkk hkm
            gi_wp2
            exact ⟨KP2.out, KB2.out, ⟨_, _, CH2.out⟩, K2.out⟩
    case done =>
      rintro D Wd hD ⟨⟨ov, rv, hch⟩, hbl⟩ hd
      rw [fin_map (fun z => fO k OO z), fin_map (fun z => fR ((N : Nat) : Int) k RR z)] at hch
      have HD := Lib.hid (show w.heap.size ≤ D by have := HS0.out; omega)
      clear FB HRV CH K1 KW
      have CHD := Lib.hid hch
      have KD := Lib.hid (show Below w.heap.size w Wd from K.out.trans (hbl.mono K.out.size))
      have FTD := Lib.hid (FT.out.below hbl)
      have DF := Lib.hid hd
      have HLS := Lib.hid (show ((List.range RR.length).map fun z => fO k OO z) = stO k OO by unfold stO; rw [HLO.out, HLR.out]; rfl)
      have HLT := Lib.hid (show ((List.range RR.length).map fun z => fR ((N : Nat) : Int) k RR z) = stR' ((N : Nat) : Int) k RR from rfl)
      obtain ⟨ova, ovc, rfl⟩ := hch.shapeO
      obtain ⟨rva, rvc, rfl⟩ := hch.shapeR
      have HLM := Lib.hid (show RR.length ≤ 64 by have := HLR.out; omega)
      simp only [List.length_map, List.length_range] at CHD
      clear hch hbl hd
      go_upto_region 19 with (fail)
      refine wp_region_list ?_
      refine Rg.list_run (some 83) rfl rfl (Rg.exec_load _ _ rfl ⟨w4.heap.size, 0, none⟩ rfl (run_loadC CHD.out.tri)) ?_
      go_frame
      refine Rg.list_skip none rfl rfl (Rg.exec_store _ _ _ rfl _ rfl _ rfl (run_storeC _ _ _ _ _ _ _ FTD.out)) ?_
      go_frame
      refine Rg.list_run (some 5) rfl rfl (Rg.exec_assign (v := .int .i64 ((0 : Nat) : Int)) _ rfl rfl) ?_
      go_frame
      have htt := FTD.out.set (.int .i64 ((N : Nat) : Int)) (.slice ova RR.length ovc) (.slice rva RR.length rvc)
      have hkt := Rg.Kp.trans (Rg.Kp.trans (Rg.Kp.of_setCell (M := fun z => z = (w.heap.size + 2)) (w := Wd) (a := ⟨(w.heap.size + 2), 0, none⟩) (v := .int .i64 ((N : Nat) : Int)) rfl) (Rg.Kp.of_setCell (M := fun z => z = (w.heap.size + 2)) (a := ⟨(w.heap.size + 2), 1, none⟩) (v := .slice ova RR.length ovc) rfl) (fun _ _ e => e)) (Rg.Kp.of_setCell (M := fun z => z = (w.heap.size + 2)) (a := ⟨(w.heap.size + 2), 2, none⟩) (v := .slice rva RR.length rvc) rfl) (fun _ _ e => e)
      have hch2 := CHD.out.kp hkt (fun z e => by have := HSZ.out; omega)
      have hkf := ((KD.out.setCell (p := ⟨(w.heap.size + 2), 0, none⟩) (by show w.heap.size ≤ w.heap.size + 2; omega) (.int .i64 ((N : Nat) : Int))).setCell (p := ⟨(w.heap.size + 2), 1, none⟩) (by show w.heap.size ≤ w.heap.size + 2; omega) (.slice ova RR.length ovc)).setCell (p := ⟨(w.heap.size + 2), 2, none⟩) (by show w.heap.size ≤ w.heap.size + 2; omega) (.slice rva RR.length rvc)
      have hdd := (((RF.Dfr.setCell DF.out ⟨(w.heap.size + 2), 0, none⟩ (.int .i64 ((N : Nat) : Int))).setCell ⟨(w.heap.size + 2), 1, none⟩ (.slice ova RR.length ovc)).setCell ⟨(w.heap.size + 2), 2, none⟩ (.slice rva RR.length rvc))
      generalize ((Wd.setCell ⟨(w.heap.size + 2), 0, none⟩ (.int .i64 ((N : Nat) : Int))).setCell ⟨(w.heap.size + 2), 1, none⟩ (.slice ova RR.length ovc)).setCell ⟨(w.heap.size + 2), 2, none⟩ (.slice rva RR.length rvc) = w299 at *
      have HTT := Lib.hid htt
      have KX := Lib.hid hkf
      have DX := Lib.hid hdd
      have HA := Lib.hid (show StAns ((N : Nat) : Int) OO RR k w299 (.agg #[.int .i64 ((N : Nat) : Int), .slice ova RR.length ovc, .slice rva RR.length rvc]) from .inr ⟨HSC.out, _, _, rfl, by rw [← HLS.out]; exact hch2.rowsO (by rw [List.length_map, List.length_range]; have := HLM.out; omega), by rw [← HLT.out]; exact hch2.rowsR (by rw [List.length_map, List.length_range]; have := HLM.out; omega)⟩)
      clear htt hkt hch2 hkf hdd
      go_wp2
      exact st_leave (ds := [D]) KX.out HTT.out HA.out rfl (by rw [HSC.out]; rfl) (by simp) (fun D' hD' => by simp at hD'; subst hD'; exact ⟨DX.out, HD.out⟩)
end Go.Proofs.Ytojbijkljnohoaa

/-! The chapter's examples, in plain lists. -/
namespace Go.Proofs.Ytojbijkljnohoaa
open Go.Proofs
open Go.Proofs.Cm (Gr Gd IsChain IsG IsTr St Tr Fx ap sfP)

def gsE : List (List Nat) := []
def tabE : List TE := [⟨0, 0, [0, 1, 2, 3], []⟩, ⟨1, 1, [0, 1, 2, 3], []⟩, ⟨2, 2, [0, 1, 2, 3], []⟩, ⟨3, 3, [0, 1, 2, 3], []⟩]
theorem tabE_ok : tabOK 4 gsE tabE = true := by decide +kernel
theorem orbTE : (List.range 4).map (orbOf 4 tabE) = [[0], [1], [2], [3]] := by decide +kernel
/-- a level with one point has the identity alone -/
theorem rep_one {n : Nat} {H : List Nat → Prop} (hH : IsG n H) {O : List (List Nat)} {R : List (List (List Nat))} (hc : IsChain n H O R) {i : Nat} (hi : i < n) (ho : O.getD i [] = [i]) : R.getD i [] = [Ma.oneN n] := by
  have hl := hc.len i hi
  rw [ho] at hl
  have hr := hc.rep i 0 hi (by rw [ho]; exact Nat.zero_lt_one)
  rw [ho] at hr
  have e := one_least hH hi hr
  match hR : R.getD i [], hl with
  | [r], _ =>
    rw [hR] at e
    have : r = Ma.oneN n := e
    rw [this]
def RS4 : List (List (List Nat)) := [[[0, 1, 2, 3], [1, 0, 3, 2], [2, 3, 0, 1], [3, 2, 1, 0]], [[0, 1, 2, 3]], [[0, 1, 2, 3]], [[0, 1, 2, 3]]]
def OS4 : List (List Nat) := [[0, 1, 2, 3], [1], [2], [3]]
theorem chainS {O : List (List Nat)} {R : List (List (List Nat))} (hc : IsChain 4 (Gr 4 (· ∈ gsS)) O R) : O = OS4 ∧ R = RS4 := by
  obtain ⟨hg, ht⟩ := tab_tr tabS_ok
  have hH := Gr.isG (n := 4) (gs := (· ∈ gsS)) hg
  have hO := chain_tab tabS_ok hc
  rw [orbTS] at hO
  have h0 := repsS hc
  have h1 := rep_one hH hc (i := 1) (by decide) (by rw [hO]; rfl)
  have h2 := rep_one hH hc (i := 2) (by decide) (by rw [hO]; rfl)
  have h3 := rep_one hH hc (i := 3) (by decide) (by rw [hO]; rfl)
  refine ⟨hO, ?_⟩
  have hl := hc.lenR
  match R, hl, h0, h1, h2, h3 with
  | [a, b, c, d], _, h0, h1, h2, h3 =>
    have e0 : a = _ := h0
    have e1 : b = _ := h1
    have e2 : c = _ := h2
    have e3 : d = _ := h3
    rw [e0, e1, e2, e3]
    rfl
theorem siS_1 : siC 4 OS4 RS4 [1, 0, 2, 3] = (2, [0, 1, 3, 2]) := by decide +kernel
theorem siS_2 : (siC 4 OS4 RS4 [3, 2, 1, 0]).1 = 4 := by decide +kernel
theorem siS_3 : ¬ (siC 4 OS4 RS4 [1, 2, 0, 3]).1 = 4 := by decide +kernel
def ijs (n : Nat) : List (Nat × Nat) := (List.range n).flatMap fun i => (List.range n).map fun p => (i, p)
theorem mem_ijs {n : Nat} {q : Nat × Nat} (h1 : q.1 < n) (h2 : q.2 < n) : q ∈ ijs n := by
  unfold ijs
  rw [List.mem_flatMap]
  exact ⟨q.1, List.mem_range.2 h1, List.mem_map.2 ⟨q.2, List.mem_range.2 h2, rfl⟩⟩
def enB (n : Nat) (tr : Tr) : List (Nat × Nat) := (ijs n).filter fun q => decide (q.1 < q.2 ∧ q.2 < n) && (tr q.1 q.2).isSome
def pcB (n : Nat) (tr : Tr) : Bool := (enB n tr).all fun q => (enB n tr).all fun r => decide ((sfP n (Cm.idT n tr) n (Ma.mulN ((tr q.1 q.2).getD []) ((tr r.1 r.2).getD []))).1 = n)
theorem pcB_iff {n : Nat} {tr : Tr} : pcB n tr = true ↔ PClosed n tr := by
  unfold pcB
  rw [List.all_eq_true]
  have hm : ∀ q : EntIx n tr, q.1 ∈ enB n tr := fun q => by
    unfold enB
    rw [List.mem_filter]
    refine ⟨mem_ijs (by have := q.2.1; omega) q.2.1.2, ?_⟩
    rw [Bool.and_eq_true]
    exact ⟨decide_eq_true q.2.1, q.2.2⟩
  constructor
  · intro h q r
    have := h q.1 (hm q)
    rw [List.all_eq_true] at this
    exact of_decide_eq_true (this r.1 (hm r))
  · intro h q hq
    rw [List.all_eq_true]
    intro r hr
    unfold enB at hq hr
    rw [List.mem_filter, Bool.and_eq_true] at hq hr
    exact decide_eq_true (h ⟨q, of_decide_eq_true hq.2.1, hq.2.2⟩ ⟨r, of_decide_eq_true hr.2.1, hr.2.2⟩)
theorem pcS_0 : ¬ PClosed 4 (endR 4 gsS []) := by rw [← pcB_iff]; decide +kernel
theorem pcF_0 : ¬ PClosed 4 (endR 4 gsF []) := by rw [← pcB_iff]; decide +kernel
theorem pcS_1 : PClosed 4 (endR 4 gsS [0, 1]) := by rw [← pcB_iff]; decide +kernel
theorem pcS_2 : PClosed 4 (endR 4 gsS [0, 1, 5]) := by rw [← pcB_iff]; decide +kernel
theorem gchkF : Ma.gchk ((4 : Nat) : Int) (gsF.map Ma.ofN) = 0 := by decide +kernel
theorem gchkS : Ma.gchk ((4 : Nat) : Int) (gsS.map Ma.ofN) = 0 := by decide +kernel
theorem rndF_0 : rndc ((4 : Nat) : Int) (gsF.map Ma.ofN) [] = 13 := rndc_no gchkF (by decide) pcF_0
theorem rndS_0 : rndc ((4 : Nat) : Int) (gsS.map Ma.ofN) [] = 13 := rndc_no gchkS (by decide) pcS_0
theorem rndS_1 : rndc ((4 : Nat) : Int) (gsS.map Ma.ofN) [0, 1] = 0 := rndc_yes gchkS (by decide) pcS_1
theorem rndS_2 : rndc ((4 : Nat) : Int) (gsS.map Ma.ofN) [0, 1, 5] = 0 := rndc_yes gchkS (by decide) pcS_2
theorem hgS : ∀ s ∈ gsS, Gd 4 s := (tab_tr tabS_ok).1
theorem hgF : ∀ s ∈ gsF, Gd 4 s := (tab_tr tabF_ok).1
theorem pchk4 {x : List Nat} (h : gdB 4 x = true) : Ma.pchk (Ma.ofN x) = 0 := by
  have g := gdB_gd h
  exact Ma.pchk_ok (by rw [Ma.len_ofN, g.2]; decide) (by rw [Ma.len_ofN, g.2]; decide) (Ma.okN_ofN g.1)
/-- the chain of the second group -/
theorem chS_code {O : List (List Nat)} {R : List (List (List Nat))} (hc : IsChain 4 (Gr 4 (· ∈ gsS)) O R) : chCode ((4 : Nat) : Int) (O.map Ma.ofN) (R.map (List.map Ma.ofN)) = 0 := chCode_zero (chain_ok (by decide) (by decide) hgS hc)
theorem chF_code {O : List (List Nat)} {R : List (List (List Nat))} (hc : IsChain 4 (Gr 4 (· ∈ gsF)) O R) : chCode ((4 : Nat) : Int) (O.map Ma.ofN) (R.map (List.map Ma.ofN)) = 0 := chCode_zero (chain_ok (by decide) (by decide) hgF hc)
theorem both4 {O : List (List Nat)} {R : List (List (List Nat))} (h : chCode ((4 : Nat) : Int) (O.map Ma.ofN) (R.map (List.map Ma.ofN)) = 0) {x : List Nat} (hx : gdB 4 x = true) : bothC ((4 : Nat) : Int) (O.map Ma.ofN) (R.map (List.map Ma.ofN)) (Ma.ofN x) = 0 :=
  bothC_ok h (pchk4 hx) (by rw [Ma.len_ofN, (gdB_gd hx).2])
theorem siftS {O : List (List Nat)} {R : List (List (List Nat))} (hc : IsChain 4 (Gr 4 (· ∈ gsS)) O R) : siA ((4 : Nat) : Int) (O.map Ma.ofN) (R.map (List.map Ma.ofN)) (Ma.ofN [1, 0, 2, 3]) = (Ma.ofN [0, 1, 3, 2], 2) ∧ bothC ((4 : Nat) : Int) (O.map Ma.ofN) (R.map (List.map Ma.ofN)) (Ma.ofN [1, 0, 2, 3]) = 0 := by
  have h0 := both4 (chS_code hc) (x := [1, 0, 2, 3]) (by decide)
  refine ⟨?_, h0⟩
  rw [siA_ok h0]
  obtain ⟨rfl, rfl⟩ := chainS hc
  rw [siS_1]
  rfl
theorem inS {O : List (List Nat)} {R : List (List (List Nat))} (hc : IsChain 4 (Gr 4 (· ∈ gsS)) O R) : inA ((4 : Nat) : Int) (O.map Ma.ofN) (R.map (List.map Ma.ofN)) (Ma.ofN [3, 2, 1, 0]) = true ∧ bothC ((4 : Nat) : Int) (O.map Ma.ofN) (R.map (List.map Ma.ofN)) (Ma.ofN [3, 2, 1, 0]) = 0 := by
  have h0 := both4 (chS_code hc) (x := [3, 2, 1, 0]) (by decide)
  refine ⟨?_, h0⟩
  rw [inA_ok h0]
  obtain ⟨rfl, rfl⟩ := chainS hc
  rw [siS_2]
  rfl
def wordsS : List (List Nat) := [[], [0, 1, 0, 0, 1, 0], [1, 0, 1, 0], [0, 1, 0, 1]]
theorem belowSF {O O' : List (List Nat)} {R R' : List (List (List Nat))} (hc : IsChain 4 (Gr 4 (· ∈ gsS)) O R) (hc' : IsChain 4 (Gr 4 (· ∈ gsF)) O' R') :
    belA ((4 : Nat) : Int) (O.map Ma.ofN) (R.map (List.map Ma.ofN)) ((4 : Nat) : Int) (O'.map Ma.ofN) (R'.map (List.map Ma.ofN)) = true ∧ belC ((4 : Nat) : Int) (O.map Ma.ofN) (R.map (List.map Ma.ofN)) ((4 : Nat) : Int) (O'.map Ma.ofN) (R'.map (List.map Ma.ofN)) = 0 := by
  have h0 := belC_ok (chS_code hc) (chF_code hc') rfl
  refine ⟨?_, h0⟩
  rw [belA_val h0, List.all_eq_true]
  intro x hx
  have hH := Gr.isG (n := 4) (gs := (· ∈ gsF)) hgF
  obtain ⟨_, rfl⟩ := chainS hc
  have h1 : ∀ x ∈ RS4.flatten, ∃ w ∈ wordsS, evalW 4 gsF w = x := by decide +kernel
  obtain ⟨w, _, rfl⟩ := h1 x hx
  refine decide_eq_true ((siC_all hH hc' (hH.gd _ (evalW_gr w))).2 (evalW_gr w))
theorem belowFS {O O' : List (List Nat)} {R R' : List (List (List Nat))} (hc : IsChain 4 (Gr 4 (· ∈ gsS)) O R) (hc' : IsChain 4 (Gr 4 (· ∈ gsF)) O' R') :
    belA ((4 : Nat) : Int) (O'.map Ma.ofN) (R'.map (List.map Ma.ofN)) ((4 : Nat) : Int) (O.map Ma.ofN) (R.map (List.map Ma.ofN)) = false ∧ belC ((4 : Nat) : Int) (O'.map Ma.ofN) (R'.map (List.map Ma.ofN)) ((4 : Nat) : Int) (O.map Ma.ofN) (R.map (List.map Ma.ofN)) = 0 := by
  have h0 := belC_ok (chF_code hc') (chS_code hc) rfl
  refine ⟨?_, h0⟩
  rw [belA_val h0, Bool.eq_false_iff, Ne, List.all_eq_true]
  intro hall
  have hH := Gr.isG (n := 4) (gs := (· ∈ gsS)) hgS
  have hH' := Gr.isG (n := 4) (gs := (· ∈ gsF)) hgF
  have hx : Gr 4 (· ∈ R'.flatten) [1, 2, 0, 3] := (chain_gen hH' hc' _).1 (.gen _ (by decide))
  have hin : Gr 4 (· ∈ gsS) [1, 2, 0, 3] := Gr.sub hH (fun s hs => by
    have h1 := of_decide_eq_true (hall s hs)
    exact (siC_all hH hc (hH'.gd s (chain_H hc' hs))).1 h1) hx
  have h2 := (siC_all hH hc (hH.gd _ hin)).2 hin
  obtain ⟨rfl, rfl⟩ := chainS hc
  exact siS_3 h2
theorem stabF {O : List (List Nat)} {R : List (List (List Nat))} (hc : IsChain 4 (Gr 4 (· ∈ gsF)) O R) : stC ((4 : Nat) : Int) (O.map Ma.ofN) (R.map (List.map Ma.ofN)) 2 = 0 ∧ stO 2 (O.map Ma.ofN) = ([[0], [1], [2, 3], [3]] : List (List Int)) := by
  refine ⟨by unfold stC; rw [if_pos (chF_code hc), if_pos (by decide)], ?_⟩
  have hO := chain_tab tabF_ok hc
  rw [orbTF] at hO
  subst hO
  decide
theorem code_zero : chCode 0 [] [] = 2 := by unfold chCode; rw [if_neg (by decide)]
theorem code_short {R : List (List (List Int))} (h : ∀ h : 0 < R.length, R[0].length = 4) (hl : R.length = 4) : chCode ((4 : Nat) : Int) [[0, 1, 2], [1], [2], [3]] R = 3 := by
  unfold chCode
  rw [if_pos (by decide), if_neg]
  intro hok
  have := (hok.row (i := 0) (by omega) (by decide)).1
  rw [h (by omega)] at this
  simp at this
end Go.Proofs.Ytojbijkljnohoaa

/-! The chapter's examples. -/
namespace Go.Proofs.Ytojbijkljnohoaa
open Go.RowKit
open Go.Proofs
open Go.Proofs.Ob
attribute [local irreducible] Go.Calls Go.wpList

theorem Zicl0 (args : Array Value) (w : World) : (callFunc 38 args).run Try.prog w = .ok (.enter 38 args) w := by kernel_rfl
theorem Zicl1 (args : Array Value) (w : World) : (callFunc 31 args).run Try.prog w = .ok (.enter 31 args) w := by kernel_rfl
theorem Zicl2 (args : Array Value) (w : World) : (callFunc 39 args).run Try.prog w = .ok (.enter 39 args) w := by kernel_rfl
theorem Zicl3 (args : Array Value) (w : World) : (callFunc 40 args).run Try.prog w = .ok (.enter 40 args) w := by kernel_rfl
theorem Zicl4 (args : Array Value) (w : World) : (callFunc 25 args).run Try.prog w = .ok (.enter 25 args) w := by kernel_rfl
theorem Zicl5 (args : Array Value) (w : World) : (callFunc 41 args).run Try.prog w = .ok (.enter 41 args) w := by kernel_rfl
theorem Zicl6 (args : Array Value) (w : World) : (callFunc 42 args).run Try.prog w = .ok (.enter 42 args) w := by kernel_rfl
theorem Zicl7 (args : Array Value) (w : World) : (callFunc 24 args).run Try.prog w = .ok (.enter 24 args) w := by kernel_rfl
theorem Zicl8 (args : Array Value) (w : World) : (callFunc 43 args).run Try.prog w = .ok (.enter 43 args) w := by kernel_rfl
theorem Zicl9 (args : Array Value) (w : World) : (callFunc 44 args).run Try.prog w = .ok (.enter 44 args) w := by kernel_rfl
theorem Zicl10 (args : Array Value) (w : World) : (callFunc 36 args).run Try.prog w = .ok (.enter 36 args) w := by kernel_rfl
theorem Zicl11 (args : Array Value) (w : World) : (callFunc 35 args).run Try.prog w = .ok (.enter 35 args) w := by kernel_rfl
theorem Zicl12 (args : Array Value) (w : World) : (callFunc 30 args).run Try.prog w = .ok (.enter 30 args) w := by kernel_rfl
theorem Zicl13 (args : Array Value) (w : World) : (callFunc 45 args).run Try.prog w = .ok (.enter 45 args) w := by kernel_rfl
theorem infoIntsV : (Try.prog.info? 33).map (fun i => (i.zero, i.size, i.bytes)) = some (some (.slice none 0 0), 1, 24) := by kernel_rfl
theorem run_buildL4 (X : World) (u1 u2 u3 u4 : Value) (h1 : ∃ a n c, u1 = .slice a n c) (h2 : ∃ a n c, u2 = .slice a n c) (h3 : ∃ a n c, u3 = .slice a n c) (h4 : ∃ a n c, u4 = .slice a n c) : (Instr.buildSlice 41 4 #[(0, u1), (1, u2), (2, u3), (3, u4)]).run Try.prog X = .ok (.slice (some ⟨X.heap.size, 0, none⟩) 4 4) (X.alloc (.cells #[u1, u2, u3, u4] 33)) := by
  obtain ⟨i0, hi, hz0, hz1, hz2⟩ := info_parts infoIntsV
  obtain ⟨_, _, _, rfl⟩ := h1
  obtain ⟨_, _, _, rfl⟩ := h2
  obtain ⟨_, _, _, rfl⟩ := h3
  obtain ⟨_, _, _, rfl⟩ := h4
  refine run_buildSlice X 41 33 4 _ _ i0 _ Try.underlying41 hi hz0 (by rw [hz1]; decide) (by rw [hz1]; decide) ?_
  generalize (fun x => ((Value.slice none 0 0).cells)[x % (Value.slice none 0 0).cells.size]!) = f
  rw [hz1]
  have h1 : Array.range (4 * 1) = #[0, 1, 2, 3] := rfl
  simp [Instr.fill, Value.cells, h1]
theorem exec_buildL4 {o : Oper} {a : Act} {w w' : World} {v u1 u2 u3 u4 : Value} (x1 x2 x3 x4 : Operand) (ho : o.op = .buildSlice 41 4 #[(0, x1), (1, x2), (2, x3), (3, x4)]) (h1 : a.eval x1 = u1) (h2 : a.eval x2 = u2) (h3 : a.eval x3 = u3) (h4 : a.eval x4 = u4)
    (hr : (Instr.buildSlice 41 4 #[(0, u1), (1, u2), (2, u3), (3, u4)]).run Try.prog w = .ok v w') : (execOp a.eval o).run Try.prog w = .ok (.value v) w' := by
  subst h1 h2 h3 h4
  unfold execOp
  simp only [ho, Sem.run_bind, Sem.run_pure]
  simp only [List.map_toArray, List.map_cons, List.map_nil]
  rw [hr]
  rfl
theorem exec_buildC3 {o : Oper} {a : Act} {w : World} {d : Int} {ao ar : Option Addr} {no co nr cr : Nat} (x y z : Operand) (ho : o.op = .build 51 #[(0, x), (1, y), (2, z)]) (hx : a.eval x = .int .i64 d) (hy : a.eval y = .slice ao no co) (hz : a.eval z = .slice ar nr cr) :
    (execOp a.eval o).run Try.prog w = .ok (.value (.agg #[.int .i64 d, .slice ao no co, .slice ar nr cr])) w := by
  unfold execOp
  simp only [ho, Sem.run_bind, Sem.run_pure]
  simp only [List.map_toArray, List.map_cons, List.map_nil, hx, hy, hz]
  have h : (Instr.build 51 #[(0, .int .i64 d), (1, .slice ao no co), (2, .slice ar nr cr)]).run Try.prog w = .ok (.agg #[.int .i64 d, .slice ao no co, .slice ar nr cr]) w := by kernel_rfl
  first | (rw [h]; rfl) | (erw [h]; rfl)
theorem num_1 : Nu.num (prodL (([[0], [1], [2], [3]] : List (List Nat)).map Ma.ofN)) = ⟨#[49]⟩ := by
  show Nu.num 1 = _
  unfold Nu.num
  rw [Nu.lsd_pos (by decide), show 1 / 10 = 0 from rfl, Nu.lsd_zero]
  rfl
theorem ans_of {w : World} {N : Nat} {gs : List (List Nat)} {ov rv : Value} {O : List (List Nat)} {R : List (List (List Nat))} (h1 : 1 ≤ N) (h2 : N ≤ 64) (h : ChEqR w ov rv (O.map Ma.ofN) (R.map (List.map Ma.ofN))) (hc : Cm.IsChain N (Cm.Gr N (· ∈ gs)) O R) : ChAns w ((N : Nat) : Int) (gs.map Ma.ofN) (.agg #[.int .i64 ((N : Nat) : Int), ov, rv]) 0 :=
  .inr ⟨rfl, N, gs, rfl, rfl, h1, h2, ov, rv, O, R, rfl, h.1, h.2, hc⟩
theorem siS4 {O : List (List Nat)} {R : List (List (List Nat))} (hc : Cm.IsChain 4 (Cm.Gr 4 (· ∈ gsS)) O R) {ov rv xv : Value} {w : World} (h : ChEqR w ov rv (O.map Ma.ofN) (R.map (List.map Ma.ofN))) (hx : Rg.Ints w xv [1, 0, 2, 3]) :
    Calls Try.prog 41 #[.agg #[.int .i64 ((4 : Nat) : Int), ov, rv], xv] w fun e w' => ∃ a n c, e = .returned (.tuple #[.slice a n c, .int .i64 2, .int .i64 0]) ∧ Rg.Ints w' (.slice a n c) [0, 1, 3, 2] ∧ Below w.heap.size w w' := by
  refine (chSift_any (n := ((4 : Nat) : Int)) (xl := Ma.ofN [1, 0, 2, 3]) h hx).mono ?_
  rintro e w' ⟨v, rfl, h1, h2⟩
  have hs := siftS hc
  rw [hs.1] at h1
  obtain ⟨a, c, rfl, -⟩ := h1.shape
  exact ⟨_, _, _, by rw [hs.1, hs.2], h1, h2⟩
theorem inS4 {O : List (List Nat)} {R : List (List (List Nat))} (hc : Cm.IsChain 4 (Cm.Gr 4 (· ∈ gsS)) O R) {ov rv xv : Value} {w : World} (h : ChEqR w ov rv (O.map Ma.ofN) (R.map (List.map Ma.ofN))) (hx : Rg.Ints w xv [3, 2, 1, 0]) :
    Calls Try.prog 42 #[.agg #[.int .i64 ((4 : Nat) : Int), ov, rv], xv] w fun e w' => e = .returned (.tuple #[.bool true, .int .i64 0]) ∧ Below w.heap.size w w' := by
  refine (chIn_any (n := ((4 : Nat) : Int)) (xl := Ma.ofN [3, 2, 1, 0]) h hx).mono ?_
  rintro e w' ⟨rfl, h2⟩
  have hs := inS hc
  exact ⟨by rw [hs.1, hs.2], h2⟩
theorem beSF4 {O O' : List (List Nat)} {R R' : List (List (List Nat))} (hc : Cm.IsChain 4 (Cm.Gr 4 (· ∈ gsS)) O R) (hc' : Cm.IsChain 4 (Cm.Gr 4 (· ∈ gsF)) O' R') {ov rv ov' rv' : Value} {w : World} (h : ChEqR w ov rv (O.map Ma.ofN) (R.map (List.map Ma.ofN))) (h' : ChEqR w ov' rv' (O'.map Ma.ofN) (R'.map (List.map Ma.ofN))) :
    Calls Try.prog 43 #[.agg #[.int .i64 ((4 : Nat) : Int), ov, rv], .agg #[.int .i64 ((4 : Nat) : Int), ov', rv']] w fun e w' => e = .returned (.tuple #[.bool true, .int .i64 0]) ∧ Below w.heap.size w w' := by
  refine (chBelow_any h h').mono ?_
  rintro e w' ⟨rfl, h2⟩
  have hs := belowSF hc hc'
  exact ⟨by rw [hs.1, hs.2], h2⟩
theorem beFS4 {O O' : List (List Nat)} {R R' : List (List (List Nat))} (hc : Cm.IsChain 4 (Cm.Gr 4 (· ∈ gsS)) O R) (hc' : Cm.IsChain 4 (Cm.Gr 4 (· ∈ gsF)) O' R') {ov rv ov' rv' : Value} {w : World} (h : ChEqR w ov rv (O.map Ma.ofN) (R.map (List.map Ma.ofN))) (h' : ChEqR w ov' rv' (O'.map Ma.ofN) (R'.map (List.map Ma.ofN))) :
    Calls Try.prog 43 #[.agg #[.int .i64 ((4 : Nat) : Int), ov', rv'], .agg #[.int .i64 ((4 : Nat) : Int), ov, rv]] w fun e w' => e = .returned (.tuple #[.bool false, .int .i64 0]) ∧ Below w.heap.size w w' := by
  refine (chBelow_any h' h).mono ?_
  rintro e w' ⟨rfl, h2⟩
  have hs := belowFS hc hc'
  exact ⟨by rw [hs.1, hs.2], h2⟩
theorem stF4 {O : List (List Nat)} {R : List (List (List Nat))} (hc : Cm.IsChain 4 (Cm.Gr 4 (· ∈ gsF)) O R) {ov rv : Value} {w : World} (h : ChEqR w ov rv (O.map Ma.ofN) (R.map (List.map Ma.ofN))) :
    Calls Try.prog 44 #[.agg #[.int .i64 ((4 : Nat) : Int), ov, rv], .int .i64 2] w fun e w' => ∃ d a n c a' n' c', e = .returned (.tuple #[.agg #[.int .i64 d, .slice a n c, .slice a' n' c'], .int .i64 0]) ∧ Rg.Rows w' (.slice a n c) [[0], [1], [2, 3], [3]] ∧ Below w.heap.size w w' := by
  refine (chStab_any (k := 2) h).mono ?_
  rintro e w' ⟨cv, rfl, h1, h2⟩
  obtain ⟨hs1, hs2⟩ := stabF hc
  rcases h1 with ⟨h0, _⟩ | ⟨_, ov2, rv2, rfl, h3⟩
  · exact absurd hs1 h0
  · rw [hs2] at h3
    obtain ⟨a, c, rfl, -⟩ := h3.1.shape
    obtain ⟨a', c', rfl⟩ := h3.2.shape
    exact ⟨_, _, _, _, _, _, _, by rw [hs1], h3.1, h2⟩
theorem rnd_bad {ll : List (List Int)} {nums : List Int} {gv nv : Value} {w : World} (hr : rndc ((4 : Nat) : Int) ll nums = 13) (h : Rg.Rows w gv ll) (hn : Rg.Ints w nv nums) :
    Calls Try.prog 36 #[.agg #[.int .i64 ((4 : Nat) : Int), gv], nv] w fun e w' => e = .returned (.tuple #[zeroC, .int .i64 13]) ∧ Below w.heap.size w w' := by
  refine (pRandom_any gv nv _ ll nums w h hn).mono ?_
  rintro e w' ⟨cv, rfl, h1, h2⟩
  rcases h1 with ⟨_, rfl⟩ | ⟨h0, _⟩
  · exact ⟨by rw [hr], h2⟩
  · rw [hr] at h0; cases h0
theorem rnd_ok {ll : List (List Int)} {nums : List Int} {gv nv : Value} {w : World} (hr : rndc ((4 : Nat) : Int) ll nums = 0) (h : Rg.Rows w gv ll) (hn : Rg.Ints w nv nums) :
    Calls Try.prog 36 #[.agg #[.int .i64 ((4 : Nat) : Int), gv], nv] w fun e w' => ∃ d a n c a' n' c', e = .returned (.tuple #[.agg #[.int .i64 d, .slice a n c, .slice a' n' c'], .int .i64 0]) ∧ ChAns w' ((4 : Nat) : Int) ll (.agg #[.int .i64 d, .slice a n c, .slice a' n' c']) 0 ∧ Below w.heap.size w w' := by
  refine (pRandom_any gv nv _ ll nums w h hn).mono ?_
  rintro e w' ⟨cv, rfl, h1, h2⟩
  rw [hr] at h1
  obtain ⟨d, a, n, c, a', n', c', rfl⟩ := h1.shape
  exact ⟨d, a, n, c, a', n', c', by rw [hr], h1, h2⟩
theorem chk_zero (w : World) : Calls Try.prog 45 #[.agg #[.int .i64 0, .slice none 0 0, .slice none 0 0]] w fun e w' => e = .returned (.int .i64 2) ∧ Below w.heap.size w w' := by
  refine (chCheck_c (n := 0) (OO := []) (RR := []) ⟨Rg.Rows.nil _ none 0 (Nat.zero_le _), [], ⟨none, 0, rfl, Nat.le_refl _, Nat.zero_le _, Nat.zero_le _, fun h => by simp at h⟩, rfl, fun i h => by simp at h⟩).mono ?_
  rintro e w' ⟨rfl, h2⟩
  exact ⟨by rw [code_zero], h2⟩
theorem chk_short {R : List (List (List Nat))} {ov rv : Value} {w : World} (h0 : R.getD 0 [] = [[0, 1, 2, 3], [1, 0, 3, 2], [2, 3, 0, 1], [3, 2, 1, 0]]) (hl : R.length = 4) (h : Rg.Rows w ov [[0, 1, 2], [1], [2], [3]]) (h2 : Rows2 w rv (R.map (List.map Ma.ofN))) :
    Calls Try.prog 45 #[.agg #[.int .i64 ((4 : Nat) : Int), ov, rv]] w fun e w' => e = .returned (.int .i64 3) ∧ Below w.heap.size w w' := by
  refine (chCheck_c (n := ((4 : Nat) : Int)) ⟨h, h2⟩).mono ?_
  rintro e w' ⟨rfl, h2⟩
  have e : ∀ hp : 0 < (R.map (List.map Ma.ofN)).length, (R.map (List.map Ma.ofN))[0].length = 4 := fun hp => by
    rw [List.getElem_map, List.length_map, ← getD_inf (by omega), h0]
    rfl
  exact ⟨by rw [code_short e (by rw [List.length_map]; exact hl)], h2⟩
set_option maxRecDepth 100000 in
set_option maxHeartbeats 16000000 in
theorem ChainKnown_any (w : World) : Calls Try.prog 7 #[] w fun e w' => e = .returned (.bool true) ∧ Below w.heap.size w w' := by
  have K := Lib.hid (Below.refl w.heap.size w)
  go_enter Try.func7, Try.ntmps7
  go_upto_region 1 with (fail)
  refine wp_region_list ?_
  refine list_ask (some 34) rfl rfl _ _ (exec_fn0 38 _ rfl (Zicl0 _ _)) ?_
  refine (first08_any w).mono ?_
  rintro e1 w1 ⟨ga, gn, gc, rfl, hgr, hb⟩
  refine ⟨_, rfl, ?_⟩
  go_frame
  replace K := Lib.hid (Rg.acc K.out hb)
  clear hb
  have GR := Lib.hid hgr.rows
  clear hgr
  refine list_ask (some 35) rfl rfl _ _ (exec_fn1 31 _ _ rfl rfl (Zicl1 _ _)) ?_
  refine (chOf_gs (N := 4) (gs := gsF) (by decide) GR.out).mono ?_
  rintro e1 w2 ⟨ov1, rv1, O1, R1, rfl, hce, hch, hb⟩
  have hO1 := chain_tab tabF_ok hch
  rw [orbTF] at hO1
  obtain ⟨oa1, oc1, rfl, _⟩ := hce.1.shape
  obtain ⟨ra1, rc1, rfl⟩ := hce.2.shape
  obtain ⟨on1, hon1⟩ : ∃ n, Hid ((O1.map Ma.ofN).length = n) := ⟨_, Lib.hid rfl⟩
  rw [hon1.out] at hce ⊢
  have HCH1 := Lib.hid hch
  have HO1 := Lib.hid hO1
  clear hch hO1
  refine ⟨_, rfl, ?_⟩
  go_frame
  replace GR := Lib.hid (GR.out.below hb)
  replace K := Lib.hid (Rg.acc K.out hb)
  clear hb
  have E1 := Lib.hid hce
  refine Rg.list_run (some 33) rfl rfl (Rg.exec_move (v := .tuple #[(.agg #[.int .i64 ((4 : Nat) : Int), .slice oa1 on1 oc1, .slice ra1 (R1.map (List.map Ma.ofN)).length rc1]), .int .i64 0]) _ rfl rfl) ?_
  go_frame
  refine Rg.list_run (some 36) rfl rfl (exec_extract (v := (.agg #[.int .i64 ((4 : Nat) : Int), .slice oa1 on1 oc1, .slice ra1 (R1.map (List.map Ma.ofN)).length rc1])) _ _ rfl rfl rfl) ?_
  go_frame
  refine Rg.list_run (some 37) rfl rfl (exec_extract (v := .int .i64 0) _ _ rfl rfl rfl) ?_
  go_frame
  refine Rg.list_run (some 1) rfl rfl (exec_allocC rfl) ?_
  go_frame
  refine Rg.list_skip none rfl rfl (Rg.exec_store _ _ _ rfl _ rfl _ rfl (run_storeC _ _ _ _ _ _ _ (Tri.new w2 (.int .i64 0) (.slice none 0 0) (.slice none 0 0)))) ?_
  go_frame
  have htn := (Tri.new w2 (.int .i64 0) (.slice none 0 0) (.slice none 0 0)).set (.int .i64 ((4 : Nat) : Int)) (.slice oa1 on1 oc1) (.slice ra1 (R1.map (List.map Ma.ofN)).length rc1)
  have hb := ((((Below.refl w2.heap.size w2).alloc (Nat.le_refl _) (.cells #[.int .i64 0, .slice none 0 0, .slice none 0 0] 51)).setCell (p := ⟨w2.heap.size, 0, none⟩) (Nat.le_refl _) (.int .i64 ((4 : Nat) : Int))).setCell (p := ⟨w2.heap.size, 1, none⟩) (Nat.le_refl _) (.slice oa1 on1 oc1)).setCell (p := ⟨w2.heap.size, 2, none⟩) (Nat.le_refl _) (.slice ra1 (R1.map (List.map Ma.ofN)).length rc1)
  generalize (((w2.alloc (.cells #[.int .i64 0, .slice none 0 0, .slice none 0 0] 51)).setCell ⟨w2.heap.size, 0, none⟩ (.int .i64 ((4 : Nat) : Int))).setCell ⟨w2.heap.size, 1, none⟩ (.slice oa1 on1 oc1)).setCell ⟨w2.heap.size, 2, none⟩ (.slice ra1 (R1.map (List.map Ma.ofN)).length rc1) = w3 at *
  replace GR := Lib.hid (GR.out.below hb)
  replace E1 := Lib.hid (E1.out.below hb)
  replace K := Lib.hid (Rg.acc K.out hb)
  clear hb
  have T1 := Lib.hid htn
  clear htn
  refine Rg.list_run (some 2) rfl rfl (Rg.exec_assign (v := .int .i64 0) _ rfl rfl) ?_
  go_frame
  clear GR hce
  go_upto_region 2 with (fail)
  refine wp_region_list ?_
  refine list_ask (some 39) rfl rfl _ _ (exec_fn0 39 _ rfl (Zicl2 _ _)) ?_
  refine (second08_any w3).mono ?_
  rintro e1 w4 ⟨ga, gn, gc, rfl, hgr, hb⟩
  refine ⟨_, rfl, ?_⟩
  go_frame
  replace E1 := Lib.hid (E1.out.below hb)
  replace T1 := Lib.hid (T1.out.below hb)
  replace K := Lib.hid (Rg.acc K.out hb)
  clear hb
  have GR := Lib.hid hgr.rows
  clear hgr
  refine list_ask (some 40) rfl rfl _ _ (exec_fn1 31 _ _ rfl rfl (Zicl1 _ _)) ?_
  refine (chOf_gs (N := 4) (gs := gsS) (by decide) GR.out).mono ?_
  rintro e1 w5 ⟨ov2, rv2, O2, R2, rfl, hce, hch, hb⟩
  have hO2 := chain_tab tabS_ok hch
  rw [orbTS] at hO2
  obtain ⟨oa2, oc2, rfl, _⟩ := hce.1.shape
  obtain ⟨ra2, rc2, rfl⟩ := hce.2.shape
  obtain ⟨on2, hon2⟩ : ∃ n, Hid ((O2.map Ma.ofN).length = n) := ⟨_, Lib.hid rfl⟩
  rw [hon2.out] at hce ⊢
  have HCH2 := Lib.hid hch
  have HO2 := Lib.hid hO2
  clear hch hO2
  refine ⟨_, rfl, ?_⟩
  go_frame
  replace E1 := Lib.hid (E1.out.below hb)
  replace T1 := Lib.hid (T1.out.below hb)
  replace GR := Lib.hid (GR.out.below hb)
  replace K := Lib.hid (Rg.acc K.out hb)
  clear hb
  have E2 := Lib.hid hce
  refine Rg.list_run (some 38) rfl rfl (Rg.exec_move (v := .tuple #[(.agg #[.int .i64 ((4 : Nat) : Int), .slice oa2 on2 oc2, .slice ra2 (R2.map (List.map Ma.ofN)).length rc2]), .int .i64 0]) _ rfl rfl) ?_
  go_frame
  refine Rg.list_run (some 41) rfl rfl (exec_extract (v := (.agg #[.int .i64 ((4 : Nat) : Int), .slice oa2 on2 oc2, .slice ra2 (R2.map (List.map Ma.ofN)).length rc2])) _ _ rfl rfl rfl) ?_
  go_frame
  refine Rg.list_run (some 42) rfl rfl (exec_extract (v := .int .i64 0) _ _ rfl rfl rfl) ?_
  go_frame
  refine Rg.list_run (some 3) rfl rfl (exec_allocC rfl) ?_
  go_frame
  refine Rg.list_skip none rfl rfl (Rg.exec_store _ _ _ rfl _ rfl _ rfl (run_storeC _ _ _ _ _ _ _ (Tri.new w5 (.int .i64 0) (.slice none 0 0) (.slice none 0 0)))) ?_
  go_frame
  have htn := (Tri.new w5 (.int .i64 0) (.slice none 0 0) (.slice none 0 0)).set (.int .i64 ((4 : Nat) : Int)) (.slice oa2 on2 oc2) (.slice ra2 (R2.map (List.map Ma.ofN)).length rc2)
  have hb := ((((Below.refl w5.heap.size w5).alloc (Nat.le_refl _) (.cells #[.int .i64 0, .slice none 0 0, .slice none 0 0] 51)).setCell (p := ⟨w5.heap.size, 0, none⟩) (Nat.le_refl _) (.int .i64 ((4 : Nat) : Int))).setCell (p := ⟨w5.heap.size, 1, none⟩) (Nat.le_refl _) (.slice oa2 on2 oc2)).setCell (p := ⟨w5.heap.size, 2, none⟩) (Nat.le_refl _) (.slice ra2 (R2.map (List.map Ma.ofN)).length rc2)
  generalize (((w5.alloc (.cells #[.int .i64 0, .slice none 0 0, .slice none 0 0] 51)).setCell ⟨w5.heap.size, 0, none⟩ (.int .i64 ((4 : Nat) : Int))).setCell ⟨w5.heap.size, 1, none⟩ (.slice oa2 on2 oc2)).setCell ⟨w5.heap.size, 2, none⟩ (.slice ra2 (R2.map (List.map Ma.ofN)).length rc2) = w6 at *
  replace E1 := Lib.hid (E1.out.below hb)
  replace T1 := Lib.hid (T1.out.below hb)
  replace GR := Lib.hid (GR.out.below hb)
  replace E2 := Lib.hid (E2.out.below hb)
  replace K := Lib.hid (Rg.acc K.out hb)
  clear hb
  have T2 := Lib.hid htn
  clear htn
  refine Rg.list_run (some 4) rfl rfl (Rg.exec_assign (v := .int .i64 0) _ rfl rfl) ?_
  go_frame
  clear GR hce
  go_upto_region 3 with (fail)
  refine wp_region_list ?_
  refine Rg.list_run (some 44) rfl rfl (exec_buildG1 _ rfl rfl) ?_
  go_frame
  refine list_ask (some 45) rfl rfl _ _ (exec_fn1 31 _ _ rfl rfl (Zicl1 _ _)) ?_
  refine (chOf_gs (N := 4) (gs := gsE) (by decide) (Rg.Rows.nil _ none 0 (Nat.zero_le _))).mono ?_
  rintro e1 w7 ⟨ov3, rv3, O3, R3, rfl, hce, hch, hb⟩
  have hO3 := chain_tab tabE_ok hch
  rw [orbTE] at hO3
  obtain ⟨oa3, oc3, rfl, _⟩ := hce.1.shape
  obtain ⟨ra3, rc3, rfl⟩ := hce.2.shape
  obtain ⟨on3, hon3⟩ : ∃ n, Hid ((O3.map Ma.ofN).length = n) := ⟨_, Lib.hid rfl⟩
  rw [hon3.out] at hce ⊢
  have HCH3 := Lib.hid hch
  have HO3 := Lib.hid hO3
  clear hch hO3
  refine ⟨_, rfl, ?_⟩
  go_frame
  replace E1 := Lib.hid (E1.out.below hb)
  replace T1 := Lib.hid (T1.out.below hb)
  replace E2 := Lib.hid (E2.out.below hb)
  replace T2 := Lib.hid (T2.out.below hb)
  replace K := Lib.hid (Rg.acc K.out hb)
  clear hb
  have E3 := Lib.hid hce
  refine Rg.list_run (some 43) rfl rfl (Rg.exec_move (v := .tuple #[(.agg #[.int .i64 ((4 : Nat) : Int), .slice oa3 on3 oc3, .slice ra3 (R3.map (List.map Ma.ofN)).length rc3]), .int .i64 0]) _ rfl rfl) ?_
  go_frame
  refine Rg.list_run (some 46) rfl rfl (exec_extract (v := (.agg #[.int .i64 ((4 : Nat) : Int), .slice oa3 on3 oc3, .slice ra3 (R3.map (List.map Ma.ofN)).length rc3])) _ _ rfl rfl rfl) ?_
  go_frame
  refine Rg.list_run (some 47) rfl rfl (exec_extract (v := .int .i64 0) _ _ rfl rfl rfl) ?_
  go_frame
  refine Rg.list_run (some 5) rfl rfl (exec_allocC rfl) ?_
  go_frame
  refine Rg.list_skip none rfl rfl (Rg.exec_store _ _ _ rfl _ rfl _ rfl (run_storeC _ _ _ _ _ _ _ (Tri.new w7 (.int .i64 0) (.slice none 0 0) (.slice none 0 0)))) ?_
  go_frame
  have htn := (Tri.new w7 (.int .i64 0) (.slice none 0 0) (.slice none 0 0)).set (.int .i64 ((4 : Nat) : Int)) (.slice oa3 on3 oc3) (.slice ra3 (R3.map (List.map Ma.ofN)).length rc3)
  have hb := ((((Below.refl w7.heap.size w7).alloc (Nat.le_refl _) (.cells #[.int .i64 0, .slice none 0 0, .slice none 0 0] 51)).setCell (p := ⟨w7.heap.size, 0, none⟩) (Nat.le_refl _) (.int .i64 ((4 : Nat) : Int))).setCell (p := ⟨w7.heap.size, 1, none⟩) (Nat.le_refl _) (.slice oa3 on3 oc3)).setCell (p := ⟨w7.heap.size, 2, none⟩) (Nat.le_refl _) (.slice ra3 (R3.map (List.map Ma.ofN)).length rc3)
  generalize (((w7.alloc (.cells #[.int .i64 0, .slice none 0 0, .slice none 0 0] 51)).setCell ⟨w7.heap.size, 0, none⟩ (.int .i64 ((4 : Nat) : Int))).setCell ⟨w7.heap.size, 1, none⟩ (.slice oa3 on3 oc3)).setCell ⟨w7.heap.size, 2, none⟩ (.slice ra3 (R3.map (List.map Ma.ofN)).length rc3) = w8 at *
  replace E1 := Lib.hid (E1.out.below hb)
  replace T1 := Lib.hid (T1.out.below hb)
  replace E2 := Lib.hid (E2.out.below hb)
  replace T2 := Lib.hid (T2.out.below hb)
  replace E3 := Lib.hid (E3.out.below hb)
  replace K := Lib.hid (Rg.acc K.out hb)
  clear hb
  have T3 := Lib.hid htn
  clear htn
  refine Rg.list_run (some 6) rfl rfl (Rg.exec_assign (v := .int .i64 0) _ rfl rfl) ?_
  go_frame
  clear hce
  go_upto_region 4 with (fail)
  refine wp_region_list ?_
  refine Rg.list_run (some 49) rfl rfl (Rg.exec_load (v := (.agg #[.int .i64 ((4 : Nat) : Int), .slice oa3 on3 oc3, .slice ra3 (R3.map (List.map Ma.ofN)).length rc3])) _ _ rfl ⟨w7.heap.size, 0, none⟩ rfl (run_loadC3 T3.out.c0 T3.out.c1 T3.out.c2)) ?_
  go_frame
  have HOK := Lib.hid (chain_ok (N := 4) (by decide) (by decide) (tab_tr tabE_ok).1 HCH3.out)
  refine list_ask (some 50) rfl rfl _ _ (exec_fn1 40 _ _ rfl rfl (Zicl3 _ _)) ?_
  refine (chOrder_any E3.out).mono ?_
  rintro e1 w9 ⟨s3, c3, rfl, hC, hs, _, hb⟩
  obtain rfl : c3 = 0 := hC.uniq (ChC.of HOK.out)
  have hs2 := hs rfl
  rw [HO3.out, num_1] at hs2
  subst hs2
  clear HOK hC hs
  refine ⟨_, rfl, ?_⟩
  go_frame
  replace E1 := Lib.hid (E1.out.below hb)
  replace T1 := Lib.hid (T1.out.below hb)
  replace E2 := Lib.hid (E2.out.below hb)
  replace T2 := Lib.hid (T2.out.below hb)
  replace E3 := Lib.hid (E3.out.below hb)
  replace T3 := Lib.hid (T3.out.below hb)
  replace K := Lib.hid (Rg.acc K.out hb)
  clear hb
  refine Rg.list_run (some 48) rfl rfl (Rg.exec_move (v := .tuple #[(.string ⟨#[49]⟩), .int .i64 0]) _ rfl rfl) ?_
  go_frame
  refine Rg.list_run (some 51) rfl rfl (exec_extract (v := (.string ⟨#[49]⟩)) _ _ rfl rfl rfl) ?_
  go_frame
  refine Rg.list_run (some 52) rfl rfl (exec_extract (v := .int .i64 0) _ _ rfl rfl rfl) ?_
  go_frame
  refine Rg.list_run (some 7) rfl rfl (Rg.exec_assign (v := (.string ⟨#[49]⟩)) _ rfl rfl) ?_
  go_frame
  refine Rg.list_run (some 8) rfl rfl (Rg.exec_assign (v := .int .i64 0) _ rfl rfl) ?_
  go_frame
  go_upto_region 5 with (fail)
  refine wp_region_list ?_
  refine Rg.list_run (some 53) rfl rfl (Rg.exec_move (v := .int .i64 0) _ rfl rfl) ?_
  go_frame
  refine Rg.list_run (some 54) rfl rfl (exec_eqI _ _ rfl rfl rfl rfl) ?_
  go_frame
  refine Rg.list_run (some 55) rfl rfl (Rg.exec_move (v := .bool true) _ rfl rfl) ?_
  go_frame
  refine listW_run (some 56) rfl rfl (Rg.exec_move (v := (.string ⟨#[49]⟩)) _ rfl rfl) ?_
  go_frame
  refine listW_run (some 57) rfl rfl (exec_eqS _ _ rfl rfl rfl) ?_
  go_frame
  refine Rg.list_run (some 58) rfl rfl (exec_pickT (v := .bool true) _ _ _ rfl rfl rfl) ?_
  go_frame
  refine Rg.list_run (some 59) rfl rfl (Rg.exec_move (v := .bool true) _ rfl rfl) ?_
  go_frame
  refine listW_run (some 60) rfl rfl (Rg.exec_move (v := .int .i64 0) _ rfl rfl) ?_
  go_frame
  refine listW_run (some 61) rfl rfl (exec_eqI _ _ rfl rfl rfl rfl) ?_
  go_frame
  refine Rg.list_run (some 62) rfl rfl (exec_pickT (v := .bool true) _ _ _ rfl rfl rfl) ?_
  go_frame
  refine Rg.list_run (some 63) rfl rfl (Rg.exec_move (v := .bool true) _ rfl rfl) ?_
  go_frame
  refine listW_run (some 64) rfl rfl (exec_field _ rfl rfl (chF1 _ _)) ?_
  go_frame
  refine listW_run (some 65) rfl rfl (Rg.exec_load (v := .slice oa2 on2 oc2) _ _ rfl ⟨w5.heap.size, 1, none⟩ rfl (Rg.run_loadSl _ _ Try.underlying41 T2.out.c1)) ?_
  go_frame
  have hnew := ints_new w9 3 [0, 1, 2, 3] (by decide)
  refine listW_run (some 66) rfl rfl (exec_flat _ _ 4 _ rfl [0, 1, 2, 3] Try.underlying33 szInt zInt rfl (by decide) (by decide) rfl) ?_
  go_frame
  have hb := (Below.refl w9.heap.size w9).alloc (Nat.le_refl _) (.cells (([0, 1, 2, 3] : List Int).map (Value.int .i64)).toArray 3)
  generalize w9.alloc (.cells (([0, 1, 2, 3] : List Int).map (Value.int .i64)).toArray 3) = w10 at *
  replace E1 := Lib.hid (E1.out.below hb)
  replace T1 := Lib.hid (T1.out.below hb)
  replace E2 := Lib.hid (E2.out.below hb)
  replace T2 := Lib.hid (T2.out.below hb)
  replace E3 := Lib.hid (E3.out.below hb)
  replace T3 := Lib.hid (T3.out.below hb)
  replace K := Lib.hid (Rg.acc K.out hb)
  clear hb
  have I0 := Lib.hid hnew
  clear hnew
  have hnew := ints_new w10 3 [1] (by decide)
  refine listW_run (some 67) rfl rfl (exec_flat _ _ 1 _ rfl [1] Try.underlying33 szInt zInt rfl (by decide) (by decide) rfl) ?_
  go_frame
  have hb := (Below.refl w10.heap.size w10).alloc (Nat.le_refl _) (.cells (([1] : List Int).map (Value.int .i64)).toArray 3)
  generalize w10.alloc (.cells (([1] : List Int).map (Value.int .i64)).toArray 3) = w11 at *
  replace E1 := Lib.hid (E1.out.below hb)
  replace T1 := Lib.hid (T1.out.below hb)
  replace E2 := Lib.hid (E2.out.below hb)
  replace T2 := Lib.hid (T2.out.below hb)
  replace E3 := Lib.hid (E3.out.below hb)
  replace T3 := Lib.hid (T3.out.below hb)
  replace I0 := Lib.hid (I0.out.below hb)
  replace K := Lib.hid (Rg.acc K.out hb)
  clear hb
  have I1 := Lib.hid hnew
  clear hnew
  have hnew := ints_new w11 3 [2] (by decide)
  refine listW_run (some 68) rfl rfl (exec_flat _ _ 1 _ rfl [2] Try.underlying33 szInt zInt rfl (by decide) (by decide) rfl) ?_
  go_frame
  have hb := (Below.refl w11.heap.size w11).alloc (Nat.le_refl _) (.cells (([2] : List Int).map (Value.int .i64)).toArray 3)
  generalize w11.alloc (.cells (([2] : List Int).map (Value.int .i64)).toArray 3) = w12 at *
  replace E1 := Lib.hid (E1.out.below hb)
  replace T1 := Lib.hid (T1.out.below hb)
  replace E2 := Lib.hid (E2.out.below hb)
  replace T2 := Lib.hid (T2.out.below hb)
  replace E3 := Lib.hid (E3.out.below hb)
  replace T3 := Lib.hid (T3.out.below hb)
  replace I0 := Lib.hid (I0.out.below hb)
  replace I1 := Lib.hid (I1.out.below hb)
  replace K := Lib.hid (Rg.acc K.out hb)
  clear hb
  have I2 := Lib.hid hnew
  clear hnew
  have hnew := ints_new w12 3 [3] (by decide)
  refine listW_run (some 69) rfl rfl (exec_flat _ _ 1 _ rfl [3] Try.underlying33 szInt zInt rfl (by decide) (by decide) rfl) ?_
  go_frame
  have hb := (Below.refl w12.heap.size w12).alloc (Nat.le_refl _) (.cells (([3] : List Int).map (Value.int .i64)).toArray 3)
  generalize w12.alloc (.cells (([3] : List Int).map (Value.int .i64)).toArray 3) = w13 at *
  replace E1 := Lib.hid (E1.out.below hb)
  replace T1 := Lib.hid (T1.out.below hb)
  replace E2 := Lib.hid (E2.out.below hb)
  replace T2 := Lib.hid (T2.out.below hb)
  replace E3 := Lib.hid (E3.out.below hb)
  replace T3 := Lib.hid (T3.out.below hb)
  replace I0 := Lib.hid (I0.out.below hb)
  replace I1 := Lib.hid (I1.out.below hb)
  replace I2 := Lib.hid (I2.out.below hb)
  replace K := Lib.hid (Rg.acc K.out hb)
  clear hb
  have I3 := Lib.hid hnew
  clear hnew
  have hrw : Rg.Rows (w13.alloc (.cells #[.slice (some ⟨w9.heap.size, 0, none⟩) 4 4, .slice (some ⟨w10.heap.size, 0, none⟩) 1 1, .slice (some ⟨w11.heap.size, 0, none⟩) 1 1, .slice (some ⟨w12.heap.size, 0, none⟩) 1 1] 33)) (.slice (some ⟨w13.heap.size, 0, none⟩) 4 4) [[0, 1, 2, 3], [1], [2], [3]] := (rowsF_new (B := 0) (w := w13) 33 [.slice (some ⟨w9.heap.size, 0, none⟩) 4 4, .slice (some ⟨w10.heap.size, 0, none⟩) 1 1, .slice (some ⟨w11.heap.size, 0, none⟩) 1 1, .slice (some ⟨w12.heap.size, 0, none⟩) 1 1] [[0, 1, 2, 3], [1], [2], [3]] rfl (by simp) (by
    intro i h h2
    match i, h, h2 with
    | 0, _, _ => exact ⟨I0.out, fun _ _ _ _ => Nat.zero_le _⟩
    | 1, _, _ => exact ⟨I1.out, fun _ _ _ _ => Nat.zero_le _⟩
    | 2, _, _ => exact ⟨I2.out, fun _ _ _ _ => Nat.zero_le _⟩
    | 3, _, _ => exact ⟨I3.out, fun _ _ _ _ => Nat.zero_le _⟩) (Nat.zero_le _)).rows
  refine listW_run (some 70) rfl rfl (exec_buildL4 (u1 := .slice (some ⟨w9.heap.size, 0, none⟩) 4 4) (u2 := .slice (some ⟨w10.heap.size, 0, none⟩) 1 1) (u3 := .slice (some ⟨w11.heap.size, 0, none⟩) 1 1) (u4 := .slice (some ⟨w12.heap.size, 0, none⟩) 1 1) _ _ _ _ rfl rfl rfl rfl rfl (run_buildL4 w13 _ _ _ _ ⟨_, _, _, rfl⟩ ⟨_, _, _, rfl⟩ ⟨_, _, _, rfl⟩ ⟨_, _, _, rfl⟩)) ?_
  go_frame
  have hb := (Below.refl w13.heap.size w13).alloc (Nat.le_refl _) (.cells #[.slice (some ⟨w9.heap.size, 0, none⟩) 4 4, .slice (some ⟨w10.heap.size, 0, none⟩) 1 1, .slice (some ⟨w11.heap.size, 0, none⟩) 1 1, .slice (some ⟨w12.heap.size, 0, none⟩) 1 1] 33)
  generalize w13.alloc (.cells #[.slice (some ⟨w9.heap.size, 0, none⟩) 4 4, .slice (some ⟨w10.heap.size, 0, none⟩) 1 1, .slice (some ⟨w11.heap.size, 0, none⟩) 1 1, .slice (some ⟨w12.heap.size, 0, none⟩) 1 1] 33) = w14 at *
  replace E1 := Lib.hid (E1.out.below hb)
  replace T1 := Lib.hid (T1.out.below hb)
  replace E2 := Lib.hid (E2.out.below hb)
  replace T2 := Lib.hid (T2.out.below hb)
  replace E3 := Lib.hid (E3.out.below hb)
  replace T3 := Lib.hid (T3.out.below hb)
  replace I0 := Lib.hid (I0.out.below hb)
  replace I1 := Lib.hid (I1.out.below hb)
  replace I2 := Lib.hid (I2.out.below hb)
  replace I3 := Lib.hid (I3.out.below hb)
  replace K := Lib.hid (Rg.acc K.out hb)
  clear hb
  have RW := Lib.hid hrw
  clear hrw
  refine listW_ask (some 71) rfl rfl _ _ (exec_fn 25 _ _ _ rfl rfl rfl (Zicl4 _ _)) ?_
  refine (SameLists_b E2.out.1 RW.out (Lib.hid (decide_eq_true (by rw [HO2.out]; rfl)))).mono ?_
  rintro e1 w15 ⟨rfl, hb⟩
  refine ⟨_, rfl, ?_⟩
  go_frame
  replace E1 := Lib.hid (E1.out.below hb)
  replace T1 := Lib.hid (T1.out.below hb)
  replace E2 := Lib.hid (E2.out.below hb)
  replace T2 := Lib.hid (T2.out.below hb)
  replace E3 := Lib.hid (E3.out.below hb)
  replace T3 := Lib.hid (T3.out.below hb)
  replace I0 := Lib.hid (I0.out.below hb)
  replace I1 := Lib.hid (I1.out.below hb)
  replace I2 := Lib.hid (I2.out.below hb)
  replace I3 := Lib.hid (I3.out.below hb)
  replace RW := Lib.hid (RW.out.below hb)
  replace K := Lib.hid (Rg.acc K.out hb)
  clear hb
  refine Rg.list_run (some 72) rfl rfl (exec_pickT (v := .bool true) _ _ _ rfl rfl rfl) ?_
  go_frame
  refine Rg.list_run (some 9) rfl rfl (Rg.exec_assign (v := .bool true) _ rfl rfl) ?_
  go_frame
  clear I0 I1 I2 I3 RW E3 T3
  go_upto_region 6 with (fail)
  refine wp_region_list ?_
  refine Rg.list_run (some 74) rfl rfl (Rg.exec_load (v := (.agg #[.int .i64 ((4 : Nat) : Int), .slice oa2 on2 oc2, .slice ra2 (R2.map (List.map Ma.ofN)).length rc2])) _ _ rfl ⟨w5.heap.size, 0, none⟩ rfl (run_loadC3 T2.out.c0 T2.out.c1 T2.out.c2)) ?_
  go_frame
  have hnew := ints_new w15 3 [1, 0, 2, 3] (by decide)
  refine Rg.list_run (some 75) rfl rfl (exec_flat _ _ 4 _ rfl [1, 0, 2, 3] Try.underlying62 szInt zInt rfl (by decide) (by decide) rfl) ?_
  go_frame
  have hb := (Below.refl w15.heap.size w15).alloc (Nat.le_refl _) (.cells (([1, 0, 2, 3] : List Int).map (Value.int .i64)).toArray 3)
  generalize w15.alloc (.cells (([1, 0, 2, 3] : List Int).map (Value.int .i64)).toArray 3) = w16 at *
  replace E1 := Lib.hid (E1.out.below hb)
  replace T1 := Lib.hid (T1.out.below hb)
  replace E2 := Lib.hid (E2.out.below hb)
  replace T2 := Lib.hid (T2.out.below hb)
  replace K := Lib.hid (Rg.acc K.out hb)
  clear hb
  have I0 := Lib.hid hnew
  clear hnew
  refine list_ask (some 76) rfl rfl _ _ (exec_fn 41 _ _ _ rfl rfl rfl (Zicl5 _ _)) ?_
  refine (siS4 HCH2.out E2.out I0.out).mono ?_
  rintro e1 w17 ⟨xa, xn, xc, rfl, hxv, hb⟩
  refine ⟨_, rfl, ?_⟩
  go_frame
  replace E1 := Lib.hid (E1.out.below hb)
  replace T1 := Lib.hid (T1.out.below hb)
  replace E2 := Lib.hid (E2.out.below hb)
  replace T2 := Lib.hid (T2.out.below hb)
  replace I0 := Lib.hid (I0.out.below hb)
  replace K := Lib.hid (Rg.acc K.out hb)
  clear hb
  have XV := Lib.hid hxv
  refine Rg.list_run (some 73) rfl rfl (Rg.exec_move (v := .tuple #[.slice xa xn xc, .int .i64 2, .int .i64 0]) _ rfl rfl) ?_
  go_frame
  refine Rg.list_run (some 77) rfl rfl (exec_extract (v := .slice xa xn xc) _ _ rfl rfl rfl) ?_
  go_frame
  refine Rg.list_run (some 78) rfl rfl (exec_extract (v := .int .i64 2) _ _ rfl rfl rfl) ?_
  go_frame
  refine Rg.list_run (some 79) rfl rfl (exec_extract (v := .int .i64 0) _ _ rfl rfl rfl) ?_
  go_frame
  refine Rg.list_run (some 10) rfl rfl (Rg.exec_assign (v := .slice xa xn xc) _ rfl rfl) ?_
  go_frame
  refine Rg.list_run (some 11) rfl rfl (Rg.exec_assign (v := .int .i64 2) _ rfl rfl) ?_
  go_frame
  refine Rg.list_run (some 12) rfl rfl (Rg.exec_assign (v := .int .i64 0) _ rfl rfl) ?_
  go_frame
  clear hxv
  clear I0
  go_upto_region 7 with (fail)
  refine wp_region_list ?_
  refine Rg.list_run (some 81) rfl rfl (Rg.exec_load (v := (.agg #[.int .i64 ((4 : Nat) : Int), .slice oa2 on2 oc2, .slice ra2 (R2.map (List.map Ma.ofN)).length rc2])) _ _ rfl ⟨w5.heap.size, 0, none⟩ rfl (run_loadC3 T2.out.c0 T2.out.c1 T2.out.c2)) ?_
  go_frame
  have hnew := ints_new w17 3 [3, 2, 1, 0] (by decide)
  refine Rg.list_run (some 82) rfl rfl (exec_flat _ _ 4 _ rfl [3, 2, 1, 0] Try.underlying62 szInt zInt rfl (by decide) (by decide) rfl) ?_
  go_frame
  have hb := (Below.refl w17.heap.size w17).alloc (Nat.le_refl _) (.cells (([3, 2, 1, 0] : List Int).map (Value.int .i64)).toArray 3)
  generalize w17.alloc (.cells (([3, 2, 1, 0] : List Int).map (Value.int .i64)).toArray 3) = w18 at *
  replace E1 := Lib.hid (E1.out.below hb)
  replace T1 := Lib.hid (T1.out.below hb)
  replace E2 := Lib.hid (E2.out.below hb)
  replace T2 := Lib.hid (T2.out.below hb)
  replace XV := Lib.hid (XV.out.below hb)
  replace K := Lib.hid (Rg.acc K.out hb)
  clear hb
  have I0 := Lib.hid hnew
  clear hnew
  refine list_ask (some 83) rfl rfl _ _ (exec_fn 42 _ _ _ rfl rfl rfl (Zicl6 _ _)) ?_
  refine (inS4 HCH2.out E2.out I0.out).mono ?_
  rintro e1 w19 ⟨rfl, hb⟩
  refine ⟨_, rfl, ?_⟩
  go_frame
  replace E1 := Lib.hid (E1.out.below hb)
  replace T1 := Lib.hid (T1.out.below hb)
  replace E2 := Lib.hid (E2.out.below hb)
  replace T2 := Lib.hid (T2.out.below hb)
  replace XV := Lib.hid (XV.out.below hb)
  replace I0 := Lib.hid (I0.out.below hb)
  replace K := Lib.hid (Rg.acc K.out hb)
  clear hb
  refine Rg.list_run (some 80) rfl rfl (Rg.exec_move (v := .tuple #[.bool true, .int .i64 0]) _ rfl rfl) ?_
  go_frame
  refine Rg.list_run (some 84) rfl rfl (exec_extract (v := .bool true) _ _ rfl rfl rfl) ?_
  go_frame
  refine Rg.list_run (some 85) rfl rfl (exec_extract (v := .int .i64 0) _ _ rfl rfl rfl) ?_
  go_frame
  refine Rg.list_run (some 13) rfl rfl (Rg.exec_assign (v := .bool true) _ rfl rfl) ?_
  go_frame
  refine Rg.list_run (some 14) rfl rfl (Rg.exec_assign (v := .int .i64 0) _ rfl rfl) ?_
  go_frame
  clear I0
  go_upto_region 8 with (fail)
  refine wp_region_list ?_
  refine Rg.list_run (some 86) rfl rfl (Rg.exec_move (v := .slice xa xn xc) _ rfl rfl) ?_
  go_frame
  have hnew := ints_new w19 3 [0, 1, 3, 2] (by decide)
  refine Rg.list_run (some 87) rfl rfl (exec_flat _ _ 4 _ rfl [0, 1, 3, 2] Try.underlying62 szInt zInt rfl (by decide) (by decide) rfl) ?_
  go_frame
  have hb := (Below.refl w19.heap.size w19).alloc (Nat.le_refl _) (.cells (([0, 1, 3, 2] : List Int).map (Value.int .i64)).toArray 3)
  generalize w19.alloc (.cells (([0, 1, 3, 2] : List Int).map (Value.int .i64)).toArray 3) = w20 at *
  replace E1 := Lib.hid (E1.out.below hb)
  replace T1 := Lib.hid (T1.out.below hb)
  replace E2 := Lib.hid (E2.out.below hb)
  replace T2 := Lib.hid (T2.out.below hb)
  replace XV := Lib.hid (XV.out.below hb)
  replace K := Lib.hid (Rg.acc K.out hb)
  clear hb
  have I0 := Lib.hid hnew
  clear hnew
  refine list_ask (some 88) rfl rfl _ _ (exec_fn 24 _ _ _ rfl rfl rfl (Zicl7 _ _)) ?_
  refine (Same_any (b := true) XV.out I0.out (Lib.hid (decide_eq_true rfl)) (Below.refl _ _)).mono ?_
  rintro e1 w21 ⟨rfl, hb⟩
  refine ⟨_, rfl, ?_⟩
  go_frame
  replace E1 := Lib.hid (E1.out.below hb)
  replace T1 := Lib.hid (T1.out.below hb)
  replace E2 := Lib.hid (E2.out.below hb)
  replace T2 := Lib.hid (T2.out.below hb)
  replace XV := Lib.hid (XV.out.below hb)
  replace I0 := Lib.hid (I0.out.below hb)
  replace K := Lib.hid (Rg.acc K.out hb)
  clear hb
  refine Rg.list_run (some 89) rfl rfl (Rg.exec_move (v := .bool true) _ rfl rfl) ?_
  go_frame
  refine listW_run (some 90) rfl rfl (Rg.exec_move (v := .int .i64 2) _ rfl rfl) ?_
  go_frame
  refine listW_run (some 91) rfl rfl (exec_bin (R := .bool true) .eql _ _ _ rfl rfl rfl (b_eql _ (decide_eq_true rfl))) ?_
  go_frame
  refine Rg.list_run (some 92) rfl rfl (exec_pickT (v := .bool true) _ _ _ rfl rfl rfl) ?_
  go_frame
  refine Rg.list_run (some 93) rfl rfl (Rg.exec_move (v := .bool true) _ rfl rfl) ?_
  go_frame
  refine listW_run (some 94) rfl rfl (Rg.exec_move (v := .int .i64 0) _ rfl rfl) ?_
  go_frame
  refine listW_run (some 95) rfl rfl (exec_eqI _ _ rfl rfl rfl rfl) ?_
  go_frame
  refine Rg.list_run (some 96) rfl rfl (exec_pickT (v := .bool true) _ _ _ rfl rfl rfl) ?_
  go_frame
  refine Rg.list_run (some 97) rfl rfl (Rg.exec_move (v := .bool true) _ rfl rfl) ?_
  go_frame
  refine listW_run (some 98) rfl rfl (Rg.exec_move (v := .bool true) _ rfl rfl) ?_
  go_frame
  refine Rg.list_run (some 99) rfl rfl (exec_pickT (v := .bool true) _ _ _ rfl rfl rfl) ?_
  go_frame
  refine Rg.list_run (some 100) rfl rfl (Rg.exec_move (v := .bool true) _ rfl rfl) ?_
  go_frame
  refine listW_run (some 101) rfl rfl (Rg.exec_move (v := .int .i64 0) _ rfl rfl) ?_
  go_frame
  refine listW_run (some 102) rfl rfl (exec_eqI _ _ rfl rfl rfl rfl) ?_
  go_frame
  refine Rg.list_run (some 103) rfl rfl (exec_pickT (v := .bool true) _ _ _ rfl rfl rfl) ?_
  go_frame
  refine Rg.list_run (some 15) rfl rfl (Rg.exec_assign (v := .bool true) _ rfl rfl) ?_
  go_frame
  clear I0 XV
  go_upto_region 9 with (fail)
  refine wp_region_list ?_
  refine Rg.list_run (some 105) rfl rfl (Rg.exec_load (v := (.agg #[.int .i64 ((4 : Nat) : Int), .slice oa2 on2 oc2, .slice ra2 (R2.map (List.map Ma.ofN)).length rc2])) _ _ rfl ⟨w5.heap.size, 0, none⟩ rfl (run_loadC3 T2.out.c0 T2.out.c1 T2.out.c2)) ?_
  go_frame
  refine Rg.list_run (some 106) rfl rfl (Rg.exec_load (v := (.agg #[.int .i64 ((4 : Nat) : Int), .slice oa1 on1 oc1, .slice ra1 (R1.map (List.map Ma.ofN)).length rc1])) _ _ rfl ⟨w2.heap.size, 0, none⟩ rfl (run_loadC3 T1.out.c0 T1.out.c1 T1.out.c2)) ?_
  go_frame
  refine list_ask (some 107) rfl rfl _ _ (exec_fn 43 _ _ _ rfl rfl rfl (Zicl8 _ _)) ?_
  refine (beSF4 HCH2.out HCH1.out E2.out E1.out).mono ?_
  rintro e1 w22 ⟨rfl, hb⟩
  refine ⟨_, rfl, ?_⟩
  go_frame
  replace E1 := Lib.hid (E1.out.below hb)
  replace T1 := Lib.hid (T1.out.below hb)
  replace E2 := Lib.hid (E2.out.below hb)
  replace T2 := Lib.hid (T2.out.below hb)
  replace K := Lib.hid (Rg.acc K.out hb)
  clear hb
  refine Rg.list_run (some 104) rfl rfl (Rg.exec_move (v := .tuple #[.bool true, .int .i64 0]) _ rfl rfl) ?_
  go_frame
  refine Rg.list_run (some 108) rfl rfl (exec_extract (v := .bool true) _ _ rfl rfl rfl) ?_
  go_frame
  refine Rg.list_run (some 109) rfl rfl (exec_extract (v := .int .i64 0) _ _ rfl rfl rfl) ?_
  go_frame
  refine Rg.list_run (some 16) rfl rfl (Rg.exec_assign (v := .bool true) _ rfl rfl) ?_
  go_frame
  refine Rg.list_run (some 17) rfl rfl (Rg.exec_assign (v := .int .i64 0) _ rfl rfl) ?_
  go_frame
  go_upto_region 10 with (fail)
  refine wp_region_list ?_
  refine Rg.list_run (some 111) rfl rfl (Rg.exec_load (v := (.agg #[.int .i64 ((4 : Nat) : Int), .slice oa1 on1 oc1, .slice ra1 (R1.map (List.map Ma.ofN)).length rc1])) _ _ rfl ⟨w2.heap.size, 0, none⟩ rfl (run_loadC3 T1.out.c0 T1.out.c1 T1.out.c2)) ?_
  go_frame
  refine Rg.list_run (some 112) rfl rfl (Rg.exec_load (v := (.agg #[.int .i64 ((4 : Nat) : Int), .slice oa2 on2 oc2, .slice ra2 (R2.map (List.map Ma.ofN)).length rc2])) _ _ rfl ⟨w5.heap.size, 0, none⟩ rfl (run_loadC3 T2.out.c0 T2.out.c1 T2.out.c2)) ?_
  go_frame
  refine list_ask (some 113) rfl rfl _ _ (exec_fn 43 _ _ _ rfl rfl rfl (Zicl8 _ _)) ?_
  refine (beFS4 HCH2.out HCH1.out E2.out E1.out).mono ?_
  rintro e1 w23 ⟨rfl, hb⟩
  refine ⟨_, rfl, ?_⟩
  go_frame
  replace E1 := Lib.hid (E1.out.below hb)
  replace T1 := Lib.hid (T1.out.below hb)
  replace E2 := Lib.hid (E2.out.below hb)
  replace T2 := Lib.hid (T2.out.below hb)
  replace K := Lib.hid (Rg.acc K.out hb)
  clear hb
  refine Rg.list_run (some 110) rfl rfl (Rg.exec_move (v := .tuple #[.bool false, .int .i64 0]) _ rfl rfl) ?_
  go_frame
  refine Rg.list_run (some 114) rfl rfl (exec_extract (v := .bool false) _ _ rfl rfl rfl) ?_
  go_frame
  refine Rg.list_run (some 115) rfl rfl (exec_extract (v := .int .i64 0) _ _ rfl rfl rfl) ?_
  go_frame
  refine Rg.list_run (some 18) rfl rfl (Rg.exec_assign (v := .bool false) _ rfl rfl) ?_
  go_frame
  refine Rg.list_run (some 19) rfl rfl (Rg.exec_assign (v := .int .i64 0) _ rfl rfl) ?_
  go_frame
  go_upto_region 11 with (fail)
  refine wp_region_list ?_
  refine Rg.list_run (some 117) rfl rfl (Rg.exec_load (v := (.agg #[.int .i64 ((4 : Nat) : Int), .slice oa1 on1 oc1, .slice ra1 (R1.map (List.map Ma.ofN)).length rc1])) _ _ rfl ⟨w2.heap.size, 0, none⟩ rfl (run_loadC3 T1.out.c0 T1.out.c1 T1.out.c2)) ?_
  go_frame
  refine list_ask (some 118) rfl rfl _ _ (exec_fn 44 _ _ _ rfl rfl rfl (Zicl9 _ _)) ?_
  refine (stF4 HCH1.out E1.out).mono ?_
  rintro e1 w24 ⟨d4, oa4, on4, oc4, ra4, rn4, rc4, rfl, hq, hb⟩
  refine ⟨_, rfl, ?_⟩
  go_frame
  replace E1 := Lib.hid (E1.out.below hb)
  replace T1 := Lib.hid (T1.out.below hb)
  replace E2 := Lib.hid (E2.out.below hb)
  replace T2 := Lib.hid (T2.out.below hb)
  replace K := Lib.hid (Rg.acc K.out hb)
  clear hb
  have Q4 := Lib.hid hq
  refine Rg.list_run (some 116) rfl rfl (Rg.exec_move (v := .tuple #[(.agg #[.int .i64 d4, .slice oa4 on4 oc4, .slice ra4 rn4 rc4]), .int .i64 0]) _ rfl rfl) ?_
  go_frame
  refine Rg.list_run (some 119) rfl rfl (exec_extract (v := (.agg #[.int .i64 d4, .slice oa4 on4 oc4, .slice ra4 rn4 rc4])) _ _ rfl rfl rfl) ?_
  go_frame
  refine Rg.list_run (some 120) rfl rfl (exec_extract (v := .int .i64 0) _ _ rfl rfl rfl) ?_
  go_frame
  refine Rg.list_run (some 20) rfl rfl (exec_allocC rfl) ?_
  go_frame
  refine Rg.list_skip none rfl rfl (Rg.exec_store _ _ _ rfl _ rfl _ rfl (run_storeC _ _ _ _ _ _ _ (Tri.new w24 (.int .i64 0) (.slice none 0 0) (.slice none 0 0)))) ?_
  go_frame
  have htn := (Tri.new w24 (.int .i64 0) (.slice none 0 0) (.slice none 0 0)).set (.int .i64 d4) (.slice oa4 on4 oc4) (.slice ra4 rn4 rc4)
  have hb := ((((Below.refl w24.heap.size w24).alloc (Nat.le_refl _) (.cells #[.int .i64 0, .slice none 0 0, .slice none 0 0] 51)).setCell (p := ⟨w24.heap.size, 0, none⟩) (Nat.le_refl _) (.int .i64 d4)).setCell (p := ⟨w24.heap.size, 1, none⟩) (Nat.le_refl _) (.slice oa4 on4 oc4)).setCell (p := ⟨w24.heap.size, 2, none⟩) (Nat.le_refl _) (.slice ra4 rn4 rc4)
  generalize (((w24.alloc (.cells #[.int .i64 0, .slice none 0 0, .slice none 0 0] 51)).setCell ⟨w24.heap.size, 0, none⟩ (.int .i64 d4)).setCell ⟨w24.heap.size, 1, none⟩ (.slice oa4 on4 oc4)).setCell ⟨w24.heap.size, 2, none⟩ (.slice ra4 rn4 rc4) = w25 at *
  replace E1 := Lib.hid (E1.out.below hb)
  replace T1 := Lib.hid (T1.out.below hb)
  replace E2 := Lib.hid (E2.out.below hb)
  replace T2 := Lib.hid (T2.out.below hb)
  replace Q4 := Lib.hid (Q4.out.below hb)
  replace K := Lib.hid (Rg.acc K.out hb)
  clear hb
  have T4 := Lib.hid htn
  clear htn
  refine Rg.list_run (some 21) rfl rfl (Rg.exec_assign (v := .int .i64 0) _ rfl rfl) ?_
  go_frame
  clear hq
  go_upto_region 12 with (fail)
  refine wp_region_list ?_
  refine Rg.list_run (some 121) rfl rfl (Rg.exec_move (v := .bool true) _ rfl rfl) ?_
  go_frame
  refine Rg.list_run (some 122) rfl rfl (Rg.exec_move (v := .bool true) _ rfl rfl) ?_
  go_frame
  refine listW_run (some 123) rfl rfl (Rg.exec_move (v := .int .i64 0) _ rfl rfl) ?_
  go_frame
  refine listW_run (some 124) rfl rfl (exec_eqI _ _ rfl rfl rfl rfl) ?_
  go_frame
  refine Rg.list_run (some 125) rfl rfl (exec_pickT (v := .bool true) _ _ _ rfl rfl rfl) ?_
  go_frame
  refine Rg.list_run (some 126) rfl rfl (Rg.exec_move (v := .bool true) _ rfl rfl) ?_
  go_frame
  refine listW_run (some 127) rfl rfl (Rg.exec_move (v := .bool false) _ rfl rfl) ?_
  go_frame
  refine listW_run (some 128) rfl rfl (exec_not _ _ false rfl rfl) ?_
  go_frame
  refine Rg.list_run (some 129) rfl rfl (exec_pickT (v := .bool true) _ _ _ rfl rfl rfl) ?_
  go_frame
  refine Rg.list_run (some 130) rfl rfl (Rg.exec_move (v := .bool true) _ rfl rfl) ?_
  go_frame
  refine listW_run (some 131) rfl rfl (Rg.exec_move (v := .int .i64 0) _ rfl rfl) ?_
  go_frame
  refine listW_run (some 132) rfl rfl (exec_eqI _ _ rfl rfl rfl rfl) ?_
  go_frame
  refine Rg.list_run (some 133) rfl rfl (exec_pickT (v := .bool true) _ _ _ rfl rfl rfl) ?_
  go_frame
  refine Rg.list_run (some 134) rfl rfl (Rg.exec_move (v := .bool true) _ rfl rfl) ?_
  go_frame
  refine listW_run (some 135) rfl rfl (Rg.exec_move (v := .int .i64 0) _ rfl rfl) ?_
  go_frame
  refine listW_run (some 136) rfl rfl (exec_eqI _ _ rfl rfl rfl rfl) ?_
  go_frame
  refine Rg.list_run (some 137) rfl rfl (exec_pickT (v := .bool true) _ _ _ rfl rfl rfl) ?_
  go_frame
  refine Rg.list_run (some 138) rfl rfl (Rg.exec_move (v := .bool true) _ rfl rfl) ?_
  go_frame
  refine listW_run (some 139) rfl rfl (exec_field _ rfl rfl (chF1 _ _)) ?_
  go_frame
  refine listW_run (some 140) rfl rfl (Rg.exec_load (v := .slice oa4 on4 oc4) _ _ rfl ⟨w24.heap.size, 1, none⟩ rfl (Rg.run_loadSl _ _ Try.underlying41 T4.out.c1)) ?_
  go_frame
  have hnew := ints_new w25 3 [0] (by decide)
  refine listW_run (some 141) rfl rfl (exec_flat _ _ 1 _ rfl [0] Try.underlying33 szInt zInt rfl (by decide) (by decide) rfl) ?_
  go_frame
  have hb := (Below.refl w25.heap.size w25).alloc (Nat.le_refl _) (.cells (([0] : List Int).map (Value.int .i64)).toArray 3)
  generalize w25.alloc (.cells (([0] : List Int).map (Value.int .i64)).toArray 3) = w26 at *
  replace E1 := Lib.hid (E1.out.below hb)
  replace T1 := Lib.hid (T1.out.below hb)
  replace E2 := Lib.hid (E2.out.below hb)
  replace T2 := Lib.hid (T2.out.below hb)
  replace Q4 := Lib.hid (Q4.out.below hb)
  replace T4 := Lib.hid (T4.out.below hb)
  replace K := Lib.hid (Rg.acc K.out hb)
  clear hb
  have I0 := Lib.hid hnew
  clear hnew
  have hnew := ints_new w26 3 [1] (by decide)
  refine listW_run (some 142) rfl rfl (exec_flat _ _ 1 _ rfl [1] Try.underlying33 szInt zInt rfl (by decide) (by decide) rfl) ?_
  go_frame
  have hb := (Below.refl w26.heap.size w26).alloc (Nat.le_refl _) (.cells (([1] : List Int).map (Value.int .i64)).toArray 3)
  generalize w26.alloc (.cells (([1] : List Int).map (Value.int .i64)).toArray 3) = w27 at *
  replace E1 := Lib.hid (E1.out.below hb)
  replace T1 := Lib.hid (T1.out.below hb)
  replace E2 := Lib.hid (E2.out.below hb)
  replace T2 := Lib.hid (T2.out.below hb)
  replace Q4 := Lib.hid (Q4.out.below hb)
  replace T4 := Lib.hid (T4.out.below hb)
  replace I0 := Lib.hid (I0.out.below hb)
  replace K := Lib.hid (Rg.acc K.out hb)
  clear hb
  have I1 := Lib.hid hnew
  clear hnew
  have hnew := ints_new w27 3 [2, 3] (by decide)
  refine listW_run (some 143) rfl rfl (exec_flat _ _ 2 _ rfl [2, 3] Try.underlying33 szInt zInt rfl (by decide) (by decide) rfl) ?_
  go_frame
  have hb := (Below.refl w27.heap.size w27).alloc (Nat.le_refl _) (.cells (([2, 3] : List Int).map (Value.int .i64)).toArray 3)
  generalize w27.alloc (.cells (([2, 3] : List Int).map (Value.int .i64)).toArray 3) = w28 at *
  replace E1 := Lib.hid (E1.out.below hb)
  replace T1 := Lib.hid (T1.out.below hb)
  replace E2 := Lib.hid (E2.out.below hb)
  replace T2 := Lib.hid (T2.out.below hb)
  replace Q4 := Lib.hid (Q4.out.below hb)
  replace T4 := Lib.hid (T4.out.below hb)
  replace I0 := Lib.hid (I0.out.below hb)
  replace I1 := Lib.hid (I1.out.below hb)
  replace K := Lib.hid (Rg.acc K.out hb)
  clear hb
  have I2 := Lib.hid hnew
  clear hnew
  have hnew := ints_new w28 3 [3] (by decide)
  refine listW_run (some 144) rfl rfl (exec_flat _ _ 1 _ rfl [3] Try.underlying33 szInt zInt rfl (by decide) (by decide) rfl) ?_
  go_frame
  have hb := (Below.refl w28.heap.size w28).alloc (Nat.le_refl _) (.cells (([3] : List Int).map (Value.int .i64)).toArray 3)
  generalize w28.alloc (.cells (([3] : List Int).map (Value.int .i64)).toArray 3) = w29 at *
  replace E1 := Lib.hid (E1.out.below hb)
  replace T1 := Lib.hid (T1.out.below hb)
  replace E2 := Lib.hid (E2.out.below hb)
  replace T2 := Lib.hid (T2.out.below hb)
  replace Q4 := Lib.hid (Q4.out.below hb)
  replace T4 := Lib.hid (T4.out.below hb)
  replace I0 := Lib.hid (I0.out.below hb)
  replace I1 := Lib.hid (I1.out.below hb)
  replace I2 := Lib.hid (I2.out.below hb)
  replace K := Lib.hid (Rg.acc K.out hb)
  clear hb
  have I3 := Lib.hid hnew
  clear hnew
  have hrw : Rg.Rows (w29.alloc (.cells #[.slice (some ⟨w25.heap.size, 0, none⟩) 1 1, .slice (some ⟨w26.heap.size, 0, none⟩) 1 1, .slice (some ⟨w27.heap.size, 0, none⟩) 2 2, .slice (some ⟨w28.heap.size, 0, none⟩) 1 1] 33)) (.slice (some ⟨w29.heap.size, 0, none⟩) 4 4) [[0], [1], [2, 3], [3]] := (rowsF_new (B := 0) (w := w29) 33 [.slice (some ⟨w25.heap.size, 0, none⟩) 1 1, .slice (some ⟨w26.heap.size, 0, none⟩) 1 1, .slice (some ⟨w27.heap.size, 0, none⟩) 2 2, .slice (some ⟨w28.heap.size, 0, none⟩) 1 1] [[0], [1], [2, 3], [3]] rfl (by simp) (by
    intro i h h2
    match i, h, h2 with
    | 0, _, _ => exact ⟨I0.out, fun _ _ _ _ => Nat.zero_le _⟩
    | 1, _, _ => exact ⟨I1.out, fun _ _ _ _ => Nat.zero_le _⟩
    | 2, _, _ => exact ⟨I2.out, fun _ _ _ _ => Nat.zero_le _⟩
    | 3, _, _ => exact ⟨I3.out, fun _ _ _ _ => Nat.zero_le _⟩) (Nat.zero_le _)).rows
  refine listW_run (some 145) rfl rfl (exec_buildL4 (u1 := .slice (some ⟨w25.heap.size, 0, none⟩) 1 1) (u2 := .slice (some ⟨w26.heap.size, 0, none⟩) 1 1) (u3 := .slice (some ⟨w27.heap.size, 0, none⟩) 2 2) (u4 := .slice (some ⟨w28.heap.size, 0, none⟩) 1 1) _ _ _ _ rfl rfl rfl rfl rfl (run_buildL4 w29 _ _ _ _ ⟨_, _, _, rfl⟩ ⟨_, _, _, rfl⟩ ⟨_, _, _, rfl⟩ ⟨_, _, _, rfl⟩)) ?_
  go_frame
  have hb := (Below.refl w29.heap.size w29).alloc (Nat.le_refl _) (.cells #[.slice (some ⟨w25.heap.size, 0, none⟩) 1 1, .slice (some ⟨w26.heap.size, 0, none⟩) 1 1, .slice (some ⟨w27.heap.size, 0, none⟩) 2 2, .slice (some ⟨w28.heap.size, 0, none⟩) 1 1] 33)
  generalize w29.alloc (.cells #[.slice (some ⟨w25.heap.size, 0, none⟩) 1 1, .slice (some ⟨w26.heap.size, 0, none⟩) 1 1, .slice (some ⟨w27.heap.size, 0, none⟩) 2 2, .slice (some ⟨w28.heap.size, 0, none⟩) 1 1] 33) = w30 at *
  replace E1 := Lib.hid (E1.out.below hb)
  replace T1 := Lib.hid (T1.out.below hb)
  replace E2 := Lib.hid (E2.out.below hb)
  replace T2 := Lib.hid (T2.out.below hb)
  replace Q4 := Lib.hid (Q4.out.below hb)
  replace T4 := Lib.hid (T4.out.below hb)
  replace I0 := Lib.hid (I0.out.below hb)
  replace I1 := Lib.hid (I1.out.below hb)
  replace I2 := Lib.hid (I2.out.below hb)
  replace I3 := Lib.hid (I3.out.below hb)
  replace K := Lib.hid (Rg.acc K.out hb)
  clear hb
  have RW := Lib.hid hrw
  clear hrw
  refine listW_ask (some 146) rfl rfl _ _ (exec_fn 25 _ _ _ rfl rfl rfl (Zicl4 _ _)) ?_
  refine (SameLists_b Q4.out RW.out (Lib.hid (decide_eq_true rfl))).mono ?_
  rintro e1 w31 ⟨rfl, hb⟩
  refine ⟨_, rfl, ?_⟩
  go_frame
  replace E1 := Lib.hid (E1.out.below hb)
  replace T1 := Lib.hid (T1.out.below hb)
  replace E2 := Lib.hid (E2.out.below hb)
  replace T2 := Lib.hid (T2.out.below hb)
  replace Q4 := Lib.hid (Q4.out.below hb)
  replace T4 := Lib.hid (T4.out.below hb)
  replace I0 := Lib.hid (I0.out.below hb)
  replace I1 := Lib.hid (I1.out.below hb)
  replace I2 := Lib.hid (I2.out.below hb)
  replace I3 := Lib.hid (I3.out.below hb)
  replace RW := Lib.hid (RW.out.below hb)
  replace K := Lib.hid (Rg.acc K.out hb)
  clear hb
  refine Rg.list_run (some 147) rfl rfl (exec_pickT (v := .bool true) _ _ _ rfl rfl rfl) ?_
  go_frame
  refine Rg.list_run (some 22) rfl rfl (Rg.exec_assign (v := .bool true) _ rfl rfl) ?_
  go_frame
  clear I0 I1 I2 I3 RW Q4 T4 E1 T1
  go_upto_region 13 with (fail)
  refine wp_region_list ?_
  refine list_ask (some 149) rfl rfl _ _ (exec_fn0 38 _ rfl (Zicl0 _ _)) ?_
  refine (first08_any w31).mono ?_
  rintro e1 w32 ⟨ga, gn, gc, rfl, hgr, hb⟩
  refine ⟨_, rfl, ?_⟩
  go_frame
  replace E2 := Lib.hid (E2.out.below hb)
  replace T2 := Lib.hid (T2.out.below hb)
  replace K := Lib.hid (Rg.acc K.out hb)
  clear hb
  have GR := Lib.hid hgr.rows
  refine list_ask (some 150) rfl rfl _ _ (exec_fn 36 _ _ _ rfl rfl rfl (Zicl10 _ _)) ?_
  refine (rnd_bad (ll := gsF.map Ma.ofN) rndF_0 GR.out (Rg.Ints.nil _ none 0 (Nat.zero_le _))).mono ?_
  rintro e1 w33 ⟨rfl, hb⟩
  refine ⟨_, rfl, ?_⟩
  go_frame
  replace E2 := Lib.hid (E2.out.below hb)
  replace T2 := Lib.hid (T2.out.below hb)
  replace GR := Lib.hid (GR.out.below hb)
  replace K := Lib.hid (Rg.acc K.out hb)
  clear hb
  refine Rg.list_run (some 148) rfl rfl (Rg.exec_move (v := .tuple #[zeroC, .int .i64 13]) _ rfl rfl) ?_
  go_frame
  refine Rg.list_run (some 151) rfl rfl (exec_extract (v := zeroC) _ _ rfl rfl rfl) ?_
  go_frame
  refine Rg.list_run (some 152) rfl rfl (exec_extract (v := .int .i64 13) _ _ rfl rfl rfl) ?_
  go_frame
  refine Rg.list_run (some 23) rfl rfl (exec_allocC rfl) ?_
  go_frame
  refine Rg.list_skip none rfl rfl (Rg.exec_store _ _ _ rfl _ rfl _ rfl (run_storeC _ _ _ _ _ _ _ (Tri.new w33 (.int .i64 0) (.slice none 0 0) (.slice none 0 0)))) ?_
  go_frame
  have htn := (Tri.new w33 (.int .i64 0) (.slice none 0 0) (.slice none 0 0)).set (.int .i64 0) (.slice none 0 0) (.slice none 0 0)
  have hb := ((((Below.refl w33.heap.size w33).alloc (Nat.le_refl _) (.cells #[.int .i64 0, .slice none 0 0, .slice none 0 0] 51)).setCell (p := ⟨w33.heap.size, 0, none⟩) (Nat.le_refl _) (.int .i64 0)).setCell (p := ⟨w33.heap.size, 1, none⟩) (Nat.le_refl _) (.slice none 0 0)).setCell (p := ⟨w33.heap.size, 2, none⟩) (Nat.le_refl _) (.slice none 0 0)
  generalize (((w33.alloc (.cells #[.int .i64 0, .slice none 0 0, .slice none 0 0] 51)).setCell ⟨w33.heap.size, 0, none⟩ (.int .i64 0)).setCell ⟨w33.heap.size, 1, none⟩ (.slice none 0 0)).setCell ⟨w33.heap.size, 2, none⟩ (.slice none 0 0) = w34 at *
  replace E2 := Lib.hid (E2.out.below hb)
  replace T2 := Lib.hid (T2.out.below hb)
  replace GR := Lib.hid (GR.out.below hb)
  replace K := Lib.hid (Rg.acc K.out hb)
  clear hb
  have T5 := Lib.hid htn
  clear htn
  refine Rg.list_run (some 24) rfl rfl (Rg.exec_assign (v := .int .i64 13) _ rfl rfl) ?_
  go_frame
  clear hgr
  clear GR
  clear T5
  go_upto_region 14 with (fail)
  refine wp_region_list ?_
  refine list_ask (some 154) rfl rfl _ _ (exec_fn0 39 _ rfl (Zicl2 _ _)) ?_
  refine (second08_any w34).mono ?_
  rintro e1 w35 ⟨ga, gn, gc, rfl, hgr, hb⟩
  refine ⟨_, rfl, ?_⟩
  go_frame
  replace E2 := Lib.hid (E2.out.below hb)
  replace T2 := Lib.hid (T2.out.below hb)
  replace K := Lib.hid (Rg.acc K.out hb)
  clear hb
  have GR := Lib.hid hgr.rows
  refine list_ask (some 155) rfl rfl _ _ (exec_fn 36 _ _ _ rfl rfl rfl (Zicl10 _ _)) ?_
  refine (rnd_bad (ll := gsS.map Ma.ofN) rndS_0 GR.out (Rg.Ints.nil _ none 0 (Nat.zero_le _))).mono ?_
  rintro e1 w36 ⟨rfl, hb⟩
  refine ⟨_, rfl, ?_⟩
  go_frame
  replace E2 := Lib.hid (E2.out.below hb)
  replace T2 := Lib.hid (T2.out.below hb)
  replace GR := Lib.hid (GR.out.below hb)
  replace K := Lib.hid (Rg.acc K.out hb)
  clear hb
  refine Rg.list_run (some 153) rfl rfl (Rg.exec_move (v := .tuple #[zeroC, .int .i64 13]) _ rfl rfl) ?_
  go_frame
  refine Rg.list_run (some 156) rfl rfl (exec_extract (v := zeroC) _ _ rfl rfl rfl) ?_
  go_frame
  refine Rg.list_run (some 157) rfl rfl (exec_extract (v := .int .i64 13) _ _ rfl rfl rfl) ?_
  go_frame
  refine Rg.list_run (some 25) rfl rfl (exec_allocC rfl) ?_
  go_frame
  refine Rg.list_skip none rfl rfl (Rg.exec_store _ _ _ rfl _ rfl _ rfl (run_storeC _ _ _ _ _ _ _ (Tri.new w36 (.int .i64 0) (.slice none 0 0) (.slice none 0 0)))) ?_
  go_frame
  have htn := (Tri.new w36 (.int .i64 0) (.slice none 0 0) (.slice none 0 0)).set (.int .i64 0) (.slice none 0 0) (.slice none 0 0)
  have hb := ((((Below.refl w36.heap.size w36).alloc (Nat.le_refl _) (.cells #[.int .i64 0, .slice none 0 0, .slice none 0 0] 51)).setCell (p := ⟨w36.heap.size, 0, none⟩) (Nat.le_refl _) (.int .i64 0)).setCell (p := ⟨w36.heap.size, 1, none⟩) (Nat.le_refl _) (.slice none 0 0)).setCell (p := ⟨w36.heap.size, 2, none⟩) (Nat.le_refl _) (.slice none 0 0)
  generalize (((w36.alloc (.cells #[.int .i64 0, .slice none 0 0, .slice none 0 0] 51)).setCell ⟨w36.heap.size, 0, none⟩ (.int .i64 0)).setCell ⟨w36.heap.size, 1, none⟩ (.slice none 0 0)).setCell ⟨w36.heap.size, 2, none⟩ (.slice none 0 0) = w37 at *
  replace E2 := Lib.hid (E2.out.below hb)
  replace T2 := Lib.hid (T2.out.below hb)
  replace GR := Lib.hid (GR.out.below hb)
  replace K := Lib.hid (Rg.acc K.out hb)
  clear hb
  have T6 := Lib.hid htn
  clear htn
  refine Rg.list_run (some 26) rfl rfl (Rg.exec_assign (v := .int .i64 13) _ rfl rfl) ?_
  go_frame
  clear hgr
  clear GR
  clear T6
  go_upto_region 15 with (fail)
  refine wp_region_list ?_
  refine list_ask (some 159) rfl rfl _ _ (exec_fn0 39 _ rfl (Zicl2 _ _)) ?_
  refine (second08_any w37).mono ?_
  rintro e1 w38 ⟨ga, gn, gc, rfl, hgr, hb⟩
  refine ⟨_, rfl, ?_⟩
  go_frame
  replace E2 := Lib.hid (E2.out.below hb)
  replace T2 := Lib.hid (T2.out.below hb)
  replace K := Lib.hid (Rg.acc K.out hb)
  clear hb
  have GR := Lib.hid hgr.rows
  have hnew := ints_new w38 3 [0, 1] (by decide)
  refine Rg.list_run (some 160) rfl rfl (exec_flat _ _ 2 _ rfl [0, 1] Try.underlying33 szInt zInt rfl (by decide) (by decide) rfl) ?_
  go_frame
  have hb := (Below.refl w38.heap.size w38).alloc (Nat.le_refl _) (.cells (([0, 1] : List Int).map (Value.int .i64)).toArray 3)
  generalize w38.alloc (.cells (([0, 1] : List Int).map (Value.int .i64)).toArray 3) = w39 at *
  replace E2 := Lib.hid (E2.out.below hb)
  replace T2 := Lib.hid (T2.out.below hb)
  replace GR := Lib.hid (GR.out.below hb)
  replace K := Lib.hid (Rg.acc K.out hb)
  clear hb
  have IN := Lib.hid hnew
  clear hnew
  refine list_ask (some 161) rfl rfl _ _ (exec_fn 36 _ _ _ rfl rfl rfl (Zicl10 _ _)) ?_
  refine (rnd_ok (ll := gsS.map Ma.ofN) rndS_1 GR.out IN.out).mono ?_
  rintro e1 w40 ⟨d7, oa7, on7, oc7, ra7, rn7, rc7, rfl, hq, hb⟩
  refine ⟨_, rfl, ?_⟩
  go_frame
  replace E2 := Lib.hid (E2.out.below hb)
  replace T2 := Lib.hid (T2.out.below hb)
  replace GR := Lib.hid (GR.out.below hb)
  replace IN := Lib.hid (IN.out.below hb)
  replace K := Lib.hid (Rg.acc K.out hb)
  clear hb
  have N7 := Lib.hid hq
  refine Rg.list_run (some 158) rfl rfl (Rg.exec_move (v := .tuple #[(.agg #[.int .i64 d7, .slice oa7 on7 oc7, .slice ra7 rn7 rc7]), .int .i64 0]) _ rfl rfl) ?_
  go_frame
  refine Rg.list_run (some 162) rfl rfl (exec_extract (v := (.agg #[.int .i64 d7, .slice oa7 on7 oc7, .slice ra7 rn7 rc7])) _ _ rfl rfl rfl) ?_
  go_frame
  refine Rg.list_run (some 163) rfl rfl (exec_extract (v := .int .i64 0) _ _ rfl rfl rfl) ?_
  go_frame
  refine Rg.list_run (some 27) rfl rfl (exec_allocC rfl) ?_
  go_frame
  refine Rg.list_skip none rfl rfl (Rg.exec_store _ _ _ rfl _ rfl _ rfl (run_storeC _ _ _ _ _ _ _ (Tri.new w40 (.int .i64 0) (.slice none 0 0) (.slice none 0 0)))) ?_
  go_frame
  have htn := (Tri.new w40 (.int .i64 0) (.slice none 0 0) (.slice none 0 0)).set (.int .i64 d7) (.slice oa7 on7 oc7) (.slice ra7 rn7 rc7)
  have hb := ((((Below.refl w40.heap.size w40).alloc (Nat.le_refl _) (.cells #[.int .i64 0, .slice none 0 0, .slice none 0 0] 51)).setCell (p := ⟨w40.heap.size, 0, none⟩) (Nat.le_refl _) (.int .i64 d7)).setCell (p := ⟨w40.heap.size, 1, none⟩) (Nat.le_refl _) (.slice oa7 on7 oc7)).setCell (p := ⟨w40.heap.size, 2, none⟩) (Nat.le_refl _) (.slice ra7 rn7 rc7)
  generalize (((w40.alloc (.cells #[.int .i64 0, .slice none 0 0, .slice none 0 0] 51)).setCell ⟨w40.heap.size, 0, none⟩ (.int .i64 d7)).setCell ⟨w40.heap.size, 1, none⟩ (.slice oa7 on7 oc7)).setCell ⟨w40.heap.size, 2, none⟩ (.slice ra7 rn7 rc7) = w41 at *
  replace E2 := Lib.hid (E2.out.below hb)
  replace T2 := Lib.hid (T2.out.below hb)
  replace GR := Lib.hid (GR.out.below hb)
  replace IN := Lib.hid (IN.out.below hb)
  replace N7 := Lib.hid (N7.out.below hb)
  replace K := Lib.hid (Rg.acc K.out hb)
  clear hb
  have T7 := Lib.hid htn
  clear htn
  refine Rg.list_run (some 28) rfl rfl (Rg.exec_assign (v := .int .i64 0) _ rfl rfl) ?_
  go_frame
  clear hgr hq
  clear GR
  clear IN
  go_upto_region 16 with (fail)
  refine wp_region_list ?_
  refine list_ask (some 165) rfl rfl _ _ (exec_fn0 39 _ rfl (Zicl2 _ _)) ?_
  refine (second08_any w41).mono ?_
  rintro e1 w42 ⟨ga, gn, gc, rfl, hgr, hb⟩
  refine ⟨_, rfl, ?_⟩
  go_frame
  replace E2 := Lib.hid (E2.out.below hb)
  replace T2 := Lib.hid (T2.out.below hb)
  replace N7 := Lib.hid (N7.out.below hb)
  replace T7 := Lib.hid (T7.out.below hb)
  replace K := Lib.hid (Rg.acc K.out hb)
  clear hb
  have GR := Lib.hid hgr.rows
  have hnew := ints_new w42 3 [0, 1, 5] (by decide)
  refine Rg.list_run (some 166) rfl rfl (exec_flat _ _ 3 _ rfl [0, 1, 5] Try.underlying33 szInt zInt rfl (by decide) (by decide) rfl) ?_
  go_frame
  have hb := (Below.refl w42.heap.size w42).alloc (Nat.le_refl _) (.cells (([0, 1, 5] : List Int).map (Value.int .i64)).toArray 3)
  generalize w42.alloc (.cells (([0, 1, 5] : List Int).map (Value.int .i64)).toArray 3) = w43 at *
  replace E2 := Lib.hid (E2.out.below hb)
  replace T2 := Lib.hid (T2.out.below hb)
  replace N7 := Lib.hid (N7.out.below hb)
  replace T7 := Lib.hid (T7.out.below hb)
  replace GR := Lib.hid (GR.out.below hb)
  replace K := Lib.hid (Rg.acc K.out hb)
  clear hb
  have IN := Lib.hid hnew
  clear hnew
  refine list_ask (some 167) rfl rfl _ _ (exec_fn 36 _ _ _ rfl rfl rfl (Zicl10 _ _)) ?_
  refine (rnd_ok (ll := gsS.map Ma.ofN) rndS_2 GR.out IN.out).mono ?_
  rintro e1 w44 ⟨d8, oa8, on8, oc8, ra8, rn8, rc8, rfl, hq, hb⟩
  refine ⟨_, rfl, ?_⟩
  go_frame
  replace E2 := Lib.hid (E2.out.below hb)
  replace T2 := Lib.hid (T2.out.below hb)
  replace N7 := Lib.hid (N7.out.below hb)
  replace T7 := Lib.hid (T7.out.below hb)
  replace GR := Lib.hid (GR.out.below hb)
  replace IN := Lib.hid (IN.out.below hb)
  replace K := Lib.hid (Rg.acc K.out hb)
  clear hb
  have N8 := Lib.hid hq
  refine Rg.list_run (some 164) rfl rfl (Rg.exec_move (v := .tuple #[(.agg #[.int .i64 d8, .slice oa8 on8 oc8, .slice ra8 rn8 rc8]), .int .i64 0]) _ rfl rfl) ?_
  go_frame
  refine Rg.list_run (some 168) rfl rfl (exec_extract (v := (.agg #[.int .i64 d8, .slice oa8 on8 oc8, .slice ra8 rn8 rc8])) _ _ rfl rfl rfl) ?_
  go_frame
  refine Rg.list_run (some 169) rfl rfl (exec_extract (v := .int .i64 0) _ _ rfl rfl rfl) ?_
  go_frame
  refine Rg.list_run (some 29) rfl rfl (exec_allocC rfl) ?_
  go_frame
  refine Rg.list_skip none rfl rfl (Rg.exec_store _ _ _ rfl _ rfl _ rfl (run_storeC _ _ _ _ _ _ _ (Tri.new w44 (.int .i64 0) (.slice none 0 0) (.slice none 0 0)))) ?_
  go_frame
  have htn := (Tri.new w44 (.int .i64 0) (.slice none 0 0) (.slice none 0 0)).set (.int .i64 d8) (.slice oa8 on8 oc8) (.slice ra8 rn8 rc8)
  have hb := ((((Below.refl w44.heap.size w44).alloc (Nat.le_refl _) (.cells #[.int .i64 0, .slice none 0 0, .slice none 0 0] 51)).setCell (p := ⟨w44.heap.size, 0, none⟩) (Nat.le_refl _) (.int .i64 d8)).setCell (p := ⟨w44.heap.size, 1, none⟩) (Nat.le_refl _) (.slice oa8 on8 oc8)).setCell (p := ⟨w44.heap.size, 2, none⟩) (Nat.le_refl _) (.slice ra8 rn8 rc8)
  generalize (((w44.alloc (.cells #[.int .i64 0, .slice none 0 0, .slice none 0 0] 51)).setCell ⟨w44.heap.size, 0, none⟩ (.int .i64 d8)).setCell ⟨w44.heap.size, 1, none⟩ (.slice oa8 on8 oc8)).setCell ⟨w44.heap.size, 2, none⟩ (.slice ra8 rn8 rc8) = w45 at *
  replace E2 := Lib.hid (E2.out.below hb)
  replace T2 := Lib.hid (T2.out.below hb)
  replace N7 := Lib.hid (N7.out.below hb)
  replace T7 := Lib.hid (T7.out.below hb)
  replace GR := Lib.hid (GR.out.below hb)
  replace IN := Lib.hid (IN.out.below hb)
  replace N8 := Lib.hid (N8.out.below hb)
  replace K := Lib.hid (Rg.acc K.out hb)
  clear hb
  have T8 := Lib.hid htn
  clear htn
  refine Rg.list_run (some 30) rfl rfl (Rg.exec_assign (v := .int .i64 0) _ rfl rfl) ?_
  go_frame
  clear hgr hq
  clear GR
  clear IN
  go_upto_region 17 with (fail)
  refine wp_region_list ?_
  refine Rg.list_run (some 170) rfl rfl (Rg.exec_move (v := .int .i64 13) _ rfl rfl) ?_
  go_frame
  refine Rg.list_run (some 171) rfl rfl (exec_eqI _ _ rfl rfl rfl rfl) ?_
  go_frame
  refine Rg.list_run (some 172) rfl rfl (Rg.exec_move (v := .bool true) _ rfl rfl) ?_
  go_frame
  refine listW_run (some 173) rfl rfl (Rg.exec_move (v := .int .i64 13) _ rfl rfl) ?_
  go_frame
  refine listW_run (some 174) rfl rfl (exec_eqI _ _ rfl rfl rfl rfl) ?_
  go_frame
  refine Rg.list_run (some 175) rfl rfl (exec_pickT (v := .bool true) _ _ _ rfl rfl rfl) ?_
  go_frame
  refine Rg.list_run (some 176) rfl rfl (Rg.exec_move (v := .bool true) _ rfl rfl) ?_
  go_frame
  refine listW_run (some 177) rfl rfl (Rg.exec_move (v := .int .i64 0) _ rfl rfl) ?_
  go_frame
  refine listW_run (some 178) rfl rfl (exec_eqI _ _ rfl rfl rfl rfl) ?_
  go_frame
  refine Rg.list_run (some 179) rfl rfl (exec_pickT (v := .bool true) _ _ _ rfl rfl rfl) ?_
  go_frame
  refine Rg.list_run (some 180) rfl rfl (Rg.exec_move (v := .bool true) _ rfl rfl) ?_
  go_frame
  refine listW_run (some 181) rfl rfl (Rg.exec_load (v := (.agg #[.int .i64 d7, .slice oa7 on7 oc7, .slice ra7 rn7 rc7])) _ _ rfl ⟨w40.heap.size, 0, none⟩ rfl (run_loadC3 T7.out.c0 T7.out.c1 T7.out.c2)) ?_
  go_frame
  refine listW_run (some 182) rfl rfl (Rg.exec_load (v := (.agg #[.int .i64 ((4 : Nat) : Int), .slice oa2 on2 oc2, .slice ra2 (R2.map (List.map Ma.ofN)).length rc2])) _ _ rfl ⟨w5.heap.size, 0, none⟩ rfl (run_loadC3 T2.out.c0 T2.out.c1 T2.out.c2)) ?_
  go_frame
  refine listW_ask (some 183) rfl rfl _ _ (exec_fn 35 _ _ _ rfl rfl rfl (Zicl11 _ _)) ?_
  refine (SameChain_ans N7.out (ans_of (by decide) (by decide) E2.out HCH2.out)).mono ?_
  rintro e1 w46 ⟨rfl, hb⟩
  refine ⟨_, rfl, ?_⟩
  go_frame
  replace E2 := Lib.hid (E2.out.below hb)
  replace T2 := Lib.hid (T2.out.below hb)
  replace N7 := Lib.hid (N7.out.below hb)
  replace T7 := Lib.hid (T7.out.below hb)
  replace N8 := Lib.hid (N8.out.below hb)
  replace T8 := Lib.hid (T8.out.below hb)
  replace K := Lib.hid (Rg.acc K.out hb)
  clear hb
  refine Rg.list_run (some 184) rfl rfl (exec_pickT (v := .bool true) _ _ _ rfl rfl rfl) ?_
  go_frame
  refine Rg.list_run (some 185) rfl rfl (Rg.exec_move (v := .bool true) _ rfl rfl) ?_
  go_frame
  refine listW_run (some 186) rfl rfl (Rg.exec_move (v := .int .i64 0) _ rfl rfl) ?_
  go_frame
  refine listW_run (some 187) rfl rfl (exec_eqI _ _ rfl rfl rfl rfl) ?_
  go_frame
  refine Rg.list_run (some 188) rfl rfl (exec_pickT (v := .bool true) _ _ _ rfl rfl rfl) ?_
  go_frame
  refine Rg.list_run (some 189) rfl rfl (Rg.exec_move (v := .bool true) _ rfl rfl) ?_
  go_frame
  refine listW_run (some 190) rfl rfl (Rg.exec_load (v := (.agg #[.int .i64 d8, .slice oa8 on8 oc8, .slice ra8 rn8 rc8])) _ _ rfl ⟨w44.heap.size, 0, none⟩ rfl (run_loadC3 T8.out.c0 T8.out.c1 T8.out.c2)) ?_
  go_frame
  refine listW_run (some 191) rfl rfl (Rg.exec_load (v := (.agg #[.int .i64 ((4 : Nat) : Int), .slice oa2 on2 oc2, .slice ra2 (R2.map (List.map Ma.ofN)).length rc2])) _ _ rfl ⟨w5.heap.size, 0, none⟩ rfl (run_loadC3 T2.out.c0 T2.out.c1 T2.out.c2)) ?_
  go_frame
  refine listW_ask (some 192) rfl rfl _ _ (exec_fn 35 _ _ _ rfl rfl rfl (Zicl11 _ _)) ?_
  refine (SameChain_ans N8.out (ans_of (by decide) (by decide) E2.out HCH2.out)).mono ?_
  rintro e1 w47 ⟨rfl, hb⟩
  refine ⟨_, rfl, ?_⟩
  go_frame
  replace E2 := Lib.hid (E2.out.below hb)
  replace T2 := Lib.hid (T2.out.below hb)
  replace N7 := Lib.hid (N7.out.below hb)
  replace T7 := Lib.hid (T7.out.below hb)
  replace N8 := Lib.hid (N8.out.below hb)
  replace T8 := Lib.hid (T8.out.below hb)
  replace K := Lib.hid (Rg.acc K.out hb)
  clear hb
  refine Rg.list_run (some 193) rfl rfl (exec_pickT (v := .bool true) _ _ _ rfl rfl rfl) ?_
  go_frame
  refine Rg.list_run (some 31) rfl rfl (Rg.exec_assign (v := .bool true) _ rfl rfl) ?_
  go_frame
  go_upto_region 18 with (fail)
  refine wp_region_list ?_
  have hnew := ints_new w47 3 [0, 1, 2] (by decide)
  refine Rg.list_run (some 194) rfl rfl (exec_flat _ _ 3 _ rfl [0, 1, 2] Try.underlying33 szInt zInt rfl (by decide) (by decide) rfl) ?_
  go_frame
  have hb := (Below.refl w47.heap.size w47).alloc (Nat.le_refl _) (.cells (([0, 1, 2] : List Int).map (Value.int .i64)).toArray 3)
  generalize w47.alloc (.cells (([0, 1, 2] : List Int).map (Value.int .i64)).toArray 3) = w48 at *
  replace E2 := Lib.hid (E2.out.below hb)
  replace T2 := Lib.hid (T2.out.below hb)
  replace N7 := Lib.hid (N7.out.below hb)
  replace T7 := Lib.hid (T7.out.below hb)
  replace N8 := Lib.hid (N8.out.below hb)
  replace T8 := Lib.hid (T8.out.below hb)
  replace K := Lib.hid (Rg.acc K.out hb)
  clear hb
  have I0 := Lib.hid hnew
  clear hnew
  have hnew := ints_new w48 3 [1] (by decide)
  refine Rg.list_run (some 195) rfl rfl (exec_flat _ _ 1 _ rfl [1] Try.underlying33 szInt zInt rfl (by decide) (by decide) rfl) ?_
  go_frame
  have hb := (Below.refl w48.heap.size w48).alloc (Nat.le_refl _) (.cells (([1] : List Int).map (Value.int .i64)).toArray 3)
  generalize w48.alloc (.cells (([1] : List Int).map (Value.int .i64)).toArray 3) = w49 at *
  replace E2 := Lib.hid (E2.out.below hb)
  replace T2 := Lib.hid (T2.out.below hb)
  replace N7 := Lib.hid (N7.out.below hb)
  replace T7 := Lib.hid (T7.out.below hb)
  replace N8 := Lib.hid (N8.out.below hb)
  replace T8 := Lib.hid (T8.out.below hb)
  replace I0 := Lib.hid (I0.out.below hb)
  replace K := Lib.hid (Rg.acc K.out hb)
  clear hb
  have I1 := Lib.hid hnew
  clear hnew
  have hnew := ints_new w49 3 [2] (by decide)
  refine Rg.list_run (some 196) rfl rfl (exec_flat _ _ 1 _ rfl [2] Try.underlying33 szInt zInt rfl (by decide) (by decide) rfl) ?_
  go_frame
  have hb := (Below.refl w49.heap.size w49).alloc (Nat.le_refl _) (.cells (([2] : List Int).map (Value.int .i64)).toArray 3)
  generalize w49.alloc (.cells (([2] : List Int).map (Value.int .i64)).toArray 3) = w50 at *
  replace E2 := Lib.hid (E2.out.below hb)
  replace T2 := Lib.hid (T2.out.below hb)
  replace N7 := Lib.hid (N7.out.below hb)
  replace T7 := Lib.hid (T7.out.below hb)
  replace N8 := Lib.hid (N8.out.below hb)
  replace T8 := Lib.hid (T8.out.below hb)
  replace I0 := Lib.hid (I0.out.below hb)
  replace I1 := Lib.hid (I1.out.below hb)
  replace K := Lib.hid (Rg.acc K.out hb)
  clear hb
  have I2 := Lib.hid hnew
  clear hnew
  have hnew := ints_new w50 3 [3] (by decide)
  refine Rg.list_run (some 197) rfl rfl (exec_flat _ _ 1 _ rfl [3] Try.underlying33 szInt zInt rfl (by decide) (by decide) rfl) ?_
  go_frame
  have hb := (Below.refl w50.heap.size w50).alloc (Nat.le_refl _) (.cells (([3] : List Int).map (Value.int .i64)).toArray 3)
  generalize w50.alloc (.cells (([3] : List Int).map (Value.int .i64)).toArray 3) = w51 at *
  replace E2 := Lib.hid (E2.out.below hb)
  replace T2 := Lib.hid (T2.out.below hb)
  replace N7 := Lib.hid (N7.out.below hb)
  replace T7 := Lib.hid (T7.out.below hb)
  replace N8 := Lib.hid (N8.out.below hb)
  replace T8 := Lib.hid (T8.out.below hb)
  replace I0 := Lib.hid (I0.out.below hb)
  replace I1 := Lib.hid (I1.out.below hb)
  replace I2 := Lib.hid (I2.out.below hb)
  replace K := Lib.hid (Rg.acc K.out hb)
  clear hb
  have I3 := Lib.hid hnew
  clear hnew
  have hrw : Rg.Rows (w51.alloc (.cells #[.slice (some ⟨w47.heap.size, 0, none⟩) 3 3, .slice (some ⟨w48.heap.size, 0, none⟩) 1 1, .slice (some ⟨w49.heap.size, 0, none⟩) 1 1, .slice (some ⟨w50.heap.size, 0, none⟩) 1 1] 33)) (.slice (some ⟨w51.heap.size, 0, none⟩) 4 4) [[0, 1, 2], [1], [2], [3]] := (rowsF_new (B := 0) (w := w51) 33 [.slice (some ⟨w47.heap.size, 0, none⟩) 3 3, .slice (some ⟨w48.heap.size, 0, none⟩) 1 1, .slice (some ⟨w49.heap.size, 0, none⟩) 1 1, .slice (some ⟨w50.heap.size, 0, none⟩) 1 1] [[0, 1, 2], [1], [2], [3]] rfl (by simp) (by
    intro i h h2
    match i, h, h2 with
    | 0, _, _ => exact ⟨I0.out, fun _ _ _ _ => Nat.zero_le _⟩
    | 1, _, _ => exact ⟨I1.out, fun _ _ _ _ => Nat.zero_le _⟩
    | 2, _, _ => exact ⟨I2.out, fun _ _ _ _ => Nat.zero_le _⟩
    | 3, _, _ => exact ⟨I3.out, fun _ _ _ _ => Nat.zero_le _⟩) (Nat.zero_le _)).rows
  refine Rg.list_run (some 198) rfl rfl (exec_buildL4 (u1 := .slice (some ⟨w47.heap.size, 0, none⟩) 3 3) (u2 := .slice (some ⟨w48.heap.size, 0, none⟩) 1 1) (u3 := .slice (some ⟨w49.heap.size, 0, none⟩) 1 1) (u4 := .slice (some ⟨w50.heap.size, 0, none⟩) 1 1) _ _ _ _ rfl rfl rfl rfl rfl (run_buildL4 w51 _ _ _ _ ⟨_, _, _, rfl⟩ ⟨_, _, _, rfl⟩ ⟨_, _, _, rfl⟩ ⟨_, _, _, rfl⟩)) ?_
  go_frame
  have hb := (Below.refl w51.heap.size w51).alloc (Nat.le_refl _) (.cells #[.slice (some ⟨w47.heap.size, 0, none⟩) 3 3, .slice (some ⟨w48.heap.size, 0, none⟩) 1 1, .slice (some ⟨w49.heap.size, 0, none⟩) 1 1, .slice (some ⟨w50.heap.size, 0, none⟩) 1 1] 33)
  generalize w51.alloc (.cells #[.slice (some ⟨w47.heap.size, 0, none⟩) 3 3, .slice (some ⟨w48.heap.size, 0, none⟩) 1 1, .slice (some ⟨w49.heap.size, 0, none⟩) 1 1, .slice (some ⟨w50.heap.size, 0, none⟩) 1 1] 33) = w52 at *
  replace E2 := Lib.hid (E2.out.below hb)
  replace T2 := Lib.hid (T2.out.below hb)
  replace N7 := Lib.hid (N7.out.below hb)
  replace T7 := Lib.hid (T7.out.below hb)
  replace N8 := Lib.hid (N8.out.below hb)
  replace T8 := Lib.hid (T8.out.below hb)
  replace I0 := Lib.hid (I0.out.below hb)
  replace I1 := Lib.hid (I1.out.below hb)
  replace I2 := Lib.hid (I2.out.below hb)
  replace I3 := Lib.hid (I3.out.below hb)
  replace K := Lib.hid (Rg.acc K.out hb)
  clear hb
  have RW := Lib.hid hrw
  clear hrw
  refine Rg.list_run (some 199) rfl rfl (exec_field _ rfl rfl (chF2 _ _)) ?_
  go_frame
  refine Rg.list_run (some 200) rfl rfl (Rg.exec_load (v := .slice ra2 (R2.map (List.map Ma.ofN)).length rc2) _ _ rfl ⟨w5.heap.size, 2, none⟩ rfl (Rg.run_loadSl _ _ Try.underlying49 T2.out.c2)) ?_
  go_frame
  refine Rg.list_run (some 201) rfl rfl (exec_buildC3 (d := ((4 : Nat) : Int)) _ _ _ rfl rfl rfl rfl) ?_
  go_frame
  refine Rg.list_run (some 32) rfl rfl (exec_allocC rfl) ?_
  go_frame
  refine Rg.list_skip none rfl rfl (Rg.exec_store _ _ _ rfl _ rfl _ rfl (run_storeC _ _ _ _ _ _ _ (Tri.new w52 (.int .i64 0) (.slice none 0 0) (.slice none 0 0)))) ?_
  go_frame
  have htn := (Tri.new w52 (.int .i64 0) (.slice none 0 0) (.slice none 0 0)).set (.int .i64 ((4 : Nat) : Int)) (.slice (some ⟨w51.heap.size, 0, none⟩) 4 4) (.slice ra2 (R2.map (List.map Ma.ofN)).length rc2)
  have hb := ((((Below.refl w52.heap.size w52).alloc (Nat.le_refl _) (.cells #[.int .i64 0, .slice none 0 0, .slice none 0 0] 51)).setCell (p := ⟨w52.heap.size, 0, none⟩) (Nat.le_refl _) (.int .i64 ((4 : Nat) : Int))).setCell (p := ⟨w52.heap.size, 1, none⟩) (Nat.le_refl _) (.slice (some ⟨w51.heap.size, 0, none⟩) 4 4)).setCell (p := ⟨w52.heap.size, 2, none⟩) (Nat.le_refl _) (.slice ra2 (R2.map (List.map Ma.ofN)).length rc2)
  generalize (((w52.alloc (.cells #[.int .i64 0, .slice none 0 0, .slice none 0 0] 51)).setCell ⟨w52.heap.size, 0, none⟩ (.int .i64 ((4 : Nat) : Int))).setCell ⟨w52.heap.size, 1, none⟩ (.slice (some ⟨w51.heap.size, 0, none⟩) 4 4)).setCell ⟨w52.heap.size, 2, none⟩ (.slice ra2 (R2.map (List.map Ma.ofN)).length rc2) = w53 at *
  replace E2 := Lib.hid (E2.out.below hb)
  replace T2 := Lib.hid (T2.out.below hb)
  replace N7 := Lib.hid (N7.out.below hb)
  replace T7 := Lib.hid (T7.out.below hb)
  replace N8 := Lib.hid (N8.out.below hb)
  replace T8 := Lib.hid (T8.out.below hb)
  replace I0 := Lib.hid (I0.out.below hb)
  replace I1 := Lib.hid (I1.out.below hb)
  replace I2 := Lib.hid (I2.out.below hb)
  replace I3 := Lib.hid (I3.out.below hb)
  replace RW := Lib.hid (RW.out.below hb)
  replace K := Lib.hid (Rg.acc K.out hb)
  clear hb
  have T9 := Lib.hid htn
  clear htn
  have HR0 := Lib.hid (repsS HCH2.out)
  go_upto_region 19 with (fail)
  refine wp_region_list ?_
  refine list_ask (some 202) rfl rfl _ _ (exec_fn0 30 _ rfl (Zicl12 _ _)) ?_
  refine (awake08_any w53).mono ?_
  rintro e1 w54 ⟨rfl, hb⟩
  refine ⟨_, rfl, ?_⟩
  go_frame
  replace E2 := Lib.hid (E2.out.below hb)
  replace T2 := Lib.hid (T2.out.below hb)
  replace N7 := Lib.hid (N7.out.below hb)
  replace T7 := Lib.hid (T7.out.below hb)
  replace N8 := Lib.hid (N8.out.below hb)
  replace T8 := Lib.hid (T8.out.below hb)
  replace I0 := Lib.hid (I0.out.below hb)
  replace I1 := Lib.hid (I1.out.below hb)
  replace I2 := Lib.hid (I2.out.below hb)
  replace I3 := Lib.hid (I3.out.below hb)
  replace RW := Lib.hid (RW.out.below hb)
  replace T9 := Lib.hid (T9.out.below hb)
  replace K := Lib.hid (Rg.acc K.out hb)
  clear hb
  refine Rg.list_run (some 203) rfl rfl (Rg.exec_move (v := .bool true) _ rfl rfl) ?_
  go_frame
  refine listW_run (some 204) rfl rfl (Rg.exec_move (v := .bool true) _ rfl rfl) ?_
  go_frame
  refine Rg.list_run (some 205) rfl rfl (exec_pickT (v := .bool true) _ _ _ rfl rfl rfl) ?_
  go_frame
  refine Rg.list_run (some 206) rfl rfl (Rg.exec_move (v := .bool true) _ rfl rfl) ?_
  go_frame
  refine listW_run (some 207) rfl rfl (Rg.exec_move (v := .bool true) _ rfl rfl) ?_
  go_frame
  refine Rg.list_run (some 208) rfl rfl (exec_pickT (v := .bool true) _ _ _ rfl rfl rfl) ?_
  go_frame
  refine Rg.list_run (some 209) rfl rfl (Rg.exec_move (v := .bool true) _ rfl rfl) ?_
  go_frame
  refine listW_run (some 210) rfl rfl (Rg.exec_move (v := .bool true) _ rfl rfl) ?_
  go_frame
  refine Rg.list_run (some 211) rfl rfl (exec_pickT (v := .bool true) _ _ _ rfl rfl rfl) ?_
  go_frame
  refine Rg.list_run (some 212) rfl rfl (Rg.exec_move (v := .bool true) _ rfl rfl) ?_
  go_frame
  refine listW_run (some 213) rfl rfl (Rg.exec_move (v := .bool true) _ rfl rfl) ?_
  go_frame
  refine Rg.list_run (some 214) rfl rfl (exec_pickT (v := .bool true) _ _ _ rfl rfl rfl) ?_
  go_frame
  refine Rg.list_run (some 215) rfl rfl (Rg.exec_move (v := .bool true) _ rfl rfl) ?_
  go_frame
  refine listW_run (some 216) rfl rfl (exec_buildC0 rfl) ?_
  go_frame
  refine listW_ask (some 217) rfl rfl _ _ (exec_fn1 45 _ _ rfl rfl (Zicl13 _ _)) ?_
  refine (chk_zero w54).mono ?_
  rintro e1 w55 ⟨rfl, hb⟩
  refine ⟨_, rfl, ?_⟩
  go_frame
  replace E2 := Lib.hid (E2.out.below hb)
  replace T2 := Lib.hid (T2.out.below hb)
  replace N7 := Lib.hid (N7.out.below hb)
  replace T7 := Lib.hid (T7.out.below hb)
  replace N8 := Lib.hid (N8.out.below hb)
  replace T8 := Lib.hid (T8.out.below hb)
  replace I0 := Lib.hid (I0.out.below hb)
  replace I1 := Lib.hid (I1.out.below hb)
  replace I2 := Lib.hid (I2.out.below hb)
  replace I3 := Lib.hid (I3.out.below hb)
  replace RW := Lib.hid (RW.out.below hb)
  replace T9 := Lib.hid (T9.out.below hb)
  replace K := Lib.hid (Rg.acc K.out hb)
  clear hb
  refine listW_run (some 218) rfl rfl (exec_eqI _ _ rfl rfl rfl rfl) ?_
  go_frame
  refine Rg.list_run (some 219) rfl rfl (exec_pickT (v := .bool true) _ _ _ rfl rfl rfl) ?_
  go_frame
  refine Rg.list_run (some 220) rfl rfl (Rg.exec_move (v := .bool true) _ rfl rfl) ?_
  go_frame
  refine listW_run (some 221) rfl rfl (Rg.exec_load (v := (.agg #[.int .i64 ((4 : Nat) : Int), .slice (some ⟨w51.heap.size, 0, none⟩) 4 4, .slice ra2 (R2.map (List.map Ma.ofN)).length rc2])) _ _ rfl ⟨w52.heap.size, 0, none⟩ rfl (run_loadC3 T9.out.c0 T9.out.c1 T9.out.c2)) ?_
  go_frame
  refine listW_ask (some 222) rfl rfl _ _ (exec_fn1 45 _ _ rfl rfl (Zicl13 _ _)) ?_
  refine (chk_short HR0.out HCH2.out.lenR RW.out E2.out.2).mono ?_
  rintro e1 w56 ⟨rfl, hb⟩
  refine ⟨_, rfl, ?_⟩
  go_frame
  replace E2 := Lib.hid (E2.out.below hb)
  replace T2 := Lib.hid (T2.out.below hb)
  replace N7 := Lib.hid (N7.out.below hb)
  replace T7 := Lib.hid (T7.out.below hb)
  replace N8 := Lib.hid (N8.out.below hb)
  replace T8 := Lib.hid (T8.out.below hb)
  replace I0 := Lib.hid (I0.out.below hb)
  replace I1 := Lib.hid (I1.out.below hb)
  replace I2 := Lib.hid (I2.out.below hb)
  replace I3 := Lib.hid (I3.out.below hb)
  replace RW := Lib.hid (RW.out.below hb)
  replace T9 := Lib.hid (T9.out.below hb)
  replace K := Lib.hid (Rg.acc K.out hb)
  clear hb
  refine listW_run (some 223) rfl rfl (exec_eqI _ _ rfl rfl rfl rfl) ?_
  go_frame
  refine Rg.list_run (some 224) rfl rfl (exec_pickT (v := .bool true) _ _ _ rfl rfl rfl) ?_
  go_frame
  refine Rg.list_run (some 0) rfl rfl (Rg.exec_assign (v := .bool true) _ rfl rfl) ?_
  go_frame
  go_wp2
  go_ret
  exact ⟨rfl, K.out⟩
end Go.Proofs.Ytojbijkljnohoaa
