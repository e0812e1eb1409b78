/- Lemmas and contracts on the way to the statement; no condition of their own beyond those written. -/
import Derived.Test.YtojbijkljnohoaaXOzVa
set_option linter.unusedVariables false
/-! The chapter's examples. -/
namespace Go.Proofs.Ytojbijkljnohoaa
open Go.RowKit
open Go.Proofs
open Go.Proofs.Ob
attribute [local irreducible] Go.Calls

theorem vbcl0 (args : Array Value) (w : World) : (callFunc 52 args).run Try.prog w = .ok (.enter 52 args) w := by kernel_rfl
theorem vbcl1 (args : Array Value) (w : World) : (callFunc 16 args).run Try.prog w = .ok (.enter 16 args) w := by kernel_rfl
theorem vbcl2 (args : Array Value) (w : World) : (callFunc 20 args).run Try.prog w = .ok (.enter 20 args) w := by kernel_rfl
theorem vbcl3 (args : Array Value) (w : World) : (callFunc 12 args).run Try.prog w = .ok (.enter 12 args) w := by kernel_rfl
theorem vbcl4 (args : Array Value) (w : World) : (callFunc 24 args).run Try.prog w = .ok (.enter 24 args) w := by kernel_rfl
theorem vbcl5 (args : Array Value) (w : World) : (callFunc 14 args).run Try.prog w = .ok (.enter 14 args) w := by kernel_rfl
theorem GA.fresh {w : World} {D : Nat} {a : Option Addr} {gs : List (List Nat)} {c : Nat} (h : Rg.NRows w (.slice a gs.length c) gs) :
    ∃ W, (storeVar 24 ⟨w.heap.size, 0, none⟩ (.agg #[.int .i64 ((D : Nat) : Int), .slice a gs.length c])).run Try.prog (w.alloc (.cells #[.int .i64 0, .slice none 0 0] 24)) = .ok () W ∧ GA W w.heap.size D a gs c ∧ Below w.heap.size w W := by
  have n0 : (w.alloc (.cells #[.int .i64 0, .slice none 0 0] 24)).cell? ⟨w.heap.size, 0, none⟩ = some (.int .i64 0) := by rw [Rg.cellNew]; rfl
  have n1 : (w.alloc (.cells #[.int .i64 0, .slice none 0 0] 24)).cell? ⟨w.heap.size, 1, none⟩ = some (.slice none 0 0) := by rw [Rg.cellNew]; rfl
  obtain ⟨p0, p1, p2⟩ := group_set (.int .i64 ((D : Nat) : Int)) (.slice a gs.length c) n0 n1 ((Below.refl w.heap.size w).alloc (Nat.le_refl _) _) (Nat.le_refl _)
  exact ⟨_, run_storeG _ a _ c n0 n1 (frozenNewN _ _ _ 0 _) (frozenNewN _ _ _ 0 _), ⟨p0, p1, Rg.Rows.below h p2, by simp⟩, p2⟩
theorem example_g (w : World) : Calls Try.prog 52 #[] w fun e w' => ∃ a c, e = .returned (.agg #[.int .i64 5, .slice a 2 c]) ∧ Rg.NRows w' (.slice a 2 c) [[1, 2, 0, 3, 4], [0, 1, 2, 4, 3]] ∧ Below w.heap.size w w' := by
  refine (example_any w).mono ?_
  rintro e w' ⟨a, n, c, rfl, h, hb⟩
  have h1 : Rg.NRows w' (.slice a n c) [[1, 2, 0, 3, 4], [0, 1, 2, 4, 3]] := h.rows
  obtain ⟨a', c', e', _⟩ := h1.shape
  simp at e'
  obtain ⟨rfl, rfl, rfl⟩ := e'
  exact ⟨a, c, rfl, h1, hb⟩
theorem SamePerms_b {v1 v2 : Value} {l1 l2 : List (List Int)} {w : World} {b : Bool} (h1 : Rg.Rows w v1 l1) (h2 : Rg.Rows w v2 l2) (hd : Hid (decide (l1 = l2) = b)) :
    Calls Try.prog 14 #[v1, v2] w fun e w' => e = .returned (.bool b) ∧ Below w.heap.size w w' := by
  refine (SamePerms_q v1 v2 l1 l2 w h1 h2).mono ?_
  rintro e w' ⟨rfl, k, rfl⟩
  exact ⟨by rw [hd.out], Rg.drewN (Below.refl _ _) k⟩
theorem aw71 : orbS 5 [[1, 2, 0, 3, 4], [0, 1, 2, 4, 3]] 1 = ([0, 1, 2], 0) := by decide +kernel
theorem aw72 : pathS 5 [[1, 2, 0, 3, 4], [0, 1, 2, 4, 3]] 0 2 = ([1, 1], 0) := by decide +kernel
theorem aw73 : stabS 5 [[1, 2, 0, 3, 4], [0, 1, 2, 4, 3]] 0 = ([[0, 1, 2, 4, 3]], 0) := by decide +kernel
set_option maxRecDepth 100000 in
set_option maxHeartbeats 4000000 in
theorem awake_any (w : World) : Calls Try.prog 11 #[] w fun e w' => e = .returned (.bool true) ∧ Below w.heap.size w w' := by
  have K := Lib.hid (Below.refl w.heap.size w)
  go_enter Try.func11, Try.ntmps11
  go_upto_region 1 with (fail)
  refine wp_region_list ?_
  refine list_ask (some 8) rfl rfl _ _ (exec_fn0 52 _ rfl (vbcl0 _ _)) ?_
  refine (example_g w).mono ?_
  rintro e1 w1 ⟨ga, gc, rfl, hg, hb⟩
  have HG := Lib.hid hg
  clear hg
  refine ⟨_, rfl, ?_⟩
  go_frame
  replace K := Lib.hid (Rg.acc K.out hb)
  clear hb
  obtain ⟨W2, hst, hga, hb⟩ := GA.fresh (D := 5) (gs := [[1, 2, 0, 3, 4], [0, 1, 2, 4, 3]]) HG.out
  refine Rg.list_run (some 1) rfl rfl (exec_allocG rfl) ?_
  go_frame
  clear HG
  refine Rg.list_skip none rfl rfl (Rg.exec_store _ _ _ rfl _ rfl _ rfl hst) ?_
  go_frame
  clear hst
  replace K := Lib.hid (Rg.acc K.out hb)
  clear hb
  have GA0 := Lib.hid hga
  clear hga
  go_upto_region 2 with (fail)
  refine wp_region_list ?_
  refine Rg.list_run (some 10) rfl rfl (Rg.exec_load (v := .agg #[.int .i64 5, .slice ga 2 gc]) _ _ rfl ⟨w1.heap.size, 0, none⟩ rfl (run_loadG GA0.out.c0 GA0.out.c1)) ?_
  go_frame
  refine list_ask (some 11) rfl rfl _ _ (exec_fn 16 _ _ _ rfl rfl rfl (vbcl1 _ _)) ?_
  refine (Orbit_any _ 5 [[1, 2, 0, 3, 4], [0, 1, 2, 4, 3]] 1 W2 GA0.out.rows).mono ?_
  rintro e1 w2 ⟨v2, rfl, h2, hb⟩
  rw [aw71] at h2 ⊢
  refine ⟨_, rfl, ?_⟩
  go_frame
  replace GA0 := Lib.hid (GA0.out.below hb)
  replace K := Lib.hid (Rg.acc K.out hb)
  clear hb
  have H2 := Lib.hid h2
  refine Rg.list_run (some 9) rfl rfl (Rg.exec_move (v := .tuple #[v2, .int .i64 0]) _ rfl rfl) ?_
  go_frame
  refine Rg.list_run (some 12) rfl rfl (exec_extract (v := v2) _ _ rfl rfl rfl) ?_
  go_frame
  refine Rg.list_run (some 13) rfl rfl (exec_extract (v := .int .i64 0) _ _ rfl rfl rfl) ?_
  go_frame
  refine Rg.list_run (some 2) rfl rfl (Rg.exec_assign (v := v2) _ rfl rfl) ?_
  go_frame
  refine Rg.list_run (some 3) rfl rfl (Rg.exec_assign (v := .int .i64 0) _ rfl rfl) ?_
  go_frame
  go_upto_region 3 with (fail)
  refine wp_region_list ?_
  refine Rg.list_run (some 15) rfl rfl (Rg.exec_load (v := .agg #[.int .i64 5, .slice ga 2 gc]) _ _ rfl ⟨w1.heap.size, 0, none⟩ rfl (run_loadG GA0.out.c0 GA0.out.c1)) ?_
  go_frame
  refine list_ask (some 16) rfl rfl _ _ (exec_fn3 20 _ _ _ _ rfl rfl rfl rfl (vbcl2 _ _)) ?_
  refine (Path_any _ 5 [[1, 2, 0, 3, 4], [0, 1, 2, 4, 3]] 0 2 w2 GA0.out.rows).mono ?_
  rintro e1 w3 ⟨v4, rfl, h4, hb⟩
  rw [aw72] at h4 ⊢
  refine ⟨_, rfl, ?_⟩
  go_frame
  replace GA0 := Lib.hid (GA0.out.below hb)
  replace H2 := Lib.hid (H2.out.below hb)
  replace K := Lib.hid (Rg.acc K.out hb)
  clear hb
  have H4 := Lib.hid h4
  refine Rg.list_run (some 14) rfl rfl (Rg.exec_move (v := .tuple #[v4, .int .i64 0]) _ rfl rfl) ?_
  go_frame
  refine Rg.list_run (some 17) rfl rfl (exec_extract (v := v4) _ _ rfl rfl rfl) ?_
  go_frame
  refine Rg.list_run (some 18) rfl rfl (exec_extract (v := .int .i64 0) _ _ rfl rfl rfl) ?_
  go_frame
  refine Rg.list_run (some 4) rfl rfl (Rg.exec_assign (v := v4) _ rfl rfl) ?_
  go_frame
  refine Rg.list_run (some 5) rfl rfl (Rg.exec_assign (v := .int .i64 0) _ rfl rfl) ?_
  go_frame
  go_upto_region 4 with (fail)
  refine wp_region_list ?_
  refine Rg.list_run (some 20) rfl rfl (Rg.exec_load (v := .agg #[.int .i64 5, .slice ga 2 gc]) _ _ rfl ⟨w1.heap.size, 0, none⟩ rfl (run_loadG GA0.out.c0 GA0.out.c1)) ?_
  go_frame
  refine list_ask (some 21) rfl rfl _ _ (exec_fn 12 _ _ _ rfl rfl rfl (vbcl3 _ _)) ?_
  refine (Stab_any _ 5 [[1, 2, 0, 3, 4], [0, 1, 2, 4, 3]] 0 w3 GA0.out.rows).mono ?_
  rintro e1 w4 ⟨v6, rfl, h6, hb⟩
  rw [aw73] at h6 ⊢
  refine ⟨_, rfl, ?_⟩
  go_frame
  replace GA0 := Lib.hid (GA0.out.below hb)
  replace H2 := Lib.hid (H2.out.below hb)
  replace H4 := Lib.hid (H4.out.below hb)
  replace K := Lib.hid (Rg.acc K.out hb)
  clear hb
  have H6 := Lib.hid h6
  refine Rg.list_run (some 19) rfl rfl (Rg.exec_move (v := .tuple #[v6, .int .i64 0]) _ rfl rfl) ?_
  go_frame
  refine Rg.list_run (some 22) rfl rfl (exec_extract (v := v6) _ _ rfl rfl rfl) ?_
  go_frame
  refine Rg.list_run (some 23) rfl rfl (exec_extract (v := .int .i64 0) _ _ rfl rfl rfl) ?_
  go_frame
  refine Rg.list_run (some 6) rfl rfl (Rg.exec_assign (v := v6) _ rfl rfl) ?_
  go_frame
  refine Rg.list_run (some 7) rfl rfl (Rg.exec_assign (v := .int .i64 0) _ rfl rfl) ?_
  go_frame
  go_upto_region 5 with (fail)
  refine wp_region_list ?_
  refine listW_run (some 24) rfl rfl (Rg.exec_move (v := .int .i64 0) _ rfl rfl) ?_
  go_frame
  refine listW_run (some 25) rfl rfl (exec_eqI _ _ rfl rfl rfl rfl) ?_
  go_frame
  refine listW_run (some 26) rfl rfl (Rg.exec_move (v := .bool true) _ rfl rfl) ?_
  go_frame
  refine listW_run (some 27) rfl rfl (Rg.exec_move (v := v2) _ rfl rfl) ?_
  go_frame
  have hnew := ints_new w4 3 [0, 1, 2] (by decide)
  refine listW_run (some 28) rfl rfl (exec_flat _ _ 3 _ rfl [0, 1, 2] Try.underlying33 szInt zInt rfl (by decide) (by decide) rfl) ?_
  go_frame
  have hb := (Below.refl w4.heap.size w4).alloc (Nat.le_refl _) (.cells (([0, 1, 2] : List Int).map (Value.int .i64)).toArray 3)
  generalize w4.alloc (.cells (([0, 1, 2] : List Int).map (Value.int .i64)).toArray 3) = w5 at *
  replace GA0 := Lib.hid (GA0.out.below hb)
  replace H2 := Lib.hid (H2.out.below hb)
  replace H4 := Lib.hid (H4.out.below hb)
  replace H6 := Lib.hid (H6.out.below hb)
  replace K := Lib.hid (Rg.acc K.out hb)
  clear hb
  have F1 := Lib.hid hnew
  refine listW_ask (some 29) rfl rfl _ _ (exec_fn 24 _ _ _ rfl rfl rfl (vbcl4 _ _)) ?_
  refine (Same_any (w0 := w5) (b := true) H2.out F1.out (selfT _) (Below.refl _ _)).mono ?_
  rintro e1 w6 ⟨rfl, hb⟩
  refine ⟨_, rfl, ?_⟩
  go_frame
  replace GA0 := Lib.hid (GA0.out.below hb)
  replace H2 := Lib.hid (H2.out.below hb)
  replace H4 := Lib.hid (H4.out.below hb)
  replace H6 := Lib.hid (H6.out.below hb)
  replace F1 := Lib.hid (F1.out.below hb)
  replace K := Lib.hid (Rg.acc K.out hb)
  clear hb
  refine listW_run (some 30) rfl rfl (exec_pickT (v := .bool true) _ _ _ rfl rfl rfl) ?_
  go_frame
  refine listW_run (some 31) rfl rfl (Rg.exec_move (v := .bool true) _ rfl rfl) ?_
  go_frame
  refine listW_run (some 32) rfl rfl (Rg.exec_move (v := .int .i64 0) _ rfl rfl) ?_
  go_frame
  refine listW_run (some 33) rfl rfl (exec_eqI _ _ rfl rfl rfl rfl) ?_
  go_frame
  refine listW_run (some 34) rfl rfl (exec_pickT (v := .bool true) _ _ _ rfl rfl rfl) ?_
  go_frame
  refine listW_run (some 35) rfl rfl (Rg.exec_move (v := .bool true) _ rfl rfl) ?_
  go_frame
  refine listW_run (some 36) rfl rfl (Rg.exec_move (v := v4) _ rfl rfl) ?_
  go_frame
  have hnew := ints_new w6 3 [1, 1] (by decide)
  refine listW_run (some 37) rfl rfl (exec_flat _ _ 2 _ rfl [1, 1] Try.underlying38 szInt zInt rfl (by decide) (by decide) rfl) ?_
  go_frame
  have hb := (Below.refl w6.heap.size w6).alloc (Nat.le_refl _) (.cells (([1, 1] : List Int).map (Value.int .i64)).toArray 3)
  generalize w6.alloc (.cells (([1, 1] : List Int).map (Value.int .i64)).toArray 3) = w7 at *
  replace GA0 := Lib.hid (GA0.out.below hb)
  replace H2 := Lib.hid (H2.out.below hb)
  replace H4 := Lib.hid (H4.out.below hb)
  replace H6 := Lib.hid (H6.out.below hb)
  replace F1 := Lib.hid (F1.out.below hb)
  replace K := Lib.hid (Rg.acc K.out hb)
  clear hb
  have F2 := Lib.hid hnew
  refine listW_ask (some 38) rfl rfl _ _ (exec_fn 24 _ _ _ rfl rfl rfl (vbcl4 _ _)) ?_
  refine (Same_any (w0 := w7) (b := true) H4.out F2.out (selfT _) (Below.refl _ _)).mono ?_
  rintro e1 w8 ⟨rfl, hb⟩
  refine ⟨_, rfl, ?_⟩
  go_frame
  replace GA0 := Lib.hid (GA0.out.below hb)
  replace H2 := Lib.hid (H2.out.below hb)
  replace H4 := Lib.hid (H4.out.below hb)
  replace H6 := Lib.hid (H6.out.below hb)
  replace F1 := Lib.hid (F1.out.below hb)
  replace F2 := Lib.hid (F2.out.below hb)
  replace K := Lib.hid (Rg.acc K.out hb)
  clear hb
  refine listW_run (some 39) rfl rfl (exec_pickT (v := .bool true) _ _ _ rfl rfl rfl) ?_
  go_frame
  refine listW_run (some 40) rfl rfl (Rg.exec_move (v := .bool true) _ rfl rfl) ?_
  go_frame
  refine listW_run (some 41) rfl rfl (Rg.exec_move (v := .int .i64 0) _ rfl rfl) ?_
  go_frame
  refine listW_run (some 42) rfl rfl (exec_eqI _ _ rfl rfl rfl rfl) ?_
  go_frame
  refine listW_run (some 43) rfl rfl (exec_pickT (v := .bool true) _ _ _ rfl rfl rfl) ?_
  go_frame
  refine listW_run (some 44) rfl rfl (Rg.exec_move (v := .bool true) _ rfl rfl) ?_
  go_frame
  refine listW_run (some 45) rfl rfl (Rg.exec_move (v := v6) _ rfl rfl) ?_
  go_frame
  have hnew := ints_new w8 3 [0, 1, 2, 4, 3] (by decide)
  refine listW_run (some 46) rfl rfl (exec_flat _ _ 5 _ rfl [0, 1, 2, 4, 3] Try.underlying62 szInt zInt rfl (by decide) (by decide) rfl) ?_
  go_frame
  have hb := (Below.refl w8.heap.size w8).alloc (Nat.le_refl _) (.cells (([0, 1, 2, 4, 3] : List Int).map (Value.int .i64)).toArray 3)
  generalize w8.alloc (.cells (([0, 1, 2, 4, 3] : List Int).map (Value.int .i64)).toArray 3) = w9 at *
  replace GA0 := Lib.hid (GA0.out.below hb)
  replace H2 := Lib.hid (H2.out.below hb)
  replace H4 := Lib.hid (H4.out.below hb)
  replace H6 := Lib.hid (H6.out.below hb)
  replace F1 := Lib.hid (F1.out.below hb)
  replace F2 := Lib.hid (F2.out.below hb)
  replace K := Lib.hid (Rg.acc K.out hb)
  clear hb
  have F3 := Lib.hid hnew
  have hnew := Rg.Rows.one 62 F3.out
  refine listW_run (some 47) rfl rfl (Rg.exec_buildSlice _ _ _ rfl (.slice (some ⟨w8.heap.size, 0, none⟩) 5 5) rfl (run_build1P w9 _ ⟨_, _, _, rfl⟩)) ?_
  go_frame
  have hb := (Below.refl w9.heap.size w9).alloc (Nat.le_refl _) (.cells #[.slice (some ⟨w8.heap.size, 0, none⟩) 5 5] 62)
  generalize w9.alloc (.cells #[.slice (some ⟨w8.heap.size, 0, none⟩) 5 5] 62) = w10 at *
  replace GA0 := Lib.hid (GA0.out.below hb)
  replace H2 := Lib.hid (H2.out.below hb)
  replace H4 := Lib.hid (H4.out.below hb)
  replace H6 := Lib.hid (H6.out.below hb)
  replace F1 := Lib.hid (F1.out.below hb)
  replace F2 := Lib.hid (F2.out.below hb)
  replace F3 := Lib.hid (F3.out.below hb)
  replace K := Lib.hid (Rg.acc K.out hb)
  clear hb
  have F4 := Lib.hid hnew
  refine listW_ask (some 48) rfl rfl _ _ (exec_fn 14 _ _ _ rfl rfl rfl (vbcl5 _ _)) ?_
  refine (SamePerms_b (b := true) H6.out F4.out (Lib.hid (decide_eq_true rfl))).mono ?_
  rintro e1 w11 ⟨rfl, hb⟩
  refine ⟨_, rfl, ?_⟩
  go_frame
  replace GA0 := Lib.hid (GA0.out.below hb)
  replace H2 := Lib.hid (H2.out.below hb)
  replace H4 := Lib.hid (H4.out.below hb)
  replace H6 := Lib.hid (H6.out.below hb)
  replace F1 := Lib.hid (F1.out.below hb)
  replace F2 := Lib.hid (F2.out.below hb)
  replace F3 := Lib.hid (F3.out.below hb)
  replace F4 := Lib.hid (F4.out.below hb)
  replace K := Lib.hid (Rg.acc K.out hb)
  clear hb
  refine listW_run (some 49) rfl rfl (exec_pickT (v := .bool true) _ _ _ rfl rfl rfl) ?_
  go_frame
  refine listW_run (some 0) rfl rfl (Rg.exec_assign (v := .bool true) _ rfl rfl) ?_
  go_frame
  go_wp2
  go_ret
  exact ⟨rfl, K.out⟩
end Go.Proofs.Ytojbijkljnohoaa

