/- Lemmas and contracts on the way to the statement; no condition of their own beyond those written. -/
import Derived.Test.YtojbijkljnohoaaXWa
import Derived.Test.YtojbijkljnohoaaXVb
import Derived.Test.YtojbijkljnohoaaXCf
set_option linter.unusedVariables false
/-! The reference: Tree, Orbit and Path, at any group. -/
namespace Go.Proofs.Ytojbijkljnohoaa
open Go.RowKit
open Go.Proofs
open Go.Proofs.Ob
attribute [local irreducible] Go.Calls

theorem Vdcl0 (args : Array Value) (w : World) : (callFunc 19 args).run Try.prog w = .ok (.enter 19 args) w := by kernel_rfl
theorem Vdcl1 (args : Array Value) (w : World) : (callFunc 67 args).run Try.prog w = .ok (.enter 67 args) w := by kernel_rfl
theorem Vdcl2 (args : Array Value) (w : World) : (callFunc 68 args).run Try.prog w = .ok (.enter 68 args) w := by kernel_rfl
/-- a good group argument in its own cells -/
theorem GA.enter {w : World} {gv : Value} (D : Nat) {gs : List (List Nat)} (h : Rg.NRows w gv gs) : ∃ a c, gv = .slice a gs.length c ∧ GA (w.alloc (.cells #[.int .i64 ((D : Nat) : Int), .slice a gs.length c] 24)) w.heap.size D a gs c ∧ Below w.heap.size w (w.alloc (.cells #[.int .i64 ((D : Nat) : Int), .slice a gs.length c] 24)) := by
  obtain ⟨a, c, rfl, _⟩ := h.shape
  exact ⟨a, c, rfl, GA.new h, (Below.refl _ _).alloc (Nat.le_refl _) _⟩
def treeR (d : Int) (ll : List (List Int)) (p : Int) : List Int × List Int × List Int :=
  if ptE d ll p = 0 then (Ma.ofN (pts (tree (toNs ll) d.toNat p.toNat)), prs (tree (toNs ll) d.toNat p.toNat), gns (tree (toNs ll) d.toNat p.toNat)) else ([], [], [])
theorem treeR_ok {D P : Nat} {gs : List (List Nat)} (h : ptE (D : Int) (gs.map Ma.ofN) (P : Int) = 0) : treeR (D : Int) (gs.map Ma.ofN) (P : Int) = (Ma.ofN (pts (tree gs D P)), prs (tree gs D P), gns (tree gs D P)) := by
  unfold treeR
  rw [if_pos h, toNs_ofN]; rfl
theorem refTree_any (gv : Value) (d : Int) (ll : List (List Int)) (p : Int) (w : World) (h : Rg.Rows w gv ll) :
    Calls Try.prog 19 #[.agg #[.int .i64 d, gv], .int .i64 p] w (TrPost (treeR d ll p) (ptE d ll p) w) := by
  by_cases hz : ptE d ll p = 0
  · obtain ⟨D, gs, P, rfl, rfl, rfl, hgg, hD1, hD2, hgl, hP⟩ := ptE_ok hz
    rw [treeR_ok hz, hz]
    exact refTree_in gv D gs P w h hgg hD2 hP hgl (fun W v hW => by have := refPoint_any v (D : Int) _ (P : Int) W hW; rwa [hz] at this)
  · have hr : treeR d ll p = ([], [], []) := if_neg hz
    rw [hr]
    exact refTree_err gv d ll p w h hz
theorem tree_len64 {d : Int} {ll : List (List Int)} {p : Int} (h : ptE d ll p = 0) : (tree (toNs ll) d.toNat p.toNat).length ≤ 64 := by
  obtain ⟨D, gs, P, rfl, rfl, rfl, hgg, hD1, hD2, hgl, hP⟩ := ptE_ok h
  rw [toNs_ofN]
  exact Nat.le_trans (tree_ok hgg.cl hP).len hD2
theorem treeR_len (d : Int) (ll : List (List Int)) (p : Int) : (treeR d ll p).1.length ≤ 64 := by
  unfold treeR
  split
  · rename_i h
    have := tree_len64 h
    simp only [Ma.len_ofN, len_pts]; exact this
  · simp
theorem asc_treeR (d : Int) (ll : List (List Int)) (p : Int) : (asc (treeR d ll p).1, ptE d ll p) = orbS d ll p := by
  unfold treeR orbS
  split
  · rename_i h; rw [h]
  · rfl
set_option maxRecDepth 100000 in
set_option maxHeartbeats 4000000 in
theorem refOrbit_f (gv : Value) (d : Int) (ll : List (List Int)) (p : Int) (w : World) (h : Rg.Rows w gv ll) :
    Calls Try.prog 17 #[.agg #[.int .i64 d, gv], .int .i64 p] w fun e w' => ∃ v, e = .returned (.tuple #[v, .int .i64 (orbS d ll p).2]) ∧ Rg.Ints w' v (orbS d ll p).1 ∧ Rg.Fresh w.heap.size v ∧ Below w.heap.size w w' := by
  rw [← asc_treeR]
  have htl := Lib.hid (treeR_len d ll p)
  obtain ⟨ga, gc, rfl, hga, hba⟩ := GI.enter (d) h
  have K := Lib.hid hba
  have G0 := Lib.hid hga
  clear h hga hba
  have HTR := Lib.hid fun W (hW : Rg.Rows W (.slice ga ll.length gc) ll) => refTree_any (.slice ga ll.length gc) d ll p W hW
  obtain ⟨e0, he0⟩ : ∃ e0, Hid (e0 = ptE d ll p) := ⟨_, Lib.hid rfl⟩
  rw [← he0.out] at HTR ⊢
  obtain ⟨R, hR⟩ : ∃ R, Hid (R = treeR d ll p) := ⟨_, Lib.hid rfl⟩
  rw [← hR.out] at HTR htl ⊢
  clear he0 hR
  go_enter Try.func17, Try.ntmps17
  go_upto_region 1 with (fail)
  generalize w.alloc (.cells #[.int .i64 (d), .slice ga ll.length gc] 24) = w0 at *
  refine wp_region_list ?_
  refine Rg.list_run (some 11) rfl rfl (Rg.exec_load (v := .agg #[.int .i64 d, .slice ga ll.length gc]) _ _ rfl ⟨w.heap.size, 0, none⟩ rfl (run_loadG G0.out.c0 G0.out.c1)) ?_
  go_frame
  refine Rg.list_run (some 12) rfl rfl (Rg.exec_move (v := .int .i64 p) _ rfl rfl) ?_
  go_frame
  refine list_ask (some 13) rfl rfl _ _ (exec_fn 19 _ _ _ rfl rfl rfl (Vdcl0 _ _)) ?_
  refine (HTR.out _ G0.out.rows).mono ?_
  rintro e1 w1 ⟨v1, v2, v3, rfl, h1, h2, h3, hb⟩
  clear h2 h3
  refine ⟨_, rfl, ?_⟩
  go_frame
  replace G0 := Lib.hid (G0.out.below hb)
  replace K := Lib.hid (Rg.acc K.out hb)
  clear hb
  have H1 := Lib.hid h1
  refine Rg.list_run (some 10) rfl rfl (Rg.exec_move (v := .tuple #[v1, v2, v3, .int .i64 e0]) _ rfl rfl) ?_
  go_frame
  refine Rg.list_run (some 14) rfl rfl (exec_extract (v := v1) _ _ rfl rfl rfl) ?_
  go_frame
  refine Rg.list_run (some 15) rfl rfl (exec_extract (v := v2) _ _ rfl rfl rfl) ?_
  go_frame
  refine Rg.list_run (some 16) rfl rfl (exec_extract (v := v3) _ _ rfl rfl rfl) ?_
  go_frame
  refine Rg.list_run (some 17) rfl rfl (exec_extract (v := .int .i64 e0) _ _ rfl rfl rfl) ?_
  go_frame
  refine Rg.list_run (some 6) rfl rfl (Rg.exec_assign (v := v1) _ rfl rfl) ?_
  go_frame
  refine Rg.list_run (some 7) rfl rfl (Rg.exec_assign (v := v2) _ rfl rfl) ?_
  go_frame
  refine Rg.list_run (some 8) rfl rfl (Rg.exec_assign (v := v3) _ rfl rfl) ?_
  go_frame
  refine Rg.list_run (some 9) rfl rfl (Rg.exec_assign (v := .int .i64 e0) _ rfl rfl) ?_
  go_frame
  go_upto_region 2 with (fail)
  refine wp_region_list ?_
  refine Rg.list_run (some 18) rfl rfl (Rg.exec_move (v := v1) _ rfl rfl) ?_
  go_frame
  refine list_ask (some 19) rfl rfl _ _ (exec_fn1 67 _ _ rfl rfl (Vdcl1 _ _)) ?_
  refine (ascending_any v1 _ w1 H1.out (by have := htl.out; omega)).mono ?_
  rintro e1 w2 ⟨ov, rfl, hov, hfo, hb⟩
  have HF := Lib.hid (hfo.mono K.out.size)
  clear hfo
  refine ⟨_, rfl, ?_⟩
  go_frame
  replace G0 := Lib.hid (G0.out.below hb)
  replace H1 := Lib.hid (H1.out.below hb)
  replace K := Lib.hid (Rg.acc K.out hb)
  clear hb
  have HV := Lib.hid hov
  refine Rg.list_run (some 20) rfl rfl (Rg.exec_move (v := .int .i64 e0) _ rfl rfl) ?_
  go_frame
  refine Rg.list_run (some 4) rfl rfl (Rg.exec_assign (v := ov) _ rfl rfl) ?_
  go_frame
  refine Rg.list_run (some 5) rfl rfl (Rg.exec_assign (v := .int .i64 e0) _ rfl rfl) ?_
  go_frame
  go_wp2
  go_ret2
  exact ⟨_, rfl, HV.out, HF.out, K.out⟩
theorem refOrbit_any (gv : Value) (d : Int) (ll : List (List Int)) (p : Int) (w : World) (h : Rg.Rows w gv ll) :
    Calls Try.prog 17 #[.agg #[.int .i64 d, gv], .int .i64 p] w (LPost (orbS d ll p) w) := by
  refine (refOrbit_f gv d ll p w h).mono ?_
  rintro e w' ⟨v, h1, h2, _, h3⟩
  exact ⟨v, h1, h2, h3⟩
theorem pathS_bad {d : Int} {ll : List (List Int)} {p q : Int} (h : ptE d ll p ≠ 0) : pathS d ll p q = ([], ptE d ll p) := by
  unfold pathS
  by_cases hg : Ma.gchk d ll = 0
  · rw [if_pos hg, if_neg]
    · unfold ptE at h ⊢
      rw [if_pos hg] at h ⊢
      split at h
      · exact absurd rfl h
      · rename_i h1; rw [if_neg h1]
    · rintro ⟨h1, _⟩
      exact h (by unfold ptE; rw [if_pos hg, if_pos h1])
  · rw [if_neg hg]; unfold ptE; rw [if_neg hg]
theorem pathS_q {d : Int} {ll : List (List Int)} {p q : Int} (h : ptE d ll p = 0) (hq : ¬ isPt d q = true) : pathS d ll p q = ([], 2) := by
  unfold pathS
  rw [if_pos (ptE_zero h).1, if_neg (fun h => hq h.2)]
theorem pathS_none {D P Q : Nat} {gs : List (List Nat)} (h : ptE (D : Int) (gs.map Ma.ofN) (P : Int) = 0) (hq : Q < D) (hn : Q ∉ pts (tree gs D P)) : pathS (D : Int) (gs.map Ma.ofN) (P : Int) (Q : Int) = ([], 18) := by
  have e : treeL (D : Int) (gs.map Ma.ofN) (P : Int) = tree gs D P := by unfold treeL; rw [toNs_ofN]; rfl
  unfold pathS
  rw [if_pos (ptE_zero h).1, if_pos ⟨(ptE_zero h).2, by unfold isPt; exact decide_eq_true (by omega)⟩, e, if_neg]
  simpa using hn
theorem pathS_some {D P Q : Nat} {gs : List (List Nat)} (h : ptE (D : Int) (gs.map Ma.ofN) (P : Int) = 0) (hq : Q < D) (hn : Q ∈ pts (tree gs D P)) : pathS (D : Int) (gs.map Ma.ofN) (P : Int) (Q : Int) = (Ma.ofN (wd (tree gs D P) Q), 0) := by
  have e : treeL (D : Int) (gs.map Ma.ofN) (P : Int) = tree gs D P := by unfold treeL; rw [toNs_ofN]; rfl
  unfold pathS
  rw [if_pos (ptE_zero h).1, if_pos ⟨(ptE_zero h).2, by unfold isPt; exact decide_eq_true (by omega)⟩, e, if_pos]
  · rfl
  · simpa using hn
set_option maxRecDepth 100000 in
set_option maxHeartbeats 4000000 in
theorem refPath_any (gv : Value) (d : Int) (ll : List (List Int)) (p q : Int) (w : World) (h : Rg.Rows w gv ll) :
    Calls Try.prog 21 #[.agg #[.int .i64 d, gv], .int .i64 p, .int .i64 q] w (LPost (pathS d ll p q) w) := by
  have HPT := Lib.hid fun v W (hW : Rg.Rows W v ll) => refPoint_any v d ll p W hW
  by_cases hz : ptE d ll p = 0
  · by_cases hq : isPt d q = true
    · obtain ⟨D, gs, P, rfl, rfl, rfl, hgg, hD1, hD2, hgl, hP⟩ := ptE_ok hz
      obtain ⟨hq0, hq1⟩ := isPt_nat hq
      obtain ⟨Q, rfl⟩ : ∃ Q : Nat, q = Q := ⟨q.toNat, by omega⟩
      have hQ : Q < D := by omega
      by_cases hm : Q ∈ pts (tree gs D P)
      · rw [pathS_some hz hQ hm]
        exact refPath_in gv D gs P Q w h hgg hD2 hP hQ hgl (fun W v hW => by have := HPT.out v W hW; rwa [hz] at this) hm
      · rw [pathS_none hz hQ hm]
        have hok := tree_ok hgg.cl hP
        have hne : Q ≠ P := by
          rintro rfl
          apply hm
          have := hok.hd
          exact List.mem_map.2 ⟨_, List.mem_of_getElem? this, rfl⟩
        rw [hz] at HPT
        have HTR := Lib.hid fun v W (hW : Rg.NRows W v gs) => refTree_in v D gs P W hW hgg hD2 hP hgl (fun W v hW => HPT.out v W hW)
        have htl := hok.len
        obtain ⟨T, hT⟩ : ∃ T, Hid (T = tree gs D P) := ⟨_, Lib.hid rfl⟩
        rw [← hT.out] at HTR htl hm
        have hne' : ¬ (Q : Int) = (P : Int) := by omega
        replace h : Rg.NRows w gv gs := h
        clear hok hT hz hq hq0 hq1 hgg
        obtain ⟨ga, gc, rfl, hga, hba⟩ := GA.enter (D) h
        have K := Lib.hid hba
        have G0 := Lib.hid hga
        clear h hga hba
        go_enter Try.func21, Try.ntmps21
        go_upto_region 1 with (fail)
        generalize w.alloc (.cells #[.int .i64 (((D : Nat) : Int)), .slice ga gs.length gc] 24) = w0 at *
        refine wp_region_list ?_
        refine Rg.list_run (some 15) rfl rfl (Rg.exec_load (v := .agg #[.int .i64 ((D : Nat) : Int), .slice ga gs.length gc]) _ _ rfl ⟨w.heap.size, 0, none⟩ rfl (run_loadG G0.out.c0 G0.out.c1)) ?_
        go_frame
        refine Rg.list_run (some 16) rfl rfl (Rg.exec_move (v := .int .i64 ((P : Nat) : Int)) _ rfl rfl) ?_
        go_frame
        refine list_ask (some 17) rfl rfl _ _ (exec_fn 68 _ _ _ rfl rfl rfl (Vdcl2 _ _)) ?_
        refine (HPT.out _ _ G0.out.rows).mono ?_
        rintro e1 w1 ⟨rfl, hb⟩
        refine ⟨_, rfl, ?_⟩
        go_frame
        replace G0 := Lib.hid (G0.out.below hb)
        replace K := Lib.hid (Rg.acc K.out hb)
        clear hb
        refine Rg.list_run (some 8) rfl rfl (Rg.exec_assign (v := .int .i64 0) _ rfl rfl) ?_
        go_frame
        go_upto_region 4 with (fail)
        refine wp_region_list ?_
        refine listW_run (some 21) rfl rfl (Rg.exec_move (v := .int .i64 ((Q : Nat) : Int)) _ rfl rfl) ?_
        go_frame
        refine listW_run (some 22) rfl rfl (exec_bin (R := .bool false) .lss _ _ _ rfl rfl rfl (b_lss _ (decide_eq_false (by omega)))) ?_
        go_frame
        refine listW_run (some 23) rfl rfl (Rg.exec_move (v := .bool false) _ rfl rfl) ?_
        go_frame
        refine listW_run (some 24) rfl rfl (Rg.exec_move (v := .int .i64 ((Q : Nat) : Int)) _ rfl rfl) ?_
        go_frame
        refine listW_run (some 25) rfl rfl (exec_fieldG0 _ rfl rfl) ?_
        go_frame
        refine listW_run (some 26) rfl rfl (Rg.exec_load (v := .int .i64 ((D : Nat) : Int)) _ _ rfl ⟨w.heap.size, 0, none⟩ rfl (run_loadInt G0.out.c0)) ?_
        go_frame
        refine listW_run (some 27) rfl rfl (exec_bin (R := .bool false) .geq _ _ _ rfl rfl rfl (b_geq _ (decide_eq_false (by omega)))) ?_
        go_frame
        refine listW_run (some 28) rfl rfl (exec_pickF (v := .bool false) _ _ _ rfl rfl rfl) ?_
        go_frame
        go_upto_region 6 with (fail)
        refine wp_region_list ?_
        refine Rg.list_run (some 30) rfl rfl (Rg.exec_load (v := .agg #[.int .i64 ((D : Nat) : Int), .slice ga gs.length gc]) _ _ rfl ⟨w.heap.size, 0, none⟩ rfl (run_loadG G0.out.c0 G0.out.c1)) ?_
        go_frame
        refine Rg.list_run (some 31) rfl rfl (Rg.exec_move (v := .int .i64 ((P : Nat) : Int)) _ rfl rfl) ?_
        go_frame
        refine list_ask (some 32) rfl rfl _ _ (exec_fn 19 _ _ _ rfl rfl rfl (Vdcl0 _ _)) ?_
        refine (HTR.out _ _ G0.out.rows).mono ?_
        rintro e1 w2 ⟨v1, v2, v3, rfl, h1, h2, h3, hb⟩
        clear h2 h3
        refine ⟨_, rfl, ?_⟩
        go_frame
        replace G0 := Lib.hid (G0.out.below hb)
        replace K := Lib.hid (Rg.acc K.out hb)
        clear hb
        have H1 := Lib.hid h1
        refine Rg.list_run (some 29) rfl rfl (Rg.exec_move (v := .tuple #[v1, v2, v3, .int .i64 ((0 : Nat) : Int)]) _ rfl rfl) ?_
        go_frame
        refine Rg.list_run (some 33) rfl rfl (exec_extract (v := v1) _ _ rfl rfl rfl) ?_
        go_frame
        refine Rg.list_run (some 34) rfl rfl (exec_extract (v := v2) _ _ rfl rfl rfl) ?_
        go_frame
        refine Rg.list_run (some 35) rfl rfl (exec_extract (v := v3) _ _ rfl rfl rfl) ?_
        go_frame
        refine Rg.list_run (some 36) rfl rfl (exec_extract (v := .int .i64 ((0 : Nat) : Int)) _ _ rfl rfl rfl) ?_
        go_frame
        refine Rg.list_run (some 9) rfl rfl (Rg.exec_assign (v := v1) _ rfl rfl) ?_
        go_frame
        refine Rg.list_run (some 10) rfl rfl (Rg.exec_assign (v := v2) _ rfl rfl) ?_
        go_frame
        refine Rg.list_run (some 11) rfl rfl (Rg.exec_assign (v := v3) _ rfl rfl) ?_
        go_frame
        refine Rg.list_run (some 12) rfl rfl (Rg.exec_assign (v := .int .i64 ((0 : Nat) : Int)) _ rfl rfl) ?_
        go_frame
        obtain ⟨ta, tc, rfl, _, _, _, htr⟩ := H1.out.shape
        rw [Ma.len_ofN, len_pts] at *
        have HTC := Lib.hid htr
        have HM := Lib.hid hm
        have hTN : (T.length : Int) ≤ 64 := by omega
        clear htr hm HTR HPT
        go_wp2
        go_loop [2] (fun qv => qv = .int .i64 ((Q : Nat) : Int)) (fun _ => 0)
        case atStart => rfl
        case round =>
          obtain rfl := hrel
          go_wp2
          go_loop [14] (fun kv => ∃ k : Nat, k ≤ T.length ∧ kv = .int .i64 k) (fun kv => T.length - (intOf kv).toNat)
          case atStart => exact ⟨0, by omega, rfl⟩
          case round =>
            obtain ⟨k, hk, rfl⟩ := hrel
            by_cases hkT : k < T.length
            · obtain ⟨tb, tof, rfl, htb, htcell⟩ := HTC.out (by rw [Ma.len_ofN, len_pts]; omega)
              have hq1 := htcell k (by rw [Ma.len_ofN, len_pts]; omega)
              have hxm : ¬ ((T[k].1 : Nat) : Int) = (Q : Int) := by
                intro e
                exact HM.out (List.mem_map.2 ⟨T[k], List.getElem_mem hkT, by omega⟩)
              obtain ⟨x, hx⟩ : ∃ x : Nat, Hid (x = T[k].1) := ⟨_, Lib.hid rfl⟩
              rw [show (Ma.ofN (pts T))[k]'(by rw [Ma.len_ofN, len_pts]; omega) = ((x : Nat) : Int) by rw [hx.out]; simp [Ma.ofN, pts]] at hq1
              rw [← hx.out] at hxm
              have hkN : (k : Int) < (T.length : Int) := by omega
              clear htcell
              go_wp2
              go_round
              case rel => exact ⟨k + 1, by omega, by go_num⟩
              case measure => simp [intOf]; omega
            · obtain rfl : k = T.length := by omega
              go_wp2
              go_ret2
              exact ⟨_, rfl, Rg.Ints.nil _ _ _ (Nat.zero_le _), K.out⟩
    · rw [pathS_q hz hq]
      rw [hz] at HPT
      have hq' : ¬ (0 ≤ q ∧ q < d) := fun h => hq (by unfold isPt; exact decide_eq_true h)
      clear hq hz
      obtain ⟨ga, gc, rfl, hga, hba⟩ := GI.enter (d) h
      have K := Lib.hid hba
      have G0 := Lib.hid hga
      clear h hga hba
      by_cases hq0 : q < 0
      · -- below
        go_enter Try.func21, Try.ntmps21
        go_upto_region 1 with (fail)
        generalize w.alloc (.cells #[.int .i64 (d), .slice ga ll.length gc] 24) = w0 at *
        refine wp_region_list ?_
        refine Rg.list_run (some 15) rfl rfl (Rg.exec_load (v := .agg #[.int .i64 d, .slice ga ll.length gc]) _ _ rfl ⟨w.heap.size, 0, none⟩ rfl (run_loadG G0.out.c0 G0.out.c1)) ?_
        go_frame
        refine Rg.list_run (some 16) rfl rfl (Rg.exec_move (v := .int .i64 p) _ rfl rfl) ?_
        go_frame
        refine list_ask (some 17) rfl rfl _ _ (exec_fn 68 _ _ _ rfl rfl rfl (Vdcl2 _ _)) ?_
        refine (HPT.out _ _ G0.out.rows).mono ?_
        rintro e1 w51 ⟨rfl, hb⟩
        refine ⟨_, rfl, ?_⟩
        go_frame
        replace G0 := Lib.hid (G0.out.below hb)
        replace K := Lib.hid (Rg.acc K.out hb)
        clear hb
        refine Rg.list_run (some 8) rfl rfl (Rg.exec_assign (v := .int .i64 0) _ rfl rfl) ?_
        go_frame
        go_upto_region 4 with (fail)
        refine wp_region_list ?_
        refine listW_run (some 21) rfl rfl (Rg.exec_move (v := .int .i64 q) _ rfl rfl) ?_
        go_frame
        refine listW_run (some 22) rfl rfl (exec_bin (R := .bool true) .lss _ _ _ rfl rfl rfl (b_lss _ (decide_eq_true (by omega)))) ?_
        go_frame
        refine listW_run (some 23) rfl rfl (Rg.exec_move (v := .bool true) _ rfl rfl) ?_
        go_frame
        refine listW_pass (some 24) rfl rfl ?_
        go_frame
        refine listW_pass (some 25) rfl rfl ?_
        go_frame
        refine listW_pass (some 26) rfl rfl ?_
        go_frame
        refine listW_pass (some 27) rfl rfl ?_
        go_frame
        refine listW_run (some 28) rfl rfl (exec_pickT (v := .bool true) _ _ _ rfl rfl rfl) ?_
        go_frame
        go_wp2
        go_ret2
        exact ⟨_, rfl, Rg.Ints.nil _ _ _ (Nat.zero_le _), K.out⟩
      · -- above
        have hqd : d ≤ q := by omega
        go_enter Try.func21, Try.ntmps21
        go_upto_region 1 with (fail)
        generalize w.alloc (.cells #[.int .i64 (d), .slice ga ll.length gc] 24) = w0 at *
        refine wp_region_list ?_
        refine Rg.list_run (some 15) rfl rfl (Rg.exec_load (v := .agg #[.int .i64 d, .slice ga ll.length gc]) _ _ rfl ⟨w.heap.size, 0, none⟩ rfl (run_loadG G0.out.c0 G0.out.c1)) ?_
        go_frame
        refine Rg.list_run (some 16) rfl rfl (Rg.exec_move (v := .int .i64 p) _ rfl rfl) ?_
        go_frame
        refine list_ask (some 17) rfl rfl _ _ (exec_fn 68 _ _ _ rfl rfl rfl (Vdcl2 _ _)) ?_
        refine (HPT.out _ _ G0.out.rows).mono ?_
        rintro e1 w51 ⟨rfl, hb⟩
        refine ⟨_, rfl, ?_⟩
        go_frame
        replace G0 := Lib.hid (G0.out.below hb)
        replace K := Lib.hid (Rg.acc K.out hb)
        clear hb
        refine Rg.list_run (some 8) rfl rfl (Rg.exec_assign (v := .int .i64 0) _ rfl rfl) ?_
        go_frame
        go_upto_region 4 with (fail)
        refine wp_region_list ?_
        refine listW_run (some 21) rfl rfl (Rg.exec_move (v := .int .i64 q) _ rfl rfl) ?_
        go_frame
        refine listW_run (some 22) rfl rfl (exec_bin (R := .bool false) .lss _ _ _ rfl rfl rfl (b_lss _ (decide_eq_false (by omega)))) ?_
        go_frame
        refine listW_run (some 23) rfl rfl (Rg.exec_move (v := .bool false) _ rfl rfl) ?_
        go_frame
        refine listW_run (some 24) rfl rfl (Rg.exec_move (v := .int .i64 q) _ rfl rfl) ?_
        go_frame
        refine listW_run (some 25) rfl rfl (exec_fieldG0 _ rfl rfl) ?_
        go_frame
        refine listW_run (some 26) rfl rfl (Rg.exec_load (v := .int .i64 d) _ _ rfl ⟨w.heap.size, 0, none⟩ rfl (run_loadInt G0.out.c0)) ?_
        go_frame
        refine listW_run (some 27) rfl rfl (exec_bin (R := .bool true) .geq _ _ _ rfl rfl rfl (b_geq _ (decide_eq_true (by omega)))) ?_
        go_frame
        refine listW_run (some 28) rfl rfl (exec_pickF (v := .bool true) _ _ _ rfl rfl rfl) ?_
        go_frame
        go_wp2
        go_ret2
        exact ⟨_, rfl, Rg.Ints.nil _ _ _ (Nat.zero_le _), K.out⟩
  · rw [pathS_bad hz]
    obtain ⟨e0, he0⟩ : ∃ e0, Hid (e0 = ptE d ll p) := ⟨_, Lib.hid rfl⟩
    rw [← he0.out] at HPT hz ⊢
    clear he0
    obtain ⟨ga, gc, rfl, hga, hba⟩ := GI.enter (d) h
    have K := Lib.hid hba
    have G0 := Lib.hid hga
    clear h hga hba
    go_enter Try.func21, Try.ntmps21
    go_upto_region 1 with (fail)
    generalize w.alloc (.cells #[.int .i64 (d), .slice ga ll.length gc] 24) = w0 at *
    refine wp_region_list ?_
    refine Rg.list_run (some 15) rfl rfl (Rg.exec_load (v := .agg #[.int .i64 d, .slice ga ll.length gc]) _ _ rfl ⟨w.heap.size, 0, none⟩ rfl (run_loadG G0.out.c0 G0.out.c1)) ?_
    go_frame
    refine Rg.list_run (some 16) rfl rfl (Rg.exec_move (v := .int .i64 p) _ rfl rfl) ?_
    go_frame
    refine list_ask (some 17) rfl rfl _ _ (exec_fn 68 _ _ _ rfl rfl rfl (Vdcl2 _ _)) ?_
    refine (HPT.out _ _ G0.out.rows).mono ?_
    rintro e1 w1 ⟨rfl, hb⟩
    refine ⟨_, rfl, ?_⟩
    go_frame
    replace G0 := Lib.hid (G0.out.below hb)
    replace K := Lib.hid (Rg.acc K.out hb)
    clear hb
    refine Rg.list_run (some 8) rfl rfl (Rg.exec_assign (v := .int .i64 e0) _ rfl rfl) ?_
    go_frame
    go_wp2
    go_ret2
    exact ⟨_, rfl, Rg.Ints.nil _ _ _ (Nat.zero_le _), K.out⟩
end Go.Proofs.Ytojbijkljnohoaa

/-! orbit.Tree, at any group. -/
namespace Go.Proofs.Ytojbijkljnohoaa
open Go.RowKit
open Go.Proofs
open Go.Proofs.Ob
attribute [local irreducible] Go.Calls

theorem Vfcl0 (args : Array Value) (w : World) : (callFunc 26 args).run Try.prog w = .ok (.enter 26 args) w := by kernel_rfl
theorem Vfcl1 (args : Array Value) (w : World) : (callFunc 53 args).run Try.prog w = .ok (.enter 53 args) w := by kernel_rfl
theorem Vfcl2 (args : Array Value) (w : World) : (callFunc 54 args).run Try.prog w = .ok (.enter 54 args) w := by kernel_rfl
/-- two rows of the call's own, of integers -/
def R2 (B : Nat) (w : World) (v1 v2 : Value) (l1 l2 : List Int) : Prop :=
  B ≤ w.heap.size ∧ w.ownsRow B 3 1 v1 l1.length (l1.map (Value.int .i64)) ∧ w.ownsRow B 3 1 v2 l2.length (l2.map (Value.int .i64)) ∧ Rg.Apart v1 v2
theorem R2.below {B : Nat} {w w' : World} {v1 v2 : Value} {l1 l2 : List Int} (h : R2 B w v1 v2 l1 l2) (hb : Below w.heap.size w w') : R2 B w' v1 v2 l1 l2 :=
  ⟨Nat.le_trans h.1 hb.size, Rg.row_below h.2.1 hb, Rg.row_below h.2.2.1 hb, h.2.2.2⟩
theorem R2.lt1 {B : Nat} {w : World} {v1 v2 : Value} {l1 l2 : List Int} (h : R2 B w v1 v2 l1 l2) : ∀ j, v1.ownBlock = some j → B ≤ j ∧ j < w.heap.size := fun j e => h.2.1.lt j e
theorem R2.lt2 {B : Nat} {w : World} {v1 v2 : Value} {l1 l2 : List Int} (h : R2 B w v1 v2 l1 l2) : ∀ j, v2.ownBlock = some j → B ≤ j ∧ j < w.heap.size := fun j e => h.2.2.1.lt j e
theorem R2.nil {B : Nat} {w : World} (h : B ≤ w.heap.size) : R2 B w (.slice none 0 0) (.slice none 0 0) [] [] := ⟨h, World.ownsRow_nil _ _ _ _, World.ownsRow_nil _ _ _ _, Rg.Apart.nil _⟩
theorem R2.app1 {B : Nat} {w : World} {v1 v2 : Value} {l1 l2 : List Int} (h : R2 B w v1 v2 l1 l2) (hl : l1.length < 1000000) {x : Int} {p c : Nat} (hc : w.cell? ⟨p, 0, none⟩ = some (.int .i64 x)) (ty : TypeId) :
    ∃ v' X, (Builtin.append_ #[33, 33] ty #[v1, .slice (some ⟨p, 0, none⟩) 1 c]).run Try.prog w = .ok v' X ∧ R2 B X v' v2 (l1 ++ [x]) l2 ∧ w.grownBy X v1.ownBlock := by
  obtain ⟨h1, h2, h3, h4⟩ := h
  obtain ⟨v', X, r1, r2, r3, r4, _⟩ := app_run (P := Try.prog) slInts ty h2 h1 p c hc rfl hl
  exact ⟨v', X, r1, ⟨Nat.le_trans h1 r3.size, by simpa using r2, h4.keep h3 r3, h4.grow h3 r4 (Nat.le_refl _)⟩, r3⟩
theorem R2.swap {B : Nat} {w : World} {v1 v2 : Value} {l1 l2 : List Int} (h : R2 B w v1 v2 l1 l2) : R2 B w v2 v1 l2 l1 := ⟨h.1, h.2.2.1, h.2.1, h.2.2.2.symm⟩
theorem R2.ints1 {B : Nat} {w : World} {v1 v2 : Value} {l1 l2 : List Int} (h : R2 B w v1 v2 l1 l2) (hl : l1.length ≤ 1000000000) : Rg.Ints w v1 l1 := Rg.Ints.of_row h.2.1 hl
theorem R2.ints2 {B : Nat} {w : World} {v1 v2 : Value} {l1 l2 : List Int} (h : R2 B w v1 v2 l1 l2) (hl : l2.length ≤ 1000000000) : Rg.Ints w v2 l2 := Rg.Ints.of_row h.2.2.1 hl
theorem prs_take {T : List En} {k : Nat} (h : k < T.length) : (prs T).take (k + 1) = (prs T).take k ++ [T[k].2.1] := by
  rw [List.take_succ_eq_append_getElem (by simpa [prs] using h)]; simp [prs]
theorem gns_take {T : List En} {k : Nat} (h : k < T.length) : (gns T).take (k + 1) = (gns T).take k ++ [(T[k].2.2.1 : Int)] := by
  rw [List.take_succ_eq_append_getElem (by simpa [gns] using h)]; simp [gns]
set_option maxRecDepth 100000 in
set_option maxHeartbeats 8000000 in
theorem Tree_any (gv : Value) (d : Int) (ll : List (List Int)) (p : Int) (w : World) (h : Rg.Rows w gv ll) :
    Calls Try.prog 18 #[.agg #[.int .i64 d, gv], .int .i64 p] w (TrPost (treeR d ll p) (ptE d ll p) w) := by
  have HCK := Lib.hid fun v W (hW : Rg.Rows W v ll) => orbitCheck_any v d ll W hW
  by_cases hz : ptE d ll p = 0
  · obtain ⟨D, gs, P, rfl, rfl, rfl, hgg, hD1, hD2, hgl, hP⟩ := ptE_ok hz
    rw [treeR_ok hz, hz]
    rw [(ptE_zero hz).1] at HCK
    have HPT := Lib.hid (ptE_zero hz).2
    have hok := tree_ok hgg.cl hP
    have htl := hok.len
    replace h : Rg.NRows w gv gs := h
    have HGR := Lib.hid fun v W (hW : Rg.NRows W v gs) => grow_any v D gs P W hW hgg hD2 hP hgl
    have hpos : 0 < (tree gs D P).length := by
      have := hok.hd
      rcases Nat.eq_zero_or_pos (tree gs D P).length with h0 | h0
      · rw [List.getElem?_eq_none (by omega)] at this; cases this
      · exact h0
    have HOK := Lib.hid hok
    obtain ⟨T, hT⟩ : ∃ T, Hid (T = tree gs D P) := ⟨_, Lib.hid rfl⟩
    rw [← hT.out] at HGR HOK htl hpos ⊢
    clear hok hT hz hgg
    obtain ⟨ga, gc, rfl, hga, hba⟩ := GA.enter (D) h
    have K := Lib.hid hba
    have G0 := Lib.hid hga
    clear h hga hba
    go_enter Try.func18, Try.ntmps18
    go_upto_region 1 with (fail)
    generalize w.alloc (.cells #[.int .i64 (((D : Nat) : Int)), .slice ga gs.length gc] 24) = w0 at *
    refine wp_region_list ?_
    refine Rg.list_run (some 12) rfl rfl (Rg.exec_load (v := .agg #[.int .i64 ((D : Nat) : Int), .slice ga gs.length gc]) _ _ rfl ⟨w.heap.size, 0, none⟩ rfl (run_loadG G0.out.c0 G0.out.c1)) ?_
    go_frame
    refine list_ask (some 13) rfl rfl _ _ (exec_fn1 26 _ _ rfl rfl (Vfcl0 _ _)) ?_
    refine (HCK.out _ _ G0.out.rows).mono ?_
    rintro e1 w1 ⟨rfl, hb⟩
    refine ⟨_, rfl, ?_⟩
    go_frame
    replace G0 := Lib.hid (G0.out.below hb)
    replace K := Lib.hid (Rg.acc K.out hb)
    clear hb
    refine Rg.list_run (some 8) rfl rfl (Rg.exec_assign (v := .int .i64 0) _ rfl rfl) ?_
    go_frame
    go_upto_region 4 with (fail)
    refine wp_region_list ?_
    refine Rg.list_run (some 17) rfl rfl (Rg.exec_load (v := .agg #[.int .i64 ((D : Nat) : Int), .slice ga gs.length gc]) _ _ rfl ⟨w.heap.size, 0, none⟩ rfl (run_loadG G0.out.c0 G0.out.c1)) ?_
    go_frame
    refine Rg.list_run (some 18) rfl rfl (Rg.exec_move (v := .int .i64 ((P : Nat) : Int)) _ rfl rfl) ?_
    go_frame
    refine list_ask (some 19) rfl rfl _ _ (exec_fn 53 _ _ _ rfl rfl rfl (Vfcl1 _ _)) ?_
    refine (point_any _ _ _ w1).mono ?_
    rintro e1 w2 ⟨rfl, hb⟩
    rw [HPT.out]
    refine ⟨_, rfl, ?_⟩
    go_frame
    replace G0 := Lib.hid (G0.out.below hb)
    replace K := Lib.hid (Rg.acc K.out hb)
    clear hb
    refine Rg.list_run (some 20) rfl rfl (exec_not _ _ true rfl rfl) ?_
    go_frame
    go_upto_region 6 with (fail)
    refine wp_region_list ?_
    refine Rg.list_run (some 21) rfl rfl (Rg.exec_load (v := .agg #[.int .i64 ((D : Nat) : Int), .slice ga gs.length gc]) _ _ rfl ⟨w.heap.size, 0, none⟩ rfl (run_loadG G0.out.c0 G0.out.c1)) ?_
    go_frame
    refine Rg.list_run (some 22) rfl rfl (Rg.exec_move (v := .int .i64 ((P : Nat) : Int)) _ rfl rfl) ?_
    go_frame
    refine list_ask (some 23) rfl rfl _ _ (exec_fn 54 _ _ _ rfl rfl rfl (Vfcl2 _ _)) ?_
    refine (HGR.out _ _ G0.out.rows).mono ?_
    rintro e1 w3 ⟨tb, pv, rfl, htb, ht, hb⟩
    have ht0 := ht
    refine ⟨_, rfl, ?_⟩
    go_frame
    replace G0 := Lib.hid (G0.out.below hb)
    replace K := Lib.hid (Rg.acc K.out hb)
    clear hb
    refine Rg.list_run (some 9) rfl rfl (Rg.exec_assign (v := .pointer (some ⟨tb, 0, none⟩)) _ rfl rfl) ?_
    go_frame
    have HT := Lib.hid ht0
    have hlt := ht0.lt
    obtain ⟨pa, pc, hpe, _, _, _, hpr⟩ := (Rg.Vals.of_row ht0.2.1 (by omega)).shape
    have hlp : (pvs T).length = T.length := by simp [pvs, pts]
    rw [hlp] at hpe
    obtain ⟨pb, po, hpe2, hpb, hpcell⟩ := hpr (by omega)
    subst hpe
    subst hpe2
    have C0 := Lib.hid (show Cel w3 tb 0 (.slice (some ⟨pb, po, none⟩) T.length pc) from ⟨(ht0.1.cell (by decide)).trans rfl, hlt⟩)
    have HPB := Lib.hid hpb
    have HPI := Lib.hid (show Rg.Ints w3 (.slice (some ⟨pb, po, none⟩) T.length pc) (Ma.ofN (pts T)) from Rg.Ints.of_row (n := T.length) (by have := ht0.2.1; rwa [pvs_ofN] at this) (by omega))
    have HPC := Lib.hid (show ∀ i (hi : i < T.length), w3.cell? ⟨pb, po + i, none⟩ = some (.int .i64 ((T[i].1 : Nat) : Int)) from fun i hi => by
      rw [hpcell i (by omega)]; simp [pvs, pts])
    have hTN : (T.length : Int) ≤ 64 := by omega
    clear ht ht0 hlt hpr hlp hpb hpcell HGR HCK HPT htb
    go_upto_region 7 with (fail)
    refine wp_region_list ?_
    refine Rg.list_run (some 24) rfl rfl (Rg.exec_move (v := .pointer (some ⟨tb, 0, none⟩)) _ rfl rfl) ?_
    go_frame
    refine Rg.list_run (some 25) rfl rfl (exec_nil _ rfl rfl) ?_
    go_frame
    refine Rg.list_run (some 26) rfl rfl (exec_field _ rfl rfl (fT0 _ _)) ?_
    go_frame
    refine Rg.list_run (some 27) rfl rfl (Rg.exec_load (v := .slice (some ⟨pb, po, none⟩) T.length pc) _ _ rfl ⟨tb, 0, none⟩ rfl (Rg.run_loadSl _ _ Try.underlying33 C0.out.1)) ?_
    go_frame
    refine Rg.list_run (some 28) rfl rfl (exec_len _ _ _ rfl Try.underlying33 _ _ _ rfl) ?_
    go_frame
    refine Rg.list_run (some 29) rfl rfl (Rg.exec_move (v := .int .i64 ((0 : Nat) : Int)) _ rfl rfl) ?_
    go_frame
    have hst := Lib.hid (R2.nil (Nat.le_refl w3.heap.size))
    go_wp2
    go_loopw [5, 6, 29] (fun v5 v6 i wr => ∃ k : Nat, k ≤ T.length ∧ i = .int .i64 k ∧ Hid (R2 w3.heap.size wr v5 v6 ((prs T).take k) ((gns T).take k)) ∧ Hid (Below w3.heap.size w3 wr)) (fun _ _ i _ => T.length - (intOf i).toNat)
    case atStart => exact ⟨0, by omega, rfl, hst, Lib.hid (Below.refl _ _)⟩
    case round =>
      clear hst
      have K0 := K
      clear K
      obtain ⟨k, hk, rfl, HR, K⟩ := hrel
      by_cases hkT : k < T.length
      · obtain ⟨x, hx⟩ : ∃ x : Nat, Hid (x = T[k].1) := ⟨_, Lib.hid rfl⟩
        obtain ⟨x1, hx1⟩ : ∃ x1 : Int, Hid (x1 = T[k].2.1) := ⟨_, Lib.hid rfl⟩
        obtain ⟨x2, hx2⟩ : ∃ x2 : Int, Hid (x2 = (T[k].2.2.1 : Int)) := ⟨_, Lib.hid rfl⟩
        have hxD : x < 64 := by have := HOK.out.lt _ (List.mem_map.2 ⟨_, List.getElem_mem hkT, rfl⟩); rw [hx.out]; omega
        have C1 := Lib.hid (show Cel w3 pb (po + k) (.int .i64 ((x : Nat) : Int)) from ⟨by rw [hx.out]; exact HPC.out k hkT, HPB.out⟩)
        have C2 := Lib.hid (show Cel w3 tb (1 + x) (.int .i64 x1) from ⟨by rw [HT.out.parCell hxD, hx.out, parI_at HOK.out.nd hkT, hx1.out], HT.out.lt⟩)
        have C3 := Lib.hid (show Cel w3 tb (65 + x) (.int .i64 x2) from ⟨by rw [HT.out.frmCell hxD, hx.out, frmI_at HOK.out.nd hkT, hx2.out], HT.out.lt⟩)
        have HP1 := Lib.hid (show (prs T).take (k + 1) = (prs T).take k ++ [x1] by rw [hx1.out]; exact prs_take hkT)
        have HP2 := Lib.hid (show (gns T).take (k + 1) = (gns T).take k ++ [x2] by rw [hx2.out]; exact gns_take hkT)
        have hkN : (k : Int) < (T.length : Int) := by omega
        have HL1 := Lib.hid (show ((prs T).take k).length < 1000000 by rw [List.length_take]; omega)
        have HL2 := Lib.hid (show ((gns T).take k).length < 1000000 by rw [List.length_take]; omega)
        have HKT := Lib.hid hkT
        go_upto_region 9 with (fail)
        refine wp_region_list ?_
        refine Rg.list_run (some 31) rfl rfl (exec_indexS slInts _ _ rfl pb (po) (T.length) pc (k) rfl rfl HKT.out) ?_
        go_frame
        refine Rg.list_run (some 32) rfl rfl (Rg.exec_load (v := .int .i64 ((x : Nat) : Int)) _ _ rfl ⟨pb, po + k, none⟩ rfl (run_loadInt ((Below.cell (p := ⟨pb, po + k, none⟩) K.out C1.out.2).trans C1.out.1))) ?_
        go_frame
        refine Rg.list_run (some 11) rfl rfl (Rg.exec_assign (v := .int .i64 ((x : Nat) : Int)) _ rfl rfl) ?_
        go_frame
        go_upto_region 10 with (fail)
        have hV0 : Below wr.heap.size wr wr.drew := (Below.refl _ _).drew
        replace HR := Lib.hid (HR.out.below hV0)
        replace K := Lib.hid (Rg.acc K.out hV0)
        clear hV0
        refine Rg.Any.begin (S := Rg.Both 19 (fun _ => True) (fun W => Below w3.heap.size w3 W)) mix ?_
        generalize wr.drew = w21 at *
        have hS : ∀ (l : Array Bool) W, Below w3.heap.size w3 W → Rg.Both 19 (fun _ => True) (fun W => Below w3.heap.size w3 W) l W := fun l W h => ⟨.inr trivial, h⟩
        have hI := K.out
        refine Rg.Any.takeG (i := 0) (t := 19) (v := u5) (some 33) rfl rfl (by kernel_rfl) (by kernel_rfl) (by kernel_rfl) (fun _ _ _ h => h) rfl (.inl ⟨rfl, fun w _ => Rg.exec_move (v := u5) _ rfl rfl⟩) (hS _ _ hI) ?_
        go_frame
        refine Rg.Any.takeG (i := 1) (t := 19) (v := .pointer (some ⟨tb, 0, none⟩)) (some 34) rfl rfl (by kernel_rfl) (by kernel_rfl) (by kernel_rfl) (fun _ _ _ h => h) rfl (.inl ⟨rfl, fun w _ => Rg.exec_move (v := .pointer (some ⟨tb, 0, none⟩)) _ rfl rfl⟩) (hS _ _ hI) ?_
        go_frame
        refine Rg.Any.takeG (i := 2) (t := 19) (v := .int .i64 ((x : Nat) : Int)) (some 35) rfl rfl (by kernel_rfl) (by kernel_rfl) (by kernel_rfl) (fun _ _ _ h => h) rfl (.inl ⟨rfl, fun w _ => Rg.exec_move (v := .int .i64 ((x : Nat) : Int)) _ rfl rfl⟩) (hS _ _ hI) ?_
        go_frame
        refine Rg.Any.takeG (i := 3) (t := 19) (v := .pointer (some ⟨tb, 0, none⟩)) (some 36) rfl rfl (by kernel_rfl) (by kernel_rfl) (by kernel_rfl) (fun _ _ _ h => h) rfl (.inl ⟨rfl, fun w _ => exec_nil _ rfl rfl⟩) (hS _ _ hI) ?_
        go_frame
        refine Rg.Any.takeG (i := 4) (t := 19) (v := .pointer (some ⟨tb, 1, none⟩)) (some 37) rfl rfl (by kernel_rfl) (by kernel_rfl) (by kernel_rfl) (fun _ _ _ h => h) rfl (.inl ⟨rfl, fun w _ => exec_field _ rfl rfl (fT1 _ _)⟩) (hS _ _ hI) ?_
        go_frame
        refine Rg.Any.takeG (i := 5) (t := 19) (v := .pointer (some ⟨tb, 1 + x, none⟩)) (some 38) rfl rfl (by kernel_rfl) (by kernel_rfl) (by kernel_rfl) (fun _ _ _ h => h) rfl (.inl ⟨rfl, fun w _ => exec_indexArr _ _ rfl Try.underlying84 szI tb 1 (x) rfl rfl (by omega)⟩) (hS _ _ hI) ?_
        go_frame
        refine Rg.Any.takeG (i := 6) (t := 19) (v := .int .i64 x1) (some 39) rfl rfl (by kernel_rfl) (by kernel_rfl) (by kernel_rfl) (fun _ _ _ h => h) rfl (Rg.yields_cell _ _ rfl rfl ⟨tb, 1 + x, none⟩ rfl (fun W hW => run_loadInt ((Below.cell (p := ⟨tb, 1 + x, none⟩) hW C2.out.2).trans C2.out.1))) (hS _ _ hI) ?_
        go_frame
        refine Rg.Any.takeG (i := 9) (t := 19) (v := u6) (some 42) rfl rfl (by kernel_rfl) (by kernel_rfl) (by kernel_rfl) (fun _ _ _ h => h) rfl (.inl ⟨rfl, fun w _ => Rg.exec_move (v := u6) _ rfl rfl⟩) (hS _ _ hI) ?_
        go_frame
        refine Rg.Any.takeG (i := 10) (t := 19) (v := .pointer (some ⟨tb, 0, none⟩)) (some 43) rfl rfl (by kernel_rfl) (by kernel_rfl) (by kernel_rfl) (fun _ _ _ h => h) rfl (.inl ⟨rfl, fun w _ => Rg.exec_move (v := .pointer (some ⟨tb, 0, none⟩)) _ rfl rfl⟩) (hS _ _ hI) ?_
        go_frame
        refine Rg.Any.takeG (i := 11) (t := 19) (v := .int .i64 ((x : Nat) : Int)) (some 44) rfl rfl (by kernel_rfl) (by kernel_rfl) (by kernel_rfl) (fun _ _ _ h => h) rfl (.inl ⟨rfl, fun w _ => Rg.exec_move (v := .int .i64 ((x : Nat) : Int)) _ rfl rfl⟩) (hS _ _ hI) ?_
        go_frame
        refine Rg.Any.takeG (i := 12) (t := 19) (v := .pointer (some ⟨tb, 0, none⟩)) (some 45) rfl rfl (by kernel_rfl) (by kernel_rfl) (by kernel_rfl) (fun _ _ _ h => h) rfl (.inl ⟨rfl, fun w _ => exec_nil _ rfl rfl⟩) (hS _ _ hI) ?_
        go_frame
        refine Rg.Any.takeG (i := 13) (t := 19) (v := .pointer (some ⟨tb, 65, none⟩)) (some 46) rfl rfl (by kernel_rfl) (by kernel_rfl) (by kernel_rfl) (fun _ _ _ h => h) rfl (.inl ⟨rfl, fun w _ => exec_field _ rfl rfl (fT2 _ _)⟩) (hS _ _ hI) ?_
        go_frame
        refine Rg.Any.takeG (i := 14) (t := 19) (v := .pointer (some ⟨tb, 65 + x, none⟩)) (some 47) rfl rfl (by kernel_rfl) (by kernel_rfl) (by kernel_rfl) (fun _ _ _ h => h) rfl (.inl ⟨rfl, fun w _ => exec_indexArr _ _ rfl Try.underlying84 szI tb 65 (x) rfl rfl (by omega)⟩) (hS _ _ hI) ?_
        go_frame
        refine Rg.Any.takeG (i := 15) (t := 19) (v := .int .i64 x2) (some 48) rfl rfl (by kernel_rfl) (by kernel_rfl) (by kernel_rfl) (fun _ _ _ h => h) rfl (Rg.yields_cell _ _ rfl rfl ⟨tb, 65 + x, none⟩ rfl (fun W hW => run_loadInt ((Below.cell (p := ⟨tb, 65 + x, none⟩) hW C3.out.2).trans C3.out.1))) (hS _ _ hI) ?_
        go_frame
        refine Rg.Any.c2f1 (i := 7) (k := 8) (j := 16) (di := 40) (dk := 41) (dj := 49) (I := fun W => Below w3.heap.size w3 W ∧ w21.heap.size ≤ W.heap.size) (R0 := fun W => R2 w3.heap.size W u5 u6 ((prs T).take k) ((gns T).take k)) (Ri := fun u W => Rg.BlkF w21.heap.size [.int .i64 x1] u W) (Rk := fun x W => R2 w3.heap.size W x u6 ((prs T).take k ++ [x1]) ((gns T).take k)) (Rj := fun v W => Rg.BlkF w21.heap.size [.int .i64 x2] v W) (fun l W h => hS l W h.1)
          (by decide) (by decide) (by decide) (by decide) (by kernel_rfl) (by kernel_rfl) (by kernel_rfl) (by kernel_rfl) (by kernel_rfl)
          (fun _ _ hb h => h.below hb) (fun _ _ _ hb h => h.below hb) (fun _ _ _ hb h => h.below hb) (fun _ _ _ hb h => h.below hb) ?_ ?_ ?_ ⟨hI, Nat.le_refl _⟩ (HR.out) ?_
        · intro b hb W hW
          exact Rg.doesRun rfl rfl (by rcases hb with rfl | ⟨u, rfl⟩ <;> rfl) (Rg.exec_buildSlice _ _ _ rfl (.int .i64 x1) (by rcases hb with rfl | ⟨u, rfl⟩ <;> rfl) (run_build1i W x1)) ⟨⟨Rg.acc hW.1 ((Below.refl _ _).alloc (Nat.le_refl _) _), by simp; have := hW.2; omega⟩, Rg.BlkF.new W [.int .i64 x1] 3 hW.2, (Below.refl _ _).alloc (Nat.le_refl _) _⟩
        · intro b hb W hW
          exact Rg.doesRun rfl rfl (by rcases hb with rfl | ⟨u, rfl⟩ | ⟨u, v, rfl⟩ <;> rfl) (Rg.exec_buildSlice _ _ _ rfl (.int .i64 x2) (by rcases hb with rfl | ⟨u, rfl⟩ | ⟨u, v, rfl⟩ <;> rfl) (run_build1i W x2)) ⟨⟨Rg.acc hW.1 ((Below.refl _ _).alloc (Nat.le_refl _) _), by simp; have := hW.2; omega⟩, Rg.BlkF.new W [.int .i64 x2] 3 hW.2, (Below.refl _ _).alloc (Nat.le_refl _) _⟩
        · intro u b hb W hW h0 hu
          have hlt5 := fun j e => (HR.out.lt1 j e).2
          have hlo5 := fun j e => (HR.out.lt1 j e).1
          obtain ⟨pu, rfl, hp0, hp1, hp2⟩ := hu
          obtain ⟨v2, X, r1, r2, r3⟩ := h0.app1 HL1.out (hp2 0 (by simp)) 33
          exact Rg.doesRun rfl rfl (by rcases hb with rfl | ⟨v, rfl⟩ <;> rfl) (Rg.exec_append _ _ _ rfl (by rcases hb with rfl | ⟨v, rfl⟩ <;> rfl) (by rcases hb with rfl | ⟨v, rfl⟩ <;> rfl) r1) ⟨⟨hW.1.grown r3 hW.1.size hlo5, Nat.le_trans hW.2 r3.size⟩, r2, fun v hv => hv.grown r3 hlt5⟩
        rintro w22 fu fx fv hb hk hj
        have hI2_f := hb.1
        have hVsz := hb.2
        clear hb hI
        clear HR
        go_frame
        have FK := Lib.hid hk
        have FJ := Lib.hid hj
        obtain ⟨pj, hje, hj0, hj1, hj2⟩ := FJ.out
        subst hje
        obtain ⟨v50, X50, r1, r2, r3⟩ := FK.out.swap.app1 HL2.out (hj2 0 (by simp)) 33
        have hI3_g := hI2_f.grown r3 hI2_f.size (fun j hj => (FK.out.lt2 j hj).1)
        refine Rg.Any.one (i := 17) (by kernel_rfl) (Rg.Any.run (some 50) rfl rfl rfl (Rg.exec_append _ _ _ rfl rfl rfl r1) (hS _ _ hI3_g) ?_)
        go_frame
        clear hI2_f
        clear FK
        clear FJ
        have FX := Lib.hid r2.swap
        refine Rg.Any.takeG (i := 18) (t := 19) (v := fx) (some 5) rfl rfl (by kernel_rfl) (by kernel_rfl) (by kernel_rfl) (fun _ _ _ h => h) rfl (.inl ⟨rfl, fun w _ => Rg.exec_assign (v := fx) _ rfl rfl⟩) (hS _ _ hI3_g) ?_
        go_frame
        refine Rg.Any.one (i := 19) (by kernel_rfl) (Rg.Any.run (some 6) rfl rfl rfl (Rg.exec_assign (v := v50) _ rfl rfl) (hS _ _ hI3_g) ?_)
        go_frame
        refine Rg.Any.done (by kernel_rfl) ?_ _
        replace K := Lib.hid hI3_g
        clear hS hI3_g
        have HZ := Lib.hid (show R2 w3.heap.size X50 fx v50 ((prs T).take (k + 1)) ((gns T).take (k + 1)) by rw [HP1.out, HP2.out]; exact FX.out)
        clear FX
        go_wp2
        go_roundw
        case rel => exact ⟨k + 1, by omega, by go_num, HZ, K⟩
        case measure => simp [intOf]; omega
      · obtain rfl : k = T.length := by omega
        have HR1 := Lib.hid (HR.out.ints1 (by rw [List.length_take]; omega))
        have HR2 := Lib.hid (HR.out.ints2 (by rw [List.length_take]; omega))
        have HPI2 := Lib.hid (Rg.Ints.below HPI.out K.out)
        have e1 : (prs T).take T.length = prs T := List.take_of_length_le (by simp [prs])
        have e2 : (gns T).take T.length = gns T := List.take_of_length_le (by simp [gns])
        rw [e1] at HR1
        rw [e2] at HR2
        clear HR e1 e2
        have hc0 := (K.out.cell (p := ⟨tb, 0, none⟩) C0.out.2).trans C0.out.1
        go_wp2
        exact bodyPost_ret (results4 rfl _ rfl rfl rfl rfl _) rfl ⟨_, _, _, rfl, HPI2.out, HR1.out, HR2.out, Rg.acc K0.out K.out⟩
  · have hr : treeR d ll p = ([], [], []) := if_neg hz
    rw [hr]
    by_cases hg : Ma.gchk d ll = 0
    · have hp : isPt d p = false := by
        cases hq : isPt d p with
        | true => exact absurd (by unfold ptE; rw [if_pos hg, if_pos hq]) hz
        | false => rfl
      have he : ptE d ll p = 2 := by unfold ptE; rw [if_pos hg, if_neg (by rw [hp]; simp)]
      rw [he]
      have HP := Lib.hid hp
      rw [hg] at HCK
      clear he hz hp hg hr
      obtain ⟨ga, gc, rfl, hga, hba⟩ := GI.enter (d) h
      have K := Lib.hid hba
      have G0 := Lib.hid hga
      clear h hga hba
      go_enter Try.func18, Try.ntmps18
      go_upto_region 1 with (fail)
      generalize w.alloc (.cells #[.int .i64 (d), .slice ga ll.length gc] 24) = w0 at *
      refine wp_region_list ?_
      refine Rg.list_run (some 12) rfl rfl (Rg.exec_load (v := .agg #[.int .i64 d, .slice ga ll.length gc]) _ _ rfl ⟨w.heap.size, 0, none⟩ rfl (run_loadG G0.out.c0 G0.out.c1)) ?_
      go_frame
      refine list_ask (some 13) rfl rfl _ _ (exec_fn1 26 _ _ rfl rfl (Vfcl0 _ _)) ?_
      refine (HCK.out _ _ G0.out.rows).mono ?_
      rintro e1 w1 ⟨rfl, hb⟩
      refine ⟨_, rfl, ?_⟩
      go_frame
      replace G0 := Lib.hid (G0.out.below hb)
      replace K := Lib.hid (Rg.acc K.out hb)
      clear hb
      refine Rg.list_run (some 8) rfl rfl (Rg.exec_assign (v := .int .i64 0) _ rfl rfl) ?_
      go_frame
      go_upto_region 4 with (fail)
      refine wp_region_list ?_
      refine Rg.list_run (some 17) rfl rfl (Rg.exec_load (v := .agg #[.int .i64 d, .slice ga ll.length gc]) _ _ rfl ⟨w.heap.size, 0, none⟩ rfl (run_loadG G0.out.c0 G0.out.c1)) ?_
      go_frame
      refine Rg.list_run (some 18) rfl rfl (Rg.exec_move (v := .int .i64 p) _ rfl rfl) ?_
      go_frame
      refine list_ask (some 19) rfl rfl _ _ (exec_fn 53 _ _ _ rfl rfl rfl (Vfcl1 _ _)) ?_
      refine (point_any _ _ _ w1).mono ?_
      rintro e1 w2 ⟨rfl, hb⟩
      rw [HP.out]
      refine ⟨_, rfl, ?_⟩
      go_frame
      replace G0 := Lib.hid (G0.out.below hb)
      replace K := Lib.hid (Rg.acc K.out hb)
      clear hb
      refine Rg.list_run (some 20) rfl rfl (exec_not _ _ false rfl rfl) ?_
      go_frame
      go_wp2
      exact bodyPost_ret (results4 rfl _ rfl rfl rfl rfl _) rfl ⟨_, _, _, rfl, Rg.Ints.nil _ _ _ (Nat.zero_le _), Rg.Ints.nil _ _ _ (Nat.zero_le _), Rg.Ints.nil _ _ _ (Nat.zero_le _), K.out⟩
    · have he : ptE d ll p = Ma.gchk d ll := if_neg hg
      rw [he]
      obtain ⟨e0, he0⟩ : ∃ e0, Hid (e0 = Ma.gchk d ll) := ⟨_, Lib.hid rfl⟩
      rw [← he0.out] at HCK hg ⊢
      clear he hz hr
      obtain ⟨ga, gc, rfl, hga, hba⟩ := GI.enter (d) h
      have K := Lib.hid hba
      have G0 := Lib.hid hga
      clear h hga hba
      go_enter Try.func18, Try.ntmps18
      go_upto_region 1 with (fail)
      generalize w.alloc (.cells #[.int .i64 (d), .slice ga ll.length gc] 24) = w0 at *
      refine wp_region_list ?_
      refine Rg.list_run (some 12) rfl rfl (Rg.exec_load (v := .agg #[.int .i64 d, .slice ga ll.length gc]) _ _ rfl ⟨w.heap.size, 0, none⟩ rfl (run_loadG G0.out.c0 G0.out.c1)) ?_
      go_frame
      refine list_ask (some 13) rfl rfl _ _ (exec_fn1 26 _ _ rfl rfl (Vfcl0 _ _)) ?_
      refine (HCK.out _ _ G0.out.rows).mono ?_
      rintro e1 w1 ⟨rfl, hb⟩
      refine ⟨_, rfl, ?_⟩
      go_frame
      replace G0 := Lib.hid (G0.out.below hb)
      replace K := Lib.hid (Rg.acc K.out hb)
      clear hb
      refine Rg.list_run (some 8) rfl rfl (Rg.exec_assign (v := .int .i64 e0) _ rfl rfl) ?_
      go_frame
      go_wp2
      exact bodyPost_ret (results4 rfl _ rfl rfl rfl rfl _) rfl ⟨_, _, _, rfl, Rg.Ints.nil _ _ _ (Nat.zero_le _), Rg.Ints.nil _ _ _ (Nat.zero_le _), Rg.Ints.nil _ _ _ (Nat.zero_le _), K.out⟩
end Go.Proofs.Ytojbijkljnohoaa

/-! Lists of orbits: what is held while they are made. -/
namespace Go.Proofs.Ytojbijkljnohoaa
open Go.RowKit
open Go.Proofs
open Go.Proofs.Ob
attribute [local irreducible] Go.Calls

theorem vals_grown {w w' : World} {v : Value} {us : List Value} {k : Option Nat} (h : Rg.Vals w v us) (ho : Rg.Off v k) (hg : w.grownBy w' k) : Rg.Vals w' v us := by
  obtain ⟨a, cap, h1, h2, h3, h4, h5⟩ := h
  refine ⟨a, cap, h1, h2, h3, h4, fun h0 => ?_⟩
  obtain ⟨b, o, e1, e2, e3⟩ := h5 h0
  subst e1
  have hne := ho _ _ _ h1 h0
  exact ⟨b, o, rfl, Nat.lt_of_lt_of_le e2 hg.size, fun i hi => hg.cell (e3 i hi) hne⟩
theorem ints_grown {w w' : World} {v : Value} {l : List Int} {k : Option Nat} (h : Rg.Ints w v l) (ho : Rg.Off v k) (hg : w.grownBy w' k) : Rg.Ints w' v l := vals_grown h ho hg
theorem ints_lt {w : World} {v : Value} {l : List Int} (h : Rg.Ints w v l) {a : Addr} {n c : Nat} (e : v = .slice (some a) n c) (hn : 0 < n) : a.block < w.heap.size := by
  obtain ⟨a', cap, h1, _, _, _, h5⟩ := h.shape
  rw [e] at h1
  simp at h1
  obtain ⟨rfl, rfl, rfl⟩ := h1
  obtain ⟨b, o, e1, e2, _⟩ := h5 hn
  simp at e1; subst e1; exact e2
theorem off_next {w : World} {v : Value} {l : List Int} {k k' : Option Nat} {g : Nat} (ho : Rg.Off v k) (h : Rg.Ints w v l) (hk : k' = k ∨ k' = some g) (hg : w.heap.size ≤ g) : Rg.Off v k' := by
  rcases hk with rfl | rfl
  · exact ho
  · intro a n c e hn e2
    have := ints_lt h e hn
    simp at e2; omega
theorem grown_set (w : World) (b o : Nat) (x : Value) : w.grownBy (w.setCell ⟨b, o, none⟩ x) (some b) :=
  ⟨rfl, rfl, rfl, by simp, fun k _ hk => Below.heap_setCell _ _ _ k (fun e => hk (by rw [e]))⟩
/-- an own row of rows of integers, a block of marks, and a row to be put next -/
structure Obst (t e : TypeId) (B X : Nat) (bt : TypeId) (n : Nat) (w : World) (v : Value) (O : List (List Int)) (lv : Value) (l : List Int) (F : Nat → Bool) : Prop where
  size : B ≤ w.heap.size
  low : B ≤ X
  marks : w.rowIs X bt n (fun j => .bool (F j))
  own : ∃ us, w.ownsRow B e 1 v O.length us ∧ us.length = O.length ∧ (∀ i (h : i < us.length) (h2 : i < O.length), Rg.Ints w us[i] O[i]) ∧ Rg.Offs us v.ownBlock ∧ Rg.Offs us (some X)
  apart : v.ownBlock ≠ some X
  row : Rg.Ints w lv l
  off1 : Rg.Off lv (some X)
  off2 : Rg.Off lv v.ownBlock
variable {t e bt : TypeId} {B X n : Nat} {w w' : World} {v lv : Value} {O : List (List Int)} {l : List Int} {F : Nat → Bool}
theorem Obst.lt (h : Obst t e B X bt n w v O lv l F) : X < w.heap.size := by
  obtain ⟨c, h1, _⟩ := h.marks
  exact (Array.getElem?_eq_some_iff.1 h1).1
theorem Obst.below (h : Obst t e B X bt n w v O lv l F) (hb : Below w.heap.size w w') : Obst t e B X bt n w' v O lv l F := by
  obtain ⟨c, m1, m2, m3⟩ := h.marks
  obtain ⟨us, o1, o2, o3, o4, o5⟩ := h.own
  exact ⟨Nat.le_trans h.size hb.size, h.low, ⟨c, by rw [hb.block X h.lt]; exact m1, m2, m3⟩, ⟨us, Rg.row_below o1 hb, o2, fun i a b => (o3 i a b).below hb, o4, o5⟩, h.apart, h.row.below hb, h.off1, h.off2⟩
theorem Obst.start (hB : B ≤ X) (hs : B ≤ w.heap.size) (hm : w.rowIs X bt n (fun _ => .bool false)) : Obst t e B X bt n w (.slice none 0 0) [] (.slice none 0 0) [] (fun _ => false) :=
  ⟨hs, hB, hm, ⟨[], World.ownsRow_nil _ _ _ _, rfl, fun i h => by simp at h, Rg.Offs.nil _, Rg.Offs.nil _⟩, by simp [Value.ownBlock], Rg.Ints.nil _ _ _ (Nat.zero_le _), fun a n c e => by simp at e, fun a n c e => by simp at e⟩
theorem Obst.reset (h : Obst t e B X bt n w v O lv l F) : Obst t e B X bt n w v O (.slice none 0 0) [] F :=
  ⟨h.size, h.low, h.marks, h.own, h.apart, Rg.Ints.nil _ _ _ (Nat.zero_le _), fun a n c e => by simp at e, fun a n c e => by simp at e⟩
theorem Obst.get (h : Obst t e B X bt n w v O lv l F) (hb : Below w.heap.size w w') {u : Value} {m : List Int} (hu : Rg.Ints w' u m) (hf : Rg.Fresh w.heap.size u) : Obst t e B X bt n w' v O u m F := by
  have h' := h.below hb
  have hX := h.lt
  obtain ⟨us, o1, _⟩ := h.own
  exact ⟨h'.size, h'.low, h'.marks, h'.own, h'.apart, hu, Rg.Off.fresh hf (fun j e => by simp at e; omega), Rg.Off.fresh hf (fun j e => (o1.lt j e).2)⟩
theorem Obst.congr {G : Nat → Bool} (h : Obst t e B X bt n w v O lv l F) (hG : ∀ j, j < n → F j = G j) : Obst t e B X bt n w v O lv l G := by
  obtain ⟨c, m1, m2, m3⟩ := h.marks
  exact ⟨h.size, h.low, ⟨c, m1, m2, fun i hi => by show c[i]? = some (Value.bool (G i)); rw [← hG i hi]; exact m3 i hi⟩, h.own, h.apart, h.row, h.off1, h.off2⟩
theorem Obst.mark (h : Obst t e B X bt n w v O lv l F) (x : Nat) : Obst t e B X bt n (w.setCell ⟨X, x, none⟩ (.bool true)) v O lv l (fun j => if j = x then true else F j) := by
  have hg := grown_set w X x (.bool true)
  obtain ⟨us, o1, o2, o3, o4, o5⟩ := h.own
  refine ⟨Nat.le_trans h.size hg.size, h.low, ?_, ⟨us, Rg.row_keep o1 hg (.inr h.apart), o2, fun i a b => ints_grown (o3 i a b) (o5 _ (List.getElem_mem a)) hg, o4, o5⟩, h.apart, ints_grown h.row h.off1 hg, h.off1, h.off2⟩
  have := h.marks.set x (.bool true)
  obtain ⟨c, m1, m2, m3⟩ := this
  exact ⟨c, m1, m2, fun i hi => by rw [m3 i hi]; show some (if i = x then _ else _) = some (Value.bool (if i = x then _ else _)); split <;> rfl⟩
theorem Obst.cell (h : Obst t e B X bt n w v O lv l F) {x : Nat} (hx : x < n) : w.cell? ⟨X, x, none⟩ = some (.bool (F x)) := h.marks.cell hx
theorem Obst.rows (h : Obst t e B X bt n w v O lv l F) (hl : O.length ≤ 1000000000) : Rg.Rows w v O := by
  obtain ⟨us, o1, o2, o3, o4, o5⟩ := h.own
  exact ⟨us, Rg.Vals.of_row o1 hl, o2, o3⟩
theorem Obst.lt2 (h : Obst t e B X bt n w v O lv l F) : ∀ j, v.ownBlock = some j → B ≤ j ∧ j < w.heap.size := by
  obtain ⟨us, o1, _⟩ := h.own
  exact fun j e => o1.lt j e
theorem Obst.push {z : Value} {bytes : Nat} (T : Rg.SlT Try.prog t e z bytes) (h : Obst t e B X bt n w v O lv l F) (hO : O.length < 1000000) (ty : TypeId) :
    ∃ v' W, (Builtin.append_ #[t, t] ty #[v, .slice (some ⟨w.heap.size, 0, none⟩) 1 1]).run Try.prog (w.alloc (.cells #[lv] e)) = .ok v' W ∧ Obst t e B X bt n W v' (O ++ [l]) lv l F ∧ (∀ {B0 : Nat} {W0 : World}, B0 ≤ B → Below B0 W0 w → Below B0 W0 W) := by
  obtain ⟨us, o1, o2, o3, o4, o5⟩ := h.own
  have hba : Below w.heap.size w (w.alloc (.cells #[lv] e)) := (Below.refl _ _).alloc (Nat.le_refl _) _
  have h' := h.below hba
  obtain ⟨a, c, rfl, _⟩ := h.row.shape
  have hsz : (w.alloc (.cells #[.slice a l.length c] e)).heap.size = w.heap.size + 1 := by simp
  obtain ⟨v', W, r1, r2, r3, r4, _⟩ := app_run (P := Try.prog) T ty (Rg.row_below o1 hba) h'.size w.heap.size 1 (u := .slice a l.length c) (by rw [Rg.cellNew]; rfl) rfl hO
  obtain ⟨c', m1, m2, m3⟩ := h'.marks
  have hne : v'.ownBlock ≠ some X := by
    rcases r4 with r4 | r4
    · rw [r4]; exact h.apart
    · rw [r4]; intro e; have := h.lt; simp at e; omega
  have hO2 : ∀ u ∈ us, ∃ m, Rg.Ints (w.alloc (.cells #[.slice a l.length c] e)) u m := fun u hu => by
    obtain ⟨i, hi, rfl⟩ := List.getElem_of_mem hu
    exact ⟨_, (o3 i hi (by omega)).below hba⟩
  have hrow' := ints_grown h'.row h.off2 r3
  refine ⟨v', W, r1, ⟨Nat.le_trans h'.size r3.size, h.low, ⟨c', by rw [r3.block X h'.lt (fun e => h.apart e.symm)]; exact m1, m2, m3⟩, ⟨us ++ [.slice a l.length c], by rw [List.length_append]; exact r2, by simp [o2], fun i p q => ?_, ?_, ?_⟩, hne, hrow', h.off1, off_next h.off2 h'.row r4 (Nat.le_refl _)⟩, fun {B0 W0} hB hb => ?_⟩
  · by_cases hi : i < us.length
    · rw [List.getElem_append_left hi, List.getElem_append_left (by omega)]
      exact ints_grown ((o3 i hi (by omega)).below hba) (o4 _ (List.getElem_mem hi)) r3
    · have hi2 : i = us.length := by simp at p; omega
      subst hi2
      have e1 : (us ++ [.slice a l.length c])[us.length] = .slice a l.length c := by rw [List.getElem_append_right (Nat.le_refl _)]; simp
      have e2 : (O ++ [l])[us.length]'q = l := by rw [List.getElem_append_right (by omega)]; simp [o2]
      rw [e1, e2]; exact hrow'
  · intro u hu
    rcases List.mem_append.1 hu with hu | hu
    · obtain ⟨m, hm⟩ := hO2 u hu
      exact off_next (o4 u hu) hm r4 (Nat.le_refl _)
    · obtain rfl : u = .slice a l.length c := by simpa using hu
      exact off_next h.off2 h'.row r4 (Nat.le_refl _)
  · intro u hu
    rcases List.mem_append.1 hu with hu | hu
    · exact o5 u hu
    · obtain rfl : u = .slice a l.length c := by simpa using hu
      exact h.off1
  · exact (hb.alloc (Nat.le_trans hB h.size) _).grown r3 (by rw [hsz]; have := h.size; omega) (fun j hj => Nat.le_trans hB (o1.lt j hj).1)
/-- seen: in a list of lists -/
def sn (O : List (List Int)) (x : Nat) : Bool := decide (∃ l ∈ O, (x : Int) ∈ l)
theorem sn_nil (x : Nat) : sn [] x = false := by simp [sn]
theorem sn_snoc (O : List (List Int)) (l : List Int) (x : Nat) : sn (O ++ [l]) x = (sn O x || decide ((x : Int) ∈ l)) := by
  unfold sn
  rw [Bool.eq_iff_iff, decide_eq_true_iff, Bool.or_eq_true, decide_eq_true_iff, decide_eq_true_iff]
  constructor
  · rintro ⟨m, hm, hx⟩
    rcases List.mem_append.1 hm with hm | hm
    · exact .inl ⟨m, hm, hx⟩
    · exact .inr (by rw [List.mem_singleton] at hm; rwa [← hm])
  · rintro (⟨m, hm, hx⟩ | hx)
    · exact ⟨m, List.mem_append_left _ hm, hx⟩
    · exact ⟨l, by simp, hx⟩
/-- the orbits of the points below k -/
def obsI (gs : List (List Nat)) (D : Nat) : Nat → List (List Int)
  | 0 => []
  | k + 1 => if sn (obsI gs D k) k = true then obsI gs D k else obsI gs D k ++ [asc (Ma.ofN (pts (tree gs D k)))]
theorem obsI_in {gs : List (List Nat)} {D k : Nat} (h : sn (obsI gs D k) k = true) : obsI gs D (k + 1) = obsI gs D k := if_pos h
theorem obsI_out {gs : List (List Nat)} {D k : Nat} (h : sn (obsI gs D k) k = false) : obsI gs D (k + 1) = obsI gs D k ++ [asc (Ma.ofN (pts (tree gs D k)))] := if_neg (by rw [h]; simp)
theorem obsI_len (gs : List (List Nat)) (D : Nat) : ∀ k, (obsI gs D k).length ≤ k
  | 0 => Nat.le_refl _
  | k + 1 => by
    have := obsI_len gs D k
    cases h : sn (obsI gs D k) k with
    | true => rw [obsI_in h]; omega
    | false => rw [obsI_out h, List.length_append, List.length_singleton]; omega
/-- what Orbits returns -/
def orbsS (d : Int) (ll : List (List Int)) : List (List Int) × Int := if Ma.gchk d ll = 0 then (obsI (toNs ll) d.toNat d.toNat, 0) else ([], Ma.gchk d ll)
theorem orbsS_ok {D : Nat} {gs : List (List Nat)} (h : Ma.gchk (D : Int) (gs.map Ma.ofN) = 0) : orbsS (D : Int) (gs.map Ma.ofN) = (obsI gs D D, 0) := by
  unfold orbsS
  rw [if_pos h, toNs_ofN]; rfl
theorem orbsS_bad {d : Int} {ll : List (List Int)} (h : Ma.gchk d ll ≠ 0) : orbsS d ll = ([], Ma.gchk d ll) := if_neg h
def LLPost (r : List (List Int) × Int) (w : World) (e : Ending) (w' : World) : Prop := ∃ v, e = .returned (.tuple #[v, .int .i64 r.2]) ∧ Rg.Rows w' v r.1 ∧ Below w.heap.size w w'
theorem infoInts : (Try.prog.info? 33).map (fun i => (i.zero, i.size, i.bytes)) = some (some (.slice none 0 0), 1, 24) := by kernel_rfl
theorem slIntss : Rg.SlT Try.prog 41 33 (.slice none 0 0) 24 := ⟨Try.underlying41, infoInts, rfl, by decide⟩
theorem run_build1L (X : World) (u : Value) (hs : ∃ a n c, u = .slice a n c) : (Instr.buildSlice 41 1 #[(0, u)]).run Try.prog X = .ok (.slice (some ⟨X.heap.size, 0, none⟩) 1 1) (X.alloc (.cells #[u] 33)) := by
  obtain ⟨i0, hi, hz0, hz1, hz2⟩ := info_parts infoInts
  obtain ⟨a, n, c, rfl⟩ := hs
  refine run_buildSlice X 41 33 1 _ _ i0 _ Try.underlying41 hi hz0 (by rw [hz1]; decide) (by rw [hz1]; decide) ?_
  generalize (fun x => ((Value.slice none 0 0).cells)[x % (Value.slice none 0 0).cells.size]!) = f
  rw [hz1]
  have h1 : Array.range (1 * 1) = #[0] := rfl
  simp [Instr.fill, Value.cells, h1]
theorem asc_mem (l : List Int) (x : Int) : x ∈ asc l ↔ x ∈ l := by
  rw [asc_sort]; exact List.mem_mergeSort

end Go.Proofs.Ytojbijkljnohoaa

/-! Orbits. -/
namespace Go.Proofs.Ytojbijkljnohoaa
open Go.RowKit
open Go.Proofs
open Go.Proofs.Ob
attribute [local irreducible] Go.Calls

theorem Vhcl0 (args : Array Value) (w : World) : (callFunc 26 args).run Try.prog w = .ok (.enter 26 args) w := by kernel_rfl
theorem Vhcl1 (args : Array Value) (w : World) : (callFunc 66 args).run Try.prog w = .ok (.enter 66 args) w := by kernel_rfl
theorem Vhcl2 (args : Array Value) (w : World) : (callFunc 27 args).run Try.prog w = .ok (.enter 27 args) w := by kernel_rfl
theorem Vhcl3 (args : Array Value) (w : World) : (callFunc 17 args).run Try.prog w = .ok (.enter 17 args) w := by kernel_rfl
theorem infoA : (Try.prog.info? 85).map (fun i => (i.zero, i.size, i.bytes)) = some (some (.agg (Array.replicate 64 (.bool false))), 64, 64) := by kernel_rfl
theorem exec_allocA {o : Oper} {a : Act} {w : World} (ho : o.op = .alloc 85) : (execOp a.eval o).run Try.prog w = .ok (.value (.pointer (some ⟨w.heap.size, 0, none⟩))) (w.alloc (.cells (Array.replicate 64 (.bool false)) 85)) := by
  obtain ⟨i0, hi, hz0, hz1, hz2⟩ := info_parts infoA
  unfold execOp
  simp [ho, Instr.alloc, typeInfo, zeroValue, hi, hz0, newVar, Value.cells, Result.andThen]
  rfl
theorem slBools : Rg.SlT Try.prog 101 4 (.bool false) 1 := ⟨Try.underlying101, infoBool, rfl, by decide⟩
theorem exec_makeSlice {o : Oper} {a : Act} {w w' : World} {v : Value} (t : TypeId) (x y : Operand) (ho : o.op = .makeSlice t x y) (n m : Value) (hx : a.eval x = n) (hy : a.eval y = m) (hr : (Instr.makeSlice t n m).run Try.prog w = .ok v w') : (execOp a.eval o).run Try.prog w = .ok (.value v) w' := by
  unfold execOp
  simp only [ho, hx, hy, Sem.run_bind, Sem.run_pure, hr, Result.andThen_ok]
theorem marks64 (w : World) : (w.alloc (.cells (Array.replicate 64 (.bool false)) 85)).rowIs w.heap.size 85 64 (fun _ => .bool false) := by
  have := World.rowIs_alloc w (Array.replicate 64 (.bool false)) 85 (fun _ => .bool false) (fun i hi => by rw [Array.getElem?_replicate, if_pos (by simpa using hi)])
  simpa using this
theorem marksN (w : World) (n : Nat) : (w.alloc (.cells (madeCells #[.bool false] n) 4)).rowIs w.heap.size 4 n (fun _ => .bool false) := World.rowIs_made w (.bool false) n 4
theorem sn_step {O : List (List Int)} {l : List Int} {i : Nat} (h : i < l.length) {x : Nat} (hx : l[i] = (x : Int)) (j : Nat) :
    (if j = x then true else (sn O j || decide ((j : Int) ∈ l.take i))) = (sn O j || decide ((j : Int) ∈ l.take (i + 1))) := by
  rw [List.take_succ_eq_append_getElem h, hx]
  by_cases e : j = x
  · subst e; simp
  · have : (j : Int) ≠ (x : Int) := by omega
    simp [e, this]

set_option maxRecDepth 100000 in
set_option maxHeartbeats 8000000 in
theorem Orbits_any (gv : Value) (d : Int) (ll : List (List Int)) (w : World) (h : Rg.Rows w gv ll) :
    Calls Try.prog 22 #[.agg #[.int .i64 d, gv]] w (LLPost (orbsS d ll) w) := by
  have HCK := Lib.hid fun v W (hW : Rg.Rows W v ll) => orbitCheck_any v d ll W hW
  by_cases hz : Ma.gchk d ll = 0
  · obtain ⟨D, gs, rfl, rfl, hgg, hD1, hD2, hgl⟩ := gchk_ok hz
    rw [orbsS_ok hz]
    rw [hz] at HCK
    replace h : Rg.NRows w gv gs := h
    have HIM := Lib.hid fun v W (hW : Rg.NRows W v gs) k (hk : k < D) => images_any v D gs k W hW hgg hD2 hk hgl
    have HTK := Lib.hid fun (k : Nat) (hk : k < D) => tree_ok hgg.cl hk
    clear hz hgg
    obtain ⟨ga, gc, rfl, hga, hba⟩ := GA.enter (D) h
    have K := Lib.hid hba
    have G0 := Lib.hid hga
    clear h hga hba
    go_enter Try.func22, Try.ntmps22
    go_upto_region 1 with (fail)
    generalize w.alloc (.cells #[.int .i64 (((D : Nat) : Int)), .slice ga gs.length gc] 24) = w0 at *
    refine wp_region_list ?_
    refine Rg.list_run (some 11) rfl rfl (Rg.exec_load (v := .agg #[.int .i64 ((D : Nat) : Int), .slice ga gs.length gc]) _ _ rfl ⟨w.heap.size, 0, none⟩ rfl (run_loadG G0.out.c0 G0.out.c1)) ?_
    go_frame
    refine list_ask (some 12) rfl rfl _ _ (exec_fn1 26 _ _ rfl rfl (Vhcl0 _ _)) ?_
    refine (HCK.out _ _ G0.out.rows).mono ?_
    rintro e1 w1 ⟨rfl, hb⟩
    refine ⟨_, rfl, ?_⟩
    go_frame
    replace G0 := Lib.hid (G0.out.below hb)
    replace K := Lib.hid (Rg.acc K.out hb)
    clear hb
    refine Rg.list_run (some 4) rfl rfl (Rg.exec_assign (v := .int .i64 0) _ rfl rfl) ?_
    go_frame
    have K0 := K
    replace K := Lib.hid (Below.refl w1.heap.size w1)
    go_upto_region 4 with (fail)
    refine wp_region_list ?_
    have hm := marks64 w1
    refine Rg.list_run (some 5) rfl rfl (exec_allocA rfl) ?_
    go_frame
    have hK1 : w1.heap.size ≤ (w1.alloc (.cells (Array.replicate 64 (.bool false)) 85)).heap.size := by simp
    have hb := (Below.refl w1.heap.size w1).alloc (Nat.le_refl _) (.cells (Array.replicate 64 (.bool false)) 85)
    generalize w1.alloc (.cells (Array.replicate 64 (.bool false)) 85) = w2 at *
    replace K := Lib.hid (Rg.acc K.out hb)
    clear hb
    go_upto_region 6 with (fail)
    refine wp_region_list ?_
    refine Rg.list_run (some 16) rfl rfl (exec_fieldG0 _ rfl rfl) ?_
    go_frame
    refine Rg.list_run (some 17) rfl rfl (Rg.exec_load (v := .int .i64 ((D : Nat) : Int)) _ _ rfl ⟨w.heap.size, 0, none⟩ rfl (run_loadInt ((Below.cell (p := ⟨w.heap.size, 0, none⟩) K.out G0.out.lt).trans G0.out.c0))) ?_
    go_frame
    refine Rg.list_run (some 18) rfl rfl (Rg.exec_move (v := .int .i64 ((0 : Nat) : Int)) _ rfl rfl) ?_
    go_frame
    have hso : Obst 41 33 w1.heap.size w1.heap.size 85 64 w2 (.slice none 0 0) [] (.slice none 0 0) [] (fun _ => false) := Obst.start (Nat.le_refl _) hK1 hm
    have HS0 := Lib.hid (hso.congr (G := sn []) (fun j _ => (sn_nil j).symm))
    clear hso hm hK1
    have hDN : (D : Int) ≤ 64 := by omega
    have hg0 := (G0.out.below K.out).c0
    go_wp2
    go_loopw [6, 18] (fun v i wr => ∃ k : Nat, k ≤ D ∧ i = .int .i64 k ∧ Hid (Obst 41 33 w1.heap.size w1.heap.size 85 64 wr v (obsI gs D k) (.slice none 0 0) ([]) (sn (obsI gs D k))) ∧ Hid (Below w1.heap.size w1 wr)) (fun _ i _ => D - (intOf i).toNat)
    case atStart => exact ⟨0, by omega, rfl, HS0, K⟩
    case round =>
      clear HS0 K hg0
      obtain ⟨k, hk, rfl, HS, K⟩ := hrel
      have hg0 := (G0.out.below K.out).c0
      by_cases hkD : k < D
      · obtain ⟨O, hO⟩ : ∃ O, Hid (O = obsI gs D k) := ⟨_, Lib.hid rfl⟩
        have hkN : (k : Int) < (D : Int) := by omega
        have HIN := Lib.hid (obsI_in (gs := gs) (D := D) (k := k))
        have HOUT := Lib.hid (obsI_out (gs := gs) (D := D) (k := k))
        have hOl := obsI_len gs D k
        rw [← hO.out] at HS HIN HOUT hOl
        have HKD := Lib.hid hkD
        have hk64 : k < 64 := by omega
        cases hs : sn O k with
        | true =>
          have hc : wr.cell? ⟨w1.heap.size, 0 + k, none⟩ = some (.bool true) := by rw [Nat.zero_add, HS.out.cell hk64, hs]
          have HE := Lib.hid (HIN.out hs)
          clear hs
          go_upto_region 8 with (fail)
          refine wp_region_list ?_
          refine Rg.list_run (some 20) rfl rfl (Rg.exec_move (v := .int .i64 ((k : Nat) : Int)) _ rfl rfl) ?_
          go_frame
          refine Rg.list_run (some 7) rfl rfl (Rg.exec_assign (v := .int .i64 ((k : Nat) : Int)) _ rfl rfl) ?_
          go_frame
          go_upto_region 9 with (fail)
          refine wp_region_list ?_
          refine Rg.list_run (some 21) rfl rfl (Rg.exec_move (v := .int .i64 ((k : Nat) : Int)) _ rfl rfl) ?_
          go_frame
          refine Rg.list_run (some 22) rfl rfl (exec_indexArr _ _ rfl Try.underlying85 szB w1.heap.size 0 (k) rfl rfl hk64) ?_
          go_frame
          refine Rg.list_run (some 23) rfl rfl (Rg.exec_load (v := .bool true) _ _ rfl ⟨w1.heap.size, 0 + k, none⟩ rfl (run_loadBool hc)) ?_
          go_frame
          go_wp2
          go_roundw
          case rel => exact ⟨k + 1, by omega, by go_num, by rw [HE.out]; exact HS, K⟩
          case measure => simp [intOf]; omega
        | false =>
          have hc : wr.cell? ⟨w1.heap.size, 0 + k, none⟩ = some (.bool false) := by rw [Nat.zero_add, HS.out.cell hk64, hs]
          have HE := Lib.hid (HOUT.out hs)
          clear hs
          go_upto_region 8 with (fail)
          refine wp_region_list ?_
          refine Rg.list_run (some 20) rfl rfl (Rg.exec_move (v := .int .i64 ((k : Nat) : Int)) _ rfl rfl) ?_
          go_frame
          refine Rg.list_run (some 7) rfl rfl (Rg.exec_assign (v := .int .i64 ((k : Nat) : Int)) _ rfl rfl) ?_
          go_frame
          go_upto_region 9 with (fail)
          refine wp_region_list ?_
          refine Rg.list_run (some 21) rfl rfl (Rg.exec_move (v := .int .i64 ((k : Nat) : Int)) _ rfl rfl) ?_
          go_frame
          refine Rg.list_run (some 22) rfl rfl (exec_indexArr _ _ rfl Try.underlying85 szB w1.heap.size 0 (k) rfl rfl hk64) ?_
          go_frame
          refine Rg.list_run (some 23) rfl rfl (Rg.exec_load (v := .bool false) _ _ rfl ⟨w1.heap.size, 0 + k, none⟩ rfl (run_loadBool hc)) ?_
          go_frame
          clear hc
          go_upto_region 10 with (fail)
          refine wp_region_list ?_
          refine Rg.list_run (some 24) rfl rfl (Rg.exec_load (v := .agg #[.int .i64 ((D : Nat) : Int), .slice ga gs.length gc]) _ _ rfl ⟨w.heap.size, 0, none⟩ rfl (run_loadG ((Below.cell (p := ⟨w.heap.size, 0, none⟩) K.out G0.out.lt).trans G0.out.c0) ((Below.cell (p := ⟨w.heap.size, 1, none⟩) K.out G0.out.lt).trans G0.out.c1))) ?_
          go_frame
          refine Rg.list_run (some 25) rfl rfl (Rg.exec_move (v := .int .i64 ((k : Nat) : Int)) _ rfl rfl) ?_
          go_frame
          refine list_ask (some 26) rfl rfl _ _ (exec_fn 66 _ _ _ rfl rfl rfl (Vhcl1 _ _)) ?_
          refine (HIM.out _ _ (G0.out.below K.out).rows k HKD.out).mono ?_
          rintro e1 w31 ⟨lv, rfl, hlv, hb⟩
          have HS1 := Lib.hid (HS.out.get hb (Rg.Ints.of_row hlv (by have := (HTK.out k HKD.out).len; omega)) (Rg.Fresh.of_row hlv))
          clear hlv
          clear HS
          refine ⟨_, rfl, ?_⟩
          go_frame
          replace K := Lib.hid (Rg.acc K.out hb)
          clear hb
          refine Rg.list_run (some 8) rfl rfl (Rg.exec_assign (v := lv) _ rfl rfl) ?_
          go_frame
          obtain ⟨l, hl⟩ : ∃ l, Hid (l = (asc (Ma.ofN (pts (tree gs D k))))) := ⟨_, Lib.hid rfl⟩
          rw [← hl.out] at HS1 HE
          have HLB := Lib.hid (show ∀ y ∈ l, 0 ≤ y ∧ y < (D : Int) from fun y hy => by
            rw [hl.out, asc_mem] at hy
            obtain ⟨z, hz, rfl⟩ := List.mem_map.1 hy
            have := (HTK.out k HKD.out).lt z hz
            omega)
          have hll : l.length ≤ 64 := by
            rw [hl.out, asc_length, Ma.len_ofN, len_pts]
            have := (HTK.out k HKD.out).len; omega
          obtain ⟨la, lc, rfl, _⟩ := HS1.out.row.shape
          have hlN : (l.length : Int) ≤ 64 := by omega
          have HS2 := Lib.hid (HS1.out.congr (G := fun j => sn O j || decide ((j : Int) ∈ l.take 0)) (fun j _ => by simp))
          clear HS1
          go_wp2
          go_loopw [29] (fun iv wr => ∃ i : Nat, i ≤ l.length ∧ iv = .int .i64 i ∧ Hid (Obst 41 33 w1.heap.size w1.heap.size 85 64 wr u6 (O) (.slice la l.length lc) (l) (fun j => sn O j || decide ((j : Int) ∈ l.take i))) ∧ Hid (Below w1.heap.size w1 wr)) (fun iv _ => l.length - (intOf iv).toNat)
          case atStart => exact ⟨0, by omega, rfl, HS2, K⟩
          case round =>
            clear HS2 K hg0
            obtain ⟨i, hi, rfl, HS, K⟩ := hrel
            have hg0 := (G0.out.below K.out).c0
            by_cases hil : i < l.length
            · obtain ⟨la', lc', e1, _, _, _, hlr⟩ := HS.out.row.shape
              cases e1
              obtain ⟨lb, lo, e2, hlb, hlcell⟩ := hlr (by omega)
              subst e2
              obtain ⟨hq0, hq1⟩ := HLB.out _ (List.getElem_mem hil)
              obtain ⟨q, hq⟩ : ∃ q : Nat, l[i] = (q : Int) := ⟨l[i].toNat, by omega⟩
              have hc := hlcell i hil
              rw [hq] at hc
              have hqD : q < 64 := by omega
              have HQ := Lib.hid hq
              have hcq : wr.cell? ⟨w1.heap.size, 0 + q, none⟩ = some (.bool (sn O q || decide ((q : Int) ∈ l.take i))) := by rw [Nat.zero_add]; exact HS.out.cell hqD
              have hfq : wr.frozen? ⟨w1.heap.size, 0 + q, none⟩ = false := HS.out.marks.frozen _
              have hiN : (i : Int) < (l.length : Int) := by omega
              have HIL := Lib.hid hil
              clear hlr hlcell hlb hq hq0 hq1
              go_upto_region 13 with (fail)
              refine wp_region_list ?_
              refine Rg.list_run (some 31) rfl rfl (exec_indexS slInts _ _ rfl lb (lo) (l.length) lc (i) rfl rfl HIL.out) ?_
              go_frame
              refine Rg.list_run (some 32) rfl rfl (Rg.exec_load (v := .int .i64 ((q : Nat) : Int)) _ _ rfl ⟨lb, lo + i, none⟩ rfl (run_loadInt hc)) ?_
              go_frame
              refine Rg.list_run (some 10) rfl rfl (Rg.exec_assign (v := .int .i64 ((q : Nat) : Int)) _ rfl rfl) ?_
              go_frame
              go_upto_region 14 with (fail)
              refine wp_region_list ?_
              refine Rg.list_run (some 33) rfl rfl (Rg.exec_move (v := .int .i64 ((q : Nat) : Int)) _ rfl rfl) ?_
              go_frame
              refine Rg.list_run (some 34) rfl rfl (exec_indexArr _ _ rfl Try.underlying85 szB w1.heap.size 0 (q) rfl rfl hqD) ?_
              go_frame
              refine Rg.list_skip none rfl rfl (Rg.exec_store _ _ _ rfl _ rfl _ rfl (show (storeVar 4 ⟨w1.heap.size, 0 + q, none⟩ (.bool true)).run Try.prog wr = _ from run_storeBool true hcq hfq)) ?_
              go_frame
              have HS3 := Lib.hid ((HS.out.mark q).congr (G := fun j => sn O j || decide ((j : Int) ∈ l.take (i + 1))) (fun j _ => sn_step HIL.out HQ.out j))
              have hgs := grown_set wr w1.heap.size q (.bool true)
              have K3 := Lib.hid (show Below w1.heap.size w1 (wr.setCell ⟨w1.heap.size, q, none⟩ (.bool true)) from K.out.setCell (Nat.le_refl _) _)
              rw [show (⟨w1.heap.size, q, none⟩ : Addr) = ⟨w1.heap.size, 0 + q, none⟩ by rw [Nat.zero_add]] at HS3 K3
              clear HS K hc hcq hfq hg0 hgs
              generalize wr.setCell ⟨w1.heap.size, 0 + q, none⟩ (.bool true) = wq at *
              have hg0 := (G0.out.below K3.out).c0
              go_wp2
              go_roundw
              case rel => exact ⟨i + 1, by omega, by go_num, HS3, K3⟩
              case measure => simp [intOf]; omega
            · obtain rfl : i = l.length := by omega
              have HS3 := Lib.hid (HS.out.congr (G := fun j => sn (O ++ [l]) j) (fun j _ => by rw [List.take_length, sn_snoc]))
              clear HS
              go_upto_region 16 with (fail)
              refine wp_region_list ?_
              refine Rg.list_run (some 36) rfl rfl (Rg.exec_move (v := u6) _ rfl rfl) ?_
              go_frame
              refine Rg.list_run (some 37) rfl rfl (Rg.exec_move (v := .slice la l.length lc) _ rfl rfl) ?_
              go_frame
              refine Rg.list_run (some 38) rfl rfl (Rg.exec_buildSlice _ _ _ rfl (.slice la l.length lc) rfl (run_build1L wr _ ⟨_, _, _, rfl⟩)) ?_
              go_frame
              obtain ⟨v9, W9, r1, r2, r3⟩ := HS3.out.push slIntss (by omega) 41
              refine Rg.list_run (some 39) rfl rfl (Rg.exec_append _ _ _ rfl rfl rfl r1) ?_
              go_frame
              refine Rg.list_run (some 6) rfl rfl (Rg.exec_assign (v := v9) _ rfl rfl) ?_
              go_frame
              have HS4 := Lib.hid (show Obst 41 33 w1.heap.size w1.heap.size 85 64 W9 v9 (obsI gs D (k + 1)) (.slice none 0 0) [] (sn (obsI gs D (k + 1))) by rw [HE.out]; exact r2.reset)
              have K4 := Lib.hid (r3 (Nat.le_refl _) K.out)
              clear r1 r2 r3 HS3 K hg0
              have hg0 := (G0.out.below K4.out).c0
              go_wp2
              go_roundw
              case rel => exact ⟨k + 1, by omega, by go_num, HS4, K4⟩
              case measure => simp [intOf]; omega
      · obtain rfl : k = D := by omega
        have HR := Lib.hid (HS.out.rows (by have := obsI_len gs k k; omega))
        clear HS
        go_wp2
        go_ret2
        exact ⟨_, rfl, HR.out, Rg.acc K0.out K.out⟩
  · rw [orbsS_bad hz]
    obtain ⟨e0, he0⟩ : ∃ e0, Hid (e0 = Ma.gchk d ll) := ⟨_, Lib.hid rfl⟩
    rw [← he0.out] at HCK hz ⊢
    obtain ⟨ga, gc, rfl, hga, hba⟩ := GI.enter (d) h
    have K := Lib.hid hba
    have G0 := Lib.hid hga
    clear h hga hba
    go_enter Try.func22, Try.ntmps22
    go_upto_region 1 with (fail)
    generalize w.alloc (.cells #[.int .i64 (d), .slice ga ll.length gc] 24) = w0 at *
    refine wp_region_list ?_
    refine Rg.list_run (some 11) rfl rfl (Rg.exec_load (v := .agg #[.int .i64 d, .slice ga ll.length gc]) _ _ rfl ⟨w.heap.size, 0, none⟩ rfl (run_loadG G0.out.c0 G0.out.c1)) ?_
    go_frame
    refine list_ask (some 12) rfl rfl _ _ (exec_fn1 26 _ _ rfl rfl (Vhcl0 _ _)) ?_
    refine (HCK.out _ _ G0.out.rows).mono ?_
    rintro e1 w1 ⟨rfl, hb⟩
    refine ⟨_, rfl, ?_⟩
    go_frame
    replace G0 := Lib.hid (G0.out.below hb)
    replace K := Lib.hid (Rg.acc K.out hb)
    clear hb
    refine Rg.list_run (some 4) rfl rfl (Rg.exec_assign (v := .int .i64 e0) _ rfl rfl) ?_
    go_frame
    go_wp2
    go_ret2
    exact ⟨_, rfl, rowsNone _, K.out⟩
set_option maxRecDepth 100000 in
set_option maxHeartbeats 8000000 in
theorem refOrbits_any (gv : Value) (d : Int) (ll : List (List Int)) (w : World) (h : Rg.Rows w gv ll) :
    Calls Try.prog 23 #[.agg #[.int .i64 d, gv]] w (LLPost (orbsS d ll) w) := by
  have HCK := Lib.hid fun v W (hW : Rg.Rows W v ll) => ref07Check_any v d ll W hW
  by_cases hz : Ma.gchk d ll = 0
  · obtain ⟨D, gs, rfl, rfl, hgg, hD1, hD2, hgl⟩ := gchk_ok hz
    rw [orbsS_ok hz]
    rw [hz] at HCK
    replace h : Rg.NRows w gv gs := h
    have HIM := Lib.hid fun v W (hW : Rg.NRows W v gs) (k : Nat) (hk : k < D) => by
      have h0 := refOrbit_f v (D : Int) (gs.map Ma.ofN) (k : Int) W hW
      have hp : ptE (D : Int) (gs.map Ma.ofN) (k : Int) = 0 := by unfold ptE isPt; rw [if_pos hz, if_pos (decide_eq_true (by omega))]
      rw [orbS_ok hp] at h0
      exact h0
    have HTK := Lib.hid fun (k : Nat) (hk : k < D) => tree_ok hgg.cl hk
    clear hz hgg
    obtain ⟨ga, gc, rfl, hga, hba⟩ := GA.enter (D) h
    have K := Lib.hid hba
    have G0 := Lib.hid hga
    clear h hga hba
    go_enter Try.func23, Try.ntmps23
    go_upto_region 1 with (fail)
    generalize w.alloc (.cells #[.int .i64 (((D : Nat) : Int)), .slice ga gs.length gc] 24) = w0 at *
    refine wp_region_list ?_
    refine Rg.list_run (some 11) rfl rfl (Rg.exec_load (v := .agg #[.int .i64 ((D : Nat) : Int), .slice ga gs.length gc]) _ _ rfl ⟨w.heap.size, 0, none⟩ rfl (run_loadG G0.out.c0 G0.out.c1)) ?_
    go_frame
    refine list_ask (some 12) rfl rfl _ _ (exec_fn1 27 _ _ rfl rfl (Vhcl2 _ _)) ?_
    refine (HCK.out _ _ G0.out.rows).mono ?_
    rintro e1 w1 ⟨rfl, hb⟩
    refine ⟨_, rfl, ?_⟩
    go_frame
    replace G0 := Lib.hid (G0.out.below hb)
    replace K := Lib.hid (Rg.acc K.out hb)
    clear hb
    refine Rg.list_run (some 4) rfl rfl (Rg.exec_assign (v := .int .i64 0) _ rfl rfl) ?_
    go_frame
    have K0 := K
    replace K := Lib.hid (Below.refl w1.heap.size w1)
    go_upto_region 5 with (fail)
    refine wp_region_list ?_
    refine Rg.list_run (some 16) rfl rfl (exec_fieldG0 _ rfl rfl) ?_
    go_frame
    refine Rg.list_run (some 17) rfl rfl (Rg.exec_load (v := .int .i64 ((D : Nat) : Int)) _ _ rfl ⟨w.heap.size, 0, none⟩ rfl (run_loadInt ((Below.cell (p := ⟨w.heap.size, 0, none⟩) K.out G0.out.lt).trans G0.out.c0))) ?_
    go_frame
    have hm := marksN w1 D
    refine Rg.list_run (some 18) rfl rfl (exec_makeSlice _ _ _ rfl _ _ rfl rfl (mkBools D (by omega) w1)) ?_
    go_frame
    have hK1 : w1.heap.size ≤ (w1.alloc (.cells (madeCells #[.bool false] D) 4)).heap.size := by simp
    have hb := (Below.refl w1.heap.size w1).alloc (Nat.le_refl _) (.cells (madeCells #[.bool false] D) 4)
    generalize w1.alloc (.cells (madeCells #[.bool false] D) 4) = w2 at *
    replace K := Lib.hid (Rg.acc K.out hb)
    clear hb
    refine Rg.list_run (some 6) rfl rfl (Rg.exec_assign (v := .slice (some ⟨w1.heap.size, 0, none⟩) D D) _ rfl rfl) ?_
    go_frame
    have hso : Obst 41 33 w1.heap.size w1.heap.size 4 D w2 (.slice none 0 0) [] (.slice none 0 0) [] (fun _ => false) := Obst.start (Nat.le_refl _) hK1 hm
    have HS0 := Lib.hid (hso.congr (G := sn []) (fun j _ => (sn_nil j).symm))
    clear hso hm hK1
    have hDN : (D : Int) ≤ 64 := by omega
    have hg0 := (G0.out.below K.out).c0
    go_wp2
    go_loopw [5, 7] (fun v i wr => ∃ k : Nat, k ≤ D ∧ i = .int .i64 k ∧ Hid (Obst 41 33 w1.heap.size w1.heap.size 4 D wr v (obsI gs D k) (.slice none 0 0) ([]) (sn (obsI gs D k))) ∧ Hid (Below w1.heap.size w1 wr)) (fun _ i _ => D - (intOf i).toNat)
    case atStart => exact ⟨0, by omega, rfl, HS0, K⟩
    case round =>
      clear HS0 K hg0
      obtain ⟨k, hk, rfl, HS, K⟩ := hrel
      have hg0 := (G0.out.below K.out).c0
      by_cases hkD : k < D
      · obtain ⟨O, hO⟩ : ∃ O, Hid (O = obsI gs D k) := ⟨_, Lib.hid rfl⟩
        have hkN : (k : Int) < (D : Int) := by omega
        have HIN := Lib.hid (obsI_in (gs := gs) (D := D) (k := k))
        have HOUT := Lib.hid (obsI_out (gs := gs) (D := D) (k := k))
        have hOl := obsI_len gs D k
        rw [← hO.out] at HS HIN HOUT hOl
        have HKD := Lib.hid hkD
        have hk64 : k < D := by omega
        cases hs : sn O k with
        | true =>
          have hc : wr.cell? ⟨w1.heap.size, 0 + k, none⟩ = some (.bool true) := by rw [Nat.zero_add, HS.out.cell hk64, hs]
          have HE := Lib.hid (HIN.out hs)
          clear hs
          go_upto_region 9 with (fail)
          refine wp_region_list ?_
          refine Rg.list_run (some 25) rfl rfl (Rg.exec_move (v := .slice (some ⟨w1.heap.size, 0, none⟩) D D) _ rfl rfl) ?_
          go_frame
          refine Rg.list_run (some 26) rfl rfl (Rg.exec_move (v := .int .i64 ((k : Nat) : Int)) _ rfl rfl) ?_
          go_frame
          refine Rg.list_run (some 27) rfl rfl (exec_indexS slBools _ _ rfl w1.heap.size (0) (D) D (k) rfl rfl hk64) ?_
          go_frame
          refine Rg.list_run (some 28) rfl rfl (Rg.exec_load (v := .bool true) _ _ rfl ⟨w1.heap.size, 0 + k, none⟩ rfl (run_loadBool hc)) ?_
          go_frame
          go_wp2
          go_roundw
          case rel => exact ⟨k + 1, by omega, by go_num, by rw [HE.out]; exact HS, K⟩
          case measure => simp [intOf]; omega
        | false =>
          have hc : wr.cell? ⟨w1.heap.size, 0 + k, none⟩ = some (.bool false) := by rw [Nat.zero_add, HS.out.cell hk64, hs]
          have HE := Lib.hid (HOUT.out hs)
          clear hs
          go_upto_region 9 with (fail)
          refine wp_region_list ?_
          refine Rg.list_run (some 25) rfl rfl (Rg.exec_move (v := .slice (some ⟨w1.heap.size, 0, none⟩) D D) _ rfl rfl) ?_
          go_frame
          refine Rg.list_run (some 26) rfl rfl (Rg.exec_move (v := .int .i64 ((k : Nat) : Int)) _ rfl rfl) ?_
          go_frame
          refine Rg.list_run (some 27) rfl rfl (exec_indexS slBools _ _ rfl w1.heap.size (0) (D) D (k) rfl rfl hk64) ?_
          go_frame
          refine Rg.list_run (some 28) rfl rfl (Rg.exec_load (v := .bool false) _ _ rfl ⟨w1.heap.size, 0 + k, none⟩ rfl (run_loadBool hc)) ?_
          go_frame
          clear hc
          go_upto_region 10 with (fail)
          refine wp_region_list ?_
          refine Rg.list_run (some 30) rfl rfl (Rg.exec_load (v := .agg #[.int .i64 ((D : Nat) : Int), .slice ga gs.length gc]) _ _ rfl ⟨w.heap.size, 0, none⟩ rfl (run_loadG ((Below.cell (p := ⟨w.heap.size, 0, none⟩) K.out G0.out.lt).trans G0.out.c0) ((Below.cell (p := ⟨w.heap.size, 1, none⟩) K.out G0.out.lt).trans G0.out.c1))) ?_
          go_frame
          refine Rg.list_run (some 31) rfl rfl (Rg.exec_move (v := .int .i64 ((k : Nat) : Int)) _ rfl rfl) ?_
          go_frame
          refine list_ask (some 32) rfl rfl _ _ (exec_fn 17 _ _ _ rfl rfl rfl (Vhcl3 _ _)) ?_
          refine (HIM.out _ _ (G0.out.below K.out).rows k HKD.out).mono ?_
          rintro e1 w31 ⟨lv, rfl, hlv, hlf, hb⟩
          have HS1 := Lib.hid (HS.out.get hb hlv hlf)
          clear hlv hlf
          clear HS
          refine ⟨_, rfl, ?_⟩
          go_frame
          replace K := Lib.hid (Rg.acc K.out hb)
          clear hb
          refine Rg.list_run (some 29) rfl rfl (Rg.exec_move (v := .tuple #[lv, .int .i64 0]) _ rfl rfl) ?_
          go_frame
          refine Rg.list_run (some 33) rfl rfl (exec_extract (v := lv) _ _ rfl rfl rfl) ?_
          go_frame
          refine Rg.list_run (some 34) rfl rfl (exec_extract (v := .int .i64 0) _ _ rfl rfl rfl) ?_
          go_frame
          refine Rg.list_run (some 8) rfl rfl (Rg.exec_assign (v := lv) _ rfl rfl) ?_
          go_frame
          refine Rg.list_run (some 9) rfl rfl (Rg.exec_assign (v := .int .i64 0) _ rfl rfl) ?_
          go_frame
          obtain ⟨l, hl⟩ : ∃ l, Hid (l = (asc (Ma.ofN (pts (tree gs D k))))) := ⟨_, Lib.hid rfl⟩
          rw [← hl.out] at HS1 HE
          have HLB := Lib.hid (show ∀ y ∈ l, 0 ≤ y ∧ y < (D : Int) from fun y hy => by
            rw [hl.out, asc_mem] at hy
            obtain ⟨z, hz, rfl⟩ := List.mem_map.1 hy
            have := (HTK.out k HKD.out).lt z hz
            omega)
          have hll : l.length ≤ 64 := by
            rw [hl.out, asc_length, Ma.len_ofN, len_pts]
            have := (HTK.out k HKD.out).len; omega
          obtain ⟨la, lc, rfl, _⟩ := HS1.out.row.shape
          have hlN : (l.length : Int) ≤ 64 := by omega
          have HS2 := Lib.hid (HS1.out.congr (G := fun j => sn O j || decide ((j : Int) ∈ l.take 0)) (fun j _ => by simp))
          clear HS1
          go_wp2
          go_loopw [10] (fun iv wr => ∃ i : Nat, i ≤ l.length ∧ iv = .int .i64 i ∧ Hid (Obst 41 33 w1.heap.size w1.heap.size 4 D wr u5 (O) (.slice la l.length lc) (l) (fun j => sn O j || decide ((j : Int) ∈ l.take i))) ∧ Hid (Below w1.heap.size w1 wr)) (fun iv _ => l.length - (intOf iv).toNat)
          case atStart => exact ⟨0, by omega, rfl, HS2, K⟩
          case round =>
            clear HS2 K hg0
            obtain ⟨i, hi, rfl, HS, K⟩ := hrel
            have hg0 := (G0.out.below K.out).c0
            by_cases hil : i < l.length
            · obtain ⟨la', lc', e1, _, _, _, hlr⟩ := HS.out.row.shape
              cases e1
              obtain ⟨lb, lo, e2, hlb, hlcell⟩ := hlr (by omega)
              subst e2
              obtain ⟨hq0, hq1⟩ := HLB.out _ (List.getElem_mem hil)
              obtain ⟨q, hq⟩ : ∃ q : Nat, l[i] = (q : Int) := ⟨l[i].toNat, by omega⟩
              have hc := hlcell i hil
              rw [hq] at hc
              have hqD : q < D := by omega
              have HQ := Lib.hid hq
              have hcq : wr.cell? ⟨w1.heap.size, 0 + q, none⟩ = some (.bool (sn O q || decide ((q : Int) ∈ l.take i))) := by rw [Nat.zero_add]; exact HS.out.cell hqD
              have hfq : wr.frozen? ⟨w1.heap.size, 0 + q, none⟩ = false := HS.out.marks.frozen _
              have hiN : (i : Int) < (l.length : Int) := by omega
              have HIL := Lib.hid hil
              clear hlr hlcell hlb hq hq0 hq1
              go_upto_region 14 with (fail)
              refine wp_region_list ?_
              refine Rg.list_run (some 41) rfl rfl (Rg.exec_move (v := .slice (some ⟨w1.heap.size, 0, none⟩) D D) _ rfl rfl) ?_
              go_frame
              refine Rg.list_run (some 42) rfl rfl (Rg.exec_move (v := .slice (some ⟨lb, lo, none⟩) l.length lc) _ rfl rfl) ?_
              go_frame
              refine Rg.list_run (some 43) rfl rfl (Rg.exec_move (v := .int .i64 ((i : Nat) : Int)) _ rfl rfl) ?_
              go_frame
              refine Rg.list_run (some 44) rfl rfl (exec_indexS slInts _ _ rfl lb (lo) (l.length) lc (i) rfl rfl HIL.out) ?_
              go_frame
              refine Rg.list_run (some 45) rfl rfl (Rg.exec_load (v := .int .i64 ((q : Nat) : Int)) _ _ rfl ⟨lb, lo + i, none⟩ rfl (run_loadInt hc)) ?_
              go_frame
              refine Rg.list_run (some 46) rfl rfl (exec_indexS slBools _ _ rfl w1.heap.size (0) (D) D (q) rfl rfl hqD) ?_
              go_frame
              refine Rg.list_skip none rfl rfl (Rg.exec_store _ _ _ rfl _ rfl _ rfl (show (storeVar 4 ⟨w1.heap.size, 0 + q, none⟩ (.bool true)).run Try.prog wr = _ from run_storeBool true hcq hfq)) ?_
              go_frame
              have HS3 := Lib.hid ((HS.out.mark q).congr (G := fun j => sn O j || decide ((j : Int) ∈ l.take (i + 1))) (fun j _ => sn_step HIL.out HQ.out j))
              have hgs := grown_set wr w1.heap.size q (.bool true)
              have K3 := Lib.hid (show Below w1.heap.size w1 (wr.setCell ⟨w1.heap.size, q, none⟩ (.bool true)) from K.out.setCell (Nat.le_refl _) _)
              rw [show (⟨w1.heap.size, q, none⟩ : Addr) = ⟨w1.heap.size, 0 + q, none⟩ by rw [Nat.zero_add]] at HS3 K3
              clear HS K hc hcq hfq hg0 hgs
              generalize wr.setCell ⟨w1.heap.size, 0 + q, none⟩ (.bool true) = wq at *
              have hg0 := (G0.out.below K3.out).c0
              go_wp2
              go_roundw
              case rel => exact ⟨i + 1, by omega, by go_num, HS3, K3⟩
              case measure => simp [intOf]; omega
            · obtain rfl : i = l.length := by omega
              have HS3 := Lib.hid (HS.out.congr (G := fun j => sn (O ++ [l]) j) (fun j _ => by rw [List.take_length, sn_snoc]))
              clear HS
              go_upto_region 15 with (fail)
              refine wp_region_list ?_
              refine Rg.list_run (some 47) rfl rfl (Rg.exec_move (v := u5) _ rfl rfl) ?_
              go_frame
              refine Rg.list_run (some 48) rfl rfl (Rg.exec_move (v := .slice la l.length lc) _ rfl rfl) ?_
              go_frame
              refine Rg.list_run (some 49) rfl rfl (Rg.exec_buildSlice _ _ _ rfl (.slice la l.length lc) rfl (run_build1L wr _ ⟨_, _, _, rfl⟩)) ?_
              go_frame
              obtain ⟨v9, W9, r1, r2, r3⟩ := HS3.out.push slIntss (by omega) 41
              refine Rg.list_run (some 50) rfl rfl (Rg.exec_append _ _ _ rfl rfl rfl r1) ?_
              go_frame
              refine Rg.list_run (some 5) rfl rfl (Rg.exec_assign (v := v9) _ rfl rfl) ?_
              go_frame
              have HS4 := Lib.hid (show Obst 41 33 w1.heap.size w1.heap.size 4 D W9 v9 (obsI gs D (k + 1)) (.slice none 0 0) [] (sn (obsI gs D (k + 1))) by rw [HE.out]; exact r2.reset)
              have K4 := Lib.hid (r3 (Nat.le_refl _) K.out)
              clear r1 r2 r3 HS3 K hg0
              have hg0 := (G0.out.below K4.out).c0
              go_wp2
              go_roundw
              case rel => exact ⟨k + 1, by omega, by go_num, HS4, K4⟩
              case measure => simp [intOf]; omega
      · obtain rfl : k = D := by omega
        have HR := Lib.hid (HS.out.rows (by have := obsI_len gs k k; omega))
        clear HS
        go_wp2
        go_ret2
        exact ⟨_, rfl, HR.out, Rg.acc K0.out K.out⟩
  · rw [orbsS_bad hz]
    obtain ⟨e0, he0⟩ : ∃ e0, Hid (e0 = Ma.gchk d ll) := ⟨_, Lib.hid rfl⟩
    rw [← he0.out] at HCK hz ⊢
    obtain ⟨ga, gc, rfl, hga, hba⟩ := GI.enter (d) h
    have K := Lib.hid hba
    have G0 := Lib.hid hga
    clear h hga hba
    go_enter Try.func23, Try.ntmps23
    go_upto_region 1 with (fail)
    generalize w.alloc (.cells #[.int .i64 (d), .slice ga ll.length gc] 24) = w0 at *
    refine wp_region_list ?_
    refine Rg.list_run (some 11) rfl rfl (Rg.exec_load (v := .agg #[.int .i64 d, .slice ga ll.length gc]) _ _ rfl ⟨w.heap.size, 0, none⟩ rfl (run_loadG G0.out.c0 G0.out.c1)) ?_
    go_frame
    refine list_ask (some 12) rfl rfl _ _ (exec_fn1 27 _ _ rfl rfl (Vhcl2 _ _)) ?_
    refine (HCK.out _ _ G0.out.rows).mono ?_
    rintro e1 w1 ⟨rfl, hb⟩
    refine ⟨_, rfl, ?_⟩
    go_frame
    replace G0 := Lib.hid (G0.out.below hb)
    replace K := Lib.hid (Rg.acc K.out hb)
    clear hb
    refine Rg.list_run (some 4) rfl rfl (Rg.exec_assign (v := .int .i64 e0) _ rfl rfl) ?_
    go_frame
    go_wp2
    go_ret2
    exact ⟨_, rfl, rowsNone _, K.out⟩
end Go.Proofs.Ytojbijkljnohoaa

/-! Own, OwnGroup. -/
namespace Go.Proofs.Ytojbijkljnohoaa
open Go.RowKit
open Go.Proofs
open Go.Proofs.Ob
attribute [local irreducible] Go.Calls

theorem Vicl0 (args : Array Value) (w : World) : (callFunc 65 args).run Try.prog w = .ok (.enter 65 args) w := by kernel_rfl
/-- two cells of a block that may be stored into -/
def Pair (w : World) (b : Nat) (x y : Value) : Prop := w.cell? ⟨b, 0, none⟩ = some x ∧ w.cell? ⟨b, 1, none⟩ = some y ∧ w.frozen? ⟨b, 0, none⟩ = false ∧ w.frozen? ⟨b, 1, none⟩ = false ∧ b < w.heap.size
theorem Pair.c0 {w : World} {b : Nat} {x y : Value} (h : Pair w b x y) : w.cell? ⟨b, 0, none⟩ = some x := h.1
theorem Pair.c1 {w : World} {b : Nat} {x y : Value} (h : Pair w b x y) : w.cell? ⟨b, 1, none⟩ = some y := h.2.1
theorem Pair.lt {w : World} {b : Nat} {x y : Value} (h : Pair w b x y) : b < w.heap.size := h.2.2.2.2
theorem Pair.upto {B : Nat} {w w' : World} {b : Nat} {x y : Value} (h : Pair w b x y) (hb : Below B w w') (hB : b < B) : Pair w' b x y :=
  ⟨(hb.cell (p := ⟨b, 0, none⟩) hB).trans h.1, (hb.cell (p := ⟨b, 1, none⟩) hB).trans h.2.1, (hb.frozen (p := ⟨b, 0, none⟩) hB).trans h.2.2.1, (hb.frozen (p := ⟨b, 1, none⟩) hB).trans h.2.2.2.1, Nat.lt_of_lt_of_le h.2.2.2.2 hb.size⟩
theorem Pair.below {w w' : World} {b : Nat} {x y : Value} (h : Pair w b x y) (hb : Below w.heap.size w w') : Pair w' b x y := h.upto hb h.lt
theorem Pair.new (w : World) : Pair (w.alloc (.cells #[.int .i64 0, .slice none 0 0] 24)) w.heap.size (.int .i64 0) (.slice none 0 0) :=
  ⟨by rw [Rg.cellNew]; rfl, by rw [Rg.cellNew]; rfl, frozenNewN _ _ _ 0 _, frozenNewN _ _ _ 0 _, by simp⟩
theorem Pair.store {w : World} {b : Nat} {x y : Value} (h : Pair w b x y) (d : Int) (a : Option Addr) (n c : Nat) :
    ∃ W, (storeVar 24 ⟨b, 0, none⟩ (.agg #[.int .i64 d, .slice a n c])).run Try.prog w = .ok () W ∧ Pair W b (.int .i64 d) (.slice a n c) ∧ w.grownBy W (some b) ∧ (∀ {B : Nat} {W0 : World}, B ≤ b → Below B W0 w → Below B W0 W) := by
  obtain ⟨h1, h2, h3, h4, h5⟩ := h
  obtain ⟨p0, p1, p2⟩ := group_set (.int .i64 d) (.slice a n c) h1 h2 (Below.refl b w) (Nat.le_refl _)
  refine ⟨_, run_storeG d a n c h1 h2 h3 h4, ⟨p0, p1, by rw [World.frozen?_setCell, World.frozen?_setCell]; exact h3, by rw [World.frozen?_setCell, World.frozen?_setCell]; exact h4, by simpa using h5⟩, ⟨rfl, rfl, rfl, by simp, fun k hk hne => ?_⟩, fun {B W0} hB hb => (hb.setCell hB _).setCell hB _⟩
  rw [Below.heap_setCell _ _ _ k (fun e => hne (by rw [e])), Below.heap_setCell _ _ _ k (fun e => hne (by rw [e]))]
theorem infoPermsT : (Try.prog.info? 22).map (fun i => (i.zero, i.size, i.bytes)) = some (some (.slice none 0 0), 1, 24) := by kernel_rfl
set_option maxHeartbeats 2000000 in
theorem Own_any (v : Value) (l : List Int) (w : World) (h : Rg.Ints w v l) (hl : l.length ≤ 1000000) :
    Calls Try.prog 65 #[v] w fun e w' => ∃ v', e = .returned v' ∧ w'.ownsRow w.heap.size 3 1 v' l.length (l.map (Value.int .i64)) ∧ Below w.heap.size w w' := by
  obtain ⟨la, lc, rfl, _⟩ := h.shape
  have HI := Lib.hid h
  have K := Lib.hid (Below.refl w.heap.size w)
  clear h
  go_enter Try.func65, Try.ntmps65
  go_upto_region 1 with (fail)
  refine wp_region_list ?_
  have hnew := Own0.new (B := w.heap.size) w (Nat.le_refl _)
  refine Rg.list_run (some 3) rfl rfl (Rg.exec_build0 slInts rfl w) ?_
  go_frame
  have hb := (Below.refl w.heap.size w).alloc (Nat.le_refl _) (.cells #[] 3)
  generalize w.alloc (.cells #[] 3) = w1 at *
  replace HI := Lib.hid (HI.out.below hb)
  replace K := Lib.hid (Rg.acc K.out hb)
  clear hb
  have FO := Lib.hid hnew
  refine Rg.list_run (some 4) rfl rfl (Rg.exec_move (v := .slice la l.length lc) _ rfl rfl) ?_
  go_frame
  obtain ⟨v5, X5, r1, r2, r3⟩ := Rg.appL_run (P := Try.prog) slInts 33 FO.out.1 K.out.size HI.out ints_cells (by rw [List.length_map]; omega)
  refine Rg.list_run (some 5) rfl rfl (Rg.exec_append _ _ _ rfl rfl rfl r1) ?_
  go_frame
  refine Rg.list_run (some 2) rfl rfl (Rg.exec_assign (v := v5) _ rfl rfl) ?_
  go_frame
  rw [List.length_map, Nat.zero_add, List.nil_append] at r2
  have R2 := Lib.hid r2
  have K5 := Lib.hid (K.out.grown r3 K.out.size (fun j hj => (FO.out.1.lt j hj).1))
  clear r1 r2 r3 FO
  go_wp2
  go_ret
  exact ⟨_, rfl, R2.out, K5.out⟩
/-- a cell that holds a row of the call's own, of rows of integers -/
structure Cst (t e : TypeId) (B X o : Nat) (w : World) (v : Value) (O : List (List Int)) : Prop where
  size : B ≤ w.heap.size
  low : B ≤ X
  cell : w.cell? ⟨X, o, none⟩ = some v
  frozen : w.frozen? ⟨X, o, none⟩ = false
  own : ∃ us, w.ownsRow B e 1 v O.length us ∧ us.length = O.length ∧ (∀ i (h : i < us.length) (h2 : i < O.length), Rg.Ints w us[i] O[i]) ∧ Rg.Offs us v.ownBlock ∧ Rg.Offs us (some X) ∧ ∀ u ∈ us, Rg.Fresh B u
  apart : v.ownBlock ≠ some X
theorem Cst.lt {t e : TypeId} {B X o : Nat} {w : World} {v : Value} {O : List (List Int)} (h : Cst t e B X o w v O) : X < w.heap.size := lt_of_cell h.cell
theorem Cst.below {t e : TypeId} {B X o : Nat} {w w' : World} {v : Value} {O : List (List Int)} (h : Cst t e B X o w v O) (hb : Below w.heap.size w w') : Cst t e B X o w' v O := by
  obtain ⟨us, o1, o2, o3, o4, o5, o6⟩ := h.own
  exact ⟨Nat.le_trans h.size hb.size, h.low, (hb.cell (p := ⟨X, o, none⟩) h.lt).trans h.cell, (hb.frozen (p := ⟨X, o, none⟩) h.lt).trans h.frozen, ⟨us, Rg.row_below o1 hb, o2, fun i a b => (o3 i a b).below hb, o4, o5, o6⟩, h.apart⟩
theorem Cst.start {t e : TypeId} {B X o : Nat} {w : World} (hs : B ≤ w.heap.size) (hB : B ≤ X) (hc : w.cell? ⟨X, o, none⟩ = some (.slice none 0 0)) (hf : w.frozen? ⟨X, o, none⟩ = false) : Cst t e B X o w (.slice none 0 0) [] :=
  ⟨hs, hB, hc, hf, ⟨[], World.ownsRow_nil _ _ _ _, rfl, fun i h => by simp at h, Rg.Offs.nil _, Rg.Offs.nil _, fun u hu => by simp at hu⟩, by simp [Value.ownBlock]⟩
theorem Cst.rows {t e : TypeId} {B X o : Nat} {w : World} {v : Value} {O : List (List Int)} (h : Cst t e B X o w v O) (hl : O.length ≤ 1000000000) : Rg.Rows w v O := by
  obtain ⟨us, o1, o2, o3, o4, o5, o6⟩ := h.own
  exact ⟨us, Rg.Vals.of_row o1 hl, o2, o3⟩
theorem Cst.rowsF {t e : TypeId} {B X o : Nat} {w : World} {v : Value} {O : List (List Int)} (h : Cst t e B X o w v O) (hl : O.length ≤ 1000000000) : RowsF B w v O := by
  obtain ⟨us, o1, o2, o3, o4, o5, o6⟩ := h.own
  exact ⟨us, Rg.Vals.of_row o1 hl, Rg.Fresh.of_row o1, o2, fun i a b => ⟨o3 i a b, o6 _ (List.getElem_mem a)⟩⟩
theorem RowsF.grown {B b : Nat} {w W : World} {v : Value} {ll : List (List Int)} (h : RowsF B w v ll) (hg : w.grownBy W (some b)) (hb : b < B) : RowsF B W v ll :=
  h.keep hg.size fun b2 o h1 h2 => World.cell?_of_block (a := ⟨b2, o, none⟩) (hg.block b2 h2 (fun e => by simp at e; omega))
theorem Cst.push {t e : TypeId} {B X o : Nat} {w w1 : World} {v lv : Value} {O : List (List Int)} {l : List Int} {z : Value} {bytes : Nat} (T : Rg.SlT Try.prog t e z bytes) (h : Cst t e B X o w v O) (hb1 : Below w.heap.size w w1) (hu : Rg.Ints w1 lv l) (hf : Rg.Fresh w.heap.size lv) (hO : O.length < 1000000) (ty : TypeId) :
    ∃ a c W, (Builtin.append_ #[t, t] ty #[v, .slice (some ⟨w1.heap.size, 0, none⟩) 1 1]).run Try.prog (w1.alloc (.cells #[lv] e)) = .ok (.slice a (O.length + 1) c) W ∧ W.cell? ⟨X, o, none⟩ = some v ∧ W.frozen? ⟨X, o, none⟩ = false ∧
      Cst t e B X o (W.setCell ⟨X, o, none⟩ (.slice a (O.length + 1) c)) (.slice a (O.length + 1) c) (O ++ [l]) ∧ (∀ {B0 : Nat} {W0 : World}, B0 ≤ B → Below B0 W0 w1 → Below B0 W0 W) ∧ (∀ {B0 : Nat} {W0 : World}, B0 ≤ B → Below B0 W0 w1 → Below B0 W0 (W.setCell ⟨X, o, none⟩ (.slice a (O.length + 1) c))) ∧ (∀ o', o' ≠ o → (W.setCell ⟨X, o, none⟩ (.slice a (O.length + 1) c)).cell? ⟨X, o', none⟩ = w1.cell? ⟨X, o', none⟩) := by
  have hoff1 : Rg.Off lv (some X) := Rg.Off.fresh hf (fun j e => by have := h.lt; simp at e; omega)
  have hoff2 : Rg.Off lv v.ownBlock := by
    obtain ⟨us, o1, _⟩ := h.own
    exact Rg.Off.fresh hf (fun j e => (o1.lt j e).2)
  have hfB : Rg.Fresh B lv := hf.mono h.size
  have h := h.below hb1
  obtain ⟨us, o1, o2, o3, o4, o5, o6⟩ := h.own
  have hba : Below w1.heap.size w1 (w1.alloc (.cells #[lv] e)) := (Below.refl _ _).alloc (Nat.le_refl _) _
  have h' := h.below hba
  obtain ⟨a, c, rfl, _⟩ := hu.shape
  have hsz : (w1.alloc (.cells #[Value.slice a l.length c] e)).heap.size = w1.heap.size + 1 := by simp
  obtain ⟨v', W, r1, r2, r3, r4, a2, c2, rfl⟩ := app_run (P := Try.prog) T ty (Rg.row_below o1 hba) h'.size w1.heap.size 1 (u := .slice a l.length c) (by rw [Rg.cellNew]; rfl) rfl hO
  have hne : (Value.slice a2 (O.length + 1) c2).ownBlock ≠ some X := by
    rcases r4 with r4 | r4
    · rw [r4]; exact h.apart
    · rw [r4]; intro e; have := h.lt; simp at e; omega
  have hcX : W.cell? ⟨X, o, none⟩ = some v := by
    rw [← h'.cell]
    exact World.cell?_of_block (a := ⟨X, o, none⟩) (r3.block X h'.lt (fun e => h.apart e.symm))
  have hfX : W.frozen? ⟨X, o, none⟩ = false := by
    rw [← h'.frozen]
    exact World.frozen?_of_block (a := ⟨X, o, none⟩) (r3.block X h'.lt (fun e => h.apart e.symm))
  have hg := grown_set W X o (.slice a2 (O.length + 1) c2)
  have hE : ∀ i (p : i < (us ++ [Value.slice a l.length c]).length) (q : i < (O ++ [l]).length), Rg.Ints (w1.alloc (.cells #[Value.slice a l.length c] e)) (us ++ [Value.slice a l.length c])[i] (O ++ [l])[i] := by
    intro i p q
    by_cases hi : i < us.length
    · rw [List.getElem_append_left hi, List.getElem_append_left (by omega)]
      exact (o3 i hi (by omega)).below hba
    · have hi2 : i = us.length := by simp at p; omega
      subst hi2
      have e1 : (us ++ [Value.slice a l.length c])[us.length] = .slice a l.length c := by rw [List.getElem_append_right (Nat.le_refl _)]; simp
      have e2 : (O ++ [l])[us.length]'q = l := by rw [List.getElem_append_right (by omega)]; simp [o2]
      rw [e1, e2]; exact hu.below hba
  have hO1 : Rg.Offs (us ++ [Value.slice a l.length c]) v.ownBlock := o4.snoc hoff2
  have hO2 : Rg.Offs (us ++ [Value.slice a l.length c]) (some X) := o5.snoc hoff1
  have hlen : (us ++ [Value.slice a l.length c]).length = (O ++ [l]).length := by simp [o2]
  have hE2 : ∀ i (p : i < (us ++ [Value.slice a l.length c]).length) (q : i < (O ++ [l]).length), Rg.Ints W (us ++ [Value.slice a l.length c])[i] (O ++ [l])[i] := fun i p q => ints_grown (hE i p q) (hO1 _ (List.getElem_mem p)) r3
  refine ⟨a2, c2, W, r1, hcX, hfX, ⟨Nat.le_trans (Nat.le_trans h'.size r3.size) hg.size, h.low, World.cell?_setCell_same (h := hcX) .., by rw [World.frozen?_setCell]; exact hfX, ⟨us ++ [Value.slice a l.length c], ?_, hlen, fun i p q => ints_grown (hE2 i p q) (hO2 _ (List.getElem_mem p)) hg, ?_, hO2, ?_⟩, hne⟩, ?_, ?_, ?_⟩
  · rw [List.length_append]
    exact Rg.row_keep r2 hg (.inr hne)
  · intro u hu
    obtain ⟨i, hi, rfl⟩ := List.getElem_of_mem hu
    exact off_next (hO1 _ (List.getElem_mem hi)) (hE i hi (by rw [← hlen]; exact hi)) r4 (Nat.le_refl _)
  · intro u hu
    rcases List.mem_append.1 hu with hu | hu
    · exact o6 u hu
    · rw [List.mem_singleton] at hu; subst hu; exact hfB
  · intro B0 W0 hB hb
    exact (hb.alloc (Nat.le_trans hB h.size) _).grown r3 (by rw [hsz]; have := h.size; omega) (fun j hj => Nat.le_trans hB (o1.lt j hj).1)
  · intro B0 W0 hB hb
    exact ((hb.alloc (Nat.le_trans hB h.size) _).grown r3 (by rw [hsz]; have := h.size; omega) (fun j hj => Nat.le_trans hB (o1.lt j hj).1)).setCell (Nat.le_trans hB h.low) _
  · intro o' ho
    rw [World.cell?_setCell_other (h := by intro e; injection e with e1 e2; exact ho e2.symm) .., World.cell?_of_block (a := ⟨X, o', none⟩) (r3.block X h'.lt (fun e => h.apart e.symm))]
    exact hba.cell (p := ⟨X, o', none⟩) h.lt
set_option maxRecDepth 100000 in
set_option maxHeartbeats 4000000 in
theorem OwnGroup_any (gv : Value) (d : Int) (ll : List (List Int)) (w : World) (h : Rg.Rows w gv ll) (hl1 : ll.length ≤ 1000) (hl2 : ∀ l ∈ ll, l.length ≤ 1000) :
    Calls Try.prog 15 #[.agg #[.int .i64 d, gv]] w fun e w' => ∃ a c, e = .returned (.agg #[.int .i64 d, .slice a ll.length c]) ∧ Rg.Rows w' (.slice a ll.length c) ll ∧ Below w.heap.size w w' := by
  obtain ⟨ga, gc, rfl, hga, hba⟩ := GI.enter (d) h
  have K := Lib.hid hba
  have G0 := Lib.hid hga
  clear h hga hba
  go_enter Try.func15, Try.ntmps15
  go_upto_region 0 with (fail)
  refine wp_region_list ?_
  refine Rg.list_run (some 1) rfl rfl (Rg.exec_box _ _ rfl rfl) ?_
  go_frame
  generalize w.alloc (.cells #[.int .i64 d, .slice ga ll.length gc] 24) = w0 at *
  have HW0 := Lib.hid K.out.size
  have hnew := Pair.new w0
  refine Rg.list_run (some 2) rfl rfl (exec_allocG rfl) ?_
  go_frame
  have hb := (Below.refl w0.heap.size w0).alloc (Nat.le_refl _) (.cells #[.int .i64 0, .slice none 0 0] 24)
  generalize w0.alloc (.cells #[.int .i64 0, .slice none 0 0] 24) = w1 at *
  replace G0 := Lib.hid (G0.out.below hb)
  replace K := Lib.hid (Rg.acc K.out hb)
  clear hb
  have P2 := Lib.hid hnew
  have K0 := K
  replace K := Lib.hid (Below.refl w1.heap.size w1)
  go_upto_region 1 with (fail)
  refine wp_region_list ?_
  refine Rg.list_run (some 5) rfl rfl (exec_fieldG0 _ rfl rfl) ?_
  go_frame
  refine Rg.list_run (some 6) rfl rfl (Rg.exec_load (v := .int .i64 d) _ _ rfl ⟨w.heap.size, 0, none⟩ rfl (run_loadInt ((Below.cell (p := ⟨w.heap.size, 0, none⟩) K.out G0.out.lt).trans G0.out.c0))) ?_
  go_frame
  refine Rg.list_run (some 7) rfl rfl (exec_buildG1 (d := d) _ rfl rfl) ?_
  go_frame
  have hnew := Pair.new w1
  refine Rg.list_run (some 3) rfl rfl (exec_allocG rfl) ?_
  go_frame
  have hb := (Below.refl w1.heap.size w1).alloc (Nat.le_refl _) (.cells #[.int .i64 0, .slice none 0 0] 24)
  generalize w1.alloc (.cells #[.int .i64 0, .slice none 0 0] 24) = w2 at *
  replace K := Lib.hid (Rg.acc K.out hb)
  clear hb
  have P3 := Lib.hid hnew
  obtain ⟨W3, hst, hp3, hg3, hb3⟩ := P3.out.store d none 0 0
  refine Rg.list_skip none rfl rfl (Rg.exec_store _ _ _ rfl _ rfl _ rfl hst) ?_
  go_frame
  have HLT2 := Lib.hid (show w0.heap.size < w1.heap.size from P2.out.lt)
  have HC := Lib.hid (Cst.start (t := 22) (e := 62) (B := w1.heap.size) (X := w1.heap.size) (o := 1) (w := W3) (Nat.le_of_lt hp3.lt) (Nat.le_refl _) hp3.2.1 hp3.2.2.2.1)
  have C30 := Lib.hid (show Cel W3 w1.heap.size 0 (.int .i64 d) from ⟨hp3.1, hp3.lt⟩)
  replace K := Lib.hid (hb3 (Nat.le_refl _) K.out)
  clear hst hp3 hg3 hb3 P3
  have hlN : (ll.length : Int) ≤ 1000 := by omega
  have HL2 := Lib.hid hl2
  have hg1 := (G0.out.below K.out).c1
  clear hl2
  go_wp2
  go_loopw [4] (fun i wr => ∃ k : Nat, k ≤ ll.length ∧ i = .int .i64 k ∧ Hid (∃ a c, Cst 22 62 w1.heap.size w1.heap.size 1 wr (.slice a k c) (ll.take k)) ∧ Hid (Cel wr w1.heap.size 0 (.int .i64 d)) ∧ Hid (Below w1.heap.size w1 wr)) (fun i _ => ll.length - (intOf i).toNat)
  case atStart => exact ⟨0, by omega, rfl, Lib.hid ⟨none, 0, HC.out⟩, C30, K⟩
  case round =>
    clear HC C30 K hg1
    obtain ⟨k, hk, rfl, HC0, C30, K⟩ := hrel
    obtain ⟨oa, oc, hc0⟩ := HC0.out
    have HC := Lib.hid hc0
    have hg1 := (G0.out.below K.out).c1
    clear hc0 HC0
    by_cases hkl : k < ll.length
    · have hkN : (k : Int) < (ll.length : Int) := by omega
      obtain ⟨ga', gc', e1, _, _, _, hgr⟩ := G0.out.rows.shape
      cases e1
      obtain ⟨bg, og, e2, hbg, hgcell⟩ := hgr (by omega)
      subst e2
      obtain ⟨u, hu, hui⟩ := hgcell k hkl
      obtain ⟨ua, uc, rfl, _⟩ := hui.shape
      have C1 := Lib.hid (show Cel w1 bg (og + k) (.slice ua ll[k].length uc) from ⟨hu, hbg⟩)
      have HUI := Lib.hid hui
      have HKL := Lib.hid hkl
      obtain ⟨lk, hlk⟩ : ∃ lk : List Int, Hid (lk = ll[k]'hkl) := ⟨_, Lib.hid rfl⟩
      have HTK := Lib.hid (show ll.take (k + 1) = ll.take k ++ [lk] by rw [hlk.out, List.take_succ_eq_append_getElem hkl])
      have HLK := Lib.hid (show lk.length ≤ 1000 by rw [hlk.out]; exact HL2.out _ (List.getElem_mem hkl))
      rw [← hlk.out] at C1 HUI
      have htl : (ll.take k).length = k := by rw [List.length_take]; omega
      have HTL := Lib.hid htl
      clear hgr hgcell hbg hu hui htl
      go_upto_region 5 with (fail)
      have hV0 : Below wr.heap.size wr wr.drew := (Below.refl _ _).drew
      replace HC := Lib.hid (HC.out.below hV0)
      replace C30 := Lib.hid (C30.out.below hV0)
      replace K := Lib.hid (Rg.acc K.out hV0)
      clear hV0
      refine Rg.Any.begin (S := Rg.Both 9 (fun W => Below wr.drew.heap.size wr.drew W) (fun W => Below w1.heap.size w1 W)) mix ?_
      generalize wr.drew = w21 at *
      have hS : ∀ (l : Array Bool) W, Below w21.heap.size w21 W → Below w1.heap.size w1 W → Rg.Both 9 (fun W => Below w21.heap.size w21 W) (fun W => Below w1.heap.size w1 W) l W := fun l W h h2 => ⟨.inr h, h2⟩
      have hS2 : ∀ (l : Array Bool) W, l.getD 9 false = true → Below w1.heap.size w1 W → Rg.Both 9 (fun W => Below w21.heap.size w21 W) (fun W => Below w1.heap.size w1 W) l W := fun l W h h2 => ⟨.inl h, h2⟩
      have hI := K.out
      refine Rg.Any.takeG (i := 0) (t := 9) (v := .pointer (some ⟨w1.heap.size, 1, none⟩)) (some 15) rfl rfl (by kernel_rfl) (by kernel_rfl) (by kernel_rfl) (fun _ _ _ h => h) rfl (.inl ⟨rfl, fun w _ => exec_fieldG _ rfl rfl⟩) (hS _ _ (Below.refl _ _) hI) ?_
      go_frame
      refine Rg.Any.takeT (i := 1) (t := 9) (v := .slice oa k oc) (some 16) rfl rfl (by kernel_rfl) (by kernel_rfl) (by kernel_rfl) (fun _ _ _ h => h) rfl (by kernel_rfl) rfl (Rg.yields_cell _ _ rfl rfl ⟨w1.heap.size, 1, none⟩ rfl (fun W hW => Rg.run_loadSl _ _ Try.underlying22 ((Below.cell (p := ⟨w1.heap.size, 1, none⟩) hW HC.out.lt).trans HC.out.cell))) (hS _ _ (Below.refl _ _) hI) ?_
      go_frame
      refine Rg.Any.takeG (i := 2) (t := 9) (v := .pointer (some ⟨w.heap.size, 1, none⟩)) (some 17) rfl rfl (by kernel_rfl) (by kernel_rfl) (by kernel_rfl) (fun _ _ _ h => h) rfl (.inl ⟨rfl, fun w _ => exec_fieldG _ rfl rfl⟩) (hS _ _ (Below.refl _ _) hI) ?_
      go_frame
      refine Rg.Any.takeG (i := 3) (t := 9) (v := .slice (some ⟨bg, og, none⟩) ll.length gc) (some 18) rfl rfl (by kernel_rfl) (by kernel_rfl) (by kernel_rfl) (fun _ _ _ h => h) rfl (Rg.yields_cell _ _ rfl rfl ⟨w.heap.size, 1, none⟩ rfl (fun W hW => Rg.run_loadSl _ _ Try.underlying22 ((Below.cell (p := ⟨w.heap.size, 1, none⟩) hW G0.out.lt).trans G0.out.c1))) (hS _ _ (Below.refl _ _) hI) ?_
      go_frame
      refine Rg.Any.takeG (i := 4) (t := 9) (v := .int .i64 ((k : Nat) : Int)) (some 19) rfl rfl (by kernel_rfl) (by kernel_rfl) (by kernel_rfl) (fun _ _ _ h => h) rfl (.inl ⟨rfl, fun w _ => Rg.exec_move (v := .int .i64 ((k : Nat) : Int)) _ rfl rfl⟩) (hS _ _ (Below.refl _ _) hI) ?_
      go_frame
      refine Rg.Any.takeG (i := 5) (t := 9) (v := .pointer (some ⟨bg, og + k, none⟩)) (some 20) rfl rfl (by kernel_rfl) (by kernel_rfl) (by kernel_rfl) (fun _ _ _ h => h) rfl (Rg.yields_index slPerms _ _ rfl rfl bg (og) (ll.length) gc (k) rfl rfl HKL.out) (hS _ _ (Below.refl _ _) hI) ?_
      go_frame
      refine Rg.Any.takeG (i := 6) (t := 9) (v := .slice ua lk.length uc) (some 21) rfl rfl (by kernel_rfl) (by kernel_rfl) (by kernel_rfl) (fun _ _ _ h => h) rfl (Rg.yields_cell _ _ rfl rfl ⟨bg, og + k, none⟩ rfl (fun W hW => Rg.run_loadSl _ _ Try.underlying62 ((Below.cell (p := ⟨bg, og + k, none⟩) hW C1.out.2).trans C1.out.1))) (hS _ _ (Below.refl _ _) hI) ?_
      go_frame
      refine Rg.Any.one (i := 7) (by kernel_rfl) (Rg.Any.ask (some 22) rfl rfl rfl _ _ (exec_fn1 65 _ _ rfl rfl (Vicl0 _ _)) ?_)
      refine (Own_any _ lk w21 (HUI.out.below hI) (by have := HLK.out; omega)).mono ?_
      rintro e1 w22 ⟨lv, rfl, hlv, hb⟩
      obtain ⟨xa, xc, rfl⟩ := Rg.row_shape hlv
      have hI2_0 := Rg.acc hI hb
      have hI2_1 := hb
      clear hb hI
      refine ⟨_, rfl, (hS _ _ hI2_1 hI2_0), ?_⟩
      go_frame
      have HLV := Lib.hid hlv
      have hKW := hI2_0
      have hc30 := (C30.out.below hI2_1).1
      have hVW := hI2_1
      obtain ⟨a9, c9, W9, r1, r2, r3, r4, r5, r6, r7⟩ := HC.out.push slPerms hVW (Rg.Ints.of_row HLV.out (by have := HLK.out; omega)) ((Rg.Fresh.of_row HLV.out)) (by rw [HTL.out]; omega) 22
      rw [HTL.out, ← HTK.out] at r4
      rw [HTL.out] at r1 r6 r7
      have hb := (Below.refl w22.heap.size w22).alloc (Nat.le_refl _) (.cells #[.slice xa lk.length xc] 62)
      have hI3_0 := Rg.acc hI2_1 hb
      have hI3_1 := Rg.acc hI2_0 hb
      have hI3_2 := hb
      clear hb hI2_1 hI2_0
      refine Rg.Any.one (i := 8) (by kernel_rfl) (Rg.Any.run (some 23) rfl rfl rfl (Rg.exec_buildSlice _ _ _ rfl (.slice xa lk.length xc) rfl (run_build1P w22 _ ⟨_, _, _, rfl⟩)) (hS _ _ hI3_0 hI3_1) ?_)
      go_frame
      generalize w22.alloc (.cells #[.slice xa lk.length xc] 62) = w23 at *
      have hI4_g := r5 (Nat.le_refl _) hKW
      refine Rg.Any.one (i := 9) (by kernel_rfl) (Rg.Any.run (some 24) rfl rfl rfl (Rg.exec_append _ _ _ rfl rfl rfl r1) (hS2 _ _ rfl hI4_g) ?_)
      go_frame
      clear hI3_0 hI3_1 hI3_2
      clear HC
      clear C30
      clear HLV
      refine Rg.Any.takeG (i := 10) (t := 9) (v := .pointer (some ⟨w1.heap.size, 1, none⟩)) (some 25) rfl rfl (by kernel_rfl) (by kernel_rfl) (by kernel_rfl) (fun _ _ _ h => h) rfl (.inl ⟨rfl, fun w _ => exec_fieldG _ rfl rfl⟩) (hS2 _ _ rfl hI4_g) ?_
      go_frame
      have hI5_g := r6 (Nat.le_refl _) hKW
      refine Rg.Any.one (i := 11) (by kernel_rfl) (Rg.Any.runSkip none rfl rfl rfl (Rg.exec_store _ _ _ rfl _ rfl _ rfl (Rg.run_storeSl _ infoPermsT r2 r3)) (hS2 _ _ rfl hI5_g) ?_)
      go_frame
      generalize W9.setCell ⟨w1.heap.size, 1, none⟩ (.slice a9 (k + 1) c9) = X11 at *
      clear hI4_g
      refine Rg.Any.done (by kernel_rfl) ?_ _
      replace K := Lib.hid hI5_g
      clear hS2
      clear hS hI5_g
      have HC2 := Lib.hid (show ∃ a c, Cst 22 62 w1.heap.size w1.heap.size 1 X11 (.slice a (k + 1) c) (ll.take (k + 1)) from ⟨a9, c9, r4⟩)
      have C32 := Lib.hid (show Cel X11 w1.heap.size 0 (.int .i64 d) from ⟨(r7 0 (by decide)).trans hc30, r4.lt⟩)
      clear hg1
      have hg1 := (G0.out.below K.out).c1
      clear r1 r2 r3 r4 r5 r6 r7 hc30 hKW
      go_wp2
      go_roundw
      case rel => exact ⟨k + 1, by omega, by go_num, HC2, C32, K⟩
      case measure => simp [intOf]; omega
    · obtain rfl : k = ll.length := by omega
      obtain ⟨W4, hst, hp4, hg4, hb4⟩ := (P2.out.below K.out).store d oa ll.length oc
      have hRF := HC.out.rowsF (by rw [List.take_length]; omega)
      rw [List.take_length] at hRF
      have HRF := Lib.hid (hRF.grown hg4 HLT2.out)
      have K4 := Lib.hid (hb4 (B := w.heap.size) HW0.out (Rg.acc K0.out K.out))
      have HP4 := Lib.hid hp4
      clear hRF hg4 hb4 hp4
      go_upto_region 6 with (fail)
      refine wp_region_list ?_
      refine Rg.list_run (some 26) rfl rfl (Rg.exec_load (v := .agg #[.int .i64 d, .slice oa ll.length oc]) _ _ rfl ⟨w1.heap.size, 0, none⟩ rfl (run_loadG C30.out.1 HC.out.cell)) ?_
      go_frame
      refine Rg.list_skip none rfl rfl (Rg.exec_store _ _ _ rfl _ rfl _ rfl hst) ?_
      go_frame
      clear hst HC C30 hg1
      have p0 := HP4.out.c0
      have p1 := HP4.out.c1
      go_wp2
      exact bodyPost_ret (results_cellG rfl _ rfl p0 p1) rfl ⟨_, _, rfl, HRF.out.rows, K4.out⟩
end Go.Proofs.Ytojbijkljnohoaa

