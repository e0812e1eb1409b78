/- Lemmas and contracts on the way to the statement; no condition of their own beyond those written. -/
import Derived.Test.YtojbijkljnohoaaXVdVfVgVhVi
import Derived.Test.YtojbijkljnohoaaXLg
set_option linter.unusedVariables false
/-! The law OrbitCalls. -/
namespace Go.Proofs.Ytojbijkljnohoaa
open Go.RowKit
open Go.Proofs
open Go.Proofs.Ob
attribute [local irreducible] Go.Calls

theorem Vjcl0 (args : Array Value) (w : World) : (callFunc 10 args).run Try.prog w = .ok (.enter 10 args) w := by kernel_rfl
theorem Vjcl1 (args : Array Value) (w : World) : (callFunc 15 args).run Try.prog w = .ok (.enter 15 args) w := by kernel_rfl
theorem Vjcl2 (args : Array Value) (w : World) : (callFunc 16 args).run Try.prog w = .ok (.enter 16 args) w := by kernel_rfl
theorem Vjcl3 (args : Array Value) (w : World) : (callFunc 17 args).run Try.prog w = .ok (.enter 17 args) w := by kernel_rfl
theorem Vjcl4 (args : Array Value) (w : World) : (callFunc 18 args).run Try.prog w = .ok (.enter 18 args) w := by kernel_rfl
theorem Vjcl5 (args : Array Value) (w : World) : (callFunc 19 args).run Try.prog w = .ok (.enter 19 args) w := by kernel_rfl
theorem Vjcl6 (args : Array Value) (w : World) : (callFunc 20 args).run Try.prog w = .ok (.enter 20 args) w := by kernel_rfl
theorem Vjcl7 (args : Array Value) (w : World) : (callFunc 21 args).run Try.prog w = .ok (.enter 21 args) w := by kernel_rfl
theorem Vjcl8 (args : Array Value) (w : World) : (callFunc 22 args).run Try.prog w = .ok (.enter 22 args) w := by kernel_rfl
theorem Vjcl9 (args : Array Value) (w : World) : (callFunc 23 args).run Try.prog w = .ok (.enter 23 args) w := by kernel_rfl
theorem Vjcl10 (args : Array Value) (w : World) : (callFunc 24 args).run Try.prog w = .ok (.enter 24 args) w := by kernel_rfl
theorem Vjcl11 (args : Array Value) (w : World) : (callFunc 25 args).run Try.prog w = .ok (.enter 25 args) w := by kernel_rfl
theorem Vjcl12 (args : Array Value) (w : World) : (callFunc 26 args).run Try.prog w = .ok (.enter 26 args) w := by kernel_rfl
theorem Vjcl13 (args : Array Value) (w : World) : (callFunc 27 args).run Try.prog w = .ok (.enter 27 args) w := by kernel_rfl
theorem Vjcl14 (args : Array Value) (w : World) : (callFunc 28 args).run Try.prog w = .ok (.enter 28 args) w := by kernel_rfl
theorem Vjcl15 (args : Array Value) (w : World) : (callFunc 11 args).run Try.prog w = .ok (.enter 11 args) w := by kernel_rfl
set_option maxHeartbeats 1000000 in
theorem SameLists_q (v1 v2 : Value) (l1 l2 : List (List Int)) (w : World) (h1 : Rg.Rows w v1 l1) (h2 : Rg.Rows w v2 l2) :
    Calls Try.prog 25 #[v1, v2] w fun e w' => e = .returned (.bool (decide (l1 = l2))) ∧ ∃ k, w' = w.drewN k := by
  obtain ⟨a1, c1, rfl, n1, m1, _, k1⟩ := h1.shape
  obtain ⟨a2, c2, rfl, n2, m2, _, k2⟩ := h2.shape
  clear h1 h2
  have K1 := Lib.hid k1
  have K2 := Lib.hid k2
  clear k1 k2
  generalize hD : decide (l1 = l2) = D
  have HD := Lib.hid hD
  clear hD
  by_cases hl : l1.length = l2.length
  · have hb : ((l1.length : Int) != (l2.length : Int)) = false := by rw [hl]; simp
    have Hl := Lib.hid hl
    clear hl
    go_enter Try.func25, Try.ntmps25
    go_wp2
    clear hb
    go_loopw [5] (fun v wr => ∃ i : Nat, v = .int .i64 i ∧ i ≤ l1.length ∧ Hid (∃ k, wr = w.drewN k) ∧ Hid (l1.take i = l2.take i)) (fun v _ => l1.length - (intOf v).toNat)
    case atStart => exact ⟨0, rfl, by omega, ⟨0, rfl⟩, by show _ = _; simp⟩
    case round =>
      obtain ⟨i, rfl, hi, hw, hs⟩ := hrel
      by_cases hlt : i < l1.length
      · have hi2 : i < l2.length := by have := Hl.out; omega
        obtain ⟨b1, o1, rfl, hb1, d1⟩ := K1.out (by omega)
        obtain ⟨b2, o2, rfl, hb2, d2⟩ := K2.out (by omega)
        obtain ⟨u1, y1, hu1⟩ := d1 i hlt
        obtain ⟨u2, y2, hu2⟩ := d2 i hi2
        have x1 : wr.cell? ⟨b1, o1 + i, none⟩ = some u1 := by obtain ⟨k, e⟩ := hw.out; rw [e]; exact y1
        have x2 : wr.cell? ⟨b2, o2 + i, none⟩ = some u2 := by obtain ⟨k, e⟩ := hw.out; rw [e]; exact y2
        have hlt2 : (i : Int) < (l2.length : Int) := by omega
        generalize hx : l1[i] = x at hu1
        generalize hy : l2[i] = y at hu2
        have Hx := Lib.hid hx
        have Hy := Lib.hid hy
        clear d1 d2 hx hy y1 y2
        have hq : ∀ n, _ := fun n => Same_q u1 u2 x y (wr.drewN n) (by obtain ⟨k, e⟩ := hw.out; rw [e]; exact hu1) (by obtain ⟨k, e⟩ := hw.out; rw [e]; exact hu2)
        by_cases he : x = y
        · have hdd : decide (x = y) = true := decide_eq_true he
          have He := Lib.hid he
          rw [hdd] at hq
          have Hq := Lib.hid hq
          clear he hdd hq
          go_wp2
          go_quiet ((go_at_call 24; exact Calls.quiet_of (Hq.out _)))
          go_wp2
          go_roundw
          case rel => exact ⟨i + 1, by go_num, by omega, by obtain ⟨k, e⟩ := hw.out; rw [e]; exact ⟨_, World.drewN_drewN _ _ _⟩, by show _ = _; rw [List.take_succ_eq_append_getElem hlt, List.take_succ_eq_append_getElem hi2, hs.out, Hx.out, Hy.out, He.out]⟩
          case measure => simp [intOf]; omega
        · have hdd : decide (x = y) = false := decide_eq_false he
          have He := Lib.hid he
          rw [hdd] at hq
          have Hq := Lib.hid hq
          clear he hdd hq
          go_wp2
          go_quiet ((go_at_call 24; exact Calls.quiet_of (Hq.out _)))
          go_wp2
          go_ret
          exact ⟨Rg.ret_bool (by rw [← HD.out]; symm; rw [decide_eq_false_iff_not]; intro hc; subst hc; exact He.out (Hx.out.symm.trans Hy.out)), by obtain ⟨k, e⟩ := hw.out; rw [e]; exact ⟨_, World.drewN_drewN _ _ _⟩⟩
      · go_wp2
        go_ret
        refine ⟨Rg.ret_bool ?_, hw.out⟩
        rw [← HD.out]; symm
        rw [decide_eq_true_eq]
        have h1 := hs.out
        rwa [List.take_of_length_le (by omega), List.take_of_length_le (by have := Hl.out; omega)] at h1
  · have hb : ((l1.length : Int) != (l2.length : Int)) = true := by rw [bne_iff_ne]; omega
    have Hl := Lib.hid hl
    clear hl
    go_enter Try.func25, Try.ntmps25
    go_wp2
    go_ret
    exact ⟨Rg.ret_bool (by rw [← HD.out]; symm; rw [decide_eq_false_iff_not]; intro hc; subst hc; exact Hl.out rfl), 0, rfl⟩

theorem SameLists_b {v1 v2 : Value} {l1 l2 : List (List Int)} {w : World} {b : Bool} (h1 : Rg.Rows w v1 l1) (h2 : Rg.Rows w v2 l2) (hd : Hid (decide (l1 = l2) = b)) :
    Calls Try.prog 25 #[v1, v2] w fun e w' => e = .returned (.bool b) ∧ Below w.heap.size w w' := by
  refine (SameLists_q v1 v2 l1 l2 w h1 h2).mono ?_
  rintro e w' ⟨rfl, k, rfl⟩
  exact ⟨by rw [hd.out], Rg.drewN (Below.refl _ _) k⟩
theorem GI.fresh {w : World} {d : Int} {a : Option Addr} {ll : List (List Int)} {c : Nat} (h : Rg.Rows w (.slice a ll.length c) ll) :
    ∃ W, (storeVar 24 ⟨w.heap.size, 0, none⟩ (.agg #[.int .i64 d, .slice a ll.length c])).run Try.prog (w.alloc (.cells #[.int .i64 0, .slice none 0 0] 24)) = .ok () W ∧ GI W w.heap.size d a ll c ∧ Below w.heap.size w W := by
  have n0 : (w.alloc (.cells #[.int .i64 0, .slice none 0 0] 24)).cell? ⟨w.heap.size, 0, none⟩ = some (.int .i64 0) := by rw [Rg.cellNew]; rfl
  have n1 : (w.alloc (.cells #[.int .i64 0, .slice none 0 0] 24)).cell? ⟨w.heap.size, 1, none⟩ = some (.slice none 0 0) := by rw [Rg.cellNew]; rfl
  obtain ⟨p0, p1, p2⟩ := group_set (.int .i64 d) (.slice a ll.length c) n0 n1 ((Below.refl w.heap.size w).alloc (Nat.le_refl _) _) (Nat.le_refl _)
  exact ⟨_, run_storeG _ a _ c n0 n1 (frozenNewN _ _ _ 0 _) (frozenNewN _ _ _ 0 _), ⟨p0, p1, Rg.Rows.below h p2, by simp⟩, p2⟩
theorem SameGroup_b {v1 v2 : Value} {d : Int} {l : List (List Int)} {w : World} (h1 : Rg.Rows w v1 l) (h2 : Rg.Rows w v2 l) :
    Calls Try.prog 28 #[.agg #[.int .i64 d, v1], .agg #[.int .i64 d, v2]] w fun e w' => e = .returned (.bool true) ∧ Below w.heap.size w w' := by
  refine (SameGroup_any v1 v2 d d l l h1 h2 (Below.refl w.heap.size w)).mono ?_
  rintro e w' ⟨rfl, hb⟩
  exact ⟨by unfold sameG; simp, hb⟩
set_option maxRecDepth 100000 in
set_option maxHeartbeats 8000000 in
theorem OrbitCalls_any (gv : Value) (d : Int) (ll : List (List Int)) (x y : Int) (w : World) (h : Rg.RowsB maxLen w gv ll) :
    Calls Try.prog 4 #[.agg #[.int .i64 d, gv], .int .i64 x, .int .i64 y] w fun e w' => e = .returned (.bool true) ∧ Below w.heap.size w w' := by
  have hv := h
  obtain ⟨ad, cap, rfl, hc, hlB, hcm, _⟩ := h.shape
  have hba0 := Lib.hid (show Below w.heap.size w (w.alloc (.cells #[.int .i64 d, .slice ad ll.length cap] 24)) from (Below.refl _ _).alloc (Nat.le_refl _) _)
  have hLG := LargeGroup_any (.slice ad ll.length cap) d ll _ (hv.below hba0.out)
  cases hlg : lg ll with
  | true =>
    have hg0 : (w.alloc (.cells #[.int .i64 d, .slice ad ll.length cap] 24)).cell? ⟨w.heap.size, 0, none⟩ = some (.int .i64 d) := by rw [Rg.cellNew]; rfl
    have hg1 : (w.alloc (.cells #[.int .i64 d, .slice ad ll.length cap] 24)).cell? ⟨w.heap.size, 1, none⟩ = some (.slice ad ll.length cap) := by rw [Rg.cellNew]; rfl
    have Hg0 := Lib.hid hg0
    have Hg1 := Lib.hid hg1
    rw [hlg] at hLG
    have HLG := Lib.hid hLG
    clear hLG h hv hlg hg0 hg1
    go_enter Try.func4, Try.ntmps4
    go_wp2_with (first | (go_at_call 10; refine HLG.out.mono ?_; rintro e w1 ⟨rfl, hb1⟩; have Hb1 := Lib.hid (Rg.acc hba0.out hb1); clear hb1) | (go_at_call 11; refine (awake_any _).mono ?_; rintro e w2 ⟨rfl, hb2⟩; have Hb2 := Lib.hid (Rg.acc Hb1.out hb2); clear hb2))
    go_ret
    exact ⟨rfl, Hb2.out⟩
  | false =>
    rw [hlg] at hLG
    have HLG := Lib.hid hLG
    obtain ⟨hs1, hs2⟩ := lg_small hlg
    have hR : Rg.Rows w (.slice ad ll.length cap) ll := hv.small (by omega) (fun l hl => by have := hs2 l hl; omega)
    have HS2 := Lib.hid hs2
    clear hLG h hv hlg hs2 hba0
    obtain ⟨ga, gc, e0, hga, hba⟩ := GI.enter d hR
    cases e0
    have K := Lib.hid hba
    have G0 := Lib.hid hga
    obtain ⟨o1, o2, ho⟩ : ∃ o1 o2, Hid (orbS d ll x = (o1, o2)) := ⟨_, _, Lib.hid rfl⟩
    obtain ⟨t1, t2, t3, ht⟩ : ∃ t1 t2 t3, Hid (treeR d ll x = (t1, t2, t3)) := ⟨_, _, _, Lib.hid rfl⟩
    obtain ⟨te, hte⟩ : ∃ te, Hid (ptE d ll x = te) := ⟨_, Lib.hid rfl⟩
    obtain ⟨p1, p2, hp⟩ : ∃ p1 p2, Hid (pathS d ll x y = (p1, p2)) := ⟨_, _, Lib.hid rfl⟩
    obtain ⟨r1, r2, hr⟩ : ∃ r1 r2, Hid (orbsS d ll = (r1, r2)) := ⟨_, _, Lib.hid rfl⟩
    obtain ⟨ck, hck⟩ : ∃ ck, Hid (Ma.gchk d ll = ck) := ⟨_, Lib.hid rfl⟩
    clear hga hba hR hc hlB hcm
    go_enter Try.func4, Try.ntmps4
    go_upto_region 1 with (fail)
    generalize w.alloc (.cells #[.int .i64 d, .slice ad ll.length cap] 24) = w0 at *
    refine wp_region_list ?_
    refine Rg.list_run (some 29) rfl rfl (Rg.exec_load (v := .agg #[.int .i64 d, .slice ad ll.length cap]) _ _ rfl ⟨w.heap.size, 0, none⟩ rfl (run_loadG G0.out.c0 G0.out.c1)) ?_
    go_frame
    refine list_ask (some 30) rfl rfl _ _ (exec_fn1 10 _ _ rfl rfl (Vjcl0 _ _)) ?_
    refine (HLG.out).mono ?_
    rintro e1 w1 ⟨rfl, hb⟩
    refine ⟨_, rfl, ?_⟩
    go_frame
    replace G0 := Lib.hid (G0.out.below hb)
    replace K := Lib.hid (Rg.acc K.out hb)
    clear hb
    go_upto_region 3 with (fail)
    refine wp_region_list ?_
    refine Rg.list_run (some 32) rfl rfl (Rg.exec_load (v := .agg #[.int .i64 d, .slice ad ll.length cap]) _ _ rfl ⟨w.heap.size, 0, none⟩ rfl (run_loadG G0.out.c0 G0.out.c1)) ?_
    go_frame
    refine list_ask (some 33) rfl rfl _ _ (exec_fn1 15 _ _ rfl rfl (Vjcl1 _ _)) ?_
    refine (OwnGroup_any _ d ll w1 G0.out.rows (by omega) (fun l hl => by have := HS2.out l hl; omega)).mono ?_
    rintro e1 w2 ⟨na, nc, rfl, hn, hb⟩
    have HN := Lib.hid hn
    clear hn
    refine ⟨_, rfl, ?_⟩
    go_frame
    replace G0 := Lib.hid (G0.out.below hb)
    replace K := Lib.hid (Rg.acc K.out hb)
    clear hb
    obtain ⟨W2, hst, hga, hb⟩ := GI.fresh (d := d) HN.out
    refine Rg.list_run (some 7) rfl rfl (exec_allocG rfl) ?_
    go_frame
    clear HN
    refine Rg.list_skip none rfl rfl (Rg.exec_store _ _ _ rfl _ rfl _ rfl hst) ?_
    go_frame
    clear hst
    replace G0 := Lib.hid (G0.out.below hb)
    replace K := Lib.hid (Rg.acc K.out hb)
    clear hb
    have G7 := Lib.hid hga
    clear hga
    go_upto_region 4 with (fail)
    refine wp_region_list ?_
    refine Rg.list_run (some 35) rfl rfl (Rg.exec_load (v := .agg #[.int .i64 d, .slice na ll.length nc]) _ _ rfl ⟨w2.heap.size, 0, none⟩ rfl (run_loadG G7.out.c0 G7.out.c1)) ?_
    go_frame
    refine Rg.list_run (some 36) rfl rfl (Rg.exec_move (v := .int .i64 x) _ rfl rfl) ?_
    go_frame
    refine list_ask (some 37) rfl rfl _ _ (exec_fn 16 _ _ _ rfl rfl rfl (Vjcl2 _ _)) ?_
    refine (Orbit_any _ d ll x W2 G7.out.rows).mono ?_
    rintro e1 w3 ⟨v1, rfl, h1, hb⟩
    rw [ho.out] at h1 ⊢
    refine ⟨_, rfl, ?_⟩
    go_frame
    replace G0 := Lib.hid (G0.out.below hb)
    replace G7 := Lib.hid (G7.out.below hb)
    replace K := Lib.hid (Rg.acc K.out hb)
    clear hb
    have O1 := Lib.hid h1
    refine Rg.list_run (some 34) rfl rfl (Rg.exec_move (v := .tuple #[v1, .int .i64 o2]) _ rfl rfl) ?_
    go_frame
    refine Rg.list_run (some 38) rfl rfl (exec_extract (v := v1) _ _ rfl rfl rfl) ?_
    go_frame
    refine Rg.list_run (some 39) rfl rfl (exec_extract (v := .int .i64 o2) _ _ rfl rfl rfl) ?_
    go_frame
    refine Rg.list_run (some 8) rfl rfl (Rg.exec_assign (v := v1) _ rfl rfl) ?_
    go_frame
    refine Rg.list_run (some 9) rfl rfl (Rg.exec_assign (v := .int .i64 o2) _ rfl rfl) ?_
    go_frame
    go_upto_region 5 with (fail)
    refine wp_region_list ?_
    refine Rg.list_run (some 41) rfl rfl (Rg.exec_load (v := .agg #[.int .i64 d, .slice ad ll.length cap]) _ _ rfl ⟨w.heap.size, 0, none⟩ rfl (run_loadG G0.out.c0 G0.out.c1)) ?_
    go_frame
    refine Rg.list_run (some 42) rfl rfl (Rg.exec_move (v := .int .i64 x) _ rfl rfl) ?_
    go_frame
    refine list_ask (some 43) rfl rfl _ _ (exec_fn 17 _ _ _ rfl rfl rfl (Vjcl3 _ _)) ?_
    refine (refOrbit_any _ d ll x w3 G0.out.rows).mono ?_
    rintro e1 w4 ⟨v2, rfl, h2, hb⟩
    rw [ho.out] at h2 ⊢
    refine ⟨_, rfl, ?_⟩
    go_frame
    replace G0 := Lib.hid (G0.out.below hb)
    replace G7 := Lib.hid (G7.out.below hb)
    replace O1 := Lib.hid (O1.out.below hb)
    replace K := Lib.hid (Rg.acc K.out hb)
    clear hb
    have O2 := Lib.hid h2
    refine Rg.list_run (some 40) rfl rfl (Rg.exec_move (v := .tuple #[v2, .int .i64 o2]) _ rfl rfl) ?_
    go_frame
    refine Rg.list_run (some 44) rfl rfl (exec_extract (v := v2) _ _ rfl rfl rfl) ?_
    go_frame
    refine Rg.list_run (some 45) rfl rfl (exec_extract (v := .int .i64 o2) _ _ rfl rfl rfl) ?_
    go_frame
    refine Rg.list_run (some 10) rfl rfl (Rg.exec_assign (v := v2) _ rfl rfl) ?_
    go_frame
    refine Rg.list_run (some 11) rfl rfl (Rg.exec_assign (v := .int .i64 o2) _ rfl rfl) ?_
    go_frame
    go_upto_region 6 with (fail)
    refine wp_region_list ?_
    refine Rg.list_run (some 47) rfl rfl (Rg.exec_load (v := .agg #[.int .i64 d, .slice na ll.length nc]) _ _ rfl ⟨w2.heap.size, 0, none⟩ rfl (run_loadG G7.out.c0 G7.out.c1)) ?_
    go_frame
    refine Rg.list_run (some 48) rfl rfl (Rg.exec_move (v := .int .i64 x) _ rfl rfl) ?_
    go_frame
    refine list_ask (some 49) rfl rfl _ _ (exec_fn 18 _ _ _ rfl rfl rfl (Vjcl4 _ _)) ?_
    refine (Tree_any _ d ll x w4 G7.out.rows).mono ?_
    rintro e1 w5 ⟨v3a, v3b, v3c, rfl, h3a, h3b, h3c, hb⟩
    rw [ht.out] at h3a h3b h3c
    rw [hte.out]
    refine ⟨_, rfl, ?_⟩
    go_frame
    replace G0 := Lib.hid (G0.out.below hb)
    replace G7 := Lib.hid (G7.out.below hb)
    replace O1 := Lib.hid (O1.out.below hb)
    replace O2 := Lib.hid (O2.out.below hb)
    replace K := Lib.hid (Rg.acc K.out hb)
    clear hb
    have O3a := Lib.hid h3a
    have O3b := Lib.hid h3b
    have O3c := Lib.hid h3c
    refine Rg.list_run (some 46) rfl rfl (Rg.exec_move (v := .tuple #[v3a, v3b, v3c, .int .i64 te]) _ rfl rfl) ?_
    go_frame
    refine Rg.list_run (some 50) rfl rfl (exec_extract (v := v3a) _ _ rfl rfl rfl) ?_
    go_frame
    refine Rg.list_run (some 51) rfl rfl (exec_extract (v := v3b) _ _ rfl rfl rfl) ?_
    go_frame
    refine Rg.list_run (some 52) rfl rfl (exec_extract (v := v3c) _ _ rfl rfl rfl) ?_
    go_frame
    refine Rg.list_run (some 53) rfl rfl (exec_extract (v := .int .i64 te) _ _ rfl rfl rfl) ?_
    go_frame
    refine Rg.list_run (some 12) rfl rfl (Rg.exec_assign (v := v3a) _ rfl rfl) ?_
    go_frame
    refine Rg.list_run (some 13) rfl rfl (Rg.exec_assign (v := v3b) _ rfl rfl) ?_
    go_frame
    refine Rg.list_run (some 14) rfl rfl (Rg.exec_assign (v := v3c) _ rfl rfl) ?_
    go_frame
    refine Rg.list_run (some 15) rfl rfl (Rg.exec_assign (v := .int .i64 te) _ rfl rfl) ?_
    go_frame
    go_upto_region 7 with (fail)
    refine wp_region_list ?_
    refine Rg.list_run (some 55) rfl rfl (Rg.exec_load (v := .agg #[.int .i64 d, .slice ad ll.length cap]) _ _ rfl ⟨w.heap.size, 0, none⟩ rfl (run_loadG G0.out.c0 G0.out.c1)) ?_
    go_frame
    refine Rg.list_run (some 56) rfl rfl (Rg.exec_move (v := .int .i64 x) _ rfl rfl) ?_
    go_frame
    refine list_ask (some 57) rfl rfl _ _ (exec_fn 19 _ _ _ rfl rfl rfl (Vjcl5 _ _)) ?_
    refine (refTree_any _ d ll x w5 G0.out.rows).mono ?_
    rintro e1 w6 ⟨v4a, v4b, v4c, rfl, h4a, h4b, h4c, hb⟩
    rw [ht.out] at h4a h4b h4c
    rw [hte.out]
    refine ⟨_, rfl, ?_⟩
    go_frame
    replace G0 := Lib.hid (G0.out.below hb)
    replace G7 := Lib.hid (G7.out.below hb)
    replace O1 := Lib.hid (O1.out.below hb)
    replace O2 := Lib.hid (O2.out.below hb)
    replace O3a := Lib.hid (O3a.out.below hb)
    replace O3b := Lib.hid (O3b.out.below hb)
    replace O3c := Lib.hid (O3c.out.below hb)
    replace K := Lib.hid (Rg.acc K.out hb)
    clear hb
    have O4a := Lib.hid h4a
    have O4b := Lib.hid h4b
    have O4c := Lib.hid h4c
    refine Rg.list_run (some 54) rfl rfl (Rg.exec_move (v := .tuple #[v4a, v4b, v4c, .int .i64 te]) _ rfl rfl) ?_
    go_frame
    refine Rg.list_run (some 58) rfl rfl (exec_extract (v := v4a) _ _ rfl rfl rfl) ?_
    go_frame
    refine Rg.list_run (some 59) rfl rfl (exec_extract (v := v4b) _ _ rfl rfl rfl) ?_
    go_frame
    refine Rg.list_run (some 60) rfl rfl (exec_extract (v := v4c) _ _ rfl rfl rfl) ?_
    go_frame
    refine Rg.list_run (some 61) rfl rfl (exec_extract (v := .int .i64 te) _ _ rfl rfl rfl) ?_
    go_frame
    refine Rg.list_run (some 16) rfl rfl (Rg.exec_assign (v := v4a) _ rfl rfl) ?_
    go_frame
    refine Rg.list_run (some 17) rfl rfl (Rg.exec_assign (v := v4b) _ rfl rfl) ?_
    go_frame
    refine Rg.list_run (some 18) rfl rfl (Rg.exec_assign (v := v4c) _ rfl rfl) ?_
    go_frame
    refine Rg.list_run (some 19) rfl rfl (Rg.exec_assign (v := .int .i64 te) _ rfl rfl) ?_
    go_frame
    go_upto_region 8 with (fail)
    refine wp_region_list ?_
    refine Rg.list_run (some 63) rfl rfl (Rg.exec_load (v := .agg #[.int .i64 d, .slice na ll.length nc]) _ _ rfl ⟨w2.heap.size, 0, none⟩ rfl (run_loadG G7.out.c0 G7.out.c1)) ?_
    go_frame
    refine Rg.list_run (some 64) rfl rfl (Rg.exec_move (v := .int .i64 x) _ rfl rfl) ?_
    go_frame
    refine Rg.list_run (some 65) rfl rfl (Rg.exec_move (v := .int .i64 y) _ rfl rfl) ?_
    go_frame
    refine list_ask (some 66) rfl rfl _ _ (exec_fn3 20 _ _ _ _ rfl rfl rfl rfl (Vjcl6 _ _)) ?_
    refine (Path_any _ d ll x y w6 G7.out.rows).mono ?_
    rintro e1 w7 ⟨v5, rfl, h5, hb⟩
    rw [hp.out] at h5 ⊢
    refine ⟨_, rfl, ?_⟩
    go_frame
    replace G0 := Lib.hid (G0.out.below hb)
    replace G7 := Lib.hid (G7.out.below hb)
    replace O1 := Lib.hid (O1.out.below hb)
    replace O2 := Lib.hid (O2.out.below hb)
    replace O3a := Lib.hid (O3a.out.below hb)
    replace O3b := Lib.hid (O3b.out.below hb)
    replace O3c := Lib.hid (O3c.out.below hb)
    replace O4a := Lib.hid (O4a.out.below hb)
    replace O4b := Lib.hid (O4b.out.below hb)
    replace O4c := Lib.hid (O4c.out.below hb)
    replace K := Lib.hid (Rg.acc K.out hb)
    clear hb
    have O5 := Lib.hid h5
    refine Rg.list_run (some 62) rfl rfl (Rg.exec_move (v := .tuple #[v5, .int .i64 p2]) _ rfl rfl) ?_
    go_frame
    refine Rg.list_run (some 67) rfl rfl (exec_extract (v := v5) _ _ rfl rfl rfl) ?_
    go_frame
    refine Rg.list_run (some 68) rfl rfl (exec_extract (v := .int .i64 p2) _ _ rfl rfl rfl) ?_
    go_frame
    refine Rg.list_run (some 20) rfl rfl (Rg.exec_assign (v := v5) _ rfl rfl) ?_
    go_frame
    refine Rg.list_run (some 21) rfl rfl (Rg.exec_assign (v := .int .i64 p2) _ rfl rfl) ?_
    go_frame
    go_upto_region 9 with (fail)
    refine wp_region_list ?_
    refine Rg.list_run (some 70) rfl rfl (Rg.exec_load (v := .agg #[.int .i64 d, .slice ad ll.length cap]) _ _ rfl ⟨w.heap.size, 0, none⟩ rfl (run_loadG G0.out.c0 G0.out.c1)) ?_
    go_frame
    refine Rg.list_run (some 71) rfl rfl (Rg.exec_move (v := .int .i64 x) _ rfl rfl) ?_
    go_frame
    refine Rg.list_run (some 72) rfl rfl (Rg.exec_move (v := .int .i64 y) _ rfl rfl) ?_
    go_frame
    refine list_ask (some 73) rfl rfl _ _ (exec_fn3 21 _ _ _ _ rfl rfl rfl rfl (Vjcl7 _ _)) ?_
    refine (refPath_any _ d ll x y w7 G0.out.rows).mono ?_
    rintro e1 w8 ⟨v6, rfl, h6, hb⟩
    rw [hp.out] at h6 ⊢
    refine ⟨_, rfl, ?_⟩
    go_frame
    replace G0 := Lib.hid (G0.out.below hb)
    replace G7 := Lib.hid (G7.out.below hb)
    replace O1 := Lib.hid (O1.out.below hb)
    replace O2 := Lib.hid (O2.out.below hb)
    replace O3a := Lib.hid (O3a.out.below hb)
    replace O3b := Lib.hid (O3b.out.below hb)
    replace O3c := Lib.hid (O3c.out.below hb)
    replace O4a := Lib.hid (O4a.out.below hb)
    replace O4b := Lib.hid (O4b.out.below hb)
    replace O4c := Lib.hid (O4c.out.below hb)
    replace O5 := Lib.hid (O5.out.below hb)
    replace K := Lib.hid (Rg.acc K.out hb)
    clear hb
    have O6 := Lib.hid h6
    refine Rg.list_run (some 69) rfl rfl (Rg.exec_move (v := .tuple #[v6, .int .i64 p2]) _ rfl rfl) ?_
    go_frame
    refine Rg.list_run (some 74) rfl rfl (exec_extract (v := v6) _ _ rfl rfl rfl) ?_
    go_frame
    refine Rg.list_run (some 75) rfl rfl (exec_extract (v := .int .i64 p2) _ _ rfl rfl rfl) ?_
    go_frame
    refine Rg.list_run (some 22) rfl rfl (Rg.exec_assign (v := v6) _ rfl rfl) ?_
    go_frame
    refine Rg.list_run (some 23) rfl rfl (Rg.exec_assign (v := .int .i64 p2) _ rfl rfl) ?_
    go_frame
    go_upto_region 10 with (fail)
    refine wp_region_list ?_
    refine Rg.list_run (some 77) rfl rfl (Rg.exec_load (v := .agg #[.int .i64 d, .slice na ll.length nc]) _ _ rfl ⟨w2.heap.size, 0, none⟩ rfl (run_loadG G7.out.c0 G7.out.c1)) ?_
    go_frame
    refine list_ask (some 78) rfl rfl _ _ (exec_fn1 22 _ _ rfl rfl (Vjcl8 _ _)) ?_
    refine (Orbits_any _ d ll w8 G7.out.rows).mono ?_
    rintro e1 w9 ⟨v7, rfl, h7, hb⟩
    rw [hr.out] at h7 ⊢
    refine ⟨_, rfl, ?_⟩
    go_frame
    replace G0 := Lib.hid (G0.out.below hb)
    replace G7 := Lib.hid (G7.out.below hb)
    replace O1 := Lib.hid (O1.out.below hb)
    replace O2 := Lib.hid (O2.out.below hb)
    replace O3a := Lib.hid (O3a.out.below hb)
    replace O3b := Lib.hid (O3b.out.below hb)
    replace O3c := Lib.hid (O3c.out.below hb)
    replace O4a := Lib.hid (O4a.out.below hb)
    replace O4b := Lib.hid (O4b.out.below hb)
    replace O4c := Lib.hid (O4c.out.below hb)
    replace O5 := Lib.hid (O5.out.below hb)
    replace O6 := Lib.hid (O6.out.below hb)
    replace K := Lib.hid (Rg.acc K.out hb)
    clear hb
    have O7 := Lib.hid h7
    refine Rg.list_run (some 76) rfl rfl (Rg.exec_move (v := .tuple #[v7, .int .i64 r2]) _ rfl rfl) ?_
    go_frame
    refine Rg.list_run (some 79) rfl rfl (exec_extract (v := v7) _ _ rfl rfl rfl) ?_
    go_frame
    refine Rg.list_run (some 80) rfl rfl (exec_extract (v := .int .i64 r2) _ _ rfl rfl rfl) ?_
    go_frame
    refine Rg.list_run (some 24) rfl rfl (Rg.exec_assign (v := v7) _ rfl rfl) ?_
    go_frame
    refine Rg.list_run (some 25) rfl rfl (Rg.exec_assign (v := .int .i64 r2) _ rfl rfl) ?_
    go_frame
    go_upto_region 11 with (fail)
    refine wp_region_list ?_
    refine Rg.list_run (some 82) rfl rfl (Rg.exec_load (v := .agg #[.int .i64 d, .slice ad ll.length cap]) _ _ rfl ⟨w.heap.size, 0, none⟩ rfl (run_loadG G0.out.c0 G0.out.c1)) ?_
    go_frame
    refine list_ask (some 83) rfl rfl _ _ (exec_fn1 23 _ _ rfl rfl (Vjcl9 _ _)) ?_
    refine (refOrbits_any _ d ll w9 G0.out.rows).mono ?_
    rintro e1 w10 ⟨v8, rfl, h8, hb⟩
    rw [hr.out] at h8 ⊢
    refine ⟨_, rfl, ?_⟩
    go_frame
    replace G0 := Lib.hid (G0.out.below hb)
    replace G7 := Lib.hid (G7.out.below hb)
    replace O1 := Lib.hid (O1.out.below hb)
    replace O2 := Lib.hid (O2.out.below hb)
    replace O3a := Lib.hid (O3a.out.below hb)
    replace O3b := Lib.hid (O3b.out.below hb)
    replace O3c := Lib.hid (O3c.out.below hb)
    replace O4a := Lib.hid (O4a.out.below hb)
    replace O4b := Lib.hid (O4b.out.below hb)
    replace O4c := Lib.hid (O4c.out.below hb)
    replace O5 := Lib.hid (O5.out.below hb)
    replace O6 := Lib.hid (O6.out.below hb)
    replace O7 := Lib.hid (O7.out.below hb)
    replace K := Lib.hid (Rg.acc K.out hb)
    clear hb
    have O8 := Lib.hid h8
    refine Rg.list_run (some 81) rfl rfl (Rg.exec_move (v := .tuple #[v8, .int .i64 r2]) _ rfl rfl) ?_
    go_frame
    refine Rg.list_run (some 84) rfl rfl (exec_extract (v := v8) _ _ rfl rfl rfl) ?_
    go_frame
    refine Rg.list_run (some 85) rfl rfl (exec_extract (v := .int .i64 r2) _ _ rfl rfl rfl) ?_
    go_frame
    refine Rg.list_run (some 26) rfl rfl (Rg.exec_assign (v := v8) _ rfl rfl) ?_
    go_frame
    refine Rg.list_run (some 27) rfl rfl (Rg.exec_assign (v := .int .i64 r2) _ rfl rfl) ?_
    go_frame
    go_upto_region 12 with (fail)
    refine wp_region_list ?_
    refine listW_run (some 86) rfl rfl (Rg.exec_move (v := v1) _ rfl rfl) ?_
    go_frame
    refine listW_run (some 87) rfl rfl (Rg.exec_move (v := v2) _ rfl rfl) ?_
    go_frame
    refine listW_ask (some 88) rfl rfl _ _ (exec_fn 24 _ _ _ rfl rfl rfl (Vjcl10 _ _)) ?_
    refine (Same_any (w0 := w10) (b := true) O1.out O2.out (selfT _) (Below.refl _ _)).mono ?_
    rintro e1 w11 ⟨rfl, hb⟩
    refine ⟨_, rfl, ?_⟩
    go_frame
    replace G0 := Lib.hid (G0.out.below hb)
    replace G7 := Lib.hid (G7.out.below hb)
    replace O1 := Lib.hid (O1.out.below hb)
    replace O2 := Lib.hid (O2.out.below hb)
    replace O3a := Lib.hid (O3a.out.below hb)
    replace O3b := Lib.hid (O3b.out.below hb)
    replace O3c := Lib.hid (O3c.out.below hb)
    replace O4a := Lib.hid (O4a.out.below hb)
    replace O4b := Lib.hid (O4b.out.below hb)
    replace O4c := Lib.hid (O4c.out.below hb)
    replace O5 := Lib.hid (O5.out.below hb)
    replace O6 := Lib.hid (O6.out.below hb)
    replace O7 := Lib.hid (O7.out.below hb)
    replace O8 := Lib.hid (O8.out.below hb)
    replace K := Lib.hid (Rg.acc K.out hb)
    clear hb
    refine listW_run (some 89) rfl rfl (Rg.exec_move (v := .bool true) _ rfl rfl) ?_
    go_frame
    refine listW_run (some 90) rfl rfl (Rg.exec_move (v := .int .i64 o2) _ rfl rfl) ?_
    go_frame
    refine listW_run (some 91) rfl rfl (Rg.exec_move (v := .int .i64 o2) _ rfl rfl) ?_
    go_frame
    refine listW_run (some 92) rfl rfl (exec_eqI _ _ rfl rfl rfl rfl) ?_
    go_frame
    refine listW_run (some 93) rfl rfl (exec_pickT (v := .bool true) _ _ _ rfl rfl rfl) ?_
    go_frame
    refine listW_run (some 94) rfl rfl (Rg.exec_move (v := .bool true) _ rfl rfl) ?_
    go_frame
    refine listW_run (some 95) rfl rfl (Rg.exec_move (v := v3a) _ rfl rfl) ?_
    go_frame
    refine listW_run (some 96) rfl rfl (Rg.exec_move (v := v4a) _ rfl rfl) ?_
    go_frame
    refine listW_ask (some 97) rfl rfl _ _ (exec_fn 24 _ _ _ rfl rfl rfl (Vjcl10 _ _)) ?_
    refine (Same_any (w0 := w11) (b := true) O3a.out O4a.out (selfT _) (Below.refl _ _)).mono ?_
    rintro e1 w12 ⟨rfl, hb⟩
    refine ⟨_, rfl, ?_⟩
    go_frame
    replace G0 := Lib.hid (G0.out.below hb)
    replace G7 := Lib.hid (G7.out.below hb)
    replace O1 := Lib.hid (O1.out.below hb)
    replace O2 := Lib.hid (O2.out.below hb)
    replace O3a := Lib.hid (O3a.out.below hb)
    replace O3b := Lib.hid (O3b.out.below hb)
    replace O3c := Lib.hid (O3c.out.below hb)
    replace O4a := Lib.hid (O4a.out.below hb)
    replace O4b := Lib.hid (O4b.out.below hb)
    replace O4c := Lib.hid (O4c.out.below hb)
    replace O5 := Lib.hid (O5.out.below hb)
    replace O6 := Lib.hid (O6.out.below hb)
    replace O7 := Lib.hid (O7.out.below hb)
    replace O8 := Lib.hid (O8.out.below hb)
    replace K := Lib.hid (Rg.acc K.out hb)
    clear hb
    refine listW_run (some 98) rfl rfl (exec_pickT (v := .bool true) _ _ _ rfl rfl rfl) ?_
    go_frame
    refine listW_run (some 99) rfl rfl (Rg.exec_move (v := .bool true) _ rfl rfl) ?_
    go_frame
    refine listW_run (some 100) rfl rfl (Rg.exec_move (v := v3b) _ rfl rfl) ?_
    go_frame
    refine listW_run (some 101) rfl rfl (Rg.exec_move (v := v4b) _ rfl rfl) ?_
    go_frame
    refine listW_ask (some 102) rfl rfl _ _ (exec_fn 24 _ _ _ rfl rfl rfl (Vjcl10 _ _)) ?_
    refine (Same_any (w0 := w12) (b := true) O3b.out O4b.out (selfT _) (Below.refl _ _)).mono ?_
    rintro e1 w13 ⟨rfl, hb⟩
    refine ⟨_, rfl, ?_⟩
    go_frame
    replace G0 := Lib.hid (G0.out.below hb)
    replace G7 := Lib.hid (G7.out.below hb)
    replace O1 := Lib.hid (O1.out.below hb)
    replace O2 := Lib.hid (O2.out.below hb)
    replace O3a := Lib.hid (O3a.out.below hb)
    replace O3b := Lib.hid (O3b.out.below hb)
    replace O3c := Lib.hid (O3c.out.below hb)
    replace O4a := Lib.hid (O4a.out.below hb)
    replace O4b := Lib.hid (O4b.out.below hb)
    replace O4c := Lib.hid (O4c.out.below hb)
    replace O5 := Lib.hid (O5.out.below hb)
    replace O6 := Lib.hid (O6.out.below hb)
    replace O7 := Lib.hid (O7.out.below hb)
    replace O8 := Lib.hid (O8.out.below hb)
    replace K := Lib.hid (Rg.acc K.out hb)
    clear hb
    refine listW_run (some 103) rfl rfl (exec_pickT (v := .bool true) _ _ _ rfl rfl rfl) ?_
    go_frame
    refine listW_run (some 104) rfl rfl (Rg.exec_move (v := .bool true) _ rfl rfl) ?_
    go_frame
    refine listW_run (some 105) rfl rfl (Rg.exec_move (v := v3c) _ rfl rfl) ?_
    go_frame
    refine listW_run (some 106) rfl rfl (Rg.exec_move (v := v4c) _ rfl rfl) ?_
    go_frame
    refine listW_ask (some 107) rfl rfl _ _ (exec_fn 24 _ _ _ rfl rfl rfl (Vjcl10 _ _)) ?_
    refine (Same_any (w0 := w13) (b := true) O3c.out O4c.out (selfT _) (Below.refl _ _)).mono ?_
    rintro e1 w14 ⟨rfl, hb⟩
    refine ⟨_, rfl, ?_⟩
    go_frame
    replace G0 := Lib.hid (G0.out.below hb)
    replace G7 := Lib.hid (G7.out.below hb)
    replace O1 := Lib.hid (O1.out.below hb)
    replace O2 := Lib.hid (O2.out.below hb)
    replace O3a := Lib.hid (O3a.out.below hb)
    replace O3b := Lib.hid (O3b.out.below hb)
    replace O3c := Lib.hid (O3c.out.below hb)
    replace O4a := Lib.hid (O4a.out.below hb)
    replace O4b := Lib.hid (O4b.out.below hb)
    replace O4c := Lib.hid (O4c.out.below hb)
    replace O5 := Lib.hid (O5.out.below hb)
    replace O6 := Lib.hid (O6.out.below hb)
    replace O7 := Lib.hid (O7.out.below hb)
    replace O8 := Lib.hid (O8.out.below hb)
    replace K := Lib.hid (Rg.acc K.out hb)
    clear hb
    refine listW_run (some 108) rfl rfl (exec_pickT (v := .bool true) _ _ _ rfl rfl rfl) ?_
    go_frame
    refine listW_run (some 109) rfl rfl (Rg.exec_move (v := .bool true) _ rfl rfl) ?_
    go_frame
    refine listW_run (some 110) rfl rfl (Rg.exec_move (v := .int .i64 te) _ rfl rfl) ?_
    go_frame
    refine listW_run (some 111) rfl rfl (Rg.exec_move (v := .int .i64 te) _ rfl rfl) ?_
    go_frame
    refine listW_run (some 112) rfl rfl (exec_eqI _ _ rfl rfl rfl rfl) ?_
    go_frame
    refine listW_run (some 113) rfl rfl (exec_pickT (v := .bool true) _ _ _ rfl rfl rfl) ?_
    go_frame
    refine listW_run (some 114) rfl rfl (Rg.exec_move (v := .bool true) _ rfl rfl) ?_
    go_frame
    refine listW_run (some 115) rfl rfl (Rg.exec_move (v := v5) _ rfl rfl) ?_
    go_frame
    refine listW_run (some 116) rfl rfl (Rg.exec_move (v := v6) _ rfl rfl) ?_
    go_frame
    refine listW_ask (some 117) rfl rfl _ _ (exec_fn 24 _ _ _ rfl rfl rfl (Vjcl10 _ _)) ?_
    refine (Same_any (w0 := w14) (b := true) O5.out O6.out (selfT _) (Below.refl _ _)).mono ?_
    rintro e1 w15 ⟨rfl, hb⟩
    refine ⟨_, rfl, ?_⟩
    go_frame
    replace G0 := Lib.hid (G0.out.below hb)
    replace G7 := Lib.hid (G7.out.below hb)
    replace O1 := Lib.hid (O1.out.below hb)
    replace O2 := Lib.hid (O2.out.below hb)
    replace O3a := Lib.hid (O3a.out.below hb)
    replace O3b := Lib.hid (O3b.out.below hb)
    replace O3c := Lib.hid (O3c.out.below hb)
    replace O4a := Lib.hid (O4a.out.below hb)
    replace O4b := Lib.hid (O4b.out.below hb)
    replace O4c := Lib.hid (O4c.out.below hb)
    replace O5 := Lib.hid (O5.out.below hb)
    replace O6 := Lib.hid (O6.out.below hb)
    replace O7 := Lib.hid (O7.out.below hb)
    replace O8 := Lib.hid (O8.out.below hb)
    replace K := Lib.hid (Rg.acc K.out hb)
    clear hb
    refine listW_run (some 118) rfl rfl (exec_pickT (v := .bool true) _ _ _ rfl rfl rfl) ?_
    go_frame
    refine listW_run (some 119) rfl rfl (Rg.exec_move (v := .bool true) _ rfl rfl) ?_
    go_frame
    refine listW_run (some 120) rfl rfl (Rg.exec_move (v := .int .i64 p2) _ rfl rfl) ?_
    go_frame
    refine listW_run (some 121) rfl rfl (Rg.exec_move (v := .int .i64 p2) _ rfl rfl) ?_
    go_frame
    refine listW_run (some 122) rfl rfl (exec_eqI _ _ rfl rfl rfl rfl) ?_
    go_frame
    refine listW_run (some 123) rfl rfl (exec_pickT (v := .bool true) _ _ _ rfl rfl rfl) ?_
    go_frame
    refine listW_run (some 124) rfl rfl (Rg.exec_move (v := .bool true) _ rfl rfl) ?_
    go_frame
    refine listW_run (some 125) rfl rfl (Rg.exec_move (v := v7) _ rfl rfl) ?_
    go_frame
    refine listW_run (some 126) rfl rfl (Rg.exec_move (v := v8) _ rfl rfl) ?_
    go_frame
    refine listW_ask (some 127) rfl rfl _ _ (exec_fn 25 _ _ _ rfl rfl rfl (Vjcl11 _ _)) ?_
    refine (SameLists_b (b := true) O7.out O8.out (Lib.hid (decide_eq_true rfl))).mono ?_
    rintro e1 w16 ⟨rfl, hb⟩
    refine ⟨_, rfl, ?_⟩
    go_frame
    replace G0 := Lib.hid (G0.out.below hb)
    replace G7 := Lib.hid (G7.out.below hb)
    replace O1 := Lib.hid (O1.out.below hb)
    replace O2 := Lib.hid (O2.out.below hb)
    replace O3a := Lib.hid (O3a.out.below hb)
    replace O3b := Lib.hid (O3b.out.below hb)
    replace O3c := Lib.hid (O3c.out.below hb)
    replace O4a := Lib.hid (O4a.out.below hb)
    replace O4b := Lib.hid (O4b.out.below hb)
    replace O4c := Lib.hid (O4c.out.below hb)
    replace O5 := Lib.hid (O5.out.below hb)
    replace O6 := Lib.hid (O6.out.below hb)
    replace O7 := Lib.hid (O7.out.below hb)
    replace O8 := Lib.hid (O8.out.below hb)
    replace K := Lib.hid (Rg.acc K.out hb)
    clear hb
    refine listW_run (some 128) rfl rfl (exec_pickT (v := .bool true) _ _ _ rfl rfl rfl) ?_
    go_frame
    refine listW_run (some 129) rfl rfl (Rg.exec_move (v := .bool true) _ rfl rfl) ?_
    go_frame
    refine listW_run (some 130) rfl rfl (Rg.exec_move (v := .int .i64 r2) _ rfl rfl) ?_
    go_frame
    refine listW_run (some 131) rfl rfl (Rg.exec_move (v := .int .i64 r2) _ rfl rfl) ?_
    go_frame
    refine listW_run (some 132) rfl rfl (exec_eqI _ _ rfl rfl rfl rfl) ?_
    go_frame
    refine listW_run (some 133) rfl rfl (exec_pickT (v := .bool true) _ _ _ rfl rfl rfl) ?_
    go_frame
    refine listW_run (some 28) rfl rfl (Rg.exec_assign (v := .bool true) _ rfl rfl) ?_
    go_frame
    clear O1 O2 O3a O3b O3c O4a O4b O4c O5 O6 O7 O8 ho ht hte hp hr HLG HS2
    go_upto_region 13 with (fail)
    have hV0 : Below w16.heap.size w16 w16.drew := (Below.refl _ _).drew
    replace G0 := Lib.hid (G0.out.below hV0)
    replace G7 := Lib.hid (G7.out.below hV0)
    replace K := Lib.hid (Rg.acc K.out hV0)
    clear hV0
    refine Rg.Any.begin (S := Rg.Both 16 (fun _ => True) (fun W => Below w16.drew.heap.size w16.drew W)) mix ?_
    generalize w16.drew = w17 at *
    have hS : ∀ (l : Array Bool) W, Below w17.heap.size w17 W → Rg.Both 16 (fun _ => True) (fun W => Below w17.heap.size w17 W) l W := fun l W h => ⟨.inr trivial, h⟩
    have hI : Below w17.heap.size w17 w17 := Below.refl _ _
    refine Rg.Any.takeG (i := 0) (t := 16) (v := .bool true) (some 134) rfl rfl (by kernel_rfl) (by kernel_rfl) (by kernel_rfl) (fun _ _ _ h => h) rfl (.inl ⟨rfl, fun w _ => Rg.exec_move (v := .bool true) _ rfl rfl⟩) (hS _ _ hI) ?_
    go_frame
    refine Rg.Any.takeG (i := 1) (t := 16) (v := .bool true) (some 135) rfl rfl (by kernel_rfl) (by kernel_rfl) (by kernel_rfl) (fun _ _ _ h => h) rfl (.inl ⟨rfl, fun w _ => Rg.exec_move (v := .bool true) _ rfl rfl⟩) (hS _ _ hI) ?_
    go_frame
    refine Rg.Any.takeG (i := 2) (t := 16) (v := .agg #[.int .i64 d, .slice na ll.length nc]) (some 136) rfl rfl (by kernel_rfl) (by kernel_rfl) (by kernel_rfl) (fun _ _ _ h => h) rfl (Rg.yields_cell _ _ rfl rfl ⟨w2.heap.size, 0, none⟩ rfl (fun W hW => run_loadG ((Below.cell (p := ⟨w2.heap.size, 0, none⟩) hW G7.out.lt).trans G7.out.c0) ((Below.cell (p := ⟨w2.heap.size, 1, none⟩) hW G7.out.lt).trans G7.out.c1))) (hS _ _ hI) ?_
    go_frame
    refine Rg.Any.takeG (i := 4) (t := 16) (v := .agg #[.int .i64 d, .slice ad ll.length cap]) (some 138) rfl rfl (by kernel_rfl) (by kernel_rfl) (by kernel_rfl) (fun _ _ _ h => h) rfl (Rg.yields_cell _ _ rfl rfl ⟨w.heap.size, 0, none⟩ rfl (fun W hW => run_loadG ((Below.cell (p := ⟨w.heap.size, 0, none⟩) hW G0.out.lt).trans G0.out.c0) ((Below.cell (p := ⟨w.heap.size, 1, none⟩) hW G0.out.lt).trans G0.out.c1))) (hS _ _ hI) ?_
    go_frame
    refine Rg.Any.one (i := 3) (by kernel_rfl) (Rg.Any.ask (some 137) rfl rfl rfl _ _ (exec_fn1 26 _ _ rfl rfl (Vjcl12 _ _)) ?_)
    refine (orbitCheck_any _ d ll w17 G7.out.rows).mono ?_
    rintro e1 w18 ⟨rfl, hb⟩
    rw [hck.out]
    have hI2_0 := Rg.acc hI hb
    clear hb hI
    refine ⟨_, rfl, (hS _ _ hI2_0), ?_⟩
    go_frame
    refine Rg.Any.one (i := 5) (by kernel_rfl) (Rg.Any.ask (some 139) rfl rfl rfl _ _ (exec_fn1 27 _ _ rfl rfl (Vjcl13 _ _)) ?_)
    refine (ref07Check_any _ d ll w18 (G0.out.below hI2_0).rows).mono ?_
    rintro e1 w19 ⟨rfl, hb⟩
    rw [hck.out]
    have hI3_0 := Rg.acc hI2_0 hb
    have hI3_1 := hb
    clear hb hI2_0
    refine ⟨_, rfl, (hS _ _ hI3_0), ?_⟩
    go_frame
    refine Rg.Any.takeG (i := 6) (t := 16) (v := .bool true) (some 140) rfl rfl (by kernel_rfl) (by kernel_rfl) (by kernel_rfl) (fun _ _ _ h => h) rfl (.inl ⟨rfl, fun w _ => exec_eqI _ _ rfl rfl rfl rfl⟩) (hS _ _ hI3_0) ?_
    go_frame
    refine Rg.Any.takeG (i := 7) (t := 16) (v := .bool true) (some 141) rfl rfl (by kernel_rfl) (by kernel_rfl) (by kernel_rfl) (fun _ _ _ h => h) rfl (.inl ⟨rfl, fun w _ => exec_pickT (v := .bool true) _ _ _ rfl rfl rfl⟩) (hS _ _ hI3_0) ?_
    go_frame
    refine Rg.Any.takeG (i := 8) (t := 16) (v := .bool true) (some 142) rfl rfl (by kernel_rfl) (by kernel_rfl) (by kernel_rfl) (fun _ _ _ h => h) rfl (.inl ⟨rfl, fun w _ => Rg.exec_move (v := .bool true) _ rfl rfl⟩) (hS _ _ hI3_0) ?_
    go_frame
    refine Rg.Any.takeG (i := 9) (t := 16) (v := .agg #[.int .i64 d, .slice na ll.length nc]) (some 143) rfl rfl (by kernel_rfl) (by kernel_rfl) (by kernel_rfl) (fun _ _ _ h => h) rfl (Rg.yields_cell _ _ rfl rfl ⟨w2.heap.size, 0, none⟩ rfl (fun W hW => run_loadG ((Below.cell (p := ⟨w2.heap.size, 0, none⟩) hW G7.out.lt).trans G7.out.c0) ((Below.cell (p := ⟨w2.heap.size, 1, none⟩) hW G7.out.lt).trans G7.out.c1))) (hS _ _ hI3_0) ?_
    go_frame
    refine Rg.Any.takeG (i := 10) (t := 16) (v := .agg #[.int .i64 d, .slice ad ll.length cap]) (some 144) rfl rfl (by kernel_rfl) (by kernel_rfl) (by kernel_rfl) (fun _ _ _ h => h) rfl (Rg.yields_cell _ _ rfl rfl ⟨w.heap.size, 0, none⟩ rfl (fun W hW => run_loadG ((Below.cell (p := ⟨w.heap.size, 0, none⟩) hW G0.out.lt).trans G0.out.c0) ((Below.cell (p := ⟨w.heap.size, 1, none⟩) hW G0.out.lt).trans G0.out.c1))) (hS _ _ hI3_0) ?_
    go_frame
    refine Rg.Any.one (i := 11) (by kernel_rfl) (Rg.Any.ask (some 145) rfl rfl rfl _ _ (exec_fn 28 _ _ _ rfl rfl rfl (Vjcl14 _ _)) ?_)
    refine (SameGroup_b (G7.out.below hI3_0).rows (G0.out.below hI3_0).rows).mono ?_
    rintro e1 w20 ⟨rfl, hb⟩
    have hI4_0 := Rg.acc hI3_1 hb
    have hI4_1 := Rg.acc hI3_0 hb
    have hI4_2 := hb
    clear hb hI3_1 hI3_0
    refine ⟨_, rfl, (hS _ _ hI4_1), ?_⟩
    go_frame
    refine Rg.Any.takeG (i := 12) (t := 16) (v := .bool true) (some 146) rfl rfl (by kernel_rfl) (by kernel_rfl) (by kernel_rfl) (fun _ _ _ h => h) rfl (.inl ⟨rfl, fun w _ => exec_pickT (v := .bool true) _ _ _ rfl rfl rfl⟩) (hS _ _ hI4_1) ?_
    go_frame
    refine Rg.Any.takeG (i := 13) (t := 16) (v := .bool true) (some 147) rfl rfl (by kernel_rfl) (by kernel_rfl) (by kernel_rfl) (fun _ _ _ h => h) rfl (.inl ⟨rfl, fun w _ => Rg.exec_move (v := .bool true) _ rfl rfl⟩) (hS _ _ hI4_1) ?_
    go_frame
    refine Rg.Any.one (i := 14) (by kernel_rfl) (Rg.Any.ask (some 148) rfl rfl rfl _ _ (exec_fn0 11 _ rfl (Vjcl15 _ _)) ?_)
    refine (awake_any w20).mono ?_
    rintro e1 w21 ⟨rfl, hb⟩
    have hI5_0 := Rg.acc hI4_2 hb
    have hI5_1 := Rg.acc hI4_0 hb
    have hI5_2 := Rg.acc hI4_1 hb
    have hI5_3 := hb
    clear hb hI4_2 hI4_0 hI4_1
    refine ⟨_, rfl, (hS _ _ hI5_2), ?_⟩
    go_frame
    refine Rg.Any.takeG (i := 15) (t := 16) (v := .bool true) (some 149) rfl rfl (by kernel_rfl) (by kernel_rfl) (by kernel_rfl) (fun _ _ _ h => h) rfl (.inl ⟨rfl, fun w _ => exec_pickT (v := .bool true) _ _ _ rfl rfl rfl⟩) (hS _ _ hI5_2) ?_
    go_frame
    refine Rg.Any.one (i := 16) (by kernel_rfl) (Rg.Any.run (some 6) rfl rfl rfl (Rg.exec_assign (v := .bool true) _ rfl rfl) (hS _ _ hI5_2) ?_)
    go_frame
    refine Rg.Any.done (by kernel_rfl) ?_ _
    replace G0 := Lib.hid (G0.out.below hI5_2)
    replace G7 := Lib.hid (G7.out.below hI5_2)
    replace K := Lib.hid (Rg.acc K.out hI5_2)
    clear hS hI5_0 hI5_1 hI5_2 hI5_3
    go_wp2
    go_ret
    exact ⟨rfl, K.out⟩
end Go.Proofs.Ytojbijkljnohoaa

