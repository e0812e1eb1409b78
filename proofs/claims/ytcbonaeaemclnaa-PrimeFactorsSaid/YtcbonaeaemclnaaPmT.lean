/- Lemmas and contracts on the way to the statement; no condition of their own beyond those written. -/
import Derived.Test.YtcbonaeaemclnaaPmK
import Derived.Test.YtcbonaeaemclnaaPmL
namespace Go.Proofs.Ytcbonaeaemclnaa
open Go.RowKit
open Go.Proofs

/-- the contract of 'root', at integers -/
theorem root_int (p : Int) (w : World) (hB : Pm.isB p = true) :
    Calls Try.prog 48 #[.int .i64 p] w fun e w' => e = .returned (.int .i64 (Pm.rt p.toNat)) ∧ Below w.heap.size w w' := by
  obtain ⟨q, rfl, hq, h6⟩ := Pm.Pr.of hB
  simpa using root_any q w hq h6

set_option maxHeartbeats 400000 in
theorem Root_any (p : Int) (w : World) :
    Calls Try.prog 28 #[.int .i64 p] w fun e w' => e = ret2 (Pm.rtS p) ∧ Below w.heap.size w w' := by
  cases hB : Pm.isB p
  · have HU := Lib.hid (Pm.rtS_f hB)
    have HB := Lib.hid hB
    clear hB
    go_enter Try.func28, Try.ntmps28
    go_wp2_with (go_at_call 18; refine (Is_f _ _ HB.out).mono ?_; rintro e w' ⟨rfl, rfl⟩)
    go_ret2
    exact ⟨ret2_of HU.out, Below.refl _ _⟩
  · have HU := Lib.hid (Pm.rtS_t hB)
    have HB := Lib.hid hB
    clear hB
    go_enter Try.func28, Try.ntmps28
    go_wp2_with (first | (go_at_call 18; refine (Is_t _ _ HB.out).mono ?_; rintro e w' ⟨rfl, rfl⟩) | (go_at_call 48; refine (root_int _ _ HB.out).mono ?_; rintro e w' ⟨rfl, hb⟩))
    go_ret2
    exact ⟨ret2_of HU.out, by assumption⟩

/-- Order, all in all -/
theorem Order_any (a p : Int) (w : World) :
    Calls Try.prog 27 #[.int .i64 a, .int .i64 p] w fun e w' => e = ret2 (Pm.ordS a p) ∧ Below w.heap.size w w' := by
  cases hB : Pm.isB p
  · have HU := Lib.hid (Pm.ordS_f (a := a) hB)
    have HB := Lib.hid hB
    clear hB
    go_enter Try.func27, Try.ntmps27
    go_wp2_with (go_at_call 46; refine (unit_F _ _ _ HB.out).mono ?_; rintro e w' ⟨rfl, rfl⟩)
    go_ret2
    exact ⟨ret2_of HU.out, ((Below.refl _ w).alloc (Nat.le_refl _) _).alloc (by simp) _⟩
  · by_cases h0 : a % p = 0
    · have HU := Lib.hid (Pm.ordS_z (a := a) hB h0)
      have HB := Lib.hid hB
      have H0 := Lib.hid h0
      clear hB h0
      go_enter Try.func27, Try.ntmps27
      go_wp2_with (go_at_call 46; refine (unit_Z _ _ _ HB.out H0.out).mono ?_; rintro e w' ⟨rfl, rfl⟩)
      go_ret2
      exact ⟨ret2_of HU.out, ((Below.refl _ w).alloc (Nat.le_refl _) _).alloc (by simp) _⟩
    · rw [Pm.ordS_t hB h0]
      exact Order_T a p w hB h0

set_option maxHeartbeats 1000000 in
theorem Symbol_any (a p : Int) (w : World) :
    Calls Try.prog 24 #[.int .i64 a, .int .i64 p] w fun e w' => e = ret2 (Pm.sym a p) ∧ Below w.heap.size w w' := by
  cases hB : Pm.isB p
  · have HU := Lib.hid (Pm.sym_f (a := a) hB)
    have HB := Lib.hid hB
    clear hB
    go_enter Try.func24, Try.ntmps24
    go_wp2_with (go_at_call 46; refine (unit_F _ _ _ HB.out).mono ?_; rintro e w' ⟨rfl, rfl⟩)
    go_ret2
    exact ⟨ret2_of HU.out, Below.refl _ _⟩
  · obtain ⟨b1, b2⟩ := bd_of hB
    obtain ⟨r0, r1⟩ := mod_bd a b1
    by_cases h0 : a % p = 0
    · have HU := Lib.hid (Pm.sym_z (a := a) hB h0)
      have HB := Lib.hid hB
      have H0 := Lib.hid h0
      clear hB h0
      go_enter Try.func24, Try.ntmps24
      go_wp2_with (go_at_call 46; refine (unit_Z _ _ _ HB.out H0.out).mono ?_; rintro e w' ⟨rfl, rfl⟩)
      go_ret2
      exact ⟨ret2_of HU.out, Below.refl _ _⟩
    · by_cases h2 : p = 2
      · have HU := Lib.hid (Pm.sym_2 (a := a) hB h0 h2)
        have HB := Lib.hid hB
        have H0 := Lib.hid h0
        have hb : (p == 2) = true := by rw [h2]; rfl
        clear hB h0 h2
        go_enter Try.func24, Try.ntmps24
        go_wp2_with (go_at_call 46; refine (unit_T _ _ _ HB.out H0.out).mono ?_; rintro e w' ⟨rfl, rfl⟩)
        go_ret2
        exact ⟨ret2_of HU.out, Below.refl _ _⟩
      · have hb : (p == 2) = false := by rw [beq_eq_false_iff_ne]; exact h2
        by_cases h1 : Pm.pwI (a % p) ((p - 1) / 2) p = 1
        · have HU := Lib.hid (Pm.sym_1 (a := a) hB h0 h2 h1)
          have hb1 : (Pm.pwI (a % p) ((p - 1) / 2) p == 1) = true := by rw [h1]; rfl
          have HB := Lib.hid hB
          have H0 := Lib.hid h0
          clear hB h0 h2 h1
          go_enter Try.func24, Try.ntmps24
          go_wp2_with (first | (go_at_call 46; refine (unit_T _ _ _ HB.out H0.out).mono ?_; rintro e w' ⟨rfl, rfl⟩) | (go_at_call 47; refine (to_int _ _ _ _ (by omega) (by omega) (by omega) (by omega) (by omega) (by omega)).mono ?_; rintro e w' ⟨rfl, hb'⟩))
          go_ret2
          exact ⟨ret2_of HU.out, by assumption⟩
        · have HU := Lib.hid (Pm.sym_m (a := a) hB h0 h2 h1)
          have hb1 : (Pm.pwI (a % p) ((p - 1) / 2) p == 1) = false := by rw [beq_eq_false_iff_ne]; exact h1
          have HB := Lib.hid hB
          have H0 := Lib.hid h0
          clear hB h0 h2 h1
          go_enter Try.func24, Try.ntmps24
          go_wp2_with (first | (go_at_call 46; refine (unit_T _ _ _ HB.out H0.out).mono ?_; rintro e w' ⟨rfl, rfl⟩) | (go_at_call 47; refine (to_int _ _ _ _ (by omega) (by omega) (by omega) (by omega) (by omega) (by omega)).mono ?_; rintro e w' ⟨rfl, hb'⟩))
          go_ret2
          exact ⟨ret2_of HU.out, by assumption⟩

set_option maxHeartbeats 1000000 in
theorem Zeta_any (e0 p : Int) (w : World) :
    Calls Try.prog 30 #[.int .i64 e0, .int .i64 p] w fun e w' => e = ret2 (Pm.zeta e0 p) ∧ Below w.heap.size w w' := by
  cases hB : Pm.isB p
  · have HU := Lib.hid (Pm.zeta_f (e := e0) hB)
    have HB := Lib.hid hB
    clear hB
    go_enter Try.func30, Try.ntmps30
    go_wp2_with (go_at_call 18; refine (Is_f _ _ HB.out).mono ?_; rintro e w' ⟨rfl, rfl⟩)
    go_ret2
    exact ⟨ret2_of HU.out, Below.refl _ _⟩
  · obtain ⟨b1, b2⟩ := bd_of hB
    by_cases he : e0 < 1
    · have HU := Lib.hid (Pm.zeta_r hB he)
      have HB := Lib.hid hB
      clear hB
      go_enter Try.func30, Try.ntmps30
      go_wp2_with (go_at_call 18; refine (Is_t _ _ HB.out).mono ?_; rintro e w' ⟨rfl, rfl⟩)
      go_ret2
      exact ⟨ret2_of HU.out, Below.refl _ _⟩
    · have hq0 : 0 ≤ (p - 1) / e0 := Int.ediv_nonneg (by omega) (by omega)
      have hq1 : (p - 1) / e0 ≤ p - 1 := Int.ediv_le_self _ (by omega)
      have he0 : ¬ e0 = 0 := by omega
      by_cases hm : (p - 1) % e0 = 0
      · have HU := Lib.hid (Pm.zeta_t hB he hm)
        have hbm : ((p - 1) % e0 == 0) = true := by rw [hm]; rfl
        have hbm2 : ((p - 1) % e0 != 0) = false := by rw [hm]; rfl
        have hlt := (Pm.Pr.ofI hB).rt.lt
        have HB := Lib.hid hB
        clear hB hm
        go_enter Try.func30, Try.ntmps30
        go_wp2_with (go_at_call 18; refine (Is_t _ _ HB.out).mono ?_; rintro e w' ⟨rfl, rfl⟩)
        have hw1 : IntKind.i64.wrap (p - 1) = p - 1 := IntWalk.i64_in _ (by omega)
        have htd : IntKind.i64.wrap ((p - 1) / e0) = (p - 1) / e0 := IntWalk.i64_in _ (by omega)
        have htq : (p - 1).tdiv e0 = (p - 1) / e0 := Int.tdiv_eq_ediv_of_nonneg (by omega)
        go_region_with (first | (go_at_call 48; refine (root_int _ _ HB.out).mono ?_; rintro e w' ⟨rfl, hb1⟩) | (go_at_call 47; refine (to_int _ _ _ _ (by omega) (by omega) (by omega) (by omega) (by omega) (by omega)).mono ?_; rintro e w' ⟨rfl, hb2⟩))
        all_goals
          go_wp2
          go_ret2
          exact ⟨ret2_of HU.out, ((Below.refl _ w).drew.trans hb1).trans (hb2.mono hb1.size)⟩
      · have HU := Lib.hid (Pm.zeta_n hB he hm)
        have hbm : ((p - 1) % e0 == 0) = false := by rw [beq_eq_false_iff_ne]; exact hm
        have hbm2 : ((p - 1) % e0 != 0) = true := by rw [bne_iff_ne]; exact hm
        have HB := Lib.hid hB
        clear hB hm
        go_enter Try.func30, Try.ntmps30
        go_wp2_with (go_at_call 18; refine (Is_t _ _ HB.out).mono ?_; rintro e w' ⟨rfl, rfl⟩)
        go_ret2
        exact ⟨ret2_of HU.out, Below.refl _ _⟩
end Go.Proofs.Ytcbonaeaemclnaa
