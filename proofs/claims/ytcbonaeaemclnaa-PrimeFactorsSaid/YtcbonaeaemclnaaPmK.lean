/- Lemmas and contracts on the way to the statement; no condition of their own beyond those written. -/
import Derived.Test.YtcbonaeaemclnaaPmJ
namespace Go.Proofs.Ytcbonaeaemclnaa
open Go.RowKit
open Go.Proofs

theorem ru_F (a p : Int) (w : World) (h : Pm.isB p = false) :
    Calls Try.prog 49 #[.int .i64 a, .int .i64 p] w fun e w' => e = .returned (.tuple #[.int .i64 0, .int .i64 3]) ∧ w = w' := by
  have := refresidue_any a p w; rwa [Pm.unit_f h] at this
theorem ru_Z (a p : Int) (w : World) (h : Pm.isB p = true) (h0 : a % p = 0) :
    Calls Try.prog 49 #[.int .i64 a, .int .i64 p] w fun e w' => e = .returned (.tuple #[.int .i64 0, .int .i64 6]) ∧ w = w' := by
  have := refresidue_any a p w; rwa [Pm.unit_z h h0] at this
theorem ru_T (a p : Int) (w : World) (h : Pm.isB p = true) (h0 : a % p ≠ 0) :
    Calls Try.prog 49 #[.int .i64 a, .int .i64 p] w fun e w' => e = .returned (.tuple #[.int .i64 (a % p), .int .i64 0]) ∧ w = w' := by
  have := refresidue_any a p w; rwa [Pm.unit_t h h0] at this
theorem rm_F (a p : Int) (w : World) (h : Pm.isB p = false) :
    Calls Try.prog 32 #[.int .i64 a, .int .i64 p] w fun e w' => e = .returned (.tuple #[.int .i64 0, .int .i64 3]) ∧ w = w' := by
  have := refMod_any a p w; rwa [Pm.mod_f h] at this
theorem rm_T (a p : Int) (w : World) (h : Pm.isB p = true) :
    Calls Try.prog 32 #[.int .i64 a, .int .i64 p] w fun e w' => e = .returned (.tuple #[.int .i64 (a % p), .int .i64 0]) ∧ w = w' := by
  have := refMod_any a p w; rwa [Pm.mod_t h] at this

set_option maxHeartbeats 400000 in
theorem refInv_any (a p : Int) (w : World) :
    Calls Try.prog 33 #[.int .i64 a, .int .i64 p] w fun e w' => e = ret2 (Pm.inv a p) ∧ w = w' := by
  cases hB : Pm.isB p
  · have HU := Lib.hid (Pm.inv_f (a := a) hB)
    have HB := Lib.hid hB
    clear hB
    go_enter Try.func33, Try.ntmps33
    go_wp2_with (go_at_call 49; refine (ru_F _ _ _ HB.out).mono ?_; rintro e w' ⟨rfl, rfl⟩)
    go_ret2
    exact ⟨ret2_of HU.out, rfl⟩
  · obtain ⟨b1, b2⟩ := bd_of hB
    obtain ⟨r0, r1⟩ := mod_bd a b1
    by_cases h0 : a % p = 0
    · have HU := Lib.hid (Pm.inv_z (a := a) hB h0)
      have HB := Lib.hid hB
      have H0 := Lib.hid h0
      clear hB h0
      go_enter Try.func33, Try.ntmps33
      go_wp2_with (go_at_call 49; refine (ru_Z _ _ _ HB.out H0.out).mono ?_; rintro e w' ⟨rfl, rfl⟩)
      go_ret2
      exact ⟨ret2_of HU.out, rfl⟩
    · have HU := Lib.hid (Pm.inv_t (a := a) hB h0)
      have HB := Lib.hid hB
      have H0 := Lib.hid h0
      clear hB h0
      go_enter Try.func33, Try.ntmps33
      go_wp2_with (first | (go_at_call 49; refine (ru_T _ _ _ HB.out H0.out).mono ?_; rintro e w' ⟨rfl, rfl⟩) | (go_at_call 50; refine (refpower_int _ _ _ _ (by omega) (by omega) (by omega) (by omega) (by omega) (by omega)).mono ?_; rintro e w' ⟨rfl, rfl⟩))
      go_ret2
      exact ⟨ret2_of HU.out, rfl⟩

set_option maxHeartbeats 400000 in
theorem refPow_any (a n p : Int) (w : World) (hn9 : n.toNat ≤ 9223372036854775807) :
    Calls Try.prog 34 #[.int .i64 a, .int .i64 n, .int .i64 p] w fun e w' => e = ret2 (Pm.pow a n p) ∧ w = w' := by
  cases hB : Pm.isB p
  · have HU := Lib.hid (Pm.pow_f (a := a) (n := n) hB)
    have HB := Lib.hid hB
    clear hB
    go_enter Try.func34, Try.ntmps34
    go_wp2_with (go_at_call 32; refine (rm_F _ _ _ HB.out).mono ?_; rintro e w' ⟨rfl, rfl⟩)
    go_ret2
    exact ⟨ret2_of HU.out, rfl⟩
  · obtain ⟨b1, b2⟩ := bd_of hB
    obtain ⟨r0, r1⟩ := mod_bd a b1
    by_cases hn : 0 ≤ n
    · have hfin : Pm.pow a n p = (Pm.pwI (a % p) n p, 0) := by
        by_cases h0 : a % p = 0
        · rw [h0]
          by_cases h : 0 < n
          · rw [Pm.pow_zp hB h0 h, Pm.pwI_zero hB h]
          · obtain rfl : n = 0 := by omega
            rw [Pm.pow_z0 hB h0, Pm.pwI_zero0 hB]
        · rw [Pm.pow_t hB h0, ← Pm.pwI_red hB (Pm.not_dvd_mod b1 h0) hn]
      have HU := Lib.hid hfin
      have HB := Lib.hid hB
      clear hB hfin
      go_enter Try.func34, Try.ntmps34
      go_wp2_with (first | (go_at_call 32; refine (rm_T _ _ _ HB.out).mono ?_; rintro e w' ⟨rfl, rfl⟩) | (go_at_call 50; refine (refpower_int _ _ _ _ (by omega) (by omega) (by omega) (by omega) (by omega) (by omega)).mono ?_; rintro e w' ⟨rfl, rfl⟩))
      go_ret2
      exact ⟨ret2_of HU.out, rfl⟩
    · have hb : decide (0 ≤ n) = false := by simp; omega
      by_cases h0 : a % p = 0
      · have HU := Lib.hid (Pm.pow_zn (a := a) (n := n) hB h0 (by omega))
        have HM := rm_T a p w hB
        rw [h0] at HM
        have HM' := Lib.hid HM
        clear hB h0 HM
        go_enter Try.func34, Try.ntmps34
        go_wp2_with (go_at_call 32; refine HM'.out.mono ?_; rintro e w' ⟨rfl, rfl⟩)
        go_ret2
        exact ⟨ret2_of HU.out, rfl⟩
      · have HU := Lib.hid (Pm.pow_t (a := a) (n := n) hB h0)
        have HB := Lib.hid hB
        have hm0 := Int.emod_nonneg n (by omega : p - 1 ≠ 0)
        have hm1 := Int.emod_lt_of_pos n (by omega : 0 < p - 1)
        have hbz := beq_zero_f h0
        clear hB h0
        go_enter Try.func34, Try.ntmps34
        go_wp2_with (first | (go_at_call 32; refine (rm_T _ _ _ HB.out).mono ?_; rintro e w' ⟨rfl, rfl⟩) | (go_at_call 21; refine (Pick_any _ _ _ (by omega) (by omega)).mono ?_; rintro e w' ⟨rfl, rfl⟩) | (go_at_call 50; refine (refpower_int _ _ _ _ (by omega) (by omega) (by omega) (by omega) (by omega) (by omega)).mono ?_; rintro e w' ⟨rfl, rfl⟩))
        go_ret2
        exact ⟨ret2_of HU.out, rfl⟩

set_option maxHeartbeats 400000 in
theorem Sqrt_any (a p : Int) (w : World) :
    Calls Try.prog 23 #[.int .i64 a, .int .i64 p] w fun e w' => e = ret2 (Pm.sqrt a p) ∧ w = w' := by
  cases hB : Pm.isB p
  · have HU := Lib.hid (Pm.sqrt_f (a := a) hB)
    have HB := Lib.hid hB
    clear hB
    go_enter Try.func23, Try.ntmps23
    go_wp2_with (go_at_call 18; refine (Is_f _ _ HB.out).mono ?_; rintro e w' ⟨rfl, rfl⟩)
    go_ret2
    exact ⟨ret2_of HU.out, rfl⟩
  · obtain ⟨b1, b2⟩ := bd_of hB
    obtain ⟨r0, r1⟩ := mod_bd a b1
    have HU := Lib.hid (Pm.sqrt_t (a := a) hB)
    have HB := Lib.hid hB
    clear hB
    go_enter Try.func23, Try.ntmps23
    go_wp2_with (first | (go_at_call 18; refine (Is_t _ _ HB.out).mono ?_; rintro e w' ⟨rfl, rfl⟩) | (go_at_call 45; refine (residue_any _ _ _ (by omega) (by omega)).mono ?_; rintro e w' ⟨rfl, rfl⟩))
    go_loop [6, 14] (fun _ v => ∃ x : Nat, v = .int .i64 x ∧ x ≤ p.toNat ∧ Pm.sqAux (a % p) p p.toNat 0 = Pm.sqAux (a % p) p (p.toNat - x) x) (fun _ v => p.toNat - (intOf v).toNat)
    case atStart => exact ⟨0, rfl, by omega, rfl⟩
    case round =>
      obtain ⟨x, rfl, hx, hs⟩ := hrel
      have Hs := Lib.hid hs
      clear hs
      by_cases hlt : (x : Int) < p
      · have hm := mul_bdI (a := x) (b := x) (p := p) (by omega) hlt (by omega) hlt (by omega)
        have hxp : x < p.toNat := by omega
        have hq0 := Int.emod_nonneg ((x : Int) * x) (by omega : p ≠ 0)
        by_cases he : (x : Int) * x % p = a % p
        · have hb : ((x : Int) * x % p == a % p) = true := by rw [he]; simp
          have He := Lib.hid he
          clear he
          go_wp2
          go_ret2
          exact ⟨ret2_of (by rw [HU.out, Hs.out]; exact Pm.sqAux_yes He.out hxp), rfl⟩
        · have hb : ((x : Int) * x % p == a % p) = false := by rw [beq_eq_false_iff_ne]; exact he
          have He := Lib.hid he
          clear he
          go_wp2
          go_round
          case rel => exact ⟨x + 1, by go_num, by omega, by rw [Hs.out]; exact Pm.sqAux_no He.out hxp⟩
          case measure => simp [intOf]; omega
      · go_wp2
        go_ret2
        exact ⟨ret2_of (by rw [HU.out, Hs.out, show p.toNat - x = 0 from by omega]; rfl), rfl⟩

set_option maxHeartbeats 400000 in
theorem refSqrt_any (a p : Int) (w : World) :
    Calls Try.prog 38 #[.int .i64 a, .int .i64 p] w fun e w' => e = ret2 (Pm.sqrt a p) ∧ w = w' := by
  cases hB : Pm.isB p
  · have HU := Lib.hid (Pm.sqrt_f (a := a) hB)
    have HB := Lib.hid hB
    clear hB
    go_enter Try.func38, Try.ntmps38
    go_wp2_with (go_at_call 32; refine (rm_F _ _ _ HB.out).mono ?_; rintro e w' ⟨rfl, rfl⟩)
    go_ret2
    exact ⟨ret2_of HU.out, rfl⟩
  · obtain ⟨b1, b2⟩ := bd_of hB
    obtain ⟨r0, r1⟩ := mod_bd a b1
    have HU := Lib.hid (Pm.sqrt_t (a := a) hB)
    have HB := Lib.hid hB
    clear hB
    go_enter Try.func38, Try.ntmps38
    go_wp2_with (go_at_call 32; refine (rm_T _ _ _ HB.out).mono ?_; rintro e w' ⟨rfl, rfl⟩)
    go_loop [7] (fun v => ∃ x : Nat, v = .int .i64 x ∧ x ≤ p.toNat ∧ Pm.sqAux (a % p) p p.toNat 0 = Pm.sqAux (a % p) p (p.toNat - x) x) (fun v => p.toNat - (intOf v).toNat)
    case atStart => exact ⟨0, rfl, by omega, rfl⟩
    case round =>
      obtain ⟨x, rfl, hx, hs⟩ := hrel
      have Hs := Lib.hid hs
      clear hs
      by_cases hlt : (x : Int) < p
      · have hm := mul_bdI (a := x) (b := x) (p := p) (by omega) hlt (by omega) hlt (by omega)
        have hxp : x < p.toNat := by omega
        have hq0 := Int.emod_nonneg ((x : Int) * x) (by omega : p ≠ 0)
        by_cases he : (x : Int) * x % p = a % p
        · have hb : ((x : Int) * x % p == a % p) = true := by rw [he]; simp
          have He := Lib.hid he
          clear he
          go_wp2
          go_ret2
          exact ⟨ret2_of (by rw [HU.out, Hs.out]; exact Pm.sqAux_yes He.out hxp), rfl⟩
        · have hb : ((x : Int) * x % p == a % p) = false := by rw [beq_eq_false_iff_ne]; exact he
          have He := Lib.hid he
          clear he
          go_wp2
          go_round
          case rel => exact ⟨x + 1, by go_num, by omega, by rw [Hs.out]; exact Pm.sqAux_no He.out hxp⟩
          case measure => simp [intOf]; omega
      · go_wp2
        go_ret2
        exact ⟨ret2_of (by rw [HU.out, Hs.out, show p.toNat - x = 0 from by omega]; rfl), rfl⟩
end Go.Proofs.Ytcbonaeaemclnaa
