/- Lemmas and contracts on the way to the statement; no condition of their own beyond those written. -/
import Derived.Test.YtcbonaeaemclnaaPmF
import Derived.Test.YtcbonaeaemclnaaPmM3
namespace Go.Proofs.Ytcbonaeaemclnaa
open Go.RowKit
open Go.Proofs

/-- the contract of 'to', at integers -/
theorem to_int (a n p : Int) (w : World) (hp : 1 ≤ p) (hpm : p ≤ 1000000) (ha0 : 0 ≤ a) (ha : a ≤ 1000000) (hn0 : 0 ≤ n) (hn : n ≤ 9223372036854775807) :
    Calls Try.prog 47 #[.int .i64 a, .int .i64 n, .int .i64 p] w fun e w' => e = .returned (.int .i64 (Pm.pwI a n p)) ∧ Below w.heap.size w w' := by
  have := to_any a.toNat n.toNat p.toNat w (by omega) (by omega) (by omega) (by omega)
  rw [Int.toNat_of_nonneg ha0, Int.toNat_of_nonneg hn0, Int.toNat_of_nonneg (by omega : 0 ≤ p)] at this
  exact this

theorem unit_F (a p : Int) (w : World) (h : Pm.isB p = false) :
    Calls Try.prog 46 #[.int .i64 a, .int .i64 p] w fun e w' => e = .returned (.tuple #[.int .i64 0, .int .i64 3]) ∧ w = w' := by
  have := unit_any a p w; rwa [Pm.unit_f h] at this
theorem unit_Z (a p : Int) (w : World) (h : Pm.isB p = true) (h0 : a % p = 0) :
    Calls Try.prog 46 #[.int .i64 a, .int .i64 p] w fun e w' => e = .returned (.tuple #[.int .i64 0, .int .i64 6]) ∧ w = w' := by
  have := unit_any a p w; rwa [Pm.unit_z h h0] at this
theorem unit_T (a p : Int) (w : World) (h : Pm.isB p = true) (h0 : a % p ≠ 0) :
    Calls Try.prog 46 #[.int .i64 a, .int .i64 p] w fun e w' => e = .returned (.tuple #[.int .i64 (a % p), .int .i64 0]) ∧ w = w' := by
  have := unit_any a p w; rwa [Pm.unit_t h h0] at this

theorem bd_of {p : Int} (h : Pm.isB p = true) : 2 ≤ p ∧ p.toNat < 1000000 := by have := Pm.isB_bd h; omega
theorem mod_bd (a : Int) {p : Int} (h : 2 ≤ p) : 0 ≤ a % p ∧ a % p < p := ⟨Int.emod_nonneg a (by omega), Int.emod_lt_of_pos a (by omega)⟩

set_option maxHeartbeats 400000 in
theorem Inv_any (a p : Int) (w : World) :
    Calls Try.prog 26 #[.int .i64 a, .int .i64 p] w fun e w' => e = ret2 (Pm.inv a p) ∧ Below w.heap.size w w' := by
  cases hB : Pm.isB p
  · have HU := Lib.hid (Pm.inv_f (a := a) hB)
    have HB := Lib.hid hB
    clear hB
    go_enter Try.func26, Try.ntmps26
    go_wp2_with (go_at_call 46; refine (unit_F _ _ _ HB.out).mono ?_; rintro e w' ⟨rfl, rfl⟩)
    go_ret2
    exact ⟨ret2_of HU.out, Below.refl _ _⟩
  · obtain ⟨b1, b2⟩ := bd_of hB
    obtain ⟨r0, r1⟩ := mod_bd a b1
    by_cases h0 : a % p = 0
    · have HU := Lib.hid (Pm.inv_z (a := a) hB h0)
      have HB := Lib.hid hB
      have H0 := Lib.hid h0
      clear hB h0
      go_enter Try.func26, Try.ntmps26
      go_wp2_with (go_at_call 46; refine (unit_Z _ _ _ HB.out H0.out).mono ?_; rintro e w' ⟨rfl, rfl⟩)
      go_ret2
      exact ⟨ret2_of HU.out, Below.refl _ _⟩
    · have HU := Lib.hid (Pm.inv_t (a := a) hB h0)
      have HB := Lib.hid hB
      have H0 := Lib.hid h0
      clear hB h0
      go_enter Try.func26, Try.ntmps26
      go_wp2_with (first | (go_at_call 46; refine (unit_T _ _ _ HB.out H0.out).mono ?_; rintro e w' ⟨rfl, rfl⟩) | (go_at_call 47; refine (to_int _ _ _ _ (by omega) (by omega) (by omega) (by omega) (by omega) (by omega)).mono ?_; rintro e w' ⟨rfl, hb⟩))
      go_ret2
      exact ⟨ret2_of HU.out, by assumption⟩

set_option maxHeartbeats 400000 in
theorem Pow_any (a n p : Int) (w : World) :
    Calls Try.prog 25 #[.int .i64 a, .int .i64 n, .int .i64 p] w fun e w' => e = ret2 (Pm.pow a n p) ∧ Below w.heap.size w w' := by
  cases hB : Pm.isB p
  · have HU := Lib.hid (Pm.pow_f (a := a) (n := n) hB)
    have HB := Lib.hid hB
    clear hB
    go_enter Try.func25, Try.ntmps25
    go_wp2_with (go_at_call 46; refine (unit_F _ _ _ HB.out).mono ?_; rintro e w' ⟨rfl, rfl⟩)
    go_ret2
    exact ⟨ret2_of HU.out, Below.refl _ _⟩
  · obtain ⟨b1, b2⟩ := bd_of hB
    obtain ⟨r0, r1⟩ := mod_bd a b1
    by_cases h0 : a % p = 0
    · have HB := Lib.hid hB
      have H0 := Lib.hid h0
      clear hB h0
      by_cases hn : 0 ≤ n
      · by_cases hn0 : n = 0
        · subst hn0
          go_enter Try.func25, Try.ntmps25
          go_wp2_with (go_at_call 46; refine (unit_Z _ _ _ HB.out H0.out).mono ?_; rintro e w' ⟨rfl, rfl⟩)
          go_ret2
          exact ⟨ret2_of (Pm.pow_z0 HB.out H0.out), Below.refl _ _⟩
        · have hb := beq_zero_f hn0
          go_enter Try.func25, Try.ntmps25
          go_wp2_with (go_at_call 46; refine (unit_Z _ _ _ HB.out H0.out).mono ?_; rintro e w' ⟨rfl, rfl⟩)
          go_ret2
          exact ⟨ret2_of (Pm.pow_zp HB.out H0.out (by omega)), Below.refl _ _⟩
      · have hb : decide (0 ≤ n) = false := by simp; omega
        go_enter Try.func25, Try.ntmps25
        go_wp2_with (go_at_call 46; refine (unit_Z _ _ _ HB.out H0.out).mono ?_; rintro e w' ⟨rfl, rfl⟩)
        go_ret2
        exact ⟨ret2_of (Pm.pow_zn HB.out H0.out (by omega)), Below.refl _ _⟩
    · have HU := Lib.hid (Pm.pow_t (a := a) (n := n) hB h0)
      have HB := Lib.hid hB
      have H0 := Lib.hid h0
      have hp1 : 1 ≤ p - 1 := by omega
      have hm0 := Int.emod_nonneg n (by omega : p - 1 ≠ 0)
      have hm1 := Int.emod_lt_of_pos n (by omega : 0 < p - 1)
      clear hB h0
      go_enter Try.func25, Try.ntmps25
      go_wp2_with (first | (go_at_call 46; refine (unit_T _ _ _ HB.out H0.out).mono ?_; rintro e w' ⟨rfl, rfl⟩) | (go_at_call 45; refine (residue_any _ _ _ (by omega) (by omega)).mono ?_; rintro e w' ⟨rfl, rfl⟩) | (go_at_call 47; refine (to_int _ _ _ _ (by omega) (by omega) (by omega) (by omega) (by omega) (by omega)).mono ?_; rintro e w' ⟨rfl, hb⟩))
      go_ret2
      exact ⟨ret2_of HU.out, by assumption⟩
end Go.Proofs.Ytcbonaeaemclnaa
