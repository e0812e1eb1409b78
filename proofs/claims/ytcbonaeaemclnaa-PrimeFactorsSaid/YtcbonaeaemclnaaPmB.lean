/- Lemmas and contracts on the way to the statement; no condition of their own beyond those written. -/
import Derived.Test.YtcbonaeaemclnaaPmA
namespace Go.Proofs.Ytcbonaeaemclnaa
open Go.RowKit
open Go.Proofs

theorem tmod_neg {a : Int} {p : Int} (hp : 0 < p) (h : a.tmod p < 0) : a.tmod p + p = a % p := by
  rw [Int.tmod_eq_emod] at *
  split at h
  · have := Int.emod_nonneg a (by omega : p ≠ 0); omega
  · rename_i hn; rw [if_neg hn]; omega
theorem tmod_nonneg {a : Int} {p : Int} (hp : 0 < p) (h : 0 ≤ a.tmod p) : a.tmod p = a % p := by
  rw [Int.tmod_eq_emod] at *
  split at h
  · rename_i hn; rw [if_pos hn]; omega
  · have := Int.emod_lt_of_pos a hp; omega

set_option maxHeartbeats 400000 in
theorem residue_any (a p : Int) (w : World) (h1 : 1 ≤ p) (h2 : p ≤ 1000000000000) :
    Calls Try.prog 45 #[.int .i64 a, .int .i64 p] w fun e w' => e = .returned (.int .i64 (a % p)) ∧ w = w' := by
  have hlo := Int.lt_tmod_of_pos a (by omega : 0 < p)
  have hhi := Int.tmod_lt_of_pos a (by omega : 0 < p)
  go_enter Try.func45, Try.ntmps45
  go_wp2
  · go_ret
    exact ⟨ret_int (tmod_neg (by omega) (by assumption)), rfl⟩
  · go_ret
    exact ⟨ret_int (tmod_nonneg (by omega) (by assumption)), rfl⟩

set_option maxHeartbeats 400000 in
theorem Pick_any (a p : Int) (w : World) (h1 : 1 ≤ p) (h2 : p ≤ 1000000000000) :
    Calls Try.prog 21 #[.int .i64 a, .int .i64 p] w fun e w' => e = .returned (.int .i64 (a % p)) ∧ w = w' := by
  have hlo := Int.lt_tmod_of_pos a (by omega : 0 < p)
  have hhi := Int.tmod_lt_of_pos a (by omega : 0 < p)
  go_enter Try.func21, Try.ntmps21
  go_wp2
  · go_ret
    exact ⟨ret_int (tmod_neg (by omega) (by assumption)), rfl⟩
  · go_ret
    exact ⟨ret_int (tmod_nonneg (by omega) (by assumption)), rfl⟩

theorem isB_lo {n : Int} (h : ¬ 1 < n) : Pm.isB n = false := by simp [Pm.isB, h]
theorem isB_hi {n : Int} (h : ¬ n < 1000000) : Pm.isB n = false := by simp [Pm.isB, h]
theorem isB_mid {n : Nat} (h1 : 1 < n) (h2 : n < 1000000) : Pm.isB n = ((Pm.lf n : Int) == (n : Int)) := by
  have h1' : (1 : Int) < n := by omega
  have h2' : (n : Int) < 1000000 := by omega
  have : ((Pm.lf n : Int) == (n : Int)) = (Pm.lf n == n) := by
    rw [Bool.eq_iff_iff]; simp; omega
  simp [Pm.isB, h1', h2', this]
theorem ret_bool {a b : Bool} (h : a = b) : Ending.returned (.bool a) = .returned (.bool b) := by rw [h]

set_option maxHeartbeats 400000 in
theorem Is_any (n : Int) (w : World) :
    Calls Try.prog 18 #[.int .i64 n] w fun e w' => e = .returned (.bool (Pm.isB n)) ∧ w = w' := by
  by_cases h1 : 1 < n
  · by_cases h2 : n < 1000000
    · obtain ⟨m, rfl⟩ := Int.eq_ofNat_of_zero_le (by omega : 0 ≤ n)
      go_enter Try.func18, Try.ntmps18
      go_wp2_with (go_at_call 44; refine (divides_any m _ (by omega) (by omega)).mono ?_; rintro e w' ⟨rfl, rfl⟩)
      go_ret
      exact ⟨ret_bool (isB_mid (by omega) (by omega)).symm, rfl⟩
    · go_enter Try.func18, Try.ntmps18
      go_wp2
      go_ret
      exact ⟨ret_bool (isB_hi (by omega)).symm, rfl⟩
  · go_enter Try.func18, Try.ntmps18
    go_wp2
    go_ret
    exact ⟨ret_bool (isB_lo (by omega)).symm, rfl⟩
end Go.Proofs.Ytcbonaeaemclnaa
