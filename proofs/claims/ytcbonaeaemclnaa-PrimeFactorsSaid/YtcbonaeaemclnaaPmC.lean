/- Lemmas and contracts on the way to the statement; no condition of their own beyond those written. -/
import Derived.Test.YtcbonaeaemclnaaPmB
namespace Go.Proofs.Ytcbonaeaemclnaa
open Go.RowKit
open Go.Proofs

theorem beq_of_mod {n k : Nat} (h : n % k = 0) : ((n : Int) % (k : Int) == 0) = true := by
  have : (n : Int) % (k : Int) = 0 := by omega
  rw [this]; rfl

set_option maxRecDepth 100000 in
set_option maxHeartbeats 400000 in
theorem refIs_any (n : Int) (w : World) :
    Calls Try.prog 19 #[.int .i64 n] w fun e w' => e = .returned (.bool (Pm.isB n)) ∧ w = w' := by
  by_cases h1 : n < 2
  case neg =>
    by_cases h2 : 1000000 ≤ n
    case neg =>
      obtain ⟨m, rfl⟩ := Int.eq_ofNat_of_zero_le (by omega : 0 ≤ n)
      have hm2 : 2 ≤ m := by omega
      have hisB := Lib.hid (isB_mid (n := m) (by omega) (by omega))
      go_enter Try.func19, Try.ntmps19
      go_wp2
      have h2' : m < 1000000 := by omega
      clear h1 h2
      go_loop [3] (fun i => ∃ k : Nat, 2 ≤ k ∧ k ≤ 1000 ∧ i = .int .i64 k ∧ ∀ e, 2 ≤ e → e < k → m % e ≠ 0) (fun i => 1000 - (intOf i).toNat)
      case atStart => exact ⟨2, by omega, by omega, rfl, fun e h1 h2 => by omega⟩
      case round =>
        obtain ⟨k, hk, hk', rfl, hs⟩ := hrel
        obtain ⟨hkk0, hkk1⟩ := sq_bd hk'
        go_wp2
        · have hle := le_sq (n := m) (k := k) ‹_›
          have hlt := lt_of_sq hle (m := 1000) (by omega)
          go_ret
          refine ⟨ret_bool ?_, rfl⟩
          rw [hisB.out, Pm.lf_at hk hm2 hs (mod_beq_t ‹_›)]
          have : k < m := by
            have : k * 1 < k * k := by apply Nat.mul_lt_mul_of_pos_left <;> omega
            omega
          symm
          rw [beq_eq_false_iff_ne]; omega
        · have hle := le_sq (n := m) (k := k) ‹_›
          have hlt := lt_of_sq hle (m := 1000) (by omega)
          have hmd := mod_beq_f (n := m) (k := k) ‹_›
          go_round
          case rel =>
            refine ⟨k + 1, by omega, by omega, by go_num, fun e h1 h3 => ?_⟩
            rcases Nat.lt_or_ge e k with h | h
            · exact hs e h1 h
            · obtain rfl : e = k := by omega
              exact hmd
          case measure => simp [intOf]; omega
        · go_ret
          refine ⟨ret_bool ?_, rfl⟩
          rw [hisB.out, Pm.lf_end hm2 hs (lt_sq ‹_›)]
          symm; rw [beq_iff_eq]
    case pos =>
      go_enter Try.func19, Try.ntmps19
      go_wp2
      go_ret
      exact ⟨ret_bool (isB_hi (by omega)).symm, rfl⟩
  case pos =>
    go_enter Try.func19, Try.ntmps19
    go_wp2
    go_ret
    exact ⟨ret_bool (isB_lo (by omega)).symm, rfl⟩

/- Is, in two forms -/
theorem Is_t (n : Int) (w : World) (h : Pm.isB n = true) :
    Calls Try.prog 18 #[.int .i64 n] w fun e w' => e = .returned (.bool true) ∧ w = w' := by
  have := Is_any n w; rwa [h] at this
theorem Is_f (n : Int) (w : World) (h : Pm.isB n = false) :
    Calls Try.prog 18 #[.int .i64 n] w fun e w' => e = .returned (.bool false) ∧ w = w' := by
  have := Is_any n w; rwa [h] at this
theorem refIs_t (n : Int) (w : World) (h : Pm.isB n = true) :
    Calls Try.prog 19 #[.int .i64 n] w fun e w' => e = .returned (.bool true) ∧ w = w' := by
  have := refIs_any n w; rwa [h] at this
theorem refIs_f (n : Int) (w : World) (h : Pm.isB n = false) :
    Calls Try.prog 19 #[.int .i64 n] w fun e w' => e = .returned (.bool false) ∧ w = w' := by
  have := refIs_any n w; rwa [h] at this

/-- a pair of a number and an error -/
def ret2 (r : Int × Int) : Ending := .returned (.tuple #[.int .i64 r.1, .int .i64 r.2])

theorem ret2_of {a b : Int} {r : Int × Int} (h : r = (a, b)) : Ending.returned (.tuple #[.int .i64 a, .int .i64 b]) = ret2 r := by
  rw [h]; rfl

theorem nx_no {k f : Nat} (h : Pm.isB ((k + 1 : Nat) : Int) = false) (hk : k < f) : Pm.nxAux (f - k) k = Pm.nxAux (f - (k + 1)) (k + 1) := by
  rw [show f - k = (f - (k + 1)) + 1 from by omega]
  show (if _ then _ else _) = _
  rw [h]; rfl
theorem nx_yes {k f : Nat} (h : Pm.isB ((k + 1 : Nat) : Int) = true) (hk : k < f) : Pm.nxAux (f - k) k = ((k : Int) + 1, 0) := by
  rw [show f - k = (f - (k + 1)) + 1 from by omega]
  show (if _ then _ else _) = _
  rw [h]; rfl

set_option maxHeartbeats 400000 in
theorem Next_any (n : Int) (w : World) :
    Calls Try.prog 14 #[.int .i64 n] w fun e w' => e = ret2 (Pm.nx n) ∧ w = w' := by
  obtain ⟨k0, hk0⟩ := Int.eq_ofNat_of_zero_le (by omega : 0 ≤ max n 1)
  have hk1 : 1 ≤ k0 := by omega
  have hnx : Pm.nx n = Pm.nxAux (999999 - k0) k0 := by unfold Pm.nx; rw [hk0]; simp
  have Hnx := Lib.hid hnx
  clear hnx
  go_enter Try.func14, Try.ntmps14
  go_wp2
  all_goals
    go_loop [4] (fun i => ∃ k : Nat, 1 ≤ k ∧ k0 ≤ k ∧ i = .int .i64 k ∧ Pm.nxAux (999999 - k0) k0 = Pm.nxAux (999999 - k) k) (fun i => 1000000 - (intOf i).toNat)
    case atStart => exact ⟨k0, by omega, by omega, by rw [← hk0]; congr 1; omega, rfl⟩
    case round =>
      obtain ⟨k, hk, hk', rfl, hs⟩ := hrel
      have Hs := Lib.hid hs
      clear hs
      by_cases hlt : (k : Int) < 999999
      · cases hB : Pm.isB ((k + 1 : Nat) : Int)
        · have HB := Lib.hid hB
          clear hB
          go_wp2_with (go_at_call 18; refine (Is_f _ _ HB.out).mono ?_; rintro e w' ⟨rfl, rfl⟩)
          go_round
          case rel => exact ⟨k + 1, by omega, by omega, by go_num, by rw [Hs.out]; exact nx_no HB.out (by omega)⟩
          case measure => simp [intOf]; omega
        · have HB := Lib.hid hB
          clear hB
          go_wp2_with (go_at_call 18; refine (Is_t _ _ HB.out).mono ?_; rintro e w' ⟨rfl, rfl⟩)
          go_ret2
          exact ⟨ret2_of (by rw [Hnx.out, Hs.out]; exact nx_yes HB.out (by omega)), rfl⟩
      · go_wp2
        go_ret2
        exact ⟨ret2_of (by rw [Hnx.out, Hs.out]; rw [show 999999 - k = 0 from by omega]; rfl), rfl⟩
end Go.Proofs.Ytcbonaeaemclnaa
