/- Lemmas and contracts on the way to the statement; no condition of their own beyond those written. -/
import Derived.Test.YtcbonaeaemclnaaPmG
import Derived.Test.YtcbonaeaemclnaaPmS
namespace Go.Proofs.Ytcbonaeaemclnaa
open Go.RowKit
open Go.Proofs

theorem mul_bdI {a b p : Int} (h1 : 0 ≤ a) (h2 : a < p) (h3 : 0 ≤ b) (h4 : b < p) (hp : p.toNat ≤ 1000000) : 0 ≤ a * b ∧ (a * b).toNat ≤ 1000000000000 := by
  obtain ⟨x, rfl⟩ := Int.eq_ofNat_of_zero_le h1
  obtain ⟨y, rfl⟩ := Int.eq_ofNat_of_zero_le h3
  have := mul_bd (a := x) (b := y) (m := 1000000) (by omega) (by omega)
  omega

set_option maxHeartbeats 1000000 in
theorem refpower_nat (a0 n0 p : Nat) (w : World) (hp : 1 ≤ p) (hpm : p ≤ 1000000) (ha : a0 ≤ 1000000) (hn : n0 ≤ 9223372036854775807) :
    Calls Try.prog 50 #[.int .i64 a0, .int .i64 n0, .int .i64 p] w fun e w' => e = .returned (.int .i64 (Pm.pw a0 n0 p)) ∧ w = w' := by
  have hp0 : ¬ p = 0 := by omega
  have e1 : Int.tmod 1 (p : Int) = ((1 % p : Nat) : Int) := rfl
  go_enter Try.func50, Try.ntmps50
  go_wp2_with fail
  go_loop [0, 1, 7] (fun vx vn vu => ∃ x u n : Nat, vx = .int .i64 x ∧ vu = .int .i64 u ∧ vn = .int .i64 n ∧ x ≤ 1000000 ∧ u < p ∧ n ≤ 9223372036854775807 ∧ Pm.pu u x n p = Pm.pw a0 n0 p) (fun _ vn _ => (intOf vn).toNat)
  case atStart => exact ⟨a0, 1 % p, n0, rfl, by simp, rfl, ha, Nat.mod_lt _ hp, hn, Pm.pu_one⟩
  case round =>
    clear e1
    obtain ⟨x, u, n, rfl, rfl, rfl, hx', hu', hn', hs⟩ := hrel
    have Hs := Lib.hid hs
    clear hs
    have hm1 := mul_bd (a := u) (b := x) (m := 1000000) (by omega) (by omega)
    have hm2 := mul_bd (a := x) (b := x) (m := 1000000) (by omega) (by omega)
    have c1 : ((u : Int) * x) % p = (Pm.mm u x p : Nat) := Pm.cast_mm
    have c2 : ((x : Int) * x) % p = (Pm.mm x x p : Nat) := Pm.cast_mm
    have C1 := Lib.hid c1
    have C2 := Lib.hid c2
    clear c1 c2
    have hx2 := Pm.mm_lt (a := x) (b := x) hp
    have hu2 := Pm.mm_lt (a := u) (b := x) hp
    by_cases hn1 : 0 < (n : Int)
    · by_cases ho : n % 2 = 1
      · have hb : ((n : Int) % 2 == 1) = true := by rw [cast_mod2]; simp [ho]
        have Ho := Lib.hid ho
        clear ho
        go_wp2
        go_round
        case rel =>
          refine ⟨Pm.mm x x p, Pm.mm u x p, n / 2, ?_, ?_, by go_num, by omega, hu2, by omega, ?_⟩
          · rw [C2.out]
          · rw [C1.out]
          · rw [Pm.pu_odd Ho.out]; exact Hs.out
        case measure => simp [intOf]; omega
      · have hb : ((n : Int) % 2 == 1) = false := by rw [cast_mod2]; simp [ho]
        have Ho := Lib.hid ho
        clear ho
        go_wp2
        go_round
        case rel =>
          refine ⟨Pm.mm x x p, u, n / 2, ?_, rfl, by go_num, by omega, hu', by omega, ?_⟩
          · rw [C2.out]
          · rw [Pm.pu_even (by have := Ho.out; omega)]; exact Hs.out
        case measure => simp [intOf]; omega
    · obtain rfl : n = 0 := by omega
      go_wp2
      go_ret
      exact ⟨ret_int (by rw [← Hs.out, Pm.pu_zero hu']), rfl⟩

theorem refpower_int (a n p : Int) (w : World) (hp : 1 ≤ p) (hpm : p.toNat ≤ 1000000) (ha0 : 0 ≤ a) (ha : a.toNat ≤ 1000000) (hn0 : 0 ≤ n) (hn : n.toNat ≤ 9223372036854775807) :
    Calls Try.prog 50 #[.int .i64 a, .int .i64 n, .int .i64 p] w fun e w' => e = .returned (.int .i64 (Pm.pwI a n p)) ∧ w = w' := by
  have := refpower_nat a.toNat n.toNat p.toNat w (by omega) (by omega) (by omega) hn
  rw [Int.toNat_of_nonneg ha0, Int.toNat_of_nonneg hn0, Int.toNat_of_nonneg (by omega : 0 ≤ p)] at this
  exact this
end Go.Proofs.Ytcbonaeaemclnaa
