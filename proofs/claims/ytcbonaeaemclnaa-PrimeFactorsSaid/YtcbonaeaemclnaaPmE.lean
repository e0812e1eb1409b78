/- Lemmas and contracts on the way to the statement; no condition of their own beyond those written. -/
import Derived.Test.YtcbonaeaemclnaaPmD
import Derived.Test.YtcbonaeaemclnaaPmM2
import Derived.Deep.RegionWith
namespace Go.Proofs.Ytcbonaeaemclnaa
open Go.RowKit
open Go.Proofs

theorem modulo_any (p : Int) (w : World) :
    Calls Try.prog 53 #[.int .i64 p] w fun e w' => e = .returned (.func (.func 54) #[] #[.pointer (some ⟨w.heap.size, 0, none⟩)]) ∧ w.alloc (.cells #[.int .i64 p] 3) = w' := by
  go_enter Try.func53, Try.ntmps53
  go_wp2
  go_ret
  exact ⟨rfl, rfl⟩

theorem mul_bd {a b m : Nat} (ha : a ≤ m) (hb : b ≤ m) : 0 ≤ (a : Int) * b ∧ (a : Int) * b ≤ (m * m : Nat) := by
  have h1 : a * b ≤ m * m := Nat.mul_le_mul ha hb
  have h2 : ((a * b : Nat) : Int) = (a : Int) * b := by simp
  omega

theorem modulo1_any (a b p B : Nat) (w : World) (hp : 1 ≤ p) (ha : a ≤ 1000000) (hb : b ≤ 1000000) (hc : w.cell? ⟨B, 0, none⟩ = some (.int .i64 p)) :
    Calls Try.prog 54 #[.int .i64 a, .int .i64 b, .pointer (some ⟨B, 0, none⟩)] w fun e w' => e = .returned (.int .i64 (Pm.mm a b p)) ∧ w = w' := by
  obtain ⟨h1, h2⟩ := mul_bd ha hb
  go_enter Try.func54, Try.ntmps54
  go_wp2
  go_ret
  exact ⟨ret_int Pm.cast_mm, rfl⟩

theorem cast_mod2 {n : Nat} : ((n : Int) % 2 == 1) = decide (n % 2 = 1) := by
  rw [Bool.eq_iff_iff]; simp; omega

set_option maxHeartbeats 400000 in
theorem power_any (x0 u0 n0 p B : Nat) (w : World) (hp : 1 ≤ p) (hpm : p ≤ 1000000) (hx : x0 ≤ 1000000) (hu : u0 < p) (hn : n0 ≤ 9223372036854775807) (hc : w.cell? ⟨B, 0, none⟩ = some (.int .i64 p)) :
    Calls Try.prog 52 #[.int .i64 x0, .int .i64 u0, .int .i64 n0, .func (.func 54) #[] #[.pointer (some ⟨B, 0, none⟩)]] w fun e w' => e = .returned (.int .i64 (Pm.pu u0 x0 n0 p)) ∧ w = w' := by
  go_enter Try.func52, Try.ntmps52
  go_wp2_with fail
  go_loop [0, 1, 2] (fun vx vu vn => ∃ x u n : Nat, vx = .int .i64 x ∧ vu = .int .i64 u ∧ vn = .int .i64 n ∧ x ≤ 1000000 ∧ u < p ∧ n ≤ 9223372036854775807 ∧ Pm.pu u x n p = Pm.pu u0 x0 n0 p) (fun _ _ vn => (intOf vn).toNat)
  case atStart => exact ⟨x0, u0, n0, rfl, rfl, rfl, hx, hu, hn, rfl⟩
  case round =>
    obtain ⟨x, u, n, rfl, rfl, rfl, hx', hu', hn', hs⟩ := hrel
    have Hs := Lib.hid hs
    clear hs
    by_cases hn1 : 0 < (n : Int)
    · by_cases ho : n % 2 = 1
      · have hb : ((n : Int) % 2 == 1) = true := by rw [cast_mod2]; simp [ho]
        have Ho := Lib.hid ho
        clear ho
        go_wp2_with (go_at_call 54; refine (modulo1_any _ _ p B _ hp (by omega) (by omega) hc).mono ?_; rintro e w' ⟨rfl, rfl⟩)
        go_round
        case rel =>
          refine ⟨_, _, n / 2, rfl, rfl, by go_num, ?_, ?_, by omega, ?_⟩
          · have := Pm.mm_lt (a := x) (b := x) hp; omega
          · exact Pm.mm_lt hp
          · rw [Pm.pu_odd Ho.out]; exact Hs.out
        case measure => simp [intOf]; omega
      · have hb : ((n : Int) % 2 == 1) = false := by rw [cast_mod2]; simp [ho]
        have Ho := Lib.hid ho
        clear ho
        go_wp2_with (go_at_call 54; refine (modulo1_any _ _ p B _ hp (by omega) (by omega) hc).mono ?_; rintro e w' ⟨rfl, rfl⟩)
        go_round
        case rel =>
          refine ⟨_, _, n / 2, rfl, rfl, by go_num, ?_, hu', by omega, ?_⟩
          · have := Pm.mm_lt (a := x) (b := x) hp; omega
          · rw [Pm.pu_even (by have := Ho.out; omega)]; exact Hs.out
        case measure => simp [intOf]; omega
    · obtain rfl : n = 0 := by omega
      go_wp2
      go_ret
      exact ⟨ret_int (by rw [← Hs.out, Pm.pu_zero hu']), rfl⟩

theorem power_one (x0 n0 p B : Nat) (w : World) (hp : 1 ≤ p) (hpm : p ≤ 1000000) (hx : x0 ≤ 1000000) (hn : n0 ≤ 9223372036854775807) (hc : w.cell? ⟨B, 0, none⟩ = some (.int .i64 p)) :
    Calls Try.prog 52 #[.int .i64 x0, .int .i64 (Int.tmod 1 p), .int .i64 n0, .func (.func 54) #[] #[.pointer (some ⟨B, 0, none⟩)]] w fun e w' => e = .returned (.int .i64 (Pm.pw x0 n0 p)) ∧ w = w' := by
  have := power_any x0 (1 % p) n0 p B w hp hpm hx (Nat.mod_lt _ hp) hn hc
  rw [Pm.pu_one] at this
  rwa [show ((1 % p : Nat) : Int) = Int.tmod 1 p from rfl] at this

end Go.Proofs.Ytcbonaeaemclnaa
