/- Lemmas and contracts on the way to the statement; no condition of their own beyond those written. -/
import Derived.Test.YtcbonaeaemclnaaProg
import Derived.WalkKit
import Derived.WalkSpells
import Derived.WalkLawsBesides
import Derived.Lib.Hide
import Derived.Test.YtcbonaeaemclnaaPmM
namespace Go.Proofs.Ytcbonaeaemclnaa
open Go.RowKit
open Go.Proofs

theorem ret_int {k : IntKind} {a b : Int} (h : a = b) : Ending.returned (.int k a) = .returned (.int k b) := by rw [h]

theorem sq_bd {k m : Nat} (h : k ≤ m) : 0 ≤ (k : Int) * k ∧ (k : Int) * k ≤ (m * m : Nat) := by
  have h1 : k * k ≤ m * m := Nat.mul_le_mul h h
  have h2 : ((k * k : Nat) : Int) = (k : Int) * k := by simp
  omega

theorem mod_beq_t {n k : Nat} (h : ((n : Int) % (k : Int) == 0) = true) : n % k = 0 := by
  have := eq_of_beq h; omega
theorem mod_beq_f {n k : Nat} (h : ((n : Int) % (k : Int) == 0) = false) : n % k ≠ 0 := by
  intro h'
  have : (n : Int) % (k : Int) = 0 := by omega
  rw [this] at h; simp at h

theorem le_sq {n k : Nat} (h : (k : Int) * k ≤ n) : k * k ≤ n := by
  have h2 : ((k * k : Nat) : Int) = (k : Int) * k := by simp
  omega
theorem lt_sq {n k : Nat} (h : (n : Int) < (k : Int) * k) : n < k * k := by
  have h2 : ((k * k : Nat) : Int) = (k : Int) * k := by simp
  omega
theorem lt_of_sq {n k m : Nat} (h : k * k ≤ n) (hn : n < m * m) : k < m := by
  rcases Nat.lt_or_ge k m with h1 | h1
  · exact h1
  · have := Nat.mul_le_mul h1 h1; omega

set_option maxHeartbeats 400000 in
theorem divides_any (n : Nat) (w : World) (h2 : 2 ≤ n) (hn : n ≤ 1000000000) :
    Calls Try.prog 44 #[.int .i64 n] w fun e w' => e = .returned (.int .i64 (Pm.lf n)) ∧ w = w' := by
  go_enter Try.func44, Try.ntmps44
  go_wp2
  go_loop [3] (fun i => ∃ k : Nat, 2 ≤ k ∧ k ≤ 32000 ∧ i = .int .i64 k ∧ ∀ e, 2 ≤ e → e < k → n % e ≠ 0) (fun i => 32000 - (intOf i).toNat)
  case atStart => exact ⟨2, by omega, by omega, rfl, fun e h1 h2 => by omega⟩
  case round =>
    obtain ⟨k, hk, hk', rfl, hs⟩ := hrel
    obtain ⟨hkk0, hkk1⟩ := sq_bd hk'
    go_wp2
    · go_ret
      exact ⟨ret_int (by rw [Pm.lf_at hk h2 hs (mod_beq_t ‹_›)]), rfl⟩
    · have hle := le_sq (n := n) (k := k) ‹_›
      have hlt := lt_of_sq hle (m := 32000) (by omega)
      have hm := mod_beq_f (n := n) (k := k) ‹_›
      go_round
      case rel =>
        refine ⟨k + 1, by omega, by omega, by go_num, fun e h1 h3 => ?_⟩
        rcases Nat.lt_or_ge e k with h | h
        · exact hs e h1 h
        · obtain rfl : e = k := by omega
          exact hm
      case measure => simp [intOf]; omega
    · go_ret
      exact ⟨ret_int (by rw [Pm.lf_end h2 hs (lt_sq ‹_›)]), rfl⟩
end Go.Proofs.Ytcbonaeaemclnaa
