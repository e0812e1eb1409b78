/- Lemmas and contracts on the way to the statement; no condition of their own beyond those written. -/
import Derived.Test.YtcbonaeaemclnaaPmM
namespace Go.Proofs.Pm
/-- product and power modulo p -/
def mm (a b p : Nat) : Nat := a * b % p
def pw (a n p : Nat) : Nat := a ^ n % p
/-- u times x to the n, modulo p -/
def pu (u x n p : Nat) : Nat := u * x ^ n % p
theorem mm_lt {a b p : Nat} (h : 1 ≤ p) : mm a b p < p := Nat.mod_lt _ h
theorem pw_lt {a n p : Nat} (h : 1 ≤ p) : pw a n p < p := Nat.mod_lt _ h
theorem pu_odd {u x n p : Nat} (h : n % 2 = 1) : pu (mm u x p) (mm x x p) (n / 2) p = pu u x n p := by
  unfold pu mm
  have h1 : n = 2 * (n / 2) + 1 := by omega
  rw [Nat.mul_mod, Nat.mod_mod, ← Nat.pow_mod, ← Nat.mul_mod]
  conv => rhs; rw [h1, Nat.pow_succ, Nat.pow_mul, show x ^ 2 = x * x from by rw [Nat.pow_two]]
  congr 1
  rw [Nat.mul_comm ((x * x) ^ (n / 2)) x, Nat.mul_assoc]
theorem pu_even {u x n p : Nat} (h : n % 2 = 0) : pu u (mm x x p) (n / 2) p = pu u x n p := by
  unfold pu mm
  have h1 : n = 2 * (n / 2) := by omega
  rw [Nat.mul_mod, ← Nat.pow_mod, ← Nat.mul_mod]
  conv => rhs; rw [h1, Nat.pow_mul, show x ^ 2 = x * x from by rw [Nat.pow_two]]
theorem pu_zero {u x p : Nat} (h : u < p) : pu u x 0 p = u := by simp [pu, Nat.mod_eq_of_lt h]
theorem pu_one {x n p : Nat} : pu (1 % p) x n p = pw x n p := by
  unfold pu pw
  rw [Nat.mul_mod, Nat.mod_mod, ← Nat.mul_mod, Nat.one_mul]
theorem cast_mm {a b p : Nat} : ((a : Int) * b) % p = (mm a b p : Nat) := by unfold mm; simp
end Go.Proofs.Pm
