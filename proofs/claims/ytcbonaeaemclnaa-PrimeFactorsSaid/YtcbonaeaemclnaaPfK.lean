/- Lemmas and contracts on the way to the statement; no condition of their own beyond those written. -/
import Derived.Test.YtcbonaeaemclnaaPmW
import Derived.Test.YtcbonaeaemclnaaPfA
namespace Go.Proofs.Ytcbonaeaemclnaa
open Go.RowKit
open Go.Proofs
attribute [local irreducible] Go.Calls

theorem calls_acc {f : FuncId} {args : Array Value} {w w0 : World} {e0 : Ending} (h : Calls Try.prog f args w fun e w' => e = e0 ∧ Below w.heap.size w w') (hb : Below w0.heap.size w0 w) :
    Calls Try.prog f args w fun e w' => e = e0 ∧ Below w0.heap.size w0 w' :=
  h.mono fun _ _ ⟨a, b⟩ => ⟨a, hb.trans (b.mono hb.size)⟩
theorem k_inv {a p : Int} {v : Int × Int} (h : Hid (Pm.inv a p = v)) {w w0 : World} (hb : Below w0.heap.size w0 w) :
    Calls Try.prog 26 #[.int .i64 a, .int .i64 p] w fun e w' => e = ret2 v ∧ Below w0.heap.size w0 w' := by
  have := calls_acc (Inv_any a p w) hb; rwa [h.out] at this
theorem k_ord {a p : Int} {v : Int × Int} (h : Hid (Pm.ordS a p = v)) {w w0 : World} (hb : Below w0.heap.size w0 w) :
    Calls Try.prog 27 #[.int .i64 a, .int .i64 p] w fun e w' => e = ret2 v ∧ Below w0.heap.size w0 w' := by
  have := calls_acc (Order_any a p w) hb; rwa [h.out] at this
theorem k_pow {a n p : Int} {v : Int × Int} (h : Hid (Pm.pow a n p = v)) {w w0 : World} (hb : Below w0.heap.size w0 w) :
    Calls Try.prog 25 #[.int .i64 a, .int .i64 n, .int .i64 p] w fun e w' => e = ret2 v ∧ Below w0.heap.size w0 w' := by
  have := calls_acc (Pow_any a n p w) hb; rwa [h.out] at this
theorem k_small {n p : Int} (h : Hid ((Pm.nx (n % 390)).1 = p)) (w : World) :
    Calls Try.prog 22 #[.int .i64 n] w fun e w' => e = .returned (.int .i64 p) ∧ w = w' := by
  have := small_any n w; rwa [h.out] at this
theorem k_pick {a p v : Int} (h : Hid (a % p = v)) (w : World) (h1 : 1 ≤ p) (h2 : p ≤ 1000000000000) :
    Calls Try.prog 21 #[.int .i64 a, .int .i64 p] w fun e w' => e = .returned (.int .i64 v) ∧ w = w' := by
  have := Pick_any a p w h1 h2; rwa [h.out] at this

theorem mul_bdN {a b p : Nat} (h1 : a < p) (h2 : b < p) (hp : p ≤ 1000) : (a : Int) * (b : Int) ≤ 1000000 ∧ 0 ≤ (a : Int) * (b : Int) := by
  have h3 : a * b ≤ 1000 * 1000 := Nat.mul_le_mul (by omega) (by omega)
  have : ((a * b : Nat) : Int) = (a : Int) * (b : Int) := by simp
  omega
theorem mod_eqI {a b p c : Nat} (h : a * b % p = c) : (a : Int) * (b : Int) % (p : Int) = (c : Int) := by
  have : (((a * b) % p : Nat) : Int) = (a : Int) * (b : Int) % (p : Int) := by simp
  rw [← this, h]


theorem k_root {p : Int} {v : Int × Int} (h : Hid (Pm.rtS p = v)) {w w0 : World} (hb : Below w0.heap.size w0 w) :
    Calls Try.prog 28 #[.int .i64 p] w fun e w' => e = ret2 v ∧ Below w0.heap.size w0 w' := by
  have := calls_acc (Root_any p w) hb; rwa [h.out] at this
theorem k_log {a p : Int} {v : Int × Int} (h : Hid (Pm.lgS a p = v)) {w w0 : World} (hb : Below w0.heap.size w0 w) :
    Calls Try.prog 29 #[.int .i64 a, .int .i64 p] w fun e w' => e = ret2 v ∧ Below w0.heap.size w0 w' := by
  have := calls_acc (Log_any a p w) hb; rwa [h.out] at this
theorem k_zeta {a p : Int} {v : Int × Int} (h : Hid (Pm.zeta a p = v)) {w w0 : World} (hb : Below w0.heap.size w0 w) :
    Calls Try.prog 30 #[.int .i64 a, .int .i64 p] w fun e w' => e = ret2 v ∧ Below w0.heap.size w0 w' := by
  have := calls_acc (Zeta_any a p w) hb; rwa [h.out] at this
theorem k_sym {a p : Int} {v : Int × Int} (h : Hid (Pm.sym a p = v)) {w w0 : World} (hb : Below w0.heap.size w0 w) :
    Calls Try.prog 24 #[.int .i64 a, .int .i64 p] w fun e w' => e = ret2 v ∧ Below w0.heap.size w0 w' := by
  have := calls_acc (Symbol_any a p w) hb; rwa [h.out] at this
theorem k_sqrt {a p : Int} {v : Int × Int} (h : Hid (Pm.sqrt a p = v)) (w : World) :
    Calls Try.prog 23 #[.int .i64 a, .int .i64 p] w fun e w' => e = ret2 v ∧ w = w' := by
  have := Sqrt_any a p w; rwa [h.out] at this
theorem pkN (u : Int) (m : Nat) (hm : 1 ≤ m) : ∃ k : Nat, u % (m : Int) = (k : Int) ∧ k < m := by
  have h0 := Int.emod_nonneg u (by omega : (m : Int) ≠ 0)
  have h1 := Int.emod_lt_of_pos u (by omega : (0 : Int) < m)
  obtain ⟨k, hk⟩ := Int.eq_ofNat_of_zero_le h0
  exact ⟨k, hk, by omega⟩
end Go.Proofs.Ytcbonaeaemclnaa
