/- Lemmas and contracts on the way to the statement; no condition of their own beyond those written. -/
import Derived.Test.YtcbonaeaemclnaaPmU
import Derived.Test.YtcbonaeaemclnaaPmV
namespace Go.Proofs.Ytcbonaeaemclnaa
open Go.RowKit
open Go.Proofs
attribute [local irreducible] Go.Calls

theorem v_inv : Pm.inv 3 7 = (5, 0) := by decide +kernel
theorem v_root : Pm.rtS 23 = (5, 0) := by decide +kernel
theorem v_sqrt : Pm.sqrt 2 7 = (3, 0) := by decide +kernel
theorem v_su : Pm.su 84 25 = (337, 0) := by decide +kernel
theorem v_is2 : Pm.isB 2 = true := by decide +kernel
theorem v_is1 : Pm.isB 1 = false := by decide +kernel

theorem c_inv (w : World) : Calls Try.prog 26 #[.int .i64 3, .int .i64 7] w fun e w' => e = .returned (.tuple #[.int .i64 5, .int .i64 0]) ∧ Below w.heap.size w w' := by
  have := Inv_any 3 7 w; rwa [v_inv] at this
theorem c_root (w : World) : Calls Try.prog 28 #[.int .i64 23] w fun e w' => e = .returned (.tuple #[.int .i64 5, .int .i64 0]) ∧ Below w.heap.size w w' := by
  have := Root_any 23 w; rwa [v_root] at this
theorem c_sqrt (w : World) : Calls Try.prog 23 #[.int .i64 2, .int .i64 7] w fun e w' => e = .returned (.tuple #[.int .i64 3, .int .i64 0]) ∧ w = w' := by
  have := Sqrt_any 2 7 w; rwa [v_sqrt] at this
theorem c_su (w : World) : Calls Try.prog 12 #[.int .i64 84, .int .i64 25] w fun e w' => e = .returned (.tuple #[.int .i64 337, .int .i64 0]) ∧ w = w' := by
  have := Suitable_any 84 25 w; rwa [v_su] at this

set_option maxHeartbeats 1000000 in
theorem lives_any (w : World) : Calls Try.prog 11 #[] w fun e w' => e = .returned (.bool true) ∧ Below w.heap.size w w' := by
  go_enter Try.func11, Try.ntmps11
  go_wp2_with (first | (go_at_call 26; refine (c_inv _).mono ?_; rintro e w1 ⟨rfl, hb1⟩) | (go_at_call 28; refine (c_root _).mono ?_; rintro e w2 ⟨rfl, hb2⟩) | (go_at_call 23; refine (c_sqrt _).mono ?_; rintro e w' ⟨rfl, rfl⟩) | (go_at_call 12; refine (c_su _).mono ?_; rintro e w' ⟨rfl, rfl⟩) | (go_at_call 41; refine (is_any _ _ _ _).mono ?_; rintro e w' ⟨rfl, rfl⟩) | (go_at_call 18; refine (Is_t 2 _ v_is2).mono ?_; rintro e w' ⟨rfl, rfl⟩) | (go_at_call 18; refine (Is_f 1 _ v_is1).mono ?_; rintro e w' ⟨rfl, rfl⟩))
  go_ret
  exact ⟨rfl, hb1.trans (hb2.mono hb1.size)⟩

set_option maxHeartbeats 1000000 in
theorem PrimeSuits_any (a b : Int) (w : World) : Calls Try.prog 3 #[.int .i64 a, .int .i64 b] w fun e w' => e = .returned (.bool true) ∧ Below w.heap.size w w' := by
  go_enter Try.func3, Try.ntmps3
  go_wp2_with (first | (go_at_call 11; refine (lives_any _).mono ?_; rintro e w1 ⟨rfl, hb1⟩) | (go_at_call 12; refine (Suitable_any _ _ _).mono ?_; rintro e w' ⟨rfl, rfl⟩; unfold ret2) | (go_at_call 13; refine (refSuitable_any _ _ _).mono ?_; rintro e w' ⟨rfl, rfl⟩; unfold ret2))
  go_ret
  exact ⟨rfl, hb1⟩
end Go.Proofs.Ytcbonaeaemclnaa
