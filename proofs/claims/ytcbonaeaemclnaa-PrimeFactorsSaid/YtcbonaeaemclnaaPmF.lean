/- Lemmas and contracts on the way to the statement; no condition of their own beyond those written. -/
import Derived.Test.YtcbonaeaemclnaaPmE
namespace Go.Proofs.Ytcbonaeaemclnaa
open Go.RowKit
open Go.Proofs

set_option maxHeartbeats 400000 in
theorem to_any (a n p : Nat) (w : World) (hp : 1 ≤ p) (hpm : p ≤ 1000000) (ha : a ≤ 1000000) (hn : n ≤ 9223372036854775807) :
    Calls Try.prog 47 #[.int .i64 a, .int .i64 n, .int .i64 p] w fun e w' => e = .returned (.int .i64 (Pm.pw a n p)) ∧ Below w.heap.size w w' := by
  have hp0 : ¬ p = 0 := by omega
  go_enter Try.func47, Try.ntmps47
  go_wp2_with fail
  go_region_with (first | (go_at_call 53; refine (modulo_any _ _).mono ?_; rintro e w' ⟨rfl, rfl⟩) | (go_at_call 52; refine (power_one a n p w.heap.size _ hp hpm ha hn (by simp)).mono ?_; rintro e w' ⟨rfl, rfl⟩))
  all_goals
    go_wp2
    go_ret
    exact ⟨rfl, ((Below.refl _ w).alloc (Nat.le_refl _) _).drew⟩

end Go.Proofs.Ytcbonaeaemclnaa
