/- Lemmas and contracts on the way to the statement; no condition of their own beyond those written. -/
import Derived.Test.YtcbonaeaemclnaaPgE
import Derived.Test.YtcbonaeaemclnaaPmV
namespace Go.Proofs.Ytcbonaeaemclnaa
open Go.RowKit
open Go.Proofs
attribute [local irreducible] Go.Calls

set_option maxRecDepth 100000 in
set_option maxHeartbeats 4000000 in
theorem PrimeCalls_any (a n p : Int) (w : World) (hn : Hid (n.toNat ≤ 9223372036854775807)) : Calls Try.prog 9 #[.int .i64 a, .int .i64 n, .int .i64 p] w fun e w' => e = .returned (.bool true) ∧ Below w.heap.size w w' := by
  have hb0 := Below.refl w.heap.size w
  go_enter Try.func9, Try.ntmps9
  go_wp2_with (first | (go_at_call 11; refine (calls_acc (lives_any _) hb0).mono ?_; rintro e w1 ⟨rfl, hb1⟩) | (go_at_call 31; refine (Mod_any _ _ _).mono ?_; rintro e w' ⟨rfl, rfl⟩; unfold ret2) | (go_at_call 32; refine (refMod_any _ _ _).mono ?_; rintro e w' ⟨rfl, rfl⟩; unfold ret2) | (go_at_call 33; refine (refInv_any _ _ _).mono ?_; rintro e w' ⟨rfl, rfl⟩; unfold ret2) | (go_at_call 35; refine (refOrder_any _ _ _).mono ?_; rintro e w' ⟨rfl, rfl⟩; unfold ret2) | (go_at_call 23; refine (Sqrt_any _ _ _).mono ?_; rintro e w' ⟨rfl, rfl⟩; unfold ret2) | (go_at_call 38; refine (refSqrt_any _ _ _).mono ?_; rintro e w' ⟨rfl, rfl⟩; unfold ret2) | (go_at_call 39; refine (refSymbol_any _ _ _).mono ?_; rintro e w' ⟨rfl, rfl⟩; unfold ret2) | (go_at_call 34; refine (refPow_any _ _ _ _ hn.out).mono ?_; rintro e w' ⟨rfl, rfl⟩; unfold ret2) | (go_at_call 26; refine (calls_acc (Inv_any _ _ _) (by assumption)).mono ?_; rintro e wn0 ⟨rfl, hn0⟩; unfold ret2) | (go_at_call 25; refine (calls_acc (Pow_any _ _ _ _) (by assumption)).mono ?_; rintro e wn1 ⟨rfl, hn1⟩; unfold ret2) | (go_at_call 27; refine (calls_acc (Order_any _ _ _) (by assumption)).mono ?_; rintro e wn2 ⟨rfl, hn2⟩; unfold ret2) | (go_at_call 28; refine (calls_acc (Root_any _ _) (by assumption)).mono ?_; rintro e wn3 ⟨rfl, hn3⟩; unfold ret2) | (go_at_call 36; refine (calls_acc (refRoot_any _ _) (by assumption)).mono ?_; rintro e wn4 ⟨rfl, hn4⟩; unfold ret2) | (go_at_call 29; refine (calls_acc (Log_any _ _ _) (by assumption)).mono ?_; rintro e wn5 ⟨rfl, hn5⟩; unfold ret2) | (go_at_call 37; refine (calls_acc (refLog_any _ _ _) (by assumption)).mono ?_; rintro e wn6 ⟨rfl, hn6⟩; unfold ret2) | (go_at_call 24; refine (calls_acc (Symbol_any _ _ _) (by assumption)).mono ?_; rintro e wn7 ⟨rfl, hn7⟩; unfold ret2) | (go_at_call 30; refine (calls_acc (Zeta_any _ _ _) (by assumption)).mono ?_; rintro e wn8 ⟨rfl, hn8⟩; unfold ret2) | (go_at_call 40; refine (calls_acc (refZeta_any _ _ _) (by assumption)).mono ?_; rintro e wn9 ⟨rfl, hn9⟩; unfold ret2))
  go_ret
  exact ⟨rfl, by assumption⟩
end Go.Proofs.Ytcbonaeaemclnaa
