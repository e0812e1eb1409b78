/- Lemmas and contracts on the way to the statement; no condition of their own beyond those written. -/
import Derived.Test.YtjifdmfoijoekaaXSeSfSg
import Derived.Test.YtjifdmfoijoekaaXQoQp
set_option linter.unusedVariables false
/-! The law's solves and awake. -/
namespace Go.Proofs.Ytjifdmfoijoekaa
open Go.RowKit
open Go.Proofs
attribute [local irreducible] Go.Calls

theorem aw1 : (Rj.ringsG 3 3 1).map Ma.ofN = [[1, 2, 0, 3, 4], [0, 1, 3, 4, 2]] := by decide
theorem aw2 : slvS 5 [[1, 2, 0, 3, 4], [0, 1, 3, 4, 2]] [2, 0, 1, 3, 4] 1 = ([-1], 0) := by decide
theorem aw3 : slvS 4 [[1, 0, 2, 3], [2, 1, 0, 3], [3, 2, 1, 0]] [2, 0, 1, 3] 10 = ([2, 1], 0) := by decide
theorem aw4 : ballS 4 [[1, 0, 2, 3], [2, 1, 0, 3], [3, 2, 1, 0]] 2 = ([1, 3, 6], 0) := by decide
theorem aw5 : sameG 5 [[1, 2, 0, 3, 4], [0, 1, 3, 4, 2]] 5 [[1, 2, 0, 3, 4], [0, 1, 3, 4, 2]] = true := by decide

theorem selfT (l : List Int) : Hid (decide (l = l) = true) := Lib.hid (by simp)

set_option maxHeartbeats 1000000 in
theorem solves_yes (gv xv wv : Value) (d : Int) (ll : List (List Int)) (xl wl : List Int) (n : Int) (w : World) (h : Rg.Rows w gv ll) (hx : Rg.Ints w xv xl) (hw : Rg.Ints w wv wl) (hE : slvS d ll xl n = (wl, 0)) :
    Calls Try.prog 31 #[.agg #[.int .i64 d, gv], xv, .int .i64 n, wv] w fun e w' => e = .returned (.bool true) ∧ Below w.heap.size w w' := by
  have hv := h
  obtain ⟨ad, cap, rfl, hc, _, _, _⟩ := h.shape
  have hba := Lib.hid (show Below w.heap.size w (w.alloc (.cells #[.int .i64 d, .slice ad ll.length cap] 24)) from (Below.refl _ _).alloc (Nat.le_refl _) _)
  have hS := Solve_any (.slice ad ll.length cap) xv d ll xl n _ (hv.below hba.out) (hx.below hba.out)
  rw [hE] at hS
  have HS := Lib.hid hS
  have HW := Lib.hid hw
  clear h hx hw hv hS hE
  go_enter Try.func31, Try.ntmps31
  go_wp2_with (first | (go_at_call 21; refine HS.out.mono ?_; rintro e w1 ⟨sv, rfl, hsv, hb1⟩; have Hb1 := Lib.hid (Rg.acc hba.out hb1); have Hsv := Lib.hid hsv; clear hb1 hsv) | (go_at_call 12; refine (Same_any Hsv.out (HW.out.below Hb1.out) (selfT _) Hb1.out).mono ?_; rintro e w2 ⟨rfl, hb2⟩; have Hb2 := Lib.hid hb2; clear hb2))
  go_ret
  exact ⟨rfl, Hb2.out⟩
end Go.Proofs.Ytjifdmfoijoekaa

