/- Lemmas and contracts on the way to the statement; no condition of their own beyond those written. -/
import Derived.Test.YtcbonaeaemclnaaPfK
import Derived.Test.YtcbonaeaemclnaaPmZ
namespace Go.Proofs.Ytcbonaeaemclnaa
open Go.RowKit
open Go.Proofs
attribute [local irreducible] Go.Calls

/-- Factors' results: the list and the error -/
def fl (n : Int) : List (Nat × Nat) := if 1 ≤ n ∧ n ≤ 1000000000 then Pm.facs n.toNat else []
def fe (n : Int) : Int := if 1 ≤ n ∧ n ≤ 1000000000 then 0 else 2
theorem fl_in {n : Nat} (h1 : 1 ≤ n) (h2 : n ≤ 1000000000) : fl (n : Int) = Pm.facs n ∧ fe (n : Int) = 0 := by
  have h : 1 ≤ (n : Int) ∧ (n : Int) ≤ 1000000000 := by omega
  unfold fl fe; rw [if_pos h, if_pos h]; exact ⟨rfl, rfl⟩
theorem fl_out {n : Int} (h : n < 1 ∨ 1000000000 < n) : fl n = [] ∧ fe n = 2 := by
  have h : ¬ (1 ≤ n ∧ n ≤ 1000000000) := by omega
  unfold fl fe; rw [if_neg h, if_neg h]; exact ⟨rfl, rfl⟩

theorem Factors_any (n : Int) {w w0 : World} (hb : Below w0.heap.size w0 w) :
    Calls Try.prog 16 #[.int .i64 n] w fun e w' => ∃ v, e = retL v (fe n) ∧ PairsAt w' v (fl n) ∧ Below w0.heap.size w0 w' ∧ Below w.heap.size w w' := by
  by_cases h : 1 ≤ n ∧ n ≤ 1000000000
  · obtain ⟨m, rfl⟩ := Int.eq_ofNat_of_zero_le (by omega : 0 ≤ n)
    obtain ⟨e1, e2⟩ := fl_in (n := m) (by omega) (by omega)
    rw [e1, e2]
    exact (Factors_yes m w (by omega) (by omega)).mono fun e w' ⟨v, a, b, c⟩ => ⟨v, a, b, hb.trans (c.mono hb.size), c⟩
  · obtain ⟨e1, e2⟩ := fl_out (n := n) (by omega)
    rw [e1, e2]
    exact (Factors_no n w (by omega)).mono fun e w' ⟨a, b⟩ => ⟨_, a, .inl ⟨rfl, rfl⟩, b ▸ hb, b ▸ Below.refl _ _⟩
theorem refFactors_any (n : Int) {w w0 : World} (hb : Below w0.heap.size w0 w) :
    Calls Try.prog 17 #[.int .i64 n] w fun e w' => ∃ v, e = retL v (fe n) ∧ PairsAt w' v (fl n) ∧ Below w0.heap.size w0 w' ∧ Below w.heap.size w w' := by
  by_cases h : 1 ≤ n ∧ n ≤ 1000000000
  · obtain ⟨m, rfl⟩ := Int.eq_ofNat_of_zero_le (by omega : 0 ≤ n)
    obtain ⟨e1, e2⟩ := fl_in (n := m) (by omega) (by omega)
    rw [e1, e2]
    exact (refFactors_yes m w (by omega) (by omega)).mono fun e w' ⟨v, a, b, c⟩ => ⟨v, a, b, hb.trans (c.mono hb.size), c⟩
  · obtain ⟨e1, e2⟩ := fl_out (n := n) (by omega)
    rw [e1, e2]
    exact (refFactors_no n w (by omega)).mono fun e w' ⟨a, b⟩ => ⟨_, a, .inl ⟨rfl, rfl⟩, b ▸ hb, b ▸ Below.refl _ _⟩
theorem k_same {v1 v2 : Value} {l1 l2 : List (Nat × Nat)} {b : Bool} {w w0 : World} (h1 : PairsAt w v1 l1) (h2 : PairsAt w v2 l2) (hd : decide (l1 = l2) = b) (hb : Below w0.heap.size w0 w) :
    Calls Try.prog 20 #[v1, v2] w fun e w' => e = .returned (.bool b) ∧ Below w0.heap.size w0 w' := by
  have := calls_acc (Same_any v1 v2 l1 l2 w h1 h2) hb
  rwa [hd] at this

set_option maxHeartbeats 1000000 in
theorem PrimeTests_any (n : Int) (w : World) : Calls Try.prog 4 #[.int .i64 n] w fun e w' => e = .returned (.bool true) ∧ Below w.heap.size w w' := by
  have hb0 := Below.refl w.heap.size w
  go_enter Try.func4, Try.ntmps4
  go_wp2_with (first | (go_at_call 11; refine (calls_acc (lives_any _) hb0).mono ?_; rintro e w1 ⟨rfl, hb1⟩) | (go_at_call 14; refine (Next_any _ _).mono ?_; rintro e w' ⟨rfl, rfl⟩; unfold ret2) | (go_at_call 15; refine (refNext_any _ _).mono ?_; rintro e w' ⟨rfl, rfl⟩; unfold ret2) | (go_at_call 16; refine (Factors_any _ hb1).mono ?_; rintro e w2 ⟨v1, rfl, p1, hb2, hc2⟩; unfold retL) | (go_at_call 17; refine (refFactors_any _ hb2).mono ?_; rintro e w3 ⟨v2, rfl, p2, hb3, hc3⟩; unfold retL; have p3 := p1.below hc3) | (go_at_call 18; refine (Is_any _ _).mono ?_; rintro e w' ⟨rfl, rfl⟩) | (go_at_call 19; refine (refIs_any _ _).mono ?_; rintro e w' ⟨rfl, rfl⟩) | (go_at_call 20; refine (k_same p3 p2 (decide_eq_true rfl) hb3).mono ?_; rintro e w4 ⟨rfl, hb4⟩))
  go_ret
  exact ⟨rfl, hb4⟩
end Go.Proofs.Ytcbonaeaemclnaa
