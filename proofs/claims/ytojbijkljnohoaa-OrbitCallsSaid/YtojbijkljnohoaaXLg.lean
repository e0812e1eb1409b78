/- Lemmas and contracts on the way to the statement; no condition of their own beyond those written. -/
import Derived.Test.YtojbijkljnohoaaXEx
set_option linter.unusedVariables false
/-! LargeGroup, big. -/
namespace Go.Proofs.Ytojbijkljnohoaa
open Go.RowKit
open Go.Proofs
attribute [local irreducible] Go.Calls

/-- LargeGroup, pure -/
def lg (ll : List (List Int)) : Bool := (ll.take 21).any (fun l => decide (70 < l.length)) || decide (20 < ll.length)
theorem lg_small {ll : List (List Int)} (h : lg ll = false) : ll.length ≤ 20 ∧ ∀ l ∈ ll, l.length ≤ 70 := by
  unfold lg at h
  rw [Bool.or_eq_false_iff] at h
  have h1 : ll.length ≤ 20 := by have := of_decide_eq_false h.2; omega
  refine ⟨h1, fun l hl => ?_⟩
  have h2 := h.1
  rw [List.take_of_length_le (by omega), List.any_eq_false] at h2
  have h3 := h2 l hl
  simp at h3
  exact h3
theorem lg_hit {ll : List (List Int)} {k : Nat} (hk : k < ll.length) (h21 : k < 21) (h : 70 < ll[k].length) : lg ll = true := by
  unfold lg
  rw [Bool.or_eq_true]
  refine .inl (List.any_eq_true.2 ⟨ll[k], ?_, by simpa using h⟩)
  rw [List.mem_take_iff_getElem]
  exact ⟨k, by omega, rfl⟩
theorem lg_end {ll : List (List Int)} {k : Nat} (h : ∀ i (hi : i < ll.length), i < k → ll[i].length ≤ 70) (hk : k = ll.length ∨ k = 21) : lg ll = decide (20 < ll.length) := by
  unfold lg
  have : (ll.take 21).any (fun l => decide (70 < l.length)) = false := by
    rw [List.any_eq_false]
    intro l hl
    rw [List.mem_take_iff_getElem] at hl
    obtain ⟨i, hi, rfl⟩ := hl
    have := h i (by omega) (by omega)
    simp; omega
  rw [this, Bool.false_or]

set_option maxHeartbeats 1000000 in
theorem LargeGroup_any {B : Nat} (gv : Value) (d : Int) (ll : List (List Int)) (w : World) (h : Rg.RowsB B w gv ll) :
    Calls Try.prog 10 #[.agg #[.int .i64 d, gv]] w fun e w' => e = .returned (.bool (lg ll)) ∧ Below w.heap.size w w' := by
  obtain ⟨ad, cap, rfl, hc, hlB, _, hcell⟩ := h.shape
  have hba := Lib.hid (show Below w.heap.size w (w.alloc (.cells #[.int .i64 d, .slice ad ll.length cap] 24)) from (Below.refl _ _).alloc (Nat.le_refl _) _)
  have hg1 : (w.alloc (.cells #[.int .i64 d, .slice ad ll.length cap] 24)).cell? ⟨w.heap.size, 1, none⟩ = some (.slice ad ll.length cap) := by rw [Rg.cellNew]; rfl
  have Hcell := Lib.hid hcell
  clear hcell h
  go_enter Try.func10, Try.ntmps10
  go_wp2
  have Hg1 := Lib.hid hg1
  clear hg1
  generalize hW : w.alloc (.cells #[.int .i64 d, .slice ad ll.length cap] 24) = W at *
  clear hW
  go_loopw [3] (fun v wr => ∃ k : Nat, v = .int .i64 k ∧ k ≤ 21 ∧ k ≤ ll.length ∧ wr = W ∧ Hid (∀ i (hi : i < ll.length), i < k → ll[i].length ≤ 70)) (fun v _ => 21 - (intOf v).toNat)
  case atStart => exact ⟨0, rfl, by omega, by omega, rfl, fun i hi h0 => by omega⟩
  case round =>
    obtain ⟨k, rfl, hk21, hkl, rfl, Hk⟩ := hrel
    have hg1 := Hg1.out
    by_cases hlt : k < ll.length
    · by_cases h21 : k < 21
      · obtain ⟨b, o, rfl, hb, hr⟩ := Hcell.out (by omega)
        obtain ⟨u, hu, hul⟩ := hr k hlt
        obtain ⟨ua, uc, rfl, huc, huB, hx1, hx2⟩ := hul.shape
        have hu' := (Rg.bcell hba.out).1 b (o + k) hb
        have hu2 := hu'.trans hu
        clear hu hu' hr hul hx1 hx2
        generalize hn : ll[k].length = n at *
        have Hn := Lib.hid hn
        clear hn
        by_cases hbig : 70 < n
        · go_wp2
          go_ret
          exact ⟨by rw [lg_hit hlt h21 (by rw [Hn.out]; exact hbig)]; rfl, hba.out⟩
        · go_wp2
          go_roundw
          case rel =>
            refine ⟨k + 1, by go_num, by omega, by omega, by first | rfl | trivial, Lib.hid fun i hi h0 => ?_⟩
            by_cases e : i = k
            · subst e; rw [Hn.out]; omega
            · exact Hk.out i hi (by omega)
          case measure => simp [intOf]; omega
      · obtain rfl : k = 21 := by omega
        have hE := Lib.hid (lg_end Hk.out (.inr rfl))
        clear Hk
        go_wp2
        go_ret
        exact ⟨by rw [hE.out]; simp; omega, hba.out⟩
    · obtain rfl : k = ll.length := by omega
      have hE := Lib.hid (lg_end Hk.out (.inl rfl))
      clear Hk
      go_wp2
      go_ret
      exact ⟨by rw [hE.out]; simp; omega, hba.out⟩
end Go.Proofs.Ytojbijkljnohoaa

