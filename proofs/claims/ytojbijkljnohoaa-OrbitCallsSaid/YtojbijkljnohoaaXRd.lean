/- Lemmas and contracts on the way to the statement; no condition of their own beyond those written. -/
import Derived.Test.YtojbijkljnohoaaXEx
import Derived.Lib.SmallJoins
import Derived.Deep.Matrix
set_option linter.unusedVariables false
/-! The laws' arguments read. -/
set_option linter.unusedVariables false
namespace Go.Proofs.Ytojbijkljnohoaa
open Go.RowKit
open Go.Proofs
open Go.ChangeShapes Go.WideShapes Go.Deep Go.Joins
attribute [local irreducible] Go.Calls

theorem maxLen_le : (0 : Nat) ≤ maxLen := Nat.zero_le _

section
variable {H : Type} {enc : TypeId × Value → H}
/-- a permutation handed in reads as a list of integers -/
theorem readP {W : World} {base : Nat} {r : Reach} {v : Value} {d : DataW H} {p : List MemPlace} (h : DataW.Trod enc Try.prog W 0 (fun _ => true) true 62 v d p) (hv : ∃ x, v.cells.toList = [x] ∧ v = x) :
    ∃ l, Rg.IntsB maxLen W v l := by
  obtain ⟨fuel, hf⟩ := h
  obtain ⟨x, hc, rfl⟩ := hv
  rw [hc] at hf
  rcases open_ints Try.underlying62 Try.underlying3 cells3 hf with ⟨hcs, _⟩ | ⟨a, len, cap, zs, hcs, _, hl, hm, hz, _, hcell, _⟩
  · obtain rfl : v = .slice none 0 0 := by simpa using hcs
    exact ⟨[], none, 0, rfl, by simp, Nat.zero_le _, by simp, fun h => by simp at h⟩
  · obtain rfl : v = .slice (some a) len cap := by simpa using hcs
    simp only [if_true] at hz
    have hlen : (zs.take len).length = len := by rw [List.length_take]; omega
    refine ⟨zs.take len, some a, cap, by rw [List.length_map, hlen], by rw [List.length_map, hlen]; exact hl, hm, by rw [List.length_map, hlen]; omega, fun h0 => ?_⟩
    rw [List.length_map, hlen] at h0
    have hc0 := hcell 0 (by omega)
    have ha : a = ⟨a.block, a.off, none⟩ := by
      have := spot_none (a := a) (by simpa [Addr.add] using hc0)
      cases a; simp at this; subst this; rfl
    refine ⟨a.block, a.off, by rw [← ha], lt_of_cell (a := a) (by simpa [Addr.add] using hc0), fun i hi => ?_⟩
    rw [List.length_map, hlen] at hi
    rw [← add_none ha i, hcell i (by omega)]
    simp [List.getD, List.getElem?_eq_getElem (show i < zs.length by omega)]

set_option maxRecDepth 100000 in
theorem readG {W : World} {base : Nat} {r : Reach} {v : Value} {d : DataW H} {p : List MemPlace} (hv : Value.okWide Try.prog W r base 24 v) (h : DataW.Trod enc Try.prog W 0 (fun _ => true) true 24 v d p) :
    ∃ (dd : Int) (gv : Value) (ll : List (List Int)), v = .agg #[.int .i64 dd, gv] ∧ Rg.RowsB maxLen W gv ll := by
  obtain ⟨c0, c1, y0, y1, m, rfl, rfl, rfl, hy0, hy1⟩ := open_agg2 Try.underlying24 (by kernel_rfl) cells24 hv h
  obtain ⟨a, e0, _, _⟩ := DataW.trod_int Try.underlying3 hy0
  simp at e0
  subst e0
  rcases open_int_rows Try.underlying22 Try.underlying62 Try.underlying3 cells39 cells3 hy1 with ⟨hcs, _⟩ | ⟨a1, len, cap, A, L, C, Z, hcs, _, hl, hm, _, hrow⟩
  · obtain rfl : c1 = .slice none 0 0 := by simpa using hcs
    exact ⟨a, _, [], rfl, [], ⟨none, 0, rfl, by simp, Nat.zero_le _, by simp, fun h => by simp at h⟩, rfl, fun i h => by simp at h⟩
  · obtain rfl : c1 = .slice (some a1) len cap := by simpa using hcs
    refine ⟨a, _, (List.range len).map fun r => (Z r).take (L r), rfl, (List.range len).map fun r => .slice (A r) (L r) (C r), ⟨some a1, cap, by simp, by simp; exact hl, hm, by simp; omega, fun h0 => ?_⟩, by simp, fun i h1 h2 => ?_⟩
    · simp only [List.length_map, List.length_range] at h0
      obtain ⟨hc0, _⟩ := hrow 0 (by omega)
      have ha : a1 = ⟨a1.block, a1.off, none⟩ := by
        have := spot_none (a := a1) (by simpa [Addr.add] using hc0)
        cases a1; simp at this; subst this; rfl
      refine ⟨a1.block, a1.off, by rw [← ha], lt_of_cell (a := a1) (by simpa [Addr.add] using hc0), fun i hi => ?_⟩
      simp only [List.length_map, List.length_range] at hi
      rw [← add_none ha i, (hrow i (by omega)).1]
      simp
    · simp only [List.length_map, List.length_range] at h1
      simp only [List.getElem_map, List.getElem_range]
      obtain ⟨_, hLC, hCm, hZ, _, hn, hcell⟩ := hrow i (by omega)
      have hlen : ((Z i).take (L i)).length = L i := by rw [List.length_take]; omega
      refine ⟨A i, C i, by rw [List.length_map, hlen], by rw [List.length_map, hlen]; exact hLC, hCm, by rw [List.length_map, hlen]; omega, fun h0 => ?_⟩
      rw [List.length_map, hlen] at h0
      cases hA : A i with
      | none => have := hn hA; omega
      | some a' =>
        obtain ⟨_, hcl⟩ := hcell a' hA
        have hc0 := hcl 0 (by omega)
        have ha : a' = ⟨a'.block, a'.off, none⟩ := by
          have := spot_none (a := a') (by simpa [Addr.add] using hc0)
          cases a'; simp at this; subst this; rfl
        refine ⟨a'.block, a'.off, by rw [← ha], lt_of_cell (a := a') (by simpa [Addr.add] using hc0), fun c hc => ?_⟩
        rw [List.length_map, hlen] at hc
        rw [← add_none ha c, hcl c (by omega)]
        simp [List.getD, List.getElem?_eq_getElem (show c < (Z i).length by omega)]
end

end Go.Proofs.Ytojbijkljnohoaa

