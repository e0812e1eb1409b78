/- Lemmas and contracts on the way to the statement; no condition of their own beyond those written. -/
import Derived.Test.YtjifdmfoijoekaaXSkSl
import Derived.Lib.SmallJoins
import Derived.Deep.Matrix
set_option linter.unusedVariables false
/-! The laws' arguments read; the law PuzzleBalls. -/
namespace Go.Proofs.Ytjifdmfoijoekaa
open Go.RowKit
open Go.Proofs
open Go.ChangeShapes Go.WideShapes Go.Deep Go.Joins
attribute [local irreducible] Go.Calls

theorem spot_none {w : World} {a : Addr} {v : Value} (h : w.cell? a = some v) : a.spot = none := by
  unfold World.cell? at h
  split at h
  · split at h
    · cases h
    · rename_i hs; simpa using hs
  · cases h
theorem add_none {a : Addr} {b o : Nat} (h : a = ⟨b, o, none⟩) (i : Nat) : a.add i = ⟨b, o + i, none⟩ := by
  subst h
  unfold Addr.add
  split
  · rename_i h0; subst h0; rfl
  · rfl

theorem cells39 : Try.prog.cellsOf 39 = 1 := by kernel_rfl
theorem cells3 : Try.prog.cellsOf 3 = 1 := by kernel_rfl
theorem cells24 : Try.prog.cellsOf 24 = 2 := by kernel_rfl
theorem lt_of_cell {w : World} {a : Addr} {v : Value} (h : w.cell? a = some v) : a.block < w.heap.size := by
  unfold World.cell? at h
  split at h
  · rename_i hh; exact (Array.getElem?_eq_some_iff.1 hh).1
  · cases h
theorem maxLen_le : (0 : Nat) ≤ maxLen := Nat.zero_le _

section
variable {H : Type} {enc : TypeId × Value → H}
/-- a permutation handed in reads as a list of integers -/
theorem readP {W : World} {base : Nat} {r : Reach} {v : Value} {d : DataW H} {p : List MemPlace} (h : DataW.Trod enc Try.prog W 0 (fun _ => true) true 39 v d p) (hv : ∃ x, v.cells.toList = [x] ∧ v = x) :
    ∃ l, Rg.IntsB maxLen W v l := by
  obtain ⟨fuel, hf⟩ := h
  obtain ⟨x, hc, rfl⟩ := hv
  rw [hc] at hf
  rcases open_ints Try.underlying39 Try.underlying3 cells3 hf with ⟨hcs, _⟩ | ⟨a, len, cap, zs, hcs, _, hl, hm, hz, _, hcell, _⟩
  · obtain rfl : v = .slice none 0 0 := by simpa using hcs
    exact ⟨[], none, 0, rfl, by simp, Nat.zero_le _, by simp, fun h => by simp at h⟩
  · obtain rfl : v = .slice (some a) len cap := by simpa using hcs
    simp only [if_true] at hz
    have hlen : (zs.take len).length = len := by rw [List.length_take]; omega
    refine ⟨zs.take len, some a, cap, by rw [List.length_map, hlen], by rw [List.length_map, hlen]; exact hl, hm, by rw [List.length_map, hlen]; omega, fun h0 => ?_⟩
    rw [List.length_map, hlen] at h0
    have hc0 := hcell 0 (by omega)
    have ha : a = ⟨a.block, a.off, none⟩ := by
      have := spot_none (a := a) (by simpa [Addr.add] using hc0)
      cases a; simp at this; subst this; rfl
    refine ⟨a.block, a.off, by rw [← ha], lt_of_cell (a := a) (by simpa [Addr.add] using hc0), fun i hi => ?_⟩
    rw [List.length_map, hlen] at hi
    rw [← add_none ha i, hcell i (by omega)]
    simp [List.getD, List.getElem?_eq_getElem (show i < zs.length by omega)]

theorem readG {W : World} {base : Nat} {r : Reach} {v : Value} {d : DataW H} {p : List MemPlace} (hv : Value.okWide Try.prog W r base 24 v) (h : DataW.Trod enc Try.prog W 0 (fun _ => true) true 24 v d p) :
    ∃ (dd : Int) (gv : Value) (ll : List (List Int)), v = .agg #[.int .i64 dd, gv] ∧ Rg.RowsB maxLen W gv ll := by
  obtain ⟨c0, c1, y0, y1, m, rfl, rfl, rfl, hy0, hy1⟩ := open_agg2 Try.underlying24 (by kernel_rfl) cells24 hv h
  obtain ⟨a, e0, _, _⟩ := DataW.trod_int Try.underlying3 hy0
  simp at e0
  subst e0
  rcases open_int_rows Try.underlying22 Try.underlying39 Try.underlying3 cells39 cells3 hy1 with ⟨hcs, _⟩ | ⟨a1, len, cap, A, L, C, Z, hcs, _, hl, hm, _, hrow⟩
  · obtain rfl : c1 = .slice none 0 0 := by simpa using hcs
    exact ⟨a, _, [], rfl, [], ⟨none, 0, rfl, by simp, Nat.zero_le _, by simp, fun h => by simp at h⟩, rfl, fun i h => by simp at h⟩
  · obtain rfl : c1 = .slice (some a1) len cap := by simpa using hcs
    refine ⟨a, _, (List.range len).map fun r => (Z r).take (L r), rfl, (List.range len).map fun r => .slice (A r) (L r) (C r), ⟨some a1, cap, by simp, by simp; exact hl, hm, by simp; omega, fun h0 => ?_⟩, by simp, fun i h1 h2 => ?_⟩
    · simp only [List.length_map, List.length_range] at h0
      obtain ⟨hc0, _⟩ := hrow 0 (by omega)
      have ha : a1 = ⟨a1.block, a1.off, none⟩ := by
        have := spot_none (a := a1) (by simpa [Addr.add] using hc0)
        cases a1; simp at this; subst this; rfl
      refine ⟨a1.block, a1.off, by rw [← ha], lt_of_cell (a := a1) (by simpa [Addr.add] using hc0), fun i hi => ?_⟩
      simp only [List.length_map, List.length_range] at hi
      rw [← add_none ha i, (hrow i (by omega)).1]
      simp
    · simp only [List.length_map, List.length_range] at h1
      simp only [List.getElem_map, List.getElem_range]
      obtain ⟨_, hLC, hCm, hZ, _, hn, hcell⟩ := hrow i (by omega)
      have hlen : ((Z i).take (L i)).length = L i := by rw [List.length_take]; omega
      refine ⟨A i, C i, by rw [List.length_map, hlen], by rw [List.length_map, hlen]; exact hLC, hCm, by rw [List.length_map, hlen]; omega, fun h0 => ?_⟩
      rw [List.length_map, hlen] at h0
      cases hA : A i with
      | none => have := hn hA; omega
      | some a' =>
        obtain ⟨_, hcl⟩ := hcell a' hA
        have hc0 := hcl 0 (by omega)
        have ha : a' = ⟨a'.block, a'.off, none⟩ := by
          have := spot_none (a := a') (by simpa [Addr.add] using hc0)
          cases a'; simp at this; subst this; rfl
        refine ⟨a'.block, a'.off, by rw [← ha], lt_of_cell (a := a') (by simpa [Addr.add] using hc0), fun c hc => ?_⟩
        rw [List.length_map, hlen] at hc
        rw [← add_none ha c, hcl c (by omega)]
        simp [List.getD, List.getElem?_eq_getElem (show c < (Z i).length by omega)]
end

set_option maxHeartbeats 2000000 in
theorem PuzzleBalls_any (gv : Value) (d : Int) (ll : List (List Int)) (n : Int) (w : World) (h : Rg.RowsB maxLen w gv ll) :
    Calls Try.prog 3 #[.agg #[.int .i64 d, gv], .int .i64 n] w fun e w' => e = .returned (.bool true) ∧ Below w.heap.size w w' := by
  have hv := h
  obtain ⟨ad, cap, rfl, hc, hlB, hcm, _⟩ := h.shape
  have hba := Lib.hid (show Below w.heap.size w (w.alloc (.cells #[.int .i64 d, .slice ad ll.length cap] 24)) from (Below.refl _ _).alloc (Nat.le_refl _) _)
  have hLG := LargeGroup_any (.slice ad ll.length cap) d ll _ (hv.below hba.out)
  have hg0 : (w.alloc (.cells #[.int .i64 d, .slice ad ll.length cap] 24)).cell? ⟨w.heap.size, 0, none⟩ = some (.int .i64 d) := by rw [Rg.cellNew]; rfl
  have hg1 : (w.alloc (.cells #[.int .i64 d, .slice ad ll.length cap] 24)).cell? ⟨w.heap.size, 1, none⟩ = some (.slice ad ll.length cap) := by rw [Rg.cellNew]; rfl
  have hcl : w.heap.size < (w.alloc (.cells #[.int .i64 d, .slice ad ll.length cap] 24)).heap.size := by simp
  have Hg0 := Lib.hid hg0
  have Hg1 := Lib.hid hg1
  have Hcl := Lib.hid hcl
  clear hg0 hg1 hcl
  cases hlg : lg ll with
  | true =>
    rw [hlg] at hLG
    have HLG := Lib.hid hLG
    clear hLG h hv hlg
    go_enter Try.func3, Try.ntmps3
    go_wp2_with (first | (go_at_call 8; refine HLG.out.mono ?_; rintro e w1 ⟨rfl, hb1⟩; have Hb1 := Lib.hid (Rg.acc hba.out hb1); clear hb1) | (go_at_call 9; refine (awake_any _).mono ?_; rintro e w2 ⟨rfl, hb2⟩; have Hb2 := Lib.hid (Rg.acc Hb1.out hb2); clear hb2))
    go_ret
    exact ⟨rfl, Hb2.out⟩
  | false =>
    rw [hlg] at hLG
    have HLG := Lib.hid hLG
    obtain ⟨hs1, hs2⟩ := lg_small hlg
    have hR : Rg.Rows w (.slice ad ll.length cap) ll := hv.small (by omega) (fun l hl => by have := hs2 l hl; omega)
    have HR := Lib.hid hR
    have hle : ((ll.length : Nat) : Int) ≤ 20 := by omega
    clear hLG h hv hlg hs2 hR hs1
    generalize hB : ballS d ll n = bs
    obtain ⟨b1, b2⟩ := bs
    have HB := Lib.hid hB
    clear hB
    by_cases hc1 : 3 < (ll.length : Int)
    · by_cases hc2 : (ll.length : Int) < 7
      · by_cases hc3 : 3 < n
        · by_cases hc4 : n < 6
          · go_enter Try.func3, Try.ntmps3
            go_wp2_with (first | (go_at_call 8; refine HLG.out.mono ?_; rintro e w1 ⟨rfl, hb1⟩; have hc0 := (hb1.cell (p := ⟨w.heap.size, 0, none⟩) Hcl.out).trans Hg0.out; have hc1' := (hb1.cell (p := ⟨w.heap.size, 1, none⟩) Hcl.out).trans Hg1.out; have hlt1 := Nat.lt_of_lt_of_le Hcl.out hb1.size; have Hb1 := Lib.hid (Rg.acc hba.out hb1); clear hb1) | (go_at_call 9; refine (awake_any _).mono ?_; rintro e w2 ⟨rfl, hb2⟩; have Hb2 := Lib.hid (Rg.acc Hb1.out hb2); clear hb2))
            go_ret
            exact ⟨rfl, Hb2.out⟩
          · go_enter Try.func3, Try.ntmps3
            go_wp2_with (first | (go_at_call 8; refine HLG.out.mono ?_; rintro e w1 ⟨rfl, hb1⟩; have hc0 := (hb1.cell (p := ⟨w.heap.size, 0, none⟩) Hcl.out).trans Hg0.out; have hc1' := (hb1.cell (p := ⟨w.heap.size, 1, none⟩) Hcl.out).trans Hg1.out; have hlt1 := Nat.lt_of_lt_of_le Hcl.out hb1.size; have Hb1 := Lib.hid (Rg.acc hba.out hb1); clear hb1) | (go_at_call 10; refine (Ball_any (.slice ad ll.length cap) d ll n _ (HR.out.below Hb1.out)).mono ?_; rintro e w2 ⟨v2, rfl, hv2, hb2⟩; rw [HB.out] at hv2; rw [HB.out]; have hd0 := (hb2.cell (p := ⟨w.heap.size, 0, none⟩) hlt1).trans hc0; have hd1 := (hb2.cell (p := ⟨w.heap.size, 1, none⟩) hlt1).trans hc1'; have Hv2 := Lib.hid hv2; have Hb2 := Lib.hid (Rg.acc Hb1.out hb2); clear hv2 hb2 hc0 hc1') | (go_at_call 11; refine (refBall_any (.slice ad ll.length cap) d ll n _ (HR.out.below Hb2.out)).mono ?_; rintro e w3 ⟨v3, rfl, hv3, hb3⟩; rw [HB.out] at hv3; rw [HB.out]; have Hv3 := Lib.hid hv3; have Hv2' := Lib.hid (Rg.Ints.below Hv2.out hb3); have Hb3 := Lib.hid (Rg.acc Hb2.out hb3); clear hv3 hb3 hd0 hd1) | (go_at_call 12; refine (Same_any Hv2'.out Hv3.out (selfT _) Hb3.out).mono ?_; rintro e w4 ⟨rfl, hb4⟩; have Hb4 := Lib.hid hb4; clear hb4) | (go_at_call 9; refine (awake_any _).mono ?_; rintro e w5 ⟨rfl, hb5⟩; have Hb5 := Lib.hid (Rg.acc Hb4.out hb5); clear hb5))
            go_ret
            exact ⟨rfl, Hb5.out⟩
        · go_enter Try.func3, Try.ntmps3
          go_wp2_with (first | (go_at_call 8; refine HLG.out.mono ?_; rintro e w1 ⟨rfl, hb1⟩; have hc0 := (hb1.cell (p := ⟨w.heap.size, 0, none⟩) Hcl.out).trans Hg0.out; have hc1' := (hb1.cell (p := ⟨w.heap.size, 1, none⟩) Hcl.out).trans Hg1.out; have hlt1 := Nat.lt_of_lt_of_le Hcl.out hb1.size; have Hb1 := Lib.hid (Rg.acc hba.out hb1); clear hb1) | (go_at_call 10; refine (Ball_any (.slice ad ll.length cap) d ll n _ (HR.out.below Hb1.out)).mono ?_; rintro e w2 ⟨v2, rfl, hv2, hb2⟩; rw [HB.out] at hv2; rw [HB.out]; have hd0 := (hb2.cell (p := ⟨w.heap.size, 0, none⟩) hlt1).trans hc0; have hd1 := (hb2.cell (p := ⟨w.heap.size, 1, none⟩) hlt1).trans hc1'; have Hv2 := Lib.hid hv2; have Hb2 := Lib.hid (Rg.acc Hb1.out hb2); clear hv2 hb2 hc0 hc1') | (go_at_call 11; refine (refBall_any (.slice ad ll.length cap) d ll n _ (HR.out.below Hb2.out)).mono ?_; rintro e w3 ⟨v3, rfl, hv3, hb3⟩; rw [HB.out] at hv3; rw [HB.out]; have Hv3 := Lib.hid hv3; have Hv2' := Lib.hid (Rg.Ints.below Hv2.out hb3); have Hb3 := Lib.hid (Rg.acc Hb2.out hb3); clear hv3 hb3 hd0 hd1) | (go_at_call 12; refine (Same_any Hv2'.out Hv3.out (selfT _) Hb3.out).mono ?_; rintro e w4 ⟨rfl, hb4⟩; have Hb4 := Lib.hid hb4; clear hb4) | (go_at_call 9; refine (awake_any _).mono ?_; rintro e w5 ⟨rfl, hb5⟩; have Hb5 := Lib.hid (Rg.acc Hb4.out hb5); clear hb5))
          go_ret
          exact ⟨rfl, Hb5.out⟩
      · go_enter Try.func3, Try.ntmps3
        go_wp2_with (first | (go_at_call 8; refine HLG.out.mono ?_; rintro e w1 ⟨rfl, hb1⟩; have hc0 := (hb1.cell (p := ⟨w.heap.size, 0, none⟩) Hcl.out).trans Hg0.out; have hc1' := (hb1.cell (p := ⟨w.heap.size, 1, none⟩) Hcl.out).trans Hg1.out; have hlt1 := Nat.lt_of_lt_of_le Hcl.out hb1.size; have Hb1 := Lib.hid (Rg.acc hba.out hb1); clear hb1) | (go_at_call 10; refine (Ball_any (.slice ad ll.length cap) d ll n _ (HR.out.below Hb1.out)).mono ?_; rintro e w2 ⟨v2, rfl, hv2, hb2⟩; rw [HB.out] at hv2; rw [HB.out]; have hd0 := (hb2.cell (p := ⟨w.heap.size, 0, none⟩) hlt1).trans hc0; have hd1 := (hb2.cell (p := ⟨w.heap.size, 1, none⟩) hlt1).trans hc1'; have Hv2 := Lib.hid hv2; have Hb2 := Lib.hid (Rg.acc Hb1.out hb2); clear hv2 hb2 hc0 hc1') | (go_at_call 11; refine (refBall_any (.slice ad ll.length cap) d ll n _ (HR.out.below Hb2.out)).mono ?_; rintro e w3 ⟨v3, rfl, hv3, hb3⟩; rw [HB.out] at hv3; rw [HB.out]; have Hv3 := Lib.hid hv3; have Hv2' := Lib.hid (Rg.Ints.below Hv2.out hb3); have Hb3 := Lib.hid (Rg.acc Hb2.out hb3); clear hv3 hb3 hd0 hd1) | (go_at_call 12; refine (Same_any Hv2'.out Hv3.out (selfT _) Hb3.out).mono ?_; rintro e w4 ⟨rfl, hb4⟩; have Hb4 := Lib.hid hb4; clear hb4) | (go_at_call 9; refine (awake_any _).mono ?_; rintro e w5 ⟨rfl, hb5⟩; have Hb5 := Lib.hid (Rg.acc Hb4.out hb5); clear hb5))
        go_ret
        exact ⟨rfl, Hb5.out⟩
    · go_enter Try.func3, Try.ntmps3
      go_wp2_with (first | (go_at_call 8; refine HLG.out.mono ?_; rintro e w1 ⟨rfl, hb1⟩; have hc0 := (hb1.cell (p := ⟨w.heap.size, 0, none⟩) Hcl.out).trans Hg0.out; have hc1' := (hb1.cell (p := ⟨w.heap.size, 1, none⟩) Hcl.out).trans Hg1.out; have hlt1 := Nat.lt_of_lt_of_le Hcl.out hb1.size; have Hb1 := Lib.hid (Rg.acc hba.out hb1); clear hb1) | (go_at_call 10; refine (Ball_any (.slice ad ll.length cap) d ll n _ (HR.out.below Hb1.out)).mono ?_; rintro e w2 ⟨v2, rfl, hv2, hb2⟩; rw [HB.out] at hv2; rw [HB.out]; have hd0 := (hb2.cell (p := ⟨w.heap.size, 0, none⟩) hlt1).trans hc0; have hd1 := (hb2.cell (p := ⟨w.heap.size, 1, none⟩) hlt1).trans hc1'; have Hv2 := Lib.hid hv2; have Hb2 := Lib.hid (Rg.acc Hb1.out hb2); clear hv2 hb2 hc0 hc1') | (go_at_call 11; refine (refBall_any (.slice ad ll.length cap) d ll n _ (HR.out.below Hb2.out)).mono ?_; rintro e w3 ⟨v3, rfl, hv3, hb3⟩; rw [HB.out] at hv3; rw [HB.out]; have Hv3 := Lib.hid hv3; have Hv2' := Lib.hid (Rg.Ints.below Hv2.out hb3); have Hb3 := Lib.hid (Rg.acc Hb2.out hb3); clear hv3 hb3 hd0 hd1) | (go_at_call 12; refine (Same_any Hv2'.out Hv3.out (selfT _) Hb3.out).mono ?_; rintro e w4 ⟨rfl, hb4⟩; have Hb4 := Lib.hid hb4; clear hb4) | (go_at_call 9; refine (awake_any _).mono ?_; rintro e w5 ⟨rfl, hb5⟩; have Hb5 := Lib.hid (Rg.acc Hb4.out hb5); clear hb5))
      go_ret
      exact ⟨rfl, Hb5.out⟩
end Go.Proofs.Ytjifdmfoijoekaa

