/- Lemmas and contracts on the way to the statement; no condition of their own beyond those written. -/
import Derived.Test.YtjifdmfoijoekaaXSjSkSl
import Derived.Lib.SmallJoins
import Derived.Deep.Matrix
set_option linter.unusedVariables false
/-! The laws' arguments read; the law PuzzleBalls. -/
namespace Go.Proofs.Ytjifdmfoijoekaa
open Go.RowKit
open Go.Proofs
open Go.ChangeShapes Go.WideShapes Go.Deep Go.Joins
attribute [local irreducible] Go.Calls

theorem spot_none {w : World} {a : Addr} {v : Value} (h : w.cell? a = some v) : a.spot = none := by
  unfold World.cell? at h
  split at h
  · split at h
    · cases h
    · rename_i hs; simpa using hs
  · cases h
theorem add_none {a : Addr} {b o : Nat} (h : a = ⟨b, o, none⟩) (i : Nat) : a.add i = ⟨b, o + i, none⟩ := by
  subst h
  unfold Addr.add
  split
  · rename_i h0; subst h0; rfl
  · rfl

theorem cells39 : Try.prog.cellsOf 39 = 1 := by kernel_rfl
theorem cells3 : Try.prog.cellsOf 3 = 1 := by kernel_rfl
theorem cells24 : Try.prog.cellsOf 24 = 2 := by kernel_rfl
theorem lt_of_cell {w : World} {a : Addr} {v : Value} (h : w.cell? a = some v) : a.block < w.heap.size := by
  unfold World.cell? at h
  split at h
  · rename_i hh; exact (Array.getElem?_eq_some_iff.1 hh).1
  · cases h
theorem maxLen_le : (0 : Nat) ≤ maxLen := Nat.zero_le _

section
variable {H : Type} {enc : TypeId × Value → H}
/-- a permutation handed in reads as a list of integers -/
theorem readP {W : World} {base : Nat} {r : Reach} {v : Value} {d : DataW H} {p : List MemPlace} (h : DataW.Trod enc Try.prog W 0 (fun _ => true) true 39 v d p) (hv : ∃ x, v.cells.toList = [x] ∧ v = x) :
    ∃ l, Rg.IntsB maxLen W v l := by
  obtain ⟨fuel, hf⟩ := h
  obtain ⟨x, hc, rfl⟩ := hv
  rw [hc] at hf
  rcases open_ints Try.underlying39 Try.underlying3 cells3 hf with ⟨hcs, _⟩ | ⟨a, len, cap, zs, hcs, _, hl, hm, hz, _, hcell, _⟩
  · obtain rfl : v = .slice none 0 0 := by simpa using hcs
    exact ⟨[], none, 0, rfl, by simp, Nat.zero_le _, by simp, fun h => by simp at h⟩
  · obtain rfl : v = .slice (some a) len cap := by simpa using hcs
    simp only [if_true] at hz
    have hlen : (zs.take len).length = len := by rw [List.length_take]; omega
    refine ⟨zs.take len, some a, cap, by rw [List.length_map, hlen], by rw [List.length_map, hlen]; exact hl, hm, by rw [List.length_map, hlen]; omega, fun h0 => ?_⟩
    rw [List.length_map, hlen] at h0
    have hc0 := hcell 0 (by omega)
    have ha : a = ⟨a.block, a.off, none⟩ := by
      have := spot_none (a := a) (by simpa [Addr.add] using hc0)
      cases a; simp at this; subst this; rfl
    refine ⟨a.block, a.off, by rw [← ha], lt_of_cell (a := a) (by simpa [Addr.add] using hc0), fun i hi => ?_⟩
    rw [List.length_map, hlen] at hi
    rw [← add_none ha i, hcell i (by omega)]
    simp [List.getD, List.getElem?_eq_getElem (show i < zs.length by omega)]

theorem readG {W : World} {base : Nat} {r : Reach} {v : Value} {d : DataW H} {p : List MemPlace} (hv : Value.okWide Try.prog W r base 24 v) (h : DataW.Trod enc Try.prog W 0 (fun _ => true) true 24 v d p) :
    ∃ (dd : Int) (gv : Value) (ll : List (List Int)), v = .agg #[.int .i64 dd, gv] ∧ Rg.RowsB maxLen W gv ll := by
  obtain ⟨c0, c1, y0, y1, m, rfl, rfl, rfl, hy0, hy1⟩ := open_agg2 Try.underlying24 (by kernel_rfl) cells24 hv h
  obtain ⟨a, e0, _, _⟩ := DataW.trod_int Try.underlying3 hy0
  simp at e0
  subst e0
  rcases open_int_rows Try.underlying22 Try.underlying39 Try.underlying3 cells39 cells3 hy1 with ⟨hcs, _⟩ | ⟨a1, len, cap, A, L, C, Z, hcs, _, hl, hm, _, hrow⟩
  · obtain rfl : c1 = .slice none 0 0 := by simpa using hcs
    exact ⟨a, _, [], rfl, [], ⟨none, 0, rfl, by simp, Nat.zero_le _, by simp, fun h => by simp at h⟩, rfl, fun i h => by simp at h⟩
  · obtain rfl : c1 = .slice (some a1) len cap := by simpa using hcs
    refine ⟨a, _, (List.range len).map fun r => (Z r).take (L r), rfl, (List.range len).map fun r => .slice (A r) (L r) (C r), ⟨some a1, cap, by simp, by simp; exact hl, hm, by simp; omega, fun h0 => ?_⟩, by simp, fun i h1 h2 => ?_⟩
    · simp only [List.length_map, List.length_range] at h0
      obtain ⟨hc0, _⟩ := hrow 0 (by omega)
      have ha : a1 = ⟨a1.block, a1.off, none⟩ := by
        have := spot_none (a := a1) (by simpa [Addr.add] using hc0)
        cases a1; simp at this; subst this; rfl
      refine ⟨a1.block, a1.off, by rw [← ha], lt_of_cell (a := a1) (by simpa [Addr.add] using hc0), fun i hi => ?_⟩
      simp only [List.length_map, List.length_range] at hi
      rw [← add_none ha i, (hrow i (by omega)).1]
      simp
    · simp only [List.length_map, List.length_range] at h1
      simp only [List.getElem_map, List.getElem_range]
      obtain ⟨_, hLC, hCm, hZ, _, hn, hcell⟩ := hrow i (by omega)
      have hlen : ((Z i).take (L i)).length = L i := by rw [List.length_take]; omega
      refine ⟨A i, C i, by rw [List.length_map, hlen], by rw [List.length_map, hlen]; exact hLC, hCm, by rw [List.length_map, hlen]; omega, fun h0 => ?_⟩
      rw [List.length_map, hlen] at h0
      cases hA : A i with
      | none => have := hn hA; omega
      | some a' =>
        obtain ⟨_, hcl⟩ := hcell a' hA
        have hc0 := hcl 0 (by omega)
        have ha : a' = ⟨a'.block, a'.off, none⟩ := by
          have := spot_none (a := a') (by simpa [Addr.add] using hc0)
          cases a'; simp at this; subst this; rfl
        refine ⟨a'.block, a'.off, by rw [← ha], lt_of_cell (a := a') (by simpa [Addr.add] using hc0), fun c hc => ?_⟩
        rw [List.length_map, hlen] at hc
        rw [← add_none ha c, hcl c (by omega)]
        simp [List.getD, List.getElem?_eq_getElem (show c < (Z i).length by omega)]
end

set_option maxHeartbeats 2000000 in
theorem PuzzleBalls_any (gv : Value) (d : Int) (ll : List (List Int)) (n : Int) (w : World) (h : Rg.RowsB maxLen w gv ll) :
    Calls Try.prog 3 #[.agg #[.int .i64 d, gv], .int .i64 n] w fun e w' => e = .returned (.bool true) ∧ Below w.heap.size w w' := by
  have hv := h
  obtain ⟨ad, cap, rfl, hc, hlB, hcm, _⟩ := h.shape
  have hba := Lib.hid (show Below w.heap.size w (w.alloc (.cells #[.int .i64 d, .slice ad ll.length cap] 24)) from (Below.refl _ _).alloc (Nat.le_refl _) _)
  have hLG := LargeGroup_any (.slice ad ll.length cap) d ll _ (hv.below hba.out)
  have hg0 : (w.alloc (.cells #[.int .i64 d, .slice ad ll.length cap] 24)).cell? ⟨w.heap.size, 0, none⟩ = some (.int .i64 d) := by rw [Rg.cellNew]; rfl
  have hg1 : (w.alloc (.cells #[.int .i64 d, .slice ad ll.length cap] 24)).cell? ⟨w.heap.size, 1, none⟩ = some (.slice ad ll.length cap) := by rw [Rg.cellNew]; rfl
  have hcl : w.heap.size < (w.alloc (.cells #[.int .i64 d, .slice ad ll.length cap] 24)).heap.size := by simp
  have Hg0 := Lib.hid hg0
  have Hg1 := Lib.hid hg1
  have Hcl := Lib.hid hcl
  clear hg0 hg1 hcl
  cases hlg : lg ll with
  | true =>
    rw [hlg] at hLG
    have HLG := Lib.hid hLG
    clear hLG h hv hlg
    go_enter Try.func3, Try.ntmps3
    go_wp2_with (first | (go_at_call 8; refine HLG.out.mono ?_; rintro e w1 ⟨rfl, hb1⟩; have Hb1 := Lib.hid (Rg.acc hba.out hb1); clear hb1) | (go_at_call 9; refine (awake_any _).mono ?_; rintro e w2 ⟨rfl, hb2⟩; have Hb2 := Lib.hid (Rg.acc Hb1.out hb2); clear hb2))
    go_ret
    exact ⟨rfl, Hb2.out⟩
  | false =>
    rw [hlg] at hLG
    have HLG := Lib.hid hLG
    obtain ⟨hs1, hs2⟩ := lg_small hlg
    have hR : Rg.Rows w (.slice ad ll.length cap) ll := hv.small (by omega) (fun l hl => by have := hs2 l hl; omega)
    have HR := Lib.hid hR
    have hle : ((ll.length : Nat) : Int) ≤ 20 := by omega
    clear hLG h hv hlg hs2 hR hs1
    generalize hB : ballS d ll n = bs
    obtain ⟨b1, b2⟩ := bs
    have HB := Lib.hid hB
    clear hB
    by_cases hc1 : 3 < (ll.length : Int)
    · by_cases hc2 : (ll.length : Int) < 7
      · by_cases hc3 : 3 < n
        · by_cases hc4 : n < 6
          · go_enter Try.func3, Try.ntmps3
            go_wp2_with (first | (go_at_call 8; refine HLG.out.mono ?_; rintro e w1 ⟨rfl, hb1⟩; have hc0 := (hb1.cell (p := ⟨w.heap.size, 0, none⟩) Hcl.out).trans Hg0.out; have hc1' := (hb1.cell (p := ⟨w.heap.size, 1, none⟩) Hcl.out).trans Hg1.out; have hlt1 := Nat.lt_of_lt_of_le Hcl.out hb1.size; have Hb1 := Lib.hid (Rg.acc hba.out hb1); clear hb1) | (go_at_call 9; refine (awake_any _).mono ?_; rintro e w2 ⟨rfl, hb2⟩; have Hb2 := Lib.hid (Rg.acc Hb1.out hb2); clear hb2))
            go_ret
            exact ⟨rfl, Hb2.out⟩
          · go_enter Try.func3, Try.ntmps3
            go_wp2_with (first | (go_at_call 8; refine HLG.out.mono ?_; rintro e w1 ⟨rfl, hb1⟩; have hc0 := (hb1.cell (p := ⟨w.heap.size, 0, none⟩) Hcl.out).trans Hg0.out; have hc1' := (hb1.cell (p := ⟨w.heap.size, 1, none⟩) Hcl.out).trans Hg1.out; have hlt1 := Nat.lt_of_lt_of_le Hcl.out hb1.size; have Hb1 := Lib.hid (Rg.acc hba.out hb1); clear hb1) | (go_at_call 10; refine (Ball_any (.slice ad ll.length cap) d ll n _ (HR.out.below Hb1.out)).mono ?_; rintro e w2 ⟨v2, rfl, hv2, hb2⟩; rw [HB.out] at hv2; rw [HB.out]; have hd0 := (hb2.cell (p := ⟨w.heap.size, 0, none⟩) hlt1).trans hc0; have hd1 := (hb2.cell (p := ⟨w.heap.size, 1, none⟩) hlt1).trans hc1'; have Hv2 := Lib.hid hv2; have Hb2 := Lib.hid (Rg.acc Hb1.out hb2); clear hv2 hb2 hc0 hc1') | (go_at_call 11; refine (refBall_any (.slice ad ll.length cap) d ll n _ (HR.out.below Hb2.out)).mono ?_; rintro e w3 ⟨v3, rfl, hv3, hb3⟩; rw [HB.out] at hv3; rw [HB.out]; have Hv3 := Lib.hid hv3; have Hv2' := Lib.hid (Rg.Ints.below Hv2.out hb3); have Hb3 := Lib.hid (Rg.acc Hb2.out hb3); clear hv3 hb3 hd0 hd1) | (go_at_call 12; refine (Same_any Hv2'.out Hv3.out (selfT _) Hb3.out).mono ?_; rintro e w4 ⟨rfl, hb4⟩; have Hb4 := Lib.hid hb4; clear hb4) | (go_at_call 9; refine (awake_any _).mono ?_; rintro e w5 ⟨rfl, hb5⟩; have Hb5 := Lib.hid (Rg.acc Hb4.out hb5); clear hb5))
            go_ret
            exact ⟨rfl, Hb5.out⟩
        · go_enter Try.func3, Try.ntmps3
          go_wp2_with (first | (go_at_call 8; refine HLG.out.mono ?_; rintro e w1 ⟨rfl, hb1⟩; have hc0 := (hb1.cell (p := ⟨w.heap.size, 0, none⟩) Hcl.out).trans Hg0.out; have hc1' := (hb1.cell (p := ⟨w.heap.size, 1, none⟩) Hcl.out).trans Hg1.out; have hlt1 := Nat.lt_of_lt_of_le Hcl.out hb1.size; have Hb1 := Lib.hid (Rg.acc hba.out hb1); clear hb1) | (go_at_call 10; refine (Ball_any (.slice ad ll.length cap) d ll n _ (HR.out.below Hb1.out)).mono ?_; rintro e w2 ⟨v2, rfl, hv2, hb2⟩; rw [HB.out] at hv2; rw [HB.out]; have hd0 := (hb2.cell (p := ⟨w.heap.size, 0, none⟩) hlt1).trans hc0; have hd1 := (hb2.cell (p := ⟨w.heap.size, 1, none⟩) hlt1).trans hc1'; have Hv2 := Lib.hid hv2; have Hb2 := Lib.hid (Rg.acc Hb1.out hb2); clear hv2 hb2 hc0 hc1') | (go_at_call 11; refine (refBall_any (.slice ad ll.length cap) d ll n _ (HR.out.below Hb2.out)).mono ?_; rintro e w3 ⟨v3, rfl, hv3, hb3⟩; rw [HB.out] at hv3; rw [HB.out]; have Hv3 := Lib.hid hv3; have Hv2' := Lib.hid (Rg.Ints.below Hv2.out hb3); have Hb3 := Lib.hid (Rg.acc Hb2.out hb3); clear hv3 hb3 hd0 hd1) | (go_at_call 12; refine (Same_any Hv2'.out Hv3.out (selfT _) Hb3.out).mono ?_; rintro e w4 ⟨rfl, hb4⟩; have Hb4 := Lib.hid hb4; clear hb4) | (go_at_call 9; refine (awake_any _).mono ?_; rintro e w5 ⟨rfl, hb5⟩; have Hb5 := Lib.hid (Rg.acc Hb4.out hb5); clear hb5))
          go_ret
          exact ⟨rfl, Hb5.out⟩
      · go_enter Try.func3, Try.ntmps3
        go_wp2_with (first | (go_at_call 8; refine HLG.out.mono ?_; rintro e w1 ⟨rfl, hb1⟩; have hc0 := (hb1.cell (p := ⟨w.heap.size, 0, none⟩) Hcl.out).trans Hg0.out; have hc1' := (hb1.cell (p := ⟨w.heap.size, 1, none⟩) Hcl.out).trans Hg1.out; have hlt1 := Nat.lt_of_lt_of_le Hcl.out hb1.size; have Hb1 := Lib.hid (Rg.acc hba.out hb1); clear hb1) | (go_at_call 10; refine (Ball_any (.slice ad ll.length cap) d ll n _ (HR.out.below Hb1.out)).mono ?_; rintro e w2 ⟨v2, rfl, hv2, hb2⟩; rw [HB.out] at hv2; rw [HB.out]; have hd0 := (hb2.cell (p := ⟨w.heap.size, 0, none⟩) hlt1).trans hc0; have hd1 := (hb2.cell (p := ⟨w.heap.size, 1, none⟩) hlt1).trans hc1'; have Hv2 := Lib.hid hv2; have Hb2 := Lib.hid (Rg.acc Hb1.out hb2); clear hv2 hb2 hc0 hc1') | (go_at_call 11; refine (refBall_any (.slice ad ll.length cap) d ll n _ (HR.out.below Hb2.out)).mono ?_; rintro e w3 ⟨v3, rfl, hv3, hb3⟩; rw [HB.out] at hv3; rw [HB.out]; have Hv3 := Lib.hid hv3; have Hv2' := Lib.hid (Rg.Ints.below Hv2.out hb3); have Hb3 := Lib.hid (Rg.acc Hb2.out hb3); clear hv3 hb3 hd0 hd1) | (go_at_call 12; refine (Same_any Hv2'.out Hv3.out (selfT _) Hb3.out).mono ?_; rintro e w4 ⟨rfl, hb4⟩; have Hb4 := Lib.hid hb4; clear hb4) | (go_at_call 9; refine (awake_any _).mono ?_; rintro e w5 ⟨rfl, hb5⟩; have Hb5 := Lib.hid (Rg.acc Hb4.out hb5); clear hb5))
        go_ret
        exact ⟨rfl, Hb5.out⟩
    · go_enter Try.func3, Try.ntmps3
      go_wp2_with (first | (go_at_call 8; refine HLG.out.mono ?_; rintro e w1 ⟨rfl, hb1⟩; have hc0 := (hb1.cell (p := ⟨w.heap.size, 0, none⟩) Hcl.out).trans Hg0.out; have hc1' := (hb1.cell (p := ⟨w.heap.size, 1, none⟩) Hcl.out).trans Hg1.out; have hlt1 := Nat.lt_of_lt_of_le Hcl.out hb1.size; have Hb1 := Lib.hid (Rg.acc hba.out hb1); clear hb1) | (go_at_call 10; refine (Ball_any (.slice ad ll.length cap) d ll n _ (HR.out.below Hb1.out)).mono ?_; rintro e w2 ⟨v2, rfl, hv2, hb2⟩; rw [HB.out] at hv2; rw [HB.out]; have hd0 := (hb2.cell (p := ⟨w.heap.size, 0, none⟩) hlt1).trans hc0; have hd1 := (hb2.cell (p := ⟨w.heap.size, 1, none⟩) hlt1).trans hc1'; have Hv2 := Lib.hid hv2; have Hb2 := Lib.hid (Rg.acc Hb1.out hb2); clear hv2 hb2 hc0 hc1') | (go_at_call 11; refine (refBall_any (.slice ad ll.length cap) d ll n _ (HR.out.below Hb2.out)).mono ?_; rintro e w3 ⟨v3, rfl, hv3, hb3⟩; rw [HB.out] at hv3; rw [HB.out]; have Hv3 := Lib.hid hv3; have Hv2' := Lib.hid (Rg.Ints.below Hv2.out hb3); have Hb3 := Lib.hid (Rg.acc Hb2.out hb3); clear hv3 hb3 hd0 hd1) | (go_at_call 12; refine (Same_any Hv2'.out Hv3.out (selfT _) Hb3.out).mono ?_; rintro e w4 ⟨rfl, hb4⟩; have Hb4 := Lib.hid hb4; clear hb4) | (go_at_call 9; refine (awake_any _).mono ?_; rintro e w5 ⟨rfl, hb5⟩; have Hb5 := Lib.hid (Rg.acc Hb4.out hb5); clear hb5))
      go_ret
      exact ⟨rfl, Hb5.out⟩
end Go.Proofs.Ytjifdmfoijoekaa

/-! big; the law PuzzleSolves. -/
namespace Go.Proofs.Ytjifdmfoijoekaa
open Go.RowKit
open Go.Proofs
attribute [local irreducible] Go.Calls

/-- big, pure -/
def bigB (ll : List (List Int)) (n : Int) : Bool := lg ll || (decide (3 < ll.length) && decide (ll.length < 7) && decide (3 < n)) || (decide (ll.length = 3) && decide (6 < n))

set_option maxHeartbeats 2000000 in
theorem big_any (gv : Value) (d : Int) (ll : List (List Int)) (n : Int) (w : World) (h : Rg.RowsB maxLen w gv ll) :
    Calls Try.prog 20 #[.agg #[.int .i64 d, gv], .int .i64 n] w fun e w' => e = .returned (.bool (bigB ll n)) ∧ Below w.heap.size w w' := by
  have hv := h
  obtain ⟨ad, cap, rfl, hc, hlB, hcm, _⟩ := h.shape
  have hba := Lib.hid (show Below w.heap.size w (w.alloc (.cells #[.int .i64 d, .slice ad ll.length cap] 24)) from (Below.refl _ _).alloc (Nat.le_refl _) _)
  have hLG := LargeGroup_any (.slice ad ll.length cap) d ll _ (hv.below hba.out)
  have hg0 : (w.alloc (.cells #[.int .i64 d, .slice ad ll.length cap] 24)).cell? ⟨w.heap.size, 0, none⟩ = some (.int .i64 d) := by rw [Rg.cellNew]; rfl
  have hg1 : (w.alloc (.cells #[.int .i64 d, .slice ad ll.length cap] 24)).cell? ⟨w.heap.size, 1, none⟩ = some (.slice ad ll.length cap) := by rw [Rg.cellNew]; rfl
  have hcl : w.heap.size < (w.alloc (.cells #[.int .i64 d, .slice ad ll.length cap] 24)).heap.size := by simp
  have Hg0 := Lib.hid hg0
  have Hg1 := Lib.hid hg1
  have Hcl := Lib.hid hcl
  clear hg0 hg1 hcl
  cases hlg : lg ll with
  | true =>
    have hE := Lib.hid (show bigB ll n = true by unfold bigB; rw [hlg]; rfl)
    rw [hlg] at hLG
    have HLG := Lib.hid hLG
    clear hLG h hv hlg
    go_enter Try.func20, Try.ntmps20
    go_wp2_with (go_at_call 8; refine HLG.out.mono ?_; rintro e w1 ⟨rfl, hb1⟩; have Hb1 := Lib.hid (Rg.acc hba.out hb1); clear hb1)
    go_ret
    exact ⟨by rw [hE.out]; rfl, Hb1.out⟩
  | false =>
    rw [hlg] at hLG
    have HLG := Lib.hid hLG
    obtain ⟨hs1, hs2⟩ := lg_small hlg
    have HL := Lib.hid hlg
    have hle : ((ll.length : Nat) : Int) ≤ 20 := by omega
    clear hLG h hv hlg hs2 hs1
    by_cases hc1 : 3 < (ll.length : Int)
    · by_cases hc2 : (ll.length : Int) < 7
      · by_cases hc3 : 3 < n
        · skip
          have hE := Lib.hid (show bigB ll n = true by unfold bigB; rw [HL.out]; simp; omega)
          go_enter Try.func20, Try.ntmps20
          go_wp2_with (go_at_call 8; refine HLG.out.mono ?_; rintro e w1 ⟨rfl, hb1⟩; have hc1' := (hb1.cell (p := ⟨w.heap.size, 1, none⟩) Hcl.out).trans Hg1.out; have Hb1 := Lib.hid (Rg.acc hba.out hb1); clear hb1)
          go_ret
          exact ⟨by rw [hE.out]; first | rfl | exact Rg.ret_bool (by simp; omega), Hb1.out⟩
        · skip
          have hc4 : ¬ ((ll.length : Int) = 3) := by omega
          have hE := Lib.hid (show bigB ll n = false by unfold bigB; rw [HL.out]; simp; omega)
          go_enter Try.func20, Try.ntmps20
          go_wp2_with (go_at_call 8; refine HLG.out.mono ?_; rintro e w1 ⟨rfl, hb1⟩; have hc1' := (hb1.cell (p := ⟨w.heap.size, 1, none⟩) Hcl.out).trans Hg1.out; have Hb1 := Lib.hid (Rg.acc hba.out hb1); clear hb1)
          go_ret
          exact ⟨by rw [hE.out]; first | rfl | exact Rg.ret_bool (by simp; omega), Hb1.out⟩
      · skip
        have hc4 : ¬ ((ll.length : Int) = 3) := by omega
        have hE := Lib.hid (show bigB ll n = false by unfold bigB; rw [HL.out]; simp; omega)
        go_enter Try.func20, Try.ntmps20
        go_wp2_with (go_at_call 8; refine HLG.out.mono ?_; rintro e w1 ⟨rfl, hb1⟩; have hc1' := (hb1.cell (p := ⟨w.heap.size, 1, none⟩) Hcl.out).trans Hg1.out; have Hb1 := Lib.hid (Rg.acc hba.out hb1); clear hb1)
        go_ret
        exact ⟨by rw [hE.out]; first | rfl | exact Rg.ret_bool (by simp; omega), Hb1.out⟩
    · by_cases hc4 : (ll.length : Int) = 3
      · by_cases hc5 : 6 < n
        · skip
          have hE := Lib.hid (show bigB ll n = true by unfold bigB; rw [HL.out]; simp; omega)
          go_enter Try.func20, Try.ntmps20
          go_wp2_with (go_at_call 8; refine HLG.out.mono ?_; rintro e w1 ⟨rfl, hb1⟩; have hc1' := (hb1.cell (p := ⟨w.heap.size, 1, none⟩) Hcl.out).trans Hg1.out; have Hb1 := Lib.hid (Rg.acc hba.out hb1); clear hb1)
          go_ret
          exact ⟨by rw [hE.out]; first | rfl | exact Rg.ret_bool (by simp; omega), Hb1.out⟩
        · skip
          have hE := Lib.hid (show bigB ll n = false by unfold bigB; rw [HL.out]; simp; omega)
          go_enter Try.func20, Try.ntmps20
          go_wp2_with (go_at_call 8; refine HLG.out.mono ?_; rintro e w1 ⟨rfl, hb1⟩; have hc1' := (hb1.cell (p := ⟨w.heap.size, 1, none⟩) Hcl.out).trans Hg1.out; have Hb1 := Lib.hid (Rg.acc hba.out hb1); clear hb1)
          go_ret
          exact ⟨by rw [hE.out]; first | rfl | exact Rg.ret_bool (by simp; omega), Hb1.out⟩
      · skip
        have hE := Lib.hid (show bigB ll n = false by unfold bigB; rw [HL.out]; simp; omega)
        go_enter Try.func20, Try.ntmps20
        go_wp2_with (go_at_call 8; refine HLG.out.mono ?_; rintro e w1 ⟨rfl, hb1⟩; have hc1' := (hb1.cell (p := ⟨w.heap.size, 1, none⟩) Hcl.out).trans Hg1.out; have Hb1 := Lib.hid (Rg.acc hba.out hb1); clear hb1)
        go_ret
        exact ⟨by rw [hE.out]; first | rfl | exact Rg.ret_bool (by simp; omega), Hb1.out⟩

set_option maxHeartbeats 4000000 in
theorem PuzzleSolves_any (gv xv : Value) (d : Int) (ll : List (List Int)) (xl : List Int) (n : Int) (w : World) (h : Rg.RowsB maxLen w gv ll) (hx : Rg.IntsB maxLen w xv xl) :
    Calls Try.prog 5 #[.agg #[.int .i64 d, gv], xv, .int .i64 n] w fun e w' => e = .returned (.bool true) ∧ Below w.heap.size w w' := by
  have hv := h
  have hxv := hx
  obtain ⟨ad, cap, rfl, hc, hlB, hcm, _⟩ := h.shape
  obtain ⟨xn, xa, xc, hxn, rfl, hxB⟩ := hx.len
  have hba := Lib.hid (show Below w.heap.size w (w.alloc (.cells #[.int .i64 d, .slice ad ll.length cap] 24)) from (Below.refl _ _).alloc (Nat.le_refl _) _)
  have hBG := big_any (.slice ad ll.length cap) d ll n _ (hv.below hba.out)
  have hLG := fun w' (hb : Below w.heap.size w w') => LargeGroup_any (.slice ad ll.length cap) d ll w' (hv.below hb)
  have hg0 : (w.alloc (.cells #[.int .i64 d, .slice ad ll.length cap] 24)).cell? ⟨w.heap.size, 0, none⟩ = some (.int .i64 d) := by rw [Rg.cellNew]; rfl
  have hg1 : (w.alloc (.cells #[.int .i64 d, .slice ad ll.length cap] 24)).cell? ⟨w.heap.size, 1, none⟩ = some (.slice ad ll.length cap) := by rw [Rg.cellNew]; rfl
  have hcl : w.heap.size < (w.alloc (.cells #[.int .i64 d, .slice ad ll.length cap] 24)).heap.size := by simp
  have Hg0 := Lib.hid hg0
  have Hg1 := Lib.hid hg1
  have Hcl := Lib.hid hcl
  have Hxn := Lib.hid hxn
  have Hv := Lib.hid hv
  have Hxv := Lib.hid hxv
  clear hg0 hg1 hcl h hv hx hxv hxn
  generalize hbg : bigB ll n = bg at hBG
  have HBG := Lib.hid hBG
  clear hBG hbg
  have hxB2 : xn ≤ maxLen := hxB
  clear hxB
  cases bg with
  | true =>
    by_cases hn : n ≤ 10
    · skip
      go_enter Try.func5, Try.ntmps5
      go_wp2_with (first | (go_at_call 20; refine HBG.out.mono ?_; rintro e w1 ⟨rfl, hb1⟩; have hc0 := (hb1.cell (p := ⟨w.heap.size, 0, none⟩) Hcl.out).trans Hg0.out; have hc1 := (hb1.cell (p := ⟨w.heap.size, 1, none⟩) Hcl.out).trans Hg1.out; have hlt1 := Nat.lt_of_lt_of_le Hcl.out hb1.size; have Hb1 := Lib.hid (Rg.acc hba.out hb1); clear hb1) | (go_at_call 9; refine (awake_any _).mono ?_; rintro e w2 ⟨rfl, hbz⟩; have Hbz := Lib.hid (Rg.acc Hb1.out hbz); clear hbz))
      go_ret
      exact ⟨rfl, Hbz.out⟩
    · by_cases h70 : 70 < (xn : Int)
      · skip
        go_enter Try.func5, Try.ntmps5
        go_wp2_with (first | (go_at_call 20; refine HBG.out.mono ?_; rintro e w1 ⟨rfl, hb1⟩; have hc0 := (hb1.cell (p := ⟨w.heap.size, 0, none⟩) Hcl.out).trans Hg0.out; have hc1 := (hb1.cell (p := ⟨w.heap.size, 1, none⟩) Hcl.out).trans Hg1.out; have hlt1 := Nat.lt_of_lt_of_le Hcl.out hb1.size; have Hb1 := Lib.hid (Rg.acc hba.out hb1); clear hb1) | (go_at_call 9; refine (awake_any _).mono ?_; rintro e w2 ⟨rfl, hbz⟩; have Hbz := Lib.hid (Rg.acc Hb1.out hbz); clear hbz))
        go_ret
        exact ⟨rfl, Hbz.out⟩
      · skip
        cases hlg : lg ll with
        | true =>
          rw [hlg] at hLG
          have HLG := Lib.hid hLG
          clear hLG hlg
          go_enter Try.func5, Try.ntmps5
          go_wp2_with (first | (go_at_call 20; refine HBG.out.mono ?_; rintro e w1 ⟨rfl, hb1⟩; have hc0 := (hb1.cell (p := ⟨w.heap.size, 0, none⟩) Hcl.out).trans Hg0.out; have hc1 := (hb1.cell (p := ⟨w.heap.size, 1, none⟩) Hcl.out).trans Hg1.out; have hlt1 := Nat.lt_of_lt_of_le Hcl.out hb1.size; have Hb1 := Lib.hid (Rg.acc hba.out hb1); clear hb1) | (go_at_call 8; refine (HLG.out _ Hb1.out).mono ?_; rintro e w2 ⟨rfl, hb2⟩; have Hb2 := Lib.hid (Rg.acc Hb1.out hb2); clear hb2) | (go_at_call 9; refine (awake_any _).mono ?_; rintro e w3 ⟨rfl, hbz⟩; have Hbz := Lib.hid (Rg.acc Hb2.out hbz); clear hbz))
          go_ret
          exact ⟨rfl, Hbz.out⟩
        | false =>
          obtain ⟨hs1, hs2⟩ := lg_small hlg
          have HR := Lib.hid (show Rg.Rows w (.slice ad ll.length cap) ll from Hv.out.small (by omega) (fun l hl => by have := hs2 l hl; omega))
          have HX := Lib.hid (show Rg.Ints w (.slice xa xn xc) xl from Hxv.out.small (by have := Hxn.out; omega))
          rw [hlg] at hLG
          have HLG := Lib.hid hLG
          clear hLG hlg hs1 hs2
          generalize hS : slvS d ll xl n = rs
          generalize hU : undS d ll xl n = ru
          obtain ⟨s1, s2⟩ := rs
          obtain ⟨u1, u2⟩ := ru
          have HS := Lib.hid hS
          have HU := Lib.hid hU
          clear hS hU
          go_enter Try.func5, Try.ntmps5
          go_wp2_with (first | (go_at_call 20; refine HBG.out.mono ?_; rintro e w1 ⟨rfl, hb1⟩; have hc0 := (hb1.cell (p := ⟨w.heap.size, 0, none⟩) Hcl.out).trans Hg0.out; have hc1 := (hb1.cell (p := ⟨w.heap.size, 1, none⟩) Hcl.out).trans Hg1.out; have hlt1 := Nat.lt_of_lt_of_le Hcl.out hb1.size; have Hb1 := Lib.hid (Rg.acc hba.out hb1); clear hb1) | (go_at_call 8; refine (HLG.out _ Hb1.out).mono ?_; rintro e w2 ⟨rfl, hb2⟩; have a2 := (hb2.cell (p := ⟨w.heap.size, 0, none⟩) hlt1).trans hc0; have b2 := (hb2.cell (p := ⟨w.heap.size, 1, none⟩) hlt1).trans hc1; have hlt2 := Nat.lt_of_lt_of_le hlt1 hb2.size; have Hb2 := Lib.hid (Rg.acc Hb1.out hb2); clear hb2 hc0 hc1) | (go_at_call 21; refine (Solve_any (.slice ad ll.length cap) (.slice xa xn xc) d ll xl n _ (HR.out.below Hb2.out) (HX.out.below Hb2.out)).mono ?_; rintro e w3 ⟨v3, rfl, hv3, hb3⟩; rw [HS.out] at hv3; rw [HS.out]; have a3 := (hb3.cell (p := ⟨w.heap.size, 0, none⟩) hlt2).trans a2; have b3 := (hb3.cell (p := ⟨w.heap.size, 1, none⟩) hlt2).trans b2; have hlt3 := Nat.lt_of_lt_of_le hlt2 hb3.size; have Hv3 := Lib.hid hv3; have Hb3 := Lib.hid (Rg.acc Hb2.out hb3); clear hv3 hb3 a2 b2) | (go_at_call 22; refine (refSolve_any (.slice ad ll.length cap) (.slice xa xn xc) d ll xl n _ (HR.out.below Hb3.out) (HX.out.below Hb3.out)).mono ?_; rintro e w4 ⟨v4, rfl, hv4, hb4⟩; rw [HS.out] at hv4; rw [HS.out]; have a4 := (hb4.cell (p := ⟨w.heap.size, 0, none⟩) hlt3).trans a3; have b4 := (hb4.cell (p := ⟨w.heap.size, 1, none⟩) hlt3).trans b3; have hlt4 := Nat.lt_of_lt_of_le hlt3 hb4.size; have Hv4 := Lib.hid hv4; have Hv3a := Lib.hid (Rg.Ints.below Hv3.out hb4); have Hb4 := Lib.hid (Rg.acc Hb3.out hb4); clear hv4 hb4 a3 b3) | (go_at_call 23; refine (Undo_any (.slice ad ll.length cap) (.slice xa xn xc) d ll xl n _ (HR.out.below Hb4.out) (HX.out.below Hb4.out)).mono ?_; rintro e w5 ⟨v5, rfl, hv5, hb5⟩; rw [HU.out] at hv5; rw [HU.out]; have a5 := (hb5.cell (p := ⟨w.heap.size, 0, none⟩) hlt4).trans a4; have b5 := (hb5.cell (p := ⟨w.heap.size, 1, none⟩) hlt4).trans b4; have hlt5 := Nat.lt_of_lt_of_le hlt4 hb5.size; have Hv5 := Lib.hid hv5; have Hv3b := Lib.hid (Rg.Ints.below Hv3a.out hb5); have Hv4b := Lib.hid (Rg.Ints.below Hv4.out hb5); have Hb5 := Lib.hid (Rg.acc Hb4.out hb5); clear hv5 hb5 a4 b4) | (go_at_call 24; refine (refUndo_any (.slice ad ll.length cap) (.slice xa xn xc) d ll xl n _ (HR.out.below Hb5.out) (HX.out.below Hb5.out)).mono ?_; rintro e w6 ⟨v6, rfl, hv6, hb6⟩; rw [HU.out] at hv6; rw [HU.out]; have a6 := (hb6.cell (p := ⟨w.heap.size, 0, none⟩) hlt5).trans a5; have b6 := (hb6.cell (p := ⟨w.heap.size, 1, none⟩) hlt5).trans b5; have hlt6 := Nat.lt_of_lt_of_le hlt5 hb6.size; have Hv6 := Lib.hid hv6; have Hv3c := Lib.hid (Rg.Ints.below Hv3b.out hb6); have Hv4c := Lib.hid (Rg.Ints.below Hv4b.out hb6); have Hv5c := Lib.hid (Rg.Ints.below Hv5.out hb6); have Hb6 := Lib.hid (Rg.acc Hb5.out hb6); clear hv6 hb6 a5 b5) | (go_at_call 12; refine (Same_q _ _ _ _ _ Hv3c.out Hv4c.out).mono ?_; rintro e w7 ⟨rfl, k7, rfl⟩; rw [(selfT _).out]) | (go_at_call 12; refine (Same_any (drewN_ints _ Hv5c.out) (drewN_ints _ Hv6.out) (selfT _) (Rg.drewN Hb6.out _)).mono ?_; rintro e w8 ⟨rfl, hb8⟩; have Hb8 := Lib.hid hb8; clear hb8) | (go_at_call 9; refine (awake_any _).mono ?_; rintro e w9 ⟨rfl, hbz⟩; have Hbz := Lib.hid (Rg.acc Hb8.out hbz); clear hbz))
          go_ret
          exact ⟨rfl, Hbz.out⟩
  | false =>
    by_cases h70 : 70 < (xn : Int)
    · skip
      go_enter Try.func5, Try.ntmps5
      go_wp2_with (first | (go_at_call 20; refine HBG.out.mono ?_; rintro e w1 ⟨rfl, hb1⟩; have hc0 := (hb1.cell (p := ⟨w.heap.size, 0, none⟩) Hcl.out).trans Hg0.out; have hc1 := (hb1.cell (p := ⟨w.heap.size, 1, none⟩) Hcl.out).trans Hg1.out; have hlt1 := Nat.lt_of_lt_of_le Hcl.out hb1.size; have Hb1 := Lib.hid (Rg.acc hba.out hb1); clear hb1) | (go_at_call 9; refine (awake_any _).mono ?_; rintro e w2 ⟨rfl, hbz⟩; have Hbz := Lib.hid (Rg.acc Hb1.out hbz); clear hbz))
      go_ret
      exact ⟨rfl, Hbz.out⟩
    · skip
      cases hlg : lg ll with
      | true =>
        rw [hlg] at hLG
        have HLG := Lib.hid hLG
        clear hLG hlg
        go_enter Try.func5, Try.ntmps5
        go_wp2_with (first | (go_at_call 20; refine HBG.out.mono ?_; rintro e w1 ⟨rfl, hb1⟩; have hc0 := (hb1.cell (p := ⟨w.heap.size, 0, none⟩) Hcl.out).trans Hg0.out; have hc1 := (hb1.cell (p := ⟨w.heap.size, 1, none⟩) Hcl.out).trans Hg1.out; have hlt1 := Nat.lt_of_lt_of_le Hcl.out hb1.size; have Hb1 := Lib.hid (Rg.acc hba.out hb1); clear hb1) | (go_at_call 8; refine (HLG.out _ Hb1.out).mono ?_; rintro e w2 ⟨rfl, hb2⟩; have Hb2 := Lib.hid (Rg.acc Hb1.out hb2); clear hb2) | (go_at_call 9; refine (awake_any _).mono ?_; rintro e w3 ⟨rfl, hbz⟩; have Hbz := Lib.hid (Rg.acc Hb2.out hbz); clear hbz))
        go_ret
        exact ⟨rfl, Hbz.out⟩
      | false =>
        obtain ⟨hs1, hs2⟩ := lg_small hlg
        have HR := Lib.hid (show Rg.Rows w (.slice ad ll.length cap) ll from Hv.out.small (by omega) (fun l hl => by have := hs2 l hl; omega))
        have HX := Lib.hid (show Rg.Ints w (.slice xa xn xc) xl from Hxv.out.small (by have := Hxn.out; omega))
        rw [hlg] at hLG
        have HLG := Lib.hid hLG
        clear hLG hlg hs1 hs2
        generalize hS : slvS d ll xl n = rs
        generalize hU : undS d ll xl n = ru
        obtain ⟨s1, s2⟩ := rs
        obtain ⟨u1, u2⟩ := ru
        have HS := Lib.hid hS
        have HU := Lib.hid hU
        clear hS hU
        go_enter Try.func5, Try.ntmps5
        go_wp2_with (first | (go_at_call 20; refine HBG.out.mono ?_; rintro e w1 ⟨rfl, hb1⟩; have hc0 := (hb1.cell (p := ⟨w.heap.size, 0, none⟩) Hcl.out).trans Hg0.out; have hc1 := (hb1.cell (p := ⟨w.heap.size, 1, none⟩) Hcl.out).trans Hg1.out; have hlt1 := Nat.lt_of_lt_of_le Hcl.out hb1.size; have Hb1 := Lib.hid (Rg.acc hba.out hb1); clear hb1) | (go_at_call 8; refine (HLG.out _ Hb1.out).mono ?_; rintro e w2 ⟨rfl, hb2⟩; have a2 := (hb2.cell (p := ⟨w.heap.size, 0, none⟩) hlt1).trans hc0; have b2 := (hb2.cell (p := ⟨w.heap.size, 1, none⟩) hlt1).trans hc1; have hlt2 := Nat.lt_of_lt_of_le hlt1 hb2.size; have Hb2 := Lib.hid (Rg.acc Hb1.out hb2); clear hb2 hc0 hc1) | (go_at_call 21; refine (Solve_any (.slice ad ll.length cap) (.slice xa xn xc) d ll xl n _ (HR.out.below Hb2.out) (HX.out.below Hb2.out)).mono ?_; rintro e w3 ⟨v3, rfl, hv3, hb3⟩; rw [HS.out] at hv3; rw [HS.out]; have a3 := (hb3.cell (p := ⟨w.heap.size, 0, none⟩) hlt2).trans a2; have b3 := (hb3.cell (p := ⟨w.heap.size, 1, none⟩) hlt2).trans b2; have hlt3 := Nat.lt_of_lt_of_le hlt2 hb3.size; have Hv3 := Lib.hid hv3; have Hb3 := Lib.hid (Rg.acc Hb2.out hb3); clear hv3 hb3 a2 b2) | (go_at_call 22; refine (refSolve_any (.slice ad ll.length cap) (.slice xa xn xc) d ll xl n _ (HR.out.below Hb3.out) (HX.out.below Hb3.out)).mono ?_; rintro e w4 ⟨v4, rfl, hv4, hb4⟩; rw [HS.out] at hv4; rw [HS.out]; have a4 := (hb4.cell (p := ⟨w.heap.size, 0, none⟩) hlt3).trans a3; have b4 := (hb4.cell (p := ⟨w.heap.size, 1, none⟩) hlt3).trans b3; have hlt4 := Nat.lt_of_lt_of_le hlt3 hb4.size; have Hv4 := Lib.hid hv4; have Hv3a := Lib.hid (Rg.Ints.below Hv3.out hb4); have Hb4 := Lib.hid (Rg.acc Hb3.out hb4); clear hv4 hb4 a3 b3) | (go_at_call 23; refine (Undo_any (.slice ad ll.length cap) (.slice xa xn xc) d ll xl n _ (HR.out.below Hb4.out) (HX.out.below Hb4.out)).mono ?_; rintro e w5 ⟨v5, rfl, hv5, hb5⟩; rw [HU.out] at hv5; rw [HU.out]; have a5 := (hb5.cell (p := ⟨w.heap.size, 0, none⟩) hlt4).trans a4; have b5 := (hb5.cell (p := ⟨w.heap.size, 1, none⟩) hlt4).trans b4; have hlt5 := Nat.lt_of_lt_of_le hlt4 hb5.size; have Hv5 := Lib.hid hv5; have Hv3b := Lib.hid (Rg.Ints.below Hv3a.out hb5); have Hv4b := Lib.hid (Rg.Ints.below Hv4.out hb5); have Hb5 := Lib.hid (Rg.acc Hb4.out hb5); clear hv5 hb5 a4 b4) | (go_at_call 24; refine (refUndo_any (.slice ad ll.length cap) (.slice xa xn xc) d ll xl n _ (HR.out.below Hb5.out) (HX.out.below Hb5.out)).mono ?_; rintro e w6 ⟨v6, rfl, hv6, hb6⟩; rw [HU.out] at hv6; rw [HU.out]; have a6 := (hb6.cell (p := ⟨w.heap.size, 0, none⟩) hlt5).trans a5; have b6 := (hb6.cell (p := ⟨w.heap.size, 1, none⟩) hlt5).trans b5; have hlt6 := Nat.lt_of_lt_of_le hlt5 hb6.size; have Hv6 := Lib.hid hv6; have Hv3c := Lib.hid (Rg.Ints.below Hv3b.out hb6); have Hv4c := Lib.hid (Rg.Ints.below Hv4b.out hb6); have Hv5c := Lib.hid (Rg.Ints.below Hv5.out hb6); have Hb6 := Lib.hid (Rg.acc Hb5.out hb6); clear hv6 hb6 a5 b5) | (go_at_call 12; refine (Same_q _ _ _ _ _ Hv3c.out Hv4c.out).mono ?_; rintro e w7 ⟨rfl, k7, rfl⟩; rw [(selfT _).out]) | (go_at_call 12; refine (Same_any (drewN_ints _ Hv5c.out) (drewN_ints _ Hv6.out) (selfT _) (Rg.drewN Hb6.out _)).mono ?_; rintro e w8 ⟨rfl, hb8⟩; have Hb8 := Lib.hid hb8; clear hb8) | (go_at_call 9; refine (awake_any _).mono ?_; rintro e w9 ⟨rfl, hbz⟩; have Hbz := Lib.hid (Rg.acc Hb8.out hbz); clear hbz))
        go_ret
        exact ⟨rfl, Hbz.out⟩
end Go.Proofs.Ytjifdmfoijoekaa

