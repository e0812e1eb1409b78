/- Lemmas and contracts on the way to the statement; no condition of their own beyond those written. -/
import Derived.Test.YtojbijkljnohoaaXOzVaVb
import Derived.Test.YtojbijkljnohoaaXLg
set_option linter.unusedVariables false
/-! The law OrbitStabs. -/
namespace Go.Proofs.Ytojbijkljnohoaa
open Go.RowKit
open Go.Proofs
open Go.Proofs.Ob
attribute [local irreducible] Go.Calls

set_option maxHeartbeats 2000000 in
theorem OrbitStabs_any (gv : Value) (d : Int) (ll : List (List Int)) (n : Int) (w : World) (h : Rg.RowsB maxLen w gv ll) :
    Calls Try.prog 3 #[.agg #[.int .i64 d, gv], .int .i64 n] w fun e w' => e = .returned (.bool true) ∧ Below w.heap.size w w' := by
  have hv := h
  obtain ⟨ad, cap, rfl, hc, hlB, hcm, _⟩ := h.shape
  have hba := Lib.hid (show Below w.heap.size w (w.alloc (.cells #[.int .i64 d, .slice ad ll.length cap] 24)) from (Below.refl _ _).alloc (Nat.le_refl _) _)
  have hLG := LargeGroup_any (.slice ad ll.length cap) d ll _ (hv.below hba.out)
  have hg0 : (w.alloc (.cells #[.int .i64 d, .slice ad ll.length cap] 24)).cell? ⟨w.heap.size, 0, none⟩ = some (.int .i64 d) := by rw [Rg.cellNew]; rfl
  have hg1 : (w.alloc (.cells #[.int .i64 d, .slice ad ll.length cap] 24)).cell? ⟨w.heap.size, 1, none⟩ = some (.slice ad ll.length cap) := by rw [Rg.cellNew]; rfl
  have hcl : w.heap.size < (w.alloc (.cells #[.int .i64 d, .slice ad ll.length cap] 24)).heap.size := by simp
  have Hg0 := Lib.hid hg0
  have Hg1 := Lib.hid hg1
  have Hcl := Lib.hid hcl
  clear hg0 hg1 hcl
  cases hlg : lg ll with
  | true =>
    rw [hlg] at hLG
    have HLG := Lib.hid hLG
    clear hLG h hv hlg
    go_enter Try.func3, Try.ntmps3
    go_wp2_with (first | (go_at_call 10; refine HLG.out.mono ?_; rintro e w1 ⟨rfl, hb1⟩; have hc0 := (hb1.cell (p := ⟨w.heap.size, 0, none⟩) Hcl.out).trans Hg0.out; have hc1' := (hb1.cell (p := ⟨w.heap.size, 1, none⟩) Hcl.out).trans Hg1.out; have hlt1 := Nat.lt_of_lt_of_le Hcl.out hb1.size; have Hb1 := Lib.hid (Rg.acc hba.out hb1); clear hb1) | (go_at_call 11; refine (awake_any _).mono ?_; rintro e w2 ⟨rfl, hb2⟩; have Hb2 := Lib.hid (Rg.acc Hb1.out hb2); clear hb2))
    go_ret
    exact ⟨rfl, Hb2.out⟩
  | false =>
    rw [hlg] at hLG
    have HLG := Lib.hid hLG
    obtain ⟨hs1, hs2⟩ := lg_small hlg
    have hR : Rg.Rows w (.slice ad ll.length cap) ll := hv.small (by omega) (fun l hl => by have := hs2 l hl; omega)
    have HR := Lib.hid hR
    clear hLG h hv hlg hs2 hR hs1
    generalize hB : stabS d ll n = bs
    obtain ⟨b1, b2⟩ := bs
    have HB := Lib.hid hB
    clear hB
    by_cases hc1 : 30 < d
    · by_cases hc2 : d ≤ 64
      · go_enter Try.func3, Try.ntmps3
        go_wp2_with (first | (go_at_call 10; refine HLG.out.mono ?_; rintro e w1 ⟨rfl, hb1⟩; have hc0 := (hb1.cell (p := ⟨w.heap.size, 0, none⟩) Hcl.out).trans Hg0.out; have hc1' := (hb1.cell (p := ⟨w.heap.size, 1, none⟩) Hcl.out).trans Hg1.out; have hlt1 := Nat.lt_of_lt_of_le Hcl.out hb1.size; have Hb1 := Lib.hid (Rg.acc hba.out hb1); clear hb1) | (go_at_call 11; refine (awake_any _).mono ?_; rintro e w2 ⟨rfl, hb2⟩; have Hb2 := Lib.hid (Rg.acc Hb1.out hb2); clear hb2))
        go_ret
        exact ⟨rfl, Hb2.out⟩
      · go_enter Try.func3, Try.ntmps3
        go_wp2_with (first | (go_at_call 10; refine HLG.out.mono ?_; rintro e w1 ⟨rfl, hb1⟩; have hc0 := (hb1.cell (p := ⟨w.heap.size, 0, none⟩) Hcl.out).trans Hg0.out; have hc1' := (hb1.cell (p := ⟨w.heap.size, 1, none⟩) Hcl.out).trans Hg1.out; have hlt1 := Nat.lt_of_lt_of_le Hcl.out hb1.size; have Hb1 := Lib.hid (Rg.acc hba.out hb1); clear hb1) | (go_at_call 12; refine (Stab_any (.slice ad ll.length cap) d ll n _ (HR.out.below Hb1.out)).mono ?_; rintro e w2 ⟨v2, rfl, hv2, hb2⟩; rw [HB.out] at hv2; rw [HB.out]; have hd0 := (hb2.cell (p := ⟨w.heap.size, 0, none⟩) hlt1).trans hc0; have hd1 := (hb2.cell (p := ⟨w.heap.size, 1, none⟩) hlt1).trans hc1'; have Hv2 := Lib.hid hv2; have Hb2 := Lib.hid (Rg.acc Hb1.out hb2); clear hv2 hb2 hc0 hc1') | (go_at_call 13; refine (refStab_any (.slice ad ll.length cap) d ll n _ (HR.out.below Hb2.out)).mono ?_; rintro e w3 ⟨v3, rfl, hv3, hb3⟩; rw [HB.out] at hv3; rw [HB.out]; have Hv3 := Lib.hid hv3; have Hv2' := Lib.hid (Rg.Rows.below Hv2.out hb3); have Hb3 := Lib.hid (Rg.acc Hb2.out hb3); clear hv3 hb3 hd0 hd1) | (go_at_call 14; refine (SamePerms_b (b := true) Hv2'.out Hv3.out (Lib.hid (decide_eq_true rfl))).mono ?_; rintro e w4 ⟨rfl, hb4⟩; have Hb4 := Lib.hid (Rg.acc Hb3.out hb4); clear hb4) | (go_at_call 11; refine (awake_any _).mono ?_; rintro e w5 ⟨rfl, hb5⟩; have Hb5 := Lib.hid (Rg.acc Hb4.out hb5); clear hb5))
        go_ret
        exact ⟨rfl, Hb5.out⟩
    · go_enter Try.func3, Try.ntmps3
      go_wp2_with (first | (go_at_call 10; refine HLG.out.mono ?_; rintro e w1 ⟨rfl, hb1⟩; have hc0 := (hb1.cell (p := ⟨w.heap.size, 0, none⟩) Hcl.out).trans Hg0.out; have hc1' := (hb1.cell (p := ⟨w.heap.size, 1, none⟩) Hcl.out).trans Hg1.out; have hlt1 := Nat.lt_of_lt_of_le Hcl.out hb1.size; have Hb1 := Lib.hid (Rg.acc hba.out hb1); clear hb1) | (go_at_call 12; refine (Stab_any (.slice ad ll.length cap) d ll n _ (HR.out.below Hb1.out)).mono ?_; rintro e w2 ⟨v2, rfl, hv2, hb2⟩; rw [HB.out] at hv2; rw [HB.out]; have hd0 := (hb2.cell (p := ⟨w.heap.size, 0, none⟩) hlt1).trans hc0; have hd1 := (hb2.cell (p := ⟨w.heap.size, 1, none⟩) hlt1).trans hc1'; have Hv2 := Lib.hid hv2; have Hb2 := Lib.hid (Rg.acc Hb1.out hb2); clear hv2 hb2 hc0 hc1') | (go_at_call 13; refine (refStab_any (.slice ad ll.length cap) d ll n _ (HR.out.below Hb2.out)).mono ?_; rintro e w3 ⟨v3, rfl, hv3, hb3⟩; rw [HB.out] at hv3; rw [HB.out]; have Hv3 := Lib.hid hv3; have Hv2' := Lib.hid (Rg.Rows.below Hv2.out hb3); have Hb3 := Lib.hid (Rg.acc Hb2.out hb3); clear hv3 hb3 hd0 hd1) | (go_at_call 14; refine (SamePerms_b (b := true) Hv2'.out Hv3.out (Lib.hid (decide_eq_true rfl))).mono ?_; rintro e w4 ⟨rfl, hb4⟩; have Hb4 := Lib.hid (Rg.acc Hb3.out hb4); clear hb4) | (go_at_call 11; refine (awake_any _).mono ?_; rintro e w5 ⟨rfl, hb5⟩; have Hb5 := Lib.hid (Rg.acc Hb4.out hb5); clear hb5))
      go_ret
      exact ⟨rfl, Hb5.out⟩
end Go.Proofs.Ytojbijkljnohoaa

