/- Lemmas and contracts on the way to the statement; no condition of their own beyond those written. -/
import Derived.Test.YtcbonaeaemclnaaPgD
namespace Go.Proofs.Ytcbonaeaemclnaa
open Go.RowKit
open Go.Proofs
attribute [local irreducible] Go.Calls

set_option maxHeartbeats 1000000 in
theorem refZeta_any (e0 p : Int) (w : World) :
    Calls Try.prog 40 #[.int .i64 e0, .int .i64 p] w fun e w' => e = ret2 (Pm.zeta e0 p) ∧ Below w.heap.size w w' := by
  cases hB : Pm.isB p
  · have HU := Lib.hid (Pm.zeta_f (e := e0) hB)
    have HB := Lib.hid hB
    clear hB
    go_enter Try.func40, Try.ntmps40
    go_wp2_with (go_at_call 36; refine (k_rrootF HB.out _).mono ?_; rintro e w1 ⟨rfl, hb⟩)
    go_ret2
    exact ⟨ret2_of HU.out, by assumption⟩
  · obtain ⟨b1, b2⟩ := bd_of hB
    by_cases he : e0 < 1
    · have HU := Lib.hid (Pm.zeta_r hB he)
      have HB := Lib.hid hB
      clear hB
      go_enter Try.func40, Try.ntmps40
      go_wp2_with (go_at_call 36; refine (k_rroot HB.out _).mono ?_; rintro e w1 ⟨rfl, hb⟩)
      go_ret2
      exact ⟨ret2_of HU.out, by assumption⟩
    · have hq0 : 0 ≤ (p - 1) / e0 := Int.ediv_nonneg (by omega) (by omega)
      have hq1 : (p - 1) / e0 ≤ p - 1 := Int.ediv_le_self _ (by omega)
      have he0 : ¬ e0 = 0 := by omega
      by_cases hm : (p - 1) % e0 = 0
      · have HU := Lib.hid (Pm.zeta_t hB he hm)
        have hbm : ((p - 1) % e0 == 0) = true := by rw [hm]; rfl
        have hbm2 : ((p - 1) % e0 != 0) = false := by rw [hm]; rfl
        have hlt := (Pm.Pr.ofI hB).rt.lt
        have HB := Lib.hid hB
        clear hB hm
        go_enter Try.func40, Try.ntmps40
        go_wp2_with (first | (go_at_call 36; refine (k_rroot HB.out _).mono ?_; rintro e w1 ⟨rfl, hb⟩) | (go_at_call 50; refine (refpower_int _ _ _ _ (by omega) (by omega) (by omega) (by omega) (by omega) (by omega)).mono ?_; rintro e w' ⟨rfl, rfl⟩))
        go_ret2
        exact ⟨ret2_of HU.out, by assumption⟩
      · have HU := Lib.hid (Pm.zeta_n hB he hm)
        have hbm : ((p - 1) % e0 == 0) = false := by rw [beq_eq_false_iff_ne]; exact hm
        have hbm2 : ((p - 1) % e0 != 0) = true := by rw [bne_iff_ne]; exact hm
        have HB := Lib.hid hB
        clear hB hm
        go_enter Try.func40, Try.ntmps40
        go_wp2_with (go_at_call 36; refine (k_rroot HB.out _).mono ?_; rintro e w1 ⟨rfl, hb⟩)
        go_ret2
        exact ⟨ret2_of HU.out, by assumption⟩
end Go.Proofs.Ytcbonaeaemclnaa
