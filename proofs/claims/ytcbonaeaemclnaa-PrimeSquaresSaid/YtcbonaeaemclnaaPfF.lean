/- Lemmas and contracts on the way to the statement; no condition of their own beyond those written. -/
import Derived.Test.YtcbonaeaemclnaaPfK
import Derived.Test.YtcbonaeaemclnaaPfE
namespace Go.Proofs.Ytcbonaeaemclnaa
open Go.RowKit
open Go.Proofs
attribute [local irreducible] Go.Calls

set_option maxRecDepth 100000 in
set_option maxHeartbeats 4000000 in
theorem PrimeSquares_any (n a b : Int) (w : World) : Calls Try.prog 6 #[.int .i64 n, .int .i64 a, .int .i64 b] w fun e w' => e = .returned (.bool true) ∧ Below w.heap.size w w' := by
  obtain ⟨P, hn, hP, hp, hP4⟩ := Pm.small_ex n
  have hP2 := hp.two
  obtain ⟨A, hA, hAP⟩ := pkN a P (by omega)
  obtain ⟨B, hB, hBP⟩ := pkN b P (by omega)
  have Hn := Lib.hid hn
  have HA := Lib.hid hA
  have HB := Lib.hid hB
  have HP := Lib.hid hP
  have Hp := Lib.hid hp
  clear hn hA hB hP hp
  have hb0 := Below.refl w.heap.size w
  go_enter Try.func6, Try.ntmps6
  go_wp2_with (first | (go_at_call 11; refine (calls_acc (lives_any _) hb0).mono ?_; rintro e w1 ⟨rfl, hb1⟩) | (go_at_call 22; refine (k_small Hn _).mono ?_; rintro e w' ⟨rfl, rfl⟩) | (go_at_call 21; refine (k_pick HA _ (by omega) (by omega)).mono ?_; rintro e w' ⟨rfl, rfl⟩) | (go_at_call 21; refine (k_pick HB _ (by omega) (by omega)).mono ?_; rintro e w' ⟨rfl, rfl⟩))
  go_loopw [8, 9] (fun m v wr => ∃ x : Nat, m = .int .i64 (Pm.cnt P x) ∧ v = .int .i64 ((x : Int) + 1) ∧ x + 1 ≤ P ∧ Below w.heap.size w wr) (fun _ v _ => P + 1 - (intOf v).toNat)
  case atStart => exact ⟨0, rfl, rfl, by omega, by assumption⟩
  case round =>
    clear hb0 hb1
    obtain ⟨x, rfl, rfl, hx, hbr⟩ := hrel
    have hc1 := Pm.cnt_le P x
    by_cases hlt : (x : Int) + 1 < (P : Int)
    · cases hs : Pm.sqB P (x + 1)
      · obtain ⟨e1, e2⟩ := Pm.sq_no HP.out (by omega) (by omega) hs
        have hcn := Lib.hid (Pm.cnt_no hs)
        rw [show (((x + 1 : Nat)) : Int) = (x : Int) + 1 from by omega] at e1 e2
        have K1 := Lib.hid e1
        have K2 := Lib.hid e2
        clear e1 e2 hs
        go_wp2_with (first | (go_at_call 23; refine (k_sqrt K1 _).mono ?_; rintro e w' ⟨rfl, rfl⟩; unfold ret2) | (go_at_call 24; refine (k_sym K2 hbr).mono ?_; rintro e w3 ⟨rfl, hb3⟩; unfold ret2))
        go_roundw
        case rel => first | exact ⟨x + 1, by rw [hcn.out], by go_num, by omega, hb3⟩ | ((repeat apply Exists.intro); exact ⟨⟨x + 1, by rw [hcn.out], by go_num, by omega, hb3⟩, rfl⟩)
        case measure => simp [intOf]; omega
      · obtain ⟨r, e1, e3, e4, e5⟩ := Pm.sq_yes HP.out Hp.out (by omega) (by omega) hs
        have e2 : Pm.sym ((x + 1 : Nat) : Int) (P : Int) = (1, 0) := by simpa [Pm.sqB] using hs
        have hcn := Lib.hid (Pm.cnt_yes hs)
        have u1 : ((r : Int) * (r : Int) % (P : Int) != (x : Int) + 1) = false := by rw [mod_eqI e3]; simp
        obtain ⟨m1, m2⟩ := mul_bdN e5 e5 (by omega)
        rw [show (((x + 1 : Nat)) : Int) = (x : Int) + 1 from by omega] at e1 e2
        have K1 := Lib.hid e1
        have K2 := Lib.hid e2
        have u2 : decide ((P : Int) < 2 * (r : Int)) = false := by simp; omega
        clear e1 e2 e3 hs
        go_wp2_with (first | (go_at_call 23; refine (k_sqrt K1 _).mono ?_; rintro e w' ⟨rfl, rfl⟩; unfold ret2) | (go_at_call 24; refine (k_sym K2 hbr).mono ?_; rintro e w3 ⟨rfl, hb3⟩; unfold ret2))
        go_roundw
        case rel => first | exact ⟨x + 1, by rw [hcn.out]; go_num, by go_num, by omega, hb3⟩ | ((repeat apply Exists.intro); exact ⟨⟨x + 1, by rw [hcn.out]; go_num, by go_num, by omega, hb3⟩, rfl⟩)
        case measure => simp [intOf]; omega
    · have hxe : x = P - 1 := by omega
      by_cases hq : P = 2
      · have hc2 : Pm.cnt P x = 1 := by rw [hxe, hq]; exact Pm.cnt_two
        rw [hc2]
        have v0 : ((P : Int) == 2) = true := by rw [beq_iff_eq]; omega
        clear hxe hq hc2 hc1
        go_wp2
        go_ret
        exact ⟨rfl, by assumption⟩
      · have half := Pm.cnt_half HP.out Hp.out hq
        rw [← hxe] at half
        obtain ⟨s, k3, s3, e3⟩ := Pm.sym_nat HP.out Hp.out hq A
        obtain ⟨t, k4, s4, e4⟩ := Pm.sym_nat HP.out Hp.out hq B
        obtain ⟨u, k5, s5, e5⟩ := Pm.sym_nat HP.out Hp.out hq (A * B)
        have k6 := Pm.pow_nat HP.out Hp.out A ((P - 1) / 2)
        have v2' := Pm.sym_mul Hp.out hq s3 s4 s5 e3 e4 e5
        have hst : -1 ≤ s * t ∧ s * t ≤ 1 := by rw [v2']; rcases s5 with rfl | rfl | rfl <;> decide
        have v2 : (s * t == u) = true := by rw [beq_iff_eq]; exact v2'
        have v3 : ((s + (P : Int)) % (P : Int) == ((A ^ ((P - 1) / 2) % P : Nat) : Int)) = true := by rw [beq_iff_eq]; exact e3.symm
        have v3' := v3
        rw [Int.add_emod_right] at v3'
        have hs : -1 ≤ s ∧ s ≤ 1 := by rcases s3 with rfl | rfl | rfl <;> decide
        have ht : -1 ≤ t ∧ t ≤ 1 := by rcases s4 with rfl | rfl | rfl <;> decide
        clear e3 e4 e5 s3 s4 s5 v2'
        generalize A ^ ((P - 1) / 2) % P = e at *
        generalize Pm.cnt P x = M at *
        have v1 : (2 * (M : Int) == (P : Int) - 1) = true := by rw [beq_iff_eq]; omega
        have v0 : ((P : Int) == 2) = false := by rw [beq_eq_false_iff_ne]; omega
        rw [show ((A * B : Nat) : Int) = (A : Int) * (B : Int) from by simp] at k5
        rw [show (((P - 1) / 2 : Nat) : Int) = ((P : Int) - 1) / 2 from by omega] at k6
        obtain ⟨m1, m2⟩ := mul_bdN hAP hBP (by omega)
        have K3 := Lib.hid k3
        have K4 := Lib.hid k4
        have K5 := Lib.hid k5
        have K6 := Lib.hid k6
        clear k3 k4 k5 k6 hxe hq half
        go_wp2_with (first | (go_at_call 24; refine (k_sym K3 hbr).mono ?_; rintro e w3 ⟨rfl, hb3⟩; unfold ret2) | (go_at_call 24; refine (k_sym K4 (by assumption)).mono ?_; rintro e w4 ⟨rfl, hb4⟩; unfold ret2) | (go_at_call 24; refine (k_sym K5 (by assumption)).mono ?_; rintro e w5 ⟨rfl, hb5⟩; unfold ret2) | (go_at_call 25; refine (k_pow K6 (by assumption)).mono ?_; rintro e w6 ⟨rfl, hb6⟩; unfold ret2))
        go_ret
        exact ⟨rfl, by assumption⟩
end Go.Proofs.Ytcbonaeaemclnaa
