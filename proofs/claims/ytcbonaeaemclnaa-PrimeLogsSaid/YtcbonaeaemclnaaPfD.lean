/- Lemmas and contracts on the way to the statement; no condition of their own beyond those written. -/
import Derived.Test.YtcbonaeaemclnaaPfK
import Derived.Test.YtcbonaeaemclnaaPfC
namespace Go.Proofs.Ytcbonaeaemclnaa
open Go.RowKit
open Go.Proofs
attribute [local irreducible] Go.Calls

set_option maxRecDepth 100000 in
set_option maxHeartbeats 4000000 in
theorem PrimeLogs_any (n a b k : Int) (w : World) : Calls Try.prog 8 #[.int .i64 n, .int .i64 a, .int .i64 b, .int .i64 k] w fun e w' => e = .returned (.bool true) ∧ Below w.heap.size w w' := by
  obtain ⟨P, hn, hP, hp, hP4⟩ := Pm.small_ex n
  have hP2 := hp.two
  have eP : ((P - 1 : Nat) : Int) = (P : Int) - 1 := by omega
  obtain ⟨A, hA, hAP⟩ := pkN a (P - 1) (by omega)
  obtain ⟨B, hB, hBP⟩ := pkN b (P - 1) (by omega)
  obtain ⟨K, hK, hKP⟩ := pkN k (P - 1) (by omega)
  rw [eP] at hA hB hK
  have hr := hp.rt
  have h1 := Pm.rt_nat hP
  have a1 := hp.lg (a := 1 + A) (by omega) (by omega)
  have b1 := hp.lg (a := 1 + B) (by omega) (by omega)
  have h2 := Pm.lg_nat hP hp (a := 1 + A) (by rw [Nat.mod_eq_of_lt (by omega)]; omega)
  have h3 := Pm.lg_nat hP hp (a := 1 + B) (by rw [Nat.mod_eq_of_lt (by omega)]; omega)
  have h4 := Pm.lg_nat hP hp (a := (1 + A) * (1 + B)) (Pm.mul_ne hp (by omega) (by omega) (by omega) (by omega))
  rw [Nat.mod_eq_of_lt (by omega)] at h2 h3
  have hadd := Pm.logs_add hp (A := 1 + A) (B := 1 + B) (by omega) (by omega) (by omega) (by omega)
  rw [← hadd] at h4
  have h5 := Pm.pow_nat hP hp (Pm.rt P) (Pm.lg (1 + A) P)
  rw [a1.1] at h5
  have x1 := a1.2.1
  have y1 := b1.2.1
  clear a1 b1 hadd
  generalize Pm.lg (1 + A) P = X at *
  generalize Pm.lg (1 + B) P = Y at *
  have g1 := hr.pos
  have g2 := hr.lt
  have HR := Lib.hid hr
  clear hr
  have HO : Hid (∀ r : Nat, 1 ≤ r → r ≤ Pm.rt P → Pm.ordS (r : Int) (P : Int) = (((Pm.ord r P : Nat) : Int), 0) ∧ (Pm.ord r P = P - 1 ↔ r = Pm.rt P) ∧ Pm.ord r P ≤ P - 1) := by
    intro r r1 r2
    have hrt := HR.out
    refine ⟨Pm.ord_nat hP hp r1 (by omega), ⟨fun h => ?_, fun h => by rw [h]; exact hrt.ord⟩, (hp.ord (Pm.not_dvd_of_lt r1 (by omega))).2⟩
    rcases Nat.lt_or_ge r (Pm.rt P) with h7 | h7
    · exact absurd h (hrt.least r r1 h7)
    · omega
  generalize hG : Pm.rt P = G at *
  clear HR hG
  obtain ⟨z, hz⟩ : ∃ z, (X + Y) % (P - 1) = z := ⟨_, rfl⟩
  rw [hz] at h4
  have t1 : (((X : Int) + (Y : Int)) % ((P : Int) - 1) != (z : Int)) = false := by
    rw [← hz, Int.natCast_emod, eP]; simp
  have c1 : (((1 + A : Nat)) : Int) = 1 + (A : Int) := by omega
  have c2 : (((1 + B : Nat)) : Int) = 1 + (B : Int) := by omega
  have c3 : (((1 + A) * (1 + B) : Nat) : Int) = (1 + (A : Int)) * (1 + (B : Int)) := by rw [Int.natCast_mul, c1, c2]
  rw [c1] at h2 h5
  rw [c2] at h3
  rw [c3] at h4
  obtain ⟨m1, m1'⟩ := mul_bdN (show 1 + A < P by omega) (show 1 + B < P by omega) (by omega)
  rw [c1, c2] at m1 m1'
  have K1 := Lib.hid h1
  have K2 := Lib.hid h2
  have K3 := Lib.hid h3
  have K4 := Lib.hid h4
  have K5 := Lib.hid h5
  have Hn := Lib.hid hn
  have HA := Lib.hid hA
  have HB := Lib.hid hB
  have HK := Lib.hid hK
  clear h1 h2 h3 h4 h5 hn hA hB hK hz c1 c2 c3 eP
  have hb0 := Below.refl w.heap.size w
  have q1 : decide ((G : Int) < 1) = false := by simp; omega
  have q2 : decide ((P : Int) ≤ (G : Int)) = false := by simp; omega
  have q3 : decide (P ≤ G) = false := by simp; omega
  have HPP := Lib.hid hP
  have Hpp := Lib.hid hp
  clear hP hp
  go_enter Try.func8, Try.ntmps8
  go_wp2_with (first | (go_at_call 11; refine (calls_acc (lives_any _) hb0).mono ?_; rintro e w1 ⟨rfl, hb1⟩) | (go_at_call 22; refine (k_small Hn _).mono ?_; rintro e w' ⟨rfl, rfl⟩) | (go_at_call 21; refine (k_pick HA _ (by omega) (by omega)).mono ?_; rintro e w' ⟨rfl, rfl⟩) | (go_at_call 21; refine (k_pick HB _ (by omega) (by omega)).mono ?_; rintro e w' ⟨rfl, rfl⟩) | (go_at_call 28; refine (k_root K1 (by assumption)).mono ?_; rintro e w2 ⟨rfl, hb2⟩; unfold ret2))
  go_loopw [12] (fun v wr => ∃ r : Nat, v = .int .i64 r ∧ 1 ≤ r ∧ r ≤ G + 1 ∧ Below w.heap.size w wr) (fun v _ => G + 1 - (intOf v).toNat)
  case atStart => exact ⟨1, rfl, by omega, by omega, by assumption⟩
  case round =>
    clear hb0 hb1 hb2
    obtain ⟨r, rfl, hr1, hr2, hbr⟩ := hrel
    by_cases hlt : (r : Int) ≤ (G : Int)
    · obtain ⟨o1, o2, o3⟩ := HO.out r hr1 (by omega)
      generalize Pm.ord r P = d at *
      have O1 := Lib.hid o1
      by_cases hrg : r = G
      · have u1 : ((d : Int) == (P : Int) - 1) = true := by rw [beq_iff_eq]; have := o2.2 hrg; omega
        have u2 : ((r : Int) == (G : Int)) = true := by rw [beq_iff_eq]; omega
        clear o1 o2 hrg
        go_wp2_with (go_at_call 27; refine (k_ord O1 hbr).mono ?_; rintro e w3 ⟨rfl, hb3⟩; unfold ret2)
        go_roundw
        case rel =>
          first | exact ⟨r + 1, by go_num, by omega, by omega, hb3⟩ | ((repeat apply Exists.intro); exact ⟨⟨r + 1, by go_num, by omega, by omega, hb3⟩, rfl⟩)
        case measure => simp [intOf]; omega
      · have u1 : ((d : Int) == (P : Int) - 1) = false := by rw [beq_eq_false_iff_ne]; intro h; exact hrg (o2.1 (by omega))
        have u2 : ((r : Int) == (G : Int)) = false := by rw [beq_eq_false_iff_ne]; omega
        clear o1 o2 hrg
        go_wp2_with (go_at_call 27; refine (k_ord O1 hbr).mono ?_; rintro e w3 ⟨rfl, hb3⟩; unfold ret2)
        go_roundw
        case rel =>
          first | exact ⟨r + 1, by go_num, by omega, by omega, hb3⟩ | ((repeat apply Exists.intro); exact ⟨⟨r + 1, by go_num, by omega, by omega, hb3⟩, rfl⟩)
        case measure => simp [intOf]; omega
    · clear HO
      by_cases hd : (P - 1) % (1 + K) = 0
      · obtain ⟨W, hz, W1, W2, W3⟩ := Pm.zeta_nat HPP.out Hpp.out (by omega : 1 ≤ 1 + K) hd
        have ho := Pm.ord_nat HPP.out Hpp.out W1 W2
        have hd2 : (((P : Int) - 1) % (1 + (K : Int)) != 0) = false := by
          have : ((P : Int) - 1) % (1 + (K : Int)) = (((P - 1) % (1 + K) : Nat) : Int) := by rw [Int.natCast_emod]; congr 1; omega
          rw [this, hd]; rfl
        rw [W3] at ho
        rw [show (((1 + K : Nat)) : Int) = 1 + (K : Int) from by omega] at hz ho
        have K6 := Lib.hid hz
        have K7 := Lib.hid ho
        clear hd hz ho W3
        go_wp2_with (first | (go_at_call 29; refine (k_log K2 (by assumption)).mono ?_; rintro e w4 ⟨rfl, hb4⟩; unfold ret2) | (go_at_call 29; refine (k_log K3 (by assumption)).mono ?_; rintro e w5 ⟨rfl, hb5⟩; unfold ret2) | (go_at_call 29; refine (k_log K4 (by assumption)).mono ?_; rintro e w6 ⟨rfl, hb6⟩; unfold ret2) | (go_at_call 25; refine (k_pow K5 (by assumption)).mono ?_; rintro e w7 ⟨rfl, hb7⟩; unfold ret2) | (go_at_call 21; refine (k_pick HK _ (by omega) (by omega)).mono ?_; rintro e w' ⟨rfl, rfl⟩) | (go_at_call 30; refine (k_zeta K6 (by assumption)).mono ?_; rintro e w8 ⟨rfl, hb8⟩; unfold ret2) | (go_at_call 27; refine (k_ord K7 (by assumption)).mono ?_; rintro e w9 ⟨rfl, hb9⟩; unfold ret2))
        go_ret
        exact ⟨rfl, by assumption⟩
      · have hz := Pm.zeta_none HPP.out Hpp.out (by omega : 1 ≤ 1 + K) hd
        have hd2 : (((P : Int) - 1) % (1 + (K : Int)) != 0) = true := by
          have : ((P : Int) - 1) % (1 + (K : Int)) = (((P - 1) % (1 + K) : Nat) : Int) := by rw [Int.natCast_emod]; congr 1; omega
          rw [this, bne_iff_ne]; omega
        rw [show (((1 + K : Nat)) : Int) = 1 + (K : Int) from by omega] at hz
        have K6 := Lib.hid hz
        clear hd hz
        go_wp2_with (first | (go_at_call 29; refine (k_log K2 (by assumption)).mono ?_; rintro e w4 ⟨rfl, hb4⟩; unfold ret2) | (go_at_call 29; refine (k_log K3 (by assumption)).mono ?_; rintro e w5 ⟨rfl, hb5⟩; unfold ret2) | (go_at_call 29; refine (k_log K4 (by assumption)).mono ?_; rintro e w6 ⟨rfl, hb6⟩; unfold ret2) | (go_at_call 25; refine (k_pow K5 (by assumption)).mono ?_; rintro e w7 ⟨rfl, hb7⟩; unfold ret2) | (go_at_call 21; refine (k_pick HK _ (by omega) (by omega)).mono ?_; rintro e w' ⟨rfl, rfl⟩) | (go_at_call 30; refine (k_zeta K6 (by assumption)).mono ?_; rintro e w8 ⟨rfl, hb8⟩; unfold ret2))
        go_ret
        exact ⟨rfl, by assumption⟩
end Go.Proofs.Ytcbonaeaemclnaa
