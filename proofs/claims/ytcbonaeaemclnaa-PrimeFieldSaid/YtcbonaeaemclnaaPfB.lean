/- Lemmas and contracts on the way to the statement; no condition of their own beyond those written. -/
import Derived.Test.YtcbonaeaemclnaaPfK
namespace Go.Proofs.Ytcbonaeaemclnaa
open Go.RowKit
open Go.Proofs
attribute [local irreducible] Go.Calls

set_option maxRecDepth 100000 in
set_option maxHeartbeats 4000000 in
theorem PrimeField_any (n a b x y : Int) (w : World) : Calls Try.prog 7 #[.int .i64 n, .int .i64 a, .int .i64 b, .int .i64 x, .int .i64 y] w fun e w' => e = .returned (.bool true) ∧ Below w.heap.size w w' := by
  obtain ⟨P, hn, hP, hp, hP4⟩ := Pm.small_ex n
  have hP2 := hp.two
  have pk : ∀ (u : Int) (m : Nat), 1 ≤ m → ∃ k : Nat, u % (m : Int) = (k : Int) ∧ k < m := by
    intro u m hm
    have h0 := Int.emod_nonneg u (by omega : (m : Int) ≠ 0)
    have h1 := Int.emod_lt_of_pos u (by omega : (0 : Int) < m)
    obtain ⟨k, hk⟩ := Int.eq_ofNat_of_zero_le h0
    exact ⟨k, hk, by omega⟩
  obtain ⟨A, hA, hAP⟩ := pk a P (by omega)
  obtain ⟨B, hB, hBP⟩ := pk b P (by omega)
  obtain ⟨X, hX, hX1⟩ := pk x 1000 (by omega)
  obtain ⟨Y, hY, hY1⟩ := pk y 1000 (by omega)
  clear pk
  replace hX : x % 1000 = (X : Int) := hX
  replace hY : y % 1000 = (Y : Int) := hY
  have Hn := Lib.hid hn
  have HA := Lib.hid hA
  have HB := Lib.hid hB
  have HX := Lib.hid hX
  have HY := Lib.hid hY
  clear hn hA hB hX hY
  rcases Nat.eq_zero_or_pos A with rfl | hA1
  · have HI := Lib.hid (Pm.inv_z (a := 0) hP (by simp))
    have HO := Lib.hid (Pm.ordS_z (a := 0) hP (by simp))
    replace HA : Hid (a % (P : Int) = 0) := HA
    clear hP hp
    have hb0 := Below.refl w.heap.size w
    go_enter Try.func7, Try.ntmps7
    go_wp2_with (first | (go_at_call 11; refine (calls_acc (lives_any _) hb0).mono ?_; rintro e w1 ⟨rfl, hb1⟩) | (go_at_call 22; refine (k_small Hn _).mono ?_; rintro e w' ⟨rfl, rfl⟩) | (go_at_call 21; refine (k_pick HA _ (by omega) (by omega)).mono ?_; rintro e w' ⟨rfl, rfl⟩) | (go_at_call 21; refine (k_pick HB _ (by omega) (by omega)).mono ?_; rintro e w' ⟨rfl, rfl⟩) | (go_at_call 21; refine (k_pick HX _ (by omega) (by omega)).mono ?_; rintro e w' ⟨rfl, rfl⟩) | (go_at_call 21; refine (k_pick HY _ (by omega) (by omega)).mono ?_; rintro e w' ⟨rfl, rfl⟩) | (go_at_call 26; refine (k_inv HI (by assumption)).mono ?_; rintro e w2 ⟨rfl, hb2⟩; unfold ret2) | (go_at_call 27; refine (k_ord HO (by assumption)).mono ?_; rintro e w3 ⟨rfl, hb3⟩; unfold ret2))
    go_ret
    exact ⟨rfl, by assumption⟩
  · obtain ⟨I, hI, hIP, hI1⟩ := Pm.inv_nat hP hp hA1 hAP
    obtain ⟨L, hL, hLP, hL1⟩ := Pm.pow_neg hP hp hA1 hAP X
    have h2 := Pm.pow_nat hP hp A X
    have h3 := Pm.pow_nat hP hp A Y
    have h4 := Pm.pow_nat hP hp A (X + Y)
    have h5 := Pm.pow_nat hP hp (A ^ X % P) Y
    have h6 := Pm.pow_nat hP hp A (X * Y)
    have h7 := Pm.pow_nat hP hp (A * B) X
    have h8 := Pm.pow_nat hP hp B X
    have h10 := Pm.pow_nat hP hp A (P - 1)
    have h11 := Pm.ord_nat hP hp hA1 hAP
    obtain ⟨f1, f2, f3, f4, f5, f6, f7, f8⟩ := Pm.field_facts (X := X) (Y := Y) (B := B) hp hA1 hAP
    rw [f2] at h5
    rw [f4] at h10
    have l1 : A ^ X % P < P := Nat.mod_lt _ (by omega)
    have l2 : A ^ Y % P < P := Nat.mod_lt _ (by omega)
    have l3 : A ^ (X + Y) % P < P := Nat.mod_lt _ (by omega)
    have l4 : A ^ (X * Y) % P < P := Nat.mod_lt _ (by omega)
    have l5 : (A * B) ^ X % P < P := Nat.mod_lt _ (by omega)
    have l6 : B ^ X % P < P := Nat.mod_lt _ (by omega)
    generalize A ^ X % P = px at *
    generalize A ^ Y % P = py at *
    generalize A ^ (X + Y) % P = sm at *
    generalize A ^ (X * Y) % P = tw at *
    generalize (A * B) ^ X % P = bo at *
    generalize B ^ X % P = pb at *
    generalize hD : Pm.ord A P = D at *
    have K1 := Lib.hid hI
    have K2 := Lib.hid h2
    have K3 := Lib.hid h3
    have K4 : Hid (Pm.pow (A : Int) ((X : Int) + (Y : Int)) (P : Int) = ((sm : Int), 0)) := Lib.hid h4
    have K5 := Lib.hid h5
    have K6 : Hid (Pm.pow (A : Int) ((X : Int) * (Y : Int)) (P : Int) = ((tw : Int), 0)) := Lib.hid h6
    have K7 : Hid (Pm.pow ((A : Int) * (B : Int)) (X : Int) (P : Int) = ((bo : Int), 0)) := Lib.hid h7
    have K8 := Lib.hid h8
    have K9 := Lib.hid hL
    have K10 : Hid (Pm.pow (A : Int) ((P : Int) - 1) (P : Int) = (1, 0)) := by
      rw [show ((P - 1 : Nat) : Int) = (P : Int) - 1 from by omega] at h10; exact h10
    have K11 := Lib.hid h11
    clear hI h2 h3 h4 h5 h6 h7 h8 hL h10 h11 f2 f4 hP
    have t1 : ((A : Int) * (I : Int) % (P : Int) != 1) = false := by rw [mod_eqI hI1]; rfl
    have t2 : ((px : Int) * (py : Int) % (P : Int) != (sm : Int)) = false := by rw [mod_eqI f1]; simp
    have t3 : ((px : Int) * (pb : Int) % (P : Int) != (bo : Int)) = false := by rw [mod_eqI f3]; simp
    have t4 : ((L : Int) * (px : Int) % (P : Int) != 1) = false := by rw [mod_eqI hL1]; rfl
    have t5 : (((P : Int) - 1) % (D : Int) != 0) = false := by
      have : ((P : Int) - 1) % (D : Int) = (((P - 1) % D : Nat) : Int) := by rw [Int.natCast_emod]; congr 1; omega
      rw [this, f6]; rfl
    obtain ⟨m1, m1'⟩ := mul_bdN hAP hIP (by omega)
    obtain ⟨m2, m2'⟩ := mul_bdN l1 l2 (by omega)
    obtain ⟨m3, m3'⟩ := mul_bdN l1 l6 (by omega)
    obtain ⟨m4, m4'⟩ := mul_bdN hLP l1 (by omega)
    obtain ⟨m5, m5'⟩ := mul_bdN hX1 hY1 (by omega)
    obtain ⟨m6, m6'⟩ := mul_bdN hAP hBP (by omega)
    have F8 := Lib.hid f8
    have HD := Lib.hid hD
    clear hI1 hL1 f1 f3 f6 f8 hD hp
    have hb0 := Below.refl w.heap.size w
    go_enter Try.func7, Try.ntmps7
    go_wp2_with (first | (go_at_call 11; refine (calls_acc (lives_any _) hb0).mono ?_; rintro e w1 ⟨rfl, hb1⟩) | (go_at_call 22; refine (k_small Hn _).mono ?_; rintro e w' ⟨rfl, rfl⟩) | (go_at_call 21; refine (k_pick HA _ (by omega) (by omega)).mono ?_; rintro e w' ⟨rfl, rfl⟩) | (go_at_call 21; refine (k_pick HB _ (by omega) (by omega)).mono ?_; rintro e w' ⟨rfl, rfl⟩) | (go_at_call 21; refine (k_pick HX _ (by omega) (by omega)).mono ?_; rintro e w' ⟨rfl, rfl⟩) | (go_at_call 21; refine (k_pick HY _ (by omega) (by omega)).mono ?_; rintro e w' ⟨rfl, rfl⟩) | (go_at_call 26; refine (k_inv K1 (by assumption)).mono ?_; rintro e w2 ⟨rfl, hb2⟩; unfold ret2) | (go_at_call 25; refine (k_pow K2 (by assumption)).mono ?_; rintro e w3 ⟨rfl, hb3⟩; unfold ret2) | (go_at_call 25; refine (k_pow K3 (by assumption)).mono ?_; rintro e w4 ⟨rfl, hb4⟩; unfold ret2) | (go_at_call 25; refine (k_pow K4 (by assumption)).mono ?_; rintro e w5 ⟨rfl, hb5⟩; unfold ret2) | (go_at_call 25; refine (k_pow K5 (by assumption)).mono ?_; rintro e w6 ⟨rfl, hb6⟩; unfold ret2) | (go_at_call 25; refine (k_pow K6 (by assumption)).mono ?_; rintro e w7 ⟨rfl, hb7⟩; unfold ret2) | (go_at_call 25; refine (k_pow K7 (by assumption)).mono ?_; rintro e w8 ⟨rfl, hb8⟩; unfold ret2) | (go_at_call 25; refine (k_pow K8 (by assumption)).mono ?_; rintro e w9 ⟨rfl, hb9⟩; unfold ret2) | (go_at_call 25; refine (k_pow K9 (by assumption)).mono ?_; rintro e w10 ⟨rfl, hb10⟩; unfold ret2) | (go_at_call 25; refine (k_pow K10 (by assumption)).mono ?_; rintro e w11 ⟨rfl, hb11⟩; unfold ret2) | (go_at_call 27; refine (k_ord K11 (by assumption)).mono ?_; rintro e w12 ⟨rfl, hb12⟩; unfold ret2))
    clear hb0 hb1 hb2 hb3 hb4 hb5 hb6 hb7 hb8 hb9 hb10 hb11
    clear t1 t2 t3 t4 t5 m1 m1' m2 m2' m3 m3' m4 m4' m5 m5' m6 m6' l1 l2 l3 l4 l5 l6 K1 K2 K3 K4 K5 K6 K7 K8 K9 K10 K11 Hn HA HB HX HY
    go_loop [38, 39] (fun z t => ∃ k zk : Nat, z = .int .i64 zk ∧ t = .int .i64 ((k : Int) + 1) ∧ k ≤ D ∧ zk < P ∧ Hid (zk = A ^ k % P)) (fun _ t => D + 1 - (intOf t).toNat)
    case atStart => exact ⟨0, 1, rfl, rfl, by omega, by omega, by show 1 = _; rw [Nat.pow_zero, Nat.mod_eq_of_lt (by omega)]⟩
    case round =>
      obtain ⟨k, zk, rfl, rfl, hk, hz, he⟩ := hrel
      obtain ⟨m7, m7'⟩ := mul_bdN hz hAP (by omega)
      by_cases hlt : (k : Int) + 1 ≤ (D : Int)
      · have h9 := F8.out (k + 1) (by omega) (by omega)
        have e9 : zk * A % P = A ^ (k + 1) % P := by rw [he.out, Nat.mul_mod, Nat.mod_mod, ← Nat.mul_mod, Nat.pow_succ]
        rw [← e9] at h9
        have hz' : zk * A % P < P := Nat.mod_lt _ (by omega)
        have ec : (zk : Int) * (A : Int) % (P : Int) = ((zk * A % P : Nat) : Int) := by simp
        by_cases hkd : k + 1 = D
        · have u1 : ((zk : Int) * (A : Int) % (P : Int) == 1) = true := by rw [ec, h9.2 hkd]; rfl
          have u2 : ((k : Int) + 1 == (D : Int)) = true := by rw [beq_iff_eq]; omega
          have E9 := Lib.hid e9
          have Ec := Lib.hid ec
          have Hkd := Lib.hid hkd
          clear e9 ec h9 hkd
          go_wp2
          go_round
          case rel => exact ⟨k + 1, zk * A % P, by rw [Ec.out], by go_num, by have := Hkd.out; omega, hz', E9.out⟩
          case measure => simp [intOf]; omega
        · have u1 : ((zk : Int) * (A : Int) % (P : Int) == 1) = false := by
            rw [ec, beq_eq_false_iff_ne]; intro h; exact hkd (h9.1 (by omega))
          have u2 : ((k : Int) + 1 == (D : Int)) = false := by rw [beq_eq_false_iff_ne]; omega
          have E9 := Lib.hid e9
          have Ec := Lib.hid ec
          clear e9 ec h9 hkd
          go_wp2
          go_round
          case rel => exact ⟨k + 1, zk * A % P, by rw [Ec.out], by go_num, by omega, hz', E9.out⟩
          case measure => simp [intOf]; omega
      · go_wp2
        go_ret
        exact ⟨rfl, by assumption⟩
end Go.Proofs.Ytcbonaeaemclnaa
