/- Lemmas and contracts on the way to the statement; no condition of their own beyond those written. -/
import Derived.Test.YtcbonaeaemclnaaPgA
import Derived.Test.YtcbonaeaemclnaaPgH
namespace Go.Proofs.Ytcbonaeaemclnaa
open Go.RowKit
open Go.Proofs
attribute [local irreducible] Go.Calls Go.wpStill

theorem c_fac {N : Nat} (w w0 : World) (h : N < 1000000000) (hb : Below w0.heap.size w0 w) : Calls Try.prog 16 #[.int .i64 (1 + (N : Int))] w fun e w' => ∃ v, e = .returned (.tuple #[v, .int .i64 0]) ∧ PairsAt w' v (Pm.facs (1 + N)) ∧ Below w0.heap.size w0 w' := by
  have := Factors_yes (1 + N) w (by omega) (by omega)
  rw [show ((1 + N : Nat) : Int) = 1 + (N : Int) from by omega] at this
  exact this.mono fun e w' ⟨v, a, b, c⟩ => ⟨v, a, b, hb.trans (c.mono hb.size)⟩
theorem k_next {a : Int} {v : Int × Int} (h : Hid (Pm.nx a = v)) (w : World) : Calls Try.prog 14 #[.int .i64 a] w fun e w' => e = ret2 v ∧ w = w' := by
  have := Next_any a w; rwa [h.out] at this

set_option maxRecDepth 100000 in
set_option maxHeartbeats 4000000 in
theorem PrimeFactors_any (n k : Int) (w : World) : Calls Try.prog 5 #[.int .i64 n, .int .i64 k] w fun e w' => e = .returned (.bool true) ∧ Below w.heap.size w w' := by
  obtain ⟨N, hN, hN9⟩ := pkN n 1000000000 (by omega)
  obtain ⟨K, hK, hK9⟩ := pkN k 900000 (by omega)
  replace hN : n % 1000000000 = (N : Int) := hN
  replace hK : k % 900000 = (K : Int) := hK
  have HN := Lib.hid hN
  have HK := Lib.hid hK
  have HN9 := Lib.hid hN9
  have HK9 := Lib.hid hK9
  clear hN hK
  have hb0 := Below.refl w.heap.size w
  go_enter Try.func5, Try.ntmps5
  go_wp2_with (first | (go_at_call 11; refine (calls_acc (lives_any _) hb0).mono ?_; rintro e w1 ⟨rfl, hb1⟩) | (go_at_call 21; refine (k_pick HN _ (by omega) (by omega)).mono ?_; rintro e w' ⟨rfl, rfl⟩) | (go_at_call 16; refine (c_fac _ _ HN9.out hb1).mono ?_; rintro e w2 ⟨v, rfl, p1, hb2⟩; obtain ⟨ad, cap, rfl, n1, m1, k1⟩ := p1.shape))
  have K1 := Lib.hid k1
  clear k1 p1 hb0 hb1
  generalize hl : Pm.facs (1 + N) = l at *
  have Hl := Lib.hid hl
  clear hl
  go_loopw [0, 7, 8] (fun vm vl vi wr => ∃ (m last : Nat) (pre : List (Nat × Nat)), vm = .int .i64 m ∧ vl = .int .i64 last ∧ vi = .int .i64 (pre.length : Nat) ∧ m ≤ 1000000000 ∧ last ≤ 1000000000 ∧ pre.length ≤ l.length ∧ Hid (Pm.TInv (1 + N) m last pre) ∧ ∃ j, wr = w2.drewN j) (fun _ _ vi _ => l.length - (intOf vi).toNat)
  case atStart => exact ⟨1 + N, 1, [], by rw [show ((1 + N : Nat) : Int) = 1 + (N : Int) from by omega], rfl, rfl, by omega, by omega, by simp, Pm.TInv.start (by omega), ⟨0, rfl⟩⟩
  case round =>
    obtain ⟨m, last, pre, rfl, rfl, rfl, hm9, hl9, hpre, hT, ⟨j, rfl⟩⟩ := hrel
    generalize hi : pre.length = i at *
    have Hi := Lib.hid hi
    clear hi
    by_cases hlt : (i : Int) < (l.length : Int)
    · have hi1 : i < l.length := by omega
      obtain ⟨bl, rfl, d1⟩ := K1.out (by omega)
      obtain ⟨x1, y1⟩ := d1 i hi1
      clear d1
      obtain ⟨p, kk, m', r1, r2, r3, r4, r5, r6, r7, r8⟩ := hT.out.round (by rw [Hi.out, Hl.out]; exact hi1)
      rw [Hl.out, Hi.out, List.getElem?_eq_getElem hi1] at r1
      have r1' : l[i] = (p, kk) := Option.some.inj r1
      rw [r1'] at x1 y1
      have hp2 := r2.two
      have hk9 : kk ≤ 1000000000 := by
        have h1 := Pm.pow_ge hp2 kk
        have h2 : p ^ kk * 1 ≤ p ^ kk * m' := Nat.mul_le_mul_left _ r7
        omega
      have R2 := Lib.hid r2
      have R6 := Lib.hid r6
      have R8 := Lib.hid r8
      have Hpre : Hid (∃ pr : List (Nat × Nat), pr = pre ++ [(p, kk)] ∧ pr.length = i + 1) := Lib.hid ⟨_, rfl, by simp [Hi.out]⟩
      clear r1 r1' r2 r6 r8
      have hmix : Try.prog.follows .mixedOrders = true := by kernel_rfl
      go_wp2_with fail
      refine wp_region_still_lit hmix (by kernel_rfl) ?_
      have z1 : World.cell? (World.drew (w2.drewN j)) ⟨bl, i * 2, none⟩ = _ := x1
      have z2 : World.cell? (World.drew (w2.drewN j)) ⟨bl, i * 2 + 1, none⟩ = _ := y1
      change wpStill _ _ (World.drew (w2.drewN j)) _ _ _
      generalize hWk : World.drew (w2.drewN j) = Wk at *
      clear x1 y1
      repeat still_step
      refine wpStill_nil ?_
      subst hWk
      show Exit.then _ _ Exit.normal _ (World.drew (w2.drewN j))
      clear z1 z2
      go_wp2
      go_loop [11] (fun vd => ∃ d : Nat, vd = .int .i64 d ∧ 2 ≤ d ∧ d ≤ 100000) (fun vd => 100000 - (intOf vd).toNat)
      case atStart => exact ⟨2, rfl, by omega, by omega⟩
      case round =>
        obtain ⟨d, rfl, d2, d9⟩ := hrel
        have hdd := mul_bd (a := d) (b := d) (m := 100000) d9 d9
        by_cases hd : (d : Int) * (d : Int) ≤ (p : Int)
        · have hd3 : d < 40000 := by
            apply Classical.byContradiction
            intro h
            have h1 : 40000 * 40000 ≤ d * d := Nat.mul_le_mul (by omega) (by omega)
            have h2 : ((d * d : Nat) : Int) = (d : Int) * d := by simp
            omega
          have hne : p % d ≠ 0 := by
            intro h
            have h1 := R2.out.least d d2 (Nat.dvd_of_mod_eq_zero h)
            have h2 : 2 * d ≤ d * d := Nat.mul_le_mul_right _ d2
            have h3 : ((d * d : Nat) : Int) = (d : Int) * d := by simp
            omega
          have hb : ((p : Int) % (d : Int) == 0) = false := by rw [beq_eq_false_iff_ne]; omega
          have hd0 : ¬ d = 0 := by omega
          clear hne
          go_wp2
          go_round
          case rel => exact ⟨d + 1, by go_num, by omega, by omega⟩
          case measure => simp [intOf]; omega
        · go_wp2
          clear hd hdd d2 d9
          go_loop [0, 10] (fun vm vk => ∃ a b : Nat, vm = .int .i64 a ∧ vk = .int .i64 b ∧ Hid (a = p ^ b * m') ∧ a ≤ m ∧ 1 ≤ a ∧ b ≤ 1000000000) (fun _ vk => (intOf vk).toNat)
          case atStart => exact ⟨m, kk, rfl, rfl, R6.out, Nat.le_refl _, by omega, hk9⟩
          case round =>
            obtain ⟨a, b, rfl, rfl, hab, ha, ha1, hb9⟩ := hrel
            by_cases hb : 0 < (b : Int)
            · have e1 : a = p * (p ^ (b - 1) * m') := by
                rw [hab.out]
                conv => lhs; rw [show b = (b - 1) + 1 from by omega, Nat.pow_succ, Nat.mul_comm (p ^ (b - 1)) p, Nat.mul_assoc]
              have e2 : a / p = p ^ (b - 1) * m' := by
                conv => lhs; rw [e1]
                exact Nat.mul_div_cancel_left _ (by omega)
              have e3 : a % p = 0 := by rw [e1]; exact Nat.mul_mod_right _ _
              have e4 : 1 ≤ a / p := by
                rcases Nat.eq_zero_or_pos (a / p) with h | h
                · rw [e2] at h; rw [h] at e1; omega
                · exact h
              have e5 : a / p ≤ a := Nat.div_le_self _ _
              have hbm : ((a : Int) % (p : Int) != 0) = false := by
                have : (a : Int) % (p : Int) = 0 := by omega
                rw [this]; rfl
              have hq0 : 0 ≤ (a : Int) / (p : Int) := Int.ediv_nonneg (by omega) (by omega)
              have hq1 : (a : Int) / (p : Int) ≤ a := Int.ediv_le_self _ (by omega)
              have hp0 : ¬ p = 0 := by omega
              have E2 := Lib.hid e2
              clear e1 e2 e3
              go_wp2
              go_round
              case rel => exact ⟨a / p, b - 1, by simp, by rw [show ((b - 1 : Nat) : Int) = (b : Int) - 1 from by omega], E2.out, by omega, e4, by omega⟩
              case measure => simp [intOf]; omega
            · have hb0 : b = 0 := by omega
              have ham : a = m' := by rw [hab.out, hb0, Nat.pow_zero, Nat.one_mul]
              have Ham := Lib.hid ham
              clear ham hb0
              go_wp2
              obtain ⟨pr, hpr, hpl⟩ := Hpre.out
              refine ⟨⟨a, p, pr, rfl, rfl, by rw [hpl]; go_num, by omega, by omega, by omega, ?_, ⟨j + 1, rfl⟩⟩, by simp [intOf]; omega⟩
              show Pm.TInv _ _ _ _
              rw [hpr, Ham.out]; exact R8.out
    · have hm1 : m = 1 := hT.out.end (by rw [Hi.out, Hl.out]; omega)
      obtain ⟨q, q1, q2, q3, q4, q5⟩ := Pm.next_facts HK9.out
      have Q1 := Lib.hid q1
      have Q4 := Lib.hid q4
      have Q5 := Lib.hid q5
      have hb3 : Below w.heap.size w (w2.drewN j) := hb2.trans ((below_drewN' w2 j).mono hb2.size)
      subst hm1
      clear q1 q4 q5 hT hm9 hN9
      have u1 : decide ((q : Int) ≤ (K : Int)) = false := by simp; omega
      have u2 : decide (q ≤ K) = false := by simp; omega
      have u3 : decide ((K : Int) + 200 < (q : Int)) = false := by simp; omega
      have u4 : decide (K + 200 < q) = false := by simp; omega
      go_wp2_with (first | (go_at_call 21; refine (k_pick HK _ (by omega) (by omega)).mono ?_; rintro e w' ⟨rfl, rfl⟩) | (go_at_call 14; refine (k_next Q1 _).mono ?_; rintro e w' ⟨rfl, rfl⟩; unfold ret2) | (go_at_call 18; refine (Is_t _ _ Q4.out).mono ?_; rintro e w' ⟨rfl, rfl⟩))
      go_loop [14] (fun vt => ∃ t : Nat, vt = .int .i64 t ∧ K < t ∧ t ≤ q) (fun vt => q - (intOf vt).toNat)
      case atStart => exact ⟨K + 1, by go_num, by omega, by omega⟩
      case round =>
        obtain ⟨t, rfl, t1, t2⟩ := hrel
        by_cases htq : (t : Int) < (q : Int)
        · go_wp2_with (go_at_call 18; refine (Is_f _ _ (Q5.out t t1 (by omega))).mono ?_; rintro e w' ⟨rfl, rfl⟩)
          go_round
          case rel => exact ⟨t + 1, by go_num, by omega, by omega⟩
          case measure => simp [intOf]; omega
        · go_wp2
          go_ret
          exact ⟨rfl, hb3⟩
end Go.Proofs.Ytcbonaeaemclnaa
