/- Lemmas and contracts on the way to the statement; no condition of their own beyond those written. -/
import Derived.Test.YtcbonaeaemclnaaPmT
namespace Go.Proofs.Ytcbonaeaemclnaa
open Go.RowKit
open Go.Proofs

set_option maxHeartbeats 1000000 in
theorem Suitable_any (e0 m : Int) (w : World) :
    Calls Try.prog 12 #[.int .i64 e0, .int .i64 m] w fun e w' => e = ret2 (Pm.su e0 m) ∧ w = w' := by
  by_cases h1 : e0 < 1
  · have HU := Lib.hid (Pm.su_e (e := e0) (m := m) (.inl h1))
    go_enter Try.func12, Try.ntmps12
    go_wp2
    go_ret2
    exact ⟨ret2_of HU.out, rfl⟩
  · have hd1 : decide (e0 < 1) = false := by simp; omega
    by_cases h2 : m < 0
    · have HU := Lib.hid (Pm.su_e (e := e0) (m := m) (.inr h2))
      go_enter Try.func12, Try.ntmps12
      go_wp2
      go_ret2
      exact ⟨ret2_of HU.out, rfl⟩
    · have hd2 : decide (m < 0) = false := by simp; omega
      by_cases h3 : e0 < 1000000
      · have HU := Lib.hid (Pm.su_go (by omega) h3 (by omega : 0 ≤ m))
        obtain ⟨e1, rfl⟩ := Int.eq_ofNat_of_zero_le (by omega : 0 ≤ e0)
        have h3n : e1 < 1000000 := by omega
        have h1n : 1 ≤ e1 := by omega
        have hd3 : decide ((e1 : Int) < 1000000) = true := by simp; omega
        go_enter Try.func12, Try.ntmps12
        go_wp2
        clear h1 h2 hd1 hd2 h3
        go_loop [6] (fun v => ∃ p f : Nat, v = .int .i64 p ∧ p < 2000000 ∧ 1 ≤ p ∧ 1000001 ≤ f + p ∧ Pm.suAux e1 m 1000000 1 = Pm.suAux e1 m f p) (fun v => 2000000 - (intOf v).toNat)
        case atStart => exact ⟨1, 1000000, rfl, by omega, by omega, by omega, rfl⟩
        case round =>
          obtain ⟨p, f, rfl, hp, hp1, hf, hs⟩ := hrel
          have Hs := Lib.hid hs
          clear hs
          by_cases hlt : p < 1000000
          · have hl : decide ((p : Int) < 1000000) = true := by simp; omega
            obtain ⟨f, rfl⟩ : ∃ g, f = g + 1 := ⟨f - 1, by omega⟩
            by_cases hm : m < (p : Int)
            · cases hB : Pm.isB p
              · have HB := Lib.hid hB
                clear hB
                go_wp2_with (go_at_call 18; refine (Is_f _ _ HB.out).mono ?_; rintro e w' ⟨rfl, rfl⟩)
                go_round
                case rel => exact ⟨p + e1, f, by go_num, by omega, by omega, by omega, by rw [Hs.out]; exact Pm.suAux_no hlt (by rw [HB.out]; simp)⟩
                case measure => simp [intOf]; omega
              · have HB := Lib.hid hB
                clear hB
                go_wp2_with (go_at_call 18; refine (Is_t _ _ HB.out).mono ?_; rintro e w' ⟨rfl, rfl⟩)
                go_ret2
                exact ⟨ret2_of (by rw [HU.out, Int.toNat_natCast, Hs.out]; exact Pm.suAux_yes hlt hm HB.out), rfl⟩
            · have hdm : decide (m < (p : Int)) = false := by simp; omega
              go_wp2
              go_round
              case rel => exact ⟨p + e1, f, by go_num, by omega, by omega, by omega, by rw [Hs.out]; exact Pm.suAux_no hlt fun h => hm h.1⟩
              case measure => simp [intOf]; omega
          · have hl : decide ((p : Int) < 1000000) = false := by simp; omega
            go_wp2
            go_ret2
            exact ⟨ret2_of (by rw [HU.out, Int.toNat_natCast, Hs.out]; exact Pm.suAux_end hlt), rfl⟩
      · have HU := Lib.hid (Pm.su_big (e := e0) (m := m) (by omega) (by omega))
        have hd3 : decide (e0 < 1000000) = false := by simp; omega
        clear h3
        go_enter Try.func12, Try.ntmps12
        go_wp2
        refine wp_loop_once ?_
        go_wp2
        go_ret2
        exact ⟨ret2_of HU.out, rfl⟩
set_option maxHeartbeats 1000000 in
theorem refSuitable_any (e0 m : Int) (w : World) :
    Calls Try.prog 13 #[.int .i64 e0, .int .i64 m] w fun e w' => e = ret2 (Pm.su e0 m) ∧ w = w' := by
  by_cases h1 : e0 < 1
  · have HU := Lib.hid (Pm.su_e (e := e0) (m := m) (.inl h1))
    go_enter Try.func13, Try.ntmps13
    go_wp2
    go_ret2
    exact ⟨ret2_of HU.out, rfl⟩
  · have hd1 : decide (e0 < 1) = false := by simp; omega
    by_cases h2 : m < 0
    · have HU := Lib.hid (Pm.su_e (e := e0) (m := m) (.inr h2))
      go_enter Try.func13, Try.ntmps13
      go_wp2
      go_ret2
      exact ⟨ret2_of HU.out, rfl⟩
    · have hd2 : decide (m < 0) = false := by simp; omega
      by_cases h3 : e0 < 1000000
      · have HU := Lib.hid (Pm.su_go (by omega) h3 (by omega : 0 ≤ m))
        obtain ⟨e1, rfl⟩ := Int.eq_ofNat_of_zero_le (by omega : 0 ≤ e0)
        have h3n : e1 < 1000000 := by omega
        have h1n : 1 ≤ e1 := by omega
        have hd3 : decide ((e1 : Int) < 1000000) = true := by simp; omega
        go_enter Try.func13, Try.ntmps13
        go_wp2
        clear h1 h2 hd1 hd2 h3
        go_loop [6] (fun v => ∃ p f : Nat, v = .int .i64 p ∧ p < 2000000 ∧ 1 ≤ p ∧ 1000001 ≤ f + p ∧ Pm.suAux e1 m 1000000 1 = Pm.suAux e1 m f p) (fun v => 2000000 - (intOf v).toNat)
        case atStart => exact ⟨1, 1000000, rfl, by omega, by omega, by omega, rfl⟩
        case round =>
          obtain ⟨p, f, rfl, hp, hp1, hf, hs⟩ := hrel
          have Hs := Lib.hid hs
          clear hs
          by_cases hlt : p < 1000000
          · have hl : decide ((p : Int) < 1000000) = true := by simp; omega
            obtain ⟨f, rfl⟩ : ∃ g, f = g + 1 := ⟨f - 1, by omega⟩
            by_cases hm : m < (p : Int)
            · cases hB : Pm.isB p
              · have HB := Lib.hid hB
                clear hB
                go_wp2_with (go_at_call 19; refine (refIs_f _ _ HB.out).mono ?_; rintro e w' ⟨rfl, rfl⟩)
                go_round
                case rel => exact ⟨p + e1, f, by go_num, by omega, by omega, by omega, by rw [Hs.out]; exact Pm.suAux_no hlt (by rw [HB.out]; simp)⟩
                case measure => simp [intOf]; omega
              · have HB := Lib.hid hB
                clear hB
                go_wp2_with (go_at_call 19; refine (refIs_t _ _ HB.out).mono ?_; rintro e w' ⟨rfl, rfl⟩)
                go_ret2
                exact ⟨ret2_of (by rw [HU.out, Int.toNat_natCast, Hs.out]; exact Pm.suAux_yes hlt hm HB.out), rfl⟩
            · have hdm : decide (m < (p : Int)) = false := by simp; omega
              go_wp2
              go_round
              case rel => exact ⟨p + e1, f, by go_num, by omega, by omega, by omega, by rw [Hs.out]; exact Pm.suAux_no hlt fun h => hm h.1⟩
              case measure => simp [intOf]; omega
          · have hl : decide ((p : Int) < 1000000) = false := by simp; omega
            go_wp2
            go_ret2
            exact ⟨ret2_of (by rw [HU.out, Int.toNat_natCast, Hs.out]; exact Pm.suAux_end hlt), rfl⟩
      · have HU := Lib.hid (Pm.su_big (e := e0) (m := m) (by omega) (by omega))
        have hd3 : decide (e0 < 1000000) = false := by simp; omega
        clear h3
        go_enter Try.func13, Try.ntmps13
        go_wp2
        refine wp_loop_once ?_
        go_wp2
        go_ret2
        exact ⟨ret2_of HU.out, rfl⟩

theorem pow_next {g k p : Nat} : Pm.mm (g ^ k % p) g p = g ^ (k + 1) % p := by
  unfold Pm.mm; rw [Nat.pow_succ, Nat.mul_mod, Nat.mod_mod, ← Nat.mul_mod]

set_option maxHeartbeats 1000000 in
theorem Log_any (a p : Int) (w : World) :
    Calls Try.prog 29 #[.int .i64 a, .int .i64 p] w fun e w' => e = ret2 (Pm.lgS a p) ∧ Below w.heap.size w w' := by
  cases hB : Pm.isB p
  · have HU := Lib.hid (Pm.lgS_f (a := a) hB)
    have HB := Lib.hid hB
    clear hB
    go_enter Try.func29, Try.ntmps29
    go_wp2_with (go_at_call 46; refine (unit_F _ _ _ HB.out).mono ?_; rintro e w' ⟨rfl, rfl⟩)
    go_ret2
    exact ⟨ret2_of HU.out, Below.refl _ _⟩
  · obtain ⟨b1, b2⟩ := bd_of hB
    obtain ⟨r0, r1⟩ := mod_bd a b1
    by_cases h0 : a % p = 0
    · have HU := Lib.hid (Pm.lgS_z (a := a) hB h0)
      have HB := Lib.hid hB
      have H0 := Lib.hid h0
      clear hB h0
      go_enter Try.func29, Try.ntmps29
      go_wp2_with (go_at_call 46; refine (unit_Z _ _ _ HB.out H0.out).mono ?_; rintro e w' ⟨rfl, rfl⟩)
      go_ret2
      exact ⟨ret2_of HU.out, Below.refl _ _⟩
    · have HU := Lib.hid (Pm.lgS_t (a := a) hB h0)
      have HB := Lib.hid hB
      have H0 := Lib.hid h0
      clear hB h0
      go_enter Try.func29, Try.ntmps29
      go_wp2_with (first | (go_at_call 46; refine (unit_T _ _ _ HB.out H0.out).mono ?_; rintro e w' ⟨rfl, rfl⟩) | (go_at_call 48; refine (root_int _ _ HB.out).mono ?_; rintro e w1 ⟨rfl, hb⟩))
      obtain ⟨q, hq, hqp, hq6⟩ := Pm.Pr.of HB.out
      subst hq
      have hr : (a % (q : Int)).toNat = (a % (q : Int)).toNat := rfl
      obtain ⟨r, hra⟩ := Int.eq_ofNat_of_zero_le r0
      have hr1 : 1 ≤ r := by have := H0.out; omega
      have hrq : r < q := by omega
      have HU2 : Hid (Pm.lgS a q = (((Pm.lg r q : Nat) : Int), 0)) := by
        have := HU.out; rw [hra] at this; exact Lib.hid (by simpa using this)
      rw [hra]
      have Hlg := Lib.hid (hqp.lg hr1 hrq)
      have hrt := hqp.rt.lt
      have hrt1 := hqp.rt.pos
      have Hlt := Lib.hid (hqp.lg hr1 hrq).2.1
      simp only [Int.toNat_natCast]
      generalize hg : Pm.rt q = g at *
      have hq2 := hqp.two
      clear hra HU HB H0 r0 r1 hg hr
      go_loop [8, 9] (fun vx vn => ∃ x n : Nat, vx = .int .i64 x ∧ vn = .int .i64 n ∧ n ≤ Pm.lg r q ∧ Hid (x = g ^ n % q)) (fun _ vn => Pm.lg r q - (intOf vn).toNat)
      case atStart => exact ⟨1, 0, rfl, rfl, by omega, by show 1 = g ^ 0 % q; rw [Nat.pow_zero, Nat.mod_eq_of_lt (by omega)]⟩
      case round =>
        obtain ⟨x, n, rfl, rfl, hn, hx⟩ := hrel
        have hxq : x < q := by rw [hx.out]; exact Nat.mod_lt _ (by omega)
        have hlq := Hlt.out
        have hm := mul_bd (a := x) (b := g) (m := 1000000) (by omega) (by omega)
        have Hc := Lib.hid (Pm.cast_mm (a := x) (b := g) (p := q))
        by_cases he : x = r
        · have hnl : n = Pm.lg r q := by
            have h1 := Hlg.out.2.2
            rcases Nat.lt_or_ge n (Pm.lg r q) with h | h
            · exact absurd (hx.out.symm.trans he) (h1 n h)
            · omega
          have hb1 : ((x : Int) == (r : Int)) = true := by rw [he]; simp
          have hb2 : ((x : Int) != (r : Int)) = false := by rw [he]; simp
          have Hnl := Lib.hid hnl
          clear he hnl
          go_wp2
          go_ret2
          exact ⟨ret2_of (by rw [HU2.out, Hnl.out]), by assumption⟩
        · have hnl : n < Pm.lg r q := by
            rcases Nat.lt_or_ge n (Pm.lg r q) with h | h
            · exact h
            · exfalso
              have : n = Pm.lg r q := by omega
              apply he; rw [hx.out, this]; exact Hlg.out.1
          have hb1 : ((x : Int) == (r : Int)) = false := by rw [beq_eq_false_iff_ne]; omega
          have hb2 : ((x : Int) != (r : Int)) = true := by rw [bne_iff_ne]; omega
          clear he
          go_wp2
          go_round
          case rel => exact ⟨Pm.mm x g q, n + 1, by rw [Hc.out], by go_num, by omega, by show _ = _; rw [hx.out]; exact pow_next⟩
          case measure => simp [intOf]; omega
end Go.Proofs.Ytcbonaeaemclnaa
