/- Lemmas and contracts on the way to the statement; no condition of their own beyond those written. -/
import Derived.Test.YtcbonaeaemclnaaPmT
namespace Go.Proofs.Ytcbonaeaemclnaa
open Go.RowKit
open Go.Proofs

theorem pow_next' {g k p : Nat} : Pm.mm (g ^ k % p) g p = g ^ (k + 1) % p := by
  unfold Pm.mm; rw [Nat.pow_succ, Nat.mul_mod, Nat.mod_mod, ← Nat.mul_mod]

set_option maxHeartbeats 1000000 in
theorem refOrder_any (a p : Int) (w : World) :
    Calls Try.prog 35 #[.int .i64 a, .int .i64 p] w fun e w' => e = ret2 (Pm.ordS a p) ∧ w = w' := by
  cases hB : Pm.isB p
  · have HU := Lib.hid (Pm.ordS_f (a := a) hB)
    have HB := Lib.hid hB
    clear hB
    go_enter Try.func35, Try.ntmps35
    go_wp2_with (go_at_call 49; refine (ru_F _ _ _ HB.out).mono ?_; rintro e w' ⟨rfl, rfl⟩)
    go_ret2
    exact ⟨ret2_of HU.out, rfl⟩
  · obtain ⟨b1, b2⟩ := bd_of hB
    obtain ⟨r0, r1⟩ := mod_bd a b1
    by_cases h0 : a % p = 0
    · have HU := Lib.hid (Pm.ordS_z (a := a) hB h0)
      have HB := Lib.hid hB
      have H0 := Lib.hid h0
      clear hB h0
      go_enter Try.func35, Try.ntmps35
      go_wp2_with (go_at_call 49; refine (ru_Z _ _ _ HB.out H0.out).mono ?_; rintro e w' ⟨rfl, rfl⟩)
      go_ret2
      exact ⟨ret2_of HU.out, rfl⟩
    · have HU := Lib.hid (Pm.ordS_t (a := a) hB h0)
      have HB := Lib.hid hB
      have H0 := Lib.hid h0
      clear hB h0
      go_enter Try.func35, Try.ntmps35
      go_wp2_with (go_at_call 49; refine (ru_T _ _ _ HB.out H0.out).mono ?_; rintro e w' ⟨rfl, rfl⟩)
      obtain ⟨q, hq, hqp, hq6⟩ := Pm.Pr.of HB.out
      subst hq
      obtain ⟨r, hra⟩ := Int.eq_ofNat_of_zero_le r0
      have hr1 : 1 ≤ r := by have := H0.out; omega
      have hrq : r < q := by omega
      have HU2 : Hid (Pm.ordS a q = (((Pm.ord r q : Nat) : Int), 0)) := by
        have := HU.out; rw [hra] at this; exact Lib.hid (by simpa using this)
      rw [hra]
      have hnd := Pm.not_dvd_of_lt hr1 hrq
      have Ho := Lib.hid (hqp.ord hnd)
      have hq2 := hqp.two
      have hob := (hqp.ord hnd).2
      have hop := (hqp.ord hnd).1.pos
      clear hra HU HB H0 r0 r1
      go_loop [7, 8] (fun vn vx => ∃ x n : Nat, vx = .int .i64 x ∧ vn = .int .i64 n ∧ 1 ≤ n ∧ n ≤ Pm.ord r q ∧ Hid (x = r ^ n % q)) (fun vn _ => Pm.ord r q - (intOf vn).toNat)
      case atStart => exact ⟨r, 1, rfl, rfl, by omega, hop, by show r = r ^ 1 % q; rw [Nat.pow_one, Nat.mod_eq_of_lt hrq]⟩
      case round =>
        obtain ⟨x, n, rfl, rfl, hn1, hn, hx⟩ := hrel
        have hxq : x < q := by rw [hx.out]; exact Nat.mod_lt _ (by omega)
        have hm := mul_bd (a := x) (b := r) (m := 1000000) (by omega) (by omega)
        have Hc := Lib.hid (Pm.cast_mm (a := x) (b := r) (p := q))
        by_cases he : x = 1
        · have hnl : n = Pm.ord r q := by
            rcases Nat.lt_or_ge n (Pm.ord r q) with h | h
            · exact absurd (hx.out.symm.trans he) (Ho.out.1.least n hn1 h)
            · omega
          have hb1 : ((x : Int) == 1) = true := by rw [he]; rfl
          have hb2 : ((x : Int) != 1) = false := by rw [he]; rfl
          have Hnl := Lib.hid hnl
          clear he hnl
          go_wp2
          go_ret2
          exact ⟨ret2_of (by rw [HU2.out, Hnl.out]), rfl⟩
        · have hnl : n < Pm.ord r q := by
            rcases Nat.lt_or_ge n (Pm.ord r q) with h | h
            · exact h
            · exfalso
              have : n = Pm.ord r q := by omega
              apply he; rw [hx.out, this]; exact Ho.out.1.one
          have hb1 : ((x : Int) == 1) = false := by rw [beq_eq_false_iff_ne]; omega
          have hb2 : ((x : Int) != 1) = true := by rw [bne_iff_ne]; omega
          clear he
          go_wp2
          go_round
          case rel => exact ⟨Pm.mm x r q, n + 1, by rw [Hc.out], by go_num, by omega, by omega, by show _ = _; rw [hx.out]; exact pow_next'⟩
          case measure => simp [intOf]; omega

theorem sqrt_T (a p : Int) (w : World) (v : Int) (h : Pm.sqrt a p = (v, 0)) :
    Calls Try.prog 38 #[.int .i64 a, .int .i64 p] w fun e w' => e = .returned (.tuple #[.int .i64 v, .int .i64 0]) ∧ w = w' := by
  have := refSqrt_any a p w; rwa [h] at this
theorem sqrt_N (a p : Int) (w : World) (h : Pm.sqrt a p = (0, 18)) :
    Calls Try.prog 38 #[.int .i64 a, .int .i64 p] w fun e w' => e = .returned (.tuple #[.int .i64 0, .int .i64 18]) ∧ w = w' := by
  have := refSqrt_any a p w; rwa [h] at this
theorem sqrt_mod {a p : Int} : Pm.sqrt (a % p) p = Pm.sqrt a p := by
  unfold Pm.sqrt; rw [Int.emod_emod_of_dvd a (Int.dvd_refl p)]

set_option maxHeartbeats 1000000 in
theorem refSymbol_any (a p : Int) (w : World) :
    Calls Try.prog 39 #[.int .i64 a, .int .i64 p] w fun e w' => e = ret2 (Pm.sym a p) ∧ w = w' := by
  cases hB : Pm.isB p
  · have HU := Lib.hid (Pm.sym_f (a := a) hB)
    have HB := Lib.hid hB
    clear hB
    go_enter Try.func39, Try.ntmps39
    go_wp2_with (go_at_call 32; refine (rm_F _ _ _ HB.out).mono ?_; rintro e w' ⟨rfl, rfl⟩)
    go_ret2
    exact ⟨ret2_of HU.out, rfl⟩
  · obtain ⟨b1, b2⟩ := bd_of hB
    obtain ⟨r0, r1⟩ := mod_bd a b1
    have HM := rm_T a p w hB
    by_cases h0 : a % p = 0
    · have HU := Lib.hid (Pm.sym_z (a := a) hB h0)
      rw [h0] at HM
      have HM' := Lib.hid HM
      clear hB h0 HM
      go_enter Try.func39, Try.ntmps39
      go_wp2_with (go_at_call 32; refine HM'.out.mono ?_; rintro e w' ⟨rfl, rfl⟩)
      go_ret2
      exact ⟨ret2_of HU.out, rfl⟩
    · have hbz := beq_zero_f h0
      have hsm := sqrt_mod (a := a) (p := p)
      rcases Pm.sym_sqrt hB h0 with ⟨s1, s2⟩ | ⟨s1, s2⟩
      · obtain ⟨v, hv⟩ : ∃ v, Pm.sqrt (a % p) p = (v, 0) := ⟨(Pm.sqrt a p).1, by rw [hsm, ← s2]⟩
        have HU := Lib.hid s1
        have HS := Lib.hid (sqrt_T (a % p) p w v hv)
        have HM' := Lib.hid HM
        clear hB h0 HM s1 s2 hv hsm
        go_enter Try.func39, Try.ntmps39
        go_wp2_with (first | (go_at_call 32; refine HM'.out.mono ?_; rintro e w' ⟨rfl, rfl⟩) | (go_at_call 38; refine HS.out.mono ?_; rintro e w' ⟨rfl, rfl⟩))
        go_ret2
        exact ⟨ret2_of HU.out, rfl⟩
      · have HU := Lib.hid s1
        have HS := Lib.hid (sqrt_N (a % p) p w (hsm.trans s2))
        have HM' := Lib.hid HM
        clear hB h0 HM s1 s2 hsm
        go_enter Try.func39, Try.ntmps39
        go_wp2_with (first | (go_at_call 32; refine HM'.out.mono ?_; rintro e w' ⟨rfl, rfl⟩) | (go_at_call 38; refine HS.out.mono ?_; rintro e w' ⟨rfl, rfl⟩))
        go_ret2
        exact ⟨ret2_of HU.out, rfl⟩

theorem is_any (n e0 v : Int) (w : World) :
    Calls Try.prog 41 #[.int .i64 n, .int .i64 e0, .int .i64 v] w fun e w' => e = .returned (.bool (e0 == 0 && n == v)) ∧ w = w' := by
  by_cases h1 : e0 = 0
  · have hb : (e0 == 0) = true := by rw [h1]; rfl
    clear h1
    go_enter Try.func41, Try.ntmps41
    go_wp2
    go_ret
    exact ⟨ret_bool (by rw [hb]; rfl), rfl⟩
  · have hb : (e0 == 0) = false := beq_zero_f h1
    clear h1
    go_enter Try.func41, Try.ntmps41
    go_wp2
    go_ret
    exact ⟨ret_bool (by rw [hb]; rfl), rfl⟩
theorem fails_any (n e0 v : Int) (w : World) :
    Calls Try.prog 42 #[.int .i64 n, .int .i64 e0, .int .i64 v] w fun e w' => e = .returned (.bool (n == 0 && e0 == v)) ∧ w = w' := by
  by_cases h1 : n = 0
  · have hb : (n == 0) = true := by rw [h1]; rfl
    clear h1
    go_enter Try.func42, Try.ntmps42
    go_wp2
    go_ret
    exact ⟨ret_bool (by rw [hb]; rfl), rfl⟩
  · have hb : (n == 0) = false := beq_zero_f h1
    clear h1
    go_enter Try.func42, Try.ntmps42
    go_wp2
    go_ret
    exact ⟨ret_bool (by rw [hb]; rfl), rfl⟩
end Go.Proofs.Ytcbonaeaemclnaa
