/- Lemmas and contracts on the way to the statement; no condition of their own beyond those written. -/
import Derived.Test.YtcbonaeaemclnaaPgC
import Derived.Test.YtcbonaeaemclnaaPmU
import Derived.Test.YtcbonaeaemclnaaPmK
namespace Go.Proofs.Ytcbonaeaemclnaa
open Go.RowKit
open Go.Proofs
attribute [local irreducible] Go.Calls

theorem k_rroot {p : Int} (hB : Pm.isB p = true) (w : World) : Calls Try.prog 36 #[.int .i64 p] w fun e w' => e = .returned (.tuple #[.int .i64 ((Pm.rt p.toNat : Nat) : Int), .int .i64 0]) ∧ Below w.heap.size w w' := by
  have := refRoot_any p w; rwa [Pm.rtS_t hB] at this
theorem k_rrootF {p : Int} (hB : Pm.isB p = false) (w : World) : Calls Try.prog 36 #[.int .i64 p] w fun e w' => e = .returned (.tuple #[.int .i64 0, .int .i64 3]) ∧ Below w.heap.size w w' := by
  have := refRoot_any p w; rwa [Pm.rtS_f hB] at this

set_option maxHeartbeats 1000000 in
theorem refLog_any (a p : Int) (w : World) :
    Calls Try.prog 37 #[.int .i64 a, .int .i64 p] w fun e w' => e = ret2 (Pm.lgS a p) ∧ Below w.heap.size w w' := by
  cases hB : Pm.isB p
  · have HU := Lib.hid (Pm.lgS_f (a := a) hB)
    have HB := Lib.hid hB
    clear hB
    go_enter Try.func37, Try.ntmps37
    go_wp2_with (go_at_call 49; refine (ru_F _ _ _ HB.out).mono ?_; rintro e w' ⟨rfl, rfl⟩)
    go_ret2
    exact ⟨ret2_of HU.out, Below.refl _ _⟩
  · obtain ⟨b1, b2⟩ := bd_of hB
    obtain ⟨r0, r1⟩ := mod_bd a b1
    by_cases h0 : a % p = 0
    · have HU := Lib.hid (Pm.lgS_z (a := a) hB h0)
      have HB := Lib.hid hB
      have H0 := Lib.hid h0
      clear hB h0
      go_enter Try.func37, Try.ntmps37
      go_wp2_with (go_at_call 49; refine (ru_Z _ _ _ HB.out H0.out).mono ?_; rintro e w' ⟨rfl, rfl⟩)
      go_ret2
      exact ⟨ret2_of HU.out, Below.refl _ _⟩
    · have HU := Lib.hid (Pm.lgS_t (a := a) hB h0)
      have HB := Lib.hid hB
      have H0 := Lib.hid h0
      clear hB h0
      go_enter Try.func37, Try.ntmps37
      go_wp2_with (first | (go_at_call 49; refine (ru_T _ _ _ HB.out H0.out).mono ?_; rintro e w' ⟨rfl, rfl⟩) | (go_at_call 36; refine (k_rroot HB.out _).mono ?_; rintro e w1 ⟨rfl, hb⟩))
      obtain ⟨q, hq, hqp, hq6⟩ := Pm.Pr.of HB.out
      subst hq
      have hr : (a % (q : Int)).toNat = (a % (q : Int)).toNat := rfl
      obtain ⟨r, hra⟩ := Int.eq_ofNat_of_zero_le r0
      have hr1 : 1 ≤ r := by have := H0.out; omega
      have hrq : r < q := by omega
      have HU2 : Hid (Pm.lgS a q = (((Pm.lg r q : Nat) : Int), 0)) := by
        have := HU.out; rw [hra] at this; exact Lib.hid (by simpa using this)
      rw [hra]
      have Hlg := Lib.hid (hqp.lg hr1 hrq)
      have hrt := hqp.rt.lt
      have hrt1 := hqp.rt.pos
      have Hlt := Lib.hid (hqp.lg hr1 hrq).2.1
      simp only [Int.toNat_natCast]
      generalize hg : Pm.rt q = g at *
      have hq2 := hqp.two
      clear hra HU HB H0 r0 r1 hg hr
      go_loop [9, 10] (fun vn vx => ∃ x n : Nat, vx = .int .i64 x ∧ vn = .int .i64 n ∧ n ≤ Pm.lg r q ∧ Hid (x = g ^ n % q)) (fun vn _ => Pm.lg r q - (intOf vn).toNat)
      case atStart => exact ⟨1, 0, rfl, rfl, by omega, by show 1 = g ^ 0 % q; rw [Nat.pow_zero, Nat.mod_eq_of_lt (by omega)]⟩
      case round =>
        obtain ⟨x, n, rfl, rfl, hn, hx⟩ := hrel
        have hxq : x < q := by rw [hx.out]; exact Nat.mod_lt _ (by omega)
        have hlq := Hlt.out
        have hm := mul_bd (a := x) (b := g) (m := 1000000) (by omega) (by omega)
        have Hc := Lib.hid (Pm.cast_mm (a := x) (b := g) (p := q))
        by_cases he : x = r
        · have hnl : n = Pm.lg r q := by
            have h1 := Hlg.out.2.2
            rcases Nat.lt_or_ge n (Pm.lg r q) with h | h
            · exact absurd (hx.out.symm.trans he) (h1 n h)
            · omega
          have hb1 : ((x : Int) == (r : Int)) = true := by rw [he]; simp
          have hb2 : ((x : Int) != (r : Int)) = false := by rw [he]; simp
          have Hnl := Lib.hid hnl
          clear he hnl
          go_wp2
          go_ret2
          exact ⟨ret2_of (by rw [HU2.out, Hnl.out]), by assumption⟩
        · have hnl : n < Pm.lg r q := by
            rcases Nat.lt_or_ge n (Pm.lg r q) with h | h
            · exact h
            · exfalso
              have : n = Pm.lg r q := by omega
              apply he; rw [hx.out, this]; exact Hlg.out.1
          have hb1 : ((x : Int) == (r : Int)) = false := by rw [beq_eq_false_iff_ne]; omega
          have hb2 : ((x : Int) != (r : Int)) = true := by rw [bne_iff_ne]; omega
          clear he
          go_wp2
          go_round
          case rel => exact ⟨Pm.mm x g q, n + 1, by rw [Hc.out], by go_num, by omega, by show _ = _; rw [hx.out]; exact pow_next⟩
          case measure => simp [intOf]; omega
end Go.Proofs.Ytcbonaeaemclnaa
