/- Lemmas and contracts on the way to the statement; no condition of their own beyond those written. -/
import Derived.Test.YtcbonaeaemclnaaPmC
namespace Go.Proofs.Ytcbonaeaemclnaa
open Go.RowKit
open Go.Proofs

set_option maxHeartbeats 400000 in
theorem refNext_any (n : Int) (w : World) :
    Calls Try.prog 15 #[.int .i64 n] w fun e w' => e = ret2 (Pm.nx n) ∧ w = w' := by
  obtain ⟨k0, hk0⟩ := Int.eq_ofNat_of_zero_le (by omega : 0 ≤ max n 1)
  have hk1 : 1 ≤ k0 := by omega
  have hnx : Pm.nx n = Pm.nxAux (1000000 - k0) k0 := by
    unfold Pm.nx; rw [hk0]
    rcases Nat.lt_or_ge 999999 k0 with h | h
    · rw [show 999999 - (k0 : Int).toNat = 0 from by omega, show 1000000 - k0 = 0 from by omega]; rfl
    · rw [show (k0 : Int).toNat = k0 from by omega, Pm.nx_ref h]
  have Hnx := Lib.hid hnx
  clear hnx
  go_enter Try.func15, Try.ntmps15
  go_wp2
  all_goals
    go_loop [4] (fun i => ∃ k : Nat, 1 ≤ k ∧ k0 ≤ k ∧ i = .int .i64 k ∧ Pm.nxAux (1000000 - k0) k0 = Pm.nxAux (1000000 - k) k) (fun i => 1000001 - (intOf i).toNat)
    case atStart => exact ⟨k0, by omega, by omega, by rw [← hk0]; congr 1; omega, rfl⟩
    case round =>
      obtain ⟨k, hk, hk', rfl, hs⟩ := hrel
      have Hs := Lib.hid hs
      clear hs
      by_cases hlt : (k : Int) < 1000000
      · cases hB : Pm.isB ((k + 1 : Nat) : Int)
        · have HB := Lib.hid hB
          clear hB
          go_wp2_with (go_at_call 19; refine (refIs_f _ _ HB.out).mono ?_; rintro e w' ⟨rfl, rfl⟩)
          go_round
          case rel => exact ⟨k + 1, by omega, by omega, by go_num, by rw [Hs.out]; exact nx_no HB.out (by omega)⟩
          case measure => simp [intOf]; omega
        · have HB := Lib.hid hB
          clear hB
          go_wp2_with (go_at_call 19; refine (refIs_t _ _ HB.out).mono ?_; rintro e w' ⟨rfl, rfl⟩)
          go_ret2
          exact ⟨ret2_of (by rw [Hnx.out, Hs.out]; exact nx_yes HB.out (by omega)), rfl⟩
      · go_wp2
        go_ret2
        exact ⟨ret2_of (by rw [Hnx.out, Hs.out]; rw [show 1000000 - k = 0 from by omega]; rfl), rfl⟩

set_option maxHeartbeats 400000 in
theorem small_any (n : Int) (w : World) :
    Calls Try.prog 22 #[.int .i64 n] w fun e w' => e = .returned (.int .i64 (Pm.nx (n % 390)).1) ∧ w = w' := by
  go_enter Try.func22, Try.ntmps22
  go_wp2_with (go_at_call 21; refine (Pick_any _ _ _ (by omega) (by omega)).mono ?_; rintro e w' ⟨rfl, rfl⟩)
  refine (refNext_any _ _).mono ?_
  rintro e w' ⟨rfl, rfl⟩
  unfold ret2
  go_wp2
  go_ret
  exact ⟨rfl, rfl⟩

theorem beq_zero_t {a : Int} (h : a = 0) : (a == 0) = true := by rw [h]; rfl
theorem beq_zero_f {a : Int} (h : a ≠ 0) : (a == 0) = false := by rw [beq_eq_false_iff_ne]; exact h

set_option maxHeartbeats 400000 in
theorem unit_any (a p : Int) (w : World) :
    Calls Try.prog 46 #[.int .i64 a, .int .i64 p] w fun e w' => e = ret2 (Pm.unit a p) ∧ w = w' := by
  cases hB : Pm.isB p
  · have HU := Lib.hid (Pm.unit_f (a := a) hB)
    have HB := Lib.hid hB
    clear hB
    go_enter Try.func46, Try.ntmps46
    go_wp2_with (go_at_call 18; refine (Is_f _ _ HB.out).mono ?_; rintro e w' ⟨rfl, rfl⟩)
    go_ret2
    exact ⟨ret2_of HU.out, rfl⟩
  · obtain ⟨b1, b2⟩ := Pm.isB_bd hB
    have b2' := Lib.hid b2
    clear b2
    by_cases h0 : a % p = 0
    · have HU := Lib.hid (Pm.unit_z (a := a) hB h0)
      have HB := Lib.hid hB
      have hb := beq_zero_t h0
      clear hB h0
      go_enter Try.func46, Try.ntmps46
      go_wp2_with (first | (go_at_call 18; refine (Is_t _ _ HB.out).mono ?_; rintro e w' ⟨rfl, rfl⟩) | (go_at_call 45; refine (residue_any _ _ _ (by omega) (by have := b2'.out; omega)).mono ?_; rintro e w' ⟨rfl, rfl⟩))
      go_ret2
      exact ⟨ret2_of HU.out, rfl⟩
    · have HU := Lib.hid (Pm.unit_t (a := a) hB h0)
      have HB := Lib.hid hB
      have hb := beq_zero_f h0
      clear hB h0
      go_enter Try.func46, Try.ntmps46
      go_wp2_with (first | (go_at_call 18; refine (Is_t _ _ HB.out).mono ?_; rintro e w' ⟨rfl, rfl⟩) | (go_at_call 45; refine (residue_any _ _ _ (by omega) (by have := b2'.out; omega)).mono ?_; rintro e w' ⟨rfl, rfl⟩))
      go_ret2
      exact ⟨ret2_of HU.out, rfl⟩

set_option maxHeartbeats 400000 in
theorem Mod_any (a p : Int) (w : World) :
    Calls Try.prog 31 #[.int .i64 a, .int .i64 p] w fun e w' => e = ret2 (Pm.mod a p) ∧ w = w' := by
  cases hB : Pm.isB p
  · have HU := Lib.hid (Pm.mod_f (a := a) hB)
    have HB := Lib.hid hB
    clear hB
    go_enter Try.func31, Try.ntmps31
    go_wp2_with (go_at_call 18; refine (Is_f _ _ HB.out).mono ?_; rintro e w' ⟨rfl, rfl⟩)
    go_ret2
    exact ⟨ret2_of HU.out, rfl⟩
  · obtain ⟨b1, b2⟩ := Pm.isB_bd hB
    have b2' := Lib.hid b2
    have HU := Lib.hid (Pm.mod_t (a := a) hB)
    have HB := Lib.hid hB
    clear hB b2
    go_enter Try.func31, Try.ntmps31
    go_wp2_with (first | (go_at_call 18; refine (Is_t _ _ HB.out).mono ?_; rintro e w' ⟨rfl, rfl⟩) | (go_at_call 45; refine (residue_any _ _ _ (by omega) (by have := b2'.out; omega)).mono ?_; rintro e w' ⟨rfl, rfl⟩))
    go_ret2
    exact ⟨ret2_of HU.out, rfl⟩

set_option maxHeartbeats 400000 in
theorem refMod_any (a p : Int) (w : World) :
    Calls Try.prog 32 #[.int .i64 a, .int .i64 p] w fun e w' => e = ret2 (Pm.mod a p) ∧ w = w' := by
  cases hB : Pm.isB p
  · have HU := Lib.hid (Pm.mod_f (a := a) hB)
    have HB := Lib.hid hB
    clear hB
    go_enter Try.func32, Try.ntmps32
    go_wp2_with (go_at_call 19; refine (refIs_f _ _ HB.out).mono ?_; rintro e w' ⟨rfl, rfl⟩)
    go_ret2
    exact ⟨ret2_of HU.out, rfl⟩
  · obtain ⟨b1, b2⟩ := Pm.isB_bd hB
    have b2' := Lib.hid b2
    have HU := Lib.hid (Pm.mod_t (a := a) hB)
    have HB := Lib.hid hB
    clear hB b2
    go_enter Try.func32, Try.ntmps32
    go_wp2_with (first | (go_at_call 19; refine (refIs_t _ _ HB.out).mono ?_; rintro e w' ⟨rfl, rfl⟩) | (go_at_call 21; refine (Pick_any _ _ _ (by omega) (by have := b2'.out; omega)).mono ?_; rintro e w' ⟨rfl, rfl⟩))
    go_ret2
    exact ⟨ret2_of HU.out, rfl⟩

theorem mod_unit_f {a p : Int} (hB : Pm.isB p = false) : Pm.mod a p = (0, 3) ∧ Pm.unit a p = (0, 3) := ⟨Pm.mod_f hB, Pm.unit_f hB⟩

set_option maxHeartbeats 400000 in
theorem refresidue_any (a p : Int) (w : World) :
    Calls Try.prog 49 #[.int .i64 a, .int .i64 p] w fun e w' => e = ret2 (Pm.unit a p) ∧ w = w' := by
  have hM := refMod_any a p w
  cases hB : Pm.isB p
  · have HU := Lib.hid (Pm.unit_f (a := a) hB)
    rw [Pm.mod_f hB] at hM
    have HM := Lib.hid hM
    clear hB hM
    go_enter Try.func49, Try.ntmps49
    go_wp2_with (go_at_call 32; refine HM.out.mono ?_; rintro e w' ⟨rfl, rfl⟩; unfold ret2)
    go_ret2
    exact ⟨ret2_of HU.out, rfl⟩
  · by_cases h0 : a % p = 0
    · have HU := Lib.hid (Pm.unit_z (a := a) hB h0)
      rw [Pm.mod_t hB, h0] at hM
      have HM := Lib.hid hM
      clear hB hM h0
      go_enter Try.func49, Try.ntmps49
      go_wp2_with (go_at_call 32; refine HM.out.mono ?_; rintro e w' ⟨rfl, rfl⟩; unfold ret2)
      go_ret2
      exact ⟨ret2_of HU.out, rfl⟩
    · have HU := Lib.hid (Pm.unit_t (a := a) hB h0)
      rw [Pm.mod_t hB] at hM
      have HM := Lib.hid hM
      have hb := beq_zero_f h0
      clear hB hM h0
      go_enter Try.func49, Try.ntmps49
      go_wp2_with (go_at_call 32; refine HM.out.mono ?_; rintro e w' ⟨rfl, rfl⟩; unfold ret2)
      go_ret2
      exact ⟨ret2_of HU.out, rfl⟩
end Go.Proofs.Ytcbonaeaemclnaa
