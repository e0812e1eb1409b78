/- Lemmas and contracts on the way to the statement; no condition of their own beyond those written. -/
import Derived.Test.YtcbonaeaemclnaaPmS
namespace Go.Proofs.Pm

theorem small_tab : ∀ k : Fin 390, isB (nx ((k.1 : Nat) : Int)).1 = true ∧ (nx ((k.1 : Nat) : Int)).1 ≤ 400 := by decide +kernel
/-- the prime that the laws select -/
theorem small_ex (n : Int) : ∃ P : Nat, (nx (n % 390)).1 = (P : Int) ∧ isB (P : Int) = true ∧ Pr P ∧ P ≤ 400 := by
  have h0 := Int.emod_nonneg n (by decide : (390 : Int) ≠ 0)
  have h1 := Int.emod_lt_of_pos n (by decide : (0 : Int) < 390)
  obtain ⟨k, hk⟩ := Int.eq_ofNat_of_zero_le h0
  rw [hk] at h1 ⊢
  obtain ⟨a, b⟩ := small_tab ⟨k, by omega⟩
  simp only at a b
  obtain ⟨q, hq, hp, _⟩ := Pr.of a
  exact ⟨q, hq, hq ▸ a, hp, by rw [hq] at b; omega⟩

theorem modN {a P : Nat} : ((a : Int) % (P : Int)).toNat = a % P := by
  have : ((a : Int) % (P : Int)) = ((a % P : Nat) : Int) := by simp
  rw [this]; rfl
theorem pw_mod {a n P : Nat} : pw (a % P) n P = pw a n P := by unfold pw; rw [← Nat.pow_mod]
theorem not_dvd_of_mod {a P : Nat} (h : ((a : Int) % (P : Int)) ≠ 0) : ¬ P ∣ a := by
  intro hd
  have := Nat.mod_eq_zero_of_dvd hd
  omega
/-- Pow at naturals -/
theorem pow_nat {P : Nat} (hP : isB (P : Int) = true) (hp : Pr P) (b x : Nat) : pow (b : Int) (x : Int) (P : Int) = (((b ^ x % P : Nat) : Int), 0) := by
  by_cases h0 : (b : Int) % (P : Int) = 0
  · rcases Nat.eq_zero_or_pos x with rfl | hx
    · have h1 := pow_z0 hP h0
      rw [show ((0 : Nat) : Int) = 0 from rfl, h1, Nat.pow_zero, Nat.mod_eq_of_lt (by have := hp.two; omega)]; rfl
    · rw [pow_zp hP h0 (by omega)]
      have h2 : P ∣ b := Nat.dvd_of_mod_eq_zero (by omega)
      have h3 : b ^ x % P = 0 := Nat.mod_eq_zero_of_dvd (Nat.dvd_trans h2 ⟨b ^ (x - 1), by rw [← Nat.pow_succ']; congr 1; omega⟩)
      rw [h3]; rfl
  · rw [pow_t hP h0]
    have hnd := not_dvd_of_mod h0
    have h2 := hp.two
    have e1 : ((x : Int) % ((P : Int) - 1)).toNat = x % (P - 1) := by
      have : (P : Int) - 1 = ((P - 1 : Nat) : Int) := by omega
      rw [this]; exact modN
    have : pwI ((b : Int) % (P : Int)) ((x : Int) % ((P : Int) - 1)) (P : Int) = ((b ^ x % P : Nat) : Int) := by
      unfold pwI
      rw [modN, e1, Int.toNat_natCast, pw_mod, ← pw_red hp hnd]; rfl
    rw [this]

/-- Inv at naturals -/
theorem inv_nat {P : Nat} (hP : isB (P : Int) = true) (hp : Pr P) {a : Nat} (h1 : 1 ≤ a) (h2 : a < P) : ∃ i : Nat, inv (a : Int) (P : Int) = ((i : Int), 0) ∧ i < P ∧ a * i % P = 1 := by
  have h0 : (a : Int) % (P : Int) ≠ 0 := by
    rw [Int.emod_eq_of_lt (by omega) (by omega)]; omega
  have hP2 := hp.two
  refine ⟨pw a (P - 2) P, ?_, pw_lt (by omega), ?_⟩
  · rw [inv_t hP h0]
    unfold pwI
    rw [modN, Int.toNat_natCast, pw_mod, show ((P : Int) - 2).toNat = P - 2 from by omega]
  · unfold pw
    rw [Nat.mul_mod, Nat.mod_mod, ← Nat.mul_mod, ← Nat.pow_succ', show (P - 2).succ = P - 1 from by omega]
    exact hp.fermat (not_dvd_of_lt h1 h2)
/-- Pow of a negative exponent -/
theorem pow_neg {P : Nat} (hP : isB (P : Int) = true) (hp : Pr P) {a : Nat} (h1 : 1 ≤ a) (h2 : a < P) (x : Nat) :
    ∃ l : Nat, pow (a : Int) (-(x : Int)) (P : Int) = ((l : Int), 0) ∧ l < P ∧ l * (a ^ x % P) % P = 1 := by
  have h0 : (a : Int) % (P : Int) ≠ 0 := by
    rw [Int.emod_eq_of_lt (by omega) (by omega)]; omega
  have hP2 := hp.two
  have hm0 := Int.emod_nonneg (-(x : Int)) (by omega : (P : Int) - 1 ≠ 0)
  obtain ⟨m, hm⟩ := Int.eq_ofNat_of_zero_le hm0
  refine ⟨pw a m P, ?_, pw_lt (by omega), ?_⟩
  · rw [pow_t hP h0, hm]
    unfold pwI
    rw [modN, Int.toNat_natCast, Int.toNat_natCast, pw_mod]
  · unfold pw
    rw [← Nat.mul_mod, ← Nat.pow_add]
    have hd : ((P - 1 : Nat) : Int) ∣ ((m + x : Nat) : Int) := by
      have : ((m + x : Nat) : Int) = (-(x : Int)) % ((P : Int) - 1) - (-(x : Int)) := by rw [hm]; omega
      rw [this, show ((P - 1 : Nat) : Int) = (P : Int) - 1 from by omega]
      exact Int.dvd_emod_sub_self
    obtain ⟨c, hc⟩ := Int.natCast_dvd_natCast.1 hd
    rw [hc]
    exact mul_pow_mod (hp.fermat (not_dvd_of_lt h1 h2)) hP2
theorem ord_nat {P : Nat} (hP : isB (P : Int) = true) (hp : Pr P) {a : Nat} (h1 : 1 ≤ a) (h2 : a < P) : ordS (a : Int) (P : Int) = (((ord a P : Nat) : Int), 0) := by
  have _ := hp
  rw [ordS_t hP (by rw [Int.emod_eq_of_lt (by omega) (by omega)]; omega), modN, Nat.mod_eq_of_lt h2]; rfl
/-- what PrimeField asks -/
theorem field_facts {P A B X Y : Nat} (hp : Pr P) (h1 : 1 ≤ A) (h2 : A < P) :
    (A ^ X % P) * (A ^ Y % P) % P = A ^ (X + Y) % P ∧ (A ^ X % P) ^ Y % P = A ^ (X * Y) % P ∧ (A ^ X % P) * (B ^ X % P) % P = (A * B) ^ X % P ∧ A ^ (P - 1) % P = 1 ∧
    1 ≤ ord A P ∧ (P - 1) % ord A P = 0 ∧ ord A P ≤ P - 1 ∧ ∀ t, 1 ≤ t → t ≤ ord A P → (A ^ t % P = 1 ↔ t = ord A P) := by
  have hnd := not_dvd_of_lt h1 h2
  obtain ⟨ho, hle⟩ := hp.ord hnd
  refine ⟨by rw [← Nat.mul_mod, ← Nat.pow_add], by rw [← Nat.pow_mod, Nat.pow_mul], by rw [← Nat.mul_mod, Nat.mul_pow], hp.fermat hnd, ho.pos, ?_, hle, fun t t1 t2 => ⟨fun h => ?_, fun h => h ▸ ho.one⟩⟩
  · exact Nat.mod_eq_zero_of_dvd ((ho.iff hp.two _).1 (hp.fermat hnd))
  · rcases Nat.lt_or_ge t (ord A P) with h3 | h3
    · exact absurd h (ho.least t t1 h3)
    · omega
end Go.Proofs.Pm
