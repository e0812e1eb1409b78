/- Lemmas and contracts on the way to the statement; no condition of their own beyond those written. -/
import Derived.Test.YtcbonaeaemclnaaPfA
namespace Go.Proofs.Pm

theorem rt_nat {P : Nat} (hP : isB (P : Int) = true) : rtS (P : Int) = (((rt P : Nat) : Int), 0) := rtS_t hP
theorem lg_nat {P : Nat} (hP : isB (P : Int) = true) (hp : Pr P) {a : Nat} (h : a % P ≠ 0) : lgS (a : Int) (P : Int) = (((lg (a % P) P : Nat) : Int), 0) := by
  have _ := hp
  rw [lgS_t hP (by omega), modN]; rfl
theorem mul_ne {P A B : Nat} (hp : Pr P) (h1 : 1 ≤ A) (h2 : A < P) (h3 : 1 ≤ B) (h4 : B < P) : A * B % P ≠ 0 := by
  intro h
  rcases hp.euclid (Nat.dvd_of_mod_eq_zero h) with h5 | h5
  · exact not_dvd_of_lt h1 h2 h5
  · exact not_dvd_of_lt h3 h4 h5
theorem logs_add {P A B : Nat} (hp : Pr P) (h1 : 1 ≤ A) (h2 : A < P) (h3 : 1 ≤ B) (h4 : B < P) : (lg A P + lg B P) % (P - 1) = lg (A * B % P) P := by
  have hr := hp.rt
  have hP2 := hp.two
  have hg := not_dvd_of_lt hr.pos hr.lt
  obtain ⟨a1, _, _⟩ := hp.lg h1 h2
  obtain ⟨b1, _, _⟩ := hp.lg h3 h4
  refine (lg_of hp (by have := mul_ne hp h1 h2 h3 h4; omega) (Nat.mod_lt _ (by omega)) ?_ (Nat.mod_lt _ (by omega))).symm
  have := pw_red (n := lg A P + lg B P) hp hg
  unfold pw at this
  rw [← this, Nat.pow_add, Nat.mul_mod, a1, b1]
/-- Zeta's result -/
theorem zeta_nat {P K : Nat} (hP : isB (P : Int) = true) (hp : Pr P) (hk : 1 ≤ K) (hd : (P - 1) % K = 0) :
    ∃ W : Nat, zeta (K : Int) (P : Int) = ((W : Int), 0) ∧ 1 ≤ W ∧ W < P ∧ ord W P = K := by
  have hr := hp.rt
  have hP2 := hp.two
  have hg := not_dvd_of_lt hr.pos hr.lt
  have hd' : ((P : Int) - 1) % (K : Int) = 0 := by
    have : ((P : Int) - 1) % (K : Int) = (((P - 1) % K : Nat) : Int) := by rw [Int.natCast_emod]; congr 1; omega
    rw [this, hd]; rfl
  obtain ⟨m, hm⟩ := Nat.dvd_of_mod_eq_zero hd
  have hm1 : 1 ≤ m := by
    rcases Nat.eq_zero_or_pos m with h | h
    · rw [h] at hm; omega
    · exact h
  have hdiv : (P - 1) / K = m := by rw [hm]; exact Nat.mul_div_cancel_left _ (by omega)
  have hO : IsOrd (rt P ^ m) P K := by
    have ho := (hp.ord hg).1
    rw [hr.ord] at ho
    refine ⟨hk, by rw [← Nat.pow_mul, Nat.mul_comm, ← hm]; exact ho.one, fun j j1 j2 j3 => ?_⟩
    rw [← Nat.pow_mul] at j3
    have h5 := Nat.le_of_dvd (Nat.mul_pos hm1 j1) ((ho.iff hP2 _).1 j3)
    rw [hm, Nat.mul_comm K m] at h5
    have := Nat.le_of_mul_le_mul_left h5 hm1
    omega
  have hnd := hO.mod.not_dvd hp
  refine ⟨pw (rt P) m P, ?_, ?_, pw_lt (by omega), ?_⟩
  · rw [zeta_t hP (by omega) hd']
    have : ((P : Int) - 1) / (K : Int) = ((m : Nat) : Int) := by
      rw [← hdiv, Int.natCast_ediv]; congr 1; omega
    rw [this]; rfl
  · rcases Nat.eq_zero_or_pos (pw (rt P) m P) with h | h
    · exact absurd ⟨0, by unfold pw at h; rw [h, Nat.mul_zero]⟩ hnd
    · exact h
  · exact (hp.ord hnd).1.unique hO.mod
theorem zeta_none {P K : Nat} (hP : isB (P : Int) = true) (hp : Pr P) (hk : 1 ≤ K) (hd : (P - 1) % K ≠ 0) : zeta (K : Int) (P : Int) = (0, 18) := by
  have hP2 := hp.two
  refine zeta_n hP (by omega) ?_
  have : ((P : Int) - 1) % (K : Int) = (((P - 1) % K : Nat) : Int) := by rw [Int.natCast_emod]; congr 1; omega
  rw [this]; omega
end Go.Proofs.Pm
