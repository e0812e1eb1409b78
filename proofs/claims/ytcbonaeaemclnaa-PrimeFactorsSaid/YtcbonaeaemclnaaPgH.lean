/- Lemmas and contracts on the way to the statement; no condition of their own beyond those written. -/
import Derived.Test.YtcbonaeaemclnaaPgG
import Derived.Test.YtcbonaeaemclnaaPmP
namespace Go.Proofs.Pm

theorem nxAux_spec : ∀ f k, (∃ p : Nat, k < p ∧ p ≤ k + f ∧ isB (p : Int) = true) →
    ∃ p : Nat, nxAux f k = ((p : Int), 0) ∧ k < p ∧ p ≤ k + f ∧ isB (p : Int) = true ∧ ∀ j : Nat, k < j → j < p → isB (j : Int) = false
  | 0, k, ⟨p, a, b, _⟩ => by omega
  | f + 1, k, ⟨p, a, b, c⟩ => by
    rw [nxAux]
    by_cases h : isB ((k + 1 : Nat) : Int) = true
    · rw [if_pos h]
      exact ⟨k + 1, rfl, by omega, by omega, h, fun j h1 h2 => by omega⟩
    · rw [if_neg h]
      have hne : p ≠ k + 1 := fun e => h (e ▸ c)
      obtain ⟨q, e1, e2, e3, e4, e5⟩ := nxAux_spec f (k + 1) ⟨p, by omega, by omega, c⟩
      refine ⟨q, e1, by omega, by omega, e4, fun j h1 h2 => ?_⟩
      rcases Nat.lt_or_ge (k + 1) j with h3 | h3
      · exact e5 j h3 h2
      · obtain rfl : j = k + 1 := by omega
        simpa using h
theorem isB_one : isB ((1 : Nat) : Int) = false := by decide +kernel
/-- Next, below 900000 -/
theorem next_facts {k : Nat} (hk : k < 900000) : ∃ p : Nat, nx (k : Int) = ((p : Int), 0) ∧ k < p ∧ p ≤ k + 200 ∧ isB (p : Int) = true ∧ ∀ j : Nat, k < j → j < p → isB (j : Int) = false := by
  obtain ⟨p, a, b, c⟩ := gap_ex hk
  have hp := isB_bd c
  have hk0 : (max (k : Int) 1).toNat = max k 1 := by omega
  have h1 : nx (k : Int) = nxAux (999999 - max k 1) (max k 1) := by unfold nx; rw [hk0]
  have hp1 : max k 1 < p := by omega
  obtain ⟨q, e1, e2, e3, e4, e5⟩ := nxAux_spec (999999 - max k 1) (max k 1) ⟨p, hp1, by omega, c⟩
  have hqp : q ≤ p := by
    apply Classical.byContradiction
    intro h
    have := e5 p hp1 (by omega)
    rw [this] at c; cases c
  refine ⟨q, by rw [h1, e1], by omega, by omega, e4, fun j j1 j2 => ?_⟩
  rcases Nat.lt_or_ge (max k 1) j with h3 | h3
  · exact e5 j h3 j2
  · obtain rfl : j = 1 := by omega
    exact isB_one

/-- how far PrimeFactors has gone through the factors -/
structure TInv (M m last : Nat) (pre : List (Nat × Nat)) : Prop where
  eq : facs M = pre ++ facs m
  pos : 1 ≤ m
  le : m ≤ M
  no : ∀ e, 2 ≤ e → e ≤ last → m % e ≠ 0 ∨ m ≤ 1
theorem TInv.start {M : Nat} (h : 1 ≤ M) : TInv M M 1 [] := ⟨rfl, h, Nat.le_refl _, fun e a b => by omega⟩
theorem TInv.round {M m last : Nat} {pre : List (Nat × Nat)} (h : TInv M m last pre) (hi : pre.length < (facs M).length) :
    ∃ p k m' : Nat, (facs M)[pre.length]? = some (p, k) ∧ Pr p ∧ last < p ∧ p ≤ m ∧ 1 ≤ k ∧ m = p ^ k * m' ∧ 1 ≤ m' ∧ TInv M m' p (pre ++ [(p, k)]) := by
  have hm2 : 2 ≤ m := by
    apply Classical.byContradiction
    intro h1
    rw [h.eq, facs_one (n := m) (by omega)] at hi
    simp at hi
  obtain ⟨m1, m2, m3⟩ := mu_lt hm2
  obtain ⟨e1, e2, e3⟩ := mu_ex (lf_spec hm2).1 (by omega : 1 ≤ m)
  have hs := facs_step hm2
  obtain ⟨hp, hpd⟩ := lf_pr hm2
  have hls := (lf_spec hm2).2
  generalize lf m = p at *
  generalize (mu p m m).2 = k at *
  generalize (mu p m m).1 = m' at *
  have heq := h.eq
  rw [hs] at heq
  refine ⟨p, k, m', by rw [heq]; simp, hp, ?_, Nat.le_of_dvd (by omega) hpd, m2, e1, m3, ?_, m3, by have := h.le; omega, fun e a b => ?_⟩
  · apply Classical.byContradiction
    intro h1
    rcases h.no p hp.two (by omega) with h2 | h2
    · exact h2 (Nat.mod_eq_zero_of_dvd hpd)
    · omega
  · rw [heq]; simp
  · rcases Nat.lt_or_ge 1 m' with h5 | h5
    · left
      intro h6
      have hd : m % e = 0 := Nat.mod_eq_zero_of_dvd (Nat.dvd_trans (Nat.dvd_of_mod_eq_zero h6) ⟨p ^ k, by rw [e1, Nat.mul_comm]⟩)
      have := hls.2 e a hd
      obtain rfl : e = p := by omega
      exact e3 h6
    · exact .inr h5
theorem TInv.end {M m last : Nat} {pre : List (Nat × Nat)} (h : TInv M m last pre) (hi : ¬ pre.length < (facs M).length) : m = 1 := by
  apply Classical.byContradiction
  intro h1
  have hm2 : 2 ≤ m := by have := h.pos; omega
  apply hi
  rw [h.eq, facs_step hm2]; simp
end Go.Proofs.Pm
