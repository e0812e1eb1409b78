/- Lemmas and contracts on the way to the statement; no condition of their own beyond those written. -/
import Derived.Test.YtcbonaeaemclnaaPfC
namespace Go.Proofs.Pm

def sqB (P x : Nat) : Bool := decide (sym (x : Int) (P : Int) = (1, 0))
/-- how many squares lie in 1 .. n -/
def cnt (P : Nat) : Nat → Nat
  | 0 => 0
  | n + 1 => if sqB P (n + 1) = true then cnt P n + 1 else cnt P n
theorem cnt_yes {P n : Nat} (h : sqB P (n + 1) = true) : cnt P (n + 1) = cnt P n + 1 := by rw [cnt, if_pos h]
theorem cnt_no {P n : Nat} (h : sqB P (n + 1) = false) : cnt P (n + 1) = cnt P n := by rw [cnt, if_neg (by rw [h]; decide)]
theorem cnt_le (P : Nat) : ∀ n, cnt P n ≤ n
  | 0 => Nat.le_refl _
  | n + 1 => by have := cnt_le P n; rw [cnt]; split <;> omega
theorem cnt_list (P : Nat) : ∀ n, cnt P n = (List.range' 1 n).countP (sqB P)
  | 0 => rfl
  | n + 1 => by
    rw [cnt, cnt_list P n, List.range'_concat, List.countP_append, List.countP_cons, List.countP_nil, Nat.one_mul, Nat.add_comm 1 n]
    split <;> simp

theorem odd_of {P : Nat} (hp : Pr P) (h : P ≠ 2) : (P - 1) % 2 = 0 ∧ 3 ≤ P := by
  have h2 := hp.two
  rcases Nat.mod_two_eq_zero_or_one P with h1 | h1
  · exfalso
    have := hp.least 2 (by omega) (Nat.dvd_of_mod_eq_zero h1)
    omega
  · omega

theorem sq_yes {P x : Nat} (hP : isB (P : Int) = true) (_ : Pr P) (h1 : 1 ≤ x) (h2 : x < P) (h : sqB P x = true) :
    ∃ r : Nat, sqrt (x : Int) (P : Int) = ((r : Int), 0) ∧ r * r % P = x ∧ 2 * r ≤ P ∧ r < P := by
  have hs : sym (x : Int) (P : Int) = (1, 0) := by simpa [sqB] using h
  have hx : (x : Int) % (P : Int) = (x : Int) := Int.emod_eq_of_lt (by omega) (by omega)
  have h0 : (x : Int) % (P : Int) ≠ 0 := by omega
  have hc : ∀ y : Nat, (y : Int) * y % (P : Int) = ((y * y % P : Nat) : Int) := fun y => by simp
  have : (sqrt (x : Int) (P : Int)).2 = 0 := by
    rcases sym_sqrt hP h0 with h3 | h3
    · exact h3.2
    · rw [h3.1] at hs; simp at hs
  have hex : ∃ y : Nat, y < (P : Int).toNat ∧ (y : Int) * y % (P : Int) = (x : Int) % (P : Int) := by
    apply Classical.byContradiction
    intro hn
    rw [sqrt_no hP fun y hy hc => hn ⟨y, hy, hc⟩] at this
    simp at this
  obtain ⟨r, e1, e2, e3, e4⟩ := sqrt_yes hP hex
  rw [Int.toNat_natCast] at e3
  rw [hx, hc] at e2
  have hrr : r * r % P = x := by omega
  refine ⟨r, e1, hrr, ?_, e3⟩
  rcases Nat.lt_or_ge P (2 * r) with h4 | h4
  · exfalso
    refine e4 (P - r) (by omega) ?_
    rw [hx, hc, ← hrr]
    congr 1
    have e5 : (P - r) * (P - r) + P * (2 * r) = r * r + P * P := by
      have e6 : (P : Int) - r = ((P - r : Nat) : Int) := by omega
      have e7 : ((P - r : Nat) : Int) * ((P - r : Nat) : Int) + P * (2 * r) = r * r + P * P := by
        rw [← e6, Int.sub_mul, Int.mul_sub, Int.mul_sub, Int.mul_comm (r : Int) (P : Int), Int.mul_left_comm (P : Int) 2 (r : Int)]
        omega
      exact_mod_cast e7
    have e8 := congrArg (· % P) e5
    simpa [Nat.add_mul_mod_self_left] using e8
  · exact h4
theorem sq_no {P x : Nat} (hP : isB (P : Int) = true) (h1 : 1 ≤ x) (h2 : x < P) (h : sqB P x = false) :
    sqrt (x : Int) (P : Int) = (0, 18) ∧ sym (x : Int) (P : Int) = (-1, 0) := by
  have hs : ¬ sym (x : Int) (P : Int) = (1, 0) := by simpa [sqB] using h
  have h0 : (x : Int) % (P : Int) ≠ 0 := by rw [Int.emod_eq_of_lt (by omega) (by omega)]; omega
  rcases sym_sqrt hP h0 with h3 | h3
  · exact absurd h3.1 hs
  · exact ⟨h3.2, h3.1⟩

/-- Symbol and the power (p-1)/2 -/
theorem sym_nat {P : Nat} (hP : isB (P : Int) = true) (hp : Pr P) (h3 : P ≠ 2) (a : Nat) :
    ∃ s : Int, sym (a : Int) (P : Int) = (s, 0) ∧ (s = 0 ∨ s = 1 ∨ s = -1) ∧ ((a ^ ((P - 1) / 2) % P : Nat) : Int) = (s + P) % P := by
  obtain ⟨ho, hP3⟩ := odd_of hp h3
  by_cases h0 : (a : Int) % (P : Int) = 0
  · refine ⟨0, sym_z hP h0, .inl rfl, ?_⟩
    have h2 : P ∣ a := Nat.dvd_of_mod_eq_zero (by omega)
    have : a ^ ((P - 1) / 2) % P = 0 := Nat.mod_eq_zero_of_dvd (Nat.dvd_trans h2 ⟨a ^ ((P - 1) / 2 - 1), by rw [← Nat.pow_succ']; congr 1; omega⟩)
    rw [this]; simp
  · have hnd := not_dvd_of_mod h0
    have hpw : pwI ((a : Int) % (P : Int)) (((P : Int) - 1) / 2) (P : Int) = ((a ^ ((P - 1) / 2) % P : Nat) : Int) := by
      unfold pwI
      rw [modN, Int.toNat_natCast, pw_mod, show (((P : Int) - 1) / 2).toNat = (P - 1) / 2 by omega]; rfl
    have hsq : (a ^ ((P - 1) / 2) % P) * (a ^ ((P - 1) / 2) % P) % P = 1 := by
      rw [← Nat.mul_mod, ← Nat.pow_add, show (P - 1) / 2 + (P - 1) / 2 = P - 1 by omega]; exact hp.fermat hnd
    have hlt : a ^ ((P - 1) / 2) % P < P := Nat.mod_lt _ (by omega)
    generalize hE : a ^ ((P - 1) / 2) % P = e at *
    by_cases h1 : e = 1
    · refine ⟨1, sym_1 hP h0 (by omega) (by rw [hpw, h1]; rfl), .inr (.inl rfl), ?_⟩
      rw [h1, Int.add_emod_right, Int.emod_eq_of_lt (by omega) (by omega)]; rfl
    · refine ⟨-1, sym_m hP h0 (by omega) (by rw [hpw]; omega), .inr (.inr rfl), ?_⟩
      rw [Int.emod_eq_of_lt (by omega) (by omega)]
      have he1 : 1 ≤ e := by
        rcases Nat.eq_zero_or_pos e with h | h
        · rw [h] at hsq; simp at hsq
        · exact h
      have h5 : e * e = (e - 1) * (e + 1) + 1 := by
        obtain ⟨f, rfl⟩ : ∃ f, e = f + 1 := ⟨e - 1, by omega⟩
        simp only [Nat.add_sub_cancel, Nat.add_mul, Nat.mul_add]; omega
      have h6 : P ∣ (e - 1) * (e + 1) := by
        have := dvd_sub_of_mod (a := 1) (b := e * e) (p := P) (by rw [hsq, Nat.mod_eq_of_lt (by omega)]) (by omega)
        rwa [h5, Nat.add_sub_cancel] at this
      rcases hp.euclid h6 with h7 | h7
      · have := Nat.le_of_dvd (by omega) h7; omega
      · have := Nat.le_of_dvd (by omega) h7; omega
theorem sym_mul {P : Nat} (hp : Pr P) (h3 : P ≠ 2) {a b : Nat} {s t u : Int} (hs : s = 0 ∨ s = 1 ∨ s = -1) (ht : t = 0 ∨ t = 1 ∨ t = -1) (hu : u = 0 ∨ u = 1 ∨ u = -1)
    (ea : ((a ^ ((P - 1) / 2) % P : Nat) : Int) = (s + P) % P) (eb : ((b ^ ((P - 1) / 2) % P : Nat) : Int) = (t + P) % P) (eu : (((a * b) ^ ((P - 1) / 2) % P : Nat) : Int) = (u + P) % P) : s * t = u := by
  obtain ⟨_, hP3⟩ := odd_of hp h3
  have hm : (a * b) ^ ((P - 1) / 2) % P = (a ^ ((P - 1) / 2) % P) * (b ^ ((P - 1) / 2) % P) % P := by rw [← Nat.mul_mod, Nat.mul_pow]
  rw [hm, Int.natCast_emod, Int.natCast_mul, ea, eb, ← Int.mul_emod] at eu
  rw [Int.add_emod_right] at eu
  have h4 : (s * t) % (P : Int) = u % (P : Int) := by
    rw [← eu, Int.mul_emod, ← Int.add_emod_right s, ← Int.add_emod_right t, ← Int.mul_emod]
  have h5 : (P : Int) ∣ s * t - u := Int.dvd_of_emod_eq_zero (Int.emod_eq_emod_iff_emod_sub_eq_zero.1 h4)
  have hst : s * t = 0 ∨ s * t = 1 ∨ s * t = -1 := by
    rcases hs with rfl | rfl | rfl <;> rcases ht with rfl | rfl | rfl <;> decide
  obtain ⟨q, hq⟩ := h5
  have hq0 : q = 0 := by
    rcases Int.lt_trichotomy q 0 with h | h | h
    · have : (P : Int) * q ≤ P * (-1) := Int.mul_le_mul_of_nonneg_left (by omega) (by omega)
      omega
    · exact h
    · have : (P : Int) * 1 ≤ P * q := Int.mul_le_mul_of_nonneg_left (by omega) (by omega)
      omega
  rw [hq0] at hq; omega

theorem count_even : ∀ m, (List.range (2 * m)).countP (fun k => decide (k % 2 = 0)) = m
  | 0 => rfl
  | m + 1 => by
    rw [show 2 * (m + 1) = 2 * m + 1 + 1 by omega, List.range_succ, List.range_succ, List.countP_append, List.countP_append, count_even m]
    simp
/-- half of the residues are squares -/
theorem cnt_half {P : Nat} (hP : isB (P : Int) = true) (hp : Pr P) (h3 : P ≠ 2) : 2 * cnt P (P - 1) = P - 1 := by
  obtain ⟨ho, hP3⟩ := odd_of hp h3
  have hr := hp.rt
  have hg := not_dvd_of_lt hr.pos hr.lt
  rw [cnt_list, ← (powers_perm hp hg hr.ord).countP_eq, List.countP_map]
  have hce := count_even ((P - 1) / 2)
  rw [show 2 * ((P - 1) / 2) = P - 1 by omega] at hce
  have : List.countP (sqB P ∘ fun k => rt P ^ k % P) (List.range (P - 1)) = List.countP (fun k => decide (k % 2 = 0)) (List.range (P - 1)) := by
    refine List.countP_congr fun k hk => ?_
    rw [List.mem_range] at hk
    simp only [Function.comp]
    obtain ⟨s, e1, e2, e3⟩ := sym_nat hP hp h3 (rt P ^ k % P)
    have e4 : (rt P ^ k % P) ^ ((P - 1) / 2) % P = pw (rt P) (k * ((P - 1) / 2)) P := by
      unfold pw; rw [← Nat.pow_mod, Nat.pow_mul]
    rw [e4] at e3
    have e5 : sqB P (rt P ^ k % P) = true ↔ s = 1 := by unfold sqB; rw [decide_eq_true_eq, e1]; simp
    have e6 : s = 1 ↔ pw (rt P) (k * ((P - 1) / 2)) P = 1 := by
      rcases e2 with rfl | rfl | rfl
      · rw [Int.add_emod_right] at e3; simp at e3; omega
      · rw [Int.add_emod_right, Int.emod_eq_of_lt (by omega) (by omega)] at e3; omega
      · rw [Int.emod_eq_of_lt (by omega) (by omega)] at e3; omega
    have e7 : pw (rt P) (k * ((P - 1) / 2)) P = 1 ↔ k % 2 = 0 := by
      constructor
      · intro h
        have h4 := dvd_of_pw hp hg h
        rw [hr.ord] at h4
        rcases Nat.mod_two_eq_zero_or_one k with h5 | h5
        · exact h5
        · exfalso
          have h6 : k * ((P - 1) / 2) = (P - 1) * (k / 2) + (P - 1) / 2 := by
            conv => lhs; rw [show k = 2 * (k / 2) + 1 by omega]
            conv => rhs; rw [show P - 1 = 2 * ((P - 1) / 2) by omega]
            have e9 : ∀ L M : Nat, (2 * L + 1) * M = 2 * M * L + 2 * M / 2 := fun L M => by
              rw [Nat.add_mul, Nat.one_mul, Nat.mul_assoc, Nat.mul_comm L M, ← Nat.mul_assoc]; omega
            exact e9 _ _
          rw [h6] at h4
          have h7 := (Nat.dvd_add_right (Nat.dvd_mul_right (P - 1) (k / 2))).1 h4
          have := Nat.le_of_dvd (by omega) h7
          omega
      · intro h
        refine pw_of_dvd hp hg ?_
        rw [hr.ord]
        refine ⟨k / 2, ?_⟩
        conv => lhs; rw [show k = 2 * (k / 2) by omega]
        conv => rhs; rw [show P - 1 = 2 * ((P - 1) / 2) by omega]
        have e9 : ∀ L M : Nat, 2 * L * M = 2 * M * L := fun L M => by rw [Nat.mul_assoc, Nat.mul_comm L M, ← Nat.mul_assoc]
        exact e9 _ _
    rw [e5, e6, e7, decide_eq_true_eq]
  rw [this, hce]; omega
theorem cnt_two : cnt 2 1 = 1 := by decide +kernel
end Go.Proofs.Pm
