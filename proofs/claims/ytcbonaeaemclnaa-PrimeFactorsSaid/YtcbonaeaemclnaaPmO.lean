/- Lemmas and contracts on the way to the statement; no condition of their own beyond those written. -/
import Derived.Test.YtcbonaeaemclnaaPmN
namespace Go.Proofs.Pm

/-! ### monic polynomials with integer coefficients, and their roots modulo a prime -/
def ev : List Int → Int → Int
  | [], _ => 1
  | a :: t, x => a + x * ev t x
/-- t + r * s, where s is one shorter -/
def comb (r : Int) : List Int → List Int → List Int
  | a :: t, b :: s => (a + r * b) :: comb r t s
  | [a], [] => [a + r]
  | t, _ => t
def qt (r : Int) : List Int → List Int
  | [] => []
  | [_] => []
  | _ :: b :: t => comb r (b :: t) (qt r (b :: t))
theorem comb_len (r : Int) : ∀ t s : List Int, t.length = s.length + 1 → (comb r t s).length = t.length
  | [], _, h => by simp at h
  | [a], [], _ => rfl
  | a :: t, b :: s, h => by simp [comb]; exact comb_len r t s (by simpa using h)
  | a :: b :: t, [], h => by simp at h
theorem comb_ev (r x : Int) : ∀ t s : List Int, t.length = s.length + 1 → ev (comb r t s) x = ev t x + r * ev s x
  | [], _, h => by simp at h
  | [a], [], _ => by simp [comb, ev]; omega
  | a :: t, b :: s, h => by
    have ih := comb_ev r x t s (by simpa using h)
    simp only [comb, ev, ih]
    rw [Int.mul_add, Int.mul_add, Int.mul_left_comm x r]
    omega
  | a :: b :: t, [], h => by simp at h
theorem qt_len (r : Int) : ∀ c : List Int, c ≠ [] → (qt r c).length + 1 = c.length
  | [], h => absurd rfl h
  | [_], _ => rfl
  | _ :: b :: t, _ => by
    have ih := qt_len r (b :: t) (by simp)
    rw [qt, comb_len r _ _ ih.symm]; simp
theorem qt_ev (r x : Int) : ∀ c : List Int, c ≠ [] → ev c x - ev c r = (x - r) * ev (qt r c) x
  | [], h => absurd rfl h
  | [a], _ => by simp [ev, qt]; omega
  | a :: b :: t, _ => by
    have ih := qt_ev r x (b :: t) (by simp)
    have hl := qt_len r (b :: t) (by simp)
    rw [qt, comb_ev r x _ _ hl.symm]
    generalize hA : ev (b :: t) x = A at *
    generalize hB : ev (b :: t) r = B at *
    generalize hC : ev (qt r (b :: t)) x = C at *
    have h1 : ev (a :: b :: t) x = a + x * A := by rw [← hA]; rfl
    have h2 : ev (a :: b :: t) r = a + r * B := by rw [← hB]; rfl
    rw [h1, h2, Int.mul_add]
    have h3 : (x - r) * (r * C) = r * (A - B) := by rw [ih, Int.mul_left_comm]
    rw [h3, Int.mul_sub, Int.sub_mul]
    omega

theorem Pr.euclidI {p : Nat} (hp : Pr p) {a b : Int} (h : (p : Int) ∣ a * b) : (p : Int) ∣ a ∨ (p : Int) ∣ b := by
  rw [← Int.natAbs_dvd_natAbs, Int.natAbs_mul, Int.natAbs_natCast] at h
  rw [← Int.natAbs_dvd_natAbs, ← Int.natAbs_dvd_natAbs, Int.natAbs_natCast]
  exact hp.euclid h

/-- a monic polynomial of degree n has at most n roots modulo a prime -/
theorem Pr.roots {p : Nat} (hp : Pr p) : ∀ (n : Nat) (c : List Int), c.length = n → ∀ xs : List Int,
    xs.Pairwise (fun x y => ¬ (p : Int) ∣ y - x) → (∀ x, x ∈ xs → (p : Int) ∣ ev c x) → xs.length ≤ n
  | n, c, hc, [], _, _ => by simp
  | 0, c, hc, r :: xs, _, h => by
    have : c = [] := List.length_eq_zero_iff.1 hc
    have h1 := h r (by simp)
    rw [this] at h1
    have h2 : (p : Int) ≤ 1 := Int.le_of_dvd (by decide) h1
    have := hp.two
    omega
  | n + 1, c, hc, r :: xs, hd, h => by
    have hne : c ≠ [] := by intro e; rw [e] at hc; simp at hc
    have hl := qt_len r c hne
    rw [List.pairwise_cons] at hd
    have := Pr.roots hp n (qt r c) (by omega) xs hd.2 (fun x hx => by
      have h1 := h r (by simp)
      have h2 := h x (by simp [hx])
      have h3 := qt_ev r x c hne
      have h4 : (p : Int) ∣ (x - r) * ev (qt r c) x := by rw [← h3]; exact Int.dvd_sub h2 h1
      rcases hp.euclidI h4 with h5 | h5
      · exact absurd h5 (hd.1 x hx)
      · exact h5)
    simp; omega

theorem ev_zeros (x : Int) : ∀ n, ev (List.replicate n 0) x = x ^ n
  | 0 => by simp [ev]
  | n + 1 => by rw [List.replicate_succ, ev, ev_zeros x n, Int.pow_succ, Int.mul_comm]; omega

/-- some residue's power d is not 1 -/
theorem Pr.some_not {p d : Nat} (hp : Pr p) (hd : 1 ≤ d) (h : d < p - 1) : ∃ a, 1 ≤ a ∧ a < p ∧ a ^ d % p ≠ 1 := by
  apply Classical.byContradiction
  intro hn
  have hall : ∀ a, 1 ≤ a → a < p → a ^ d % p = 1 := by
    intro a h1 h2
    apply Classical.byContradiction
    intro h3
    exact hn ⟨a, h1, h2, h3⟩
  have := hp.roots d ((-1) :: List.replicate (d - 1) 0) (by simp; omega) ((List.range' 1 (p - 1)).map fun (i : Nat) => (i : Int)) (by
    rw [List.pairwise_map]
    refine List.Pairwise.imp_of_mem (R := fun a b => a < b) ?_ (List.pairwise_lt_range' 1)
    intro a b ha hb hab hdv
    rw [List.mem_range'_1] at ha hb
    have := Int.le_of_dvd (by omega) hdv
    omega) (by
    intro x hx
    obtain ⟨i, hi, rfl⟩ := List.mem_map.1 hx
    rw [List.mem_range'_1] at hi
    have h1 := hall i (by omega) (by omega)
    have h2 : ev ((-1) :: List.replicate (d - 1) 0) (i : Int) = ((i ^ d : Nat) : Int) - 1 := by
      rw [ev, ev_zeros]
      rw [show d = (d - 1) + 1 from by omega]
      simp only [Nat.add_sub_cancel]
      rw [Nat.pow_succ, Int.natCast_mul, Int.natCast_pow, Int.mul_comm]; omega
    rw [h2]
    have h3 : i ^ d = 1 + p * (i ^ d / p) := by have := Nat.mod_add_div (i ^ d) p; omega
    rw [h3]
    refine ⟨((i ^ d / p : Nat) : Int), ?_⟩
    rw [Int.natCast_add, Int.natCast_mul]; omega)
  simp at this
  omega

/-! ### orders -/
structure IsOrd (a p k : Nat) : Prop where
  pos : 1 ≤ k
  one : a ^ k % p = 1
  least : ∀ j, 1 ≤ j → j < k → a ^ j % p ≠ 1

theorem IsOrd.unique {a p k l : Nat} (h : IsOrd a p k) (g : IsOrd a p l) : k = l := by
  rcases Nat.lt_trichotomy k l with h1 | h1 | h1
  · exact absurd h.one (g.least k h.pos h1)
  · exact h1
  · exact absurd g.one (h.least l g.pos h1)

def ordAux (a p : Nat) : Nat → Nat → Nat
  | 0, k => k
  | f + 1, k => if a ^ k % p = 1 then k else ordAux a p f (k + 1)
def ord (a p : Nat) : Nat := ordAux a p p 1

theorem ordAux_spec {a p n : Nat} (h1 : a ^ n % p = 1) : ∀ f k, k ≤ n → n < k + f → 1 ≤ k → (∀ j, 1 ≤ j → j < k → a ^ j % p ≠ 1) →
    IsOrd a p (ordAux a p f k) ∧ ordAux a p f k ≤ n
  | 0, k, h2, h3, _, _ => by omega
  | f + 1, k, h2, h3, h4, h5 => by
    rw [ordAux]
    by_cases h : a ^ k % p = 1
    · rw [if_pos h]; exact ⟨⟨h4, h, h5⟩, h2⟩
    · rw [if_neg h]
      have hne : k ≠ n := by intro e; rw [e] at h; exact h h1
      refine ordAux_spec h1 f (k + 1) (by omega) (by omega) (by omega) fun j hj hlt => ?_
      rcases Nat.lt_or_ge j k with h6 | h6
      · exact h5 j hj h6
      · obtain rfl : j = k := by omega
        exact h
theorem Pr.ord {p a : Nat} (hp : Pr p) (ha : ¬ p ∣ a) : IsOrd a p (ord a p) ∧ Pm.ord a p ≤ p - 1 := by
  have := hp.two
  exact ordAux_spec (hp.fermat ha) p 1 (by omega) (by omega) (by omega) fun j h1 h2 => by omega

theorem mul_pow_mod {a m n p : Nat} (h : a ^ m % p = 1) (hp : 2 ≤ p) : a ^ (m * n) % p = 1 := by
  rw [Nat.pow_mul, Nat.pow_mod, h, Nat.one_pow]; exact Nat.mod_eq_of_lt hp

theorem IsOrd.iff {a p k : Nat} (h : IsOrd a p k) (hp : 2 ≤ p) (n : Nat) : a ^ n % p = 1 ↔ k ∣ n := by
  constructor
  · intro hn
    have h1 : n = k * (n / k) + n % k := (Nat.div_add_mod n k).symm
    have h2 : a ^ n % p = a ^ (n % k) % p := by
      conv => lhs; rw [h1, Nat.pow_add, Nat.mul_mod, mul_pow_mod h.one hp, Nat.one_mul, Nat.mod_mod]
    have h3 : n % k < k := Nat.mod_lt _ h.pos
    rcases Nat.eq_zero_or_pos (n % k) with h4 | h4
    · exact Nat.dvd_of_mod_eq_zero h4
    · exact absurd (h2 ▸ hn) (h.least _ h4 h3)
  · rintro ⟨j, rfl⟩
    exact mul_pow_mod h.one hp

/-- products of elements with coprime orders -/
theorem IsOrd.mul {a b p m n : Nat} (ha : IsOrd a p m) (hb : IsOrd b p n) (hp : 2 ≤ p) (hc : Nat.Coprime m n) : IsOrd (a * b) p (m * n) := by
  have key : ∀ k, (a * b) ^ k % p = 1 → m * n ∣ k := by
    intro k hk
    refine Nat.Coprime.mul_dvd_of_dvd_of_dvd hc ?_ ?_
    · have h1 : (a * b) ^ (k * n) % p = 1 := mul_pow_mod hk hp
      have h2 : (a * b) ^ (k * n) % p = a ^ (k * n) % p := by
        rw [Nat.mul_pow, Nat.mul_mod, Nat.mul_comm k n, mul_pow_mod hb.one hp, Nat.mul_one, Nat.mod_mod]
      rw [h2, ha.iff hp] at h1
      exact Nat.Coprime.dvd_of_dvd_mul_right hc h1
    · have h1 : (a * b) ^ (k * m) % p = 1 := mul_pow_mod hk hp
      have h2 : (a * b) ^ (k * m) % p = b ^ (k * m) % p := by
        rw [Nat.mul_pow, Nat.mul_mod, Nat.mul_comm k m, mul_pow_mod ha.one hp, Nat.one_mul, Nat.mod_mod]
      rw [h2, hb.iff hp] at h1
      exact Nat.Coprime.dvd_of_dvd_mul_right hc.symm h1
  have hone : (a * b) ^ (m * n) % p = 1 := by
    rw [Nat.mul_pow, Nat.mul_mod, mul_pow_mod ha.one hp, Nat.mul_comm m n, mul_pow_mod hb.one hp]
    exact Nat.mod_eq_of_lt hp
  refine ⟨Nat.mul_pos ha.pos hb.pos, hone, fun j h1 h2 h3 => ?_⟩
  have := Nat.le_of_dvd h1 (key j h3)
  omega

theorem lf_pr {n : Nat} (h : 2 ≤ n) : Pr (lf n) ∧ lf n ∣ n := by
  obtain ⟨a, b, c⟩ := lf_spec h
  have hd := Nat.dvd_of_mod_eq_zero b
  refine ⟨⟨a, fun e he hde => ?_⟩, hd⟩
  exact c e he (Nat.mod_eq_zero_of_dvd (Nat.dvd_trans hde hd))

theorem Pr.eq_of_dvd {p q : Nat} (hp : Pr p) (hq : Pr q) (h : p ∣ q) : p = q := by
  have := hq.least p hp.two h
  have := Nat.le_of_dvd (by have := hq.two; omega) h
  omega

theorem Pr.dvd_pow {p q : Nat} (hp : Pr p) : ∀ e, p ∣ q ^ e → p ∣ q
  | 0, h => by
    rw [Nat.pow_zero] at h
    have := Nat.le_of_dvd (by decide) h
    have := hp.two; omega
  | e + 1, h => by
    rw [Nat.pow_succ] at h
    rcases hp.euclid h with h1 | h1
    · exact hp.dvd_pow e h1
    · exact h1

/-- a divisor of a prime's power that does not divide the power before it -/
theorem Pr.pow_last {q k e : Nat} (hq : Pr q) (h : k ∣ q ^ (e + 1)) (hn : ¬ k ∣ q ^ e) : k = q ^ (e + 1) := by
  obtain ⟨j, hj⟩ := h
  have hq0 : 0 < q := by have := hq.two; omega
  have hpos : 0 < q ^ (e + 1) := Nat.pow_pos hq0
  have hj0 : j ≠ 0 := by intro h0; rw [h0] at hj; omega
  rcases Nat.lt_or_ge j 2 with h2 | h2
  · have : j = 1 := by omega
    rw [this] at hj; omega
  · exfalso
    obtain ⟨hr, hd⟩ := lf_pr h2
    have h3 : lf j ∣ q ^ (e + 1) := Nat.dvd_trans hd (hj ▸ Nat.dvd_mul_left j k)
    have h4 := hr.eq_of_dvd hq (hr.dvd_pow _ h3)
    rw [h4] at hd
    obtain ⟨i, hi⟩ := hd
    apply hn
    refine ⟨i, ?_⟩
    have h5 : q * q ^ e = q * (k * i) := by
      rw [Nat.pow_succ, Nat.mul_comm] at hj
      rw [hj, hi, Nat.mul_left_comm]
    exact Nat.eq_of_mul_eq_mul_left hq0 h5

theorem split_pow {q : Nat} (hq : 2 ≤ q) : ∀ d, 1 ≤ d → ∃ e m, d = q ^ e * m ∧ ¬ q ∣ m := by
  intro d
  induction d using Nat.strongRecOn with
  | _ d ih =>
    intro h1
    by_cases hd : q ∣ d
    · obtain ⟨j, rfl⟩ := hd
      have hj : 1 ≤ j := by
        rcases Nat.eq_zero_or_pos j with h | h
        · rw [h] at h1; simp at h1
        · exact h
      have hlt : j < q * j := by
        have : 1 * j < q * j := Nat.mul_lt_mul_of_pos_right (by omega) hj
        omega
      obtain ⟨e, m, hm, hn⟩ := ih j hlt hj
      exact ⟨e + 1, m, by rw [Nat.pow_succ, Nat.mul_comm (q ^ e) q, Nat.mul_assoc, ← hm], hn⟩
    · exact ⟨0, d, by simp, hd⟩

theorem dvd_self_pow_cop {q m : Nat} (hq : Pr q) (h : ¬ q ∣ m) (e : Nat) : Nat.Coprime (q ^ e) m :=
  Nat.Coprime.pow_left e (hq.cop h)

/-- for each divisor d of p-1 there is an element of order d -/
theorem Pr.exists_ord {p : Nat} (hp : Pr p) : ∀ d, 1 ≤ d → d ∣ p - 1 → ∃ g, 1 ≤ g ∧ IsOrd g p d := by
  have h2 := hp.two
  intro d
  induction d using Nat.strongRecOn with
  | _ d ih =>
    intro h1 hd
    rcases Nat.lt_or_ge d 2 with hd2 | hd2
    · obtain rfl : d = 1 := by omega
      exact ⟨1, by omega, by omega, by rw [Nat.one_pow]; exact Nat.mod_eq_of_lt h2, fun j a b => by omega⟩
    · obtain ⟨hq, hqd⟩ := lf_pr hd2
      generalize lf d = q at hq hqd
      obtain ⟨e, m, hem, hnm⟩ := split_pow hq.two d h1
      have he : e ≠ 0 := by
        intro h0; rw [h0, Nat.pow_zero, Nat.one_mul] at hem
        rw [hem] at hqd; exact hnm hqd
      obtain ⟨e, rfl⟩ : ∃ e', e = e' + 1 := ⟨e - 1, by omega⟩
      have hqp : 2 ≤ q ^ (e + 1) := by
        have := Nat.pow_le_pow_right (n := q) (by have := hq.two; omega) (show 1 ≤ e + 1 by omega)
        rw [Nat.pow_one] at this; have := hq.two; omega
      have hm1 : 1 ≤ m := by
        rcases Nat.eq_zero_or_pos m with h | h
        · rw [h] at hem; omega
        · exact h
      have hmd : m < d := by
        have : 1 * m < q ^ (e + 1) * m := Nat.mul_lt_mul_of_pos_right (by omega) hm1
        omega
      obtain ⟨h, hh1, hh⟩ := ih m hmd hm1 (Nat.dvd_trans ⟨q ^ (e + 1), by rw [hem, Nat.mul_comm]⟩ hd)
      -- an element of order q^(e+1)
      have hqe : q ^ (e + 1) ∣ p - 1 := Nat.dvd_trans ⟨m, hem⟩ hd
      obtain ⟨r, hr⟩ := hqe
      have hr1 : 1 ≤ r := by
        rcases Nat.eq_zero_or_pos r with h | h
        · rw [h] at hr; omega
        · exact h
      have hlt : q ^ e * r < p - 1 := by
        rw [hr, Nat.pow_succ]
        have h3 : q ^ e * r < q ^ e * r * q := by
          have h4 : 0 < q ^ e * r := Nat.mul_pos (Nat.pow_pos (by have := hq.two; omega)) hr1
          have : q ^ e * r * 1 < q ^ e * r * q := Nat.mul_lt_mul_of_pos_left (by have := hq.two; omega) h4
          omega
        rw [Nat.mul_right_comm]; exact h3
      obtain ⟨a, a1, a2, a3⟩ := hp.some_not (d := q ^ e * r) (Nat.mul_pos (Nat.pow_pos (by have := hq.two; omega)) hr1) hlt
      have hpa : ¬ p ∣ a := not_dvd_of_lt a1 a2
      have hb1 : (a ^ r) ^ (q ^ (e + 1)) % p = 1 := by
        rw [← Nat.pow_mul, Nat.mul_comm, ← hr]; exact hp.fermat hpa
      have hb2 : (a ^ r) ^ (q ^ e) % p ≠ 1 := by
        rw [← Nat.pow_mul, Nat.mul_comm]; exact a3
      have hpb : ¬ p ∣ a ^ r := fun hdv => hpa (hp.dvd_pow r hdv)
      have hob := (hp.ord hpb).1
      have hk : Pm.ord (a ^ r) p = q ^ (e + 1) := by
        refine hq.pow_last ((hob.iff h2 _).1 hb1) fun h5 => hb2 ((hob.iff h2 _).2 h5)
      rw [hk] at hob
      refine ⟨a ^ r * h, Nat.mul_pos (Nat.pow_pos a1) hh1, ?_⟩
      have := hob.mul hh h2 (dvd_self_pow_cop hq hnm (e + 1))
      rw [← hem] at this; exact this

theorem IsOrd.mod {a p k : Nat} (h : IsOrd a p k) : IsOrd (a % p) p k :=
  ⟨h.pos, by rw [← Nat.pow_mod]; exact h.one, fun j a b => by rw [← Nat.pow_mod]; exact h.least j a b⟩

theorem IsOrd.not_dvd {a p k : Nat} (h : IsOrd a p k) (_hp : Pr p) : ¬ p ∣ a := by
  intro hd
  have h1 : p ∣ a ^ k := by
    have := h.pos
    rw [show k = (k - 1) + 1 from by omega, Nat.pow_succ]
    exact Nat.dvd_trans hd (Nat.dvd_mul_left _ _)
  have := Nat.mod_eq_zero_of_dvd h1
  rw [h.one] at this; omega

/-- a primitive root exists -/
theorem Pr.exists_root {p : Nat} (hp : Pr p) : ∃ g, 1 ≤ g ∧ g < p ∧ Pm.ord g p = p - 1 := by
  have h2 := hp.two
  obtain ⟨g, hg1, hg⟩ := hp.exists_ord (p - 1) (by omega) (Nat.dvd_refl _)
  have hnd := hg.not_dvd hp
  refine ⟨g % p, ?_, Nat.mod_lt _ (by omega), ?_⟩
  · rcases Nat.eq_zero_or_pos (g % p) with h | h
    · exact absurd (Nat.dvd_of_mod_eq_zero h) hnd
    · exact h
  · exact (hp.ord (hg.mod.not_dvd hp)).1.unique hg.mod
end Go.Proofs.Pm
