/- Lemmas and contracts on the way to the statement; no condition of their own beyond those written. -/
import Derived.Test.YtcbonaeaemclnaaPmO
namespace Go.Proofs.Pm

/-- take out the prime p: what is left, and how often -/
def mu (p : Nat) : Nat → Nat → Nat × Nat
  | 0, n => (n, 0)
  | f + 1, n => if n % p = 0 then ((mu p f (n / p)).1, (mu p f (n / p)).2 + 1) else (n, 0)

theorem mu_eq {p : Nat} (hp : 2 ≤ p) : ∀ k f m, 1 ≤ m → m % p ≠ 0 → k ≤ f → mu p f (p ^ k * m) = (m, k)
  | 0, f, m, _, hm, _ => by
    rw [Nat.pow_zero, Nat.one_mul]
    cases f with
    | zero => rfl
    | succ f => rw [mu, if_neg hm]
  | k + 1, f, m, h1, hm, hf => by
    obtain ⟨f, rfl⟩ : ∃ g, f = g + 1 := ⟨f - 1, by omega⟩
    have hd : p ^ (k + 1) * m = p * (p ^ k * m) := by rw [Nat.pow_succ, Nat.mul_comm (p ^ k) p, Nat.mul_assoc]
    rw [mu, hd, if_pos (Nat.mul_mod_right _ _), Nat.mul_div_cancel_left _ (by omega), mu_eq hp k f m h1 hm (by omega)]

theorem pow_ge {p : Nat} (hp : 2 ≤ p) : ∀ k, k < p ^ k
  | 0 => by simp
  | k + 1 => by
    have := pow_ge hp k
    rw [Nat.pow_succ]
    have : p ^ k * 2 ≤ p ^ k * p := Nat.mul_le_mul_left _ hp
    omega

theorem mu_of {p n m k : Nat} (hp : 2 ≤ p) (h : n = p ^ k * m) (h1 : 1 ≤ m) (hm : m % p ≠ 0) : mu p n n = (m, k) := by
  have h2 : k ≤ n := by
    have := pow_ge hp k
    have : p ^ k * 1 ≤ p ^ k * m := Nat.mul_le_mul_left _ h1
    omega
  have := mu_eq hp k n m h1 hm h2
  rw [← h] at this; exact this

theorem mu_ex {p n : Nat} (hp : 2 ≤ p) (hn : 1 ≤ n) : n = p ^ (mu p n n).2 * (mu p n n).1 ∧ 1 ≤ (mu p n n).1 ∧ (mu p n n).1 % p ≠ 0 := by
  obtain ⟨e, m, h1, h2⟩ := split_pow hp n hn
  have hm : 1 ≤ m := by
    rcases Nat.eq_zero_or_pos m with h | h
    · rw [h] at h1; omega
    · exact h
  have hm2 : m % p ≠ 0 := fun h => h2 (Nat.dvd_of_mod_eq_zero h)
  have := mu_of hp h1 hm hm2
  rw [this]; exact ⟨h1, hm, hm2⟩

def facsAux : Nat → Nat → List (Nat × Nat)
  | 0, _ => []
  | f + 1, n => if n ≤ 1 then [] else (lf n, (mu (lf n) n n).2) :: facsAux f (mu (lf n) n n).1
def facs (n : Nat) : List (Nat × Nat) := facsAux n n

theorem mu_lt {n : Nat} (h : 2 ≤ n) : (mu (lf n) n n).1 < n ∧ 1 ≤ (mu (lf n) n n).2 ∧ 1 ≤ (mu (lf n) n n).1 := by
  obtain ⟨a, b, c⟩ := lf_spec h
  obtain ⟨h1, h2, h3⟩ := mu_ex (p := lf n) a (by omega : 1 ≤ n)
  generalize (mu (lf n) n n).1 = m at *
  generalize (mu (lf n) n n).2 = k at *
  have hk : k ≠ 0 := by
    intro h0; rw [h0, Nat.pow_zero, Nat.one_mul] at h1
    rw [h1] at b
    rw [← h1] at b h3; exact h3 b
  have hp : 2 ≤ lf n ^ k := by
    have := Nat.pow_le_pow_right (n := lf n) (by omega) (show 1 ≤ k by omega)
    rw [Nat.pow_one] at this; omega
  have : 2 * m ≤ lf n ^ k * m := Nat.mul_le_mul_right _ hp
  omega

theorem facsAux_fuel : ∀ f g n, n ≤ f → n ≤ g → facsAux f n = facsAux g n
  | 0, g, n, h1, _ => by
    obtain rfl : n = 0 := by omega
    cases g with
    | zero => rfl
    | succ g => rw [facsAux, facsAux, if_pos (by omega)]
  | f + 1, g, n, h1, h2 => by
    by_cases hn : n ≤ 1
    · cases g with
      | zero => show (if n ≤ 1 then _ else _) = []; rw [if_pos hn]
      | succ g => rw [facsAux, facsAux, if_pos hn, if_pos hn]
    · obtain ⟨g, rfl⟩ : ∃ g', g = g' + 1 := ⟨g - 1, by omega⟩
      rw [facsAux, facsAux, if_neg hn, if_neg hn]
      have := (mu_lt (by omega : 2 ≤ n)).1
      rw [facsAux_fuel f g _ (by omega) (by omega)]

theorem facs_one {n : Nat} (h : n ≤ 1) : facs n = [] := by
  unfold facs
  cases n with
  | zero => rfl
  | succ n => rw [facsAux, if_pos h]
theorem facs_step {n : Nat} (h : 2 ≤ n) : facs n = (lf n, (mu (lf n) n n).2) :: facs (mu (lf n) n n).1 := by
  unfold facs
  obtain ⟨f, rfl⟩ : ∃ f, n = f + 1 := ⟨n - 1, by omega⟩
  rw [facsAux, if_neg (by omega)]
  have := (mu_lt h).1
  rw [facsAux_fuel f _ _ (by omega) (Nat.le_refl _)]
theorem facs_of {n m k : Nat} (h : 2 ≤ n) (h1 : n = lf n ^ k * m) (hm : 1 ≤ m) (hm2 : m % lf n ≠ 0) : facs n = (lf n, k) :: facs m := by
  have := mu_of (lf_spec h).1 h1 hm hm2
  rw [facs_step h, this]

theorem facs_pr : ∀ (f n : Nat), n ≤ f → ∀ x, x ∈ facs n → Pr x.1 ∧ x.1 ∣ n ∧ 1 ≤ x.2
  | 0, n, h, x, hx => by rw [facs_one (by omega)] at hx; simp at hx
  | f + 1, n, h, x, hx => by
    by_cases hn : n ≤ 1
    · rw [facs_one hn] at hx; simp at hx
    · have h2 : 2 ≤ n := by omega
      obtain ⟨m1, m2, m3⟩ := mu_lt h2
      rw [facs_step h2] at hx
      rcases List.mem_cons.1 hx with rfl | hx
      · exact ⟨(lf_pr h2).1, (lf_pr h2).2, m2⟩
      · obtain ⟨a, b, c⟩ := facs_pr f _ (by omega) x hx
        refine ⟨a, Nat.dvd_trans b ?_, c⟩
        have := (mu_ex (lf_spec h2).1 (by omega : 1 ≤ n)).1
        exact ⟨_, by rw [Nat.mul_comm]; exact this⟩

/-- every prime divisor is among the factors -/
theorem facs_all : ∀ (f n : Nat), n ≤ f → 1 ≤ n → ∀ q, Pr q → q ∣ n → ∃ k, (q, k) ∈ facs n
  | 0, n, h, h1, q, hq, hd => by omega
  | f + 1, n, h, h1, q, hq, hd => by
    by_cases hn : n ≤ 1
    · have := Nat.le_of_dvd h1 hd; have := hq.two; omega
    · have h2 : 2 ≤ n := by omega
      obtain ⟨m1, m2, m3⟩ := mu_lt h2
      rw [facs_step h2]
      have he := (mu_ex (lf_spec h2).1 (by omega : 1 ≤ n)).1
      rw [he] at hd
      rcases hq.euclid hd with h3 | h3
      · have := hq.eq_of_dvd (lf_pr h2).1 (hq.dvd_pow _ h3)
        exact ⟨_, by rw [this]; exact List.mem_cons_self⟩
      · obtain ⟨k, hk⟩ := facs_all f _ (by omega) m3 q hq h3
        exact ⟨k, List.mem_cons_of_mem _ hk⟩
end Go.Proofs.Pm
