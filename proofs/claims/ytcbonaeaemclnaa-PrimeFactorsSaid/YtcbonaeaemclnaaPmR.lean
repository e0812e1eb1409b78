/- Lemmas and contracts on the way to the statement; no condition of their own beyond those written. -/
import Derived.Test.YtcbonaeaemclnaaPmQ
namespace Go.Proofs.Pm

theorem pw_red {r q n : Nat} (hq : Pr q) (hr : ¬ q ∣ r) : pw r n q = pw r (n % (q - 1)) q := by
  unfold pw
  have h1 : n = (q - 1) * (n / (q - 1)) + n % (q - 1) := (Nat.div_add_mod n (q - 1)).symm
  conv => lhs; rw [h1, Nat.pow_add, Nat.mul_mod, mul_pow_mod (hq.fermat hr) hq.two, Nat.one_mul, Nat.mod_mod]

theorem not_dvd_mod {a p : Int} (hp : 2 ≤ p) (h : a % p ≠ 0) : ¬ p.toNat ∣ (a % p).toNat := by
  have h1 := Int.emod_nonneg a (by omega : p ≠ 0)
  have h2 := Int.emod_lt_of_pos a (by omega : 0 < p)
  exact not_dvd_of_lt (by omega) (by omega)

theorem Pr.ofI {p : Int} (h : isB p = true) : Pr p.toNat := by
  obtain ⟨q, rfl, hq, _⟩ := Pr.of h
  simpa using hq

theorem pwI_red {r p n : Int} (h : isB p = true) (hr : ¬ p.toNat ∣ r.toNat) (hn : 0 ≤ n) : pwI r n p = pwI r (n % (p - 1)) p := by
  have h1 := (isB_bd h).1
  unfold pwI
  rw [pw_red (Pr.ofI h) hr]
  congr 2
  have h2 := Int.emod_nonneg n (by omega : p - 1 ≠ 0)
  have h3 : ((n.toNat % (p.toNat - 1) : Nat) : Int) = n % (p - 1) := by
    rw [Int.natCast_emod, Int.toNat_of_nonneg hn, show ((p.toNat - 1 : Nat) : Int) = p - 1 by omega]
  omega
theorem pwI_zero {p n : Int} (_h : isB p = true) (hn : 0 < n) : pwI 0 n p = 0 := by
  unfold pwI pw
  have : (0 : Int).toNat ^ n.toNat = 0 := by
    rw [show n.toNat = (n.toNat - 1) + 1 from by omega, Nat.pow_succ]; rfl
  rw [this]; simp
theorem pwI_zero0 {p : Int} (h : isB p = true) : pwI 0 0 p = 1 := by
  have := (isB_bd h).1
  unfold pwI pw
  have : (0 : Int).toNat ^ (0 : Int).toNat = 1 := rfl
  rw [this, Nat.mod_eq_of_lt (by omega)]; rfl

/-! ### the root -/
def rtAux (p : Nat) : Nat → Nat → Nat
  | 0, g => g
  | f + 1, g => if ord g p = p - 1 then g else rtAux p f (g + 1)
def rt (p : Nat) : Nat := rtAux p p 1
structure IsRt (p g : Nat) : Prop where
  pos : 1 ≤ g
  lt : g < p
  ord : ord g p = p - 1
  least : ∀ h, 1 ≤ h → h < g → Pm.ord h p ≠ p - 1
theorem IsRt.unique {p g h : Nat} (a : IsRt p g) (b : IsRt p h) : g = h := by
  rcases Nat.lt_trichotomy g h with h1 | h1 | h1
  · exact absurd a.ord (b.least g a.pos h1)
  · exact h1
  · exact absurd b.ord (a.least h b.pos h1)
theorem rtAux_spec {p n : Nat} (hn : n < p) (h1 : ord n p = p - 1) : ∀ f g, g ≤ n → n < g + f → 1 ≤ g → (∀ h, 1 ≤ h → h < g → ord h p ≠ p - 1) → IsRt p (rtAux p f g) ∧ rtAux p f g ≤ n
  | 0, g, h2, h3, _, _ => by omega
  | f + 1, g, h2, h3, h4, h5 => by
    rw [rtAux]
    by_cases h : ord g p = p - 1
    · rw [if_pos h]; exact ⟨⟨h4, by omega, h, h5⟩, h2⟩
    · rw [if_neg h]
      have hne : g ≠ n := by intro e; rw [e] at h; exact h h1
      refine rtAux_spec hn h1 f (g + 1) (by omega) (by omega) (by omega) fun j hj hlt => ?_
      rcases Nat.lt_or_ge j g with h6 | h6
      · exact h5 j hj h6
      · obtain rfl : j = g := by omega
        exact h
theorem Pr.rt {p : Nat} (hp : Pr p) : IsRt p (rt p) := by
  obtain ⟨g, h1, h2, h3⟩ := hp.exists_root
  exact (rtAux_spec h2 h3 p 1 h1 (by omega) (by omega) fun j a b => by omega).1

/-- the test by the factors of p-1 -/
theorem root_test {p a : Nat} (hp : Pr p) (h1 : 1 ≤ a) (h2 : a < p) : (∀ x, x ∈ facs (p - 1) → pw a ((p - 1) / x.1) p ≠ 1) ↔ Pm.ord a p = p - 1 := by
  have hnd := not_dvd_of_lt h1 h2
  have hp2 := hp.two
  have ho := (hp.ord hnd).1
  constructor
  · intro h
    have hd := (ho.iff hp2 _).1 (hp.fermat hnd)
    obtain ⟨j, hj⟩ := hd
    rcases Nat.lt_or_ge j 2 with h3 | h3
    · have : j ≠ 0 := by intro h0; rw [h0] at hj; omega
      have : j = 1 := by omega
      rw [this, Nat.mul_one] at hj; exact hj.symm
    · exfalso
      obtain ⟨hx, hxd⟩ := lf_pr h3
      generalize lf j = x at hx hxd
      obtain ⟨k, hk⟩ := facs_all (p - 1) (p - 1) (Nat.le_refl _) (by omega) x hx (Nat.dvd_trans hxd ⟨Pm.ord a p, by rw [Nat.mul_comm]; exact hj⟩)
      refine h _ hk (pw_of_dvd hp hnd ?_)
      obtain ⟨i, hi⟩ := hxd
      refine ⟨i, ?_⟩
      show (p - 1) / x = _
      rw [hj, hi, Nat.mul_left_comm, Nat.mul_div_cancel_left _ (by have := hx.two; omega)]
  · intro h x hx hpw
    obtain ⟨hxp, hxd, _⟩ := facs_pr _ _ (Nat.le_refl _) x hx
    have h3 := dvd_of_pw hp hnd hpw
    rw [h] at h3
    have hx2 := hxp.two
    have h4 : (p - 1) / x.1 < p - 1 := Nat.div_lt_self (by omega) (by omega)
    have h5 : 1 ≤ (p - 1) / x.1 := Nat.div_pos (Nat.le_of_dvd (by omega) hxd) (by omega)
    have := Nat.le_of_dvd h5 h3
    omega

/-! ### logarithms -/
def lgAux (a g p : Nat) : Nat → Nat → Nat
  | 0, k => k
  | f + 1, k => if g ^ k % p = a then k else lgAux a g p f (k + 1)
def lg (a p : Nat) : Nat := lgAux a (rt p) p p 0

theorem pow_inj {p g i j : Nat} (hp : Pr p) (hg : ¬ p ∣ g) (ho : Pm.ord g p = p - 1) (hj : j < p - 1) (hij : i ≤ j) (h : g ^ i % p = g ^ j % p) : i = j := by
  have h1 : g ^ i * 1 % p = g ^ i * g ^ (j - i) % p := by
    rw [Nat.mul_one, ← Nat.pow_add, show i + (j - i) = j by omega]; exact h
  have hnd : ¬ p ∣ g ^ i := fun hd => hg (hp.dvd_pow i hd)
  have h2 := hp.cancel hnd h1
  rw [Nat.mod_eq_of_lt (by have := hp.two; omega)] at h2
  have h3 := dvd_of_pw hp hg (n := j - i) h2.symm
  rw [ho] at h3
  rcases Nat.eq_zero_or_pos (j - i) with h4 | h4
  · omega
  · have := Nat.le_of_dvd h4 h3; omega

/-- the powers of a root, in order, are all residues but 0 -/
theorem powers_perm {p g : Nat} (hp : Pr p) (hg : ¬ p ∣ g) (ho : Pm.ord g p = p - 1) : ((List.range (p - 1)).map fun k => g ^ k % p).Perm (List.range' 1 (p - 1)) := by
  refine perm_of_sub _ _ (nodup_map _ _ List.nodup_range fun x hx y hy h => ?_) (fun x hx => ?_) (by simp)
  · rw [List.mem_range] at hx hy
    rcases Nat.le_total x y with h1 | h1
    · exact pow_inj hp hg ho hy h1 h
    · exact (pow_inj hp hg ho hx h1 h.symm).symm
  · obtain ⟨k, _, rfl⟩ := List.mem_map.1 hx
    rw [List.mem_range'_1]
    have h1 : g ^ k % p < p := Nat.mod_lt _ (by have := hp.two; omega)
    rcases Nat.eq_zero_or_pos (g ^ k % p) with h2 | h2
    · exact absurd (hp.dvd_pow k (Nat.dvd_of_mod_eq_zero h2)) hg
    · omega

theorem log_ex {p g a : Nat} (hp : Pr p) (hg : ¬ p ∣ g) (ho : Pm.ord g p = p - 1) (h1 : 1 ≤ a) (h2 : a < p) : ∃ k, k < p - 1 ∧ g ^ k % p = a := by
  have h3 : a ∈ List.range' 1 (p - 1) := by rw [List.mem_range'_1]; omega
  rw [← (powers_perm hp hg ho).mem_iff] at h3
  obtain ⟨k, hk, h4⟩ := List.mem_map.1 h3
  exact ⟨k, List.mem_range.1 hk, h4⟩

theorem lgAux_spec {a g p n : Nat} (h1 : g ^ n % p = a) : ∀ f k, k ≤ n → n < k + f → (∀ j, j < k → g ^ j % p ≠ a) →
    g ^ (lgAux a g p f k) % p = a ∧ lgAux a g p f k ≤ n ∧ ∀ j, j < lgAux a g p f k → g ^ j % p ≠ a
  | 0, k, h2, h3, _ => by omega
  | f + 1, k, h2, h3, h5 => by
    rw [lgAux]
    by_cases h : g ^ k % p = a
    · rw [if_pos h]; exact ⟨h, h2, h5⟩
    · rw [if_neg h]
      have hne : k ≠ n := by intro e; rw [e] at h; exact h h1
      refine lgAux_spec h1 f (k + 1) (by omega) (by omega) fun j hlt => ?_
      rcases Nat.lt_or_ge j k with h6 | h6
      · exact h5 j h6
      · obtain rfl : j = k := by omega
        exact h
theorem Pr.lg {p a : Nat} (hp : Pr p) (h1 : 1 ≤ a) (h2 : a < p) : Pm.rt p ^ Pm.lg a p % p = a ∧ Pm.lg a p < p - 1 ∧ ∀ j, j < Pm.lg a p → Pm.rt p ^ j % p ≠ a := by
  have hr := hp.rt
  obtain ⟨k, hk, hk2⟩ := log_ex hp (not_dvd_of_lt hr.pos hr.lt) hr.ord h1 h2
  have := lgAux_spec hk2 p 0 (by omega) (by omega) fun j hj => by omega
  exact ⟨this.1, by have := this.2.1; unfold Pm.lg; omega, this.2.2⟩
theorem lg_of {p a k : Nat} (hp : Pr p) (h1 : 1 ≤ a) (h2 : a < p) (hk : rt p ^ k % p = a) (hl : k < p - 1) : Pm.lg a p = k := by
  have hr := hp.rt
  have hg := not_dvd_of_lt hr.pos hr.lt
  obtain ⟨a1, a2, a3⟩ := hp.lg h1 h2
  rcases Nat.le_total (Pm.lg a p) k with h | h
  · exact pow_inj hp hg hr.ord hl h (a1.trans hk.symm)
  · exact (pow_inj hp hg hr.ord a2 h (hk.trans a1.symm)).symm

/-! ### squares -/
theorem euler {p a : Nat} (hp : Pr p) (h1 : 1 ≤ a) (h2 : a < p) (ho : p ≠ 2) : pw a ((p - 1) / 2) p = 1 ↔ ∃ x, x < p ∧ x * x % p = a := by
  have hr := hp.rt
  have hg := not_dvd_of_lt hr.pos hr.lt
  have hodd : (p - 1) % 2 = 0 := by
    rcases Nat.mod_two_eq_zero_or_one p with h | h
    · exfalso
      have := hp.least 2 (by omega) (Nat.dvd_of_mod_eq_zero h)
      have := hp.two; omega
    · have := hp.two; omega
  obtain ⟨a1, a2, _⟩ := hp.lg h1 h2
  have hp2 := hp.two
  have key : pw a ((p - 1) / 2) p = 1 ↔ lg a p % 2 = 0 := by
    have e1 : pw a ((p - 1) / 2) p = pw (rt p) (lg a p * ((p - 1) / 2)) p := by
      unfold pw
      conv => lhs; rw [← a1, ← Nat.pow_mod, ← Nat.pow_mul]
    rw [e1]
    constructor
    · intro h
      have h3 := dvd_of_pw hp hg h
      rw [hr.ord] at h3
      obtain ⟨j, hj⟩ := h3
      have h4 : p - 1 = 2 * ((p - 1) / 2) := by omega
      have h5 : ((p - 1) / 2) * lg a p = ((p - 1) / 2) * (2 * j) := by
        rw [Nat.mul_comm, hj]; conv => lhs; rw [h4]
        rw [Nat.mul_comm 2, Nat.mul_assoc]
      have h6 := Nat.eq_of_mul_eq_mul_left (by omega) h5
      omega
    · intro h
      refine pw_of_dvd hp hg ?_
      rw [hr.ord]
      refine ⟨lg a p / 2, ?_⟩
      have h4 : p - 1 = 2 * ((p - 1) / 2) := by omega
      have h5 : lg a p = 2 * (lg a p / 2) := by omega
      have e2 : ∀ L M : Nat, 2 * L * M = 2 * M * L := fun L M => by rw [Nat.mul_assoc, Nat.mul_comm L M, ← Nat.mul_assoc]
      conv => lhs; rw [h5]
      conv => rhs; rw [h4]
      exact e2 _ _
  rw [key]
  constructor
  · intro h
    refine ⟨rt p ^ (lg a p / 2) % p, Nat.mod_lt _ (by omega), ?_⟩
    rw [← Nat.mul_mod, ← Nat.pow_add, show lg a p / 2 + lg a p / 2 = lg a p by omega]; exact a1
  · rintro ⟨x, hx, hxx⟩
    have hx1 : 1 ≤ x := by
      rcases Nat.eq_zero_or_pos x with h | h
      · rw [h] at hxx; simp at hxx; omega
      · exact h
    obtain ⟨b1, b2, _⟩ := hp.lg hx1 hx
    have h3 : rt p ^ ((2 * lg x p) % (p - 1)) % p = a := by
      have := pw_red (n := 2 * lg x p) hp hg
      unfold pw at this
      rw [← this, Nat.mul_comm, Nat.pow_mul, Nat.pow_mod, b1, Nat.pow_two]; exact hxx
    have h4 := lg_of hp h1 h2 h3 (Nat.mod_lt _ (by omega))
    rw [h4]
    have h5 : p - 1 = 2 * ((p - 1) / 2) := by omega
    rw [h5, Nat.mul_mod_mul_left]
    omega
end Go.Proofs.Pm
