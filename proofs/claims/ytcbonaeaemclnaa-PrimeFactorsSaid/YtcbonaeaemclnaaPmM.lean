/- Plain facts on numbers (no program). -/
namespace Go.Proofs.Pm

/-- the least divisor search, as the loop does it -/
def lfAux (n : Nat) : Nat → Nat → Nat
  | 0, _ => n
  | f + 1, d => if d * d ≤ n then (if n % d = 0 then d else lfAux n f (d + 1)) else n

def lf (n : Nat) : Nat := lfAux n n 2

theorem lfAux_spec (n : Nat) : ∀ f d, 2 ≤ d → 2 ≤ n → d + f = n + 2 → (∀ e, 2 ≤ e → e < d → n % e ≠ 0) →
    2 ≤ lfAux n f d ∧ n % lfAux n f d = 0 ∧ ∀ e, 2 ≤ e → n % e = 0 → lfAux n f d ≤ e := by
  have small : ∀ d, 2 ≤ n → n < d * d → (∀ e, 2 ≤ e → e < d → n % e ≠ 0) → ∀ e, 2 ≤ e → n % e = 0 → n ≤ e := by
    intro d hn hd hs e he hm
    have hde : d ≤ e := by
      rcases Nat.lt_or_ge e d with h | h
      · exact absurd hm (hs e he h)
      · exact h
    have hq : e * (n / e) = n := Nat.mul_div_cancel' (Nat.dvd_of_mod_eq_zero hm)
    rcases Nat.lt_or_ge (n / e) 2 with h | h
    · have h' : n / e = 0 ∨ n / e = 1 := by generalize n / e = q at h; omega
      rcases h' with h0 | h0 <;> rw [h0] at hq <;> omega
    · have hm2 : n % (n / e) = 0 := by
        have h3 : (n / e) * e = n := by rw [Nat.mul_comm]; exact hq
        conv => lhs; lhs; rw [← h3]
        exact Nat.mul_mod_right _ _
      have : d ≤ n / e := by
        rcases Nat.lt_or_ge (n / e) d with h' | h'
        · exact absurd hm2 (hs _ h h')
        · exact h'
      have : d * d ≤ e * (n / e) := Nat.mul_le_mul hde this
      omega
  intro f
  induction f with
  | zero =>
    intro d hd hn hf hs
    simp only [lfAux]
    refine ⟨hn, Nat.mod_self n, fun e he hm => ?_⟩
    refine small d hn ?_ hs e he hm
    have : d = n + 2 := by omega
    subst this
    have : (n + 2) * 1 ≤ (n + 2) * (n + 2) := Nat.mul_le_mul (Nat.le_refl _) (by omega)
    omega
  | succ f ih =>
    intro d hd hn hf hs
    simp only [lfAux]
    by_cases h1 : d * d ≤ n
    · rw [if_pos h1]
      by_cases h2 : n % d = 0
      · rw [if_pos h2]
        refine ⟨hd, h2, fun e he hm => ?_⟩
        rcases Nat.lt_or_ge e d with h | h
        · exact absurd hm (hs e he h)
        · exact h
      · rw [if_neg h2]
        refine ih (d + 1) (by omega) hn (by omega) fun e he hlt => ?_
        rcases Nat.lt_or_ge e d with h | h
        · exact hs e he h
        · have : e = d := by omega
          subst this; exact h2
    · rw [if_neg h1]
      exact ⟨hn, Nat.mod_self n, small d hn (by omega) hs⟩

theorem lf_spec {n : Nat} (hn : 2 ≤ n) : 2 ≤ lf n ∧ n % lf n = 0 ∧ ∀ e, 2 ≤ e → n % e = 0 → lf n ≤ e :=
  lfAux_spec n n 2 (by omega) hn (by omega) (fun e h1 h2 => by omega)

theorem lf_at {n d : Nat} (hd : 2 ≤ d) (hn : 2 ≤ n) (hs : ∀ e, 2 ≤ e → e < d → n % e ≠ 0) (h : n % d = 0) : lf n = d := by
  obtain ⟨a, b, c⟩ := lf_spec hn
  have h1 := c d hd h
  rcases Nat.lt_or_ge (lf n) d with h2 | h2
  · exact absurd b (hs _ a h2)
  · omega

theorem lf_end {n d : Nat} (hn : 2 ≤ n) (hs : ∀ e, 2 ≤ e → e < d → n % e ≠ 0) (h : n < d * d) : lf n = n := by
  obtain ⟨a, b, c⟩ := lf_spec hn
  have hq : lf n * (n / lf n) = n := Nat.mul_div_cancel' (Nat.dvd_of_mod_eq_zero b)
  have hle : lf n ≤ n := c n hn (Nat.mod_self n)
  rcases Nat.lt_or_ge (lf n) n with hlt | hge
  · exfalso
    have hd : d ≤ lf n := by
      rcases Nat.lt_or_ge (lf n) d with h2 | h2
      · exact absurd b (hs _ a h2)
      · exact h2
    have hm : n % (n / lf n) = 0 := by
      have h3 : (n / lf n) * lf n = n := by rw [Nat.mul_comm]; exact hq
      conv => lhs; lhs; rw [← h3]
      exact Nat.mul_mod_right _ _
    generalize n / lf n = q at *
    have hq2 : 2 ≤ q := by
      rcases Nat.lt_or_ge q 2 with h2 | h2
      · have h' : q = 0 ∨ q = 1 := by omega
        rcases h' with rfl | rfl <;> omega
      · exact h2
    have hdq : d ≤ q := by
      rcases Nat.lt_or_ge q d with h2 | h2
      · exact absurd hm (hs _ hq2 h2)
      · exact h2
    have := Nat.mul_le_mul hd hdq
    omega
  · omega

/-- the function Is -/
def isB (n : Int) : Bool := decide (1 < n) && (decide (n < 1000000) && (lf n.toNat == n.toNat))

end Go.Proofs.Pm
namespace Go.Proofs.Pm
/-- Next -/
def nxAux : Nat → Nat → Int × Int
  | 0, _ => (0, 2)
  | f + 1, k => if isB ((k + 1 : Nat) : Int) then (((k + 1 : Nat) : Int), 0) else nxAux f (k + 1)
def nx (n : Int) : Int × Int := nxAux (999999 - (max n 1).toNat) (max n 1).toNat

/-- Suitable: the search from p on, in steps of e -/
def suAux (e : Nat) (m : Int) : Nat → Nat → Int × Int
  | 0, _ => (0, 18)
  | f + 1, p => if p < 1000000 then (if m < (p : Int) ∧ isB (p : Int) = true then ((p : Int), 0) else suAux e m f (p + e)) else (0, 18)
def su (e m : Int) : Int × Int :=
  if e < 1 ∨ m < 0 then (0, 2) else if e < 1000000 then suAux e.toNat m 1000000 1 else (0, 18)

theorem isB_iff {n : Int} : isB n = true ↔ ∃ q : Nat, n = q ∧ 2 ≤ q ∧ q < 1000000 ∧ ∀ e, 2 ≤ e → q % e = 0 → e = q ∨ q < e := by
  constructor
  · intro h
    simp [isB] at h
    obtain ⟨h1, h2, h3⟩ := h
    refine ⟨n.toNat, by omega, by omega, by omega, fun e he hm => ?_⟩
    have := (lf_spec (n := n.toNat) (by omega)).2.2 e he hm
    omega
  · rintro ⟨q, rfl, h2, h3, h4⟩
    have ⟨a, b, c⟩ := lf_spec (n := q) h2
    have hc := c q h2 (Nat.mod_self q)
    have : lf q = q := by
      rcases h4 _ a b with h | h <;> omega
    simp [isB, this]; omega
end Go.Proofs.Pm
namespace Go.Proofs.Pm
def mod (a p : Int) : Int × Int := if isB p = true then (a % p, 0) else (0, 3)
/-- the residue that is not to be 0 -/
def unit (a p : Int) : Int × Int := if isB p = true then (if a % p = 0 then (0, 6) else (a % p, 0)) else (0, 3)

theorem isB_bd {n : Int} (h : isB n = true) : 2 ≤ n ∧ n < 1000000 := by
  obtain ⟨q, rfl, a, b, _⟩ := isB_iff.1 h; omega
theorem mod_f {a p : Int} (h : isB p = false) : mod a p = (0, 3) := by simp [mod, h]
theorem mod_t {a p : Int} (h : isB p = true) : mod a p = (a % p, 0) := by simp [mod, h]
theorem unit_f {a p : Int} (h : isB p = false) : unit a p = (0, 3) := by simp [unit, h]
theorem unit_z {a p : Int} (h : isB p = true) (h0 : a % p = 0) : unit a p = (0, 6) := by simp [unit, h, h0]
theorem unit_t {a p : Int} (h : isB p = true) (h0 : a % p ≠ 0) : unit a p = (a % p, 0) := by simp [unit, h, h0]

theorem nx_last {k : Nat} (h : 999999 ≤ k) (h2 : k < 1000000) (hh : isB 1000000 = false): nxAux (1000000 - k) k = (0, 2) := by
  obtain rfl : k = 999999 := by omega
  show (if isB _ = true then _ else _) = _
  have : ((999999 + 1 : Nat) : Int) = 1000000 := rfl
  rw [this, hh]; rfl
theorem nxAux_ext : ∀ f k, k + f = 999999 → nxAux (f + 1) k = nxAux f k
  | 0, k, h => by
    obtain rfl : k = 999999 := by omega
    show (if isB _ = true then _ else _) = _
    rw [show isB ((999999 + 1 : Nat) : Int) = false from by simp [isB]]; rfl
  | f + 1, k, h => by
    show (if isB ((k + 1 : Nat) : Int) = true then _ else nxAux (f + 1) (k + 1)) = (if isB ((k + 1 : Nat) : Int) = true then _ else nxAux f (k + 1))
    rw [nxAux_ext f (k + 1) (by omega)]
theorem nx_ref {k : Nat} (h : k ≤ 999999) : nxAux (1000000 - k) k = nxAux (999999 - k) k := by
  have := nxAux_ext (999999 - k) k (by omega)
  rwa [show 999999 - k + 1 = 1000000 - k from by omega] at this

theorem su_e {e m : Int} (h : e < 1 ∨ m < 0) : su e m = (0, 2) := by simp [su, h]
theorem su_big {e m : Int} (h : 1000000 ≤ e) (hm : ¬ m < 0) : su e m = (0, 18) := by
  unfold su; rw [if_neg (by omega), if_neg (by omega)]
theorem su_go {e m : Int} (h1 : 1 ≤ e) (h : e < 1000000) (hm : 0 ≤ m) : su e m = suAux e.toNat m 1000000 1 := by
  unfold su; rw [if_neg (by omega), if_pos (by omega)]
theorem suAux_yes {e : Nat} {m : Int} {f p : Nat} (h : p < 1000000) (hm : m < p) (hB : isB (p : Int) = true) : suAux e m (f + 1) p = ((p : Int), 0) := by
  rw [suAux, if_pos h, if_pos ⟨hm, hB⟩]
theorem suAux_no {e : Nat} {m : Int} {f p : Nat} (h : p < 1000000) (hB : ¬ (m < p ∧ isB (p : Int) = true)) : suAux e m (f + 1) p = suAux e m f (p + e) := by
  rw [suAux, if_pos h, if_neg hB]
theorem suAux_end {e : Nat} {m : Int} {f p : Nat} (h : ¬ p < 1000000) : suAux e m f p = (0, 18) := by
  cases f with
  | zero => rfl
  | succ f => rw [suAux, if_neg h]
end Go.Proofs.Pm
