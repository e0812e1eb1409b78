/- Lemmas and contracts on the way to the statement; no condition of their own beyond those written. -/
import Derived.Test.YtcbonaeaemclnaaPmR
namespace Go.Proofs.Pm
def ordS (a p : Int) : Int × Int := if isB p = true then (if a % p = 0 then (0, 6) else (((ord (a % p).toNat p.toNat : Nat) : Int), 0)) else (0, 3)
theorem ordS_f {a p : Int} (h : isB p = false) : ordS a p = (0, 3) := by simp [ordS, h]
theorem ordS_z {a p : Int} (h : isB p = true) (h0 : a % p = 0) : ordS a p = (0, 6) := by simp [ordS, h, h0]
theorem ordS_t {a p : Int} (h : isB p = true) (h0 : a % p ≠ 0) : ordS a p = (((ord (a % p).toNat p.toNat : Nat) : Int), 0) := by simp [ordS, h, h0]
def rtS (p : Int) : Int × Int := if isB p = true then (((rt p.toNat : Nat) : Int), 0) else (0, 3)
theorem rtS_f {p : Int} (h : isB p = false) : rtS p = (0, 3) := by simp [rtS, h]
theorem rtS_t {p : Int} (h : isB p = true) : rtS p = (((rt p.toNat : Nat) : Int), 0) := by simp [rtS, h]
def lgS (a p : Int) : Int × Int := if isB p = true then (if a % p = 0 then (0, 6) else (((lg (a % p).toNat p.toNat : Nat) : Int), 0)) else (0, 3)
theorem lgS_f {a p : Int} (h : isB p = false) : lgS a p = (0, 3) := by simp [lgS, h]
theorem lgS_z {a p : Int} (h : isB p = true) (h0 : a % p = 0) : lgS a p = (0, 6) := by simp [lgS, h, h0]
theorem lgS_t {a p : Int} (h : isB p = true) (h0 : a % p ≠ 0) : lgS a p = (((lg (a % p).toNat p.toNat : Nat) : Int), 0) := by simp [lgS, h, h0]
def zeta (e p : Int) : Int × Int :=
  if isB p = true then (if e < 1 then (0, 2) else if (p - 1) % e = 0 then (pwI (rt p.toNat : Nat) ((p - 1) / e) p, 0) else (0, 18)) else (0, 3)
theorem zeta_f {e p : Int} (h : isB p = false) : zeta e p = (0, 3) := by simp [zeta, h]
theorem zeta_r {e p : Int} (h : isB p = true) (h0 : e < 1) : zeta e p = (0, 2) := by simp [zeta, h, h0]
theorem zeta_n {e p : Int} (h : isB p = true) (h0 : ¬ e < 1) (h1 : (p - 1) % e ≠ 0) : zeta e p = (0, 18) := by simp [zeta, h, h0, h1]
theorem zeta_t {e p : Int} (h : isB p = true) (h0 : ¬ e < 1) (h1 : (p - 1) % e = 0) : zeta e p = (pwI (rt p.toNat : Nat) ((p - 1) / e) p, 0) := by simp [zeta, h, h0, h1]

theorem pwI_div {g q x : Nat} (hq : 1 ≤ q) : pwI g (((q : Int) - 1) / x) q = ((pw g ((q - 1) / x) q : Nat) : Int) := by
  unfold pwI
  have e1 : ((q : Int) - 1) / x = (((q - 1) / x : Nat) : Int) := by rw [show (q : Int) - 1 = ((q - 1 : Nat) : Int) by omega]; rfl
  rw [e1, Int.toNat_natCast, Int.toNat_natCast, Int.toNat_natCast]

/-- whether a square root is found, and Symbol -/
theorem sqAux_spec {a p : Int} : ∀ f x, ((∃ y : Nat, x ≤ y ∧ y < x + f ∧ (y : Int) * y % p = a) → (sqAux a p f x).2 = 0 ∧ ∃ r : Nat, sqAux a p f x = ((r : Int), 0) ∧ (r : Int) * r % p = a ∧ x ≤ r ∧ r < x + f ∧ ∀ y : Nat, x ≤ y → y < r → (y : Int) * y % p ≠ a) ∧
    ((∀ y : Nat, x ≤ y → y < x + f → (y : Int) * y % p ≠ a) → sqAux a p f x = (0, 18))
  | 0, x => ⟨fun ⟨y, h1, h2, _⟩ => by omega, fun _ => rfl⟩
  | f + 1, x => by
    have ih := sqAux_spec (a := a) (p := p) f (x + 1)
    rw [sqAux]
    by_cases h : (x : Int) * x % p = a
    · rw [if_pos h]
      exact ⟨fun _ => ⟨rfl, x, rfl, h, by omega, by omega, fun y h1 h2 => by omega⟩, fun hn => absurd h (hn x (by omega) (by omega))⟩
    · rw [if_neg h]
      constructor
      · rintro ⟨y, h1, h2, h3⟩
        have hne : x ≠ y := fun e => h (e ▸ h3)
        obtain ⟨e1, r, e2, e3, e4, e5, e6⟩ := ih.1 ⟨y, by omega, by omega, h3⟩
        refine ⟨e1, r, e2, e3, by omega, by omega, fun z h4 h5 => ?_⟩
        rcases Nat.lt_or_ge x z with h6 | h6
        · exact e6 z (by omega) h5
        · obtain rfl : z = x := by omega
          exact h
      · intro hn
        exact ih.2 fun y h1 h2 => hn y (by omega) (by omega)

theorem sqrt_yes {a p : Int} (h : isB p = true) (hx : ∃ y : Nat, y < p.toNat ∧ (y : Int) * y % p = a % p) :
    ∃ r : Nat, sqrt a p = ((r : Int), 0) ∧ (r : Int) * r % p = a % p ∧ r < p.toNat ∧ ∀ y : Nat, y < r → (y : Int) * y % p ≠ a % p := by
  obtain ⟨y, h1, h2⟩ := hx
  obtain ⟨_, r, e1, e2, _, e4, e5⟩ := (sqAux_spec (a := a % p) (p := p) p.toNat 0).1 ⟨y, by omega, by omega, h2⟩
  exact ⟨r, by rw [sqrt_t h]; exact e1, e2, by omega, fun y hy => e5 y (by omega) hy⟩
theorem sqrt_no {a p : Int} (h : isB p = true) (hx : ∀ y : Nat, y < p.toNat → (y : Int) * y % p ≠ a % p) : sqrt a p = (0, 18) := by
  rw [sqrt_t h]; exact (sqAux_spec p.toNat 0).2 fun y _ h2 => hx y (by omega)

theorem sym_sqrt {a p : Int} (h : isB p = true) (h0 : a % p ≠ 0) : (sym a p = (1, 0) ∧ (sqrt a p).2 = 0) ∨ (sym a p = (-1, 0) ∧ sqrt a p = (0, 18)) := by
  have hb := isB_bd h
  have hP := Pr.ofI h
  have r0 := Int.emod_nonneg a (by omega : p ≠ 0)
  have r1 := Int.emod_lt_of_pos a (by omega : 0 < p)
  have conv : ∀ y : Nat, (y : Int) * y % p = a % p ↔ y * y % p.toNat = (a % p).toNat := by
    intro y
    have h1 : ((y * y % p.toNat : Nat) : Int) = (y : Int) * y % p := by
      rw [Int.natCast_emod, Int.natCast_mul, Int.toNat_of_nonneg (by omega)]
    omega
  by_cases h2 : p = 2
  · left
    refine ⟨sym_2 h h0 h2, ?_⟩
    have e1 : ((1 : Nat) : Int) * ((1 : Nat) : Int) % p = a % p := by subst h2; simp; omega
    obtain ⟨r, e, _⟩ := sqrt_yes (a := a) h ⟨1, by omega, e1⟩
    rw [e]
  · have he := euler hP (a := (a % p).toNat) (by omega) (by omega) (by omega)
    have hpw : pwI (a % p) ((p - 1) / 2) p = (pw (a % p).toNat ((p.toNat - 1) / 2) p.toNat : Nat) := by
      unfold pwI; rw [show ((p - 1) / 2).toNat = (p.toNat - 1) / 2 by omega]
    by_cases hs : ∃ y : Nat, y < p.toNat ∧ y * y % p.toNat = (a % p).toNat
    · left
      refine ⟨sym_1 h h0 h2 (by rw [hpw, he.2 hs]; rfl), ?_⟩
      obtain ⟨y, hy1, hy2⟩ := hs
      obtain ⟨r, e, _⟩ := sqrt_yes (a := a) h ⟨y, hy1, (conv y).2 hy2⟩
      rw [e]
    · right
      refine ⟨sym_m h h0 h2 fun hc => hs (he.1 (by rw [hpw] at hc; omega)), sqrt_no h fun y hy hc => hs ⟨y, hy, (conv y).1 hc⟩⟩
end Go.Proofs.Pm
