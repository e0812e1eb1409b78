/- Lemmas and contracts on the way to the statement; no condition of their own beyond those written. -/
import Derived.Test.YtcbonaeaemclnaaPmM3
namespace Go.Proofs.Pm

theorem perm_of_sub {α : Type} [BEq α] [LawfulBEq α] : ∀ (l m : List α), l.Nodup → (∀ x, x ∈ l → x ∈ m) → m.length ≤ l.length → l.Perm m
  | [], m, _, _, h => by
    have : m = [] := by cases m with
      | nil => rfl
      | cons a t => simp at h
    rw [this]
  | a :: t, m, hn, hs, hl => by
    have ha : a ∈ m := hs a (by simp)
    have hp := List.perm_cons_erase ha
    rw [List.nodup_cons] at hn
    have ih := perm_of_sub t (m.erase a) hn.2 (fun x hx => by
      have hne : x ≠ a := fun e => hn.1 (e ▸ hx)
      exact (List.mem_erase_of_ne hne).2 (hs x (by simp [hx]))) (by
      rw [List.length_erase_of_mem ha]; simp at hl; omega)
    exact (List.Perm.cons a ih).trans hp.symm

structure Pr (p : Nat) : Prop where
  two : 2 ≤ p
  least : ∀ e, 2 ≤ e → e ∣ p → p ≤ e

theorem Pr.of {n : Int} (h : isB n = true) : ∃ q : Nat, n = q ∧ Pr q ∧ q < 1000000 := by
  obtain ⟨q, rfl, h2, h3, h4⟩ := isB_iff.1 h
  refine ⟨q, rfl, ⟨h2, fun e he hd => ?_⟩, h3⟩
  have := h4 e he (Nat.mod_eq_zero_of_dvd hd); omega

theorem Pr.cop {p a : Nat} (hp : Pr p) (h : ¬ p ∣ a) : Nat.gcd p a = 1 := by
  have h1 := Nat.gcd_dvd_left p a
  have h2 := Nat.gcd_dvd_right p a
  have hpos : 0 < Nat.gcd p a := Nat.gcd_pos_of_pos_left _ (by have := hp.two; omega)
  rcases Nat.lt_or_ge (Nat.gcd p a) 2 with h3 | h3
  · omega
  · have := hp.least _ h3 h1
    have h4 := Nat.le_of_dvd (by have := hp.two; omega) h1
    have : Nat.gcd p a = p := by omega
    rw [this] at h2; exact absurd h2 h

theorem Pr.euclid {p a b : Nat} (hp : Pr p) (h : p ∣ a * b) : p ∣ a ∨ p ∣ b := by
  by_cases ha : p ∣ a
  · exact .inl ha
  · exact .inr (Nat.Coprime.dvd_of_dvd_mul_left (hp.cop ha) h)

theorem dvd_sub_of_mod {a b p : Nat} (h : a % p = b % p) (hab : a ≤ b) : p ∣ b - a :=
  have _ := hab
  Nat.dvd_of_mod_eq_zero (Nat.sub_mod_eq_zero_of_mod_eq h.symm)

theorem mod_of_dvd_sub {a b p : Nat} (h : p ∣ b - a) (hab : a ≤ b) : a % p = b % p := by
  obtain ⟨k, hk⟩ := h
  have : b = a + p * k := by omega
  rw [this, Nat.add_mul_mod_self_left]

/-- cancelling modulo a prime -/
theorem Pr.cancel {p a x y : Nat} (hp : Pr p) (ha : ¬ p ∣ a) (h : a * x % p = a * y % p) : x % p = y % p := by
  have aux : ∀ x y, x ≤ y → a * x % p = a * y % p → x % p = y % p := by
    intro x y hxy h
    have h1 := dvd_sub_of_mod h (Nat.mul_le_mul_left _ hxy)
    rw [← Nat.mul_sub] at h1
    rcases hp.euclid h1 with h2 | h2
    · exact absurd h2 ha
    · exact mod_of_dvd_sub h2 hxy
  rcases Nat.le_total x y with hxy | hxy
  · exact aux x y hxy h
  · exact (aux y x hxy h.symm).symm

def prod (l : List Nat) : Nat := l.foldr (· * ·) 1
theorem prod_perm {l m : List Nat} (h : l.Perm m) : prod l = prod m := by
  induction h with
  | nil => rfl
  | cons a _ ih => simp only [prod, List.foldr_cons] at *; rw [ih]
  | swap a b l => simp only [prod, List.foldr_cons]; rw [← Nat.mul_assoc, ← Nat.mul_assoc, Nat.mul_comm a b]
  | trans _ _ h1 h2 => rw [h1, h2]

theorem prod_map_mul (a p : Nat) : ∀ l : List Nat, prod (l.map fun i => a * i % p) % p = a ^ l.length * prod l % p
  | [] => by simp [prod]
  | i :: t => by
    have ih := prod_map_mul a p t
    simp only [prod, List.map_cons, List.foldr_cons, List.length_cons] at *
    rw [Nat.mul_mod, Nat.mod_mod, ih, ← Nat.mul_mod]
    congr 1
    rw [Nat.pow_succ, Nat.mul_mul_mul_comm, Nat.mul_comm (a ^ t.length) a, Nat.mul_mul_mul_comm]

theorem Pr.not_dvd_prod {p : Nat} (hp : Pr p) : ∀ l : List Nat, (∀ x, x ∈ l → ¬ p ∣ x) → ¬ p ∣ prod l
  | [], _ => fun h => by
    have := Nat.le_of_dvd (by decide) h
    have := hp.two
    simp [prod] at *; omega
  | a :: t, h => fun hd => by
    rcases hp.euclid (show p ∣ a * prod t from hd) with h1 | h1
    · exact h a (by simp) h1
    · exact hp.not_dvd_prod t (fun x hx => h x (by simp [hx])) h1

theorem nodup_map {α β : Type} (f : α → β) : ∀ l : List α, l.Nodup → (∀ x, x ∈ l → ∀ y, y ∈ l → f x = f y → x = y) → (l.map f).Nodup
  | [], _, _ => by simp
  | a :: t, hn, h => by
    rw [List.nodup_cons] at hn
    rw [List.map_cons, List.nodup_cons]
    refine ⟨fun hm => ?_, nodup_map f t hn.2 fun x hx y hy => h x (by simp [hx]) y (by simp [hy])⟩
    obtain ⟨x, hx, he⟩ := List.mem_map.1 hm
    have := h x (by simp [hx]) a (by simp) he
    exact hn.1 (this ▸ hx)

theorem not_dvd_of_lt {p x : Nat} (h1 : 1 ≤ x) (h2 : x < p) : ¬ p ∣ x := fun h => by
  have := Nat.le_of_dvd h1 h; omega

theorem Pr.fermat {p a : Nat} (hp : Pr p) (ha : ¬ p ∣ a) : a ^ (p - 1) % p = 1 := by
  have h2 := hp.two
  have hL : ∀ x, x ∈ List.range' 1 (p - 1) ↔ 1 ≤ x ∧ x < p := by intro x; rw [List.mem_range'_1]; omega
  have hperm : ((List.range' 1 (p - 1)).map fun i => a * i % p).Perm (List.range' 1 (p - 1)) := by
    refine perm_of_sub _ _ (nodup_map _ _ (List.nodup_range' 1) fun x hx y hy h => ?_) (fun x hx => ?_) (by simp)
    · rw [hL] at hx hy
      have := hp.cancel ha h
      rw [Nat.mod_eq_of_lt hx.2, Nat.mod_eq_of_lt hy.2] at this; exact this
    · obtain ⟨i, hi, rfl⟩ := List.mem_map.1 hx
      rw [hL] at hi ⊢
      refine ⟨?_, Nat.mod_lt _ (by omega)⟩
      rcases Nat.eq_zero_or_pos (a * i % p) with h | h
      · rcases hp.euclid (Nat.dvd_of_mod_eq_zero h) with h1 | h1
        · exact absurd h1 ha
        · exact absurd h1 (not_dvd_of_lt hi.1 hi.2)
      · exact h
  have h1 := prod_map_mul a p (List.range' 1 (p - 1))
  rw [prod_perm hperm, List.length_range'] at h1
  have hP : ¬ p ∣ prod (List.range' 1 (p - 1)) := hp.not_dvd_prod _ fun x hx => by
    rw [hL] at hx; exact not_dvd_of_lt hx.1 hx.2
  have h3 := hp.cancel (a := prod (List.range' 1 (p - 1))) (x := 1) (y := a ^ (p - 1)) hP (by
    rw [Nat.mul_one, Nat.mul_comm]; exact h1)
  rw [← h3]; exact Nat.mod_eq_of_lt (by omega)

end Go.Proofs.Pm
