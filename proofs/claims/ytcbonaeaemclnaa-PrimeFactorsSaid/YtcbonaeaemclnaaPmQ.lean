/- Lemmas and contracts on the way to the statement; no condition of their own beyond those written. -/
import Derived.Test.YtcbonaeaemclnaaPmP
namespace Go.Proofs.Pm

/-- Order's loop: n is a multiple of the order, and no prime that has come can be taken out -/
structure OInv (r q : Nat) (pre : List (Nat × Nat)) (n : Nat) : Prop where
  pos : 1 ≤ n
  dvd : n ∣ q - 1
  one : pw r n q = 1
  no : ∀ x, x ∈ pre → ¬ (n % x.1 = 0 ∧ pw r (n / x.1) q = 1)

theorem dvd_of_pw {r q : Nat} (hq : Pr q) (hr : ¬ q ∣ r) {n : Nat} (h : pw r n q = 1) : ord r q ∣ n := ((hq.ord hr).1.iff hq.two n).1 h
theorem pw_of_dvd {r q : Nat} (hq : Pr q) (hr : ¬ q ∣ r) {n : Nat} (h : ord r q ∣ n) : pw r n q = 1 := ((hq.ord hr).1.iff hq.two n).2 h

theorem OInv.start {r q : Nat} (hq : Pr q) (hr : ¬ q ∣ r) : OInv r q [] (q - 1) :=
  ⟨by have := hq.two; omega, Nat.dvd_refl _, hq.fermat hr, fun x hx => by simp at hx⟩

theorem OInv.take {r q : Nat} {pre : List (Nat × Nat)} {n x : Nat} (hq : Pr q) (hr : ¬ q ∣ r) (h : OInv r q pre n) (h1 : n % x = 0) (h2 : pw r (n / x) q = 1) : OInv r q pre (n / x) := by
  have hd : x * (n / x) = n := Nat.mul_div_cancel' (Nat.dvd_of_mod_eq_zero h1)
  have hpos : 1 ≤ n / x := by
    rcases Nat.eq_zero_or_pos (n / x) with h3 | h3
    · rw [h3] at hd; have := h.pos; omega
    · exact h3
  refine ⟨hpos, Nat.dvd_trans ⟨x, by rw [Nat.mul_comm]; exact hd.symm⟩ h.dvd, h2, fun y hy hn => h.no y hy ⟨?_, ?_⟩⟩
  · have h3 : n / x ∣ n := ⟨x, by rw [Nat.mul_comm]; exact hd.symm⟩
    exact Nat.mod_eq_zero_of_dvd (Nat.dvd_trans (Nat.dvd_of_mod_eq_zero hn.1) h3)
  · have h3 := dvd_of_pw hq hr hn.2
    refine pw_of_dvd hq hr (Nat.dvd_trans h3 ?_)
    refine ⟨x, ?_⟩
    rcases Nat.eq_zero_or_pos y.1 with h4 | h4
    · rw [h4]; simp
    · have h5 : y.1 * (n / x / y.1) = n / x := Nat.mul_div_cancel' (Nat.dvd_of_mod_eq_zero hn.1)
      have h6 : n = y.1 * (n / x / y.1 * x) := by rw [← Nat.mul_assoc, h5, Nat.mul_comm]; exact hd.symm
      conv => lhs; rw [h6]
      exact Nat.mul_div_cancel_left _ h4

theorem OInv.next {r q : Nat} {pre : List (Nat × Nat)} {n : Nat} {x : Nat × Nat} (h : OInv r q pre n) (hx : ¬ (n % x.1 = 0 ∧ pw r (n / x.1) q = 1)) : OInv r q (pre ++ [x]) n :=
  ⟨h.pos, h.dvd, h.one, fun y hy => by
    rcases List.mem_append.1 hy with h1 | h1
    · exact h.no y h1
    · simp at h1; rw [h1]; exact hx⟩

theorem OInv.end {r q n : Nat} (hq : Pr q) (hr : ¬ q ∣ r) (h : OInv r q (facs (q - 1)) n) : n = ord r q := by
  have hd := dvd_of_pw hq hr h.one
  obtain ⟨j, hj⟩ := hd
  rcases Nat.lt_or_ge j 2 with h2 | h2
  · have : j ≠ 0 := by intro h0; rw [h0] at hj; have := h.pos; omega
    have : j = 1 := by omega
    rw [this, Nat.mul_one] at hj; exact hj
  · exfalso
    obtain ⟨hx, hxd⟩ := lf_pr h2
    generalize lf j = x at hx hxd
    have hxn : x ∣ n := Nat.dvd_trans hxd ⟨ord r q, by rw [Nat.mul_comm]; exact hj⟩
    obtain ⟨k, hk⟩ := facs_all (q - 1) (q - 1) (Nat.le_refl _) (by have := hq.two; omega) x hx (Nat.dvd_trans hxn h.dvd)
    refine h.no _ hk ⟨Nat.mod_eq_zero_of_dvd hxn, pw_of_dvd hq hr ?_⟩
    obtain ⟨i, hi⟩ := hxd
    refine ⟨i, ?_⟩
    show n / x = _
    rw [hj, hi, Nat.mul_left_comm, Nat.mul_div_cancel_left _ (by have := hx.two; omega)]
theorem OInv.le {r q n : Nat} {pre : List (Nat × Nat)} (hq : Pr q) (h : OInv r q pre n) : n ≤ q - 1 := Nat.le_of_dvd (by have := hq.two; omega) h.dvd
end Go.Proofs.Pm
