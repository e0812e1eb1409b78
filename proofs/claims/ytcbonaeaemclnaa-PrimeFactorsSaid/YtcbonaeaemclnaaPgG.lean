/- Lemmas and contracts on the way to the statement; no condition of their own beyond those written. -/
import Derived.Test.YtcbonaeaemclnaaPfA
namespace Go.Proofs.Pm

/-- 999! -/
def big : Nat := 402387260077093773543702433923003985719374864210714632543799910429938512398629020592044208486969404800479988610197196058631666872994808558901323829669944590997424504087073759918823627727188732519779505950995276120874975462497043601418278094646496291056393887437886487337119181045825783647849977012476632889835955735432513185323958463075557409114262417474349347553428646576611667797396668820291207379143853719588249808126867838374559731746136085379534524221586593201928090878297308431392844403281231558611036976801357304216168747609675871348312025478589320767169132448426236131412508780208000261683151027341827977704784635868170164365024153691398281264810213092761244896359928705114964975419909342221566832572080821333186116811553615836546984046708975602900950537616475847728421889679646244945160765353408198901385442487984959953319101723355556602139450399736280750137837615307127761926849034352625200015888535147331611702103968175921510907788019393178114194545257223865541461062892187960223838971476088506276862967146674697562911234082439208160153780889893964518263243671616762179168909779911903754031274622289988005195444414282012187361745992642956581746628302955570299024324153181617210465832036786906117260158783520751516284225540265170483304226143974286933061690897968482590125458327168226458066526769958652682272807075781391858178889652208164348344825993266043367660176999612831860788386150279465955131156552036093988180612138558600301435694527224206344631797460594682573103790084024432438465657245014402821885252470935190620929023136493273497565513958720559654228749774011413346962715422845862377387538230483865688976461927383814900140767310446640259899490222221765904339901886018566526485061799702356193897017860040811889729918311021171229845901641921068884387121855646124960798722908519296819372388642614839657382291123125024186649353143970137428531926649875337218940694281434118520158014123344828015051399694290153483077644569099073152433278288269864602789864321139083506217095002597389863554277196742822248757586765752344220207573630569498825087968928162753848863396909959826280956121450994871701244516461260379029309120889086942028510640182154399457156805941872748998094254742173582401063677404595741785160829230135358081840096996372524230560855903700624271243416909004153690105933983835777939410970027753472000000000000000000000000000000000000000000000000000000000000000000000000000000000000000000000000000000000000000000000000000000000000000000000000000000000000000000000000000000000000000000000000000000000000000000000000000000000000000000000000000000
theorem big_dvd : ∀ d : Fin 1000, 2 ≤ d.1 → big % d.1 = 0 := by decide +kernel
theorem lf_sq {n : Nat} (h : 2 ≤ n) (hl : lf n ≠ n) : lf n * lf n ≤ n := by
  obtain ⟨a, b, c⟩ := lf_spec h
  obtain ⟨m, hm⟩ := Nat.dvd_of_mod_eq_zero b
  have hm2 : 2 ≤ m := by
    rcases Nat.lt_or_ge m 2 with h1 | h1
    · have : m = 0 ∨ m = 1 := by omega
      rcases this with h2 | h2
      · rw [h2] at hm; omega
      · rw [h2, Nat.mul_one] at hm; exact absurd hm.symm hl
    · exact h1
  have h3 := c m hm2 (by rw [hm]; exact Nat.mul_mod_left _ _)
  conv => rhs; rw [hm]
  exact Nat.mul_le_mul_left _ h3
theorem pr_of_gcd {n : Nat} (h2 : 2 ≤ n) (h3 : n < 1000000) (h : Nat.gcd n big = 1) : isB (n : Int) = true := by
  refine isB_iff.2 ⟨n, rfl, h2, h3, fun e e1 e2 => ?_⟩
  have hl : lf n = n := by
    apply Classical.byContradiction
    intro hl
    have h4 := lf_sq h2 hl
    have h5 : lf n < 1000 := by
      apply Classical.byContradiction
      intro h6
      have : 1000 * 1000 ≤ lf n * lf n := Nat.mul_le_mul (by omega) (by omega)
      omega
    obtain ⟨a, b, _⟩ := lf_spec h2
    have h7 := Nat.dvd_of_mod_eq_zero (big_dvd ⟨lf n, h5⟩ a)
    have h8 := Nat.dvd_gcd (Nat.dvd_of_mod_eq_zero b) h7
    rw [h] at h8
    have := Nat.le_of_dvd (by decide) h8
    omega
  have := (lf_spec h2).2.2 e e1 e2
  omega

/-- the greatest number of q+1 .. q+d that 999! has no factor with, or 0 -/
def find (q : Nat) : Nat → Nat
  | 0 => 0
  | d + 1 => bif Nat.beq (Nat.gcd (q + (d + 1)) big) 1 then q + (d + 1) else find q d
theorem find_spec {q : Nat} : ∀ d, find q d = 0 ∨ (Nat.gcd (find q d) big = 1 ∧ q < find q d ∧ find q d ≤ q + d)
  | 0 => .inl rfl
  | d + 1 => by
    have ih := find_spec (q := q) d
    unfold find
    cases h : Nat.beq (Nat.gcd (q + (d + 1)) big) 1
    · simp only [cond_false]
      rcases ih with h1 | ⟨a, b, c⟩
      · exact .inl h1
      · exact .inr ⟨a, b, by omega⟩
    · simp only [cond_true]
      exact .inr ⟨Nat.eq_of_beq_eq_true h, by omega, by omega⟩
def chain : Nat → Nat → Nat → Bool
  | 0, _, _ => false
  | f + 1, q, e => bif Nat.ble e q then true else (match find q 200 with | 0 => false | p + 1 => chain f (p + 1) e)
theorem chain_spec : ∀ f q e, 2 ≤ q → e ≤ 999000 → chain f q e = true → ∀ k, q ≤ k → k < e → ∃ p : Nat, k < p ∧ p ≤ k + 200 ∧ isB (p : Int) = true
  | 0, _, _, _, _, h, _, _, _ => by cases h
  | f + 1, q, e, hq, he, h, k, h1, h2 => by
    unfold chain at h
    cases hb : Nat.ble e q
    · rw [hb] at h
      simp only [cond_false] at h
      have hs := find_spec (q := q) 200
      cases hf : find q 200 with
      | zero => rw [hf] at h; simp at h
      | succ p =>
        rw [hf] at h hs
        simp only at h
        rcases hs with hs | ⟨a, b, c⟩
        · cases hs
        · have hqe : q < e := by
            apply Classical.byContradiction
            intro h9
            have : Nat.ble e q = true := Nat.ble_eq_true_of_le (by omega)
            rw [hb] at this; cases this
          rcases Nat.lt_or_ge k (p + 1) with h9 | h9
          · exact ⟨p + 1, h9, by omega, pr_of_gcd (by omega) (by omega) a⟩
          · exact chain_spec f (p + 1) e (by omega) he h k h9 h2
    · have := Nat.le_of_ble_eq_true hb; omega
theorem chain0 : chain 521 997 100997 = true := by decide +kernel
theorem chain1 : chain 525 100847 200847 = true := by decide +kernel
theorem chain2 : chain 526 200807 300807 = true := by decide +kernel
theorem chain3 : chain 528 300691 400691 = true := by decide +kernel
theorem chain4 : chain 528 400657 500657 = true := by decide +kernel
theorem chain5 : chain 529 500629 600629 = true := by decide +kernel
theorem chain6 : chain 527 600433 700433 = true := by decide +kernel
theorem chain7 : chain 530 700241 800241 = true := by decide +kernel
theorem chain8 : chain 528 800119 900000 = true := by decide +kernel
theorem small_gap : ∀ k : Fin 1000, isB (nx ((k.1 : Nat) : Int)).1 = true ∧ (nx ((k.1 : Nat) : Int)).1 ≤ (k.1 : Nat) + 200 ∧ ((k.1 : Nat) : Int) < (nx ((k.1 : Nat) : Int)).1 := by decide +kernel
theorem gap_ex {k : Nat} (hk : k < 900000) : ∃ p : Nat, k < p ∧ p ≤ k + 200 ∧ isB (p : Int) = true := by
  rcases Nat.lt_or_ge k 1000 with h | h
  · obtain ⟨a, b, c⟩ := small_gap ⟨k, h⟩
    obtain ⟨q, hq, _, _⟩ := Pr.of a
    simp only at hq b c
    rw [hq] at b c
    exact ⟨q, by omega, by omega, hq ▸ a⟩
  rcases Nat.lt_or_ge k 100997 with h | h
  · exact chain_spec _ _ _ (by decide) (by decide) chain0 k (by omega) h
  rcases Nat.lt_or_ge k 200847 with h | h
  · exact chain_spec _ _ _ (by decide) (by decide) chain1 k (by omega) h
  rcases Nat.lt_or_ge k 300807 with h | h
  · exact chain_spec _ _ _ (by decide) (by decide) chain2 k (by omega) h
  rcases Nat.lt_or_ge k 400691 with h | h
  · exact chain_spec _ _ _ (by decide) (by decide) chain3 k (by omega) h
  rcases Nat.lt_or_ge k 500657 with h | h
  · exact chain_spec _ _ _ (by decide) (by decide) chain4 k (by omega) h
  rcases Nat.lt_or_ge k 600629 with h | h
  · exact chain_spec _ _ _ (by decide) (by decide) chain5 k (by omega) h
  rcases Nat.lt_or_ge k 700433 with h | h
  · exact chain_spec _ _ _ (by decide) (by decide) chain6 k (by omega) h
  rcases Nat.lt_or_ge k 800241 with h | h
  · exact chain_spec _ _ _ (by decide) (by decide) chain7 k (by omega) h
  exact chain_spec _ _ _ (by decide) (by decide) chain8 k (by omega) hk
end Go.Proofs.Pm
