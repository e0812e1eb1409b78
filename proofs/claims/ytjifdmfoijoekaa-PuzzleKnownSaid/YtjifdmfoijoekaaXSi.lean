/- Regions that draw: two or three operations that do not wait for each other and do not commute (calls, allocations): each order ends in one state, said by relations. -/
import Derived.Test.YtjifdmfoijoekaaXRw
set_option linter.unusedVariables false
namespace Go.Proofs.Rg
open Go Go.RowKit
variable {P : Program} {md : Region.Mode} {ops : Array Oper} {Q : Exit → Act → World → Prop} {S : Array Bool → World → Prop}

theorem put_comm (a : Act) {d d' : Tmp} (u v : Value) (h : d ≠ d') : (a.put (some d) u).put (some d') v = (a.put (some d') v).put (some d) u := by
  unfold Act.put
  simp only [Array.setIfInBounds_comm u v h]

/-- operation i, at a frame, in a world: it yields a value of which R holds; I and what the others need is kept -/
def Does (P : Program) (ops : Array Oper) (Q : Exit → Act → World → Prop) (i d : Nat) (I : World → Prop) (R : Value → World → Prop) (K : World → World → Prop) (b : Act) (W : World) : Prop :=
  wpOp P ops Q i (fun c W' => ∃ v, c = b.put (some d) v ∧ I W' ∧ R v W' ∧ K W W') b W

theorem Any.duo {i j di dj : Nat} {I : World → Prop} {Ri Rj : Value → World → Prop} {n : Nat} {l : Array Bool} {a : Act} {w : World} (hS : ∀ l W, I W → S l W) (ij : i ≠ j) (dij : di ≠ dj)
    (r0 : Region.ready md ops l = [i, j]) (ri : Region.ready md ops (l.setIfInBounds i true) = [j]) (rj : Region.ready md ops (l.setIfInBounds j true) = [i])
    (hi : ∀ b, (b = a ∨ ∃ u, b = a.put (some dj) u) → ∀ W, I W → Does P ops Q i di I Ri (fun W W' => ∀ u, Rj u W → Rj u W') b W)
    (hj : ∀ b, (b = a ∨ ∃ u, b = a.put (some di) u) → ∀ W, I W → Does P ops Q j dj I Rj (fun W W' => ∀ u, Ri u W → Ri u W') b W)
    (hI : I w) (h : ∀ W u v, I W → Ri u W → Rj v W → Any P md ops Q S n ((l.setIfInBounds i true).setIfInBounds j true) ((a.put (some di) u).put (some dj) v) W) :
    Any P md ops Q S (n + 2) l a w := by
  refine Any.two r0 ?_ ?_
  · refine wpOp_mono ?_ (hi a (.inl rfl) w hI)
    rintro c W ⟨u, rfl, h1, h2, h3⟩
    refine ⟨hS _ _ h1, Any.one ri ?_⟩
    refine wpOp_mono ?_ (hj _ (.inr ⟨u, rfl⟩) W h1)
    rintro c W' ⟨v, rfl, g1, g2, g3⟩
    exact ⟨hS _ _ g1, h _ _ _ g1 (g3 _ h2) g2⟩
  · refine wpOp_mono ?_ (hj a (.inl rfl) w hI)
    rintro c W ⟨u, rfl, h1, h2, h3⟩
    refine ⟨hS _ _ h1, Any.one rj ?_⟩
    refine wpOp_mono ?_ (hi _ (.inr ⟨u, rfl⟩) W h1)
    rintro c W' ⟨v, rfl, g1, g2, g3⟩
    have := h _ _ _ g1 g2 (g3 _ h2)
    rw [put_comm _ _ _ dij, Array.setIfInBounds_comm _ _ ij] at this
    exact ⟨hS _ _ g1, this⟩

theorem Any.triple {i j k di dj dk : Nat} {I : World → Prop} {Ri Rj Rk : Value → World → Prop} {n : Nat} {l : Array Bool} {a : Act} {w : World} (hS : ∀ l W, I W → S l W)
    (ij : i ≠ j) (ik : i ≠ k) (jk : j ≠ k) (dij : di ≠ dj) (dik : di ≠ dk) (djk : dj ≠ dk)
    (r0 : Region.ready md ops l = [i, j, k]) (ri : Region.ready md ops (l.setIfInBounds i true) = [j, k]) (rj : Region.ready md ops (l.setIfInBounds j true) = [i, k]) (rk : Region.ready md ops (l.setIfInBounds k true) = [i, j])
    (rij : Region.ready md ops ((l.setIfInBounds i true).setIfInBounds j true) = [k]) (rik : Region.ready md ops ((l.setIfInBounds i true).setIfInBounds k true) = [j]) (rjk : Region.ready md ops ((l.setIfInBounds j true).setIfInBounds k true) = [i])
    (hi : ∀ b, (b = a ∨ (∃ u, b = a.put (some dj) u) ∨ (∃ u, b = a.put (some dk) u) ∨ ∃ u v, b = (a.put (some dj) u).put (some dk) v) → ∀ W, I W → Does P ops Q i di I Ri (fun W W' => (∀ u, Rj u W → Rj u W') ∧ ∀ u, Rk u W → Rk u W') b W)
    (hj : ∀ b, (b = a ∨ (∃ u, b = a.put (some di) u) ∨ (∃ u, b = a.put (some dk) u) ∨ ∃ u v, b = (a.put (some di) u).put (some dk) v) → ∀ W, I W → Does P ops Q j dj I Rj (fun W W' => (∀ u, Ri u W → Ri u W') ∧ ∀ u, Rk u W → Rk u W') b W)
    (hk : ∀ b, (b = a ∨ (∃ u, b = a.put (some di) u) ∨ (∃ u, b = a.put (some dj) u) ∨ ∃ u v, b = (a.put (some di) u).put (some dj) v) → ∀ W, I W → Does P ops Q k dk I Rk (fun W W' => (∀ u, Ri u W → Ri u W') ∧ ∀ u, Rj u W → Rj u W') b W)
    (hI : I w) (h : ∀ W u v x, I W → Ri u W → Rj v W → Rk x W → Any P md ops Q S n (((l.setIfInBounds i true).setIfInBounds j true).setIfInBounds k true) (((a.put (some di) u).put (some dj) v).put (some dk) x) W) :
    Any P md ops Q S (n + 3) l a w := by
  refine Any.all r0 (by simp) fun m hm => ?_
  simp only [List.mem_cons, List.not_mem_nil, or_false] at hm
  rcases hm with rfl | rfl | rfl
  · refine wpOp_mono ?_ (hi a (.inl rfl) w hI)
    rintro c W ⟨u, rfl, h1, h2, h3⟩
    refine ⟨hS _ _ h1, Any.duo (I := fun W => I W ∧ Ri u W) (Ri := Rj) (Rj := Rk) (fun l W h => hS _ _ h.1) jk djk ri rij rik ?_ ?_ ⟨h1, h2⟩ fun W v x hW hv hx => h W u v x hW.1 hW.2 hv hx⟩
    · rintro b hb W ⟨g1, g2⟩
      refine wpOp_mono ?_ (hj b (by rcases hb with rfl | ⟨x, rfl⟩; exact .inr (.inl ⟨_, rfl⟩); exact .inr (.inr (.inr ⟨_, _, rfl⟩))) W g1)
      rintro c W' ⟨v, rfl, e1, e2, e3, e4⟩
      exact ⟨v, rfl, ⟨e1, e3 _ g2⟩, e2, e4⟩
    · rintro b hb W ⟨g1, g2⟩
      refine wpOp_mono ?_ (hk b (by rcases hb with rfl | ⟨x, rfl⟩; exact .inr (.inl ⟨_, rfl⟩); exact .inr (.inr (.inr ⟨_, _, rfl⟩))) W g1)
      rintro c W' ⟨v, rfl, e1, e2, e3, e4⟩
      exact ⟨v, rfl, ⟨e1, e3 _ g2⟩, e2, e4⟩
  · refine wpOp_mono ?_ (hj a (.inl rfl) w hI)
    rintro c W ⟨v, rfl, h1, h2, h3⟩
    refine ⟨hS _ _ h1, Any.duo (I := fun W => I W ∧ Rj v W) (Ri := Ri) (Rj := Rk) (fun l W h => hS _ _ h.1) ik dik rj ?_ rjk ?_ ?_ ⟨h1, h2⟩ fun W u x hW hu hx => ?_⟩
    · rw [Array.setIfInBounds_comm _ _ (Ne.symm ij)]; exact rij
    · rintro b hb W ⟨g1, g2⟩
      refine wpOp_mono ?_ (hi b (by rcases hb with rfl | ⟨x, rfl⟩; exact .inr (.inl ⟨_, rfl⟩); exact .inr (.inr (.inr ⟨_, _, rfl⟩))) W g1)
      rintro c W' ⟨u, rfl, e1, e2, e3, e4⟩
      exact ⟨u, rfl, ⟨e1, e3 _ g2⟩, e2, e4⟩
    · rintro b hb W ⟨g1, g2⟩
      refine wpOp_mono ?_ (hk b (by rcases hb with rfl | ⟨x, rfl⟩; exact .inr (.inr (.inl ⟨_, rfl⟩)); exact .inr (.inr (.inr ⟨_, _, put_comm _ _ _ (Ne.symm dij)⟩))) W g1)
      rintro c W' ⟨x, rfl, e1, e2, e3, e4⟩
      exact ⟨x, rfl, ⟨e1, e4 _ g2⟩, e2, e3⟩
    · have := h W u v x hW.1 hu hW.2 hx
      rw [put_comm a u v dij, Array.setIfInBounds_comm _ _ ij] at this
      exact this
  · refine wpOp_mono ?_ (hk a (.inl rfl) w hI)
    rintro c W ⟨x, rfl, h1, h2, h3⟩
    refine ⟨hS _ _ h1, Any.duo (I := fun W => I W ∧ Rk x W) (Ri := Ri) (Rj := Rj) (fun l W h => hS _ _ h.1) ij dij rk ?_ ?_ ?_ ?_ ⟨h1, h2⟩ fun W u v hW hu hv => ?_⟩
    · rw [Array.setIfInBounds_comm _ _ (Ne.symm ik)]; exact rik
    · rw [Array.setIfInBounds_comm _ _ (Ne.symm jk)]; exact rjk
    · rintro b hb W ⟨g1, g2⟩
      refine wpOp_mono ?_ (hi b (by rcases hb with rfl | ⟨v, rfl⟩; exact .inr (.inr (.inl ⟨_, rfl⟩)); exact .inr (.inr (.inr ⟨_, _, put_comm _ _ _ (Ne.symm djk)⟩))) W g1)
      rintro c W' ⟨u, rfl, e1, e2, e3, e4⟩
      exact ⟨u, rfl, ⟨e1, e4 _ g2⟩, e2, e3⟩
    · rintro b hb W ⟨g1, g2⟩
      refine wpOp_mono ?_ (hj b (by rcases hb with rfl | ⟨v, rfl⟩; exact .inr (.inr (.inl ⟨_, rfl⟩)); exact .inr (.inr (.inr ⟨_, _, put_comm _ _ _ (Ne.symm dik)⟩))) W g1)
      rintro c W' ⟨v, rfl, e1, e2, e3, e4⟩
      exact ⟨v, rfl, ⟨e1, e4 _ g2⟩, e2, e3⟩
    · have := h W u v x hW.1 hu hv hW.2
      rw [put_comm (a.put (some di) u) v x djk, put_comm a u x dik, Array.setIfInBounds_comm _ _ jk, Array.setIfInBounds_comm _ _ ik] at this
      exact this
end Go.Proofs.Rg

