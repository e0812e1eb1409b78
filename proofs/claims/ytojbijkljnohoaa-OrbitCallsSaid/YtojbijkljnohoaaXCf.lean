/- Regions that draw: two operations in sequence, and one that waits for neither. -/
import Derived.Test.YtojbijkljnohoaaXRwSiRv
set_option linter.unusedVariables false
namespace Go.Proofs.Rg
open Go Go.RowKit
variable {P : Program} {md : Region.Mode} {ops : Array Oper} {Q : Exit → Act → World → Prop} {S : Array Bool → World → Prop}

/-- i makes a block, then k uses it (and consumes R0); j makes a block at any time -/
theorem Any.c2f1 {i k j di dk dj : Nat} {I R0 : World → Prop} {Ri Rk Rj : Value → World → Prop} {n : Nat} {l : Array Bool} {a : Act} {w : World} (hS : ∀ l W, I W → S l W)
    (ij : i ≠ j) (kj : k ≠ j) (dij : di ≠ dj) (dkj : dk ≠ dj)
    (r0 : Region.ready md ops l = [i, j]) (ri : Region.ready md ops (l.setIfInBounds i true) = [k, j]) (rj : Region.ready md ops (l.setIfInBounds j true) = [i])
    (rik : Region.ready md ops ((l.setIfInBounds i true).setIfInBounds k true) = [j]) (rij : Region.ready md ops ((l.setIfInBounds i true).setIfInBounds j true) = [k])
    (s0 : ∀ W W', Below W.heap.size W W' → R0 W → R0 W') (si : ∀ u W W', Below W.heap.size W W' → Ri u W → Ri u W') (sk : ∀ u W W', Below W.heap.size W W' → Rk u W → Rk u W') (sj : ∀ u W W', Below W.heap.size W W' → Rj u W → Rj u W')
    (hi : ∀ b, (b = a ∨ ∃ u, b = a.put (some dj) u) → ∀ W, I W → Does P ops Q i di I Ri (fun W W' => Below W.heap.size W W') b W)
    (hj : ∀ b, (b = a ∨ (∃ u, b = a.put (some di) u) ∨ ∃ u v, b = (a.put (some di) u).put (some dk) v) → ∀ W, I W → Does P ops Q j dj I Rj (fun W W' => Below W.heap.size W W') b W)
    (hk : ∀ u b, (b = a.put (some di) u ∨ ∃ v, b = (a.put (some di) u).put (some dj) v) → ∀ W, I W → R0 W → Ri u W → Does P ops Q k dk I Rk (fun W W' => ∀ v, Rj v W → Rj v W') b W)
    (hI : I w) (h0 : R0 w) (h : ∀ W u x v, I W → Rk x W → Rj v W → Any P md ops Q S n (((l.setIfInBounds i true).setIfInBounds k true).setIfInBounds j true) (((a.put (some di) u).put (some dk) x).put (some dj) v) W) :
    Any P md ops Q S (n + 3) l a w := by
  refine Any.two r0 ?_ ?_
  · refine wpOp_mono ?_ (hi a (.inl rfl) w hI)
    rintro c W ⟨u, rfl, h1, h2, h3⟩
    refine ⟨hS _ _ h1, Any.two ri ?_ ?_⟩
    · refine wpOp_mono ?_ (hk u _ (.inl rfl) W h1 (s0 _ _ h3 h0) h2)
      rintro c W' ⟨x, rfl, g1, g2, g3⟩
      refine ⟨hS _ _ g1, Any.one rik ?_⟩
      refine wpOp_mono ?_ (hj _ (.inr (.inr ⟨u, x, rfl⟩)) W' g1)
      rintro c W'' ⟨v, rfl, e1, e2, e3⟩
      exact ⟨hS _ _ e1, h _ _ _ _ e1 (sk _ _ _ e3 g2) e2⟩
    · refine wpOp_mono ?_ (hj _ (.inr (.inl ⟨u, rfl⟩)) W h1)
      rintro c W' ⟨v, rfl, g1, g2, g3⟩
      refine ⟨hS _ _ g1, Any.one rij ?_⟩
      refine wpOp_mono ?_ (hk u _ (.inr ⟨v, rfl⟩) W' g1 (s0 _ _ g3 (s0 _ _ h3 h0)) (si _ _ _ g3 h2))
      rintro c W'' ⟨x, rfl, e1, e2, e3⟩
      have := h W'' u x v e1 e2 (e3 _ g2)
      rw [put_comm _ x v dkj, Array.setIfInBounds_comm _ _ kj] at this
      exact ⟨hS _ _ e1, this⟩
  · refine wpOp_mono ?_ (hj a (.inl rfl) w hI)
    rintro c W ⟨v, rfl, h1, h2, h3⟩
    refine ⟨hS _ _ h1, Any.one rj ?_⟩
    refine wpOp_mono ?_ (hi _ (.inr ⟨v, rfl⟩) W h1)
    rintro c W' ⟨u, rfl, g1, g2, g3⟩
    refine ⟨hS _ _ g1, Any.one (by rw [Array.setIfInBounds_comm _ _ (Ne.symm ij)]; exact rij) ?_⟩
    rw [put_comm a v u (Ne.symm dij)]
    refine wpOp_mono ?_ (hk u _ (.inr ⟨v, rfl⟩) W' g1 (s0 _ _ g3 (s0 _ _ h3 h0)) g2)
    rintro c W'' ⟨x, rfl, e1, e2, e3⟩
    have := h W'' u x v e1 e2 (e3 _ (sj _ _ _ g3 h2))
    rw [put_comm _ x v dkj, Array.setIfInBounds_comm _ _ kj, Array.setIfInBounds_comm _ _ ij] at this
    exact ⟨hS _ _ e1, this⟩
theorem doesRun {i d : Nat} {I : World → Prop} {R : Value → World → Prop} {K : World → World → Prop} {oi : Oper} {b : Act} {W W' : World} {v : Value} (hi : ops[i]? = some oi) (hd : oi.dst = some d) (hw : Region.wanted oi (yielded ops b.tmps) = true)
    (hr : (execOp b.eval oi).run P W = .ok (.value v) W') (hp : I W' ∧ R v W' ∧ K W W') : Does P ops Q i d I R K b W :=
  wpOp_value (some d) hi hd hw hr ⟨v, rfl, hp⟩
/-- a new block of values -/
def Blk (us : List Value) (v : Value) (w : World) : Prop := ∃ p, v = .slice (some ⟨p, 0, none⟩) us.length us.length ∧ p < w.heap.size ∧ ∀ j (h : j < us.length), w.cell? ⟨p, j, none⟩ = some us[j]
theorem Blk.below {us : List Value} {v : Value} {w w' : World} (h : Blk us v w) (hb : Below w.heap.size w w') : Blk us v w' := by
  obtain ⟨p, e, h1, h2⟩ := h
  exact ⟨p, e, Nat.lt_of_lt_of_le h1 hb.size, fun j hj => (hb.cell (p := ⟨p, j, none⟩) h1).trans (h2 j hj)⟩
theorem Blk.new (w : World) (us : List Value) (t : TypeId) : Blk us (.slice (some ⟨w.heap.size, 0, none⟩) us.length us.length) (w.alloc (.cells us.toArray t)) :=
  ⟨w.heap.size, rfl, by simp, fun j hj => by rw [cellNew]; simp [List.getElem?_eq_getElem hj]⟩
/-- a new block from B on -/
def BlkF (B : Nat) (us : List Value) (v : Value) (w : World) : Prop := ∃ p, v = .slice (some ⟨p, 0, none⟩) us.length us.length ∧ B ≤ p ∧ p < w.heap.size ∧ ∀ j (h : j < us.length), w.cell? ⟨p, j, none⟩ = some us[j]
theorem BlkF.below {B : Nat} {us : List Value} {v : Value} {w w' : World} (h : BlkF B us v w) (hb : Below w.heap.size w w') : BlkF B us v w' := by
  obtain ⟨p, e, h0, h1, h2⟩ := h
  exact ⟨p, e, h0, Nat.lt_of_lt_of_le h1 hb.size, fun j hj => (hb.cell (p := ⟨p, j, none⟩) h1).trans (h2 j hj)⟩
theorem BlkF.new {B : Nat} (w : World) (us : List Value) (t : TypeId) (hB : B ≤ w.heap.size) : BlkF B us (.slice (some ⟨w.heap.size, 0, none⟩) us.length us.length) (w.alloc (.cells us.toArray t)) :=
  ⟨w.heap.size, rfl, hB, by simp, fun j hj => by rw [cellNew]; simp [List.getElem?_eq_getElem hj]⟩
theorem BlkF.grown {B : Nat} {us : List Value} {v : Value} {w w' : World} {k : Option Nat} (h : BlkF B us v w) (hg : w.grownBy w' k) (hk : ∀ j, k = some j → j < B) : BlkF B us v w' := by
  obtain ⟨p, e, h0, h1, h2⟩ := h
  exact ⟨p, e, h0, Nat.lt_of_lt_of_le h1 hg.size, fun j hj => by
    rw [← h2 j hj]
    exact World.cell?_of_block (a := ⟨p, j, none⟩) (hg.block p h1 (fun e => by have := hk p e.symm; omega))⟩
theorem BlkF.vals {B : Nat} {us : List Value} {v : Value} {w : World} (h : BlkF B us v w) (hl : us.length ≤ 1000000) : Vals w v us := by
  obtain ⟨p, rfl, h0, h1, h2⟩ := h
  exact Vals.mk h1 (Nat.le_refl _) (by unfold maxLen; omega) (by omega) (fun i hi => by rw [Nat.zero_add]; exact h2 i hi)
end Go.Proofs.Rg

