/- Lemmas and contracts on the way to the statement; no condition of their own beyond those written. -/
import Derived.Test.YtjifdmfoijoekaaXPs
import Derived.Test.YtjifdmfoijoekaaXRu
set_option linter.unusedVariables false
namespace Go.Proofs.Rg
open Go Go.RowKit
theorem row_kp {M : Nat → Prop} {w w' : World} {base : Nat} {e : TypeId} {size : Nat} {v : Value} {n : Nat} {xs : List Value} (h : w.ownsRow base e size v n xs) (hk : Kp M w w') (hM : ∀ k, M k → v.ownBlock ≠ some k) : w'.ownsRow base e size v n xs := by
  obtain ⟨h1, h2⟩ := h
  rcases h2 with h2 | ⟨g, cap, cur, rfl, hg, hc, h3⟩
  · exact ⟨h1, .inl h2⟩
  · exact ⟨h1, .inr ⟨g, cap, cur, rfl, hg, (hk.block g (Array.getElem?_eq_some_iff.1 hc).1 (fun e => hM g e (by simp [Value.ownBlock]))).trans hc, h3⟩⟩
theorem tag_apart {w : World} {b b' : Nat} {e e' : TypeId} {v v' : Value} {n n' s s' : Nat} {xs xs' : List Value} (h : w.ownsRow b e s v n xs) (h' : w.ownsRow b' e' s' v' n' xs') (hne : e ≠ e') : Apart v v' := by
  obtain ⟨_, h2⟩ := h
  obtain ⟨_, h2'⟩ := h'
  intro g h3 h4
  rcases h2 with ⟨rfl, _⟩ | ⟨g1, cap, cur, rfl, hg, hc, _⟩
  · simp [Value.ownBlock] at h3
  · rcases h2' with ⟨rfl, _⟩ | ⟨g2, cap', cur', rfl, hg', hc', _⟩
    · simp [Value.ownBlock] at h4
    · simp [Value.ownBlock] at h3 h4
      subst h3; subst h4
      rw [hc] at hc'; simp at hc'
      exact hne hc'.2
theorem tag_block {w : World} {rb b n s : Nat} {e t : TypeId} {cs : Array Value} {v : Value} {us : List Value} (hb : w.heap[rb]? = some (.cells cs t (0, 0))) (hr : w.ownsRow b e s v n us) (ht : t ≠ e) : v.ownBlock ≠ some rb := fun h => by
  obtain ⟨_, h2⟩ := hr
  rcases h2 with ⟨rfl, _⟩ | ⟨g, cap, cur, rfl, _, hc, _⟩
  · simp [Value.ownBlock] at h
  · simp [Value.ownBlock] at h; subst h; rw [hc] at hb; simp at hb; exact ht hb.2.symm
/-- the row's new block is its old one or a new one -/
def Nw (w : World) (v v' : Value) : Prop := ∀ k, v'.ownBlock = some k → v.ownBlock = some k ∨ w.heap.size ≤ k
theorem Nw.refl (w : World) (v : Value) : Nw w v v := fun _ h => .inl h
theorem Nw.nil (w : World) (v : Value) : Nw w v (.slice none 0 0) := fun _ h => by simp [Value.ownBlock] at h
theorem Nw.of {w : World} {v v' : Value} {g : Nat} (h : v'.ownBlock = v.ownBlock ∨ v'.ownBlock = some g) (hg : w.heap.size ≤ g) : Nw w v v' := fun k hk => by
  rcases h with h | h
  · exact .inl (h ▸ hk)
  · rw [h] at hk; simp at hk; exact .inr (by omega)
end Go.Proofs.Rg
namespace Go.Proofs.Ytjifdmfoijoekaa
open Go.RowKit
open Go.Proofs
attribute [local irreducible] Go.Calls Go.wpStill

/-- the blocks that no longer change -/
def Fz (w : World) (rb : Nat) (ev wv av v7 v8 : Value) (k : Nat) : Prop :=
  k < w.heap.size ∧ k ≠ rb ∧ ev.ownBlock ≠ some k ∧ wv.ownBlock ≠ some k ∧ av.ownBlock ≠ some k ∧ v7.ownBlock ≠ some k ∧ v8.ownBlock ≠ some k
theorem Fz.up {w w' : World} {rb : Nat} {ev wv av v7 v8 ev' wv' av' v7' v8' : Value} (hs : w.heap.size ≤ w'.heap.size) (h1 : Rg.Nw w ev ev') (h2 : Rg.Nw w wv wv') (h3 : Rg.Nw w av av') (h4 : Rg.Nw w v7 v7') (h5 : Rg.Nw w v8 v8') :
    ∀ k, Fz w rb ev wv av v7 v8 k → Fz w' rb ev' wv' av' v7' v8' k := by
  rintro k ⟨a, b, c1, c2, c3, c4, c5⟩
  have aux : ∀ {v v' : Value}, Rg.Nw w v v' → v.ownBlock ≠ some k → v'.ownBlock ≠ some k := fun h hv e => by
    rcases h k e with h | h
    · exact hv h
    · omega
  exact ⟨by omega, b, aux h1 c1, aux h2 c2, aux h3 c3, aux h4 c4, aux h5 c5⟩
/-- the reference's ball under way -/
structure RB (W0 w : World) (rb : Nat) (ev wv av v7 v8 : Value) (E V : List (List (List Int))) (L e7 e8 : List (List Int)) : Prop where
  below : Below W0.heap.size W0 w
  lo : W0.heap.size ≤ rb
  blk : w.heap[rb]? = some (.cells #[ev, wv, av] 69 (0, 0))
  oe : ∃ us, w.ownsRow W0.heap.size 22 1 ev E.length us ∧ Rg.FElts2 (Fz w rb ev wv av v7 v8) w us E
  ow : ∃ us, w.ownsRow W0.heap.size 79 1 wv V.length us ∧ Rg.FElts2 (Fz w rb ev wv av v7 v8) w us V
  oa : ∃ us, w.ownsRow W0.heap.size 39 1 av L.length us ∧ Rg.FElts (Fz w rb ev wv av v7 v8) w us L
  o7 : ∃ us, w.ownsRow W0.heap.size 39 1 v7 e7.length us ∧ Rg.FElts (Fz w rb ev wv av v7 v8) w us e7
  o8 : ∃ us, w.ownsRow W0.heap.size 40 1 v8 e8.length us ∧ Rg.FElts (Fz w rb ev wv av v7 v8) w us e8
  ap : Rg.Apart v7 av

variable {W0 w w' : World} {rb : Nat} {ev wv av v7 v8 : Value} {E V : List (List (List Int))} {L e7 e8 : List (List Int)}
theorem RB.quiet (h : RB W0 w rb ev wv av v7 v8 E V L e7 e8) (hb : Below w.heap.size w w') : RB W0 w' rb ev wv av v7 v8 E V L e7 e8 := by
  have hk : Rg.Kp (fun _ => False) w w' := Rg.Kp.of_below hb
  have hf : ∀ k, Fz w rb ev wv av v7 v8 k → Fz w' rb ev wv av v7 v8 k := Fz.up hb.size (.refl _ _) (.refl _ _) (.refl _ _) (.refl _ _) (.refl _ _)
  obtain ⟨ue, e1, e2⟩ := h.oe
  obtain ⟨uw, w1, w2⟩ := h.ow
  obtain ⟨ua, a1, a2⟩ := h.oa
  obtain ⟨u7, x1, x2⟩ := h.o7
  obtain ⟨u8, y1, y2⟩ := h.o8
  exact ⟨Rg.acc h.below hb, h.lo, (hb.block rb (Array.getElem?_eq_some_iff.1 h.blk).1).trans h.blk, ⟨ue, Rg.row_below e1 hb, (e2.kp hk (fun _ _ e => e)).mono hf⟩, ⟨uw, Rg.row_below w1 hb, (w2.kp hk (fun _ _ e => e)).mono hf⟩, ⟨ua, Rg.row_below a1 hb, (a2.kp hk (fun _ _ e => e)).mono hf⟩, ⟨u7, Rg.row_below x1 hb, (x2.kp hk (fun _ _ e => e)).mono hf⟩, ⟨u8, Rg.row_below y1 hb, (y2.kp hk (fun _ _ e => e)).mono hf⟩, h.ap⟩
/-- what is in a new block, or came in, is frozen -/
theorem RB.new (h : RB W0 w rb ev wv av v7 v8 E V L e7 e8) {k : Nat} (h1 : w.heap.size ≤ k) (h2 : k < w'.heap.size) : Fz w' rb ev wv av v7 v8 k := by
  obtain ⟨ue, e1, e2⟩ := h.oe
  obtain ⟨uw, w1, w2⟩ := h.ow
  obtain ⟨ua, a1, a2⟩ := h.oa
  obtain ⟨u7, x1, x2⟩ := h.o7
  obtain ⟨u8, y1, y2⟩ := h.o8
  have hr := (Array.getElem?_eq_some_iff.1 h.blk).1
  have aux : ∀ {e : TypeId} {s n : Nat} {v : Value} {xs : List Value}, w.ownsRow W0.heap.size e s v n xs → v.ownBlock ≠ some k := fun h e => by have := (h.lt k e).2; omega
  exact ⟨h2, by omega, aux e1, aux w1, aux a1, aux x1, aux y1⟩
theorem RB.old (h : RB W0 w rb ev wv av v7 v8 E V L e7 e8) {k : Nat} (h1 : k < W0.heap.size) : Fz w rb ev wv av v7 v8 k := by
  obtain ⟨ue, e1, e2⟩ := h.oe
  obtain ⟨uw, w1, w2⟩ := h.ow
  obtain ⟨ua, a1, a2⟩ := h.oa
  obtain ⟨u7, x1, x2⟩ := h.o7
  obtain ⟨u8, y1, y2⟩ := h.o8
  have hr := h.lo
  have aux : ∀ {e : TypeId} {s n : Nat} {v : Value} {xs : List Value}, w.ownsRow W0.heap.size e s v n xs → v.ownBlock ≠ some k := fun h e => by have := (h.lt k e).1; omega
  exact ⟨Nat.lt_of_lt_of_le h1 h.below.size, by omega, aux e1, aux w1, aux a1, aux x1, aux y1⟩
/-- an element was put in, or was there -/
theorem RB.ins (h : RB W0 w rb ev wv av v7 v8 E V L e7 e8) {x : List Int} (hp : InsPost (Fz w rb ev wv av v7 v8) rb ev wv av x L W0 w w') :
    ∃ av' L', RB W0 w' rb ev wv av' v7 v8 E V L' e7 e8 ∧ Asc L' ∧ (∀ y, y ∈ L' ↔ y ∈ L ∨ y = x) ∧ ((x ∈ L → L'.length = L.length) ∧ L'.length ≤ L.length + 1) ∧ ∀ v l, Rg.FI (Fz w rb ev wv av v7 v8) w v l → Rg.FI (Fz w' rb ev wv av' v7 v8) w' v l := by
  obtain ⟨av', us', L', p1, p2, p3, p4, p5, p6, p7, p8⟩ := hp
  obtain ⟨ue, e1, e2⟩ := h.oe
  obtain ⟨uw, w1, w2⟩ := h.ow
  obtain ⟨ua, a1, a2⟩ := h.oa
  obtain ⟨u7, x1, x2⟩ := h.o7
  obtain ⟨u8, y1, y2⟩ := h.o8
  have hnw : Rg.Nw w av av' := by
    intro k hk
    rcases p7 with p7 | ⟨g, p7, hg⟩
    · exact .inl (p7 ▸ hk)
    · rw [p7] at hk; simp at hk; exact .inr (by omega)
  have hf : ∀ k, Fz w rb ev wv av v7 v8 k → Fz w' rb ev wv av' v7 v8 k := Fz.up p8.size (.refl _ _) (.refl _ _) hnw (.refl _ _) (.refl _ _)
  have hM : ∀ k, Fz w rb ev wv av v7 v8 k → ¬ (k = rb ∨ av.ownBlock = some k) := fun k hk e => by
    obtain ⟨_, b, _, _, c, _⟩ := hk
    exact e.elim b c
  have aux : ∀ {e : TypeId} {n : Nat} {v : Value} {xs : List Value}, w.ownsRow W0.heap.size e 1 v n xs → 69 ≠ e → Rg.Apart av v → w'.ownsRow W0.heap.size e 1 v n xs := fun hv he ha => by
    refine Rg.row_kp hv p8 (fun k hk => ?_)
    rcases hk with rfl | hk
    · exact Rg.tag_block h.blk hv he
    · exact ha k hk
  refine ⟨av', L', ⟨p8.below h.below (fun k hk => ?_), h.lo, p1, ⟨ue, aux e1 (by decide) (Rg.tag_apart a1 e1 (by decide)), (e2.kp p8 hM).mono hf⟩, ⟨uw, aux w1 (by decide) (Rg.tag_apart a1 w1 (by decide)), (w2.kp p8 hM).mono hf⟩, ⟨us', p2, p3.mono hf⟩, ⟨u7, aux x1 (by decide) h.ap.symm, (x2.kp p8 hM).mono hf⟩, ⟨u8, aux y1 (by decide) (Rg.tag_apart a1 y1 (by decide)), (y2.kp p8 hM).mono hf⟩, ?_⟩, p4, p5, p6, fun v l hv => (hv.kp p8 hM).mono hf⟩
  · rcases hk with rfl | hk
    · exact h.lo
    · exact (a1.lt k hk).1
  · intro b hb1 hb2
    rcases hnw b hb2 with h3 | h3
    · exact h.ap b hb1 h3
    · have := (x1.lt b hb1).2; omega
/-- an element appended to the level -/
theorem RB.app7 (h : RB W0 w rb ev wv av v7 v8 E V L e7 e8) {v7' u : Value} {x : List Int} {us : List Value} {o : Obj} (hus : w.ownsRow W0.heap.size 39 1 v7 e7.length us ∧ Rg.FElts (Fz w rb ev wv av v7 v8) w us e7) (hu : Rg.FI (Fz w rb ev wv av v7 v8) w u x)
    (hr : w'.ownsRow W0.heap.size 39 1 v7' (e7.length + 1) (us ++ [u])) (hg : (w.alloc o).grownBy w' v7.ownBlock) (ho : v7'.ownBlock = v7.ownBlock ∨ v7'.ownBlock = some (w.heap.size + 1)) :
    RB W0 w' rb ev wv av v7' v8 E V L (e7 ++ [x]) e8 := by
  obtain ⟨ue, e1, e2⟩ := h.oe
  obtain ⟨uw, w1, w2⟩ := h.ow
  obtain ⟨ua, a1, a2⟩ := h.oa
  obtain ⟨x1, x2⟩ := hus
  obtain ⟨u8, y1, y2⟩ := h.o8
  have hnw : Rg.Nw w v7 v7' := Rg.Nw.of ho (by omega)
  have hk : Rg.Kp (fun k => v7.ownBlock = some k) w w' := (Rg.Kp.of_below ((Below.refl w.heap.size w).alloc (Nat.le_refl _) _)).trans (Rg.Kp.of_grown hg (fun k e => e)) (fun k _ e => e)
  have hf : ∀ k, Fz w rb ev wv av v7 v8 k → Fz w' rb ev wv av v7' v8 k := Fz.up hk.size (.refl _ _) (.refl _ _) (.refl _ _) hnw (.refl _ _)
  have hM : ∀ k, Fz w rb ev wv av v7 v8 k → ¬ (v7.ownBlock = some k) := fun k hk e => hk.2.2.2.2.2.1 e
  have aux : ∀ {e : TypeId} {n : Nat} {v : Value} {xs : List Value}, w.ownsRow W0.heap.size e 1 v n xs → Rg.Apart v7 v → w'.ownsRow W0.heap.size e 1 v n xs := fun hv ha => Rg.row_kp hv hk (fun k hk => ha k hk)
  refine ⟨hk.below h.below (fun k e => (x1.lt k e).1), h.lo, (hk.block rb (Array.getElem?_eq_some_iff.1 h.blk).1 (Rg.tag_block h.blk x1 (by decide))).trans h.blk, ⟨ue, aux e1 (Rg.tag_apart x1 e1 (by decide)), (e2.kp hk hM).mono hf⟩, ⟨uw, aux w1 (Rg.tag_apart x1 w1 (by decide)), (w2.kp hk hM).mono hf⟩, ⟨ua, aux a1 h.ap, (a2.kp hk hM).mono hf⟩, ⟨_, by rw [List.length_append]; exact hr, ((x2.kp hk hM).mono hf).app (Rg.FElts.one ((hu.kp hk hM).mono hf))⟩, ⟨u8, aux y1 (Rg.tag_apart x1 y1 (by decide)), (y2.kp hk hM).mono hf⟩, ?_⟩
  intro b hb1 hb2
  rcases hnw b hb1 with h3 | h3
  · exact h.ap b h3 hb2
  · have := (a1.lt b hb2).2; omega
theorem RB.app8 (h : RB W0 w rb ev wv av v7 v8 E V L e7 e8) {v8' u : Value} {x : List Int} {us : List Value} {o : Obj} (hus : w.ownsRow W0.heap.size 40 1 v8 e8.length us ∧ Rg.FElts (Fz w rb ev wv av v7 v8) w us e8) (hu : Rg.FI (Fz w rb ev wv av v7 v8) w u x)
    (hr : w'.ownsRow W0.heap.size 40 1 v8' (e8.length + 1) (us ++ [u])) (hg : (w.alloc o).grownBy w' v8.ownBlock) (ho : v8'.ownBlock = v8.ownBlock ∨ v8'.ownBlock = some (w.heap.size + 1)) :
    RB W0 w' rb ev wv av v7 v8' E V L e7 (e8 ++ [x]) := by
  obtain ⟨ue, e1, e2⟩ := h.oe
  obtain ⟨uw, w1, w2⟩ := h.ow
  obtain ⟨ua, a1, a2⟩ := h.oa
  obtain ⟨u7, x1, x2⟩ := h.o7
  obtain ⟨y1, y2⟩ := hus
  have hnw : Rg.Nw w v8 v8' := Rg.Nw.of ho (by omega)
  have hk : Rg.Kp (fun k => v8.ownBlock = some k) w w' := (Rg.Kp.of_below ((Below.refl w.heap.size w).alloc (Nat.le_refl _) _)).trans (Rg.Kp.of_grown hg (fun k e => e)) (fun k _ e => e)
  have hf : ∀ k, Fz w rb ev wv av v7 v8 k → Fz w' rb ev wv av v7 v8' k := Fz.up hk.size (.refl _ _) (.refl _ _) (.refl _ _) (.refl _ _) hnw
  have hM : ∀ k, Fz w rb ev wv av v7 v8 k → ¬ (v8.ownBlock = some k) := fun k hk e => hk.2.2.2.2.2.2 e
  have aux : ∀ {e : TypeId} {n : Nat} {v : Value} {xs : List Value}, w.ownsRow W0.heap.size e 1 v n xs → 40 ≠ e → w'.ownsRow W0.heap.size e 1 v n xs := fun hv he => Rg.row_kp hv hk (fun k hk => Rg.tag_apart y1 hv he k hk)
  exact ⟨hk.below h.below (fun k e => (y1.lt k e).1), h.lo, (hk.block rb (Array.getElem?_eq_some_iff.1 h.blk).1 (Rg.tag_block h.blk y1 (by decide))).trans h.blk, ⟨ue, aux e1 (by decide), (e2.kp hk hM).mono hf⟩, ⟨uw, aux w1 (by decide), (w2.kp hk hM).mono hf⟩, ⟨ua, aux a1 (by decide), (a2.kp hk hM).mono hf⟩, ⟨u7, aux x1 (by decide), (x2.kp hk hM).mono hf⟩, ⟨_, by rw [List.length_append]; exact hr, ((y2.kp hk hM).mono hf).app (Rg.FElts.one ((hu.kp hk hM).mono hf))⟩, h.ap⟩
/-- a level put to the others -/
theorem RB.level (h : RB W0 w rb ev wv av v7 v8 E V L e7 e8) {ev' wv' : Value} {ue uw : List Value} (hue : w.ownsRow W0.heap.size 22 1 ev E.length ue ∧ Rg.FElts2 (Fz w rb ev wv av v7 v8) w ue E) (huw : w.ownsRow W0.heap.size 79 1 wv V.length uw ∧ Rg.FElts2 (Fz w rb ev wv av v7 v8) w uw V)
    (hb : w'.heap[rb]? = some (.cells #[ev', wv', av] 69 (0, 0))) (he : w'.ownsRow W0.heap.size 22 1 ev' (E.length + 1) (ue ++ [v7])) (hw : w'.ownsRow W0.heap.size 79 1 wv' (V.length + 1) (uw ++ [v8]))
    (hk : Rg.Kp (fun k => k = rb ∨ ev.ownBlock = some k ∨ wv.ownBlock = some k) w w') (n1 : Rg.Nw w ev ev') (n2 : Rg.Nw w wv wv') (l7 : e7.length ≤ 1000000000) (l8 : e8.length ≤ 1000000000) :
    RB W0 w' rb ev' wv' av (.slice none 0 0) (.slice none 0 0) (E ++ [e7]) (V ++ [e8]) L [] [] := by
  obtain ⟨e1, e2⟩ := hue
  obtain ⟨w1, w2⟩ := huw
  obtain ⟨ua, a1, a2⟩ := h.oa
  obtain ⟨u7, x1, x2⟩ := h.o7
  obtain ⟨u8, y1, y2⟩ := h.o8
  have hf : ∀ k, Fz w rb ev wv av v7 v8 k → Fz w' rb ev' wv' av (.slice none 0 0) (.slice none 0 0) k := Fz.up hk.size n1 n2 (.refl _ _) (.nil _ _) (.nil _ _)
  have hM : ∀ k, Fz w rb ev wv av v7 v8 k → ¬ (k = rb ∨ ev.ownBlock = some k ∨ wv.ownBlock = some k) := fun k hk e => by
    obtain ⟨_, b, c, d, _⟩ := hk
    rcases e with e | e | e
    · exact b e
    · exact c e
    · exact d e
  have aux : ∀ {e : TypeId} {n : Nat} {v : Value} {xs : List Value}, w.ownsRow W0.heap.size e 1 v n xs → 69 ≠ e → 22 ≠ e → 79 ≠ e → w'.ownsRow W0.heap.size e 1 v n xs := fun hv h1 h2 h3 => by
    refine Rg.row_kp hv hk (fun k hk => ?_)
    rcases hk with rfl | hk | hk
    · exact Rg.tag_block h.blk hv h1
    · exact Rg.tag_apart e1 hv h2 k hk
    · exact Rg.tag_apart w1 hv h3 k hk
  have a1' := aux a1 (by decide) (by decide) (by decide)
  have x1' := aux x1 (by decide) (by decide) (by decide)
  have y1' := aux y1 (by decide) (by decide) (by decide)
  -- the level's own rows are frozen now
  have own : ∀ {e : TypeId} {n : Nat} {v : Value} {xs : List Value}, w'.ownsRow W0.heap.size e 1 v n xs → 69 ≠ e → e ≠ 22 → e ≠ 79 → Rg.Apart v av → ∀ b, v.ownBlock = some b → Fz w' rb ev' wv' av (.slice none 0 0) (.slice none 0 0) b := fun hv h1 h2 h3 h4 b hb1 => by
    refine ⟨(hv.lt b hb1).2, fun e => Rg.tag_block hb hv h1 (e ▸ hb1), Rg.tag_apart hv he h2 b hb1, Rg.tag_apart hv hw h3 b hb1, h4 b hb1, by simp [Value.ownBlock], by simp [Value.ownBlock]⟩
  have r7 : Rg.FRows (Fz w' rb ev' wv' av (.slice none 0 0) (.slice none 0 0)) w' v7 e7 := ⟨u7, Rg.FVals.of (Rg.Vals.of_row x1' l7) (own x1' (by decide) (by decide) (by decide) h.ap), (x2.kp hk hM).mono hf⟩
  have r8 : Rg.FRows (Fz w' rb ev' wv' av (.slice none 0 0) (.slice none 0 0)) w' v8 e8 := ⟨u8, Rg.FVals.of (Rg.Vals.of_row y1' l8) (own y1' (by decide) (by decide) (by decide) (Rg.tag_apart y1' a1' (by decide))), (y2.kp hk hM).mono hf⟩
  have nil : ∀ (e : TypeId), w'.ownsRow W0.heap.size e 1 (.slice none 0 0) 0 [] := fun e => ⟨rfl, .inl ⟨rfl, rfl⟩⟩
  refine ⟨hk.below h.below (fun k hk => ?_), h.lo, hb, ⟨_, by rw [List.length_append]; exact he, ((e2.kp hk hM).mono hf).snoc r7⟩, ⟨_, by rw [List.length_append]; exact hw, ((w2.kp hk hM).mono hf).snoc r8⟩, ⟨ua, a1', (a2.kp hk hM).mono hf⟩, ⟨[], nil _, Rg.FElts.nil _ _⟩, ⟨[], nil _, Rg.FElts.nil _ _⟩, Rg.Apart.nil _⟩
  rcases hk with rfl | hk | hk
  · exact h.lo
  · exact (e1.lt k hk).1
  · exact (w1.lt k hk).1
end Go.Proofs.Ytjifdmfoijoekaa

namespace Go.Proofs.Ytjifdmfoijoekaa
open Go.RowKit
open Go.Proofs
attribute [local irreducible] Go.Calls Go.wpStill

theorem foldW_len (D : Nat) : ∀ (l : List (List Nat × List Int)) (st : List (List Nat × Nat) × List (List Nat × List Int)), (l.foldl (gstepW D) st).1.length ≤ st.1.length + l.length ∧ (l.foldl (gstepW D) st).2.length ≤ st.2.length + l.length
  | [], st => by simp
  | x :: l, st => by
    obtain ⟨h1, h2⟩ := foldW_len D l (gstepW D st x)
    have h3 : (gstepW D st x).1.length ≤ st.1.length + 1 ∧ (gstepW D st x).2.length ≤ st.2.length + 1 := by
      unfold gstepW; split <;> simp
    rw [List.foldl_cons, List.length_cons]
    omega
theorem foldW_mem (D : Nat) (T : List Nat × List Int → Prop) : ∀ (l : List (List Nat × List Int)) (st : List (List Nat × Nat) × List (List Nat × List Int)), (∀ x ∈ l, T x) → (∀ x ∈ st.2, T x) → ∀ x ∈ (l.foldl (gstepW D) st).2, T x
  | [], st, _, h, x, hx => h x hx
  | y :: l, st, hl, h, x, hx => by
    rw [List.foldl_cons] at hx
    refine foldW_mem D T l _ (fun z hz => hl z (by simp [hz])) ?_ x hx
    intro z hz
    unfold gstepW at hz
    split at hz
    · exact h z hz
    · rcases List.mem_append.1 hz with hz | hz
      · exact h z hz
      · obtain rfl : z = y := by simpa using hz
        exact hl z (by simp)
theorem len_candsW (sh : List (List Nat × List Int)) (ml : List (List Nat × Int)) : (candsW sh ml).length = sh.length * ml.length := by
  unfold candsW
  induction sh with
  | nil => simp
  | cons a r ih => rw [List.flatMap_cons, List.length_append, ih, List.length_map, List.length_cons, Nat.add_mul]; omega
theorem wIter_cnt (ml : List (List Nat × Int)) (c : List Nat) (h : ml.length ≤ 12) : ∀ k, (wIter ml c k).2.length ≤ 12 ^ k ∧ (wIter ml c k).1.length ≤ 12 ^ (k + 1)
  | 0 => by simp [wIter]
  | k + 1 => by
    obtain ⟨h1, h2⟩ := wIter_cnt ml c h k
    have h3 := foldW_len (growD (wIter ml c k).1 ((wIter ml c k).2.map (·.1))) (candsW (wIter ml c k).2 ml) ((wIter ml c k).1, [])
    rw [len_candsW] at h3
    have h4 : (wIter ml c k).2.length * ml.length ≤ 12 ^ k * 12 := Nat.mul_le_mul h1 h
    have e1 : 12 ^ (k + 1) = 12 ^ k * 12 := Nat.pow_succ ..
    have e2 : 12 ^ (k + 1 + 1) = 12 ^ k * 12 * 12 := by rw [Nat.pow_succ, Nat.pow_succ]
    obtain ⟨h5, h6⟩ := h3
    refine ⟨?_, ?_⟩
    · refine Nat.le_trans h6 ?_
      simp; omega
    · refine Nat.le_trans h5 ?_
      show (wIter ml c k).1.length + _ ≤ _
      omega
theorem wIter_word (ml : List (List Nat × Int)) (c : List Nat) : ∀ k, ∀ x ∈ (wIter ml c k).2, x.2.length = k
  | 0, x, hx => by
    obtain rfl : x = (c, []) := by simpa [wIter] using hx
    rfl
  | k + 1, x, hx => by
    refine foldW_mem _ (fun x => x.2.length = k + 1) _ _ ?_ (fun x hx => by simp at hx) x hx
    intro y hy
    unfold candsW at hy
    obtain ⟨z, hz, hy⟩ := List.mem_flatMap.1 hy
    obtain ⟨m, hm, rfl⟩ := List.mem_map.1 hy
    have := wIter_word ml c k z hz
    simp [this]
theorem wIter_Gd {d : Nat} {ml : List (List Nat × Int)} {c : List Nat} (hc : Gd d c) (hm : ∀ x ∈ ml, Gd d x.1) (k : Nat) : ∀ x ∈ (wIter ml c k).2, Gd d x.1 := fun x hx => by
  have h1 := bIter_GS (mv := ml.map (·.1)) hc (fun y hy => by obtain ⟨z, hz, rfl⟩ := List.mem_map.1 hy; exact hm z hz) k
  rw [← wIter_fst] at h1
  exact h1.2 x.1 (List.mem_map.2 ⟨x, hx, rfl⟩)

abbrev StW := List (List Nat × Nat) × List (List Nat × List Int)
def els (l : List (List Nat × List Int)) : List (List Int) := l.map fun x => Ma.ofN x.1
def wds (l : List (List Nat × List Int)) : List (List Int) := l.map fun x => x.2
def stJ (ml : List (List Nat × Int)) (D : Nat) (st : StW) (x : List Nat × List Int) (j : Nat) : StW := ((ml.take j).map fun y => (Ma.mulN x.1 y.1, x.2 ++ [y.2])).foldl (gstepW D) st
def stI (ml : List (List Nat × Int)) (D : Nat) (near : List (List Nat × Nat)) (sh : List (List Nat × List Int)) (i : Nat) : StW := (candsW (sh.take i) ml).foldl (gstepW D) (near, [])
theorem stJ_zero (ml : List (List Nat × Int)) (D : Nat) (st : StW) (x : List Nat × List Int) : stJ ml D st x 0 = st := rfl
theorem stJ_succ {ml : List (List Nat × Int)} {D : Nat} {st : StW} {x : List Nat × List Int} {j : Nat} {y : List Nat × Int} (h : ml[j]? = some y) : stJ ml D st x (j + 1) = gstepW D (stJ ml D st x j) (Ma.mulN x.1 y.1, x.2 ++ [y.2]) := by
  unfold stJ
  rw [List.take_add_one, h]
  simp
theorem stI_zero (ml : List (List Nat × Int)) (D : Nat) (near : List (List Nat × Nat)) (sh : List (List Nat × List Int)) : stI ml D near sh 0 = (near, []) := rfl
theorem stI_succ {ml : List (List Nat × Int)} {D : Nat} {near : List (List Nat × Nat)} {sh : List (List Nat × List Int)} {i : Nat} {x : List Nat × List Int} (h : sh[i]? = some x) : stI ml D near sh (i + 1) = stJ ml D (stI ml D near sh i) x ml.length := by
  unfold stI stJ candsW
  rw [List.take_add_one, h, List.flatMap_append, List.foldl_append, List.take_length]
  simp
theorem stI_all (ml : List (List Nat × Int)) (c : List Nat) (k : Nat) : stI ml (growD (wIter ml c k).1 ((wIter ml c k).2.map (·.1))) (wIter ml c k).1 (wIter ml c k).2 (wIter ml c k).2.length = wIter ml c (k + 1) := by
  unfold stI; rw [List.take_length]; rfl
theorem stI_len (ml : List (List Nat × Int)) (D : Nat) (near : List (List Nat × Nat)) (sh : List (List Nat × List Int)) (i : Nat) (hi : i ≤ sh.length) : (stI ml D near sh i).1.length ≤ near.length + i * ml.length ∧ (stI ml D near sh i).2.length ≤ i * ml.length := by
  have := foldW_len D (candsW (sh.take i) ml) (near, [])
  rw [len_candsW, List.length_take, Nat.min_eq_left hi] at this
  exact ⟨this.1, by have h := this.2; simp only [List.length_nil, Nat.zero_add] at h; exact h⟩
theorem stJ_len (ml : List (List Nat × Int)) (D : Nat) (st : StW) (x : List Nat × List Int) (j : Nat) (hj : j ≤ ml.length) : (stJ ml D st x j).1.length ≤ st.1.length + j ∧ (stJ ml D st x j).2.length ≤ st.2.length + j := by
  have := foldW_len D ((ml.take j).map fun y => (Ma.mulN x.1 y.1, x.2 ++ [y.2])) st
  rw [List.length_map, List.length_take, Nat.min_eq_left hj] at this
  exact this

/-- the levels up to k -/
def lvE (ml : List (List Nat × Int)) (c : List Nat) (k : Nat) : List (List (List Int)) := (List.range (k + 1)).map fun j => els (wIter ml c j).2
def lvV (ml : List (List Nat × Int)) (c : List Nat) (k : Nat) : List (List (List Int)) := (List.range (k + 1)).map fun j => wds (wIter ml c j).2
theorem lvE_succ (ml : List (List Nat × Int)) (c : List Nat) (k : Nat) : lvE ml c (k + 1) = lvE ml c k ++ [els (wIter ml c (k + 1)).2] := by
  unfold lvE; rw [List.range_succ (n := k + 1), List.map_append]; rfl
theorem lvV_succ (ml : List (List Nat × Int)) (c : List Nat) (k : Nat) : lvV ml c (k + 1) = lvV ml c k ++ [wds (wIter ml c (k + 1)).2] := by
  unfold lvV; rw [List.range_succ (n := k + 1), List.map_append]; rfl
theorem len_lvE (ml : List (List Nat × Int)) (c : List Nat) (k : Nat) : (lvE ml c k).length = k + 1 := by simp [lvE]
theorem len_lvV (ml : List (List Nat × Int)) (c : List Nat) (k : Nat) : (lvV ml c k).length = k + 1 := by simp [lvV]
theorem get_lvE (ml : List (List Nat × Int)) (c : List Nat) (k : Nat) : (lvE ml c k)[k]? = some (els (wIter ml c k).2) := by simp [lvE]
theorem get_lvV (ml : List (List Nat × Int)) (c : List Nat) (k : Nat) : (lvV ml c k)[k]? = some (wds (wIter ml c k).2) := by simp [lvV]

/-- the ball under way, by the pure state -/
def BP (W0 w : World) (rb : Nat) (ev wv av v7 v8 : Value) (E V : List (List (List Int))) (st : StW) : Prop :=
  ∃ L, RB W0 w rb ev wv av v7 v8 E V L (els st.2) (wds st.2) ∧ Asc L ∧ AllIs L st.1 ∧ L.length ≤ st.1.length
theorem BP.quiet {W0 w w' : World} {rb : Nat} {ev wv av v7 v8 : Value} {E V : List (List (List Int))} {st : StW} (h : BP W0 w rb ev wv av v7 v8 E V st) (hb : Below w.heap.size w w') : BP W0 w' rb ev wv av v7 v8 E V st := by
  obtain ⟨L, h1, h2⟩ := h; exact ⟨L, h1.quiet hb, h2⟩
theorem own2 {F : Nat → Prop} {w : World} {base : Nat} {e : TypeId} {v : Value} {n : Nat} {us : List Value} {L : List (List (List Int))} (hr : w.ownsRow base e 1 v n us) (he : Rg.FElts2 F w us L) {i : Nat} {m : List (List Int)} (hi : L[i]? = some m) :
    ∃ g cap u, v = .slice (some ⟨g, 0, none⟩) n cap ∧ n ≤ cap ∧ i < n ∧ w.cell? ⟨g, i, none⟩ = some u ∧ Rg.FRows F w u m := by
  obtain ⟨h1, h2⟩ := hr
  obtain ⟨hl, he⟩ := he
  obtain ⟨hi0, rfl⟩ := List.getElem?_eq_some_iff.1 hi
  rcases h2 with ⟨rfl, h0⟩ | ⟨g, cap, cur, rfl, hg, hc, h3, h4, h5, h6⟩
  · omega
  · have hiu : i < us.length := by omega
    refine ⟨g, cap, us[i], rfl, h3, by omega, ?_, he i hiu hi0⟩
    have h7 := congrArg (fun l => l[i]?) h6
    rw [Nat.mul_one] at h7
    rw [List.getElem?_take_of_lt (by omega)] at h7
    rw [cell_of_row w _ _ _ _ _ hc, ← Array.getElem?_toList, h7, List.getElem?_eq_getElem hiu]
theorem row2 {F : Nat → Prop} {w : World} {v : Value} {ll : List (List Int)} (h : Rg.FRows F w v ll) {i : Nat} {l : List Int} (hi : ll[i]? = some l) :
    ∃ b o cap u, v = .slice (some ⟨b, o, none⟩) ll.length cap ∧ ll.length ≤ cap ∧ i < ll.length ∧ w.cell? ⟨b, o + i, none⟩ = some u ∧ Rg.FI F w u l := by
  obtain ⟨a, cap, rfl, h2, h3, h4⟩ := h.shape
  obtain ⟨hi0, rfl⟩ := List.getElem?_eq_some_iff.1 hi
  obtain ⟨b, o, rfl, e2, e3, e4⟩ := h4 (by omega)
  obtain ⟨u, q1, q2⟩ := e4 i hi0
  exact ⟨b, o, cap, u, rfl, h2, hi0, q1, q2⟩
/-- a letter's value -/
theorem letter_any (gv : Value) (D : Int) (gs : List (List Nat)) (d j : Nat) (w : World) (h : Rg.NRows w gv gs) (hg : GG d gs) (hd : d ≤ 64) {y : List Nat × Int} (hy : (mlets gs)[j]? = some y) :
    Calls Try.prog 56 #[.agg #[.int .i64 D, gv], .int .i64 y.2] w fun e w' => ∃ v, e = .returned v ∧ Rg.NP w' v y.1 ∧ Below w.heap.size w w' := by
  have hj := (List.getElem?_eq_some_iff.1 hy).1
  rw [len_mlets] at hj
  have hz : y ∈ (moves gs).zip (lets gs.length) := List.mem_of_getElem? hy
  have hy' : ((moves gs)[j]? = some y.1) ∧ ((lets gs.length)[j]? = some y.2) := by
    unfold mlets at hy
    rw [List.getElem?_zip_eq_some] at hy; exact hy
  obtain ⟨i, hi⟩ : ∃ i, i = j / 2 := ⟨_, rfl⟩
  have hil : i < gs.length := by omega
  obtain ⟨m1, m2⟩ := get_moves gs i hil
  obtain ⟨l1, l2⟩ := get_lets gs.length i hil
  rcases (by omega : j = 2 * i ∨ j = 2 * i + 1) with rfl | rfl
  · rw [m1, l1] at hy'
    obtain ⟨y1, y2⟩ := y
    simp at hy'
    obtain ⟨rfl, rfl⟩ := hy'
    exact letterPos gv D gs i w h hil
  · rw [m2, l2] at hy'
    obtain ⟨y1, y2⟩ := y
    simp at hy'
    obtain ⟨rfl, rfl⟩ := hy'
    have hgi := hg gs[i] (List.getElem_mem _)
    have := letterNeg gv D gs i w h hil hgi.1 (by rw [hgi.2]; omega)
    rw [show -(i : Int) - 1 = -((i : Int) + 1) from by omega]
    exact this
/-- an element that was there -/
theorem BP.insOld {W0 w w' : World} {rb : Nat} {ev wv av v7 v8 : Value} {E V : List (List (List Int))} {st st' : StW} {L : List (List Int)} {p : List Nat} {wd : List Int} {D : Nat} (hR : RB W0 w rb ev wv av v7 v8 E V L (els st.2) (wds st.2)) (hI : AllIs L st.1) (hL : L.length ≤ st.1.length)
    (hp : InsPost (Fz w rb ev wv av v7 v8) rb ev wv av (Ma.ofN p) L W0 w w') (hn : (nd st.1 p).isSome = true) (hs : st' = gstepW D st (p, wd)) : ∃ av', BP W0 w' rb ev wv av' v7 v8 E V st' := by
  obtain ⟨av7, L7, hR7, hA7, hm7, hl7, _⟩ := hR.ins hp
  have e : st' = st := by rw [hs]; unfold gstepW; rw [if_pos hn]
  subst e
  exact ⟨av7, L7, hR7, hA7, hI.same hn hm7, by rw [hl7.1 ((hI.mem p).2 hn)]; exact hL⟩
/-- a new element with its word -/
theorem BP.insNew {W0 w : World} {rb : Nat} {ev wv av v7 v8 : Value} {E V : List (List (List Int))} {st st' : StW} {L L' : List (List Int)} {p : List Nat} {wd : List Int} {D : Nat} (hI : AllIs L st.1) (hL : L.length ≤ st.1.length) (hn : ¬ (nd st.1 p).isSome = true) (hs : st' = gstepW D st (p, wd))
    (hR : RB W0 w rb ev wv av v7 v8 E V L' (els st.2 ++ [Ma.ofN p]) (wds st.2 ++ [wd])) (hA : Asc L') (hm : ∀ y, y ∈ L' ↔ y ∈ L ∨ y = Ma.ofN p) (hl : L'.length ≤ L.length + 1) : ∃ av', BP W0 w rb ev wv av' v7 v8 E V st' := by
  have e : st' = (st.1 ++ [(p, D)], st.2 ++ [(p, wd)]) := by rw [hs]; unfold gstepW; rw [if_neg hn]
  refine ⟨av, L', ?_, hA, ?_, ?_⟩
  · rw [e]; unfold els wds; rw [List.map_append, List.map_append]; exact hR
  · rw [e]; exact hI.snoc hm
  · rw [e, List.length_append]; simp; omega
end Go.Proofs.Ytjifdmfoijoekaa

