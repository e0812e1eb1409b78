/- Lemmas and contracts on the way to the statement; no condition of their own beyond those written. -/
import Derived.Test.YtcbonaeaemclnaaPmY
import Derived.Test.YtcbonaeaemclnaaPmI
import Derived.OwnWalkIn
import Derived.Maps.OwnIn
namespace Go.Proofs.Ytcbonaeaemclnaa
open Go.RowKit Go.Shelf
open Go.Proofs
attribute [local go_sem] Oper.semAt_some RF.wide_fn RF.wide_depth RF.wide_fn_in RF.wide_depth_in

/-- how the memory of Factors stands: the box of the list, the box of n, the deferred calls, the loop -/
structure FSt (L D : Nat) (rc : Loop) (s W : World) (l : List (Nat × Nat)) : Prop where
  bel : Below s.heap.size s W
  at_ : RF.At L rc W
  dfr : RF.Dfr D W
  fro : W.frozen? ⟨s.heap.size, 0, none⟩ = false
  box : ∃ v, W.cell? ⟨s.heap.size, 0, none⟩ = some v ∧ W.ownsRow (s.heap.size + 4) 33 2 v l.length (flat l)
  big : s.heap.size + 4 ≤ W.heap.size
  hL : L = s.heap.size + 3
  hD : D = s.heap.size + 2

theorem FSt.set {L D : Nat} {rc : Loop} {s W : World} {l : List (Nat × Nat)} (h : FSt L D rc s W l) (v : Value) : FSt L D rc s (W.setCell ⟨s.heap.size + 1, 0, none⟩ v) l := by
  obtain ⟨u, h1, h2⟩ := h.box
  refine ⟨h.bel.setCell (by simp) _, h.at_.setCell _ _, h.dfr.setCell _ _, by rw [World.frozen?_setCell]; exact h.fro, ⟨u, ?_, ownsRow_setCell_below h2 (by simp) _⟩, by simpa using h.big, h.hL, h.hD⟩
  rw [World.cell?_setCell_other _ _ _ _ (by simp)]; exact h1
theorem ownsRow_put {W : World} {base : Nat} {e : TypeId} {size : Nat} {v : Value} {n : Nat} {xs : List Value} (h : W.ownsRow base e size v n xs) {l : Nat} (hl : l < base) (o : Obj) : (W.putObj l o).ownsRow base e size v n xs := by
  obtain ⟨h1, h2⟩ := h
  refine ⟨h1, ?_⟩
  rcases h2 with h2 | ⟨g, cap, cur, a, b, c, d⟩
  · exact .inl h2
  · exact .inr ⟨g, cap, cur, a, b, (World.putObj_heap_other (by omega)).trans c, d⟩
theorem FSt.put {L D : Nat} {rc : Loop} {s W : World} {l : List (Nat × Nat)} (h : FSt L D rc s W l) (rc' : Loop) : FSt L D rc' s (W.putObj L (.loop rc')) l := by
  obtain ⟨u, h1, h2⟩ := h.box
  have hL := h.hL
  exact ⟨h.bel.trans (h.at_.below (by omega) _), h.at_.put, h.dfr.put h.at_ _, (h.at_.frozen _).trans h.fro, ⟨u, (h.at_.cell _).trans h1, ownsRow_put h2 (by omega) _⟩, by simpa using h.big, h.hL, h.hD⟩
theorem own_slice {w : World} {base : Nat} {e : TypeId} {size : Nat} {v : Value} {n : Nat} {xs : List Value} (h : w.ownsRow base e size v n xs) : ∃ p m c, v = .slice p m c := by
  obtain ⟨_, h2⟩ := h
  rcases h2 with ⟨h2, _⟩ | ⟨g, cap, cur, hv, _⟩
  · exact ⟨_, _, _, h2⟩
  · exact ⟨_, _, _, hv⟩
/-- one pair more -/
theorem FSt.step {L D : Nat} {rc : Loop} {s W w1 : World} {l : List (Nat × Nat)} {a b : Nat} {v' : Value} (h : FSt L D rc s W l) (hb : Below (s.heap.size + 4) W w1)
    (ho : w1.ownsRow (s.heap.size + 4) 33 2 v' (l.length + 1) (flat l ++ [.int .i64 (a : Nat), .int .i64 (b : Nat)])) : FSt L D rc s (w1.setCell ⟨s.heap.size, 0, none⟩ v') (l ++ [(a, b)]) := by
  have hL := h.hL
  have hD := h.hD
  have hbig := h.big
  have hsz := hb.size
  obtain ⟨u, h1, h2⟩ := h.box
  have c1 : w1.cell? ⟨s.heap.size, 0, none⟩ = some u := (hb.cell (by show s.heap.size < _; omega)).trans h1
  refine ⟨(h.bel.trans (hb.mono (by omega))).setCell (by simp) _, (h.at_.of_below hb (by omega)).setCell _ _, RF.Dfr.setCell ((hb.block D (by omega)).trans h.dfr) _ _, ?_, ⟨v', World.cell?_setCell_same' _ _ _ (by rw [c1]; rfl), ?_⟩, by simp; omega, hL, hD⟩
  · rw [World.frozen?_setCell]; exact (hb.frozen (by show s.heap.size < _; omega)).trans h.fro
  · rw [flat_snoc, List.length_append]; exact ownsRow_setCell_below ho (by simp) _
theorem PairsAt.cells {w w' : World} {v : Value} {l : List (Nat × Nat)} (h : PairsAt w v l) (hs : w.heap.size ≤ w'.heap.size) (hc : ∀ a, w'.cell? a = w.cell? a) : PairsAt w' v l := by
  rcases h with h | ⟨b, cap, e, h1, h2, h4, h3⟩
  · exact .inl h
  · exact .inr ⟨b, cap, e, Nat.lt_of_lt_of_le h1 hs, h2, h4, fun i hi => ⟨(hc _).trans (h3 i hi).1, (hc _).trans (h3 i hi).2⟩⟩

theorem Factors_no (n : Int) (w : World) (h : n < 1 ∨ 1000000000 < n) :
    Calls Try.prog 16 #[.int .i64 n] w fun e w' => e = retL (.slice none 0 0) 2 ∧ w = w' := by
  rcases h with h | h
  · go_enter Try.func16, Try.ntmps16
    go_wp2
    go_ret2
    exact ⟨rfl, rfl⟩
  · have hb : decide (n < 1) = false := by simp; omega
    have hb2 : decide (1000000000 < n) = true := by simp; exact h
    clear h
    go_enter Try.func16, Try.ntmps16
    go_wp2
    go_ret2
    exact ⟨rfl, rfl⟩

set_option maxRecDepth 100000 in
set_option maxHeartbeats 1000000 in
theorem Factors_yes (n0 : Nat) (w : World) (h1 : 1 ≤ n0) (h2 : n0 ≤ 1000000000) :
    Calls Try.prog 16 #[.int .i64 n0] w fun e w' => ∃ v, e = retL v 0 ∧ PairsAt w' v (Pm.facs n0) ∧ Below w.heap.size w w' := by
  obtain ⟨i0, hi, hz0, hz1, hz2⟩ := info_parts info33
  have hd1 : decide ((n0 : Int) < 1) = false := by simp; omega
  have hd2 : decide (1000000000 < (n0 : Int)) = false := by simp; omega
  refine RF.calls_marks Try.func16 rfl ?_
  simp only [Try.ntmps16, List.size_toArray, List.length_cons, List.length_nil, Nat.reduceAdd, Nat.reduceSub, Array.replicate_succ, Array.replicate_zero, List.push_toArray, List.append_toArray, List.nil_append, List.cons_append]
  go_wp2_with (go_at_call 43; refine (factors_any _ _).mono ?_; rintro e w' ⟨rfl, rfl⟩)
  clear hd1 hd2
  generalize hW0 : ((w.alloc (.cells #[.slice none 0 0] 28)).alloc (.cells #[.int .i64 (n0 : Int)] 3)) = W0
  have hsz : W0.heap.size = w.heap.size + 1 + 1 := by rw [← hW0]; simp
  have hb0 : Below w.heap.size w W0 := by
    rw [← hW0]; exact ((Below.refl _ w).alloc (Nat.le_refl _) _).alloc (by simp) _
  have k0 : W0.cell? ⟨w.heap.size, 0, none⟩ = some (.slice none 0 0) := by rw [← hW0]; simp [go_sem]
  have k1 : W0.cell? ⟨w.heap.size + 1, 0, none⟩ = some (.int .i64 (n0 : Int)) := by rw [← hW0]; simp [go_sem]
  have g0 : W0.frozen? ⟨w.heap.size, 0, none⟩ = false := by rw [← hW0]; simp [go_sem]
  have g1 : W0.frozen? ⟨w.heap.size + 1, 0, none⟩ = false := by rw [← hW0]; simp [go_sem]
  clear hW0
  refine RF.outerP rfl (enters_of Try.func51 (by kernel_rfl) rfl) fun fn rec W1 hrec hW1 hat hdf hb1 => ?_
  have hs1 : W1.heap.size = w.heap.size + 4 := by rw [hW1]; simp; omega
  rw [hsz] at hat hdf hb1 ⊢
  have st1 : FSt (w.heap.size + 1 + 1 + 1) (w.heap.size + 1 + 1) (rec .ready none) w W1 [] :=
    ⟨hb0.trans (hb1.mono (by omega)), hat, hdf, (hb1.frozen (by show w.heap.size < _; omega)).trans g0, ⟨_, (hb1.cell (by show w.heap.size < _; omega)).trans k0, World.ownsRow_nil _ _ _ _⟩, by omega, rfl, rfl⟩
  refine (factors1_in 0 _ (w.heap.size + 1) n0 (fun pre W => FSt (w.heap.size + 1 + 1 + 1) (w.heap.size + 1 + 1) (rec .ready none) w W pre) (fun _ => False) h2 ?_ ?_ W1 ((hb1.cell (by show w.heap.size + 1 < _; omega)).trans k1) ((hb1.frozen (by show w.heap.size + 1 < _; omega)).trans g1) st1).mono ?_
  · intro pre W v h; exact h.set v
  · -- one round
    intro pre x k rest W v hfac h hcv hfv
    have hlen : pre.length + 1 ≤ n0 := by
      have := facs_len n0 n0 (Nat.le_refl _)
      rw [hfac] at this; simp at this; omega
    refine RF.round hrec h.at_ rfl ?_
    clear hrec hW1 hat hdf hb1 k0 k1 g0 g1 hb0 hs1
    gi_wp2
    refine ⟨h.at_, ?_⟩
    have h3 := h.put (rec .busy none)
    have hcv' := (h.at_.cell (r' := rec .busy none) _).trans hcv
    have hfv' := (h.at_.frozen (r' := rec .busy none) _).trans hfv
    generalize hWb : (World.putObj W _ _) = Wb at *
    obtain ⟨u, e1, e2⟩ := h3.box
    have e3 := h3.fro
    have hbig := h3.big
    clear hWb h hcv hfv hfac
    gi_wp2_with (gi_at_builtin; refine wpListIn_append_own _ rfl _ _ 28 rfl (w.heap.size + 4) 33 i0 (.agg #[.int .i64 0, .int .i64 0]) 2 16 Try.underlying28 hi hz0 hz1 hz2 rfl (by decide) _ _ _ rfl (e2.alloc _) ⟨Wb.heap.size, 0, none⟩ 1 1 [.int .i64 (x : Nat), .int .i64 (k : Nat)] rfl rfl (new2 _ _ _ _) (by simp [Value.oneCell']) (by unfold maxLen; omega) (by omega) (by simp; omega) ?_; intro v' w1 hown' hgrow _; have hbl : Below (w.heap.size + 4) Wb w1 := ((Below.refl _ Wb).alloc hbig _).grown hgrow (by simp; omega) (fun k e => own_ge e2 e); have c1 : w1.cell? ⟨w.heap.size, 0, none⟩ = some u := (hbl.cell (by show w.heap.size < _; omega)).trans e1; have f1 : w1.frozen? ⟨w.heap.size, 0, none⟩ = false := (hbl.frozen (by show w.heap.size < _; omega)).trans e3; clear hgrow; obtain ⟨vp, vm, vc, rfl⟩ := own_slice hown')
    have h5 := h3.step hbl hown'
    refine ⟨h5.at_, .inl ⟨rfl, h5.put _, (h5.at_.cell _).trans ?_, (h5.at_.frozen _).trans ?_⟩⟩
    · rw [World.cell?_setCell_other _ _ _ _ (by simp)]; exact (hbl.cell (by show w.heap.size + 1 < _; omega)).trans hcv'
    · rw [World.frozen?_setCell]; exact (hbl.frozen (by show w.heap.size + 1 < _; omega)).trans hfv'
  · rintro e W2 ⟨hv, (h | hf)⟩
    · refine ⟨hv, .inl ⟨h.at_, ?_⟩⟩
      have h3 := h.put (rec .exhausted none)
      obtain ⟨u, e1, e2⟩ := h3.box
      generalize hWb : (World.putObj W2 _ _) = Wb at *
      clear hWb hrec hW1 hat hdf hb1 k0 k1 g0 g1 hb0 hsz hs1
      go_wp2
      refine RF.leaves w.heap.size [w.heap.size + 1 + 1] Wb (by simp) (fun D hD => ?_) (fun W' l1 l2 l3 => ?_)
      · simp at hD; subst hD; exact ⟨h3.dfr, by omega⟩
      · exact ⟨_, results_tmp2 rfl _ _ _, ⟨u, rfl, (pairs_of_row e2 (by have := facs_len n0 n0 (Nat.le_refl _); omega)).cells l1.size l2, h3.bel.trans l1⟩⟩
    · exact hf.elim
end Go.Proofs.Ytcbonaeaemclnaa
