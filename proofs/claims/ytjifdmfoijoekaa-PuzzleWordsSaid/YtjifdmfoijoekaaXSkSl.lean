/- Lemmas and contracts on the way to the statement; no condition of their own beyond those written. -/
import Derived.Test.YtjifdmfoijoekaaXSjSoSpSqSrSsStSuSvSwSxSySzTaTbTc
import Derived.Deep.CutRange
import Derived.Deep.CutBlock
set_option linter.unusedVariables false
/-! The law's awake, walked. -/
namespace Go.Proofs.Ytjifdmfoijoekaa
open Go.RowKit
open Go.Proofs
open Go.Proofs.Ytjifdmfoijoekaa.Rj
attribute [local irreducible] Go.Calls

set_option maxHeartbeats 2000000 in
theorem awake_any (w : World) : Calls Try.prog 9 #[] w fun e w' => e = .returned (.bool true) ∧ Below w.heap.size w w' := by
  go_enter Try.func9, Try.ntmps9
  go_upto_region 1 with (fail)
  refine wp_region_list ?_
  refine list_ask (some 6) rfl rfl _ _ (exec_fn3 13 _ _ _ _ rfl rfl rfl rfl (cl1 _ _)) ?_
  refine (rings331 w).mono ?_
  rintro e w1 ⟨ga, gn, gc, rfl, hg1, hb1⟩
  refine ⟨_, rfl, ?_⟩
  go_frame
  refine Rg.list_run (some 5) rfl rfl (Rg.exec_move _ rfl rfl) ?_
  go_frame
  refine Rg.list_run (some 7) rfl rfl (exec_extract (v := .agg #[.int .i64 5, .slice ga gn gc]) _ _ rfl rfl rfl) ?_
  go_frame
  refine Rg.list_run (some 8) rfl rfl (exec_extract (v := .int .i64 0) _ _ rfl rfl rfl) ?_
  go_frame
  refine Rg.list_run (some 1) rfl rfl (exec_allocG rfl) ?_
  go_frame
  have n0 : (w1.alloc (.cells #[.int .i64 0, .slice none 0 0] 24)).cell? ⟨w1.heap.size, 0, none⟩ = some (.int .i64 0) := by rw [Rg.cellNew]; rfl
  have n1 : (w1.alloc (.cells #[.int .i64 0, .slice none 0 0] 24)).cell? ⟨w1.heap.size, 1, none⟩ = some (.slice none 0 0) := by rw [Rg.cellNew]; rfl
  refine Rg.list_skip none rfl rfl (Rg.exec_store _ _ _ rfl _ rfl _ rfl (run_storeG 5 ga gn gc n0 n1 (frozenNewN _ _ _ 0 _) (frozenNewN _ _ _ 0 _))) ?_
  go_frame
  refine Rg.list_run (some 2) rfl rfl (Rg.exec_assign _ rfl rfl) ?_
  go_frame
  obtain ⟨p0, p1, p2⟩ := group_set (.int .i64 5) (.slice ga gn gc) n0 n1 ((Below.refl w1.heap.size w1).alloc (Nat.le_refl _) _) (Nat.le_refl _)
  have hsA : w1.heap.size < (((w1.alloc (.cells #[.int .i64 0, .slice none 0 0] 24)).setCell ⟨w1.heap.size, 0, none⟩ (.int .i64 5)).setCell ⟨w1.heap.size, 1, none⟩ (.slice ga gn gc)).heap.size := by simp
  generalize ((w1.alloc (.cells #[.int .i64 0, .slice none 0 0] 24)).setCell ⟨w1.heap.size, 0, none⟩ (.int .i64 5)).setCell ⟨w1.heap.size, 1, none⟩ (.slice ga gn gc) = w2 at *
  have hb2 : Below w.heap.size w w2 := Rg.acc hb1 p2
  have hg2 : Rg.Rows w2 (.slice ga gn gc) [[1, 2, 0, 3, 4], [0, 1, 3, 4, 2]] := hg1.rows.below p2
  clear n0 n1 hg1 hb1 p2
  go_upto_region 2 with (fail)
  refine wp_region_list ?_
  refine list_ask (some 10) rfl rfl _ _ (exec_fn0 25 _ rfl (cl2 _ _)) ?_
  refine (cakes_any w2).mono ?_
  rintro e w3 ⟨ca, cn, cc, rfl, hg3, hb3⟩
  refine ⟨_, rfl, ?_⟩
  go_frame
  refine list_ask (some 11) rfl rfl _ _ (exec_fn 10 _ _ _ rfl rfl rfl (cl4 _ _)) ?_
  refine (Ball_any (.slice ca cn cc) 4 [[1, 0, 2, 3], [2, 1, 0, 3], [3, 2, 1, 0]] 2 w3 hg3.rows).mono ?_
  rw [aw4]
  rintro e w4 ⟨bv, rfl, hbv, hb4⟩
  refine ⟨_, rfl, ?_⟩
  go_frame
  refine Rg.list_run (some 9) rfl rfl (Rg.exec_move _ rfl rfl) ?_
  go_frame
  refine Rg.list_run (some 12) rfl rfl (exec_extract (v := bv) _ _ rfl rfl rfl) ?_
  go_frame
  refine Rg.list_run (some 13) rfl rfl (exec_extract (v := .int .i64 0) _ _ rfl rfl rfl) ?_
  go_frame
  refine Rg.list_run (some 3) rfl rfl (Rg.exec_assign _ rfl rfl) ?_
  go_frame
  refine Rg.list_run (some 4) rfl rfl (Rg.exec_assign _ rfl rfl) ?_
  go_frame
  have hb24 : Below w2.heap.size w2 w4 := Rg.acc hb3 hb4
  have q0 := (hb24.cell (p := ⟨w1.heap.size, 0, none⟩) hsA).trans p0
  have q1 := (hb24.cell (p := ⟨w1.heap.size, 1, none⟩) hsA).trans p1
  have hg4 := hg2.below hb24
  have hb5 := Rg.acc hb2 hb24
  have hsB := Nat.lt_of_lt_of_le hsA hb24.size
  clear hg2 hg3 hb3 hb4 hb24 p0 p1 hsA hb2
  have Q0 := Lib.hid q0
  have Q1 := Lib.hid q1
  have HG := Lib.hid hg4
  have HB := Lib.hid hb5
  have HV := Lib.hid hbv
  clear q0 q1 hg4 hb5 hbv
  go_upto_region 3 with (fail)
  refine Rg.Any.begin (S := Rg.Both 28 (fun _ => True) (fun W => Below w4.heap.size w4 W)) mix ?_
  have hS : ∀ (l : Array Bool) W, Below w4.heap.size w4 W → Rg.Both 28 (fun _ => True) (fun W => Below w4.heap.size w4 W) l W := fun l W h => ⟨.inr trivial, h⟩
  have hI0 : Below w4.heap.size w4 w4.drew := (Below.refl _ _).drew
  generalize w4.drew = W0 at *
  refine Rg.Any.one (i := 0) (by kernel_rfl) (Rg.Any.run (some 14) rfl rfl rfl (Rg.exec_move _ rfl rfl) (hS _ _ hI0) ?_)
  go_frame
  refine Rg.Any.one (i := 1) (by kernel_rfl) (Rg.Any.run (some 15) rfl rfl rfl (exec_eqE _ _ rfl rfl rfl) (hS _ _ hI0) ?_)
  go_frame
  refine Rg.Any.one (i := 2) (by kernel_rfl) (Rg.Any.run (some 16) rfl rfl rfl (Rg.exec_move _ rfl rfl) (hS _ _ hI0) ?_)
  go_frame
  refine Rg.Any.takeG (i := 3) (t := 28) (v := .agg #[.int .i64 5, .slice ga gn gc]) (some 17) rfl rfl (by kernel_rfl) (by kernel_rfl) (by kernel_rfl) (fun _ _ _ h => h) rfl (.inl ⟨rfl, fun W hW => Rg.exec_load _ _ rfl ⟨w1.heap.size, 0, none⟩ rfl (run_loadG ((Below.cell (p := ⟨w1.heap.size, 0, none⟩) hW hsB).trans Q0.out) ((Below.cell (p := ⟨w1.heap.size, 1, none⟩) hW hsB).trans Q1.out))⟩) (hS _ _ hI0) ?_
  go_frame
  refine Rg.Any.one (i := 4) (by kernel_rfl) (Rg.Any.ask (some 18) rfl rfl rfl _ _ (exec_fn0 26 _ rfl (cl3 _ _)) ?_)
  refine (rings_any W0).mono ?_
  rintro e W1 ⟨ra, rn, rc, rfl, hr1, hd1⟩
  have hI1 := Rg.acc hI0 hd1
  refine ⟨_, rfl, hS _ _ hI1, ?_⟩
  go_frame
  refine Rg.Any.one (i := 5) (by kernel_rfl) (Rg.Any.ask (some 19) rfl rfl rfl _ _ (exec_fn 19 _ _ _ rfl rfl rfl (cl5 _ _)) ?_)
  refine (SameGroup_any _ _ 5 5 _ _ (HG.out.below hI1) hr1.rows hI1).mono ?_
  rw [aw5]
  rintro e W2 ⟨rfl, hI2⟩
  refine ⟨_, rfl, hS _ _ hI2, ?_⟩
  go_frame
  clear hI0 hI1 hd1 hr1
  refine Rg.Any.one (i := 6) (by kernel_rfl) (Rg.Any.run (some 20) rfl rfl rfl (exec_pickT _ _ _ rfl rfl rfl) (hS _ _ hI2) ?_)
  go_frame
  refine Rg.Any.one (i := 7) (by kernel_rfl) (Rg.Any.run (some 21) rfl rfl rfl (Rg.exec_move _ rfl rfl) (hS _ _ hI2) ?_)
  go_frame
  refine Rg.Any.triple (i := 8) (j := 9) (k := 10) (di := 22) (dj := 23) (dk := 24) (I := fun W => Below w4.heap.size w4 W) (Ri := fun v W => ∃ a n c, v = .agg #[.int .i64 5, .slice a n c] ∧ Rg.Rows W (.slice a n c) [[1, 2, 0, 3, 4], [0, 1, 3, 4, 2]]) (Rj := fun v W => Rg.Ints W v [2, 0, 1, 3, 4]) (Rk := fun v W => Rg.Ints W v [-1]) hS
    (by decide) (by decide) (by decide) (by decide) (by decide) (by decide) (by kernel_rfl) (by kernel_rfl) (by kernel_rfl) (by kernel_rfl) (by kernel_rfl) (by kernel_rfl) (by kernel_rfl) ?_ ?_ ?_ hI2 ?_
  · intro b hb W hW
    refine does_call rfl rfl (by rcases hb with rfl | ⟨u, rfl⟩ | ⟨u, rfl⟩ | ⟨u, v, rfl⟩ <;> rfl) _ _ (exec_fn0 26 _ rfl (cl3 _ _)) ?_
    refine (rings_any W).mono ?_
    rintro e W' ⟨a, n, c, rfl, h1, h2⟩
    exact ⟨_, rfl, Rg.acc hW h2, ⟨a, n, c, rfl, h1.rows⟩, fun u h => Rg.Ints.below h h2, fun u h => Rg.Ints.below h h2⟩
  · intro b hb W hW
    have hn := (Below.refl W.heap.size W).alloc (Nat.le_refl _) (.cells (([2, 0, 1, 3, 4] : List Int).map (Value.int .i64)).toArray 3)
    exact does_run rfl rfl (by rcases hb with rfl | ⟨u, rfl⟩ | ⟨u, rfl⟩ | ⟨u, v, rfl⟩ <;> rfl) (exec_flat _ _ 5 _ rfl [2, 0, 1, 3, 4] Try.underlying39 szInt zInt rfl (by decide) (by decide) rfl) ⟨Rg.acc hW hn, ints_new W 3 [2, 0, 1, 3, 4] (by decide), fun u ⟨a, n, c, e, h⟩ => ⟨a, n, c, e, h.below hn⟩, fun u h => Rg.Ints.below h hn⟩
  · intro b hb W hW
    have hn := (Below.refl W.heap.size W).alloc (Nat.le_refl _) (.cells (([-1] : List Int).map (Value.int .i64)).toArray 3)
    exact does_run rfl rfl (by rcases hb with rfl | ⟨u, rfl⟩ | ⟨u, rfl⟩ | ⟨u, v, rfl⟩ <;> rfl) (exec_flat _ _ 1 _ rfl [-1] Try.underlying27 szInt zInt rfl (by decide) (by decide) rfl) ⟨Rg.acc hW hn, ints_new W 3 [-1] (by decide), fun u ⟨a, n, c, e, h⟩ => ⟨a, n, c, e, h.below hn⟩, fun u h => Rg.Ints.below h hn⟩
  rintro W3 u v x hI2' ⟨a, n, c, rfl, h1⟩ h2 h3
  go_frame
  refine Rg.Any.one (i := 11) (by kernel_rfl) (Rg.Any.ask (some 25) rfl rfl rfl _ _ (exec_fn4 31 _ _ _ _ _ rfl rfl rfl rfl rfl (cl6 _ _)) ?_)
  refine (solves_yes (.slice a n c) v x 5 [[1, 2, 0, 3, 4], [0, 1, 3, 4, 2]] [2, 0, 1, 3, 4] [-1] 1 W3 h1 h2 h3 aw2).mono ?_
  rintro e W3x ⟨rfl, hz⟩
  have hI2z := Rg.acc hI2' hz
  clear h1 h2 h3 hz
  refine ⟨_, rfl, hS _ _ hI2z, ?_⟩
  go_frame
  refine Rg.Any.one (i := 12) (by kernel_rfl) (Rg.Any.run (some 26) rfl rfl rfl (exec_pickT _ _ _ rfl rfl rfl) (hS _ _ hI2z) ?_)
  go_frame
  refine Rg.Any.one (i := 13) (by kernel_rfl) (Rg.Any.run (some 27) rfl rfl rfl (Rg.exec_move _ rfl rfl) (hS _ _ hI2z) ?_)
  go_frame
  clear hI2 hI2'
  refine Rg.Any.triple (i := 14) (j := 15) (k := 16) (di := 28) (dj := 29) (dk := 30) (I := fun W => Below w4.heap.size w4 W) (Ri := fun v W => ∃ a n c, v = .agg #[.int .i64 4, .slice a n c] ∧ Rg.Rows W (.slice a n c) [[1, 0, 2, 3], [2, 1, 0, 3], [3, 2, 1, 0]]) (Rj := fun v W => Rg.Ints W v [2, 0, 1, 3]) (Rk := fun v W => Rg.Ints W v [2, 1]) hS
    (by decide) (by decide) (by decide) (by decide) (by decide) (by decide) (by kernel_rfl) (by kernel_rfl) (by kernel_rfl) (by kernel_rfl) (by kernel_rfl) (by kernel_rfl) (by kernel_rfl) ?_ ?_ ?_ hI2z ?_
  · intro b hb W hW
    refine does_call rfl rfl (by rcases hb with rfl | ⟨u, rfl⟩ | ⟨u, rfl⟩ | ⟨u, v, rfl⟩ <;> rfl) _ _ (exec_fn0 25 _ rfl (cl2 _ _)) ?_
    refine (cakes_any W).mono ?_
    rintro e W' ⟨a, n, c, rfl, h1, h2⟩
    exact ⟨_, rfl, Rg.acc hW h2, ⟨a, n, c, rfl, h1.rows⟩, fun u h => Rg.Ints.below h h2, fun u h => Rg.Ints.below h h2⟩
  · intro b hb W hW
    have hn := (Below.refl W.heap.size W).alloc (Nat.le_refl _) (.cells (([2, 0, 1, 3] : List Int).map (Value.int .i64)).toArray 3)
    exact does_run rfl rfl (by rcases hb with rfl | ⟨u, rfl⟩ | ⟨u, rfl⟩ | ⟨u, v, rfl⟩ <;> rfl) (exec_flat _ _ 4 _ rfl [2, 0, 1, 3] Try.underlying39 szInt zInt rfl (by decide) (by decide) rfl) ⟨Rg.acc hW hn, ints_new W 3 [2, 0, 1, 3] (by decide), fun u ⟨a, n, c, e, h⟩ => ⟨a, n, c, e, h.below hn⟩, fun u h => Rg.Ints.below h hn⟩
  · intro b hb W hW
    have hn := (Below.refl W.heap.size W).alloc (Nat.le_refl _) (.cells (([2, 1] : List Int).map (Value.int .i64)).toArray 3)
    exact does_run rfl rfl (by rcases hb with rfl | ⟨u, rfl⟩ | ⟨u, rfl⟩ | ⟨u, v, rfl⟩ <;> rfl) (exec_flat _ _ 2 _ rfl [2, 1] Try.underlying27 szInt zInt rfl (by decide) (by decide) rfl) ⟨Rg.acc hW hn, ints_new W 3 [2, 1] (by decide), fun u ⟨a, n, c, e, h⟩ => ⟨a, n, c, e, h.below hn⟩, fun u h => Rg.Ints.below h hn⟩
  rintro W5 u v x hI2z' ⟨a, n, c, rfl, h1⟩ h2 h3
  go_frame
  refine Rg.Any.one (i := 17) (by kernel_rfl) (Rg.Any.ask (some 31) rfl rfl rfl _ _ (exec_fn4 31 _ _ _ _ _ rfl rfl rfl rfl rfl (cl6 _ _)) ?_)
  refine (solves_yes (.slice a n c) v x 4 [[1, 0, 2, 3], [2, 1, 0, 3], [3, 2, 1, 0]] [2, 0, 1, 3] [2, 1] 10 W5 h1 h2 h3 aw3).mono ?_
  rintro e W5x ⟨rfl, hz⟩
  have hI2zz := Rg.acc hI2z' hz
  clear h1 h2 h3 hz
  refine ⟨_, rfl, hS _ _ hI2zz, ?_⟩
  go_frame
  refine Rg.Any.one (i := 18) (by kernel_rfl) (Rg.Any.run (some 32) rfl rfl rfl (exec_pickT _ _ _ rfl rfl rfl) (hS _ _ hI2zz) ?_)
  go_frame
  refine Rg.Any.one (i := 19) (by kernel_rfl) (Rg.Any.run (some 33) rfl rfl rfl (Rg.exec_move _ rfl rfl) (hS _ _ hI2zz) ?_)
  go_frame
  refine Rg.Any.one (i := 20) (by kernel_rfl) (Rg.Any.run (some 34) rfl rfl rfl (Rg.exec_move _ rfl rfl) (hS _ _ hI2zz) ?_)
  go_frame
  refine Rg.Any.one (i := 21) (by kernel_rfl) (Rg.Any.run (some 35) rfl rfl rfl (exec_eqE _ _ rfl rfl rfl) (hS _ _ hI2zz) ?_)
  go_frame
  refine Rg.Any.one (i := 22) (by kernel_rfl) (Rg.Any.run (some 36) rfl rfl rfl (exec_pickT _ _ _ rfl rfl rfl) (hS _ _ hI2zz) ?_)
  go_frame
  refine Rg.Any.one (i := 23) (by kernel_rfl) (Rg.Any.run (some 37) rfl rfl rfl (Rg.exec_move _ rfl rfl) (hS _ _ hI2zz) ?_)
  go_frame
  refine Rg.Any.takeG (i := 24) (t := 28) (v := bv) (some 38) rfl rfl (by kernel_rfl) (by kernel_rfl) (by kernel_rfl) (fun _ _ _ h => h) rfl (.inl ⟨rfl, fun W hW => Rg.exec_move _ rfl rfl⟩) (hS _ _ hI2zz) ?_
  go_frame
  have hn := (Below.refl W5x.heap.size W5x).alloc (Nat.le_refl _) (.cells (([1, 3, 6] : List Int).map (Value.int .i64)).toArray 3)
  have hi3 := ints_new W5x 3 [1, 3, 6] (by decide)
  have hI9 := Rg.acc hI2zz hn
  refine Rg.Any.one (i := 25) (by kernel_rfl) (Rg.Any.run (some 39) rfl rfl rfl (exec_flat _ _ 3 _ rfl [1, 3, 6] Try.underlying27 szInt zInt rfl (by decide) (by decide) rfl) (hS _ _ hI9) ?_)
  go_frame
  generalize W5x.alloc (.cells (([1, 3, 6] : List Int).map (Value.int .i64)).toArray 3) = W9 at *
  refine Rg.Any.one (i := 26) (by kernel_rfl) (Rg.Any.ask (some 40) rfl rfl rfl _ _ (exec_fn 12 _ _ _ rfl rfl rfl (cl7 _ _)) ?_)
  refine (Same_any (HV.out.below hI9) hi3 (selfT _) hI9).mono ?_
  rintro e W10 ⟨rfl, hI10⟩
  refine ⟨_, rfl, hS _ _ hI10, ?_⟩
  go_frame
  refine Rg.Any.one (i := 27) (by kernel_rfl) (Rg.Any.run (some 41) rfl rfl rfl (exec_pickT _ _ _ rfl rfl rfl) (hS _ _ hI10) ?_)
  go_frame
  refine Rg.Any.one (i := 28) (by kernel_rfl) (Rg.Any.run (some 0) rfl rfl rfl (Rg.exec_assign _ rfl rfl) (hS _ _ hI10) ?_)
  go_frame
  refine Rg.Any.done (by kernel_rfl) ?_ _
  have HI := Lib.hid (Rg.acc HB.out hI10)
  clear hI10
  go_wp2
  go_ret
  exact ⟨rfl, HI.out⟩
end Go.Proofs.Ytjifdmfoijoekaa

/-! LargeGroup, big. -/
namespace Go.Proofs.Ytjifdmfoijoekaa
open Go.RowKit
open Go.Proofs
attribute [local irreducible] Go.Calls

/-- LargeGroup, pure -/
def lg (ll : List (List Int)) : Bool := (ll.take 21).any (fun l => decide (70 < l.length)) || decide (20 < ll.length)
theorem lg_small {ll : List (List Int)} (h : lg ll = false) : ll.length ≤ 20 ∧ ∀ l ∈ ll, l.length ≤ 70 := by
  unfold lg at h
  rw [Bool.or_eq_false_iff] at h
  have h1 : ll.length ≤ 20 := by have := of_decide_eq_false h.2; omega
  refine ⟨h1, fun l hl => ?_⟩
  have h2 := h.1
  rw [List.take_of_length_le (by omega), List.any_eq_false] at h2
  have h3 := h2 l hl
  simp at h3
  exact h3
theorem lg_hit {ll : List (List Int)} {k : Nat} (hk : k < ll.length) (h21 : k < 21) (h : 70 < ll[k].length) : lg ll = true := by
  unfold lg
  rw [Bool.or_eq_true]
  refine .inl (List.any_eq_true.2 ⟨ll[k], ?_, by simpa using h⟩)
  rw [List.mem_take_iff_getElem]
  exact ⟨k, by omega, rfl⟩
theorem lg_end {ll : List (List Int)} {k : Nat} (h : ∀ i (hi : i < ll.length), i < k → ll[i].length ≤ 70) (hk : k = ll.length ∨ k = 21) : lg ll = decide (20 < ll.length) := by
  unfold lg
  have : (ll.take 21).any (fun l => decide (70 < l.length)) = false := by
    rw [List.any_eq_false]
    intro l hl
    rw [List.mem_take_iff_getElem] at hl
    obtain ⟨i, hi, rfl⟩ := hl
    have := h i (by omega) (by omega)
    simp; omega
  rw [this, Bool.false_or]

set_option maxHeartbeats 1000000 in
theorem LargeGroup_any {B : Nat} (gv : Value) (d : Int) (ll : List (List Int)) (w : World) (h : Rg.RowsB B w gv ll) :
    Calls Try.prog 8 #[.agg #[.int .i64 d, gv]] w fun e w' => e = .returned (.bool (lg ll)) ∧ Below w.heap.size w w' := by
  obtain ⟨ad, cap, rfl, hc, hlB, _, hcell⟩ := h.shape
  have hba := Lib.hid (show Below w.heap.size w (w.alloc (.cells #[.int .i64 d, .slice ad ll.length cap] 24)) from (Below.refl _ _).alloc (Nat.le_refl _) _)
  have hg1 : (w.alloc (.cells #[.int .i64 d, .slice ad ll.length cap] 24)).cell? ⟨w.heap.size, 1, none⟩ = some (.slice ad ll.length cap) := by rw [Rg.cellNew]; rfl
  have Hcell := Lib.hid hcell
  clear hcell h
  go_enter Try.func8, Try.ntmps8
  go_wp2
  have Hg1 := Lib.hid hg1
  clear hg1
  generalize hW : w.alloc (.cells #[.int .i64 d, .slice ad ll.length cap] 24) = W at *
  clear hW
  go_loopw [3] (fun v wr => ∃ k : Nat, v = .int .i64 k ∧ k ≤ 21 ∧ k ≤ ll.length ∧ wr = W ∧ Hid (∀ i (hi : i < ll.length), i < k → ll[i].length ≤ 70)) (fun v _ => 21 - (intOf v).toNat)
  case atStart => exact ⟨0, rfl, by omega, by omega, rfl, fun i hi h0 => by omega⟩
  case round =>
    obtain ⟨k, rfl, hk21, hkl, rfl, Hk⟩ := hrel
    have hg1 := Hg1.out
    by_cases hlt : k < ll.length
    · by_cases h21 : k < 21
      · obtain ⟨b, o, rfl, hb, hr⟩ := Hcell.out (by omega)
        obtain ⟨u, hu, hul⟩ := hr k hlt
        obtain ⟨ua, uc, rfl, huc, huB, hx1, hx2⟩ := hul.shape
        have hu' := (Rg.bcell hba.out).1 b (o + k) hb
        have hu2 := hu'.trans hu
        clear hu hu' hr hul hx1 hx2
        generalize hn : ll[k].length = n at *
        have Hn := Lib.hid hn
        clear hn
        by_cases hbig : 70 < n
        · go_wp2
          go_ret
          exact ⟨by rw [lg_hit hlt h21 (by rw [Hn.out]; exact hbig)]; rfl, hba.out⟩
        · go_wp2
          go_roundw
          case rel =>
            refine ⟨k + 1, by go_num, by omega, by omega, by first | rfl | trivial, Lib.hid fun i hi h0 => ?_⟩
            by_cases e : i = k
            · subst e; rw [Hn.out]; omega
            · exact Hk.out i hi (by omega)
          case measure => simp [intOf]; omega
      · obtain rfl : k = 21 := by omega
        have hE := Lib.hid (lg_end Hk.out (.inr rfl))
        clear Hk
        go_wp2
        go_ret
        exact ⟨by rw [hE.out]; simp; omega, hba.out⟩
    · obtain rfl : k = ll.length := by omega
      have hE := Lib.hid (lg_end Hk.out (.inl rfl))
      clear Hk
      go_wp2
      go_ret
      exact ⟨by rw [hE.out]; simp; omega, hba.out⟩
end Go.Proofs.Ytjifdmfoijoekaa

