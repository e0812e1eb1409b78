/- Lemmas and contracts on the way to the statement; no condition of their own beyond those written. -/
import Derived.Test.YtcbonaeaemclnaaPmI
import Derived.Test.YtcbonaeaemclnaaPmS
import Derived.Scope
import Derived.WalkMore
namespace Go.Proofs.Ytcbonaeaemclnaa
open Go.RowKit Go.Shelf
open Go.Proofs
attribute [local irreducible] Go.wpStill
attribute [local go_sem] Oper.semAt_some RF.wide_fn RF.wide_depth RF.wide_fn_in RF.wide_depth_in

/-- where a slot's pointer leads -/
def slotCell (a : Act) (wr : World) (i : Nat) : Nat := match a.tmps.getD i undef with | .pointer (some p) => cellNum wr p | _ => 0

/-- the head of root's loop -/
def RootI (q : Nat) (w : World) (a : Act) (wr : World) : Prop :=
  ∃ (g b3 : Nat) (ds : List Nat) (t4 t5 t6 t7 t8 t9 t10 t11 t12 t13 t14 t15 t16 t17 t18 t19 t20 t21 : Value),
    a = { tmps := #[.int .i64 q, .pointer (some ⟨w.heap.size, 0, none⟩), .int .i64 0, .pointer (some ⟨b3, 0, none⟩), t4, t5, t6, t7, t8, t9, t10, t11, t12, t13, t14, t15, t16, t17, t18, t19, t20, t21], defers := ds.map RF.mark } ∧
    1 ≤ g ∧ g ≤ Pm.rt q ∧ Below w.heap.size w wr ∧ wr.cell? ⟨w.heap.size, 0, none⟩ = some (.int .i64 q) ∧ wr.cell? ⟨b3, 0, none⟩ = some (.int .i64 g) ∧
    ds.Nodup ∧ (∀ D, D ∈ ds → RF.Dfr D wr ∧ w.heap.size ≤ D)

/-- the tests that have come: all no; one yes -/
def RNo (g q : Nat) (pre : List (Nat × Nat)) : Prop := ∀ x, x ∈ pre → Pm.pw g ((q - 1) / x.1) q ≠ 1
def RYes (g q : Nat) (l : List (Nat × Nat)) : Prop := ∃ x, x ∈ l ∧ Pm.pw g ((q - 1) / x.1) q = 1

/-- the memory in a round of root's inner loop: s: the world at the head -/
structure RSt (L D : Nat) (rc : Loop) (s W : World) : Prop where
  bel : Below s.heap.size s W
  at_ : RF.At L rc W
  dfr : RF.Dfr D W
  hL : s.heap.size < L
  hD : s.heap.size < D
theorem RSt.below {L D : Nat} {rc : Loop} {s W W' : World} (h : RSt L D rc s W) (hb : Below W.heap.size W W') : RSt L D rc s W' :=
  ⟨h.bel.trans (hb.mono h.bel.size), h.at_.of_below' hb, h.dfr.of_below' hb, h.hL, h.hD⟩
theorem RSt.drew {L D : Nat} {rc : Loop} {s W : World} (h : RSt L D rc s W) : RSt L D rc s W.drew := ⟨h.bel.drew, h.at_, h.dfr, h.hL, h.hD⟩
theorem RSt.set {L D : Nat} {rc : Loop} {s W : World} (h : RSt L D rc s W) (v : Value) : RSt L D rc s (W.setCell ⟨s.heap.size, 0, none⟩ v) :=
  ⟨h.bel.setCell (Nat.le_refl _) _, h.at_.setCell _ _, h.dfr.setCell _ _, h.hL, h.hD⟩
theorem RSt.put {L D : Nat} {rc : Loop} {s W : World} (h : RSt L D rc s W) (rc' : Loop) : RSt L D rc' s (W.putObj L (.loop rc')) :=
  ⟨h.bel.trans (h.at_.below (by have := h.hL; omega) _), h.at_.put, h.dfr.put h.at_ _, h.hL, h.hD⟩
theorem cell_lt {w : World} {a : Addr} {v : Value} (h : w.cell? a = some v) : a.block < w.heap.size := by
  unfold World.cell? at h
  cases ho : w.heap[a.block]? with
  | none => rw [ho] at h; simp at h
  | some o => exact (Array.getElem?_eq_some_iff.1 ho).1

set_option maxRecDepth 100000 in
set_option maxHeartbeats 2000000 in
theorem root_any (q : Nat) (w : World) (hqp : Pm.Pr q) (hq6 : q < 1000000) :
    Calls Try.prog 48 #[.int .i64 q] w fun e w' => e = .returned (.int .i64 (Pm.rt q)) ∧ Below w.heap.size w w' := by
  have hq2 := hqp.two
  have hrt := hqp.rt
  refine RF.calls_marks Try.func48 rfl ?_
  simp only [Try.ntmps48, List.size_toArray, List.length_cons, List.length_nil, Nat.reduceAdd, Nat.reduceSub, Array.replicate_succ, Array.replicate_zero, List.push_toArray, List.append_toArray, List.nil_append, List.cons_append]
  go_wp2
  go_step3
  go_wp2
  go_step3
  go_wp2
  refine wp_loop (RootI q w) (fun a wr => q - slotCell a wr 3) ⟨1, w.heap.size + 1, [], _, _, _, _, _, _, _, _, _, _, _, _, _, _, _, _, _, _, rfl, by omega, hrt.pos, ((Below.refl _ w).alloc (Nat.le_refl _) _).alloc (by simp) _, by simp [go_sem], by simp [go_sem], by simp, by simp⟩ ?_
  rintro a wr ⟨g, b3, ds, t4, t5, t6, t7, t8, t9, t10, t11, t12, t13, t14, t15, t16, t17, t18, t19, t20, t21, rfl, hg1, hg2, hbw, c0, c3, hnd, hds⟩
  have hgq := hrt.lt
  have hsw : w.heap.size ≤ wr.heap.size := hbw.size
  have l0 := cell_lt c0
  have l3 := cell_lt c3
  have hslot : slotCell ({ tmps := #[.int .i64 q, .pointer (some ⟨w.heap.size, 0, none⟩), .int .i64 0, .pointer (some ⟨b3, 0, none⟩), t4, t5, t6, t7, t8, t9, t10, t11, t12, t13, t14, t15, t16, t17, t18, t19, t20, t21], defers := ds.map RF.mark } : Act) wr 3 = g := cellNum_of c3
  have Hslot := Lib.hid hslot
  clear hslot
  have Hds := Lib.hid hds
  clear hds
  go_wp2_with (go_at_call 43; refine (factors_any _ _).mono ?_; rintro e w' ⟨rfl, rfl⟩)
  obtain ⟨q1, hq1⟩ : ∃ q1 : Nat, (q : Int) - 1 = q1 := ⟨q - 1, by omega⟩
  rw [hq1]
  have Hqn : Hid (q1 = q - 1) := by show q1 = q - 1; omega
  have hq1b : q1 ≤ 1000000 := by omega
  clear hq1
  generalize hW0 : (wr.alloc (.cells #[.int .i64 (q1 : Int)] 3)) = W0
  have hsz : W0.heap.size = wr.heap.size + 1 := by rw [← hW0]; simp
  have hb0 : Below wr.heap.size wr W0 := by rw [← hW0]; exact (Below.refl _ wr).alloc (Nat.le_refl _) _
  have k3 : W0.cell? ⟨wr.heap.size, 0, none⟩ = some (.int .i64 (q1 : Int)) := by rw [← hW0]; simp [go_sem]
  have g3 : W0.frozen? ⟨wr.heap.size, 0, none⟩ = false := by rw [← hW0]; simp [go_sem]
  clear hW0
  refine RF.outerP rfl (enters_of Try.func51 (by kernel_rfl) rfl) fun fn rec W1 hrec hW1 hat hdf hb1 => ?_
  rw [hsz] at hat hdf hb1 ⊢
  have st1 : RSt (wr.heap.size + 1 + 1) (wr.heap.size + 1) (rec .ready none) wr W1 := ⟨hb0.trans (hb1.mono (by omega)), hat, hdf, by omega, by omega⟩
  refine (factors1_in 0 _ wr.heap.size q1
    (fun pre W => RSt (wr.heap.size + 1 + 1) (wr.heap.size + 1) (rec .ready none) wr W ∧ RNo g q pre)
    (fun W => RSt (wr.heap.size + 1 + 1) (wr.heap.size + 1) (rec .done (some (.exit 1))) wr W ∧ RYes g q (Pm.facs q1)) (by omega) ?_ ?_ W1 ((hb1.cell (by show wr.heap.size < _; omega)).trans k3) ((hb1.frozen (by show wr.heap.size < _; omega)).trans g3) ⟨st1, fun x hx => by simp at hx⟩).mono ?_
  · rintro pre W v ⟨h1, h2⟩
    exact ⟨h1.set v, h2⟩
  · -- one round
    rintro pre x k rest W v hfac ⟨h1, h2⟩ hc3 hf3
    have hxp := Pm.facs_pr q1 q1 (Nat.le_refl _) (x, k) (by rw [hfac]; simp)
    have hxin : (x, k) ∈ Pm.facs q1 := by rw [hfac]; simp
    clear hfac
    refine RF.round hrec h1.at_ rfl ?_
    clear hrec
    gi_wp2
    refine ⟨h1.at_, ?_⟩
    have h3 := h1.put (rec .busy none)
    have d0 := (h3.bel.cell (p := ⟨w.heap.size, 0, none⟩) l0).trans c0
    have d3 := (h3.bel.cell (p := ⟨b3, 0, none⟩) l3).trans c3
    have hcv := (h1.at_.cell (r' := rec .busy none) _).trans hc3
    have hfv := (h1.at_.frozen (r' := rec .busy none) _).trans hf3
    have hlv := cell_lt hcv
    generalize hWb : (World.putObj W _ _) = Wb at *
    clear hWb hb1 hdf hat k3 g3 hb0 hsz hW1 h1 hc3 hf3 c0 c3
    have hx2 := hxp.1.two
    have hx0 : ¬ x = 0 := by omega
    have hq0 : 0 ≤ ((q : Int) - 1) / (x : Int) := Int.ediv_nonneg (by omega) (by omega)
    have hq1 : ((q : Int) - 1) / (x : Int) ≤ (q : Int) - 1 := Int.ediv_le_self _ (by omega)
    have hmix : Try.prog.follows .mixedOrders = true := by kernel_rfl
    have hpe := Pm.pwI_div (g := g) (x := x) (q := q) (by omega)
    have hw1 : IntKind.i64.wrap ((q : Int) - 1) = (q : Int) - 1 := IntWalk.i64_in _ (by omega)
    have htd : IntKind.i64.wrap (((q : Int) - 1) / x) = ((q : Int) - 1) / x := IntWalk.i64_in _ (by omega)
    by_cases hpw : Pm.pw g ((q - 1) / x) q = 1
    · have hb2 : (Pm.pwI g (((q : Int) - 1) / x) q == 1) = true := by rw [hpe, hpw]; rfl
      have Hpw := Lib.hid hpw
      clear hpw hpe
      gi_wp2_with fail
      refine RF.region_still_tail 6 hmix (by kernel_rfl) (by kernel_rfl) ?_ ?_
      · exact fun _ _ h => h
      simp only [List.take_succ_cons, List.take_zero, List.drop_succ_cons, List.drop_zero]
      repeat still_step
      refine wpStill_nil ?_
      go_wp2_with (go_at_call 47; refine (to_int _ _ _ _ (by omega) (by omega) (by omega) (by omega) (by omega) (by omega)).mono ?_; rintro e w' ⟨rfl, hb'⟩)
      have t1 := h3.drew.below hb'
      gi_wp2
      exact ⟨t1.at_, .inr ⟨rfl, t1.put _, (x, k), hxin, Hpw.out⟩⟩
    · have hb2 : (Pm.pwI g (((q : Int) - 1) / x) q == 1) = false := by rw [hpe, beq_eq_false_iff_ne]; omega
      have Hpw := Lib.hid hpw
      clear hpw hpe
      gi_wp2_with fail
      refine RF.region_still_tail 6 hmix (by kernel_rfl) (by kernel_rfl) ?_ ?_
      · exact fun _ _ h => h
      simp only [List.take_succ_cons, List.take_zero, List.drop_succ_cons, List.drop_zero]
      repeat still_step
      refine wpStill_nil ?_
      go_wp2_with (go_at_call 47; refine (to_int _ _ _ _ (by omega) (by omega) (by omega) (by omega) (by omega) (by omega)).mono ?_; rintro e w' ⟨rfl, hb'⟩)
      have t1 := h3.drew.below hb'
      have t3 := (hb'.cell (p := ⟨wr.heap.size, 0, none⟩) hlv).trans hcv
      have t4 := (hb'.frozen (p := ⟨wr.heap.size, 0, none⟩) hlv).trans hfv
      gi_wp2
      refine ⟨t1.at_, .inl ⟨rfl, ⟨t1.put _, ?_⟩, (t1.at_.cell _).trans t3, (t1.at_.frozen _).trans t4⟩⟩
      intro y hy
      rcases List.mem_append.1 hy with h | h
      · exact h2 y h
      · simp at h; subst h; exact Hpw.out
  · -- behind the factors
    have hq1' : q1 = q - 1 := Hqn.out
    have fin : ∀ (W2 : World) (rc : Loop), RSt (wr.heap.size + 1 + 1) (wr.heap.size + 1) rc wr W2 → ((wr.heap.size + 1) :: ds).Nodup ∧ ∀ D, D ∈ (wr.heap.size + 1) :: ds → RF.Dfr D W2 ∧ w.heap.size ≤ D := by
      intro W2 rc h1
      refine ⟨List.nodup_cons.2 ⟨fun hm => ?_, hnd⟩, fun D hD => ?_⟩
      · have := (Hds.out _ hm).1.size; omega
      · rcases List.mem_cons.1 hD with rfl | hD
        · exact ⟨h1.dfr, by omega⟩
        · obtain ⟨hd1, hd2⟩ := Hds.out D hD
          exact ⟨hd1.of_below' h1.bel, hd2⟩
    rintro e W2 ⟨hv, (⟨h1, h2⟩ | ⟨h1, y, hy, hpw⟩)⟩
    · -- all tests have said no: the root
      refine ⟨hv, .inl ⟨h1.at_, ?_⟩⟩
      have h2' : RNo g q (Pm.facs (q - 1)) := hq1' ▸ h2
      have ho := (Pm.root_test hqp hg1 (by omega)).1 h2'
      have hge : g = Pm.rt q := by
        rcases Nat.lt_or_ge g (Pm.rt q) with h | h
        · exact absurd ho (hrt.least g hg1 h)
        · omega
      have Hge := Lib.hid hge
      have h3 := h1.put (rec .exhausted none)
      obtain ⟨f1, f2⟩ := fin _ _ h3
      have d3 := (h3.bel.cell (p := ⟨b3, 0, none⟩) l3).trans c3
      generalize hWb : (World.putObj W2 _ _) = Wb at *
      clear h2' hge hq1' hWb hb1 hdf hat k3 g3 hb0 hsz hW1 h1 c0 c3 hrec ho h2 fin
      go_wp2
      refine RF.leaves w.heap.size ((wr.heap.size + 1) :: ds) Wb f1 f2 (fun W' l1 l2 l3 => ?_)
      exact ⟨_, results_tmp rfl _ _ _, by rw [← Hge.out]; rfl, (hbw.trans (h3.bel.mono hsw)).trans l1⟩
    · refine ⟨hv, .inr ⟨_, h1.at_, ?_⟩⟩
      have h3 := h1.put (rec .exhausted (some (.exit 1)))
      obtain ⟨f1, f2⟩ := fin _ _ h3
      have d3 := (h3.bel.cell (p := ⟨b3, 0, none⟩) l3).trans c3
      have d0 := (h3.bel.cell (p := ⟨w.heap.size, 0, none⟩) l0).trans c0
      have hlt : g < Pm.rt q := by
        rcases Nat.lt_or_ge g (Pm.rt q) with h | h
        · exact h
        · exfalso
          have : g = Pm.rt q := by omega
          have ho := (Pm.root_test hqp hg1 (by omega)).2 (this ▸ hrt.ord)
          exact ho y (by rw [← hq1']; exact hy) hpw
      generalize hWb : (World.putObj W2 _ _) = Wb at *
      clear hq1' hWb hb1 hdf hat k3 g3 hb0 hsz hW1 h1 c0 c3 hrec fin
      go_wp2
      have hs3 := h3.bel.size
      have hn3 : (Wb.alloc (.cells #[.int .i64 ((g : Int) + 1)] 3)).cell? ⟨Wb.heap.size, 0, none⟩ = some (.int .i64 ((g + 1 : Nat) : Int)) := by simp [go_sem]
      have hsl : slotCell ({ tmps := #[.int .i64 q, .pointer (some ⟨w.heap.size, 0, none⟩), .int .i64 0, .pointer (some ⟨Wb.heap.size, 0, none⟩), t4, .int .i64 g, .int .i64 ((g : Int) + 1), .int .i64 q, .int .i64 q1, .func (.func 51) #[] #[.pointer (some ⟨wr.heap.size, 0, none⟩)], t10, t11, t12, t13, t14, t15, t16, t17, t18, t19, t20, .int .i64 g], defers := RF.mark (wr.heap.size + 1) :: ds.map RF.mark } : Act) (Wb.alloc (.cells #[.int .i64 ((g : Int) + 1)] 3)) 3 = g + 1 := cellNum_of hn3
      refine ⟨⟨g + 1, Wb.heap.size, (wr.heap.size + 1) :: ds, _, _, _, _, _, _, _, _, _, _, _, _, _, _, _, _, _, _, rfl, by omega, by omega, (hbw.trans (h3.bel.mono hsw)).alloc (by omega) _, ?_, hn3, f1, fun D hD => ⟨(f2 D hD).1.alloc _, (f2 D hD).2⟩⟩, ?_⟩
      · rw [((Below.refl Wb.heap.size Wb).alloc (Nat.le_refl _) _).cell (by show w.heap.size < _; omega)]; exact d0
      · rw [hsl, Hslot.out]; omega
end Go.Proofs.Ytcbonaeaemclnaa
