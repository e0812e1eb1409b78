/- Lemmas and contracts on the way to the statement; no condition of their own beyond those written. -/
import Derived.Test.YtcbonaeaemclnaaPmH
import Derived.Test.YtcbonaeaemclnaaPmQ
import Derived.Test.YtcbonaeaemclnaaRFb
namespace Go.Proofs.Ytcbonaeaemclnaa
open Go.RowKit Go.Shelf
open Go.Proofs
attribute [local irreducible] Go.wpStill
attribute [local go_sem] Oper.semAt_some RF.wide_fn RF.wide_depth RF.wide_fn_in RF.wide_depth_in

theorem factors_any (p : Int) (w : World) :
    Calls Try.prog 43 #[.int .i64 p] w fun e w' => e = .returned (.func (.func 51) #[] #[.pointer (some ⟨w.heap.size, 0, none⟩)]) ∧ w.alloc (.cells #[.int .i64 p] 3) = w' := by
  go_enter Try.func43, Try.ntmps43
  go_wp2
  go_ret
  exact ⟨rfl, rfl⟩

/-- how the memory of Order stands in a round: B: the first of its blocks; n: what block B+2 holds -/
structure OSt (B L D : Nat) (rc : Loop) (w wr : World) (a p : Int) (n : Nat) : Prop where
  bel : Below B w wr
  c0 : wr.cell? ⟨B, 0, none⟩ = some (.int .i64 a)
  c1 : wr.cell? ⟨B + 1, 0, none⟩ = some (.int .i64 p)
  c2 : wr.cell? ⟨B + 1 + 1, 0, none⟩ = some (.int .i64 n)
  f2 : wr.frozen? ⟨B + 1 + 1, 0, none⟩ = false
  at_ : RF.At L rc wr
  dfr : RF.Dfr D wr
  hD : B + 1 + 1 + 1 < D
  hL : B + 1 + 1 + 1 < L

theorem OSt.lt3 {B L D : Nat} {rc : Loop} {w wr : World} {a p : Int} {n : Nat} (h : OSt B L D rc w wr a p n) : B + 1 + 1 + 1 < wr.heap.size := by
  have := h.at_.size; have := h.hL; omega
theorem OSt.below {B L D : Nat} {rc : Loop} {w wr w1 : World} {a p : Int} {n : Nat} (h : OSt B L D rc w wr a p n) (hb : Below wr.heap.size wr w1) : OSt B L D rc w w1 a p n := by
  have hs := h.at_.size
  have hL := h.hL
  exact ⟨h.bel.trans (hb.mono (by omega)), (hb.cell (by show B < _; omega)).trans h.c0, (hb.cell (by show B + 1 < _; omega)).trans h.c1, (hb.cell (by show B + 1 + 1 < _; omega)).trans h.c2, (hb.frozen (by show B + 1 + 1 < _; omega)).trans h.f2,
    h.at_.of_below' hb, h.dfr.of_below' hb, h.hD, h.hL⟩
theorem OSt.drew {B L D : Nat} {rc : Loop} {w wr : World} {a p : Int} {n : Nat} (h : OSt B L D rc w wr a p n) : OSt B L D rc w wr.drew a p n :=
  ⟨h.bel.drew, h.c0, h.c1, h.c2, h.f2, h.at_, h.dfr, h.hD, h.hL⟩
theorem OSt.set {B L D : Nat} {rc : Loop} {w wr : World} {a p : Int} {n : Nat} (h : OSt B L D rc w wr a p n) (m : Int) (k : Nat) (hm : m = k) : OSt B L D rc w (wr.setCell ⟨B + 1 + 1, 0, none⟩ (.int .i64 m)) a p k :=
  ⟨h.bel.setCell (by show B ≤ B + 1 + 1; omega) _, (by rw [World.cell?_setCell_other _ _ _ _ (by simp)]; exact h.c0), (by rw [World.cell?_setCell_other _ _ _ _ (by simp)]; exact h.c1),
    (by rw [World.cell?_setCell_same' _ _ _ (by rw [h.c2]; rfl), hm]), by rw [World.frozen?_setCell]; exact h.f2, h.at_.setCell _ _, h.dfr.setCell _ _, h.hD, h.hL⟩
theorem OSt.set3 {B L D : Nat} {rc : Loop} {w wr : World} {a p : Int} {n : Nat} (h : OSt B L D rc w wr a p n) (v : Value) : OSt B L D rc w (wr.setCell ⟨B + 1 + 1 + 1, 0, none⟩ v) a p n :=
  ⟨h.bel.setCell (by show B ≤ B + 1 + 1 + 1; omega) _, (by rw [World.cell?_setCell_other _ _ _ _ (by simp)]; exact h.c0), (by rw [World.cell?_setCell_other _ _ _ _ (by simp)]; exact h.c1),
    (by rw [World.cell?_setCell_other _ _ _ _ (by simp)]; exact h.c2), by rw [World.frozen?_setCell]; exact h.f2, h.at_.setCell _ _, h.dfr.setCell _ _, h.hD, h.hL⟩
theorem OSt.put {B L D : Nat} {rc : Loop} {w wr : World} {a p : Int} {n : Nat} (h : OSt B L D rc w wr a p n) (rc' : Loop) : OSt B L D rc' w (wr.putObj L (.loop rc')) a p n :=
  ⟨h.bel.trans (h.at_.below (by have := h.hL; omega) _), (h.at_.cell _).trans h.c0, (h.at_.cell _).trans h.c1, (h.at_.cell _).trans h.c2, (h.at_.frozen _).trans h.f2, h.at_.put, h.dfr.put h.at_ _, h.hD, h.hL⟩

theorem to_in (n : Nat) (a m p : Int) (w : World) (hp : 1 ≤ p) (hpm : p.toNat ≤ 1000000) (ha0 : 0 ≤ a) (ha : a.toNat ≤ 1000000) (hn0 : 0 ≤ m) (hn : m.toNat ≤ 1000000000) :
    CallsIn Fence.wide n Try.prog 47 #[.int .i64 a, .int .i64 m, .int .i64 p] w fun e w' => e = .returned (.int .i64 (Pm.pwI a m p)) ∧ Below w.heap.size w w' :=
  callsIn_wide.2 (to_int a m p w hp (by omega) ha0 (by omega) hn0 (by omega))

set_option maxRecDepth 100000 in
set_option maxHeartbeats 1000000 in
theorem Order_T (a p : Int) (w : World) (hB : Pm.isB p = true) (h0 : a % p ≠ 0) :
    Calls Try.prog 27 #[.int .i64 a, .int .i64 p] w fun e w' => e = ret2 ((Pm.ord (a % p).toNat p.toNat : Nat), 0) ∧ Below w.heap.size w w' := by
  obtain ⟨b1, b2⟩ := bd_of hB
  obtain ⟨r0, r1⟩ := mod_bd a b1
  have HB := Lib.hid hB
  have H0 := Lib.hid h0
  clear hB h0
  refine RF.calls_marks Try.func27 rfl ?_
  simp only [Try.ntmps27, List.size_toArray, List.length_cons, List.length_nil, Nat.reduceAdd, Nat.reduceSub, Array.replicate_succ, Array.replicate_zero, List.push_toArray, List.append_toArray, List.nil_append, List.cons_append]
  go_wp2_with (first | (go_at_call 46; refine (unit_T _ _ _ HB.out H0.out).mono ?_; rintro e w' ⟨rfl, rfl⟩) | (go_at_call 43; refine (factors_any _ _).mono ?_; rintro e w' ⟨rfl, rfl⟩))
  obtain ⟨q, hq, hqp, hq6⟩ := Pm.Pr.of HB.out
  subst hq
  generalize hr : a % (q : Int) = r at *
  obtain ⟨r, rfl⟩ := Int.eq_ofNat_of_zero_le r0
  have hnd : ¬ q ∣ r := Pm.not_dvd_of_lt (by have := H0.out; omega) (by omega)
  have Hr := Lib.hid hr
  clear H0 HB hr
  -- the world behind the four boxes
  generalize hW0 : ((((w.alloc (.cells #[.int .i64 (r : Int)] 3)).alloc (.cells #[.int .i64 (q : Int)] 3)).alloc (.cells #[.int .i64 ((q : Int) - 1)] 3)).alloc (.cells #[.int .i64 ((q : Int) - 1)] 3)) = W0
  have hsz : W0.heap.size = w.heap.size + 1 + 1 + 1 + 1 := by rw [← hW0]; simp
  have hb0 : Below w.heap.size w W0 := by
    rw [← hW0]; exact ((((Below.refl _ w).alloc (Nat.le_refl _) _).alloc (by simp) _).alloc (by simp; omega) _).alloc (by simp; omega) _
  have k0 : W0.cell? ⟨w.heap.size, 0, none⟩ = some (.int .i64 (r : Int)) := by rw [← hW0]; simp [go_sem]
  have k1 : W0.cell? ⟨w.heap.size + 1, 0, none⟩ = some (.int .i64 (q : Int)) := by rw [← hW0]; simp [go_sem]
  have k2 : W0.cell? ⟨w.heap.size + 1 + 1, 0, none⟩ = some (.int .i64 ((q : Int) - 1)) := by rw [← hW0]; simp [go_sem]
  have k3 : W0.cell? ⟨w.heap.size + 1 + 1 + 1, 0, none⟩ = some (.int .i64 ((q : Int) - 1)) := by rw [← hW0]; simp [go_sem]
  have g2 : W0.frozen? ⟨w.heap.size + 1 + 1, 0, none⟩ = false := by rw [← hW0]; simp [go_sem]
  have g3 : W0.frozen? ⟨w.heap.size + 1 + 1 + 1, 0, none⟩ = false := by rw [← hW0]; simp [go_sem]
  clear hW0
  obtain ⟨q1, hq1⟩ : ∃ q1 : Nat, (q : Int) - 1 = q1 := ⟨q - 1, by omega⟩
  rw [hq1] at k2 k3 ⊢
  have Hqn : Hid (q1 = q - 1) := by show q1 = q - 1; omega
  have hq1b : q1 ≤ 1000000 := by omega
  clear hq1
  refine RF.outerP rfl (enters_of Try.func51 (by kernel_rfl) rfl) fun fn rec W1 hrec hW1 hat hdf hb1 => ?_
  rw [hsz] at hat hdf hb1 ⊢
  have st1 : OSt w.heap.size (w.heap.size + 1 + 1 + 1 + 1 + 1) (w.heap.size + 1 + 1 + 1 + 1) (rec .ready none) w W1 r q q1 :=
    ⟨hb0.trans (hb1.mono (by omega)), (hb1.cell (by show w.heap.size < _; omega)).trans k0, (hb1.cell (by show w.heap.size + 1 < _; omega)).trans k1, (hb1.cell (by show w.heap.size + 1 + 1 < _; omega)).trans k2, (hb1.frozen (by show w.heap.size + 1 + 1 < _; omega)).trans g2, hat, hdf, by omega, by omega⟩
  refine (factors1_in 0 _ (w.heap.size + 1 + 1 + 1) q1
    (fun pre W => ∃ n, OSt w.heap.size (w.heap.size + 1 + 1 + 1 + 1 + 1) (w.heap.size + 1 + 1 + 1 + 1) (rec .ready none) w W r q n ∧ Pm.OInv r q pre n)
    (fun _ => False) (by omega) ?_ ?_ W1 ((hb1.cell (by show w.heap.size + 1 + 1 + 1 < _; omega)).trans k3) ((hb1.frozen (by show w.heap.size + 1 + 1 + 1 < _; omega)).trans g3) ⟨q1, st1, Hqn.out ▸ Pm.OInv.start hqp hnd⟩).mono ?_
  · rintro pre W v ⟨n, h1, h2⟩
    exact ⟨n, h1.set3 v, h2⟩
  · -- one round
    rintro pre x k rest W v hfac ⟨n, h1, h2⟩ hc3 hf3
    have hxp := Pm.facs_pr q1 q1 (Nat.le_refl _) (x, k) (by rw [hfac]; simp)
    refine RF.round hrec h1.at_ rfl ?_
    clear hrec
    gi_wp2
    refine ⟨h1.at_, ?_⟩
    have h3 := h1.put (rec .busy none)
    obtain ⟨d0, d1, d2, e2⟩ := (⟨h3.c0, h3.c1, h3.c2, h3.f2⟩ : _ ∧ _ ∧ _ ∧ _)
    have hcv := (h1.at_.cell (r' := rec .busy none) _).trans hc3
    have hfv := (h1.at_.frozen (r' := rec .busy none) _).trans hf3
    generalize hWb : (World.putObj W _ _) = Wb at *
    clear hWb hb1 hdf hat k0 k1 k2 k3 g2 g3 hb0 hsz hW1 h1 hc3 hf3
    gi_wp2
    gi_loopw [] (fun wr => ∃ n, OSt w.heap.size (w.heap.size + 1 + 1 + 1 + 1 + 1) (w.heap.size + 1 + 1 + 1 + 1) (rec .busy none) w wr r q n ∧ Pm.OInv r q pre n ∧ wr.cell? ⟨w.heap.size + 1 + 1 + 1, 0, none⟩ = some v ∧ wr.frozen? ⟨w.heap.size + 1 + 1 + 1, 0, none⟩ = false) (fun wr => cellNum wr ⟨w.heap.size + 1 + 1, 0, none⟩)
    case atStart => exact ⟨n, h3, h2, hcv, hfv⟩
    case round =>
      clear h3 h2 hcv hfv d0 d1 d2 e2
      obtain ⟨m, s1, s2, s3, s4⟩ := hrel
      obtain ⟨d0, d1, d2, e2⟩ := (⟨s1.c0, s1.c1, s1.c2, s1.f2⟩ : _ ∧ _ ∧ _ ∧ _)
      have hx2 := hxp.1.two
      have hx0 : ¬ x = 0 := by omega
      have hm1 := s2.pos
      have hm2 := s2.le hqp
      have hq0 : 0 ≤ (m : Int) / (x : Int) := Int.ediv_nonneg (by omega) (by omega)
      have hq1 : (m : Int) / (x : Int) ≤ m := Int.ediv_le_self _ (by omega)
      have hmix : Try.prog.follows .mixedOrders = true := by kernel_rfl
      by_cases hd : m % x = 0
      · have hb : ((m : Int) % (x : Int) == 0) = true := beq_of_mod hd
        have Hd := Lib.hid hd
        have htm : Int.tmod (m : Int) x = (m : Int) % x := Int.tmod_eq_emod_of_nonneg (by omega)
        have htd : IntKind.i64.wrap ((m : Int) / x) = (m : Int) / x := IntWalk.i64_in _ (by omega)
        clear hd
        have hpe : Pm.pwI r ((m : Int) / x) q = (Pm.pw r (m / x) q : Nat) := rfl
        by_cases hpw : Pm.pw r (m / x) q = 1
        · have hb2 : (Pm.pwI r ((m : Int) / x) q == 1) = true := by rw [hpe, hpw]; rfl
          have Hpw := Lib.hid hpw
          clear hpw hpe
          gi_wp2_with fail
          refine RF.region_still_tail 10 hmix (by kernel_rfl) (by kernel_rfl) ?_ ?_
          · exact fun _ _ h => h
          simp only [List.take_succ_cons, List.take_zero, List.drop_succ_cons, List.drop_zero]
          repeat still_step
          refine wpStill_nil ?_
          go_wp2_with (go_at_call 47; refine (to_int _ _ _ _ (by omega) (by omega) (by omega) (by omega) (by omega) (by omega)).mono ?_; rintro e w' ⟨rfl, hb'⟩)
          have t1 := s1.drew.below hb'
          have t3 := (hb'.cell (p := ⟨w.heap.size + 1 + 1 + 1, 0, none⟩) s1.lt3).trans s3
          have t4 := (hb'.frozen (p := ⟨w.heap.size + 1 + 1 + 1, 0, none⟩) s1.lt3).trans s4
          obtain ⟨y0, y1, y2, z2⟩ := (⟨t1.c0, t1.c1, t1.c2, t1.f2⟩ : _ ∧ _ ∧ _ ∧ _)
          have hw2 := Lib.hid (cellNum_of d2)
          clear d0 d1 d2 e2
          gi_wp2
          have hm4 : m / x < m := Nat.div_lt_self (by omega) (by omega)
          have e1 : ((m / x : Nat) : Int) = (m : Int) / x := by simp
          go_roundw
          case rel =>
            refine ⟨m / x, t1.set _ _ e1.symm, s2.take hqp hnd Hd.out Hpw.out, ?_, ?_⟩
            · rw [World.cell?_setCell_other _ _ _ _ (by simp)]; exact t3
            · rw [World.frozen?_setCell]; exact t4
          case measure =>
            rw [hw2.out, ← e1, cellNum_of (World.cell?_setCell_same' _ _ _ (by rw [y2]; rfl))]; exact hm4
        · have hb2 : (Pm.pwI r ((m : Int) / x) q == 1) = false := by rw [hpe, beq_eq_false_iff_ne]; omega
          have Hpw := Lib.hid hpw
          clear hpw hpe
          gi_wp2_with fail
          refine RF.region_still_tail 10 hmix (by kernel_rfl) (by kernel_rfl) ?_ ?_
          · exact fun _ _ h => h
          simp only [List.take_succ_cons, List.take_zero, List.drop_succ_cons, List.drop_zero]
          repeat still_step
          refine wpStill_nil ?_
          go_wp2_with (go_at_call 47; refine (to_int _ _ _ _ (by omega) (by omega) (by omega) (by omega) (by omega) (by omega)).mono ?_; rintro e w' ⟨rfl, hb'⟩)
          have t1 := s1.drew.below hb'
          have t3 := (hb'.cell (p := ⟨w.heap.size + 1 + 1 + 1, 0, none⟩) s1.lt3).trans s3
          have t4 := (hb'.frozen (p := ⟨w.heap.size + 1 + 1 + 1, 0, none⟩) s1.lt3).trans s4
          gi_wp2
          refine ⟨t1.at_, rfl, ⟨m, t1.put _, s2.next fun h => Hpw.out h.2⟩, (t1.at_.cell _).trans t3, (t1.at_.frozen _).trans t4⟩
      · have hb : ((m : Int) % (x : Int) == 0) = false := by rw [beq_eq_false_iff_ne]; omega
        have Hd := Lib.hid hd
        have htm : Int.tmod (m : Int) x = (m : Int) % x := Int.tmod_eq_emod_of_nonneg (by omega)
        clear hd
        gi_wp2_with fail
        refine RF.region_still hmix (by kernel_rfl) (by kernel_rfl) ?_ ?_
        · exact fun _ _ h => h
        iterate 5 still_step
        iterate 7 (refine RF.still_skip ?_ ?_; focus rfl)
        still_step
        refine wpStill_nil ?_
        gi_wp2
        refine ⟨s1.at_, rfl, ⟨m, s1.drew.put _, s2.next fun h => Hd.out h.1⟩, (s1.at_.cell _).trans s3, (s1.at_.frozen _).trans s4⟩
  · rintro e W2 ⟨hv, (⟨m, h1, h2⟩ | hf)⟩
    · refine ⟨hv, .inl ⟨h1.at_, ?_⟩⟩
      have h3 := h1.put (rec .exhausted none)
      obtain ⟨d0, d1, d2, e2⟩ := (⟨h3.c0, h3.c1, h3.c2, h3.f2⟩ : _ ∧ _ ∧ _ ∧ _)
      have hm : m = Pm.ord r q := Pm.OInv.end hqp hnd (Hqn.out ▸ h2)
      have Hm := Lib.hid hm
      generalize hWb : (World.putObj W2 _ _) = Wb at *
      clear hm hWb hrec hW1 hat hdf hb1 k0 k1 k2 k3 g2 g3 hb0 hsz
      go_wp2
      refine RF.leaves w.heap.size [w.heap.size + 1 + 1 + 1 + 1] Wb (by simp) (fun D hD => ?_) (fun W' l1 l2 l3 => ?_)
      · simp at hD; subst hD; exact ⟨h3.dfr, by omega⟩
      · exact ⟨_, results_tmp2 rfl _ _ _, by rw [Hm.out]; exact ret2_of (by rw [Hr.out]; simp), h3.bel.trans l1⟩
    · exact hf.elim
end Go.Proofs.Ytcbonaeaemclnaa
