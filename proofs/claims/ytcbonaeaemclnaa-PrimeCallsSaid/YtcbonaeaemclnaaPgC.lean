/- Lemmas and contracts on the way to the statement; no condition of their own beyond those written. -/
import Derived.Test.YtcbonaeaemclnaaPgA
namespace Go.Proofs.Ytcbonaeaemclnaa
open Go.RowKit
open Go.Proofs
attribute [local irreducible] Go.Calls

theorem c_rfac {q : Nat} (w : World) (h1 : 2 ≤ q) (h2 : q < 1000000) : Calls Try.prog 17 #[.int .i64 ((q : Int) - 1)] w fun e w' => ∃ v, e = .returned (.tuple #[v, .int .i64 0]) ∧ PairsAt w' v (Pm.facs (q - 1)) ∧ Below w.heap.size w w' := by
  have := refFactors_yes (q - 1) w (by omega) (by omega)
  rw [show ((q - 1 : Nat) : Int) = (q : Int) - 1 from by omega] at this
  exact this

set_option maxRecDepth 100000 in
set_option maxHeartbeats 1000000 in
theorem refRoot_any (p : Int) (w : World) :
    Calls Try.prog 36 #[.int .i64 p] w fun e w' => e = ret2 (Pm.rtS p) ∧ Below w.heap.size w w' := by
  cases hB : Pm.isB p
  · have HU := Lib.hid (Pm.rtS_f hB)
    have HB := Lib.hid hB
    clear hB
    go_enter Try.func36, Try.ntmps36
    go_wp2_with (go_at_call 19; refine (refIs_f _ _ HB.out).mono ?_; rintro e w' ⟨rfl, rfl⟩)
    go_ret2
    exact ⟨ret2_of HU.out, Below.refl _ _⟩
  · obtain ⟨q, rfl, hqp, hq6⟩ := Pm.Pr.of hB
    have hq2 := hqp.two
    have HU := Lib.hid (Pm.rtS_t hB)
    have HB := Lib.hid hB
    have Hp := Lib.hid hqp
    clear hB hqp
    go_enter Try.func36, Try.ntmps36
    go_wp2_with (first | (go_at_call 19; refine (refIs_t _ _ HB.out).mono ?_; rintro e w' ⟨rfl, rfl⟩) | (go_at_call 17; refine (c_rfac _ hq2 hq6).mono ?_; rintro e w1 ⟨v, rfl, p1, hb1⟩; obtain ⟨ad, cap, rfl, n1, m1, k1⟩ := p1.shape))
    have K1 := Lib.hid k1
    have Hb1 := Lib.hid hb1
    clear k1 p1 hb1
    generalize hl : Pm.facs (q - 1) = l at *
    have Hl := Lib.hid hl
    clear hl
    go_loop [6] (fun v => ∃ g : Nat, v = .int .i64 g ∧ 1 ≤ g ∧ g ≤ Pm.rt q) (fun v => q - (intOf v).toNat)
    case atStart => exact ⟨1, rfl, by omega, Hp.out.rt.pos⟩
    case round =>
      obtain ⟨g, rfl, g1, g2⟩ := hrel
      have hr := Hp.out.rt
      have g3 := hr.lt
      have HR := Lib.hid hr
      clear hr
      go_wp2
      go_loop [7, 8] (fun vb vi => ∃ (b : Bool) (i : Nat), vb = .bool b ∧ vi = .int .i64 i ∧ i ≤ l.length ∧ Hid (b = true ↔ RNo g q (l.take i))) (fun _ vi => l.length - (intOf vi).toNat)
      case atStart => exact ⟨true, 0, rfl, rfl, by omega, by show _ ↔ _; simp [RNo]⟩
      case round =>
        obtain ⟨b, i, rfl, rfl, hi, hbi⟩ := hrel
        by_cases hlt : (i : Int) < (l.length : Int)
        · have hi1 : i < l.length := by omega
          obtain ⟨bl, rfl, d1⟩ := K1.out (by omega)
          obtain ⟨x1, _⟩ := d1 i hi1
          clear d1
          have hmem : l[i] ∈ Pm.facs (q - 1) := by rw [Hl.out]; exact List.getElem_mem hi1
          have hx2 := (Pm.facs_pr (q - 1) (q - 1) (Nat.le_refl _) _ hmem).1.two
          clear hmem
          have htk : RNo g q (l.take (i + 1)) ↔ RNo g q (l.take i) ∧ Pm.pw g ((q - 1) / l[i].1) q ≠ 1 := by
            rw [List.take_succ_eq_append_getElem hi1]
            unfold RNo
            constructor
            · intro h; exact ⟨fun x hx => h x (List.mem_append_left _ hx), h _ (List.mem_append_right _ List.mem_cons_self)⟩
            · rintro ⟨h, h'⟩ x hx
              rcases List.mem_append.1 hx with h9 | h9
              · exact h x h9
              · rw [List.mem_singleton] at h9; rw [h9]; exact h'
          have Htk := Lib.hid htk
          clear htk
          have hpw := Pm.pwI_div (g := g) (q := q) (x := l[i].1) (by omega)
          generalize l[i].1 = x at *
          cases b
          · go_wp2
            go_round
            case rel => exact ⟨false, i + 1, rfl, by go_num, by omega, by show _ ↔ _; rw [Htk.out, ← hbi.out]; simp⟩
            case measure => simp [intOf]; omega
          · have hd0 : 0 ≤ ((q : Int) - 1) / (x : Int) := Int.ediv_nonneg (by omega) (by omega)
            have hd1 : ((q : Int) - 1) / (x : Int) ≤ (q : Int) - 1 := Int.ediv_le_self _ (by omega)
            by_cases he : Pm.pw g ((q - 1) / x) q = 1
            · have hb2 : (Pm.pwI g (((q : Int) - 1) / x) q != 1) = false := by rw [hpw, he]; rfl
              have He := Lib.hid he
              clear hpw he
              go_wp2_with (go_at_call 50; refine (refpower_int _ _ _ _ (by omega) (by omega) (by omega) (by omega) (by omega) (by omega)).mono ?_; rintro e w' ⟨rfl, rfl⟩)
              go_round
              case rel => exact ⟨false, i + 1, rfl, by go_num, by omega, by show _ ↔ _; rw [Htk.out, He.out]; simp⟩
              case measure => simp [intOf]; omega
            · have hb2 : (Pm.pwI g (((q : Int) - 1) / x) q != 1) = true := by rw [hpw, bne_iff_ne]; omega
              have He := Lib.hid he
              clear hpw he
              go_wp2_with (go_at_call 50; refine (refpower_int _ _ _ _ (by omega) (by omega) (by omega) (by omega) (by omega) (by omega)).mono ?_; rintro e w' ⟨rfl, rfl⟩)
              go_round
              case rel => exact ⟨true, i + 1, rfl, by go_num, by omega, by show _ ↔ _; rw [Htk.out, ← hbi.out]; exact ⟨fun _ => ⟨by trivial, He.out⟩, fun _ => by trivial⟩⟩
              case measure => simp [intOf]; omega
        · have hkey : b = true ↔ Pm.ord g q = q - 1 := by
            rw [hbi.out, List.take_of_length_le (by omega), ← Hl.out]
            exact Pm.root_test Hp.out g1 (by omega)
          have Hk := Lib.hid hkey
          clear hkey
          cases b
          · go_wp2
            have hne : g ≠ Pm.rt q := fun h => by
              have := Hk.out.2 (by rw [h]; exact HR.out.ord)
              cases this
            refine ⟨⟨g + 1, by go_num, by omega, by omega⟩, by simp [intOf]; omega⟩
          · go_wp2
            have he : Pm.rt q = g := by
              rcases Nat.lt_or_ge g (Pm.rt q) with h | h
              · exact absurd (Hk.out.1 (by trivial)) (HR.out.least g g1 h)
              · omega
            go_ret2
            exact ⟨ret2_of (by rw [HU.out]; simp [he]), Hb1.out⟩
end Go.Proofs.Ytcbonaeaemclnaa
