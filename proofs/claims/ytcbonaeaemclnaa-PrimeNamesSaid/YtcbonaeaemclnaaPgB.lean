/- Lemmas and contracts on the way to the statement; no condition of their own beyond those written. -/
import Derived.Test.YtcbonaeaemclnaaPgA
namespace Go.Proofs.Ytcbonaeaemclnaa
open Go.RowKit
open Go.Proofs
attribute [local irreducible] Go.Calls

theorem nv0 : Pm.nx 7 = (11, 0) := by decide +kernel
theorem nc0 (w : World) : Calls Try.prog 14 #[.int .i64 7] w fun e w' => e = .returned (.tuple #[.int .i64 11, .int .i64 0]) ∧ w = w' := by
  have := Next_any 7 w; rwa [nv0] at this
theorem nv1 : Pm.nx (-5) = (2, 0) := by decide +kernel
theorem nc1 (w : World) : Calls Try.prog 14 #[.int .i64 (-5)] w fun e w' => e = .returned (.tuple #[.int .i64 2, .int .i64 0]) ∧ w = w' := by
  have := Next_any (-5) w; rwa [nv1] at this
theorem nv2 : Pm.nx 999983 = (0, 2) := by decide +kernel
theorem nc2 (w : World) : Calls Try.prog 14 #[.int .i64 999983] w fun e w' => e = .returned (.tuple #[.int .i64 0, .int .i64 2]) ∧ w = w' := by
  have := Next_any 999983 w; rwa [nv2] at this
theorem nv3 : Pm.mod (-1) 7 = (6, 0) := by decide +kernel
theorem nc3 (w : World) : Calls Try.prog 31 #[.int .i64 (-1), .int .i64 7] w fun e w' => e = .returned (.tuple #[.int .i64 6, .int .i64 0]) ∧ w = w' := by
  have := Mod_any (-1) 7 w; rwa [nv3] at this
theorem nv4 : Pm.inv 7 7 = (0, 6) := by decide +kernel
theorem nc4 {w w0 : World} (hb : Below w0.heap.size w0 w) : Calls Try.prog 26 #[.int .i64 7, .int .i64 7] w fun e w' => e = .returned (.tuple #[.int .i64 0, .int .i64 6]) ∧ Below w0.heap.size w0 w' := by
  have := Inv_any 7 7 w; rw [nv4] at this; exact calls_acc this hb
theorem nv5 : Pm.pow 3 (-2) 7 = (4, 0) := by decide +kernel
theorem nc5 {w w0 : World} (hb : Below w0.heap.size w0 w) : Calls Try.prog 25 #[.int .i64 3, .int .i64 (-2), .int .i64 7] w fun e w' => e = .returned (.tuple #[.int .i64 4, .int .i64 0]) ∧ Below w0.heap.size w0 w' := by
  have := Pow_any 3 (-2) 7 w; rw [nv5] at this; exact calls_acc this hb
theorem nv6 : Pm.pow 0 0 7 = (1, 0) := by decide +kernel
theorem nc6 {w w0 : World} (hb : Below w0.heap.size w0 w) : Calls Try.prog 25 #[.int .i64 0, .int .i64 0, .int .i64 7] w fun e w' => e = .returned (.tuple #[.int .i64 1, .int .i64 0]) ∧ Below w0.heap.size w0 w' := by
  have := Pow_any 0 0 7 w; rw [nv6] at this; exact calls_acc this hb
theorem nv7 : Pm.ordS 2 7 = (3, 0) := by decide +kernel
theorem nc7 {w w0 : World} (hb : Below w0.heap.size w0 w) : Calls Try.prog 27 #[.int .i64 2, .int .i64 7] w fun e w' => e = .returned (.tuple #[.int .i64 3, .int .i64 0]) ∧ Below w0.heap.size w0 w' := by
  have := Order_any 2 7 w; rw [nv7] at this; exact calls_acc this hb
theorem nv8 : Pm.rtS 2 = (1, 0) := by decide +kernel
theorem nc8 {w w0 : World} (hb : Below w0.heap.size w0 w) : Calls Try.prog 28 #[.int .i64 2] w fun e w' => e = .returned (.tuple #[.int .i64 1, .int .i64 0]) ∧ Below w0.heap.size w0 w' := by
  have := Root_any 2 w; rw [nv8] at this; exact calls_acc this hb
theorem nv9 : Pm.rtS 7 = (3, 0) := by decide +kernel
theorem nc9 {w w0 : World} (hb : Below w0.heap.size w0 w) : Calls Try.prog 28 #[.int .i64 7] w fun e w' => e = .returned (.tuple #[.int .i64 3, .int .i64 0]) ∧ Below w0.heap.size w0 w' := by
  have := Root_any 7 w; rw [nv9] at this; exact calls_acc this hb
theorem nv10 : Pm.rtS 41 = (6, 0) := by decide +kernel
theorem nc10 {w w0 : World} (hb : Below w0.heap.size w0 w) : Calls Try.prog 28 #[.int .i64 41] w fun e w' => e = .returned (.tuple #[.int .i64 6, .int .i64 0]) ∧ Below w0.heap.size w0 w' := by
  have := Root_any 41 w; rw [nv10] at this; exact calls_acc this hb
theorem nv11 : Pm.lgS 6 7 = (3, 0) := by decide +kernel
theorem nc11 {w w0 : World} (hb : Below w0.heap.size w0 w) : Calls Try.prog 29 #[.int .i64 6, .int .i64 7] w fun e w' => e = .returned (.tuple #[.int .i64 3, .int .i64 0]) ∧ Below w0.heap.size w0 w' := by
  have := Log_any 6 7 w; rw [nv11] at this; exact calls_acc this hb
theorem nv12 : Pm.lgS 1 2 = (0, 0) := by decide +kernel
theorem nc12 {w w0 : World} (hb : Below w0.heap.size w0 w) : Calls Try.prog 29 #[.int .i64 1, .int .i64 2] w fun e w' => e = .returned (.tuple #[.int .i64 0, .int .i64 0]) ∧ Below w0.heap.size w0 w' := by
  have := Log_any 1 2 w; rw [nv12] at this; exact calls_acc this hb
theorem nv13 : Pm.sqrt 3 7 = (0, 18) := by decide +kernel
theorem nc13 (w : World) : Calls Try.prog 23 #[.int .i64 3, .int .i64 7] w fun e w' => e = .returned (.tuple #[.int .i64 0, .int .i64 18]) ∧ w = w' := by
  have := Sqrt_any 3 7 w; rwa [nv13] at this
theorem nv14 : Pm.sym 2 7 = (1, 0) := by decide +kernel
theorem nc14 {w w0 : World} (hb : Below w0.heap.size w0 w) : Calls Try.prog 24 #[.int .i64 2, .int .i64 7] w fun e w' => e = .returned (.tuple #[.int .i64 1, .int .i64 0]) ∧ Below w0.heap.size w0 w' := by
  have := Symbol_any 2 7 w; rw [nv14] at this; exact calls_acc this hb
theorem nv15 : Pm.sym 3 7 = (-1, 0) := by decide +kernel
theorem nc15 {w w0 : World} (hb : Below w0.heap.size w0 w) : Calls Try.prog 24 #[.int .i64 3, .int .i64 7] w fun e w' => e = .returned (.tuple #[.int .i64 (-1), .int .i64 0]) ∧ Below w0.heap.size w0 w' := by
  have := Symbol_any 3 7 w; rw [nv15] at this; exact calls_acc this hb
theorem nv16 : Pm.sym 14 7 = (0, 0) := by decide +kernel
theorem nc16 {w w0 : World} (hb : Below w0.heap.size w0 w) : Calls Try.prog 24 #[.int .i64 14, .int .i64 7] w fun e w' => e = .returned (.tuple #[.int .i64 0, .int .i64 0]) ∧ Below w0.heap.size w0 w' := by
  have := Symbol_any 14 7 w; rw [nv16] at this; exact calls_acc this hb
theorem nv17 : Pm.zeta 3 7 = (2, 0) := by decide +kernel
theorem nc17 {w w0 : World} (hb : Below w0.heap.size w0 w) : Calls Try.prog 30 #[.int .i64 3, .int .i64 7] w fun e w' => e = .returned (.tuple #[.int .i64 2, .int .i64 0]) ∧ Below w0.heap.size w0 w' := by
  have := Zeta_any 3 7 w; rw [nv17] at this; exact calls_acc this hb
theorem nv18 : Pm.zeta 4 7 = (0, 18) := by decide +kernel
theorem nc18 {w w0 : World} (hb : Below w0.heap.size w0 w) : Calls Try.prog 30 #[.int .i64 4, .int .i64 7] w fun e w' => e = .returned (.tuple #[.int .i64 0, .int .i64 18]) ∧ Below w0.heap.size w0 w' := by
  have := Zeta_any 4 7 w; rw [nv18] at this; exact calls_acc this hb
theorem nv19 : Pm.su 6 7 = (13, 0) := by decide +kernel
theorem nc19 (w : World) : Calls Try.prog 12 #[.int .i64 6, .int .i64 7] w fun e w' => e = .returned (.tuple #[.int .i64 13, .int .i64 0]) ∧ w = w' := by
  have := Suitable_any 6 7 w; rwa [nv19] at this
theorem nv20 : Pm.su 6 6 = (7, 0) := by decide +kernel
theorem nc20 (w : World) : Calls Try.prog 12 #[.int .i64 6, .int .i64 6] w fun e w' => e = .returned (.tuple #[.int .i64 7, .int .i64 0]) ∧ w = w' := by
  have := Suitable_any 6 6 w; rwa [nv20] at this
theorem nv21 : Pm.su 1 0 = (2, 0) := by decide +kernel
theorem nc21 (w : World) : Calls Try.prog 12 #[.int .i64 1, .int .i64 0] w fun e w' => e = .returned (.tuple #[.int .i64 2, .int .i64 0]) ∧ w = w' := by
  have := Suitable_any 1 0 w; rwa [nv21] at this
theorem nv22 : Pm.inv 1 9 = (0, 3) := by decide +kernel
theorem nc22 {w w0 : World} (hb : Below w0.heap.size w0 w) : Calls Try.prog 26 #[.int .i64 1, .int .i64 9] w fun e w' => e = .returned (.tuple #[.int .i64 0, .int .i64 3]) ∧ Below w0.heap.size w0 w' := by
  have := Inv_any 1 9 w; rw [nv22] at this; exact calls_acc this hb
theorem nis1 : Pm.isB 999983 = true := by decide +kernel
theorem nis2 : Pm.isB 1000003 = false := by decide +kernel
theorem nf1 : fl 360 = [(2, 3), (3, 2), (5, 1)] ∧ fe 360 = 0 := by decide +kernel
theorem nf2 : fl 1 = [] ∧ fe 1 = 0 := by decide +kernel
theorem nf3 : fe 0 = 2 := by decide +kernel
theorem nF1 {w w0 : World} (hb : Below w0.heap.size w0 w) : Calls Try.prog 16 #[.int .i64 360] w fun e w' => ∃ v, e = .returned (.tuple #[v, .int .i64 0]) ∧ PairsAt w' v [(2, 3), (3, 2), (5, 1)] ∧ Below w0.heap.size w0 w' := by
  have := Factors_any 360 hb; rw [nf1.1, nf1.2] at this
  exact this.mono fun e w' ⟨v, a, b, c, _⟩ => ⟨v, a, b, c⟩
theorem nF2 {w w0 : World} (hb : Below w0.heap.size w0 w) : Calls Try.prog 16 #[.int .i64 1] w fun e w' => ∃ a c, e = .returned (.tuple #[.slice a 0 c, .int .i64 0]) ∧ Below w0.heap.size w0 w' ∧ Below w.heap.size w w' := by
  have := Factors_any 1 hb; rw [nf2.1, nf2.2] at this
  refine this.mono fun e w' ⟨v, a, b, c, d⟩ => ?_
  obtain ⟨a1, c1, rfl, _⟩ := b.shape
  exact ⟨a1, c1, a, c, d⟩
theorem nF3 {w w0 : World} (hb : Below w0.heap.size w0 w) : Calls Try.prog 16 #[.int .i64 0] w fun e w' => ∃ v, e = .returned (.tuple #[v, .int .i64 2]) ∧ Below w0.heap.size w0 w' ∧ Below w.heap.size w w' := by
  have := Factors_any 0 hb; rw [nf3] at this
  exact this.mono fun e w' ⟨v, a, b, c, d⟩ => ⟨v, a, c, d⟩
theorem pairs_lit (w : World) (t : TypeId) : PairsAt (w.alloc (.cells #[.int .i64 2, .int .i64 3, .int .i64 3, .int .i64 2, .int .i64 5, .int .i64 1] t)) (.slice (some ⟨w.heap.size, 0, none⟩) 3 3) [(2, 3), (3, 2), (5, 1)] := by
  refine .inr ⟨w.heap.size, 3, rfl, by simp, by decide, by decide, fun i hi => ?_⟩
  have hi' : i < 3 := hi
  obtain rfl | rfl | rfl : i = 0 ∨ i = 1 ∨ i = 2 := by omega
  all_goals
    unfold World.cell?
    simp only [World.alloc_heap_new]
    exact ⟨rfl, rfl⟩
theorem nis {n e0 v : Int} {b : Bool} (h : (e0 == 0 && n == v) = b) (w : World) : Calls Try.prog 41 #[.int .i64 n, .int .i64 e0, .int .i64 v] w fun e w' => e = .returned (.bool b) ∧ w = w' := by
  have := is_any n e0 v w; rwa [h] at this
theorem nfails {n e0 v : Int} {b : Bool} (h : (n == 0 && e0 == v) = b) (w : World) : Calls Try.prog 42 #[.int .i64 n, .int .i64 e0, .int .i64 v] w fun e w' => e = .returned (.bool b) ∧ w = w' := by
  have := fails_any n e0 v w; rwa [h] at this

set_option maxRecDepth 100000 in
set_option maxHeartbeats 4000000 in
theorem PrimeNames_any (w : World) : Calls Try.prog 10 #[] w fun e w' => e = .returned (.bool true) ∧ Below w.heap.size w w' := by
  have hb0 := Below.refl w.heap.size w
  go_enter Try.func10, Try.ntmps10
  go_wp2_with (first | (go_at_call 11; refine (calls_acc (lives_any _) hb0).mono ?_; rintro e w1 ⟨rfl, hb1⟩) | (go_at_call 41; refine (nis (b := true) rfl _).mono ?_; rintro e w' ⟨rfl, rfl⟩) | (go_at_call 42; refine (nfails (b := true) rfl _).mono ?_; rintro e w' ⟨rfl, rfl⟩) | (go_at_call 18; refine (Is_t 999983 _ nis1).mono ?_; rintro e w' ⟨rfl, rfl⟩) | (go_at_call 18; refine (Is_f 1000003 _ nis2).mono ?_; rintro e w' ⟨rfl, rfl⟩) | (go_at_call 16; refine (nF1 (by assumption)).mono ?_; rintro e wf1 ⟨v1, rfl, p1, hf1⟩) | (go_at_call 16; refine (nF2 hf1).mono ?_; rintro e wf2 ⟨va, vc, rfl, hf2, hg2⟩; have p2 := p1.below hg2) | (go_at_call 16; refine (nF3 hf2).mono ?_; rintro e wf3 ⟨v3, rfl, hf3, hg3⟩; have p3 := p2.below hg3; clear hg2 hg3) | (go_at_call 20; refine (k_same (p3.below ((Below.refl _ _).alloc (Nat.le_refl _) _)) (pairs_lit _ _) (b := true) (by decide) (hf3.alloc hf3.size _)).mono ?_; rintro e ws ⟨rfl, hs⟩) | (go_at_call 14; refine (nc0 _).mono ?_; rintro e w' ⟨rfl, rfl⟩) | (go_at_call 14; refine (nc1 _).mono ?_; rintro e w' ⟨rfl, rfl⟩) | (go_at_call 14; refine (nc2 _).mono ?_; rintro e w' ⟨rfl, rfl⟩) | (go_at_call 31; refine (nc3 _).mono ?_; rintro e w' ⟨rfl, rfl⟩) | (go_at_call 26; refine (nc4 (by assumption)).mono ?_; rintro e wn4 ⟨rfl, hn4⟩) | (go_at_call 25; refine (nc5 (by assumption)).mono ?_; rintro e wn5 ⟨rfl, hn5⟩) | (go_at_call 25; refine (nc6 (by assumption)).mono ?_; rintro e wn6 ⟨rfl, hn6⟩) | (go_at_call 27; refine (nc7 (by assumption)).mono ?_; rintro e wn7 ⟨rfl, hn7⟩) | (go_at_call 28; refine (nc8 (by assumption)).mono ?_; rintro e wn8 ⟨rfl, hn8⟩) | (go_at_call 28; refine (nc9 (by assumption)).mono ?_; rintro e wn9 ⟨rfl, hn9⟩) | (go_at_call 28; refine (nc10 (by assumption)).mono ?_; rintro e wn10 ⟨rfl, hn10⟩) | (go_at_call 29; refine (nc11 (by assumption)).mono ?_; rintro e wn11 ⟨rfl, hn11⟩) | (go_at_call 29; refine (nc12 (by assumption)).mono ?_; rintro e wn12 ⟨rfl, hn12⟩) | (go_at_call 23; refine (nc13 _).mono ?_; rintro e w' ⟨rfl, rfl⟩) | (go_at_call 24; refine (nc14 (by assumption)).mono ?_; rintro e wn14 ⟨rfl, hn14⟩) | (go_at_call 24; refine (nc15 (by assumption)).mono ?_; rintro e wn15 ⟨rfl, hn15⟩) | (go_at_call 24; refine (nc16 (by assumption)).mono ?_; rintro e wn16 ⟨rfl, hn16⟩) | (go_at_call 30; refine (nc17 (by assumption)).mono ?_; rintro e wn17 ⟨rfl, hn17⟩) | (go_at_call 30; refine (nc18 (by assumption)).mono ?_; rintro e wn18 ⟨rfl, hn18⟩) | (go_at_call 12; refine (nc19 _).mono ?_; rintro e w' ⟨rfl, rfl⟩) | (go_at_call 12; refine (nc20 _).mono ?_; rintro e w' ⟨rfl, rfl⟩) | (go_at_call 12; refine (nc21 _).mono ?_; rintro e w' ⟨rfl, rfl⟩) | (go_at_call 26; refine (nc22 (by assumption)).mono ?_; rintro e wn22 ⟨rfl, hn22⟩))
  go_ret
  exact ⟨rfl, by assumption⟩
end Go.Proofs.Ytcbonaeaemclnaa
