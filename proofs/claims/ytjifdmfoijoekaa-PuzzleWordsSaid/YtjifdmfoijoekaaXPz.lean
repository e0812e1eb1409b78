/- A search in an ascending list. -/
import Derived.Test.YtjifdmfoijoekaaXPpPqPr
set_option linter.unusedVariables false
namespace Go.Proofs.Ytjifdmfoijoekaa
open Go.RowKit
open Go.Proofs
attribute [local irreducible] Go.Calls Go.wpStill

/-- where the search ends, and whether it is there -/
def PlacePost (L : List (List Int)) (x : List Int) (w : World) (e : Ending) (w' : World) : Prop :=
  ∃ lo : Nat, e = .returned (.tuple #[.int .i64 lo, .bool (decide (x ∈ L))]) ∧ Place L x lo ∧ Below w.heap.size w w'
set_option maxHeartbeats 1000000 in
theorem place_any (lv xv : Value) (L : List (List Int)) (x : List Int) (w : World) (h : Rg.Rows w lv L) (hx : Rg.Ints w xv x) (hs : Asc L) (hL : L.length < 1000000) :
    Calls Try.prog 68 #[lv, xv] w (PlacePost L x w) := by
  obtain ⟨aa, acap, rfl, hac, ham, _, har⟩ := h.shape
  obtain ⟨xn, xa, xc, hxn, rfl, _⟩ := hx.len
  have Har := Lib.hid har
  have Hx := Lib.hid hx
  clear har h hx hxn
  generalize hD : decide (x ∈ L) = D0
  have HD := Lib.hid hD
  clear hD
  go_enter Try.func68, Try.ntmps68
  go_wp2
  go_loopw [6, 7] (fun vl vh wr => ∃ lo hi : Nat, vl = .int .i64 lo ∧ vh = .int .i64 hi ∧ lo ≤ hi ∧ hi ≤ L.length ∧ Hid (∀ i (h : i < L.length), i < lo → lessL L[i] x = true) ∧ Hid (∀ i (h : i < L.length), hi ≤ i → lessL L[i] x = false) ∧ Hid (∃ k, wr = w.drewN k)) (fun vl vh _ => (intOf vh).toNat - (intOf vl).toNat)
  case atStart => exact ⟨0, L.length, rfl, rfl, by omega, by omega, fun i h h0 => by omega, fun i h h0 => by omega, ⟨0, rfl⟩⟩
  case round =>
    obtain ⟨lo, hi, rfl, rfl, hle, hhi, h1, h2, hw⟩ := hrel
    by_cases hlt : lo < hi
    · obtain ⟨m, hm⟩ : ∃ m, m = (lo + hi) / 2 := ⟨_, rfl⟩
      have hm1 : lo ≤ m := by omega
      have hm2 : m < hi := by omega
      have hmI : ((lo : Int) + (hi : Int)) / 2 = (m : Int) := by omega
      have hmL : m < L.length := by omega
      obtain ⟨g, o, rfl, hg, hgr⟩ := Har.out (by omega)
      obtain ⟨u, eu, hu⟩ := hgr m hmL
      have e0 : wr.cell? ⟨g, o + m, none⟩ = some u := by obtain ⟨k, e⟩ := hw.out; rw [e]; exact eu
      have hu1 : Rg.Ints wr u L[m] := by obtain ⟨k, e⟩ := hw.out; rw [e]; exact hu
      have hx1 : Rg.Ints wr (.slice xa xn xc) x := by obtain ⟨k, e⟩ := hw.out; rw [e]; exact Hx.out
      have hq := Less_q _ _ _ _ wr hu1 hx1
      clear hm hgr eu hu hu1 hx1
      cases hbq : lessL L[m] x
      · rw [hbq] at hq
        have Hq := Lib.hid hq
        have Hbq := Lib.hid hbq
        clear hq hbq
        go_wp2_with (go_at_call 71; refine Hq.out.mono ?_; rintro e w' ⟨rfl, k, rfl⟩)
        go_roundw
        case rel =>
          refine ⟨lo, m, rfl, rfl, by omega, by omega, h1.out, fun i h hi' => ?_, by obtain ⟨k, e⟩ := hw.out; rw [e]; exact ⟨_, World.drewN_drewN _ _ _⟩⟩
          rcases Nat.lt_or_ge m i with hmi | hmi
          · cases hh : lessL L[i] x
            · rfl
            · have := lessL_trans (hs m i (by omega) h hmi) hh
              rw [Hbq.out] at this; cases this
          · obtain rfl : i = m := by omega
            exact Hbq.out
        case measure => simp [intOf]; omega
      · rw [hbq] at hq
        have Hq := Lib.hid hq
        have Hbq := Lib.hid hbq
        clear hq hbq
        go_wp2_with (go_at_call 71; refine Hq.out.mono ?_; rintro e w' ⟨rfl, k, rfl⟩)
        go_roundw
        case rel =>
          refine ⟨m + 1, hi, by go_num, rfl, by omega, by omega, fun i h hi' => ?_, h2.out, by obtain ⟨k, e⟩ := hw.out; rw [e]; exact ⟨_, World.drewN_drewN _ _ _⟩⟩
          rcases Nat.lt_or_ge i m with hmi | hmi
          · exact lessL_trans (hs i m h (by omega) hmi) Hbq.out
          · obtain rfl : i = m := by omega
            exact Hbq.out
        case measure => simp [intOf]; omega
    · obtain rfl : lo = hi := by omega
      have hP : Place L x lo := ⟨hhi, h1.out, h2.out⟩
      clear h1 h2
      have hmem := hP.mem hs
      have HP := Lib.hid hP
      have hbw := Lib.hid (show Below w.heap.size w wr by obtain ⟨k, e⟩ := hw.out; rw [e]; exact Rg.drewN (Below.refl _ _) _)
      by_cases hlo : lo < L.length
      · obtain ⟨g, o, rfl, hg, hgr⟩ := Har.out (by omega)
        obtain ⟨u, eu, hu⟩ := hgr lo hlo
        have e0 : wr.cell? ⟨g, o + lo, none⟩ = some u := by obtain ⟨k, e⟩ := hw.out; rw [e]; exact eu
        have hu1 : Rg.Ints wr u L[lo] := by obtain ⟨k, e⟩ := hw.out; rw [e]; exact hu
        have hx1 : Rg.Ints wr (.slice xa xn xc) x := by obtain ⟨k, e⟩ := hw.out; rw [e]; exact Hx.out
        have hd : decide (L[lo] = x) = D0 := by
          rw [← HD.out]
          exact decide_eq_decide.2 ⟨fun e => hmem.2 ⟨hlo, e⟩, fun e => (hmem.1 e).2⟩
        have hq := Lib.hid (Same_any hu1 hx1 (Lib.hid hd) hbw.out)
        clear hmem hgr eu hu hu1 hx1 hd hP
        go_wp2_with (go_at_call 12; refine hq.out.mono ?_; rintro e w' ⟨rfl, hbs⟩)
        go_ret2
        exact ⟨lo, by rw [HD.out]; rfl, HP.out, hbs⟩
      · have hd : false = D0 := by
          rw [← HD.out]
          exact (decide_eq_false (fun e => hlo (hmem.1 e).1)).symm
        subst hd
        clear hmem hP
        go_wp2
        go_ret2
        exact ⟨lo, by rw [HD.out]; rfl, HP.out, hbw.out⟩
def IndexPost (L : List (List Int)) (x : List Int) (w : World) (e : Ending) (w' : World) : Prop :=
  ∃ r : Int, e = .returned (.int .i64 r) ∧ (r < 0 ↔ x ∉ L) ∧ Below w.heap.size w w'
theorem Index_any (lv xv : Value) (L : List (List Int)) (x : List Int) (w : World) (h : Rg.Rows w lv L) (hx : Rg.Ints w xv x) (hs : Asc L) (hL : L.length < 1000000) :
    Calls Try.prog 48 #[lv, xv] w (IndexPost L x w) := by
  have hp := Lib.hid (place_any lv xv L x w h hx hs hL)
  clear h hx
  cases hD : decide (x ∈ L)
  · have HD := Lib.hid hD
    clear hD
    go_enter Try.func48, Try.ntmps48
    go_wp2_with (go_at_call 68; refine hp.out.mono ?_; rintro e w' ⟨lo, rfl, hP, hb⟩; rw [HD.out])
    go_ret
    exact ⟨_, rfl, ⟨fun _ => of_decide_eq_false HD.out, fun _ => by decide⟩, hb⟩
  · have HD := Lib.hid hD
    clear hD
    go_enter Try.func48, Try.ntmps48
    go_wp2_with (go_at_call 68; refine hp.out.mono ?_; rintro e w' ⟨lo, rfl, hP, hb⟩; rw [HD.out])
    go_ret
    exact ⟨_, rfl, ⟨fun h => by omega, fun h => absurd (of_decide_eq_true HD.out) h⟩, hb⟩
end Go.Proofs.Ytjifdmfoijoekaa

