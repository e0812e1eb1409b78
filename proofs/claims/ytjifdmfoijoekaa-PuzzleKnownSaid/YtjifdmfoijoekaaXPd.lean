/- Lemmas and contracts on the way to the statement; no condition of their own beyond those written. -/
import Derived.Test.YtjifdmfoijoekaaXPaPbPcSa
set_option linter.unusedVariables false
namespace Go.Proofs.Ytjifdmfoijoekaa
open Go.RowKit
open Go.Proofs
attribute [local irreducible] Go.Calls

theorem pk_first {v : Value} {ll : List (List Int)} {z : Int} {w w0 : World} (h : Rg.Rows w v ll) (h1 : 1 ≤ ll.length) (hz : Hid (Ma.fstE ll = z)) (hb : Below w0.heap.size w0 w) :
    Calls Try.prog 69 #[v] w fun e w' => e = .returned (.int .i64 z) ∧ Below w0.heap.size w0 w' :=
  (permfirst_any v ll w h h1).mono fun _ _ ⟨a, b⟩ => ⟨by rw [a, hz.out], Rg.acc hb b⟩

theorem pchk_okN {a : List Nat} (ha : Ma.okN a) (h1 : 1 ≤ a.length) (h2 : a.length ≤ 64) : Ma.pchk (Ma.ofN a) = 0 :=
  Ma.pchk_ok (by rw [Ma.len_ofN]; exact h1) (by rw [Ma.len_ofN]; exact h2) (Ma.okN_ofN ha)

set_option maxHeartbeats 400000 in
theorem permInv_ok (v : Value) (a : List Nat) (w : World) (h : Rg.NP w v a) (ha : Ma.okN a) (h1 : 1 ≤ a.length) (h2 : a.length ≤ 64) :
    Calls Try.prog 49 #[v] w fun e w' => ∃ v, e = .returned (.tuple #[v, .int .i64 0]) ∧ Rg.NPF w w' v (Ma.invN a) ∧ Below w.heap.size w w' := by
  have hz := Lib.hid ((Ma.fstE_one (Ma.ofN a)).trans (pchk_okN ha h1 h2))
  have hv := h
  obtain ⟨ad, cap, rfl, _⟩ := h.shape
  have hb0 := Below.refl w.heap.size w
  go_enter Try.func49, Try.ntmps49
  go_wp2_with (first | (go_at_call 69; refine (pk_first (Rg.Rows.one _ hv) (Nat.le_refl _) hz (hb0.alloc (Nat.le_refl _) _)).mono ?_; rintro e w1 ⟨rfl, hb1⟩) | (go_at_call 70; refine (perminv_any _ a _ (hv.below hb1) ha (by omega) h1).mono ?_; rintro e w2 ⟨v2, rfl, hv2, hb2⟩))
  go_ret2
  exact ⟨_, rfl, ⟨hv2.1, hv2.2.mono hb1.size⟩, Rg.acc hb1 hb2⟩

/-- a group by value -/
def Grp (w : World) (v : Value) (d : Int) (ll : List (List Int)) : Prop := ∃ gv, v = .agg #[.int .i64 d, gv] ∧ Rg.Rows w gv ll

set_option maxHeartbeats 1000000 in
theorem orbitCheck_in (gv : Value) (d : Int) (ll : List (List Int)) (w : World) (h : Rg.Rows w gv ll) (h1 : 1 ≤ d) (h2 : d ≤ 64) (h3 : ll.length ≤ 16) :
    Calls Try.prog 50 #[.agg #[.int .i64 d, gv]] w fun e w' => e = .returned (.int .i64 (Ma.gck d ll)) ∧ Below w.heap.size w w' := by
  obtain ⟨ad, cap, rfl, hc, hm, _, hcell⟩ := h.shape
  have Hr := Lib.hid hcell
  clear hcell h
  go_enter Try.func50, Try.ntmps50
  go_wp2
  go_loopw [21] (fun i wr => ∃ k : Nat, k ≤ ll.length ∧ i = .int .i64 k ∧ Hid (Ma.gck d (ll.drop k) = Ma.gck d ll) ∧ Hid (Below (w.heap.size + 1) (w.alloc (.cells #[.int .i64 d, .slice ad ll.length cap] 24)) wr)) (fun i _ => ll.length - (intOf i).toNat)
  case atStart => exact ⟨0, by omega, rfl, rfl, Below.refl _ _⟩
  case round =>
    obtain ⟨k, hk, rfl, hp, hbel⟩ := hrel
    have hb0 : Below w.heap.size w wr := ((Below.refl _ w).alloc (Nat.le_refl _) _).trans (hbel.out.mono (by omega))
    have cd : wr.cell? ⟨w.heap.size, 0, none⟩ = some (.int .i64 d) := by
      rw [hbel.out.cell (by show w.heap.size < _; omega)]; rw [Rg.cellNew]; rfl
    have hsz : w.heap.size < wr.heap.size := by have := hbel.out.size; simp at this; omega
    by_cases hlt : k < ll.length
    · obtain ⟨b, o, rfl, hb, hr⟩ := Hr.out (by omega)
      obtain ⟨u, eu, hu⟩ := hr k hlt
      have e0 : wr.cell? ⟨b, o + k, none⟩ = some u := (hb0.cell (p := ⟨b, o + k, none⟩) hb).trans eu
      have hu' := hu.below hb0
      obtain ⟨n, a1, c1, hn, rfl, hl⟩ := hu.len
      have Hn := Lib.hid hn
      clear hr eu hu hn
      by_cases hz : Ma.pchk ll[k] = 0
      · have Hz := Lib.hid hz
        have hbb : ((Ma.pchk ll[k]) != 0) = false := by rw [hz]; rfl
        clear hz
        have hac : ∀ {e : Ending} {w' : World}, Below wr.heap.size wr w' → w'.cell? ⟨w.heap.size, 0, none⟩ = some (.int .i64 d) := fun hw => (hw.cell (p := ⟨w.heap.size, 0, none⟩) hsz).trans cd
        by_cases hd : (n : Int) = d
        · have hdd : ((n : Int) != d) = false := by rw [hd]; simp
          have Hd := Lib.hid hd
          clear hd
          go_wp2_with (go_at_call 62; refine (permCheck_any _ _ _ hu').mono ?_; rintro e w1 ⟨rfl, hbel1⟩; have cd1 := (hbel1.cell (p := ⟨w.heap.size, 0, none⟩) hsz).trans cd)
          go_roundw
          case rel => exact ⟨k + 1, by omega, by go_num, (Ma.gck_next hlt Hz.out (by rw [Hn.out]; exact Hd.out)).symm.trans hp.out, hbel.out.trans (hbel1.mono hsz)⟩
          case measure => simp [intOf]; omega
        · have hdd : ((n : Int) != d) = true := by rw [bne_iff_ne]; exact hd
          have Hd := Lib.hid hd
          clear hd
          go_wp2_with (go_at_call 62; refine (permCheck_any _ _ _ hu').mono ?_; rintro e w1 ⟨rfl, hbel1⟩; have cd1 := (hbel1.cell (p := ⟨w.heap.size, 0, none⟩) hsz).trans cd)
          go_ret
          exact ⟨ret_i (by rw [← hp.out]; exact Ma.gck_len hlt Hz.out (by rw [Hn.out]; exact Hd.out)), Rg.acc hb0 hbel1⟩
      · have Hz := Lib.hid hz
        have hbb : ((Ma.pchk ll[k]) != 0) = true := by rw [bne_iff_ne]; exact hz
        clear hz
        go_wp2_with (go_at_call 62; refine (pk_check hu' hb0).mono ?_; rintro e w1 ⟨rfl, hbel1⟩)
        go_ret
        exact ⟨ret_i (by rw [← hp.out]; exact Ma.gck_bad hlt Hz.out), hbel1⟩
    · go_wp2
      go_ret
      exact ⟨ret_i (by rw [← hp.out]; exact Ma.gck_end (by omega)), hb0⟩
theorem orbitCheck_any (gv : Value) (d : Int) (ll : List (List Int)) (w : World) (h : Rg.Rows w gv ll) :
    Calls Try.prog 50 #[.agg #[.int .i64 d, gv]] w fun e w' => e = .returned (.int .i64 (Ma.gchk d ll)) ∧ Below w.heap.size w w' := by
  by_cases h1 : 1 ≤ d
  · by_cases h2 : d ≤ 64
    · by_cases h3 : ll.length ≤ 16
      · rw [Ma.gchk_in h1 h2 h3]; exact orbitCheck_in gv d ll w h h1 h2 h3
      · have hg := Lib.hid (Ma.gchk_long h1 h2 h3)
        obtain ⟨ad, cap, rfl, hc, hm, _, hcell⟩ := h.shape
        clear hcell h
        have h3' : 16 < ll.length := by omega
        clear h3
        go_enter Try.func50, Try.ntmps50
        go_wp2
        go_ret
        exact ⟨ret_i hg.out, (Below.refl _ _).alloc (Nat.le_refl _) _⟩
    · have hg := Lib.hid (Ma.gchk_range (d := d) (ll := ll) (by omega))
      have h2' : 64 < d := by omega
      clear h2 h
      go_enter Try.func50, Try.ntmps50
      go_wp2
      go_ret
      exact ⟨ret_i hg.out, (Below.refl _ _).alloc (Nat.le_refl _) _⟩
  · have hg := Lib.hid (Ma.gchk_range (d := d) (ll := ll) (by omega))
    have h1' : d < 1 := by omega
    clear h1 h
    go_enter Try.func50, Try.ntmps50
    go_wp2
    go_ret
    exact ⟨ret_i hg.out, (Below.refl _ _).alloc (Nat.le_refl _) _⟩
end Go.Proofs.Ytjifdmfoijoekaa

