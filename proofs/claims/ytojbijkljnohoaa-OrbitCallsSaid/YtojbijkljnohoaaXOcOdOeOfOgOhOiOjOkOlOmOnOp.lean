/- Lemmas and contracts on the way to the statement; no condition of their own beyond those written. -/
import Derived.Test.YtojbijkljnohoaaXEx
import Derived.Test.YtojbijkljnohoaaXPaPbPcPd
import Derived.Test.YtojbijkljnohoaaXPePfPgPh
import Derived.Test.YtojbijkljnohoaaXOaOb
set_option linter.unusedVariables false
/-! Small functions under the orbits. -/
namespace Go.Proofs.Ytojbijkljnohoaa
open Go.RowKit
open Go.Proofs
attribute [local irreducible] Go.Calls

set_option maxHeartbeats 400000 in
theorem permmul_any (v1 v2 : Value) (a c : List Nat) (w : World) (h : Rg.NP w v1 a) (h' : Rg.NP w v2 c) (hac : ∀ x ∈ a, x < c.length) (hn : a.length ≤ 1000) (h1 : 1 ≤ a.length) (h2 : 1 ≤ c.length) :
    Calls Try.prog 102 #[v1, v2] w fun e w' => ∃ v, e = .returned v ∧ Rg.NPF w w' v (Ma.mulN a c) ∧ Below w.heap.size w w' := by
  obtain ⟨ad, cap, rfl, hc, _, _, hcell⟩ := h.shape
  obtain ⟨b, o, rfl, hb, hr⟩ := hcell (by omega)
  obtain ⟨ad2, cap2, rfl, hc2, _, _, hcell2⟩ := h'.shape
  obtain ⟨b2, o2, rfl, hb2, hr2⟩ := hcell2 (by omega)
  have Hr := Lib.hid hr
  have Hr2 := Lib.hid hr2
  have Hac := Lib.hid hac
  clear hr hcell h hr2 hcell2 h' hac
  have hmk := mkPerm a.length (by omega) w
  have hrow := Lib.hid (World.rowIs_made w (.int .i64 0) a.length 3)
  go_enter Try.func102, Try.ntmps102
  go_wp2
  clear hmk
  go_loopw [13] (fun i wr => ∃ k : Nat, k ≤ a.length ∧ i = .int .i64 k ∧ Hid (wr.rowIs w.heap.size 3 a.length (fun j => .int .i64 (if j < k then ((c.getD (a.getD j 0) 0 : Nat) : Int) else 0))) ∧ Below w.heap.size w wr) (fun i _ => a.length - (intOf i).toNat)
  case atStart => exact ⟨0, by omega, rfl, hrow.out.congr (fun i hi => by simp), (Below.refl _ _).alloc (Nat.le_refl _) _⟩
  case round =>
    obtain ⟨k, hk, rfl, hs, hbel⟩ := hrel
    obtain ⟨hc, hf⟩ := Rg.bcell hbel
    by_cases hlt : k < a.length
    · have e0 : wr.cell? ⟨b, o + k, none⟩ = some (.int .i64 ((a[k] : Nat) : Int)) := (hc b (o + k) hb).trans (Hr.out k hlt)
      have hak : a[k] < c.length := Hac.out _ (List.getElem_mem hlt)
      have hga : a.getD k 0 = a[k] := Ma.getD_lt hlt
      have e1 : wr.cell? ⟨b2, o2 + a[k], none⟩ = some (.int .i64 ((c.getD (a.getD k 0) 0 : Nat) : Int)) := by
        rw [hga, Ma.getD_lt hak]
        exact (hc b2 (o2 + a[k]) hb2).trans (Hr2.out a[k] hak)
      generalize a[k] = x at *
      have Hga := Lib.hid hga
      generalize hy : c.getD (a.getD k 0) 0 = y at *
      have Hy := Lib.hid hy
      clear hc hf hga hy
      have c1 := hs.out.cell hlt
      have f1 := hs.out.frozen k
      simp only [Nat.lt_irrefl, if_false] at c1
      go_wp2
      go_roundw
      case rel =>
        refine ⟨k + 1, by omega, by go_num, ?_, hbel.setCell (Nat.le_refl _) _⟩
        refine (hs.out.set k _).congr fun i hi => ?_
        by_cases e : i = k
        · subst e; rw [if_pos rfl, if_pos (by omega), Hy.out]
        · rw [if_neg e]
          by_cases e2 : i < k
          · rw [if_pos e2, if_pos (by omega)]
          · rw [if_neg e2, if_neg (by omega)]
      case measure => simp [intOf]; omega
    · obtain rfl : k = a.length := by omega
      go_wp2
      go_ret
      refine ⟨_, rfl, ⟨Rg.NP.of_rowIs hs.out (by rw [Ma.len_mulN]) (by omega) (fun i hi => ?_), Rg.Fresh.mk _ _ _ _⟩, by assumption⟩
      rw [Ma.get_mulN]
      rw [Ma.len_mulN] at hi
      rw [if_pos hi, Ma.getD_lt hi]
theorem fstE_two {a c : List Nat} (ha : Ma.okN a) (hc : Ma.okN c) (h1 : 1 ≤ a.length) (h2 : a.length ≤ 64) (hl : a.length = c.length) : Ma.fstE [Ma.ofN a, Ma.ofN c] = 0 := by
  have e1 := pchk_okN ha h1 h2
  have e2 := pchk_okN hc (by omega) (by omega)
  have e3 : (Ma.ofN c).length = (Ma.ofN a).length := by rw [Ma.len_ofN, Ma.len_ofN]; omega
  simp [Ma.fstE, Ma.fst1, Ma.fst2, e1, e2, e3]
theorem permMul_ok (v1 v2 : Value) (a c : List Nat) (w : World) (h : Rg.NP w v1 a) (h' : Rg.NP w v2 c) (ha : Ma.okN a) (hc : Ma.okN c) (hl : a.length = c.length) (h1 : 1 ≤ a.length) (h2 : a.length ≤ 64) :
    Calls Try.prog 56 #[v1, v2] w fun e w' => ∃ v, e = .returned (.tuple #[v, .int .i64 0]) ∧ Rg.NPF w w' v (Ma.mulN a c) ∧ Below w.heap.size w w' := by
  have hz := Lib.hid (fstE_two ha hc h1 h2 hl)
  have HL := Lib.hid hl
  clear hl
  have hv := h
  have hv' := h'
  obtain ⟨ad, cap, rfl, _⟩ := h.shape
  obtain ⟨ad2, cap2, rfl, _⟩ := h'.shape
  have hrn := run_buildP2 w (.slice ad a.length cap) (.slice ad2 c.length cap2) ⟨_, _, _, rfl⟩ ⟨_, _, _, rfl⟩
  have hb0 : Below w.heap.size w (w.alloc (.cells #[.slice ad a.length cap, .slice ad2 c.length cap2] 62)) := (Below.refl _ _).alloc (Nat.le_refl _) _
  have hrw := Rg.Rows.two 62 hv hv'
  go_enter Try.func56, Try.ntmps56
  go_upto_region 1 with (fail)
  refine wp_region_list ?_
  refine Rg.list_run (some 7) rfl rfl (Rg.exec_move (v := .slice ad a.length cap) _ rfl rfl) ?_
  go_frame
  refine Rg.list_run (some 8) rfl rfl (Rg.exec_move (v := .slice ad2 c.length cap2) _ rfl rfl) ?_
  go_frame
  refine Rg.list_run (some 9) rfl rfl (exec_buildP _ _ rfl rfl rfl hrn) ?_
  go_frame
  refine list_ask (some 10) rfl rfl _ _ (exec_fn1 101 _ _ rfl rfl (by kernel_rfl)) ?_
  refine (pk_first hrw (Nat.le_succ 1) hz hb0).mono ?_
  rintro e w1 ⟨rfl, hb1⟩
  refine ⟨_, rfl, ?_⟩
  go_frame
  refine Rg.list_run (some 6) rfl rfl (Rg.exec_assign (v := .int .i64 0) _ rfl rfl) ?_
  go_frame
  clear hrn hb0 hrw
  go_wp2_with (go_at_call 102; refine (permmul_any _ _ a c _ (hv.below hb1) (hv'.below hb1) (fun x hx => by have := ha.1 x hx; have := HL.out; omega) (by omega) h1 (by have := HL.out; omega)).mono ?_; rintro e w2 ⟨v2, rfl, hv2, hb2⟩)
  go_ret2
  exact ⟨_, rfl, ⟨hv2.1, hv2.2.mono hb1.size⟩, Rg.acc hb1 hb2⟩
theorem refInv_ok (v : Value) (a : List Nat) (w : World) (h : Rg.NP w v a) (ha : Ma.okN a) (h1 : 1 ≤ a.length) (h2 : a.length ≤ 64) :
    Calls Try.prog 62 #[v] w fun e w' => ∃ v, e = .returned (.tuple #[v, .int .i64 0]) ∧ Rg.NPF w w' v (Ma.invN a) ∧ Below w.heap.size w w' := by
  have hz := pchk_okN ha h1 h2
  have hck := refPermCheck_any v (Ma.ofN a) w h
  rw [hz] at hck
  have Hck := Lib.hid hck
  clear hck hz
  go_enter Try.func62, Try.ntmps62
  go_wp2_with (first | (go_at_call 72; refine Hck.out.mono ?_; rintro e w1 ⟨rfl, hb1⟩) | (go_at_call 86; refine (kitInv_any _ a _ (h.below hb1) ha (by omega)).mono ?_; rintro e w2 ⟨v2, rfl, hv2, hb2⟩))
  go_ret2
  exact ⟨_, rfl, ⟨hv2.1, hv2.2.mono hb1.size⟩, Rg.acc hb1 hb2⟩
end Go.Proofs.Ytojbijkljnohoaa

/-! Points, membership, equality; the chapter's example. -/
namespace Go.Proofs.Ytojbijkljnohoaa
open Go.RowKit
open Go.Proofs
attribute [local irreducible] Go.Calls

/-- is it a point of the group? -/
def isPt (d p : Int) : Bool := decide (0 ≤ p ∧ p < d)
theorem point_any (gv : Value) (d p : Int) (w : World) : Calls Try.prog 53 #[.agg #[.int .i64 d, gv], .int .i64 p] w fun e w' => e = .returned (.bool (isPt d p)) ∧ Below w.heap.size w w' := by
  have hb : Below w.heap.size w (w.alloc (.cells #[.int .i64 d, gv] 24)) := (Below.refl _ _).alloc (Nat.le_refl _) _
  by_cases h0 : 0 ≤ p
  · by_cases h1 : p < d
    · have hv : isPt d p = true := by unfold isPt; rw [decide_eq_true_iff]; exact ⟨h0, h1⟩
      have HV := Lib.hid hv
      clear hv
      go_enter Try.func53, Try.ntmps53
      go_wp2
      go_ret
      exact ⟨by rw [HV.out]; rfl, hb⟩
    · have hv : isPt d p = false := by unfold isPt; rw [decide_eq_false_iff_not]; omega
      have HV := Lib.hid hv
      clear hv
      go_enter Try.func53, Try.ntmps53
      go_wp2
      go_ret
      exact ⟨by rw [HV.out]; rfl, hb⟩
  · have hv : isPt d p = false := by unfold isPt; rw [decide_eq_false_iff_not]; omega
    have HV := Lib.hid hv
    clear hv
    go_enter Try.func53, Try.ntmps53
    go_wp2
    go_ret
    exact ⟨by rw [HV.out]; rfl, hb⟩

set_option maxHeartbeats 400000 in
theorem Has_any (v : Value) (l : List Int) (x : Int) (w : World) (h : Rg.Ints w v l) :
    Calls Try.prog 69 #[v, .int .i64 x] w fun e w' => e = .returned (.bool (decide (x ∈ l))) ∧ Below w.heap.size w w' := by
  obtain ⟨ad, cap, rfl, _, hlm, _, hcell⟩ := h.shape
  have Hc := Lib.hid hcell
  clear hcell h
  go_enter Try.func69, Try.ntmps69
  go_wp2
  go_loopw [5] (fun i wr => ∃ k : Nat, k ≤ l.length ∧ i = .int .i64 k ∧ Hid (x ∉ l.take k) ∧ Hid (Below w.heap.size w wr)) (fun i _ => l.length - (intOf i).toNat)
  case atStart => exact ⟨0, by omega, rfl, Lib.hid (by simp), Lib.hid (Below.refl _ _)⟩
  case round =>
    obtain ⟨k, hk, rfl, hs, hbel⟩ := hrel
    by_cases hlt : k < l.length
    · obtain ⟨b, o, rfl, hb, hc⟩ := Hc.out (by omega)
      have c0 := (hbel.out.cell (p := ⟨b, o + k, none⟩) hb).trans (hc k hlt)
      obtain ⟨y, hy⟩ : ∃ y, Hid (y = l[k]) := ⟨_, Lib.hid rfl⟩
      rw [← hy.out] at c0
      have hkl : (k : Int) < (l.length : Int) := by omega
      clear hc hb
      by_cases he : y = x
      · have hm : decide (x ∈ l) = true := by rw [decide_eq_true_iff, ← he, hy.out]; exact List.getElem_mem hlt
        have HM := Lib.hid hm
        clear hm
        have e1 : (y == x) = true := by simp [he]
        go_wp2
        go_ret
        exact ⟨by rw [HM.out]; rfl, hbel.out⟩
      · have e1 : (y == x) = false := by simp [he]
        have HE := Lib.hid he
        go_wp2
        go_roundw
        case rel =>
          refine ⟨k + 1, by omega, by go_num, Lib.hid ?_, hbel⟩
          rw [List.take_succ_eq_append_getElem hlt, List.mem_append]
          rintro (hm | hm)
          · exact hs.out hm
          · rw [List.mem_singleton] at hm
            exact HE.out (hy.out.trans hm.symm)
        case measure => simp [intOf]; omega
    · obtain rfl : k = l.length := by omega
      have hm : decide (x ∈ l) = false := by rw [decide_eq_false_iff_not]; have := hs.out; rwa [List.take_length] at this
      have HM := Lib.hid hm
      clear hm
      go_wp2
      go_ret
      exact ⟨by rw [HM.out]; rfl, hbel.out⟩
end Go.Proofs.Ytojbijkljnohoaa

/-! slices.Equal at permutations; the chapter's example. -/
namespace Go.Proofs.Ytojbijkljnohoaa
open Go.RowKit
open Go.Proofs
attribute [local irreducible] Go.Calls

set_option maxHeartbeats 1000000 in
theorem equalP_any (v1 v2 : Value) (l1 l2 : List Int) (w : World) (h : Rg.Ints w v1 l1) (h' : Rg.Ints w v2 l2) (hl : l1.length ≤ 100) :
    Calls Try.prog 58 #[v1, v2] w fun e w' => e = .returned (.bool (decide (l1 = l2))) ∧ Below w.heap.size w w' := by
  obtain ⟨ad, cap, rfl, _, hlm, _, hcell⟩ := h.shape
  obtain ⟨ad2, cap2, rfl, _, hlm2, _, hcell2⟩ := h'.shape
  have Hc := Lib.hid hcell
  have Hc2 := Lib.hid hcell2
  clear hcell h hcell2 h'
  by_cases hne : l1.length = l2.length
  · rw [← hne]
    rw [← hne] at hlm2
    have HNE := Lib.hid hne
    clear hne
    go_enter Try.func58, Try.ntmps58
    go_wp2
    go_loopw [13] (fun i wr => ∃ k : Nat, k ≤ l1.length ∧ i = .int .i64 k ∧ Hid (l1.take k = l2.take k) ∧ Hid (Below w.heap.size w wr)) (fun i _ => l1.length - (intOf i).toNat)
    case atStart => exact ⟨0, by omega, rfl, Lib.hid (by simp), Lib.hid (Below.refl _ _)⟩
    case round =>
      obtain ⟨k, hk, rfl, hs, hbel⟩ := hrel
      by_cases hlt : k < l1.length
      · have hlt2 : k < l2.length := by have := HNE.out; omega
        obtain ⟨b, o, rfl, hb, hc⟩ := Hc.out (by omega)
        obtain ⟨b2, o2, rfl, hb2, hc2⟩ := Hc2.out (by omega)
        have c0 := (hbel.out.cell (p := ⟨b, o + k, none⟩) hb).trans (hc k hlt)
        have c2 := (hbel.out.cell (p := ⟨b2, o2 + k, none⟩) hb2).trans (hc2 k hlt2)
        obtain ⟨x, hx⟩ : ∃ x, Hid (x = l1[k]) := ⟨_, Lib.hid rfl⟩
        obtain ⟨y, hy⟩ : ∃ y, Hid (y = l2[k]) := ⟨_, Lib.hid rfl⟩
        rw [← hx.out] at c0
        rw [← hy.out] at c2
        have hkl : (k : Int) < (l1.length : Int) := by omega
        clear hc hb hc2 hb2
        by_cases he : x = y
        · have e1 : (x != y) = false := by simp [he]
          have HE := Lib.hid he
          go_upto_region 6 with (fail)
          go_quiet (fail)
          have HB2 := Lib.hid (Rg.drewN hbel.out nq)
          generalize wr.drewN nq = wq at *
          go_wp2
          go_roundw
          case rel =>
            refine ⟨k + 1, by omega, by go_num, Lib.hid ?_, HB2⟩
            rw [List.take_succ_eq_append_getElem hlt, List.take_succ_eq_append_getElem hlt2, hs.out, ← hx.out, ← hy.out, HE.out]
          case measure => simp [intOf]; omega
        · have e1 : (x != y) = true := by simp [he]
          have hm : decide (l1 = l2) = false := by
            rw [decide_eq_false_iff_not]
            intro e
            subst e
            exact he (hx.out.trans hy.out.symm)
          have HM := Lib.hid hm
          clear hm
          go_upto_region 6 with (fail)
          go_quiet (fail)
          have HB2 := Lib.hid (Rg.drewN hbel.out nq)
          generalize wr.drewN nq = wq at *
          go_wp2
          go_ret
          exact ⟨by rw [HM.out]; rfl, HB2.out⟩
      · obtain rfl : k = l1.length := by omega
        have hm : decide (l1 = l2) = true := by
          rw [decide_eq_true_iff]
          have := hs.out
          rwa [List.take_length, HNE.out, List.take_length] at this
        have HM := Lib.hid hm
        clear hm
        go_wp2
        go_ret
        exact ⟨by rw [HM.out]; rfl, hbel.out⟩
  · have hb : ((l1.length : Int) != (l2.length : Int)) = true := by rw [bne_iff_ne]; omega
    have hm : decide (l1 = l2) = false := by
      rw [decide_eq_false_iff_not]
      intro e
      subst e
      exact hne rfl
    have HM := Lib.hid hm
    have HNE := Lib.hid hne
    clear hm hne
    go_enter Try.func58, Try.ntmps58
    go_wp2
    go_ret
    exact ⟨by rw [HM.out]; rfl, Below.refl _ _⟩

/-- what a group function answers -/
def GPost (d : Int) (ll : List (List Int)) (w : World) (e : Ending) (w' : World) : Prop :=
  ∃ a n c, e = .returned (.agg #[.int .i64 d, .slice a n c]) ∧ RowsF w.heap.size w' (.slice a n c) ll ∧ Below w.heap.size w w'
set_option maxHeartbeats 1000000 in
theorem example_any (w : World) : Calls Try.prog 52 #[] w (GPost 5 [[1, 2, 0, 3, 4], [0, 1, 2, 4, 3]] w) := by
  go_enter Try.func52, Try.ntmps52
  go_upto_region 1 with (fail)
  generalize hW : w.alloc (.cells #[.int .i64 0, .slice none 0 0] 24) = W0
  have hsz : W0.heap.size = w.heap.size + 1 := by rw [← hW]; simp
  have hbW : Below w.heap.size w W0 := by rw [← hW]; exact (Below.refl _ _).alloc (Nat.le_refl _) _
  have hc1 : W0.cell? ⟨w.heap.size, 0, none⟩ = some (.int .i64 0) := by rw [← hW, Rg.cellNew]; rfl
  have hc2 : W0.cell? ⟨w.heap.size, 1, none⟩ = some (.slice none 0 0) := by rw [← hW, Rg.cellNew]; rfl
  have hf1 : ∀ o, W0.frozen? ⟨w.heap.size, o, none⟩ = false := fun o => by rw [← hW]; exact frozenNewN _ _ _ 0 _
  clear hW
  refine wp_region_list ?_
  have i1 := ints_new W0 3 [1, 2, 0, 3, 4] (by decide)
  have b1 : Below W0.heap.size W0 _ := (Below.refl W0.heap.size W0).alloc (Nat.le_refl _) (.cells (([1, 2, 0, 3, 4] : List Int).map (Value.int .i64)).toArray 3)
  refine Rg.list_run (some 1) rfl rfl (exec_flat _ _ 5 _ rfl [1, 2, 0, 3, 4] Try.underlying62 szInt zInt rfl (by decide) (by decide) rfl) ?_
  go_frame
  generalize W0.alloc (.cells (([1, 2, 0, 3, 4] : List Int).map (Value.int .i64)).toArray 3) = W1 at *
  have i2 := ints_new W1 3 [0, 1, 2, 4, 3] (by decide)
  have b2 : Below W1.heap.size W1 _ := (Below.refl W1.heap.size W1).alloc (Nat.le_refl _) (.cells (([0, 1, 2, 4, 3] : List Int).map (Value.int .i64)).toArray 3)
  refine Rg.list_run (some 2) rfl rfl (exec_flat _ _ 5 _ rfl [0, 1, 2, 4, 3] Try.underlying62 szInt zInt rfl (by decide) (by decide) rfl) ?_
  go_frame
  generalize W1.alloc (.cells (([0, 1, 2, 4, 3] : List Int).map (Value.int .i64)).toArray 3) = W2 at *
  have g3 := rowsF_new (B := w.heap.size + 1) (w := W2) 62 [.slice (some ⟨W0.heap.size, 0, none⟩) 5 5, .slice (some ⟨W1.heap.size, 0, none⟩) 5 5] [[1, 2, 0, 3, 4], [0, 1, 2, 4, 3]] rfl (by simp) (by
    have s1 := b1.size
    have s2 := b2.size
    intro i h h2
    match i, h, h2 with
    | 0, _, _ => exact ⟨(i1.below b2), (Rg.Fresh.mk _ _ _ _).mono (by omega)⟩
    | 1, _, _ => exact ⟨i2, (Rg.Fresh.mk _ _ _ _).mono (by omega)⟩) (by have s1 := b1.size; have s2 := b2.size; omega)
  have bz : Below W2.heap.size W2 _ := (Below.refl W2.heap.size W2).alloc (Nat.le_refl _) (.cells #[.slice (some ⟨W0.heap.size, 0, none⟩) 5 5, .slice (some ⟨W1.heap.size, 0, none⟩) 5 5] 62)
  refine Rg.list_run (some 3) rfl rfl (exec_buildP (u1 := .slice (some ⟨W0.heap.size, 0, none⟩) 5 5) (u2 := .slice (some ⟨W1.heap.size, 0, none⟩) 5 5) _ _ rfl rfl rfl (run_buildP2 _ _ _ ⟨_, _, _, rfl⟩ ⟨_, _, _, rfl⟩)) ?_
  go_frame
  have hb3 := (Rg.acc b1 (Rg.acc b2 bz))
  clear bz b1 i1 b2 i2
  have g4 : RowsF (w.heap.size + 1) (W2.alloc (.cells #[.slice (some ⟨W0.heap.size, 0, none⟩) 5 5, .slice (some ⟨W1.heap.size, 0, none⟩) 5 5] 62)) (.slice (some ⟨W2.heap.size, 0, none⟩) 2 2) [[1, 2, 0, 3, 4], [0, 1, 2, 4, 3]] := g3
  clear g3
  generalize W2.alloc (.cells #[.slice (some ⟨W0.heap.size, 0, none⟩) 5 5, .slice (some ⟨W1.heap.size, 0, none⟩) 5 5] 62) = Z at *
  refine Rg.list_run (some 4) rfl rfl (exec_buildG (d := 5) _ _ rfl rfl rfl) ?_
  go_frame
  obtain ⟨kc, kf⟩ := Rg.bcell hb3
  have lt1 : w.heap.size < W0.heap.size := by omega
  have r0 := (kc _ 0 lt1).trans hc1
  have r1 := (kc _ 1 lt1).trans hc2
  have rf := fun o => (kf _ o lt1).trans (hf1 o)
  obtain ⟨p0, p1, p2⟩ := group_set (.int .i64 5) (.slice (some ⟨W2.heap.size, 0, none⟩) 2 2) r0 r1 (Rg.acc hbW hb3) (by omega)
  have hR := ((g4.set w.heap.size 0 (.int .i64 5) (by omega)).set w.heap.size 1 (.slice (some ⟨W2.heap.size, 0, none⟩) 2 2) (by omega)).mono (B' := w.heap.size) (by omega)
  refine Rg.list_skip none rfl rfl (Rg.exec_store _ _ _ rfl _ rfl _ rfl (run_storeG 5 _ 2 2 r0 r1 (rf 0) (rf 1))) ?_
  go_frame
  generalize (Z.setCell ⟨w.heap.size, 0, none⟩ (.int .i64 5)).setCell ⟨w.heap.size, 1, none⟩ (.slice (some ⟨W2.heap.size, 0, none⟩) 2 2) = W6 at *
  have H := Lib.hid (And.intro p0 (And.intro p1 (And.intro p2 hR)))
  clear hc1 hc2 hf1 kc kf r0 r1 rf p0 p1 p2 hR g4
  go_wp2
  exact bodyPost_ret (results_cellG rfl _ rfl H.out.1 H.out.2.1) rfl ⟨_, _, _, rfl, H.out.2.2.2, H.out.2.2.1⟩
end Go.Proofs.Ytojbijkljnohoaa

/-! The breadth tree in a block of its own. -/
namespace Go.Proofs.Ytojbijkljnohoaa
open Go.RowKit
open Go.Proofs
open Go.Proofs.Ob
attribute [local irreducible] Go.Calls

/-- a tree's cells: points, parents, generators, which points -/
def treeC (v : Value) : Array Value := #[v] ++ Array.replicate 64 (.int .i64 0) ++ Array.replicate 64 (.int .i64 0) ++ Array.replicate 64 (.bool false)
theorem run_buildTree (a : Option Addr) (n c : Nat) (w : World) : (Instr.build 87 #[(0, .slice a n c)]).run Try.prog w = .ok (.agg (treeC (.slice a n c))) w := by kernel_rfl
theorem run_boxTree (a : Option Addr) (n c : Nat) (w : World) : (Instr.box 87 (.agg (treeC (.slice a n c)))).run Try.prog w = .ok (.pointer (some ⟨w.heap.size, 0, none⟩)) (w.alloc (.cells (treeC (.slice a n c)) 87)) := by kernel_rfl

def parI (T : List En) (x : Nat) : Int := ((T.find? fun e => e.1 == x).map (·.2.1)).getD 0
def frmI (T : List En) (x : Nat) : Int := ((T.find? fun e => e.1 == x).map (fun e => (e.2.2.1 : Int))).getD 0
/-- what the tree's block holds -/
def TF (pv : Value) (T : List En) (j : Nat) : Value := if j = 0 then pv else if j < 65 then .int .i64 (parI T (j - 1)) else if j < 129 then .int .i64 (frmI T (j - 65)) else .bool (decide (j - 129 ∈ pts T))
def pvs (T : List En) : List Value := (pts T).map fun (x : Nat) => Value.int .i64 (x : Int)
def TreeAt (w : World) (tb B : Nat) (pv : Value) (T : List En) : Prop :=
  w.rowIs tb 87 193 (TF pv T) ∧ w.ownsRow B 3 1 pv T.length (pvs T) ∧ pv.ownBlock ≠ some tb
theorem find_snoc_ne {T : List En} {e : En} {x : Nat} (h : x ≠ e.1) : (T ++ [e]).find? (fun d => d.1 == x) = T.find? (fun d => d.1 == x) := by
  rw [List.find?_append]
  have : [e].find? (fun d => d.1 == x) = none := by
    rw [List.find?_eq_none]
    intro a ha
    obtain rfl : a = e := by simpa using ha
    simp [Ne.symm h]
  rw [this]; simp
theorem find_snoc_eq {T : List En} {e : En} (h : e.1 ∉ pts T) : (T ++ [e]).find? (fun d => d.1 == e.1) = some e := by
  rw [List.find?_append]
  have : T.find? (fun d => d.1 == e.1) = none := by
    rw [List.find?_eq_none]
    intro a ha hc
    exact h (List.mem_map.2 ⟨a, ha, by simpa using hc⟩)
  rw [this]; simp
/-- a point put to the tree: three cells -/
theorem TF_put {pv : Value} {T : List En} {e : En} (h : e.1 ∉ pts T) (he : e.1 < 64) {j : Nat} (hj : j < 193) :
    TF pv (T ++ [e]) j = if j = 65 + e.1 then .int .i64 (e.2.2.1 : Int) else if j = 1 + e.1 then .int .i64 e.2.1 else if j = 129 + e.1 then .bool true else TF pv T j := by
  unfold TF
  by_cases h0 : j = 0
  · rw [if_pos h0, if_neg (by omega), if_neg (by omega), if_neg (by omega), if_pos h0]
  · rw [if_neg h0, if_neg h0]
    by_cases h1 : j < 65
    · rw [if_pos h1, if_pos h1, if_neg (by omega)]
      by_cases h2 : j = 1 + e.1
      · rw [if_pos h2]
        have : j - 1 = e.1 := by omega
        unfold parI
        rw [this, find_snoc_eq h]; rfl
      · rw [if_neg h2, if_neg (by omega)]
        unfold parI
        rw [find_snoc_ne (by omega)]
    · rw [if_neg h1, if_neg h1]
      by_cases h2 : j < 129
      · rw [if_pos h2, if_pos h2]
        by_cases h3 : j = 65 + e.1
        · rw [if_pos h3]
          have : j - 65 = e.1 := by omega
          unfold frmI
          rw [this, find_snoc_eq h]; rfl
        · rw [if_neg h3, if_neg (by omega), if_neg (by omega)]
          unfold frmI
          rw [find_snoc_ne (by omega)]
      · rw [if_neg h2, if_neg h2, if_neg (by omega), if_neg (by omega)]
        rw [pts_append]
        by_cases h3 : j = 129 + e.1
        · rw [if_pos h3]
          have : j - 129 = e.1 := by omega
          rw [this]; simp [pts]
        · rw [if_neg h3]
          have h4 : j - 129 ≠ e.1 := by omega
          simp only [List.mem_append]
          have : ¬ (j - 129 ∈ pts [e]) := by simp [pts]; exact h4
          simp [this]
theorem TF_pv (pv pv' : Value) (T : List En) (j : Nat) : TF pv' T j = if j = 0 then pv' else TF pv T j := by
  unfold TF; split <;> rfl

theorem exec_nil {o : Oper} {a : Act} {w : World} {ad : Addr} (x : Operand) (ho : o.op = .nilCheck x) (hx : a.eval x = .pointer (some ad)) : (execOp a.eval o).run Try.prog w = .ok (.value (.pointer (some ad))) w := by
  unfold execOp
  simp only [ho, hx, Sem.run_pure]
theorem fT0 (b : Nat) (w : World) : (Instr.fieldAt 87 (.pointer (some ⟨b, 0, none⟩)) 0).run Try.prog w = .ok (.pointer (some ⟨b, 0, none⟩)) w := by kernel_rfl
theorem fT1 (b : Nat) (w : World) : (Instr.fieldAt 87 (.pointer (some ⟨b, 0, none⟩)) 1).run Try.prog w = .ok (.pointer (some ⟨b, 1, none⟩)) w := by kernel_rfl
theorem fT2 (b : Nat) (w : World) : (Instr.fieldAt 87 (.pointer (some ⟨b, 0, none⟩)) 2).run Try.prog w = .ok (.pointer (some ⟨b, 65, none⟩)) w := by kernel_rfl
theorem fT3 (b : Nat) (w : World) : (Instr.fieldAt 87 (.pointer (some ⟨b, 0, none⟩)) 3).run Try.prog w = .ok (.pointer (some ⟨b, 129, none⟩)) w := by kernel_rfl
theorem exec_field {o : Oper} {a : Act} {w : World} {t : TypeId} {i : Nat} {v r : Value} (x : Operand) (ho : o.op = .fieldAddr t x i) (hx : a.eval x = v) (h : (Instr.fieldAt t v i).run Try.prog w = .ok r w) : (execOp a.eval o).run Try.prog w = .ok (.value r) w := by
  unfold execOp
  simp only [ho, hx, Sem.run_bind, Sem.run_pure, h, Result.andThen_ok]
theorem exec_indexArr {o : Oper} {a : Act} {w : World} {t e : TypeId} {n : Nat} (x y : Operand) (ho : o.op = .indexAddr t x y) (hu : Try.prog.underlying t = some (.array n e)) (hsz : (Try.prog.info? e).map (·.size) = some 1) (b of i : Nat) (hx : a.eval x = .pointer (some ⟨b, of, none⟩)) (hy : a.eval y = .int .i64 (i : Int)) (hi : i < n) :
    (execOp a.eval o).run Try.prog w = .ok (.value (.pointer (some ⟨b, of + i, none⟩))) w := by
  obtain ⟨ie, hie, hs⟩ := Option.map_eq_some_iff.1 hsz
  have h1 : (0 : Int) ≤ (i : Int) ∧ (i : Int) < (n : Int) := ⟨by omega, by omega⟩
  have hr : (Instr.indexAt t (.pointer (some ⟨b, of, none⟩)) (.int .i64 (i : Int))).run Try.prog w = .ok (.pointer (some ⟨b, of + i, none⟩)) w := by
    simp [Instr.indexAt, asIntOf, run_underlying hu, sizeOf, typeInfo, hie, hs, h1, Addr.add, Instr.sureAddr]
    first | done | rfl | (rw [if_pos hi]; split <;> simp_all)
  unfold execOp
  simp only [ho, hx, hy, Sem.run_bind, Sem.run_pure, hr, Result.andThen_ok]
end Go.Proofs.Ytojbijkljnohoaa

/-! The breadth tree grown: facts on its block. -/
namespace Go.Proofs.Ytojbijkljnohoaa
open Go.RowKit
open Go.Proofs
open Go.Proofs.Ob
attribute [local irreducible] Go.Calls

theorem run_build1i (X : World) (x : Int) : (Instr.buildSlice 33 1 #[(0, .int .i64 x)]).run Try.prog X = .ok (.slice (some ⟨X.heap.size, 0, none⟩) 1 1) (X.alloc (.cells #[.int .i64 x] 3)) := by
  obtain ⟨i0, hi, hz0, hz1, hz2⟩ := info_parts intsInfo
  refine run_buildSlice X 33 3 1 _ _ i0 _ Try.underlying33 hi hz0 (by rw [hz1]; decide) (by rw [hz1]; decide) ?_
  generalize (fun x => ((Value.int IntKind.i64 0).cells)[x % (Value.int IntKind.i64 0).cells.size]!) = f
  rw [hz1]
  have h1 : Array.range (1 * 1) = #[0] := rfl
  simp [Instr.fill, Value.cells, h1]
theorem run_storeInt {w : World} {b o : Nat} {u : Value} (v : Int) (h : w.cell? ⟨b, o, none⟩ = some u) (hf : w.frozen? ⟨b, o, none⟩ = false) :
    (storeVar 3 ⟨b, o, none⟩ (.int .i64 v)).run Try.prog w = .ok () (w.setCell ⟨b, o, none⟩ (.int .i64 v)) := by
  obtain ⟨i0, hi, hz0, hz1, hz2⟩ := info_parts intsInfo
  have h0 : (⟨b, o, none⟩ : Addr).add 0 = ⟨b, o, none⟩ := by simp [Addr.add]
  simp [storeVar, sizeOf, typeInfo, hi, hz1, Value.cells, storeCells, store, h0]
  simp [Sem.run, h, hf]
theorem run_storeBool {w : World} {b o : Nat} {u : Value} (v : Bool) (h : w.cell? ⟨b, o, none⟩ = some u) (hf : w.frozen? ⟨b, o, none⟩ = false) :
    (storeVar 4 ⟨b, o, none⟩ (.bool v)).run Try.prog w = .ok () (w.setCell ⟨b, o, none⟩ (.bool v)) := by
  obtain ⟨i0, hi, hz0, hz1, hz2⟩ := info_parts infoBool
  have h0 : (⟨b, o, none⟩ : Addr).add 0 = ⟨b, o, none⟩ := by simp [Addr.add]
  simp [storeVar, sizeOf, typeInfo, hi, hz1, Value.cells, storeCells, store, h0]
  simp [Sem.run, h, hf]
theorem treeC_get (v : Value) (i : Nat) (h : i < 193) : (treeC v)[i]? = some (TF v [] i) := by
  unfold treeC TF
  by_cases h0 : i = 0
  · subst h0; simp
  · rw [if_neg h0]
    by_cases h1 : i < 65
    · rw [if_pos h1, Array.getElem?_append_left (by simp; omega), Array.getElem?_append_left (by simp; omega), Array.getElem?_append_right (by simp; omega), Array.getElem?_replicate, if_pos (by simp; omega)]
      rfl
    · rw [if_neg h1]
      by_cases h2 : i < 129
      · rw [if_pos h2, Array.getElem?_append_left (by simp; omega), Array.getElem?_append_right (by simp; omega), Array.getElem?_replicate, if_pos (by simp; omega)]
        rfl
      · rw [if_neg h2, Array.getElem?_append_right (by simp; omega), Array.getElem?_replicate, if_pos (by simp; omega)]
        simp [pts]
theorem own_one (w : World) (B : Nat) (e : TypeId) (u : Value) (hB : B ≤ w.heap.size) : (w.alloc (.cells #[u] e)).ownsRow B e 1 (.slice (some ⟨w.heap.size, 0, none⟩) 1 1) 1 [u] := by
  refine ⟨rfl, .inr ⟨w.heap.size, 1, #[u], rfl, hB, ?_, Nat.le_refl _, by unfold maxLen; omega, by simp, rfl⟩⟩
  show (w.heap.push _)[w.heap.size]? = _
  simp
/-- a row of another block than the one that is stored into -/
theorem own_put {w : World} {B b o : Nat} {e : TypeId} {v : Value} {n : Nat} {xs : List Value} (h : w.ownsRow B e 1 v n xs) (hb : v.ownBlock ≠ some b) (x : Value) : (w.setCell ⟨b, o, none⟩ x).ownsRow B e 1 v n xs := by
  refine h.kept (row := some b) ⟨rfl, rfl, rfl, by simp, fun k _ hk => Below.heap_setCell _ _ _ k (fun e => hk (by rw [e]))⟩ ?_
  cases hv : v.ownBlock with
  | none => exact .inl rfl
  | some g => exact .inr fun e => hb (hv.trans e)
theorem TreeAt.below {w w' : World} {tb B : Nat} {pv : Value} {T : List En} (h : TreeAt w tb B pv T) (hb : Below w.heap.size w w') : TreeAt w' tb B pv T := by
  obtain ⟨⟨c, h1, h2, h3⟩, h4, h5⟩ := h
  exact ⟨⟨c, by rw [hb.block tb (Array.getElem?_eq_some_iff.1 h1).1]; exact h1, h2, h3⟩, Rg.row_below h4 hb, h5⟩
/-- the first state -/
theorem TreeAt.start {w0 : World} {B p : Nat} (hB : B ≤ w0.heap.size) (hp : p < 64) :
    TreeAt ((((w0.alloc (.cells #[.int .i64 (p : Int)] 3)).alloc (.cells (treeC (.slice (some ⟨w0.heap.size, 0, none⟩) 1 1)) 87)).setCell ⟨w0.heap.size + 1, 1 + p, none⟩ (.int .i64 (-1))).setCell ⟨w0.heap.size + 1, 129 + p, none⟩ (.bool true)) (w0.heap.size + 1) B (.slice (some ⟨w0.heap.size, 0, none⟩) 1 1) [(p, -1, 0, [])] := by
  have hr := World.rowIs_alloc (w0.alloc (.cells #[.int .i64 (p : Int)] 3)) (treeC (.slice (some ⟨w0.heap.size, 0, none⟩) 1 1)) 87 (TF (.slice (some ⟨w0.heap.size, 0, none⟩) 1 1) []) (fun i hi => treeC_get _ i (by simpa [treeC] using hi))
  have e1 : (treeC (.slice (some ⟨w0.heap.size, 0, none⟩) 1 1)).size = 193 := by simp [treeC]
  have e2 : (w0.alloc (.cells #[.int .i64 (p : Int)] 3)).heap.size = w0.heap.size + 1 := by simp
  rw [e1, e2] at hr
  have hne : (Value.slice (some ⟨w0.heap.size, 0, none⟩) 1 1).ownBlock ≠ some (w0.heap.size + 1) := by simp [Value.ownBlock]
  have ho := Rg.row_below (own_one w0 B 3 (.int .i64 (p : Int)) hB) ((Below.refl (w0.alloc (.cells #[.int .i64 (p : Int)] 3)).heap.size _).alloc (Nat.le_refl _) (.cells (treeC (.slice (some ⟨w0.heap.size, 0, none⟩) 1 1)) 87))
  refine ⟨((hr.set (1 + p) (.int .i64 (-1))).set (129 + p) (.bool true)).congr fun i hi => ?_, own_put (own_put ho hne _) hne _, hne⟩
  have := TF_put (pv := .slice (some ⟨w0.heap.size, 0, none⟩) 1 1) (T := []) (e := (p, -1, 0, [])) (by simp [pts]) hp hi
  rw [List.nil_append] at this
  rw [this]
  by_cases a1 : i = 129 + p
  · rw [if_pos a1, if_neg (by simp; omega), if_neg (by simp; omega), if_pos a1]
  · rw [if_neg a1]
    by_cases a2 : i = 1 + p
    · rw [if_pos a2, if_neg (by simp; omega), if_pos a2]
    · rw [if_neg a2]
      by_cases a3 : i = 65 + p
      · rw [if_pos a3]
        unfold TF
        rw [if_neg (by omega), if_neg (by omega), if_pos (by omega)]
        simp [frmI]
      · rw [if_neg a3, if_neg a2, if_neg a1]
/-- the three stores of a new point -/
theorem TreeAt.mark {w : World} {tb B : Nat} {pv : Value} {T : List En} (h : TreeAt w tb B pv T) {e : En} (he : e.1 ∉ pts T) (hlt : e.1 < 64) :
    (((w.setCell ⟨tb, 129 + e.1, none⟩ (.bool true)).setCell ⟨tb, 1 + e.1, none⟩ (.int .i64 e.2.1)).setCell ⟨tb, 65 + e.1, none⟩ (.int .i64 (e.2.2.1 : Int))).rowIs tb 87 193 (TF pv (T ++ [e])) ∧
    (((w.setCell ⟨tb, 129 + e.1, none⟩ (.bool true)).setCell ⟨tb, 1 + e.1, none⟩ (.int .i64 e.2.1)).setCell ⟨tb, 65 + e.1, none⟩ (.int .i64 (e.2.2.1 : Int))).ownsRow B 3 1 pv T.length (pvs T) ∧ pv.ownBlock ≠ some tb := by
  obtain ⟨h1, h2, h3⟩ := h
  refine ⟨(((h1.set (129 + e.1) (.bool true)).set (1 + e.1) (.int .i64 e.2.1)).set (65 + e.1) (.int .i64 (e.2.2.1 : Int))).congr fun i hi => ?_, own_put (own_put (own_put h2 h3 _) h3 _) h3 _, h3⟩
  rw [TF_put he hlt hi]
end Go.Proofs.Ytojbijkljnohoaa

/-! The breadth tree grown. -/
namespace Go.Proofs.Ytojbijkljnohoaa
open Go.RowKit
open Go.Proofs
open Go.Proofs.Ob
attribute [local irreducible] Go.Calls

theorem app_run {P : Program} {t e : TypeId} {z : Value} {bytes : Nat} (T : Rg.SlT P t e z bytes) (ty : TypeId) {B : Nat} {X : World} {v u : Value} {n : Nat} {xs : List Value} (hown : X.ownsRow B e 1 v n xs) (hX : B ≤ X.heap.size) (p c : Nat)
    (hu : X.cell? ⟨p, 0, none⟩ = some u) (h1 : u.oneCell' = true) (hn : n < 1000000) :
    ∃ v' X', (Builtin.append_ #[t, t] ty #[v, .slice (some ⟨p, 0, none⟩) 1 c]).run P X = .ok v' X' ∧ X'.ownsRow B e 1 v' (n + 1) (xs ++ [u]) ∧ X.grownBy X' v.ownBlock ∧ (v'.ownBlock = v.ownBlock ∨ v'.ownBlock = some X.heap.size) ∧ ∃ a c, v' = .slice a (n + 1) c := by
  obtain ⟨i0, hi, hz0, hz1, hz2⟩ := info_parts T.info
  obtain ⟨v', w', hr, h2, h3, h4, h5⟩ := run_append_own_at (P := P) X B t ty e i0 z 1 bytes T.ty hi hz0 hz1 hz2 T.zc (by decide) v n xs hown ⟨p, 0, none⟩ 1 c [u] rfl (fun j x hj => by
    obtain rfl : j = 0 := by have := (List.getElem?_eq_some_iff.1 hj).1; simpa using this
    simp at hj; subst hj
    rw [show (⟨p, 0, none⟩ : Addr).add 0 = ⟨p, 0, none⟩ from rfl]; exact hu) (by simpa using h1) (by unfold maxLen; omega) (by have : (n + 1) * bytes ≤ 1000000 * 64 := Nat.mul_le_mul (by omega) T.small; omega) hX
  exact ⟨v', w', hr, h2, h3, h5, Rg.row_shape h2⟩

theorem tree_app {w : World} {tb B : Nat} {pv : Value} {T : List En} {e : En} (h : w.rowIs tb 87 193 (TF pv (T ++ [e])) ∧ w.ownsRow B 3 1 pv T.length (pvs T) ∧ pv.ownBlock ≠ some tb) (hB : B ≤ w.heap.size) (hT : T.length < 1000) (ty : TypeId) :
    ∃ ad cp X, (Builtin.append_ #[33, 33] ty #[pv, .slice (some ⟨w.heap.size, 0, none⟩) 1 1]).run Try.prog (w.alloc (.cells #[.int .i64 (e.1 : Int)] 3)) = .ok (.slice ad (T.length + 1) cp) X ∧ X.cell? ⟨tb, 0, none⟩ = some pv ∧ X.frozen? ⟨tb, 0, none⟩ = false ∧
      TreeAt (X.setCell ⟨tb, 0, none⟩ (.slice ad (T.length + 1) cp)) tb B (.slice ad (T.length + 1) cp) (T ++ [e]) ∧ (∀ {B0 : Nat} {W0 : World}, B0 ≤ tb → B0 ≤ B → Below B0 W0 w → Below B0 W0 (X.setCell ⟨tb, 0, none⟩ (.slice ad (T.length + 1) cp))) := by
  obtain ⟨h1, h2, h3⟩ := h
  have hba : Below w.heap.size w (w.alloc (.cells #[.int .i64 (e.1 : Int)] 3)) := (Below.refl _ _).alloc (Nat.le_refl _) _
  have h2' := Rg.row_below h2 hba
  have hcu : (w.alloc (.cells #[.int .i64 (e.1 : Int)] 3)).cell? ⟨w.heap.size, 0, none⟩ = some (.int .i64 (e.1 : Int)) := by rw [Rg.cellNew]; rfl
  obtain ⟨v', X, r1, r2, r3, r4, ad, cp, rfl⟩ := app_run (P := Try.prog) slInts ty h2' (by simp; omega) w.heap.size 1 hcu rfl (by omega)
  obtain ⟨c, q1, q2, q3⟩ := h1
  have htb := (Array.getElem?_eq_some_iff.1 q1).1
  have hXtb : X.heap[tb]? = some (.cells c 87 (0, 0)) := by
    rw [r3.block tb (by simp; omega) (fun e => h3 e.symm), hba.block tb htb]
    exact q1
  have hXr : X.rowIs tb 87 193 (TF pv (T ++ [e])) := ⟨c, hXtb, q2, q3⟩
  have hne : (Value.slice ad (T.length + 1) cp).ownBlock ≠ some tb := by
    rcases r4 with r4 | r4
    · rw [r4]; exact h3
    · rw [r4]; simp; omega
  refine ⟨ad, cp, X, r1, ?_, hXr.frozen 0, ⟨(hXr.set 0 _).congr fun i hi => ?_, ?_, hne⟩, fun h0 hB0 hb => ?_⟩
  · rw [hXr.cell (by decide)]; rfl
  · exact (TF_pv pv _ _ i).symm
  · have e1 : pvs (T ++ [e]) = pvs T ++ [.int .i64 (e.1 : Int)] := by simp [pvs, pts]
    rw [e1, List.length_append]
    exact own_put r2 hne _
  · exact ((hb.alloc (by omega) _).grown r3 (by simp; omega) (fun j hj => by have := (h2.lt j hj).1; omega)).setCell h0 _
theorem exec_indexS {o : Oper} {a : Act} {w : World} {t e : TypeId} {z : Value} {bytes : Nat} (T : Rg.SlT Try.prog t e z bytes) (x y : Operand) (ho : o.op = .indexAddr t x y) (b of len cap i : Nat) (hx : a.eval x = .slice (some ⟨b, of, none⟩) len cap) (hy : a.eval y = .int .i64 (i : Int)) (hi : i < len) :
    (execOp a.eval o).run Try.prog w = .ok (.value (.pointer (some ⟨b, of + i, none⟩))) w := by
  have := Rg.run_indexSl T w b of len cap i hi
  unfold execOp
  simp only [ho, hx, hy, Sem.run_bind, Sem.run_pure, Result.andThen_ok, this]
theorem run_loadBool {w : World} {ad : Addr} {v : Value} (h : w.cell? ad = some v) : (loadVar 4 ad).run Try.prog w = .ok v w := by
  simp [loadVar, isAgg, run_underlying Try.underlying4, load]
  simp [Sem.run, h]
theorem szI : (Try.prog.info? 3).map (·.size) = some 1 := by kernel_rfl
theorem szB : (Try.prog.info? 4).map (·.size) = some 1 := by kernel_rfl
theorem infoIntsT : (Try.prog.info? 33).map (fun i => (i.zero, i.size, i.bytes)) = some (some (.slice none 0 0), 1, 24) := by kernel_rfl
end Go.Proofs.Ytojbijkljnohoaa

/-! orbit.grow, walked. -/
namespace Go.Proofs.Ytojbijkljnohoaa
open Go.RowKit
open Go.Proofs
open Go.Proofs.Ob
attribute [local irreducible] Go.Calls

/-- good generators -/
def GG (d : Nat) (gs : List (List Nat)) : Prop := ∀ s ∈ gs, Ma.okN s ∧ s.length = d
theorem getD_at {gs : List (List Nat)} {s : Nat} (hs : s < gs.length) : gs.getD s [] = gs[s] := by
  rw [List.getD_eq_getElem?_getD, List.getElem?_eq_getElem hs, Option.getD_some]
theorem img_get {gs : List (List Nat)} {s x : Nat} (hs : s < gs.length) (hx : x < gs[s].length) : img gs s x = gs[s][x] := by
  unfold img
  rw [getD_at hs, Ma.getD_lt hx]
theorem GG.cl {D : Nat} {gs : List (List Nat)} (h : GG D gs) : Cl D gs := fun s hs x hx => by
  obtain ⟨h1, h2⟩ := h _ (List.getElem_mem hs)
  rw [img_get hs (by omega)]
  have := h1.1 _ (List.getElem_mem (show x < gs[s].length by omega))
  omega

theorem own_mono {w : World} {B B' : Nat} {e : TypeId} {v : Value} {n : Nat} {xs : List Value} (h : w.ownsRow B e 1 v n xs) (hb : B' ≤ B) : w.ownsRow B' e 1 v n xs := by
  obtain ⟨h1, h2⟩ := h
  refine ⟨h1, ?_⟩
  rcases h2 with h2 | ⟨g, cap, cur, a, b, c⟩
  · exact .inl h2
  · exact .inr ⟨g, cap, cur, a, Nat.le_trans hb b, c⟩
theorem mix : Try.prog.follows .mixedOrders = true := by kernel_rfl
theorem exec_buildT {o : Oper} {a : Act} {w : World} {ad : Option Addr} {n c : Nat} (x : Operand) (ho : o.op = .build 87 #[(0, x)]) (hx : a.eval x = .slice ad n c) : (execOp a.eval o).run Try.prog w = .ok (.value (.agg (treeC (.slice ad n c)))) w := by
  unfold execOp
  simp only [ho, Sem.run_bind, Sem.run_pure]
  simp only [List.map_toArray, List.map_cons, List.map_nil, hx]
  rw [run_buildTree]
  rfl
theorem exec_boxT {o : Oper} {a : Act} {w : World} {ad : Option Addr} {n c : Nat} (x : Operand) (ho : o.op = .box 87 x) (hx : a.eval x = .agg (treeC (.slice ad n c))) : (execOp a.eval o).run Try.prog w = .ok (.value (.pointer (some ⟨w.heap.size, 0, none⟩))) (w.alloc (.cells (treeC (.slice ad n c)) 87)) := by
  unfold execOp
  simp only [ho, hx, Sem.run_bind, Sem.run_pure, run_boxTree, Result.andThen_ok]

set_option maxRecDepth 100000 in
set_option maxHeartbeats 4000000 in
theorem grow_any (gv : Value) (D : Nat) (gs : List (List Nat)) (p : Nat) (w : World) (h : Rg.NRows w gv gs) (hg : GG D gs) (h2 : D ≤ 64) (hp : p < D) (hgl : gs.length ≤ 16) :
    Calls Try.prog 54 #[.agg #[.int .i64 D, gv], .int .i64 p] w fun e w' => ∃ tb pv, e = .returned (.pointer (some ⟨tb, 0, none⟩)) ∧ w.heap.size ≤ tb ∧ TreeAt w' tb w.heap.size pv (tree gs D p) ∧ Below w.heap.size w w' := by
  obtain ⟨ga, gc, rfl, _, _, _, hgr⟩ := h.shape
  have HG := Lib.hid hgr
  have HGG := Lib.hid hg
  have hba : Below w.heap.size w (w.alloc (.cells #[.int .i64 D, .slice ga gs.length gc] 24)) := (Below.refl _ _).alloc (Nat.le_refl _) _
  have hsz : (w.alloc (.cells #[.int .i64 D, .slice ga gs.length gc] 24)).heap.size = w.heap.size + 1 := by simp
  have hg1 : (w.alloc (.cells #[.int .i64 D, .slice ga gs.length gc] 24)).cell? ⟨w.heap.size, 1, none⟩ = some (.slice ga gs.length gc) := by rw [Rg.cellNew]; rfl
  clear h hgr hg
  go_enter Try.func54, Try.ntmps54
  go_upto_region 1 with (fail)
  generalize w.alloc (.cells #[.int .i64 D, .slice ga gs.length gc] 24) = w0 at *
  have Hba := Lib.hid hba
  have Hg1 := Lib.hid hg1
  clear hba hg1
  refine wp_region_list ?_
  refine Rg.list_run (some 11) rfl rfl (Rg.exec_move (v := .int .i64 (p : Int)) _ rfl rfl) ?_
  go_frame
  refine Rg.list_run (some 12) rfl rfl (Rg.exec_buildSlice _ _ _ rfl _ rfl (run_build1i w0 (p : Int))) ?_
  go_frame
  refine Rg.list_run (some 13) rfl rfl (exec_buildT _ rfl rfl) ?_
  go_frame
  refine Rg.list_run (some 14) rfl rfl (exec_boxT _ rfl rfl) ?_
  go_frame
  have ez : (w0.alloc (.cells #[.int .i64 (p : Int)] 3)).heap.size = w0.heap.size + 1 := by simp
  rw [ez]
  refine Rg.list_run (some 5) rfl rfl (Rg.exec_assign (v := .pointer (some ⟨w0.heap.size + 1, 0, none⟩)) _ rfl rfl) ?_
  go_frame
  have hp64 : p < 64 := by omega
  have hT := TreeAt.start (w0 := w0) (B := w0.heap.size) (p := p) (Nat.le_refl _) hp64
  have hr := World.rowIs_alloc (w0.alloc (.cells #[.int .i64 (p : Int)] 3)) (treeC (.slice (some ⟨w0.heap.size, 0, none⟩) 1 1)) 87 (TF (.slice (some ⟨w0.heap.size, 0, none⟩) 1 1) []) (fun i hi => treeC_get _ i (by simpa [treeC] using hi))
  rw [show (treeC (.slice (some ⟨w0.heap.size, 0, none⟩) 1 1)).size = 193 by simp [treeC], ez] at hr
  have hB2 : Below w0.heap.size w0 ((w0.alloc (.cells #[.int .i64 (p : Int)] 3)).alloc (.cells (treeC (.slice (some ⟨w0.heap.size, 0, none⟩) 1 1)) 87)) := ((Below.refl _ _).alloc (Nat.le_refl _) _).alloc (by simp) _
  generalize (w0.alloc (.cells #[.int .i64 (p : Int)] 3)).alloc (.cells (treeC (.slice (some ⟨w0.heap.size, 0, none⟩) 1 1)) 87) = w2 at *
  have HT := Lib.hid hT
  have HR := Lib.hid hr
  have HB2 := Lib.hid hB2
  clear hT hr hB2
  generalize htb : w0.heap.size + 1 = tb at *
  have Htb := Lib.hid htb
  clear htb ez
  go_upto_region 2 with (fail)
  have HT1 := Lib.hid (show TreeAt ((w2.drew.setCell ⟨tb, 1 + p, none⟩ (.int .i64 (-1))).setCell ⟨tb, 129 + p, none⟩ (.bool true)) tb w0.heap.size (.slice (some ⟨w0.heap.size, 0, none⟩) 1 1) [(p, -1, 0, [])] from HT.out)
  have HR1 := Lib.hid (show w2.drew.rowIs tb 87 193 (TF (.slice (some ⟨w0.heap.size, 0, none⟩) 1 1) []) from HR.out)
  have HB1 := Lib.hid (show Below w0.heap.size w0 w2.drew from HB2.out.drew)
  refine Rg.Any.begin (S := Rg.Both 11 (fun _ => True) (fun _ => True)) mix ?_
  generalize w2.drew = V at *
  have hS : ∀ (l : Array Bool) (W : World), Rg.Both 11 (fun _ => True) (fun _ => True) l W := fun l W => ⟨.inr trivial, trivial⟩
  refine Rg.Any.takeG (i := 0) (t := 11) (v := .pointer (some ⟨tb, 0, none⟩)) (some 15) rfl rfl (by kernel_rfl) (by kernel_rfl) (by kernel_rfl) (fun _ _ _ h => h) rfl (.inl ⟨rfl, fun w _ => rfl⟩) (hS _ _) ?_
  go_frame
  refine Rg.Any.takeG (i := 1) (t := 11) (v := .int .i64 (p : Int)) (some 16) rfl rfl (by kernel_rfl) (by kernel_rfl) (by kernel_rfl) (fun _ _ _ h => h) rfl (.inl ⟨rfl, fun w _ => rfl⟩) (hS _ _) ?_
  go_frame
  refine Rg.Any.takeG (i := 2) (t := 11) (v := .pointer (some ⟨tb, 0, none⟩)) (some 17) rfl rfl (by kernel_rfl) (by kernel_rfl) (by kernel_rfl) (fun _ _ _ h => h) rfl (.inl ⟨rfl, fun w _ => rfl⟩) (hS _ _) ?_
  go_frame
  refine Rg.Any.takeG (i := 3) (t := 11) (v := .int .i64 (p : Int)) (some 18) rfl rfl (by kernel_rfl) (by kernel_rfl) (by kernel_rfl) (fun _ _ _ h => h) rfl (.inl ⟨rfl, fun w _ => rfl⟩) (hS _ _) ?_
  go_frame
  refine Rg.Any.takeG (i := 4) (t := 11) (v := .pointer (some ⟨tb, 0, none⟩)) (some 19) rfl rfl (by kernel_rfl) (by kernel_rfl) (by kernel_rfl) (fun _ _ _ h => h) rfl (.inl ⟨rfl, fun w _ => exec_nil _ rfl rfl⟩) (hS _ _) ?_
  go_frame
  refine Rg.Any.takeG (i := 5) (t := 11) (v := .pointer (some ⟨tb, 1, none⟩)) (some 20) rfl rfl (by kernel_rfl) (by kernel_rfl) (by kernel_rfl) (fun _ _ _ h => h) rfl (.inl ⟨rfl, fun w _ => exec_field _ rfl rfl (fT1 _ _)⟩) (hS _ _) ?_
  go_frame
  refine Rg.Any.takeG (i := 6) (t := 11) (v := .pointer (some ⟨tb, 1 + p, none⟩)) (some 21) rfl rfl (by kernel_rfl) (by kernel_rfl) (by kernel_rfl) (fun _ _ _ h => h) rfl (.inl ⟨rfl, fun w _ => exec_indexArr _ _ rfl Try.underlying84 szI tb 1 p rfl rfl hp64⟩) (hS _ _) ?_
  go_frame
  refine Rg.Any.takeG (i := 8) (t := 11) (v := .pointer (some ⟨tb, 0, none⟩)) (some 22) rfl rfl (by kernel_rfl) (by kernel_rfl) (by kernel_rfl) (fun _ _ _ h => h) rfl (.inl ⟨rfl, fun w _ => exec_nil _ rfl rfl⟩) (hS _ _) ?_
  go_frame
  refine Rg.Any.takeG (i := 9) (t := 11) (v := .pointer (some ⟨tb, 129, none⟩)) (some 23) rfl rfl (by kernel_rfl) (by kernel_rfl) (by kernel_rfl) (fun _ _ _ h => h) rfl (.inl ⟨rfl, fun w _ => exec_field _ rfl rfl (fT3 _ _)⟩) (hS _ _) ?_
  go_frame
  refine Rg.Any.one (i := 7) (by kernel_rfl) (Rg.Any.runSkip none rfl rfl rfl (Rg.exec_store _ _ _ rfl _ rfl _ rfl (run_storeInt (-1) (HR1.out.cell (by omega)) (HR1.out.frozen _))) (hS _ _) ?_)
  go_frame
  have HR2 := Lib.hid (HR1.out.set (1 + p) (.int .i64 (-1)))
  refine Rg.Any.one (i := 10) (by kernel_rfl) (Rg.Any.run (v := .pointer (some ⟨tb, 129 + p, none⟩)) (some 24) rfl rfl rfl (exec_indexArr _ _ rfl Try.underlying85 szB tb 129 p rfl rfl hp64) (hS _ _) ?_)
  go_frame
  refine Rg.Any.one (i := 11) (by kernel_rfl) (Rg.Any.runSkip none rfl rfl rfl (Rg.exec_store _ _ _ rfl _ rfl _ rfl (run_storeBool true (HR2.out.cell (by omega)) (HR2.out.frozen _))) (hS _ _) ?_)
  go_frame
  refine Rg.Any.done (by kernel_rfl) ?_ _
  have hlow : w0.heap.size ≤ tb := by have := Htb.out; omega
  have HB3 := Lib.hid ((HB1.out.setCell (p := ⟨tb, 1 + p, none⟩) hlow (.int .i64 (-1))).setCell (p := ⟨tb, 129 + p, none⟩) hlow (.bool true))
  clear HR1 HR2 HB1 HT HR HB2 hS
  generalize (V.setCell ⟨tb, 1 + p, none⟩ (.int .i64 (-1))).setCell ⟨tb, 129 + p, none⟩ (.bool true) = W3 at *
  clear V
  have Hlow := Lib.hid hlow
  clear hlow
  have G1 := Lib.hid ((HB3.out.cell (p := ⟨w.heap.size, 1, none⟩) (show w.heap.size < _ by omega)).trans Hg1.out)
  clear Hg1
  have hgl' : (gs.length : Int) ≤ 16 := by omega
  go_wp2
  go_loopw [6] (fun i wr => ∃ k : Nat, k ≤ (trI gs p k).length ∧ i = .int .i64 k ∧ Hid (∃ pv, TreeAt wr tb w0.heap.size pv (trI gs p k)) ∧ Hid (Below w0.heap.size W3 wr)) (fun i _ => D - (intOf i).toNat)
  case atStart => exact ⟨0, by omega, rfl, Lib.hid ⟨_, HT1.out⟩, Lib.hid (Below.refl _ _)⟩
  case round =>
    clear HT1
    obtain ⟨k, hkl, rfl, hs, hbel⟩ := hrel
    obtain ⟨pv, ht⟩ := hs.out
    have hok := trI_ok (p := p) HGG.out.cl hp k
    have hTD := hok.len
    obtain ⟨pa, pc, hpe, _, _, _, hpr⟩ := (Rg.Vals.of_row ht.2.1 (by omega)).shape
    have hlp : (pvs (trI gs p k)).length = (trI gs p k).length := by simp [pvs, pts]
    rw [hlp] at hpe
    subst hpe
    have c0 : wr.cell? ⟨tb, 0, none⟩ = some (.slice pa (trI gs p k).length pc) := (ht.1.cell (by decide)).trans rfl
    have g1 := (hbel.out.cell (p := ⟨w.heap.size, 1, none⟩) (show w.heap.size < _ by omega)).trans G1.out
    by_cases hlt : k < (trI gs p k).length
    · obtain ⟨e, he⟩ : ∃ e, Hid (e = (trI gs p k)[k]) := ⟨_, Lib.hid rfl⟩
      obtain ⟨pb, po, rfl, hpb, hpcell⟩ := hpr (by omega)
      have cq := hpcell k (by omega)
      rw [show (pvs (trI gs p k))[k]'(by omega) = Value.int .i64 ((e.1 : Nat) : Int) by rw [he.out]; simp [pvs, pts]] at cq
      have hkT : (k : Int) < ((trI gs p k).length : Int) := by omega
      have heD : e.1 < D := hok.lt _ (List.mem_map.2 ⟨_, by rw [he.out]; exact List.getElem_mem hlt, rfl⟩)
      have hst := Lib.hid (trI_some hlt)
      have HT := Lib.hid ht
      have HOK := Lib.hid hok
      clear hok ht hpcell hlp hpr hs
      go_wp2
      go_loopw [44] (fun i wr => ∃ s : Nat, s ≤ gs.length ∧ i = .int .i64 s ∧ Hid (∃ pv, TreeAt wr tb w0.heap.size pv (innG gs e (trI gs p k) s)) ∧ Hid (Below w0.heap.size W3 wr)) (fun i _ => gs.length - (intOf i).toNat)
      case atStart => exact ⟨0, by omega, rfl, Lib.hid ⟨_, HT.out⟩, hbel⟩
      case round =>
        clear HT hbel
        obtain ⟨s, hsn, rfl, hs, hbel⟩ := hrel
        by_cases hls : s < gs.length
        · obtain ⟨pv, ht⟩ := hs.out
          have hkT0 : k < (trI gs p k).length := hlt
          have hokI : Ok D gs.length p (innG gs e (trI gs p k) s) := by
            rw [he.out]
            exact HOK.out.inn hkT0 (fun s hs => HGG.out.cl s hs _ (HOK.out.lt _ (List.mem_map.2 ⟨_, List.getElem_mem hkT0, rfl⟩))) s (by omega)
          have hTD2 := hokI.len
          obtain ⟨pa2, pc2, hpe2, _⟩ := (Rg.Vals.of_row ht.2.1 (by omega)).shape
          have hlp2 : (pvs (innG gs e (trI gs p k) s)).length = (innG gs e (trI gs p k) s).length := by simp [pvs, pts]
          rw [hlp2] at hpe2
          subst hpe2
          obtain ⟨bg, og, rfl, hbg, hgcell⟩ := HG.out (by omega)
          obtain ⟨u, hu, hun⟩ := hgcell s hls
          obtain ⟨ua, uc, rfl, _, _, _, hucell⟩ := hun.shape
          have hgs := HGG.out _ (List.getElem_mem hls)
          obtain ⟨bu, ou, rfl, hbu, huc⟩ := hucell (by omega)
          have hq := huc e.1 (by omega)
          obtain ⟨x, hxi⟩ : ∃ x, img gs s e.1 = x := ⟨_, rfl⟩
          rw [show gs[s][e.1]'(by omega) = x from (img_get hls (by omega)).symm.trans hxi] at hq
          have hxD : x < D := by rw [← hxi]; exact HGG.out.cl s hls _ heD
          have hW : Below w.heap.size w wr := Rg.acc Hba.out (HB3.out.trans hbel.out)
          have d1 := (hW.cell (p := ⟨bg, og + s, none⟩) hbg).trans hu
          have d2 := (hW.cell (p := ⟨bu, ou + e.1, none⟩) hbu).trans hq
          have hlu : gs[s].length = D := hgs.2
          rw [hlu] at d1
          have i1 : ((e.1 : Nat) : Int) < (D : Int) := by omega
          have i2 : (s : Int) < (gs.length : Int) := by omega
          have i3 : (x : Int) < 64 := by omega
          have hxm : (TF (.slice pa2 (innG gs e (trI gs p k) s).length pc2) (innG gs e (trI gs p k) s) (129 + x)) = .bool (decide (x ∈ pts (innG gs e (trI gs p k) s))) := by
            unfold TF
            rw [if_neg (by omega), if_neg (by omega), if_neg (by omega), show 129 + x - 129 = x by omega]
          have d3 := (ht.1.cell (i := 129 + x) (by omega)).trans (congrArg some hxm)
          have d0 : wr.cell? ⟨tb, 0, none⟩ = some (.slice pa2 (innG gs e (trI gs p k) s).length pc2) := (ht.1.cell (by decide)).trans rfl
          have HT := Lib.hid ht
          have HXI := Lib.hid hxi
          have HOI := Lib.hid hokI
          have HUL := Lib.hid hlu
          clear hs ht hokI hgcell hu hun hucell hgs huc hq hxi hW hlp2 hxm hlu
          by_cases hmem : x ∈ pts (innG gs e (trI gs p k) s)
          · have hb : decide (x ∈ pts (innG gs e (trI gs p k) s)) = true := decide_eq_true hmem
            rw [hb] at d3
            have HM := Lib.hid hmem
            clear hb hmem
            go_wp2
            go_roundw
            case rel => exact ⟨s + 1, by omega, by go_num, Lib.hid ⟨_, by rw [innG_succ, putG_in (by rw [HXI.out]; exact HM.out)]; exact HT.out⟩, hbel⟩
            case measure => simp [intOf]; omega
          · have hb : decide (x ∈ pts (innG gs e (trI gs p k) s)) = false := decide_eq_false hmem
            rw [hb] at d3
            have HM := Lib.hid hmem
            clear hb hmem
            have hx64 : x < 64 := by omega
            go_upto_region 12 with (fail)
            have HT1 := Lib.hid (show TreeAt wr.drew tb w0.heap.size (.slice pa2 (innG gs e (trI gs p k) s).length pc2) (innG gs e (trI gs p k) s) from HT.out)
            have HB1 := Lib.hid (show Below w0.heap.size W3 wr.drew from hbel.out.drew)
            refine Rg.Any.begin (S := Rg.Both 20 (fun _ => True) (fun _ => True)) mix ?_
            generalize wr.drew = V at *
            have hS : ∀ (l : Array Bool) (W : World), Rg.Both 20 (fun _ => True) (fun _ => True) l W := fun l W => ⟨.inr trivial, trivial⟩
            refine Rg.Any.takeG (i := 0) (t := 20) (v := .pointer (some ⟨tb, 0, none⟩)) (some 60) rfl rfl (by kernel_rfl) (by kernel_rfl) (by kernel_rfl) (fun _ _ _ h => h) rfl (.inl ⟨rfl, fun w _ => rfl⟩) (hS _ _) ?_
            go_frame
            refine Rg.Any.takeG (i := 1) (t := 20) (v := .int .i64 (x : Int)) (some 61) rfl rfl (by kernel_rfl) (by kernel_rfl) (by kernel_rfl) (fun _ _ _ h => h) rfl (.inl ⟨rfl, fun w _ => rfl⟩) (hS _ _) ?_
            go_frame
            refine Rg.Any.takeG (i := 2) (t := 20) (v := .pointer (some ⟨tb, 0, none⟩)) (some 62) rfl rfl (by kernel_rfl) (by kernel_rfl) (by kernel_rfl) (fun _ _ _ h => h) rfl (.inl ⟨rfl, fun w _ => rfl⟩) (hS _ _) ?_
            go_frame
            refine Rg.Any.takeG (i := 3) (t := 20) (v := .int .i64 (x : Int)) (some 63) rfl rfl (by kernel_rfl) (by kernel_rfl) (by kernel_rfl) (fun _ _ _ h => h) rfl (.inl ⟨rfl, fun w _ => rfl⟩) (hS _ _) ?_
            go_frame
            refine Rg.Any.takeG (i := 4) (t := 20) (v := .pointer (some ⟨tb, 0, none⟩)) (some 64) rfl rfl (by kernel_rfl) (by kernel_rfl) (by kernel_rfl) (fun _ _ _ h => h) rfl (.inl ⟨rfl, fun w _ => rfl⟩) (hS _ _) ?_
            go_frame
            refine Rg.Any.takeG (i := 5) (t := 20) (v := .int .i64 (x : Int)) (some 65) rfl rfl (by kernel_rfl) (by kernel_rfl) (by kernel_rfl) (fun _ _ _ h => h) rfl (.inl ⟨rfl, fun w _ => rfl⟩) (hS _ _) ?_
            go_frame
            refine Rg.Any.takeG (i := 6) (t := 20) (v := .int .i64 ((e.1 : Nat) : Int)) (some 66) rfl rfl (by kernel_rfl) (by kernel_rfl) (by kernel_rfl) (fun _ _ _ h => h) rfl (.inl ⟨rfl, fun w _ => rfl⟩) (hS _ _) ?_
            go_frame
            refine Rg.Any.takeG (i := 7) (t := 20) (v := .int .i64 (s : Int)) (some 67) rfl rfl (by kernel_rfl) (by kernel_rfl) (by kernel_rfl) (fun _ _ _ h => h) rfl (.inl ⟨rfl, fun w _ => rfl⟩) (hS _ _) ?_
            go_frame
            refine Rg.Any.takeG (i := 8) (t := 20) (v := .int .i64 ((s + 1 : Nat) : Int)) (some 68) rfl rfl (by kernel_rfl) (by kernel_rfl) (by kernel_rfl) (fun _ _ _ h => h) rfl (.inl ⟨rfl, fun w _ => exec_bin .add _ _ _ rfl rfl rfl (b_add _ (by omega) (by omega))⟩) (hS _ _) ?_
            go_frame
            refine Rg.Any.takeG (i := 9) (t := 20) (v := .pointer (some ⟨tb, 0, none⟩)) (some 69) rfl rfl (by kernel_rfl) (by kernel_rfl) (by kernel_rfl) (fun _ _ _ h => h) rfl (.inl ⟨rfl, fun w _ => exec_nil _ rfl rfl⟩) (hS _ _) ?_
            go_frame
            refine Rg.Any.takeG (i := 10) (t := 20) (v := .pointer (some ⟨tb, 129, none⟩)) (some 70) rfl rfl (by kernel_rfl) (by kernel_rfl) (by kernel_rfl) (fun _ _ _ h => h) rfl (.inl ⟨rfl, fun w _ => exec_field _ rfl rfl (fT3 _ _)⟩) (hS _ _) ?_
            go_frame
            refine Rg.Any.takeG (i := 11) (t := 20) (v := .pointer (some ⟨tb, 129 + x, none⟩)) (some 71) rfl rfl (by kernel_rfl) (by kernel_rfl) (by kernel_rfl) (fun _ _ _ h => h) rfl (.inl ⟨rfl, fun w _ => exec_indexArr _ _ rfl Try.underlying85 szB tb 129 x rfl rfl hx64⟩) (hS _ _) ?_
            go_frame
            refine Rg.Any.takeG (i := 13) (t := 20) (v := .pointer (some ⟨tb, 0, none⟩)) (some 72) rfl rfl (by kernel_rfl) (by kernel_rfl) (by kernel_rfl) (fun _ _ _ h => h) rfl (.inl ⟨rfl, fun w _ => exec_nil _ rfl rfl⟩) (hS _ _) ?_
            go_frame
            refine Rg.Any.takeG (i := 14) (t := 20) (v := .pointer (some ⟨tb, 1, none⟩)) (some 73) rfl rfl (by kernel_rfl) (by kernel_rfl) (by kernel_rfl) (fun _ _ _ h => h) rfl (.inl ⟨rfl, fun w _ => exec_field _ rfl rfl (fT1 _ _)⟩) (hS _ _) ?_
            go_frame
            refine Rg.Any.takeG (i := 17) (t := 20) (v := .pointer (some ⟨tb, 0, none⟩)) (some 75) rfl rfl (by kernel_rfl) (by kernel_rfl) (by kernel_rfl) (fun _ _ _ h => h) rfl (.inl ⟨rfl, fun w _ => exec_nil _ rfl rfl⟩) (hS _ _) ?_
            go_frame
            refine Rg.Any.takeG (i := 18) (t := 20) (v := .pointer (some ⟨tb, 65, none⟩)) (some 76) rfl rfl (by kernel_rfl) (by kernel_rfl) (by kernel_rfl) (fun _ _ _ h => h) rfl (.inl ⟨rfl, fun w _ => exec_field _ rfl rfl (fT2 _ _)⟩) (hS _ _) ?_
            go_frame
            refine Rg.Any.one (i := 12) (by kernel_rfl) (Rg.Any.runSkip none rfl rfl rfl (Rg.exec_store _ _ _ rfl _ rfl _ rfl (run_storeBool true (HT1.out.1.cell (by omega)) (HT1.out.1.frozen _))) (hS _ _) ?_)
            go_frame
            have HR2 := Lib.hid (HT1.out.1.set (129 + x) (.bool true))
            refine Rg.Any.one (i := 15) (by kernel_rfl) (Rg.Any.run (v := .pointer (some ⟨tb, 1 + x, none⟩)) (some 74) rfl rfl rfl (exec_indexArr _ _ rfl Try.underlying84 szI tb 1 x rfl rfl hx64) (hS _ _) ?_)
            go_frame
            refine Rg.Any.one (i := 16) (by kernel_rfl) (Rg.Any.runSkip none rfl rfl rfl (Rg.exec_store _ _ _ rfl _ rfl _ rfl (run_storeInt ((e.1 : Nat) : Int) (HR2.out.cell (by omega)) (HR2.out.frozen _))) (hS _ _) ?_)
            go_frame
            have HR3 := Lib.hid (HR2.out.set (1 + x) (.int .i64 ((e.1 : Nat) : Int)))
            refine Rg.Any.one (i := 19) (by kernel_rfl) (Rg.Any.run (v := .pointer (some ⟨tb, 65 + x, none⟩)) (some 77) rfl rfl rfl (exec_indexArr _ _ rfl Try.underlying84 szI tb 65 x rfl rfl hx64) (hS _ _) ?_)
            go_frame
            refine Rg.Any.one (i := 20) (by kernel_rfl) (Rg.Any.runSkip none rfl rfl rfl (Rg.exec_store _ _ _ rfl _ rfl _ rfl (run_storeInt ((s + 1 : Nat) : Int) (HR3.out.cell (by omega)) (HR3.out.frozen _))) (hS _ _) ?_)
            go_frame
            refine Rg.Any.done (by kernel_rfl) ?_ _
            have HM5 := Lib.hid (TreeAt.mark HT1.out (e := ((x, (e.1 : Int), s + 1, e.2.2.2 ++ [s + 1]) : En)) HM.out hx64)
            have HB5 := Lib.hid (((HB1.out.setCell (p := ⟨tb, 129 + x, none⟩) Hlow.out (.bool true)).setCell (p := ⟨tb, 1 + x, none⟩) Hlow.out (.int .i64 ((e.1 : Nat) : Int))).setCell (p := ⟨tb, 65 + x, none⟩) Hlow.out (.int .i64 ((s + 1 : Nat) : Int)))
            clear HT1 HB1 HR2 HR3 hS
            have e5 : ((V.setCell ⟨tb, 129 + x, none⟩ (.bool true)).setCell ⟨tb, 1 + x, none⟩ (.int .i64 ((e.1 : Nat) : Int))).setCell ⟨tb, 65 + x, none⟩ (.int .i64 ((s + 1 : Nat) : Int)) = ((V.setCell ⟨tb, 129 + x, none⟩ (.bool true)).setCell ⟨tb, 1 + x, none⟩ (.int .i64 ((e.1 : Nat) : Int))).setCell ⟨tb, 65 + x, none⟩ (.int .i64 ((s + 1 : Nat) : Int)) := rfl
            simp only at HM5
            generalize ((V.setCell ⟨tb, 129 + x, none⟩ (.bool true)).setCell ⟨tb, 1 + x, none⟩ (.int .i64 ((e.1 : Nat) : Int))).setCell ⟨tb, 65 + x, none⟩ (.int .i64 ((s + 1 : Nat) : Int)) = W5 at *
            clear e5 V d0 d1 d2 d3
            go_upto_region 13 with (fail)
            refine wp_region_list ?_
            refine Rg.list_run (some 78) rfl rfl (Rg.exec_move (v := .pointer (some ⟨tb, 0, none⟩)) _ rfl rfl) ?_
            go_frame
            refine Rg.list_run (some 79) rfl rfl (Rg.exec_move (v := .pointer (some ⟨tb, 0, none⟩)) _ rfl rfl) ?_
            go_frame
            refine Rg.list_run (some 80) rfl rfl (exec_nil _ rfl rfl) ?_
            go_frame
            refine Rg.list_run (some 81) rfl rfl (exec_field _ rfl rfl (fT0 _ _)) ?_
            go_frame
            refine Rg.list_run (some 82) rfl rfl (Rg.exec_load (v := .slice pa2 (innG gs e (trI gs p k) s).length pc2) _ _ rfl ⟨tb, 0, none⟩ rfl (Rg.run_loadSl _ _ Try.underlying33 ((HM5.out.1.cell (by decide)).trans rfl))) ?_
            go_frame
            refine Rg.list_run (some 83) rfl rfl (Rg.exec_move (v := .int .i64 (x : Int)) _ rfl rfl) ?_
            go_frame
            refine Rg.list_run (some 84) rfl rfl (Rg.exec_buildSlice _ _ _ rfl _ rfl (run_build1i W5 (x : Int))) ?_
            go_frame
            have hsw : w0.heap.size ≤ W5.heap.size := Nat.le_trans HB3.out.size HB5.out.size
            obtain ⟨ad, cp, X, r1, r2, r3, r4, r5⟩ := tree_app HM5.out hsw (by omega) 33
            refine Rg.list_run (some 85) rfl rfl (Rg.exec_append _ _ _ rfl rfl rfl r1) ?_
            go_frame
            refine Rg.list_run (some 86) rfl rfl (exec_nil _ rfl rfl) ?_
            go_frame
            refine Rg.list_run (some 87) rfl rfl (exec_field _ rfl rfl (fT0 _ _)) ?_
            go_frame
            refine Rg.list_skip none rfl rfl (Rg.exec_store _ _ _ rfl _ rfl _ rfl (Rg.run_storeSl _ infoIntsT r2 r3)) ?_
            go_frame
            have HR4 := Lib.hid r4
            have HB6 := Lib.hid (r5 Hlow.out (Nat.le_refl _) HB5.out)
            clear r1 r2 r3 r4 r5 hsw HM5 HB5
            generalize X.setCell ⟨tb, 0, none⟩ (.slice ad ((innG gs e (trI gs p k) s).length + 1) cp) = W6 at *
            go_wp2
            go_roundw
            case rel => exact ⟨s + 1, by omega, by go_num, Lib.hid ⟨_, by rw [innG_succ, putG_out (by rw [HXI.out]; exact HM.out), HXI.out]; exact HR4.out⟩, HB6⟩
            case measure => simp [intOf]; omega
        · obtain rfl : s = gs.length := by omega
          go_wp2
          go_roundw
          case rel => exact ⟨k + 1, by have := trI_pre gs p k; obtain ⟨r, hr⟩ := this; rw [hr, List.length_append]; omega, by go_num, Lib.hid (by rw [hst.out, ← he.out]; exact hs.out), hbel⟩
          case measure => simp [intOf]; omega
    · have hkk : (trI gs p k).length ≤ k := by omega
      have hT := tree_at (D := D) hkk (by omega)
      have HT := Lib.hid ht
      clear ht hpr
      go_wp2
      go_ret
      exact ⟨tb, _, rfl, by have := Hlow.out; omega, by rw [hT]; exact ⟨HT.out.1, own_mono HT.out.2.1 (by omega), HT.out.2.2⟩, Rg.acc Hba.out (HB3.out.trans hbel.out)⟩
end Go.Proofs.Ytojbijkljnohoaa

/-! slices.Reverse at words; the word of a point. -/
namespace Go.Proofs.Ytojbijkljnohoaa
open Go.RowKit
open Go.Proofs
open Go.Proofs.Ob
attribute [local irreducible] Go.Calls

theorem slWord : Rg.SlT Try.prog 38 3 (.int .i64 0) 8 := ⟨Try.underlying38, infoInt, rfl, by decide⟩
theorem yields_indexW {ops : Array Oper} {S : World → Prop} {o : Oper} {a : Act} (x y : Operand) (hg : Region.wanted o (yielded ops a.tmps) = true) (ho : o.op = .indexAddr 38 x y) (b len cap i : Nat) (hx : a.eval x = .slice (some ⟨b, 0, none⟩) len cap) (hy : a.eval y = .int .i64 (i : Int)) (hi : i < len) :
    YieldsIf Try.prog ops S o (.pointer (some ⟨b, i, none⟩)) a := by
  have := Rg.yields_index (S := S) slWord x y hg ho b 0 len cap i hx hy hi
  rwa [Nat.zero_add] at this
theorem exec_indexW {o : Oper} {a : Act} {w : World} (x y : Operand) (ho : o.op = .indexAddr 38 x y) (b len cap i : Nat) (hx : a.eval x = .slice (some ⟨b, 0, none⟩) len cap) (hy : a.eval y = .int .i64 (i : Int)) (hi : i < len) :
    (execOp a.eval o).run Try.prog w = .ok (.value (.pointer (some ⟨b, i, none⟩))) w := by
  have := Rg.run_indexSl slWord w b 0 len cap i hi
  rw [Nat.zero_add] at this
  unfold execOp
  simp only [ho, hx, hy, Sem.run_bind, Sem.run_pure, Result.andThen_ok, this]

set_option maxHeartbeats 1000000 in
theorem ReverseW_row (b n m cap : Nat) (g : Nat → Int) (F : Nat → Value) (hF : ∀ j, j < m → F j = .int .i64 (g j)) (w w0 : World) (hm : m ≤ n) (hn : m ≤ 64) (hr : w.rowIs b 3 n F) (hb : Below w0.heap.size w0 w) (hB : w0.heap.size ≤ b) :
    Calls Try.prog 109 #[.slice (some ⟨b, 0, none⟩) m cap] w fun e w' => (∃ v, e = .returned v) ∧ w'.rowIs b 3 n (fun j => if j < m then .int .i64 (g (m - 1 - j)) else F j) ∧ Below w0.heap.size w0 w' := by
  have Hr := Lib.hid hr
  have HF := Lib.hid hF
  clear hr hF
  go_enter Try.func109, Try.ntmps109
  go_wp2
  go_loopw [2, 3] (fun u v wr => ∃ (k : Nat) (j : Int), u = .int .i64 k ∧ v = .int .i64 j ∧ j + k + 1 = m ∧ k ≤ m ∧ Hid (wr.rowIs b 3 n (fun x => if x < m ∧ (x < k ∨ m ≤ x + k) then .int .i64 (g (m - 1 - x)) else F x)) ∧ Below w0.heap.size w0 wr) (fun u _ _ => m - (intOf u).toNat)
  case atStart => exact ⟨0, _, rfl, rfl, by omega, by omega, Hr.out.congr (fun i hi => by rw [if_neg (by omega)]), hb⟩
  case round =>
    clear Hr hb
    obtain ⟨k, j, rfl, rfl, hj, hk, hs, hbel⟩ := hrel
    by_cases hlt : (k : Int) < j
    · obtain ⟨jn, rfl⟩ : ∃ jn : Nat, j = jn := ⟨j.toNat, by omega⟩
      have hjn : jn + k + 1 = m := by omega
      have hkj : k < jn := by omega
      have ck := hs.out.cell (show k < n by omega)
      have cj := hs.out.cell (show jn < n by omega)
      rw [if_neg (by omega), HF.out _ (by omega)] at ck cj
      have fk := hs.out.frozen k
      have fj := hs.out.frozen jn
      go_upto_region 3 with (fail)
      have hsd : (World.drew wr).rowIs b 3 n (fun x => if x < m ∧ (x < k ∨ m ≤ x + k) then .int .i64 (g (m - 1 - x)) else F x) := hs.out
      have hbd : Below w0.heap.size w0 (World.drew wr) := hbel.drew
      have hT : (World.drew wr).cell? ⟨b, k, none⟩ = some (.int .i64 (g k)) ∧ (World.drew wr).cell? ⟨b, jn, none⟩ = some (.int .i64 (g jn)) := ⟨ck, cj⟩
      have hfk : (World.drew wr).frozen? ⟨b, k, none⟩ = false := fk
      have hfj : (World.drew wr).frozen? ⟨b, jn, none⟩ = false := fj
      have HS := Lib.hid hsd
      clear hsd ck cj fk fj hs hbel
      refine Rg.Any.begin (S := Rg.Both 13 (fun W => W.cell? ⟨b, k, none⟩ = some (.int .i64 (g k)) ∧ W.cell? ⟨b, jn, none⟩ = some (.int .i64 (g jn))) (fun _ => True)) mix ?_
      generalize World.drew wr = W at *
      have hS : ∀ l, Rg.Both 13 (fun W => W.cell? ⟨b, k, none⟩ = some (.int .i64 (g k)) ∧ W.cell? ⟨b, jn, none⟩ = some (.int .i64 (g jn))) (fun _ => True) l W := fun l => ⟨.inr hT, trivial⟩
      refine Rg.Any.takeG (i := 0) (t := 13) (v := .slice (some ⟨b, 0, none⟩) m cap) (some 14) rfl rfl (by kernel_rfl) (by kernel_rfl) (by kernel_rfl) (fun _ _ _ h => h) rfl (.inl ⟨rfl, fun W hW => Rg.exec_move _ rfl rfl⟩) (hS _) ?_
      go_frame
      refine Rg.Any.takeG (i := 1) (t := 13) (v := .int .i64 (k : Int)) (some 15) rfl rfl (by kernel_rfl) (by kernel_rfl) (by kernel_rfl) (fun _ _ _ h => h) rfl (.inl ⟨rfl, fun W hW => Rg.exec_move _ rfl rfl⟩) (hS _) ?_
      go_frame
      refine Rg.Any.takeG (i := 2) (t := 13) (v := .slice (some ⟨b, 0, none⟩) m cap) (some 16) rfl rfl (by kernel_rfl) (by kernel_rfl) (by kernel_rfl) (fun _ _ _ h => h) rfl (.inl ⟨rfl, fun W hW => Rg.exec_move _ rfl rfl⟩) (hS _) ?_
      go_frame
      refine Rg.Any.takeG (i := 3) (t := 13) (v := .int .i64 (jn : Int)) (some 17) rfl rfl (by kernel_rfl) (by kernel_rfl) (by kernel_rfl) (fun _ _ _ h => h) rfl (.inl ⟨rfl, fun W hW => Rg.exec_move _ rfl rfl⟩) (hS _) ?_
      go_frame
      refine Rg.Any.takeG (i := 4) (t := 13) (v := .slice (some ⟨b, 0, none⟩) m cap) (some 18) rfl rfl (by kernel_rfl) (by kernel_rfl) (by kernel_rfl) (fun _ _ _ h => h) rfl (.inl ⟨rfl, fun W hW => Rg.exec_move _ rfl rfl⟩) (hS _) ?_
      go_frame
      refine Rg.Any.takeG (i := 5) (t := 13) (v := .int .i64 (jn : Int)) (some 19) rfl rfl (by kernel_rfl) (by kernel_rfl) (by kernel_rfl) (fun _ _ _ h => h) rfl (.inl ⟨rfl, fun W hW => Rg.exec_move _ rfl rfl⟩) (hS _) ?_
      go_frame
      refine Rg.Any.takeG (i := 6) (t := 13) (v := .pointer (some ⟨b, jn, none⟩)) (some 20) rfl rfl (by kernel_rfl) (by kernel_rfl) (by kernel_rfl) (fun _ _ _ h => h) rfl (yields_indexW _ _ rfl rfl b m cap jn rfl rfl (by omega)) (hS _) ?_
      go_frame
      refine Rg.Any.takeT (i := 7) (t := 13) (v := .int .i64 (g jn)) (some 21) rfl rfl (by kernel_rfl) (by kernel_rfl) (by kernel_rfl) (fun _ _ _ h => h) rfl (by kernel_rfl) rfl (Rg.yields_cell _ _ rfl rfl ⟨b, jn, none⟩ rfl (fun w h => run_loadInt h.2)) (hS _) ?_
      go_frame
      refine Rg.Any.takeG (i := 8) (t := 13) (v := .slice (some ⟨b, 0, none⟩) m cap) (some 22) rfl rfl (by kernel_rfl) (by kernel_rfl) (by kernel_rfl) (fun _ _ _ h => h) rfl (.inl ⟨rfl, fun W hW => Rg.exec_move _ rfl rfl⟩) (hS _) ?_
      go_frame
      refine Rg.Any.takeG (i := 9) (t := 13) (v := .int .i64 (k : Int)) (some 23) rfl rfl (by kernel_rfl) (by kernel_rfl) (by kernel_rfl) (fun _ _ _ h => h) rfl (.inl ⟨rfl, fun W hW => Rg.exec_move _ rfl rfl⟩) (hS _) ?_
      go_frame
      refine Rg.Any.takeG (i := 10) (t := 13) (v := .pointer (some ⟨b, k, none⟩)) (some 24) rfl rfl (by kernel_rfl) (by kernel_rfl) (by kernel_rfl) (fun _ _ _ h => h) rfl (yields_indexW _ _ rfl rfl b m cap k rfl rfl (by omega)) (hS _) ?_
      go_frame
      refine Rg.Any.takeT (i := 11) (t := 13) (v := .int .i64 (g k)) (some 25) rfl rfl (by kernel_rfl) (by kernel_rfl) (by kernel_rfl) (fun _ _ _ h => h) rfl (by kernel_rfl) rfl (Rg.yields_cell _ _ rfl rfl ⟨b, k, none⟩ rfl (fun w h => run_loadInt h.1)) (hS _) ?_
      go_frame
      refine Rg.Any.one (i := 12) (by kernel_rfl) (Rg.Any.run (some 26) rfl rfl rfl (exec_indexW _ _ rfl b m cap k rfl rfl (by omega)) (hS _) ?_)
      go_frame
      refine Rg.Any.one (i := 13) (by kernel_rfl) (Rg.Any.runSkip none rfl rfl rfl (Rg.exec_store _ _ _ rfl _ rfl _ rfl (run_storeInt (g jn) hT.1 hfk)) ⟨.inl rfl, trivial⟩ ?_)
      go_frame
      have hcj2 : (W.setCell ⟨b, k, none⟩ (.int .i64 (g jn))).cell? ⟨b, jn, none⟩ = some (.int .i64 (g jn)) := by
        rw [World.cell?_setCell_other (h := by intro e; injection e with e1 e2; omega) ..]
        exact hT.2
      have hfj2 : (W.setCell ⟨b, k, none⟩ (.int .i64 (g jn))).frozen? ⟨b, jn, none⟩ = false := by rw [World.frozen?_setCell]; exact hfj
      refine Rg.Any.one (i := 14) (by kernel_rfl) (Rg.Any.run (some 27) rfl rfl rfl (exec_indexW _ _ rfl b m cap jn rfl rfl (by omega)) ⟨.inl rfl, trivial⟩ ?_)
      go_frame
      refine Rg.Any.one (i := 15) (by kernel_rfl) (Rg.Any.runSkip none rfl rfl rfl (Rg.exec_store _ _ _ rfl _ rfl _ rfl (run_storeInt (g k) hcj2 hfj2)) ⟨.inl rfl, trivial⟩ ?_)
      go_frame
      refine Rg.Any.done (by kernel_rfl) ?_ _
      have hrow := (HS.out.set k (.int .i64 (g jn))).set jn (.int .i64 (g k))
      have hbl : Below w0.heap.size w0 ((W.setCell ⟨b, k, none⟩ (.int .i64 (g jn))).setCell ⟨b, jn, none⟩ (.int .i64 (g k))) := (hbd.setCell hB _).setCell hB _
      clear hcj2 hfj2 hS hT hfk hfj HS hbd
      generalize (W.setCell ⟨b, k, none⟩ (.int .i64 (g jn))).setCell ⟨b, jn, none⟩ (.int .i64 (g k)) = W2 at *
      have HR := Lib.hid hrow
      clear hrow
      go_wp2
      go_roundw
      case rel =>
        refine ⟨k + 1, (jn : Int) - 1, by go_num, by go_num, by omega, by omega, Lib.hid (HR.out.congr fun x hx => ?_), hbl⟩
        by_cases e1 : x = jn
        · rw [if_pos e1, if_pos (by omega), show m - 1 - x = k from by omega]
        · rw [if_neg e1]
          by_cases e2 : x = k
          · rw [if_pos e2, if_pos (by omega), show m - 1 - x = jn from by omega]
          · rw [if_neg e2]
            by_cases e3 : x < m ∧ (x < k ∨ m ≤ x + k)
            · rw [if_pos e3, if_pos (by omega)]
            · rw [if_neg e3, if_neg (by omega)]
      case measure => simp [intOf]; omega
    · go_wp2
      go_end0
      refine ⟨⟨_, rfl⟩, hs.out.congr fun x hx => ?_, hbel⟩
      by_cases e1 : x < m
      · rw [if_pos e1]
        by_cases e2 : x < m ∧ (x < k ∨ m ≤ x + k)
        · rw [if_pos e2]
        · rw [if_neg e2, show m - 1 - x = x from by omega, HF.out x e1]
      · rw [if_neg e1, if_neg (by omega)]


theorem ReverseW_nil (w : World) : Calls Try.prog 109 #[.slice none 0 0] w fun e w' => (∃ v, e = .returned v) ∧ w' = w := by
  go_enter Try.func109, Try.ntmps109
  go_wp2
  go_loopw [2, 3] (fun u v wr => u = .int .i64 0 ∧ v = .int .i64 (-1) ∧ wr = w) (fun _ _ _ => 0)
  case atStart => exact ⟨rfl, rfl, rfl⟩
  case round =>
    obtain ⟨rfl, rfl, rfl⟩ := hrel
    go_wp2
    go_end0
    exact ⟨⟨_, rfl⟩, rfl⟩
theorem own_rowIs {w : World} {B : Nat} {e : TypeId} {g n cap : Nat} {xs : List Value} (h : w.ownsRow B e 1 (.slice (some ⟨g, 0, none⟩) n cap) n xs) (hn : 0 < n) : ∃ F, w.rowIs g e cap F ∧ n ≤ cap ∧ cap ≤ maxLen ∧ B ≤ g ∧ ∀ j (hj : j < xs.length), F j = xs[j] := by
  obtain ⟨h1, h2⟩ := h
  rcases h2 with ⟨_, h0⟩ | ⟨g', cap', cur, hv, hB, hh, hnc, hcm, hcs, ht⟩
  · omega
  · injection hv with e1 e2 e3
    injection e1 with e1
    injection e1 with e1
    subst e1 e3
    refine ⟨fun j => cur[j]?.getD undef, ⟨cur, hh, by omega, fun i hi => ?_⟩, hnc, hcm, hB, fun j hj => ?_⟩
    · simp [Array.getElem?_eq_getElem (show i < cur.size by omega)]
    · have h3 : xs[j]? = cur[j]? := by
        rw [← ht, List.getElem?_take, if_pos (by omega)]; simp
      rw [List.getElem?_eq_getElem hj] at h3
      show cur[j]?.getD undef = _
      rw [← h3]; rfl
end Go.Proofs.Ytojbijkljnohoaa

/-! The word of a point of the tree. -/
namespace Go.Proofs.Ytojbijkljnohoaa
open Go.RowKit
open Go.Proofs
open Go.Proofs.Ob
attribute [local irreducible] Go.Calls

theorem parI_at {T : List En} (h : (pts T).Nodup) {i : Nat} (hi : i < T.length) : parI T T[i].1 = T[i].2.1 := by
  unfold parI; rw [find_at h hi]; rfl
theorem frmI_at {T : List En} (h : (pts T).Nodup) {i : Nat} (hi : i < T.length) : frmI T T[i].1 = (T[i].2.2.1 : Int) := by
  unfold frmI; rw [find_at h hi]; rfl
theorem TreeAt.parCell {w : World} {tb B : Nat} {pv : Value} {T : List En} (h : TreeAt w tb B pv T) {x : Nat} (hx : x < 64) : w.cell? ⟨tb, 1 + x, none⟩ = some (.int .i64 (parI T x)) := by
  rw [h.1.cell (by omega)]
  unfold TF
  rw [if_neg (by omega), if_pos (by omega), show 1 + x - 1 = x by omega]
theorem TreeAt.frmCell {w : World} {tb B : Nat} {pv : Value} {T : List En} (h : TreeAt w tb B pv T) {x : Nat} (hx : x < 64) : w.cell? ⟨tb, 65 + x, none⟩ = some (.int .i64 (frmI T x)) := by
  rw [h.1.cell (by omega)]
  unfold TF
  rw [if_neg (by omega), if_neg (by omega), if_pos (by omega), show 65 + x - 65 = x by omega]
theorem TreeAt.inCell {w : World} {tb B : Nat} {pv : Value} {T : List En} (h : TreeAt w tb B pv T) {x : Nat} (hx : x < 64) : w.cell? ⟨tb, 129 + x, none⟩ = some (.bool (decide (x ∈ pts T))) := by
  rw [h.1.cell (by omega)]
  unfold TF
  rw [if_neg (by omega), if_neg (by omega), if_neg (by omega), show 129 + x - 129 = x by omega]
theorem TreeAt.lt {w : World} {tb B : Nat} {pv : Value} {T : List En} (h : TreeAt w tb B pv T) : tb < w.heap.size := by
  obtain ⟨c, h1, _⟩ := h.1
  exact (Array.getElem?_eq_some_iff.1 h1).1

theorem own_cases {w : World} {B : Nat} {e : TypeId} {n : Nat} {v : Value} {xs : List Value} (h : w.ownsRow B e 1 v n xs) : (v = .slice none 0 0 ∧ n = 0) ∨ ∃ g cap F, v = .slice (some ⟨g, 0, none⟩) n cap ∧ w.rowIs g e cap F ∧ n ≤ cap ∧ cap ≤ maxLen ∧ B ≤ g ∧ ∀ j (hj : j < xs.length), F j = xs[j] := by
  obtain ⟨h1, h2⟩ := h
  rcases h2 with h2 | ⟨g, cap, cur, hv, hB, hh, hnc, hcm, hcs, ht⟩
  · exact .inl h2
  · refine .inr ⟨g, cap, fun j => cur[j]?.getD undef, hv, ⟨cur, hh, by omega, fun i hi => ?_⟩, hnc, hcm, hB, fun j hj => ?_⟩
    · simp [Array.getElem?_eq_getElem (show i < cur.size by omega)]
    · have h3 : xs[j]? = cur[j]? := by
        rw [← ht, List.getElem?_take, if_pos (by omega)]; simp
      rw [List.getElem?_eq_getElem hj] at h3
      show cur[j]?.getD undef = _
      rw [← h3]; rfl

set_option maxRecDepth 100000 in
set_option maxHeartbeats 2000000 in
theorem path_any (w : World) (tb B : Nat) (pv : Value) (T : List En) (D n p : Nat) (h : TreeAt w tb B pv T) (hok : Ok D n p T) (hD : D ≤ 64) (i : Nat) (hi : i < T.length) :
    Calls Try.prog 70 #[.pointer (some ⟨tb, 0, none⟩), .int .i64 (T[i].1 : Nat)] w fun e w' => ∃ v, e = .returned v ∧ Rg.NPF w w' v T[i].2.2.2 ∧ Below w.heap.size w w' := by
  have HT := Lib.hid h
  have HOK := Lib.hid hok
  have htb := h.lt
  have hTD := hok.len
  clear h hok
  obtain ⟨q0, hq0⟩ : ∃ q0, Hid (q0 = T[i].1) := ⟨_, Lib.hid rfl⟩
  rw [← hq0.out]
  obtain ⟨W, hW⟩ : ∃ W, Hid (W = T[i].2.2.2) := ⟨_, Lib.hid rfl⟩
  rw [← hW.out]
  go_enter Try.func70, Try.ntmps70
  go_wp2
  go_loopw [1, 5] (fun q v wr => ∃ (j : Nat) (e : En) (l : List Nat), Hid (T[j]? = some e) ∧ q = .int .i64 ((e.1 : Nat) : Int) ∧ Hid (W = e.2.2.2 ++ l.reverse) ∧ l.length ≤ 64 ∧ Hid (wr.ownsRow w.heap.size 3 1 v l.length (ivs l)) ∧ Hid (Below w.heap.size w wr)) (fun q _ _ => (wd T (intOf q).toNat).length)
  case atStart => exact ⟨i, T[i], [], Lib.hid (List.getElem?_eq_getElem hi), by rw [hq0.out], Lib.hid (by rw [hW.out]; simp), by simp, Lib.hid (World.ownsRow_nil _ _ _ _), Lib.hid (Below.refl _ _)⟩
  case round =>
    obtain ⟨j, e, l, hje, rfl, hWe, hl64, hs, hbel⟩ := hrel
    obtain ⟨hj, hej⟩ := List.getElem?_eq_some_iff.1 hje.out
    have hT' := HT.out.below hbel.out
    have hnd := HOK.out.nd
    have heD : e.1 < D := HOK.out.lt _ (List.mem_map.2 ⟨_, by rw [← hej]; exact List.getElem_mem hj, rfl⟩)
    have c1 := hT'.parCell (x := e.1) (by omega)
    have cw := HT.out.parCell (x := e.1) (by omega)
    have c2 := hT'.frmCell (x := e.1) (by omega)
    rw [show parI T e.1 = e.2.1 by rw [← hej]; exact parI_at hnd hj] at c1 cw
    rw [show frmI T e.1 = (e.2.2.1 : Int) by rw [← hej]; exact frmI_at hnd hj] at c2
    have i1 : ((e.1 : Nat) : Int) < 64 := by omega
    have hwd : wd T e.1 = e.2.2.2 := by rw [← hej]; exact wd_at hnd hj
    have HWD := Lib.hid hwd
    have hwl := word_len HOK.out j hj
    rw [hej] at hwl
    have hw64 : (e.2.2.2).length ≤ 64 := by omega
    by_cases h0 : j = 0
    · subst h0
      have he0 : e = (p, -1, 0, []) := by
        have := HOK.out.hd
        rw [hje.out] at this
        exact Option.some.inj this
      have c1' : wr.cell? ⟨tb, 1 + e.1, none⟩ = some (.int .i64 (-1)) := by rw [c1, he0]
      have hWr : W = l.reverse := by rw [hWe.out, he0]; rfl
      have HWr := Lib.hid hWr
      clear c1 c2 cw he0 hWr hWe hej hwd hwl hT' hje
      rcases own_cases hs.out with ⟨hu5, hl0⟩ | ⟨g, cap, F, hu5, hrow, hlc, hcm, hBg, hF⟩
      · subst hu5
        have hl : l = [] := List.eq_nil_of_length_eq_zero hl0
        go_wp2_with (go_at_call 109; refine (ReverseW_nil _).mono ?_; rintro e w1 ⟨⟨rv, rfl⟩, rfl⟩)
        go_ret
        refine ⟨_, rfl, ⟨?_, fun a n c e => by simp at e⟩, hbel.out⟩
        rw [HWr.out, hl]
        exact Rg.Ints.nil _ _ _ (Nat.zero_le _)
      · subst hu5
        have HR := Lib.hid hrow
        have HFF := Lib.hid hF
        clear hrow hF hs
        have hFi : ∀ j, j < l.length → F j = .int .i64 ((l.getD j 0 : Nat) : Int) := fun j hj => by
          rw [HFF.out j (by simpa [ivs] using hj)]
          simp [ivs, List.getD_eq_getElem?_getD, List.getElem?_eq_getElem hj]
        have HFi := Lib.hid hFi
        clear hFi
        go_wp2_with (go_at_call 109; refine (ReverseW_row g cap l.length cap (fun j => ((l.getD j 0 : Nat) : Int)) F HFi.out _ w hlc hl64 HR.out hbel.out hBg).mono ?_; rintro e w1 ⟨⟨rv, rfl⟩, hrw, hb1⟩; have HRW := Lib.hid hrw; have HB1 := Lib.hid hb1; clear hrw hb1)
        go_ret
        refine ⟨_, rfl, ⟨?_, (Rg.Fresh.mk _ _ _ _).mono hBg⟩, HB1.out⟩
        rw [HWr.out]
        obtain ⟨cc, hcc, _⟩ := HRW.out
        refine Rg.Ints.mk (by simp [Ma.ofN]) (Array.getElem?_eq_some_iff.1 hcc).1 (by simp [Ma.ofN]; exact hlc) hcm (by simp [Ma.ofN]; omega) fun x hx => ?_
        have hx' : x < l.length := by simpa [Ma.ofN] using hx
        rw [Nat.zero_add, HRW.out.cell (by omega), if_pos hx']
        have : l.length - 1 - x < l.length := by omega
        simp [Ma.ofN, List.getD_eq_getElem?_getD, List.getElem?_eq_getElem this, List.getElem_reverse]
    · obtain ⟨i', hi', g, hlt, hgn, hpar, hgen, hword⟩ := HOK.out.par j hj (by omega)
      rw [hej] at hpar hgen hword
      obtain ⟨e', he'⟩ : ∃ e', Hid (T[i']? = some e') := ⟨_, Lib.hid (List.getElem?_eq_getElem hi')⟩
      have he'' : T[i'] = e' := by have := he'.out; rw [List.getElem?_eq_getElem hi'] at this; exact Option.some.inj this
      rw [he''] at hpar hword
      rw [hpar] at c1 cw
      have CW := Lib.hid cw
      clear cw
      rw [hgen] at c2
      have hwd' : wd T e'.1 = e'.2.2.2 := by rw [← he'']; exact wd_at hnd hi'
      have HWD' := Lib.hid hwd'
      have HWO := Lib.hid hword
      have hll : l.length < 64 := by
        have h1 := word_len HOK.out i hi
        rw [← hW.out, hWe.out, hword] at h1
        simp at h1
        omega
      have e0 : (0 : Int) ≤ ((e'.1 : Nat) : Int) := by omega
      clear hpar hgen hword he'' hwd' hej hwd hwl hT' hnd hje
      go_wp2_with (at_builtin; refine Rg.app1 rfl _ _ 38 rfl slWord hs.out hbel.out (.int .i64 ((g + 1 : Nat) : Int)) (by simp [Value.oneCell']) rfl rfl (by omega) ?_; intro v' w1 hs1 hb1 _ _ _; have Hs1 := Lib.hid hs1; have Hb1 := Lib.hid hb1; have c3 := (hb1.cell (p := ⟨tb, 1 + e.1, none⟩) htb).trans CW.out; clear hs1 hb1)
      go_roundw
      case rel =>
        refine ⟨i', e', l ++ [g + 1], he', rfl, Lib.hid ?_, by simp; omega, Lib.hid ?_, Hb1⟩
        · rw [hWe.out, HWO.out]; simp
        · have := Hs1.out
          rw [show ivs (l ++ [g + 1]) = ivs l ++ [.int .i64 ((g + 1 : Nat) : Int)] from ivs_snoc _ _, List.length_append]
          exact this
      case measure =>
        simp [intOf, HWD.out, HWD'.out, HWO.out]
end Go.Proofs.Ytojbijkljnohoaa

/-! orbit.Path. -/
namespace Go.Proofs.Ytojbijkljnohoaa
open Go.RowKit
open Go.Proofs
open Go.Proofs.Ob
attribute [local irreducible] Go.Calls

def toNs (ll : List (List Int)) : List (List Nat) := ll.map fun l => l.map Int.toNat
theorem toNs_ofN (gs : List (List Nat)) : toNs (gs.map Ma.ofN) = gs := by
  unfold toNs
  rw [List.map_map]
  conv => rhs; rw [← List.map_id gs]
  refine List.map_congr_left fun l _ => ?_
  show (Ma.ofN l).map Int.toNat = l
  unfold Ma.ofN
  rw [List.map_map]
  conv => rhs; rw [← List.map_id l]
  exact List.map_congr_left fun x _ => by simp
/-- a good group -/
theorem gchk_ok {d : Int} {ll : List (List Int)} (h : Ma.gchk d ll = 0) : ∃ (D : Nat) (gs : List (List Nat)), d = D ∧ ll = gs.map Ma.ofN ∧ GG D gs ∧ 1 ≤ D ∧ D ≤ 64 ∧ gs.length ≤ 16 := by
  unfold Ma.gchk at h
  split at h
  · rename_i h1
    split at h
    · rename_i h2
      have hz := Ma.gck_zero h
      obtain ⟨D, rfl⟩ : ∃ D : Nat, d = D := ⟨d.toNat, by omega⟩
      have hex : ∀ l ∈ ll, ∃ p, l = Ma.ofN p ∧ Ma.okN p ∧ p.length = D := fun l hl => by
        obtain ⟨a, b⟩ := hz l hl
        obtain ⟨_, _, c⟩ := Ma.pchk_zero a
        obtain ⟨p, rfl, hp⟩ := Ma.okL_ofN c
        rw [Ma.len_ofN] at b
        exact ⟨p, rfl, hp, by omega⟩
      clear h hz
      have : ∃ gs : List (List Nat), ll = gs.map Ma.ofN ∧ GG D gs := by
        clear h2
        induction ll with
        | nil => exact ⟨[], rfl, fun s hs => by simp at hs⟩
        | cons l r ih =>
          obtain ⟨gs, rfl, hg⟩ := ih (fun x hx => hex x (List.mem_cons_of_mem _ hx))
          obtain ⟨p, rfl, h3, h4⟩ := hex l (List.mem_cons_self ..)
          exact ⟨p :: gs, rfl, fun s hs => by
            rcases List.mem_cons.1 hs with rfl | hs
            · exact ⟨h3, h4⟩
            · exact hg s hs⟩
      obtain ⟨gs, rfl, hg⟩ := this
      exact ⟨D, gs, rfl, rfl, hg, by omega, by omega, by simpa using h2⟩
    · simp at h
  · simp at h
def treeL (d : Int) (ll : List (List Int)) (p : Int) : List En := tree (toNs ll) d.toNat p.toNat
/-- what Path returns -/
def pathS (d : Int) (ll : List (List Int)) (p q : Int) : List Int × Int :=
  if Ma.gchk d ll = 0 then (if isPt d p = true ∧ isPt d q = true then (if q.toNat ∈ pts (treeL d ll p) then (Ma.ofN (wd (treeL d ll p) q.toNat), 0) else ([], 18)) else ([], 2)) else ([], Ma.gchk d ll)
def LPost (r : List Int × Int) (w : World) (e : Ending) (w' : World) : Prop := ∃ v, e = .returned (.tuple #[v, .int .i64 r.2]) ∧ Rg.Ints w' v r.1 ∧ Below w.heap.size w w'
theorem isPt_nat {d p : Int} (h : isPt d p = true) : 0 ≤ p ∧ p < d := of_decide_eq_true h

set_option maxRecDepth 100000 in
set_option maxHeartbeats 4000000 in
theorem Path_any (gv : Value) (d : Int) (ll : List (List Int)) (p q : Int) (w : World) (h : Rg.Rows w gv ll) :
    Calls Try.prog 20 #[.agg #[.int .i64 d, gv], .int .i64 p, .int .i64 q] w (LPost (pathS d ll p q) w) := by
  have hv := h
  obtain ⟨ga, gc, rfl, _⟩ := h.shape
  have hba : Below w.heap.size w (w.alloc (.cells #[.int .i64 d, .slice ga ll.length gc] 24)) := (Below.refl _ _).alloc (Nat.le_refl _) _
  have hc0 : (w.alloc (.cells #[.int .i64 d, .slice ga ll.length gc] 24)).cell? ⟨w.heap.size, 0, none⟩ = some (.int .i64 d) := by rw [Rg.cellNew]; rfl
  have hc1 : (w.alloc (.cells #[.int .i64 d, .slice ga ll.length gc] 24)).cell? ⟨w.heap.size, 1, none⟩ = some (.slice ga ll.length gc) := by rw [Rg.cellNew]; rfl
  have hlt : w.heap.size < (w.alloc (.cells #[.int .i64 d, .slice ga ll.length gc] 24)).heap.size := by simp
  have R := Lib.hid (hv.below hba)
  have K := Lib.hid hba
  clear h hv hba
  by_cases hz : Ma.gchk d ll = 0
  · have hz' : (Ma.gchk d ll != 0) = false := by simp [hz]
    by_cases hp : isPt d p = true
    · by_cases hq : isPt d q = true
      · obtain ⟨D, gs, rfl, rfl, hgg, hD1, hD2, hgl⟩ := gchk_ok hz
        obtain ⟨hp0, hp1⟩ := isPt_nat hp
        obtain ⟨hq0, hq1⟩ := isPt_nat hq
        obtain ⟨P, rfl⟩ : ∃ P : Nat, p = P := ⟨p.toNat, by omega⟩
        obtain ⟨X, rfl⟩ : ∃ X : Nat, q = X := ⟨q.toNat, by omega⟩
        have hT : treeL (D : Int) (gs.map Ma.ofN) (P : Int) = tree gs D P := by unfold treeL; rw [toNs_ofN]; rfl
        have hok := tree_ok hgg.cl (show P < D by omega)
        have hr : pathS (D : Int) (gs.map Ma.ofN) (P : Int) (X : Int) = if X ∈ pts (tree gs D P) then (Ma.ofN (wd (tree gs D P) X), 0) else ([], 18) := by
          unfold pathS
          rw [if_pos hz, if_pos ⟨hp, hq⟩, hT]; rfl
        rw [hr]
        simp only [List.length_map] at hc0 hc1 hlt K R ⊢
        have HGG := Lib.hid hgg
        have HOK := Lib.hid hok
        have hX64 : (X : Int) < 64 := by omega
        have HZ := Lib.hid hz
        clear hr hT hgg hok hz
        rw [HZ.out] at hz'
        have hck : ∀ W, Rg.Rows W (.slice ga gs.length gc) (gs.map Ma.ofN) → Calls Try.prog 26 #[.agg #[.int .i64 D, .slice ga gs.length gc]] W fun e w' => e = .returned (.int .i64 0) ∧ Below W.heap.size W w' := fun W hW => by
          have := orbitCheck_any _ (D : Int) _ W hW
          rwa [HZ.out] at this
        have HCK := Lib.hid hck
        clear hck hz'
        go_enter Try.func20, Try.ntmps20
        by_cases hm : X ∈ pts (tree gs D P)
        · rw [if_pos hm]
          obtain ⟨i, hi, hix⟩ := mem_idx hm
          have hwd : wd (tree gs D P) X = (tree gs D P)[i].2.2.2 := by rw [← hix]; exact wd_at HOK.out.nd hi
          rw [hwd]
          have HM := Lib.hid hm
          have HIX := Lib.hid hix
          clear hm hwd hix
          go_wp2_with (first | (go_at_call 26; refine (HCK.out _ R.out).mono ?_; rintro e w1 ⟨rfl, hb1⟩; replace hc0 := (hb1.cell (p := ⟨w.heap.size, 0, none⟩) hlt).trans hc0; replace hc1 := (hb1.cell (p := ⟨w.heap.size, 1, none⟩) hlt).trans hc1; replace hlt := Nat.lt_of_lt_of_le hlt hb1.size; replace K := Lib.hid (Rg.acc K.out hb1); replace R := Lib.hid (R.out.below hb1); clear hb1) | (go_at_call 53; refine (point_any _ _ _ _).mono ?_; rintro e w1 ⟨rfl, hb1⟩; replace hc0 := (hb1.cell (p := ⟨w.heap.size, 0, none⟩) hlt).trans hc0; replace hc1 := (hb1.cell (p := ⟨w.heap.size, 1, none⟩) hlt).trans hc1; replace hlt := Nat.lt_of_lt_of_le hlt hb1.size; replace K := Lib.hid (Rg.acc K.out hb1); replace R := Lib.hid (R.out.below hb1); clear hb1) | (go_at_call 54; refine (grow_any _ D gs P _ R.out HGG.out hD2 (by omega) hgl).mono ?_; rintro e w1 ⟨tb, pv, rfl, htb, htr, hb1⟩; have HT := Lib.hid htr; have d1 : w1.cell? ⟨tb, 129 + X, none⟩ = some (.bool true) := (htr.inCell (by omega)).trans (by rw [decide_eq_true HM.out]); clear htr; replace hc0 := (hb1.cell (p := ⟨w.heap.size, 0, none⟩) hlt).trans hc0; replace hc1 := (hb1.cell (p := ⟨w.heap.size, 1, none⟩) hlt).trans hc1; replace hlt := Nat.lt_of_lt_of_le hlt hb1.size; replace K := Lib.hid (Rg.acc K.out hb1); replace R := Lib.hid (R.out.below hb1); clear hb1) | (go_at_call 70; have hpa := path_any _ tb _ pv _ D gs.length P HT.out HOK.out hD2 i hi; rw [HIX.out] at hpa; refine hpa.mono ?_; clear hpa; rintro e w2 ⟨v, rfl, hv2, hb2⟩; have HV := Lib.hid hv2; have K2 := Lib.hid (Rg.acc K.out hb2); clear hv2 hb2))
          go_ret2
          exact ⟨_, rfl, HV.out.1, K2.out⟩
        · rw [if_neg hm]
          have HM := Lib.hid hm
          clear hm
          go_wp2_with (first | (go_at_call 26; refine (HCK.out _ R.out).mono ?_; rintro e w1 ⟨rfl, hb1⟩; replace hc0 := (hb1.cell (p := ⟨w.heap.size, 0, none⟩) hlt).trans hc0; replace hc1 := (hb1.cell (p := ⟨w.heap.size, 1, none⟩) hlt).trans hc1; replace hlt := Nat.lt_of_lt_of_le hlt hb1.size; replace K := Lib.hid (Rg.acc K.out hb1); replace R := Lib.hid (R.out.below hb1); clear hb1) | (go_at_call 53; refine (point_any _ _ _ _).mono ?_; rintro e w1 ⟨rfl, hb1⟩; replace hc0 := (hb1.cell (p := ⟨w.heap.size, 0, none⟩) hlt).trans hc0; replace hc1 := (hb1.cell (p := ⟨w.heap.size, 1, none⟩) hlt).trans hc1; replace hlt := Nat.lt_of_lt_of_le hlt hb1.size; replace K := Lib.hid (Rg.acc K.out hb1); replace R := Lib.hid (R.out.below hb1); clear hb1) | (go_at_call 54; refine (grow_any _ D gs P _ R.out HGG.out hD2 (by omega) hgl).mono ?_; rintro e w1 ⟨tb, pv, rfl, htb, htr, hb1⟩; have d1 : w1.cell? ⟨tb, 129 + X, none⟩ = some (.bool false) := (htr.inCell (by omega)).trans (by rw [decide_eq_false HM.out]); clear htr; replace hc0 := (hb1.cell (p := ⟨w.heap.size, 0, none⟩) hlt).trans hc0; replace hc1 := (hb1.cell (p := ⟨w.heap.size, 1, none⟩) hlt).trans hc1; replace hlt := Nat.lt_of_lt_of_le hlt hb1.size; replace K := Lib.hid (Rg.acc K.out hb1); replace R := Lib.hid (R.out.below hb1); clear hb1))
          go_ret2
          exact ⟨_, rfl, Rg.Ints.nil _ _ _ (Nat.zero_le _), K.out⟩
      · have hq' : isPt d q = false := by simpa using hq
        have hr : pathS d ll p q = ([], 2) := by unfold pathS; rw [if_pos hz, if_neg (fun h => hq h.2)]
        rw [hr]
        clear hr hq
        go_enter Try.func20, Try.ntmps20
        go_wp2_with (first | (go_at_call 26; refine (orbitCheck_any _ _ _ _ R.out).mono ?_; rintro e w1 ⟨rfl, hb1⟩; replace hc0 := (hb1.cell (p := ⟨w.heap.size, 0, none⟩) hlt).trans hc0; replace hc1 := (hb1.cell (p := ⟨w.heap.size, 1, none⟩) hlt).trans hc1; replace hlt := Nat.lt_of_lt_of_le hlt hb1.size; replace K := Lib.hid (Rg.acc K.out hb1); replace R := Lib.hid (R.out.below hb1); clear hb1) | (go_at_call 53; refine (point_any _ _ _ _).mono ?_; rintro e w1 ⟨rfl, hb1⟩; replace hc0 := (hb1.cell (p := ⟨w.heap.size, 0, none⟩) hlt).trans hc0; replace hc1 := (hb1.cell (p := ⟨w.heap.size, 1, none⟩) hlt).trans hc1; replace hlt := Nat.lt_of_lt_of_le hlt hb1.size; replace K := Lib.hid (Rg.acc K.out hb1); replace R := Lib.hid (R.out.below hb1); clear hb1))
        go_ret2
        exact ⟨_, rfl, Rg.Ints.nil _ _ _ (Nat.zero_le _), K.out⟩
    · have hp' : isPt d p = false := by simpa using hp
      have hr : pathS d ll p q = ([], 2) := by unfold pathS; rw [if_pos hz, if_neg (fun h => hp h.1)]
      rw [hr]
      clear hr hp
      go_enter Try.func20, Try.ntmps20
      go_wp2_with (first | (go_at_call 26; refine (orbitCheck_any _ _ _ _ R.out).mono ?_; rintro e w1 ⟨rfl, hb1⟩; replace hc0 := (hb1.cell (p := ⟨w.heap.size, 0, none⟩) hlt).trans hc0; replace hc1 := (hb1.cell (p := ⟨w.heap.size, 1, none⟩) hlt).trans hc1; replace hlt := Nat.lt_of_lt_of_le hlt hb1.size; replace K := Lib.hid (Rg.acc K.out hb1); replace R := Lib.hid (R.out.below hb1); clear hb1) | (go_at_call 53; refine (point_any _ _ _ _).mono ?_; rintro e w1 ⟨rfl, hb1⟩; replace hc0 := (hb1.cell (p := ⟨w.heap.size, 0, none⟩) hlt).trans hc0; replace hc1 := (hb1.cell (p := ⟨w.heap.size, 1, none⟩) hlt).trans hc1; replace hlt := Nat.lt_of_lt_of_le hlt hb1.size; replace K := Lib.hid (Rg.acc K.out hb1); replace R := Lib.hid (R.out.below hb1); clear hb1))
      go_ret2
      exact ⟨_, rfl, Rg.Ints.nil _ _ _ (Nat.zero_le _), K.out⟩
  · have hr : pathS d ll p q = ([], Ma.gchk d ll) := if_neg hz
    rw [hr]
    have hz' : (Ma.gchk d ll != 0) = true := by simp [hz]
    clear hr
    go_enter Try.func20, Try.ntmps20
    go_wp2_with (go_at_call 26; refine (orbitCheck_any _ _ _ _ R.out).mono ?_; rintro e w1 ⟨rfl, hb1⟩; replace K := Lib.hid (Rg.acc K.out hb1); clear hb1)
    go_ret2
    exact ⟨_, rfl, Rg.Ints.nil _ _ _ (Nat.zero_le _), K.out⟩
end Go.Proofs.Ytojbijkljnohoaa

/-! The reference's point. -/
namespace Go.Proofs.Ytojbijkljnohoaa
open Go.RowKit
open Go.Proofs
open Go.Proofs.Ob
attribute [local irreducible] Go.Calls

/-- the error of a group and a point -/
def ptE (d : Int) (ll : List (List Int)) (p : Int) : Int := if Ma.gchk d ll = 0 then (if isPt d p = true then 0 else 2) else Ma.gchk d ll
theorem ptE_zero {d : Int} {ll : List (List Int)} {p : Int} (h : ptE d ll p = 0) : Ma.gchk d ll = 0 ∧ isPt d p = true := by
  unfold ptE at h
  split at h
  · rename_i h1
    split at h
    · rename_i h2; exact ⟨h1, h2⟩
    · simp at h
  · rename_i h1; exact absurd h h1
set_option maxHeartbeats 1000000 in
theorem refPoint_any (gv : Value) (d : Int) (ll : List (List Int)) (p : Int) (w : World) (h : Rg.Rows w gv ll) :
    Calls Try.prog 68 #[.agg #[.int .i64 d, gv], .int .i64 p] w fun e w' => e = .returned (.int .i64 (ptE d ll p)) ∧ Below w.heap.size w w' := by
  have hv := h
  obtain ⟨ga, gc, rfl, _⟩ := h.shape
  have hba : Below w.heap.size w (w.alloc (.cells #[.int .i64 d, .slice ga ll.length gc] 24)) := (Below.refl _ _).alloc (Nat.le_refl _) _
  have hc0 : (w.alloc (.cells #[.int .i64 d, .slice ga ll.length gc] 24)).cell? ⟨w.heap.size, 0, none⟩ = some (.int .i64 d) := by rw [Rg.cellNew]; rfl
  have hlt : w.heap.size < (w.alloc (.cells #[.int .i64 d, .slice ga ll.length gc] 24)).heap.size := by simp
  have hck := ref07Check_any (.slice ga ll.length gc) d ll _ (hv.below hba)
  by_cases hz : Ma.gchk d ll = 0
  · rw [hz] at hck
    have HCK := Lib.hid hck
    have K := Lib.hid hba
    have hpe : ptE d ll p = if isPt d p = true then 0 else 2 := if_pos hz
    rw [hpe]
    have hip : isPt d p = decide (0 ≤ p ∧ p < d) := rfl
    clear hck hba h hv hz hpe
    by_cases h0 : p < 0
    · have hr : (if isPt d p = true then (0 : Int) else 2) = 2 := if_neg (by rw [hip, decide_eq_true_iff]; omega)
      rw [hr]
      clear hr hip
      go_enter Try.func68, Try.ntmps68
      go_wp2_with (go_at_call 27; refine HCK.out.mono ?_; rintro e w1 ⟨rfl, hb1⟩; replace hc0 := (hb1.cell (p := ⟨w.heap.size, 0, none⟩) hlt).trans hc0; replace K := Lib.hid (Rg.acc K.out hb1); clear hb1)
      go_ret
      exact ⟨rfl, K.out⟩
    · by_cases h1 : d ≤ p
      · have hr : (if isPt d p = true then (0 : Int) else 2) = 2 := if_neg (by rw [hip, decide_eq_true_iff]; omega)
        rw [hr]
        clear hr hip
        go_enter Try.func68, Try.ntmps68
        go_wp2_with (go_at_call 27; refine HCK.out.mono ?_; rintro e w1 ⟨rfl, hb1⟩; replace hc0 := (hb1.cell (p := ⟨w.heap.size, 0, none⟩) hlt).trans hc0; replace K := Lib.hid (Rg.acc K.out hb1); clear hb1)
        go_ret
        exact ⟨rfl, K.out⟩
      · have hr : (if isPt d p = true then (0 : Int) else 2) = 0 := if_pos (by rw [hip, decide_eq_true_iff]; omega)
        rw [hr]
        clear hr hip
        go_enter Try.func68, Try.ntmps68
        go_wp2_with (go_at_call 27; refine HCK.out.mono ?_; rintro e w1 ⟨rfl, hb1⟩; replace hc0 := (hb1.cell (p := ⟨w.heap.size, 0, none⟩) hlt).trans hc0; replace K := Lib.hid (Rg.acc K.out hb1); clear hb1)
        go_ret
        exact ⟨rfl, K.out⟩
  · have hpe : ptE d ll p = Ma.gchk d ll := if_neg hz
    rw [hpe]
    have hz' : (Ma.gchk d ll != 0) = true := by simp [hz]
    have HCK := Lib.hid hck
    have K := Lib.hid hba
    clear hck hba h hv hz hpe
    go_enter Try.func68, Try.ntmps68
    go_wp2_with (go_at_call 27; refine HCK.out.mono ?_; rintro e w1 ⟨rfl, hb1⟩; replace K := Lib.hid (Rg.acc K.out hb1); clear hb1)
    go_ret
    exact ⟨rfl, K.out⟩
end Go.Proofs.Ytojbijkljnohoaa

/-! Three rows of the call's own that grow side by side. -/
namespace Go.Proofs.Ytojbijkljnohoaa
open Go.RowKit
open Go.Proofs
open Go.Proofs.Ob
attribute [local irreducible] Go.Calls

theorem app_run2 {P : Program} {t e : TypeId} {z : Value} {bytes : Nat} (T : Rg.SlT P t e z bytes) (ty : TypeId) {B : Nat} {X : World} {v u : Value} {n : Nat} {xs : List Value} (hown : X.ownsRow B e 1 v n xs) (hX : B ≤ X.heap.size) (p c : Nat)
    (hu : X.cell? ⟨p, 0, none⟩ = some u) (h1 : u.oneCell' = true) (hn : n < 1000000) :
    ∃ v' X', (Builtin.append_ #[t, t] ty #[v, .slice (some ⟨p, 0, none⟩) 1 c]).run P X = .ok v' X' ∧ X'.ownsRow B e 1 v' (n + 1) (xs ++ [u]) ∧ X.grownBy X' v.ownBlock ∧ (v'.ownBlock = v.ownBlock ∨ v'.ownBlock = some X.heap.size) ∧ (∃ a c, v' = .slice a (n + 1) c) ∧
      (∀ g, v.ownBlock = some g → ∀ i, i < n → X'.cell? ⟨g, i, none⟩ = X.cell? ⟨g, i, none⟩) := by
  obtain ⟨v', X', r1, r2, r3, r4, r5⟩ := app_run T ty hown hX p c hu h1 hn
  refine ⟨v', X', r1, r2, r3, r4, r5, fun g hg i hi => ?_⟩
  obtain ⟨i0, hi0, hz0, hz1, hz2⟩ := info_parts T.info
  have ho := hown
  obtain ⟨hl, ⟨rfl, _⟩ | ⟨g', cap, cur, rfl, hB, hh, hnc, hcm, hcs, ht⟩⟩ := hown
  · simp [Value.ownBlock] at hg
  · have hgg : g' = g := by simpa [Value.ownBlock] using hg
    subst hgg
    by_cases hroom : n + 1 ≤ cap
    · have hR := run_append_room (P := P) X t ty e i0 T.ty hi0 g' n cap cur hh ⟨p, 0, none⟩ 1 c [u] (by rw [hz1]; rfl) (fun j x hj => by
        obtain rfl : j = 0 := by have := (List.getElem?_eq_some_iff.1 hj).1; simpa using this
        simp at hj; subst hj
        rw [show (⟨p, 0, none⟩ : Addr).add 0 = ⟨p, 0, none⟩ from rfl]; exact hu) (by simpa using h1) hroom (by rw [hz1, hcs]; simp; omega)
      rw [r1] at hR
      injection hR with e1 e2
      subst e1
      have c1 := r2.cellAt (j := i) (by omega)
      have c2 := ho.cellAt (j := i) (by omega)
      rw [c1, c2, List.getElem?_append_left (by omega)]
    · obtain rfl : n = cap := by omega
      have hR := Rg.full_run (P := P) T ty g' 0 n xs (by omega) (fun j hj => by
        have c2 := ho.cellAt (j := j) (by omega)
        rw [Nat.zero_add, c2, List.getElem?_eq_getElem hj]) p c hu hn
      obtain ⟨v2, X2, q1, _, q3, _⟩ := hR
      rw [r1] at q1
      injection q1 with e1 e2
      subst e2
      exact q3.cell (p := ⟨g', i, none⟩) (Array.getElem?_eq_some_iff.1 hh).1

def ivz (l : List Int) : List Value := l.map (Value.int .i64)
theorem ivz_snoc (l : List Int) (x : Int) : ivz (l ++ [x]) = ivz l ++ [.int .i64 x] := by simp [ivz]
/-- three rows of one's own, apart from each other -/
structure T3 (B : Nat) (w : World) (v1 v2 v3 : Value) (l1 l2 l3 : List Int) : Prop where
  o1 : w.ownsRow B 3 1 v1 l1.length (ivz l1)
  o2 : w.ownsRow B 3 1 v2 l2.length (ivz l2)
  o3 : w.ownsRow B 3 1 v3 l3.length (ivz l3)
  a12 : Rg.Apart v1 v2
  a13 : Rg.Apart v1 v3
  a23 : Rg.Apart v2 v3
/-- a cell of no row -/
def Tmp (w : World) (p : Nat) (x : Int) (v1 v2 v3 : Value) : Prop := p < w.heap.size ∧ w.cell? ⟨p, 0, none⟩ = some (.int .i64 x) ∧ v1.ownBlock ≠ some p ∧ v2.ownBlock ≠ some p ∧ v3.ownBlock ≠ some p
theorem T3.below {B : Nat} {w w' : World} {v1 v2 v3 : Value} {l1 l2 l3 : List Int} (h : T3 B w v1 v2 v3 l1 l2 l3) (hb : Below w.heap.size w w') : T3 B w' v1 v2 v3 l1 l2 l3 :=
  ⟨Rg.row_below h.o1 hb, Rg.row_below h.o2 hb, Rg.row_below h.o3 hb, h.a12, h.a13, h.a23⟩
theorem Tmp.below {w w' : World} {p : Nat} {x : Int} {v1 v2 v3 : Value} (h : Tmp w p x v1 v2 v3) (hb : Below w.heap.size w w') : Tmp w' p x v1 v2 v3 :=
  ⟨Nat.lt_of_lt_of_le h.1 hb.size, (hb.cell (p := ⟨p, 0, none⟩) h.1).trans h.2.1, h.2.2⟩
theorem T3.tmp {B : Nat} {w : World} {v1 v2 v3 : Value} {l1 l2 l3 : List Int} (h : T3 B w v1 v2 v3 l1 l2 l3) (x : Int) : Tmp (w.alloc (.cells #[.int .i64 x] 3)) w.heap.size x v1 v2 v3 :=
  ⟨by simp, by rw [Rg.cellNew]; rfl, fun e => by have := (h.o1.lt _ e).2; omega, fun e => by have := (h.o2.lt _ e).2; omega, fun e => by have := (h.o3.lt _ e).2; omega⟩
theorem ob_new {v v' : Value} {s p : Nat} (h : v'.ownBlock = v.ownBlock ∨ v'.ownBlock = some s) (h1 : v.ownBlock ≠ some p) (hp : p < s) : v'.ownBlock ≠ some p := by
  rcases h with h | h
  · rw [h]; exact h1
  · rw [h]; simp; omega
theorem T3.app1 {B : Nat} {w : World} {v1 v2 v3 : Value} {l1 l2 l3 : List Int} (h : T3 B w v1 v2 v3 l1 l2 l3) (hB : B ≤ w.heap.size) {p : Nat} {x : Int} (hp : Tmp w p x v1 v2 v3) (hl : l1.length < 1000000) (ty : TypeId) :
    ∃ a c X, (Builtin.append_ #[33, 33] ty #[v1, .slice (some ⟨p, 0, none⟩) 1 1]).run Try.prog w = .ok (.slice a (l1.length + 1) c) X ∧ T3 B X (.slice a (l1.length + 1) c) v2 v3 (l1 ++ [x]) l2 l3 ∧ w.heap.size ≤ X.heap.size ∧
      (∀ p' x', Tmp w p' x' v1 v2 v3 → Tmp X p' x' (.slice a (l1.length + 1) c) v2 v3) ∧ (∀ g, v1.ownBlock = some g → ∀ i, i < l1.length → X.cell? ⟨g, i, none⟩ = w.cell? ⟨g, i, none⟩) ∧ (∀ {B0 : Nat} {W0 : World}, B0 ≤ B → Below B0 W0 w → Below B0 W0 X) := by
  obtain ⟨v', X, r1, r2, r3, r4, ⟨a, c, rfl⟩, r6⟩ := app_run2 (P := Try.prog) slInts ty h.o1 hB p 1 hp.2.1 rfl hl
  refine ⟨a, c, X, r1, ⟨by rw [ivz_snoc, List.length_append]; exact r2, h.a12.keep h.o2 r3, h.a13.keep h.o3 r3, h.a12.grow h.o2 r4 (Nat.le_refl _), h.a13.grow h.o3 r4 (Nat.le_refl _), h.a23⟩, r3.size, fun p' x' ht => ?_, r6, fun h0 hb => hb.grown r3 (by omega) (fun j hj => by have := (h.o1.lt j hj).1; omega)⟩
  exact ⟨Nat.lt_of_lt_of_le ht.1 r3.size, r3.cell ht.2.1 (fun e => ht.2.2.1 e.symm), ob_new r4 ht.2.2.1 ht.1, ht.2.2.2⟩
theorem T3.app2 {B : Nat} {w : World} {v1 v2 v3 : Value} {l1 l2 l3 : List Int} (h : T3 B w v1 v2 v3 l1 l2 l3) (hB : B ≤ w.heap.size) {p : Nat} {x : Int} (hp : Tmp w p x v1 v2 v3) (hl : l2.length < 1000000) (ty : TypeId) :
    ∃ a c X, (Builtin.append_ #[33, 33] ty #[v2, .slice (some ⟨p, 0, none⟩) 1 1]).run Try.prog w = .ok (.slice a (l2.length + 1) c) X ∧ T3 B X v1 (.slice a (l2.length + 1) c) v3 l1 (l2 ++ [x]) l3 ∧ w.heap.size ≤ X.heap.size ∧
      (∀ p' x', Tmp w p' x' v1 v2 v3 → Tmp X p' x' v1 (.slice a (l2.length + 1) c) v3) ∧ (∀ {B0 : Nat} {W0 : World}, B0 ≤ B → Below B0 W0 w → Below B0 W0 X) := by
  obtain ⟨v', X, r1, r2, r3, r4, ⟨a, c, rfl⟩, r6⟩ := app_run2 (P := Try.prog) slInts ty h.o2 hB p 1 hp.2.1 rfl hl
  refine ⟨a, c, X, r1, ⟨h.a12.symm.keep h.o1 r3, by rw [ivz_snoc, List.length_append]; exact r2, h.a23.keep h.o3 r3, (h.a12.symm.grow h.o1 r4 (Nat.le_refl _)).symm, h.a13, h.a23.grow h.o3 r4 (Nat.le_refl _)⟩, r3.size, fun p' x' ht => ?_, fun h0 hb => hb.grown r3 (by omega) (fun j hj => by have := (h.o2.lt j hj).1; omega)⟩
  exact ⟨Nat.lt_of_lt_of_le ht.1 r3.size, r3.cell ht.2.1 (fun e => ht.2.2.2.1 e.symm), ht.2.2.1, ob_new r4 ht.2.2.2.1 ht.1, ht.2.2.2.2⟩
theorem T3.app3 {B : Nat} {w : World} {v1 v2 v3 : Value} {l1 l2 l3 : List Int} (h : T3 B w v1 v2 v3 l1 l2 l3) (hB : B ≤ w.heap.size) {p : Nat} {x : Int} (hp : Tmp w p x v1 v2 v3) (hl : l3.length < 1000000) (ty : TypeId) :
    ∃ a c X, (Builtin.append_ #[33, 33] ty #[v3, .slice (some ⟨p, 0, none⟩) 1 1]).run Try.prog w = .ok (.slice a (l3.length + 1) c) X ∧ T3 B X v1 v2 (.slice a (l3.length + 1) c) l1 l2 (l3 ++ [x]) ∧ w.heap.size ≤ X.heap.size ∧
      (∀ {B0 : Nat} {W0 : World}, B0 ≤ B → Below B0 W0 w → Below B0 W0 X) := by
  obtain ⟨v', X, r1, r2, r3, r4, ⟨a, c, rfl⟩, r6⟩ := app_run2 (P := Try.prog) slInts ty h.o3 hB p 1 hp.2.1 rfl hl
  exact ⟨a, c, X, r1, ⟨h.a13.symm.keep h.o1 r3, h.a23.symm.keep h.o2 r3, by rw [ivz_snoc, List.length_append]; exact r2, h.a12, (h.a13.symm.grow h.o1 r4 (Nat.le_refl _)).symm, (h.a23.symm.grow h.o2 r4 (Nat.le_refl _)).symm⟩, r3.size, fun h0 hb => hb.grown r3 (by omega) (fun j hj => by have := (h.o3.lt j hj).1; omega)⟩
end Go.Proofs.Ytojbijkljnohoaa

/-! The reference's Tree. -/
namespace Go.Proofs.Ytojbijkljnohoaa
open Go.RowKit
open Go.Proofs
open Go.Proofs.Ob
attribute [local irreducible] Go.Calls

theorem mem_ofN (l : List Nat) (x : Nat) : (x : Int) ∈ Ma.ofN l ↔ x ∈ l := by
  unfold Ma.ofN
  rw [List.mem_map]
  constructor
  · rintro ⟨y, hy, e⟩
    obtain rfl : y = x := by omega
    exact hy
  · exact fun h => ⟨x, h, rfl⟩
def prs (T : List En) : List Int := T.map (·.2.1)
def gns (T : List En) : List Int := T.map fun e => (e.2.2.1 : Int)
/-- what Tree returns -/
def treeS (d : Int) (ll : List (List Int)) (p : Int) : List Int × List Int × List Int :=
  if ptE d ll p = 0 then (Ma.ofN (pts (treeL d ll p)), prs (treeL d ll p), gns (treeL d ll p)) else ([], [], [])
def TrPost (r : List Int × List Int × List Int) (er : Int) (w : World) (e : Ending) (w' : World) : Prop :=
  ∃ v1 v2 v3, e = .returned (.tuple #[v1, v2, v3, .int .i64 er]) ∧ Rg.Ints w' v1 r.1 ∧ Rg.Ints w' v2 r.2.1 ∧ Rg.Ints w' v3 r.2.2 ∧ Below w.heap.size w w'
theorem T3.bld {B : Nat} {w : World} {v1 v2 v3 : Value} {l1 l2 l3 : List Int} (h : T3 B w v1 v2 v3 l1 l2 l3) (x : Int) : T3 B (w.alloc (.cells #[.int .i64 x] 3)) v1 v2 v3 l1 l2 l3 ∧ Tmp (w.alloc (.cells #[.int .i64 x] 3)) w.heap.size x v1 v2 v3 ∧ Below w.heap.size w (w.alloc (.cells #[.int .i64 x] 3)) :=
  ⟨h.below ((Below.refl _ _).alloc (Nat.le_refl _) _), h.tmp x, (Below.refl _ _).alloc (Nat.le_refl _) _⟩
theorem T3.ints1 {B : Nat} {w : World} {v1 v2 v3 : Value} {l1 l2 l3 : List Int} (h : T3 B w v1 v2 v3 l1 l2 l3) (hl : l1.length ≤ 1000000000) : Rg.Ints w v1 l1 := Rg.Ints.of_row h.o1 hl
theorem T3.ints2 {B : Nat} {w : World} {v1 v2 v3 : Value} {l1 l2 l3 : List Int} (h : T3 B w v1 v2 v3 l1 l2 l3) (hl : l2.length ≤ 1000000000) : Rg.Ints w v2 l2 := Rg.Ints.of_row h.o2 hl
theorem T3.ints3 {B : Nat} {w : World} {v1 v2 v3 : Value} {l1 l2 l3 : List Int} (h : T3 B w v1 v2 v3 l1 l2 l3) (hl : l3.length ≤ 1000000000) : Rg.Ints w v3 l3 := Rg.Ints.of_row h.o3 hl
theorem tree_pts (T : List En) (x : Nat) (y : Int) (g : Nat) (u : List Nat) : Ma.ofN (pts (T ++ [(x, y, g, u)])) = Ma.ofN (pts T) ++ [(x : Int)] := by simp [pts, Ma.ofN]
theorem tree_prs (T : List En) (x : Nat) (y : Int) (g : Nat) (u : List Nat) : prs (T ++ [(x, y, g, u)]) = prs T ++ [y] := by simp [prs]
theorem tree_gns (T : List En) (x : Nat) (y : Int) (g : Nat) (u : List Nat) : gns (T ++ [(x, y, g, u)]) = gns T ++ [(g : Int)] := by simp [gns]
theorem results4 {fn : Func} {a b c d : Go.Tmp} (h : fn.results = #[.tmp a, .tmp b, .tmp c, .tmp d]) (tmps : Array Value) {va vb vc vd : Value} (ha : tmps.getD a undef = va) (hb : tmps.getD b undef = vb) (hc : tmps.getD c undef = vc) (hd : tmps.getD d undef = vd) (w : World) :
    (results fn tmps).run Try.prog w = .ok (.tuple #[va, vb, vc, vd]) w := by
  subst ha hb hc hd
  simp [results, h]
set_option maxRecDepth 100000 in
set_option maxHeartbeats 8000000 in
theorem refTree_in (gv : Value) (D : Nat) (gs : List (List Nat)) (p : Nat) (w : World) (h : Rg.NRows w gv gs) (hg : GG D gs) (h2 : D ≤ 64) (hp : p < D) (hgl : gs.length ≤ 16) (hpt : ∀ W v, Rg.Rows W v (gs.map Ma.ofN) → Calls Try.prog 68 #[.agg #[.int .i64 D, v], .int .i64 p] W fun e w' => e = .returned (.int .i64 0) ∧ Below W.heap.size W w') :
    Calls Try.prog 19 #[.agg #[.int .i64 D, gv], .int .i64 p] w (TrPost (Ma.ofN (pts (tree gs D p)), prs (tree gs D p), gns (tree gs D p)) 0 w) := by
  have hv := h
  obtain ⟨ga, gc, rfl, _, _, _, hgr⟩ := h.shape
  have HG := Lib.hid hgr
  have HGG := Lib.hid hg
  have HPT := Lib.hid hpt
  have hba : Below w.heap.size w (w.alloc (.cells #[.int .i64 D, .slice ga gs.length gc] 24)) := (Below.refl _ _).alloc (Nat.le_refl _) _
  have hsz : (w.alloc (.cells #[.int .i64 D, .slice ga gs.length gc] 24)).heap.size = w.heap.size + 1 := by simp
  have hc0 : (w.alloc (.cells #[.int .i64 D, .slice ga gs.length gc] 24)).cell? ⟨w.heap.size, 0, none⟩ = some (.int .i64 D) := by rw [Rg.cellNew]; rfl
  have hc1 : (w.alloc (.cells #[.int .i64 D, .slice ga gs.length gc] 24)).cell? ⟨w.heap.size, 1, none⟩ = some (.slice ga gs.length gc) := by rw [Rg.cellNew]; rfl
  have R := Lib.hid (Rg.NRows.below hv hba)
  have Hba := Lib.hid hba
  have hlt : w.heap.size < (w.alloc (.cells #[.int .i64 D, .slice ga gs.length gc] 24)).heap.size := by simp
  clear h hv hgr hg hpt hba
  go_enter Try.func19, Try.ntmps19
  go_upto_region 4 with (go_at_call 68; refine (HPT.out _ _ R.out).mono ?_; rintro e w1 ⟨rfl, hb1⟩; replace hc1 := (hb1.cell (p := ⟨w.heap.size, 1, none⟩) hlt).trans hc1; have hs1 := hb1.size; replace Hba := Lib.hid (Rg.acc Hba.out hb1); clear hb1 hc0 HPT R)
  replace hlt := Nat.lt_of_lt_of_le hlt hs1
  clear hs1 hsz
  generalize hB : w1.heap.size = B at *
  refine wp_region_list ?_
  refine Rg.list_run (some 18) rfl rfl (Rg.exec_move (v := .int .i64 (p : Int)) _ rfl rfl) ?_
  go_frame
  have e1 : (w1.alloc (.cells #[.int .i64 (p : Int)] 3)).heap.size = B + 1 := by simp [hB]
  have e2 : ((w1.alloc (.cells #[.int .i64 (p : Int)] 3)).alloc (.cells #[.int .i64 (-1)] 3)).heap.size = B + 2 := by simp [hB]
  refine Rg.list_run (some 19) rfl rfl (Rg.exec_buildSlice _ _ _ rfl _ rfl (run_build1i w1 (p : Int))) ?_
  go_frame
  refine Rg.list_run (some 20) rfl rfl (Rg.exec_buildSlice _ _ _ rfl _ rfl (run_build1i _ (-1))) ?_
  go_frame
  refine Rg.list_run (some 21) rfl rfl (Rg.exec_buildSlice _ _ _ rfl _ rfl (run_build1i _ 0)) ?_
  go_frame
  rw [hB, e1, e2]
  refine Rg.list_run (some 4) rfl rfl (Rg.exec_assign (v := .slice (some ⟨B, 0, none⟩) 1 1) _ rfl rfl) ?_
  go_frame
  refine Rg.list_run (some 5) rfl rfl (Rg.exec_assign (v := .slice (some ⟨B + 1, 0, none⟩) 1 1) _ rfl rfl) ?_
  go_frame
  refine Rg.list_run (some 6) rfl rfl (Rg.exec_assign (v := .slice (some ⟨B + 2, 0, none⟩) 1 1) _ rfl rfl) ?_
  go_frame
  have b1 : Below B w1 (w1.alloc (.cells #[.int .i64 (p : Int)] 3)) := (Below.refl _ _).alloc (by omega) _
  have b2 := b1.alloc (by omega) (.cells #[.int .i64 (-1)] 3)
  have b3 := b2.alloc (by omega) (.cells #[.int .i64 0] 3)
  have o1 := own_one w1 B 3 (.int .i64 (p : Int)) (by omega)
  rw [hB] at o1
  have o2 := own_one (w1.alloc (.cells #[.int .i64 (p : Int)] 3)) B 3 (.int .i64 (-1)) (by omega)
  rw [e1] at o2
  have o3 := own_one ((w1.alloc (.cells #[.int .i64 (p : Int)] 3)).alloc (.cells #[.int .i64 (-1)] 3)) B 3 (.int .i64 0) (by omega)
  rw [e2] at o3
  have hT3 : T3 B (((w1.alloc (.cells #[.int .i64 (p : Int)] 3)).alloc (.cells #[.int .i64 (-1)] 3)).alloc (.cells #[.int .i64 0] 3)) (.slice (some ⟨B, 0, none⟩) 1 1) (.slice (some ⟨B + 1, 0, none⟩) 1 1) (.slice (some ⟨B + 2, 0, none⟩) 1 1) (Ma.ofN (pts [(p, -1, 0, [])])) (prs [(p, -1, 0, [])]) (gns [(p, -1, 0, [])]) :=
    ⟨Rg.row_below (Rg.row_below o1 ((Below.refl _ _).alloc (Nat.le_refl _) _)) ((Below.refl _ _).alloc (Nat.le_refl _) _), Rg.row_below o2 ((Below.refl _ _).alloc (Nat.le_refl _) _), o3, fun b h => by simp [Value.ownBlock] at h ⊢; omega, fun b h => by simp [Value.ownBlock] at h ⊢; omega, fun b h => by simp [Value.ownBlock] at h ⊢; omega⟩
  clear o1 o2 o3 b1 b2 e1 e2
  generalize ((w1.alloc (.cells #[.int .i64 (p : Int)] 3)).alloc (.cells #[.int .i64 (-1)] 3)).alloc (.cells #[.int .i64 0] 3) = W3 at *
  have HT3 := Lib.hid hT3
  have HB3 := Lib.hid b3
  have HBB := Lib.hid hB
  have G1 := Lib.hid ((b3.cell (p := ⟨w.heap.size, 1, none⟩) hlt).trans hc1)
  clear hT3 b3 hB hc1
  have hgl' : (gs.length : Int) ≤ 16 := by omega
  go_wp2
  go_loopw [4, 5, 6, 9] (fun v1 v2 v3 i wr => ∃ k : Nat, k ≤ (trI gs p k).length ∧ i = .int .i64 k ∧ Hid (T3 B wr v1 v2 v3 (Ma.ofN (pts (trI gs p k))) (prs (trI gs p k)) (gns (trI gs p k))) ∧ Hid (Below B W3 wr)) (fun _ _ _ i _ => D - (intOf i).toNat)
  case atStart => exact ⟨0, by omega, rfl, HT3, Lib.hid (Below.refl _ _)⟩
  case round =>
    clear HT3
    obtain ⟨k, hkl, rfl, hs, hbel⟩ := hrel
    have hok := trI_ok (p := p) HGG.out.cl hp k
    have hTD := hok.len
    have hln : (Ma.ofN (pts (trI gs p k))).length = (trI gs p k).length := by rw [Ma.len_ofN, len_pts]
    obtain ⟨pa, pc, hpe⟩ := Rg.row_shape hs.out.o1
    rw [hln] at hpe
    subst hpe
    by_cases hlk : k < (trI gs p k).length
    · obtain ⟨e, he⟩ : ∃ e, Hid (e = (trI gs p k)[k]) := ⟨_, Lib.hid rfl⟩
      have hkT : (k : Int) < ((trI gs p k).length : Int) := by omega
      have heD : e.1 < D := hok.lt _ (List.mem_map.2 ⟨_, by rw [he.out]; exact List.getElem_mem hlk, rfl⟩)
      have hst := Lib.hid (trI_some hlk)
      have HOK := Lib.hid hok
      clear hok hln
      go_wp2
      go_loopw [4, 5, 6, 10] (fun v1 v2 v3 i wr => ∃ s : Nat, s ≤ gs.length ∧ i = .int .i64 s ∧ Hid (T3 B wr v1 v2 v3 (Ma.ofN (pts (innG gs e (trI gs p k) s))) (prs (innG gs e (trI gs p k) s)) (gns (innG gs e (trI gs p k) s))) ∧ Hid (Below B W3 wr)) (fun _ _ _ i _ => gs.length - (intOf i).toNat)
      case atStart => exact ⟨0, by omega, rfl, hs, hbel⟩
      case round =>
        clear hs hbel
        obtain ⟨s, hsn, rfl, hs, hbel⟩ := hrel
        have g1 := (hbel.out.cell (p := ⟨w.heap.size, 1, none⟩) hlt).trans G1.out
        by_cases hls : s < gs.length
        · have hkT0 : k < (trI gs p k).length := hlk
          have hokI : Ok D gs.length p (innG gs e (trI gs p k) s) := by
            rw [he.out]
            exact HOK.out.inn hkT0 (fun s hs => HGG.out.cl s hs _ (HOK.out.lt _ (List.mem_map.2 ⟨_, List.getElem_mem hkT0, rfl⟩))) s (by omega)
          have hTD2 := hokI.len
          obtain ⟨hi2, hge⟩ := innG_get (gs := gs) (e := e) (n := s) hkT0
          rw [← he.out] at hge
          have hL1 : (Ma.ofN (pts (innG gs e (trI gs p k) s))).length = (innG gs e (trI gs p k) s).length := by rw [Ma.len_ofN, len_pts]
          have hL2 : (prs (innG gs e (trI gs p k) s)).length = (innG gs e (trI gs p k) s).length := by simp [prs]
          have hL3 : (gns (innG gs e (trI gs p k) s)).length = (innG gs e (trI gs p k) s).length := by simp [gns]
          have hL1k : (ivz (Ma.ofN (pts (innG gs e (trI gs p k) s))))[k]? = some (.int .i64 ((e.1 : Nat) : Int)) := by
            have hh : (innG gs e (trI gs p k) s)[k]? = some e := by rw [List.getElem?_eq_getElem hi2, hge]
            simp only [ivz, Ma.ofN, pts, List.getElem?_map, hh]
            rfl
          obtain ⟨N, hN⟩ : ∃ N, Hid (N = (innG gs e (trI gs p k) s).length) := ⟨_, Lib.hid rfl⟩
          have hkN : k < N := by rw [hN.out]; exact hi2
          have hND : N ≤ D := by rw [hN.out]; exact hTD2
          obtain ⟨L1, HL1⟩ : ∃ L, Hid (L = Ma.ofN (pts (innG gs e (trI gs p k) s))) := ⟨_, Lib.hid rfl⟩
          obtain ⟨L2, HL2⟩ : ∃ L, Hid (L = prs (innG gs e (trI gs p k) s)) := ⟨_, Lib.hid rfl⟩
          obtain ⟨L3, HL3⟩ : ∃ L, Hid (L = gns (innG gs e (trI gs p k) s)) := ⟨_, Lib.hid rfl⟩
          rw [← HL1.out] at hL1k hL1
          rw [← HL2.out] at hL2
          rw [← HL3.out] at hL3
          rw [← hN.out] at hL1 hL2 hL3
          have ht := hs.out
          rw [← HL1.out, ← HL2.out, ← HL3.out] at ht
          have ho1 := ht.o1
          rw [hL1] at ho1
          have ho2 := ht.o2
          rw [hL2] at ho2
          have ho3 := ht.o3
          rw [hL3] at ho3
          obtain ⟨a2, c2, hu5⟩ := Rg.row_shape ho2
          obtain ⟨a3, c3, hu6⟩ := Rg.row_shape ho3
          rcases own_cases ho1 with ⟨_, h0⟩ | ⟨q1, c1, F, hu4, _⟩
          · omega
          subst hu4 hu5 hu6
          have d4 := (World.ownsRow.cellAt ho1 k (by omega)).trans hL1k
          have hi1 : Rg.Ints wr (.slice (some ⟨q1, 0, none⟩) N c1) L1 := Rg.Ints.of_row ho1 (by omega)
          obtain ⟨bg, og, rfl, hbg, hgcell⟩ := HG.out (by omega)
          obtain ⟨u, hu, hun⟩ := hgcell s hls
          obtain ⟨ua, uc, rfl, _, _, _, hucell⟩ := hun.shape
          have hgs := HGG.out _ (List.getElem_mem hls)
          obtain ⟨bu, ou, rfl, hbu, huc⟩ := hucell (by omega)
          have hq := huc e.1 (by omega)
          obtain ⟨x, hxi⟩ : ∃ x, img gs s e.1 = x := ⟨_, rfl⟩
          rw [show gs[s][e.1]'(by omega) = x from (img_get hls (by omega)).symm.trans hxi] at hq
          have hxD : x < D := by rw [← hxi]; exact HGG.out.cl s hls _ heD
          have hW : Below w.heap.size w wr := Hba.out.trans ((HB3.out.trans hbel.out).mono (by omega))
          have d1 := (hW.cell (p := ⟨bg, og + s, none⟩) hbg).trans hu
          have d2 := (hW.cell (p := ⟨bu, ou + e.1, none⟩) hbu).trans hq
          have hlu : gs[s].length = D := hgs.2
          rw [hlu] at d1
          have i1 : ((e.1 : Nat) : Int) < (D : Int) := by omega
          have i2 : (s : Int) < (gs.length : Int) := by omega
          have i4 : (k : Int) < (N : Int) := by omega
          have hmm : decide ((x : Int) ∈ L1) = decide (x ∈ pts (innG gs e (trI gs p k) s)) := by rw [HL1.out]; exact decide_eq_decide.2 (mem_ofN _ _)
          have HT := Lib.hid ht
          have HI1 := Lib.hid hi1
          have HXI := Lib.hid hxi
          have HOI := Lib.hid hokI
          have D4 := Lib.hid d4
          have HL1L := Lib.hid hL1
          have HL2L := Lib.hid hL2
          have HL3L := Lib.hid hL3
          clear hs ht hokI hgcell hu hun hucell hgs huc hq hxi hW hlu ho1 ho2 ho3 hi1 hL1k hge hL1 hL2 hL3
          by_cases hmem : x ∈ pts (innG gs e (trI gs p k) s)
          · rw [decide_eq_true hmem] at hmm
            have HM := Lib.hid hmem
            have HMM := Lib.hid hmm
            clear hmem hmm
            go_upto_region 11 with (fail)
            go_quiet (fail)
            have hq1 := Rg.drewN (Below.refl wr.heap.size wr) nq
            have HT1 := Lib.hid (HT.out.below hq1)
            have HI := Lib.hid (Rg.Ints.below HI1.out hq1)
            have HB1 := Lib.hid (Rg.drewN hbel.out nq)
            have hq1w : q1 < wr.heap.size := (HT.out.o1.lt q1 rfl).2
            have D5 := Lib.hid ((hq1.cell (p := ⟨q1, k, none⟩) hq1w).trans D4.out)
            clear d1 d2 d4 hq1 hq1w
            generalize wr.drewN nq = wq at *
            go_wp2_with (go_at_call 69; refine (Has_any _ L1 (x : Int) wq HI.out).mono ?_; rw [HMM.out]; rintro e0 w2 ⟨rfl, hb2⟩; have HT2 := Lib.hid (HT1.out.below hb2); have HB2 := Lib.hid (HB1.out.trans (hb2.mono (by have := HB1.out.size; have := HB3.out.size; have := HBB.out; omega))); have D6 := Lib.hid ((hb2.cell (p := ⟨q1, k, none⟩) (HT1.out.o1.lt q1 rfl).2).trans D5.out); clear hb2)
            go_roundw
            case rel => exact ⟨s + 1, by omega, by go_num, Lib.hid (by rw [innG_succ, putG_in (by rw [HXI.out]; exact HM.out), ← HL1.out, ← HL2.out, ← HL3.out]; exact HT2.out), HB2⟩
            case measure => simp [intOf]; omega
          · rw [decide_eq_false hmem] at hmm
            have HM := Lib.hid hmem
            have HMM := Lib.hid hmm
            clear hmem hmm
            go_upto_region 11 with (fail)
            go_quiet (fail)
            have hq1 := Rg.drewN (Below.refl wr.heap.size wr) nq
            have HT1 := Lib.hid (HT.out.below hq1)
            have HI := Lib.hid (Rg.Ints.below HI1.out hq1)
            have HB1 := Lib.hid (Rg.drewN hbel.out nq)
            have hq1w : q1 < wr.heap.size := (HT.out.o1.lt q1 rfl).2
            have D5 := Lib.hid ((hq1.cell (p := ⟨q1, k, none⟩) hq1w).trans D4.out)
            clear d1 d2 d4 hq1 hq1w
            generalize wr.drewN nq = wq at *
            go_upto_region 13 with (go_at_call 69; refine (Has_any _ L1 (x : Int) wq HI.out).mono ?_; rw [HMM.out]; rintro e0 w2 ⟨rfl, hb2⟩; have HT2 := Lib.hid (HT1.out.below hb2); have HB2 := Lib.hid (HB1.out.trans (hb2.mono (by have := HB1.out.size; have := HB3.out.size; have := HBB.out; omega))); have D6 := Lib.hid ((hb2.cell (p := ⟨q1, k, none⟩) (HT1.out.o1.lt q1 rfl).2).trans D5.out); clear hb2)
            have HTT := HT2
            clear HT1 HB1 D5 HI HMM
            have HT3 := Lib.hid (show T3 B w2.drew (.slice (some ⟨q1, 0, none⟩) N c1) (.slice a2 N c2) (.slice a3 N c3) L1 L2 L3 from HT2.out.below (Below.refl _ _).drew)
            have K := Lib.hid (show Below B W3 w2.drew from HB2.out.drew)
            have C := Lib.hid (show w2.drew.cell? ⟨q1, k, none⟩ = some (.int .i64 ((e.1 : Nat) : Int)) from D6.out)
            have hkL : k < L1.length := by have := HL1L.out; omega
            have hBw : B ≤ W3.heap.size := by have := HB3.out.size; have := HBB.out; omega
            clear HT2 HB2 D6 HTT HT
            refine Rg.Any.begin (S := Rg.Both 9 (fun W => W.cell? ⟨q1, k, none⟩ = some (.int .i64 ((e.1 : Nat) : Int))) (fun _ => True)) mix ?_
            generalize w2.drew = V at *
            have hS : ∀ (l : Array Bool) (W : World), W.cell? ⟨q1, k, none⟩ = some (.int .i64 ((e.1 : Nat) : Int)) → Rg.Both 9 (fun W => W.cell? ⟨q1, k, none⟩ = some (.int .i64 ((e.1 : Nat) : Int))) (fun _ => True) l W := fun l W h => ⟨.inr h, trivial⟩
            refine Rg.Any.takeG (i := 0) (t := 9) (v := .slice (some ⟨q1, 0, none⟩) N c1) (some 50) rfl rfl (by kernel_rfl) (by kernel_rfl) (by kernel_rfl) (fun _ _ _ h => h) rfl (.inl ⟨rfl, fun w _ => rfl⟩) (hS _ _ C.out) ?_
            go_frame
            refine Rg.Any.takeG (i := 1) (t := 9) (v := .int .i64 (x : Int)) (some 51) rfl rfl (by kernel_rfl) (by kernel_rfl) (by kernel_rfl) (fun _ _ _ h => h) rfl (.inl ⟨rfl, fun w _ => rfl⟩) (hS _ _ C.out) ?_
            go_frame
            refine Rg.Any.takeG (i := 4) (t := 9) (v := .slice a2 N c2) (some 54) rfl rfl (by kernel_rfl) (by kernel_rfl) (by kernel_rfl) (fun _ _ _ h => h) rfl (.inl ⟨rfl, fun w _ => rfl⟩) (hS _ _ C.out) ?_
            go_frame
            refine Rg.Any.takeG (i := 5) (t := 9) (v := .slice (some ⟨q1, 0, none⟩) N c1) (some 55) rfl rfl (by kernel_rfl) (by kernel_rfl) (by kernel_rfl) (fun _ _ _ h => h) rfl (.inl ⟨rfl, fun w _ => rfl⟩) (hS _ _ C.out) ?_
            go_frame
            refine Rg.Any.takeG (i := 6) (t := 9) (v := .int .i64 (k : Int)) (some 56) rfl rfl (by kernel_rfl) (by kernel_rfl) (by kernel_rfl) (fun _ _ _ h => h) rfl (.inl ⟨rfl, fun w _ => rfl⟩) (hS _ _ C.out) ?_
            go_frame
            refine Rg.Any.takeG (i := 7) (t := 9) (v := .pointer (some ⟨q1, 0 + k, none⟩)) (some 57) rfl rfl (by kernel_rfl) (by kernel_rfl) (by kernel_rfl) (fun _ _ _ h => h) rfl (Rg.yields_index slInts _ _ rfl rfl q1 0 N c1 k rfl rfl hkN) (hS _ _ C.out) ?_
            go_frame
            refine Rg.Any.takeT (i := 8) (t := 9) (v := .int .i64 ((e.1 : Nat) : Int)) (some 58) rfl rfl (by kernel_rfl) (by kernel_rfl) (by kernel_rfl) (fun _ _ _ h => h) rfl (by kernel_rfl) rfl (Rg.yields_cell _ _ rfl rfl ⟨q1, 0 + k, none⟩ rfl (fun W hW => run_loadInt (by rw [Nat.zero_add]; exact hW))) (hS _ _ C.out) ?_
            go_frame
            refine Rg.Any.takeG (i := 11) (t := 9) (v := .slice a3 N c3) (some 61) rfl rfl (by kernel_rfl) (by kernel_rfl) (by kernel_rfl) (fun _ _ _ h => h) rfl (.inl ⟨rfl, fun w _ => rfl⟩) (hS _ _ C.out) ?_
            go_frame
            refine Rg.Any.takeG (i := 12) (t := 9) (v := .int .i64 (s : Int)) (some 62) rfl rfl (by kernel_rfl) (by kernel_rfl) (by kernel_rfl) (fun _ _ _ h => h) rfl (.inl ⟨rfl, fun w _ => rfl⟩) (hS _ _ C.out) ?_
            go_frame
            refine Rg.Any.takeG (i := 13) (t := 9) (v := .int .i64 ((s + 1 : Nat) : Int)) (some 63) rfl rfl (by kernel_rfl) (by kernel_rfl) (by kernel_rfl) (fun _ _ _ h => h) rfl (.inl ⟨rfl, fun w _ => exec_bin .add _ _ _ rfl rfl rfl (b_add _ (by omega) (by omega))⟩) (hS _ _ C.out) ?_
            go_frame
            refine Rg.Any.all (rs := [2, 9, 14]) (by kernel_rfl) (by simp) fun mm hmm => ?_
            simp only [List.mem_cons, List.not_mem_nil, or_false] at hmm
            rcases hmm with rfl | rfl | rfl
            · obtain ⟨t1, p1, hb1⟩ := HT3.out.bld (x : Int)
              have C1 := Lib.hid ((hb1.cell (p := ⟨q1, k, none⟩) (lt_of_cell C.out)).trans C.out)
              have hK1 := Lib.hid (K.out.trans (hb1.mono (by have := K.out.size; omega)))
              refine Rg.Any.run (some 52) rfl rfl rfl (Rg.exec_buildSlice _ _ _ rfl _ rfl (run_build1i V (x : Int))) (hS _ _ C1.out) ?_
              go_frame
              have HT3 := Lib.hid t1
              have P1 := Lib.hid p1
              have K := hK1
              have C := C1
              clear t1 p1 hb1 hK1 C1
              generalize V.alloc (.cells #[.int .i64 (x : Int)] 3) = X1 at *
              generalize V.heap.size = z11 at *
              refine Rg.Any.all (rs := [3, 9, 14]) (by kernel_rfl) (by simp) fun mm hmm => ?_
              simp only [List.mem_cons, List.not_mem_nil, or_false] at hmm
              rcases hmm with rfl | rfl | rfl
              · obtain ⟨aa2, cc2, W2, r2, t2, sz2, kp2, od2, bl2⟩ := HT3.out.app1 (by have := K.out.size; omega) P1.out (by have := HL1L.out; omega) 33
                rw [HL1L.out] at r2 t2 kp2 od2
                have C2 := Lib.hid ((od2 q1 rfl k (by omega)).trans C.out)
                have hK2 := Lib.hid (bl2 (Nat.le_refl _) K.out)
                refine Rg.Any.run (some 53) rfl rfl rfl (Rg.exec_append _ _ _ rfl rfl rfl r2) (hS _ _ C2.out) ?_
                go_frame
                have HT3 := Lib.hid t2
                have K := hK2
                have C := C2
                clear r2 t2 sz2 bl2 hK2 kp2 od2 C2
                refine Rg.Any.all (rs := [9, 14]) (by kernel_rfl) (by simp) fun mm hmm => ?_
                simp only [List.mem_cons, List.not_mem_nil, or_false] at hmm
                rcases hmm with rfl | rfl
                · obtain ⟨t3, p3, hb3⟩ := HT3.out.bld ((e.1 : Nat) : Int)
                  have C3 := Lib.hid ((hb3.cell (p := ⟨q1, k, none⟩) (lt_of_cell C.out)).trans C.out)
                  have hK3 := Lib.hid (K.out.trans (hb3.mono (by have := K.out.size; omega)))
                  refine Rg.Any.run (some 59) rfl rfl rfl (Rg.exec_buildSlice _ _ _ rfl _ rfl (run_build1i W2 ((e.1 : Nat) : Int))) (hS _ _ C3.out) ?_
                  go_frame
                  have HT3 := Lib.hid t3
                  have P2 := Lib.hid p3
                  have K := hK3
                  have C := C3
                  clear t3 p3 hb3 hK3 C3
                  generalize W2.alloc (.cells #[.int .i64 ((e.1 : Nat) : Int)] 3) = X3 at *
                  generalize W2.heap.size = z23 at *
                  refine Rg.Any.all (rs := [10, 14]) (by kernel_rfl) (by simp) fun mm hmm => ?_
                  simp only [List.mem_cons, List.not_mem_nil, or_false] at hmm
                  rcases hmm with rfl | rfl
                  · obtain ⟨aa4, cc4, W4, r4, t4, sz4, kp4, bl4⟩ := HT3.out.app2 (by have := K.out.size; omega) P2.out (by have := HL2L.out; omega) 33
                    rw [HL2L.out] at r4 t4 kp4
                    have hK4 := Lib.hid (bl4 (Nat.le_refl _) K.out)
                    refine Rg.Any.run (some 60) rfl rfl rfl (Rg.exec_append _ _ _ rfl rfl rfl r4) ⟨.inl rfl, trivial⟩ ?_
                    go_frame
                    have HT3 := Lib.hid t4
                    have K := hK4
                    clear r4 t4 sz4 bl4 hK4 kp4
                    refine Rg.Any.one (i := 14) (by kernel_rfl) ?_
                    obtain ⟨t5, p5, hb5⟩ := HT3.out.bld ((s + 1 : Nat) : Int)
                    have hK5 := Lib.hid (K.out.trans (hb5.mono (by have := K.out.size; omega)))
                    refine Rg.Any.run (some 64) rfl rfl rfl (Rg.exec_buildSlice _ _ _ rfl _ rfl (run_build1i W4 ((s + 1 : Nat) : Int))) ⟨.inl rfl, trivial⟩ ?_
                    go_frame
                    have HT3 := Lib.hid t5
                    have P3 := Lib.hid p5
                    have K := hK5
                    clear t5 p5 hb5 hK5
                    generalize W4.alloc (.cells #[.int .i64 ((s + 1 : Nat) : Int)] 3) = X5 at *
                    generalize W4.heap.size = z35 at *
                    refine Rg.Any.one (i := 15) (by kernel_rfl) ?_
                    obtain ⟨aa6, cc6, W6, r6, t6, sz6, bl6⟩ := HT3.out.app3 (by have := K.out.size; omega) P3.out (by have := HL3L.out; omega) 33
                    rw [HL3L.out] at r6 t6
                    have hK6 := Lib.hid (bl6 (Nat.le_refl _) K.out)
                    refine Rg.Any.run (some 65) rfl rfl rfl (Rg.exec_append _ _ _ rfl rfl rfl r6) ⟨.inl rfl, trivial⟩ ?_
                    go_frame
                    have HT3 := Lib.hid t6
                    have K := hK6
                    clear r6 t6 sz6 bl6 hK6
                    refine Rg.Any.one (i := 16) (by kernel_rfl) (Rg.Any.run (some 4) rfl rfl rfl (Rg.exec_assign (v := .slice aa2 (N + 1) cc2) _ rfl rfl) ⟨.inl rfl, trivial⟩ ?_)
                    go_frame
                    refine Rg.Any.one (i := 17) (by kernel_rfl) (Rg.Any.run (some 5) rfl rfl rfl (Rg.exec_assign (v := .slice aa4 (N + 1) cc4) _ rfl rfl) ⟨.inl rfl, trivial⟩ ?_)
                    go_frame
                    refine Rg.Any.one (i := 18) (by kernel_rfl) (Rg.Any.run (some 6) rfl rfl rfl (Rg.exec_assign (v := .slice aa6 (N + 1) cc6) _ rfl rfl) ⟨.inl rfl, trivial⟩ ?_)
                    go_frame
                    refine Rg.Any.done (by kernel_rfl) ?_ _
                    clear hS
                    go_wp2
                    go_roundw
                    case rel =>
                      refine ⟨s + 1, by omega, by go_num, Lib.hid ?_, K⟩
                      rw [innG_succ, putG_out (by rw [HXI.out]; exact HM.out), HXI.out]
                      have hfin := HT3.out
                      rw [HL1.out, HL2.out, HL3.out] at hfin
                      rw [tree_pts, tree_prs, tree_gns]
                      exact hfin
                    case measure => simp [intOf]; omega
                  · obtain ⟨t7, p7, hb7⟩ := HT3.out.bld ((s + 1 : Nat) : Int)
                    have hK7 := Lib.hid (K.out.trans (hb7.mono (by have := K.out.size; omega)))
                    have P2 := Lib.hid (P2.out.below hb7)
                    refine Rg.Any.run (some 64) rfl rfl rfl (Rg.exec_buildSlice _ _ _ rfl _ rfl (run_build1i X3 ((s + 1 : Nat) : Int))) ⟨.inl rfl, trivial⟩ ?_
                    go_frame
                    have HT3 := Lib.hid t7
                    have P3 := Lib.hid p7
                    have K := hK7
                    clear t7 p7 hb7 hK7
                    generalize X3.alloc (.cells #[.int .i64 ((s + 1 : Nat) : Int)] 3) = X7 at *
                    generalize X3.heap.size = z37 at *
                    refine Rg.Any.one (i := 10) (by kernel_rfl) ?_
                    obtain ⟨aa8, cc8, W8, r8, t8, sz8, kp8, bl8⟩ := HT3.out.app2 (by have := K.out.size; omega) P2.out (by have := HL2L.out; omega) 33
                    rw [HL2L.out] at r8 t8 kp8
                    have P3 := Lib.hid (kp8 _ _ P3.out)
                    have hK8 := Lib.hid (bl8 (Nat.le_refl _) K.out)
                    refine Rg.Any.run (some 60) rfl rfl rfl (Rg.exec_append _ _ _ rfl rfl rfl r8) ⟨.inl rfl, trivial⟩ ?_
                    go_frame
                    have HT3 := Lib.hid t8
                    have K := hK8
                    clear r8 t8 sz8 bl8 hK8 kp8
                    refine Rg.Any.one (i := 15) (by kernel_rfl) ?_
                    obtain ⟨aa9, cc9, W9, r9, t9, sz9, bl9⟩ := HT3.out.app3 (by have := K.out.size; omega) P3.out (by have := HL3L.out; omega) 33
                    rw [HL3L.out] at r9 t9
                    have hK9 := Lib.hid (bl9 (Nat.le_refl _) K.out)
                    refine Rg.Any.run (some 65) rfl rfl rfl (Rg.exec_append _ _ _ rfl rfl rfl r9) ⟨.inl rfl, trivial⟩ ?_
                    go_frame
                    have HT3 := Lib.hid t9
                    have K := hK9
                    clear r9 t9 sz9 bl9 hK9
                    refine Rg.Any.one (i := 16) (by kernel_rfl) (Rg.Any.run (some 4) rfl rfl rfl (Rg.exec_assign (v := .slice aa2 (N + 1) cc2) _ rfl rfl) ⟨.inl rfl, trivial⟩ ?_)
                    go_frame
                    refine Rg.Any.one (i := 17) (by kernel_rfl) (Rg.Any.run (some 5) rfl rfl rfl (Rg.exec_assign (v := .slice aa8 (N + 1) cc8) _ rfl rfl) ⟨.inl rfl, trivial⟩ ?_)
                    go_frame
                    refine Rg.Any.one (i := 18) (by kernel_rfl) (Rg.Any.run (some 6) rfl rfl rfl (Rg.exec_assign (v := .slice aa9 (N + 1) cc9) _ rfl rfl) ⟨.inl rfl, trivial⟩ ?_)
                    go_frame
                    refine Rg.Any.done (by kernel_rfl) ?_ _
                    clear hS
                    go_wp2
                    go_roundw
                    case rel =>
                      refine ⟨s + 1, by omega, by go_num, Lib.hid ?_, K⟩
                      rw [innG_succ, putG_out (by rw [HXI.out]; exact HM.out), HXI.out]
                      have hfin := HT3.out
                      rw [HL1.out, HL2.out, HL3.out] at hfin
                      rw [tree_pts, tree_prs, tree_gns]
                      exact hfin
                    case measure => simp [intOf]; omega
                · obtain ⟨t10, p10, hb10⟩ := HT3.out.bld ((s + 1 : Nat) : Int)
                  have C10 := Lib.hid ((hb10.cell (p := ⟨q1, k, none⟩) (lt_of_cell C.out)).trans C.out)
                  have hK10 := Lib.hid (K.out.trans (hb10.mono (by have := K.out.size; omega)))
                  refine Rg.Any.run (some 64) rfl rfl rfl (Rg.exec_buildSlice _ _ _ rfl _ rfl (run_build1i W2 ((s + 1 : Nat) : Int))) (hS _ _ C10.out) ?_
                  go_frame
                  have HT3 := Lib.hid t10
                  have P3 := Lib.hid p10
                  have K := hK10
                  have C := C10
                  clear t10 p10 hb10 hK10 C10
                  generalize W2.alloc (.cells #[.int .i64 ((s + 1 : Nat) : Int)] 3) = X10 at *
                  generalize W2.heap.size = z310 at *
                  refine Rg.Any.one (i := 9) (by kernel_rfl) ?_
                  obtain ⟨t11, p11, hb11⟩ := HT3.out.bld ((e.1 : Nat) : Int)
                  have C11 := Lib.hid ((hb11.cell (p := ⟨q1, k, none⟩) (lt_of_cell C.out)).trans C.out)
                  have hK11 := Lib.hid (K.out.trans (hb11.mono (by have := K.out.size; omega)))
                  have P3 := Lib.hid (P3.out.below hb11)
                  refine Rg.Any.run (some 59) rfl rfl rfl (Rg.exec_buildSlice _ _ _ rfl _ rfl (run_build1i X10 ((e.1 : Nat) : Int))) (hS _ _ C11.out) ?_
                  go_frame
                  have HT3 := Lib.hid t11
                  have P2 := Lib.hid p11
                  have K := hK11
                  have C := C11
                  clear t11 p11 hb11 hK11 C11
                  generalize X10.alloc (.cells #[.int .i64 ((e.1 : Nat) : Int)] 3) = X11 at *
                  generalize X10.heap.size = z211 at *
                  refine Rg.Any.one (i := 10) (by kernel_rfl) ?_
                  obtain ⟨aa12, cc12, W12, r12, t12, sz12, kp12, bl12⟩ := HT3.out.app2 (by have := K.out.size; omega) P2.out (by have := HL2L.out; omega) 33
                  rw [HL2L.out] at r12 t12 kp12
                  have P3 := Lib.hid (kp12 _ _ P3.out)
                  have hK12 := Lib.hid (bl12 (Nat.le_refl _) K.out)
                  refine Rg.Any.run (some 60) rfl rfl rfl (Rg.exec_append _ _ _ rfl rfl rfl r12) ⟨.inl rfl, trivial⟩ ?_
                  go_frame
                  have HT3 := Lib.hid t12
                  have K := hK12
                  clear r12 t12 sz12 bl12 hK12 kp12
                  refine Rg.Any.one (i := 15) (by kernel_rfl) ?_
                  obtain ⟨aa13, cc13, W13, r13, t13, sz13, bl13⟩ := HT3.out.app3 (by have := K.out.size; omega) P3.out (by have := HL3L.out; omega) 33
                  rw [HL3L.out] at r13 t13
                  have hK13 := Lib.hid (bl13 (Nat.le_refl _) K.out)
                  refine Rg.Any.run (some 65) rfl rfl rfl (Rg.exec_append _ _ _ rfl rfl rfl r13) ⟨.inl rfl, trivial⟩ ?_
                  go_frame
                  have HT3 := Lib.hid t13
                  have K := hK13
                  clear r13 t13 sz13 bl13 hK13
                  refine Rg.Any.one (i := 16) (by kernel_rfl) (Rg.Any.run (some 4) rfl rfl rfl (Rg.exec_assign (v := .slice aa2 (N + 1) cc2) _ rfl rfl) ⟨.inl rfl, trivial⟩ ?_)
                  go_frame
                  refine Rg.Any.one (i := 17) (by kernel_rfl) (Rg.Any.run (some 5) rfl rfl rfl (Rg.exec_assign (v := .slice aa12 (N + 1) cc12) _ rfl rfl) ⟨.inl rfl, trivial⟩ ?_)
                  go_frame
                  refine Rg.Any.one (i := 18) (by kernel_rfl) (Rg.Any.run (some 6) rfl rfl rfl (Rg.exec_assign (v := .slice aa13 (N + 1) cc13) _ rfl rfl) ⟨.inl rfl, trivial⟩ ?_)
                  go_frame
                  refine Rg.Any.done (by kernel_rfl) ?_ _
                  clear hS
                  go_wp2
                  go_roundw
                  case rel =>
                    refine ⟨s + 1, by omega, by go_num, Lib.hid ?_, K⟩
                    rw [innG_succ, putG_out (by rw [HXI.out]; exact HM.out), HXI.out]
                    have hfin := HT3.out
                    rw [HL1.out, HL2.out, HL3.out] at hfin
                    rw [tree_pts, tree_prs, tree_gns]
                    exact hfin
                  case measure => simp [intOf]; omega
              · obtain ⟨t14, p14, hb14⟩ := HT3.out.bld ((e.1 : Nat) : Int)
                have C14 := Lib.hid ((hb14.cell (p := ⟨q1, k, none⟩) (lt_of_cell C.out)).trans C.out)
                have hK14 := Lib.hid (K.out.trans (hb14.mono (by have := K.out.size; omega)))
                have P1 := Lib.hid (P1.out.below hb14)
                refine Rg.Any.run (some 59) rfl rfl rfl (Rg.exec_buildSlice _ _ _ rfl _ rfl (run_build1i X1 ((e.1 : Nat) : Int))) (hS _ _ C14.out) ?_
                go_frame
                have HT3 := Lib.hid t14
                have P2 := Lib.hid p14
                have K := hK14
                have C := C14
                clear t14 p14 hb14 hK14 C14
                generalize X1.alloc (.cells #[.int .i64 ((e.1 : Nat) : Int)] 3) = X14 at *
                generalize X1.heap.size = z214 at *
                refine Rg.Any.all (rs := [3, 14]) (by kernel_rfl) (by simp) fun mm hmm => ?_
                simp only [List.mem_cons, List.not_mem_nil, or_false] at hmm
                rcases hmm with rfl | rfl
                · obtain ⟨aa15, cc15, W15, r15, t15, sz15, kp15, od15, bl15⟩ := HT3.out.app1 (by have := K.out.size; omega) P1.out (by have := HL1L.out; omega) 33
                  rw [HL1L.out] at r15 t15 kp15 od15
                  have P2 := Lib.hid (kp15 _ _ P2.out)
                  have hK15 := Lib.hid (bl15 (Nat.le_refl _) K.out)
                  refine Rg.Any.run (some 53) rfl rfl rfl (Rg.exec_append _ _ _ rfl rfl rfl r15) ⟨.inl rfl, trivial⟩ ?_
                  go_frame
                  have HT3 := Lib.hid t15
                  have K := hK15
                  clear r15 t15 sz15 bl15 hK15 kp15 od15
                  refine Rg.Any.all (rs := [10, 14]) (by kernel_rfl) (by simp) fun mm hmm => ?_
                  simp only [List.mem_cons, List.not_mem_nil, or_false] at hmm
                  rcases hmm with rfl | rfl
                  · obtain ⟨aa16, cc16, W16, r16, t16, sz16, kp16, bl16⟩ := HT3.out.app2 (by have := K.out.size; omega) P2.out (by have := HL2L.out; omega) 33
                    rw [HL2L.out] at r16 t16 kp16
                    have hK16 := Lib.hid (bl16 (Nat.le_refl _) K.out)
                    refine Rg.Any.run (some 60) rfl rfl rfl (Rg.exec_append _ _ _ rfl rfl rfl r16) ⟨.inl rfl, trivial⟩ ?_
                    go_frame
                    have HT3 := Lib.hid t16
                    have K := hK16
                    clear r16 t16 sz16 bl16 hK16 kp16
                    refine Rg.Any.one (i := 14) (by kernel_rfl) ?_
                    obtain ⟨t17, p17, hb17⟩ := HT3.out.bld ((s + 1 : Nat) : Int)
                    have hK17 := Lib.hid (K.out.trans (hb17.mono (by have := K.out.size; omega)))
                    refine Rg.Any.run (some 64) rfl rfl rfl (Rg.exec_buildSlice _ _ _ rfl _ rfl (run_build1i W16 ((s + 1 : Nat) : Int))) ⟨.inl rfl, trivial⟩ ?_
                    go_frame
                    have HT3 := Lib.hid t17
                    have P3 := Lib.hid p17
                    have K := hK17
                    clear t17 p17 hb17 hK17
                    generalize W16.alloc (.cells #[.int .i64 ((s + 1 : Nat) : Int)] 3) = X17 at *
                    generalize W16.heap.size = z317 at *
                    refine Rg.Any.one (i := 15) (by kernel_rfl) ?_
                    obtain ⟨aa18, cc18, W18, r18, t18, sz18, bl18⟩ := HT3.out.app3 (by have := K.out.size; omega) P3.out (by have := HL3L.out; omega) 33
                    rw [HL3L.out] at r18 t18
                    have hK18 := Lib.hid (bl18 (Nat.le_refl _) K.out)
                    refine Rg.Any.run (some 65) rfl rfl rfl (Rg.exec_append _ _ _ rfl rfl rfl r18) ⟨.inl rfl, trivial⟩ ?_
                    go_frame
                    have HT3 := Lib.hid t18
                    have K := hK18
                    clear r18 t18 sz18 bl18 hK18
                    refine Rg.Any.one (i := 16) (by kernel_rfl) (Rg.Any.run (some 4) rfl rfl rfl (Rg.exec_assign (v := .slice aa15 (N + 1) cc15) _ rfl rfl) ⟨.inl rfl, trivial⟩ ?_)
                    go_frame
                    refine Rg.Any.one (i := 17) (by kernel_rfl) (Rg.Any.run (some 5) rfl rfl rfl (Rg.exec_assign (v := .slice aa16 (N + 1) cc16) _ rfl rfl) ⟨.inl rfl, trivial⟩ ?_)
                    go_frame
                    refine Rg.Any.one (i := 18) (by kernel_rfl) (Rg.Any.run (some 6) rfl rfl rfl (Rg.exec_assign (v := .slice aa18 (N + 1) cc18) _ rfl rfl) ⟨.inl rfl, trivial⟩ ?_)
                    go_frame
                    refine Rg.Any.done (by kernel_rfl) ?_ _
                    clear hS
                    go_wp2
                    go_roundw
                    case rel =>
                      refine ⟨s + 1, by omega, by go_num, Lib.hid ?_, K⟩
                      rw [innG_succ, putG_out (by rw [HXI.out]; exact HM.out), HXI.out]
                      have hfin := HT3.out
                      rw [HL1.out, HL2.out, HL3.out] at hfin
                      rw [tree_pts, tree_prs, tree_gns]
                      exact hfin
                    case measure => simp [intOf]; omega
                  · obtain ⟨t19, p19, hb19⟩ := HT3.out.bld ((s + 1 : Nat) : Int)
                    have hK19 := Lib.hid (K.out.trans (hb19.mono (by have := K.out.size; omega)))
                    have P2 := Lib.hid (P2.out.below hb19)
                    refine Rg.Any.run (some 64) rfl rfl rfl (Rg.exec_buildSlice _ _ _ rfl _ rfl (run_build1i W15 ((s + 1 : Nat) : Int))) ⟨.inl rfl, trivial⟩ ?_
                    go_frame
                    have HT3 := Lib.hid t19
                    have P3 := Lib.hid p19
                    have K := hK19
                    clear t19 p19 hb19 hK19
                    generalize W15.alloc (.cells #[.int .i64 ((s + 1 : Nat) : Int)] 3) = X19 at *
                    generalize W15.heap.size = z319 at *
                    refine Rg.Any.one (i := 10) (by kernel_rfl) ?_
                    obtain ⟨aa20, cc20, W20, r20, t20, sz20, kp20, bl20⟩ := HT3.out.app2 (by have := K.out.size; omega) P2.out (by have := HL2L.out; omega) 33
                    rw [HL2L.out] at r20 t20 kp20
                    have P3 := Lib.hid (kp20 _ _ P3.out)
                    have hK20 := Lib.hid (bl20 (Nat.le_refl _) K.out)
                    refine Rg.Any.run (some 60) rfl rfl rfl (Rg.exec_append _ _ _ rfl rfl rfl r20) ⟨.inl rfl, trivial⟩ ?_
                    go_frame
                    have HT3 := Lib.hid t20
                    have K := hK20
                    clear r20 t20 sz20 bl20 hK20 kp20
                    refine Rg.Any.one (i := 15) (by kernel_rfl) ?_
                    obtain ⟨aa21, cc21, W21, r21, t21, sz21, bl21⟩ := HT3.out.app3 (by have := K.out.size; omega) P3.out (by have := HL3L.out; omega) 33
                    rw [HL3L.out] at r21 t21
                    have hK21 := Lib.hid (bl21 (Nat.le_refl _) K.out)
                    refine Rg.Any.run (some 65) rfl rfl rfl (Rg.exec_append _ _ _ rfl rfl rfl r21) ⟨.inl rfl, trivial⟩ ?_
                    go_frame
                    have HT3 := Lib.hid t21
                    have K := hK21
                    clear r21 t21 sz21 bl21 hK21
                    refine Rg.Any.one (i := 16) (by kernel_rfl) (Rg.Any.run (some 4) rfl rfl rfl (Rg.exec_assign (v := .slice aa15 (N + 1) cc15) _ rfl rfl) ⟨.inl rfl, trivial⟩ ?_)
                    go_frame
                    refine Rg.Any.one (i := 17) (by kernel_rfl) (Rg.Any.run (some 5) rfl rfl rfl (Rg.exec_assign (v := .slice aa20 (N + 1) cc20) _ rfl rfl) ⟨.inl rfl, trivial⟩ ?_)
                    go_frame
                    refine Rg.Any.one (i := 18) (by kernel_rfl) (Rg.Any.run (some 6) rfl rfl rfl (Rg.exec_assign (v := .slice aa21 (N + 1) cc21) _ rfl rfl) ⟨.inl rfl, trivial⟩ ?_)
                    go_frame
                    refine Rg.Any.done (by kernel_rfl) ?_ _
                    clear hS
                    go_wp2
                    go_roundw
                    case rel =>
                      refine ⟨s + 1, by omega, by go_num, Lib.hid ?_, K⟩
                      rw [innG_succ, putG_out (by rw [HXI.out]; exact HM.out), HXI.out]
                      have hfin := HT3.out
                      rw [HL1.out, HL2.out, HL3.out] at hfin
                      rw [tree_pts, tree_prs, tree_gns]
                      exact hfin
                    case measure => simp [intOf]; omega
                · obtain ⟨t22, p22, hb22⟩ := HT3.out.bld ((s + 1 : Nat) : Int)
                  have hK22 := Lib.hid (K.out.trans (hb22.mono (by have := K.out.size; omega)))
                  have P1 := Lib.hid (P1.out.below hb22)
                  have P2 := Lib.hid (P2.out.below hb22)
                  refine Rg.Any.run (some 64) rfl rfl rfl (Rg.exec_buildSlice _ _ _ rfl _ rfl (run_build1i X14 ((s + 1 : Nat) : Int))) ⟨.inl rfl, trivial⟩ ?_
                  go_frame
                  have HT3 := Lib.hid t22
                  have P3 := Lib.hid p22
                  have K := hK22
                  clear t22 p22 hb22 hK22
                  generalize X14.alloc (.cells #[.int .i64 ((s + 1 : Nat) : Int)] 3) = X22 at *
                  generalize X14.heap.size = z322 at *
                  refine Rg.Any.one (i := 3) (by kernel_rfl) ?_
                  obtain ⟨aa23, cc23, W23, r23, t23, sz23, kp23, od23, bl23⟩ := HT3.out.app1 (by have := K.out.size; omega) P1.out (by have := HL1L.out; omega) 33
                  rw [HL1L.out] at r23 t23 kp23 od23
                  have P2 := Lib.hid (kp23 _ _ P2.out)
                  have P3 := Lib.hid (kp23 _ _ P3.out)
                  have hK23 := Lib.hid (bl23 (Nat.le_refl _) K.out)
                  refine Rg.Any.run (some 53) rfl rfl rfl (Rg.exec_append _ _ _ rfl rfl rfl r23) ⟨.inl rfl, trivial⟩ ?_
                  go_frame
                  have HT3 := Lib.hid t23
                  have K := hK23
                  clear r23 t23 sz23 bl23 hK23 kp23 od23
                  refine Rg.Any.one (i := 10) (by kernel_rfl) ?_
                  obtain ⟨aa24, cc24, W24, r24, t24, sz24, kp24, bl24⟩ := HT3.out.app2 (by have := K.out.size; omega) P2.out (by have := HL2L.out; omega) 33
                  rw [HL2L.out] at r24 t24 kp24
                  have P3 := Lib.hid (kp24 _ _ P3.out)
                  have hK24 := Lib.hid (bl24 (Nat.le_refl _) K.out)
                  refine Rg.Any.run (some 60) rfl rfl rfl (Rg.exec_append _ _ _ rfl rfl rfl r24) ⟨.inl rfl, trivial⟩ ?_
                  go_frame
                  have HT3 := Lib.hid t24
                  have K := hK24
                  clear r24 t24 sz24 bl24 hK24 kp24
                  refine Rg.Any.one (i := 15) (by kernel_rfl) ?_
                  obtain ⟨aa25, cc25, W25, r25, t25, sz25, bl25⟩ := HT3.out.app3 (by have := K.out.size; omega) P3.out (by have := HL3L.out; omega) 33
                  rw [HL3L.out] at r25 t25
                  have hK25 := Lib.hid (bl25 (Nat.le_refl _) K.out)
                  refine Rg.Any.run (some 65) rfl rfl rfl (Rg.exec_append _ _ _ rfl rfl rfl r25) ⟨.inl rfl, trivial⟩ ?_
                  go_frame
                  have HT3 := Lib.hid t25
                  have K := hK25
                  clear r25 t25 sz25 bl25 hK25
                  refine Rg.Any.one (i := 16) (by kernel_rfl) (Rg.Any.run (some 4) rfl rfl rfl (Rg.exec_assign (v := .slice aa23 (N + 1) cc23) _ rfl rfl) ⟨.inl rfl, trivial⟩ ?_)
                  go_frame
                  refine Rg.Any.one (i := 17) (by kernel_rfl) (Rg.Any.run (some 5) rfl rfl rfl (Rg.exec_assign (v := .slice aa24 (N + 1) cc24) _ rfl rfl) ⟨.inl rfl, trivial⟩ ?_)
                  go_frame
                  refine Rg.Any.one (i := 18) (by kernel_rfl) (Rg.Any.run (some 6) rfl rfl rfl (Rg.exec_assign (v := .slice aa25 (N + 1) cc25) _ rfl rfl) ⟨.inl rfl, trivial⟩ ?_)
                  go_frame
                  refine Rg.Any.done (by kernel_rfl) ?_ _
                  clear hS
                  go_wp2
                  go_roundw
                  case rel =>
                    refine ⟨s + 1, by omega, by go_num, Lib.hid ?_, K⟩
                    rw [innG_succ, putG_out (by rw [HXI.out]; exact HM.out), HXI.out]
                    have hfin := HT3.out
                    rw [HL1.out, HL2.out, HL3.out] at hfin
                    rw [tree_pts, tree_prs, tree_gns]
                    exact hfin
                  case measure => simp [intOf]; omega
              · obtain ⟨t26, p26, hb26⟩ := HT3.out.bld ((s + 1 : Nat) : Int)
                have C26 := Lib.hid ((hb26.cell (p := ⟨q1, k, none⟩) (lt_of_cell C.out)).trans C.out)
                have hK26 := Lib.hid (K.out.trans (hb26.mono (by have := K.out.size; omega)))
                have P1 := Lib.hid (P1.out.below hb26)
                refine Rg.Any.run (some 64) rfl rfl rfl (Rg.exec_buildSlice _ _ _ rfl _ rfl (run_build1i X1 ((s + 1 : Nat) : Int))) (hS _ _ C26.out) ?_
                go_frame
                have HT3 := Lib.hid t26
                have P3 := Lib.hid p26
                have K := hK26
                have C := C26
                clear t26 p26 hb26 hK26 C26
                generalize X1.alloc (.cells #[.int .i64 ((s + 1 : Nat) : Int)] 3) = X26 at *
                generalize X1.heap.size = z326 at *
                refine Rg.Any.all (rs := [3, 9]) (by kernel_rfl) (by simp) fun mm hmm => ?_
                simp only [List.mem_cons, List.not_mem_nil, or_false] at hmm
                rcases hmm with rfl | rfl
                · obtain ⟨aa27, cc27, W27, r27, t27, sz27, kp27, od27, bl27⟩ := HT3.out.app1 (by have := K.out.size; omega) P1.out (by have := HL1L.out; omega) 33
                  rw [HL1L.out] at r27 t27 kp27 od27
                  have C27 := Lib.hid ((od27 q1 rfl k (by omega)).trans C.out)
                  have P3 := Lib.hid (kp27 _ _ P3.out)
                  have hK27 := Lib.hid (bl27 (Nat.le_refl _) K.out)
                  refine Rg.Any.run (some 53) rfl rfl rfl (Rg.exec_append _ _ _ rfl rfl rfl r27) (hS _ _ C27.out) ?_
                  go_frame
                  have HT3 := Lib.hid t27
                  have K := hK27
                  have C := C27
                  clear r27 t27 sz27 bl27 hK27 kp27 od27 C27
                  refine Rg.Any.one (i := 9) (by kernel_rfl) ?_
                  obtain ⟨t28, p28, hb28⟩ := HT3.out.bld ((e.1 : Nat) : Int)
                  have C28 := Lib.hid ((hb28.cell (p := ⟨q1, k, none⟩) (lt_of_cell C.out)).trans C.out)
                  have hK28 := Lib.hid (K.out.trans (hb28.mono (by have := K.out.size; omega)))
                  have P3 := Lib.hid (P3.out.below hb28)
                  refine Rg.Any.run (some 59) rfl rfl rfl (Rg.exec_buildSlice _ _ _ rfl _ rfl (run_build1i W27 ((e.1 : Nat) : Int))) (hS _ _ C28.out) ?_
                  go_frame
                  have HT3 := Lib.hid t28
                  have P2 := Lib.hid p28
                  have K := hK28
                  have C := C28
                  clear t28 p28 hb28 hK28 C28
                  generalize W27.alloc (.cells #[.int .i64 ((e.1 : Nat) : Int)] 3) = X28 at *
                  generalize W27.heap.size = z228 at *
                  refine Rg.Any.one (i := 10) (by kernel_rfl) ?_
                  obtain ⟨aa29, cc29, W29, r29, t29, sz29, kp29, bl29⟩ := HT3.out.app2 (by have := K.out.size; omega) P2.out (by have := HL2L.out; omega) 33
                  rw [HL2L.out] at r29 t29 kp29
                  have P3 := Lib.hid (kp29 _ _ P3.out)
                  have hK29 := Lib.hid (bl29 (Nat.le_refl _) K.out)
                  refine Rg.Any.run (some 60) rfl rfl rfl (Rg.exec_append _ _ _ rfl rfl rfl r29) ⟨.inl rfl, trivial⟩ ?_
                  go_frame
                  have HT3 := Lib.hid t29
                  have K := hK29
                  clear r29 t29 sz29 bl29 hK29 kp29
                  refine Rg.Any.one (i := 15) (by kernel_rfl) ?_
                  obtain ⟨aa30, cc30, W30, r30, t30, sz30, bl30⟩ := HT3.out.app3 (by have := K.out.size; omega) P3.out (by have := HL3L.out; omega) 33
                  rw [HL3L.out] at r30 t30
                  have hK30 := Lib.hid (bl30 (Nat.le_refl _) K.out)
                  refine Rg.Any.run (some 65) rfl rfl rfl (Rg.exec_append _ _ _ rfl rfl rfl r30) ⟨.inl rfl, trivial⟩ ?_
                  go_frame
                  have HT3 := Lib.hid t30
                  have K := hK30
                  clear r30 t30 sz30 bl30 hK30
                  refine Rg.Any.one (i := 16) (by kernel_rfl) (Rg.Any.run (some 4) rfl rfl rfl (Rg.exec_assign (v := .slice aa27 (N + 1) cc27) _ rfl rfl) ⟨.inl rfl, trivial⟩ ?_)
                  go_frame
                  refine Rg.Any.one (i := 17) (by kernel_rfl) (Rg.Any.run (some 5) rfl rfl rfl (Rg.exec_assign (v := .slice aa29 (N + 1) cc29) _ rfl rfl) ⟨.inl rfl, trivial⟩ ?_)
                  go_frame
                  refine Rg.Any.one (i := 18) (by kernel_rfl) (Rg.Any.run (some 6) rfl rfl rfl (Rg.exec_assign (v := .slice aa30 (N + 1) cc30) _ rfl rfl) ⟨.inl rfl, trivial⟩ ?_)
                  go_frame
                  refine Rg.Any.done (by kernel_rfl) ?_ _
                  clear hS
                  go_wp2
                  go_roundw
                  case rel =>
                    refine ⟨s + 1, by omega, by go_num, Lib.hid ?_, K⟩
                    rw [innG_succ, putG_out (by rw [HXI.out]; exact HM.out), HXI.out]
                    have hfin := HT3.out
                    rw [HL1.out, HL2.out, HL3.out] at hfin
                    rw [tree_pts, tree_prs, tree_gns]
                    exact hfin
                  case measure => simp [intOf]; omega
                · obtain ⟨t31, p31, hb31⟩ := HT3.out.bld ((e.1 : Nat) : Int)
                  have C31 := Lib.hid ((hb31.cell (p := ⟨q1, k, none⟩) (lt_of_cell C.out)).trans C.out)
                  have hK31 := Lib.hid (K.out.trans (hb31.mono (by have := K.out.size; omega)))
                  have P1 := Lib.hid (P1.out.below hb31)
                  have P3 := Lib.hid (P3.out.below hb31)
                  refine Rg.Any.run (some 59) rfl rfl rfl (Rg.exec_buildSlice _ _ _ rfl _ rfl (run_build1i X26 ((e.1 : Nat) : Int))) (hS _ _ C31.out) ?_
                  go_frame
                  have HT3 := Lib.hid t31
                  have P2 := Lib.hid p31
                  have K := hK31
                  have C := C31
                  clear t31 p31 hb31 hK31 C31
                  generalize X26.alloc (.cells #[.int .i64 ((e.1 : Nat) : Int)] 3) = X31 at *
                  generalize X26.heap.size = z231 at *
                  refine Rg.Any.one (i := 3) (by kernel_rfl) ?_
                  obtain ⟨aa32, cc32, W32, r32, t32, sz32, kp32, od32, bl32⟩ := HT3.out.app1 (by have := K.out.size; omega) P1.out (by have := HL1L.out; omega) 33
                  rw [HL1L.out] at r32 t32 kp32 od32
                  have P3 := Lib.hid (kp32 _ _ P3.out)
                  have P2 := Lib.hid (kp32 _ _ P2.out)
                  have hK32 := Lib.hid (bl32 (Nat.le_refl _) K.out)
                  refine Rg.Any.run (some 53) rfl rfl rfl (Rg.exec_append _ _ _ rfl rfl rfl r32) ⟨.inl rfl, trivial⟩ ?_
                  go_frame
                  have HT3 := Lib.hid t32
                  have K := hK32
                  clear r32 t32 sz32 bl32 hK32 kp32 od32
                  refine Rg.Any.one (i := 10) (by kernel_rfl) ?_
                  obtain ⟨aa33, cc33, W33, r33, t33, sz33, kp33, bl33⟩ := HT3.out.app2 (by have := K.out.size; omega) P2.out (by have := HL2L.out; omega) 33
                  rw [HL2L.out] at r33 t33 kp33
                  have P3 := Lib.hid (kp33 _ _ P3.out)
                  have hK33 := Lib.hid (bl33 (Nat.le_refl _) K.out)
                  refine Rg.Any.run (some 60) rfl rfl rfl (Rg.exec_append _ _ _ rfl rfl rfl r33) ⟨.inl rfl, trivial⟩ ?_
                  go_frame
                  have HT3 := Lib.hid t33
                  have K := hK33
                  clear r33 t33 sz33 bl33 hK33 kp33
                  refine Rg.Any.one (i := 15) (by kernel_rfl) ?_
                  obtain ⟨aa34, cc34, W34, r34, t34, sz34, bl34⟩ := HT3.out.app3 (by have := K.out.size; omega) P3.out (by have := HL3L.out; omega) 33
                  rw [HL3L.out] at r34 t34
                  have hK34 := Lib.hid (bl34 (Nat.le_refl _) K.out)
                  refine Rg.Any.run (some 65) rfl rfl rfl (Rg.exec_append _ _ _ rfl rfl rfl r34) ⟨.inl rfl, trivial⟩ ?_
                  go_frame
                  have HT3 := Lib.hid t34
                  have K := hK34
                  clear r34 t34 sz34 bl34 hK34
                  refine Rg.Any.one (i := 16) (by kernel_rfl) (Rg.Any.run (some 4) rfl rfl rfl (Rg.exec_assign (v := .slice aa32 (N + 1) cc32) _ rfl rfl) ⟨.inl rfl, trivial⟩ ?_)
                  go_frame
                  refine Rg.Any.one (i := 17) (by kernel_rfl) (Rg.Any.run (some 5) rfl rfl rfl (Rg.exec_assign (v := .slice aa33 (N + 1) cc33) _ rfl rfl) ⟨.inl rfl, trivial⟩ ?_)
                  go_frame
                  refine Rg.Any.one (i := 18) (by kernel_rfl) (Rg.Any.run (some 6) rfl rfl rfl (Rg.exec_assign (v := .slice aa34 (N + 1) cc34) _ rfl rfl) ⟨.inl rfl, trivial⟩ ?_)
                  go_frame
                  refine Rg.Any.done (by kernel_rfl) ?_ _
                  clear hS
                  go_wp2
                  go_roundw
                  case rel =>
                    refine ⟨s + 1, by omega, by go_num, Lib.hid ?_, K⟩
                    rw [innG_succ, putG_out (by rw [HXI.out]; exact HM.out), HXI.out]
                    have hfin := HT3.out
                    rw [HL1.out, HL2.out, HL3.out] at hfin
                    rw [tree_pts, tree_prs, tree_gns]
                    exact hfin
                  case measure => simp [intOf]; omega
            · obtain ⟨t35, p35, hb35⟩ := HT3.out.bld ((e.1 : Nat) : Int)
              have C35 := Lib.hid ((hb35.cell (p := ⟨q1, k, none⟩) (lt_of_cell C.out)).trans C.out)
              have hK35 := Lib.hid (K.out.trans (hb35.mono (by have := K.out.size; omega)))
              refine Rg.Any.run (some 59) rfl rfl rfl (Rg.exec_buildSlice _ _ _ rfl _ rfl (run_build1i V ((e.1 : Nat) : Int))) (hS _ _ C35.out) ?_
              go_frame
              have HT3 := Lib.hid t35
              have P2 := Lib.hid p35
              have K := hK35
              have C := C35
              clear t35 p35 hb35 hK35 C35
              generalize V.alloc (.cells #[.int .i64 ((e.1 : Nat) : Int)] 3) = X35 at *
              generalize V.heap.size = z235 at *
              refine Rg.Any.all (rs := [2, 14]) (by kernel_rfl) (by simp) fun mm hmm => ?_
              simp only [List.mem_cons, List.not_mem_nil, or_false] at hmm
              rcases hmm with rfl | rfl
              · obtain ⟨t36, p36, hb36⟩ := HT3.out.bld (x : Int)
                have hK36 := Lib.hid (K.out.trans (hb36.mono (by have := K.out.size; omega)))
                have P2 := Lib.hid (P2.out.below hb36)
                refine Rg.Any.run (some 52) rfl rfl rfl (Rg.exec_buildSlice _ _ _ rfl _ rfl (run_build1i X35 (x : Int))) ⟨.inl rfl, trivial⟩ ?_
                go_frame
                have HT3 := Lib.hid t36
                have P1 := Lib.hid p36
                have K := hK36
                clear t36 p36 hb36 hK36
                generalize X35.alloc (.cells #[.int .i64 (x : Int)] 3) = X36 at *
                generalize X35.heap.size = z136 at *
                refine Rg.Any.all (rs := [3, 14]) (by kernel_rfl) (by simp) fun mm hmm => ?_
                simp only [List.mem_cons, List.not_mem_nil, or_false] at hmm
                rcases hmm with rfl | rfl
                · obtain ⟨aa37, cc37, W37, r37, t37, sz37, kp37, od37, bl37⟩ := HT3.out.app1 (by have := K.out.size; omega) P1.out (by have := HL1L.out; omega) 33
                  rw [HL1L.out] at r37 t37 kp37 od37
                  have P2 := Lib.hid (kp37 _ _ P2.out)
                  have hK37 := Lib.hid (bl37 (Nat.le_refl _) K.out)
                  refine Rg.Any.run (some 53) rfl rfl rfl (Rg.exec_append _ _ _ rfl rfl rfl r37) ⟨.inl rfl, trivial⟩ ?_
                  go_frame
                  have HT3 := Lib.hid t37
                  have K := hK37
                  clear r37 t37 sz37 bl37 hK37 kp37 od37
                  refine Rg.Any.all (rs := [10, 14]) (by kernel_rfl) (by simp) fun mm hmm => ?_
                  simp only [List.mem_cons, List.not_mem_nil, or_false] at hmm
                  rcases hmm with rfl | rfl
                  · obtain ⟨aa38, cc38, W38, r38, t38, sz38, kp38, bl38⟩ := HT3.out.app2 (by have := K.out.size; omega) P2.out (by have := HL2L.out; omega) 33
                    rw [HL2L.out] at r38 t38 kp38
                    have hK38 := Lib.hid (bl38 (Nat.le_refl _) K.out)
                    refine Rg.Any.run (some 60) rfl rfl rfl (Rg.exec_append _ _ _ rfl rfl rfl r38) ⟨.inl rfl, trivial⟩ ?_
                    go_frame
                    have HT3 := Lib.hid t38
                    have K := hK38
                    clear r38 t38 sz38 bl38 hK38 kp38
                    refine Rg.Any.one (i := 14) (by kernel_rfl) ?_
                    obtain ⟨t39, p39, hb39⟩ := HT3.out.bld ((s + 1 : Nat) : Int)
                    have hK39 := Lib.hid (K.out.trans (hb39.mono (by have := K.out.size; omega)))
                    refine Rg.Any.run (some 64) rfl rfl rfl (Rg.exec_buildSlice _ _ _ rfl _ rfl (run_build1i W38 ((s + 1 : Nat) : Int))) ⟨.inl rfl, trivial⟩ ?_
                    go_frame
                    have HT3 := Lib.hid t39
                    have P3 := Lib.hid p39
                    have K := hK39
                    clear t39 p39 hb39 hK39
                    generalize W38.alloc (.cells #[.int .i64 ((s + 1 : Nat) : Int)] 3) = X39 at *
                    generalize W38.heap.size = z339 at *
                    refine Rg.Any.one (i := 15) (by kernel_rfl) ?_
                    obtain ⟨aa40, cc40, W40, r40, t40, sz40, bl40⟩ := HT3.out.app3 (by have := K.out.size; omega) P3.out (by have := HL3L.out; omega) 33
                    rw [HL3L.out] at r40 t40
                    have hK40 := Lib.hid (bl40 (Nat.le_refl _) K.out)
                    refine Rg.Any.run (some 65) rfl rfl rfl (Rg.exec_append _ _ _ rfl rfl rfl r40) ⟨.inl rfl, trivial⟩ ?_
                    go_frame
                    have HT3 := Lib.hid t40
                    have K := hK40
                    clear r40 t40 sz40 bl40 hK40
                    refine Rg.Any.one (i := 16) (by kernel_rfl) (Rg.Any.run (some 4) rfl rfl rfl (Rg.exec_assign (v := .slice aa37 (N + 1) cc37) _ rfl rfl) ⟨.inl rfl, trivial⟩ ?_)
                    go_frame
                    refine Rg.Any.one (i := 17) (by kernel_rfl) (Rg.Any.run (some 5) rfl rfl rfl (Rg.exec_assign (v := .slice aa38 (N + 1) cc38) _ rfl rfl) ⟨.inl rfl, trivial⟩ ?_)
                    go_frame
                    refine Rg.Any.one (i := 18) (by kernel_rfl) (Rg.Any.run (some 6) rfl rfl rfl (Rg.exec_assign (v := .slice aa40 (N + 1) cc40) _ rfl rfl) ⟨.inl rfl, trivial⟩ ?_)
                    go_frame
                    refine Rg.Any.done (by kernel_rfl) ?_ _
                    clear hS
                    go_wp2
                    go_roundw
                    case rel =>
                      refine ⟨s + 1, by omega, by go_num, Lib.hid ?_, K⟩
                      rw [innG_succ, putG_out (by rw [HXI.out]; exact HM.out), HXI.out]
                      have hfin := HT3.out
                      rw [HL1.out, HL2.out, HL3.out] at hfin
                      rw [tree_pts, tree_prs, tree_gns]
                      exact hfin
                    case measure => simp [intOf]; omega
                  · obtain ⟨t41, p41, hb41⟩ := HT3.out.bld ((s + 1 : Nat) : Int)
                    have hK41 := Lib.hid (K.out.trans (hb41.mono (by have := K.out.size; omega)))
                    have P2 := Lib.hid (P2.out.below hb41)
                    refine Rg.Any.run (some 64) rfl rfl rfl (Rg.exec_buildSlice _ _ _ rfl _ rfl (run_build1i W37 ((s + 1 : Nat) : Int))) ⟨.inl rfl, trivial⟩ ?_
                    go_frame
                    have HT3 := Lib.hid t41
                    have P3 := Lib.hid p41
                    have K := hK41
                    clear t41 p41 hb41 hK41
                    generalize W37.alloc (.cells #[.int .i64 ((s + 1 : Nat) : Int)] 3) = X41 at *
                    generalize W37.heap.size = z341 at *
                    refine Rg.Any.one (i := 10) (by kernel_rfl) ?_
                    obtain ⟨aa42, cc42, W42, r42, t42, sz42, kp42, bl42⟩ := HT3.out.app2 (by have := K.out.size; omega) P2.out (by have := HL2L.out; omega) 33
                    rw [HL2L.out] at r42 t42 kp42
                    have P3 := Lib.hid (kp42 _ _ P3.out)
                    have hK42 := Lib.hid (bl42 (Nat.le_refl _) K.out)
                    refine Rg.Any.run (some 60) rfl rfl rfl (Rg.exec_append _ _ _ rfl rfl rfl r42) ⟨.inl rfl, trivial⟩ ?_
                    go_frame
                    have HT3 := Lib.hid t42
                    have K := hK42
                    clear r42 t42 sz42 bl42 hK42 kp42
                    refine Rg.Any.one (i := 15) (by kernel_rfl) ?_
                    obtain ⟨aa43, cc43, W43, r43, t43, sz43, bl43⟩ := HT3.out.app3 (by have := K.out.size; omega) P3.out (by have := HL3L.out; omega) 33
                    rw [HL3L.out] at r43 t43
                    have hK43 := Lib.hid (bl43 (Nat.le_refl _) K.out)
                    refine Rg.Any.run (some 65) rfl rfl rfl (Rg.exec_append _ _ _ rfl rfl rfl r43) ⟨.inl rfl, trivial⟩ ?_
                    go_frame
                    have HT3 := Lib.hid t43
                    have K := hK43
                    clear r43 t43 sz43 bl43 hK43
                    refine Rg.Any.one (i := 16) (by kernel_rfl) (Rg.Any.run (some 4) rfl rfl rfl (Rg.exec_assign (v := .slice aa37 (N + 1) cc37) _ rfl rfl) ⟨.inl rfl, trivial⟩ ?_)
                    go_frame
                    refine Rg.Any.one (i := 17) (by kernel_rfl) (Rg.Any.run (some 5) rfl rfl rfl (Rg.exec_assign (v := .slice aa42 (N + 1) cc42) _ rfl rfl) ⟨.inl rfl, trivial⟩ ?_)
                    go_frame
                    refine Rg.Any.one (i := 18) (by kernel_rfl) (Rg.Any.run (some 6) rfl rfl rfl (Rg.exec_assign (v := .slice aa43 (N + 1) cc43) _ rfl rfl) ⟨.inl rfl, trivial⟩ ?_)
                    go_frame
                    refine Rg.Any.done (by kernel_rfl) ?_ _
                    clear hS
                    go_wp2
                    go_roundw
                    case rel =>
                      refine ⟨s + 1, by omega, by go_num, Lib.hid ?_, K⟩
                      rw [innG_succ, putG_out (by rw [HXI.out]; exact HM.out), HXI.out]
                      have hfin := HT3.out
                      rw [HL1.out, HL2.out, HL3.out] at hfin
                      rw [tree_pts, tree_prs, tree_gns]
                      exact hfin
                    case measure => simp [intOf]; omega
                · obtain ⟨t44, p44, hb44⟩ := HT3.out.bld ((s + 1 : Nat) : Int)
                  have hK44 := Lib.hid (K.out.trans (hb44.mono (by have := K.out.size; omega)))
                  have P2 := Lib.hid (P2.out.below hb44)
                  have P1 := Lib.hid (P1.out.below hb44)
                  refine Rg.Any.run (some 64) rfl rfl rfl (Rg.exec_buildSlice _ _ _ rfl _ rfl (run_build1i X36 ((s + 1 : Nat) : Int))) ⟨.inl rfl, trivial⟩ ?_
                  go_frame
                  have HT3 := Lib.hid t44
                  have P3 := Lib.hid p44
                  have K := hK44
                  clear t44 p44 hb44 hK44
                  generalize X36.alloc (.cells #[.int .i64 ((s + 1 : Nat) : Int)] 3) = X44 at *
                  generalize X36.heap.size = z344 at *
                  refine Rg.Any.one (i := 3) (by kernel_rfl) ?_
                  obtain ⟨aa45, cc45, W45, r45, t45, sz45, kp45, od45, bl45⟩ := HT3.out.app1 (by have := K.out.size; omega) P1.out (by have := HL1L.out; omega) 33
                  rw [HL1L.out] at r45 t45 kp45 od45
                  have P2 := Lib.hid (kp45 _ _ P2.out)
                  have P3 := Lib.hid (kp45 _ _ P3.out)
                  have hK45 := Lib.hid (bl45 (Nat.le_refl _) K.out)
                  refine Rg.Any.run (some 53) rfl rfl rfl (Rg.exec_append _ _ _ rfl rfl rfl r45) ⟨.inl rfl, trivial⟩ ?_
                  go_frame
                  have HT3 := Lib.hid t45
                  have K := hK45
                  clear r45 t45 sz45 bl45 hK45 kp45 od45
                  refine Rg.Any.one (i := 10) (by kernel_rfl) ?_
                  obtain ⟨aa46, cc46, W46, r46, t46, sz46, kp46, bl46⟩ := HT3.out.app2 (by have := K.out.size; omega) P2.out (by have := HL2L.out; omega) 33
                  rw [HL2L.out] at r46 t46 kp46
                  have P3 := Lib.hid (kp46 _ _ P3.out)
                  have hK46 := Lib.hid (bl46 (Nat.le_refl _) K.out)
                  refine Rg.Any.run (some 60) rfl rfl rfl (Rg.exec_append _ _ _ rfl rfl rfl r46) ⟨.inl rfl, trivial⟩ ?_
                  go_frame
                  have HT3 := Lib.hid t46
                  have K := hK46
                  clear r46 t46 sz46 bl46 hK46 kp46
                  refine Rg.Any.one (i := 15) (by kernel_rfl) ?_
                  obtain ⟨aa47, cc47, W47, r47, t47, sz47, bl47⟩ := HT3.out.app3 (by have := K.out.size; omega) P3.out (by have := HL3L.out; omega) 33
                  rw [HL3L.out] at r47 t47
                  have hK47 := Lib.hid (bl47 (Nat.le_refl _) K.out)
                  refine Rg.Any.run (some 65) rfl rfl rfl (Rg.exec_append _ _ _ rfl rfl rfl r47) ⟨.inl rfl, trivial⟩ ?_
                  go_frame
                  have HT3 := Lib.hid t47
                  have K := hK47
                  clear r47 t47 sz47 bl47 hK47
                  refine Rg.Any.one (i := 16) (by kernel_rfl) (Rg.Any.run (some 4) rfl rfl rfl (Rg.exec_assign (v := .slice aa45 (N + 1) cc45) _ rfl rfl) ⟨.inl rfl, trivial⟩ ?_)
                  go_frame
                  refine Rg.Any.one (i := 17) (by kernel_rfl) (Rg.Any.run (some 5) rfl rfl rfl (Rg.exec_assign (v := .slice aa46 (N + 1) cc46) _ rfl rfl) ⟨.inl rfl, trivial⟩ ?_)
                  go_frame
                  refine Rg.Any.one (i := 18) (by kernel_rfl) (Rg.Any.run (some 6) rfl rfl rfl (Rg.exec_assign (v := .slice aa47 (N + 1) cc47) _ rfl rfl) ⟨.inl rfl, trivial⟩ ?_)
                  go_frame
                  refine Rg.Any.done (by kernel_rfl) ?_ _
                  clear hS
                  go_wp2
                  go_roundw
                  case rel =>
                    refine ⟨s + 1, by omega, by go_num, Lib.hid ?_, K⟩
                    rw [innG_succ, putG_out (by rw [HXI.out]; exact HM.out), HXI.out]
                    have hfin := HT3.out
                    rw [HL1.out, HL2.out, HL3.out] at hfin
                    rw [tree_pts, tree_prs, tree_gns]
                    exact hfin
                  case measure => simp [intOf]; omega
              · obtain ⟨t48, p48, hb48⟩ := HT3.out.bld ((s + 1 : Nat) : Int)
                have hK48 := Lib.hid (K.out.trans (hb48.mono (by have := K.out.size; omega)))
                have P2 := Lib.hid (P2.out.below hb48)
                refine Rg.Any.run (some 64) rfl rfl rfl (Rg.exec_buildSlice _ _ _ rfl _ rfl (run_build1i X35 ((s + 1 : Nat) : Int))) ⟨.inl rfl, trivial⟩ ?_
                go_frame
                have HT3 := Lib.hid t48
                have P3 := Lib.hid p48
                have K := hK48
                clear t48 p48 hb48 hK48
                generalize X35.alloc (.cells #[.int .i64 ((s + 1 : Nat) : Int)] 3) = X48 at *
                generalize X35.heap.size = z348 at *
                refine Rg.Any.one (i := 2) (by kernel_rfl) ?_
                obtain ⟨t49, p49, hb49⟩ := HT3.out.bld (x : Int)
                have hK49 := Lib.hid (K.out.trans (hb49.mono (by have := K.out.size; omega)))
                have P2 := Lib.hid (P2.out.below hb49)
                have P3 := Lib.hid (P3.out.below hb49)
                refine Rg.Any.run (some 52) rfl rfl rfl (Rg.exec_buildSlice _ _ _ rfl _ rfl (run_build1i X48 (x : Int))) ⟨.inl rfl, trivial⟩ ?_
                go_frame
                have HT3 := Lib.hid t49
                have P1 := Lib.hid p49
                have K := hK49
                clear t49 p49 hb49 hK49
                generalize X48.alloc (.cells #[.int .i64 (x : Int)] 3) = X49 at *
                generalize X48.heap.size = z149 at *
                refine Rg.Any.one (i := 3) (by kernel_rfl) ?_
                obtain ⟨aa50, cc50, W50, r50, t50, sz50, kp50, od50, bl50⟩ := HT3.out.app1 (by have := K.out.size; omega) P1.out (by have := HL1L.out; omega) 33
                rw [HL1L.out] at r50 t50 kp50 od50
                have P2 := Lib.hid (kp50 _ _ P2.out)
                have P3 := Lib.hid (kp50 _ _ P3.out)
                have hK50 := Lib.hid (bl50 (Nat.le_refl _) K.out)
                refine Rg.Any.run (some 53) rfl rfl rfl (Rg.exec_append _ _ _ rfl rfl rfl r50) ⟨.inl rfl, trivial⟩ ?_
                go_frame
                have HT3 := Lib.hid t50
                have K := hK50
                clear r50 t50 sz50 bl50 hK50 kp50 od50
                refine Rg.Any.one (i := 10) (by kernel_rfl) ?_
                obtain ⟨aa51, cc51, W51, r51, t51, sz51, kp51, bl51⟩ := HT3.out.app2 (by have := K.out.size; omega) P2.out (by have := HL2L.out; omega) 33
                rw [HL2L.out] at r51 t51 kp51
                have P3 := Lib.hid (kp51 _ _ P3.out)
                have hK51 := Lib.hid (bl51 (Nat.le_refl _) K.out)
                refine Rg.Any.run (some 60) rfl rfl rfl (Rg.exec_append _ _ _ rfl rfl rfl r51) ⟨.inl rfl, trivial⟩ ?_
                go_frame
                have HT3 := Lib.hid t51
                have K := hK51
                clear r51 t51 sz51 bl51 hK51 kp51
                refine Rg.Any.one (i := 15) (by kernel_rfl) ?_
                obtain ⟨aa52, cc52, W52, r52, t52, sz52, bl52⟩ := HT3.out.app3 (by have := K.out.size; omega) P3.out (by have := HL3L.out; omega) 33
                rw [HL3L.out] at r52 t52
                have hK52 := Lib.hid (bl52 (Nat.le_refl _) K.out)
                refine Rg.Any.run (some 65) rfl rfl rfl (Rg.exec_append _ _ _ rfl rfl rfl r52) ⟨.inl rfl, trivial⟩ ?_
                go_frame
                have HT3 := Lib.hid t52
                have K := hK52
                clear r52 t52 sz52 bl52 hK52
                refine Rg.Any.one (i := 16) (by kernel_rfl) (Rg.Any.run (some 4) rfl rfl rfl (Rg.exec_assign (v := .slice aa50 (N + 1) cc50) _ rfl rfl) ⟨.inl rfl, trivial⟩ ?_)
                go_frame
                refine Rg.Any.one (i := 17) (by kernel_rfl) (Rg.Any.run (some 5) rfl rfl rfl (Rg.exec_assign (v := .slice aa51 (N + 1) cc51) _ rfl rfl) ⟨.inl rfl, trivial⟩ ?_)
                go_frame
                refine Rg.Any.one (i := 18) (by kernel_rfl) (Rg.Any.run (some 6) rfl rfl rfl (Rg.exec_assign (v := .slice aa52 (N + 1) cc52) _ rfl rfl) ⟨.inl rfl, trivial⟩ ?_)
                go_frame
                refine Rg.Any.done (by kernel_rfl) ?_ _
                clear hS
                go_wp2
                go_roundw
                case rel =>
                  refine ⟨s + 1, by omega, by go_num, Lib.hid ?_, K⟩
                  rw [innG_succ, putG_out (by rw [HXI.out]; exact HM.out), HXI.out]
                  have hfin := HT3.out
                  rw [HL1.out, HL2.out, HL3.out] at hfin
                  rw [tree_pts, tree_prs, tree_gns]
                  exact hfin
                case measure => simp [intOf]; omega
            · obtain ⟨t53, p53, hb53⟩ := HT3.out.bld ((s + 1 : Nat) : Int)
              have C53 := Lib.hid ((hb53.cell (p := ⟨q1, k, none⟩) (lt_of_cell C.out)).trans C.out)
              have hK53 := Lib.hid (K.out.trans (hb53.mono (by have := K.out.size; omega)))
              refine Rg.Any.run (some 64) rfl rfl rfl (Rg.exec_buildSlice _ _ _ rfl _ rfl (run_build1i V ((s + 1 : Nat) : Int))) (hS _ _ C53.out) ?_
              go_frame
              have HT3 := Lib.hid t53
              have P3 := Lib.hid p53
              have K := hK53
              have C := C53
              clear t53 p53 hb53 hK53 C53
              generalize V.alloc (.cells #[.int .i64 ((s + 1 : Nat) : Int)] 3) = X53 at *
              generalize V.heap.size = z353 at *
              refine Rg.Any.all (rs := [2, 9]) (by kernel_rfl) (by simp) fun mm hmm => ?_
              simp only [List.mem_cons, List.not_mem_nil, or_false] at hmm
              rcases hmm with rfl | rfl
              · obtain ⟨t54, p54, hb54⟩ := HT3.out.bld (x : Int)
                have C54 := Lib.hid ((hb54.cell (p := ⟨q1, k, none⟩) (lt_of_cell C.out)).trans C.out)
                have hK54 := Lib.hid (K.out.trans (hb54.mono (by have := K.out.size; omega)))
                have P3 := Lib.hid (P3.out.below hb54)
                refine Rg.Any.run (some 52) rfl rfl rfl (Rg.exec_buildSlice _ _ _ rfl _ rfl (run_build1i X53 (x : Int))) (hS _ _ C54.out) ?_
                go_frame
                have HT3 := Lib.hid t54
                have P1 := Lib.hid p54
                have K := hK54
                have C := C54
                clear t54 p54 hb54 hK54 C54
                generalize X53.alloc (.cells #[.int .i64 (x : Int)] 3) = X54 at *
                generalize X53.heap.size = z154 at *
                refine Rg.Any.all (rs := [3, 9]) (by kernel_rfl) (by simp) fun mm hmm => ?_
                simp only [List.mem_cons, List.not_mem_nil, or_false] at hmm
                rcases hmm with rfl | rfl
                · obtain ⟨aa55, cc55, W55, r55, t55, sz55, kp55, od55, bl55⟩ := HT3.out.app1 (by have := K.out.size; omega) P1.out (by have := HL1L.out; omega) 33
                  rw [HL1L.out] at r55 t55 kp55 od55
                  have C55 := Lib.hid ((od55 q1 rfl k (by omega)).trans C.out)
                  have P3 := Lib.hid (kp55 _ _ P3.out)
                  have hK55 := Lib.hid (bl55 (Nat.le_refl _) K.out)
                  refine Rg.Any.run (some 53) rfl rfl rfl (Rg.exec_append _ _ _ rfl rfl rfl r55) (hS _ _ C55.out) ?_
                  go_frame
                  have HT3 := Lib.hid t55
                  have K := hK55
                  have C := C55
                  clear r55 t55 sz55 bl55 hK55 kp55 od55 C55
                  refine Rg.Any.one (i := 9) (by kernel_rfl) ?_
                  obtain ⟨t56, p56, hb56⟩ := HT3.out.bld ((e.1 : Nat) : Int)
                  have C56 := Lib.hid ((hb56.cell (p := ⟨q1, k, none⟩) (lt_of_cell C.out)).trans C.out)
                  have hK56 := Lib.hid (K.out.trans (hb56.mono (by have := K.out.size; omega)))
                  have P3 := Lib.hid (P3.out.below hb56)
                  refine Rg.Any.run (some 59) rfl rfl rfl (Rg.exec_buildSlice _ _ _ rfl _ rfl (run_build1i W55 ((e.1 : Nat) : Int))) (hS _ _ C56.out) ?_
                  go_frame
                  have HT3 := Lib.hid t56
                  have P2 := Lib.hid p56
                  have K := hK56
                  have C := C56
                  clear t56 p56 hb56 hK56 C56
                  generalize W55.alloc (.cells #[.int .i64 ((e.1 : Nat) : Int)] 3) = X56 at *
                  generalize W55.heap.size = z256 at *
                  refine Rg.Any.one (i := 10) (by kernel_rfl) ?_
                  obtain ⟨aa57, cc57, W57, r57, t57, sz57, kp57, bl57⟩ := HT3.out.app2 (by have := K.out.size; omega) P2.out (by have := HL2L.out; omega) 33
                  rw [HL2L.out] at r57 t57 kp57
                  have P3 := Lib.hid (kp57 _ _ P3.out)
                  have hK57 := Lib.hid (bl57 (Nat.le_refl _) K.out)
                  refine Rg.Any.run (some 60) rfl rfl rfl (Rg.exec_append _ _ _ rfl rfl rfl r57) ⟨.inl rfl, trivial⟩ ?_
                  go_frame
                  have HT3 := Lib.hid t57
                  have K := hK57
                  clear r57 t57 sz57 bl57 hK57 kp57
                  refine Rg.Any.one (i := 15) (by kernel_rfl) ?_
                  obtain ⟨aa58, cc58, W58, r58, t58, sz58, bl58⟩ := HT3.out.app3 (by have := K.out.size; omega) P3.out (by have := HL3L.out; omega) 33
                  rw [HL3L.out] at r58 t58
                  have hK58 := Lib.hid (bl58 (Nat.le_refl _) K.out)
                  refine Rg.Any.run (some 65) rfl rfl rfl (Rg.exec_append _ _ _ rfl rfl rfl r58) ⟨.inl rfl, trivial⟩ ?_
                  go_frame
                  have HT3 := Lib.hid t58
                  have K := hK58
                  clear r58 t58 sz58 bl58 hK58
                  refine Rg.Any.one (i := 16) (by kernel_rfl) (Rg.Any.run (some 4) rfl rfl rfl (Rg.exec_assign (v := .slice aa55 (N + 1) cc55) _ rfl rfl) ⟨.inl rfl, trivial⟩ ?_)
                  go_frame
                  refine Rg.Any.one (i := 17) (by kernel_rfl) (Rg.Any.run (some 5) rfl rfl rfl (Rg.exec_assign (v := .slice aa57 (N + 1) cc57) _ rfl rfl) ⟨.inl rfl, trivial⟩ ?_)
                  go_frame
                  refine Rg.Any.one (i := 18) (by kernel_rfl) (Rg.Any.run (some 6) rfl rfl rfl (Rg.exec_assign (v := .slice aa58 (N + 1) cc58) _ rfl rfl) ⟨.inl rfl, trivial⟩ ?_)
                  go_frame
                  refine Rg.Any.done (by kernel_rfl) ?_ _
                  clear hS
                  go_wp2
                  go_roundw
                  case rel =>
                    refine ⟨s + 1, by omega, by go_num, Lib.hid ?_, K⟩
                    rw [innG_succ, putG_out (by rw [HXI.out]; exact HM.out), HXI.out]
                    have hfin := HT3.out
                    rw [HL1.out, HL2.out, HL3.out] at hfin
                    rw [tree_pts, tree_prs, tree_gns]
                    exact hfin
                  case measure => simp [intOf]; omega
                · obtain ⟨t59, p59, hb59⟩ := HT3.out.bld ((e.1 : Nat) : Int)
                  have C59 := Lib.hid ((hb59.cell (p := ⟨q1, k, none⟩) (lt_of_cell C.out)).trans C.out)
                  have hK59 := Lib.hid (K.out.trans (hb59.mono (by have := K.out.size; omega)))
                  have P3 := Lib.hid (P3.out.below hb59)
                  have P1 := Lib.hid (P1.out.below hb59)
                  refine Rg.Any.run (some 59) rfl rfl rfl (Rg.exec_buildSlice _ _ _ rfl _ rfl (run_build1i X54 ((e.1 : Nat) : Int))) (hS _ _ C59.out) ?_
                  go_frame
                  have HT3 := Lib.hid t59
                  have P2 := Lib.hid p59
                  have K := hK59
                  have C := C59
                  clear t59 p59 hb59 hK59 C59
                  generalize X54.alloc (.cells #[.int .i64 ((e.1 : Nat) : Int)] 3) = X59 at *
                  generalize X54.heap.size = z259 at *
                  refine Rg.Any.one (i := 3) (by kernel_rfl) ?_
                  obtain ⟨aa60, cc60, W60, r60, t60, sz60, kp60, od60, bl60⟩ := HT3.out.app1 (by have := K.out.size; omega) P1.out (by have := HL1L.out; omega) 33
                  rw [HL1L.out] at r60 t60 kp60 od60
                  have P3 := Lib.hid (kp60 _ _ P3.out)
                  have P2 := Lib.hid (kp60 _ _ P2.out)
                  have hK60 := Lib.hid (bl60 (Nat.le_refl _) K.out)
                  refine Rg.Any.run (some 53) rfl rfl rfl (Rg.exec_append _ _ _ rfl rfl rfl r60) ⟨.inl rfl, trivial⟩ ?_
                  go_frame
                  have HT3 := Lib.hid t60
                  have K := hK60
                  clear r60 t60 sz60 bl60 hK60 kp60 od60
                  refine Rg.Any.one (i := 10) (by kernel_rfl) ?_
                  obtain ⟨aa61, cc61, W61, r61, t61, sz61, kp61, bl61⟩ := HT3.out.app2 (by have := K.out.size; omega) P2.out (by have := HL2L.out; omega) 33
                  rw [HL2L.out] at r61 t61 kp61
                  have P3 := Lib.hid (kp61 _ _ P3.out)
                  have hK61 := Lib.hid (bl61 (Nat.le_refl _) K.out)
                  refine Rg.Any.run (some 60) rfl rfl rfl (Rg.exec_append _ _ _ rfl rfl rfl r61) ⟨.inl rfl, trivial⟩ ?_
                  go_frame
                  have HT3 := Lib.hid t61
                  have K := hK61
                  clear r61 t61 sz61 bl61 hK61 kp61
                  refine Rg.Any.one (i := 15) (by kernel_rfl) ?_
                  obtain ⟨aa62, cc62, W62, r62, t62, sz62, bl62⟩ := HT3.out.app3 (by have := K.out.size; omega) P3.out (by have := HL3L.out; omega) 33
                  rw [HL3L.out] at r62 t62
                  have hK62 := Lib.hid (bl62 (Nat.le_refl _) K.out)
                  refine Rg.Any.run (some 65) rfl rfl rfl (Rg.exec_append _ _ _ rfl rfl rfl r62) ⟨.inl rfl, trivial⟩ ?_
                  go_frame
                  have HT3 := Lib.hid t62
                  have K := hK62
                  clear r62 t62 sz62 bl62 hK62
                  refine Rg.Any.one (i := 16) (by kernel_rfl) (Rg.Any.run (some 4) rfl rfl rfl (Rg.exec_assign (v := .slice aa60 (N + 1) cc60) _ rfl rfl) ⟨.inl rfl, trivial⟩ ?_)
                  go_frame
                  refine Rg.Any.one (i := 17) (by kernel_rfl) (Rg.Any.run (some 5) rfl rfl rfl (Rg.exec_assign (v := .slice aa61 (N + 1) cc61) _ rfl rfl) ⟨.inl rfl, trivial⟩ ?_)
                  go_frame
                  refine Rg.Any.one (i := 18) (by kernel_rfl) (Rg.Any.run (some 6) rfl rfl rfl (Rg.exec_assign (v := .slice aa62 (N + 1) cc62) _ rfl rfl) ⟨.inl rfl, trivial⟩ ?_)
                  go_frame
                  refine Rg.Any.done (by kernel_rfl) ?_ _
                  clear hS
                  go_wp2
                  go_roundw
                  case rel =>
                    refine ⟨s + 1, by omega, by go_num, Lib.hid ?_, K⟩
                    rw [innG_succ, putG_out (by rw [HXI.out]; exact HM.out), HXI.out]
                    have hfin := HT3.out
                    rw [HL1.out, HL2.out, HL3.out] at hfin
                    rw [tree_pts, tree_prs, tree_gns]
                    exact hfin
                  case measure => simp [intOf]; omega
              · obtain ⟨t63, p63, hb63⟩ := HT3.out.bld ((e.1 : Nat) : Int)
                have C63 := Lib.hid ((hb63.cell (p := ⟨q1, k, none⟩) (lt_of_cell C.out)).trans C.out)
                have hK63 := Lib.hid (K.out.trans (hb63.mono (by have := K.out.size; omega)))
                have P3 := Lib.hid (P3.out.below hb63)
                refine Rg.Any.run (some 59) rfl rfl rfl (Rg.exec_buildSlice _ _ _ rfl _ rfl (run_build1i X53 ((e.1 : Nat) : Int))) (hS _ _ C63.out) ?_
                go_frame
                have HT3 := Lib.hid t63
                have P2 := Lib.hid p63
                have K := hK63
                have C := C63
                clear t63 p63 hb63 hK63 C63
                generalize X53.alloc (.cells #[.int .i64 ((e.1 : Nat) : Int)] 3) = X63 at *
                generalize X53.heap.size = z263 at *
                refine Rg.Any.one (i := 2) (by kernel_rfl) ?_
                obtain ⟨t64, p64, hb64⟩ := HT3.out.bld (x : Int)
                have hK64 := Lib.hid (K.out.trans (hb64.mono (by have := K.out.size; omega)))
                have P3 := Lib.hid (P3.out.below hb64)
                have P2 := Lib.hid (P2.out.below hb64)
                refine Rg.Any.run (some 52) rfl rfl rfl (Rg.exec_buildSlice _ _ _ rfl _ rfl (run_build1i X63 (x : Int))) ⟨.inl rfl, trivial⟩ ?_
                go_frame
                have HT3 := Lib.hid t64
                have P1 := Lib.hid p64
                have K := hK64
                clear t64 p64 hb64 hK64
                generalize X63.alloc (.cells #[.int .i64 (x : Int)] 3) = X64 at *
                generalize X63.heap.size = z164 at *
                refine Rg.Any.one (i := 3) (by kernel_rfl) ?_
                obtain ⟨aa65, cc65, W65, r65, t65, sz65, kp65, od65, bl65⟩ := HT3.out.app1 (by have := K.out.size; omega) P1.out (by have := HL1L.out; omega) 33
                rw [HL1L.out] at r65 t65 kp65 od65
                have P3 := Lib.hid (kp65 _ _ P3.out)
                have P2 := Lib.hid (kp65 _ _ P2.out)
                have hK65 := Lib.hid (bl65 (Nat.le_refl _) K.out)
                refine Rg.Any.run (some 53) rfl rfl rfl (Rg.exec_append _ _ _ rfl rfl rfl r65) ⟨.inl rfl, trivial⟩ ?_
                go_frame
                have HT3 := Lib.hid t65
                have K := hK65
                clear r65 t65 sz65 bl65 hK65 kp65 od65
                refine Rg.Any.one (i := 10) (by kernel_rfl) ?_
                obtain ⟨aa66, cc66, W66, r66, t66, sz66, kp66, bl66⟩ := HT3.out.app2 (by have := K.out.size; omega) P2.out (by have := HL2L.out; omega) 33
                rw [HL2L.out] at r66 t66 kp66
                have P3 := Lib.hid (kp66 _ _ P3.out)
                have hK66 := Lib.hid (bl66 (Nat.le_refl _) K.out)
                refine Rg.Any.run (some 60) rfl rfl rfl (Rg.exec_append _ _ _ rfl rfl rfl r66) ⟨.inl rfl, trivial⟩ ?_
                go_frame
                have HT3 := Lib.hid t66
                have K := hK66
                clear r66 t66 sz66 bl66 hK66 kp66
                refine Rg.Any.one (i := 15) (by kernel_rfl) ?_
                obtain ⟨aa67, cc67, W67, r67, t67, sz67, bl67⟩ := HT3.out.app3 (by have := K.out.size; omega) P3.out (by have := HL3L.out; omega) 33
                rw [HL3L.out] at r67 t67
                have hK67 := Lib.hid (bl67 (Nat.le_refl _) K.out)
                refine Rg.Any.run (some 65) rfl rfl rfl (Rg.exec_append _ _ _ rfl rfl rfl r67) ⟨.inl rfl, trivial⟩ ?_
                go_frame
                have HT3 := Lib.hid t67
                have K := hK67
                clear r67 t67 sz67 bl67 hK67
                refine Rg.Any.one (i := 16) (by kernel_rfl) (Rg.Any.run (some 4) rfl rfl rfl (Rg.exec_assign (v := .slice aa65 (N + 1) cc65) _ rfl rfl) ⟨.inl rfl, trivial⟩ ?_)
                go_frame
                refine Rg.Any.one (i := 17) (by kernel_rfl) (Rg.Any.run (some 5) rfl rfl rfl (Rg.exec_assign (v := .slice aa66 (N + 1) cc66) _ rfl rfl) ⟨.inl rfl, trivial⟩ ?_)
                go_frame
                refine Rg.Any.one (i := 18) (by kernel_rfl) (Rg.Any.run (some 6) rfl rfl rfl (Rg.exec_assign (v := .slice aa67 (N + 1) cc67) _ rfl rfl) ⟨.inl rfl, trivial⟩ ?_)
                go_frame
                refine Rg.Any.done (by kernel_rfl) ?_ _
                clear hS
                go_wp2
                go_roundw
                case rel =>
                  refine ⟨s + 1, by omega, by go_num, Lib.hid ?_, K⟩
                  rw [innG_succ, putG_out (by rw [HXI.out]; exact HM.out), HXI.out]
                  have hfin := HT3.out
                  rw [HL1.out, HL2.out, HL3.out] at hfin
                  rw [tree_pts, tree_prs, tree_gns]
                  exact hfin
                case measure => simp [intOf]; omega
        · obtain rfl : s = gs.length := by omega
          go_wp2
          go_roundw
          case rel => exact ⟨k + 1, by have := trI_pre gs p k; obtain ⟨r, hr⟩ := this; rw [hr, List.length_append]; omega, by go_num, Lib.hid (by rw [hst.out, ← he.out]; exact hs.out), hbel⟩
          case measure => simp [intOf]; omega
    · have hkk : (trI gs p k).length ≤ k := by omega
      have hT := tree_at (D := D) hkk (by omega)
      have HT := Lib.hid hs.out
      clear hs
      go_wp2
      refine bodyPost_ret (results4 rfl _ rfl rfl rfl rfl _) rfl ⟨_, _, _, rfl, by rw [hT]; exact HT.out.ints1 (by rw [Ma.len_ofN, len_pts]; omega), by rw [hT]; exact HT.out.ints2 (by simp [prs]; omega), by rw [hT]; exact HT.out.ints3 (by simp [gns]; omega), Hba.out.trans ((HB3.out.trans hbel.out).mono (by omega))⟩
end Go.Proofs.Ytojbijkljnohoaa

