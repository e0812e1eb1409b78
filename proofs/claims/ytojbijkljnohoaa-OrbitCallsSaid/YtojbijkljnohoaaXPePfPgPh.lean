/- Lemmas and contracts on the way to the statement; no condition of their own beyond those written. -/
import Derived.Test.YtojbijkljnohoaaXPaPbPcPd
import Derived.Test.YtojbijkljnohoaaXRh
set_option linter.unusedVariables false
namespace Go.Proofs.Ytojbijkljnohoaa
open Go.RowKit
open Go.Proofs
attribute [local irreducible] Go.Calls

theorem slPerm : Rg.SlT Try.prog 62 3 (.int .i64 0) 8 := ⟨Try.underlying62, infoInt, rfl, by decide⟩

def ivs (l : List Nat) : List Value := l.map fun (x : Nat) => Value.int .i64 (x : Int)
theorem ivs_snoc (l : List Nat) (x : Nat) : ivs (l ++ [x]) = ivs l ++ [.int .i64 (x : Int)] := by simp [ivs]

set_option maxHeartbeats 400000 in
theorem kitOne_any (n : Nat) (w : World) (hn : n ≤ 1000) :
    Calls Try.prog 64 #[.int .i64 n] w fun e w' => ∃ v, e = .returned v ∧ Rg.NPF w w' v (Ma.oneN n) ∧ Below w.heap.size w w' := by
  go_enter Try.func64, Try.ntmps64
  go_wp2
  go_loopw [3, 4] (fun v i wr => ∃ k : Nat, k ≤ n ∧ i = .int .i64 k ∧ Hid (wr.ownsRow w.heap.size 3 1 v k (ivs (Ma.oneN k))) ∧ Hid (Below w.heap.size w wr)) (fun _ i _ => n - (intOf i).toNat)
  case atStart => exact ⟨0, by omega, rfl, World.ownsRow_nil _ _ _ _, Below.refl _ _⟩
  case round =>
    obtain ⟨k, hk, rfl, hs, hbel⟩ := hrel
    by_cases hlt : k < n
    · go_wp2_with (at_builtin; refine Rg.app1 rfl _ _ 62 rfl slPerm hs.out hbel.out _ (by simp [Value.oneCell']) rfl rfl (by omega) ?_; intro v' w1 hs1 hb1 _ _ _)
      go_roundw
      case rel => exact ⟨k + 1, by omega, by go_num, by rw [show Ma.oneN (k + 1) = Ma.oneN k ++ [k] from List.range_succ, ivs_snoc]; exact hs1, hb1⟩
      case measure => simp [intOf]; omega
    · obtain rfl : k = n := by omega
      go_wp2
      go_ret
      exact ⟨_, rfl, ⟨Rg.NP.of_row hs.out (by omega), Rg.Fresh.of_row hs.out⟩, hbel.out⟩

theorem mulN_take_succ {a b : List Nat} {k : Nat} (hk : k < a.length) : Ma.mulN (a.take (k + 1)) b = Ma.mulN (a.take k) b ++ [b.getD a[k] 0] := by
  rw [List.take_succ_eq_append_getElem hk]; unfold Ma.mulN; rw [List.map_append]; rfl

set_option maxHeartbeats 1000000 in
theorem kitMul_any (va vb : Value) (a b : List Nat) (w : World) (h : Rg.NP w va a) (h' : Rg.NP w vb b) (hab : ∀ x ∈ a, x < b.length) (hn : a.length ≤ 1000) :
    Calls Try.prog 63 #[va, vb] w fun e w' => ∃ v, e = .returned v ∧ Rg.NPF w w' v (Ma.mulN a b) ∧ Below w.heap.size w w' := by
  obtain ⟨ad, cap, rfl, hc, _, _, hcell⟩ := h.shape
  obtain ⟨ad2, cap2, rfl, hc2, hm2, _, hcell2⟩ := h'.shape
  have H1 := Lib.hid hcell
  have H2 := Lib.hid hcell2
  clear hcell hcell2 h h'
  go_enter Try.func63, Try.ntmps63
  go_wp2
  go_loopw [5, 6] (fun v i wr => ∃ k : Nat, k ≤ a.length ∧ i = .int .i64 k ∧ Hid (wr.ownsRow w.heap.size 3 1 v k (ivs (Ma.mulN (a.take k) b))) ∧ Hid (Below w.heap.size w wr)) (fun _ i _ => a.length - (intOf i).toNat)
  case atStart => exact ⟨0, by omega, rfl, World.ownsRow_nil _ _ _ _, Below.refl _ _⟩
  case round =>
    obtain ⟨k, hk, rfl, hs, hbel⟩ := hrel
    by_cases hlt : k < a.length
    · obtain ⟨b1, o1, rfl, hb1, hr1⟩ := H1.out (by omega)
      have e1 := (hbel.out.cell (p := ⟨b1, o1 + k, none⟩) hb1).trans (hr1 k hlt)
      have hx := hab _ (List.getElem_mem hlt)
      have hstep := mulN_take_succ (b := b) hlt
      have hg := Ma.getD_lt hx
      generalize a[k] = x at e1 hx hstep hg
      have Hstep := Lib.hid hstep
      obtain ⟨b2, o2, rfl, hb2, hr2⟩ := H2.out (by omega)
      have e2 := (hbel.out.cell (p := ⟨b2, o2 + x, none⟩) hb2).trans (hr2 x hx)
      generalize b[x] = y at e2 hg
      have Hg := Lib.hid hg
      clear hg hstep hr1 hr2
      go_wp2_with (at_builtin; refine Rg.app1 rfl _ _ 62 rfl slPerm hs.out hbel.out _ (by simp [Value.oneCell']) rfl rfl (by omega) ?_; intro v' w1 hs1 hb1 _ _ _)
      go_roundw
      case rel => exact ⟨k + 1, by omega, by go_num, by rw [Hstep.out, Hg.out, ivs_snoc]; exact hs1, hb1⟩
      case measure => simp [intOf]; omega
    · obtain rfl : k = a.length := by omega
      go_wp2
      go_ret
      exact ⟨_, rfl, ⟨Rg.NP.of_row (n := a.length) (by have := hs.out; rwa [List.take_length] at this) (by omega), Rg.Fresh.of_row hs.out⟩, hbel.out⟩

set_option maxHeartbeats 400000 in
theorem kitInv_any (v : Value) (a : List Nat) (w : World) (h : Rg.NP w v a) (ha : Ma.okN a) (hn : a.length ≤ 1000) :
    Calls Try.prog 86 #[v] w fun e w' => ∃ v, e = .returned v ∧ Rg.NPF w w' v (Ma.invN a) ∧ Below w.heap.size w w' := by
  obtain ⟨ad, cap, rfl, hc, _, _, hcell⟩ := h.shape
  have Hr := Lib.hid hcell
  clear hcell h
  have hmk := mkPerm a.length (by omega) w
  have hrow := Lib.hid (World.rowIs_made w (.int .i64 0) a.length 3)
  go_enter Try.func86, Try.ntmps86
  go_wp2
  clear hmk
  go_loopw [4] (fun i wr => ∃ k : Nat, k ≤ a.length ∧ i = .int .i64 k ∧ Hid (wr.rowIs w.heap.size 3 a.length (fun j => .int .i64 (if j ∈ a.take k then ((a.idxOf j : Nat) : Int) else 0))) ∧ Below w.heap.size w wr) (fun i _ => a.length - (intOf i).toNat)
  case atStart => exact ⟨0, by omega, rfl, hrow.out.congr (fun i hi => by simp), (Below.refl _ _).alloc (Nat.le_refl _) _⟩
  case round =>
    obtain ⟨k, hk, rfl, hs, hbel⟩ := hrel
    obtain ⟨hc, hf⟩ := Rg.bcell hbel
    by_cases hlt : k < a.length
    · obtain ⟨b, o, rfl, hb, hr⟩ := Hr.out (by omega)
      have e0 : wr.cell? ⟨b, o + k, none⟩ = some (.int .i64 ((a[k] : Nat) : Int)) := (hc b (o + k) hb).trans (hr k hlt)
      have hak : a[k] < a.length := Ma.okN_lt ha hlt
      have hix := Ma.idx_get ha hlt
      have hmem : ∀ i, i ∈ a.take (k + 1) ↔ (i ∈ a.take k ∨ i = a[k]) := fun i => by rw [List.take_succ_eq_append_getElem hlt, List.mem_append, List.mem_singleton]
      generalize hx : a[k] = x at *
      have Hix := Lib.hid hix
      have Hmem := Lib.hid hmem
      clear hx hc hf hix hmem hr
      have c1 := hs.out.cell hak
      have f1 := hs.out.frozen x
      generalize (Value.int .i64 (if x ∈ a.take k then ((a.idxOf x : Nat) : Int) else 0)) = u0 at c1
      go_wp2
      go_roundw
      case rel =>
        refine ⟨k + 1, by omega, by go_num, ?_, hbel.setCell (Nat.le_refl _) _⟩
        refine (hs.out.set x _).congr fun i hi => ?_
        by_cases e : i = x
        · subst e; rw [if_pos rfl, if_pos ((Hmem.out i).2 (.inr rfl)), Hix.out]
        · rw [if_neg e]
          by_cases e2 : i ∈ a.take k
          · rw [if_pos e2, if_pos ((Hmem.out i).2 (.inl e2))]
          · rw [if_neg e2, if_neg (fun e3 => ((Hmem.out i).1 e3).elim e2 e)]
      case measure => simp [intOf]; omega
    · obtain rfl : k = a.length := by omega
      go_wp2
      go_ret
      refine ⟨_, rfl, ⟨Rg.NP.of_rowIs hs.out (by rw [Ma.len_invN]) (by omega) (fun i hi => ?_), Rg.Fresh.mk _ _ _ _⟩, by assumption⟩
      rw [Ma.get_invN]
      rw [Ma.len_invN] at hi
      rw [List.take_of_length_le (Nat.le_refl _), if_pos (Ma.okN_mem ha hi)]
end Go.Proofs.Ytojbijkljnohoaa

namespace Go.Proofs.Ytojbijkljnohoaa
open Go.RowKit
open Go.Proofs
attribute [local irreducible] Go.Calls

theorem infoBool : (Try.prog.info? 4).map (fun i => (i.zero, i.size, i.bytes)) = some (some (.bool false), 1, 1) := by kernel_rfl
theorem mkBools (n : Nat) (hn : n ≤ 1000000) (w : World) : (Instr.makeSlice 101 (.int .i64 (n : Int)) (.int .i64 (n : Int))).run Try.prog w = .ok (.slice (some ⟨w.heap.size, 0, none⟩) n n) (w.alloc (.cells (madeCells #[.bool false] n) 4)) :=
  run_make_row' 101 4 (.bool false) 1 Try.underlying101 infoBool rfl .i64 .i64 n (by omega) (by omega) w

set_option maxHeartbeats 1000000 in
theorem kitFine_any (v : Value) (l : List Int) (w : World) (h : Rg.Ints w v l) (h1 : 1 ≤ l.length) (h2 : l.length ≤ 1000) :
    Calls Try.prog 110 #[v, .int .i64 l.length] w fun e w' => e = .returned (.bool (decide (Ma.okL l))) ∧ Below w.heap.size w w' := by
  obtain ⟨a, cap, rfl, hc, hm, _, hcell⟩ := h.shape
  obtain ⟨b, o, rfl, hb, hr⟩ := hcell (by omega)
  have Hr := Lib.hid hr
  clear hr hcell h
  have hmk := mkBools l.length (by omega) w
  have hrow := Lib.hid (World.rowIs_made w (.bool false) l.length 4)
  have hne : ((l.length : Int) != (l.length : Int)) = false := by simp
  generalize hD : decide (Ma.okL l) = D
  have HD := Lib.hid hD
  clear hD
  go_enter Try.func110, Try.ntmps110
  go_wp2
  clear hmk
  go_loopw [6] (fun i wr => ∃ k : Nat, k ≤ l.length ∧ i = .int .i64 k ∧ Hid (Ma.preL l k) ∧ Hid (wr.rowIs w.heap.size 4 l.length (fun j => .bool (decide ((j : Int) ∈ l.take k)))) ∧ Below w.heap.size w wr) (fun i _ => l.length - (intOf i).toNat)
  case atStart => exact ⟨0, by omega, rfl, Ma.pre0 l, hrow.out.congr (fun i hi => by simp), (Below.refl _ _).alloc (Nat.le_refl _) _⟩
  case round =>
    obtain ⟨k, hk, rfl, hp, hs, hbel⟩ := hrel
    obtain ⟨hc, hf⟩ := Rg.bcell hbel
    by_cases hlt : k < l.length
    · have e0 : wr.cell? ⟨b, o + k, none⟩ = some (.int .i64 l[k]) := (hc b (o + k) hb).trans (Hr.out k hlt)
      have hB : b < wr.heap.size := Nat.lt_of_lt_of_le hb hbel.size
      generalize hx : l[k] = x at e0
      have Hx := Lib.hid hx
      clear hx hc hf
      by_cases h0 : x < 0
      · go_wp2
        go_ret
        exact ⟨Rg.ret_bool (by rw [← HD.out]; exact (decide_eq_false (Ma.bad_lo hlt (by rw [Hx.out]; exact h0))).symm), by assumption⟩
      by_cases h3 : x < l.length
      · obtain ⟨n, rfl⟩ := Int.eq_ofNat_of_zero_le (by omega : 0 ≤ x)
        have hn : n < l.length := by omega
        have c1 := hs.out.cell hn
        have f1 := hs.out.frozen n
        cases hd : decide ((n : Int) ∈ l.take k)
        · rw [hd] at c1
          go_wp2
          go_roundw
          case rel =>
            refine ⟨k + 1, by omega, by go_num, Ma.pre_step hp.out hlt (by rw [Hx.out]; omega) (by rw [Hx.out]; omega) (by rw [Hx.out]; exact of_decide_eq_false hd), ?_, hbel.setCell (Nat.le_refl _) _⟩
            refine (hs.out.set n _).congr fun i hi => ?_
            rw [Ma.mem_take_succ hlt, Hx.out]
            by_cases e : i = n
            · simp [e]
            · rw [if_neg e, if_neg (by omega)]
          case measure => simp [intOf]; omega
        · rw [hd] at c1
          go_wp2
          go_ret
          exact ⟨Rg.ret_bool (by rw [← HD.out]; exact (decide_eq_false (Ma.bad_two hlt (by rw [Hx.out]; exact of_decide_eq_true hd))).symm), by assumption⟩
      · go_wp2
        go_ret
        exact ⟨Rg.ret_bool (by rw [← HD.out]; exact (decide_eq_false (Ma.bad_hi hlt (by rw [Hx.out]; omega))).symm), by assumption⟩
    · obtain rfl : k = l.length := by omega
      go_wp2
      go_ret
      exact ⟨Rg.ret_bool (by rw [← HD.out]; exact (decide_eq_true (Ma.pre_end hp.out)).symm), by assumption⟩

set_option maxHeartbeats 400000 in
theorem refPermCheck_any (v : Value) (l : List Int) (w : World) (h : Rg.Ints w v l) :
    Calls Try.prog 72 #[v] w fun e w' => e = .returned (.int .i64 (Ma.pchk l)) ∧ Below w.heap.size w w' := by
  have hv := h
  by_cases h1 : 1 ≤ l.length
  · by_cases h2 : l.length ≤ 64
    · obtain ⟨a, cap, rfl, hc, hm, _, hcell⟩ := h.shape
      clear hcell h
      cases hD : decide (Ma.okL l)
      all_goals
        have HD := Lib.hid hD
        have hk := kitFine_any _ l w hv h1 (by omega)
        rw [hD] at hk
        clear hD
        go_enter Try.func72, Try.ntmps72
        go_wp2_with (go_at_call 110; refine hk.mono ?_; rintro e w1 ⟨rfl, hb1⟩)
        go_ret
      · exact ⟨ret_i (Ma.pchk_bad h1 h2 (of_decide_eq_false HD.out)), by assumption⟩
      · exact ⟨ret_i (Ma.pchk_ok h1 h2 (of_decide_eq_true HD.out)), by assumption⟩
    · have hp := Lib.hid (Ma.pchk_out (l := l) (by omega))
      obtain ⟨a, cap, rfl, hc, hm, _, hcell⟩ := h.shape
      clear hcell h hv
      have h64 : 64 < l.length := by omega
      go_enter Try.func72, Try.ntmps72
      go_wp2
      go_ret
      exact ⟨ret_i hp.out, Below.refl _ _⟩
  · have hp := Lib.hid (Ma.pchk_out (l := l) (by omega))
    obtain ⟨a, cap, rfl, hc, hm, _, hcell⟩ := h.shape
    clear hcell h hv
    have h64 : l.length < 1 := by omega
    go_enter Try.func72, Try.ntmps72
    go_wp2
    go_ret
    exact ⟨ret_i hp.out, Below.refl _ _⟩
end Go.Proofs.Ytojbijkljnohoaa

namespace Go.Proofs.Ytojbijkljnohoaa
open Go.RowKit
open Go.Proofs
attribute [local irreducible] Go.Calls

set_option maxHeartbeats 1000000 in
theorem ref07Check_in (gv : Value) (d : Int) (ll : List (List Int)) (w : World) (h : Rg.Rows w gv ll) (h1 : 1 ≤ d) (h2 : d ≤ 64) (h3 : ll.length ≤ 16) :
    Calls Try.prog 27 #[.agg #[.int .i64 d, gv]] w fun e w' => e = .returned (.int .i64 (Ma.gck d ll)) ∧ Below w.heap.size w w' := by
  obtain ⟨ad, cap, rfl, hc, hm, _, hcell⟩ := h.shape
  have Hr := Lib.hid hcell
  clear hcell h
  go_enter Try.func27, Try.ntmps27
  go_wp2
  go_loopw [3] (fun i wr => ∃ k : Nat, k ≤ ll.length ∧ i = .int .i64 k ∧ Hid (Ma.gck d (ll.drop k) = Ma.gck d ll) ∧ Hid (Below (w.heap.size + 1) (w.alloc (.cells #[.int .i64 d, .slice ad ll.length cap] 24)) wr)) (fun i _ => ll.length - (intOf i).toNat)
  case atStart => exact ⟨0, by omega, rfl, rfl, Below.refl _ _⟩
  case round =>
    obtain ⟨k, hk, rfl, hp, hbel⟩ := hrel
    have hb0 : Below w.heap.size w wr := ((Below.refl _ w).alloc (Nat.le_refl _) _).trans (hbel.out.mono (by omega))
    have cd : wr.cell? ⟨w.heap.size, 0, none⟩ = some (.int .i64 d) := by
      rw [hbel.out.cell (by show w.heap.size < _; omega), Rg.cellNew]; rfl
    have cg : wr.cell? ⟨w.heap.size, 1, none⟩ = some (.slice ad ll.length cap) := by
      rw [hbel.out.cell (by show w.heap.size < _; omega), Rg.cellNew]; rfl
    have hsz : w.heap.size < wr.heap.size := by have := hbel.out.size; simp at this; omega
    by_cases hlt : k < ll.length
    · obtain ⟨b, o, rfl, hb, hr⟩ := Hr.out (by omega)
      obtain ⟨u, eu, hu⟩ := hr k hlt
      have e0 : wr.cell? ⟨b, o + k, none⟩ = some u := (hb0.cell (p := ⟨b, o + k, none⟩) hb).trans eu
      have hu' := hu.below hb0
      have hbr : b < wr.heap.size := Nat.lt_of_lt_of_le hb hb0.size
      obtain ⟨n, a1, c1, hn, rfl, hl⟩ := hu.len
      have Hn := Lib.hid hn
      clear hr eu hu hn
      by_cases hz : Ma.pchk ll[k] = 0
      · have Hz := Lib.hid hz
        have hbb : ((Ma.pchk ll[k]) != 0) = false := by rw [hz]; rfl
        clear hz
        by_cases hd : (n : Int) = d
        · have hdd : ((n : Int) != d) = false := by rw [hd]; simp
          have Hd := Lib.hid hd
          clear hd
          go_wp2_with (go_at_call 72; refine (refPermCheck_any _ _ _ hu').mono ?_; rintro e w1 ⟨rfl, hbel1⟩; have cd1 := (hbel1.cell (p := ⟨w.heap.size, 0, none⟩) hsz).trans cd; have cg1 := (hbel1.cell (p := ⟨w.heap.size, 1, none⟩) hsz).trans cg; have e1 := (hbel1.cell (p := ⟨b, o + k, none⟩) hbr).trans e0)
          go_quiet (fail)
          go_wp2
          go_roundw
          case rel => exact ⟨k + 1, by omega, by go_num, (Ma.gck_next hlt Hz.out (by rw [Hn.out]; exact Hd.out)).symm.trans hp.out, hbel.out.trans (Rg.drewN (hbel1.mono hsz) _)⟩
          case measure => simp [intOf]; omega
        · have hdd : ((n : Int) != d) = true := by rw [bne_iff_ne]; exact hd
          have Hd := Lib.hid hd
          clear hd
          go_wp2_with (go_at_call 72; refine (refPermCheck_any _ _ _ hu').mono ?_; rintro e w1 ⟨rfl, hbel1⟩; have cd1 := (hbel1.cell (p := ⟨w.heap.size, 0, none⟩) hsz).trans cd; have cg1 := (hbel1.cell (p := ⟨w.heap.size, 1, none⟩) hsz).trans cg; have e1 := (hbel1.cell (p := ⟨b, o + k, none⟩) hbr).trans e0)
          go_quiet (fail)
          go_wp2
          go_ret
          exact ⟨ret_i (by rw [← hp.out]; exact Ma.gck_len hlt Hz.out (by rw [Hn.out]; exact Hd.out)), Rg.drewN (Rg.acc hb0 hbel1) _⟩
      · have Hz := Lib.hid hz
        have hbb : ((Ma.pchk ll[k]) != 0) = true := by rw [bne_iff_ne]; exact hz
        clear hz
        go_wp2_with (go_at_call 72; refine (refPermCheck_any _ _ _ hu').mono ?_; rintro e w1 ⟨rfl, hbel1⟩)
        go_ret
        exact ⟨ret_i (by rw [← hp.out]; exact Ma.gck_bad hlt Hz.out), Rg.acc hb0 hbel1⟩
    · go_wp2
      go_ret
      exact ⟨ret_i (by rw [← hp.out]; exact Ma.gck_end (by omega)), hb0⟩
theorem ref07Check_any (gv : Value) (d : Int) (ll : List (List Int)) (w : World) (h : Rg.Rows w gv ll) :
    Calls Try.prog 27 #[.agg #[.int .i64 d, gv]] w fun e w' => e = .returned (.int .i64 (Ma.gchk d ll)) ∧ Below w.heap.size w w' := by
  by_cases h1 : 1 ≤ d
  · by_cases h2 : d ≤ 64
    · by_cases h3 : ll.length ≤ 16
      · rw [Ma.gchk_in h1 h2 h3]; exact ref07Check_in gv d ll w h h1 h2 h3
      · have hg := Lib.hid (Ma.gchk_long h1 h2 h3)
        obtain ⟨ad, cap, rfl, hc, hm, _, hcell⟩ := h.shape
        clear hcell h
        have h3' : 16 < ll.length := by omega
        clear h3
        go_enter Try.func27, Try.ntmps27
        go_wp2
        go_ret
        exact ⟨ret_i hg.out, (Below.refl _ _).alloc (Nat.le_refl _) _⟩
    · have hg := Lib.hid (Ma.gchk_range (d := d) (ll := ll) (by omega))
      have h2' : 64 < d := by omega
      clear h2 h
      go_enter Try.func27, Try.ntmps27
      go_wp2
      go_ret
      exact ⟨ret_i hg.out, (Below.refl _ _).alloc (Nat.le_refl _) _⟩
  · have hg := Lib.hid (Ma.gchk_range (d := d) (ll := ll) (by omega))
    have h1' : d < 1 := by omega
    clear h1 h
    go_enter Try.func27, Try.ntmps27
    go_wp2
    go_ret
    exact ⟨ret_i hg.out, (Below.refl _ _).alloc (Nat.le_refl _) _⟩

/-! lists compared -/
def SameB (l1 l2 : List Int) : Bool := decide (l1 = l2)

set_option maxHeartbeats 1000000 in
theorem Same_q (v1 v2 : Value) (l1 l2 : List Int) (w : World) (h1 : Rg.Ints w v1 l1) (h2 : Rg.Ints w v2 l2) :
    Calls Try.prog 24 #[v1, v2] w fun e w' => e = .returned (.bool (decide (l1 = l2))) ∧ ∃ k, w' = w.drewN k := by
  obtain ⟨a1, c1, rfl, n1, m1, _, k1⟩ := h1.shape
  obtain ⟨a2, c2, rfl, n2, m2, _, k2⟩ := h2.shape
  clear h1 h2
  have K1 := Lib.hid k1
  have K2 := Lib.hid k2
  clear k1 k2
  generalize hD : decide (l1 = l2) = D
  have HD := Lib.hid hD
  clear hD
  by_cases hl : l1.length = l2.length
  · have hb : ((l1.length : Int) != (l2.length : Int)) = false := by rw [hl]; simp
    have Hl := Lib.hid hl
    clear hl
    go_enter Try.func24, Try.ntmps24
    go_wp2
    clear hb
    go_loopw [5] (fun v wr => ∃ i : Nat, v = .int .i64 i ∧ i ≤ l1.length ∧ (∃ k, wr = w.drewN k) ∧ Hid (l1.take i = l2.take i)) (fun v _ => l1.length - (intOf v).toNat)
    case atStart => exact ⟨0, rfl, by omega, ⟨0, rfl⟩, by show _ = _; simp⟩
    case round =>
      obtain ⟨i, rfl, hi, ⟨k, rfl⟩, hs⟩ := hrel
      by_cases hlt : i < l1.length
      · have hi2 : i < l2.length := by have := Hl.out; omega
        obtain ⟨b1, o1, rfl, hb1, d1⟩ := K1.out (by omega)
        obtain ⟨b2, o2, rfl, hb2, d2⟩ := K2.out (by omega)
        have x1 : w.cell? ⟨b1, o1 + i, none⟩ = _ := d1 i hlt
        have x2 : w.cell? ⟨b2, o2 + i, none⟩ = _ := d2 i hi2
        have hlt2 : (i : Int) < (l2.length : Int) := by omega
        generalize hx : l1[i] = x at x1
        generalize hy : l2[i] = y at x2
        have Hx := Lib.hid hx
        have Hy := Lib.hid hy
        clear d1 d2 hx hy
        by_cases he : x = y
        · have hb : (x != y) = false := by rw [he]; simp
          have He := Lib.hid he
          clear he
          go_wp2
          go_quiet (fail)
          go_wp2
          go_roundw
          case rel => exact ⟨i + 1, by go_num, by omega, ⟨_, rfl⟩, by show _ = _; rw [List.take_succ_eq_append_getElem hlt, List.take_succ_eq_append_getElem hi2, hs.out, Hx.out, Hy.out, He.out]⟩
          case measure => simp [intOf]; omega
        · have hb : (x != y) = true := by rw [bne_iff_ne]; exact he
          have He := Lib.hid he
          clear he
          go_wp2
          go_quiet (fail)
          go_wp2
          go_ret
          exact ⟨Rg.ret_bool (by rw [← HD.out]; symm; rw [decide_eq_false_iff_not]; intro hc; subst hc; exact He.out (Hx.out.symm.trans Hy.out)), _, World.drewN_drewN _ _ _⟩
      · go_wp2
        go_ret
        refine ⟨Rg.ret_bool ?_, _, rfl⟩
        rw [← HD.out]; symm
        rw [decide_eq_true_eq]
        have h1 := hs.out
        rwa [List.take_of_length_le (by omega), List.take_of_length_le (by have := Hl.out; omega)] at h1
  · have hb : ((l1.length : Int) != (l2.length : Int)) = true := by rw [bne_iff_ne]; omega
    have Hl := Lib.hid hl
    clear hl
    go_enter Try.func24, Try.ntmps24
    go_wp2
    go_ret
    exact ⟨Rg.ret_bool (by rw [← HD.out]; symm; rw [decide_eq_false_iff_not]; intro hc; subst hc; exact Hl.out rfl), 0, rfl⟩
end Go.Proofs.Ytojbijkljnohoaa

namespace Go.Proofs.Ytojbijkljnohoaa
open Go.RowKit
open Go.Proofs
attribute [local irreducible] Go.Calls

theorem NP.ints {w : World} {v : Value} {l : List Nat} (h : Rg.NP w v l) : Rg.Ints w v (Ma.ofN l) := h
theorem drewN_ints {w : World} {v : Value} {l : List Int} (k : Nat) (h : Rg.Ints w v l) : Rg.Ints (w.drewN k) v l := h
theorem drewN_rows {w : World} {v : Value} {l : List (List Int)} (k : Nat) (h : Rg.Rows w v l) : Rg.Rows (w.drewN k) v l := h

theorem Same_any {v1 v2 : Value} {l1 l2 : List Int} {w w0 : World} {b : Bool} (h1 : Rg.Ints w v1 l1) (h2 : Rg.Ints w v2 l2) (hd : Hid (decide (l1 = l2) = b)) (hb : Below w0.heap.size w0 w) :
    Calls Try.prog 24 #[v1, v2] w fun e w' => e = .returned (.bool b) ∧ Below w0.heap.size w0 w' :=
  (Same_q v1 v2 l1 l2 w h1 h2).mono fun _ _ ⟨a, _, c⟩ => ⟨by rw [a, hd.out], by rw [c]; exact Rg.drewN hb _⟩

set_option maxHeartbeats 1000000 in
theorem SamePerms_q (v1 v2 : Value) (l1 l2 : List (List Int)) (w : World) (h1 : Rg.Rows w v1 l1) (h2 : Rg.Rows w v2 l2) :
    Calls Try.prog 14 #[v1, v2] w fun e w' => e = .returned (.bool (decide (l1 = l2))) ∧ ∃ k, w' = w.drewN k := by
  obtain ⟨a1, c1, rfl, n1, m1, _, k1⟩ := h1.shape
  obtain ⟨a2, c2, rfl, n2, m2, _, k2⟩ := h2.shape
  clear h1 h2
  have K1 := Lib.hid k1
  have K2 := Lib.hid k2
  clear k1 k2
  generalize hD : decide (l1 = l2) = D
  have HD := Lib.hid hD
  clear hD
  by_cases hl : l1.length = l2.length
  · have hb : ((l1.length : Int) != (l2.length : Int)) = false := by rw [hl]; simp
    have Hl := Lib.hid hl
    clear hl
    go_enter Try.func14, Try.ntmps14
    go_wp2
    clear hb
    go_loopw [5] (fun v wr => ∃ i : Nat, v = .int .i64 i ∧ i ≤ l1.length ∧ Hid (∃ k, wr = w.drewN k) ∧ Hid (l1.take i = l2.take i)) (fun v _ => l1.length - (intOf v).toNat)
    case atStart => exact ⟨0, rfl, by omega, ⟨0, rfl⟩, by show _ = _; simp⟩
    case round =>
      obtain ⟨i, rfl, hi, hw, hs⟩ := hrel
      by_cases hlt : i < l1.length
      · have hi2 : i < l2.length := by have := Hl.out; omega
        obtain ⟨b1, o1, rfl, hb1, d1⟩ := K1.out (by omega)
        obtain ⟨b2, o2, rfl, hb2, d2⟩ := K2.out (by omega)
        obtain ⟨u1, y1, hu1⟩ := d1 i hlt
        obtain ⟨u2, y2, hu2⟩ := d2 i hi2
        have x1 : wr.cell? ⟨b1, o1 + i, none⟩ = some u1 := by obtain ⟨k, e⟩ := hw.out; rw [e]; exact y1
        have x2 : wr.cell? ⟨b2, o2 + i, none⟩ = some u2 := by obtain ⟨k, e⟩ := hw.out; rw [e]; exact y2
        have hlt2 : (i : Int) < (l2.length : Int) := by omega
        generalize hx : l1[i] = x at hu1
        generalize hy : l2[i] = y at hu2
        have Hx := Lib.hid hx
        have Hy := Lib.hid hy
        clear d1 d2 hx hy y1 y2
        have hq : ∀ n, _ := fun n => Same_q u1 u2 x y (wr.drewN n) (by obtain ⟨k, e⟩ := hw.out; rw [e]; exact hu1) (by obtain ⟨k, e⟩ := hw.out; rw [e]; exact hu2)
        by_cases he : x = y
        · have hdd : decide (x = y) = true := decide_eq_true he
          have He := Lib.hid he
          rw [hdd] at hq
          have Hq := Lib.hid hq
          clear he hdd hq
          go_wp2
          go_quiet ((go_at_call 24; exact Calls.quiet_of (Hq.out _)))
          go_wp2
          go_roundw
          case rel => exact ⟨i + 1, by go_num, by omega, by obtain ⟨k, e⟩ := hw.out; rw [e]; exact ⟨_, World.drewN_drewN _ _ _⟩, by show _ = _; rw [List.take_succ_eq_append_getElem hlt, List.take_succ_eq_append_getElem hi2, hs.out, Hx.out, Hy.out, He.out]⟩
          case measure => simp [intOf]; omega
        · have hdd : decide (x = y) = false := decide_eq_false he
          have He := Lib.hid he
          rw [hdd] at hq
          have Hq := Lib.hid hq
          clear he hdd hq
          go_wp2
          go_quiet ((go_at_call 24; exact Calls.quiet_of (Hq.out _)))
          go_wp2
          go_ret
          exact ⟨Rg.ret_bool (by rw [← HD.out]; symm; rw [decide_eq_false_iff_not]; intro hc; subst hc; exact He.out (Hx.out.symm.trans Hy.out)), by obtain ⟨k, e⟩ := hw.out; rw [e]; exact ⟨_, World.drewN_drewN _ _ _⟩⟩
      · go_wp2
        go_ret
        refine ⟨Rg.ret_bool ?_, hw.out⟩
        rw [← HD.out]; symm
        rw [decide_eq_true_eq]
        have h1 := hs.out
        rwa [List.take_of_length_le (by omega), List.take_of_length_le (by have := Hl.out; omega)] at h1
  · have hb : ((l1.length : Int) != (l2.length : Int)) = true := by rw [bne_iff_ne]; omega
    have Hl := Lib.hid hl
    clear hl
    go_enter Try.func14, Try.ntmps14
    go_wp2
    go_ret
    exact ⟨Rg.ret_bool (by rw [← HD.out]; symm; rw [decide_eq_false_iff_not]; intro hc; subst hc; exact Hl.out rfl), 0, rfl⟩

/-- are two groups one? -/
def sameG (d1 : Int) (l1 : List (List Int)) (d2 : Int) (l2 : List (List Int)) : Bool := decide (d1 = d2 ∧ l1 = l2)

set_option maxHeartbeats 400000 in
theorem SameGroup_any (v1 v2 : Value) (d1 d2 : Int) (l1 l2 : List (List Int)) {w w0 : World} (h1 : Rg.Rows w v1 l1) (h2 : Rg.Rows w v2 l2) (hb : Below w0.heap.size w0 w) :
    Calls Try.prog 28 #[.agg #[.int .i64 d1, v1], .agg #[.int .i64 d2, v2]] w fun e w' => e = .returned (.bool (sameG d1 l1 d2 l2)) ∧ Below w0.heap.size w0 w' := by
  obtain ⟨a1, c1, rfl, n1, m1, _, _⟩ := h1.shape
  obtain ⟨a2, c2, rfl, n2, m2, _, _⟩ := h2.shape
  have hbb := Lib.hid (((Below.refl w.heap.size w).alloc (Nat.le_refl _) (.cells #[.int .i64 d1, .slice a1 l1.length c1] 24)).alloc (by simp) (.cells #[.int .i64 d2, .slice a2 l2.length c2] 24))
  by_cases hd : d1 = d2
  · have hde : (d1 == d2) = true := by rw [hd]; simp
    have HS := Lib.hid (show sameG d1 l1 d2 l2 = decide (l1 = l2) by unfold sameG; simp [hd])
    clear hd
    go_enter Try.func28, Try.ntmps28
    go_wp2_with (go_at_call 14; refine (SamePerms_q _ _ l1 l2 _ (h1.below hbb.out) (h2.below hbb.out)).mono ?_; rintro e w1 ⟨rfl, k, rfl⟩)
    go_ret
    exact ⟨Rg.ret_bool HS.out.symm, Rg.acc hb (Rg.drewN hbb.out _)⟩
  · have hde : (d1 == d2) = false := by rw [beq_eq_false_iff_ne]; exact hd
    have HS := Lib.hid (show sameG d1 l1 d2 l2 = false by unfold sameG; simp [hd])
    clear hd
    go_enter Try.func28, Try.ntmps28
    go_wp2
    go_ret
    exact ⟨Rg.ret_bool HS.out.symm, Rg.acc hb hbb.out⟩
end Go.Proofs.Ytojbijkljnohoaa

