/- Lemmas and contracts on the way to the statement; no condition of their own beyond those written. -/
import Derived.Test.YtojbijkljnohoaaProg
import Derived.WalkKit
import Derived.WalkSpells
import Derived.WalkLawsBesides
import Derived.Outline
import Derived.Deep.DeepFit
import Derived.BigQuiet
import Derived.Deep.QuietTactic
import Derived.Test.YtojbijkljnohoaaXRg
import Derived.Test.YtojbijkljnohoaaXMa
set_option linter.unusedVariables false
namespace Go.Proofs.Ytojbijkljnohoaa
open Go.RowKit
open Go.Proofs
attribute [local irreducible] Go.Calls

set_option maxHeartbeats 1000000 in
theorem permCheck_in (v : Value) (l : List Int) (w : World) (h : Rg.Ints w v l) (h1 : 1 ≤ l.length) (h2 : l.length ≤ 64) :
    Calls Try.prog 71 #[v] w fun e w' => e = .returned (.int .i64 (Ma.pchk l)) ∧ Below w.heap.size w w' := by
  obtain ⟨a, cap, rfl, hc, hm, _, hcell⟩ := h.shape
  obtain ⟨b, o, rfl, hb, hr⟩ := hcell (by omega)
  have Hr := Lib.hid hr
  clear hr hcell h
  have hz : ∀ (cs : Array Value), cs = Array.replicate 64 (.bool false) → (w.alloc (.cells cs 85)).rowIs w.heap.size 85 64 (fun j => .bool (decide ((j : Int) ∈ l.take 0))) := by
    rintro cs rfl
    have := World.rowIs_alloc w (Array.replicate 64 (.bool false)) 85 (fun j => .bool (decide ((j : Int) ∈ l.take 0))) (fun i hi => by simp at hi; simp [hi])
    simpa using this
  have HZ := Lib.hid hz
  clear hz
  go_enter Try.func71, Try.ntmps71
  go_wp2
  go_loopw [16] (fun i wr => ∃ k : Nat, k ≤ l.length ∧ i = .int .i64 k ∧ Hid (Ma.preL l k) ∧ Hid (wr.rowIs w.heap.size 85 64 (fun j => .bool (decide ((j : Int) ∈ l.take k)))) ∧ Below w.heap.size w wr) (fun i _ => l.length - (intOf i).toNat)
  case atStart => exact ⟨0, by omega, rfl, Ma.pre0 l, HZ.out _ rfl, (Below.refl _ _).alloc (Nat.le_refl _) _⟩
  case round =>
    obtain ⟨k, hk, rfl, hp, hs, hbel⟩ := hrel
    obtain ⟨hc, hf⟩ := Rg.bcell hbel
    by_cases hlt : k < l.length
    · have e0 : wr.cell? ⟨b, o + k, none⟩ = some (.int .i64 l[k]) := (hc b (o + k) hb).trans (Hr.out k hlt)
      have hB : b < wr.heap.size := Nat.lt_of_lt_of_le hb hbel.size
      generalize hx : l[k] = x at e0
      have Hx := Lib.hid hx
      clear hx hc hf
      by_cases h0 : x < 0
      · go_wp2
        go_ret
        exact ⟨Rg.ret_int (Ma.pchk_bad h1 h2 (Ma.bad_lo hlt (by rw [Hx.out]; exact h0))).symm, by assumption⟩
      by_cases h3 : x < l.length
      · obtain ⟨n, rfl⟩ := Int.eq_ofNat_of_zero_le (by omega : 0 ≤ x)
        have hn : n < 64 := by omega
        have c1 := hs.out.cell hn
        have f1 := hs.out.frozen n
        cases hd : decide ((n : Int) ∈ l.take k)
        · rw [hd] at c1
          go_wp2
          go_roundw
          case rel =>
            refine ⟨k + 1, by omega, by go_num, Ma.pre_step hp.out hlt (by rw [Hx.out]; omega) (by rw [Hx.out]; omega) (by rw [Hx.out]; exact of_decide_eq_false hd), ?_, hbel.setCell (Nat.le_refl _) _⟩
            refine (hs.out.set n _).congr fun i hi => ?_
            rw [Ma.mem_take_succ hlt, Hx.out]
            by_cases e : i = n
            · simp [e]
            · rw [if_neg e, if_neg (by omega)]
          case measure => simp [intOf]; omega
        · rw [hd] at c1
          go_wp2
          go_ret
          exact ⟨Rg.ret_int (Ma.pchk_bad h1 h2 (Ma.bad_two hlt (by rw [Hx.out]; exact of_decide_eq_true hd))).symm, by assumption⟩
      · go_wp2
        go_ret
        exact ⟨Rg.ret_int (Ma.pchk_bad h1 h2 (Ma.bad_hi hlt (by rw [Hx.out]; omega))).symm, by assumption⟩
    · obtain rfl : k = l.length := by omega
      go_wp2
      go_ret
      exact ⟨Rg.ret_int (Ma.pchk_ok h1 h2 (Ma.pre_end hp.out)).symm, by assumption⟩

theorem permCheck_any (v : Value) (l : List Int) (w : World) (h : Rg.Ints w v l) :
    Calls Try.prog 71 #[v] w fun e w' => e = .returned (.int .i64 (Ma.pchk l)) ∧ Below w.heap.size w w' := by
  by_cases h1 : 1 ≤ l.length
  · by_cases h2 : l.length ≤ 64
    · exact permCheck_in v l w h h1 h2
    · have hp := Lib.hid (Ma.pchk_out (l := l) (by omega))
      obtain ⟨a, cap, rfl, hc, hm, _, hcell⟩ := h.shape
      clear hcell h
      have h64 : 64 < l.length := by omega
      go_enter Try.func71, Try.ntmps71
      go_wp2
      go_ret
      exact ⟨Rg.ret_int hp.out.symm, Below.refl _ _⟩
  · have hp := Lib.hid (Ma.pchk_out (l := l) (by omega))
    obtain ⟨a, cap, rfl, hc, hm, _, hcell⟩ := h.shape
    clear hcell h
    have h64 : l.length < 1 := by omega
    go_enter Try.func71, Try.ntmps71
    go_wp2
    go_ret
    exact ⟨Rg.ret_int hp.out.symm, Below.refl _ _⟩
end Go.Proofs.Ytojbijkljnohoaa

namespace Go.Proofs.Ytojbijkljnohoaa
open Go.RowKit
open Go.Proofs
attribute [local irreducible] Go.Calls

theorem infoInt : (Try.prog.info? 3).map (fun i => (i.zero, i.size, i.bytes)) = some (some (.int .i64 0), 1, 8) := by kernel_rfl

theorem mkPerm (n : Nat) (hn : n ≤ 1000000) (w : World) : (Instr.makeSlice 62 (.int .i64 (n : Int)) (.int .i64 (n : Int))).run Try.prog w = .ok (.slice (some ⟨w.heap.size, 0, none⟩) n n) (w.alloc (.cells (madeCells #[.int .i64 0] n) 3)) :=
  run_make_row' 62 3 (.int .i64 0) 8 Try.underlying62 infoInt rfl .i64 .i64 n (by omega) (by omega) w

set_option maxHeartbeats 400000 in
theorem permone_any (n : Nat) (w : World) (hn : n ≤ 1000) :
    Calls Try.prog 100 #[.int .i64 n] w fun e w' => ∃ v, e = .returned v ∧ Rg.NPF w w' v (Ma.oneN n) ∧ Below w.heap.size w w' := by
  have hmk := mkPerm n (by omega) w
  have hrow := Lib.hid (World.rowIs_made w (.int .i64 0) n 3)
  go_enter Try.func100, Try.ntmps100
  go_wp2
  clear hmk
  go_loopw [9] (fun i wr => ∃ k : Nat, k ≤ n ∧ i = .int .i64 k ∧ Hid (wr.rowIs w.heap.size 3 n (fun j => .int .i64 (if j < k then (j : Int) else 0))) ∧ Below w.heap.size w wr) (fun i _ => n - (intOf i).toNat)
  case atStart => exact ⟨0, by omega, rfl, hrow.out.congr (fun i hi => by simp), (Below.refl _ _).alloc (Nat.le_refl _) _⟩
  case round =>
    obtain ⟨k, hk, rfl, hs, hbel⟩ := hrel
    by_cases hlt : k < n
    · have c1 := hs.out.cell hlt
      have f1 := hs.out.frozen k
      simp only [Nat.lt_irrefl, if_false] at c1
      go_wp2
      go_roundw
      case rel =>
        refine ⟨k + 1, by omega, by go_num, ?_, hbel.setCell (Nat.le_refl _) _⟩
        refine (hs.out.set k _).congr fun i hi => ?_
        by_cases e : i = k
        · subst e; simp
        · rw [if_neg e]
          by_cases e2 : i < k
          · rw [if_pos e2, if_pos (by omega)]
          · rw [if_neg e2, if_neg (by omega)]
      case measure => simp [intOf]; omega
    · obtain rfl : k = n := by omega
      go_wp2
      go_ret
      refine ⟨_, rfl, ⟨Rg.NP.of_rowIs hs.out (by rw [Ma.len_oneN]) (by omega) (fun i hi => ?_), Rg.Fresh.mk _ _ _ _⟩, by assumption⟩
      rw [Ma.get_oneN]
      rw [Ma.len_oneN] at hi
      rw [if_pos hi]

set_option maxHeartbeats 400000 in
theorem perminv_any (v : Value) (a : List Nat) (w : World) (h : Rg.NP w v a) (ha : Ma.okN a) (hn : a.length ≤ 1000) (h1 : 1 ≤ a.length) :
    Calls Try.prog 103 #[v] w fun e w' => ∃ v, e = .returned v ∧ Rg.NPF w w' v (Ma.invN a) ∧ Below w.heap.size w w' := by
  obtain ⟨ad, cap, rfl, hc, _, _, hcell⟩ := h.shape
  obtain ⟨b, o, rfl, hb, hr⟩ := hcell (by omega)
  have Hr := Lib.hid hr
  clear hr hcell h
  have hmk := mkPerm a.length (by omega) w
  have hrow := Lib.hid (World.rowIs_made w (.int .i64 0) a.length 3)
  go_enter Try.func103, Try.ntmps103
  go_wp2
  clear hmk
  go_loopw [11] (fun i wr => ∃ k : Nat, k ≤ a.length ∧ i = .int .i64 k ∧ Hid (wr.rowIs w.heap.size 3 a.length (fun j => .int .i64 (if j ∈ a.take k then ((a.idxOf j : Nat) : Int) else 0))) ∧ Below w.heap.size w wr) (fun i _ => a.length - (intOf i).toNat)
  case atStart => exact ⟨0, by omega, rfl, hrow.out.congr (fun i hi => by simp), (Below.refl _ _).alloc (Nat.le_refl _) _⟩
  case round =>
    obtain ⟨k, hk, rfl, hs, hbel⟩ := hrel
    obtain ⟨hc, hf⟩ := Rg.bcell hbel
    by_cases hlt : k < a.length
    · have hlt' : k < a.length := hlt
      have e0 : wr.cell? ⟨b, o + k, none⟩ = some (.int .i64 ((a[k] : Nat) : Int)) := (hc b (o + k) hb).trans (Hr.out k hlt')
      have hak : a[k] < a.length := Ma.okN_lt ha hlt'
      have hix := Ma.idx_get ha hlt'
      have hmem : ∀ i, i ∈ a.take (k + 1) ↔ (i ∈ a.take k ∨ i = a[k]) := fun i => by rw [List.take_succ_eq_append_getElem hlt', List.mem_append, List.mem_singleton]
      generalize hx : a[k] = x at *
      have Hx := Lib.hid hx
      have Hix := Lib.hid hix
      have Hmem := Lib.hid hmem
      clear hx hc hf hix hmem
      have c1 := hs.out.cell hak
      have f1 := hs.out.frozen x
      generalize (Value.int .i64 (if x ∈ a.take k then ((a.idxOf x : Nat) : Int) else 0)) = u0 at c1
      go_wp2
      go_roundw
      case rel =>
        refine ⟨k + 1, by omega, by go_num, ?_, hbel.setCell (Nat.le_refl _) _⟩
        refine (hs.out.set x _).congr fun i hi => ?_
        by_cases e : i = x
        · subst e; rw [if_pos rfl, if_pos ((Hmem.out i).2 (.inr rfl)), Hix.out]
        · rw [if_neg e]
          by_cases e2 : i ∈ a.take k
          · rw [if_pos e2, if_pos ((Hmem.out i).2 (.inl e2))]
          · rw [if_neg e2, if_neg (fun e3 => ((Hmem.out i).1 e3).elim e2 e)]
      case measure => simp [intOf]; omega
    · obtain rfl : k = a.length := by omega
      go_wp2
      go_ret
      refine ⟨_, rfl, ⟨Rg.NP.of_rowIs hs.out (by rw [Ma.len_invN]) (by omega) (fun i hi => ?_), Rg.Fresh.mk _ _ _ _⟩, by assumption⟩
      rw [Ma.get_invN]
      rw [Ma.len_invN] at hi
      rw [List.take_of_length_le (Nat.le_refl _), if_pos (Ma.okN_mem ha hi)]
end Go.Proofs.Ytojbijkljnohoaa

namespace Go.Proofs.Ytojbijkljnohoaa
open Go.RowKit
open Go.Proofs
attribute [local irreducible] Go.Calls

set_option maxHeartbeats 400000 in
theorem permOne_in (n : Nat) (w : World) (h1 : 1 ≤ n) (hn : n ≤ 64) :
    Calls Try.prog 55 #[.int .i64 n] w fun e w' => ∃ v, e = .returned (.tuple #[v, .int .i64 0]) ∧ Rg.NPF w w' v (Ma.oneN n) ∧ Below w.heap.size w w' := by
  go_enter Try.func55, Try.ntmps55
  go_wp2_with (go_at_call 100; refine (permone_any _ _ (by omega)).mono ?_; rintro e w1 ⟨v, rfl, hv, hb⟩)
  go_ret2
  exact ⟨_, rfl, hv, hb⟩
theorem permOne_out (n : Int) (w : World) (h : ¬ (1 ≤ n ∧ n ≤ 64)) :
    Calls Try.prog 55 #[.int .i64 n] w fun e w' => e = .returned (.tuple #[.slice none 0 0, .int .i64 2]) ∧ w = w' := by
  by_cases h1 : 1 ≤ n
  · have h2 : 64 < n := by omega
    clear h
    go_enter Try.func55, Try.ntmps55
    go_wp2
    go_ret2
    exact ⟨rfl, rfl⟩
  · have h2 : n < 1 := by omega
    clear h h1
    go_enter Try.func55, Try.ntmps55
    go_wp2
    go_ret2
    exact ⟨rfl, rfl⟩

theorem ret_i {k : IntKind} {a b : Int} (h : b = a) : Ending.returned (.int k a) = .returned (.int k b) := by rw [h]

theorem pk_check {v : Value} {l : List Int} {w w0 : World} (h : Rg.Ints w v l) (hb : Below w0.heap.size w0 w) :
    Calls Try.prog 71 #[v] w fun e w' => e = .returned (.int .i64 (Ma.pchk l)) ∧ Below w0.heap.size w0 w' :=
  (permCheck_any v l w h).mono fun _ _ ⟨a, b⟩ => ⟨a, Rg.acc hb b⟩

set_option maxHeartbeats 1000000 in
theorem permfirst_any (v : Value) (ll : List (List Int)) (w : World) (h : Rg.Rows w v ll) (h1 : 1 ≤ ll.length) :
    Calls Try.prog 101 #[v] w fun e w' => e = .returned (.int .i64 (Ma.fstE ll)) ∧ Below w.heap.size w w' := by
  obtain ⟨ad, cap, rfl, hc, hm, _, hcell⟩ := h.shape
  obtain ⟨b, o, rfl, hb, hr⟩ := hcell (by omega)
  obtain ⟨u0, eu0, hu0⟩ := hr 0 (by omega)
  obtain ⟨n0, a0, c0, hn0, rfl, hl0⟩ := hu0.len
  have Hr := Lib.hid hr
  clear hr hcell h hu0
  have Hn0 := Lib.hid hn0
  clear hn0
  have hn : (ll.headD []).length = n0 := by rw [← Hn0.out]; cases ll with | nil => simp at h1 | cons x r => rfl
  have HN := Lib.hid hn
  clear hn
  go_enter Try.func101, Try.ntmps101
  go_wp2
  go_loopw [10] (fun i wr => ∃ k : Nat, k ≤ ll.length ∧ i = .int .i64 k ∧ Hid (Ma.fst1 (ll.drop k) = Ma.fst1 ll) ∧ Below w.heap.size w wr) (fun i _ => ll.length - (intOf i).toNat)
  case atStart => exact ⟨0, by omega, rfl, rfl, Below.refl _ _⟩
  case round =>
    obtain ⟨k, hk, rfl, hp, hbel⟩ := hrel
    by_cases hlt : k < ll.length
    · obtain ⟨u, eu, hu⟩ := Hr.out k hlt
      have e0 : wr.cell? ⟨b, o + k, none⟩ = some u := (hbel.cell (p := ⟨b, o + k, none⟩) hb).trans eu
      have hu' := hu.below hbel
      by_cases hz : Ma.pchk ll[k] = 0
      · have Hz := Lib.hid hz
        have hbb : ((Ma.pchk ll[k]) != 0) = false := by rw [hz]; rfl
        clear hz eu hu
        go_wp2_with (go_at_call 71; refine (pk_check hu' hbel).mono ?_; rintro e w1 ⟨rfl, hbel1⟩)
        go_roundw
        case rel => exact ⟨k + 1, by omega, by go_num, (Ma.fst1_next hlt Hz.out).symm.trans hp.out, hbel1⟩
        case measure => simp [intOf]; omega
      · have Hz := Lib.hid hz
        have hbb : ((Ma.pchk ll[k]) != 0) = true := by rw [bne_iff_ne]; exact hz
        clear hz eu hu
        go_wp2_with (go_at_call 71; refine (pk_check hu' hbel).mono ?_; rintro e w1 ⟨rfl, hbel1⟩)
        go_ret
        have hh := (Ma.fst1_bad hlt Hz.out).symm.trans hp.out
        exact ⟨ret_i (by rw [Ma.fstE_bad (by rw [← hh]; exact Hz.out), ← hh]), hbel1⟩
    · obtain rfl : k = ll.length := by omega
      have hf1 : Ma.fst1 ll = 0 := hp.out.symm.trans (Ma.fst1_end (Nat.le_refl _))
      have Hf := Lib.hid ((Ma.fstE_ok hf1).trans (by rw [HN.out]))
      clear hf1 hp
      go_wp2
      go_loopw [22] (fun i wr => ∃ k : Nat, k ≤ ll.length ∧ i = .int .i64 k ∧ Hid (Ma.fst2 n0 (ll.drop k) = Ma.fst2 n0 ll) ∧ Below w.heap.size w wr) (fun i _ => ll.length - (intOf i).toNat)
      case atStart => exact ⟨0, by omega, rfl, rfl, hbel⟩
      case round =>
        obtain ⟨k, hk, rfl, hp, hbel2⟩ := hrel
        have eu1 := (hbel2.cell (p := ⟨b, o + 0, none⟩) hb).trans eu0
        by_cases hlt2 : k < ll.length
        · obtain ⟨u, eu, hu⟩ := Hr.out k hlt2
          have e0 := (hbel2.cell (p := ⟨b, o + k, none⟩) hb).trans eu
          obtain ⟨n2, a2, c2, hn2, rfl, hl2⟩ := hu.len
          rw [Nat.add_zero] at eu1
          clear eu hu eu0
          have Hn2 := Lib.hid hn2
          clear hn2
          by_cases hz : n2 = n0
          · have hbb : ((n2 : Int) != (n0 : Int)) = false := by rw [hz]; simp
            have Hz := Lib.hid hz
            clear hz
            go_wp2
            go_roundw
            case rel => exact ⟨k + 1, by omega, by go_num, (Ma.fst2_next hlt2 (by rw [Hn2.out, Hz.out])).symm.trans hp.out, hbel2⟩
            case measure => simp [intOf]; omega
          · have hbb : ((n2 : Int) != (n0 : Int)) = true := by rw [bne_iff_ne]; omega
            have Hz := Lib.hid hz
            clear hz
            go_wp2
            go_ret
            exact ⟨ret_i (by rw [Hf.out, ← hp.out]; exact Ma.fst2_bad hlt2 (by rw [Hn2.out]; exact Hz.out)), hbel2⟩
        · clear eu1
          go_wp2
          go_ret
          exact ⟨ret_i (by rw [Hf.out, ← hp.out]; exact Ma.fst2_end (by omega)), hbel2⟩
end Go.Proofs.Ytojbijkljnohoaa

namespace Go.Proofs.Ytojbijkljnohoaa
open Go.RowKit
open Go.Proofs
attribute [local irreducible] Go.Calls

theorem pk_first {v : Value} {ll : List (List Int)} {z : Int} {w w0 : World} (h : Rg.Rows w v ll) (h1 : 1 ≤ ll.length) (hz : Hid (Ma.fstE ll = z)) (hb : Below w0.heap.size w0 w) :
    Calls Try.prog 101 #[v] w fun e w' => e = .returned (.int .i64 z) ∧ Below w0.heap.size w0 w' :=
  (permfirst_any v ll w h h1).mono fun _ _ ⟨a, b⟩ => ⟨by rw [a, hz.out], Rg.acc hb b⟩

theorem pchk_okN {a : List Nat} (ha : Ma.okN a) (h1 : 1 ≤ a.length) (h2 : a.length ≤ 64) : Ma.pchk (Ma.ofN a) = 0 :=
  Ma.pchk_ok (by rw [Ma.len_ofN]; exact h1) (by rw [Ma.len_ofN]; exact h2) (Ma.okN_ofN ha)

set_option maxHeartbeats 400000 in
theorem permInv_ok (v : Value) (a : List Nat) (w : World) (h : Rg.NP w v a) (ha : Ma.okN a) (h1 : 1 ≤ a.length) (h2 : a.length ≤ 64) :
    Calls Try.prog 57 #[v] w fun e w' => ∃ v, e = .returned (.tuple #[v, .int .i64 0]) ∧ Rg.NPF w w' v (Ma.invN a) ∧ Below w.heap.size w w' := by
  have hz := Lib.hid ((Ma.fstE_one (Ma.ofN a)).trans (pchk_okN ha h1 h2))
  have hv := h
  obtain ⟨ad, cap, rfl, _⟩ := h.shape
  have hb0 := Below.refl w.heap.size w
  go_enter Try.func57, Try.ntmps57
  go_wp2_with (first | (go_at_call 101; refine (pk_first (Rg.Rows.one _ hv) (Nat.le_refl _) hz (hb0.alloc (Nat.le_refl _) _)).mono ?_; rintro e w1 ⟨rfl, hb1⟩) | (go_at_call 103; refine (perminv_any _ a _ (hv.below hb1) ha (by omega) h1).mono ?_; rintro e w2 ⟨v2, rfl, hv2, hb2⟩))
  go_ret2
  exact ⟨_, rfl, ⟨hv2.1, hv2.2.mono hb1.size⟩, Rg.acc hb1 hb2⟩

/-- a group by value -/
def Grp (w : World) (v : Value) (d : Int) (ll : List (List Int)) : Prop := ∃ gv, v = .agg #[.int .i64 d, gv] ∧ Rg.Rows w gv ll

set_option maxHeartbeats 1000000 in
theorem orbitCheck_in (gv : Value) (d : Int) (ll : List (List Int)) (w : World) (h : Rg.Rows w gv ll) (h1 : 1 ≤ d) (h2 : d ≤ 64) (h3 : ll.length ≤ 16) :
    Calls Try.prog 26 #[.agg #[.int .i64 d, gv]] w fun e w' => e = .returned (.int .i64 (Ma.gck d ll)) ∧ Below w.heap.size w w' := by
  obtain ⟨ad, cap, rfl, hc, hm, _, hcell⟩ := h.shape
  have Hr := Lib.hid hcell
  clear hcell h
  go_enter Try.func26, Try.ntmps26
  go_wp2
  go_loopw [21] (fun i wr => ∃ k : Nat, k ≤ ll.length ∧ i = .int .i64 k ∧ Hid (Ma.gck d (ll.drop k) = Ma.gck d ll) ∧ Hid (Below (w.heap.size + 1) (w.alloc (.cells #[.int .i64 d, .slice ad ll.length cap] 24)) wr)) (fun i _ => ll.length - (intOf i).toNat)
  case atStart => exact ⟨0, by omega, rfl, rfl, Below.refl _ _⟩
  case round =>
    obtain ⟨k, hk, rfl, hp, hbel⟩ := hrel
    have hb0 : Below w.heap.size w wr := ((Below.refl _ w).alloc (Nat.le_refl _) _).trans (hbel.out.mono (by omega))
    have cd : wr.cell? ⟨w.heap.size, 0, none⟩ = some (.int .i64 d) := by
      rw [hbel.out.cell (by show w.heap.size < _; omega)]; rw [Rg.cellNew]; rfl
    have hsz : w.heap.size < wr.heap.size := by have := hbel.out.size; simp at this; omega
    by_cases hlt : k < ll.length
    · obtain ⟨b, o, rfl, hb, hr⟩ := Hr.out (by omega)
      obtain ⟨u, eu, hu⟩ := hr k hlt
      have e0 : wr.cell? ⟨b, o + k, none⟩ = some u := (hb0.cell (p := ⟨b, o + k, none⟩) hb).trans eu
      have hu' := hu.below hb0
      obtain ⟨n, a1, c1, hn, rfl, hl⟩ := hu.len
      have Hn := Lib.hid hn
      clear hr eu hu hn
      by_cases hz : Ma.pchk ll[k] = 0
      · have Hz := Lib.hid hz
        have hbb : ((Ma.pchk ll[k]) != 0) = false := by rw [hz]; rfl
        clear hz
        have hac : ∀ {e : Ending} {w' : World}, Below wr.heap.size wr w' → w'.cell? ⟨w.heap.size, 0, none⟩ = some (.int .i64 d) := fun hw => (hw.cell (p := ⟨w.heap.size, 0, none⟩) hsz).trans cd
        by_cases hd : (n : Int) = d
        · have hdd : ((n : Int) != d) = false := by rw [hd]; simp
          have Hd := Lib.hid hd
          clear hd
          go_wp2_with (go_at_call 71; refine (permCheck_any _ _ _ hu').mono ?_; rintro e w1 ⟨rfl, hbel1⟩; have cd1 := (hbel1.cell (p := ⟨w.heap.size, 0, none⟩) hsz).trans cd)
          go_roundw
          case rel => exact ⟨k + 1, by omega, by go_num, (Ma.gck_next hlt Hz.out (by rw [Hn.out]; exact Hd.out)).symm.trans hp.out, hbel.out.trans (hbel1.mono hsz)⟩
          case measure => simp [intOf]; omega
        · have hdd : ((n : Int) != d) = true := by rw [bne_iff_ne]; exact hd
          have Hd := Lib.hid hd
          clear hd
          go_wp2_with (go_at_call 71; refine (permCheck_any _ _ _ hu').mono ?_; rintro e w1 ⟨rfl, hbel1⟩; have cd1 := (hbel1.cell (p := ⟨w.heap.size, 0, none⟩) hsz).trans cd)
          go_ret
          exact ⟨ret_i (by rw [← hp.out]; exact Ma.gck_len hlt Hz.out (by rw [Hn.out]; exact Hd.out)), Rg.acc hb0 hbel1⟩
      · have Hz := Lib.hid hz
        have hbb : ((Ma.pchk ll[k]) != 0) = true := by rw [bne_iff_ne]; exact hz
        clear hz
        go_wp2_with (go_at_call 71; refine (pk_check hu' hb0).mono ?_; rintro e w1 ⟨rfl, hbel1⟩)
        go_ret
        exact ⟨ret_i (by rw [← hp.out]; exact Ma.gck_bad hlt Hz.out), hbel1⟩
    · go_wp2
      go_ret
      exact ⟨ret_i (by rw [← hp.out]; exact Ma.gck_end (by omega)), hb0⟩
theorem orbitCheck_any (gv : Value) (d : Int) (ll : List (List Int)) (w : World) (h : Rg.Rows w gv ll) :
    Calls Try.prog 26 #[.agg #[.int .i64 d, gv]] w fun e w' => e = .returned (.int .i64 (Ma.gchk d ll)) ∧ Below w.heap.size w w' := by
  by_cases h1 : 1 ≤ d
  · by_cases h2 : d ≤ 64
    · by_cases h3 : ll.length ≤ 16
      · rw [Ma.gchk_in h1 h2 h3]; exact orbitCheck_in gv d ll w h h1 h2 h3
      · have hg := Lib.hid (Ma.gchk_long h1 h2 h3)
        obtain ⟨ad, cap, rfl, hc, hm, _, hcell⟩ := h.shape
        clear hcell h
        have h3' : 16 < ll.length := by omega
        clear h3
        go_enter Try.func26, Try.ntmps26
        go_wp2
        go_ret
        exact ⟨ret_i hg.out, (Below.refl _ _).alloc (Nat.le_refl _) _⟩
    · have hg := Lib.hid (Ma.gchk_range (d := d) (ll := ll) (by omega))
      have h2' : 64 < d := by omega
      clear h2 h
      go_enter Try.func26, Try.ntmps26
      go_wp2
      go_ret
      exact ⟨ret_i hg.out, (Below.refl _ _).alloc (Nat.le_refl _) _⟩
  · have hg := Lib.hid (Ma.gchk_range (d := d) (ll := ll) (by omega))
    have h1' : d < 1 := by omega
    clear h1 h
    go_enter Try.func26, Try.ntmps26
    go_wp2
    go_ret
    exact ⟨ret_i hg.out, (Below.refl _ _).alloc (Nat.le_refl _) _⟩
end Go.Proofs.Ytojbijkljnohoaa

