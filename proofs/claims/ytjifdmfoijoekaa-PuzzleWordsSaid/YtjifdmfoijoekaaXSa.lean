/- Lemmas and contracts on the way to the statement; no condition of their own beyond those written. -/
import Derived.Test.YtjifdmfoijoekaaXPaPbPcPd
set_option linter.unusedVariables false
/-! puzzle.cycle. -/
namespace Go.Proofs.Ytjifdmfoijoekaa.Rj
open Go.Proofs.Ytjifdmfoijoekaa
open Go.RowKit
open Go.Proofs
attribute [local irreducible] Go.Calls

set_option maxHeartbeats 400000 in
theorem permone_row (n : Nat) (w : World) (hn : n ≤ 1000) :
    Calls Try.prog 51 #[.int .i64 n] w fun e w' => e = .returned (.slice (some ⟨w.heap.size, 0, none⟩) n n) ∧ w'.rowIs w.heap.size 3 n (fun j => .int .i64 (j : Int)) ∧ Below w.heap.size w w' := by
  have hmk := mkPerm n (by omega) w
  have hrow := Lib.hid (World.rowIs_made w (.int .i64 0) n 3)
  go_enter Try.func51, Try.ntmps51
  go_wp2
  clear hmk
  go_loopw [9] (fun i wr => ∃ k : Nat, k ≤ n ∧ i = .int .i64 k ∧ Hid (wr.rowIs w.heap.size 3 n (fun j => .int .i64 (if j < k then (j : Int) else 0))) ∧ Below w.heap.size w wr) (fun i _ => n - (intOf i).toNat)
  case atStart => exact ⟨0, by omega, rfl, hrow.out.congr (fun i hi => by simp), (Below.refl _ _).alloc (Nat.le_refl _) _⟩
  case round =>
    obtain ⟨k, hk, rfl, hs, hbel⟩ := hrel
    by_cases hlt : k < n
    · have c1 := hs.out.cell hlt
      have f1 := hs.out.frozen k
      simp only [Nat.lt_irrefl, if_false] at c1
      go_wp2
      go_roundw
      case rel =>
        refine ⟨k + 1, by omega, by go_num, ?_, hbel.setCell (Nat.le_refl _) _⟩
        refine (hs.out.set k _).congr fun i hi => ?_
        by_cases e : i = k
        · subst e; simp
        · rw [if_neg e]
          by_cases e2 : i < k
          · rw [if_pos e2, if_pos (by omega)]
          · rw [if_neg e2, if_neg (by omega)]
      case measure => simp [intOf]; omega
    · obtain rfl : k = n := by omega
      go_wp2
      go_ret
      exact ⟨rfl, hs.out.congr (fun i hi => by rw [if_pos hi]), by assumption⟩

theorem permOne_row (n : Nat) (w : World) (h1 : 1 ≤ n) (hn : n ≤ 64) :
    Calls Try.prog 34 #[.int .i64 n] w fun e w' => e = .returned (.tuple #[.slice (some ⟨w.heap.size, 0, none⟩) n n, .int .i64 0]) ∧ w'.rowIs w.heap.size 3 n (fun j => .int .i64 (j : Int)) ∧ Below w.heap.size w w' := by
  go_enter Try.func34, Try.ntmps34
  go_wp2_with (go_at_call 51; refine (permone_row _ _ (by omega)).mono ?_; rintro e w1 ⟨rfl, hv, hb⟩)
  go_ret2
  exact ⟨rfl, hv, hb⟩

def cyc (n a b : Nat) : List Nat := (List.range n).map fun i => if i + 1 = b then a else if a ≤ i ∧ i < b then i + 1 else i
theorem len_cyc (n a b : Nat) : (cyc n a b).length = n := by simp [cyc]

set_option maxHeartbeats 400000 in
theorem cycle_any (n a b : Nat) (w : World) (h1 : 1 ≤ n) (hn : n ≤ 64) (hab : a < b) (hb : b ≤ n) :
    Calls Try.prog 58 #[.int .i64 n, .int .i64 a, .int .i64 b] w fun e w' => ∃ v, e = .returned v ∧ Rg.NPF w w' v (cyc n a b) ∧ Below w.heap.size w w' := by
  go_enter Try.func58, Try.ntmps58
  go_wp2_with (go_at_call 34; refine (permOne_row _ _ (by omega) (by omega)).mono ?_; rintro e w1 ⟨rfl, hv0, hb0⟩; have hv := Lib.hid hv0; clear hv0)
  go_loopw [9] (fun i wr => ∃ k : Nat, a ≤ k ∧ k ≤ b ∧ i = .int .i64 k ∧ Hid (wr.rowIs w.heap.size 3 n (fun j => .int .i64 (if a ≤ j ∧ j < k then ((j + 1 : Nat) : Int) else (j : Int)))) ∧ Below w.heap.size w wr) (fun i _ => b - (intOf i).toNat)
  case atStart => exact ⟨a, by omega, by omega, rfl, hv.out.congr (fun i hi => by rw [if_neg (by omega)]), hb0⟩
  case round =>
    clear hv hb0
    obtain ⟨k, hka, hk, rfl, hs, hbel⟩ := hrel
    by_cases hlt : k < b
    · have hkn : k < n := by omega
      have c1 := hs.out.cell hkn
      have f1 := hs.out.frozen k
      go_wp2
      go_roundw
      case rel =>
        refine ⟨k + 1, by omega, by omega, by go_num, ?_, hbel.setCell (Nat.le_refl _) _⟩
        refine (hs.out.set k _).congr fun i hi => ?_
        by_cases e : i = k
        · subst e; rw [if_pos rfl, if_pos (by omega)]; go_num
        · rw [if_neg e]
          by_cases e2 : a ≤ i ∧ i < k
          · rw [if_pos e2, if_pos (by omega)]
          · rw [if_neg e2, if_neg (by omega)]
      case measure => simp [intOf]; omega
    · obtain rfl : k = b := by omega
      have hkn : k - 1 < n := by omega
      have c1 := hs.out.cell hkn
      have f1 := hs.out.frozen (k - 1)
      have hsub : (k : Int) - 1 = ((k - 1 : Nat) : Int) := by omega
      go_wp2
      go_ret
      refine ⟨_, rfl, ⟨Rg.NP.of_rowIs (hs.out.set (k - 1) _) (by rw [len_cyc]) (by omega) (fun i hi => ?_), Rg.Fresh.mk _ _ _ _⟩, hbel.setCell (Nat.le_refl _) _⟩
      simp only [cyc, List.getElem_map, List.getElem_range]
      by_cases e : i = k - 1
      · rw [if_pos e, if_pos (by omega)]
      · have e3 : ¬ (i + 1 = k) := by omega
        rw [if_neg e, if_neg e3]
        by_cases e2 : a ≤ i ∧ i < k
        · rw [if_pos e2, if_pos e2]
        · rw [if_neg e2, if_neg e2]
end Go.Proofs.Ytjifdmfoijoekaa.Rj

