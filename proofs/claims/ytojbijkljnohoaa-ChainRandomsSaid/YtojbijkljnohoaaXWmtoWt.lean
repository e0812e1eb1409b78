/- Lemmas and contracts on the way to the statement; no condition of their own beyond those written. -/
import Derived.Test.YtojbijkljnohoaaXVxtoWl
import Derived.Deep.CutRange
import Derived.Deep.CutBlock
import Derived.IntWalk
import Derived.Great.BuildSlice
import Derived.ArgAppend
import Derived.Laws.CopyOwn
import Derived.StillTailTactics
import Derived.Deep.MidRow
import Derived.WalkSpells
import Derived.WalkLawsBesides
import Derived.Maps.AppendAt
import Derived.OwnWalk
import Derived.OrdersHeld
import Derived.Deep.OwnRows
import Derived.WalkKit
import Derived.Lib.Hide
import Derived.Laws.OwnMore
import Derived.Test.YtojbijkljnohoaaProg
import Derived.Outline
import Derived.Deep.DeepFit
import Derived.BigQuiet
import Derived.Deep.QuietTactic
import Derived.Sort.OwnSortedInts
import Derived.WideMake
import Derived.MapKept
import Derived.ChangeMaps5
import Derived.Shelf.Sort.Plain
import Derived.RangeFuncBox
import Derived.RangeFuncLeaves
import Derived.Shelf.Abstract
import Derived.OwnWalkIn
import Derived.TacticsInMore
import Derived.LoopNIn
import Derived.LoopIn
import Derived.RangeFuncWrites
import Derived.RangeFuncNested
import Derived.Sort.CutIn
set_option linter.unusedVariables false
set_option linter.unusedSimpArgs false
/-! The reference: an orbit. -/
namespace Go.Proofs.Ytojbijkljnohoaa
open Go.RowKit
open Go.Proofs
open Go.Proofs.Cm (Tr TabOk)
attribute [local irreducible] Go.Calls Go.wpList

theorem OwI.shape {B : Nat} {W : World} {v : Value} {l : List Int} (h : OwI B W v l) : ∃ a c, v = .slice a l.length c := Rg.row_shape h.own
theorem OwI.nil (B : Nat) (W : World) : OwI B W (.slice none 0 0) [] := ⟨World.ownsRow_nil _ _ _ _⟩
theorem OwI.push {B : Nat} {W : World} {v : Value} {l : List Int} (h : OwI B W v l) (hB : B ≤ W.heap.size) (x : Int) (hn : l.length < 1000000) (ty : TypeId) :
    ∃ a c X, (Builtin.append_ #[33, 33] ty #[v, .slice (some ⟨W.heap.size, 0, none⟩) 1 1]).run Try.prog (W.alloc (.cells #[.int .i64 x] 3)) = .ok (.slice a (l.length + 1) c) X ∧ OwI B X (.slice a (l.length + 1) c) (l ++ [x]) ∧ (∀ {B' : Nat} {W0 : World}, B' ≤ B → Below B' W0 W → Below B' W0 X) := by
  have hb : Below W.heap.size W (W.alloc (.cells #[.int .i64 x] 3)) := (Below.refl _ _).alloc (Nat.le_refl _) _
  obtain ⟨v', X, r1, r2, r3, r4, a, c, rfl⟩ := app_run (P := Try.prog) slInts ty (Rg.row_below h.own hb) (Nat.le_trans hB hb.size) W.heap.size 1 (u := .int .i64 x) (by rw [Rg.cellNew]; rfl) rfl hn
  refine ⟨a, c, X, r1, ⟨by rw [List.length_append, List.map_append]; exact r2⟩, fun {B' W0} hB' hb0 => ?_⟩
  exact (hb0.alloc (Nat.le_trans hB' hB) _).grown r3 (Nat.le_trans (Nat.le_trans hB' hB) hb.size) (fun j hj => Nat.le_trans hB' ((Rg.row_below h.own hb).lt j hj).1)
/-- of the points below p those that the table reaches from i -/
def orbP (tr : Tr) (i p : Nat) : List Nat := (List.range p).filter fun q => decide (i ≤ q) && (q == i || (tr i q).isSome)
def orbL (n : Nat) (tr : Tr) (i : Nat) : List Nat := orbP tr i n
theorem orbP_start (tr : Tr) (i : Nat) : orbP tr i i = [] := by
  unfold orbP
  rw [List.filter_eq_nil_iff]
  intro q hq
  have := List.mem_range.1 hq
  simp; omega
theorem orbP_yes {tr : Tr} {i p : Nat} (hi : i ≤ p) (h : p = i ∨ (tr i p).isSome = true) : orbP tr i (p + 1) = orbP tr i p ++ [p] := by
  unfold orbP
  rw [List.range_succ, List.filter_append]
  have : (decide (i ≤ p) && (p == i || (tr i p).isSome)) = true := by
    rcases h with h | h
    · simp [h]
    · simp [hi, h]
  simp [this]
theorem orbP_no {tr : Tr} {i p : Nat} (h : p ≠ i) (h2 : tr i p = none) : orbP tr i (p + 1) = orbP tr i p := by
  unfold orbP
  rw [List.range_succ, List.filter_append]
  simp [h, h2]
theorem orbP_len (tr : Tr) (i p : Nat) : (orbP tr i p).length ≤ p := by
  unfold orbP
  have := List.length_filter_le (fun q => decide (i ≤ q) && (q == i || (tr i q).isSome)) (List.range p)
  simpa using this
theorem mem_orbP {tr : Tr} {i p q : Nat} : q ∈ orbP tr i p ↔ q < p ∧ i ≤ q ∧ (q = i ∨ (tr i q).isSome = true) := by
  unfold orbP
  rw [List.mem_filter, List.mem_range]
  simp
theorem orbP_asc (tr : Tr) (i p : Nat) : (orbP tr i p).Pairwise (· < ·) := List.Pairwise.filter _ List.pairwise_lt_range
theorem ofN_snoc (l : List Nat) (x : Nat) : Ma.ofN (l ++ [x]) = Ma.ofN l ++ [(x : Int)] := by simp [Ma.ofN]
def OrbPost (w : World) (l : List Nat) (e : Ending) (w' : World) : Prop := ∃ v, e = .returned v ∧ OwI w.heap.size w' v (Ma.ofN l) ∧ Below w.heap.size w w'
set_option maxRecDepth 100000 in
set_option maxHeartbeats 4000000 in
theorem orbit_any {n : Nat} (hn1 : 1 ≤ n) (hn2 : n ≤ 64) {F : Nat → Prop} {tb tf tc : Nat} {w : World} {tr : Tr} {Rb : Nat → Nat} {V : Nat → Nat → Value} (hT : TabAt F tb tf n w tr Rb V) (hgd : ∀ i p u, tr i p = some u → Cm.Gd n u) {i : Nat} (hi : i < n) :
    Calls Try.prog 118 #[.slice (some ⟨tb, tf, none⟩) n tc, .int .i64 ((i : Nat) : Int)] w (OrbPost w (orbL n tr i)) := by
  have HT := Lib.hid hT
  have HG := Lib.hid hgd
  have HIN := Lib.hid hi
  have CO := Lib.hid (hT.out i hi)
  have K := Lib.hid (Below.refl w.heap.size w)
  have RO := Lib.hid (show OwI w.heap.size w (.slice none 0 0) (Ma.ofN (orbP tr i i)) by rw [orbP_start]; exact OwI.nil _ _)
  have hlen0 : (orbP tr i i).length = 0 := by rw [orbP_start]; rfl
  clear hT hgd
  go_enter Try.func118, Try.ntmps118
  go_wp2
  go_loopw [5, 6] (fun tv qv wr => ∃ (q : Nat) (a : Option Addr) (c : Nat), qv = .int .i64 q ∧ tv = .slice a (orbP tr i q).length c ∧ i ≤ q ∧ q ≤ n ∧ Hid (OwI w.heap.size wr tv (Ma.ofN (orbP tr i q))) ∧ Hid (Below w.heap.size w wr)) (fun _ qv _ => n - (intOf qv).toNat)
  case atStart => exact ⟨i, _, _, rfl, by rw [hlen0], Nat.le_refl _, Nat.le_of_lt HIN.out, RO, K⟩
  case round =>
    clear RO K hlen0
    obtain ⟨q, ta, tcc, rfl, rfl, hiq, hq, RO, K⟩ := hrel
    by_cases hqn : q < n
    · have hqN : (q : Int) < (n : Int) := by omega
      have HQN := Lib.hid hqn
      have CE := Lib.hid (CL.mk (show w.cell? ⟨Rb i, 0 + q, none⟩ = some (V i q) by rw [Nat.zero_add]; exact HT.out.cell hi hqn) (HT.out.lt hi))
      have HPL := Lib.hid (show (Ma.ofN (orbP tr i q)).length < 1000000 by rw [Ma.len_ofN]; have := orbP_len tr i q; omega)
      have HPE := Lib.hid (Ma.len_ofN (orbP tr i q))
      by_cases hqi : q = i
      · have hqiN : (q : Int) = (i : Int) := by omega
        have HE := Lib.hid (orbP_yes (tr := tr) hiq (.inl hqi))
        go_upto_region 5 with (fail)
        refine wp_region_list ?_
        refine Rg.list_run (some 14) rfl rfl (Rg.exec_move (v := .int .i64 ((q : Nat) : Int)) _ rfl rfl) ?_
        go_frame
        refine Rg.list_run (some 15) rfl rfl (Rg.exec_move (v := .int .i64 ((i : Nat) : Int)) _ rfl rfl) ?_
        go_frame
        refine Rg.list_run (some 16) rfl rfl (exec_bin (R := .bool true) .eql _ _ _ rfl rfl rfl (b_eql _ (decide_eq_true (by omega)))) ?_
        go_frame
        refine Rg.list_run (some 17) rfl rfl (Rg.exec_move (v := .bool true) _ rfl rfl) ?_
        go_frame
        refine listW_pass (some 18) (by kernel_rfl) rfl ?_
        go_frame
        refine listW_pass (some 19) (by kernel_rfl) rfl ?_
        go_frame
        refine listW_pass (some 20) (by kernel_rfl) rfl ?_
        go_frame
        refine listW_pass (some 21) (by kernel_rfl) rfl ?_
        go_frame
        refine listW_pass (some 22) (by kernel_rfl) rfl ?_
        go_frame
        refine listW_pass (some 23) (by kernel_rfl) rfl ?_
        go_frame
        refine listW_pass (some 24) (by kernel_rfl) rfl ?_
        go_frame
        refine listW_pass (some 25) (by kernel_rfl) rfl ?_
        go_frame
        refine Rg.list_run (some 26) rfl rfl (exec_pickT (v := .bool true) _ _ _ rfl rfl rfl) ?_
        go_frame
        go_upto_region 6 with (fail)
        refine wp_region_list ?_
        refine Rg.list_run (some 27) rfl rfl (Rg.exec_move (v := .slice ta (orbP tr i q).length tcc) _ rfl rfl) ?_
        go_frame
        refine Rg.list_run (some 28) rfl rfl (Rg.exec_move (v := .int .i64 ((q : Nat) : Int)) _ rfl rfl) ?_
        go_frame
        refine Rg.list_run (some 29) rfl rfl (Rg.exec_buildSlice _ _ _ rfl (.int .i64 ((q : Nat) : Int)) rfl (run_build1i wr _)) ?_
        go_frame
        obtain ⟨a9, c9, X9, r1, r2, r3⟩ := RO.out.push K.out.size ((q : Nat) : Int) HPL.out 33
        rw [HPE.out] at r1 r2
        refine Rg.list_run (some 30) rfl rfl (Rg.exec_append _ _ _ rfl rfl rfl r1) ?_
        go_frame
        refine Rg.list_run (some 5) rfl rfl (Rg.exec_assign (v := .slice a9 ((orbP tr i q).length + 1) c9) _ rfl rfl) ?_
        go_frame
        have K2 := Lib.hid (r3 (Nat.le_refl _) K.out)
        have RO2 := Lib.hid (show OwI w.heap.size X9 (.slice a9 ((orbP tr i q).length + 1) c9) (Ma.ofN (orbP tr i (q + 1))) by rw [HE.out, ofN_snoc]; exact r2)
        have HL2 := Lib.hid (show (orbP tr i (q + 1)).length = (orbP tr i q).length + 1 by rw [HE.out, List.length_append]; rfl)
        clear r1 r2 r3
        go_wp2
        go_roundw
        case rel => exact ⟨q + 1, _, _, by go_num, by rw [HL2.out], by omega, HQN.out, RO2, K2⟩
        case measure => simp [intOf]; have := HQN.out; omega
      · have hqiN : ¬ (q : Int) = (i : Int) := by omega
        cases htr : tr i q with
        | none =>
          have hnil := HT.out.none_ i q hi hqn htr
          rw [hnil] at CE
          have HE := Lib.hid (orbP_no hqi htr)
          clear hnil htr
          go_upto_region 5 with (fail)
          refine wp_region_list ?_
          refine Rg.list_run (some 14) rfl rfl (Rg.exec_move (v := .int .i64 ((q : Nat) : Int)) _ rfl rfl) ?_
          go_frame
          refine Rg.list_run (some 15) rfl rfl (Rg.exec_move (v := .int .i64 ((i : Nat) : Int)) _ rfl rfl) ?_
          go_frame
          refine Rg.list_run (some 16) rfl rfl (exec_bin (R := .bool false) .eql _ _ _ rfl rfl rfl (b_eql _ (decide_eq_false (by omega)))) ?_
          go_frame
          refine Rg.list_run (some 17) rfl rfl (Rg.exec_move (v := .bool false) _ rfl rfl) ?_
          go_frame
          refine listW_run (some 18) rfl rfl (Rg.exec_move (v := .slice (some ⟨tb, tf, none⟩) n tc) _ rfl rfl) ?_
          go_frame
          refine listW_run (some 19) rfl rfl (Rg.exec_move (v := .int .i64 ((i : Nat) : Int)) _ rfl rfl) ?_
          go_frame
          refine listW_run (some 20) rfl rfl (exec_indexS slTable _ _ rfl tb (tf) (n) tc (i) rfl rfl HIN.out) ?_
          go_frame
          refine listW_run (some 21) rfl rfl (Rg.exec_load (v := .slice (some ⟨(Rb i), 0, none⟩) n n) _ _ rfl ⟨tb, tf + i, none⟩ rfl (Rg.run_loadSl _ _ Try.underlying22 ((Below.cell (p := ⟨tb, tf + i, none⟩) K.out CO.out.lt).trans CO.out.cell))) ?_
          go_frame
          refine listW_run (some 22) rfl rfl (Rg.exec_move (v := .int .i64 ((q : Nat) : Int)) _ rfl rfl) ?_
          go_frame
          refine listW_run (some 23) rfl rfl (exec_indexS slPerms _ _ rfl (Rb i) (0) (n) n (q) rfl rfl HQN.out) ?_
          go_frame
          refine listW_run (some 24) rfl rfl (Rg.exec_load (v := .slice none 0 0) _ _ rfl ⟨(Rb i), 0 + q, none⟩ rfl (Rg.run_loadSl _ _ Try.underlying62 ((Below.cell (p := ⟨(Rb i), 0 + q, none⟩) K.out CE.out.lt).trans CE.out.cell))) ?_
          go_frame
          refine listW_run (some 25) rfl rfl (exec_nilNF _ _ rfl rfl rfl) ?_
          go_frame
          refine Rg.list_run (some 26) rfl rfl (exec_pickF (v := .bool false) _ _ _ rfl rfl rfl) ?_
          go_frame
          have RO2 := Lib.hid (show OwI w.heap.size wr (.slice ta (orbP tr i q).length tcc) (Ma.ofN (orbP tr i (q + 1))) by rw [HE.out]; exact RO.out)
          have HL2 := Lib.hid (show (orbP tr i (q + 1)).length = (orbP tr i q).length by rw [HE.out])
          go_wp2
          go_roundw
          case rel => exact ⟨q + 1, _, _, by go_num, by rw [HL2.out], by omega, HQN.out, RO2, K⟩
          case measure => simp [intOf]; have := HQN.out; omega
        | some u =>
          have gu := HG.out i q u htr
          have hup := HT.out.some_ i q u hi hqn htr
          obtain ⟨ub, uo, uc, huv⟩ := hup.shape' gu hn1
          rw [huv] at CE
          have HE := Lib.hid (orbP_yes (tr := tr) hiq (.inr (by rw [htr]; rfl)))
          clear gu hup huv htr
          go_upto_region 5 with (fail)
          refine wp_region_list ?_
          refine Rg.list_run (some 14) rfl rfl (Rg.exec_move (v := .int .i64 ((q : Nat) : Int)) _ rfl rfl) ?_
          go_frame
          refine Rg.list_run (some 15) rfl rfl (Rg.exec_move (v := .int .i64 ((i : Nat) : Int)) _ rfl rfl) ?_
          go_frame
          refine Rg.list_run (some 16) rfl rfl (exec_bin (R := .bool false) .eql _ _ _ rfl rfl rfl (b_eql _ (decide_eq_false (by omega)))) ?_
          go_frame
          refine Rg.list_run (some 17) rfl rfl (Rg.exec_move (v := .bool false) _ rfl rfl) ?_
          go_frame
          refine listW_run (some 18) rfl rfl (Rg.exec_move (v := .slice (some ⟨tb, tf, none⟩) n tc) _ rfl rfl) ?_
          go_frame
          refine listW_run (some 19) rfl rfl (Rg.exec_move (v := .int .i64 ((i : Nat) : Int)) _ rfl rfl) ?_
          go_frame
          refine listW_run (some 20) rfl rfl (exec_indexS slTable _ _ rfl tb (tf) (n) tc (i) rfl rfl HIN.out) ?_
          go_frame
          refine listW_run (some 21) rfl rfl (Rg.exec_load (v := .slice (some ⟨(Rb i), 0, none⟩) n n) _ _ rfl ⟨tb, tf + i, none⟩ rfl (Rg.run_loadSl _ _ Try.underlying22 ((Below.cell (p := ⟨tb, tf + i, none⟩) K.out CO.out.lt).trans CO.out.cell))) ?_
          go_frame
          refine listW_run (some 22) rfl rfl (Rg.exec_move (v := .int .i64 ((q : Nat) : Int)) _ rfl rfl) ?_
          go_frame
          refine listW_run (some 23) rfl rfl (exec_indexS slPerms _ _ rfl (Rb i) (0) (n) n (q) rfl rfl HQN.out) ?_
          go_frame
          refine listW_run (some 24) rfl rfl (Rg.exec_load (v := .slice (some ⟨ub, uo, none⟩) n uc) _ _ rfl ⟨(Rb i), 0 + q, none⟩ rfl (Rg.run_loadSl _ _ Try.underlying62 ((Below.cell (p := ⟨(Rb i), 0 + q, none⟩) K.out CE.out.lt).trans CE.out.cell))) ?_
          go_frame
          refine listW_run (some 25) rfl rfl (exec_nilNT _ _ rfl rfl rfl) ?_
          go_frame
          refine Rg.list_run (some 26) rfl rfl (exec_pickF (v := .bool true) _ _ _ rfl rfl rfl) ?_
          go_frame
          go_upto_region 6 with (fail)
          refine wp_region_list ?_
          refine Rg.list_run (some 27) rfl rfl (Rg.exec_move (v := .slice ta (orbP tr i q).length tcc) _ rfl rfl) ?_
          go_frame
          refine Rg.list_run (some 28) rfl rfl (Rg.exec_move (v := .int .i64 ((q : Nat) : Int)) _ rfl rfl) ?_
          go_frame
          refine Rg.list_run (some 29) rfl rfl (Rg.exec_buildSlice _ _ _ rfl (.int .i64 ((q : Nat) : Int)) rfl (run_build1i wr _)) ?_
          go_frame
          obtain ⟨a9, c9, X9, r1, r2, r3⟩ := RO.out.push K.out.size ((q : Nat) : Int) HPL.out 33
          rw [HPE.out] at r1 r2
          refine Rg.list_run (some 30) rfl rfl (Rg.exec_append _ _ _ rfl rfl rfl r1) ?_
          go_frame
          refine Rg.list_run (some 5) rfl rfl (Rg.exec_assign (v := .slice a9 ((orbP tr i q).length + 1) c9) _ rfl rfl) ?_
          go_frame
          have K2 := Lib.hid (r3 (Nat.le_refl _) K.out)
          have RO2 := Lib.hid (show OwI w.heap.size X9 (.slice a9 ((orbP tr i q).length + 1) c9) (Ma.ofN (orbP tr i (q + 1))) by rw [HE.out, ofN_snoc]; exact r2)
          have HL2 := Lib.hid (show (orbP tr i (q + 1)).length = (orbP tr i q).length + 1 by rw [HE.out, List.length_append]; rfl)
          clear r1 r2 r3
          go_wp2
          go_roundw
          case rel => exact ⟨q + 1, _, _, by go_num, by rw [HL2.out], by omega, HQN.out, RO2, K2⟩
          case measure => simp [intOf]; have := HQN.out; omega
    · obtain rfl : q = n := by omega
      have hqN : ¬ (q : Int) < (q : Int) := by omega
      go_wp2
      go_ret
      exact (show OrbPost _ _ _ _ from ⟨_, rfl, RO.out, K.out⟩)
end Go.Proofs.Ytojbijkljnohoaa

/-! The reference: the least of a coset. -/
namespace Go.Proofs.Ytojbijkljnohoaa
open Go.RowKit
open Go.Proofs
open Go.Proofs.Cm (Tr TabOk)
attribute [local irreducible] Go.Calls Go.wpList

theorem Wncl0 (args : Array Value) (w : World) : (callFunc 64 args).run Try.prog w = .ok (.enter 64 args) w := by kernel_rfl
theorem Wncl1 (args : Array Value) (w : World) : (callFunc 118 args).run Try.prog w = .ok (.enter 118 args) w := by kernel_rfl
theorem Wncl2 (args : Array Value) (w : World) : (callFunc 63 args).run Try.prog w = .ok (.enter 63 args) w := by kernel_rfl
theorem Wncl3 (args : Array Value) (w : World) : (callFunc 65 args).run Try.prog w = .ok (.enter 65 args) w := by kernel_rfl
theorem OwI.up {B : Nat} {W W' : World} {v : Value} {l : List Int} (h : OwI B W v l) (hb : Below W.heap.size W W') : OwI B W' v l := h.below hb
theorem OwI.at {B : Nat} {W : World} {a : Option Addr} {m c : Nat} {l : List Nat} (h : OwI B W (.slice a m c) (Ma.ofN l)) {k : Nat} (hk : k < l.length) : ∃ g, a = some ⟨g, 0, none⟩ ∧ CL W g (0 + k) (.int .i64 ((l[k] : Nat) : Int)) := by
  obtain ⟨g, c', u, e1, e2, e3, e4⟩ := row_of h.own (k := k) (by rw [Ma.len_ofN]; exact hk)
  injection e1 with e1 _ _
  refine ⟨g, e1, ?_, e4⟩
  rw [e2, ← e3]
  simp [Ma.ofN, List.getElem?_eq_getElem hk]
theorem tab_ge {n : Nat} {gs : List Nat → Prop} {tr : Tr} (h : TabOk n gs tr) {i p : Nat} {u : List Nat} (h1 : tr i p = some u) : i ≤ p := by
  have hne : p ≠ i := fun e => by subst e; rw [h.diag] at h1; cases h1
  have hid : Cm.idT n tr i p = some u := by rw [Cm.idT_ne hne]; exact h1
  have hi := (h.lt i p u h1).1
  have hp := (h.lt i p u h1).2
  refine Nat.le_of_not_lt fun hlt => hne ?_
  have a1 := h.rp.at_ i p u (Nat.zero_le _) hi hid
  have a2 := h.rp.fx i p u (Nat.zero_le _) hi hid p hlt
  exact Cm.ap_inj (h.rp.gd i p u (Nat.zero_le _) hi hid) hp hi (a2.trans a1.symm)
theorem mem_orbL {n : Nat} {gs : List Nat → Prop} {tr : Tr} (h : TabOk n gs tr) {i p : Nat} (hi : i < n) : p ∈ orbL n tr i ↔ ∃ u, Cm.idT n tr i p = some u := by
  unfold orbL
  rw [mem_orbP]
  constructor
  · rintro ⟨h1, h2, h3⟩
    by_cases e : p = i
    · subst e; exact ⟨_, Cm.idT_self⟩
    · rw [Cm.idT_ne e]
      rcases h3 with h3 | h3
      · exact absurd h3 e
      · exact Option.isSome_iff_exists.1 h3
  · rintro ⟨u, hu⟩
    by_cases e : p = i
    · subst e; exact ⟨hi, Nat.le_refl _, .inl rfl⟩
    · rw [Cm.idT_ne e] at hu
      exact ⟨(h.lt i p u hu).2, tab_ge h hu, .inr (by rw [hu]; rfl)⟩
def RLPost (w : World) (n i : Nat) (H : List Nat → Prop) (u : List Nat) (e : Ending) (w' : World) : Prop := ∃ v y B, e = .returned v ∧ w.heap.size ≤ B ∧ w'.ownsRow B 3 1 v (Ma.ofN y).length ((Ma.ofN y).map (Value.int .i64)) ∧ Cm.LI H i n u y ∧ Cm.Gd n y ∧ Below w.heap.size w w'
set_option maxRecDepth 100000 in
set_option maxHeartbeats 8000000 in
theorem rleast_any {n : Nat} (hn1 : 1 ≤ n) (hn2 : n ≤ 64) {F0 : Nat → Prop} {tb tf tc : Nat} {w : World} {tr : Tr} {Rb : Nat → Nat} {V : Nat → Nat → Value} (hT : TabAt F0 tb tf n w tr Rb V) {gs : List Nat → Prop} (hg : ∀ s, gs s → Cm.Gd n s) (hok : TabOk n gs tr) (htr : Cm.IsTr n (Cm.Gr n gs) (Cm.idT n tr)) {i p : Nat} (hi : i < n) {u : List Nat} (hu : Cm.idT n tr i p = some u) :
    Calls Try.prog 119 #[.slice (some ⟨tb, tf, none⟩) n tc, .int .i64 ((i : Nat) : Int), .int .i64 ((p : Nat) : Int)] w (RLPost w n i (Cm.Gr n gs) u) := by
  have HT := Lib.hid hT
  have HH := Lib.hid (Cm.Gr.isG hg)
  have OK := Lib.hid hok
  have HTR := Lib.hid htr
  have HIN := Lib.hid hi
  have HU := Lib.hid hu
  have GU0 := Lib.hid (hok.rp.gd i p u (Nat.zero_le _) hi hu)
  have HLI := Lib.hid (Cm.LI.start (Cm.Gr.isG hg) hi GU0.out)
  have CO := Lib.hid (hT.out i hi)
  have K := Lib.hid (KG.refl hT.Flt)
  have KB := Lib.hid (Below.refl w.heap.size w)
  have hpn : p < n := by
    by_cases e : p = i
    · omega
    · rw [Cm.idT_ne e] at hu; exact (hok.lt i p u hu).2
  have HPN := Lib.hid hpn
  have CE := Lib.hid (CL.mk (show w.cell? ⟨Rb i, 0 + p, none⟩ = some (V i p) by rw [Nat.zero_add]; exact hT.cell hi hpn) (hT.lt hi))
  clear hT hg hok htr hu
  go_enter Try.func119, Try.ntmps119
  go_upto_region 1 with (fail)
  refine wp_region_list ?_
  refine Rg.list_run (some 12) rfl rfl (Rg.exec_move (v := .slice (some ⟨tb, tf, none⟩) n tc) _ rfl rfl) ?_
  go_frame
  refine Rg.list_run (some 13) rfl rfl (exec_len _ _ _ rfl Try.underlying106 _ _ _ rfl) ?_
  go_frame
  refine list_ask (some 14) rfl rfl _ _ (exec_fn1 64 _ _ rfl rfl (Wncl0 _ _)) ?_
  refine (kitOne_any n w (by omega)).mono ?_
  rintro e1 w1 ⟨ov, rfl, hov, hb⟩
  replace KB := Lib.hid (Rg.acc KB.out hb)
  refine ⟨_, rfl, ?_⟩
  go_frame
  replace HT := Lib.hid (HT.out.up hb)
  replace CO := Lib.hid (CO.out.up hb)
  replace CE := Lib.hid (CE.out.up hb)
  replace K := Lib.hid (K.out.up hb)
  have XO := Lib.hid (FP.new (F := F0) hov)
  generalize Fup F0 w w1 = F1 at *
  clear hb
  refine Rg.list_run (some 7) rfl rfl (Rg.exec_assign (v := ov) _ rfl rfl) ?_
  go_frame
  clear hov
  by_cases hpi : p = i
  · have hpiN : (p : Int) = (i : Int) := by omega
    have XV := Lib.hid (show FP F1 w1 ov u by
      have := HU.out
      subst hpi
      rw [Cm.idT_self] at this
      injection this with this
      rw [← this]; exact XO.out)
    clear hpi XO CO CE
    go_upto_region 2 with (fail)
    refine wp_region_list ?_
    refine Rg.list_run (some 15) rfl rfl (Rg.exec_move (v := .int .i64 ((p : Nat) : Int)) _ rfl rfl) ?_
    go_frame
    refine Rg.list_run (some 16) rfl rfl (Rg.exec_move (v := .int .i64 ((i : Nat) : Int)) _ rfl rfl) ?_
    go_frame
    refine Rg.list_run (some 17) rfl rfl (exec_bin (R := .bool false) .neq _ _ _ rfl rfl rfl (b_neqB _ (decide_eq_false (by omega)))) ?_
    go_frame
    go_wp2
    go_loopw [8, 7] (fun kv yv wr => ∃ (k : Nat) (y : List Nat) (F1 : Nat → Prop), kv = .int .i64 k ∧ i < k ∧ k ≤ n ∧ Hid (FP F1 wr yv y) ∧ Hid (TabAt F1 tb tf n wr tr Rb V) ∧ Hid (KG F0 w F1 wr) ∧ Hid (Below w.heap.size w wr) ∧ Hid (Cm.Gd n y) ∧ Hid (Cm.LI (Cm.Gr n gs) i k u y)) (fun kv _ _ => n - (intOf kv).toNat)
    case atStart => exact ⟨i + 1, u, _, by go_num, Nat.lt_succ_self _, HIN.out, XV, HT, K, KB, GU0, HLI⟩
    case round =>
      clear XV HT K KB HLI
      obtain ⟨k, y, F, rfl, hk1, hk2, X, HT, K, KB, GY, HLI⟩ := hrel
      obtain ⟨yb, yo, yc, rfl⟩ := X.out.shape' GY.out hn1
      by_cases hkl : k < n
      · have hkN : (k : Int) < (n : Int) := by omega
        have HKL := Lib.hid hkl
        go_upto_region 7 with (fail)
        refine wp_region_list ?_
        refine Rg.list_run (some 33) rfl rfl (Rg.exec_move (v := .slice (some ⟨tb, tf, none⟩) n tc) _ rfl rfl) ?_
        go_frame
        refine Rg.list_run (some 34) rfl rfl (Rg.exec_move (v := .int .i64 ((k : Nat) : Int)) _ rfl rfl) ?_
        go_frame
        refine list_ask (some 35) rfl rfl _ _ (exec_fn 118 _ _ _ rfl rfl rfl (Wncl1 _ _)) ?_
        refine (orbit_any hn1 hn2 HT.out (fun i p u e => tab_gd OK.out e) HKL.out).mono ?_
        rintro e1 w1 ⟨ov2, rfl, hov, hb⟩
        replace KB := Lib.hid (Rg.acc KB.out hb)
        refine ⟨_, rfl, ?_⟩
        go_frame
        replace HT := Lib.hid (HT.out.up hb)
        replace X := Lib.hid (X.out.up hb)
        replace K := Lib.hid (K.out.up hb)
        have RO := Lib.hid hov
        generalize Fup F wr w1 = F1 at *
        clear hb
        refine Rg.list_run (some 9) rfl rfl (Rg.exec_assign (v := ov2) _ rfl rfl) ?_
        go_frame
        clear hov
        obtain ⟨oa, oc, hsh⟩ := RO.out.shape
        rw [Ma.len_ofN] at hsh
        subst hsh
        have HOM := Lib.hid (fun q => mem_orbL (p := q) OK.out HKL.out)
        have HOL := Lib.hid (orbP_len tr k n)
        obtain ⟨O, hO⟩ : ∃ O, Hid (orbL n tr k = O) := ⟨_, Lib.hid rfl⟩
        have hOl := HOL.out
        rw [show orbP tr k n = O from hO.out] at hOl
        replace HOL := Lib.hid hOl
        rw [hO.out] at RO HOM ⊢
        obtain ⟨B9, hB9⟩ : ∃ B, Hid (wr.heap.size = B) := ⟨_, Lib.hid rfl⟩
        rw [hB9.out] at RO
        clear hOl hO hB9
        have HK0 := Lib.hid (show ∀ m (h : m < O.length), m < 0 → Cm.ap y k ≤ Cm.ap y O[m] from fun m _ h => absurd h (Nat.not_lt_zero _))
        have HBK := Lib.hid (show ∃ v, Cm.idT n tr k k = some v from ⟨_, Cm.idT_self⟩)
        go_wp2
        go_loopw [10, 11] (fun bv iv wr => ∃ (b m : Nat) (F1 : Nat → Prop), bv = .int .i64 b ∧ iv = .int .i64 m ∧ m ≤ O.length ∧ b < n ∧ Hid (FP F1 wr (.slice (some ⟨yb, yo, none⟩) n yc) y) ∧ Hid (TabAt F1 tb tf n wr tr Rb V) ∧ Hid (OwI B9 wr (.slice oa O.length oc) (Ma.ofN O)) ∧ Hid (KG F0 w F1 wr) ∧ Hid (Below w.heap.size w wr) ∧ Hid (∃ v, Cm.idT n tr k b = some v) ∧ Hid (∀ m' (h : m' < O.length), m' < m → Cm.ap y b ≤ Cm.ap y O[m'])) (fun _ iv _ => O.length - (intOf iv).toNat)
        case atStart => exact ⟨k, 0, _, rfl, rfl, Nat.zero_le _, HKL.out, X, HT, RO, K, KB, HBK, HK0⟩
        case round =>
          clear X HT RO K KB HBK HK0
          obtain ⟨b, m, F, rfl, rfl, hm, hbn, X, HT, RO, K, KB, HBK, HK0⟩ := hrel
          have hoN : (O.length : Int) ≤ 64 := by have := HOL.out; omega
          by_cases hml : m < O.length
          · have hmN : (m : Int) < (O.length : Int) := by omega
            obtain ⟨og, rfl, hcq⟩ := RO.out.at hml
            obtain ⟨q, hq⟩ : ∃ q : Nat, Hid (q = O[m]) := ⟨_, Lib.hid rfl⟩
            rw [← hq.out] at hcq
            have CQ := Lib.hid hcq
            have HML := Lib.hid hml
            have HBN := Lib.hid hbn
            have HQR := Lib.hid ((HOM.out q).1 (by rw [hq.out]; exact List.getElem_mem hml))
            have hqn : q < n := by
              obtain ⟨v, hv⟩ := HQR.out
              by_cases e : q = k
              · have := HKL.out; omega
              · rw [Cm.idT_ne e] at hv; exact (OK.out.lt k q v hv).2
            have HQN := Lib.hid hqn
            have CXq := Lib.hid (X.out.ap GY.out hqn)
            have CXb := Lib.hid (X.out.ap GY.out hbn)
            obtain ⟨yq, hyq⟩ : ∃ z : Nat, Hid (z = Cm.ap y q) := ⟨_, Lib.hid rfl⟩
            obtain ⟨yb', hyb⟩ : ∃ z : Nat, Hid (z = Cm.ap y b) := ⟨_, Lib.hid rfl⟩
            rw [← hyq.out] at CXq
            rw [← hyb.out] at CXb
            clear hcq hqn hbn hm
            by_cases hlt : yq < yb'
            · have hltN : (yq : Int) < (yb' : Int) := by omega
              go_upto_region 12 with (fail)
              have hV1 : Below wr.heap.size wr wr.drew := (Below.refl _ _).drew
              replace KB := Lib.hid (Rg.acc KB.out hV1)
              clear hV1
              have hV0 : Below wr.heap.size wr wr.drew := (Below.refl _ _).drew
              replace HT := Lib.hid (HT.out.up hV0)
              replace X := Lib.hid (X.out.up hV0)
              replace RO := Lib.hid (RO.out.up hV0)
              replace CQ := Lib.hid (CQ.out.up hV0)
              replace CXq := Lib.hid (CXq.out.up hV0)
              replace CXb := Lib.hid (CXb.out.up hV0)
              replace K := Lib.hid (K.out.up hV0)
              generalize Fup F wr wr.drew = F1 at *
              clear hV0
              refine Rg.Any.begin (S := Rg.Both 11 (fun _ => True) (fun W => Below wr.drew.heap.size wr.drew W)) mix ?_
              generalize wr.drew = w1 at *
              have hS : ∀ (l : Array Bool) W, Below w1.heap.size w1 W → Rg.Both 11 (fun _ => True) (fun W => Below w1.heap.size w1 W) l W := fun l W h => ⟨.inr trivial, h⟩
              have hI : Below w1.heap.size w1 w1 := Below.refl _ _
              refine Rg.Any.takeG (i := 0) (t := 11) (v := .slice (some ⟨yb, yo, none⟩) n yc) (some 43) rfl rfl (by kernel_rfl) (by kernel_rfl) (by kernel_rfl) (fun _ _ _ h => h) rfl (.inl ⟨rfl, fun w _ => Rg.exec_move (v := .slice (some ⟨yb, yo, none⟩) n yc) _ rfl rfl⟩) (hS _ _ hI) ?_
              go_frame
              refine Rg.Any.takeG (i := 1) (t := 11) (v := .slice (some ⟨og, 0, none⟩) O.length oc) (some 44) rfl rfl (by kernel_rfl) (by kernel_rfl) (by kernel_rfl) (fun _ _ _ h => h) rfl (.inl ⟨rfl, fun w _ => Rg.exec_move (v := .slice (some ⟨og, 0, none⟩) O.length oc) _ rfl rfl⟩) (hS _ _ hI) ?_
              go_frame
              refine Rg.Any.takeG (i := 2) (t := 11) (v := .int .i64 ((m : Nat) : Int)) (some 45) rfl rfl (by kernel_rfl) (by kernel_rfl) (by kernel_rfl) (fun _ _ _ h => h) rfl (.inl ⟨rfl, fun w _ => Rg.exec_move (v := .int .i64 ((m : Nat) : Int)) _ rfl rfl⟩) (hS _ _ hI) ?_
              go_frame
              refine Rg.Any.takeG (i := 3) (t := 11) (v := .pointer (some ⟨og, 0 + m, none⟩)) (some 46) rfl rfl (by kernel_rfl) (by kernel_rfl) (by kernel_rfl) (fun _ _ _ h => h) rfl (Rg.yields_index slInts _ _ rfl rfl og (0) (O.length) oc (m) rfl rfl HML.out) (hS _ _ hI) ?_
              go_frame
              refine Rg.Any.takeG (i := 4) (t := 11) (v := .int .i64 ((q : Nat) : Int)) (some 47) rfl rfl (by kernel_rfl) (by kernel_rfl) (by kernel_rfl) (fun _ _ _ h => h) rfl (Rg.yields_cell _ _ rfl rfl ⟨og, 0 + m, none⟩ rfl (fun W hW => run_loadInt ((Below.cell (p := ⟨og, 0 + m, none⟩) hW CQ.out.lt).trans CQ.out.cell))) (hS _ _ hI) ?_
              go_frame
              refine Rg.Any.takeG (i := 5) (t := 11) (v := .pointer (some ⟨yb, yo + q, none⟩)) (some 48) rfl rfl (by kernel_rfl) (by kernel_rfl) (by kernel_rfl) (fun _ _ _ h => h) rfl (Rg.yields_index slPerm _ _ rfl rfl yb (yo) (n) yc (q) rfl rfl HQN.out) (hS _ _ hI) ?_
              go_frame
              refine Rg.Any.takeG (i := 6) (t := 11) (v := .int .i64 ((yq : Nat) : Int)) (some 49) rfl rfl (by kernel_rfl) (by kernel_rfl) (by kernel_rfl) (fun _ _ _ h => h) rfl (Rg.yields_cell _ _ rfl rfl ⟨yb, yo + q, none⟩ rfl (fun W hW => run_loadInt ((Below.cell (p := ⟨yb, yo + q, none⟩) hW CXq.out.lt).trans CXq.out.cell))) (hS _ _ hI) ?_
              go_frame
              refine Rg.Any.takeG (i := 7) (t := 11) (v := .slice (some ⟨yb, yo, none⟩) n yc) (some 50) rfl rfl (by kernel_rfl) (by kernel_rfl) (by kernel_rfl) (fun _ _ _ h => h) rfl (.inl ⟨rfl, fun w _ => Rg.exec_move (v := .slice (some ⟨yb, yo, none⟩) n yc) _ rfl rfl⟩) (hS _ _ hI) ?_
              go_frame
              refine Rg.Any.takeG (i := 8) (t := 11) (v := .int .i64 ((b : Nat) : Int)) (some 51) rfl rfl (by kernel_rfl) (by kernel_rfl) (by kernel_rfl) (fun _ _ _ h => h) rfl (.inl ⟨rfl, fun w _ => Rg.exec_move (v := .int .i64 ((b : Nat) : Int)) _ rfl rfl⟩) (hS _ _ hI) ?_
              go_frame
              refine Rg.Any.takeG (i := 9) (t := 11) (v := .pointer (some ⟨yb, yo + b, none⟩)) (some 52) rfl rfl (by kernel_rfl) (by kernel_rfl) (by kernel_rfl) (fun _ _ _ h => h) rfl (Rg.yields_index slPerm _ _ rfl rfl yb (yo) (n) yc (b) rfl rfl HBN.out) (hS _ _ hI) ?_
              go_frame
              refine Rg.Any.takeG (i := 10) (t := 11) (v := .int .i64 ((yb' : Nat) : Int)) (some 53) rfl rfl (by kernel_rfl) (by kernel_rfl) (by kernel_rfl) (fun _ _ _ h => h) rfl (Rg.yields_cell _ _ rfl rfl ⟨yb, yo + b, none⟩ rfl (fun W hW => run_loadInt ((Below.cell (p := ⟨yb, yo + b, none⟩) hW CXb.out.lt).trans CXb.out.cell))) (hS _ _ hI) ?_
              go_frame
              refine Rg.Any.one (i := 11) (by kernel_rfl) (Rg.Any.run (some 54) rfl rfl rfl (exec_bin (R := .bool true) .lss _ _ _ rfl rfl rfl (b_lss _ (decide_eq_true (by omega)))) (hS _ _ hI) ?_)
              go_frame
              refine Rg.Any.done (by kernel_rfl) ?_ _
              clear hS hI
              go_upto_region 13 with (fail)
              refine wp_region_list ?_
              refine Rg.list_run (some 55) rfl rfl (Rg.exec_move (v := .slice (some ⟨og, 0, none⟩) O.length oc) _ rfl rfl) ?_
              go_frame
              refine Rg.list_run (some 56) rfl rfl (Rg.exec_move (v := .int .i64 ((m : Nat) : Int)) _ rfl rfl) ?_
              go_frame
              refine Rg.list_run (some 57) rfl rfl (exec_indexS slInts _ _ rfl og (0) (O.length) oc (m) rfl rfl HML.out) ?_
              go_frame
              refine Rg.list_run (some 58) rfl rfl (Rg.exec_load (v := .int .i64 ((q : Nat) : Int)) _ _ rfl ⟨og, 0 + m, none⟩ rfl (run_loadInt CQ.out.cell)) ?_
              go_frame
              refine Rg.list_run (some 10) rfl rfl (Rg.exec_assign (v := .int .i64 ((q : Nat) : Int)) _ rfl rfl) ?_
              go_frame
              have HK1 := Lib.hid (show ∀ m' (h : m' < O.length), m' < m + 1 → Cm.ap y q ≤ Cm.ap y O[m'] from fun m' h h2 => by
                have a1 := hyq.out
                have a2 := hyb.out
                by_cases e : m' = m
                · subst e
                  rw [← hq.out]; omega
                · have := HK0.out m' h (by omega)
                  omega)
              go_wp2
              go_roundw
              case rel => exact ⟨q, m + 1, _, rfl, by go_num, HML.out, HQN.out, X, HT, RO, K, KB, HQR, HK1⟩
              case measure => simp [intOf]; have := HML.out; omega
            · have hltN : ¬ (yq : Int) < (yb' : Int) := by omega
              go_upto_region 12 with (fail)
              have hV1 : Below wr.heap.size wr wr.drew := (Below.refl _ _).drew
              replace KB := Lib.hid (Rg.acc KB.out hV1)
              clear hV1
              have hV0 : Below wr.heap.size wr wr.drew := (Below.refl _ _).drew
              replace HT := Lib.hid (HT.out.up hV0)
              replace X := Lib.hid (X.out.up hV0)
              replace RO := Lib.hid (RO.out.up hV0)
              replace CQ := Lib.hid (CQ.out.up hV0)
              replace CXq := Lib.hid (CXq.out.up hV0)
              replace CXb := Lib.hid (CXb.out.up hV0)
              replace K := Lib.hid (K.out.up hV0)
              generalize Fup F wr wr.drew = F1 at *
              clear hV0
              refine Rg.Any.begin (S := Rg.Both 11 (fun _ => True) (fun W => Below wr.drew.heap.size wr.drew W)) mix ?_
              generalize wr.drew = w1 at *
              have hS : ∀ (l : Array Bool) W, Below w1.heap.size w1 W → Rg.Both 11 (fun _ => True) (fun W => Below w1.heap.size w1 W) l W := fun l W h => ⟨.inr trivial, h⟩
              have hI : Below w1.heap.size w1 w1 := Below.refl _ _
              refine Rg.Any.takeG (i := 0) (t := 11) (v := .slice (some ⟨yb, yo, none⟩) n yc) (some 43) rfl rfl (by kernel_rfl) (by kernel_rfl) (by kernel_rfl) (fun _ _ _ h => h) rfl (.inl ⟨rfl, fun w _ => Rg.exec_move (v := .slice (some ⟨yb, yo, none⟩) n yc) _ rfl rfl⟩) (hS _ _ hI) ?_
              go_frame
              refine Rg.Any.takeG (i := 1) (t := 11) (v := .slice (some ⟨og, 0, none⟩) O.length oc) (some 44) rfl rfl (by kernel_rfl) (by kernel_rfl) (by kernel_rfl) (fun _ _ _ h => h) rfl (.inl ⟨rfl, fun w _ => Rg.exec_move (v := .slice (some ⟨og, 0, none⟩) O.length oc) _ rfl rfl⟩) (hS _ _ hI) ?_
              go_frame
              refine Rg.Any.takeG (i := 2) (t := 11) (v := .int .i64 ((m : Nat) : Int)) (some 45) rfl rfl (by kernel_rfl) (by kernel_rfl) (by kernel_rfl) (fun _ _ _ h => h) rfl (.inl ⟨rfl, fun w _ => Rg.exec_move (v := .int .i64 ((m : Nat) : Int)) _ rfl rfl⟩) (hS _ _ hI) ?_
              go_frame
              refine Rg.Any.takeG (i := 3) (t := 11) (v := .pointer (some ⟨og, 0 + m, none⟩)) (some 46) rfl rfl (by kernel_rfl) (by kernel_rfl) (by kernel_rfl) (fun _ _ _ h => h) rfl (Rg.yields_index slInts _ _ rfl rfl og (0) (O.length) oc (m) rfl rfl HML.out) (hS _ _ hI) ?_
              go_frame
              refine Rg.Any.takeG (i := 4) (t := 11) (v := .int .i64 ((q : Nat) : Int)) (some 47) rfl rfl (by kernel_rfl) (by kernel_rfl) (by kernel_rfl) (fun _ _ _ h => h) rfl (Rg.yields_cell _ _ rfl rfl ⟨og, 0 + m, none⟩ rfl (fun W hW => run_loadInt ((Below.cell (p := ⟨og, 0 + m, none⟩) hW CQ.out.lt).trans CQ.out.cell))) (hS _ _ hI) ?_
              go_frame
              refine Rg.Any.takeG (i := 5) (t := 11) (v := .pointer (some ⟨yb, yo + q, none⟩)) (some 48) rfl rfl (by kernel_rfl) (by kernel_rfl) (by kernel_rfl) (fun _ _ _ h => h) rfl (Rg.yields_index slPerm _ _ rfl rfl yb (yo) (n) yc (q) rfl rfl HQN.out) (hS _ _ hI) ?_
              go_frame
              refine Rg.Any.takeG (i := 6) (t := 11) (v := .int .i64 ((yq : Nat) : Int)) (some 49) rfl rfl (by kernel_rfl) (by kernel_rfl) (by kernel_rfl) (fun _ _ _ h => h) rfl (Rg.yields_cell _ _ rfl rfl ⟨yb, yo + q, none⟩ rfl (fun W hW => run_loadInt ((Below.cell (p := ⟨yb, yo + q, none⟩) hW CXq.out.lt).trans CXq.out.cell))) (hS _ _ hI) ?_
              go_frame
              refine Rg.Any.takeG (i := 7) (t := 11) (v := .slice (some ⟨yb, yo, none⟩) n yc) (some 50) rfl rfl (by kernel_rfl) (by kernel_rfl) (by kernel_rfl) (fun _ _ _ h => h) rfl (.inl ⟨rfl, fun w _ => Rg.exec_move (v := .slice (some ⟨yb, yo, none⟩) n yc) _ rfl rfl⟩) (hS _ _ hI) ?_
              go_frame
              refine Rg.Any.takeG (i := 8) (t := 11) (v := .int .i64 ((b : Nat) : Int)) (some 51) rfl rfl (by kernel_rfl) (by kernel_rfl) (by kernel_rfl) (fun _ _ _ h => h) rfl (.inl ⟨rfl, fun w _ => Rg.exec_move (v := .int .i64 ((b : Nat) : Int)) _ rfl rfl⟩) (hS _ _ hI) ?_
              go_frame
              refine Rg.Any.takeG (i := 9) (t := 11) (v := .pointer (some ⟨yb, yo + b, none⟩)) (some 52) rfl rfl (by kernel_rfl) (by kernel_rfl) (by kernel_rfl) (fun _ _ _ h => h) rfl (Rg.yields_index slPerm _ _ rfl rfl yb (yo) (n) yc (b) rfl rfl HBN.out) (hS _ _ hI) ?_
              go_frame
              refine Rg.Any.takeG (i := 10) (t := 11) (v := .int .i64 ((yb' : Nat) : Int)) (some 53) rfl rfl (by kernel_rfl) (by kernel_rfl) (by kernel_rfl) (fun _ _ _ h => h) rfl (Rg.yields_cell _ _ rfl rfl ⟨yb, yo + b, none⟩ rfl (fun W hW => run_loadInt ((Below.cell (p := ⟨yb, yo + b, none⟩) hW CXb.out.lt).trans CXb.out.cell))) (hS _ _ hI) ?_
              go_frame
              refine Rg.Any.one (i := 11) (by kernel_rfl) (Rg.Any.run (some 54) rfl rfl rfl (exec_bin (R := .bool false) .lss _ _ _ rfl rfl rfl (b_lss _ (decide_eq_false (by omega)))) (hS _ _ hI) ?_)
              go_frame
              refine Rg.Any.done (by kernel_rfl) ?_ _
              clear hS hI
              have HK1 := Lib.hid (show ∀ m' (h : m' < O.length), m' < m + 1 → Cm.ap y b ≤ Cm.ap y O[m'] from fun m' h h2 => by
                have a1 := hyq.out
                have a2 := hyb.out
                by_cases e : m' = m
                · subst e
                  rw [← hq.out]; omega
                · have := HK0.out m' h (by omega)
                  omega)
              go_wp2
              go_roundw
              case rel => exact ⟨b, m + 1, _, rfl, by go_num, HML.out, HBN.out, X, HT, RO, K, KB, HBK, HK1⟩
              case measure => simp [intOf]; have := HML.out; omega
          · obtain rfl : m = O.length := by omega
            have hmN : ¬ (O.length : Int) < (O.length : Int) := by omega
            have HALL := Lib.hid (show ∀ q', Cm.idT n tr k q' ≠ none → Cm.ap y b ≤ Cm.ap y q' from fun q' hq' => by
              obtain ⟨v, hv⟩ := Option.ne_none_iff_exists'.1 hq'
              obtain ⟨m', hm', rfl⟩ := List.getElem_of_mem ((HOM.out q').2 ⟨v, hv⟩)
              exact HK0.out m' hm' hm')
            obtain ⟨v, hv⟩ := HBK.out
            have HST := Lib.hid (Cm.LI.step HH.out HTR.out GU0.out hk1 HKL.out HLI.out hv HALL.out)
            have GV := Lib.hid (OK.out.rp.gd k b v (Nat.zero_le _) HKL.out hv)
            have GM := Lib.hid (Cm.gd_mul GV.out GY.out)
            clear HALL HK0 HBK
            by_cases hbk : b = k
            · have hbN : (b : Int) = (k : Int) := by omega
              have HE := Lib.hid (show Ma.mulN v y = y by
                subst hbk
                rw [Cm.idT_self] at hv
                injection hv with e
                rw [← e, Cm.one_mul GY.out])
              clear hbk hv
              go_upto_region 14 with (fail)
              refine wp_region_list ?_
              refine Rg.list_run (some 59) rfl rfl (Rg.exec_move (v := .int .i64 ((b : Nat) : Int)) _ rfl rfl) ?_
              go_frame
              refine Rg.list_run (some 60) rfl rfl (Rg.exec_move (v := .int .i64 ((k : Nat) : Int)) _ rfl rfl) ?_
              go_frame
              refine Rg.list_run (some 61) rfl rfl (exec_bin (R := .bool false) .neq _ _ _ rfl rfl rfl (b_neqB _ (decide_eq_false (by omega)))) ?_
              go_frame
              go_wp2
              go_roundw
              case rel => exact ⟨k + 1, y, _, by go_num, by omega, HKL.out, X, HT, K, KB, GY, Lib.hid (by have := HST.out; rwa [HE.out] at this)⟩
              case measure => simp [intOf]; have := HKL.out; omega
            · have hbN : ¬ (b : Int) = (k : Int) := by omega
              rw [Cm.idT_ne hbk] at hv
              have HBN := Lib.hid hbn
              have UP := Lib.hid (HT.out.some_ k b v HKL.out hbn hv)
              have CO := Lib.hid (HT.out.out k HKL.out)
              have CE := Lib.hid (CL.mk (show wr.cell? ⟨Rb k, 0 + b, none⟩ = some (V k b) by rw [Nat.zero_add]; exact HT.out.cell HKL.out hbn) (HT.out.lt HKL.out))
              clear hbk hv
              go_upto_region 14 with (fail)
              refine wp_region_list ?_
              refine Rg.list_run (some 59) rfl rfl (Rg.exec_move (v := .int .i64 ((b : Nat) : Int)) _ rfl rfl) ?_
              go_frame
              refine Rg.list_run (some 60) rfl rfl (Rg.exec_move (v := .int .i64 ((k : Nat) : Int)) _ rfl rfl) ?_
              go_frame
              refine Rg.list_run (some 61) rfl rfl (exec_bin (R := .bool true) .neq _ _ _ rfl rfl rfl (b_neqB _ (decide_eq_true (by omega)))) ?_
              go_frame
              go_upto_region 15 with (fail)
              refine wp_region_list ?_
              refine Rg.list_run (some 62) rfl rfl (Rg.exec_move (v := .slice (some ⟨tb, tf, none⟩) n tc) _ rfl rfl) ?_
              go_frame
              refine Rg.list_run (some 63) rfl rfl (Rg.exec_move (v := .int .i64 ((k : Nat) : Int)) _ rfl rfl) ?_
              go_frame
              refine Rg.list_run (some 64) rfl rfl (exec_indexS slTable _ _ rfl tb (tf) (n) tc (k) rfl rfl HKL.out) ?_
              go_frame
              refine Rg.list_run (some 65) rfl rfl (Rg.exec_load (v := .slice (some ⟨(Rb k), 0, none⟩) n n) _ _ rfl ⟨tb, tf + k, none⟩ rfl (Rg.run_loadSl _ _ Try.underlying22 CO.out.cell)) ?_
              go_frame
              refine Rg.list_run (some 66) rfl rfl (Rg.exec_move (v := .int .i64 ((b : Nat) : Int)) _ rfl rfl) ?_
              go_frame
              refine Rg.list_run (some 67) rfl rfl (exec_indexS slPerms _ _ rfl (Rb k) (0) (n) n (b) rfl rfl HBN.out) ?_
              go_frame
              refine Rg.list_run (some 68) rfl rfl (Rg.exec_load (v := (V k b)) _ _ rfl ⟨(Rb k), 0 + b, none⟩ rfl (Rg.run_loadSl _ _ Try.underlying62 CE.out.cell)) ?_
              go_frame
              refine Rg.list_run (some 69) rfl rfl (Rg.exec_move (v := .slice (some ⟨yb, yo, none⟩) n yc) _ rfl rfl) ?_
              go_frame
              refine list_ask (some 70) rfl rfl _ _ (exec_fn 63 _ _ _ rfl rfl rfl (Wncl2 _ _)) ?_
              refine (kMul_f UP.out X.out GV.out GY.out hn2).mono ?_
              rintro e1 w1 ⟨mv, rfl, hmv, hb⟩
              replace KB := Lib.hid (Rg.acc KB.out hb)
              refine ⟨_, rfl, ?_⟩
              go_frame
              replace HT := Lib.hid (HT.out.up hb)
              replace X := Lib.hid (X.out.up hb)
              replace UP := Lib.hid (UP.out.up hb)
              replace CO := Lib.hid (CO.out.up hb)
              replace CE := Lib.hid (CE.out.up hb)
              replace K := Lib.hid (K.out.up hb)
              have MV := Lib.hid hmv
              generalize Fup F wr w1 = F1 at *
              clear hb
              refine Rg.list_run (some 7) rfl rfl (Rg.exec_assign (v := mv) _ rfl rfl) ?_
              go_frame
              clear hmv
              go_wp2
              go_roundw
              case rel => exact ⟨k + 1, _, _, by go_num, by omega, HKL.out, MV, HT, K, KB, GM, HST⟩
              case measure => simp [intOf]; have := HKL.out; omega
      · obtain rfl : k = n := by omega
        have hkN : ¬ (k : Int) < (k : Int) := by omega
        have HSZ := Lib.hid KB.out.size
        go_upto_region 16 with (fail)
        refine wp_region_list ?_
        refine Rg.list_run (some 71) rfl rfl (Rg.exec_move (v := .slice (some ⟨yb, yo, none⟩) k yc) _ rfl rfl) ?_
        go_frame
        refine list_ask (some 72) rfl rfl _ _ (exec_fn1 65 _ _ rfl rfl (Wncl3 _ _)) ?_
        refine (Own_any _ (Ma.ofN y) wr X.out.np (by rw [Ma.len_ofN, GY.out.2]; omega)).mono ?_
        rintro e1 w1 ⟨v2, rfl, hrow, hb⟩
        replace KB := Lib.hid (Rg.acc KB.out hb)
        have HROW := Lib.hid hrow
        clear hrow
        refine ⟨_, rfl, ?_⟩
        go_frame
        replace HT := Lib.hid (HT.out.up hb)
        replace X := Lib.hid (X.out.up hb)
        replace K := Lib.hid (K.out.up hb)
        generalize Fup F wr w1 = F1 at *
        clear hb
        refine Rg.list_run (some 6) rfl rfl (Rg.exec_assign (v := v2) _ rfl rfl) ?_
        go_frame
        go_wp2
        go_ret
        exact (show RLPost _ _ _ _ _ _ _ from ⟨_, _, _, rfl, HSZ.out, HROW.out, HLI.out, GY.out, KB.out⟩)
  · have hpiN : ¬ (p : Int) = (i : Int) := by omega
    have XV := Lib.hid (HT.out.some_ i p u HIN.out HPN.out (by have := HU.out; rwa [Cm.idT_ne hpi] at this))
    clear hpi XO
    go_upto_region 2 with (fail)
    refine wp_region_list ?_
    refine Rg.list_run (some 15) rfl rfl (Rg.exec_move (v := .int .i64 ((p : Nat) : Int)) _ rfl rfl) ?_
    go_frame
    refine Rg.list_run (some 16) rfl rfl (Rg.exec_move (v := .int .i64 ((i : Nat) : Int)) _ rfl rfl) ?_
    go_frame
    refine Rg.list_run (some 17) rfl rfl (exec_bin (R := .bool true) .neq _ _ _ rfl rfl rfl (b_neqB _ (decide_eq_true (by omega)))) ?_
    go_frame
    go_upto_region 3 with (fail)
    refine wp_region_list ?_
    refine Rg.list_run (some 18) rfl rfl (Rg.exec_move (v := .slice (some ⟨tb, tf, none⟩) n tc) _ rfl rfl) ?_
    go_frame
    refine Rg.list_run (some 19) rfl rfl (Rg.exec_move (v := .int .i64 ((i : Nat) : Int)) _ rfl rfl) ?_
    go_frame
    refine Rg.list_run (some 20) rfl rfl (exec_indexS slTable _ _ rfl tb (tf) (n) tc (i) rfl rfl HIN.out) ?_
    go_frame
    refine Rg.list_run (some 21) rfl rfl (Rg.exec_load (v := .slice (some ⟨(Rb i), 0, none⟩) n n) _ _ rfl ⟨tb, tf + i, none⟩ rfl (Rg.run_loadSl _ _ Try.underlying22 CO.out.cell)) ?_
    go_frame
    refine Rg.list_run (some 22) rfl rfl (Rg.exec_move (v := .int .i64 ((p : Nat) : Int)) _ rfl rfl) ?_
    go_frame
    refine Rg.list_run (some 23) rfl rfl (exec_indexS slPerms _ _ rfl (Rb i) (0) (n) n (p) rfl rfl HPN.out) ?_
    go_frame
    refine Rg.list_run (some 24) rfl rfl (Rg.exec_load (v := (V i p)) _ _ rfl ⟨(Rb i), 0 + p, none⟩ rfl (Rg.run_loadSl _ _ Try.underlying62 CE.out.cell)) ?_
    go_frame
    refine Rg.list_run (some 7) rfl rfl (Rg.exec_assign (v := (V i p)) _ rfl rfl) ?_
    go_frame
    clear CO CE
    go_wp2
    go_loopw [8, 7] (fun kv yv wr => ∃ (k : Nat) (y : List Nat) (F1 : Nat → Prop), kv = .int .i64 k ∧ i < k ∧ k ≤ n ∧ Hid (FP F1 wr yv y) ∧ Hid (TabAt F1 tb tf n wr tr Rb V) ∧ Hid (KG F0 w F1 wr) ∧ Hid (Below w.heap.size w wr) ∧ Hid (Cm.Gd n y) ∧ Hid (Cm.LI (Cm.Gr n gs) i k u y)) (fun kv _ _ => n - (intOf kv).toNat)
    case atStart => exact ⟨i + 1, u, _, by go_num, Nat.lt_succ_self _, HIN.out, XV, HT, K, KB, GU0, HLI⟩
    case round =>
      clear XV HT K KB HLI
      obtain ⟨k, y, F, rfl, hk1, hk2, X, HT, K, KB, GY, HLI⟩ := hrel
      obtain ⟨yb, yo, yc, rfl⟩ := X.out.shape' GY.out hn1
      by_cases hkl : k < n
      · have hkN : (k : Int) < (n : Int) := by omega
        have HKL := Lib.hid hkl
        go_upto_region 7 with (fail)
        refine wp_region_list ?_
        refine Rg.list_run (some 33) rfl rfl (Rg.exec_move (v := .slice (some ⟨tb, tf, none⟩) n tc) _ rfl rfl) ?_
        go_frame
        refine Rg.list_run (some 34) rfl rfl (Rg.exec_move (v := .int .i64 ((k : Nat) : Int)) _ rfl rfl) ?_
        go_frame
        refine list_ask (some 35) rfl rfl _ _ (exec_fn 118 _ _ _ rfl rfl rfl (Wncl1 _ _)) ?_
        refine (orbit_any hn1 hn2 HT.out (fun i p u e => tab_gd OK.out e) HKL.out).mono ?_
        rintro e1 w1 ⟨ov2, rfl, hov, hb⟩
        replace KB := Lib.hid (Rg.acc KB.out hb)
        refine ⟨_, rfl, ?_⟩
        go_frame
        replace HT := Lib.hid (HT.out.up hb)
        replace X := Lib.hid (X.out.up hb)
        replace K := Lib.hid (K.out.up hb)
        have RO := Lib.hid hov
        generalize Fup F wr w1 = F1 at *
        clear hb
        refine Rg.list_run (some 9) rfl rfl (Rg.exec_assign (v := ov2) _ rfl rfl) ?_
        go_frame
        clear hov
        obtain ⟨oa, oc, hsh⟩ := RO.out.shape
        rw [Ma.len_ofN] at hsh
        subst hsh
        have HOM := Lib.hid (fun q => mem_orbL (p := q) OK.out HKL.out)
        have HOL := Lib.hid (orbP_len tr k n)
        obtain ⟨O, hO⟩ : ∃ O, Hid (orbL n tr k = O) := ⟨_, Lib.hid rfl⟩
        have hOl := HOL.out
        rw [show orbP tr k n = O from hO.out] at hOl
        replace HOL := Lib.hid hOl
        rw [hO.out] at RO HOM ⊢
        obtain ⟨B9, hB9⟩ : ∃ B, Hid (wr.heap.size = B) := ⟨_, Lib.hid rfl⟩
        rw [hB9.out] at RO
        clear hOl hO hB9
        have HK0 := Lib.hid (show ∀ m (h : m < O.length), m < 0 → Cm.ap y k ≤ Cm.ap y O[m] from fun m _ h => absurd h (Nat.not_lt_zero _))
        have HBK := Lib.hid (show ∃ v, Cm.idT n tr k k = some v from ⟨_, Cm.idT_self⟩)
        go_wp2
        go_loopw [10, 11] (fun bv iv wr => ∃ (b m : Nat) (F1 : Nat → Prop), bv = .int .i64 b ∧ iv = .int .i64 m ∧ m ≤ O.length ∧ b < n ∧ Hid (FP F1 wr (.slice (some ⟨yb, yo, none⟩) n yc) y) ∧ Hid (TabAt F1 tb tf n wr tr Rb V) ∧ Hid (OwI B9 wr (.slice oa O.length oc) (Ma.ofN O)) ∧ Hid (KG F0 w F1 wr) ∧ Hid (Below w.heap.size w wr) ∧ Hid (∃ v, Cm.idT n tr k b = some v) ∧ Hid (∀ m' (h : m' < O.length), m' < m → Cm.ap y b ≤ Cm.ap y O[m'])) (fun _ iv _ => O.length - (intOf iv).toNat)
        case atStart => exact ⟨k, 0, _, rfl, rfl, Nat.zero_le _, HKL.out, X, HT, RO, K, KB, HBK, HK0⟩
        case round =>
          clear X HT RO K KB HBK HK0
          obtain ⟨b, m, F, rfl, rfl, hm, hbn, X, HT, RO, K, KB, HBK, HK0⟩ := hrel
          have hoN : (O.length : Int) ≤ 64 := by have := HOL.out; omega
          by_cases hml : m < O.length
          · have hmN : (m : Int) < (O.length : Int) := by omega
            obtain ⟨og, rfl, hcq⟩ := RO.out.at hml
            obtain ⟨q, hq⟩ : ∃ q : Nat, Hid (q = O[m]) := ⟨_, Lib.hid rfl⟩
            rw [← hq.out] at hcq
            have CQ := Lib.hid hcq
            have HML := Lib.hid hml
            have HBN := Lib.hid hbn
            have HQR := Lib.hid ((HOM.out q).1 (by rw [hq.out]; exact List.getElem_mem hml))
            have hqn : q < n := by
              obtain ⟨v, hv⟩ := HQR.out
              by_cases e : q = k
              · have := HKL.out; omega
              · rw [Cm.idT_ne e] at hv; exact (OK.out.lt k q v hv).2
            have HQN := Lib.hid hqn
            have CXq := Lib.hid (X.out.ap GY.out hqn)
            have CXb := Lib.hid (X.out.ap GY.out hbn)
            obtain ⟨yq, hyq⟩ : ∃ z : Nat, Hid (z = Cm.ap y q) := ⟨_, Lib.hid rfl⟩
            obtain ⟨yb', hyb⟩ : ∃ z : Nat, Hid (z = Cm.ap y b) := ⟨_, Lib.hid rfl⟩
            rw [← hyq.out] at CXq
            rw [← hyb.out] at CXb
            clear hcq hqn hbn hm
            by_cases hlt : yq < yb'
            · have hltN : (yq : Int) < (yb' : Int) := by omega
              go_upto_region 12 with (fail)
              have hV1 : Below wr.heap.size wr wr.drew := (Below.refl _ _).drew
              replace KB := Lib.hid (Rg.acc KB.out hV1)
              clear hV1
              have hV0 : Below wr.heap.size wr wr.drew := (Below.refl _ _).drew
              replace HT := Lib.hid (HT.out.up hV0)
              replace X := Lib.hid (X.out.up hV0)
              replace RO := Lib.hid (RO.out.up hV0)
              replace CQ := Lib.hid (CQ.out.up hV0)
              replace CXq := Lib.hid (CXq.out.up hV0)
              replace CXb := Lib.hid (CXb.out.up hV0)
              replace K := Lib.hid (K.out.up hV0)
              generalize Fup F wr wr.drew = F1 at *
              clear hV0
              refine Rg.Any.begin (S := Rg.Both 11 (fun _ => True) (fun W => Below wr.drew.heap.size wr.drew W)) mix ?_
              generalize wr.drew = w1 at *
              have hS : ∀ (l : Array Bool) W, Below w1.heap.size w1 W → Rg.Both 11 (fun _ => True) (fun W => Below w1.heap.size w1 W) l W := fun l W h => ⟨.inr trivial, h⟩
              have hI : Below w1.heap.size w1 w1 := Below.refl _ _
              refine Rg.Any.takeG (i := 0) (t := 11) (v := .slice (some ⟨yb, yo, none⟩) n yc) (some 43) rfl rfl (by kernel_rfl) (by kernel_rfl) (by kernel_rfl) (fun _ _ _ h => h) rfl (.inl ⟨rfl, fun w _ => Rg.exec_move (v := .slice (some ⟨yb, yo, none⟩) n yc) _ rfl rfl⟩) (hS _ _ hI) ?_
              go_frame
              refine Rg.Any.takeG (i := 1) (t := 11) (v := .slice (some ⟨og, 0, none⟩) O.length oc) (some 44) rfl rfl (by kernel_rfl) (by kernel_rfl) (by kernel_rfl) (fun _ _ _ h => h) rfl (.inl ⟨rfl, fun w _ => Rg.exec_move (v := .slice (some ⟨og, 0, none⟩) O.length oc) _ rfl rfl⟩) (hS _ _ hI) ?_
              go_frame
              refine Rg.Any.takeG (i := 2) (t := 11) (v := .int .i64 ((m : Nat) : Int)) (some 45) rfl rfl (by kernel_rfl) (by kernel_rfl) (by kernel_rfl) (fun _ _ _ h => h) rfl (.inl ⟨rfl, fun w _ => Rg.exec_move (v := .int .i64 ((m : Nat) : Int)) _ rfl rfl⟩) (hS _ _ hI) ?_
              go_frame
              refine Rg.Any.takeG (i := 3) (t := 11) (v := .pointer (some ⟨og, 0 + m, none⟩)) (some 46) rfl rfl (by kernel_rfl) (by kernel_rfl) (by kernel_rfl) (fun _ _ _ h => h) rfl (Rg.yields_index slInts _ _ rfl rfl og (0) (O.length) oc (m) rfl rfl HML.out) (hS _ _ hI) ?_
              go_frame
              refine Rg.Any.takeG (i := 4) (t := 11) (v := .int .i64 ((q : Nat) : Int)) (some 47) rfl rfl (by kernel_rfl) (by kernel_rfl) (by kernel_rfl) (fun _ _ _ h => h) rfl (Rg.yields_cell _ _ rfl rfl ⟨og, 0 + m, none⟩ rfl (fun W hW => run_loadInt ((Below.cell (p := ⟨og, 0 + m, none⟩) hW CQ.out.lt).trans CQ.out.cell))) (hS _ _ hI) ?_
              go_frame
              refine Rg.Any.takeG (i := 5) (t := 11) (v := .pointer (some ⟨yb, yo + q, none⟩)) (some 48) rfl rfl (by kernel_rfl) (by kernel_rfl) (by kernel_rfl) (fun _ _ _ h => h) rfl (Rg.yields_index slPerm _ _ rfl rfl yb (yo) (n) yc (q) rfl rfl HQN.out) (hS _ _ hI) ?_
              go_frame
              refine Rg.Any.takeG (i := 6) (t := 11) (v := .int .i64 ((yq : Nat) : Int)) (some 49) rfl rfl (by kernel_rfl) (by kernel_rfl) (by kernel_rfl) (fun _ _ _ h => h) rfl (Rg.yields_cell _ _ rfl rfl ⟨yb, yo + q, none⟩ rfl (fun W hW => run_loadInt ((Below.cell (p := ⟨yb, yo + q, none⟩) hW CXq.out.lt).trans CXq.out.cell))) (hS _ _ hI) ?_
              go_frame
              refine Rg.Any.takeG (i := 7) (t := 11) (v := .slice (some ⟨yb, yo, none⟩) n yc) (some 50) rfl rfl (by kernel_rfl) (by kernel_rfl) (by kernel_rfl) (fun _ _ _ h => h) rfl (.inl ⟨rfl, fun w _ => Rg.exec_move (v := .slice (some ⟨yb, yo, none⟩) n yc) _ rfl rfl⟩) (hS _ _ hI) ?_
              go_frame
              refine Rg.Any.takeG (i := 8) (t := 11) (v := .int .i64 ((b : Nat) : Int)) (some 51) rfl rfl (by kernel_rfl) (by kernel_rfl) (by kernel_rfl) (fun _ _ _ h => h) rfl (.inl ⟨rfl, fun w _ => Rg.exec_move (v := .int .i64 ((b : Nat) : Int)) _ rfl rfl⟩) (hS _ _ hI) ?_
              go_frame
              refine Rg.Any.takeG (i := 9) (t := 11) (v := .pointer (some ⟨yb, yo + b, none⟩)) (some 52) rfl rfl (by kernel_rfl) (by kernel_rfl) (by kernel_rfl) (fun _ _ _ h => h) rfl (Rg.yields_index slPerm _ _ rfl rfl yb (yo) (n) yc (b) rfl rfl HBN.out) (hS _ _ hI) ?_
              go_frame
              refine Rg.Any.takeG (i := 10) (t := 11) (v := .int .i64 ((yb' : Nat) : Int)) (some 53) rfl rfl (by kernel_rfl) (by kernel_rfl) (by kernel_rfl) (fun _ _ _ h => h) rfl (Rg.yields_cell _ _ rfl rfl ⟨yb, yo + b, none⟩ rfl (fun W hW => run_loadInt ((Below.cell (p := ⟨yb, yo + b, none⟩) hW CXb.out.lt).trans CXb.out.cell))) (hS _ _ hI) ?_
              go_frame
              refine Rg.Any.one (i := 11) (by kernel_rfl) (Rg.Any.run (some 54) rfl rfl rfl (exec_bin (R := .bool true) .lss _ _ _ rfl rfl rfl (b_lss _ (decide_eq_true (by omega)))) (hS _ _ hI) ?_)
              go_frame
              refine Rg.Any.done (by kernel_rfl) ?_ _
              clear hS hI
              go_upto_region 13 with (fail)
              refine wp_region_list ?_
              refine Rg.list_run (some 55) rfl rfl (Rg.exec_move (v := .slice (some ⟨og, 0, none⟩) O.length oc) _ rfl rfl) ?_
              go_frame
              refine Rg.list_run (some 56) rfl rfl (Rg.exec_move (v := .int .i64 ((m : Nat) : Int)) _ rfl rfl) ?_
              go_frame
              refine Rg.list_run (some 57) rfl rfl (exec_indexS slInts _ _ rfl og (0) (O.length) oc (m) rfl rfl HML.out) ?_
              go_frame
              refine Rg.list_run (some 58) rfl rfl (Rg.exec_load (v := .int .i64 ((q : Nat) : Int)) _ _ rfl ⟨og, 0 + m, none⟩ rfl (run_loadInt CQ.out.cell)) ?_
              go_frame
              refine Rg.list_run (some 10) rfl rfl (Rg.exec_assign (v := .int .i64 ((q : Nat) : Int)) _ rfl rfl) ?_
              go_frame
              have HK1 := Lib.hid (show ∀ m' (h : m' < O.length), m' < m + 1 → Cm.ap y q ≤ Cm.ap y O[m'] from fun m' h h2 => by
                have a1 := hyq.out
                have a2 := hyb.out
                by_cases e : m' = m
                · subst e
                  rw [← hq.out]; omega
                · have := HK0.out m' h (by omega)
                  omega)
              go_wp2
              go_roundw
              case rel => exact ⟨q, m + 1, _, rfl, by go_num, HML.out, HQN.out, X, HT, RO, K, KB, HQR, HK1⟩
              case measure => simp [intOf]; have := HML.out; omega
            · have hltN : ¬ (yq : Int) < (yb' : Int) := by omega
              go_upto_region 12 with (fail)
              have hV1 : Below wr.heap.size wr wr.drew := (Below.refl _ _).drew
              replace KB := Lib.hid (Rg.acc KB.out hV1)
              clear hV1
              have hV0 : Below wr.heap.size wr wr.drew := (Below.refl _ _).drew
              replace HT := Lib.hid (HT.out.up hV0)
              replace X := Lib.hid (X.out.up hV0)
              replace RO := Lib.hid (RO.out.up hV0)
              replace CQ := Lib.hid (CQ.out.up hV0)
              replace CXq := Lib.hid (CXq.out.up hV0)
              replace CXb := Lib.hid (CXb.out.up hV0)
              replace K := Lib.hid (K.out.up hV0)
              generalize Fup F wr wr.drew = F1 at *
              clear hV0
              refine Rg.Any.begin (S := Rg.Both 11 (fun _ => True) (fun W => Below wr.drew.heap.size wr.drew W)) mix ?_
              generalize wr.drew = w1 at *
              have hS : ∀ (l : Array Bool) W, Below w1.heap.size w1 W → Rg.Both 11 (fun _ => True) (fun W => Below w1.heap.size w1 W) l W := fun l W h => ⟨.inr trivial, h⟩
              have hI : Below w1.heap.size w1 w1 := Below.refl _ _
              refine Rg.Any.takeG (i := 0) (t := 11) (v := .slice (some ⟨yb, yo, none⟩) n yc) (some 43) rfl rfl (by kernel_rfl) (by kernel_rfl) (by kernel_rfl) (fun _ _ _ h => h) rfl (.inl ⟨rfl, fun w _ => Rg.exec_move (v := .slice (some ⟨yb, yo, none⟩) n yc) _ rfl rfl⟩) (hS _ _ hI) ?_
              go_frame
              refine Rg.Any.takeG (i := 1) (t := 11) (v := .slice (some ⟨og, 0, none⟩) O.length oc) (some 44) rfl rfl (by kernel_rfl) (by kernel_rfl) (by kernel_rfl) (fun _ _ _ h => h) rfl (.inl ⟨rfl, fun w _ => Rg.exec_move (v := .slice (some ⟨og, 0, none⟩) O.length oc) _ rfl rfl⟩) (hS _ _ hI) ?_
              go_frame
              refine Rg.Any.takeG (i := 2) (t := 11) (v := .int .i64 ((m : Nat) : Int)) (some 45) rfl rfl (by kernel_rfl) (by kernel_rfl) (by kernel_rfl) (fun _ _ _ h => h) rfl (.inl ⟨rfl, fun w _ => Rg.exec_move (v := .int .i64 ((m : Nat) : Int)) _ rfl rfl⟩) (hS _ _ hI) ?_
              go_frame
              refine Rg.Any.takeG (i := 3) (t := 11) (v := .pointer (some ⟨og, 0 + m, none⟩)) (some 46) rfl rfl (by kernel_rfl) (by kernel_rfl) (by kernel_rfl) (fun _ _ _ h => h) rfl (Rg.yields_index slInts _ _ rfl rfl og (0) (O.length) oc (m) rfl rfl HML.out) (hS _ _ hI) ?_
              go_frame
              refine Rg.Any.takeG (i := 4) (t := 11) (v := .int .i64 ((q : Nat) : Int)) (some 47) rfl rfl (by kernel_rfl) (by kernel_rfl) (by kernel_rfl) (fun _ _ _ h => h) rfl (Rg.yields_cell _ _ rfl rfl ⟨og, 0 + m, none⟩ rfl (fun W hW => run_loadInt ((Below.cell (p := ⟨og, 0 + m, none⟩) hW CQ.out.lt).trans CQ.out.cell))) (hS _ _ hI) ?_
              go_frame
              refine Rg.Any.takeG (i := 5) (t := 11) (v := .pointer (some ⟨yb, yo + q, none⟩)) (some 48) rfl rfl (by kernel_rfl) (by kernel_rfl) (by kernel_rfl) (fun _ _ _ h => h) rfl (Rg.yields_index slPerm _ _ rfl rfl yb (yo) (n) yc (q) rfl rfl HQN.out) (hS _ _ hI) ?_
              go_frame
              refine Rg.Any.takeG (i := 6) (t := 11) (v := .int .i64 ((yq : Nat) : Int)) (some 49) rfl rfl (by kernel_rfl) (by kernel_rfl) (by kernel_rfl) (fun _ _ _ h => h) rfl (Rg.yields_cell _ _ rfl rfl ⟨yb, yo + q, none⟩ rfl (fun W hW => run_loadInt ((Below.cell (p := ⟨yb, yo + q, none⟩) hW CXq.out.lt).trans CXq.out.cell))) (hS _ _ hI) ?_
              go_frame
              refine Rg.Any.takeG (i := 7) (t := 11) (v := .slice (some ⟨yb, yo, none⟩) n yc) (some 50) rfl rfl (by kernel_rfl) (by kernel_rfl) (by kernel_rfl) (fun _ _ _ h => h) rfl (.inl ⟨rfl, fun w _ => Rg.exec_move (v := .slice (some ⟨yb, yo, none⟩) n yc) _ rfl rfl⟩) (hS _ _ hI) ?_
              go_frame
              refine Rg.Any.takeG (i := 8) (t := 11) (v := .int .i64 ((b : Nat) : Int)) (some 51) rfl rfl (by kernel_rfl) (by kernel_rfl) (by kernel_rfl) (fun _ _ _ h => h) rfl (.inl ⟨rfl, fun w _ => Rg.exec_move (v := .int .i64 ((b : Nat) : Int)) _ rfl rfl⟩) (hS _ _ hI) ?_
              go_frame
              refine Rg.Any.takeG (i := 9) (t := 11) (v := .pointer (some ⟨yb, yo + b, none⟩)) (some 52) rfl rfl (by kernel_rfl) (by kernel_rfl) (by kernel_rfl) (fun _ _ _ h => h) rfl (Rg.yields_index slPerm _ _ rfl rfl yb (yo) (n) yc (b) rfl rfl HBN.out) (hS _ _ hI) ?_
              go_frame
              refine Rg.Any.takeG (i := 10) (t := 11) (v := .int .i64 ((yb' : Nat) : Int)) (some 53) rfl rfl (by kernel_rfl) (by kernel_rfl) (by kernel_rfl) (fun _ _ _ h => h) rfl (Rg.yields_cell _ _ rfl rfl ⟨yb, yo + b, none⟩ rfl (fun W hW => run_loadInt ((Below.cell (p := ⟨yb, yo + b, none⟩) hW CXb.out.lt).trans CXb.out.cell))) (hS _ _ hI) ?_
              go_frame
              refine Rg.Any.one (i := 11) (by kernel_rfl) (Rg.Any.run (some 54) rfl rfl rfl (exec_bin (R := .bool false) .lss _ _ _ rfl rfl rfl (b_lss _ (decide_eq_false (by omega)))) (hS _ _ hI) ?_)
              go_frame
              refine Rg.Any.done (by kernel_rfl) ?_ _
              clear hS hI
              have HK1 := Lib.hid (show ∀ m' (h : m' < O.length), m' < m + 1 → Cm.ap y b ≤ Cm.ap y O[m'] from fun m' h h2 => by
                have a1 := hyq.out
                have a2 := hyb.out
                by_cases e : m' = m
                · subst e
                  rw [← hq.out]; omega
                · have := HK0.out m' h (by omega)
                  omega)
              go_wp2
              go_roundw
              case rel => exact ⟨b, m + 1, _, rfl, by go_num, HML.out, HBN.out, X, HT, RO, K, KB, HBK, HK1⟩
              case measure => simp [intOf]; have := HML.out; omega
          · obtain rfl : m = O.length := by omega
            have hmN : ¬ (O.length : Int) < (O.length : Int) := by omega
            have HALL := Lib.hid (show ∀ q', Cm.idT n tr k q' ≠ none → Cm.ap y b ≤ Cm.ap y q' from fun q' hq' => by
              obtain ⟨v, hv⟩ := Option.ne_none_iff_exists'.1 hq'
              obtain ⟨m', hm', rfl⟩ := List.getElem_of_mem ((HOM.out q').2 ⟨v, hv⟩)
              exact HK0.out m' hm' hm')
            obtain ⟨v, hv⟩ := HBK.out
            have HST := Lib.hid (Cm.LI.step HH.out HTR.out GU0.out hk1 HKL.out HLI.out hv HALL.out)
            have GV := Lib.hid (OK.out.rp.gd k b v (Nat.zero_le _) HKL.out hv)
            have GM := Lib.hid (Cm.gd_mul GV.out GY.out)
            clear HALL HK0 HBK
            by_cases hbk : b = k
            · have hbN : (b : Int) = (k : Int) := by omega
              have HE := Lib.hid (show Ma.mulN v y = y by
                subst hbk
                rw [Cm.idT_self] at hv
                injection hv with e
                rw [← e, Cm.one_mul GY.out])
              clear hbk hv
              go_upto_region 14 with (fail)
              refine wp_region_list ?_
              refine Rg.list_run (some 59) rfl rfl (Rg.exec_move (v := .int .i64 ((b : Nat) : Int)) _ rfl rfl) ?_
              go_frame
              refine Rg.list_run (some 60) rfl rfl (Rg.exec_move (v := .int .i64 ((k : Nat) : Int)) _ rfl rfl) ?_
              go_frame
              refine Rg.list_run (some 61) rfl rfl (exec_bin (R := .bool false) .neq _ _ _ rfl rfl rfl (b_neqB _ (decide_eq_false (by omega)))) ?_
              go_frame
              go_wp2
              go_roundw
              case rel => exact ⟨k + 1, y, _, by go_num, by omega, HKL.out, X, HT, K, KB, GY, Lib.hid (by have := HST.out; rwa [HE.out] at this)⟩
              case measure => simp [intOf]; have := HKL.out; omega
            · have hbN : ¬ (b : Int) = (k : Int) := by omega
              rw [Cm.idT_ne hbk] at hv
              have HBN := Lib.hid hbn
              have UP := Lib.hid (HT.out.some_ k b v HKL.out hbn hv)
              have CO := Lib.hid (HT.out.out k HKL.out)
              have CE := Lib.hid (CL.mk (show wr.cell? ⟨Rb k, 0 + b, none⟩ = some (V k b) by rw [Nat.zero_add]; exact HT.out.cell HKL.out hbn) (HT.out.lt HKL.out))
              clear hbk hv
              go_upto_region 14 with (fail)
              refine wp_region_list ?_
              refine Rg.list_run (some 59) rfl rfl (Rg.exec_move (v := .int .i64 ((b : Nat) : Int)) _ rfl rfl) ?_
              go_frame
              refine Rg.list_run (some 60) rfl rfl (Rg.exec_move (v := .int .i64 ((k : Nat) : Int)) _ rfl rfl) ?_
              go_frame
              refine Rg.list_run (some 61) rfl rfl (exec_bin (R := .bool true) .neq _ _ _ rfl rfl rfl (b_neqB _ (decide_eq_true (by omega)))) ?_
              go_frame
              go_upto_region 15 with (fail)
              refine wp_region_list ?_
              refine Rg.list_run (some 62) rfl rfl (Rg.exec_move (v := .slice (some ⟨tb, tf, none⟩) n tc) _ rfl rfl) ?_
              go_frame
              refine Rg.list_run (some 63) rfl rfl (Rg.exec_move (v := .int .i64 ((k : Nat) : Int)) _ rfl rfl) ?_
              go_frame
              refine Rg.list_run (some 64) rfl rfl (exec_indexS slTable _ _ rfl tb (tf) (n) tc (k) rfl rfl HKL.out) ?_
              go_frame
              refine Rg.list_run (some 65) rfl rfl (Rg.exec_load (v := .slice (some ⟨(Rb k), 0, none⟩) n n) _ _ rfl ⟨tb, tf + k, none⟩ rfl (Rg.run_loadSl _ _ Try.underlying22 CO.out.cell)) ?_
              go_frame
              refine Rg.list_run (some 66) rfl rfl (Rg.exec_move (v := .int .i64 ((b : Nat) : Int)) _ rfl rfl) ?_
              go_frame
              refine Rg.list_run (some 67) rfl rfl (exec_indexS slPerms _ _ rfl (Rb k) (0) (n) n (b) rfl rfl HBN.out) ?_
              go_frame
              refine Rg.list_run (some 68) rfl rfl (Rg.exec_load (v := (V k b)) _ _ rfl ⟨(Rb k), 0 + b, none⟩ rfl (Rg.run_loadSl _ _ Try.underlying62 CE.out.cell)) ?_
              go_frame
              refine Rg.list_run (some 69) rfl rfl (Rg.exec_move (v := .slice (some ⟨yb, yo, none⟩) n yc) _ rfl rfl) ?_
              go_frame
              refine list_ask (some 70) rfl rfl _ _ (exec_fn 63 _ _ _ rfl rfl rfl (Wncl2 _ _)) ?_
              refine (kMul_f UP.out X.out GV.out GY.out hn2).mono ?_
              rintro e1 w1 ⟨mv, rfl, hmv, hb⟩
              replace KB := Lib.hid (Rg.acc KB.out hb)
              refine ⟨_, rfl, ?_⟩
              go_frame
              replace HT := Lib.hid (HT.out.up hb)
              replace X := Lib.hid (X.out.up hb)
              replace UP := Lib.hid (UP.out.up hb)
              replace CO := Lib.hid (CO.out.up hb)
              replace CE := Lib.hid (CE.out.up hb)
              replace K := Lib.hid (K.out.up hb)
              have MV := Lib.hid hmv
              generalize Fup F wr w1 = F1 at *
              clear hb
              refine Rg.list_run (some 7) rfl rfl (Rg.exec_assign (v := mv) _ rfl rfl) ?_
              go_frame
              clear hmv
              go_wp2
              go_roundw
              case rel => exact ⟨k + 1, _, _, by go_num, by omega, HKL.out, MV, HT, K, KB, GM, HST⟩
              case measure => simp [intOf]; have := HKL.out; omega
      · obtain rfl : k = n := by omega
        have hkN : ¬ (k : Int) < (k : Int) := by omega
        have HSZ := Lib.hid KB.out.size
        go_upto_region 16 with (fail)
        refine wp_region_list ?_
        refine Rg.list_run (some 71) rfl rfl (Rg.exec_move (v := .slice (some ⟨yb, yo, none⟩) k yc) _ rfl rfl) ?_
        go_frame
        refine list_ask (some 72) rfl rfl _ _ (exec_fn1 65 _ _ rfl rfl (Wncl3 _ _)) ?_
        refine (Own_any _ (Ma.ofN y) wr X.out.np (by rw [Ma.len_ofN, GY.out.2]; omega)).mono ?_
        rintro e1 w1 ⟨v2, rfl, hrow, hb⟩
        replace KB := Lib.hid (Rg.acc KB.out hb)
        have HROW := Lib.hid hrow
        clear hrow
        refine ⟨_, rfl, ?_⟩
        go_frame
        replace HT := Lib.hid (HT.out.up hb)
        replace X := Lib.hid (X.out.up hb)
        replace K := Lib.hid (K.out.up hb)
        generalize Fup F wr w1 = F1 at *
        clear hb
        refine Rg.list_run (some 6) rfl rfl (Rg.exec_assign (v := v2) _ rfl rfl) ?_
        go_frame
        go_wp2
        go_ret
        exact (show RLPost _ _ _ _ _ _ _ from ⟨_, _, _, rfl, HSZ.out, HROW.out, HLI.out, GY.out, KB.out⟩)
end Go.Proofs.Ytojbijkljnohoaa

/-! The reference: the chain of a table. -/
namespace Go.Proofs.Ytojbijkljnohoaa
open Go.RowKit
open Go.Proofs
open Go.Proofs.Cm (Tr TabOk)
attribute [local irreducible] Go.Calls Go.wpList

theorem Wocl0 (args : Array Value) (w : World) : (callFunc 118 args).run Try.prog w = .ok (.enter 118 args) w := by kernel_rfl
theorem Wocl1 (args : Array Value) (w : World) : (callFunc 119 args).run Try.prog w = .ok (.enter 119 args) w := by kernel_rfl
set_option maxRecDepth 100000 in
set_option maxHeartbeats 8000000 in
theorem rchain_any {n : Nat} (hn1 : 1 ≤ n) (hn2 : n ≤ 64) {F : Nat → Prop} {tb tf tc : Nat} {w : World} {tr : Tr} {Rb : Nat → Nat} {V : Nat → Nat → Value} (hT : TabAt F tb tf n w tr Rb V) {gs : List Nat → Prop} (hg : ∀ s, gs s → Cm.Gd n s) (hok : TabOk n gs tr) (htr : Cm.IsTr n (Cm.Gr n gs) (Cm.idT n tr)) :
    Calls Try.prog 78 #[.slice (some ⟨tb, tf, none⟩) n tc] w fun e w' => ∃ ov rv O R, e = .returned (.agg #[.int .i64 ((n : Nat) : Int), ov, rv]) ∧ Rg.FRows (fun z => w.heap.size ≤ z) w' ov (O.map Ma.ofN) ∧ FRows2 (fun z => w.heap.size ≤ z) w' rv (R.map (List.map Ma.ofN)) ∧ Cm.IsChain n (Cm.Gr n gs) O R ∧ Below w.heap.size w w' := by
  have K := Lib.hid (Below.refl w.heap.size w)
  have HT := Lib.hid hT
  have HGS := Lib.hid hg
  have HH := Lib.hid (Cm.Gr.isG hg)
  have OK := Lib.hid hok
  have HTR := Lib.hid htr
  clear hT hg hok htr
  go_enter Try.func78, Try.ntmps78
  go_upto_region 0 with (fail)
  refine wp_region_list ?_
  have hnew := Tri.new w (.int .i64 0) (.slice none 0 0) (.slice none 0 0)
  refine Rg.list_run (some 2) rfl rfl (exec_allocC rfl) ?_
  go_frame
  have hb := (Below.refl w.heap.size w).alloc (Nat.le_refl _) (.cells #[.int .i64 0, .slice none 0 0, .slice none 0 0] 51)
  generalize w.alloc (.cells #[.int .i64 0, .slice none 0 0, .slice none 0 0] 51) = w1 at *
  replace HT := Lib.hid (HT.out.below hb)
  replace K := Lib.hid (Rg.acc K.out hb)
  clear hb
  have FT := Lib.hid hnew
  have K1 := Lib.hid (Below.refl w1.heap.size w1)
  have hlo1 := (FT.out.lt)
  clear hnew
  go_upto_region 1 with (fail)
  refine wp_region_list ?_
  refine Rg.list_run (some 8) rfl rfl (Rg.exec_move (v := .slice (some ⟨tb, tf, none⟩) n tc) _ rfl rfl) ?_
  go_frame
  refine Rg.list_run (some 9) rfl rfl (exec_len _ _ _ rfl Try.underlying106 _ _ _ rfl) ?_
  go_frame
  refine Rg.list_run (some 10) rfl rfl (exec_buildC1 (d := ((n : Nat) : Int)) _ rfl rfl) ?_
  go_frame
  have hnew := Tri.new w1 (.int .i64 0) (.slice none 0 0) (.slice none 0 0)
  refine Rg.list_run (some 3) rfl rfl (exec_allocC rfl) ?_
  go_frame
  have hb := (Below.refl w1.heap.size w1).alloc (Nat.le_refl _) (.cells #[.int .i64 0, .slice none 0 0, .slice none 0 0] 51)
  generalize w1.alloc (.cells #[.int .i64 0, .slice none 0 0, .slice none 0 0] 51) = w2 at *
  replace K1 := Lib.hid (Rg.acc K1.out hb)
  clear hb
  have FC := Lib.hid hnew
  refine Rg.list_skip none rfl rfl (Rg.exec_store _ _ _ rfl _ rfl _ rfl (run_storeC _ _ _ _ _ _ _ FC.out)) ?_
  go_frame
  clear hnew
  replace FC := Lib.hid (FC.out.set (.int .i64 ((n : Nat) : Int)) (.slice none 0 0) (.slice none 0 0))
  replace K1 := Lib.hid (((K1.out.setCell (p := ⟨w1.heap.size, 0, none⟩) (Nat.le_refl _) (.int .i64 ((n : Nat) : Int))).setCell (p := ⟨w1.heap.size, 1, none⟩) (Nat.le_refl _) (.slice none 0 0)).setCell (p := ⟨w1.heap.size, 2, none⟩) (Nat.le_refl _) (.slice none 0 0))
  generalize (((w2).setCell ⟨w1.heap.size, 0, none⟩ (.int .i64 ((n : Nat) : Int))).setCell ⟨w1.heap.size, 1, none⟩ (.slice none 0 0)).setCell ⟨w1.heap.size, 2, none⟩ (.slice none 0 0) = w5 at *
  have CH := Lib.hid (ChR.start FC.out (Nat.le_refl _))
  clear FC
  go_upto_region 2 with (fail)
  refine wp_region_list ?_
  refine Rg.list_run (some 4) rfl rfl (Rg.exec_assign (v := .int .i64 ((0 : Nat) : Int)) _ rfl rfl) ?_
  go_frame
  have HPC := Lib.hid (Cm.PC.nil n (Cm.Gr n gs) (Cm.idT n tr))
  go_wp2
  go_loopw [4] (fun iv wr => ∃ (k : Nat) (ov rv : Value) (O : List (List Nat)) (R : List (List (List Nat))), iv = .int .i64 k ∧ k ≤ n ∧ Hid (ChR w1.heap.size wr w1.heap.size (.int .i64 ((n : Nat) : Int)) ov rv ov rv (O.map Ma.ofN) (R.map (List.map Ma.ofN))) ∧ Hid (Below w1.heap.size w1 wr) ∧ Hid (Cm.PC n (Cm.Gr n gs) (Cm.idT n tr) k O R)) (fun iv _ => n - (intOf iv).toNat)
  case atStart => exact ⟨0, _, _, [], [], rfl, Nat.zero_le _, CH, K1, HPC⟩
  case round =>
    clear CH K1 HPC
    obtain ⟨k, ov, rv, O, R, rfl, hk, CH, K1, HPC⟩ := hrel
    have hsO := CH.out.shapeO
    have hsR := CH.out.shapeR
    rw [List.length_map] at hsO hsR
    obtain ⟨ova, ovc, rfl⟩ := hsO
    obtain ⟨rva, rvc, rfl⟩ := hsR
    by_cases hkl : k < n
    · have hkN : (k : Int) < (n : Int) := by omega
      have HA2 := Lib.hid (orbP_asc tr k n)
      have HA3 := Lib.hid (fun p => mem_orbL (p := p) OK.out hkl)
      have HO1 := Lib.hid (Nat.le_trans (orbP_len tr k n) hn2)
      obtain ⟨l, hl⟩ : ∃ l, Hid (orbL n tr k = l) := ⟨_, Lib.hid rfl⟩
      replace HA2 : Hid (l.Pairwise (· < ·)) := Lib.hid (by rw [← hl.out]; exact HA2.out)
      replace HO1 : Hid (l.length ≤ 64) := Lib.hid (by rw [← hl.out]; exact HO1.out)
      rw [hl.out] at HA3
      have HO2 := Lib.hid (show 1 ≤ l.length from List.length_pos_of_mem ((HA3.out k).2 ⟨_, Cm.idT_self⟩))
      have HKL := Lib.hid hkl
      have HLTS := Lib.hid (show (∀ z, (Value.slice ova O.length ovc).ownBlock = some z → z < wr.heap.size) ∧ (∀ z, (Value.slice rva R.length rvc).ownBlock = some z → z < wr.heap.size) ∧ w1.heap.size < wr.heap.size from ⟨fun z e => (CH.out.lts.1 z e).2, fun z e => (CH.out.lts.2 z e).2, CH.out.tri.lt⟩)
      have SZ1 := Lib.hid (SZ.mk (Nat.le_refl wr.heap.size))
      go_upto_region 5 with (fail)
      refine wp_region_list ?_
      refine Rg.list_run (some 17) rfl rfl (Rg.exec_move (v := .slice (some ⟨tb, tf, none⟩) n tc) _ rfl rfl) ?_
      go_frame
      refine Rg.list_run (some 18) rfl rfl (Rg.exec_move (v := .int .i64 ((k : Nat) : Int)) _ rfl rfl) ?_
      go_frame
      have hszW := SZ1.out.le
      refine list_ask (some 19) rfl rfl _ _ (exec_fn 118 _ _ _ rfl rfl rfl (Wocl0 _ _)) ?_
      refine (orbit_any hn1 hn2 (HT.out.below K1.out) (fun i p u e => tab_gd OK.out e) HKL.out).mono ?_
      rintro e1 w11 ⟨v, rfl, hrow, hb⟩
      rw [hl.out] at hrow
      have hq := row_of hrow.own (k := 0) (by rw [Ma.len_ofN]; exact HO2.out)
      rw [Ma.len_ofN] at hq
      obtain ⟨sb, sc, u0, rfl, _, _, _⟩ := hq
      have HBB := Lib.hid hszW
      refine ⟨_, rfl, ?_⟩
      go_frame
      replace CH := Lib.hid (CH.out.below hb)
      replace SZ1 := Lib.hid (SZ1.out.below hb)
      replace K1 := Lib.hid (Rg.acc K1.out hb)
      clear hb
      have R5 := Lib.hid hrow
      refine Rg.list_run (some 5) rfl rfl (Rg.exec_assign (v := .slice (some ⟨sb, 0, none⟩) l.length sc) _ rfl rfl) ?_
      go_frame
      clear hrow
      replace HT := Lib.hid (HT.out.below K1.out)
      replace FT := Lib.hid (FT.out.below K1.out)
      have K5 := Lib.hid (Below.refl w11.heap.size w11)
      have RP := Lib.hid (RowP.nil w11.heap.size w11)
      have HRS := Lib.hid (show ∀ j, j < 0 → Cm.Lst n (fun z => Cm.St (Cm.Gr n gs) k z ∧ Cm.ap z k = l.getD j 0) (([] : List (List Nat)).getD j []) from fun j h => absurd h (Nat.not_lt_zero _))
      go_wp2
      go_loopw [7, 6] (fun iv tv wq => ∃ (m : Nat) (rs : List (List Nat)), iv = .int .i64 m ∧ m ≤ l.length ∧ rs.length = m ∧ Hid (RowP w11.heap.size wq tv (rs.map Ma.ofN)) ∧ Hid (Below w11.heap.size w11 wq) ∧ Hid (∀ j, j < m → Cm.Lst n (fun z => Cm.St (Cm.Gr n gs) k z ∧ Cm.ap z k = l.getD j 0) (rs.getD j []))) (fun iv _ _ => l.length - (intOf iv).toNat)
      case atStart => exact ⟨0, [], rfl, Nat.zero_le _, rfl, RP, K5, HRS⟩
      case round =>
        clear K5 RP HRS
        obtain ⟨m, rs, rfl, hm, hrs, RP, K5, HRS⟩ := hrel
        have hlN : (l.length : Int) ≤ 64 := by have := HO1.out; omega
        obtain ⟨ta, tc2, rfl⟩ := RP.out.shape
        by_cases hml : m < l.length
        · have hmN : (m : Int) < (l.length : Int) := by omega
          obtain ⟨p, hp⟩ : ∃ p : Nat, Hid (p = l[m]) := ⟨_, Lib.hid rfl⟩
          have hcell : w11.cell? ⟨sb, 0 + m, none⟩ = some (.int .i64 ((p : Nat) : Int)) := by
            obtain ⟨g, c, u, e1, e2, e3, _⟩ := row_of R5.out.own (k := m) (by rw [Ma.len_ofN]; exact hml)
            simp only [Value.slice.injEq, Option.some.injEq, Addr.mk.injEq] at e1
            obtain ⟨⟨rfl, _, _⟩, _, _⟩ := e1
            rw [e2, ← e3, hp.out]
            simp [Ma.ofN, List.getElem?_eq_getElem hml]
          have CS := Lib.hid (CL.mk hcell (lt_of_cell hcell))
          obtain ⟨u, hu⟩ := (HA3.out p).1 (by rw [hp.out]; exact List.getElem_mem hml)
          have HU := Lib.hid hu
          have HML := Lib.hid hml
          have HRL := Lib.hid hrs
          clear hcell hu hrs
          go_upto_region 10 with (fail)
          refine wp_region_list ?_
          refine Rg.list_run (some 26) rfl rfl (Rg.exec_move (v := .slice ta (rs.map Ma.ofN).length tc2) _ rfl rfl) ?_
          go_frame
          refine Rg.list_run (some 27) rfl rfl (Rg.exec_move (v := .slice (some ⟨tb, tf, none⟩) n tc) _ rfl rfl) ?_
          go_frame
          refine Rg.list_run (some 28) rfl rfl (Rg.exec_move (v := .int .i64 ((k : Nat) : Int)) _ rfl rfl) ?_
          go_frame
          refine Rg.list_run (some 29) rfl rfl (Rg.exec_move (v := .slice (some ⟨sb, 0, none⟩) l.length sc) _ rfl rfl) ?_
          go_frame
          refine Rg.list_run (some 30) rfl rfl (Rg.exec_move (v := .int .i64 ((m : Nat) : Int)) _ rfl rfl) ?_
          go_frame
          refine Rg.list_run (some 31) rfl rfl (exec_indexS slInts _ _ rfl sb (0) (l.length) sc (m) rfl rfl HML.out) ?_
          go_frame
          refine Rg.list_run (some 32) rfl rfl (Rg.exec_load (v := .int .i64 ((p : Nat) : Int)) _ _ rfl ⟨sb, 0 + m, none⟩ rfl (run_loadInt ((Below.cell (p := ⟨sb, 0 + m, none⟩) K5.out CS.out.lt).trans CS.out.cell))) ?_
          go_frame
          have HLT6 := Lib.hid (fun z e => (RP.out.lt z e).2)
          have HSZ6 := Lib.hid K5.out.size
          refine list_ask (some 33) rfl rfl _ _ (exec_fn3 119 _ _ _ _ rfl rfl rfl rfl (Wocl1 _ _)) ?_
          refine (rleast_any hn1 hn2 (HT.out.below K5.out) HGS.out OK.out HTR.out HKL.out HU.out).mono ?_
          rintro e1 w41 ⟨yv, y, B8, rfl, hB8, hrow, hli, hgy, hb⟩
          obtain ⟨ca, cc, rfl⟩ := Rg.row_shape hrow
          have HROW := Lib.hid hrow
          have HLI := Lib.hid hli
          have GY := Lib.hid hgy
          have HB8 := Lib.hid hB8
          clear hrow hli hgy hB8
          refine ⟨_, rfl, ?_⟩
          go_frame
          replace RP := Lib.hid (RP.out.below hb)
          replace K5 := Lib.hid (Rg.acc K5.out hb)
          clear hb
          refine Rg.list_run (some 34) rfl rfl (Rg.exec_buildSlice _ _ _ rfl (.slice ca (Ma.ofN y).length cc) rfl (run_build1P w41 _ ⟨_, _, _, rfl⟩)) ?_
          go_frame
          obtain ⟨a9, c9, X9, r1, r2, r3⟩ := RP.out.push K5.out.size HROW.out (by rw [Ma.len_ofN, GY.out.2]; omega) (fun z e => ⟨by have := (HROW.out.lt z e).1; have := HSZ6.out; have := HB8.out; omega, fun e2 => by have := (HROW.out.lt z e).1; have := HLT6.out z e2; have := HB8.out; omega⟩) (by rw [List.length_map, HRL.out]; have := HO1.out; have := HML.out; omega) 22
          refine Rg.list_run (some 35) rfl rfl (Rg.exec_append _ _ _ rfl rfl rfl r1) ?_
          go_frame
          refine Rg.list_run (some 6) rfl rfl (Rg.exec_assign (v := .slice a9 ((rs.map Ma.ofN).length + 1) c9) _ rfl rfl) ?_
          go_frame
          have K6 := Lib.hid (r3 (Nat.le_refl _) K5.out)
          have RP2 := Lib.hid (show RowP w11.heap.size X9 (.slice a9 ((rs.map Ma.ofN).length + 1) c9) ((rs ++ [y]).map Ma.ofN) by rw [List.map_append]; exact r2)
          have HLS := Lib.hid (Cm.LI.done HH.out HKL.out ⟨HTR.out.mem k p u HKL.out HU.out, HTR.out.rp.fx k p u (Nat.zero_le _) HKL.out HU.out⟩ HLI.out)
          have HRS2 := Lib.hid (show ∀ j, j < m + 1 → Cm.Lst n (fun z => Cm.St (Cm.Gr n gs) k z ∧ Cm.ap z k = l.getD j 0) ((rs ++ [y]).getD j []) from fun j hj => by
            have hl := HRL.out
            by_cases e : j = m
            · subst e
              have e1 : (rs ++ [y]).getD j [] = y := by
                rw [List.getD_eq_getElem?_getD, List.getElem?_append_right (by omega), hl]; simp
              have e2 : l.getD j 0 = p := by
                rw [hp.out, List.getD_eq_getElem?_getD, List.getElem?_eq_getElem HML.out]; rfl
              have e3 : Cm.ap u k = p := HTR.out.rp.at_ k p u (Nat.zero_le _) HKL.out HU.out
              rw [e1, e2]
              have := HLS.out
              rwa [e3] at this
            · have e1 : (rs ++ [y]).getD j [] = rs.getD j [] := by
                rw [List.getD_eq_getElem?_getD, List.getD_eq_getElem?_getD, List.getElem?_append_left (by omega)]
              rw [e1]
              exact HRS.out j (by omega))
          have HRL2 := Lib.hid (show (rs ++ [y]).length = m + 1 by rw [List.length_append, HRL.out]; rfl)
          clear r1 r2 r3
          go_wp2
          go_roundw
          case rel => exact ⟨m + 1, rs ++ [y], by go_num, HML.out, HRL2.out, RP2, K6, HRS2⟩
          case measure => simp [intOf]; have := HML.out; omega
        · obtain rfl : m = l.length := by omega
          have hmN : ¬ (l.length : Int) < (l.length : Int) := by omega
          replace CH := Lib.hid (CH.out.below K5.out)
          replace K1 := Lib.hid (Rg.acc K1.out K5.out)
          have SZ5 := SZ1.out.le
          replace SZ1 := Lib.hid (SZ1.out.below K5.out)
          have hR5 := R5.out.below K5.out
          have PD := Lib.hid (Pend.mk CH.out (hR5.fi (by rw [Ma.len_ofN]; omega) (G := GS2 w1.heap.size wr w1.heap.size (Value.slice ova O.length ovc) (Value.slice rva R.length rvc)) (fun z g1 g2 => ⟨by have := HBB.out; have := HLTS.out.2.2; omega, g2, fun e => by have := HBB.out; have := HLTS.out.1 z e; omega, fun e => by have := HBB.out; have := HLTS.out.2.1 z e; omega, by have := HBB.out; have := HLTS.out.2.2; omega⟩))
            (RP.out.frows (by rw [List.length_map, hrs]; omega) (G := GS2 w1.heap.size wr w1.heap.size (Value.slice ova O.length ovc) (Value.slice rva R.length rvc)) (fun z g1 g2 => ⟨by have := HLTS.out.2.2; omega, g2, fun e => by have := HLTS.out.1 z e; omega, fun e => by have := HLTS.out.2.1 z e; omega, by have := HLTS.out.2.2; omega⟩)))
          have HRSL := Lib.hid hrs
          have HOL := Lib.hid (show (O.map Ma.ofN).length < 1000000 by rw [List.length_map, HPC.out.lenO]; omega)
          have HRLn := Lib.hid (show (R.map (List.map Ma.ofN)).length < 1000000 by rw [List.length_map, HPC.out.lenR]; omega)
          clear SZ5 hR5 CH RP R5 FT hrs
          go_upto_region 11 with (fail)
          have hV1 : Below wr.heap.size wr wr.drew := (Below.refl _ _).drew
          replace PD := Lib.hid (PD.out.below hV1)
          replace K1 := Lib.hid (Rg.acc K1.out hV1)
          replace SZ1 := Lib.hid (SZ1.out.below hV1)
          clear hV1
          have hV0 : Below wr.heap.size wr wr.drew := (Below.refl _ _).drew
          generalize Fup F wr wr.drew = F1 at *
          clear hV0
          refine Rg.Any.begin (S := Rg.Both 11 (fun W : World => Tri W w1.heap.size (.int .i64 ((n : Nat) : Int)) (Value.slice ova O.length ovc) (Value.slice rva R.length rvc) ∧ Below w1.heap.size w1 W) (fun _ => True)) mix ?_
          generalize wr.drew = w61 at *
          have hS : ∀ (l : Array Bool) W, (fun W : World => Tri W w1.heap.size (.int .i64 ((n : Nat) : Int)) (Value.slice ova O.length ovc) (Value.slice rva R.length rvc) ∧ Below w1.heap.size w1 W) W → Rg.Both 11 (fun W : World => Tri W w1.heap.size (.int .i64 ((n : Nat) : Int)) (Value.slice ova O.length ovc) (Value.slice rva R.length rvc) ∧ Below w1.heap.size w1 W) (fun _ => True) l W := fun l W h => ⟨.inr h, trivial⟩
          have hS2 : ∀ (l : Array Bool) W, l.getD 11 false = true → Rg.Both 11 (fun W : World => Tri W w1.heap.size (.int .i64 ((n : Nat) : Int)) (Value.slice ova O.length ovc) (Value.slice rva R.length rvc) ∧ Below w1.heap.size w1 W) (fun _ => True) l W := fun l W h => ⟨.inl h, trivial⟩
          have hI : (fun W : World => Tri W w1.heap.size (.int .i64 ((n : Nat) : Int)) (Value.slice ova O.length ovc) (Value.slice rva R.length rvc) ∧ Below w1.heap.size w1 W) w61 := ⟨PD.out.ch.tri, K1.out⟩
          refine Rg.Any.takeG (i := 0) (t := 11) (v := .pointer (some ⟨w1.heap.size, 1, none⟩)) (some 36) rfl rfl (by kernel_rfl) (by kernel_rfl) (by kernel_rfl) (fun _ _ _ h => h) rfl (.inl ⟨rfl, fun w _ => exec_field _ rfl rfl (chF1 _ _)⟩) (hS _ _ hI) ?_
          go_frame
          refine Rg.Any.takeT (i := 1) (t := 11) (v := .slice ova O.length ovc) (some 37) rfl rfl (by kernel_rfl) (by kernel_rfl) (by kernel_rfl) (fun _ _ _ h => h) rfl (by kernel_rfl) rfl (Rg.yields_cell _ _ rfl rfl ⟨w1.heap.size, 1, none⟩ rfl (fun W hW => Rg.run_loadSl _ _ Try.underlying41 hW.1.c1)) (hS _ _ hI) ?_
          go_frame
          refine Rg.Any.takeG (i := 2) (t := 11) (v := .slice (some ⟨sb, 0, none⟩) l.length sc) (some 38) rfl rfl (by kernel_rfl) (by kernel_rfl) (by kernel_rfl) (fun _ _ _ h => h) rfl (.inl ⟨rfl, fun w _ => Rg.exec_move (v := .slice (some ⟨sb, 0, none⟩) l.length sc) _ rfl rfl⟩) (hS _ _ hI) ?_
          go_frame
          refine Rg.Any.takeG (i := 5) (t := 11) (v := .pointer (some ⟨w1.heap.size, 2, none⟩)) (some 41) rfl rfl (by kernel_rfl) (by kernel_rfl) (by kernel_rfl) (fun _ _ _ h => h) rfl (.inl ⟨rfl, fun w _ => exec_field _ rfl rfl (chF2 _ _)⟩) (hS _ _ hI) ?_
          go_frame
          refine Rg.Any.takeT (i := 6) (t := 11) (v := .slice rva R.length rvc) (some 42) rfl rfl (by kernel_rfl) (by kernel_rfl) (by kernel_rfl) (fun _ _ _ h => h) rfl (by kernel_rfl) rfl (Rg.yields_cell _ _ rfl rfl ⟨w1.heap.size, 2, none⟩ rfl (fun W hW => Rg.run_loadSl _ _ Try.underlying49 hW.1.c2)) (hS _ _ hI) ?_
          go_frame
          refine Rg.Any.takeG (i := 7) (t := 11) (v := .slice ta (rs.map Ma.ofN).length tc2) (some 43) rfl rfl (by kernel_rfl) (by kernel_rfl) (by kernel_rfl) (fun _ _ _ h => h) rfl (.inl ⟨rfl, fun w _ => Rg.exec_move (v := .slice ta (rs.map Ma.ofN).length tc2) _ rfl rfl⟩) (hS _ _ hI) ?_
          go_frame
          refine Rg.Any.c2f1q (i := 3) (k := 4) (j := 8) (q := 10) (di := 39) (dk := 40) (dj := 44) (dq := 46) (vq := .pointer (some ⟨w1.heap.size, 1, none⟩)) (I := fun W => (fun W : World => Tri W w1.heap.size (.int .i64 ((n : Nat) : Int)) (Value.slice ova O.length ovc) (Value.slice rva R.length rvc) ∧ Below w1.heap.size w1 W) W ∧ w61.heap.size ≤ W.heap.size) (R0 := fun W => Pend w1.heap.size W w1.heap.size (.int .i64 ((n : Nat) : Int)) (Value.slice ova O.length ovc) (Value.slice rva R.length rvc) (Value.slice ova O.length ovc) (Value.slice rva R.length rvc) (O.map Ma.ofN) (R.map (List.map Ma.ofN)) (.slice (some ⟨sb, 0, none⟩) l.length sc) (Ma.ofN l) (.slice ta (rs.map Ma.ofN).length tc2) (rs.map Ma.ofN)) (Ri := fun u W => Rg.BlkF w61.heap.size [.slice (some ⟨sb, 0, none⟩) l.length sc] u W) (Rk := fun x W => ChR w1.heap.size W w1.heap.size (.int .i64 ((n : Nat) : Int)) (Value.slice ova O.length ovc) (Value.slice rva R.length rvc) x (Value.slice rva R.length rvc) (O.map Ma.ofN ++ [Ma.ofN l]) (R.map (List.map Ma.ofN)) ∧ Rg.FRows (GS2 w1.heap.size W w1.heap.size x (Value.slice rva R.length rvc)) W (.slice ta (rs.map Ma.ofN).length tc2) (rs.map Ma.ofN) ∧ ∃ a c, x = .slice a (O.length + 1) c) (Rj := fun v W => Rg.BlkF w61.heap.size [.slice ta (rs.map Ma.ofN).length tc2] v W) (fun l W h => hS l W h.1)
            (by decide) (by decide) (by decide) (by decide) (by decide) (by decide) (by kernel_rfl) (by kernel_rfl) (by kernel_rfl) (by kernel_rfl) (by kernel_rfl) ?_ ?_
            (fun _ _ hb h => h.below hb) (fun _ _ _ hb h => h.below hb) (fun _ _ _ hb h => ⟨h.1.below hb, frows_below h.2.1 hb, h.2.2⟩) (fun _ _ _ hb h => h.below hb) ?_ ?_ ?_ ⟨hI, Nat.le_refl _⟩ (PD.out) ?_
          · intro u x W m hs h
            exact Rg.Any.takeG (i := 10) (t := 11) (v := .pointer (some ⟨w1.heap.size, 1, none⟩)) (some 46) rfl rfl (by kernel_rfl) (by kernel_rfl) (by kernel_rfl) (fun _ _ _ h => h) rfl (.inl ⟨rfl, fun w _ => exec_field _ rfl rfl (chF1 _ _)⟩) hs h
          · intro u v x W m hs h
            exact Rg.Any.takeG (i := 10) (t := 11) (v := .pointer (some ⟨w1.heap.size, 1, none⟩)) (some 46) rfl rfl (by kernel_rfl) (by kernel_rfl) (by kernel_rfl) (fun _ _ _ h => h) rfl (.inl ⟨rfl, fun w _ => exec_field _ rfl rfl (chF1 _ _)⟩) hs h
          · intro b hb W hW
            have hbA : Below W.heap.size W (W.alloc (.cells #[.slice (some ⟨sb, 0, none⟩) l.length sc] 33)) := (Below.refl _ _).alloc (Nat.le_refl _) _
            exact Rg.doesRun rfl rfl (by rcases hb with rfl | ⟨u, rfl⟩ <;> rfl) (Rg.exec_buildSlice _ _ _ rfl (.slice (some ⟨sb, 0, none⟩) l.length sc) (by rcases hb with rfl | ⟨u, rfl⟩ <;> rfl) (run_build1L W _ ⟨_, _, _, rfl⟩)) ⟨⟨⟨hW.1.1.below hbA, Rg.acc hW.1.2 hbA⟩, by simp; have := hW.2; omega⟩, Rg.BlkF.new W [.slice (some ⟨sb, 0, none⟩) l.length sc] 33 hW.2, hbA⟩
          · intro b hb W hW
            have hbA : Below W.heap.size W (W.alloc (.cells #[.slice ta (rs.map Ma.ofN).length tc2] 22)) := (Below.refl _ _).alloc (Nat.le_refl _) _
            exact Rg.doesRun rfl rfl (by rcases hb with rfl | ⟨u, rfl⟩ | ⟨u, v, rfl⟩ <;> rfl) (Rg.exec_buildSlice _ _ _ rfl (.slice ta (rs.map Ma.ofN).length tc2) (by rcases hb with rfl | ⟨u, rfl⟩ | ⟨u, v, rfl⟩ <;> rfl) (run_build1PP W _ ⟨_, _, _, rfl⟩)) ⟨⟨⟨hW.1.1.below hbA, Rg.acc hW.1.2 hbA⟩, by simp; have := hW.2; omega⟩, Rg.BlkF.new W [.slice ta (rs.map Ma.ofN).length tc2] 22 hW.2, hbA⟩
          · intro u b hb W hW h0 hu
            obtain ⟨pu, rfl, hp0, hp1, hp2⟩ := hu
            obtain ⟨a2, c2, X, r1, r2, r3, r4⟩ := h0.ch.pushO hW.1.2.size h0.f5 rfl HOL.out (hp2 0 (by simp)) 41
            have hkX := Rg.Kp.of_grown r3 (M := fun z => (Value.slice ova O.length ovc).ownBlock = some z) (fun _ e => e)
            exact Rg.doesRun rfl rfl (by rcases hb with rfl | ⟨v, rfl⟩ <;> rfl) (Rg.exec_append _ _ _ rfl (by rcases hb with rfl | ⟨v, rfl⟩ <;> rfl) (by rcases hb with rfl | ⟨v, rfl⟩ <;> rfl) r1) ⟨⟨⟨r2.tri, hW.1.2.grown r3 hW.1.2.size (fun j e => (h0.ch.lts.1 j e).1)⟩, Nat.le_trans hW.2 r3.size⟩, ⟨r2, FRows.mono (FRows.kp h0.f6 hkX (fun z g e => g.2.2.1 e)) r4, _, _, by rw [List.length_map]⟩, fun v hv => hv.grown r3 (fun j e => Nat.lt_of_lt_of_le (HLTS.out.1 j e) SZ1.out.le)⟩
          rintro w62 fu fx fv hb hk hj
          have hI2_f := hb.1
          have hVsz := hb.2
          clear hb hI
          go_frame
          have FK := Lib.hid hk
          have FJ := Lib.hid hj
          obtain ⟨pj, hje, hj0, hj1, hj2⟩ := FJ.out
          subst hje
          obtain ⟨a2, c2, hfx⟩ := FK.out.2.2
          subst hfx
          obtain ⟨a3, c3, X3, q1, q2, q3⟩ := FK.out.1.pushR hI2_f.2.size FK.out.2.1 rfl HRLn.out (hj2 0 (by simp)) 49
          rw [List.length_map] at q1 q2
          have hI3_m := (show _ ∧ _ from ⟨q2.tri, hI2_f.2.grown q3 hI2_f.2.size (fun j e => (FK.out.1.lts.2 j e).1)⟩)
          refine Rg.Any.one (i := 9) (by kernel_rfl) (Rg.Any.run (some 45) rfl rfl rfl (Rg.exec_append _ _ _ rfl rfl rfl q1) (hS _ _ hI3_m) ?_)
          go_frame
          have KX := Lib.hid hI3_m.2
          refine Rg.Any.one (i := 11) (by kernel_rfl) (Rg.Any.runSkip none rfl rfl rfl (Rg.exec_store _ _ _ rfl _ rfl _ rfl (Rg.run_storeSl _ infoIntss q2.tri.c1 q2.tri.f1)) (hS2 _ _ rfl) ?_)
          go_frame
          refine Rg.Any.takeG (i := 12) (t := 11) (v := .pointer (some ⟨w1.heap.size, 2, none⟩)) (some 47) rfl rfl (by kernel_rfl) (by kernel_rfl) (by kernel_rfl) (fun _ _ _ h => h) rfl (.inl ⟨rfl, fun w _ => exec_field _ rfl rfl (chF2 _ _)⟩) (hS2 _ _ rfl) ?_
          go_frame
          refine Rg.Any.one (i := 13) (by kernel_rfl) (Rg.Any.runSkip none rfl rfl rfl (Rg.exec_store _ _ _ rfl _ rfl _ rfl (Rg.run_storeSl _ infoPermss (q2.tri.set1 _).c2 (q2.tri.set1 _).f2)) (hS2 _ _ rfl) ?_)
          go_frame
          refine Rg.Any.done (by kernel_rfl) ?_ _
          clear hS2
          clear hS hI3_m
          have hst := q2.store (.slice a2 (O.length + 1) c2) (.slice a3 (R.length + 1) c3)
          have hkk := (KX.out.setCell (p := ⟨w1.heap.size, 1, none⟩) (Nat.le_refl _) (.slice a2 (O.length + 1) c2)).setCell (p := ⟨w1.heap.size, 2, none⟩) (Nat.le_refl _) (.slice a3 (R.length + 1) c3)
          generalize (X3.setCell ⟨w1.heap.size, 1, none⟩ (.slice a2 (O.length + 1) c2)).setCell ⟨w1.heap.size, 2, none⟩ (.slice a3 (R.length + 1) c3) = w99 at *
          have CH2 := Lib.hid (show ChR w1.heap.size w99 w1.heap.size (.int .i64 ((n : Nat) : Int)) (.slice a2 (O.length + 1) c2) (.slice a3 (R.length + 1) c3) (.slice a2 (O.length + 1) c2) (.slice a3 (R.length + 1) c3) ((O ++ [l]).map Ma.ofN) ((R ++ [rs]).map (List.map Ma.ofN)) by rw [List.map_append, List.map_append]; exact hst)
          have K2 := Lib.hid hkk
          have HP2 := Lib.hid (HPC.out.snoc HA2.out (fun p => HA3.out p) HRSL.out HRS.out)
          clear hst hkk q1 q2 q3 KX FK FJ PD
          go_wp2
          go_roundw
          case rel => exact ⟨k + 1, _, _, O ++ [l], R ++ [rs], by go_num, HKL.out, CH2, K2, HP2⟩
          case measure => simp [intOf]; have := HKL.out; omega
    · obtain rfl : k = n := by omega
      have hkN : ¬ (k : Int) < (k : Int) := by omega
      have TT := Lib.hid (FT.out.below K1.out)
      go_upto_region 12 with (fail)
      refine wp_region_list ?_
      refine Rg.list_run (some 48) rfl rfl (Rg.exec_load _ _ rfl ⟨w1.heap.size, 0, none⟩ rfl (run_loadC CH.out.tri)) ?_
      go_frame
      refine Rg.list_skip none rfl rfl (Rg.exec_store _ _ _ rfl _ rfl _ rfl (run_storeC _ _ _ _ _ _ _ TT.out)) ?_
      go_frame
      have hkt := Rg.Kp.trans (Rg.Kp.trans (Rg.Kp.of_setCell (M := fun z => z = w.heap.size) (w := wr) (a := ⟨w.heap.size, 0, none⟩) (v := .int .i64 ((k : Nat) : Int)) rfl) (Rg.Kp.of_setCell (M := fun z => z = w.heap.size) (a := ⟨w.heap.size, 1, none⟩) (v := (Value.slice ova O.length ovc)) rfl) (fun _ _ e => e)) (Rg.Kp.of_setCell (M := fun z => z = w.heap.size) (a := ⟨w.heap.size, 2, none⟩) (v := (Value.slice rva R.length rvc)) rfl) (fun _ _ e => e)
      have hch := CH.out.kp hkt (fun z e => by rw [e]; exact hlo1)
      have htt := TT.out.set (.int .i64 ((k : Nat) : Int)) (Value.slice ova O.length ovc) (Value.slice rva R.length rvc)
      have hkf := ((((K.out.trans (K1.out.mono K.out.size)).setCell (p := ⟨w.heap.size, 0, none⟩) (Nat.le_refl _) (.int .i64 ((k : Nat) : Int))).setCell (p := ⟨w.heap.size, 1, none⟩) (Nat.le_refl _) (Value.slice ova O.length ovc)).setCell (p := ⟨w.heap.size, 2, none⟩) (Nat.le_refl _) (Value.slice rva R.length rvc))
      have hfin := HPC.out.isChain HTR.out
      have hfr2 : ∀ (X : World) (c0 c1 c2 a b : Value), ChR w1.heap.size X w1.heap.size c0 c1 c2 a b (O.map Ma.ofN) (R.map (List.map Ma.ofN)) → FRows2 (fun z => w.heap.size ≤ z) X b (R.map (List.map Ma.ofN)) := fun _ _ _ _ _ _ h => by
        obtain ⟨us, h1, h2⟩ := h.frR (by rw [List.length_map, HPC.out.lenR]; omega)
        exact ⟨us, h1.mono (fun z hz => by omega), FElts2.mono h2 (fun z hz => by omega)⟩
      go_wp2
      exact bodyPost_ret (results_cellC rfl _ rfl htt) rfl ⟨_, _, rfl, O, FRows.mono (hch.frO (by rw [List.length_map, HPC.out.lenO]; omega)) (fun z hz => by omega), R, hfr2 _ _ _ _ _ _ hch, hfin, hkf⟩
end Go.Proofs.Ytojbijkljnohoaa

/-! The reference: Make. -/
namespace Go.Proofs.Ytojbijkljnohoaa
open Go.RowKit
open Go.Proofs
open Go.Proofs.Ob
open Go.Proofs.Cm (Tr TabOk)
attribute [local irreducible] Go.Calls Go.wpList

theorem ChAns.shape {w : World} {d : Int} {ll : List (List Int)} {cv : Value} {c : Int} (h : ChAns w d ll cv c) : ∃ e a n k a' n' k', cv = .agg #[.int .i64 e, .slice a n k, .slice a' n' k'] := by
  rcases h with ⟨_, rfl⟩ | ⟨h0, n, gs, h1, h2, h3, h4, ov, rv, O, R, h5, h6, h7, h8⟩
  · exact ⟨_, _, _, _, _, _, _, rfl⟩
  · obtain ⟨oa, oc, rfl, _⟩ := h6.shape
    obtain ⟨ra, rc, rfl⟩ := h7.shape
    exact ⟨_, _, _, _, _, _, _, h5⟩
theorem GS.kg {F F' : Nat → Prop} {w w' : World} {v : Value} {gs : List (List Nat)} (h : GS F w v gs) (hk : KG F w F' w') : GS F' w' v gs := by
  obtain ⟨a, c, e, h1⟩ := h
  refine ⟨a, c, e, fun h0 => ?_⟩
  obtain ⟨b, o, e2, h2⟩ := h1 h0
  refine ⟨b, o, e2, fun k hk2 => ?_⟩
  obtain ⟨u, h3, h4⟩ := h2 k hk2
  exact ⟨u, h3.kg hk, h4.kg hk⟩
theorem GS.at {F : Nat → Prop} {w : World} {b o n c : Nat} {gs : List (List Nat)} (h : GS F w (.slice (some ⟨b, o, none⟩) n c) gs) {k : Nat} (hk : k < gs.length) : ∃ u, CF F w b (o + k) u ∧ FP F w u gs[k] := by
  obtain ⟨a, c', e, h1⟩ := h
  obtain ⟨b', o', e2, h2⟩ := h1 (by omega)
  injection e with e3 _ _
  rw [e2] at e3
  simp only [Option.some.injEq, Addr.mk.injEq, and_true] at e3
  obtain ⟨rfl, rfl⟩ := e3
  exact h2 k hk
theorem empty_b {n : Nat} (hn1 : 1 ≤ n) (hn2 : n ≤ 64) (w : World) :
    Calls Try.prog 75 #[.int .i64 ((n : Nat) : Int)] w fun e w' => ∃ tb c F Rb, e = .returned (.slice (some ⟨tb, 0, none⟩) n c) ∧ KG (fun k => k < w.heap.size) w F w' ∧ TabAt F tb 0 n w' (fun _ _ => none) Rb (fun _ _ => .slice none 0 0) ∧ Below w.heap.size w w' := by
  refine (empty_any hn1 hn2 w).mono ?_
  rintro e w' ⟨tb, c, F, Rb, rfl, h1, h2⟩
  exact ⟨tb, c, F, Rb, rfl, h1, h2, h1.kf.below (Nat.le_refl _) (fun _ h => h)⟩
end Go.Proofs.Ytojbijkljnohoaa

/-! slices.EqualFunc. -/
namespace Go.Proofs.Ytojbijkljnohoaa
open Go.RowKit
open Go.Proofs
open Go.Proofs.Ob
attribute [local irreducible] Go.Calls Go.wpList

theorem exec_fnv2 {o : Oper} {a : Act} {w : World} {u1 u2 : Value} (F : FuncId) (x y f : Operand) (tys : Array TypeId) (ho : o.op = .call { callee := .value f, args := #[x, y], argTypes := tys }) (hf : a.eval f = .func (.func F) #[] #[]) (hx : a.eval x = u1) (hy : a.eval y = u2)
    (hF : (callFunc F #[u1, u2]).run Try.prog w = .ok (.enter F #[u1, u2]) w) : (execOp a.eval o).run Try.prog w = .ok (.enter F #[u1, u2]) w := by
  unfold execOp
  simp [ho, hx, hy, hf, resolve, invoke, Deferred.ofValue, hF]
/-- two rows compared, element by element -/
def EqAsk (F : FuncId) (w0 : World) (us vs : List Value) (p : Nat → Bool) : Prop := ∀ i (h : i < us.length) (h2 : i < vs.length) (W : World), Below w0.heap.size w0 W → Calls Try.prog F #[us[i], vs[i]] W fun e W' => e = .returned (.bool (p i)) ∧ Below W.heap.size W W'
def eqAll (m n : Nat) (p : Nat → Bool) : Bool := m == n && (List.range m).all p
theorem eqAll_len {m n : Nat} {p : Nat → Bool} (h : m ≠ n) : eqAll m n p = false := by unfold eqAll; simp [h]
theorem eqAll_all {m : Nat} {p : Nat → Bool} (h : (List.range m).all p = true) : eqAll m m p = true := by unfold eqAll; simp [h]
theorem eqAll_no {m : Nat} {p : Nat → Bool} {k : Nat} (hk : k < m) (h : p k = false) : eqAll m m p = false := by
  unfold eqAll
  rw [Bool.and_eq_false_iff]
  right
  rw [List.all_eq_false]
  exact ⟨k, List.mem_range.2 hk, by simp [h]⟩
theorem rangeAll_next {p : Nat → Bool} {k : Nat} (h : (List.range k).all p = true) (h2 : p k = true) : (List.range (k + 1)).all p = true := by
  rw [List.range_succ, List.all_append]
  simp [h, h2]
theorem eqAll_iff {m n : Nat} {p : Nat → Bool} : eqAll m n p = true ↔ m = n ∧ ∀ i, i < m → p i = true := by
  unfold eqAll
  simp
/-- two lists compared -/
theorem eqAll_dec {α : Type} [DecidableEq α] {l m : List α} {p : Nat → Bool} (h : ∀ i (h1 : i < l.length) (h2 : i < m.length), p i = decide (l[i] = m[i])) : eqAll l.length m.length p = decide (l = m) := by
  rw [Bool.eq_iff_iff, eqAll_iff, decide_eq_true_iff]
  constructor
  · rintro ⟨h1, h2⟩
    refine List.ext_getElem h1 fun i a b => ?_
    have := h2 i a
    rw [h i a b] at this
    exact of_decide_eq_true this
  · rintro rfl
    exact ⟨rfl, fun i hi => by rw [h i hi hi]; simp⟩
set_option maxRecDepth 100000 in
set_option maxHeartbeats 4000000 in
theorem eqFuncI_any {va vb : Value} {us vs : List Value} {w : World} (h1 : Rg.Vals w va us) (h2 : Rg.Vals w vb vs) (F : FuncId) (hF : ∀ args W, (callFunc F args).run Try.prog W = .ok (.enter F args) W) {p : Nat → Bool} (hp : EqAsk F w us vs p) :
    Calls Try.prog 125 #[va, vb, .func (.func F) #[] #[]] w fun e w' => e = .returned (.bool (eqAll us.length vs.length p)) ∧ Below w.heap.size w w' := by
  obtain ⟨ad, cap, rfl, _, _, hlm, hcell⟩ := h1
  obtain ⟨ad2, cap2, rfl, _, _, hlm2, hcell2⟩ := h2
  unfold Rg.big at hlm hlm2
  have Hc := Lib.hid hcell
  have Hc2 := Lib.hid hcell2
  have HP := Lib.hid hp
  have K := Lib.hid (Below.refl w.heap.size w)
  clear hcell hcell2 hp
  go_enter Try.func125, Try.ntmps125
  by_cases hne : us.length = vs.length
  · have hneN : (us.length : Int) = (vs.length : Int) := by omega
    have HNE := Lib.hid hne
    go_upto_region 1 with (fail)
    refine wp_region_list ?_
    refine Rg.list_run (some 10) rfl rfl (Rg.exec_move (v := .slice ad us.length cap) _ rfl rfl) ?_
    go_frame
    refine Rg.list_run (some 11) rfl rfl (exec_len _ _ _ rfl Try.underlying41 _ _ _ rfl) ?_
    go_frame
    refine Rg.list_run (some 12) rfl rfl (Rg.exec_move (v := .slice ad2 vs.length cap2) _ rfl rfl) ?_
    go_frame
    refine Rg.list_run (some 13) rfl rfl (exec_len _ _ _ rfl Try.underlying41 _ _ _ rfl) ?_
    go_frame
    refine Rg.list_run (some 14) rfl rfl (exec_bin (R := .bool false) .neq _ _ _ rfl rfl rfl (b_neqB _ (decide_eq_false (by omega)))) ?_
    go_frame
    have HA := Lib.hid (show (List.range 0).all p = true from rfl)
    go_wp2
    go_loopw [17] (fun kv wr => ∃ k : Nat, kv = .int .i64 k ∧ k ≤ us.length ∧ Hid ((List.range k).all p = true) ∧ Hid (Below w.heap.size w wr)) (fun kv _ => us.length - (intOf kv).toNat)
    case atStart => exact ⟨0, rfl, Nat.zero_le _, HA, K⟩
    case round =>
      clear HA K
      obtain ⟨k, rfl, hk, HA, K⟩ := hrel
      by_cases hkl : k < us.length
      · have hkN : (k : Int) < (us.length : Int) := by omega
        have hkl2 : k < vs.length := by omega
        have HKL := Lib.hid hkl
        have HKL2 := Lib.hid hkl2
        obtain ⟨b, o, rfl, hb, hc⟩ := Hc.out (by omega)
        obtain ⟨b2, o2, rfl, hb2, hc2⟩ := Hc2.out (by omega)
        obtain ⟨x, hx⟩ : ∃ x : Value, Hid (us[k]'hkl = x) := ⟨_, Lib.hid rfl⟩
        obtain ⟨y, hy⟩ : ∃ y : Value, Hid (vs[k]'hkl2 = y) := ⟨_, Lib.hid rfl⟩
        have CX := Lib.hid (CL.mk (show w.cell? ⟨b, o + k, none⟩ = some x by rw [← hx.out]; exact hc k hkl) hb)
        have CY := Lib.hid (CL.mk (show w.cell? ⟨b2, o2 + k, none⟩ = some y by rw [← hy.out]; exact hc2 k hkl2) hb2)
        have hask := HP.out k hkl hkl2 wr K.out
        rw [show us[k] = x from hx.out, show vs[k] = y from hy.out] at hask
        have HK := Lib.hid hask
        clear hc hc2 hask hb hb2
        cases hpk : p k with
        | true =>
          have HPK := Lib.hid hpk
          rw [hpk] at HK
          have HA2 := Lib.hid (rangeAll_next HA.out hpk)
          clear hpk
          go_upto_region 5 with (fail)
          refine wp_region_list ?_
          refine Rg.list_run (some 19) rfl rfl (Rg.exec_move (v := .int .i64 ((k : Nat) : Int)) _ rfl rfl) ?_
          go_frame
          refine Rg.list_run (some 20) rfl rfl (exec_indexS slIntss _ _ rfl b (o) (us.length) cap (k) rfl rfl HKL.out) ?_
          go_frame
          refine Rg.list_run (some 21) rfl rfl (Rg.exec_load (v := x) _ _ rfl ⟨b, o + k, none⟩ rfl (Rg.run_loadSl _ _ Try.underlying33 ((Below.cell (p := ⟨b, o + k, none⟩) K.out CX.out.lt).trans CX.out.cell))) ?_
          go_frame
          refine Rg.list_run (some 7) rfl rfl (Rg.exec_assign (v := .int .i64 ((k : Nat) : Int)) _ rfl rfl) ?_
          go_frame
          refine Rg.list_run (some 8) rfl rfl (Rg.exec_assign (v := x) _ rfl rfl) ?_
          go_frame
          go_upto_region 6 with (fail)
          refine wp_region_list ?_
          refine Rg.list_run (some 22) rfl rfl (Rg.exec_move (v := .slice (some ⟨b2, o2, none⟩) vs.length cap2) _ rfl rfl) ?_
          go_frame
          refine Rg.list_run (some 23) rfl rfl (Rg.exec_move (v := .int .i64 ((k : Nat) : Int)) _ rfl rfl) ?_
          go_frame
          refine Rg.list_run (some 24) rfl rfl (exec_indexS slIntss _ _ rfl b2 (o2) (vs.length) cap2 (k) rfl rfl HKL2.out) ?_
          go_frame
          refine Rg.list_run (some 25) rfl rfl (Rg.exec_load (v := y) _ _ rfl ⟨b2, o2 + k, none⟩ rfl (Rg.run_loadSl _ _ Try.underlying33 ((Below.cell (p := ⟨b2, o2 + k, none⟩) K.out CY.out.lt).trans CY.out.cell))) ?_
          go_frame
          refine Rg.list_run (some 9) rfl rfl (Rg.exec_assign (v := y) _ rfl rfl) ?_
          go_frame
          go_upto_region 7 with (fail)
          refine wp_region_list ?_
          refine Rg.list_run (some 26) rfl rfl (Rg.exec_move (v := .func (.func F) #[] #[]) _ rfl rfl) ?_
          go_frame
          refine Rg.list_run (some 27) rfl rfl (Rg.exec_move (v := x) _ rfl rfl) ?_
          go_frame
          refine Rg.list_run (some 28) rfl rfl (Rg.exec_move (v := y) _ rfl rfl) ?_
          go_frame
          refine list_ask (some 29) rfl rfl _ _ (exec_fnv2 F _ _ _ _ rfl rfl rfl rfl (hF _ _)) ?_
          refine (HK.out).mono ?_
          rintro e1 w11 ⟨rfl, hb⟩
          refine ⟨_, rfl, ?_⟩
          go_frame
          replace K := Lib.hid (Rg.acc K.out hb)
          clear hb
          refine Rg.list_run (some 30) rfl rfl (exec_not _ _ true rfl rfl) ?_
          go_frame
          go_wp2
          go_roundw
          case rel => exact ⟨k + 1, by go_num, HKL.out, HA2, K⟩
          case measure => simp [intOf]; have := HKL.out; omega
        | false =>
          rw [hpk] at HK
          have HR := Lib.hid (eqAll_no hkl hpk)
          clear hpk
          go_upto_region 5 with (fail)
          refine wp_region_list ?_
          refine Rg.list_run (some 19) rfl rfl (Rg.exec_move (v := .int .i64 ((k : Nat) : Int)) _ rfl rfl) ?_
          go_frame
          refine Rg.list_run (some 20) rfl rfl (exec_indexS slIntss _ _ rfl b (o) (us.length) cap (k) rfl rfl HKL.out) ?_
          go_frame
          refine Rg.list_run (some 21) rfl rfl (Rg.exec_load (v := x) _ _ rfl ⟨b, o + k, none⟩ rfl (Rg.run_loadSl _ _ Try.underlying33 ((Below.cell (p := ⟨b, o + k, none⟩) K.out CX.out.lt).trans CX.out.cell))) ?_
          go_frame
          refine Rg.list_run (some 7) rfl rfl (Rg.exec_assign (v := .int .i64 ((k : Nat) : Int)) _ rfl rfl) ?_
          go_frame
          refine Rg.list_run (some 8) rfl rfl (Rg.exec_assign (v := x) _ rfl rfl) ?_
          go_frame
          go_upto_region 6 with (fail)
          refine wp_region_list ?_
          refine Rg.list_run (some 22) rfl rfl (Rg.exec_move (v := .slice (some ⟨b2, o2, none⟩) vs.length cap2) _ rfl rfl) ?_
          go_frame
          refine Rg.list_run (some 23) rfl rfl (Rg.exec_move (v := .int .i64 ((k : Nat) : Int)) _ rfl rfl) ?_
          go_frame
          refine Rg.list_run (some 24) rfl rfl (exec_indexS slIntss _ _ rfl b2 (o2) (vs.length) cap2 (k) rfl rfl HKL2.out) ?_
          go_frame
          refine Rg.list_run (some 25) rfl rfl (Rg.exec_load (v := y) _ _ rfl ⟨b2, o2 + k, none⟩ rfl (Rg.run_loadSl _ _ Try.underlying33 ((Below.cell (p := ⟨b2, o2 + k, none⟩) K.out CY.out.lt).trans CY.out.cell))) ?_
          go_frame
          refine Rg.list_run (some 9) rfl rfl (Rg.exec_assign (v := y) _ rfl rfl) ?_
          go_frame
          go_upto_region 7 with (fail)
          refine wp_region_list ?_
          refine Rg.list_run (some 26) rfl rfl (Rg.exec_move (v := .func (.func F) #[] #[]) _ rfl rfl) ?_
          go_frame
          refine Rg.list_run (some 27) rfl rfl (Rg.exec_move (v := x) _ rfl rfl) ?_
          go_frame
          refine Rg.list_run (some 28) rfl rfl (Rg.exec_move (v := y) _ rfl rfl) ?_
          go_frame
          refine list_ask (some 29) rfl rfl _ _ (exec_fnv2 F _ _ _ _ rfl rfl rfl rfl (hF _ _)) ?_
          refine (HK.out).mono ?_
          rintro e1 w11 ⟨rfl, hb⟩
          refine ⟨_, rfl, ?_⟩
          go_frame
          replace K := Lib.hid (Rg.acc K.out hb)
          clear hb
          refine Rg.list_run (some 30) rfl rfl (exec_not _ _ false rfl rfl) ?_
          go_frame
          go_wp2
          go_ret
          exact ⟨by rw [← HNE.out, HR.out]; rfl, K.out⟩
      · obtain rfl : k = us.length := by omega
        have hkN : ¬ (us.length : Int) < (us.length : Int) := by omega
        have HR := Lib.hid (eqAll_all HA.out)
        go_wp2
        go_ret
        exact ⟨by rw [← HNE.out, HR.out]; rfl, K.out⟩
  · have hneN : ¬ (us.length : Int) = (vs.length : Int) := by omega
    have HR := Lib.hid (eqAll_len (p := p) hne)
    go_upto_region 1 with (fail)
    refine wp_region_list ?_
    refine Rg.list_run (some 10) rfl rfl (Rg.exec_move (v := .slice ad us.length cap) _ rfl rfl) ?_
    go_frame
    refine Rg.list_run (some 11) rfl rfl (exec_len _ _ _ rfl Try.underlying41 _ _ _ rfl) ?_
    go_frame
    refine Rg.list_run (some 12) rfl rfl (Rg.exec_move (v := .slice ad2 vs.length cap2) _ rfl rfl) ?_
    go_frame
    refine Rg.list_run (some 13) rfl rfl (exec_len _ _ _ rfl Try.underlying41 _ _ _ rfl) ?_
    go_frame
    refine Rg.list_run (some 14) rfl rfl (exec_bin (R := .bool true) .neq _ _ _ rfl rfl rfl (b_neqB _ (decide_eq_true (by omega)))) ?_
    go_frame
    go_wp2
    go_ret
    exact ⟨by rw [HR.out]; rfl, K.out⟩
set_option maxRecDepth 100000 in
set_option maxHeartbeats 4000000 in
theorem eqFuncR_any {va vb : Value} {us vs : List Value} {w : World} (h1 : Rg.Vals w va us) (h2 : Rg.Vals w vb vs) (F : FuncId) (hF : ∀ args W, (callFunc F args).run Try.prog W = .ok (.enter F args) W) {p : Nat → Bool} (hp : EqAsk F w us vs p) :
    Calls Try.prog 127 #[va, vb, .func (.func F) #[] #[]] w fun e w' => e = .returned (.bool (eqAll us.length vs.length p)) ∧ Below w.heap.size w w' := by
  obtain ⟨ad, cap, rfl, _, _, hlm, hcell⟩ := h1
  obtain ⟨ad2, cap2, rfl, _, _, hlm2, hcell2⟩ := h2
  unfold Rg.big at hlm hlm2
  have Hc := Lib.hid hcell
  have Hc2 := Lib.hid hcell2
  have HP := Lib.hid hp
  have K := Lib.hid (Below.refl w.heap.size w)
  clear hcell hcell2 hp
  go_enter Try.func127, Try.ntmps127
  by_cases hne : us.length = vs.length
  · have hneN : (us.length : Int) = (vs.length : Int) := by omega
    have HNE := Lib.hid hne
    go_upto_region 1 with (fail)
    refine wp_region_list ?_
    refine Rg.list_run (some 10) rfl rfl (Rg.exec_move (v := .slice ad us.length cap) _ rfl rfl) ?_
    go_frame
    refine Rg.list_run (some 11) rfl rfl (exec_len _ _ _ rfl Try.underlying49 _ _ _ rfl) ?_
    go_frame
    refine Rg.list_run (some 12) rfl rfl (Rg.exec_move (v := .slice ad2 vs.length cap2) _ rfl rfl) ?_
    go_frame
    refine Rg.list_run (some 13) rfl rfl (exec_len _ _ _ rfl Try.underlying49 _ _ _ rfl) ?_
    go_frame
    refine Rg.list_run (some 14) rfl rfl (exec_bin (R := .bool false) .neq _ _ _ rfl rfl rfl (b_neqB _ (decide_eq_false (by omega)))) ?_
    go_frame
    have HA := Lib.hid (show (List.range 0).all p = true from rfl)
    go_wp2
    go_loopw [17] (fun kv wr => ∃ k : Nat, kv = .int .i64 k ∧ k ≤ us.length ∧ Hid ((List.range k).all p = true) ∧ Hid (Below w.heap.size w wr)) (fun kv _ => us.length - (intOf kv).toNat)
    case atStart => exact ⟨0, rfl, Nat.zero_le _, HA, K⟩
    case round =>
      clear HA K
      obtain ⟨k, rfl, hk, HA, K⟩ := hrel
      by_cases hkl : k < us.length
      · have hkN : (k : Int) < (us.length : Int) := by omega
        have hkl2 : k < vs.length := by omega
        have HKL := Lib.hid hkl
        have HKL2 := Lib.hid hkl2
        obtain ⟨b, o, rfl, hb, hc⟩ := Hc.out (by omega)
        obtain ⟨b2, o2, rfl, hb2, hc2⟩ := Hc2.out (by omega)
        obtain ⟨x, hx⟩ : ∃ x : Value, Hid (us[k]'hkl = x) := ⟨_, Lib.hid rfl⟩
        obtain ⟨y, hy⟩ : ∃ y : Value, Hid (vs[k]'hkl2 = y) := ⟨_, Lib.hid rfl⟩
        have CX := Lib.hid (CL.mk (show w.cell? ⟨b, o + k, none⟩ = some x by rw [← hx.out]; exact hc k hkl) hb)
        have CY := Lib.hid (CL.mk (show w.cell? ⟨b2, o2 + k, none⟩ = some y by rw [← hy.out]; exact hc2 k hkl2) hb2)
        have hask := HP.out k hkl hkl2 wr K.out
        rw [show us[k] = x from hx.out, show vs[k] = y from hy.out] at hask
        have HK := Lib.hid hask
        clear hc hc2 hask hb hb2
        cases hpk : p k with
        | true =>
          have HPK := Lib.hid hpk
          rw [hpk] at HK
          have HA2 := Lib.hid (rangeAll_next HA.out hpk)
          clear hpk
          go_upto_region 5 with (fail)
          refine wp_region_list ?_
          refine Rg.list_run (some 19) rfl rfl (Rg.exec_move (v := .int .i64 ((k : Nat) : Int)) _ rfl rfl) ?_
          go_frame
          refine Rg.list_run (some 20) rfl rfl (exec_indexS slPermss _ _ rfl b (o) (us.length) cap (k) rfl rfl HKL.out) ?_
          go_frame
          refine Rg.list_run (some 21) rfl rfl (Rg.exec_load (v := x) _ _ rfl ⟨b, o + k, none⟩ rfl (Rg.run_loadSl _ _ Try.underlying22 ((Below.cell (p := ⟨b, o + k, none⟩) K.out CX.out.lt).trans CX.out.cell))) ?_
          go_frame
          refine Rg.list_run (some 7) rfl rfl (Rg.exec_assign (v := .int .i64 ((k : Nat) : Int)) _ rfl rfl) ?_
          go_frame
          refine Rg.list_run (some 8) rfl rfl (Rg.exec_assign (v := x) _ rfl rfl) ?_
          go_frame
          go_upto_region 6 with (fail)
          refine wp_region_list ?_
          refine Rg.list_run (some 22) rfl rfl (Rg.exec_move (v := .slice (some ⟨b2, o2, none⟩) vs.length cap2) _ rfl rfl) ?_
          go_frame
          refine Rg.list_run (some 23) rfl rfl (Rg.exec_move (v := .int .i64 ((k : Nat) : Int)) _ rfl rfl) ?_
          go_frame
          refine Rg.list_run (some 24) rfl rfl (exec_indexS slPermss _ _ rfl b2 (o2) (vs.length) cap2 (k) rfl rfl HKL2.out) ?_
          go_frame
          refine Rg.list_run (some 25) rfl rfl (Rg.exec_load (v := y) _ _ rfl ⟨b2, o2 + k, none⟩ rfl (Rg.run_loadSl _ _ Try.underlying22 ((Below.cell (p := ⟨b2, o2 + k, none⟩) K.out CY.out.lt).trans CY.out.cell))) ?_
          go_frame
          refine Rg.list_run (some 9) rfl rfl (Rg.exec_assign (v := y) _ rfl rfl) ?_
          go_frame
          go_upto_region 7 with (fail)
          refine wp_region_list ?_
          refine Rg.list_run (some 26) rfl rfl (Rg.exec_move (v := .func (.func F) #[] #[]) _ rfl rfl) ?_
          go_frame
          refine Rg.list_run (some 27) rfl rfl (Rg.exec_move (v := x) _ rfl rfl) ?_
          go_frame
          refine Rg.list_run (some 28) rfl rfl (Rg.exec_move (v := y) _ rfl rfl) ?_
          go_frame
          refine list_ask (some 29) rfl rfl _ _ (exec_fnv2 F _ _ _ _ rfl rfl rfl rfl (hF _ _)) ?_
          refine (HK.out).mono ?_
          rintro e1 w11 ⟨rfl, hb⟩
          refine ⟨_, rfl, ?_⟩
          go_frame
          replace K := Lib.hid (Rg.acc K.out hb)
          clear hb
          refine Rg.list_run (some 30) rfl rfl (exec_not _ _ true rfl rfl) ?_
          go_frame
          go_wp2
          go_roundw
          case rel => exact ⟨k + 1, by go_num, HKL.out, HA2, K⟩
          case measure => simp [intOf]; have := HKL.out; omega
        | false =>
          rw [hpk] at HK
          have HR := Lib.hid (eqAll_no hkl hpk)
          clear hpk
          go_upto_region 5 with (fail)
          refine wp_region_list ?_
          refine Rg.list_run (some 19) rfl rfl (Rg.exec_move (v := .int .i64 ((k : Nat) : Int)) _ rfl rfl) ?_
          go_frame
          refine Rg.list_run (some 20) rfl rfl (exec_indexS slPermss _ _ rfl b (o) (us.length) cap (k) rfl rfl HKL.out) ?_
          go_frame
          refine Rg.list_run (some 21) rfl rfl (Rg.exec_load (v := x) _ _ rfl ⟨b, o + k, none⟩ rfl (Rg.run_loadSl _ _ Try.underlying22 ((Below.cell (p := ⟨b, o + k, none⟩) K.out CX.out.lt).trans CX.out.cell))) ?_
          go_frame
          refine Rg.list_run (some 7) rfl rfl (Rg.exec_assign (v := .int .i64 ((k : Nat) : Int)) _ rfl rfl) ?_
          go_frame
          refine Rg.list_run (some 8) rfl rfl (Rg.exec_assign (v := x) _ rfl rfl) ?_
          go_frame
          go_upto_region 6 with (fail)
          refine wp_region_list ?_
          refine Rg.list_run (some 22) rfl rfl (Rg.exec_move (v := .slice (some ⟨b2, o2, none⟩) vs.length cap2) _ rfl rfl) ?_
          go_frame
          refine Rg.list_run (some 23) rfl rfl (Rg.exec_move (v := .int .i64 ((k : Nat) : Int)) _ rfl rfl) ?_
          go_frame
          refine Rg.list_run (some 24) rfl rfl (exec_indexS slPermss _ _ rfl b2 (o2) (vs.length) cap2 (k) rfl rfl HKL2.out) ?_
          go_frame
          refine Rg.list_run (some 25) rfl rfl (Rg.exec_load (v := y) _ _ rfl ⟨b2, o2 + k, none⟩ rfl (Rg.run_loadSl _ _ Try.underlying22 ((Below.cell (p := ⟨b2, o2 + k, none⟩) K.out CY.out.lt).trans CY.out.cell))) ?_
          go_frame
          refine Rg.list_run (some 9) rfl rfl (Rg.exec_assign (v := y) _ rfl rfl) ?_
          go_frame
          go_upto_region 7 with (fail)
          refine wp_region_list ?_
          refine Rg.list_run (some 26) rfl rfl (Rg.exec_move (v := .func (.func F) #[] #[]) _ rfl rfl) ?_
          go_frame
          refine Rg.list_run (some 27) rfl rfl (Rg.exec_move (v := x) _ rfl rfl) ?_
          go_frame
          refine Rg.list_run (some 28) rfl rfl (Rg.exec_move (v := y) _ rfl rfl) ?_
          go_frame
          refine list_ask (some 29) rfl rfl _ _ (exec_fnv2 F _ _ _ _ rfl rfl rfl rfl (hF _ _)) ?_
          refine (HK.out).mono ?_
          rintro e1 w11 ⟨rfl, hb⟩
          refine ⟨_, rfl, ?_⟩
          go_frame
          replace K := Lib.hid (Rg.acc K.out hb)
          clear hb
          refine Rg.list_run (some 30) rfl rfl (exec_not _ _ false rfl rfl) ?_
          go_frame
          go_wp2
          go_ret
          exact ⟨by rw [← HNE.out, HR.out]; rfl, K.out⟩
      · obtain rfl : k = us.length := by omega
        have hkN : ¬ (us.length : Int) < (us.length : Int) := by omega
        have HR := Lib.hid (eqAll_all HA.out)
        go_wp2
        go_ret
        exact ⟨by rw [← HNE.out, HR.out]; rfl, K.out⟩
  · have hneN : ¬ (us.length : Int) = (vs.length : Int) := by omega
    have HR := Lib.hid (eqAll_len (p := p) hne)
    go_upto_region 1 with (fail)
    refine wp_region_list ?_
    refine Rg.list_run (some 10) rfl rfl (Rg.exec_move (v := .slice ad us.length cap) _ rfl rfl) ?_
    go_frame
    refine Rg.list_run (some 11) rfl rfl (exec_len _ _ _ rfl Try.underlying49 _ _ _ rfl) ?_
    go_frame
    refine Rg.list_run (some 12) rfl rfl (Rg.exec_move (v := .slice ad2 vs.length cap2) _ rfl rfl) ?_
    go_frame
    refine Rg.list_run (some 13) rfl rfl (exec_len _ _ _ rfl Try.underlying49 _ _ _ rfl) ?_
    go_frame
    refine Rg.list_run (some 14) rfl rfl (exec_bin (R := .bool true) .neq _ _ _ rfl rfl rfl (b_neqB _ (decide_eq_true (by omega)))) ?_
    go_frame
    go_wp2
    go_ret
    exact ⟨by rw [HR.out]; rfl, K.out⟩
set_option maxRecDepth 100000 in
set_option maxHeartbeats 4000000 in
theorem eqFuncP_any {va vb : Value} {us vs : List Value} {w : World} (h1 : Rg.Vals w va us) (h2 : Rg.Vals w vb vs) (F : FuncId) (hF : ∀ args W, (callFunc F args).run Try.prog W = .ok (.enter F args) W) {p : Nat → Bool} (hp : EqAsk F w us vs p) :
    Calls Try.prog 129 #[va, vb, .func (.func F) #[] #[]] w fun e w' => e = .returned (.bool (eqAll us.length vs.length p)) ∧ Below w.heap.size w w' := by
  obtain ⟨ad, cap, rfl, _, _, hlm, hcell⟩ := h1
  obtain ⟨ad2, cap2, rfl, _, _, hlm2, hcell2⟩ := h2
  unfold Rg.big at hlm hlm2
  have Hc := Lib.hid hcell
  have Hc2 := Lib.hid hcell2
  have HP := Lib.hid hp
  have K := Lib.hid (Below.refl w.heap.size w)
  clear hcell hcell2 hp
  go_enter Try.func129, Try.ntmps129
  by_cases hne : us.length = vs.length
  · have hneN : (us.length : Int) = (vs.length : Int) := by omega
    have HNE := Lib.hid hne
    go_upto_region 1 with (fail)
    refine wp_region_list ?_
    refine Rg.list_run (some 10) rfl rfl (Rg.exec_move (v := .slice ad us.length cap) _ rfl rfl) ?_
    go_frame
    refine Rg.list_run (some 11) rfl rfl (exec_len _ _ _ rfl Try.underlying22 _ _ _ rfl) ?_
    go_frame
    refine Rg.list_run (some 12) rfl rfl (Rg.exec_move (v := .slice ad2 vs.length cap2) _ rfl rfl) ?_
    go_frame
    refine Rg.list_run (some 13) rfl rfl (exec_len _ _ _ rfl Try.underlying22 _ _ _ rfl) ?_
    go_frame
    refine Rg.list_run (some 14) rfl rfl (exec_bin (R := .bool false) .neq _ _ _ rfl rfl rfl (b_neqB _ (decide_eq_false (by omega)))) ?_
    go_frame
    have HA := Lib.hid (show (List.range 0).all p = true from rfl)
    go_wp2
    go_loopw [17] (fun kv wr => ∃ k : Nat, kv = .int .i64 k ∧ k ≤ us.length ∧ Hid ((List.range k).all p = true) ∧ Hid (Below w.heap.size w wr)) (fun kv _ => us.length - (intOf kv).toNat)
    case atStart => exact ⟨0, rfl, Nat.zero_le _, HA, K⟩
    case round =>
      clear HA K
      obtain ⟨k, rfl, hk, HA, K⟩ := hrel
      by_cases hkl : k < us.length
      · have hkN : (k : Int) < (us.length : Int) := by omega
        have hkl2 : k < vs.length := by omega
        have HKL := Lib.hid hkl
        have HKL2 := Lib.hid hkl2
        obtain ⟨b, o, rfl, hb, hc⟩ := Hc.out (by omega)
        obtain ⟨b2, o2, rfl, hb2, hc2⟩ := Hc2.out (by omega)
        obtain ⟨x, hx⟩ : ∃ x : Value, Hid (us[k]'hkl = x) := ⟨_, Lib.hid rfl⟩
        obtain ⟨y, hy⟩ : ∃ y : Value, Hid (vs[k]'hkl2 = y) := ⟨_, Lib.hid rfl⟩
        have CX := Lib.hid (CL.mk (show w.cell? ⟨b, o + k, none⟩ = some x by rw [← hx.out]; exact hc k hkl) hb)
        have CY := Lib.hid (CL.mk (show w.cell? ⟨b2, o2 + k, none⟩ = some y by rw [← hy.out]; exact hc2 k hkl2) hb2)
        have hask := HP.out k hkl hkl2 wr K.out
        rw [show us[k] = x from hx.out, show vs[k] = y from hy.out] at hask
        have HK := Lib.hid hask
        clear hc hc2 hask hb hb2
        cases hpk : p k with
        | true =>
          have HPK := Lib.hid hpk
          rw [hpk] at HK
          have HA2 := Lib.hid (rangeAll_next HA.out hpk)
          clear hpk
          go_upto_region 5 with (fail)
          refine wp_region_list ?_
          refine Rg.list_run (some 19) rfl rfl (Rg.exec_move (v := .int .i64 ((k : Nat) : Int)) _ rfl rfl) ?_
          go_frame
          refine Rg.list_run (some 20) rfl rfl (exec_indexS slPerms _ _ rfl b (o) (us.length) cap (k) rfl rfl HKL.out) ?_
          go_frame
          refine Rg.list_run (some 21) rfl rfl (Rg.exec_load (v := x) _ _ rfl ⟨b, o + k, none⟩ rfl (Rg.run_loadSl _ _ Try.underlying62 ((Below.cell (p := ⟨b, o + k, none⟩) K.out CX.out.lt).trans CX.out.cell))) ?_
          go_frame
          refine Rg.list_run (some 7) rfl rfl (Rg.exec_assign (v := .int .i64 ((k : Nat) : Int)) _ rfl rfl) ?_
          go_frame
          refine Rg.list_run (some 8) rfl rfl (Rg.exec_assign (v := x) _ rfl rfl) ?_
          go_frame
          go_upto_region 6 with (fail)
          refine wp_region_list ?_
          refine Rg.list_run (some 22) rfl rfl (Rg.exec_move (v := .slice (some ⟨b2, o2, none⟩) vs.length cap2) _ rfl rfl) ?_
          go_frame
          refine Rg.list_run (some 23) rfl rfl (Rg.exec_move (v := .int .i64 ((k : Nat) : Int)) _ rfl rfl) ?_
          go_frame
          refine Rg.list_run (some 24) rfl rfl (exec_indexS slPerms _ _ rfl b2 (o2) (vs.length) cap2 (k) rfl rfl HKL2.out) ?_
          go_frame
          refine Rg.list_run (some 25) rfl rfl (Rg.exec_load (v := y) _ _ rfl ⟨b2, o2 + k, none⟩ rfl (Rg.run_loadSl _ _ Try.underlying62 ((Below.cell (p := ⟨b2, o2 + k, none⟩) K.out CY.out.lt).trans CY.out.cell))) ?_
          go_frame
          refine Rg.list_run (some 9) rfl rfl (Rg.exec_assign (v := y) _ rfl rfl) ?_
          go_frame
          go_upto_region 7 with (fail)
          refine wp_region_list ?_
          refine Rg.list_run (some 26) rfl rfl (Rg.exec_move (v := .func (.func F) #[] #[]) _ rfl rfl) ?_
          go_frame
          refine Rg.list_run (some 27) rfl rfl (Rg.exec_move (v := x) _ rfl rfl) ?_
          go_frame
          refine Rg.list_run (some 28) rfl rfl (Rg.exec_move (v := y) _ rfl rfl) ?_
          go_frame
          refine list_ask (some 29) rfl rfl _ _ (exec_fnv2 F _ _ _ _ rfl rfl rfl rfl (hF _ _)) ?_
          refine (HK.out).mono ?_
          rintro e1 w11 ⟨rfl, hb⟩
          refine ⟨_, rfl, ?_⟩
          go_frame
          replace K := Lib.hid (Rg.acc K.out hb)
          clear hb
          refine Rg.list_run (some 30) rfl rfl (exec_not _ _ true rfl rfl) ?_
          go_frame
          go_wp2
          go_roundw
          case rel => exact ⟨k + 1, by go_num, HKL.out, HA2, K⟩
          case measure => simp [intOf]; have := HKL.out; omega
        | false =>
          rw [hpk] at HK
          have HR := Lib.hid (eqAll_no hkl hpk)
          clear hpk
          go_upto_region 5 with (fail)
          refine wp_region_list ?_
          refine Rg.list_run (some 19) rfl rfl (Rg.exec_move (v := .int .i64 ((k : Nat) : Int)) _ rfl rfl) ?_
          go_frame
          refine Rg.list_run (some 20) rfl rfl (exec_indexS slPerms _ _ rfl b (o) (us.length) cap (k) rfl rfl HKL.out) ?_
          go_frame
          refine Rg.list_run (some 21) rfl rfl (Rg.exec_load (v := x) _ _ rfl ⟨b, o + k, none⟩ rfl (Rg.run_loadSl _ _ Try.underlying62 ((Below.cell (p := ⟨b, o + k, none⟩) K.out CX.out.lt).trans CX.out.cell))) ?_
          go_frame
          refine Rg.list_run (some 7) rfl rfl (Rg.exec_assign (v := .int .i64 ((k : Nat) : Int)) _ rfl rfl) ?_
          go_frame
          refine Rg.list_run (some 8) rfl rfl (Rg.exec_assign (v := x) _ rfl rfl) ?_
          go_frame
          go_upto_region 6 with (fail)
          refine wp_region_list ?_
          refine Rg.list_run (some 22) rfl rfl (Rg.exec_move (v := .slice (some ⟨b2, o2, none⟩) vs.length cap2) _ rfl rfl) ?_
          go_frame
          refine Rg.list_run (some 23) rfl rfl (Rg.exec_move (v := .int .i64 ((k : Nat) : Int)) _ rfl rfl) ?_
          go_frame
          refine Rg.list_run (some 24) rfl rfl (exec_indexS slPerms _ _ rfl b2 (o2) (vs.length) cap2 (k) rfl rfl HKL2.out) ?_
          go_frame
          refine Rg.list_run (some 25) rfl rfl (Rg.exec_load (v := y) _ _ rfl ⟨b2, o2 + k, none⟩ rfl (Rg.run_loadSl _ _ Try.underlying62 ((Below.cell (p := ⟨b2, o2 + k, none⟩) K.out CY.out.lt).trans CY.out.cell))) ?_
          go_frame
          refine Rg.list_run (some 9) rfl rfl (Rg.exec_assign (v := y) _ rfl rfl) ?_
          go_frame
          go_upto_region 7 with (fail)
          refine wp_region_list ?_
          refine Rg.list_run (some 26) rfl rfl (Rg.exec_move (v := .func (.func F) #[] #[]) _ rfl rfl) ?_
          go_frame
          refine Rg.list_run (some 27) rfl rfl (Rg.exec_move (v := x) _ rfl rfl) ?_
          go_frame
          refine Rg.list_run (some 28) rfl rfl (Rg.exec_move (v := y) _ rfl rfl) ?_
          go_frame
          refine list_ask (some 29) rfl rfl _ _ (exec_fnv2 F _ _ _ _ rfl rfl rfl rfl (hF _ _)) ?_
          refine (HK.out).mono ?_
          rintro e1 w11 ⟨rfl, hb⟩
          refine ⟨_, rfl, ?_⟩
          go_frame
          replace K := Lib.hid (Rg.acc K.out hb)
          clear hb
          refine Rg.list_run (some 30) rfl rfl (exec_not _ _ false rfl rfl) ?_
          go_frame
          go_wp2
          go_ret
          exact ⟨by rw [← HNE.out, HR.out]; rfl, K.out⟩
      · obtain rfl : k = us.length := by omega
        have hkN : ¬ (us.length : Int) < (us.length : Int) := by omega
        have HR := Lib.hid (eqAll_all HA.out)
        go_wp2
        go_ret
        exact ⟨by rw [← HNE.out, HR.out]; rfl, K.out⟩
  · have hneN : ¬ (us.length : Int) = (vs.length : Int) := by omega
    have HR := Lib.hid (eqAll_len (p := p) hne)
    go_upto_region 1 with (fail)
    refine wp_region_list ?_
    refine Rg.list_run (some 10) rfl rfl (Rg.exec_move (v := .slice ad us.length cap) _ rfl rfl) ?_
    go_frame
    refine Rg.list_run (some 11) rfl rfl (exec_len _ _ _ rfl Try.underlying22 _ _ _ rfl) ?_
    go_frame
    refine Rg.list_run (some 12) rfl rfl (Rg.exec_move (v := .slice ad2 vs.length cap2) _ rfl rfl) ?_
    go_frame
    refine Rg.list_run (some 13) rfl rfl (exec_len _ _ _ rfl Try.underlying22 _ _ _ rfl) ?_
    go_frame
    refine Rg.list_run (some 14) rfl rfl (exec_bin (R := .bool true) .neq _ _ _ rfl rfl rfl (b_neqB _ (decide_eq_true (by omega)))) ?_
    go_frame
    go_wp2
    go_ret
    exact ⟨by rw [HR.out]; rfl, K.out⟩
end Go.Proofs.Ytojbijkljnohoaa

/-! chain.same: the parts. -/
namespace Go.Proofs.Ytojbijkljnohoaa
open Go.RowKit
open Go.Proofs
open Go.Proofs.Ob
attribute [local irreducible] Go.Calls Go.wpList

theorem Wscl0 (args : Array Value) (w : World) : (callFunc 58 args).run Try.prog w = .ok (.enter 58 args) w := by kernel_rfl
theorem Wscl1 (args : Array Value) (w : World) : (callFunc 129 args).run Try.prog w = .ok (.enter 129 args) w := by kernel_rfl
theorem Wscl2 (args : Array Value) (w : World) : (callFunc 125 args).run Try.prog w = .ok (.enter 125 args) w := by kernel_rfl
theorem Wscl3 (args : Array Value) (w : World) : (callFunc 127 args).run Try.prog w = .ok (.enter 127 args) w := by kernel_rfl
set_option maxHeartbeats 1000000 in
theorem equalI_any (v1 v2 : Value) (l1 l2 : List Int) (w : World) (h : Rg.Ints w v1 l1) (h' : Rg.Ints w v2 l2)  :
    Calls Try.prog 126 #[v1, v2] w fun e w' => e = .returned (.bool (decide (l1 = l2))) ∧ Below w.heap.size w w' := by
  have hl : l1.length ≤ 1000000000 := by obtain ⟨n, a, c, e, _, e2⟩ := h.len; omega
  obtain ⟨ad, cap, rfl, _, hlm, _, hcell⟩ := h.shape
  obtain ⟨ad2, cap2, rfl, _, hlm2, _, hcell2⟩ := h'.shape
  have Hc := Lib.hid hcell
  have Hc2 := Lib.hid hcell2
  clear hcell h hcell2 h'
  by_cases hne : l1.length = l2.length
  · rw [← hne]
    rw [← hne] at hlm2
    have HNE := Lib.hid hne
    clear hne
    go_enter Try.func126, Try.ntmps126
    go_wp2
    go_loopw [13] (fun i wr => ∃ k : Nat, k ≤ l1.length ∧ i = .int .i64 k ∧ Hid (l1.take k = l2.take k) ∧ Hid (Below w.heap.size w wr)) (fun i _ => l1.length - (intOf i).toNat)
    case atStart => exact ⟨0, by omega, rfl, Lib.hid (by simp), Lib.hid (Below.refl _ _)⟩
    case round =>
      obtain ⟨k, hk, rfl, hs, hbel⟩ := hrel
      by_cases hlt : k < l1.length
      · have hlt2 : k < l2.length := by have := HNE.out; omega
        obtain ⟨b, o, rfl, hb, hc⟩ := Hc.out (by omega)
        obtain ⟨b2, o2, rfl, hb2, hc2⟩ := Hc2.out (by omega)
        have c0 := (hbel.out.cell (p := ⟨b, o + k, none⟩) hb).trans (hc k hlt)
        have c2 := (hbel.out.cell (p := ⟨b2, o2 + k, none⟩) hb2).trans (hc2 k hlt2)
        obtain ⟨x, hx⟩ : ∃ x, Hid (x = l1[k]) := ⟨_, Lib.hid rfl⟩
        obtain ⟨y, hy⟩ : ∃ y, Hid (y = l2[k]) := ⟨_, Lib.hid rfl⟩
        rw [← hx.out] at c0
        rw [← hy.out] at c2
        have hkl : (k : Int) < (l1.length : Int) := by omega
        clear hc hb hc2 hb2
        by_cases he : x = y
        · have e1 : (x != y) = false := by simp [he]
          have HE := Lib.hid he
          go_upto_region 6 with (fail)
          go_quiet (fail)
          have HB2 := Lib.hid (Rg.drewN hbel.out nq)
          generalize wr.drewN nq = wq at *
          go_wp2
          go_roundw
          case rel =>
            refine ⟨k + 1, by omega, by go_num, Lib.hid ?_, HB2⟩
            rw [List.take_succ_eq_append_getElem hlt, List.take_succ_eq_append_getElem hlt2, hs.out, ← hx.out, ← hy.out, HE.out]
          case measure => simp [intOf]; omega
        · have e1 : (x != y) = true := by simp [he]
          have hm : decide (l1 = l2) = false := by
            rw [decide_eq_false_iff_not]
            intro e
            subst e
            exact he (hx.out.trans hy.out.symm)
          have HM := Lib.hid hm
          clear hm
          go_upto_region 6 with (fail)
          go_quiet (fail)
          have HB2 := Lib.hid (Rg.drewN hbel.out nq)
          generalize wr.drewN nq = wq at *
          go_wp2
          go_ret
          exact ⟨by rw [HM.out]; rfl, HB2.out⟩
      · obtain rfl : k = l1.length := by omega
        have hm : decide (l1 = l2) = true := by
          rw [decide_eq_true_iff]
          have := hs.out
          rwa [List.take_length, HNE.out, List.take_length] at this
        have HM := Lib.hid hm
        clear hm
        go_wp2
        go_ret
        exact ⟨by rw [HM.out]; rfl, hbel.out⟩
  · have hb : ((l1.length : Int) != (l2.length : Int)) = true := by rw [bne_iff_ne]; omega
    have hm : decide (l1 = l2) = false := by
      rw [decide_eq_false_iff_not]
      intro e
      subst e
      exact hne rfl
    have HM := Lib.hid hm
    have HNE := Lib.hid hne
    clear hm hne
    go_enter Try.func126, Try.ntmps126
    go_wp2
    go_ret
    exact ⟨by rw [HM.out]; rfl, Below.refl _ _⟩
set_option maxHeartbeats 1000000 in
theorem equalP2_any (v1 v2 : Value) (l1 l2 : List Int) (w : World) (h : Rg.Ints w v1 l1) (h' : Rg.Ints w v2 l2)  :
    Calls Try.prog 58 #[v1, v2] w fun e w' => e = .returned (.bool (decide (l1 = l2))) ∧ Below w.heap.size w w' := by
  have hl : l1.length ≤ 1000000000 := by obtain ⟨n, a, c, e, _, e2⟩ := h.len; omega
  obtain ⟨ad, cap, rfl, _, hlm, _, hcell⟩ := h.shape
  obtain ⟨ad2, cap2, rfl, _, hlm2, _, hcell2⟩ := h'.shape
  have Hc := Lib.hid hcell
  have Hc2 := Lib.hid hcell2
  clear hcell h hcell2 h'
  by_cases hne : l1.length = l2.length
  · rw [← hne]
    rw [← hne] at hlm2
    have HNE := Lib.hid hne
    clear hne
    go_enter Try.func58, Try.ntmps58
    go_wp2
    go_loopw [13] (fun i wr => ∃ k : Nat, k ≤ l1.length ∧ i = .int .i64 k ∧ Hid (l1.take k = l2.take k) ∧ Hid (Below w.heap.size w wr)) (fun i _ => l1.length - (intOf i).toNat)
    case atStart => exact ⟨0, by omega, rfl, Lib.hid (by simp), Lib.hid (Below.refl _ _)⟩
    case round =>
      obtain ⟨k, hk, rfl, hs, hbel⟩ := hrel
      by_cases hlt : k < l1.length
      · have hlt2 : k < l2.length := by have := HNE.out; omega
        obtain ⟨b, o, rfl, hb, hc⟩ := Hc.out (by omega)
        obtain ⟨b2, o2, rfl, hb2, hc2⟩ := Hc2.out (by omega)
        have c0 := (hbel.out.cell (p := ⟨b, o + k, none⟩) hb).trans (hc k hlt)
        have c2 := (hbel.out.cell (p := ⟨b2, o2 + k, none⟩) hb2).trans (hc2 k hlt2)
        obtain ⟨x, hx⟩ : ∃ x, Hid (x = l1[k]) := ⟨_, Lib.hid rfl⟩
        obtain ⟨y, hy⟩ : ∃ y, Hid (y = l2[k]) := ⟨_, Lib.hid rfl⟩
        rw [← hx.out] at c0
        rw [← hy.out] at c2
        have hkl : (k : Int) < (l1.length : Int) := by omega
        clear hc hb hc2 hb2
        by_cases he : x = y
        · have e1 : (x != y) = false := by simp [he]
          have HE := Lib.hid he
          go_upto_region 6 with (fail)
          go_quiet (fail)
          have HB2 := Lib.hid (Rg.drewN hbel.out nq)
          generalize wr.drewN nq = wq at *
          go_wp2
          go_roundw
          case rel =>
            refine ⟨k + 1, by omega, by go_num, Lib.hid ?_, HB2⟩
            rw [List.take_succ_eq_append_getElem hlt, List.take_succ_eq_append_getElem hlt2, hs.out, ← hx.out, ← hy.out, HE.out]
          case measure => simp [intOf]; omega
        · have e1 : (x != y) = true := by simp [he]
          have hm : decide (l1 = l2) = false := by
            rw [decide_eq_false_iff_not]
            intro e
            subst e
            exact he (hx.out.trans hy.out.symm)
          have HM := Lib.hid hm
          clear hm
          go_upto_region 6 with (fail)
          go_quiet (fail)
          have HB2 := Lib.hid (Rg.drewN hbel.out nq)
          generalize wr.drewN nq = wq at *
          go_wp2
          go_ret
          exact ⟨by rw [HM.out]; rfl, HB2.out⟩
      · obtain rfl : k = l1.length := by omega
        have hm : decide (l1 = l2) = true := by
          rw [decide_eq_true_iff]
          have := hs.out
          rwa [List.take_length, HNE.out, List.take_length] at this
        have HM := Lib.hid hm
        clear hm
        go_wp2
        go_ret
        exact ⟨by rw [HM.out]; rfl, hbel.out⟩
  · have hb : ((l1.length : Int) != (l2.length : Int)) = true := by rw [bne_iff_ne]; omega
    have hm : decide (l1 = l2) = false := by
      rw [decide_eq_false_iff_not]
      intro e
      subst e
      exact hne rfl
    have HM := Lib.hid hm
    have HNE := Lib.hid hne
    clear hm hne
    go_enter Try.func58, Try.ntmps58
    go_wp2
    go_ret
    exact ⟨by rw [HM.out]; rfl, Below.refl _ _⟩
/-- rows of lists compared by a function that compares lists -/
theorem rowsAsk {F : FuncId} {w : World} {va vb : Value} {A B : List (List Int)} (h1 : Rg.Rows w va A) (h2 : Rg.Rows w vb B)
    (hF : ∀ (v1 v2 : Value) (l1 l2 : List Int) (W : World), Rg.Ints W v1 l1 → Rg.Ints W v2 l2 → Calls Try.prog F #[v1, v2] W fun e w' => e = .returned (.bool (decide (l1 = l2))) ∧ Below W.heap.size W w') :
    ∃ us vs, Rg.Vals w va us ∧ Rg.Vals w vb vs ∧ us.length = A.length ∧ vs.length = B.length ∧ EqAsk F w us vs (fun i => decide (A.getD i [] = B.getD i [])) := by
  obtain ⟨us, a1, a2, a3⟩ := h1
  obtain ⟨vs, b1, b2, b3⟩ := h2
  refine ⟨us, vs, a1, b1, a2, b2, fun i hi hj W hb => ?_⟩
  have e1 : A.getD i [] = A[i]'(by omega) := by rw [List.getD_eq_getElem?_getD, List.getElem?_eq_getElem (by omega)]; rfl
  have e2 : B.getD i [] = B[i]'(by omega) := by rw [List.getD_eq_getElem?_getD, List.getElem?_eq_getElem (by omega)]; rfl
  dsimp only
  rw [e1, e2]
  exact hF _ _ _ _ W ((a3 i hi (by omega)).below hb) ((b3 i hj (by omega)).below hb)
theorem eqRows {A B : List (List Int)} : eqAll A.length B.length (fun i => decide (A.getD i [] = B.getD i [])) = decide (A = B) :=
  eqAll_dec fun i h1 h2 => by
    have e1 : A.getD i [] = A[i] := by rw [List.getD_eq_getElem?_getD, List.getElem?_eq_getElem h1]; rfl
    have e2 : B.getD i [] = B[i] := by rw [List.getD_eq_getElem?_getD, List.getElem?_eq_getElem h2]; rfl
    rw [e1, e2]
theorem rowsAsk2 {F : FuncId} {w : World} {va vb : Value} {A B : List (List (List Int))} (h1 : Rows2 w va A) (h2 : Rows2 w vb B)
    (hF : ∀ (v1 v2 : Value) (l1 l2 : List (List Int)) (W : World), Rg.Rows W v1 l1 → Rg.Rows W v2 l2 → Calls Try.prog F #[v1, v2] W fun e w' => e = .returned (.bool (decide (l1 = l2))) ∧ Below W.heap.size W w') :
    ∃ us vs, Rg.Vals w va us ∧ Rg.Vals w vb vs ∧ us.length = A.length ∧ vs.length = B.length ∧ EqAsk F w us vs (fun i => decide (A.getD i [] = B.getD i [])) := by
  obtain ⟨us, a1, a2, a3⟩ := h1
  obtain ⟨vs, b1, b2, b3⟩ := h2
  refine ⟨us, vs, a1, b1, a2, b2, fun i hi hj W hb => ?_⟩
  have e1 : A.getD i [] = A[i]'(by omega) := by rw [List.getD_eq_getElem?_getD, List.getElem?_eq_getElem (by omega)]; rfl
  have e2 : B.getD i [] = B[i]'(by omega) := by rw [List.getD_eq_getElem?_getD, List.getElem?_eq_getElem (by omega)]; rfl
  dsimp only
  rw [e1, e2]
  exact hF _ _ _ _ W ((a3 i hi (by omega)).below hb) ((b3 i hj (by omega)).below hb)
theorem eqRows2 {A B : List (List (List Int))} : eqAll A.length B.length (fun i => decide (A.getD i [] = B.getD i [])) = decide (A = B) :=
  eqAll_dec fun i h1 h2 => by
    have e1 : A.getD i [] = A[i] := by rw [List.getD_eq_getElem?_getD, List.getElem?_eq_getElem h1]; rfl
    have e2 : B.getD i [] = B[i] := by rw [List.getD_eq_getElem?_getD, List.getElem?_eq_getElem h2]; rfl
    rw [e1, e2]
theorem clEqI (args : Array Value) (w : World) : (callFunc 126 args).run Try.prog w = .ok (.enter 126 args) w := by kernel_rfl
theorem clS1 (args : Array Value) (w : World) : (callFunc 128 args).run Try.prog w = .ok (.enter 128 args) w := by kernel_rfl
theorem clS11 (args : Array Value) (w : World) : (callFunc 130 args).run Try.prog w = .ok (.enter 130 args) w := by kernel_rfl
theorem same11_any (v1 v2 : Value) (l1 l2 : List Int) (w : World) (h1 : Rg.Ints w v1 l1) (h2 : Rg.Ints w v2 l2) :
    Calls Try.prog 130 #[v1, v2] w fun e w' => e = .returned (.bool (decide (l1 = l2))) ∧ Below w.heap.size w w' := by
  have H1 := Lib.hid h1
  have H2 := Lib.hid h2
  have K := Lib.hid (Below.refl w.heap.size w)
  clear h1 h2
  obtain ⟨b, hb0⟩ : ∃ b, Hid (decide (l1 = l2) = b) := ⟨_, Lib.hid rfl⟩
  go_enter Try.func130, Try.ntmps130
  go_upto_region 1 with (fail)
  refine wp_region_list ?_
  refine Rg.list_run (some 5) rfl rfl (Rg.exec_move (v := v1) _ rfl rfl) ?_
  go_frame
  refine Rg.list_run (some 6) rfl rfl (Rg.exec_move (v := v2) _ rfl rfl) ?_
  go_frame
  refine list_ask (some 7) rfl rfl _ _ (exec_fn 58 _ _ _ rfl rfl rfl (Wscl0 _ _)) ?_
  refine (show Calls _ _ _ _ (fun e w' => e = .returned (.bool b) ∧ Below w.heap.size w w') by rw [← hb0.out]; exact equalP2_any _ _ _ _ w H1.out H2.out).mono ?_
  rintro e1 w1 ⟨rfl, hb⟩
  refine ⟨_, rfl, ?_⟩
  go_frame
  replace H1 := Lib.hid (H1.out.below hb)
  replace H2 := Lib.hid (H2.out.below hb)
  replace K := Lib.hid (Rg.acc K.out hb)
  clear hb
  refine Rg.list_run (some 4) rfl rfl (Rg.exec_assign (v := .bool b) _ rfl rfl) ?_
  go_frame
  go_wp2
  go_ret
  exact ⟨by rw [hb0.out]; rfl, K.out⟩
theorem same1_any (v1 v2 : Value) (l1 l2 : List (List Int)) (w : World) (h1 : Rg.Rows w v1 l1) (h2 : Rg.Rows w v2 l2) :
    Calls Try.prog 128 #[v1, v2] w fun e w' => e = .returned (.bool (decide (l1 = l2))) ∧ Below w.heap.size w w' := by
  obtain ⟨us, vs, hu, hv, e1, e2, hask⟩ := rowsAsk h1 h2 (F := 130) same11_any
  have HC := Lib.hid (eqFuncP_any hu hv _ clS11 hask)
  rw [e1, e2, eqRows] at HC
  have K := Lib.hid (Below.refl w.heap.size w)
  clear h1 h2 hu hv e1 e2 hask
  obtain ⟨b, hb0⟩ : ∃ b, Hid (decide (l1 = l2) = b) := ⟨_, Lib.hid rfl⟩
  rw [hb0.out] at HC ⊢
  go_enter Try.func128, Try.ntmps128
  go_upto_region 1 with (fail)
  refine wp_region_list ?_
  refine Rg.list_run (some 5) rfl rfl (Rg.exec_move (v := v1) _ rfl rfl) ?_
  go_frame
  refine Rg.list_run (some 6) rfl rfl (Rg.exec_move (v := v2) _ rfl rfl) ?_
  go_frame
  refine list_ask (some 7) rfl rfl _ _ (exec_fn3 129 _ _ _ _ rfl rfl rfl rfl (Wscl1 _ _)) ?_
  refine (HC.out).mono ?_
  rintro e1 w1 ⟨rfl, hb⟩
  refine ⟨_, rfl, ?_⟩
  go_frame
  replace K := Lib.hid (Rg.acc K.out hb)
  clear hb
  refine Rg.list_run (some 4) rfl rfl (Rg.exec_assign (v := .bool b) _ rfl rfl) ?_
  go_frame
  go_wp2
  go_ret
  exact ⟨rfl, K.out⟩
theorem sameRowsI_any (v1 v2 : Value) (A B : List (List Int)) (w : World) (h1 : Rg.Rows w v1 A) (h2 : Rg.Rows w v2 B) {b : Bool} (hb : Hid (decide (A = B) = b)) :
    Calls Try.prog 125 #[v1, v2, .func (.func 126) #[] #[]] w fun e w' => e = .returned (.bool b) ∧ Below w.heap.size w w' := by
  obtain ⟨us, vs, hu, hv, e1, e2, hask⟩ := rowsAsk h1 h2 (F := 126) equalI_any
  have HC := eqFuncI_any hu hv _ clEqI hask
  rw [e1, e2, eqRows, hb.out] at HC
  exact HC
theorem sameRowsR_any (v1 v2 : Value) (A B : List (List (List Int))) (w : World) (h1 : Rows2 w v1 A) (h2 : Rows2 w v2 B) {b : Bool} (hb : Hid (decide (A = B) = b)) :
    Calls Try.prog 127 #[v1, v2, .func (.func 128) #[] #[]] w fun e w' => e = .returned (.bool b) ∧ Below w.heap.size w w' := by
  obtain ⟨us, vs, hu, hv, e1, e2, hask⟩ := rowsAsk2 h1 h2 (F := 128) same1_any
  have HC := eqFuncR_any hu hv _ clS1 hask
  rw [e1, e2, eqRows2, hb.out] at HC
  exact HC
theorem box3 (w : World) (x y z : Value) : CL (w.alloc (.cells #[x, y, z] 51)) w.heap.size 0 x ∧ CL (w.alloc (.cells #[x, y, z] 51)) w.heap.size 1 y ∧ CL (w.alloc (.cells #[x, y, z] 51)) w.heap.size 2 z :=
  ⟨⟨by rw [Rg.cellNew]; rfl, by simp⟩, ⟨by rw [Rg.cellNew]; rfl, by simp⟩, ⟨by rw [Rg.cellNew]; rfl, by simp⟩⟩
def ChEqR (w : World) (ov rv : Value) (OO : List (List Int)) (RR : List (List (List Int))) : Prop := Rg.Rows w ov OO ∧ Rows2 w rv RR
theorem ChEqR.below {w w' : World} {ov rv : Value} {OO : List (List Int)} {RR : List (List (List Int))} (h : ChEqR w ov rv OO RR) (hb : Below w.heap.size w w') : ChEqR w' ov rv OO RR := ⟨h.1.below hb, h.2.below hb⟩
set_option maxRecDepth 100000 in
set_option maxHeartbeats 4000000 in
theorem chSame_any {n m : Int} {ov rv ov' rv' : Value} {OO OO' : List (List Int)} {RR RR' : List (List (List Int))} {w : World} (h1 : ChEqR w ov rv OO RR) (h2 : ChEqR w ov' rv' OO' RR') :
    Calls Try.prog 96 #[.agg #[.int .i64 n, ov, rv], .agg #[.int .i64 m, ov', rv']] w fun e w' => e = .returned (.bool (decide (n = m ∧ OO = OO' ∧ RR = RR'))) ∧ Below w.heap.size w w' := by
  have H1 := Lib.hid h1
  have H2 := Lib.hid h2
  have K := Lib.hid (Below.refl w.heap.size w)
  clear h1 h2
  go_enter Try.func96, Try.ntmps96
  go_upto_region 0 with (fail)
  refine wp_region_list ?_
  have hbx := box3 w (.int .i64 n) ov rv
  refine Rg.list_run (some 2) rfl rfl (Rg.exec_box _ _ rfl rfl) ?_
  go_frame
  have hb : Below w.heap.size w (w.alloc (.cells #[.int .i64 n, ov, rv] 51)) := (Below.refl _ _).alloc (Nat.le_refl _) _
  generalize w.alloc (.cells #[.int .i64 n, ov, rv] 51) = w1 at *
  replace H1 := Lib.hid (H1.out.below hb)
  replace H2 := Lib.hid (H2.out.below hb)
  replace K := Lib.hid (Rg.acc K.out hb)
  clear hb
  have A0 := Lib.hid hbx.1
  have A1 := Lib.hid hbx.2.1
  have A2 := Lib.hid hbx.2.2
  clear hbx
  have hbx := box3 w1 (.int .i64 m) ov' rv'
  refine Rg.list_run (some 3) rfl rfl (Rg.exec_box _ _ rfl rfl) ?_
  go_frame
  have hb : Below w1.heap.size w1 (w1.alloc (.cells #[.int .i64 m, ov', rv'] 51)) := (Below.refl _ _).alloc (Nat.le_refl _) _
  generalize w1.alloc (.cells #[.int .i64 m, ov', rv'] 51) = w2 at *
  replace H1 := Lib.hid (H1.out.below hb)
  replace H2 := Lib.hid (H2.out.below hb)
  replace A0 := Lib.hid (A0.out.below hb)
  replace A1 := Lib.hid (A1.out.below hb)
  replace A2 := Lib.hid (A2.out.below hb)
  replace K := Lib.hid (Rg.acc K.out hb)
  clear hb
  have B0 := Lib.hid hbx.1
  have B1 := Lib.hid hbx.2.1
  have B2 := Lib.hid hbx.2.2
  clear hbx
  refine Rg.list_run (some 4) rfl rfl (Rg.exec_assign (v := .bool false) _ rfl rfl) ?_
  go_frame
  by_cases hnm : n = m
  · obtain ⟨b1, hb1⟩ : ∃ b, Hid (decide (OO = OO') = b) := ⟨_, Lib.hid rfl⟩
    obtain ⟨b2, hb2⟩ : ∃ b, Hid (decide (RR = RR') = b) := ⟨_, Lib.hid rfl⟩
    have HE := Lib.hid (show decide (n = m ∧ OO = OO' ∧ RR = RR') = (b1 && b2) by rw [← hb1.out, ← hb2.out]; simp [hnm])
    cases b1 with
    | true =>
      go_upto_region 1 with (fail)
      refine wp_region_list ?_
      refine Rg.list_run (some 5) rfl rfl (exec_field _ rfl rfl (chF0 _ _)) ?_
      go_frame
      refine Rg.list_run (some 6) rfl rfl (Rg.exec_load (v := .int .i64 n) _ _ rfl ⟨w.heap.size, 0, none⟩ rfl (run_loadInt A0.out.cell)) ?_
      go_frame
      refine Rg.list_run (some 7) rfl rfl (exec_field _ rfl rfl (chF0 _ _)) ?_
      go_frame
      refine Rg.list_run (some 8) rfl rfl (Rg.exec_load (v := .int .i64 m) _ _ rfl ⟨w1.heap.size, 0, none⟩ rfl (run_loadInt B0.out.cell)) ?_
      go_frame
      refine Rg.list_run (some 9) rfl rfl (exec_bin (R := .bool true) .eql _ _ _ rfl rfl rfl (b_eql _ (decide_eq_true hnm))) ?_
      go_frame
      refine Rg.list_run (some 10) rfl rfl (Rg.exec_move (v := .bool true) _ rfl rfl) ?_
      go_frame
      refine listW_run (some 11) rfl rfl (exec_field _ rfl rfl (chF1 _ _)) ?_
      go_frame
      refine listW_run (some 12) rfl rfl (Rg.exec_load (v := ov) _ _ rfl ⟨w.heap.size, 1, none⟩ rfl (Rg.run_loadSl _ _ Try.underlying41 A1.out.cell)) ?_
      go_frame
      refine listW_run (some 13) rfl rfl (exec_field _ rfl rfl (chF1 _ _)) ?_
      go_frame
      refine listW_run (some 14) rfl rfl (Rg.exec_load (v := ov') _ _ rfl ⟨w1.heap.size, 1, none⟩ rfl (Rg.run_loadSl _ _ Try.underlying41 B1.out.cell)) ?_
      go_frame
      refine listW_ask (some 15) rfl rfl _ _ (exec_fn3 125 _ _ _ _ rfl rfl rfl rfl (Wscl2 _ _)) ?_
      refine (sameRowsI_any _ _ _ _ w2 H1.out.1 H2.out.1 hb1).mono ?_
      rintro e1 w3 ⟨rfl, hb⟩
      refine ⟨_, rfl, ?_⟩
      go_frame
      replace H1 := Lib.hid (H1.out.below hb)
      replace H2 := Lib.hid (H2.out.below hb)
      replace A0 := Lib.hid (A0.out.below hb)
      replace A1 := Lib.hid (A1.out.below hb)
      replace A2 := Lib.hid (A2.out.below hb)
      replace B0 := Lib.hid (B0.out.below hb)
      replace B1 := Lib.hid (B1.out.below hb)
      replace B2 := Lib.hid (B2.out.below hb)
      replace K := Lib.hid (Rg.acc K.out hb)
      clear hb
      refine Rg.list_run (some 16) rfl rfl (exec_pickT (v := .bool true) _ _ _ rfl rfl rfl) ?_
      go_frame
      refine Rg.list_run (some 17) rfl rfl (Rg.exec_move (v := .bool true) _ rfl rfl) ?_
      go_frame
      refine listW_run (some 18) rfl rfl (exec_field _ rfl rfl (chF2 _ _)) ?_
      go_frame
      refine listW_run (some 19) rfl rfl (Rg.exec_load (v := rv) _ _ rfl ⟨w.heap.size, 2, none⟩ rfl (Rg.run_loadSl _ _ Try.underlying49 A2.out.cell)) ?_
      go_frame
      refine listW_run (some 20) rfl rfl (exec_field _ rfl rfl (chF2 _ _)) ?_
      go_frame
      refine listW_run (some 21) rfl rfl (Rg.exec_load (v := rv') _ _ rfl ⟨w1.heap.size, 2, none⟩ rfl (Rg.run_loadSl _ _ Try.underlying49 B2.out.cell)) ?_
      go_frame
      refine listW_ask (some 22) rfl rfl _ _ (exec_fn3 127 _ _ _ _ rfl rfl rfl rfl (Wscl3 _ _)) ?_
      refine (sameRowsR_any _ _ _ _ w3 H1.out.2 H2.out.2 hb2).mono ?_
      rintro e1 w4 ⟨rfl, hb⟩
      refine ⟨_, rfl, ?_⟩
      go_frame
      replace H1 := Lib.hid (H1.out.below hb)
      replace H2 := Lib.hid (H2.out.below hb)
      replace A0 := Lib.hid (A0.out.below hb)
      replace A1 := Lib.hid (A1.out.below hb)
      replace A2 := Lib.hid (A2.out.below hb)
      replace B0 := Lib.hid (B0.out.below hb)
      replace B1 := Lib.hid (B1.out.below hb)
      replace B2 := Lib.hid (B2.out.below hb)
      replace K := Lib.hid (Rg.acc K.out hb)
      clear hb
      refine Rg.list_run (some 23) rfl rfl (exec_pickT (v := .bool b2) _ _ _ rfl rfl rfl) ?_
      go_frame
      refine Rg.list_run (some 4) rfl rfl (Rg.exec_assign (v := .bool b2) _ rfl rfl) ?_
      go_frame
      go_wp2
      go_ret
      exact ⟨by rw [HE.out]; rfl, K.out⟩
    | false =>
      go_upto_region 1 with (fail)
      refine wp_region_list ?_
      refine Rg.list_run (some 5) rfl rfl (exec_field _ rfl rfl (chF0 _ _)) ?_
      go_frame
      refine Rg.list_run (some 6) rfl rfl (Rg.exec_load (v := .int .i64 n) _ _ rfl ⟨w.heap.size, 0, none⟩ rfl (run_loadInt A0.out.cell)) ?_
      go_frame
      refine Rg.list_run (some 7) rfl rfl (exec_field _ rfl rfl (chF0 _ _)) ?_
      go_frame
      refine Rg.list_run (some 8) rfl rfl (Rg.exec_load (v := .int .i64 m) _ _ rfl ⟨w1.heap.size, 0, none⟩ rfl (run_loadInt B0.out.cell)) ?_
      go_frame
      refine Rg.list_run (some 9) rfl rfl (exec_bin (R := .bool true) .eql _ _ _ rfl rfl rfl (b_eql _ (decide_eq_true hnm))) ?_
      go_frame
      refine Rg.list_run (some 10) rfl rfl (Rg.exec_move (v := .bool true) _ rfl rfl) ?_
      go_frame
      refine listW_run (some 11) rfl rfl (exec_field _ rfl rfl (chF1 _ _)) ?_
      go_frame
      refine listW_run (some 12) rfl rfl (Rg.exec_load (v := ov) _ _ rfl ⟨w.heap.size, 1, none⟩ rfl (Rg.run_loadSl _ _ Try.underlying41 A1.out.cell)) ?_
      go_frame
      refine listW_run (some 13) rfl rfl (exec_field _ rfl rfl (chF1 _ _)) ?_
      go_frame
      refine listW_run (some 14) rfl rfl (Rg.exec_load (v := ov') _ _ rfl ⟨w1.heap.size, 1, none⟩ rfl (Rg.run_loadSl _ _ Try.underlying41 B1.out.cell)) ?_
      go_frame
      refine listW_ask (some 15) rfl rfl _ _ (exec_fn3 125 _ _ _ _ rfl rfl rfl rfl (Wscl2 _ _)) ?_
      refine (sameRowsI_any _ _ _ _ w2 H1.out.1 H2.out.1 hb1).mono ?_
      rintro e1 w3 ⟨rfl, hb⟩
      refine ⟨_, rfl, ?_⟩
      go_frame
      replace H1 := Lib.hid (H1.out.below hb)
      replace H2 := Lib.hid (H2.out.below hb)
      replace A0 := Lib.hid (A0.out.below hb)
      replace A1 := Lib.hid (A1.out.below hb)
      replace A2 := Lib.hid (A2.out.below hb)
      replace B0 := Lib.hid (B0.out.below hb)
      replace B1 := Lib.hid (B1.out.below hb)
      replace B2 := Lib.hid (B2.out.below hb)
      replace K := Lib.hid (Rg.acc K.out hb)
      clear hb
      refine Rg.list_run (some 16) rfl rfl (exec_pickT (v := .bool false) _ _ _ rfl rfl rfl) ?_
      go_frame
      refine Rg.list_run (some 17) rfl rfl (Rg.exec_move (v := .bool false) _ rfl rfl) ?_
      go_frame
      refine listW_pass (some 18) (by kernel_rfl) rfl ?_
      go_frame
      refine listW_pass (some 19) (by kernel_rfl) rfl ?_
      go_frame
      refine listW_pass (some 20) (by kernel_rfl) rfl ?_
      go_frame
      refine listW_pass (some 21) (by kernel_rfl) rfl ?_
      go_frame
      refine listW_pass (some 22) (by kernel_rfl) rfl ?_
      go_frame
      refine Rg.list_run (some 23) rfl rfl (exec_pickF (v := .bool false) _ _ _ rfl rfl rfl) ?_
      go_frame
      refine Rg.list_run (some 4) rfl rfl (Rg.exec_assign (v := .bool false) _ rfl rfl) ?_
      go_frame
      go_wp2
      go_ret
      exact ⟨by rw [HE.out]; rfl, K.out⟩
  · have HE := Lib.hid (show decide (n = m ∧ OO = OO' ∧ RR = RR') = false by simp [hnm])
    go_upto_region 1 with (fail)
    refine wp_region_list ?_
    refine Rg.list_run (some 5) rfl rfl (exec_field _ rfl rfl (chF0 _ _)) ?_
    go_frame
    refine Rg.list_run (some 6) rfl rfl (Rg.exec_load (v := .int .i64 n) _ _ rfl ⟨w.heap.size, 0, none⟩ rfl (run_loadInt A0.out.cell)) ?_
    go_frame
    refine Rg.list_run (some 7) rfl rfl (exec_field _ rfl rfl (chF0 _ _)) ?_
    go_frame
    refine Rg.list_run (some 8) rfl rfl (Rg.exec_load (v := .int .i64 m) _ _ rfl ⟨w1.heap.size, 0, none⟩ rfl (run_loadInt B0.out.cell)) ?_
    go_frame
    refine Rg.list_run (some 9) rfl rfl (exec_bin (R := .bool false) .eql _ _ _ rfl rfl rfl (b_eql _ (decide_eq_false hnm))) ?_
    go_frame
    refine Rg.list_run (some 10) rfl rfl (Rg.exec_move (v := .bool false) _ rfl rfl) ?_
    go_frame
    refine listW_pass (some 11) (by kernel_rfl) rfl ?_
    go_frame
    refine listW_pass (some 12) (by kernel_rfl) rfl ?_
    go_frame
    refine listW_pass (some 13) (by kernel_rfl) rfl ?_
    go_frame
    refine listW_pass (some 14) (by kernel_rfl) rfl ?_
    go_frame
    refine listW_pass (some 15) (by kernel_rfl) rfl ?_
    go_frame
    refine Rg.list_run (some 16) rfl rfl (exec_pickF (v := .bool false) _ _ _ rfl rfl rfl) ?_
    go_frame
    refine Rg.list_run (some 17) rfl rfl (Rg.exec_move (v := .bool false) _ rfl rfl) ?_
    go_frame
    refine listW_pass (some 18) (by kernel_rfl) rfl ?_
    go_frame
    refine listW_pass (some 19) (by kernel_rfl) rfl ?_
    go_frame
    refine listW_pass (some 20) (by kernel_rfl) rfl ?_
    go_frame
    refine listW_pass (some 21) (by kernel_rfl) rfl ?_
    go_frame
    refine listW_pass (some 22) (by kernel_rfl) rfl ?_
    go_frame
    refine Rg.list_run (some 23) rfl rfl (exec_pickF (v := .bool false) _ _ _ rfl rfl rfl) ?_
    go_frame
    refine Rg.list_run (some 4) rfl rfl (Rg.exec_assign (v := .bool false) _ rfl rfl) ?_
    go_frame
    go_wp2
    go_ret
    exact ⟨by rw [HE.out]; rfl, K.out⟩
end Go.Proofs.Ytojbijkljnohoaa

/-! One operation of a region in the round of a range over a function. -/
namespace Go.Proofs.Rg
open Go Go.RowKit

theorem in_run {l n : Nat} {P : Program} {ops : Array Oper} {rest : List Oper} {o : Oper} {a : Act} {w w' : World} {Q : Exit → Act → World → Prop} {v : Value} (d : Option Tmp) (hg : o.guard = none) (hd : o.dst = d) (hnd : ∀ c, o.op ≠ .defer c)
    (hr : (execOp a.eval o).run P w = .ok (.value v) w') (h : wpListIn (Fence.wide.inRound l) n P ops Q rest (a.put d v) w') : wpListIn (Fence.wide.inRound l) n P ops Q (o :: rest) a w := by
  subst hd
  refine wpListIn_plain hg fun K hK => ⟨fun _ _ => trivial, ?_⟩
  rw [Oper.semAt_eq _ _ _ hnd, hr]
  exact hK _ _ h
theorem in_skip {l n : Nat} {P : Program} {ops : Array Oper} {rest : List Oper} {o : Oper} {a : Act} {w w' : World} {Q : Exit → Act → World → Prop} (d : Option Tmp) (hg : o.guard = none) (hd : o.dst = d) (hnd : ∀ c, o.op ≠ .defer c)
    (hr : (execOp a.eval o).run P w = .ok .skip w') (h : wpListIn (Fence.wide.inRound l) n P ops Q rest (a.put d undef) w') : wpListIn (Fence.wide.inRound l) n P ops Q (o :: rest) a w := by
  subst hd
  refine wpListIn_plain hg fun K hK => ⟨fun _ _ => trivial, ?_⟩
  rw [Oper.semAt_eq _ _ _ hnd, hr]
  exact hK _ _ h
theorem in_ask {l n : Nat} {P : Program} {ops : Array Oper} {rest : List Oper} {o : Oper} {a : Act} {w : World} {Q : Exit → Act → World → Prop} (d : Option Tmp) (hg : o.guard = none) (hd : o.dst = d) (hnd : ∀ c, o.op ≠ .defer c) (f : FuncId) (args : Array Value)
    (hr : (execOp a.eval o).run P w = .ok (.enter f args) w) (h : Calls P f args w fun e w' => ∃ v, e = .returned v ∧ wpListIn (Fence.wide.inRound l) n P ops Q rest (a.put d v) w') : wpListIn (Fence.wide.inRound l) n P ops Q (o :: rest) a w := by
  subst hd
  refine wpListIn_plain hg fun K hK => ⟨fun _ _ => trivial, ?_⟩
  rw [Oper.semAt_eq _ _ _ hnd, hr]
  refine ⟨(fun hh => by cases hh), (CallsIn.inRound l (callsIn_wide.2 h)).mono ?_⟩
  rintro e w' ⟨v, rfl, hv⟩
  exact hK _ _ hv
theorem inW_run {l n : Nat} {P : Program} {ops : Array Oper} {rest : List Oper} {o : Oper} {a : Act} {w w' : World} {Q : Exit → Act → World → Prop} {v : Value} (d : Option Tmp) (hw : Region.wanted o (yielded ops a.tmps) = true) (hd : o.dst = d) (hnd : ∀ c, o.op ≠ .defer c)
    (hr : (execOp a.eval o).run P w = .ok (.value v) w') (h : wpListIn (Fence.wide.inRound l) n P ops Q rest (a.put d v) w') : wpListIn (Fence.wide.inRound l) n P ops Q (o :: rest) a w := by
  subst hd
  refine wpListIn_step fun K hK => ?_
  rw [if_pos hw]
  refine ⟨fun _ _ => trivial, ?_⟩
  rw [Oper.semAt_eq _ _ _ hnd, hr]
  exact hK _ _ h
theorem inW_ask {l n : Nat} {P : Program} {ops : Array Oper} {rest : List Oper} {o : Oper} {a : Act} {w : World} {Q : Exit → Act → World → Prop} (d : Option Tmp) (hw : Region.wanted o (yielded ops a.tmps) = true) (hd : o.dst = d) (hnd : ∀ c, o.op ≠ .defer c) (f : FuncId) (args : Array Value)
    (hr : (execOp a.eval o).run P w = .ok (.enter f args) w) (h : Calls P f args w fun e w' => ∃ v, e = .returned v ∧ wpListIn (Fence.wide.inRound l) n P ops Q rest (a.put d v) w') : wpListIn (Fence.wide.inRound l) n P ops Q (o :: rest) a w := by
  subst hd
  refine wpListIn_step fun K hK => ?_
  rw [if_pos hw]
  refine ⟨fun _ _ => trivial, ?_⟩
  rw [Oper.semAt_eq _ _ _ hnd, hr]
  refine ⟨(fun hh => by cases hh), (CallsIn.inRound l (callsIn_wide.2 h)).mono ?_⟩
  rintro e w' ⟨v, rfl, hv⟩
  exact hK _ _ hv
theorem inW_pass {l n : Nat} {P : Program} {ops : Array Oper} {rest : List Oper} {o : Oper} {a : Act} {w : World} {Q : Exit → Act → World → Prop} (d : Option Tmp) (hw : Region.wanted o (yielded ops a.tmps) = false) (hd : o.dst = d)
    (h : wpListIn (Fence.wide.inRound l) n P ops Q rest (a.put d undef) w) : wpListIn (Fence.wide.inRound l) n P ops Q (o :: rest) a w := by
  subst hd
  unfold wpListIn
  rw [if_neg (by rw [hw]; decide)]
  exact ⟨fun _ _ => trivial, h⟩
/-- a post that asks for the normal way alone -/
def onlyN (Q : Exit → Act → World → Prop) : Exit → Act → World → Prop
  | .normal, a, w => Q .normal a w
  | _, _, _ => False
theorem wp_onlyN {P : Program} {c : Code} {Q : Exit → Act → World → Prop} {a : Act} {w : World} (h : c.wp P (onlyN Q) a w) : c.wp P Q a w :=
  wp_mono h fun e a w hq => by cases e <;> first | exact hq | exact hq.elim
theorem onlyN_i {Q : Exit → Act → World → Prop} {a : Act} {w : World} (h : Q .normal a w) : onlyN Q .normal a w := h
end Go.Proofs.Rg

/-! chain.reps: the levels of a chain, one after another. -/
namespace Go.Proofs.Ytojbijkljnohoaa
open Go.RowKit
open Go.Proofs
open Go.Shelf
attribute [local go_sem] Oper.semAt_some

def finTo (m k : Nat) : List (Fin m) := (List.finRange m).take k
theorem finTo_succ {m k : Nat} (h : k < m) : finTo m (k + 1) = finTo m k ++ [⟨k, h⟩] := by
  unfold finTo
  rw [List.take_succ_eq_append_getElem (by rw [List.length_finRange]; exact h)]
  simp
theorem finTo_len {m k : Nat} (h : k ≤ m) : (finTo m k).length = k := by
  unfold finTo
  rw [List.length_take, List.length_finRange]
  omega
theorem finTo_all (m : Nat) : finTo m m = List.finRange m := by
  unfold finTo
  rw [List.take_of_length_le (by rw [List.length_finRange]; exact Nat.le_refl _)]
set_option maxRecDepth 100000 in
set_option maxHeartbeats 2000000 in
theorem reps1_in (F : Fence) (n : Nat) (h7 : F.fn 124) (hro : F.round = none) (hn : 1 ≤ n) (l Bs n₀ m cap : Nat) (ad : Option Addr) (RV : Nat → Value) (hm : m ≤ 1000000000) (had : 0 < m → ∃ b off, ad = some ⟨b, off, none⟩ ∧ b < n₀) (J Jx : List (Fin m) → World → Prop)
    (hY : ∀ pre x W, J pre W → pre.length < m → YieldAt F (n - 1) Try.prog l #[.int .i64 ((x.1 : Nat) : Int), RV x.1] W fun e W' =>
      (e = .returned (.bool true) ∧ J (pre ++ [x]) W' ∧ Below n₀ W W') ∨ (e = .returned (.bool false) ∧ Jx (pre ++ [x]) W'))
    (W : World) (hBs : W.cell? ⟨Bs, 2, none⟩ = some (.slice ad m cap)) (hc : ∀ b off, ad = some ⟨b, off, none⟩ → ∀ j, j < m → W.cell? ⟨b, off + j, none⟩ = some (RV j)) (h0 : J [] W) :
    CallsIn F n Try.prog 124 #[.func (.yield l) #[] #[], .pointer (some ⟨Bs, 0, none⟩)] W fun e W' => (∃ v, e = .returned v) ∧
      ((∃ ys, ys = finTo m m ∧ J ys W') ∨ (∃ pre, (∃ k, k ≤ m ∧ pre = finTo m k) ∧ Jx pre W')) := by
  refine callsIn_of_wp Try.func124 rfl h7 ?_ hro
  simp only [Try.ntmps124, List.size_toArray, List.length_cons, List.length_nil, Nat.reduceAdd, Nat.reduceSub, Array.replicate_succ, Array.replicate_zero, List.push_toArray, List.append_toArray, List.nil_append, List.cons_append]
  gi_wp2
  gi_loopw [8] (fun i wr => ∃ k : Nat, k ≤ m ∧ i = .int .i64 k ∧ J (finTo m k) wr ∧ Below n₀ W wr)
    (fun i _ => m - (intOf i).toNat)
  case atStart => exact ⟨0, Nat.zero_le _, rfl, h0, Below.refl _ _⟩
  case round =>
    obtain ⟨k, hk, rfl, hJs, hnx⟩ := hrel
    by_cases hlt : k < m
    · obtain ⟨b, off, rfl, hb⟩ := had (by omega)
      have hcx : wr.cell? ⟨b, off + k, none⟩ = some (RV k) := (hnx.cell (p := ⟨b, off + k, none⟩) hb).trans (hc b off rfl k hlt)
      obtain ⟨fn, tmps, assign, body, hy, hR⟩ := hY _ ⟨k, hlt⟩ wr hJs (by rw [finTo_len hk]; exact hlt)
      dsimp only at hy
      gi_wp2
      refine hR.mono ?_
      rintro e W3 (⟨rfl, hJ3, hk3⟩ | ⟨rfl, hJx3⟩)
      · gi_wp2
        go_roundw
        case rel => exact ⟨k + 1, by omega, by simp, by rw [finTo_succ hlt]; exact hJ3, hnx.trans hk3⟩
        case measure => simp [intOf]; omega
      · gi_wp2
        refine bodyPost_ret (results_none rfl _ _ _) rfl ?_
        exact ⟨⟨_, rfl⟩, .inr ⟨_, ⟨k + 1, by omega, (finTo_succ hlt).symm⟩, hJx3⟩⟩
    · obtain rfl : k = m := by omega
      gi_wp2
      go_end0
      exact ⟨⟨_, rfl⟩, .inl ⟨_, rfl, hJs⟩⟩
end Go.Proofs.Ytojbijkljnohoaa
