/- Lemmas and contracts on the way to the statement; no condition of their own beyond those written. -/
import Derived.Test.YtjifdmfoijoekaaXQbQcQdQeQfQgQhQiQjQkQlQmQnTg
import Derived.Test.YtjifdmfoijoekaaXTdTeTf
import Derived.IntWalk
set_option linter.unusedVariables false
/-! The law's value of a word. -/
namespace Go.Proofs.Ytjifdmfoijoekaa
open Go.RowKit
open Go.Proofs
open Go.Proofs.Ytjifdmfoijoekaa.Rj
attribute [local irreducible] Go.Calls

theorem mlets_snoc (gs : List (List Nat)) (s : List Nat) : mlets (gs ++ [s]) = mlets gs ++ [(s, (gs.length : Int) + 1), (Ma.invN s, -(gs.length : Int) - 1)] := by
  unfold mlets
  rw [List.length_append, List.length_singleton, lets_succ, moves_snoc, List.zip_append (by rw [len_moves, len_lets])]
  rfl
theorem mlets_iff : ∀ (n : Nat) (gs : List (List Nat)), gs.length = n → ∀ y, y ∈ mlets gs ↔ ∃ (i : Nat) (s : List Nat), gs[i]? = some s ∧ (y = (s, (i : Int) + 1) ∨ y = (Ma.invN s, -(i : Int) - 1))
  | 0, gs, h, y => by
    obtain rfl : gs = [] := List.eq_nil_of_length_eq_zero h
    simp [mlets, moves]
  | n + 1, gs, h, y => by
    have hne : gs ≠ [] := fun e => by subst e; simp at h
    obtain ⟨l, a, rfl⟩ : ∃ l a, gs = l ++ [a] := ⟨gs.dropLast, gs.getLast hne, (List.dropLast_concat_getLast hne).symm⟩
    have hl : l.length = n := by simpa using h
    rw [mlets_snoc, List.mem_append, mlets_iff n l hl y]
    constructor
    · rintro (⟨i, s, h1, h2⟩ | h1)
      · exact ⟨i, s, by rw [List.getElem?_append_left (List.getElem?_eq_some_iff.1 h1).1]; exact h1, h2⟩
      · refine ⟨l.length, a, by simp, ?_⟩
        simpa using h1
    · rintro ⟨i, s, h1, h2⟩
      by_cases hi : i < l.length
      · rw [List.getElem?_append_left hi] at h1
        exact .inl ⟨i, s, h1, h2⟩
      · have hi2 := (List.getElem?_eq_some_iff.1 h1).1
        obtain rfl : i = l.length := by simp at hi2; omega
        rw [List.getElem?_append_right (Nat.le_refl _)] at h1
        simp at h1
        subst h1
        exact .inr (by simpa using h2)

theorem exec_sub {o : Oper} {a : Act} {w : World} {u v r : Int} (x y : Operand) (ho : o.op = .binOp .sub 3 x y 3) (hx : a.eval x = .int .i64 u) (hy : a.eval y = .int .i64 v) (h : u - v = r) (hb : -9223372036854775808 ≤ r ∧ r ≤ 9223372036854775807) : (execOp a.eval o).run Try.prog w = .ok (.value (.int .i64 r)) w := by
  have h1 : (binOp .sub 3 (.int .i64 u) (.int .i64 v)).run Try.prog w = .ok (.int .i64 r) w := by
    simp [binOp, Op.intArith, h, IntWalk.i64_in r hb]
  have hg : (eqGuard .sub 3 x y (.int .i64 u) (.int .i64 v)).run Try.prog w = .ok () w := by
    simp [eqGuard]
  unfold execOp
  simp only [ho, hx, hy, Sem.run_bind, Sem.run_pure, hg, h1, Result.andThen_ok]
theorem exec_neg {o : Oper} {a : Act} {w : World} {u r : Int} (x : Operand) (ho : o.op = .unOp .neg 3 x) (hx : a.eval x = .int .i64 u) (h : -u = r) (hb : -9223372036854775808 ≤ r ∧ r ≤ 9223372036854775807) : (execOp a.eval o).run Try.prog w = .ok (.value (.int .i64 r)) w := by
  have h1 : (Op.unary .neg (.int .i64 u)).run Try.prog w = .ok (.int .i64 r) w := by
    simp [Op.unary, Op.intArith, h, IntWalk.i64_in r hb]
  unfold execOp
  simp only [ho, hx, Sem.run_bind, Sem.run_pure, h1, Result.andThen_ok]
theorem clMul (args : Array Value) (w : World) : (callFunc 46 args).run Try.prog w = .ok (.enter 46 args) w := by kernel_rfl
theorem clInv (args : Array Value) (w : World) : (callFunc 47 args).run Try.prog w = .ok (.enter 47 args) w := by kernel_rfl
theorem vl_take (c : List Nat) (u : List Lt) (k : Nat) (h : k < u.length) : vl c (u.take (k + 1)) = Ma.mulN (vl c (u.take k)) u[k].1 := by
  rw [List.take_succ_eq_append_getElem h, vl_snoc]

set_option maxHeartbeats 2000000 in
theorem value_any (gv wv : Value) (D : Nat) (gs : List (List Nat)) (u : List Lt) (w : World) (h : Rg.NRows w gv gs) (hw : Rg.Ints w wv (ltrs u)) (hg : GG D gs) (h1 : 1 ≤ D) (h2 : D ≤ 64) (hgl : gs.length ≤ 6) (hu : ∀ y ∈ u, y ∈ mlets gs) (hul : u.length ≤ 1000) :
    Calls Try.prog 29 #[.agg #[.int .i64 D, gv], wv] w fun e w' => ∃ v, e = .returned v ∧ Rg.NPF w w' v (vl (Ma.oneN D) u) ∧ Below w.heap.size w w' := by
  obtain ⟨ga, gc, rfl, _, _, _, hgr⟩ := h.shape
  obtain ⟨wa, wc, rfl, _, _, _, hwr⟩ := hw.shape
  have hll : (ltrs u).length = u.length := by simp [ltrs]
  rw [hll]
  have HG := Lib.hid hgr
  have HW := Lib.hid hwr
  have HGG := Lib.hid hg
  have HU := Lib.hid hu
  have hba : Below w.heap.size w (w.alloc (.cells #[.int .i64 D, .slice ga gs.length gc] 24)) := (Below.refl _ _).alloc (Nat.le_refl _) _
  have hsz : (w.alloc (.cells #[.int .i64 D, .slice ga gs.length gc] 24)).heap.size = w.heap.size + 1 := by simp
  have hg0 : (w.alloc (.cells #[.int .i64 D, .slice ga gs.length gc] 24)).cell? ⟨w.heap.size, 0, none⟩ = some (.int .i64 D) := by rw [Rg.cellNew]; rfl
  have hg1 : (w.alloc (.cells #[.int .i64 D, .slice ga gs.length gc] 24)).cell? ⟨w.heap.size, 1, none⟩ = some (.slice ga gs.length gc) := by rw [Rg.cellNew]; rfl
  clear h hw hgr hwr hg hu
  go_enter Try.func29, Try.ntmps29
  go_wp2_with (go_at_call 40; refine (kitOne_any D _ (by omega)).mono ?_; rintro e w1 ⟨v, rfl, hv, hb0⟩; have Hv := Lib.hid hv; clear hv)
  generalize w.alloc (.cells #[.int .i64 D, .slice ga gs.length gc] 24) = w0 at *
  have HB0 := Lib.hid (Rg.acc (w0 := w0) (Below.refl _ _) hb0)
  have Hba := Lib.hid hba
  have Hg1 := Lib.hid hg1
  clear hb0 hba hg0 hg1
  go_loopw [5, 6] (fun v i wr => ∃ k : Nat, k ≤ u.length ∧ i = .int .i64 k ∧ Hid (Rg.NPF w0 wr v (vl (Ma.oneN D) (u.take k))) ∧ Hid (Below w0.heap.size w0 wr)) (fun _ i _ => u.length - (intOf i).toNat)
  case atStart => exact ⟨0, by omega, rfl, Hv, HB0⟩
  case round =>
    clear Hv HB0
    obtain ⟨k, hk, rfl, hs, hbel⟩ := hrel
    by_cases hlt : k < u.length
    · have hy := HU.out _ (List.getElem_mem hlt)
      obtain ⟨i, s, hgi, hcase⟩ := (mlets_iff _ gs rfl _).1 hy
      obtain ⟨hi, rfl⟩ := List.getElem?_eq_some_iff.1 hgi
      obtain ⟨bw, ow, rfl, hbw, hwc⟩ := HW.out (by rw [hll]; omega)
      obtain ⟨bg, og, rfl, hbg, hgc⟩ := HG.out (by omega)
      obtain ⟨gu, hgu, hgN0⟩ := hgc i hi
      obtain ⟨z, hz⟩ : ∃ z, Hid (z = u[k].2) := ⟨_, Lib.hid rfl⟩
      have hwk := hwc k (by rw [hll]; omega)
      rw [show (ltrs u)[k] = z by rw [hz.out]; simp [ltrs]] at hwk
      have hB := Rg.acc Hba.out hbel.out
      have hszb := hbel.out.size
      have c0 := (hB.cell (p := ⟨bw, ow + k, none⟩) hbw).trans hwk
      have c1 := (hbel.out.cell (p := ⟨w.heap.size, 1, none⟩) (show w.heap.size < _ by omega)).trans Hg1.out
      have C2 := Lib.hid ((hB.cell (p := ⟨bg, og + i, none⟩) hbg).trans hgu)
      have hkl : (k : Int) < (u.length : Int) := by omega
      have hgl' : (gs.length : Int) ≤ 6 := by omega
      have hgN := Lib.hid hgN0
      have hil := Lib.hid hi
      have hGd := Lib.hid (vl_Gd HGG.out (Gd.one D) (u := u.take k) (fun y hy => HU.out y (List.mem_of_mem_take hy)))
      have hGi := Lib.hid (show Gd D gs[i] from HGG.out _ (List.getElem_mem hi))
      have L0 := Lib.hid (show bw < wr.heap.size by have := hB.size; omega)
      have L2 := Lib.hid (show bg < wr.heap.size by have := hB.size; omega)
      have L1 := Lib.hid (show w.heap.size < wr.heap.size by omega)
      have C0r := Lib.hid c0
      have C1r := Lib.hid c1
      clear hy hgi hwc hgc hgu hgN0 hwk hB hbw hbg
      rcases hcase with hc | hc
      · have hz' := Lib.hid (show z = (i : Int) + 1 from hz.out.trans (congrArg Prod.snd hc))
        have hy1 := Lib.hid (show u[k].1 = gs[i] from congrArg Prod.fst hc)
        clear hc hz
        have d1 : decide (0 < z) = true := by rw [decide_eq_true_iff]; have := hz'.out; omega
        have d2 : decide (z ≤ (gs.length : Int)) = true := by rw [decide_eq_true_iff]; have := hz'.out; have := hil.out; omega
        go_upto_region 6 with (fail)
        go_quiet (fail)
        go_upto_region 7 with (fail)
        have hV0 : Below wr.heap.size wr (wr.drewN nq).drew := (Rg.drewN (Below.refl _ _) _).drew
        have hN := Lib.hid (hs.out.1.below hV0)
        have hBV := Lib.hid (Rg.acc hbel.out hV0)
        have hVw := Lib.hid (Rg.acc Hba.out (Rg.acc hbel.out hV0))
        have C0 := Lib.hid ((hV0.cell (p := ⟨bw, ow + k, none⟩) L0.out).trans C0r.out)
        have C1 := Lib.hid ((hV0.cell (p := ⟨w.heap.size, 1, none⟩) L1.out).trans C1r.out)
        replace C2 := Lib.hid ((hV0.cell (p := ⟨bg, og + i, none⟩) L2.out).trans C2.out)
        have l0 := Lib.hid (Nat.lt_of_lt_of_le L0.out hV0.size)
        have l1 := Lib.hid (Nat.lt_of_lt_of_le L1.out hV0.size)
        have l2 := Lib.hid (Nat.lt_of_lt_of_le L2.out hV0.size)
        clear hV0 c0 c1 hs hbel
        refine Rg.Any.begin (S := Rg.Both 11 (fun _ => True) (fun W => Below (wr.drewN nq).drew.heap.size (wr.drewN nq).drew W)) mix ?_
        generalize (wr.drewN nq).drew = V at *
        have hS : ∀ (l : Array Bool) W, Below V.heap.size V W → Rg.Both 11 (fun _ => True) (fun W => Below V.heap.size V W) l W := fun l W h => ⟨.inr trivial, h⟩
        have hI : Below V.heap.size V V := Below.refl _ _
        refine Rg.Any.takeG (i := 0) (t := 11) (v := u5) (some 32) rfl rfl (by kernel_rfl) (by kernel_rfl) (by kernel_rfl) (fun _ _ _ h => h) rfl (.inl ⟨rfl, fun w _ => rfl⟩) (hS _ _ hI) ?_
        go_frame
        refine Rg.Any.takeG (i := 1) (t := 11) (v := .pointer (some ⟨w.heap.size, 1, none⟩)) (some 33) rfl rfl (by kernel_rfl) (by kernel_rfl) (by kernel_rfl) (fun _ _ _ h => h) rfl (.inl ⟨rfl, fun w _ => exec_fieldG _ rfl rfl⟩) (hS _ _ hI) ?_
        go_frame
        refine Rg.Any.takeG (i := 2) (t := 11) (v := .slice (some ⟨bg, og, none⟩) gs.length gc) (some 34) rfl rfl (by kernel_rfl) (by kernel_rfl) (by kernel_rfl) (fun _ _ _ h => h) rfl (Rg.yields_cell _ _ rfl rfl ⟨w.heap.size, 1, none⟩ rfl (fun W hW => Rg.run_loadSl _ _ Try.underlying22 ((Below.cell (p := ⟨w.heap.size, 1, none⟩) hW l1.out).trans C1.out))) (hS _ _ hI) ?_
        go_frame
        refine Rg.Any.takeG (i := 3) (t := 11) (v := .slice (some ⟨bw, ow, none⟩) u.length wc) (some 35) rfl rfl (by kernel_rfl) (by kernel_rfl) (by kernel_rfl) (fun _ _ _ h => h) rfl (.inl ⟨rfl, fun w _ => rfl⟩) (hS _ _ hI) ?_
        go_frame
        refine Rg.Any.takeG (i := 4) (t := 11) (v := .int .i64 (k : Int)) (some 36) rfl rfl (by kernel_rfl) (by kernel_rfl) (by kernel_rfl) (fun _ _ _ h => h) rfl (.inl ⟨rfl, fun w _ => rfl⟩) (hS _ _ hI) ?_
        go_frame
        refine Rg.Any.takeG (i := 5) (t := 11) (v := .pointer (some ⟨bw, ow + k, none⟩)) (some 37) rfl rfl (by kernel_rfl) (by kernel_rfl) (by kernel_rfl) (fun _ _ _ h => h) rfl (Rg.yields_index slWord _ _ rfl rfl bw ow u.length wc k rfl rfl hlt) (hS _ _ hI) ?_
        go_frame
        refine Rg.Any.takeG (i := 6) (t := 11) (v := .int .i64 z) (some 38) rfl rfl (by kernel_rfl) (by kernel_rfl) (by kernel_rfl) (fun _ _ _ h => h) rfl (Rg.yields_cell _ _ rfl rfl ⟨bw, ow + k, none⟩ rfl (fun W hW => run_loadInt ((Below.cell (p := ⟨bw, ow + k, none⟩) hW l0.out).trans C0.out))) (hS _ _ hI) ?_
        go_frame
        refine Rg.Any.takeG (i := 7) (t := 11) (v := .int .i64 (i : Int)) (some 39) rfl rfl (by kernel_rfl) (by kernel_rfl) (by kernel_rfl) (fun _ _ _ h => h) rfl (.inl ⟨rfl, fun w _ => exec_sub (u := z) (v := 1) _ _ rfl rfl rfl (by have := hz'.out; omega) (by have := hil.out; omega)⟩) (hS _ _ hI) ?_
        go_frame
        refine Rg.Any.takeG (i := 8) (t := 11) (v := .pointer (some ⟨bg, og + i, none⟩)) (some 40) rfl rfl (by kernel_rfl) (by kernel_rfl) (by kernel_rfl) (fun _ _ _ h => h) rfl (Rg.yields_index slPerms _ _ rfl rfl bg og gs.length gc i rfl rfl hil.out) (hS _ _ hI) ?_
        go_frame
        refine Rg.Any.takeG (i := 9) (t := 11) (v := gu) (some 41) rfl rfl (by kernel_rfl) (by kernel_rfl) (by kernel_rfl) (fun _ _ _ h => h) rfl (Rg.yields_cell _ _ rfl rfl ⟨bg, og + i, none⟩ rfl (fun W hW => Rg.run_loadSl _ _ Try.underlying39 ((Below.cell (p := ⟨bg, og + i, none⟩) hW l2.out).trans C2.out))) (hS _ _ hI) ?_
        go_frame
        refine Rg.Any.one (i := 10) (by kernel_rfl) (Rg.Any.ask (some 42) rfl rfl rfl _ _ (exec_fn 46 _ _ _ rfl rfl rfl (clMul _ _)) ?_)
        refine (kitMul_any u5 gu (vl (Ma.oneN D) (u.take k)) gs[i] V hN.out (hgN.out.below hVw.out) (Gd.lt hGd.out hGi.out) (by rw [hGd.out.2]; omega)).mono ?_
        rintro e V2 ⟨v2, rfl, hv2, hb2⟩
        have hI2 := Rg.acc hI hb2
        refine ⟨_, rfl, hS _ _ hI2, ?_⟩
        go_frame
        refine Rg.Any.one (i := 11) (by kernel_rfl) (Rg.Any.run (some 5) rfl rfl rfl (Rg.exec_assign (v := v2) _ rfl rfl) (hS _ _ hI2) ?_)
        go_frame
        refine Rg.Any.done (by kernel_rfl) ?_ _
        have HV := Lib.hid (show Rg.NPF w0 V2 v2 (vl (Ma.oneN D) (u.take (k + 1))) by rw [vl_take _ _ _ hlt, hy1.out]; exact ⟨hv2.1, hv2.2.mono hBV.out.size⟩)
        have HB := Lib.hid (Rg.acc hBV.out hb2)
        clear hv2 hb2 hI2 hI hS
        go_wp2
        go_roundw
        case rel => exact ⟨k + 1, by omega, by go_num, HV, HB⟩
        case measure => simp [intOf]; omega
      · have hz' := Lib.hid (show z = -(i : Int) - 1 from hz.out.trans (congrArg Prod.snd hc))
        have hy1 := Lib.hid (show u[k].1 = Ma.invN gs[i] from congrArg Prod.fst hc)
        clear hc hz
        have d1 : decide (0 < z) = false := by rw [decide_eq_false_iff_not]; have := hz'.out; omega
        have d2 : decide (z < 0) = true := by rw [decide_eq_true_iff]; have := hz'.out; omega
        have d3 : decide (-(gs.length : Int) ≤ z) = true := by rw [decide_eq_true_iff]; have := hz'.out; have := hil.out; omega
        go_upto_region 6 with (fail)
        go_quiet (fail)
        have hq := Rg.drewN (Below.refl wr.heap.size wr) nq
        generalize wr.drewN nq = wq at *
        replace c0 := (hq.cell (p := ⟨bw, ow + k, none⟩) L0.out).trans c0
        replace c1 := (hq.cell (p := ⟨w.heap.size, 1, none⟩) L1.out).trans c1
        go_upto_region 8 with (fail)
        go_quiet (fail)
        go_upto_region 9 with (fail)
        have hV0 : Below wr.heap.size wr (wq.drewN nq).drew := (Rg.drewN hq nq).drew
        have hN := Lib.hid (hs.out.1.below hV0)
        have hBV := Lib.hid (Rg.acc hbel.out hV0)
        have hVw := Lib.hid (Rg.acc Hba.out (Rg.acc hbel.out hV0))
        have C0 := Lib.hid ((hV0.cell (p := ⟨bw, ow + k, none⟩) L0.out).trans C0r.out)
        have C1 := Lib.hid ((hV0.cell (p := ⟨w.heap.size, 1, none⟩) L1.out).trans C1r.out)
        replace C2 := Lib.hid ((hV0.cell (p := ⟨bg, og + i, none⟩) L2.out).trans C2.out)
        have l0 := Lib.hid (Nat.lt_of_lt_of_le L0.out hV0.size)
        have l1 := Lib.hid (Nat.lt_of_lt_of_le L1.out hV0.size)
        have l2 := Lib.hid (Nat.lt_of_lt_of_le L2.out hV0.size)
        clear hV0 c0 c1 hs hbel
        refine Rg.Any.begin (S := Rg.Both 13 (fun _ => True) (fun W => Below (wq.drewN nq).drew.heap.size (wq.drewN nq).drew W)) mix ?_
        generalize (wq.drewN nq).drew = V at *
        have hS : ∀ (l : Array Bool) W, Below V.heap.size V W → Rg.Both 13 (fun _ => True) (fun W => Below V.heap.size V W) l W := fun l W h => ⟨.inr trivial, h⟩
        have hI : Below V.heap.size V V := Below.refl _ _
        refine Rg.Any.takeG (i := 0) (t := 13) (v := u5) (some 60) rfl rfl (by kernel_rfl) (by kernel_rfl) (by kernel_rfl) (fun _ _ _ h => h) rfl (.inl ⟨rfl, fun w _ => rfl⟩) (hS _ _ hI) ?_
        go_frame
        refine Rg.Any.takeG (i := 1) (t := 13) (v := .pointer (some ⟨w.heap.size, 1, none⟩)) (some 61) rfl rfl (by kernel_rfl) (by kernel_rfl) (by kernel_rfl) (fun _ _ _ h => h) rfl (.inl ⟨rfl, fun w _ => exec_fieldG _ rfl rfl⟩) (hS _ _ hI) ?_
        go_frame
        refine Rg.Any.takeG (i := 2) (t := 13) (v := .slice (some ⟨bg, og, none⟩) gs.length gc) (some 62) rfl rfl (by kernel_rfl) (by kernel_rfl) (by kernel_rfl) (fun _ _ _ h => h) rfl (Rg.yields_cell _ _ rfl rfl ⟨w.heap.size, 1, none⟩ rfl (fun W hW => Rg.run_loadSl _ _ Try.underlying22 ((Below.cell (p := ⟨w.heap.size, 1, none⟩) hW l1.out).trans C1.out))) (hS _ _ hI) ?_
        go_frame
        refine Rg.Any.takeG (i := 3) (t := 13) (v := .slice (some ⟨bw, ow, none⟩) u.length wc) (some 63) rfl rfl (by kernel_rfl) (by kernel_rfl) (by kernel_rfl) (fun _ _ _ h => h) rfl (.inl ⟨rfl, fun w _ => rfl⟩) (hS _ _ hI) ?_
        go_frame
        refine Rg.Any.takeG (i := 4) (t := 13) (v := .int .i64 (k : Int)) (some 64) rfl rfl (by kernel_rfl) (by kernel_rfl) (by kernel_rfl) (fun _ _ _ h => h) rfl (.inl ⟨rfl, fun w _ => rfl⟩) (hS _ _ hI) ?_
        go_frame
        refine Rg.Any.takeG (i := 5) (t := 13) (v := .pointer (some ⟨bw, ow + k, none⟩)) (some 65) rfl rfl (by kernel_rfl) (by kernel_rfl) (by kernel_rfl) (fun _ _ _ h => h) rfl (Rg.yields_index slWord _ _ rfl rfl bw ow u.length wc k rfl rfl hlt) (hS _ _ hI) ?_
        go_frame
        refine Rg.Any.takeG (i := 6) (t := 13) (v := .int .i64 z) (some 66) rfl rfl (by kernel_rfl) (by kernel_rfl) (by kernel_rfl) (fun _ _ _ h => h) rfl (Rg.yields_cell _ _ rfl rfl ⟨bw, ow + k, none⟩ rfl (fun W hW => run_loadInt ((Below.cell (p := ⟨bw, ow + k, none⟩) hW l0.out).trans C0.out))) (hS _ _ hI) ?_
        go_frame
        refine Rg.Any.takeG (i := 7) (t := 13) (v := .int .i64 ((i : Int) + 1)) (some 67) rfl rfl (by kernel_rfl) (by kernel_rfl) (by kernel_rfl) (fun _ _ _ h => h) rfl (.inl ⟨rfl, fun w _ => exec_neg (u := z) _ rfl rfl (by have := hz'.out; omega) (by have := hil.out; omega)⟩) (hS _ _ hI) ?_
        go_frame
        refine Rg.Any.takeG (i := 8) (t := 13) (v := .int .i64 (i : Int)) (some 68) rfl rfl (by kernel_rfl) (by kernel_rfl) (by kernel_rfl) (fun _ _ _ h => h) rfl (.inl ⟨rfl, fun w _ => exec_sub (u := (i : Int) + 1) (v := 1) _ _ rfl rfl rfl (by have := hz'.out; omega) (by have := hil.out; omega)⟩) (hS _ _ hI) ?_
        go_frame
        refine Rg.Any.takeG (i := 9) (t := 13) (v := .pointer (some ⟨bg, og + i, none⟩)) (some 69) rfl rfl (by kernel_rfl) (by kernel_rfl) (by kernel_rfl) (fun _ _ _ h => h) rfl (Rg.yields_index slPerms _ _ rfl rfl bg og gs.length gc i rfl rfl hil.out) (hS _ _ hI) ?_
        go_frame
        refine Rg.Any.takeG (i := 10) (t := 13) (v := gu) (some 70) rfl rfl (by kernel_rfl) (by kernel_rfl) (by kernel_rfl) (fun _ _ _ h => h) rfl (Rg.yields_cell _ _ rfl rfl ⟨bg, og + i, none⟩ rfl (fun W hW => Rg.run_loadSl _ _ Try.underlying39 ((Below.cell (p := ⟨bg, og + i, none⟩) hW l2.out).trans C2.out))) (hS _ _ hI) ?_
        go_frame
        refine Rg.Any.one (i := 11) (by kernel_rfl) (Rg.Any.ask (some 71) rfl rfl rfl _ _ (exec_fn1 47 _ _ rfl rfl (clInv _ _)) ?_)
        refine (kitInv_any gu gs[i] V (hgN.out.below hVw.out) hGi.out.1 (by rw [hGi.out.2]; omega)).mono ?_
        rintro e V1 ⟨v1, rfl, hv1, hb1⟩
        have hI1 := Rg.acc hI hb1
        refine ⟨_, rfl, hS _ _ hI1, ?_⟩
        go_frame
        refine Rg.Any.one (i := 12) (by kernel_rfl) (Rg.Any.ask (some 72) rfl rfl rfl _ _ (exec_fn 46 _ _ _ rfl rfl rfl (clMul _ _)) ?_)
        refine (kitMul_any u5 v1 (vl (Ma.oneN D) (u.take k)) (Ma.invN gs[i]) V1 (hN.out.below hb1) hv1.1 (Gd.lt hGd.out hGi.out.inv) (by rw [hGd.out.2]; omega)).mono ?_
        rintro e V2 ⟨v2, rfl, hv2, hb2⟩
        have hI2 := Rg.acc hI1 hb2
        refine ⟨_, rfl, hS _ _ hI2, ?_⟩
        go_frame
        refine Rg.Any.one (i := 13) (by kernel_rfl) (Rg.Any.run (some 5) rfl rfl rfl (Rg.exec_assign (v := v2) _ rfl rfl) (hS _ _ hI2) ?_)
        go_frame
        refine Rg.Any.done (by kernel_rfl) ?_ _
        have HV := Lib.hid (show Rg.NPF w0 V2 v2 (vl (Ma.oneN D) (u.take (k + 1))) by rw [vl_take _ _ _ hlt, hy1.out]; exact ⟨hv2.1, hv2.2.mono (by have := hBV.out.size; have := hb1.size; omega)⟩)
        have HB := Lib.hid (Rg.acc hBV.out (Rg.acc hb1 hb2))
        clear hv1 hb1 hv2 hb2 hI1 hI2 hI hS
        go_wp2
        go_roundw
        case rel => exact ⟨k + 1, by omega, by go_num, HV, HB⟩
        case measure => simp [intOf]; omega
    · obtain rfl : k = u.length := by omega
      go_wp2
      go_ret
      have hs' := hs.out
      rw [List.take_length] at hs'
      exact ⟨_, rfl, ⟨hs'.1, hs'.2.mono (by omega)⟩, Rg.acc Hba.out hbel.out⟩
end Go.Proofs.Ytjifdmfoijoekaa

/-! The law's after; the kit's Pick. -/
namespace Go.Proofs.Ytjifdmfoijoekaa
open Go.RowKit
open Go.Proofs
open Go.Proofs.Ytjifdmfoijoekaa.Rj
attribute [local irreducible] Go.Calls

/-- the number that Pick chooses -/
def pickV (x n : Int) : Int := if x.tmod n < 0 then x.tmod n + n else x.tmod n
theorem pickV_in (x n : Int) (h : 0 < n) : 0 ≤ pickV x n ∧ pickV x n < n := by
  unfold pickV
  have h1 := Int.tmod_lt_of_pos x h
  have h2 : -n < x.tmod n := by
    have := Int.lt_tmod_of_pos x h
    omega
  split <;> omega
theorem Pick_any (x n : Int) (w : World) (h0 : 0 < n) (h1 : n ≤ 1000) : Calls Try.prog 28 #[.int .i64 x, .int .i64 n] w fun e w' => e = .returned (.int .i64 (pickV x n)) ∧ Below w.heap.size w w' := by
  have hn0 : ¬ n = 0 := by omega
  have h2 := Int.tmod_lt_of_pos x h0
  have h3 : -n < x.tmod n := by
    have := Int.lt_tmod_of_pos x h0
    omega
  by_cases hlt : x.tmod n < 0
  · rw [show pickV x n = x.tmod n + n from if_pos hlt]
    go_enter Try.func28, Try.ntmps28
    go_wp2
    go_ret
    exact ⟨rfl, Below.refl _ _⟩
  · rw [show pickV x n = x.tmod n from if_neg hlt]
    go_enter Try.func28, Try.ntmps28
    go_wp2
    go_ret
    exact ⟨rfl, Below.refl _ _⟩

theorem aft_drop {la lb : List Int} {k : Nat} (h : k < la.length) (h' : k < lb.length) : aft (la.drop k) (lb.drop k) = if la[k] = lb[k] then aft (la.drop (k + 1)) (lb.drop (k + 1)) else stepA la[k] lb[k] := by
  rw [List.drop_eq_getElem_cons h, List.drop_eq_getElem_cons h']
  rfl
set_option maxHeartbeats 1000000 in
theorem after_any (av bv : Value) (la lb : List Int) (w : World) (h : Rg.Ints w av la) (h' : Rg.Ints w bv lb) (hl : la.length = lb.length) (h1 : la.length ≤ 100) (hb : ∀ x ∈ la ++ lb, -1000 ≤ x ∧ x ≤ 1000) :
    Calls Try.prog 30 #[av, bv] w fun e w' => e = .returned (.bool (aft la lb)) ∧ Below w.heap.size w w' := by
  obtain ⟨aa, ac, rfl, _, _, _, har⟩ := h.shape
  obtain ⟨ba, bc, rfl, _, _, _, hbr⟩ := h'.shape
  rw [← hl]
  have HA := Lib.hid har
  have HB := Lib.hid hbr
  have HBo := Lib.hid hb
  clear h h' har hbr hb
  go_enter Try.func30, Try.ntmps30
  go_wp2
  go_loopw [5] (fun i wr => ∃ k : Nat, k ≤ la.length ∧ i = .int .i64 k ∧ Hid (aft (la.drop k) (lb.drop k) = aft la lb) ∧ Hid (Below w.heap.size w wr)) (fun i _ => la.length - (intOf i).toNat)
  case atStart => exact ⟨0, by omega, rfl, Lib.hid rfl, Lib.hid (Below.refl _ _)⟩
  case round =>
    obtain ⟨k, hk, rfl, hs, hbel⟩ := hrel
    by_cases hlt : k < la.length
    · obtain ⟨b1, o1, rfl, hb1, hc1⟩ := HA.out (by omega)
      obtain ⟨b2, o2, rfl, hb2, hc2⟩ := HB.out (by omega)
      have hlt2 : k < lb.length := by omega
      obtain ⟨x, hx⟩ : ∃ x, Hid (x = la[k]) := ⟨_, Lib.hid rfl⟩
      obtain ⟨y, hy⟩ : ∃ y, Hid (y = lb[k]) := ⟨_, Lib.hid rfl⟩
      have hxb := HBo.out la[k] (List.mem_append_left _ (List.getElem_mem hlt))
      have hyb := HBo.out lb[k] (List.mem_append_right _ (List.getElem_mem hlt2))
      rw [← hx.out] at hxb
      rw [← hy.out] at hyb
      have c1 := hc1 k hlt
      have c2 := hc2 k hlt2
      rw [← hx.out] at c1
      rw [← hy.out] at c2
      have hst := aft_drop hlt hlt2
      rw [← hx.out, ← hy.out] at hst
      have Hst := Lib.hid hst
      have d1 := (hbel.out.cell (p := ⟨b1, o1 + k, none⟩) hb1).trans c1
      have d2 := (hbel.out.cell (p := ⟨b2, o2 + k, none⟩) hb2).trans c2
      have hkl : (k : Int) < (la.length : Int) := by omega
      have L1 := Lib.hid (show b1 < wr.heap.size by have := hbel.out.size; omega)
      have L2 := Lib.hid (show b2 < wr.heap.size by have := hbel.out.size; omega)
      clear hc1 hc2 c1 c2 hst hb1 hb2
      by_cases hxy : x = y
      · have e1 : (x == y) = true := by simp [hxy]
        go_upto_region 4 with (fail)
        go_quiet (fail)
        have HB2 := Lib.hid (Rg.drewN hbel.out nq)
        generalize wr.drewN nq = wq at *
        go_wp2
        go_roundw
        case rel => exact ⟨k + 1, by omega, by go_num, Lib.hid (by have := Hst.out; rw [if_pos hxy] at this; rw [← this]; exact hs.out), HB2⟩
        case measure => simp [intOf]; omega
      · have e1 : (x == y) = false := by simp [hxy]
        go_upto_region 4 with (fail)
        go_quiet (fail)
        have hq := Rg.drewN (Below.refl wr.heap.size wr) nq
        have HB2 := Lib.hid (Rg.acc hbel.out hq)
        generalize wr.drewN nq = wq at *
        replace d1 := (hq.cell (p := ⟨b1, o1 + k, none⟩) L1.out).trans d1
        replace d2 := (hq.cell (p := ⟨b2, o2 + k, none⟩) L2.out).trans d2
        go_upto_region 5 with (fail)
        go_quiet (fail)
        have hq2 := Rg.drewN (Below.refl wq.heap.size wq) nq
        have HB3 := Lib.hid (Rg.acc HB2.out hq2)
        generalize wq.drewN nq = wz at *
        have L3 := Nat.lt_of_lt_of_le L1.out hq.size
        replace d1 := (hq2.cell (p := ⟨b1, o1 + k, none⟩) L3).trans d1
        have hval : aft la lb = stepA x y := by
          have := Hst.out
          rw [if_neg hxy] at this
          rw [← hs.out, this]
        have HV := Lib.hid hval
        obtain ⟨X, hX⟩ : ∃ X, Hid (X = if x < -x then -x else x) := ⟨_, Lib.hid rfl⟩
        obtain ⟨Y, hY⟩ : ∃ Y, Hid (Y = if y < -y then -y else y) := ⟨_, Lib.hid rfl⟩
        rw [← hX.out, ← hY.out]
        have hXm := Lib.hid (show X = max x (-x) by rw [hX.out]; split <;> omega)
        have hYm := Lib.hid (show Y = max y (-y) by rw [hY.out]; split <;> omega)
        clear hq hq2 d2 hval L3 hs hbel Hst
        by_cases g1 : Y < X
        · go_wp2
          go_ret
          refine ⟨?_, HB3.out⟩
          rw [HV.out]
          have : stepA x y = true := by unfold stepA; rw [decide_eq_true_iff]; have := hXm.out; have := hYm.out; omega
          rw [this]
          rfl
        · by_cases g2 : X = Y
          · by_cases g3 : x < 0
            · go_wp2
              go_ret
              refine ⟨?_, HB3.out⟩
              rw [HV.out]
              have : stepA x y = true := by unfold stepA; rw [decide_eq_true_iff]; have := hXm.out; have := hYm.out; omega
              rw [this]
              rfl
            · go_wp2
              go_ret
              refine ⟨?_, HB3.out⟩
              rw [HV.out]
              have : stepA x y = false := by unfold stepA; rw [decide_eq_false_iff_not]; have := hXm.out; have := hYm.out; omega
              rw [this]
              rfl
          · go_wp2
            go_ret
            refine ⟨?_, HB3.out⟩
            rw [HV.out]
            have : stepA x y = false := by unfold stepA; rw [decide_eq_false_iff_not]; have := hXm.out; have := hYm.out; omega
            rw [this]
            rfl
    · obtain rfl : k = la.length := by omega
      go_wp2
      go_ret
      have := hs.out
      rw [List.drop_of_length_le (Nat.le_refl _)] at this
      exact ⟨by rw [← this]; rfl, hbel.out⟩
end Go.Proofs.Ytjifdmfoijoekaa

/-! The law's puzzles. -/
namespace Go.Proofs.Ytjifdmfoijoekaa
open Go.RowKit
open Go.Proofs
open Go.Proofs.Ytjifdmfoijoekaa.Rj
attribute [local irreducible] Go.Calls

/-- a constructor's answer, with its error and new rows -/
def GPostG (d : Int) (ll : List (List Int)) (er : Int) (w : World) (e : Ending) (w' : World) : Prop :=
  ∃ a n c, e = .returned (.tuple #[.agg #[.int .i64 d, .slice a n c], .int .i64 er]) ∧ RowsF w.heap.size w' (.slice a n c) ll ∧ Below w.heap.size w w'
theorem gpostG {f : FuncId} {args : Array Value} {d : Int} {ll : List (List Int)} {w : World} (h : Calls Try.prog f args w (GroupPost d ll w)) : Calls Try.prog f args w (GPostG d ll (if d = 0 then 2 else 0) w) := h
/-- the six puzzles -/
def sixP : List (Int × List (List Int)) := [ringsR 4 4 1, ringsR 5 3 2, spinR 6 4, cakesR 4, spinR 7 2, ringsR 6 6 2]
theorem sixP_ok : ∀ q ∈ sixP, pzchk q.1 q.2 = 0 ∧ 1 ≤ q.2.length ∧ q.2.length ≤ 3 := by decide +kernel
/-- one of the six -/
def PuzPost (w : World) (e : Ending) (w' : World) : Prop :=
  ∃ d a n c ll, e = .returned (.agg #[.int .i64 d, .slice a n c]) ∧ (d, ll) ∈ sixP ∧ Rg.Rows w' (.slice a n c) ll ∧ Below w.heap.size w w'
theorem clPick (args : Array Value) (w : World) : (callFunc 28 args).run Try.prog w = .ok (.enter 28 args) w := by kernel_rfl

set_option maxRecDepth 100000 in
set_option maxHeartbeats 4000000 in
theorem puzzles_any (x : Int) (w : World) : Calls Try.prog 27 #[.int .i64 x] w (PuzPost w) := by
  have hpk := fun W => Pick_any x 6 W (by decide) (by decide)
  have hp := pickV_in x 6 (by decide)
  generalize pickV x 6 = r at *
  have hr : r = 0 ∨ r = 1 ∨ r = 2 ∨ r = 3 ∨ r = 4 ∨ r = 5 := by omega
  have HP := Lib.hid hpk
  clear hpk hp
  have z0 : (w.alloc (.cells #[.int .i64 0, .slice none 0 0] 24)).cell? ⟨w.heap.size, 0, none⟩ = some (.int .i64 0) := by rw [Rg.cellNew]; rfl
  have z1 : (w.alloc (.cells #[.int .i64 0, .slice none 0 0] 24)).cell? ⟨w.heap.size, 1, none⟩ = some (.slice none 0 0) := by rw [Rg.cellNew]; rfl
  have zf : ∀ o, (w.alloc (.cells #[.int .i64 0, .slice none 0 0] 24)).frozen? ⟨w.heap.size, o, none⟩ = false := fun o => frozenNewN _ _ _ 0 _
  have zs : w.heap.size < (w.alloc (.cells #[.int .i64 0, .slice none 0 0] 24)).heap.size := by simp
  have zb : Below w.heap.size w (w.alloc (.cells #[.int .i64 0, .slice none 0 0] 24)) := (Below.refl _ _).alloc (Nat.le_refl _) _
  have Z := Lib.hid (And.intro z0 (And.intro z1 (And.intro zf (And.intro zs zb))))
  clear z0 z1 zf zs zb
  rcases hr with rfl | rfl | rfl | rfl | rfl | rfl
  · have q1 := fun W => gpostG (refRings_any 4 4 1 W)
    have hmem : (ringsR 4 4 1) ∈ sixP := by unfold sixP; simp
    generalize ringsR 4 4 1 = pr at *
    obtain ⟨d, ll⟩ := pr
    simp only at q1
    generalize (if d = 0 then (2 : Int) else 0) = er at *
    have Q1 := Lib.hid q1
    have HM := Lib.hid hmem
    clear q1 hmem
    go_enter Try.func27, Try.ntmps27
    go_upto_region 1 with (fail)
    generalize w.alloc (.cells #[.int .i64 0, .slice none 0 0] 24) = W0 at *
    refine wp_region_list ?_
    refine listW_run (some 15) rfl rfl (Rg.exec_move (v := .int .i64 x) _ rfl rfl) ?_
    go_frame
    refine listW_ask (some 16) rfl rfl _ _ (exec_fn 28 _ _ _ rfl rfl rfl (clPick _ _)) ?_
    refine (HP.out W0).mono ?_
    rintro e W1 ⟨rfl, hb1⟩
    refine ⟨_, rfl, ?_⟩
    go_frame
    have B1 := Lib.hid hb1
    clear hb1
    go_upto_region 3 with (fail)
    refine wp_region_list ?_
    refine listW_ask (some 20) rfl rfl _ _ (exec_fn3 14 _ _ _ _ rfl rfl rfl rfl (clRings' _ _)) ?_
    refine (Q1.out W1).mono ?_
    rintro e W2 ⟨a, n, c, rfl, hg, hb⟩
    refine ⟨_, rfl, ?_⟩
    go_frame
    refine listW_run (some 19) rfl rfl (Rg.exec_move (v := .tuple #[.agg #[.int .i64 d, .slice a n c], .int .i64 er]) _ rfl rfl) ?_
    go_frame
    refine listW_run (some 21) rfl rfl (exec_extract (v := .agg #[.int .i64 d, .slice a n c]) _ _ rfl rfl rfl) ?_
    go_frame
    refine listW_run (some 22) rfl rfl (exec_extract (v := .int .i64 er) _ _ rfl rfl rfl) ?_
    go_frame
    refine listW_run (some 3) rfl rfl (exec_allocG rfl) ?_
    go_frame
    obtain ⟨st, gr, hc⟩ := grpNew d hg.rows
    refine Rg.list_skip none rfl rfl (Rg.exec_store _ _ _ rfl _ rfl _ rfl st) ?_
    go_frame
    refine listW_run (some 4) rfl rfl (Rg.exec_assign (v := .int .i64 er) _ rfl rfl) ?_
    go_frame
    generalize ((W2.alloc (.cells #[.int .i64 0, .slice none 0 0] 24)).setCell ⟨W2.heap.size, 0, none⟩ (.int .i64 d)).setCell ⟨W2.heap.size, 1, none⟩ (.slice a n c) = W3 at *
    have hB := Rg.acc B1.out (Rg.acc hb hc)
    have hz := Z.out
    have r0 := (hB.cell (p := ⟨w.heap.size, 0, none⟩) hz.2.2.2.1).trans hz.1
    have r1 := (hB.cell (p := ⟨w.heap.size, 1, none⟩) hz.2.2.2.1).trans hz.2.1
    have rf := fun o => (hB.frozen (p := ⟨w.heap.size, o, none⟩) hz.2.2.2.1).trans (hz.2.2.1 o)
    have hL := Lib.hid gr.load
    have hS := Lib.hid (run_storeG d a n c r0 r1 (rf 0) (rf 1))
    have hbw := Rg.acc hz.2.2.2.2 hB
    have hA := Lib.hid (group_set (.int .i64 d) (.slice a n c) r0 r1 hbw (Nat.le_refl _))
    have hw1 := (Nat.lt_of_lt_of_le Z.out.2.2.2.1 B1.out.size)
    have hR := Lib.hid (((hg.below hc).set w.heap.size 0 (.int .i64 d) hw1).set w.heap.size 1 (.slice a n c) hw1).rows
    clear hw1
    clear st hg hb r0 r1 rf hz hB hbw
    go_upto_region 4 with (fail)
    refine wp_region_list ?_
    refine listW_run (some 23) rfl rfl (Rg.exec_load (v := .agg #[.int .i64 d, .slice a n c]) _ _ rfl _ rfl hL.out) ?_
    go_frame
    refine Rg.list_skip none rfl rfl (Rg.exec_store _ _ _ rfl _ rfl _ rfl hS.out) ?_
    go_frame
    clear hL hS
    generalize (W3.setCell ⟨w.heap.size, 0, none⟩ (.int .i64 d)).setCell ⟨w.heap.size, 1, none⟩ (.slice a n c) = W6 at *
    clear gr hc
    go_wp2
    exact bodyPost_ret (results_cellG rfl _ rfl hA.out.1 hA.out.2.1) rfl ⟨_, _, _, _, _, rfl, HM.out, hR.out, hA.out.2.2⟩
  · have q1 := fun W => gpostG (refRings_any 5 3 2 W)
    have hmem : (ringsR 5 3 2) ∈ sixP := by unfold sixP; simp
    generalize ringsR 5 3 2 = pr at *
    obtain ⟨d, ll⟩ := pr
    simp only at q1
    generalize (if d = 0 then (2 : Int) else 0) = er at *
    have Q1 := Lib.hid q1
    have HM := Lib.hid hmem
    clear q1 hmem
    go_enter Try.func27, Try.ntmps27
    go_upto_region 1 with (fail)
    generalize w.alloc (.cells #[.int .i64 0, .slice none 0 0] 24) = W0 at *
    refine wp_region_list ?_
    refine listW_run (some 15) rfl rfl (Rg.exec_move (v := .int .i64 x) _ rfl rfl) ?_
    go_frame
    refine listW_ask (some 16) rfl rfl _ _ (exec_fn 28 _ _ _ rfl rfl rfl (clPick _ _)) ?_
    refine (HP.out W0).mono ?_
    rintro e W1 ⟨rfl, hb1⟩
    refine ⟨_, rfl, ?_⟩
    go_frame
    have B1 := Lib.hid hb1
    clear hb1
    go_upto_region 6 with (fail)
    refine wp_region_list ?_
    refine listW_ask (some 27) rfl rfl _ _ (exec_fn3 14 _ _ _ _ rfl rfl rfl rfl (clRings' _ _)) ?_
    refine (Q1.out W1).mono ?_
    rintro e W2 ⟨a, n, c, rfl, hg, hb⟩
    refine ⟨_, rfl, ?_⟩
    go_frame
    refine listW_run (some 26) rfl rfl (Rg.exec_move (v := .tuple #[.agg #[.int .i64 d, .slice a n c], .int .i64 er]) _ rfl rfl) ?_
    go_frame
    refine listW_run (some 28) rfl rfl (exec_extract (v := .agg #[.int .i64 d, .slice a n c]) _ _ rfl rfl rfl) ?_
    go_frame
    refine listW_run (some 29) rfl rfl (exec_extract (v := .int .i64 er) _ _ rfl rfl rfl) ?_
    go_frame
    refine listW_run (some 5) rfl rfl (exec_allocG rfl) ?_
    go_frame
    obtain ⟨st, gr, hc⟩ := grpNew d hg.rows
    refine Rg.list_skip none rfl rfl (Rg.exec_store _ _ _ rfl _ rfl _ rfl st) ?_
    go_frame
    refine listW_run (some 6) rfl rfl (Rg.exec_assign (v := .int .i64 er) _ rfl rfl) ?_
    go_frame
    generalize ((W2.alloc (.cells #[.int .i64 0, .slice none 0 0] 24)).setCell ⟨W2.heap.size, 0, none⟩ (.int .i64 d)).setCell ⟨W2.heap.size, 1, none⟩ (.slice a n c) = W3 at *
    have hB := Rg.acc B1.out (Rg.acc hb hc)
    have hz := Z.out
    have r0 := (hB.cell (p := ⟨w.heap.size, 0, none⟩) hz.2.2.2.1).trans hz.1
    have r1 := (hB.cell (p := ⟨w.heap.size, 1, none⟩) hz.2.2.2.1).trans hz.2.1
    have rf := fun o => (hB.frozen (p := ⟨w.heap.size, o, none⟩) hz.2.2.2.1).trans (hz.2.2.1 o)
    have hL := Lib.hid gr.load
    have hS := Lib.hid (run_storeG d a n c r0 r1 (rf 0) (rf 1))
    have hbw := Rg.acc hz.2.2.2.2 hB
    have hA := Lib.hid (group_set (.int .i64 d) (.slice a n c) r0 r1 hbw (Nat.le_refl _))
    have hw1 := (Nat.lt_of_lt_of_le Z.out.2.2.2.1 B1.out.size)
    have hR := Lib.hid (((hg.below hc).set w.heap.size 0 (.int .i64 d) hw1).set w.heap.size 1 (.slice a n c) hw1).rows
    clear hw1
    clear st hg hb r0 r1 rf hz hB hbw
    go_upto_region 7 with (fail)
    refine wp_region_list ?_
    refine listW_run (some 30) rfl rfl (Rg.exec_load (v := .agg #[.int .i64 d, .slice a n c]) _ _ rfl _ rfl hL.out) ?_
    go_frame
    refine Rg.list_skip none rfl rfl (Rg.exec_store _ _ _ rfl _ rfl _ rfl hS.out) ?_
    go_frame
    clear hL hS
    generalize (W3.setCell ⟨w.heap.size, 0, none⟩ (.int .i64 d)).setCell ⟨w.heap.size, 1, none⟩ (.slice a n c) = W6 at *
    clear gr hc
    go_wp2
    exact bodyPost_ret (results_cellG rfl _ rfl hA.out.1 hA.out.2.1) rfl ⟨_, _, _, _, _, rfl, HM.out, hR.out, hA.out.2.2⟩
  · have q1 := fun W => gpostG (refSpin_any 6 4 W)
    have hmem : (spinR 6 4) ∈ sixP := by unfold sixP; simp
    generalize spinR 6 4 = pr at *
    obtain ⟨d, ll⟩ := pr
    simp only at q1
    generalize (if d = 0 then (2 : Int) else 0) = er at *
    have Q1 := Lib.hid q1
    have HM := Lib.hid hmem
    clear q1 hmem
    go_enter Try.func27, Try.ntmps27
    go_upto_region 1 with (fail)
    generalize w.alloc (.cells #[.int .i64 0, .slice none 0 0] 24) = W0 at *
    refine wp_region_list ?_
    refine listW_run (some 15) rfl rfl (Rg.exec_move (v := .int .i64 x) _ rfl rfl) ?_
    go_frame
    refine listW_ask (some 16) rfl rfl _ _ (exec_fn 28 _ _ _ rfl rfl rfl (clPick _ _)) ?_
    refine (HP.out W0).mono ?_
    rintro e W1 ⟨rfl, hb1⟩
    refine ⟨_, rfl, ?_⟩
    go_frame
    have B1 := Lib.hid hb1
    clear hb1
    go_upto_region 9 with (fail)
    refine wp_region_list ?_
    refine listW_ask (some 34) rfl rfl _ _ (exec_fn 16 _ _ _ rfl rfl rfl (clSpin' _ _)) ?_
    refine (Q1.out W1).mono ?_
    rintro e W2 ⟨a, n, c, rfl, hg, hb⟩
    refine ⟨_, rfl, ?_⟩
    go_frame
    refine listW_run (some 33) rfl rfl (Rg.exec_move (v := .tuple #[.agg #[.int .i64 d, .slice a n c], .int .i64 er]) _ rfl rfl) ?_
    go_frame
    refine listW_run (some 35) rfl rfl (exec_extract (v := .agg #[.int .i64 d, .slice a n c]) _ _ rfl rfl rfl) ?_
    go_frame
    refine listW_run (some 36) rfl rfl (exec_extract (v := .int .i64 er) _ _ rfl rfl rfl) ?_
    go_frame
    refine listW_run (some 7) rfl rfl (exec_allocG rfl) ?_
    go_frame
    obtain ⟨st, gr, hc⟩ := grpNew d hg.rows
    refine Rg.list_skip none rfl rfl (Rg.exec_store _ _ _ rfl _ rfl _ rfl st) ?_
    go_frame
    refine listW_run (some 8) rfl rfl (Rg.exec_assign (v := .int .i64 er) _ rfl rfl) ?_
    go_frame
    generalize ((W2.alloc (.cells #[.int .i64 0, .slice none 0 0] 24)).setCell ⟨W2.heap.size, 0, none⟩ (.int .i64 d)).setCell ⟨W2.heap.size, 1, none⟩ (.slice a n c) = W3 at *
    have hB := Rg.acc B1.out (Rg.acc hb hc)
    have hz := Z.out
    have r0 := (hB.cell (p := ⟨w.heap.size, 0, none⟩) hz.2.2.2.1).trans hz.1
    have r1 := (hB.cell (p := ⟨w.heap.size, 1, none⟩) hz.2.2.2.1).trans hz.2.1
    have rf := fun o => (hB.frozen (p := ⟨w.heap.size, o, none⟩) hz.2.2.2.1).trans (hz.2.2.1 o)
    have hL := Lib.hid gr.load
    have hS := Lib.hid (run_storeG d a n c r0 r1 (rf 0) (rf 1))
    have hbw := Rg.acc hz.2.2.2.2 hB
    have hA := Lib.hid (group_set (.int .i64 d) (.slice a n c) r0 r1 hbw (Nat.le_refl _))
    have hw1 := (Nat.lt_of_lt_of_le Z.out.2.2.2.1 B1.out.size)
    have hR := Lib.hid (((hg.below hc).set w.heap.size 0 (.int .i64 d) hw1).set w.heap.size 1 (.slice a n c) hw1).rows
    clear hw1
    clear st hg hb r0 r1 rf hz hB hbw
    go_upto_region 10 with (fail)
    refine wp_region_list ?_
    refine listW_run (some 37) rfl rfl (Rg.exec_load (v := .agg #[.int .i64 d, .slice a n c]) _ _ rfl _ rfl hL.out) ?_
    go_frame
    refine Rg.list_skip none rfl rfl (Rg.exec_store _ _ _ rfl _ rfl _ rfl hS.out) ?_
    go_frame
    clear hL hS
    generalize (W3.setCell ⟨w.heap.size, 0, none⟩ (.int .i64 d)).setCell ⟨w.heap.size, 1, none⟩ (.slice a n c) = W6 at *
    clear gr hc
    go_wp2
    exact bodyPost_ret (results_cellG rfl _ rfl hA.out.1 hA.out.2.1) rfl ⟨_, _, _, _, _, rfl, HM.out, hR.out, hA.out.2.2⟩
  · have q1 := fun W => gpostG (refPancakes_any 4 W)
    have hmem : (cakesR 4) ∈ sixP := by unfold sixP; simp
    generalize cakesR 4 = pr at *
    obtain ⟨d, ll⟩ := pr
    simp only at q1
    generalize (if d = 0 then (2 : Int) else 0) = er at *
    have Q1 := Lib.hid q1
    have HM := Lib.hid hmem
    clear q1 hmem
    go_enter Try.func27, Try.ntmps27
    go_upto_region 1 with (fail)
    generalize w.alloc (.cells #[.int .i64 0, .slice none 0 0] 24) = W0 at *
    refine wp_region_list ?_
    refine listW_run (some 15) rfl rfl (Rg.exec_move (v := .int .i64 x) _ rfl rfl) ?_
    go_frame
    refine listW_ask (some 16) rfl rfl _ _ (exec_fn 28 _ _ _ rfl rfl rfl (clPick _ _)) ?_
    refine (HP.out W0).mono ?_
    rintro e W1 ⟨rfl, hb1⟩
    refine ⟨_, rfl, ?_⟩
    go_frame
    have B1 := Lib.hid hb1
    clear hb1
    go_upto_region 12 with (fail)
    refine wp_region_list ?_
    refine listW_ask (some 41) rfl rfl _ _ (exec_fn1 18 _ _ rfl rfl (clCakes' _ _)) ?_
    refine (Q1.out W1).mono ?_
    rintro e W2 ⟨a, n, c, rfl, hg, hb⟩
    refine ⟨_, rfl, ?_⟩
    go_frame
    refine listW_run (some 40) rfl rfl (Rg.exec_move (v := .tuple #[.agg #[.int .i64 d, .slice a n c], .int .i64 er]) _ rfl rfl) ?_
    go_frame
    refine listW_run (some 42) rfl rfl (exec_extract (v := .agg #[.int .i64 d, .slice a n c]) _ _ rfl rfl rfl) ?_
    go_frame
    refine listW_run (some 43) rfl rfl (exec_extract (v := .int .i64 er) _ _ rfl rfl rfl) ?_
    go_frame
    refine listW_run (some 9) rfl rfl (exec_allocG rfl) ?_
    go_frame
    obtain ⟨st, gr, hc⟩ := grpNew d hg.rows
    refine Rg.list_skip none rfl rfl (Rg.exec_store _ _ _ rfl _ rfl _ rfl st) ?_
    go_frame
    refine listW_run (some 10) rfl rfl (Rg.exec_assign (v := .int .i64 er) _ rfl rfl) ?_
    go_frame
    generalize ((W2.alloc (.cells #[.int .i64 0, .slice none 0 0] 24)).setCell ⟨W2.heap.size, 0, none⟩ (.int .i64 d)).setCell ⟨W2.heap.size, 1, none⟩ (.slice a n c) = W3 at *
    have hB := Rg.acc B1.out (Rg.acc hb hc)
    have hz := Z.out
    have r0 := (hB.cell (p := ⟨w.heap.size, 0, none⟩) hz.2.2.2.1).trans hz.1
    have r1 := (hB.cell (p := ⟨w.heap.size, 1, none⟩) hz.2.2.2.1).trans hz.2.1
    have rf := fun o => (hB.frozen (p := ⟨w.heap.size, o, none⟩) hz.2.2.2.1).trans (hz.2.2.1 o)
    have hL := Lib.hid gr.load
    have hS := Lib.hid (run_storeG d a n c r0 r1 (rf 0) (rf 1))
    have hbw := Rg.acc hz.2.2.2.2 hB
    have hA := Lib.hid (group_set (.int .i64 d) (.slice a n c) r0 r1 hbw (Nat.le_refl _))
    have hw1 := (Nat.lt_of_lt_of_le Z.out.2.2.2.1 B1.out.size)
    have hR := Lib.hid (((hg.below hc).set w.heap.size 0 (.int .i64 d) hw1).set w.heap.size 1 (.slice a n c) hw1).rows
    clear hw1
    clear st hg hb r0 r1 rf hz hB hbw
    go_upto_region 13 with (fail)
    refine wp_region_list ?_
    refine listW_run (some 44) rfl rfl (Rg.exec_load (v := .agg #[.int .i64 d, .slice a n c]) _ _ rfl _ rfl hL.out) ?_
    go_frame
    refine Rg.list_skip none rfl rfl (Rg.exec_store _ _ _ rfl _ rfl _ rfl hS.out) ?_
    go_frame
    clear hL hS
    generalize (W3.setCell ⟨w.heap.size, 0, none⟩ (.int .i64 d)).setCell ⟨w.heap.size, 1, none⟩ (.slice a n c) = W6 at *
    clear gr hc
    go_wp2
    exact bodyPost_ret (results_cellG rfl _ rfl hA.out.1 hA.out.2.1) rfl ⟨_, _, _, _, _, rfl, HM.out, hR.out, hA.out.2.2⟩
  · have q1 := fun W => gpostG (refSpin_any 7 2 W)
    have hmem : (spinR 7 2) ∈ sixP := by unfold sixP; simp
    generalize spinR 7 2 = pr at *
    obtain ⟨d, ll⟩ := pr
    simp only at q1
    generalize (if d = 0 then (2 : Int) else 0) = er at *
    have Q1 := Lib.hid q1
    have HM := Lib.hid hmem
    clear q1 hmem
    go_enter Try.func27, Try.ntmps27
    go_upto_region 1 with (fail)
    generalize w.alloc (.cells #[.int .i64 0, .slice none 0 0] 24) = W0 at *
    refine wp_region_list ?_
    refine listW_run (some 15) rfl rfl (Rg.exec_move (v := .int .i64 x) _ rfl rfl) ?_
    go_frame
    refine listW_ask (some 16) rfl rfl _ _ (exec_fn 28 _ _ _ rfl rfl rfl (clPick _ _)) ?_
    refine (HP.out W0).mono ?_
    rintro e W1 ⟨rfl, hb1⟩
    refine ⟨_, rfl, ?_⟩
    go_frame
    have B1 := Lib.hid hb1
    clear hb1
    go_upto_region 15 with (fail)
    refine wp_region_list ?_
    refine listW_ask (some 48) rfl rfl _ _ (exec_fn 16 _ _ _ rfl rfl rfl (clSpin' _ _)) ?_
    refine (Q1.out W1).mono ?_
    rintro e W2 ⟨a, n, c, rfl, hg, hb⟩
    refine ⟨_, rfl, ?_⟩
    go_frame
    refine listW_run (some 47) rfl rfl (Rg.exec_move (v := .tuple #[.agg #[.int .i64 d, .slice a n c], .int .i64 er]) _ rfl rfl) ?_
    go_frame
    refine listW_run (some 49) rfl rfl (exec_extract (v := .agg #[.int .i64 d, .slice a n c]) _ _ rfl rfl rfl) ?_
    go_frame
    refine listW_run (some 50) rfl rfl (exec_extract (v := .int .i64 er) _ _ rfl rfl rfl) ?_
    go_frame
    refine listW_run (some 11) rfl rfl (exec_allocG rfl) ?_
    go_frame
    obtain ⟨st, gr, hc⟩ := grpNew d hg.rows
    refine Rg.list_skip none rfl rfl (Rg.exec_store _ _ _ rfl _ rfl _ rfl st) ?_
    go_frame
    refine listW_run (some 12) rfl rfl (Rg.exec_assign (v := .int .i64 er) _ rfl rfl) ?_
    go_frame
    generalize ((W2.alloc (.cells #[.int .i64 0, .slice none 0 0] 24)).setCell ⟨W2.heap.size, 0, none⟩ (.int .i64 d)).setCell ⟨W2.heap.size, 1, none⟩ (.slice a n c) = W3 at *
    have hB := Rg.acc B1.out (Rg.acc hb hc)
    have hz := Z.out
    have r0 := (hB.cell (p := ⟨w.heap.size, 0, none⟩) hz.2.2.2.1).trans hz.1
    have r1 := (hB.cell (p := ⟨w.heap.size, 1, none⟩) hz.2.2.2.1).trans hz.2.1
    have rf := fun o => (hB.frozen (p := ⟨w.heap.size, o, none⟩) hz.2.2.2.1).trans (hz.2.2.1 o)
    have hL := Lib.hid gr.load
    have hS := Lib.hid (run_storeG d a n c r0 r1 (rf 0) (rf 1))
    have hbw := Rg.acc hz.2.2.2.2 hB
    have hA := Lib.hid (group_set (.int .i64 d) (.slice a n c) r0 r1 hbw (Nat.le_refl _))
    have hw1 := (Nat.lt_of_lt_of_le Z.out.2.2.2.1 B1.out.size)
    have hR := Lib.hid (((hg.below hc).set w.heap.size 0 (.int .i64 d) hw1).set w.heap.size 1 (.slice a n c) hw1).rows
    clear hw1
    clear st hg hb r0 r1 rf hz hB hbw
    go_upto_region 16 with (fail)
    refine wp_region_list ?_
    refine listW_run (some 51) rfl rfl (Rg.exec_load (v := .agg #[.int .i64 d, .slice a n c]) _ _ rfl _ rfl hL.out) ?_
    go_frame
    refine Rg.list_skip none rfl rfl (Rg.exec_store _ _ _ rfl _ rfl _ rfl hS.out) ?_
    go_frame
    clear hL hS
    generalize (W3.setCell ⟨w.heap.size, 0, none⟩ (.int .i64 d)).setCell ⟨w.heap.size, 1, none⟩ (.slice a n c) = W6 at *
    clear gr hc
    go_wp2
    exact bodyPost_ret (results_cellG rfl _ rfl hA.out.1 hA.out.2.1) rfl ⟨_, _, _, _, _, rfl, HM.out, hR.out, hA.out.2.2⟩
  · have q1 := fun W => gpostG (refRings_any 6 6 2 W)
    have hmem : (ringsR 6 6 2) ∈ sixP := by unfold sixP; simp
    generalize ringsR 6 6 2 = pr at *
    obtain ⟨d, ll⟩ := pr
    simp only at q1
    generalize (if d = 0 then (2 : Int) else 0) = er at *
    have Q1 := Lib.hid q1
    have HM := Lib.hid hmem
    clear q1 hmem
    go_enter Try.func27, Try.ntmps27
    go_upto_region 1 with (fail)
    generalize w.alloc (.cells #[.int .i64 0, .slice none 0 0] 24) = W0 at *
    refine wp_region_list ?_
    refine listW_run (some 15) rfl rfl (Rg.exec_move (v := .int .i64 x) _ rfl rfl) ?_
    go_frame
    refine listW_ask (some 16) rfl rfl _ _ (exec_fn 28 _ _ _ rfl rfl rfl (clPick _ _)) ?_
    refine (HP.out W0).mono ?_
    rintro e W1 ⟨rfl, hb1⟩
    refine ⟨_, rfl, ?_⟩
    go_frame
    have B1 := Lib.hid hb1
    clear hb1
    go_upto_region 17 with (fail)
    refine wp_region_list ?_
    refine listW_ask (some 53) rfl rfl _ _ (exec_fn3 14 _ _ _ _ rfl rfl rfl rfl (clRings' _ _)) ?_
    refine (Q1.out W1).mono ?_
    rintro e W2 ⟨a, n, c, rfl, hg, hb⟩
    refine ⟨_, rfl, ?_⟩
    go_frame
    refine listW_run (some 52) rfl rfl (Rg.exec_move (v := .tuple #[.agg #[.int .i64 d, .slice a n c], .int .i64 er]) _ rfl rfl) ?_
    go_frame
    refine listW_run (some 54) rfl rfl (exec_extract (v := .agg #[.int .i64 d, .slice a n c]) _ _ rfl rfl rfl) ?_
    go_frame
    refine listW_run (some 55) rfl rfl (exec_extract (v := .int .i64 er) _ _ rfl rfl rfl) ?_
    go_frame
    refine listW_run (some 13) rfl rfl (exec_allocG rfl) ?_
    go_frame
    obtain ⟨st, gr, hc⟩ := grpNew d hg.rows
    refine Rg.list_skip none rfl rfl (Rg.exec_store _ _ _ rfl _ rfl _ rfl st) ?_
    go_frame
    refine listW_run (some 14) rfl rfl (Rg.exec_assign (v := .int .i64 er) _ rfl rfl) ?_
    go_frame
    generalize ((W2.alloc (.cells #[.int .i64 0, .slice none 0 0] 24)).setCell ⟨W2.heap.size, 0, none⟩ (.int .i64 d)).setCell ⟨W2.heap.size, 1, none⟩ (.slice a n c) = W3 at *
    have hB := Rg.acc B1.out (Rg.acc hb hc)
    have hz := Z.out
    have r0 := (hB.cell (p := ⟨w.heap.size, 0, none⟩) hz.2.2.2.1).trans hz.1
    have r1 := (hB.cell (p := ⟨w.heap.size, 1, none⟩) hz.2.2.2.1).trans hz.2.1
    have rf := fun o => (hB.frozen (p := ⟨w.heap.size, o, none⟩) hz.2.2.2.1).trans (hz.2.2.1 o)
    have hL := Lib.hid gr.load
    have hS := Lib.hid (run_storeG d a n c r0 r1 (rf 0) (rf 1))
    have hbw := Rg.acc hz.2.2.2.2 hB
    have hA := Lib.hid (group_set (.int .i64 d) (.slice a n c) r0 r1 hbw (Nat.le_refl _))
    have hw1 := (Nat.lt_of_lt_of_le Z.out.2.2.2.1 B1.out.size)
    have hR := Lib.hid (((hg.below hc).set w.heap.size 0 (.int .i64 d) hw1).set w.heap.size 1 (.slice a n c) hw1).rows
    clear hw1
    clear st hg hb r0 r1 rf hz hB hbw
    go_upto_region 18 with (fail)
    refine wp_region_list ?_
    refine listW_run (some 56) rfl rfl (Rg.exec_load (v := .agg #[.int .i64 d, .slice a n c]) _ _ rfl _ rfl hL.out) ?_
    go_frame
    refine Rg.list_skip none rfl rfl (Rg.exec_store _ _ _ rfl _ rfl _ rfl hS.out) ?_
    go_frame
    clear hL hS
    generalize (W3.setCell ⟨w.heap.size, 0, none⟩ (.int .i64 d)).setCell ⟨w.heap.size, 1, none⟩ (.slice a n c) = W6 at *
    clear gr hc
    go_wp2
    exact bodyPost_ret (results_cellG rfl _ rfl hA.out.1 hA.out.2.1) rfl ⟨_, _, _, _, _, rfl, HM.out, hR.out, hA.out.2.2⟩
end Go.Proofs.Ytjifdmfoijoekaa

/-! Operations one by one: integers, picks, lengths. -/
namespace Go.Proofs.Ytjifdmfoijoekaa
open Go.RowKit
open Go.Proofs
open Go.Proofs.Ytjifdmfoijoekaa.Rj
attribute [local irreducible] Go.Calls

theorem exec_bin {o : Oper} {a : Act} {w : World} {u v : Int} {R : Value} (op : BinOp) (t : TypeId) (x y : Operand) (ho : o.op = .binOp op t x y t) (hx : a.eval x = .int .i64 u) (hy : a.eval y = .int .i64 v) (h1 : (binOp op t (.int .i64 u) (.int .i64 v)).run Try.prog w = .ok R w) : (execOp a.eval o).run Try.prog w = .ok (.value R) w := by
  have hg : (eqGuard op t x y (.int .i64 u) (.int .i64 v)).run Try.prog w = .ok () w := by
    simp [eqGuard]
  unfold execOp
  simp only [ho, hx, hy, Sem.run_bind, Sem.run_pure, hg, h1, Result.andThen_ok]
theorem b_mul {w : World} {u v r : Int} (t : TypeId) (h : u * v = r) (hb : -9223372036854775808 ≤ r ∧ r ≤ 9223372036854775807) : (binOp .mul t (.int .i64 u) (.int .i64 v)).run Try.prog w = .ok (.int .i64 r) w := by
  simp [binOp, Op.intArith, h, IntWalk.i64_in r hb]
theorem b_add {w : World} {u v r : Int} (t : TypeId) (h : u + v = r) (hb : -9223372036854775808 ≤ r ∧ r ≤ 9223372036854775807) : (binOp .add t (.int .i64 u) (.int .i64 v)).run Try.prog w = .ok (.int .i64 r) w := by
  simp [binOp, Op.intArith, h, IntWalk.i64_in r hb]
theorem b_sub {w : World} {u v r : Int} (t : TypeId) (h : u - v = r) (hb : -9223372036854775808 ≤ r ∧ r ≤ 9223372036854775807) : (binOp .sub t (.int .i64 u) (.int .i64 v)).run Try.prog w = .ok (.int .i64 r) w := by
  simp [binOp, Op.intArith, h, IntWalk.i64_in r hb]
theorem b_quo {w : World} {u v r : Int} (t : TypeId) (hv : v ≠ 0) (h : u.tdiv v = r) (hb : -9223372036854775808 ≤ r ∧ r ≤ 9223372036854775807) : (binOp .quo t (.int .i64 u) (.int .i64 v)).run Try.prog w = .ok (.int .i64 r) w := by
  simp [binOp, Op.intDiv, hv, h, IntWalk.i64_in r hb]
theorem b_neq {w : World} {u v : Int} (t : TypeId) (h : u = v) : (binOp .neq t (.int .i64 u) (.int .i64 v)).run Try.prog w = .ok (.bool false) w := by
  subst h
  simp [binOp, Op.intCmp]
theorem b_eql {w : World} {u v : Int} {b : Bool} (t : TypeId) (h : decide (u = v) = b) : (binOp .eql t (.int .i64 u) (.int .i64 v)).run Try.prog w = .ok (.bool b) w := by
  subst h
  simp [binOp, Op.intCmp]
  rfl
theorem b_gtr {w : World} {u v : Int} {b : Bool} (t : TypeId) (h : decide (v < u) = b) : (binOp .gtr t (.int .i64 u) (.int .i64 v)).run Try.prog w = .ok (.bool b) w := by
  subst h
  simp [binOp, Op.intCmp]
theorem exec_not {o : Oper} {a : Act} {w : World} (x : Operand) (t : TypeId) (b : Bool) (ho : o.op = .unOp .not t x) (hx : a.eval x = .bool b) : (execOp a.eval o).run Try.prog w = .ok (.value (.bool !b)) w := by
  have h1 : (Op.unary .not (.bool b)).run Try.prog w = .ok (.bool !b) w := by
    simp [Op.unary]
  unfold execOp
  simp only [ho, hx, Sem.run_bind, Sem.run_pure, h1, Result.andThen_ok]
theorem exec_pickF {o : Oper} {a : Act} {w : World} {v : Value} (x y z : Operand) (ho : o.op = .pick x y z) (hx : a.eval x = .bool false) (hz : a.eval z = v) : (execOp a.eval o).run Try.prog w = .ok (.value v) w := by
  unfold execOp
  simp [ho, hx, hz, asBool]
theorem exec_len {o : Oper} {a : Act} {w : World} (e : TypeId) (x : Operand) (t : TypeId) (ho : o.op = .call { callee := .builtin .len, args := #[x], argTypes := #[t] }) (ht : Try.prog.underlying t = some (.slice e)) (ad : Option Addr) (n c : Nat) (hx : a.eval x = .slice ad n c) : (execOp a.eval o).run Try.prog w = .ok (.value (.int .i64 (n : Int))) w := by
  have hw : goInt (n : Int) = .int .i64 (n : Int) := rfl
  unfold execOp
  simp [ho, hx, resolve, invoke, builtin, Builtin.len_, run_underlying ht, Result.andThen, hw]
theorem exec_min {o : Oper} {a : Act} {w : World} {u v : Int} (x y : Operand) (tys : Array TypeId) (ho : o.op = .call { callee := .builtin .min, args := #[x, y], argTypes := tys }) (hx : a.eval x = .int .i64 u) (hy : a.eval y = .int .i64 v) : (execOp a.eval o).run Try.prog w = .ok (.value (.int .i64 (if v < u then v else u))) w := by
  unfold execOp
  simp [ho, hx, hy, resolve, invoke, builtin, Builtin.min_, Builtin.min2]
theorem listW_pass {P : Program} {ops : Array Oper} {rest : List Oper} {o : Oper} {a : Act} {w : World} {Q : Exit → Act → World → Prop} (d : Option Tmp) (hw : Region.wanted o (yielded ops a.tmps) = false) (hd : o.dst = d)
    (h : wpList P ops Q rest (a.put d undef) w) : wpList P ops Q (o :: rest) a w := by
  subst hd
  unfold wpList
  rw [if_neg (by rw [hw]; decide)]
  exact h
end Go.Proofs.Ytjifdmfoijoekaa

/-! The law PuzzleWords. -/
namespace Go.Proofs.Ytjifdmfoijoekaa
open Go.RowKit
open Go.Proofs
open Go.Proofs.Ytjifdmfoijoekaa.Rj
attribute [local irreducible] Go.Calls

theorem clKnown (args : Array Value) (w : World) : (callFunc 6 args).run Try.prog w = .ok (.enter 6 args) w := by kernel_rfl
theorem clPuz (args : Array Value) (w : World) : (callFunc 27 args).run Try.prog w = .ok (.enter 27 args) w := by kernel_rfl
theorem clValue (args : Array Value) (w : World) : (callFunc 29 args).run Try.prog w = .ok (.enter 29 args) w := by kernel_rfl
theorem clAfter (args : Array Value) (w : World) : (callFunc 30 args).run Try.prog w = .ok (.enter 30 args) w := by kernel_rfl
theorem alloc_as (W : World) (d : Int) (a : Option Addr) (n c : Nat) : W.alloc (.cells #[.int .i64 d, .slice a n c] 24) = W.alloc (.cells #[.int .i64 d, .slice a n c] 24) := rfl
theorem len_ltrs (u : List Lt) : (ltrs u).length = u.length := by simp [ltrs]
/-- the letters' word, so far -/
def WdsAt (B m : Nat) (gs : List (List Nat)) (v : Value) (w : World) : Prop := ∃ u : List Lt, u.length = m ∧ (∀ y ∈ u, y ∈ mlets gs) ∧ w.ownsRow B 3 1 v m ((ltrs u).map (Value.int .i64))
theorem WdsAt.below {B m : Nat} {gs : List (List Nat)} {v : Value} {w w' : World} (h : WdsAt B m gs v w) (hb : Below w.heap.size w w') : WdsAt B m gs v w' := by
  obtain ⟨u, h1, h2, h3⟩ := h
  exact ⟨u, h1, h2, Rg.row_below h3 hb⟩
theorem letter_of (gs : List (List Nat)) (q : Int) (h0 : 0 ≤ q) (h1 : q < (gs.length : Int)) : (∃ y ∈ mlets gs, y.2 = 1 + q) ∧ ∃ y ∈ mlets gs, y.2 = -(1 + q) := by
  obtain ⟨i, rfl⟩ : ∃ i : Nat, q = i := ⟨q.toNat, by omega⟩
  have hi : i < gs.length := by omega
  exact ⟨⟨(gs[i], (i : Int) + 1), (mlets_iff _ gs rfl _).2 ⟨i, gs[i], List.getElem?_eq_getElem hi, .inl rfl⟩, by simp; omega⟩, ⟨(Ma.invN gs[i], -(i : Int) - 1), (mlets_iff _ gs rfl _).2 ⟨i, gs[i], List.getElem?_eq_getElem hi, .inr rfl⟩, by simp; omega⟩⟩
theorem lets_small (gs : List (List Nat)) (hl : gs.length ≤ 3) {u : List Lt} (hu : ∀ y ∈ u, y ∈ mlets gs) : ∀ x ∈ ltrs u, -1000 ≤ x ∧ x ≤ 1000 := fun x hx => by
  obtain ⟨y, hy, rfl⟩ := List.mem_map.1 hx
  obtain ⟨i, s, h1, h2⟩ := (mlets_iff _ gs rfl _).1 (hu y hy)
  have hi := (List.getElem?_eq_some_iff.1 h1).1
  rcases h2 with rfl | rfl
  · simp; omega
  · simp; omega

set_option maxRecDepth 100000 in
set_option maxHeartbeats 8000000 in
theorem PuzzleWords_any (x : Int) (lv : Value) (lt : List Int) (w : World) (hlt : Rg.IntsB maxLen w lv lt) :
    Calls Try.prog 7 #[.int .i64 x, lv] w fun e w' => e = .returned (.bool true) ∧ Below w.heap.size w w' := by
  obtain ⟨la, lc, rfl, _, hlm, _, hlr⟩ := hlt.shape
  have HL := Lib.hid hlr
  clear hlr hlt
  go_enter Try.func7, Try.ntmps7
  go_upto_region 1 with (fail)
  refine wp_region_list ?_
  refine listW_ask (some 17) rfl rfl _ _ (exec_fn0 6 _ rfl (clKnown _ _)) ?_
  refine (PuzzleKnown_any w).mono ?_
  rintro e W1 ⟨rfl, hb1⟩
  refine ⟨_, rfl, ?_⟩
  go_frame
  refine listW_run (some 5) rfl rfl (Rg.exec_assign (v := .bool true) _ rfl rfl) ?_
  go_frame
  go_upto_region 2 with (fail)
  refine wp_region_list ?_
  refine listW_run (some 18) rfl rfl (Rg.exec_move (v := .int .i64 x) _ rfl rfl) ?_
  go_frame
  refine listW_ask (some 19) rfl rfl _ _ (exec_fn1 27 _ _ rfl rfl (clPuz _ _)) ?_
  refine (puzzles_any x W1).mono ?_
  rintro e W2 ⟨d, ga, gn, gc, ll, rfl, hmem, hg, hb2⟩
  refine ⟨_, rfl, ?_⟩
  go_frame
  obtain ⟨hz, hl1, hl3⟩ := sixP_ok _ hmem
  simp only at hz hl1 hl3
  obtain ⟨D, gs, rfl, rfl, hgg, hD1, hD2, _⟩ := pzchk_zero hz
  rw [List.length_map] at hl1 hl3
  refine listW_run (some 6) rfl rfl (exec_allocG rfl) ?_
  go_frame
  obtain ⟨st, gr, hc⟩ := grpNew (D : Int) hg
  refine Rg.list_skip none rfl rfl (Rg.exec_store _ _ _ rfl _ rfl _ rfl st) ?_
  go_frame
  have hgn : gn = gs.length := by
    obtain ⟨a', c', e1, _⟩ := hg.shape
    rw [List.length_map] at e1
    injection e1
  have hB0 := Rg.acc hb1 (Rg.acc hb2 hc)
  generalize ((W2.alloc (.cells #[.int .i64 0, .slice none 0 0] 24)).setCell ⟨W2.heap.size, 0, none⟩ (.int .i64 (D : Int))).setCell ⟨W2.heap.size, 1, none⟩ (.slice ga gn gc) = Ws at *
  generalize W2.heap.size = b at *
  have HN := Lib.hid hgn
  have HZ := Lib.hid hz
  have HGG := Lib.hid hgg
  have HG := Lib.hid gr
  have HB0 := Lib.hid hB0
  have hl1' := Lib.hid hl1
  have hl3' := Lib.hid hl3
  clear st hb1 hb2 hc hg hmem hz hgg gr hB0 hgn hl1 hl3
  go_wp2
  go_loopw [7, 8] (fun v i wr => ∃ m : Nat, m ≤ lt.length ∧ m ≤ 6 ∧ i = .int .i64 m ∧ Hid (WdsAt Ws.heap.size m gs v wr) ∧ Hid (Below Ws.heap.size Ws wr)) (fun _ i _ => 6 - (intOf i).toNat)
  case atStart => exact ⟨0, by omega, by omega, rfl, Lib.hid ⟨[], rfl, fun y hy => by simp at hy, World.ownsRow_nil _ _ _ _⟩, Lib.hid (Below.refl _ _)⟩
  case round =>
    obtain ⟨m, hm, hm6, rfl, hs, hbel⟩ := hrel
    have hlen : (m : Int) ≤ (lt.length : Int) := by omega
    by_cases hlt : m < lt.length ∧ m < 6
    · obtain ⟨hlt1, hlt2⟩ := hlt
      have i1 : (m : Int) < (lt.length : Int) := by omega
      have i2 : (m : Int) < 6 := by omega
      obtain ⟨bl, ol, rfl, hbl, hcl⟩ := HL.out (by omega)
      obtain ⟨l, hl⟩ : ∃ l, Hid (l = lt[m]) := ⟨_, Lib.hid rfl⟩
      have c0 := hcl m hlt1
      rw [← hl.out] at c0
      have hB := Rg.acc HB0.out hbel.out
      have C0 := Lib.hid ((hB.cell (p := ⟨bl, ol + m, none⟩) hbl).trans c0)
      have L0 := Lib.hid (show bl < wr.heap.size by have := hB.size; omega)
      have G := Lib.hid (HG.out.below hbel.out)
      clear c0 hcl hB hbl hl
      go_upto_region 7 with (fail)
      have HBD := Lib.hid (show Below Ws.heap.size Ws wr.drew from hbel.out.drew)
      have HWD := Lib.hid (show WdsAt Ws.heap.size m gs u7 wr.drew from hs.out.below (Below.refl _ _).drew)
      have C0' := Lib.hid (show wr.drew.cell? ⟨bl, ol + m, none⟩ = some (.int .i64 l) from C0.out)
      have L0' := Lib.hid (show bl < wr.drew.heap.size from L0.out)
      have G' := Lib.hid (show GrpAt wr.drew b (D : Int) ga gn gc (gs.map Ma.ofN) from G.out.below (Below.refl _ _).drew)
      clear hs hbel C0 L0 G
      refine Rg.Any.begin (S := Rg.Both 11 (fun _ => True) (fun W => Below wr.drew.heap.size wr.drew W)) mix ?_
      generalize wr.drew = V at *
      have hS : ∀ (l : Array Bool) W, Below V.heap.size V W → Rg.Both 11 (fun _ => True) (fun W => Below V.heap.size V W) l W := fun l W h => ⟨.inr trivial, h⟩
      have hI : Below V.heap.size V V := Below.refl _ _
      have hgn3 : gn ≤ 3 := by rw [HN.out]; exact hl3'.out
      have hgn1 : 1 ≤ gn := by rw [HN.out]; exact hl1'.out
      refine Rg.Any.takeG (i := 0) (t := 11) (v := .slice (some ⟨bl, ol, none⟩) lt.length lc) (some 30) rfl rfl (by kernel_rfl) (by kernel_rfl) (by kernel_rfl) (fun _ _ _ h => h) rfl (.inl ⟨rfl, fun w _ => rfl⟩) (hS _ _ hI) ?_
      go_frame
      refine Rg.Any.takeG (i := 1) (t := 11) (v := .int .i64 (m : Int)) (some 31) rfl rfl (by kernel_rfl) (by kernel_rfl) (by kernel_rfl) (fun _ _ _ h => h) rfl (.inl ⟨rfl, fun w _ => rfl⟩) (hS _ _ hI) ?_
      go_frame
      refine Rg.Any.takeG (i := 2) (t := 11) (v := .pointer (some ⟨bl, ol + m, none⟩)) (some 32) rfl rfl (by kernel_rfl) (by kernel_rfl) (by kernel_rfl) (fun _ _ _ h => h) rfl (Rg.yields_index slInts _ _ rfl rfl bl ol lt.length lc m rfl rfl hlt1) (hS _ _ hI) ?_
      go_frame
      refine Rg.Any.takeG (i := 3) (t := 11) (v := .int .i64 l) (some 33) rfl rfl (by kernel_rfl) (by kernel_rfl) (by kernel_rfl) (fun _ _ _ h => h) rfl (Rg.yields_cell _ _ rfl rfl ⟨bl, ol + m, none⟩ rfl (fun W hW => run_loadInt ((Below.cell (p := ⟨bl, ol + m, none⟩) hW L0'.out).trans C0'.out))) (hS _ _ hI) ?_
      go_frame
      refine Rg.Any.takeG (i := 4) (t := 11) (v := .pointer (some ⟨b, 1, none⟩)) (some 34) rfl rfl (by kernel_rfl) (by kernel_rfl) (by kernel_rfl) (fun _ _ _ h => h) rfl (.inl ⟨rfl, fun w _ => exec_fieldG _ rfl rfl⟩) (hS _ _ hI) ?_
      go_frame
      refine Rg.Any.takeG (i := 5) (t := 11) (v := .slice ga gn gc) (some 35) rfl rfl (by kernel_rfl) (by kernel_rfl) (by kernel_rfl) (fun _ _ _ h => h) rfl (Rg.yields_cell _ _ rfl rfl ⟨b, 1, none⟩ rfl (fun W hW => Rg.run_loadSl _ _ Try.underlying22 (G'.out.below hW).2.2.1)) (hS _ _ hI) ?_
      go_frame
      refine Rg.Any.takeG (i := 6) (t := 11) (v := .int .i64 (gn : Int)) (some 36) rfl rfl (by kernel_rfl) (by kernel_rfl) (by kernel_rfl) (fun _ _ _ h => h) rfl (Rg.yields_len _ rfl _ _ rfl Try.underlying22 ga gn gc rfl) (hS _ _ hI) ?_
      go_frame
      refine Rg.Any.takeG (i := 7) (t := 11) (v := .int .i64 (2 * (gn : Int))) (some 37) rfl rfl (by kernel_rfl) (by kernel_rfl) (by kernel_rfl) (fun _ _ _ h => h) rfl (.inl ⟨rfl, fun w _ => exec_bin .mul _ _ _ rfl rfl rfl (b_mul _ rfl (by omega))⟩) (hS _ _ hI) ?_
      go_frame
      refine Rg.Any.one (i := 8) (by kernel_rfl) (Rg.Any.ask (some 38) rfl rfl rfl _ _ (exec_fn 28 _ _ _ rfl rfl rfl (clPick _ _)) ?_)
      refine (Pick_any l (2 * (gn : Int)) V (by omega) (by omega)).mono ?_
      have hpin := pickV_in l (2 * (gn : Int)) (by omega)
      generalize pickV l (2 * (gn : Int)) = pk at *
      rintro e V2 ⟨rfl, hI2⟩
      refine ⟨_, rfl, hS _ _ hI2, ?_⟩
      go_frame
      obtain ⟨q, hq⟩ : ∃ q, Hid (q = pk.tdiv 2) := ⟨_, Lib.hid rfl⟩
      have hqe : pk.tdiv 2 = pk / 2 := Int.tdiv_eq_ediv_of_nonneg hpin.1
      have hq1 : 0 ≤ q := by rw [hq.out, hqe]; omega
      have hq2 : q < (gn : Int) := by rw [hq.out, hqe]; omega
      refine Rg.Any.one (i := 9) (by kernel_rfl) (Rg.Any.run (some 39) rfl rfl rfl (exec_bin (R := .int .i64 q) .quo _ _ _ rfl rfl rfl (b_quo _ (by decide) hq.out.symm (by omega))) (hS _ _ hI2) ?_)
      go_frame
      refine Rg.Any.one (i := 10) (by kernel_rfl) (Rg.Any.run (some 40) rfl rfl rfl (exec_bin (R := .int .i64 (1 + q)) .add _ _ _ rfl rfl rfl (b_add _ rfl (by omega))) (hS _ _ hI2) ?_)
      go_frame
      refine Rg.Any.one (i := 11) (by kernel_rfl) (Rg.Any.run (some 9) rfl rfl rfl (Rg.exec_assign (v := .int .i64 (1 + q)) _ rfl rfl) (hS _ _ hI2) ?_)
      go_frame
      refine Rg.Any.done (by kernel_rfl) ?_ _
      obtain ⟨⟨y1, hy1, hy1'⟩, ⟨y2, hy2, hy2'⟩⟩ := letter_of gs q hq1 (by rw [← HN.out]; exact hq2)
      have HY1 := Lib.hid (And.intro hy1 hy1')
      have HY2 := Lib.hid (And.intro hy2 hy2')
      obtain ⟨u, hul, hum, hrow0⟩ := HWD.out.below hI2
      have Hum := Lib.hid hum
      have hrow := Lib.hid hrow0
      have HB2 := Lib.hid (Rg.acc HBD.out hI2)
      have c0 := (hI2.cell (p := ⟨bl, ol + m, none⟩) L0'.out).trans C0'.out
      have Hul := Lib.hid hul
      obtain ⟨kk, hkk⟩ : ∃ kk, Hid (kk = 1 + q) := ⟨_, Lib.hid rfl⟩
      rw [← hkk.out]
      have hk1 : 0 ≤ kk := by rw [hkk.out]; omega
      have hk2 : kk ≤ 4 := by rw [hkk.out]; omega
      clear hI hI2 hS HBD HWD C0' L0' G' hpin hqe hy1 hy1' hy2 hy2' hum hrow0 hul hq hq1 hq2
      by_cases hodd : l.tmod 2 = 0
      · go_wp2_with (at_builtin; refine Rg.app1 rfl _ _ 40 rfl slWord hrow.out HB2.out (.int .i64 kk) (by simp [Value.oneCell']) rfl rfl (by omega) ?_; intro v' w1 hs1 hb1 _ _ _; have Hs1 := Lib.hid hs1; have Hb1 := Lib.hid hb1; clear hs1 hb1)
        go_roundw
        case rel =>
          refine ⟨m + 1, by omega, by omega, by go_num, Lib.hid ⟨u ++ [y1], by rw [List.length_append, Hul.out]; rfl, fun y hy => ?_, ?_⟩, Hb1⟩
          · rcases List.mem_append.1 hy with hy | hy
            · exact Hum.out y hy
            · obtain rfl : y = y1 := by simpa using hy
              exact HY1.out.1
          · have := Hs1.out
            rw [show ltrs (u ++ [y1]) = ltrs u ++ [kk] by simp [ltrs, HY1.out.2, hkk.out], List.map_append]
            exact this
        case measure => simp [intOf]; omega
      · go_wp2_with (at_builtin; refine Rg.app1 rfl _ _ 40 rfl slWord hrow.out HB2.out (.int .i64 (-kk)) (by simp [Value.oneCell']) rfl rfl (by omega) ?_; intro v' w1 hs1 hb1 _ _ _; have Hs1 := Lib.hid hs1; have Hb1 := Lib.hid hb1; clear hs1 hb1)
        go_roundw
        case rel =>
          refine ⟨m + 1, by omega, by omega, by go_num, Lib.hid ⟨u ++ [y2], by rw [List.length_append, Hul.out]; rfl, fun y hy => ?_, ?_⟩, Hb1⟩
          · rcases List.mem_append.1 hy with hy | hy
            · exact Hum.out y hy
            · obtain rfl : y = y2 := by simpa using hy
              exact HY2.out.1
          · have := Hs1.out
            rw [show ltrs (u ++ [y2]) = ltrs u ++ [-kk] by simp [ltrs, HY2.out.2, hkk.out], List.map_append]
            exact this
        case measure => simp [intOf]; omega

    · have hx : ¬ m < lt.length ∨ (m < lt.length ∧ ¬ m < 6) := by omega
      obtain ⟨u, hul, hum, hrow⟩ := hs.out
      have hwi : Rg.Ints wr u7 (ltrs u) := Rg.Ints.of_row hrow (by omega)
      obtain ⟨wa, wc, hwe, _⟩ := hwi.shape
      rw [len_ltrs, hul] at hwe
      subst hwe
      obtain ⟨v, hvl, hvm, hval, hsol, hnone, haft⟩ := words_law (D := D) (gs := gs) hum
      have hXg := vl_Gd HGG.out (Gd.one D) hum
      have G := Lib.hid (HG.out.below hbel.out)
      have K := Lib.hid (Rg.acc HB0.out hbel.out)
      have wI := Lib.hid hwi
      have HUM := Lib.hid hum
      have HVM := Lib.hid hvm
      have HVAL := Lib.hid hval
      have HSOL := Lib.hid hsol
      have HNONE := Lib.hid hnone
      have HAFT := Lib.hid haft
      have HXG := Lib.hid hXg
      have HUL := Lib.hid hul
      have HVL := Lib.hid hvl
      have hlen2 : v.length ≤ m := by omega
      have HB := Lib.hid (show ∀ x ∈ ltrs v ++ ltrs u, -1000 ≤ x ∧ x ≤ 1000 from fun x hx => by rcases List.mem_append.1 hx with hx | hx; exact lets_small gs hl3'.out HVM.out x hx; exact lets_small gs hl3'.out HUM.out x hx)
      clear hs hbel hwi hrow hum hvm hval hsol hnone haft hXg hul hvl hlt
      generalize hX : vl (Ma.oneN D) u = X at *
      have HX := Lib.hid hX
      clear hX
      rcases hx with hx | ⟨hx, hx2⟩
      all_goals
        go_upto_region 11 with (fail)
        refine wp_region_list ?_
        refine listW_run (some 53) rfl rfl (Rg.exec_load (v := .agg #[.int .i64 (D : Int), .slice ga gn gc]) _ _ rfl _ rfl G.out.load) ?_
        go_frame
        refine listW_run (some 54) rfl rfl (Rg.exec_move (v := .slice wa m wc) _ rfl rfl) ?_
        go_frame
        refine listW_ask (some 55) rfl rfl _ _ (exec_fn 29 _ _ _ rfl rfl rfl (clValue _ _)) ?_
        refine (value_any (.slice ga gn gc) (.slice wa m wc) D gs u wr G.out.2.2.2 wI.out HGG.out hD1 hD2 (by have := hl3'.out; omega) HUM.out (by rw [HUL.out]; omega)).mono ?_
        rintro e w1 ⟨xv, rfl, hxv, hb⟩
        refine ⟨_, rfl, ?_⟩
        go_frame
        rw [HX.out] at hxv
        have xI := Lib.hid hxv.1
        clear hxv
        replace G := Lib.hid (G.out.below hb)
        replace K := Lib.hid (Rg.acc K.out hb)
        replace wI := Lib.hid (Rg.Ints.below wI.out hb)
        clear hb
        refine listW_run (some 10) rfl rfl (Rg.exec_assign (v := xv) _ rfl rfl) ?_
        go_frame
        go_upto_region 12 with (fail)
        refine wp_region_list ?_
        refine listW_run (some 57) rfl rfl (Rg.exec_load (v := .agg #[.int .i64 (D : Int), .slice ga gn gc]) _ _ rfl _ rfl G.out.load) ?_
        go_frame
        refine listW_run (some 58) rfl rfl (Rg.exec_move (v := xv) _ rfl rfl) ?_
        go_frame
        refine listW_run (some 59) rfl rfl (Rg.exec_move (v := .slice wa m wc) _ rfl rfl) ?_
        go_frame
        refine listW_run (some 60) rfl rfl (exec_len _ _ _ rfl Try.underlying40 wa m wc rfl) ?_
        go_frame
        refine listW_ask (some 61) rfl rfl _ _ (exec_fn3 21 _ _ _ _ rfl rfl rfl rfl (clSolve _ _)) ?_
        refine (Solve_any (.slice ga gn gc) xv D (gs.map Ma.ofN) (Ma.ofN X) (m : Int) w1 G.out.2.2.2 xI.out).mono ?_
        rw [slv_words HZ.out HGG.out hD1 hD2 HXG.out (by omega), HSOL.out m (by omega)]
        rintro e w2 ⟨sv, rfl, svi, hb⟩
        refine ⟨_, rfl, ?_⟩
        go_frame
        replace G := Lib.hid (G.out.below hb)
        replace K := Lib.hid (Rg.acc K.out hb)
        replace wI := Lib.hid (Rg.Ints.below wI.out hb)
        replace xI := Lib.hid (Rg.NP.below xI.out hb)
        clear hb
        refine listW_run (some 56) rfl rfl (Rg.exec_move (v := .tuple #[sv, .int .i64 0]) _ rfl rfl) ?_
        go_frame
        refine listW_run (some 62) rfl rfl (exec_extract (v := sv) _ _ rfl rfl rfl) ?_
        go_frame
        refine listW_run (some 63) rfl rfl (exec_extract (v := .int .i64 0) _ _ rfl rfl rfl) ?_
        go_frame
        refine listW_run (some 11) rfl rfl (Rg.exec_assign (v := sv) _ rfl rfl) ?_
        go_frame
        refine listW_run (some 12) rfl rfl (Rg.exec_assign (v := .int .i64 0) _ rfl rfl) ?_
        go_frame
        have sI := Lib.hid (show Rg.Ints w2 sv (ltrs v) from svi)
        clear svi
        obtain ⟨sa, sc, hse, _⟩ := sI.out.shape
        rw [len_ltrs] at hse
        subst hse
        go_upto_region 13 with (fail)
        refine wp_region_list ?_
        refine listW_run (some 65) rfl rfl (Rg.exec_load (v := .agg #[.int .i64 (D : Int), .slice ga gn gc]) _ _ rfl _ rfl G.out.load) ?_
        go_frame
        refine listW_run (some 66) rfl rfl (Rg.exec_move (v := xv) _ rfl rfl) ?_
        go_frame
        refine listW_run (some 67) rfl rfl (Rg.exec_move (v := .slice wa m wc) _ rfl rfl) ?_
        go_frame
        refine listW_run (some 68) rfl rfl (exec_len _ _ _ rfl Try.underlying40 wa m wc rfl) ?_
        go_frame
        refine listW_run (some 69) rfl rfl (exec_bin (R := .int .i64 ((m + 1 : Nat) : Int)) .add _ _ _ rfl rfl rfl (b_add _ (by omega) (by omega))) ?_
        go_frame
        refine listW_run (some 70) rfl rfl ((exec_min (u := 10) (v := ((m + 1 : Nat) : Int)) _ _ _ rfl rfl rfl).trans (by rw [if_pos (by omega)])) ?_
        go_frame
        refine listW_ask (some 71) rfl rfl _ _ (exec_fn3 21 _ _ _ _ rfl rfl rfl rfl (clSolve _ _)) ?_
        refine (Solve_any (.slice ga gn gc) xv D (gs.map Ma.ofN) (Ma.ofN X) ((m + 1 : Nat) : Int) w2 G.out.2.2.2 xI.out).mono ?_
        rw [slv_words HZ.out HGG.out hD1 hD2 HXG.out (by omega), HSOL.out (m + 1) (by omega)]
        rintro e w3 ⟨su, rfl, sui, hb⟩
        refine ⟨_, rfl, ?_⟩
        go_frame
        replace G := Lib.hid (G.out.below hb)
        replace K := Lib.hid (Rg.acc K.out hb)
        replace wI := Lib.hid (Rg.Ints.below wI.out hb)
        replace xI := Lib.hid (Rg.NP.below xI.out hb)
        replace sI := Lib.hid (Rg.Ints.below sI.out hb)
        clear hb
        refine listW_run (some 64) rfl rfl (Rg.exec_move (v := .tuple #[su, .int .i64 0]) _ rfl rfl) ?_
        go_frame
        refine listW_run (some 72) rfl rfl (exec_extract (v := su) _ _ rfl rfl rfl) ?_
        go_frame
        refine listW_run (some 73) rfl rfl (exec_extract (v := .int .i64 0) _ _ rfl rfl rfl) ?_
        go_frame
        refine listW_run (some 13) rfl rfl (Rg.exec_assign (v := su) _ rfl rfl) ?_
        go_frame
        refine listW_run (some 14) rfl rfl (Rg.exec_assign (v := .int .i64 0) _ rfl rfl) ?_
        go_frame
        have uI := Lib.hid (show Rg.Ints w3 su (ltrs v) from sui)
        clear sui
        go_upto_region 14 with (fail)
        refine wp_region_list ?_
        refine listW_run (some 74) rfl rfl (Rg.exec_move (v := .int .i64 0) _ rfl rfl) ?_
        go_frame
        refine listW_run (some 75) rfl rfl (exec_bin (R := .bool false) .neq _ _ _ rfl rfl rfl (b_neq _ rfl)) ?_
        go_frame
        refine listW_run (some 76) rfl rfl (Rg.exec_move (v := .bool false) _ rfl rfl) ?_
        go_frame
        refine listW_run (some 77) rfl rfl (Rg.exec_move (v := .int .i64 0) _ rfl rfl) ?_
        go_frame
        refine listW_run (some 78) rfl rfl (exec_bin (R := .bool false) .neq _ _ _ rfl rfl rfl (b_neq _ rfl)) ?_
        go_frame
        refine listW_run (some 79) rfl rfl (exec_pickF (v := .bool false) _ _ _ rfl rfl rfl) ?_
        go_frame
        refine listW_run (some 80) rfl rfl (Rg.exec_move (v := .bool false) _ rfl rfl) ?_
        go_frame
        refine listW_run (some 81) rfl rfl (Rg.exec_move (v := su) _ rfl rfl) ?_
        go_frame
        refine listW_run (some 82) rfl rfl (Rg.exec_move (v := .slice sa v.length sc) _ rfl rfl) ?_
        go_frame
        refine listW_ask (some 83) rfl rfl _ _ (exec_fn 12 _ _ _ rfl rfl rfl (cl7 _ _)) ?_
        refine (Same_any uI.out sI.out (selfT _) (Below.refl _ w3)).mono ?_
        rintro e w4 ⟨rfl, hb⟩
        refine ⟨_, rfl, ?_⟩
        go_frame
        replace G := Lib.hid (G.out.below hb)
        replace K := Lib.hid (Rg.acc K.out hb)
        replace wI := Lib.hid (Rg.Ints.below wI.out hb)
        replace xI := Lib.hid (Rg.NP.below xI.out hb)
        replace sI := Lib.hid (Rg.Ints.below sI.out hb)
        clear hb
        clear uI
        refine listW_run (some 84) rfl rfl (exec_not _ _ true rfl rfl) ?_
        go_frame
        refine listW_run (some 85) rfl rfl (exec_pickF (v := .bool false) _ _ _ rfl rfl rfl) ?_
        go_frame
        refine listW_run (some 86) rfl rfl (Rg.exec_move (v := .bool false) _ rfl rfl) ?_
        go_frame
        refine listW_run (some 87) rfl rfl (Rg.exec_load (v := .agg #[.int .i64 (D : Int), .slice ga gn gc]) _ _ rfl _ rfl G.out.load) ?_
        go_frame
        refine listW_run (some 88) rfl rfl (Rg.exec_move (v := .slice sa v.length sc) _ rfl rfl) ?_
        go_frame
        refine listW_ask (some 89) rfl rfl _ _ (exec_fn 29 _ _ _ rfl rfl rfl (clValue _ _)) ?_
        refine (value_any (.slice ga gn gc) (.slice sa v.length sc) D gs v w4 G.out.2.2.2 sI.out HGG.out hD1 hD2 (by have := hl3'.out; omega) HVM.out (by omega)).mono ?_
        rintro e w5 ⟨xw, rfl, hxw, hb⟩
        refine ⟨_, rfl, ?_⟩
        go_frame
        rw [HVAL.out] at hxw
        have yI := Lib.hid hxw.1
        clear hxw
        replace G := Lib.hid (G.out.below hb)
        replace K := Lib.hid (Rg.acc K.out hb)
        replace wI := Lib.hid (Rg.Ints.below wI.out hb)
        replace xI := Lib.hid (Rg.NP.below xI.out hb)
        replace sI := Lib.hid (Rg.Ints.below sI.out hb)
        clear hb
        refine listW_run (some 90) rfl rfl (Rg.exec_move (v := xv) _ rfl rfl) ?_
        go_frame
        refine listW_ask (some 91) rfl rfl _ _ (exec_fn 12 _ _ _ rfl rfl rfl (cl7 _ _)) ?_
        refine (Same_any yI.out xI.out (selfT _) (Below.refl _ w5)).mono ?_
        rintro e w6 ⟨rfl, hb⟩
        refine ⟨_, rfl, ?_⟩
        go_frame
        replace G := Lib.hid (G.out.below hb)
        replace K := Lib.hid (Rg.acc K.out hb)
        replace wI := Lib.hid (Rg.Ints.below wI.out hb)
        replace xI := Lib.hid (Rg.NP.below xI.out hb)
        replace sI := Lib.hid (Rg.Ints.below sI.out hb)
        clear hb
        clear yI
        refine listW_run (some 92) rfl rfl (exec_not _ _ true rfl rfl) ?_
        go_frame
        refine listW_run (some 93) rfl rfl (exec_pickF (v := .bool false) _ _ _ rfl rfl rfl) ?_
        go_frame
        refine listW_run (some 94) rfl rfl (Rg.exec_move (v := .bool false) _ rfl rfl) ?_
        go_frame
        refine listW_run (some 95) rfl rfl (Rg.exec_move (v := .slice sa v.length sc) _ rfl rfl) ?_
        go_frame
        refine listW_run (some 96) rfl rfl (exec_len _ _ _ rfl Try.underlying40 sa v.length sc rfl) ?_
        go_frame
        refine listW_run (some 97) rfl rfl (Rg.exec_move (v := .slice wa m wc) _ rfl rfl) ?_
        go_frame
        refine listW_run (some 98) rfl rfl (exec_len _ _ _ rfl Try.underlying40 wa m wc rfl) ?_
        go_frame
        refine listW_run (some 99) rfl rfl (exec_bin (R := .bool false) .gtr _ _ _ rfl rfl rfl (b_gtr _ (by rw [decide_eq_false_iff_not]; omega))) ?_
        go_frame
        refine listW_run (some 100) rfl rfl (exec_pickF (v := .bool false) _ _ _ rfl rfl rfl) ?_
        go_frame
        refine listW_run (some 101) rfl rfl (Rg.exec_move (v := .bool false) _ rfl rfl) ?_
        go_frame
        refine listW_run (some 102) rfl rfl (Rg.exec_move (v := .slice sa v.length sc) _ rfl rfl) ?_
        go_frame
        refine listW_run (some 103) rfl rfl (exec_len _ _ _ rfl Try.underlying40 sa v.length sc rfl) ?_
        go_frame
        refine listW_run (some 104) rfl rfl (Rg.exec_move (v := .slice wa m wc) _ rfl rfl) ?_
        go_frame
        refine listW_run (some 105) rfl rfl (exec_len _ _ _ rfl Try.underlying40 wa m wc rfl) ?_
        go_frame
        by_cases heq : v.length = m
        · refine listW_run (some 106) rfl rfl (exec_bin (R := .bool true) .eql _ _ _ rfl rfl rfl (b_eql _ (by rw [decide_eq_true_iff]; omega))) ?_
          go_frame
          refine listW_run (some 107) rfl rfl (Rg.exec_move (v := .bool true) _ rfl rfl) ?_
          go_frame
          refine listW_run (some 108) rfl rfl (Rg.exec_move (v := .slice sa v.length sc) _ rfl rfl) ?_
          go_frame
          refine listW_run (some 109) rfl rfl (Rg.exec_move (v := .slice wa m wc) _ rfl rfl) ?_
          go_frame
          refine listW_ask (some 110) rfl rfl _ _ (exec_fn 30 _ _ _ rfl rfl rfl (clAfter _ _)) ?_
          refine (after_any (.slice sa v.length sc) (.slice wa m wc) (ltrs v) (ltrs u) w6 sI.out wI.out (by rw [len_ltrs, len_ltrs, HUL.out]; exact heq) (by rw [len_ltrs]; omega) HB.out).mono ?_
          rw [HAFT.out (by rw [HUL.out]; exact heq)]
          rintro e w7 ⟨rfl, hb⟩
          refine ⟨_, rfl, ?_⟩
          go_frame
          replace G := Lib.hid (G.out.below hb)
          replace K := Lib.hid (Rg.acc K.out hb)
          replace wI := Lib.hid (Rg.Ints.below wI.out hb)
          replace xI := Lib.hid (Rg.NP.below xI.out hb)
          replace sI := Lib.hid (Rg.Ints.below sI.out hb)
          clear hb
          refine listW_run (some 111) rfl rfl (exec_pickT (v := .bool false) _ _ _ rfl rfl rfl) ?_
          go_frame
          refine listW_run (some 112) rfl rfl (exec_pickF (v := .bool false) _ _ _ rfl rfl rfl) ?_
          go_frame
          by_cases hpos : 0 < v.length
          · go_upto_region 16 with (fail)
            refine wp_region_list ?_
            refine listW_run (some 113) rfl rfl (Rg.exec_move (v := .slice sa v.length sc) _ rfl rfl) ?_
            go_frame
            refine listW_run (some 114) rfl rfl (exec_len _ _ _ rfl Try.underlying40 sa v.length sc rfl) ?_
            go_frame
            refine listW_run (some 115) rfl rfl (exec_bin (R := .bool true) .gtr _ _ _ rfl rfl rfl (b_gtr _ (by rw [decide_eq_true_iff]; omega))) ?_
            go_frame
            go_upto_region 17 with (fail)
            refine wp_region_list ?_
            refine listW_run (some 117) rfl rfl (Rg.exec_load (v := .agg #[.int .i64 (D : Int), .slice ga gn gc]) _ _ rfl _ rfl G.out.load) ?_
            go_frame
            refine listW_run (some 118) rfl rfl (Rg.exec_move (v := xv) _ rfl rfl) ?_
            go_frame
            refine listW_run (some 119) rfl rfl (Rg.exec_move (v := .slice sa v.length sc) _ rfl rfl) ?_
            go_frame
            refine listW_run (some 120) rfl rfl (exec_len _ _ _ rfl Try.underlying40 sa v.length sc rfl) ?_
            go_frame
            refine listW_run (some 121) rfl rfl (exec_bin (R := .int .i64 ((v.length - 1 : Nat) : Int)) .sub _ _ _ rfl rfl rfl (b_sub _ (by omega) (by omega))) ?_
            go_frame
            refine listW_ask (some 122) rfl rfl _ _ (exec_fn3 21 _ _ _ _ rfl rfl rfl rfl (clSolve _ _)) ?_
            refine (Solve_any (.slice ga gn gc) xv D (gs.map Ma.ofN) (Ma.ofN X) ((v.length - 1 : Nat) : Int) w7 G.out.2.2.2 xI.out).mono ?_
            rw [slv_words HZ.out HGG.out hD1 hD2 HXG.out (by omega), HNONE.out hpos]
            rintro e w8 ⟨st, rfl, sti, hb⟩
            refine ⟨_, rfl, ?_⟩
            go_frame
            replace K := Lib.hid (Rg.acc K.out hb)
            clear hb
            refine listW_run (some 116) rfl rfl (Rg.exec_move (v := .tuple #[st, .int .i64 18]) _ rfl rfl) ?_
            go_frame
            refine listW_run (some 123) rfl rfl (exec_extract (v := st) _ _ rfl rfl rfl) ?_
            go_frame
            refine listW_run (some 124) rfl rfl (exec_extract (v := .int .i64 18) _ _ rfl rfl rfl) ?_
            go_frame
            refine listW_run (some 15) rfl rfl (Rg.exec_assign (v := st) _ rfl rfl) ?_
            go_frame
            refine listW_run (some 16) rfl rfl (Rg.exec_assign (v := .int .i64 18) _ rfl rfl) ?_
            go_frame
            clear sti
            go_wp2
            go_ret
            exact ⟨rfl, K.out⟩
          · go_upto_region 16 with (fail)
            refine wp_region_list ?_
            refine listW_run (some 113) rfl rfl (Rg.exec_move (v := .slice sa v.length sc) _ rfl rfl) ?_
            go_frame
            refine listW_run (some 114) rfl rfl (exec_len _ _ _ rfl Try.underlying40 sa v.length sc rfl) ?_
            go_frame
            refine listW_run (some 115) rfl rfl (exec_bin (R := .bool false) .gtr _ _ _ rfl rfl rfl (b_gtr _ (by rw [decide_eq_false_iff_not]; omega))) ?_
            go_frame
            go_wp2
            go_ret
            exact ⟨rfl, K.out⟩
        · refine listW_run (some 106) rfl rfl (exec_bin (R := .bool false) .eql _ _ _ rfl rfl rfl (b_eql _ (by rw [decide_eq_false_iff_not]; omega))) ?_
          go_frame
          refine listW_run (some 107) rfl rfl (Rg.exec_move (v := .bool false) _ rfl rfl) ?_
          go_frame
          refine listW_pass (some 108) rfl rfl ?_
          go_frame
          refine listW_pass (some 109) rfl rfl ?_
          go_frame
          refine listW_pass (some 110) rfl rfl ?_
          go_frame
          refine listW_run (some 111) rfl rfl (exec_pickF (v := .bool false) _ _ _ rfl rfl rfl) ?_
          go_frame
          refine listW_run (some 112) rfl rfl (exec_pickF (v := .bool false) _ _ _ rfl rfl rfl) ?_
          go_frame
          by_cases hpos : 0 < v.length
          · go_upto_region 16 with (fail)
            refine wp_region_list ?_
            refine listW_run (some 113) rfl rfl (Rg.exec_move (v := .slice sa v.length sc) _ rfl rfl) ?_
            go_frame
            refine listW_run (some 114) rfl rfl (exec_len _ _ _ rfl Try.underlying40 sa v.length sc rfl) ?_
            go_frame
            refine listW_run (some 115) rfl rfl (exec_bin (R := .bool true) .gtr _ _ _ rfl rfl rfl (b_gtr _ (by rw [decide_eq_true_iff]; omega))) ?_
            go_frame
            go_upto_region 17 with (fail)
            refine wp_region_list ?_
            refine listW_run (some 117) rfl rfl (Rg.exec_load (v := .agg #[.int .i64 (D : Int), .slice ga gn gc]) _ _ rfl _ rfl G.out.load) ?_
            go_frame
            refine listW_run (some 118) rfl rfl (Rg.exec_move (v := xv) _ rfl rfl) ?_
            go_frame
            refine listW_run (some 119) rfl rfl (Rg.exec_move (v := .slice sa v.length sc) _ rfl rfl) ?_
            go_frame
            refine listW_run (some 120) rfl rfl (exec_len _ _ _ rfl Try.underlying40 sa v.length sc rfl) ?_
            go_frame
            refine listW_run (some 121) rfl rfl (exec_bin (R := .int .i64 ((v.length - 1 : Nat) : Int)) .sub _ _ _ rfl rfl rfl (b_sub _ (by omega) (by omega))) ?_
            go_frame
            refine listW_ask (some 122) rfl rfl _ _ (exec_fn3 21 _ _ _ _ rfl rfl rfl rfl (clSolve _ _)) ?_
            refine (Solve_any (.slice ga gn gc) xv D (gs.map Ma.ofN) (Ma.ofN X) ((v.length - 1 : Nat) : Int) w6 G.out.2.2.2 xI.out).mono ?_
            rw [slv_words HZ.out HGG.out hD1 hD2 HXG.out (by omega), HNONE.out hpos]
            rintro e w8 ⟨st, rfl, sti, hb⟩
            refine ⟨_, rfl, ?_⟩
            go_frame
            replace K := Lib.hid (Rg.acc K.out hb)
            clear hb
            refine listW_run (some 116) rfl rfl (Rg.exec_move (v := .tuple #[st, .int .i64 18]) _ rfl rfl) ?_
            go_frame
            refine listW_run (some 123) rfl rfl (exec_extract (v := st) _ _ rfl rfl rfl) ?_
            go_frame
            refine listW_run (some 124) rfl rfl (exec_extract (v := .int .i64 18) _ _ rfl rfl rfl) ?_
            go_frame
            refine listW_run (some 15) rfl rfl (Rg.exec_assign (v := st) _ rfl rfl) ?_
            go_frame
            refine listW_run (some 16) rfl rfl (Rg.exec_assign (v := .int .i64 18) _ rfl rfl) ?_
            go_frame
            clear sti
            go_wp2
            go_ret
            exact ⟨rfl, K.out⟩
          · go_upto_region 16 with (fail)
            refine wp_region_list ?_
            refine listW_run (some 113) rfl rfl (Rg.exec_move (v := .slice sa v.length sc) _ rfl rfl) ?_
            go_frame
            refine listW_run (some 114) rfl rfl (exec_len _ _ _ rfl Try.underlying40 sa v.length sc rfl) ?_
            go_frame
            refine listW_run (some 115) rfl rfl (exec_bin (R := .bool false) .gtr _ _ _ rfl rfl rfl (b_gtr _ (by rw [decide_eq_false_iff_not]; omega))) ?_
            go_frame
            go_wp2
            go_ret
            exact ⟨rfl, K.out⟩
end Go.Proofs.Ytjifdmfoijoekaa

