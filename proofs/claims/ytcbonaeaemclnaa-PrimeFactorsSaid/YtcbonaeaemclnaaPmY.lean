/- Lemmas and contracts on the way to the statement; no condition of their own beyond those written. -/
import Derived.Test.YtcbonaeaemclnaaPmX
import Derived.StillTailTactics
namespace Go.Proofs.Ytcbonaeaemclnaa
open Go.RowKit
open Go.Proofs
attribute [local irreducible] Go.Calls Go.wpStill

theorem run_eq33 (k : Nat) (a b c d : Int) (W : World) : (Op.equalIn (k + 1 + 1) 33 (.agg #[.int .i64 a, .int .i64 b]) (.agg #[.int .i64 c, .int .i64 d])).run Try.prog W = .ok (a == c && b == d) W := by
  have h1 : ∀ (x y : Int) (w : World), (Op.equalIn (k + 1) 3 (.int .i64 x) (.int .i64 y)).run Try.prog w = .ok (x == y) w := fun x y w => run_equalIn_int w k 3 .i64 .i64 x y Try.underlying3
  have h2 : ∀ w, (sizeOf 3).run Try.prog w = .ok 1 w := fun w => by kernel_rfl
  have p0 : ∀ (x y : Int) w, (part 3 #[.int .i64 x, .int .i64 y] (0 * 1)).run Try.prog w = .ok (.int .i64 x) w := fun x y w => by kernel_rfl
  have p1 : ∀ (x y : Int) w, (part 3 #[.int .i64 x, .int .i64 y] ((0 + 1) * 1)).run Try.prog w = .ok (.int .i64 y) w := fun x y w => by kernel_rfl
  rw [Op.equalIn, Sem.run_bind, run_underlying Try.underlying33]
  simp only [Result.andThen_ok]
  rw [Sem.run_bind, h2]
  simp only [Result.andThen_ok, Std.Legacy.Range.forIn_eq_forIn_range', Std.Legacy.Range.size, List.range', List.forIn_cons, List.forIn_nil]
  simp only [Sem.run_bind, p0, h1, Result.andThen_ok]
  cases (a == c)
  · simp [Sem.run_pure, Result.andThen]
  · by_cases e : b = d <;> simp [Sem.run_bind, Sem.run_pure, Result.andThen, p1, h1, e]
theorem run_eq33' (a b c d : Int) (W : World) : (Op.equalIn 10000 33 (.agg #[.int .i64 a, .int .i64 b]) (.agg #[.int .i64 c, .int .i64 d])).run Try.prog W = .ok (a == c && b == d) W := run_eq33 9998 a b c d W
theorem run_neq33 (a b c d : Int) (W : World) : (binOp .neq 33 (.agg #[.int .i64 a, .int .i64 b]) (.agg #[.int .i64 c, .int .i64 d])).run Try.prog W = .ok (.bool (!(a == c && b == d))) W := by
  rw [run_neq_struct, show (10000 : Nat) = 9998 + 1 + 1 from rfl, run_eq33]; rfl
theorem run_load33 (b o : Nat) (x y : Value) (W : World) (h0 : W.cell? ⟨b, o, none⟩ = some x) (h1 : W.cell? ⟨b, o + 1, none⟩ = some y) : (loadVar 33 ⟨b, o, none⟩).run Try.prog W = .ok (.agg #[x, y]) W := by
  have hl : (loadCells ⟨b, o, none⟩ 2).run Try.prog W = .ok #[x, y] W :=
    run_loadCells_list (P := Try.prog) W ⟨b, o, none⟩ [x, y] (fun j v hv => by
      match j, hv with
      | 0, hv => simp at hv; subst hv; exact h0
      | 1, hv => simp at hv; subst hv; exact h1)
  have ha : (isAgg 33).run Try.prog W = .ok true W := by kernel_rfl
  simp [loadVar, Sem.run_bind, ha, hl]
theorem still_load {P : Program} {ops : Array Oper} {Q : Act → Prop} {rest : List Oper} {o : Oper} {a : Act} {w : World} (t : TypeId) (x : Operand) (hg : o.guard = none) (ho : o.op = .load t x)
    (ad : Addr) (hx : a.eval x = .pointer (some ad)) (v : Value) (hr : (loadVar t ad).run P w = .ok v w) (h : wpStill P ops w Q rest (a.put o.dst v)) : wpStill P ops w Q (o :: rest) a := by
  refine wpStill_step (fun K hK => ?_)
  rw [if_pos (by simp [Region.wanted, hg])]
  unfold Oper.still execOp
  simp only [ho, hx, Instr.loadAt, Instr.sureAddr, Sem.run_bind, Sem.run_pure, Result.andThen_ok, hr, Oper.stillUpon]
  exact ⟨trivial, hK _ h⟩

theorem PairsAt.shape {w : World} {v : Value} {l : List (Nat × Nat)} (h : PairsAt w v l) : ∃ a cap, v = .slice a l.length cap ∧ l.length ≤ cap ∧ l.length ≤ 1000000000 ∧
    (0 < l.length → ∃ b, a = some ⟨b, 0, none⟩ ∧ ∀ i (h : i < l.length), w.cell? ⟨b, i * 2, none⟩ = some (.int .i64 ((l[i].1 : Nat) : Int)) ∧ w.cell? ⟨b, i * 2 + 1, none⟩ = some (.int .i64 ((l[i].2 : Nat) : Int))) := by
  rcases h with ⟨rfl, rfl⟩ | ⟨b, cap, e, h1, h2, h4, h3⟩
  · exact ⟨none, 0, rfl, by simp, by simp, fun h => by simp at h⟩
  · exact ⟨_, cap, e, h2, h4, fun _ => ⟨b, rfl, h3⟩⟩

theorem below_drewN' (w : World) (k : Nat) : Below w.heap.size w (w.drewN k) := ⟨rfl, rfl, rfl, Nat.le_refl _, fun _ _ => rfl⟩

set_option maxHeartbeats 1000000 in
theorem Same_any (v1 v2 : Value) (l1 l2 : List (Nat × Nat)) (w : World) (h1 : PairsAt w v1 l1) (h2 : PairsAt w v2 l2) :
    Calls Try.prog 20 #[v1, v2] w fun e w' => e = .returned (.bool (decide (l1 = l2))) ∧ Below w.heap.size w w' := by
  obtain ⟨a1, c1, rfl, n1, m1, k1⟩ := h1.shape
  obtain ⟨a2, c2, rfl, n2, m2, k2⟩ := h2.shape
  clear h1 h2
  have K1 := Lib.hid k1
  have K2 := Lib.hid k2
  clear k1 k2
  by_cases hl : l1.length = l2.length
  · have hb : ((l1.length : Int) != (l2.length : Int)) = false := by rw [hl]; simp
    have hb2 : ((l1.length : Int) == (l2.length : Int)) = true := by rw [hl]; simp
    have Hl := Lib.hid hl
    clear hl
    go_enter Try.func20, Try.ntmps20
    go_wp2
    clear hb hb2
    go_loopw [5] (fun v wr => ∃ i : Nat, v = .int .i64 i ∧ i ≤ l1.length ∧ (∃ k, wr = w.drewN k) ∧ Hid (l1.take i = l2.take i)) (fun v _ => l1.length - (intOf v).toNat)
    case atStart => exact ⟨0, rfl, by omega, ⟨0, rfl⟩, by show _ = _; simp⟩
    case round =>
      obtain ⟨i, rfl, hi, ⟨k, rfl⟩, hs⟩ := hrel
      by_cases hlt : (i : Int) < (l1.length : Int)
      · have hi1 : i < l1.length := by omega
        have hi2 : i < l2.length := by have := Hl.out; omega
        obtain ⟨b1, rfl, d1⟩ := K1.out (by omega)
        obtain ⟨b2, rfl, d2⟩ := K2.out (by omega)
        obtain ⟨x1, y1⟩ := d1 i hi1
        obtain ⟨x2, y2⟩ := d2 i hi2
        clear d1 d2
        have hmix : Try.prog.follows .mixedOrders = true := by kernel_rfl
        go_wp2_with fail
        refine wp_region_still_lit hmix (by kernel_rfl) ?_
        have z1 : World.cell? (World.drew (w.drewN k)) ⟨b1, i * 2, none⟩ = _ := x1
        have z2 : World.cell? (World.drew (w.drewN k)) ⟨b1, i * 2 + 1, none⟩ = _ := y1
        have z3 : World.cell? (World.drew (w.drewN k)) ⟨b2, i * 2, none⟩ = _ := x2
        have z4 : World.cell? (World.drew (w.drewN k)) ⟨b2, i * 2 + 1, none⟩ = _ := y2
        change wpStill _ _ (World.drew (w.drewN k)) _ _ _
        generalize hWk : World.drew (w.drewN k) = Wk at *
        clear x1 y1 x2 y2
        iterate 3 still_step
        refine still_load 33 (.tmp 19) rfl rfl ⟨b1, i * 2, none⟩ rfl _ (run_load33 b1 (i * 2) _ _ Wk z1 z2) ?_
        iterate 3 still_step
        refine still_load 33 (.tmp 23) rfl rfl ⟨b2, i * 2, none⟩ rfl _ (run_load33 b2 (i * 2) _ _ Wk z3 z4) ?_
        have heq := run_eq33' ((l1[i].1 : Nat) : Int) ((l1[i].2 : Nat) : Int) ((l2[i].1 : Nat) : Int) ((l2[i].2 : Nat) : Int) Wk
        by_cases he : l1[i] = l2[i]
        · have e0 : (((l1[i].1 : Nat) : Int) == ((l2[i].1 : Nat) : Int) && ((l1[i].2 : Nat) : Int) == ((l2[i].2 : Nat) : Int)) = true := by rw [he]; simp
          rw [e0] at heq
          have He := Lib.hid he
          clear he e0
          still_step
          refine wpStill_nil ?_
          show Exit.then _ _ Exit.normal _ (World.drew (w.drewN k))
          clear heq z1 z2 z3 z4 hWk
          go_wp2
          refine ⟨⟨i + 1, by go_num, by omega, ⟨k + 1, rfl⟩, ?_⟩, by simp [intOf]; omega⟩
          show _ = _
          rw [List.take_succ_eq_append_getElem hi1, List.take_succ_eq_append_getElem hi2, hs.out, He.out]
        · have e0 : (((l1[i].1 : Nat) : Int) == ((l2[i].1 : Nat) : Int) && ((l1[i].2 : Nat) : Int) == ((l2[i].2 : Nat) : Int)) = false := by
            rw [Bool.and_eq_false_iff]
            by_cases ea : l1[i].1 = l2[i].1
            · right; rw [beq_eq_false_iff_ne]; intro hc; exact he (Prod.ext ea (by omega))
            · left; rw [beq_eq_false_iff_ne]; omega
          rw [e0] at heq
          have hne : decide (l1 = l2) = false := by
            rw [decide_eq_false_iff_not]; intro hc; subst hc; exact he rfl
          have Hne := Lib.hid hne
          clear he e0 hne
          still_step
          refine wpStill_nil ?_
          show Exit.then _ _ Exit.normal _ (World.drew (w.drewN k))
          clear heq z1 z2 z3 z4 hWk
          go_wp2
          go_ret
          exact ⟨by rw [Hne.out] <;> rfl, below_drewN' w (k + 1)⟩
      · have hle : ¬ ((i : Int) < (l1.length : Int)) := hlt
        have htrue : decide (l1 = l2) = true := by
          rw [decide_eq_true_eq]
          have h1 := hs.out
          rw [List.take_of_length_le (by omega), List.take_of_length_le (by have := Hl.out; omega)] at h1
          exact h1
        have Ht := Lib.hid htrue
        clear htrue
        go_wp2
        go_ret
        exact ⟨by rw [Ht.out] <;> rfl, below_drewN' w k⟩
  · have hb : ((l1.length : Int) != (l2.length : Int)) = true := by rw [bne_iff_ne]; omega
    have hb2 : ((l1.length : Int) == (l2.length : Int)) = false := by rw [beq_eq_false_iff_ne]; omega
    have hne : decide (l1 = l2) = false := by
      rw [decide_eq_false_iff_not]; intro hc; subst hc; exact hl rfl
    have Hne := Lib.hid hne
    clear hl hne
    go_enter Try.func20, Try.ntmps20
    go_wp2
    go_ret
    exact ⟨by rw [Hne.out] <;> rfl, Below.refl _ _⟩
end Go.Proofs.Ytcbonaeaemclnaa
