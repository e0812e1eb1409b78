/- Lemmas and contracts on the way to the statement; no condition of their own beyond those written. -/
import Derived.Test.YtjifdmfoijoekaaXSjSoSpSqSrSsStSuSvSwSxSySzTaTbTc
import Derived.Test.YtjifdmfoijoekaaXSm
import Derived.Test.YtjifdmfoijoekaaXSkSl
set_option linter.unusedVariables false
/-! Groups kept in the law's own cells. -/
namespace Go.Proofs.Ytjifdmfoijoekaa
open Go.RowKit
open Go.Proofs
open Go.Proofs.Ytjifdmfoijoekaa.Rj
attribute [local irreducible] Go.Calls

/-- a constructor's answer, with its error -/
def GPostE (d : Int) (ll : List (List Int)) (er : Int) (w : World) (e : Ending) (w' : World) : Prop :=
  ∃ a n c, e = .returned (.tuple #[.agg #[.int .i64 d, .slice a n c], .int .i64 er]) ∧ Rg.Rows w' (.slice a n c) ll ∧ Below w.heap.size w w'
theorem gpostE {f : FuncId} {args : Array Value} {d : Int} {ll : List (List Int)} {w : World} (h : Calls Try.prog f args w (GroupPost d ll w)) : Calls Try.prog f args w (GPostE d ll (if d = 0 then 2 else 0) w) :=
  h.mono fun _ _ ⟨a, n, c, h1, h2, h3⟩ => ⟨a, n, c, h1, h2.rows, h3⟩
/-- a group in two cells -/
def GrpAt (w : World) (b : Nat) (d : Int) (a : Option Addr) (n c : Nat) (ll : List (List Int)) : Prop :=
  b < w.heap.size ∧ w.cell? ⟨b, 0, none⟩ = some (.int .i64 d) ∧ w.cell? ⟨b, 1, none⟩ = some (.slice a n c) ∧ Rg.Rows w (.slice a n c) ll
theorem GrpAt.below {w w' : World} {b : Nat} {d : Int} {a : Option Addr} {n c : Nat} {ll : List (List Int)} (h : GrpAt w b d a n c ll) (hb : Below w.heap.size w w') : GrpAt w' b d a n c ll :=
  ⟨Nat.lt_of_lt_of_le h.1 hb.size, (hb.cell (p := ⟨b, 0, none⟩) h.1).trans h.2.1, (hb.cell (p := ⟨b, 1, none⟩) h.1).trans h.2.2.1, h.2.2.2.below hb⟩
theorem GrpAt.load {w : World} {b : Nat} {d : Int} {a : Option Addr} {n c : Nat} {ll : List (List Int)} (h : GrpAt w b d a n c ll) : (loadVar 24 ⟨b, 0, none⟩).run Try.prog w = .ok (.agg #[.int .i64 d, .slice a n c]) w := run_loadG h.2.1 h.2.2.1
theorem grpNew {W : World} (d : Int) {a : Option Addr} {n c : Nat} {ll : List (List Int)} (h : Rg.Rows W (.slice a n c) ll) :
    (storeVar 24 ⟨W.heap.size, 0, none⟩ (.agg #[.int .i64 d, .slice a n c])).run Try.prog (W.alloc (.cells #[.int .i64 0, .slice none 0 0] 24)) = .ok () (((W.alloc (.cells #[.int .i64 0, .slice none 0 0] 24)).setCell ⟨W.heap.size, 0, none⟩ (.int .i64 d)).setCell ⟨W.heap.size, 1, none⟩ (.slice a n c)) ∧
    GrpAt (((W.alloc (.cells #[.int .i64 0, .slice none 0 0] 24)).setCell ⟨W.heap.size, 0, none⟩ (.int .i64 d)).setCell ⟨W.heap.size, 1, none⟩ (.slice a n c)) W.heap.size d a n c ll ∧
    Below W.heap.size W (((W.alloc (.cells #[.int .i64 0, .slice none 0 0] 24)).setCell ⟨W.heap.size, 0, none⟩ (.int .i64 d)).setCell ⟨W.heap.size, 1, none⟩ (.slice a n c)) := by
  have n0 : (W.alloc (.cells #[.int .i64 0, .slice none 0 0] 24)).cell? ⟨W.heap.size, 0, none⟩ = some (.int .i64 0) := by rw [Rg.cellNew]; rfl
  have n1 : (W.alloc (.cells #[.int .i64 0, .slice none 0 0] 24)).cell? ⟨W.heap.size, 1, none⟩ = some (.slice none 0 0) := by rw [Rg.cellNew]; rfl
  obtain ⟨p0, p1, p2⟩ := group_set (B := W.heap.size) (.int .i64 d) (.slice a n c) n0 n1 ((Below.refl _ _).alloc (Nat.le_refl _) _) (Nat.le_refl _)
  exact ⟨run_storeG d a n c n0 n1 (frozenNewN _ _ _ 0 _) (frozenNewN _ _ _ 0 _), ⟨by simp, p0, p1, h.below p2⟩, p2⟩

theorem listW_run {P : Program} {ops : Array Oper} {rest : List Oper} {o : Oper} {a : Act} {w w' : World} {Q : Exit → Act → World → Prop} {v : Value} (d : Option Tmp) (hw : Region.wanted o (yielded ops a.tmps) = true) (hd : o.dst = d)
    (hr : (execOp a.eval o).run P w = .ok (.value v) w') (h : wpList P ops Q rest (a.put d v) w') : wpList P ops Q (o :: rest) a w := by
  subst hd
  unfold wpList
  rw [if_pos hw]
  left
  unfold Oper.wp
  rw [hr]
  exact h
theorem listW_ask {P : Program} {ops : Array Oper} {rest : List Oper} {o : Oper} {a : Act} {w : World} {Q : Exit → Act → World → Prop} (d : Option Tmp) (hw : Region.wanted o (yielded ops a.tmps) = true) (hd : o.dst = d) (f : FuncId) (args : Array Value)
    (hr : (execOp a.eval o).run P w = .ok (.enter f args) w) (hc : Calls P f args w fun e w' => ∃ v, e = .returned v ∧ wpList P ops Q rest (a.put d v) w') : wpList P ops Q (o :: rest) a w := by
  subst hd
  unfold wpList
  rw [if_pos hw]
  left
  unfold Oper.wp
  rw [hr, Oper.upon_enter]
  refine hc.mono fun e w' ⟨v, h1, h2⟩ => ?_
  subst h1
  exact h2
theorem exec_eqI {o : Oper} {a : Act} {w : World} {u v : Int} (x y : Operand) (ho : o.op = .binOp .eql 28 x y 28) (hx : a.eval x = .int .i64 u) (hy : a.eval y = .int .i64 v) (h : u = v) : (execOp a.eval o).run Try.prog w = .ok (.value (.bool true)) w := by
  subst h
  have h : (binOp .eql 28 (.int .i64 u) (.int .i64 u)).run Try.prog w = .ok (.bool true) w := by
    simp [binOp, Op.intCmp]
  have hg : (eqGuard .eql 28 x y (.int .i64 u) (.int .i64 u)).run Try.prog w = .ok () w := by
    simp [eqGuard]
  unfold execOp
  simp only [ho, hx, hy, Sem.run_bind, Sem.run_pure, hg, h, Result.andThen_ok]
theorem sameG_self (d : Int) (ll : List (List Int)) : sameG d ll d ll = true := by simp [sameG]
theorem SameGroup_yes (v1 v2 : Value) (d : Int) (ll : List (List Int)) {w w0 : World} (h1 : Rg.Rows w v1 ll) (h2 : Rg.Rows w v2 ll) (hb : Below w0.heap.size w0 w) :
    Calls Try.prog 19 #[.agg #[.int .i64 d, v1], .agg #[.int .i64 d, v2]] w fun e w' => e = .returned (.bool true) ∧ Below w0.heap.size w0 w' := by
  have := SameGroup_any v1 v2 d d ll ll h1 h2 hb
  rwa [sameG_self] at this
theorem clRings' (args : Array Value) (w : World) : (callFunc 14 args).run Try.prog w = .ok (.enter 14 args) w := by kernel_rfl
theorem clSpin (args : Array Value) (w : World) : (callFunc 15 args).run Try.prog w = .ok (.enter 15 args) w := by kernel_rfl
theorem clSpin' (args : Array Value) (w : World) : (callFunc 16 args).run Try.prog w = .ok (.enter 16 args) w := by kernel_rfl
theorem clCakes (args : Array Value) (w : World) : (callFunc 17 args).run Try.prog w = .ok (.enter 17 args) w := by kernel_rfl
theorem clCakes' (args : Array Value) (w : World) : (callFunc 18 args).run Try.prog w = .ok (.enter 18 args) w := by kernel_rfl
theorem clAwake (args : Array Value) (w : World) : (callFunc 9 args).run Try.prog w = .ok (.enter 9 args) w := by kernel_rfl
end Go.Proofs.Ytjifdmfoijoekaa

/-! The law PuzzleMoves. -/
namespace Go.Proofs.Ytjifdmfoijoekaa
open Go.RowKit
open Go.Proofs
open Go.Proofs.Ytjifdmfoijoekaa.Rj
attribute [local irreducible] Go.Calls

set_option maxHeartbeats 2000000 in
theorem PuzzleMoves_any (a b k : Int) (w : World) :
    Calls Try.prog 4 #[.int .i64 a, .int .i64 b, .int .i64 k] w fun e w' => e = .returned (.bool true) ∧ Below w.heap.size w w' := by
  have q1 := fun W => gpostE (Rings_any a b k W)
  have q2 := fun W => gpostE (refRings_any a b k W)
  have q3 := fun W => gpostE (Spin_any a k W)
  have q4 := fun W => gpostE (refSpin_any a k W)
  have q5 := fun W => gpostE (Pancakes_any a W)
  have q6 := fun W => gpostE (refPancakes_any a W)
  generalize ringsR a b k = r1 at *
  generalize spinR a k = r2 at *
  generalize cakesR a = r3 at *
  obtain ⟨d1, l1⟩ := r1
  obtain ⟨d2, l2⟩ := r2
  obtain ⟨d3, l3⟩ := r3
  simp only at q1 q2 q3 q4 q5 q6
  generalize (if d1 = 0 then (2 : Int) else 0) = t1 at *
  generalize (if d2 = 0 then (2 : Int) else 0) = t2 at *
  generalize (if d3 = 0 then (2 : Int) else 0) = t3 at *
  have Q1 := Lib.hid q1
  have Q2 := Lib.hid q2
  have Q3 := Lib.hid q3
  have Q4 := Lib.hid q4
  have Q5 := Lib.hid q5
  have Q6 := Lib.hid q6
  clear q1 q2 q3 q4 q5 q6
  go_enter Try.func4, Try.ntmps4
  go_upto_region 1 with (fail)
  refine wp_region_list ?_
  refine Rg.list_run (some 20) rfl rfl (Rg.exec_move (v := .int .i64 a) _ rfl rfl) ?_
  go_frame
  refine Rg.list_run (some 21) rfl rfl (Rg.exec_move (v := .int .i64 b) _ rfl rfl) ?_
  go_frame
  refine Rg.list_run (some 22) rfl rfl (Rg.exec_move (v := .int .i64 k) _ rfl rfl) ?_
  go_frame
  refine list_ask (some 23) rfl rfl _ _ (exec_fn3 13 _ _ _ _ rfl rfl rfl rfl (cl1 _ _)) ?_
  refine (Q1.out w).mono ?_
  rintro e X1 ⟨a1, n1, c1, rfl, hg1, hb1⟩
  refine ⟨_, rfl, ?_⟩
  go_frame
  refine Rg.list_run (some 19) rfl rfl (Rg.exec_move (v := .tuple #[.agg #[.int .i64 d1, .slice a1 n1 c1], .int .i64 t1]) _ rfl rfl) ?_
  go_frame
  refine Rg.list_run (some 24) rfl rfl (exec_extract (v := .agg #[.int .i64 d1, .slice a1 n1 c1]) _ _ rfl rfl rfl) ?_
  go_frame
  refine Rg.list_run (some 25) rfl rfl (exec_extract (v := .int .i64 t1) _ _ rfl rfl rfl) ?_
  go_frame
  refine Rg.list_run (some 7) rfl rfl (exec_allocG rfl) ?_
  go_frame
  obtain ⟨st1, gr1, hc1⟩ := grpNew (d1) hg1
  refine Rg.list_skip none rfl rfl (Rg.exec_store _ _ _ rfl _ rfl _ rfl st1) ?_
  go_frame
  refine Rg.list_run (some 8) rfl rfl (Rg.exec_assign (v := .int .i64 t1) _ rfl rfl) ?_
  go_frame
  generalize ((X1.alloc (.cells #[.int .i64 0, .slice none 0 0] 24)).setCell ⟨X1.heap.size, 0, none⟩ (.int .i64 (d1))).setCell ⟨X1.heap.size, 1, none⟩ (.slice a1 n1 c1) = W1 at *
  have k1 : Below w.heap.size w W1 := Rg.acc hb1 hc1
  have G1 := Lib.hid gr1
  have K1 := Lib.hid k1
  clear st1 gr1 hc1 hg1 hb1 k1
  go_upto_region 2 with (fail)
  refine wp_region_list ?_
  refine Rg.list_run (some 27) rfl rfl (Rg.exec_move (v := .int .i64 a) _ rfl rfl) ?_
  go_frame
  refine Rg.list_run (some 28) rfl rfl (Rg.exec_move (v := .int .i64 b) _ rfl rfl) ?_
  go_frame
  refine Rg.list_run (some 29) rfl rfl (Rg.exec_move (v := .int .i64 k) _ rfl rfl) ?_
  go_frame
  refine list_ask (some 30) rfl rfl _ _ (exec_fn3 14 _ _ _ _ rfl rfl rfl rfl (clRings' _ _)) ?_
  refine (Q2.out W1).mono ?_
  rintro e X2 ⟨a2, n2, c2, rfl, hg2, hb2⟩
  refine ⟨_, rfl, ?_⟩
  go_frame
  refine Rg.list_run (some 26) rfl rfl (Rg.exec_move (v := .tuple #[.agg #[.int .i64 d1, .slice a2 n2 c2], .int .i64 t1]) _ rfl rfl) ?_
  go_frame
  refine Rg.list_run (some 31) rfl rfl (exec_extract (v := .agg #[.int .i64 d1, .slice a2 n2 c2]) _ _ rfl rfl rfl) ?_
  go_frame
  refine Rg.list_run (some 32) rfl rfl (exec_extract (v := .int .i64 t1) _ _ rfl rfl rfl) ?_
  go_frame
  refine Rg.list_run (some 9) rfl rfl (exec_allocG rfl) ?_
  go_frame
  obtain ⟨st2, gr2, hc2⟩ := grpNew (d1) hg2
  refine Rg.list_skip none rfl rfl (Rg.exec_store _ _ _ rfl _ rfl _ rfl st2) ?_
  go_frame
  refine Rg.list_run (some 10) rfl rfl (Rg.exec_assign (v := .int .i64 t1) _ rfl rfl) ?_
  go_frame
  generalize ((X2.alloc (.cells #[.int .i64 0, .slice none 0 0] 24)).setCell ⟨X2.heap.size, 0, none⟩ (.int .i64 (d1))).setCell ⟨X2.heap.size, 1, none⟩ (.slice a2 n2 c2) = W2 at *
  have k2 : Below W1.heap.size W1 W2 := Rg.acc hb2 hc2
  have G2 := Lib.hid gr2
  have G1 := Lib.hid (G1.out.below k2)
  have K2 := Lib.hid (Rg.acc K1.out k2)
  clear st2 gr2 hc2 hg2 hb2 k2
  go_upto_region 3 with (fail)
  refine wp_region_list ?_
  refine Rg.list_run (some 34) rfl rfl (Rg.exec_move (v := .int .i64 a) _ rfl rfl) ?_
  go_frame
  refine Rg.list_run (some 35) rfl rfl (Rg.exec_move (v := .int .i64 k) _ rfl rfl) ?_
  go_frame
  refine list_ask (some 36) rfl rfl _ _ (exec_fn 15 _ _ _ rfl rfl rfl (clSpin _ _)) ?_
  refine (Q3.out W2).mono ?_
  rintro e X3 ⟨a3, n3, c3, rfl, hg3, hb3⟩
  refine ⟨_, rfl, ?_⟩
  go_frame
  refine Rg.list_run (some 33) rfl rfl (Rg.exec_move (v := .tuple #[.agg #[.int .i64 d2, .slice a3 n3 c3], .int .i64 t2]) _ rfl rfl) ?_
  go_frame
  refine Rg.list_run (some 37) rfl rfl (exec_extract (v := .agg #[.int .i64 d2, .slice a3 n3 c3]) _ _ rfl rfl rfl) ?_
  go_frame
  refine Rg.list_run (some 38) rfl rfl (exec_extract (v := .int .i64 t2) _ _ rfl rfl rfl) ?_
  go_frame
  refine Rg.list_run (some 11) rfl rfl (exec_allocG rfl) ?_
  go_frame
  obtain ⟨st3, gr3, hc3⟩ := grpNew (d2) hg3
  refine Rg.list_skip none rfl rfl (Rg.exec_store _ _ _ rfl _ rfl _ rfl st3) ?_
  go_frame
  refine Rg.list_run (some 12) rfl rfl (Rg.exec_assign (v := .int .i64 t2) _ rfl rfl) ?_
  go_frame
  generalize ((X3.alloc (.cells #[.int .i64 0, .slice none 0 0] 24)).setCell ⟨X3.heap.size, 0, none⟩ (.int .i64 (d2))).setCell ⟨X3.heap.size, 1, none⟩ (.slice a3 n3 c3) = W3 at *
  have k3 : Below W2.heap.size W2 W3 := Rg.acc hb3 hc3
  have G3 := Lib.hid gr3
  have G1 := Lib.hid (G1.out.below k3)
  have G2 := Lib.hid (G2.out.below k3)
  have K3 := Lib.hid (Rg.acc K2.out k3)
  clear st3 gr3 hc3 hg3 hb3 k3
  go_upto_region 4 with (fail)
  refine wp_region_list ?_
  refine Rg.list_run (some 40) rfl rfl (Rg.exec_move (v := .int .i64 a) _ rfl rfl) ?_
  go_frame
  refine Rg.list_run (some 41) rfl rfl (Rg.exec_move (v := .int .i64 k) _ rfl rfl) ?_
  go_frame
  refine list_ask (some 42) rfl rfl _ _ (exec_fn 16 _ _ _ rfl rfl rfl (clSpin' _ _)) ?_
  refine (Q4.out W3).mono ?_
  rintro e X4 ⟨a4, n4, c4, rfl, hg4, hb4⟩
  refine ⟨_, rfl, ?_⟩
  go_frame
  refine Rg.list_run (some 39) rfl rfl (Rg.exec_move (v := .tuple #[.agg #[.int .i64 d2, .slice a4 n4 c4], .int .i64 t2]) _ rfl rfl) ?_
  go_frame
  refine Rg.list_run (some 43) rfl rfl (exec_extract (v := .agg #[.int .i64 d2, .slice a4 n4 c4]) _ _ rfl rfl rfl) ?_
  go_frame
  refine Rg.list_run (some 44) rfl rfl (exec_extract (v := .int .i64 t2) _ _ rfl rfl rfl) ?_
  go_frame
  refine Rg.list_run (some 13) rfl rfl (exec_allocG rfl) ?_
  go_frame
  obtain ⟨st4, gr4, hc4⟩ := grpNew (d2) hg4
  refine Rg.list_skip none rfl rfl (Rg.exec_store _ _ _ rfl _ rfl _ rfl st4) ?_
  go_frame
  refine Rg.list_run (some 14) rfl rfl (Rg.exec_assign (v := .int .i64 t2) _ rfl rfl) ?_
  go_frame
  generalize ((X4.alloc (.cells #[.int .i64 0, .slice none 0 0] 24)).setCell ⟨X4.heap.size, 0, none⟩ (.int .i64 (d2))).setCell ⟨X4.heap.size, 1, none⟩ (.slice a4 n4 c4) = W4 at *
  have k4 : Below W3.heap.size W3 W4 := Rg.acc hb4 hc4
  have G4 := Lib.hid gr4
  have G1 := Lib.hid (G1.out.below k4)
  have G2 := Lib.hid (G2.out.below k4)
  have G3 := Lib.hid (G3.out.below k4)
  have K4 := Lib.hid (Rg.acc K3.out k4)
  clear st4 gr4 hc4 hg4 hb4 k4
  go_upto_region 5 with (fail)
  refine wp_region_list ?_
  refine Rg.list_run (some 46) rfl rfl (Rg.exec_move (v := .int .i64 a) _ rfl rfl) ?_
  go_frame
  refine list_ask (some 47) rfl rfl _ _ (exec_fn1 17 _ _ rfl rfl (clCakes _ _)) ?_
  refine (Q5.out W4).mono ?_
  rintro e X5 ⟨a5, n5, c5, rfl, hg5, hb5⟩
  refine ⟨_, rfl, ?_⟩
  go_frame
  refine Rg.list_run (some 45) rfl rfl (Rg.exec_move (v := .tuple #[.agg #[.int .i64 d3, .slice a5 n5 c5], .int .i64 t3]) _ rfl rfl) ?_
  go_frame
  refine Rg.list_run (some 48) rfl rfl (exec_extract (v := .agg #[.int .i64 d3, .slice a5 n5 c5]) _ _ rfl rfl rfl) ?_
  go_frame
  refine Rg.list_run (some 49) rfl rfl (exec_extract (v := .int .i64 t3) _ _ rfl rfl rfl) ?_
  go_frame
  refine Rg.list_run (some 15) rfl rfl (exec_allocG rfl) ?_
  go_frame
  obtain ⟨st5, gr5, hc5⟩ := grpNew (d3) hg5
  refine Rg.list_skip none rfl rfl (Rg.exec_store _ _ _ rfl _ rfl _ rfl st5) ?_
  go_frame
  refine Rg.list_run (some 16) rfl rfl (Rg.exec_assign (v := .int .i64 t3) _ rfl rfl) ?_
  go_frame
  generalize ((X5.alloc (.cells #[.int .i64 0, .slice none 0 0] 24)).setCell ⟨X5.heap.size, 0, none⟩ (.int .i64 (d3))).setCell ⟨X5.heap.size, 1, none⟩ (.slice a5 n5 c5) = W5 at *
  have k5 : Below W4.heap.size W4 W5 := Rg.acc hb5 hc5
  have G5 := Lib.hid gr5
  have G1 := Lib.hid (G1.out.below k5)
  have G2 := Lib.hid (G2.out.below k5)
  have G3 := Lib.hid (G3.out.below k5)
  have G4 := Lib.hid (G4.out.below k5)
  have K5 := Lib.hid (Rg.acc K4.out k5)
  clear st5 gr5 hc5 hg5 hb5 k5
  go_upto_region 6 with (fail)
  refine wp_region_list ?_
  refine Rg.list_run (some 51) rfl rfl (Rg.exec_move (v := .int .i64 a) _ rfl rfl) ?_
  go_frame
  refine list_ask (some 52) rfl rfl _ _ (exec_fn1 18 _ _ rfl rfl (clCakes' _ _)) ?_
  refine (Q6.out W5).mono ?_
  rintro e X6 ⟨a6, n6, c6, rfl, hg6, hb6⟩
  refine ⟨_, rfl, ?_⟩
  go_frame
  refine Rg.list_run (some 50) rfl rfl (Rg.exec_move (v := .tuple #[.agg #[.int .i64 d3, .slice a6 n6 c6], .int .i64 t3]) _ rfl rfl) ?_
  go_frame
  refine Rg.list_run (some 53) rfl rfl (exec_extract (v := .agg #[.int .i64 d3, .slice a6 n6 c6]) _ _ rfl rfl rfl) ?_
  go_frame
  refine Rg.list_run (some 54) rfl rfl (exec_extract (v := .int .i64 t3) _ _ rfl rfl rfl) ?_
  go_frame
  refine Rg.list_run (some 17) rfl rfl (exec_allocG rfl) ?_
  go_frame
  obtain ⟨st6, gr6, hc6⟩ := grpNew (d3) hg6
  refine Rg.list_skip none rfl rfl (Rg.exec_store _ _ _ rfl _ rfl _ rfl st6) ?_
  go_frame
  refine Rg.list_run (some 18) rfl rfl (Rg.exec_assign (v := .int .i64 t3) _ rfl rfl) ?_
  go_frame
  generalize ((X6.alloc (.cells #[.int .i64 0, .slice none 0 0] 24)).setCell ⟨X6.heap.size, 0, none⟩ (.int .i64 (d3))).setCell ⟨X6.heap.size, 1, none⟩ (.slice a6 n6 c6) = W6 at *
  have k6 : Below W5.heap.size W5 W6 := Rg.acc hb6 hc6
  have G6 := Lib.hid gr6
  have G1 := Lib.hid (G1.out.below k6)
  have G2 := Lib.hid (G2.out.below k6)
  have G3 := Lib.hid (G3.out.below k6)
  have G4 := Lib.hid (G4.out.below k6)
  have G5 := Lib.hid (G5.out.below k6)
  have K6 := Lib.hid (Rg.acc K5.out k6)
  clear st6 gr6 hc6 hg6 hb6 k6
  go_upto_region 7 with (fail)
  refine wp_region_list ?_
  refine listW_run (some 55) rfl rfl (Rg.exec_load (v := .agg #[.int .i64 d1, .slice a1 n1 c1]) _ _ rfl _ rfl G1.out.load) ?_
  go_frame
  refine listW_run (some 56) rfl rfl (Rg.exec_load (v := .agg #[.int .i64 d1, .slice a2 n2 c2]) _ _ rfl _ rfl G2.out.load) ?_
  go_frame
  refine listW_ask (some 57) rfl rfl _ _ (exec_fn 19 _ _ _ rfl rfl rfl (cl5 _ _)) ?_
  refine (SameGroup_yes _ _ _ _ (w0 := W6) (w := W6) G1.out.2.2.2 G2.out.2.2.2 (Below.refl _ _)).mono ?_
  rintro e S1 ⟨rfl, hs1⟩
  refine ⟨_, rfl, ?_⟩
  go_frame
  have G1 := Lib.hid (G1.out.below hs1)
  have G2 := Lib.hid (G2.out.below hs1)
  have G3 := Lib.hid (G3.out.below hs1)
  have G4 := Lib.hid (G4.out.below hs1)
  have G5 := Lib.hid (G5.out.below hs1)
  have G6 := Lib.hid (G6.out.below hs1)
  have K7 := Lib.hid (Rg.acc K6.out hs1)
  clear hs1
  refine listW_run (some 58) rfl rfl (Rg.exec_move (v := .bool true) _ rfl rfl) ?_
  go_frame
  refine listW_run (some 59) rfl rfl (Rg.exec_move (v := .int .i64 t1) _ rfl rfl) ?_
  go_frame
  refine listW_run (some 60) rfl rfl (Rg.exec_move (v := .int .i64 t1) _ rfl rfl) ?_
  go_frame
  refine listW_run (some 61) rfl rfl (exec_eqI _ _ rfl rfl rfl rfl) ?_
  go_frame
  refine listW_run (some 62) rfl rfl (exec_pickT (v := .bool true) _ _ _ rfl rfl rfl) ?_
  go_frame
  refine listW_run (some 63) rfl rfl (Rg.exec_move (v := .bool true) _ rfl rfl) ?_
  go_frame
  refine listW_run (some 64) rfl rfl (Rg.exec_load (v := .agg #[.int .i64 d2, .slice a3 n3 c3]) _ _ rfl _ rfl G3.out.load) ?_
  go_frame
  refine listW_run (some 65) rfl rfl (Rg.exec_load (v := .agg #[.int .i64 d2, .slice a4 n4 c4]) _ _ rfl _ rfl G4.out.load) ?_
  go_frame
  refine listW_ask (some 66) rfl rfl _ _ (exec_fn 19 _ _ _ rfl rfl rfl (cl5 _ _)) ?_
  refine (SameGroup_yes _ _ _ _ (w0 := S1) (w := S1) G3.out.2.2.2 G4.out.2.2.2 (Below.refl _ _)).mono ?_
  rintro e S2 ⟨rfl, hs2⟩
  refine ⟨_, rfl, ?_⟩
  go_frame
  have G1 := Lib.hid (G1.out.below hs2)
  have G2 := Lib.hid (G2.out.below hs2)
  have G3 := Lib.hid (G3.out.below hs2)
  have G4 := Lib.hid (G4.out.below hs2)
  have G5 := Lib.hid (G5.out.below hs2)
  have G6 := Lib.hid (G6.out.below hs2)
  have K8 := Lib.hid (Rg.acc K7.out hs2)
  clear hs2
  refine listW_run (some 67) rfl rfl (exec_pickT (v := .bool true) _ _ _ rfl rfl rfl) ?_
  go_frame
  refine listW_run (some 68) rfl rfl (Rg.exec_move (v := .bool true) _ rfl rfl) ?_
  go_frame
  refine listW_run (some 69) rfl rfl (Rg.exec_move (v := .int .i64 t2) _ rfl rfl) ?_
  go_frame
  refine listW_run (some 70) rfl rfl (Rg.exec_move (v := .int .i64 t2) _ rfl rfl) ?_
  go_frame
  refine listW_run (some 71) rfl rfl (exec_eqI _ _ rfl rfl rfl rfl) ?_
  go_frame
  refine listW_run (some 72) rfl rfl (exec_pickT (v := .bool true) _ _ _ rfl rfl rfl) ?_
  go_frame
  refine listW_run (some 73) rfl rfl (Rg.exec_move (v := .bool true) _ rfl rfl) ?_
  go_frame
  refine listW_run (some 74) rfl rfl (Rg.exec_load (v := .agg #[.int .i64 d3, .slice a5 n5 c5]) _ _ rfl _ rfl G5.out.load) ?_
  go_frame
  refine listW_run (some 75) rfl rfl (Rg.exec_load (v := .agg #[.int .i64 d3, .slice a6 n6 c6]) _ _ rfl _ rfl G6.out.load) ?_
  go_frame
  refine listW_ask (some 76) rfl rfl _ _ (exec_fn 19 _ _ _ rfl rfl rfl (cl5 _ _)) ?_
  refine (SameGroup_yes _ _ _ _ (w0 := S2) (w := S2) G5.out.2.2.2 G6.out.2.2.2 (Below.refl _ _)).mono ?_
  rintro e S3 ⟨rfl, hs3⟩
  refine ⟨_, rfl, ?_⟩
  go_frame
  have G1 := Lib.hid (G1.out.below hs3)
  have G2 := Lib.hid (G2.out.below hs3)
  have G3 := Lib.hid (G3.out.below hs3)
  have G4 := Lib.hid (G4.out.below hs3)
  have G5 := Lib.hid (G5.out.below hs3)
  have G6 := Lib.hid (G6.out.below hs3)
  have K9 := Lib.hid (Rg.acc K8.out hs3)
  clear hs3
  refine listW_run (some 77) rfl rfl (exec_pickT (v := .bool true) _ _ _ rfl rfl rfl) ?_
  go_frame
  refine listW_run (some 78) rfl rfl (Rg.exec_move (v := .bool true) _ rfl rfl) ?_
  go_frame
  refine listW_run (some 79) rfl rfl (Rg.exec_move (v := .int .i64 t3) _ rfl rfl) ?_
  go_frame
  refine listW_run (some 80) rfl rfl (Rg.exec_move (v := .int .i64 t3) _ rfl rfl) ?_
  go_frame
  refine listW_run (some 81) rfl rfl (exec_eqI _ _ rfl rfl rfl rfl) ?_
  go_frame
  refine listW_run (some 82) rfl rfl (exec_pickT (v := .bool true) _ _ _ rfl rfl rfl) ?_
  go_frame
  refine listW_run (some 83) rfl rfl (Rg.exec_move (v := .bool true) _ rfl rfl) ?_
  go_frame
  refine listW_ask (some 84) rfl rfl _ _ (exec_fn0 9 _ rfl (clAwake _ _)) ?_
  refine (awake_any S3).mono ?_
  rintro e S4 ⟨rfl, hs4⟩
  refine ⟨_, rfl, ?_⟩
  go_frame
  refine listW_run (some 85) rfl rfl (exec_pickT (v := .bool true) _ _ _ rfl rfl rfl) ?_
  go_frame
  refine listW_run (some 6) rfl rfl (Rg.exec_assign (v := .bool true) _ rfl rfl) ?_
  go_frame
  have HI := Lib.hid (Rg.acc K9.out hs4)
  clear hs4
  go_wp2
  go_ret
  exact ⟨rfl, HI.out⟩
end Go.Proofs.Ytjifdmfoijoekaa

/-! The law PuzzleKnown. -/
namespace Go.Proofs.Ytjifdmfoijoekaa
open Go.RowKit
open Go.Proofs
open Go.Proofs.Ytjifdmfoijoekaa.Rj
attribute [local irreducible] Go.Calls

theorem kn1 : spinR 5 4 = (5, [[1, 2, 3, 4, 0], [3, 2, 1, 0, 4]]) := by decide +kernel
theorem kn2 : cakesR 3 = (3, [[1, 0, 2], [2, 1, 0]]) := by decide +kernel
theorem kn3 : cakesR 4 = (4, [[1, 0, 2, 3], [2, 1, 0, 3], [3, 2, 1, 0]]) := by decide +kernel
theorem kn4 : ringsR 3 3 3 = (0, []) := by decide +kernel
theorem kn5 : spinR 4 5 = (0, []) := by decide +kernel
theorem kn6 : cakesR 8 = (0, []) := by decide +kernel
theorem kn7 : slvS 5 [[1, 2, 0, 3, 4], [0, 1, 3, 4, 2]] [1, 2, 0, 3, 4] 0 = ([], 18) := by decide +kernel
theorem kn8 : slvS 5 [[1, 2, 0, 3, 4], [0, 1, 3, 4, 2]] [1, 0, 2, 3, 4] 10 = ([], 18) := by decide +kernel
theorem kn9 : undS 4 [[1, 0, 2, 3], [2, 1, 0, 3], [3, 2, 1, 0]] [2, 0, 1, 3] 10 = ([1, 2], 0) := by decide +kernel
theorem kn10 : ballS 4 [[1, 0, 2, 3], [2, 1, 0, 3], [3, 2, 1, 0]] 6 = ([], 2) := by decide +kernel
theorem clSolve (args : Array Value) (w : World) : (callFunc 21 args).run Try.prog w = .ok (.enter 21 args) w := by kernel_rfl
theorem clUndo (args : Array Value) (w : World) : (callFunc 23 args).run Try.prog w = .ok (.enter 23 args) w := by kernel_rfl

set_option maxRecDepth 100000 in
set_option maxHeartbeats 4000000 in
theorem PuzzleKnown_any (w : World) :
    Calls Try.prog 6 #[] w fun e w' => e = .returned (.bool true) ∧ Below w.heap.size w w' := by
  have q1 := fun W => gpostE (Spin_any 5 4 W)
  rw [kn1] at q1
  have q2 := fun W => gpostE (Pancakes_any 3 W)
  rw [kn2] at q2
  have q3 := fun W => gpostE (Pancakes_any 4 W)
  rw [kn3] at q3
  have q4 := fun W => gpostE (Rings_any 3 3 3 W)
  rw [kn4] at q4
  have q5 := fun W => gpostE (Spin_any 4 5 W)
  rw [kn5] at q5
  have q6 := fun W => gpostE (Pancakes_any 8 W)
  rw [kn6] at q6
  simp only [if_true, show ¬ ((5 : Int) = 0) by decide, show ¬ ((3 : Int) = 0) by decide, show ¬ ((4 : Int) = 0) by decide, if_false] at q1 q2 q3 q4 q5 q6
  have Q1 := Lib.hid q1
  have Q2 := Lib.hid q2
  have Q3 := Lib.hid q3
  have Q4 := Lib.hid q4
  have Q5 := Lib.hid q5
  have Q6 := Lib.hid q6
  clear q1 q2 q3 q4 q5 q6
  go_enter Try.func6, Try.ntmps6
  go_upto_region 1 with (fail)
  refine wp_region_list ?_
  refine list_ask (some 24) rfl rfl _ _ (exec_fn 15 _ _ _ rfl rfl rfl (clSpin _ _)) ?_
  refine (Q1.out w).mono ?_
  rintro e X1 ⟨a1, n1, c1, rfl, hg1, hb1⟩
  refine ⟨_, rfl, ?_⟩
  go_frame
  refine Rg.list_run (some 23) rfl rfl (Rg.exec_move (v := .tuple #[.agg #[.int .i64 5, .slice a1 n1 c1], .int .i64 0]) _ rfl rfl) ?_
  go_frame
  refine Rg.list_run (some 25) rfl rfl (exec_extract (v := .agg #[.int .i64 5, .slice a1 n1 c1]) _ _ rfl rfl rfl) ?_
  go_frame
  refine Rg.list_run (some 26) rfl rfl (exec_extract (v := .int .i64 0) _ _ rfl rfl rfl) ?_
  go_frame
  refine Rg.list_run (some 1) rfl rfl (exec_allocG rfl) ?_
  go_frame
  obtain ⟨st1, gr1, hc1⟩ := grpNew (5) hg1
  refine Rg.list_skip none rfl rfl (Rg.exec_store _ _ _ rfl _ rfl _ rfl st1) ?_
  go_frame
  refine Rg.list_run (some 2) rfl rfl (Rg.exec_assign (v := .int .i64 0) _ rfl rfl) ?_
  go_frame
  generalize ((X1.alloc (.cells #[.int .i64 0, .slice none 0 0] 24)).setCell ⟨X1.heap.size, 0, none⟩ (.int .i64 (5))).setCell ⟨X1.heap.size, 1, none⟩ (.slice a1 n1 c1) = W1 at *
  have k1 : Below w.heap.size w W1 := Rg.acc hb1 hc1
  have G1 := Lib.hid gr1
  have K1 := Lib.hid k1
  clear st1 gr1 hc1 hg1 hb1 k1
  go_upto_region 2 with (fail)
  refine wp_region_list ?_
  refine list_ask (some 28) rfl rfl _ _ (exec_fn1 17 _ _ rfl rfl (clCakes _ _)) ?_
  refine (Q2.out W1).mono ?_
  rintro e X2 ⟨a2, n2, c2, rfl, hg2, hb2⟩
  refine ⟨_, rfl, ?_⟩
  go_frame
  refine Rg.list_run (some 27) rfl rfl (Rg.exec_move (v := .tuple #[.agg #[.int .i64 3, .slice a2 n2 c2], .int .i64 0]) _ rfl rfl) ?_
  go_frame
  refine Rg.list_run (some 29) rfl rfl (exec_extract (v := .agg #[.int .i64 3, .slice a2 n2 c2]) _ _ rfl rfl rfl) ?_
  go_frame
  refine Rg.list_run (some 30) rfl rfl (exec_extract (v := .int .i64 0) _ _ rfl rfl rfl) ?_
  go_frame
  refine Rg.list_run (some 3) rfl rfl (exec_allocG rfl) ?_
  go_frame
  obtain ⟨st2, gr2, hc2⟩ := grpNew (3) hg2
  refine Rg.list_skip none rfl rfl (Rg.exec_store _ _ _ rfl _ rfl _ rfl st2) ?_
  go_frame
  refine Rg.list_run (some 4) rfl rfl (Rg.exec_assign (v := .int .i64 0) _ rfl rfl) ?_
  go_frame
  generalize ((X2.alloc (.cells #[.int .i64 0, .slice none 0 0] 24)).setCell ⟨X2.heap.size, 0, none⟩ (.int .i64 (3))).setCell ⟨X2.heap.size, 1, none⟩ (.slice a2 n2 c2) = W2 at *
  have k2 : Below W1.heap.size W1 W2 := Rg.acc hb2 hc2
  have G2 := Lib.hid gr2
  have G1 := Lib.hid (G1.out.below k2)
  have K2 := Lib.hid (Rg.acc K1.out k2)
  clear st2 gr2 hc2 hg2 hb2 k2
  go_upto_region 3 with (fail)
  refine wp_region_list ?_
  refine list_ask (some 32) rfl rfl _ _ (exec_fn1 17 _ _ rfl rfl (clCakes _ _)) ?_
  refine (Q3.out W2).mono ?_
  rintro e X3 ⟨a3, n3, c3, rfl, hg3, hb3⟩
  refine ⟨_, rfl, ?_⟩
  go_frame
  refine Rg.list_run (some 31) rfl rfl (Rg.exec_move (v := .tuple #[.agg #[.int .i64 4, .slice a3 n3 c3], .int .i64 0]) _ rfl rfl) ?_
  go_frame
  refine Rg.list_run (some 33) rfl rfl (exec_extract (v := .agg #[.int .i64 4, .slice a3 n3 c3]) _ _ rfl rfl rfl) ?_
  go_frame
  refine Rg.list_run (some 34) rfl rfl (exec_extract (v := .int .i64 0) _ _ rfl rfl rfl) ?_
  go_frame
  refine Rg.list_run (some 5) rfl rfl (exec_allocG rfl) ?_
  go_frame
  obtain ⟨st3, gr3, hc3⟩ := grpNew (4) hg3
  refine Rg.list_skip none rfl rfl (Rg.exec_store _ _ _ rfl _ rfl _ rfl st3) ?_
  go_frame
  refine Rg.list_run (some 6) rfl rfl (Rg.exec_assign (v := .int .i64 0) _ rfl rfl) ?_
  go_frame
  generalize ((X3.alloc (.cells #[.int .i64 0, .slice none 0 0] 24)).setCell ⟨X3.heap.size, 0, none⟩ (.int .i64 (4))).setCell ⟨X3.heap.size, 1, none⟩ (.slice a3 n3 c3) = W3 at *
  have k3 : Below W2.heap.size W2 W3 := Rg.acc hb3 hc3
  have G3 := Lib.hid gr3
  have G1 := Lib.hid (G1.out.below k3)
  have G2 := Lib.hid (G2.out.below k3)
  have K3 := Lib.hid (Rg.acc K2.out k3)
  clear st3 gr3 hc3 hg3 hb3 k3
  go_upto_region 4 with (fail)
  refine Rg.Any.begin (S := Rg.Both 31 (fun _ => True) (fun W => Below W3.heap.size W3 W)) mix ?_
  have hS : ∀ (l : Array Bool) W, Below W3.heap.size W3 W → Rg.Both 31 (fun _ => True) (fun W => Below W3.heap.size W3 W) l W := fun l W h => ⟨.inr trivial, h⟩
  have hI : Below W3.heap.size W3 W3.drew := (Below.refl _ _).drew
  generalize W3.drew = V at *
  refine Rg.Any.one (i := 0) (by kernel_rfl) (Rg.Any.run (some 35) rfl rfl rfl (Rg.exec_move (v := .int .i64 0) _ rfl rfl) (hS _ _ hI) ?_)
  go_frame
  refine Rg.Any.one (i := 1) (by kernel_rfl) (Rg.Any.run (some 36) rfl rfl rfl (exec_eqI (u := 0) (v := 0) _ _ rfl rfl rfl rfl) (hS _ _ hI) ?_)
  go_frame
  refine Rg.Any.one (i := 2) (by kernel_rfl) (Rg.Any.run (some 37) rfl rfl rfl (Rg.exec_move (v := .bool true) _ rfl rfl) (hS _ _ hI) ?_)
  go_frame
  refine Rg.Any.takeG (i := 3) (t := 31) (v := .agg #[.int .i64 5, .slice a1 n1 c1]) (some 38) rfl rfl (by kernel_rfl) (by kernel_rfl) (by kernel_rfl) (fun _ _ _ h => h) rfl (.inl ⟨rfl, fun W hW => Rg.exec_load _ _ rfl _ rfl (G1.out.below hW).load⟩) (hS _ _ hI) ?_
  go_frame
  refine Rg.Any.duo (i := 4) (j := 5) (di := 39) (dj := 40) (I := fun W => Below W3.heap.size W3 W) (Ri := fun v W => Rg.Ints W v [1, 2, 3, 4, 0]) (Rj := fun v W => Rg.Ints W v [3, 2, 1, 0, 4]) hS (by decide) (by decide) (by kernel_rfl) (by kernel_rfl) (by kernel_rfl) ?_ ?_ hI ?_
  · intro b hb W hW
    have hn := (Below.refl W.heap.size W).alloc (Nat.le_refl _) (.cells (([1, 2, 3, 4, 0] : List Int).map (Value.int .i64)).toArray 3)
    exact does_run rfl rfl (by rcases hb with rfl | ⟨u, rfl⟩ <;> rfl) (exec_flat _ _ 5 _ rfl [1, 2, 3, 4, 0] Try.underlying39 szInt zInt rfl (by decide) (by decide) rfl) ⟨Rg.acc hW hn, ints_new W 3 [1, 2, 3, 4, 0] (by decide), fun u h => Rg.Ints.below h hn⟩
  · intro b hb W hW
    have hn := (Below.refl W.heap.size W).alloc (Nat.le_refl _) (.cells (([3, 2, 1, 0, 4] : List Int).map (Value.int .i64)).toArray 3)
    exact does_run rfl rfl (by rcases hb with rfl | ⟨u, rfl⟩ <;> rfl) (exec_flat _ _ 5 _ rfl [3, 2, 1, 0, 4] Try.underlying39 szInt zInt rfl (by decide) (by decide) rfl) ⟨Rg.acc hW hn, ints_new W 3 [3, 2, 1, 0, 4] (by decide), fun u h => Rg.Ints.below h hn⟩
  clear hI V
  intro V u1 u2 hI h1 h2
  have e1 : ∃ a n c, u1 = .slice a n c := by obtain ⟨a, c, e, _⟩ := Rg.Ints.shape h1; exact ⟨a, _, c, e⟩
  have e2 : ∃ a n c, u2 = .slice a n c := by obtain ⟨a, c, e, _⟩ := Rg.Ints.shape h2; exact ⟨a, _, c, e⟩
  go_frame
  have hn := (Below.refl V.heap.size V).alloc (Nat.le_refl _) (.cells #[u1, u2] 39)
  have hr := Rg.Rows.two 39 h1 h2
  replace hI := Rg.acc hI hn
  refine Rg.Any.one (i := 6) (by kernel_rfl) (Rg.Any.run (some 41) rfl rfl rfl (exec_buildP (u1 := u1) (u2 := u2) _ _ rfl rfl rfl (run_buildP2 _ _ _ e1 e2)) (hS _ _ hI) ?_)
  go_frame
  refine Rg.Any.one (i := 7) (by kernel_rfl) (Rg.Any.run (some 42) rfl rfl rfl (exec_buildG (d := 5) _ _ rfl rfl rfl) (hS _ _ hI) ?_)
  go_frame
  refine Rg.Any.one (i := 8) (by kernel_rfl) (Rg.Any.ask (some 43) rfl rfl rfl _ _ (exec_fn 19 _ _ _ rfl rfl rfl (cl5 _ _)) ?_)
  refine (SameGroup_yes _ _ _ _ (w0 := W3) (G1.out.below hI).2.2.2 hr hI).mono ?_
  clear hI hr hn h1 h2
  rintro e V1 ⟨rfl, hI⟩
  refine ⟨_, rfl, hS _ _ hI, ?_⟩
  go_frame
  refine Rg.Any.one (i := 9) (by kernel_rfl) (Rg.Any.run (some 44) rfl rfl rfl (exec_pickT (v := .bool true) _ _ _ rfl rfl rfl) (hS _ _ hI) ?_)
  go_frame
  refine Rg.Any.one (i := 10) (by kernel_rfl) (Rg.Any.run (some 45) rfl rfl rfl (Rg.exec_move (v := .bool true) _ rfl rfl) (hS _ _ hI) ?_)
  go_frame
  refine Rg.Any.one (i := 11) (by kernel_rfl) (Rg.Any.run (some 46) rfl rfl rfl (Rg.exec_move (v := .int .i64 0) _ rfl rfl) (hS _ _ hI) ?_)
  go_frame
  refine Rg.Any.one (i := 12) (by kernel_rfl) (Rg.Any.run (some 47) rfl rfl rfl (exec_eqI (u := 0) (v := 0) _ _ rfl rfl rfl rfl) (hS _ _ hI) ?_)
  go_frame
  refine Rg.Any.one (i := 13) (by kernel_rfl) (Rg.Any.run (some 48) rfl rfl rfl (exec_pickT (v := .bool true) _ _ _ rfl rfl rfl) (hS _ _ hI) ?_)
  go_frame
  refine Rg.Any.one (i := 14) (by kernel_rfl) (Rg.Any.run (some 49) rfl rfl rfl (Rg.exec_move (v := .bool true) _ rfl rfl) (hS _ _ hI) ?_)
  go_frame
  refine Rg.Any.takeG (i := 15) (t := 31) (v := .agg #[.int .i64 3, .slice a2 n2 c2]) (some 50) rfl rfl (by kernel_rfl) (by kernel_rfl) (by kernel_rfl) (fun _ _ _ h => h) rfl (.inl ⟨rfl, fun W hW => Rg.exec_load _ _ rfl _ rfl (G2.out.below hW).load⟩) (hS _ _ hI) ?_
  go_frame
  refine Rg.Any.duo (i := 16) (j := 17) (di := 51) (dj := 52) (I := fun W => Below W3.heap.size W3 W) (Ri := fun v W => Rg.Ints W v [1, 0, 2]) (Rj := fun v W => Rg.Ints W v [2, 1, 0]) hS (by decide) (by decide) (by kernel_rfl) (by kernel_rfl) (by kernel_rfl) ?_ ?_ hI ?_
  · intro b hb W hW
    have hn := (Below.refl W.heap.size W).alloc (Nat.le_refl _) (.cells (([1, 0, 2] : List Int).map (Value.int .i64)).toArray 3)
    exact does_run rfl rfl (by rcases hb with rfl | ⟨u, rfl⟩ <;> rfl) (exec_flat _ _ 3 _ rfl [1, 0, 2] Try.underlying39 szInt zInt rfl (by decide) (by decide) rfl) ⟨Rg.acc hW hn, ints_new W 3 [1, 0, 2] (by decide), fun u h => Rg.Ints.below h hn⟩
  · intro b hb W hW
    have hn := (Below.refl W.heap.size W).alloc (Nat.le_refl _) (.cells (([2, 1, 0] : List Int).map (Value.int .i64)).toArray 3)
    exact does_run rfl rfl (by rcases hb with rfl | ⟨u, rfl⟩ <;> rfl) (exec_flat _ _ 3 _ rfl [2, 1, 0] Try.underlying39 szInt zInt rfl (by decide) (by decide) rfl) ⟨Rg.acc hW hn, ints_new W 3 [2, 1, 0] (by decide), fun u h => Rg.Ints.below h hn⟩
  clear hI
  intro V u1 u2 hI h1 h2
  have e1 : ∃ a n c, u1 = .slice a n c := by obtain ⟨a, c, e, _⟩ := Rg.Ints.shape h1; exact ⟨a, _, c, e⟩
  have e2 : ∃ a n c, u2 = .slice a n c := by obtain ⟨a, c, e, _⟩ := Rg.Ints.shape h2; exact ⟨a, _, c, e⟩
  go_frame
  have hn := (Below.refl V.heap.size V).alloc (Nat.le_refl _) (.cells #[u1, u2] 39)
  have hr := Rg.Rows.two 39 h1 h2
  replace hI := Rg.acc hI hn
  refine Rg.Any.one (i := 18) (by kernel_rfl) (Rg.Any.run (some 53) rfl rfl rfl (exec_buildP (u1 := u1) (u2 := u2) _ _ rfl rfl rfl (run_buildP2 _ _ _ e1 e2)) (hS _ _ hI) ?_)
  go_frame
  refine Rg.Any.one (i := 19) (by kernel_rfl) (Rg.Any.run (some 54) rfl rfl rfl (exec_buildG (d := 3) _ _ rfl rfl rfl) (hS _ _ hI) ?_)
  go_frame
  refine Rg.Any.one (i := 20) (by kernel_rfl) (Rg.Any.ask (some 55) rfl rfl rfl _ _ (exec_fn 19 _ _ _ rfl rfl rfl (cl5 _ _)) ?_)
  refine (SameGroup_yes _ _ _ _ (w0 := W3) (G2.out.below hI).2.2.2 hr hI).mono ?_
  clear hI hr hn h1 h2
  rintro e V2 ⟨rfl, hI⟩
  refine ⟨_, rfl, hS _ _ hI, ?_⟩
  go_frame
  refine Rg.Any.one (i := 21) (by kernel_rfl) (Rg.Any.run (some 56) rfl rfl rfl (exec_pickT (v := .bool true) _ _ _ rfl rfl rfl) (hS _ _ hI) ?_)
  go_frame
  refine Rg.Any.one (i := 22) (by kernel_rfl) (Rg.Any.run (some 57) rfl rfl rfl (Rg.exec_move (v := .bool true) _ rfl rfl) (hS _ _ hI) ?_)
  go_frame
  refine Rg.Any.one (i := 23) (by kernel_rfl) (Rg.Any.run (some 58) rfl rfl rfl (Rg.exec_move (v := .int .i64 0) _ rfl rfl) (hS _ _ hI) ?_)
  go_frame
  refine Rg.Any.one (i := 24) (by kernel_rfl) (Rg.Any.run (some 59) rfl rfl rfl (exec_eqI (u := 0) (v := 0) _ _ rfl rfl rfl rfl) (hS _ _ hI) ?_)
  go_frame
  refine Rg.Any.one (i := 25) (by kernel_rfl) (Rg.Any.run (some 60) rfl rfl rfl (exec_pickT (v := .bool true) _ _ _ rfl rfl rfl) (hS _ _ hI) ?_)
  go_frame
  refine Rg.Any.one (i := 26) (by kernel_rfl) (Rg.Any.run (some 61) rfl rfl rfl (Rg.exec_move (v := .bool true) _ rfl rfl) (hS _ _ hI) ?_)
  go_frame
  refine Rg.Any.takeG (i := 27) (t := 31) (v := .agg #[.int .i64 4, .slice a3 n3 c3]) (some 62) rfl rfl (by kernel_rfl) (by kernel_rfl) (by kernel_rfl) (fun _ _ _ h => h) rfl (.inl ⟨rfl, fun W hW => Rg.exec_load _ _ rfl _ rfl (G3.out.below hW).load⟩) (hS _ _ hI) ?_
  go_frame
  refine Rg.Any.one (i := 28) (by kernel_rfl) (Rg.Any.ask (some 63) rfl rfl rfl _ _ (exec_fn0 25 _ rfl (cl2 _ _)) ?_)
  refine (cakes_any V2).mono ?_
  rintro e V3 ⟨ca, cn, cc, rfl, hr, hd⟩
  replace hI := Rg.acc hI hd
  refine ⟨_, rfl, hS _ _ hI, ?_⟩
  go_frame
  refine Rg.Any.one (i := 29) (by kernel_rfl) (Rg.Any.ask (some 64) rfl rfl rfl _ _ (exec_fn 19 _ _ _ rfl rfl rfl (cl5 _ _)) ?_)
  refine (SameGroup_yes _ _ _ _ (w0 := W3) (G3.out.below hI).2.2.2 hr.rows hI).mono ?_
  clear hI hr hd
  rintro e V4 ⟨rfl, hI⟩
  refine ⟨_, rfl, hS _ _ hI, ?_⟩
  go_frame
  refine Rg.Any.one (i := 30) (by kernel_rfl) (Rg.Any.run (some 65) rfl rfl rfl (exec_pickT (v := .bool true) _ _ _ rfl rfl rfl) (hS _ _ hI) ?_)
  go_frame
  refine Rg.Any.one (i := 31) (by kernel_rfl) (Rg.Any.run (some 7) rfl rfl rfl (Rg.exec_assign (v := .bool true) _ rfl rfl) (hS _ _ hI) ?_)
  go_frame
  refine Rg.Any.done (by kernel_rfl) ?_ _
  have K3 := Lib.hid (Rg.acc K3.out hI)
  clear hI hS G1 G2 G3
  go_upto_region 5 with (fail)
  refine wp_region_list ?_
  refine list_ask (some 67) rfl rfl _ _ (exec_fn3 13 _ _ _ _ rfl rfl rfl rfl (cl1 _ _)) ?_
  refine (Q4.out V4).mono ?_
  rintro e X5 ⟨a5, n5, c5, rfl, hg5, hb5⟩
  refine ⟨_, rfl, ?_⟩
  go_frame
  refine Rg.list_run (some 66) rfl rfl (Rg.exec_move (v := .tuple #[.agg #[.int .i64 0, .slice a5 n5 c5], .int .i64 2]) _ rfl rfl) ?_
  go_frame
  refine Rg.list_run (some 68) rfl rfl (exec_extract (v := .agg #[.int .i64 0, .slice a5 n5 c5]) _ _ rfl rfl rfl) ?_
  go_frame
  refine Rg.list_run (some 69) rfl rfl (exec_extract (v := .int .i64 2) _ _ rfl rfl rfl) ?_
  go_frame
  refine Rg.list_run (some 8) rfl rfl (exec_allocG rfl) ?_
  go_frame
  obtain ⟨st5, gr5, hc5⟩ := grpNew (0) hg5
  refine Rg.list_skip none rfl rfl (Rg.exec_store _ _ _ rfl _ rfl _ rfl st5) ?_
  go_frame
  refine Rg.list_run (some 9) rfl rfl (Rg.exec_assign (v := .int .i64 2) _ rfl rfl) ?_
  go_frame
  generalize ((X5.alloc (.cells #[.int .i64 0, .slice none 0 0] 24)).setCell ⟨X5.heap.size, 0, none⟩ (.int .i64 (0))).setCell ⟨X5.heap.size, 1, none⟩ (.slice a5 n5 c5) = W5 at *
  have k5 : Below V4.heap.size V4 W5 := Rg.acc hb5 hc5
  have G5 := Lib.hid gr5
  have K5 := Lib.hid (Rg.acc K3.out k5)
  clear st5 gr5 hc5 hg5 hb5 k5
  clear G5
  go_upto_region 6 with (fail)
  refine wp_region_list ?_
  refine list_ask (some 71) rfl rfl _ _ (exec_fn 15 _ _ _ rfl rfl rfl (clSpin _ _)) ?_
  refine (Q5.out W5).mono ?_
  rintro e X6 ⟨a6, n6, c6, rfl, hg6, hb6⟩
  refine ⟨_, rfl, ?_⟩
  go_frame
  refine Rg.list_run (some 70) rfl rfl (Rg.exec_move (v := .tuple #[.agg #[.int .i64 0, .slice a6 n6 c6], .int .i64 2]) _ rfl rfl) ?_
  go_frame
  refine Rg.list_run (some 72) rfl rfl (exec_extract (v := .agg #[.int .i64 0, .slice a6 n6 c6]) _ _ rfl rfl rfl) ?_
  go_frame
  refine Rg.list_run (some 73) rfl rfl (exec_extract (v := .int .i64 2) _ _ rfl rfl rfl) ?_
  go_frame
  refine Rg.list_run (some 10) rfl rfl (exec_allocG rfl) ?_
  go_frame
  obtain ⟨st6, gr6, hc6⟩ := grpNew (0) hg6
  refine Rg.list_skip none rfl rfl (Rg.exec_store _ _ _ rfl _ rfl _ rfl st6) ?_
  go_frame
  refine Rg.list_run (some 11) rfl rfl (Rg.exec_assign (v := .int .i64 2) _ rfl rfl) ?_
  go_frame
  generalize ((X6.alloc (.cells #[.int .i64 0, .slice none 0 0] 24)).setCell ⟨X6.heap.size, 0, none⟩ (.int .i64 (0))).setCell ⟨X6.heap.size, 1, none⟩ (.slice a6 n6 c6) = W6 at *
  have k6 : Below W5.heap.size W5 W6 := Rg.acc hb6 hc6
  have G6 := Lib.hid gr6
  have K6 := Lib.hid (Rg.acc K5.out k6)
  clear st6 gr6 hc6 hg6 hb6 k6
  clear G6
  go_upto_region 7 with (fail)
  refine wp_region_list ?_
  refine list_ask (some 75) rfl rfl _ _ (exec_fn1 17 _ _ rfl rfl (clCakes _ _)) ?_
  refine (Q6.out W6).mono ?_
  rintro e X7 ⟨a7, n7, c7, rfl, hg7, hb7⟩
  refine ⟨_, rfl, ?_⟩
  go_frame
  refine Rg.list_run (some 74) rfl rfl (Rg.exec_move (v := .tuple #[.agg #[.int .i64 0, .slice a7 n7 c7], .int .i64 2]) _ rfl rfl) ?_
  go_frame
  refine Rg.list_run (some 76) rfl rfl (exec_extract (v := .agg #[.int .i64 0, .slice a7 n7 c7]) _ _ rfl rfl rfl) ?_
  go_frame
  refine Rg.list_run (some 77) rfl rfl (exec_extract (v := .int .i64 2) _ _ rfl rfl rfl) ?_
  go_frame
  refine Rg.list_run (some 12) rfl rfl (exec_allocG rfl) ?_
  go_frame
  obtain ⟨st7, gr7, hc7⟩ := grpNew (0) hg7
  refine Rg.list_skip none rfl rfl (Rg.exec_store _ _ _ rfl _ rfl _ rfl st7) ?_
  go_frame
  refine Rg.list_run (some 13) rfl rfl (Rg.exec_assign (v := .int .i64 2) _ rfl rfl) ?_
  go_frame
  generalize ((X7.alloc (.cells #[.int .i64 0, .slice none 0 0] 24)).setCell ⟨X7.heap.size, 0, none⟩ (.int .i64 (0))).setCell ⟨X7.heap.size, 1, none⟩ (.slice a7 n7 c7) = W7 at *
  have k7 : Below W6.heap.size W6 W7 := Rg.acc hb7 hc7
  have G7 := Lib.hid gr7
  have K7 := Lib.hid (Rg.acc K6.out k7)
  clear st7 gr7 hc7 hg7 hb7 k7
  clear G7
  go_upto_region 8 with (fail)
  refine wp_region_list ?_
  refine listW_run (some 78) rfl rfl (Rg.exec_move (v := .int .i64 2) _ rfl rfl) ?_
  go_frame
  refine listW_run (some 79) rfl rfl (exec_eqI (u := 2) (v := 2) _ _ rfl rfl rfl rfl) ?_
  go_frame
  refine listW_run (some 80) rfl rfl (Rg.exec_move (v := .bool true) _ rfl rfl) ?_
  go_frame
  refine listW_run (some 81) rfl rfl (Rg.exec_move (v := .int .i64 2) _ rfl rfl) ?_
  go_frame
  refine listW_run (some 82) rfl rfl (exec_eqI (u := 2) (v := 2) _ _ rfl rfl rfl rfl) ?_
  go_frame
  refine listW_run (some 83) rfl rfl (exec_pickT (v := .bool true) _ _ _ rfl rfl rfl) ?_
  go_frame
  refine listW_run (some 84) rfl rfl (Rg.exec_move (v := .bool true) _ rfl rfl) ?_
  go_frame
  refine listW_run (some 85) rfl rfl (Rg.exec_move (v := .int .i64 2) _ rfl rfl) ?_
  go_frame
  refine listW_run (some 86) rfl rfl (exec_eqI (u := 2) (v := 2) _ _ rfl rfl rfl rfl) ?_
  go_frame
  refine listW_run (some 87) rfl rfl (exec_pickT (v := .bool true) _ _ _ rfl rfl rfl) ?_
  go_frame
  refine listW_run (some 14) rfl rfl (Rg.exec_assign (v := .bool true) _ rfl rfl) ?_
  go_frame
  go_upto_region 9 with (fail)
  refine wp_region_list ?_
  refine listW_ask (some 89) rfl rfl _ _ (exec_fn0 26 _ rfl (cl3 _ _)) ?_
  refine (rings_any W7).mono ?_
  rintro e X9 ⟨ca, cn, cc, rfl, hr, hd⟩
  refine ⟨_, rfl, ?_⟩
  go_frame
  have hn := (Below.refl X9.heap.size X9).alloc (Nat.le_refl _) (.cells (([1, 2, 0, 3, 4] : List Int).map (Value.int .i64)).toArray 3)
  have hp := ints_new X9 3 [1, 2, 0, 3, 4] (by decide)
  refine listW_run (some 90) rfl rfl (exec_flat _ _ 5 _ rfl [1, 2, 0, 3, 4] Try.underlying39 szInt zInt rfl (by decide) (by decide) rfl) ?_
  go_frame
  refine listW_ask (some 91) rfl rfl _ _ (exec_fn3 21 _ _ _ _ rfl rfl rfl rfl (clSolve _ _)) ?_
  refine (Solve_any (.slice ca cn cc) _ 5 [[1, 2, 0, 3, 4], [0, 1, 3, 4, 2]] [1, 2, 0, 3, 4] 0 _ (hr.rows.below hn) hp).mono ?_
  rw [kn7]
  rintro e W9 ⟨sv9, rfl, hsv9, hb⟩
  refine ⟨_, rfl, ?_⟩
  go_frame
  have K9 := Lib.hid (Rg.acc (Rg.acc (Rg.acc K7.out hd) hn) hb)
  have V9 := Lib.hid hsv9
  refine listW_run (some 88) rfl rfl (Rg.exec_move (v := .tuple #[sv9, .int .i64 18]) _ rfl rfl) ?_
  go_frame
  refine listW_run (some 92) rfl rfl (exec_extract (v := sv9) _ _ rfl rfl rfl) ?_
  go_frame
  refine listW_run (some 93) rfl rfl (exec_extract (v := .int .i64 18) _ _ rfl rfl rfl) ?_
  go_frame
  refine listW_run (some 15) rfl rfl (Rg.exec_assign (v := sv9) _ rfl rfl) ?_
  go_frame
  refine listW_run (some 16) rfl rfl (Rg.exec_assign (v := .int .i64 18) _ rfl rfl) ?_
  go_frame
  clear hr hd hn hp hb hsv9
  go_upto_region 10 with (fail)
  refine wp_region_list ?_
  refine listW_ask (some 95) rfl rfl _ _ (exec_fn0 26 _ rfl (cl3 _ _)) ?_
  refine (rings_any W9).mono ?_
  rintro e X10 ⟨ca, cn, cc, rfl, hr, hd⟩
  refine ⟨_, rfl, ?_⟩
  go_frame
  have hn := (Below.refl X10.heap.size X10).alloc (Nat.le_refl _) (.cells (([1, 0, 2, 3, 4] : List Int).map (Value.int .i64)).toArray 3)
  have hp := ints_new X10 3 [1, 0, 2, 3, 4] (by decide)
  refine listW_run (some 96) rfl rfl (exec_flat _ _ 5 _ rfl [1, 0, 2, 3, 4] Try.underlying39 szInt zInt rfl (by decide) (by decide) rfl) ?_
  go_frame
  refine listW_ask (some 97) rfl rfl _ _ (exec_fn3 21 _ _ _ _ rfl rfl rfl rfl (clSolve _ _)) ?_
  refine (Solve_any (.slice ca cn cc) _ 5 [[1, 2, 0, 3, 4], [0, 1, 3, 4, 2]] [1, 0, 2, 3, 4] 10 _ (hr.rows.below hn) hp).mono ?_
  rw [kn8]
  rintro e W10 ⟨sv10, rfl, hsv10, hb⟩
  refine ⟨_, rfl, ?_⟩
  go_frame
  have K10 := Lib.hid (Rg.acc (Rg.acc (Rg.acc K9.out hd) hn) hb)
  have V10 := Lib.hid hsv10
  refine listW_run (some 94) rfl rfl (Rg.exec_move (v := .tuple #[sv10, .int .i64 18]) _ rfl rfl) ?_
  go_frame
  refine listW_run (some 98) rfl rfl (exec_extract (v := sv10) _ _ rfl rfl rfl) ?_
  go_frame
  refine listW_run (some 99) rfl rfl (exec_extract (v := .int .i64 18) _ _ rfl rfl rfl) ?_
  go_frame
  refine listW_run (some 17) rfl rfl (Rg.exec_assign (v := sv10) _ rfl rfl) ?_
  go_frame
  refine listW_run (some 18) rfl rfl (Rg.exec_assign (v := .int .i64 18) _ rfl rfl) ?_
  go_frame
  clear hr hd hn hp hb hsv10
  go_upto_region 11 with (fail)
  refine wp_region_list ?_
  refine listW_ask (some 101) rfl rfl _ _ (exec_fn0 25 _ rfl (cl2 _ _)) ?_
  refine (cakes_any W10).mono ?_
  rintro e X11 ⟨ca, cn, cc, rfl, hr, hd⟩
  refine ⟨_, rfl, ?_⟩
  go_frame
  have hn := (Below.refl X11.heap.size X11).alloc (Nat.le_refl _) (.cells (([2, 0, 1, 3] : List Int).map (Value.int .i64)).toArray 3)
  have hp := ints_new X11 3 [2, 0, 1, 3] (by decide)
  refine listW_run (some 102) rfl rfl (exec_flat _ _ 4 _ rfl [2, 0, 1, 3] Try.underlying39 szInt zInt rfl (by decide) (by decide) rfl) ?_
  go_frame
  refine listW_ask (some 103) rfl rfl _ _ (exec_fn3 23 _ _ _ _ rfl rfl rfl rfl (clUndo _ _)) ?_
  refine (Undo_any (.slice ca cn cc) _ 4 [[1, 0, 2, 3], [2, 1, 0, 3], [3, 2, 1, 0]] [2, 0, 1, 3] 10 _ (hr.rows.below hn) hp).mono ?_
  rw [kn9]
  rintro e W11 ⟨sv11, rfl, hsv11, hb⟩
  refine ⟨_, rfl, ?_⟩
  go_frame
  have K11 := Lib.hid (Rg.acc (Rg.acc (Rg.acc K10.out hd) hn) hb)
  have V11 := Lib.hid hsv11
  refine listW_run (some 100) rfl rfl (Rg.exec_move (v := .tuple #[sv11, .int .i64 0]) _ rfl rfl) ?_
  go_frame
  refine listW_run (some 104) rfl rfl (exec_extract (v := sv11) _ _ rfl rfl rfl) ?_
  go_frame
  refine listW_run (some 105) rfl rfl (exec_extract (v := .int .i64 0) _ _ rfl rfl rfl) ?_
  go_frame
  refine listW_run (some 19) rfl rfl (Rg.exec_assign (v := sv11) _ rfl rfl) ?_
  go_frame
  refine listW_run (some 20) rfl rfl (Rg.exec_assign (v := .int .i64 0) _ rfl rfl) ?_
  go_frame
  clear hr hd hn hp hb hsv11
  go_upto_region 12 with (fail)
  refine wp_region_list ?_
  refine listW_ask (some 107) rfl rfl _ _ (exec_fn0 25 _ rfl (cl2 _ _)) ?_
  refine (cakes_any W11).mono ?_
  rintro e X12 ⟨ca, cn, cc, rfl, hr, hd⟩
  refine ⟨_, rfl, ?_⟩
  go_frame
  refine listW_ask (some 108) rfl rfl _ _ (exec_fn 10 _ _ _ rfl rfl rfl (cl4 _ _)) ?_
  refine (Ball_any (.slice ca cn cc) 4 [[1, 0, 2, 3], [2, 1, 0, 3], [3, 2, 1, 0]] 6 X12 hr.rows).mono ?_
  rw [kn10]
  rintro e W12 ⟨bv, rfl, hbv, hb⟩
  refine ⟨_, rfl, ?_⟩
  go_frame
  have V11 := Lib.hid (Rg.Ints.below V11.out (Rg.acc hd hb))
  have K12 := Lib.hid (Rg.acc (Rg.acc K11.out hd) hb)
  refine listW_run (some 106) rfl rfl (Rg.exec_move (v := .tuple #[bv, .int .i64 2]) _ rfl rfl) ?_
  go_frame
  refine listW_run (some 109) rfl rfl (exec_extract (v := bv) _ _ rfl rfl rfl) ?_
  go_frame
  refine listW_run (some 110) rfl rfl (exec_extract (v := .int .i64 2) _ _ rfl rfl rfl) ?_
  go_frame
  refine listW_run (some 21) rfl rfl (Rg.exec_assign (v := bv) _ rfl rfl) ?_
  go_frame
  refine listW_run (some 22) rfl rfl (Rg.exec_assign (v := .int .i64 2) _ rfl rfl) ?_
  go_frame
  clear hr hd hb hbv
  go_upto_region 13 with (fail)
  refine wp_region_list ?_
  refine listW_ask (some 111) rfl rfl _ _ (exec_fn0 9 _ rfl (clAwake _ _)) ?_
  refine (awake_any W12).mono ?_
  rintro e W13 ⟨rfl, hb⟩
  refine ⟨_, rfl, ?_⟩
  go_frame
  have K13 := Lib.hid (Rg.acc K12.out hb)
  have V12 := Lib.hid (Rg.Ints.below V11.out hb)
  clear hb
  refine listW_run (some 112) rfl rfl (Rg.exec_move (v := .bool true) _ rfl rfl) ?_
  go_frame
  refine listW_run (some 113) rfl rfl (Rg.exec_move (v := .bool true) _ rfl rfl) ?_
  go_frame
  refine listW_run (some 114) rfl rfl (exec_pickT (v := .bool true) _ _ _ rfl rfl rfl) ?_
  go_frame
  refine listW_run (some 115) rfl rfl (Rg.exec_move (v := .bool true) _ rfl rfl) ?_
  go_frame
  refine listW_run (some 116) rfl rfl (Rg.exec_move (v := .bool true) _ rfl rfl) ?_
  go_frame
  refine listW_run (some 117) rfl rfl (exec_pickT (v := .bool true) _ _ _ rfl rfl rfl) ?_
  go_frame
  refine listW_run (some 118) rfl rfl (Rg.exec_move (v := .bool true) _ rfl rfl) ?_
  go_frame
  refine listW_run (some 119) rfl rfl (Rg.exec_move (v := .int .i64 18) _ rfl rfl) ?_
  go_frame
  refine listW_run (some 120) rfl rfl (exec_eqI (u := 18) (v := 18) _ _ rfl rfl rfl rfl) ?_
  go_frame
  refine listW_run (some 121) rfl rfl (exec_pickT (v := .bool true) _ _ _ rfl rfl rfl) ?_
  go_frame
  refine listW_run (some 122) rfl rfl (Rg.exec_move (v := .bool true) _ rfl rfl) ?_
  go_frame
  refine listW_run (some 123) rfl rfl (Rg.exec_move (v := .int .i64 18) _ rfl rfl) ?_
  go_frame
  refine listW_run (some 124) rfl rfl (exec_eqI (u := 18) (v := 18) _ _ rfl rfl rfl rfl) ?_
  go_frame
  refine listW_run (some 125) rfl rfl (exec_pickT (v := .bool true) _ _ _ rfl rfl rfl) ?_
  go_frame
  refine listW_run (some 126) rfl rfl (Rg.exec_move (v := .bool true) _ rfl rfl) ?_
  go_frame
  refine listW_run (some 127) rfl rfl (Rg.exec_move (v := .int .i64 0) _ rfl rfl) ?_
  go_frame
  refine listW_run (some 128) rfl rfl (exec_eqI (u := 0) (v := 0) _ _ rfl rfl rfl rfl) ?_
  go_frame
  refine listW_run (some 129) rfl rfl (exec_pickT (v := .bool true) _ _ _ rfl rfl rfl) ?_
  go_frame
  refine listW_run (some 130) rfl rfl (Rg.exec_move (v := .bool true) _ rfl rfl) ?_
  go_frame
  refine listW_run (some 131) rfl rfl (Rg.exec_move (v := sv11) _ rfl rfl) ?_
  go_frame
  have hn := (Below.refl W13.heap.size W13).alloc (Nat.le_refl _) (.cells (([1, 2] : List Int).map (Value.int .i64)).toArray 3)
  have hp := ints_new W13 3 [1, 2] (by decide)
  refine listW_run (some 132) rfl rfl (exec_flat _ _ 2 _ rfl [1, 2] Try.underlying40 szInt zInt rfl (by decide) (by decide) rfl) ?_
  go_frame
  refine listW_ask (some 133) rfl rfl _ _ (exec_fn 12 _ _ _ rfl rfl rfl (cl7 _ _)) ?_
  refine (Same_any (Rg.Ints.below V12.out hn) hp (selfT _) (Rg.acc K13.out hn)).mono ?_
  rintro e W14 ⟨rfl, hb⟩
  refine ⟨_, rfl, ?_⟩
  go_frame
  have K14 := Lib.hid hb
  clear hb hn hp
  refine listW_run (some 134) rfl rfl (exec_pickT (v := .bool true) _ _ _ rfl rfl rfl) ?_
  go_frame
  refine listW_run (some 135) rfl rfl (Rg.exec_move (v := .bool true) _ rfl rfl) ?_
  go_frame
  refine listW_run (some 136) rfl rfl (Rg.exec_move (v := .int .i64 2) _ rfl rfl) ?_
  go_frame
  refine listW_run (some 137) rfl rfl (exec_eqI (u := 2) (v := 2) _ _ rfl rfl rfl rfl) ?_
  go_frame
  refine listW_run (some 138) rfl rfl (exec_pickT (v := .bool true) _ _ _ rfl rfl rfl) ?_
  go_frame
  refine listW_run (some 0) rfl rfl (Rg.exec_assign (v := .bool true) _ rfl rfl) ?_
  go_frame
  go_wp2
  go_ret
  exact ⟨rfl, K14.out⟩
end Go.Proofs.Ytjifdmfoijoekaa

