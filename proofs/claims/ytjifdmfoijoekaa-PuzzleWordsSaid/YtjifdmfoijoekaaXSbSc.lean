/- Lemmas and contracts on the way to the statement; no condition of their own beyond those written. -/
import Derived.Test.YtjifdmfoijoekaaXSa
import Derived.Test.YtjifdmfoijoekaaXRz
import Derived.Deep.CutRange
import Derived.Deep.CutBlock
set_option linter.unusedVariables false
/-! puzzle.build's closures. -/
namespace Go.Proofs.Ytjifdmfoijoekaa.Rj
open Go.Proofs.Ytjifdmfoijoekaa
open Go.RowKit
open Go.Proofs
attribute [local irreducible] Go.Calls

theorem infoPerm : (Try.prog.info? 39).map (fun i => (i.zero, i.size, i.bytes)) = some (some (.slice none 0 0), 1, 24) := by kernel_rfl
theorem run_buildP2 (X : World) (u v : Value) (hu : ∃ a n c, u = .slice a n c) (hv : ∃ a n c, v = .slice a n c) : (Instr.buildSlice 22 2 #[(0, u), (1, v)]).run Try.prog X = .ok (.slice (some ⟨X.heap.size, 0, none⟩) 2 2) (X.alloc (.cells #[u, v] 39)) := by
  obtain ⟨i0, hi, hz0, hz1, hz2⟩ := info_parts infoPerm
  obtain ⟨a, n, c, rfl⟩ := hu
  obtain ⟨a', n', c', rfl⟩ := hv
  refine run_buildSlice X 22 39 2 _ _ i0 _ Try.underlying22 hi hz0 (by rw [hz1]; decide) (by rw [hz1]; decide) ?_
  generalize (fun x => ((Value.slice none 0 0).cells)[x % (Value.slice none 0 0).cells.size]!) = f
  rw [hz1]
  have h1 : Array.range (2 * 1) = #[0, 1] := rfl
  simp [Instr.fill, Value.cells, h1]

theorem rings_num {a b k : Nat} : ¬ ((a : Int) < 2 ∨ 32 < (a : Int) ∨ (b : Int) < 2 ∨ 32 < (b : Int) ∨ (k : Int) < 1 ∨ min (a : Int) (b : Int) ≤ (k : Int)) ↔ (2 ≤ a ∧ a ≤ 32 ∧ 2 ≤ b ∧ b ≤ 32 ∧ 1 ≤ k ∧ k < a ∧ k < b) := by omega

/-- rows whose blocks all lie from block B on -/
def RowsF (B : Nat) (w : World) (v : Value) (ll : List (List Int)) : Prop :=
  ∃ us, Rg.Vals w v us ∧ Rg.Fresh B v ∧ us.length = ll.length ∧ ∀ i (h : i < us.length) (h2 : i < ll.length), Rg.Ints w us[i] ll[i] ∧ Rg.Fresh B us[i]
theorem RowsF.rows {B : Nat} {w : World} {v : Value} {ll : List (List Int)} (h : RowsF B w v ll) : Rg.Rows w v ll := by
  obtain ⟨us, h1, _, h3, h4⟩ := h
  exact ⟨us, h1, h3, fun i a b => (h4 i a b).1⟩
theorem RowsF.mono {B B' : Nat} {w : World} {v : Value} {ll : List (List Int)} (h : RowsF B w v ll) (hb : B' ≤ B) : RowsF B' w v ll := by
  obtain ⟨us, h1, h2, h3, h4⟩ := h
  exact ⟨us, h1, h2.mono hb, h3, fun i a b => ⟨(h4 i a b).1, (h4 i a b).2.mono hb⟩⟩
theorem vals_keep {B : Nat} {w w' : World} {v : Value} {us : List Value} (h : Rg.Vals w v us) (hf : Rg.Fresh B v) (hs : w.heap.size ≤ w'.heap.size) (hk : ∀ b o, B ≤ b → b < w.heap.size → w'.cell? ⟨b, o, none⟩ = w.cell? ⟨b, o, none⟩) : Rg.Vals w' v us := by
  obtain ⟨a, cap, h1, h2, h3, h4, h5⟩ := h
  refine ⟨a, cap, h1, h2, h3, h4, fun h0 => ?_⟩
  obtain ⟨b, o, e1, e2, e3⟩ := h5 h0
  have hB : B ≤ b := by
    subst e1
    exact hf _ _ _ h1
  exact ⟨b, o, e1, Nat.lt_of_lt_of_le e2 hs, fun i hi => (hk b _ hB e2).trans (e3 i hi)⟩
theorem RowsF.keep {B : Nat} {w w' : World} {v : Value} {ll : List (List Int)} (h : RowsF B w v ll) (hs : w.heap.size ≤ w'.heap.size) (hk : ∀ b o, B ≤ b → b < w.heap.size → w'.cell? ⟨b, o, none⟩ = w.cell? ⟨b, o, none⟩) : RowsF B w' v ll := by
  obtain ⟨us, h1, h2, h3, h4⟩ := h
  exact ⟨us, vals_keep h1 h2 hs hk, h2, h3, fun i a b => ⟨vals_keep (h4 i a b).1 (h4 i a b).2 hs hk, (h4 i a b).2⟩⟩
theorem RowsF.below {B : Nat} {w w' : World} {v : Value} {ll : List (List Int)} (h : RowsF B w v ll) (hb : Below w.heap.size w w') : RowsF B w' v ll :=
  h.keep hb.size fun b o _ h2 => hb.cell (p := ⟨b, o, none⟩) h2
theorem RowsF.set {B : Nat} {w : World} {v : Value} {ll : List (List Int)} (h : RowsF B w v ll) (b o : Nat) (u : Value) (hb : b < B) : RowsF B (w.setCell ⟨b, o, none⟩ u) v ll := by
  refine h.keep (by simp) fun b2 o2 h1 h2 => ?_
  exact World.cell?_setCell_other (h := by intro e; injection e with e1; omega) ..
theorem RowsF.two {B : Nat} {w : World} {v v' : Value} {l l' : List Int} (t : TypeId) (h : Rg.Ints w v l) (h' : Rg.Ints w v' l') (f : Rg.Fresh B v) (f' : Rg.Fresh B v') (hB : B ≤ w.heap.size) : RowsF B (w.alloc (.cells #[v, v'] t)) (.slice (some ⟨w.heap.size, 0, none⟩) 2 2) [l, l'] := by
  obtain ⟨us, h1, h2, h3⟩ := Rg.Rows.two t h h'
  refine ⟨[v, v'], ⟨_, 2, rfl, by simp, by unfold maxLen; simp, by simp [Rg.big], fun _ => ⟨w.heap.size, 0, rfl, by simp, fun i hi => ?_⟩⟩, (Rg.Fresh.mk _ _ _ _).mono hB, rfl, fun i h1 h2 => ?_⟩
  · have hi' : i = 0 ∨ i = 1 := by simp at hi; omega
    rcases hi' with rfl | rfl
    all_goals
      rw [Rg.cellNew]; rfl
  · have hi' : i = 0 ∨ i = 1 := by simp at h1; omega
    rcases hi' with rfl | rfl
    · exact ⟨Rg.Ints.below h ((Below.refl _ _).alloc (Nat.le_refl _) _), f⟩
    · exact ⟨Rg.Ints.below h' ((Below.refl _ _).alloc (Nat.le_refl _) _), f'⟩
theorem cellNewN (w : World) (cs : Array Value) (t : TypeId) (n j : Nat) : ((w.alloc (.cells cs t)).drewN n).cell? ⟨w.heap.size, j, none⟩ = cs[j]? := Rg.cellNew w cs t j

/-- The two rings. -/
def ringsG (a b k : Nat) : List (List Nat) := [cyc (a + b - k) 0 a, cyc (a + b - k) (a - k) (a + b - k)]

theorem cycle0 (n b : Nat) (w : World) (h1 : 1 ≤ n) (hn : n ≤ 64) (hab : 0 < b) (hb : b ≤ n) :
    Calls Try.prog 58 #[.int .i64 n, .int .i64 0, .int .i64 b] w fun e w' => ∃ v, e = .returned v ∧ Rg.NPF w w' v (cyc n 0 b) ∧ Below w.heap.size w w' := cycle_any n 0 b w h1 hn hab hb

theorem infoGroup : (Try.prog.info? 24).map (fun i => (i.zero, i.size, i.bytes)) = some (some (.agg #[.int .i64 0, .slice none 0 0]), 2, 32) := by kernel_rfl
/-- the store of a group into a cell pair -/
theorem run_storeG {w : World} {b : Nat} {u1 u2 : Value} (d : Int) (a : Option Addr) (n c : Nat) (h1 : w.cell? ⟨b, 0, none⟩ = some u1) (h2 : w.cell? ⟨b, 1, none⟩ = some u2) (f1 : w.frozen? ⟨b, 0, none⟩ = false) (f2 : w.frozen? ⟨b, 1, none⟩ = false) :
    (storeVar 24 ⟨b, 0, none⟩ (.agg #[.int .i64 d, .slice a n c])).run Try.prog w = .ok () ((w.setCell ⟨b, 0, none⟩ (.int .i64 d)).setCell ⟨b, 1, none⟩ (.slice a n c)) := by
  obtain ⟨i0, hi, hz0, hz1, hz2⟩ := info_parts infoGroup
  have g2 : (w.setCell ⟨b, 0, none⟩ (.int .i64 d)).cell? ⟨b, 1, none⟩ = some u2 := by
    rw [World.cell?_setCell_other (h := by intro e; injection e with e1 e2; omega) ..]
    exact h2
  have gf : (w.setCell ⟨b, 0, none⟩ (.int .i64 d)).frozen? ⟨b, 1, none⟩ = false := by rw [World.frozen?_setCell]; exact f2
  have ha0 : (⟨b, 0, none⟩ : Addr).add 0 = ⟨b, 0, none⟩ := by simp [Addr.add]
  have ha1 : (⟨b, 0, none⟩ : Addr).add 1 = ⟨b, 1, none⟩ := by simp [Addr.add]
  simp [storeVar, sizeOf, typeInfo, hi, hz1, Value.cells, storeCells, store, ha0, ha1]
  simp [Sem.run, h1, f1, g2, gf]
/-- the load of a group -/
theorem run_loadG {w : World} {b : Nat} {x y : Value} (h1 : w.cell? ⟨b, 0, none⟩ = some x) (h2 : w.cell? ⟨b, 1, none⟩ = some y) : (loadVar 24 ⟨b, 0, none⟩).run Try.prog w = .ok (.agg #[x, y]) w := by
  obtain ⟨i0, hi, hz0, hz1, hz2⟩ := info_parts infoGroup
  have ha0 : (⟨b, 0, none⟩ : Addr).add 0 = ⟨b, 0, none⟩ := by simp [Addr.add]
  have ha1 : (⟨b, 0, none⟩ : Addr).add 1 = ⟨b, 1, none⟩ := by simp [Addr.add]
  have hg : (isAgg 24).run Try.prog w = .ok true w := by kernel_rfl
  simp [loadVar, hg, sizeOf, typeInfo, hi, hz1, loadCells, loadCellsFrom, load, ha0, ha1]
  simp [Sem.run, h1, h2]
theorem results_cellG {fn : Func} {p : Tmp} (h : fn.results = #[.cell p 24]) (tmps : Array Value) {w : World} {b : Nat} {x y : Value} (hp : tmps.getD p undef = .pointer (some ⟨b, 0, none⟩)) (h1 : w.cell? ⟨b, 0, none⟩ = some x) (h2 : w.cell? ⟨b, 1, none⟩ = some y) :
    (results fn tmps).run Try.prog w = .ok (.agg #[x, y]) w := by
  have hp' : tmps[p]?.getD undef = .pointer (some ⟨b, 0, none⟩) := by simpa using hp
  simp [results, h, hp', asAddr, run_loadG h1 h2]
theorem results_cellG2 {fn : Func} {p u : Tmp} (h : fn.results = #[.cell p 24, .tmp u]) (tmps : Array Value) {w : World} {b : Nat} {x y z : Value} (hp : tmps.getD p undef = .pointer (some ⟨b, 0, none⟩)) (hu : tmps.getD u undef = z) (h1 : w.cell? ⟨b, 0, none⟩ = some x) (h2 : w.cell? ⟨b, 1, none⟩ = some y) :
    (results fn tmps).run Try.prog w = .ok (.tuple #[.agg #[x, y], z]) w := by
  rw [results_cell_tmp h, hp, hu]
  simp [asAddr, run_loadG h1 h2, Result.andThen]
theorem exec_buildP {o : Oper} {a : Act} {w w' : World} {v u1 u2 : Value} (x y : Operand) (ho : o.op = .buildSlice 22 2 #[(0, x), (1, y)]) (hx : a.eval x = u1) (hy : a.eval y = u2)
    (hr : (Instr.buildSlice 22 2 #[(0, u1), (1, u2)]).run Try.prog w = .ok v w') : (execOp a.eval o).run Try.prog w = .ok (.value v) w' := by
  subst hx hy
  unfold execOp
  simp only [ho, Sem.run_bind, Sem.run_pure]
  simp only [List.map_toArray, List.map_cons, List.map_nil]
  rw [hr]
  rfl

theorem exec_buildG {o : Oper} {a : Act} {w : World} {d : Int} {ad : Option Addr} {n c : Nat} (x y : Operand) (ho : o.op = .build 24 #[(0, x), (1, y)]) (hx : a.eval x = .int .i64 d) (hy : a.eval y = .slice ad n c) :
    (execOp a.eval o).run Try.prog w = .ok (.value (.agg #[.int .i64 d, .slice ad n c])) w := by
  unfold execOp
  simp only [ho, Sem.run_bind, Sem.run_pure]
  simp only [List.map_toArray, List.map_cons, List.map_nil, hx, hy]
  have h : (Instr.build 24 #[(0, .int .i64 d), (1, .slice ad n c)]).run Try.prog w = .ok (.agg #[.int .i64 d, .slice ad n c]) w := by kernel_rfl
  rw [h]
  rfl

theorem group_set {w W : World} {b : Nat} {u1 u2 : Value} (x y : Value) (h1 : W.cell? ⟨b, 0, none⟩ = some u1) (h2 : W.cell? ⟨b, 1, none⟩ = some u2) {B : Nat} (hb : Below B w W) (hB : B ≤ b := by omega) :
    ((W.setCell ⟨b, 0, none⟩ x).setCell ⟨b, 1, none⟩ y).cell? ⟨b, 0, none⟩ = some x ∧ ((W.setCell ⟨b, 0, none⟩ x).setCell ⟨b, 1, none⟩ y).cell? ⟨b, 1, none⟩ = some y ∧ Below B w ((W.setCell ⟨b, 0, none⟩ x).setCell ⟨b, 1, none⟩ y) := by
  have g2 : (W.setCell ⟨b, 0, none⟩ x).cell? ⟨b, 1, none⟩ = some u2 := by
    rw [World.cell?_setCell_other (h := by intro e; injection e with e1 e2; omega) ..]
    exact h2
  refine ⟨?_, World.cell?_setCell_same (h := g2) .., (hb.setCell hB _).setCell hB _⟩
  rw [World.cell?_setCell_other (h := by intro e; injection e with e1 e2; omega) ..]
  exact World.cell?_setCell_same (h := h1) ..

theorem rings_end {w wd w1 w2 : World} {v1 v2 : Value} {l1 l2 : List Nat} (hsz : wd.heap.size = w.heap.size + 1) (hr0 : wd.cell? ⟨w.heap.size, 0, none⟩ = some (.int .i64 0)) (hr1 : wd.cell? ⟨w.heap.size, 1, none⟩ = some (.slice none 0 0))
    (hrf : ∀ o, wd.frozen? ⟨w.heap.size, o, none⟩ = false) (hba : Below w.heap.size w wd) (hv1 : Rg.NPF wd w1 v1 l1) (hb1 : Below wd.heap.size wd w1) (hv2 : Rg.NPF w1 w2 v2 l2) (hb2 : Below w1.heap.size w1 w2) :
    (Instr.buildSlice 22 2 #[(0, v1), (1, v2)]).run Try.prog w2 = .ok (.slice (some ⟨w2.heap.size, 0, none⟩) 2 2) (w2.alloc (.cells #[v1, v2] 39)) ∧
    (w2.alloc (.cells #[v1, v2] 39)).cell? ⟨w.heap.size, 0, none⟩ = some (.int .i64 0) ∧ (w2.alloc (.cells #[v1, v2] 39)).cell? ⟨w.heap.size, 1, none⟩ = some (.slice none 0 0) ∧
    (w2.alloc (.cells #[v1, v2] 39)).frozen? ⟨w.heap.size, 0, none⟩ = false ∧ (w2.alloc (.cells #[v1, v2] 39)).frozen? ⟨w.heap.size, 1, none⟩ = false ∧
    (∀ x y, RowsF w.heap.size (((w2.alloc (.cells #[v1, v2] 39)).setCell ⟨w.heap.size, 0, none⟩ x).setCell ⟨w.heap.size, 1, none⟩ y) (.slice (some ⟨w2.heap.size, 0, none⟩) 2 2) [Ma.ofN l1, Ma.ofN l2]) ∧
    (∀ x y, (((w2.alloc (.cells #[v1, v2] 39)).setCell ⟨w.heap.size, 0, none⟩ x).setCell ⟨w.heap.size, 1, none⟩ y).cell? ⟨w.heap.size, 0, none⟩ = some x ∧ (((w2.alloc (.cells #[v1, v2] 39)).setCell ⟨w.heap.size, 0, none⟩ x).setCell ⟨w.heap.size, 1, none⟩ y).cell? ⟨w.heap.size, 1, none⟩ = some y ∧
      Below w.heap.size w (((w2.alloc (.cells #[v1, v2] 39)).setCell ⟨w.heap.size, 0, none⟩ x).setCell ⟨w.heap.size, 1, none⟩ y)) := by
  have h1 := Rg.acc hb1 hb2
  have h2 : Below wd.heap.size wd (w2.alloc (.cells #[v1, v2] 39)) := h1.alloc h1.size _
  have s1 := hb1.size
  have s2 := hb2.size
  obtain ⟨k1, k2⟩ := Rg.bcell h2
  have hlt : w.heap.size < wd.heap.size := by omega
  refine ⟨run_buildP2 _ _ _ ?_ ?_, (k1 _ _ hlt).trans hr0, (k1 _ _ hlt).trans hr1, (k2 _ _ hlt).trans (hrf _), (k2 _ _ hlt).trans (hrf _), fun x y => ?_, fun x y => group_set x y ((k1 _ _ hlt).trans hr0) ((k1 _ _ hlt).trans hr1) (Rg.acc hba h2)⟩
  · obtain ⟨a, c, e, _⟩ := hv1.1.shape; exact ⟨a, _, c, e⟩
  · obtain ⟨a, c, e, _⟩ := hv2.1.shape; exact ⟨a, _, c, e⟩
  · have hR : RowsF (w.heap.size + 1) (w2.alloc (.cells #[v1, v2] 39)) (.slice (some ⟨w2.heap.size, 0, none⟩) 2 2) [Ma.ofN l1, Ma.ofN l2] :=
      RowsF.two _ (hv1.1.below hb2) hv2.1 (hv1.2.mono (by omega)) (hv2.2.mono (by omega)) (by omega)
    exact ((hR.set _ _ _ (by omega)).set _ _ _ (by omega)).mono (by omega)

end Go.Proofs.Ytjifdmfoijoekaa.Rj

/-! puzzle.build's closures: the rings, walked. -/
namespace Go.Proofs.Ytjifdmfoijoekaa.Rj
open Go.Proofs.Ytjifdmfoijoekaa
open Go.RowKit
open Go.Proofs
attribute [local irreducible] Go.Calls

theorem npf_open {w w' : World} {v : Value} {l : List Nat} (h : Rg.NPF w w' v l) : ∃ a n c, v = .slice a n c ∧ Hid (Rg.NPF w w' (.slice a n c) l) := by
  obtain ⟨a, c, rfl, _⟩ := h.1.shape
  exact ⟨a, _, c, rfl, Lib.hid h⟩
theorem frozenNewN (w : World) (cs : Array Value) (t : TypeId) (n j : Nat) : ((w.alloc (.cells cs t)).drewN n).frozen? ⟨w.heap.size, j, none⟩ = false := by
  have h : (w.alloc (.cells cs t)).frozen? ⟨w.heap.size, j, none⟩ = false := by simp
  exact h

set_option maxHeartbeats 800000 in
theorem build1_ok (a b k : Nat) (w : World) (bp ar cp : Nat) (hbp : bp < w.heap.size) (har : ar < w.heap.size)
    (h0 : w.cell? ⟨bp, 0, none⟩ = some (.slice (some ⟨ar, 0, none⟩) 3 cp)) (h1 : w.cell? ⟨ar, 0, none⟩ = some (.int .i64 a)) (h2 : w.cell? ⟨ar, 1, none⟩ = some (.int .i64 b)) (h3 : w.cell? ⟨ar, 2, none⟩ = some (.int .i64 k))
    (ha : 2 ≤ a) (ha2 : a ≤ 32) (hb : 2 ≤ b) (hb2 : b ≤ 32) (hk : 1 ≤ k) (hka : k < a) (hkb : k < b) :
    Calls Try.prog 57 #[.pointer (some ⟨bp, 0, none⟩)] w fun e w' => ∃ v, e = .returned (.agg #[.int .i64 ((a + b - k : Nat) : Int), v]) ∧ RowsF w.heap.size w' v ((ringsG a b k).map Ma.ofN) ∧ Below w.heap.size w w' := by
  have hba : Below w.heap.size w (w.alloc (.cells #[.int .i64 0, .slice none 0 0] 24)) := (Below.refl _ _).alloc (Nat.le_refl _) _
  have c0 := (hba.cell (p := ⟨bp, 0, none⟩) hbp).trans h0
  have c1 := (hba.cell (p := ⟨ar, 0, none⟩) har).trans h1
  have c2 := (hba.cell (p := ⟨ar, 1, none⟩) har).trans h2
  have c3 := (hba.cell (p := ⟨ar, 2, none⟩) har).trans h3
  have e1 : (a : Int) + (b : Int) - (k : Int) = ((a + b - k : Nat) : Int) := by omega
  have e2 : (a : Int) - (k : Int) = ((a - k : Nat) : Int) := by omega
  have e3 : min (a : Int) (b : Int) = ((min a b : Nat) : Int) := by omega
  have e4 : ¬ (((min a b : Nat) : Int) ≤ (k : Int)) := by omega
  clear h0 h1 h2 h3
  go_enter Try.func57, Try.ntmps57
  have f0 : (0 : Int) < ((3 : Nat) : Int) := by decide
  have f1 : (1 : Int) < ((3 : Nat) : Int) := by decide
  have f2 : (2 : Int) < ((3 : Nat) : Int) := by decide
  go_wp2
  go_quiet (fail)
  clear c0 c1 c2 c3 f0 f1 f2
  have e5 : ¬ ((if (b : Int) < (a : Int) then (b : Int) else (a : Int)) ≤ (k : Int)) := by split <;> omega
  have Hba := Lib.hid (show Below w.heap.size w ((w.alloc (.cells #[.int .i64 0, .slice none 0 0] 24)).drewN nq) from Rg.drewN hba nq)
  have hsz := Lib.hid (show ((w.alloc (.cells #[.int .i64 0, .slice none 0 0] 24)).drewN nq).heap.size = w.heap.size + 1 by simp [World.drewN])
  have hr0 := Lib.hid (cellNewN w #[.int .i64 0, .slice none 0 0] 24 nq 0)
  have hr1 := Lib.hid (cellNewN w #[.int .i64 0, .slice none 0 0] 24 nq 1)
  have hrf : ∀ o, ((w.alloc (.cells #[.int .i64 0, .slice none 0 0] 24)).drewN nq).frozen? ⟨w.heap.size, o, none⟩ = false := fun o => frozenNewN _ _ _ _ _
  have Hrf := Lib.hid hrf
  clear hba e3 hrf
  generalize hwd : (w.alloc (.cells #[.int .i64 0, .slice none 0 0] 24)).drewN nq = wd at *
  go_wp2_with (first | (go_at_call 58; refine (cycle0 (a + b - k) a _ (by omega) (by omega) (by omega) (by omega)).mono ?_; rintro e w1 ⟨v1, rfl, hv1, hb1⟩; obtain ⟨a1, n1, c1, rfl, Hv1⟩ := npf_open hv1; have Hb1 := Lib.hid hb1; clear hv1 hb1) | (go_at_call 58; refine (cycle_any (a + b - k) (a - k) (a + b - k) _ (by omega) (by omega) (by omega) (by omega)).mono ?_; rintro e w2 ⟨v2, rfl, hv2, hb2⟩; obtain ⟨a2, n2, c2, rfl, Hv2⟩ := npf_open hv2; have Hb2 := Lib.hid hb2; clear hv2 hb2; obtain ⟨hbs, q0, q1, q2, q3, q4, q5⟩ := rings_end hsz.out hr0.out hr1.out Hrf.out Hba.out Hv1.out Hb1.out Hv2.out Hb2.out; have HBS := Lib.hid hbs; have Q4 := Lib.hid q4; have Q5 := Lib.hid q5; have HSG := Lib.hid (run_storeG ((a + b - k : Nat) : Int) (some ⟨w2.heap.size, 0, none⟩) 2 2 q0 q1 q2 q3); have Z := Lib.hid (And.intro (q4 (.int .i64 ((a + b - k : Nat) : Int)) (.slice (some ⟨w2.heap.size, 0, none⟩) 2 2)) (q5 (.int .i64 ((a + b - k : Nat) : Int)) (.slice (some ⟨w2.heap.size, 0, none⟩) 2 2))); clear hbs q0 q1 q2 q3 q4 q5 Q4 Q5; clear hsz hr0 hr1 Hrf hwd e5 e1 e2; rename_i hgo; refine hgo _ _ ?_; refine Rg.list_run (some 56) rfl rfl (exec_buildP _ _ rfl rfl rfl HBS.out) ?_; go_frame; refine Rg.list_run (some 57) rfl rfl (exec_buildG _ _ rfl rfl rfl) ?_; go_frame; refine Rg.list_skip none rfl rfl (Rg.exec_store _ _ _ rfl _ rfl _ rfl HSG.out) ?_; go_frame; clear HSG HBS; generalize (((w2.alloc (.cells #[.slice a1 n1 c1, .slice a2 n2 c2] 39)).setCell ⟨w.heap.size, 0, none⟩ (.int .i64 ((a + b - k : Nat) : Int))).setCell ⟨w.heap.size, 1, none⟩ (.slice (some ⟨w2.heap.size, 0, none⟩) 2 2)) = W4 at *; have z0 := Z.out.2.1; have z1 := Z.out.2.2.1))
  all_goals
    exact bodyPost_ret (results_cellG rfl _ rfl z0 z1) rfl ⟨_, rfl, Z.out.1, Z.out.2.2.2⟩
end Go.Proofs.Ytjifdmfoijoekaa.Rj

