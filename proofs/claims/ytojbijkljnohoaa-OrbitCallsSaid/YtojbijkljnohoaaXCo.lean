/- Lemmas and contracts on the way to the statement; no condition of their own beyond those written. -/
import Derived.Test.YtojbijkljnohoaaXEx
set_option linter.unusedVariables false
/-! Common helpers: calls with many arguments; a cell as a fact. -/
namespace Go.Proofs.Ytojbijkljnohoaa
open Go.RowKit
open Go.Proofs
attribute [local irreducible] Go.Calls

theorem exec_fn5 {o : Oper} {a : Act} {w : World} {u1 u2 u3 u4 u5 : Value} (F : FuncId) (x y z t s : Operand) (tys : Array TypeId) (ho : o.op = .call { callee := .value (.func F), args := #[x, y, z, t, s], argTypes := tys }) (hx : a.eval x = u1) (hy : a.eval y = u2) (hz : a.eval z = u3) (ht : a.eval t = u4) (hs : a.eval s = u5)
    (hF : (callFunc F #[u1, u2, u3, u4, u5]).run Try.prog w = .ok (.enter F #[u1, u2, u3, u4, u5]) w) : (execOp a.eval o).run Try.prog w = .ok (.enter F #[u1, u2, u3, u4, u5]) w := by
  unfold execOp
  have hf : a.eval (.func F) = .func (.func F) #[] #[] := rfl
  simp [ho, hx, hy, hz, ht, hs, hf, resolve, invoke, Deferred.ofValue, hF]
theorem b_lss {w : World} {u v : Int} {b : Bool} (t : TypeId) (h : decide (u < v) = b) : (binOp .lss t (.int .i64 u) (.int .i64 v)).run Try.prog w = .ok (.bool b) w := by
  subst h
  simp [binOp, Op.intCmp]
theorem b_leq {w : World} {u v : Int} {b : Bool} (t : TypeId) (h : decide (u ≤ v) = b) : (binOp .leq t (.int .i64 u) (.int .i64 v)).run Try.prog w = .ok (.bool b) w := by
  subst h
  simp [binOp, Op.intCmp]
theorem b_geq {w : World} {u v : Int} {b : Bool} (t : TypeId) (h : decide (v ≤ u) = b) : (binOp .geq t (.int .i64 u) (.int .i64 v)).run Try.prog w = .ok (.bool b) w := by
  subst h
  simp [binOp, Op.intCmp]
theorem b_neqB {w : World} {u v : Int} {b : Bool} (t : TypeId) (h : decide (u ≠ v) = b) : (binOp .neq t (.int .i64 u) (.int .i64 v)).run Try.prog w = .ok (.bool b) w := by
  subst h
  by_cases e : u = v <;> simp [binOp, Op.intCmp, e]
/-- what a cell holds -/
def Cel (w : World) (b o : Nat) (v : Value) : Prop := w.cell? ⟨b, o, none⟩ = some v ∧ b < w.heap.size
theorem Cel.below {w w' : World} {b o : Nat} {v : Value} (h : Cel w b o v) (hb : Below w.heap.size w w') : Cel w' b o v :=
  ⟨(hb.cell (p := ⟨b, o, none⟩) h.2).trans h.1, Nat.lt_of_lt_of_le h.2 hb.size⟩
theorem Cel.new (w : World) (cs : Array Value) (t : TypeId) (j : Nat) {v : Value} (h : cs[j]? = some v) : Cel (w.alloc (.cells cs t)) w.heap.size j v := ⟨by rw [Rg.cellNew]; exact h, by simp⟩
/-- a group in two cells -/
def GI (w : World) (b : Nat) (d : Int) (a : Option Addr) (ll : List (List Int)) (c : Nat) : Prop :=
  w.cell? ⟨b, 0, none⟩ = some (.int .i64 d) ∧ w.cell? ⟨b, 1, none⟩ = some (.slice a ll.length c) ∧ Rg.Rows w (.slice a ll.length c) ll ∧ b < w.heap.size
theorem GI.c0 {w : World} {b : Nat} {d : Int} {a : Option Addr} {ll : List (List Int)} {c : Nat} (h : GI w b d a ll c) : w.cell? ⟨b, 0, none⟩ = some (.int .i64 d) := h.1
theorem GI.c1 {w : World} {b : Nat} {d : Int} {a : Option Addr} {ll : List (List Int)} {c : Nat} (h : GI w b d a ll c) : w.cell? ⟨b, 1, none⟩ = some (.slice a ll.length c) := h.2.1
theorem GI.rows {w : World} {b : Nat} {d : Int} {a : Option Addr} {ll : List (List Int)} {c : Nat} (h : GI w b d a ll c) : Rg.Rows w (.slice a ll.length c) ll := h.2.2.1
theorem GI.lt {w : World} {b : Nat} {d : Int} {a : Option Addr} {ll : List (List Int)} {c : Nat} (h : GI w b d a ll c) : b < w.heap.size := h.2.2.2
theorem GI.below {w w' : World} {b : Nat} {d : Int} {a : Option Addr} {ll : List (List Int)} {c : Nat} (h : GI w b d a ll c) (hb : Below w.heap.size w w') : GI w' b d a ll c :=
  ⟨(hb.cell (p := ⟨b, 0, none⟩) h.lt).trans h.c0, (hb.cell (p := ⟨b, 1, none⟩) h.lt).trans h.c1, Rg.Rows.below h.rows hb, Nat.lt_of_lt_of_le h.lt hb.size⟩
theorem GI.new {w : World} {d : Int} {a : Option Addr} {ll : List (List Int)} {c : Nat} (h : Rg.Rows w (.slice a ll.length c) ll) : GI (w.alloc (.cells #[.int .i64 d, .slice a ll.length c] 24)) w.heap.size d a ll c :=
  ⟨by rw [Rg.cellNew]; rfl, by rw [Rg.cellNew]; rfl, Rg.Rows.below h ((Below.refl _ _).alloc (Nat.le_refl _) _), by simp⟩
/-- a group argument in its own cells -/
theorem GI.enter {w : World} {gv : Value} (d : Int) {ll : List (List Int)} (h : Rg.Rows w gv ll) : ∃ a c, gv = .slice a ll.length c ∧ GI (w.alloc (.cells #[.int .i64 d, .slice a ll.length c] 24)) w.heap.size d a ll c ∧ Below w.heap.size w (w.alloc (.cells #[.int .i64 d, .slice a ll.length c] 24)) := by
  obtain ⟨a, c, rfl, _⟩ := h.shape
  exact ⟨a, c, rfl, GI.new h, (Below.refl _ _).alloc (Nat.le_refl _) _⟩
end Go.Proofs.Ytojbijkljnohoaa

