/- Lemmas and contracts on the way to the statement; no condition of their own beyond those written. -/
import Derived.Test.YtojbijkljnohoaaXEx
set_option linter.unusedVariables false
/-! Common helpers: calls with many arguments; a cell as a fact. -/
namespace Go.Proofs.Ytojbijkljnohoaa
open Go.RowKit
open Go.Proofs
attribute [local irreducible] Go.Calls

theorem exec_fn5 {o : Oper} {a : Act} {w : World} {u1 u2 u3 u4 u5 : Value} (F : FuncId) (x y z t s : Operand) (tys : Array TypeId) (ho : o.op = .call { callee := .value (.func F), args := #[x, y, z, t, s], argTypes := tys }) (hx : a.eval x = u1) (hy : a.eval y = u2) (hz : a.eval z = u3) (ht : a.eval t = u4) (hs : a.eval s = u5)
    (hF : (callFunc F #[u1, u2, u3, u4, u5]).run Try.prog w = .ok (.enter F #[u1, u2, u3, u4, u5]) w) : (execOp a.eval o).run Try.prog w = .ok (.enter F #[u1, u2, u3, u4, u5]) w := by
  unfold execOp
  have hf : a.eval (.func F) = .func (.func F) #[] #[] := rfl
  simp [ho, hx, hy, hz, ht, hs, hf, resolve, invoke, Deferred.ofValue, hF]
/-- what a cell holds -/
def Cel (w : World) (b o : Nat) (v : Value) : Prop := w.cell? ⟨b, o, none⟩ = some v ∧ b < w.heap.size
theorem Cel.below {w w' : World} {b o : Nat} {v : Value} (h : Cel w b o v) (hb : Below w.heap.size w w') : Cel w' b o v :=
  ⟨(hb.cell (p := ⟨b, o, none⟩) h.2).trans h.1, Nat.lt_of_lt_of_le h.2 hb.size⟩
theorem Cel.new (w : World) (cs : Array Value) (t : TypeId) (j : Nat) {v : Value} (h : cs[j]? = some v) : Cel (w.alloc (.cells cs t)) w.heap.size j v := ⟨by rw [Rg.cellNew]; exact h, by simp⟩
end Go.Proofs.Ytojbijkljnohoaa

