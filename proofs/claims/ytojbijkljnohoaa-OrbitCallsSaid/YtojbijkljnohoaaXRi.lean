/- One operation of a drawn region that only reads, by its run. -/
import Derived.Test.YtojbijkljnohoaaXRh
import Derived.StillTailTactics
import Derived.Deep.MidRow
set_option linter.unusedVariables false
namespace Go.Proofs.Rg
open Go Go.RowKit

theorem still_run {P : Program} {ops : Array Oper} {Q : Act → Prop} {rest : List Oper} {o : Oper} {a : Act} {w : World} {v : Value} (d : Option Tmp) (hd : o.dst = d) (hw : Region.wanted o (yielded ops a.tmps) = true)
    (hr : (execOp a.eval o).run P w = .ok (.value v) w) (h : wpStill P ops w Q rest (a.put d v)) : wpStill P ops w Q (o :: rest) a := by
  subst hd
  refine wpStill_step (fun K hK => ?_)
  rw [if_pos hw]
  unfold Oper.still
  rw [hr]
  exact ⟨rfl, hK _ h⟩
theorem exec_load {P : Program} {o : Oper} {a : Act} {w : World} {v : Value} (t : TypeId) (x : Operand) (ho : o.op = .load t x) (ad : Addr) (hx : a.eval x = .pointer (some ad)) (hr : (loadVar t ad).run P w = .ok v w) :
    (execOp a.eval o).run P w = .ok (.value v) w := by
  unfold execOp
  simp only [ho, hx, Instr.loadAt, Instr.sureAddr, Sem.run_bind, Sem.run_pure, Result.andThen_ok, hr]
theorem exec_lookup {P : Program} {o : Oper} {a : Act} {w : World} {v : Value} (t : TypeId) (m k : Operand) (ok : Bool) (ho : o.op = .lookup t m k ok) (mv kv : Value) (hm : a.eval m = mv) (hk : a.eval k = kv)
    (hr : (Instr.lookup t mv kv ok).run P w = .ok v w) : (execOp a.eval o).run P w = .ok (.value v) w := by
  unfold execOp
  simp only [ho, hm, hk, Sem.run_bind, Sem.run_pure, Result.andThen_ok, hr]
theorem list_run {P : Program} {ops : Array Oper} {rest : List Oper} {o : Oper} {a : Act} {w w' : World} {Q : Exit → Act → World → Prop} {v : Value} (d : Option Tmp) (hg : o.guard = none) (hd : o.dst = d)
    (hr : (execOp a.eval o).run P w = .ok (.value v) w') (h : wpList P ops Q rest (a.put d v) w') : wpList P ops Q (o :: rest) a w := by
  subst hd
  refine wpList_plain hg fun K hK => ?_
  unfold Oper.wp
  rw [hr]
  exact hK _ _ h
theorem list_skip {P : Program} {ops : Array Oper} {rest : List Oper} {o : Oper} {a : Act} {w w' : World} {Q : Exit → Act → World → Prop} (d : Option Tmp) (hg : o.guard = none) (hd : o.dst = d)
    (hr : (execOp a.eval o).run P w = .ok .skip w') (h : wpList P ops Q rest (a.put d undef) w') : wpList P ops Q (o :: rest) a w := by
  subst hd
  refine wpList_plain hg fun K hK => ?_
  unfold Oper.wp
  rw [hr]
  exact hK _ _ h
theorem exec_mapUpdate {P : Program} {o : Oper} {a : Act} {w w' : World} (t : TypeId) (m k x : Operand) (ho : o.op = .mapUpdate t m k x) (mv kv xv : Value) (hm : a.eval m = mv) (hk : a.eval k = kv) (hx : a.eval x = xv)
    (hr : (Instr.mapUpdate t mv kv xv).run P w = .ok () w') : (execOp a.eval o).run P w = .ok .skip w' := by
  unfold execOp
  simp [ho, hm, hk, hx, hr, Result.andThen]
end Go.Proofs.Rg

