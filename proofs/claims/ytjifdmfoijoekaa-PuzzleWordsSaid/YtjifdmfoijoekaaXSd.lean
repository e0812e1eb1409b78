/- Lemmas and contracts on the way to the statement; no condition of their own beyond those written. -/
import Derived.Test.YtjifdmfoijoekaaXSbSc
import Derived.WideMake
import Derived.RangeFuncOwn
set_option linter.unusedVariables false
/-! The map of makers: three inserts, a look-up. -/
namespace Go.Proofs.Ytjifdmfoijoekaa.Rj
open Go.Proofs.Ytjifdmfoijoekaa
open Go.RowKit
open Go.Proofs
attribute [local irreducible] Go.Calls

def putMap (w : World) (r : Nat) (es : Array MapEntry) (c : Nat) : World := { w with heap := w.heap.setIfInBounds r (.map es c) }
theorem putMap_size (w : World) (r : Nat) (es : Array MapEntry) (c : Nat) : (putMap w r es c).heap.size = w.heap.size := by simp [putMap]
theorem putMap_get {w : World} {r : Nat} (es : Array MapEntry) (c : Nat) (h : r < w.heap.size) : (putMap w r es c).heap[r]? = some (.map es c) := by
  simp [putMap, h]
theorem putMap_other {w : World} {r r' : Nat} (es : Array MapEntry) (c : Nat) (h : r' ≠ r) : (putMap w r es c).heap[r']? = w.heap[r']? := by
  simp only [putMap]
  rw [Array.getElem?_setIfInBounds_ne (by omega)]
theorem putMap_below {B : Nat} {a w : World} {r : Nat} {es : Array MapEntry} {c : Nat} (h : Below B a w) (hr : B ≤ r) (hB : B ≤ w.heap.size) : Below B a (putMap w r es c) :=
  h.grown (row := some r) ⟨rfl, rfl, rfl, by rw [putMap_size]; exact Nat.le_refl _, fun i _ hi => putMap_other _ _ (fun e => hi (by rw [e]))⟩ hB (fun k hk => by injection hk with hk; omega)
theorem mapTy : ∃ e : TypeId, Try.prog.underlying 88 = some (.map 9 e) := ⟨_, Try.underlying88⟩
theorem strTy : Try.prog.underlying 9 = some .string := by kernel_rfl
theorem run_ins {w : World} {r clock : Nat} {es : Array MapEntry} (s : ByteArray) (val : Value) (hb : w.heap[r]? = some (.map es clock)) (hf : Instr.findNow .string (.string s) es.toList 0 = some none) :
    (Instr.mapUpdate 88 (.map (some r)) (.string s) val).run Try.prog w = .ok () (putMap w r (es.push ⟨.string s, val, clock⟩) (clock + 1)) := by
  obtain ⟨e, he⟩ := mapTy
  have hc : (Instr.checkKey false 10000 9 (.string s)).run Try.prog w = .ok () w := MapKept.run_checkKey (k := .string s) strTy (by simp [MapKept.IsKey]) false 9999
  simp [Instr.mapUpdate, run_underlying he, MapKept.run_getObj_map hb, hc, MapKept.run_findKey strTy hf, MapKept.run_setObj_map _ hb, Result.andThen, putMap]
theorem run_look {w : World} {r clock : Nat} {es : Array MapEntry} (s : ByteArray) {i : Nat} {v : Value} (hb : w.heap[r]? = some (.map es clock)) (hf : Instr.findNow .string (.string s) es.toList 0 = some (some (i, v))) :
    (Instr.lookup 88 (.map (some r)) (.string s) false).run Try.prog w = .ok v w := by
  obtain ⟨e, he⟩ := mapTy
  have hc : ∀ b, (Instr.checkKey b 10000 9 (.string s)).run Try.prog w = .ok () w := fun b => MapKept.run_checkKey (k := .string s) strTy (by simp [MapKept.IsKey]) b 9999
  simp [Instr.lookup, run_underlying he, MapKept.run_getObj_map hb, hc, MapKept.run_findKey strTy hf, Result.andThen]
theorem exec_insert {o : Oper} {a : Act} {w w' : World} {mv kv xv : Value} (t : TypeId) (m k x : Operand) (ho : o.op = .insert t m k x) (hm : a.eval m = mv) (hk : a.eval k = kv) (hx : a.eval x = xv)
    (hr : (Instr.mapUpdate t mv kv xv).run Try.prog w = .ok () w') : (execOp a.eval o).run Try.prog w = .ok .skip w' := by
  unfold execOp
  simp [ho, hm, hk, hx, hr, Result.andThen]
theorem exec_makeMap {o : Oper} {a : Act} {w : World} (t : TypeId) (ho : o.op = .makeMap t none) : (execOp a.eval o).run Try.prog w = .ok (.value (.map (some w.heap.size))) (w.alloc (.map #[] 0)) := by
  unfold execOp
  have h := run_makeMap_plain (P := Try.prog) w t
  simp [ho, h, Result.andThen]
theorem exec_makeFunc {o : Oper} {a : Act} {w : World} (F : FuncId) (x : Operand) (ho : o.op = .makeFunc (.func F) #[] #[x]) {v : Value} (hx : a.eval x = v) : (execOp a.eval o).run Try.prog w = .ok (.value (.func (.func F) #[] #[v])) w := by
  unfold execOp
  simp [ho, hx, Instr.makeFunc]
theorem exec_callF {o : Oper} {a : Act} {w : World} (F : FuncId) (x : Operand) (ho : o.op = .call { callee := .value x, args := #[], argTypes := #[] }) {v : Value} (hx : a.eval x = .func (.func F) #[] #[v])
    (hF : (callFunc F #[v]).run Try.prog w = .ok (.enter F #[v]) w) : (execOp a.eval o).run Try.prog w = .ok (.enter F #[v]) w := by
  unfold execOp
  simp [ho, hx, resolve, invoke, Deferred.ofValue, hF]
theorem callF1 (args : Array Value) (w : World) : (callFunc 57 args).run Try.prog w = .ok (.enter 57 args) w := by kernel_rfl
theorem callF2 (args : Array Value) (w : World) : (callFunc 59 args).run Try.prog w = .ok (.enter 59 args) w := by kernel_rfl
theorem callF3 (args : Array Value) (w : World) : (callFunc 61 args).run Try.prog w = .ok (.enter 61 args) w := by kernel_rfl

def sRings : ByteArray := ⟨#[114, 105, 110, 103, 115]⟩
def sSpin : ByteArray := ⟨#[115, 112, 105, 110]⟩
def sCakes : ByteArray := ⟨#[112, 97, 110, 99, 97, 107, 101, 115]⟩
def fV (F : FuncId) (v : Value) : Value := .func (.func F) #[] #[v]
def E1 (v : Value) : Array MapEntry := #[⟨.string sRings, fV 57 v, 0⟩]
def E2 (v : Value) : Array MapEntry := (E1 v).push ⟨.string sSpin, fV 59 v, 1⟩
def E3 (v : Value) : Array MapEntry := (E2 v).push ⟨.string sCakes, fV 61 v, 2⟩
theorem none1 : Instr.findNow .string (.string sRings) (#[] : Array MapEntry).toList 0 = some none := by rfl
theorem none2 (v : Value) : Instr.findNow .string (.string sSpin) (E1 v).toList 0 = some none := by rfl
theorem none3 (v : Value) : Instr.findNow .string (.string sCakes) (E2 v).toList 0 = some none := by rfl
theorem found1 (v : Value) : Instr.findNow .string (.string sRings) (E3 v).toList 0 = some (some (0, fV 57 v)) := by rfl
theorem found2 (v : Value) : Instr.findNow .string (.string sSpin) (E3 v).toList 0 = some (some (1, fV 59 v)) := by rfl
theorem found3 (v : Value) : Instr.findNow .string (.string sCakes) (E3 v).toList 0 = some (some (2, fV 61 v)) := by rfl

/-- the world behind the three inserts -/
theorem maps_run (W : World) (v : Value) : ∃ W1 W2 W3,
    (Instr.mapUpdate 88 (.map (some W.heap.size)) (.string sRings) (fV 57 v)).run Try.prog (W.alloc (.map #[] 0)) = .ok () W1 ∧
    (Instr.mapUpdate 88 (.map (some W.heap.size)) (.string sSpin) (fV 59 v)).run Try.prog W1 = .ok () W2 ∧
    (Instr.mapUpdate 88 (.map (some W.heap.size)) (.string sCakes) (fV 61 v)).run Try.prog W2 = .ok () W3 ∧
    W3.heap[W.heap.size]? = some (.map (E3 v) 3) ∧ W3.heap.size = W.heap.size + 1 ∧ Below W.heap.size W W3 := by
  have h0 : (W.alloc (.map #[] 0)).heap[W.heap.size]? = some (.map #[] 0) := heap_alloc_new W _
  have z0 : (W.alloc (.map #[] 0)).heap.size = W.heap.size + 1 := by simp
  have b0 : Below W.heap.size W (W.alloc (.map #[] 0)) := (Below.refl _ _).alloc (Nat.le_refl _) _
  refine ⟨_, _, _, run_ins _ _ h0 none1, run_ins _ _ (putMap_get _ _ (by rw [z0]; omega)) (none2 v), run_ins _ _ (putMap_get _ _ (by rw [putMap_size, z0]; omega)) (none3 v), putMap_get _ _ (by rw [putMap_size, putMap_size, z0]; omega), by rw [putMap_size, putMap_size, putMap_size, z0], ?_⟩
  refine putMap_below (putMap_below (putMap_below b0 (Nat.le_refl _) ?_) (Nat.le_refl _) ?_) (Nat.le_refl _) ?_
  all_goals (try rw [putMap_size]); (try rw [putMap_size]); rw [z0]; omega
end Go.Proofs.Ytjifdmfoijoekaa.Rj

