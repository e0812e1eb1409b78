/- Lemmas and contracts on the way to the statement; no condition of their own beyond those written. -/
import Derived.Test.YtojbijkljnohoaaXOqOrOsOtOuOvOwOx
import Derived.MapKept
import Derived.ChangeMaps5
set_option linter.unusedVariables false
/-! Maps from int to bool that hold true alone: the keys in the order in which they came. -/
namespace Go.Proofs.Ytojbijkljnohoaa
open Go.RowKit
open Go.Proofs
open Go.ChangeMaps
attribute [local irreducible] Go.Calls

def IMap (w : World) (r : Nat) (m : List Int) : Prop :=
  ∃ es clock, w.heap[r]? = some (.map es clock) ∧ es.toList.map (fun e => (e.key, e.val)) = m.map (fun x => (Value.int .i64 x, Value.bool true))
theorem IMap.lt {w : World} {r : Nat} {m : List Int} (h : IMap w r m) : r < w.heap.size := by
  obtain ⟨es, c, h1, _⟩ := h; exact (Array.getElem?_eq_some_iff.1 h1).1
theorem IMap.of_block {w w' : World} {r : Nat} {m : List Int} (h : IMap w r m) (e : w'.heap[r]? = w.heap[r]?) : IMap w' r m := by
  obtain ⟨es, c, h1, h2⟩ := h; exact ⟨es, c, e.trans h1, h2⟩
theorem IMap.below {w w' : World} {r : Nat} {m : List Int} (h : IMap w r m) (hb : Below w.heap.size w w') : IMap w' r m := h.of_block (hb.block r h.lt)
theorem IMap.grown {w w' : World} {r : Nat} {m : List Int} {k : Option Nat} (h : IMap w r m) (hg : w.grownBy w' k) (hne : some r ≠ k) : IMap w' r m := h.of_block (hg.block r h.lt hne)
theorem IMap.new (w : World) : IMap (w.alloc (.map #[] 0)) w.heap.size [] := ⟨#[], 0, by unfold World.alloc; simp, rfl⟩
theorem now_items (x : Int) : ∀ (es : List MapEntry) (m : List Int) (i : Nat), es.map (fun e => (e.key, e.val)) = m.map (fun x => (Value.int .i64 x, Value.bool true)) →
    (x ∈ m → ∃ j, Instr.findNow (.int .i64) (.int .i64 x) es i = some (some (j, .bool true))) ∧ (x ∉ m → Instr.findNow (.int .i64) (.int .i64 x) es i = some none)
  | [], m, i, h => by
    obtain rfl : m = [] := by cases m; rfl; simp at h
    exact ⟨fun h => by simp at h, fun _ => rfl⟩
  | e0 :: es, m, i, h => by
    cases m with
    | nil => simp at h
    | cons y m =>
      simp only [List.map_cons, List.cons.injEq, Prod.mk.injEq] at h
      obtain ⟨⟨h1, h2⟩, h3⟩ := h
      obtain ⟨g1, g2⟩ := now_items x es m (i + 1) h3
      by_cases hxy : x = y
      · subst hxy
        refine ⟨fun _ => ⟨i, by simp [Instr.findNow, Instr.sameNow, h1, h2]⟩, fun h => absurd (List.mem_cons_self ..) h⟩
      · have hs : Instr.sameNow (.int .i64) (.int .i64 x) e0.key = some false := by simp [Instr.sameNow, h1, hxy]
        refine ⟨fun h => ?_, fun h => ?_⟩
        · rcases List.mem_cons.1 h with h | h
          · exact absurd h hxy
          · obtain ⟨j, hj⟩ := g1 h
            exact ⟨j, by simp [Instr.findNow, hs, hj]⟩
        · have := g2 (fun h' => h (List.mem_cons_of_mem _ h'))
          simp [Instr.findNow, hs, this]
theorem keyOk (em : Bool) (x : Int) (w : World) : (Instr.checkKey em 10000 3 (.int .i64 x)).run Try.prog w = .ok () w := by
  rw [show (10000 : Nat) = 9999 + 1 from rfl, Instr.checkKey]
  simp [Sem.run_bind, run_underlying Try.underlying3]
theorem zBool (w : World) : (zeroValue 4).run Try.prog w = .ok (.bool false) w := by kernel_rfl
theorem IMap.look {w : World} {r : Nat} {m : List Int} (h : IMap w r m) (x : Int) : (Instr.lookup 162 (.map (some r)) (.int .i64 x) false).run Try.prog w = .ok (.bool (decide (x ∈ m))) w := by
  obtain ⟨es, c, h1, h2⟩ := h
  obtain ⟨g1, g2⟩ := now_items x es.toList m 0 h2
  by_cases hx : x ∈ m
  · obtain ⟨j, hj⟩ := g1 hx
    have hf : (Instr.findKey 3 (.int .i64 x) es.toList).run Try.prog w = .ok (some (j, .bool true)) w := by
      unfold Instr.findKey
      simp [run_underlying Try.underlying3, hj]
    simp [Instr.lookup, run_underlying Try.underlying162, MapKept.run_getObj_map h1, keyOk, hf, Result.andThen, hx]
  · have hj := g2 hx
    have hf : (Instr.findKey 3 (.int .i64 x) es.toList).run Try.prog w = .ok none w := by
      unfold Instr.findKey
      simp [run_underlying Try.underlying3, hj]
    simp [Instr.lookup, run_underlying Try.underlying162, MapKept.run_getObj_map h1, keyOk, hf, Result.andThen, hx]
theorem IMap.put {w : World} {r : Nat} {m : List Int} (h : IMap w r m) (x : Int) (hx : x ∉ m) :
    ∃ w', (Instr.mapUpdate 162 (.map (some r)) (.int .i64 x) (.bool true)).run Try.prog w = .ok () w' ∧ IMap w' r (m ++ [x]) ∧ w.grownBy w' (some r) := by
  obtain ⟨es, c, h1, h2⟩ := h
  have hj := (now_items x es.toList m 0 h2).2 hx
  have hf : (Instr.findKey 3 (.int .i64 x) es.toList).run Try.prog w = .ok none w := by
    unfold Instr.findKey
    simp [run_underlying Try.underlying3, hj]
  refine ⟨setBlock w r (.map (es.push ⟨.int .i64 x, .bool true, c⟩) (c + 1)), ?_, ⟨_, _, heap_setBlock_same h1 _, ?_⟩, ⟨rfl, rfl, rfl, by simp [setBlock], fun i _ hi => heap_setBlock_other h1 _ (fun e => hi (by rw [e]))⟩⟩
  · simp [Instr.mapUpdate, run_underlying Try.underlying162, MapKept.run_getObj_map h1, keyOk, hf, MapKept.run_setObj_map _ h1, Result.andThen, setBlock]
  · simp [h2]
end Go.Proofs.Ytojbijkljnohoaa

