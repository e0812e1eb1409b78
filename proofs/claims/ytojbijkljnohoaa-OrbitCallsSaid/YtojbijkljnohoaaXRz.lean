/- Loads and stores of slice variables, by their runs. -/
import Derived.Test.YtojbijkljnohoaaXRfRtRy
import Derived.Test.YtojbijkljnohoaaXRu
import Derived.Great.BuildSlice
set_option linter.unusedVariables false
namespace Go.Proofs.Rg
open Go Go.RowKit
theorem run_loadSl {P : Program} (t e : TypeId) (ht : P.underlying t = some (.slice e)) {w : World} {ad : Addr} {v : Value} (h : w.cell? ad = some v) : (loadVar t ad).run P w = .ok v w := by
  simp [loadVar, isAgg, run_underlying ht, load]
  simp [Sem.run, h]
theorem run_storeSl {P : Program} (t : TypeId) {z : Value} {y : Nat} (hs : (P.info? t).map (fun i => (i.zero, i.size, i.bytes)) = some (some z, 1, y)) {w : World} {b o n c : Nat} {a : Option Addr} {u : Value} (h : w.cell? ⟨b, o, none⟩ = some u) (hf : w.frozen? ⟨b, o, none⟩ = false) :
    (storeVar t ⟨b, o, none⟩ (.slice a n c)).run P w = .ok () (w.setCell ⟨b, o, none⟩ (.slice a n c)) := by
  obtain ⟨i0, hi, hz0, hz1, hz2⟩ := info_parts hs
  have h0 : (⟨b, o, none⟩ : Addr).add 0 = ⟨b, o, none⟩ := by simp [Addr.add]
  simp [storeVar, sizeOf, typeInfo, hi, hz1, Value.cells, storeCells, store, h0]
  simp [Sem.run, h, hf]
theorem run_build1 {P : Program} {t e : TypeId} {z : Value} {bytes : Nat} (T : SlT P t e z bytes) (X : World) (a : Option Addr) (n c : Nat) : (Instr.buildSlice t 1 #[(0, .slice a n c)]).run P X = .ok (.slice (some ⟨X.heap.size, 0, none⟩) 1 1) (X.alloc (.cells #[.slice a n c] e)) := by
  obtain ⟨i0, hi, hz0, hz1, hz2⟩ := info_parts T.info
  refine run_buildSlice X t e 1 _ _ i0 z T.ty hi hz0 (by rw [hz1]; decide) (by rw [hz1]; decide) ?_
  generalize (fun x => (z.cells)[x % z.cells.size]!) = f
  rw [hz1]
  have h1 : Array.range (1 * 1) = #[0] := rfl
  simp [Instr.fill, Value.cells, h1]
theorem run_indexSl {P : Program} {t e : TypeId} {z : Value} {bytes : Nat} (T : SlT P t e z bytes) (w : World) (b o len cap i : Nat) (hi : i < len) : (Instr.indexAt t (.slice (some ⟨b, o, none⟩) len cap) (.int .i64 (i : Int))).run P w = .ok (.pointer (some ⟨b, o + i, none⟩)) w := by
  obtain ⟨i0, hi0, hz0, hz1, hz2⟩ := info_parts T.info
  have h1 : (0 : Int) ≤ (i : Int) ∧ (i : Int) < (len : Int) := ⟨by omega, by omega⟩
  simp [Instr.indexAt, asIntOf, run_underlying T.ty, sizeOf, typeInfo, hi0, hz1, h1, Addr.add]
  rw [if_pos hi]
  by_cases h0 : i = 0
  · subst h0; simp
  · rw [if_neg h0]
theorem yields_index {P : Program} {ops : Array Oper} {S : World → Prop} {o : Oper} {a : Act} {t e : TypeId} {z : Value} {bytes : Nat} (T : SlT P t e z bytes) (x y : Operand) (hg : Region.wanted o (yielded ops a.tmps) = true) (ho : o.op = .indexAddr t x y) (b of len cap i : Nat) (hx : a.eval x = .slice (some ⟨b, of, none⟩) len cap) (hy : a.eval y = .int .i64 (i : Int)) (hi : i < len) :
    YieldsIf P ops S o (.pointer (some ⟨b, of + i, none⟩)) a := by
  refine .inl ⟨hg, fun w _ => ?_⟩
  have := run_indexSl T w b of len cap i hi
  unfold execOp
  simp only [ho, hx, hy, Sem.run_bind, Sem.run_pure, Result.andThen_ok, this]
theorem exec_build0 {P : Program} {o : Oper} {a : Act} {t e : TypeId} {z : Value} {bytes : Nat} (T : SlT P t e z bytes) (ho : o.op = .buildSlice t 0 #[]) (X : World) : (execOp a.eval o).run P X = .ok (.value (.slice (some ⟨X.heap.size, 0, none⟩) 0 0)) (X.alloc (.cells #[] e)) := by
  obtain ⟨i0, hi, hz0, hz1, hz2⟩ := info_parts T.info
  have h0 : Array.range (0 * 1) = #[] := rfl
  unfold execOp
  simp [ho, Instr.buildSlice, run_underlying T.ty, sizeOf, typeInfo, hi, newRow, h0, Instr.fill, Result.andThen]
theorem appL_run {P : Program} {t e : TypeId} {z : Value} {bytes : Nat} (T : SlT P t e z bytes) (ty : TypeId) {B : Nat} {X : World} {v xv : Value} {n : Nat} {xs us : List Value} (hown : X.ownsRow B e 1 v n xs) (hX : B ≤ X.heap.size)
    (hus : Vals X xv us) (h1 : ∀ u ∈ us, u.oneCell' = true) (hn : n + us.length < 1000000000) :
    ∃ v' X', (Builtin.append_ #[t, t] ty #[v, xv]).run P X = .ok v' X' ∧ X'.ownsRow B e 1 v' (n + us.length) (xs ++ us) ∧ X.grownBy X' v.ownBlock := by
  obtain ⟨i0, hi, hz0, hz1, hz2⟩ := info_parts T.info
  obtain ⟨ad, cap, rfl, q2, q3, q4, q5⟩ := hus
  cases ad with
  | none =>
    have h0 : us = [] := by
      cases us with
      | nil => rfl
      | cons u r => obtain ⟨b, o, e1, _⟩ := q5 (by simp); cases e1
    subst h0
    exact ⟨v, X, append_none (P := P) (w := X) B t ty e i0 1 cap T.ty hi v n xs hown, by simpa using hown, ⟨rfl, rfl, rfl, Nat.le_refl _, fun _ _ _ => rfl⟩⟩
  | some ad =>
    obtain ⟨v', w', hr, h2, h3, h4, h5⟩ := run_append_own_at (P := P) X B t ty e i0 z 1 bytes T.ty hi hz0 hz1 hz2 T.zc (by decide) v n xs hown ad us.length cap us (by omega) (fun j u hu => by
      have hj := (List.getElem?_eq_some_iff.1 hu).1
      obtain ⟨b, o, e1, e2, e3⟩ := q5 (by omega)
      simp at e1; subst e1
      rw [Addr.add_mid, e3 j hj, ← hu, List.getElem?_eq_getElem hj]) h1 (by unfold maxLen; omega) (by have : (n + us.length) * bytes ≤ 1000000000 * 64 := Nat.mul_le_mul (by omega) T.small; omega) hX
    exact ⟨v', w', hr, h2, h3⟩
theorem Any.call {P : Program} {md : Region.Mode} {ops : Array Oper} {Q : Exit → Act → World → Prop} {i t : Nat} {oi : Oper} {T : World → Prop} {n : Nat} {l : Array Bool} {a : Act} {w : World} (d : Option Tmp) (hi : ops[i]? = some oi) (hd : oi.dst = d) (hw : Region.wanted oi (yielded ops a.tmps) = true) (f : FuncId) (args : Array Value)
    (hr : (execOp a.eval oi).run P w = .ok (.enter f args) w)
    (hc : Calls P f args w fun e w' => ∃ v, e = .returned v ∧ Till t T (l.setIfInBounds i true) w' ∧ Any P md ops Q (Till t T) n (l.setIfInBounds i true) (a.put d v) w') :
    wpOp P ops Q i (fun a' w' => Till t T (l.setIfInBounds i true) w' ∧ Any P md ops Q (Till t T) n (l.setIfInBounds i true) a' w') a w := by
  subst hd
  unfold wpOp
  simp only [hi, hw, if_true]
  left
  unfold Oper.wp
  rw [hr, Oper.upon_enter]
  refine hc.mono fun e w' ⟨v, h1, h2, h3⟩ => ?_
  subst h1
  exact ⟨h2, h3⟩
end Go.Proofs.Rg

