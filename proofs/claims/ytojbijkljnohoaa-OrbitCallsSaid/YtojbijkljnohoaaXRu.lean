/- A list appended to a row of the call's own. -/
import Derived.Test.YtojbijkljnohoaaXRfRtRy
import Derived.Laws.OwnMore
set_option linter.unusedVariables false
namespace Go.Proofs.Rg
open Go Go.RowKit

theorem append_none {P : Program} {w : World} (base : Nat) (t ty e : TypeId) (i : TypeInfo) (size c : Nat) (ht : P.underlying t = some (.slice e)) (hi : P.info? e = some i)
    (v : Value) (n : Nat) (xs : List Value) (hown : w.ownsRow base e size v n xs) : (Builtin.append_ #[t, t] ty #[v, .slice none 0 c]).run P w = .ok v w := by
  rcases hown.2 with ⟨rfl, rfl⟩ | ⟨g, cap, cur, rfl, _, _, hnc, _⟩
  · simp [Builtin.append_, run_underlying ht, sizeOf, typeInfo, hi, Builtin.lenOf, Builtin.firstCells]
  · simp [Builtin.append_, run_underlying ht, sizeOf, typeInfo, hi, Builtin.lenOf, Builtin.firstCells, hnc, storeCells]

theorem appL {P : Program} {W0 wr : World} {ops : Array Oper} {rest : List Oper} {o : Oper} {a : Act} {Q : Exit → Act → World → Prop} (hgd : o.guard = none) (s x : Operand) (t : TypeId)
    (ho : o.op = .call { callee := .builtin .append, args := #[s, x], argTypes := #[t, t] })
    {e : TypeId} {z : Value} {bytes : Nat} (T : SlT P t e z bytes) {v xv : Value} {n : Nat} {xs us : List Value} (hown : wr.ownsRow W0.heap.size e 1 v n xs) (hb : Below W0.heap.size W0 wr)
    (hus : Vals wr xv us) (h1 : ∀ u ∈ us, u.oneCell' = true) (hs : a.eval s = v) (hx : a.eval x = xv) (hn : n + us.length < 1000000000)
    (h : ∀ v' w', w'.ownsRow W0.heap.size e 1 v' (n + us.length) (xs ++ us) → Below W0.heap.size W0 w' → wr.grownBy w' v.ownBlock → wpList P ops Q rest (a.put o.dst v') w') :
    wpList P ops Q (o :: rest) a wr := by
  obtain ⟨i0, hi, hz0, hz1, hz2⟩ := info_parts T.info
  obtain ⟨ad, cap, rfl, q2, q3, q4, q5⟩ := hus
  cases ad with
  | none =>
    have h0 : us = [] := by
      cases us with
      | nil => rfl
      | cons u r => obtain ⟨b, o, e1, _⟩ := q5 (by simp); cases e1
    subst h0
    refine wpList_plain hgd fun K hK => ?_
    have hrun := append_none (P := P) (w := wr) W0.heap.size t o.type e i0 1 cap T.ty hi v n xs hown
    unfold Oper.wp
    simp only [List.length_nil] at hx
    simp [execOp, ho, resolve, invoke, builtin, hs, hx, hrun, Result.andThen]
    refine hK _ _ (h v wr (by simpa using hown) hb ⟨rfl, rfl, rfl, Nat.le_refl _, fun _ _ _ => rfl⟩)
  | some ad =>
    refine wpList_append_own_at wr hgd s x t ho W0.heap.size e i0 z 1 bytes T.ty hi hz0 hz1 hz2 T.zc (by decide) v n xs hs hown ad us.length cap us hx (by omega) ?_ h1 (by unfold maxLen; omega) ?_ hb.size ?_
    · intro j u hu
      have hj := (List.getElem?_eq_some_iff.1 hu).1
      obtain ⟨b, o, e1, e2, e3⟩ := q5 (by omega)
      simp at e1; subst e1
      rw [Addr.add_mid, e3 j hj, ← hu, List.getElem?_eq_getElem hj]
    · have : (n + us.length) * bytes ≤ 1000000000 * 64 := Nat.mul_le_mul (by omega) T.small
      omega
    · intro v' w' k1 k2 k3 k4
      exact h v' w' k1 (hb.grown k2 hb.size (fun k hk => (hown.lt k hk).1)) k2
end Go.Proofs.Rg

