/- Regions that draw: what reads no memory may come up first, whatever the condition. -/
import Derived.Test.YtjifdmfoijoekaaXRt
set_option linter.unusedVariables false
namespace Go.Proofs.Rg
open Go Go.RowKit
variable {P : Program} {md : Region.Mode} {ops : Array Oper} {Q : Exit → Act → World → Prop}

theorem Till.set {t i : Nat} {T : World → Prop} {l : Array Bool} {w : World} (hti : t ≠ i) : Till t T (l.setIfInBounds i true) w ↔ Till t T l w := by
  unfold Till
  rw [getD_set_ne false (Ne.symm hti)]
theorem Any.firstP {i t : Nat} {oi : Oper} {v : Value} {T : World → Prop} (hi : ops[i]? = some oi) (hsel : ∀ (j : Nat) (o : Oper) cs b, ops[j]? = some o → o.op ≠ .select cs b)
    (hQ : ∀ c a w, Q (.panic c) (a.put oi.dst v) w → Q (.panic c) a w) (hti : t ≠ i) :
    ∀ (n : Nat) (l : Array Bool) (a : Act) (w : World),
      (∀ j oj, ops[j]? = some oj → j ≠ i → l.getD j true = false → (∀ e ∈ oj.after, Region.binds md e = true → e.on ≠ i) → oi.apart ops oj = true) →
      i ∈ Region.ready md ops l → YieldsIf P ops (fun _ => True) oi v a → Till t T l w →
      Any P md ops Q (Till t T) n (l.setIfInBounds i true) (a.put oi.dst v) w → Any P md ops Q (Till t T) (n + 1) l a w := by
  intro n
  induction n with
  | zero =>
    intro l a w _ hr hy hT H
    refine ⟨fun h0 => absurd (h0 ▸ hr) (by simp), fun j hj => ?_⟩
    by_cases hji : j = i
    · subst hji; exact hy.wpOp hi trivial ⟨(Till.set hti).2 hT, H⟩
    · have hmem := ready_mono hj hji
      rw [H.1] at hmem
      simp at hmem
  | succ n ih =>
    intro l a w hfree hr hy hT H
    refine ⟨fun h0 => absurd (h0 ▸ hr) (by simp), fun j hj => ?_⟩
    by_cases hji : j = i
    · subst hji; exact hy.wpOp hi trivial ⟨(Till.set hti).2 hT, H⟩
    obtain ⟨hun, oj, hoj, hafter⟩ := mem_ready.1 hj
    have hi0 := (mem_ready.1 hr).1
    have hno : ∀ e ∈ oj.after, Region.binds md e = true → e.on ≠ i := by
      intro e he hb heq
      have h1 := hafter e he hb
      rw [heq] at h1
      by_cases hlt : i < l.size
      · simp [hlt] at h1 hi0; rw [hi0] at h1; cases h1
      · simp [Array.getElem?_eq_none (Nat.le_of_not_lt hlt)] at h1
    have hstep := wpOp_putIf hoj (hfree j oj hoj hji hun hno) (fun cs b => hsel i oi cs b hi) (fun cs b => hsel j oj cs b hoj) hQ hy (H.2 j (ready_mono hj hji))
    refine wpOp_mono (fun a' w' q => ?_) hstep
    obtain ⟨hy', hS', hA'⟩ := q
    rw [Array.setIfInBounds_comm _ _ (Ne.symm hji)] at hS' hA'
    have hS2 : Till t T (l.setIfInBounds j true) w' := (Till.set hti).1 hS'
    refine ⟨hS2, ih _ _ _ ?_ (ready_mono hr (Ne.symm hji)) hy' hS2 hA'⟩
    intro k ok hk hki hun' hno'
    refine hfree k ok hk hki ?_ hno'
    by_cases hjk : j = k
    · rw [← hjk]; exact hun
    · rwa [getD_set_ne true hjk] at hun'
theorem Any.pure {i t : Nat} {oi : Oper} {v : Value} {T : World → Prop} {n : Nat} {l : Array Bool} {a : Act} {w : World} (d : Option Tmp) (hi : ops[i]? = some oi) (hd : oi.dst = d)
    (hs : Region.noSelect ops = true) (hf : Region.free md ops l i = true) (hr : (Region.ready md ops l).contains i = true)
    (hQ : ∀ c a w, Q (.panic c) (a.put d v) w → Q (.panic c) a w) (hti : (t == i) = false)
    (hy : YieldsIf P ops (fun _ => True) oi v a) (hT : Till t T l w)
    (h : Any P md ops Q (Till t T) n (l.setIfInBounds i true) (a.put d v) w) : Any P md ops Q (Till t T) (n + 1) l a w := by
  subst hd
  exact Any.firstP hi (Region.noSelect_spec hs) hQ (by simpa using hti) n l a w (Region.free_spec hi hf) (by simpa using hr) hy hT h
/-- one operation by its run; the condition behind it -/
theorem Any.step {i t : Nat} {oi : Oper} {v : Value} {T : World → Prop} {n : Nat} {l : Array Bool} {a : Act} {w w' : World} (d : Option Tmp) (hi : ops[i]? = some oi) (hd : oi.dst = d) (hw : Region.wanted oi (yielded ops a.tmps) = true)
    (hr : (execOp a.eval oi).run P w = .ok (.value v) w') (hT : Till t T (l.setIfInBounds i true) w') (h : Any P md ops Q (Till t T) n (l.setIfInBounds i true) (a.put d v) w') :
    wpOp P ops Q i (fun a' w' => Till t T (l.setIfInBounds i true) w' ∧ Any P md ops Q (Till t T) n (l.setIfInBounds i true) a' w') a w := wpOp_value d hi hd hw hr ⟨hT, h⟩
theorem Any.skip {i t : Nat} {oi : Oper} {T : World → Prop} {n : Nat} {l : Array Bool} {a : Act} {w w' : World} (d : Option Tmp) (hi : ops[i]? = some oi) (hd : oi.dst = d) (hw : Region.wanted oi (yielded ops a.tmps) = true)
    (hr : (execOp a.eval oi).run P w = .ok .skip w') (hT : Till t T (l.setIfInBounds i true) w') (h : Any P md ops Q (Till t T) n (l.setIfInBounds i true) (a.put d undef) w') :
    wpOp P ops Q i (fun a' w' => Till t T (l.setIfInBounds i true) w' ∧ Any P md ops Q (Till t T) n (l.setIfInBounds i true) a' w') a w := wpOp_skip d hi hd hw hr ⟨hT, h⟩
/-- a load of one cell -/
theorem yields_cell {o : Oper} {a : Act} {v : Value} {T : World → Prop} (t : TypeId) (x : Operand) (hg : Region.wanted o (yielded ops a.tmps) = true) (ho : o.op = .load t x) (ad : Addr) (hx : a.eval x = .pointer (some ad)) (hr : ∀ w, T w → (loadVar t ad).run P w = .ok v w) : YieldsIf P ops T o v a :=
  .inl ⟨hg, fun w hw => exec_load t x ho ad hx (hr w hw)⟩
/-- append, by its run -/
theorem exec_append {o : Oper} {a : Act} {w w' : World} {v : Value} (s x : Operand) (t : TypeId) (ho : o.op = .call { callee := .builtin .append, args := #[s, x], argTypes := #[t, t] }) {vs vx : Value} (hs : a.eval s = vs) (hx : a.eval x = vx)
    (hr : (Builtin.append_ #[t, t] o.type #[vs, vx]).run P w = .ok v w') : (execOp a.eval o).run P w = .ok (.value v) w' := by
  unfold execOp
  simp only [ho, resolve, invoke, builtin, Sem.run_bind, Sem.run_pure, Result.andThen_ok, List.map_toArray, List.map_cons, List.map_nil, hs, hx, hr]
theorem exec_store {o : Oper} {a : Act} {w w' : World} (t : TypeId) (x y : Operand) (ho : o.op = .store t x y) (ad : Addr) (hx : a.eval x = .pointer (some ad)) (v : Value) (hv : a.eval y = v) (hr : (storeVar t ad v).run P w = .ok () w') :
    (execOp a.eval o).run P w = .ok .skip w' := by
  unfold execOp
  simp only [ho, hx, hv, Instr.storeAt, Instr.sureAddr, Sem.run_bind, Sem.run_pure, Result.andThen_ok, hr]
end Go.Proofs.Rg

