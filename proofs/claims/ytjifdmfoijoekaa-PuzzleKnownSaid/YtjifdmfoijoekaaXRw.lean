/- Regions that draw: taking an operation first, under any condition that tells what it needs. -/
import Derived.Test.YtjifdmfoijoekaaXRz
import Derived.ArgAppend
import Derived.IntWalk
set_option linter.unusedVariables false
namespace Go.Proofs.Rg
open Go Go.RowKit
variable {P : Program} {md : Region.Mode} {ops : Array Oper} {Q : Exit → Act → World → Prop} {S : Array Bool → World → Prop}

theorem Any.firstG {i t : Nat} {oi ot : Oper} {v : Value} {T : World → Prop} (hi : ops[i]? = some oi) (hsel : ∀ (j : Nat) (o : Oper) cs b, ops[j]? = some o → o.op ≠ .select cs b)
    (hQ : ∀ c a w, Q (.panic c) (a.put oi.dst v) w → Q (.panic c) a w) (hti : t ≠ i) (ht : ops[t]? = some ot) (hw : ∃ e ∈ ot.after, Region.binds md e = true ∧ e.on = i)
    (hS : ∀ l w, S (l.setIfInBounds i true) w ↔ S l w) (hST : ∀ l w, l.getD t false = false → S l w → T w) :
    ∀ (n : Nat) (l : Array Bool) (a : Act) (w : World), l.getD t false = false →
      (∀ j oj, ops[j]? = some oj → j ≠ i → l.getD j true = false → (∀ e ∈ oj.after, Region.binds md e = true → e.on ≠ i) → oi.apart ops oj = true) →
      i ∈ Region.ready md ops l → YieldsIf P ops T oi v a → S l w →
      Any P md ops Q S n (l.setIfInBounds i true) (a.put oi.dst v) w → Any P md ops Q S (n + 1) l a w := by
  intro n
  induction n with
  | zero =>
    intro l a w hl _ hr hy hT H
    refine ⟨fun h0 => absurd (h0 ▸ hr) (by simp), fun j hj => ?_⟩
    by_cases hji : j = i
    · subst hji; exact hy.wpOp hi (hST _ _ hl hT) ⟨(hS _ _).2 hT, H⟩
    · have hmem := ready_mono hj hji
      rw [H.1] at hmem
      simp at hmem
  | succ n ih =>
    intro l a w hl hfree hr hy hT H
    refine ⟨fun h0 => absurd (h0 ▸ hr) (by simp), fun j hj => ?_⟩
    by_cases hji : j = i
    · subst hji; exact hy.wpOp hi (hST _ _ hl hT) ⟨(hS _ _).2 hT, H⟩
    obtain ⟨hun, oj, hoj, hafter⟩ := mem_ready.1 hj
    have hi0 := (mem_ready.1 hr).1
    have hno : ∀ e ∈ oj.after, Region.binds md e = true → e.on ≠ i := by
      intro e he hb heq
      have h1 := hafter e he hb
      rw [heq] at h1
      by_cases hlt : i < l.size
      · simp [hlt] at h1 hi0; rw [hi0] at h1; cases h1
      · simp [Array.getElem?_eq_none (Nat.le_of_not_lt hlt)] at h1
    have hjt : j ≠ t := by
      rintro rfl
      obtain ⟨e, he, hb, heq⟩ := hw
      rw [ht] at hoj; cases hoj
      exact hno e he hb heq
    have hstep := wpOp_putIf hoj (hfree j oj hoj hji hun hno) (fun cs b => hsel i oi cs b hi) (fun cs b => hsel j oj cs b hoj) hQ hy (H.2 j (ready_mono hj hji))
    refine wpOp_mono (fun a' w' q => ?_) hstep
    obtain ⟨hy', hS', hA'⟩ := q
    rw [Array.setIfInBounds_comm _ _ (Ne.symm hji)] at hS' hA'
    have hl1 : (l.setIfInBounds j true).getD t false = false := by rw [getD_set_ne false hjt]; exact hl
    have hS2 := (hS _ _).1 hS'
    refine ⟨hS2, ih _ _ _ hl1 ?_ (ready_mono hr (Ne.symm hji)) hy' hS2 hA'⟩
    intro k ok hk hki hun' hno'
    refine hfree k ok hk hki ?_ hno'
    by_cases hjk : j = k
    · rw [← hjk]; exact hun
    · rwa [getD_set_ne true hjk] at hun'
theorem Any.firstH {i : Nat} {oi : Oper} {v : Value} {T : World → Prop} (hi : ops[i]? = some oi) (hsel : ∀ (j : Nat) (o : Oper) cs b, ops[j]? = some o → o.op ≠ .select cs b)
    (hQ : ∀ c a w, Q (.panic c) (a.put oi.dst v) w → Q (.panic c) a w)
    (hS : ∀ l w, S (l.setIfInBounds i true) w ↔ S l w) (hST : ∀ l w, S l w → T w) :
    ∀ (n : Nat) (l : Array Bool) (a : Act) (w : World),
      (∀ j oj, ops[j]? = some oj → j ≠ i → l.getD j true = false → (∀ e ∈ oj.after, Region.binds md e = true → e.on ≠ i) → oi.apart ops oj = true) →
      i ∈ Region.ready md ops l → YieldsIf P ops T oi v a → S l w →
      Any P md ops Q S n (l.setIfInBounds i true) (a.put oi.dst v) w → Any P md ops Q S (n + 1) l a w := by
  intro n
  induction n with
  | zero =>
    intro l a w _ hr hy hT H
    refine ⟨fun h0 => absurd (h0 ▸ hr) (by simp), fun j hj => ?_⟩
    by_cases hji : j = i
    · subst hji; exact hy.wpOp hi (hST _ _ hT) ⟨(hS _ _).2 hT, H⟩
    · have hmem := ready_mono hj hji
      rw [H.1] at hmem
      simp at hmem
  | succ n ih =>
    intro l a w hfree hr hy hT H
    refine ⟨fun h0 => absurd (h0 ▸ hr) (by simp), fun j hj => ?_⟩
    by_cases hji : j = i
    · subst hji; exact hy.wpOp hi (hST _ _ hT) ⟨(hS _ _).2 hT, H⟩
    obtain ⟨hun, oj, hoj, hafter⟩ := mem_ready.1 hj
    have hi0 := (mem_ready.1 hr).1
    have hno : ∀ e ∈ oj.after, Region.binds md e = true → e.on ≠ i := by
      intro e he hb heq
      have h1 := hafter e he hb
      rw [heq] at h1
      by_cases hlt : i < l.size
      · simp [hlt] at h1 hi0; rw [hi0] at h1; cases h1
      · simp [Array.getElem?_eq_none (Nat.le_of_not_lt hlt)] at h1
    have hstep := wpOp_putIf hoj (hfree j oj hoj hji hun hno) (fun cs b => hsel i oi cs b hi) (fun cs b => hsel j oj cs b hoj) hQ hy (H.2 j (ready_mono hj hji))
    refine wpOp_mono (fun a' w' q => ?_) hstep
    obtain ⟨hy', hS', hA'⟩ := q
    rw [Array.setIfInBounds_comm _ _ (Ne.symm hji)] at hS' hA'
    have hS2 := (hS _ _).1 hS'
    refine ⟨hS2, ih _ _ _ ?_ (ready_mono hr (Ne.symm hji)) hy' hS2 hA'⟩
    intro k ok hk hki hun' hno'
    refine hfree k ok hk hki ?_ hno'
    by_cases hjk : j = k
    · rw [← hjk]; exact hun
    · rwa [getD_set_ne true hjk] at hun'
/-- a condition till t has come up, and one for good -/
def Both (t : Nat) (T T2 : World → Prop) (l : Array Bool) (w : World) : Prop := Till t T l w ∧ T2 w
theorem Both.set {t i : Nat} {T T2 : World → Prop} (hti : t ≠ i) (l : Array Bool) (w : World) : Both t T T2 (l.setIfInBounds i true) w ↔ Both t T T2 l w := by
  unfold Both; rw [Till.set hti]
theorem Any.takeT {i t : Nat} {oi : Oper} {v : Value} {T T2 : World → Prop} {n : Nat} {l : Array Bool} {a : Act} {w : World} (d : Option Tmp) (hi : ops[i]? = some oi) (hd : oi.dst = d)
    (hs : Region.noSelect ops = true) (hf : Region.free md ops l i = true) (hr : (Region.ready md ops l).contains i = true)
    (hQ : ∀ c a w, Q (.panic c) (a.put d v) w → Q (.panic c) a w) (hti : (t == i) = false) (hw : Region.waitsFor md ops t i = true) (hl : l.getD t false = false)
    (hy : YieldsIf P ops T oi v a) (hS : Both t T T2 l w)
    (h : Any P md ops Q (Both t T T2) n (l.setIfInBounds i true) (a.put d v) w) : Any P md ops Q (Both t T T2) (n + 1) l a w := by
  subst hd
  obtain ⟨ot, ht, hw⟩ := Region.waitsFor_spec hw
  have hti' : t ≠ i := by simpa using hti
  refine Any.firstG hi (Region.noSelect_spec hs) hQ hti' ht hw (Both.set hti') (fun l w hl hh => ?_) n l a w hl (Region.free_spec hi hf) (by simpa using hr) hy hS h
  rcases hh.1 with h1 | h1
  · rw [hl] at h1; cases h1
  · exact h1
theorem Any.takeG {i t : Nat} {oi : Oper} {v : Value} {T T2 : World → Prop} {n : Nat} {l : Array Bool} {a : Act} {w : World} (d : Option Tmp) (hi : ops[i]? = some oi) (hd : oi.dst = d)
    (hs : Region.noSelect ops = true) (hf : Region.free md ops l i = true) (hr : (Region.ready md ops l).contains i = true)
    (hQ : ∀ c a w, Q (.panic c) (a.put d v) w → Q (.panic c) a w) (hti : (t == i) = false)
    (hy : YieldsIf P ops T2 oi v a) (hS : Both t T T2 l w)
    (h : Any P md ops Q (Both t T T2) n (l.setIfInBounds i true) (a.put d v) w) : Any P md ops Q (Both t T T2) (n + 1) l a w := by
  subst hd
  exact Any.firstH hi (Region.noSelect_spec hs) hQ (Both.set (by simpa using hti)) (fun l w hh => hh.2) n l a w (Region.free_spec hi hf) (by simpa using hr) hy hS h
/-- one operation by its run -/
theorem Any.run {i : Nat} {oi : Oper} {v : Value} {n : Nat} {l : Array Bool} {a : Act} {w w' : World} (d : Option Tmp) (hi : ops[i]? = some oi) (hd : oi.dst = d) (hw : Region.wanted oi (yielded ops a.tmps) = true)
    (hr : (execOp a.eval oi).run P w = .ok (.value v) w') (hS : S (l.setIfInBounds i true) w') (h : Any P md ops Q S n (l.setIfInBounds i true) (a.put d v) w') :
    wpOp P ops Q i (fun a' w' => S (l.setIfInBounds i true) w' ∧ Any P md ops Q S n (l.setIfInBounds i true) a' w') a w := wpOp_value d hi hd hw hr ⟨hS, h⟩
theorem Any.runSkip {i : Nat} {oi : Oper} {n : Nat} {l : Array Bool} {a : Act} {w w' : World} (d : Option Tmp) (hi : ops[i]? = some oi) (hd : oi.dst = d) (hw : Region.wanted oi (yielded ops a.tmps) = true)
    (hr : (execOp a.eval oi).run P w = .ok .skip w') (hS : S (l.setIfInBounds i true) w') (h : Any P md ops Q S n (l.setIfInBounds i true) (a.put d undef) w') :
    wpOp P ops Q i (fun a' w' => S (l.setIfInBounds i true) w' ∧ Any P md ops Q S n (l.setIfInBounds i true) a' w') a w := wpOp_skip d hi hd hw hr ⟨hS, h⟩
theorem Any.ask {i : Nat} {oi : Oper} {n : Nat} {l : Array Bool} {a : Act} {w : World} (d : Option Tmp) (hi : ops[i]? = some oi) (hd : oi.dst = d) (hw : Region.wanted oi (yielded ops a.tmps) = true) (f : FuncId) (args : Array Value)
    (hr : (execOp a.eval oi).run P w = .ok (.enter f args) w)
    (hc : Calls P f args w fun e w' => ∃ v, e = .returned v ∧ S (l.setIfInBounds i true) w' ∧ Any P md ops Q S n (l.setIfInBounds i true) (a.put d v) w') :
    wpOp P ops Q i (fun a' w' => S (l.setIfInBounds i true) w' ∧ Any P md ops Q S n (l.setIfInBounds i true) a' w') a w := by
  subst hd
  unfold wpOp
  simp only [hi, hw, if_true]
  left
  unfold Oper.wp
  rw [hr, Oper.upon_enter]
  refine hc.mono fun e w' ⟨v, h1, h2, h3⟩ => ?_
  subst h1
  exact ⟨h2, h3⟩
theorem yields_len {o : Oper} {a : Act} {S : World → Prop} (e : TypeId) (hg : Region.wanted o (yielded ops a.tmps) = true) (x : Operand) (t : TypeId) (ho : o.op = .call { callee := .builtin .len, args := #[x], argTypes := #[t] }) (ht : P.underlying t = some (.slice e)) (ad : Option Addr) (n c : Nat) (hx : a.eval x = .slice ad n c) : YieldsIf P ops S o (.int .i64 (n : Int)) a := by
  refine .inl ⟨hg, fun w _ => ?_⟩
  have hw : goInt (n : Int) = .int .i64 (n : Int) := rfl
  unfold execOp
  simp [ho, hx, resolve, invoke, builtin, Builtin.len_, run_underlying ht, Result.andThen, hw]
/-- one element appended to a full slice: a new row -/
theorem full_run {P : Program} {t e : TypeId} {z : Value} {bytes : Nat} (T : SlT P t e z bytes) (ty : TypeId) {X : World} (b o n : Nat) (us : List Value) (hl : us.length = n) (hc : ∀ i (h : i < us.length), X.cell? ⟨b, o + i, none⟩ = some us[i]) (p c : Nat) {u : Value}
    (hu : X.cell? ⟨p, 0, none⟩ = some u) (hn : n < 1000000) :
    ∃ v' X', (Builtin.append_ #[t, t] ty #[.slice (some ⟨b, o, none⟩) n n, .slice (some ⟨p, 0, none⟩) 1 c]).run P X = .ok v' X' ∧ X'.ownsRow X.heap.size e 1 v' (n + 1) (us ++ [u]) ∧ Below X.heap.size X X' ∧ ∃ a c, v' = .slice a (n + 1) c := by
  obtain ⟨i0, hi, hz0, hz1, hz2⟩ := info_parts T.info
  obtain ⟨v', w', hr, h2, h3⟩ := run_append_arg_grows (P := P) X t ty e i0 z 1 bytes T.ty hi hz0 hz1 hz2 T.zc (by decide) ⟨b, o, none⟩ n n us (by omega) (fun j x hj => by
    have hj2 := (List.getElem?_eq_some_iff.1 hj).1
    rw [Addr.add_mid, hc j hj2, ← hj, List.getElem?_eq_getElem hj2]) ⟨p, 0, none⟩ 1 c [u] rfl (fun j x hj => by
    obtain rfl : j = 0 := by have := (List.getElem?_eq_some_iff.1 hj).1; simpa using this
    simp at hj; subst hj
    rw [show (⟨p, 0, none⟩ : Addr).add 0 = ⟨p, 0, none⟩ from rfl]; exact hu) (by omega) (by unfold maxLen; omega) (by have : (n + 1) * bytes ≤ 1000000 * 64 := Nat.mul_le_mul (by omega) T.small; omega)
  exact ⟨v', w', hr, h2, (Below.refl _ _).grown h3 (Nat.le_refl _) (fun k hk => by cases hk), row_shape h2⟩
end Go.Proofs.Rg

