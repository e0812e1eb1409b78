/- Regions that draw: taking an operation first under a condition on the world that is asked only until certain operations have come up. -/
import Derived.Test.YtjifdmfoijoekaaXRf
set_option linter.unusedVariables false
namespace Go.Proofs.Rg
open Go Go.RowKit
variable {P : Program} {md : Region.Mode} {ops : Array Oper} {Q : Exit → Act → World → Prop} {S : Array Bool → World → Prop}

/-- any order from here on; the condition holds behind each operation -/
def Any (P : Program) (md : Region.Mode) (ops : Array Oper) (Q : Exit → Act → World → Prop) (S : Array Bool → World → Prop) : Nat → Array Bool → Act → World → Prop
  | 0, l, a, w => Region.ready md ops l = [] ∧ Q .normal a w
  | n + 1, l, a, w => (Region.ready md ops l = [] → Q .normal a w) ∧
      ∀ i, i ∈ Region.ready md ops l → wpOp P ops Q i (fun a' w' => S (l.setIfInBounds i true) w' ∧ Any P md ops Q S n (l.setIfInBounds i true) a' w') a w

theorem Any.plain : ∀ (n : Nat) (l : Array Bool) (a : Act) (w : World), Any P md ops Q S n l a w → wpAny P md ops Q n l a w
  | 0, _, _, _, h => h
  | n + 1, _, _, _, h => ⟨h.1, fun i hi => wpOp_mono (fun a' w' q => Any.plain n _ a' w' q.2) (h.2 i hi)⟩

theorem Any.begin {id : Nat} {a : Act} {w : World} (hm : P.follows .mixedOrders = true) (h : Any P .any ops Q S ops.size (Array.replicate ops.size false) a w.drew) : (Code.region id ops true).wp P Q a w :=
  wp_region_any hm (Any.plain _ _ _ _ h)

theorem Any.all {rs : List Nat} {n : Nat} {l : Array Bool} {a : Act} {w : World} (hr : Region.ready md ops l = rs) (hne : rs ≠ [])
    (h : ∀ i ∈ rs, wpOp P ops Q i (fun a' w' => S (l.setIfInBounds i true) w' ∧ Any P md ops Q S n (l.setIfInBounds i true) a' w') a w) : Any P md ops Q S (n + 1) l a w :=
  ⟨fun h0 => absurd (hr ▸ h0) hne, fun i hi => h i (hr ▸ hi)⟩
theorem Any.one {i : Nat} {n : Nat} {l : Array Bool} {a : Act} {w : World} (hr : Region.ready md ops l = [i])
    (h : wpOp P ops Q i (fun a' w' => S (l.setIfInBounds i true) w' ∧ Any P md ops Q S n (l.setIfInBounds i true) a' w') a w) : Any P md ops Q S (n + 1) l a w :=
  Any.all hr (by simp) (fun j hj => by obtain rfl : j = i := by simpa using hj
                                       exact h)
theorem Any.two {i j : Nat} {n : Nat} {l : Array Bool} {a : Act} {w : World} (hr : Region.ready md ops l = [i, j])
    (h : wpOp P ops Q i (fun a' w' => S (l.setIfInBounds i true) w' ∧ Any P md ops Q S n (l.setIfInBounds i true) a' w') a w)
    (h' : wpOp P ops Q j (fun a' w' => S (l.setIfInBounds j true) w' ∧ Any P md ops Q S n (l.setIfInBounds j true) a' w') a w) : Any P md ops Q S (n + 1) l a w :=
  Any.all hr (by simp) (fun k hk => by
    rw [List.mem_cons, List.mem_singleton] at hk
    rcases hk with rfl | rfl
    · exact h
    · exact h')
theorem Any.done {l : Array Bool} {a : Act} {w : World} (hr : Region.ready md ops l = []) (h : Q .normal a w) : ∀ n, Any P md ops Q S n l a w
  | 0 => ⟨hr, h⟩
  | n + 1 => ⟨fun _ => h, by rw [hr]; exact fun i hi => by simp at hi⟩

/-- the condition: T, until operation t has come up -/
def Till (t : Nat) (T : World → Prop) (l : Array Bool) (w : World) : Prop := l.getD t false = true ∨ T w

/-- what yields v while T holds may come up first, if t waits for it -/
theorem Any.first {i t : Nat} {oi ot : Oper} {v : Value} {T : World → Prop} (hi : ops[i]? = some oi) (hsel : ∀ (j : Nat) (o : Oper) cs b, ops[j]? = some o → o.op ≠ .select cs b)
    (hQ : ∀ c a w, Q (.panic c) (a.put oi.dst v) w → Q (.panic c) a w) (hti : t ≠ i) (ht : ops[t]? = some ot) (hw : ∃ e ∈ ot.after, Region.binds md e = true ∧ e.on = i) :
    ∀ (n : Nat) (l : Array Bool) (a : Act) (w : World), l.getD t false = false →
      (∀ j oj, ops[j]? = some oj → j ≠ i → l.getD j true = false → (∀ e ∈ oj.after, Region.binds md e = true → e.on ≠ i) → oi.apart ops oj = true) →
      i ∈ Region.ready md ops l → YieldsIf P ops T oi v a → T w →
      Any P md ops Q (Till t T) n (l.setIfInBounds i true) (a.put oi.dst v) w → Any P md ops Q (Till t T) (n + 1) l a w := by
  intro n
  induction n with
  | zero =>
    intro l a w _ _ hr hy hT H
    refine ⟨fun h0 => absurd (h0 ▸ hr) (by simp), fun j hj => ?_⟩
    by_cases hji : j = i
    · subst hji; exact hy.wpOp hi hT ⟨.inr hT, H⟩
    · have hmem := ready_mono hj hji
      rw [H.1] at hmem
      simp at hmem
  | succ n ih =>
    intro l a w hl hfree hr hy hT H
    refine ⟨fun h0 => absurd (h0 ▸ hr) (by simp), fun j hj => ?_⟩
    by_cases hji : j = i
    · subst hji; exact hy.wpOp hi hT ⟨.inr hT, H⟩
    obtain ⟨hun, oj, hoj, hafter⟩ := mem_ready.1 hj
    have hi0 := (mem_ready.1 hr).1
    have hno : ∀ e ∈ oj.after, Region.binds md e = true → e.on ≠ i := by
      intro e he hb heq
      have h1 := hafter e he hb
      rw [heq] at h1
      by_cases hlt : i < l.size
      · simp [hlt] at h1 hi0; rw [hi0] at h1; cases h1
      · simp [Array.getElem?_eq_none (Nat.le_of_not_lt hlt)] at h1
    have hjt : j ≠ t := by
      rintro rfl
      obtain ⟨e, he, hb, heq⟩ := hw
      rw [ht] at hoj; cases hoj
      exact hno e he hb heq
    have hstep := wpOp_putIf hoj (hfree j oj hoj hji hun hno) (fun cs b => hsel i oi cs b hi) (fun cs b => hsel j oj cs b hoj) hQ hy (H.2 j (ready_mono hj hji))
    refine wpOp_mono (fun a' w' q => ?_) hstep
    obtain ⟨hy', hS', hA'⟩ := q
    rw [Array.setIfInBounds_comm _ _ (Ne.symm hji)] at hS' hA'
    have hi1 : (l.setIfInBounds j true).getD i true = false := by rw [getD_set_ne true hji]; exact hi0
    have hl1 : (l.setIfInBounds j true).getD t false = false := by rw [getD_set_ne false hjt]; exact hl
    have hT' : T w' := by
      rcases hS' with h | h
      · rw [getD_set_ne false (Ne.symm hti), hl1] at h; cases h
      · exact h
    refine ⟨.inr hT', ih _ _ _ hl1 ?_ (ready_mono hr (Ne.symm hji)) hy' hT' hA'⟩
    intro k ok hk hki hun' hno'
    refine hfree k ok hk hki ?_ hno'
    by_cases hjk : j = k
    · rw [← hjk]; exact hun
    · rwa [getD_set_ne true hjk] at hun'
theorem Any.take {i t : Nat} {oi : Oper} {v : Value} {T : World → Prop} {n : Nat} {l : Array Bool} {a : Act} {w : World} (d : Option Tmp) (hi : ops[i]? = some oi) (hd : oi.dst = d)
    (hs : Region.noSelect ops = true) (hf : Region.free md ops l i = true) (hr : (Region.ready md ops l).contains i = true)
    (hQ : ∀ c a w, Q (.panic c) (a.put d v) w → Q (.panic c) a w) (hti : (t == i) = false) (hw : Region.waitsFor md ops t i = true) (hl : l.getD t false = false)
    (hy : YieldsIf P ops T oi v a) (hT : T w)
    (h : Any P md ops Q (Till t T) n (l.setIfInBounds i true) (a.put d v) w) : Any P md ops Q (Till t T) (n + 1) l a w := by
  subst hd
  obtain ⟨ot, ht, hw⟩ := Region.waitsFor_spec hw
  exact Any.first hi (Region.noSelect_spec hs) hQ (by simpa using hti) ht hw n l a w hl (Region.free_spec hi hf) (by simpa using hr) hy hT h
end Go.Proofs.Rg

