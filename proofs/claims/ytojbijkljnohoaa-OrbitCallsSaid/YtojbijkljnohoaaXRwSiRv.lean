/- Regions that draw: taking an operation first, under any condition that tells what it needs. -/
import Derived.Test.YtojbijkljnohoaaXRz
import Derived.ArgAppend
import Derived.IntWalk
set_option linter.unusedVariables false
namespace Go.Proofs.Rg
open Go Go.RowKit
variable {P : Program} {md : Region.Mode} {ops : Array Oper} {Q : Exit → Act → World → Prop} {S : Array Bool → World → Prop}

theorem Any.firstG {i t : Nat} {oi ot : Oper} {v : Value} {T : World → Prop} (hi : ops[i]? = some oi) (hsel : ∀ (j : Nat) (o : Oper) cs b, ops[j]? = some o → o.op ≠ .select cs b)
    (hQ : ∀ c a w, Q (.panic c) (a.put oi.dst v) w → Q (.panic c) a w) (hti : t ≠ i) (ht : ops[t]? = some ot) (hw : ∃ e ∈ ot.after, Region.binds md e = true ∧ e.on = i)
    (hS : ∀ l w, S (l.setIfInBounds i true) w ↔ S l w) (hST : ∀ l w, l.getD t false = false → S l w → T w) :
    ∀ (n : Nat) (l : Array Bool) (a : Act) (w : World), l.getD t false = false →
      (∀ j oj, ops[j]? = some oj → j ≠ i → l.getD j true = false → (∀ e ∈ oj.after, Region.binds md e = true → e.on ≠ i) → oi.apart ops oj = true) →
      i ∈ Region.ready md ops l → YieldsIf P ops T oi v a → S l w →
      Any P md ops Q S n (l.setIfInBounds i true) (a.put oi.dst v) w → Any P md ops Q S (n + 1) l a w := by
  intro n
  induction n with
  | zero =>
    intro l a w hl _ hr hy hT H
    refine ⟨fun h0 => absurd (h0 ▸ hr) (by simp), fun j hj => ?_⟩
    by_cases hji : j = i
    · subst hji; exact hy.wpOp hi (hST _ _ hl hT) ⟨(hS _ _).2 hT, H⟩
    · have hmem := ready_mono hj hji
      rw [H.1] at hmem
      simp at hmem
  | succ n ih =>
    intro l a w hl hfree hr hy hT H
    refine ⟨fun h0 => absurd (h0 ▸ hr) (by simp), fun j hj => ?_⟩
    by_cases hji : j = i
    · subst hji; exact hy.wpOp hi (hST _ _ hl hT) ⟨(hS _ _).2 hT, H⟩
    obtain ⟨hun, oj, hoj, hafter⟩ := mem_ready.1 hj
    have hi0 := (mem_ready.1 hr).1
    have hno : ∀ e ∈ oj.after, Region.binds md e = true → e.on ≠ i := by
      intro e he hb heq
      have h1 := hafter e he hb
      rw [heq] at h1
      by_cases hlt : i < l.size
      · simp [hlt] at h1 hi0; rw [hi0] at h1; cases h1
      · simp [Array.getElem?_eq_none (Nat.le_of_not_lt hlt)] at h1
    have hjt : j ≠ t := by
      rintro rfl
      obtain ⟨e, he, hb, heq⟩ := hw
      rw [ht] at hoj; cases hoj
      exact hno e he hb heq
    have hstep := wpOp_putIf hoj (hfree j oj hoj hji hun hno) (fun cs b => hsel i oi cs b hi) (fun cs b => hsel j oj cs b hoj) hQ hy (H.2 j (ready_mono hj hji))
    refine wpOp_mono (fun a' w' q => ?_) hstep
    obtain ⟨hy', hS', hA'⟩ := q
    rw [Array.setIfInBounds_comm _ _ (Ne.symm hji)] at hS' hA'
    have hl1 : (l.setIfInBounds j true).getD t false = false := by rw [getD_set_ne false hjt]; exact hl
    have hS2 := (hS _ _).1 hS'
    refine ⟨hS2, ih _ _ _ hl1 ?_ (ready_mono hr (Ne.symm hji)) hy' hS2 hA'⟩
    intro k ok hk hki hun' hno'
    refine hfree k ok hk hki ?_ hno'
    by_cases hjk : j = k
    · rw [← hjk]; exact hun
    · rwa [getD_set_ne true hjk] at hun'
theorem Any.firstH {i : Nat} {oi : Oper} {v : Value} {T : World → Prop} (hi : ops[i]? = some oi) (hsel : ∀ (j : Nat) (o : Oper) cs b, ops[j]? = some o → o.op ≠ .select cs b)
    (hQ : ∀ c a w, Q (.panic c) (a.put oi.dst v) w → Q (.panic c) a w)
    (hS : ∀ l w, S (l.setIfInBounds i true) w ↔ S l w) (hST : ∀ l w, S l w → T w) :
    ∀ (n : Nat) (l : Array Bool) (a : Act) (w : World),
      (∀ j oj, ops[j]? = some oj → j ≠ i → l.getD j true = false → (∀ e ∈ oj.after, Region.binds md e = true → e.on ≠ i) → oi.apart ops oj = true) →
      i ∈ Region.ready md ops l → YieldsIf P ops T oi v a → S l w →
      Any P md ops Q S n (l.setIfInBounds i true) (a.put oi.dst v) w → Any P md ops Q S (n + 1) l a w := by
  intro n
  induction n with
  | zero =>
    intro l a w _ hr hy hT H
    refine ⟨fun h0 => absurd (h0 ▸ hr) (by simp), fun j hj => ?_⟩
    by_cases hji : j = i
    · subst hji; exact hy.wpOp hi (hST _ _ hT) ⟨(hS _ _).2 hT, H⟩
    · have hmem := ready_mono hj hji
      rw [H.1] at hmem
      simp at hmem
  | succ n ih =>
    intro l a w hfree hr hy hT H
    refine ⟨fun h0 => absurd (h0 ▸ hr) (by simp), fun j hj => ?_⟩
    by_cases hji : j = i
    · subst hji; exact hy.wpOp hi (hST _ _ hT) ⟨(hS _ _).2 hT, H⟩
    obtain ⟨hun, oj, hoj, hafter⟩ := mem_ready.1 hj
    have hi0 := (mem_ready.1 hr).1
    have hno : ∀ e ∈ oj.after, Region.binds md e = true → e.on ≠ i := by
      intro e he hb heq
      have h1 := hafter e he hb
      rw [heq] at h1
      by_cases hlt : i < l.size
      · simp [hlt] at h1 hi0; rw [hi0] at h1; cases h1
      · simp [Array.getElem?_eq_none (Nat.le_of_not_lt hlt)] at h1
    have hstep := wpOp_putIf hoj (hfree j oj hoj hji hun hno) (fun cs b => hsel i oi cs b hi) (fun cs b => hsel j oj cs b hoj) hQ hy (H.2 j (ready_mono hj hji))
    refine wpOp_mono (fun a' w' q => ?_) hstep
    obtain ⟨hy', hS', hA'⟩ := q
    rw [Array.setIfInBounds_comm _ _ (Ne.symm hji)] at hS' hA'
    have hS2 := (hS _ _).1 hS'
    refine ⟨hS2, ih _ _ _ ?_ (ready_mono hr (Ne.symm hji)) hy' hS2 hA'⟩
    intro k ok hk hki hun' hno'
    refine hfree k ok hk hki ?_ hno'
    by_cases hjk : j = k
    · rw [← hjk]; exact hun
    · rwa [getD_set_ne true hjk] at hun'
/-- a condition till t has come up, and one for good -/
def Both (t : Nat) (T T2 : World → Prop) (l : Array Bool) (w : World) : Prop := Till t T l w ∧ T2 w
theorem Both.set {t i : Nat} {T T2 : World → Prop} (hti : t ≠ i) (l : Array Bool) (w : World) : Both t T T2 (l.setIfInBounds i true) w ↔ Both t T T2 l w := by
  unfold Both; rw [Till.set hti]
theorem Any.takeT {i t : Nat} {oi : Oper} {v : Value} {T T2 : World → Prop} {n : Nat} {l : Array Bool} {a : Act} {w : World} (d : Option Tmp) (hi : ops[i]? = some oi) (hd : oi.dst = d)
    (hs : Region.noSelect ops = true) (hf : Region.free md ops l i = true) (hr : (Region.ready md ops l).contains i = true)
    (hQ : ∀ c a w, Q (.panic c) (a.put d v) w → Q (.panic c) a w) (hti : (t == i) = false) (hw : Region.waitsFor md ops t i = true) (hl : l.getD t false = false)
    (hy : YieldsIf P ops T oi v a) (hS : Both t T T2 l w)
    (h : Any P md ops Q (Both t T T2) n (l.setIfInBounds i true) (a.put d v) w) : Any P md ops Q (Both t T T2) (n + 1) l a w := by
  subst hd
  obtain ⟨ot, ht, hw⟩ := Region.waitsFor_spec hw
  have hti' : t ≠ i := by simpa using hti
  refine Any.firstG hi (Region.noSelect_spec hs) hQ hti' ht hw (Both.set hti') (fun l w hl hh => ?_) n l a w hl (Region.free_spec hi hf) (by simpa using hr) hy hS h
  rcases hh.1 with h1 | h1
  · rw [hl] at h1; cases h1
  · exact h1
theorem Any.takeG {i t : Nat} {oi : Oper} {v : Value} {T T2 : World → Prop} {n : Nat} {l : Array Bool} {a : Act} {w : World} (d : Option Tmp) (hi : ops[i]? = some oi) (hd : oi.dst = d)
    (hs : Region.noSelect ops = true) (hf : Region.free md ops l i = true) (hr : (Region.ready md ops l).contains i = true)
    (hQ : ∀ c a w, Q (.panic c) (a.put d v) w → Q (.panic c) a w) (hti : (t == i) = false)
    (hy : YieldsIf P ops T2 oi v a) (hS : Both t T T2 l w)
    (h : Any P md ops Q (Both t T T2) n (l.setIfInBounds i true) (a.put d v) w) : Any P md ops Q (Both t T T2) (n + 1) l a w := by
  subst hd
  exact Any.firstH hi (Region.noSelect_spec hs) hQ (Both.set (by simpa using hti)) (fun l w hh => hh.2) n l a w (Region.free_spec hi hf) (by simpa using hr) hy hS h
/-- one operation by its run -/
theorem Any.run {i : Nat} {oi : Oper} {v : Value} {n : Nat} {l : Array Bool} {a : Act} {w w' : World} (d : Option Tmp) (hi : ops[i]? = some oi) (hd : oi.dst = d) (hw : Region.wanted oi (yielded ops a.tmps) = true)
    (hr : (execOp a.eval oi).run P w = .ok (.value v) w') (hS : S (l.setIfInBounds i true) w') (h : Any P md ops Q S n (l.setIfInBounds i true) (a.put d v) w') :
    wpOp P ops Q i (fun a' w' => S (l.setIfInBounds i true) w' ∧ Any P md ops Q S n (l.setIfInBounds i true) a' w') a w := wpOp_value d hi hd hw hr ⟨hS, h⟩
theorem Any.runSkip {i : Nat} {oi : Oper} {n : Nat} {l : Array Bool} {a : Act} {w w' : World} (d : Option Tmp) (hi : ops[i]? = some oi) (hd : oi.dst = d) (hw : Region.wanted oi (yielded ops a.tmps) = true)
    (hr : (execOp a.eval oi).run P w = .ok .skip w') (hS : S (l.setIfInBounds i true) w') (h : Any P md ops Q S n (l.setIfInBounds i true) (a.put d undef) w') :
    wpOp P ops Q i (fun a' w' => S (l.setIfInBounds i true) w' ∧ Any P md ops Q S n (l.setIfInBounds i true) a' w') a w := wpOp_skip d hi hd hw hr ⟨hS, h⟩
theorem Any.ask {i : Nat} {oi : Oper} {n : Nat} {l : Array Bool} {a : Act} {w : World} (d : Option Tmp) (hi : ops[i]? = some oi) (hd : oi.dst = d) (hw : Region.wanted oi (yielded ops a.tmps) = true) (f : FuncId) (args : Array Value)
    (hr : (execOp a.eval oi).run P w = .ok (.enter f args) w)
    (hc : Calls P f args w fun e w' => ∃ v, e = .returned v ∧ S (l.setIfInBounds i true) w' ∧ Any P md ops Q S n (l.setIfInBounds i true) (a.put d v) w') :
    wpOp P ops Q i (fun a' w' => S (l.setIfInBounds i true) w' ∧ Any P md ops Q S n (l.setIfInBounds i true) a' w') a w := by
  subst hd
  unfold wpOp
  simp only [hi, hw, if_true]
  left
  unfold Oper.wp
  rw [hr, Oper.upon_enter]
  refine hc.mono fun e w' ⟨v, h1, h2, h3⟩ => ?_
  subst h1
  exact ⟨h2, h3⟩
theorem yields_len {o : Oper} {a : Act} {S : World → Prop} (e : TypeId) (hg : Region.wanted o (yielded ops a.tmps) = true) (x : Operand) (t : TypeId) (ho : o.op = .call { callee := .builtin .len, args := #[x], argTypes := #[t] }) (ht : P.underlying t = some (.slice e)) (ad : Option Addr) (n c : Nat) (hx : a.eval x = .slice ad n c) : YieldsIf P ops S o (.int .i64 (n : Int)) a := by
  refine .inl ⟨hg, fun w _ => ?_⟩
  have hw : goInt (n : Int) = .int .i64 (n : Int) := rfl
  unfold execOp
  simp [ho, hx, resolve, invoke, builtin, Builtin.len_, run_underlying ht, Result.andThen, hw]
/-- one element appended to a full slice: a new row -/
theorem full_run {P : Program} {t e : TypeId} {z : Value} {bytes : Nat} (T : SlT P t e z bytes) (ty : TypeId) {X : World} (b o n : Nat) (us : List Value) (hl : us.length = n) (hc : ∀ i (h : i < us.length), X.cell? ⟨b, o + i, none⟩ = some us[i]) (p c : Nat) {u : Value}
    (hu : X.cell? ⟨p, 0, none⟩ = some u) (hn : n < 1000000) :
    ∃ v' X', (Builtin.append_ #[t, t] ty #[.slice (some ⟨b, o, none⟩) n n, .slice (some ⟨p, 0, none⟩) 1 c]).run P X = .ok v' X' ∧ X'.ownsRow X.heap.size e 1 v' (n + 1) (us ++ [u]) ∧ Below X.heap.size X X' ∧ ∃ a c, v' = .slice a (n + 1) c := by
  obtain ⟨i0, hi, hz0, hz1, hz2⟩ := info_parts T.info
  obtain ⟨v', w', hr, h2, h3⟩ := run_append_arg_grows (P := P) X t ty e i0 z 1 bytes T.ty hi hz0 hz1 hz2 T.zc (by decide) ⟨b, o, none⟩ n n us (by omega) (fun j x hj => by
    have hj2 := (List.getElem?_eq_some_iff.1 hj).1
    rw [Addr.add_mid, hc j hj2, ← hj, List.getElem?_eq_getElem hj2]) ⟨p, 0, none⟩ 1 c [u] rfl (fun j x hj => by
    obtain rfl : j = 0 := by have := (List.getElem?_eq_some_iff.1 hj).1; simpa using this
    simp at hj; subst hj
    rw [show (⟨p, 0, none⟩ : Addr).add 0 = ⟨p, 0, none⟩ from rfl]; exact hu) (by omega) (by unfold maxLen; omega) (by have : (n + 1) * bytes ≤ 1000000 * 64 := Nat.mul_le_mul (by omega) T.small; omega)
  exact ⟨v', w', hr, h2, (Below.refl _ _).grown h3 (Nat.le_refl _) (fun k hk => by cases hk), row_shape h2⟩
end Go.Proofs.Rg

/- Regions that draw: two or three operations that do not wait for each other and do not commute (calls, allocations): each order ends in one state, said by relations. -/
namespace Go.Proofs.Rg
open Go Go.RowKit
variable {P : Program} {md : Region.Mode} {ops : Array Oper} {Q : Exit → Act → World → Prop} {S : Array Bool → World → Prop}

theorem put_comm (a : Act) {d d' : Tmp} (u v : Value) (h : d ≠ d') : (a.put (some d) u).put (some d') v = (a.put (some d') v).put (some d) u := by
  unfold Act.put
  simp only [Array.setIfInBounds_comm u v h]

/-- operation i, at a frame, in a world: it yields a value of which R holds; I and what the others need is kept -/
def Does (P : Program) (ops : Array Oper) (Q : Exit → Act → World → Prop) (i d : Nat) (I : World → Prop) (R : Value → World → Prop) (K : World → World → Prop) (b : Act) (W : World) : Prop :=
  wpOp P ops Q i (fun c W' => ∃ v, c = b.put (some d) v ∧ I W' ∧ R v W' ∧ K W W') b W

theorem Any.duo {i j di dj : Nat} {I : World → Prop} {Ri Rj : Value → World → Prop} {n : Nat} {l : Array Bool} {a : Act} {w : World} (hS : ∀ l W, I W → S l W) (ij : i ≠ j) (dij : di ≠ dj)
    (r0 : Region.ready md ops l = [i, j]) (ri : Region.ready md ops (l.setIfInBounds i true) = [j]) (rj : Region.ready md ops (l.setIfInBounds j true) = [i])
    (hi : ∀ b, (b = a ∨ ∃ u, b = a.put (some dj) u) → ∀ W, I W → Does P ops Q i di I Ri (fun W W' => ∀ u, Rj u W → Rj u W') b W)
    (hj : ∀ b, (b = a ∨ ∃ u, b = a.put (some di) u) → ∀ W, I W → Does P ops Q j dj I Rj (fun W W' => ∀ u, Ri u W → Ri u W') b W)
    (hI : I w) (h : ∀ W u v, I W → Ri u W → Rj v W → Any P md ops Q S n ((l.setIfInBounds i true).setIfInBounds j true) ((a.put (some di) u).put (some dj) v) W) :
    Any P md ops Q S (n + 2) l a w := by
  refine Any.two r0 ?_ ?_
  · refine wpOp_mono ?_ (hi a (.inl rfl) w hI)
    rintro c W ⟨u, rfl, h1, h2, h3⟩
    refine ⟨hS _ _ h1, Any.one ri ?_⟩
    refine wpOp_mono ?_ (hj _ (.inr ⟨u, rfl⟩) W h1)
    rintro c W' ⟨v, rfl, g1, g2, g3⟩
    exact ⟨hS _ _ g1, h _ _ _ g1 (g3 _ h2) g2⟩
  · refine wpOp_mono ?_ (hj a (.inl rfl) w hI)
    rintro c W ⟨u, rfl, h1, h2, h3⟩
    refine ⟨hS _ _ h1, Any.one rj ?_⟩
    refine wpOp_mono ?_ (hi _ (.inr ⟨u, rfl⟩) W h1)
    rintro c W' ⟨v, rfl, g1, g2, g3⟩
    have := h _ _ _ g1 g2 (g3 _ h2)
    rw [put_comm _ _ _ dij, Array.setIfInBounds_comm _ _ ij] at this
    exact ⟨hS _ _ g1, this⟩

theorem Any.triple {i j k di dj dk : Nat} {I : World → Prop} {Ri Rj Rk : Value → World → Prop} {n : Nat} {l : Array Bool} {a : Act} {w : World} (hS : ∀ l W, I W → S l W)
    (ij : i ≠ j) (ik : i ≠ k) (jk : j ≠ k) (dij : di ≠ dj) (dik : di ≠ dk) (djk : dj ≠ dk)
    (r0 : Region.ready md ops l = [i, j, k]) (ri : Region.ready md ops (l.setIfInBounds i true) = [j, k]) (rj : Region.ready md ops (l.setIfInBounds j true) = [i, k]) (rk : Region.ready md ops (l.setIfInBounds k true) = [i, j])
    (rij : Region.ready md ops ((l.setIfInBounds i true).setIfInBounds j true) = [k]) (rik : Region.ready md ops ((l.setIfInBounds i true).setIfInBounds k true) = [j]) (rjk : Region.ready md ops ((l.setIfInBounds j true).setIfInBounds k true) = [i])
    (hi : ∀ b, (b = a ∨ (∃ u, b = a.put (some dj) u) ∨ (∃ u, b = a.put (some dk) u) ∨ ∃ u v, b = (a.put (some dj) u).put (some dk) v) → ∀ W, I W → Does P ops Q i di I Ri (fun W W' => (∀ u, Rj u W → Rj u W') ∧ ∀ u, Rk u W → Rk u W') b W)
    (hj : ∀ b, (b = a ∨ (∃ u, b = a.put (some di) u) ∨ (∃ u, b = a.put (some dk) u) ∨ ∃ u v, b = (a.put (some di) u).put (some dk) v) → ∀ W, I W → Does P ops Q j dj I Rj (fun W W' => (∀ u, Ri u W → Ri u W') ∧ ∀ u, Rk u W → Rk u W') b W)
    (hk : ∀ b, (b = a ∨ (∃ u, b = a.put (some di) u) ∨ (∃ u, b = a.put (some dj) u) ∨ ∃ u v, b = (a.put (some di) u).put (some dj) v) → ∀ W, I W → Does P ops Q k dk I Rk (fun W W' => (∀ u, Ri u W → Ri u W') ∧ ∀ u, Rj u W → Rj u W') b W)
    (hI : I w) (h : ∀ W u v x, I W → Ri u W → Rj v W → Rk x W → Any P md ops Q S n (((l.setIfInBounds i true).setIfInBounds j true).setIfInBounds k true) (((a.put (some di) u).put (some dj) v).put (some dk) x) W) :
    Any P md ops Q S (n + 3) l a w := by
  refine Any.all r0 (by simp) fun m hm => ?_
  simp only [List.mem_cons, List.not_mem_nil, or_false] at hm
  rcases hm with rfl | rfl | rfl
  · refine wpOp_mono ?_ (hi a (.inl rfl) w hI)
    rintro c W ⟨u, rfl, h1, h2, h3⟩
    refine ⟨hS _ _ h1, Any.duo (I := fun W => I W ∧ Ri u W) (Ri := Rj) (Rj := Rk) (fun l W h => hS _ _ h.1) jk djk ri rij rik ?_ ?_ ⟨h1, h2⟩ fun W v x hW hv hx => h W u v x hW.1 hW.2 hv hx⟩
    · rintro b hb W ⟨g1, g2⟩
      refine wpOp_mono ?_ (hj b (by rcases hb with rfl | ⟨x, rfl⟩; exact .inr (.inl ⟨_, rfl⟩); exact .inr (.inr (.inr ⟨_, _, rfl⟩))) W g1)
      rintro c W' ⟨v, rfl, e1, e2, e3, e4⟩
      exact ⟨v, rfl, ⟨e1, e3 _ g2⟩, e2, e4⟩
    · rintro b hb W ⟨g1, g2⟩
      refine wpOp_mono ?_ (hk b (by rcases hb with rfl | ⟨x, rfl⟩; exact .inr (.inl ⟨_, rfl⟩); exact .inr (.inr (.inr ⟨_, _, rfl⟩))) W g1)
      rintro c W' ⟨v, rfl, e1, e2, e3, e4⟩
      exact ⟨v, rfl, ⟨e1, e3 _ g2⟩, e2, e4⟩
  · refine wpOp_mono ?_ (hj a (.inl rfl) w hI)
    rintro c W ⟨v, rfl, h1, h2, h3⟩
    refine ⟨hS _ _ h1, Any.duo (I := fun W => I W ∧ Rj v W) (Ri := Ri) (Rj := Rk) (fun l W h => hS _ _ h.1) ik dik rj ?_ rjk ?_ ?_ ⟨h1, h2⟩ fun W u x hW hu hx => ?_⟩
    · rw [Array.setIfInBounds_comm _ _ (Ne.symm ij)]; exact rij
    · rintro b hb W ⟨g1, g2⟩
      refine wpOp_mono ?_ (hi b (by rcases hb with rfl | ⟨x, rfl⟩; exact .inr (.inl ⟨_, rfl⟩); exact .inr (.inr (.inr ⟨_, _, rfl⟩))) W g1)
      rintro c W' ⟨u, rfl, e1, e2, e3, e4⟩
      exact ⟨u, rfl, ⟨e1, e3 _ g2⟩, e2, e4⟩
    · rintro b hb W ⟨g1, g2⟩
      refine wpOp_mono ?_ (hk b (by rcases hb with rfl | ⟨x, rfl⟩; exact .inr (.inr (.inl ⟨_, rfl⟩)); exact .inr (.inr (.inr ⟨_, _, put_comm _ _ _ (Ne.symm dij)⟩))) W g1)
      rintro c W' ⟨x, rfl, e1, e2, e3, e4⟩
      exact ⟨x, rfl, ⟨e1, e4 _ g2⟩, e2, e3⟩
    · have := h W u v x hW.1 hu hW.2 hx
      rw [put_comm a u v dij, Array.setIfInBounds_comm _ _ ij] at this
      exact this
  · refine wpOp_mono ?_ (hk a (.inl rfl) w hI)
    rintro c W ⟨x, rfl, h1, h2, h3⟩
    refine ⟨hS _ _ h1, Any.duo (I := fun W => I W ∧ Rk x W) (Ri := Ri) (Rj := Rj) (fun l W h => hS _ _ h.1) ij dij rk ?_ ?_ ?_ ?_ ⟨h1, h2⟩ fun W u v hW hu hv => ?_⟩
    · rw [Array.setIfInBounds_comm _ _ (Ne.symm ik)]; exact rik
    · rw [Array.setIfInBounds_comm _ _ (Ne.symm jk)]; exact rjk
    · rintro b hb W ⟨g1, g2⟩
      refine wpOp_mono ?_ (hi b (by rcases hb with rfl | ⟨v, rfl⟩; exact .inr (.inr (.inl ⟨_, rfl⟩)); exact .inr (.inr (.inr ⟨_, _, put_comm _ _ _ (Ne.symm djk)⟩))) W g1)
      rintro c W' ⟨u, rfl, e1, e2, e3, e4⟩
      exact ⟨u, rfl, ⟨e1, e4 _ g2⟩, e2, e3⟩
    · rintro b hb W ⟨g1, g2⟩
      refine wpOp_mono ?_ (hj b (by rcases hb with rfl | ⟨v, rfl⟩; exact .inr (.inr (.inl ⟨_, rfl⟩)); exact .inr (.inr (.inr ⟨_, _, put_comm _ _ _ (Ne.symm dik)⟩))) W g1)
      rintro c W' ⟨v, rfl, e1, e2, e3, e4⟩
      exact ⟨v, rfl, ⟨e1, e4 _ g2⟩, e2, e3⟩
    · have := h W u v x hW.1 hu hv hW.2
      rw [put_comm (a.put (some di) u) v x djk, put_comm a u x dik, Array.setIfInBounds_comm _ _ jk, Array.setIfInBounds_comm _ _ ik] at this
      exact this
end Go.Proofs.Rg

/- Regions that draw: a step law by a statement on the state of the region. -/
namespace Go.Proofs.Rg
open Go Go.RowKit
variable {P : Program} {md : Region.Mode} {ops : Array Oper} {Q : Exit → Act → World → Prop} {S : Array Bool → World → Prop}

/-- whatever is ready keeps the statement J, whose number falls; at 0 the rest goes on -/
theorem Any.inv {J : Nat → Array Bool → Act → World → Prop} {k : Nat} (h0 : ∀ l a w, J 0 l a w → Any P md ops Q S k l a w)
    (hs : ∀ m l a w, J (m + 1) l a w → Region.ready md ops l ≠ [] ∧ ∀ i ∈ Region.ready md ops l, wpOp P ops Q i (fun a' w' => S (l.setIfInBounds i true) w' ∧ J m (l.setIfInBounds i true) a' w') a w) :
    ∀ m l a w, J m l a w → Any P md ops Q S (k + m) l a w
  | 0, l, a, w, h => h0 l a w h
  | m + 1, l, a, w, h => by
    obtain ⟨h1, h2⟩ := hs m l a w h
    exact Any.all rfl h1 fun i hi => wpOp_mono (fun a' w' q => ⟨q.1, Any.inv h0 hs m _ a' w' q.2⟩) (h2 i hi)
end Go.Proofs.Rg

