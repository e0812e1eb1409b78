/- The walk's laws in the form that this work uses: one element appended to a row of the call's own. -/
import Derived.Test.YtojbijkljnohoaaXRg
import Derived.WalkSpells
import Derived.WalkLawsBesides
import Derived.Maps.AppendAt
import Derived.OwnWalk
import Derived.OrdersHeld
set_option linter.unusedVariables false
namespace Go.Proofs.Rg
open Go Go.RowKit

/-- a slice type of one-cell elements -/
structure SlT (P : Program) (t e : TypeId) (z : Value) (bytes : Nat) : Prop where
  ty : P.underlying t = some (.slice e)
  info : (P.info? e).map (fun i => (i.zero, i.size, i.bytes)) = some (some z, 1, bytes)
  zc : z.cells.size = 1
  small : bytes ≤ 64

theorem app1 {P : Program} {W0 wr : World} {ops : Array Oper} {rest : List Oper} {o : Oper} {a : Act} {Q : Exit → Act → World → Prop} (hgd : o.guard = none) (s x : Operand) (t : TypeId)
    (ho : o.op = .call { callee := .builtin .append, args := #[s, x], argTypes := #[t, t] })
    {e e' : TypeId} {z : Value} {bytes : Nat} (T : SlT P t e z bytes) {v : Value} {n : Nat} {xs : List Value} (hown : wr.ownsRow W0.heap.size e 1 v n xs) (hb : Below W0.heap.size W0 wr)
    (u : Value) (hu : u.oneCell' = true) (hs : a.eval s = v) (hx : a.eval x = .slice (some ⟨wr.heap.size, 0, none⟩) 1 1) (hn : n < 1000000000)
    (h : ∀ v' w', w'.ownsRow W0.heap.size e 1 v' (n + 1) (xs ++ [u]) → Below W0.heap.size W0 w' → (wr.alloc (.cells #[u] e')).grownBy w' v.ownBlock → (v'.ownBlock = v.ownBlock ∨ v'.ownBlock = some (wr.heap.size + 1)) → (∃ ad cap, v' = .slice ad (n + 1) cap) → wpList P ops Q rest (a.put o.dst v') w') :
    wpList P ops Q (o :: rest) a (wr.alloc (.cells #[u] e')) := by
  obtain ⟨i0, hi, hz0, hz1, hz2⟩ := info_parts T.info
  have hsz := hb.size
  refine wpList_append_own_at (wr.alloc (.cells #[u] e')) hgd s x t ho W0.heap.size e i0 z 1 bytes T.ty hi hz0 hz1 hz2 T.zc (by decide) v n xs hs (hown.alloc _) ⟨wr.heap.size, 0, none⟩ 1 1 [u] hx rfl (cell_one_new _ _ _) (by simpa using hu) (by unfold maxLen; omega) ?_ (by simp; omega) ?_
  · have : (n + 1) * bytes ≤ 1000000000 * 64 := Nat.mul_le_mul (by omega) T.small
    omega
  · intro v' w' h1 h2 h3 h4
    refine h v' w' h1 ((hb.alloc hsz _).grown h2 (by simp; omega) (fun k hk => (hown.lt k hk).1)) h2 (by simpa using h4) ?_
    obtain ⟨_, hv⟩ := h1
    rcases hv with ⟨hv, hn0⟩ | ⟨g, cap, cur, hv, _⟩
    · omega
    · exact ⟨_, _, hv⟩

theorem drewN {B : Nat} {a w : World} (h : Below B a w) (k : Nat) : Below B a (w.drewN k) := ⟨h.os, h.tape, h.output, h.size, h.block⟩
theorem new2 (w : World) (x y : Value) (t : TypeId) : ∀ (j : Nat) (u : Value), [x, y][j]? = some u → (w.alloc (.cells #[x, y] t)).cell? ((⟨w.heap.size, 0, none⟩ : Addr).add j) = some u := by
  intro j u h
  match j, h with
  | 0, h =>
    simp at h; subst h
    rw [show (⟨w.heap.size, 0, none⟩ : Addr).add 0 = ⟨w.heap.size, 0, none⟩ from rfl, cellNew]; rfl
  | 1, h =>
    simp at h; subst h
    rw [show (⟨w.heap.size, 0, none⟩ : Addr).add 1 = ⟨w.heap.size, 1, none⟩ from rfl, cellNew]; rfl
theorem app2 {P : Program} {W0 wr : World} {ops : Array Oper} {rest : List Oper} {o : Oper} {a : Act} {Q : Exit → Act → World → Prop} (hgd : o.guard = none) (s x : Operand) (t : TypeId)
    (ho : o.op = .call { callee := .builtin .append, args := #[s, x], argTypes := #[t, t] })
    {e e' : TypeId} {z : Value} {bytes : Nat} (T : SlT P t e z bytes) {v : Value} {n : Nat} {xs : List Value} (hown : wr.ownsRow W0.heap.size e 1 v n xs) (hb : Below W0.heap.size W0 wr)
    (u u2 : Value) (hu : u.oneCell' = true) (hu2 : u2.oneCell' = true) (hs : a.eval s = v) (hx : a.eval x = .slice (some ⟨wr.heap.size, 0, none⟩) 2 2) (hn : n + 1 < 1000000000)
    (h : ∀ v' w', w'.ownsRow W0.heap.size e 1 v' (n + 2) (xs ++ [u, u2]) → Below W0.heap.size W0 w' → (wr.alloc (.cells #[u, u2] e')).grownBy w' v.ownBlock → (v'.ownBlock = v.ownBlock ∨ v'.ownBlock = some (wr.heap.size + 1)) → (∃ ad cap, v' = .slice ad (n + 2) cap) → wpList P ops Q rest (a.put o.dst v') w') :
    wpList P ops Q (o :: rest) a (wr.alloc (.cells #[u, u2] e')) := by
  obtain ⟨i0, hi, hz0, hz1, hz2⟩ := info_parts T.info
  have hsz := hb.size
  refine wpList_append_own_at (wr.alloc (.cells #[u, u2] e')) hgd s x t ho W0.heap.size e i0 z 1 bytes T.ty hi hz0 hz1 hz2 T.zc (by decide) v n xs hs (hown.alloc _) ⟨wr.heap.size, 0, none⟩ 2 2 [u, u2] hx rfl (new2 _ _ _ _) (by simp; exact ⟨hu, hu2⟩) (by unfold maxLen; omega) ?_ (by simp; omega) ?_
  · have : (n + 2) * bytes ≤ 1000000000 * 64 := Nat.mul_le_mul (by omega) T.small
    omega
  · intro v' w' h1 h2 h3 h4
    refine h v' w' h1 ((hb.alloc hsz _).grown h2 (by simp; omega) (fun k hk => (hown.lt k hk).1)) h2 (by simpa using h4) ?_
    obtain ⟨_, hv⟩ := h1
    rcases hv with ⟨hv, hn0⟩ | ⟨g, cap, cur, hv, _⟩
    · omega
    · exact ⟨_, _, hv⟩
theorem row_below {w w' : World} {base : Nat} {e : TypeId} {size : Nat} {v : Value} {n : Nat} {xs : List Value} (h : w.ownsRow base e size v n xs) (hb : Below w.heap.size w w') : w'.ownsRow base e size v n xs :=
  h.kept (row := none) ⟨hb.os, hb.tape, hb.output, hb.size, fun i hi _ => hb.block i hi⟩ (by cases v.ownBlock <;> simp)
/-- two values that own no one block -/
def Apart (v1 v2 : Value) : Prop := ∀ b, v1.ownBlock = some b → v2.ownBlock ≠ some b
theorem Apart.nil (v : Value) : Apart (.slice none 0 0) v := fun b h => by simp [Value.ownBlock] at h
theorem Apart.symm {v1 v2 : Value} (h : Apart v1 v2) : Apart v2 v1 := fun b h1 h2 => h b h2 h1
theorem Apart.grow {v1 v1' v2 : Value} {w : World} {base : Nat} {e : TypeId} {size n g : Nat} {xs : List Value} (h : Apart v1 v2) (ho : w.ownsRow base e size v2 n xs) (hv : v1'.ownBlock = v1.ownBlock ∨ v1'.ownBlock = some g) (hg : w.heap.size ≤ g) : Apart v1' v2 := fun b h1 h2 => by
  rcases hv with hv | hv
  · exact h b (hv ▸ h1) h2
  · have := (ho.lt b h2).2
    rw [hv] at h1; simp at h1; omega
theorem Apart.keep {v1 v2 : Value} {w w' : World} {base : Nat} {e : TypeId} {size n : Nat} {xs : List Value} (h : Apart v1 v2) (ho : w.ownsRow base e size v2 n xs) (hg : w.grownBy w' v1.ownBlock) : w'.ownsRow base e size v2 n xs := by
  refine ho.kept hg ?_
  cases hv : v2.ownBlock with
  | none => exact .inl rfl
  | some b => exact .inr (fun e => h b e.symm hv)

/-- values that read as lists of naturals -/
def Elts (w : World) (us : List Value) (gs : List (List Nat)) : Prop := us.length = gs.length ∧ ∀ i (h : i < us.length) (h2 : i < gs.length), NP w us[i] gs[i]
theorem Elts.nil (w : World) : Elts w [] [] := ⟨rfl, fun i h => by simp at h⟩
theorem Elts.below {w w' : World} {us : List Value} {gs : List (List Nat)} (h : Elts w us gs) (hb : Below w.heap.size w w') : Elts w' us gs := ⟨h.1, fun i a b => (h.2 i a b).below hb⟩
theorem Elts.snoc {w : World} {us : List Value} {gs : List (List Nat)} {u : Value} {g : List Nat} (h : Elts w us gs) (hu : NP w u g) : Elts w (us ++ [u]) (gs ++ [g]) := by
  refine ⟨by simp [h.1], fun i a b => ?_⟩
  have hl := h.1
  by_cases hi : i < us.length
  · rw [List.getElem_append_left hi, List.getElem_append_left (by omega)]; exact h.2 i hi (by omega)
  · have hi2 : i = us.length := by simp at a; omega
    have e1 : (us ++ [u])[i] = u := by rw [List.getElem_append_right (by omega)]; simp
    have e2 : (gs ++ [g])[i] = g := by rw [List.getElem_append_right (by omega)]; simp
    rw [e1, e2]; exact hu
theorem Elts.rows {w : World} {v : Value} {us : List Value} {gs : List (List Nat)} (h : Elts w us gs) (hv : Vals w v us) : Rows w v (gs.map Ma.ofN) :=
  ⟨us, hv, by simp [h.1], fun i a b => by simp only [List.getElem_map]; exact h.2 i a (by simpa using b)⟩
def Offs (us : List Value) (k : Option Nat) : Prop := ∀ u ∈ us, Off u k
theorem Offs.nil (k : Option Nat) : Offs [] k := fun u h => by simp at h
theorem Offs.snoc {us : List Value} {k : Option Nat} {u : Value} (h : Offs us k) (hu : Off u k) : Offs (us ++ [u]) k := fun x hx => by
  rcases List.mem_append.1 hx with hx | hx
  · exact h x hx
  · obtain rfl : x = u := by simpa using hx
    exact hu
theorem Elts.grown {w w' : World} {us : List Value} {gs : List (List Nat)} {k : Option Nat} (h : Elts w us gs) (ho : Offs us k) (hg : w.grownBy w' k) : Elts w' us gs :=
  ⟨h.1, fun i a b => (h.2 i a b).grown (ho _ (List.getElem_mem a)) hg⟩
theorem Offs.next {w : World} {us : List Value} {gs : List (List Nat)} {k k' : Option Nat} {g : Nat} (h : Offs us k) (he : Elts w us gs) (hk : k' = k ∨ k' = some g) (hg : w.heap.size ≤ g) : Offs us k' := fun u hu => by
  obtain ⟨i, hi, rfl⟩ := List.getElem_of_mem hu
  exact (h _ hu).next (he.2 i hi (by rw [← he.1]; exact hi)) hk hg
/-- rows of naturals -/
def NRows (w : World) (v : Value) (gs : List (List Nat)) : Prop := Rows w v (gs.map Ma.ofN)
theorem NRows.below {w w' : World} {v : Value} {gs : List (List Nat)} (h : NRows w v gs) (hb : Below w.heap.size w w') : NRows w' v gs := Rows.below h hb
theorem NRows.shape {w : World} {v : Value} {gs : List (List Nat)} (h : NRows w v gs) :
    ∃ a cap, v = .slice a gs.length cap ∧ gs.length ≤ cap ∧ gs.length ≤ 1000000000 ∧ cap ≤ maxLen ∧
    (0 < gs.length → ∃ b o, a = some ⟨b, o, none⟩ ∧ b < w.heap.size ∧ ∀ i (h : i < gs.length), ∃ u, w.cell? ⟨b, o + i, none⟩ = some u ∧ NP w u gs[i]) := by
  obtain ⟨a, cap, h1, h2, h3, h4, h5⟩ := Rows.shape h
  rw [List.length_map] at h1 h2 h3
  refine ⟨a, cap, h1, h2, h3, h4, fun h0 => ?_⟩
  obtain ⟨b, o, e1, e2, e3⟩ := h5 (by simpa using h0)
  refine ⟨b, o, e1, e2, fun i hi => ?_⟩
  obtain ⟨u, q1, q2⟩ := e3 i (by simpa using hi)
  exact ⟨u, q1, by rw [List.getElem_map] at q2; exact q2⟩
theorem NP.len {w : World} {v : Value} {l : List Nat} (h : NP w v l) : ∃ n a cap, l.length = n ∧ v = .slice a n cap ∧ n ≤ 1000000000 := by
  obtain ⟨n, a, cap, h1, h2, h3⟩ := Ints.len h
  exact ⟨n, a, cap, by rw [← h1, Ma.len_ofN], h2, h3⟩
/-- another row of the call's own stays -/
theorem row_keep {w w' : World} {base : Nat} {e : TypeId} {size : Nat} {v : Value} {n : Nat} {xs : List Value} {row : Option Nat} (h : w.ownsRow base e size v n xs) (hg : w.grownBy w' row) (hne : v.ownBlock = none ∨ v.ownBlock ≠ row) : w'.ownsRow base e size v n xs := h.kept hg hne
/-- one operation of a region that draws, by its run -/
theorem wpOp_value {P : Program} {ops : Array Oper} {Q : Exit → Act → World → Prop} {i : Nat} {o : Oper} {K : Act → World → Prop} {a : Act} {w w' : World} {v : Value} (d : Option Tmp) (hi : ops[i]? = some o) (hd : o.dst = d) (hw : Region.wanted o (yielded ops a.tmps) = true)
    (hr : (execOp a.eval o).run P w = .ok (.value v) w') (h : K (a.put d v) w') : wpOp P ops Q i K a w := by
  subst hd
  unfold wpOp
  simp only [hi, hw, if_true]
  left
  unfold Oper.wp
  rw [hr]
  exact h
theorem wpOp_skip {P : Program} {ops : Array Oper} {Q : Exit → Act → World → Prop} {i : Nat} {o : Oper} {K : Act → World → Prop} {a : Act} {w w' : World} (d : Option Tmp) (hi : ops[i]? = some o) (hd : o.dst = d) (hw : Region.wanted o (yielded ops a.tmps) = true)
    (hr : (execOp a.eval o).run P w = .ok .skip w') (h : K (a.put d undef) w') : wpOp P ops Q i K a w := by
  subst hd
  unfold wpOp
  simp only [hi, hw, if_true]
  left
  unfold Oper.wp
  rw [hr]
  exact h
theorem takeH {P : Program} {md : Region.Mode} {ops : Array Oper} {Q : Exit → Act → World → Prop} {S : World → Prop} {i : Nat} {oi : Oper} {v : Value} {fuel : Nat} {listed : Array Bool} {a : Act} {w : World} (d : Option Tmp) (hi : ops[i]? = some oi) (hd : oi.dst = d)
    (hs : Region.noSelect ops = true) (hf : Region.free md ops listed i = true) (hr : (Region.ready md ops listed).contains i = true)
    (hQ : ∀ c a w, Q (.panic c) (a.put d v) w → Q (.panic c) a w) (hy : YieldsIf P ops S oi v a) (hS : S w)
    (h : wpAnyH P md ops Q S fuel (listed.setIfInBounds i true) (a.put d v) w) : wpAnyH P md ops Q S (fuel + 1) listed a w := by
  subst hd
  exact wpAnyH_take hi hs hf hr hQ hy hS h
theorem exec_insert {P : Program} {o : Oper} {a : Act} {w w' : World} (t : TypeId) (m k x : Operand) (ho : o.op = .insert t m k x) (mv kv xv : Value) (hm : a.eval m = mv) (hk : a.eval k = kv) (hx : a.eval x = xv)
    (hr : (Instr.mapUpdate t mv kv xv).run P w = .ok () w') : (execOp a.eval o).run P w = .ok .skip w' := by
  unfold execOp
  simp [ho, hm, hk, hx, hr, Result.andThen]
theorem exec_buildSlice {P : Program} {o : Oper} {a : Act} {w w' : World} {v : Value} (t : TypeId) (n : Nat) (x : Operand) (ho : o.op = .buildSlice t n #[(0, x)]) (xv : Value) (hx : a.eval x = xv)
    (hr : (Instr.buildSlice t n #[(0, xv)]).run P w = .ok v w') : (execOp a.eval o).run P w = .ok (.value v) w' := by
  unfold execOp
  simp [ho, hx, hr, Result.andThen]
theorem exec_assign {P : Program} {o : Oper} {a : Act} {w : World} {v : Value} (x : Operand) (ho : o.op = .assign x) (hx : a.eval x = v) : (execOp a.eval o).run P w = .ok (.value v) w := by
  unfold execOp
  simp [ho, hx]
theorem exec_move {P : Program} {o : Oper} {a : Act} {w : World} {v : Value} (x : Operand) (ho : o.op = .move x) (hx : a.eval x = v) : (execOp a.eval o).run P w = .ok (.value v) w := by
  unfold execOp
  simp [ho, hx]
theorem exec_box {P : Program} {o : Oper} {a : Act} {w : World} {cs : Array Value} (t : TypeId) (x : Operand) (ho : o.op = .box t x) (hx : a.eval x = .agg cs) :
    (execOp a.eval o).run P w = .ok (.value (.pointer (some ⟨w.heap.size, 0, none⟩))) (w.alloc (.cells cs t)) := by
  unfold execOp
  simp [ho, hx, Instr.box, newVar, newRow, Value.cells, Result.andThen]
theorem row_shape {w : World} {base : Nat} {e : TypeId} {size : Nat} {v : Value} {n : Nat} {xs : List Value} (h : w.ownsRow base e size v n xs) : ∃ a cap, v = .slice a n cap := by
  obtain ⟨_, hv⟩ := h
  rcases hv with ⟨hv, hn0⟩ | ⟨g, cap, cur, hv, _⟩
  · exact ⟨none, 0, by rw [hv, hn0]⟩
  · exact ⟨_, _, hv⟩
end Go.Proofs.Rg

