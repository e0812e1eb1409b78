/- Slices that read as lists, relative to a set F of blocks that no longer change. -/
import Derived.Test.YtojbijkljnohoaaXRi
import Derived.Laws.CopyOwn
set_option linter.unusedVariables false
namespace Go.Proofs.Rg
open Go Go.RowKit

/-- all blocks but those in M stay -/
structure Kp (M : Nat → Prop) (w w' : World) : Prop where
  os : w'.os = w.os
  tape : w'.tape = w.tape
  output : w'.output = w.output
  size : w.heap.size ≤ w'.heap.size
  block : ∀ k, k < w.heap.size → ¬ M k → w'.heap[k]? = w.heap[k]?
theorem Kp.refl (M : Nat → Prop) (w : World) : Kp M w w := ⟨rfl, rfl, rfl, Nat.le_refl _, fun _ _ _ => rfl⟩
theorem Kp.of_below {M : Nat → Prop} {w w' : World} (h : Below w.heap.size w w') : Kp M w w' := ⟨h.os, h.tape, h.output, h.size, fun k hk _ => h.block k hk⟩
theorem Kp.of_grown {M : Nat → Prop} {w w' : World} {row : Option Nat} (h : w.grownBy w' row) (hM : ∀ k, row = some k → M k) : Kp M w w' :=
  ⟨h.os, h.tape, h.output, h.size, fun k hk hn => h.block k hk (fun e => hn (hM k e.symm))⟩
theorem Kp.of_setCell {M : Nat → Prop} {w : World} {a : Addr} {v : Value} (hM : M a.block) : Kp M w (w.setCell a v) :=
  ⟨rfl, rfl, rfl, by simp [World.setCell], fun k _ hn => Below.heap_setCell _ _ _ _ (fun e => hn (e ▸ hM))⟩
theorem Kp.trans {M M' : Nat → Prop} {w w' w'' : World} (h : Kp M w w') (h' : Kp M' w' w'') (hM : ∀ k, k < w.heap.size → M' k → M k) : Kp M w w'' :=
  ⟨h'.os.trans h.os, h'.tape.trans h.tape, h'.output.trans h.output, Nat.le_trans h.size h'.size,
    fun k hk hn => (h'.block k (Nat.lt_of_lt_of_le hk h.size) (fun e => hn (hM k hk e))).trans (h.block k hk hn)⟩
theorem Kp.weak {M M' : Nat → Prop} {w w' : World} (h : Kp M w w') (hM : ∀ k, M k → M' k) : Kp M' w w' := ⟨h.os, h.tape, h.output, h.size, fun k hk hn => h.block k hk (fun e => hn (hM k e))⟩
theorem Kp.below {M : Nat → Prop} {w0 w w' : World} (hb : Below w0.heap.size w0 w) (h : Kp M w w') (hM : ∀ k, M k → w0.heap.size ≤ k) : Below w0.heap.size w0 w' :=
  hb.trans ⟨h.os, h.tape, h.output, h.size, fun k hk => h.block k (Nat.lt_of_lt_of_le hk hb.size) (fun e => by have := hM k e; omega)⟩

def FVals (F : Nat → Prop) (w : World) (v : Value) (us : List Value) : Prop :=
  ∃ a cap, v = .slice a us.length cap ∧ us.length ≤ cap ∧ cap ≤ maxLen ∧ us.length ≤ 1000000000 ∧
    (0 < us.length → ∃ b o, a = some ⟨b, o, none⟩ ∧ b < w.heap.size ∧ F b ∧ ∀ i (h : i < us.length), w.cell? ⟨b, o + i, none⟩ = some us[i])
def FI (F : Nat → Prop) (w : World) (v : Value) (l : List Int) : Prop := FVals F w v (l.map (Value.int .i64))
def FElts (F : Nat → Prop) (w : World) (us : List Value) (ll : List (List Int)) : Prop := us.length = ll.length ∧ ∀ i (h : i < us.length) (h2 : i < ll.length), FI F w us[i] ll[i]
def FRows (F : Nat → Prop) (w : World) (v : Value) (ll : List (List Int)) : Prop := ∃ us, FVals F w v us ∧ FElts F w us ll
def FElts2 (F : Nat → Prop) (w : World) (us : List Value) (ll : List (List (List Int))) : Prop := us.length = ll.length ∧ ∀ i (h : i < us.length) (h2 : i < ll.length), FRows F w us[i] ll[i]

theorem FVals.kp {F M : Nat → Prop} {w w' : World} {v : Value} {us : List Value} (h : FVals F w v us) (hk : Kp M w w') (hM : ∀ k, F k → ¬ M k) : FVals F w' v us := by
  obtain ⟨a, cap, h1, h2, h3, h4, h5⟩ := h
  refine ⟨a, cap, h1, h2, h3, h4, fun h0 => ?_⟩
  obtain ⟨b, o, e1, e2, e3, e4⟩ := h5 h0
  exact ⟨b, o, e1, Nat.lt_of_lt_of_le e2 hk.size, e3, fun i hi => (World.cell?_of_block (w := w) (a := ⟨b, o + i, none⟩) (hk.block b e2 (hM b e3))).trans (e4 i hi)⟩
theorem FVals.mono {F F' : Nat → Prop} {w : World} {v : Value} {us : List Value} (h : FVals F w v us) (hF : ∀ k, F k → F' k) : FVals F' w v us := by
  obtain ⟨a, cap, h1, h2, h3, h4, h5⟩ := h
  refine ⟨a, cap, h1, h2, h3, h4, fun h0 => ?_⟩
  obtain ⟨b, o, e1, e2, e3, e4⟩ := h5 h0
  exact ⟨b, o, e1, e2, hF b e3, e4⟩
theorem FVals.vals {F : Nat → Prop} {w : World} {v : Value} {us : List Value} (h : FVals F w v us) : Vals w v us := by
  obtain ⟨a, cap, h1, h2, h3, h4, h5⟩ := h
  refine ⟨a, cap, h1, h2, h3, h4, fun h0 => ?_⟩
  obtain ⟨b, o, e1, e2, e3, e4⟩ := h5 h0
  exact ⟨b, o, e1, e2, e4⟩
theorem FVals.of {F : Nat → Prop} {w : World} {v : Value} {us : List Value} (h : Vals w v us) (hF : ∀ b, v.ownBlock = some b → F b) : FVals F w v us := by
  obtain ⟨a, cap, h1, h2, h3, h4, h5⟩ := h
  refine ⟨a, cap, h1, h2, h3, h4, fun h0 => ?_⟩
  obtain ⟨b, o, e1, e2, e4⟩ := h5 h0
  exact ⟨b, o, e1, e2, hF b (by rw [h1, e1]; rfl), e4⟩
theorem FVals.shape {F : Nat → Prop} {w : World} {v : Value} {us : List Value} (h : FVals F w v us) : ∃ a cap, v = .slice a us.length cap := by
  obtain ⟨a, cap, h1, _⟩ := h; exact ⟨a, cap, h1⟩

theorem FI.kp {F M : Nat → Prop} {w w' : World} {v : Value} {l : List Int} (h : FI F w v l) (hk : Kp M w w') (hM : ∀ k, F k → ¬ M k) : FI F w' v l := FVals.kp h hk hM
theorem FI.mono {F F' : Nat → Prop} {w : World} {v : Value} {l : List Int} (h : FI F w v l) (hF : ∀ k, F k → F' k) : FI F' w v l := FVals.mono h hF
theorem FI.ints {F : Nat → Prop} {w : World} {v : Value} {l : List Int} (h : FI F w v l) : Ints w v l := FVals.vals h
theorem FI.len {F : Nat → Prop} {w : World} {v : Value} {l : List Int} (h : FI F w v l) : ∃ n a cap, l.length = n ∧ v = .slice a n cap ∧ n ≤ 1000000000 := Ints.len h.ints
theorem FElts.kp {F M : Nat → Prop} {w w' : World} {us : List Value} {ll : List (List Int)} (h : FElts F w us ll) (hk : Kp M w w') (hM : ∀ k, F k → ¬ M k) : FElts F w' us ll := ⟨h.1, fun i a b => (h.2 i a b).kp hk hM⟩
theorem FElts.mono {F F' : Nat → Prop} {w : World} {us : List Value} {ll : List (List Int)} (h : FElts F w us ll) (hF : ∀ k, F k → F' k) : FElts F' w us ll := ⟨h.1, fun i a b => (h.2 i a b).mono hF⟩
theorem FElts.nil (F : Nat → Prop) (w : World) : FElts F w [] [] := ⟨rfl, fun i h => by simp at h⟩
theorem FElts.app {F : Nat → Prop} {w : World} {us vs : List Value} {ll mm : List (List Int)} (h : FElts F w us ll) (h' : FElts F w vs mm) : FElts F w (us ++ vs) (ll ++ mm) := by
  refine ⟨by simp [h.1, h'.1], fun i a b => ?_⟩
  have hl := h.1
  by_cases hi : i < us.length
  · rw [List.getElem_append_left hi, List.getElem_append_left (by omega)]; exact h.2 i hi (by omega)
  · have hi1 : ¬ i < ll.length := by omega
    rw [List.getElem_append_right (by omega), List.getElem_append_right (by omega)]
    have := h'.2 (i - us.length) (by simp at a; omega) (by simp at b; omega)
    simp only [hl] at this ⊢
    exact this
theorem FElts.one {F : Nat → Prop} {w : World} {u : Value} {l : List Int} (h : FI F w u l) : FElts F w [u] [l] := by
  refine ⟨rfl, fun i a b => ?_⟩
  have : i = 0 := by simpa using a
  subst this; exact h
theorem FElts.take {F : Nat → Prop} {w : World} {us : List Value} {ll : List (List Int)} (h : FElts F w us ll) (k : Nat) : FElts F w (us.take k) (ll.take k) := by
  refine ⟨by simp [h.1], fun i a b => ?_⟩
  rw [List.getElem_take, List.getElem_take]
  exact h.2 i (by simp at a; omega) (by simp at b; omega)
theorem FElts.drop {F : Nat → Prop} {w : World} {us : List Value} {ll : List (List Int)} (h : FElts F w us ll) (k : Nat) : FElts F w (us.drop k) (ll.drop k) := by
  refine ⟨by simp [h.1], fun i a b => ?_⟩
  rw [List.getElem_drop, List.getElem_drop]
  exact h.2 (k + i) (by simp at a; omega) (by simp at b; omega)
theorem FRows.kp {F M : Nat → Prop} {w w' : World} {v : Value} {ll : List (List Int)} (h : FRows F w v ll) (hk : Kp M w w') (hM : ∀ k, F k → ¬ M k) : FRows F w' v ll := by
  obtain ⟨us, h1, h2⟩ := h; exact ⟨us, h1.kp hk hM, h2.kp hk hM⟩
theorem FRows.mono {F F' : Nat → Prop} {w : World} {v : Value} {ll : List (List Int)} (h : FRows F w v ll) (hF : ∀ k, F k → F' k) : FRows F' w v ll := by
  obtain ⟨us, h1, h2⟩ := h; exact ⟨us, h1.mono hF, h2.mono hF⟩
theorem FRows.rows {F : Nat → Prop} {w : World} {v : Value} {ll : List (List Int)} (h : FRows F w v ll) : Rows w v ll := by
  obtain ⟨us, h1, h2⟩ := h; exact ⟨us, h1.vals, h2.1, fun i a b => (h2.2 i a b).ints⟩
theorem FRows.shape {F : Nat → Prop} {w : World} {v : Value} {ll : List (List Int)} (h : FRows F w v ll) :
    ∃ a cap, v = .slice a ll.length cap ∧ ll.length ≤ cap ∧ ll.length ≤ 1000000000 ∧
    (0 < ll.length → ∃ b o, a = some ⟨b, o, none⟩ ∧ b < w.heap.size ∧ F b ∧ ∀ i (h : i < ll.length), ∃ u, w.cell? ⟨b, o + i, none⟩ = some u ∧ FI F w u ll[i]) := by
  obtain ⟨us, ⟨a, cap, h1, h2, h3, h4, h5⟩, hl, h6⟩ := h
  rw [hl] at h1 h2 h4
  refine ⟨a, cap, h1, h2, h4, fun h0 => ?_⟩
  obtain ⟨b, o, e1, e2, e3, e4⟩ := h5 (by omega)
  exact ⟨b, o, e1, e2, e3, fun i hi => ⟨us[i], e4 i (by omega), h6 i (by omega) hi⟩⟩
theorem FElts2.kp {F M : Nat → Prop} {w w' : World} {us : List Value} {ll : List (List (List Int))} (h : FElts2 F w us ll) (hk : Kp M w w') (hM : ∀ k, F k → ¬ M k) : FElts2 F w' us ll := ⟨h.1, fun i a b => (h.2 i a b).kp hk hM⟩
theorem FElts2.mono {F F' : Nat → Prop} {w : World} {us : List Value} {ll : List (List (List Int))} (h : FElts2 F w us ll) (hF : ∀ k, F k → F' k) : FElts2 F' w us ll := ⟨h.1, fun i a b => (h.2 i a b).mono hF⟩
theorem FElts2.snoc {F : Nat → Prop} {w : World} {us : List Value} {ll : List (List (List Int))} {u : Value} {m : List (List Int)} (h : FElts2 F w us ll) (hu : FRows F w u m) : FElts2 F w (us ++ [u]) (ll ++ [m]) := by
  refine ⟨by simp [h.1], fun i a b => ?_⟩
  have hl := h.1
  by_cases hi : i < us.length
  · rw [List.getElem_append_left hi, List.getElem_append_left (by omega)]; exact h.2 i hi (by omega)
  · have hi2 : i = us.length := by simp at a; omega
    subst hi2
    have e1 : (us ++ [u])[us.length] = u := by rw [List.getElem_append_right (Nat.le_refl _)]; simp
    have e2 : (ll ++ [m])[us.length]'b = m := by
      have : us.length = ll.length := hl
      rw [List.getElem_append_right (by omega)]; simp
    rw [e1, e2]; exact hu
/-- what came in lies in old blocks -/
theorem FI.old {w : World} {v : Value} {l : List Int} (h : Ints w v l) : FI (fun k => k < w.heap.size) w v l := by
  obtain ⟨a, cap, h1, h2, h3, h4, h5⟩ := h
  refine ⟨a, cap, h1, h2, h3, h4, fun h0 => ?_⟩
  obtain ⟨b, o, e1, e2, e4⟩ := h5 h0
  exact ⟨b, o, e1, e2, e2, e4⟩
theorem FRows.old {w : World} {v : Value} {ll : List (List Int)} (h : Rows w v ll) : FRows (fun k => k < w.heap.size) w v ll := by
  obtain ⟨us, ⟨a, cap, h1, h2, h3, h4, h5⟩, h6, h7⟩ := h
  refine ⟨us, ⟨a, cap, h1, h2, h3, h4, fun h0 => ?_⟩, h6, fun i p q => FI.old (h7 i p q)⟩
  obtain ⟨b, o, e1, e2, e4⟩ := h5 h0
  exact ⟨b, o, e1, e2, e2, e4⟩
theorem own_elts {F : Nat → Prop} {w : World} {base : Nat} {e : TypeId} {v : Value} {n : Nat} {us : List Value} {L : List (List Int)} (hr : w.ownsRow base e 1 v n us) (he : FElts F w us L) :
    n = L.length ∧ ∃ a cap, v = .slice a L.length cap ∧ L.length ≤ cap ∧ cap ≤ maxLen ∧ (0 < L.length → ∃ g, a = some ⟨g, 0, none⟩ ∧ g < w.heap.size ∧ ∀ i (h : i < L.length), ∃ u, w.cell? ⟨g, i, none⟩ = some u ∧ FI F w u L[i]) := by
  have hh := hr
  obtain ⟨h1, h2⟩ := hr
  have hn : n = L.length := by have := he.1; omega
  refine ⟨hn, ?_⟩
  subst hn
  rcases h2 with ⟨rfl, h0⟩ | ⟨g, cap, cur, rfl, hg, hc, h3, h4, h5, h6⟩
  · exact ⟨none, 0, by rw [h0], by omega, by omega, fun h => by omega⟩
  · refine ⟨_, cap, rfl, h3, h4, fun _ => ⟨g, rfl, (Array.getElem?_eq_some_iff.1 hc).1, fun i hi => ?_⟩⟩
    have hi2 : i < us.length := by have := he.1; omega
    refine ⟨us[i], ?_, he.2 i hi2 hi⟩
    have := hh.cells (g := g) rfl i us[i] (List.getElem?_eq_getElem hi2)
    unfold Addr.add at this
    split at this
    · rename_i h0; subst h0; exact this
    · simpa using this
/-- the builtin copy within one row: the row behind it, and all else as it was -/
theorem list_copy {P : Program} {w : World} {ops : Array Oper} {rest : List Oper} {o : Oper} {a : Act} {Q : Exit → Act → World → Prop} (hgd : o.guard = none) (d s : Operand) (dT sT : TypeId)
    (ho : o.op = .call { callee := .builtin .copy, args := #[d, s], argTypes := #[dT, sT] }) (elem : TypeId) (hu : P.underlying dT = some (.slice elem)) (hsz : (P.info? elem).map (·.size) = some 1)
    (dp sp : Option Addr) (dLen dCap sLen sCap : Nat) (hd : a.eval d = .slice dp dLen dCap) (hs : a.eval s = .slice sp sLen sCap)
    (g off : Nat) (cur : List Value) (t : TypeId) (hg : w.heap[g]? = some (.cells cur.toArray t (0, 0))) (cs : List Value) (hn : cs.length = Nat.min sLen dLen)
    (hpos : 0 < cs.length → dp = some ⟨g, off, none⟩ ∧ ∃ ad, sp = some ad ∧ ∀ j v, cs[j]? = some v → w.cell? (ad.add j) = some v)
    (hfit : off + cs.length ≤ cur.length) (h1 : ∀ v ∈ cs, v.oneCell' = true)
    (h : ∀ w', w'.heap[g]? = some (.cells (splice cur off cs).toArray t (0, 0)) → Kp (fun k => k = g) w w' → wpList P ops Q rest (a.put o.dst (goInt cs.length)) w') :
    wpList P ops Q (o :: rest) a w := by
  by_cases h0 : cs.length = 0
  · obtain rfl : cs = [] := List.eq_nil_of_length_eq_zero h0
    refine wpList_copy_nothing hgd d s dT sT ho elem hu hsz dp sp dLen dCap sLen sCap hd hs (by simpa using hn.symm) ?_
    exact h w (by simpa [splice] using hg) (Kp.refl _ _)
  · obtain ⟨rfl, ad, rfl, hsrc⟩ := hpos (by omega)
    refine wpList_copy_own hgd d s dT sT ho elem hu hsz g off dLen dCap ad sLen sCap hd hs cur.toArray t hg cs hn hsrc (by simpa using hfit) h1 ?_
    exact h _ (by simpa [splice] using setRow_heap w g _ _ t _ hg) ⟨rfl, rfl, rfl, by simp [World.setRow], fun k _ hk => setRow_other w g k _ hk⟩
theorem FElts.oneCell {F : Nat → Prop} {w : World} {us : List Value} {ll : List (List Int)} (h : FElts F w us ll) : ∀ u ∈ us, u.oneCell' = true := fun u hu => by
  obtain ⟨i, hi, rfl⟩ := List.getElem_of_mem hu
  obtain ⟨n, a, c, _, e, _⟩ := (h.2 i hi (by rw [← h.1]; exact hi)).len
  rw [e]; rfl
theorem splice_set {cur us : List Value} {lo n : Nat} {z x : Value} (h : cur.take (n + 1) = us ++ [z]) (hu : us.length = n) (hlo : lo ≤ n) (hc : n + 1 ≤ cur.length) :
    ((splice cur (lo + 1) (us.drop lo)).set lo x).take (n + 1) = us.take lo ++ (x :: us.drop lo) := by
  have h1 : cur.take lo = us.take lo := by
    have := congrArg (List.take lo) h
    rw [List.take_take, Nat.min_eq_left (by omega), List.take_append_of_le_length (by omega)] at this
    exact this
  have h2 : cur.take (lo + 1) = us.take lo ++ [cur[lo]'(by omega)] := by rw [List.take_succ_eq_append_getElem (by omega), h1]
  unfold splice
  rw [h2, List.append_assoc, List.set_append_right _ _ (by simp; omega)]
  rw [show lo - (us.take lo).length = 0 from by simp; omega]
  simp only [List.singleton_append, List.set_cons_zero]
  rw [List.take_append, List.take_of_length_le (by simp; omega)]
  congr 1
  have e1 : n + 1 - (us.take lo).length = (n - lo) + 1 := by simp; omega
  rw [e1, List.take_succ_cons, List.take_append, List.take_of_length_le (by simp; omega)]
  rw [show n - lo - (us.drop lo).length = 0 from by simp; omega]
  simp
end Go.Proofs.Rg

/- Regions that draw: taking an operation first under a condition on the world that is asked only until certain operations have come up. -/
namespace Go.Proofs.Rg
open Go Go.RowKit
variable {P : Program} {md : Region.Mode} {ops : Array Oper} {Q : Exit → Act → World → Prop} {S : Array Bool → World → Prop}

/-- any order from here on; the condition holds behind each operation -/
def Any (P : Program) (md : Region.Mode) (ops : Array Oper) (Q : Exit → Act → World → Prop) (S : Array Bool → World → Prop) : Nat → Array Bool → Act → World → Prop
  | 0, l, a, w => Region.ready md ops l = [] ∧ Q .normal a w
  | n + 1, l, a, w => (Region.ready md ops l = [] → Q .normal a w) ∧
      ∀ i, i ∈ Region.ready md ops l → wpOp P ops Q i (fun a' w' => S (l.setIfInBounds i true) w' ∧ Any P md ops Q S n (l.setIfInBounds i true) a' w') a w

theorem Any.plain : ∀ (n : Nat) (l : Array Bool) (a : Act) (w : World), Any P md ops Q S n l a w → wpAny P md ops Q n l a w
  | 0, _, _, _, h => h
  | n + 1, _, _, _, h => ⟨h.1, fun i hi => wpOp_mono (fun a' w' q => Any.plain n _ a' w' q.2) (h.2 i hi)⟩

theorem Any.begin {id : Nat} {a : Act} {w : World} (hm : P.follows .mixedOrders = true) (h : Any P .any ops Q S ops.size (Array.replicate ops.size false) a w.drew) : (Code.region id ops true).wp P Q a w :=
  wp_region_any hm (Any.plain _ _ _ _ h)

theorem Any.all {rs : List Nat} {n : Nat} {l : Array Bool} {a : Act} {w : World} (hr : Region.ready md ops l = rs) (hne : rs ≠ [])
    (h : ∀ i ∈ rs, wpOp P ops Q i (fun a' w' => S (l.setIfInBounds i true) w' ∧ Any P md ops Q S n (l.setIfInBounds i true) a' w') a w) : Any P md ops Q S (n + 1) l a w :=
  ⟨fun h0 => absurd (hr ▸ h0) hne, fun i hi => h i (hr ▸ hi)⟩
theorem Any.one {i : Nat} {n : Nat} {l : Array Bool} {a : Act} {w : World} (hr : Region.ready md ops l = [i])
    (h : wpOp P ops Q i (fun a' w' => S (l.setIfInBounds i true) w' ∧ Any P md ops Q S n (l.setIfInBounds i true) a' w') a w) : Any P md ops Q S (n + 1) l a w :=
  Any.all hr (by simp) (fun j hj => by obtain rfl : j = i := by simpa using hj
                                       exact h)
theorem Any.two {i j : Nat} {n : Nat} {l : Array Bool} {a : Act} {w : World} (hr : Region.ready md ops l = [i, j])
    (h : wpOp P ops Q i (fun a' w' => S (l.setIfInBounds i true) w' ∧ Any P md ops Q S n (l.setIfInBounds i true) a' w') a w)
    (h' : wpOp P ops Q j (fun a' w' => S (l.setIfInBounds j true) w' ∧ Any P md ops Q S n (l.setIfInBounds j true) a' w') a w) : Any P md ops Q S (n + 1) l a w :=
  Any.all hr (by simp) (fun k hk => by
    rw [List.mem_cons, List.mem_singleton] at hk
    rcases hk with rfl | rfl
    · exact h
    · exact h')
theorem Any.done {l : Array Bool} {a : Act} {w : World} (hr : Region.ready md ops l = []) (h : Q .normal a w) : ∀ n, Any P md ops Q S n l a w
  | 0 => ⟨hr, h⟩
  | n + 1 => ⟨fun _ => h, by rw [hr]; exact fun i hi => by simp at hi⟩

/-- the condition: T, until operation t has come up -/
def Till (t : Nat) (T : World → Prop) (l : Array Bool) (w : World) : Prop := l.getD t false = true ∨ T w

/-- what yields v while T holds may come up first, if t waits for it -/
theorem Any.first {i t : Nat} {oi ot : Oper} {v : Value} {T : World → Prop} (hi : ops[i]? = some oi) (hsel : ∀ (j : Nat) (o : Oper) cs b, ops[j]? = some o → o.op ≠ .select cs b)
    (hQ : ∀ c a w, Q (.panic c) (a.put oi.dst v) w → Q (.panic c) a w) (hti : t ≠ i) (ht : ops[t]? = some ot) (hw : ∃ e ∈ ot.after, Region.binds md e = true ∧ e.on = i) :
    ∀ (n : Nat) (l : Array Bool) (a : Act) (w : World), l.getD t false = false →
      (∀ j oj, ops[j]? = some oj → j ≠ i → l.getD j true = false → (∀ e ∈ oj.after, Region.binds md e = true → e.on ≠ i) → oi.apart ops oj = true) →
      i ∈ Region.ready md ops l → YieldsIf P ops T oi v a → T w →
      Any P md ops Q (Till t T) n (l.setIfInBounds i true) (a.put oi.dst v) w → Any P md ops Q (Till t T) (n + 1) l a w := by
  intro n
  induction n with
  | zero =>
    intro l a w _ _ hr hy hT H
    refine ⟨fun h0 => absurd (h0 ▸ hr) (by simp), fun j hj => ?_⟩
    by_cases hji : j = i
    · subst hji; exact hy.wpOp hi hT ⟨.inr hT, H⟩
    · have hmem := ready_mono hj hji
      rw [H.1] at hmem
      simp at hmem
  | succ n ih =>
    intro l a w hl hfree hr hy hT H
    refine ⟨fun h0 => absurd (h0 ▸ hr) (by simp), fun j hj => ?_⟩
    by_cases hji : j = i
    · subst hji; exact hy.wpOp hi hT ⟨.inr hT, H⟩
    obtain ⟨hun, oj, hoj, hafter⟩ := mem_ready.1 hj
    have hi0 := (mem_ready.1 hr).1
    have hno : ∀ e ∈ oj.after, Region.binds md e = true → e.on ≠ i := by
      intro e he hb heq
      have h1 := hafter e he hb
      rw [heq] at h1
      by_cases hlt : i < l.size
      · simp [hlt] at h1 hi0; rw [hi0] at h1; cases h1
      · simp [Array.getElem?_eq_none (Nat.le_of_not_lt hlt)] at h1
    have hjt : j ≠ t := by
      rintro rfl
      obtain ⟨e, he, hb, heq⟩ := hw
      rw [ht] at hoj; cases hoj
      exact hno e he hb heq
    have hstep := wpOp_putIf hoj (hfree j oj hoj hji hun hno) (fun cs b => hsel i oi cs b hi) (fun cs b => hsel j oj cs b hoj) hQ hy (H.2 j (ready_mono hj hji))
    refine wpOp_mono (fun a' w' q => ?_) hstep
    obtain ⟨hy', hS', hA'⟩ := q
    rw [Array.setIfInBounds_comm _ _ (Ne.symm hji)] at hS' hA'
    have hi1 : (l.setIfInBounds j true).getD i true = false := by rw [getD_set_ne true hji]; exact hi0
    have hl1 : (l.setIfInBounds j true).getD t false = false := by rw [getD_set_ne false hjt]; exact hl
    have hT' : T w' := by
      rcases hS' with h | h
      · rw [getD_set_ne false (Ne.symm hti), hl1] at h; cases h
      · exact h
    refine ⟨.inr hT', ih _ _ _ hl1 ?_ (ready_mono hr (Ne.symm hji)) hy' hT' hA'⟩
    intro k ok hk hki hun' hno'
    refine hfree k ok hk hki ?_ hno'
    by_cases hjk : j = k
    · rw [← hjk]; exact hun
    · rwa [getD_set_ne true hjk] at hun'
theorem Any.take {i t : Nat} {oi : Oper} {v : Value} {T : World → Prop} {n : Nat} {l : Array Bool} {a : Act} {w : World} (d : Option Tmp) (hi : ops[i]? = some oi) (hd : oi.dst = d)
    (hs : Region.noSelect ops = true) (hf : Region.free md ops l i = true) (hr : (Region.ready md ops l).contains i = true)
    (hQ : ∀ c a w, Q (.panic c) (a.put d v) w → Q (.panic c) a w) (hti : (t == i) = false) (hw : Region.waitsFor md ops t i = true) (hl : l.getD t false = false)
    (hy : YieldsIf P ops T oi v a) (hT : T w)
    (h : Any P md ops Q (Till t T) n (l.setIfInBounds i true) (a.put d v) w) : Any P md ops Q (Till t T) (n + 1) l a w := by
  subst hd
  obtain ⟨ot, ht, hw⟩ := Region.waitsFor_spec hw
  exact Any.first hi (Region.noSelect_spec hs) hQ (by simpa using hti) ht hw n l a w hl (Region.free_spec hi hf) (by simpa using hr) hy hT h
end Go.Proofs.Rg

/- Regions that draw: what reads no memory may come up first, whatever the condition. -/
namespace Go.Proofs.Rg
open Go Go.RowKit
variable {P : Program} {md : Region.Mode} {ops : Array Oper} {Q : Exit → Act → World → Prop}

theorem Till.set {t i : Nat} {T : World → Prop} {l : Array Bool} {w : World} (hti : t ≠ i) : Till t T (l.setIfInBounds i true) w ↔ Till t T l w := by
  unfold Till
  rw [getD_set_ne false (Ne.symm hti)]
theorem Any.firstP {i t : Nat} {oi : Oper} {v : Value} {T : World → Prop} (hi : ops[i]? = some oi) (hsel : ∀ (j : Nat) (o : Oper) cs b, ops[j]? = some o → o.op ≠ .select cs b)
    (hQ : ∀ c a w, Q (.panic c) (a.put oi.dst v) w → Q (.panic c) a w) (hti : t ≠ i) :
    ∀ (n : Nat) (l : Array Bool) (a : Act) (w : World),
      (∀ j oj, ops[j]? = some oj → j ≠ i → l.getD j true = false → (∀ e ∈ oj.after, Region.binds md e = true → e.on ≠ i) → oi.apart ops oj = true) →
      i ∈ Region.ready md ops l → YieldsIf P ops (fun _ => True) oi v a → Till t T l w →
      Any P md ops Q (Till t T) n (l.setIfInBounds i true) (a.put oi.dst v) w → Any P md ops Q (Till t T) (n + 1) l a w := by
  intro n
  induction n with
  | zero =>
    intro l a w _ hr hy hT H
    refine ⟨fun h0 => absurd (h0 ▸ hr) (by simp), fun j hj => ?_⟩
    by_cases hji : j = i
    · subst hji; exact hy.wpOp hi trivial ⟨(Till.set hti).2 hT, H⟩
    · have hmem := ready_mono hj hji
      rw [H.1] at hmem
      simp at hmem
  | succ n ih =>
    intro l a w hfree hr hy hT H
    refine ⟨fun h0 => absurd (h0 ▸ hr) (by simp), fun j hj => ?_⟩
    by_cases hji : j = i
    · subst hji; exact hy.wpOp hi trivial ⟨(Till.set hti).2 hT, H⟩
    obtain ⟨hun, oj, hoj, hafter⟩ := mem_ready.1 hj
    have hi0 := (mem_ready.1 hr).1
    have hno : ∀ e ∈ oj.after, Region.binds md e = true → e.on ≠ i := by
      intro e he hb heq
      have h1 := hafter e he hb
      rw [heq] at h1
      by_cases hlt : i < l.size
      · simp [hlt] at h1 hi0; rw [hi0] at h1; cases h1
      · simp [Array.getElem?_eq_none (Nat.le_of_not_lt hlt)] at h1
    have hstep := wpOp_putIf hoj (hfree j oj hoj hji hun hno) (fun cs b => hsel i oi cs b hi) (fun cs b => hsel j oj cs b hoj) hQ hy (H.2 j (ready_mono hj hji))
    refine wpOp_mono (fun a' w' q => ?_) hstep
    obtain ⟨hy', hS', hA'⟩ := q
    rw [Array.setIfInBounds_comm _ _ (Ne.symm hji)] at hS' hA'
    have hS2 : Till t T (l.setIfInBounds j true) w' := (Till.set hti).1 hS'
    refine ⟨hS2, ih _ _ _ ?_ (ready_mono hr (Ne.symm hji)) hy' hS2 hA'⟩
    intro k ok hk hki hun' hno'
    refine hfree k ok hk hki ?_ hno'
    by_cases hjk : j = k
    · rw [← hjk]; exact hun
    · rwa [getD_set_ne true hjk] at hun'
theorem Any.pure {i t : Nat} {oi : Oper} {v : Value} {T : World → Prop} {n : Nat} {l : Array Bool} {a : Act} {w : World} (d : Option Tmp) (hi : ops[i]? = some oi) (hd : oi.dst = d)
    (hs : Region.noSelect ops = true) (hf : Region.free md ops l i = true) (hr : (Region.ready md ops l).contains i = true)
    (hQ : ∀ c a w, Q (.panic c) (a.put d v) w → Q (.panic c) a w) (hti : (t == i) = false)
    (hy : YieldsIf P ops (fun _ => True) oi v a) (hT : Till t T l w)
    (h : Any P md ops Q (Till t T) n (l.setIfInBounds i true) (a.put d v) w) : Any P md ops Q (Till t T) (n + 1) l a w := by
  subst hd
  exact Any.firstP hi (Region.noSelect_spec hs) hQ (by simpa using hti) n l a w (Region.free_spec hi hf) (by simpa using hr) hy hT h
/-- one operation by its run; the condition behind it -/
theorem Any.step {i t : Nat} {oi : Oper} {v : Value} {T : World → Prop} {n : Nat} {l : Array Bool} {a : Act} {w w' : World} (d : Option Tmp) (hi : ops[i]? = some oi) (hd : oi.dst = d) (hw : Region.wanted oi (yielded ops a.tmps) = true)
    (hr : (execOp a.eval oi).run P w = .ok (.value v) w') (hT : Till t T (l.setIfInBounds i true) w') (h : Any P md ops Q (Till t T) n (l.setIfInBounds i true) (a.put d v) w') :
    wpOp P ops Q i (fun a' w' => Till t T (l.setIfInBounds i true) w' ∧ Any P md ops Q (Till t T) n (l.setIfInBounds i true) a' w') a w := wpOp_value d hi hd hw hr ⟨hT, h⟩
theorem Any.skip {i t : Nat} {oi : Oper} {T : World → Prop} {n : Nat} {l : Array Bool} {a : Act} {w w' : World} (d : Option Tmp) (hi : ops[i]? = some oi) (hd : oi.dst = d) (hw : Region.wanted oi (yielded ops a.tmps) = true)
    (hr : (execOp a.eval oi).run P w = .ok .skip w') (hT : Till t T (l.setIfInBounds i true) w') (h : Any P md ops Q (Till t T) n (l.setIfInBounds i true) (a.put d undef) w') :
    wpOp P ops Q i (fun a' w' => Till t T (l.setIfInBounds i true) w' ∧ Any P md ops Q (Till t T) n (l.setIfInBounds i true) a' w') a w := wpOp_skip d hi hd hw hr ⟨hT, h⟩
/-- a load of one cell -/
theorem yields_cell {o : Oper} {a : Act} {v : Value} {T : World → Prop} (t : TypeId) (x : Operand) (hg : Region.wanted o (yielded ops a.tmps) = true) (ho : o.op = .load t x) (ad : Addr) (hx : a.eval x = .pointer (some ad)) (hr : ∀ w, T w → (loadVar t ad).run P w = .ok v w) : YieldsIf P ops T o v a :=
  .inl ⟨hg, fun w hw => exec_load t x ho ad hx (hr w hw)⟩
/-- append, by its run -/
theorem exec_append {o : Oper} {a : Act} {w w' : World} {v : Value} (s x : Operand) (t : TypeId) (ho : o.op = .call { callee := .builtin .append, args := #[s, x], argTypes := #[t, t] }) {vs vx : Value} (hs : a.eval s = vs) (hx : a.eval x = vx)
    (hr : (Builtin.append_ #[t, t] o.type #[vs, vx]).run P w = .ok v w') : (execOp a.eval o).run P w = .ok (.value v) w' := by
  unfold execOp
  simp only [ho, resolve, invoke, builtin, Sem.run_bind, Sem.run_pure, Result.andThen_ok, List.map_toArray, List.map_cons, List.map_nil, hs, hx, hr]
theorem exec_store {o : Oper} {a : Act} {w w' : World} (t : TypeId) (x y : Operand) (ho : o.op = .store t x y) (ad : Addr) (hx : a.eval x = .pointer (some ad)) (v : Value) (hv : a.eval y = v) (hr : (storeVar t ad v).run P w = .ok () w') :
    (execOp a.eval o).run P w = .ok .skip w' := by
  unfold execOp
  simp only [ho, hx, hv, Instr.storeAt, Instr.sureAddr, Sem.run_bind, Sem.run_pure, Result.andThen_ok, hr]
end Go.Proofs.Rg

