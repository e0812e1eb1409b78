/- Breadth trees of permutation groups: the plain mathematics; no program in sight. -/
import Derived.Test.YtojbijkljnohoaaXMa
set_option linter.unusedVariables false
namespace Go.Proofs.Ob

/-- an entry of a tree: point, parent, generator, word -/
abbrev En := Nat × Int × Nat × List Nat
def pts (T : List En) : List Nat := T.map (·.1)
def img (gs : List (List Nat)) (s x : Nat) : Nat := (gs.getD s []).getD x 0
def putG (gs : List (List Nat)) (e : En) (T : List En) (s : Nat) : List En :=
  if img gs s e.1 ∈ pts T then T else T ++ [(img gs s e.1, (e.1 : Int), s + 1, e.2.2.2 ++ [s + 1])]
def innG (gs : List (List Nat)) (e : En) (T : List En) (n : Nat) : List En := (List.range n).foldl (putG gs e) T
def trI (gs : List (List Nat)) (p : Nat) : Nat → List En
  | 0 => [(p, -1, 0, [])]
  | k + 1 => match (trI gs p k)[k]? with
    | some e => innG gs e (trI gs p k) gs.length
    | none => trI gs p k
/-- the breadth tree -/
def tree (gs : List (List Nat)) (D p : Nat) : List En := trI gs p D

theorem pts_append (T U : List En) : pts (T ++ U) = pts T ++ pts U := by simp [pts]
theorem len_pts (T : List En) : (pts T).length = T.length := by simp [pts]
theorem get_pts (T : List En) (i : Nat) (h : i < (pts T).length) : (pts T)[i] = (T[i]'(by rw [← len_pts]; exact h)).1 := by simp [pts]
theorem innG_succ (gs : List (List Nat)) (e : En) (T : List En) (n : Nat) : innG gs e T (n + 1) = putG gs e (innG gs e T n) n := by
  unfold innG; rw [List.range_succ, List.foldl_append]; rfl
theorem innG_zero (gs : List (List Nat)) (e : En) (T : List En) : innG gs e T 0 = T := rfl
theorem putG_in {gs : List (List Nat)} {e : En} {T : List En} {s : Nat} (h : img gs s e.1 ∈ pts T) : putG gs e T s = T := by unfold putG; rw [if_pos h]
theorem putG_out {gs : List (List Nat)} {e : En} {T : List En} {s : Nat} (h : img gs s e.1 ∉ pts T) : putG gs e T s = T ++ [(img gs s e.1, (e.1 : Int), s + 1, e.2.2.2 ++ [s + 1])] := by unfold putG; rw [if_neg h]
theorem putG_pre (gs : List (List Nat)) (e : En) (T : List En) (s : Nat) : ∃ r, putG gs e T s = T ++ r := by
  unfold putG; split
  · exact ⟨[], by simp⟩
  · exact ⟨_, rfl⟩
theorem innG_pre (gs : List (List Nat)) (e : En) (T : List En) : ∀ n, ∃ r, innG gs e T n = T ++ r
  | 0 => ⟨[], by simp [innG]⟩
  | n + 1 => by
    obtain ⟨r, h⟩ := innG_pre gs e T n
    obtain ⟨r', h'⟩ := putG_pre gs e (innG gs e T n) n
    exact ⟨r ++ r', by rw [innG_succ, h', h, List.append_assoc]⟩
theorem trI_pre (gs : List (List Nat)) (p k : Nat) : ∃ r, trI gs p (k + 1) = trI gs p k ++ r := by
  show ∃ r, (match (trI gs p k)[k]? with | some e => innG gs e (trI gs p k) gs.length | none => trI gs p k) = _
  split
  · exact innG_pre _ _ _ _
  · exact ⟨[], by simp⟩
theorem trI_some {gs : List (List Nat)} {p k : Nat} (h : k < (trI gs p k).length) : trI gs p (k + 1) = innG gs (trI gs p k)[k] (trI gs p k) gs.length := by
  show (match (trI gs p k)[k]? with | some e => innG gs e (trI gs p k) gs.length | none => trI gs p k) = _
  rw [List.getElem?_eq_getElem h]
theorem trI_none {gs : List (List Nat)} {p k : Nat} (h : (trI gs p k).length ≤ k) : trI gs p (k + 1) = trI gs p k := by
  show (match (trI gs p k)[k]? with | some e => innG gs e (trI gs p k) gs.length | none => trI gs p k) = _
  rw [List.getElem?_eq_none h]
theorem trI_stop {gs : List (List Nat)} {p k : Nat} (h : (trI gs p k).length ≤ k) : ∀ j, trI gs p (k + j) = trI gs p k
  | 0 => rfl
  | j + 1 => by
    have ih := trI_stop h j
    rw [show k + (j + 1) = (k + j) + 1 by omega, trI_none (by rw [ih]; omega), ih]
theorem tree_at {gs : List (List Nat)} {D p k : Nat} (h : (trI gs p k).length ≤ k) (hk : k ≤ D) : tree gs D p = trI gs p k := by
  unfold tree
  rw [show D = k + (D - k) by omega]
  exact trI_stop h _

/-- what a tree under way keeps -/
structure Ok (D n p : Nat) (T : List En) : Prop where
  nd : (pts T).Nodup
  lt : ∀ x ∈ pts T, x < D
  hd : T[0]? = some (p, -1, 0, [])
  par : ∀ j (h : j < T.length), 0 < j → ∃ (i : Nat) (hi : i < T.length) (g : Nat), i < j ∧ g < n ∧ T[j].2.1 = (T[i].1 : Int) ∧ T[j].2.2.1 = g + 1 ∧ T[j].2.2.2 = T[i].2.2.2 ++ [g + 1]
theorem Ok.len {D n p : Nat} {T : List En} (h : Ok D n p T) : T.length ≤ D := by
  have h1 : (pts T) ⊆ List.range D := fun x hx => List.mem_range.2 (h.lt x hx)
  have := List.Nodup.length_le_of_subset h.nd h1
  rw [len_pts, List.length_range] at this
  exact this
theorem Ok.start {D n p : Nat} (hp : p < D) : Ok D n p [(p, -1, 0, [])] :=
  ⟨by simp [pts], by simp [pts]; exact hp, rfl, fun j h hj => by simp at h; omega⟩
theorem Ok.put {D n p : Nat} {gs : List (List Nat)} {T : List En} (h : Ok D n p T) {i : Nat} (hi : i < T.length) {s : Nat} (hs : s < n) (hD : img gs s T[i].1 < D) : Ok D n p (putG gs T[i] T s) := by
  by_cases hm : img gs s T[i].1 ∈ pts T
  · rw [putG_in hm]; exact h
  · rw [putG_out hm]
    refine ⟨?_, ?_, ?_, ?_⟩
    · rw [pts_append, List.nodup_append]
      refine ⟨h.nd, by simp [pts], fun x hx y hy e => ?_⟩
      obtain rfl : y = img gs s T[i].1 := by simpa [pts] using hy
      subst e
      exact hm hx
    · intro x hx
      rw [pts_append, List.mem_append] at hx
      rcases hx with hx | hx
      · exact h.lt x hx
      · obtain rfl : x = img gs s T[i].1 := by simpa [pts] using hx
        exact hD
    · rw [List.getElem?_append_left (by omega)]
      exact h.hd
    · intro j hj h0
      by_cases hjl : j < T.length
      · obtain ⟨i', hi', g, h1, h2, h3, h4, h5⟩ := h.par j hjl h0
        refine ⟨i', by rw [List.length_append]; omega, g, h1, h2, ?_, ?_, ?_⟩
        · rw [List.getElem_append_left hjl, List.getElem_append_left hi']; exact h3
        · rw [List.getElem_append_left hjl]; exact h4
        · rw [List.getElem_append_left hjl, List.getElem_append_left hi']; exact h5
      · have hje : j = T.length := by simp at hj; omega
        subst hje
        refine ⟨i, by rw [List.length_append]; omega, s, hi, hs, ?_, ?_, ?_⟩
        · rw [List.getElem_append_right (Nat.le_refl _), List.getElem_append_left hi]; simp
        · rw [List.getElem_append_right (Nat.le_refl _)]; simp
        · rw [List.getElem_append_right (Nat.le_refl _), List.getElem_append_left hi]; simp

theorem innG_get {gs : List (List Nat)} {e : En} {T : List En} {n i : Nat} (hi : i < T.length) : ∃ h : i < (innG gs e T n).length, (innG gs e T n)[i] = T[i] := by
  obtain ⟨r, hr⟩ := innG_pre gs e T n
  refine ⟨by rw [hr, List.length_append]; omega, ?_⟩
  simp only [hr]
  exact List.getElem_append_left hi
theorem Ok.inn {D n p : Nat} {gs : List (List Nat)} {T : List En} (h : Ok D n p T) {i : Nat} (hi : i < T.length) (hD : ∀ s, s < n → img gs s T[i].1 < D) : ∀ m, m ≤ n → Ok D n p (innG gs T[i] T m)
  | 0, _ => h
  | m + 1, hm => by
    have ih := Ok.inn h hi hD m (by omega)
    obtain ⟨h1, h2⟩ := innG_get (gs := gs) (e := T[i]) (n := m) hi
    rw [innG_succ]
    have := ih.put (gs := gs) h1 (s := m) (by omega) (by rw [h2]; exact hD m (by omega))
    rw [h2] at this
    exact this
/-- images of points are points -/
def Cl (D : Nat) (gs : List (List Nat)) : Prop := ∀ s, s < gs.length → ∀ x, x < D → img gs s x < D
theorem trI_ok {D p : Nat} {gs : List (List Nat)} (hc : Cl D gs) (hp : p < D) : ∀ k, Ok D gs.length p (trI gs p k)
  | 0 => Ok.start hp
  | k + 1 => by
    have ih := trI_ok hc hp k
    by_cases h : k < (trI gs p k).length
    · rw [trI_some h]
      exact ih.inn h (fun s hs => hc s hs _ (ih.lt _ (List.mem_map.2 ⟨_, List.getElem_mem h, rfl⟩))) _ (Nat.le_refl _)
    · rw [trI_none (by omega)]; exact ih
theorem tree_ok {D p : Nat} {gs : List (List Nat)} (hc : Cl D gs) (hp : p < D) : Ok D gs.length p (tree gs D p) := trI_ok hc hp D

theorem mem_put {gs : List (List Nat)} {e : En} {T : List En} {s : Nat} : img gs s e.1 ∈ pts (putG gs e T s) := by
  by_cases h : img gs s e.1 ∈ pts T
  · rw [putG_in h]; exact h
  · rw [putG_out h, pts_append]; simp [pts]
theorem mem_inn {gs : List (List Nat)} {e : En} {T : List En} : ∀ n s, s < n → img gs s e.1 ∈ pts (innG gs e T n)
  | 0, s, h => by omega
  | n + 1, s, h => by
    rw [innG_succ]
    by_cases hs : s = n
    · subst hs; exact mem_put
    · obtain ⟨r, hr⟩ := putG_pre gs e (innG gs e T n) n
      rw [hr, pts_append]
      exact List.mem_append_left _ (mem_inn n s (by omega))
/-- the points taken up so far have their images in the tree -/
theorem trI_closed {gs : List (List Nat)} {p : Nat} : ∀ k i (h : i < (trI gs p k).length), i < k → ∀ s, s < gs.length → img gs s (trI gs p k)[i].1 ∈ pts (trI gs p k)
  | 0, i, h, hk, s, hs => by omega
  | k + 1, i, h, hk, s, hs => by
    by_cases hl : k < (trI gs p k).length
    · have e := trI_some hl
      obtain ⟨r, hr⟩ := trI_pre gs p k
      have hi : i < (trI gs p k).length := by omega
      have hget : (trI gs p (k + 1))[i] = (trI gs p k)[i] := by
        simp only [hr]; exact List.getElem_append_left hi
      rw [hget]
      by_cases hik : i = k
      · subst hik
        rw [e]
        exact mem_inn _ s hs
      · rw [hr, pts_append]
        exact List.mem_append_left _ (trI_closed k i hi (by omega) s hs)
    · have e := trI_none (gs := gs) (p := p) (by omega : (trI gs p k).length ≤ k)
      simp only [e] at h ⊢
      exact trI_closed k i h (by omega) s hs
theorem tree_closed {D p : Nat} {gs : List (List Nat)} (hc : Cl D gs) (hp : p < D) {x : Nat} (hx : x ∈ pts (tree gs D p)) {s : Nat} (hs : s < gs.length) : img gs s x ∈ pts (tree gs D p) := by
  obtain ⟨i, hi, rfl⟩ := List.getElem_of_mem hx
  have hl := (tree_ok hc hp).len
  rw [len_pts] at hi
  rw [get_pts]
  exact trI_closed D i hi (Nat.lt_of_lt_of_le hi hl) s hs

/-! words and products -/
def wprod (gs : List (List Nat)) (D : Nat) (w : List Nat) : List Nat := w.foldl (fun a g => Ma.mulN a (gs.getD (g - 1) [])) (Ma.oneN D)
theorem wprod_snoc (gs : List (List Nat)) (D : Nat) (w : List Nat) (g : Nat) : wprod gs D (w ++ [g]) = Ma.mulN (wprod gs D w) (gs.getD (g - 1) []) := by
  unfold wprod; rw [List.foldl_append]; rfl
/-- the word of a point -/
def wd (T : List En) (q : Nat) : List Nat := ((T.find? fun e => e.1 == q).map (·.2.2.2)).getD []
theorem find_at {T : List En} (h : (pts T).Nodup) {i : Nat} (hi : i < T.length) : T.find? (fun e => e.1 == T[i].1) = some T[i] := by
  rw [List.find?_eq_some_iff_getElem]
  refine ⟨by simp, i, hi, rfl, fun j hj => ?_⟩
  simp only [Bool.not_eq_true', beq_eq_false_iff_ne]
  intro e
  have h1 := get_pts T i (by rw [len_pts]; exact hi)
  have h2 := get_pts T j (by rw [len_pts]; omega)
  have := (List.getElem_inj h).1 (h2.trans (e.trans h1.symm))
  omega
theorem wd_at {T : List En} (h : (pts T).Nodup) {i : Nat} (hi : i < T.length) : wd T T[i].1 = T[i].2.2.2 := by
  unfold wd; rw [find_at h hi]; rfl
theorem mem_idx {T : List En} {q : Nat} (h : q ∈ pts T) : ∃ i, ∃ hi : i < T.length, T[i].1 = q := by
  obtain ⟨i, hi, e⟩ := List.getElem_of_mem h
  exact ⟨i, by rw [← len_pts]; exact hi, by rw [← e, get_pts]⟩
theorem word_len {D n p : Nat} {T : List En} (h : Ok D n p T) : ∀ j (hj : j < T.length), T[j].2.2.2.length ≤ j := by
  intro j
  induction j using Nat.strongRecOn with
  | ind j ih =>
    intro hj
    by_cases h0 : j = 0
    · subst h0
      have := h.hd
      rw [List.getElem?_eq_getElem hj] at this
      simp at this
      rw [this]; simp
    · obtain ⟨i, hi, g, h1, h2, h3, h4, h5⟩ := h.par j hj (by omega)
      have := ih i h1 hi
      rw [h5, List.length_append]
      simp; omega
theorem word_in {D n p : Nat} {T : List En} (h : Ok D n p T) : ∀ j (hj : j < T.length), ∀ g ∈ T[j].2.2.2, 1 ≤ g ∧ g ≤ n := by
  intro j
  induction j using Nat.strongRecOn with
  | ind j ih =>
    intro hj
    by_cases h0 : j = 0
    · subst h0
      have := h.hd
      rw [List.getElem?_eq_getElem hj] at this
      simp at this
      rw [this]; simp
    · obtain ⟨i, hi, g, h1, h2, h3, h4, h5⟩ := h.par j hj (by omega)
      intro x hx
      rw [h5, List.mem_append] at hx
      rcases hx with hx | hx
      · exact ih i h1 hi x hx
      · obtain rfl : x = g + 1 := by simpa using hx
        omega

/-! Schreier generators -/
def addX (D : Nat) (out : List (List Nat)) (x : List Nat) : List (List Nat) := if x = Ma.oneN D ∨ x ∈ out then out else out ++ [x]
def schr (gs : List (List Nat)) (D : Nat) (T : List En) (e : En) (s : Nat) : List Nat := Ma.mulN (Ma.mulN (wprod gs D e.2.2.2) (gs.getD s [])) (Ma.invN (wprod gs D (wd T (img gs s e.1))))
def stJ (gs : List (List Nat)) (D : Nat) (T : List En) (e : En) (out : List (List Nat)) (m : Nat) : List (List Nat) := (List.range m).foldl (fun o s => addX D o (schr gs D T e s)) out
def stI (gs : List (List Nat)) (D : Nat) (T : List En) (k : Nat) : List (List Nat) := (T.take k).foldl (fun o e => stJ gs D T e o gs.length) []
def stab (gs : List (List Nat)) (D p : Nat) : List (List Nat) := stI gs D (tree gs D p) (tree gs D p).length
theorem stJ_succ (gs : List (List Nat)) (D : Nat) (T : List En) (e : En) (out : List (List Nat)) (m : Nat) : stJ gs D T e out (m + 1) = addX D (stJ gs D T e out m) (schr gs D T e m) := by
  unfold stJ; rw [List.range_succ, List.foldl_append]; rfl
theorem stI_succ (gs : List (List Nat)) (D : Nat) (T : List En) (k : Nat) (h : k < T.length) : stI gs D T (k + 1) = stJ gs D T T[k] (stI gs D T k) gs.length := by
  unfold stI; rw [List.take_succ_eq_append_getElem h, List.foldl_append]; rfl
end Go.Proofs.Ob

/- Lists in ascending order; words along a tree. -/
namespace Go.Proofs.Ob

/-- a number put into an ascending list -/
def insA : List Int → Int → List Int
  | [], x => [x]
  | a :: r, x => if a < x then a :: insA r x else x :: a :: r
def asc (l : List Int) : List Int := l.foldl insA []
def leI (x y : Int) : Bool := decide (x ≤ y)
theorem insA_at : ∀ (out : List Int) (x : Int) (k : Nat), k ≤ out.length → (∀ j (h : j < out.length), j < k → out[j] < x) → (∀ h : k < out.length, ¬ out[k] < x) → insA out x = out.take k ++ x :: out.drop k
  | [], x, k, hk, _, _ => by
    simp at hk; subst hk; rfl
  | a :: r, x, 0, _, _, h => by
    have := h (by simp)
    simp at this
    show (if a < x then _ else _) = _
    rw [if_neg (by omega)]; rfl
  | a :: r, x, k + 1, hk, h1, h2 => by
    have h0 := h1 0 (by simp) (by omega)
    simp at h0
    show (if a < x then _ else _) = _
    rw [if_pos h0, insA_at r x k (by simpa using hk) (fun j h hj => by have := h1 (j + 1) (by simp; omega) (by omega); simpa using this) (fun h => by have := h2 (by simp; omega); simpa using this)]
    rfl
theorem insA_perm : ∀ (out : List Int) (x : Int), (insA out x).Perm (x :: out)
  | [], x => List.Perm.refl _
  | a :: r, x => by
    show (if a < x then a :: insA r x else x :: a :: r).Perm _
    split
    · exact ((insA_perm r x).cons a).trans (List.Perm.swap x a r)
    · exact List.Perm.refl _
theorem insA_sorted : ∀ (out : List Int) (x : Int), out.Pairwise (· ≤ ·) → (insA out x).Pairwise (· ≤ ·)
  | [], x, _ => by simp [insA]
  | a :: r, x, h => by
    rw [List.pairwise_cons] at h
    show (if a < x then a :: insA r x else x :: a :: r).Pairwise _
    split
    · rename_i hax
      rw [List.pairwise_cons]
      refine ⟨fun y hy => ?_, insA_sorted r x h.2⟩
      rcases List.mem_cons.1 ((insA_perm r x).mem_iff.1 hy) with rfl | hy
      · omega
      · exact h.1 y hy
    · rename_i hax
      rw [List.pairwise_cons, List.pairwise_cons]
      refine ⟨fun y hy => ?_, h.1, h.2⟩
      rcases List.mem_cons.1 hy with rfl | hy
      · omega
      · have := h.1 y hy; omega
theorem asc_fold : ∀ (l out : List Int), out.Pairwise (· ≤ ·) → (l.foldl insA out).Perm (l ++ out) ∧ (l.foldl insA out).Pairwise (· ≤ ·)
  | [], out, h => ⟨List.Perm.refl _, h⟩
  | x :: l, out, h => by
    obtain ⟨h1, h2⟩ := asc_fold l (insA out x) (insA_sorted out x h)
    refine ⟨h1.trans ?_, h2⟩
    exact ((insA_perm out x).append_left l).trans (List.perm_middle)
theorem sorted_uniq : ∀ {l l' : List Int}, l.Perm l' → l.Pairwise (· ≤ ·) → l'.Pairwise (· ≤ ·) → l = l'
  | [], l', h, _, _ => (List.nil_perm.1 h).symm ▸ rfl
  | a :: r, [], h, _, _ => by simp at h
  | a :: r, b :: r', h, h1, h2 => by
    rw [List.pairwise_cons] at h1 h2
    have e1 : a ≤ b := by
      rcases List.mem_cons.1 (h.mem_iff.2 (List.mem_cons_self ..) : b ∈ a :: r) with e | hb
      · omega
      · exact h1.1 b hb
    have e2 : b ≤ a := by
      rcases List.mem_cons.1 (h.mem_iff.1 (List.mem_cons_self ..) : a ∈ b :: r') with e | hb
      · omega
      · exact h2.1 a hb
    obtain rfl : a = b := by omega
    rw [sorted_uniq ((List.perm_cons a).1 h) h1.2 h2.2]
theorem asc_sort (l : List Int) : asc l = l.mergeSort leI := by
  obtain ⟨h1, h2⟩ := asc_fold l [] List.Pairwise.nil
  rw [List.append_nil] at h1
  refine sorted_uniq (h1.trans (List.mergeSort_perm l leI).symm) h2 ?_
  have := List.pairwise_mergeSort (le := leI) (fun a b c h h' => by unfold leI at *; rw [decide_eq_true_iff] at *; omega) (fun a b => by unfold leI; simp; omega) l
  exact this.imp (fun h => of_decide_eq_true h)
theorem asc_succ (l : List Int) (k : Nat) (h : k < l.length) : asc (l.take (k + 1)) = insA (asc (l.take k)) l[k] := by
  unfold asc; rw [List.take_succ_eq_append_getElem h, List.foldl_append]; rfl
theorem len_insA (out : List Int) (x : Int) : (insA out x).length = out.length + 1 := by
  have := (insA_perm out x).length_eq
  simpa using this
end Go.Proofs.Ob

