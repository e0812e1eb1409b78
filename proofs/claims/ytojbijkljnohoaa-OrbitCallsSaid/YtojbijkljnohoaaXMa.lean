/- Plain facts on permutations as lists of integers. -/
import Derived.Lib.Hide
set_option linter.unusedVariables false
namespace Go.Proofs.Ma

/-- a list of integers is a permutation of 0 .. its length - 1 -/
def okL (l : List Int) : Prop := (∀ x ∈ l, 0 ≤ x ∧ x < l.length) ∧ l.Nodup
instance (l : List Int) : Decidable (okL l) := inferInstanceAs (Decidable (_ ∧ _))
def preL (l : List Int) (k : Nat) : Prop := (∀ x ∈ l.take k, 0 ≤ x ∧ x < l.length) ∧ (l.take k).Nodup

theorem pre0 (l : List Int) : preL l 0 := ⟨by simp, by simp⟩
theorem pre_end {l : List Int} (h : preL l l.length) : okL l := by
  unfold preL at h; rw [List.take_length] at h; exact h
theorem pre_step {l : List Int} {k : Nat} (h : preL l k) (hk : k < l.length) (h0 : 0 ≤ l[k]) (h1 : l[k] < l.length) (h2 : l[k] ∉ l.take k) : preL l (k + 1) := by
  unfold preL
  rw [List.take_succ_eq_append_getElem hk]
  refine ⟨fun x hx => ?_, ?_⟩
  · rcases List.mem_append.1 hx with hx | hx
    · exact h.1 x hx
    · obtain rfl : x = l[k] := by simpa using hx
      exact ⟨h0, h1⟩
  · rw [List.nodup_append]
    refine ⟨h.2, by simp, fun a ha b hb => ?_⟩
    obtain rfl : b = l[k] := by simpa using hb
    intro e; exact h2 (e ▸ ha)
theorem bad_lo {l : List Int} {k : Nat} (hk : k < l.length) (h0 : l[k] < 0) : ¬ okL l := fun h => by
  have := (h.1 _ (List.getElem_mem hk)).1; omega
theorem bad_hi {l : List Int} {k : Nat} (hk : k < l.length) (h0 : (l.length : Int) ≤ l[k]) : ¬ okL l := fun h => by
  have := (h.1 _ (List.getElem_mem hk)).2; omega
theorem bad_two {l : List Int} {k : Nat} (hk : k < l.length) (h0 : l[k] ∈ l.take k) : ¬ okL l := fun h => by
  have hn := h.2
  rw [← List.take_append_drop k l, List.nodup_append] at hn
  refine hn.2.2 _ h0 l[k] ?_ rfl
  rw [List.drop_eq_getElem_cons hk]; exact List.mem_cons_self
theorem mem_take_succ {l : List Int} {k : Nat} (hk : k < l.length) (j : Nat) : decide ((j : Int) ∈ l.take (k + 1)) = if (j : Int) = l[k] then true else decide ((j : Int) ∈ l.take k) := by
  have h : ((j : Int) ∈ l.take (k + 1)) ↔ ((j : Int) ∈ l.take k ∨ (j : Int) = l[k]) := by
    rw [List.take_succ_eq_append_getElem hk, List.mem_append, List.mem_singleton]
  by_cases e : (j : Int) = l[k]
  · rw [if_pos e, decide_eq_true_eq, h]; exact .inr e
  · rw [if_neg e]; exact decide_eq_decide.2 (by rw [h]; exact ⟨fun x => x.resolve_right e, .inl⟩)

/-- the error of a permutation -/
def pchk (l : List Int) : Int := if 1 ≤ l.length ∧ l.length ≤ 64 then (if okL l then 0 else 3) else 2
theorem pchk_out {l : List Int} (h : ¬ (1 ≤ l.length ∧ l.length ≤ 64)) : pchk l = 2 := by unfold pchk; rw [if_neg h]
theorem pchk_bad {l : List Int} (h1 : 1 ≤ l.length) (h2 : l.length ≤ 64) (h : ¬ okL l) : pchk l = 3 := by unfold pchk; rw [if_pos ⟨h1, h2⟩, if_neg h]
theorem pchk_ok {l : List Int} (h1 : 1 ≤ l.length) (h2 : l.length ≤ 64) (h : okL l) : pchk l = 0 := by unfold pchk; rw [if_pos ⟨h1, h2⟩, if_pos h]
theorem pchk_zero {l : List Int} (h : pchk l = 0) : 1 ≤ l.length ∧ l.length ≤ 64 ∧ okL l := by
  unfold pchk at h
  split at h
  · rename_i h1
    split at h
    · rename_i h2; exact ⟨h1.1, h1.2, h2⟩
    · cases h
  · cases h

/-- the error of generators -/
def gck (d : Int) : List (List Int) → Int
  | [] => 0
  | l :: r => if pchk l = 0 then (if (l.length : Int) = d then gck d r else 10) else pchk l
def gchk (d : Int) (ll : List (List Int)) : Int := if 1 ≤ d ∧ d ≤ 64 then (if ll.length ≤ 16 then gck d ll else 4) else 2
theorem gck_bad {d : Int} {ll : List (List Int)} {k : Nat} (hk : k < ll.length) (h : pchk ll[k] ≠ 0) : gck d (ll.drop k) = pchk ll[k] := by
  rw [List.drop_eq_getElem_cons hk, gck, if_neg h]
theorem gck_len {d : Int} {ll : List (List Int)} {k : Nat} (hk : k < ll.length) (h : pchk ll[k] = 0) (h2 : (ll[k].length : Int) ≠ d) : gck d (ll.drop k) = 10 := by
  rw [List.drop_eq_getElem_cons hk, gck, if_pos h, if_neg h2]
theorem gck_next {d : Int} {ll : List (List Int)} {k : Nat} (hk : k < ll.length) (h : pchk ll[k] = 0) (h2 : (ll[k].length : Int) = d) : gck d (ll.drop k) = gck d (ll.drop (k + 1)) := by
  rw [List.drop_eq_getElem_cons hk, gck, if_pos h, if_pos h2]
theorem gck_end {d : Int} {ll : List (List Int)} {k : Nat} (hk : ll.length ≤ k) : gck d (ll.drop k) = 0 := by
  rw [List.drop_of_length_le hk]; rfl
theorem gchk_range {d : Int} {ll : List (List Int)} (h : ¬ (1 ≤ d ∧ d ≤ 64)) : gchk d ll = 2 := by unfold gchk; rw [if_neg h]
theorem gchk_long {d : Int} {ll : List (List Int)} (h1 : 1 ≤ d) (h2 : d ≤ 64) (h : ¬ ll.length ≤ 16) : gchk d ll = 4 := by unfold gchk; rw [if_pos ⟨h1, h2⟩, if_neg h]
theorem gchk_in {d : Int} {ll : List (List Int)} (h1 : 1 ≤ d) (h2 : d ≤ 64) (h : ll.length ≤ 16) : gchk d ll = gck d ll := by unfold gchk; rw [if_pos ⟨h1, h2⟩, if_pos h]
theorem gck_zero {d : Int} : ∀ {ll : List (List Int)}, gck d ll = 0 → ∀ l ∈ ll, pchk l = 0 ∧ (l.length : Int) = d
  | [], _ => by simp
  | l :: r, h => by
    rw [gck] at h
    split at h
    · rename_i h1
      split at h
      · rename_i h2
        intro x hx
        rcases List.mem_cons.1 hx with rfl | hx
        · exact ⟨h1, h2⟩
        · exact gck_zero h x hx
      · cases h
    · rename_i h1; exact absurd h h1

/-- the first error of permutations that should have one degree -/
def fst1 : List (List Int) → Int
  | [] => 0
  | l :: r => if pchk l = 0 then fst1 r else pchk l
def fst2 (n : Nat) : List (List Int) → Int
  | [] => 0
  | l :: r => if l.length = n then fst2 n r else 10
def fstE (ll : List (List Int)) : Int := if fst1 ll = 0 then fst2 (ll.headD []).length ll else fst1 ll
theorem fst1_bad {ll : List (List Int)} {k : Nat} (hk : k < ll.length) (h : pchk ll[k] ≠ 0) : fst1 (ll.drop k) = pchk ll[k] := by
  rw [List.drop_eq_getElem_cons hk, fst1, if_neg h]
theorem fst1_next {ll : List (List Int)} {k : Nat} (hk : k < ll.length) (h : pchk ll[k] = 0) : fst1 (ll.drop k) = fst1 (ll.drop (k + 1)) := by
  rw [List.drop_eq_getElem_cons hk, fst1, if_pos h]
theorem fst1_end {ll : List (List Int)} {k : Nat} (hk : ll.length ≤ k) : fst1 (ll.drop k) = 0 := by
  rw [List.drop_of_length_le hk]; rfl
theorem fst2_bad {n : Nat} {ll : List (List Int)} {k : Nat} (hk : k < ll.length) (h : ll[k].length ≠ n) : fst2 n (ll.drop k) = 10 := by
  rw [List.drop_eq_getElem_cons hk, fst2, if_neg h]
theorem fst2_next {n : Nat} {ll : List (List Int)} {k : Nat} (hk : k < ll.length) (h : ll[k].length = n) : fst2 n (ll.drop k) = fst2 n (ll.drop (k + 1)) := by
  rw [List.drop_eq_getElem_cons hk, fst2, if_pos h]
theorem fst2_end {n : Nat} {ll : List (List Int)} {k : Nat} (hk : ll.length ≤ k) : fst2 n (ll.drop k) = 0 := by
  rw [List.drop_of_length_le hk]; rfl
theorem fstE_bad {ll : List (List Int)} (h : fst1 ll ≠ 0) : fstE ll = fst1 ll := by unfold fstE; rw [if_neg h]
theorem fstE_ok {ll : List (List Int)} (h : fst1 ll = 0) : fstE ll = fst2 (ll.headD []).length ll := by unfold fstE; rw [if_pos h]
theorem fstE_one (l : List Int) : fstE [l] = pchk l := by
  by_cases h : pchk l = 0 <;> simp [fstE, fst1, fst2, h]

/-- integers from naturals -/
def ofN (p : List Nat) : List Int := p.map fun (x : Nat) => (x : Int)
def okN (p : List Nat) : Prop := (∀ x ∈ p, x < p.length) ∧ p.Nodup
instance (p : List Nat) : Decidable (okN p) := inferInstanceAs (Decidable (_ ∧ _))
theorem len_ofN (p : List Nat) : (ofN p).length = p.length := by simp [ofN]
theorem get_ofN (p : List Nat) (i : Nat) (h : i < (ofN p).length) : (ofN p)[i] = ((p[i]'(by rw [← len_ofN]; exact h) : Nat) : Int) := by simp [ofN]
theorem okL_ofN {l : List Int} (h : okL l) : ∃ p, l = ofN p ∧ okN p := by
  refine ⟨l.map Int.toNat, ?_, ?_, ?_⟩
  · unfold ofN; rw [List.map_map]
    conv => lhs; rw [← List.map_id l]
    exact List.map_congr_left fun x hx => by have := (h.1 x hx).1; simp; omega
  · intro x hx
    obtain ⟨y, hy, rfl⟩ := List.mem_map.1 hx
    have := h.1 y hy; simp; omega
  · rw [List.nodup_iff_pairwise_ne, List.pairwise_map]
    refine (List.nodup_iff_pairwise_ne.1 h.2).imp_of_mem fun {a b} ha hb hne e => hne ?_
    have := (h.1 a ha).1; have := (h.1 b hb).1; omega
theorem okN_ofN {p : List Nat} (h : okN p) : okL (ofN p) := by
  refine ⟨fun x hx => ?_, ?_⟩
  · obtain ⟨y, hy, rfl⟩ := List.mem_map.1 hx
    have := h.1 y hy; rw [len_ofN]; omega
  · unfold ofN; rw [List.nodup_iff_pairwise_ne, List.pairwise_map]
    exact (List.nodup_iff_pairwise_ne.1 h.2).imp fun hne e => hne (by omega)
theorem ofN_inj {p q : List Nat} (h : ofN p = ofN q) : p = q := by
  unfold ofN at h
  exact List.map_inj_right (f := fun x : Nat => (x : Int)) (by intro x y e; exact Int.ofNat.inj e) |>.1 h
theorem okN_lt {p : List Nat} (h : okN p) {i : Nat} (hi : i < p.length) : p[i] < p.length := h.1 _ (List.getElem_mem hi)

def oneN (n : Nat) : List Nat := List.range n
def mulN (a b : List Nat) : List Nat := a.map fun x => b.getD x 0
def invN (a : List Nat) : List Nat := (List.range a.length).map fun j => a.idxOf j
theorem len_oneN (n : Nat) : (oneN n).length = n := by simp [oneN]
theorem len_mulN (a b : List Nat) : (mulN a b).length = a.length := by simp [mulN]
theorem len_invN (a : List Nat) : (invN a).length = a.length := by simp [invN]
theorem get_oneN (n i : Nat) (h : i < (oneN n).length) : (oneN n)[i] = i := by simp [oneN]
theorem get_mulN (a b : List Nat) (i : Nat) (h : i < (mulN a b).length) : (mulN a b)[i] = b.getD (a[i]'(by rw [← len_mulN a b]; exact h)) 0 := by simp [mulN]
theorem get_invN (a : List Nat) (i : Nat) (h : i < (invN a).length) : (invN a)[i] = a.idxOf i := by simp [invN]
theorem okN_oneN (n : Nat) : okN (oneN n) := ⟨by simp [oneN], List.nodup_range⟩
theorem idx_get {a : List Nat} (h : okN a) {k : Nat} (hk : k < a.length) : a.idxOf a[k] = k := by
  exact h.2.idxOf_getElem k hk
/-- every point is an image -/
theorem okN_mem {a : List Nat} (h : okN a) {j : Nat} (hj : j < a.length) : j ∈ a := by
  refine Decidable.byContradiction fun hn => ?_
  have hs : (j :: a) ⊆ List.range a.length := fun x hx => by
    rcases List.mem_cons.1 hx with rfl | hx
    · simpa using hj
    · simpa using h.1 x hx
  have := List.Nodup.length_le_of_subset (List.nodup_cons.2 ⟨hn, h.2⟩) hs
  simp at this
  omega
theorem idx_lt {a : List Nat} (h : okN a) {j : Nat} (hj : j < a.length) : a.idxOf j < a.length := List.idxOf_lt_length_of_mem (okN_mem h hj)
theorem get_idx {a : List Nat} (h : okN a) {j : Nat} (hj : j < a.length) : a[a.idxOf j]'(idx_lt h hj) = j := List.getElem_idxOf (idx_lt h hj)
theorem okN_invN {a : List Nat} (h : okN a) : okN (invN a) := by
  refine ⟨fun x hx => ?_, ?_⟩
  · obtain ⟨j, hj, rfl⟩ := List.mem_map.1 hx
    rw [len_invN]; exact idx_lt h (by simpa using hj)
  · unfold invN
    rw [List.nodup_iff_pairwise_ne, List.pairwise_map]
    refine (List.nodup_iff_pairwise_ne.1 List.nodup_range).imp_of_mem fun {x y} hx hy hne e => hne ?_
    have h1 := get_idx h (j := x) (by simpa using hx)
    have h2 := get_idx h (j := y) (by simpa using hy)
    simp only [e] at h1
    exact h1.symm.trans h2
theorem getD_lt {b : List Nat} {x : Nat} (h : x < b.length) : b.getD x 0 = b[x] := by
  rw [List.getD_eq_getElem?_getD, List.getElem?_eq_getElem h]; rfl
theorem okN_mulN {a b : List Nat} (ha : okN a) (hb : okN b) (hl : a.length = b.length) : okN (mulN a b) := by
  refine ⟨fun x hx => ?_, ?_⟩
  · obtain ⟨j, hj, rfl⟩ := List.mem_map.1 hx
    have := ha.1 j hj
    rw [len_mulN, getD_lt (by omega), hl]
    exact okN_lt hb (by omega)
  · unfold mulN
    rw [List.nodup_iff_pairwise_ne, List.pairwise_map]
    refine (List.nodup_iff_pairwise_ne.1 ha.2).imp_of_mem fun {x y} hx hy hne e => hne ?_
    have h1 := ha.1 x hx; have h2 := ha.1 y hy
    rw [getD_lt (by omega), getD_lt (by omega)] at e
    have i1 := idx_get hb (k := x) (by omega)
    have i2 := idx_get hb (k := y) (by omega)
    rw [e] at i1
    exact i1.symm.trans i2
end Go.Proofs.Ma

