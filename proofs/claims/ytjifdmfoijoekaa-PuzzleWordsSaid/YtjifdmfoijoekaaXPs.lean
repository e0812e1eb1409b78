/- Lemmas and contracts on the way to the statement; no condition of their own beyond those written. -/
import Derived.Test.YtjifdmfoijoekaaXPpPqPr
import Derived.Test.YtjifdmfoijoekaaXRt
set_option linter.unusedVariables false
namespace Go.Proofs.Ytjifdmfoijoekaa
open Go.RowKit
open Go.Proofs
attribute [local irreducible] Go.Calls Go.wpStill

/-! the ball with words -/
def gstepW (d : Nat) (st : List (List Nat × Nat) × List (List Nat × List Int)) (x : List Nat × List Int) : List (List Nat × Nat) × List (List Nat × List Int) :=
  if (nd st.1 x.1).isSome then st else (st.1 ++ [(x.1, d)], st.2 ++ [x])
def candsW (sh : List (List Nat × List Int)) (ml : List (List Nat × Int)) : List (List Nat × List Int) := sh.flatMap fun k => ml.map fun x => (Ma.mulN k.1 x.1, k.2 ++ [x.2])
def growW (ml : List (List Nat × Int)) (near : List (List Nat × Nat)) (sh : List (List Nat × List Int)) : List (List Nat × Nat) × List (List Nat × List Int) :=
  (candsW sh ml).foldl (gstepW (growD near (sh.map (·.1)))) (near, [])
def wIter (ml : List (List Nat × Int)) (c : List Nat) : Nat → List (List Nat × Nat) × List (List Nat × List Int)
  | 0 => ([(c, 0)], [(c, [])])
  | k + 1 => growW ml (wIter ml c k).1 (wIter ml c k).2
def fstW (st : List (List Nat × Nat) × List (List Nat × List Int)) : List (List Nat × Nat) × List (List Nat) := (st.1, st.2.map (·.1))
theorem gstepW_fst (d : Nat) (st : List (List Nat × Nat) × List (List Nat × List Int)) (x : List Nat × List Int) : fstW (gstepW d st x) = gstep d (fstW st) x.1 := by
  unfold gstepW gstep fstW
  split <;> simp
theorem foldW_fst (d : Nat) : ∀ (l : List (List Nat × List Int)) (st : List (List Nat × Nat) × List (List Nat × List Int)), fstW (l.foldl (gstepW d) st) = (l.map (·.1)).foldl (gstep d) (fstW st)
  | [], st => rfl
  | x :: l, st => by rw [List.foldl_cons, foldW_fst d l, gstepW_fst]; rfl
theorem candsW_fst (sh : List (List Nat × List Int)) (ml : List (List Nat × Int)) : (candsW sh ml).map (·.1) = cands (sh.map (·.1)) (ml.map (·.1)) := by
  unfold candsW cands
  rw [List.map_flatMap, List.flatMap_map]
  congr 1; funext k
  rw [List.map_map, List.map_map]; rfl
theorem growW_fst (ml : List (List Nat × Int)) (near : List (List Nat × Nat)) (sh : List (List Nat × List Int)) : fstW (growW ml near sh) = growP (ml.map (·.1)) near (sh.map (·.1)) := by
  unfold growW growP
  rw [foldW_fst, candsW_fst]; rfl
theorem wIter_fst (ml : List (List Nat × Int)) (c : List Nat) : ∀ k, fstW (wIter ml c k) = bIter (ml.map (·.1)) c k
  | 0 => rfl
  | k + 1 => by
    have ih := wIter_fst ml c k
    rw [wIter, bIter, growW_fst, ← ih]; rfl
/-- moves with letters -/
def mlets (gs : List (List Nat)) : List (List Nat × Int) := (moves gs).zip (lets gs.length)
theorem mlets_fst (gs : List (List Nat)) : (mlets gs).map (·.1) = moves gs := by
  unfold mlets
  rw [List.map_fst_zip]
  rw [len_moves, len_lets]; exact Nat.le_refl _
theorem len_mlets (gs : List (List Nat)) : (mlets gs).length = 2 * gs.length := by
  unfold mlets; rw [List.length_zip, len_moves, len_lets]; simp
theorem get_moves : ∀ (gs : List (List Nat)) (i : Nat) (h : i < gs.length), (moves gs)[2 * i]? = some gs[i] ∧ (moves gs)[2 * i + 1]? = some (Ma.invN gs[i])
  | s :: gs, 0, _ => ⟨rfl, rfl⟩
  | s :: gs, i + 1, h => by
    have := get_moves gs i (by simpa using h)
    show ([s, Ma.invN s] ++ moves gs)[2 * (i + 1)]? = _ ∧ ([s, Ma.invN s] ++ moves gs)[2 * (i + 1) + 1]? = _
    rw [List.getElem?_append_right (by simp; omega), List.getElem?_append_right (by simp; omega)]
    exact this
theorem get_lets (n i : Nat) (h : i < n) : (lets n)[2 * i]? = some ((i : Int) + 1) ∧ (lets n)[2 * i + 1]? = some (-(i : Int) - 1) := by
  induction n with
  | zero => omega
  | succ n ih =>
    rw [lets_succ]
    by_cases hi : i < n
    · rw [List.getElem?_append_left (by rw [len_lets]; omega), List.getElem?_append_left (by rw [len_lets]; omega)]; exact ih hi
    · obtain rfl : i = n := by omega
      rw [List.getElem?_append_right (by rw [len_lets]; omega), List.getElem?_append_right (by rw [len_lets]; omega), len_lets]
      rw [Nat.sub_self, show 2 * i + 1 - 2 * i = 1 from by omega]
      exact ⟨rfl, rfl⟩

/-- keys that have been met -/
def Has (near : List (List Nat × Nat)) (p : List Nat) : Prop := (nd near p).isSome = true
theorem nd_isSome (near : List (List Nat × Nat)) (p : List Nat) : (nd near p).isSome = true ↔ ∃ x ∈ near, x.1 = p := by
  unfold nd
  rw [Option.isSome_map, List.find?_isSome]
  constructor
  · rintro ⟨x, h1, h2⟩; exact ⟨x, h1, (eq_of_beq h2).symm⟩
  · rintro ⟨x, h1, h2⟩; exact ⟨x, h1, by rw [h2]; simp⟩
/-- the reference's list of all elements holds just the keys that have been met -/
def AllIs (L : List (List Int)) (near : List (List Nat × Nat)) : Prop := ∀ y, y ∈ L ↔ ∃ x ∈ near, y = Ma.ofN x.1
theorem AllIs.mem {L : List (List Int)} {near : List (List Nat × Nat)} (h : AllIs L near) (p : List Nat) : Ma.ofN p ∈ L ↔ (nd near p).isSome = true := by
  rw [h, nd_isSome]
  constructor
  · rintro ⟨x, h1, h2⟩; exact ⟨x, h1, (Ma.ofN_inj h2).symm⟩
  · rintro ⟨x, h1, h2⟩; exact ⟨x, h1, by rw [h2]⟩
theorem AllIs.snoc {L L' : List (List Int)} {near : List (List Nat × Nat)} {p : List Nat} {d : Nat} (h : AllIs L near) (h' : ∀ y, y ∈ L' ↔ y ∈ L ∨ y = Ma.ofN p) : AllIs L' (near ++ [(p, d)]) := fun y => by
  rw [h', h]
  constructor
  · rintro (⟨x, h1, h2⟩ | h1)
    · exact ⟨x, by simp [h1], h2⟩
    · exact ⟨(p, d), by simp, h1⟩
  · rintro ⟨x, h1, h2⟩
    rcases List.mem_append.1 h1 with h1 | h1
    · exact .inl ⟨x, h1, h2⟩
    · obtain rfl : x = (p, d) := by simpa using h1
      exact .inr h2
theorem AllIs.same {L L' : List (List Int)} {near : List (List Nat × Nat)} {p : List Nat} (h : AllIs L near) (hp : (nd near p).isSome = true) (h' : ∀ y, y ∈ L' ↔ y ∈ L ∨ y = Ma.ofN p) : AllIs L' near := fun y => by
  rw [h']
  constructor
  · rintro (h1 | h1)
    · exact (h y).1 h1
    · rw [h1]; exact (h _).1 ((h.mem p).2 hp)
  · exact fun h1 => .inl ((h y).2 h1)
end Go.Proofs.Ytjifdmfoijoekaa

