/- Slices that read as lists: of values, of integers, of rows of integers; no program in sight. -/
import Derived.Deep.OwnRows
import Derived.WalkKit
import Derived.Lib.Hide
import Derived.Test.YtojbijkljnohoaaXMa
set_option linter.unusedVariables false
namespace Go.Proofs.Rg
open Go Go.RowKit

/-- a slice value that reads as a list of one-cell values, of a length that B bounds -/
def ValsB (B : Nat) (w : World) (v : Value) (us : List Value) : Prop :=
  ∃ a cap, v = .slice a us.length cap ∧ us.length ≤ cap ∧ cap ≤ maxLen ∧ us.length ≤ B ∧
    (0 < us.length → ∃ b o, a = some ⟨b, o, none⟩ ∧ b < w.heap.size ∧ ∀ i (h : i < us.length), w.cell? ⟨b, o + i, none⟩ = some us[i])

def big : Nat := 1000000000
def Vals (w : World) (v : Value) (us : List Value) : Prop := ValsB big w v us
def IntsB (B : Nat) (w : World) (v : Value) (l : List Int) : Prop := ValsB B w v (l.map (Value.int .i64))
def Ints (w : World) (v : Value) (l : List Int) : Prop := Vals w v (l.map (Value.int .i64))
def RowsB (B : Nat) (w : World) (v : Value) (ll : List (List Int)) : Prop :=
  ∃ us, ValsB B w v us ∧ us.length = ll.length ∧ ∀ i (h : i < us.length) (h2 : i < ll.length), IntsB B w us[i] ll[i]
def Rows (w : World) (v : Value) (ll : List (List Int)) : Prop := RowsB big w v ll

theorem ValsB.shape {B : Nat} {w : World} {v : Value} {us : List Value} (h : ValsB B w v us) :
    ∃ a cap, v = .slice a us.length cap ∧ us.length ≤ cap ∧ us.length ≤ B ∧ cap ≤ maxLen ∧
    (0 < us.length → ∃ b o, a = some ⟨b, o, none⟩ ∧ b < w.heap.size ∧ ∀ i (h : i < us.length), w.cell? ⟨b, o + i, none⟩ = some us[i]) := by
  obtain ⟨a, cap, h1, h2, h3, h4, h5⟩ := h
  exact ⟨a, cap, h1, h2, h4, h3, h5⟩

theorem Vals.shape {w : World} {v : Value} {us : List Value} (h : Vals w v us) :
    ∃ a cap, v = .slice a us.length cap ∧ us.length ≤ cap ∧ us.length ≤ 1000000000 ∧ cap ≤ maxLen ∧
    (0 < us.length → ∃ b o, a = some ⟨b, o, none⟩ ∧ b < w.heap.size ∧ ∀ i (h : i < us.length), w.cell? ⟨b, o + i, none⟩ = some us[i]) := ValsB.shape h

theorem IntsB.shape {B : Nat} {w : World} {v : Value} {l : List Int} (h : IntsB B w v l) :
    ∃ a cap, v = .slice a l.length cap ∧ l.length ≤ cap ∧ l.length ≤ B ∧ cap ≤ maxLen ∧
    (0 < l.length → ∃ b o, a = some ⟨b, o, none⟩ ∧ b < w.heap.size ∧ ∀ i (h : i < l.length), w.cell? ⟨b, o + i, none⟩ = some (.int .i64 l[i])) := by
  obtain ⟨a, cap, h1, h2, h3, h4, h5⟩ := h
  simp only [List.length_map] at h1 h2 h4 h5
  refine ⟨a, cap, h1, h2, h4, h3, fun h0 => ?_⟩
  obtain ⟨b, o, e1, e2, e3⟩ := h5 h0
  exact ⟨b, o, e1, e2, fun i hi => by have := e3 i hi; simpa using this⟩

theorem Ints.shape {w : World} {v : Value} {l : List Int} (h : Ints w v l) :
    ∃ a cap, v = .slice a l.length cap ∧ l.length ≤ cap ∧ l.length ≤ 1000000000 ∧ cap ≤ maxLen ∧
    (0 < l.length → ∃ b o, a = some ⟨b, o, none⟩ ∧ b < w.heap.size ∧ ∀ i (h : i < l.length), w.cell? ⟨b, o + i, none⟩ = some (.int .i64 l[i])) := IntsB.shape h

theorem RowsB.shape {B : Nat} {w : World} {v : Value} {ll : List (List Int)} (h : RowsB B w v ll) :
    ∃ a cap, v = .slice a ll.length cap ∧ ll.length ≤ cap ∧ ll.length ≤ B ∧ cap ≤ maxLen ∧
    (0 < ll.length → ∃ b o, a = some ⟨b, o, none⟩ ∧ b < w.heap.size ∧ ∀ i (h : i < ll.length), ∃ u, w.cell? ⟨b, o + i, none⟩ = some u ∧ IntsB B w u ll[i]) := by
  obtain ⟨us, ⟨a, cap, h1, h2, h3, h4, h5⟩, hl, h6⟩ := h
  rw [hl] at h1 h2 h4
  refine ⟨a, cap, h1, h2, h4, h3, fun h0 => ?_⟩
  obtain ⟨b, o, e1, e2, e3⟩ := h5 (by omega)
  exact ⟨b, o, e1, e2, fun i hi => ⟨us[i], e3 i (by omega), h6 i (by omega) hi⟩⟩

theorem Rows.shape {w : World} {v : Value} {ll : List (List Int)} (h : Rows w v ll) :
    ∃ a cap, v = .slice a ll.length cap ∧ ll.length ≤ cap ∧ ll.length ≤ 1000000000 ∧ cap ≤ maxLen ∧
    (0 < ll.length → ∃ b o, a = some ⟨b, o, none⟩ ∧ b < w.heap.size ∧ ∀ i (h : i < ll.length), ∃ u, w.cell? ⟨b, o + i, none⟩ = some u ∧ Ints w u ll[i]) := RowsB.shape h

theorem ValsB.below {B : Nat} {w w' : World} {v : Value} {us : List Value} (h : ValsB B w v us) (hb : Below w.heap.size w w') : ValsB B w' v us := by
  obtain ⟨a, cap, h1, h2, h3, h4, h5⟩ := h
  refine ⟨a, cap, h1, h2, h3, h4, fun h0 => ?_⟩
  obtain ⟨b, o, e1, e2, e3⟩ := h5 h0
  exact ⟨b, o, e1, Nat.lt_of_lt_of_le e2 hb.size, fun i hi => (hb.cell (p := ⟨b, o + i, none⟩) e2).trans (e3 i hi)⟩
theorem Vals.below {w w' : World} {v : Value} {us : List Value} (h : Vals w v us) (hb : Below w.heap.size w w') : Vals w' v us := ValsB.below h hb
theorem IntsB.below {B : Nat} {w w' : World} {v : Value} {l : List Int} (h : IntsB B w v l) (hb : Below w.heap.size w w') : IntsB B w' v l := ValsB.below h hb
theorem Ints.below {w w' : World} {v : Value} {l : List Int} (h : Ints w v l) (hb : Below w.heap.size w w') : Ints w' v l := ValsB.below h hb
theorem RowsB.below {B : Nat} {w w' : World} {v : Value} {ll : List (List Int)} (h : RowsB B w v ll) (hb : Below w.heap.size w w') : RowsB B w' v ll := by
  obtain ⟨us, h1, h2, h3⟩ := h
  exact ⟨us, h1.below hb, h2, fun i a b => (h3 i a b).below hb⟩
theorem Rows.below {w w' : World} {v : Value} {ll : List (List Int)} (h : Rows w v ll) (hb : Below w.heap.size w w') : Rows w' v ll := RowsB.below h hb

theorem IntsB.small {B : Nat} {w : World} {v : Value} {l : List Int} (h : IntsB B w v l) (hl : l.length ≤ 1000000000) : Ints w v l := by
  obtain ⟨a, cap, h1, h2, h3, h4, h5⟩ := h
  exact ⟨a, cap, h1, h2, h3, by rw [List.length_map]; exact hl, h5⟩
theorem RowsB.small {B : Nat} {w : World} {v : Value} {ll : List (List Int)} (h : RowsB B w v ll) (hl : ll.length ≤ 1000000000) (hr : ∀ l ∈ ll, l.length ≤ 1000000000) : Rows w v ll := by
  obtain ⟨us, ⟨a, cap, h1, h2, h3, h4, h5⟩, hu, h6⟩ := h
  exact ⟨us, ⟨a, cap, h1, h2, h3, by rw [hu]; exact hl, h5⟩, hu, fun i a b => (h6 i a b).small (hr _ (List.getElem_mem b))⟩

/-- a list of values in a block of cells -/
theorem Vals.mk {w : World} {b o cap : Nat} {us : List Value} (hb : b < w.heap.size) (hc : us.length ≤ cap) (hm : cap ≤ maxLen) (hl : us.length ≤ 1000000000)
    (h : ∀ i (h : i < us.length), w.cell? ⟨b, o + i, none⟩ = some us[i]) : Vals w (.slice (some ⟨b, o, none⟩) us.length cap) us :=
  ⟨_, cap, rfl, hc, hm, hl, fun _ => ⟨b, o, rfl, hb, h⟩⟩
theorem Ints.mk {w : World} {b o cap n : Nat} {l : List Int} (hn : n = l.length) (hb : b < w.heap.size) (hc : l.length ≤ cap) (hm : cap ≤ maxLen) (hl : l.length ≤ 1000000000)
    (h : ∀ i (h : i < l.length), w.cell? ⟨b, o + i, none⟩ = some (.int .i64 l[i])) : Ints w (.slice (some ⟨b, o, none⟩) n cap) l := by
  subst hn
  refine ⟨some ⟨b, o, none⟩, cap, by simp, by simpa using hc, hm, by rw [List.length_map]; exact hl, fun _ => ⟨b, o, rfl, hb, fun i hi => ?_⟩⟩
  have hi' : i < l.length := by simpa using hi
  rw [h i hi']; simp
theorem Ints.nil (w : World) (a : Option Addr) (cap : Nat) (hc : cap ≤ maxLen) : Ints w (.slice a 0 cap) [] :=
  ⟨a, cap, rfl, by simp, hc, by simp, fun h => by simp at h⟩
theorem Rows.nil (w : World) (a : Option Addr) (cap : Nat) (hc : cap ≤ maxLen) : Rows w (.slice a 0 cap) [] :=
  ⟨[], ⟨a, cap, rfl, by simp, hc, by simp, fun h => by simp at h⟩, rfl, fun i h => by simp at h⟩
theorem Vals.nil (w : World) (a : Option Addr) (cap : Nat) (hc : cap ≤ maxLen) : Vals w (.slice a 0 cap) [] :=
  ⟨a, cap, rfl, by simp, hc, by simp, fun h => by simp at h⟩

/-- the call's own row of one-cell elements reads as its cells -/
theorem Vals.of_row {w : World} {base : Nat} {e : TypeId} {v : Value} {n : Nat} {xs : List Value} (h : w.ownsRow base e 1 v n xs) (hl : n ≤ 1000000000) : Vals w v xs := by
  obtain ⟨h1, h2⟩ := h
  rcases h2 with ⟨rfl, rfl⟩ | ⟨g, cap, cur, rfl, hg, hc, h3, h4, h5, h6⟩
  · obtain rfl : xs = [] := by cases xs; rfl; simp at h1
    exact Vals.nil w none 0 (by simp)
  · have hn : xs.length = n := by omega
    subst hn
    refine ⟨_, cap, rfl, h3, h4, hl, fun h0 => ⟨g, 0, rfl, (Array.getElem?_eq_some_iff.1 hc).1, fun i hi => ?_⟩⟩
    unfold World.cell?
    simp only [hc]
    have h7 : cur.toList[i]? = xs[i]? := by
      rw [← h6, List.getElem?_take_of_lt (by omega)]
    rw [Nat.zero_add, ← Array.getElem?_toList, h7, List.getElem?_eq_getElem hi]; rfl
theorem Ints.of_row {w : World} {base : Nat} {e : TypeId} {v : Value} {n : Nat} {l : List Int} (h : w.ownsRow base e 1 v n (l.map (Value.int .i64))) (hl : n ≤ 1000000000) : Ints w v l := Vals.of_row h hl
theorem Rows.of_row {w : World} {base : Nat} {e : TypeId} {v : Value} {n : Nat} {us : List Value} {ll : List (List Int)} (h : w.ownsRow base e 1 v n us) (hl : n ≤ 1000000000) (hu : us.length = ll.length)
    (hr : ∀ i (h : i < us.length) (h2 : i < ll.length), Ints w us[i] ll[i]) : Rows w v ll := ⟨us, Vals.of_row h hl, hu, hr⟩

/-- a row block of integers reads as a list -/
theorem Ints.of_rowIs {w : World} {b : Nat} {t : TypeId} {n : Nat} {f : Nat → Value} {l : List Int} (h : w.rowIs b t n f) (hn : n = l.length) (hl : n ≤ 1000000000)
    (hf : ∀ i (h : i < l.length), f i = .int .i64 l[i]) : Ints w (.slice (some ⟨b, 0, none⟩) n n) l := by
  refine Ints.mk hn h.lt (by omega) (by unfold maxLen; omega) (by omega) (fun i hi => ?_)
  rw [Nat.zero_add, h.cell (by omega), hf i hi]

theorem bcell {W w1 : World} (hb : Below W.heap.size W w1) : (∀ b o, b < W.heap.size → w1.cell? ⟨b, o, none⟩ = W.cell? ⟨b, o, none⟩) ∧ (∀ b o, b < W.heap.size → w1.frozen? ⟨b, o, none⟩ = W.frozen? ⟨b, o, none⟩) :=
  ⟨fun b o h => hb.cell (p := ⟨b, o, none⟩) h, fun b o h => hb.frozen (p := ⟨b, o, none⟩) h⟩
theorem acc {w0 w w' : World} (hb : Below w0.heap.size w0 w) (h : Below w.heap.size w w') : Below w0.heap.size w0 w' := hb.trans (h.mono hb.size)
theorem ret_int {k : IntKind} {a b : Int} (h : a = b) : Ending.returned (.int k a) = .returned (.int k b) := by rw [h]
theorem ret_bool {a b : Bool} (h : a = b) : Ending.returned (.bool a) = .returned (.bool b) := by rw [h]

theorem IntsB.len {B : Nat} {w : World} {v : Value} {l : List Int} (h : IntsB B w v l) : ∃ n a cap, l.length = n ∧ v = .slice a n cap ∧ n ≤ B := by
  obtain ⟨a, cap, h1, h2, h3, h4, h5⟩ := IntsB.shape h
  exact ⟨_, a, cap, rfl, h1, h3⟩
theorem Ints.len {w : World} {v : Value} {l : List Int} (h : Ints w v l) : ∃ n a cap, l.length = n ∧ v = .slice a n cap ∧ n ≤ 1000000000 := IntsB.len h
/-- a slice that reads as a list of naturals -/
def NP (w : World) (v : Value) (a : List Nat) : Prop := Ints w v (Ma.ofN a)
theorem NP.shape {w : World} {v : Value} {l : List Nat} (h : NP w v l) :
    ∃ a cap, v = .slice a l.length cap ∧ l.length ≤ cap ∧ l.length ≤ 1000000000 ∧ cap ≤ maxLen ∧
    (0 < l.length → ∃ b o, a = some ⟨b, o, none⟩ ∧ b < w.heap.size ∧ ∀ i (h : i < l.length), w.cell? ⟨b, o + i, none⟩ = some (.int .i64 ((l[i] : Nat) : Int))) := by
  obtain ⟨a, cap, h1, h2, h3, h4, h5⟩ := Ints.shape h
  rw [Ma.len_ofN] at h1 h2 h3
  refine ⟨a, cap, h1, h2, h3, h4, fun h0 => ?_⟩
  obtain ⟨b, o, e1, e2, e3⟩ := h5 (by rw [Ma.len_ofN]; exact h0)
  exact ⟨b, o, e1, e2, fun i hi => (e3 i (by rw [Ma.len_ofN]; exact hi)).trans (by rw [Ma.get_ofN])⟩
theorem NP.below {w w' : World} {v : Value} {l : List Nat} (h : NP w v l) (hb : Below w.heap.size w w') : NP w' v l := ValsB.below h hb
theorem NP.of_rowIs {w : World} {b : Nat} {t : TypeId} {n : Nat} {f : Nat → Value} {l : List Nat} (h : w.rowIs b t n f) (hn : n = l.length) (hl : n ≤ 1000000000)
    (hf : ∀ i (h : i < l.length), f i = .int .i64 ((l[i] : Nat) : Int)) : NP w (.slice (some ⟨b, 0, none⟩) n n) l :=
  Ints.of_rowIs h (by rw [Ma.len_ofN]; exact hn) hl (fun i hi => by rw [hf i (by rw [← Ma.len_ofN]; exact hi), Ma.get_ofN])
theorem NP.of_row {w : World} {base : Nat} {e : TypeId} {v : Value} {n : Nat} {l : List Nat} (h : w.ownsRow base e 1 v n (l.map fun (x : Nat) => Value.int .i64 (x : Int))) (hl : n ≤ 1000000000) : NP w v l :=
  Ints.of_row (base := base) (e := e) (n := n) (by unfold Ma.ofN; rw [List.map_map]; exact h) hl
theorem cellNew (w : World) (cs : Array Value) (t : TypeId) (j : Nat) : (w.alloc (.cells cs t)).cell? ⟨w.heap.size, j, none⟩ = cs[j]? := by
  unfold World.cell? World.alloc
  simp
theorem Rows.one {w : World} {v : Value} {l : List Int} (t : TypeId) (h : Ints w v l) : Rows (w.alloc (.cells #[v] t)) (.slice (some ⟨w.heap.size, 0, none⟩) 1 1) [l] := by
  refine ⟨[v], ⟨_, 1, rfl, by simp, by unfold maxLen; simp, by simp [big], fun _ => ⟨w.heap.size, 0, rfl, by simp, fun i hi => ?_⟩⟩, rfl, fun i h1 h2 => ?_⟩
  · have hi' : i = 0 := by simpa using hi
    subst hi'
    rw [cellNew]; rfl
  · have hi' : i = 0 := by simpa using h1
    subst hi'
    exact Ints.below h ((Below.refl _ _).alloc (Nat.le_refl _) _)
theorem Rows.two {w : World} {v v' : Value} {l l' : List Int} (t : TypeId) (h : Ints w v l) (h' : Ints w v' l') : Rows (w.alloc (.cells #[v, v'] t)) (.slice (some ⟨w.heap.size, 0, none⟩) 2 2) [l, l'] := by
  refine ⟨[v, v'], ⟨_, 2, rfl, by simp, by unfold maxLen; simp, by simp [big], fun _ => ⟨w.heap.size, 0, rfl, by simp, fun i hi => ?_⟩⟩, rfl, fun i h1 h2 => ?_⟩
  · have hi' : i = 0 ∨ i = 1 := by simp at hi; omega
    rcases hi' with rfl | rfl
    all_goals
      rw [cellNew]; rfl
  · have hi' : i = 0 ∨ i = 1 := by simp at h1; omega
    rcases hi' with rfl | rfl
    · exact Ints.below h ((Below.refl _ _).alloc (Nat.le_refl _) _)
    · exact Ints.below h' ((Below.refl _ _).alloc (Nat.le_refl _) _)
/-- a slice of the call's own: its cells lie behind block B -/
def Fresh (B : Nat) (v : Value) : Prop := ∀ a n c, v = .slice (some a) n c → B ≤ a.block
/-- a new list of naturals -/
def NPF (w w' : World) (v : Value) (a : List Nat) : Prop := NP w' v a ∧ Fresh w.heap.size v
theorem Fresh.mono {B B' : Nat} {v : Value} (h : Fresh B v) (hb : B' ≤ B) : Fresh B' v := fun a n c e => Nat.le_trans hb (h a n c e)
theorem Fresh.mk (B o n c : Nat) : Fresh B (.slice (some ⟨B, o, none⟩) n c) := fun a n c e => by simp at e; obtain ⟨⟨rfl, _⟩, _⟩ := e; exact Nat.le_refl _
theorem Fresh.of_row {w : World} {base : Nat} {e : TypeId} {size : Nat} {v : Value} {n : Nat} {xs : List Value} (h : w.ownsRow base e size v n xs) : Fresh base v := fun a m c ev => by
  subst ev
  exact (h.lt a.block rfl).1
/-- no cell of the slice lies in block k -/
def Off (u : Value) (k : Option Nat) : Prop := ∀ a n c, u = .slice (some a) n c → 0 < n → some a.block ≠ k
theorem NP.lt {w : World} {v : Value} {l : List Nat} (h : NP w v l) {a : Addr} {n c : Nat} (e : v = .slice (some a) n c) (hn : 0 < n) : a.block < w.heap.size := by
  obtain ⟨a', cap, h1, _, _, _, h5⟩ := h.shape
  rw [e] at h1
  simp at h1
  obtain ⟨rfl, rfl, rfl⟩ := h1
  obtain ⟨b, o, e1, e2, _⟩ := h5 hn
  simp at e1; subst e1; exact e2
theorem NP.grown {w w' : World} {v : Value} {l : List Nat} {k : Option Nat} (h : NP w v l) (ho : Off v k) (hg : w.grownBy w' k) : NP w' v l := by
  have hh := h
  obtain ⟨a, cap, h1, h2, h3, h4, h5⟩ := h
  refine ⟨a, cap, h1, h2, h3, h4, fun h0 => ?_⟩
  obtain ⟨b, o, e1, e2, e3⟩ := h5 h0
  subst e1
  have hne := ho _ _ _ h1 (by simpa using h0)
  exact ⟨b, o, rfl, Nat.lt_of_lt_of_le e2 hg.size, fun i hi => hg.cell (e3 i hi) hne⟩
theorem Off.next {w : World} {v : Value} {l : List Nat} {k k' : Option Nat} {g : Nat} (h : Off v k) (hv : NP w v l) (hk : k' = k ∨ k' = some g) (hg : w.heap.size ≤ g) : Off v k' := fun a n c e hn => by
  rcases hk with rfl | rfl
  · exact h a n c e hn
  · have := hv.lt e hn
    simp; omega
theorem Off.fresh {B : Nat} {u : Value} {k : Option Nat} (h : Fresh B u) (hk : ∀ b, k = some b → b < B) : Off u k := fun a n c e _ he => by
  have h1 := h a n c e
  have h2 := hk _ he.symm
  omega
theorem Off.old {w : World} {B : Nat} {v : Value} {l : List Nat} {k : Option Nat} (h : NP w v l) (hw : w.heap.size ≤ B) (hk : ∀ b, k = some b → B ≤ b) : Off v k := fun a n c e hn he => by
  have h1 := h.lt e hn
  have h2 := hk _ he.symm
  omega
end Go.Proofs.Rg

