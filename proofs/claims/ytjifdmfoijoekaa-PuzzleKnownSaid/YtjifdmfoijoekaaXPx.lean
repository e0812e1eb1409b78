/- Lemmas and contracts on the way to the statement; no condition of their own beyond those written. -/
import Derived.Test.YtjifdmfoijoekaaXPtPv
import Derived.Deep.RegionHeld3
import Derived.Deep.CutRange
set_option linter.unusedVariables false
namespace Go.Proofs.Ytjifdmfoijoekaa
open Go.RowKit
open Go.Proofs
attribute [local irreducible] Go.Calls Go.wpStill

theorem balls_start {W0 w1 W6 : World} {s : Nat} {u : Value} {p : List Nat} (hb1 : Below W0.heap.size W0 w1) (hs : s = w1.heap.size) (hu : Rg.NP w1 u p) (hb : Below s w1 W6)
    (k0 : W6.heap[s]? = some (.cells #[u] 39 (0, 0))) (k1 : W6.heap[s + 1]? = some (.cells #[.slice (some ⟨s, 0, none⟩) 1 1] 22 (0, 0)))
    (k3 : W6.heap[s + 3]? = some (.cells #[.slice (some ⟨s + 2, 0, none⟩) 0 0] 40 (0, 0))) (k4 : W6.heap[s + 4]? = some (.cells #[.slice (some ⟨s + 3, 0, none⟩) 1 1] 79 (0, 0)))
    (k5 : W6.heap[s + 5]? = some (.cells #[.slice (some ⟨s + 1, 0, none⟩) 1 1, .slice (some ⟨s + 4, 0, none⟩) 1 1, .slice none 0 0] 69 (0, 0))) :
    RB W0 W6 (s + 5) (.slice (some ⟨s + 1, 0, none⟩) 1 1) (.slice (some ⟨s + 4, 0, none⟩) 1 1) (.slice none 0 0) (.slice none 0 0) (.slice none 0 0) [[Ma.ofN p]] [[[]]] [] [] [] := by
  have hsz := hb1.size
  have l5 := (Array.getElem?_eq_some_iff.1 k5).1
  have lit : ∀ (g : Nat) (e : TypeId) (cs : Array Value), W6.heap[g]? = some (.cells cs e (0, 0)) → W0.heap.size ≤ g → cs.size = 1 → W6.ownsRow W0.heap.size e 1 (.slice (some ⟨g, 0, none⟩) 1 1) 1 cs.toList := fun g e cs h1 h2 h3 =>
    ⟨by simp [h3], .inr ⟨g, 1, cs, rfl, h2, h1, Nat.le_refl _, by unfold maxLen; omega, by omega, List.take_of_length_le (by simp [h3])⟩⟩
  have nil : ∀ (e : TypeId), W6.ownsRow W0.heap.size e 1 (.slice none 0 0) 0 [] := fun e => ⟨rfl, .inl ⟨rfl, rfl⟩⟩
  have fz : ∀ k, k < s + 5 → k ≠ s + 1 → k ≠ s + 4 → Fz W6 (s + 5) (.slice (some ⟨s + 1, 0, none⟩) 1 1) (.slice (some ⟨s + 4, 0, none⟩) 1 1) (.slice none 0 0) (.slice none 0 0) (.slice none 0 0) k := fun k a b c => by
    refine ⟨by omega, by omega, ?_, ?_, ?_, ?_, ?_⟩ <;> simp [Value.ownBlock] <;> omega
  have hw : w1.heap.size ≤ W6.heap.size := hb.size
  have hu6 : Rg.NP W6 u p := hu.below (hs ▸ hb)
  have cell : ∀ (g : Nat) (e : TypeId) (x : Value), W6.heap[g]? = some (.cells #[x] e (0, 0)) → Rg.FVals (fun k => k = g) W6 (.slice (some ⟨g, 0, none⟩) 1 1) [x] := fun g e x h =>
    ⟨_, 1, rfl, by simp, by unfold maxLen; omega, by simp, fun _ => ⟨g, 0, rfl, (Array.getElem?_eq_some_iff.1 h).1, rfl, fun i hi => by
      obtain rfl : i = 0 := by simpa using hi
      rw [cell_of_row _ _ _ _ _ _ h]; rfl⟩⟩
  have fu : Rg.FI (Fz W6 (s + 5) (.slice (some ⟨s + 1, 0, none⟩) 1 1) (.slice (some ⟨s + 4, 0, none⟩) 1 1) (.slice none 0 0) (.slice none 0 0) (.slice none 0 0)) W6 u (Ma.ofN p) := by
    refine (Rg.FI.old hu).kp (Rg.Kp.of_below (M := fun _ => False) (hs ▸ hb)) (fun _ _ h => h) |>.mono (fun k hk => fz k (by omega) (by omega) (by omega))
  have r0 : Rg.FRows (Fz W6 (s + 5) (.slice (some ⟨s + 1, 0, none⟩) 1 1) (.slice (some ⟨s + 4, 0, none⟩) 1 1) (.slice none 0 0) (.slice none 0 0) (.slice none 0 0)) W6 (.slice (some ⟨s, 0, none⟩) 1 1) [Ma.ofN p] :=
    ⟨[u], (cell s _ _ k0).mono (fun k e => by subst e; exact fz _ (by omega) (by omega) (by omega)), Rg.FElts.one fu⟩
  have r3 : Rg.FRows (Fz W6 (s + 5) (.slice (some ⟨s + 1, 0, none⟩) 1 1) (.slice (some ⟨s + 4, 0, none⟩) 1 1) (.slice none 0 0) (.slice none 0 0) (.slice none 0 0)) W6 (.slice (some ⟨s + 3, 0, none⟩) 1 1) [[]] :=
    ⟨[.slice (some ⟨s + 2, 0, none⟩) 0 0], (cell (s + 3) _ _ k3).mono (fun k e => by subst e; exact fz _ (by omega) (by omega) (by omega)), Rg.FElts.one ⟨some ⟨s + 2, 0, none⟩, 0, rfl, by simp, by simp, by simp, fun h => by simp at h⟩⟩
  have one2 : ∀ {v : Value} {m : List (List Int)} {F : Nat → Prop}, Rg.FRows F W6 v m → Rg.FElts2 F W6 [v] [m] := fun h => by
    have := Rg.FElts2.snoc (F := _) (w := W6) (us := []) (ll := []) ⟨rfl, fun i h => by simp at h⟩ h
    simpa using this
  refine ⟨?_, by omega, k5, ⟨_, lit _ _ _ k1 (by omega) rfl, one2 r0⟩, ⟨_, lit _ _ _ k4 (by omega) rfl, one2 r3⟩, ⟨[], nil _, Rg.FElts.nil _ _⟩, ⟨[], nil _, Rg.FElts.nil _ _⟩, ⟨[], nil _, Rg.FElts.nil _ _⟩, Rg.Apart.nil _⟩
  exact hb1.trans ⟨hb.os, hb.tape, hb.output, hb.size, fun k hk => hb.block k (by omega)⟩

theorem RB.fresh {W0 w w' : World} {rb : Nat} {ev wv av v7 v8 : Value} {E V : List (List (List Int))} {L e7 e8 : List (List Int)} (h : RB W0 w rb ev wv av v7 v8 E V L e7 e8) {v : Value} {p : List Nat} (hv : Rg.NPF w w' v p) : Rg.FI (Fz w' rb ev wv av v7 v8) w' v (Ma.ofN p) := by
  obtain ⟨⟨a, cap, h1, h2, h3, h4, h5⟩, hf⟩ := hv
  refine ⟨a, cap, h1, h2, h3, h4, fun h0 => ?_⟩
  obtain ⟨b, o, e1, e2, e4⟩ := h5 h0
  exact ⟨b, o, e1, e2, h.new (hf ⟨b, o, none⟩ _ cap (by rw [h1, e1])) e2, e4⟩
theorem RB.fz {W0 w : World} {rb : Nat} {ev wv av v7 v8 : Value} {E V : List (List (List Int))} {L e7 e8 : List (List Int)} (h : RB W0 w rb ev wv av v7 v8 E V L e7 e8) : ∀ k, Fz w rb ev wv av v7 v8 k → k ≠ rb ∧ av.ownBlock ≠ some k := fun _ hk => ⟨hk.2.1, hk.2.2.2.2.1⟩
/-- how many levels lie there -/
def cntE (w : World) (rb : Nat) : Nat := match w.cell? ⟨rb, 0, none⟩ with
  | some (.slice _ n _) => n
  | _ => 0
theorem cntE_of {w : World} {rb n c : Nat} {a : Option Addr} (h : w.cell? ⟨rb, 0, none⟩ = some (.slice a n c)) : cntE w rb = n := by unfold cntE; rw [h]
theorem RB.cells {W0 w : World} {rb : Nat} {ev wv av v7 v8 : Value} {E V : List (List (List Int))} {L e7 e8 : List (List Int)} (h : RB W0 w rb ev wv av v7 v8 E V L e7 e8) : w.cell? ⟨rb, 0, none⟩ = some ev ∧ w.cell? ⟨rb, 1, none⟩ = some wv ∧ w.cell? ⟨rb, 2, none⟩ = some av := by
  have := h.blk
  exact ⟨by rw [cell_of_row _ _ _ _ _ _ this]; rfl, by rw [cell_of_row _ _ _ _ _ _ this]; rfl, by rw [cell_of_row _ _ _ _ _ _ this]; rfl⟩
def BallsPost (D : Nat) (gs : List (List Nat)) (n : Nat) (w : World) (e : Ending) (w' : World) : Prop :=
  ∃ W0 rb ev wv av, e = .returned (.pointer (some ⟨rb, 0, none⟩)) ∧ Below w.heap.size w W0 ∧
      BP W0 w' rb ev wv av (.slice none 0 0) (.slice none 0 0) (lvE (mlets gs) (Ma.oneN D) n) (lvV (mlets gs) (Ma.oneN D) n) ((wIter (mlets gs) (Ma.oneN D) n).1, [])
theorem mlets_at {gs : List (List Nat)} {j : Nat} {y : List Nat × Int} (h : (mlets gs)[j]? = some y) : ∃ a : Nat, (j = 2 * a ∧ y.2 = (a : Int) + 1) ∨ (j = 2 * a + 1 ∧ y.2 = -((a : Int) + 1)) := by
  have hj := (List.getElem?_eq_some_iff.1 h).1
  rw [len_mlets] at hj
  unfold mlets at h
  rw [List.getElem?_zip_eq_some] at h
  have h := h.2
  obtain ⟨a, ha⟩ : ∃ a, a = j / 2 := ⟨_, rfl⟩
  obtain ⟨l1, l2⟩ := get_lets gs.length a (by omega)
  rcases (by omega : j = 2 * a ∨ j = 2 * a + 1) with rfl | rfl
  · rw [l1] at h; simp at h; exact ⟨a, .inl ⟨rfl, h.symm⟩⟩
  · rw [l2] at h; simp at h; exact ⟨a, .inr ⟨rfl, by omega⟩⟩
theorem carry5 {w w' : World} {p1 p2 p3 p4 p5 : Addr} {v1 v2 v3 v4 v5 : Value} (hb : Below w.heap.size w w') (h : w.cell? p1 = some v1 ∧ w.cell? p2 = some v2 ∧ w.cell? p3 = some v3 ∧ w.cell? p4 = some v4 ∧ w.cell? p5 = some v5) :
    w'.cell? p1 = some v1 ∧ w'.cell? p2 = some v2 ∧ w'.cell? p3 = some v3 ∧ w'.cell? p4 = some v4 ∧ w'.cell? p5 = some v5 := by
  have one : ∀ {p : Addr} {v : Value}, w.cell? p = some v → w'.cell? p = some v := fun h => (hb.cell (World.block_lt_of_cell? w _ h)).trans h
  obtain ⟨h1, h2, h3, h4, h5⟩ := h
  exact ⟨one h1, one h2, one h3, one h4, one h5⟩
theorem slWord : Rg.SlT Try.prog 40 3 (.int .i64 0) 8 := ⟨Try.underlying40, infoInt, rfl, by decide⟩
theorem infoWord : (Try.prog.info? 40).map (fun i => (i.zero, i.size, i.bytes)) = some (some (.slice none 0 0), 1, 24) := by kernel_rfl
theorem slWords : Rg.SlT Try.prog 79 40 (.slice none 0 0) 24 := ⟨Try.underlying79, infoWord, rfl, by decide⟩
theorem insert_val (rb : Nat) (ev wv av xv : Value) (us : List Value) (L : List (List Int)) (x : List Int) (F : Nat → Prop) (W0 w : World) (hW : Below W0.heap.size W0 w) (hrb : W0.heap.size ≤ rb)
    (hb : w.heap[rb]? = some (.cells #[ev, wv, av] 69 (0, 0))) (hr : w.ownsRow W0.heap.size 39 1 av L.length us) (he : Rg.FElts F w us L) (hx : Rg.FI F w xv x)
    (hF : ∀ k, F k → k ≠ rb ∧ av.ownBlock ≠ some k) (hs : Asc L) (hL : L.length < 1000000) (b : Bool) (hb' : decide (x ∉ L) = b) :
    Calls Try.prog 55 #[.pointer (some ⟨rb, 0, none⟩), xv] w fun e w' => e = .returned (.bool b) ∧ InsPost F rb ev wv av x L W0 w w' := by
  subst hb'
  exact insert_any rb ev wv av xv us L x F W0 w hW hrb hb hr he hx hF hs hL
theorem six {w W6 : World} {o0 o1 o2 o3 o4 o5 : Obj} (h : ((((((w.alloc o0).alloc o1).alloc o2).alloc o3).alloc o4).alloc o5) = W6) :
    W6.heap[w.heap.size]? = some o0 ∧ W6.heap[w.heap.size + 1]? = some o1 ∧ W6.heap[w.heap.size + 3]? = some o3 ∧ W6.heap[w.heap.size + 4]? = some o4 ∧ W6.heap[w.heap.size + 5]? = some o5 := by
  subst h
  have e : ∀ (w : World) (o : Obj), (w.alloc o).heap = w.heap.push o := fun _ _ => rfl
  simp only [e, Array.getElem?_push, Array.size_push]
  refine ⟨?_, ?_, ?_, ?_, ?_⟩
  all_goals
    repeat rw [if_neg (by omega)]
    rw [if_pos trivial]
theorem fi_row {w0 w : World} {e : TypeId} {v : Value} {n : Nat} {l : List Int} {F : Nat → Prop} (h : w.ownsRow w0.heap.size e 1 v n (l.map (Value.int .i64))) (hn : n ≤ 1000000000) (hF : ∀ k, w0.heap.size ≤ k → k < w.heap.size → F k) : Rg.FI F w v l :=
  Rg.FVals.of (Rg.Vals.of_row h hn) (fun b hb => hF b (h.lt b hb).1 (h.lt b hb).2)
theorem own_lit (w : World) (e : TypeId) : (w.alloc (.cells #[] e)).ownsRow w.heap.size e 1 (.slice (some ⟨w.heap.size, 0, none⟩) 0 0) 0 [] := by
  refine ⟨rfl, .inr ⟨w.heap.size, 0, #[], rfl, Nat.le_refl _, ?_, Nat.le_refl _, by simp, by simp, rfl⟩⟩
  show (w.heap.push _)[w.heap.size]? = _
  simp
end Go.Proofs.Ytjifdmfoijoekaa

