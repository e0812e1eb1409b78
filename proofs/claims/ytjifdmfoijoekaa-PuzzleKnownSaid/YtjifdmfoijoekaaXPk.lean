/- Lemmas and contracts on the way to the statement; no condition of their own beyond those written. -/
import Derived.Test.YtjifdmfoijoekaaXPiPj
import Derived.Test.YtjifdmfoijoekaaXKm
import Derived.StillTailTactics
set_option linter.unusedVariables false
namespace Go.Proofs.Ytjifdmfoijoekaa
open Go.RowKit
open Go.Proofs
attribute [local irreducible] Go.Calls

/-- a permutation as bytes -/
def kb (p : List Nat) : List UInt8 := (List.range 64).map fun i => UInt8.ofNat (p.getD i 0)
theorem len_kb (p : List Nat) : (kb p).length = 64 := by simp [kb]
/-- at most 64 points, each a byte -/
def GK (d : Nat) (p : List Nat) : Prop := p.length = d ∧ d ≤ 64 ∧ ∀ x ∈ p, x < 256
theorem GK.getD {d : Nat} {p : List Nat} (h : GK d p) (i : Nat) : p.getD i 0 < 256 := by
  by_cases hi : i < p.length
  · rw [Ma.getD_lt hi]; exact h.2.2 _ (List.getElem_mem hi)
  · rw [List.getD_eq_getElem?_getD, List.getElem?_eq_none (by omega)]; decide
theorem keyC_kb {d : Nat} {p : List Nat} (h : GK d p) : Value.agg (keyC p) = Km.keyV (kb p) := by
  unfold Km.keyV
  congr 1
  apply Array.ext_getElem?
  intro i
  by_cases hi : i < 64
  · rw [get_keyC p i hi]
    simp [kb, hi, keyF, Go.Extern.Stop.cell]
    have := h.getD i
    rw [List.getD_eq_getElem?_getD] at this
    omega
  · rw [Array.getElem?_eq_none (by rw [size_keyC]; omega), Array.getElem?_eq_none (by simp [kb]; omega)]
theorem kb_inj {d : Nat} {p q : List Nat} (hp : GK d p) (hq : GK d q) (h : kb p = kb q) : p = q := by
  apply List.ext_getElem (hp.1.trans hq.1.symm)
  intro i h1 h2
  have hi : i < 64 := by have := hp.1; have := hp.2.1; omega
  have e := congrArg (fun l => l[i]?) h
  simp only [kb, List.getElem?_map, List.getElem?_range hi, Option.map_some, Option.some.injEq] at e
  have e2 := congrArg UInt8.toNat e
  have g1 := hp.getD i; have g2 := hq.getD i
  simp only [UInt8.toNat_ofNat', Nat.mod_eq_of_lt g1, Nat.mod_eq_of_lt g2] at e2
  rwa [Ma.getD_lt h1, Ma.getD_lt h2] at e2
theorem kb_beq {d : Nat} {p q : List Nat} (hp : GK d p) (hq : GK d q) : (kb p == kb q) = (p == q) := by
  rw [Bool.eq_iff_iff, beq_iff_eq, beq_iff_eq]
  exact ⟨kb_inj hp hq, fun h => by rw [h]⟩

theorem kt : Km.KT Try.prog 59 82 5 3 64 (.int .i64 0) :=
  ⟨Try.underlying59, Try.underlying82, Try.underlying5, fun w => by kernel_rfl, fun w => by kernel_rfl⟩

/-- the entries of a ball's map -/
def ents (m : List (List Nat × Nat)) : List (List UInt8 × Value) := m.map fun x => (kb x.1, .int .i64 (x.2 : Int))
def nd (m : List (List Nat × Nat)) (p : List Nat) : Option Nat := (m.find? (fun x => p == x.1)).map (·.2)
def GM (d : Nat) (m : List (List Nat × Nat)) : Prop := ∀ x ∈ m, GK d x.1
theorem look_ents {d : Nat} {p : List Nat} (hp : GK d p) : ∀ {m : List (List Nat × Nat)}, GM d m → Km.look (ents m) (kb p) = (nd m p).map fun (n : Nat) => Value.int .i64 (n : Int)
  | [], _ => rfl
  | x :: m, h => by
    have ih := look_ents hp (m := m) (fun y hy => h y (by simp [hy]))
    have hx := h x (by simp)
    unfold Km.look nd ents at *
    rw [List.map_cons, List.find?_cons, List.find?_cons]
    simp only [kb_beq hp hx]
    cases hb : (p == x.1)
    · simpa [hb] using ih
    · rfl
theorem len_ents (m : List (List Nat × Nat)) : ∀ x ∈ ents m, x.1.length = 64 := fun x hx => by
  obtain ⟨y, _, rfl⟩ := List.mem_map.1 hx
  exact len_kb _

/-- keys in a slice -/
def KeysAt (w : World) (v : Value) (l : List (List Nat)) : Prop :=
  ∃ a cap, v = .slice a l.length cap ∧ l.length ≤ cap ∧ l.length ≤ 1000000 ∧ (0 < l.length → ∃ b, a = some ⟨b, 0, none⟩ ∧ b < w.heap.size ∧ ∀ i (h : i < l.length), w.rangeAt b (i * 64) (keyC l[i]).toList)

theorem insertNew (p : List Nat) (h2 : GK p.length p) (w' : World) (r : Nat) (hr : w'.heap[r]? = some (.map #[] 0)) :
    (Instr.mapUpdate 59 (.map (some r)) (.agg (keyC p)) (.int .i64 0)).run Try.prog w' = .ok () (ChangeMaps.setBlock w' r (.map #[⟨.agg (keyC p), .int .i64 0, 0⟩] 1)) := by
  rw [keyC_kb h2]
  have hk := Km.check_items kt false (kb p) (len_kb p) w'
  have hf : (Instr.findKey 82 (Km.keyV (kb p)) []).run Try.prog w' = .ok none w' := by
    unfold Instr.findKey
    simp [run_underlying kt.hk, Instr.findNow]
  simp [Instr.mapUpdate, run_underlying kt.ht, MapKept.run_getObj_map hr, hk, hf, MapKept.run_setObj_map _ hr, Result.andThen, ChangeMaps.setBlock]
theorem range_set {w : World} {b o r : Nat} {cs : List Value} {ob : Obj} (h : w.rangeAt b o cs) (hne : b ≠ r) : (ChangeMaps.setBlock w r ob).rangeAt b o cs := fun j v hv => by
  have := h j v hv
  rw [World.cell?_of_block (w := w) (by unfold ChangeMaps.setBlock; simp; rw [Array.getElem?_setIfInBounds_ne]; exact fun e => hne e.symm)]
  exact this

/-- a new ball's parts -/
def NewBall (w Wx : World) (p : List Nat) (r s : Nat) : Prop := Km.KMap Wx r (ents [(p, 0)]) ∧ KeysAt Wx (.slice (some ⟨s, 0, none⟩) 1 1) [p] ∧ w.heap.size ≤ r ∧ w.heap.size ≤ s ∧ Below w.heap.size w Wx
theorem keysAt_one {W : World} {p : List Nat} {s : Nat} (h : W.heap[s]? = some (.cells (keyC p) 82 (0, 0))) : KeysAt W (.slice (some ⟨s, 0, none⟩) 1 1) [p] := by
  refine ⟨_, 1, rfl, by simp, by simp, fun _ => ⟨s, rfl, (Array.getElem?_eq_some_iff.1 h).1, fun i hi => ?_⟩⟩
  obtain rfl : i = 0 := by simpa using hi
  intro j v hv
  rw [cell_of_row _ _ _ _ _ _ h]
  simpa using hv
theorem kmap_one {d : Nat} {W : World} {p : List Nat} {r : Nat} (hp : GK d p) (h : W.heap[r]? = some (.map #[⟨.agg (keyC p), .int .i64 0, 0⟩] 1)) : Km.KMap W r (ents [(p, 0)]) :=
  ⟨_, _, h, by simp [ents, keyC_kb hp]⟩
theorem setBlock_below {w W : World} {r : Nat} {o : Obj} (h : Below w.heap.size w W) (hr : w.heap.size ≤ r) : Below w.heap.size w (ChangeMaps.setBlock W r o) :=
  h.trans ⟨rfl, rfl, rfl, by simp [ChangeMaps.setBlock], fun k hk => by unfold ChangeMaps.setBlock; simp only; rw [Array.getElem?_setIfInBounds_ne (by omega)]⟩
theorem setBlock_other {W : World} {r k : Nat} {o : Obj} (h : k ≠ r) : (ChangeMaps.setBlock W r o).heap[k]? = W.heap[k]? := by
  unfold ChangeMaps.setBlock; simp only; rw [Array.getElem?_setIfInBounds_ne (fun e => h e.symm)]
theorem setBlock_same {W : World} {r : Nat} {o : Obj} (h : r < W.heap.size) : (ChangeMaps.setBlock W r o).heap[r]? = some o := by
  unfold ChangeMaps.setBlock; simp [h]
theorem setBlock_size {W : World} {r : Nat} {o : Obj} : (ChangeMaps.setBlock W r o).heap.size = W.heap.size := by
  unfold ChangeMaps.setBlock; simp

/-- a ball in memory: its struct in block bb, its map in block r -/
structure BallAt (w : World) (bb r : Nat) (near : List (List Nat × Nat)) (shell : List (List Nat)) : Prop where
  st : ∃ sv, w.heap[bb]? = some (.cells #[.map (some r), sv] 62 (0, 0)) ∧ KeysAt w sv shell
  mp : Km.KMap w r (ents near)
theorem around_end {w Wx : World} {p : List Nat} {r s : Nat} (h : NewBall w Wx p r s) :
    ∃ bb r', Ending.returned (.pointer (some ⟨Wx.heap.size, 0, none⟩)) = Ending.returned (.pointer (some ⟨bb, 0, none⟩)) ∧ BallAt (Wx.alloc (.cells #[.map (some r), .slice (some ⟨s, 0, none⟩) 1 1] 62)) bb r' [(p, 0)] [p] ∧
      w.heap.size ≤ bb ∧ w.heap.size ≤ r' ∧ bb ≠ r' ∧ Below w.heap.size w (Wx.alloc (.cells #[.map (some r), .slice (some ⟨s, 0, none⟩) 1 1] 62)) := by
  obtain ⟨h1, h2, h3, h4, h5⟩ := h
  refine ⟨_, r, rfl, ⟨⟨_, heap_alloc_last Wx _, ?_⟩, h1.of_block (heap_alloc_old Wx _ h1.lt)⟩, h5.size, h3, ?_, h5.alloc h5.size _⟩
  · obtain ⟨a, cap, q1, q2, q3, q4⟩ := h2
    refine ⟨a, cap, q1, q2, q3, fun h0 => ?_⟩
    obtain ⟨b, e1, e2, e3⟩ := q4 h0
    exact ⟨b, e1, by simp; omega, fun i hi => World.rangeAt_alloc (e3 i hi) _⟩
  · have := h1.lt; omega

set_option maxRecDepth 100000 in
set_option maxHeartbeats 400000 in
theorem around_any (v : Value) (p : List Nat) (w : World) (h : Rg.NP w v p) (h2 : GK p.length p) :
    Calls Try.prog 35 #[v] w fun e w' => ∃ bb r, e = .returned (.pointer (some ⟨bb, 0, none⟩)) ∧ BallAt w' bb r [(p, 0)] [p] ∧ w.heap.size ≤ bb ∧ w.heap.size ≤ r ∧ bb ≠ r ∧ Below w.heap.size w w' := by
  have hpk := fun w1 (hb1 : Below w.heap.size w w1) => packed_any v p w1 (h.below hb1) h2.2.1 h2.2.2
  have Hpk := Lib.hid hpk
  obtain ⟨a0, c0, rfl, _⟩ := h.shape
  clear hpk h
  go_enter Try.func35, Try.ntmps35
  go_wp2_with (first | (go_at_call 52; refine (Hpk.out _ (Below.refl _ _)).mono ?_; rintro e w1 ⟨rfl, hb1⟩) | (refine allocKey (by rfl) (by rfl) ?_) | (refine storeKey (by rfl) _ _ (by rfl) p _ (by simp) (by rfl) (by rfl) ?_))
  have hrg := range_new w1 p
  have hbw : Below w.heap.size w (w1.alloc (.cells (keyC p) 82)) := hb1.alloc hb1.size _
  generalize hw2 : w1.alloc (.cells (keyC p) 82) = w2 at *
  have hk1 : w1.heap.size < w2.heap.size := by rw [← hw2]; simp
  clear hw2 
  have hne : w1.heap.size ≠ w2.heap.size := by omega
  have hinfo : (Try.prog.info? 82).map (·.size) = some (keyC p).toList.length := by rw [Array.length_toList, size_keyC]; exact infoKey
  have hlt2 : w1.heap.size < w2.heap.size := hk1
  have key := 82
  -- the map first, then its entry, then the slice
  obtain ⟨W1, hW1⟩ : ∃ W, W = ChangeMaps.setBlock (w2.alloc (.map #[] 0)).drew w2.heap.size (.map #[⟨.agg (keyC p), .int .i64 0, 0⟩] 1) := ⟨_, rfl⟩
  have i1 := insertNew p h2 (w2.alloc (.map #[] 0)).drew w2.heap.size (heap_alloc_last w2 _)
  rw [← hW1] at i1
  have s1 : W1.heap.size = w2.heap.size + 1 := by rw [hW1, setBlock_size]; simp
  have r1 : W1.rangeAt w1.heap.size 0 (keyC p).toList := by rw [hW1]; exact range_set (w := (w2.alloc (.map #[] 0)).drew) (World.rangeAt_alloc hrg _) hne
  have n1 : NewBall w (W1.alloc (.cells (keyC p) 82)) p w2.heap.size W1.heap.size := by
    refine ⟨kmap_one h2 ?_, keysAt_one (heap_alloc_last W1 _), hbw.size, by rw [s1]; have := hbw.size; omega, ?_⟩
    · rw [heap_alloc_old W1 _ (by omega), hW1]; exact setBlock_same (by simp)
    · refine Below.alloc ?_ (by rw [s1]; have := hbw.size; omega) _
      rw [hW1]; exact setBlock_below ((hbw.alloc hbw.size _).drew) hbw.size
  -- the map, the slice, the entry
  obtain ⟨W2, hW2⟩ : ∃ W, W = ChangeMaps.setBlock ((w2.alloc (.map #[] 0)).alloc (.cells (keyC p) 82)).drew w2.heap.size (.map #[⟨.agg (keyC p), .int .i64 0, 0⟩] 1) := ⟨_, rfl⟩
  have i2 := insertNew p h2 ((w2.alloc (.map #[] 0)).alloc (.cells (keyC p) 82)).drew w2.heap.size (heap_alloc2_old w2 _ _)
  rw [← hW2] at i2
  have hsz2 := hbw.size
  have r2 : W2.rangeAt w1.heap.size 0 (keyC p).toList := by rw [hW2]; exact range_set (w := ((w2.alloc (.map #[] 0)).alloc (.cells (keyC p) 82)).drew) (World.rangeAt_alloc (World.rangeAt_alloc hrg _) _) hne
  have n2 : NewBall w W2 p w2.heap.size (w2.heap.size + 1) := by
    refine ⟨kmap_one h2 ?_, keysAt_one ?_, hbw.size, by omega, ?_⟩
    · rw [hW2]; exact setBlock_same (by simp; omega)
    · rw [hW2, setBlock_other (by omega)]; exact heap_alloc2_new w2 _ _
    · rw [hW2]; exact setBlock_below (((hbw.alloc hbw.size _).alloc (by simp; omega) _).drew) hbw.size
  -- the slice, the map, the entry
  obtain ⟨W3, hW3⟩ : ∃ W, W = ChangeMaps.setBlock ((w2.alloc (.cells (keyC p) 82)).alloc (.map #[] 0)).drew (w2.heap.size + 1) (.map #[⟨.agg (keyC p), .int .i64 0, 0⟩] 1) := ⟨_, rfl⟩
  have i3 := insertNew p h2 ((w2.alloc (.cells (keyC p) 82)).alloc (.map #[] 0)).drew (w2.heap.size + 1) (heap_alloc2_new w2 _ _)
  rw [← hW3] at i3
  have r3 : W3.rangeAt w1.heap.size 0 (keyC p).toList := by rw [hW3]; exact range_set (w := ((w2.alloc (.cells (keyC p) 82)).alloc (.map #[] 0)).drew) (World.rangeAt_alloc (World.rangeAt_alloc hrg _) _) (by omega)
  have n3 : NewBall w W3 p (w2.heap.size + 1) w2.heap.size := by
    refine ⟨kmap_one h2 ?_, keysAt_one ?_, by omega, hbw.size, ?_⟩
    · rw [hW3]; exact setBlock_same (by simp)
    · rw [hW3, setBlock_other (by omega)]; exact heap_alloc2_old w2 _ _
    · rw [hW3]; exact setBlock_below (((hbw.alloc hbw.size _).alloc (by simp; omega) _).drew) (by omega)
  have hmk3 : ∀ (a : Act), (execOp a.eval { dst := some 6, op := Op.makeMap 59 none, type := 59, pos := "puzzle.go:124", after := #[], guard := none }).run Try.prog (w2.alloc (.cells (keyC p) 82)).drew = .ok (.value (.map (some (w2.heap.size + 1)))) ((w2.alloc (.cells (keyC p) 82)).alloc (.map #[] 0)).drew := by
    intro a
    have : (w2.alloc (.cells (keyC p) 82)).drew.heap.size = w2.heap.size + 1 := by simp
    rw [← this]; rfl
  have bk2 := buildKeyRun (w2.alloc (.map #[] 0)).drew p
  have bk3 := buildKeyRun w2.drew p
  have e2 : (w2.alloc (.map #[] 0)).drew.heap.size = w2.heap.size + 1 := by simp
  rw [e2] at bk2
  clear hW1 hW2 hW3 key e2
  go_frame
  refine wp_region_held (S := fun w' => w'.rangeAt w1.heap.size 0 (keyC p).toList) (by kernel_rfl) ?_
  refine Rg.takeH (i := 1) (v := .agg (keyC p).toList.toArray) (some 7) rfl rfl (by kernel_rfl) (by kernel_rfl) (by kernel_rfl) (fun _ _ _ h => h) (yieldsIf_load_mid rfl _ _ rfl w1.heap.size 0 rfl (keyC p).toList _ (fun w h => h) Try.underlying82 rfl hinfo) hrg ?_
  go_frame
  refine Rg.takeH (i := 4) (v := .agg (keyC p).toList.toArray) (some 9) rfl rfl (by kernel_rfl) (by kernel_rfl) (by kernel_rfl) (fun _ _ _ h => h) (yieldsIf_load_mid rfl _ _ rfl w1.heap.size 0 rfl (keyC p).toList _ (fun w h => h) Try.underlying82 rfl hinfo) hrg ?_
  go_frame
  refine wpAnyH_all (rs := [0, 5]) (by kernel_rfl) (by simp) ?_
  intro i hi
  rw [List.mem_cons, List.mem_singleton] at hi
  rcases hi with rfl | rfl
  · refine Rg.wpOp_value (v := .map (some w2.heap.size)) (w' := (w2.alloc (.map #[] 0)).drew) (some 6) rfl rfl rfl rfl ⟨World.rangeAt_alloc hrg _, ?_⟩
    go_frame
    refine wpAnyH_all (rs := [2, 5]) (by kernel_rfl) (by simp) ?_
    intro i hi
    rw [List.mem_cons, List.mem_singleton] at hi
    rcases hi with rfl | rfl
    · refine Rg.wpOp_skip (w' := W1) (none) rfl rfl rfl (Rg.exec_insert _ _ _ _ rfl _ _ _ rfl rfl rfl i1) ⟨r1, ?_⟩
      go_frame
      refine Rg.takeH (i := 3) (some 8) rfl rfl (by kernel_rfl) (by kernel_rfl) (by kernel_rfl) (fun _ _ _ h => h) (.inl ⟨rfl, fun w _ => rfl⟩) r1 ?_
      go_frame
      refine wpAnyH_all (rs := [5]) (by kernel_rfl) (by simp) ?_
      intro i hi
      obtain rfl : i = 5 := by simpa using hi
      refine Rg.wpOp_value (v := .slice (some ⟨W1.heap.size, 0, none⟩) 1 1) (w' := W1.alloc (.cells (keyC p) 82)) (some 10) rfl rfl rfl (Rg.exec_buildSlice _ _ _ rfl _ rfl (buildKeyRun W1 p)) ⟨World.rangeAt_alloc r1 _, ?_⟩
      go_frame
      have hRX := World.rangeAt_alloc r1 (.cells (keyC p) 82)
      have hN := n1
      obtain ⟨Wx, hWx⟩ : ∃ W, W = (W1.alloc (.cells (keyC p) 82)) := ⟨_, rfl⟩
      rw [← hWx] at hRX hN ⊢
      have hE := around_end hN
      obtain ⟨Wy, hWy⟩ : ∃ W, W = Wx.alloc (.cells #[.map (some w2.heap.size), .slice (some ⟨W1.heap.size, 0, none⟩) 1 1] 62) := ⟨_, rfl⟩
      have hRY : Wy.rangeAt w1.heap.size 0 (keyC p).toList := by rw [hWy]; exact World.rangeAt_alloc hRX _
      rw [← hWy] at hE
      clear hWx hN
      generalize hbx : Wx.heap.size = bx at hE
      refine wpAnyH_all (rs := [6]) (by kernel_rfl) (by simp) ?_
      intro i hi
      obtain rfl : i = 6 := by simpa using hi
      refine Rg.wpOp_value (v := .agg #[.map (some w2.heap.size), .slice (some ⟨W1.heap.size, 0, none⟩) 1 1]) (w' := Wx) (some 11) rfl rfl rfl (by kernel_rfl) ⟨hRX, ?_⟩
      go_frame
      refine wpAnyH_all (rs := [7]) (by kernel_rfl) (by simp) ?_
      intro i hi
      obtain rfl : i = 7 := by simpa using hi
      refine Rg.wpOp_value (v := .pointer (some ⟨bx, 0, none⟩)) (w' := Wy) (some 12) rfl rfl rfl (by rw [hWy, ← hbx]; exact Rg.exec_box _ _ rfl rfl) ⟨hRY, ?_⟩
      go_frame
      refine wpAnyH_all (rs := [8]) (by kernel_rfl) (by simp) ?_
      intro i hi
      obtain rfl : i = 8 := by simpa using hi
      refine Rg.wpOp_value (v := .pointer (some ⟨bx, 0, none⟩)) (w' := Wy) (some 2) rfl rfl rfl (Rg.exec_assign _ rfl rfl) ⟨hRY, ?_⟩
      go_frame
      refine wpAnyH_done (by kernel_rfl) ?_ _
      clear hRY hWy hbx hRX
      go_wp2
      go_ret
      exact hE
    · refine Rg.wpOp_value (v := .slice (some ⟨w2.heap.size + 1, 0, none⟩) 1 1) (w' := ((w2.alloc (.map #[] 0)).alloc (.cells (keyC p) 82)).drew) (some 10) rfl rfl rfl (Rg.exec_buildSlice _ _ _ rfl _ rfl bk2) ⟨World.rangeAt_alloc (World.rangeAt_alloc hrg _) _, ?_⟩
      go_frame
      refine wpAnyH_all (rs := [2]) (by kernel_rfl) (by simp) ?_
      intro i hi
      obtain rfl : i = 2 := by simpa using hi
      refine Rg.wpOp_skip (w' := W2) (none) rfl rfl rfl (Rg.exec_insert _ _ _ _ rfl _ _ _ rfl rfl rfl i2) ⟨r2, ?_⟩
      go_frame
      refine Rg.takeH (i := 3) (some 8) rfl rfl (by kernel_rfl) (by kernel_rfl) (by kernel_rfl) (fun _ _ _ h => h) (.inl ⟨rfl, fun w _ => rfl⟩) r2 ?_
      go_frame
      have hRX := r2
      have hN := n2
      obtain ⟨Wx, hWx⟩ : ∃ W, W = W2 := ⟨_, rfl⟩
      rw [← hWx] at hRX hN ⊢
      have hE := around_end hN
      obtain ⟨Wy, hWy⟩ : ∃ W, W = Wx.alloc (.cells #[.map (some w2.heap.size), .slice (some ⟨(w2.heap.size + 1), 0, none⟩) 1 1] 62) := ⟨_, rfl⟩
      have hRY : Wy.rangeAt w1.heap.size 0 (keyC p).toList := by rw [hWy]; exact World.rangeAt_alloc hRX _
      rw [← hWy] at hE
      clear hWx hN
      generalize hbx : Wx.heap.size = bx at hE
      refine wpAnyH_all (rs := [6]) (by kernel_rfl) (by simp) ?_
      intro i hi
      obtain rfl : i = 6 := by simpa using hi
      refine Rg.wpOp_value (v := .agg #[.map (some w2.heap.size), .slice (some ⟨(w2.heap.size + 1), 0, none⟩) 1 1]) (w' := Wx) (some 11) rfl rfl rfl (by kernel_rfl) ⟨hRX, ?_⟩
      go_frame
      refine wpAnyH_all (rs := [7]) (by kernel_rfl) (by simp) ?_
      intro i hi
      obtain rfl : i = 7 := by simpa using hi
      refine Rg.wpOp_value (v := .pointer (some ⟨bx, 0, none⟩)) (w' := Wy) (some 12) rfl rfl rfl (by rw [hWy, ← hbx]; exact Rg.exec_box _ _ rfl rfl) ⟨hRY, ?_⟩
      go_frame
      refine wpAnyH_all (rs := [8]) (by kernel_rfl) (by simp) ?_
      intro i hi
      obtain rfl : i = 8 := by simpa using hi
      refine Rg.wpOp_value (v := .pointer (some ⟨bx, 0, none⟩)) (w' := Wy) (some 2) rfl rfl rfl (Rg.exec_assign _ rfl rfl) ⟨hRY, ?_⟩
      go_frame
      refine wpAnyH_done (by kernel_rfl) ?_ _
      clear hRY hWy hbx hRX
      go_wp2
      go_ret
      exact hE
  · refine Rg.wpOp_value (v := .slice (some ⟨w2.heap.size, 0, none⟩) 1 1) (w' := (w2.alloc (.cells (keyC p) 82)).drew) (some 10) rfl rfl rfl (Rg.exec_buildSlice _ _ _ rfl _ rfl bk3) ⟨World.rangeAt_alloc hrg _, ?_⟩
    go_frame
    refine wpAnyH_all (rs := [0]) (by kernel_rfl) (by simp) ?_
    intro i hi
    obtain rfl : i = 0 := by simpa using hi
    refine Rg.wpOp_value (v := .map (some (w2.heap.size + 1))) (w' := ((w2.alloc (.cells (keyC p) 82)).alloc (.map #[] 0)).drew) (some 6) rfl rfl rfl (hmk3 _) ⟨World.rangeAt_alloc (World.rangeAt_alloc hrg _) _, ?_⟩
    go_frame
    refine wpAnyH_all (rs := [2]) (by kernel_rfl) (by simp) ?_
    intro i hi
    obtain rfl : i = 2 := by simpa using hi
    refine Rg.wpOp_skip (w' := W3) (none) rfl rfl rfl (Rg.exec_insert _ _ _ _ rfl _ _ _ rfl rfl rfl i3) ⟨r3, ?_⟩
    go_frame
    refine Rg.takeH (i := 3) (some 8) rfl rfl (by kernel_rfl) (by kernel_rfl) (by kernel_rfl) (fun _ _ _ h => h) (.inl ⟨rfl, fun w _ => rfl⟩) r3 ?_
    go_frame
    have hRX := r3
    have hN := n3
    obtain ⟨Wx, hWx⟩ : ∃ W, W = W3 := ⟨_, rfl⟩
    rw [← hWx] at hRX hN ⊢
    have hE := around_end hN
    obtain ⟨Wy, hWy⟩ : ∃ W, W = Wx.alloc (.cells #[.map (some (w2.heap.size + 1)), .slice (some ⟨w2.heap.size, 0, none⟩) 1 1] 62) := ⟨_, rfl⟩
    have hRY : Wy.rangeAt w1.heap.size 0 (keyC p).toList := by rw [hWy]; exact World.rangeAt_alloc hRX _
    rw [← hWy] at hE
    clear hWx hN
    generalize hbx : Wx.heap.size = bx at hE
    refine wpAnyH_all (rs := [6]) (by kernel_rfl) (by simp) ?_
    intro i hi
    obtain rfl : i = 6 := by simpa using hi
    refine Rg.wpOp_value (v := .agg #[.map (some (w2.heap.size + 1)), .slice (some ⟨w2.heap.size, 0, none⟩) 1 1]) (w' := Wx) (some 11) rfl rfl rfl (by kernel_rfl) ⟨hRX, ?_⟩
    go_frame
    refine wpAnyH_all (rs := [7]) (by kernel_rfl) (by simp) ?_
    intro i hi
    obtain rfl : i = 7 := by simpa using hi
    refine Rg.wpOp_value (v := .pointer (some ⟨bx, 0, none⟩)) (w' := Wy) (some 12) rfl rfl rfl (by rw [hWy, ← hbx]; exact Rg.exec_box _ _ rfl rfl) ⟨hRY, ?_⟩
    go_frame
    refine wpAnyH_all (rs := [8]) (by kernel_rfl) (by simp) ?_
    intro i hi
    obtain rfl : i = 8 := by simpa using hi
    refine Rg.wpOp_value (v := .pointer (some ⟨bx, 0, none⟩)) (w' := Wy) (some 2) rfl rfl rfl (Rg.exec_assign _ rfl rfl) ⟨hRY, ?_⟩
    go_frame
    refine wpAnyH_done (by kernel_rfl) ?_ _
    clear hRY hWy hbx hRX
    go_wp2
    go_ret
    exact hE
end Go.Proofs.Ytjifdmfoijoekaa

