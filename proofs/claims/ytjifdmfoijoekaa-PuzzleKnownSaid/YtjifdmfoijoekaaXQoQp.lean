/- The program's solve: memory, and its first loop. -/
import Derived.Test.YtjifdmfoijoekaaXQbQcQdQeQfQgQhQiQjQkQlQmQn
import Derived.Test.YtjifdmfoijoekaaXRw
import Derived.Deep.LoopGhost
import Derived.Deep.CutBlock
set_option linter.unusedVariables false
namespace Go.Proofs.Ytjifdmfoijoekaa
open Go.RowKit
open Go.Proofs
attribute [local irreducible] Go.Calls Go.wpStill

theorem run_buildI (X : World) (i : Int) : (Instr.buildSlice 40 1 #[(0, .int .i64 i)]).run Try.prog X = .ok (.slice (some ⟨X.heap.size, 0, none⟩) 1 1) (X.alloc (.cells #[.int .i64 i] 3)) := by
  obtain ⟨i0, hi, hz0, hz1, hz2⟩ := info_parts slWord.info
  refine run_buildSlice X 40 3 1 _ _ i0 _ slWord.ty hi hz0 (by rw [hz1]; decide) (by rw [hz1]; decide) ?_
  generalize (fun x => ((Value.int IntKind.i64 0).cells)[x % (Value.int IntKind.i64 0).cells.size]!) = f
  rw [hz1]
  have h1 : Array.range (1 * 1) = #[0] := rfl
  simp [Instr.fill, Value.cells, h1]
theorem run_full {w : World} (b : Addr) (n cap : Nat) (hn : n ≤ cap) : (Instr.sliceAt 40 (.slice (some b) n cap) none (some (.int .i64 (n : Int))) (some (.int .i64 (n : Int)))).run Try.prog w = .ok (.slice (some b) n n) w := by
  simp [Instr.sliceAt, Instr.slice, run_underlying Try.underlying40, Instr.sliceBounds, Instr.sliceBound, asIntOf, hn]
  intro _
  cases b
  simp [Addr.add]
theorem yields_full {ops : Array Oper} {S : World → Prop} {o : Oper} {a : Act} (hg : Region.wanted o (yielded ops a.tmps) = true) (x y z : Operand) (ho : o.op = .slice 40 x none (some y) (some z)) (b : Addr) (n cap : Nat) (hx : a.eval x = .slice (some b) n cap) (hy : a.eval y = .int .i64 (n : Int)) (hz : a.eval z = .int .i64 (n : Int)) (hn : n ≤ cap) :
    YieldsIf Try.prog ops S o (.slice (some b) n n) a := by
  refine .inl ⟨hg, fun w _ => ?_⟩
  have := run_full (w := w) b n cap hn
  unfold execOp
  simp [ho, hx, hy, hz, this, Result.andThen]
/-- one value in a block of its own -/
def ValAt (w : World) (s : Nat) (v : Value) (t : TypeId) : Prop := w.heap[s]? = some (.cells #[v] t (0, 0))
theorem ValAt.cell {w : World} {s : Nat} {v : Value} {t : TypeId} (h : ValAt w s v t) : w.cell? ⟨s, 0, none⟩ = some v := by rw [cell_of_row _ _ _ _ _ _ h]; rfl
theorem ValAt.frozen {w : World} {s : Nat} {v : Value} {t : TypeId} (h : ValAt w s v t) : w.frozen? ⟨s, 0, none⟩ = false := frozen_of_row _ _ _ _ _ h
theorem ValAt.below {w w' : World} {s : Nat} {v : Value} {t : TypeId} (h : ValAt w s v t) (hb : Below w.heap.size w w') : ValAt w' s v t := (hb.block s (Array.getElem?_eq_some_iff.1 h).1).trans h
theorem ValAt.kp {M : Nat → Prop} {w w' : World} {s : Nat} {v : Value} {t : TypeId} (h : ValAt w s v t) (hk : Rg.Kp M w w') (hs : ¬ M s) : ValAt w' s v t := (hk.block s (Array.getElem?_eq_some_iff.1 h).1 hs).trans h
theorem ValAt.lt {w : World} {s : Nat} {v : Value} {t : TypeId} (h : ValAt w s v t) : s < w.heap.size := (Array.getElem?_eq_some_iff.1 h).1
theorem ValAt.new (w : World) (v : Value) (t : TypeId) : ValAt (w.alloc (.cells #[v] t)) w.heap.size v t := by
  unfold ValAt
  show (w.heap.push _)[w.heap.size]? = _
  simp

/-- the variables that the closure captures, and the ball -/
structure SV (mv : List (List Nat)) (mvv : Value) (x : List Nat) (W1 : World) (bb r sm sd sp sr d rad k : Nat) (wr : World) : Prop where
  bl : BallAt wr bb r (bIter mv x k).1 (bIter mv x k).2
  vm : ValAt wr sm mvv 22
  vd : ValAt wr sd (.int .i64 (d : Int)) 3
  vp : ValAt wr sp (.pointer (some ⟨bb, 0, none⟩)) 56
  vr : ValAt wr sr (.int .i64 (rad : Int)) 3
  be : Below W1.heap.size W1 wr
def Dis (W1 : World) (bb r sm sd sp sr : Nat) : Prop := sm < bb ∧ sm < r ∧ bb < sd ∧ r < sd ∧ bb < sp ∧ r < sp ∧ bb < sr ∧ r < sr ∧ sd ≠ sm ∧ sd ≠ sp ∧ sd ≠ sr ∧ bb ≠ r ∧ W1.heap.size ≤ sm
theorem SV.quiet {mv : List (List Nat)} {mvv : Value} {x : List Nat} {W1 : World} {bb r sm sd sp sr d rad k : Nat} {wr w' : World} (h : SV mv mvv x W1 bb r sm sd sp sr d rad k wr) (hb : Below wr.heap.size wr w') : SV mv mvv x W1 bb r sm sd sp sr d rad k w' :=
  ⟨h.bl.below hb, h.vm.below hb, h.vd.below hb, h.vp.below hb, h.vr.below hb, Rg.acc h.be hb⟩
theorem SV.grow {mv : List (List Nat)} {mvv : Value} {x : List Nat} {W1 : World} {bb r sm sd sp sr d rad k : Nat} {wr w' : World} (h : SV mv mvv x W1 bb r sm sd sp sr d rad k wr) (hd : Dis W1 bb r sm sd sp sr) (hB : BallAt w' bb r (growP mv (bIter mv x k).1 (bIter mv x k).2).1 (growP mv (bIter mv x k).1 (bIter mv x k).2).2) (hf : Fr wr w' bb r) :
    SV mv mvv x W1 bb r sm sd sp sr d rad (k + 1) w' := by
  obtain ⟨q1, q2, q3, q4, q5, q6, q7, q8, q9, q10, q11, q12, q13⟩ := hd
  have hk := hf.kp
  exact ⟨hB, h.vm.kp hk (by omega), h.vd.kp hk (by omega), h.vp.kp hk (by omega), h.vr.kp hk (by omega), Rg.Kp.below h.be hk (by rintro k (rfl | rfl) <;> omega)⟩
theorem near_empty {gs : List (List Nat)} {x : List Nat} {k : Nat} (he : (bIter (moves gs) x k).2 = []) (rad : Nat) (hk : k ≤ rad) : ∀ y j, nd (bIter (moves gs) x k).1 y = some j ↔ j ≤ rad ∧ DI (mlets gs) x y j := by
  intro y j
  rw [bI_near]
  constructor
  · rintro ⟨h1, h2⟩; exact ⟨by omega, h2⟩
  · rintro ⟨h1, h2⟩
    refine ⟨?_, h2⟩
    rcases Nat.lt_or_ge k j with h3 | h3
    · exfalso
      have h4 : Rc (mlets gs) x (k + (j - k)) y := by rw [show k + (j - k) = j from by omega]; exact h2.1
      obtain ⟨z, h5, h6⟩ := Rc_split h4
      have h7 : DI (mlets gs) x z k := ⟨h5, fun i hi hr => h2.2 (i + (j - k)) (by omega) (Rc_add hr h6)⟩
      have := (bI_shell x z k).2 h7
      rw [he] at this; cases this
    · exact h3
theorem near_label {gs : List (List Nat)} {x z : List Nat} {k : Nat} (h : z ∈ (bIter (moves gs) x k).2) : nd (bIter (moves gs) x k).1 z = some k := (bI_near x z k k).2 ⟨Nat.le_refl _, (bI_shell x z k).1 h⟩
def KeyAt (w : World) (s : Nat) (k : List Nat) : Prop := w.heap[s]? = some (.cells (keyC k) 82 (0, 0))
theorem KeyAt.range {w : World} {s : Nat} {k : List Nat} (h : KeyAt w s k) : w.rangeAt s 0 (keyC k).toList := fun j v hv => by
  rw [cell_of_row _ _ _ _ _ _ h]; simpa using hv
/-- the word so far, in a block of its own -/
def WordAt (B sk : Nat) (w : World) (v : Value) (l : List Int) : Prop :=
  ∃ b o cap, v = .slice (some ⟨b, o, none⟩) l.length cap ∧ l.length ≤ cap ∧ cap ≤ maxLen ∧ B ≤ b ∧ b ≠ sk ∧ b < w.heap.size ∧ ∀ i (h : i < l.length), w.cell? ⟨b, o + i, none⟩ = some (.int .i64 l[i])
theorem storeKeyRun {X : World} {s : Nat} {k k2 : List Nat} (h : KeyAt X s k) : ∃ X', (storeVar 82 ⟨s, 0, none⟩ (.agg (keyC k2))).run Try.prog X = .ok () X' ∧ KeyAt X' s k2 ∧ Rg.Kp (fun b => b = s) X X' := by
  have hr := run_storeVar_row (P := Try.prog) X s 82 82 (keyC k) (keyC k2) h (by rw [size_keyC]; exact infoKey) (by rw [size_keyC, size_keyC]) (one_keyC k2)
  exact ⟨_, hr, setRow_heap X s _ _ _ _ h, ⟨rfl, rfl, rfl, by simp [World.setRow], fun b _ hb => setRow_other X s b _ hb⟩⟩
structure SL (gs : List (List Nat)) (D : Nat) (x : List Nat) (U : List Lt) (w8 : World) (sd sk m : Nat) (vw : Value) (wr : World) : Prop where
  ex : ∃ u v, U = u ++ v ∧ DI (mlets gs) (vl (Ma.oneN D) u) x m ∧ Fst (mlets gs) (vl (Ma.oneN D) u) m x = some v ∧ (∀ y ∈ u, y ∈ mlets gs) ∧ u.length ≤ 10 - m ∧ WordAt w8.heap.size sk wr vw (ltrs u) ∧ KeyAt wr sk (vl (Ma.oneN D) u)
  vd : ValAt wr sd (.int .i64 (m : Int)) 3
  kp : Rg.Kp (fun k => k = sd) w8 wr
  le : m ≤ 10
theorem WordAt.of_row {w13 w15 : World} {base B sk sd n c : Nat} {a : Option Addr} {l : List Int} (ro : w13.ownsRow base 3 1 (.slice a (n + 1) c) (n + 1) (l.map (Value.int .i64))) (hB : B ≤ base) (h1 : sk < base) (h2 : sd < base) (hk : Rg.Kp (fun k => k = sk ∨ k = sd) w13 w15) : WordAt B sk w15 (.slice a (n + 1) c) l := by
  have hh := ro
  obtain ⟨e1, e2⟩ := ro
  have hl : l.length = n + 1 := by simpa using e1
  rcases e2 with ⟨e2, e3⟩ | ⟨g, cap, cur, e2, hg, hc, h3, h4, h5, h6⟩
  · omega
  · simp only [Value.slice.injEq] at e2
    obtain ⟨rfl, _, rfl⟩ := e2
    refine ⟨g, 0, c, by rw [hl], by omega, h4, by omega, by omega, Nat.lt_of_lt_of_le (Array.getElem?_eq_some_iff.1 hc).1 hk.size, fun i hi => ?_⟩
    have hb := hk.block g (Array.getElem?_eq_some_iff.1 hc).1 (by omega)
    have hcell := hh.cells (g := g) rfl i (.int .i64 l[i]) (by simp [hi])
    have : (⟨g, 0, none⟩ : Addr).add i = ⟨g, 0 + i, none⟩ := by
      unfold Addr.add; split
      · rename_i h; subst h; rfl
      · rfl
    rw [this] at hcell
    exact (World.cell?_of_block (w := w13) (a := ⟨g, 0 + i, none⟩) hb).trans hcell
theorem SL.next {gs : List (List Nat)} {D : Nat} {x : List Nat} {U u v' : List Lt} {y : Lt} {w8 wr w13 w14 : World} {sd sk m base c : Nat} {a : Option Addr} (hU : U = u ++ y :: v') (hum : ∀ z ∈ u, z ∈ mlets gs) (hy : y ∈ mlets gs) (hul : u.length ≤ 10 - (m + 1)) (hm : m + 1 ≤ 10)
    (hdi : DI (mlets gs) (vl (Ma.oneN D) (u ++ [y])) x m) (hf : Fst (mlets gs) (vl (Ma.oneN D) (u ++ [y])) m x = some v') (hkp : Rg.Kp (fun k => k = sd) w8 wr) (hvd : ValAt w14 sd (.int .i64 ((m + 1 : Nat) : Int)) 3) (hb : Below wr.heap.size wr w13) (hk14 : Rg.Kp (fun b => b = sk) w13 w14)
    (ro : w13.ownsRow base 3 1 (.slice a ((ltrs u).length + 1) c) ((ltrs u).length + 1) ((ltrs (u ++ [y])).map (Value.int .i64))) (hbase : wr.heap.size ≤ base) (hsk : sk < wr.heap.size) (hsk8 : w8.heap.size ≤ sk) (hsd : sd < w8.heap.size) (hke : KeyAt w14 sk (vl (Ma.oneN D) (u ++ [y]))) :
    SL gs D x U w8 sd sk m (.slice a ((ltrs u).length + 1) c) (w14.setCell ⟨sd, 0, none⟩ (.int .i64 (m : Int))) := by
  have ks : Rg.Kp (fun k => k = sd) w14 (w14.setCell ⟨sd, 0, none⟩ (.int .i64 (m : Int))) := Rg.Kp.of_setCell rfl
  refine ⟨⟨u ++ [y], v', by rw [hU]; simp, hdi, hf, fun z hz => ?_, by simp; omega, WordAt.of_row (sk := sk) (sd := sd) ro (by have := hkp.size; omega) (by omega) (by omega) ((hk14.weak (M' := fun k => k = sk ∨ k = sd) (fun k h => .inl h)).trans ks (fun k _ h => .inr h)), ?_⟩, ?_, ?_, by omega⟩
  · rcases List.mem_append.1 hz with hz | hz
    · exact hum z hz
    · obtain rfl : z = y := by simpa using hz
      exact hy
  · exact (ks.block sk (Array.getElem?_eq_some_iff.1 hke).1 (by omega)).trans hke
  · unfold ValAt
    rw [heap_setCell_same _ sd 0 _ _ _ hvd]; rfl
  · have k1 : Rg.Kp (fun k => k = sd) w8 w13 := hkp.trans (M' := fun _ => False) (Rg.Kp.of_below hb) (fun _ _ h => h.elim)
    have k2 : Rg.Kp (fun k => k = sd) w8 w14 := k1.trans hk14 (fun k hk e => by omega)
    exact k2.trans ks (fun k _ e => e)
theorem SV.kpd {mv : List (List Nat)} {mvv : Value} {x : List Nat} {W1 : World} {bb r sm sd sp sr d rad k m : Nat} {w8 wr : World} (h : SV mv mvv x W1 bb r sm sd sp sr d rad k w8) (hd : Dis W1 bb r sm sd sp sr) (hk : Rg.Kp (fun k => k = sd) w8 wr) (hv : ValAt wr sd (.int .i64 (m : Int)) 3) : SV mv mvv x W1 bb r sm sd sp sr m rad k wr := by
  obtain ⟨q1, q2, q3, q4, q5, q6, q7, q8, q9, q10, q11, q12, q13⟩ := hd
  refine ⟨h.bl.kp hk (by omega) (by omega) (fun b y hb hc => ?_), h.vm.kp hk (by omega), hv, h.vp.kp hk (by omega), h.vr.kp hk (by omega), Rg.Kp.below h.be hk (by rintro k rfl; omega)⟩
  subst hb
  rw [h.vd.cell] at hc
  simp at hc
theorem SV.caps {mv : List (List Nat)} {mvv : Value} {x : List Nat} {W1 : World} {bb r sm sd sp sr rad k m sk : Nat} {wr : World} {k' : List Nat} (h : SV mv mvv x W1 bb r sm sd sp sr m rad k wr) (hk : KeyAt wr sk k') : CapsAt sp sk sd sr sm bb k' m rad mvv wr :=
  ⟨h.vp.cell, hk.range, h.vd.cell, h.vr.cell, h.vm.cell⟩
set_option maxRecDepth 100000 in
set_option maxHeartbeats 1000000 in
theorem solve_any (gv xv : Value) (D : Nat) (gs : List (List Nat)) (x : List Nat) (n : Nat) (w : World) (h : Rg.NRows w gv gs) (hx : Rg.NP w xv x) (hg : GG D gs) (hxg : Gd D x) (h1 : 1 ≤ D) (h2 : D ≤ 64) (hl : gs.length ≤ 6) (hn : n ≤ 10) :
    Calls Try.prog 44 #[.agg #[.int .i64 D, gv], xv, .int .i64 n] w (SolPost (solP gs D x n) w) := by
  have hv := h
  obtain ⟨ad, cap, rfl, hc, _, _, _⟩ := h.shape
  have hba := Lib.hid (show Below w.heap.size w (w.alloc (.cells #[.int .i64 D, .slice ad gs.length cap] 24)) from (Below.refl _ _).alloc (Nat.le_refl _) _)
  have Hv := Lib.hid hv
  have Hx := Lib.hid hx
  have hcl : (w.alloc (.cells #[.int .i64 D, .slice ad gs.length cap] 24)).heap.size = w.heap.size + 1 := by simp
  have hg0 : (w.alloc (.cells #[.int .i64 D, .slice ad gs.length cap] 24)).cell? ⟨w.heap.size, 0, none⟩ = some (.int .i64 D) := by rw [Rg.cellNew]; rfl
  have hg1 : (w.alloc (.cells #[.int .i64 D, .slice ad gs.length cap] 24)).cell? ⟨w.heap.size, 1, none⟩ = some (.slice ad gs.length cap) := by rw [Rg.cellNew]; rfl
  have Hg0 := Lib.hid hg0
  have Hg1 := Lib.hid hg1
  have Hcl := Lib.hid hcl
  have hml : (moves gs).length ≤ 12 := by rw [len_moves]; omega
  have hmvg := moves_Gd hg
  clear h hv hx hcl hg0 hg1
  go_enter Try.func44, Try.ntmps44
  go_upto_region 2 with (go_at_call 33; refine (letters_any _ D gs _ (Hv.out.below hba.out) hg h1 h2 (by omega) D).mono ?_; rintro e w1 ⟨lv, mvv, rfl, hlv, hmv, hb1⟩; have hc0 := (hb1.cell (p := ⟨w.heap.size, 0, none⟩) (by rw [Hcl.out]; exact Nat.lt_succ_self _)).trans Hg0.out; have hc1 := (hb1.cell (p := ⟨w.heap.size, 1, none⟩) (by rw [Hcl.out]; exact Nat.lt_succ_self _)).trans Hg1.out; have hlt1 := Nat.lt_of_lt_of_le (by rw [Hcl.out]; exact Nat.lt_succ_self _ : w.heap.size < (w.alloc (.cells #[.int .i64 D, .slice ad gs.length cap] 24)).heap.size) hb1.size; have Hb1 := Lib.hid (Rg.acc hba.out hb1); have Hlv := Lib.hid hlv; have Hmv := Lib.hid hmv; obtain ⟨ma, mc, rfl, _, _, _, hmvr⟩ := hmv.shape; have Hmvr := Lib.hid hmvr; obtain ⟨la, lc, rfl, _, _, _, hlvr⟩ := hlv.shape; have Hlvr := Lib.hid hlvr; clear hlv hmv hb1 hmvr hlvr)
  generalize hw2 : World.alloc w1 _ = w2
  obtain ⟨sm, hsm⟩ : ∃ sm, sm = w1.heap.size := ⟨_, rfl⟩
  have hvm : ValAt w2 sm (.slice ma (moves gs).length mc) 22 := by rw [← hw2, hsm]; exact ValAt.new _ _ _
  have hb2 : Below w1.heap.size w1 w2 := by rw [← hw2]; exact (Below.refl _ _).alloc (Nat.le_refl _) _
  have hlt2 : sm < w2.heap.size := hvm.lt
  have hd0 := (hb2.cell (p := ⟨w.heap.size, 0, none⟩) hlt1).trans hc0
  have hd1 := (hb2.cell (p := ⟨w.heap.size, 1, none⟩) hlt1).trans hc1
  have hcm := hvm.cell
  have Hvm := Lib.hid hvm
  have Hb2 := Lib.hid hb2
  have Hsm := Lib.hid hsm
  have Hc0 := Lib.hid hc0
  rw [← hsm]
  have hdist := distance_any (.slice ad gs.length cap) xv _ (moves gs) x D n w2 ⟨_, _, _, rfl⟩ ((Hx.out.below Hb1.out).below hb2) (Hmv.out.below hb2) hxg hmvg hml h1 h2 hn
  clear hw2 hvm hb2 hc0 hc1 hsm
  cases hD : distP (moves gs) x D n with
  | none =>
    have hno := distP_none hg hxg hD
    have HS := Lib.hid (solP_none hno)
    unfold DistPost at hdist
    rw [hD] at hdist
    have Hdist := Lib.hid hdist
    clear hdist hD hno
    go_wp2_with (go_at_call 63; refine Hdist.out.mono ?_; rintro e w3 ⟨rfl, hb3⟩)
    go_ret2
    rw [HS.out]
    exact ⟨_, rfl, Rg.Ints.nil _ _ _ (by unfold maxLen; omega), (Rg.acc (Rg.acc Hb1.out Hb2.out) hb3 |>.alloc (by have := (Rg.acc (Rg.acc Hb1.out Hb2.out) hb3).size; omega) _).alloc (by have := (Rg.acc (Rg.acc Hb1.out Hb2.out) hb3).size; simp; omega) _⟩
  | some d =>
    obtain ⟨hdn, hDI⟩ := distP_some hg hxg hD
    have HDI := Lib.hid hDI
    unfold DistPost at hdist
    rw [hD] at hdist
    have Hdist := Lib.hid hdist
    clear hdist hD hDI
    have hd0I : (0 : Int) ≤ (d : Int) := by omega
    have hdb : decide ((d : Int) < 0) = false := by rw [decide_eq_false_iff_not]; omega
    obtain ⟨rad, hrad⟩ : ∃ rad, rad = (d + 1) / 2 := ⟨_, rfl⟩
    have hradI : ((d : Int) + 1) / 2 = (rad : Int) := by omega
    have HradI := Lib.hid hradI
    have Hrad := Lib.hid hrad
    clear hradI hrad
    go_upto_block 0 with (go_at_call 63; refine Hdist.out.mono ?_; rintro e w3 ⟨bb, r, rfl, hB3, hl1, hl2, hne, hb3⟩; have HB3 := Lib.hid hB3; have Hb3 := Lib.hid hb3; clear hB3 hb3 hcm hd0 hd1)
    rw [HradI.out]
    clear hdb HradI
    generalize hw5 : World.alloc _ (Obj.cells #[Value.int IntKind.i64 (rad : Int)] 3) = w5
    obtain ⟨sd, hsd⟩ : ∃ sd, sd = w3.heap.size := ⟨_, rfl⟩
    obtain ⟨sp, hsp⟩ : ∃ sp, sp = w3.heap.size + 1 := ⟨_, rfl⟩
    obtain ⟨sr, hsr⟩ : ∃ sr, sr = w3.heap.size + 1 + 1 := ⟨_, rfl⟩
    have hSV : SV (moves gs) (.slice ma (moves gs).length mc) x w1 bb r sm sd sp sr d rad (d / 2) w5 := by
      have hvm3 := Hvm.out.below Hb3.out
      have hb5 : Below w3.heap.size w3 w5 := by rw [← hw5]; exact (((Below.refl _ _).alloc (Nat.le_refl _) _).alloc (by simp) _).alloc (by simp; omega) _
      have e : ∀ (w : World) (o : Obj), (w.alloc o).heap = w.heap.push o := fun _ _ => rfl
      refine ⟨HB3.out.below hb5, hvm3.below hb5, ?_, ?_, ?_, Rg.acc (Rg.acc Hb2.out Hb3.out) hb5⟩
      · unfold ValAt
        rw [← hw5, hsd]
        simp only [e, Array.getElem?_push, Array.size_push]
        rw [if_neg (by omega), if_neg (by omega), if_pos trivial]
      · unfold ValAt
        rw [← hw5, hsp]
        simp only [e, Array.getElem?_push, Array.size_push]
        rw [if_neg (by omega), if_pos trivial]
      · unfold ValAt
        rw [← hw5, hsr]
        simp only [e, Array.getElem?_push, Array.size_push]
        rw [if_pos trivial]
    have hDis := Lib.hid (show Dis w1 bb r sm sd sp sr by
      obtain ⟨⟨_, q, _⟩, q2⟩ := HB3.out
      have a1 := (Array.getElem?_eq_some_iff.1 q).1
      have a2 := q2.lt
      have a3 := Hsm.out
      unfold Dis
      omega)
    have HSV := Lib.hid hSV
    rw [← hsr, ← hsp, ← hsd]
    clear hw5 hsd hsp hsr hSV HB3 Hvm hl1 hl2 hlt2 hd0I
    have hNr := Lib.hid (show Rg.NRows w1 (.slice ma (moves gs).length mc) (moves gs) from Hmv.out)
    have hne' := Lib.hid hne
    clear hne
    go_cut [36] from 36 to 59 (fun _ wr => ∃ k : Nat, Hid (SV (moves gs) (.slice ma (moves gs).length mc) x w1 bb r sm sd sp sr d rad k wr) ∧ Hid (∀ y j, nd (bIter (moves gs) x k).1 y = some j ↔ j ≤ rad ∧ DI (mlets gs) x y j))
    case first =>
      go_wp2
      go_loopg [36] (rad - d / 2) (fun t _ wr => ∃ k : Nat, k + t = rad ∧ d / 2 ≤ k ∧ Hid (SV (moves gs) (.slice ma (moves gs).length mc) x w1 bb r sm sd sp sr d rad k wr))
      case atStart => exact ⟨d / 2, by have := Hrad.out; omega, Nat.le_refl _, HSV.out⟩
      case round =>
        obtain ⟨k, hk1, hk2, hS⟩ := hrel
        have hbl := hS.out.bl
        have c1 := hS.out.vp.cell
        have c2 := hS.out.vr.cell
        have c3 := hS.out.vm.cell
        obtain ⟨⟨sv, q1, q2⟩, q3⟩ := hbl
        obtain ⟨sa, sc, rfl, hcap, hlen, hq⟩ := q2
        have c4 : wr.cell? ⟨bb, 0, none⟩ = some (.map (some r)) := by rw [cell_of_row _ _ _ _ _ _ q1]; rfl
        have c5 : wr.cell? ⟨bb, 1, none⟩ = some (.slice sa (bIter (moves gs) x k).2.length sc) := by rw [cell_of_row _ _ _ _ _ _ q1]; rfl
        have hgs := bIter_GS hxg hmvg k
        have mix : Try.prog.follows .mixedOrders = true := by kernel_rfl
        have Hq := Lib.hid hq
        have Hq3 := Lib.hid q3
        have Hgs := Lib.hid hgs
        have Hk1 := Lib.hid hk1
        clear q1 hq q3 hgs hk1 HSV
        obtain ⟨sh, hsh⟩ : ∃ sh, sh = (bIter (moves gs) x k).2 := ⟨_, rfl⟩
        obtain ⟨nb, hnb⟩ : ∃ nb, nb = (bIter (moves gs) x k).1 := ⟨_, rfl⟩
        have Hsh := Lib.hid hsh
        have Hnb := Lib.hid hnb
        rw [← hsh] at Hq c5 hcap hlen
        rw [← hnb] at Hq3
        clear hsh hnb
        by_cases he : 0 < sh.length
        · have hb0 : decide ((0 : Int) < (sh.length : Int)) = true := by rw [decide_eq_true_eq]; omega
          obtain ⟨sb, rfl, hsb, hsr⟩ := Hq.out he
          obtain ⟨k0, hk0⟩ : ∃ k0, k0 = sh[0] := ⟨_, rfl⟩
          have hkm : k0 ∈ (bIter (moves gs) x k).2 := by rw [← Hsh.out, hk0]; exact List.getElem_mem _
          have hlab := near_label hkm
          rw [← Hnb.out] at hlab
          have hlk := look_no (Hq3.out.of_block rfl : Km.KMap wr.drew r (ents nb)) (show GM D nb by rw [Hnb.out]; exact fun z hz => (Hgs.out.1 z hz).gk h2) ((Hgs.out.2 k0 hkm).gk h2)
          rw [hlab] at hlk
          simp only [Option.getD_some] at hlk
          have Hlk := Lib.hid hlk
          have hrg := hsr 0 he
          rw [Nat.zero_mul, ← hk0] at hrg
          have Hrg := Lib.hid (range_below hrg (Below.refl _ _).drew)
          clear hlk hlab hrg hk0 hkm hsr
          go_upto_region 6 with (fail)
          have z1 : wr.drew.cell? ⟨sp, 0, none⟩ = some (.pointer (some ⟨bb, 0, none⟩)) := c1
          have z2 : wr.drew.cell? ⟨sr, 0, none⟩ = some (.int .i64 (rad : Int)) := c2
          have z4 : wr.drew.cell? ⟨bb, 0, none⟩ = some (.map (some r)) := c4
          have z5 : wr.drew.cell? ⟨bb, 1, none⟩ = some (.slice (some ⟨sb, 0, none⟩) sh.length sc) := c5
          have C1 := Lib.hid c1
          have C3 := Lib.hid c3
          clear c1 c2 c3 c4 c5
          refine wp_region_still_lit mix (by kernel_rfl) ?_
          change wpStill _ _ (World.drew wr) _ _ _
          generalize hWk : World.drew wr = Wk at *
          have hWk2 := Lib.hid hWk
          clear hWk
          iterate 16 still_step
          refine stillKey (some 52) rfl rfl _ rfl sb 0 rfl k0 Hrg.out ?_
          go_frame
          refine Rg.still_run (some 53) rfl rfl (Rg.exec_lookup _ _ _ _ rfl _ _ rfl rfl Hlk.out) ?_
          go_frame
          iterate 3 still_step
          refine wpStill_nil ?_
          show Exit.then _ _ Exit.normal _ (World.drew wr)
          clear z1 z2 z4 z5 Hrg Hlk
          by_cases hkr : k < rad
          · have hkb : decide ((k : Int) < (rad : Int)) = true := by rw [decide_eq_true_eq]; omega
            have y1 : wr.drew.cell? ⟨sp, 0, none⟩ = some (.pointer (some ⟨bb, 0, none⟩)) := C1.out
            have y3 : wr.drew.cell? ⟨sm, 0, none⟩ = some (.slice ma (moves gs).length mc) := C3.out
            have hS2 := Lib.hid (hS.out.quiet (Below.refl wr.heap.size wr).drew)
            have hlen := bIter_len (moves gs) x 12 hml k
            have hpw := pow12 (k := k) (by have := Hrad.out; omega)
            have hsz := Lib.hid (show (bIter (moves gs) x k).2.length * (moves gs).length ≤ 1000000 from Nat.le_trans (Nat.mul_le_mul hlen hml) hpw)
            have hgd := Lib.hid (show growD (bIter (moves gs) x k).1 (bIter (moves gs) x k).2 ≤ 1000000 by have := growD_le (bIter_near (moves gs) x k) (bIter (moves gs) x k).2; have := Hrad.out; omega)
            have hbr := Lib.hid (show w1.heap.size ≤ bb ∧ w1.heap.size ≤ r by have := hDis.out; unfold Dis at this; omega)
            clear hlen hpw
            go_wp2_with (go_at_call 36; refine (grow_any bb r _ (moves gs) _ _ D w1 _ hNr.out hS2.out.be hbr.out.1 hbr.out.2 hne'.out hS2.out.bl Hgs.out hmvg h1 h2 hsz.out (by omega) hgd.out).mono ?_; rintro e w6 ⟨rfl, hB6, hf6⟩; have HS6 := Lib.hid (hS2.out.grow hDis.out hB6 hf6); clear hB6 hf6)
            go_roundg (gk - 1)
            case rel => exact ⟨k + 1, by have := Hk1.out; omega, by omega, HS6.out⟩
            case measure => have := Hk1.out; omega
          · have hkb : decide ((k : Int) < (rad : Int)) = false := by rw [decide_eq_false_iff_not]; omega
            go_wp2
            go_meet
            case rel => exact ⟨k, hS.out.quiet (Below.refl _ _).drew, by rw [show rad = k from by have := Hk1.out; omega]; exact fun y j => bI_near x y k j⟩
        · have hb0 : decide ((0 : Int) < (sh.length : Int)) = false := by rw [decide_eq_false_iff_not]; omega
          have hb1 : decide (0 < sh.length) = false := by rw [decide_eq_false_iff_not]; omega
          go_upto_region 6 with (fail)
          go_quiet (fail)
          go_wp2
          go_meet
          case rel => exact ⟨k, hS.out.quiet (Rg.drewN (Below.refl _ _) _), near_empty (by rw [← Hsh.out]; exact List.eq_nil_of_length_eq_zero (by omega)) rad (by have := Hk1.out; omega)⟩
    case rest =>
      obtain ⟨k, hS, hN⟩ := hcut
      have hlw : w.heap.size < w1.heap.size := hlt1
      have hgc0 : wc.cell? ⟨w.heap.size, 0, none⟩ = some (.int .i64 D) := (hS.out.be.cell (p := ⟨w.heap.size, 0, none⟩) hlw).trans Hc0.out
      go_upto_block 2 with (first | (go_at_call 34; refine (permOne_in D _ h1 h2).mono ?_; rintro e w7 ⟨ov, rfl, hov, hb7⟩; have Hov := Lib.hid hov; have Hb7 := Lib.hid hb7; obtain ⟨on, oa, oc, hon, rfl, _⟩ := hov.1.len; clear hov hon hb7) | (go_at_call 52; refine (packed_any _ (Ma.oneN D) _ Hov.out.1 (by rw [Ma.len_oneN]; exact h2) (fun z hz => by have := (Gd.one D).1.1 z hz; rw [Ma.len_oneN] at this; omega)).mono ?_; rintro e w8 ⟨rfl, hb8⟩; have Hb8 := Lib.hid (Rg.acc Hb7.out hb8); clear hb8) | (refine allocKey (by rfl) (by rfl) ?_) | (refine storeKey (by rfl) _ _ (by rfl) (Ma.oneN D) _ (by simp) (by rfl) (by rfl) ?_))
      generalize hw9 : World.alloc _ (Obj.cells (keyC (Ma.oneN D)) 82) = w9
      obtain ⟨sk, hsk⟩ : ∃ sk, sk = w8.heap.size + 1 := ⟨_, rfl⟩
      have hS8 := Lib.hid (hS.out.quiet Hb8.out)
      obtain ⟨U, hU, hsol⟩ := solP_some hdn HDI.out
      have hSL : SL gs D x U w8 sd sk d (.slice (some ⟨w8.heap.size, 0, none⟩) 0 0) w9 := by
        have hb9 : Below w8.heap.size w8 w9 := by rw [← hw9]; exact ((Below.refl _ _).alloc (Nat.le_refl _) _).alloc (by simp) _
        refine ⟨⟨[], U, rfl, HDI.out, hU, by simp, by simp, ⟨w8.heap.size, 0, 0, rfl, by simp [ltrs], by simp, Nat.le_refl _, by omega, ?_, fun i hi => by simp [ltrs] at hi⟩, ?_⟩, hS8.out.vd.below hb9, Rg.Kp.of_below hb9, by omega⟩
        · rw [← hw9]; simp; omega
        · unfold KeyAt
          rw [← hw9, hsk]
          show ((w8.heap.push _).push _)[w8.heap.size + 1]? = _
          rw [Array.getElem?_push, if_pos (by simp)]; rfl
      have hlsk := Lib.hid (show w8.heap.size ≤ sk by omega)
      have HSL := Lib.hid hSL
      have Hsol := Lib.hid hsol
      have Hbw8 := Lib.hid (Rg.acc Hb1.out hS8.out.be)
      rw [← hsk]
      clear hw9 hsk hSL hU hsol Hb8 Hb7 hS Hov hgc0
      go_wp2
      go_loopg [16] d (fun m vw wr => Hid (SL gs D x U w8 sd sk m vw wr))
      case atStart => exact HSL.out
      case round =>
        have hR := hrel.out
        obtain ⟨⟨u, v, hU, hdi, hfst, hum, hul, hwd, hke⟩, hvd, hkp, hgk⟩ := hR
        have cd := hvd.cell
        have HKe := Lib.hid hke
        have Hvd := Lib.hid hvd
        have Hkp := Lib.hid hkp
        have HSV := Lib.hid (hS8.out.kpd hDis.out hkp hvd)
        obtain ⟨wb, wo, wcap, rfl, hwc, hwm, hwB, hwk, hwl, hwr⟩ := hwd
        have Hwr := Lib.hid hwr
        have HU := Lib.hid hU
        have Hdi := Lib.hid hdi
        have Hfst := Lib.hid hfst
        have Hum := Lib.hid hum
        have hln : (ltrs u).length = u.length := by simp [ltrs]
        have Hln := Lib.hid hln
        clear hke hvd hkp hwr hU hdi hfst hum hrel hln
        by_cases hm : gk = 0
        · subst hm
          have hm0 : decide ((0 : Int) < ((0 : Nat) : Int)) = false := by decide
          have hUu : U = u := by
            obtain ⟨hv, _⟩ := Fst_some Hfst.out
            rw [FW, List.mem_singleton] at hv
            rw [HU.out, hv, List.append_nil]
          have HUu := Lib.hid hUu
          have hI := Lib.hid (show Rg.Ints wr (.slice (some ⟨wb, wo, none⟩) (ltrs u).length wcap) (ltrs u) from Rg.Ints.mk rfl hwl hwc hwm (by rw [Hln.out]; omega) Hwr.out)
          clear hUu
          go_wp2
          go_ret2
          rw [Hsol.out, HUu.out]
          exact ⟨_, rfl, hI.out, Rg.acc Hb1.out HSV.out.be⟩
        · obtain ⟨m, rfl⟩ : ∃ m, gk = m + 1 := ⟨gk - 1, by omega⟩
          have hm0 : decide ((0 : Int) < ((m + 1 : Nat) : Int)) = true := by rw [decide_eq_true_eq]; omega
          clear hm
          obtain ⟨at', y, v', hv', hml', hidx, hdi', hfst'⟩ := greedy_step hg hxg (vl_Gd hg (Gd.one D) Hum.out) hN.out Hdi.out Hfst.out
          have hkg := vl_Gd hg (Gd.one D) Hum.out
          have hmr : m ≤ 9 := by omega
          have hIx := Lib.hid (indexFunc_any _ (moves gs) _ _ _ wr (Rg.NRows.below hNr.out HSV.out.be) (by omega) callS (asksS (bIter (moves gs) x k).1 (bIter (moves gs) x k).2 (moves gs) rad m D bb r (vl (Ma.oneN D) u) _ sp sk sd sr sm wr (within_any _ _ _ rad D bb r h2 (fun z hz => ((bIter_GS hxg hmvg k).1 z hz).gk h2) (by have := Hrad.out; omega) hmvg (by omega) m (by omega)) hkg h2 hmvg (by omega) HSV.out.bl (Rg.NRows.below hNr.out HSV.out.be) (HSV.out.caps HKe.out)))
          have Hidx := Lib.hid hidx
          have hatl : at' < (moves gs).length := by rw [len_moves, ← len_mlets]; exact (List.getElem?_eq_some_iff.1 hml').1
          have hzip := hml'
          unfold mlets at hzip
          rw [List.getElem?_zip_eq_some] at hzip
          have Hzip := Lib.hid hzip
          have hymem : y ∈ mlets gs := List.mem_of_getElem? hml'
          have hyg := mlets_Gd hg hymem
          have cm := HSV.out.vm.cell
          obtain ⟨mb, mo, rfl, hmbl, hmbr⟩ := Hmvr.out (by omega)
          obtain ⟨pu, hpu1, hpu2⟩ := hmbr at' hatl
          have hpy : (moves gs)[at'] = y.1 := by
            have := hzip.1
            rw [List.getElem?_eq_getElem hatl] at this
            simpa using this
          rw [hpy] at hpu2
          obtain ⟨pn, pa, pc, hpn, rfl, _⟩ := hpu2.len
          obtain ⟨lb, lo', rfl, hlbl, hlbr⟩ := Hlvr.out (by rw [len_lets, ← len_moves]; omega)
          have hatl2 : at' < (lets gs.length).length := by rw [len_lets, ← len_moves]; exact hatl
          have hlcell := hlbr at' hatl2
          have hly : (lets gs.length)[at'] = y.2 := by
            have := hzip.2
            rw [List.getElem?_eq_getElem hatl2] at this
            simpa using this
          rw [hly] at hlcell
          have be1 := HSV.out.be
          have e1 : wr.cell? ⟨mb, mo + at', none⟩ = some (.slice pa pn pc) := (be1.cell (p := ⟨mb, mo + at', none⟩) hmbl).trans hpu1
          have e2 : wr.cell? ⟨lb, lo' + at', none⟩ = some (.int .i64 y.2) := (be1.cell (p := ⟨lb, lo' + at', none⟩) hlbl).trans hlcell
          have Hpu := Lib.hid (Rg.NP.below hpu2 be1)
          have E1 := Lib.hid e1
          have E2 := Lib.hid e2
          have Cm := Lib.hid cm
          have Hv' := Lib.hid hv'
          have Hdi' := Lib.hid hdi'
          have Hfst' := Lib.hid hfst'
          have Hlb := Lib.hid (show mb < sk ∧ lb < sk ∧ sm < sk by
            have a1 := hS8.out.be.size
            have a2 := hlsk.out
            have a3 := hS8.out.vm.lt
            omega)
          clear hpu1 hpu2 hlcell hly hpy hpn be1 e1 e2 hv' hdi' hfst' hidx hzip hml' hmbr hlbr
          go_upto_region 13 with (go_at_call 64; refine hIx.out.mono ?_; rintro e w10 ⟨rfl, hb10⟩; rw [Hidx.out]; have Hb10 := Lib.hid hb10; clear hb10 cm cd)
          have hke10 := (Hb10.out.block sk (Array.getElem?_eq_some_iff.1 HKe.out).1).trans HKe.out
          have HT := Lib.hid (show ∀ l, Rg.Both 18 (fun w' => w'.rangeAt sk 0 (keyC (vl (Ma.oneN D) u)).toList) (fun w' => w'.cell? ⟨sm, 0, none⟩ = some (.slice (some ⟨mb, mo, none⟩) (moves gs).length mc) ∧ w'.cell? ⟨mb, mo + at', none⟩ = some (.slice pa pn pc) ∧ w'.cell? ⟨lb, lo' + at', none⟩ = some (.int .i64 y.2)) l w10.drew from
            fun l => ⟨.inr (range_below (KeyAt.range (w := w10) hke10) (Below.refl _ _).drew), (Hb10.out.cell (World.block_lt_of_cell? _ _ Cm.out)).trans Cm.out, (Hb10.out.cell (World.block_lt_of_cell? _ _ E1.out)).trans E1.out, (Hb10.out.cell (World.block_lt_of_cell? _ _ E2.out)).trans E2.out⟩)
          have hinfo : (Try.prog.info? 82).map (·.size) = some (keyC (vl (Ma.oneN D) u)).toList.length := by rw [Array.length_toList, size_keyC]; exact infoKey
          refine Rg.Any.begin (S := Rg.Both 18 (fun w' => w'.rangeAt sk 0 (keyC (vl (Ma.oneN D) u)).toList) (fun w' => w'.cell? ⟨sm, 0, none⟩ = some (.slice (some ⟨mb, mo, none⟩) (moves gs).length mc) ∧ w'.cell? ⟨mb, mo + at', none⟩ = some (.slice pa pn pc) ∧ w'.cell? ⟨lb, lo' + at', none⟩ = some (.int .i64 y.2))) (by kernel_rfl) ?_
          refine Rg.Any.takeT (i := 0) (t := 18) (v := Value.agg (keyC (vl (Ma.oneN D) u)).toList.toArray) (some 76) rfl rfl (by kernel_rfl) (by kernel_rfl) (by kernel_rfl) (fun _ _ _ h => h) rfl (by kernel_rfl) rfl (yieldsIf_load_mid rfl _ _ rfl sk 0 rfl (keyC (vl (Ma.oneN D) u)).toList _ (fun w h => h) Try.underlying82 rfl hinfo) (HT.out _) ?_
          go_frame
          refine Rg.Any.takeG (i := 1) (t := 18) (v := Value.slice (some ⟨mb, mo, none⟩) (moves gs).length mc) (some 77) rfl rfl (by kernel_rfl) (by kernel_rfl) (by kernel_rfl) (fun _ _ _ h => h) rfl (Rg.yields_cell _ _ rfl rfl ⟨sm, 0, none⟩ rfl (fun w h => Rg.run_loadSl _ _ Try.underlying22 h.1)) (HT.out _) ?_
          go_frame
          refine Rg.Any.takeG (i := 2) (t := 18) (v := Value.int .i64 (at' : Int)) (some 78) rfl rfl (by kernel_rfl) (by kernel_rfl) (by kernel_rfl) (fun _ _ _ h => h) rfl (.inl ⟨rfl, fun w _ => rfl⟩) (HT.out _) ?_
          go_frame
          refine Rg.Any.takeG (i := 3) (t := 18) (v := Value.pointer (some ⟨mb, mo + at', none⟩)) (some 79) rfl rfl (by kernel_rfl) (by kernel_rfl) (by kernel_rfl) (fun _ _ _ h => h) rfl (Rg.yields_index slPerms _ _ rfl rfl mb mo (moves gs).length mc at' rfl rfl hatl) (HT.out _) ?_
          go_frame
          refine Rg.Any.takeG (i := 4) (t := 18) (v := Value.slice pa pn pc) (some 80) rfl rfl (by kernel_rfl) (by kernel_rfl) (by kernel_rfl) (fun _ _ _ h => h) rfl (Rg.yields_cell _ _ rfl rfl ⟨mb, mo + at', none⟩ rfl (fun w h => Rg.run_loadSl _ _ Try.underlying39 h.2.1)) (HT.out _) ?_
          go_frame
          refine Rg.Any.takeG (i := 6) (t := 18) (v := (Value.slice (some ⟨wb, wo, none⟩) (ltrs u).length wcap)) (some 82) rfl rfl (by kernel_rfl) (by kernel_rfl) (by kernel_rfl) (fun _ _ _ h => h) rfl (.inl ⟨rfl, fun w _ => rfl⟩) (HT.out _) ?_
          go_frame
          refine Rg.Any.takeG (i := 7) (t := 18) (v := (Value.slice (some ⟨wb, wo, none⟩) (ltrs u).length wcap)) (some 83) rfl rfl (by kernel_rfl) (by kernel_rfl) (by kernel_rfl) (fun _ _ _ h => h) rfl (.inl ⟨rfl, fun w _ => rfl⟩) (HT.out _) ?_
          go_frame
          refine Rg.Any.takeG (i := 8) (t := 18) (v := (Value.int .i64 ((ltrs u).length : Int))) (some 84) rfl rfl (by kernel_rfl) (by kernel_rfl) (by kernel_rfl) (fun _ _ _ h => h) rfl (Rg.yields_len 3 rfl _ _ rfl Try.underlying40 _ _ _ rfl) (HT.out _) ?_
          go_frame
          refine Rg.Any.takeG (i := 9) (t := 18) (v := (Value.slice (some ⟨wb, wo, none⟩) (ltrs u).length wcap)) (some 85) rfl rfl (by kernel_rfl) (by kernel_rfl) (by kernel_rfl) (fun _ _ _ h => h) rfl (.inl ⟨rfl, fun w _ => rfl⟩) (HT.out _) ?_
          go_frame
          refine Rg.Any.takeG (i := 10) (t := 18) (v := (Value.int .i64 ((ltrs u).length : Int))) (some 86) rfl rfl (by kernel_rfl) (by kernel_rfl) (by kernel_rfl) (fun _ _ _ h => h) rfl (Rg.yields_len 3 rfl _ _ rfl Try.underlying40 _ _ _ rfl) (HT.out _) ?_
          go_frame
          refine Rg.Any.takeG (i := 11) (t := 18) (v := Value.slice (some ⟨wb, wo, none⟩) (ltrs u).length (ltrs u).length) (some 87) rfl rfl (by kernel_rfl) (by kernel_rfl) (by kernel_rfl) (fun _ _ _ h => h) rfl (yields_full rfl _ _ _ rfl ⟨wb, wo, none⟩ (ltrs u).length wcap rfl rfl rfl hwc) (HT.out _) ?_
          go_frame
          refine Rg.Any.takeG (i := 12) (t := 18) (v := Value.slice (some ⟨lb, lo', none⟩) (lets gs.length).length lc) (some 88) rfl rfl (by kernel_rfl) (by kernel_rfl) (by kernel_rfl) (fun _ _ _ h => h) rfl (.inl ⟨rfl, fun w _ => rfl⟩) (HT.out _) ?_
          go_frame
          refine Rg.Any.takeG (i := 13) (t := 18) (v := Value.int .i64 (at' : Int)) (some 89) rfl rfl (by kernel_rfl) (by kernel_rfl) (by kernel_rfl) (fun _ _ _ h => h) rfl (.inl ⟨rfl, fun w _ => rfl⟩) (HT.out _) ?_
          go_frame
          refine Rg.Any.takeG (i := 14) (t := 18) (v := Value.pointer (some ⟨lb, lo' + at', none⟩)) (some 90) rfl rfl (by kernel_rfl) (by kernel_rfl) (by kernel_rfl) (fun _ _ _ h => h) rfl (Rg.yields_index slInts _ _ rfl rfl lb lo' (lets gs.length).length lc at' rfl rfl hatl2) (HT.out _) ?_
          go_frame
          refine Rg.Any.takeG (i := 15) (t := 18) (v := Value.int .i64 y.2) (some 91) rfl rfl (by kernel_rfl) (by kernel_rfl) (by kernel_rfl) (fun _ _ _ h => h) rfl (Rg.yields_cell _ _ rfl rfl ⟨lb, lo' + at', none⟩ rfl (fun w h => run_loadInt h.2.2)) (HT.out _) ?_
          go_frame
          have hts := Lib.hid (times_any (.slice pa pn pc) (vl (Ma.oneN D) u) y.1)
          have hknew := hkg.mul hyg
          have hk2 : vl (Ma.oneN D) (u ++ [y]) = Ma.mulN (vl (Ma.oneN D) u) y.1 := vl_snoc _ _ _
          have Hk2 := Lib.hid hk2
          clear hk2
          have hTm := Lib.hid (show ∀ l w', Below w10.drew.heap.size w10.drew w' → Rg.Both 18 (fun w' => w'.rangeAt sk 0 (keyC (vl (Ma.oneN D) u)).toList) (fun w' => w'.cell? ⟨sm, 0, none⟩ = some (.slice (some ⟨mb, mo, none⟩) (moves gs).length mc) ∧ w'.cell? ⟨mb, mo + at', none⟩ = some (.slice pa pn pc) ∧ w'.cell? ⟨lb, lo' + at', none⟩ = some (.int .i64 y.2)) l w' from fun l w' hb => by
            obtain ⟨h3, h4, h5, h6⟩ := HT.out #[]
            have one : ∀ {p : Addr} {v : Value}, w10.drew.cell? p = some v → w'.cell? p = some v := fun h => (hb.cell (World.block_lt_of_cell? _ _ h)).trans h
            refine ⟨.inr (range_below ?_ hb), one h4, one h5, one h6⟩
            exact KeyAt.range (w := w10.drew) hke10)
          refine Rg.Any.two (i := 5) (j := 16) (by kernel_rfl) ?_ ?_
          · refine Rg.Any.ask (some 81) rfl rfl rfl 53 #[.agg (keyC (vl (Ma.oneN D) u)), .slice pa pn pc] (by kernel_rfl) ((hts.out _ (Rg.NP.below (Rg.NP.below Hpu.out Hb10.out) (Below.refl _ _).drew) (by have := hyg.2; omega) (hkg.2.trans hyg.2.symm) (hkg.lt hyg) hyg.1.1).mono ?_)
            rintro e w11 ⟨rfl, hb11⟩
            refine ⟨_, rfl, hTm.out _ _ hb11, ?_⟩
            go_frame
            refine Rg.Any.one (i := 16) (by kernel_rfl) ?_
            have hb12 : Below w10.drew.heap.size w10.drew (w11.alloc (.cells #[.int .i64 y.2] 3)) := hb11.alloc hb11.size _
            refine Rg.Any.run (i := 16) (some 92) rfl rfl rfl (Rg.exec_buildSlice _ _ _ rfl _ rfl (run_buildI w11 y.2)) (hTm.out _ _ hb12) ?_
            go_frame
            have hc12 : (w11.alloc (.cells #[.int .i64 y.2] 3)).cell? ⟨w11.heap.size, 0, none⟩ = some (.int .i64 y.2) := by rw [Rg.cellNew]; rfl
            generalize w11.alloc (.cells #[.int .i64 y.2] 3) = w12 at *
            generalize w11.heap.size = pb at *
            have hwd12 : ∀ i (h : i < ((ltrs u).map (Value.int .i64)).length), w12.cell? ⟨wb, wo + i, none⟩ = some (((ltrs u).map (Value.int .i64))[i]) := fun i h => by
              have h' : i < (ltrs u).length := by simpa using h
              have c0 := Hwr.out i h'
              have c1 := (Hb10.out.cell (World.block_lt_of_cell? _ _ c0)).trans c0
              rw [hb12.cell (p := ⟨wb, wo + i, none⟩) (World.block_lt_of_cell? w10 _ c1)]
              rw [List.getElem_map]; exact c1
            obtain ⟨v17, w13, r17, ro17, hb13, ⟨a17, c17, rfl⟩⟩ := Rg.full_run slWord 40 (X := w12) wb wo (ltrs u).length ((ltrs u).map (Value.int .i64)) (by simp) hwd12 pb 1 hc12 (by rw [Hln.out]; omega)
            have hb13' : Below w10.drew.heap.size w10.drew w13 := Rg.acc hb12 hb13
            refine Rg.Any.one (i := 17) (by kernel_rfl) ?_
            refine Rg.Any.run (i := 17) (some 93) rfl rfl rfl (Rg.exec_append _ _ _ rfl rfl rfl r17) (hTm.out _ _ hb13') ?_
            go_frame
            have hke13 : KeyAt w13 sk (vl (Ma.oneN D) u) := (hb13'.block sk (Array.getElem?_eq_some_iff.1 hke10).1).trans hke10
            obtain ⟨w14, r18, hke14, hkp14⟩ := storeKeyRun (k2 := Ma.mulN (vl (Ma.oneN D) u) y.1) hke13
            have hT18 : ∀ l : Array Bool, l.getD 18 false = true → Rg.Both 18 (fun w' => w'.rangeAt sk 0 (keyC (vl (Ma.oneN D) u)).toList) (fun w' => w'.cell? ⟨sm, 0, none⟩ = some (.slice (some ⟨mb, mo, none⟩) (moves gs).length mc) ∧ w'.cell? ⟨mb, mo + at', none⟩ = some (.slice pa pn pc) ∧ w'.cell? ⟨lb, lo' + at', none⟩ = some (.int .i64 y.2)) l w14 := fun l hl18 => by
              obtain ⟨_, h4, h5, h6⟩ := hTm.out l _ hb13'
              obtain ⟨l1, l2, l3⟩ := Hlb.out
              have one : ∀ {p : Addr} {v : Value}, p.block ≠ sk → w13.cell? p = some v → w14.cell? p = some v := fun hne h => (World.cell?_of_block (hkp14.block _ (World.block_lt_of_cell? _ _ h) hne)).trans h
              exact ⟨.inl hl18, one (by show sm ≠ sk; omega) h4, one (by show mb ≠ sk; omega) h5, one (by show lb ≠ sk; omega) h6⟩
            refine Rg.Any.one (i := 18) (by kernel_rfl) ?_
            refine Rg.Any.runSkip (i := 18) none rfl rfl rfl (Rg.exec_store _ _ _ rfl ⟨sk, 0, none⟩ rfl _ rfl r18) (hT18 _ rfl) ?_
            go_frame
            refine Rg.Any.one (i := 19) (by kernel_rfl) ?_
            refine Rg.Any.run (i := 19) (v := .slice a17 ((ltrs u).length + 1) c17) (some 16) rfl rfl rfl (Rg.exec_assign _ rfl rfl) (hT18 _ rfl) ?_
            go_frame
            refine Rg.Any.done (by kernel_rfl) ?_ _
            have hvd10 : ValAt w10 sd (.int .i64 ((m + 1 : Nat) : Int)) 3 := Hvd.out.below Hb10.out
            have hb1013 : Below w10.heap.size w10 w13 := Rg.acc (Below.refl w10.heap.size w10).drew hb13'
            have hvd13 := hvd10.below hb1013
            have hlsd : sd < w8.heap.size := hS8.out.vd.lt
            have hvd14 : ValAt w14 sd (.int .i64 ((m + 1 : Nat) : Int)) 3 := hvd13.kp hkp14 (by have := hlsk.out; omega)
            have c14 := hvd14.cell
            have f14 := hvd14.frozen
            have hmI : ((m + 1 : Nat) : Int) - 1 = (m : Int) := by omega
            have hfin := Lib.hid (SL.next (c := c17) (a := a17) (U := U) (v' := v') (x := x) (m := m) (sd := sd) (by rw [HU.out, Hv'.out]) Hum.out hymem hul hgk (by rw [Hk2.out]; exact Hdi'.out) (by rw [Hk2.out]; exact Hfst'.out) Hkp.out hvd14 (Rg.acc Hb10.out hb1013) hkp14 (by unfold ltrs at ro17 ⊢; rw [List.map_append, List.map_append]; exact ro17) (Nat.le_trans Hb10.out.size (Nat.le_trans (show w10.heap.size ≤ w10.drew.heap.size from Nat.le_refl _) hb12.size)) (Array.getElem?_eq_some_iff.1 HKe.out).1 hlsk.out hlsd (by rw [Hk2.out]; exact hke14))
            clear hvd10 hb1013 hvd13 hvd14 hke13 hke14 hkp14 hT18 r17 r18 ro17 hb13 hb13' hwd12 hc12 hb12
            go_wp2
            go_roundg m
            case rel => exact hfin.out
            case measure => omega
          · have hb11 : Below w10.drew.heap.size w10.drew (w10.drew.alloc (.cells #[.int .i64 y.2] 3)) := (Below.refl _ _).alloc (Nat.le_refl _) _
            refine Rg.Any.run (i := 16) (some 92) rfl rfl rfl (Rg.exec_buildSlice _ _ _ rfl _ rfl (run_buildI w10.drew y.2)) (hTm.out _ _ hb11) ?_
            go_frame
            have hc11 : (w10.drew.alloc (.cells #[.int .i64 y.2] 3)).cell? ⟨w10.drew.heap.size, 0, none⟩ = some (.int .i64 y.2) := by rw [Rg.cellNew]; rfl
            obtain ⟨w11, hw11⟩ : ∃ w11, w11 = w10.drew.alloc (.cells #[.int .i64 y.2] 3) := ⟨_, rfl⟩
            rw [← hw11] at hb11 hc11 ⊢
            clear hw11
            refine Rg.Any.one (i := 5) (by kernel_rfl) ?_
            refine Rg.Any.ask (some 81) rfl rfl rfl 53 #[.agg (keyC (vl (Ma.oneN D) u)), .slice pa pn pc] (by kernel_rfl) ((hts.out w11 (Rg.NP.below (Rg.NP.below Hpu.out Hb10.out) (Rg.acc (Below.refl w10.heap.size w10).drew hb11)) (by have := hyg.2; omega) (hkg.2.trans hyg.2.symm) (hkg.lt hyg) hyg.1.1).mono ?_)
            rintro e w12 ⟨rfl, hb12'⟩
            have hb12 : Below w10.drew.heap.size w10.drew w12 := Rg.acc hb11 hb12'
            refine ⟨_, rfl, hTm.out _ _ hb12, ?_⟩
            go_frame
            have hc12 := (hb12'.cell (World.block_lt_of_cell? _ _ hc11)).trans hc11
            have hpb : w10.drew.heap.size = w10.heap.size := rfl
            generalize hpp : w10.drew.heap.size = pb at hc12
            have hwd12 : ∀ i (h : i < ((ltrs u).map (Value.int .i64)).length), w12.cell? ⟨wb, wo + i, none⟩ = some (((ltrs u).map (Value.int .i64))[i]) := fun i h => by
              have h' : i < (ltrs u).length := by simpa using h
              have c0 := Hwr.out i h'
              have c1 := (Hb10.out.cell (World.block_lt_of_cell? _ _ c0)).trans c0
              rw [hb12.cell (p := ⟨wb, wo + i, none⟩) (World.block_lt_of_cell? w10 _ c1)]
              rw [List.getElem_map]; exact c1
            obtain ⟨v17, w13, r17, ro17, hb13, ⟨a17, c17, rfl⟩⟩ := Rg.full_run slWord 40 (X := w12) wb wo (ltrs u).length ((ltrs u).map (Value.int .i64)) (by simp) hwd12 pb 1 hc12 (by rw [Hln.out]; omega)
            have hb13' : Below w10.drew.heap.size w10.drew w13 := Rg.acc hb12 hb13
            refine Rg.Any.one (i := 17) (by kernel_rfl) ?_
            refine Rg.Any.run (i := 17) (some 93) rfl rfl rfl (Rg.exec_append _ _ _ rfl rfl rfl r17) (hTm.out _ _ hb13') ?_
            go_frame
            have hke13 : KeyAt w13 sk (vl (Ma.oneN D) u) := (hb13'.block sk (Array.getElem?_eq_some_iff.1 hke10).1).trans hke10
            obtain ⟨w14, r18, hke14, hkp14⟩ := storeKeyRun (k2 := Ma.mulN (vl (Ma.oneN D) u) y.1) hke13
            have hT18 : ∀ l : Array Bool, l.getD 18 false = true → Rg.Both 18 (fun w' => w'.rangeAt sk 0 (keyC (vl (Ma.oneN D) u)).toList) (fun w' => w'.cell? ⟨sm, 0, none⟩ = some (.slice (some ⟨mb, mo, none⟩) (moves gs).length mc) ∧ w'.cell? ⟨mb, mo + at', none⟩ = some (.slice pa pn pc) ∧ w'.cell? ⟨lb, lo' + at', none⟩ = some (.int .i64 y.2)) l w14 := fun l hl18 => by
              obtain ⟨_, h4, h5, h6⟩ := hTm.out l _ hb13'
              obtain ⟨l1, l2, l3⟩ := Hlb.out
              have one : ∀ {p : Addr} {v : Value}, p.block ≠ sk → w13.cell? p = some v → w14.cell? p = some v := fun hne h => (World.cell?_of_block (hkp14.block _ (World.block_lt_of_cell? _ _ h) hne)).trans h
              exact ⟨.inl hl18, one (by show sm ≠ sk; omega) h4, one (by show mb ≠ sk; omega) h5, one (by show lb ≠ sk; omega) h6⟩
            refine Rg.Any.one (i := 18) (by kernel_rfl) ?_
            refine Rg.Any.runSkip (i := 18) none rfl rfl rfl (Rg.exec_store _ _ _ rfl ⟨sk, 0, none⟩ rfl _ rfl r18) (hT18 _ rfl) ?_
            go_frame
            refine Rg.Any.one (i := 19) (by kernel_rfl) ?_
            refine Rg.Any.run (i := 19) (v := .slice a17 ((ltrs u).length + 1) c17) (some 16) rfl rfl rfl (Rg.exec_assign _ rfl rfl) (hT18 _ rfl) ?_
            go_frame
            refine Rg.Any.done (by kernel_rfl) ?_ _
            have hvd10 : ValAt w10 sd (.int .i64 ((m + 1 : Nat) : Int)) 3 := Hvd.out.below Hb10.out
            have hb1013 : Below w10.heap.size w10 w13 := Rg.acc (Below.refl w10.heap.size w10).drew hb13'
            have hvd13 := hvd10.below hb1013
            have hlsd : sd < w8.heap.size := hS8.out.vd.lt
            have hvd14 : ValAt w14 sd (.int .i64 ((m + 1 : Nat) : Int)) 3 := hvd13.kp hkp14 (by have := hlsk.out; omega)
            have c14 := hvd14.cell
            have f14 := hvd14.frozen
            have hmI : ((m + 1 : Nat) : Int) - 1 = (m : Int) := by omega
            have hfin := Lib.hid (SL.next (c := c17) (a := a17) (U := U) (v' := v') (x := x) (m := m) (sd := sd) (by rw [HU.out, Hv'.out]) Hum.out hymem hul hgk (by rw [Hk2.out]; exact Hdi'.out) (by rw [Hk2.out]; exact Hfst'.out) Hkp.out hvd14 (Rg.acc Hb10.out hb1013) hkp14 (by unfold ltrs at ro17 ⊢; rw [List.map_append, List.map_append]; exact ro17) (Nat.le_trans Hb10.out.size (Nat.le_trans (show w10.heap.size ≤ w10.drew.heap.size from Nat.le_refl _) hb12.size)) (Array.getElem?_eq_some_iff.1 HKe.out).1 hlsk.out hlsd (by rw [Hk2.out]; exact hke14))
            clear hvd10 hb1013 hvd13 hvd14 hke13 hke14 hkp14 hT18 r17 r18 ro17 hb13 hb13' hwd12 hc12 hb12
            go_wp2
            go_roundg m
            case rel => exact hfin.out
            case measure => omega
end Go.Proofs.Ytjifdmfoijoekaa

/- The program's Solve and Undo: all inputs. -/
namespace Go.Proofs.Ytjifdmfoijoekaa
open Go.RowKit
open Go.Proofs
attribute [local irreducible] Go.Calls Go.wpStill

set_option maxHeartbeats 1000000 in
theorem right_any (gv xv : Value) (d : Int) (ll : List (List Int)) (xl : List Int) (n : Int) (w : World) (h : Rg.Rows w gv ll) (hx : Rg.Ints w xv xl) :
    Calls Try.prog 43 #[.agg #[.int .i64 d, gv], xv, .int .i64 n] w fun e w' => e = .returned (.int .i64 (slvE d ll xl n)) ∧ Below w.heap.size w w' := by
  have hv := h
  obtain ⟨ad, cap, rfl, hc, _, _, _⟩ := h.shape
  obtain ⟨xn, xa, xc, hxn, rfl, _⟩ := hx.len
  have hba := Lib.hid (show Below w.heap.size w (w.alloc (.cells #[.int .i64 d, .slice ad ll.length cap] 24)) from (Below.refl _ _).alloc (Nat.le_refl _) _)
  have hck := Lib.hid (pzCheck_any _ d ll _ (hv.below hba.out))
  have hcl : (w.alloc (.cells #[.int .i64 d, .slice ad ll.length cap] 24)).heap.size = w.heap.size + 1 := by simp
  have hg0 : (w.alloc (.cells #[.int .i64 d, .slice ad ll.length cap] 24)).cell? ⟨w.heap.size, 0, none⟩ = some (.int .i64 d) := by rw [Rg.cellNew]; rfl
  have Hg0 := Lib.hid hg0
  have Hcl := Lib.hid hcl
  have hpc := Lib.hid (fun w2 hb => (permCheck_any (.slice xa xn xc) xl w2 (Rg.Ints.below hx hb)))
  by_cases hz : pzchk d ll = 0
  · have Hz := Lib.hid hz
    by_cases hp : Ma.pchk xl = 0
    · have Hp := Lib.hid hp
      by_cases hd : (xn : Int) = d
      · have hdb : ((xn : Int) != d) = false := by rw [hd]; simp
        have hE : slvE d ll xl n = if 0 ≤ n ∧ n ≤ 10 then 0 else 2 := by
          unfold slvE
          rw [if_pos hz, if_pos hp, if_pos (by rw [hxn]; exact hd)]
        have HE := Lib.hid hE
        clear hE h hv hcl hg0 hx hxn hz hp hd
        by_cases hn0 : n < 0
        · have hE2 := Lib.hid (show slvE d ll xl n = 2 by rw [HE.out, if_neg (by omega)])
          go_enter Try.func43, Try.ntmps43
          go_wp2_with (first | (go_at_call 32; refine hck.out.mono ?_; rintro e w1 ⟨rfl, hb1⟩; rw [Hz.out]; have hc0 := (hb1.cell (p := ⟨w.heap.size, 0, none⟩) (by rw [Hcl.out]; exact Nat.lt_succ_self _)).trans Hg0.out; have hlt1 := Nat.lt_of_lt_of_le (by rw [Hcl.out]; exact Nat.lt_succ_self _ : w.heap.size < (w.alloc (.cells #[.int .i64 d, .slice ad ll.length cap] 24)).heap.size) hb1.size; have Hb1 := Lib.hid (Rg.acc hba.out hb1); clear hb1) | (go_at_call 62; refine (hpc.out _ Hb1.out).mono ?_; rintro e w2 ⟨rfl, hb2⟩; rw [Hp.out]; have hd0 := (hb2.cell (p := ⟨w.heap.size, 0, none⟩) hlt1).trans hc0; have Hb2 := Lib.hid (Rg.acc Hb1.out hb2); clear hb2 hc0))
          go_ret
          exact ⟨ret_i hE2.out, Hb2.out⟩
        · by_cases hn1 : 10 < n
          · have hE2 := Lib.hid (show slvE d ll xl n = 2 by rw [HE.out, if_neg (by omega)])
            go_enter Try.func43, Try.ntmps43
            go_wp2_with (first | (go_at_call 32; refine hck.out.mono ?_; rintro e w1 ⟨rfl, hb1⟩; rw [Hz.out]; have hc0 := (hb1.cell (p := ⟨w.heap.size, 0, none⟩) (by rw [Hcl.out]; exact Nat.lt_succ_self _)).trans Hg0.out; have hlt1 := Nat.lt_of_lt_of_le (by rw [Hcl.out]; exact Nat.lt_succ_self _ : w.heap.size < (w.alloc (.cells #[.int .i64 d, .slice ad ll.length cap] 24)).heap.size) hb1.size; have Hb1 := Lib.hid (Rg.acc hba.out hb1); clear hb1) | (go_at_call 62; refine (hpc.out _ Hb1.out).mono ?_; rintro e w2 ⟨rfl, hb2⟩; rw [Hp.out]; have hd0 := (hb2.cell (p := ⟨w.heap.size, 0, none⟩) hlt1).trans hc0; have Hb2 := Lib.hid (Rg.acc Hb1.out hb2); clear hb2 hc0))
            go_ret
            exact ⟨ret_i hE2.out, Hb2.out⟩
          · have hE2 := Lib.hid (show slvE d ll xl n = 0 by rw [HE.out, if_pos (by omega)])
            go_enter Try.func43, Try.ntmps43
            go_wp2_with (first | (go_at_call 32; refine hck.out.mono ?_; rintro e w1 ⟨rfl, hb1⟩; rw [Hz.out]; have hc0 := (hb1.cell (p := ⟨w.heap.size, 0, none⟩) (by rw [Hcl.out]; exact Nat.lt_succ_self _)).trans Hg0.out; have hlt1 := Nat.lt_of_lt_of_le (by rw [Hcl.out]; exact Nat.lt_succ_self _ : w.heap.size < (w.alloc (.cells #[.int .i64 d, .slice ad ll.length cap] 24)).heap.size) hb1.size; have Hb1 := Lib.hid (Rg.acc hba.out hb1); clear hb1) | (go_at_call 62; refine (hpc.out _ Hb1.out).mono ?_; rintro e w2 ⟨rfl, hb2⟩; rw [Hp.out]; have hd0 := (hb2.cell (p := ⟨w.heap.size, 0, none⟩) hlt1).trans hc0; have Hb2 := Lib.hid (Rg.acc Hb1.out hb2); clear hb2 hc0))
            go_ret
            exact ⟨ret_i hE2.out, Hb2.out⟩
      · have hE2 := Lib.hid (show slvE d ll xl n = 10 by
          unfold slvE
          rw [if_pos hz, if_pos hp, if_neg (by rw [hxn]; exact hd)])
        have hdb : ((xn : Int) != d) = true := by rw [bne_iff_ne]; exact hd
        clear h hv hcl hg0 hx hxn hz hp hd
        go_enter Try.func43, Try.ntmps43
        go_wp2_with (first | (go_at_call 32; refine hck.out.mono ?_; rintro e w1 ⟨rfl, hb1⟩; rw [Hz.out]; have hc0 := (hb1.cell (p := ⟨w.heap.size, 0, none⟩) (by rw [Hcl.out]; exact Nat.lt_succ_self _)).trans Hg0.out; have hlt1 := Nat.lt_of_lt_of_le (by rw [Hcl.out]; exact Nat.lt_succ_self _ : w.heap.size < (w.alloc (.cells #[.int .i64 d, .slice ad ll.length cap] 24)).heap.size) hb1.size; have Hb1 := Lib.hid (Rg.acc hba.out hb1); clear hb1) | (go_at_call 62; refine (hpc.out _ Hb1.out).mono ?_; rintro e w2 ⟨rfl, hb2⟩; rw [Hp.out]; have hd0 := (hb2.cell (p := ⟨w.heap.size, 0, none⟩) hlt1).trans hc0; have Hb2 := Lib.hid (Rg.acc Hb1.out hb2); clear hb2 hc0))
        go_ret
        exact ⟨ret_i hE2.out, Hb2.out⟩
    · have hE2 := Lib.hid (show slvE d ll xl n = Ma.pchk xl by unfold slvE; rw [if_pos hz, if_neg hp])
      have hpb : (Ma.pchk xl != 0) = true := by rw [bne_iff_ne]; exact hp
      clear h hv hcl hg0 hx hxn hz hp
      go_enter Try.func43, Try.ntmps43
      go_wp2_with (first | (go_at_call 32; refine hck.out.mono ?_; rintro e w1 ⟨rfl, hb1⟩; rw [Hz.out]; have Hb1 := Lib.hid (Rg.acc hba.out hb1); clear hb1) | (go_at_call 62; refine (hpc.out _ Hb1.out).mono ?_; rintro e w2 ⟨rfl, hb2⟩; have Hb2 := Lib.hid (Rg.acc Hb1.out hb2); clear hb2))
      go_ret
      exact ⟨ret_i hE2.out, Hb2.out⟩
  · have hE2 := Lib.hid (show slvE d ll xl n = pzchk d ll by unfold slvE; rw [if_neg hz])
    have hzb : (pzchk d ll != 0) = true := by rw [bne_iff_ne]; exact hz
    clear h hv hcl hg0 hx hxn hz
    go_enter Try.func43, Try.ntmps43
    go_wp2_with (go_at_call 32; refine hck.out.mono ?_; rintro e w1 ⟨rfl, hb1⟩; have Hb1 := Lib.hid (Rg.acc hba.out hb1); clear hb1)
    go_ret
    exact ⟨ret_i hE2.out, Hb1.out⟩
set_option maxHeartbeats 1000000 in
theorem Solve_any (gv xv : Value) (d : Int) (ll : List (List Int)) (xl : List Int) (n : Int) (w : World) (h : Rg.Rows w gv ll) (hx : Rg.Ints w xv xl) :
    Calls Try.prog 21 #[.agg #[.int .i64 d, gv], xv, .int .i64 n] w (SlPost (slvS d ll xl n) w) := by
  by_cases hE : slvE d ll xl n = 0
  · obtain ⟨hz, D, gs, x, m, rfl, rfl, hg, h1, h2, hl, rfl, hxg, rfl, hm⟩ := slvE_zero hE
    rw [slvS_in hE, solveR_eq hg hxg]
    have hv := h
    obtain ⟨ad, cap, rfl, hc, _, _, _⟩ := Rg.NRows.shape h
    have hba := Lib.hid (show Below w.heap.size w (w.alloc (.cells #[.int .i64 D, .slice ad gs.length cap] 24)) from (Below.refl _ _).alloc (Nat.le_refl _) _)
    have hR := right_any _ _ (D : Int) (gs.map Ma.ofN) (Ma.ofN x) (m : Int) _ (hv.below hba.out) (hx.below hba.out)
    rw [hE] at hR
    have HR := Lib.hid hR
    have hcl : (w.alloc (.cells #[.int .i64 D, .slice ad gs.length cap] 24)).heap.size = w.heap.size + 1 := by simp
    have hg0 : (w.alloc (.cells #[.int .i64 D, .slice ad gs.length cap] 24)).cell? ⟨w.heap.size, 0, none⟩ = some (.int .i64 D) := by rw [Rg.cellNew]; rfl
    have hg1 : (w.alloc (.cells #[.int .i64 D, .slice ad gs.length cap] 24)).cell? ⟨w.heap.size, 1, none⟩ = some (.slice ad gs.length cap) := by rw [Rg.cellNew]; rfl
    have Hg0 := Lib.hid hg0
    have Hg1 := Lib.hid hg1
    have Hcl := Lib.hid hcl
    have Hv := Lib.hid hv
    have Hx := Lib.hid hx
    clear h hv hx hcl hg0 hg1 hR hE hz
    generalize hr : solP gs D x m = r2
    have Hr := Lib.hid hr
    clear hr
    unfold SlPost
    obtain ⟨r21, r22⟩ : ∃ a b, solS r2 = (a, b) := ⟨_, _, rfl⟩
    obtain ⟨b2, hr2⟩ := r22
    have Hr2 := Lib.hid hr2
    rw [hr2]
    clear hr2
    go_enter Try.func21, Try.ntmps21
    go_wp2_with (first | (go_at_call 43; refine HR.out.mono ?_; rintro e w1 ⟨rfl, hb1⟩; have hc0 := (hb1.cell (p := ⟨w.heap.size, 0, none⟩) (by rw [Hcl.out]; exact Nat.lt_succ_self _)).trans Hg0.out; have hc1 := (hb1.cell (p := ⟨w.heap.size, 1, none⟩) (by rw [Hcl.out]; exact Nat.lt_succ_self _)).trans Hg1.out; have Hb1 := Lib.hid (Rg.acc hba.out hb1); clear hb1) | (go_at_call 44; refine (solve_any _ _ D gs x m _ (Hv.out.below Hb1.out) (Hx.out.below Hb1.out) hg hxg h1 h2 hl hm).mono ?_; rintro e w2 ⟨sv, rfl, hsv, hb2⟩; rw [Hr.out, Hr2.out] at hsv; rw [Hr.out, Hr2.out]; have Hsv := Lib.hid hsv; have Hb2 := Lib.hid (Rg.acc Hb1.out hb2); clear hsv hb2))
    go_ret2
    exact ⟨_, rfl, Hsv.out, Hb2.out⟩
  · rw [slvS_out hE]
    have hv := h
    obtain ⟨ad, cap, rfl, hc, _, _, _⟩ := h.shape
    have hba := Lib.hid (show Below w.heap.size w (w.alloc (.cells #[.int .i64 d, .slice ad ll.length cap] 24)) from (Below.refl _ _).alloc (Nat.le_refl _) _)
    have hR := right_any _ _ d ll xl n _ (hv.below hba.out) (hx.below hba.out)
    generalize slvE d ll xl n = er at hR hE ⊢
    have HR := Lib.hid hR
    have hb0 : (er != 0) = true := by rw [bne_iff_ne]; exact hE
    clear h hv hx hR hE
    go_enter Try.func21, Try.ntmps21
    go_wp2_with (go_at_call 43; refine HR.out.mono ?_; rintro e w1 ⟨rfl, hb1⟩)
    go_ret2
    exact nil_ret _ (Rg.acc hba.out hb1)
set_option maxHeartbeats 1000000 in
theorem Undo_any (gv xv : Value) (d : Int) (ll : List (List Int)) (xl : List Int) (n : Int) (w : World) (h : Rg.Rows w gv ll) (hx : Rg.Ints w xv xl) :
    Calls Try.prog 23 #[.agg #[.int .i64 d, gv], xv, .int .i64 n] w (SlPost (undS d ll xl n) w) := by
  by_cases hE : slvE d ll xl n = 0
  · obtain ⟨hz, D, gs, x, m, rfl, rfl, hg, h1, h2, hl, rfl, hxg, rfl, hm⟩ := slvE_zero hE
    rw [undS_in hE, solveR_eq hg hxg.inv]
    have hv := h
    obtain ⟨ad, cap, rfl, hc, _, _, _⟩ := Rg.NRows.shape h
    have hba := Lib.hid (show Below w.heap.size w (w.alloc (.cells #[.int .i64 D, .slice ad gs.length cap] 24)) from (Below.refl _ _).alloc (Nat.le_refl _) _)
    have hR := right_any _ _ (D : Int) (gs.map Ma.ofN) (Ma.ofN x) (m : Int) _ (hv.below hba.out) (hx.below hba.out)
    rw [hE] at hR
    have HR := Lib.hid hR
    have hcl : (w.alloc (.cells #[.int .i64 D, .slice ad gs.length cap] 24)).heap.size = w.heap.size + 1 := by simp
    have hg0 : (w.alloc (.cells #[.int .i64 D, .slice ad gs.length cap] 24)).cell? ⟨w.heap.size, 0, none⟩ = some (.int .i64 D) := by rw [Rg.cellNew]; rfl
    have hg1 : (w.alloc (.cells #[.int .i64 D, .slice ad gs.length cap] 24)).cell? ⟨w.heap.size, 1, none⟩ = some (.slice ad gs.length cap) := by rw [Rg.cellNew]; rfl
    have Hg0 := Lib.hid hg0
    have Hg1 := Lib.hid hg1
    have Hcl := Lib.hid hcl
    have Hv := Lib.hid hv
    have Hx := Lib.hid hx
    clear h hv hx hcl hg0 hg1 hR hE hz
    generalize hr : solP gs D (Ma.invN x) m = r2
    have Hr := Lib.hid hr
    clear hr
    unfold SlPost
    obtain ⟨r21, r22⟩ : ∃ a b, solS r2 = (a, b) := ⟨_, _, rfl⟩
    obtain ⟨b2, hr2⟩ := r22
    have Hr2 := Lib.hid hr2
    rw [hr2]
    clear hr2
    have hDx : 1 ≤ x.length ∧ x.length ≤ 64 := by rw [hxg.2]; exact ⟨h1, h2⟩
    go_enter Try.func23, Try.ntmps23
    go_wp2_with (first | (go_at_call 43; refine HR.out.mono ?_; rintro e w1 ⟨rfl, hb1⟩; have hc0 := (hb1.cell (p := ⟨w.heap.size, 0, none⟩) (by rw [Hcl.out]; exact Nat.lt_succ_self _)).trans Hg0.out; have hc1 := (hb1.cell (p := ⟨w.heap.size, 1, none⟩) (by rw [Hcl.out]; exact Nat.lt_succ_self _)).trans Hg1.out; have hlt1 := Nat.lt_of_lt_of_le (by rw [Hcl.out]; exact Nat.lt_succ_self _ : w.heap.size < (w.alloc (.cells #[.int .i64 D, .slice ad gs.length cap] 24)).heap.size) hb1.size; have Hb1 := Lib.hid (Rg.acc hba.out hb1); clear hb1) | (go_at_call 49; refine (permInv_ok _ x _ (Rg.NP.below (w := w) Hx.out Hb1.out) hxg.1 hDx.1 hDx.2).mono ?_; rintro e w3 ⟨iv, rfl, hiv, hb3⟩; have hd0 := (hb3.cell (p := ⟨w.heap.size, 0, none⟩) hlt1).trans hc0; have hd1 := (hb3.cell (p := ⟨w.heap.size, 1, none⟩) hlt1).trans hc1; have Hiv := Lib.hid hiv; have Hb3 := Lib.hid (Rg.acc Hb1.out hb3); obtain ⟨inn, ia, ic, hin, rfl, _⟩ := hiv.1.len; clear hiv hin hb3 hc0 hc1) | (go_at_call 44; refine (solve_any _ _ D gs (Ma.invN x) m _ (Hv.out.below Hb3.out) Hiv.out.1 hg hxg.inv h1 h2 hl hm).mono ?_; rintro e w2 ⟨sv, rfl, hsv, hb2⟩; rw [Hr.out, Hr2.out] at hsv; rw [Hr.out, Hr2.out]; have Hsv := Lib.hid hsv; have Hb2 := Lib.hid (Rg.acc Hb3.out hb2); clear hsv hb2))
    go_ret2
    exact ⟨_, rfl, Hsv.out, Hb2.out⟩
  · rw [undS_out hE]
    have hv := h
    obtain ⟨ad, cap, rfl, hc, _, _, _⟩ := h.shape
    have hba := Lib.hid (show Below w.heap.size w (w.alloc (.cells #[.int .i64 d, .slice ad ll.length cap] 24)) from (Below.refl _ _).alloc (Nat.le_refl _) _)
    have hR := right_any _ _ d ll xl n _ (hv.below hba.out) (hx.below hba.out)
    generalize slvE d ll xl n = er at hR hE ⊢
    have HR := Lib.hid hR
    have hb0 : (er != 0) = true := by rw [bne_iff_ne]; exact hE
    clear h hv hx hR hE
    go_enter Try.func23, Try.ntmps23
    go_wp2_with (go_at_call 43; refine HR.out.mono ?_; rintro e w1 ⟨rfl, hb1⟩)
    go_ret2
    exact nil_ret _ (Rg.acc hba.out hb1)
end Go.Proofs.Ytjifdmfoijoekaa

