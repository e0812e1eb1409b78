/- Lemmas and contracts on the way to the statement; no condition of their own beyond those written. -/
import Derived.Test.YtojbijkljnohoaaXZitoZk
import Derived.RangeFuncWrites
import Derived.RangeFuncNested
import Derived.RangeFuncBox
import Derived.RangeFuncLeaves
import Derived.Shelf.Abstract
import Derived.OwnWalkIn
import Derived.TacticsInMore
import Derived.LoopNIn
import Derived.LoopIn
import Derived.Maps.AppendAt
import Derived.Sort.CutIn
import Derived.Deep.CutRange
import Derived.Deep.CutBlock
import Derived.IntWalk
import Derived.Great.BuildSlice
import Derived.ArgAppend
import Derived.Laws.CopyOwn
import Derived.StillTailTactics
import Derived.Deep.MidRow
import Derived.WalkSpells
import Derived.WalkLawsBesides
import Derived.OwnWalk
import Derived.OrdersHeld
import Derived.Deep.OwnRows
import Derived.WalkKit
import Derived.Lib.Hide
import Derived.Laws.OwnMore
import Derived.Test.YtojbijkljnohoaaProg
import Derived.Outline
import Derived.Deep.DeepFit
import Derived.BigQuiet
import Derived.Deep.QuietTactic
import Derived.Sort.OwnSortedInts
import Derived.WideMake
import Derived.MapKept
import Derived.ChangeMaps5
import Derived.Shelf.Sort.Plain
import Derived.Lib.ConvBytes
import Derived.ChangeKeysEq
import Derived.Laws.Cells
import Derived.Laws.Rows
import Derived.Laws.Tables
import Derived.Deep.WholeRow
import Derived.OrdersIn
import Derived.TacticsIn
import Derived.Deep.LoopGhost
import Derived.Lib.SlicesSearch
import Derived.Lib.SmallJoins
import Derived.Deep.Matrix
set_option linter.unusedVariables false
set_option linter.unusedSimpArgs false
namespace Go.Proofs.Ytojbijkljnohoaa
open Go.RowKit
open Go.Proofs
open Go.Proofs.Ob
open Go.Proofs.Cm (Gd)
attribute [local irreducible] Go.Calls Go.wpList
theorem Zlcl0 (args : Array Value) (w : World) : (callFunc 97 args).run Try.prog w = .ok (.enter 97 args) w := by kernel_rfl
theorem Zlcl1 (args : Array Value) (w : World) : (callFunc 64 args).run Try.prog w = .ok (.enter 64 args) w := by kernel_rfl
theorem Zlcl2 (args : Array Value) (w : World) : (callFunc 48 args).run Try.prog w = .ok (.enter 48 args) w := by kernel_rfl
theorem Zlcl3 (args : Array Value) (w : World) : (callFunc 98 args).run Try.prog w = .ok (.enter 98 args) w := by kernel_rfl
theorem Zlcl4 (args : Array Value) (w : World) : (callFunc 63 args).run Try.prog w = .ok (.enter 63 args) w := by kernel_rfl
theorem exec_buildTk {o : Oper} {a : Act} {w : World} {la : Option Addr} {n c : Nat} (x : Operand) (ho : o.op = .build 75 #[(0, x)]) (hx : a.eval x = .slice la n c) :
    (execOp a.eval o).run Try.prog w = .ok (.value (.agg #[.slice la n c, .int .i64 0])) w := by
  unfold execOp
  simp only [ho, Sem.run_bind, Sem.run_pure]
  simp only [List.map_toArray, List.map_cons, List.map_nil, hx]
  have h : (Instr.build 75 #[(0, .slice la n c)]).run Try.prog w = .ok (.agg #[.slice la n c, .int .i64 0]) w := by kernel_rfl
  first | (rw [h]; rfl) | (erw [h]; rfl)
theorem Tk.new {w : World} {la : Option Addr} {n c : Nat} {l : List Int} {W : World} (hb : Below w.heap.size w W) (hl : Rg.IntsB maxLen w (.slice la n c) l) (t : TypeId) : Tk w (W.alloc (.cells #[.slice la n c, .int .i64 0] t)) W.heap.size 0 (.slice la n c) l :=
  ⟨by rw [Rg.cellNew]; rfl, by rw [Rg.cellNew]; rfl, frozenNewN _ _ _ 0 _, by simp, hb.size, hb.alloc hb.size _, hl⟩
structure CW1 (w : World) (b : Nat) (v : Value) : Prop where
  c : w.cell? ⟨b, 1, none⟩ = some v
  f : w.frozen? ⟨b, 1, none⟩ = false
  lt : b < w.heap.size
theorem Tk.up {w0 w w' : World} {tk k : Nat} {lv : Value} {l : List Int} (h : Tk w0 w tk k lv l) (hb : Below w.heap.size w w') : Tk w0 w' tk k lv l := h.below hb
theorem PRow.up {w w' : World} {g n : Nat} {y : List Nat} (h : PRow w g n y) (hb : Below w.heap.size w w') : PRow w' g n y := h.below hb
theorem RwAt.up {w w' : World} {g n : Nat} {f : Nat → Int} (h : RwAt w g n f) (hb : Below w.heap.size w w') : RwAt w' g n f := h.below hb
theorem _root_.Go.Proofs.Rg.Kp.up {M : Nat → Prop} {w w' w'' : World} (h : Rg.Kp M w w') (hb : Below w'.heap.size w' w'') : Rg.Kp M w w'' := kpAcc h hb
structure FZ (w : World) (b o : Nat) : Prop where
  f : w.frozen? ⟨b, o, none⟩ = false
  lt : b < w.heap.size
theorem FZ.below {w w' : World} {b o : Nat} (h : FZ w b o) (hb : Below w.heap.size w w') : FZ w' b o := ⟨(hb.frozen (p := ⟨b, o, none⟩) h.lt).trans h.f, Nat.lt_of_lt_of_le h.lt hb.size⟩
theorem FZ.kp {M : Nat → Prop} {w w' : World} {b o : Nat} (h : FZ w b o) (hk : Rg.Kp M w w') (hM : ¬ M b) : FZ w' b o := ⟨(World.frozen?_of_block (a := ⟨b, o, none⟩) (hk.block b h.lt hM)).trans h.f, Nat.lt_of_lt_of_le h.lt hk.size⟩
theorem gset (W : World) (x y : Value) (t : TypeId) : CL (((W.alloc (.cells #[.int .i64 0, .slice none 0 0] t)).setCell ⟨W.heap.size, 0, none⟩ x).setCell ⟨W.heap.size, 1, none⟩ y) W.heap.size 0 x ∧ (CW1 (((W.alloc (.cells #[.int .i64 0, .slice none 0 0] t)).setCell ⟨W.heap.size, 0, none⟩ x).setCell ⟨W.heap.size, 1, none⟩ y) W.heap.size y) ∧ Below W.heap.size W (((W.alloc (.cells #[.int .i64 0, .slice none 0 0] t)).setCell ⟨W.heap.size, 0, none⟩ x).setCell ⟨W.heap.size, 1, none⟩ y) := by
  have c0 : (W.alloc (.cells #[.int .i64 0, .slice none 0 0] t)).cell? ⟨W.heap.size, 0, none⟩ = some (.int .i64 0) := by rw [Rg.cellNew]; rfl
  have c1 : (W.alloc (.cells #[.int .i64 0, .slice none 0 0] t)).cell? ⟨W.heap.size, 1, none⟩ = some (.slice none 0 0) := by rw [Rg.cellNew]; rfl
  have f1 : (W.alloc (.cells #[.int .i64 0, .slice none 0 0] t)).frozen? ⟨W.heap.size, 1, none⟩ = false := frozenNewN _ _ _ 0 _
  have c1' : ((W.alloc (.cells #[.int .i64 0, .slice none 0 0] t)).setCell ⟨W.heap.size, 0, none⟩ x).cell? ⟨W.heap.size, 1, none⟩ = some (.slice none 0 0) := by
    rw [World.cell?_setCell_other (h := by intro e; injection e with e1 e2; omega) ..]; exact c1
  refine ⟨⟨?_, by simp⟩, ⟨World.cell?_setCell_same (h := c1') .., by rw [World.frozen?_setCell, World.frozen?_setCell]; exact f1, by simp⟩, (((Below.refl _ _).alloc (Nat.le_refl _) _).setCell (p := ⟨W.heap.size, 0, none⟩) (Nat.le_refl _) x).setCell (p := ⟨W.heap.size, 1, none⟩) (Nat.le_refl _) y⟩
  rw [World.cell?_setCell_other (h := by intro e; injection e with e1 e2; omega) ..]
  exact World.cell?_setCell_same (h := c0) ..
theorem gfin {w W : World} {rb : Nat} {u0 u1 x y : Value} (h0 : W.cell? ⟨rb, 0, none⟩ = some u0) (h1 : W.cell? ⟨rb, 1, none⟩ = some u1) (hlt : rb < W.heap.size) (hb : Below w.heap.size w W) (hlo : w.heap.size ≤ rb := by omega) :
    ((W.setCell ⟨rb, 0, none⟩ x).setCell ⟨rb, 1, none⟩ y).cell? ⟨rb, 0, none⟩ = some x ∧ ((W.setCell ⟨rb, 0, none⟩ x).setCell ⟨rb, 1, none⟩ y).cell? ⟨rb, 1, none⟩ = some y ∧ Below w.heap.size w ((W.setCell ⟨rb, 0, none⟩ x).setCell ⟨rb, 1, none⟩ y) ∧ Rg.Kp (fun z => z = rb) W ((W.setCell ⟨rb, 0, none⟩ x).setCell ⟨rb, 1, none⟩ y) := by
  have c1 : (W.setCell ⟨rb, 0, none⟩ x).cell? ⟨rb, 1, none⟩ = some u1 := by
    rw [World.cell?_setCell_other (h := by intro e; injection e with e1 e2; omega) ..]; exact h1
  refine ⟨?_, World.cell?_setCell_same (h := c1) .., (hb.setCell (p := ⟨rb, 0, none⟩) hlo x).setCell (p := ⟨rb, 1, none⟩) hlo y, Rg.Kp.trans (M := fun z => z = rb) (Rg.Kp.of_setCell rfl) (Rg.Kp.of_setCell (M := fun z => z = rb) rfl) (fun _ _ e => e)⟩
  rw [World.cell?_setCell_other (h := by intro e; injection e with e1 e2; omega) ..]
  exact World.cell?_setCell_same (h := h0) ..
theorem PRow.fp {w : World} {g n cap : Nat} {y : List Nat} (h : PRow w g n y) (gy : Gd n y) (hc : n ≤ cap) (hm : cap ≤ maxLen) (h1 : 1 ≤ n) (hn : n ≤ 1000) {F : Nat → Prop} (hF : F g) : FP F w (.slice (some ⟨g, 0, none⟩) n cap) y :=
  Rg.FVals.of (h.np gy hc hm hn) (fun k e => by simp [Value.ownBlock] at e; exact e ▸ hF)
def GM (tk gb rb z : Nat) : Prop := z = tk ∨ z = gb ∨ z = rb
structure RowH (B : Nat) (F M : Nat → Prop) (W : World) (v : Value) (l : List (List Nat)) : Prop where
  size : B ≤ W.heap.size
  own : ∃ us, W.ownsRow B 62 1 v l.length us ∧ Rg.FElts F W us (l.map Ma.ofN)
  off : ∀ k, v.ownBlock = some k → ¬ F k ∧ ¬ M k
theorem RowH.lt {B : Nat} {F M : Nat → Prop} {W : World} {v : Value} {l : List (List Nat)} (h : RowH B F M W v l) : ∀ k, v.ownBlock = some k → B ≤ k ∧ k < W.heap.size := fun k e => by
  obtain ⟨us, h1, h2⟩ := h.own
  exact h1.lt k e
theorem RowH.shape {B : Nat} {F M : Nat → Prop} {W : World} {v : Value} {l : List (List Nat)} (h : RowH B F M W v l) : ∃ a c, v = .slice a l.length c := by
  obtain ⟨us, h1, h2⟩ := h.own
  exact Rg.row_shape h1
theorem RowH.nil (B : Nat) (F M : Nat → Prop) (W : World) (hB : B ≤ W.heap.size) : RowH B F M W (.slice none 0 0) [] :=
  ⟨hB, ⟨[], World.ownsRow_nil _ _ _ _, Rg.FElts.nil _ _⟩, fun k e => by simp [Value.ownBlock] at e⟩
theorem RowH.rows {B : Nat} {F M : Nat → Prop} {W : World} {v : Value} {l : List (List Nat)} (h : RowH B F M W v l) (hl : l.length ≤ 1000000000) : Rg.Rows W v (l.map Ma.ofN) := by
  obtain ⟨us, h1, h2⟩ := h.own
  exact Rg.Rows.of_row h1 hl h2.1 (fun i a b => (h2.2 i a b).ints)
theorem RowH.kp {B : Nat} {F M N : Nat → Prop} {W W' : World} {v : Value} {l : List (List Nat)} (h : RowH B F M W v l) (hk : Rg.Kp N W W') (hF : ∀ k, F k → ¬ N k) (hN : ∀ k, v.ownBlock = some k → ¬ N k) : RowH B F M W' v l := by
  obtain ⟨us, h1, h2⟩ := h.own
  exact ⟨Nat.le_trans h.size hk.size, ⟨us, rowKp h1 hk (fun k hn e => hN k e hn), h2.kp hk hF⟩, h.off⟩
theorem RowH.upk {B : Nat} {F M N : Nat → Prop} {W W' : World} {v : Value} {l : List (List Nat)} (h : RowH B F M W v l) (hk : Rg.Kp N W W') (hF : ∀ k, F k → ¬ N k) (hN : ∀ k, N k → M k) : RowH B (Fup F W W') M W' v l := by
  obtain ⟨us, h1, h2⟩ := h.own
  refine ⟨Nat.le_trans h.size hk.size, ⟨us, rowKp h1 hk (fun k hn e => (h.off k e).2 (hN k hn)), (h2.kp hk hF).mono fun k => .inl⟩, fun k e => ⟨fun g => ?_, (h.off k e).2⟩⟩
  have := (h.lt k e).2
  rcases g with g | g
  · exact (h.off k e).1 g
  · omega
theorem RowH.push {B : Nat} {F M : Nat → Prop} {W : World} {v : Value} {l : List (List Nat)} (h : RowH B F M W v l) {u : Value} {x : List Nat} (hu : FP F W u x) (hs : ∃ a m c, u = .slice a m c) (hF : ∀ k, F k → k < W.heap.size) (hM : ∀ k, M k → k < W.heap.size) (hn : l.length < 1000000) (ty : TypeId) :
    ∃ a c X, (Builtin.append_ #[22, 22] ty #[v, .slice (some ⟨W.heap.size, 0, none⟩) 1 1]).run Try.prog (W.alloc (.cells #[u] 62)) = .ok (.slice a (l.length + 1) c) X ∧ RowH B F M X (.slice a (l.length + 1) c) (l ++ [x]) ∧ Rg.Kp (fun k => v.ownBlock = some k) W X := by
  obtain ⟨us, h1, h2⟩ := h.own
  obtain ⟨a0, m0, c0, rfl⟩ := hs
  have hb : Below W.heap.size W (W.alloc (.cells #[.slice a0 m0 c0] 62)) := (Below.refl _ _).alloc (Nat.le_refl _) _
  obtain ⟨v', X, r1, r2, r3, r4, a, c, rfl⟩ := app_run (P := Try.prog) slPerms ty (Rg.row_below h1 hb) (Nat.le_trans h.size hb.size) W.heap.size 1 (u := .slice a0 m0 c0) (by rw [Rg.cellNew]; rfl) rfl hn
  have hk : Rg.Kp (fun k => v.ownBlock = some k) W X := Rg.Kp.trans (M := fun k => v.ownBlock = some k) ((Rg.Kp.of_below hb).weak fun _ => False.elim) (Rg.Kp.of_grown r3 fun _ e => e) (fun _ _ e => e)
  have hg : ∀ k, F k → ¬ v.ownBlock = some k := fun k g e => (h.off k e).1 g
  refine ⟨a, c, X, r1, ⟨Nat.le_trans h.size hk.size, ⟨us ++ [.slice a0 m0 c0], by rw [List.length_append]; exact r2, by rw [List.map_append]; exact FElts.snoc (h2.kp hk hg) (Rg.FI.kp hu hk hg)⟩, fun k e => ?_⟩, hk⟩
  rcases r4 with r4 | r4
  · exact h.off k (by rw [← r4]; exact e)
  · rw [r4] at e
    injection e with e
    have e2 : (W.alloc (.cells #[.slice a0 m0 c0] 62)).heap.size = W.heap.size + 1 := by simp
    exact ⟨fun g => by have := hF _ g; omega, fun g => by have := hM _ g; omega⟩
structure GOf (w W : World) (tk gb rb k d : Nat) (lv : Value) (l : List Int) (F : Nat → Prop) (gv : Value) (gs : List (List Nat)) : Prop where
  tkr : Tk w W tk k lv l
  g0 : CL W gb 0 (.int .i64 ((d : Nat) : Int))
  g1 : W.cell? ⟨gb, 1, none⟩ = some gv
  gf : W.frozen? ⟨gb, 1, none⟩ = false
  r0 : ∃ u, W.cell? ⟨rb, 0, none⟩ = some u
  r1 : ∃ u, W.cell? ⟨rb, 1, none⟩ = some u
  rf0 : W.frozen? ⟨rb, 0, none⟩ = false
  rf1 : W.frozen? ⟨rb, 1, none⟩ = false
  rlt : rb < W.heap.size
  rw : RowH w.heap.size F (GM tk gb rb) W gv gs
  nF : ∀ z, GM tk gb rb z → ¬ F z
  Flt : ∀ z, F z → z < W.heap.size
  n1 : gb ≠ tk
  n2 : rb ≠ tk
  n3 : rb ≠ gb
  lo : ∀ z, GM tk gb rb z → w.heap.size ≤ z
theorem GOf.kt {w W W' : World} {tk gb rb k k' d : Nat} {lv : Value} {l : List Int} {F : Nat → Prop} {gv : Value} {gs : List (List Nat)} (h : GOf w W tk gb rb k d lv l F gv gs) (hk : Rg.Kp (fun z => z = tk) W W') (ht : Tk w W' tk k' lv l) : GOf w W' tk gb rb k' d lv l (Fup F W W') gv gs := by
  have hg := World.cell?_of_block (a := ⟨gb, 1, none⟩) (hk.block gb h.g0.lt h.n1)
  have hgf := World.frozen?_of_block (a := ⟨gb, 1, none⟩) (hk.block gb h.g0.lt h.n1)
  have hb := hk.block rb h.rlt h.n2
  refine ⟨ht, h.g0.kp hk h.n1, hg.trans h.g1, hgf.trans h.gf, ?_, ?_, (World.frozen?_of_block (a := ⟨rb, 0, none⟩) hb).trans h.rf0, (World.frozen?_of_block (a := ⟨rb, 1, none⟩) hb).trans h.rf1, Nat.lt_of_lt_of_le h.rlt hk.size, h.rw.upk hk (fun z hz e => h.nF z (.inl e) hz) (fun z e => .inl e), fun z hz hf => ?_, fun z hf => ?_, h.n1, h.n2, h.n3, h.lo⟩
  · obtain ⟨u, hu⟩ := h.r0; exact ⟨u, (World.cell?_of_block (a := ⟨rb, 0, none⟩) hb).trans hu⟩
  · obtain ⟨u, hu⟩ := h.r1; exact ⟨u, (World.cell?_of_block (a := ⟨rb, 1, none⟩) hb).trans hu⟩
  · rcases hf with hf | hf
    · exact h.nF z hz hf
    · rcases hz with e | e | e
      · have := h.tkr.lt; omega
      · have := h.g0.lt; omega
      · have := h.rlt; omega
  · rcases hf with hf | hf
    · exact Nat.lt_of_lt_of_le (h.Flt z hf) hk.size
    · exact hf.2
theorem GOf.push {w W : World} {tk gb rb k d : Nat} {lv : Value} {l : List Int} {F : Nat → Prop} {gv : Value} {gs : List (List Nat)} (h : GOf w W tk gb rb k d lv l F gv gs) {u : Value} {y : List Nat} (hu : FP F W u y) (hs : ∃ a m c, u = .slice a m c) (hn : gs.length < 1000000) (ty : TypeId) :
    ∃ a c X, (Builtin.append_ #[22, 22] ty #[gv, .slice (some ⟨W.heap.size, 0, none⟩) 1 1]).run Try.prog (W.alloc (.cells #[u] 62)) = .ok (.slice a (gs.length + 1) c) X ∧ X.cell? ⟨gb, 1, none⟩ = some gv ∧ X.frozen? ⟨gb, 1, none⟩ = false ∧
      GOf w (X.setCell ⟨gb, 1, none⟩ (.slice a (gs.length + 1) c)) tk gb rb k d lv l F (.slice a (gs.length + 1) c) (gs ++ [y]) := by
  have hM : ∀ z, GM tk gb rb z → z < W.heap.size := fun z e => by
    rcases e with e | e | e
    · have := h.tkr.lt; omega
    · have := h.g0.lt; omega
    · have := h.rlt; omega
  obtain ⟨a, c, X, r1, r2, r3⟩ := h.rw.push hu hs h.Flt hM hn ty
  have hO : ∀ z, GM tk gb rb z → ¬ gv.ownBlock = some z := fun z hz e => (h.rw.off z e).2 hz
  have hFo : ∀ z, F z → ¬ gv.ownBlock = some z := fun z hz e => (h.rw.off z e).1 hz
  have hkg := r3.block gb h.g0.lt (hO gb (.inr (.inl rfl)))
  have hkr := r3.block rb h.rlt (hO rb (.inr (.inr rfl)))
  have hc1 := (World.cell?_of_block (a := ⟨gb, 1, none⟩) hkg).trans h.g1
  have hf1 := (World.frozen?_of_block (a := ⟨gb, 1, none⟩) hkg).trans h.gf
  have hk2 : Rg.Kp (fun z => z = gb) X (X.setCell ⟨gb, 1, none⟩ (.slice a (gs.length + 1) c)) := Rg.Kp.of_setCell rfl
  have hFg : ∀ z, F z → ¬ z = gb := fun z hz e => h.nF z (.inr (.inl e)) hz
  have hkr2 := hk2.block rb (Nat.lt_of_lt_of_le h.rlt r3.size) h.n3
  refine ⟨a, c, X, r1, hc1, hf1, ⟨(h.tkr.kp r3 (hO tk (.inl rfl)) (fun z e => (h.rw.lt z e).1)).kp hk2 (fun e => h.n1 e.symm) (fun z e => e ▸ h.lo gb (.inr (.inl rfl))), ?_, World.cell?_setCell_same (h := hc1) .., by rw [World.frozen?_setCell]; exact hf1, ?_, ?_, ?_, ?_, Nat.lt_of_lt_of_le h.rlt (Nat.le_trans r3.size hk2.size), r2.kp hk2 hFg (fun k e e2 => ?_), h.nF, fun z hz => Nat.lt_of_lt_of_le (h.Flt z hz) (Nat.le_trans r3.size hk2.size), h.n1, h.n2, h.n3, h.lo⟩⟩
  · refine ⟨?_, Nat.lt_of_lt_of_le h.g0.lt (Nat.le_trans r3.size hk2.size)⟩
    rw [World.cell?_setCell_other (h := by intro e; injection e with e1 e2; omega) ..]
    exact (World.cell?_of_block (a := ⟨gb, 0, none⟩) hkg).trans h.g0.cell
  · obtain ⟨u', hu'⟩ := h.r0
    exact ⟨u', (World.cell?_of_block (a := ⟨rb, 0, none⟩) hkr2).trans ((World.cell?_of_block (a := ⟨rb, 0, none⟩) hkr).trans hu')⟩
  · obtain ⟨u', hu'⟩ := h.r1
    exact ⟨u', (World.cell?_of_block (a := ⟨rb, 1, none⟩) hkr2).trans ((World.cell?_of_block (a := ⟨rb, 1, none⟩) hkr).trans hu')⟩
  · exact (World.frozen?_of_block (a := ⟨rb, 0, none⟩) hkr2).trans ((World.frozen?_of_block (a := ⟨rb, 0, none⟩) hkr).trans h.rf0)
  · exact (World.frozen?_of_block (a := ⟨rb, 1, none⟩) hkr2).trans ((World.frozen?_of_block (a := ⟨rb, 1, none⟩) hkr).trans h.rf1)
  · subst e2
    exact (r2.off k e).2 (.inr (.inl rfl))
def GoPost (most : Nat) (w : World) (e : Ending) (w' : World) : Prop := ∃ (d : Nat) (gv : Value) (gs : List (List Nat)), e = .returned (.agg #[.int .i64 ((d : Nat) : Int), gv]) ∧ 1 ≤ d ∧ d ≤ most ∧ gs.length ≤ 3 ∧ (∀ s ∈ gs, Gd d s) ∧ Rg.Rows w' gv (gs.map Ma.ofN) ∧ Below w.heap.size w w'
theorem GOf.start {w W : World} {tk gb rb k d : Nat} {lv : Value} {l : List Int} (ht : Tk w W tk k lv l) (h0 : CL W gb 0 (.int .i64 ((d : Nat) : Int))) (h1 : CL W gb 1 (.slice none 0 0)) (hf : W.frozen? ⟨gb, 1, none⟩ = false) (r0 : ∃ u, W.cell? ⟨rb, 0, none⟩ = some u) (r1 : ∃ u, W.cell? ⟨rb, 1, none⟩ = some u) (rf0 : W.frozen? ⟨rb, 0, none⟩ = false) (rf1 : W.frozen? ⟨rb, 1, none⟩ = false) (n1 : gb ≠ tk) (n2 : rb ≠ tk) (n3 : rb ≠ gb) (rlt : rb < W.heap.size) (lo1 : w.heap.size ≤ gb) (lo2 : w.heap.size ≤ rb) : GOf w W tk gb rb k d lv l (fun _ => False) (.slice none 0 0) [] :=
  ⟨ht, h0, h1.cell, hf, r0, r1, rf0, rf1, rlt, RowH.nil _ _ _ _ ht.bel.size, fun _ _ => id, fun _ => False.elim, n1, n2, n3, fun z e => by rcases e with rfl | rfl | rfl; exact ht.lo; exact lo1; exact lo2⟩
set_option maxRecDepth 100000 in
set_option maxHeartbeats 16000000 in
theorem GroupOf_any (lv : Value) (l : List Int) (most : Nat) (w : World) (hl : Rg.IntsB maxLen w lv l) (hm1 : 1 ≤ most) (hm2 : most ≤ 64) :
    Calls Try.prog 46 #[lv, .int .i64 ((most : Nat) : Int)] w (GoPost most w) := by
  obtain ⟨la, lc, rfl, -⟩ := hl.shape
  have HL := Lib.hid hl
  have K := Lib.hid (Below.refl w.heap.size w)
  clear hl
  have hs0 : w.heap.size = w.heap.size + 0 := rfl
  go_enter Try.func46, Try.ntmps46
  go_upto_region 0 with (fail)
  refine wp_region_list ?_
  have hg0 := box2 w (.int .i64 0) (.slice none 0 0)
  have hgf0 := frozenNewN w #[.int .i64 0, .slice none 0 0] 24 0 0
  have hgf1 := frozenNewN w #[.int .i64 0, .slice none 0 0] 24 0 1
  refine Rg.list_run (some 4) rfl rfl (exec_allocG rfl) ?_
  go_frame
  have hb := (Below.refl w.heap.size w).alloc (Nat.le_refl _) (.cells #[.int .i64 0, .slice none 0 0] 24)
  generalize w.alloc (.cells #[.int .i64 0, .slice none 0 0] 24) = w1 at *
  replace K := Lib.hid (Rg.acc K.out hb)
  clear hb
  have R0 := Lib.hid hg0.1
  have R1 := Lib.hid hg0.2
  have F0 := Lib.hid (show w1.frozen? ⟨w.heap.size, 0, none⟩ = false from hgf0)
  have F1 := Lib.hid (show w1.frozen? ⟨w.heap.size, 1, none⟩ = false from hgf1)
  clear hg0 hgf0 hgf1
  have FR0 := Lib.hid (show FZ w1 w.heap.size 0 from ⟨F0.out, R0.out.lt⟩)
  have FR1 := Lib.hid (show FZ w1 w.heap.size 1 from ⟨F1.out, R1.out.lt⟩)
  clear F0 F1
  go_upto_region 1 with (fail)
  refine wp_region_list ?_
  refine Rg.list_run (some 10) rfl rfl (Rg.exec_move (v := .slice la l.length lc) _ rfl rfl) ?_
  go_frame
  refine Rg.list_run (some 11) rfl rfl (exec_buildTk _ rfl rfl) ?_
  go_frame
  have htk := Tk.new K.out HL.out 75
  have HRT := Lib.hid R0.out.lt
  refine Rg.list_run (some 12) rfl rfl (Rg.exec_box _ _ rfl rfl) ?_
  go_frame
  have hb := (Below.refl w1.heap.size w1).alloc (Nat.le_refl _) (.cells #[.slice la l.length lc, .int .i64 0] 75)
  generalize w1.alloc (.cells #[.slice la l.length lc, .int .i64 0] 75) = w2 at *
  replace R0 := Lib.hid (R0.out.below hb)
  replace R1 := Lib.hid (R1.out.below hb)
  replace FR0 := Lib.hid (FR0.out.below hb)
  replace FR1 := Lib.hid (FR1.out.below hb)
  replace K := Lib.hid (Rg.acc K.out hb)
  clear hb
  have TK := Lib.hid htk
  refine Rg.list_run (some 5) rfl rfl (Rg.exec_assign (v := .pointer (some ⟨w1.heap.size, 0, none⟩)) _ rfl rfl) ?_
  go_frame
  clear htk
  have HLO := Lib.hid R0.out.lt
  have HT0 := Lib.hid TK.out.lt
  have HTL := Lib.hid TK.out.lo
  have HTR := Lib.hid (show w.heap.size < w1.heap.size from HRT.out)
  go_upto_region 2 with (fail)
  refine wp_region_list ?_
  refine Rg.list_run (some 13) rfl rfl (Rg.exec_move (v := .pointer (some ⟨w1.heap.size, 0, none⟩)) _ rfl rfl) ?_
  go_frame
  refine Rg.list_run (some 14) rfl rfl (Rg.exec_move (v := .int .i64 ((most : Nat) : Int)) _ rfl rfl) ?_
  go_frame
  refine list_ask (some 15) rfl rfl _ _ (exec_fn 97 _ _ _ rfl rfl rfl (Zlcl0 _ _)) ?_
  refine (Take_any TK.out ((most : Nat) : Int) (by omega)).mono ?_
  rintro e1 w3 ⟨r0, k0, rfl, hra, hrb, htk, hkp⟩
  have hr0 := R0.out.kp hkp (fun e => by have := HTR.out; omega)
  have hr1 := R1.out.kp hkp (fun e => by have := HTR.out; omega)
  have hf0 := FR0.out.kp hkp (fun e => by have := HTR.out; omega)
  have hf1 := FR1.out.kp hkp (fun e => by have := HTR.out; omega)
  have hr0m : r0 < most := by have := hra (by omega); omega
  clear hra hrb
  refine ⟨_, rfl, ?_⟩
  go_frame
  clear TK
  replace R0 := Lib.hid hr0
  replace R1 := Lib.hid hr1
  replace FR0 := Lib.hid hf0
  replace FR1 := Lib.hid hf1
  replace K := Lib.hid (show Below w.heap.size w _ from Rg.Kp.below K.out hkp (fun z e => by have := HTL.out; omega))
  have TK := Lib.hid htk
  clear hkp hr0 hr1 hf0 hf1
  refine Rg.list_run (some 16) rfl rfl (exec_bin (R := .int .i64 (((1 + r0) : Nat) : Int)) .add _ _ _ rfl rfl rfl (b_add _ (by omega) (by omega))) ?_
  go_frame
  refine Rg.list_run (some 17) rfl rfl (exec_buildG1 _ rfl rfl) ?_
  go_frame
  have hnb := box2 w3 (.int .i64 0) (.slice none 0 0)
  have hnf0 := frozenNewN w3 #[.int .i64 0, .slice none 0 0] 24 0 0
  have hnf1 := frozenNewN w3 #[.int .i64 0, .slice none 0 0] 24 0 1
  refine Rg.list_run (some 6) rfl rfl (exec_allocG rfl) ?_
  go_frame
  refine Rg.list_skip none rfl rfl (Rg.exec_store _ _ _ rfl _ rfl _ rfl (run_storeG _ _ _ _ hnb.1.cell hnb.2.cell hnf0 hnf1)) ?_
  go_frame
  clear htk
  have HD : 1 ≤ 1 + r0 ∧ 1 + r0 ≤ most := ⟨by omega, by omega⟩
  obtain ⟨d, hd⟩ : ∃ d, 1 + r0 = d := ⟨_, rfl⟩
  rw [hd] at HD ⊢
  obtain ⟨gq1, gq2, gq3⟩ := gset w3 (.int .i64 ((d : Nat) : Int)) (.slice none 0 0) 24
  have HG1 := Lib.hid (show w3.heap.size ≠ w1.heap.size ∧ w.heap.size ≠ w3.heap.size from ⟨fun e => by have := TK.out.lt; omega, fun e => by have := R0.out.lt; omega⟩)
  have HSW := Lib.hid K.out.size
  replace R0 := Lib.hid (R0.out.below gq3)
  replace R1 := Lib.hid (R1.out.below gq3)
  replace FR0 := Lib.hid (FR0.out.below gq3)
  replace FR1 := Lib.hid (FR1.out.below gq3)
  replace TK := Lib.hid (TK.out.below gq3)
  generalize ((w3.alloc (.cells #[.int .i64 0, .slice none 0 0] 24)).setCell ⟨w3.heap.size, 0, none⟩ (.int .i64 ((d : Nat) : Int))).setCell ⟨w3.heap.size, 1, none⟩ (.slice none 0 0) = w30 at *
  have GO := Lib.hid (show GOf w w30 w1.heap.size w3.heap.size w.heap.size k0 d (.slice la l.length lc) l (fun _ => False) (.slice none 0 0) [] from GOf.start TK.out gq1 ⟨gq2.c, gq2.lt⟩ gq2.f ⟨_, R0.out.cell⟩ ⟨_, R1.out.cell⟩ FR0.out.f FR1.out.f HG1.out.1 (fun e => by have := HTR.out; omega) HG1.out.2 R0.out.lt HSW.out (Nat.le_refl _))
  clear gq1 gq2 gq3 hnb hnf0 hnf1 R0 R1 FR0 FR1 TK K hd hr0m
  go_upto_region 3 with (fail)
  refine wp_region_list ?_
  refine Rg.list_run (some 18) rfl rfl (Rg.exec_move (v := .pointer (some ⟨w1.heap.size, 0, none⟩)) _ rfl rfl) ?_
  go_frame
  refine list_ask (some 19) rfl rfl _ _ (exec_fn 97 _ _ _ rfl rfl rfl (Zlcl0 _ _)) ?_
  refine (Take_any GO.out.tkr 4 (by omega)).mono ?_
  rintro e1 w31 ⟨r3, k3, rfl, hra, hrb, htk, hkp⟩
  have hgo := GO.out.kt hkp htk
  have hr4 : r3 ≤ 3 := by have := hra (by omega); omega
  clear hra hrb htk
  refine ⟨_, rfl, ?_⟩
  go_frame
  clear hkp
  refine Rg.list_run (some 7) rfl rfl (Rg.exec_assign (v := .int .i64 ((r3 : Nat) : Int)) _ rfl rfl) ?_
  go_frame
  replace GO := Lib.hid hgo
  have HR3 := Lib.hid hr4
  have HDD := Lib.hid HD
  clear hgo hr4 HD
  go_wp2
  go_loopw [7] (fun kv wr => ∃ (k k' : Nat) (F : Nat → Prop) (gv : Value) (gs : List (List Nat)), kv = .int .i64 k ∧ k ≤ 3 ∧ Hid (gs.length + k ≤ 3) ∧ Hid (∀ s ∈ gs, Gd d s) ∧ Hid (GOf w wr w1.heap.size w3.heap.size w.heap.size k' d (.slice la l.length lc) l F gv gs)) (fun kv _ => (intOf kv).toNat)
  case atStart => exact ⟨r3, k3, _, _, [], rfl, HR3.out, by rw [List.length_nil, Nat.zero_add]; exact HR3, Lib.hid (fun s hs => by simp at hs), GO⟩
  case round =>
    clear GO HR3
    obtain ⟨k, k', F, gv, gs, rfl, hk3, HGL, HGS, GO⟩ := hrel
    obtain ⟨gva, gvc, rfl⟩ := GO.out.rw.shape
    have hd1 : 1 ≤ d := HDD.out.1
    have hd2 : d ≤ 64 := by have := HDD.out.2; omega
    by_cases hk0 : 0 < k
    case neg =>
      obtain rfl : k = 0 := by omega
      go_upto_region 4 with (fail)
      refine wp_region_list ?_
      refine Rg.list_run (some 20) rfl rfl (Rg.exec_move (v := .int .i64 ((0 : Nat) : Int)) _ rfl rfl) ?_
      go_frame
      refine Rg.list_run (some 21) rfl rfl (exec_bin (R := .bool false) .gtr _ _ _ rfl rfl rfl (b_gtr _ (decide_eq_false (by omega)))) ?_
      go_frame
      obtain ⟨u0, hu0⟩ := GO.out.r0
      obtain ⟨u1, hu1⟩ := GO.out.r1
      go_upto_region 15 with (fail)
      refine wp_region_list ?_
      refine Rg.list_run (some 79) rfl rfl (Rg.exec_load (v := .agg #[.int .i64 ((d : Nat) : Int), .slice gva gs.length gvc]) _ _ rfl ⟨w3.heap.size, 0, none⟩ rfl (run_loadG GO.out.g0.cell GO.out.g1)) ?_
      go_frame
      refine Rg.list_skip none rfl rfl (Rg.exec_store _ _ _ rfl _ rfl _ rfl (run_storeG _ _ _ _ hu0 hu1 GO.out.rf0 GO.out.rf1)) ?_
      go_frame
      have hfin := gfin (x := .int .i64 ((d : Nat) : Int)) (y := (.slice gva gs.length gvc)) hu0 hu1 GO.out.rlt GO.out.tkr.bel
      have hrw := (GO.out.rw.kp hfin.2.2.2 (fun z hz e => GO.out.nF z (.inr (.inr e)) hz) (fun z e1 e2 => (GO.out.rw.off z e1).2 (.inr (.inr e2)))).rows (by have := HGL.out; omega)
      generalize (wr.setCell ⟨w.heap.size, 0, none⟩ (.int .i64 ((d : Nat) : Int))).setCell ⟨w.heap.size, 1, none⟩ (.slice gva gs.length gvc) = w199 at *
      have HF1 := Lib.hid hfin
      have HF2 := Lib.hid (show GoPost most w (.returned (.agg #[.int .i64 ((d : Nat) : Int), (.slice gva gs.length gvc)])) w199 from ⟨d, _, gs, rfl, HDD.out.1, HDD.out.2, by have := HGL.out; omega, HGS.out, hrw, hfin.2.2.1⟩)
      clear hfin hrw hu0 hu1
      go_wp2
      exact bodyPost_ret (results_cellG rfl _ rfl HF1.out.1 HF1.out.2.1) rfl HF2.out
    case pos =>
      have hkN : (0 : Int) < (k : Int) := by omega
      obtain ⟨q, rfl⟩ : ∃ q, k = q + 1 := ⟨k - 1, by omega⟩
      go_upto_region 4 with (fail)
      refine wp_region_list ?_
      refine Rg.list_run (some 20) rfl rfl (Rg.exec_move (v := .int .i64 (((q + 1) : Nat) : Int)) _ rfl rfl) ?_
      go_frame
      refine Rg.list_run (some 21) rfl rfl (exec_bin (R := .bool true) .gtr _ _ _ rfl rfl rfl (b_gtr _ (decide_eq_true (by omega)))) ?_
      go_frame
      have GC := Lib.hid GO.out.g0
      have TK := Lib.hid GO.out.tkr
      have KT := Lib.hid (Rg.Kp.refl (fun z => z = w1.heap.size) wr)
      have HNE := Lib.hid GO.out.n1
      have HTW := Lib.hid GO.out.tkr.lt
      have HTL2 := Lib.hid GO.out.tkr.lo
      go_upto_region 6 with (fail)
      refine wp_region_list ?_
      refine Rg.list_run (some 24) rfl rfl (exec_fieldG0 _ rfl rfl) ?_
      go_frame
      refine Rg.list_run (some 25) rfl rfl (Rg.exec_load (v := .int .i64 ((d : Nat) : Int)) _ _ rfl ⟨w3.heap.size, 0, none⟩ rfl (run_loadInt GC.out.cell)) ?_
      go_frame
      refine list_ask (some 26) rfl rfl _ _ (exec_fn1 64 _ _ rfl rfl (Zlcl1 _ _)) ?_
      refine (kitOne_row d wr hd1 (by omega)).mono ?_
      rintro e1 w201 ⟨g, cap, rfl, hg, hc1, hc2, hro, hb⟩
      have HG := Lib.hid hg
      have HCP := Lib.hid (show d ≤ cap ∧ cap ≤ maxLen from ⟨hc1, hc2⟩)
      clear hg hc1 hc2
      refine ⟨_, rfl, ?_⟩
      go_frame
      replace GC := Lib.hid (GC.out.below hb)
      replace TK := Lib.hid (TK.out.below hb)
      replace KT := Lib.hid (kpAcc KT.out hb)
      clear hb
      have PR := Lib.hid hro
      refine Rg.list_run (some 8) rfl rfl (Rg.exec_assign (v := .slice (some ⟨g, 0, none⟩) d cap) _ rfl rfl) ?_
      go_frame
      clear hro
      go_upto_region 7 with (fail)
      refine wp_region_list ?_
      refine Rg.list_run (some 27) rfl rfl (Rg.exec_move (v := .pointer (some ⟨w1.heap.size, 0, none⟩)) _ rfl rfl) ?_
      go_frame
      refine list_ask (some 28) rfl rfl _ _ (exec_fn 97 _ _ _ rfl rfl rfl (Zlcl0 _ _)) ?_
      refine (Take_any TK.out (3) (by omega)).mono ?_
      rintro e1 w202 ⟨r5, k5, rfl, hra, hrb, htk, hkp⟩
      have hgc2 := GC.out.kp hkp HNE.out
      have hpr2 := RwAt.kp PR.out hkp (fun e => by have := HTW.out; have := HG.out; omega)
      clear hra hrb
      obtain ⟨b3, hb3⟩ : ∃ b, Hid (decide (((r5 : Nat) : Int) = 0) = b) := ⟨_, Lib.hid rfl⟩
      refine ⟨_, rfl, ?_⟩
      go_frame
      clear TK
      replace GC := Lib.hid hgc2
      replace PR := Lib.hid hpr2
      replace KT := Lib.hid (Rg.Kp.trans (M := fun z => z = w1.heap.size) KT.out hkp (fun _ _ e => e))
      have TK := Lib.hid htk
      clear hkp hgc2 hpr2
      refine Rg.list_run (some 29) rfl rfl (exec_bin (R := .bool b3) .eql _ _ _ rfl rfl rfl (b_eql _ hb3.out)) ?_
      go_frame
      clear htk
      cases b3 with
      | true =>
        go_upto_region 8 with (fail)
        refine wp_region_list ?_
        refine Rg.list_run (some 30) rfl rfl (Rg.exec_move (v := .pointer (some ⟨w1.heap.size, 0, none⟩)) _ rfl rfl) ?_
        go_frame
        refine Rg.list_run (some 31) rfl rfl (exec_fieldG0 _ rfl rfl) ?_
        go_frame
        refine Rg.list_run (some 32) rfl rfl (Rg.exec_load (v := .int .i64 ((d : Nat) : Int)) _ _ rfl ⟨w3.heap.size, 0, none⟩ rfl (run_loadInt GC.out.cell)) ?_
        go_frame
        refine list_ask (some 33) rfl rfl _ _ (exec_fn 48 _ _ _ rfl rfl rfl (Zlcl2 _ _)) ?_
        refine (kitPerm_any TK.out hd1 hd2).mono ?_
        rintro e1 w203 ⟨g2, cap2, y, k6, rfl, hg, hc1, hc2, hgy, hpr, htk, hkp⟩
        have hgc2 := GC.out.kp hkp HNE.out
        have HPR2 := Lib.hid hpr
        have HGY0 := Lib.hid hgy
        have HG2 := Lib.hid (Nat.le_trans KT.out.size hg)
        have HC2 := Lib.hid (show d ≤ cap2 ∧ cap2 ≤ maxLen from ⟨hc1, hc2⟩)
        clear hg hc1 hc2 hgy hpr
        refine ⟨_, rfl, ?_⟩
        go_frame
        clear TK
        clear PR
        replace GC := Lib.hid hgc2
        replace KT := Lib.hid (Rg.Kp.trans (M := fun z => z = w1.heap.size) KT.out hkp (fun _ _ e => e))
        have TK := Lib.hid htk
        clear hkp hgc2
        refine Rg.list_run (some 8) rfl rfl (Rg.exec_assign (v := .slice (some ⟨g2, 0, none⟩) d cap2) _ rfl rfl) ?_
        go_frame
        clear htk
        have GO2 := Lib.hid (GO.out.kt KT.out TK.out)
        have HFP := Lib.hid (show FP (Fup F wr w203) w203 (.slice (some ⟨g2, 0, none⟩) d cap2) y from HPR2.out.fp HGY0.out HC2.out.1 HC2.out.2 hd1 (by omega) (.inr ⟨HG2.out, HPR2.out.1⟩))
        obtain ⟨a9, c9, X9, r1, r2, r3, r4⟩ := GO2.out.push HFP.out ⟨_, _, _, rfl⟩ (by have := HGL.out; omega) 22
        have HGY := Lib.hid HGY0.out
        clear GO GC TK KT
        go_upto_region 14 with (fail)
        refine wp_region_list ?_
        refine Rg.list_run (some 73) rfl rfl (exec_fieldG _ rfl rfl) ?_
        go_frame
        refine Rg.list_run (some 74) rfl rfl (Rg.exec_load (v := .slice gva gs.length gvc) _ _ rfl ⟨w3.heap.size, 1, none⟩ rfl (Rg.run_loadSl _ _ Try.underlying22 GO2.out.g1)) ?_
        go_frame
        refine Rg.list_run (some 75) rfl rfl (Rg.exec_move (v := .slice (some ⟨g2, 0, none⟩) d cap2) _ rfl rfl) ?_
        go_frame
        refine Rg.list_run (some 76) rfl rfl (Rg.exec_buildSlice _ _ _ rfl (.slice (some ⟨g2, 0, none⟩) d cap2) rfl (run_build1P w203 _ ⟨_, _, _, rfl⟩)) ?_
        go_frame
        refine Rg.list_run (some 77) rfl rfl (Rg.exec_append _ _ _ rfl rfl rfl r1) ?_
        go_frame
        refine Rg.list_run (some 78) rfl rfl (exec_fieldG _ rfl rfl) ?_
        go_frame
        refine Rg.list_skip none rfl rfl (Rg.exec_store _ _ _ rfl _ rfl _ rfl (Rg.run_storeSl _ infoPermsV r2 r3)) ?_
        go_frame
        generalize X9.setCell ⟨w3.heap.size, 1, none⟩ (.slice a9 (gs.length + 1) c9) = w399 at *
        have GO3 := Lib.hid r4
        have HGL2 := Lib.hid (show (gs ++ [y]).length + q ≤ 3 by rw [List.length_append]; have := HGL.out; simp; omega)
        have HGS2 := Lib.hid (show ∀ s ∈ gs ++ [y], Gd d s from fun s hs => by
          rcases List.mem_append.1 hs with hs | hs
          · exact HGS.out s hs
          · rw [List.mem_singleton] at hs; rw [hs]; exact HGY.out)
        clear r1 r2 r3 r4
        go_wp2
        go_roundw
        case rel => exact ⟨q, _, _, _, _, by go_num, by omega, HGL2, HGS2, GO3⟩
        case measure => simp [intOf]; try omega
      | false =>
        go_upto_region 9 with (fail)
        refine wp_region_list ?_
        refine Rg.list_run (some 34) rfl rfl (Rg.exec_move (v := .pointer (some ⟨w1.heap.size, 0, none⟩)) _ rfl rfl) ?_
        go_frame
        refine Rg.list_run (some 35) rfl rfl (exec_fieldG0 _ rfl rfl) ?_
        go_frame
        refine Rg.list_run (some 36) rfl rfl (Rg.exec_load (v := .int .i64 ((d : Nat) : Int)) _ _ rfl ⟨w3.heap.size, 0, none⟩ rfl (run_loadInt GC.out.cell)) ?_
        go_frame
        refine list_ask (some 37) rfl rfl _ _ (exec_fn 97 _ _ _ rfl rfl rfl (Zlcl0 _ _)) ?_
        refine (Take_any TK.out (((d : Nat) : Int)) (by omega)).mono ?_
        rintro e1 w203 ⟨fr, k6, rfl, hra, hrb, htk, hkp⟩
        have hgc2 := GC.out.kp hkp HNE.out
        have hpr2 := RwAt.kp PR.out hkp (fun e => by have := HTW.out; have := HG.out; omega)
        have hfr : fr < d := by have := hra (by omega); omega
        clear hra hrb
        refine ⟨_, rfl, ?_⟩
        go_frame
        clear TK
        replace GC := Lib.hid hgc2
        replace PR := Lib.hid hpr2
        replace KT := Lib.hid (Rg.Kp.trans (M := fun z => z = w1.heap.size) KT.out hkp (fun _ _ e => e))
        have TK := Lib.hid htk
        clear hkp hgc2 hpr2
        refine Rg.list_run (some 9) rfl rfl (Rg.exec_assign (v := .int .i64 ((fr : Nat) : Int)) _ rfl rfl) ?_
        go_frame
        clear htk
        go_upto_region 10 with (fail)
        refine wp_region_list ?_
        refine Rg.list_run (some 38) rfl rfl (Rg.exec_move (v := .slice (some ⟨g, 0, none⟩) d cap) _ rfl rfl) ?_
        go_frame
        refine Rg.list_run (some 39) rfl rfl (Rg.exec_move (v := .int .i64 ((fr : Nat) : Int)) _ rfl rfl) ?_
        go_frame
        refine Rg.list_run (some 40) rfl rfl (Rg.exec_move (v := .int .i64 ((fr : Nat) : Int)) _ rfl rfl) ?_
        go_frame
        refine Rg.list_run (some 41) rfl rfl (exec_bin (R := .int .i64 (((fr + 1) : Nat) : Int)) .add _ _ _ rfl rfl rfl (b_add _ (by omega) (by omega))) ?_
        go_frame
        refine Rg.list_run (some 42) rfl rfl (Rg.exec_move (v := .pointer (some ⟨w1.heap.size, 0, none⟩)) _ rfl rfl) ?_
        go_frame
        refine Rg.list_run (some 43) rfl rfl (exec_fieldG0 _ rfl rfl) ?_
        go_frame
        refine Rg.list_run (some 44) rfl rfl (Rg.exec_load (v := .int .i64 ((d : Nat) : Int)) _ _ rfl ⟨w3.heap.size, 0, none⟩ rfl (run_loadInt GC.out.cell)) ?_
        go_frame
        refine Rg.list_run (some 45) rfl rfl (Rg.exec_move (v := .int .i64 ((fr : Nat) : Int)) _ rfl rfl) ?_
        go_frame
        refine Rg.list_run (some 46) rfl rfl (exec_bin (R := .int .i64 (((d - fr) : Nat) : Int)) .sub _ _ _ rfl rfl rfl (b_sub _ (by omega) (by omega))) ?_
        go_frame
        refine list_ask (some 47) rfl rfl _ _ (exec_fn 97 _ _ _ rfl rfl rfl (Zlcl0 _ _)) ?_
        refine (Take_any TK.out (((d - fr : Nat) : Int)) (by omega)).mono ?_
        rintro e1 w204 ⟨r7, k7, rfl, hra, hrb, htk, hkp⟩
        have hgc2 := GC.out.kp hkp HNE.out
        have hpr2 := RwAt.kp PR.out hkp (fun e => by have := HTW.out; have := HG.out; omega)
        have hr7 : r7 < d - fr := by have := hra (by omega); omega
        clear hra hrb
        refine ⟨_, rfl, ?_⟩
        go_frame
        clear TK
        replace GC := Lib.hid hgc2
        replace PR := Lib.hid hpr2
        replace KT := Lib.hid (Rg.Kp.trans (M := fun z => z = w1.heap.size) KT.out hkp (fun _ _ e => e))
        have TK := Lib.hid htk
        clear hkp hgc2 hpr2
        refine Rg.list_run (some 48) rfl rfl (exec_bin (R := .int .i64 (((fr + 1 + r7) : Nat) : Int)) .add _ _ _ rfl rfl rfl (b_add _ (by omega) (by omega))) ?_
        go_frame
        clear htk
        refine list_ask (some 49) rfl rfl _ _ (exec_fn3 98 _ _ _ _ rfl rfl rfl rfl (Zlcl3 _ _)) ?_
        refine (cycle_any (a := fr) (b := fr + 1 + r7) PR.out (by omega) (by omega) (by omega)).mono ?_
        rintro e1 w205 ⟨rfl, hpr, hkp⟩
        have hgc2 := GC.out.kp hkp (fun e => by have := GO.out.g0.lt; have := HG.out; omega)
        have htk2 := TK.out.kp hkp (fun e => by have := HTW.out; have := HG.out; omega) (fun z e => by have := HTL2.out; have := HTW.out; have := HG.out; omega)
        have HGY0 := Lib.hid (show Gd d (cyN d fr (fr + 1 + r7)) from cyN_gd (by omega) (by omega))
        refine ⟨_, rfl, ?_⟩
        go_frame
        clear PR
        replace GC := Lib.hid hgc2
        replace TK := Lib.hid htk2
        replace KT := Lib.hid (Rg.Kp.trans (M := fun z => z = w1.heap.size) KT.out hkp (fun z hz e => by have := HG.out; omega))
        have PR := Lib.hid hpr
        clear hkp hgc2 htk2
        refine Rg.list_run (some 8) rfl rfl (Rg.exec_assign (v := .slice (some ⟨g, 0, none⟩) d cap) _ rfl rfl) ?_
        go_frame
        clear hpr
        go_upto_region 11 with (fail)
        refine wp_region_list ?_
        refine Rg.list_run (some 50) rfl rfl (Rg.exec_move (v := .pointer (some ⟨w1.heap.size, 0, none⟩)) _ rfl rfl) ?_
        go_frame
        refine Rg.list_run (some 51) rfl rfl (exec_fieldG0 _ rfl rfl) ?_
        go_frame
        refine Rg.list_run (some 52) rfl rfl (Rg.exec_load (v := .int .i64 ((d : Nat) : Int)) _ _ rfl ⟨w3.heap.size, 0, none⟩ rfl (run_loadInt GC.out.cell)) ?_
        go_frame
        refine list_ask (some 53) rfl rfl _ _ (exec_fn 97 _ _ _ rfl rfl rfl (Zlcl0 _ _)) ?_
        refine (Take_any TK.out (((d : Nat) : Int)) (by omega)).mono ?_
        rintro e1 w206 ⟨f2, k8, rfl, hra, hrb, htk, hkp⟩
        have hgc2 := GC.out.kp hkp HNE.out
        have hpr2 := RwAt.kp PR.out hkp (fun e => by have := HTW.out; have := HG.out; omega)
        have hf2 : f2 < d := by have := hra (by omega); omega
        clear hra hrb
        refine ⟨_, rfl, ?_⟩
        go_frame
        clear TK
        replace GC := Lib.hid hgc2
        replace PR := Lib.hid hpr2
        replace KT := Lib.hid (Rg.Kp.trans (M := fun z => z = w1.heap.size) KT.out hkp (fun _ _ e => e))
        have TK := Lib.hid htk
        clear hkp hgc2 hpr2
        refine Rg.list_run (some 9) rfl rfl (Rg.exec_assign (v := .int .i64 ((f2 : Nat) : Int)) _ rfl rfl) ?_
        go_frame
        clear htk
        go_upto_region 12 with (fail)
        refine wp_region_list ?_
        refine Rg.list_run (some 54) rfl rfl (Rg.exec_move (v := .pointer (some ⟨w1.heap.size, 0, none⟩)) _ rfl rfl) ?_
        go_frame
        refine list_ask (some 55) rfl rfl _ _ (exec_fn 97 _ _ _ rfl rfl rfl (Zlcl0 _ _)) ?_
        refine (Take_any TK.out (2) (by omega)).mono ?_
        rintro e1 w207 ⟨r8, k9, rfl, hra, hrb, htk, hkp⟩
        have hgc2 := GC.out.kp hkp HNE.out
        have hpr2 := RwAt.kp PR.out hkp (fun e => by have := HTW.out; have := HG.out; omega)
        clear hra hrb
        obtain ⟨b4, hb4⟩ : ∃ b, Hid (decide (((r8 : Nat) : Int) = 1) = b) := ⟨_, Lib.hid rfl⟩
        refine ⟨_, rfl, ?_⟩
        go_frame
        clear TK
        replace GC := Lib.hid hgc2
        replace PR := Lib.hid hpr2
        replace KT := Lib.hid (Rg.Kp.trans (M := fun z => z = w1.heap.size) KT.out hkp (fun _ _ e => e))
        have TK := Lib.hid htk
        clear hkp hgc2 hpr2
        refine Rg.list_run (some 56) rfl rfl (exec_bin (R := .bool b4) .eql _ _ _ rfl rfl rfl (b_eql _ hb4.out)) ?_
        go_frame
        clear htk
        cases b4 with
        | false =>
          have GO2 := Lib.hid (GO.out.kt KT.out TK.out)
          have HFP := Lib.hid (show FP (Fup F wr w207) w207 (.slice (some ⟨g, 0, none⟩) d cap) (cyN d fr (fr + 1 + r7)) from PRow.fp PR.out HGY0.out HCP.out.1 HCP.out.2 hd1 (by omega) (.inr ⟨HG.out, PR.out.1⟩))
          obtain ⟨a9, c9, X9, r1, r2, r3, r4⟩ := GO2.out.push HFP.out ⟨_, _, _, rfl⟩ (by have := HGL.out; omega) 22
          have HGY := Lib.hid HGY0.out
          clear GO GC TK KT
          go_upto_region 14 with (fail)
          refine wp_region_list ?_
          refine Rg.list_run (some 73) rfl rfl (exec_fieldG _ rfl rfl) ?_
          go_frame
          refine Rg.list_run (some 74) rfl rfl (Rg.exec_load (v := .slice gva gs.length gvc) _ _ rfl ⟨w3.heap.size, 1, none⟩ rfl (Rg.run_loadSl _ _ Try.underlying22 GO2.out.g1)) ?_
          go_frame
          refine Rg.list_run (some 75) rfl rfl (Rg.exec_move (v := .slice (some ⟨g, 0, none⟩) d cap) _ rfl rfl) ?_
          go_frame
          refine Rg.list_run (some 76) rfl rfl (Rg.exec_buildSlice _ _ _ rfl (.slice (some ⟨g, 0, none⟩) d cap) rfl (run_build1P w207 _ ⟨_, _, _, rfl⟩)) ?_
          go_frame
          refine Rg.list_run (some 77) rfl rfl (Rg.exec_append _ _ _ rfl rfl rfl r1) ?_
          go_frame
          refine Rg.list_run (some 78) rfl rfl (exec_fieldG _ rfl rfl) ?_
          go_frame
          refine Rg.list_skip none rfl rfl (Rg.exec_store _ _ _ rfl _ rfl _ rfl (Rg.run_storeSl _ infoPermsV r2 r3)) ?_
          go_frame
          generalize X9.setCell ⟨w3.heap.size, 1, none⟩ (.slice a9 (gs.length + 1) c9) = w399 at *
          have GO3 := Lib.hid r4
          have HGL2 := Lib.hid (show (gs ++ [(cyN d fr (fr + 1 + r7))]).length + q ≤ 3 by rw [List.length_append]; have := HGL.out; simp; omega)
          have HGS2 := Lib.hid (show ∀ s ∈ gs ++ [(cyN d fr (fr + 1 + r7))], Gd d s from fun s hs => by
            rcases List.mem_append.1 hs with hs | hs
            · exact HGS.out s hs
            · rw [List.mem_singleton] at hs; rw [hs]; exact HGY.out)
          clear r1 r2 r3 r4
          go_wp2
          go_roundw
          case rel => exact ⟨q, _, _, _, _, by go_num, by omega, HGL2, HGS2, GO3⟩
          case measure => simp [intOf]; try omega
        | true =>
          go_upto_region 13 with (fail)
          have hV0 : Below w207.heap.size w207 w207.drew := (Below.refl _ _).drew
          replace GC := Lib.hid (GC.out.up hV0)
          replace TK := Lib.hid (TK.out.up hV0)
          replace PR := Lib.hid (PR.out.up hV0)
          replace KT := Lib.hid (KT.out.up hV0)
          generalize Fup (fun _ : Nat => True) w207 w207.drew = F1 at *
          clear hV0
          refine Rg.Any.begin (S := Rg.Both 16 (fun W : World => W.cell? ⟨w3.heap.size, 0, none⟩ = some (.int .i64 ((d : Nat) : Int))) (fun _ => True)) mix ?_
          generalize w207.drew = w208 at *
          have hS : ∀ (l : Array Bool) W, (fun W : World => W.cell? ⟨w3.heap.size, 0, none⟩ = some (.int .i64 ((d : Nat) : Int))) W → Rg.Both 16 (fun W : World => W.cell? ⟨w3.heap.size, 0, none⟩ = some (.int .i64 ((d : Nat) : Int))) (fun _ => True) l W := fun l W h => ⟨.inr h, trivial⟩
          have hS2 : ∀ (l : Array Bool) W, l.getD 16 false = true → Rg.Both 16 (fun W : World => W.cell? ⟨w3.heap.size, 0, none⟩ = some (.int .i64 ((d : Nat) : Int))) (fun _ => True) l W := fun l W h => ⟨.inl h, trivial⟩
          have hI : (fun W : World => W.cell? ⟨w3.heap.size, 0, none⟩ = some (.int .i64 ((d : Nat) : Int))) w208 := GC.out.cell
          refine Rg.Any.takeG (i := 0) (t := 16) (v := .slice (some ⟨g, 0, none⟩) d cap) (some 57) rfl rfl (by kernel_rfl) (by kernel_rfl) (by kernel_rfl) (fun _ _ _ h => h) rfl (.inl ⟨rfl, fun w _ => Rg.exec_move (v := .slice (some ⟨g, 0, none⟩) d cap) _ rfl rfl⟩) (hS _ _ hI) ?_
          go_frame
          refine Rg.Any.takeG (i := 1) (t := 16) (v := .pointer (some ⟨w3.heap.size, 0, none⟩)) (some 58) rfl rfl (by kernel_rfl) (by kernel_rfl) (by kernel_rfl) (fun _ _ _ h => h) rfl (.inl ⟨rfl, fun w _ => exec_fieldG0 _ rfl rfl⟩) (hS _ _ hI) ?_
          go_frame
          refine Rg.Any.takeT (i := 2) (t := 16) (v := .int .i64 ((d : Nat) : Int)) (some 59) rfl rfl (by kernel_rfl) (by kernel_rfl) (by kernel_rfl) (fun _ _ _ h => h) rfl (by kernel_rfl) rfl (Rg.yields_cell _ _ rfl rfl ⟨w3.heap.size, 0, none⟩ rfl (fun W hW => run_loadInt hW)) (hS _ _ hI) ?_
          go_frame
          refine Rg.Any.takeG (i := 4) (t := 16) (v := .int .i64 ((f2 : Nat) : Int)) (some 61) rfl rfl (by kernel_rfl) (by kernel_rfl) (by kernel_rfl) (fun _ _ _ h => h) rfl (.inl ⟨rfl, fun w _ => Rg.exec_move (v := .int .i64 ((f2 : Nat) : Int)) _ rfl rfl⟩) (hS _ _ hI) ?_
          go_frame
          refine Rg.Any.takeG (i := 5) (t := 16) (v := .int .i64 ((f2 : Nat) : Int)) (some 62) rfl rfl (by kernel_rfl) (by kernel_rfl) (by kernel_rfl) (fun _ _ _ h => h) rfl (.inl ⟨rfl, fun w _ => Rg.exec_move (v := .int .i64 ((f2 : Nat) : Int)) _ rfl rfl⟩) (hS _ _ hI) ?_
          go_frame
          refine Rg.Any.takeG (i := 6) (t := 16) (v := .int .i64 (((f2 + 1) : Nat) : Int)) (some 63) rfl rfl (by kernel_rfl) (by kernel_rfl) (by kernel_rfl) (fun _ _ _ h => h) rfl (.inl ⟨rfl, fun w _ => exec_bin (R := .int .i64 (((f2 + 1) : Nat) : Int)) .add _ _ _ rfl rfl rfl (b_add _ (by omega) (by omega))⟩) (hS _ _ hI) ?_
          go_frame
          refine Rg.Any.takeG (i := 7) (t := 16) (v := .pointer (some ⟨w1.heap.size, 0, none⟩)) (some 64) rfl rfl (by kernel_rfl) (by kernel_rfl) (by kernel_rfl) (fun _ _ _ h => h) rfl (.inl ⟨rfl, fun w _ => Rg.exec_move (v := .pointer (some ⟨w1.heap.size, 0, none⟩)) _ rfl rfl⟩) (hS _ _ hI) ?_
          go_frame
          refine Rg.Any.takeG (i := 8) (t := 16) (v := .pointer (some ⟨w3.heap.size, 0, none⟩)) (some 65) rfl rfl (by kernel_rfl) (by kernel_rfl) (by kernel_rfl) (fun _ _ _ h => h) rfl (.inl ⟨rfl, fun w _ => exec_fieldG0 _ rfl rfl⟩) (hS _ _ hI) ?_
          go_frame
          refine Rg.Any.takeT (i := 9) (t := 16) (v := .int .i64 ((d : Nat) : Int)) (some 66) rfl rfl (by kernel_rfl) (by kernel_rfl) (by kernel_rfl) (fun _ _ _ h => h) rfl (by kernel_rfl) rfl (Rg.yields_cell _ _ rfl rfl ⟨w3.heap.size, 0, none⟩ rfl (fun W hW => run_loadInt hW)) (hS _ _ hI) ?_
          go_frame
          refine Rg.Any.takeG (i := 10) (t := 16) (v := .int .i64 ((f2 : Nat) : Int)) (some 67) rfl rfl (by kernel_rfl) (by kernel_rfl) (by kernel_rfl) (fun _ _ _ h => h) rfl (.inl ⟨rfl, fun w _ => Rg.exec_move (v := .int .i64 ((f2 : Nat) : Int)) _ rfl rfl⟩) (hS _ _ hI) ?_
          go_frame
          refine Rg.Any.takeG (i := 11) (t := 16) (v := .int .i64 (((d - f2) : Nat) : Int)) (some 68) rfl rfl (by kernel_rfl) (by kernel_rfl) (by kernel_rfl) (fun _ _ _ h => h) rfl (.inl ⟨rfl, fun w _ => exec_bin (R := .int .i64 (((d - f2) : Nat) : Int)) .sub _ _ _ rfl rfl rfl (b_sub _ (by omega) (by omega))⟩) (hS _ _ hI) ?_
          go_frame
          refine Rg.Any.one (i := 3) (by kernel_rfl) (Rg.Any.ask (some 60) rfl rfl rfl _ _ (exec_fn1 64 _ _ rfl rfl (Zlcl1 _ _)) ?_)
          refine (kitOne_row d w208 hd1 (by omega)).mono ?_
          rintro e1 w209 ⟨g2, cap2, rfl, hg, hc1, hc2, hro, hb⟩
          have HG2 := Lib.hid (Nat.le_trans KT.out.size hg)
          have HC2 := Lib.hid (show d ≤ cap2 ∧ cap2 ≤ maxLen from ⟨hc1, hc2⟩)
          have HNG := Lib.hid (show g ≠ g2 from fun e => by have := PR.out.1; omega)
          clear hg hc1 hc2
          have hI2_u := ((Below.cell (p := ⟨w3.heap.size, 0, none⟩) hb (lt_of_cell hI)).trans hI)
          clear hI
          replace GC := Lib.hid (GC.out.up hb)
          replace TK := Lib.hid (TK.out.up hb)
          replace PR := Lib.hid (PR.out.up hb)
          replace KT := Lib.hid (KT.out.up hb)
          have P2 := Lib.hid hro
          generalize Fup F1 w208 w209 = F2 at *
          clear hb
          refine ⟨_, rfl, (hS _ _ hI2_u), ?_⟩
          go_frame
          refine Rg.Any.one (i := 12) (by kernel_rfl) (Rg.Any.ask (some 69) rfl rfl rfl _ _ (exec_fn 97 _ _ _ rfl rfl rfl (Zlcl0 _ _)) ?_)
          refine (Take_any TK.out (((d - f2 : Nat) : Int)) (by omega)).mono ?_
          rintro e1 w210 ⟨r9, k10, rfl, hra, hrb, htk, hkp⟩
          have hgc2 := GC.out.kp hkp HNE.out
          have hpr2 := RwAt.kp PR.out hkp (fun e => by have := HTW.out; have := HG.out; omega)
          have hp22 := RwAt.kp P2.out hkp (fun e => by have := HTW.out; have := HG2.out; omega)
          have hr9 : r9 < d - f2 := by have := hra (by omega); omega
          clear hra hrb
          have hI3_k := ((World.cell?_of_block (a := ⟨w3.heap.size, 0, none⟩) (hkp.block w3.heap.size (lt_of_cell hI2_u) HNE.out)).trans hI2_u)
          clear hI2_u
          refine ⟨_, rfl, (hS _ _ hI3_k), ?_⟩
          go_frame
          clear TK
          replace GC := Lib.hid hgc2
          replace PR := Lib.hid hpr2
          replace P2 := Lib.hid hp22
          replace KT := Lib.hid (Rg.Kp.trans (M := fun z => z = w1.heap.size) KT.out hkp (fun _ _ e => e))
          have TK := Lib.hid htk
          clear hkp hgc2 hpr2 hp22
          refine Rg.Any.takeG (i := 13) (t := 16) (v := .int .i64 (((f2 + 1 + r9) : Nat) : Int)) (some 70) rfl rfl (by kernel_rfl) (by kernel_rfl) (by kernel_rfl) (fun _ _ _ h => h) rfl (.inl ⟨rfl, fun w _ => exec_bin (R := .int .i64 (((f2 + 1 + r9) : Nat) : Int)) .add _ _ _ rfl rfl rfl (b_add _ (by omega) (by omega))⟩) (hS _ _ hI3_k) ?_
          go_frame
          refine Rg.Any.one (i := 14) (by kernel_rfl) (Rg.Any.ask (some 71) rfl rfl rfl _ _ (exec_fn3 98 _ _ _ _ rfl rfl rfl rfl (Zlcl3 _ _)) ?_)
          refine (cycle_any (a := f2) (b := f2 + 1 + r9) P2.out (by omega) (by omega) (by omega)).mono ?_
          rintro e1 w211 ⟨rfl, hp2, hkp⟩
          have hgc2 := GC.out.kp hkp (fun e => by have := GO.out.g0.lt; have := HG2.out; omega)
          have htk2 := TK.out.kp hkp (fun e => by have := HTW.out; have := HG2.out; omega) (fun z e => by have := HTL2.out; have := HTW.out; have := HG2.out; omega)
          have hpr2 := RwAt.kp PR.out hkp HNG.out
          have HGY1 := Lib.hid (show Gd d (cyN d f2 (f2 + 1 + r9)) from cyN_gd (by omega) (by omega))
          have hI4_k := ((World.cell?_of_block (a := ⟨w3.heap.size, 0, none⟩) (hkp.block w3.heap.size (lt_of_cell hI3_k) (fun e => by have := GO.out.g0.lt; have := HG2.out; omega))).trans hI3_k)
          clear hI3_k
          refine ⟨_, rfl, (hS _ _ hI4_k), ?_⟩
          go_frame
          clear P2
          replace GC := Lib.hid hgc2
          replace PR := Lib.hid hpr2
          replace TK := Lib.hid htk2
          replace KT := Lib.hid (Rg.Kp.trans (M := fun z => z = w1.heap.size) KT.out hkp (fun z hz e => by have := HG2.out; omega))
          have P3 := Lib.hid hp2
          clear hkp hgc2 htk2 hpr2
          have HSZM := Lib.hid (show wr.heap.size ≤ w211.heap.size from KT.out.size)
          refine Rg.Any.one (i := 15) (by kernel_rfl) (Rg.Any.ask (some 72) rfl rfl rfl _ _ (exec_fn 63 _ _ _ rfl rfl rfl (Zlcl4 _ _)) ?_)
          refine (kitMul_any _ _ (cyN d fr (fr + 1 + r7)) (cyN d f2 (f2 + 1 + r9)) w211 (PRow.np PR.out HGY0.out HCP.out.1 HCP.out.2 (by omega)) (PRow.np P3.out HGY1.out HC2.out.1 HC2.out.2 (by omega)) (fun z hz => by rw [HGY1.out.2]; exact gd_mem HGY0.out hz) (by rw [HGY0.out.2]; omega)).mono ?_
          rintro e1 w212 ⟨mv, rfl, hmv, hb⟩
          obtain ⟨mb, mo, mc, rfl⟩ := FP.shape' (FP.new (F := fun _ => True) hmv) (Cm.gd_mul HGY0.out HGY1.out) hd1
          have hmf := FP.new (F := F) hmv
          clear hmv
          have hI5_u := ((Below.cell (p := ⟨w3.heap.size, 0, none⟩) hb (lt_of_cell hI4_k)).trans hI4_k)
          clear hI4_k
          replace GC := Lib.hid (GC.out.up hb)
          replace PR := Lib.hid (PR.out.up hb)
          replace TK := Lib.hid (TK.out.up hb)
          replace P3 := Lib.hid (P3.out.up hb)
          replace KT := Lib.hid (KT.out.up hb)
          have MF := Lib.hid hmf
          generalize Fup (fun _ : Nat => True) w211 w212 = F3 at *
          clear hb
          refine ⟨_, rfl, (hS _ _ hI5_u), ?_⟩
          go_frame
          refine Rg.Any.one (i := 16) (by kernel_rfl) (Rg.Any.run (some 8) rfl rfl rfl (Rg.exec_assign (v := .slice (some ⟨mb, mo, none⟩) d mc) _ rfl rfl) (hS2 _ _ rfl) ?_)
          go_frame
          refine Rg.Any.done (by kernel_rfl) ?_ _
          clear hS2
          clear hS hI5_u
          have GO2 := Lib.hid (GO.out.kt KT.out TK.out)
          have HFP := Lib.hid (show FP (Fup F wr w212) w212 (.slice (some ⟨mb, mo, none⟩) d mc) (Ma.mulN (cyN d fr (fr + 1 + r7)) (cyN d f2 (f2 + 1 + r9))) from MF.out.mono (fun z hz => by rcases hz with hz | hz; exact .inl hz; exact .inr ⟨Nat.le_trans HSZM.out hz.1, hz.2⟩))
          obtain ⟨a9, c9, X9, r1, r2, r3, r4⟩ := GO2.out.push HFP.out ⟨_, _, _, rfl⟩ (by have := HGL.out; omega) 22
          have HGY := Lib.hid (Cm.gd_mul HGY0.out HGY1.out)
          clear GO GC TK KT
          go_upto_region 14 with (fail)
          refine wp_region_list ?_
          refine Rg.list_run (some 73) rfl rfl (exec_fieldG _ rfl rfl) ?_
          go_frame
          refine Rg.list_run (some 74) rfl rfl (Rg.exec_load (v := .slice gva gs.length gvc) _ _ rfl ⟨w3.heap.size, 1, none⟩ rfl (Rg.run_loadSl _ _ Try.underlying22 GO2.out.g1)) ?_
          go_frame
          refine Rg.list_run (some 75) rfl rfl (Rg.exec_move (v := .slice (some ⟨mb, mo, none⟩) d mc) _ rfl rfl) ?_
          go_frame
          refine Rg.list_run (some 76) rfl rfl (Rg.exec_buildSlice _ _ _ rfl (.slice (some ⟨mb, mo, none⟩) d mc) rfl (run_build1P w212 _ ⟨_, _, _, rfl⟩)) ?_
          go_frame
          refine Rg.list_run (some 77) rfl rfl (Rg.exec_append _ _ _ rfl rfl rfl r1) ?_
          go_frame
          refine Rg.list_run (some 78) rfl rfl (exec_fieldG _ rfl rfl) ?_
          go_frame
          refine Rg.list_skip none rfl rfl (Rg.exec_store _ _ _ rfl _ rfl _ rfl (Rg.run_storeSl _ infoPermsV r2 r3)) ?_
          go_frame
          generalize X9.setCell ⟨w3.heap.size, 1, none⟩ (.slice a9 (gs.length + 1) c9) = w399 at *
          have GO3 := Lib.hid r4
          have HGL2 := Lib.hid (show (gs ++ [(Ma.mulN (cyN d fr (fr + 1 + r7)) (cyN d f2 (f2 + 1 + r9)))]).length + q ≤ 3 by rw [List.length_append]; have := HGL.out; simp; omega)
          have HGS2 := Lib.hid (show ∀ s ∈ gs ++ [(Ma.mulN (cyN d fr (fr + 1 + r7)) (cyN d f2 (f2 + 1 + r9)))], Gd d s from fun s hs => by
            rcases List.mem_append.1 hs with hs | hs
            · exact HGS.out s hs
            · rw [List.mem_singleton] at hs; rw [hs]; exact HGY.out)
          clear r1 r2 r3 r4
          go_wp2
          go_roundw
          case rel => exact ⟨q, _, _, _, _, by go_num, by omega, HGL2, HGS2, GO3⟩
          case measure => simp [intOf]; try omega
end Go.Proofs.Ytojbijkljnohoaa

namespace Go.Proofs.Ytojbijkljnohoaa
open Go.RowKit
open Go.Proofs
open Go.Proofs.Ob
open Go.Proofs.Cm (Gd)
attribute [local irreducible] Go.Calls Go.wpList
theorem Zmcl0 (args : Array Value) (w : World) : (callFunc 7 args).run Try.prog w = .ok (.enter 7 args) w := by kernel_rfl
theorem Zmcl1 (args : Array Value) (w : World) : (callFunc 46 args).run Try.prog w = .ok (.enter 46 args) w := by kernel_rfl
theorem Zmcl2 (args : Array Value) (w : World) : (callFunc 31 args).run Try.prog w = .ok (.enter 31 args) w := by kernel_rfl
theorem Zmcl3 (args : Array Value) (w : World) : (callFunc 36 args).run Try.prog w = .ok (.enter 36 args) w := by kernel_rfl
theorem Zmcl4 (args : Array Value) (w : World) : (callFunc 35 args).run Try.prog w = .ok (.enter 35 args) w := by kernel_rfl
structure IB (w : World) (v : Value) (l : List Int) : Prop where
  i : Rg.IntsB maxLen w v l
theorem IB.below {w w' : World} {v : Value} {l : List Int} (h : IB w v l) (hb : Below w.heap.size w w') : IB w' v l := ⟨Rg.IntsB.below h.i hb⟩
theorem ChAns.zero {w : World} {d : Int} {ll : List (List Int)} {cv : Value} {c : Int} (h : ChAns w d ll cv c) (hc : c ≠ 0) : cv = zeroC := by
  rcases h with ⟨_, h⟩ | ⟨h, _⟩
  · exact h
  · exact absurd h hc
theorem gck_good {D : Nat} (h1 : 1 ≤ D) (h2 : D ≤ 64) : ∀ {gs : List (List Nat)}, (∀ s ∈ gs, Gd D s) → Ma.gck ((D : Nat) : Int) (gs.map Ma.ofN) = 0
  | [], _ => rfl
  | s :: gs, h => by
    have g := h s (List.mem_cons_self ..)
    have e1 : Ma.pchk (Ma.ofN s) = 0 := Ma.pchk_ok (by rw [Ma.len_ofN, g.2]; exact h1) (by rw [Ma.len_ofN, g.2]; exact h2) (Ma.okN_ofN g.1)
    have e2 : ((Ma.ofN s).length : Int) = ((D : Nat) : Int) := by rw [Ma.len_ofN, g.2]
    show (if Ma.pchk (Ma.ofN s) = 0 then (if ((Ma.ofN s).length : Int) = ((D : Nat) : Int) then Ma.gck ((D : Nat) : Int) (gs.map Ma.ofN) else 10) else Ma.pchk (Ma.ofN s)) = 0
    rw [if_pos e1, if_pos e2]
    exact gck_good h1 h2 (fun x hx => h x (List.mem_cons_of_mem _ hx))
theorem gchk_good {D : Nat} (h1 : 1 ≤ D) (h2 : D ≤ 64) {gs : List (List Nat)} (hl : gs.length ≤ 16) (h : ∀ s ∈ gs, Gd D s) : Ma.gchk ((D : Nat) : Int) (gs.map Ma.ofN) = 0 := by
  unfold Ma.gchk
  rw [if_pos (by omega), if_pos (by rw [List.length_map]; exact hl)]
  exact gck_good h1 h2 h
theorem rndc_or {D : Nat} {gs : List (List Nat)} {nums : List Int} (hg : Ma.gchk ((D : Nat) : Int) (gs.map Ma.ofN) = 0) (hn : nums.length ≤ 1000) : rndc ((D : Nat) : Int) (gs.map Ma.ofN) nums = 0 ∨ rndc ((D : Nat) : Int) (gs.map Ma.ofN) nums = 13 := by
  by_cases hc : PClosed D (endR D gs nums)
  · exact .inl (rndc_yes hg (by omega) hc)
  · exact .inr (rndc_no hg (by omega) hc)
theorem SameChain_zero {w : World} : Calls Try.prog 35 #[zeroC, zeroC] w fun e w' => e = .returned (.bool true) ∧ Below w.heap.size w w' :=
  SameChain_ans (d := 0) (ll := []) (c := 1) (.inl ⟨by decide, rfl⟩) (.inl ⟨by decide, rfl⟩)
set_option maxRecDepth 100000 in
set_option maxHeartbeats 8000000 in
theorem ChainProves_any (lv : Value) (l : List Int) (nv : Value) (nums : List Int) (w : World) (hl : Rg.IntsB maxLen w lv l) (hn : Rg.IntsB maxLen w nv nums) :
    Calls Try.prog 9 #[lv, nv] w fun e w' => e = .returned (.bool true) ∧ Below w.heap.size w w' := by
  obtain ⟨la, lc, rfl, -⟩ := hl.shape
  obtain ⟨na, nc, rfl, -⟩ := hn.shape
  have HL := Lib.hid (show IB w (.slice la l.length lc) l from ⟨hl⟩)
  have HN := Lib.hid (show IB w (.slice na nums.length nc) nums from ⟨hn⟩)
  have K := Lib.hid (Below.refl w.heap.size w)
  clear hl hn
  go_enter Try.func9, Try.ntmps9
  go_upto_region 1 with (fail)
  refine wp_region_list ?_
  refine list_ask (some 11) rfl rfl _ _ (exec_fn0 7 _ rfl (Zmcl0 _ _)) ?_
  refine (ChainKnown_any w).mono ?_
  rintro e1 w1 ⟨rfl, hb⟩
  refine ⟨_, rfl, ?_⟩
  go_frame
  replace HL := Lib.hid (HL.out.below hb)
  replace HN := Lib.hid (HN.out.below hb)
  replace K := Lib.hid (Rg.acc K.out hb)
  clear hb
  refine Rg.list_run (some 5) rfl rfl (Rg.exec_assign (v := .bool true) _ rfl rfl) ?_
  go_frame
  by_cases hlong : 200 < nums.length
  case pos =>
    skip
    go_upto_region 2 with (fail)
    refine wp_region_list ?_
    refine Rg.list_run (some 12) rfl rfl (Rg.exec_move (v := .slice na nums.length nc) _ rfl rfl) ?_
    go_frame
    refine Rg.list_run (some 13) rfl rfl (exec_len _ _ _ rfl Try.underlying33 _ _ _ rfl) ?_
    go_frame
    refine Rg.list_run (some 14) rfl rfl (exec_bin (R := .bool true) .gtr _ _ _ rfl rfl rfl (b_gtr _ (decide_eq_true (by omega)))) ?_
    go_frame
    go_upto_region 3 with (fail)
    refine wp_region_list ?_
    refine Rg.list_run (some 15) rfl rfl (Rg.exec_move (v := .bool true) _ rfl rfl) ?_
    go_frame
    refine Rg.list_run (some 4) rfl rfl (Rg.exec_assign (v := .bool true) _ rfl rfl) ?_
    go_frame
    go_wp2
    go_ret
    exact ⟨rfl, K.out⟩
  case neg =>
    skip
    go_upto_region 2 with (fail)
    refine wp_region_list ?_
    refine Rg.list_run (some 12) rfl rfl (Rg.exec_move (v := .slice na nums.length nc) _ rfl rfl) ?_
    go_frame
    refine Rg.list_run (some 13) rfl rfl (exec_len _ _ _ rfl Try.underlying33 _ _ _ rfl) ?_
    go_frame
    refine Rg.list_run (some 14) rfl rfl (exec_bin (R := .bool false) .gtr _ _ _ rfl rfl rfl (b_gtr _ (decide_eq_false (by omega)))) ?_
    go_frame
    go_upto_region 4 with (fail)
    refine wp_region_list ?_
    refine Rg.list_run (some 16) rfl rfl (Rg.exec_move (v := .slice la l.length lc) _ rfl rfl) ?_
    go_frame
    refine list_ask (some 17) rfl rfl _ _ (exec_fn 46 _ _ _ rfl rfl rfl (Zmcl1 _ _)) ?_
    refine (GroupOf_any _ l 5 w1 HL.out.i (by decide) (by decide)).mono ?_
    rintro e1 w2 ⟨d, gv, gs, rfl, hd1, hd2, hgl, hgs, hgr, hb⟩
    obtain ⟨ga, gc, rfl, -⟩ := hgr.shape
    have HD := Lib.hid (show 1 ≤ d ∧ d ≤ 5 from ⟨hd1, hd2⟩)
    have HGS := Lib.hid hgs
    have HCK := Lib.hid (gchk_good (gs := gs) hd1 (by omega) (by omega) hgs)
    clear hd1 hd2 hgl hgs
    refine ⟨_, rfl, ?_⟩
    go_frame
    replace HL := Lib.hid (HL.out.below hb)
    replace HN := Lib.hid (HN.out.below hb)
    replace K := Lib.hid (Rg.acc K.out hb)
    clear hb
    have HG := Lib.hid hgr
    obtain ⟨W2, hst, hga, hb⟩ := GI.fresh (d := ((d : Nat) : Int)) HG.out
    refine Rg.list_run (some 6) rfl rfl (exec_allocG rfl) ?_
    go_frame
    refine Rg.list_skip none rfl rfl (Rg.exec_store _ _ _ rfl _ rfl _ rfl hst) ?_
    go_frame
    clear hst
    clear hgr
    replace HL := Lib.hid (HL.out.below hb)
    replace HN := Lib.hid (HN.out.below hb)
    replace HG := Lib.hid (HG.out.below hb)
    replace K := Lib.hid (Rg.acc K.out hb)
    clear hb
    have G6 := Lib.hid hga
    clear hga
    go_upto_region 5 with (fail)
    refine wp_region_list ?_
    refine Rg.list_run (some 19) rfl rfl (Rg.exec_load (v := .agg #[.int .i64 ((d : Nat) : Int), .slice ga (gs.map Ma.ofN).length gc]) _ _ rfl ⟨w2.heap.size, 0, none⟩ rfl (run_loadG G6.out.c0 G6.out.c1)) ?_
    go_frame
    refine list_ask (some 20) rfl rfl _ _ (exec_fn1 31 _ _ rfl rfl (Zmcl2 _ _)) ?_
    refine (chOf_any _ _ (gs.map Ma.ofN) W2 HG.out).mono ?_
    rintro e1 w3 ⟨cv, rfl, hcv, hb⟩
    obtain ⟨e1, oa1, on1, oc1, ra1, rn1, rc1, rfl⟩ := hcv.shape
    rw [HCK.out] at hcv ⊢
    refine ⟨_, rfl, ?_⟩
    go_frame
    replace HL := Lib.hid (HL.out.below hb)
    replace HN := Lib.hid (HN.out.below hb)
    replace HG := Lib.hid (HG.out.below hb)
    replace G6 := Lib.hid (G6.out.below hb)
    replace K := Lib.hid (Rg.acc K.out hb)
    clear hb
    have N1 := Lib.hid hcv
    refine Rg.list_run (some 18) rfl rfl (Rg.exec_move (v := .tuple #[(.agg #[.int .i64 e1, .slice oa1 on1 oc1, .slice ra1 rn1 rc1]), .int .i64 0]) _ rfl rfl) ?_
    go_frame
    refine Rg.list_run (some 21) rfl rfl (exec_extract (v := (.agg #[.int .i64 e1, .slice oa1 on1 oc1, .slice ra1 rn1 rc1])) _ _ rfl rfl rfl) ?_
    go_frame
    refine Rg.list_run (some 22) rfl rfl (exec_extract (v := .int .i64 0) _ _ rfl rfl rfl) ?_
    go_frame
    refine Rg.list_run (some 7) rfl rfl (exec_allocC rfl) ?_
    go_frame
    refine Rg.list_skip none rfl rfl (Rg.exec_store _ _ _ rfl _ rfl _ rfl (run_storeC _ _ _ _ _ _ _ (Tri.new w3 (.int .i64 0) (.slice none 0 0) (.slice none 0 0)))) ?_
    go_frame
    have htn := (Tri.new w3 (.int .i64 0) (.slice none 0 0) (.slice none 0 0)).set (.int .i64 e1) (.slice oa1 on1 oc1) (.slice ra1 rn1 rc1)
    have hb := ((((Below.refl w3.heap.size w3).alloc (Nat.le_refl _) (.cells #[.int .i64 0, .slice none 0 0, .slice none 0 0] 51)).setCell (p := ⟨w3.heap.size, 0, none⟩) (Nat.le_refl _) (.int .i64 e1)).setCell (p := ⟨w3.heap.size, 1, none⟩) (Nat.le_refl _) (.slice oa1 on1 oc1)).setCell (p := ⟨w3.heap.size, 2, none⟩) (Nat.le_refl _) (.slice ra1 rn1 rc1)
    generalize (((w3.alloc (.cells #[.int .i64 0, .slice none 0 0, .slice none 0 0] 51)).setCell ⟨w3.heap.size, 0, none⟩ (.int .i64 e1)).setCell ⟨w3.heap.size, 1, none⟩ (.slice oa1 on1 oc1)).setCell ⟨w3.heap.size, 2, none⟩ (.slice ra1 rn1 rc1) = w4 at *
    replace HL := Lib.hid (HL.out.below hb)
    replace HN := Lib.hid (HN.out.below hb)
    replace HG := Lib.hid (HG.out.below hb)
    replace G6 := Lib.hid (G6.out.below hb)
    replace N1 := Lib.hid (N1.out.below hb)
    replace K := Lib.hid (Rg.acc K.out hb)
    clear hb
    have T1 := Lib.hid htn
    clear htn
    refine Rg.list_run (some 8) rfl rfl (Rg.exec_assign (v := .int .i64 0) _ rfl rfl) ?_
    go_frame
    clear hcv
    have HNS := Lib.hid (show Rg.Ints w4 (.slice na nums.length nc) nums from HN.out.i.small (by omega))
    obtain ⟨rk, hrk⟩ : ∃ c, Hid (rndc ((d : Nat) : Int) (gs.map Ma.ofN) nums = c) := ⟨_, Lib.hid rfl⟩
    have hor := rndc_or HCK.out (nums := nums) (by omega)
    rw [hrk.out] at hor
    have HOR := Lib.hid hor
    clear hor
    go_upto_region 6 with (fail)
    refine wp_region_list ?_
    refine Rg.list_run (some 24) rfl rfl (Rg.exec_load (v := .agg #[.int .i64 ((d : Nat) : Int), .slice ga (gs.map Ma.ofN).length gc]) _ _ rfl ⟨w2.heap.size, 0, none⟩ rfl (run_loadG G6.out.c0 G6.out.c1)) ?_
    go_frame
    refine Rg.list_run (some 25) rfl rfl (Rg.exec_move (v := .slice na nums.length nc) _ rfl rfl) ?_
    go_frame
    refine list_ask (some 26) rfl rfl _ _ (exec_fn 36 _ _ _ rfl rfl rfl (Zmcl3 _ _)) ?_
    refine (pRandom_any _ _ _ (gs.map Ma.ofN) nums w4 HG.out HNS.out).mono ?_
    rintro e1 w5 ⟨cv, rfl, hcv, hb⟩
    obtain ⟨e2, oa2, on2, oc2, ra2, rn2, rc2, rfl⟩ := hcv.shape
    rw [hrk.out] at hcv ⊢
    refine ⟨_, rfl, ?_⟩
    go_frame
    replace HL := Lib.hid (HL.out.below hb)
    replace HN := Lib.hid (HN.out.below hb)
    replace HG := Lib.hid (HG.out.below hb)
    replace G6 := Lib.hid (G6.out.below hb)
    replace N1 := Lib.hid (N1.out.below hb)
    replace T1 := Lib.hid (T1.out.below hb)
    replace HNS := Lib.hid (HNS.out.below hb)
    replace K := Lib.hid (Rg.acc K.out hb)
    clear hb
    have N2 := Lib.hid hcv
    refine Rg.list_run (some 23) rfl rfl (Rg.exec_move (v := .tuple #[(.agg #[.int .i64 e2, .slice oa2 on2 oc2, .slice ra2 rn2 rc2]), .int .i64 rk]) _ rfl rfl) ?_
    go_frame
    refine Rg.list_run (some 27) rfl rfl (exec_extract (v := (.agg #[.int .i64 e2, .slice oa2 on2 oc2, .slice ra2 rn2 rc2])) _ _ rfl rfl rfl) ?_
    go_frame
    refine Rg.list_run (some 28) rfl rfl (exec_extract (v := .int .i64 rk) _ _ rfl rfl rfl) ?_
    go_frame
    refine Rg.list_run (some 9) rfl rfl (exec_allocC rfl) ?_
    go_frame
    refine Rg.list_skip none rfl rfl (Rg.exec_store _ _ _ rfl _ rfl _ rfl (run_storeC _ _ _ _ _ _ _ (Tri.new w5 (.int .i64 0) (.slice none 0 0) (.slice none 0 0)))) ?_
    go_frame
    have htn := (Tri.new w5 (.int .i64 0) (.slice none 0 0) (.slice none 0 0)).set (.int .i64 e2) (.slice oa2 on2 oc2) (.slice ra2 rn2 rc2)
    have hb := ((((Below.refl w5.heap.size w5).alloc (Nat.le_refl _) (.cells #[.int .i64 0, .slice none 0 0, .slice none 0 0] 51)).setCell (p := ⟨w5.heap.size, 0, none⟩) (Nat.le_refl _) (.int .i64 e2)).setCell (p := ⟨w5.heap.size, 1, none⟩) (Nat.le_refl _) (.slice oa2 on2 oc2)).setCell (p := ⟨w5.heap.size, 2, none⟩) (Nat.le_refl _) (.slice ra2 rn2 rc2)
    generalize (((w5.alloc (.cells #[.int .i64 0, .slice none 0 0, .slice none 0 0] 51)).setCell ⟨w5.heap.size, 0, none⟩ (.int .i64 e2)).setCell ⟨w5.heap.size, 1, none⟩ (.slice oa2 on2 oc2)).setCell ⟨w5.heap.size, 2, none⟩ (.slice ra2 rn2 rc2) = w6 at *
    replace HL := Lib.hid (HL.out.below hb)
    replace HN := Lib.hid (HN.out.below hb)
    replace HG := Lib.hid (HG.out.below hb)
    replace G6 := Lib.hid (G6.out.below hb)
    replace N1 := Lib.hid (N1.out.below hb)
    replace T1 := Lib.hid (T1.out.below hb)
    replace HNS := Lib.hid (HNS.out.below hb)
    replace N2 := Lib.hid (N2.out.below hb)
    replace K := Lib.hid (Rg.acc K.out hb)
    clear hb
    have T2 := Lib.hid htn
    clear htn
    refine Rg.list_run (some 10) rfl rfl (Rg.exec_assign (v := .int .i64 rk) _ rfl rfl) ?_
    go_frame
    clear hcv
    by_cases hr0 : rk = 0
    case pos =>
      subst hr0
      go_upto_region 7 with (fail)
      refine wp_region_list ?_
      refine Rg.list_run (some 29) rfl rfl (Rg.exec_move (v := .int .i64 0) _ rfl rfl) ?_
      go_frame
      refine Rg.list_run (some 30) rfl rfl (exec_bin (R := .bool false) .eql _ _ _ rfl rfl rfl (b_eql _ (decide_eq_false (by decide)))) ?_
      go_frame
      go_upto_region 9 with (fail)
      refine wp_region_list ?_
      refine Rg.list_run (some 41) rfl rfl (Rg.exec_move (v := .bool true) _ rfl rfl) ?_
      go_frame
      refine Rg.list_run (some 42) rfl rfl (Rg.exec_move (v := .bool true) _ rfl rfl) ?_
      go_frame
      refine listW_run (some 43) rfl rfl (Rg.exec_move (v := .int .i64 0) _ rfl rfl) ?_
      go_frame
      refine listW_run (some 44) rfl rfl (exec_eqI _ _ rfl rfl rfl rfl) ?_
      go_frame
      refine Rg.list_run (some 45) rfl rfl (exec_pickT (v := .bool true) _ _ _ rfl rfl rfl) ?_
      go_frame
      refine Rg.list_run (some 46) rfl rfl (Rg.exec_move (v := .bool true) _ rfl rfl) ?_
      go_frame
      refine listW_run (some 47) rfl rfl (Rg.exec_move (v := .int .i64 0) _ rfl rfl) ?_
      go_frame
      refine listW_run (some 48) rfl rfl (exec_eqI _ _ rfl rfl rfl rfl) ?_
      go_frame
      refine Rg.list_run (some 49) rfl rfl (exec_pickT (v := .bool true) _ _ _ rfl rfl rfl) ?_
      go_frame
      refine Rg.list_run (some 50) rfl rfl (Rg.exec_move (v := .bool true) _ rfl rfl) ?_
      go_frame
      refine listW_run (some 51) rfl rfl (Rg.exec_load (v := (.agg #[.int .i64 e1, .slice oa1 on1 oc1, .slice ra1 rn1 rc1])) _ _ rfl ⟨w3.heap.size, 0, none⟩ rfl (run_loadC3 T1.out.c0 T1.out.c1 T1.out.c2)) ?_
      go_frame
      refine listW_run (some 52) rfl rfl (Rg.exec_load (v := (.agg #[.int .i64 e2, .slice oa2 on2 oc2, .slice ra2 rn2 rc2])) _ _ rfl ⟨w5.heap.size, 0, none⟩ rfl (run_loadC3 T2.out.c0 T2.out.c1 T2.out.c2)) ?_
      go_frame
      refine listW_ask (some 53) rfl rfl _ _ (exec_fn 35 _ _ _ rfl rfl rfl (Zmcl4 _ _)) ?_
      refine (SameChain_ans N1.out N2.out).mono ?_
      rintro e1 w7 ⟨rfl, hb⟩
      refine ⟨_, rfl, ?_⟩
      go_frame
      replace HL := Lib.hid (HL.out.below hb)
      replace HN := Lib.hid (HN.out.below hb)
      replace HG := Lib.hid (HG.out.below hb)
      replace G6 := Lib.hid (G6.out.below hb)
      replace N1 := Lib.hid (N1.out.below hb)
      replace T1 := Lib.hid (T1.out.below hb)
      replace HNS := Lib.hid (HNS.out.below hb)
      replace N2 := Lib.hid (N2.out.below hb)
      replace T2 := Lib.hid (T2.out.below hb)
      replace K := Lib.hid (Rg.acc K.out hb)
      clear hb
      refine Rg.list_run (some 54) rfl rfl (exec_pickT (v := .bool true) _ _ _ rfl rfl rfl) ?_
      go_frame
      refine Rg.list_run (some 4) rfl rfl (Rg.exec_assign (v := .bool true) _ rfl rfl) ?_
      go_frame
      go_wp2
      go_ret
      exact ⟨rfl, K.out⟩
    case neg =>
      obtain rfl : rk = 13 := by
        rcases HOR.out with e | e
        · exact absurd e hr0
        · exact e
      have hz := N2.out.zero (by decide)
      injection hz with hz
      simp only [Array.mk.injEq, List.cons.injEq, Value.int.injEq, Value.slice.injEq, and_true, true_and] at hz
      obtain ⟨h1, ⟨h2, h3, h4⟩, h5, h6, h7⟩ := hz
      subst h1 h2 h3 h4 h5 h6 h7
      go_upto_region 7 with (fail)
      refine wp_region_list ?_
      refine Rg.list_run (some 29) rfl rfl (Rg.exec_move (v := .int .i64 13) _ rfl rfl) ?_
      go_frame
      refine Rg.list_run (some 30) rfl rfl (exec_bin (R := .bool true) .eql _ _ _ rfl rfl rfl (b_eql _ (decide_eq_true rfl))) ?_
      go_frame
      go_upto_region 8 with (fail)
      refine wp_region_list ?_
      refine Rg.list_run (some 31) rfl rfl (Rg.exec_move (v := .bool true) _ rfl rfl) ?_
      go_frame
      refine Rg.list_run (some 32) rfl rfl (Rg.exec_move (v := .bool true) _ rfl rfl) ?_
      go_frame
      refine listW_run (some 33) rfl rfl (Rg.exec_move (v := .int .i64 0) _ rfl rfl) ?_
      go_frame
      refine listW_run (some 34) rfl rfl (exec_eqI _ _ rfl rfl rfl rfl) ?_
      go_frame
      refine Rg.list_run (some 35) rfl rfl (exec_pickT (v := .bool true) _ _ _ rfl rfl rfl) ?_
      go_frame
      refine Rg.list_run (some 36) rfl rfl (Rg.exec_move (v := .bool true) _ rfl rfl) ?_
      go_frame
      refine listW_run (some 37) rfl rfl (Rg.exec_load (v := (.agg #[.int .i64 0, .slice none 0 0, .slice none 0 0])) _ _ rfl ⟨w5.heap.size, 0, none⟩ rfl (run_loadC3 T2.out.c0 T2.out.c1 T2.out.c2)) ?_
      go_frame
      refine listW_run (some 38) rfl rfl (exec_buildC0 rfl) ?_
      go_frame
      refine listW_ask (some 39) rfl rfl _ _ (exec_fn 35 _ _ _ rfl rfl rfl (Zmcl4 _ _)) ?_
      refine (SameChain_zero).mono ?_
      rintro e1 w7 ⟨rfl, hb⟩
      refine ⟨_, rfl, ?_⟩
      go_frame
      replace HL := Lib.hid (HL.out.below hb)
      replace HN := Lib.hid (HN.out.below hb)
      replace HG := Lib.hid (HG.out.below hb)
      replace G6 := Lib.hid (G6.out.below hb)
      replace N1 := Lib.hid (N1.out.below hb)
      replace T1 := Lib.hid (T1.out.below hb)
      replace HNS := Lib.hid (HNS.out.below hb)
      replace N2 := Lib.hid (N2.out.below hb)
      replace T2 := Lib.hid (T2.out.below hb)
      replace K := Lib.hid (Rg.acc K.out hb)
      clear hb
      refine Rg.list_run (some 40) rfl rfl (exec_pickT (v := .bool true) _ _ _ rfl rfl rfl) ?_
      go_frame
      refine Rg.list_run (some 4) rfl rfl (Rg.exec_assign (v := .bool true) _ rfl rfl) ?_
      go_frame
      go_wp2
      go_ret
      exact ⟨rfl, K.out⟩
end Go.Proofs.Ytojbijkljnohoaa

set_option linter.unusedVariables false
namespace Go.Proofs.Ytojbijkljnohoaa
open Go.RowKit
open Go.Proofs
open Go.ChangeShapes Go.WideShapes Go.Deep Go.Joins
attribute [local irreducible] Go.Calls
section
variable {H : Type} {enc : TypeId × Value → H}
theorem readI {W : World} {base : Nat} {r : Reach} {v : Value} {d : DataW H} {p : List MemPlace} (h : DataW.Trod enc Try.prog W 0 (fun _ => true) true 33 v d p) (hv : ∃ x, v.cells.toList = [x] ∧ v = x) :
    ∃ l, Rg.IntsB maxLen W v l := by
  obtain ⟨fuel, hf⟩ := h
  obtain ⟨x, hc, rfl⟩ := hv
  rw [hc] at hf
  rcases open_ints Try.underlying33 Try.underlying3 cells3 hf with ⟨hcs, _⟩ | ⟨a, len, cap, zs, hcs, _, hl, hm, hz, _, hcell, _⟩
  · obtain rfl : v = .slice none 0 0 := by simpa using hcs
    exact ⟨[], none, 0, rfl, by simp, Nat.zero_le _, by simp, fun h => by simp at h⟩
  · obtain rfl : v = .slice (some a) len cap := by simpa using hcs
    simp only [if_true] at hz
    have hlen : (zs.take len).length = len := by rw [List.length_take]; omega
    refine ⟨zs.take len, some a, cap, by rw [List.length_map, hlen], by rw [List.length_map, hlen]; exact hl, hm, by rw [List.length_map, hlen]; omega, fun h0 => ?_⟩
    rw [List.length_map, hlen] at h0
    have hc0 := hcell 0 (by omega)
    have ha : a = ⟨a.block, a.off, none⟩ := by
      have := spot_none (a := a) (by simpa [Addr.add] using hc0)
      cases a; simp at this; subst this; rfl
    refine ⟨a.block, a.off, by rw [← ha], lt_of_cell (a := a) (by simpa [Addr.add] using hc0), fun i hi => ?_⟩
    rw [List.length_map, hlen] at hi
    rw [← add_none ha i, hcell i (by omega)]
    simp [List.getD, List.getElem?_eq_getElem (show i < zs.length by omega)]
end
end Go.Proofs.Ytojbijkljnohoaa
