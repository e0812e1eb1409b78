/- Lemmas and contracts on the way to the statement; no condition of their own beyond those written. -/
import Derived.Test.YtcfomoknlchemaaXVatoZk
import Derived.RangeFuncWrites
import Derived.RangeFuncNested
import Derived.RangeFuncBox
import Derived.RangeFuncLeaves
import Derived.Shelf.Abstract
import Derived.OwnWalkIn
import Derived.TacticsInMore
import Derived.LoopNIn
import Derived.LoopIn
import Derived.Maps.AppendAt
import Derived.Sort.CutIn
import Derived.Deep.CutRange
import Derived.Deep.CutBlock
import Derived.IntWalk
import Derived.Great.BuildSlice
import Derived.ArgAppend
import Derived.Laws.CopyOwn
import Derived.StillTailTactics
import Derived.Deep.MidRow
import Derived.WalkSpells
import Derived.WalkLawsBesides
import Derived.OwnWalk
import Derived.OrdersHeld
import Derived.Deep.OwnRows
import Derived.WalkKit
import Derived.Lib.Hide
import Derived.Laws.OwnMore
import Derived.Test.YtcfomoknlchemaaProg
import Derived.Outline
import Derived.Deep.DeepFit
import Derived.BigQuiet
import Derived.Deep.QuietTactic
import Derived.Sort.OwnSortedInts
import Derived.WideMake
import Derived.MapKept
import Derived.ChangeMaps5
import Derived.Shelf.Sort.Plain
import Derived.Lib.ConvBytes
import Derived.ChangeKeysEq
import Derived.Laws.Cells
import Derived.Laws.Rows
import Derived.Laws.Tables
import Derived.Deep.WholeRow
import Derived.OrdersIn
import Derived.TacticsIn
import Derived.Deep.LoopGhost
import Derived.Lib.SlicesSearch
import Derived.Stop.BytesEq
import Derived.Shelf.SlSortCmp.Whole1
import Derived.Ground.SlsfProg
set_option linter.unusedVariables false
set_option linter.unusedSimpArgs false
set_option maxRecDepth 100000
set_option maxHeartbeats 8000000
namespace Go.Proofs.Ytcfomoknlchemaa
open Go.RowKit
open Go.Proofs
open Go.Proofs.Ob
open Go.Proofs.Cm (Gd)
attribute [local irreducible] Go.Calls Go.wpList
theorem Zlcl2 (args : Array Value) (w : World) : (callFunc 19 args).run Try.prog w = .ok (.enter 19 args) w := by kernel_rfl
theorem Zlcl3 (args : Array Value) (w : World) : (callFunc 74 args).run Try.prog w = .ok (.enter 74 args) w := by kernel_rfl
theorem Zlcl4 (args : Array Value) (w : World) : (callFunc 28 args).run Try.prog w = .ok (.enter 28 args) w := by kernel_rfl
theorem exec_buildTk {o : Oper} {a : Act} {w : World} {la : Option Addr} {n c : Nat} (x : Operand) (ho : o.op = .build 43 #[(0, x)]) (hx : a.eval x = .slice la n c) :
  (execOp a.eval o).run Try.prog w = .ok (.value (.agg #[.slice la n c, .int .i64 0])) w := by
 unfold execOp;simp only [ho, Sem.run_bind, Sem.run_pure];simp only [List.map_toArray, List.map_cons, List.map_nil, hx]
 have h : (Instr.build 43 #[(0, .slice la n c)]).run Try.prog w = .ok (.agg #[.slice la n c, .int .i64 0]) w := by kernel_rfl
 first | (rw [h]; rfl) | (erw [h]; rfl)
theorem Tk.new {w : World} {la : Option Addr} {n c : Nat} {l : List Int} {W : World} (hb : Below w.heap.size w W) (hl : Rg.IntsB maxLen w (.slice la n c) l) (t : TypeId) : Tk w (W.alloc (.cells #[.slice la n c, .int .i64 0] t)) W.heap.size 0 (.slice la n c) l :=
 ⟨by rw [Rg.cellNew]; rfl, by rw [Rg.cellNew]; rfl, frozenNewN _ _ _ 0 _, by simp, hb.size, hb.alloc hb.size _, hl⟩
structure CW1 (w : World) (b : Nat) (v : Value) : Prop where
 c : w.cell? ⟨b, 1, none⟩ = some v
 f : w.frozen? ⟨b, 1, none⟩ = false
 lt : b < w.heap.size
theorem Tk.up {w0 w w' : World} {tk k : Nat} {lv : Value} {l : List Int} (h : Tk w0 w tk k lv l) (hb : Below w.heap.size w w') : Tk w0 w' tk k lv l := h.below hb
theorem PRow.up {w w' : World} {g n : Nat} {y : List Nat} (h : PRow w g n y) (hb : Below w.heap.size w w') : PRow w' g n y := h.below hb
theorem RwAt.up {w w' : World} {g n : Nat} {f : Nat → Int} (h : RwAt w g n f) (hb : Below w.heap.size w w') : RwAt w' g n f := h.below hb
theorem _root_.Go.Proofs.Rg.Kp.up {M : Nat → Prop} {w w' w'' : World} (h : Rg.Kp M w w') (hb : Below w'.heap.size w' w'') : Rg.Kp M w w'' := kpAcc h hb
structure FZ (w : World) (b o : Nat) : Prop where
 f : w.frozen? ⟨b, o, none⟩ = false
 lt : b < w.heap.size
theorem FZ.below {w w' : World} {b o : Nat} (h : FZ w b o) (hb : Below w.heap.size w w') : FZ w' b o := ⟨(hb.frozen (p := ⟨b, o, none⟩) h.lt).trans h.f, Nat.lt_of_lt_of_le h.lt hb.size⟩
theorem FZ.kp {M : Nat → Prop} {w w' : World} {b o : Nat} (h : FZ w b o) (hk : Rg.Kp M w w') (hM : ¬ M b) : FZ w' b o := ⟨(World.frozen?_of_block (a := ⟨b, o, none⟩) (hk.block b h.lt hM)).trans h.f, Nat.lt_of_lt_of_le h.lt hk.size⟩
theorem gset (W : World) (x y : Value) (t : TypeId) : CL (((W.alloc (.cells #[.int .i64 0, .slice none 0 0] t)).setCell ⟨W.heap.size, 0, none⟩ x).setCell ⟨W.heap.size, 1, none⟩ y) W.heap.size 0 x ∧ (CW1 (((W.alloc (.cells #[.int .i64 0, .slice none 0 0] t)).setCell ⟨W.heap.size, 0, none⟩ x).setCell ⟨W.heap.size, 1, none⟩ y) W.heap.size y) ∧ Below W.heap.size W (((W.alloc (.cells #[.int .i64 0, .slice none 0 0] t)).setCell ⟨W.heap.size, 0, none⟩ x).setCell ⟨W.heap.size, 1, none⟩ y) := by
 have c0 : (W.alloc (.cells #[.int .i64 0, .slice none 0 0] t)).cell? ⟨W.heap.size, 0, none⟩ = some (.int .i64 0) := by rw [Rg.cellNew]; rfl
 have c1 : (W.alloc (.cells #[.int .i64 0, .slice none 0 0] t)).cell? ⟨W.heap.size, 1, none⟩ = some (.slice none 0 0) := by rw [Rg.cellNew]; rfl
 have f1 : (W.alloc (.cells #[.int .i64 0, .slice none 0 0] t)).frozen? ⟨W.heap.size, 1, none⟩ = false := frozenNewN _ _ _ 0 _
 have c1' : ((W.alloc (.cells #[.int .i64 0, .slice none 0 0] t)).setCell ⟨W.heap.size, 0, none⟩ x).cell? ⟨W.heap.size, 1, none⟩ = some (.slice none 0 0) := by
  rw [World.cell?_setCell_other (h := by intro e; injection e with e1 e2; omega) ..]; exact c1
 refine ⟨⟨?_, by simp⟩, ⟨World.cell?_setCell_same (h := c1') .., by rw [World.frozen?_setCell, World.frozen?_setCell]; exact f1, by simp⟩, (((Below.refl _ _).alloc (Nat.le_refl _) _).setCell (p := ⟨W.heap.size, 0, none⟩) (Nat.le_refl _) x).setCell (p := ⟨W.heap.size, 1, none⟩) (Nat.le_refl _) y⟩
 rw [World.cell?_setCell_other (h := by intro e; injection e with e1 e2; omega) ..]
 exact World.cell?_setCell_same (h := c0) ..
theorem gfin {w W : World} {rb : Nat} {u0 u1 x y : Value} (h0 : W.cell? ⟨rb, 0, none⟩ = some u0) (h1 : W.cell? ⟨rb, 1, none⟩ = some u1) (hlt : rb < W.heap.size) (hb : Below w.heap.size w W) (hlo : w.heap.size ≤ rb := by omega) :
  ((W.setCell ⟨rb, 0, none⟩ x).setCell ⟨rb, 1, none⟩ y).cell? ⟨rb, 0, none⟩ = some x ∧ ((W.setCell ⟨rb, 0, none⟩ x).setCell ⟨rb, 1, none⟩ y).cell? ⟨rb, 1, none⟩ = some y ∧ Below w.heap.size w ((W.setCell ⟨rb, 0, none⟩ x).setCell ⟨rb, 1, none⟩ y) ∧ Rg.Kp (fun z => z = rb) W ((W.setCell ⟨rb, 0, none⟩ x).setCell ⟨rb, 1, none⟩ y) := by
 have c1 : (W.setCell ⟨rb, 0, none⟩ x).cell? ⟨rb, 1, none⟩ = some u1 := by
  rw [World.cell?_setCell_other (h := by intro e; injection e with e1 e2; omega) ..]; exact h1
 refine ⟨?_, World.cell?_setCell_same (h := c1) .., (hb.setCell (p := ⟨rb, 0, none⟩) hlo x).setCell (p := ⟨rb, 1, none⟩) hlo y, Rg.Kp.trans (M := fun z => z = rb) (Rg.Kp.of_setCell rfl) (Rg.Kp.of_setCell (M := fun z => z = rb) rfl) (fun _ _ e => e)⟩
 rw [World.cell?_setCell_other (h := by intro e; injection e with e1 e2; omega) ..]
 exact World.cell?_setCell_same (h := h0) ..
theorem PRow.fp {w : World} {g n cap : Nat} {y : List Nat} (h : PRow w g n y) (gy : Gd n y) (hc : n ≤ cap) (hm : cap ≤ maxLen) (h1 : 1 ≤ n) (hn : n ≤ 1000) {F : Nat → Prop} (hF : F g) : FP F w (.slice (some ⟨g, 0, none⟩) n cap) y :=
 Rg.FVals.of (h.np gy hc hm hn) (fun k e => by simp [Value.ownBlock] at e; exact e ▸ hF)
def GM (tk gb rb z : Nat) : Prop := z = tk ∨ z = gb ∨ z = rb
structure RowH (B : Nat) (F M : Nat → Prop) (W : World) (v : Value) (l : List (List Nat)) : Prop where
 size : B ≤ W.heap.size
 own : ∃ us, W.ownsRow B 39 1 v l.length us ∧ Rg.FElts F W us (l.map Ma.ofN)
 off : ∀ k, v.ownBlock = some k → ¬ F k ∧ ¬ M k
theorem RowH.lt {B : Nat} {F M : Nat → Prop} {W : World} {v : Value} {l : List (List Nat)} (h : RowH B F M W v l) : ∀ k, v.ownBlock = some k → B ≤ k ∧ k < W.heap.size := fun k e => by
 obtain ⟨us, h1, h2⟩ := h.own;exact h1.lt k e
theorem RowH.shape {B : Nat} {F M : Nat → Prop} {W : World} {v : Value} {l : List (List Nat)} (h : RowH B F M W v l) : ∃ a c, v = .slice a l.length c := by
 obtain ⟨us, h1, h2⟩ := h.own;exact Rg.row_shape h1
theorem RowH.nil (B : Nat) (F M : Nat → Prop) (W : World) (hB : B ≤ W.heap.size) : RowH B F M W (.slice none 0 0) [] :=
 ⟨hB, ⟨[], World.ownsRow_nil _ _ _ _, Rg.FElts.nil _ _⟩, fun k e => by simp [Value.ownBlock] at e⟩
theorem RowH.rows {B : Nat} {F M : Nat → Prop} {W : World} {v : Value} {l : List (List Nat)} (h : RowH B F M W v l) (hl : l.length ≤ 1000000000) : Rg.Rows W v (l.map Ma.ofN) := by
 obtain ⟨us, h1, h2⟩ := h.own;exact Rg.Rows.of_row h1 hl h2.1 (fun i a b => (h2.2 i a b).ints)
theorem RowH.kp {B : Nat} {F M N : Nat → Prop} {W W' : World} {v : Value} {l : List (List Nat)} (h : RowH B F M W v l) (hk : Rg.Kp N W W') (hF : ∀ k, F k → ¬ N k) (hN : ∀ k, v.ownBlock = some k → ¬ N k) : RowH B F M W' v l := by
 obtain ⟨us, h1, h2⟩ := h.own;exact ⟨Nat.le_trans h.size hk.size, ⟨us, rowKp h1 hk (fun k hn e => hN k e hn), h2.kp hk hF⟩, h.off⟩
theorem RowH.upk {B : Nat} {F M N : Nat → Prop} {W W' : World} {v : Value} {l : List (List Nat)} (h : RowH B F M W v l) (hk : Rg.Kp N W W') (hF : ∀ k, F k → ¬ N k) (hN : ∀ k, N k → M k) : RowH B (Fup F W W') M W' v l := by
 obtain ⟨us, h1, h2⟩ := h.own;refine ⟨Nat.le_trans h.size hk.size, ⟨us, rowKp h1 hk (fun k hn e => (h.off k e).2 (hN k hn)), (h2.kp hk hF).mono fun k => .inl⟩, fun k e => ⟨fun g => ?_, (h.off k e).2⟩⟩;have := (h.lt k e).2
 rcases g with g | g
 ·exact (h.off k e).1 g
 ·omega
theorem RowH.push {B : Nat} {F M : Nat → Prop} {W : World} {v : Value} {l : List (List Nat)} (h : RowH B F M W v l) {u : Value} {x : List Nat} (hu : FP F W u x) (hs : ∃ a m c, u = .slice a m c) (hF : ∀ k, F k → k < W.heap.size) (hM : ∀ k, M k → k < W.heap.size) (hn : l.length < 1000000) (ty : TypeId) :
  ∃ a c X, (Builtin.append_ #[24, 24] ty #[v, .slice (some ⟨W.heap.size, 0, none⟩) 1 1]).run Try.prog (W.alloc (.cells #[u] 39)) = .ok (.slice a (l.length + 1) c) X ∧ RowH B F M X (.slice a (l.length + 1) c) (l ++ [x]) ∧ Rg.Kp (fun k => v.ownBlock = some k) W X := by
 obtain ⟨us, h1, h2⟩ := h.own;obtain ⟨a0, m0, c0, rfl⟩ := hs;have hb : Below W.heap.size W (W.alloc (.cells #[.slice a0 m0 c0] 39)) := (Below.refl _ _).alloc (Nat.le_refl _) _;obtain ⟨v', X, r1, r2, r3, r4, a, c, rfl⟩ := app_run (P := Try.prog) slPerms ty (Rg.row_below h1 hb) (Nat.le_trans h.size hb.size) W.heap.size 1 (u := .slice a0 m0 c0) (by rw [Rg.cellNew]; rfl) rfl hn;have hk : Rg.Kp (fun k => v.ownBlock = some k) W X := Rg.Kp.trans (M := fun k => v.ownBlock = some k) ((Rg.Kp.of_below hb).weak fun _ => False.elim) (Rg.Kp.of_grown r3 fun _ e => e) (fun _ _ e => e);have hg : ∀ k, F k → ¬ v.ownBlock = some k := fun k g e => (h.off k e).1 g;refine ⟨a, c, X, r1, ⟨Nat.le_trans h.size hk.size, ⟨us ++ [.slice a0 m0 c0], by rw [List.length_append]; exact r2, by rw [List.map_append]; exact FElts.snoc (h2.kp hk hg) (Rg.FI.kp hu hk hg)⟩, fun k e => ?_⟩, hk⟩
 rcases r4 with r4 | r4
 ·exact h.off k (by rw [← r4]; exact e)
 ·rw [r4] at e
  injection e with e
  have e2 : (W.alloc (.cells #[.slice a0 m0 c0] 39)).heap.size = W.heap.size + 1 := by simp
  exact ⟨fun g => by have := hF _ g; omega, fun g => by have := hM _ g; omega⟩
structure GOf (w W : World) (tk gb rb k d : Nat) (lv : Value) (l : List Int) (F : Nat → Prop) (gv : Value) (gs : List (List Nat)) : Prop where
 tkr : Tk w W tk k lv l
 g0 : CL W gb 0 (.int .i64 ((d : Nat) : Int))
 g1 : W.cell? ⟨gb, 1, none⟩ = some gv
 gf : W.frozen? ⟨gb, 1, none⟩ = false
 r0 : ∃ u, W.cell? ⟨rb, 0, none⟩ = some u
 r1 : ∃ u, W.cell? ⟨rb, 1, none⟩ = some u
 rf0 : W.frozen? ⟨rb, 0, none⟩ = false
 rf1 : W.frozen? ⟨rb, 1, none⟩ = false
 rlt : rb < W.heap.size
 rw : RowH w.heap.size F (GM tk gb rb) W gv gs
 nF : ∀ z, GM tk gb rb z → ¬ F z
 Flt : ∀ z, F z → z < W.heap.size
 n1 : gb ≠ tk
 n2 : rb ≠ tk
 n3 : rb ≠ gb
 lo : ∀ z, GM tk gb rb z → w.heap.size ≤ z
theorem GOf.kt {w W W' : World} {tk gb rb k k' d : Nat} {lv : Value} {l : List Int} {F : Nat → Prop} {gv : Value} {gs : List (List Nat)} (h : GOf w W tk gb rb k d lv l F gv gs) (hk : Rg.Kp (fun z => z = tk) W W') (ht : Tk w W' tk k' lv l) : GOf w W' tk gb rb k' d lv l (Fup F W W') gv gs := by
 have hg := World.cell?_of_block (a := ⟨gb, 1, none⟩) (hk.block gb h.g0.lt h.n1);have hgf := World.frozen?_of_block (a := ⟨gb, 1, none⟩) (hk.block gb h.g0.lt h.n1);have hb := hk.block rb h.rlt h.n2;refine ⟨ht, h.g0.kp hk h.n1, hg.trans h.g1, hgf.trans h.gf, ?_, ?_, (World.frozen?_of_block (a := ⟨rb, 0, none⟩) hb).trans h.rf0, (World.frozen?_of_block (a := ⟨rb, 1, none⟩) hb).trans h.rf1, Nat.lt_of_lt_of_le h.rlt hk.size, h.rw.upk hk (fun z hz e => h.nF z (.inl e) hz) (fun z e => .inl e), fun z hz hf => ?_, fun z hf => ?_, h.n1, h.n2, h.n3, h.lo⟩
 ·obtain ⟨u, hu⟩ := h.r0; exact ⟨u, (World.cell?_of_block (a := ⟨rb, 0, none⟩) hb).trans hu⟩
 ·obtain ⟨u, hu⟩ := h.r1; exact ⟨u, (World.cell?_of_block (a := ⟨rb, 1, none⟩) hb).trans hu⟩
 ·rcases hf with hf | hf
  ·exact h.nF z hz hf
  ·rcases hz with e | e | e
   ·have := h.tkr.lt; omega
   ·have := h.g0.lt; omega
   ·have := h.rlt; omega
 ·rcases hf with hf | hf
  ·exact Nat.lt_of_lt_of_le (h.Flt z hf) hk.size
  ·exact hf.2
theorem GOf.push {w W : World} {tk gb rb k d : Nat} {lv : Value} {l : List Int} {F : Nat → Prop} {gv : Value} {gs : List (List Nat)} (h : GOf w W tk gb rb k d lv l F gv gs) {u : Value} {y : List Nat} (hu : FP F W u y) (hs : ∃ a m c, u = .slice a m c) (hn : gs.length < 1000000) (ty : TypeId) :
  ∃ a c X, (Builtin.append_ #[24, 24] ty #[gv, .slice (some ⟨W.heap.size, 0, none⟩) 1 1]).run Try.prog (W.alloc (.cells #[u] 39)) = .ok (.slice a (gs.length + 1) c) X ∧ X.cell? ⟨gb, 1, none⟩ = some gv ∧ X.frozen? ⟨gb, 1, none⟩ = false ∧
   GOf w (X.setCell ⟨gb, 1, none⟩ (.slice a (gs.length + 1) c)) tk gb rb k d lv l F (.slice a (gs.length + 1) c) (gs ++ [y]) := by
 have hM : ∀ z, GM tk gb rb z → z < W.heap.size := fun z e => by
  rcases e with e | e | e
  ·have := h.tkr.lt; omega
  ·have := h.g0.lt; omega
  ·have := h.rlt; omega
 obtain ⟨a, c, X, r1, r2, r3⟩ := h.rw.push hu hs h.Flt hM hn ty;have hO : ∀ z, GM tk gb rb z → ¬ gv.ownBlock = some z := fun z hz e => (h.rw.off z e).2 hz;have hFo : ∀ z, F z → ¬ gv.ownBlock = some z := fun z hz e => (h.rw.off z e).1 hz;have hkg := r3.block gb h.g0.lt (hO gb (.inr (.inl rfl)));have hkr := r3.block rb h.rlt (hO rb (.inr (.inr rfl)));have hc1 := (World.cell?_of_block (a := ⟨gb, 1, none⟩) hkg).trans h.g1;have hf1 := (World.frozen?_of_block (a := ⟨gb, 1, none⟩) hkg).trans h.gf;have hk2 : Rg.Kp (fun z => z = gb) X (X.setCell ⟨gb, 1, none⟩ (.slice a (gs.length + 1) c)) := Rg.Kp.of_setCell rfl;have hFg : ∀ z, F z → ¬ z = gb := fun z hz e => h.nF z (.inr (.inl e)) hz;have hkr2 := hk2.block rb (Nat.lt_of_lt_of_le h.rlt r3.size) h.n3;refine ⟨a, c, X, r1, hc1, hf1, ⟨(h.tkr.kp r3 (hO tk (.inl rfl)) (fun z e => (h.rw.lt z e).1)).kp hk2 (fun e => h.n1 e.symm) (fun z e => e ▸ h.lo gb (.inr (.inl rfl))), ?_, World.cell?_setCell_same (h := hc1) .., by rw [World.frozen?_setCell]; exact hf1, ?_, ?_, ?_, ?_, Nat.lt_of_lt_of_le h.rlt (Nat.le_trans r3.size hk2.size), r2.kp hk2 hFg (fun k e e2 => ?_), h.nF, fun z hz => Nat.lt_of_lt_of_le (h.Flt z hz) (Nat.le_trans r3.size hk2.size), h.n1, h.n2, h.n3, h.lo⟩⟩
 ·refine ⟨?_, Nat.lt_of_lt_of_le h.g0.lt (Nat.le_trans r3.size hk2.size)⟩
  rw [World.cell?_setCell_other (h := by intro e; injection e with e1 e2; omega) ..]
  exact (World.cell?_of_block (a := ⟨gb, 0, none⟩) hkg).trans h.g0.cell
 ·obtain ⟨u', hu'⟩ := h.r0
  exact ⟨u', (World.cell?_of_block (a := ⟨rb, 0, none⟩) hkr2).trans ((World.cell?_of_block (a := ⟨rb, 0, none⟩) hkr).trans hu')⟩
 ·obtain ⟨u', hu'⟩ := h.r1
  exact ⟨u', (World.cell?_of_block (a := ⟨rb, 1, none⟩) hkr2).trans ((World.cell?_of_block (a := ⟨rb, 1, none⟩) hkr).trans hu')⟩
 ·exact (World.frozen?_of_block (a := ⟨rb, 0, none⟩) hkr2).trans ((World.frozen?_of_block (a := ⟨rb, 0, none⟩) hkr).trans h.rf0)
 ·exact (World.frozen?_of_block (a := ⟨rb, 1, none⟩) hkr2).trans ((World.frozen?_of_block (a := ⟨rb, 1, none⟩) hkr).trans h.rf1)
 ·subst e2
  exact (r2.off k e).2 (.inr (.inl rfl))
def GoPost (most : Nat) (w : World) (e : Ending) (w' : World) : Prop := ∃ (d : Nat) (gv : Value) (gs : List (List Nat)), e = .returned (.agg #[.int .i64 ((d : Nat) : Int), gv]) ∧ 1 ≤ d ∧ d ≤ most ∧ gs.length ≤ 3 ∧ (∀ s ∈ gs, Gd d s) ∧ Rg.Rows w' gv (gs.map Ma.ofN) ∧ Below w.heap.size w w'
theorem GOf.start {w W : World} {tk gb rb k d : Nat} {lv : Value} {l : List Int} (ht : Tk w W tk k lv l) (h0 : CL W gb 0 (.int .i64 ((d : Nat) : Int))) (h1 : CL W gb 1 (.slice none 0 0)) (hf : W.frozen? ⟨gb, 1, none⟩ = false) (r0 : ∃ u, W.cell? ⟨rb, 0, none⟩ = some u) (r1 : ∃ u, W.cell? ⟨rb, 1, none⟩ = some u) (rf0 : W.frozen? ⟨rb, 0, none⟩ = false) (rf1 : W.frozen? ⟨rb, 1, none⟩ = false) (n1 : gb ≠ tk) (n2 : rb ≠ tk) (n3 : rb ≠ gb) (rlt : rb < W.heap.size) (lo1 : w.heap.size ≤ gb) (lo2 : w.heap.size ≤ rb) : GOf w W tk gb rb k d lv l (fun _ => False) (.slice none 0 0) [] :=
 ⟨ht, h0, h1.cell, hf, r0, r1, rf0, rf1, rlt, RowH.nil _ _ _ _ ht.bel.size, fun _ _ => id, fun _ => False.elim, n1, n2, n3, fun z e => by rcases e with rfl | rfl | rfl; exact ht.lo; exact lo1; exact lo2⟩
theorem GroupOf_any (lv : Value) (l : List Int) (most : Nat) (w : World) (hl : Rg.IntsB maxLen w lv l) (hm1 : 1 ≤ most) (hm2 : most ≤ 64) :
  Calls Try.prog 15 #[lv, .int .i64 ((most : Nat) : Int)] w (GoPost most w) := by
 obtain ⟨la, lc, rfl, -⟩ := hl.shape;have HL := ι hl;have K := ι (Below.refl w.heap.size w);clear hl;have hs0 : w.heap.size = w.heap.size + 0 := rfl
 go_enter Try.func15, Try.ntmps15
 go_upto_region 0 with (fail);refine wp_region_list ?_;have hg0 := box2 w (.int .i64 0) (.slice none 0 0);have hgf0 := frozenNewN w #[.int .i64 0, .slice none 0 0] 26 0 0;have hgf1 := frozenNewN w #[.int .i64 0, .slice none 0 0] 26 0 1;refine Rg.lr 4 (exec_allocG rfl) ?_;go_frame;have hb := (Below.refl w.heap.size w).alloc (Nat.le_refl _) (.cells #[.int .i64 0, .slice none 0 0] 26);generalize w.alloc (.cells #[.int .i64 0, .slice none 0 0] 26) = w1 at *;replace K := ι (Rg.acc K.out hb);clear hb;have R0 := ι hg0.1;have R1 := ι hg0.2;have F0 := ι (show w1.frozen? ⟨w.heap.size, 0, none⟩ = false from hgf0);have F1 := ι (show w1.frozen? ⟨w.heap.size, 1, none⟩ = false from hgf1);clear hg0 hgf0 hgf1;have FR0 := ι (show FZ w1 w.heap.size 0 from ⟨F0.out, R0.out.lt⟩);have FR1 := ι (show FZ w1 w.heap.size 1 from ⟨F1.out, R1.out.lt⟩);clear F0 F1;go_upto_region 1 with (fail);refine wp_region_list ?_;refine Rg.lr 10 (Rg.xm (.slice la l.length lc) _ rfl rfl) ?_;go_frame
 refine Rg.lr 11 (exec_buildTk _ rfl rfl) ?_;go_frame;have htk := Tk.new K.out HL.out 43;have HRT := ι R0.out.lt;refine Rg.lr 12 (Rg.exec_box _ _ rfl rfl) ?_;go_frame;have hb := (Below.refl w1.heap.size w1).alloc (Nat.le_refl _) (.cells #[.slice la l.length lc, .int .i64 0] 43);generalize w1.alloc (.cells #[.slice la l.length lc, .int .i64 0] 43) = w2 at *;replace R0 := ι (R0.out.below hb);replace R1 := ι (R1.out.below hb);replace FR0 := ι (FR0.out.below hb);replace FR1 := ι (FR1.out.below hb);replace K := ι (Rg.acc K.out hb);clear hb;have TK := ι htk;refine Rg.lr 5 (Rg.xa (.pointer (some ⟨w1.heap.size, 0, none⟩)) _ rfl rfl) ?_;go_frame;clear htk;have HLO := ι R0.out.lt;have HT0 := ι TK.out.lt;have HTL := ι TK.out.lo;have HTR := ι (show w.heap.size < w1.heap.size from HRT.out);go_upto_region 2 with (fail);refine wp_region_list ?_;refine Rg.lr 13 (Rg.xm (.pointer (some ⟨w1.heap.size, 0, none⟩)) _ rfl rfl) ?_;go_frame
 refine Rg.lr 14 (Rg.xm (.int .i64 ((most : Nat) : Int)) _ rfl rfl) ?_;go_frame;refine list_ask (some 15) rfl rfl _ _ (exec_fn 29 _ _ _ rfl rfl rfl (Zkcl1 _ _)) ?_;refine (Take_any TK.out ((most : Nat) : Int) (by omega)).mono ?_;rintro e1 w3 ⟨r0, k0, rfl, hra, hrb, htk, hkp⟩;have hr0 := R0.out.kp hkp (fun e => by have := HTR.out; omega);have hr1 := R1.out.kp hkp (fun e => by have := HTR.out; omega);have hf0 := FR0.out.kp hkp (fun e => by have := HTR.out; omega);have hf1 := FR1.out.kp hkp (fun e => by have := HTR.out; omega)
 have hr0m : r0 < most := by have := hra (by omega); omega
 clear hra hrb;refine ⟨_, rfl, ?_⟩;go_frame;clear TK;replace R0 := ι hr0;replace R1 := ι hr1;replace FR0 := ι hf0;replace FR1 := ι hf1;replace K := ι (show Below w.heap.size w _ from Rg.Kp.below K.out hkp (fun z e => by have := HTL.out; omega));have TK := ι htk;clear hkp hr0 hr1 hf0 hf1;refine Rg.lr 16 (exec_bin (R := .int .i64 (((1 + r0) : Nat) : Int)) .add _ _ _ rfl rfl rfl (b_add _ (by omega) (by omega))) ?_;go_frame;refine Rg.lr 17 (exec_buildG1 _ rfl rfl) ?_;go_frame;have hnb := box2 w3 (.int .i64 0) (.slice none 0 0);have hnf0 := frozenNewN w3 #[.int .i64 0, .slice none 0 0] 26 0 0;have hnf1 := frozenNewN w3 #[.int .i64 0, .slice none 0 0] 26 0 1;refine Rg.lr 6 (exec_allocG rfl) ?_;go_frame;refine Rg.list_skip none rfl rfl (Rg.exec_store _ _ _ rfl _ rfl _ rfl (run_storeG _ _ _ _ hnb.1.cell hnb.2.cell hnf0 hnf1)) ?_;go_frame;clear htk;have HD : 1 ≤ 1 + r0 ∧ 1 + r0 ≤ most := ⟨by omega, by omega⟩
 obtain ⟨d, hd⟩ : ∃ d, 1 + r0 = d := ⟨_, rfl⟩;rw [hd] at HD ⊢;obtain ⟨gq1, gq2, gq3⟩ := gset w3 (.int .i64 ((d : Nat) : Int)) (.slice none 0 0) 26;have HG1 := ι (show w3.heap.size ≠ w1.heap.size ∧ w.heap.size ≠ w3.heap.size from ⟨fun e => by have := TK.out.lt; omega, fun e => by have := R0.out.lt; omega⟩);have HSW := ι K.out.size;replace R0 := ι (R0.out.below gq3);replace R1 := ι (R1.out.below gq3);replace FR0 := ι (FR0.out.below gq3);replace FR1 := ι (FR1.out.below gq3);replace TK := ι (TK.out.below gq3);generalize ((w3.alloc (.cells #[.int .i64 0, .slice none 0 0] 26)).setCell ⟨w3.heap.size, 0, none⟩ (.int .i64 ((d : Nat) : Int))).setCell ⟨w3.heap.size, 1, none⟩ (.slice none 0 0) = w30 at *;have GO := ι (show GOf w w30 w1.heap.size w3.heap.size w.heap.size k0 d (.slice la l.length lc) l (fun _ => False) (.slice none 0 0) [] from GOf.start TK.out gq1 ⟨gq2.c, gq2.lt⟩ gq2.f ⟨_, R0.out.cell⟩ ⟨_, R1.out.cell⟩ FR0.out.f FR1.out.f HG1.out.1 (fun e => by have := HTR.out; omega) HG1.out.2 R0.out.lt HSW.out (Nat.le_refl _))
 clear gq1 gq2 gq3 hnb hnf0 hnf1 R0 R1 FR0 FR1 TK K hd hr0m;go_upto_region 3 with (fail);refine wp_region_list ?_;refine Rg.lr 18 (Rg.xm (.pointer (some ⟨w1.heap.size, 0, none⟩)) _ rfl rfl) ?_;go_frame;refine list_ask (some 19) rfl rfl _ _ (exec_fn 29 _ _ _ rfl rfl rfl (Zkcl1 _ _)) ?_;refine (Take_any GO.out.tkr 4 (by omega)).mono ?_;rintro e1 w31 ⟨r3, k3, rfl, hra, hrb, htk, hkp⟩;have hgo := GO.out.kt hkp htk
 have hr4 : r3 ≤ 3 := by have := hra (by omega); omega
 clear hra hrb htk;refine ⟨_, rfl, ?_⟩;go_frame;clear hkp;refine Rg.lr 7 (Rg.xa (.int .i64 ((r3 : Nat) : Int)) _ rfl rfl) ?_;go_frame;replace GO := ι hgo;have HR3 := ι hr4;have HDD := ι HD;clear hgo hr4 HD;go_wp2
 go_loopw [7] (fun kv wr => ∃ (k k' : Nat) (F : Nat → Prop) (gv : Value) (gs : List (List Nat)), kv = .int .i64 k ∧ k ≤ 3 ∧ Hid (gs.length + k ≤ 3) ∧ Hid (∀ s ∈ gs, Gd d s) ∧ Hid (GOf w wr w1.heap.size w3.heap.size w.heap.size k' d (.slice la l.length lc) l F gv gs)) (fun kv _ => (intOf kv).toNat)
 case atStart => exact ⟨r3, k3, _, _, [], rfl, HR3.out, by rw [List.length_nil, Nat.zero_add]; exact HR3, ι (fun s hs => by simp at hs), GO⟩
 case round =>
  clear GO HR3;obtain ⟨k, k', F, gv, gs, rfl, hk3, HGL, HGS, GO⟩ := hrel;obtain ⟨gva, gvc, rfl⟩ := GO.out.rw.shape;have hd1 : 1 ≤ d := HDD.out.1
  have hd2 : d ≤ 64 := by have := HDD.out.2; omega
  by_cases hk0 : 0 < k
  case neg =>
   obtain rfl : k = 0 := by omega
   go_upto_region 4 with (fail);refine wp_region_list ?_;refine Rg.lr 20 (Rg.xm (.int .i64 ((0 : Nat) : Int)) _ rfl rfl) ?_;go_frame;refine Rg.lr 21 (exec_bin (R := .bool false) .gtr _ _ _ rfl rfl rfl (b_gtr _ (decide_eq_false (by omega)))) ?_;go_frame;obtain ⟨u0, hu0⟩ := GO.out.r0;obtain ⟨u1, hu1⟩ := GO.out.r1;go_upto_region 15 with (fail);refine wp_region_list ?_;refine Rg.lr 79 (Rg.exec_load (v := .agg #[.int .i64 ((d : Nat) : Int), .slice gva gs.length gvc]) _ _ rfl ⟨w3.heap.size, 0, none⟩ rfl (run_loadG GO.out.g0.cell GO.out.g1)) ?_;go_frame;refine Rg.list_skip none rfl rfl (Rg.exec_store _ _ _ rfl _ rfl _ rfl (run_storeG _ _ _ _ hu0 hu1 GO.out.rf0 GO.out.rf1)) ?_;go_frame;have hfin := gfin (x := .int .i64 ((d : Nat) : Int)) (y := (.slice gva gs.length gvc)) hu0 hu1 GO.out.rlt GO.out.tkr.bel;have hrw := (GO.out.rw.kp hfin.2.2.2 (fun z hz e => GO.out.nF z (.inr (.inr e)) hz) (fun z e1 e2 => (GO.out.rw.off z e1).2 (.inr (.inr e2)))).rows (by have := HGL.out; omega)
   generalize (wr.setCell ⟨w.heap.size, 0, none⟩ (.int .i64 ((d : Nat) : Int))).setCell ⟨w.heap.size, 1, none⟩ (.slice gva gs.length gvc) = w199 at *;have HF1 := ι hfin;have HF2 := ι (show GoPost most w (.returned (.agg #[.int .i64 ((d : Nat) : Int), (.slice gva gs.length gvc)])) w199 from ⟨d, _, gs, rfl, HDD.out.1, HDD.out.2, by have := HGL.out; omega, HGS.out, hrw, hfin.2.2.1⟩);clear hfin hrw hu0 hu1;go_wp2;exact bodyPost_ret (results_cellG rfl _ rfl HF1.out.1 HF1.out.2.1) rfl HF2.out
  case pos =>
   have hkN : (0 : Int) < (k : Int) := by omega
   obtain ⟨q, rfl⟩ : ∃ q, k = q + 1 := ⟨k - 1, by omega⟩;go_upto_region 4 with (fail);refine wp_region_list ?_;refine Rg.lr 20 (Rg.xm (.int .i64 (((q + 1) : Nat) : Int)) _ rfl rfl) ?_;go_frame;refine Rg.lr 21 (exec_bin (R := .bool true) .gtr _ _ _ rfl rfl rfl (b_gtr _ (decide_eq_true (by omega)))) ?_;go_frame;have GC := ι GO.out.g0;have TK := ι GO.out.tkr;have KT := ι (Rg.Kp.refl (fun z => z = w1.heap.size) wr);have HNE := ι GO.out.n1;have HTW := ι GO.out.tkr.lt;have HTL2 := ι GO.out.tkr.lo;go_upto_region 6 with (fail);refine wp_region_list ?_;refine Rg.lr 24 (exec_fieldG0 _ rfl rfl) ?_;go_frame;refine Rg.lr 25 (Rg.exec_load (v := .int .i64 ((d : Nat) : Int)) _ _ rfl ⟨w3.heap.size, 0, none⟩ rfl (run_loadInt GC.out.cell)) ?_;go_frame;refine list_ask (some 26) rfl rfl _ _ (exec_fn1 26 _ _ rfl rfl (Zkcl0 _ _)) ?_;refine (kitOne_row d wr hd1 (by omega)).mono ?_;rintro e1 w201 ⟨g, cap, rfl, hg, hc1, hc2, hro, hb⟩
   have HG := ι hg;have HCP := ι (show d ≤ cap ∧ cap ≤ maxLen from ⟨hc1, hc2⟩);clear hg hc1 hc2;refine ⟨_, rfl, ?_⟩;go_frame;replace GC := ι (GC.out.below hb);replace TK := ι (TK.out.below hb);replace KT := ι (kpAcc KT.out hb);clear hb;have PR := ι hro;refine Rg.lr 8 (Rg.xa (.slice (some ⟨g, 0, none⟩) d cap) _ rfl rfl) ?_;go_frame;clear hro;go_upto_region 7 with (fail);refine wp_region_list ?_;refine Rg.lr 27 (Rg.xm (.pointer (some ⟨w1.heap.size, 0, none⟩)) _ rfl rfl) ?_;go_frame;refine list_ask (some 28) rfl rfl _ _ (exec_fn 29 _ _ _ rfl rfl rfl (Zkcl1 _ _)) ?_;refine (Take_any TK.out (3) (by omega)).mono ?_;rintro e1 w202 ⟨r5, k5, rfl, hra, hrb, htk, hkp⟩;have hgc2 := GC.out.kp hkp HNE.out;have hpr2 := RwAt.kp PR.out hkp (fun e => by have := HTW.out; have := HG.out; omega);clear hra hrb;obtain ⟨b3, hb3⟩ : ∃ b, Hid (decide (((r5 : Nat) : Int) = 0) = b) := ⟨_, ι rfl⟩;refine ⟨_, rfl, ?_⟩;go_frame
   clear TK;replace GC := ι hgc2;replace PR := ι hpr2;replace KT := ι (Rg.Kp.trans (M := fun z => z = w1.heap.size) KT.out hkp (fun _ _ e => e));have TK := ι htk;clear hkp hgc2 hpr2;refine Rg.lr 29 (exec_bin (R := .bool b3) .eql _ _ _ rfl rfl rfl (b_eql _ hb3.out)) ?_;go_frame;clear htk
   cases b3 with
   | true =>
    go_upto_region 8 with (fail);refine wp_region_list ?_;refine Rg.lr 30 (Rg.xm (.pointer (some ⟨w1.heap.size, 0, none⟩)) _ rfl rfl) ?_;go_frame;refine Rg.lr 31 (exec_fieldG0 _ rfl rfl) ?_;go_frame;refine Rg.lr 32 (Rg.exec_load (v := .int .i64 ((d : Nat) : Int)) _ _ rfl ⟨w3.heap.size, 0, none⟩ rfl (run_loadInt GC.out.cell)) ?_;go_frame;refine list_ask (some 33) rfl rfl _ _ (exec_fn 19 _ _ _ rfl rfl rfl (Zlcl2 _ _)) ?_;refine (kitPerm_any TK.out hd1 hd2).mono ?_;rintro e1 w203 ⟨g2, cap2, y, k6, rfl, hg, hc1, hc2, hgy, hpr, htk, hkp⟩;have hgc2 := GC.out.kp hkp HNE.out;have HPR2 := ι hpr;have HGY0 := ι hgy;have HG2 := ι (Nat.le_trans KT.out.size hg);have HC2 := ι (show d ≤ cap2 ∧ cap2 ≤ maxLen from ⟨hc1, hc2⟩);clear hg hc1 hc2 hgy hpr;refine ⟨_, rfl, ?_⟩;go_frame;clear TK;clear PR;replace GC := ι hgc2;replace KT := ι (Rg.Kp.trans (M := fun z => z = w1.heap.size) KT.out hkp (fun _ _ e => e))
    have TK := ι htk;clear hkp hgc2;refine Rg.lr 8 (Rg.xa (.slice (some ⟨g2, 0, none⟩) d cap2) _ rfl rfl) ?_;go_frame;clear htk;have GO2 := ι (GO.out.kt KT.out TK.out);have HFP := ι (show FP (Fup F wr w203) w203 (.slice (some ⟨g2, 0, none⟩) d cap2) y from HPR2.out.fp HGY0.out HC2.out.1 HC2.out.2 hd1 (by omega) (.inr ⟨HG2.out, HPR2.out.1⟩));obtain ⟨a9, c9, X9, r1, r2, r3, r4⟩ := GO2.out.push HFP.out ⟨_, _, _, rfl⟩ (by have := HGL.out; omega) 24;have HGY := ι HGY0.out;clear GO GC TK KT;go_upto_region 14 with (fail);refine wp_region_list ?_;refine Rg.lr 73 (exec_fieldG _ rfl rfl) ?_;go_frame;refine Rg.lr 74 (Rg.exec_load (v := .slice gva gs.length gvc) _ _ rfl ⟨w3.heap.size, 1, none⟩ rfl (Rg.run_loadSl _ _ Try.underlying24 GO2.out.g1)) ?_;go_frame;refine Rg.lr 75 (Rg.xm (.slice (some ⟨g2, 0, none⟩) d cap2) _ rfl rfl) ?_;go_frame;refine Rg.lr 76 (Rg.exec_buildSlice _ _ _ rfl (.slice (some ⟨g2, 0, none⟩) d cap2) rfl (run_build1P w203 _ ⟨_, _, _, rfl⟩)) ?_;go_frame
    refine Rg.lr 77 (Rg.exec_append _ _ _ rfl rfl rfl r1) ?_;go_frame;refine Rg.lr 78 (exec_fieldG _ rfl rfl) ?_;go_frame;refine Rg.list_skip none rfl rfl (Rg.exec_store _ _ _ rfl _ rfl _ rfl (Rg.run_storeSl _ infoPermsV r2 r3)) ?_;go_frame;generalize X9.setCell ⟨w3.heap.size, 1, none⟩ (.slice a9 (gs.length + 1) c9) = w399 at *;have GO3 := ι r4;have HGL2 := ι (show (gs ++ [y]).length + q ≤ 3 by rw [List.length_append]; have := HGL.out; simp; omega)
    have HGS2 := ι (show ∀ s ∈ gs ++ [y], Gd d s from fun s hs => by
     rcases List.mem_append.1 hs with hs | hs
     ·exact HGS.out s hs
     ·rw [List.mem_singleton] at hs; rw [hs]; exact HGY.out)
    clear r1 r2 r3 r4;go_wp2
    go_roundw
    case rel => exact ⟨q, _, _, _, _, by go_num, by omega, HGL2, HGS2, GO3⟩
    case measure => simp [intOf]; try omega
   | false =>
    go_upto_region 9 with (fail);refine wp_region_list ?_;refine Rg.lr 34 (Rg.xm (.pointer (some ⟨w1.heap.size, 0, none⟩)) _ rfl rfl) ?_;go_frame;refine Rg.lr 35 (exec_fieldG0 _ rfl rfl) ?_;go_frame;refine Rg.lr 36 (Rg.exec_load (v := .int .i64 ((d : Nat) : Int)) _ _ rfl ⟨w3.heap.size, 0, none⟩ rfl (run_loadInt GC.out.cell)) ?_;go_frame;refine list_ask (some 37) rfl rfl _ _ (exec_fn 29 _ _ _ rfl rfl rfl (Zkcl1 _ _)) ?_;refine (Take_any TK.out (((d : Nat) : Int)) (by omega)).mono ?_;rintro e1 w203 ⟨fr, k6, rfl, hra, hrb, htk, hkp⟩;have hgc2 := GC.out.kp hkp HNE.out;have hpr2 := RwAt.kp PR.out hkp (fun e => by have := HTW.out; have := HG.out; omega)
    have hfr : fr < d := by have := hra (by omega); omega
    clear hra hrb;refine ⟨_, rfl, ?_⟩;go_frame;clear TK;replace GC := ι hgc2;replace PR := ι hpr2;replace KT := ι (Rg.Kp.trans (M := fun z => z = w1.heap.size) KT.out hkp (fun _ _ e => e));have TK := ι htk;clear hkp hgc2 hpr2;refine Rg.lr 9 (Rg.xa (.int .i64 ((fr : Nat) : Int)) _ rfl rfl) ?_;go_frame;clear htk;go_upto_region 10 with (fail);refine wp_region_list ?_;refine Rg.lr 38 (Rg.xm (.slice (some ⟨g, 0, none⟩) d cap) _ rfl rfl) ?_;go_frame;refine Rg.lr 39 (Rg.xm (.int .i64 ((fr : Nat) : Int)) _ rfl rfl) ?_;go_frame;refine Rg.lr 40 (Rg.xm (.int .i64 ((fr : Nat) : Int)) _ rfl rfl) ?_;go_frame;refine Rg.lr 41 (exec_bin (R := .int .i64 (((fr + 1) : Nat) : Int)) .add _ _ _ rfl rfl rfl (b_add _ (by omega) (by omega))) ?_;go_frame;refine Rg.lr 42 (Rg.xm (.pointer (some ⟨w1.heap.size, 0, none⟩)) _ rfl rfl) ?_;go_frame;refine Rg.lr 43 (exec_fieldG0 _ rfl rfl) ?_;go_frame;refine Rg.lr 44 (Rg.exec_load (v := .int .i64 ((d : Nat) : Int)) _ _ rfl ⟨w3.heap.size, 0, none⟩ rfl (run_loadInt GC.out.cell)) ?_;go_frame
    refine Rg.lr 45 (Rg.xm (.int .i64 ((fr : Nat) : Int)) _ rfl rfl) ?_;go_frame;refine Rg.lr 46 (exec_bin (R := .int .i64 (((d - fr) : Nat) : Int)) .sub _ _ _ rfl rfl rfl (b_sub _ (by omega) (by omega))) ?_;go_frame;refine list_ask (some 47) rfl rfl _ _ (exec_fn 29 _ _ _ rfl rfl rfl (Zkcl1 _ _)) ?_;refine (Take_any TK.out (((d - fr : Nat) : Int)) (by omega)).mono ?_;rintro e1 w204 ⟨r7, k7, rfl, hra, hrb, htk, hkp⟩;have hgc2 := GC.out.kp hkp HNE.out;have hpr2 := RwAt.kp PR.out hkp (fun e => by have := HTW.out; have := HG.out; omega)
    have hr7 : r7 < d - fr := by have := hra (by omega); omega
    clear hra hrb;refine ⟨_, rfl, ?_⟩;go_frame;clear TK;replace GC := ι hgc2;replace PR := ι hpr2;replace KT := ι (Rg.Kp.trans (M := fun z => z = w1.heap.size) KT.out hkp (fun _ _ e => e));have TK := ι htk;clear hkp hgc2 hpr2;refine Rg.lr 48 (exec_bin (R := .int .i64 (((fr + 1 + r7) : Nat) : Int)) .add _ _ _ rfl rfl rfl (b_add _ (by omega) (by omega))) ?_;go_frame;clear htk;refine list_ask (some 49) rfl rfl _ _ (exec_fn3 74 _ _ _ _ rfl rfl rfl rfl (Zlcl3 _ _)) ?_;refine (cycle_any (a := fr) (b := fr + 1 + r7) PR.out (by omega) (by omega) (by omega)).mono ?_;rintro e1 w205 ⟨rfl, hpr, hkp⟩;have hgc2 := GC.out.kp hkp (fun e => by have := GO.out.g0.lt; have := HG.out; omega);have htk2 := TK.out.kp hkp (fun e => by have := HTW.out; have := HG.out; omega) (fun z e => by have := HTL2.out; have := HTW.out; have := HG.out; omega);have HGY0 := ι (show Gd d (cyN d fr (fr + 1 + r7)) from cyN_gd (by omega) (by omega))
    refine ⟨_, rfl, ?_⟩;go_frame;clear PR;replace GC := ι hgc2;replace TK := ι htk2;replace KT := ι (Rg.Kp.trans (M := fun z => z = w1.heap.size) KT.out hkp (fun z hz e => by have := HG.out; omega));have PR := ι hpr;clear hkp hgc2 htk2;refine Rg.lr 8 (Rg.xa (.slice (some ⟨g, 0, none⟩) d cap) _ rfl rfl) ?_;go_frame;clear hpr;go_upto_region 11 with (fail);refine wp_region_list ?_;refine Rg.lr 50 (Rg.xm (.pointer (some ⟨w1.heap.size, 0, none⟩)) _ rfl rfl) ?_;go_frame;refine Rg.lr 51 (exec_fieldG0 _ rfl rfl) ?_;go_frame;refine Rg.lr 52 (Rg.exec_load (v := .int .i64 ((d : Nat) : Int)) _ _ rfl ⟨w3.heap.size, 0, none⟩ rfl (run_loadInt GC.out.cell)) ?_;go_frame;refine list_ask (some 53) rfl rfl _ _ (exec_fn 29 _ _ _ rfl rfl rfl (Zkcl1 _ _)) ?_;refine (Take_any TK.out (((d : Nat) : Int)) (by omega)).mono ?_;rintro e1 w206 ⟨f2, k8, rfl, hra, hrb, htk, hkp⟩;have hgc2 := GC.out.kp hkp HNE.out;have hpr2 := RwAt.kp PR.out hkp (fun e => by have := HTW.out; have := HG.out; omega)
    have hf2 : f2 < d := by have := hra (by omega); omega
    clear hra hrb;refine ⟨_, rfl, ?_⟩;go_frame;clear TK;replace GC := ι hgc2;replace PR := ι hpr2;replace KT := ι (Rg.Kp.trans (M := fun z => z = w1.heap.size) KT.out hkp (fun _ _ e => e));have TK := ι htk;clear hkp hgc2 hpr2;refine Rg.lr 9 (Rg.xa (.int .i64 ((f2 : Nat) : Int)) _ rfl rfl) ?_;go_frame;clear htk;go_upto_region 12 with (fail);refine wp_region_list ?_;refine Rg.lr 54 (Rg.xm (.pointer (some ⟨w1.heap.size, 0, none⟩)) _ rfl rfl) ?_;go_frame;refine list_ask (some 55) rfl rfl _ _ (exec_fn 29 _ _ _ rfl rfl rfl (Zkcl1 _ _)) ?_;refine (Take_any TK.out (2) (by omega)).mono ?_;rintro e1 w207 ⟨r8, k9, rfl, hra, hrb, htk, hkp⟩;have hgc2 := GC.out.kp hkp HNE.out;have hpr2 := RwAt.kp PR.out hkp (fun e => by have := HTW.out; have := HG.out; omega);clear hra hrb;obtain ⟨b4, hb4⟩ : ∃ b, Hid (decide (((r8 : Nat) : Int) = 1) = b) := ⟨_, ι rfl⟩;refine ⟨_, rfl, ?_⟩;go_frame;clear TK;replace GC := ι hgc2
    replace PR := ι hpr2;replace KT := ι (Rg.Kp.trans (M := fun z => z = w1.heap.size) KT.out hkp (fun _ _ e => e));have TK := ι htk;clear hkp hgc2 hpr2;refine Rg.lr 56 (exec_bin (R := .bool b4) .eql _ _ _ rfl rfl rfl (b_eql _ hb4.out)) ?_;go_frame;clear htk
    cases b4 with
    | false =>
     have GO2 := ι (GO.out.kt KT.out TK.out);have HFP := ι (show FP (Fup F wr w207) w207 (.slice (some ⟨g, 0, none⟩) d cap) (cyN d fr (fr + 1 + r7)) from PRow.fp PR.out HGY0.out HCP.out.1 HCP.out.2 hd1 (by omega) (.inr ⟨HG.out, PR.out.1⟩));obtain ⟨a9, c9, X9, r1, r2, r3, r4⟩ := GO2.out.push HFP.out ⟨_, _, _, rfl⟩ (by have := HGL.out; omega) 24;have HGY := ι HGY0.out;clear GO GC TK KT;go_upto_region 14 with (fail);refine wp_region_list ?_;refine Rg.lr 73 (exec_fieldG _ rfl rfl) ?_;go_frame;refine Rg.lr 74 (Rg.exec_load (v := .slice gva gs.length gvc) _ _ rfl ⟨w3.heap.size, 1, none⟩ rfl (Rg.run_loadSl _ _ Try.underlying24 GO2.out.g1)) ?_;go_frame;refine Rg.lr 75 (Rg.xm (.slice (some ⟨g, 0, none⟩) d cap) _ rfl rfl) ?_;go_frame;refine Rg.lr 76 (Rg.exec_buildSlice _ _ _ rfl (.slice (some ⟨g, 0, none⟩) d cap) rfl (run_build1P w207 _ ⟨_, _, _, rfl⟩)) ?_;go_frame;refine Rg.lr 77 (Rg.exec_append _ _ _ rfl rfl rfl r1) ?_;go_frame
     refine Rg.lr 78 (exec_fieldG _ rfl rfl) ?_;go_frame;refine Rg.list_skip none rfl rfl (Rg.exec_store _ _ _ rfl _ rfl _ rfl (Rg.run_storeSl _ infoPermsV r2 r3)) ?_;go_frame;generalize X9.setCell ⟨w3.heap.size, 1, none⟩ (.slice a9 (gs.length + 1) c9) = w399 at *;have GO3 := ι r4;have HGL2 := ι (show (gs ++ [(cyN d fr (fr + 1 + r7))]).length + q ≤ 3 by rw [List.length_append]; have := HGL.out; simp; omega)
     have HGS2 := ι (show ∀ s ∈ gs ++ [(cyN d fr (fr + 1 + r7))], Gd d s from fun s hs => by
      rcases List.mem_append.1 hs with hs | hs
      ·exact HGS.out s hs
      ·rw [List.mem_singleton] at hs; rw [hs]; exact HGY.out)
     clear r1 r2 r3 r4;go_wp2
     go_roundw
     case rel => exact ⟨q, _, _, _, _, by go_num, by omega, HGL2, HGS2, GO3⟩
     case measure => simp [intOf]; try omega
    | true =>
     go_upto_region 13 with (fail);have hV0 : Below w207.heap.size w207 w207.drew := (Below.refl _ _).drew;replace GC := ι (GC.out.up hV0);replace TK := ι (TK.out.up hV0);replace PR := ι (PR.out.up hV0);replace KT := ι (KT.out.up hV0);generalize Fup (fun _ : Nat => True) w207 w207.drew = F1 at *;clear hV0;refine Rg.Any.begin (S := Rg.Both 16 (fun W : World => W.cell? ⟨w3.heap.size, 0, none⟩ = some (.int .i64 ((d : Nat) : Int))) (fun _ => True)) mix ?_;generalize w207.drew = w208 at *;have hS : ∀ (l : Array Bool) W, (fun W : World => W.cell? ⟨w3.heap.size, 0, none⟩ = some (.int .i64 ((d : Nat) : Int))) W → Rg.Both 16 (fun W : World => W.cell? ⟨w3.heap.size, 0, none⟩ = some (.int .i64 ((d : Nat) : Int))) (fun _ => True) l W := fun l W h => ⟨.inr h, trivial⟩;have hS2 : ∀ (l : Array Bool) W, l.getD 16 false = true → Rg.Both 16 (fun W : World => W.cell? ⟨w3.heap.size, 0, none⟩ = some (.int .i64 ((d : Nat) : Int))) (fun _ => True) l W := fun l W h => ⟨.inl h, trivial⟩
     have hI : (fun W : World => W.cell? ⟨w3.heap.size, 0, none⟩ = some (.int .i64 ((d : Nat) : Int))) w208 := GC.out.cell;refine Rg.tg 0 16 (.slice (some ⟨g, 0, none⟩) d cap) 57 rfl rfl (.inl ⟨rfl, fun w _ => Rg.exec_move (v := .slice (some ⟨g, 0, none⟩) d cap) _ rfl rfl⟩) (hS _ _ hI) ?_;go_frame;refine Rg.tg 1 16 (.pointer (some ⟨w3.heap.size, 0, none⟩)) 58 rfl rfl (.inl ⟨rfl, fun w _ => exec_fieldG0 _ rfl rfl⟩) (hS _ _ hI) ?_;go_frame;refine Rg.Any.takeT (i := 2) (t := 16) (v := .int .i64 ((d : Nat) : Int)) (some 59) rfl rfl (by kernel_rfl) (by kernel_rfl) (by kernel_rfl) (fun _ _ _ h => h) rfl (by kernel_rfl) rfl (Rg.yields_cell _ _ rfl rfl ⟨w3.heap.size, 0, none⟩ rfl (fun W hW => run_loadInt hW)) (hS _ _ hI) ?_;go_frame;refine Rg.tg 4 16 (.int .i64 ((f2 : Nat) : Int)) 61 rfl rfl (.inl ⟨rfl, fun w _ => Rg.exec_move (v := .int .i64 ((f2 : Nat) : Int)) _ rfl rfl⟩) (hS _ _ hI) ?_;go_frame
     refine Rg.tg 5 16 (.int .i64 ((f2 : Nat) : Int)) 62 rfl rfl (.inl ⟨rfl, fun w _ => Rg.exec_move (v := .int .i64 ((f2 : Nat) : Int)) _ rfl rfl⟩) (hS _ _ hI) ?_;go_frame;refine Rg.tg 6 16 (.int .i64 (((f2 + 1) : Nat) : Int)) 63 rfl rfl (.inl ⟨rfl, fun w _ => exec_bin (R := .int .i64 (((f2 + 1) : Nat) : Int)) .add _ _ _ rfl rfl rfl (b_add _ (by omega) (by omega))⟩) (hS _ _ hI) ?_;go_frame;refine Rg.tg 7 16 (.pointer (some ⟨w1.heap.size, 0, none⟩)) 64 rfl rfl (.inl ⟨rfl, fun w _ => Rg.exec_move (v := .pointer (some ⟨w1.heap.size, 0, none⟩)) _ rfl rfl⟩) (hS _ _ hI) ?_;go_frame;refine Rg.tg 8 16 (.pointer (some ⟨w3.heap.size, 0, none⟩)) 65 rfl rfl (.inl ⟨rfl, fun w _ => exec_fieldG0 _ rfl rfl⟩) (hS _ _ hI) ?_;go_frame;refine Rg.Any.takeT (i := 9) (t := 16) (v := .int .i64 ((d : Nat) : Int)) (some 66) rfl rfl (by kernel_rfl) (by kernel_rfl) (by kernel_rfl) (fun _ _ _ h => h) rfl (by kernel_rfl) rfl (Rg.yields_cell _ _ rfl rfl ⟨w3.heap.size, 0, none⟩ rfl (fun W hW => run_loadInt hW)) (hS _ _ hI) ?_;go_frame
     refine Rg.tg 10 16 (.int .i64 ((f2 : Nat) : Int)) 67 rfl rfl (.inl ⟨rfl, fun w _ => Rg.exec_move (v := .int .i64 ((f2 : Nat) : Int)) _ rfl rfl⟩) (hS _ _ hI) ?_;go_frame;refine Rg.tg 11 16 (.int .i64 (((d - f2) : Nat) : Int)) 68 rfl rfl (.inl ⟨rfl, fun w _ => exec_bin (R := .int .i64 (((d - f2) : Nat) : Int)) .sub _ _ _ rfl rfl rfl (b_sub _ (by omega) (by omega))⟩) (hS _ _ hI) ?_;go_frame;refine Rg.Any.one (i := 3) (by kernel_rfl) (Rg.Any.ask (some 60) rfl rfl rfl _ _ (exec_fn1 26 _ _ rfl rfl (Zkcl0 _ _)) ?_);refine (kitOne_row d w208 hd1 (by omega)).mono ?_;rintro e1 w209 ⟨g2, cap2, rfl, hg, hc1, hc2, hro, hb⟩;have HG2 := ι (Nat.le_trans KT.out.size hg);have HC2 := ι (show d ≤ cap2 ∧ cap2 ≤ maxLen from ⟨hc1, hc2⟩);have HNG := ι (show g ≠ g2 from fun e => by have := PR.out.1; omega);clear hg hc1 hc2;have hI2_u := ((Below.cell (p := ⟨w3.heap.size, 0, none⟩) hb (lt_of_cell hI)).trans hI)
     clear hI;replace GC := ι (GC.out.up hb);replace TK := ι (TK.out.up hb);replace PR := ι (PR.out.up hb);replace KT := ι (KT.out.up hb);have P2 := ι hro;generalize Fup F1 w208 w209 = F2 at *;clear hb;refine ⟨_, rfl, (hS _ _ hI2_u), ?_⟩;go_frame;refine Rg.Any.one (i := 12) (by kernel_rfl) (Rg.Any.ask (some 69) rfl rfl rfl _ _ (exec_fn 29 _ _ _ rfl rfl rfl (Zkcl1 _ _)) ?_);refine (Take_any TK.out (((d - f2 : Nat) : Int)) (by omega)).mono ?_;rintro e1 w210 ⟨r9, k10, rfl, hra, hrb, htk, hkp⟩;have hgc2 := GC.out.kp hkp HNE.out;have hpr2 := RwAt.kp PR.out hkp (fun e => by have := HTW.out; have := HG.out; omega);have hp22 := RwAt.kp P2.out hkp (fun e => by have := HTW.out; have := HG2.out; omega)
     have hr9 : r9 < d - f2 := by have := hra (by omega); omega
     clear hra hrb;have hI3_k := ((World.cell?_of_block (a := ⟨w3.heap.size, 0, none⟩) (hkp.block w3.heap.size (lt_of_cell hI2_u) HNE.out)).trans hI2_u);clear hI2_u;refine ⟨_, rfl, (hS _ _ hI3_k), ?_⟩;go_frame;clear TK;replace GC := ι hgc2;replace PR := ι hpr2;replace P2 := ι hp22;replace KT := ι (Rg.Kp.trans (M := fun z => z = w1.heap.size) KT.out hkp (fun _ _ e => e));have TK := ι htk;clear hkp hgc2 hpr2 hp22;refine Rg.tg 13 16 (.int .i64 (((f2 + 1 + r9) : Nat) : Int)) 70 rfl rfl (.inl ⟨rfl, fun w _ => exec_bin (R := .int .i64 (((f2 + 1 + r9) : Nat) : Int)) .add _ _ _ rfl rfl rfl (b_add _ (by omega) (by omega))⟩) (hS _ _ hI3_k) ?_;go_frame;refine Rg.Any.one (i := 14) (by kernel_rfl) (Rg.Any.ask (some 71) rfl rfl rfl _ _ (exec_fn3 74 _ _ _ _ rfl rfl rfl rfl (Zlcl3 _ _)) ?_);refine (cycle_any (a := f2) (b := f2 + 1 + r9) P2.out (by omega) (by omega) (by omega)).mono ?_;rintro e1 w211 ⟨rfl, hp2, hkp⟩
     have hgc2 := GC.out.kp hkp (fun e => by have := GO.out.g0.lt; have := HG2.out; omega);have htk2 := TK.out.kp hkp (fun e => by have := HTW.out; have := HG2.out; omega) (fun z e => by have := HTL2.out; have := HTW.out; have := HG2.out; omega);have hpr2 := RwAt.kp PR.out hkp HNG.out;have HGY1 := ι (show Gd d (cyN d f2 (f2 + 1 + r9)) from cyN_gd (by omega) (by omega));have hI4_k := ((World.cell?_of_block (a := ⟨w3.heap.size, 0, none⟩) (hkp.block w3.heap.size (lt_of_cell hI3_k) (fun e => by have := GO.out.g0.lt; have := HG2.out; omega))).trans hI3_k);clear hI3_k;refine ⟨_, rfl, (hS _ _ hI4_k), ?_⟩;go_frame;clear P2;replace GC := ι hgc2;replace PR := ι hpr2;replace TK := ι htk2;replace KT := ι (Rg.Kp.trans (M := fun z => z = w1.heap.size) KT.out hkp (fun z hz e => by have := HG2.out; omega));have P3 := ι hp2;clear hkp hgc2 htk2 hpr2;have HSZM := ι (show wr.heap.size ≤ w211.heap.size from KT.out.size)
     refine Rg.Any.one (i := 15) (by kernel_rfl) (Rg.Any.ask (some 72) rfl rfl rfl _ _ (exec_fn 28 _ _ _ rfl rfl rfl (Zlcl4 _ _)) ?_);refine (kitMul_any _ _ (cyN d fr (fr + 1 + r7)) (cyN d f2 (f2 + 1 + r9)) w211 (PRow.np PR.out HGY0.out HCP.out.1 HCP.out.2 (by omega)) (PRow.np P3.out HGY1.out HC2.out.1 HC2.out.2 (by omega)) (fun z hz => by rw [HGY1.out.2]; exact gd_mem HGY0.out hz) (by rw [HGY0.out.2]; omega)).mono ?_;rintro e1 w212 ⟨mv, rfl, hmv, hb⟩;obtain ⟨mb, mo, mc, rfl⟩ := FP.shape' (FP.new (F := fun _ => True) hmv) (Cm.gd_mul HGY0.out HGY1.out) hd1;have hmf := FP.new (F := F) hmv;clear hmv;have hI5_u := ((Below.cell (p := ⟨w3.heap.size, 0, none⟩) hb (lt_of_cell hI4_k)).trans hI4_k);clear hI4_k;replace GC := ι (GC.out.up hb);replace PR := ι (PR.out.up hb);replace TK := ι (TK.out.up hb);replace P3 := ι (P3.out.up hb);replace KT := ι (KT.out.up hb);have MF := ι hmf;generalize Fup (fun _ : Nat => True) w211 w212 = F3 at *
     clear hb;refine ⟨_, rfl, (hS _ _ hI5_u), ?_⟩;go_frame;refine Rg.Any.one (i := 16) (by kernel_rfl) (Rg.Any.run (some 8) rfl rfl rfl (Rg.xa (.slice (some ⟨mb, mo, none⟩) d mc) _ rfl rfl) (hS2 _ _ rfl) ?_);go_frame;refine Rg.Any.done (by kernel_rfl) ?_ _;clear hS2;clear hS hI5_u;have GO2 := ι (GO.out.kt KT.out TK.out)
     have HFP := ι (show FP (Fup F wr w212) w212 (.slice (some ⟨mb, mo, none⟩) d mc) (Ma.mulN (cyN d fr (fr + 1 + r7)) (cyN d f2 (f2 + 1 + r9))) from MF.out.mono (fun z hz => by rcases hz with hz | hz; exact .inl hz; exact .inr ⟨Nat.le_trans HSZM.out hz.1, hz.2⟩))
     obtain ⟨a9, c9, X9, r1, r2, r3, r4⟩ := GO2.out.push HFP.out ⟨_, _, _, rfl⟩ (by have := HGL.out; omega) 24;have HGY := ι (Cm.gd_mul HGY0.out HGY1.out);clear GO GC TK KT;go_upto_region 14 with (fail);refine wp_region_list ?_;refine Rg.lr 73 (exec_fieldG _ rfl rfl) ?_;go_frame;refine Rg.lr 74 (Rg.exec_load (v := .slice gva gs.length gvc) _ _ rfl ⟨w3.heap.size, 1, none⟩ rfl (Rg.run_loadSl _ _ Try.underlying24 GO2.out.g1)) ?_;go_frame;refine Rg.lr 75 (Rg.xm (.slice (some ⟨mb, mo, none⟩) d mc) _ rfl rfl) ?_;go_frame;refine Rg.lr 76 (Rg.exec_buildSlice _ _ _ rfl (.slice (some ⟨mb, mo, none⟩) d mc) rfl (run_build1P w212 _ ⟨_, _, _, rfl⟩)) ?_;go_frame;refine Rg.lr 77 (Rg.exec_append _ _ _ rfl rfl rfl r1) ?_;go_frame;refine Rg.lr 78 (exec_fieldG _ rfl rfl) ?_;go_frame;refine Rg.list_skip none rfl rfl (Rg.exec_store _ _ _ rfl _ rfl _ rfl (Rg.run_storeSl _ infoPermsV r2 r3)) ?_;go_frame;generalize X9.setCell ⟨w3.heap.size, 1, none⟩ (.slice a9 (gs.length + 1) c9) = w399 at *
     have GO3 := ι r4;have HGL2 := ι (show (gs ++ [(Ma.mulN (cyN d fr (fr + 1 + r7)) (cyN d f2 (f2 + 1 + r9)))]).length + q ≤ 3 by rw [List.length_append]; have := HGL.out; simp; omega)
     have HGS2 := ι (show ∀ s ∈ gs ++ [(Ma.mulN (cyN d fr (fr + 1 + r7)) (cyN d f2 (f2 + 1 + r9)))], Gd d s from fun s hs => by
      rcases List.mem_append.1 hs with hs | hs
      ·exact HGS.out s hs
      ·rw [List.mem_singleton] at hs; rw [hs]; exact HGY.out)
     clear r1 r2 r3 r4;go_wp2
     go_roundw
     case rel => exact ⟨q, _, _, _, _, by go_num, by omega, HGL2, HGS2, GO3⟩
     case measure => simp [intOf]; try omega
end Go.Proofs.Ytcfomoknlchemaa

namespace Go.Proofs.Ytcfomoknlchemaa
open Go.RowKit
open Go.Proofs
attribute [local irreducible] Go.Calls Go.wpStill
def lessL : List Int → List Int → Bool
 | [], [] => false
 | [], _ :: _ => true
 | _ :: _, [] => false
 | x :: a, y :: b => if x = y then lessL a b else decide (x < y)
theorem lessL_irr : ∀ a : List Int, lessL a a = false
 | [] => rfl
 | x :: a => by rw [lessL, if_pos rfl]; exact lessL_irr a
theorem lessL_trans : ∀ {a b c : List Int}, lessL a b = true → lessL b c = true → lessL a c = true
 | [], [], _, h, _ => by simp [lessL] at h
 | [], _ :: _, [], _, h => by simp [lessL] at h
 | [], _ :: _, _ :: _, _, _ => rfl
 | _ :: _, [], _, h, _ => by simp [lessL] at h
 | _ :: _, _ :: _, [], _, h => by simp [lessL] at h
 | x :: a, y :: b, z :: c, h, h' => by
  rw [lessL] at h h' ⊢
  by_cases e1 : x = y
  ·rw [if_pos e1] at h
   by_cases e2 : y = z
   ·rw [if_pos e2] at h'; rw [if_pos (e1.trans e2)]; exact lessL_trans h h'
   ·rw [if_neg e2] at h'; rw [if_neg (by omega)]; simp at h' ⊢; omega
  ·rw [if_neg e1] at h
   by_cases e2 : y = z
   ·rw [if_neg (by omega)]; simp at h ⊢; omega
   ·rw [if_neg e2] at h'; simp at h h'; rw [if_neg (by omega)]; simp; omega
theorem lessL_total : ∀ {a b : List Int}, lessL a b = false → a ≠ b → lessL b a = true
 | [], [], _, h => absurd rfl h
 | [], _ :: _, h, _ => by simp [lessL] at h
 | _ :: _, [], _, _ => rfl
 | x :: a, y :: b, h, hn => by
  rw [lessL] at h ⊢
  by_cases e : x = y
  ·rw [if_pos e] at h; rw [if_pos e.symm]
   exact lessL_total h (fun e2 => hn (by rw [e, e2]))
  ·rw [if_neg e] at h; rw [if_neg (by omega)]; simp at h ⊢; omega
theorem lessL_drop {a b : List Int} {k : Nat} (ha : k < a.length) (hb : k < b.length) : lessL (a.drop k) (b.drop k) = if a[k] = b[k] then lessL (a.drop (k + 1)) (b.drop (k + 1)) else decide (a[k] < b[k]) := by
 rw [List.drop_eq_getElem_cons ha, List.drop_eq_getElem_cons hb, lessL]
theorem lessL_end {a b : List Int} {k : Nat} (h : ¬ (k < a.length ∧ k < b.length)) (hk : k ≤ a.length) (hk2 : k ≤ b.length) : lessL (a.drop k) (b.drop k) = decide (a.length < b.length) := by
 by_cases h1 : k < a.length
 ·have h2 : k = b.length := by omega
  rw [List.drop_eq_getElem_cons h1, List.drop_of_length_le (l := b) (by omega)];simp [lessL]; omega
 ·rw [List.drop_of_length_le (l := a) (by omega)]
  by_cases h2 : k < b.length
  ·rw [List.drop_eq_getElem_cons h2]; simp [lessL]; omega
  ·rw [List.drop_of_length_le (l := b) (by omega)]; simp [lessL]; omega
theorem Less_q (v1 v2 : Value) (l1 l2 : List Int) (w : World) (h1 : Rg.Ints w v1 l1) (h2 : Rg.Ints w v2 l2) :
  Calls Try.prog 125 #[v1, v2] w fun e w' => e = .returned (.bool (lessL l1 l2)) ∧ ∃ k, w' = w.drewN k := by
 obtain ⟨a1, c1, rfl, n1, m1, _, k1⟩ := h1.shape;obtain ⟨a2, c2, rfl, n2, m2, _, k2⟩ := h2.shape;clear h1 h2;have K1 := ι k1;have K2 := ι k2;clear k1 k2
 go_enter Try.func125, Try.ntmps125
 go_wp2
 go_loopw [5] (fun v wr => ∃ i : Nat, v = .int .i64 i ∧ i ≤ l1.length ∧ i ≤ l2.length ∧ Hid (∃ k, wr = w.drewN k) ∧ Hid (lessL (l1.drop i) (l2.drop i) = lessL l1 l2)) (fun v _ => l1.length - (intOf v).toNat)
 case atStart => exact ⟨0, rfl, by omega, by omega, ⟨0, rfl⟩, rfl⟩
 case round =>
  obtain ⟨i, rfl, hi, hi2, hw, hs⟩ := hrel
  by_cases hlt : i < l1.length
  ·by_cases hlt2 : i < l2.length
   ·obtain ⟨b1, o1, rfl, hb1, d1⟩ := K1.out (by omega)
    obtain ⟨b2, o2, rfl, hb2, d2⟩ := K2.out (by omega)
    have x1 : wr.cell? ⟨b1, o1 + i, none⟩ = some (.int .i64 l1[i]) := by obtain ⟨k, e⟩ := hw.out; rw [e]; exact d1 i hlt
    have x2 : wr.cell? ⟨b2, o2 + i, none⟩ = some (.int .i64 l2[i]) := by obtain ⟨k, e⟩ := hw.out; rw [e]; exact d2 i hlt2
    have hd := lessL_drop hlt hlt2;generalize l1[i] = x at *;generalize l2[i] = y at *;have Hd := ι hd;clear d1 d2 hd
    by_cases he : x = y
    ·have hb : (x != y) = false := by rw [he]; simp
     have He := ι he;clear he;go_wp2
     go_quiet (fail)
     go_wp2
     go_roundw
     case rel => exact ⟨i + 1, by go_num, by omega, by omega, by obtain ⟨k, e⟩ := hw.out; rw [e]; exact ⟨_, World.drewN_drewN _ _ _⟩, by have := hs.out; rw [Hd.out, if_pos He.out] at this; exact this⟩
     case measure => simp [intOf]; omega
    ·have hb : (x != y) = true := by rw [bne_iff_ne]; exact he
     have He := ι he;clear he;go_wp2
     go_quiet (fail)
     go_wp2
     go_quiet (fail)
     go_wp2;go_ret;exact ⟨Rg.ret_bool (by rw [← hs.out, Hd.out, if_neg He.out]), by obtain ⟨k, e⟩ := hw.out; rw [e]; exact ⟨_, by rw [World.drewN_drewN, World.drewN_drewN]⟩⟩
   ·go_wp2
    go_ret;exact ⟨Rg.ret_bool (by rw [← hs.out, lessL_end (by omega) (by omega) (by omega)]), hw.out⟩
  ·go_wp2
   go_ret;exact ⟨Rg.ret_bool (by rw [← hs.out, lessL_end (by omega) (by omega) (by omega)]), hw.out⟩
def Asc (L : List (List Int)) : Prop := ∀ i j (hi : i < L.length) (hj : j < L.length), i < j → lessL L[i] L[j] = true
structure Place (L : List (List Int)) (x : List Int) (lo : Nat) : Prop where
 le : lo ≤ L.length
 lt : ∀ i (h : i < L.length), i < lo → lessL L[i] x = true
 ge : ∀ i (h : i < L.length), lo ≤ i → lessL L[i] x = false
theorem Place.mem {L : List (List Int)} {x : List Int} {lo : Nat} (h : Place L x lo) (hs : Asc L) : x ∈ L ↔ ∃ hl : lo < L.length, L[lo] = x := by
 constructor
 ·intro hx
  obtain ⟨j, hj, rfl⟩ := List.getElem_of_mem hx
  have h1 : ¬ j < lo := fun e => by have := h.lt j hj e; rw [lessL_irr] at this; cases this
  have h2 : ¬ lo < j := fun e => by
   have := hs lo j (by omega) hj e;have h3 := h.ge lo (by omega) (Nat.le_refl _);rw [this] at h3; cases h3
  obtain rfl : lo = j := by omega
  exact ⟨hj, rfl⟩
 ·rintro ⟨hl, rfl⟩; exact List.getElem_mem hl
def putIn (L : List (List Int)) (lo : Nat) (x : List Int) : List (List Int) := L.take lo ++ (x :: L.drop lo)
theorem mem_putIn {L : List (List Int)} {lo : Nat} {x y : List Int} : y ∈ putIn L lo x ↔ y ∈ L ∨ y = x := by
 unfold putIn;rw [List.mem_append, List.mem_cons]
 constructor
 ·rintro (h | h | h)
  ·exact .inl (List.mem_of_mem_take h)
  ·exact .inr h
  ·exact .inl (List.mem_of_mem_drop h)
 ·rintro (h | h)
  ·rw [← List.take_append_drop lo L, List.mem_append] at h
   rcases h with h | h
   ·exact .inl h
   ·exact .inr (.inr h)
  ·exact .inr (.inl h)
theorem asc_iff (L : List (List Int)) : Asc L ↔ L.Pairwise (fun a b => lessL a b = true) := by
 rw [List.pairwise_iff_getElem];exact ⟨fun h i j hi hj hij => h i j hi hj hij, fun h i j hi hj hij => h i j hi hj hij⟩
theorem asc_putIn {L : List (List Int)} {lo : Nat} {x : List Int} (h : Place L x lo) (hs : Asc L) (hx : x ∉ L) : Asc (putIn L lo x) := by
 rw [asc_iff] at hs ⊢;unfold putIn;rw [← List.take_append_drop lo L, List.pairwise_append] at hs;obtain ⟨h1, h2, h3⟩ := hs;rw [List.pairwise_append, List.pairwise_cons];refine ⟨h1, ⟨fun b hb => ?_, h2⟩, fun a ha b hb => ?_⟩
 ·obtain ⟨j, hj, rfl⟩ := List.getElem_of_mem hb
  rw [List.getElem_drop];refine lessL_total (h.ge _ (by simp at hj; omega) (by omega)) (fun e => hx ?_);rw [← e]; exact List.getElem_mem _
 ·rcases List.mem_cons.1 hb with rfl | hb
  ·obtain ⟨j, hj, rfl⟩ := List.getElem_of_mem ha
   rw [List.getElem_take];exact h.lt j (by simp at hj; omega) (by simp at hj; omega)
  ·exact h3 a ha b hb
def PlacePost (L : List (List Int)) (x : List Int) (w : World) (e : Ending) (w' : World) : Prop :=
 ∃ lo : Nat, e = .returned (.tuple #[.int .i64 lo, .bool (decide (x ∈ L))]) ∧ Place L x lo ∧ Below w.heap.size w w'
theorem place_any (lv xv : Value) (L : List (List Int)) (x : List Int) (w : World) (h : Rg.Rows w lv L) (hx : Rg.Ints w xv x) (hs : Asc L) (hL : L.length < 1000000) :
  Calls Try.prog 75 #[lv, xv] w (PlacePost L x w) := by
 obtain ⟨aa, acap, rfl, hac, ham, _, har⟩ := h.shape;obtain ⟨xn, xa, xc, hxn, rfl, _⟩ := hx.len;have Har := ι har;have Hx := ι hx;clear har h hx hxn;generalize hD : decide (x ∈ L) = D0;have HD := ι hD;clear hD
 go_enter Try.func75, Try.ntmps75
 go_wp2
 go_loopw [6, 7] (fun vl vh wr => ∃ lo hi : Nat, vl = .int .i64 lo ∧ vh = .int .i64 hi ∧ lo ≤ hi ∧ hi ≤ L.length ∧ Hid (∀ i (h : i < L.length), i < lo → lessL L[i] x = true) ∧ Hid (∀ i (h : i < L.length), hi ≤ i → lessL L[i] x = false) ∧ Hid (∃ k, wr = w.drewN k)) (fun vl vh _ => (intOf vh).toNat - (intOf vl).toNat)
 case atStart => exact ⟨0, L.length, rfl, rfl, by omega, by omega, fun i h h0 => by omega, fun i h h0 => by omega, ⟨0, rfl⟩⟩
 case round =>
  obtain ⟨lo, hi, rfl, rfl, hle, hhi, h1, h2, hw⟩ := hrel
  by_cases hlt : lo < hi
  ·obtain ⟨m, hm⟩ : ∃ m, m = (lo + hi) / 2 := ⟨_, rfl⟩
   have hm1 : lo ≤ m := by omega
   have hm2 : m < hi := by omega
   have hmI : ((lo : Int) + (hi : Int)) / 2 = (m : Int) := by omega
   have hmL : m < L.length := by omega
   obtain ⟨g, o, rfl, hg, hgr⟩ := Har.out (by omega);obtain ⟨u, eu, hu⟩ := hgr m hmL
   have e0 : wr.cell? ⟨g, o + m, none⟩ = some u := by obtain ⟨k, e⟩ := hw.out; rw [e]; exact eu
   have hu1 : Rg.Ints wr u L[m] := by obtain ⟨k, e⟩ := hw.out; rw [e]; exact hu
   have hx1 : Rg.Ints wr (.slice xa xn xc) x := by obtain ⟨k, e⟩ := hw.out; rw [e]; exact Hx.out
   have hq := Less_q _ _ _ _ wr hu1 hx1;clear hm hgr eu hu hu1 hx1
   cases hbq : lessL L[m] x
   ·rw [hbq] at hq
    have Hq := ι hq;have Hbq := ι hbq;clear hq hbq
    go_wp2_with (go_at_call 125; refine Hq.out.mono ?_; rintro e w' ⟨rfl, k, rfl⟩)
    go_roundw
    case rel =>
     refine ⟨lo, m, rfl, rfl, by omega, by omega, h1.out, fun i h hi' => ?_, by obtain ⟨k, e⟩ := hw.out; rw [e]; exact ⟨_, World.drewN_drewN _ _ _⟩⟩
     rcases Nat.lt_or_ge m i with hmi | hmi
     ·cases hh : lessL L[i] x
      ·rfl
      ·have := lessL_trans (hs m i (by omega) h hmi) hh
       rw [Hbq.out] at this; cases this
     ·obtain rfl : i = m := by omega
      exact Hbq.out
    case measure => simp [intOf]; omega
   ·rw [hbq] at hq
    have Hq := ι hq;have Hbq := ι hbq;clear hq hbq
    go_wp2_with (go_at_call 125; refine Hq.out.mono ?_; rintro e w' ⟨rfl, k, rfl⟩)
    go_roundw
    case rel =>
     refine ⟨m + 1, hi, by go_num, rfl, by omega, by omega, fun i h hi' => ?_, h2.out, by obtain ⟨k, e⟩ := hw.out; rw [e]; exact ⟨_, World.drewN_drewN _ _ _⟩⟩
     rcases Nat.lt_or_ge i m with hmi | hmi
     ·exact lessL_trans (hs i m h (by omega) hmi) Hbq.out
     ·obtain rfl : i = m := by omega
      exact Hbq.out
    case measure => simp [intOf]; omega
  ·obtain rfl : lo = hi := by omega
   have hP : Place L x lo := ⟨hhi, h1.out, h2.out⟩;clear h1 h2;have hmem := hP.mem hs;have HP := ι hP;have hbw := ι (show Below w.heap.size w wr by obtain ⟨k, e⟩ := hw.out; rw [e]; exact Rg.drewN (Below.refl _ _) _)
   by_cases hlo : lo < L.length
   ·obtain ⟨g, o, rfl, hg, hgr⟩ := Har.out (by omega)
    obtain ⟨u, eu, hu⟩ := hgr lo hlo
    have e0 : wr.cell? ⟨g, o + lo, none⟩ = some u := by obtain ⟨k, e⟩ := hw.out; rw [e]; exact eu
    have hu1 : Rg.Ints wr u L[lo] := by obtain ⟨k, e⟩ := hw.out; rw [e]; exact hu
    have hx1 : Rg.Ints wr (.slice xa xn xc) x := by obtain ⟨k, e⟩ := hw.out; rw [e]; exact Hx.out
    have hd : decide (L[lo] = x) = D0 := by
     rw [← HD.out];exact decide_eq_decide.2 ⟨fun e => hmem.2 ⟨hlo, e⟩, fun e => (hmem.1 e).2⟩
    have hq := ι (Same_any hu1 hx1 (ι hd) hbw.out);clear hmem hgr eu hu hu1 hx1 hd hP
    go_wp2_with (go_at_call 42; refine hq.out.mono ?_; rintro e w' ⟨rfl, hbs⟩)
    go_ret2
    exact ⟨lo, by rw [HD.out]; rfl, HP.out, hbs⟩
   ·have hd : false = D0 := by
     rw [← HD.out];exact (decide_eq_false (fun e => hlo (hmem.1 e).1)).symm
    subst hd;clear hmem hP;go_wp2
    go_ret2
    exact ⟨lo, by rw [HD.out]; rfl, HP.out, hbw.out⟩
end Go.Proofs.Ytcfomoknlchemaa

namespace Go.Proofs.Ytcfomoknlchemaa
open Go.RowKit
open Go.Proofs
attribute [local irreducible] Go.Calls Go.wpList
def cmpI (x y : Int) : Int := if x < y then -1 else if y < x then 1 else 0
def cmpL : List Int → List Int → Int
 | [], [] => 0
 | [], _ :: _ => -1
 | _ :: _, [] => 1
 | x :: a, y :: b => if cmpI x y = 0 then cmpL a b else cmpI x y
theorem cmpL_lt : ∀ (a b : List Int), decide (cmpL a b < 0) = lessL a b
 | [], [] => rfl
 | [], _ :: _ => rfl
 | _ :: _, [] => rfl
 | x :: a, y :: b => by
  unfold cmpL lessL cmpI
  by_cases h1 : x = y
  ·subst h1
   simp only [Int.lt_irrefl, if_false, if_true];exact cmpL_lt a b
  ·by_cases h2 : x < y
   ·simp [h1, h2]
   ·have h3 : y < x := by omega
    simp [h1, h2, h3]
theorem cmpL_drop {a b : List Int} {k : Nat} (ha : k < a.length) (hb : k < b.length) : cmpL (a.drop k) (b.drop k) = if cmpI a[k] b[k] = 0 then cmpL (a.drop (k + 1)) (b.drop (k + 1)) else cmpI a[k] b[k] := by
 rw [List.drop_eq_getElem_cons ha, List.drop_eq_getElem_cons hb, cmpL]
theorem cmpL_one {a b : List Int} {k : Nat} (ha : k < a.length) (hb : b.length ≤ k) : cmpL (a.drop k) (b.drop k) = 1 := by
 rw [List.drop_eq_getElem_cons ha, List.drop_of_length_le (l := b) hb, cmpL]
theorem cmpL_end {a b : List Int} {k : Nat} (ha : a.length ≤ k) (hb : k ≤ b.length) (hk : k ≤ a.length) : cmpL (a.drop k) (b.drop k) = if a.length < b.length then -1 else 0 := by
 have e : k = a.length := by omega
 subst e;rw [List.drop_of_length_le (l := a) (Nat.le_refl _)]
 by_cases h : a.length < b.length
 ·rw [List.drop_eq_getElem_cons h, if_pos h, cmpL]
 ·rw [List.drop_of_length_le (l := b) (by omega), if_neg h, cmpL]
theorem cmpCmp_any (x y : Int) (w : World) : Calls Try.prog 165 #[.int .i64 x, .int .i64 y] w fun e w' => e = .returned (.int .i64 (cmpI x y)) ∧ w' = w := by
 by_cases h1 : x < y
 ·go_enter Try.func165, Try.ntmps165
  go_wp2;go_ret;exact ⟨by rw [show cmpI x y = -1 by unfold cmpI; rw [if_pos (by omega)]]; rfl, rfl⟩
 ·by_cases h2 : y < x
  ·go_enter Try.func165, Try.ntmps165
   go_wp2;go_ret;exact ⟨by rw [show cmpI x y = 1 by unfold cmpI; rw [if_neg (by omega), if_pos (by omega)]]; rfl, rfl⟩
  ·go_enter Try.func165, Try.ntmps165
   go_wp2;go_ret;exact ⟨by rw [show cmpI x y = 0 by unfold cmpI; rw [if_neg (by omega), if_neg (by omega)]]; rfl, rfl⟩
theorem Compare_any (v1 v2 : Value) (l1 l2 : List Int) (w : World) (h1 : Rg.Ints w v1 l1) (h2 : Rg.Ints w v2 l2) :
  Calls Try.prog 113 #[v1, v2] w fun e w' => e = .returned (.int .i64 (cmpL l1 l2)) ∧ w' = w := by
 obtain ⟨a1, c1, rfl, n1, m1, _, k1⟩ := h1.shape;obtain ⟨a2, c2, rfl, n2, m2, _, k2⟩ := h2.shape;clear h1 h2;have K1 := ι k1;have K2 := ι k2;clear k1 k2
 go_enter Try.func113, Try.ntmps113
 go_wp2
 go_loopw [11] (fun v wr => ∃ i : Nat, v = .int .i64 i ∧ i ≤ l1.length ∧ i ≤ l2.length ∧ Hid (w = wr) ∧ Hid (cmpL (l1.drop i) (l2.drop i) = cmpL l1 l2)) (fun v _ => l1.length - (intOf v).toNat)
 case atStart => exact ⟨0, rfl, by omega, by omega, rfl, rfl⟩
 case round =>
  obtain ⟨i, rfl, hi, hi2, hw, hs⟩ := hrel;have hw2 := hw.out;subst hw2;clear hw
  by_cases hlt : i < l1.length
  ·by_cases hlt2 : i < l2.length
   ·obtain ⟨b1, o1, rfl, hb1, d1⟩ := K1.out (by omega)
    obtain ⟨b2, o2, rfl, hb2, d2⟩ := K2.out (by omega);have x1 := d1 i hlt;have x2 := d2 i hlt2;have hd := cmpL_drop hlt hlt2;generalize l1[i] = x at *;generalize l2[i] = y at *;have Hd := ι hd;have HC := ι (cmpCmp_any x y w);clear d1 d2 hd;obtain ⟨c, hc⟩ : ∃ c, Hid (cmpI x y = c) := ⟨_, ι rfl⟩;rw [hc.out] at HC
    have hge : ¬ (l2.length : Int) ≤ (i : Int) := by omega
    by_cases he : c = 0
    ·subst he
     go_wp2_with (go_at_call 165; refine HC.out.mono ?_; rintro e w' ⟨rfl, rfl⟩)
     go_roundw
     case rel => exact ⟨i + 1, by go_num, by omega, by omega, by first | exact ι rfl | exact ι trivial, ι (by have := hs.out; rw [Hd.out, if_pos hc.out] at this; exact this)⟩
     case measure => simp [intOf]; omega
    ·have HR := ι (show c = cmpL l1 l2 by rw [← hs.out, Hd.out, if_neg (by rw [hc.out]; exact he), hc.out])
     go_wp2_with (go_at_call 165; refine HC.out.mono ?_; rintro e w' ⟨rfl, rfl⟩)
     go_ret;exact ⟨by rw [← HR.out]; rfl, rfl⟩
   ·have hge : (l2.length : Int) ≤ (i : Int) := by omega
    obtain ⟨b1, o1, rfl, hb1, d1⟩ := K1.out (by omega);have x1 := d1 i hlt;generalize l1[i] = x at *;clear d1;go_wp2;go_ret;exact ⟨by rw [← hs.out, cmpL_one hlt (by omega)]; rfl, rfl⟩
  ·have he := cmpL_end (a := l1) (b := l2) (k := i) (by omega) hi2 hi
   have HE := ι (he.symm.trans hs.out);clear he
   by_cases hl : l1.length < l2.length
   ·have hlN : (l1.length : Int) < (l2.length : Int) := by omega
    go_wp2;go_ret;exact ⟨by rw [← HE.out, if_pos (by omega)]; rfl, rfl⟩
   ·have hlN : ¬ (l1.length : Int) < (l2.length : Int) := by omega
    go_wp2;go_ret;exact ⟨by rw [← HE.out, if_neg (by omega)]; rfl, rfl⟩
end Go.Proofs.Ytcfomoknlchemaa

namespace Go.Proofs.Ytcfomoknlchemaa
open Go.RowKit
open Go.Proofs
open Go.Proofs.Ob
open Go.Proofs.Cm (Gd Gr)
attribute [local irreducible] Go.Calls Go.wpList
def lenV : Value → Nat
 | .slice _ n _ => n
 | _ => 0
theorem run_sliceHiP (w : World) (b : Addr) (n c k : Nat) (h : k ≤ c) : (Instr.sliceAt 24 (.slice (some b) n c) none (some (.int .i64 (k : Int))) none).run Try.prog w = .ok (.slice (some b) k c) w := by
 simp [Instr.sliceAt, Instr.slice, run_underlying Try.underlying24, Instr.sliceBounds, Instr.sliceBound, asIntOf, h, Addr.add]
theorem exec_sliceHiP {o : Oper} {a : Act} {w : World} {v r : Value} {k : Nat} (x y : Operand) (ho : o.op = .slice 24 x none (some y) none) (hx : a.eval x = v) (hy : a.eval y = .int .i64 (k : Int)) (hr : (Instr.sliceAt 24 v none (some (.int .i64 (k : Int))) none).run Try.prog w = .ok r w) :
  (execOp a.eval o).run Try.prog w = .ok (.value r) w := by
 unfold execOp;simp only [ho, hx, hy, Sem.run_bind, Sem.run_pure, Option.map]
 first | (rw [hr]; rfl) | (erw [hr]; rfl) | simp [hr]
theorem ofN_back (l : List Nat) : (Ma.ofN l).map Int.toNat = l := by
 unfold Ma.ofN;rw [List.map_map];exact List.map_id'' (fun _ => rfl) l
theorem ofN_inj' {a b : List Nat} (h : Ma.ofN a = Ma.ofN b) : a = b := by rw [← ofN_back a, h, ofN_back]
theorem memP {y : List Nat} {A : List (List Nat)} : Ma.ofN y ∈ A.map Ma.ofN ↔ y ∈ A :=
 ⟨fun h => by obtain ⟨z, hz, e⟩ := List.mem_map.1 h; exact ofN_inj' e ▸ hz, fun h => List.mem_map_of_mem h⟩
def putN (A : List (List Nat)) (k : Nat) (y : List Nat) : List (List Nat) := A.take k ++ (y :: A.drop k)
theorem putN_map (A : List (List Nat)) (k : Nat) (y : List Nat) : (putN A k y).map Ma.ofN = putIn (A.map Ma.ofN) k (Ma.ofN y) := by simp [putN, putIn]
theorem len_putN {A : List (List Nat)} {k : Nat} {y : List Nat} (h : k ≤ A.length) : (putN A k y).length = A.length + 1 := by simp [putN]; omega
theorem mem_putN {A : List (List Nat)} {k : Nat} {x y : List Nat} : x ∈ putN A k y ↔ x ∈ A ∨ x = y := by
 rw [← memP, putN_map, mem_putIn, memP];exact ⟨fun h => h.imp id ofN_inj', fun h => h.imp id (congrArg _)⟩
structure EO (d : Nat) (gs : List (List Nat)) (most : Nat) (A T : List (List Nat)) : Prop where
 asc : Asc (A.map Ma.ofN)
 inG : ∀ y ∈ A, Gr d (· ∈ gs) y
 one : Ma.oneN d ∈ A
 sub : ∀ y ∈ T, y ∈ A
 le : A.length ≤ most
 tl : T.length ≤ A.length
 clo : ∀ z ∈ A, z ∈ T ∨ ∀ g ∈ gs, Ma.mulN z g ∈ A
structure EJ (d : Nat) (gs : List (List Nat)) (most : Nat) (A T : List (List Nat)) (x : List Nat) (i : Nat) : Prop where
 asc : Asc (A.map Ma.ofN)
 inG : ∀ y ∈ A, Gr d (· ∈ gs) y
 one : Ma.oneN d ∈ A
 sub : ∀ y ∈ T, y ∈ A
 le : A.length ≤ most
 tl : T.length ≤ A.length
 xA : x ∈ A
 clo : ∀ z ∈ A, z ∈ T ∨ z = x ∨ ∀ g ∈ gs, Ma.mulN z g ∈ A
 don : ∀ j (h : j < gs.length), j < i → Ma.mulN x gs[j] ∈ A
def AllE (d : Nat) (gs A : List (List Nat)) : Prop := Asc (A.map Ma.ofN) ∧ ∀ y, y ∈ A ↔ Gr d (· ∈ gs) y
def OverE (d : Nat) (gs : List (List Nat)) (most : Nat) : Prop := ∃ L : List (List Nat), L.Nodup ∧ (∀ y ∈ L, Gr d (· ∈ gs) y) ∧ L.length = most + 1
theorem asc_one (l : List (List Int)) (h : l.length ≤ 1) : Asc l := fun i j hi hj hij => by omega
theorem EO.start {d : Nat} {gs : List (List Nat)} {most : Nat} (h : 1 ≤ most) : EO d gs most [Ma.oneN d] [Ma.oneN d] :=
 ⟨asc_one _ (by simp), fun y hy => by rw [List.mem_singleton] at hy; subst hy; exact .one, by simp, fun y hy => hy, by simpa using h, by simp, fun z hz => .inl hz⟩
theorem EO.pop {d : Nat} {gs : List (List Nat)} {most : Nat} {A T : List (List Nat)} {x : List Nat} (h : EO d gs most A (T ++ [x])) : EJ d gs most A T x 0 :=
 ⟨h.asc, h.inG, h.one, fun y hy => h.sub y (List.mem_append_left _ hy), h.le, by have := h.tl; simp at this; omega, h.sub x (by simp), fun z hz => by
  rcases h.clo z hz with e | e
  ·rcases List.mem_append.1 e with e | e
   ·exact .inl e
   ·exact .inr (.inl (by simpa using e))
  ·exact .inr (.inr e), fun j _ hj => by omega⟩
theorem EJ.hit {d : Nat} {gs : List (List Nat)} {most : Nat} {A T : List (List Nat)} {x : List Nat} {i : Nat} (h : EJ d gs most A T x i) (hi : i < gs.length) (hy : Ma.mulN x gs[i] ∈ A) : EJ d gs most A T x (i + 1) :=
 ⟨h.asc, h.inG, h.one, h.sub, h.le, h.tl, h.xA, h.clo, fun j hj hji => by
  rcases Nat.lt_or_ge j i with e | e
  ·exact h.don j hj e
  ·obtain rfl : j = i := by omega
   exact hy⟩
theorem EJ.new {d : Nat} {gs : List (List Nat)} {most : Nat} {A T : List (List Nat)} {x : List Nat} {i k : Nat} (h : EJ d gs most A T x i) (hi : i < gs.length) (hg : ∀ s ∈ gs, Gd d s) (hy : Ma.mulN x gs[i] ∉ A) (hm : A.length < most) (hP : Place (A.map Ma.ofN) (Ma.ofN (Ma.mulN x gs[i])) k) :
  EJ d gs most (putN A k (Ma.mulN x gs[i])) (T ++ [Ma.mulN x gs[i]]) x (i + 1) := by
 have hk : k ≤ A.length := by have := hP.le; simpa using this
 have hG : Gr d (· ∈ gs) (Ma.mulN x gs[i]) := (Gr.isG hg).mul _ _ (h.inG x h.xA) (.gen _ (List.getElem_mem hi));refine ⟨?_, fun y hy => ?_, mem_putN.2 (.inl h.one), fun y hy => ?_, by rw [len_putN hk]; omega, by rw [len_putN hk, List.length_append]; have := h.tl; simp; omega, mem_putN.2 (.inl h.xA), fun z hz => ?_, fun j hj hji => ?_⟩
 ·rw [putN_map]; exact asc_putIn hP h.asc (fun e => hy (memP.1 e))
 ·rcases mem_putN.1 hy with e | rfl
  ·exact h.inG y e
  ·exact hG
 ·rcases List.mem_append.1 hy with e | e
  ·exact mem_putN.2 (.inl (h.sub y e))
  ·exact mem_putN.2 (.inr (by simpa using e))
 ·rcases mem_putN.1 hz with e | rfl
  ·rcases h.clo z e with e | e | e
   ·exact .inl (List.mem_append_left _ e)
   ·exact .inr (.inl e)
   ·exact .inr (.inr fun g hg => mem_putN.2 (.inl (e g hg)))
  ·exact .inl (by simp)
 ·rcases Nat.lt_or_ge j i with e | e
  ·exact mem_putN.2 (.inl (h.don j hj e))
  ·obtain rfl : j = i := by omega
   exact mem_putN.2 (.inr rfl)
theorem EJ.out {d : Nat} {gs : List (List Nat)} {most : Nat} {A T : List (List Nat)} {x : List Nat} {i : Nat} (h : EJ d gs most A T x i) (hi : gs.length ≤ i) : EO d gs most A T :=
 ⟨h.asc, h.inG, h.one, h.sub, h.le, h.tl, fun z hz => by
  rcases h.clo z hz with e | rfl | e
  ·exact .inl e
  ·refine .inr fun g hg => ?_
   obtain ⟨j, hj, rfl⟩ := List.getElem_of_mem hg;exact h.don j hj (by omega)
  ·exact .inr e⟩
theorem EO.done {d : Nat} {gs : List (List Nat)} {most : Nat} {A : List (List Nat)} (h : EO d gs most A []) (hg : ∀ s ∈ gs, Gd d s) : AllE d gs A :=
 ⟨h.asc, fun y => ⟨h.inG y, fun hy => Cm.gr_ind hg (P := fun z => z ∈ A) h.one (fun x s _ hx hs => by
  rcases h.clo x hx with e | e
  ·simp at e
  ·exact e s hs) hy⟩⟩
theorem asc_nodup {A : List (List Nat)} (h : Asc (A.map Ma.ofN)) : A.Nodup := by
 rw [asc_iff] at h;rw [List.pairwise_map] at h
 exact h.imp fun hab e => by subst e; rw [lessL_irr] at hab; cases hab
theorem EJ.over {d : Nat} {gs : List (List Nat)} {most : Nat} {A T : List (List Nat)} {x : List Nat} {i : Nat} (h : EJ d gs most A T x i) (hi : i < gs.length) (hg : ∀ s ∈ gs, Gd d s) (hy : Ma.mulN x gs[i] ∉ A) (hm : ¬ A.length < most) : OverE d gs most :=
 ⟨Ma.mulN x gs[i] :: A, List.nodup_cons.2 ⟨hy, asc_nodup h.asc⟩, fun y hy' => by
  rcases List.mem_cons.1 hy' with rfl | e
  ·exact (Gr.isG hg).mul _ _ (h.inG x h.xA) (.gen _ (List.getElem_mem hi))
  ·exact h.inG y e, by have := h.le; simp; omega⟩
theorem RowH.withM {B : Nat} {F M N : Nat → Prop} {W : World} {v : Value} {l : List (List Nat)} (h : RowH B F M W v l) (hN : ∀ k, v.ownBlock = some k → ¬ N k) : RowH B F N W v l := ⟨h.size, h.own, fun k e => ⟨(h.off k e).1, hN k e⟩⟩
theorem RowH.pop {B : Nat} {F M : Nat → Prop} {W : World} {a : Option Addr} {n c : Nat} {l : List (List Nat)} {x : List Nat} (h : RowH B F M W (.slice a (n + 1) c) (l ++ [x])) (hn : l.length = n) : RowH B F M W (.slice a n c) l := by
 obtain ⟨us, ⟨h1, h2⟩, h3⟩ := h.own
 have hl : us.length = n + 1 := by simp [hn] at h1; exact h1
 have he : Rg.FElts F W (us.take n) (l.map Ma.ofN) := by
  have := h3.take n
  rwa [List.map_append, List.take_append_of_le_length (by rw [List.length_map, hn]; exact Nat.le_refl _), List.take_of_length_le (l := l.map Ma.ofN) (by rw [List.length_map, hn]; exact Nat.le_refl _)] at this
 refine ⟨h.size, ⟨us.take n, ⟨by simp [hn, hl], ?_⟩, he⟩, fun k e => h.off k (by cases a with | none => simp [Value.ownBlock] at e | some b => exact e)⟩
 rcases h2 with ⟨_, h2⟩ | ⟨g, cap, cur, hv, hg, hc, h5, h6, h7, h8⟩
 ·simp at h2
 ·simp only [Value.slice.injEq] at hv
  obtain ⟨rfl, _, rfl⟩ := hv;refine .inr ⟨g, c, cur, by rw [hn], hg, hc, by simp at h5; omega, h6, h7, ?_⟩;have := congrArg (List.take n) h8;rw [List.take_take] at this;rw [← this]
  congr 1
  simp [hn]
theorem RowH.at {B : Nat} {F M : Nat → Prop} {W : World} {v : Value} {l : List (List Nat)} (h : RowH B F M W v l) {i : Nat} (hi : i < l.length) : ∃ b c u, v = .slice (some ⟨b, 0, none⟩) l.length c ∧ l.length ≤ c ∧ b < W.heap.size ∧ W.cell? ⟨b, i, none⟩ = some u ∧ FP F W u l[i] := by
 obtain ⟨us, h1, h2⟩ := h.own;obtain ⟨-, a, c, rfl, h3, h4, h5⟩ := Rg.own_elts h1 h2;rw [List.length_map] at h3;obtain ⟨g, rfl, hg, hx⟩ := h5 (by rw [List.length_map]; omega);obtain ⟨u, hu1, hu2⟩ := hx i (by simpa using hi);exact ⟨g, c, u, congrArg (fun n => Value.slice _ n c) (List.length_map ..), h3, hg, hu1, by rw [List.getElem_map] at hu2; exact hu2⟩
structure Room (B : Nat) (F : Nat → Prop) (W : World) (g n c : Nat) (l : List (List Nat)) (cur : Array Value) (us : List Value) : Prop where
 heap : W.heap[g]? = some (.cells cur 39 (0, 0))
 size : cur.size = c
 le : n + 1 ≤ c
 cm : c ≤ maxLen
 lo : B ≤ g
 ul : us.length = n
 ll : l.length = n
 elts : Rg.FElts F W us (l.map Ma.ofN)
 take : ∃ u, cur.toList.take (n + 1) = us ++ [u]
theorem RowH.room {B : Nat} {F M : Nat → Prop} {W : World} {v : Value} {l : List (List Nat)} {z : List Nat} (h : RowH B F M W v (l ++ [z])) : ∃ g c cur us, v = .slice (some ⟨g, 0, none⟩) (l.length + 1) c ∧ Room B F W g l.length c l cur us := by
 obtain ⟨us, ⟨h1, h2⟩, h3⟩ := h.own
 have hl : us.length = l.length + 1 := by simpa using h1
 have he : Rg.FElts F W (us.take l.length) (l.map Ma.ofN) := by
  have := h3.take l.length
  rwa [List.map_append, List.take_append_of_le_length (Nat.le_of_eq (List.length_map ..).symm), List.take_of_length_le (l := l.map Ma.ofN) (Nat.le_of_eq (List.length_map ..))] at this
 rcases h2 with ⟨_, h2⟩ | ⟨g, cap, cur, hv, hg, hc, h5, h6, h7, h8⟩
 ·simp at h2
 ·refine ⟨g, cap, cur, us.take l.length, by rw [hv]; simp, ⟨hc, by omega, by simpa using h5, h6, hg, by simp [hl], rfl, he, us[l.length], ?_⟩⟩
  rw [List.length_append, List.length_singleton, Nat.mul_one] at h8;rw [h8, List.take_append_getElem (by omega), List.take_of_length_le (by omega)]
theorem Room.cell {B : Nat} {F : Nat → Prop} {W : World} {g n c : Nat} {l : List (List Nat)} {cur : Array Value} {us : List Value} (h : Room B F W g n c l cur us) {k : Nat} : ∀ j v, (us.drop k)[j]? = some v → W.cell? ((⟨g, k, none⟩ : Addr).add j) = some v := fun j v hv => by
 obtain ⟨u, h6⟩ := h.take;have hj := (List.getElem?_eq_some_iff.1 hv).1;have h7 := congrArg (fun l => l[k + j]?) h6;have hul := h.ul;simp at hj;rw [List.getElem?_take_of_lt (by omega), List.getElem?_append_left (by omega)] at h7;rw [List.getElem?_drop] at hv
 have h8 : W.cell? ⟨g, k + j, none⟩ = some v := by
  rw [cell_of_row W _ _ _ _ _ h.heap, ← Array.getElem?_toList, h7, hv]
 rw [Addr.add_mid]; exact h8
theorem Room.put {B : Nat} {F M : Nat → Prop} {W W3 : World} {g n c k : Nat} {l : List (List Nat)} {cur : Array Value} {us : List Value} (h : Room B F W g n c l cur us) (hB : B ≤ W.heap.size) (hoff : ¬ F g ∧ ¬ M g) (hk : k ≤ n) (hk3 : Rg.Kp (fun z => z = g) W W3) (h3 : W3.heap[g]? = some (.cells (splice cur.toList (k + 1) (us.drop k)).toArray 39 (0, 0))) {xv : Value} {y : List Nat} (hy : FP F W xv y) :
  RowH B F M (W3.setCell ⟨g, k, none⟩ xv) (.slice (some ⟨g, 0, none⟩) (n + 1) c) (putN l k y) ∧ Rg.Kp (fun z => z = g) W (W3.setCell ⟨g, k, none⟩ xv) := by
 have hkp : Rg.Kp (fun z => z = g) W (W3.setCell ⟨g, k, none⟩ xv) := hk3.trans (M' := fun z => z = g) (Rg.Kp.of_setCell rfl) (fun _ _ e => e);have hFg : ∀ z, F z → ¬ z = g := fun z hz e => hoff.1 (e ▸ hz);obtain ⟨u, h6⟩ := h.take
 have hlenc : n + 1 ≤ cur.toList.length := by rw [Array.length_toList, h.size]; exact h.le
 have hspl := Rg.splice_set (x := xv) h6 h.ul hk hlenc
 have hl : (putN l k y).length = n + 1 := by rw [len_putN (by rw [h.ll]; exact hk), h.ll]
 have hul := h.ul;refine ⟨⟨Nat.le_trans hB hkp.size, ⟨us.take k ++ (xv :: us.drop k), ⟨by rw [hl]; simp [hul]; omega, .inr ⟨g, c, _, by rw [hl], h.lo, heap_setCell_same W3 g k _ _ xv h3, by rw [hl]; exact h.le, h.cm, ?_, ?_⟩⟩, ?_⟩, fun z e => ?_⟩, hkp⟩
 ·rw [Array.size_setIfInBounds, List.size_toArray, length_splice cur.toList (k + 1) (us.drop k) (by rw [List.length_drop, hul, Array.length_toList, h.size]; have := h.le; omega), Array.length_toList, h.size, Nat.mul_one]
 ·rw [hl, Nat.mul_one, ← hspl]
  simp
 ·have e1 : (putN l k y).map Ma.ofN = (l.map Ma.ofN).take k ++ ([Ma.ofN y] ++ (l.map Ma.ofN).drop k) := by simp [putN]
  rw [e1];exact ((h.elts.kp hkp hFg).take k).app ((Rg.FElts.one (Rg.FI.kp hy hkp hFg)).app ((h.elts.kp hkp hFg).drop k))
 ·simp only [Value.ownBlock, Option.some.injEq] at e
  subst e;exact hoff
structure ElI (w W : World) (F : Nat → Prop) (av tv : Value) (A T : List (List Nat)) : Prop where
 bel : Below w.heap.size w W
 ra : RowH w.heap.size F (fun _ => False) W av A
 rt : RowH w.heap.size F (fun _ => False) W tv T
 dis : ∀ k, av.ownBlock = some k → tv.ownBlock ≠ some k
 Flt : ∀ z, F z → z < W.heap.size
theorem RowH.up0 {B : Nat} {F : Nat → Prop} {W W' : World} {v : Value} {l : List (List Nat)} (h : RowH B F (fun _ => False) W v l) (hb : Below W.heap.size W W') : RowH B (Fup F W W') (fun _ => False) W' v l :=
 h.upk (N := fun _ => False) (Rg.Kp.of_below hb) (fun _ _ => id) (fun _ => id)
theorem ElI.up {w W W' : World} {F : Nat → Prop} {av tv : Value} {A T : List (List Nat)} (h : ElI w W F av tv A T) (hb : Below W.heap.size W W') : ElI w W' (Fup F W W') av tv A T :=
 ⟨Rg.acc h.bel hb, h.ra.up0 hb, h.rt.up0 hb, h.dis, fun z hz => by
  rcases hz with hz | hz
  ·exact Nat.lt_of_lt_of_le (h.Flt z hz) hb.size
  ·exact hz.2⟩
theorem ElI.pop {w W : World} {F : Nat → Prop} {av : Value} {a : Option Addr} {n c : Nat} {A T : List (List Nat)} {x : List Nat} (h : ElI w W F av (.slice a (n + 1) c) A (T ++ [x])) (hn : T.length = n) : ElI w W F av (.slice a n c) A T :=
 ⟨h.bel, h.ra, h.rt.pop hn, fun k e e2 => h.dis k e (by cases a with | none => simp [Value.ownBlock] at e2 | some b => exact e2), h.Flt⟩
theorem ElI.kpA {w W X : World} {F : Nat → Prop} {av av' tv : Value} {A A' T : List (List Nat)} (h : ElI w W F av tv A T) (hk : Rg.Kp (fun k => av.ownBlock = some k) W X) (hr : RowH w.heap.size F (fun k => tv.ownBlock = some k) X av' A') : ElI w X F av' tv A' T :=
 ⟨Rg.Kp.below h.bel hk (fun k e => (h.ra.lt k e).1), hr.withM (fun _ _ => id), h.rt.kp hk (fun z hz e => (h.ra.off z e).1 hz) (fun k e1 e2 => h.dis k e2 e1), fun k e => (hr.off k e).2, fun z hz => Nat.lt_of_lt_of_le (h.Flt z hz) hk.size⟩
theorem ElI.kpT {w W X : World} {F : Nat → Prop} {av tv tv' : Value} {A T T' : List (List Nat)} (h : ElI w W F av tv A T) (hk : Rg.Kp (fun k => tv.ownBlock = some k) W X) (hr : RowH w.heap.size F (fun k => av.ownBlock = some k) X tv' T') : ElI w X F av tv' A T' :=
 ⟨Rg.Kp.below h.bel hk (fun k e => (h.rt.lt k e).1), h.ra.kp hk (fun z hz e => (h.rt.off z e).1 hz) (fun k e1 e2 => h.dis k e1 e2), hr.withM (fun _ _ => id), fun k e1 e2 => (hr.off k e2).2 e1, fun z hz => Nat.lt_of_lt_of_le (h.Flt z hz) hk.size⟩
theorem FP.nil0 (F : Nat → Prop) (w : World) : FP F w (.slice none 0 0) [] := ⟨none, 0, rfl, Nat.le_refl _, Nat.zero_le _, Nat.zero_le _, fun h => absurd h (Nat.lt_irrefl 0)⟩
theorem ElI.growA {w W : World} {F : Nat → Prop} {av tv : Value} {A T : List (List Nat)} (h : ElI w W F av tv A T) (hn : A.length < 1000000) (ty : TypeId) :
  ∃ a c X, (Builtin.append_ #[24, 24] ty #[av, .slice (some ⟨W.heap.size, 0, none⟩) 1 1]).run Try.prog (W.alloc (.cells #[.slice none 0 0] 39)) = .ok (.slice a (A.length + 1) c) X ∧ ElI w X F (.slice a (A.length + 1) c) tv (A ++ [[]]) T ∧ Rg.Kp (fun k => av.ownBlock = some k) W X := by
 obtain ⟨a, c, X, r1, r2, r3⟩ := (h.ra.withM (N := fun k => tv.ownBlock = some k) (fun k e1 e2 => h.dis k e1 e2)).push (FP.nil0 F W) ⟨none, 0, 0, rfl⟩ h.Flt (fun k e => (h.rt.lt k e).2) hn ty;exact ⟨a, c, X, r1, h.kpA r3 r2, r3⟩
theorem ElI.growT {w W : World} {F : Nat → Prop} {av tv : Value} {A T : List (List Nat)} (h : ElI w W F av tv A T) {u : Value} {y : List Nat} (hu : FP F W u y) (hs : ∃ a m c, u = .slice a m c) (hn : T.length < 1000000) (ty : TypeId) :
  ∃ a c X, (Builtin.append_ #[24, 24] ty #[tv, .slice (some ⟨W.heap.size, 0, none⟩) 1 1]).run Try.prog (W.alloc (.cells #[u] 39)) = .ok (.slice a (T.length + 1) c) X ∧ ElI w X F av (.slice a (T.length + 1) c) A (T ++ [y]) ∧ Rg.Kp (fun k => tv.ownBlock = some k) W X := by
 obtain ⟨a, c, X, r1, r2, r3⟩ := (h.rt.withM (N := fun k => av.ownBlock = some k) (fun k e1 e2 => h.dis k e2 e1)).push hu hs h.Flt (fun k e => (h.ra.lt k e).2) hn ty;exact ⟨a, c, X, r1, h.kpT r3 r2, r3⟩
theorem ElI.fpA {w W X : World} {F : Nat → Prop} {av tv u : Value} {A T : List (List Nat)} {y : List Nat} (h : ElI w W F av tv A T) (hk : Rg.Kp (fun k => av.ownBlock = some k) W X) (hy : FP F W u y) : FP F X u y := Rg.FI.kp hy hk (fun z hz e => (h.ra.off z e).1 hz)
theorem ElI.fpT {w W X : World} {F : Nat → Prop} {av tv u : Value} {A T : List (List Nat)} {y : List Nat} (h : ElI w W F av tv A T) (hk : Rg.Kp (fun k => tv.ownBlock = some k) W X) (hy : FP F W u y) : FP F X u y := Rg.FI.kp hy hk (fun z hz e => (h.rt.off z e).1 hz)
theorem ElI.put {w W W3 : World} {F : Nat → Prop} {g n c k : Nat} {tv u : Value} {A T : List (List Nat)} {y : List Nat} {cur : Array Value} {us : List Value} (h : ElI w W F (.slice (some ⟨g, 0, none⟩) (n + 1) c) tv (A ++ [[]]) T) (hr : Room w.heap.size F W g n c A cur us) (hk : k ≤ n) (hk3 : Rg.Kp (fun z => z = g) W W3) (h3 : W3.heap[g]? = some (.cells (splice cur.toList (k + 1) (us.drop k)).toArray 39 (0, 0))) (hy : FP F W u y) :
  ElI w (W3.setCell ⟨g, k, none⟩ u) F (.slice (some ⟨g, 0, none⟩) (n + 1) c) tv (putN A k y) T ∧ Rg.Kp (fun z => (Value.slice (some ⟨g, 0, none⟩) (n + 1) c).ownBlock = some z) W (W3.setCell ⟨g, k, none⟩ u) := by
 obtain ⟨q1, q2⟩ := hr.put (M := fun z => tv.ownBlock = some z) h.ra.size ⟨(h.ra.off g rfl).1, h.dis g rfl⟩ hk hk3 h3 hy;have q3 : Rg.Kp (fun z => (Value.slice (some ⟨g, 0, none⟩) (n + 1) c).ownBlock = some z) W (W3.setCell ⟨g, k, none⟩ u) := q2.weak (fun z e => by subst e; rfl);exact ⟨h.kpA q3 q1, q3⟩
def ElPost (d : Nat) (gs : List (List Nat)) (most : Nat) (w : World) (e : Ending) (w' : World) : Prop :=
 ∃ v, e = .returned v ∧ Below w.heap.size w w' ∧ ((∃ A, Rg.Rows w' v (A.map Ma.ofN) ∧ AllE d gs A ∧ A.length ≤ most) ∨ (v = .slice none 0 0 ∧ OverE d gs most))

theorem Edcl2 (args : Array Value) (w : World) : (callFunc 75 args).run Try.prog w = .ok (.enter 75 args) w := by kernel_rfl
theorem exec_sliceLoP {o : Oper} {a : Act} {w : World} {v r : Value} {k : Nat} (x y : Operand) (ho : o.op = .slice 24 x (some y) none none) (hx : a.eval x = v) (hy : a.eval y = .int .i64 (k : Int)) (hr : (Instr.sliceAt 24 v (some (.int .i64 (k : Int))) none none).run Try.prog w = .ok r w) :
  (execOp a.eval o).run Try.prog w = .ok (.value r) w := by
 unfold execOp;simp only [ho, hx, hy, Sem.run_bind, Sem.run_pure, Option.map]
 first | (rw [hr]; rfl) | (erw [hr]; rfl) | simp [hr]
def cutA (g k c : Nat) : Addr := if c = k then ⟨g, 0, none⟩ else ⟨g, k, none⟩
theorem cutA_in {g k c : Nat} (h : k < c) : cutA g k c = ⟨g, k, none⟩ := by unfold cutA; rw [if_neg (by omega)]
theorem run_sliceLoP (w : World) (g n c k : Nat) (h : k ≤ n) (hc : n ≤ c) : (Instr.sliceAt 24 (.slice (some ⟨g, 0, none⟩) n c) (some (.int .i64 (k : Int))) none none).run Try.prog w = .ok (.slice (some (cutA g k c)) (n - k) (c - k)) w := by
 unfold cutA
 by_cases e : c = k
 ·simp [Instr.sliceAt, Instr.slice, run_underlying Try.underlying24, Instr.sliceBounds, Instr.sliceBound, asIntOf, h, hc, Addr.add, e]
  try omega
 ·by_cases e2 : k = 0
  ·subst e2
   simp [Instr.sliceAt, Instr.slice, run_underlying Try.underlying24, Instr.sliceBounds, Instr.sliceBound, asIntOf, h, hc, Addr.add, e]
  ·simp [Instr.sliceAt, Instr.slice, run_underlying Try.underlying24, Instr.sliceBounds, Instr.sliceBound, asIntOf, h, hc, Addr.add, e, e2]
theorem exec_copy {o : Oper} {a : Act} {w w' : World} {v vd vs : Value} (d s : Operand) (dT sT : TypeId) (ho : o.op = .call { callee := .builtin .copy, args := #[d, s], argTypes := #[dT, sT] }) (hd : a.eval d = vd) (hs : a.eval s = vs)
  (hr : (Builtin.copy_ #[dT, sT] o.type #[vd, vs]).run Try.prog w = .ok v w') : (execOp a.eval o).run Try.prog w = .ok (.value v) w' := by
 unfold execOp;simp only [ho, resolve, invoke, builtin, Sem.run_bind, Sem.run_pure, Result.andThen_ok, List.map_toArray, List.map_cons, List.map_nil, hd, hs, hr]
theorem permSz : (Try.prog.info? 39).map (·.size) = some 1 := by kernel_rfl
theorem Room.copy {B : Nat} {F : Nat → Prop} {W : World} {g n c k : Nat} {l : List (List Nat)} {cur : Array Value} {us : List Value} (h : Room B F W g n c l cur us) (hk : k ≤ n) (ty : TypeId) :
  ∃ v W3, (Builtin.copy_ #[24, 24] ty #[.slice (some (cutA g (k + 1) c)) (n + 1 - (k + 1)) (c - (k + 1)), .slice (some (cutA g k c)) (n + 1 - k) (c - k)]).run Try.prog W = .ok v W3 ∧
   W3.heap[g]? = some (.cells (splice cur.toList (k + 1) (us.drop k)).toArray 39 (0, 0)) ∧ Rg.Kp (fun z => z = g) W W3 := by
 have hul := h.ul;have hc := h.le
 have hlen : (us.drop k).length = n - k := by rw [List.length_drop, hul]
 rcases Nat.lt_or_ge k n with hlt | hge
 ·have hrun := run_copy_row (P := Try.prog) W 24 24 ty 39 g (k + 1) (n + 1 - (k + 1)) (c - (k + 1)) ⟨g, k, none⟩ (n + 1 - k) (c - k) cur 39 (us.drop k) Try.underlying24 permSz h.heap (by rw [hlen]; show _ = min _ _; omega) h.cell (by rw [hlen, h.size]; omega) (fun u hu => h.elts.oneCell u (List.mem_of_mem_drop hu))
  refine ⟨_, W.setRow g (cur.toList.take (k + 1) ++ us.drop k ++ cur.toList.drop (k + 1 + (us.drop k).length)).toArray, by rw [cutA_in (by omega), cutA_in (by omega)]; exact hrun, ?_, ⟨rfl, rfl, rfl, by simp [World.setRow], fun j _ hj => setRow_other W g j _ hj⟩⟩
  simpa [splice] using setRow_heap W g _ _ 39 _ h.heap
 ·have hrun := run_copy_none (P := Try.prog) W 24 24 ty 39 (some (cutA g (k + 1) c)) (some (cutA g k c)) (n + 1 - (k + 1)) (c - (k + 1)) (n + 1 - k) (c - k) Try.underlying24 permSz (by show min _ _ = _; omega)
  refine ⟨_, _, hrun, ?_, Rg.Kp.refl _ _⟩;have e : us.drop k = [] := List.drop_eq_nil_of_le (by omega);rw [h.heap, e];simp [splice]
theorem RowH.one {B : Nat} {F M : Nat → Prop} {W : World} {u : Value} {x : List Nat} (hB : B ≤ W.heap.size) (hu : FP F W u x) (hs : ∃ a m c, u = .slice a m c) (hF : ∀ k, F k → k < W.heap.size) (hM : ∀ k, M k → k < W.heap.size) :
  RowH B F M (W.alloc (.cells #[u] 39)) (.slice (some ⟨W.heap.size, 0, none⟩) 1 1) [x] := by
 have hb : Below W.heap.size W (W.alloc (.cells #[u] 39)) := (Below.refl _ _).alloc (Nat.le_refl _) _;refine ⟨Nat.le_trans hB hb.size, ⟨[u], ⟨rfl, .inr ⟨W.heap.size, 1, #[u], rfl, hB, by show (W.heap.push _)[W.heap.size]? = _; simp, Nat.le_refl _, by decide, rfl, rfl⟩⟩, ?_⟩, fun k e => ?_⟩
 ·exact Rg.FElts.one (Rg.FI.kp hu (Rg.Kp.of_below hb) (fun _ _ => id))
 ·simp only [Value.ownBlock, Option.some.injEq] at e
  subst e;exact ⟨fun h => Nat.lt_irrefl _ (hF _ h), fun h => Nat.lt_irrefl _ (hM _ h)⟩
theorem ElI.init (w : World) : ElI w w (fun _ => False) (.slice none 0 0) (.slice none 0 0) [] [] :=
 ⟨Below.refl _ _, RowH.nil _ _ _ _ (Nat.le_refl _), RowH.nil _ _ _ _ (Nat.le_refl _), fun k e => by simp [Value.ownBlock] at e, fun _ h => h.elim⟩
theorem ElI.newA {w W : World} {F : Nat → Prop} {u : Value} {y : List Nat} (h : ElI w W F (.slice none 0 0) (.slice none 0 0) [] []) (hu : FP F W u y) (hs : ∃ a m c, u = .slice a m c) :
  ElI w (W.alloc (.cells #[u] 39)) F (.slice (some ⟨W.heap.size, 0, none⟩) 1 1) (.slice none 0 0) [y] [] :=
 ⟨h.bel.alloc h.bel.size _, RowH.one h.bel.size hu hs h.Flt (fun _ e => e.elim), RowH.nil _ _ _ _ (Nat.le_trans h.bel.size (by simp)), fun k _ e => by simp [Value.ownBlock] at e, fun z hz => Nat.lt_of_lt_of_le (h.Flt z hz) (by simp)⟩
theorem ElI.newT {w W : World} {F : Nat → Prop} {av u : Value} {A : List (List Nat)} {y : List Nat} (h : ElI w W F av (.slice none 0 0) A []) (hu : FP F W u y) (hs : ∃ a m c, u = .slice a m c) :
  ElI w (W.alloc (.cells #[u] 39)) F av (.slice (some ⟨W.heap.size, 0, none⟩) 1 1) A [y] := by
 have hb : Below W.heap.size W (W.alloc (.cells #[u] 39)) := (Below.refl _ _).alloc (Nat.le_refl _) _;refine ⟨h.bel.alloc h.bel.size _, h.ra.kp (N := fun _ => False) (Rg.Kp.of_below hb) (fun _ _ => id) (fun _ _ => id), RowH.one h.bel.size hu hs h.Flt (fun _ e => e.elim), fun k e e2 => ?_, fun z hz => Nat.lt_of_lt_of_le (h.Flt z hz) hb.size⟩;simp only [Value.ownBlock, Option.some.injEq] at e2;subst e2;exact Nat.lt_irrefl _ (h.ra.lt _ e).2
theorem last_or (T : List (List Nat)) : T = [] ∨ ∃ T' x, T = T' ++ [x] := by
 rcases T.eq_nil_or_concat with h | ⟨l, b, h⟩
 ·exact .inl h
 ·exact .inr ⟨l, b, by simpa using h⟩
theorem Elements_any (d : Nat) (gv : Value) (gs : List (List Nat)) (most : Nat) (w : World) (hd1 : 1 ≤ d) (hd : d ≤ 64) (hgr : Rg.Rows w gv (gs.map Ma.ofN)) (hG : ∀ s ∈ gs, Gd d s) (hgl : gs.length ≤ 1000) (hm : 1 ≤ most) (hm2 : most ≤ 100000) :
  Calls Try.prog 16 #[.int .i64 d, gv, .int .i64 most] w (ElPost d gs most w) := by
 obtain ⟨ga, gc, hsh, -, -, -, har⟩ := hgr.shape;rw [List.length_map] at hsh;subst hsh;have HGR := ι hgr;have HG := ι hG;have EL := ι (ElI.init w);clear hgr hG har;obtain ⟨F, hF⟩ : ∃ F : Nat → Prop, (fun _ => False) = F := ⟨_, rfl⟩;rw [hF] at EL;clear hF
 go_enter Try.func16, Try.ntmps16
 go_upto_region 0 with (fail);refine wp_region_list ?_;refine Rg.lr 6 (Rg.xa (.slice none 0 0) _ rfl rfl) ?_;go_frame;go_upto_region 1 with (fail);refine wp_region_list ?_;refine Rg.lr 14 (Rg.xm (.int .i64 ((d : Nat) : Int)) _ rfl rfl) ?_;go_frame;refine list_ask (some 15) rfl rfl _ _ (exec_fn1 26 _ _ rfl rfl (Zkcl0 _ _)) ?_;refine (kitOne_any d w (by omega)).mono ?_;rintro e1 w1 ⟨ov, rfl, hov, hb⟩;obtain ⟨o1, p1, q1, rfl⟩ := FP.shape' (FP.new (F := fun _ => True) hov) (Cm.gd_one d) hd1;have hov2 := FP.new (F := F) hov;refine ⟨_, rfl, ?_⟩;go_frame;replace EL := ι (EL.out.up hb);have OV := ι hov2;generalize Fup F w w1 = F1 at *;clear hb;have hel := EL.out.newA OV.out ⟨_, _, _, rfl⟩;refine Rg.lr 16 (Rg.exec_buildSlice _ _ _ rfl (.slice (some ⟨o1, p1, none⟩) d q1) rfl (run_build1P w1 _ ⟨_, _, _, rfl⟩)) ?_;go_frame;generalize w1.alloc (.cells #[.slice (some ⟨o1, p1, none⟩) d q1] 39) = w2 at *
 refine Rg.lr 7 (Rg.xa (.slice (some ⟨w1.heap.size, 0, none⟩) 1 1) _ rfl rfl) ?_;go_frame;replace EL := ι hel;clear OV hov hov2 hel;go_upto_region 2 with (fail);refine wp_region_list ?_;refine Rg.lr 17 (Rg.xm (.int .i64 ((d : Nat) : Int)) _ rfl rfl) ?_;go_frame;refine list_ask (some 18) rfl rfl _ _ (exec_fn1 26 _ _ rfl rfl (Zkcl0 _ _)) ?_;refine (kitOne_any d w2 (by omega)).mono ?_;rintro e1 w3 ⟨ov, rfl, hov, hb⟩;obtain ⟨o2, p2, q2, rfl⟩ := FP.shape' (FP.new (F := fun _ => True) hov) (Cm.gd_one d) hd1;have hov2 := FP.new (F := F1) hov;refine ⟨_, rfl, ?_⟩;go_frame;replace EL := ι (EL.out.up hb);have OV := ι hov2;generalize Fup F1 w2 w3 = F2 at *;clear hb;have hel := EL.out.newT OV.out ⟨_, _, _, rfl⟩;refine Rg.lr 19 (Rg.exec_buildSlice _ _ _ rfl (.slice (some ⟨o2, p2, none⟩) d q2) rfl (run_build1P w3 _ ⟨_, _, _, rfl⟩)) ?_;go_frame;generalize w3.alloc (.cells #[.slice (some ⟨o2, p2, none⟩) d q2] 39) = w4 at *
 refine Rg.lr 8 (Rg.xa (.slice (some ⟨w3.heap.size, 0, none⟩) 1 1) _ rfl rfl) ?_;go_frame;replace EL := ι hel;clear OV hov hov2 hel;have EO0 := ι (EO.start (d := d) (gs := gs) hm);go_wp2
 go_loopw [7, 8] (fun av tv wr => ∃ (F : Nat → Prop) (A T : List (List Nat)), Hid (ElI w wr F av tv A T) ∧ Hid (EO d gs most A T)) (fun av tv _ => 2 * (most - lenV av) + lenV tv)
 case atStart => exact ⟨_, _, _, EL, EO0⟩
 case round =>
  clear EL EO0;obtain ⟨F, A, T, EL, EO0⟩ := hrel;obtain ⟨aa, ac, hsh⟩ := EL.out.ra.shape;subst hsh;have HAL := ι EO0.out.le
  rcases last_or T with rfl | ⟨T, x, rfl⟩
  ·obtain ⟨ta, tc, hsh⟩ := EL.out.rt.shape
   subst hsh;go_upto_region 3 with (fail);refine wp_region_list ?_;refine Rg.lr 20 (Rg.xm (.slice ta ([] : List (List Nat)).length tc) _ rfl rfl) ?_;go_frame;refine Rg.lr 21 (exec_len _ _ _ rfl Try.underlying24 _ _ _ rfl) ?_;go_frame;refine Rg.lr 22 (exec_bin (R := .bool false) .gtr _ _ _ rfl rfl rfl (b_gtr _ (decide_eq_false (by decide)))) ?_;go_frame;go_upto_region 18 with (fail);refine wp_region_list ?_;refine Rg.lr 76 (Rg.xm (.slice aa A.length ac) _ rfl rfl) ?_;go_frame;refine Rg.lr 6 (Rg.xa (.slice aa A.length ac) _ rfl rfl) ?_;go_frame;go_wp2;go_ret;exact ⟨_, rfl, EL.out.bel, .inl ⟨A, EL.out.ra.rows (by have := HAL.out; omega), EO0.out.done HG.out, HAL.out⟩⟩
  ·obtain ⟨ta, tc, hsh⟩ := EL.out.rt.shape
   rw [List.length_append, List.length_singleton] at hsh;subst hsh;obtain ⟨tb, tc2, xv, e1, e2, e3, e4, e5⟩ := EL.out.rt.at (i := T.length) (by simp);simp only [List.length_append, List.length_singleton, Value.slice.injEq, true_and] at e1;obtain ⟨rfl, rfl⟩ := e1;rw [show (T ++ [x])[T.length]'(by simp) = x by simp] at e5;have CT := ι e4;have XV := ι e5;have HTC := ι (show T.length ≤ tc by rw [List.length_append, List.length_singleton] at e2; omega);have HTL := ι (show T.length < 1000000 by have := EO0.out.tl; have := HAL.out; simp at *; omega);clear e2 e3 e4 e5;go_upto_region 3 with (fail);refine wp_region_list ?_;refine Rg.lr 20 (Rg.xm (.slice (some ⟨tb, 0, none⟩) (T.length + 1) tc) _ rfl rfl) ?_;go_frame;refine Rg.lr 21 (exec_len _ _ _ rfl Try.underlying24 _ _ _ rfl) ?_;go_frame;refine Rg.lr 22 (exec_bin (R := .bool true) .gtr _ _ _ rfl rfl rfl (b_gtr _ (decide_eq_true (by omega)))) ?_;go_frame
   have htl : T.length < 1000000 := HTL.out;go_upto_region 4 with (fail);refine wp_region_list ?_;refine Rg.lr 23 (Rg.xm (.slice (some ⟨tb, 0, none⟩) (T.length + 1) tc) _ rfl rfl) ?_;go_frame;refine Rg.lr 24 (Rg.xm (.slice (some ⟨tb, 0, none⟩) (T.length + 1) tc) _ rfl rfl) ?_;go_frame;refine Rg.lr 25 (exec_len _ _ _ rfl Try.underlying24 _ _ _ rfl) ?_;go_frame;refine Rg.lr 26 (exec_bin (R := .int .i64 ((T.length : Nat) : Int)) .sub _ _ _ rfl rfl rfl (b_sub _ (by omega) (by omega))) ?_;go_frame;refine Rg.lr 27 (exec_indexS slPerms _ _ rfl tb (0) ((T.length + 1)) tc (T.length) rfl rfl (by omega)) ?_;go_frame;refine Rg.lr 28 (Rg.exec_load (v := xv) _ _ rfl ⟨tb, 0 + T.length, none⟩ rfl (Rg.run_loadSl _ _ Try.underlying39 ((congrArg (fun k => wr.cell? ⟨tb, k, none⟩) (Nat.zero_add T.length)).trans CT.out))) ?_;go_frame;refine Rg.lr 9 (Rg.xa (xv) _ rfl rfl) ?_;go_frame;go_upto_region 5 with (fail)
   refine wp_region_list ?_;refine Rg.lr 29 (Rg.xm (.slice (some ⟨tb, 0, none⟩) (T.length + 1) tc) _ rfl rfl) ?_;go_frame;refine Rg.lr 30 (Rg.xm (.slice (some ⟨tb, 0, none⟩) (T.length + 1) tc) _ rfl rfl) ?_;go_frame;refine Rg.lr 31 (exec_len _ _ _ rfl Try.underlying24 _ _ _ rfl) ?_;go_frame;refine Rg.lr 32 (exec_bin (R := .int .i64 ((T.length : Nat) : Int)) .sub _ _ _ rfl rfl rfl (b_sub _ (by omega) (by omega))) ?_;go_frame;refine Rg.lr 33 (exec_sliceHiP _ _ rfl rfl rfl (run_sliceHiP _ _ _ _ _ HTC.out)) ?_;go_frame;refine Rg.lr 8 (Rg.xa (.slice (some ⟨tb, 0, none⟩) T.length tc) _ rfl rfl) ?_;go_frame;go_upto_region 6 with (fail);refine wp_region_list ?_;refine Rg.lr 10 (Rg.xa (.int .i64 ((0 : Nat) : Int)) _ rfl rfl) ?_;go_frame;have EL1 := ι (EL.out.pop rfl);have EJ0 := ι EO0.out.pop;obtain ⟨M0, hM0⟩ : ∃ M, Hid (2 * (most - A.length) + (T.length + 1) = M) := ⟨_, ι rfl⟩;have HM := ι (show 2 * (most - A.length) + T.length + 1 ≤ M0 by have := hM0.out; omega)
   clear EL CT htl;go_wp2
   go_loopw [7, 8, 10] (fun av tv iv wr => ∃ (i : Nat) (F : Nat → Prop) (A T : List (List Nat)), iv = .int .i64 i ∧ i ≤ gs.length ∧ Hid (ElI w wr F av tv A T) ∧ Hid (EJ d gs most A T x i) ∧ Hid (FP F wr xv x) ∧ Hid (2 * (most - A.length) + T.length + 1 ≤ M0)) (fun _ _ iv _ => gs.length - (intOf iv).toNat)
   case atStart => exact ⟨0, _, _, _, rfl, Nat.zero_le _, EL1, EJ0, XV, HM⟩
   case round =>
    clear EL1 EJ0 XV HM HAL EO0 HTC HTL;obtain ⟨i, F, A2, T2, rfl, hi, EL, EJ0, XV, HM⟩ := hrel;obtain ⟨a2, c2, hsh⟩ := EL.out.ra.shape;subst hsh;obtain ⟨t2, tc2, hsh⟩ := EL.out.rt.shape;subst hsh;have HAL := ι EJ0.out.le
    by_cases hin : i < gs.length
    case neg =>
     go_upto_region 7 with (fail);refine wp_region_list ?_;refine Rg.lr 34 (Rg.xm (.int .i64 ((i : Nat) : Int)) _ rfl rfl) ?_;go_frame;refine Rg.lr 35 (Rg.xm (.slice ga gs.length gc) _ rfl rfl) ?_;go_frame;refine Rg.lr 36 (exec_len _ _ _ rfl Try.underlying24 _ _ _ rfl) ?_;go_frame;refine Rg.lr 37 (exec_bin (R := .bool false) .lss _ _ _ rfl rfl rfl (b_lss _ (decide_eq_false (by omega)))) ?_;go_frame;go_wp2
     go_roundw
     case rel => exact ⟨_, _, _, EL, ι (EJ0.out.out (by omega))⟩
     case measure =>
      have h1 := HM.out;have h2 := hM0.out;simp only [lenV];omega
    case pos =>
     obtain ⟨gb, go, rfl, hgb, hge⟩ : ∃ gb go, ga = some ⟨gb, go, none⟩ ∧ gb < w.heap.size ∧ ∀ j (h : j < gs.length), ∃ u, w.cell? ⟨gb, go + j, none⟩ = some u ∧ Rg.NP w u gs[j] := by
      obtain ⟨ga', gc', hsh, -, -, -, har⟩ := HGR.out.shape;rw [List.length_map] at hsh;simp only [Value.slice.injEq, true_and] at hsh;obtain ⟨rfl, rfl⟩ := hsh;obtain ⟨b, o, e, hb, hx⟩ := har (by rw [List.length_map]; omega);refine ⟨b, o, e, hb, fun j hj => ?_⟩;obtain ⟨u, h1, h2⟩ := hx j (by rw [List.length_map]; exact hj);exact ⟨u, h1, by rw [List.getElem_map] at h2; exact h2⟩
     obtain ⟨gu, hgc, hgu⟩ := hge i hin;have CG := ι ((Below.cell (p := ⟨gb, go + i, none⟩) EL.out.bel hgb).trans hgc);obtain ⟨gi, HGI⟩ : ∃ z, Hid (gs[i]'hin = z) := ⟨_, ι rfl⟩;have GU := ι (show Rg.NP wr gu gi by rw [← HGI.out]; exact Rg.NP.below hgu EL.out.bel);have GDI := ι (show Gd d gi by rw [← HGI.out]; exact HG.out _ (List.getElem_mem hin));have GDX := ι ((Gr.isG HG.out).gd _ (EJ0.out.inG x EJ0.out.xA));obtain ⟨y, hy⟩ : ∃ y, Hid (Ma.mulN x gi = y) := ⟨_, ι rfl⟩;have HIN := ι hin;clear hgb hge hgc hgu;go_upto_region 7 with (fail);refine wp_region_list ?_;refine Rg.lr 34 (Rg.xm (.int .i64 ((i : Nat) : Int)) _ rfl rfl) ?_;go_frame;refine Rg.lr 35 (Rg.xm (.slice (some ⟨gb, go, none⟩) gs.length gc) _ rfl rfl) ?_;go_frame;refine Rg.lr 36 (exec_len _ _ _ rfl Try.underlying24 _ _ _ rfl) ?_;go_frame;refine Rg.lr 37 (exec_bin (R := .bool true) .lss _ _ _ rfl rfl rfl (b_lss _ (decide_eq_true (by omega)))) ?_;go_frame
     go_upto_region 9 with (fail);refine wp_region_list ?_;refine Rg.lr 40 (Rg.xm (xv) _ rfl rfl) ?_;go_frame;refine Rg.lr 41 (Rg.xm (.slice (some ⟨gb, go, none⟩) gs.length gc) _ rfl rfl) ?_;go_frame;refine Rg.lr 42 (Rg.xm (.int .i64 ((i : Nat) : Int)) _ rfl rfl) ?_;go_frame;refine Rg.lr 43 (exec_indexS slPerms _ _ rfl gb (go) (gs.length) gc (i) rfl rfl hin) ?_;go_frame;refine Rg.lr 44 (Rg.exec_load (v := gu) _ _ rfl ⟨gb, go + i, none⟩ rfl (Rg.run_loadSl _ _ Try.underlying39 CG.out)) ?_;go_frame;refine list_ask (some 45) rfl rfl _ _ (exec_fn 28 _ _ _ rfl rfl rfl (Zlcl4 _ _)) ?_;refine (kitMul_any _ _ x gi wr XV.out.np GU.out (fun z hz => by rw [GDI.out.2]; exact gd_mem GDX.out hz) (by rw [GDX.out.2]; omega)).mono ?_;rintro e1 w301 ⟨mv, rfl, hmv, hb⟩;rw [hy.out] at hmv;have GDY := ι (show Gd d y by rw [← hy.out]; exact Cm.gd_mul GDX.out GDI.out);obtain ⟨yb, yo, yc, rfl⟩ := FP.shape' (FP.new (F := fun _ => True) hmv) GDY.out hd1
     have hmv2 := FP.new (F := F) hmv;refine ⟨_, rfl, ?_⟩;go_frame;replace EL := ι (EL.out.up hb);replace XV := ι (XV.out.up hb);have YV := ι hmv2;generalize Fup F wr w301 = F3 at *;clear hb;refine Rg.lr 11 (Rg.xa (.slice (some ⟨yb, yo, none⟩) d yc) _ rfl rfl) ?_;go_frame;clear hmv hmv2 GU CG;obtain ⟨bm, hbm⟩ : ∃ b, Hid (decide (Ma.ofN y ∈ A2.map Ma.ofN) = b) := ⟨_, ι rfl⟩;go_upto_region 10 with (fail);refine wp_region_list ?_;refine Rg.lr 47 (Rg.xm (.slice a2 A2.length c2) _ rfl rfl) ?_;go_frame;refine Rg.lr 48 (Rg.xm (.slice (some ⟨yb, yo, none⟩) d yc) _ rfl rfl) ?_;go_frame;refine list_ask (some 49) rfl rfl _ _ (exec_fn 75 _ _ _ rfl rfl rfl (Edcl2 _ _)) ?_;refine (place_any _ _ (A2.map Ma.ofN) (Ma.ofN y) w301 (EL.out.ra.rows (by have := HAL.out; omega)) YV.out.np EJ0.out.asc (by rw [List.length_map]; have := HAL.out; omega)).mono ?_;rintro e1 w302 ⟨k, rfl, hP, hb⟩;rw [hbm.out];have HP := ι hP
     have HKL := ι (show k ≤ A2.length by have := hP.le; rwa [List.length_map] at this);clear hP
     have hkb : k ≤ 100000 := by have := HKL.out; have := HAL.out; omega
     refine ⟨_, rfl, ?_⟩;go_frame;replace EL := ι (EL.out.up hb);replace XV := ι (XV.out.up hb);replace YV := ι (YV.out.up hb);generalize Fup F3 w301 w302 = F4 at *;clear hb;refine Rg.lr 46 (Rg.xm (.tuple #[.int .i64 ((k : Nat) : Int), .bool bm]) _ rfl rfl) ?_;go_frame;refine Rg.lr 50 (exec_extract (v := .int .i64 ((k : Nat) : Int)) _ _ rfl rfl rfl) ?_;go_frame;refine Rg.lr 51 (exec_extract (v := .bool bm) _ _ rfl rfl rfl) ?_;go_frame;refine Rg.lr 12 (Rg.xa (.int .i64 ((k : Nat) : Int)) _ rfl rfl) ?_;go_frame;refine Rg.lr 13 (Rg.xa (.bool bm) _ rfl rfl) ?_;go_frame
     cases bm with
     | true =>
      go_upto_region 11 with (fail);refine wp_region_list ?_;refine Rg.lr 52 (Rg.xm (.bool true) _ rfl rfl) ?_;go_frame;go_upto_region 8 with (fail);refine wp_region_list ?_;refine Rg.lr 38 (Rg.xm (.int .i64 ((i : Nat) : Int)) _ rfl rfl) ?_;go_frame;refine Rg.lr 39 (exec_bin (R := .int .i64 (((i + 1) : Nat) : Int)) .add _ _ _ rfl rfl rfl (b_add _ (by omega) (by omega))) ?_;go_frame;refine Rg.lr 10 (Rg.xa (.int .i64 (((i + 1) : Nat) : Int)) _ rfl rfl) ?_;go_frame;have HYA := ι (show Ma.mulN x (gs[i]'HIN.out) ∈ A2 by rw [HGI.out, hy.out]; exact memP.1 (of_decide_eq_true hbm.out));go_wp2
      go_roundw
      case rel => exact ⟨i + 1, _, _, _, by go_num, by omega, EL, ι (EJ0.out.hit HIN.out HYA.out), XV, HM⟩
      case measure => simp [intOf]; omega
     | false =>
      have HYA := ι (show Ma.mulN x (gs[i]'HIN.out) ∉ A2 by rw [HGI.out, hy.out]; exact fun e => of_decide_eq_false hbm.out (memP.2 e));go_upto_region 11 with (fail);refine wp_region_list ?_;refine Rg.lr 52 (Rg.xm (.bool false) _ rfl rfl) ?_;go_frame
      by_cases hful : A2.length < most
      case neg =>
       go_upto_region 12 with (fail);refine wp_region_list ?_;refine Rg.lr 53 (Rg.xm (.slice a2 A2.length c2) _ rfl rfl) ?_;go_frame;refine Rg.lr 54 (exec_len _ _ _ rfl Try.underlying24 _ _ _ rfl) ?_;go_frame;refine Rg.lr 55 (Rg.xm (.int .i64 ((most : Nat) : Int)) _ rfl rfl) ?_;go_frame;refine Rg.lr 56 (exec_bin (R := .bool true) .geq _ _ _ rfl rfl rfl (b_geq _ (decide_eq_true (by omega)))) ?_;go_frame;go_upto_region 13 with (fail);refine wp_region_list ?_;refine Rg.lr 6 (Rg.xa (.slice none 0 0) _ rfl rfl) ?_;go_frame;go_wp2;go_ret;exact ⟨_, rfl, EL.out.bel, .inr ⟨rfl, EJ0.out.over HIN.out HG.out HYA.out hful⟩⟩
      case pos =>
       go_upto_region 12 with (fail);refine wp_region_list ?_;refine Rg.lr 53 (Rg.xm (.slice a2 A2.length c2) _ rfl rfl) ?_;go_frame;refine Rg.lr 54 (exec_len _ _ _ rfl Try.underlying24 _ _ _ rfl) ?_;go_frame;refine Rg.lr 55 (Rg.xm (.int .i64 ((most : Nat) : Int)) _ rfl rfl) ?_;go_frame;refine Rg.lr 56 (exec_bin (R := .bool false) .geq _ _ _ rfl rfl rfl (b_geq _ (decide_eq_false (by omega)))) ?_;go_frame;obtain ⟨a9, c9, X9, r1, hel, hkp⟩ := EL.out.growA (by have := HAL.out; omega) 24;go_upto_region 14 with (fail);refine wp_region_list ?_;refine Rg.lr 57 (Rg.xm (.slice a2 A2.length c2) _ rfl rfl) ?_;go_frame;refine Rg.lr 58 (Rg.exec_buildSlice _ _ _ rfl (.slice none 0 0) rfl (run_build1P w302 _ ⟨_, _, _, rfl⟩)) ?_;go_frame;refine Rg.lr 59 (Rg.exec_append _ _ _ rfl rfl rfl r1) ?_;go_frame;refine Rg.lr 7 (Rg.xa (.slice a9 (A2.length + 1) c9) _ rfl rfl) ?_;go_frame;have hxv := EL.out.fpA hkp XV.out
       have hyv := EL.out.fpA hkp YV.out;replace EL := ι hel;replace XV := ι hxv;replace YV := ι hyv;clear hxv hyv hel r1 hkp;obtain ⟨g, c, -, -, e1, -⟩ := EL.out.ra.room;simp only [Value.slice.injEq, true_and] at e1;obtain ⟨rfl, rfl⟩ := e1;go_upto_region 15 with (fail);have hV0 : Below X9.heap.size X9 X9.drew := (Below.refl _ _).drew;replace EL := ι (EL.out.up hV0);replace XV := ι (XV.out.up hV0);replace YV := ι (YV.out.up hV0);generalize Fup F4 X9 X9.drew = F5 at *;clear hV0;refine Rg.Any.begin (S := Rg.Both 7 (fun _ => True) (fun _ : World => True)) mix ?_;generalize X9.drew = w303 at *;have hS : ∀ (l : Array Bool) W, (fun _ : World => True) W → Rg.Both 7 (fun _ => True) (fun _ : World => True) l W := fun l W h => ⟨.inr trivial, h⟩;have hI : (fun _ : World => True) w303 := trivial;obtain ⟨g', c', cur, us, e1, hroom⟩ := EL.out.ra.room;simp only [Value.slice.injEq, Option.some.injEq, Addr.mk.injEq, true_and, and_true] at e1
       obtain ⟨rfl, rfl⟩ := e1;have HRM := ι hroom;obtain ⟨v7, W7, r7, h3, hk3⟩ := hroom.copy (k := k) HKL.out 3;have H3 := ι h3;have HK3 := ι hk3;have HC9 := ι hroom.le;clear hroom h3 hk3;refine Rg.tg 0 7 (.slice (some ⟨g, 0, none⟩) (A2.length + 1) c9) 60 rfl rfl (.inl ⟨rfl, fun w _ => Rg.exec_move (v := .slice (some ⟨g, 0, none⟩) (A2.length + 1) c9) _ rfl rfl⟩) (hS _ _ hI) ?_;go_frame;refine Rg.tg 1 7 (.int .i64 ((k : Nat) : Int)) 61 rfl rfl (.inl ⟨rfl, fun w _ => Rg.exec_move (v := .int .i64 ((k : Nat) : Int)) _ rfl rfl⟩) (hS _ _ hI) ?_;go_frame;refine Rg.tg 2 7 (.int .i64 (((k + 1) : Nat) : Int)) 62 rfl rfl (.inl ⟨rfl, fun w _ => exec_bin (R := .int .i64 (((k + 1) : Nat) : Int)) .add _ _ _ rfl rfl rfl (b_add _ (by omega) (by omega))⟩) (hS _ _ hI) ?_;go_frame;refine Rg.Any.takeG (i := 3) (t := 7) (v := (.slice (some (cutA g (k + 1) c9)) (A2.length + 1 - (k + 1)) (c9 - (k + 1)))) (some 63) rfl rfl (by kernel_rfl) (by kernel_rfl) (by kernel_rfl) (fun _ _ _ h => h) rfl (.inl ⟨rfl, fun w _ => exec_sliceLoP _ _ rfl rfl rfl (run_sliceLoP _ _ _ _ _ (Nat.succ_le_succ HKL.out) HC9.out)⟩) (hS _ _ hI) ?_;go_frame
       refine Rg.tg 4 7 (.slice (some ⟨g, 0, none⟩) (A2.length + 1) c9) 64 rfl rfl (.inl ⟨rfl, fun w _ => Rg.exec_move (v := .slice (some ⟨g, 0, none⟩) (A2.length + 1) c9) _ rfl rfl⟩) (hS _ _ hI) ?_;go_frame;refine Rg.tg 5 7 (.int .i64 ((k : Nat) : Int)) 65 rfl rfl (.inl ⟨rfl, fun w _ => Rg.exec_move (v := .int .i64 ((k : Nat) : Int)) _ rfl rfl⟩) (hS _ _ hI) ?_;go_frame;refine Rg.tg 6 7 ((.slice (some (cutA g k c9)) (A2.length + 1 - k) (c9 - k))) 66 rfl rfl (.inl ⟨rfl, fun w _ => exec_sliceLoP _ _ rfl rfl rfl (run_sliceLoP _ _ _ _ _ (Nat.le_succ_of_le HKL.out) HC9.out)⟩) (hS _ _ hI) ?_;go_frame;refine Rg.Any.one (i := 7) (by kernel_rfl) (Rg.Any.run (some 67) rfl rfl rfl (exec_copy _ _ _ _ rfl rfl rfl r7) (hS _ _ hI) ?_);go_frame;refine Rg.Any.done (by kernel_rfl) ?_ _;clear hS hI;have hput := EL.out.put HRM.out HKL.out HK3.out H3.out YV.out
       have hcx : ∃ z, W7.cell? ⟨g, 0 + k, none⟩ = some z := by
        have hsl : k < (splice cur.toList (k + 1) (us.drop k)).length := by
         have hls : cur.toList.length = c9 := (Array.length_toList (xs := cur)).trans HRM.out.size;rw [length_splice _ _ _ (by rw [List.length_drop, HRM.out.ul, hls]; have := HC9.out; have := HKL.out; omega), hls]; have := HC9.out; have := HKL.out; omega
        refine ⟨(splice cur.toList (k + 1) (us.drop k))[k], ?_⟩;rw [Nat.zero_add, cell_of_row _ _ _ _ _ _ H3.out]; simp [hsl]
       obtain ⟨z0, hz0⟩ := hcx;have hf0 : W7.frozen? ⟨g, 0 + k, none⟩ = false := frozen_of_row _ _ _ _ _ H3.out;go_upto_region 16 with (fail);refine wp_region_list ?_;refine Rg.lr 68 (Rg.xm (.slice (some ⟨g, 0, none⟩) (A2.length + 1) c9) _ rfl rfl) ?_;go_frame;refine Rg.lr 69 (Rg.xm (.int .i64 ((k : Nat) : Int)) _ rfl rfl) ?_;go_frame;refine Rg.lr 70 (Rg.xm (.slice (some ⟨yb, yo, none⟩) d yc) _ rfl rfl) ?_;go_frame;refine Rg.lr 71 (exec_indexS slPerms _ _ rfl g (0) ((A2.length + 1)) c9 (k) rfl rfl (Nat.lt_succ_of_le HKL.out)) ?_;go_frame;refine Rg.list_skip none rfl rfl (Rg.exec_store _ _ _ rfl _ rfl _ rfl (Rg.run_storeSl _ infoPerm hz0 hf0)) ?_;go_frame;rw [← Nat.zero_add k] at hput
       obtain ⟨hel, hkp⟩ : ElI w (W7.setCell ⟨g, 0 + k, none⟩ (.slice (some ⟨yb, yo, none⟩) d yc)) _ _ _ (putN A2 k y) T2 ∧ Rg.Kp (fun z => z = g) _ (W7.setCell ⟨g, 0 + k, none⟩ (.slice (some ⟨yb, yo, none⟩) d yc)) := by
        simp only [Nat.zero_add] at hput ⊢;exact ⟨hput.1, hput.2.weak (fun z e => by simpa [Value.ownBlock, eq_comm] using e)⟩
       have hxv := EL.out.fpA (hkp.weak (fun z e => by subst e; rfl)) XV.out;have hyv := EL.out.fpA (hkp.weak (fun z e => by subst e; rfl)) YV.out;generalize W7.setCell ⟨g, 0 + k, none⟩ (.slice (some ⟨yb, yo, none⟩) d yc) = W8 at *;replace EL := ι hel;replace XV := ι hxv;replace YV := ι hyv;clear hput hel hxv hyv hkp hz0 hf0 HRM H3 HK3 r7;have HTL2 := ι (show T2.length < 1000000 by have := EJ0.out.tl; have := HAL.out; omega);obtain ⟨a8, c8, X8, r1, hel, hkp⟩ := EL.out.growT YV.out ⟨_, _, _, rfl⟩ HTL2.out 24;go_upto_region 17 with (fail);refine wp_region_list ?_;refine Rg.lr 72 (Rg.xm (.slice t2 T2.length tc2) _ rfl rfl) ?_;go_frame;refine Rg.lr 73 (Rg.xm (.slice (some ⟨yb, yo, none⟩) d yc) _ rfl rfl) ?_;go_frame;refine Rg.lr 74 (Rg.exec_buildSlice _ _ _ rfl (.slice (some ⟨yb, yo, none⟩) d yc) rfl (run_build1P W8 _ ⟨_, _, _, rfl⟩)) ?_;go_frame;refine Rg.lr 75 (Rg.exec_append _ _ _ rfl rfl rfl r1) ?_;go_frame
       refine Rg.lr 8 (Rg.xa (.slice a8 (T2.length + 1) c8) _ rfl rfl) ?_;go_frame;have hxv := EL.out.fpT hkp XV.out;replace EL := ι hel;replace XV := ι hxv;clear hxv hel r1 hkp YV;go_upto_region 8 with (fail);refine wp_region_list ?_;refine Rg.lr 38 (Rg.xm (.int .i64 ((i : Nat) : Int)) _ rfl rfl) ?_;go_frame;refine Rg.lr 39 (exec_bin (R := .int .i64 (((i + 1) : Nat) : Int)) .add _ _ _ rfl rfl rfl (b_add _ (by omega) (by omega))) ?_;go_frame;refine Rg.lr 10 (Rg.xa (.int .i64 (((i + 1) : Nat) : Int)) _ rfl rfl) ?_;go_frame;have hej := EJ0.out.new HIN.out HG.out HYA.out hful (by rw [HGI.out, hy.out]; exact HP.out);rw [HGI.out, hy.out] at hej;have HEJ := ι hej;have HM2 := ι (show 2 * (most - (putN A2 k y).length) + (T2 ++ [y]).length + 1 ≤ M0 by rw [len_putN HKL.out, List.length_append, List.length_singleton]; have := HM.out; omega);clear hej;go_wp2
       go_roundw
       case rel => exact ⟨i + 1, _, _, _, by go_num, by omega, EL, HEJ, XV, HM2⟩
       case measure => simp [intOf]; omega
end Go.Proofs.Ytcfomoknlchemaa

namespace Go.Proofs.Ytcfomoknlchemaa
open Go.Proofs
open Go.Proofs.Cm (Gr Gd IsChain IsG St Fx ap Lst)
def mulAll (r A : List (List Nat)) : List (List Nat) := r.flatMap fun u => A.map (Ma.mulN u)
theorem len_mulAll (r A : List (List Nat)) : (mulAll r A).length = r.length * A.length := by
 unfold mulAll
 induction r with
 | nil => simp
 | cons u r ih => rw [List.flatMap_cons, List.length_append, ih, List.length_map, List.length_cons, Nat.succ_mul, Nat.add_comm]
theorem mem_mulAll {r A : List (List Nat)} {x : List Nat} : x ∈ mulAll r A ↔ ∃ u ∈ r, ∃ z ∈ A, Ma.mulN u z = x := by
 unfold mulAll;simp only [List.mem_flatMap, List.mem_map]
def prodK (n : Nat) (R : List (List (List Nat))) : Nat → List (List Nat)
 | 0 => [Ma.oneN n]
 | i + 1 => mulAll (R.getD i []) (prodK n R i)
structure PK (n : Nat) (H : List Nat → Prop) (i : Nat) (L : List (List Nat)) : Prop where
 inH : ∀ z ∈ L, H z
 all : ∀ x, H x → ∃ s z, St H i s ∧ z ∈ L ∧ x = Ma.mulN s z
 sep : ∀ z z' s s', z ∈ L → z' ∈ L → St H i s → St H i s' → Ma.mulN s z = Ma.mulN s' z' → z = z'
 nd : L.Nodup
theorem PK.zero {n : Nat} {H : List Nat → Prop} (hH : IsG n H) : PK n H 0 [Ma.oneN n] :=
 ⟨fun z hz => by rw [List.mem_singleton] at hz; subst hz; exact hH.one, fun x hx => ⟨x, Ma.oneN n, ⟨hx, fun j hj => absurd hj (Nat.not_lt_zero _)⟩, by simp, (Cm.mul_one (hH.gd x hx)).symm⟩, fun z z' _ _ hz hz' _ _ _ => by rw [List.mem_singleton] at hz hz'; rw [hz, hz'], by simp⟩
theorem rep_at {n : Nat} {H : List Nat → Prop} {O : List (List Nat)} {R : List (List (List Nat))} (h : IsChain n H O R) {i : Nat} (hi : i < n) {k : Nat} (hk : k < (R.getD i []).length) : Lst n (fun z => St H i z ∧ ap z i = (O.getD i []).getD k 0) (R.getD i [])[k] := by
 have := h.rep i k hi (by rw [← h.len i hi]; exact hk)
 rwa [Cm.getD_in hk] at this
theorem rep_mem {n : Nat} {H : List Nat → Prop} {O : List (List Nat)} {R : List (List (List Nat))} (h : IsChain n H O R) {i : Nat} (hi : i < n) {u : List Nat} (hu : u ∈ R.getD i []) : Lst n (fun z => St H i z ∧ ap z i = ap u i) u := by
 obtain ⟨k, hk, rfl⟩ := List.getElem_of_mem hu;have := rep_at h hi hk;have e := this.1.2;rw [← e] at this;exact this
theorem rep_of {n : Nat} {H : List Nat → Prop} {O : List (List Nat)} {R : List (List (List Nat))} (h : IsChain n H O R) {i : Nat} (hi : i < n) {s : List Nat} (hs : St H i s) : ∃ u ∈ R.getD i [], St H i u ∧ ap u i = ap s i := by
 obtain ⟨k, hk, e⟩ := List.getElem_of_mem ((h.orb i (ap s i) hi).2 ⟨s, hs, rfl⟩)
 have hk2 : k < (R.getD i []).length := by rw [h.len i hi]; exact hk
 have h1 := (rep_at h hi hk2).1;refine ⟨_, List.getElem_mem hk2, h1.1, ?_⟩;rw [h1.2, Cm.getD_in hk, e]
theorem rep_pair {n : Nat} {H : List Nat → Prop} {O : List (List Nat)} {R : List (List (List Nat))} (h : IsChain n H O R) {i : Nat} (hi : i < n) : (R.getD i []).Pairwise (fun u v => ap u i < ap v i) := by
 rw [List.pairwise_iff_getElem];intro a b ha hb hab
 have ha2 : a < (O.getD i []).length := by rw [← h.len i hi]; exact ha
 have hb2 : b < (O.getD i []).length := by rw [← h.len i hi]; exact hb
 rw [(rep_at h hi ha).1.2, (rep_at h hi hb).1.2, Cm.getD_in ha2, Cm.getD_in hb2];exact (List.pairwise_iff_getElem.1 (h.asc i hi)) a b ha2 hb2 hab
theorem PK.step {n : Nat} {H : List Nat → Prop} (hH : IsG n H) {O : List (List Nat)} {R : List (List (List Nat))} (h : IsChain n H O R) {i : Nat} (hi : i < n) {L : List (List Nat)} (hL : PK n H i L) : PK n H (i + 1) (mulAll (R.getD i []) L) := by
 have key : ∀ u z u' z' s s', u ∈ R.getD i [] → u' ∈ R.getD i [] → z ∈ L → z' ∈ L → St H (i + 1) s → St H (i + 1) s' → Ma.mulN s (Ma.mulN u z) = Ma.mulN s' (Ma.mulN u' z') → z = z' ∧ u = u' := by
  intro u z u' z' s s' hu hu' hz hz' hs hs' e;have l1 := rep_mem h hi hu;have l2 := rep_mem h hi hu';have gs := hH.gd _ hs.1;have gs' := hH.gd _ hs'.1;have gu := hH.gd _ l1.1.1.1;have gu' := hH.gd _ l2.1.1.1;rw [← Cm.mul_assoc gs gu, ← Cm.mul_assoc gs' gu'] at e;have a1 : St H i (Ma.mulN s u) := ⟨hH.mul _ _ hs.1 l1.1.1.1, Fx.mul gs (Nat.le_of_lt hi) (hs.2.mono (Nat.le_succ _)) l1.1.1.2⟩;have a2 : St H i (Ma.mulN s' u') := ⟨hH.mul _ _ hs'.1 l2.1.1.1, Fx.mul gs' (Nat.le_of_lt hi) (hs'.2.mono (Nat.le_succ _)) l2.1.1.2⟩;have ez := hL.sep z z' _ _ hz hz' a1 a2 e;subst ez;have gz := hH.gd _ (hL.inH z hz);have e2 := congrArg (fun t => Ma.mulN t (Ma.invN z)) e;simp only [Cm.mul_cancel_inv (Cm.gd_mul gs gu) gz, Cm.mul_cancel_inv (Cm.gd_mul gs' gu') gz] at e2;have e3 := congrArg (fun t => ap t i) e2;simp only [Cm.ap_mul gs hi, Cm.ap_mul gs' hi, hs.2 i (Nat.lt_succ_self _), hs'.2 i (Nat.lt_succ_self _)] at e3
  rw [← e3] at l2;exact ⟨rfl, l1.uniq l2⟩
 refine ⟨fun y hy => ?_, fun x hx => ?_, fun y y' s s' hy hy' hs hs' e => ?_, ?_⟩
 ·obtain ⟨u, hu, z, hz, rfl⟩ := mem_mulAll.1 hy
  exact hH.mul _ _ (rep_mem h hi hu).1.1.1 (hL.inH z hz)
 ·obtain ⟨s, z, hs, hz, rfl⟩ := hL.all x hx
  obtain ⟨u, hu, su, eu⟩ := rep_of h hi hs;have gs := hH.gd _ hs.1;have gu := hH.gd _ su.1;refine ⟨Ma.mulN s (Ma.invN u), Ma.mulN u z, ⟨hH.mul _ _ hs.1 (hH.inv _ su.1), fun j hj => ?_⟩, mem_mulAll.2 ⟨u, hu, z, hz, rfl⟩, ?_⟩
  ·rw [Cm.ap_mul gs (by omega)]
   rcases Nat.lt_or_ge j i with e | e
   ·rw [hs.2 j e]
    exact Fx.inv gu (Nat.le_of_lt hi) su.2 j e
   ·obtain rfl : j = i := by omega
    rw [← eu];exact Cm.ap_inv gu hi
  ·rw [← Cm.mul_assoc (Cm.gd_mul gs (Cm.gd_inv gu)) gu, Cm.mul_inv_cancel gs gu]
 ·obtain ⟨u, hu, z, hz, rfl⟩ := mem_mulAll.1 hy
  obtain ⟨u', hu', z', hz', rfl⟩ := mem_mulAll.1 hy';obtain ⟨rfl, rfl⟩ := key u z u' z' s s' hu hu' hz hz' hs hs' e;rfl
 ·have o1 : St H (i + 1) (Ma.oneN n) := ⟨hH.one, Fx.one (by omega)⟩
  have gm : ∀ u ∈ R.getD i [], ∀ z ∈ L, Gd n (Ma.mulN u z) := fun u hu z hz => Cm.gd_mul (hH.gd _ (rep_mem h hi hu).1.1.1) (hH.gd _ (hL.inH z hz))
  have k2 : ∀ u ∈ R.getD i [], ∀ u' ∈ R.getD i [], ∀ z ∈ L, ∀ z' ∈ L, Ma.mulN u z = Ma.mulN u' z' → z = z' ∧ u = u' := fun u hu u' hu' z hz z' hz' e =>
   key u z u' z' _ _ hu hu' hz hz' o1 o1 (by rw [e])
  unfold mulAll;rw [List.Nodup, List.pairwise_flatMap];refine ⟨fun u hu => ?_, ?_⟩
  ·rw [List.pairwise_map]
   exact List.Pairwise.imp_of_mem (fun {a b} ha hb hne e => hne (k2 u hu u hu a ha b hb e).1) hL.nd
  ·refine List.Pairwise.imp_of_mem (fun {u v} hu hv hlt x hx y hy e => ?_) (rep_pair h hi)
   obtain ⟨z, hz, rfl⟩ := List.mem_map.1 hx;obtain ⟨z', hz', rfl⟩ := List.mem_map.1 hy;have := (k2 u hu v hv z hz z' hz' e).2;subst this;omega
theorem prodK_PK {n : Nat} {H : List Nat → Prop} (hH : IsG n H) {O : List (List Nat)} {R : List (List (List Nat))} (h : IsChain n H O R) : ∀ {i : Nat}, i ≤ n → PK n H i (prodK n R i)
 | 0, _ => PK.zero hH
 | i + 1, hi => PK.step hH h hi (prodK_PK hH h (Nat.le_of_lt hi))
theorem prodK_all {n : Nat} {H : List Nat → Prop} (hH : IsG n H) {O : List (List Nat)} {R : List (List (List Nat))} (h : IsChain n H O R) : (prodK n R n).Nodup ∧ ∀ x, x ∈ prodK n R n ↔ H x := by
 have hp := prodK_PK hH h (Nat.le_refl n);refine ⟨hp.nd, fun x => ⟨hp.inH x, fun hx => ?_⟩⟩;obtain ⟨s, z, hs, hz, rfl⟩ := hp.all x hx;have e := Fx.all (hH.gd _ hs.1) hs.2;rw [e, Cm.one_mul (hH.gd _ (hp.inH z hz))];exact hz
def fall (n : Nat) : Nat → Nat
 | 0 => 1
 | i + 1 => (n - i) * fall n i
theorem prodK_le {n : Nat} {H : List Nat → Prop} (hH : IsG n H) {O : List (List Nat)} {R : List (List (List Nat))} (h : IsChain n H O R) : ∀ {i : Nat}, i ≤ n → (prodK n R i).length ≤ fall n i
 | 0, _ => Nat.le_refl 1
 | i + 1, hi => by
  have h1 := prodK_le hH h (i := i) (Nat.le_of_lt hi);have h2 := chain_len hH h (i := i) hi;rw [← h.len i hi] at h2;show (mulAll _ _).length ≤ _;rw [len_mulAll];exact Nat.mul_le_mul h2 h1
theorem fall_720 : ∀ n, n < 7 → ∀ i, i < 7 → i ≤ n → fall n i ≤ 720 := by decide
theorem prodK_720 {n : Nat} {H : List Nat → Prop} (hH : IsG n H) {O : List (List Nat)} {R : List (List (List Nat))} (h : IsChain n H O R) (hn : n ≤ 6) {i : Nat} (hi : i ≤ n) : (prodK n R i).length ≤ 720 :=
 Nat.le_trans (prodK_le hH h hi) (fall_720 n (by omega) i (by omega) hi)
theorem AllE.len {d : Nat} {gs A : List (List Nat)} (hg : ∀ s ∈ gs, Gd d s) {O : List (List Nat)} {R : List (List (List Nat))} (h : IsChain d (Gr d (· ∈ gs)) O R) (hA : AllE d gs A) : A.length = (prodK d R d).length := by
 obtain ⟨h1, h2⟩ := prodK_all (Gr.isG hg) h;exact Nat.le_antisymm (nodup_le (asc_nodup hA.1) fun x hx => (h2 x).2 ((hA.2 x).1 hx)) (nodup_le h1 fun x hx => (hA.2 x).2 ((h2 x).1 hx))
theorem OverE.no {d : Nat} {gs : List (List Nat)} (hg : ∀ s ∈ gs, Gd d s) {O : List (List Nat)} {R : List (List (List Nat))} (h : IsChain d (Gr d (· ∈ gs)) O R) (hd : d ≤ 6) : ¬ OverE d gs 720 := by
 rintro ⟨L, h1, h2, h3⟩;obtain ⟨q1, q2⟩ := prodK_all (Gr.isG hg) h;have := nodup_le h1 fun x hx => (q2 x).2 (h2 x hx);have := prodK_720 (Gr.isG hg) h hd (Nat.le_refl d);omega
end Go.Proofs.Ytcfomoknlchemaa

namespace Go.Proofs.Ytcfomoknlchemaa
open Go.Proofs
open Go.Proofs.Cm (Gr Gd IsChain IsG St Fx ap Lst lexLt)
def fxTo (i p : Nat) (a : List Nat) (j : Nat) : Bool := (ap a i == p) && (List.range j).all fun m => ap a m == m
def fxB (i p : Nat) (a : List Nat) : Bool := fxTo i p a i
theorem fxB_iff {i p : Nat} {a : List Nat} : fxB i p a = true ↔ Fx i a ∧ ap a i = p := by
 unfold fxB fxTo;rw [Bool.and_eq_true, beq_iff_eq, List.all_eq_true]
 constructor
 ·rintro ⟨h1, h2⟩; exact ⟨fun j hj => by simpa using h2 j (List.mem_range.2 hj), h1⟩
 ·rintro ⟨h1, h2⟩; exact ⟨h2, fun j hj => by simpa using h1 j (List.mem_range.1 hj)⟩
def orbTo (A : List (List Nat)) (i p : Nat) : List Nat := (List.range p).filter fun q => A.any (fxB i q)
def repTo (A : List (List Nat)) (i p : Nat) : List (List Nat) := (orbTo A i p).map fun q => (A.find? (fxB i q)).getD []
theorem len_repTo (A : List (List Nat)) (i p : Nat) : (repTo A i p).length = (orbTo A i p).length := by unfold repTo; rw [List.length_map]
theorem ofN_cons (x : Nat) (a : List Nat) : Ma.ofN (x :: a) = ((x : Nat) : Int) :: Ma.ofN a := rfl
theorem lessL_lex : ∀ {a z : List Nat}, a.length = z.length → lessL (Ma.ofN a) (Ma.ofN z) = true → lexLt a.length a z
 | [], [], _, h => by simp [Ma.ofN, lessL] at h
 | [], _ :: _, e, _ => by simp at e
 | _ :: _, [], e, _ => by simp at e
 | x :: a, y :: z, e, h => by
  rw [ofN_cons, ofN_cons, lessL] at h
  by_cases hxy : x = y
  ·subst hxy
   rw [if_pos rfl] at h;obtain ⟨j, h1, h2, h3⟩ := lessL_lex (by simpa using e) h;refine ⟨j + 1, by simpa using h1, fun m hm => ?_, by simpa [ap] using h3⟩
   cases m with
   | zero => rfl
   | succ m => simpa [ap] using h2 m (by omega)
  ·rw [if_neg (by omega)] at h
   exact ⟨0, by simp, fun m hm => absurd hm (Nat.not_lt_zero _), by simpa [ap] using h⟩
theorem getD_mapR {α : Type} (f : Nat → List α) {d i : Nat} (h : i < d) : ((List.range d).map f).getD i [] = f i := by
 rw [List.getD_eq_getElem?_getD, List.getElem?_map, List.getElem?_range h];rfl
theorem find_lst {d : Nat} {gs A : List (List Nat)} (hg : ∀ s ∈ gs, Gd d s) (hA : AllE d gs A) {i p : Nat} {a : List Nat} (h : A.find? (fxB i p) = some a) : Lst d (fun z => St (Gr d (· ∈ gs)) i z ∧ ap z i = p) a := by
 obtain ⟨h1, k, hk, rfl, h2⟩ := List.find?_eq_some_iff_getElem.1 h;have h3 := fxB_iff.1 h1;have gk := (Gr.isG hg).gd _ ((hA.2 _).1 (List.getElem_mem hk));refine ⟨⟨⟨(hA.2 _).1 (List.getElem_mem hk), h3.1⟩, h3.2⟩, fun z hz => ?_⟩;obtain ⟨j, hj, rfl⟩ := List.getElem_of_mem ((hA.2 z).2 hz.1.1);have gj := (Gr.isG hg).gd _ ((hA.2 _).1 (List.getElem_mem hj))
 rcases Nat.lt_trichotomy j k with e | e | e
 ·have h4 := h2 j e
  rw [fxB_iff.2 ⟨hz.1.2, hz.2⟩] at h4
  cases h4
 ·subst e; exact .inl rfl
 ·have h5 := hA.1 k j (by simpa using hk) (by simpa using hj) e
  simp only [List.getElem_map] at h5;have := lessL_lex (gk.2.trans gj.2.symm) h5;rw [gk.2] at this;exact .inr this
theorem chainOf_is {d : Nat} {gs A : List (List Nat)} (hg : ∀ s ∈ gs, Gd d s) (hA : AllE d gs A) : IsChain d (Gr d (· ∈ gs)) ((List.range d).map fun i => orbTo A i d) ((List.range d).map fun i => repTo A i d) := by
 have hm : ∀ {i p : Nat}, i < d → (p ∈ orbTo A i d ↔ ∃ x, St (Gr d (· ∈ gs)) i x ∧ ap x i = p) := by
  intro i p hi;unfold orbTo;rw [List.mem_filter, List.mem_range, List.any_eq_true]
  constructor
  ·rintro ⟨_, a, ha, hb⟩
   exact ⟨a, ⟨(hA.2 a).1 ha, (fxB_iff.1 hb).1⟩, (fxB_iff.1 hb).2⟩
  ·rintro ⟨x, hx, rfl⟩
   exact ⟨Cm.ap_lt ((Gr.isG hg).gd x hx.1) hi, x, (hA.2 x).2 hx.1, fxB_iff.2 ⟨hx.2, rfl⟩⟩
 refine ⟨by simp, by simp, fun i hi => ?_, fun i p hi => ?_, fun i hi => ?_, fun i k hi hk => ?_⟩
 ·rw [getD_mapR _ hi]
  exact List.Pairwise.filter _ List.pairwise_lt_range
 ·rw [getD_mapR _ hi]; exact hm hi
 ·rw [getD_mapR _ hi, getD_mapR _ hi]; exact len_repTo A i d
 ·rw [getD_mapR _ hi] at hk ⊢
  rw [getD_mapR _ hi]
  have hk2 : k < (repTo A i d).length := by rw [len_repTo]; exact hk
  rw [Cm.getD_in hk, Cm.getD_in hk2]
  have e : (repTo A i d)[k] = (A.find? (fxB i (orbTo A i d)[k])).getD [] := by simp only [repTo, List.getElem_map]
  rw [e];have hp := List.getElem_mem hk;unfold orbTo at hp;rw [List.mem_filter] at hp
  cases hf : A.find? (fxB i (orbTo A i d)[k]) with
  | none =>
   exfalso
   obtain ⟨a, ha, hb⟩ := List.any_eq_true.1 hp.2;have := List.find?_eq_none.1 hf a ha;exact this hb
  | some a => exact find_lst hg hA hf
end Go.Proofs.Ytcfomoknlchemaa

namespace Go.Proofs.Ytcfomoknlchemaa
open Go.RowKit
open Go.Proofs
open Go.Proofs.Cm (Gd Gr ap)
attribute [local irreducible] Go.Calls Go.wpList
theorem kp_below {B : Nat} {M : Nat → Prop} {W0 W X : World} (hb : Below B W0 W) (hB : B ≤ W.heap.size) (hk : Rg.Kp M W X) (hM : ∀ k, M k → B ≤ k) : Below B W0 X :=
 hb.trans ⟨hk.os, hk.tape, hk.output, hk.size, fun k h => hk.block k (Nat.lt_of_lt_of_le h hB) fun e => Nat.lt_irrefl _ (Nat.lt_of_lt_of_le h (hM k e))⟩
theorem FP.own {F : Nat → Prop} {W W' : World} {v : Value} {x : List Nat} {m : Nat} (h : W'.ownsRow W.heap.size 3 1 v m ((Ma.ofN x).map (Value.int .i64))) (hm : m ≤ 1000000000) : FP (Fup F W W') W' v x :=
 Rg.FVals.of (Rg.Vals.of_row h hm) (fun k e => .inr (h.lt k e))
end Go.Proofs.Ytcfomoknlchemaa

namespace Go.Proofs.Ytcfomoknlchemaa
open Go.RowKit
open Go.Proofs
open Go.Proofs.Ob
attribute [local irreducible] Go.Calls Go.wpList
structure RowJ (B : Nat) (F M : Nat → Prop) (W : World) (v : Value) (l : List (List Int)) : Prop where
 size : B ≤ W.heap.size
 own : ∃ us, W.ownsRow B 22 1 v l.length us ∧ Rg.FElts F W us l
 off : ∀ k, v.ownBlock = some k → ¬ F k ∧ ¬ M k
theorem RowJ.lt {B : Nat} {F M : Nat → Prop} {W : World} {v : Value} {l : List (List Int)} (h : RowJ B F M W v l) : ∀ k, v.ownBlock = some k → B ≤ k ∧ k < W.heap.size := fun k e => by
 obtain ⟨us, h1, h2⟩ := h.own;exact h1.lt k e
theorem RowJ.shape {B : Nat} {F M : Nat → Prop} {W : World} {v : Value} {l : List (List Int)} (h : RowJ B F M W v l) : ∃ a c, v = .slice a l.length c := by
 obtain ⟨us, h1, h2⟩ := h.own;exact Rg.row_shape h1
theorem RowJ.nil (B : Nat) (F M : Nat → Prop) (W : World) (hB : B ≤ W.heap.size) : RowJ B F M W (.slice none 0 0) [] :=
 ⟨hB, ⟨[], World.ownsRow_nil _ _ _ _, Rg.FElts.nil _ _⟩, fun k e => by simp [Value.ownBlock] at e⟩
theorem RowJ.rows {B : Nat} {F M : Nat → Prop} {W : World} {v : Value} {l : List (List Int)} (h : RowJ B F M W v l) (hl : l.length ≤ 1000000000) : Rg.Rows W v l := by
 obtain ⟨us, h1, h2⟩ := h.own;exact Rg.Rows.of_row h1 hl h2.1 (fun i a b => (h2.2 i a b).ints)
theorem RowJ.kp {B : Nat} {F M N : Nat → Prop} {W W' : World} {v : Value} {l : List (List Int)} (h : RowJ B F M W v l) (hk : Rg.Kp N W W') (hF : ∀ k, F k → ¬ N k) (hN : ∀ k, v.ownBlock = some k → ¬ N k) : RowJ B F M W' v l := by
 obtain ⟨us, h1, h2⟩ := h.own;exact ⟨Nat.le_trans h.size hk.size, ⟨us, rowKp h1 hk (fun k hn e => hN k e hn), h2.kp hk hF⟩, h.off⟩
theorem RowJ.upk {B : Nat} {F M N : Nat → Prop} {W W' : World} {v : Value} {l : List (List Int)} (h : RowJ B F M W v l) (hk : Rg.Kp N W W') (hF : ∀ k, F k → ¬ N k) (hN : ∀ k, N k → M k) : RowJ B (Fup F W W') M W' v l := by
 obtain ⟨us, h1, h2⟩ := h.own;refine ⟨Nat.le_trans h.size hk.size, ⟨us, rowKp h1 hk (fun k hn e => (h.off k e).2 (hN k hn)), (h2.kp hk hF).mono fun k => .inl⟩, fun k e => ⟨fun g => ?_, (h.off k e).2⟩⟩;have := (h.lt k e).2
 rcases g with g | g
 ·exact (h.off k e).1 g
 ·omega
theorem RowJ.push {B : Nat} {F M : Nat → Prop} {W : World} {v : Value} {l : List (List Int)} (h : RowJ B F M W v l) {u : Value} {x : List Int} (hu : Rg.FI F W u x) (hs : ∃ a m c, u = .slice a m c) (hF : ∀ k, F k → k < W.heap.size) (hM : ∀ k, M k → k < W.heap.size) (hn : l.length < 1000000) (ty : TypeId) :
  ∃ a c X, (Builtin.append_ #[29, 29] ty #[v, .slice (some ⟨W.heap.size, 0, none⟩) 1 1]).run Try.prog (W.alloc (.cells #[u] 22)) = .ok (.slice a (l.length + 1) c) X ∧ RowJ B F M X (.slice a (l.length + 1) c) (l ++ [x]) ∧ Rg.Kp (fun k => v.ownBlock = some k) W X := by
 obtain ⟨us, h1, h2⟩ := h.own;obtain ⟨a0, m0, c0, rfl⟩ := hs;have hb : Below W.heap.size W (W.alloc (.cells #[.slice a0 m0 c0] 22)) := (Below.refl _ _).alloc (Nat.le_refl _) _;obtain ⟨v', X, r1, r2, r3, r4, a, c, rfl⟩ := app_run (P := Try.prog) slIntss ty (Rg.row_below h1 hb) (Nat.le_trans h.size hb.size) W.heap.size 1 (u := .slice a0 m0 c0) (by rw [Rg.cellNew]; rfl) rfl hn;have hk : Rg.Kp (fun k => v.ownBlock = some k) W X := Rg.Kp.trans (M := fun k => v.ownBlock = some k) ((Rg.Kp.of_below hb).weak fun _ => False.elim) (Rg.Kp.of_grown r3 fun _ e => e) (fun _ _ e => e);have hg : ∀ k, F k → ¬ v.ownBlock = some k := fun k g e => (h.off k e).1 g;refine ⟨a, c, X, r1, ⟨Nat.le_trans h.size hk.size, ⟨us ++ [.slice a0 m0 c0], by rw [List.length_append]; exact r2, FElts.snoc (h2.kp hk hg) (Rg.FI.kp hu hk hg)⟩, fun k e => ?_⟩, hk⟩
 rcases r4 with r4 | r4
 ·exact h.off k (by rw [← r4]; exact e)
 ·rw [r4] at e
  injection e with e
  have e2 : (W.alloc (.cells #[.slice a0 m0 c0] 22)).heap.size = W.heap.size + 1 := by simp
  exact ⟨fun g => by have := hF _ g; omega, fun g => by have := hM _ g; omega⟩
theorem RowJ.withM {B : Nat} {F M N : Nat → Prop} {W : World} {v : Value} {l : List (List Int)} (h : RowJ B F M W v l) (hN : ∀ k, v.ownBlock = some k → ¬ N k) : RowJ B F N W v l := ⟨h.size, h.own, fun k e => ⟨(h.off k e).1, hN k e⟩⟩
theorem RowJ.up0 {B : Nat} {F : Nat → Prop} {W W' : World} {v : Value} {l : List (List Int)} (h : RowJ B F (fun _ => False) W v l) (hb : Below W.heap.size W W') : RowJ B (Fup F W W') (fun _ => False) W' v l :=
 h.upk (N := fun _ => False) (Rg.Kp.of_below hb) (fun _ _ => id) (fun _ => id)
theorem RowJ.at {B : Nat} {F M : Nat → Prop} {W : World} {v : Value} {l : List (List Int)} (h : RowJ B F M W v l) {i : Nat} (hi : i < l.length) : ∃ b c u, v = .slice (some ⟨b, 0, none⟩) l.length c ∧ l.length ≤ c ∧ b < W.heap.size ∧ W.cell? ⟨b, i, none⟩ = some u ∧ Rg.FI F W u l[i] := by
 obtain ⟨us, h1, h2⟩ := h.own;obtain ⟨-, a, c, rfl, h3, h4, h5⟩ := Rg.own_elts h1 h2;obtain ⟨g, rfl, hg, hx⟩ := h5 (by omega);obtain ⟨u, hu1, hu2⟩ := hx i hi;exact ⟨g, c, u, rfl, h3, hg, hu1, hu2⟩
theorem RowJ.one {B : Nat} {F M : Nat → Prop} {W : World} {u : Value} {x : List Int} (hB : B ≤ W.heap.size) (hu : Rg.FI F W u x) (hs : ∃ a m c, u = .slice a m c) (hF : ∀ k, F k → k < W.heap.size) (hM : ∀ k, M k → k < W.heap.size) :
  RowJ B F M (W.alloc (.cells #[u] 22)) (.slice (some ⟨W.heap.size, 0, none⟩) 1 1) [x] := by
 have hb : Below W.heap.size W (W.alloc (.cells #[u] 22)) := (Below.refl _ _).alloc (Nat.le_refl _) _;refine ⟨Nat.le_trans hB hb.size, ⟨[u], ⟨rfl, .inr ⟨W.heap.size, 1, #[u], rfl, hB, by show (W.heap.push _)[W.heap.size]? = _; simp, Nat.le_refl _, by decide, rfl, rfl⟩⟩, ?_⟩, fun k e => ?_⟩
 ·exact Rg.FElts.one (Rg.FI.kp hu (Rg.Kp.of_below hb) (fun _ _ => id))
 ·simp only [Value.ownBlock, Option.some.injEq] at e
  subst e;exact ⟨fun h => Nat.lt_irrefl _ (hF _ h), fun h => Nat.lt_irrefl _ (hM _ h)⟩
end Go.Proofs.Ytcfomoknlchemaa

namespace Go.Proofs.Km
open Go Go.RowKit
open Go.ChangeMaps
structure KT (P : Program) (t k e v : TypeId) (n : Nat) (z : Value) : Prop where
 ht : P.underlying t = some (.map k v)
 hk : P.underlying k = some (.array n e)
 he : P.underlying e = some (.int .u8)
 hs : ∀ w, (sizeOf e).run P w = .ok 1 w
 hz : ∀ w, (zeroValue v).run P w = .ok z w
def keyV (l : List UInt8) : Value := .agg (l.map Go.Extern.Stop.cell).toArray
def KMap (w : World) (r : Nat) (m : List (List UInt8 × Value)) : Prop :=
 ∃ es clock, w.heap[r]? = some (.map es clock) ∧ es.toList.map (fun e => (e.key, e.val)) = m.map (fun x => (keyV x.1, x.2))
theorem KMap.lt {w : World} {r : Nat} {m : List (List UInt8 × Value)} (h : KMap w r m) : r < w.heap.size := by
 obtain ⟨es, c, h1, _⟩ := h; exact (Array.getElem?_eq_some_iff.1 h1).1
theorem KMap.of_block {w w' : World} {r : Nat} {m : List (List UInt8 × Value)} (h : KMap w r m) (e : w'.heap[r]? = w.heap[r]?) : KMap w' r m := by
 obtain ⟨es, c, h1, h2⟩ := h; exact ⟨es, c, e.trans h1, h2⟩
theorem KMap.below {w w' : World} {r : Nat} {m : List (List UInt8 × Value)} (h : KMap w r m) (hb : Below w.heap.size w w') : KMap w' r m := h.of_block (hb.block r h.lt)
theorem KMap.grown {w w' : World} {r : Nat} {m : List (List UInt8 × Value)} {k : Option Nat} (h : KMap w r m) (hg : w.grownBy w' k) (hne : some r ≠ k) : KMap w' r m := h.of_block (hg.block r h.lt hne)
theorem KMap.new (w : World) : KMap (w.alloc (.map #[] 0)) w.heap.size [] := ⟨#[], 0, by unfold World.alloc; simp, rfl⟩
def look (m : List (List UInt8 × Value)) (k : List UInt8) : Option Value := (m.find? (fun x => k == x.1)).map (·.2)
section
variable {P : Program} {t k e v : TypeId} {n : Nat} {z : Value}
theorem check_items (T : KT P t k e v n z) (em : Bool) (xs : List UInt8) (hx : xs.length = n) (w : World) : (Instr.checkKey em 10000 k (keyV xs)).run P w = .ok () w := by
 rw [show (10000 : Nat) = 9999 + 1 from rfl, keyV, Instr.checkKey];simp only [Sem.run_bind, run_underlying T.hk, Result.andThen_ok, Std.Legacy.Range.forIn_eq_forIn_range', Std.Legacy.Range.size, Nat.sub_zero, Nat.add_sub_cancel, Nat.div_one]
 have hl : ∀ i ∈ List.range' 0 n 1, i < n := fun i hi => by simpa using (List.mem_range'_1.1 hi).2
 generalize List.range' 0 n 1 = l at hl ⊢
 induction l with
 | nil => simp
 | cons i l ih =>
  have hi : i < n := hl i (by simp)
  have px : (part e (xs.map Go.Extern.Stop.cell).toArray (i * 1)).run P w = .ok (Go.Extern.Stop.cell (xs.getD i 0)) w := by
   simp [part, isAgg, run_underlying T.he, List.getD, List.getElem?_eq_getElem (show i < xs.length by omega)]
  have pc : (Instr.checkKey em 9999 e (Go.Extern.Stop.cell (xs.getD i 0))).run P w = .ok () w := by
   rw [show (9999 : Nat) = 9998 + 1 from rfl, Instr.checkKey];simp [Sem.run_bind, run_underlying T.he, Go.Extern.Stop.cell]
  simp only [List.forIn_cons, Sem.run_bind, T.hs, px, pc, Result.andThen_ok, Sem.run_pure];exact ih fun j hj => hl j (by simp [hj])
theorem ask_items (T : KT P t k e v n z) (w : World) (kb : List UInt8) (hk : kb.length = n) : ∀ (es : List MapEntry) (m : List (List UInt8 × Value)) (i : Nat),
  es.map (fun e => (e.key, e.val)) = m.map (fun x => (keyV x.1, x.2)) → (∀ x ∈ m, x.1.length = n) →
  ∃ r, (Instr.findAsking k (keyV kb) es i).run P w = .ok r w ∧ r.map (·.2) = look m kb
 | [], m, i, h, _ => by
  obtain rfl : m = [] := by cases m; rfl; simp at h
  exact ⟨none, by simp [Instr.findAsking], rfl⟩
 | e0 :: es, m, i, h, hm => by
  cases m with
  | nil => simp at h
  | cons x m =>
   simp only [List.map_cons, List.cons.injEq, Prod.mk.injEq] at h;obtain ⟨⟨h1, h2⟩, h3⟩ := h;have hxl := hm x (by simp)
   have pe : (Op.equal k (keyV kb) e0.key).run P w = .ok (kb == x.1) w := by
    rw [h1, Op.equal, Op.maxDepth, keyV, keyV];exact run_equalIn_bytes w 9998 k e n T.hk T.he T.hs kb x.1 hk hxl
   obtain ⟨r, hr, hr2⟩ := ask_items T w kb hk es m (i + 1) h3 (fun y hy => hm y (by simp [hy]));rw [Instr.findAsking];simp only [Sem.run_bind, pe, Result.andThen_ok]
   cases hq : (kb == x.1)
   ·refine ⟨r, by simpa using hr, ?_⟩
    rw [hr2]; simp [look, hq]
   ·refine ⟨some (i, e0.val), by simp, ?_⟩
    simp [look, hq, h2]
theorem find_items (T : KT P t k e v n z) (w : World) (kb : List UInt8) (hk : kb.length = n) (es : List MapEntry) (m : List (List UInt8 × Value))
  (h : es.map (fun e => (e.key, e.val)) = m.map (fun x => (keyV x.1, x.2))) (hm : ∀ x ∈ m, x.1.length = n) :
  ∃ r, (Instr.findKey k (keyV kb) es).run P w = .ok r w ∧ r.map (·.2) = look m kb := by
 unfold Instr.findKey;simp only [Sem.run_bind, run_underlying T.hk, Result.andThen_ok]
 cases es with
 | nil =>
  obtain rfl : m = [] := by cases m; rfl; simp at h
  exact ⟨none, by simp [Instr.findNow], rfl⟩
 | cons e0 es =>
  have : Instr.findNow (.array n e) (keyV kb) (e0 :: es) 0 = none := by simp [Instr.findNow, Instr.sameNow]
  rw [this];exact ask_items T w kb hk _ m 0 h hm
theorem lookup_no (T : KT P t k e v n z) {w : World} {r : Nat} {m : List (List UInt8 × Value)} (h : KMap w r m) (hm : ∀ x ∈ m, x.1.length = n) (kb : List UInt8) (hk : kb.length = n) :
  (Instr.lookup t (.map (some r)) (keyV kb) false).run P w = .ok ((look m kb).getD z) w := by
 obtain ⟨es, c, h1, h2⟩ := h;obtain ⟨q, hq, hq2⟩ := find_items T w kb hk es.toList m h2 hm
 cases q with
 | none =>
  have : look m kb = none := by rw [← hq2]; rfl
  simp [Instr.lookup, run_underlying T.ht, MapKept.run_getObj_map h1, check_items T _ kb hk, hq, T.hz, Result.andThen, this]
 | some x =>
  have : look m kb = some x.2 := by rw [← hq2]; rfl
  simp [Instr.lookup, run_underlying T.ht, MapKept.run_getObj_map h1, check_items T _ kb hk, hq, Result.andThen, this]
theorem update_new (T : KT P t k e v n z) {w : World} {r : Nat} {m : List (List UInt8 × Value)} (h : KMap w r m) (hm : ∀ x ∈ m, x.1.length = n) (kb : List UInt8) (hk : kb.length = n) (hno : look m kb = none) (val : Value) :
  ∃ w', (Instr.mapUpdate t (.map (some r)) (keyV kb) val).run P w = .ok () w' ∧ KMap w' r (m ++ [(kb, val)]) ∧ w.grownBy w' (some r) := by
 obtain ⟨es, c, h1, h2⟩ := h;obtain ⟨q, hq, hq2⟩ := find_items T w kb hk es.toList m h2 hm;rw [hno] at hq2
 have : q = none := by cases q; rfl; simp at hq2
 subst this;refine ⟨setBlock w r (.map (es.push ⟨keyV kb, val, c⟩) (c + 1)), ?_, ⟨_, _, heap_setBlock_same h1 _, ?_⟩, ⟨rfl, rfl, rfl, by simp [setBlock], fun i _ hi => heap_setBlock_other h1 _ (fun e => hi (by rw [e]))⟩⟩
 ·simp [Instr.mapUpdate, run_underlying T.ht, MapKept.run_getObj_map h1, check_items T _ kb hk, hq, MapKept.run_setObj_map _ h1, Result.andThen, setBlock]
 ·simp [h2]
end
end Go.Proofs.Km

namespace Go.Proofs.Ytcfomoknlchemaa
open Go.RowKit
open Go.Proofs
attribute [local irreducible] Go.Calls
def keyF (p : List Nat) (i : Nat) : Value := .int .u8 ((p.getD i 0 : Nat) : Int)
def keyC (p : List Nat) : Array Value := (Array.range 64).map (keyF p)
theorem size_keyC (p : List Nat) : (keyC p).size = 64 := by simp [keyC]
theorem get_keyC (p : List Nat) (i : Nat) (h : i < 64) : (keyC p)[i]? = some (keyF p i) := by simp [keyC, h]
theorem one_keyC (p : List Nat) : (keyC p).all (·.oneCell') = true := by
 refine Array.all_eq_true_iff_forall_mem.2 (fun v hv => ?_);obtain ⟨i, _, rfl⟩ := Array.mem_map.1 hv;rfl
theorem infoKey : (Try.prog.info? 138).map (·.size) = some 64 := by kernel_rfl
theorem keyRow {w : World} {b : Nat} {p : List Nat} {f : Nat → Value} (h : w.rowIs b 138 64 f) (hf : ∀ i, i < 64 → f i = keyF p i) : w.heap[b]? = some (.cells (keyC p) 138 (0, 0)) := by
 obtain ⟨c, h1, h2, h3⟩ := h
 have : c = keyC p := by
  apply Array.ext_getElem?
  intro i
  by_cases hi : i < 64
  ·rw [get_keyC p i hi, ← hf i hi]; exact h3 i hi
  ·rw [Array.getElem?_eq_none (by omega), Array.getElem?_eq_none (by rw [size_keyC]; omega)]
 rw [← this]; exact h1
theorem packed_any (v : Value) (p : List Nat) (w : World) (h : Rg.NP w v p) (h2 : p.length ≤ 64) (h3 : ∀ x ∈ p, x < 256) :
  Calls Try.prog 144 #[v] w fun e w' => e = .returned (.agg (keyC p)) ∧ Below w.heap.size w w' := by
 obtain ⟨a, cap, rfl, hc, hm, _, hcell⟩ := h.shape;have Hr := ι hcell;clear hcell h
 have hz : ∀ (w1 : World) (cs : Array Value), cs = Array.replicate 64 (.int .u8 0) → (w1.alloc (.cells cs 138)).rowIs w1.heap.size 138 64 (fun j => .int .u8 (if j < 0 then (p.getD j 0 : Nat) else 0)) := by
  rintro w1 cs rfl;have := World.rowIs_alloc w1 (Array.replicate 64 (.int .u8 0)) 138 (fun j => .int .u8 (if j < 0 then (p.getD j 0 : Nat) else 0)) (fun i hi => by simp at hi; simp [hi])
  simpa using this
 have HZ := ι hz;clear hz
 go_enter Try.func144, Try.ntmps144
 go_wp2
 have hzz : w.heap.size + 1 = (w.alloc (.cells (Array.replicate 64 (.int .u8 0)) 138)).heap.size := by simp
 go_loopw [8] (fun i wr => ∃ k : Nat, k ≤ p.length ∧ i = .int .i64 k ∧ Hid (wr.rowIs w.heap.size 138 64 (fun j => .int .u8 (if j < 0 then (p.getD j 0 : Nat) else 0))) ∧ Hid (wr.rowIs (w.heap.size + 1) 138 64 (fun j => .int .u8 (if j < k then (p.getD j 0 : Nat) else 0))) ∧ Hid (Below w.heap.size w wr)) (fun i _ => p.length - (intOf i).toNat)
 case atStart => exact ⟨0, by omega, rfl, (HZ.out _ _ rfl).alloc _, by rw [hzz]; exact HZ.out _ _ rfl, ((Below.refl _ _).alloc (Nat.le_refl _) _).alloc (by simp) _⟩
 case round =>
  obtain ⟨k, hk, rfl, hs0, hs, hbel⟩ := hrel;clear hzz
  by_cases hlt : k < p.length
  ·obtain ⟨b, o, rfl, hb, hr⟩ := Hr.out (by omega)
   have e0 : wr.cell? ⟨b, o + k, none⟩ = some (.int .i64 ((p[k] : Nat) : Int)) := (hbel.out.cell (p := ⟨b, o + k, none⟩) hb).trans (hr k hlt);have hx := h3 _ (List.getElem_mem hlt);have hg := Ma.getD_lt hlt;generalize p[k] = x at e0 hx hg;have Hg := ι hg;clear hg hr;have c1 := hs.out.cell (i := k) (by omega);have f1 := hs.out.frozen k;generalize (Value.int .u8 (if k < k then ((p.getD k 0 : Nat) : Int) else 0)) = u0 at c1;go_wp2
   go_roundw
   case rel =>
    refine ⟨k + 1, by omega, by go_num, hs0.out.setOther (by simp) _, ?_, hbel.out.setCell (by simp) _⟩;refine (hs.out.set k _).congr fun i hi => ?_
    by_cases e : i = k
    ·subst e; rw [if_pos rfl, if_pos (by omega), Hg.out] <;> rfl
    ·rw [if_neg e]
     by_cases e2 : i < k
     ·rw [if_pos e2, if_pos (by omega)]
     ·rw [if_neg e2, if_neg (by omega)]
   case measure => simp [intOf]; omega
  ·obtain rfl : k = p.length := by omega
   have HK := ι (keyRow (p := p) hs.out (fun i hi => by
    unfold keyF
    by_cases e : i < p.length
    ·rw [if_pos e]
    ·rw [if_neg e, List.getD_eq_getElem?_getD, List.getElem?_eq_none (by omega)]; rfl))
   obtain ⟨Z, hZ, hZs, _⟩ := hs0.out;have HZ2 := ι hZ;clear hZ
   go_wp2_with (first | (with_reducible refine wpList_load_row rfl 138 _ rfl (w.heap.size + 1) rfl _ _ _ _ HK.out Try.underlying138 rfl (by rw [size_keyC]; exact infoKey) ?_) | (with_reducible refine wpList_store_row rfl 138 _ _ rfl w.heap.size (keyC p) rfl rfl _ _ HZ2.out (by rw [size_keyC]; exact infoKey) (by rw [size_keyC]; exact hZs) (one_keyC p) ?_))
   exact bodyPost_ret (v := .agg (keyC p)) (results_cell_row rfl _ _ w.heap.size _ (keyC p) _ _ rfl (setRow_heap _ _ _ _ _ _ HZ2.out) Try.underlying138 rfl (by rw [size_keyC]; exact infoKey)) rfl ⟨rfl, below_setRow hbel.out (Nat.le_refl _) _⟩
theorem zeroKey : (Try.prog.info? 138).map (fun i => (i.zero, i.size)) = some (some (.agg (Array.replicate 64 (.int .u8 0))), 64) := by kernel_rfl
theorem exec_allocK {o : Oper} {a : Act} {w : World} (ho : o.op = .alloc 138) : (execOp a.eval o).run Try.prog w = .ok (.value (.pointer (some ⟨w.heap.size, 0, none⟩))) (w.alloc (.cells (Array.replicate 64 (.int .u8 0)) 138)) := by
 have hz := (zero_of_info zeroKey).1 w;unfold execOp;simp only [ho, Instr.alloc, Sem.run_bind, hz, Result.andThen_ok, newVar];simp [newRow, newObj, Sem.run, Value.cells, Result.andThen]
def kb (p : List Nat) : List UInt8 := (List.range 64).map fun i => UInt8.ofNat (p.getD i 0)
theorem len_kb (p : List Nat) : (kb p).length = 64 := by simp [kb]
def GK (d : Nat) (p : List Nat) : Prop := p.length = d ∧ d ≤ 64 ∧ ∀ x ∈ p, x < 256
theorem GK.getD {d : Nat} {p : List Nat} (h : GK d p) (i : Nat) : p.getD i 0 < 256 := by
 by_cases hi : i < p.length
 ·rw [Ma.getD_lt hi]; exact h.2.2 _ (List.getElem_mem hi)
 ·rw [List.getD_eq_getElem?_getD, List.getElem?_eq_none (by omega)]; decide
theorem keyC_kb {d : Nat} {p : List Nat} (h : GK d p) : Value.agg (keyC p) = Km.keyV (kb p) := by
 unfold Km.keyV
 congr 1
 apply Array.ext_getElem?
 intro i
 by_cases hi : i < 64
 ·rw [get_keyC p i hi]
  simp [kb, hi, keyF, Go.Extern.Stop.cell];have := h.getD i;rw [List.getD_eq_getElem?_getD] at this;omega
 ·rw [Array.getElem?_eq_none (by rw [size_keyC]; omega), Array.getElem?_eq_none (by simp [kb]; omega)]
theorem kb_inj {d : Nat} {p q : List Nat} (hp : GK d p) (hq : GK d q) (h : kb p = kb q) : p = q := by
 apply List.ext_getElem (hp.1.trans hq.1.symm)
 intro i h1 h2
 have hi : i < 64 := by have := hp.1; have := hp.2.1; omega
 have e := congrArg (fun l => l[i]?) h;simp only [kb, List.getElem?_map, List.getElem?_range hi, Option.map_some, Option.some.injEq] at e;have e2 := congrArg UInt8.toNat e;have g1 := hp.getD i; have g2 := hq.getD i;simp only [UInt8.toNat_ofNat', Nat.mod_eq_of_lt g1, Nat.mod_eq_of_lt g2] at e2
 rwa [Ma.getD_lt h1, Ma.getD_lt h2] at e2
theorem kb_beq {d : Nat} {p q : List Nat} (hp : GK d p) (hq : GK d q) : (kb p == kb q) = (p == q) := by
 rw [Bool.eq_iff_iff, beq_iff_eq, beq_iff_eq];exact ⟨kb_inj hp hq, fun h => by rw [h]⟩
def KeyAt (w : World) (s : Nat) (k : List Nat) : Prop := w.heap[s]? = some (.cells (keyC k) 138 (0, 0))
theorem KeyAt.range {w : World} {s : Nat} {k : List Nat} (h : KeyAt w s k) : w.rangeAt s 0 (keyC k).toList := fun j v hv => by
 rw [cell_of_row _ _ _ _ _ _ h]; simpa using hv
theorem KeyAt.below {w w' : World} {s : Nat} {k : List Nat} (h : KeyAt w s k) (hb : Below w.heap.size w w') : KeyAt w' s k := (hb.block s (Array.getElem?_eq_some_iff.1 h).1).trans h
theorem KeyAt.lt {w : World} {s : Nat} {k : List Nat} (h : KeyAt w s k) : s < w.heap.size := (Array.getElem?_eq_some_iff.1 h).1
theorem key_new (W : World) (k : List Nat) : ∃ X, (storeVar 138 ⟨W.heap.size, 0, none⟩ (.agg (keyC k))).run Try.prog (W.alloc (.cells (Array.replicate 64 (.int .u8 0)) 138)) = .ok () X ∧ KeyAt X W.heap.size k ∧ Below W.heap.size W X := by
 have h0 : (W.alloc (.cells (Array.replicate 64 (.int .u8 0)) 138)).heap[W.heap.size]? = some (.cells (Array.replicate 64 (.int .u8 0)) 138 (0, 0)) := heap_alloc_last W _;have hr := run_storeVar_row (P := Try.prog) _ W.heap.size 138 138 (Array.replicate 64 (.int .u8 0)) (keyC k) h0 (by rw [size_keyC]; exact infoKey) (by rw [size_keyC]; simp) (one_keyC k);exact ⟨_, hr, setRow_heap _ W.heap.size _ _ _ _ h0, below_setRow ((Below.refl _ _).alloc (Nat.le_refl _) _) (Nat.le_refl _) _⟩
theorem run_loadKey {w : World} {s : Nat} {k : List Nat} (h : KeyAt w s k) : (loadVar 138 ⟨s, 0, none⟩).run Try.prog w = .ok (.agg (keyC k)) w := by
 have := run_loadAt_mid (P := Try.prog) w s 0 138 (keyC k).toList _ h.range Try.underlying138 rfl (by rw [Array.length_toList, size_keyC]; exact infoKey)
 simpa [Instr.loadAt, Instr.sureAddr] using this
theorem kt : Km.KT Try.prog 140 138 5 4 64 (.bool false) :=
 ⟨Try.underlying140, Try.underlying138, Try.underlying5, fun w => by kernel_rfl, fun w => by kernel_rfl⟩
def seenM (T : List (List Nat)) : List (List UInt8 × Value) := T.map fun p => (kb p, .bool true)
theorem len_seenM (T : List (List Nat)) : ∀ x ∈ seenM T, x.1.length = 64 := fun x hx => by
 obtain ⟨y, _, rfl⟩ := List.mem_map.1 hx;exact len_kb _
theorem look_seenM {d : Nat} {p : List Nat} (hp : GK d p) : ∀ {T : List (List Nat)}, (∀ q ∈ T, GK d q) → Km.look (seenM T) (kb p) = if p ∈ T then some (.bool true) else none
 | [], _ => by simp [seenM, Km.look]
 | x :: T, h => by
  have ih := look_seenM hp (T := T) (fun y hy => h y (by simp [hy]));have hx := h x (by simp);unfold Km.look seenM at *;rw [List.map_cons, List.find?_cons];simp only [kb_beq hp hx]
  cases hb : (p == x)
  ·rw [ih]
   have hne : p ≠ x := by simpa using hb
   simp [List.mem_cons, hne]
  ·have he : p = x := by simpa using hb
   simp [he]
end Go.Proofs.Ytcfomoknlchemaa

namespace Go.Proofs.Ytcfomoknlchemaa
open Go.RowKit
open Go.Proofs
open Go.Proofs.Ob
attribute [local irreducible] Go.Calls Go.wpList
theorem Fdcl0 (args : Array Value) (w : World) : (callFunc 89 args).run Try.prog w = .ok (.enter 89 args) w := by kernel_rfl
def mvL (s l : List Nat) : List Nat := l.map fun x => s.getD x 0
theorem len_mvL (s l : List Nat) : (mvL s l).length = l.length := by simp [mvL]
structure InR (W : World) (g m : Nat) (f : Nat → Int) : Prop where
 row : W.rowIs g 3 m (fun i => .int .i64 (f i))
 lt : g < W.heap.size
theorem InR.below {W W' : World} {g m : Nat} {f : Nat → Int} (h : InR W g m f) (hb : Below W.heap.size W W') : InR W' g m f := by
 obtain ⟨c, h1, h2⟩ := h.row;exact ⟨⟨c, (hb.block g h.lt).trans h1, h2⟩, Nat.lt_of_lt_of_le h.lt hb.size⟩
theorem InR.set {W : World} {g m : Nat} {f : Nat → Int} (h : InR W g m f) (i : Nat) (b : Int) : InR (W.setCell ⟨g, i, none⟩ (.int .i64 b)) g m (fun j => if j = i then b else f j) :=
 ⟨(h.row.set i (.int .i64 b)).congr (fun j _ => by by_cases e : j = i <;> simp [e]), by simpa using h.lt⟩
theorem InR.blk {W : World} {g m : Nat} {f : Nat → Int} {l : List Int} (h : InR W g m f) (hl : l.length = m) (e : ∀ i (hi : i < l.length), f i = l[i]) : W.heap[g]? = some (.cells (l.map (Value.int .i64)).toArray 3 (0, 0)) := by
 obtain ⟨c, h1, h2, h3⟩ := h.row
 have : c = (l.map (Value.int .i64)).toArray := by
  apply Array.ext_getElem?
  intro i
  by_cases hi : i < m
  ·rw [h3 i hi]
   show some (Value.int .i64 (f i)) = _;rw [e i (by omega)];simp [List.getElem?_eq_getElem (show i < l.length by omega)]
  ·rw [Array.getElem?_eq_none (by omega), Array.getElem?_eq_none (by simp; omega)]
 rw [h1, this]
theorem mkInts (n : Nat) (hn : n ≤ 1000000) (w : World) : (Instr.makeSlice 22 (.int .i64 (n : Int)) (.int .i64 (n : Int))).run Try.prog w = .ok (.slice (some ⟨w.heap.size, 0, none⟩) n n) (w.alloc (.cells (madeCells #[.int .i64 0] n) 3)) :=
 run_make_row' 22 3 (.int .i64 0) 8 Try.underlying22 infoInt rfl .i64 .i64 n (by omega) (by omega) w
def MvPost (s l : List Nat) (w : World) (e : Ending) (w' : World) : Prop := ∃ g, e = .returned (.slice (some ⟨g, 0, none⟩) l.length l.length) ∧ w.heap.size ≤ g ∧ w'.heap[g]? = some (.cells ((Ma.ofN (mvL s l)).map (Value.int .i64)).toArray 3 (0, 0)) ∧ Below w.heap.size w w'
theorem marksI (w : World) (n : Nat) : (w.alloc (.cells (madeCells #[.int .i64 0] n) 3)).rowIs w.heap.size 3 n (fun _ => .int .i64 0) := World.rowIs_made w (.int .i64 0) n 3
theorem moved_any (lv sv : Value) (l s : List Nat) (w : World) (hl : Rg.NP w lv l) (hs : Rg.NP w sv s) (hb : ∀ x ∈ l, x < s.length) (hn : l.length ≤ 64) :
  Calls Try.prog 89 #[lv, sv] w (MvPost s l w) := by
 obtain ⟨la, lc, rfl, -, -, -, hlx⟩ := hl.shape;obtain ⟨sa, sc, rfl, -, -, -, hsx⟩ := hs.shape;have HLX := ι hlx;have HSX := ι hsx;have HB := ι hb;clear hl hs hlx hsx hb
 go_enter Try.func89, Try.ntmps89
 have hmk := marksI w l.length;have K := ι ((Below.refl w.heap.size w).alloc (Nat.le_refl _) (.cells (madeCells #[.int .i64 0] l.length) 3));go_upto_region 1 with (fail);refine wp_region_list ?_;refine Rg.lr 8 (Rg.xm (.slice la l.length lc) _ rfl rfl) ?_;go_frame;refine Rg.lr 9 (exec_len _ _ _ rfl Try.underlying22 _ _ _ rfl) ?_;go_frame;refine Rg.lr 10 (exec_makeSlice _ _ _ rfl _ _ rfl rfl (mkInts l.length (by omega) w)) ?_;go_frame;refine Rg.lr 5 (Rg.xa (.slice (some ⟨w.heap.size, 0, none⟩) l.length l.length) _ rfl rfl) ?_;go_frame;have IR := ι (InR.mk (W := w.alloc (.cells (madeCells #[.int .i64 0] l.length) 3)) (f := fun j => if j < 0 then ((l.map fun x => ((s.getD x 0 : Nat) : Int)).getD j 0) else 0) (hmk.congr (fun j _ => by simp)) (by simp));generalize w.alloc (.cells (madeCells #[.int .i64 0] l.length) 3) = w1 at *;clear hmk;go_upto_region 2 with (fail);refine wp_region_list ?_;refine Rg.lr 11 (Rg.xm (.slice la l.length lc) _ rfl rfl) ?_;go_frame
 refine Rg.lr 12 (exec_len _ _ _ rfl Try.underlying22 _ _ _ rfl) ?_;go_frame;refine Rg.lr 13 (Rg.xm (.int .i64 ((0 : Nat) : Int)) _ rfl rfl) ?_;go_frame;go_wp2
 go_loopw [13] (fun iv wr => ∃ k : Nat, iv = .int .i64 k ∧ k ≤ l.length ∧ Hid (InR wr w.heap.size l.length (fun j => if j < k then ((l.map fun x => ((s.getD x 0 : Nat) : Int)).getD j 0) else 0)) ∧ Hid (Below w.heap.size w wr)) (fun iv _ => l.length - (intOf iv).toNat)
 case atStart => exact ⟨0, rfl, Nat.zero_le _, IR, K⟩
 case round =>
  clear IR K;obtain ⟨k, rfl, hk, IR, K⟩ := hrel
  by_cases hkl : k < l.length
  case neg =>
   obtain rfl : k = l.length := by omega
   have hkN : ¬ (l.length : Int) < (l.length : Int) := by omega
   have HBK := ι (IR.out.blk (l := Ma.ofN (mvL s l)) (by rw [Ma.len_ofN, len_mvL]) (fun i hi => by
    rw [Ma.len_ofN, len_mvL] at hi;rw [if_pos hi]
    simp [mvL, Ma.ofN, List.getD_eq_getElem?_getD, List.getElem?_eq_getElem hi]))
   go_upto_region 3 with (fail);refine wp_region_list ?_;refine Rg.lr 14 (exec_bin (R := .bool false) .lss _ _ _ rfl rfl rfl (b_lss _ (decide_eq_false hkN))) ?_;go_frame;go_upto_region 7 with (fail);refine wp_region_list ?_;refine Rg.lr 26 (Rg.xm (.slice (some ⟨w.heap.size, 0, none⟩) l.length l.length) _ rfl rfl) ?_;go_frame;refine Rg.lr 4 (Rg.xa (.slice (some ⟨w.heap.size, 0, none⟩) l.length l.length) _ rfl rfl) ?_;go_frame;go_wp2;go_ret;exact ⟨_, rfl, Nat.le_refl _, HBK.out, K.out⟩
  case pos =>
   have hkN : (k : Int) < (l.length : Int) := by omega
   obtain ⟨lb, lo, rfl, hlb, hlx⟩ := HLX.out (by omega);obtain ⟨x, hx⟩ : ∃ x, Hid (l[k] = x) := ⟨_, ι rfl⟩
   have hxs : x < s.length := by rw [← hx.out]; exact HB.out _ (List.getElem_mem hkl)
   obtain ⟨sb, so, rfl, hsb, hsx⟩ := HSX.out (by omega);have C1 := ι (show wr.cell? ⟨lb, lo + k, none⟩ = some (.int .i64 ((x : Nat) : Int)) by rw [← hx.out]; exact (K.out.cell (p := ⟨lb, lo + k, none⟩) hlb).trans (hlx k hkl));have C2 := ι (show wr.cell? ⟨sb, so + x, none⟩ = some (.int .i64 (((s.getD x 0) : Nat) : Int)) by rw [Ma.getD_lt hxs]; exact (K.out.cell (p := ⟨sb, so + x, none⟩) hsb).trans (hsx x hxs));have C3 := ι (IR.out.row.cell hkl);have C3' := ι (show wr.cell? ⟨w.heap.size, 0 + k, none⟩ = some _ by rw [Nat.zero_add]; exact C3.out);have F3 := ι (show wr.frozen? ⟨w.heap.size, 0 + k, none⟩ = false by rw [Nat.zero_add]; exact IR.out.row.frozen k);clear hlx hsx hlb hsb;go_upto_region 3 with (fail);refine wp_region_list ?_;refine Rg.lr 14 (exec_bin (R := .bool true) .lss _ _ _ rfl rfl rfl (b_lss _ (decide_eq_true (by omega)))) ?_;go_frame;go_upto_region 4 with (fail);refine wp_region_list ?_
   refine Rg.lr 15 (Rg.xm (.int .i64 ((k : Nat) : Int)) _ rfl rfl) ?_;go_frame;refine Rg.lr 16 (exec_indexS slInts _ _ rfl lb (lo) (l.length) lc (k) rfl rfl hkl) ?_;go_frame;refine Rg.lr 17 (Rg.exec_load (v := .int .i64 ((x : Nat) : Int)) _ _ rfl ⟨lb, lo + k, none⟩ rfl (run_loadInt C1.out)) ?_;go_frame;refine Rg.lr 6 (Rg.xa (.int .i64 ((k : Nat) : Int)) _ rfl rfl) ?_;go_frame;refine Rg.lr 7 (Rg.xa (.int .i64 ((x : Nat) : Int)) _ rfl rfl) ?_;go_frame;go_upto_region 5 with (fail);refine wp_region_list ?_;refine Rg.lr 18 (Rg.xm (.slice (some ⟨w.heap.size, 0, none⟩) l.length l.length) _ rfl rfl) ?_;go_frame;refine Rg.lr 19 (Rg.xm (.int .i64 ((k : Nat) : Int)) _ rfl rfl) ?_;go_frame;refine Rg.lr 20 (Rg.xm (.slice (some ⟨sb, so, none⟩) s.length sc) _ rfl rfl) ?_;go_frame;refine Rg.lr 21 (Rg.xm (.int .i64 ((x : Nat) : Int)) _ rfl rfl) ?_;go_frame;refine Rg.lr 22 (exec_indexS slPerm _ _ rfl sb (so) (s.length) sc (x) rfl rfl hxs) ?_;go_frame
   refine Rg.lr 23 (Rg.exec_load (v := .int .i64 (((s.getD x 0) : Nat) : Int)) _ _ rfl ⟨sb, so + x, none⟩ rfl (run_loadInt C2.out)) ?_;go_frame;refine Rg.lr 24 (exec_indexS slInts _ _ rfl w.heap.size (0) (l.length) l.length (k) rfl rfl hkl) ?_;go_frame;refine Rg.list_skip none rfl rfl (Rg.exec_store _ _ _ rfl _ rfl _ rfl (run_storeInt _ C3'.out F3.out)) ?_;go_frame;go_upto_region 6 with (fail);refine wp_region_list ?_;refine Rg.lr 25 (exec_bin (R := .int .i64 (((k + 1) : Nat) : Int)) .add _ _ _ rfl rfl rfl (b_add _ (by omega) (by omega))) ?_;go_frame;refine Rg.lr 13 (Rg.xm (.int .i64 (((k + 1) : Nat) : Int)) _ rfl rfl) ?_;go_frame
   have hir : InR (wr.setCell ⟨w.heap.size, 0 + k, none⟩ (.int .i64 (((s.getD x 0) : Nat) : Int))) w.heap.size l.length (fun j => if j < k + 1 then ((l.map fun x => ((s.getD x 0 : Nat) : Int)).getD j 0) else 0) := by
    rw [Nat.zero_add];have h := IR.out.set k (((s.getD x 0) : Nat) : Int);refine ⟨h.row.congr (fun j hj => ?_), h.lt⟩
    by_cases e : j = k
    ·subst e
     rw [if_pos rfl, if_pos (Nat.lt_succ_self _)];simp [List.getD_eq_getElem?_getD, List.getElem?_eq_getElem hkl, hx.out]
    ·rw [if_neg e]
     by_cases e2 : j < k
     ·rw [if_pos e2, if_pos (by omega)]
     ·rw [if_neg e2, if_neg (by omega)]
   have hkb := K.out.setCell (p := ⟨w.heap.size, 0 + k, none⟩) (Nat.le_refl _) (.int .i64 (((s.getD x 0) : Nat) : Int));generalize wr.setCell ⟨w.heap.size, 0 + k, none⟩ (.int .i64 (((s.getD x 0) : Nat) : Int)) = w9 at *;have HIR := ι hir;have HKB := ι hkb;clear hir hkb;go_wp2
   go_roundw
   case rel => exact ⟨k + 1, by go_num, hkl, HIR, HKB⟩
   case measure => simp [intOf]; omega
def srt (l : List Nat) : List Nat := (asc (Ma.ofN l)).map Int.toNat
theorem srt_ofN (l : List Nat) : Ma.ofN (srt l) = asc (Ma.ofN l) := by
 have hm : ∀ x ∈ asc (Ma.ofN l), 0 ≤ x := fun x hx => by
  have := (asc_mem (Ma.ofN l) x).1 hx;obtain ⟨y, _, rfl⟩ := List.mem_map.1 (show x ∈ l.map (fun z : Nat => (z : Int)) from this);omega
 unfold srt Ma.ofN;rw [List.map_map]
 conv => rhs; rw [← List.map_id (asc _)]
 exact List.map_congr_left fun x hx => by simp [Int.toNat_of_nonneg (hm x hx)]
theorem len_srt (l : List Nat) : (srt l).length = l.length := by
 have := congrArg List.length (srt_ofN l)
 rwa [Ma.len_ofN, asc_length, Ma.len_ofN] at this
def ActPost (x : List Nat) (w : World) (e : Ending) (w' : World) : Prop := ∃ a c, e = .returned (.slice a x.length c) ∧ Rg.FI (fun z => w.heap.size ≤ z ∧ z < w'.heap.size) w' (.slice a x.length c) (Ma.ofN x) ∧ Below w.heap.size w w'
theorem fi_blk {w w' : World} {g c : Nat} {x : List Nat} {cur : Array Value} (hg : w.heap.size ≤ g) (h : w'.heap[g]? = some (.cells cur 3 (0, 0))) (hc : x.length ≤ c) (hm : c ≤ maxLen) (hl : x.length ≤ 1000000) (he : cur.toList.take x.length = (Ma.ofN x).map (Value.int .i64)) :
  Rg.FI (fun z => w.heap.size ≤ z ∧ z < w'.heap.size) w' (.slice (some ⟨g, 0, none⟩) x.length c) (Ma.ofN x) := by
 refine ⟨_, c, by simp [Ma.len_ofN], by simpa [Ma.len_ofN] using hc, hm, by simp [Ma.len_ofN]; omega, fun _ => ⟨g, 0, rfl, (Array.getElem?_eq_some_iff.1 h).1, ⟨hg, (Array.getElem?_eq_some_iff.1 h).1⟩, fun i hi => ?_⟩⟩
 have hi2 : i < x.length := by simpa [Ma.len_ofN] using hi
 rw [Nat.zero_add, cell_of_row _ _ _ _ _ _ h, ← Array.getElem?_toList];have := congrArg (fun l => l[i]?) he;rw [List.getElem?_take_of_lt hi2] at this;rw [this, List.getElem?_eq_getElem hi]
theorem movedAct_any (lv sv : Value) (l s : List Nat) (w : World) (hl : Rg.NP w lv l) (hs : Rg.NP w sv s) (hb : ∀ x ∈ l, x < s.length) (hn : l.length ≤ 64) :
  Calls Try.prog 89 #[lv, sv] w (ActPost (mvL s l) w) :=
 (moved_any lv sv l s w hl hs hb hn).mono fun e w' ⟨g, h1, h2, h3, h4⟩ => by
  have e1 : l.length = (mvL s l).length := (len_mvL s l).symm;rw [e1] at h1;exact ⟨_, _, h1, fi_blk h2 h3 (Nat.le_refl _) (by rw [len_mvL]; unfold maxLen; omega) (by rw [len_mvL]; omega) (by rw [List.take_of_length_le]; simp [Ma.len_ofN]), h4⟩
theorem sortW {w w1 : World} {g1 : Nat} {zs : List Nat} {vs : Array Value} (hc : Calls Try.prog 90 vs w1 fun e w' => e = .returned (.tuple #[]) ∧ ∃ n os, w' = Go.Sort.grow (Go.Sort.putRow (Value.int .i64) (Go.Sort.ahead w1 n) g1 0 ((Ma.ofN zs).mergeSort fun x y => decide (x ≤ y)).toArray) os)
  (h : w1.heap[g1]? = some (.cells ((Ma.ofN zs).map (Value.int .i64)).toArray 3 (0, 0))) (hg : w.heap.size ≤ g1) (hb : Below w.heap.size w w1) :
  Calls Try.prog 90 vs w1 fun e w' => e = .returned (.tuple #[]) ∧ (∃ cur, w'.heap[g1]? = some (.cells cur 3 (0, 0)) ∧ cur.size = zs.length ∧ cur.toList.take zs.length = (Ma.ofN (srt zs)).map (Value.int .i64)) ∧ Below w.heap.size w w' := by
 refine hc.mono ?_;rintro e w' ⟨rfl, N, os, rfl⟩;have e1 : ((Ma.ofN zs).mergeSort fun x y => decide (x ≤ y)) = asc (Ma.ofN zs) := (asc_sort _).symm;rw [e1]
 refine ⟨rfl, ?_, hb.grown (grownBy_sortedI _) hb.size (fun k e => by injection e with e; omega)⟩
 have hl : (asc (Ma.ofN zs)).length = zs.length := by rw [asc_length, Ma.len_ofN]
 refine ⟨_, heap_sortedI _ h, by simp [Go.Sort.putCells, Ma.len_ofN], ?_⟩;rw [srt_ofN];have := take_putCellsI ((Ma.ofN zs).map (Value.int .i64)).toArray (asc (Ma.ofN zs)) (by simp [hl, Ma.len_ofN])
 rwa [hl] at this
theorem setsAct_any (lv sv : Value) (l s : List Nat) (w : World) (hl : Rg.NP w lv l) (hs : Rg.NP w sv s) (hb : ∀ x ∈ l, x < s.length) (hn : l.length ≤ 64) :
  Calls Try.prog 88 #[lv, sv] w (ActPost (srt (mvL s l)) w) := by
 obtain ⟨la, lc, rfl, -⟩ := hl.shape;obtain ⟨sa, sc, rfl, -⟩ := hs.shape;have HM := ι (moved_any _ _ l s w hl hs hb hn);clear hl hs hb
 go_enter Try.func88, Try.ntmps88
 go_upto_region 0 with (fail);refine wp_region_list ?_;refine Rg.lr 4 (Rg.xa (.slice none 0 0) _ rfl rfl) ?_;go_frame;go_upto_region 1 with (fail);refine wp_region_list ?_;refine Rg.lr 6 (Rg.xm (.slice la l.length lc) _ rfl rfl) ?_;go_frame;refine Rg.lr 7 (Rg.xm (.slice sa s.length sc) _ rfl rfl) ?_;go_frame;refine list_ask (some 8) rfl rfl _ _ (exec_fn 89 _ _ _ rfl rfl rfl (Fdcl0 _ _)) ?_;refine (HM.out).mono ?_;rintro e1 w1 ⟨g1, rfl, hg1, hg2, hb⟩;have HG1 := ι hg1;have HG2 := ι hg2;have K := ι hb;clear hg1 hg2;refine ⟨_, rfl, ?_⟩;go_frame;clear hb;refine Rg.lr 5 (Rg.xa (.slice (some ⟨g1, 0, none⟩) l.length l.length) _ rfl rfl) ?_;go_frame
 have hlm : (Ma.ofN (mvL s l)).length = l.length := by rw [Ma.len_ofN, len_mvL]
 have HS := ι (Try.slices_Sort_int g1 0 l.length (Ma.ofN (mvL s l)) w1 (holds_of_blockI (ss := Ma.ofN (mvL s l)) HG2.out (by simp [List.take_of_length_le])) (Array.getElem?_eq_some_iff.1 HG2.out).1 (by omega));rw [hlm] at HS;clear hlm;go_upto_region 2 with (fail);refine wp_region_list ?_;refine Rg.lr 9 (Rg.xm (.slice (some ⟨g1, 0, none⟩) l.length l.length) _ rfl rfl) ?_;go_frame;refine list_ask (some 10) rfl rfl _ _ (exec_fn1 90 _ _ rfl rfl (ozcl1 _ _)) ?_;refine ((sortW HS.out HG2.out HG1.out K.out)).mono ?_;rintro e1 w2 ⟨rfl, hs2, hb⟩;have HS2 := ι hs2;have K2 := ι hb;clear hs2;refine ⟨_, rfl, ?_⟩;go_frame;clear hb;go_upto_region 3 with (fail);refine wp_region_list ?_;refine Rg.lr 11 (Rg.xm (.slice (some ⟨g1, 0, none⟩) l.length l.length) _ rfl rfl) ?_;go_frame;refine Rg.lr 4 (Rg.xa (.slice (some ⟨g1, 0, none⟩) l.length l.length) _ rfl rfl) ?_;go_frame;go_wp2;go_ret
 have e1 : l.length = (srt (mvL s l)).length := by rw [len_srt, len_mvL]
 obtain ⟨cur, q1, q2, q3⟩ := HS2.out;refine ⟨some ⟨g1, 0, none⟩, l.length, by rw [← e1]; rfl, ?_, K2.out⟩;have := fi_blk (w := w) (g := g1) (c := l.length) (x := srt (mvL s l)) HG1.out q1 (by rw [← e1]; exact Nat.le_refl _) (by unfold maxLen; omega) (by rw [← e1]; omega) (by rw [len_srt]; exact q3);exact this
end Go.Proofs.Ytcfomoknlchemaa

namespace Go.Proofs
open Go.Shelf
def Try.laysSlF6_f114_ren : Go.Shelf.Ren := ⟨fun | 6 => 114 | 15 => 146 | 14 => 166 | 28 => 183 | 29 => 184 | 20 => 187 | 21 => 188 | 22 => 189 | 23 => 190 | 24 => 191 | 25 => 192 | 26 => 193 | 27 => 194 | 46 => 202 | 47 => 198 | 48 => 199 | 49 => 203 | 50 => 204 | 57 => 206 | n => n, fun | 22 => 29 | 24 => 22 | 25 => 142 | 3 => 3 | 39 => 179 | 0 => 0 | 53 => 209 | 55 => 211 | 4 => 4 | 46 => 204 | 45 => 203 | 50 => 98 | 5 => 5 | 9 => 9 | 66 => 219 | 70 => 223 | 76 => 227 | 77 => 228 | n => n, fun | n => n⟩
theorem Try.laysSlF6_f114 : Go.Proofs.SlLaysF.n6 Try.prog Try.laysSlF6_f114_ren := {
 mixed := by kernel_rfl
 f6 := ⟨Try.f114.name, by decide, Try.func114.trans (congrArg some (by kernel_rfl))⟩
 f14 := ⟨Try.f166.name, by decide, Try.func166.trans (congrArg some (by kernel_rfl))⟩
 f15 := Try.func146.trans (congrArg some (by kernel_rfl))
 f20 := ⟨Try.f187.name, by decide, Try.func187.trans (congrArg some (by kernel_rfl))⟩
 f21 := ⟨Try.f188.name, by decide, Try.func188.trans (congrArg some (by kernel_rfl))⟩
 f22 := ⟨Try.f189.name, by decide, Try.func189.trans (congrArg some (by kernel_rfl))⟩
 f23 := ⟨Try.f190.name, by decide, Try.func190.trans (congrArg some (by kernel_rfl))⟩
 f24 := ⟨Try.f191.name, by decide, Try.func191.trans (congrArg some (by kernel_rfl))⟩
 f25 := ⟨Try.f192.name, by decide, Try.func192.trans (congrArg some (by kernel_rfl))⟩
 f26 := ⟨Try.f193.name, by decide, Try.func193.trans (congrArg some (by kernel_rfl))⟩
 f27 := ⟨Try.f194.name, by decide, Try.func194.trans (congrArg some (by kernel_rfl))⟩
 f28 := Try.func183.trans (congrArg some (by kernel_rfl))
 f29 := Try.func184.trans (congrArg some (by kernel_rfl))
 f46 := ⟨Try.f202.name, by decide, Try.func202.trans (congrArg some (by kernel_rfl))⟩
 f47 := Try.func198.trans (congrArg some (by kernel_rfl))
 f48 := Try.func199.trans (congrArg some (by kernel_rfl))
 f49 := ⟨Try.f203.name, by decide, Try.func203.trans (congrArg some (by kernel_rfl))⟩
 f50 := ⟨Try.f204.name, by decide, Try.func204.trans (congrArg some (by kernel_rfl))⟩
 f57 := ⟨Try.f206.name, by decide, Try.func206.trans (congrArg some (by kernel_rfl))⟩
 t0 := Try.underlying0
 a0 := Try.isAgg0
 z0 := Try.sizeOf0
 v0 := Try.zeroValue0
 t3 := Try.underlying3
 a3 := Try.isAgg3
 z3 := Try.sizeOf3
 v3 := Try.zeroValue3
 t4 := Try.underlying4
 a4 := Try.isAgg4
 z4 := Try.sizeOf4
 v4 := Try.zeroValue4
 t5 := Try.underlying5
 a5 := Try.isAgg5
 z5 := Try.sizeOf5
 v5 := Try.zeroValue5
 t9 := Try.underlying9
 a9 := Try.isAgg9
 z9 := Try.sizeOf9
 v9 := Try.zeroValue9
 t22 := Try.underlying29
 a22 := Try.isAgg29
 z22 := Try.sizeOf29
 v22 := Try.zeroValue29
 a24 := Try.isAgg22
 z24 := Try.sizeOf22
 t25 := Try.underlying142
 a25 := Try.isAgg142
 z25 := Try.sizeOf142
 v25 := Try.zeroValue142
 t39 := Try.underlying179
 a39 := Try.isAgg179
 z39 := Try.sizeOf179
 v39 := Try.zeroValue179
 t45 := Try.underlying203
 a45 := Try.isAgg203
 z45 := Try.sizeOf203
 v45 := Try.zeroValue203
 t46 := Try.underlying204
 a46 := Try.isAgg204
 z46 := Try.sizeOf204
 v46 := Try.zeroValue204
 t50 := Try.underlying98
 a50 := Try.isAgg98
 z50 := Try.sizeOf98
 v50 := Try.zeroValue98
 t53 := Try.underlying209
 a53 := Try.isAgg209
 z53 := Try.sizeOf209
 v53 := Try.zeroValue209
 t55 := Try.underlying211
 a55 := Try.isAgg211
 z55 := Try.sizeOf211
 v55 := Try.zeroValue211
 t66 := Try.underlying219
 a66 := Try.isAgg219
 z66 := Try.sizeOf219
 v66 := Try.zeroValue219
 t70 := Try.underlying223
 a70 := Try.isAgg223
 z70 := Try.sizeOf223
 v70 := Try.zeroValue223
 t76 := Try.underlying227
 a76 := Try.isAgg227
 z76 := Try.sizeOf227
 v76 := Try.zeroValue227
 t77 := Try.underlying228
 a77 := Try.isAgg228
 z77 := Try.sizeOf228
 v77 := Try.zeroValue228 }
open Go.RowKit Go.Lib Go.Sort in
theorem Try.slices_SortFunc {α : Type} [Inhabited α] (enc : α → Value) (h1 : OneCell enc) (cf : α → α → Int) (hO : SWO (ltOf cf)) (g : Nat) (cb : Array Value) (blk off cap : Nat) (d : Array α) (w : World) (eg : ∀ args w, (callFunc g args).run Try.prog w = .ok (.enter g args) w) (hcmp : CmpLays1 Try.prog g cb enc cf blk off d.size w) (hH : Holds enc w blk off d) (hblk : blk < w.heap.size) (hsz : d.size < 4611686018427387904) :
  Calls Try.prog 114 #[.slice (some ⟨blk, off, none⟩) d.size cap, .func (.func g) #[] cb] w fun e w' =>
   e = .returned (.tuple #[]) ∧ ∃ d' n os, PermIn 0 d.size d d' ∧ SortedIn (ltOf cf) 0 d.size d' ∧ w' = sortWorld enc w blk off n d' os := Any.slices_SortFunc Try.laysSlF6_f114 enc h1 cf hO g cb blk off cap d w eg hcmp hH hblk hsz
end Go.Proofs
