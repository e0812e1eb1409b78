/- Lemmas and contracts on the way to the statement; no condition of their own beyond those written. -/
import Derived.Test.YtcfomoknlchemaaXEatoFp
import Derived.Deep.MidRow
import Derived.Deep.WholeRow
import Derived.Laws.CopyOwn
import Derived.RangeFuncWrites
import Derived.RangeFuncNested
import Derived.RangeFuncBox
import Derived.RangeFuncLeaves
import Derived.Shelf.Abstract
import Derived.OwnWalkIn
import Derived.TacticsInMore
import Derived.LoopNIn
import Derived.LoopIn
import Derived.Maps.AppendAt
import Derived.Sort.CutIn
import Derived.Deep.CutRange
import Derived.Deep.CutBlock
import Derived.IntWalk
import Derived.Great.BuildSlice
import Derived.ArgAppend
import Derived.StillTailTactics
import Derived.WalkSpells
import Derived.WalkLawsBesides
import Derived.OwnWalk
import Derived.OrdersHeld
import Derived.Deep.OwnRows
import Derived.WalkKit
import Derived.Lib.Hide
import Derived.Laws.OwnMore
import Derived.Test.YtcfomoknlchemaaProg
import Derived.Outline
import Derived.Deep.DeepFit
import Derived.BigQuiet
import Derived.Deep.QuietTactic
import Derived.Sort.OwnSortedInts
import Derived.WideMake
import Derived.MapKept
import Derived.ChangeMaps5
import Derived.Shelf.Sort.Plain
import Derived.Lib.ConvBytes
import Derived.ChangeKeysEq
import Derived.Laws.Cells
import Derived.Laws.Rows
import Derived.Laws.Tables
import Derived.OrdersIn
import Derived.TacticsIn
import Derived.Deep.LoopGhost
import Derived.Lib.SlicesSearch
import Derived.Stop.BytesEq
import Derived.Shelf.SlSortCmp.Whole1
import Derived.Ground.SlsfProg
import Derived.Lib.SmallJoins
import Derived.Deep.Matrix
set_option linter.unusedVariables false
set_option linter.unusedSimpArgs false
set_option maxRecDepth 100000
set_option maxHeartbeats 8000000
namespace Go.Proofs.Ytcfomoknlchemaa
open Go.RowKit
open Go.Proofs
open Go.Proofs.Ob
open Go.Proofs.Cm (Gd)
attribute [local irreducible] Go.Calls Go.wpList
theorem Fqcl1 (args : Array Value) (w : World) : (callFunc 44 args).run Try.prog w = .ok (.enter 44 args) w := by kernel_rfl
theorem Fqcl3 (args : Array Value) (w : World) : (callFunc 46 args).run Try.prog w = .ok (.enter 46 args) w := by kernel_rfl
theorem Fqcl5 (args : Array Value) (w : World) : (callFunc 41 args).run Try.prog w = .ok (.enter 41 args) w := by kernel_rfl
theorem Fqcl7 (args : Array Value) (w : World) : (callFunc 37 args).run Try.prog w = .ok (.enter 37 args) w := by kernel_rfl
theorem Fqcl8 (args : Array Value) (w : World) : (callFunc 39 args).run Try.prog w = .ok (.enter 39 args) w := by kernel_rfl
theorem Fqcl10 (args : Array Value) (w : World) : (callFunc 35 args).run Try.prog w = .ok (.enter 35 args) w := by kernel_rfl
theorem run_buildK2 (X : World) (u0 u1 : Value) (h0 : ∃ a n c, u0 = .slice a n c) (h1 : ∃ a n c, u1 = .slice a n c) : (Instr.buildSlice 29 2 #[(0, u0), (1, u1)]).run Try.prog X = .ok (.slice (some ⟨X.heap.size, 0, none⟩) 2 2) (X.alloc (.cells #[u0, u1] 22)) := by
 obtain ⟨i0, hi, hz0, hz1, hz2⟩ := info_parts infoInts;obtain ⟨_, _, _, rfl⟩ := h0;obtain ⟨_, _, _, rfl⟩ := h1;refine run_buildSlice X 29 22 2 _ _ i0 _ Try.underlying29 hi hz0 (by rw [hz1]; decide) (by rw [hz1]; decide) ?_;generalize (fun x => ((Value.slice none 0 0).cells)[x % (Value.slice none 0 0).cells.size]!) = f;rw [hz1];have h1 : Array.range (2 * 1) = #[0, 1] := rfl;simp [Instr.fill, Value.cells, h1]
theorem exec_buildK2 {o : Oper} {a : Act} {w w' : World} {v u0 u1 : Value} (x0 x1 : Operand) (ho : o.op = .buildSlice 29 2 #[(0, x0), (1, x1)]) (h0 : a.eval x0 = u0) (h1 : a.eval x1 = u1)
  (hr : (Instr.buildSlice 29 2 #[(0, u0), (1, u1)]).run Try.prog w = .ok v w') : (execOp a.eval o).run Try.prog w = .ok (.value v) w' := by
 subst h0 h1;unfold execOp;simp only [ho, Sem.run_bind, Sem.run_pure];simp only [List.map_toArray, List.map_cons, List.map_nil];rw [hr];rfl
theorem run_buildK6 (X : World) (u0 u1 u2 u3 u4 u5 : Value) (h0 : ∃ a n c, u0 = .slice a n c) (h1 : ∃ a n c, u1 = .slice a n c) (h2 : ∃ a n c, u2 = .slice a n c) (h3 : ∃ a n c, u3 = .slice a n c) (h4 : ∃ a n c, u4 = .slice a n c) (h5 : ∃ a n c, u5 = .slice a n c) : (Instr.buildSlice 29 6 #[(0, u0), (1, u1), (2, u2), (3, u3), (4, u4), (5, u5)]).run Try.prog X = .ok (.slice (some ⟨X.heap.size, 0, none⟩) 6 6) (X.alloc (.cells #[u0, u1, u2, u3, u4, u5] 22)) := by
 obtain ⟨i0, hi, hz0, hz1, hz2⟩ := info_parts infoInts;obtain ⟨_, _, _, rfl⟩ := h0;obtain ⟨_, _, _, rfl⟩ := h1;obtain ⟨_, _, _, rfl⟩ := h2;obtain ⟨_, _, _, rfl⟩ := h3;obtain ⟨_, _, _, rfl⟩ := h4;obtain ⟨_, _, _, rfl⟩ := h5;refine run_buildSlice X 29 22 6 _ _ i0 _ Try.underlying29 hi hz0 (by rw [hz1]; decide) (by rw [hz1]; decide) ?_;generalize (fun x => ((Value.slice none 0 0).cells)[x % (Value.slice none 0 0).cells.size]!) = f;rw [hz1];have h1 : Array.range (6 * 1) = #[0, 1, 2, 3, 4, 5] := rfl;simp [Instr.fill, Value.cells, h1]
theorem exec_buildK6 {o : Oper} {a : Act} {w w' : World} {v u0 u1 u2 u3 u4 u5 : Value} (x0 x1 x2 x3 x4 x5 : Operand) (ho : o.op = .buildSlice 29 6 #[(0, x0), (1, x1), (2, x2), (3, x3), (4, x4), (5, x5)]) (h0 : a.eval x0 = u0) (h1 : a.eval x1 = u1) (h2 : a.eval x2 = u2) (h3 : a.eval x3 = u3) (h4 : a.eval x4 = u4) (h5 : a.eval x5 = u5)
  (hr : (Instr.buildSlice 29 6 #[(0, u0), (1, u1), (2, u2), (3, u3), (4, u4), (5, u5)]).run Try.prog w = .ok v w') : (execOp a.eval o).run Try.prog w = .ok (.value v) w' := by
 subst h0 h1 h2 h3 h4 h5;unfold execOp;simp only [ho, Sem.run_bind, Sem.run_pure];simp only [List.map_toArray, List.map_cons, List.map_nil];rw [hr];rfl
theorem exec_buildGz {o : Oper} {a : Act} {w : World} (ho : o.op = .build 26 #[]) : (execOp a.eval o).run Try.prog w = .ok (.value (.agg #[.int .i64 0, .slice none 0 0])) w := by
 unfold execOp;simp only [ho, Sem.run_bind, Sem.run_pure];simp only [List.map_toArray, List.map_nil]
 have h : (Instr.build 26 #[]).run Try.prog w = .ok (.agg #[.int .i64 0, .slice none 0 0]) w := by kernel_rfl
 first | (rw [h]; rfl) | (erw [h]; rfl)
def gEx : List (List Nat) := [[1, 2, 0, 3, 4], [0, 1, 2, 4, 3]]
theorem kn_orbs : orbsS ((5 : Nat) : Int) (gEx.map Ma.ofN) = ([[0, 1, 2], [3, 4]], 0) := by decide +kernel
theorem kn_orb5 : orbS ((5 : Nat) : Int) (gEx.map Ma.ofN) 5 = ([], 2) := by decide +kernel
theorem kn_tree : treeR ((5 : Nat) : Int) (gEx.map Ma.ofN) 0 = ([0, 1, 2], [-1, 0, 1], [0, 1, 1]) := by decide +kernel
theorem kn_pt : ptE ((5 : Nat) : Int) (gEx.map Ma.ofN) 0 = 0 := by decide +kernel
theorem kn_p00 : pathS ((5 : Nat) : Int) (gEx.map Ma.ofN) 0 0 = ([], 0) := by decide +kernel
theorem kn_p03 : pathS ((5 : Nat) : Int) (gEx.map Ma.ofN) 0 3 = ([], 18) := by decide +kernel
theorem rch_word {C : List Nat → List Nat → List Nat} {gs : List (List Nat)} {s : List Nat} : ∀ (ks : List Nat) (x : List Nat), RchA C gs s x → (∀ k ∈ ks, k < gs.length) → RchA C gs s (ks.foldl (fun y k => C (gs.getD k []) y) x)
 | [], x, h, _ => h
 | k :: ks, x, h, hk => by
  have hk0 := hk k (by simp);refine rch_word ks _ (.step ?_ h) (fun j hj => hk j (List.mem_cons_of_mem _ hj));rw [List.getD_eq_getElem?_getD, List.getElem?_eq_getElem hk0];exact List.getElem_mem hk0
theorem allS_of {C : List Nat → List Nat → List Nat} {gs : List (List Nat)} {s : List Nat} (W : List (List Nat)) {U : List (List Nat)} (hU : W.map (fun ks => ks.foldl (fun y k => C (gs.getD k []) y) s) = U) (hW : ∀ ks ∈ W, ∀ k ∈ ks, k < gs.length) (hn : U.Nodup) (hs : s ∈ U) (hc : ∀ x ∈ U, ∀ g ∈ gs, C g x ∈ U) : AllS C gs s U :=
 ⟨hn, fun x => ⟨fun hx => by
  rw [← hU] at hx;obtain ⟨ks, hk, rfl⟩ := List.mem_map.1 hx
  exact rch_word ks s .base (hW ks hk), fun hr => by
  induction hr with
  | base => exact hs
  | step hg _ ih => exact hc _ ih _ hg⟩⟩
theorem kn_set : ImIs true ((5 : Nat) : Int) (gEx.map Ma.ofN) [0, 3] [[0, 3], [0, 4], [1, 3], [1, 4], [2, 3], [2, 4]] 0 :=
 .inr (.inr ⟨by decide +kernel, fun _ => (show ∀ j (h : j < 2), 1 ≤ j → ([0, 3] : List Int)[j - 1]'(by show j - 1 < 2; omega) < ([0, 3] : List Int)[j] by decide), gEx, [0, 3], rfl, rfl, .inr (.inr ⟨by decide, rfl, [[0, 3], [0, 4], [1, 3], [1, 4], [2, 3], [2, 4]], by decide,
  allS_of [[], [1], [0], [0, 1], [0, 0], [0, 0, 1]] (by decide +kernel) (by decide) (by decide) (by decide) (by decide +kernel), by decide, (show List.Pairwise _ _ by decide +kernel)⟩)⟩)
theorem kn_setO : ImIs true ((5 : Nat) : Int) (gEx.map Ma.ofN) [3, 0] [] 9 :=
 .inr (.inl ⟨by decide +kernel, rfl, fun h => absurd (h 1 (by decide) (by decide)) (by decide), rfl, rfl⟩)
theorem kn_tup : ImIs false ((5 : Nat) : Int) (gEx.map Ma.ofN) [3, 3] [[3, 3], [4, 4]] 0 :=
 .inr (.inr ⟨by decide +kernel, (fun h => by cases h), gEx, [3, 3], rfl, rfl, .inr (.inr ⟨by decide, rfl, [[3, 3], [4, 4]], by decide,
  allS_of [[], [1]] (by decide +kernel) (by decide) (by decide) (by decide) (by decide +kernel), by decide, (show List.Pairwise _ _ by decide +kernel)⟩)⟩)
theorem mk17 (w : World) : (Instr.makeSlice 24 (.int .i64 17) (.int .i64 17)).run Try.prog w = .ok (.slice (some ⟨w.heap.size, 0, none⟩) 17 17) (w.alloc (.cells (madeCells #[.slice none 0 0] 17) 39)) :=
 run_make_row' 24 39 (.slice none 0 0) 24 Try.underlying24 infoPerm rfl .i64 .i64 17 (by omega) (by omega) w
theorem rows17 (w : World) : Rg.Rows (w.alloc (.cells (madeCells #[.slice none 0 0] 17) 39)) (.slice (some ⟨w.heap.size, 0, none⟩) 17 17) (List.replicate 17 []) := by
 have e : madeCells #[.slice none 0 0] 17 = (List.replicate 17 (Value.slice none 0 0)).toArray := by kernel_rfl
 rw [e]
 exact (rowsF_new (B := 0) (w := w) 39 (List.replicate 17 (Value.slice none 0 0)) (List.replicate 17 []) (by simp) (by simp) (by
  intro i h h2;rw [List.getElem_replicate, List.getElem_replicate]
  exact ⟨Rg.Ints.nil _ none 0 (Nat.zero_le _), fun _ _ _ _ => Nat.zero_le _⟩) (Nat.zero_le _)).rows
theorem OrbitKnown_any (w : World) : Calls Try.prog 7 #[] w fun e w' => e = .returned (.bool true) ∧ Below w.heap.size w w' := by
 have K := ι (Below.refl w.heap.size w)
 go_enter Try.func7, Try.ntmps7
 go_upto_region 1 with (fail);refine wp_region_list ?_;refine list_ask (some 23) rfl rfl _ _ (exec_fn0 43 _ rfl (vbcl0 _ _)) ?_;refine (example_g w).mono ?_;rintro e1 w1 ⟨ga, gc, rfl, hg, hb⟩;have HG0 := ι hg;clear hg;refine ⟨_, rfl, ?_⟩;go_frame;replace K := ι (Rg.acc K.out hb);clear hb;obtain ⟨W2, hst, hga, hb⟩ := GA.fresh (D := 5) (gs := gEx) HG0.out;refine Rg.lr 1 (exec_allocG rfl) ?_;go_frame;clear HG0;refine Rg.list_skip none rfl rfl (Rg.exec_store _ _ _ rfl _ rfl _ rfl hst) ?_;go_frame;clear hst;replace K := ι (Rg.acc K.out hb);clear hb;have G1 := ι hga;clear hga;go_upto_region 2 with (fail);refine wp_region_list ?_;refine Rg.lr 25 (Rg.exec_load (v := .agg #[.int .i64 ((5 : Nat) : Int), .slice ga 2 gc]) _ _ rfl ⟨w1.heap.size, 0, none⟩ rfl (run_loadG G1.out.c0 G1.out.c1)) ?_;go_frame;refine list_ask (some 26) rfl rfl _ _ (exec_fn1 44 _ _ rfl rfl (Fqcl1 _ _)) ?_;refine (Orbits_any _ ((5 : Nat) : Int) (gEx.map Ma.ofN) W2 G1.out.rows).mono ?_
 rintro e1 w2 ⟨v1, rfl, h1, hb⟩;rw [kn_orbs] at h1 ⊢;refine ⟨_, rfl, ?_⟩;go_frame;replace G1 := ι (G1.out.below hb);replace K := ι (Rg.acc K.out hb);clear hb;have O1 := ι h1;refine Rg.lr 24 (Rg.xm (.tuple #[v1, .int .i64 ((0 : Nat) : Int)]) _ rfl rfl) ?_;go_frame;refine Rg.lr 27 (exec_extract (v := v1) _ _ rfl rfl rfl) ?_;go_frame;refine Rg.lr 28 (exec_extract (v := .int .i64 ((0 : Nat) : Int)) _ _ rfl rfl rfl) ?_;go_frame;refine Rg.lr 2 (Rg.xa (v1) _ rfl rfl) ?_;go_frame;refine Rg.lr 3 (Rg.xa (.int .i64 ((0 : Nat) : Int)) _ rfl rfl) ?_;go_frame;go_upto_region 3 with (fail);refine wp_region_list ?_;refine Rg.lr 30 (Rg.exec_load (v := .agg #[.int .i64 ((5 : Nat) : Int), .slice ga 2 gc]) _ _ rfl ⟨w1.heap.size, 0, none⟩ rfl (run_loadG G1.out.c0 G1.out.c1)) ?_;go_frame;refine list_ask (some 31) rfl rfl _ _ (exec_fn 45 _ _ _ rfl rfl rfl (vbcl1 _ _)) ?_;refine (Orbit_any _ ((5 : Nat) : Int) (gEx.map Ma.ofN) 5 w2 G1.out.rows).mono ?_
 rintro e1 w3 ⟨v2, rfl, h2, hb⟩;rw [kn_orb5] at h2 ⊢;refine ⟨_, rfl, ?_⟩;go_frame;replace G1 := ι (G1.out.below hb);replace O1 := ι (O1.out.below hb);replace K := ι (Rg.acc K.out hb);clear hb;have O2 := ι h2;refine Rg.lr 29 (Rg.xm (.tuple #[v2, .int .i64 2]) _ rfl rfl) ?_;go_frame;refine Rg.lr 32 (exec_extract (v := v2) _ _ rfl rfl rfl) ?_;go_frame;refine Rg.lr 33 (exec_extract (v := .int .i64 2) _ _ rfl rfl rfl) ?_;go_frame;refine Rg.lr 4 (Rg.xa (v2) _ rfl rfl) ?_;go_frame;refine Rg.lr 5 (Rg.xa (.int .i64 2) _ rfl rfl) ?_;go_frame;go_upto_region 4 with (fail);refine wp_region_list ?_;refine Rg.lr 35 (Rg.exec_load (v := .agg #[.int .i64 ((5 : Nat) : Int), .slice ga 2 gc]) _ _ rfl ⟨w1.heap.size, 0, none⟩ rfl (run_loadG G1.out.c0 G1.out.c1)) ?_;go_frame;refine list_ask (some 36) rfl rfl _ _ (exec_fn 46 _ _ _ rfl rfl rfl (Fqcl3 _ _)) ?_;refine (Tree_any _ ((5 : Nat) : Int) (gEx.map Ma.ofN) 0 w3 G1.out.rows).mono ?_
 rintro e1 w4 ⟨v3a, v3b, v3c, rfl, h3a, h3b, h3c, hb⟩;rw [kn_tree] at h3a h3b h3c;rw [kn_pt];refine ⟨_, rfl, ?_⟩;go_frame;replace G1 := ι (G1.out.below hb);replace O1 := ι (O1.out.below hb);replace O2 := ι (O2.out.below hb);replace K := ι (Rg.acc K.out hb);clear hb;have O3a := ι h3a;have O3b := ι h3b;have O3c := ι h3c;refine Rg.lr 34 (Rg.xm (.tuple #[v3a, v3b, v3c, .int .i64 ((0 : Nat) : Int)]) _ rfl rfl) ?_;go_frame;refine Rg.lr 37 (exec_extract (v := v3a) _ _ rfl rfl rfl) ?_;go_frame;refine Rg.lr 38 (exec_extract (v := v3b) _ _ rfl rfl rfl) ?_;go_frame;refine Rg.lr 39 (exec_extract (v := v3c) _ _ rfl rfl rfl) ?_;go_frame;refine Rg.lr 40 (exec_extract (v := .int .i64 ((0 : Nat) : Int)) _ _ rfl rfl rfl) ?_;go_frame;refine Rg.lr 6 (Rg.xa (v3a) _ rfl rfl) ?_;go_frame;refine Rg.lr 7 (Rg.xa (v3b) _ rfl rfl) ?_;go_frame;refine Rg.lr 8 (Rg.xa (v3c) _ rfl rfl) ?_;go_frame;refine Rg.lr 9 (Rg.xa (.int .i64 ((0 : Nat) : Int)) _ rfl rfl) ?_;go_frame
 go_upto_region 5 with (fail);refine wp_region_list ?_;refine Rg.lr 42 (Rg.exec_load (v := .agg #[.int .i64 ((5 : Nat) : Int), .slice ga 2 gc]) _ _ rfl ⟨w1.heap.size, 0, none⟩ rfl (run_loadG G1.out.c0 G1.out.c1)) ?_;go_frame;refine list_ask (some 43) rfl rfl _ _ (exec_fn3 47 _ _ _ _ rfl rfl rfl rfl (vbcl2 _ _)) ?_;refine (Path_any _ ((5 : Nat) : Int) (gEx.map Ma.ofN) 0 0 w4 G1.out.rows).mono ?_;rintro e1 w5 ⟨v4, rfl, h4, hb⟩;rw [kn_p00] at h4 ⊢;obtain ⟨p4a, p4c, rfl, -⟩ := h4.shape;refine ⟨_, rfl, ?_⟩;go_frame;replace G1 := ι (G1.out.below hb);replace O1 := ι (O1.out.below hb);replace O2 := ι (O2.out.below hb);replace O3a := ι (O3a.out.below hb);replace O3b := ι (O3b.out.below hb);replace O3c := ι (O3c.out.below hb);replace K := ι (Rg.acc K.out hb);clear hb;have O4 := ι h4;refine Rg.lr 41 (Rg.xm (.tuple #[.slice p4a 0 p4c, .int .i64 ((0 : Nat) : Int)]) _ rfl rfl) ?_;go_frame;refine Rg.lr 44 (exec_extract (v := .slice p4a 0 p4c) _ _ rfl rfl rfl) ?_;go_frame
 refine Rg.lr 45 (exec_extract (v := .int .i64 ((0 : Nat) : Int)) _ _ rfl rfl rfl) ?_;go_frame;refine Rg.lr 10 (Rg.xa (.slice p4a 0 p4c) _ rfl rfl) ?_;go_frame;refine Rg.lr 11 (Rg.xa (.int .i64 ((0 : Nat) : Int)) _ rfl rfl) ?_;go_frame;go_upto_region 6 with (fail);refine wp_region_list ?_;refine Rg.lr 47 (Rg.exec_load (v := .agg #[.int .i64 ((5 : Nat) : Int), .slice ga 2 gc]) _ _ rfl ⟨w1.heap.size, 0, none⟩ rfl (run_loadG G1.out.c0 G1.out.c1)) ?_;go_frame;refine list_ask (some 48) rfl rfl _ _ (exec_fn3 47 _ _ _ _ rfl rfl rfl rfl (vbcl2 _ _)) ?_;refine (Path_any _ ((5 : Nat) : Int) (gEx.map Ma.ofN) 0 3 w5 G1.out.rows).mono ?_;rintro e1 w6 ⟨v5, rfl, h5, hb⟩;rw [kn_p03] at h5 ⊢;refine ⟨_, rfl, ?_⟩;go_frame;replace G1 := ι (G1.out.below hb);replace O1 := ι (O1.out.below hb);replace O2 := ι (O2.out.below hb);replace O3a := ι (O3a.out.below hb);replace O3b := ι (O3b.out.below hb);replace O3c := ι (O3c.out.below hb)
 replace O4 := ι (O4.out.below hb);replace K := ι (Rg.acc K.out hb);clear hb;have O5 := ι h5;refine Rg.lr 46 (Rg.xm (.tuple #[v5, .int .i64 18]) _ rfl rfl) ?_;go_frame;refine Rg.lr 49 (exec_extract (v := v5) _ _ rfl rfl rfl) ?_;go_frame;refine Rg.lr 50 (exec_extract (v := .int .i64 18) _ _ rfl rfl rfl) ?_;go_frame;refine Rg.lr 12 (Rg.xa (v5) _ rfl rfl) ?_;go_frame;refine Rg.lr 13 (Rg.xa (.int .i64 18) _ rfl rfl) ?_;go_frame;clear h1 h2 h3a h3b h3c h4 h5;go_upto_region 7 with (fail);refine wp_region_list ?_;refine Rg.lr 51 (Rg.xm (.int .i64 ((0 : Nat) : Int)) _ rfl rfl) ?_;go_frame;refine Rg.lr 52 (exec_eqI _ _ rfl rfl rfl rfl) ?_;go_frame;refine Rg.lr 53 (Rg.xm (.bool true) _ rfl rfl) ?_;go_frame;refine listW_run (some 54) rfl rfl (Rg.xm (v1) _ rfl rfl) ?_;go_frame;have hnew := ints_new w6 3 [0, 1, 2] (by decide);refine listW_run (some 55) rfl rfl (exec_flat _ _ 3 _ rfl [0, 1, 2] Try.underlying22 szInt zInt rfl (by decide) (by decide) rfl) ?_;go_frame
 have hb := (Below.refl w6.heap.size w6).alloc (Nat.le_refl _) (.cells (([0, 1, 2] : List Int).map (Value.int .i64)).toArray 3);generalize w6.alloc (.cells (([0, 1, 2] : List Int).map (Value.int .i64)).toArray 3) = w7 at *;replace G1 := ι (G1.out.below hb);replace O1 := ι (O1.out.below hb);replace O2 := ι (O2.out.below hb);replace O3a := ι (O3a.out.below hb);replace O3b := ι (O3b.out.below hb);replace O3c := ι (O3c.out.below hb);replace O4 := ι (O4.out.below hb);replace O5 := ι (O5.out.below hb);replace K := ι (Rg.acc K.out hb);clear hb;have I0 := ι hnew;clear hnew;have hnew := ints_new w7 3 [3, 4] (by decide);refine listW_run (some 56) rfl rfl (exec_flat _ _ 2 _ rfl [3, 4] Try.underlying22 szInt zInt rfl (by decide) (by decide) rfl) ?_;go_frame;have hb := (Below.refl w7.heap.size w7).alloc (Nat.le_refl _) (.cells (([3, 4] : List Int).map (Value.int .i64)).toArray 3);generalize w7.alloc (.cells (([3, 4] : List Int).map (Value.int .i64)).toArray 3) = w8 at *
 replace G1 := ι (G1.out.below hb);replace O1 := ι (O1.out.below hb);replace O2 := ι (O2.out.below hb);replace O3a := ι (O3a.out.below hb);replace O3b := ι (O3b.out.below hb);replace O3c := ι (O3c.out.below hb);replace O4 := ι (O4.out.below hb);replace O5 := ι (O5.out.below hb);replace I0 := ι (I0.out.below hb);replace K := ι (Rg.acc K.out hb);clear hb;have I1 := ι hnew;clear hnew
 have hrw : Rg.Rows (w8.alloc (.cells #[.slice (some ⟨w6.heap.size, 0, none⟩) 3 3, .slice (some ⟨w7.heap.size, 0, none⟩) 2 2] 22)) (.slice (some ⟨w8.heap.size, 0, none⟩) 2 2) [[0, 1, 2], [3, 4]] := (rowsF_new (B := 0) (w := w8) 22 [.slice (some ⟨w6.heap.size, 0, none⟩) 3 3, .slice (some ⟨w7.heap.size, 0, none⟩) 2 2] [[0, 1, 2], [3, 4]] rfl (by simp) (by
  intro i h h2
  match i, h, h2 with
  | 0, _, _ => exact ⟨I0.out, fun _ _ _ _ => Nat.zero_le _⟩
  | 1, _, _ => exact ⟨I1.out, fun _ _ _ _ => Nat.zero_le _⟩) (Nat.zero_le _)).rows
 refine listW_run (some 57) rfl rfl (exec_buildK2 (u0 := .slice (some ⟨w6.heap.size, 0, none⟩) 3 3) (u1 := .slice (some ⟨w7.heap.size, 0, none⟩) 2 2) _ _ rfl rfl rfl (run_buildK2 w8 _ _ ⟨_, _, _, rfl⟩ ⟨_, _, _, rfl⟩ )) ?_;go_frame;have hb := (Below.refl w8.heap.size w8).alloc (Nat.le_refl _) (.cells #[.slice (some ⟨w6.heap.size, 0, none⟩) 3 3, .slice (some ⟨w7.heap.size, 0, none⟩) 2 2] 22);generalize w8.alloc (.cells #[.slice (some ⟨w6.heap.size, 0, none⟩) 3 3, .slice (some ⟨w7.heap.size, 0, none⟩) 2 2] 22) = w9 at *;replace G1 := ι (G1.out.below hb);replace O1 := ι (O1.out.below hb);replace O2 := ι (O2.out.below hb);replace O3a := ι (O3a.out.below hb);replace O3b := ι (O3b.out.below hb);replace O3c := ι (O3c.out.below hb);replace O4 := ι (O4.out.below hb);replace O5 := ι (O5.out.below hb);replace I0 := ι (I0.out.below hb);replace I1 := ι (I1.out.below hb);replace K := ι (Rg.acc K.out hb)
 clear hb;have RW := ι hrw;clear hrw;refine listW_ask (some 58) rfl rfl _ _ (exec_fn 41 _ _ _ rfl rfl rfl (Fqcl5 _ _)) ?_;refine (SameLists_b (b := true) O1.out RW.out (ι (decide_eq_true rfl))).mono ?_;rintro e1 w10 ⟨rfl, hb⟩;refine ⟨_, rfl, ?_⟩;go_frame;replace G1 := ι (G1.out.below hb);replace O1 := ι (O1.out.below hb);replace O2 := ι (O2.out.below hb);replace O3a := ι (O3a.out.below hb);replace O3b := ι (O3b.out.below hb);replace O3c := ι (O3c.out.below hb);replace O4 := ι (O4.out.below hb);replace O5 := ι (O5.out.below hb);replace I0 := ι (I0.out.below hb);replace I1 := ι (I1.out.below hb);replace RW := ι (RW.out.below hb);replace K := ι (Rg.acc K.out hb);clear hb;refine Rg.lr 59 (exec_pickT (v := .bool true) _ _ _ rfl rfl rfl) ?_;go_frame;refine Rg.lr 60 (Rg.xm (.bool true) _ rfl rfl) ?_;go_frame;refine listW_run (some 61) rfl rfl (Rg.xm (.int .i64 2) _ rfl rfl) ?_;go_frame;refine listW_run (some 62) rfl rfl (exec_eqI _ _ rfl rfl rfl rfl) ?_;go_frame
 refine Rg.lr 63 (exec_pickT (v := .bool true) _ _ _ rfl rfl rfl) ?_;go_frame;refine Rg.lr 64 (Rg.xm (.bool true) _ rfl rfl) ?_;go_frame;refine listW_run (some 65) rfl rfl (Rg.xm (.int .i64 ((0 : Nat) : Int)) _ rfl rfl) ?_;go_frame;refine listW_run (some 66) rfl rfl (exec_eqI _ _ rfl rfl rfl rfl) ?_;go_frame;refine Rg.lr 67 (exec_pickT (v := .bool true) _ _ _ rfl rfl rfl) ?_;go_frame;refine Rg.lr 68 (Rg.xm (.bool true) _ rfl rfl) ?_;go_frame;refine listW_run (some 69) rfl rfl (Rg.xm (v3a) _ rfl rfl) ?_;go_frame;have hnew := ints_new w10 3 [0, 1, 2] (by decide);refine listW_run (some 70) rfl rfl (exec_flat _ _ 3 _ rfl [0, 1, 2] Try.underlying22 szInt zInt rfl (by decide) (by decide) rfl) ?_;go_frame;have hb := (Below.refl w10.heap.size w10).alloc (Nat.le_refl _) (.cells (([0, 1, 2] : List Int).map (Value.int .i64)).toArray 3);generalize w10.alloc (.cells (([0, 1, 2] : List Int).map (Value.int .i64)).toArray 3) = w11 at *
 replace G1 := ι (G1.out.below hb);replace O1 := ι (O1.out.below hb);replace O2 := ι (O2.out.below hb);replace O3a := ι (O3a.out.below hb);replace O3b := ι (O3b.out.below hb);replace O3c := ι (O3c.out.below hb);replace O4 := ι (O4.out.below hb);replace O5 := ι (O5.out.below hb);replace I0 := ι (I0.out.below hb);replace I1 := ι (I1.out.below hb);replace RW := ι (RW.out.below hb);replace K := ι (Rg.acc K.out hb);clear hb;have I2 := ι hnew;clear hnew;refine listW_ask (some 71) rfl rfl _ _ (exec_fn 42 _ _ _ rfl rfl rfl (vbcl4 _ _)) ?_;refine (Same_any (w0 := w11) (b := true) O3a.out I2.out (ι (decide_eq_true rfl)) (Below.refl _ _)).mono ?_;rintro e1 w12 ⟨rfl, hb⟩;refine ⟨_, rfl, ?_⟩;go_frame;replace G1 := ι (G1.out.below hb);replace O1 := ι (O1.out.below hb);replace O2 := ι (O2.out.below hb);replace O3a := ι (O3a.out.below hb);replace O3b := ι (O3b.out.below hb);replace O3c := ι (O3c.out.below hb)
 replace O4 := ι (O4.out.below hb);replace O5 := ι (O5.out.below hb);replace I0 := ι (I0.out.below hb);replace I1 := ι (I1.out.below hb);replace RW := ι (RW.out.below hb);replace I2 := ι (I2.out.below hb);replace K := ι (Rg.acc K.out hb);clear hb;refine Rg.lr 72 (exec_pickT (v := .bool true) _ _ _ rfl rfl rfl) ?_;go_frame;refine Rg.lr 73 (Rg.xm (.bool true) _ rfl rfl) ?_;go_frame;refine listW_run (some 74) rfl rfl (Rg.xm (v3b) _ rfl rfl) ?_;go_frame;have hnew := ints_new w12 3 [(-1), 0, 1] (by decide);refine listW_run (some 75) rfl rfl (exec_flat _ _ 3 _ rfl [(-1), 0, 1] Try.underlying22 szInt zInt rfl (by decide) (by decide) rfl) ?_;go_frame;have hb := (Below.refl w12.heap.size w12).alloc (Nat.le_refl _) (.cells (([(-1), 0, 1] : List Int).map (Value.int .i64)).toArray 3);generalize w12.alloc (.cells (([(-1), 0, 1] : List Int).map (Value.int .i64)).toArray 3) = w13 at *;replace G1 := ι (G1.out.below hb)
 replace O1 := ι (O1.out.below hb);replace O2 := ι (O2.out.below hb);replace O3a := ι (O3a.out.below hb);replace O3b := ι (O3b.out.below hb);replace O3c := ι (O3c.out.below hb);replace O4 := ι (O4.out.below hb);replace O5 := ι (O5.out.below hb);replace I0 := ι (I0.out.below hb);replace I1 := ι (I1.out.below hb);replace RW := ι (RW.out.below hb);replace I2 := ι (I2.out.below hb);replace K := ι (Rg.acc K.out hb);clear hb;have I3 := ι hnew;clear hnew;refine listW_ask (some 76) rfl rfl _ _ (exec_fn 42 _ _ _ rfl rfl rfl (vbcl4 _ _)) ?_;refine (Same_any (w0 := w13) (b := true) O3b.out I3.out (ι (decide_eq_true rfl)) (Below.refl _ _)).mono ?_;rintro e1 w14 ⟨rfl, hb⟩;refine ⟨_, rfl, ?_⟩;go_frame;replace G1 := ι (G1.out.below hb);replace O1 := ι (O1.out.below hb);replace O2 := ι (O2.out.below hb);replace O3a := ι (O3a.out.below hb);replace O3b := ι (O3b.out.below hb);replace O3c := ι (O3c.out.below hb)
 replace O4 := ι (O4.out.below hb);replace O5 := ι (O5.out.below hb);replace I0 := ι (I0.out.below hb);replace I1 := ι (I1.out.below hb);replace RW := ι (RW.out.below hb);replace I2 := ι (I2.out.below hb);replace I3 := ι (I3.out.below hb);replace K := ι (Rg.acc K.out hb);clear hb;refine Rg.lr 77 (exec_pickT (v := .bool true) _ _ _ rfl rfl rfl) ?_;go_frame;refine Rg.lr 78 (Rg.xm (.bool true) _ rfl rfl) ?_;go_frame;refine listW_run (some 79) rfl rfl (Rg.xm (v3c) _ rfl rfl) ?_;go_frame;have hnew := ints_new w14 3 [0, 1, 1] (by decide);refine listW_run (some 80) rfl rfl (exec_flat _ _ 3 _ rfl [0, 1, 1] Try.underlying22 szInt zInt rfl (by decide) (by decide) rfl) ?_;go_frame;have hb := (Below.refl w14.heap.size w14).alloc (Nat.le_refl _) (.cells (([0, 1, 1] : List Int).map (Value.int .i64)).toArray 3);generalize w14.alloc (.cells (([0, 1, 1] : List Int).map (Value.int .i64)).toArray 3) = w15 at *
 replace G1 := ι (G1.out.below hb);replace O1 := ι (O1.out.below hb);replace O2 := ι (O2.out.below hb);replace O3a := ι (O3a.out.below hb);replace O3b := ι (O3b.out.below hb);replace O3c := ι (O3c.out.below hb);replace O4 := ι (O4.out.below hb);replace O5 := ι (O5.out.below hb);replace I0 := ι (I0.out.below hb);replace I1 := ι (I1.out.below hb);replace RW := ι (RW.out.below hb);replace I2 := ι (I2.out.below hb);replace I3 := ι (I3.out.below hb);replace K := ι (Rg.acc K.out hb);clear hb;have I4 := ι hnew;clear hnew;refine listW_ask (some 81) rfl rfl _ _ (exec_fn 42 _ _ _ rfl rfl rfl (vbcl4 _ _)) ?_;refine (Same_any (w0 := w15) (b := true) O3c.out I4.out (ι (decide_eq_true rfl)) (Below.refl _ _)).mono ?_;rintro e1 w16 ⟨rfl, hb⟩;refine ⟨_, rfl, ?_⟩;go_frame;replace G1 := ι (G1.out.below hb);replace O1 := ι (O1.out.below hb);replace O2 := ι (O2.out.below hb);replace O3a := ι (O3a.out.below hb)
 replace O3b := ι (O3b.out.below hb);replace O3c := ι (O3c.out.below hb);replace O4 := ι (O4.out.below hb);replace O5 := ι (O5.out.below hb);replace I0 := ι (I0.out.below hb);replace I1 := ι (I1.out.below hb);replace RW := ι (RW.out.below hb);replace I2 := ι (I2.out.below hb);replace I3 := ι (I3.out.below hb);replace I4 := ι (I4.out.below hb);replace K := ι (Rg.acc K.out hb);clear hb;refine Rg.lr 82 (exec_pickT (v := .bool true) _ _ _ rfl rfl rfl) ?_;go_frame;refine Rg.lr 83 (Rg.xm (.bool true) _ rfl rfl) ?_;go_frame;refine listW_run (some 84) rfl rfl (Rg.xm (.slice p4a 0 p4c) _ rfl rfl) ?_;go_frame;refine listW_run (some 85) rfl rfl (exec_len _ _ _ rfl Try.underlying76 _ _ _ rfl) ?_;go_frame;refine listW_run (some 86) rfl rfl (exec_bin (R := .bool true) .eql _ _ _ rfl rfl rfl (b_eql _ (decide_eq_true rfl))) ?_;go_frame;refine Rg.lr 87 (exec_pickT (v := .bool true) _ _ _ rfl rfl rfl) ?_;go_frame
 refine Rg.lr 88 (Rg.xm (.bool true) _ rfl rfl) ?_;go_frame;refine listW_run (some 89) rfl rfl (Rg.xm (.int .i64 ((0 : Nat) : Int)) _ rfl rfl) ?_;go_frame;refine listW_run (some 90) rfl rfl (exec_eqI _ _ rfl rfl rfl rfl) ?_;go_frame;refine Rg.lr 91 (exec_pickT (v := .bool true) _ _ _ rfl rfl rfl) ?_;go_frame;refine Rg.lr 92 (Rg.xm (.bool true) _ rfl rfl) ?_;go_frame;refine listW_run (some 93) rfl rfl (Rg.xm (.int .i64 18) _ rfl rfl) ?_;go_frame;refine listW_run (some 94) rfl rfl (exec_eqI _ _ rfl rfl rfl rfl) ?_;go_frame;refine Rg.lr 95 (exec_pickT (v := .bool true) _ _ _ rfl rfl rfl) ?_;go_frame;refine Rg.lr 14 (Rg.xa (.bool true) _ rfl rfl) ?_;go_frame;clear O1 O2 O3a O3b O3c O4 O5 I0 I1 I2 I3 I4 RW;go_upto_region 8 with (fail);refine wp_region_list ?_;refine Rg.lr 97 (Rg.exec_load (v := .agg #[.int .i64 ((5 : Nat) : Int), .slice ga 2 gc]) _ _ rfl ⟨w1.heap.size, 0, none⟩ rfl (run_loadG G1.out.c0 G1.out.c1)) ?_;go_frame
 have hnew := ints_new w16 3 [0, 3] (by decide);refine Rg.lr 98 (exec_flat _ _ 2 _ rfl [0, 3] Try.underlying22 szInt zInt rfl (by decide) (by decide) rfl) ?_;go_frame;have hb := (Below.refl w16.heap.size w16).alloc (Nat.le_refl _) (.cells (([0, 3] : List Int).map (Value.int .i64)).toArray 3);generalize w16.alloc (.cells (([0, 3] : List Int).map (Value.int .i64)).toArray 3) = w17 at *;replace G1 := ι (G1.out.below hb);replace K := ι (Rg.acc K.out hb);clear hb;have J6 := ι hnew;clear hnew;refine list_ask (some 99) rfl rfl _ _ (exec_fn 37 _ _ _ rfl rfl rfl (Fqcl7 _ _)) ?_;refine ((Sets_any _ ((5 : Nat) : Int) (gEx.map Ma.ofN) _ [0, 3] w17 G1.out.rows J6.out (by decide)).mono (fun _ _ => ImPost.ans)).mono ?_;rintro e1 w18 ⟨v6q, c6, T6, rfl, hr6, hs6, hb⟩;obtain ⟨rfl, rfl⟩ := kn_set.uniq hs6;have hr6b := RsW.mk hr6;refine ⟨_, rfl, ?_⟩;go_frame;replace G1 := ι (G1.out.below hb);replace J6 := ι (J6.out.below hb)
 replace K := ι (Rg.acc K.out hb);clear hb;have R6 := ι hr6b;refine Rg.lr 96 (Rg.xm (.tuple #[v6q, .int .i64 ((0 : Nat) : Int)]) _ rfl rfl) ?_;go_frame;refine Rg.lr 100 (exec_extract (v := v6q) _ _ rfl rfl rfl) ?_;go_frame;refine Rg.lr 101 (exec_extract (v := .int .i64 ((0 : Nat) : Int)) _ _ rfl rfl rfl) ?_;go_frame;refine Rg.lr 15 (Rg.xa (v6q) _ rfl rfl) ?_;go_frame;refine Rg.lr 16 (Rg.xa (.int .i64 ((0 : Nat) : Int)) _ rfl rfl) ?_;go_frame;go_upto_region 9 with (fail);refine wp_region_list ?_;refine Rg.lr 103 (Rg.exec_load (v := .agg #[.int .i64 ((5 : Nat) : Int), .slice ga 2 gc]) _ _ rfl ⟨w1.heap.size, 0, none⟩ rfl (run_loadG G1.out.c0 G1.out.c1)) ?_;go_frame;have hnew := ints_new w18 3 [3, 0] (by decide);refine Rg.lr 104 (exec_flat _ _ 2 _ rfl [3, 0] Try.underlying22 szInt zInt rfl (by decide) (by decide) rfl) ?_;go_frame;have hb := (Below.refl w18.heap.size w18).alloc (Nat.le_refl _) (.cells (([3, 0] : List Int).map (Value.int .i64)).toArray 3)
 generalize w18.alloc (.cells (([3, 0] : List Int).map (Value.int .i64)).toArray 3) = w19 at *;replace G1 := ι (G1.out.below hb);replace J6 := ι (J6.out.below hb);replace R6 := ι (R6.out.below hb);replace K := ι (Rg.acc K.out hb);clear hb;have J7 := ι hnew;clear hnew;refine list_ask (some 105) rfl rfl _ _ (exec_fn 37 _ _ _ rfl rfl rfl (Fqcl7 _ _)) ?_;refine ((Sets_any _ ((5 : Nat) : Int) (gEx.map Ma.ofN) _ [3, 0] w19 G1.out.rows J7.out (by decide)).mono (fun _ _ => ImPost.ans)).mono ?_;rintro e1 w20 ⟨v7q, c7, T7, rfl, hr7, hs7, hb⟩;obtain ⟨rfl, rfl⟩ := kn_setO.uniq hs7;have hr7b := RsW.mk hr7;refine ⟨_, rfl, ?_⟩;go_frame;replace G1 := ι (G1.out.below hb);replace J6 := ι (J6.out.below hb);replace R6 := ι (R6.out.below hb);replace J7 := ι (J7.out.below hb);replace K := ι (Rg.acc K.out hb);clear hb;have R7 := ι hr7b;refine Rg.lr 102 (Rg.xm (.tuple #[v7q, .int .i64 9]) _ rfl rfl) ?_;go_frame
 refine Rg.lr 106 (exec_extract (v := v7q) _ _ rfl rfl rfl) ?_;go_frame;refine Rg.lr 107 (exec_extract (v := .int .i64 9) _ _ rfl rfl rfl) ?_;go_frame;refine Rg.lr 17 (Rg.xa (v7q) _ rfl rfl) ?_;go_frame;refine Rg.lr 18 (Rg.xa (.int .i64 9) _ rfl rfl) ?_;go_frame;go_upto_region 10 with (fail);refine wp_region_list ?_;refine Rg.lr 109 (Rg.exec_load (v := .agg #[.int .i64 ((5 : Nat) : Int), .slice ga 2 gc]) _ _ rfl ⟨w1.heap.size, 0, none⟩ rfl (run_loadG G1.out.c0 G1.out.c1)) ?_;go_frame;have hnew := ints_new w20 3 [3, 3] (by decide);refine Rg.lr 110 (exec_flat _ _ 2 _ rfl [3, 3] Try.underlying22 szInt zInt rfl (by decide) (by decide) rfl) ?_;go_frame;have hb := (Below.refl w20.heap.size w20).alloc (Nat.le_refl _) (.cells (([3, 3] : List Int).map (Value.int .i64)).toArray 3);generalize w20.alloc (.cells (([3, 3] : List Int).map (Value.int .i64)).toArray 3) = w21 at *;replace G1 := ι (G1.out.below hb)
 replace J6 := ι (J6.out.below hb);replace R6 := ι (R6.out.below hb);replace J7 := ι (J7.out.below hb);replace R7 := ι (R7.out.below hb);replace K := ι (Rg.acc K.out hb);clear hb;have J8 := ι hnew;clear hnew;refine list_ask (some 111) rfl rfl _ _ (exec_fn 39 _ _ _ rfl rfl rfl (Fqcl8 _ _)) ?_;refine ((Tuples_any _ ((5 : Nat) : Int) (gEx.map Ma.ofN) _ [3, 3] w21 G1.out.rows J8.out (by decide)).mono (fun _ _ => ImPost.ans)).mono ?_;rintro e1 w22 ⟨v8q, c8, T8, rfl, hr8, hs8, hb⟩;obtain ⟨rfl, rfl⟩ := kn_tup.uniq hs8;have hr8b := RsW.mk hr8;refine ⟨_, rfl, ?_⟩;go_frame;replace G1 := ι (G1.out.below hb);replace J6 := ι (J6.out.below hb);replace R6 := ι (R6.out.below hb);replace J7 := ι (J7.out.below hb);replace R7 := ι (R7.out.below hb);replace J8 := ι (J8.out.below hb);replace K := ι (Rg.acc K.out hb);clear hb;have R8 := ι hr8b;refine Rg.lr 108 (Rg.xm (.tuple #[v8q, .int .i64 ((0 : Nat) : Int)]) _ rfl rfl) ?_;go_frame
 refine Rg.lr 112 (exec_extract (v := v8q) _ _ rfl rfl rfl) ?_;go_frame;refine Rg.lr 113 (exec_extract (v := .int .i64 ((0 : Nat) : Int)) _ _ rfl rfl rfl) ?_;go_frame;refine Rg.lr 19 (Rg.xa (v8q) _ rfl rfl) ?_;go_frame;refine Rg.lr 20 (Rg.xa (.int .i64 ((0 : Nat) : Int)) _ rfl rfl) ?_;go_frame;clear hr6 hr6b hs6 hr7 hr7b hs7 hr8 hr8b hs8;go_upto_region 11 with (fail);refine wp_region_list ?_;refine Rg.lr 114 (Rg.xm (.int .i64 ((0 : Nat) : Int)) _ rfl rfl) ?_;go_frame;refine Rg.lr 115 (exec_eqI _ _ rfl rfl rfl rfl) ?_;go_frame;refine Rg.lr 116 (Rg.xm (.bool true) _ rfl rfl) ?_;go_frame;refine listW_run (some 117) rfl rfl (Rg.xm (v6q) _ rfl rfl) ?_;go_frame;have hnew := ints_new w22 3 [0, 3] (by decide);refine listW_run (some 118) rfl rfl (exec_flat _ _ 2 _ rfl [0, 3] Try.underlying22 szInt zInt rfl (by decide) (by decide) rfl) ?_;go_frame;have hb := (Below.refl w22.heap.size w22).alloc (Nat.le_refl _) (.cells (([0, 3] : List Int).map (Value.int .i64)).toArray 3)
 generalize w22.alloc (.cells (([0, 3] : List Int).map (Value.int .i64)).toArray 3) = w23 at *;replace G1 := ι (G1.out.below hb);replace J6 := ι (J6.out.below hb);replace R6 := ι (R6.out.below hb);replace J7 := ι (J7.out.below hb);replace R7 := ι (R7.out.below hb);replace J8 := ι (J8.out.below hb);replace R8 := ι (R8.out.below hb);replace K := ι (Rg.acc K.out hb);clear hb;have I0 := ι hnew;clear hnew;have hnew := ints_new w23 3 [0, 4] (by decide);refine listW_run (some 119) rfl rfl (exec_flat _ _ 2 _ rfl [0, 4] Try.underlying22 szInt zInt rfl (by decide) (by decide) rfl) ?_;go_frame;have hb := (Below.refl w23.heap.size w23).alloc (Nat.le_refl _) (.cells (([0, 4] : List Int).map (Value.int .i64)).toArray 3);generalize w23.alloc (.cells (([0, 4] : List Int).map (Value.int .i64)).toArray 3) = w24 at *;replace G1 := ι (G1.out.below hb);replace J6 := ι (J6.out.below hb);replace R6 := ι (R6.out.below hb)
 replace J7 := ι (J7.out.below hb);replace R7 := ι (R7.out.below hb);replace J8 := ι (J8.out.below hb);replace R8 := ι (R8.out.below hb);replace I0 := ι (I0.out.below hb);replace K := ι (Rg.acc K.out hb);clear hb;have I1 := ι hnew;clear hnew;have hnew := ints_new w24 3 [1, 3] (by decide);refine listW_run (some 120) rfl rfl (exec_flat _ _ 2 _ rfl [1, 3] Try.underlying22 szInt zInt rfl (by decide) (by decide) rfl) ?_;go_frame;have hb := (Below.refl w24.heap.size w24).alloc (Nat.le_refl _) (.cells (([1, 3] : List Int).map (Value.int .i64)).toArray 3);generalize w24.alloc (.cells (([1, 3] : List Int).map (Value.int .i64)).toArray 3) = w25 at *;replace G1 := ι (G1.out.below hb);replace J6 := ι (J6.out.below hb);replace R6 := ι (R6.out.below hb);replace J7 := ι (J7.out.below hb);replace R7 := ι (R7.out.below hb);replace J8 := ι (J8.out.below hb);replace R8 := ι (R8.out.below hb);replace I0 := ι (I0.out.below hb)
 replace I1 := ι (I1.out.below hb);replace K := ι (Rg.acc K.out hb);clear hb;have I2 := ι hnew;clear hnew;have hnew := ints_new w25 3 [1, 4] (by decide);refine listW_run (some 121) rfl rfl (exec_flat _ _ 2 _ rfl [1, 4] Try.underlying22 szInt zInt rfl (by decide) (by decide) rfl) ?_;go_frame;have hb := (Below.refl w25.heap.size w25).alloc (Nat.le_refl _) (.cells (([1, 4] : List Int).map (Value.int .i64)).toArray 3);generalize w25.alloc (.cells (([1, 4] : List Int).map (Value.int .i64)).toArray 3) = w26 at *;replace G1 := ι (G1.out.below hb);replace J6 := ι (J6.out.below hb);replace R6 := ι (R6.out.below hb);replace J7 := ι (J7.out.below hb);replace R7 := ι (R7.out.below hb);replace J8 := ι (J8.out.below hb);replace R8 := ι (R8.out.below hb);replace I0 := ι (I0.out.below hb);replace I1 := ι (I1.out.below hb);replace I2 := ι (I2.out.below hb);replace K := ι (Rg.acc K.out hb);clear hb;have I3 := ι hnew
 clear hnew;have hnew := ints_new w26 3 [2, 3] (by decide);refine listW_run (some 122) rfl rfl (exec_flat _ _ 2 _ rfl [2, 3] Try.underlying22 szInt zInt rfl (by decide) (by decide) rfl) ?_;go_frame;have hb := (Below.refl w26.heap.size w26).alloc (Nat.le_refl _) (.cells (([2, 3] : List Int).map (Value.int .i64)).toArray 3);generalize w26.alloc (.cells (([2, 3] : List Int).map (Value.int .i64)).toArray 3) = w27 at *;replace G1 := ι (G1.out.below hb);replace J6 := ι (J6.out.below hb);replace R6 := ι (R6.out.below hb);replace J7 := ι (J7.out.below hb);replace R7 := ι (R7.out.below hb);replace J8 := ι (J8.out.below hb);replace R8 := ι (R8.out.below hb);replace I0 := ι (I0.out.below hb);replace I1 := ι (I1.out.below hb);replace I2 := ι (I2.out.below hb);replace I3 := ι (I3.out.below hb);replace K := ι (Rg.acc K.out hb);clear hb;have I4 := ι hnew;clear hnew;have hnew := ints_new w27 3 [2, 4] (by decide)
 refine listW_run (some 123) rfl rfl (exec_flat _ _ 2 _ rfl [2, 4] Try.underlying22 szInt zInt rfl (by decide) (by decide) rfl) ?_;go_frame;have hb := (Below.refl w27.heap.size w27).alloc (Nat.le_refl _) (.cells (([2, 4] : List Int).map (Value.int .i64)).toArray 3);generalize w27.alloc (.cells (([2, 4] : List Int).map (Value.int .i64)).toArray 3) = w28 at *;replace G1 := ι (G1.out.below hb);replace J6 := ι (J6.out.below hb);replace R6 := ι (R6.out.below hb);replace J7 := ι (J7.out.below hb);replace R7 := ι (R7.out.below hb);replace J8 := ι (J8.out.below hb);replace R8 := ι (R8.out.below hb);replace I0 := ι (I0.out.below hb);replace I1 := ι (I1.out.below hb);replace I2 := ι (I2.out.below hb);replace I3 := ι (I3.out.below hb);replace I4 := ι (I4.out.below hb);replace K := ι (Rg.acc K.out hb);clear hb;have I5 := ι hnew;clear hnew
 have hrw : Rg.Rows (w28.alloc (.cells #[.slice (some ⟨w22.heap.size, 0, none⟩) 2 2, .slice (some ⟨w23.heap.size, 0, none⟩) 2 2, .slice (some ⟨w24.heap.size, 0, none⟩) 2 2, .slice (some ⟨w25.heap.size, 0, none⟩) 2 2, .slice (some ⟨w26.heap.size, 0, none⟩) 2 2, .slice (some ⟨w27.heap.size, 0, none⟩) 2 2] 22)) (.slice (some ⟨w28.heap.size, 0, none⟩) 6 6) [[0, 3], [0, 4], [1, 3], [1, 4], [2, 3], [2, 4]] := (rowsF_new (B := 0) (w := w28) 22 [.slice (some ⟨w22.heap.size, 0, none⟩) 2 2, .slice (some ⟨w23.heap.size, 0, none⟩) 2 2, .slice (some ⟨w24.heap.size, 0, none⟩) 2 2, .slice (some ⟨w25.heap.size, 0, none⟩) 2 2, .slice (some ⟨w26.heap.size, 0, none⟩) 2 2, .slice (some ⟨w27.heap.size, 0, none⟩) 2 2] [[0, 3], [0, 4], [1, 3], [1, 4], [2, 3], [2, 4]] rfl (by simp) (by
  intro i h h2
  match i, h, h2 with
  | 0, _, _ => exact ⟨I0.out, fun _ _ _ _ => Nat.zero_le _⟩
  | 1, _, _ => exact ⟨I1.out, fun _ _ _ _ => Nat.zero_le _⟩
  | 2, _, _ => exact ⟨I2.out, fun _ _ _ _ => Nat.zero_le _⟩
  | 3, _, _ => exact ⟨I3.out, fun _ _ _ _ => Nat.zero_le _⟩
  | 4, _, _ => exact ⟨I4.out, fun _ _ _ _ => Nat.zero_le _⟩
  | 5, _, _ => exact ⟨I5.out, fun _ _ _ _ => Nat.zero_le _⟩) (Nat.zero_le _)).rows
 refine listW_run (some 124) rfl rfl (exec_buildK6 (u0 := .slice (some ⟨w22.heap.size, 0, none⟩) 2 2) (u1 := .slice (some ⟨w23.heap.size, 0, none⟩) 2 2) (u2 := .slice (some ⟨w24.heap.size, 0, none⟩) 2 2) (u3 := .slice (some ⟨w25.heap.size, 0, none⟩) 2 2) (u4 := .slice (some ⟨w26.heap.size, 0, none⟩) 2 2) (u5 := .slice (some ⟨w27.heap.size, 0, none⟩) 2 2) _ _ _ _ _ _ rfl rfl rfl rfl rfl rfl rfl (run_buildK6 w28 _ _ _ _ _ _ ⟨_, _, _, rfl⟩ ⟨_, _, _, rfl⟩ ⟨_, _, _, rfl⟩ ⟨_, _, _, rfl⟩ ⟨_, _, _, rfl⟩ ⟨_, _, _, rfl⟩ )) ?_;go_frame;have hb := (Below.refl w28.heap.size w28).alloc (Nat.le_refl _) (.cells #[.slice (some ⟨w22.heap.size, 0, none⟩) 2 2, .slice (some ⟨w23.heap.size, 0, none⟩) 2 2, .slice (some ⟨w24.heap.size, 0, none⟩) 2 2, .slice (some ⟨w25.heap.size, 0, none⟩) 2 2, .slice (some ⟨w26.heap.size, 0, none⟩) 2 2, .slice (some ⟨w27.heap.size, 0, none⟩) 2 2] 22);generalize w28.alloc (.cells #[.slice (some ⟨w22.heap.size, 0, none⟩) 2 2, .slice (some ⟨w23.heap.size, 0, none⟩) 2 2, .slice (some ⟨w24.heap.size, 0, none⟩) 2 2, .slice (some ⟨w25.heap.size, 0, none⟩) 2 2, .slice (some ⟨w26.heap.size, 0, none⟩) 2 2, .slice (some ⟨w27.heap.size, 0, none⟩) 2 2] 22) = w29 at *
 replace G1 := ι (G1.out.below hb);replace J6 := ι (J6.out.below hb);replace R6 := ι (R6.out.below hb);replace J7 := ι (J7.out.below hb);replace R7 := ι (R7.out.below hb);replace J8 := ι (J8.out.below hb);replace R8 := ι (R8.out.below hb);replace I0 := ι (I0.out.below hb);replace I1 := ι (I1.out.below hb);replace I2 := ι (I2.out.below hb);replace I3 := ι (I3.out.below hb);replace I4 := ι (I4.out.below hb);replace I5 := ι (I5.out.below hb);replace K := ι (Rg.acc K.out hb);clear hb;have RW := ι hrw;clear hrw;refine listW_ask (some 125) rfl rfl _ _ (exec_fn 41 _ _ _ rfl rfl rfl (Fqcl5 _ _)) ?_;refine (SameLists_b (b := true) R6.out.r RW.out (ι (decide_eq_true rfl))).mono ?_;rintro e1 w30 ⟨rfl, hb⟩;refine ⟨_, rfl, ?_⟩;go_frame;replace G1 := ι (G1.out.below hb);replace J6 := ι (J6.out.below hb);replace R6 := ι (R6.out.below hb);replace J7 := ι (J7.out.below hb);replace R7 := ι (R7.out.below hb)
 replace J8 := ι (J8.out.below hb);replace R8 := ι (R8.out.below hb);replace I0 := ι (I0.out.below hb);replace I1 := ι (I1.out.below hb);replace I2 := ι (I2.out.below hb);replace I3 := ι (I3.out.below hb);replace I4 := ι (I4.out.below hb);replace I5 := ι (I5.out.below hb);replace RW := ι (RW.out.below hb);replace K := ι (Rg.acc K.out hb);clear hb;refine Rg.lr 126 (exec_pickT (v := .bool true) _ _ _ rfl rfl rfl) ?_;go_frame;refine Rg.lr 127 (Rg.xm (.bool true) _ rfl rfl) ?_;go_frame;refine listW_run (some 128) rfl rfl (Rg.xm (.int .i64 9) _ rfl rfl) ?_;go_frame;refine listW_run (some 129) rfl rfl (exec_eqI _ _ rfl rfl rfl rfl) ?_;go_frame;refine Rg.lr 130 (exec_pickT (v := .bool true) _ _ _ rfl rfl rfl) ?_;go_frame;refine Rg.lr 131 (Rg.xm (.bool true) _ rfl rfl) ?_;go_frame;refine listW_run (some 132) rfl rfl (Rg.xm (.int .i64 ((0 : Nat) : Int)) _ rfl rfl) ?_;go_frame;refine listW_run (some 133) rfl rfl (exec_eqI _ _ rfl rfl rfl rfl) ?_;go_frame
 refine Rg.lr 134 (exec_pickT (v := .bool true) _ _ _ rfl rfl rfl) ?_;go_frame;refine Rg.lr 135 (Rg.xm (.bool true) _ rfl rfl) ?_;go_frame;refine listW_run (some 136) rfl rfl (Rg.xm (v8q) _ rfl rfl) ?_;go_frame;have hnew := ints_new w30 3 [3, 3] (by decide);refine listW_run (some 137) rfl rfl (exec_flat _ _ 2 _ rfl [3, 3] Try.underlying22 szInt zInt rfl (by decide) (by decide) rfl) ?_;go_frame;have hb := (Below.refl w30.heap.size w30).alloc (Nat.le_refl _) (.cells (([3, 3] : List Int).map (Value.int .i64)).toArray 3);generalize w30.alloc (.cells (([3, 3] : List Int).map (Value.int .i64)).toArray 3) = w31 at *;replace G1 := ι (G1.out.below hb);replace J6 := ι (J6.out.below hb);replace R6 := ι (R6.out.below hb);replace J7 := ι (J7.out.below hb);replace R7 := ι (R7.out.below hb);replace J8 := ι (J8.out.below hb);replace R8 := ι (R8.out.below hb);replace I0 := ι (I0.out.below hb);replace I1 := ι (I1.out.below hb)
 replace I2 := ι (I2.out.below hb);replace I3 := ι (I3.out.below hb);replace I4 := ι (I4.out.below hb);replace I5 := ι (I5.out.below hb);replace RW := ι (RW.out.below hb);replace K := ι (Rg.acc K.out hb);clear hb;have I6 := ι hnew;clear hnew;have hnew := ints_new w31 3 [4, 4] (by decide);refine listW_run (some 138) rfl rfl (exec_flat _ _ 2 _ rfl [4, 4] Try.underlying22 szInt zInt rfl (by decide) (by decide) rfl) ?_;go_frame;have hb := (Below.refl w31.heap.size w31).alloc (Nat.le_refl _) (.cells (([4, 4] : List Int).map (Value.int .i64)).toArray 3);generalize w31.alloc (.cells (([4, 4] : List Int).map (Value.int .i64)).toArray 3) = w32 at *;replace G1 := ι (G1.out.below hb);replace J6 := ι (J6.out.below hb);replace R6 := ι (R6.out.below hb);replace J7 := ι (J7.out.below hb);replace R7 := ι (R7.out.below hb);replace J8 := ι (J8.out.below hb);replace R8 := ι (R8.out.below hb);replace I0 := ι (I0.out.below hb)
 replace I1 := ι (I1.out.below hb);replace I2 := ι (I2.out.below hb);replace I3 := ι (I3.out.below hb);replace I4 := ι (I4.out.below hb);replace I5 := ι (I5.out.below hb);replace RW := ι (RW.out.below hb);replace I6 := ι (I6.out.below hb);replace K := ι (Rg.acc K.out hb);clear hb;have I7 := ι hnew;clear hnew
 have hrw : Rg.Rows (w32.alloc (.cells #[.slice (some ⟨w30.heap.size, 0, none⟩) 2 2, .slice (some ⟨w31.heap.size, 0, none⟩) 2 2] 22)) (.slice (some ⟨w32.heap.size, 0, none⟩) 2 2) [[3, 3], [4, 4]] := (rowsF_new (B := 0) (w := w32) 22 [.slice (some ⟨w30.heap.size, 0, none⟩) 2 2, .slice (some ⟨w31.heap.size, 0, none⟩) 2 2] [[3, 3], [4, 4]] rfl (by simp) (by
  intro i h h2
  match i, h, h2 with
  | 0, _, _ => exact ⟨I6.out, fun _ _ _ _ => Nat.zero_le _⟩
  | 1, _, _ => exact ⟨I7.out, fun _ _ _ _ => Nat.zero_le _⟩) (Nat.zero_le _)).rows
 refine listW_run (some 139) rfl rfl (exec_buildK2 (u0 := .slice (some ⟨w30.heap.size, 0, none⟩) 2 2) (u1 := .slice (some ⟨w31.heap.size, 0, none⟩) 2 2) _ _ rfl rfl rfl (run_buildK2 w32 _ _ ⟨_, _, _, rfl⟩ ⟨_, _, _, rfl⟩ )) ?_;go_frame;have hb := (Below.refl w32.heap.size w32).alloc (Nat.le_refl _) (.cells #[.slice (some ⟨w30.heap.size, 0, none⟩) 2 2, .slice (some ⟨w31.heap.size, 0, none⟩) 2 2] 22);generalize w32.alloc (.cells #[.slice (some ⟨w30.heap.size, 0, none⟩) 2 2, .slice (some ⟨w31.heap.size, 0, none⟩) 2 2] 22) = w33 at *;replace G1 := ι (G1.out.below hb);replace J6 := ι (J6.out.below hb);replace R6 := ι (R6.out.below hb);replace J7 := ι (J7.out.below hb);replace R7 := ι (R7.out.below hb);replace J8 := ι (J8.out.below hb);replace R8 := ι (R8.out.below hb);replace I0 := ι (I0.out.below hb);replace I1 := ι (I1.out.below hb);replace I2 := ι (I2.out.below hb);replace I3 := ι (I3.out.below hb)
 replace I4 := ι (I4.out.below hb);replace I5 := ι (I5.out.below hb);replace RW := ι (RW.out.below hb);replace I6 := ι (I6.out.below hb);replace I7 := ι (I7.out.below hb);replace K := ι (Rg.acc K.out hb);clear hb;have RX := ι hrw;clear hrw;refine listW_ask (some 140) rfl rfl _ _ (exec_fn 41 _ _ _ rfl rfl rfl (Fqcl5 _ _)) ?_;refine (SameLists_b (b := true) R8.out.r RX.out (ι (decide_eq_true rfl))).mono ?_;rintro e1 w34 ⟨rfl, hb⟩;refine ⟨_, rfl, ?_⟩;go_frame;replace G1 := ι (G1.out.below hb);replace J6 := ι (J6.out.below hb);replace R6 := ι (R6.out.below hb);replace J7 := ι (J7.out.below hb);replace R7 := ι (R7.out.below hb);replace J8 := ι (J8.out.below hb);replace R8 := ι (R8.out.below hb);replace I0 := ι (I0.out.below hb);replace I1 := ι (I1.out.below hb);replace I2 := ι (I2.out.below hb);replace I3 := ι (I3.out.below hb);replace I4 := ι (I4.out.below hb);replace I5 := ι (I5.out.below hb)
 replace RW := ι (RW.out.below hb);replace I6 := ι (I6.out.below hb);replace I7 := ι (I7.out.below hb);replace RX := ι (RX.out.below hb);replace K := ι (Rg.acc K.out hb);clear hb;refine Rg.lr 141 (exec_pickT (v := .bool true) _ _ _ rfl rfl rfl) ?_;go_frame;refine Rg.lr 21 (Rg.xa (.bool true) _ rfl rfl) ?_;go_frame;clear R6 R7 R8 J6 J7 J8 RW RX I0 I1 I2 I3 I4 I5 I6 I7;go_upto_region 12 with (fail);refine wp_region_list ?_;refine Rg.lr 142 (exec_buildGz rfl) ?_;go_frame;refine list_ask (some 143) rfl rfl _ _ (exec_fn1 48 _ _ rfl rfl (clChk _ _)) ?_;refine (orbitCheck_any _ 0 [] w34 (Rg.Rows.nil _ none 0 (Nat.zero_le _))).mono ?_;rintro e1 w35 ⟨rfl, hb⟩;rw [show Ma.gchk 0 [] = 2 by decide];refine ⟨_, rfl, ?_⟩;go_frame;replace G1 := ι (G1.out.below hb);replace K := ι (Rg.acc K.out hb);clear hb;refine Rg.lr 144 (exec_eqI _ _ rfl rfl rfl rfl) ?_;go_frame;refine Rg.lr 145 (Rg.xm (.bool true) _ rfl rfl) ?_;go_frame
 refine listW_run (some 146) rfl rfl (exec_buildG1 _ rfl rfl) ?_;go_frame;refine listW_ask (some 147) rfl rfl _ _ (exec_fn1 48 _ _ rfl rfl (clChk _ _)) ?_;refine (orbitCheck_any _ 65 [] w35 (Rg.Rows.nil _ none 0 (Nat.zero_le _))).mono ?_;rintro e1 w36 ⟨rfl, hb⟩;rw [show Ma.gchk 65 [] = 2 by decide];refine ⟨_, rfl, ?_⟩;go_frame;replace G1 := ι (G1.out.below hb);replace K := ι (Rg.acc K.out hb);clear hb;refine listW_run (some 148) rfl rfl (exec_eqI _ _ rfl rfl rfl rfl) ?_;go_frame;refine Rg.lr 149 (exec_pickT (v := .bool true) _ _ _ rfl rfl rfl) ?_;go_frame;refine Rg.lr 150 (Rg.xm (.bool true) _ rfl rfl) ?_;go_frame;have h17 := rows17 w36;refine listW_run (some 151) rfl rfl (exec_makeSlice _ _ _ rfl _ _ rfl rfl (mk17 w36)) ?_;go_frame;have hb := (Below.refl w36.heap.size w36).alloc (Nat.le_refl _) (.cells (madeCells #[.slice none 0 0] 17) 39);generalize w36.alloc (.cells (madeCells #[.slice none 0 0] 17) 39) = w37 at *
 replace G1 := ι (G1.out.below hb);replace K := ι (Rg.acc K.out hb);clear hb;have R17 := ι h17;clear h17;refine listW_run (some 152) rfl rfl (exec_buildG (d := 1) _ _ rfl rfl rfl) ?_;go_frame;refine listW_ask (some 153) rfl rfl _ _ (exec_fn1 48 _ _ rfl rfl (clChk _ _)) ?_;refine (orbitCheck_any _ 1 (List.replicate 17 []) w37 R17.out).mono ?_;rintro e1 w38 ⟨rfl, hb⟩;rw [show Ma.gchk 1 (List.replicate 17 []) = 4 by decide];refine ⟨_, rfl, ?_⟩;go_frame;replace G1 := ι (G1.out.below hb);replace R17 := ι (R17.out.below hb);replace K := ι (Rg.acc K.out hb);clear hb;refine listW_run (some 154) rfl rfl (exec_eqI _ _ rfl rfl rfl rfl) ?_;go_frame;refine Rg.lr 155 (exec_pickT (v := .bool true) _ _ _ rfl rfl rfl) ?_;go_frame;refine Rg.lr 156 (Rg.xm (.bool true) _ rfl rfl) ?_;go_frame;have hnew := ints_new w38 3 [0, 1] (by decide);refine listW_run (some 157) rfl rfl (exec_flat _ _ 2 _ rfl [0, 1] Try.underlying39 szInt zInt rfl (by decide) (by decide) rfl) ?_;go_frame
 have hb := (Below.refl w38.heap.size w38).alloc (Nat.le_refl _) (.cells (([0, 1] : List Int).map (Value.int .i64)).toArray 3);generalize w38.alloc (.cells (([0, 1] : List Int).map (Value.int .i64)).toArray 3) = w39 at *;replace G1 := ι (G1.out.below hb);replace R17 := ι (R17.out.below hb);replace K := ι (Rg.acc K.out hb);clear hb;have I0 := ι hnew;clear hnew
 have hrw : Rg.Rows (w39.alloc (.cells #[.slice (some ⟨w38.heap.size, 0, none⟩) 2 2] 39)) (.slice (some ⟨w39.heap.size, 0, none⟩) 1 1) [[0, 1]] := (rowsF_new (B := 0) (w := w39) 39 [.slice (some ⟨w38.heap.size, 0, none⟩) 2 2] [[0, 1]] rfl (by simp) (by
  intro i h h2
  match i, h, h2 with
  | 0, _, _ => exact ⟨I0.out, fun _ _ _ _ => Nat.zero_le _⟩) (Nat.zero_le _)).rows
 refine listW_run (some 158) rfl rfl (Rg.exec_buildSlice _ _ _ rfl (.slice (some ⟨w38.heap.size, 0, none⟩) 2 2) rfl (run_build1P w39 _ ⟨_, _, _, rfl⟩)) ?_;go_frame;have hb := (Below.refl w39.heap.size w39).alloc (Nat.le_refl _) (.cells #[.slice (some ⟨w38.heap.size, 0, none⟩) 2 2] 39);generalize w39.alloc (.cells #[.slice (some ⟨w38.heap.size, 0, none⟩) 2 2] 39) = w40 at *;replace G1 := ι (G1.out.below hb);replace R17 := ι (R17.out.below hb);replace I0 := ι (I0.out.below hb);replace K := ι (Rg.acc K.out hb);clear hb;have RW := ι hrw;clear hrw;refine listW_run (some 159) rfl rfl (exec_buildG (d := 3) _ _ rfl rfl rfl) ?_;go_frame;refine listW_ask (some 160) rfl rfl _ _ (exec_fn1 48 _ _ rfl rfl (clChk _ _)) ?_;refine (orbitCheck_any _ 3 [[0, 1]] w40 RW.out).mono ?_;rintro e1 w41 ⟨rfl, hb⟩;rw [show Ma.gchk 3 [[0, 1]] = 10 by decide];refine ⟨_, rfl, ?_⟩;go_frame;replace G1 := ι (G1.out.below hb)
 replace R17 := ι (R17.out.below hb);replace I0 := ι (I0.out.below hb);replace RW := ι (RW.out.below hb);replace K := ι (Rg.acc K.out hb);clear hb;refine listW_run (some 161) rfl rfl (exec_eqI _ _ rfl rfl rfl rfl) ?_;go_frame;refine Rg.lr 162 (exec_pickT (v := .bool true) _ _ _ rfl rfl rfl) ?_;go_frame;refine Rg.lr 22 (Rg.xa (.bool true) _ rfl rfl) ?_;go_frame;clear R17 I0 RW;go_upto_region 13 with (fail);refine wp_region_list ?_;refine list_ask (some 163) rfl rfl _ _ (exec_fn0 35 _ rfl (Fqcl10 _ _)) ?_;refine (awake_any w41).mono ?_;rintro e1 w42 ⟨rfl, hb⟩;refine ⟨_, rfl, ?_⟩;go_frame;replace G1 := ι (G1.out.below hb);replace K := ι (Rg.acc K.out hb);clear hb;refine Rg.lr 164 (Rg.xm (.bool true) _ rfl rfl) ?_;go_frame;refine listW_run (some 165) rfl rfl (Rg.xm (.bool true) _ rfl rfl) ?_;go_frame;refine Rg.lr 166 (exec_pickT (v := .bool true) _ _ _ rfl rfl rfl) ?_;go_frame;refine Rg.lr 167 (Rg.xm (.bool true) _ rfl rfl) ?_;go_frame
 refine listW_run (some 168) rfl rfl (Rg.xm (.bool true) _ rfl rfl) ?_;go_frame;refine Rg.lr 169 (exec_pickT (v := .bool true) _ _ _ rfl rfl rfl) ?_;go_frame;refine Rg.lr 170 (Rg.xm (.bool true) _ rfl rfl) ?_;go_frame;refine listW_run (some 171) rfl rfl (Rg.xm (.bool true) _ rfl rfl) ?_;go_frame;refine Rg.lr 172 (exec_pickT (v := .bool true) _ _ _ rfl rfl rfl) ?_;go_frame;refine Rg.lr 0 (Rg.xa (.bool true) _ rfl rfl) ?_;go_frame;go_wp2;go_ret;exact ⟨rfl, K.out⟩
end Go.Proofs.Ytcfomoknlchemaa

namespace Go.Proofs.Ytcfomoknlchemaa
open Go.Proofs
open Go.Proofs.Ob
def goW (gs : List (List Nat)) (p : Nat) (w : List Nat) : Nat := w.foldl (fun x g => img gs (g - 1) x) p
theorem goW_snoc (gs : List (List Nat)) (p : Nat) (w : List Nat) (g : Nat) : goW gs p (w ++ [g]) = img gs (g - 1) (goW gs p w) := by simp [goW]
def WOk (gs : List (List Nat)) (p : Nat) (e : En) : Prop := goW gs p e.2.2.2 = e.1 ∧ ∀ g ∈ e.2.2.2, 1 ≤ g ∧ g ≤ gs.length
theorem putG_w {gs : List (List Nat)} {p s : Nat} {e : En} {T : List En} (h : ∀ x ∈ T, WOk gs p x) (he : WOk gs p e) (hs : s < gs.length) : ∀ x ∈ putG gs e T s, WOk gs p x := by
 unfold putG
 split
 ·exact h
 ·intro x hx
  rcases List.mem_append.1 hx with hx | hx
  ·exact h x hx
  ·rw [List.mem_singleton] at hx
   subst hx;refine ⟨?_, fun g hg => ?_⟩
   ·show goW gs p (e.2.2.2 ++ [s + 1]) = img gs s e.1
    rw [goW_snoc, he.1]; rfl
   ·rcases List.mem_append.1 hg with hg | hg
    ·exact he.2 g hg
    ·rw [List.mem_singleton] at hg; omega
theorem innG_w {gs : List (List Nat)} {p : Nat} {e : En} {T : List En} (h : ∀ x ∈ T, WOk gs p x) (he : WOk gs p e) : ∀ n, n ≤ gs.length → ∀ x ∈ innG gs e T n, WOk gs p x
 | 0, _ => h
 | n + 1, hn => by rw [innG_succ]; exact putG_w (innG_w h he n (by omega)) he (by omega)
theorem trI_w (gs : List (List Nat)) (p : Nat) : ∀ k, ∀ x ∈ trI gs p k, WOk gs p x
 | 0 => fun x hx => by
  have : x = (p, -1, 0, []) := by simpa [trI] using hx
  subst this;exact ⟨rfl, fun g hg => by cases hg⟩
 | k + 1 => by
  by_cases h : k < (trI gs p k).length
  ·rw [trI_some h]
   exact innG_w (trI_w gs p k) (trI_w gs p k _ (List.getElem_mem h)) _ (Nat.le_refl _)
  ·rw [trI_none (by omega)]
   exact trI_w gs p k
inductive Rc (gs : List (List Nat)) (p : Nat) : Nat → Prop
 | base : Rc gs p p
 | step {s x : Nat} : s < gs.length → Rc gs p x → Rc gs p (img gs s x)
theorem goW_rc {gs : List (List Nat)} {p : Nat} : ∀ (w : List Nat) (x : Nat), Rc gs p x → (∀ g ∈ w, 1 ≤ g ∧ g ≤ gs.length) → Rc gs p (goW gs x w)
 | [], _, h, _ => h
 | g :: w, x, h, hw => by
  have := hw g (by simp);exact goW_rc w _ (.step (by omega) h) (fun y hy => hw y (List.mem_cons_of_mem _ hy))
theorem Rc.trans {gs : List (List Nat)} {p q x : Nat} (h : Rc gs p q) (h2 : Rc gs q x) : Rc gs p x := by
 induction h2 with
 | base => exact h
 | step hs _ ih => exact .step hs ih
theorem tree_rc {gs : List (List Nat)} {D p x : Nat} (hc : Cl D gs) (hp : p < D) : x ∈ pts (tree gs D p) ↔ Rc gs p x := by
 constructor
 ·intro hx
  obtain ⟨i, hi, rfl⟩ := mem_idx hx;have hw := trI_w gs p D _ (List.getElem_mem hi);rw [← hw.1];exact goW_rc _ _ .base hw.2
 ·intro h
  induction h with
  | base =>
   have h0 := (tree_ok hc hp).hd;obtain ⟨h1, h2⟩ := List.getElem?_eq_some_iff.1 h0;exact List.mem_map.2 ⟨_, List.getElem_mem h1, by rw [h2]⟩
  | step hs _ ih => exact tree_closed hc hp ih hs
theorem img_inj {gs : List (List Nat)} {D s x y : Nat} (hg : GG D gs) (hs : s < gs.length) (hx : x < D) (hy : y < D) (h : img gs s x = img gs s y) : x = y := by
 obtain ⟨h1, h2⟩ := hg _ (List.getElem_mem hs);rw [img_get hs (by omega), img_get hs (by omega)] at h;exact nodup_inj h1.2 (hi := by omega) (hj := by omega) h
theorem rc_back {gs : List (List Nat)} {D s x : Nat} {S : List Nat} (hg : GG D gs) (hn : S.Nodup) (hlt : ∀ x ∈ S, x < D) (hc : ∀ x ∈ S, img gs s x ∈ S) (hs : s < gs.length) (hx : x < D) (h : img gs s x ∈ S) : x ∈ S := by
 have hm : (S.map (img gs s)).Nodup := by
  rw [List.Nodup, List.pairwise_map];refine List.Pairwise.imp_of_mem ?_ hn;intro a b ha hb hab e;exact hab (img_inj hg hs (hlt a ha) (hlt b hb) e)
 by_cases hin : img gs s x ∈ S.map (img gs s)
 ·obtain ⟨y, hy, e⟩ := List.mem_map.1 hin
  rw [← img_inj hg hs (hlt y hy) hx e];exact hy
 ·exfalso
  have := nodup_le (List.nodup_cons.2 ⟨hin, hm⟩) (m := S) fun z hz => by
   rcases List.mem_cons.1 hz with rfl | hz
   ·exact h
   ·obtain ⟨y, hy, rfl⟩ := List.mem_map.1 hz
    exact hc y hy
  rw [List.length_cons, List.length_map] at this;omega
theorem Rc.lt {gs : List (List Nat)} {D p x : Nat} (hg : GG D gs) (hp : p < D) (h : Rc gs p x) : x < D := by
 induction h with
 | base => exact hp
 | step hs _ ih => exact hg.cl _ hs _ ih
theorem Rc.symm {gs : List (List Nat)} {D p q : Nat} (hg : GG D gs) (hp : p < D) (h : Rc gs p q) : Rc gs q p := by
 have hq := h.lt hg hp;rw [← tree_rc hg.cl hq];have hok := tree_ok hg.cl hq;have hq0 : q ∈ pts (tree gs D q) := (tree_rc hg.cl hq).2 .base
 have key : ∀ x, Rc gs p x → x ∈ pts (tree gs D q) → p ∈ pts (tree gs D q) := by
  intro x hx
  induction hx with
  | base => exact id
  | step hs hx ih => exact fun h1 => ih (rc_back hg hok.nd hok.lt (fun z hz => tree_closed hg.cl hq hz hs) hs (hx.lt hg hp) h1)
 exact key q h hq0
def Rep (gs : List (List Nat)) (r : Nat) : Prop := ∀ x, x < r → ¬ Rc gs x r
theorem rep_exists {gs : List (List Nat)} {D : Nat} : ∀ p, p < D → ∃ r, r ≤ p ∧ Rep gs r ∧ Rc gs r p := by
 intro p
 induction p using Nat.strongRecOn with
 | ind p ih =>
  intro hp
  by_cases h : Rep gs p
  ·exact ⟨p, Nat.le_refl _, h, .base⟩
  ·unfold Rep at h
   have : ∃ x, x < p ∧ Rc gs x p := by
    refine Classical.byContradiction fun hn => h fun x hx hr => hn ⟨x, hx, hr⟩
   obtain ⟨x, hx, hr⟩ := this;obtain ⟨r, h1, h2, h3⟩ := ih x hx (by omega);exact ⟨r, by omega, h2, h3.trans hr⟩
theorem rep_uniq {gs : List (List Nat)} {D r r' p : Nat} (hg : GG D gs) (hr : r < D) (hr' : r' < D) (h : Rep gs r) (h' : Rep gs r') (h1 : Rc gs r p) (h2 : Rc gs r' p) : r = r' := by
 have e1 : Rc gs r r' := h1.trans (h2.symm hg hr');have e2 : Rc gs r' r := h2.trans (h1.symm hg hr)
 rcases Nat.lt_trichotomy r r' with h3 | h3 | h3
 ·exact absurd e1 (h' r h3)
 ·exact h3
 ·exact absurd e2 (h r' h3)
theorem mem_ascT {gs : List (List Nat)} {D r x : Nat} (hg : GG D gs) (hr : r < D) : ((x : Nat) : Int) ∈ asc (Ma.ofN (pts (tree gs D r))) ↔ Rc gs r x := by
 rw [← srt_ofN]
 have : ((x : Nat) : Int) ∈ Ma.ofN (srt (pts (tree gs D r))) ↔ x ∈ srt (pts (tree gs D r)) := by
  unfold Ma.ofN
  constructor
  ·intro h
   obtain ⟨y, hy, e⟩ := List.mem_map.1 h
   have : y = x := by have : (y : Int) = (x : Int) := e; omega
   exact this ▸ hy
  ·exact fun h => List.mem_map.2 ⟨x, h, rfl⟩
 rw [this, mem_srt, tree_rc hg.cl hr]
theorem obsI_reps {gs : List (List Nat)} {D : Nat} (hg : GG D gs) : ∀ k, k ≤ D → ∃ R : List Nat, R.Pairwise (· < ·) ∧ (∀ r, r ∈ R ↔ r < k ∧ Rep gs r) ∧ obsI gs D k = R.map fun r => asc (Ma.ofN (pts (tree gs D r)))
 | 0, _ => ⟨[], .nil, fun r => ⟨fun h => (by cases h), fun h => absurd h.1 (Nat.not_lt_zero _)⟩, rfl⟩
 | k + 1, hk => by
  obtain ⟨R, h1, h2, h3⟩ := obsI_reps hg k (by omega)
  have hsn : sn (obsI gs D k) k = true ↔ ¬ Rep gs k := by
   unfold sn;rw [decide_eq_true_iff, h3]
   constructor
   ·rintro ⟨l, hl, hx⟩ hrep
    obtain ⟨r, hr, rfl⟩ := List.mem_map.1 hl;have := (h2 r).1 hr;exact hrep r this.1 ((mem_ascT hg (by omega)).1 hx)
   ·intro h
    obtain ⟨r, e1, e2, e3⟩ := rep_exists (D := D) k (by omega);have hrk : r ≠ k := fun e => h (e ▸ e2);exact ⟨_, List.mem_map.2 ⟨r, (h2 r).2 ⟨by omega, e2⟩, rfl⟩, (mem_ascT hg (by omega)).2 e3⟩
  by_cases h : Rep gs k
  ·have : sn (obsI gs D k) k = false := by
    cases e : sn (obsI gs D k) k
    ·rfl
    ·exact absurd h (hsn.1 e)
   rw [obsI_out this, h3];refine ⟨R ++ [k], ?_, fun r => ?_, by rw [List.map_append]; rfl⟩
   ·rw [List.pairwise_append]
    exact ⟨h1, List.pairwise_singleton _ _, fun a ha b hb => by rw [List.mem_singleton] at hb; subst hb; exact ((h2 a).1 ha).1⟩
   ·rw [List.mem_append, List.mem_singleton, h2]
    constructor
    ·rintro (⟨e1, e2⟩ | rfl)
     ·exact ⟨by omega, e2⟩
     ·exact ⟨by omega, h⟩
    ·rintro ⟨e1, e2⟩
     by_cases e : r = k
     ·exact .inr e
     ·exact .inl ⟨by omega, e2⟩
  ·rw [obsI_in (hsn.2 h), h3]
   refine ⟨R, h1, fun r => ?_, rfl⟩;rw [h2]
   constructor
   ·exact fun ⟨e1, e2⟩ => ⟨by omega, e2⟩
   ·rintro ⟨e1, e2⟩
    exact ⟨by have : r ≠ k := fun e => h (e ▸ e2); omega, e2⟩

theorem asc_ple (l : List Int) : (asc l).Pairwise (· ≤ ·) := (asc_fold l [] .nil).2
theorem asc_perm (l : List Int) : (asc l).Perm l := by
 have h := (asc_fold l [] .nil).1;rw [List.append_nil] at h;exact h
theorem asc_lt {l : List Nat} (h : l.Nodup) : (asc (Ma.ofN l)).Pairwise (· < ·) := by
 have hn : (asc (Ma.ofN l)).Nodup := by
  rw [(asc_perm _).nodup_iff];unfold Ma.ofN;rw [List.Nodup, List.pairwise_map];exact h.imp fun hab e => hab (by omega)
 exact ((asc_ple _).and hn).imp fun {a b} h => by have h1 := h.1; have h2 : a ≠ b := h.2; omega
structure Part (gs : List (List Nat)) (D : Nat) (O : List (List Int)) (cls : Nat → Nat) : Prop where
 lt : ∀ p, p < D → cls p < O.length
 ne : ∀ i (hi : i < O.length), 0 < O[i].length
 el : ∀ i (hi : i < O.length) k (hk : k < O[i].length), ∃ x : Nat, O[i][k] = (x : Int) ∧ x < D ∧ cls x = i
 up : ∀ i (hi : i < O.length) k (hk : k < O[i].length), 0 < k → O[i][k - 1]'(by omega) < O[i][k]
 hd : ∀ i (hi : i < O.length) (_ : 0 < i) (h1 : 0 < (O[i - 1]'(by omega)).length) (h2 : 0 < O[i].length), (O[i - 1]'(by omega))[0] < O[i][0]
 mem : ∀ p, p < D → ∀ (h : cls p < O.length), (p : Int) ∈ O[cls p]
 eq : ∀ p q, p < D → q < D → (cls p = cls q ↔ Rc gs p q)
theorem part_ok {gs : List (List Nat)} {D : Nat} (hg : GG D gs) : ∃ cls, Part gs D (obsI gs D D) cls := by
 obtain ⟨R, h1, h2, h3⟩ := obsI_reps hg D (Nat.le_refl _);have hRD : ∀ r ∈ R, r < D := fun r hr => ((h2 r).1 hr).1
 have hex : ∀ p, p < D → ∃ i, ∃ hi : i < R.length, Rc gs R[i] p := fun p hp => by
  obtain ⟨r, e1, e2, e3⟩ := rep_exists (D := D) p hp;obtain ⟨i, hi, rfl⟩ := List.getElem_of_mem ((h2 r).2 ⟨by omega, e2⟩);exact ⟨i, hi, e3⟩
 have hun : ∀ i j (hi : i < R.length) (hj : j < R.length) p, Rc gs R[i] p → Rc gs R[j] p → i = j := fun i j hi hj p e1 e2 => by
  have hr := rep_uniq hg (hRD _ (List.getElem_mem hi)) (hRD _ (List.getElem_mem hj)) ((h2 _).1 (List.getElem_mem hi)).2 ((h2 _).1 (List.getElem_mem hj)).2 e1 e2;exact nodup_inj (h1.imp fun h => Nat.ne_of_lt h) hr
 obtain ⟨cls, hc⟩ : ∃ cls : Nat → Nat, ∀ p, p < D → ∃ hi : cls p < R.length, Rc gs R[cls p] p :=
  ⟨fun p => if h : p < D then Classical.choose (hex p h) else 0, fun p hp => by simp only [dif_pos hp]; exact Classical.choose_spec (hex p hp)⟩
 refine ⟨cls, ?_⟩
 have hl : (obsI gs D D).length = R.length := by rw [h3, List.length_map]
 have hget : ∀ i (hi : i < (obsI gs D D).length) (hi2 : i < R.length), (obsI gs D D)[i] = asc (Ma.ofN (pts (tree gs D R[i]))) := fun i hi hi2 => by
  simp only [h3, List.getElem_map]
 have hmem : ∀ i (hi : i < R.length) x, ((x : Nat) : Int) ∈ asc (Ma.ofN (pts (tree gs D R[i]))) ↔ Rc gs R[i] x := fun i hi x => mem_ascT hg (hRD _ (List.getElem_mem hi))
 have hnat : ∀ i (hi : i < R.length) z, z ∈ asc (Ma.ofN (pts (tree gs D R[i]))) → ∃ x : Nat, z = (x : Int) ∧ Rc gs R[i] x := fun i hi z hz => by
  have : z ∈ Ma.ofN (pts (tree gs D R[i])) := (asc_perm _).mem_iff.1 hz;obtain ⟨x, _, rfl⟩ := List.mem_map.1 this;exact ⟨x, rfl, (hmem i hi x).1 hz⟩
 have hasc : ∀ i (hi : i < R.length), (asc (Ma.ofN (pts (tree gs D R[i])))).Pairwise (· < ·) := fun i hi => asc_lt (tree_ok hg.cl (hRD _ (List.getElem_mem hi))).nd;have hpos : ∀ i (hi : i < R.length), 0 < (asc (Ma.ofN (pts (tree gs D R[i])))).length := fun i hi => List.length_pos_of_mem ((hmem i hi R[i]).2 .base)
 have hfst : ∀ i (hi : i < R.length) (h0 : 0 < (asc (Ma.ofN (pts (tree gs D R[i])))).length), (asc (Ma.ofN (pts (tree gs D R[i]))))[0] = ((R[i] : Nat) : Int) := fun i hi h0 => by
  obtain ⟨k, hk, e⟩ := List.getElem_of_mem ((hmem i hi R[i]).2 .base);obtain ⟨x, hx, hr⟩ := hnat i hi _ (List.getElem_mem h0);have hxD : x < D := hr.lt hg (hRD _ (List.getElem_mem hi))
  have hle : x ≤ R[i] := by
   rcases Nat.eq_zero_or_pos k with hk0 | hk0
   ·subst hk0; omega
   ·have := List.pairwise_iff_getElem.1 (hasc i hi) 0 k h0 hk hk0
    omega
  rcases Nat.lt_or_ge x R[i] with hlt | hge
  ·exact absurd (hr.symm hg (hRD _ (List.getElem_mem hi))) (((h2 _).1 (List.getElem_mem hi)).2 x hlt)
  ·omega
 refine ⟨fun p hp => by rw [hl]; exact (hc p hp).1, fun i hi => ?_, fun i hi k hk => ?_, fun i hi k hk hk0 => ?_, fun i hi hi0 e1 e2 => ?_, fun p hp h => ?_, fun p q hp hq => ?_⟩
 ·rw [hget i hi (by omega)]; exact hpos i (by omega)
 ·have hi2 : i < R.length := by omega
  obtain ⟨x, e1, e2⟩ := hnat i hi2 _ (by rw [← hget i hi hi2]; exact List.getElem_mem hk);have hxD : x < D := e2.lt hg (hRD _ (List.getElem_mem hi2));obtain ⟨hci, hcr⟩ := hc x hxD;exact ⟨x, e1, hxD, hun _ _ hci hi2 x hcr e2⟩
 ·have hi2 : i < R.length := by omega
  have := hasc i hi2;rw [← hget i hi hi2] at this;exact List.pairwise_iff_getElem.1 this (k - 1) k (by omega) hk (by omega)
 ·have hi2 : i < R.length := by omega
  have a1 : (obsI gs D D)[i][0] = ((R[i] : Nat) : Int) := by simp only [hget i hi hi2]; exact hfst i hi2 (hpos i hi2)
  have a2 : ((obsI gs D D)[i - 1]'(by omega))[0] = ((R[i - 1] : Nat) : Int) := by simp only [hget (i - 1) (by omega) (by omega)]; exact hfst (i - 1) (by omega) (hpos (i - 1) (by omega))
  rw [a1, a2];have := List.pairwise_iff_getElem.1 h1 (i - 1) i (by omega) hi2 (by omega);omega
 ·obtain ⟨hci, hcr⟩ := hc p hp
  rw [hget _ h hci];exact (hmem _ hci p).2 hcr
 ·obtain ⟨hci, hcr⟩ := hc p hp
  obtain ⟨hcj, hcs⟩ := hc q hq
  constructor
  ·intro e
   have : Rc gs R[cls p] q := by simpa only [e] using hcs
   exact (hcr.symm hg (hRD _ (List.getElem_mem hci))).trans this
  ·exact fun h => hun _ _ hci hcj q (hcr.trans h) hcs
end Go.Proofs.Ytcfomoknlchemaa

namespace Go.Proofs.Ytcfomoknlchemaa
open Go.RowKit
open Go.Proofs
open Go.Proofs.Ob
open Go.Proofs.Cm (Gd)
attribute [local irreducible] Go.Calls Go.wpList
theorem Fucl0 (args : Array Value) (w : World) : (callFunc 7 args).run Try.prog w = .ok (.enter 7 args) w := by kernel_rfl
theorem Fucl1 (args : Array Value) (w : World) : (callFunc 15 args).run Try.prog w = .ok (.enter 15 args) w := by kernel_rfl
theorem exec_neB {o : Oper} {a : Act} {w : World} (x y : Operand) (ho : o.op = .binOp .neq 4 x y 4) {s : Bool} (hx : a.eval x = .bool s) (hy : a.eval y = .bool s) : (execOp a.eval o).run Try.prog w = .ok (.value (.bool false)) w := by
 unfold execOp;simp only [ho, hx, hy]
 cases s <;> kernel_rfl
theorem gg_of {D : Nat} {gs : List (List Nat)} (h : ∀ s ∈ gs, Gd D s) : GG D gs := fun s hs => h s hs
theorem path_code {gs : List (List Nat)} {D p q : Nat} {O : List (List Int)} {cls : Nat → Nat} (hk : Ma.gchk ((D : Nat) : Int) (gs.map Ma.ofN) = 0) (hg : GG D gs) (hP : Part gs D O cls) (hp : p < D) (hq : q < D) : (pathS ((D : Nat) : Int) (gs.map Ma.ofN) ((p : Nat) : Int) ((q : Nat) : Int)).2 = if cls p = cls q then 0 else 18 := by
 unfold pathS;have e1 : isPt ((D : Nat) : Int) ((p : Nat) : Int) = true := decide_eq_true (by omega);have e2 : isPt ((D : Nat) : Int) ((q : Nat) : Int) = true := decide_eq_true (by omega);rw [if_pos hk, if_pos ⟨e1, e2⟩]
 have e3 : treeL ((D : Nat) : Int) (gs.map Ma.ofN) ((p : Nat) : Int) = tree gs D p := by unfold treeL; rw [toNs_ofN]; rfl
 rw [e3];have e4 : (((q : Nat) : Int)).toNat = q := rfl;rw [e4]
 by_cases h : cls p = cls q
 ·rw [if_pos h, if_pos ((tree_rc hg.cl hp).2 ((hP.eq p q hp hq).1 h))]
 ·rw [if_neg h, if_neg (fun h2 => h ((hP.eq p q hp hq).2 ((tree_rc hg.cl hp).1 h2)))]
def mkF (O : List (List Int)) (cls : Nat → Nat) (i k : Nat) (x : Nat) : Int := if cls x < i ∨ (cls x = i ∧ ((x : Nat) : Int) ∈ (O.getD i []).take k) then ((cls x + 1 : Nat) : Int) else 0
structure RsO (w : World) (v : Value) (T : List (List Int)) : Prop where
 r : Rg.Rows w v T
theorem RsO.below {w w' : World} {v : Value} {T : List (List Int)} (h : RsO w v T) (hb : Below w.heap.size w w') : RsO w' v T := ⟨Rg.Rows.below h.r hb⟩
theorem rows_get {w : World} {a : Option Addr} {n c : Nat} {T : List (List Int)} (h : Rg.Rows w (.slice a n c) T) {i : Nat} (hi : i < T.length) : ∃ b o ua uc, a = some ⟨b, o, none⟩ ∧ b < w.heap.size ∧ w.cell? ⟨b, o + i, none⟩ = some (.slice ua T[i].length uc) ∧ Rg.Ints w (.slice ua T[i].length uc) T[i] := by
 obtain ⟨a', c', e, -, -, -, hx⟩ := h.shape;simp only [Value.slice.injEq] at e;obtain ⟨rfl, rfl, rfl⟩ := e;obtain ⟨b, o, e1, e2, e3⟩ := hx (by omega);obtain ⟨u, h1, h2⟩ := e3 i hi;obtain ⟨ua, uc, e4, -⟩ := Rg.Ints.shape h2;subst e4;exact ⟨b, o, ua, uc, e1, e2, h1, h2⟩
theorem ints_get {w : World} {a : Option Addr} {n c : Nat} {l : List Int} (h : Rg.Ints w (.slice a n c) l) {k : Nat} (hk : k < l.length) : ∃ b o, a = some ⟨b, o, none⟩ ∧ b < w.heap.size ∧ w.cell? ⟨b, o + k, none⟩ = some (.int .i64 l[k]) := by
 obtain ⟨a', c', e, -, -, -, hx⟩ := h.shape;simp only [Value.slice.injEq] at e;obtain ⟨rfl, rfl, rfl⟩ := e;obtain ⟨b, o, e1, e2, e3⟩ := hx (by omega);exact ⟨b, o, e1, e2, e3 k hk⟩
theorem mkF_zero (O : List (List Int)) (cls : Nat → Nat) (x : Nat) : mkF O cls 0 0 x = 0 := by unfold mkF; rw [if_neg]; rintro (h | h); exact absurd h (Nat.not_lt_zero _); rw [List.take_zero] at h; cases h.2
variable {gs : List (List Nat)} {D : Nat} {O : List (List Int)} {cls : Nat → Nat}
theorem mkF_next (hP : Part gs D O cls) {i : Nat} (hi : i < O.length) {x : Nat} (hx : x < D) : mkF O cls (i + 1) 0 x = mkF O cls i O[i].length x := by
 unfold mkF
 have e : O.getD i [] = O[i] := by rw [List.getD_eq_getElem?_getD, List.getElem?_eq_getElem hi, Option.getD_some]
 rw [e, List.take_length, List.take_zero]
 by_cases h1 : cls x < i
 ·rw [if_pos (.inl (by omega)), if_pos (.inl h1)]
 ·by_cases h2 : cls x = i
  ·subst h2
   rw [if_pos (.inl (by omega)), if_pos (.inr ⟨rfl, hP.mem x hx hi⟩)]
  ·rw [if_neg (by rintro (h | h); omega; cases h.2), if_neg (by rintro (h | h); omega; exact h2 h.1)]
theorem mkF_new (hP : Part gs D O cls) {i k x : Nat} (hi : i < O.length) (hk : k < O[i].length) (hx : O[i][k] = ((x : Nat) : Int)) (hc : cls x = i) : mkF O cls i k x = 0 := by
 unfold mkF;rw [if_neg];rw [List.getD_eq_getElem?_getD, List.getElem?_eq_getElem hi, Option.getD_some]
 rintro (h | ⟨_, h⟩)
 ·omega
 ·obtain ⟨j, hj, e⟩ := List.getElem_of_mem h
  rw [List.getElem_take] at e;rw [List.length_take] at hj
  have hlt : ∀ n j, j + n + 1 = k → ∀ h : j < O[i].length, O[i][j] < O[i][k] := by
   intro n
   induction n with
   | zero => intro j e1 h; have := hP.up i hi k hk (by omega); obtain rfl : j = k - 1 := (by omega); exact this
   | succ n ih =>
    intro j e1 h;have h1 := hP.up i hi (j + 1) (by omega) (by omega);have h2 := ih (j + 1) (by omega) (by omega);have e2 : O[i][j + 1 - 1]'(by omega) = O[i][j] := rfl;omega
  have := hlt (k - j - 1) j (by omega) (by omega);omega
theorem mkF_put {i k x y : Nat} (hi : i < O.length) (hk : k < O[i].length) (hx : O[i][k] = ((x : Nat) : Int)) (hc : cls x = i) : (if y = x then (((i + 1 : Nat)) : Int) else mkF O cls i k y) = mkF O cls i (k + 1) y := by
 unfold mkF;rw [List.getD_eq_getElem?_getD, List.getElem?_eq_getElem hi, Option.getD_some, List.take_succ_eq_append_getElem hk]
 by_cases e : y = x
 ·subst e
  rw [if_pos rfl, if_pos (.inr ⟨hc, by rw [List.mem_append, hx]; exact .inr (by simp)⟩), hc]
 ·rw [if_neg e]
  have : (cls y = i ∧ ((y : Nat) : Int) ∈ O[i].take k ++ [O[i][k]]) ↔ (cls y = i ∧ ((y : Nat) : Int) ∈ O[i].take k) := by
   rw [List.mem_append, List.mem_singleton, hx]
   constructor
   ·rintro ⟨h1, h2 | h2⟩
    ·exact ⟨h1, h2⟩
    ·exact absurd (by omega) e
   ·exact fun ⟨h1, h2⟩ => ⟨h1, .inl h2⟩
  by_cases h : cls y < i ∨ (cls y = i ∧ ((y : Nat) : Int) ∈ O[i].take k)
  ·rw [if_pos h, if_pos (h.imp id this.2)]
  ·rw [if_neg h, if_neg (fun h2 => h (h2.imp id this.1))]
theorem mkF_end (hP : Part gs D O cls) {x : Nat} (hx : x < D) : mkF O cls O.length 0 x = ((cls x + 1 : Nat) : Int) := by
 unfold mkF; rw [if_pos (.inl (hP.lt x hx))]
theorem OrbitParts_any (v0 : Value) (l0 : List Int) (w : World) (h0 : Rg.IntsB maxLen w v0 l0) :
  Calls Try.prog 8 #[v0] w fun e w' => e = .returned (.bool true) ∧ Below w.heap.size w w' := by
 obtain ⟨a0, c0, rfl, -⟩ := h0.shape;have HL0 := ι (show IB w (.slice a0 l0.length c0) l0 from ⟨h0⟩);clear h0;have K := ι (Below.refl w.heap.size w)
 go_enter Try.func8, Try.ntmps8
 go_upto_region 0 with (fail);refine wp_region_list ?_;refine Rg.lr 2 (Rg.xa (.bool false) _ rfl rfl) ?_;go_frame;go_upto_region 1 with (fail);refine wp_region_list ?_;refine list_ask (some 16) rfl rfl _ _ (exec_fn0 7 _ rfl (Fucl0 _ _)) ?_;refine (OrbitKnown_any w).mono ?_;rintro e1 w1 ⟨rfl, hb⟩;refine ⟨_, rfl, ?_⟩;go_frame;replace HL0 := ι (HL0.out.below hb);replace K := ι (Rg.acc K.out hb);clear hb;refine Rg.lr 3 (Rg.xa (.bool true) _ rfl rfl) ?_;go_frame;go_upto_region 2 with (fail);refine wp_region_list ?_;refine Rg.lr 17 (Rg.xm (.slice a0 l0.length c0) _ rfl rfl) ?_;go_frame;refine list_ask (some 18) rfl rfl _ _ (exec_fn 15 _ _ _ rfl rfl rfl (Fucl1 _ _)) ?_;refine (GroupOf_any _ _ 12 w1 HL0.out.i (by decide) (by decide)).mono ?_;rintro e1 w2 ⟨d, gv, gs, rfl, hd1, hd2, hgl, hgs, hgr, hb⟩;obtain ⟨ga, gc, rfl, -⟩ := hgr.shape;have HD := ι (show 1 ≤ d ∧ d ≤ 12 from ⟨hd1, hd2⟩);have HGS := ι hgs
 have HGL := ι hgl;have HCK := ι (gchk_good (gs := gs) hd1 (by omega) (by omega) hgs);clear hgs hgl;refine ⟨_, rfl, ?_⟩;go_frame;replace HL0 := ι (HL0.out.below hb);replace K := ι (Rg.acc K.out hb);clear hb;have HG := ι hgr;obtain ⟨W2, hst, hga, hb⟩ := GI.fresh (d := ((d : Nat) : Int)) HG.out;refine Rg.lr 4 (exec_allocG rfl) ?_;go_frame;refine Rg.list_skip none rfl rfl (Rg.exec_store _ _ _ rfl _ rfl _ rfl hst) ?_;go_frame;clear hst;clear hgr;replace HL0 := ι (HL0.out.below hb);replace HG := ι (HG.out.below hb);replace K := ι (Rg.acc K.out hb);clear hb;have G6 := ι hga;clear hga;have hd12 : 1 ≤ d ∧ d ≤ 12 := HD.out;have HGG := ι (gg_of HGS.out);obtain ⟨cls, hpt⟩ := part_ok HGG.out;have HP := ι hpt;clear hpt;obtain ⟨O, hO⟩ : ∃ O, Hid (obsI gs d d = O) := ⟨_, ι rfl⟩;have hos := orbsS_ok (D := d) (gs := gs) HCK.out;rw [hO.out] at hos HP;have HOS := ι hos;clear hos;go_upto_region 3 with (fail)
 refine wp_region_list ?_;refine Rg.lr 20 (Rg.exec_load (v := .agg #[.int .i64 ((d : Nat) : Int), .slice ga (gs.map Ma.ofN).length gc]) _ _ rfl ⟨w2.heap.size, 0, none⟩ rfl (run_loadG G6.out.c0 G6.out.c1)) ?_;go_frame;refine list_ask (some 21) rfl rfl _ _ (exec_fn1 44 _ _ rfl rfl (Fqcl1 _ _)) ?_;refine (Orbits_any _ ((d : Nat) : Int) (gs.map Ma.ofN) W2 HG.out).mono ?_;rintro e1 w3 ⟨ov, rfl, hov, hb⟩;rw [HOS.out] at hov ⊢;obtain ⟨oa, oc, rfl, -⟩ := Rg.Rows.shape hov;have hov2 := RsO.mk hov;refine ⟨_, rfl, ?_⟩;go_frame;replace HL0 := ι (HL0.out.below hb);replace HG := ι (HG.out.below hb);replace G6 := ι (G6.out.below hb);replace K := ι (Rg.acc K.out hb);clear hb;have OR := ι hov2;refine Rg.lr 19 (Rg.xm (.tuple #[.slice oa O.length oc, .int .i64 ((0 : Nat) : Int)]) _ rfl rfl) ?_;go_frame;refine Rg.lr 22 (exec_extract (v := .slice oa O.length oc) _ _ rfl rfl rfl) ?_;go_frame;refine Rg.lr 23 (exec_extract (v := .int .i64 ((0 : Nat) : Int)) _ _ rfl rfl rfl) ?_;go_frame
 refine Rg.lr 5 (Rg.xa (.slice oa O.length oc) _ rfl rfl) ?_;go_frame;refine Rg.lr 6 (Rg.xa (.int .i64 ((0 : Nat) : Int)) _ rfl rfl) ?_;go_frame;clear hov hov2;have HO3 := OR
 have hOl : O.length ≤ 12 := by have := obsI_len gs d d; rw [hO.out] at this; omega
 clear OR;have hmk := marksI w3 d;go_upto_region 6 with (fail);refine wp_region_list ?_;refine Rg.lr 26 (exec_fieldG0 _ rfl rfl) ?_;go_frame;refine Rg.lr 27 (Rg.exec_load (v := .int .i64 ((d : Nat) : Int)) _ _ rfl ⟨w2.heap.size, 0, none⟩ rfl (run_loadInt G6.out.c0)) ?_;go_frame;refine Rg.lr 28 (exec_makeSlice _ _ _ rfl _ _ rfl rfl (mkInts d (by omega) w3)) ?_;go_frame;refine Rg.lr 7 (Rg.xa (.slice (some ⟨w3.heap.size, 0, none⟩) d d) _ rfl rfl) ?_;go_frame;have IR := ι (InR.mk (W := w3.alloc (.cells (madeCells #[.int .i64 0] d) 3)) (f := mkF O cls 0 0) (hmk.congr (fun j _ => by rw [mkF_zero])) (by simp));have KB := ι ((Below.refl w3.heap.size w3).alloc (Nat.le_refl _) (.cells (madeCells #[.int .i64 0] d) 3));generalize w3.alloc (.cells (madeCells #[.int .i64 0] d) 3) = wx at *;clear hmk;go_upto_region 7 with (fail);refine wp_region_list ?_;refine Rg.lr 8 (Rg.xa (.int .i64 ((0 : Nat) : Int)) _ rfl rfl) ?_;go_frame
 go_wp2
 go_loopw [8] (fun iv wr => ∃ i : Nat, iv = .int .i64 ((i : Nat) : Int) ∧ i ≤ O.length ∧ Hid (InR wr w3.heap.size d (mkF O cls (i) (0))) ∧ Hid (Below w3.heap.size w3 wr)) (fun iv _ => O.length - (intOf iv).toNat)
 case atStart => exact ⟨0, rfl, Nat.zero_le _, IR, KB⟩
 case round =>
  clear IR KB;obtain ⟨i, rfl, hi, IR, KB⟩ := hrel;generalize wr = wc at *
  by_cases hil : i < O.length
  case pos =>
   obtain ⟨ob, oo, ua, uc, rfl, hob, hoc, hou⟩ := rows_get HO3.out.r hil;obtain ⟨li, hli⟩ : ∃ z, Hid (O[i]'hil = z) := ⟨_, ι rfl⟩;rw [hli.out] at hoc hou;have HOB := ι hob;have HOC := ι hoc;have HOU := ι hou;have HIL := ι hil
   have hlb : li.length ≤ 1000000000 := by obtain ⟨_, _, _, _, h9, _⟩ := Rg.Ints.shape hou; exact h9
   clear hob hoc hou;go_upto_region 8 with (fail);refine wp_region_list ?_;refine Rg.lr 29 (Rg.xm (.int .i64 ((i : Nat) : Int)) _ rfl rfl) ?_;go_frame;refine Rg.lr 30 (Rg.xm (.slice (some ⟨ob, oo, none⟩) O.length oc) _ rfl rfl) ?_;go_frame;refine Rg.lr 31 (exec_len _ _ _ rfl Try.underlying29 _ _ _ rfl) ?_;go_frame;refine Rg.lr 32 (exec_bin (R := .bool true) .lss _ _ _ rfl rfl rfl (b_lss _ (decide_eq_true (by omega)))) ?_;go_frame;go_upto_region 10 with (fail);refine wp_region_list ?_;refine Rg.lr 9 (Rg.xa (.int .i64 ((0 : Nat) : Int)) _ rfl rfl) ?_;go_frame;go_wp2
   go_loopw [9] (fun kv wr => ∃ k : Nat, kv = .int .i64 ((k : Nat) : Int) ∧ k ≤ li.length ∧ Hid (InR wr w3.heap.size d (mkF O cls (i) (k))) ∧ Hid (Below w3.heap.size w3 wr)) (fun kv _ => li.length - (intOf kv).toNat)
   case atStart => exact ⟨0, rfl, Nat.zero_le _, IR, KB⟩
   case round =>
    clear IR KB;obtain ⟨k, rfl, hk, IR, KB⟩ := hrel;generalize wr = wd at *;have CO := ι (show wd.cell? ⟨ob, oo + i, none⟩ = some (.slice ua li.length uc) from (KB.out.cell (p := ⟨ob, oo + i, none⟩) HOB.out).trans HOC.out)
    by_cases hkl : k < li.length
    case neg =>
     skip
     go_upto_region 11 with (fail);refine wp_region_list ?_;refine Rg.lr 35 (Rg.xm (.int .i64 ((k : Nat) : Int)) _ rfl rfl) ?_;go_frame;refine Rg.lr 36 (Rg.xm (.slice (some ⟨ob, oo, none⟩) O.length oc) _ rfl rfl) ?_;go_frame;refine Rg.lr 37 (Rg.xm (.int .i64 ((i : Nat) : Int)) _ rfl rfl) ?_;go_frame;refine Rg.lr 38 (exec_indexS slIntss _ _ rfl ob (oo) (O.length) oc (i) rfl rfl HIL.out) ?_;go_frame;refine Rg.lr 39 (Rg.exec_load (v := .slice ua li.length uc) _ _ rfl ⟨ob, oo + i, none⟩ rfl (Rg.run_loadSl _ _ Try.underlying22 CO.out)) ?_;go_frame;refine Rg.lr 40 (exec_len _ _ _ rfl Try.underlying22 _ _ _ rfl) ?_;go_frame;refine Rg.lr 41 (exec_bin (R := .bool false) .lss _ _ _ rfl rfl rfl (b_lss _ (decide_eq_false (by omega)))) ?_;go_frame;go_upto_region 9 with (fail);refine wp_region_list ?_;refine Rg.lr 33 (Rg.xm (.int .i64 ((i : Nat) : Int)) _ rfl rfl) ?_;go_frame;refine Rg.lr 34 (exec_bin (R := .int .i64 (((i + 1) : Nat) : Int)) .add _ _ _ rfl rfl rfl (b_add _ (by omega) (by omega))) ?_;go_frame
     refine Rg.lr 8 (Rg.xa (.int .i64 (((i + 1) : Nat) : Int)) _ rfl rfl) ?_;go_frame;go_wp2
     go_roundw
     case rel =>
      obtain rfl : k = li.length := by omega
      refine ⟨i + 1, by go_num, HIL.out, ι ⟨IR.out.row.congr (fun x hx => ?_), IR.out.lt⟩, KB⟩;have := mkF_next HP.out HIL.out hx;rw [hli.out] at this;rw [this]
     case measure => simp [intOf]; have := HIL.out; omega
    case pos =>
     obtain ⟨ub, uo, rfl, hub, huc⟩ := ints_get HOU.out hkl;obtain ⟨x, hx, hxd, hcx⟩ := HP.out.el i HIL.out k (by rw [hli.out]; exact hkl)
     have hxe : li[k]'hkl = ((x : Nat) : Int) := by rw [← hx]; simp only [hli.out]
     rw [hxe] at huc;have CX := ι (show wd.cell? ⟨ub, uo + k, none⟩ = some (.int .i64 ((x : Nat) : Int)) from (KB.out.cell (p := ⟨ub, uo + k, none⟩) hub).trans huc);have HZ := ι (mkF_new HP.out HIL.out (by rw [hli.out]; exact hkl) hx hcx);have HX := ι hx;have HCX := ι hcx;have CI := ι (show wd.cell? ⟨w3.heap.size, 0 + x, none⟩ = some (.int .i64 0) by rw [Nat.zero_add, IR.out.row.cell hxd, HZ.out]);have FI' := ι (show wd.frozen? ⟨w3.heap.size, 0 + x, none⟩ = false by rw [Nat.zero_add]; exact IR.out.row.frozen x);have HKL := ι hkl;clear huc hub hx hcx;go_upto_region 11 with (fail);refine wp_region_list ?_;refine Rg.lr 35 (Rg.xm (.int .i64 ((k : Nat) : Int)) _ rfl rfl) ?_;go_frame;refine Rg.lr 36 (Rg.xm (.slice (some ⟨ob, oo, none⟩) O.length oc) _ rfl rfl) ?_;go_frame;refine Rg.lr 37 (Rg.xm (.int .i64 ((i : Nat) : Int)) _ rfl rfl) ?_;go_frame;refine Rg.lr 38 (exec_indexS slIntss _ _ rfl ob (oo) (O.length) oc (i) rfl rfl HIL.out) ?_;go_frame
     refine Rg.lr 39 (Rg.exec_load (v := .slice (some ⟨ub, uo, none⟩) li.length uc) _ _ rfl ⟨ob, oo + i, none⟩ rfl (Rg.run_loadSl _ _ Try.underlying22 CO.out)) ?_;go_frame;refine Rg.lr 40 (exec_len _ _ _ rfl Try.underlying22 _ _ _ rfl) ?_;go_frame;refine Rg.lr 41 (exec_bin (R := .bool true) .lss _ _ _ rfl rfl rfl (b_lss _ (decide_eq_true (by omega)))) ?_;go_frame;go_upto_region 13 with (fail);refine wp_region_list ?_;refine Rg.lr 44 (Rg.xm (.slice (some ⟨ob, oo, none⟩) O.length oc) _ rfl rfl) ?_;go_frame;refine Rg.lr 45 (Rg.xm (.int .i64 ((i : Nat) : Int)) _ rfl rfl) ?_;go_frame;refine Rg.lr 46 (exec_indexS slIntss _ _ rfl ob (oo) (O.length) oc (i) rfl rfl HIL.out) ?_;go_frame;refine Rg.lr 47 (Rg.exec_load (v := .slice (some ⟨ub, uo, none⟩) li.length uc) _ _ rfl ⟨ob, oo + i, none⟩ rfl (Rg.run_loadSl _ _ Try.underlying22 CO.out)) ?_;go_frame;refine Rg.lr 48 (Rg.xm (.int .i64 ((k : Nat) : Int)) _ rfl rfl) ?_;go_frame
     refine Rg.lr 49 (exec_indexS slInts _ _ rfl ub (uo) (li.length) uc (k) rfl rfl HKL.out) ?_;go_frame;refine Rg.lr 50 (Rg.exec_load (v := .int .i64 ((x : Nat) : Int)) _ _ rfl ⟨ub, uo + k, none⟩ rfl (run_loadInt CX.out)) ?_;go_frame;refine Rg.lr 10 (Rg.xa (.int .i64 ((x : Nat) : Int)) _ rfl rfl) ?_;go_frame
     by_cases hk0 : 0 < k
     case pos =>
      have hup := HP.out.up i HIL.out k (by rw [hli.out]; exact HKL.out) hk0;obtain ⟨y, hy⟩ : ∃ y, Hid (li[k - 1]'(by omega) = y) := ⟨_, ι rfl⟩
      have hyx : y < ((x : Nat) : Int) := by
       have e1 : (O[i]'HIL.out)[k - 1]'(by rw [hli.out]; omega) = y := by rw [← hy.out]; simp only [hli.out]
       rw [← e1, ← HX.out]; exact hup
      obtain ⟨ub', uo', e, hub, huc⟩ := ints_get HOU.out (show k - 1 < li.length by omega);simp only [Option.some.injEq, Addr.mk.injEq, and_true] at e;obtain ⟨rfl, rfl⟩ := e;rw [hy.out] at huc;have CY := ι (show wd.cell? ⟨ub, uo + (k - 1), none⟩ = some (.int .i64 y) from (KB.out.cell (p := ⟨ub, uo + (k - 1), none⟩) hub).trans huc);clear hup huc hub;go_upto_region 14 with (fail);refine wp_region_list ?_;refine Rg.lr 51 (Rg.xm (.int .i64 ((x : Nat) : Int)) _ rfl rfl) ?_;go_frame;refine Rg.lr 52 (exec_bin (R := .bool false) .lss _ _ _ rfl rfl rfl (b_lss _ (decide_eq_false (by omega)))) ?_;go_frame;refine Rg.lr 53 (Rg.xm (.bool false) _ rfl rfl) ?_;go_frame;refine listW_run (some 54) rfl rfl (Rg.xm (.int .i64 ((x : Nat) : Int)) _ rfl rfl) ?_;go_frame;refine listW_run (some 55) rfl rfl (exec_fieldG0 _ rfl rfl) ?_;go_frame;refine listW_run (some 56) rfl rfl (Rg.exec_load (v := .int .i64 ((d : Nat) : Int)) _ _ rfl ⟨w2.heap.size, 0, none⟩ rfl (run_loadInt ((KB.out.cell (p := ⟨w2.heap.size, 0, none⟩) G6.out.lt).trans G6.out.c0))) ?_;go_frame
      refine listW_run (some 57) rfl rfl (exec_bin (R := .bool false) .geq _ _ _ rfl rfl rfl (b_geq _ (decide_eq_false (by omega)))) ?_;go_frame;refine Rg.lr 58 (exec_pickF (v := .bool false) _ _ _ rfl rfl rfl) ?_;go_frame;refine Rg.lr 59 (Rg.xm (.bool false) _ rfl rfl) ?_;go_frame;refine listW_run (some 60) rfl rfl (Rg.xm (.slice (some ⟨w3.heap.size, 0, none⟩) d d) _ rfl rfl) ?_;go_frame;refine listW_run (some 61) rfl rfl (Rg.xm (.int .i64 ((x : Nat) : Int)) _ rfl rfl) ?_;go_frame;refine listW_run (some 62) rfl rfl (exec_indexS slInts _ _ rfl w3.heap.size (0) (d) d (x) rfl rfl hxd) ?_;go_frame;refine listW_run (some 63) rfl rfl (Rg.exec_load (v := .int .i64 0) _ _ rfl ⟨w3.heap.size, 0 + x, none⟩ rfl (run_loadInt CI.out)) ?_;go_frame;refine listW_run (some 64) rfl rfl (exec_bin (R := .bool false) .neq _ _ _ rfl rfl rfl (b_neqB _ (decide_eq_false (fun h => h rfl)))) ?_;go_frame;refine Rg.lr 65 (exec_pickF (v := .bool false) _ _ _ rfl rfl rfl) ?_;go_frame
      refine Rg.lr 66 (Rg.xm (.bool false) _ rfl rfl) ?_;go_frame;refine listW_run (some 67) rfl rfl (Rg.xm (.int .i64 ((k : Nat) : Int)) _ rfl rfl) ?_;go_frame;refine listW_run (some 68) rfl rfl (exec_bin (R := .bool true) .gtr _ _ _ rfl rfl rfl (b_gtr _ (decide_eq_true (by omega)))) ?_;go_frame;refine listW_run (some 69) rfl rfl (Rg.xm (.bool true) _ rfl rfl) ?_;go_frame;refine listW_run (some 70) rfl rfl (Rg.xm (.int .i64 ((x : Nat) : Int)) _ rfl rfl) ?_;go_frame;refine listW_run (some 71) rfl rfl (Rg.xm (.slice (some ⟨ob, oo, none⟩) O.length oc) _ rfl rfl) ?_;go_frame;refine listW_run (some 72) rfl rfl (Rg.xm (.int .i64 ((i : Nat) : Int)) _ rfl rfl) ?_;go_frame;refine listW_run (some 73) rfl rfl (exec_indexS slIntss _ _ rfl ob (oo) (O.length) oc (i) rfl rfl HIL.out) ?_;go_frame;refine listW_run (some 74) rfl rfl (Rg.exec_load (v := .slice (some ⟨ub, uo, none⟩) li.length uc) _ _ rfl ⟨ob, oo + i, none⟩ rfl (Rg.run_loadSl _ _ Try.underlying22 CO.out)) ?_;go_frame
      refine listW_run (some 75) rfl rfl (Rg.xm (.int .i64 ((k : Nat) : Int)) _ rfl rfl) ?_;go_frame;refine listW_run (some 76) rfl rfl (exec_bin (R := .int .i64 (((k - 1) : Nat) : Int)) .sub _ _ _ rfl rfl rfl (b_sub _ (by omega) (by omega))) ?_;go_frame;refine listW_run (some 77) rfl rfl (exec_indexS slInts _ _ rfl ub (uo) (li.length) uc ((k - 1)) rfl rfl (by omega)) ?_;go_frame;refine listW_run (some 78) rfl rfl (Rg.exec_load (v := .int .i64 y) _ _ rfl ⟨ub, uo + (k - 1), none⟩ rfl (run_loadInt CY.out)) ?_;go_frame;refine listW_run (some 79) rfl rfl (exec_bin (R := .bool false) .leq _ _ _ rfl rfl rfl (b_leq _ (decide_eq_false (by omega)))) ?_;go_frame;refine listW_run (some 80) rfl rfl (exec_pickT (v := .bool false) _ _ _ rfl rfl rfl) ?_;go_frame;refine Rg.lr 81 (exec_pickF (v := .bool false) _ _ _ rfl rfl rfl) ?_;go_frame;refine Rg.lr 82 (Rg.xm (.bool false) _ rfl rfl) ?_;go_frame;refine listW_run (some 83) rfl rfl (Rg.xm (.int .i64 ((k : Nat) : Int)) _ rfl rfl) ?_;go_frame
      refine listW_run (some 84) rfl rfl (exec_bin (R := .bool false) .eql _ _ _ rfl rfl rfl (b_eql _ (decide_eq_false (by omega)))) ?_;go_frame;refine listW_run (some 85) rfl rfl (Rg.xm (.bool false) _ rfl rfl) ?_;go_frame;refine listW_pass (some 86) (by kernel_rfl) rfl ?_;go_frame;refine listW_pass (some 87) (by kernel_rfl) rfl ?_;go_frame;refine listW_run (some 88) rfl rfl (exec_pickF (v := .bool false) _ _ _ rfl rfl rfl) ?_;go_frame;refine listW_run (some 89) rfl rfl (Rg.xm (.bool false) _ rfl rfl) ?_;go_frame;refine listW_pass (some 90) (by kernel_rfl) rfl ?_;go_frame;refine listW_pass (some 91) (by kernel_rfl) rfl ?_;go_frame;refine listW_pass (some 92) (by kernel_rfl) rfl ?_;go_frame;refine listW_pass (some 93) (by kernel_rfl) rfl ?_;go_frame;refine listW_pass (some 94) (by kernel_rfl) rfl ?_;go_frame;refine listW_pass (some 95) (by kernel_rfl) rfl ?_;go_frame;refine listW_pass (some 96) (by kernel_rfl) rfl ?_;go_frame
      refine listW_pass (some 97) (by kernel_rfl) rfl ?_;go_frame;refine listW_pass (some 98) (by kernel_rfl) rfl ?_;go_frame;refine listW_pass (some 99) (by kernel_rfl) rfl ?_;go_frame;refine listW_pass (some 100) (by kernel_rfl) rfl ?_;go_frame;refine listW_pass (some 101) (by kernel_rfl) rfl ?_;go_frame;refine listW_pass (some 102) (by kernel_rfl) rfl ?_;go_frame;refine listW_pass (some 103) (by kernel_rfl) rfl ?_;go_frame;refine listW_pass (some 104) (by kernel_rfl) rfl ?_;go_frame;refine listW_pass (some 105) (by kernel_rfl) rfl ?_;go_frame;refine listW_pass (some 106) (by kernel_rfl) rfl ?_;go_frame;refine listW_pass (some 107) (by kernel_rfl) rfl ?_;go_frame;refine listW_run (some 108) rfl rfl (exec_pickF (v := .bool false) _ _ _ rfl rfl rfl) ?_;go_frame;refine Rg.lr 109 (exec_pickF (v := .bool false) _ _ _ rfl rfl rfl) ?_;go_frame;go_upto_region 16 with (fail);refine wp_region_list ?_
      refine Rg.lr 110 (Rg.xm (.slice (some ⟨w3.heap.size, 0, none⟩) d d) _ rfl rfl) ?_;go_frame;refine Rg.lr 111 (Rg.xm (.int .i64 ((x : Nat) : Int)) _ rfl rfl) ?_;go_frame;refine Rg.lr 112 (Rg.xm (.int .i64 ((i : Nat) : Int)) _ rfl rfl) ?_;go_frame;refine Rg.lr 113 (exec_bin (R := .int .i64 (((i + 1) : Nat) : Int)) .add _ _ _ rfl rfl rfl (b_add _ (by omega) (by omega))) ?_;go_frame;refine Rg.lr 114 (exec_indexS slInts _ _ rfl w3.heap.size (0) (d) d (x) rfl rfl hxd) ?_;go_frame;refine Rg.list_skip none rfl rfl (Rg.exec_store _ _ _ rfl _ rfl _ rfl (run_storeInt _ CI.out FI'.out)) ?_;go_frame;go_upto_region 12 with (fail);refine wp_region_list ?_;refine Rg.lr 42 (Rg.xm (.int .i64 ((k : Nat) : Int)) _ rfl rfl) ?_;go_frame;refine Rg.lr 43 (exec_bin (R := .int .i64 (((k + 1) : Nat) : Int)) .add _ _ _ rfl rfl rfl (b_add _ (by omega) (by omega))) ?_;go_frame;refine Rg.lr 9 (Rg.xa (.int .i64 (((k + 1) : Nat) : Int)) _ rfl rfl) ?_;go_frame
      go_wp2
      go_roundw
      case rel =>
       rw [show 0 + x = x from Nat.zero_add x];have h := IR.out.set x (((i + 1) : Nat) : Int);refine ⟨k + 1, by go_num, HKL.out, ι ⟨h.row.congr (fun y hy => ?_), h.lt⟩, ι (KB.out.setCell (p := ⟨w3.heap.size, x, none⟩) (Nat.le_refl _) _)⟩;rw [mkF_put HIL.out (by rw [hli.out]; exact HKL.out) HX.out HCX.out]
      case measure => simp [intOf]; have := HKL.out; omega
     case neg =>
      by_cases hi0 : 0 < i
      case neg =>
       skip
       go_upto_region 14 with (fail);refine wp_region_list ?_;refine Rg.lr 51 (Rg.xm (.int .i64 ((x : Nat) : Int)) _ rfl rfl) ?_;go_frame;refine Rg.lr 52 (exec_bin (R := .bool false) .lss _ _ _ rfl rfl rfl (b_lss _ (decide_eq_false (by omega)))) ?_;go_frame;refine Rg.lr 53 (Rg.xm (.bool false) _ rfl rfl) ?_;go_frame;refine listW_run (some 54) rfl rfl (Rg.xm (.int .i64 ((x : Nat) : Int)) _ rfl rfl) ?_;go_frame;refine listW_run (some 55) rfl rfl (exec_fieldG0 _ rfl rfl) ?_;go_frame;refine listW_run (some 56) rfl rfl (Rg.exec_load (v := .int .i64 ((d : Nat) : Int)) _ _ rfl ⟨w2.heap.size, 0, none⟩ rfl (run_loadInt ((KB.out.cell (p := ⟨w2.heap.size, 0, none⟩) G6.out.lt).trans G6.out.c0))) ?_;go_frame;refine listW_run (some 57) rfl rfl (exec_bin (R := .bool false) .geq _ _ _ rfl rfl rfl (b_geq _ (decide_eq_false (by omega)))) ?_;go_frame;refine Rg.lr 58 (exec_pickF (v := .bool false) _ _ _ rfl rfl rfl) ?_;go_frame
       refine Rg.lr 59 (Rg.xm (.bool false) _ rfl rfl) ?_;go_frame;refine listW_run (some 60) rfl rfl (Rg.xm (.slice (some ⟨w3.heap.size, 0, none⟩) d d) _ rfl rfl) ?_;go_frame;refine listW_run (some 61) rfl rfl (Rg.xm (.int .i64 ((x : Nat) : Int)) _ rfl rfl) ?_;go_frame;refine listW_run (some 62) rfl rfl (exec_indexS slInts _ _ rfl w3.heap.size (0) (d) d (x) rfl rfl hxd) ?_;go_frame;refine listW_run (some 63) rfl rfl (Rg.exec_load (v := .int .i64 0) _ _ rfl ⟨w3.heap.size, 0 + x, none⟩ rfl (run_loadInt CI.out)) ?_;go_frame;refine listW_run (some 64) rfl rfl (exec_bin (R := .bool false) .neq _ _ _ rfl rfl rfl (b_neqB _ (decide_eq_false (fun h => h rfl)))) ?_;go_frame;refine Rg.lr 65 (exec_pickF (v := .bool false) _ _ _ rfl rfl rfl) ?_;go_frame;refine Rg.lr 66 (Rg.xm (.bool false) _ rfl rfl) ?_;go_frame;refine listW_run (some 67) rfl rfl (Rg.xm (.int .i64 ((k : Nat) : Int)) _ rfl rfl) ?_;go_frame
       refine listW_run (some 68) rfl rfl (exec_bin (R := .bool false) .gtr _ _ _ rfl rfl rfl (b_gtr _ (decide_eq_false (by omega)))) ?_;go_frame;refine listW_run (some 69) rfl rfl (Rg.xm (.bool false) _ rfl rfl) ?_;go_frame;refine listW_pass (some 70) (by kernel_rfl) rfl ?_;go_frame;refine listW_pass (some 71) (by kernel_rfl) rfl ?_;go_frame;refine listW_pass (some 72) (by kernel_rfl) rfl ?_;go_frame;refine listW_pass (some 73) (by kernel_rfl) rfl ?_;go_frame;refine listW_pass (some 74) (by kernel_rfl) rfl ?_;go_frame;refine listW_pass (some 75) (by kernel_rfl) rfl ?_;go_frame;refine listW_pass (some 76) (by kernel_rfl) rfl ?_;go_frame;refine listW_pass (some 77) (by kernel_rfl) rfl ?_;go_frame;refine listW_pass (some 78) (by kernel_rfl) rfl ?_;go_frame;refine listW_pass (some 79) (by kernel_rfl) rfl ?_;go_frame;refine listW_run (some 80) rfl rfl (exec_pickF (v := .bool false) _ _ _ rfl rfl rfl) ?_;go_frame
       refine Rg.lr 81 (exec_pickF (v := .bool false) _ _ _ rfl rfl rfl) ?_;go_frame;refine Rg.lr 82 (Rg.xm (.bool false) _ rfl rfl) ?_;go_frame;refine listW_run (some 83) rfl rfl (Rg.xm (.int .i64 ((k : Nat) : Int)) _ rfl rfl) ?_;go_frame;refine listW_run (some 84) rfl rfl (exec_bin (R := .bool true) .eql _ _ _ rfl rfl rfl (b_eql _ (decide_eq_true (by omega)))) ?_;go_frame;refine listW_run (some 85) rfl rfl (Rg.xm (.bool true) _ rfl rfl) ?_;go_frame;refine listW_run (some 86) rfl rfl (Rg.xm (.int .i64 ((i : Nat) : Int)) _ rfl rfl) ?_;go_frame;refine listW_run (some 87) rfl rfl (exec_bin (R := .bool false) .gtr _ _ _ rfl rfl rfl (b_gtr _ (decide_eq_false (by omega)))) ?_;go_frame;refine listW_run (some 88) rfl rfl (exec_pickT (v := .bool false) _ _ _ rfl rfl rfl) ?_;go_frame;refine listW_run (some 89) rfl rfl (Rg.xm (.bool false) _ rfl rfl) ?_;go_frame;refine listW_pass (some 90) (by kernel_rfl) rfl ?_;go_frame
       refine listW_pass (some 91) (by kernel_rfl) rfl ?_;go_frame;refine listW_pass (some 92) (by kernel_rfl) rfl ?_;go_frame;refine listW_pass (some 93) (by kernel_rfl) rfl ?_;go_frame;refine listW_pass (some 94) (by kernel_rfl) rfl ?_;go_frame;refine listW_pass (some 95) (by kernel_rfl) rfl ?_;go_frame;refine listW_pass (some 96) (by kernel_rfl) rfl ?_;go_frame;refine listW_pass (some 97) (by kernel_rfl) rfl ?_;go_frame;refine listW_pass (some 98) (by kernel_rfl) rfl ?_;go_frame;refine listW_pass (some 99) (by kernel_rfl) rfl ?_;go_frame;refine listW_pass (some 100) (by kernel_rfl) rfl ?_;go_frame;refine listW_pass (some 101) (by kernel_rfl) rfl ?_;go_frame;refine listW_pass (some 102) (by kernel_rfl) rfl ?_;go_frame;refine listW_pass (some 103) (by kernel_rfl) rfl ?_;go_frame;refine listW_pass (some 104) (by kernel_rfl) rfl ?_;go_frame;refine listW_pass (some 105) (by kernel_rfl) rfl ?_;go_frame
       refine listW_pass (some 106) (by kernel_rfl) rfl ?_;go_frame;refine listW_pass (some 107) (by kernel_rfl) rfl ?_;go_frame;refine listW_run (some 108) rfl rfl (exec_pickF (v := .bool false) _ _ _ rfl rfl rfl) ?_;go_frame;refine Rg.lr 109 (exec_pickF (v := .bool false) _ _ _ rfl rfl rfl) ?_;go_frame;go_upto_region 16 with (fail);refine wp_region_list ?_;refine Rg.lr 110 (Rg.xm (.slice (some ⟨w3.heap.size, 0, none⟩) d d) _ rfl rfl) ?_;go_frame;refine Rg.lr 111 (Rg.xm (.int .i64 ((x : Nat) : Int)) _ rfl rfl) ?_;go_frame;refine Rg.lr 112 (Rg.xm (.int .i64 ((i : Nat) : Int)) _ rfl rfl) ?_;go_frame;refine Rg.lr 113 (exec_bin (R := .int .i64 (((i + 1) : Nat) : Int)) .add _ _ _ rfl rfl rfl (b_add _ (by omega) (by omega))) ?_;go_frame;refine Rg.lr 114 (exec_indexS slInts _ _ rfl w3.heap.size (0) (d) d (x) rfl rfl hxd) ?_;go_frame;refine Rg.list_skip none rfl rfl (Rg.exec_store _ _ _ rfl _ rfl _ rfl (run_storeInt _ CI.out FI'.out)) ?_;go_frame
       go_upto_region 12 with (fail);refine wp_region_list ?_;refine Rg.lr 42 (Rg.xm (.int .i64 ((k : Nat) : Int)) _ rfl rfl) ?_;go_frame;refine Rg.lr 43 (exec_bin (R := .int .i64 (((k + 1) : Nat) : Int)) .add _ _ _ rfl rfl rfl (b_add _ (by omega) (by omega))) ?_;go_frame;refine Rg.lr 9 (Rg.xa (.int .i64 (((k + 1) : Nat) : Int)) _ rfl rfl) ?_;go_frame;go_wp2
       go_roundw
       case rel =>
        rw [show 0 + x = x from Nat.zero_add x];have h := IR.out.set x (((i + 1) : Nat) : Int);refine ⟨k + 1, by go_num, HKL.out, ι ⟨h.row.congr (fun y hy => ?_), h.lt⟩, ι (KB.out.setCell (p := ⟨w3.heap.size, x, none⟩) (Nat.le_refl _) _)⟩;rw [mkF_put HIL.out (by rw [hli.out]; exact HKL.out) HX.out HCX.out]
       case measure => simp [intOf]; have := HKL.out; omega
      case pos =>
       obtain ⟨ob', oo', va, vc, e, hvb, hvc, hvu⟩ := rows_get HO3.out.r (show i - 1 < O.length by omega);simp only [Option.some.injEq, Addr.mk.injEq, and_true] at e;obtain ⟨rfl, rfl⟩ := e;obtain ⟨lj, hlj⟩ : ∃ z, Hid (O[i - 1]'(by omega) = z) := ⟨_, ι rfl⟩;rw [hlj.out] at hvc hvu
       have hvn : 0 < lj.length := by rw [← hlj.out]; exact HP.out.ne (i - 1) (by omega)
       obtain ⟨vb, vo, rfl, hvb2, hvc2⟩ := ints_get hvu hvn
       obtain rfl : k = 0 := by omega
       have hhd := HP.out.hd i HIL.out hi0 (by rw [hlj.out]; exact hvn) (by rw [hli.out]; exact HKL.out);obtain ⟨z, hz⟩ : ∃ y, Hid (lj[0]'hvn = y) := ⟨_, ι rfl⟩
       have hzx : z < ((x : Nat) : Int) := by
        have e1 : (O[i - 1]'(by omega))[0]'(by rw [hlj.out]; exact hvn) = z := by rw [← hz.out]; simp only [hlj.out]
        rw [← e1, ← HX.out]; exact hhd
       rw [hz.out] at hvc2;have CV := ι (show wd.cell? ⟨ob, oo + (i - 1), none⟩ = some (.slice (some ⟨vb, vo, none⟩) lj.length vc) from (KB.out.cell (p := ⟨ob, oo + (i - 1), none⟩) hvb).trans hvc);have CW := ι (show wd.cell? ⟨vb, vo + 0, none⟩ = some (.int .i64 z) from (KB.out.cell (p := ⟨vb, vo + 0, none⟩) hvb2).trans hvc2);have HVN := ι hvn;clear hvb hvc hvu hvb2 hvc2 hhd;go_upto_region 14 with (fail);refine wp_region_list ?_;refine Rg.lr 51 (Rg.xm (.int .i64 ((x : Nat) : Int)) _ rfl rfl) ?_;go_frame;refine Rg.lr 52 (exec_bin (R := .bool false) .lss _ _ _ rfl rfl rfl (b_lss _ (decide_eq_false (by omega)))) ?_;go_frame;refine Rg.lr 53 (Rg.xm (.bool false) _ rfl rfl) ?_;go_frame;refine listW_run (some 54) rfl rfl (Rg.xm (.int .i64 ((x : Nat) : Int)) _ rfl rfl) ?_;go_frame;refine listW_run (some 55) rfl rfl (exec_fieldG0 _ rfl rfl) ?_;go_frame;refine listW_run (some 56) rfl rfl (Rg.exec_load (v := .int .i64 ((d : Nat) : Int)) _ _ rfl ⟨w2.heap.size, 0, none⟩ rfl (run_loadInt ((KB.out.cell (p := ⟨w2.heap.size, 0, none⟩) G6.out.lt).trans G6.out.c0))) ?_;go_frame
       refine listW_run (some 57) rfl rfl (exec_bin (R := .bool false) .geq _ _ _ rfl rfl rfl (b_geq _ (decide_eq_false (by omega)))) ?_;go_frame;refine Rg.lr 58 (exec_pickF (v := .bool false) _ _ _ rfl rfl rfl) ?_;go_frame;refine Rg.lr 59 (Rg.xm (.bool false) _ rfl rfl) ?_;go_frame;refine listW_run (some 60) rfl rfl (Rg.xm (.slice (some ⟨w3.heap.size, 0, none⟩) d d) _ rfl rfl) ?_;go_frame;refine listW_run (some 61) rfl rfl (Rg.xm (.int .i64 ((x : Nat) : Int)) _ rfl rfl) ?_;go_frame;refine listW_run (some 62) rfl rfl (exec_indexS slInts _ _ rfl w3.heap.size (0) (d) d (x) rfl rfl hxd) ?_;go_frame;refine listW_run (some 63) rfl rfl (Rg.exec_load (v := .int .i64 0) _ _ rfl ⟨w3.heap.size, 0 + x, none⟩ rfl (run_loadInt CI.out)) ?_;go_frame;refine listW_run (some 64) rfl rfl (exec_bin (R := .bool false) .neq _ _ _ rfl rfl rfl (b_neqB _ (decide_eq_false (fun h => h rfl)))) ?_;go_frame;refine Rg.lr 65 (exec_pickF (v := .bool false) _ _ _ rfl rfl rfl) ?_;go_frame
       refine Rg.lr 66 (Rg.xm (.bool false) _ rfl rfl) ?_;go_frame;refine listW_run (some 67) rfl rfl (Rg.xm (.int .i64 ((0 : Nat) : Int)) _ rfl rfl) ?_;go_frame;refine listW_run (some 68) rfl rfl (exec_bin (R := .bool false) .gtr _ _ _ rfl rfl rfl (b_gtr _ (decide_eq_false (by omega)))) ?_;go_frame;refine listW_run (some 69) rfl rfl (Rg.xm (.bool false) _ rfl rfl) ?_;go_frame;refine listW_pass (some 70) (by kernel_rfl) rfl ?_;go_frame;refine listW_pass (some 71) (by kernel_rfl) rfl ?_;go_frame;refine listW_pass (some 72) (by kernel_rfl) rfl ?_;go_frame;refine listW_pass (some 73) (by kernel_rfl) rfl ?_;go_frame;refine listW_pass (some 74) (by kernel_rfl) rfl ?_;go_frame;refine listW_pass (some 75) (by kernel_rfl) rfl ?_;go_frame;refine listW_pass (some 76) (by kernel_rfl) rfl ?_;go_frame;refine listW_pass (some 77) (by kernel_rfl) rfl ?_;go_frame;refine listW_pass (some 78) (by kernel_rfl) rfl ?_;go_frame
       refine listW_pass (some 79) (by kernel_rfl) rfl ?_;go_frame;refine listW_run (some 80) rfl rfl (exec_pickF (v := .bool false) _ _ _ rfl rfl rfl) ?_;go_frame;refine Rg.lr 81 (exec_pickF (v := .bool false) _ _ _ rfl rfl rfl) ?_;go_frame;refine Rg.lr 82 (Rg.xm (.bool false) _ rfl rfl) ?_;go_frame;refine listW_run (some 83) rfl rfl (Rg.xm (.int .i64 ((0 : Nat) : Int)) _ rfl rfl) ?_;go_frame;refine listW_run (some 84) rfl rfl (exec_bin (R := .bool true) .eql _ _ _ rfl rfl rfl (b_eql _ (decide_eq_true (by omega)))) ?_;go_frame;refine listW_run (some 85) rfl rfl (Rg.xm (.bool true) _ rfl rfl) ?_;go_frame;refine listW_run (some 86) rfl rfl (Rg.xm (.int .i64 ((i : Nat) : Int)) _ rfl rfl) ?_;go_frame;refine listW_run (some 87) rfl rfl (exec_bin (R := .bool true) .gtr _ _ _ rfl rfl rfl (b_gtr _ (decide_eq_true (by omega)))) ?_;go_frame;refine listW_run (some 88) rfl rfl (exec_pickT (v := .bool true) _ _ _ rfl rfl rfl) ?_;go_frame
       refine listW_run (some 89) rfl rfl (Rg.xm (.bool true) _ rfl rfl) ?_;go_frame;refine listW_run (some 90) rfl rfl (Rg.xm (.slice (some ⟨ob, oo, none⟩) O.length oc) _ rfl rfl) ?_;go_frame;refine listW_run (some 91) rfl rfl (Rg.xm (.int .i64 ((i : Nat) : Int)) _ rfl rfl) ?_;go_frame;refine listW_run (some 92) rfl rfl (exec_bin (R := .int .i64 (((i - 1) : Nat) : Int)) .sub _ _ _ rfl rfl rfl (b_sub _ (by omega) (by omega))) ?_;go_frame;refine listW_run (some 93) rfl rfl (exec_indexS slIntss _ _ rfl ob (oo) (O.length) oc ((i - 1)) rfl rfl (by omega)) ?_;go_frame;refine listW_run (some 94) rfl rfl (Rg.exec_load (v := .slice (some ⟨vb, vo, none⟩) lj.length vc) _ _ rfl ⟨ob, oo + (i - 1), none⟩ rfl (Rg.run_loadSl _ _ Try.underlying22 CV.out)) ?_;go_frame;refine listW_run (some 95) rfl rfl (exec_len _ _ _ rfl Try.underlying22 _ _ _ rfl) ?_;go_frame;refine listW_run (some 96) rfl rfl (exec_bin (R := .bool false) .eql _ _ _ rfl rfl rfl (b_eql _ (decide_eq_false (by omega)))) ?_;go_frame
       refine listW_run (some 97) rfl rfl (Rg.xm (.bool false) _ rfl rfl) ?_;go_frame;refine listW_run (some 98) rfl rfl (Rg.xm (.int .i64 ((x : Nat) : Int)) _ rfl rfl) ?_;go_frame;refine listW_run (some 99) rfl rfl (Rg.xm (.slice (some ⟨ob, oo, none⟩) O.length oc) _ rfl rfl) ?_;go_frame;refine listW_run (some 100) rfl rfl (Rg.xm (.int .i64 ((i : Nat) : Int)) _ rfl rfl) ?_;go_frame;refine listW_run (some 101) rfl rfl (exec_bin (R := .int .i64 (((i - 1) : Nat) : Int)) .sub _ _ _ rfl rfl rfl (b_sub _ (by omega) (by omega))) ?_;go_frame;refine listW_run (some 102) rfl rfl (exec_indexS slIntss _ _ rfl ob (oo) (O.length) oc ((i - 1)) rfl rfl (by omega)) ?_;go_frame;refine listW_run (some 103) rfl rfl (Rg.exec_load (v := .slice (some ⟨vb, vo, none⟩) lj.length vc) _ _ rfl ⟨ob, oo + (i - 1), none⟩ rfl (Rg.run_loadSl _ _ Try.underlying22 CV.out)) ?_;go_frame;refine listW_run (some 104) rfl rfl (exec_indexS slInts _ _ rfl vb (vo) (lj.length) vc (0) rfl rfl HVN.out) ?_;go_frame
       refine listW_run (some 105) rfl rfl (Rg.exec_load (v := .int .i64 z) _ _ rfl ⟨vb, vo + 0, none⟩ rfl (run_loadInt CW.out)) ?_;go_frame;refine listW_run (some 106) rfl rfl (exec_bin (R := .bool false) .leq _ _ _ rfl rfl rfl (b_leq _ (decide_eq_false (by omega)))) ?_;go_frame;refine listW_run (some 107) rfl rfl (exec_pickF (v := .bool false) _ _ _ rfl rfl rfl) ?_;go_frame;refine listW_run (some 108) rfl rfl (exec_pickT (v := .bool false) _ _ _ rfl rfl rfl) ?_;go_frame;refine Rg.lr 109 (exec_pickF (v := .bool false) _ _ _ rfl rfl rfl) ?_;go_frame;go_upto_region 16 with (fail);refine wp_region_list ?_;refine Rg.lr 110 (Rg.xm (.slice (some ⟨w3.heap.size, 0, none⟩) d d) _ rfl rfl) ?_;go_frame;refine Rg.lr 111 (Rg.xm (.int .i64 ((x : Nat) : Int)) _ rfl rfl) ?_;go_frame;refine Rg.lr 112 (Rg.xm (.int .i64 ((i : Nat) : Int)) _ rfl rfl) ?_;go_frame;refine Rg.lr 113 (exec_bin (R := .int .i64 (((i + 1) : Nat) : Int)) .add _ _ _ rfl rfl rfl (b_add _ (by omega) (by omega))) ?_;go_frame
       refine Rg.lr 114 (exec_indexS slInts _ _ rfl w3.heap.size (0) (d) d (x) rfl rfl hxd) ?_;go_frame;refine Rg.list_skip none rfl rfl (Rg.exec_store _ _ _ rfl _ rfl _ rfl (run_storeInt _ CI.out FI'.out)) ?_;go_frame;go_upto_region 12 with (fail);refine wp_region_list ?_;refine Rg.lr 42 (Rg.xm (.int .i64 ((0 : Nat) : Int)) _ rfl rfl) ?_;go_frame;refine Rg.lr 43 (exec_bin (R := .int .i64 (((0 + 1) : Nat) : Int)) .add _ _ _ rfl rfl rfl (b_add _ (by omega) (by omega))) ?_;go_frame;refine Rg.lr 9 (Rg.xa (.int .i64 (((0 + 1) : Nat) : Int)) _ rfl rfl) ?_;go_frame;go_wp2
       go_roundw
       case rel =>
        rw [show 0 + x = x from Nat.zero_add x];have h := IR.out.set x (((i + 1) : Nat) : Int);refine ⟨0 + 1, by go_num, HKL.out, ι ⟨h.row.congr (fun y hy => ?_), h.lt⟩, ι (KB.out.setCell (p := ⟨w3.heap.size, x, none⟩) (Nat.le_refl _) _)⟩;rw [mkF_put HIL.out (by rw [hli.out]; exact HKL.out) HX.out HCX.out]
       case measure => simp [intOf]; have := HKL.out; omega
  case neg =>
   obtain rfl : i = O.length := by omega
   go_upto_region 8 with (fail);refine wp_region_list ?_;refine Rg.lr 29 (Rg.xm (.int .i64 ((O.length : Nat) : Int)) _ rfl rfl) ?_;go_frame;refine Rg.lr 30 (Rg.xm (.slice oa O.length oc) _ rfl rfl) ?_;go_frame;refine Rg.lr 31 (exec_len _ _ _ rfl Try.underlying29 _ _ _ rfl) ?_;go_frame;refine Rg.lr 32 (exec_bin (R := .bool false) .lss _ _ _ rfl rfl rfl (b_lss _ (decide_eq_false (by omega)))) ?_;go_frame;go_upto_region 17 with (fail);refine wp_region_list ?_;refine Rg.lr 11 (Rg.xa (.int .i64 ((0 : Nat) : Int)) _ rfl rfl) ?_;go_frame;have IF := ι (InR.mk (W := wc) (g := w3.heap.size) (m := d) (f := fun x => ((cls x + 1 : Nat) : Int)) (IR.out.row.congr fun x hx => by rw [mkF_end HP.out hx]) IR.out.lt);have G9 := ι (G6.out.below KB.out);have HG9 := ι (Rg.Rows.below HG.out KB.out);have K9 := ι (Rg.acc K.out KB.out);have KC0 := ι (Below.refl wc.heap.size wc);clear IR KB;go_wp2
   go_loopw [11] (fun av wr => ∃ a : Nat, av = .int .i64 ((a : Nat) : Int) ∧ a ≤ d ∧ Hid (Below wc.heap.size wc wr)) (fun av _ => d - (intOf av).toNat)
   case atStart => exact ⟨0, rfl, Nat.zero_le _, KC0⟩
   case round =>
    clear KC0;obtain ⟨a, rfl, ha, KC⟩ := hrel;generalize wr = wd at *
    by_cases had : a < d
    case neg =>
     skip
     go_upto_region 18 with (fail);refine wp_region_list ?_;refine Rg.lr 115 (Rg.xm (.int .i64 ((a : Nat) : Int)) _ rfl rfl) ?_;go_frame;refine Rg.lr 116 (exec_fieldG0 _ rfl rfl) ?_;go_frame;refine Rg.lr 117 (Rg.exec_load (v := .int .i64 ((d : Nat) : Int)) _ _ rfl ⟨w2.heap.size, 0, none⟩ rfl (run_loadInt ((Below.cell (p := ⟨w2.heap.size, 0, none⟩) KC.out G9.out.lt).trans G9.out.c0))) ?_;go_frame;refine Rg.lr 118 (exec_bin (R := .bool false) .lss _ _ _ rfl rfl rfl (b_lss _ (decide_eq_false (by omega)))) ?_;go_frame;go_upto_region 31 with (fail);refine wp_region_list ?_;refine Rg.lr 183 (Rg.xm (.bool true) _ rfl rfl) ?_;go_frame;refine Rg.lr 2 (Rg.xa (.bool true) _ rfl rfl) ?_;go_frame;go_wp2;go_ret;exact ⟨rfl, Rg.acc K9.out KC.out⟩
    case pos =>
     have hca : cls a + 1 ≤ 100 := by have := HP.out.lt a had; omega
     have CA := ι (show Cel wc w3.heap.size (0 + a) (.int .i64 (((cls a + 1) : Nat) : Int)) from ⟨by rw [Nat.zero_add]; exact IF.out.row.cell had, IF.out.lt⟩);have HAD := ι had;go_upto_region 18 with (fail);refine wp_region_list ?_;refine Rg.lr 115 (Rg.xm (.int .i64 ((a : Nat) : Int)) _ rfl rfl) ?_;go_frame;refine Rg.lr 116 (exec_fieldG0 _ rfl rfl) ?_;go_frame;refine Rg.lr 117 (Rg.exec_load (v := .int .i64 ((d : Nat) : Int)) _ _ rfl ⟨w2.heap.size, 0, none⟩ rfl (run_loadInt ((Below.cell (p := ⟨w2.heap.size, 0, none⟩) KC.out G9.out.lt).trans G9.out.c0))) ?_;go_frame;refine Rg.lr 118 (exec_bin (R := .bool true) .lss _ _ _ rfl rfl rfl (b_lss _ (decide_eq_true (by omega)))) ?_;go_frame;go_upto_region 20 with (fail);refine wp_region_list ?_;refine Rg.lr 12 (Rg.xa (.int .i64 ((0 : Nat) : Int)) _ rfl rfl) ?_;go_frame;go_wp2
     go_loopw [12] (fun sv wr => ∃ s : Nat, sv = .int .i64 ((s : Nat) : Int) ∧ s ≤ gs.length ∧ Hid (Below wc.heap.size wc wr)) (fun sv _ => gs.length - (intOf sv).toNat)
     case atStart => exact ⟨0, rfl, Nat.zero_le _, KC⟩
     case round =>
      clear KC;obtain ⟨s, rfl, hs, KC⟩ := hrel;generalize wr = we at *;have hln : (gs.map Ma.ofN).length = gs.length := List.length_map _;have HLN := ι hln
      have hgl9 : gs.length ≤ 16 := by have := HGL.out; omega
      clear hln
      by_cases hsl : s < gs.length
      case pos =>
       obtain ⟨gb, go, ua, uc, rfl, hgb, hgc, hgu⟩ := rows_get HG9.out (i := s) (by rw [HLN.out]; exact hsl);obtain ⟨gi, HGI⟩ : ∃ z, Hid (gs[s]'hsl = z) := ⟨_, ι rfl⟩
       have hgd : Gd d gi := by rw [← HGI.out]; exact HGS.out _ (List.getElem_mem hsl)
       rw [show (gs.map Ma.ofN)[s]'(by rw [HLN.out]; exact hsl) = Ma.ofN gi by rw [List.getElem_map, HGI.out]] at hgc hgu;rw [Ma.len_ofN] at hgc hgu;have hgll : gi.length = d := hgd.2;rw [hgll] at hgc hgu;obtain ⟨ub, uo, rfl, hub, huc⟩ := ints_get hgu (k := a) (by rw [Ma.len_ofN, hgll]; exact had);obtain ⟨y, hy⟩ : ∃ y, Hid (img gs s a = y) := ⟨_, ι rfl⟩
       have hyd : y < d := by rw [← hy.out]; exact HGG.out.cl s hsl a had
       have hye : (Ma.ofN gi)[a]'(by rw [Ma.len_ofN, hgll]; exact had) = ((y : Nat) : Int) := by
        rw [Ma.get_ofN, ← hy.out, img_get hsl (by rw [HGI.out, hgll]; exact had)];simp only [HGI.out]
       rw [hye] at huc;have hcy : cls y = cls a := (HP.out.eq y a hyd had).2 ((by rw [← hy.out]; exact Rc.step hsl .base : Rc gs a y).symm HGG.out had);have CG := ι (show Cel wc gb (go + s) (.slice (some ⟨ub, uo, none⟩) d uc) from ⟨hgc, hgb⟩);have CU := ι (show Cel wc ub (uo + a) (.int .i64 ((y : Nat) : Int)) from ⟨huc, hub⟩);have CY := ι (show Cel wc w3.heap.size (0 + y) (.int .i64 (((cls y + 1) : Nat) : Int)) from ⟨by rw [Nat.zero_add]; exact IF.out.row.cell hyd, IF.out.lt⟩)
       have hsn : s < (gs.map Ma.ofN).length := by rw [HLN.out]; exact hsl
       have HSN := ι hsn
       have hgln : (gs.map Ma.ofN).length ≤ 16 := by rw [HLN.out]; exact hgl9
       clear hgb hgc hgu hub huc hye;go_upto_region 21 with (fail);refine wp_region_list ?_;refine Rg.lr 121 (Rg.xm (.int .i64 ((s : Nat) : Int)) _ rfl rfl) ?_;go_frame;refine Rg.lr 122 (exec_fieldG _ rfl rfl) ?_;go_frame;refine Rg.lr 123 (Rg.exec_load (v := .slice (some ⟨gb, go, none⟩) (gs.map Ma.ofN).length gc) _ _ rfl ⟨w2.heap.size, 1, none⟩ rfl (Rg.run_loadSl _ _ Try.underlying24 ((Below.cell (p := ⟨w2.heap.size, 1, none⟩) KC.out G9.out.lt).trans G9.out.c1))) ?_;go_frame;refine Rg.lr 124 (exec_len _ _ _ rfl Try.underlying24 _ _ _ rfl) ?_;go_frame;refine Rg.lr 125 (exec_bin (R := .bool true) .lss _ _ _ rfl rfl rfl (b_lss _ (decide_eq_true (by omega)))) ?_;go_frame;go_upto_region 23 with (fail);have hV0 : Below we.heap.size we we.drew := (Below.refl _ _).drew;replace KC := ι (Rg.acc KC.out hV0);clear hV0;refine Rg.Any.begin (S := Rg.Both 22 (fun _ => True) (fun W => Below wc.heap.size wc W)) mix ?_
       generalize we.drew = w261 at *;have hS : ∀ (l : Array Bool) W, Below wc.heap.size wc W → Rg.Both 22 (fun _ => True) (fun W => Below wc.heap.size wc W) l W := fun l W h => ⟨.inr trivial, h⟩;have hI := KC.out;refine Rg.tg 0 22 (.slice (some ⟨w3.heap.size, 0, none⟩) d d) 128 rfl rfl (.inl ⟨rfl, fun w _ => Rg.exec_move (v := .slice (some ⟨w3.heap.size, 0, none⟩) d d) _ rfl rfl⟩) (hS _ _ hI) ?_;go_frame;refine Rg.tg 1 22 (.int .i64 ((a : Nat) : Int)) 129 rfl rfl (.inl ⟨rfl, fun w _ => Rg.exec_move (v := .int .i64 ((a : Nat) : Int)) _ rfl rfl⟩) (hS _ _ hI) ?_;go_frame;refine Rg.tg 2 22 (.pointer (some ⟨w3.heap.size, 0 + a, none⟩)) 130 rfl rfl (Rg.yields_index slInts _ _ rfl rfl w3.heap.size (0) (d) d (a) rfl rfl HAD.out) (hS _ _ hI) ?_;go_frame;refine Rg.tg 3 22 (.int .i64 (((cls a + 1) : Nat) : Int)) 131 rfl rfl (Rg.yields_cell _ _ rfl rfl ⟨w3.heap.size, 0 + a, none⟩ rfl (fun W hW => run_loadInt ((Below.cell (p := ⟨w3.heap.size, 0 + a, none⟩) hW CA.out.2).trans CA.out.1))) (hS _ _ hI) ?_;go_frame
       refine Rg.tg 4 22 (.bool false) 132 rfl rfl (.inl ⟨rfl, fun w _ => exec_bin (R := .bool false) .eql _ _ _ rfl rfl rfl (b_eql _ (decide_eq_false (by omega)))⟩) (hS _ _ hI) ?_;go_frame;refine Rg.tg 5 22 (.bool false) 133 rfl rfl (.inl ⟨rfl, fun w _ => Rg.exec_move (v := .bool false) _ rfl rfl⟩) (hS _ _ hI) ?_;go_frame;refine Rg.tg 6 22 (.slice (some ⟨w3.heap.size, 0, none⟩) d d) 134 rfl rfl (.inl ⟨rfl, fun w _ => Rg.exec_move (v := .slice (some ⟨w3.heap.size, 0, none⟩) d d) _ rfl rfl⟩) (hS _ _ hI) ?_;go_frame;refine Rg.tg 7 22 (.pointer (some ⟨w2.heap.size, 1, none⟩)) 135 rfl rfl (.inl ⟨rfl, fun w _ => exec_fieldG _ rfl rfl⟩) (hS _ _ hI) ?_;go_frame;refine Rg.tg 8 22 (.slice (some ⟨gb, go, none⟩) (gs.map Ma.ofN).length gc) 136 rfl rfl (Rg.yields_cell _ _ rfl rfl ⟨w2.heap.size, 1, none⟩ rfl (fun W hW => Rg.run_loadSl _ _ Try.underlying24 ((Below.cell (p := ⟨w2.heap.size, 1, none⟩) hW G9.out.lt).trans G9.out.c1))) (hS _ _ hI) ?_;go_frame
       refine Rg.tg 9 22 (.int .i64 ((s : Nat) : Int)) 137 rfl rfl (.inl ⟨rfl, fun w _ => Rg.exec_move (v := .int .i64 ((s : Nat) : Int)) _ rfl rfl⟩) (hS _ _ hI) ?_;go_frame;refine Rg.tg 10 22 (.pointer (some ⟨gb, go + s, none⟩)) 138 rfl rfl (Rg.yields_index slPerms _ _ rfl rfl gb (go) ((gs.map Ma.ofN).length) gc (s) rfl rfl HSN.out) (hS _ _ hI) ?_;go_frame;refine Rg.tg 11 22 (.slice (some ⟨ub, uo, none⟩) d uc) 139 rfl rfl (Rg.yields_cell _ _ rfl rfl ⟨gb, go + s, none⟩ rfl (fun W hW => Rg.run_loadSl _ _ Try.underlying39 ((Below.cell (p := ⟨gb, go + s, none⟩) hW CG.out.2).trans CG.out.1))) (hS _ _ hI) ?_;go_frame;refine Rg.tg 12 22 (.int .i64 ((a : Nat) : Int)) 140 rfl rfl (.inl ⟨rfl, fun w _ => Rg.exec_move (v := .int .i64 ((a : Nat) : Int)) _ rfl rfl⟩) (hS _ _ hI) ?_;go_frame;refine Rg.tg 13 22 (.pointer (some ⟨ub, uo + a, none⟩)) 141 rfl rfl (Rg.yields_index slPerm _ _ rfl rfl ub (uo) (d) uc (a) rfl rfl HAD.out) (hS _ _ hI) ?_;go_frame
       refine Rg.tg 14 22 (.int .i64 ((y : Nat) : Int)) 142 rfl rfl (Rg.yields_cell _ _ rfl rfl ⟨ub, uo + a, none⟩ rfl (fun W hW => run_loadInt ((Below.cell (p := ⟨ub, uo + a, none⟩) hW CU.out.2).trans CU.out.1))) (hS _ _ hI) ?_;go_frame;refine Rg.tg 15 22 (.pointer (some ⟨w3.heap.size, 0 + y, none⟩)) 143 rfl rfl (Rg.yields_index slInts _ _ rfl rfl w3.heap.size (0) (d) d (y) rfl rfl hyd) (hS _ _ hI) ?_;go_frame;refine Rg.tg 16 22 (.int .i64 (((cls y + 1) : Nat) : Int)) 144 rfl rfl (Rg.yields_cell _ _ rfl rfl ⟨w3.heap.size, 0 + y, none⟩ rfl (fun W hW => run_loadInt ((Below.cell (p := ⟨w3.heap.size, 0 + y, none⟩) hW CY.out.2).trans CY.out.1))) (hS _ _ hI) ?_;go_frame;refine Rg.tg 17 22 (.slice (some ⟨w3.heap.size, 0, none⟩) d d) 145 rfl rfl (.inl ⟨rfl, fun w _ => Rg.exec_move (v := .slice (some ⟨w3.heap.size, 0, none⟩) d d) _ rfl rfl⟩) (hS _ _ hI) ?_;go_frame;refine Rg.tg 18 22 (.int .i64 ((a : Nat) : Int)) 146 rfl rfl (.inl ⟨rfl, fun w _ => Rg.exec_move (v := .int .i64 ((a : Nat) : Int)) _ rfl rfl⟩) (hS _ _ hI) ?_;go_frame
       refine Rg.tg 19 22 (.pointer (some ⟨w3.heap.size, 0 + a, none⟩)) 147 rfl rfl (Rg.yields_index slInts _ _ rfl rfl w3.heap.size (0) (d) d (a) rfl rfl HAD.out) (hS _ _ hI) ?_;go_frame;refine Rg.tg 20 22 (.int .i64 (((cls a + 1) : Nat) : Int)) 148 rfl rfl (Rg.yields_cell _ _ rfl rfl ⟨w3.heap.size, 0 + a, none⟩ rfl (fun W hW => run_loadInt ((Below.cell (p := ⟨w3.heap.size, 0 + a, none⟩) hW CA.out.2).trans CA.out.1))) (hS _ _ hI) ?_;go_frame;refine Rg.tg 21 22 (.bool false) 149 rfl rfl (.inl ⟨rfl, fun w _ => exec_bin (R := .bool false) .neq _ _ _ rfl rfl rfl (b_neqB _ (decide_eq_false (fun h => h (by omega))))⟩) (hS _ _ hI) ?_;go_frame;refine Rg.Any.one (i := 22) (by kernel_rfl) (Rg.Any.run (some 150) rfl rfl rfl (exec_pickF (v := .bool false) _ _ _ rfl rfl rfl) (hS _ _ hI) ?_);go_frame;refine Rg.Any.done (by kernel_rfl) ?_ _;replace KC := ι hI;clear hS hI;go_upto_region 22 with (fail);refine wp_region_list ?_
       refine Rg.lr 126 (Rg.xm (.int .i64 ((s : Nat) : Int)) _ rfl rfl) ?_;go_frame;refine Rg.lr 127 (exec_bin (R := .int .i64 (((s + 1) : Nat) : Int)) .add _ _ _ rfl rfl rfl (b_add _ (by omega) (by omega))) ?_;go_frame;refine Rg.lr 12 (Rg.xa (.int .i64 (((s + 1) : Nat) : Int)) _ rfl rfl) ?_;go_frame;go_wp2
       go_roundw
       case rel => exact ⟨s + 1, by go_num, hsl, KC⟩
       case measure => simp [intOf]; omega
      case neg =>
       have hgln : (gs.map Ma.ofN).length ≤ 16 := by rw [HLN.out]; exact hgl9
       have hsn : ¬ s < (gs.map Ma.ofN).length := by rw [HLN.out]; exact hsl
       go_upto_region 21 with (fail);refine wp_region_list ?_;refine Rg.lr 121 (Rg.xm (.int .i64 ((s : Nat) : Int)) _ rfl rfl) ?_;go_frame;refine Rg.lr 122 (exec_fieldG _ rfl rfl) ?_;go_frame;refine Rg.lr 123 (Rg.exec_load (v := .slice ga (gs.map Ma.ofN).length gc) _ _ rfl ⟨w2.heap.size, 1, none⟩ rfl (Rg.run_loadSl _ _ Try.underlying24 ((Below.cell (p := ⟨w2.heap.size, 1, none⟩) KC.out G9.out.lt).trans G9.out.c1))) ?_;go_frame;refine Rg.lr 124 (exec_len _ _ _ rfl Try.underlying24 _ _ _ rfl) ?_;go_frame;refine Rg.lr 125 (exec_bin (R := .bool false) .lss _ _ _ rfl rfl rfl (b_lss _ (decide_eq_false (by omega)))) ?_;go_frame;go_upto_region 25 with (fail);refine wp_region_list ?_;refine Rg.lr 13 (Rg.xa (.int .i64 ((0 : Nat) : Int)) _ rfl rfl) ?_;go_frame;go_wp2
       go_loopw [13] (fun qv wr => ∃ q : Nat, qv = .int .i64 ((q : Nat) : Int) ∧ q ≤ d ∧ Hid (Below wc.heap.size wc wr)) (fun qv _ => d - (intOf qv).toNat)
       case atStart => exact ⟨0, rfl, Nat.zero_le _, KC⟩
       case round =>
        clear KC;obtain ⟨q, rfl, hq, KC⟩ := hrel;generalize wr = wf at *
        by_cases hqd : q < d
        case neg =>
         skip
         go_upto_region 26 with (fail);refine wp_region_list ?_;refine Rg.lr 151 (Rg.xm (.int .i64 ((q : Nat) : Int)) _ rfl rfl) ?_;go_frame;refine Rg.lr 152 (exec_fieldG0 _ rfl rfl) ?_;go_frame;refine Rg.lr 153 (Rg.exec_load (v := .int .i64 ((d : Nat) : Int)) _ _ rfl ⟨w2.heap.size, 0, none⟩ rfl (run_loadInt ((Below.cell (p := ⟨w2.heap.size, 0, none⟩) KC.out G9.out.lt).trans G9.out.c0))) ?_;go_frame;refine Rg.lr 154 (exec_bin (R := .bool false) .lss _ _ _ rfl rfl rfl (b_lss _ (decide_eq_false (by omega)))) ?_;go_frame;go_upto_region 19 with (fail);refine wp_region_list ?_;refine Rg.lr 119 (Rg.xm (.int .i64 ((a : Nat) : Int)) _ rfl rfl) ?_;go_frame;refine Rg.lr 120 (exec_bin (R := .int .i64 (((a + 1) : Nat) : Int)) .add _ _ _ rfl rfl rfl (b_add _ (by omega) (by omega))) ?_;go_frame;refine Rg.lr 11 (Rg.xa (.int .i64 (((a + 1) : Nat) : Int)) _ rfl rfl) ?_;go_frame;go_wp2
         go_roundw
         case rel => exact ⟨a + 1, by go_num, HAD.out, KC⟩
         case measure => simp [intOf]; have := HAD.out; omega
        case pos =>
         have CQ := ι (show Cel wc w3.heap.size (0 + q) (.int .i64 (((cls q + 1) : Nat) : Int)) from ⟨by rw [Nat.zero_add]; exact IF.out.row.cell hqd, IF.out.lt⟩)
         have hcq : cls q + 1 ≤ 100 := by have := HP.out.lt q hqd; omega
         have HPC := ι (path_code HCK.out HGG.out HP.out HAD.out hqd);obtain ⟨pc, hpc⟩ : ∃ c : Int, Hid ((if cls a = cls q then (0 : Int) else 18) = c) := ⟨_, ι rfl⟩;rw [hpc.out] at HPC;obtain ⟨bq, hbq⟩ : ∃ b, Hid (decide (cls a = cls q) = b) := ⟨_, ι rfl⟩
         have hb1 : decide (pc = 0) = bq := by
          rw [← hpc.out, ← hbq.out]
          by_cases e : cls a = cls q
          ·rw [if_pos e, decide_eq_true e]; rfl
          ·rw [if_neg e, decide_eq_false e]; rfl
         have hb2 : decide ((((cls a + 1) : Nat) : Int) = (((cls q + 1) : Nat) : Int)) = bq := by
          rw [← hbq.out];exact decide_eq_decide.2 ⟨fun h => by omega, fun h => by omega⟩
         go_upto_region 26 with (fail);refine wp_region_list ?_;refine Rg.lr 151 (Rg.xm (.int .i64 ((q : Nat) : Int)) _ rfl rfl) ?_;go_frame;refine Rg.lr 152 (exec_fieldG0 _ rfl rfl) ?_;go_frame;refine Rg.lr 153 (Rg.exec_load (v := .int .i64 ((d : Nat) : Int)) _ _ rfl ⟨w2.heap.size, 0, none⟩ rfl (run_loadInt ((Below.cell (p := ⟨w2.heap.size, 0, none⟩) KC.out G9.out.lt).trans G9.out.c0))) ?_;go_frame;refine Rg.lr 154 (exec_bin (R := .bool true) .lss _ _ _ rfl rfl rfl (b_lss _ (decide_eq_true (by omega)))) ?_;go_frame;go_upto_region 28 with (fail);refine wp_region_list ?_;refine Rg.lr 158 (Rg.exec_load (v := .agg #[.int .i64 ((d : Nat) : Int), .slice ga (gs.map Ma.ofN).length gc]) _ _ rfl ⟨w2.heap.size, 0, none⟩ rfl (run_loadG ((Below.cell (p := ⟨w2.heap.size, 0, none⟩) KC.out G9.out.lt).trans G9.out.c0) ((Below.cell (p := ⟨w2.heap.size, 1, none⟩) KC.out G9.out.lt).trans G9.out.c1))) ?_;go_frame
         refine Rg.lr 159 (Rg.xm (.int .i64 ((a : Nat) : Int)) _ rfl rfl) ?_;go_frame;refine Rg.lr 160 (Rg.xm (.int .i64 ((q : Nat) : Int)) _ rfl rfl) ?_;go_frame;refine list_ask (some 161) rfl rfl _ _ (exec_fn3 47 _ _ _ _ rfl rfl rfl rfl (vbcl2 _ _)) ?_;refine (Path_any _ ((d : Nat) : Int) (gs.map Ma.ofN) ((a : Nat) : Int) ((q : Nat) : Int) wf (HG9.out.below KC.out)).mono ?_;rintro e1 w321 ⟨pv, rfl, hpv, hb⟩;rw [HPC.out];clear hpv;refine ⟨_, rfl, ?_⟩;go_frame;replace KC := ι (Rg.acc KC.out hb);clear hb;refine Rg.lr 157 (Rg.xm (.tuple #[pv, .int .i64 pc]) _ rfl rfl) ?_;go_frame;refine Rg.lr 162 (exec_extract (v := pv) _ _ rfl rfl rfl) ?_;go_frame;refine Rg.lr 163 (exec_extract (v := .int .i64 pc) _ _ rfl rfl rfl) ?_;go_frame;refine Rg.lr 14 (Rg.xa (pv) _ rfl rfl) ?_;go_frame;refine Rg.lr 15 (Rg.xa (.int .i64 pc) _ rfl rfl) ?_;go_frame;go_upto_region 29 with (fail);have hV0 : Below w321.heap.size w321 w321.drew := (Below.refl _ _).drew
         replace KC := ι (Rg.acc KC.out hV0);clear hV0;refine Rg.Any.begin (S := Rg.Both 18 (fun _ => True) (fun W => Below wc.heap.size wc W)) mix ?_;generalize w321.drew = w322 at *;have hS : ∀ (l : Array Bool) W, Below wc.heap.size wc W → Rg.Both 18 (fun _ => True) (fun W => Below wc.heap.size wc W) l W := fun l W h => ⟨.inr trivial, h⟩;have hI := KC.out;refine Rg.tg 0 18 (.int .i64 pc) 164 rfl rfl (.inl ⟨rfl, fun w _ => Rg.exec_move (v := .int .i64 pc) _ rfl rfl⟩) (hS _ _ hI) ?_;go_frame;refine Rg.tg 1 18 (.bool bq) 165 rfl rfl (.inl ⟨rfl, fun w _ => exec_bin (R := .bool bq) .eql _ _ _ rfl rfl rfl (b_eql _ hb1)⟩) (hS _ _ hI) ?_;go_frame;refine Rg.tg 2 18 (.slice (some ⟨w3.heap.size, 0, none⟩) d d) 166 rfl rfl (.inl ⟨rfl, fun w _ => Rg.exec_move (v := .slice (some ⟨w3.heap.size, 0, none⟩) d d) _ rfl rfl⟩) (hS _ _ hI) ?_;go_frame;refine Rg.tg 3 18 (.int .i64 ((a : Nat) : Int)) 167 rfl rfl (.inl ⟨rfl, fun w _ => Rg.exec_move (v := .int .i64 ((a : Nat) : Int)) _ rfl rfl⟩) (hS _ _ hI) ?_;go_frame
         refine Rg.tg 4 18 (.pointer (some ⟨w3.heap.size, 0 + a, none⟩)) 168 rfl rfl (Rg.yields_index slInts _ _ rfl rfl w3.heap.size (0) (d) d (a) rfl rfl HAD.out) (hS _ _ hI) ?_;go_frame;refine Rg.tg 5 18 (.int .i64 (((cls a + 1) : Nat) : Int)) 169 rfl rfl (Rg.yields_cell _ _ rfl rfl ⟨w3.heap.size, 0 + a, none⟩ rfl (fun W hW => run_loadInt ((Below.cell (p := ⟨w3.heap.size, 0 + a, none⟩) hW CA.out.2).trans CA.out.1))) (hS _ _ hI) ?_;go_frame;refine Rg.tg 6 18 (.slice (some ⟨w3.heap.size, 0, none⟩) d d) 170 rfl rfl (.inl ⟨rfl, fun w _ => Rg.exec_move (v := .slice (some ⟨w3.heap.size, 0, none⟩) d d) _ rfl rfl⟩) (hS _ _ hI) ?_;go_frame;refine Rg.tg 7 18 (.int .i64 ((q : Nat) : Int)) 171 rfl rfl (.inl ⟨rfl, fun w _ => Rg.exec_move (v := .int .i64 ((q : Nat) : Int)) _ rfl rfl⟩) (hS _ _ hI) ?_;go_frame;refine Rg.tg 8 18 (.pointer (some ⟨w3.heap.size, 0 + q, none⟩)) 172 rfl rfl (Rg.yields_index slInts _ _ rfl rfl w3.heap.size (0) (d) d (q) rfl rfl hqd) (hS _ _ hI) ?_;go_frame
         refine Rg.tg 9 18 (.int .i64 (((cls q + 1) : Nat) : Int)) 173 rfl rfl (Rg.yields_cell _ _ rfl rfl ⟨w3.heap.size, 0 + q, none⟩ rfl (fun W hW => run_loadInt ((Below.cell (p := ⟨w3.heap.size, 0 + q, none⟩) hW CQ.out.2).trans CQ.out.1))) (hS _ _ hI) ?_;go_frame;refine Rg.tg 10 18 (.bool bq) 174 rfl rfl (.inl ⟨rfl, fun w _ => exec_bin (R := .bool bq) .eql _ _ _ rfl rfl rfl (b_eql _ hb2)⟩) (hS _ _ hI) ?_;go_frame;refine Rg.tg 11 18 (.bool false) 175 rfl rfl (.inl ⟨rfl, fun w _ => exec_neB _ _ rfl rfl rfl⟩) (hS _ _ hI) ?_;go_frame;refine Rg.tg 12 18 (.bool false) 176 rfl rfl (.inl ⟨rfl, fun w _ => Rg.exec_move (v := .bool false) _ rfl rfl⟩) (hS _ _ hI) ?_;go_frame;refine Rg.tg 13 18 (.slice (some ⟨w3.heap.size, 0, none⟩) d d) 177 rfl rfl (.inl ⟨rfl, fun w _ => Rg.exec_move (v := .slice (some ⟨w3.heap.size, 0, none⟩) d d) _ rfl rfl⟩) (hS _ _ hI) ?_;go_frame;refine Rg.tg 14 18 (.int .i64 ((a : Nat) : Int)) 178 rfl rfl (.inl ⟨rfl, fun w _ => Rg.exec_move (v := .int .i64 ((a : Nat) : Int)) _ rfl rfl⟩) (hS _ _ hI) ?_;go_frame
         refine Rg.tg 15 18 (.pointer (some ⟨w3.heap.size, 0 + a, none⟩)) 179 rfl rfl (Rg.yields_index slInts _ _ rfl rfl w3.heap.size (0) (d) d (a) rfl rfl HAD.out) (hS _ _ hI) ?_;go_frame;refine Rg.tg 16 18 (.int .i64 (((cls a + 1) : Nat) : Int)) 180 rfl rfl (Rg.yields_cell _ _ rfl rfl ⟨w3.heap.size, 0 + a, none⟩ rfl (fun W hW => run_loadInt ((Below.cell (p := ⟨w3.heap.size, 0 + a, none⟩) hW CA.out.2).trans CA.out.1))) (hS _ _ hI) ?_;go_frame;refine Rg.tg 17 18 (.bool false) 181 rfl rfl (.inl ⟨rfl, fun w _ => exec_bin (R := .bool false) .eql _ _ _ rfl rfl rfl (b_eql _ (decide_eq_false (by omega)))⟩) (hS _ _ hI) ?_;go_frame;refine Rg.Any.one (i := 18) (by kernel_rfl) (Rg.Any.run (some 182) rfl rfl rfl (exec_pickF (v := .bool false) _ _ _ rfl rfl rfl) (hS _ _ hI) ?_);go_frame;refine Rg.Any.done (by kernel_rfl) ?_ _;replace KC := ι hI;clear hS hI;go_upto_region 27 with (fail);refine wp_region_list ?_
         refine Rg.lr 155 (Rg.xm (.int .i64 ((q : Nat) : Int)) _ rfl rfl) ?_;go_frame;refine Rg.lr 156 (exec_bin (R := .int .i64 (((q + 1) : Nat) : Int)) .add _ _ _ rfl rfl rfl (b_add _ (by omega) (by omega))) ?_;go_frame;refine Rg.lr 13 (Rg.xa (.int .i64 (((q + 1) : Nat) : Int)) _ rfl rfl) ?_;go_frame;go_wp2
         go_roundw
         case rel => exact ⟨q + 1, by go_num, hqd, KC⟩
         case measure => simp [intOf]; omega
end Go.Proofs.Ytcfomoknlchemaa

set_option linter.unusedVariables false
namespace Go.Proofs.Ytcfomoknlchemaa
open Go.RowKit
open Go.Proofs
open Go.ChangeShapes Go.WideShapes Go.Deep Go.Joins
attribute [local irreducible] Go.Calls
section
variable {H : Type} {enc : TypeId × Value → H}
theorem readI {W : World} {base : Nat} {r : Reach} {v : Value} {d : DataW H} {p : List MemPlace} (h : DataW.Trod enc Try.prog W 0 (fun _ => true) true 22 v d p) (hv : ∃ x, v.cells.toList = [x] ∧ v = x) :
  ∃ l, Rg.IntsB maxLen W v l := by
 obtain ⟨fuel, hf⟩ := h;obtain ⟨x, hc, rfl⟩ := hv;rw [hc] at hf
 rcases open_ints Try.underlying22 Try.underlying3 cells3 hf with ⟨hcs, _⟩ | ⟨a, len, cap, zs, hcs, _, hl, hm, hz, _, hcell, _⟩
 ·obtain rfl : v = .slice none 0 0 := by simpa using hcs
  exact ⟨[], none, 0, rfl, by simp, Nat.zero_le _, by simp, fun h => by simp at h⟩
 ·obtain rfl : v = .slice (some a) len cap := by simpa using hcs
  simp only [if_true] at hz
  have hlen : (zs.take len).length = len := by rw [List.length_take]; omega
  refine ⟨zs.take len, some a, cap, by rw [List.length_map, hlen], by rw [List.length_map, hlen]; exact hl, hm, by rw [List.length_map, hlen]; omega, fun h0 => ?_⟩;rw [List.length_map, hlen] at h0;have hc0 := hcell 0 (by omega)
  have ha : a = ⟨a.block, a.off, none⟩ := by
   have := spot_none (a := a) (by simpa [Addr.add] using hc0)
   cases a; simp at this; subst this; rfl
  refine ⟨a.block, a.off, by rw [← ha], lt_of_cell (a := a) (by simpa [Addr.add] using hc0), fun i hi => ?_⟩;rw [List.length_map, hlen] at hi;rw [← add_none ha i, hcell i (by omega)];simp [List.getD, List.getElem?_eq_getElem (show i < zs.length by omega)]
end
end Go.Proofs.Ytcfomoknlchemaa
