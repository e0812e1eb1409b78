/- Lemmas and contracts on the way to the statement; no condition of their own beyond those written. -/
import Derived.Test.YtcfomoknlchemaaXEatoFp
import Derived.Deep.MidRow
import Derived.Deep.WholeRow
import Derived.Laws.CopyOwn
import Derived.RangeFuncWrites
import Derived.RangeFuncNested
import Derived.RangeFuncBox
import Derived.RangeFuncLeaves
import Derived.Shelf.Abstract
import Derived.OwnWalkIn
import Derived.TacticsInMore
import Derived.LoopNIn
import Derived.LoopIn
import Derived.Maps.AppendAt
import Derived.Sort.CutIn
import Derived.Deep.CutRange
import Derived.Deep.CutBlock
import Derived.IntWalk
import Derived.Great.BuildSlice
import Derived.ArgAppend
import Derived.StillTailTactics
import Derived.WalkSpells
import Derived.WalkLawsBesides
import Derived.OwnWalk
import Derived.OrdersHeld
import Derived.Deep.OwnRows
import Derived.WalkKit
import Derived.Lib.Hide
import Derived.Laws.OwnMore
import Derived.Test.YtcfomoknlchemaaProg
import Derived.Outline
import Derived.Deep.DeepFit
import Derived.BigQuiet
import Derived.Deep.QuietTactic
import Derived.Sort.OwnSortedInts
import Derived.WideMake
import Derived.MapKept
import Derived.ChangeMaps5
import Derived.Shelf.Sort.Plain
import Derived.Lib.ConvBytes
import Derived.ChangeKeysEq
import Derived.Laws.Cells
import Derived.Laws.Rows
import Derived.Laws.Tables
import Derived.OrdersIn
import Derived.TacticsIn
import Derived.Deep.LoopGhost
import Derived.Lib.SlicesSearch
import Derived.Stop.BytesEq
import Derived.Shelf.SlSortCmp.Whole1
import Derived.Ground.SlsfProg
import Derived.Lib.SmallJoins
import Derived.Deep.Matrix
set_option linter.unusedVariables false
set_option linter.unusedSimpArgs false
set_option maxRecDepth 100000
set_option maxHeartbeats 8000000
namespace Go.Proofs.Ytcfomoknlchemaa
open Go.RowKit
open Go.Proofs
open Go.Proofs.Ob
open Go.Proofs.Cm (Gd)
attribute [local irreducible] Go.Calls Go.wpList
theorem Fqcl1 (args : Array Value) (w : World) : (callFunc 44 args).run Try.prog w = .ok (.enter 44 args) w := by kernel_rfl
theorem Fqcl3 (args : Array Value) (w : World) : (callFunc 46 args).run Try.prog w = .ok (.enter 46 args) w := by kernel_rfl
theorem Fqcl5 (args : Array Value) (w : World) : (callFunc 41 args).run Try.prog w = .ok (.enter 41 args) w := by kernel_rfl
theorem Fqcl7 (args : Array Value) (w : World) : (callFunc 37 args).run Try.prog w = .ok (.enter 37 args) w := by kernel_rfl
theorem Fqcl8 (args : Array Value) (w : World) : (callFunc 39 args).run Try.prog w = .ok (.enter 39 args) w := by kernel_rfl
theorem Fqcl10 (args : Array Value) (w : World) : (callFunc 35 args).run Try.prog w = .ok (.enter 35 args) w := by kernel_rfl
theorem run_buildK2 (X : World) (u0 u1 : Value) (h0 : ∃ a n c, u0 = .slice a n c) (h1 : ∃ a n c, u1 = .slice a n c) : (Instr.buildSlice 29 2 #[(0, u0), (1, u1)]).run Try.prog X = .ok (.slice (some ⟨X.heap.size, 0, none⟩) 2 2) (X.alloc (.cells #[u0, u1] 22)) := by
 obtain ⟨i0, hi, hz0, hz1, hz2⟩ := info_parts infoInts;obtain ⟨_, _, _, rfl⟩ := h0;obtain ⟨_, _, _, rfl⟩ := h1;refine run_buildSlice X 29 22 2 _ _ i0 _ Try.underlying29 hi hz0 (by rw [hz1]; decide) (by rw [hz1]; decide) ?_;generalize (fun x => ((Value.slice none 0 0).cells)[x % (Value.slice none 0 0).cells.size]!) = f;rw [hz1];have h1 : Array.range (2 * 1) = #[0, 1] := rfl;simp [Instr.fill, Value.cells, h1]
theorem exec_buildK2 {o : Oper} {a : Act} {w w' : World} {v u0 u1 : Value} (x0 x1 : Operand) (ho : o.op = .buildSlice 29 2 #[(0, x0), (1, x1)]) (h0 : a.eval x0 = u0) (h1 : a.eval x1 = u1)
  (hr : (Instr.buildSlice 29 2 #[(0, u0), (1, u1)]).run Try.prog w = .ok v w') : (execOp a.eval o).run Try.prog w = .ok (.value v) w' := by
 subst h0 h1;unfold execOp;simp only [ho, Sem.run_bind, Sem.run_pure];simp only [List.map_toArray, List.map_cons, List.map_nil];rw [hr];rfl
theorem run_buildK6 (X : World) (u0 u1 u2 u3 u4 u5 : Value) (h0 : ∃ a n c, u0 = .slice a n c) (h1 : ∃ a n c, u1 = .slice a n c) (h2 : ∃ a n c, u2 = .slice a n c) (h3 : ∃ a n c, u3 = .slice a n c) (h4 : ∃ a n c, u4 = .slice a n c) (h5 : ∃ a n c, u5 = .slice a n c) : (Instr.buildSlice 29 6 #[(0, u0), (1, u1), (2, u2), (3, u3), (4, u4), (5, u5)]).run Try.prog X = .ok (.slice (some ⟨X.heap.size, 0, none⟩) 6 6) (X.alloc (.cells #[u0, u1, u2, u3, u4, u5] 22)) := by
 obtain ⟨i0, hi, hz0, hz1, hz2⟩ := info_parts infoInts;obtain ⟨_, _, _, rfl⟩ := h0;obtain ⟨_, _, _, rfl⟩ := h1;obtain ⟨_, _, _, rfl⟩ := h2;obtain ⟨_, _, _, rfl⟩ := h3;obtain ⟨_, _, _, rfl⟩ := h4;obtain ⟨_, _, _, rfl⟩ := h5;refine run_buildSlice X 29 22 6 _ _ i0 _ Try.underlying29 hi hz0 (by rw [hz1]; decide) (by rw [hz1]; decide) ?_;generalize (fun x => ((Value.slice none 0 0).cells)[x % (Value.slice none 0 0).cells.size]!) = f;rw [hz1];have h1 : Array.range (6 * 1) = #[0, 1, 2, 3, 4, 5] := rfl;simp [Instr.fill, Value.cells, h1]
theorem exec_buildK6 {o : Oper} {a : Act} {w w' : World} {v u0 u1 u2 u3 u4 u5 : Value} (x0 x1 x2 x3 x4 x5 : Operand) (ho : o.op = .buildSlice 29 6 #[(0, x0), (1, x1), (2, x2), (3, x3), (4, x4), (5, x5)]) (h0 : a.eval x0 = u0) (h1 : a.eval x1 = u1) (h2 : a.eval x2 = u2) (h3 : a.eval x3 = u3) (h4 : a.eval x4 = u4) (h5 : a.eval x5 = u5)
  (hr : (Instr.buildSlice 29 6 #[(0, u0), (1, u1), (2, u2), (3, u3), (4, u4), (5, u5)]).run Try.prog w = .ok v w') : (execOp a.eval o).run Try.prog w = .ok (.value v) w' := by
 subst h0 h1 h2 h3 h4 h5;unfold execOp;simp only [ho, Sem.run_bind, Sem.run_pure];simp only [List.map_toArray, List.map_cons, List.map_nil];rw [hr];rfl
theorem exec_buildGz {o : Oper} {a : Act} {w : World} (ho : o.op = .build 26 #[]) : (execOp a.eval o).run Try.prog w = .ok (.value (.agg #[.int .i64 0, .slice none 0 0])) w := by
 unfold execOp;simp only [ho, Sem.run_bind, Sem.run_pure];simp only [List.map_toArray, List.map_nil]
 have h : (Instr.build 26 #[]).run Try.prog w = .ok (.agg #[.int .i64 0, .slice none 0 0]) w := by kernel_rfl
 first | (rw [h]; rfl) | (erw [h]; rfl)
def gEx : List (List Nat) := [[1, 2, 0, 3, 4], [0, 1, 2, 4, 3]]
theorem kn_orbs : orbsS ((5 : Nat) : Int) (gEx.map Ma.ofN) = ([[0, 1, 2], [3, 4]], 0) := by decide +kernel
theorem kn_orb5 : orbS ((5 : Nat) : Int) (gEx.map Ma.ofN) 5 = ([], 2) := by decide +kernel
theorem kn_tree : treeR ((5 : Nat) : Int) (gEx.map Ma.ofN) 0 = ([0, 1, 2], [-1, 0, 1], [0, 1, 1]) := by decide +kernel
theorem kn_pt : ptE ((5 : Nat) : Int) (gEx.map Ma.ofN) 0 = 0 := by decide +kernel
theorem kn_p00 : pathS ((5 : Nat) : Int) (gEx.map Ma.ofN) 0 0 = ([], 0) := by decide +kernel
theorem kn_p03 : pathS ((5 : Nat) : Int) (gEx.map Ma.ofN) 0 3 = ([], 18) := by decide +kernel
theorem rch_word {C : List Nat → List Nat → List Nat} {gs : List (List Nat)} {s : List Nat} : ∀ (ks : List Nat) (x : List Nat), RchA C gs s x → (∀ k ∈ ks, k < gs.length) → RchA C gs s (ks.foldl (fun y k => C (gs.getD k []) y) x)
 | [], x, h, _ => h
 | k :: ks, x, h, hk => by
  have hk0 := hk k (by simp);refine rch_word ks _ (.step ?_ h) (fun j hj => hk j (List.mem_cons_of_mem _ hj));rw [List.getD_eq_getElem?_getD, List.getElem?_eq_getElem hk0];exact List.getElem_mem hk0
theorem allS_of {C : List Nat → List Nat → List Nat} {gs : List (List Nat)} {s : List Nat} (W : List (List Nat)) {U : List (List Nat)} (hU : W.map (fun ks => ks.foldl (fun y k => C (gs.getD k []) y) s) = U) (hW : ∀ ks ∈ W, ∀ k ∈ ks, k < gs.length) (hn : U.Nodup) (hs : s ∈ U) (hc : ∀ x ∈ U, ∀ g ∈ gs, C g x ∈ U) : AllS C gs s U :=
 ⟨hn, fun x => ⟨fun hx => by
  rw [← hU] at hx;obtain ⟨ks, hk, rfl⟩ := List.mem_map.1 hx
  exact rch_word ks s .base (hW ks hk), fun hr => by
  induction hr with
  | base => exact hs
  | step hg _ ih => exact hc _ ih _ hg⟩⟩
theorem kn_set : ImIs true ((5 : Nat) : Int) (gEx.map Ma.ofN) [0, 3] [[0, 3], [0, 4], [1, 3], [1, 4], [2, 3], [2, 4]] 0 :=
 .inr (.inr ⟨by decide +kernel, fun _ => (show ∀ j (h : j < 2), 1 ≤ j → ([0, 3] : List Int)[j - 1]'(by show j - 1 < 2; omega) < ([0, 3] : List Int)[j] by decide), gEx, [0, 3], rfl, rfl, .inr (.inr ⟨by decide, rfl, [[0, 3], [0, 4], [1, 3], [1, 4], [2, 3], [2, 4]], by decide,
  allS_of [[], [1], [0], [0, 1], [0, 0], [0, 0, 1]] (by decide +kernel) (by decide) (by decide) (by decide) (by decide +kernel), by decide, (show List.Pairwise _ _ by decide +kernel)⟩)⟩)
theorem kn_setO : ImIs true ((5 : Nat) : Int) (gEx.map Ma.ofN) [3, 0] [] 9 :=
 .inr (.inl ⟨by decide +kernel, rfl, fun h => absurd (h 1 (by decide) (by decide)) (by decide), rfl, rfl⟩)
theorem kn_tup : ImIs false ((5 : Nat) : Int) (gEx.map Ma.ofN) [3, 3] [[3, 3], [4, 4]] 0 :=
 .inr (.inr ⟨by decide +kernel, (fun h => by cases h), gEx, [3, 3], rfl, rfl, .inr (.inr ⟨by decide, rfl, [[3, 3], [4, 4]], by decide,
  allS_of [[], [1]] (by decide +kernel) (by decide) (by decide) (by decide) (by decide +kernel), by decide, (show List.Pairwise _ _ by decide +kernel)⟩)⟩)
theorem mk17 (w : World) : (Instr.makeSlice 24 (.int .i64 17) (.int .i64 17)).run Try.prog w = .ok (.slice (some ⟨w.heap.size, 0, none⟩) 17 17) (w.alloc (.cells (madeCells #[.slice none 0 0] 17) 39)) :=
 run_make_row' 24 39 (.slice none 0 0) 24 Try.underlying24 infoPerm rfl .i64 .i64 17 (by omega) (by omega) w
theorem rows17 (w : World) : Rg.Rows (w.alloc (.cells (madeCells #[.slice none 0 0] 17) 39)) (.slice (some ⟨w.heap.size, 0, none⟩) 17 17) (List.replicate 17 []) := by
 have e : madeCells #[.slice none 0 0] 17 = (List.replicate 17 (Value.slice none 0 0)).toArray := by kernel_rfl
 rw [e]
 exact (rowsF_new (B := 0) (w := w) 39 (List.replicate 17 (Value.slice none 0 0)) (List.replicate 17 []) (by simp) (by simp) (by
  intro i h h2;rw [List.getElem_replicate, List.getElem_replicate]
  exact ⟨Rg.Ints.nil _ none 0 (Nat.zero_le _), fun _ _ _ _ => Nat.zero_le _⟩) (Nat.zero_le _)).rows
theorem OrbitKnown_any (w : World) : Calls Try.prog 7 #[] w fun e w' => e = .returned (.bool true) ∧ Below w.heap.size w w' := by
 have K := ι (Below.refl w.heap.size w)
 go_enter Try.func7, Try.ntmps7
 go_upto_region 1 with (fail);refine wp_region_list ?_;refine list_ask (some 23) rfl rfl _ _ (exec_fn0 43 _ rfl (vbcl0 _ _)) ?_;refine (example_g w).mono ?_;rintro e1 w1 ⟨ga, gc, rfl, hg, hb⟩;have HG0 := ι hg;clear hg;refine ⟨_, rfl, ?_⟩;go_frame;replace K := ι (Rg.acc K.out hb);clear hb;obtain ⟨W2, hst, hga, hb⟩ := GA.fresh (D := 5) (gs := gEx) HG0.out;refine Rg.lr 1 (exec_allocG rfl) ?_;go_frame;clear HG0;refine Rg.list_skip none rfl rfl (Rg.exec_store _ _ _ rfl _ rfl _ rfl hst) ?_;go_frame;clear hst;replace K := ι (Rg.acc K.out hb);clear hb;have G1 := ι hga;clear hga;go_upto_region 2 with (fail);refine wp_region_list ?_;refine Rg.lr 25 (Rg.exec_load (v := .agg #[.int .i64 ((5 : Nat) : Int), .slice ga 2 gc]) _ _ rfl ⟨w1.heap.size, 0, none⟩ rfl (run_loadG G1.out.c0 G1.out.c1)) ?_;go_frame;refine list_ask (some 26) rfl rfl _ _ (exec_fn1 44 _ _ rfl rfl (Fqcl1 _ _)) ?_;refine (Orbits_any _ ((5 : Nat) : Int) (gEx.map Ma.ofN) W2 G1.out.rows).mono ?_
 rintro e1 w2 ⟨v1, rfl, h1, hb⟩;rw [kn_orbs] at h1 ⊢;refine ⟨_, rfl, ?_⟩;go_frame;replace G1 := ι (G1.out.below hb);replace K := ι (Rg.acc K.out hb);clear hb;have O1 := ι h1;refine Rg.lr 24 (Rg.xm (.tuple #[v1, .int .i64 ((0 : Nat) : Int)]) _ rfl rfl) ?_;go_frame;refine Rg.lr 27 (exec_extract (v := v1) _ _ rfl rfl rfl) ?_;go_frame;refine Rg.lr 28 (exec_extract (v := .int .i64 ((0 : Nat) : Int)) _ _ rfl rfl rfl) ?_;go_frame;refine Rg.lr 2 (Rg.xa (v1) _ rfl rfl) ?_;go_frame;refine Rg.lr 3 (Rg.xa (.int .i64 ((0 : Nat) : Int)) _ rfl rfl) ?_;go_frame;go_upto_region 3 with (fail);refine wp_region_list ?_;refine Rg.lr 30 (Rg.exec_load (v := .agg #[.int .i64 ((5 : Nat) : Int), .slice ga 2 gc]) _ _ rfl ⟨w1.heap.size, 0, none⟩ rfl (run_loadG G1.out.c0 G1.out.c1)) ?_;go_frame;refine list_ask (some 31) rfl rfl _ _ (exec_fn 45 _ _ _ rfl rfl rfl (vbcl1 _ _)) ?_;refine (Orbit_any _ ((5 : Nat) : Int) (gEx.map Ma.ofN) 5 w2 G1.out.rows).mono ?_
 rintro e1 w3 ⟨v2, rfl, h2, hb⟩;rw [kn_orb5] at h2 ⊢;refine ⟨_, rfl, ?_⟩;go_frame;replace G1 := ι (G1.out.below hb);replace O1 := ι (O1.out.below hb);replace K := ι (Rg.acc K.out hb);clear hb;have O2 := ι h2;refine Rg.lr 29 (Rg.xm (.tuple #[v2, .int .i64 2]) _ rfl rfl) ?_;go_frame;refine Rg.lr 32 (exec_extract (v := v2) _ _ rfl rfl rfl) ?_;go_frame;refine Rg.lr 33 (exec_extract (v := .int .i64 2) _ _ rfl rfl rfl) ?_;go_frame;refine Rg.lr 4 (Rg.xa (v2) _ rfl rfl) ?_;go_frame;refine Rg.lr 5 (Rg.xa (.int .i64 2) _ rfl rfl) ?_;go_frame;go_upto_region 4 with (fail);refine wp_region_list ?_;refine Rg.lr 35 (Rg.exec_load (v := .agg #[.int .i64 ((5 : Nat) : Int), .slice ga 2 gc]) _ _ rfl ⟨w1.heap.size, 0, none⟩ rfl (run_loadG G1.out.c0 G1.out.c1)) ?_;go_frame;refine list_ask (some 36) rfl rfl _ _ (exec_fn 46 _ _ _ rfl rfl rfl (Fqcl3 _ _)) ?_;refine (Tree_any _ ((5 : Nat) : Int) (gEx.map Ma.ofN) 0 w3 G1.out.rows).mono ?_
 rintro e1 w4 ⟨v3a, v3b, v3c, rfl, h3a, h3b, h3c, hb⟩;rw [kn_tree] at h3a h3b h3c;rw [kn_pt];refine ⟨_, rfl, ?_⟩;go_frame;replace G1 := ι (G1.out.below hb);replace O1 := ι (O1.out.below hb);replace O2 := ι (O2.out.below hb);replace K := ι (Rg.acc K.out hb);clear hb;have O3a := ι h3a;have O3b := ι h3b;have O3c := ι h3c;refine Rg.lr 34 (Rg.xm (.tuple #[v3a, v3b, v3c, .int .i64 ((0 : Nat) : Int)]) _ rfl rfl) ?_;go_frame;refine Rg.lr 37 (exec_extract (v := v3a) _ _ rfl rfl rfl) ?_;go_frame;refine Rg.lr 38 (exec_extract (v := v3b) _ _ rfl rfl rfl) ?_;go_frame;refine Rg.lr 39 (exec_extract (v := v3c) _ _ rfl rfl rfl) ?_;go_frame;refine Rg.lr 40 (exec_extract (v := .int .i64 ((0 : Nat) : Int)) _ _ rfl rfl rfl) ?_;go_frame;refine Rg.lr 6 (Rg.xa (v3a) _ rfl rfl) ?_;go_frame;refine Rg.lr 7 (Rg.xa (v3b) _ rfl rfl) ?_;go_frame;refine Rg.lr 8 (Rg.xa (v3c) _ rfl rfl) ?_;go_frame;refine Rg.lr 9 (Rg.xa (.int .i64 ((0 : Nat) : Int)) _ rfl rfl) ?_;go_frame
 go_upto_region 5 with (fail);refine wp_region_list ?_;refine Rg.lr 42 (Rg.exec_load (v := .agg #[.int .i64 ((5 : Nat) : Int), .slice ga 2 gc]) _ _ rfl ⟨w1.heap.size, 0, none⟩ rfl (run_loadG G1.out.c0 G1.out.c1)) ?_;go_frame;refine list_ask (some 43) rfl rfl _ _ (exec_fn3 47 _ _ _ _ rfl rfl rfl rfl (vbcl2 _ _)) ?_;refine (Path_any _ ((5 : Nat) : Int) (gEx.map Ma.ofN) 0 0 w4 G1.out.rows).mono ?_;rintro e1 w5 ⟨v4, rfl, h4, hb⟩;rw [kn_p00] at h4 ⊢;obtain ⟨p4a, p4c, rfl, -⟩ := h4.shape;refine ⟨_, rfl, ?_⟩;go_frame;replace G1 := ι (G1.out.below hb);replace O1 := ι (O1.out.below hb);replace O2 := ι (O2.out.below hb);replace O3a := ι (O3a.out.below hb);replace O3b := ι (O3b.out.below hb);replace O3c := ι (O3c.out.below hb);replace K := ι (Rg.acc K.out hb);clear hb;have O4 := ι h4;refine Rg.lr 41 (Rg.xm (.tuple #[.slice p4a 0 p4c, .int .i64 ((0 : Nat) : Int)]) _ rfl rfl) ?_;go_frame;refine Rg.lr 44 (exec_extract (v := .slice p4a 0 p4c) _ _ rfl rfl rfl) ?_;go_frame
 refine Rg.lr 45 (exec_extract (v := .int .i64 ((0 : Nat) : Int)) _ _ rfl rfl rfl) ?_;go_frame;refine Rg.lr 10 (Rg.xa (.slice p4a 0 p4c) _ rfl rfl) ?_;go_frame;refine Rg.lr 11 (Rg.xa (.int .i64 ((0 : Nat) : Int)) _ rfl rfl) ?_;go_frame;go_upto_region 6 with (fail);refine wp_region_list ?_;refine Rg.lr 47 (Rg.exec_load (v := .agg #[.int .i64 ((5 : Nat) : Int), .slice ga 2 gc]) _ _ rfl ⟨w1.heap.size, 0, none⟩ rfl (run_loadG G1.out.c0 G1.out.c1)) ?_;go_frame;refine list_ask (some 48) rfl rfl _ _ (exec_fn3 47 _ _ _ _ rfl rfl rfl rfl (vbcl2 _ _)) ?_;refine (Path_any _ ((5 : Nat) : Int) (gEx.map Ma.ofN) 0 3 w5 G1.out.rows).mono ?_;rintro e1 w6 ⟨v5, rfl, h5, hb⟩;rw [kn_p03] at h5 ⊢;refine ⟨_, rfl, ?_⟩;go_frame;replace G1 := ι (G1.out.below hb);replace O1 := ι (O1.out.below hb);replace O2 := ι (O2.out.below hb);replace O3a := ι (O3a.out.below hb);replace O3b := ι (O3b.out.below hb);replace O3c := ι (O3c.out.below hb)
 replace O4 := ι (O4.out.below hb);replace K := ι (Rg.acc K.out hb);clear hb;have O5 := ι h5;refine Rg.lr 46 (Rg.xm (.tuple #[v5, .int .i64 18]) _ rfl rfl) ?_;go_frame;refine Rg.lr 49 (exec_extract (v := v5) _ _ rfl rfl rfl) ?_;go_frame;refine Rg.lr 50 (exec_extract (v := .int .i64 18) _ _ rfl rfl rfl) ?_;go_frame;refine Rg.lr 12 (Rg.xa (v5) _ rfl rfl) ?_;go_frame;refine Rg.lr 13 (Rg.xa (.int .i64 18) _ rfl rfl) ?_;go_frame;clear h1 h2 h3a h3b h3c h4 h5;go_upto_region 7 with (fail);refine wp_region_list ?_;refine Rg.lr 51 (Rg.xm (.int .i64 ((0 : Nat) : Int)) _ rfl rfl) ?_;go_frame;refine Rg.lr 52 (exec_eqI _ _ rfl rfl rfl rfl) ?_;go_frame;refine Rg.lr 53 (Rg.xm (.bool true) _ rfl rfl) ?_;go_frame;refine listW_run (some 54) rfl rfl (Rg.xm (v1) _ rfl rfl) ?_;go_frame;have hnew := ints_new w6 3 [0, 1, 2] (by decide);refine listW_run (some 55) rfl rfl (exec_flat _ _ 3 _ rfl [0, 1, 2] Try.underlying22 szInt zInt rfl (by decide) (by decide) rfl) ?_;go_frame
 have hb := (Below.refl w6.heap.size w6).alloc (Nat.le_refl _) (.cells (([0, 1, 2] : List Int).map (Value.int .i64)).toArray 3);generalize w6.alloc (.cells (([0, 1, 2] : List Int).map (Value.int .i64)).toArray 3) = w7 at *;replace G1 := ι (G1.out.below hb);replace O1 := ι (O1.out.below hb);replace O2 := ι (O2.out.below hb);replace O3a := ι (O3a.out.below hb);replace O3b := ι (O3b.out.below hb);replace O3c := ι (O3c.out.below hb);replace O4 := ι (O4.out.below hb);replace O5 := ι (O5.out.below hb);replace K := ι (Rg.acc K.out hb);clear hb;have I0 := ι hnew;clear hnew;have hnew := ints_new w7 3 [3, 4] (by decide);refine listW_run (some 56) rfl rfl (exec_flat _ _ 2 _ rfl [3, 4] Try.underlying22 szInt zInt rfl (by decide) (by decide) rfl) ?_;go_frame;have hb := (Below.refl w7.heap.size w7).alloc (Nat.le_refl _) (.cells (([3, 4] : List Int).map (Value.int .i64)).toArray 3);generalize w7.alloc (.cells (([3, 4] : List Int).map (Value.int .i64)).toArray 3) = w8 at *
 replace G1 := ι (G1.out.below hb);replace O1 := ι (O1.out.below hb);replace O2 := ι (O2.out.below hb);replace O3a := ι (O3a.out.below hb);replace O3b := ι (O3b.out.below hb);replace O3c := ι (O3c.out.below hb);replace O4 := ι (O4.out.below hb);replace O5 := ι (O5.out.below hb);replace I0 := ι (I0.out.below hb);replace K := ι (Rg.acc K.out hb);clear hb;have I1 := ι hnew;clear hnew
 have hrw : Rg.Rows (w8.alloc (.cells #[.slice (some ⟨w6.heap.size, 0, none⟩) 3 3, .slice (some ⟨w7.heap.size, 0, none⟩) 2 2] 22)) (.slice (some ⟨w8.heap.size, 0, none⟩) 2 2) [[0, 1, 2], [3, 4]] := (rowsF_new (B := 0) (w := w8) 22 [.slice (some ⟨w6.heap.size, 0, none⟩) 3 3, .slice (some ⟨w7.heap.size, 0, none⟩) 2 2] [[0, 1, 2], [3, 4]] rfl (by simp) (by
  intro i h h2
  match i, h, h2 with
  | 0, _, _ => exact ⟨I0.out, fun _ _ _ _ => Nat.zero_le _⟩
  | 1, _, _ => exact ⟨I1.out, fun _ _ _ _ => Nat.zero_le _⟩) (Nat.zero_le _)).rows
 refine listW_run (some 57) rfl rfl (exec_buildK2 (u0 := .slice (some ⟨w6.heap.size, 0, none⟩) 3 3) (u1 := .slice (some ⟨w7.heap.size, 0, none⟩) 2 2) _ _ rfl rfl rfl (run_buildK2 w8 _ _ ⟨_, _, _, rfl⟩ ⟨_, _, _, rfl⟩ )) ?_;go_frame;have hb := (Below.refl w8.heap.size w8).alloc (Nat.le_refl _) (.cells #[.slice (some ⟨w6.heap.size, 0, none⟩) 3 3, .slice (some ⟨w7.heap.size, 0, none⟩) 2 2] 22);generalize w8.alloc (.cells #[.slice (some ⟨w6.heap.size, 0, none⟩) 3 3, .slice (some ⟨w7.heap.size, 0, none⟩) 2 2] 22) = w9 at *;replace G1 := ι (G1.out.below hb);replace O1 := ι (O1.out.below hb);replace O2 := ι (O2.out.below hb);replace O3a := ι (O3a.out.below hb);replace O3b := ι (O3b.out.below hb);replace O3c := ι (O3c.out.below hb);replace O4 := ι (O4.out.below hb);replace O5 := ι (O5.out.below hb);replace I0 := ι (I0.out.below hb);replace I1 := ι (I1.out.below hb);replace K := ι (Rg.acc K.out hb)
 clear hb;have RW := ι hrw;clear hrw;refine listW_ask (some 58) rfl rfl _ _ (exec_fn 41 _ _ _ rfl rfl rfl (Fqcl5 _ _)) ?_;refine (SameLists_b (b := true) O1.out RW.out (ι (decide_eq_true rfl))).mono ?_;rintro e1 w10 ⟨rfl, hb⟩;refine ⟨_, rfl, ?_⟩;go_frame;replace G1 := ι (G1.out.below hb);replace O1 := ι (O1.out.below hb);replace O2 := ι (O2.out.below hb);replace O3a := ι (O3a.out.below hb);replace O3b := ι (O3b.out.below hb);replace O3c := ι (O3c.out.below hb);replace O4 := ι (O4.out.below hb);replace O5 := ι (O5.out.below hb);replace I0 := ι (I0.out.below hb);replace I1 := ι (I1.out.below hb);replace RW := ι (RW.out.below hb);replace K := ι (Rg.acc K.out hb);clear hb;refine Rg.lr 59 (exec_pickT (v := .bool true) _ _ _ rfl rfl rfl) ?_;go_frame;refine Rg.lr 60 (Rg.xm (.bool true) _ rfl rfl) ?_;go_frame;refine listW_run (some 61) rfl rfl (Rg.xm (.int .i64 2) _ rfl rfl) ?_;go_frame;refine listW_run (some 62) rfl rfl (exec_eqI _ _ rfl rfl rfl rfl) ?_;go_frame
 refine Rg.lr 63 (exec_pickT (v := .bool true) _ _ _ rfl rfl rfl) ?_;go_frame;refine Rg.lr 64 (Rg.xm (.bool true) _ rfl rfl) ?_;go_frame;refine listW_run (some 65) rfl rfl (Rg.xm (.int .i64 ((0 : Nat) : Int)) _ rfl rfl) ?_;go_frame;refine listW_run (some 66) rfl rfl (exec_eqI _ _ rfl rfl rfl rfl) ?_;go_frame;refine Rg.lr 67 (exec_pickT (v := .bool true) _ _ _ rfl rfl rfl) ?_;go_frame;refine Rg.lr 68 (Rg.xm (.bool true) _ rfl rfl) ?_;go_frame;refine listW_run (some 69) rfl rfl (Rg.xm (v3a) _ rfl rfl) ?_;go_frame;have hnew := ints_new w10 3 [0, 1, 2] (by decide);refine listW_run (some 70) rfl rfl (exec_flat _ _ 3 _ rfl [0, 1, 2] Try.underlying22 szInt zInt rfl (by decide) (by decide) rfl) ?_;go_frame;have hb := (Below.refl w10.heap.size w10).alloc (Nat.le_refl _) (.cells (([0, 1, 2] : List Int).map (Value.int .i64)).toArray 3);generalize w10.alloc (.cells (([0, 1, 2] : List Int).map (Value.int .i64)).toArray 3) = w11 at *
 replace G1 := ι (G1.out.below hb);replace O1 := ι (O1.out.below hb);replace O2 := ι (O2.out.below hb);replace O3a := ι (O3a.out.below hb);replace O3b := ι (O3b.out.below hb);replace O3c := ι (O3c.out.below hb);replace O4 := ι (O4.out.below hb);replace O5 := ι (O5.out.below hb);replace I0 := ι (I0.out.below hb);replace I1 := ι (I1.out.below hb);replace RW := ι (RW.out.below hb);replace K := ι (Rg.acc K.out hb);clear hb;have I2 := ι hnew;clear hnew;refine listW_ask (some 71) rfl rfl _ _ (exec_fn 42 _ _ _ rfl rfl rfl (vbcl4 _ _)) ?_;refine (Same_any (w0 := w11) (b := true) O3a.out I2.out (ι (decide_eq_true rfl)) (Below.refl _ _)).mono ?_;rintro e1 w12 ⟨rfl, hb⟩;refine ⟨_, rfl, ?_⟩;go_frame;replace G1 := ι (G1.out.below hb);replace O1 := ι (O1.out.below hb);replace O2 := ι (O2.out.below hb);replace O3a := ι (O3a.out.below hb);replace O3b := ι (O3b.out.below hb);replace O3c := ι (O3c.out.below hb)
 replace O4 := ι (O4.out.below hb);replace O5 := ι (O5.out.below hb);replace I0 := ι (I0.out.below hb);replace I1 := ι (I1.out.below hb);replace RW := ι (RW.out.below hb);replace I2 := ι (I2.out.below hb);replace K := ι (Rg.acc K.out hb);clear hb;refine Rg.lr 72 (exec_pickT (v := .bool true) _ _ _ rfl rfl rfl) ?_;go_frame;refine Rg.lr 73 (Rg.xm (.bool true) _ rfl rfl) ?_;go_frame;refine listW_run (some 74) rfl rfl (Rg.xm (v3b) _ rfl rfl) ?_;go_frame;have hnew := ints_new w12 3 [(-1), 0, 1] (by decide);refine listW_run (some 75) rfl rfl (exec_flat _ _ 3 _ rfl [(-1), 0, 1] Try.underlying22 szInt zInt rfl (by decide) (by decide) rfl) ?_;go_frame;have hb := (Below.refl w12.heap.size w12).alloc (Nat.le_refl _) (.cells (([(-1), 0, 1] : List Int).map (Value.int .i64)).toArray 3);generalize w12.alloc (.cells (([(-1), 0, 1] : List Int).map (Value.int .i64)).toArray 3) = w13 at *;replace G1 := ι (G1.out.below hb)
 replace O1 := ι (O1.out.below hb);replace O2 := ι (O2.out.below hb);replace O3a := ι (O3a.out.below hb);replace O3b := ι (O3b.out.below hb);replace O3c := ι (O3c.out.below hb);replace O4 := ι (O4.out.below hb);replace O5 := ι (O5.out.below hb);replace I0 := ι (I0.out.below hb);replace I1 := ι (I1.out.below hb);replace RW := ι (RW.out.below hb);replace I2 := ι (I2.out.below hb);replace K := ι (Rg.acc K.out hb);clear hb;have I3 := ι hnew;clear hnew;refine listW_ask (some 76) rfl rfl _ _ (exec_fn 42 _ _ _ rfl rfl rfl (vbcl4 _ _)) ?_;refine (Same_any (w0 := w13) (b := true) O3b.out I3.out (ι (decide_eq_true rfl)) (Below.refl _ _)).mono ?_;rintro e1 w14 ⟨rfl, hb⟩;refine ⟨_, rfl, ?_⟩;go_frame;replace G1 := ι (G1.out.below hb);replace O1 := ι (O1.out.below hb);replace O2 := ι (O2.out.below hb);replace O3a := ι (O3a.out.below hb);replace O3b := ι (O3b.out.below hb);replace O3c := ι (O3c.out.below hb)
 replace O4 := ι (O4.out.below hb);replace O5 := ι (O5.out.below hb);replace I0 := ι (I0.out.below hb);replace I1 := ι (I1.out.below hb);replace RW := ι (RW.out.below hb);replace I2 := ι (I2.out.below hb);replace I3 := ι (I3.out.below hb);replace K := ι (Rg.acc K.out hb);clear hb;refine Rg.lr 77 (exec_pickT (v := .bool true) _ _ _ rfl rfl rfl) ?_;go_frame;refine Rg.lr 78 (Rg.xm (.bool true) _ rfl rfl) ?_;go_frame;refine listW_run (some 79) rfl rfl (Rg.xm (v3c) _ rfl rfl) ?_;go_frame;have hnew := ints_new w14 3 [0, 1, 1] (by decide);refine listW_run (some 80) rfl rfl (exec_flat _ _ 3 _ rfl [0, 1, 1] Try.underlying22 szInt zInt rfl (by decide) (by decide) rfl) ?_;go_frame;have hb := (Below.refl w14.heap.size w14).alloc (Nat.le_refl _) (.cells (([0, 1, 1] : List Int).map (Value.int .i64)).toArray 3);generalize w14.alloc (.cells (([0, 1, 1] : List Int).map (Value.int .i64)).toArray 3) = w15 at *
 replace G1 := ι (G1.out.below hb);replace O1 := ι (O1.out.below hb);replace O2 := ι (O2.out.below hb);replace O3a := ι (O3a.out.below hb);replace O3b := ι (O3b.out.below hb);replace O3c := ι (O3c.out.below hb);replace O4 := ι (O4.out.below hb);replace O5 := ι (O5.out.below hb);replace I0 := ι (I0.out.below hb);replace I1 := ι (I1.out.below hb);replace RW := ι (RW.out.below hb);replace I2 := ι (I2.out.below hb);replace I3 := ι (I3.out.below hb);replace K := ι (Rg.acc K.out hb);clear hb;have I4 := ι hnew;clear hnew;refine listW_ask (some 81) rfl rfl _ _ (exec_fn 42 _ _ _ rfl rfl rfl (vbcl4 _ _)) ?_;refine (Same_any (w0 := w15) (b := true) O3c.out I4.out (ι (decide_eq_true rfl)) (Below.refl _ _)).mono ?_;rintro e1 w16 ⟨rfl, hb⟩;refine ⟨_, rfl, ?_⟩;go_frame;replace G1 := ι (G1.out.below hb);replace O1 := ι (O1.out.below hb);replace O2 := ι (O2.out.below hb);replace O3a := ι (O3a.out.below hb)
 replace O3b := ι (O3b.out.below hb);replace O3c := ι (O3c.out.below hb);replace O4 := ι (O4.out.below hb);replace O5 := ι (O5.out.below hb);replace I0 := ι (I0.out.below hb);replace I1 := ι (I1.out.below hb);replace RW := ι (RW.out.below hb);replace I2 := ι (I2.out.below hb);replace I3 := ι (I3.out.below hb);replace I4 := ι (I4.out.below hb);replace K := ι (Rg.acc K.out hb);clear hb;refine Rg.lr 82 (exec_pickT (v := .bool true) _ _ _ rfl rfl rfl) ?_;go_frame;refine Rg.lr 83 (Rg.xm (.bool true) _ rfl rfl) ?_;go_frame;refine listW_run (some 84) rfl rfl (Rg.xm (.slice p4a 0 p4c) _ rfl rfl) ?_;go_frame;refine listW_run (some 85) rfl rfl (exec_len _ _ _ rfl Try.underlying76 _ _ _ rfl) ?_;go_frame;refine listW_run (some 86) rfl rfl (exec_bin (R := .bool true) .eql _ _ _ rfl rfl rfl (b_eql _ (decide_eq_true rfl))) ?_;go_frame;refine Rg.lr 87 (exec_pickT (v := .bool true) _ _ _ rfl rfl rfl) ?_;go_frame
 refine Rg.lr 88 (Rg.xm (.bool true) _ rfl rfl) ?_;go_frame;refine listW_run (some 89) rfl rfl (Rg.xm (.int .i64 ((0 : Nat) : Int)) _ rfl rfl) ?_;go_frame;refine listW_run (some 90) rfl rfl (exec_eqI _ _ rfl rfl rfl rfl) ?_;go_frame;refine Rg.lr 91 (exec_pickT (v := .bool true) _ _ _ rfl rfl rfl) ?_;go_frame;refine Rg.lr 92 (Rg.xm (.bool true) _ rfl rfl) ?_;go_frame;refine listW_run (some 93) rfl rfl (Rg.xm (.int .i64 18) _ rfl rfl) ?_;go_frame;refine listW_run (some 94) rfl rfl (exec_eqI _ _ rfl rfl rfl rfl) ?_;go_frame;refine Rg.lr 95 (exec_pickT (v := .bool true) _ _ _ rfl rfl rfl) ?_;go_frame;refine Rg.lr 14 (Rg.xa (.bool true) _ rfl rfl) ?_;go_frame;clear O1 O2 O3a O3b O3c O4 O5 I0 I1 I2 I3 I4 RW;go_upto_region 8 with (fail);refine wp_region_list ?_;refine Rg.lr 97 (Rg.exec_load (v := .agg #[.int .i64 ((5 : Nat) : Int), .slice ga 2 gc]) _ _ rfl ⟨w1.heap.size, 0, none⟩ rfl (run_loadG G1.out.c0 G1.out.c1)) ?_;go_frame
 have hnew := ints_new w16 3 [0, 3] (by decide);refine Rg.lr 98 (exec_flat _ _ 2 _ rfl [0, 3] Try.underlying22 szInt zInt rfl (by decide) (by decide) rfl) ?_;go_frame;have hb := (Below.refl w16.heap.size w16).alloc (Nat.le_refl _) (.cells (([0, 3] : List Int).map (Value.int .i64)).toArray 3);generalize w16.alloc (.cells (([0, 3] : List Int).map (Value.int .i64)).toArray 3) = w17 at *;replace G1 := ι (G1.out.below hb);replace K := ι (Rg.acc K.out hb);clear hb;have J6 := ι hnew;clear hnew;refine list_ask (some 99) rfl rfl _ _ (exec_fn 37 _ _ _ rfl rfl rfl (Fqcl7 _ _)) ?_;refine ((Sets_any _ ((5 : Nat) : Int) (gEx.map Ma.ofN) _ [0, 3] w17 G1.out.rows J6.out (by decide)).mono (fun _ _ => ImPost.ans)).mono ?_;rintro e1 w18 ⟨v6q, c6, T6, rfl, hr6, hs6, hb⟩;obtain ⟨rfl, rfl⟩ := kn_set.uniq hs6;have hr6b := RsW.mk hr6;refine ⟨_, rfl, ?_⟩;go_frame;replace G1 := ι (G1.out.below hb);replace J6 := ι (J6.out.below hb)
 replace K := ι (Rg.acc K.out hb);clear hb;have R6 := ι hr6b;refine Rg.lr 96 (Rg.xm (.tuple #[v6q, .int .i64 ((0 : Nat) : Int)]) _ rfl rfl) ?_;go_frame;refine Rg.lr 100 (exec_extract (v := v6q) _ _ rfl rfl rfl) ?_;go_frame;refine Rg.lr 101 (exec_extract (v := .int .i64 ((0 : Nat) : Int)) _ _ rfl rfl rfl) ?_;go_frame;refine Rg.lr 15 (Rg.xa (v6q) _ rfl rfl) ?_;go_frame;refine Rg.lr 16 (Rg.xa (.int .i64 ((0 : Nat) : Int)) _ rfl rfl) ?_;go_frame;go_upto_region 9 with (fail);refine wp_region_list ?_;refine Rg.lr 103 (Rg.exec_load (v := .agg #[.int .i64 ((5 : Nat) : Int), .slice ga 2 gc]) _ _ rfl ⟨w1.heap.size, 0, none⟩ rfl (run_loadG G1.out.c0 G1.out.c1)) ?_;go_frame;have hnew := ints_new w18 3 [3, 0] (by decide);refine Rg.lr 104 (exec_flat _ _ 2 _ rfl [3, 0] Try.underlying22 szInt zInt rfl (by decide) (by decide) rfl) ?_;go_frame;have hb := (Below.refl w18.heap.size w18).alloc (Nat.le_refl _) (.cells (([3, 0] : List Int).map (Value.int .i64)).toArray 3)
 generalize w18.alloc (.cells (([3, 0] : List Int).map (Value.int .i64)).toArray 3) = w19 at *;replace G1 := ι (G1.out.below hb);replace J6 := ι (J6.out.below hb);replace R6 := ι (R6.out.below hb);replace K := ι (Rg.acc K.out hb);clear hb;have J7 := ι hnew;clear hnew;refine list_ask (some 105) rfl rfl _ _ (exec_fn 37 _ _ _ rfl rfl rfl (Fqcl7 _ _)) ?_;refine ((Sets_any _ ((5 : Nat) : Int) (gEx.map Ma.ofN) _ [3, 0] w19 G1.out.rows J7.out (by decide)).mono (fun _ _ => ImPost.ans)).mono ?_;rintro e1 w20 ⟨v7q, c7, T7, rfl, hr7, hs7, hb⟩;obtain ⟨rfl, rfl⟩ := kn_setO.uniq hs7;have hr7b := RsW.mk hr7;refine ⟨_, rfl, ?_⟩;go_frame;replace G1 := ι (G1.out.below hb);replace J6 := ι (J6.out.below hb);replace R6 := ι (R6.out.below hb);replace J7 := ι (J7.out.below hb);replace K := ι (Rg.acc K.out hb);clear hb;have R7 := ι hr7b;refine Rg.lr 102 (Rg.xm (.tuple #[v7q, .int .i64 9]) _ rfl rfl) ?_;go_frame
 refine Rg.lr 106 (exec_extract (v := v7q) _ _ rfl rfl rfl) ?_;go_frame;refine Rg.lr 107 (exec_extract (v := .int .i64 9) _ _ rfl rfl rfl) ?_;go_frame;refine Rg.lr 17 (Rg.xa (v7q) _ rfl rfl) ?_;go_frame;refine Rg.lr 18 (Rg.xa (.int .i64 9) _ rfl rfl) ?_;go_frame;go_upto_region 10 with (fail);refine wp_region_list ?_;refine Rg.lr 109 (Rg.exec_load (v := .agg #[.int .i64 ((5 : Nat) : Int), .slice ga 2 gc]) _ _ rfl ⟨w1.heap.size, 0, none⟩ rfl (run_loadG G1.out.c0 G1.out.c1)) ?_;go_frame;have hnew := ints_new w20 3 [3, 3] (by decide);refine Rg.lr 110 (exec_flat _ _ 2 _ rfl [3, 3] Try.underlying22 szInt zInt rfl (by decide) (by decide) rfl) ?_;go_frame;have hb := (Below.refl w20.heap.size w20).alloc (Nat.le_refl _) (.cells (([3, 3] : List Int).map (Value.int .i64)).toArray 3);generalize w20.alloc (.cells (([3, 3] : List Int).map (Value.int .i64)).toArray 3) = w21 at *;replace G1 := ι (G1.out.below hb)
 replace J6 := ι (J6.out.below hb);replace R6 := ι (R6.out.below hb);replace J7 := ι (J7.out.below hb);replace R7 := ι (R7.out.below hb);replace K := ι (Rg.acc K.out hb);clear hb;have J8 := ι hnew;clear hnew;refine list_ask (some 111) rfl rfl _ _ (exec_fn 39 _ _ _ rfl rfl rfl (Fqcl8 _ _)) ?_;refine ((Tuples_any _ ((5 : Nat) : Int) (gEx.map Ma.ofN) _ [3, 3] w21 G1.out.rows J8.out (by decide)).mono (fun _ _ => ImPost.ans)).mono ?_;rintro e1 w22 ⟨v8q, c8, T8, rfl, hr8, hs8, hb⟩;obtain ⟨rfl, rfl⟩ := kn_tup.uniq hs8;have hr8b := RsW.mk hr8;refine ⟨_, rfl, ?_⟩;go_frame;replace G1 := ι (G1.out.below hb);replace J6 := ι (J6.out.below hb);replace R6 := ι (R6.out.below hb);replace J7 := ι (J7.out.below hb);replace R7 := ι (R7.out.below hb);replace J8 := ι (J8.out.below hb);replace K := ι (Rg.acc K.out hb);clear hb;have R8 := ι hr8b;refine Rg.lr 108 (Rg.xm (.tuple #[v8q, .int .i64 ((0 : Nat) : Int)]) _ rfl rfl) ?_;go_frame
 refine Rg.lr 112 (exec_extract (v := v8q) _ _ rfl rfl rfl) ?_;go_frame;refine Rg.lr 113 (exec_extract (v := .int .i64 ((0 : Nat) : Int)) _ _ rfl rfl rfl) ?_;go_frame;refine Rg.lr 19 (Rg.xa (v8q) _ rfl rfl) ?_;go_frame;refine Rg.lr 20 (Rg.xa (.int .i64 ((0 : Nat) : Int)) _ rfl rfl) ?_;go_frame;clear hr6 hr6b hs6 hr7 hr7b hs7 hr8 hr8b hs8;go_upto_region 11 with (fail);refine wp_region_list ?_;refine Rg.lr 114 (Rg.xm (.int .i64 ((0 : Nat) : Int)) _ rfl rfl) ?_;go_frame;refine Rg.lr 115 (exec_eqI _ _ rfl rfl rfl rfl) ?_;go_frame;refine Rg.lr 116 (Rg.xm (.bool true) _ rfl rfl) ?_;go_frame;refine listW_run (some 117) rfl rfl (Rg.xm (v6q) _ rfl rfl) ?_;go_frame;have hnew := ints_new w22 3 [0, 3] (by decide);refine listW_run (some 118) rfl rfl (exec_flat _ _ 2 _ rfl [0, 3] Try.underlying22 szInt zInt rfl (by decide) (by decide) rfl) ?_;go_frame;have hb := (Below.refl w22.heap.size w22).alloc (Nat.le_refl _) (.cells (([0, 3] : List Int).map (Value.int .i64)).toArray 3)
 generalize w22.alloc (.cells (([0, 3] : List Int).map (Value.int .i64)).toArray 3) = w23 at *;replace G1 := ι (G1.out.below hb);replace J6 := ι (J6.out.below hb);replace R6 := ι (R6.out.below hb);replace J7 := ι (J7.out.below hb);replace R7 := ι (R7.out.below hb);replace J8 := ι (J8.out.below hb);replace R8 := ι (R8.out.below hb);replace K := ι (Rg.acc K.out hb);clear hb;have I0 := ι hnew;clear hnew;have hnew := ints_new w23 3 [0, 4] (by decide);refine listW_run (some 119) rfl rfl (exec_flat _ _ 2 _ rfl [0, 4] Try.underlying22 szInt zInt rfl (by decide) (by decide) rfl) ?_;go_frame;have hb := (Below.refl w23.heap.size w23).alloc (Nat.le_refl _) (.cells (([0, 4] : List Int).map (Value.int .i64)).toArray 3);generalize w23.alloc (.cells (([0, 4] : List Int).map (Value.int .i64)).toArray 3) = w24 at *;replace G1 := ι (G1.out.below hb);replace J6 := ι (J6.out.below hb);replace R6 := ι (R6.out.below hb)
 replace J7 := ι (J7.out.below hb);replace R7 := ι (R7.out.below hb);replace J8 := ι (J8.out.below hb);replace R8 := ι (R8.out.below hb);replace I0 := ι (I0.out.below hb);replace K := ι (Rg.acc K.out hb);clear hb;have I1 := ι hnew;clear hnew;have hnew := ints_new w24 3 [1, 3] (by decide);refine listW_run (some 120) rfl rfl (exec_flat _ _ 2 _ rfl [1, 3] Try.underlying22 szInt zInt rfl (by decide) (by decide) rfl) ?_;go_frame;have hb := (Below.refl w24.heap.size w24).alloc (Nat.le_refl _) (.cells (([1, 3] : List Int).map (Value.int .i64)).toArray 3);generalize w24.alloc (.cells (([1, 3] : List Int).map (Value.int .i64)).toArray 3) = w25 at *;replace G1 := ι (G1.out.below hb);replace J6 := ι (J6.out.below hb);replace R6 := ι (R6.out.below hb);replace J7 := ι (J7.out.below hb);replace R7 := ι (R7.out.below hb);replace J8 := ι (J8.out.below hb);replace R8 := ι (R8.out.below hb);replace I0 := ι (I0.out.below hb)
 replace I1 := ι (I1.out.below hb);replace K := ι (Rg.acc K.out hb);clear hb;have I2 := ι hnew;clear hnew;have hnew := ints_new w25 3 [1, 4] (by decide);refine listW_run (some 121) rfl rfl (exec_flat _ _ 2 _ rfl [1, 4] Try.underlying22 szInt zInt rfl (by decide) (by decide) rfl) ?_;go_frame;have hb := (Below.refl w25.heap.size w25).alloc (Nat.le_refl _) (.cells (([1, 4] : List Int).map (Value.int .i64)).toArray 3);generalize w25.alloc (.cells (([1, 4] : List Int).map (Value.int .i64)).toArray 3) = w26 at *;replace G1 := ι (G1.out.below hb);replace J6 := ι (J6.out.below hb);replace R6 := ι (R6.out.below hb);replace J7 := ι (J7.out.below hb);replace R7 := ι (R7.out.below hb);replace J8 := ι (J8.out.below hb);replace R8 := ι (R8.out.below hb);replace I0 := ι (I0.out.below hb);replace I1 := ι (I1.out.below hb);replace I2 := ι (I2.out.below hb);replace K := ι (Rg.acc K.out hb);clear hb;have I3 := ι hnew
 clear hnew;have hnew := ints_new w26 3 [2, 3] (by decide);refine listW_run (some 122) rfl rfl (exec_flat _ _ 2 _ rfl [2, 3] Try.underlying22 szInt zInt rfl (by decide) (by decide) rfl) ?_;go_frame;have hb := (Below.refl w26.heap.size w26).alloc (Nat.le_refl _) (.cells (([2, 3] : List Int).map (Value.int .i64)).toArray 3);generalize w26.alloc (.cells (([2, 3] : List Int).map (Value.int .i64)).toArray 3) = w27 at *;replace G1 := ι (G1.out.below hb);replace J6 := ι (J6.out.below hb);replace R6 := ι (R6.out.below hb);replace J7 := ι (J7.out.below hb);replace R7 := ι (R7.out.below hb);replace J8 := ι (J8.out.below hb);replace R8 := ι (R8.out.below hb);replace I0 := ι (I0.out.below hb);replace I1 := ι (I1.out.below hb);replace I2 := ι (I2.out.below hb);replace I3 := ι (I3.out.below hb);replace K := ι (Rg.acc K.out hb);clear hb;have I4 := ι hnew;clear hnew;have hnew := ints_new w27 3 [2, 4] (by decide)
 refine listW_run (some 123) rfl rfl (exec_flat _ _ 2 _ rfl [2, 4] Try.underlying22 szInt zInt rfl (by decide) (by decide) rfl) ?_;go_frame;have hb := (Below.refl w27.heap.size w27).alloc (Nat.le_refl _) (.cells (([2, 4] : List Int).map (Value.int .i64)).toArray 3);generalize w27.alloc (.cells (([2, 4] : List Int).map (Value.int .i64)).toArray 3) = w28 at *;replace G1 := ι (G1.out.below hb);replace J6 := ι (J6.out.below hb);replace R6 := ι (R6.out.below hb);replace J7 := ι (J7.out.below hb);replace R7 := ι (R7.out.below hb);replace J8 := ι (J8.out.below hb);replace R8 := ι (R8.out.below hb);replace I0 := ι (I0.out.below hb);replace I1 := ι (I1.out.below hb);replace I2 := ι (I2.out.below hb);replace I3 := ι (I3.out.below hb);replace I4 := ι (I4.out.below hb);replace K := ι (Rg.acc K.out hb);clear hb;have I5 := ι hnew;clear hnew
 have hrw : Rg.Rows (w28.alloc (.cells #[.slice (some ⟨w22.heap.size, 0, none⟩) 2 2, .slice (some ⟨w23.heap.size, 0, none⟩) 2 2, .slice (some ⟨w24.heap.size, 0, none⟩) 2 2, .slice (some ⟨w25.heap.size, 0, none⟩) 2 2, .slice (some ⟨w26.heap.size, 0, none⟩) 2 2, .slice (some ⟨w27.heap.size, 0, none⟩) 2 2] 22)) (.slice (some ⟨w28.heap.size, 0, none⟩) 6 6) [[0, 3], [0, 4], [1, 3], [1, 4], [2, 3], [2, 4]] := (rowsF_new (B := 0) (w := w28) 22 [.slice (some ⟨w22.heap.size, 0, none⟩) 2 2, .slice (some ⟨w23.heap.size, 0, none⟩) 2 2, .slice (some ⟨w24.heap.size, 0, none⟩) 2 2, .slice (some ⟨w25.heap.size, 0, none⟩) 2 2, .slice (some ⟨w26.heap.size, 0, none⟩) 2 2, .slice (some ⟨w27.heap.size, 0, none⟩) 2 2] [[0, 3], [0, 4], [1, 3], [1, 4], [2, 3], [2, 4]] rfl (by simp) (by
  intro i h h2
  match i, h, h2 with
  | 0, _, _ => exact ⟨I0.out, fun _ _ _ _ => Nat.zero_le _⟩
  | 1, _, _ => exact ⟨I1.out, fun _ _ _ _ => Nat.zero_le _⟩
  | 2, _, _ => exact ⟨I2.out, fun _ _ _ _ => Nat.zero_le _⟩
  | 3, _, _ => exact ⟨I3.out, fun _ _ _ _ => Nat.zero_le _⟩
  | 4, _, _ => exact ⟨I4.out, fun _ _ _ _ => Nat.zero_le _⟩
  | 5, _, _ => exact ⟨I5.out, fun _ _ _ _ => Nat.zero_le _⟩) (Nat.zero_le _)).rows
 refine listW_run (some 124) rfl rfl (exec_buildK6 (u0 := .slice (some ⟨w22.heap.size, 0, none⟩) 2 2) (u1 := .slice (some ⟨w23.heap.size, 0, none⟩) 2 2) (u2 := .slice (some ⟨w24.heap.size, 0, none⟩) 2 2) (u3 := .slice (some ⟨w25.heap.size, 0, none⟩) 2 2) (u4 := .slice (some ⟨w26.heap.size, 0, none⟩) 2 2) (u5 := .slice (some ⟨w27.heap.size, 0, none⟩) 2 2) _ _ _ _ _ _ rfl rfl rfl rfl rfl rfl rfl (run_buildK6 w28 _ _ _ _ _ _ ⟨_, _, _, rfl⟩ ⟨_, _, _, rfl⟩ ⟨_, _, _, rfl⟩ ⟨_, _, _, rfl⟩ ⟨_, _, _, rfl⟩ ⟨_, _, _, rfl⟩ )) ?_;go_frame;have hb := (Below.refl w28.heap.size w28).alloc (Nat.le_refl _) (.cells #[.slice (some ⟨w22.heap.size, 0, none⟩) 2 2, .slice (some ⟨w23.heap.size, 0, none⟩) 2 2, .slice (some ⟨w24.heap.size, 0, none⟩) 2 2, .slice (some ⟨w25.heap.size, 0, none⟩) 2 2, .slice (some ⟨w26.heap.size, 0, none⟩) 2 2, .slice (some ⟨w27.heap.size, 0, none⟩) 2 2] 22);generalize w28.alloc (.cells #[.slice (some ⟨w22.heap.size, 0, none⟩) 2 2, .slice (some ⟨w23.heap.size, 0, none⟩) 2 2, .slice (some ⟨w24.heap.size, 0, none⟩) 2 2, .slice (some ⟨w25.heap.size, 0, none⟩) 2 2, .slice (some ⟨w26.heap.size, 0, none⟩) 2 2, .slice (some ⟨w27.heap.size, 0, none⟩) 2 2] 22) = w29 at *
 replace G1 := ι (G1.out.below hb);replace J6 := ι (J6.out.below hb);replace R6 := ι (R6.out.below hb);replace J7 := ι (J7.out.below hb);replace R7 := ι (R7.out.below hb);replace J8 := ι (J8.out.below hb);replace R8 := ι (R8.out.below hb);replace I0 := ι (I0.out.below hb);replace I1 := ι (I1.out.below hb);replace I2 := ι (I2.out.below hb);replace I3 := ι (I3.out.below hb);replace I4 := ι (I4.out.below hb);replace I5 := ι (I5.out.below hb);replace K := ι (Rg.acc K.out hb);clear hb;have RW := ι hrw;clear hrw;refine listW_ask (some 125) rfl rfl _ _ (exec_fn 41 _ _ _ rfl rfl rfl (Fqcl5 _ _)) ?_;refine (SameLists_b (b := true) R6.out.r RW.out (ι (decide_eq_true rfl))).mono ?_;rintro e1 w30 ⟨rfl, hb⟩;refine ⟨_, rfl, ?_⟩;go_frame;replace G1 := ι (G1.out.below hb);replace J6 := ι (J6.out.below hb);replace R6 := ι (R6.out.below hb);replace J7 := ι (J7.out.below hb);replace R7 := ι (R7.out.below hb)
 replace J8 := ι (J8.out.below hb);replace R8 := ι (R8.out.below hb);replace I0 := ι (I0.out.below hb);replace I1 := ι (I1.out.below hb);replace I2 := ι (I2.out.below hb);replace I3 := ι (I3.out.below hb);replace I4 := ι (I4.out.below hb);replace I5 := ι (I5.out.below hb);replace RW := ι (RW.out.below hb);replace K := ι (Rg.acc K.out hb);clear hb;refine Rg.lr 126 (exec_pickT (v := .bool true) _ _ _ rfl rfl rfl) ?_;go_frame;refine Rg.lr 127 (Rg.xm (.bool true) _ rfl rfl) ?_;go_frame;refine listW_run (some 128) rfl rfl (Rg.xm (.int .i64 9) _ rfl rfl) ?_;go_frame;refine listW_run (some 129) rfl rfl (exec_eqI _ _ rfl rfl rfl rfl) ?_;go_frame;refine Rg.lr 130 (exec_pickT (v := .bool true) _ _ _ rfl rfl rfl) ?_;go_frame;refine Rg.lr 131 (Rg.xm (.bool true) _ rfl rfl) ?_;go_frame;refine listW_run (some 132) rfl rfl (Rg.xm (.int .i64 ((0 : Nat) : Int)) _ rfl rfl) ?_;go_frame;refine listW_run (some 133) rfl rfl (exec_eqI _ _ rfl rfl rfl rfl) ?_;go_frame
 refine Rg.lr 134 (exec_pickT (v := .bool true) _ _ _ rfl rfl rfl) ?_;go_frame;refine Rg.lr 135 (Rg.xm (.bool true) _ rfl rfl) ?_;go_frame;refine listW_run (some 136) rfl rfl (Rg.xm (v8q) _ rfl rfl) ?_;go_frame;have hnew := ints_new w30 3 [3, 3] (by decide);refine listW_run (some 137) rfl rfl (exec_flat _ _ 2 _ rfl [3, 3] Try.underlying22 szInt zInt rfl (by decide) (by decide) rfl) ?_;go_frame;have hb := (Below.refl w30.heap.size w30).alloc (Nat.le_refl _) (.cells (([3, 3] : List Int).map (Value.int .i64)).toArray 3);generalize w30.alloc (.cells (([3, 3] : List Int).map (Value.int .i64)).toArray 3) = w31 at *;replace G1 := ι (G1.out.below hb);replace J6 := ι (J6.out.below hb);replace R6 := ι (R6.out.below hb);replace J7 := ι (J7.out.below hb);replace R7 := ι (R7.out.below hb);replace J8 := ι (J8.out.below hb);replace R8 := ι (R8.out.below hb);replace I0 := ι (I0.out.below hb);replace I1 := ι (I1.out.below hb)
 replace I2 := ι (I2.out.below hb);replace I3 := ι (I3.out.below hb);replace I4 := ι (I4.out.below hb);replace I5 := ι (I5.out.below hb);replace RW := ι (RW.out.below hb);replace K := ι (Rg.acc K.out hb);clear hb;have I6 := ι hnew;clear hnew;have hnew := ints_new w31 3 [4, 4] (by decide);refine listW_run (some 138) rfl rfl (exec_flat _ _ 2 _ rfl [4, 4] Try.underlying22 szInt zInt rfl (by decide) (by decide) rfl) ?_;go_frame;have hb := (Below.refl w31.heap.size w31).alloc (Nat.le_refl _) (.cells (([4, 4] : List Int).map (Value.int .i64)).toArray 3);generalize w31.alloc (.cells (([4, 4] : List Int).map (Value.int .i64)).toArray 3) = w32 at *;replace G1 := ι (G1.out.below hb);replace J6 := ι (J6.out.below hb);replace R6 := ι (R6.out.below hb);replace J7 := ι (J7.out.below hb);replace R7 := ι (R7.out.below hb);replace J8 := ι (J8.out.below hb);replace R8 := ι (R8.out.below hb);replace I0 := ι (I0.out.below hb)
 replace I1 := ι (I1.out.below hb);replace I2 := ι (I2.out.below hb);replace I3 := ι (I3.out.below hb);replace I4 := ι (I4.out.below hb);replace I5 := ι (I5.out.below hb);replace RW := ι (RW.out.below hb);replace I6 := ι (I6.out.below hb);replace K := ι (Rg.acc K.out hb);clear hb;have I7 := ι hnew;clear hnew
 have hrw : Rg.Rows (w32.alloc (.cells #[.slice (some ⟨w30.heap.size, 0, none⟩) 2 2, .slice (some ⟨w31.heap.size, 0, none⟩) 2 2] 22)) (.slice (some ⟨w32.heap.size, 0, none⟩) 2 2) [[3, 3], [4, 4]] := (rowsF_new (B := 0) (w := w32) 22 [.slice (some ⟨w30.heap.size, 0, none⟩) 2 2, .slice (some ⟨w31.heap.size, 0, none⟩) 2 2] [[3, 3], [4, 4]] rfl (by simp) (by
  intro i h h2
  match i, h, h2 with
  | 0, _, _ => exact ⟨I6.out, fun _ _ _ _ => Nat.zero_le _⟩
  | 1, _, _ => exact ⟨I7.out, fun _ _ _ _ => Nat.zero_le _⟩) (Nat.zero_le _)).rows
 refine listW_run (some 139) rfl rfl (exec_buildK2 (u0 := .slice (some ⟨w30.heap.size, 0, none⟩) 2 2) (u1 := .slice (some ⟨w31.heap.size, 0, none⟩) 2 2) _ _ rfl rfl rfl (run_buildK2 w32 _ _ ⟨_, _, _, rfl⟩ ⟨_, _, _, rfl⟩ )) ?_;go_frame;have hb := (Below.refl w32.heap.size w32).alloc (Nat.le_refl _) (.cells #[.slice (some ⟨w30.heap.size, 0, none⟩) 2 2, .slice (some ⟨w31.heap.size, 0, none⟩) 2 2] 22);generalize w32.alloc (.cells #[.slice (some ⟨w30.heap.size, 0, none⟩) 2 2, .slice (some ⟨w31.heap.size, 0, none⟩) 2 2] 22) = w33 at *;replace G1 := ι (G1.out.below hb);replace J6 := ι (J6.out.below hb);replace R6 := ι (R6.out.below hb);replace J7 := ι (J7.out.below hb);replace R7 := ι (R7.out.below hb);replace J8 := ι (J8.out.below hb);replace R8 := ι (R8.out.below hb);replace I0 := ι (I0.out.below hb);replace I1 := ι (I1.out.below hb);replace I2 := ι (I2.out.below hb);replace I3 := ι (I3.out.below hb)
 replace I4 := ι (I4.out.below hb);replace I5 := ι (I5.out.below hb);replace RW := ι (RW.out.below hb);replace I6 := ι (I6.out.below hb);replace I7 := ι (I7.out.below hb);replace K := ι (Rg.acc K.out hb);clear hb;have RX := ι hrw;clear hrw;refine listW_ask (some 140) rfl rfl _ _ (exec_fn 41 _ _ _ rfl rfl rfl (Fqcl5 _ _)) ?_;refine (SameLists_b (b := true) R8.out.r RX.out (ι (decide_eq_true rfl))).mono ?_;rintro e1 w34 ⟨rfl, hb⟩;refine ⟨_, rfl, ?_⟩;go_frame;replace G1 := ι (G1.out.below hb);replace J6 := ι (J6.out.below hb);replace R6 := ι (R6.out.below hb);replace J7 := ι (J7.out.below hb);replace R7 := ι (R7.out.below hb);replace J8 := ι (J8.out.below hb);replace R8 := ι (R8.out.below hb);replace I0 := ι (I0.out.below hb);replace I1 := ι (I1.out.below hb);replace I2 := ι (I2.out.below hb);replace I3 := ι (I3.out.below hb);replace I4 := ι (I4.out.below hb);replace I5 := ι (I5.out.below hb)
 replace RW := ι (RW.out.below hb);replace I6 := ι (I6.out.below hb);replace I7 := ι (I7.out.below hb);replace RX := ι (RX.out.below hb);replace K := ι (Rg.acc K.out hb);clear hb;refine Rg.lr 141 (exec_pickT (v := .bool true) _ _ _ rfl rfl rfl) ?_;go_frame;refine Rg.lr 21 (Rg.xa (.bool true) _ rfl rfl) ?_;go_frame;clear R6 R7 R8 J6 J7 J8 RW RX I0 I1 I2 I3 I4 I5 I6 I7;go_upto_region 12 with (fail);refine wp_region_list ?_;refine Rg.lr 142 (exec_buildGz rfl) ?_;go_frame;refine list_ask (some 143) rfl rfl _ _ (exec_fn1 48 _ _ rfl rfl (clChk _ _)) ?_;refine (orbitCheck_any _ 0 [] w34 (Rg.Rows.nil _ none 0 (Nat.zero_le _))).mono ?_;rintro e1 w35 ⟨rfl, hb⟩;rw [show Ma.gchk 0 [] = 2 by decide];refine ⟨_, rfl, ?_⟩;go_frame;replace G1 := ι (G1.out.below hb);replace K := ι (Rg.acc K.out hb);clear hb;refine Rg.lr 144 (exec_eqI _ _ rfl rfl rfl rfl) ?_;go_frame;refine Rg.lr 145 (Rg.xm (.bool true) _ rfl rfl) ?_;go_frame
 refine listW_run (some 146) rfl rfl (exec_buildG1 _ rfl rfl) ?_;go_frame;refine listW_ask (some 147) rfl rfl _ _ (exec_fn1 48 _ _ rfl rfl (clChk _ _)) ?_;refine (orbitCheck_any _ 65 [] w35 (Rg.Rows.nil _ none 0 (Nat.zero_le _))).mono ?_;rintro e1 w36 ⟨rfl, hb⟩;rw [show Ma.gchk 65 [] = 2 by decide];refine ⟨_, rfl, ?_⟩;go_frame;replace G1 := ι (G1.out.below hb);replace K := ι (Rg.acc K.out hb);clear hb;refine listW_run (some 148) rfl rfl (exec_eqI _ _ rfl rfl rfl rfl) ?_;go_frame;refine Rg.lr 149 (exec_pickT (v := .bool true) _ _ _ rfl rfl rfl) ?_;go_frame;refine Rg.lr 150 (Rg.xm (.bool true) _ rfl rfl) ?_;go_frame;have h17 := rows17 w36;refine listW_run (some 151) rfl rfl (exec_makeSlice _ _ _ rfl _ _ rfl rfl (mk17 w36)) ?_;go_frame;have hb := (Below.refl w36.heap.size w36).alloc (Nat.le_refl _) (.cells (madeCells #[.slice none 0 0] 17) 39);generalize w36.alloc (.cells (madeCells #[.slice none 0 0] 17) 39) = w37 at *
 replace G1 := ι (G1.out.below hb);replace K := ι (Rg.acc K.out hb);clear hb;have R17 := ι h17;clear h17;refine listW_run (some 152) rfl rfl (exec_buildG (d := 1) _ _ rfl rfl rfl) ?_;go_frame;refine listW_ask (some 153) rfl rfl _ _ (exec_fn1 48 _ _ rfl rfl (clChk _ _)) ?_;refine (orbitCheck_any _ 1 (List.replicate 17 []) w37 R17.out).mono ?_;rintro e1 w38 ⟨rfl, hb⟩;rw [show Ma.gchk 1 (List.replicate 17 []) = 4 by decide];refine ⟨_, rfl, ?_⟩;go_frame;replace G1 := ι (G1.out.below hb);replace R17 := ι (R17.out.below hb);replace K := ι (Rg.acc K.out hb);clear hb;refine listW_run (some 154) rfl rfl (exec_eqI _ _ rfl rfl rfl rfl) ?_;go_frame;refine Rg.lr 155 (exec_pickT (v := .bool true) _ _ _ rfl rfl rfl) ?_;go_frame;refine Rg.lr 156 (Rg.xm (.bool true) _ rfl rfl) ?_;go_frame;have hnew := ints_new w38 3 [0, 1] (by decide);refine listW_run (some 157) rfl rfl (exec_flat _ _ 2 _ rfl [0, 1] Try.underlying39 szInt zInt rfl (by decide) (by decide) rfl) ?_;go_frame
 have hb := (Below.refl w38.heap.size w38).alloc (Nat.le_refl _) (.cells (([0, 1] : List Int).map (Value.int .i64)).toArray 3);generalize w38.alloc (.cells (([0, 1] : List Int).map (Value.int .i64)).toArray 3) = w39 at *;replace G1 := ι (G1.out.below hb);replace R17 := ι (R17.out.below hb);replace K := ι (Rg.acc K.out hb);clear hb;have I0 := ι hnew;clear hnew
 have hrw : Rg.Rows (w39.alloc (.cells #[.slice (some ⟨w38.heap.size, 0, none⟩) 2 2] 39)) (.slice (some ⟨w39.heap.size, 0, none⟩) 1 1) [[0, 1]] := (rowsF_new (B := 0) (w := w39) 39 [.slice (some ⟨w38.heap.size, 0, none⟩) 2 2] [[0, 1]] rfl (by simp) (by
  intro i h h2
  match i, h, h2 with
  | 0, _, _ => exact ⟨I0.out, fun _ _ _ _ => Nat.zero_le _⟩) (Nat.zero_le _)).rows
 refine listW_run (some 158) rfl rfl (Rg.exec_buildSlice _ _ _ rfl (.slice (some ⟨w38.heap.size, 0, none⟩) 2 2) rfl (run_build1P w39 _ ⟨_, _, _, rfl⟩)) ?_;go_frame;have hb := (Below.refl w39.heap.size w39).alloc (Nat.le_refl _) (.cells #[.slice (some ⟨w38.heap.size, 0, none⟩) 2 2] 39);generalize w39.alloc (.cells #[.slice (some ⟨w38.heap.size, 0, none⟩) 2 2] 39) = w40 at *;replace G1 := ι (G1.out.below hb);replace R17 := ι (R17.out.below hb);replace I0 := ι (I0.out.below hb);replace K := ι (Rg.acc K.out hb);clear hb;have RW := ι hrw;clear hrw;refine listW_run (some 159) rfl rfl (exec_buildG (d := 3) _ _ rfl rfl rfl) ?_;go_frame;refine listW_ask (some 160) rfl rfl _ _ (exec_fn1 48 _ _ rfl rfl (clChk _ _)) ?_;refine (orbitCheck_any _ 3 [[0, 1]] w40 RW.out).mono ?_;rintro e1 w41 ⟨rfl, hb⟩;rw [show Ma.gchk 3 [[0, 1]] = 10 by decide];refine ⟨_, rfl, ?_⟩;go_frame;replace G1 := ι (G1.out.below hb)
 replace R17 := ι (R17.out.below hb);replace I0 := ι (I0.out.below hb);replace RW := ι (RW.out.below hb);replace K := ι (Rg.acc K.out hb);clear hb;refine listW_run (some 161) rfl rfl (exec_eqI _ _ rfl rfl rfl rfl) ?_;go_frame;refine Rg.lr 162 (exec_pickT (v := .bool true) _ _ _ rfl rfl rfl) ?_;go_frame;refine Rg.lr 22 (Rg.xa (.bool true) _ rfl rfl) ?_;go_frame;clear R17 I0 RW;go_upto_region 13 with (fail);refine wp_region_list ?_;refine list_ask (some 163) rfl rfl _ _ (exec_fn0 35 _ rfl (Fqcl10 _ _)) ?_;refine (awake_any w41).mono ?_;rintro e1 w42 ⟨rfl, hb⟩;refine ⟨_, rfl, ?_⟩;go_frame;replace G1 := ι (G1.out.below hb);replace K := ι (Rg.acc K.out hb);clear hb;refine Rg.lr 164 (Rg.xm (.bool true) _ rfl rfl) ?_;go_frame;refine listW_run (some 165) rfl rfl (Rg.xm (.bool true) _ rfl rfl) ?_;go_frame;refine Rg.lr 166 (exec_pickT (v := .bool true) _ _ _ rfl rfl rfl) ?_;go_frame;refine Rg.lr 167 (Rg.xm (.bool true) _ rfl rfl) ?_;go_frame
 refine listW_run (some 168) rfl rfl (Rg.xm (.bool true) _ rfl rfl) ?_;go_frame;refine Rg.lr 169 (exec_pickT (v := .bool true) _ _ _ rfl rfl rfl) ?_;go_frame;refine Rg.lr 170 (Rg.xm (.bool true) _ rfl rfl) ?_;go_frame;refine listW_run (some 171) rfl rfl (Rg.xm (.bool true) _ rfl rfl) ?_;go_frame;refine Rg.lr 172 (exec_pickT (v := .bool true) _ _ _ rfl rfl rfl) ?_;go_frame;refine Rg.lr 0 (Rg.xa (.bool true) _ rfl rfl) ?_;go_frame;go_wp2;go_ret;exact ⟨rfl, K.out⟩
end Go.Proofs.Ytcfomoknlchemaa

namespace Go.Proofs.Ytcfomoknlchemaa
open Go.Proofs
open Go.Proofs.Ob
def goW (gs : List (List Nat)) (p : Nat) (w : List Nat) : Nat := w.foldl (fun x g => img gs (g - 1) x) p
theorem goW_snoc (gs : List (List Nat)) (p : Nat) (w : List Nat) (g : Nat) : goW gs p (w ++ [g]) = img gs (g - 1) (goW gs p w) := by simp [goW]
def WOk (gs : List (List Nat)) (p : Nat) (e : En) : Prop := goW gs p e.2.2.2 = e.1 ∧ ∀ g ∈ e.2.2.2, 1 ≤ g ∧ g ≤ gs.length
theorem putG_w {gs : List (List Nat)} {p s : Nat} {e : En} {T : List En} (h : ∀ x ∈ T, WOk gs p x) (he : WOk gs p e) (hs : s < gs.length) : ∀ x ∈ putG gs e T s, WOk gs p x := by
 unfold putG
 split
 ·exact h
 ·intro x hx
  rcases List.mem_append.1 hx with hx | hx
  ·exact h x hx
  ·rw [List.mem_singleton] at hx
   subst hx;refine ⟨?_, fun g hg => ?_⟩
   ·show goW gs p (e.2.2.2 ++ [s + 1]) = img gs s e.1
    rw [goW_snoc, he.1]; rfl
   ·rcases List.mem_append.1 hg with hg | hg
    ·exact he.2 g hg
    ·rw [List.mem_singleton] at hg; omega
theorem innG_w {gs : List (List Nat)} {p : Nat} {e : En} {T : List En} (h : ∀ x ∈ T, WOk gs p x) (he : WOk gs p e) : ∀ n, n ≤ gs.length → ∀ x ∈ innG gs e T n, WOk gs p x
 | 0, _ => h
 | n + 1, hn => by rw [innG_succ]; exact putG_w (innG_w h he n (by omega)) he (by omega)
theorem trI_w (gs : List (List Nat)) (p : Nat) : ∀ k, ∀ x ∈ trI gs p k, WOk gs p x
 | 0 => fun x hx => by
  have : x = (p, -1, 0, []) := by simpa [trI] using hx
  subst this;exact ⟨rfl, fun g hg => by cases hg⟩
 | k + 1 => by
  by_cases h : k < (trI gs p k).length
  ·rw [trI_some h]
   exact innG_w (trI_w gs p k) (trI_w gs p k _ (List.getElem_mem h)) _ (Nat.le_refl _)
  ·rw [trI_none (by omega)]
   exact trI_w gs p k
inductive Rc (gs : List (List Nat)) (p : Nat) : Nat → Prop
 | base : Rc gs p p
 | step {s x : Nat} : s < gs.length → Rc gs p x → Rc gs p (img gs s x)
theorem goW_rc {gs : List (List Nat)} {p : Nat} : ∀ (w : List Nat) (x : Nat), Rc gs p x → (∀ g ∈ w, 1 ≤ g ∧ g ≤ gs.length) → Rc gs p (goW gs x w)
 | [], _, h, _ => h
 | g :: w, x, h, hw => by
  have := hw g (by simp);exact goW_rc w _ (.step (by omega) h) (fun y hy => hw y (List.mem_cons_of_mem _ hy))
theorem Rc.trans {gs : List (List Nat)} {p q x : Nat} (h : Rc gs p q) (h2 : Rc gs q x) : Rc gs p x := by
 induction h2 with
 | base => exact h
 | step hs _ ih => exact .step hs ih
theorem tree_rc {gs : List (List Nat)} {D p x : Nat} (hc : Cl D gs) (hp : p < D) : x ∈ pts (tree gs D p) ↔ Rc gs p x := by
 constructor
 ·intro hx
  obtain ⟨i, hi, rfl⟩ := mem_idx hx;have hw := trI_w gs p D _ (List.getElem_mem hi);rw [← hw.1];exact goW_rc _ _ .base hw.2
 ·intro h
  induction h with
  | base =>
   have h0 := (tree_ok hc hp).hd;obtain ⟨h1, h2⟩ := List.getElem?_eq_some_iff.1 h0;exact List.mem_map.2 ⟨_, List.getElem_mem h1, by rw [h2]⟩
  | step hs _ ih => exact tree_closed hc hp ih hs
theorem img_inj {gs : List (List Nat)} {D s x y : Nat} (hg : GG D gs) (hs : s < gs.length) (hx : x < D) (hy : y < D) (h : img gs s x = img gs s y) : x = y := by
 obtain ⟨h1, h2⟩ := hg _ (List.getElem_mem hs);rw [img_get hs (by omega), img_get hs (by omega)] at h;exact nodup_inj h1.2 (hi := by omega) (hj := by omega) h
theorem rc_back {gs : List (List Nat)} {D s x : Nat} {S : List Nat} (hg : GG D gs) (hn : S.Nodup) (hlt : ∀ x ∈ S, x < D) (hc : ∀ x ∈ S, img gs s x ∈ S) (hs : s < gs.length) (hx : x < D) (h : img gs s x ∈ S) : x ∈ S := by
 have hm : (S.map (img gs s)).Nodup := by
  rw [List.Nodup, List.pairwise_map];refine List.Pairwise.imp_of_mem ?_ hn;intro a b ha hb hab e;exact hab (img_inj hg hs (hlt a ha) (hlt b hb) e)
 by_cases hin : img gs s x ∈ S.map (img gs s)
 ·obtain ⟨y, hy, e⟩ := List.mem_map.1 hin
  rw [← img_inj hg hs (hlt y hy) hx e];exact hy
 ·exfalso
  have := nodup_le (List.nodup_cons.2 ⟨hin, hm⟩) (m := S) fun z hz => by
   rcases List.mem_cons.1 hz with rfl | hz
   ·exact h
   ·obtain ⟨y, hy, rfl⟩ := List.mem_map.1 hz
    exact hc y hy
  rw [List.length_cons, List.length_map] at this;omega
theorem Rc.lt {gs : List (List Nat)} {D p x : Nat} (hg : GG D gs) (hp : p < D) (h : Rc gs p x) : x < D := by
 induction h with
 | base => exact hp
 | step hs _ ih => exact hg.cl _ hs _ ih
theorem Rc.symm {gs : List (List Nat)} {D p q : Nat} (hg : GG D gs) (hp : p < D) (h : Rc gs p q) : Rc gs q p := by
 have hq := h.lt hg hp;rw [← tree_rc hg.cl hq];have hok := tree_ok hg.cl hq;have hq0 : q ∈ pts (tree gs D q) := (tree_rc hg.cl hq).2 .base
 have key : ∀ x, Rc gs p x → x ∈ pts (tree gs D q) → p ∈ pts (tree gs D q) := by
  intro x hx
  induction hx with
  | base => exact id
  | step hs hx ih => exact fun h1 => ih (rc_back hg hok.nd hok.lt (fun z hz => tree_closed hg.cl hq hz hs) hs (hx.lt hg hp) h1)
 exact key q h hq0
end Go.Proofs.Ytcfomoknlchemaa

namespace Go.Proofs.Ytcfomoknlchemaa
open Go.RowKit
open Go.Proofs
open Go.Proofs.Ob
open Go.Proofs.Cm (Gd)
attribute [local irreducible] Go.Calls Go.wpList
theorem gg_of {D : Nat} {gs : List (List Nat)} (h : ∀ s ∈ gs, Gd D s) : GG D gs := fun s hs => h s hs
theorem rows_get {w : World} {a : Option Addr} {n c : Nat} {T : List (List Int)} (h : Rg.Rows w (.slice a n c) T) {i : Nat} (hi : i < T.length) : ∃ b o ua uc, a = some ⟨b, o, none⟩ ∧ b < w.heap.size ∧ w.cell? ⟨b, o + i, none⟩ = some (.slice ua T[i].length uc) ∧ Rg.Ints w (.slice ua T[i].length uc) T[i] := by
 obtain ⟨a', c', e, -, -, -, hx⟩ := h.shape;simp only [Value.slice.injEq] at e;obtain ⟨rfl, rfl, rfl⟩ := e;obtain ⟨b, o, e1, e2, e3⟩ := hx (by omega);obtain ⟨u, h1, h2⟩ := e3 i hi;obtain ⟨ua, uc, e4, -⟩ := Rg.Ints.shape h2;subst e4;exact ⟨b, o, ua, uc, e1, e2, h1, h2⟩
theorem ints_get {w : World} {a : Option Addr} {n c : Nat} {l : List Int} (h : Rg.Ints w (.slice a n c) l) {k : Nat} (hk : k < l.length) : ∃ b o, a = some ⟨b, o, none⟩ ∧ b < w.heap.size ∧ w.cell? ⟨b, o + k, none⟩ = some (.int .i64 l[k]) := by
 obtain ⟨a', c', e, -, -, -, hx⟩ := h.shape;simp only [Value.slice.injEq] at e;obtain ⟨rfl, rfl, rfl⟩ := e;obtain ⟨b, o, e1, e2, e3⟩ := hx (by omega);exact ⟨b, o, e1, e2, e3 k hk⟩
variable {gs : List (List Nat)} {D : Nat} {O : List (List Int)} {cls : Nat → Nat}
end Go.Proofs.Ytcfomoknlchemaa

namespace Go.Proofs.Ytcfomoknlchemaa
open Go.Proofs
open Go.Proofs.Ob
def dep (e : En) : Nat := e.2.2.2.length
theorem putG_dep {gs : List (List Nat)} {e : En} {T : List En} {s : Nat} (h1 : T.Pairwise fun a b => dep a ≤ dep b) (h2 : ∀ x ∈ T, dep x ≤ dep e + 1) : (putG gs e T s).Pairwise (fun a b => dep a ≤ dep b) ∧ ∀ x ∈ putG gs e T s, dep x ≤ dep e + 1 := by
 unfold putG
 split
 ·exact ⟨h1, h2⟩
 ·have hd : dep (img gs s e.1, (e.1 : Int), s + 1, e.2.2.2 ++ [s + 1]) = dep e + 1 := by simp [dep]
  refine ⟨?_, fun x hx => ?_⟩
  ·rw [List.pairwise_append]
   refine ⟨h1, List.pairwise_singleton _ _, fun a ha b hb => ?_⟩;rw [List.mem_singleton] at hb;subst hb;rw [hd]; exact h2 a ha
  ·rcases List.mem_append.1 hx with hx | hx
   ·exact h2 x hx
   ·rw [List.mem_singleton] at hx
    subst hx;rw [hd]; exact Nat.le_refl _
theorem innG_dep {gs : List (List Nat)} {e : En} {T : List En} (h1 : T.Pairwise fun a b => dep a ≤ dep b) (h2 : ∀ x ∈ T, dep x ≤ dep e + 1) : ∀ n, (innG gs e T n).Pairwise (fun a b => dep a ≤ dep b) ∧ ∀ x ∈ innG gs e T n, dep x ≤ dep e + 1
 | 0 => ⟨h1, h2⟩
 | n + 1 => by
  obtain ⟨a, b⟩ := innG_dep h1 h2 n;rw [innG_succ];exact putG_dep a b
theorem trI_dep (gs : List (List Nat)) (p : Nat) : ∀ k, (trI gs p k).Pairwise (fun a b => dep a ≤ dep b) ∧ ∀ (hk : k < (trI gs p k).length), ∀ x ∈ trI gs p k, dep x ≤ dep (trI gs p k)[k] + 1
 | 0 => by
  refine ⟨List.pairwise_singleton _ _, fun hk x hx => ?_⟩
  have e : x = (p, -1, 0, []) := by simpa [trI] using hx
  subst e;exact Nat.zero_le _
 | k + 1 => by
  obtain ⟨h1, h2⟩ := trI_dep gs p k
  by_cases h : k < (trI gs p k).length
  ·obtain ⟨a, b⟩ := innG_dep (gs := gs) h1 (h2 h) gs.length
   have e := trI_some h;obtain ⟨hl, hg⟩ := innG_get (gs := gs) (e := (trI gs p k)[k]) (n := gs.length) h;simp only [e];refine ⟨a, fun hk x hx => ?_⟩;have h3 := b x hx;have h4 := List.pairwise_iff_getElem.1 a k (k + 1) hl hk (by omega);rw [hg] at h4;omega
  ·have e := trI_none (show (trI gs p k).length ≤ k by omega)
   simp only [e];exact ⟨h1, fun hk => by omega⟩
theorem trI_near (gs : List (List Nat)) (p : Nat) : ∀ k i (hi : i < (trI gs p k).length), i < k → ∀ s, s < gs.length → ∃ x ∈ trI gs p k, x.1 = img gs s (trI gs p k)[i].1 ∧ dep x ≤ dep (trI gs p k)[i] + 1
 | 0, _, _, h => absurd h (Nat.not_lt_zero _)
 | k + 1, i, hi, hik => by
  intro s hs
  by_cases h : k < (trI gs p k).length
  ·obtain ⟨h1, h2⟩ := trI_dep gs p k
   obtain ⟨_, b⟩ := innG_dep (gs := gs) h1 (h2 h) gs.length;have e := trI_some h
   have key : ∃ x ∈ innG gs (trI gs p k)[k] (trI gs p k) gs.length, ∀ hi' : i < (innG gs (trI gs p k)[k] (trI gs p k) gs.length).length, x.1 = img gs s (innG gs (trI gs p k)[k] (trI gs p k) gs.length)[i].1 ∧ dep x ≤ dep (innG gs (trI gs p k)[k] (trI gs p k) gs.length)[i] + 1 := by
    by_cases hk : i < k
    ·obtain ⟨x, hx, e1, e2⟩ := trI_near gs p k i (by omega) hk s hs
     obtain ⟨hl, hg⟩ := innG_get (gs := gs) (e := (trI gs p k)[k]) (n := gs.length) (show i < (trI gs p k).length by omega);obtain ⟨r, hr⟩ := innG_pre gs (trI gs p k)[k] (trI gs p k) gs.length;exact ⟨x, by rw [hr]; exact List.mem_append_left _ hx, fun _ => by rw [hg]; exact ⟨e1, e2⟩⟩
    ·obtain rfl : i = k := by omega
     obtain ⟨hl, hg⟩ := innG_get (gs := gs) (e := (trI gs p i)[i]) (n := gs.length) h;obtain ⟨j, hj, ej⟩ := mem_idx (mem_inn (gs := gs) (e := (trI gs p i)[i]) (T := trI gs p i) gs.length s hs);exact ⟨_, List.getElem_mem hj, fun _ => by rw [hg]; exact ⟨ej, b _ (List.getElem_mem hj)⟩⟩
   obtain ⟨x, hx, hh⟩ := key;have := hh (by rw [← e]; exact hi);refine ⟨x, by rw [e]; exact hx, ?_⟩;simp only [e];exact this
  ·have e := trI_none (show (trI gs p k).length ≤ k by omega)
   have hi' : i < (trI gs p k).length := by rw [← e]; exact hi
   obtain ⟨x, hx, e1, e2⟩ := trI_near gs p k i hi' (by omega) s hs;refine ⟨x, by rw [e]; exact hx, ?_⟩;simp only [e];exact ⟨e1, e2⟩
theorem tree_short {gs : List (List Nat)} {D p : Nat} (hc : Cl D gs) (hp : p < D) : ∀ (n : Nat) (u : List Nat), u.length = n → (∀ g ∈ u, 1 ≤ g ∧ g ≤ gs.length) → ∃ x ∈ tree gs D p, x.1 = goW gs p u ∧ dep x ≤ u.length
 | 0, u, hu, _ => by
  obtain rfl : u = [] := List.length_eq_zero_iff.1 hu;have h0 := (tree_ok hc hp).hd;obtain ⟨h1, h2⟩ := List.getElem?_eq_some_iff.1 h0;exact ⟨_, List.getElem_mem h1, by rw [h2]; rfl, by rw [h2]; exact Nat.le_refl _⟩
 | n + 1, u, hu, hg => by
  rcases u.eq_nil_or_concat with rfl | ⟨v, g, hv⟩
  ·cases hu
  ·rw [List.concat_eq_append] at hv
   subst hv;rw [List.length_append, List.length_singleton] at hu;obtain ⟨x, hx, e1, e2⟩ := tree_short hc hp n v (by omega) (fun y hy => hg y (List.mem_append_left _ hy));obtain ⟨i, hi, rfl⟩ := List.getElem_of_mem hx;have hlen := (tree_ok hc hp).len;have hgg := hg g (by simp);obtain ⟨z, hz, f1, f2⟩ := trI_near gs p D i hi (by omega) (g - 1) (by omega);refine ⟨z, hz, ?_, ?_⟩
   ·rw [goW_snoc, ← e1]; exact f1
   ·rw [List.length_append, List.length_singleton]
    have : dep (trI gs p D)[i] ≤ v.length := e2;omega
theorem wd_short {gs : List (List Nat)} {D p q : Nat} (hc : Cl D gs) (hp : p < D) (hq : q ∈ pts (tree gs D p)) : goW gs p (wd (tree gs D p) q) = q ∧ (∀ g ∈ wd (tree gs D p) q, 1 ≤ g ∧ g ≤ gs.length) ∧ ∀ u : List Nat, (∀ g ∈ u, 1 ≤ g ∧ g ≤ gs.length) → goW gs p u = q → (wd (tree gs D p) q).length ≤ u.length := by
 have hok := tree_ok hc hp;obtain ⟨i, hi, rfl⟩ := mem_idx hq;have hw := trI_w gs p D _ (List.getElem_mem hi);rw [wd_at hok.nd hi];refine ⟨hw.1, hw.2, fun u hu e => ?_⟩;obtain ⟨x, hx, e1, e2⟩ := tree_short hc hp u.length u rfl hu;obtain ⟨j, hj, rfl⟩ := List.getElem_of_mem hx;have : j = i := nodup_inj hok.nd (hi := by rw [len_pts]; exact hj) (hj := by rw [len_pts]; exact hi) (by rw [get_pts, get_pts, e1, e]);subst this;exact e2
end Go.Proofs.Ytcfomoknlchemaa

namespace Go.Proofs.Ytcfomoknlchemaa
open Go.RowKit
open Go.Proofs
open Go.Proofs.Ob
open Go.Proofs.Cm (Gd)
attribute [local irreducible] Go.Calls Go.wpList
theorem Fwcl0 (args : Array Value) (w : World) : (callFunc 7 args).run Try.prog w = .ok (.enter 7 args) w := by kernel_rfl
theorem Fwcl1 (args : Array Value) (w : World) : (callFunc 15 args).run Try.prog w = .ok (.enter 15 args) w := by kernel_rfl
theorem Fwcl4 (args : Array Value) (w : World) : (callFunc 50 args).run Try.prog w = .ok (.enter 50 args) w := by kernel_rfl
def kpV (x n : Int) : Int := if x.tmod n < 0 then x.tmod n + n else x.tmod n
theorem kpV_in (x n : Int) (h : 0 < n) : 0 ≤ kpV x n ∧ kpV x n < n := by
 unfold kpV;have h1 := Int.tmod_lt_of_pos x h
 have h2 : -n < x.tmod n := by
  have := Int.lt_tmod_of_pos x h;omega
 split <;> omega
theorem kPick_any (x n : Int) (w : World) (h0 : 0 < n) (h1 : n ≤ 1000) : Calls Try.prog 49 #[.int .i64 x, .int .i64 n] w fun e w' => e = .returned (.int .i64 (kpV x n)) ∧ Below w.heap.size w w' := by
 have hn0 : ¬ n = 0 := by omega
 have h2 := Int.tmod_lt_of_pos x h0
 have h3 : -n < x.tmod n := by
  have := Int.lt_tmod_of_pos x h0;omega
 by_cases hlt : x.tmod n < 0
 ·rw [show kpV x n = x.tmod n + n from if_pos hlt]
  go_enter Try.func49, Try.ntmps49
  go_wp2;go_ret;exact ⟨rfl, Below.refl _ _⟩
 ·rw [show kpV x n = x.tmod n from if_neg hlt]
  go_enter Try.func49, Try.ntmps49
  go_wp2;go_ret;exact ⟨rfl, Below.refl _ _⟩
theorem path_in {gs : List (List Nat)} {D p q : Nat} (hk : Ma.gchk ((D : Nat) : Int) (gs.map Ma.ofN) = 0) (hp : p < D) (hq : q < D) (h : q ∈ pts (tree gs D p)) : pathS ((D : Nat) : Int) (gs.map Ma.ofN) ((p : Nat) : Int) ((q : Nat) : Int) = (Ma.ofN (wd (tree gs D p) q), 0) := by
 unfold pathS
 have e3 : treeL ((D : Nat) : Int) (gs.map Ma.ofN) ((p : Nat) : Int) = tree gs D p := by unfold treeL; rw [toNs_ofN]; rfl
 have e4 : (((q : Nat) : Int)).toNat = q := rfl;rw [if_pos hk, if_pos ⟨decide_eq_true (by omega), decide_eq_true (by omega)⟩, e3, e4, if_pos h]
theorem path_out {gs : List (List Nat)} {D p q : Nat} (hk : Ma.gchk ((D : Nat) : Int) (gs.map Ma.ofN) = 0) (hp : p < D) (hq : q < D) (h : q ∉ pts (tree gs D p)) : pathS ((D : Nat) : Int) (gs.map Ma.ofN) ((p : Nat) : Int) ((q : Nat) : Int) = ([], 18) := by
 unfold pathS
 have e3 : treeL ((D : Nat) : Int) (gs.map Ma.ofN) ((p : Nat) : Int) = tree gs D p := by unfold treeL; rw [toNs_ofN]; rfl
 have e4 : (((q : Nat) : Int)).toNat = q := rfl;rw [if_pos hk, if_pos ⟨decide_eq_true (by omega), decide_eq_true (by omega)⟩, e3, e4, if_neg h]
theorem pick_nat (x : Int) {d : Nat} (h : 1 ≤ d) : ∃ p : Nat, kpV x ((d : Nat) : Int) = ((p : Nat) : Int) ∧ p < d := by
 obtain ⟨h1, h2⟩ := kpV_in x ((d : Nat) : Int) (by omega);exact ⟨(kpV x ((d : Nat) : Int)).toNat, by omega, by omega⟩
theorem OwJ.one {B x : Nat} {W : World} (hB : B ≤ W.heap.size) : OwJ B (W.alloc (.cells #[.int .i64 ((x : Nat) : Int)] 3)) (.slice (some ⟨W.heap.size, 0, none⟩) 1 1) [x] :=
 ⟨⟨rfl, .inr ⟨W.heap.size, 1, #[.int .i64 ((x : Nat) : Int)], rfl, hB, by show (W.heap.push _)[W.heap.size]? = _; simp, Nat.le_refl _, by decide, rfl, rfl⟩⟩⟩
theorem OwJ.ints {B : Nat} {W : World} {v : Value} {l : List Nat} (h : OwJ B W v l) (hl : l.length ≤ 1000 := by omega) : Rg.Ints W v (Ma.ofN l) := Rg.Ints.of_row h.row (by omega)
structure NearP (gs : List (List Nat)) (d p n : Nat) (l : List Nat) : Prop where
 nd : l.Nodup
 lt : ∀ x ∈ l, x < d
 wd : ∀ x ∈ l, ∃ u : List Nat, (∀ g ∈ u, 1 ≤ g ∧ g ≤ gs.length) ∧ u.length ≤ n ∧ goW gs p u = x
theorem NearP.start {gs : List (List Nat)} {d p : Nat} (h : p < d) : NearP gs d p 0 [p] :=
 ⟨by simp, fun x hx => by rw [List.mem_singleton] at hx; subst hx; exact h, fun x hx => by rw [List.mem_singleton] at hx; subst hx; exact ⟨[], fun g hg => (by cases hg), Nat.le_refl _, rfl⟩⟩
theorem NearP.len {gs : List (List Nat)} {d p n : Nat} {l : List Nat} (h : NearP gs d p n l) : l.length ≤ d := by
 have := nodup_le h.nd (m := List.range d) fun x hx => List.mem_range.2 (h.lt x hx)
 rwa [List.length_range] at this
structure NearQ (gs : List (List Nat)) (d p n : Nat) (l l2 : List Nat) : Prop where
 pre : ∃ r, l2 = l ++ r
 nx : NearP gs d p (n + 1) l2
 o : NearP gs d p n l
theorem NearQ.start {gs : List (List Nat)} {d p n : Nat} {l : List Nat} (h : NearP gs d p n l) : NearQ gs d p n l l :=
 ⟨⟨[], by simp⟩, ⟨h.nd, h.lt, fun x hx => by obtain ⟨u, h1, h2, h3⟩ := h.wd x hx; exact ⟨u, h1, by omega, h3⟩⟩, h⟩
theorem NearQ.put {gs : List (List Nat)} {d p n s x y : Nat} {l l2 u : List Nat} (h : NearQ gs d p n l l2) (hs : s < gs.length) (hn : y ∉ l2) (hy : y < d) (he : img gs s x = y) (hu : (∀ g ∈ u, 1 ≤ g ∧ g ≤ gs.length) ∧ u.length ≤ n ∧ goW gs p u = x) : NearQ gs d p n l (l2 ++ [y]) := by
 obtain ⟨r, hr⟩ := h.pre;refine ⟨⟨r ++ [y], by rw [hr, List.append_assoc]⟩, ⟨?_, fun z hz => ?_, fun z hz => ?_⟩, h.o⟩
 ·rw [List.nodup_append]
  exact ⟨h.nx.nd, by simp, fun a ha b hb => by rw [List.mem_singleton] at hb; subst hb; exact fun e => hn (e ▸ ha)⟩
 ·rcases List.mem_append.1 hz with e | e
  ·exact h.nx.lt z e
  ·rw [List.mem_singleton] at e; subst e; exact hy
 ·rcases List.mem_append.1 hz with e | e
  ·exact h.nx.wd z e
  ·rw [List.mem_singleton] at e
   subst e;refine ⟨u ++ [s + 1], fun g hg => ?_, by rw [List.length_append, List.length_singleton]; omega, ?_⟩
   ·rcases List.mem_append.1 hg with e | e
    ·exact hu.1 g e
    ·rw [List.mem_singleton] at e; omega
   ·rw [goW_snoc, hu.2.2]; exact he
theorem OrbitPaths_any (v0 : Value) (l0 : List Int) (i1 i2 : Int) (w : World) (h0 : Rg.IntsB maxLen w v0 l0) :
  Calls Try.prog 9 #[v0, .int .i64 i1, .int .i64 i2] w fun e w' => e = .returned (.bool true) ∧ Below w.heap.size w w' := by
 obtain ⟨a0, c0, rfl, -⟩ := h0.shape;have HL0 := ι (show IB w (.slice a0 l0.length c0) l0 from ⟨h0⟩);clear h0;have K := ι (Below.refl w.heap.size w)
 go_enter Try.func9, Try.ntmps9
 go_upto_region 0 with (fail);refine wp_region_list ?_;refine Rg.lr 6 (Rg.xa (.bool false) _ rfl rfl) ?_;go_frame;go_upto_region 1 with (fail);refine wp_region_list ?_;refine list_ask (some 19) rfl rfl _ _ (exec_fn0 7 _ rfl (Fwcl0 _ _)) ?_;refine (OrbitKnown_any w).mono ?_;rintro e1 w1 ⟨rfl, hb⟩;refine ⟨_, rfl, ?_⟩;go_frame;replace HL0 := ι (HL0.out.below hb);replace K := ι (Rg.acc K.out hb);clear hb;refine Rg.lr 7 (Rg.xa (.bool true) _ rfl rfl) ?_;go_frame;go_upto_region 2 with (fail);refine wp_region_list ?_;refine Rg.lr 20 (Rg.xm (.slice a0 l0.length c0) _ rfl rfl) ?_;go_frame;refine list_ask (some 21) rfl rfl _ _ (exec_fn 15 _ _ _ rfl rfl rfl (Fwcl1 _ _)) ?_;refine (GroupOf_any _ _ 12 w1 HL0.out.i (by decide) (by decide)).mono ?_;rintro e1 w2 ⟨d, gv, gs, rfl, hd1, hd2, hgl, hgs, hgr, hb⟩;obtain ⟨ga, gc, rfl, -⟩ := hgr.shape;have HD := ι (show 1 ≤ d ∧ d ≤ 12 from ⟨hd1, hd2⟩);have HGS := ι hgs
 have HGL := ι hgl;have HCK := ι (gchk_good (gs := gs) hd1 (by omega) (by omega) hgs);clear hgs hgl;refine ⟨_, rfl, ?_⟩;go_frame;replace HL0 := ι (HL0.out.below hb);replace K := ι (Rg.acc K.out hb);clear hb;have HG := ι hgr;obtain ⟨W2, hst, hga, hb⟩ := GI.fresh (d := ((d : Nat) : Int)) HG.out;refine Rg.lr 8 (exec_allocG rfl) ?_;go_frame;refine Rg.list_skip none rfl rfl (Rg.exec_store _ _ _ rfl _ rfl _ rfl hst) ?_;go_frame;clear hst;clear hgr;replace HL0 := ι (HL0.out.below hb);replace HG := ι (HG.out.below hb);replace K := ι (Rg.acc K.out hb);clear hb;have G6 := ι hga;clear hga;have hd12 : 1 ≤ d ∧ d ≤ 12 := HD.out;have HGG := ι (gg_of HGS.out);obtain ⟨p, hpv, hpd⟩ := pick_nat i1 hd12.1;obtain ⟨q, hqv, hqd⟩ := pick_nat i2 hd12.1;have HPV := ι hpv;have HQV := ι hqv;clear hpv hqv;go_upto_region 3 with (fail);have hV0 : Below W2.heap.size W2 W2.drew := (Below.refl _ _).drew;replace HL0 := ι (HL0.out.below hV0)
 replace HG := ι (HG.out.below hV0);replace G6 := ι (G6.out.below hV0);replace K := ι (Rg.acc K.out hV0);clear hV0;refine Rg.Any.begin (S := Rg.Both 9 (fun _ => True) (fun W => Below W2.drew.heap.size W2.drew W)) mix ?_;generalize W2.drew = w3 at *;have hS : ∀ (l : Array Bool) W, Below w3.heap.size w3 W → Rg.Both 9 (fun _ => True) (fun W => Below w3.heap.size w3 W) l W := fun l W h => ⟨.inr trivial, h⟩;have hI : Below w3.heap.size w3 w3 := Below.refl _ _;refine Rg.tg 0 9 (.int .i64 i1) 22 rfl rfl (.inl ⟨rfl, fun w _ => Rg.exec_move (v := .int .i64 i1) _ rfl rfl⟩) (hS _ _ hI) ?_;go_frame;refine Rg.tg 1 9 (.pointer (some ⟨w2.heap.size, 0, none⟩)) 23 rfl rfl (.inl ⟨rfl, fun w _ => exec_fieldG0 _ rfl rfl⟩) (hS _ _ hI) ?_;go_frame;refine Rg.tg 2 9 (.int .i64 ((d : Nat) : Int)) 24 rfl rfl (Rg.yields_cell _ _ rfl rfl ⟨w2.heap.size, 0, none⟩ rfl (fun W hW => run_loadInt ((Below.cell (p := ⟨w2.heap.size, 0, none⟩) hW G6.out.lt).trans G6.out.c0))) (hS _ _ hI) ?_;go_frame
 refine Rg.tg 4 9 (.int .i64 i2) 26 rfl rfl (.inl ⟨rfl, fun w _ => Rg.exec_move (v := .int .i64 i2) _ rfl rfl⟩) (hS _ _ hI) ?_;go_frame;refine Rg.tg 5 9 (.pointer (some ⟨w2.heap.size, 0, none⟩)) 27 rfl rfl (.inl ⟨rfl, fun w _ => exec_fieldG0 _ rfl rfl⟩) (hS _ _ hI) ?_;go_frame;refine Rg.tg 6 9 (.int .i64 ((d : Nat) : Int)) 28 rfl rfl (Rg.yields_cell _ _ rfl rfl ⟨w2.heap.size, 0, none⟩ rfl (fun W hW => run_loadInt ((Below.cell (p := ⟨w2.heap.size, 0, none⟩) hW G6.out.lt).trans G6.out.c0))) (hS _ _ hI) ?_;go_frame;refine Rg.Any.one (i := 3) (by kernel_rfl) (Rg.Any.ask (some 25) rfl rfl rfl _ _ (exec_fn 49 _ _ _ rfl rfl rfl (Zjcl0 _ _)) ?_);refine (kPick_any i1 ((d : Nat) : Int) w3 (by omega) (by omega)).mono ?_;rintro e1 w4 ⟨rfl, hb⟩;rw [HPV.out];have hI2_0 := Rg.acc hI hb;clear hb hI;refine ⟨_, rfl, (hS _ _ hI2_0), ?_⟩;go_frame;refine Rg.Any.one (i := 7) (by kernel_rfl) (Rg.Any.ask (some 29) rfl rfl rfl _ _ (exec_fn 49 _ _ _ rfl rfl rfl (Zjcl0 _ _)) ?_)
 refine (kPick_any i2 ((d : Nat) : Int) w4 (by omega) (by omega)).mono ?_;rintro e1 w5 ⟨rfl, hb⟩;rw [HQV.out];have hI3_0 := Rg.acc hI2_0 hb;have hI3_1 := hb;clear hb hI2_0;refine ⟨_, rfl, (hS _ _ hI3_0), ?_⟩;go_frame;refine Rg.tg 8 9 (.int .i64 ((p : Nat) : Int)) 1 rfl rfl (.inl ⟨rfl, fun w _ => Rg.exec_assign (v := .int .i64 ((p : Nat) : Int)) _ rfl rfl⟩) (hS _ _ hI3_0) ?_;go_frame;refine Rg.Any.one (i := 9) (by kernel_rfl) (Rg.Any.run (some 2) rfl rfl rfl (Rg.xa (.int .i64 ((q : Nat) : Int)) _ rfl rfl) (hS _ _ hI3_0) ?_);go_frame;refine Rg.Any.done (by kernel_rfl) ?_ _;replace HL0 := ι (HL0.out.below hI3_0);replace HG := ι (HG.out.below hI3_0);replace G6 := ι (G6.out.below hI3_0);replace K := ι (Rg.acc K.out hI3_0);clear hS hI3_0 hI3_1
 by_cases hin : q ∈ pts (tree gs d p)
 case neg =>
  have HPO := ι (path_out HCK.out hpd hqd hin);have hpq : ¬ p = q := fun e => hin (by rw [← e]; exact (tree_rc HGG.out.cl hpd).2 .base);go_upto_region 4 with (fail);refine wp_region_list ?_;refine Rg.lr 31 (Rg.exec_load (v := .agg #[.int .i64 ((d : Nat) : Int), .slice ga (gs.map Ma.ofN).length gc]) _ _ rfl ⟨w2.heap.size, 0, none⟩ rfl (run_loadG G6.out.c0 G6.out.c1)) ?_;go_frame;refine Rg.lr 32 (Rg.xm (.int .i64 ((p : Nat) : Int)) _ rfl rfl) ?_;go_frame;refine Rg.lr 33 (Rg.xm (.int .i64 ((q : Nat) : Int)) _ rfl rfl) ?_;go_frame;refine list_ask (some 34) rfl rfl _ _ (exec_fn3 47 _ _ _ _ rfl rfl rfl rfl (vbcl2 _ _)) ?_;refine (Path_any _ ((d : Nat) : Int) (gs.map Ma.ofN) ((p : Nat) : Int) ((q : Nat) : Int) w5 HG.out).mono ?_;rintro e1 w6 ⟨pv, rfl, hpw, hb⟩;rw [HPO.out];clear hpw;refine ⟨_, rfl, ?_⟩;go_frame;replace HL0 := ι (HL0.out.below hb);replace HG := ι (HG.out.below hb);replace G6 := ι (G6.out.below hb)
  replace K := ι (Rg.acc K.out hb);clear hb;refine Rg.lr 30 (Rg.xm (.tuple #[pv, .int .i64 18]) _ rfl rfl) ?_;go_frame;refine Rg.lr 35 (exec_extract (v := pv) _ _ rfl rfl rfl) ?_;go_frame;refine Rg.lr 36 (exec_extract (v := .int .i64 18) _ _ rfl rfl rfl) ?_;go_frame;refine Rg.lr 9 (Rg.xa (pv) _ rfl rfl) ?_;go_frame;refine Rg.lr 10 (Rg.xa (.int .i64 18) _ rfl rfl) ?_;go_frame;go_upto_region 5 with (fail);refine wp_region_list ?_;refine Rg.lr 37 (Rg.xm (.int .i64 18) _ rfl rfl) ?_;go_frame;refine Rg.lr 38 (exec_bin (R := .bool true) .neq _ _ _ rfl rfl rfl (b_neqB _ (decide_eq_true (by decide)))) ?_;go_frame;go_upto_region 6 with (fail);refine wp_region_list ?_;refine Rg.lr 39 (Rg.xm (.bool true) _ rfl rfl) ?_;go_frame;refine Rg.lr 40 (Rg.xm (.bool true) _ rfl rfl) ?_;go_frame;refine listW_run (some 41) rfl rfl (Rg.xm (.int .i64 18) _ rfl rfl) ?_;go_frame;refine listW_run (some 42) rfl rfl (exec_eqI _ _ rfl rfl rfl rfl) ?_;go_frame
  refine Rg.lr 43 (exec_pickT (v := .bool true) _ _ _ rfl rfl rfl) ?_;go_frame;refine Rg.lr 44 (Rg.xm (.bool true) _ rfl rfl) ?_;go_frame;refine listW_run (some 45) rfl rfl (Rg.xm (.int .i64 ((p : Nat) : Int)) _ rfl rfl) ?_;go_frame;refine listW_run (some 46) rfl rfl (Rg.xm (.int .i64 ((q : Nat) : Int)) _ rfl rfl) ?_;go_frame;refine listW_run (some 47) rfl rfl (exec_bin (R := .bool true) .neq _ _ _ rfl rfl rfl (b_neqB _ (decide_eq_true (by omega)))) ?_;go_frame;refine Rg.lr 48 (exec_pickT (v := .bool true) _ _ _ rfl rfl rfl) ?_;go_frame;refine Rg.lr 6 (Rg.xa (.bool true) _ rfl rfl) ?_;go_frame;go_wp2;go_ret;exact ⟨rfl, K.out⟩
 case pos =>
  obtain ⟨W, hW⟩ : ∃ W, Hid (wd (tree gs d p) q = W) := ⟨_, ι rfl⟩;have hpi := path_in HCK.out hpd hqd hin;have hws := wd_short HGG.out.cl hpd hin;rw [hW.out] at hpi hws;have HPI := ι hpi;have HWS := ι hws;clear hpi hws;go_upto_region 4 with (fail);refine wp_region_list ?_;refine Rg.lr 31 (Rg.exec_load (v := .agg #[.int .i64 ((d : Nat) : Int), .slice ga (gs.map Ma.ofN).length gc]) _ _ rfl ⟨w2.heap.size, 0, none⟩ rfl (run_loadG G6.out.c0 G6.out.c1)) ?_;go_frame;refine Rg.lr 32 (Rg.xm (.int .i64 ((p : Nat) : Int)) _ rfl rfl) ?_;go_frame;refine Rg.lr 33 (Rg.xm (.int .i64 ((q : Nat) : Int)) _ rfl rfl) ?_;go_frame;refine list_ask (some 34) rfl rfl _ _ (exec_fn3 47 _ _ _ _ rfl rfl rfl rfl (vbcl2 _ _)) ?_;refine (Path_any _ ((d : Nat) : Int) (gs.map Ma.ofN) ((p : Nat) : Int) ((q : Nat) : Int) w5 HG.out).mono ?_;rintro e1 w6 ⟨pv, rfl, hpw, hb⟩;rw [HPI.out] at hpw ⊢;obtain ⟨pa, pc, rfl, -⟩ := Rg.NP.shape hpw
  have hpw2 := NpW.mk hpw;refine ⟨_, rfl, ?_⟩;go_frame;replace HL0 := ι (HL0.out.below hb);replace HG := ι (HG.out.below hb);replace G6 := ι (G6.out.below hb);replace K := ι (Rg.acc K.out hb);clear hb;have LV := ι hpw2;refine Rg.lr 30 (Rg.xm (.tuple #[.slice pa W.length pc, .int .i64 ((0 : Nat) : Int)]) _ rfl rfl) ?_;go_frame;refine Rg.lr 35 (exec_extract (v := .slice pa W.length pc) _ _ rfl rfl rfl) ?_;go_frame;refine Rg.lr 36 (exec_extract (v := .int .i64 ((0 : Nat) : Int)) _ _ rfl rfl rfl) ?_;go_frame;refine Rg.lr 9 (Rg.xa (.slice pa W.length pc) _ rfl rfl) ?_;go_frame;refine Rg.lr 10 (Rg.xa (.int .i64 ((0 : Nat) : Int)) _ rfl rfl) ?_;go_frame;go_upto_region 5 with (fail);refine wp_region_list ?_;refine Rg.lr 37 (Rg.xm (.int .i64 ((0 : Nat) : Int)) _ rfl rfl) ?_;go_frame;refine Rg.lr 38 (exec_bin (R := .bool false) .neq _ _ _ rfl rfl rfl (b_neqB _ (decide_eq_false (fun h => h rfl)))) ?_;go_frame
  go_upto_region 7 with (fail);refine wp_region_list ?_;refine Rg.lr 49 (Rg.xm (.int .i64 ((p : Nat) : Int)) _ rfl rfl) ?_;go_frame;refine Rg.lr 11 (Rg.xa (.int .i64 ((p : Nat) : Int)) _ rfl rfl) ?_;go_frame;go_upto_region 8 with (fail);refine wp_region_list ?_;refine Rg.lr 12 (Rg.xa (.int .i64 ((0 : Nat) : Int)) _ rfl rfl) ?_;go_frame;have KC0 := ι (Below.refl w6.heap.size w6);have K0 := K
  have hgl9 : gs.length ≤ 16 := by have := HGL.out; omega
  have hlb : W.length ≤ 1000000000 := by obtain ⟨_, _, _, _, h9, _⟩ := Rg.NP.shape LV.out.np; exact h9
  have HPM := ι (show (gs.map Ma.ofN).length = gs.length from List.length_map _);go_wp2
  go_loopw [11, 12] (fun xv iv wr => ∃ i : Nat, iv = .int .i64 ((i : Nat) : Int) ∧ i ≤ W.length ∧ xv = .int .i64 ((goW gs p (W.take i) : Nat) : Int) ∧ Hid (Below w6.heap.size w6 wr)) (fun _ iv _ => W.length - (intOf iv).toNat)
  case atStart => exact ⟨0, rfl, Nat.zero_le _, rfl, KC0⟩
  case round =>
   clear KC0;obtain ⟨i, rfl, hi, rfl, KC⟩ := hrel;generalize wr = wd at *
   by_cases hil : i < W.length
   case pos =>
    obtain ⟨g, hg⟩ : ∃ g, Hid (W[i]'hil = g) := ⟨_, ι rfl⟩
    have hgr : 1 ≤ g ∧ g ≤ gs.length := by rw [← hg.out]; exact HWS.out.2.1 _ (List.getElem_mem hil)
    obtain ⟨x, hx⟩ : ∃ x, Hid (goW gs p (W.take i) = x) := ⟨_, ι rfl⟩;rw [hx.out]
    have hxd : x < d := by
     rw [← hx.out];exact (goW_rc (W.take i) p .base (fun y hy => HWS.out.2.1 y (List.mem_of_mem_take hy))).lt HGG.out hpd
    have hsl : g - 1 < gs.length := by omega
    obtain ⟨gb, go, ua, uc, rfl, hgb, hgc, hgu⟩ := rows_get HG.out (i := g - 1) (by rw [HPM.out]; exact hsl);obtain ⟨gi, HGI⟩ : ∃ z, Hid (gs[g - 1]'hsl = z) := ⟨_, ι rfl⟩
    have hgd : Gd d gi := by rw [← HGI.out]; exact HGS.out _ (List.getElem_mem hsl)
    rw [show (gs.map Ma.ofN)[g - 1]'(by rw [HPM.out]; exact hsl) = Ma.ofN gi by rw [List.getElem_map, HGI.out]] at hgc hgu;rw [Ma.len_ofN] at hgc hgu;have hgll : gi.length = d := hgd.2;rw [hgll] at hgc hgu;obtain ⟨ub, uo, rfl, hub, huc⟩ := ints_get hgu (k := x) (by rw [Ma.len_ofN, hgll]; exact hxd);obtain ⟨y, hy⟩ : ∃ y, Hid (img gs (g - 1) x = y) := ⟨_, ι rfl⟩
    have hye : (Ma.ofN gi)[x]'(by rw [Ma.len_ofN, hgll]; exact hxd) = ((y : Nat) : Int) := by
     rw [Ma.get_ofN, ← hy.out, img_get hsl (by rw [HGI.out, hgll]; exact hxd)];simp only [HGI.out]
    rw [hye] at huc;obtain ⟨pb, po, rfl, hpb, hpc⟩ := ints_get LV.out.np (k := i) (by rw [Ma.len_ofN]; exact hil);rw [show (Ma.ofN W)[i]'(by rw [Ma.len_ofN]; exact hil) = ((g : Nat) : Int) by rw [Ma.get_ofN, hg.out]] at hpc;have CG := ι (show Cel w6 gb (go + (g - 1)) (.slice (some ⟨ub, uo, none⟩) d uc) from ⟨hgc, hgb⟩);have CU := ι (show Cel w6 ub (uo + x) (.int .i64 ((y : Nat) : Int)) from ⟨huc, hub⟩);have CP := ι (show Cel w6 pb (po + i) (.int .i64 ((g : Nat) : Int)) from ⟨hpc, hpb⟩)
    have hsn : g - 1 < (gs.map Ma.ofN).length := by rw [HPM.out]; exact hsl
    have hgg : ¬ ((g : Nat) : Int) > ((gs.map Ma.ofN).length : Int) := by rw [HPM.out]; omega
    have hgln : (gs.map Ma.ofN).length ≤ 16 := by rw [HPM.out]; exact hgl9
    have HGR := ι hgr
    have hg1 : ¬ ((g : Nat) : Int) < 1 := by omega
    have HIL := ι hil;clear hgb hgc hgu hub huc hye hpb hpc;go_upto_region 9 with (fail);refine wp_region_list ?_;refine Rg.lr 50 (Rg.xm (.int .i64 ((i : Nat) : Int)) _ rfl rfl) ?_;go_frame;refine Rg.lr 51 (Rg.xm (.slice (some ⟨pb, po, none⟩) W.length pc) _ rfl rfl) ?_;go_frame;refine Rg.lr 52 (exec_len _ _ _ rfl Try.underlying76 _ _ _ rfl) ?_;go_frame;refine Rg.lr 53 (exec_bin (R := .bool true) .lss _ _ _ rfl rfl rfl (b_lss _ (decide_eq_true (by omega)))) ?_;go_frame;go_upto_region 11 with (fail);have hV0 : Below wd.heap.size wd wd.drew := (Below.refl _ _).drew;replace KC := ι (Rg.acc KC.out hV0);clear hV0;refine Rg.Any.begin (S := Rg.Both 14 (fun _ => True) (fun W => Below w6.heap.size w6 W)) mix ?_;generalize wd.drew = w61 at *;have hS : ∀ (l : Array Bool) W, Below w6.heap.size w6 W → Rg.Both 14 (fun _ => True) (fun W => Below w6.heap.size w6 W) l W := fun l W h => ⟨.inr trivial, h⟩;have hI := KC.out
    refine Rg.tg 0 14 (.slice (some ⟨pb, po, none⟩) W.length pc) 56 rfl rfl (.inl ⟨rfl, fun w _ => Rg.exec_move (v := .slice (some ⟨pb, po, none⟩) W.length pc) _ rfl rfl⟩) (hS _ _ hI) ?_;go_frame;refine Rg.tg 1 14 (.int .i64 ((i : Nat) : Int)) 57 rfl rfl (.inl ⟨rfl, fun w _ => Rg.exec_move (v := .int .i64 ((i : Nat) : Int)) _ rfl rfl⟩) (hS _ _ hI) ?_;go_frame;refine Rg.tg 2 14 (.pointer (some ⟨pb, po + i, none⟩)) 58 rfl rfl (Rg.yields_index slWord _ _ rfl rfl pb (po) (W.length) pc (i) rfl rfl HIL.out) (hS _ _ hI) ?_;go_frame;refine Rg.tg 3 14 (.int .i64 ((g : Nat) : Int)) 59 rfl rfl (Rg.yields_cell _ _ rfl rfl ⟨pb, po + i, none⟩ rfl (fun W hW => run_loadInt ((Below.cell (p := ⟨pb, po + i, none⟩) hW CP.out.2).trans CP.out.1))) (hS _ _ hI) ?_;go_frame;refine Rg.tg 4 14 (.bool false) 60 rfl rfl (.inl ⟨rfl, fun w _ => exec_bin (R := .bool false) .lss _ _ _ rfl rfl rfl (b_lss _ (decide_eq_false hg1))⟩) (hS _ _ hI) ?_;go_frame
    refine Rg.tg 5 14 (.bool false) 61 rfl rfl (.inl ⟨rfl, fun w _ => Rg.exec_move (v := .bool false) _ rfl rfl⟩) (hS _ _ hI) ?_;go_frame;refine Rg.tg 6 14 (.slice (some ⟨pb, po, none⟩) W.length pc) 62 rfl rfl (.inl ⟨rfl, fun w _ => Rg.exec_move (v := .slice (some ⟨pb, po, none⟩) W.length pc) _ rfl rfl⟩) (hS _ _ hI) ?_;go_frame;refine Rg.tg 7 14 (.int .i64 ((i : Nat) : Int)) 63 rfl rfl (.inl ⟨rfl, fun w _ => Rg.exec_move (v := .int .i64 ((i : Nat) : Int)) _ rfl rfl⟩) (hS _ _ hI) ?_;go_frame;refine Rg.tg 8 14 (.pointer (some ⟨pb, po + i, none⟩)) 64 rfl rfl (Rg.yields_index slWord _ _ rfl rfl pb (po) (W.length) pc (i) rfl rfl HIL.out) (hS _ _ hI) ?_;go_frame;refine Rg.tg 9 14 (.int .i64 ((g : Nat) : Int)) 65 rfl rfl (Rg.yields_cell _ _ rfl rfl ⟨pb, po + i, none⟩ rfl (fun W hW => run_loadInt ((Below.cell (p := ⟨pb, po + i, none⟩) hW CP.out.2).trans CP.out.1))) (hS _ _ hI) ?_;go_frame;refine Rg.tg 10 14 (.pointer (some ⟨w2.heap.size, 1, none⟩)) 66 rfl rfl (.inl ⟨rfl, fun w _ => exec_fieldG _ rfl rfl⟩) (hS _ _ hI) ?_;go_frame
    refine Rg.tg 11 14 (.slice (some ⟨gb, go, none⟩) (gs.map Ma.ofN).length gc) 67 rfl rfl (Rg.yields_cell _ _ rfl rfl ⟨w2.heap.size, 1, none⟩ rfl (fun W hW => Rg.run_loadSl _ _ Try.underlying24 ((Below.cell (p := ⟨w2.heap.size, 1, none⟩) hW G6.out.lt).trans G6.out.c1))) (hS _ _ hI) ?_;go_frame;refine Rg.tg 12 14 (.int .i64 (((gs.map Ma.ofN).length : Nat) : Int)) 68 rfl rfl (.inl ⟨rfl, fun w _ => exec_len _ _ _ rfl Try.underlying24 _ _ _ rfl⟩) (hS _ _ hI) ?_;go_frame;refine Rg.tg 13 14 (.bool false) 69 rfl rfl (.inl ⟨rfl, fun w _ => exec_bin (R := .bool false) .gtr _ _ _ rfl rfl rfl (b_gtr _ (decide_eq_false hgg))⟩) (hS _ _ hI) ?_;go_frame;refine Rg.Any.one (i := 14) (by kernel_rfl) (Rg.Any.run (some 70) rfl rfl rfl (exec_pickF (v := .bool false) _ _ _ rfl rfl rfl) (hS _ _ hI) ?_);go_frame;refine Rg.Any.done (by kernel_rfl) ?_ _;replace KC := ι hI;clear hS hI;go_upto_region 13 with (fail)
    have hV0 : Below w61.heap.size w61 w61.drew := (Below.refl _ _).drew;replace KC := ι (Rg.acc KC.out hV0);clear hV0;refine Rg.Any.begin (S := Rg.Both 12 (fun _ => True) (fun W => Below w6.heap.size w6 W)) mix ?_;generalize w61.drew = w62 at *;have hS : ∀ (l : Array Bool) W, Below w6.heap.size w6 W → Rg.Both 12 (fun _ => True) (fun W => Below w6.heap.size w6 W) l W := fun l W h => ⟨.inr trivial, h⟩;have hI := KC.out;refine Rg.tg 0 12 (.pointer (some ⟨w2.heap.size, 1, none⟩)) 71 rfl rfl (.inl ⟨rfl, fun w _ => exec_fieldG _ rfl rfl⟩) (hS _ _ hI) ?_;go_frame;refine Rg.tg 1 12 (.slice (some ⟨gb, go, none⟩) (gs.map Ma.ofN).length gc) 72 rfl rfl (Rg.yields_cell _ _ rfl rfl ⟨w2.heap.size, 1, none⟩ rfl (fun W hW => Rg.run_loadSl _ _ Try.underlying24 ((Below.cell (p := ⟨w2.heap.size, 1, none⟩) hW G6.out.lt).trans G6.out.c1))) (hS _ _ hI) ?_;go_frame;refine Rg.tg 2 12 (.slice (some ⟨pb, po, none⟩) W.length pc) 73 rfl rfl (.inl ⟨rfl, fun w _ => Rg.exec_move (v := .slice (some ⟨pb, po, none⟩) W.length pc) _ rfl rfl⟩) (hS _ _ hI) ?_;go_frame
    refine Rg.tg 3 12 (.int .i64 ((i : Nat) : Int)) 74 rfl rfl (.inl ⟨rfl, fun w _ => Rg.exec_move (v := .int .i64 ((i : Nat) : Int)) _ rfl rfl⟩) (hS _ _ hI) ?_;go_frame;refine Rg.tg 4 12 (.pointer (some ⟨pb, po + i, none⟩)) 75 rfl rfl (Rg.yields_index slWord _ _ rfl rfl pb (po) (W.length) pc (i) rfl rfl HIL.out) (hS _ _ hI) ?_;go_frame;refine Rg.tg 5 12 (.int .i64 ((g : Nat) : Int)) 76 rfl rfl (Rg.yields_cell _ _ rfl rfl ⟨pb, po + i, none⟩ rfl (fun W hW => run_loadInt ((Below.cell (p := ⟨pb, po + i, none⟩) hW CP.out.2).trans CP.out.1))) (hS _ _ hI) ?_;go_frame;refine Rg.tg 6 12 (.int .i64 (((g - 1) : Nat) : Int)) 77 rfl rfl (.inl ⟨rfl, fun w _ => exec_bin (R := .int .i64 (((g - 1) : Nat) : Int)) .sub _ _ _ rfl rfl rfl (b_sub _ (by omega) (by omega))⟩) (hS _ _ hI) ?_;go_frame;refine Rg.tg 7 12 (.pointer (some ⟨gb, go + (g - 1), none⟩)) 78 rfl rfl (Rg.yields_index slPerms _ _ rfl rfl gb (go) ((gs.map Ma.ofN).length) gc ((g - 1)) rfl rfl hsn) (hS _ _ hI) ?_;go_frame
    refine Rg.tg 8 12 (.slice (some ⟨ub, uo, none⟩) d uc) 79 rfl rfl (Rg.yields_cell _ _ rfl rfl ⟨gb, go + (g - 1), none⟩ rfl (fun W hW => Rg.run_loadSl _ _ Try.underlying39 ((Below.cell (p := ⟨gb, go + (g - 1), none⟩) hW CG.out.2).trans CG.out.1))) (hS _ _ hI) ?_;go_frame;refine Rg.tg 9 12 (.int .i64 ((x : Nat) : Int)) 80 rfl rfl (.inl ⟨rfl, fun w _ => Rg.exec_move (v := .int .i64 ((x : Nat) : Int)) _ rfl rfl⟩) (hS _ _ hI) ?_;go_frame;refine Rg.tg 10 12 (.pointer (some ⟨ub, uo + x, none⟩)) 81 rfl rfl (Rg.yields_index slPerm _ _ rfl rfl ub (uo) (d) uc (x) rfl rfl hxd) (hS _ _ hI) ?_;go_frame;refine Rg.tg 11 12 (.int .i64 ((y : Nat) : Int)) 82 rfl rfl (Rg.yields_cell _ _ rfl rfl ⟨ub, uo + x, none⟩ rfl (fun W hW => run_loadInt ((Below.cell (p := ⟨ub, uo + x, none⟩) hW CU.out.2).trans CU.out.1))) (hS _ _ hI) ?_;go_frame;refine Rg.Any.one (i := 12) (by kernel_rfl) (Rg.Any.run (some 11) rfl rfl rfl (Rg.xa (.int .i64 ((y : Nat) : Int)) _ rfl rfl) (hS _ _ hI) ?_)
    go_frame;refine Rg.Any.done (by kernel_rfl) ?_ _;replace KC := ι hI;clear hS hI;go_upto_region 10 with (fail);refine wp_region_list ?_;refine Rg.lr 54 (Rg.xm (.int .i64 ((i : Nat) : Int)) _ rfl rfl) ?_;go_frame;refine Rg.lr 55 (exec_bin (R := .int .i64 (((i + 1) : Nat) : Int)) .add _ _ _ rfl rfl rfl (b_add _ (by omega) (by omega))) ?_;go_frame;refine Rg.lr 12 (Rg.xa (.int .i64 (((i + 1) : Nat) : Int)) _ rfl rfl) ?_;go_frame;go_wp2
    go_roundw
    case rel => exact ⟨i + 1, by go_num, HIL.out, by rw [List.take_succ_eq_append_getElem HIL.out, goW_snoc, hx.out, hg.out, hy.out], KC⟩
    case measure => simp [intOf]; have := HIL.out; omega
   case neg =>
    obtain rfl : i = W.length := by omega
    rw [List.take_length, HWS.out.1];go_upto_region 9 with (fail);refine wp_region_list ?_;refine Rg.lr 50 (Rg.xm (.int .i64 ((W.length : Nat) : Int)) _ rfl rfl) ?_;go_frame;refine Rg.lr 51 (Rg.xm (.slice pa W.length pc) _ rfl rfl) ?_;go_frame;refine Rg.lr 52 (exec_len _ _ _ rfl Try.underlying76 _ _ _ rfl) ?_;go_frame;refine Rg.lr 53 (exec_bin (R := .bool false) .lss _ _ _ rfl rfl rfl (b_lss _ (decide_eq_false (by omega)))) ?_;go_frame;clear LV HPI;have hb0 : Below wd.heap.size wd (wd.alloc (.cells #[.int .i64 ((p : Nat) : Int)] 3)) := (Below.refl _ _).alloc (Nat.le_refl _) _;go_upto_region 14 with (fail);refine wp_region_list ?_;refine Rg.lr 83 (Rg.xm (.int .i64 ((p : Nat) : Int)) _ rfl rfl) ?_;go_frame;refine Rg.lr 84 (Rg.exec_buildSlice _ _ _ rfl (.int .i64 ((p : Nat) : Int)) rfl (run_build1i wd _)) ?_;go_frame;refine Rg.lr 13 (Rg.xa (.slice (some ⟨wd.heap.size, 0, none⟩) 1 1) _ rfl rfl) ?_;go_frame
    have OW := ι (OwJ.one (x := p) KC.out.size);replace KC := ι (Rg.acc KC.out hb0);have NP0 := ι (NearP.start (gs := gs) hpd);generalize wd.alloc (.cells #[.int .i64 ((p : Nat) : Int)] 3) = wz at *;clear hb0;go_upto_region 15 with (fail);refine wp_region_list ?_;refine Rg.lr 14 (Rg.xa (.int .i64 ((0 : Nat) : Int)) _ rfl rfl) ?_;go_frame;go_wp2
    go_loopw [13, 14] (fun nv iv wr => ∃ (n : Nat) (near : List Nat), iv = .int .i64 ((n : Nat) : Int) ∧ n ≤ W.length ∧ Hid (OwJ w6.heap.size wr nv near) ∧ Hid (NearP gs d p n near) ∧ Hid (Below w6.heap.size w6 wr)) (fun _ iv _ => W.length - (intOf iv).toNat)
    case atStart => exact ⟨0, [p], rfl, Nat.zero_le _, OW, NP0, KC⟩
    case round =>
     clear OW NP0 KC;obtain ⟨n, near, rfl, hn, OW, NP, KC⟩ := hrel;obtain ⟨na, nc, rfl⟩ := OW.out.sh rfl;generalize wr = we at *
     by_cases hnl : n < W.length
     case neg =>
      skip
      go_upto_region 16 with (fail);refine wp_region_list ?_;refine Rg.lr 85 (Rg.xm (.int .i64 ((n : Nat) : Int)) _ rfl rfl) ?_;go_frame;refine Rg.lr 86 (Rg.xm (.slice pa W.length pc) _ rfl rfl) ?_;go_frame;refine Rg.lr 87 (exec_len _ _ _ rfl Try.underlying76 _ _ _ rfl) ?_;go_frame;refine Rg.lr 88 (exec_bin (R := .bool false) .lss _ _ _ rfl rfl rfl (b_lss _ (decide_eq_false (by omega)))) ?_;go_frame;go_upto_region 30 with (fail);refine wp_region_list ?_;refine Rg.lr 127 (Rg.xm (.bool true) _ rfl rfl) ?_;go_frame;refine Rg.lr 128 (Rg.xm (.bool true) _ rfl rfl) ?_;go_frame;refine listW_run (some 129) rfl rfl (Rg.xm (.int .i64 ((q : Nat) : Int)) _ rfl rfl) ?_;go_frame;refine listW_run (some 130) rfl rfl (Rg.xm (.int .i64 ((q : Nat) : Int)) _ rfl rfl) ?_;go_frame;refine listW_run (some 131) rfl rfl (exec_bin (R := .bool true) .eql _ _ _ rfl rfl rfl (b_eql _ (decide_eq_true rfl))) ?_;go_frame
      refine Rg.lr 132 (exec_pickT (v := .bool true) _ _ _ rfl rfl rfl) ?_;go_frame;refine Rg.lr 6 (Rg.xa (.bool true) _ rfl rfl) ?_;go_frame;go_wp2;go_ret;exact ⟨rfl, Rg.acc K0.out KC.out⟩
     case pos =>
      have hnl12 := NP.out.len
      have HNQ := ι (show decide (((q : Nat) : Int) ∈ Ma.ofN near) = false from decide_eq_false fun h => by
       obtain ⟨z, hz, e⟩ := List.mem_map.1 h
       have e2 : z = q := by have e3 : (z : Int) = (q : Int) := e; omega
       subst e2;obtain ⟨u, h1, h2, h3⟩ := NP.out.wd z hz;have := HWS.out.2.2 u h1 h3
       omega)
      go_upto_region 16 with (fail);refine wp_region_list ?_;refine Rg.lr 85 (Rg.xm (.int .i64 ((n : Nat) : Int)) _ rfl rfl) ?_;go_frame;refine Rg.lr 86 (Rg.xm (.slice pa W.length pc) _ rfl rfl) ?_;go_frame;refine Rg.lr 87 (exec_len _ _ _ rfl Try.underlying76 _ _ _ rfl) ?_;go_frame;refine Rg.lr 88 (exec_bin (R := .bool true) .lss _ _ _ rfl rfl rfl (b_lss _ (decide_eq_true (by omega)))) ?_;go_frame;go_upto_region 18 with (fail);refine wp_region_list ?_;refine Rg.lr 91 (Rg.xm (.slice na near.length nc) _ rfl rfl) ?_;go_frame;refine Rg.lr 92 (Rg.xm (.int .i64 ((q : Nat) : Int)) _ rfl rfl) ?_;go_frame;refine list_ask (some 93) rfl rfl _ _ (exec_fn 50 _ _ _ rfl rfl rfl (Fwcl4 _ _)) ?_;refine (Has_any _ (Ma.ofN near) ((q : Nat) : Int) we OW.out.ints).mono ?_;rintro e1 w141 ⟨rfl, hb⟩;rw [HNQ.out];refine ⟨_, rfl, ?_⟩;go_frame;replace OW := ι (OW.out.below hb);replace KC := ι (Rg.acc KC.out hb);clear hb
      go_upto_region 20 with (fail);refine wp_region_list ?_;refine Rg.lr 94 (Rg.xm (.slice na near.length nc) _ rfl rfl) ?_;go_frame;refine Rg.lr 95 (exec_len _ _ _ rfl Try.underlying22 _ _ _ rfl) ?_;go_frame;refine Rg.lr 15 (Rg.xa (.int .i64 ((near.length : Nat) : Int)) _ rfl rfl) ?_;go_frame;go_upto_region 21 with (fail);refine wp_region_list ?_;refine Rg.lr 16 (Rg.xa (.int .i64 ((0 : Nat) : Int)) _ rfl rfl) ?_;go_frame;have NQ := ι (NearQ.start NP.out);go_wp2
      go_loopw [13, 16] (fun nv iv wr => ∃ (i : Nat) (near2 : List Nat), iv = .int .i64 ((i : Nat) : Int) ∧ i ≤ near.length ∧ Hid (OwJ w6.heap.size wr nv near2) ∧ Hid (NearQ gs d p n near near2) ∧ Hid (Below w6.heap.size w6 wr)) (fun _ iv _ => near.length - (intOf iv).toNat)
      case atStart => exact ⟨0, near, rfl, Nat.zero_le _, OW, NQ, KC⟩
      case round =>
       clear OW NQ KC;obtain ⟨i, near2, rfl, hi, OW, NQ, KC⟩ := hrel;obtain ⟨ma, mc, rfl⟩ := OW.out.sh rfl;generalize wr = wf at *
       by_cases hin2 : i < near.length
       case neg =>
        skip
        go_upto_region 22 with (fail);refine wp_region_list ?_;refine Rg.lr 96 (Rg.xm (.int .i64 ((i : Nat) : Int)) _ rfl rfl) ?_;go_frame;refine Rg.lr 97 (Rg.xm (.int .i64 ((near.length : Nat) : Int)) _ rfl rfl) ?_;go_frame;refine Rg.lr 98 (exec_bin (R := .bool false) .lss _ _ _ rfl rfl rfl (b_lss _ (decide_eq_false (by omega)))) ?_;go_frame;go_upto_region 17 with (fail);refine wp_region_list ?_;refine Rg.lr 89 (Rg.xm (.int .i64 ((n : Nat) : Int)) _ rfl rfl) ?_;go_frame;refine Rg.lr 90 (exec_bin (R := .int .i64 (((n + 1) : Nat) : Int)) .add _ _ _ rfl rfl rfl (b_add _ (by omega) (by omega))) ?_;go_frame;refine Rg.lr 14 (Rg.xa (.int .i64 (((n + 1) : Nat) : Int)) _ rfl rfl) ?_;go_frame;go_wp2
        go_roundw
        case rel => exact ⟨n + 1, near2, by go_num, hnl, OW, ι NQ.out.nx, KC⟩
        case measure => simp [intOf]; omega
       case pos =>
        skip
        go_upto_region 22 with (fail);refine wp_region_list ?_;refine Rg.lr 96 (Rg.xm (.int .i64 ((i : Nat) : Int)) _ rfl rfl) ?_;go_frame;refine Rg.lr 97 (Rg.xm (.int .i64 ((near.length : Nat) : Int)) _ rfl rfl) ?_;go_frame;refine Rg.lr 98 (exec_bin (R := .bool true) .lss _ _ _ rfl rfl rfl (b_lss _ (decide_eq_true (by omega)))) ?_;go_frame;go_upto_region 24 with (fail);refine wp_region_list ?_;refine Rg.lr 17 (Rg.xa (.int .i64 ((0 : Nat) : Int)) _ rfl rfl) ?_;go_frame;go_wp2
        go_loopw [13, 17] (fun nv sv wr => ∃ (s : Nat) (near2 : List Nat), sv = .int .i64 ((s : Nat) : Int) ∧ s ≤ gs.length ∧ Hid (OwJ w6.heap.size wr nv near2) ∧ Hid (NearQ gs d p n near near2) ∧ Hid (Below w6.heap.size w6 wr)) (fun _ sv _ => gs.length - (intOf sv).toNat)
        case atStart => exact ⟨0, near2, rfl, Nat.zero_le _, OW, NQ, KC⟩
        case round =>
         clear OW NQ KC;obtain ⟨s, near2, rfl, hs, OW, NQ, KC⟩ := hrel;obtain ⟨ma, mc, rfl⟩ := OW.out.sh rfl;generalize wr = wg at *
         by_cases hsl : s < gs.length
         case neg =>
          have hsn : ¬ ((s : Nat) : Int) < ((gs.map Ma.ofN).length : Int) := by rw [HPM.out]; omega
          go_upto_region 25 with (fail);refine wp_region_list ?_;refine Rg.lr 101 (Rg.xm (.int .i64 ((s : Nat) : Int)) _ rfl rfl) ?_;go_frame;refine Rg.lr 102 (exec_fieldG _ rfl rfl) ?_;go_frame;refine Rg.lr 103 (Rg.exec_load (v := .slice ga (gs.map Ma.ofN).length gc) _ _ rfl ⟨w2.heap.size, 1, none⟩ rfl (Rg.run_loadSl _ _ Try.underlying24 ((KC.out.cell (p := ⟨w2.heap.size, 1, none⟩) G6.out.lt).trans G6.out.c1))) ?_;go_frame;refine Rg.lr 104 (exec_len _ _ _ rfl Try.underlying24 _ _ _ rfl) ?_;go_frame;refine Rg.lr 105 (exec_bin (R := .bool false) .lss _ _ _ rfl rfl rfl (b_lss _ (decide_eq_false hsn))) ?_;go_frame;go_upto_region 23 with (fail);refine wp_region_list ?_;refine Rg.lr 99 (Rg.xm (.int .i64 ((i : Nat) : Int)) _ rfl rfl) ?_;go_frame;refine Rg.lr 100 (exec_bin (R := .int .i64 (((i + 1) : Nat) : Int)) .add _ _ _ rfl rfl rfl (b_add _ (by omega) (by omega))) ?_;go_frame;refine Rg.lr 16 (Rg.xa (.int .i64 (((i + 1) : Nat) : Int)) _ rfl rfl) ?_;go_frame
          go_wp2
          go_roundw
          case rel => exact ⟨i + 1, near2, by go_num, hin2, OW, NQ, KC⟩
          case measure => simp [intOf]; omega
         case pos =>
          obtain ⟨rr, hrr⟩ := NQ.out.pre
          have hi2 : i < near2.length := by rw [hrr, List.length_append]; omega
          have hl2 := NQ.out.nx.len;obtain ⟨x, hx⟩ : ∃ x, Hid (near2[i]'hi2 = x) := ⟨_, ι rfl⟩
          have hxn : x ∈ near := by
           rw [← hx.out]
           have : near2[i]'hi2 = near[i]'hin2 := by simp only [hrr]; exact List.getElem_append_left hin2
           rw [this]; exact List.getElem_mem hin2
          have hxd : x < d := NQ.out.o.lt x hxn
          obtain ⟨xu, hxu⟩ : ∃ u, Hid ((∀ g ∈ u, 1 ≤ g ∧ g ≤ gs.length) ∧ u.length ≤ n ∧ goW gs p u = x) := by
           obtain ⟨u, hu⟩ := NQ.out.o.wd x hxn;exact ⟨u, ι hu⟩
          obtain ⟨gb, go, ua, uc, rfl, hgb, hgc, hgu⟩ := rows_get HG.out (i := s) (by rw [HPM.out]; exact hsl);obtain ⟨gi, HGI⟩ : ∃ z, Hid (gs[s]'hsl = z) := ⟨_, ι rfl⟩
          have hgd : Gd d gi := by rw [← HGI.out]; exact HGS.out _ (List.getElem_mem hsl)
          rw [show (gs.map Ma.ofN)[s]'(by rw [HPM.out]; exact hsl) = Ma.ofN gi by rw [List.getElem_map, HGI.out]] at hgc hgu;rw [Ma.len_ofN] at hgc hgu;have hgll : gi.length = d := hgd.2;rw [hgll] at hgc hgu;obtain ⟨ub, uo, rfl, hub, huc⟩ := ints_get hgu (k := x) (by rw [Ma.len_ofN, hgll]; exact hxd);obtain ⟨y, hy⟩ : ∃ y, Hid (img gs s x = y) := ⟨_, ι rfl⟩
          have hye : (Ma.ofN gi)[x]'(by rw [Ma.len_ofN, hgll]; exact hxd) = ((y : Nat) : Int) := by
           rw [Ma.get_ofN, ← hy.out, img_get hsl (by rw [HGI.out, hgll]; exact hxd)];simp only [HGI.out]
          rw [hye] at huc
          have hyd : y < d := by rw [← hy.out]; exact HGG.out.cl s hsl x hxd
          obtain ⟨nb, no, rfl, hnb, hnc⟩ := ints_get (OW.out.ints (by omega)) (k := i) (by rw [Ma.len_ofN]; exact hi2);rw [show (Ma.ofN near2)[i]'(by rw [Ma.len_ofN]; exact hi2) = ((x : Nat) : Int) by rw [Ma.get_ofN, hx.out]] at hnc;have CG := ι (show Cel wg gb (go + s) (.slice (some ⟨ub, uo, none⟩) d uc) from ⟨(KC.out.cell (p := ⟨gb, go + s, none⟩) hgb).trans hgc, Nat.lt_of_lt_of_le hgb KC.out.size⟩);have CU := ι (show Cel wg ub (uo + x) (.int .i64 ((y : Nat) : Int)) from ⟨(KC.out.cell (p := ⟨ub, uo + x, none⟩) hub).trans huc, Nat.lt_of_lt_of_le hub KC.out.size⟩);have CN := ι (show Cel wg nb (no + i) (.int .i64 ((x : Nat) : Int)) from ⟨hnc, hnb⟩)
          have hsn : s < (gs.map Ma.ofN).length := by rw [HPM.out]; exact hsl
          have hgln : (gs.map Ma.ofN).length ≤ 16 := by rw [HPM.out]; exact hgl9
          obtain ⟨bh, hbh⟩ : ∃ b, Hid (decide (((y : Nat) : Int) ∈ Ma.ofN near2) = b) := ⟨_, ι rfl⟩;clear hgb hgc hgu hub huc hye hnb hnc hrr hxn;go_upto_region 25 with (fail);refine wp_region_list ?_;refine Rg.lr 101 (Rg.xm (.int .i64 ((s : Nat) : Int)) _ rfl rfl) ?_;go_frame;refine Rg.lr 102 (exec_fieldG _ rfl rfl) ?_;go_frame;refine Rg.lr 103 (Rg.exec_load (v := .slice (some ⟨gb, go, none⟩) (gs.map Ma.ofN).length gc) _ _ rfl ⟨w2.heap.size, 1, none⟩ rfl (Rg.run_loadSl _ _ Try.underlying24 ((KC.out.cell (p := ⟨w2.heap.size, 1, none⟩) G6.out.lt).trans G6.out.c1))) ?_;go_frame;refine Rg.lr 104 (exec_len _ _ _ rfl Try.underlying24 _ _ _ rfl) ?_;go_frame;refine Rg.lr 105 (exec_bin (R := .bool true) .lss _ _ _ rfl rfl rfl (b_lss _ (decide_eq_true (by omega)))) ?_;go_frame;go_upto_region 27 with (fail);have hV0 : Below wg.heap.size wg wg.drew := (Below.refl _ _).drew;replace OW := ι (OW.out.below hV0)
          replace CG := ι (CG.out.below hV0);replace CU := ι (CU.out.below hV0);replace CN := ι (CN.out.below hV0);replace KC := ι (Rg.acc KC.out hV0);clear hV0;refine Rg.Any.begin (S := Rg.Both 11 (fun _ => True) (fun W => Below wg.drew.heap.size wg.drew W)) mix ?_;generalize wg.drew = w221 at *;have hS : ∀ (l : Array Bool) W, Below w221.heap.size w221 W → Rg.Both 11 (fun _ => True) (fun W => Below w221.heap.size w221 W) l W := fun l W h => ⟨.inr trivial, h⟩;have hI : Below w221.heap.size w221 w221 := Below.refl _ _;refine Rg.tg 0 11 (.pointer (some ⟨w2.heap.size, 1, none⟩)) 108 rfl rfl (.inl ⟨rfl, fun w _ => exec_fieldG _ rfl rfl⟩) (hS _ _ hI) ?_;go_frame;refine Rg.tg 1 11 (.slice (some ⟨gb, go, none⟩) (gs.map Ma.ofN).length gc) 109 rfl rfl (Rg.yields_cell _ _ rfl rfl ⟨w2.heap.size, 1, none⟩ rfl (fun W hW => Rg.run_loadSl _ _ Try.underlying24 ((Below.cell (p := ⟨w2.heap.size, 1, none⟩) hW (Nat.lt_of_lt_of_le G6.out.lt KC.out.size)).trans ((KC.out.cell (p := ⟨w2.heap.size, 1, none⟩) G6.out.lt).trans G6.out.c1)))) (hS _ _ hI) ?_;go_frame
          refine Rg.tg 2 11 (.int .i64 ((s : Nat) : Int)) 110 rfl rfl (.inl ⟨rfl, fun w _ => Rg.exec_move (v := .int .i64 ((s : Nat) : Int)) _ rfl rfl⟩) (hS _ _ hI) ?_;go_frame;refine Rg.tg 3 11 (.pointer (some ⟨gb, go + s, none⟩)) 111 rfl rfl (Rg.yields_index slPerms _ _ rfl rfl gb (go) ((gs.map Ma.ofN).length) gc (s) rfl rfl hsn) (hS _ _ hI) ?_;go_frame;refine Rg.tg 4 11 (.slice (some ⟨ub, uo, none⟩) d uc) 112 rfl rfl (Rg.yields_cell _ _ rfl rfl ⟨gb, go + s, none⟩ rfl (fun W hW => Rg.run_loadSl _ _ Try.underlying39 ((Below.cell (p := ⟨gb, go + s, none⟩) hW CG.out.2).trans CG.out.1))) (hS _ _ hI) ?_;go_frame;refine Rg.tg 5 11 (.slice (some ⟨nb, no, none⟩) near2.length mc) 113 rfl rfl (.inl ⟨rfl, fun w _ => Rg.exec_move (v := .slice (some ⟨nb, no, none⟩) near2.length mc) _ rfl rfl⟩) (hS _ _ hI) ?_;go_frame;refine Rg.tg 6 11 (.int .i64 ((i : Nat) : Int)) 114 rfl rfl (.inl ⟨rfl, fun w _ => Rg.exec_move (v := .int .i64 ((i : Nat) : Int)) _ rfl rfl⟩) (hS _ _ hI) ?_;go_frame
          refine Rg.tg 7 11 (.pointer (some ⟨nb, no + i, none⟩)) 115 rfl rfl (Rg.yields_index slInts _ _ rfl rfl nb (no) (near2.length) mc (i) rfl rfl hi2) (hS _ _ hI) ?_;go_frame;refine Rg.tg 8 11 (.int .i64 ((x : Nat) : Int)) 116 rfl rfl (Rg.yields_cell _ _ rfl rfl ⟨nb, no + i, none⟩ rfl (fun W hW => run_loadInt ((Below.cell (p := ⟨nb, no + i, none⟩) hW CN.out.2).trans CN.out.1))) (hS _ _ hI) ?_;go_frame;refine Rg.tg 9 11 (.pointer (some ⟨ub, uo + x, none⟩)) 117 rfl rfl (Rg.yields_index slPerm _ _ rfl rfl ub (uo) (d) uc (x) rfl rfl hxd) (hS _ _ hI) ?_;go_frame;refine Rg.tg 10 11 (.int .i64 ((y : Nat) : Int)) 118 rfl rfl (Rg.yields_cell _ _ rfl rfl ⟨ub, uo + x, none⟩ rfl (fun W hW => run_loadInt ((Below.cell (p := ⟨ub, uo + x, none⟩) hW CU.out.2).trans CU.out.1))) (hS _ _ hI) ?_;go_frame;refine Rg.Any.one (i := 11) (by kernel_rfl) (Rg.Any.run (some 18) rfl rfl rfl (Rg.xa (.int .i64 ((y : Nat) : Int)) _ rfl rfl) (hS _ _ hI) ?_)
          go_frame;refine Rg.Any.done (by kernel_rfl) ?_ _;clear hS hI;clear CG CU CN;go_upto_region 28 with (fail);refine wp_region_list ?_;refine Rg.lr 119 (Rg.xm (.slice (some ⟨nb, no, none⟩) near2.length mc) _ rfl rfl) ?_;go_frame;refine Rg.lr 120 (Rg.xm (.int .i64 ((y : Nat) : Int)) _ rfl rfl) ?_;go_frame;refine list_ask (some 121) rfl rfl _ _ (exec_fn 50 _ _ _ rfl rfl rfl (Fwcl4 _ _)) ?_;refine (Has_any _ (Ma.ofN near2) ((y : Nat) : Int) w221 (OW.out.ints (by omega))).mono ?_;rintro e1 w222 ⟨rfl, hb⟩;rw [hbh.out];refine ⟨_, rfl, ?_⟩;go_frame;replace OW := ι (OW.out.below hb);replace KC := ι (Rg.acc KC.out hb);clear hb;refine Rg.lr 122 (exec_not _ _ bh rfl rfl) ?_;go_frame
          cases bh with
          | true =>
           go_upto_region 26 with (fail);refine wp_region_list ?_;refine Rg.lr 106 (Rg.xm (.int .i64 ((s : Nat) : Int)) _ rfl rfl) ?_;go_frame;refine Rg.lr 107 (exec_bin (R := .int .i64 (((s + 1) : Nat) : Int)) .add _ _ _ rfl rfl rfl (b_add _ (by omega) (by omega))) ?_;go_frame;refine Rg.lr 17 (Rg.xa (.int .i64 (((s + 1) : Nat) : Int)) _ rfl rfl) ?_;go_frame;go_wp2
           go_roundw
           case rel => exact ⟨s + 1, near2, by go_num, hsl, OW, NQ, KC⟩
           case measure => simp [intOf]; omega
          | false =>
           have hyn : y ∉ near2 := fun e => of_decide_eq_false hbh.out (List.mem_map.2 ⟨y, e, rfl⟩);have NQ2 := ι (NQ.out.put hsl hyn hyd hy.out hxu.out);go_upto_region 29 with (fail);refine wp_region_list ?_;refine Rg.lr 123 (Rg.xm (.slice (some ⟨nb, no, none⟩) near2.length mc) _ rfl rfl) ?_;go_frame;refine Rg.lr 124 (Rg.xm (.int .i64 ((y : Nat) : Int)) _ rfl rfl) ?_;go_frame;have hnew := Rg.BlkF.new w222 [.int .i64 ((y : Nat) : Int)] 3 (Nat.le_refl _);refine Rg.lr 125 (Rg.exec_buildSlice _ _ _ rfl (.int .i64 ((y : Nat) : Int)) rfl (run_build1i w222 _)) ?_;go_frame;have hb := (Below.refl w222.heap.size w222).alloc (Nat.le_refl _) (.cells #[.int .i64 ((y : Nat) : Int)] 3);generalize w222.alloc (.cells #[.int .i64 ((y : Nat) : Int)] 3) = w223 at *;replace OW := ι (OW.out.below hb);replace KC := ι (Rg.acc KC.out hb);clear hb;have FJ := ι hnew;obtain ⟨a9, c9, X9, r1, r2, r3⟩ := (OW.out).app KC.out.size rfl (by omega) FJ.out 22
           have KC2 := ι (KC.out.grown r3 KC.out.size (fun j hj => (OW.out.row.lt j hj).1));have OW2 := ι r2;refine Rg.lr 126 (Rg.exec_append _ _ _ rfl rfl rfl r1) ?_;go_frame;refine Rg.lr 13 (Rg.xa (.slice a9 (near2.length + 1) c9) _ rfl rfl) ?_;go_frame;clear r1 r2 r3 FJ hnew;go_upto_region 26 with (fail);refine wp_region_list ?_;refine Rg.lr 106 (Rg.xm (.int .i64 ((s : Nat) : Int)) _ rfl rfl) ?_;go_frame;refine Rg.lr 107 (exec_bin (R := .int .i64 (((s + 1) : Nat) : Int)) .add _ _ _ rfl rfl rfl (b_add _ (by omega) (by omega))) ?_;go_frame;refine Rg.lr 17 (Rg.xa (.int .i64 (((s + 1) : Nat) : Int)) _ rfl rfl) ?_;go_frame;go_wp2
           go_roundw
           case rel => exact ⟨s + 1, near2 ++ [y], by go_num, hsl, OW2, NQ2, KC2⟩
           case measure => simp [intOf]; omega
end Go.Proofs.Ytcfomoknlchemaa

set_option linter.unusedVariables false
namespace Go.Proofs.Ytcfomoknlchemaa
open Go.RowKit
open Go.Proofs
open Go.ChangeShapes Go.WideShapes Go.Deep Go.Joins
attribute [local irreducible] Go.Calls
section
variable {H : Type} {enc : TypeId × Value → H}
theorem readI {W : World} {base : Nat} {r : Reach} {v : Value} {d : DataW H} {p : List MemPlace} (h : DataW.Trod enc Try.prog W 0 (fun _ => true) true 22 v d p) (hv : ∃ x, v.cells.toList = [x] ∧ v = x) :
  ∃ l, Rg.IntsB maxLen W v l := by
 obtain ⟨fuel, hf⟩ := h;obtain ⟨x, hc, rfl⟩ := hv;rw [hc] at hf
 rcases open_ints Try.underlying22 Try.underlying3 cells3 hf with ⟨hcs, _⟩ | ⟨a, len, cap, zs, hcs, _, hl, hm, hz, _, hcell, _⟩
 ·obtain rfl : v = .slice none 0 0 := by simpa using hcs
  exact ⟨[], none, 0, rfl, by simp, Nat.zero_le _, by simp, fun h => by simp at h⟩
 ·obtain rfl : v = .slice (some a) len cap := by simpa using hcs
  simp only [if_true] at hz
  have hlen : (zs.take len).length = len := by rw [List.length_take]; omega
  refine ⟨zs.take len, some a, cap, by rw [List.length_map, hlen], by rw [List.length_map, hlen]; exact hl, hm, by rw [List.length_map, hlen]; omega, fun h0 => ?_⟩;rw [List.length_map, hlen] at h0;have hc0 := hcell 0 (by omega)
  have ha : a = ⟨a.block, a.off, none⟩ := by
   have := spot_none (a := a) (by simpa [Addr.add] using hc0)
   cases a; simp at this; subst this; rfl
  refine ⟨a.block, a.off, by rw [← ha], lt_of_cell (a := a) (by simpa [Addr.add] using hc0), fun i hi => ?_⟩;rw [List.length_map, hlen] at hi;rw [← add_none ha i, hcell i (by omega)];simp [List.getD, List.getElem?_eq_getElem (show i < zs.length by omega)]
end
end Go.Proofs.Ytcfomoknlchemaa
