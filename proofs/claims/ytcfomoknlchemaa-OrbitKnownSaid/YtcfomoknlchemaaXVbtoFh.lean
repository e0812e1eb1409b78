/- Lemmas and contracts on the way to the statement; no condition of their own beyond those written. -/
import Derived.Test.YtcfomoknlchemaaXOitoWa
import Derived.Sort.OwnSortedInts
import Derived.WideMake
import Derived.MapKept
import Derived.ChangeMaps5
import Derived.Deep.CutRange
import Derived.Deep.CutBlock
import Derived.IntWalk
import Derived.Great.BuildSlice
import Derived.ArgAppend
import Derived.Laws.CopyOwn
import Derived.StillTailTactics
import Derived.Deep.MidRow
import Derived.WalkSpells
import Derived.WalkLawsBesides
import Derived.Maps.AppendAt
import Derived.OwnWalk
import Derived.OrdersHeld
import Derived.Deep.OwnRows
import Derived.WalkKit
import Derived.Lib.Hide
import Derived.Laws.OwnMore
import Derived.Test.YtcfomoknlchemaaProg
import Derived.Outline
import Derived.Deep.DeepFit
import Derived.BigQuiet
import Derived.Deep.QuietTactic
import Derived.Shelf.Sort.Plain
import Derived.RangeFuncBox
import Derived.RangeFuncLeaves
import Derived.Shelf.Abstract
import Derived.OwnWalkIn
import Derived.TacticsInMore
import Derived.LoopNIn
import Derived.LoopIn
import Derived.RangeFuncWrites
import Derived.RangeFuncNested
import Derived.Sort.CutIn
import Derived.Lib.ConvBytes
import Derived.ChangeKeysEq
import Derived.Laws.Cells
import Derived.Laws.Rows
import Derived.Laws.Tables
import Derived.Deep.WholeRow
import Derived.OrdersIn
import Derived.TacticsIn
import Derived.Deep.LoopGhost
import Derived.Lib.SlicesSearch
import Derived.Stop.BytesEq
import Derived.Shelf.SlSortCmp.Whole1
import Derived.Ground.SlsfProg
set_option linter.unusedVariables false
set_option linter.unusedSimpArgs false
set_option maxRecDepth 100000
set_option maxHeartbeats 8000000
namespace Go.Proofs.Ytcfomoknlchemaa
open Go.RowKit
open Go.Proofs
open Go.Proofs.Ob
attribute [local irreducible] Go.Calls
theorem vbcl0 (args : Array Value) (w : World) : (callFunc 43 args).run Try.prog w = .ok (.enter 43 args) w := by kernel_rfl
theorem vbcl1 (args : Array Value) (w : World) : (callFunc 45 args).run Try.prog w = .ok (.enter 45 args) w := by kernel_rfl
theorem vbcl2 (args : Array Value) (w : World) : (callFunc 47 args).run Try.prog w = .ok (.enter 47 args) w := by kernel_rfl
theorem vbcl3 (args : Array Value) (w : World) : (callFunc 51 args).run Try.prog w = .ok (.enter 51 args) w := by kernel_rfl
theorem vbcl4 (args : Array Value) (w : World) : (callFunc 42 args).run Try.prog w = .ok (.enter 42 args) w := by kernel_rfl
theorem vbcl5 (args : Array Value) (w : World) : (callFunc 81 args).run Try.prog w = .ok (.enter 81 args) w := by kernel_rfl
theorem GA.fresh {w : World} {D : Nat} {a : Option Addr} {gs : List (List Nat)} {c : Nat} (h : Rg.NRows w (.slice a gs.length c) gs) :
  ∃ W, (storeVar 26 ⟨w.heap.size, 0, none⟩ (.agg #[.int .i64 ((D : Nat) : Int), .slice a gs.length c])).run Try.prog (w.alloc (.cells #[.int .i64 0, .slice none 0 0] 26)) = .ok () W ∧ GA W w.heap.size D a gs c ∧ Below w.heap.size w W := by
 have n0 : (w.alloc (.cells #[.int .i64 0, .slice none 0 0] 26)).cell? ⟨w.heap.size, 0, none⟩ = some (.int .i64 0) := by rw [Rg.cellNew]; rfl
 have n1 : (w.alloc (.cells #[.int .i64 0, .slice none 0 0] 26)).cell? ⟨w.heap.size, 1, none⟩ = some (.slice none 0 0) := by rw [Rg.cellNew]; rfl
 obtain ⟨p0, p1, p2⟩ := group_set (.int .i64 ((D : Nat) : Int)) (.slice a gs.length c) n0 n1 ((Below.refl w.heap.size w).alloc (Nat.le_refl _) _) (Nat.le_refl _);exact ⟨_, run_storeG _ a _ c n0 n1 (frozenNewN _ _ _ 0 _) (frozenNewN _ _ _ 0 _), ⟨p0, p1, Rg.Rows.below h p2, by simp⟩, p2⟩
theorem example_g (w : World) : Calls Try.prog 43 #[] w fun e w' => ∃ a c, e = .returned (.agg #[.int .i64 5, .slice a 2 c]) ∧ Rg.NRows w' (.slice a 2 c) [[1, 2, 0, 3, 4], [0, 1, 2, 4, 3]] ∧ Below w.heap.size w w' := by
 refine (example_any w).mono ?_;rintro e w' ⟨a, n, c, rfl, h, hb⟩;have h1 : Rg.NRows w' (.slice a n c) [[1, 2, 0, 3, 4], [0, 1, 2, 4, 3]] := h.rows;obtain ⟨a', c', e', _⟩ := h1.shape;simp at e';obtain ⟨rfl, rfl, rfl⟩ := e';exact ⟨a, c, rfl, h1, hb⟩
theorem SamePerms_b {v1 v2 : Value} {l1 l2 : List (List Int)} {w : World} {b : Bool} (h1 : Rg.Rows w v1 l1) (h2 : Rg.Rows w v2 l2) (hd : Hid (decide (l1 = l2) = b)) :
  Calls Try.prog 81 #[v1, v2] w fun e w' => e = .returned (.bool b) ∧ Below w.heap.size w w' := by
 refine (SamePerms_q v1 v2 l1 l2 w h1 h2).mono ?_;rintro e w' ⟨rfl, k, rfl⟩;exact ⟨by rw [hd.out], Rg.drewN (Below.refl _ _) k⟩
theorem aw71 : orbS 5 [[1, 2, 0, 3, 4], [0, 1, 2, 4, 3]] 1 = ([0, 1, 2], 0) := by decide +kernel
theorem aw72 : pathS 5 [[1, 2, 0, 3, 4], [0, 1, 2, 4, 3]] 0 2 = ([1, 1], 0) := by decide +kernel
theorem aw73 : stabS 5 [[1, 2, 0, 3, 4], [0, 1, 2, 4, 3]] 0 = ([[0, 1, 2, 4, 3]], 0) := by decide +kernel
theorem awake_any (w : World) : Calls Try.prog 35 #[] w fun e w' => e = .returned (.bool true) ∧ Below w.heap.size w w' := by
 have K := ι (Below.refl w.heap.size w)
 go_enter Try.func35, Try.ntmps35
 go_upto_region 1 with (fail);refine wp_region_list ?_;refine list_ask (some 8) rfl rfl _ _ (exec_fn0 43 _ rfl (vbcl0 _ _)) ?_;refine (example_g w).mono ?_;rintro e1 w1 ⟨ga, gc, rfl, hg, hb⟩;have HG := ι hg;clear hg;refine ⟨_, rfl, ?_⟩;go_frame;replace K := ι (Rg.acc K.out hb);clear hb;obtain ⟨W2, hst, hga, hb⟩ := GA.fresh (D := 5) (gs := [[1, 2, 0, 3, 4], [0, 1, 2, 4, 3]]) HG.out;refine Rg.lr 1 (exec_allocG rfl) ?_;go_frame;clear HG;refine Rg.list_skip none rfl rfl (Rg.exec_store _ _ _ rfl _ rfl _ rfl hst) ?_;go_frame;clear hst;replace K := ι (Rg.acc K.out hb);clear hb;have GA0 := ι hga;clear hga;go_upto_region 2 with (fail);refine wp_region_list ?_;refine Rg.lr 10 (Rg.exec_load (v := .agg #[.int .i64 5, .slice ga 2 gc]) _ _ rfl ⟨w1.heap.size, 0, none⟩ rfl (run_loadG GA0.out.c0 GA0.out.c1)) ?_;go_frame;refine list_ask (some 11) rfl rfl _ _ (exec_fn 45 _ _ _ rfl rfl rfl (vbcl1 _ _)) ?_;refine (Orbit_any _ 5 [[1, 2, 0, 3, 4], [0, 1, 2, 4, 3]] 1 W2 GA0.out.rows).mono ?_
 rintro e1 w2 ⟨v2, rfl, h2, hb⟩;rw [aw71] at h2 ⊢;refine ⟨_, rfl, ?_⟩;go_frame;replace GA0 := ι (GA0.out.below hb);replace K := ι (Rg.acc K.out hb);clear hb;have H2 := ι h2;refine Rg.lr 9 (Rg.xm (.tuple #[v2, .int .i64 0]) _ rfl rfl) ?_;go_frame;refine Rg.lr 12 (exec_extract (v := v2) _ _ rfl rfl rfl) ?_;go_frame;refine Rg.lr 13 (exec_extract (v := .int .i64 0) _ _ rfl rfl rfl) ?_;go_frame;refine Rg.lr 2 (Rg.xa (v2) _ rfl rfl) ?_;go_frame;refine Rg.lr 3 (Rg.xa (.int .i64 0) _ rfl rfl) ?_;go_frame;go_upto_region 3 with (fail);refine wp_region_list ?_;refine Rg.lr 15 (Rg.exec_load (v := .agg #[.int .i64 5, .slice ga 2 gc]) _ _ rfl ⟨w1.heap.size, 0, none⟩ rfl (run_loadG GA0.out.c0 GA0.out.c1)) ?_;go_frame;refine list_ask (some 16) rfl rfl _ _ (exec_fn3 47 _ _ _ _ rfl rfl rfl rfl (vbcl2 _ _)) ?_;refine (Path_any _ 5 [[1, 2, 0, 3, 4], [0, 1, 2, 4, 3]] 0 2 w2 GA0.out.rows).mono ?_;rintro e1 w3 ⟨v4, rfl, h4, hb⟩
 rw [aw72] at h4 ⊢;refine ⟨_, rfl, ?_⟩;go_frame;replace GA0 := ι (GA0.out.below hb);replace H2 := ι (H2.out.below hb);replace K := ι (Rg.acc K.out hb);clear hb;have H4 := ι h4;refine Rg.lr 14 (Rg.xm (.tuple #[v4, .int .i64 0]) _ rfl rfl) ?_;go_frame;refine Rg.lr 17 (exec_extract (v := v4) _ _ rfl rfl rfl) ?_;go_frame;refine Rg.lr 18 (exec_extract (v := .int .i64 0) _ _ rfl rfl rfl) ?_;go_frame;refine Rg.lr 4 (Rg.xa (v4) _ rfl rfl) ?_;go_frame;refine Rg.lr 5 (Rg.xa (.int .i64 0) _ rfl rfl) ?_;go_frame;go_upto_region 4 with (fail);refine wp_region_list ?_;refine Rg.lr 20 (Rg.exec_load (v := .agg #[.int .i64 5, .slice ga 2 gc]) _ _ rfl ⟨w1.heap.size, 0, none⟩ rfl (run_loadG GA0.out.c0 GA0.out.c1)) ?_;go_frame;refine list_ask (some 21) rfl rfl _ _ (exec_fn 51 _ _ _ rfl rfl rfl (vbcl3 _ _)) ?_;refine (Stab_any _ 5 [[1, 2, 0, 3, 4], [0, 1, 2, 4, 3]] 0 w3 GA0.out.rows).mono ?_;rintro e1 w4 ⟨v6, rfl, h6, hb⟩
 rw [aw73] at h6 ⊢;refine ⟨_, rfl, ?_⟩;go_frame;replace GA0 := ι (GA0.out.below hb);replace H2 := ι (H2.out.below hb);replace H4 := ι (H4.out.below hb);replace K := ι (Rg.acc K.out hb);clear hb;have H6 := ι h6;refine Rg.lr 19 (Rg.xm (.tuple #[v6, .int .i64 0]) _ rfl rfl) ?_;go_frame;refine Rg.lr 22 (exec_extract (v := v6) _ _ rfl rfl rfl) ?_;go_frame;refine Rg.lr 23 (exec_extract (v := .int .i64 0) _ _ rfl rfl rfl) ?_;go_frame;refine Rg.lr 6 (Rg.xa (v6) _ rfl rfl) ?_;go_frame;refine Rg.lr 7 (Rg.xa (.int .i64 0) _ rfl rfl) ?_;go_frame;go_upto_region 5 with (fail);refine wp_region_list ?_;refine listW_run (some 24) rfl rfl (Rg.xm (.int .i64 0) _ rfl rfl) ?_;go_frame;refine listW_run (some 25) rfl rfl (exec_eqI _ _ rfl rfl rfl rfl) ?_;go_frame;refine listW_run (some 26) rfl rfl (Rg.xm (.bool true) _ rfl rfl) ?_;go_frame;refine listW_run (some 27) rfl rfl (Rg.xm (v2) _ rfl rfl) ?_;go_frame;have hnew := ints_new w4 3 [0, 1, 2] (by decide)
 refine listW_run (some 28) rfl rfl (exec_flat _ _ 3 _ rfl [0, 1, 2] Try.underlying22 szInt zInt rfl (by decide) (by decide) rfl) ?_;go_frame;have hb := (Below.refl w4.heap.size w4).alloc (Nat.le_refl _) (.cells (([0, 1, 2] : List Int).map (Value.int .i64)).toArray 3);generalize w4.alloc (.cells (([0, 1, 2] : List Int).map (Value.int .i64)).toArray 3) = w5 at *;replace GA0 := ι (GA0.out.below hb);replace H2 := ι (H2.out.below hb);replace H4 := ι (H4.out.below hb);replace H6 := ι (H6.out.below hb);replace K := ι (Rg.acc K.out hb);clear hb;have F1 := ι hnew;refine listW_ask (some 29) rfl rfl _ _ (exec_fn 42 _ _ _ rfl rfl rfl (vbcl4 _ _)) ?_;refine (Same_any (w0 := w5) (b := true) H2.out F1.out (selfT _) (Below.refl _ _)).mono ?_;rintro e1 w6 ⟨rfl, hb⟩;refine ⟨_, rfl, ?_⟩;go_frame;replace GA0 := ι (GA0.out.below hb);replace H2 := ι (H2.out.below hb);replace H4 := ι (H4.out.below hb);replace H6 := ι (H6.out.below hb)
 replace F1 := ι (F1.out.below hb);replace K := ι (Rg.acc K.out hb);clear hb;refine listW_run (some 30) rfl rfl (exec_pickT (v := .bool true) _ _ _ rfl rfl rfl) ?_;go_frame;refine listW_run (some 31) rfl rfl (Rg.xm (.bool true) _ rfl rfl) ?_;go_frame;refine listW_run (some 32) rfl rfl (Rg.xm (.int .i64 0) _ rfl rfl) ?_;go_frame;refine listW_run (some 33) rfl rfl (exec_eqI _ _ rfl rfl rfl rfl) ?_;go_frame;refine listW_run (some 34) rfl rfl (exec_pickT (v := .bool true) _ _ _ rfl rfl rfl) ?_;go_frame;refine listW_run (some 35) rfl rfl (Rg.xm (.bool true) _ rfl rfl) ?_;go_frame;refine listW_run (some 36) rfl rfl (Rg.xm (v4) _ rfl rfl) ?_;go_frame;have hnew := ints_new w6 3 [1, 1] (by decide);refine listW_run (some 37) rfl rfl (exec_flat _ _ 2 _ rfl [1, 1] Try.underlying76 szInt zInt rfl (by decide) (by decide) rfl) ?_;go_frame;have hb := (Below.refl w6.heap.size w6).alloc (Nat.le_refl _) (.cells (([1, 1] : List Int).map (Value.int .i64)).toArray 3)
 generalize w6.alloc (.cells (([1, 1] : List Int).map (Value.int .i64)).toArray 3) = w7 at *;replace GA0 := ι (GA0.out.below hb);replace H2 := ι (H2.out.below hb);replace H4 := ι (H4.out.below hb);replace H6 := ι (H6.out.below hb);replace F1 := ι (F1.out.below hb);replace K := ι (Rg.acc K.out hb);clear hb;have F2 := ι hnew;refine listW_ask (some 38) rfl rfl _ _ (exec_fn 42 _ _ _ rfl rfl rfl (vbcl4 _ _)) ?_;refine (Same_any (w0 := w7) (b := true) H4.out F2.out (selfT _) (Below.refl _ _)).mono ?_;rintro e1 w8 ⟨rfl, hb⟩;refine ⟨_, rfl, ?_⟩;go_frame;replace GA0 := ι (GA0.out.below hb);replace H2 := ι (H2.out.below hb);replace H4 := ι (H4.out.below hb);replace H6 := ι (H6.out.below hb);replace F1 := ι (F1.out.below hb);replace F2 := ι (F2.out.below hb);replace K := ι (Rg.acc K.out hb);clear hb;refine listW_run (some 39) rfl rfl (exec_pickT (v := .bool true) _ _ _ rfl rfl rfl) ?_;go_frame;refine listW_run (some 40) rfl rfl (Rg.xm (.bool true) _ rfl rfl) ?_;go_frame
 refine listW_run (some 41) rfl rfl (Rg.xm (.int .i64 0) _ rfl rfl) ?_;go_frame;refine listW_run (some 42) rfl rfl (exec_eqI _ _ rfl rfl rfl rfl) ?_;go_frame;refine listW_run (some 43) rfl rfl (exec_pickT (v := .bool true) _ _ _ rfl rfl rfl) ?_;go_frame;refine listW_run (some 44) rfl rfl (Rg.xm (.bool true) _ rfl rfl) ?_;go_frame;refine listW_run (some 45) rfl rfl (Rg.xm (v6) _ rfl rfl) ?_;go_frame;have hnew := ints_new w8 3 [0, 1, 2, 4, 3] (by decide);refine listW_run (some 46) rfl rfl (exec_flat _ _ 5 _ rfl [0, 1, 2, 4, 3] Try.underlying39 szInt zInt rfl (by decide) (by decide) rfl) ?_;go_frame;have hb := (Below.refl w8.heap.size w8).alloc (Nat.le_refl _) (.cells (([0, 1, 2, 4, 3] : List Int).map (Value.int .i64)).toArray 3);generalize w8.alloc (.cells (([0, 1, 2, 4, 3] : List Int).map (Value.int .i64)).toArray 3) = w9 at *;replace GA0 := ι (GA0.out.below hb);replace H2 := ι (H2.out.below hb)
 replace H4 := ι (H4.out.below hb);replace H6 := ι (H6.out.below hb);replace F1 := ι (F1.out.below hb);replace F2 := ι (F2.out.below hb);replace K := ι (Rg.acc K.out hb);clear hb;have F3 := ι hnew;have hnew := Rg.Rows.one 39 F3.out;refine listW_run (some 47) rfl rfl (Rg.exec_buildSlice _ _ _ rfl (.slice (some ⟨w8.heap.size, 0, none⟩) 5 5) rfl (run_build1P w9 _ ⟨_, _, _, rfl⟩)) ?_;go_frame;have hb := (Below.refl w9.heap.size w9).alloc (Nat.le_refl _) (.cells #[.slice (some ⟨w8.heap.size, 0, none⟩) 5 5] 39);generalize w9.alloc (.cells #[.slice (some ⟨w8.heap.size, 0, none⟩) 5 5] 39) = w10 at *;replace GA0 := ι (GA0.out.below hb);replace H2 := ι (H2.out.below hb);replace H4 := ι (H4.out.below hb);replace H6 := ι (H6.out.below hb);replace F1 := ι (F1.out.below hb);replace F2 := ι (F2.out.below hb);replace F3 := ι (F3.out.below hb);replace K := ι (Rg.acc K.out hb);clear hb;have F4 := ι hnew;refine listW_ask (some 48) rfl rfl _ _ (exec_fn 81 _ _ _ rfl rfl rfl (vbcl5 _ _)) ?_
 refine (SamePerms_b (b := true) H6.out F4.out (ι (decide_eq_true rfl))).mono ?_;rintro e1 w11 ⟨rfl, hb⟩;refine ⟨_, rfl, ?_⟩;go_frame;replace GA0 := ι (GA0.out.below hb);replace H2 := ι (H2.out.below hb);replace H4 := ι (H4.out.below hb);replace H6 := ι (H6.out.below hb);replace F1 := ι (F1.out.below hb);replace F2 := ι (F2.out.below hb);replace F3 := ι (F3.out.below hb);replace F4 := ι (F4.out.below hb);replace K := ι (Rg.acc K.out hb);clear hb;refine listW_run (some 49) rfl rfl (exec_pickT (v := .bool true) _ _ _ rfl rfl rfl) ?_;go_frame;refine listW_run (some 0) rfl rfl (Rg.xa (.bool true) _ rfl rfl) ?_;go_frame;go_wp2;go_ret;exact ⟨rfl, K.out⟩

theorem GA.enter {w : World} {gv : Value} (D : Nat) {gs : List (List Nat)} (h : Rg.NRows w gv gs) : ∃ a c, gv = .slice a gs.length c ∧ GA (w.alloc (.cells #[.int .i64 ((D : Nat) : Int), .slice a gs.length c] 26)) w.heap.size D a gs c ∧ Below w.heap.size w (w.alloc (.cells #[.int .i64 ((D : Nat) : Int), .slice a gs.length c] 26)) := by
 obtain ⟨a, c, rfl, _⟩ := h.shape;exact ⟨a, c, rfl, GA.new h, (Below.refl _ _).alloc (Nat.le_refl _) _⟩
def treeR (d : Int) (ll : List (List Int)) (p : Int) : List Int × List Int × List Int :=
 if ptE d ll p = 0 then (Ma.ofN (pts (tree (toNs ll) d.toNat p.toNat)), prs (tree (toNs ll) d.toNat p.toNat), gns (tree (toNs ll) d.toNat p.toNat)) else ([], [], [])
theorem treeR_ok {D P : Nat} {gs : List (List Nat)} (h : ptE (D : Int) (gs.map Ma.ofN) (P : Int) = 0) : treeR (D : Int) (gs.map Ma.ofN) (P : Int) = (Ma.ofN (pts (tree gs D P)), prs (tree gs D P), gns (tree gs D P)) := by
 unfold treeR;rw [if_pos h, toNs_ofN]; rfl

def R2 (B : Nat) (w : World) (v1 v2 : Value) (l1 l2 : List Int) : Prop :=
 B ≤ w.heap.size ∧ w.ownsRow B 3 1 v1 l1.length (l1.map (Value.int .i64)) ∧ w.ownsRow B 3 1 v2 l2.length (l2.map (Value.int .i64)) ∧ Rg.Apart v1 v2
theorem R2.below {B : Nat} {w w' : World} {v1 v2 : Value} {l1 l2 : List Int} (h : R2 B w v1 v2 l1 l2) (hb : Below w.heap.size w w') : R2 B w' v1 v2 l1 l2 :=
 ⟨Nat.le_trans h.1 hb.size, Rg.row_below h.2.1 hb, Rg.row_below h.2.2.1 hb, h.2.2.2⟩
theorem R2.lt1 {B : Nat} {w : World} {v1 v2 : Value} {l1 l2 : List Int} (h : R2 B w v1 v2 l1 l2) : ∀ j, v1.ownBlock = some j → B ≤ j ∧ j < w.heap.size := fun j e => h.2.1.lt j e
theorem R2.lt2 {B : Nat} {w : World} {v1 v2 : Value} {l1 l2 : List Int} (h : R2 B w v1 v2 l1 l2) : ∀ j, v2.ownBlock = some j → B ≤ j ∧ j < w.heap.size := fun j e => h.2.2.1.lt j e
theorem R2.nil {B : Nat} {w : World} (h : B ≤ w.heap.size) : R2 B w (.slice none 0 0) (.slice none 0 0) [] [] := ⟨h, World.ownsRow_nil _ _ _ _, World.ownsRow_nil _ _ _ _, Rg.Apart.nil _⟩
theorem R2.app1 {B : Nat} {w : World} {v1 v2 : Value} {l1 l2 : List Int} (h : R2 B w v1 v2 l1 l2) (hl : l1.length < 1000000) {x : Int} {p c : Nat} (hc : w.cell? ⟨p, 0, none⟩ = some (.int .i64 x)) (ty : TypeId) :
  ∃ v' X, (Builtin.append_ #[22, 22] ty #[v1, .slice (some ⟨p, 0, none⟩) 1 c]).run Try.prog w = .ok v' X ∧ R2 B X v' v2 (l1 ++ [x]) l2 ∧ w.grownBy X v1.ownBlock := by
 obtain ⟨h1, h2, h3, h4⟩ := h;obtain ⟨v', X, r1, r2, r3, r4, _⟩ := app_run (P := Try.prog) slInts ty h2 h1 p c hc rfl hl;exact ⟨v', X, r1, ⟨Nat.le_trans h1 r3.size, by simpa using r2, h4.keep h3 r3, h4.grow h3 r4 (Nat.le_refl _)⟩, r3⟩
theorem R2.swap {B : Nat} {w : World} {v1 v2 : Value} {l1 l2 : List Int} (h : R2 B w v1 v2 l1 l2) : R2 B w v2 v1 l2 l1 := ⟨h.1, h.2.2.1, h.2.1, h.2.2.2.symm⟩
theorem R2.ints1 {B : Nat} {w : World} {v1 v2 : Value} {l1 l2 : List Int} (h : R2 B w v1 v2 l1 l2) (hl : l1.length ≤ 1000000000) : Rg.Ints w v1 l1 := Rg.Ints.of_row h.2.1 hl
theorem R2.ints2 {B : Nat} {w : World} {v1 v2 : Value} {l1 l2 : List Int} (h : R2 B w v1 v2 l1 l2) (hl : l2.length ≤ 1000000000) : Rg.Ints w v2 l2 := Rg.Ints.of_row h.2.2.1 hl
theorem prs_take {T : List En} {k : Nat} (h : k < T.length) : (prs T).take (k + 1) = (prs T).take k ++ [T[k].2.1] := by
 rw [List.take_succ_eq_append_getElem (by simpa [prs] using h)]; simp [prs]
theorem gns_take {T : List En} {k : Nat} (h : k < T.length) : (gns T).take (k + 1) = (gns T).take k ++ [(T[k].2.2.1 : Int)] := by
 rw [List.take_succ_eq_append_getElem (by simpa [gns] using h)]; simp [gns]
theorem Tree_any (gv : Value) (d : Int) (ll : List (List Int)) (p : Int) (w : World) (h : Rg.Rows w gv ll) :
  Calls Try.prog 46 #[.agg #[.int .i64 d, gv], .int .i64 p] w (TrPost (treeR d ll p) (ptE d ll p) w) := by
 have HCK := ι fun v W (hW : Rg.Rows W v ll) => orbitCheck_any v d ll W hW
 by_cases hz : ptE d ll p = 0
 ·obtain ⟨D, gs, P, rfl, rfl, rfl, hgg, hD1, hD2, hgl, hP⟩ := ptE_ok hz
  rw [treeR_ok hz, hz];rw [(ptE_zero hz).1] at HCK;have HPT := ι (ptE_zero hz).2;have hok := tree_ok hgg.cl hP;have htl := hok.len;replace h : Rg.NRows w gv gs := h;have HGR := ι fun v W (hW : Rg.NRows W v gs) => grow_any v D gs P W hW hgg hD2 hP hgl
  have hpos : 0 < (tree gs D P).length := by
   have := hok.hd
   rcases Nat.eq_zero_or_pos (tree gs D P).length with h0 | h0
   ·rw [List.getElem?_eq_none (by omega)] at this; cases this
   ·exact h0
  have HOK := ι hok;obtain ⟨T, hT⟩ : ∃ T, Hid (T = tree gs D P) := ⟨_, ι rfl⟩;rw [← hT.out] at HGR HOK htl hpos ⊢;clear hok hT hz hgg;obtain ⟨ga, gc, rfl, hga, hba⟩ := GA.enter (D) h;have K := ι hba;have G0 := ι hga;clear h hga hba
  go_enter Try.func46, Try.ntmps46
  go_upto_region 1 with (fail);generalize w.alloc (.cells #[.int .i64 (((D : Nat) : Int)), .slice ga gs.length gc] 26) = w0 at *;refine wp_region_list ?_;refine Rg.lr 12 (Rg.exec_load (v := .agg #[.int .i64 ((D : Nat) : Int), .slice ga gs.length gc]) _ _ rfl ⟨w.heap.size, 0, none⟩ rfl (run_loadG G0.out.c0 G0.out.c1)) ?_;go_frame;refine list_ask (some 13) rfl rfl _ _ (exec_fn1 48 _ _ rfl rfl (clChk _ _)) ?_;refine (HCK.out _ _ G0.out.rows).mono ?_;rintro e1 w1 ⟨rfl, hb⟩;refine ⟨_, rfl, ?_⟩;go_frame;replace G0 := ι (G0.out.below hb);replace K := ι (Rg.acc K.out hb);clear hb;refine Rg.lr 8 (Rg.xa (.int .i64 0) _ rfl rfl) ?_;go_frame;go_upto_region 4 with (fail);refine wp_region_list ?_;refine Rg.lr 17 (Rg.exec_load (v := .agg #[.int .i64 ((D : Nat) : Int), .slice ga gs.length gc]) _ _ rfl ⟨w.heap.size, 0, none⟩ rfl (run_loadG G0.out.c0 G0.out.c1)) ?_;go_frame;refine Rg.lr 18 (Rg.xm (.int .i64 ((P : Nat) : Int)) _ rfl rfl) ?_;go_frame
  refine list_ask (some 19) rfl rfl _ _ (exec_fn 94 _ _ _ rfl rfl rfl (clPnt _ _)) ?_;refine (point_any _ _ _ w1).mono ?_;rintro e1 w2 ⟨rfl, hb⟩;rw [HPT.out];refine ⟨_, rfl, ?_⟩;go_frame;replace G0 := ι (G0.out.below hb);replace K := ι (Rg.acc K.out hb);clear hb;refine Rg.lr 20 (exec_not _ _ true rfl rfl) ?_;go_frame;go_upto_region 6 with (fail);refine wp_region_list ?_;refine Rg.lr 21 (Rg.exec_load (v := .agg #[.int .i64 ((D : Nat) : Int), .slice ga gs.length gc]) _ _ rfl ⟨w.heap.size, 0, none⟩ rfl (run_loadG G0.out.c0 G0.out.c1)) ?_;go_frame;refine Rg.lr 22 (Rg.xm (.int .i64 ((P : Nat) : Int)) _ rfl rfl) ?_;go_frame;refine list_ask (some 23) rfl rfl _ _ (exec_fn 95 _ _ _ rfl rfl rfl (clGrow _ _)) ?_;refine (HGR.out _ _ G0.out.rows).mono ?_;rintro e1 w3 ⟨tb, pv, rfl, htb, ht, hb⟩;have ht0 := ht;refine ⟨_, rfl, ?_⟩;go_frame;replace G0 := ι (G0.out.below hb);replace K := ι (Rg.acc K.out hb)
  clear hb;refine Rg.lr 9 (Rg.xa (.pointer (some ⟨tb, 0, none⟩)) _ rfl rfl) ?_;go_frame;have HT := ι ht0;have hlt := ht0.lt;obtain ⟨pa, pc, hpe, _, _, _, hpr⟩ := (Rg.Vals.of_row ht0.2.1 (by omega)).shape
  have hlp : (pvs T).length = T.length := by simp [pvs, pts]
  rw [hlp] at hpe;obtain ⟨pb, po, hpe2, hpb, hpcell⟩ := hpr (by omega);subst hpe;subst hpe2;have C0 := ι (show Cel w3 tb 0 (.slice (some ⟨pb, po, none⟩) T.length pc) from ⟨(ht0.1.cell (by decide)).trans rfl, hlt⟩);have HPB := ι hpb;have HPI := ι (show Rg.Ints w3 (.slice (some ⟨pb, po, none⟩) T.length pc) (Ma.ofN (pts T)) from Rg.Ints.of_row (n := T.length) (by have := ht0.2.1; rwa [pvs_ofN] at this) (by omega))
  have HPC := ι (show ∀ i (hi : i < T.length), w3.cell? ⟨pb, po + i, none⟩ = some (.int .i64 ((T[i].1 : Nat) : Int)) from fun i hi => by
   rw [hpcell i (by omega)]; simp [pvs, pts])
  have hTN : (T.length : Int) ≤ 64 := by omega
  clear ht ht0 hlt hpr hlp hpb hpcell HGR HCK HPT htb;go_upto_region 7 with (fail);refine wp_region_list ?_;refine Rg.lr 24 (Rg.xm (.pointer (some ⟨tb, 0, none⟩)) _ rfl rfl) ?_;go_frame;refine Rg.lr 25 (exec_nil _ rfl rfl) ?_;go_frame;refine Rg.lr 26 (exec_field _ rfl rfl (fT0 _ _)) ?_;go_frame;refine Rg.lr 27 (Rg.exec_load (v := .slice (some ⟨pb, po, none⟩) T.length pc) _ _ rfl ⟨tb, 0, none⟩ rfl (Rg.run_loadSl _ _ Try.underlying22 C0.out.1)) ?_;go_frame;refine Rg.lr 28 (exec_len _ _ _ rfl Try.underlying22 _ _ _ rfl) ?_;go_frame;refine Rg.lr 29 (Rg.xm (.int .i64 ((0 : Nat) : Int)) _ rfl rfl) ?_;go_frame;have hst := ι (R2.nil (Nat.le_refl w3.heap.size));go_wp2
  go_loopw [5, 6, 29] (fun v5 v6 i wr => ∃ k : Nat, k ≤ T.length ∧ i = .int .i64 k ∧ Hid (R2 w3.heap.size wr v5 v6 ((prs T).take k) ((gns T).take k)) ∧ Hid (Below w3.heap.size w3 wr)) (fun _ _ i _ => T.length - (intOf i).toNat)
  case atStart => exact ⟨0, by omega, rfl, hst, ι (Below.refl _ _)⟩
  case round =>
   clear hst;have K0 := K;clear K;obtain ⟨k, hk, rfl, HR, K⟩ := hrel
   by_cases hkT : k < T.length
   ·obtain ⟨x, hx⟩ : ∃ x : Nat, Hid (x = T[k].1) := ⟨_, ι rfl⟩
    obtain ⟨x1, hx1⟩ : ∃ x1 : Int, Hid (x1 = T[k].2.1) := ⟨_, ι rfl⟩;obtain ⟨x2, hx2⟩ : ∃ x2 : Int, Hid (x2 = (T[k].2.2.1 : Int)) := ⟨_, ι rfl⟩
    have hxD : x < 64 := by have := HOK.out.lt _ (List.mem_map.2 ⟨_, List.getElem_mem hkT, rfl⟩); rw [hx.out]; omega
    have C1 := ι (show Cel w3 pb (po + k) (.int .i64 ((x : Nat) : Int)) from ⟨by rw [hx.out]; exact HPC.out k hkT, HPB.out⟩);have C2 := ι (show Cel w3 tb (1 + x) (.int .i64 x1) from ⟨by rw [HT.out.parCell hxD, hx.out, parI_at HOK.out.nd hkT, hx1.out], HT.out.lt⟩);have C3 := ι (show Cel w3 tb (65 + x) (.int .i64 x2) from ⟨by rw [HT.out.frmCell hxD, hx.out, frmI_at HOK.out.nd hkT, hx2.out], HT.out.lt⟩);have HP1 := ι (show (prs T).take (k + 1) = (prs T).take k ++ [x1] by rw [hx1.out]; exact prs_take hkT);have HP2 := ι (show (gns T).take (k + 1) = (gns T).take k ++ [x2] by rw [hx2.out]; exact gns_take hkT)
    have hkN : (k : Int) < (T.length : Int) := by omega
    have HL1 := ι (show ((prs T).take k).length < 1000000 by rw [List.length_take]; omega);have HL2 := ι (show ((gns T).take k).length < 1000000 by rw [List.length_take]; omega);have HKT := ι hkT;go_upto_region 9 with (fail);refine wp_region_list ?_;refine Rg.lr 31 (exec_indexS slInts _ _ rfl pb (po) (T.length) pc (k) rfl rfl HKT.out) ?_;go_frame;refine Rg.lr 32 (Rg.exec_load (v := .int .i64 ((x : Nat) : Int)) _ _ rfl ⟨pb, po + k, none⟩ rfl (run_loadInt ((Below.cell (p := ⟨pb, po + k, none⟩) K.out C1.out.2).trans C1.out.1))) ?_;go_frame;refine Rg.lr 11 (Rg.xa (.int .i64 ((x : Nat) : Int)) _ rfl rfl) ?_;go_frame;go_upto_region 10 with (fail);have hV0 : Below wr.heap.size wr wr.drew := (Below.refl _ _).drew;replace HR := ι (HR.out.below hV0);replace K := ι (Rg.acc K.out hV0);clear hV0;refine Rg.Any.begin (S := Rg.Both 19 (fun _ => True) (fun W => Below w3.heap.size w3 W)) mix ?_;generalize wr.drew = w21 at *
    have hS : ∀ (l : Array Bool) W, Below w3.heap.size w3 W → Rg.Both 19 (fun _ => True) (fun W => Below w3.heap.size w3 W) l W := fun l W h => ⟨.inr trivial, h⟩;have hI := K.out;refine Rg.tg 0 19 (u5) 33 rfl rfl (.inl ⟨rfl, fun w _ => Rg.exec_move (v := u5) _ rfl rfl⟩) (hS _ _ hI) ?_;go_frame;refine Rg.tg 1 19 (.pointer (some ⟨tb, 0, none⟩)) 34 rfl rfl (.inl ⟨rfl, fun w _ => Rg.exec_move (v := .pointer (some ⟨tb, 0, none⟩)) _ rfl rfl⟩) (hS _ _ hI) ?_;go_frame;refine Rg.tg 2 19 (.int .i64 ((x : Nat) : Int)) 35 rfl rfl (.inl ⟨rfl, fun w _ => Rg.exec_move (v := .int .i64 ((x : Nat) : Int)) _ rfl rfl⟩) (hS _ _ hI) ?_;go_frame;refine Rg.tg 3 19 (.pointer (some ⟨tb, 0, none⟩)) 36 rfl rfl (.inl ⟨rfl, fun w _ => exec_nil _ rfl rfl⟩) (hS _ _ hI) ?_;go_frame;refine Rg.tg 4 19 (.pointer (some ⟨tb, 1, none⟩)) 37 rfl rfl (.inl ⟨rfl, fun w _ => exec_field _ rfl rfl (fT1 _ _)⟩) (hS _ _ hI) ?_;go_frame
    refine Rg.tg 5 19 (.pointer (some ⟨tb, 1 + x, none⟩)) 38 rfl rfl (.inl ⟨rfl, fun w _ => exec_indexArr _ _ rfl Try.underlying122 szI tb 1 (x) rfl rfl (by omega)⟩) (hS _ _ hI) ?_;go_frame;refine Rg.tg 6 19 (.int .i64 x1) 39 rfl rfl (Rg.yields_cell _ _ rfl rfl ⟨tb, 1 + x, none⟩ rfl (fun W hW => run_loadInt ((Below.cell (p := ⟨tb, 1 + x, none⟩) hW C2.out.2).trans C2.out.1))) (hS _ _ hI) ?_;go_frame;refine Rg.tg 9 19 (u6) 42 rfl rfl (.inl ⟨rfl, fun w _ => Rg.exec_move (v := u6) _ rfl rfl⟩) (hS _ _ hI) ?_;go_frame;refine Rg.tg 10 19 (.pointer (some ⟨tb, 0, none⟩)) 43 rfl rfl (.inl ⟨rfl, fun w _ => Rg.exec_move (v := .pointer (some ⟨tb, 0, none⟩)) _ rfl rfl⟩) (hS _ _ hI) ?_;go_frame;refine Rg.tg 11 19 (.int .i64 ((x : Nat) : Int)) 44 rfl rfl (.inl ⟨rfl, fun w _ => Rg.exec_move (v := .int .i64 ((x : Nat) : Int)) _ rfl rfl⟩) (hS _ _ hI) ?_;go_frame;refine Rg.tg 12 19 (.pointer (some ⟨tb, 0, none⟩)) 45 rfl rfl (.inl ⟨rfl, fun w _ => exec_nil _ rfl rfl⟩) (hS _ _ hI) ?_;go_frame
    refine Rg.tg 13 19 (.pointer (some ⟨tb, 65, none⟩)) 46 rfl rfl (.inl ⟨rfl, fun w _ => exec_field _ rfl rfl (fT2 _ _)⟩) (hS _ _ hI) ?_;go_frame;refine Rg.tg 14 19 (.pointer (some ⟨tb, 65 + x, none⟩)) 47 rfl rfl (.inl ⟨rfl, fun w _ => exec_indexArr _ _ rfl Try.underlying122 szI tb 65 (x) rfl rfl (by omega)⟩) (hS _ _ hI) ?_;go_frame;refine Rg.tg 15 19 (.int .i64 x2) 48 rfl rfl (Rg.yields_cell _ _ rfl rfl ⟨tb, 65 + x, none⟩ rfl (fun W hW => run_loadInt ((Below.cell (p := ⟨tb, 65 + x, none⟩) hW C3.out.2).trans C3.out.1))) (hS _ _ hI) ?_;go_frame
    refine Rg.Any.c2f1 (i := 7) (k := 8) (j := 16) (di := 40) (dk := 41) (dj := 49) (I := fun W => Below w3.heap.size w3 W ∧ w21.heap.size ≤ W.heap.size) (R0 := fun W => R2 w3.heap.size W u5 u6 ((prs T).take k) ((gns T).take k)) (Ri := fun u W => Rg.BlkF w21.heap.size [.int .i64 x1] u W) (Rk := fun x W => R2 w3.heap.size W x u6 ((prs T).take k ++ [x1]) ((gns T).take k)) (Rj := fun v W => Rg.BlkF w21.heap.size [.int .i64 x2] v W) (fun l W h => hS l W h.1)
     (by decide) (by decide) (by decide) (by decide) (by kernel_rfl) (by kernel_rfl) (by kernel_rfl) (by kernel_rfl) (by kernel_rfl)
     (fun _ _ hb h => h.below hb) (fun _ _ _ hb h => h.below hb) (fun _ _ _ hb h => h.below hb) (fun _ _ _ hb h => h.below hb) ?_ ?_ ?_ ⟨hI, Nat.le_refl _⟩ (HR.out) ?_
    ·intro b hb W hW
     exact Rg.doesRun rfl rfl (by rcases hb with rfl | ⟨u, rfl⟩ <;> rfl) (Rg.exec_buildSlice _ _ _ rfl (.int .i64 x1) (by rcases hb with rfl | ⟨u, rfl⟩ <;> rfl) (run_build1i W x1)) ⟨⟨Rg.acc hW.1 ((Below.refl _ _).alloc (Nat.le_refl _) _), by simp; have := hW.2; omega⟩, Rg.BlkF.new W [.int .i64 x1] 3 hW.2, (Below.refl _ _).alloc (Nat.le_refl _) _⟩
    ·intro b hb W hW
     exact Rg.doesRun rfl rfl (by rcases hb with rfl | ⟨u, rfl⟩ | ⟨u, v, rfl⟩ <;> rfl) (Rg.exec_buildSlice _ _ _ rfl (.int .i64 x2) (by rcases hb with rfl | ⟨u, rfl⟩ | ⟨u, v, rfl⟩ <;> rfl) (run_build1i W x2)) ⟨⟨Rg.acc hW.1 ((Below.refl _ _).alloc (Nat.le_refl _) _), by simp; have := hW.2; omega⟩, Rg.BlkF.new W [.int .i64 x2] 3 hW.2, (Below.refl _ _).alloc (Nat.le_refl _) _⟩
    ·intro u b hb W hW h0 hu
     have hlt5 := fun j e => (HR.out.lt1 j e).2;have hlo5 := fun j e => (HR.out.lt1 j e).1;obtain ⟨pu, rfl, hp0, hp1, hp2⟩ := hu;obtain ⟨v2, X, r1, r2, r3⟩ := h0.app1 HL1.out (hp2 0 (by simp)) 22
     exact Rg.doesRun rfl rfl (by rcases hb with rfl | ⟨v, rfl⟩ <;> rfl) (Rg.exec_append _ _ _ rfl (by rcases hb with rfl | ⟨v, rfl⟩ <;> rfl) (by rcases hb with rfl | ⟨v, rfl⟩ <;> rfl) r1) ⟨⟨hW.1.grown r3 hW.1.size hlo5, Nat.le_trans hW.2 r3.size⟩, r2, fun v hv => hv.grown r3 hlt5⟩
    rintro w22 fu fx fv hb hk hj;have hI2_f := hb.1;have hVsz := hb.2;clear hb hI;clear HR;go_frame;have FK := ι hk;have FJ := ι hj;obtain ⟨pj, hje, hj0, hj1, hj2⟩ := FJ.out;subst hje;obtain ⟨v50, X50, r1, r2, r3⟩ := FK.out.swap.app1 HL2.out (hj2 0 (by simp)) 22;have hI3_g := hI2_f.grown r3 hI2_f.size (fun j hj => (FK.out.lt2 j hj).1);refine Rg.Any.one (i := 17) (by kernel_rfl) (Rg.Any.run (some 50) rfl rfl rfl (Rg.exec_append _ _ _ rfl rfl rfl r1) (hS _ _ hI3_g) ?_);go_frame;clear hI2_f;clear FK;clear FJ;have FX := ι r2.swap;refine Rg.tg 18 19 (fx) 5 rfl rfl (.inl ⟨rfl, fun w _ => Rg.exec_assign (v := fx) _ rfl rfl⟩) (hS _ _ hI3_g) ?_;go_frame;refine Rg.Any.one (i := 19) (by kernel_rfl) (Rg.Any.run (some 6) rfl rfl rfl (Rg.xa (v50) _ rfl rfl) (hS _ _ hI3_g) ?_);go_frame;refine Rg.Any.done (by kernel_rfl) ?_ _;replace K := ι hI3_g;clear hS hI3_g;have HZ := ι (show R2 w3.heap.size X50 fx v50 ((prs T).take (k + 1)) ((gns T).take (k + 1)) by rw [HP1.out, HP2.out]; exact FX.out)
    clear FX;go_wp2
    go_roundw
    case rel => exact ⟨k + 1, by omega, by go_num, HZ, K⟩
    case measure => simp [intOf]; omega
   ·obtain rfl : k = T.length := by omega
    have HR1 := ι (HR.out.ints1 (by rw [List.length_take]; omega));have HR2 := ι (HR.out.ints2 (by rw [List.length_take]; omega));have HPI2 := ι (Rg.Ints.below HPI.out K.out);have e1 : (prs T).take T.length = prs T := List.take_of_length_le (by simp [prs]);have e2 : (gns T).take T.length = gns T := List.take_of_length_le (by simp [gns]);rw [e1] at HR1;rw [e2] at HR2;clear HR e1 e2;have hc0 := (K.out.cell (p := ⟨tb, 0, none⟩) C0.out.2).trans C0.out.1;go_wp2;exact bodyPost_ret (results4 rfl _ rfl rfl rfl rfl _) rfl ⟨_, _, _, rfl, HPI2.out, HR1.out, HR2.out, Rg.acc K0.out K.out⟩
 ·have hr : treeR d ll p = ([], [], []) := if_neg hz
  rw [hr]
  by_cases hg : Ma.gchk d ll = 0
  ·have hp : isPt d p = false := by
    cases hq : isPt d p with
    | true => exact absurd (by unfold ptE; rw [if_pos hg, if_pos hq]) hz
    | false => rfl
   have he : ptE d ll p = 2 := by unfold ptE; rw [if_pos hg, if_neg (by rw [hp]; simp)]
   rw [he];have HP := ι hp;rw [hg] at HCK;clear he hz hp hg hr;obtain ⟨ga, gc, rfl, hga, hba⟩ := GI.enter (d) h;have K := ι hba;have G0 := ι hga;clear h hga hba
   go_enter Try.func46, Try.ntmps46
   go_upto_region 1 with (fail);generalize w.alloc (.cells #[.int .i64 (d), .slice ga ll.length gc] 26) = w0 at *;refine wp_region_list ?_;refine Rg.lr 12 (Rg.exec_load (v := .agg #[.int .i64 d, .slice ga ll.length gc]) _ _ rfl ⟨w.heap.size, 0, none⟩ rfl (run_loadG G0.out.c0 G0.out.c1)) ?_;go_frame;refine list_ask (some 13) rfl rfl _ _ (exec_fn1 48 _ _ rfl rfl (clChk _ _)) ?_;refine (HCK.out _ _ G0.out.rows).mono ?_;rintro e1 w1 ⟨rfl, hb⟩;refine ⟨_, rfl, ?_⟩;go_frame;replace G0 := ι (G0.out.below hb);replace K := ι (Rg.acc K.out hb);clear hb;refine Rg.lr 8 (Rg.xa (.int .i64 0) _ rfl rfl) ?_;go_frame;go_upto_region 4 with (fail);refine wp_region_list ?_;refine Rg.lr 17 (Rg.exec_load (v := .agg #[.int .i64 d, .slice ga ll.length gc]) _ _ rfl ⟨w.heap.size, 0, none⟩ rfl (run_loadG G0.out.c0 G0.out.c1)) ?_;go_frame;refine Rg.lr 18 (Rg.xm (.int .i64 p) _ rfl rfl) ?_;go_frame;refine list_ask (some 19) rfl rfl _ _ (exec_fn 94 _ _ _ rfl rfl rfl (clPnt _ _)) ?_
   refine (point_any _ _ _ w1).mono ?_;rintro e1 w2 ⟨rfl, hb⟩;rw [HP.out];refine ⟨_, rfl, ?_⟩;go_frame;replace G0 := ι (G0.out.below hb);replace K := ι (Rg.acc K.out hb);clear hb;refine Rg.lr 20 (exec_not _ _ false rfl rfl) ?_;go_frame;go_wp2;exact bodyPost_ret (results4 rfl _ rfl rfl rfl rfl _) rfl ⟨_, _, _, rfl, Rg.Ints.nil _ _ _ (Nat.zero_le _), Rg.Ints.nil _ _ _ (Nat.zero_le _), Rg.Ints.nil _ _ _ (Nat.zero_le _), K.out⟩
  ·have he : ptE d ll p = Ma.gchk d ll := if_neg hg
   rw [he];obtain ⟨e0, he0⟩ : ∃ e0, Hid (e0 = Ma.gchk d ll) := ⟨_, ι rfl⟩;rw [← he0.out] at HCK hg ⊢;clear he hz hr;obtain ⟨ga, gc, rfl, hga, hba⟩ := GI.enter (d) h;have K := ι hba;have G0 := ι hga;clear h hga hba
   go_enter Try.func46, Try.ntmps46
   go_upto_region 1 with (fail);generalize w.alloc (.cells #[.int .i64 (d), .slice ga ll.length gc] 26) = w0 at *;refine wp_region_list ?_;refine Rg.lr 12 (Rg.exec_load (v := .agg #[.int .i64 d, .slice ga ll.length gc]) _ _ rfl ⟨w.heap.size, 0, none⟩ rfl (run_loadG G0.out.c0 G0.out.c1)) ?_;go_frame;refine list_ask (some 13) rfl rfl _ _ (exec_fn1 48 _ _ rfl rfl (clChk _ _)) ?_;refine (HCK.out _ _ G0.out.rows).mono ?_;rintro e1 w1 ⟨rfl, hb⟩;refine ⟨_, rfl, ?_⟩;go_frame;replace G0 := ι (G0.out.below hb);replace K := ι (Rg.acc K.out hb);clear hb;refine Rg.lr 8 (Rg.xa (.int .i64 e0) _ rfl rfl) ?_;go_frame;go_wp2;exact bodyPost_ret (results4 rfl _ rfl rfl rfl rfl _) rfl ⟨_, _, _, rfl, Rg.Ints.nil _ _ _ (Nat.zero_le _), Rg.Ints.nil _ _ _ (Nat.zero_le _), Rg.Ints.nil _ _ _ (Nat.zero_le _), K.out⟩

theorem vals_grown {w w' : World} {v : Value} {us : List Value} {k : Option Nat} (h : Rg.Vals w v us) (ho : Rg.Off v k) (hg : w.grownBy w' k) : Rg.Vals w' v us := by
 obtain ⟨a, cap, h1, h2, h3, h4, h5⟩ := h;refine ⟨a, cap, h1, h2, h3, h4, fun h0 => ?_⟩;obtain ⟨b, o, e1, e2, e3⟩ := h5 h0;subst e1;have hne := ho _ _ _ h1 h0;exact ⟨b, o, rfl, Nat.lt_of_lt_of_le e2 hg.size, fun i hi => hg.cell (e3 i hi) hne⟩
theorem ints_grown {w w' : World} {v : Value} {l : List Int} {k : Option Nat} (h : Rg.Ints w v l) (ho : Rg.Off v k) (hg : w.grownBy w' k) : Rg.Ints w' v l := vals_grown h ho hg
theorem ints_lt {w : World} {v : Value} {l : List Int} (h : Rg.Ints w v l) {a : Addr} {n c : Nat} (e : v = .slice (some a) n c) (hn : 0 < n) : a.block < w.heap.size := by
 obtain ⟨a', cap, h1, _, _, _, h5⟩ := h.shape;rw [e] at h1;simp at h1;obtain ⟨rfl, rfl, rfl⟩ := h1;obtain ⟨b, o, e1, e2, _⟩ := h5 hn;simp at e1; subst e1; exact e2
theorem off_next {w : World} {v : Value} {l : List Int} {k k' : Option Nat} {g : Nat} (ho : Rg.Off v k) (h : Rg.Ints w v l) (hk : k' = k ∨ k' = some g) (hg : w.heap.size ≤ g) : Rg.Off v k' := by
 rcases hk with rfl | rfl
 ·exact ho
 ·intro a n c e hn e2
  have := ints_lt h e hn;simp at e2; omega
theorem grown_set (w : World) (b o : Nat) (x : Value) : w.grownBy (w.setCell ⟨b, o, none⟩ x) (some b) :=
 ⟨rfl, rfl, rfl, by simp, fun k _ hk => Below.heap_setCell _ _ _ k (fun e => hk (by rw [e]))⟩
structure Obst (t e : TypeId) (B X : Nat) (bt : TypeId) (n : Nat) (w : World) (v : Value) (O : List (List Int)) (lv : Value) (l : List Int) (F : Nat → Bool) : Prop where
 size : B ≤ w.heap.size
 low : B ≤ X
 marks : w.rowIs X bt n (fun j => .bool (F j))
 own : ∃ us, w.ownsRow B e 1 v O.length us ∧ us.length = O.length ∧ (∀ i (h : i < us.length) (h2 : i < O.length), Rg.Ints w us[i] O[i]) ∧ Rg.Offs us v.ownBlock ∧ Rg.Offs us (some X)
 apart : v.ownBlock ≠ some X
 row : Rg.Ints w lv l
 off1 : Rg.Off lv (some X)
 off2 : Rg.Off lv v.ownBlock
variable {t e bt : TypeId} {B X n : Nat} {w w' : World} {v lv : Value} {O : List (List Int)} {l : List Int} {F : Nat → Bool}
theorem Obst.lt (h : Obst t e B X bt n w v O lv l F) : X < w.heap.size := by
 obtain ⟨c, h1, _⟩ := h.marks;exact (Array.getElem?_eq_some_iff.1 h1).1
theorem Obst.below (h : Obst t e B X bt n w v O lv l F) (hb : Below w.heap.size w w') : Obst t e B X bt n w' v O lv l F := by
 obtain ⟨c, m1, m2, m3⟩ := h.marks;obtain ⟨us, o1, o2, o3, o4, o5⟩ := h.own;exact ⟨Nat.le_trans h.size hb.size, h.low, ⟨c, by rw [hb.block X h.lt]; exact m1, m2, m3⟩, ⟨us, Rg.row_below o1 hb, o2, fun i a b => (o3 i a b).below hb, o4, o5⟩, h.apart, h.row.below hb, h.off1, h.off2⟩
theorem Obst.start (hB : B ≤ X) (hs : B ≤ w.heap.size) (hm : w.rowIs X bt n (fun _ => .bool false)) : Obst t e B X bt n w (.slice none 0 0) [] (.slice none 0 0) [] (fun _ => false) :=
 ⟨hs, hB, hm, ⟨[], World.ownsRow_nil _ _ _ _, rfl, fun i h => by simp at h, Rg.Offs.nil _, Rg.Offs.nil _⟩, by simp [Value.ownBlock], Rg.Ints.nil _ _ _ (Nat.zero_le _), fun a n c e => by simp at e, fun a n c e => by simp at e⟩
theorem Obst.reset (h : Obst t e B X bt n w v O lv l F) : Obst t e B X bt n w v O (.slice none 0 0) [] F :=
 ⟨h.size, h.low, h.marks, h.own, h.apart, Rg.Ints.nil _ _ _ (Nat.zero_le _), fun a n c e => by simp at e, fun a n c e => by simp at e⟩
theorem Obst.get (h : Obst t e B X bt n w v O lv l F) (hb : Below w.heap.size w w') {u : Value} {m : List Int} (hu : Rg.Ints w' u m) (hf : Rg.Fresh w.heap.size u) : Obst t e B X bt n w' v O u m F := by
 have h' := h.below hb;have hX := h.lt;obtain ⟨us, o1, _⟩ := h.own;exact ⟨h'.size, h'.low, h'.marks, h'.own, h'.apart, hu, Rg.Off.fresh hf (fun j e => by simp at e; omega), Rg.Off.fresh hf (fun j e => (o1.lt j e).2)⟩
theorem Obst.congr {G : Nat → Bool} (h : Obst t e B X bt n w v O lv l F) (hG : ∀ j, j < n → F j = G j) : Obst t e B X bt n w v O lv l G := by
 obtain ⟨c, m1, m2, m3⟩ := h.marks;exact ⟨h.size, h.low, ⟨c, m1, m2, fun i hi => by show c[i]? = some (Value.bool (G i)); rw [← hG i hi]; exact m3 i hi⟩, h.own, h.apart, h.row, h.off1, h.off2⟩
theorem Obst.mark (h : Obst t e B X bt n w v O lv l F) (x : Nat) : Obst t e B X bt n (w.setCell ⟨X, x, none⟩ (.bool true)) v O lv l (fun j => if j = x then true else F j) := by
 have hg := grown_set w X x (.bool true);obtain ⟨us, o1, o2, o3, o4, o5⟩ := h.own;refine ⟨Nat.le_trans h.size hg.size, h.low, ?_, ⟨us, Rg.row_keep o1 hg (.inr h.apart), o2, fun i a b => ints_grown (o3 i a b) (o5 _ (List.getElem_mem a)) hg, o4, o5⟩, h.apart, ints_grown h.row h.off1 hg, h.off1, h.off2⟩;have := h.marks.set x (.bool true);obtain ⟨c, m1, m2, m3⟩ := this;exact ⟨c, m1, m2, fun i hi => by rw [m3 i hi]; show some (if i = x then _ else _) = some (Value.bool (if i = x then _ else _)); split <;> rfl⟩
theorem Obst.cell (h : Obst t e B X bt n w v O lv l F) {x : Nat} (hx : x < n) : w.cell? ⟨X, x, none⟩ = some (.bool (F x)) := h.marks.cell hx
theorem Obst.rows (h : Obst t e B X bt n w v O lv l F) (hl : O.length ≤ 1000000000) : Rg.Rows w v O := by
 obtain ⟨us, o1, o2, o3, o4, o5⟩ := h.own;exact ⟨us, Rg.Vals.of_row o1 hl, o2, o3⟩
theorem Obst.lt2 (h : Obst t e B X bt n w v O lv l F) : ∀ j, v.ownBlock = some j → B ≤ j ∧ j < w.heap.size := by
 obtain ⟨us, o1, _⟩ := h.own;exact fun j e => o1.lt j e
theorem Obst.push {z : Value} {bytes : Nat} (T : Rg.SlT Try.prog t e z bytes) (h : Obst t e B X bt n w v O lv l F) (hO : O.length < 1000000) (ty : TypeId) :
  ∃ v' W, (Builtin.append_ #[t, t] ty #[v, .slice (some ⟨w.heap.size, 0, none⟩) 1 1]).run Try.prog (w.alloc (.cells #[lv] e)) = .ok v' W ∧ Obst t e B X bt n W v' (O ++ [l]) lv l F ∧ (∀ {B0 : Nat} {W0 : World}, B0 ≤ B → Below B0 W0 w → Below B0 W0 W) := by
 obtain ⟨us, o1, o2, o3, o4, o5⟩ := h.own;have hba : Below w.heap.size w (w.alloc (.cells #[lv] e)) := (Below.refl _ _).alloc (Nat.le_refl _) _;have h' := h.below hba;obtain ⟨a, c, rfl, _⟩ := h.row.shape
 have hsz : (w.alloc (.cells #[.slice a l.length c] e)).heap.size = w.heap.size + 1 := by simp
 obtain ⟨v', W, r1, r2, r3, r4, _⟩ := app_run (P := Try.prog) T ty (Rg.row_below o1 hba) h'.size w.heap.size 1 (u := .slice a l.length c) (by rw [Rg.cellNew]; rfl) rfl hO;obtain ⟨c', m1, m2, m3⟩ := h'.marks
 have hne : v'.ownBlock ≠ some X := by
  rcases r4 with r4 | r4
  ·rw [r4]; exact h.apart
  ·rw [r4]; intro e; have := h.lt; simp at e; omega
 have hO2 : ∀ u ∈ us, ∃ m, Rg.Ints (w.alloc (.cells #[.slice a l.length c] e)) u m := fun u hu => by
  obtain ⟨i, hi, rfl⟩ := List.getElem_of_mem hu;exact ⟨_, (o3 i hi (by omega)).below hba⟩
 have hrow' := ints_grown h'.row h.off2 r3;refine ⟨v', W, r1, ⟨Nat.le_trans h'.size r3.size, h.low, ⟨c', by rw [r3.block X h'.lt (fun e => h.apart e.symm)]; exact m1, m2, m3⟩, ⟨us ++ [.slice a l.length c], by rw [List.length_append]; exact r2, by simp [o2], fun i p q => ?_, ?_, ?_⟩, hne, hrow', h.off1, off_next h.off2 h'.row r4 (Nat.le_refl _)⟩, fun {B0 W0} hB hb => ?_⟩
 ·by_cases hi : i < us.length
  ·rw [List.getElem_append_left hi, List.getElem_append_left (by omega)]
   exact ints_grown ((o3 i hi (by omega)).below hba) (o4 _ (List.getElem_mem hi)) r3
  ·have hi2 : i = us.length := by simp at p; omega
   subst hi2
   have e1 : (us ++ [.slice a l.length c])[us.length] = .slice a l.length c := by rw [List.getElem_append_right (Nat.le_refl _)]; simp
   have e2 : (O ++ [l])[us.length]'q = l := by rw [List.getElem_append_right (by omega)]; simp [o2]
   rw [e1, e2]; exact hrow'
 ·intro u hu
  rcases List.mem_append.1 hu with hu | hu
  ·obtain ⟨m, hm⟩ := hO2 u hu
   exact off_next (o4 u hu) hm r4 (Nat.le_refl _)
  ·obtain rfl : u = .slice a l.length c := by simpa using hu
   exact off_next h.off2 h'.row r4 (Nat.le_refl _)
 ·intro u hu
  rcases List.mem_append.1 hu with hu | hu
  ·exact o5 u hu
  ·obtain rfl : u = .slice a l.length c := by simpa using hu
   exact h.off1
 ·exact (hb.alloc (Nat.le_trans hB h.size) _).grown r3 (by rw [hsz]; have := h.size; omega) (fun j hj => Nat.le_trans hB (o1.lt j hj).1)
def sn (O : List (List Int)) (x : Nat) : Bool := decide (∃ l ∈ O, (x : Int) ∈ l)
theorem sn_nil (x : Nat) : sn [] x = false := by simp [sn]
theorem sn_snoc (O : List (List Int)) (l : List Int) (x : Nat) : sn (O ++ [l]) x = (sn O x || decide ((x : Int) ∈ l)) := by
 unfold sn;rw [Bool.eq_iff_iff, decide_eq_true_iff, Bool.or_eq_true, decide_eq_true_iff, decide_eq_true_iff]
 constructor
 ·rintro ⟨m, hm, hx⟩
  rcases List.mem_append.1 hm with hm | hm
  ·exact .inl ⟨m, hm, hx⟩
  ·exact .inr (by rw [List.mem_singleton] at hm; rwa [← hm])
 ·rintro (⟨m, hm, hx⟩ | hx)
  ·exact ⟨m, List.mem_append_left _ hm, hx⟩
  ·exact ⟨l, by simp, hx⟩
def obsI (gs : List (List Nat)) (D : Nat) : Nat → List (List Int)
 | 0 => []
 | k + 1 => if sn (obsI gs D k) k = true then obsI gs D k else obsI gs D k ++ [asc (Ma.ofN (pts (tree gs D k)))]
theorem obsI_in {gs : List (List Nat)} {D k : Nat} (h : sn (obsI gs D k) k = true) : obsI gs D (k + 1) = obsI gs D k := if_pos h
theorem obsI_out {gs : List (List Nat)} {D k : Nat} (h : sn (obsI gs D k) k = false) : obsI gs D (k + 1) = obsI gs D k ++ [asc (Ma.ofN (pts (tree gs D k)))] := if_neg (by rw [h]; simp)
theorem obsI_len (gs : List (List Nat)) (D : Nat) : ∀ k, (obsI gs D k).length ≤ k
 | 0 => Nat.le_refl _
 | k + 1 => by
  have := obsI_len gs D k
  cases h : sn (obsI gs D k) k with
  | true => rw [obsI_in h]; omega
  | false => rw [obsI_out h, List.length_append, List.length_singleton]; omega
def orbsS (d : Int) (ll : List (List Int)) : List (List Int) × Int := if Ma.gchk d ll = 0 then (obsI (toNs ll) d.toNat d.toNat, 0) else ([], Ma.gchk d ll)
theorem orbsS_ok {D : Nat} {gs : List (List Nat)} (h : Ma.gchk (D : Int) (gs.map Ma.ofN) = 0) : orbsS (D : Int) (gs.map Ma.ofN) = (obsI gs D D, 0) := by
 unfold orbsS;rw [if_pos h, toNs_ofN]; rfl
theorem orbsS_bad {d : Int} {ll : List (List Int)} (h : Ma.gchk d ll ≠ 0) : orbsS d ll = ([], Ma.gchk d ll) := if_neg h
def LLPost (r : List (List Int) × Int) (w : World) (e : Ending) (w' : World) : Prop := ∃ v, e = .returned (.tuple #[v, .int .i64 r.2]) ∧ Rg.Rows w' v r.1 ∧ Below w.heap.size w w'
theorem infoInts : (Try.prog.info? 22).map (fun i => (i.zero, i.size, i.bytes)) = some (some (.slice none 0 0), 1, 24) := by kernel_rfl
theorem slIntss : Rg.SlT Try.prog 29 22 (.slice none 0 0) 24 := ⟨Try.underlying29, infoInts, rfl, by decide⟩
theorem run_build1L (X : World) (u : Value) (hs : ∃ a n c, u = .slice a n c) : (Instr.buildSlice 29 1 #[(0, u)]).run Try.prog X = .ok (.slice (some ⟨X.heap.size, 0, none⟩) 1 1) (X.alloc (.cells #[u] 22)) := by
 obtain ⟨i0, hi, hz0, hz1, hz2⟩ := info_parts infoInts;obtain ⟨a, n, c, rfl⟩ := hs;refine run_buildSlice X 29 22 1 _ _ i0 _ Try.underlying29 hi hz0 (by rw [hz1]; decide) (by rw [hz1]; decide) ?_;generalize (fun x => ((Value.slice none 0 0).cells)[x % (Value.slice none 0 0).cells.size]!) = f;rw [hz1];have h1 : Array.range (1 * 1) = #[0] := rfl;simp [Instr.fill, Value.cells, h1]
theorem asc_mem (l : List Int) (x : Int) : x ∈ asc l ↔ x ∈ l := by
 rw [asc_sort]; exact List.mem_mergeSort
end Go.Proofs.Ytcfomoknlchemaa

namespace Go.Proofs.Ytcfomoknlchemaa
open Go.RowKit
open Go.Proofs
attribute [local irreducible] Go.Calls
theorem rowKp {M : Nat → Prop} {w w' : World} {base : Nat} {e : TypeId} {size : Nat} {v : Value} {n : Nat} {xs : List Value} (h : w.ownsRow base e size v n xs) (hk : Rg.Kp M w w') (hM : ∀ k, M k → v.ownBlock ≠ some k) : w'.ownsRow base e size v n xs := by
 obtain ⟨h1, h2⟩ := h
 rcases h2 with h2 | ⟨g, cap, cur, rfl, hg, hc, h3⟩
 ·exact ⟨h1, .inl h2⟩
 ·exact ⟨h1, .inr ⟨g, cap, cur, rfl, hg, (hk.block g (Array.getElem?_eq_some_iff.1 hc).1 (fun e => hM g e (by simp [Value.ownBlock]))).trans hc, h3⟩⟩
def Fup (F : Nat → Prop) (w w' : World) : Nat → Prop := fun k => F k ∨ (w.heap.size ≤ k ∧ k < w'.heap.size)
structure LV where
 g : Value
 us : List Value
 o : Value
 t : Nat → Value
 b : Nat → Value
open Go.Proofs.Cm (Lv Twr)
def LV.own (v : LV) (k : Nat) : Prop := v.g.ownBlock = some k ∨ v.o.ownBlock = some k
end Go.Proofs.Ytcfomoknlchemaa

namespace Go.Proofs.Ytcfomoknlchemaa
open Go.RowKit
open Go.Proofs
open Go.Proofs.Ob
attribute [local irreducible] Go.Calls
theorem infoA : (Try.prog.info? 118).map (fun i => (i.zero, i.size, i.bytes)) = some (some (.agg (Array.replicate 64 (.bool false))), 64, 64) := by kernel_rfl
theorem exec_allocA {o : Oper} {a : Act} {w : World} (ho : o.op = .alloc 118) : (execOp a.eval o).run Try.prog w = .ok (.value (.pointer (some ⟨w.heap.size, 0, none⟩))) (w.alloc (.cells (Array.replicate 64 (.bool false)) 118)) := by
 obtain ⟨i0, hi, hz0, hz1, hz2⟩ := info_parts infoA;unfold execOp;simp [ho, Instr.alloc, typeInfo, zeroValue, hi, hz0, newVar, Value.cells, Result.andThen];rfl
theorem exec_makeSlice {o : Oper} {a : Act} {w w' : World} {v : Value} (t : TypeId) (x y : Operand) (ho : o.op = .makeSlice t x y) (n m : Value) (hx : a.eval x = n) (hy : a.eval y = m) (hr : (Instr.makeSlice t n m).run Try.prog w = .ok v w') : (execOp a.eval o).run Try.prog w = .ok (.value v) w' := by
 unfold execOp;simp only [ho, hx, hy, Sem.run_bind, Sem.run_pure, hr, Result.andThen_ok]
theorem marks64 (w : World) : (w.alloc (.cells (Array.replicate 64 (.bool false)) 118)).rowIs w.heap.size 118 64 (fun _ => .bool false) := by
 have := World.rowIs_alloc w (Array.replicate 64 (.bool false)) 118 (fun _ => .bool false) (fun i hi => by rw [Array.getElem?_replicate, if_pos (by simpa using hi)])
 simpa using this
theorem sn_step {O : List (List Int)} {l : List Int} {i : Nat} (h : i < l.length) {x : Nat} (hx : l[i] = (x : Int)) (j : Nat) :
  (if j = x then true else (sn O j || decide ((j : Int) ∈ l.take i))) = (sn O j || decide ((j : Int) ∈ l.take (i + 1))) := by
 rw [List.take_succ_eq_append_getElem h, hx]
 by_cases e : j = x
 ·subst e; simp
 ·have : (j : Int) ≠ (x : Int) := by omega
  simp [e, this]
theorem Orbits_any (gv : Value) (d : Int) (ll : List (List Int)) (w : World) (h : Rg.Rows w gv ll) :
  Calls Try.prog 44 #[.agg #[.int .i64 d, gv]] w (LLPost (orbsS d ll) w) := by
 have HCK := ι fun v W (hW : Rg.Rows W v ll) => orbitCheck_any v d ll W hW
 by_cases hz : Ma.gchk d ll = 0
 ·obtain ⟨D, gs, rfl, rfl, hgg, hD1, hD2, hgl⟩ := gchk_ok hz
  rw [orbsS_ok hz];rw [hz] at HCK;replace h : Rg.NRows w gv gs := h;have HIM := ι fun v W (hW : Rg.NRows W v gs) k (hk : k < D) => images_any v D gs k W hW hgg hD2 hk hgl;have HTK := ι fun (k : Nat) (hk : k < D) => tree_ok hgg.cl hk;clear hz hgg;obtain ⟨ga, gc, rfl, hga, hba⟩ := GA.enter (D) h;have K := ι hba;have G0 := ι hga;clear h hga hba
  go_enter Try.func44, Try.ntmps44
  go_upto_region 1 with (fail);generalize w.alloc (.cells #[.int .i64 (((D : Nat) : Int)), .slice ga gs.length gc] 26) = w0 at *;refine wp_region_list ?_;refine Rg.lr 11 (Rg.exec_load (v := .agg #[.int .i64 ((D : Nat) : Int), .slice ga gs.length gc]) _ _ rfl ⟨w.heap.size, 0, none⟩ rfl (run_loadG G0.out.c0 G0.out.c1)) ?_;go_frame;refine list_ask (some 12) rfl rfl _ _ (exec_fn1 48 _ _ rfl rfl (clChk _ _)) ?_;refine (HCK.out _ _ G0.out.rows).mono ?_;rintro e1 w1 ⟨rfl, hb⟩;refine ⟨_, rfl, ?_⟩;go_frame;replace G0 := ι (G0.out.below hb);replace K := ι (Rg.acc K.out hb);clear hb;refine Rg.lr 4 (Rg.xa (.int .i64 0) _ rfl rfl) ?_;go_frame;have K0 := K;replace K := ι (Below.refl w1.heap.size w1);go_upto_region 4 with (fail);refine wp_region_list ?_;have hm := marks64 w1;refine Rg.lr 5 (exec_allocA rfl) ?_;go_frame
  have hK1 : w1.heap.size ≤ (w1.alloc (.cells (Array.replicate 64 (.bool false)) 118)).heap.size := by simp
  have hb := (Below.refl w1.heap.size w1).alloc (Nat.le_refl _) (.cells (Array.replicate 64 (.bool false)) 118);generalize w1.alloc (.cells (Array.replicate 64 (.bool false)) 118) = w2 at *;replace K := ι (Rg.acc K.out hb);clear hb;go_upto_region 6 with (fail);refine wp_region_list ?_;refine Rg.lr 16 (exec_fieldG0 _ rfl rfl) ?_;go_frame;refine Rg.lr 17 (Rg.exec_load (v := .int .i64 ((D : Nat) : Int)) _ _ rfl ⟨w.heap.size, 0, none⟩ rfl (run_loadInt ((Below.cell (p := ⟨w.heap.size, 0, none⟩) K.out G0.out.lt).trans G0.out.c0))) ?_;go_frame;refine Rg.lr 18 (Rg.xm (.int .i64 ((0 : Nat) : Int)) _ rfl rfl) ?_;go_frame;have hso : Obst 29 22 w1.heap.size w1.heap.size 118 64 w2 (.slice none 0 0) [] (.slice none 0 0) [] (fun _ => false) := Obst.start (Nat.le_refl _) hK1 hm;have HS0 := ι (hso.congr (G := sn []) (fun j _ => (sn_nil j).symm));clear hso hm hK1
  have hDN : (D : Int) ≤ 64 := by omega
  have hg0 := (G0.out.below K.out).c0;go_wp2
  go_loopw [6, 18] (fun v i wr => ∃ k : Nat, k ≤ D ∧ i = .int .i64 k ∧ Hid (Obst 29 22 w1.heap.size w1.heap.size 118 64 wr v (obsI gs D k) (.slice none 0 0) ([]) (sn (obsI gs D k))) ∧ Hid (Below w1.heap.size w1 wr)) (fun _ i _ => D - (intOf i).toNat)
  case atStart => exact ⟨0, by omega, rfl, HS0, K⟩
  case round =>
   clear HS0 K hg0;obtain ⟨k, hk, rfl, HS, K⟩ := hrel;have hg0 := (G0.out.below K.out).c0
   by_cases hkD : k < D
   ·obtain ⟨O, hO⟩ : ∃ O, Hid (O = obsI gs D k) := ⟨_, ι rfl⟩
    have hkN : (k : Int) < (D : Int) := by omega
    have HIN := ι (obsI_in (gs := gs) (D := D) (k := k));have HOUT := ι (obsI_out (gs := gs) (D := D) (k := k));have hOl := obsI_len gs D k;rw [← hO.out] at HS HIN HOUT hOl;have HKD := ι hkD
    have hk64 : k < 64 := by omega
    cases hs : sn O k with
    | true =>
     have hc : wr.cell? ⟨w1.heap.size, 0 + k, none⟩ = some (.bool true) := by rw [Nat.zero_add, HS.out.cell hk64, hs]
     have HE := ι (HIN.out hs);clear hs;go_upto_region 8 with (fail);refine wp_region_list ?_;refine Rg.lr 20 (Rg.xm (.int .i64 ((k : Nat) : Int)) _ rfl rfl) ?_;go_frame;refine Rg.lr 7 (Rg.xa (.int .i64 ((k : Nat) : Int)) _ rfl rfl) ?_;go_frame;go_upto_region 9 with (fail);refine wp_region_list ?_;refine Rg.lr 21 (Rg.xm (.int .i64 ((k : Nat) : Int)) _ rfl rfl) ?_;go_frame;refine Rg.lr 22 (exec_indexArr _ _ rfl Try.underlying118 szB w1.heap.size 0 (k) rfl rfl hk64) ?_;go_frame;refine Rg.lr 23 (Rg.exec_load (v := .bool true) _ _ rfl ⟨w1.heap.size, 0 + k, none⟩ rfl (run_loadBool hc)) ?_;go_frame;go_wp2
     go_roundw
     case rel => exact ⟨k + 1, by omega, by go_num, by rw [HE.out]; exact HS, K⟩
     case measure => simp [intOf]; omega
    | false =>
     have hc : wr.cell? ⟨w1.heap.size, 0 + k, none⟩ = some (.bool false) := by rw [Nat.zero_add, HS.out.cell hk64, hs]
     have HE := ι (HOUT.out hs);clear hs;go_upto_region 8 with (fail);refine wp_region_list ?_;refine Rg.lr 20 (Rg.xm (.int .i64 ((k : Nat) : Int)) _ rfl rfl) ?_;go_frame;refine Rg.lr 7 (Rg.xa (.int .i64 ((k : Nat) : Int)) _ rfl rfl) ?_;go_frame;go_upto_region 9 with (fail);refine wp_region_list ?_;refine Rg.lr 21 (Rg.xm (.int .i64 ((k : Nat) : Int)) _ rfl rfl) ?_;go_frame;refine Rg.lr 22 (exec_indexArr _ _ rfl Try.underlying118 szB w1.heap.size 0 (k) rfl rfl hk64) ?_;go_frame;refine Rg.lr 23 (Rg.exec_load (v := .bool false) _ _ rfl ⟨w1.heap.size, 0 + k, none⟩ rfl (run_loadBool hc)) ?_;go_frame;clear hc;go_upto_region 10 with (fail);refine wp_region_list ?_;refine Rg.lr 24 (Rg.exec_load (v := .agg #[.int .i64 ((D : Nat) : Int), .slice ga gs.length gc]) _ _ rfl ⟨w.heap.size, 0, none⟩ rfl (run_loadG ((Below.cell (p := ⟨w.heap.size, 0, none⟩) K.out G0.out.lt).trans G0.out.c0) ((Below.cell (p := ⟨w.heap.size, 1, none⟩) K.out G0.out.lt).trans G0.out.c1))) ?_;go_frame
     refine Rg.lr 25 (Rg.xm (.int .i64 ((k : Nat) : Int)) _ rfl rfl) ?_;go_frame;refine list_ask (some 26) rfl rfl _ _ (exec_fn 93 _ _ _ rfl rfl rfl (vacl2 _ _)) ?_;refine (HIM.out _ _ (G0.out.below K.out).rows k HKD.out).mono ?_;rintro e1 w31 ⟨lv, rfl, hlv, hb⟩;have HS1 := ι (HS.out.get hb (Rg.Ints.of_row hlv (by have := (HTK.out k HKD.out).len; omega)) (Rg.Fresh.of_row hlv));clear hlv;clear HS;refine ⟨_, rfl, ?_⟩;go_frame;replace K := ι (Rg.acc K.out hb);clear hb;refine Rg.lr 8 (Rg.xa (lv) _ rfl rfl) ?_;go_frame;obtain ⟨l, hl⟩ : ∃ l, Hid (l = (asc (Ma.ofN (pts (tree gs D k))))) := ⟨_, ι rfl⟩;rw [← hl.out] at HS1 HE
     have HLB := ι (show ∀ y ∈ l, 0 ≤ y ∧ y < (D : Int) from fun y hy => by
      rw [hl.out, asc_mem] at hy;obtain ⟨z, hz, rfl⟩ := List.mem_map.1 hy;have := (HTK.out k HKD.out).lt z hz
      omega)
     have hll : l.length ≤ 64 := by
      rw [hl.out, asc_length, Ma.len_ofN, len_pts];have := (HTK.out k HKD.out).len; omega
     obtain ⟨la, lc, rfl, _⟩ := HS1.out.row.shape
     have hlN : (l.length : Int) ≤ 64 := by omega
     have HS2 := ι (HS1.out.congr (G := fun j => sn O j || decide ((j : Int) ∈ l.take 0)) (fun j _ => by simp))
     clear HS1;go_wp2
     go_loopw [29] (fun iv wr => ∃ i : Nat, i ≤ l.length ∧ iv = .int .i64 i ∧ Hid (Obst 29 22 w1.heap.size w1.heap.size 118 64 wr u6 (O) (.slice la l.length lc) (l) (fun j => sn O j || decide ((j : Int) ∈ l.take i))) ∧ Hid (Below w1.heap.size w1 wr)) (fun iv _ => l.length - (intOf iv).toNat)
     case atStart => exact ⟨0, by omega, rfl, HS2, K⟩
     case round =>
      clear HS2 K hg0;obtain ⟨i, hi, rfl, HS, K⟩ := hrel;have hg0 := (G0.out.below K.out).c0
      by_cases hil : i < l.length
      ·obtain ⟨la', lc', e1, _, _, _, hlr⟩ := HS.out.row.shape
       cases e1
       obtain ⟨lb, lo, e2, hlb, hlcell⟩ := hlr (by omega);subst e2;obtain ⟨hq0, hq1⟩ := HLB.out _ (List.getElem_mem hil);obtain ⟨q, hq⟩ : ∃ q : Nat, l[i] = (q : Int) := ⟨l[i].toNat, by omega⟩;have hc := hlcell i hil;rw [hq] at hc
       have hqD : q < 64 := by omega
       have HQ := ι hq
       have hcq : wr.cell? ⟨w1.heap.size, 0 + q, none⟩ = some (.bool (sn O q || decide ((q : Int) ∈ l.take i))) := by rw [Nat.zero_add]; exact HS.out.cell hqD
       have hfq : wr.frozen? ⟨w1.heap.size, 0 + q, none⟩ = false := HS.out.marks.frozen _
       have hiN : (i : Int) < (l.length : Int) := by omega
       have HIL := ι hil;clear hlr hlcell hlb hq hq0 hq1;go_upto_region 13 with (fail);refine wp_region_list ?_;refine Rg.lr 31 (exec_indexS slInts _ _ rfl lb (lo) (l.length) lc (i) rfl rfl HIL.out) ?_;go_frame;refine Rg.lr 32 (Rg.exec_load (v := .int .i64 ((q : Nat) : Int)) _ _ rfl ⟨lb, lo + i, none⟩ rfl (run_loadInt hc)) ?_;go_frame;refine Rg.lr 10 (Rg.xa (.int .i64 ((q : Nat) : Int)) _ rfl rfl) ?_;go_frame;go_upto_region 14 with (fail);refine wp_region_list ?_;refine Rg.lr 33 (Rg.xm (.int .i64 ((q : Nat) : Int)) _ rfl rfl) ?_;go_frame;refine Rg.lr 34 (exec_indexArr _ _ rfl Try.underlying118 szB w1.heap.size 0 (q) rfl rfl hqD) ?_;go_frame;refine Rg.list_skip none rfl rfl (Rg.exec_store _ _ _ rfl _ rfl _ rfl (show (storeVar 4 ⟨w1.heap.size, 0 + q, none⟩ (.bool true)).run Try.prog wr = _ from run_storeBool true hcq hfq)) ?_;go_frame
       have HS3 := ι ((HS.out.mark q).congr (G := fun j => sn O j || decide ((j : Int) ∈ l.take (i + 1))) (fun j _ => sn_step HIL.out HQ.out j))
       have hgs := grown_set wr w1.heap.size q (.bool true);have K3 := ι (show Below w1.heap.size w1 (wr.setCell ⟨w1.heap.size, q, none⟩ (.bool true)) from K.out.setCell (Nat.le_refl _) _);rw [show (⟨w1.heap.size, q, none⟩ : Addr) = ⟨w1.heap.size, 0 + q, none⟩ by rw [Nat.zero_add]] at HS3 K3;clear HS K hc hcq hfq hg0 hgs;generalize wr.setCell ⟨w1.heap.size, 0 + q, none⟩ (.bool true) = wq at *;have hg0 := (G0.out.below K3.out).c0;go_wp2
       go_roundw
       case rel => exact ⟨i + 1, by omega, by go_num, HS3, K3⟩
       case measure => simp [intOf]; omega
      ·obtain rfl : i = l.length := by omega
       have HS3 := ι (HS.out.congr (G := fun j => sn (O ++ [l]) j) (fun j _ => by rw [List.take_length, sn_snoc]));clear HS;go_upto_region 16 with (fail);refine wp_region_list ?_;refine Rg.lr 36 (Rg.xm (u6) _ rfl rfl) ?_;go_frame;refine Rg.lr 37 (Rg.xm (.slice la l.length lc) _ rfl rfl) ?_;go_frame;refine Rg.lr 38 (Rg.exec_buildSlice _ _ _ rfl (.slice la l.length lc) rfl (run_build1L wr _ ⟨_, _, _, rfl⟩)) ?_;go_frame;obtain ⟨v9, W9, r1, r2, r3⟩ := HS3.out.push slIntss (by omega) 29;refine Rg.lr 39 (Rg.exec_append _ _ _ rfl rfl rfl r1) ?_;go_frame;refine Rg.lr 6 (Rg.xa (v9) _ rfl rfl) ?_;go_frame;have HS4 := ι (show Obst 29 22 w1.heap.size w1.heap.size 118 64 W9 v9 (obsI gs D (k + 1)) (.slice none 0 0) [] (sn (obsI gs D (k + 1))) by rw [HE.out]; exact r2.reset);have K4 := ι (r3 (Nat.le_refl _) K.out);clear r1 r2 r3 HS3 K hg0;have hg0 := (G0.out.below K4.out).c0;go_wp2
       go_roundw
       case rel => exact ⟨k + 1, by omega, by go_num, HS4, K4⟩
       case measure => simp [intOf]; omega
   ·obtain rfl : k = D := by omega
    have HR := ι (HS.out.rows (by have := obsI_len gs k k; omega));clear HS;go_wp2
    go_ret2
    exact ⟨_, rfl, HR.out, Rg.acc K0.out K.out⟩
 ·rw [orbsS_bad hz]
  obtain ⟨e0, he0⟩ : ∃ e0, Hid (e0 = Ma.gchk d ll) := ⟨_, ι rfl⟩;rw [← he0.out] at HCK hz ⊢;obtain ⟨ga, gc, rfl, hga, hba⟩ := GI.enter (d) h;have K := ι hba;have G0 := ι hga;clear h hga hba
  go_enter Try.func44, Try.ntmps44
  go_upto_region 1 with (fail);generalize w.alloc (.cells #[.int .i64 (d), .slice ga ll.length gc] 26) = w0 at *;refine wp_region_list ?_;refine Rg.lr 11 (Rg.exec_load (v := .agg #[.int .i64 d, .slice ga ll.length gc]) _ _ rfl ⟨w.heap.size, 0, none⟩ rfl (run_loadG G0.out.c0 G0.out.c1)) ?_;go_frame;refine list_ask (some 12) rfl rfl _ _ (exec_fn1 48 _ _ rfl rfl (clChk _ _)) ?_;refine (HCK.out _ _ G0.out.rows).mono ?_;rintro e1 w1 ⟨rfl, hb⟩;refine ⟨_, rfl, ?_⟩;go_frame;replace G0 := ι (G0.out.below hb);replace K := ι (Rg.acc K.out hb);clear hb;refine Rg.lr 4 (Rg.xa (.int .i64 e0) _ rfl rfl) ?_;go_frame;go_wp2
  go_ret2
  exact ⟨_, rfl, rowsNone _, K.out⟩

theorem RowsF.grown {B b : Nat} {w W : World} {v : Value} {ll : List (List Int)} (h : RowsF B w v ll) (hg : w.grownBy W (some b)) (hb : b < B) : RowsF B W v ll :=
 h.keep hg.size fun b2 o h1 h2 => World.cell?_of_block (a := ⟨b2, o, none⟩) (hg.block b2 h2 (fun e => by simp at e; omega))
end Go.Proofs.Ytcfomoknlchemaa

namespace Go.Proofs.Ytcfomoknlchemaa
open Go.RowKit
open Go.Proofs
theorem FElts.snoc {F : Nat → Prop} {w : World} {us : List Value} {ll : List (List Int)} {u : Value} {l : List Int} (h : Rg.FElts F w us ll) (hu : Rg.FI F w u l) : Rg.FElts F w (us ++ [u]) (ll ++ [l]) := by
 refine ⟨by simp [h.1], fun i a b => ?_⟩
 by_cases e : i < us.length
 ·have e2 : i < ll.length := by rw [← h.1]; exact e
  rw [List.getElem_append_left e, List.getElem_append_left e2];exact h.2 i e e2
 ·have e1 : i = us.length := by simp at a; omega
  subst e1;have hl := h.1;simp [hl];exact hu
end Go.Proofs.Ytcfomoknlchemaa

namespace Go.Proofs.Ytcfomoknlchemaa
open Go.RowKit
open Go.Proofs
attribute [local irreducible] Go.Calls
def lg (ll : List (List Int)) : Bool := (ll.take 21).any (fun l => decide (70 < l.length)) || decide (20 < ll.length)
end Go.Proofs.Ytcfomoknlchemaa

namespace Go.Proofs.Ytcfomoknlchemaa
open Go.RowKit
open Go.Proofs
open Go.Proofs.Ob
attribute [local irreducible] Go.Calls
theorem SameLists_q (v1 v2 : Value) (l1 l2 : List (List Int)) (w : World) (h1 : Rg.Rows w v1 l1) (h2 : Rg.Rows w v2 l2) :
  Calls Try.prog 41 #[v1, v2] w fun e w' => e = .returned (.bool (decide (l1 = l2))) ∧ ∃ k, w' = w.drewN k := by
 obtain ⟨a1, c1, rfl, n1, m1, _, k1⟩ := h1.shape;obtain ⟨a2, c2, rfl, n2, m2, _, k2⟩ := h2.shape;clear h1 h2;have K1 := ι k1;have K2 := ι k2;clear k1 k2;generalize hD : decide (l1 = l2) = D;have HD := ι hD;clear hD
 by_cases hl : l1.length = l2.length
 ·have hb : ((l1.length : Int) != (l2.length : Int)) = false := by rw [hl]; simp
  have Hl := ι hl;clear hl
  go_enter Try.func41, Try.ntmps41
  go_wp2;clear hb
  go_loopw [5] (fun v wr => ∃ i : Nat, v = .int .i64 i ∧ i ≤ l1.length ∧ Hid (∃ k, wr = w.drewN k) ∧ Hid (l1.take i = l2.take i)) (fun v _ => l1.length - (intOf v).toNat)
  case atStart => exact ⟨0, rfl, by omega, ⟨0, rfl⟩, by show _ = _; simp⟩
  case round =>
   obtain ⟨i, rfl, hi, hw, hs⟩ := hrel
   by_cases hlt : i < l1.length
   ·have hi2 : i < l2.length := by have := Hl.out; omega
    obtain ⟨b1, o1, rfl, hb1, d1⟩ := K1.out (by omega);obtain ⟨b2, o2, rfl, hb2, d2⟩ := K2.out (by omega);obtain ⟨u1, y1, hu1⟩ := d1 i hlt;obtain ⟨u2, y2, hu2⟩ := d2 i hi2
    have x1 : wr.cell? ⟨b1, o1 + i, none⟩ = some u1 := by obtain ⟨k, e⟩ := hw.out; rw [e]; exact y1
    have x2 : wr.cell? ⟨b2, o2 + i, none⟩ = some u2 := by obtain ⟨k, e⟩ := hw.out; rw [e]; exact y2
    have hlt2 : (i : Int) < (l2.length : Int) := by omega
    generalize hx : l1[i] = x at hu1;generalize hy : l2[i] = y at hu2;have Hx := ι hx;have Hy := ι hy;clear d1 d2 hx hy y1 y2;have hq : ∀ n, _ := fun n => Same_q u1 u2 x y (wr.drewN n) (by obtain ⟨k, e⟩ := hw.out; rw [e]; exact hu1) (by obtain ⟨k, e⟩ := hw.out; rw [e]; exact hu2)
    by_cases he : x = y
    ·have hdd : decide (x = y) = true := decide_eq_true he
     have He := ι he;rw [hdd] at hq;have Hq := ι hq;clear he hdd hq;go_wp2
     go_quiet ((go_at_call 42; exact Calls.quiet_of (Hq.out _)))
     go_wp2
     go_roundw
     case rel => exact ⟨i + 1, by go_num, by omega, by obtain ⟨k, e⟩ := hw.out; rw [e]; exact ⟨_, World.drewN_drewN _ _ _⟩, by show _ = _; rw [List.take_succ_eq_append_getElem hlt, List.take_succ_eq_append_getElem hi2, hs.out, Hx.out, Hy.out, He.out]⟩
     case measure => simp [intOf]; omega
    ·have hdd : decide (x = y) = false := decide_eq_false he
     have He := ι he;rw [hdd] at hq;have Hq := ι hq;clear he hdd hq;go_wp2
     go_quiet ((go_at_call 42; exact Calls.quiet_of (Hq.out _)))
     go_wp2;go_ret;exact ⟨Rg.ret_bool (by rw [← HD.out]; symm; rw [decide_eq_false_iff_not]; intro hc; subst hc; exact He.out (Hx.out.symm.trans Hy.out)), by obtain ⟨k, e⟩ := hw.out; rw [e]; exact ⟨_, World.drewN_drewN _ _ _⟩⟩
   ·go_wp2
    go_ret;refine ⟨Rg.ret_bool ?_, hw.out⟩;rw [← HD.out]; symm;rw [decide_eq_true_eq];have h1 := hs.out
    rwa [List.take_of_length_le (by omega), List.take_of_length_le (by have := Hl.out; omega)] at h1
 ·have hb : ((l1.length : Int) != (l2.length : Int)) = true := by rw [bne_iff_ne]; omega
  have Hl := ι hl;clear hl
  go_enter Try.func41, Try.ntmps41
  go_wp2;go_ret;exact ⟨Rg.ret_bool (by rw [← HD.out]; symm; rw [decide_eq_false_iff_not]; intro hc; subst hc; exact Hl.out rfl), 0, rfl⟩
theorem SameLists_b {v1 v2 : Value} {l1 l2 : List (List Int)} {w : World} {b : Bool} (h1 : Rg.Rows w v1 l1) (h2 : Rg.Rows w v2 l2) (hd : Hid (decide (l1 = l2) = b)) :
  Calls Try.prog 41 #[v1, v2] w fun e w' => e = .returned (.bool b) ∧ Below w.heap.size w w' := by
 refine (SameLists_q v1 v2 l1 l2 w h1 h2).mono ?_;rintro e w' ⟨rfl, k, rfl⟩;exact ⟨by rw [hd.out], Rg.drewN (Below.refl _ _) k⟩
theorem GI.fresh {w : World} {d : Int} {a : Option Addr} {ll : List (List Int)} {c : Nat} (h : Rg.Rows w (.slice a ll.length c) ll) :
  ∃ W, (storeVar 26 ⟨w.heap.size, 0, none⟩ (.agg #[.int .i64 d, .slice a ll.length c])).run Try.prog (w.alloc (.cells #[.int .i64 0, .slice none 0 0] 26)) = .ok () W ∧ GI W w.heap.size d a ll c ∧ Below w.heap.size w W := by
 have n0 : (w.alloc (.cells #[.int .i64 0, .slice none 0 0] 26)).cell? ⟨w.heap.size, 0, none⟩ = some (.int .i64 0) := by rw [Rg.cellNew]; rfl
 have n1 : (w.alloc (.cells #[.int .i64 0, .slice none 0 0] 26)).cell? ⟨w.heap.size, 1, none⟩ = some (.slice none 0 0) := by rw [Rg.cellNew]; rfl
 obtain ⟨p0, p1, p2⟩ := group_set (.int .i64 d) (.slice a ll.length c) n0 n1 ((Below.refl w.heap.size w).alloc (Nat.le_refl _) _) (Nat.le_refl _);exact ⟨_, run_storeG _ a _ c n0 n1 (frozenNewN _ _ _ 0 _) (frozenNewN _ _ _ 0 _), ⟨p0, p1, Rg.Rows.below h p2, by simp⟩, p2⟩
end Go.Proofs.Ytcfomoknlchemaa

namespace Go.Proofs.Ytcfomoknlchemaa
open Go.Proofs
open Go.Proofs.Cm (Gd)
theorem nodup_le {α : Type} [DecidableEq α] : ∀ {l m : List α}, l.Nodup → (∀ x ∈ l, x ∈ m) → l.length ≤ m.length
 | [], _, _, _ => Nat.zero_le _
 | a :: l, m, nd, h => by
  have ha := h a (List.mem_cons_self ..);have h1 := nodup_le (l := l) (m := m.erase a) (List.nodup_cons.1 nd).2 (fun x hx => (List.mem_erase_of_ne (fun e : x = a => (List.nodup_cons.1 nd).1 (by rw [← e]; exact hx))).2 (h x (List.mem_cons_of_mem _ hx)));rw [List.length_erase_of_mem ha] at h1;have h2 := List.length_pos_of_mem ha;simp only [List.length_cons]; omega
end Go.Proofs.Ytcfomoknlchemaa

namespace Go.Proofs.RF
open Go Go.RowKit
def Dfr (D : Nat) (W : World) : Prop := W.heap[D]? = some (.deferred (some []))
theorem Dfr.size {D : Nat} {W : World} (h : Dfr D W) : D < W.heap.size := (Array.getElem?_eq_some_iff.1 h).1
theorem Dfr.alloc {D : Nat} {W : World} (h : Dfr D W) (o : Obj) : Dfr D (W.alloc o) := (Below.heap_alloc W o D h.size).trans h
theorem Dfr.drew {D : Nat} {W : World} (h : Dfr D W) : Dfr D W.drew := h
theorem Dfr.setCell {D : Nat} {W : World} (h : Dfr D W) (a : Addr) (v : Value) : Dfr D (W.setCell a v) :=
 (KeepsOthers.setCell W a v).same D _ h rfl
theorem Dfr.cell {D : Nat} {o : Option (List Deferred)} {W : World} (h : Dfr D W) (a : Addr) : (W.putObj D (.deferred o)).cell? a = W.cell? a := by
 unfold World.cell?
 by_cases e : a.block = D
 ·rw [e, World.putObj_heap_same h.size, show W.heap[D]? = _ from h]
 ·rw [World.putObj_heap_other e]
theorem Dfr.frozen {D : Nat} {o : Option (List Deferred)} {W : World} (h : Dfr D W) (a : Addr) : (W.putObj D (.deferred o)).frozen? a = W.frozen? a := by
 unfold World.frozen?
 by_cases e : a.block = D
 ·rw [e, World.putObj_heap_same h.size, show W.heap[D]? = _ from h]
 ·rw [World.putObj_heap_other e]
def mark (D : Nat) : Deferred := { target := .collected D, args := #[] }
theorem leaves {n : Nat} {P : Program} {fn : Func} {tmps : Array Value} {R : Ending → World → Prop} (B : Nat) : ∀ (ds : List Nat) (W : World), ds.Nodup → (∀ D, D ∈ ds → Dfr D W ∧ B ≤ D) →
  (∀ W', Below B W W' → (∀ a, W'.cell? a = W.cell? a) → (∀ a, W'.frozen? a = W.frozen? a) → ∃ v, (results fn tmps).run P W' = .ok v W' ∧ R (.returned v) W') →
  LeavesInM Fence.wide n P fn tmps R (ds.map mark) .returning W
 | [], W, _, _, h => h W (Below.refl _ _) (fun _ => rfl) (fun _ => rfl)
 | D :: ds, W, hn, hD, h => by
  rw [List.nodup_cons] at hn;obtain ⟨hd, hB⟩ := hD D (by simp);have hb : Below B W (W.putObj D (.deferred none)) := ⟨rfl, rfl, rfl, by simp, fun k hk => World.putObj_heap_other (by omega)⟩;refine ⟨by simp, .inl ⟨D, _, rfl, run_takeDeferred hd, leaves B ds _ hn.2 (fun D' hD' => ?_) (fun W' h1 h2 h3 => ?_)⟩⟩
  ·refine ⟨(World.putObj_heap_other ?_).trans (hD D' (by simp [hD'])).1, (hD D' (by simp [hD'])).2⟩
   intro e; exact hn.1 (e ▸ hD')
  ·exact h W' (hb.trans h1) (fun a => (h2 a).trans (hd.cell a)) (fun a => (h3 a).trans (hd.frozen a))
end Go.Proofs.RF
namespace Go.Proofs.Ytcfomoknlchemaa
open Go.RowKit
open Go.Proofs
open Go.Shelf
attribute [local irreducible] Go.Calls Go.wpList
end Go.Proofs.Ytcfomoknlchemaa

namespace Go.Proofs.Ytcfomoknlchemaa
open Go.RowKit
open Go.Proofs
open Go.Proofs.Ob
open Go.Shelf
open Go.Proofs.Cm (Lv Twr)
attribute [local go_sem] Oper.semAt_some
attribute [local irreducible] Go.Calls Go.wpList Go.wpListIn
structure CW (w : World) (b : Nat) (v : Value) : Prop where
 c : w.cell? ⟨b, 0, none⟩ = some v
 f : w.frozen? ⟨b, 0, none⟩ = false
 lt : b < w.heap.size
theorem CW.below {w w' : World} {b : Nat} {v : Value} (h : CW w b v) (hb : Below w.heap.size w w') : CW w' b v := ⟨(hb.cell (p := ⟨b, 0, none⟩) h.lt).trans h.c, (hb.frozen (p := ⟨b, 0, none⟩) h.lt).trans h.f, Nat.lt_of_lt_of_le h.lt hb.size⟩
theorem CW.new (w : World) (v : Value) (t : TypeId) : CW (w.alloc (.cells #[v] t)) w.heap.size v := ⟨by rw [Rg.cellNew]; rfl, frozenNewN _ _ _ 0 _, by simp⟩
theorem CW.set {w : World} {b : Nat} {u : Value} (h : CW w b u) (v : Value) : CW (w.setCell ⟨b, 0, none⟩ v) b v := ⟨World.cell?_setCell_same (h := h.c) .., by rw [World.frozen?_setCell]; exact h.f, by simpa using h.lt⟩
theorem CW.kp {M : Nat → Prop} {w w' : World} {b : Nat} {v : Value} (h : CW w b v) (hk : Rg.Kp M w w') (hM : ¬ M b) : CW w' b v :=
 ⟨(World.cell?_of_block (a := ⟨b, 0, none⟩) (hk.block b h.lt hM)).trans h.c, (World.frozen?_of_block (a := ⟨b, 0, none⟩) (hk.block b h.lt hM)).trans h.f, Nat.lt_of_lt_of_le h.lt hk.size⟩
end Go.Proofs.Ytcfomoknlchemaa

namespace Go.Proofs.Ytcfomoknlchemaa
open Go.RowKit
open Go.Proofs
open Go.Proofs.Ob
attribute [local irreducible] Go.Calls Go.wpList
theorem RowsB.low {B : Nat} {w w' : World} {v : Value} {ll : List (List Int)} (h : Rg.RowsB B w v ll) (hb : Below w.heap.size w w') : Rg.RowsB B w' v ll := h.below hb
def bg (d : Int) (ll : List (List Int)) : Bool := lg ll || (decide (12 < d) && decide (d ≤ 64))
end Go.Proofs.Ytcfomoknlchemaa

namespace Go.Proofs.Ytcfomoknlchemaa
open Go.RowKit
open Go.Proofs
theorem CW.up {w w' : World} {b : Nat} {v : Value} (h : CW w b v) (hb : Below w.heap.size w w') : CW w' b v := h.below hb
end Go.Proofs.Ytcfomoknlchemaa

set_option linter.unusedVariables false
namespace Go.Proofs.Ytcfomoknlchemaa
open Go.RowKit
open Go.Proofs
open Go.Proofs.Ob
open Go.Shelf
attribute [local irreducible] Go.Calls Go.wpList
theorem exec_nilFi {o : Oper} {a : Act} {w : World} {ad : Addr} {n c : Nat} (x y : Operand) (ho : o.op = .binOp .eql 22 x y 22) (hx : a.eval x = .slice (some ad) n c) (hy : a.eval y = .slice none 0 0) : (execOp a.eval o).run Try.prog w = .ok (.value (.bool false)) w := by
 have h1 : (binOp .eql 22 (.slice (some ad) n c) (.slice none 0 0)).run Try.prog w = .ok (.bool false) w := by kernel_rfl
 have hg : (eqGuard .eql 22 x y (.slice (some ad) n c) (.slice none 0 0)).run Try.prog w = .ok () w := by
  simp [eqGuard]
 unfold execOp;simp only [ho, hx, hy, Sem.run_bind, Sem.run_pure, hg, h1, Result.andThen_ok]
theorem CloneI_any (v : Value) (l : List Int) (w : World) (h : Rg.Ints w v l) (h1 : 1 ≤ l.length) (hl : l.length ≤ 1000000) :
  Calls Try.prog 117 #[v] w fun e w' => ∃ v', e = .returned v' ∧ w'.ownsRow w.heap.size 3 1 v' l.length (l.map (Value.int .i64)) ∧ Below w.heap.size w w' := by
 obtain ⟨la, lc, rfl, _, _, _, hs⟩ := h.shape;obtain ⟨b, o, rfl, _⟩ := hs (by omega);have HI := ι h;have K := ι (Below.refl w.heap.size w);clear h hs
 go_enter Try.func117, Try.ntmps117
 go_upto_region 1 with (fail);refine wp_region_list ?_;refine Rg.lr 3 (Rg.xm (.slice (some ⟨b, o, none⟩) l.length lc) _ rfl rfl) ?_;go_frame;refine Rg.lr 4 (exec_nilFi _ _ rfl rfl rfl) ?_;go_frame;go_upto_region 3 with (fail);refine wp_region_list ?_;have hnew := Own0.new (B := w.heap.size) w (Nat.le_refl _);refine Rg.lr 5 (Rg.exec_build0 slInts rfl w) ?_;go_frame;have hb := (Below.refl w.heap.size w).alloc (Nat.le_refl _) (.cells #[] 3);generalize w.alloc (.cells #[] 3) = w1 at *;replace HI := ι (HI.out.below hb);replace K := ι (Rg.acc K.out hb);clear hb;have FO := ι hnew;refine Rg.lr 6 (Rg.xm (.slice (some ⟨b, o, none⟩) l.length lc) _ rfl rfl) ?_;go_frame;obtain ⟨v5, X5, r1, r2, r3⟩ := Rg.appL_run (P := Try.prog) slInts 22 FO.out.1 K.out.size HI.out ints_cells (by rw [List.length_map]; omega);refine Rg.lr 7 (Rg.exec_append _ _ _ rfl rfl rfl r1) ?_;go_frame;refine Rg.lr 2 (Rg.xa (v5) _ rfl rfl) ?_;go_frame
 rw [List.length_map, Nat.zero_add, List.nil_append] at r2;have R2 := ι r2;have K5 := ι (K.out.grown r3 K.out.size (fun j hj => (FO.out.1.lt j hj).1));clear r1 r2 r3 FO;go_wp2;go_ret;exact ⟨_, rfl, R2.out, K5.out⟩
end Go.Proofs.Ytcfomoknlchemaa

namespace Go.Proofs.Ytcfomoknlchemaa
open Go.RowKit
open Go.Proofs
attribute [local irreducible] Go.Calls Go.wpStill
def lessL : List Int → List Int → Bool
 | [], [] => false
 | [], _ :: _ => true
 | _ :: _, [] => false
 | x :: a, y :: b => if x = y then lessL a b else decide (x < y)
theorem lessL_irr : ∀ a : List Int, lessL a a = false
 | [] => rfl
 | x :: a => by rw [lessL, if_pos rfl]; exact lessL_irr a
theorem lessL_trans : ∀ {a b c : List Int}, lessL a b = true → lessL b c = true → lessL a c = true
 | [], [], _, h, _ => by simp [lessL] at h
 | [], _ :: _, [], _, h => by simp [lessL] at h
 | [], _ :: _, _ :: _, _, _ => rfl
 | _ :: _, [], _, h, _ => by simp [lessL] at h
 | _ :: _, _ :: _, [], _, h => by simp [lessL] at h
 | x :: a, y :: b, z :: c, h, h' => by
  rw [lessL] at h h' ⊢
  by_cases e1 : x = y
  ·rw [if_pos e1] at h
   by_cases e2 : y = z
   ·rw [if_pos e2] at h'; rw [if_pos (e1.trans e2)]; exact lessL_trans h h'
   ·rw [if_neg e2] at h'; rw [if_neg (by omega)]; simp at h' ⊢; omega
  ·rw [if_neg e1] at h
   by_cases e2 : y = z
   ·rw [if_neg (by omega)]; simp at h ⊢; omega
   ·rw [if_neg e2] at h'; simp at h h'; rw [if_neg (by omega)]; simp; omega
theorem lessL_total : ∀ {a b : List Int}, lessL a b = false → a ≠ b → lessL b a = true
 | [], [], _, h => absurd rfl h
 | [], _ :: _, h, _ => by simp [lessL] at h
 | _ :: _, [], _, _ => rfl
 | x :: a, y :: b, h, hn => by
  rw [lessL] at h ⊢
  by_cases e : x = y
  ·rw [if_pos e] at h; rw [if_pos e.symm]
   exact lessL_total h (fun e2 => hn (by rw [e, e2]))
  ·rw [if_neg e] at h; rw [if_neg (by omega)]; simp at h ⊢; omega
end Go.Proofs.Ytcfomoknlchemaa

namespace Go.Proofs.Ytcfomoknlchemaa
open Go.RowKit
open Go.Proofs
attribute [local irreducible] Go.Calls Go.wpList
def cmpI (x y : Int) : Int := if x < y then -1 else if y < x then 1 else 0
def cmpL : List Int → List Int → Int
 | [], [] => 0
 | [], _ :: _ => -1
 | _ :: _, [] => 1
 | x :: a, y :: b => if cmpI x y = 0 then cmpL a b else cmpI x y
theorem cmpL_lt : ∀ (a b : List Int), decide (cmpL a b < 0) = lessL a b
 | [], [] => rfl
 | [], _ :: _ => rfl
 | _ :: _, [] => rfl
 | x :: a, y :: b => by
  unfold cmpL lessL cmpI
  by_cases h1 : x = y
  ·subst h1
   simp only [Int.lt_irrefl, if_false, if_true];exact cmpL_lt a b
  ·by_cases h2 : x < y
   ·simp [h1, h2]
   ·have h3 : y < x := by omega
    simp [h1, h2, h3]
theorem cmpL_drop {a b : List Int} {k : Nat} (ha : k < a.length) (hb : k < b.length) : cmpL (a.drop k) (b.drop k) = if cmpI a[k] b[k] = 0 then cmpL (a.drop (k + 1)) (b.drop (k + 1)) else cmpI a[k] b[k] := by
 rw [List.drop_eq_getElem_cons ha, List.drop_eq_getElem_cons hb, cmpL]
theorem cmpL_one {a b : List Int} {k : Nat} (ha : k < a.length) (hb : b.length ≤ k) : cmpL (a.drop k) (b.drop k) = 1 := by
 rw [List.drop_eq_getElem_cons ha, List.drop_of_length_le (l := b) hb, cmpL]
theorem cmpL_end {a b : List Int} {k : Nat} (ha : a.length ≤ k) (hb : k ≤ b.length) (hk : k ≤ a.length) : cmpL (a.drop k) (b.drop k) = if a.length < b.length then -1 else 0 := by
 have e : k = a.length := by omega
 subst e;rw [List.drop_of_length_le (l := a) (Nat.le_refl _)]
 by_cases h : a.length < b.length
 ·rw [List.drop_eq_getElem_cons h, if_pos h, cmpL]
 ·rw [List.drop_of_length_le (l := b) (by omega), if_neg h, cmpL]
theorem cmpCmp_any (x y : Int) (w : World) : Calls Try.prog 165 #[.int .i64 x, .int .i64 y] w fun e w' => e = .returned (.int .i64 (cmpI x y)) ∧ w' = w := by
 by_cases h1 : x < y
 ·go_enter Try.func165, Try.ntmps165
  go_wp2;go_ret;exact ⟨by rw [show cmpI x y = -1 by unfold cmpI; rw [if_pos (by omega)]]; rfl, rfl⟩
 ·by_cases h2 : y < x
  ·go_enter Try.func165, Try.ntmps165
   go_wp2;go_ret;exact ⟨by rw [show cmpI x y = 1 by unfold cmpI; rw [if_neg (by omega), if_pos (by omega)]]; rfl, rfl⟩
  ·go_enter Try.func165, Try.ntmps165
   go_wp2;go_ret;exact ⟨by rw [show cmpI x y = 0 by unfold cmpI; rw [if_neg (by omega), if_neg (by omega)]]; rfl, rfl⟩
theorem Compare_any (v1 v2 : Value) (l1 l2 : List Int) (w : World) (h1 : Rg.Ints w v1 l1) (h2 : Rg.Ints w v2 l2) :
  Calls Try.prog 113 #[v1, v2] w fun e w' => e = .returned (.int .i64 (cmpL l1 l2)) ∧ w' = w := by
 obtain ⟨a1, c1, rfl, n1, m1, _, k1⟩ := h1.shape;obtain ⟨a2, c2, rfl, n2, m2, _, k2⟩ := h2.shape;clear h1 h2;have K1 := ι k1;have K2 := ι k2;clear k1 k2
 go_enter Try.func113, Try.ntmps113
 go_wp2
 go_loopw [11] (fun v wr => ∃ i : Nat, v = .int .i64 i ∧ i ≤ l1.length ∧ i ≤ l2.length ∧ Hid (w = wr) ∧ Hid (cmpL (l1.drop i) (l2.drop i) = cmpL l1 l2)) (fun v _ => l1.length - (intOf v).toNat)
 case atStart => exact ⟨0, rfl, by omega, by omega, rfl, rfl⟩
 case round =>
  obtain ⟨i, rfl, hi, hi2, hw, hs⟩ := hrel;have hw2 := hw.out;subst hw2;clear hw
  by_cases hlt : i < l1.length
  ·by_cases hlt2 : i < l2.length
   ·obtain ⟨b1, o1, rfl, hb1, d1⟩ := K1.out (by omega)
    obtain ⟨b2, o2, rfl, hb2, d2⟩ := K2.out (by omega);have x1 := d1 i hlt;have x2 := d2 i hlt2;have hd := cmpL_drop hlt hlt2;generalize l1[i] = x at *;generalize l2[i] = y at *;have Hd := ι hd;have HC := ι (cmpCmp_any x y w);clear d1 d2 hd;obtain ⟨c, hc⟩ : ∃ c, Hid (cmpI x y = c) := ⟨_, ι rfl⟩;rw [hc.out] at HC
    have hge : ¬ (l2.length : Int) ≤ (i : Int) := by omega
    by_cases he : c = 0
    ·subst he
     go_wp2_with (go_at_call 165; refine HC.out.mono ?_; rintro e w' ⟨rfl, rfl⟩)
     go_roundw
     case rel => exact ⟨i + 1, by go_num, by omega, by omega, by first | exact ι rfl | exact ι trivial, ι (by have := hs.out; rw [Hd.out, if_pos hc.out] at this; exact this)⟩
     case measure => simp [intOf]; omega
    ·have HR := ι (show c = cmpL l1 l2 by rw [← hs.out, Hd.out, if_neg (by rw [hc.out]; exact he), hc.out])
     go_wp2_with (go_at_call 165; refine HC.out.mono ?_; rintro e w' ⟨rfl, rfl⟩)
     go_ret;exact ⟨by rw [← HR.out]; rfl, rfl⟩
   ·have hge : (l2.length : Int) ≤ (i : Int) := by omega
    obtain ⟨b1, o1, rfl, hb1, d1⟩ := K1.out (by omega);have x1 := d1 i hlt;generalize l1[i] = x at *;clear d1;go_wp2;go_ret;exact ⟨by rw [← hs.out, cmpL_one hlt (by omega)]; rfl, rfl⟩
  ·have he := cmpL_end (a := l1) (b := l2) (k := i) (by omega) hi2 hi
   have HE := ι (he.symm.trans hs.out);clear he
   by_cases hl : l1.length < l2.length
   ·have hlN : (l1.length : Int) < (l2.length : Int) := by omega
    go_wp2;go_ret;exact ⟨by rw [← HE.out, if_pos (by omega)]; rfl, rfl⟩
   ·have hlN : ¬ (l1.length : Int) < (l2.length : Int) := by omega
    go_wp2;go_ret;exact ⟨by rw [← HE.out, if_neg (by omega)]; rfl, rfl⟩
end Go.Proofs.Ytcfomoknlchemaa

namespace Go.Proofs.Ytcfomoknlchemaa
open Go.RowKit
open Go.Proofs
open Go.Proofs.Ob
open Go.Proofs.Cm (Gd)
attribute [local irreducible] Go.Calls Go.wpList
theorem ofN_back (l : List Nat) : (Ma.ofN l).map Int.toNat = l := by
 unfold Ma.ofN;rw [List.map_map];exact List.map_id'' (fun _ => rfl) l
theorem ofN_inj' {a b : List Nat} (h : Ma.ofN a = Ma.ofN b) : a = b := by rw [← ofN_back a, h, ofN_back]
end Go.Proofs.Ytcfomoknlchemaa

namespace Go.Proofs.Ytcfomoknlchemaa
open Go.RowKit
open Go.Proofs
open Go.Proofs.Cm (Gd)
attribute [local irreducible] Go.Calls Go.wpList
theorem kp_below {B : Nat} {M : Nat → Prop} {W0 W X : World} (hb : Below B W0 W) (hB : B ≤ W.heap.size) (hk : Rg.Kp M W X) (hM : ∀ k, M k → B ≤ k) : Below B W0 X :=
 hb.trans ⟨hk.os, hk.tape, hk.output, hk.size, fun k h => hk.block k (Nat.lt_of_lt_of_le h hB) fun e => Nat.lt_irrefl _ (Nat.lt_of_lt_of_le h (hM k e))⟩
end Go.Proofs.Ytcfomoknlchemaa

namespace Go.Proofs.Ytcfomoknlchemaa
open Go.RowKit
open Go.Proofs
open Go.Proofs.Ob
attribute [local irreducible] Go.Calls Go.wpList
structure RowJ (B : Nat) (F M : Nat → Prop) (W : World) (v : Value) (l : List (List Int)) : Prop where
 size : B ≤ W.heap.size
 own : ∃ us, W.ownsRow B 22 1 v l.length us ∧ Rg.FElts F W us l
 off : ∀ k, v.ownBlock = some k → ¬ F k ∧ ¬ M k
theorem RowJ.lt {B : Nat} {F M : Nat → Prop} {W : World} {v : Value} {l : List (List Int)} (h : RowJ B F M W v l) : ∀ k, v.ownBlock = some k → B ≤ k ∧ k < W.heap.size := fun k e => by
 obtain ⟨us, h1, h2⟩ := h.own;exact h1.lt k e
theorem RowJ.shape {B : Nat} {F M : Nat → Prop} {W : World} {v : Value} {l : List (List Int)} (h : RowJ B F M W v l) : ∃ a c, v = .slice a l.length c := by
 obtain ⟨us, h1, h2⟩ := h.own;exact Rg.row_shape h1
theorem RowJ.nil (B : Nat) (F M : Nat → Prop) (W : World) (hB : B ≤ W.heap.size) : RowJ B F M W (.slice none 0 0) [] :=
 ⟨hB, ⟨[], World.ownsRow_nil _ _ _ _, Rg.FElts.nil _ _⟩, fun k e => by simp [Value.ownBlock] at e⟩
theorem RowJ.rows {B : Nat} {F M : Nat → Prop} {W : World} {v : Value} {l : List (List Int)} (h : RowJ B F M W v l) (hl : l.length ≤ 1000000000) : Rg.Rows W v l := by
 obtain ⟨us, h1, h2⟩ := h.own;exact Rg.Rows.of_row h1 hl h2.1 (fun i a b => (h2.2 i a b).ints)
theorem RowJ.kp {B : Nat} {F M N : Nat → Prop} {W W' : World} {v : Value} {l : List (List Int)} (h : RowJ B F M W v l) (hk : Rg.Kp N W W') (hF : ∀ k, F k → ¬ N k) (hN : ∀ k, v.ownBlock = some k → ¬ N k) : RowJ B F M W' v l := by
 obtain ⟨us, h1, h2⟩ := h.own;exact ⟨Nat.le_trans h.size hk.size, ⟨us, rowKp h1 hk (fun k hn e => hN k e hn), h2.kp hk hF⟩, h.off⟩
theorem RowJ.upk {B : Nat} {F M N : Nat → Prop} {W W' : World} {v : Value} {l : List (List Int)} (h : RowJ B F M W v l) (hk : Rg.Kp N W W') (hF : ∀ k, F k → ¬ N k) (hN : ∀ k, N k → M k) : RowJ B (Fup F W W') M W' v l := by
 obtain ⟨us, h1, h2⟩ := h.own;refine ⟨Nat.le_trans h.size hk.size, ⟨us, rowKp h1 hk (fun k hn e => (h.off k e).2 (hN k hn)), (h2.kp hk hF).mono fun k => .inl⟩, fun k e => ⟨fun g => ?_, (h.off k e).2⟩⟩;have := (h.lt k e).2
 rcases g with g | g
 ·exact (h.off k e).1 g
 ·omega
theorem RowJ.push {B : Nat} {F M : Nat → Prop} {W : World} {v : Value} {l : List (List Int)} (h : RowJ B F M W v l) {u : Value} {x : List Int} (hu : Rg.FI F W u x) (hs : ∃ a m c, u = .slice a m c) (hF : ∀ k, F k → k < W.heap.size) (hM : ∀ k, M k → k < W.heap.size) (hn : l.length < 1000000) (ty : TypeId) :
  ∃ a c X, (Builtin.append_ #[29, 29] ty #[v, .slice (some ⟨W.heap.size, 0, none⟩) 1 1]).run Try.prog (W.alloc (.cells #[u] 22)) = .ok (.slice a (l.length + 1) c) X ∧ RowJ B F M X (.slice a (l.length + 1) c) (l ++ [x]) ∧ Rg.Kp (fun k => v.ownBlock = some k) W X := by
 obtain ⟨us, h1, h2⟩ := h.own;obtain ⟨a0, m0, c0, rfl⟩ := hs;have hb : Below W.heap.size W (W.alloc (.cells #[.slice a0 m0 c0] 22)) := (Below.refl _ _).alloc (Nat.le_refl _) _;obtain ⟨v', X, r1, r2, r3, r4, a, c, rfl⟩ := app_run (P := Try.prog) slIntss ty (Rg.row_below h1 hb) (Nat.le_trans h.size hb.size) W.heap.size 1 (u := .slice a0 m0 c0) (by rw [Rg.cellNew]; rfl) rfl hn;have hk : Rg.Kp (fun k => v.ownBlock = some k) W X := Rg.Kp.trans (M := fun k => v.ownBlock = some k) ((Rg.Kp.of_below hb).weak fun _ => False.elim) (Rg.Kp.of_grown r3 fun _ e => e) (fun _ _ e => e);have hg : ∀ k, F k → ¬ v.ownBlock = some k := fun k g e => (h.off k e).1 g;refine ⟨a, c, X, r1, ⟨Nat.le_trans h.size hk.size, ⟨us ++ [.slice a0 m0 c0], by rw [List.length_append]; exact r2, FElts.snoc (h2.kp hk hg) (Rg.FI.kp hu hk hg)⟩, fun k e => ?_⟩, hk⟩
 rcases r4 with r4 | r4
 ·exact h.off k (by rw [← r4]; exact e)
 ·rw [r4] at e
  injection e with e
  have e2 : (W.alloc (.cells #[.slice a0 m0 c0] 22)).heap.size = W.heap.size + 1 := by simp
  exact ⟨fun g => by have := hF _ g; omega, fun g => by have := hM _ g; omega⟩
theorem RowJ.at {B : Nat} {F M : Nat → Prop} {W : World} {v : Value} {l : List (List Int)} (h : RowJ B F M W v l) {i : Nat} (hi : i < l.length) : ∃ b c u, v = .slice (some ⟨b, 0, none⟩) l.length c ∧ l.length ≤ c ∧ b < W.heap.size ∧ W.cell? ⟨b, i, none⟩ = some u ∧ Rg.FI F W u l[i] := by
 obtain ⟨us, h1, h2⟩ := h.own;obtain ⟨-, a, c, rfl, h3, h4, h5⟩ := Rg.own_elts h1 h2;obtain ⟨g, rfl, hg, hx⟩ := h5 (by omega);obtain ⟨u, hu1, hu2⟩ := hx i hi;exact ⟨g, c, u, rfl, h3, hg, hu1, hu2⟩
theorem RowJ.one {B : Nat} {F M : Nat → Prop} {W : World} {u : Value} {x : List Int} (hB : B ≤ W.heap.size) (hu : Rg.FI F W u x) (hs : ∃ a m c, u = .slice a m c) (hF : ∀ k, F k → k < W.heap.size) (hM : ∀ k, M k → k < W.heap.size) :
  RowJ B F M (W.alloc (.cells #[u] 22)) (.slice (some ⟨W.heap.size, 0, none⟩) 1 1) [x] := by
 have hb : Below W.heap.size W (W.alloc (.cells #[u] 22)) := (Below.refl _ _).alloc (Nat.le_refl _) _;refine ⟨Nat.le_trans hB hb.size, ⟨[u], ⟨rfl, .inr ⟨W.heap.size, 1, #[u], rfl, hB, by show (W.heap.push _)[W.heap.size]? = _; simp, Nat.le_refl _, by decide, rfl, rfl⟩⟩, ?_⟩, fun k e => ?_⟩
 ·exact Rg.FElts.one (Rg.FI.kp hu (Rg.Kp.of_below hb) (fun _ _ => id))
 ·simp only [Value.ownBlock, Option.some.injEq] at e
  subst e;exact ⟨fun h => Nat.lt_irrefl _ (hF _ h), fun h => Nat.lt_irrefl _ (hM _ h)⟩
end Go.Proofs.Ytcfomoknlchemaa

namespace Go.Proofs.Km
open Go Go.RowKit
open Go.ChangeMaps
structure KT (P : Program) (t k e v : TypeId) (n : Nat) (z : Value) : Prop where
 ht : P.underlying t = some (.map k v)
 hk : P.underlying k = some (.array n e)
 he : P.underlying e = some (.int .u8)
 hs : ∀ w, (sizeOf e).run P w = .ok 1 w
 hz : ∀ w, (zeroValue v).run P w = .ok z w
def keyV (l : List UInt8) : Value := .agg (l.map Go.Extern.Stop.cell).toArray
def KMap (w : World) (r : Nat) (m : List (List UInt8 × Value)) : Prop :=
 ∃ es clock, w.heap[r]? = some (.map es clock) ∧ es.toList.map (fun e => (e.key, e.val)) = m.map (fun x => (keyV x.1, x.2))
theorem KMap.lt {w : World} {r : Nat} {m : List (List UInt8 × Value)} (h : KMap w r m) : r < w.heap.size := by
 obtain ⟨es, c, h1, _⟩ := h; exact (Array.getElem?_eq_some_iff.1 h1).1
theorem KMap.of_block {w w' : World} {r : Nat} {m : List (List UInt8 × Value)} (h : KMap w r m) (e : w'.heap[r]? = w.heap[r]?) : KMap w' r m := by
 obtain ⟨es, c, h1, h2⟩ := h; exact ⟨es, c, e.trans h1, h2⟩
theorem KMap.below {w w' : World} {r : Nat} {m : List (List UInt8 × Value)} (h : KMap w r m) (hb : Below w.heap.size w w') : KMap w' r m := h.of_block (hb.block r h.lt)
theorem KMap.grown {w w' : World} {r : Nat} {m : List (List UInt8 × Value)} {k : Option Nat} (h : KMap w r m) (hg : w.grownBy w' k) (hne : some r ≠ k) : KMap w' r m := h.of_block (hg.block r h.lt hne)
theorem KMap.new (w : World) : KMap (w.alloc (.map #[] 0)) w.heap.size [] := ⟨#[], 0, by unfold World.alloc; simp, rfl⟩
def look (m : List (List UInt8 × Value)) (k : List UInt8) : Option Value := (m.find? (fun x => k == x.1)).map (·.2)
section
variable {P : Program} {t k e v : TypeId} {n : Nat} {z : Value}
theorem check_items (T : KT P t k e v n z) (em : Bool) (xs : List UInt8) (hx : xs.length = n) (w : World) : (Instr.checkKey em 10000 k (keyV xs)).run P w = .ok () w := by
 rw [show (10000 : Nat) = 9999 + 1 from rfl, keyV, Instr.checkKey];simp only [Sem.run_bind, run_underlying T.hk, Result.andThen_ok, Std.Legacy.Range.forIn_eq_forIn_range', Std.Legacy.Range.size, Nat.sub_zero, Nat.add_sub_cancel, Nat.div_one]
 have hl : ∀ i ∈ List.range' 0 n 1, i < n := fun i hi => by simpa using (List.mem_range'_1.1 hi).2
 generalize List.range' 0 n 1 = l at hl ⊢
 induction l with
 | nil => simp
 | cons i l ih =>
  have hi : i < n := hl i (by simp)
  have px : (part e (xs.map Go.Extern.Stop.cell).toArray (i * 1)).run P w = .ok (Go.Extern.Stop.cell (xs.getD i 0)) w := by
   simp [part, isAgg, run_underlying T.he, List.getD, List.getElem?_eq_getElem (show i < xs.length by omega)]
  have pc : (Instr.checkKey em 9999 e (Go.Extern.Stop.cell (xs.getD i 0))).run P w = .ok () w := by
   rw [show (9999 : Nat) = 9998 + 1 from rfl, Instr.checkKey];simp [Sem.run_bind, run_underlying T.he, Go.Extern.Stop.cell]
  simp only [List.forIn_cons, Sem.run_bind, T.hs, px, pc, Result.andThen_ok, Sem.run_pure];exact ih fun j hj => hl j (by simp [hj])
theorem ask_items (T : KT P t k e v n z) (w : World) (kb : List UInt8) (hk : kb.length = n) : ∀ (es : List MapEntry) (m : List (List UInt8 × Value)) (i : Nat),
  es.map (fun e => (e.key, e.val)) = m.map (fun x => (keyV x.1, x.2)) → (∀ x ∈ m, x.1.length = n) →
  ∃ r, (Instr.findAsking k (keyV kb) es i).run P w = .ok r w ∧ r.map (·.2) = look m kb
 | [], m, i, h, _ => by
  obtain rfl : m = [] := by cases m; rfl; simp at h
  exact ⟨none, by simp [Instr.findAsking], rfl⟩
 | e0 :: es, m, i, h, hm => by
  cases m with
  | nil => simp at h
  | cons x m =>
   simp only [List.map_cons, List.cons.injEq, Prod.mk.injEq] at h;obtain ⟨⟨h1, h2⟩, h3⟩ := h;have hxl := hm x (by simp)
   have pe : (Op.equal k (keyV kb) e0.key).run P w = .ok (kb == x.1) w := by
    rw [h1, Op.equal, Op.maxDepth, keyV, keyV];exact run_equalIn_bytes w 9998 k e n T.hk T.he T.hs kb x.1 hk hxl
   obtain ⟨r, hr, hr2⟩ := ask_items T w kb hk es m (i + 1) h3 (fun y hy => hm y (by simp [hy]));rw [Instr.findAsking];simp only [Sem.run_bind, pe, Result.andThen_ok]
   cases hq : (kb == x.1)
   ·refine ⟨r, by simpa using hr, ?_⟩
    rw [hr2]; simp [look, hq]
   ·refine ⟨some (i, e0.val), by simp, ?_⟩
    simp [look, hq, h2]
theorem find_items (T : KT P t k e v n z) (w : World) (kb : List UInt8) (hk : kb.length = n) (es : List MapEntry) (m : List (List UInt8 × Value))
  (h : es.map (fun e => (e.key, e.val)) = m.map (fun x => (keyV x.1, x.2))) (hm : ∀ x ∈ m, x.1.length = n) :
  ∃ r, (Instr.findKey k (keyV kb) es).run P w = .ok r w ∧ r.map (·.2) = look m kb := by
 unfold Instr.findKey;simp only [Sem.run_bind, run_underlying T.hk, Result.andThen_ok]
 cases es with
 | nil =>
  obtain rfl : m = [] := by cases m; rfl; simp at h
  exact ⟨none, by simp [Instr.findNow], rfl⟩
 | cons e0 es =>
  have : Instr.findNow (.array n e) (keyV kb) (e0 :: es) 0 = none := by simp [Instr.findNow, Instr.sameNow]
  rw [this];exact ask_items T w kb hk _ m 0 h hm
theorem lookup_no (T : KT P t k e v n z) {w : World} {r : Nat} {m : List (List UInt8 × Value)} (h : KMap w r m) (hm : ∀ x ∈ m, x.1.length = n) (kb : List UInt8) (hk : kb.length = n) :
  (Instr.lookup t (.map (some r)) (keyV kb) false).run P w = .ok ((look m kb).getD z) w := by
 obtain ⟨es, c, h1, h2⟩ := h;obtain ⟨q, hq, hq2⟩ := find_items T w kb hk es.toList m h2 hm
 cases q with
 | none =>
  have : look m kb = none := by rw [← hq2]; rfl
  simp [Instr.lookup, run_underlying T.ht, MapKept.run_getObj_map h1, check_items T _ kb hk, hq, T.hz, Result.andThen, this]
 | some x =>
  have : look m kb = some x.2 := by rw [← hq2]; rfl
  simp [Instr.lookup, run_underlying T.ht, MapKept.run_getObj_map h1, check_items T _ kb hk, hq, Result.andThen, this]
theorem update_new (T : KT P t k e v n z) {w : World} {r : Nat} {m : List (List UInt8 × Value)} (h : KMap w r m) (hm : ∀ x ∈ m, x.1.length = n) (kb : List UInt8) (hk : kb.length = n) (hno : look m kb = none) (val : Value) :
  ∃ w', (Instr.mapUpdate t (.map (some r)) (keyV kb) val).run P w = .ok () w' ∧ KMap w' r (m ++ [(kb, val)]) ∧ w.grownBy w' (some r) := by
 obtain ⟨es, c, h1, h2⟩ := h;obtain ⟨q, hq, hq2⟩ := find_items T w kb hk es.toList m h2 hm;rw [hno] at hq2
 have : q = none := by cases q; rfl; simp at hq2
 subst this;refine ⟨setBlock w r (.map (es.push ⟨keyV kb, val, c⟩) (c + 1)), ?_, ⟨_, _, heap_setBlock_same h1 _, ?_⟩, ⟨rfl, rfl, rfl, by simp [setBlock], fun i _ hi => heap_setBlock_other h1 _ (fun e => hi (by rw [e]))⟩⟩
 ·simp [Instr.mapUpdate, run_underlying T.ht, MapKept.run_getObj_map h1, check_items T _ kb hk, hq, MapKept.run_setObj_map _ h1, Result.andThen, setBlock]
 ·simp [h2]
end
end Go.Proofs.Km

namespace Go.Proofs.Ytcfomoknlchemaa
open Go.RowKit
open Go.Proofs
attribute [local irreducible] Go.Calls
def keyF (p : List Nat) (i : Nat) : Value := .int .u8 ((p.getD i 0 : Nat) : Int)
def keyC (p : List Nat) : Array Value := (Array.range 64).map (keyF p)
theorem size_keyC (p : List Nat) : (keyC p).size = 64 := by simp [keyC]
theorem get_keyC (p : List Nat) (i : Nat) (h : i < 64) : (keyC p)[i]? = some (keyF p i) := by simp [keyC, h]
theorem one_keyC (p : List Nat) : (keyC p).all (·.oneCell') = true := by
 refine Array.all_eq_true_iff_forall_mem.2 (fun v hv => ?_);obtain ⟨i, _, rfl⟩ := Array.mem_map.1 hv;rfl
theorem infoKey : (Try.prog.info? 138).map (·.size) = some 64 := by kernel_rfl
theorem keyRow {w : World} {b : Nat} {p : List Nat} {f : Nat → Value} (h : w.rowIs b 138 64 f) (hf : ∀ i, i < 64 → f i = keyF p i) : w.heap[b]? = some (.cells (keyC p) 138 (0, 0)) := by
 obtain ⟨c, h1, h2, h3⟩ := h
 have : c = keyC p := by
  apply Array.ext_getElem?
  intro i
  by_cases hi : i < 64
  ·rw [get_keyC p i hi, ← hf i hi]; exact h3 i hi
  ·rw [Array.getElem?_eq_none (by omega), Array.getElem?_eq_none (by rw [size_keyC]; omega)]
 rw [← this]; exact h1
theorem packed_any (v : Value) (p : List Nat) (w : World) (h : Rg.NP w v p) (h2 : p.length ≤ 64) (h3 : ∀ x ∈ p, x < 256) :
  Calls Try.prog 144 #[v] w fun e w' => e = .returned (.agg (keyC p)) ∧ Below w.heap.size w w' := by
 obtain ⟨a, cap, rfl, hc, hm, _, hcell⟩ := h.shape;have Hr := ι hcell;clear hcell h
 have hz : ∀ (w1 : World) (cs : Array Value), cs = Array.replicate 64 (.int .u8 0) → (w1.alloc (.cells cs 138)).rowIs w1.heap.size 138 64 (fun j => .int .u8 (if j < 0 then (p.getD j 0 : Nat) else 0)) := by
  rintro w1 cs rfl;have := World.rowIs_alloc w1 (Array.replicate 64 (.int .u8 0)) 138 (fun j => .int .u8 (if j < 0 then (p.getD j 0 : Nat) else 0)) (fun i hi => by simp at hi; simp [hi])
  simpa using this
 have HZ := ι hz;clear hz
 go_enter Try.func144, Try.ntmps144
 go_wp2
 have hzz : w.heap.size + 1 = (w.alloc (.cells (Array.replicate 64 (.int .u8 0)) 138)).heap.size := by simp
 go_loopw [8] (fun i wr => ∃ k : Nat, k ≤ p.length ∧ i = .int .i64 k ∧ Hid (wr.rowIs w.heap.size 138 64 (fun j => .int .u8 (if j < 0 then (p.getD j 0 : Nat) else 0))) ∧ Hid (wr.rowIs (w.heap.size + 1) 138 64 (fun j => .int .u8 (if j < k then (p.getD j 0 : Nat) else 0))) ∧ Hid (Below w.heap.size w wr)) (fun i _ => p.length - (intOf i).toNat)
 case atStart => exact ⟨0, by omega, rfl, (HZ.out _ _ rfl).alloc _, by rw [hzz]; exact HZ.out _ _ rfl, ((Below.refl _ _).alloc (Nat.le_refl _) _).alloc (by simp) _⟩
 case round =>
  obtain ⟨k, hk, rfl, hs0, hs, hbel⟩ := hrel;clear hzz
  by_cases hlt : k < p.length
  ·obtain ⟨b, o, rfl, hb, hr⟩ := Hr.out (by omega)
   have e0 : wr.cell? ⟨b, o + k, none⟩ = some (.int .i64 ((p[k] : Nat) : Int)) := (hbel.out.cell (p := ⟨b, o + k, none⟩) hb).trans (hr k hlt);have hx := h3 _ (List.getElem_mem hlt);have hg := Ma.getD_lt hlt;generalize p[k] = x at e0 hx hg;have Hg := ι hg;clear hg hr;have c1 := hs.out.cell (i := k) (by omega);have f1 := hs.out.frozen k;generalize (Value.int .u8 (if k < k then ((p.getD k 0 : Nat) : Int) else 0)) = u0 at c1;go_wp2
   go_roundw
   case rel =>
    refine ⟨k + 1, by omega, by go_num, hs0.out.setOther (by simp) _, ?_, hbel.out.setCell (by simp) _⟩;refine (hs.out.set k _).congr fun i hi => ?_
    by_cases e : i = k
    ·subst e; rw [if_pos rfl, if_pos (by omega), Hg.out] <;> rfl
    ·rw [if_neg e]
     by_cases e2 : i < k
     ·rw [if_pos e2, if_pos (by omega)]
     ·rw [if_neg e2, if_neg (by omega)]
   case measure => simp [intOf]; omega
  ·obtain rfl : k = p.length := by omega
   have HK := ι (keyRow (p := p) hs.out (fun i hi => by
    unfold keyF
    by_cases e : i < p.length
    ·rw [if_pos e]
    ·rw [if_neg e, List.getD_eq_getElem?_getD, List.getElem?_eq_none (by omega)]; rfl))
   obtain ⟨Z, hZ, hZs, _⟩ := hs0.out;have HZ2 := ι hZ;clear hZ
   go_wp2_with (first | (with_reducible refine wpList_load_row rfl 138 _ rfl (w.heap.size + 1) rfl _ _ _ _ HK.out Try.underlying138 rfl (by rw [size_keyC]; exact infoKey) ?_) | (with_reducible refine wpList_store_row rfl 138 _ _ rfl w.heap.size (keyC p) rfl rfl _ _ HZ2.out (by rw [size_keyC]; exact infoKey) (by rw [size_keyC]; exact hZs) (one_keyC p) ?_))
   exact bodyPost_ret (v := .agg (keyC p)) (results_cell_row rfl _ _ w.heap.size _ (keyC p) _ _ rfl (setRow_heap _ _ _ _ _ _ HZ2.out) Try.underlying138 rfl (by rw [size_keyC]; exact infoKey)) rfl ⟨rfl, below_setRow hbel.out (Nat.le_refl _) _⟩
theorem zeroKey : (Try.prog.info? 138).map (fun i => (i.zero, i.size)) = some (some (.agg (Array.replicate 64 (.int .u8 0))), 64) := by kernel_rfl
theorem exec_allocK {o : Oper} {a : Act} {w : World} (ho : o.op = .alloc 138) : (execOp a.eval o).run Try.prog w = .ok (.value (.pointer (some ⟨w.heap.size, 0, none⟩))) (w.alloc (.cells (Array.replicate 64 (.int .u8 0)) 138)) := by
 have hz := (zero_of_info zeroKey).1 w;unfold execOp;simp only [ho, Instr.alloc, Sem.run_bind, hz, Result.andThen_ok, newVar];simp [newRow, newObj, Sem.run, Value.cells, Result.andThen]
def kb (p : List Nat) : List UInt8 := (List.range 64).map fun i => UInt8.ofNat (p.getD i 0)
theorem len_kb (p : List Nat) : (kb p).length = 64 := by simp [kb]
def GK (d : Nat) (p : List Nat) : Prop := p.length = d ∧ d ≤ 64 ∧ ∀ x ∈ p, x < 256
theorem GK.getD {d : Nat} {p : List Nat} (h : GK d p) (i : Nat) : p.getD i 0 < 256 := by
 by_cases hi : i < p.length
 ·rw [Ma.getD_lt hi]; exact h.2.2 _ (List.getElem_mem hi)
 ·rw [List.getD_eq_getElem?_getD, List.getElem?_eq_none (by omega)]; decide
theorem keyC_kb {d : Nat} {p : List Nat} (h : GK d p) : Value.agg (keyC p) = Km.keyV (kb p) := by
 unfold Km.keyV
 congr 1
 apply Array.ext_getElem?
 intro i
 by_cases hi : i < 64
 ·rw [get_keyC p i hi]
  simp [kb, hi, keyF, Go.Extern.Stop.cell];have := h.getD i;rw [List.getD_eq_getElem?_getD] at this;omega
 ·rw [Array.getElem?_eq_none (by rw [size_keyC]; omega), Array.getElem?_eq_none (by simp [kb]; omega)]
theorem kb_inj {d : Nat} {p q : List Nat} (hp : GK d p) (hq : GK d q) (h : kb p = kb q) : p = q := by
 apply List.ext_getElem (hp.1.trans hq.1.symm)
 intro i h1 h2
 have hi : i < 64 := by have := hp.1; have := hp.2.1; omega
 have e := congrArg (fun l => l[i]?) h;simp only [kb, List.getElem?_map, List.getElem?_range hi, Option.map_some, Option.some.injEq] at e;have e2 := congrArg UInt8.toNat e;have g1 := hp.getD i; have g2 := hq.getD i;simp only [UInt8.toNat_ofNat', Nat.mod_eq_of_lt g1, Nat.mod_eq_of_lt g2] at e2
 rwa [Ma.getD_lt h1, Ma.getD_lt h2] at e2
theorem kb_beq {d : Nat} {p q : List Nat} (hp : GK d p) (hq : GK d q) : (kb p == kb q) = (p == q) := by
 rw [Bool.eq_iff_iff, beq_iff_eq, beq_iff_eq];exact ⟨kb_inj hp hq, fun h => by rw [h]⟩
def KeyAt (w : World) (s : Nat) (k : List Nat) : Prop := w.heap[s]? = some (.cells (keyC k) 138 (0, 0))
theorem KeyAt.range {w : World} {s : Nat} {k : List Nat} (h : KeyAt w s k) : w.rangeAt s 0 (keyC k).toList := fun j v hv => by
 rw [cell_of_row _ _ _ _ _ _ h]; simpa using hv
theorem KeyAt.below {w w' : World} {s : Nat} {k : List Nat} (h : KeyAt w s k) (hb : Below w.heap.size w w') : KeyAt w' s k := (hb.block s (Array.getElem?_eq_some_iff.1 h).1).trans h
theorem KeyAt.lt {w : World} {s : Nat} {k : List Nat} (h : KeyAt w s k) : s < w.heap.size := (Array.getElem?_eq_some_iff.1 h).1
theorem key_new (W : World) (k : List Nat) : ∃ X, (storeVar 138 ⟨W.heap.size, 0, none⟩ (.agg (keyC k))).run Try.prog (W.alloc (.cells (Array.replicate 64 (.int .u8 0)) 138)) = .ok () X ∧ KeyAt X W.heap.size k ∧ Below W.heap.size W X := by
 have h0 : (W.alloc (.cells (Array.replicate 64 (.int .u8 0)) 138)).heap[W.heap.size]? = some (.cells (Array.replicate 64 (.int .u8 0)) 138 (0, 0)) := heap_alloc_last W _;have hr := run_storeVar_row (P := Try.prog) _ W.heap.size 138 138 (Array.replicate 64 (.int .u8 0)) (keyC k) h0 (by rw [size_keyC]; exact infoKey) (by rw [size_keyC]; simp) (one_keyC k);exact ⟨_, hr, setRow_heap _ W.heap.size _ _ _ _ h0, below_setRow ((Below.refl _ _).alloc (Nat.le_refl _) _) (Nat.le_refl _) _⟩
theorem run_loadKey {w : World} {s : Nat} {k : List Nat} (h : KeyAt w s k) : (loadVar 138 ⟨s, 0, none⟩).run Try.prog w = .ok (.agg (keyC k)) w := by
 have := run_loadAt_mid (P := Try.prog) w s 0 138 (keyC k).toList _ h.range Try.underlying138 rfl (by rw [Array.length_toList, size_keyC]; exact infoKey)
 simpa [Instr.loadAt, Instr.sureAddr] using this
theorem kt : Km.KT Try.prog 140 138 5 4 64 (.bool false) :=
 ⟨Try.underlying140, Try.underlying138, Try.underlying5, fun w => by kernel_rfl, fun w => by kernel_rfl⟩
def seenM (T : List (List Nat)) : List (List UInt8 × Value) := T.map fun p => (kb p, .bool true)
theorem len_seenM (T : List (List Nat)) : ∀ x ∈ seenM T, x.1.length = 64 := fun x hx => by
 obtain ⟨y, _, rfl⟩ := List.mem_map.1 hx;exact len_kb _
theorem look_seenM {d : Nat} {p : List Nat} (hp : GK d p) : ∀ {T : List (List Nat)}, (∀ q ∈ T, GK d q) → Km.look (seenM T) (kb p) = if p ∈ T then some (.bool true) else none
 | [], _ => by simp [seenM, Km.look]
 | x :: T, h => by
  have ih := look_seenM hp (T := T) (fun y hy => h y (by simp [hy]));have hx := h x (by simp);unfold Km.look seenM at *;rw [List.map_cons, List.find?_cons];simp only [kb_beq hp hx]
  cases hb : (p == x)
  ·rw [ih]
   have hne : p ≠ x := by simpa using hb
   simp [List.mem_cons, hne]
  ·have he : p = x := by simpa using hb
   simp [he]
end Go.Proofs.Ytcfomoknlchemaa

namespace Go.Proofs.Ytcfomoknlchemaa
open Go.RowKit
open Go.Proofs
open Go.Proofs.Ob
attribute [local irreducible] Go.Calls Go.wpList
theorem Fdcl0 (args : Array Value) (w : World) : (callFunc 89 args).run Try.prog w = .ok (.enter 89 args) w := by kernel_rfl
def mvL (s l : List Nat) : List Nat := l.map fun x => s.getD x 0
theorem len_mvL (s l : List Nat) : (mvL s l).length = l.length := by simp [mvL]
structure InR (W : World) (g m : Nat) (f : Nat → Int) : Prop where
 row : W.rowIs g 3 m (fun i => .int .i64 (f i))
 lt : g < W.heap.size
theorem InR.below {W W' : World} {g m : Nat} {f : Nat → Int} (h : InR W g m f) (hb : Below W.heap.size W W') : InR W' g m f := by
 obtain ⟨c, h1, h2⟩ := h.row;exact ⟨⟨c, (hb.block g h.lt).trans h1, h2⟩, Nat.lt_of_lt_of_le h.lt hb.size⟩
theorem InR.set {W : World} {g m : Nat} {f : Nat → Int} (h : InR W g m f) (i : Nat) (b : Int) : InR (W.setCell ⟨g, i, none⟩ (.int .i64 b)) g m (fun j => if j = i then b else f j) :=
 ⟨(h.row.set i (.int .i64 b)).congr (fun j _ => by by_cases e : j = i <;> simp [e]), by simpa using h.lt⟩
theorem InR.blk {W : World} {g m : Nat} {f : Nat → Int} {l : List Int} (h : InR W g m f) (hl : l.length = m) (e : ∀ i (hi : i < l.length), f i = l[i]) : W.heap[g]? = some (.cells (l.map (Value.int .i64)).toArray 3 (0, 0)) := by
 obtain ⟨c, h1, h2, h3⟩ := h.row
 have : c = (l.map (Value.int .i64)).toArray := by
  apply Array.ext_getElem?
  intro i
  by_cases hi : i < m
  ·rw [h3 i hi]
   show some (Value.int .i64 (f i)) = _;rw [e i (by omega)];simp [List.getElem?_eq_getElem (show i < l.length by omega)]
  ·rw [Array.getElem?_eq_none (by omega), Array.getElem?_eq_none (by simp; omega)]
 rw [h1, this]
theorem mkInts (n : Nat) (hn : n ≤ 1000000) (w : World) : (Instr.makeSlice 22 (.int .i64 (n : Int)) (.int .i64 (n : Int))).run Try.prog w = .ok (.slice (some ⟨w.heap.size, 0, none⟩) n n) (w.alloc (.cells (madeCells #[.int .i64 0] n) 3)) :=
 run_make_row' 22 3 (.int .i64 0) 8 Try.underlying22 infoInt rfl .i64 .i64 n (by omega) (by omega) w
def MvPost (s l : List Nat) (w : World) (e : Ending) (w' : World) : Prop := ∃ g, e = .returned (.slice (some ⟨g, 0, none⟩) l.length l.length) ∧ w.heap.size ≤ g ∧ w'.heap[g]? = some (.cells ((Ma.ofN (mvL s l)).map (Value.int .i64)).toArray 3 (0, 0)) ∧ Below w.heap.size w w'
theorem marksI (w : World) (n : Nat) : (w.alloc (.cells (madeCells #[.int .i64 0] n) 3)).rowIs w.heap.size 3 n (fun _ => .int .i64 0) := World.rowIs_made w (.int .i64 0) n 3
theorem moved_any (lv sv : Value) (l s : List Nat) (w : World) (hl : Rg.NP w lv l) (hs : Rg.NP w sv s) (hb : ∀ x ∈ l, x < s.length) (hn : l.length ≤ 64) :
  Calls Try.prog 89 #[lv, sv] w (MvPost s l w) := by
 obtain ⟨la, lc, rfl, -, -, -, hlx⟩ := hl.shape;obtain ⟨sa, sc, rfl, -, -, -, hsx⟩ := hs.shape;have HLX := ι hlx;have HSX := ι hsx;have HB := ι hb;clear hl hs hlx hsx hb
 go_enter Try.func89, Try.ntmps89
 have hmk := marksI w l.length;have K := ι ((Below.refl w.heap.size w).alloc (Nat.le_refl _) (.cells (madeCells #[.int .i64 0] l.length) 3));go_upto_region 1 with (fail);refine wp_region_list ?_;refine Rg.lr 8 (Rg.xm (.slice la l.length lc) _ rfl rfl) ?_;go_frame;refine Rg.lr 9 (exec_len _ _ _ rfl Try.underlying22 _ _ _ rfl) ?_;go_frame;refine Rg.lr 10 (exec_makeSlice _ _ _ rfl _ _ rfl rfl (mkInts l.length (by omega) w)) ?_;go_frame;refine Rg.lr 5 (Rg.xa (.slice (some ⟨w.heap.size, 0, none⟩) l.length l.length) _ rfl rfl) ?_;go_frame;have IR := ι (InR.mk (W := w.alloc (.cells (madeCells #[.int .i64 0] l.length) 3)) (f := fun j => if j < 0 then ((l.map fun x => ((s.getD x 0 : Nat) : Int)).getD j 0) else 0) (hmk.congr (fun j _ => by simp)) (by simp));generalize w.alloc (.cells (madeCells #[.int .i64 0] l.length) 3) = w1 at *;clear hmk;go_upto_region 2 with (fail);refine wp_region_list ?_;refine Rg.lr 11 (Rg.xm (.slice la l.length lc) _ rfl rfl) ?_;go_frame
 refine Rg.lr 12 (exec_len _ _ _ rfl Try.underlying22 _ _ _ rfl) ?_;go_frame;refine Rg.lr 13 (Rg.xm (.int .i64 ((0 : Nat) : Int)) _ rfl rfl) ?_;go_frame;go_wp2
 go_loopw [13] (fun iv wr => ∃ k : Nat, iv = .int .i64 k ∧ k ≤ l.length ∧ Hid (InR wr w.heap.size l.length (fun j => if j < k then ((l.map fun x => ((s.getD x 0 : Nat) : Int)).getD j 0) else 0)) ∧ Hid (Below w.heap.size w wr)) (fun iv _ => l.length - (intOf iv).toNat)
 case atStart => exact ⟨0, rfl, Nat.zero_le _, IR, K⟩
 case round =>
  clear IR K;obtain ⟨k, rfl, hk, IR, K⟩ := hrel
  by_cases hkl : k < l.length
  case neg =>
   obtain rfl : k = l.length := by omega
   have hkN : ¬ (l.length : Int) < (l.length : Int) := by omega
   have HBK := ι (IR.out.blk (l := Ma.ofN (mvL s l)) (by rw [Ma.len_ofN, len_mvL]) (fun i hi => by
    rw [Ma.len_ofN, len_mvL] at hi;rw [if_pos hi]
    simp [mvL, Ma.ofN, List.getD_eq_getElem?_getD, List.getElem?_eq_getElem hi]))
   go_upto_region 3 with (fail);refine wp_region_list ?_;refine Rg.lr 14 (exec_bin (R := .bool false) .lss _ _ _ rfl rfl rfl (b_lss _ (decide_eq_false hkN))) ?_;go_frame;go_upto_region 7 with (fail);refine wp_region_list ?_;refine Rg.lr 26 (Rg.xm (.slice (some ⟨w.heap.size, 0, none⟩) l.length l.length) _ rfl rfl) ?_;go_frame;refine Rg.lr 4 (Rg.xa (.slice (some ⟨w.heap.size, 0, none⟩) l.length l.length) _ rfl rfl) ?_;go_frame;go_wp2;go_ret;exact ⟨_, rfl, Nat.le_refl _, HBK.out, K.out⟩
  case pos =>
   have hkN : (k : Int) < (l.length : Int) := by omega
   obtain ⟨lb, lo, rfl, hlb, hlx⟩ := HLX.out (by omega);obtain ⟨x, hx⟩ : ∃ x, Hid (l[k] = x) := ⟨_, ι rfl⟩
   have hxs : x < s.length := by rw [← hx.out]; exact HB.out _ (List.getElem_mem hkl)
   obtain ⟨sb, so, rfl, hsb, hsx⟩ := HSX.out (by omega);have C1 := ι (show wr.cell? ⟨lb, lo + k, none⟩ = some (.int .i64 ((x : Nat) : Int)) by rw [← hx.out]; exact (K.out.cell (p := ⟨lb, lo + k, none⟩) hlb).trans (hlx k hkl));have C2 := ι (show wr.cell? ⟨sb, so + x, none⟩ = some (.int .i64 (((s.getD x 0) : Nat) : Int)) by rw [Ma.getD_lt hxs]; exact (K.out.cell (p := ⟨sb, so + x, none⟩) hsb).trans (hsx x hxs));have C3 := ι (IR.out.row.cell hkl);have C3' := ι (show wr.cell? ⟨w.heap.size, 0 + k, none⟩ = some _ by rw [Nat.zero_add]; exact C3.out);have F3 := ι (show wr.frozen? ⟨w.heap.size, 0 + k, none⟩ = false by rw [Nat.zero_add]; exact IR.out.row.frozen k);clear hlx hsx hlb hsb;go_upto_region 3 with (fail);refine wp_region_list ?_;refine Rg.lr 14 (exec_bin (R := .bool true) .lss _ _ _ rfl rfl rfl (b_lss _ (decide_eq_true (by omega)))) ?_;go_frame;go_upto_region 4 with (fail);refine wp_region_list ?_
   refine Rg.lr 15 (Rg.xm (.int .i64 ((k : Nat) : Int)) _ rfl rfl) ?_;go_frame;refine Rg.lr 16 (exec_indexS slInts _ _ rfl lb (lo) (l.length) lc (k) rfl rfl hkl) ?_;go_frame;refine Rg.lr 17 (Rg.exec_load (v := .int .i64 ((x : Nat) : Int)) _ _ rfl ⟨lb, lo + k, none⟩ rfl (run_loadInt C1.out)) ?_;go_frame;refine Rg.lr 6 (Rg.xa (.int .i64 ((k : Nat) : Int)) _ rfl rfl) ?_;go_frame;refine Rg.lr 7 (Rg.xa (.int .i64 ((x : Nat) : Int)) _ rfl rfl) ?_;go_frame;go_upto_region 5 with (fail);refine wp_region_list ?_;refine Rg.lr 18 (Rg.xm (.slice (some ⟨w.heap.size, 0, none⟩) l.length l.length) _ rfl rfl) ?_;go_frame;refine Rg.lr 19 (Rg.xm (.int .i64 ((k : Nat) : Int)) _ rfl rfl) ?_;go_frame;refine Rg.lr 20 (Rg.xm (.slice (some ⟨sb, so, none⟩) s.length sc) _ rfl rfl) ?_;go_frame;refine Rg.lr 21 (Rg.xm (.int .i64 ((x : Nat) : Int)) _ rfl rfl) ?_;go_frame;refine Rg.lr 22 (exec_indexS slPerm _ _ rfl sb (so) (s.length) sc (x) rfl rfl hxs) ?_;go_frame
   refine Rg.lr 23 (Rg.exec_load (v := .int .i64 (((s.getD x 0) : Nat) : Int)) _ _ rfl ⟨sb, so + x, none⟩ rfl (run_loadInt C2.out)) ?_;go_frame;refine Rg.lr 24 (exec_indexS slInts _ _ rfl w.heap.size (0) (l.length) l.length (k) rfl rfl hkl) ?_;go_frame;refine Rg.list_skip none rfl rfl (Rg.exec_store _ _ _ rfl _ rfl _ rfl (run_storeInt _ C3'.out F3.out)) ?_;go_frame;go_upto_region 6 with (fail);refine wp_region_list ?_;refine Rg.lr 25 (exec_bin (R := .int .i64 (((k + 1) : Nat) : Int)) .add _ _ _ rfl rfl rfl (b_add _ (by omega) (by omega))) ?_;go_frame;refine Rg.lr 13 (Rg.xm (.int .i64 (((k + 1) : Nat) : Int)) _ rfl rfl) ?_;go_frame
   have hir : InR (wr.setCell ⟨w.heap.size, 0 + k, none⟩ (.int .i64 (((s.getD x 0) : Nat) : Int))) w.heap.size l.length (fun j => if j < k + 1 then ((l.map fun x => ((s.getD x 0 : Nat) : Int)).getD j 0) else 0) := by
    rw [Nat.zero_add];have h := IR.out.set k (((s.getD x 0) : Nat) : Int);refine ⟨h.row.congr (fun j hj => ?_), h.lt⟩
    by_cases e : j = k
    ·subst e
     rw [if_pos rfl, if_pos (Nat.lt_succ_self _)];simp [List.getD_eq_getElem?_getD, List.getElem?_eq_getElem hkl, hx.out]
    ·rw [if_neg e]
     by_cases e2 : j < k
     ·rw [if_pos e2, if_pos (by omega)]
     ·rw [if_neg e2, if_neg (by omega)]
   have hkb := K.out.setCell (p := ⟨w.heap.size, 0 + k, none⟩) (Nat.le_refl _) (.int .i64 (((s.getD x 0) : Nat) : Int));generalize wr.setCell ⟨w.heap.size, 0 + k, none⟩ (.int .i64 (((s.getD x 0) : Nat) : Int)) = w9 at *;have HIR := ι hir;have HKB := ι hkb;clear hir hkb;go_wp2
   go_roundw
   case rel => exact ⟨k + 1, by go_num, hkl, HIR, HKB⟩
   case measure => simp [intOf]; omega
def srt (l : List Nat) : List Nat := (asc (Ma.ofN l)).map Int.toNat
theorem srt_ofN (l : List Nat) : Ma.ofN (srt l) = asc (Ma.ofN l) := by
 have hm : ∀ x ∈ asc (Ma.ofN l), 0 ≤ x := fun x hx => by
  have := (asc_mem (Ma.ofN l) x).1 hx;obtain ⟨y, _, rfl⟩ := List.mem_map.1 (show x ∈ l.map (fun z : Nat => (z : Int)) from this);omega
 unfold srt Ma.ofN;rw [List.map_map]
 conv => rhs; rw [← List.map_id (asc _)]
 exact List.map_congr_left fun x hx => by simp [Int.toNat_of_nonneg (hm x hx)]
theorem len_srt (l : List Nat) : (srt l).length = l.length := by
 have := congrArg List.length (srt_ofN l)
 rwa [Ma.len_ofN, asc_length, Ma.len_ofN] at this
def ActPost (x : List Nat) (w : World) (e : Ending) (w' : World) : Prop := ∃ a c, e = .returned (.slice a x.length c) ∧ Rg.FI (fun z => w.heap.size ≤ z ∧ z < w'.heap.size) w' (.slice a x.length c) (Ma.ofN x) ∧ Below w.heap.size w w'
theorem fi_blk {w w' : World} {g c : Nat} {x : List Nat} {cur : Array Value} (hg : w.heap.size ≤ g) (h : w'.heap[g]? = some (.cells cur 3 (0, 0))) (hc : x.length ≤ c) (hm : c ≤ maxLen) (hl : x.length ≤ 1000000) (he : cur.toList.take x.length = (Ma.ofN x).map (Value.int .i64)) :
  Rg.FI (fun z => w.heap.size ≤ z ∧ z < w'.heap.size) w' (.slice (some ⟨g, 0, none⟩) x.length c) (Ma.ofN x) := by
 refine ⟨_, c, by simp [Ma.len_ofN], by simpa [Ma.len_ofN] using hc, hm, by simp [Ma.len_ofN]; omega, fun _ => ⟨g, 0, rfl, (Array.getElem?_eq_some_iff.1 h).1, ⟨hg, (Array.getElem?_eq_some_iff.1 h).1⟩, fun i hi => ?_⟩⟩
 have hi2 : i < x.length := by simpa [Ma.len_ofN] using hi
 rw [Nat.zero_add, cell_of_row _ _ _ _ _ _ h, ← Array.getElem?_toList];have := congrArg (fun l => l[i]?) he;rw [List.getElem?_take_of_lt hi2] at this;rw [this, List.getElem?_eq_getElem hi]
theorem movedAct_any (lv sv : Value) (l s : List Nat) (w : World) (hl : Rg.NP w lv l) (hs : Rg.NP w sv s) (hb : ∀ x ∈ l, x < s.length) (hn : l.length ≤ 64) :
  Calls Try.prog 89 #[lv, sv] w (ActPost (mvL s l) w) :=
 (moved_any lv sv l s w hl hs hb hn).mono fun e w' ⟨g, h1, h2, h3, h4⟩ => by
  have e1 : l.length = (mvL s l).length := (len_mvL s l).symm;rw [e1] at h1;exact ⟨_, _, h1, fi_blk h2 h3 (Nat.le_refl _) (by rw [len_mvL]; unfold maxLen; omega) (by rw [len_mvL]; omega) (by rw [List.take_of_length_le]; simp [Ma.len_ofN]), h4⟩
theorem sortW {w w1 : World} {g1 : Nat} {zs : List Nat} {vs : Array Value} (hc : Calls Try.prog 90 vs w1 fun e w' => e = .returned (.tuple #[]) ∧ ∃ n os, w' = Go.Sort.grow (Go.Sort.putRow (Value.int .i64) (Go.Sort.ahead w1 n) g1 0 ((Ma.ofN zs).mergeSort fun x y => decide (x ≤ y)).toArray) os)
  (h : w1.heap[g1]? = some (.cells ((Ma.ofN zs).map (Value.int .i64)).toArray 3 (0, 0))) (hg : w.heap.size ≤ g1) (hb : Below w.heap.size w w1) :
  Calls Try.prog 90 vs w1 fun e w' => e = .returned (.tuple #[]) ∧ (∃ cur, w'.heap[g1]? = some (.cells cur 3 (0, 0)) ∧ cur.size = zs.length ∧ cur.toList.take zs.length = (Ma.ofN (srt zs)).map (Value.int .i64)) ∧ Below w.heap.size w w' := by
 refine hc.mono ?_;rintro e w' ⟨rfl, N, os, rfl⟩;have e1 : ((Ma.ofN zs).mergeSort fun x y => decide (x ≤ y)) = asc (Ma.ofN zs) := (asc_sort _).symm;rw [e1]
 refine ⟨rfl, ?_, hb.grown (grownBy_sortedI _) hb.size (fun k e => by injection e with e; omega)⟩
 have hl : (asc (Ma.ofN zs)).length = zs.length := by rw [asc_length, Ma.len_ofN]
 refine ⟨_, heap_sortedI _ h, by simp [Go.Sort.putCells, Ma.len_ofN], ?_⟩;rw [srt_ofN];have := take_putCellsI ((Ma.ofN zs).map (Value.int .i64)).toArray (asc (Ma.ofN zs)) (by simp [hl, Ma.len_ofN])
 rwa [hl] at this
theorem setsAct_any (lv sv : Value) (l s : List Nat) (w : World) (hl : Rg.NP w lv l) (hs : Rg.NP w sv s) (hb : ∀ x ∈ l, x < s.length) (hn : l.length ≤ 64) :
  Calls Try.prog 88 #[lv, sv] w (ActPost (srt (mvL s l)) w) := by
 obtain ⟨la, lc, rfl, -⟩ := hl.shape;obtain ⟨sa, sc, rfl, -⟩ := hs.shape;have HM := ι (moved_any _ _ l s w hl hs hb hn);clear hl hs hb
 go_enter Try.func88, Try.ntmps88
 go_upto_region 0 with (fail);refine wp_region_list ?_;refine Rg.lr 4 (Rg.xa (.slice none 0 0) _ rfl rfl) ?_;go_frame;go_upto_region 1 with (fail);refine wp_region_list ?_;refine Rg.lr 6 (Rg.xm (.slice la l.length lc) _ rfl rfl) ?_;go_frame;refine Rg.lr 7 (Rg.xm (.slice sa s.length sc) _ rfl rfl) ?_;go_frame;refine list_ask (some 8) rfl rfl _ _ (exec_fn 89 _ _ _ rfl rfl rfl (Fdcl0 _ _)) ?_;refine (HM.out).mono ?_;rintro e1 w1 ⟨g1, rfl, hg1, hg2, hb⟩;have HG1 := ι hg1;have HG2 := ι hg2;have K := ι hb;clear hg1 hg2;refine ⟨_, rfl, ?_⟩;go_frame;clear hb;refine Rg.lr 5 (Rg.xa (.slice (some ⟨g1, 0, none⟩) l.length l.length) _ rfl rfl) ?_;go_frame
 have hlm : (Ma.ofN (mvL s l)).length = l.length := by rw [Ma.len_ofN, len_mvL]
 have HS := ι (Try.slices_Sort_int g1 0 l.length (Ma.ofN (mvL s l)) w1 (holds_of_blockI (ss := Ma.ofN (mvL s l)) HG2.out (by simp [List.take_of_length_le])) (Array.getElem?_eq_some_iff.1 HG2.out).1 (by omega));rw [hlm] at HS;clear hlm;go_upto_region 2 with (fail);refine wp_region_list ?_;refine Rg.lr 9 (Rg.xm (.slice (some ⟨g1, 0, none⟩) l.length l.length) _ rfl rfl) ?_;go_frame;refine list_ask (some 10) rfl rfl _ _ (exec_fn1 90 _ _ rfl rfl (ozcl1 _ _)) ?_;refine ((sortW HS.out HG2.out HG1.out K.out)).mono ?_;rintro e1 w2 ⟨rfl, hs2, hb⟩;have HS2 := ι hs2;have K2 := ι hb;clear hs2;refine ⟨_, rfl, ?_⟩;go_frame;clear hb;go_upto_region 3 with (fail);refine wp_region_list ?_;refine Rg.lr 11 (Rg.xm (.slice (some ⟨g1, 0, none⟩) l.length l.length) _ rfl rfl) ?_;go_frame;refine Rg.lr 4 (Rg.xa (.slice (some ⟨g1, 0, none⟩) l.length l.length) _ rfl rfl) ?_;go_frame;go_wp2;go_ret
 have e1 : l.length = (srt (mvL s l)).length := by rw [len_srt, len_mvL]
 obtain ⟨cur, q1, q2, q3⟩ := HS2.out;refine ⟨some ⟨g1, 0, none⟩, l.length, by rw [← e1]; rfl, ?_, K2.out⟩;have := fi_blk (w := w) (g := g1) (c := l.length) (x := srt (mvL s l)) HG1.out q1 (by rw [← e1]; exact Nat.le_refl _) (by unfold maxLen; omega) (by rw [← e1]; omega) (by rw [len_srt]; exact q3);exact this
end Go.Proofs.Ytcfomoknlchemaa

namespace Go.Proofs
open Go.Shelf
def Try.laysSlF6_f114_ren : Go.Shelf.Ren := ⟨fun | 6 => 114 | 15 => 146 | 14 => 166 | 28 => 183 | 29 => 184 | 20 => 187 | 21 => 188 | 22 => 189 | 23 => 190 | 24 => 191 | 25 => 192 | 26 => 193 | 27 => 194 | 46 => 202 | 47 => 198 | 48 => 199 | 49 => 203 | 50 => 204 | 57 => 206 | n => n, fun | 22 => 29 | 24 => 22 | 25 => 142 | 3 => 3 | 39 => 179 | 0 => 0 | 53 => 209 | 55 => 211 | 4 => 4 | 46 => 204 | 45 => 203 | 50 => 98 | 5 => 5 | 9 => 9 | 66 => 219 | 70 => 223 | 76 => 227 | 77 => 228 | n => n, fun | n => n⟩
theorem Try.laysSlF6_f114 : Go.Proofs.SlLaysF.n6 Try.prog Try.laysSlF6_f114_ren := {
 mixed := by kernel_rfl
 f6 := ⟨Try.f114.name, by decide, Try.func114.trans (congrArg some (by kernel_rfl))⟩
 f14 := ⟨Try.f166.name, by decide, Try.func166.trans (congrArg some (by kernel_rfl))⟩
 f15 := Try.func146.trans (congrArg some (by kernel_rfl))
 f20 := ⟨Try.f187.name, by decide, Try.func187.trans (congrArg some (by kernel_rfl))⟩
 f21 := ⟨Try.f188.name, by decide, Try.func188.trans (congrArg some (by kernel_rfl))⟩
 f22 := ⟨Try.f189.name, by decide, Try.func189.trans (congrArg some (by kernel_rfl))⟩
 f23 := ⟨Try.f190.name, by decide, Try.func190.trans (congrArg some (by kernel_rfl))⟩
 f24 := ⟨Try.f191.name, by decide, Try.func191.trans (congrArg some (by kernel_rfl))⟩
 f25 := ⟨Try.f192.name, by decide, Try.func192.trans (congrArg some (by kernel_rfl))⟩
 f26 := ⟨Try.f193.name, by decide, Try.func193.trans (congrArg some (by kernel_rfl))⟩
 f27 := ⟨Try.f194.name, by decide, Try.func194.trans (congrArg some (by kernel_rfl))⟩
 f28 := Try.func183.trans (congrArg some (by kernel_rfl))
 f29 := Try.func184.trans (congrArg some (by kernel_rfl))
 f46 := ⟨Try.f202.name, by decide, Try.func202.trans (congrArg some (by kernel_rfl))⟩
 f47 := Try.func198.trans (congrArg some (by kernel_rfl))
 f48 := Try.func199.trans (congrArg some (by kernel_rfl))
 f49 := ⟨Try.f203.name, by decide, Try.func203.trans (congrArg some (by kernel_rfl))⟩
 f50 := ⟨Try.f204.name, by decide, Try.func204.trans (congrArg some (by kernel_rfl))⟩
 f57 := ⟨Try.f206.name, by decide, Try.func206.trans (congrArg some (by kernel_rfl))⟩
 t0 := Try.underlying0
 a0 := Try.isAgg0
 z0 := Try.sizeOf0
 v0 := Try.zeroValue0
 t3 := Try.underlying3
 a3 := Try.isAgg3
 z3 := Try.sizeOf3
 v3 := Try.zeroValue3
 t4 := Try.underlying4
 a4 := Try.isAgg4
 z4 := Try.sizeOf4
 v4 := Try.zeroValue4
 t5 := Try.underlying5
 a5 := Try.isAgg5
 z5 := Try.sizeOf5
 v5 := Try.zeroValue5
 t9 := Try.underlying9
 a9 := Try.isAgg9
 z9 := Try.sizeOf9
 v9 := Try.zeroValue9
 t22 := Try.underlying29
 a22 := Try.isAgg29
 z22 := Try.sizeOf29
 v22 := Try.zeroValue29
 a24 := Try.isAgg22
 z24 := Try.sizeOf22
 t25 := Try.underlying142
 a25 := Try.isAgg142
 z25 := Try.sizeOf142
 v25 := Try.zeroValue142
 t39 := Try.underlying179
 a39 := Try.isAgg179
 z39 := Try.sizeOf179
 v39 := Try.zeroValue179
 t45 := Try.underlying203
 a45 := Try.isAgg203
 z45 := Try.sizeOf203
 v45 := Try.zeroValue203
 t46 := Try.underlying204
 a46 := Try.isAgg204
 z46 := Try.sizeOf204
 v46 := Try.zeroValue204
 t50 := Try.underlying98
 a50 := Try.isAgg98
 z50 := Try.sizeOf98
 v50 := Try.zeroValue98
 t53 := Try.underlying209
 a53 := Try.isAgg209
 z53 := Try.sizeOf209
 v53 := Try.zeroValue209
 t55 := Try.underlying211
 a55 := Try.isAgg211
 z55 := Try.sizeOf211
 v55 := Try.zeroValue211
 t66 := Try.underlying219
 a66 := Try.isAgg219
 z66 := Try.sizeOf219
 v66 := Try.zeroValue219
 t70 := Try.underlying223
 a70 := Try.isAgg223
 z70 := Try.sizeOf223
 v70 := Try.zeroValue223
 t76 := Try.underlying227
 a76 := Try.isAgg227
 z76 := Try.sizeOf227
 v76 := Try.zeroValue227
 t77 := Try.underlying228
 a77 := Try.isAgg228
 z77 := Try.sizeOf228
 v77 := Try.zeroValue228 }
open Go.RowKit Go.Lib Go.Sort in
theorem Try.slices_SortFunc {α : Type} [Inhabited α] (enc : α → Value) (h1 : OneCell enc) (cf : α → α → Int) (hO : SWO (ltOf cf)) (g : Nat) (cb : Array Value) (blk off cap : Nat) (d : Array α) (w : World) (eg : ∀ args w, (callFunc g args).run Try.prog w = .ok (.enter g args) w) (hcmp : CmpLays1 Try.prog g cb enc cf blk off d.size w) (hH : Holds enc w blk off d) (hblk : blk < w.heap.size) (hsz : d.size < 4611686018427387904) :
  Calls Try.prog 114 #[.slice (some ⟨blk, off, none⟩) d.size cap, .func (.func g) #[] cb] w fun e w' =>
   e = .returned (.tuple #[]) ∧ ∃ d' n os, PermIn 0 d.size d d' ∧ SortedIn (ltOf cf) 0 d.size d' ∧ w' = sortWorld enc w blk off n d' os := Any.slices_SortFunc Try.laysSlF6_f114 enc h1 cf hO g cb blk off cap d w eg hcmp hH hblk hsz
end Go.Proofs

namespace Go.Proofs.Ytcfomoknlchemaa
open Go.RowKit
open Go.Proofs
open Go.Sort
attribute [local irreducible] Go.Calls
def El (F : Nat → Prop) (w : World) := { p : Value × List Int // Rg.FI F w p.1 p.2 }
theorem fi_nil (F : Nat → Prop) (w : World) : Rg.FI F w (.slice none 0 0) [] := ⟨none, 0, rfl, Nat.le_refl _, Nat.zero_le _, Nat.zero_le _, fun h => absurd h (Nat.lt_irrefl 0)⟩
instance (F : Nat → Prop) (w : World) : Inhabited (El F w) := ⟨⟨(.slice none 0 0, []), fi_nil F w⟩⟩
def elV {F : Nat → Prop} {w : World} (p : El F w) : Value := p.1.1
def elC {F : Nat → Prop} {w : World} (p q : El F w) : Int := cmpL p.1.2 q.1.2
theorem elC_lt {F : Nat → Prop} {w : World} (p q : El F w) : ltOf elC p q = lessL p.1.2 q.1.2 := cmpL_lt _ _
theorem lessL_n {a b c : List Int} (h : lessL a b = false) (h2 : lessL b c = false) : lessL a c = false := by
 by_cases e : a = b
 ·subst e; exact h2
 ·by_cases e2 : b = c
  ·subst e2; exact h
  ·have h3 := lessL_trans (lessL_total h2 e2) (lessL_total h e)
   cases h4 : lessL a c
   ·rfl
   ·have := lessL_trans h3 h4
    rw [lessL_irr] at this; cases this
theorem el_swo (F : Nat → Prop) (w : World) : SWO (ltOf (elC (F := F) (w := w))) where
 irrefl x := by rw [elC_lt]; exact lessL_irr _
 trans x y z h1 h2 := by rw [elC_lt] at *; exact lessL_trans h1 h2
 ntrans x y z h1 h2 := by rw [elC_lt] at *; exact lessL_n h1 h2
theorem sortWorld_kp {α : Type} [Inhabited α] {enc : α → Value} {w : World} {blk m : Nat} {dk : Array α} {os : Array Obj} : Rg.Kp (fun z => z = blk) w (sortWorld enc w blk 0 m dk os) := by
 refine ⟨rfl, rfl, rfl, by simp [sortWorld, grow, putRow, mapBlock, Sort.ahead], fun k hk hn => ?_⟩;unfold sortWorld;rw [heap_grow_old _ _ (by simpa [putRow, mapBlock, Sort.ahead] using hk)];have : blk ≠ k := fun e => hn e.symm;simp [putRow, mapBlock, Sort.ahead, Array.getElem?_modify, this]
theorem clCmp (args : Array Value) (w : World) : (callFunc 113 args).run Try.prog w = .ok (.enter 113 args) w := by kernel_rfl
theorem sortLL {F : Nat → Prop} {w : World} {blk cap : Nat} {us : List Value} {ll : List (List Int)} (hus : Rg.FElts F w us ll) (hF : ¬ F blk) (hc : ∀ i (h : i < us.length), w.cell? ⟨blk, i, none⟩ = some us[i] ∧ w.frozen? ⟨blk, i, none⟩ = false) (hlt : blk < w.heap.size) (hn : ll.length ≤ 1000000) (hcap : ll.length ≤ cap) (hcm : cap ≤ maxLen) :
  Calls Try.prog 114 #[.slice (some ⟨blk, 0, none⟩) ll.length cap, .func (.func 113) #[] #[]] w fun e w' => e = .returned (.tuple #[]) ∧ ∃ ll', ll'.Perm ll ∧ ll'.Pairwise (fun a b => lessL b a = false) ∧ Rg.Rows w' (.slice (some ⟨blk, 0, none⟩) ll.length cap) ll' ∧ Rg.Kp (fun z => z = blk) w w' := by
 obtain ⟨d, hd, hde⟩ : ∃ d : Array (El F w), d.size = ll.length ∧ ∀ i (h : i < d.size) (h2 : i < us.length) (h3 : i < ll.length), d[i].1 = (us[i], ll[i]) :=
  by
   obtain ⟨hl, he⟩ := hus;exact ⟨Array.ofFn (n := ll.length) fun i => ⟨(us[i.1]'(by rw [hl]; exact i.2), ll[i.1]), he i.1 _ _⟩, Array.size_ofFn, fun i h h2 h3 => congrArg Subtype.val (Array.getElem_ofFn h)⟩
 have hH : Holds elV w blk 0 d := fun j hj => by
  have hj2 : j < us.length := by rw [hus.1, ← hd]; exact hj
  rw [Nat.zero_add, getElem!_pos d j hj]
  have e : elV d[j] = us[j] := by unfold elV; rw [hde j hj hj2 (by omega)]
  rw [e];exact hc j hj2
 have hcmp : CmpLays1 Try.prog 113 #[] elV elC blk 0 d.size w := fun m os dk _ x y => by
  have hk := sortWorld_kp (enc := elV) (w := w) (blk := blk) (m := m) (dk := dk) (os := os);have hx := (Rg.FI.kp x.2 hk (fun z hz e => hF (e ▸ hz))).ints;have hy := (Rg.FI.kp y.2 hk (fun z hz e => hF (e ▸ hz))).ints;refine (Compare_any _ _ x.1.2 y.1.2 _ hx hy).mono ?_;rintro e w' ⟨h1, h2⟩;exact ⟨h1, 0, #[], by rw [h2, grow_empty]; rfl⟩
 have hs := Try.slices_SortFunc elV (fun x => by obtain ⟨a, c, h, _⟩ := x.2; show x.1.1.oneCell' = true; rw [h]; rfl) elC (el_swo F w) 113 #[] blk 0 cap d w clCmp hcmp hH hlt (by rw [hd]; omega);rw [hd] at hs;refine hs.mono ?_;rintro e w' ⟨rfl, d', m, os, hp, hso, rfl⟩;have hk := sortWorld_kp (enc := elV) (w := w) (blk := blk) (m := m) (dk := d') (os := os)
 have hd' : d'.size = ll.length := by rw [hp.1, hd]
 have hx1 : d'.extract 0 ll.length = d' := by rw [← hd']; simp
 have hx2 : d.extract 0 ll.length = d := by rw [← hd]; simp
 have hh := SW.holds (W := sortWorld elV w blk 0 m d' os) ⟨m, os, rfl⟩ hlt hH (by rw [hd', hd]);refine ⟨rfl, d'.toList.map (·.1.2), ?_, ?_, ?_, hk⟩
 ·have h1 := hp.2.2
  rw [hx1, hx2] at h1;have h2 := h1.map (fun p : El F w => p.1.2)
  have e : d.toList.map (fun p : El F w => p.1.2) = ll := by
   apply List.ext_getElem
   ·simp [hd]
   ·intro i h1 h2
    have h3 : i < d.size := by simpa using h1
    rw [List.getElem_map, Array.getElem_toList, hde i h3 (by rw [hus.1]; exact h2) h2]
  rwa [e] at h2
 ·rw [List.pairwise_iff_getElem]
  intro i j hi hj hij;simp only [List.length_map, Array.length_toList] at hi hj;have := hso i j (Nat.zero_le _) hij (by rw [← hd']; exact hj);rw [elC_lt, getElem!_pos d' j hj, getElem!_pos d' i hi] at this
  simpa using this
 ·refine ⟨d'.toList.map (·.1.1), ⟨some ⟨blk, 0, none⟩, cap, by simp [hd'], by simp [hd']; exact hcap, hcm, by simp [hd', Rg.big]; omega, fun _ => ⟨blk, 0, rfl, Nat.lt_of_lt_of_le hlt hk.size, fun i hi => ?_⟩⟩, by simp, fun i h1 h2 => ?_⟩
  ·have hi2 : i < d'.size := by simpa using hi
   have := (hh i hi2).1;rw [this, getElem!_pos d' i hi2];simp [elV]
  ·have hi2 : i < d'.size := by simpa using h1
   have := (Rg.FI.kp (d'[i]).2 hk (fun z hz e => hF (e ▸ hz))).ints;simp only [List.getElem_map, Array.getElem_toList];exact this
end Go.Proofs.Ytcfomoknlchemaa

namespace Go.Proofs.Ytcfomoknlchemaa
open Go.Proofs
inductive RchA (A : List Nat → List Nat → List Nat) (gs : List (List Nat)) (s : List Nat) : List Nat → Prop
 | base : RchA A gs s s
 | step {g x : List Nat} : g ∈ gs → RchA A gs s x → RchA A gs s (A g x)
def AllS (A : List Nat → List Nat → List Nat) (gs : List (List Nat)) (s : List Nat) (T : List (List Nat)) : Prop := T.Nodup ∧ ∀ x, x ∈ T ↔ RchA A gs s x
def OverS (A : List Nat → List Nat → List Nat) (gs : List (List Nat)) (s : List Nat) (most : Nat) : Prop := ∃ L : List (List Nat), L.Nodup ∧ (∀ x ∈ L, RchA A gs s x) ∧ L.length = most + 1
structure SpJ (A : List Nat → List Nat → List Nat) (gs : List (List Nat)) (s : List Nat) (most : Nat) (T : List (List Nat)) (i j : Nat) : Prop where
 nd : T.Nodup
 s0 : s ∈ T
 rch : ∀ x ∈ T, RchA A gs s x
 le : T.length ≤ most
 il : i ≤ T.length
 don : ∀ k (hk : k < T.length), k < i → ∀ g ∈ gs, A g T[k] ∈ T
 cur : ∀ (hi : i < T.length) m (hm : m < gs.length), m < j → A gs[m] T[i] ∈ T
variable {A : List Nat → List Nat → List Nat} {gs : List (List Nat)} {s : List Nat} {most i j : Nat} {T : List (List Nat)}
theorem SpJ.start (h : 1 ≤ most) : SpJ A gs s most [s] 0 0 :=
 ⟨by simp, by simp, fun x hx => by rw [List.mem_singleton] at hx; subst hx; exact .base, by simpa using h, Nat.zero_le _, fun k _ h => absurd h (Nat.not_lt_zero _), fun _ m _ h => absurd h (Nat.not_lt_zero _)⟩
theorem SpJ.hit (h : SpJ A gs s most T i j) (hj : j < gs.length) (hi : i < T.length) (hx : A gs[j] T[i] ∈ T) : SpJ A gs s most T i (j + 1) :=
 ⟨h.nd, h.s0, h.rch, h.le, h.il, h.don, fun hi' m hm hmj => by
  by_cases e : m = j
  ·subst e; exact hx
  ·exact h.cur hi' m hm (by omega)⟩
theorem SpJ.new (h : SpJ A gs s most T i j) (hj : j < gs.length) (hi : i < T.length) (hx : A gs[j] T[i] ∉ T) (hl : T.length < most) : SpJ A gs s most (T ++ [A gs[j] T[i]]) i (j + 1) := by
 have hg : ∀ k (hk : k < T.length) (hk2 : k < (T ++ [A gs[j] T[i]]).length), (T ++ [A gs[j] T[i]])[k] = T[k] := fun k hk hk2 => List.getElem_append_left hk;refine ⟨?_, List.mem_append_left _ h.s0, fun x hx => ?_, by simp; omega, by simp; omega, fun k hk hki g hg2 => ?_, fun hi' m hm hmj => ?_⟩
 ·rw [List.nodup_append]
  exact ⟨h.nd, by simp, fun a ha b hb => by rw [List.mem_singleton] at hb; subst hb; exact fun e => hx (e ▸ ha)⟩
 ·rcases List.mem_append.1 hx with e | e
  ·exact h.rch x e
  ·rw [List.mem_singleton] at e; subst e; exact .step (List.getElem_mem hj) (h.rch _ (List.getElem_mem hi))
 ·rw [hg k (by omega) hk]
  exact List.mem_append_left _ (h.don k (by omega) hki g hg2)
 ·rw [hg i hi hi']
  by_cases e : m = j
  ·subst e; simp
  ·exact List.mem_append_left _ (h.cur hi m hm (by omega))
theorem SpJ.over (h : SpJ A gs s most T i j) (hj : j < gs.length) (hi : i < T.length) (hx : A gs[j] T[i] ∉ T) (hl : T.length = most) : OverS A gs s most :=
 ⟨A gs[j] T[i] :: T, List.nodup_cons.2 ⟨hx, h.nd⟩, fun x hx => by
  rcases List.mem_cons.1 hx with rfl | e
  ·exact .step (List.getElem_mem hj) (h.rch _ (List.getElem_mem hi))
  ·exact h.rch x e, by simp [hl]⟩
theorem SpJ.next (h : SpJ A gs s most T i j) (hj : gs.length ≤ j) (hi : i < T.length) : SpJ A gs s most T (i + 1) 0 :=
 ⟨h.nd, h.s0, h.rch, h.le, hi, fun k hk hki g hg => by
  by_cases e : k = i
  ·subst e
   obtain ⟨m, hm, rfl⟩ := List.getElem_of_mem hg;exact h.cur hi m hm (by omega)
  ·exact h.don k hk (by omega) g hg, fun _ m _ hm => absurd hm (Nat.not_lt_zero _)⟩
theorem SpJ.done (h : SpJ A gs s most T i j) (hi : T.length ≤ i) : AllS A gs s T :=
 ⟨h.nd, fun x => ⟨h.rch x, fun hr => by
  induction hr with
  | base => exact h.s0
  | step hg _ ih =>
   obtain ⟨k, hk, rfl⟩ := List.getElem_of_mem ih
   exact h.don k hk (by omega) _ hg⟩⟩
theorem AllS.notOver {most : Nat} (h : AllS A gs s T) (hl : T.length ≤ most) : ¬ OverS A gs s most := by
 rintro ⟨L, h1, h2, h3⟩;have := nodup_le h1 fun x hx => (h.2 x).2 (h2 x hx);omega
end Go.Proofs.Ytcfomoknlchemaa

namespace Go.Proofs.Ytcfomoknlchemaa
open Go.RowKit
open Go.Proofs
open Go.Proofs.Ob
open Go.Proofs.Cm (Gd)
attribute [local irreducible] Go.Calls Go.wpList
structure NpW (w : World) (v : Value) (x : List Nat) : Prop where
 np : Rg.NP w v x
theorem NpW.below {w w' : World} {v : Value} {x : List Nat} (h : NpW w v x) (hb : Below w.heap.size w w') : NpW w' v x := ⟨Rg.NP.below h.np hb⟩

theorem clPk (args : Array Value) (w : World) : (callFunc 144 args).run Try.prog w = .ok (.enter 144 args) w := by kernel_rfl
theorem put_seen {W : World} {r d : Nat} {T : List (List Nat)} {x : List Nat} (h : Km.KMap W r (seenM T)) (hg : ∀ q ∈ T, GK d q) (hx : GK d x) (hn : x ∉ T) :
  ∃ X, (Instr.mapUpdate 140 (.map (some r)) (.agg (keyC x)) (.bool true)).run Try.prog W = .ok () X ∧ Km.KMap X r (seenM (T ++ [x])) ∧ W.grownBy X (some r) := by
 rw [keyC_kb hx];obtain ⟨X, h1, h2, h3⟩ := Km.update_new kt h (len_seenM T) (kb x) (len_kb x) (by rw [look_seenM hx hg, if_neg hn]) (.bool true);exact ⟨X, h1, by unfold seenM at h2 ⊢; rw [List.map_append]; exact h2, h3⟩
theorem look_run {W : World} {r d : Nat} {T : List (List Nat)} {x : List Nat} (h : Km.KMap W r (seenM T)) (hg : ∀ q ∈ T, GK d q) (hx : GK d x) :
  (Instr.lookup 140 (.map (some r)) (.agg (keyC x)) false).run Try.prog W = .ok (.bool (decide (x ∈ T))) W := by
 rw [keyC_kb hx];have h1 := Km.lookup_no kt h (len_seenM T) (kb x) (len_kb x);rw [look_seenM hx hg] at h1
 by_cases e : x ∈ T
 ·rw [if_pos e] at h1; rw [decide_eq_true e]; exact h1
 ·rw [if_neg e] at h1; rw [decide_eq_false e]; exact h1
structure SpM (w W : World) (F : Nat → Prop) (r : Nat) (fv : Value) (T : List (List Nat)) : Prop where
 bel : Below w.heap.size w W
 row : RowJ w.heap.size F (fun z => z = r) W fv (T.map Ma.ofN)
 mp : Km.KMap W r (seenM T)
 rlo : w.heap.size ≤ r
 nF : ¬ F r
 Flt : ∀ z, F z → z < W.heap.size
theorem SpM.up {w W W' : World} {F : Nat → Prop} {r : Nat} {fv : Value} {T : List (List Nat)} (h : SpM w W F r fv T) (hb : Below W.heap.size W W') : SpM w W' (Fup F W W') r fv T :=
 ⟨Rg.acc h.bel hb, h.row.upk (N := fun _ => False) (Rg.Kp.of_below hb) (fun _ _ => id) (fun _ e => e.elim), h.mp.below hb, h.rlo, fun g => by
  rcases g with g | g
  ·exact h.nF g
  ·have := h.mp.lt; omega, fun z g => by
  rcases g with g | g
  ·exact Nat.lt_of_lt_of_le (h.Flt z g) hb.size
  ·exact g.2⟩
theorem SpM.put {w W : World} {F : Nat → Prop} {r d : Nat} {fv u : Value} {T : List (List Nat)} {x : List Nat} (h : SpM w W F r fv T) (hg : ∀ q ∈ T, GK d q) (hx : GK d x) (hn : x ∉ T) (hu : Rg.FI F W u (Ma.ofN x)) (hs : ∃ a m c, u = .slice a m c) (hT : T.length < 1000000) (ty : TypeId) :
  ∃ X, (Instr.mapUpdate 140 (.map (some r)) (.agg (keyC x)) (.bool true)).run Try.prog W = .ok () X ∧
   ∃ a c Y, (Builtin.append_ #[29, 29] ty #[fv, .slice (some ⟨X.heap.size, 0, none⟩) 1 1]).run Try.prog (X.alloc (.cells #[u] 22)) = .ok (.slice a (T.length + 1) c) Y ∧ SpM w Y F r (.slice a (T.length + 1) c) (T ++ [x]) := by
 obtain ⟨X, h1, h2, h3⟩ := put_seen h.mp hg hx hn;have hk : Rg.Kp (fun z => z = r) W X := Rg.Kp.of_grown h3 (fun k e => (Option.some.inj e).symm);have hrow := h.row.kp hk (fun k hF e => h.nF (e ▸ hF)) (fun k e e2 => (h.row.off k e).2 e2);have hu2 := Rg.FI.kp hu hk (fun z hF e => h.nF (e ▸ hF));obtain ⟨a, c, Y, r1, r2, r3⟩ := hrow.push hu2 hs (fun k g => Nat.lt_of_lt_of_le (h.Flt k g) hk.size) (fun k e => by subst e; exact h2.lt) (by rw [List.length_map]; exact hT) ty;rw [List.length_map] at r1 r2;refine ⟨X, h1, a, c, Y, r1, ⟨?_, by rw [List.map_append]; exact r2, ?_, h.rlo, h.nF, fun z g => Nat.lt_of_lt_of_le (h.Flt z g) (Nat.le_trans hk.size r3.size)⟩⟩
 ·exact kp_below (kp_below h.bel h.bel.size hk (fun k e => by subst e; exact h.rlo)) (Nat.le_trans h.bel.size hk.size) r3 (fun k e => (hrow.lt k e).1)
 ·exact h2.of_block (r3.block r h2.lt (fun e => (hrow.off r e).2 rfl))
structure KmW (w : World) (r : Nat) (T : List (List Nat)) : Prop where
 m : Km.KMap w r (seenM T)
theorem KmW.below {w w' : World} {r : Nat} {T : List (List Nat)} (h : KmW w r T) (hb : Below w.heap.size w w') : KmW w' r T := ⟨h.m.below hb⟩
structure KeA (w : World) (s : Nat) (k : List Nat) : Prop where
 k : KeyAt w s k
theorem KeA.up {w w' : World} {s : Nat} {k : List Nat} (h : KeA w s k) (hb : Below w.heap.size w w') : KeA w' s k := ⟨h.k.below hb⟩
structure FiW (F : Nat → Prop) (w : World) (v : Value) (x : List Nat) : Prop where
 fi : Rg.FI F w v (Ma.ofN x)
theorem FiW.up {F : Nat → Prop} {w w' : World} {v : Value} {x : List Nat} (h : FiW F w v x) (hb : Below w.heap.size w w') : FiW (Fup F w w') w' v x :=
 ⟨Rg.FI.mono (Rg.FI.kp (M := fun _ => False) h.fi (Rg.Kp.of_below hb) (fun _ _ => id)) (fun _ => .inl)⟩
theorem fi_new {F : Nat → Prop} {w w' : World} {v : Value} {x : List Nat} (h : Rg.FI (fun z => w.heap.size ≤ z ∧ z < w'.heap.size) w' v (Ma.ofN x)) : FiW (Fup F w w') w' v x := ⟨Rg.FI.mono h (fun _ g => .inr g)⟩
theorem SpM.start {w W : World} {u : Value} {x : List Nat} (hb : Below w.heap.size w W) (hm : Km.KMap W w.heap.size (seenM ([] ++ [x]))) (hu : Rg.NP w u x) (hs : ∃ a m c, u = .slice a m c) : SpM w (W.alloc (.cells #[u] 22)) (fun z => z < w.heap.size) w.heap.size (.slice (some ⟨W.heap.size, 0, none⟩) 1 1) [x] := by
 have hfi : Rg.FI (fun z => z < w.heap.size) W u (Ma.ofN x) := Rg.FI.kp (M := fun _ => False) (Rg.FI.old hu) (Rg.Kp.of_below hb) (fun _ _ => id);have hbA : Below W.heap.size W (W.alloc (.cells #[u] 22)) := (Below.refl _ _).alloc (Nat.le_refl _) _;exact ⟨hb.alloc hb.size _, RowJ.one hb.size hfi hs (fun k hk => Nat.lt_of_lt_of_le hk hb.size) (fun k e => by subst e; exact hm.lt), by simpa using hm.below hbA, Nat.le_refl _, Nat.lt_irrefl _, fun z hz => Nat.lt_of_lt_of_le hz (Nat.le_trans hb.size hbA.size)⟩
def GL (D n : Nat) (l : List Nat) : Prop := l.length = n ∧ ∀ x ∈ l, x < D
theorem GL.gk {D n : Nat} {l : List Nat} (h : GL D n l) (hD : D ≤ 64) (hn : n ≤ 64) : GK n l := by
 refine ⟨h.1, hn, ?_⟩;intro x hx;have := h.2 x hx;omega
def SpPost (A : List Nat → List Nat → List Nat) (gs : List (List Nat)) (s : List Nat) (most : Nat) (w : World) (e : Ending) (w' : World) : Prop :=
 Below w.heap.size w w' ∧ ((∃ F r fv T, e = .returned (.tuple #[fv, .bool true]) ∧ SpM w w' F r fv T ∧ AllS A gs s T ∧ T.length ≤ most) ∨ (e = .returned (.tuple #[.slice none 0 0, .bool false]) ∧ OverS A gs s most))
theorem spanL_any {A : List Nat → List Nat → List Nat} {FA : FuncId} (hFA : ∀ args w, (callFunc FA args).run Try.prog w = .ok (.enter FA args) w) {D n : Nat} (hD : D ≤ 64) (hn : n ≤ 64) (hD1 : 1 ≤ D)
  (hact : ∀ (W : World) (lv sv : Value) (l g : List Nat), Rg.NP W lv l → Rg.NP W sv g → GL D n l → Gd D g → Calls Try.prog FA #[lv, sv] W (ActPost (A g l) W)) (hgl : ∀ g l, Gd D g → GL D n l → GL D n (A g l))
  (sv gv : Value) (s : List Nat) (gs : List (List Nat)) (most : Nat) (w : World) (hs : Rg.NP w sv s) (hs2 : GL D n s) (hg : Rg.Rows w gv (gs.map Ma.ofN)) (hG : ∀ g ∈ gs, Gd D g) (hgn : gs.length ≤ 1000) (hm1 : 1 ≤ most) (hm2 : most ≤ 100000) :
  Calls Try.prog 143 #[sv, gv, .int .i64 most, .func (.func FA) #[] #[], .func (.func 144) #[] #[]] w (SpPost A gs s most w) := by
 obtain ⟨sa, sc, rfl, -⟩ := hs.shape;rw [hs2.1] at hs ⊢;obtain ⟨ga, gc, hsh, -, -, -, -⟩ := hg.shape;rw [List.length_map] at hsh;subst hsh;have SV := ι (NpW.mk hs);have SV0 := SV;have HG := ι hg;have HGD := ι hG;have HGS := ι hs2;have HFA := ι hFA;have HACT := ι hact;have HGL := ι hgl;have K := ι (Below.refl w.heap.size w);have HGK := ι (hs2.gk hD hn);clear hs hg hG hs2 hFA hact hgl
 go_enter Try.func143, Try.ntmps143
 go_upto_region 0 with (fail);refine wp_region_list ?_;refine Rg.lr 10 (Rg.xa (.slice none 0 0) _ rfl rfl) ?_;go_frame;refine Rg.lr 11 (Rg.xa (.bool false) _ rfl rfl) ?_;go_frame;go_upto_region 1 with (fail);refine wp_region_list ?_;have hmp := KmW.mk (T := []) (show Km.KMap _ _ (seenM []) from Km.KMap.new w);refine Rg.lr 19 (exec_makeMap _ rfl) ?_;go_frame;have hb := (Below.refl w.heap.size w).alloc (Nat.le_refl _) (.map #[] 0);generalize w.alloc (.map #[] 0) = w1 at *;replace SV := ι (SV.out.below hb);replace K := ι (Rg.acc K.out hb);clear hb;have MP := ι hmp;clear hmp;refine Rg.lr 20 (Rg.xm ((.func (.func 144) #[] #[])) _ rfl rfl) ?_;go_frame;refine Rg.lr 21 (Rg.xm (.slice sa n sc) _ rfl rfl) ?_;go_frame;refine list_ask (some 22) rfl rfl _ _ (exec_callV1 144 _ _ _ rfl rfl rfl (clPk _ _)) ?_;refine (packed_any _ s w1 SV.out.np (by rw [HGS.out.1]; exact hn) (fun x hx => by have := HGS.out.2 x hx; omega)).mono ?_
 rintro e1 w2 ⟨rfl, hb⟩;refine ⟨_, rfl, ?_⟩;go_frame;replace SV := ι (SV.out.below hb);replace MP := ι (MP.out.below hb);replace K := ι (Rg.acc K.out hb);clear hb;obtain ⟨W9, m1, m2, m3⟩ := put_seen (T := []) MP.out.m (fun q hq => by simp at hq) HGK.out (by simp);refine Rg.list_skip none rfl rfl (Rg.exec_insert _ _ _ _ rfl _ _ _ rfl rfl rfl m1) ?_;go_frame;refine Rg.lr 23 (Rg.xm ((.map (some w.heap.size))) _ rfl rfl) ?_;go_frame;refine Rg.lr 12 (Rg.xa ((.map (some w.heap.size))) _ rfl rfl) ?_;go_frame
 have hkm : Rg.Kp (fun z => z = w.heap.size) w2 W9 := Rg.Kp.of_grown m3 (fun k e => by injection e with e; exact e.symm)
 have hb9 : Below w.heap.size w W9 := kp_below K.out K.out.size hkm (fun k e => Nat.le_of_eq e.symm);have SM0 := ι (SpM.start hb9 m2 SV0.out.np ⟨_, _, _, rfl⟩);clear m1 m3 hkm hb9 m2 MP SV;go_upto_region 2 with (fail);refine wp_region_list ?_;refine Rg.lr 24 (Rg.xm (.slice sa n sc) _ rfl rfl) ?_;go_frame;refine Rg.lr 25 (Rg.exec_buildSlice _ _ _ rfl (.slice sa n sc) rfl (run_build1L W9 _ ⟨_, _, _, rfl⟩)) ?_;go_frame;refine Rg.lr 13 (Rg.xa (.slice (some ⟨W9.heap.size, 0, none⟩) 1 1) _ rfl rfl) ?_;go_frame;generalize W9.alloc (.cells #[.slice sa n sc] 22) = w9 at *;go_upto_region 3 with (fail);refine wp_region_list ?_;refine Rg.lr 14 (Rg.xa (.int .i64 ((0 : Nat) : Int)) _ rfl rfl) ?_;go_frame;obtain ⟨F, hF⟩ : ∃ F : Nat → Prop, (fun z => z < w.heap.size) = F := ⟨_, rfl⟩;rw [hF] at SM0;clear hF;have SJ := ι (SpJ.start (A := A) (gs := gs) (s := s) hm1);have GT := ι (show ∀ q ∈ [s], GL D n q from fun q hq => by rw [List.mem_singleton] at hq; subst hq; exact HGS.out)
 go_wp2
 go_loopw [13, 14] (fun fv iv wr => ∃ (i : Nat) (F : Nat → Prop) (T : List (List Nat)), iv = .int .i64 i ∧ i ≤ T.length ∧ Hid (SpM w wr F w.heap.size fv T) ∧ Hid (SpJ A gs s most T i 0) ∧ Hid (∀ q ∈ T, GL D n q)) (fun _ iv _ => most + 1 - (intOf iv).toNat)
 case atStart => exact ⟨0, _, _, rfl, Nat.zero_le _, SM0, SJ, GT⟩
 case round =>
  clear SM0 SJ GT;obtain ⟨i, F, T, rfl, hi, SM, SJ, GT⟩ := hrel;obtain ⟨fa, fc, hsh⟩ := SM.out.row.shape;rw [List.length_map] at hsh;subst hsh;have hTm := SJ.out.le
  by_cases hiT : i < T.length
  case neg =>
   have hiN : ¬ (i : Int) < (T.length : Int) := by omega
   go_upto_region 4 with (fail);refine wp_region_list ?_;refine Rg.lr 26 (Rg.xm (.int .i64 ((i : Nat) : Int)) _ rfl rfl) ?_;go_frame;refine Rg.lr 27 (Rg.xm (.slice fa T.length fc) _ rfl rfl) ?_;go_frame;refine Rg.lr 28 (exec_len _ _ _ rfl Try.underlying29 _ _ _ rfl) ?_;go_frame;refine Rg.lr 29 (exec_bin (R := .bool false) .lss _ _ _ rfl rfl rfl (b_lss _ (decide_eq_false hiN))) ?_;go_frame;go_upto_region 17 with (fail);refine wp_region_list ?_;refine Rg.lr 62 (Rg.xm (.slice fa T.length fc) _ rfl rfl) ?_;go_frame;refine Rg.lr 10 (Rg.xa (.slice fa T.length fc) _ rfl rfl) ?_;go_frame;refine Rg.lr 11 (Rg.xa (.bool true) _ rfl rfl) ?_;go_frame;have HTM := ι hTm;clear hTm;go_wp2
   go_ret2
   exact ⟨SM.out.bel, .inl ⟨F, _, _, T, rfl, SM.out, SJ.out.done (by omega), HTM.out⟩⟩
  case pos =>
   have hiN : (i : Int) < (T.length : Int) := by omega
   have hi1 : i < 100001 := by omega
   go_upto_region 4 with (fail);refine wp_region_list ?_;refine Rg.lr 26 (Rg.xm (.int .i64 ((i : Nat) : Int)) _ rfl rfl) ?_;go_frame;refine Rg.lr 27 (Rg.xm (.slice fa T.length fc) _ rfl rfl) ?_;go_frame;refine Rg.lr 28 (exec_len _ _ _ rfl Try.underlying29 _ _ _ rfl) ?_;go_frame;refine Rg.lr 29 (exec_bin (R := .bool true) .lss _ _ _ rfl rfl rfl (b_lss _ (decide_eq_true (by omega)))) ?_;go_frame;go_upto_region 6 with (fail);refine wp_region_list ?_;refine Rg.lr 32 (Rg.xm (.slice ga gs.length gc) _ rfl rfl) ?_;go_frame;refine Rg.lr 33 (exec_len _ _ _ rfl Try.underlying24 _ _ _ rfl) ?_;go_frame;refine Rg.lr 34 (Rg.xm (.int .i64 ((0 : Nat) : Int)) _ rfl rfl) ?_;go_frame;have HX : Hid (i < T.length) := ι hiT;obtain ⟨x, hx⟩ : ∃ x, Hid (T[i]'hiT = x) := ⟨_, ι rfl⟩;have HIX := ι (show T[i]? = some x by rw [List.getElem?_eq_getElem hiT, hx.out]);have GX := ι (show GL D n x by rw [← hx.out]; exact GT.out _ (List.getElem_mem hiT))
   have HM0 := ι hi1;clear hx hiN hTm hi hiT HX;go_wp2
   go_loopw [13, 34] (fun fv jv wr => ∃ (j : Nat) (F : Nat → Prop) (T : List (List Nat)), jv = .int .i64 j ∧ j ≤ gs.length ∧ Hid (SpM w wr F w.heap.size fv T) ∧ Hid (SpJ A gs s most T i j) ∧ Hid (∀ q ∈ T, GL D n q) ∧ Hid (T[i]? = some x)) (fun _ jv _ => gs.length - (intOf jv).toNat)
   case atStart => exact ⟨0, _, _, rfl, Nat.zero_le _, SM, SJ, GT, HIX⟩
   case round =>
    clear SM SJ GT HIX;obtain ⟨j, F, T, rfl, hj, SM, SJ, GT, HIX⟩ := hrel;obtain ⟨fa, fc, hsh⟩ := SM.out.row.shape;rw [List.length_map] at hsh;subst hsh;have HTM := ι SJ.out.le;have HIT := ι (List.getElem?_eq_some_iff.1 HIX.out).1;have HTX := ι (show T[i]'HIT.out = x from (List.getElem?_eq_some_iff.1 HIX.out).2)
    by_cases hjg : j < gs.length
    case neg =>
     have hjN : ¬ (j : Int) < (gs.length : Int) := by omega
     go_upto_region 7 with (fail);refine wp_region_list ?_;refine Rg.lr 35 (exec_bin (R := .bool false) .lss _ _ _ rfl rfl rfl (b_lss _ (decide_eq_false hjN))) ?_;go_frame;go_upto_region 5 with (fail);refine wp_region_list ?_;refine Rg.lr 30 (Rg.xm (.int .i64 ((i : Nat) : Int)) _ rfl rfl) ?_;go_frame;refine Rg.lr 31 (exec_bin (R := .int .i64 (((i + 1) : Nat) : Int)) .add _ _ _ rfl rfl rfl (b_add _ (by omega) (by omega))) ?_;go_frame;refine Rg.lr 14 (Rg.xa (.int .i64 (((i + 1) : Nat) : Int)) _ rfl rfl) ?_;go_frame;go_wp2
     go_roundw
     case rel => exact ⟨i + 1, _, _, by go_num, HIT.out, SM, ι (SJ.out.next (by omega) HIT.out), GT⟩
     case measure => simp [intOf]; have := HIT.out; have := HTM.out; omega
    case pos =>
     have hjN : (j : Int) < (gs.length : Int) := by omega
     obtain ⟨gb, go, rfl, hgb, hge⟩ : ∃ gb go, ga = some ⟨gb, go, none⟩ ∧ gb < w.heap.size ∧ ∀ k (h : k < gs.length), ∃ u, w.cell? ⟨gb, go + k, none⟩ = some u ∧ Rg.NP w u gs[k] := by
      obtain ⟨ga', gc', hsh, -, -, -, har⟩ := HG.out.shape;rw [List.length_map] at hsh;simp only [Value.slice.injEq, true_and] at hsh;obtain ⟨rfl, rfl⟩ := hsh;obtain ⟨b, o, e, hb, hx⟩ := har (by rw [List.length_map]; omega);refine ⟨b, o, e, hb, fun j hj => ?_⟩;obtain ⟨u, h1, h2⟩ := hx j (by rw [List.length_map]; exact hj);exact ⟨u, h1, by rw [List.getElem_map] at h2; exact h2⟩
     obtain ⟨gu, hgc, hgu⟩ := hge j hjg;have CG := ι ((Below.cell (p := ⟨gb, go + j, none⟩) SM.out.bel hgb).trans hgc);obtain ⟨gj, HGJ⟩ : ∃ z, Hid (gs[j]'hjg = z) := ⟨_, ι rfl⟩;have GU := ι (show Rg.NP wr gu gj by rw [← HGJ.out]; exact Rg.NP.below hgu SM.out.bel);have GDJ := ι (show Gd D gj by rw [← HGJ.out]; exact HGD.out _ (List.getElem_mem hjg));obtain ⟨fb, fc2, xv, e1, e2, e3, e4, e5⟩ := SM.out.row.at (i := i) (by rw [List.length_map]; exact HIT.out);rw [List.length_map] at e1;simp only [Value.slice.injEq, true_and] at e1;obtain ⟨rfl, rfl⟩ := e1;rw [List.getElem_map, HTX.out] at e5;have CX := ι (show wr.cell? ⟨fb, 0 + i, none⟩ = some xv by rw [Nat.zero_add]; exact e4);have XV := ι (show Rg.NP wr xv x from Rg.FI.ints e5);obtain ⟨y, hy⟩ : ∃ y, Hid (A gj x = y) := ⟨_, ι rfl⟩;have GY := ι (show GL D n y by rw [← hy.out]; exact HGL.out _ _ GDJ.out GX.out);have GKY := ι (GY.out.gk hD hn);have GKT := ι (show ∀ q ∈ T, GK n q from fun q hq => (GT.out q hq).gk hD hn)
     have HJG := ι hjg;have hit : i < T.length := HIT.out;have HAC := ι (HACT.out wr xv gu x gj XV.out GU.out GX.out GDJ.out);rw [hy.out] at HAC;clear hgb hge hgc hgu e2 e3 e4 e5;go_upto_region 7 with (fail);refine wp_region_list ?_;refine Rg.lr 35 (exec_bin (R := .bool true) .lss _ _ _ rfl rfl rfl (b_lss _ (decide_eq_true (by omega)))) ?_;go_frame;go_upto_region 8 with (fail);refine wp_region_list ?_;refine Rg.lr 36 (exec_indexS slPerms _ _ rfl gb (go) (gs.length) gc (j) rfl rfl hjg) ?_;go_frame;refine Rg.lr 37 (Rg.exec_load (v := gu) _ _ rfl ⟨gb, go + j, none⟩ rfl (Rg.run_loadSl _ _ Try.underlying39 CG.out)) ?_;go_frame;refine Rg.lr 16 (Rg.xa (gu) _ rfl rfl) ?_;go_frame;go_upto_region 9 with (fail);refine wp_region_list ?_;refine Rg.lr 38 (Rg.xm ((.func (.func FA) #[] #[])) _ rfl rfl) ?_;go_frame;refine Rg.lr 39 (Rg.xm (.slice (some ⟨fb, 0, none⟩) T.length fc) _ rfl rfl) ?_;go_frame;refine Rg.lr 40 (Rg.xm (.int .i64 ((i : Nat) : Int)) _ rfl rfl) ?_;go_frame
     refine Rg.lr 41 (exec_indexS slIntss _ _ rfl fb (0) (T.length) fc (i) rfl rfl hit) ?_;go_frame;refine Rg.lr 42 (Rg.exec_load (v := xv) _ _ rfl ⟨fb, 0 + i, none⟩ rfl (Rg.run_loadSl _ _ Try.underlying22 CX.out)) ?_;go_frame;refine Rg.lr 43 (Rg.xm (gu) _ rfl rfl) ?_;go_frame;refine list_ask (some 44) rfl rfl _ _ (exec_callV2 FA _ _ _ _ rfl rfl rfl rfl (HFA.out _ _)) ?_;refine (HAC.out).mono ?_;rintro e1 w71 ⟨ya, yc, rfl, hyf, hb⟩;have hyf2 := fi_new (F := F) hyf;refine ⟨_, rfl, ?_⟩;go_frame;replace SM := ι (SM.out.up hb);have YV := ι hyf2;generalize Fup F wr w71 = F1 at *;clear hb;refine Rg.lr 17 (Rg.xa (.slice ya y.length yc) _ rfl rfl) ?_;go_frame;clear hyf hyf2 CG CX XV GU HAC;go_upto_region 10 with (fail);refine wp_region_list ?_;refine Rg.lr 45 (Rg.xm ((.func (.func 144) #[] #[])) _ rfl rfl) ?_;go_frame;refine Rg.lr 46 (Rg.xm (.slice ya y.length yc) _ rfl rfl) ?_;go_frame;refine list_ask (some 47) rfl rfl _ _ (exec_callV1 144 _ _ _ rfl rfl rfl (clPk _ _)) ?_
     refine (packed_any _ y w71 (show Rg.NP _ _ _ from Rg.FI.ints YV.out.fi) (by rw [GY.out.1]; exact hn) (fun x hx => by have := GY.out.2 x hx; omega)).mono ?_;rintro e1 w72 ⟨rfl, hb⟩;refine ⟨_, rfl, ?_⟩;go_frame;replace SM := ι (SM.out.up hb);replace YV := ι (YV.out.up hb);generalize Fup F1 w71 w72 = F2 at *;clear hb;obtain ⟨W7, k1, k2, k3⟩ := key_new w72 y;refine Rg.lr 18 (exec_allocK rfl) ?_;go_frame;refine Rg.list_skip none rfl rfl (Rg.exec_store _ _ _ rfl _ rfl _ rfl k1) ?_;go_frame;replace SM := ι (SM.out.up k3);replace YV := ι (YV.out.up k3);have KA := ι (KeA.mk k2);generalize Fup F2 w72 W7 = F3 at *;clear k1 k2 k3;obtain ⟨bm, hbm⟩ : ∃ b, Hid (decide (y ∈ T) = b) := ⟨_, ι rfl⟩;go_upto_region 11 with (fail);refine wp_region_list ?_;refine Rg.lr 48 (Rg.xm ((.map (some w.heap.size))) _ rfl rfl) ?_;go_frame;refine Rg.lr 49 (Rg.exec_load _ _ rfl ⟨w72.heap.size, 0, none⟩ rfl (run_loadKey KA.out.k)) ?_;go_frame
     refine Rg.lr 50 (Rg.exec_lookup _ _ _ _ rfl _ _ rfl rfl ((look_run SM.out.mp GKT.out GKY.out).trans (by rw [hbm.out]))) ?_;go_frame
     cases bm with
     | true =>
      have HYT := ι (show A (gs[j]'HJG.out) (T[i]'HIT.out) ∈ T by rw [HGJ.out, HTX.out, hy.out]; exact of_decide_eq_true hbm.out);go_upto_region 16 with (fail);refine wp_region_list ?_;refine Rg.lr 61 (exec_bin (R := .int .i64 (((j + 1) : Nat) : Int)) .add _ _ _ rfl rfl rfl (b_add _ (by omega) (by omega))) ?_;go_frame;refine Rg.lr 34 (Rg.xm (.int .i64 (((j + 1) : Nat) : Int)) _ rfl rfl) ?_;go_frame;go_wp2
      go_roundw
      case rel => exact ⟨j + 1, _, _, by go_num, HJG.out, SM, ι (SJ.out.hit HJG.out HIT.out HYT.out), GT, HIX⟩
      case measure => simp [intOf]; have := HJG.out; omega
     | false =>
      have HYN := ι (show A (gs[j]'HJG.out) (T[i]'HIT.out) ∉ T by rw [HGJ.out, HTX.out, hy.out]; exact of_decide_eq_false hbm.out)
      by_cases hful : T.length = most
      case pos =>
       skip
       go_upto_region 12 with (fail);refine wp_region_list ?_;refine Rg.lr 51 (Rg.xm (.slice (some ⟨fb, 0, none⟩) T.length fc) _ rfl rfl) ?_;go_frame;refine Rg.lr 52 (exec_len _ _ _ rfl Try.underlying29 _ _ _ rfl) ?_;go_frame;refine Rg.lr 53 (Rg.xm (.int .i64 ((most : Nat) : Int)) _ rfl rfl) ?_;go_frame;refine Rg.lr 54 (exec_bin (R := .bool true) .eql _ _ _ rfl rfl rfl (b_eql _ (decide_eq_true (by omega)))) ?_;go_frame;go_upto_region 13 with (fail);refine wp_region_list ?_;refine Rg.lr 10 (Rg.xa (.slice none 0 0) _ rfl rfl) ?_;go_frame;refine Rg.lr 11 (Rg.xa (.bool false) _ rfl rfl) ?_;go_frame;go_wp2
       go_ret2
       exact ⟨SM.out.bel, .inr ⟨rfl, SJ.out.over HJG.out HIT.out HYN.out hful⟩⟩
      case neg =>
       skip
       go_upto_region 12 with (fail);refine wp_region_list ?_;refine Rg.lr 51 (Rg.xm (.slice (some ⟨fb, 0, none⟩) T.length fc) _ rfl rfl) ?_;go_frame;refine Rg.lr 52 (exec_len _ _ _ rfl Try.underlying29 _ _ _ rfl) ?_;go_frame;refine Rg.lr 53 (Rg.xm (.int .i64 ((most : Nat) : Int)) _ rfl rfl) ?_;go_frame;refine Rg.lr 54 (exec_bin (R := .bool false) .eql _ _ _ rfl rfl rfl (b_eql _ (decide_eq_false (by omega)))) ?_;go_frame;obtain ⟨X8, p1, a8, c8, Y8, p2, hsm⟩ := SM.out.put GKT.out GKY.out (of_decide_eq_false hbm.out) YV.out.fi ⟨_, _, _, rfl⟩ (by have := HTM.out; omega) 29;go_upto_region 14 with (fail);refine wp_region_list ?_;refine Rg.lr 55 (Rg.xm ((.map (some w.heap.size))) _ rfl rfl) ?_;go_frame;refine Rg.lr 56 (Rg.exec_load _ _ rfl ⟨w72.heap.size, 0, none⟩ rfl (run_loadKey KA.out.k)) ?_;go_frame;refine Rg.list_skip none rfl rfl (Rg.exec_mapUpdate _ _ _ _ rfl _ _ _ rfl rfl rfl p1) ?_;go_frame
       go_upto_region 15 with (fail);refine wp_region_list ?_;refine Rg.lr 57 (Rg.xm (.slice (some ⟨fb, 0, none⟩) T.length fc) _ rfl rfl) ?_;go_frame;refine Rg.lr 58 (Rg.xm (.slice ya y.length yc) _ rfl rfl) ?_;go_frame;refine Rg.lr 59 (Rg.exec_buildSlice _ _ _ rfl (.slice ya y.length yc) rfl (run_build1L X8 _ ⟨_, _, _, rfl⟩)) ?_;go_frame;refine Rg.lr 60 (Rg.exec_append _ _ _ rfl rfl rfl p2) ?_;go_frame;refine Rg.lr 13 (Rg.xa (.slice a8 (T.length + 1) c8) _ rfl rfl) ?_;go_frame;have HSM := ι hsm;have hsj := SJ.out.new HJG.out HIT.out HYN.out (by have := HTM.out; omega);rw [HGJ.out, HTX.out, hy.out] at hsj;have HSJ := ι hsj
       have HGT := ι (show ∀ q ∈ T ++ [y], GL D n q from fun q hq => by
        rcases List.mem_append.1 hq with e | e
        ·exact GT.out q e
        ·rw [List.mem_singleton] at e; subst e; exact GY.out)
       have HIX2 := ι (show (T ++ [y])[i]? = some x by rw [List.getElem?_append_left HIT.out]; exact HIX.out);clear p1 p2 hsm hsj SM KA YV;go_upto_region 16 with (fail);refine wp_region_list ?_;refine Rg.lr 61 (exec_bin (R := .int .i64 (((j + 1) : Nat) : Int)) .add _ _ _ rfl rfl rfl (b_add _ (by omega) (by omega))) ?_;go_frame;refine Rg.lr 34 (Rg.xm (.int .i64 (((j + 1) : Nat) : Int)) _ rfl rfl) ?_;go_frame;go_wp2
       go_roundw
       case rel => exact ⟨j + 1, _, _, by go_num, HJG.out, HSM, HSJ, HGT, HIX2⟩
       case measure => simp [intOf]; have := HJG.out; omega

theorem Fhcl2 (args : Array Value) (w : World) : (callFunc 141 args).run Try.prog w = .ok (.enter 141 args) w := by kernel_rfl
def AsksI (F : FuncId) (caps : Array Value) (mv : List Int) (p : Int → Bool) (w : World) : Prop :=
 ∀ x, x ∈ mv → ∀ w1, Below w.heap.size w w1 → Calls Try.prog F (#[.int .i64 x] ++ caps) w1 fun e w2 => e = .returned (.bool (p x)) ∧ Below w1.heap.size w1 w2
def idxJ (mv : List Int) (p : Int → Bool) : Int := match mv.findIdx? p with
 | some i => i
 | none => -1
theorem idxJ_hit {mv : List Int} {p : Int → Bool} {k : Nat} (hk : k < mv.length) (h : ∀ i (hi : i < mv.length), i < k → p mv[i] = false) (hp : p mv[k] = true) : idxJ mv p = k := by
 have : mv.findIdx? p = some k := by
  rw [List.findIdx?_eq_some_iff_getElem];exact ⟨hk, hp, fun j hj => by simp [h j (by omega) hj]⟩
 unfold idxJ; rw [this]
theorem idxJ_none {mv : List Int} {p : Int → Bool} (h : ∀ i (hi : i < mv.length), p mv[i] = false) : idxJ mv p = -1 := by
 have : mv.findIdx? p = none := by
  rw [List.findIdx?_eq_none_iff];intro x hx;obtain ⟨i, hi, rfl⟩ := List.getElem_of_mem hx;exact h i hi
 unfold idxJ; rw [this]
theorem idxJ_any (mv : List Int) (p : Int → Bool) : decide (0 ≤ idxJ mv p) = mv.any p := by
 unfold idxJ
 cases h : mv.findIdx? p with
 | none =>
  rw [List.findIdx?_eq_none_iff] at h
  have : mv.any p = false := by rw [List.any_eq_false]; intro x hx; simp [h x hx]
  rw [this]; rfl
 | some i =>
  rw [List.findIdx?_eq_some_iff_getElem] at h;obtain ⟨h1, h2, _⟩ := h
  have : mv.any p = true := by rw [List.any_eq_true]; exact ⟨_, List.getElem_mem h1, h2⟩
  rw [this]; simp
theorem indexFuncI_any (mvv : Value) (mv : List Int) (F : FuncId) (caps : Array Value) (p : Int → Bool) (w : World) (h : Rg.Ints w mvv mv) (hl : mv.length ≤ 1000) (hF : ∀ args w, (callFunc F args).run Try.prog w = .ok (.enter F args) w) (hf : AsksI F caps mv p w) :
  Calls Try.prog 174 #[mvv, .func (.func F) #[] caps] w fun e w' => e = .returned (.int .i64 (idxJ mv p)) ∧ Below w.heap.size w w' := by
 obtain ⟨ad, cap, rfl, hc, hm, _, hcell⟩ := h.shape;have Hr := ι hcell;have HF := ι hf;clear h hcell hf
 go_enter Try.func174, Try.ntmps174
 go_wp2
 go_loopw [8] (fun vi wr => ∃ k : Nat, k ≤ mv.length ∧ vi = .int .i64 k ∧ Hid (∀ i (hi : i < mv.length), i < k → p mv[i] = false) ∧ Hid (Below w.heap.size w wr)) (fun vi _ => mv.length - (intOf vi).toNat)
 case atStart => exact ⟨0, by omega, rfl, fun i hi h0 => by omega, Below.refl _ _⟩
 case round =>
  obtain ⟨k, hk, rfl, hno, hb⟩ := hrel
  by_cases hlt : k < mv.length
  ·obtain ⟨b, o, rfl, hbl, hbr⟩ := Hr.out (by omega)
   have eu := hbr k hlt;obtain ⟨x, hx⟩ : ∃ x, x = mv[k] := ⟨_, rfl⟩;rw [← hx] at eu;have e0 : wr.cell? ⟨b, o + k, none⟩ = some (.int .i64 x) := (hb.out.cell (p := ⟨b, o + k, none⟩) hbl).trans eu;have hcall := HF.out x (by rw [hx]; exact List.getElem_mem _) wr hb.out;have hlt' := ι hlt;have Hx := ι hx;clear hbr eu hx
   cases hp : p x
   ·have Hp := ι hp
    have Hcall := ι (show Calls Try.prog F (#[.int .i64 x] ++ caps) wr (fun e w2 => e = .returned (.bool false) ∧ Below wr.heap.size wr w2) from hcall.mono fun e w2 ⟨h1, h2⟩ => ⟨h1.trans (by rw [Hp.out]), h2⟩);clear hcall hp
    go_wp2_with (refine Hcall.out.mono ?_; rintro e w1 ⟨rfl, hb1⟩)
    go_roundw
    case rel => exact ⟨k + 1, by omega, by go_num, fun i hi h0 => (by
     rcases Nat.lt_or_ge i k with h1 | h1
     ·exact hno.out i hi h1
     ·obtain rfl : i = k := by omega
      rw [← Hx.out]; exact Hp.out), Rg.acc hb.out hb1⟩
    case measure => simp [intOf]; omega
   ·have Hp := ι hp
    have Hcall := ι (show Calls Try.prog F (#[.int .i64 x] ++ caps) wr (fun e w2 => e = .returned (.bool true) ∧ Below wr.heap.size wr w2) from hcall.mono fun e w2 ⟨h1, h2⟩ => ⟨h1.trans (by rw [Hp.out]), h2⟩);clear hcall hp
    go_wp2_with (refine Hcall.out.mono ?_; rintro e w1 ⟨rfl, hb1⟩)
    go_ret;exact ⟨Rg.ret_int (idxJ_hit hlt'.out hno.out (by rw [← Hx.out]; exact Hp.out)).symm, Rg.acc hb.out hb1⟩
  ·obtain rfl : k = mv.length := by omega
   go_wp2;go_ret;exact ⟨Rg.ret_int (idxJ_none (fun i hi => hno.out i hi hi)).symm, hb.out⟩
theorem containsFuncI_any (mvv : Value) (mv : List Int) (F : FuncId) (caps : Array Value) (p : Int → Bool) (w : World) (h : Rg.Ints w mvv mv) (hl : mv.length ≤ 1000) (hF : ∀ args w, (callFunc F args).run Try.prog w = .ok (.enter F args) w) (hf : AsksI F caps mv p w) :
  Calls Try.prog 141 #[mvv, .func (.func F) #[] caps] w fun e w' => e = .returned (.bool (mv.any p)) ∧ Below w.heap.size w w' := by
 have hi := ι (indexFuncI_any mvv mv F caps p w h hl hF hf);have ha := idxJ_any mv p;generalize idxJ mv p = r at hi ha;generalize mv.any p = b at ha ⊢;have Ha := ι ha;clear ha h hf hF
 go_enter Try.func141, Try.ntmps141
 go_wp2_with (refine hi.out.mono ?_; rintro e w1 ⟨rfl, hb1⟩)
 go_ret;exact ⟨Rg.ret_bool Ha.out, hb1⟩
theorem exec_nilTi {o : Oper} {a : Act} {w : World} {c : Nat} (x y : Operand) (ho : o.op = .binOp .eql 22 x y 22) (hx : a.eval x = .slice none 0 c) (hy : a.eval y = .slice none 0 0) : (execOp a.eval o).run Try.prog w = .ok (.value (.bool true)) w := by
 have h1 : (binOp .eql 22 (.slice none 0 c) (.slice none 0 0)).run Try.prog w = .ok (.bool true) w := by kernel_rfl
 have hg : (eqGuard .eql 22 x y (.slice none 0 c) (.slice none 0 0)).run Try.prog w = .ok () w := by
  simp [eqGuard]
 unfold execOp;simp only [ho, hx, hy, Sem.run_bind, Sem.run_pure, hg, h1, Result.andThen_ok]
theorem CloneL_any (v : Value) (l : List Int) (w : World) (h : Rg.Ints w v l) (hl : l.length ≤ 1000000) :
  Calls Try.prog 117 #[v] w fun e w' => ∃ v', e = .returned v' ∧ Rg.Ints w' v' l ∧ Below w.heap.size w w' := by
 by_cases h1 : 1 ≤ l.length
 ·exact (CloneI_any v l w h h1 hl).mono fun e w' ⟨v', e1, e2, e3⟩ => ⟨v', e1, Rg.Ints.of_row e2 (by omega), e3⟩
 ·obtain rfl : l = [] := List.length_eq_zero_iff.1 (by omega)
  obtain ⟨la, lc, rfl, _, _, _, _⟩ := h.shape;have HI := ι h;have K := ι (Below.refl w.heap.size w);clear h h1
  cases la with
  | none =>
   go_enter Try.func117, Try.ntmps117
   go_upto_region 1 with (fail);refine wp_region_list ?_;refine Rg.lr 3 (Rg.xm (.slice none 0 lc) _ rfl rfl) ?_;go_frame;refine Rg.lr 4 (exec_nilTi _ _ rfl rfl rfl) ?_;go_frame;go_wp2;go_ret;exact ⟨_, rfl, Rg.Ints.of_row (World.ownsRow_nil w w.heap.size 3 1) (by decide), K.out⟩
  | some ad =>
   go_enter Try.func117, Try.ntmps117
   go_upto_region 1 with (fail);refine wp_region_list ?_;refine Rg.lr 3 (Rg.xm (.slice (some ad) 0 lc) _ rfl rfl) ?_;go_frame;refine Rg.lr 4 (exec_nilFi _ _ rfl rfl rfl) ?_;go_frame;go_upto_region 3 with (fail);refine wp_region_list ?_;have hnew := Own0.new (B := w.heap.size) w (Nat.le_refl _);refine Rg.lr 5 (Rg.exec_build0 slInts rfl w) ?_;go_frame;have hb := (Below.refl w.heap.size w).alloc (Nat.le_refl _) (.cells #[] 3);generalize w.alloc (.cells #[] 3) = w1 at *;replace HI := ι (HI.out.below hb);replace K := ι (Rg.acc K.out hb);clear hb;have FO := ι hnew;refine Rg.lr 6 (Rg.xm (.slice (some ad) 0 lc) _ rfl rfl) ?_;go_frame;obtain ⟨v5, X5, r1, r2, r3⟩ := Rg.appL_run (P := Try.prog) slInts 22 FO.out.1 K.out.size HI.out ints_cells (by decide);refine Rg.lr 7 (Rg.exec_append _ _ _ rfl rfl rfl r1) ?_;go_frame;refine Rg.lr 2 (Rg.xa (v5) _ rfl rfl) ?_;go_frame;have R2 := ι (show Rg.Ints X5 v5 [] from Rg.Ints.of_row (l := []) r2 (by decide))
   have K5 := ι (K.out.grown r3 K.out.size (fun j hj => (FO.out.1.lt j hj).1));clear r1 r2 r3 FO;go_wp2;go_ret;exact ⟨_, rfl, R2.out, K5.out⟩
theorem clR1 (args : Array Value) (w : World) : (callFunc 142 args).run Try.prog w = .ok (.enter 142 args) w := by kernel_rfl
theorem right1_any (b : Nat) (a : Option Addr) (c : Nat) (d : Int) (ll : List (List Int)) (q : Int) (w : World) (h : GI w b d a ll c) :
  Calls Try.prog 142 #[.int .i64 q, .pointer (some ⟨b, 0, none⟩)] w fun e w' => e = .returned (.bool (!isPt d q)) ∧ Below w.heap.size w w' := by
 have G0 := ι h;have K := ι (Below.refl w.heap.size w);clear h
 go_enter Try.func142, Try.ntmps142
 go_upto_region 1 with (fail);refine wp_region_list ?_;refine Rg.lr 4 (Rg.exec_load (v := .agg #[.int .i64 d, .slice a ll.length c]) _ _ rfl ⟨b, 0, none⟩ rfl (run_loadG G0.out.c0 G0.out.c1)) ?_;go_frame;refine Rg.lr 5 (Rg.xm (.int .i64 q) _ rfl rfl) ?_;go_frame;refine list_ask (some 6) rfl rfl _ _ (exec_fn 94 _ _ _ rfl rfl rfl (clPnt _ _)) ?_;refine (point_any _ d q w).mono ?_;rintro e1 w1 ⟨rfl, hb⟩;refine ⟨_, rfl, ?_⟩;go_frame;replace G0 := ι (G0.out.below hb);replace K := ι (Rg.acc K.out hb);clear hb;refine Rg.lr 7 (exec_not _ _ (isPt d q) rfl rfl) ?_;go_frame;refine Rg.lr 3 (Rg.xa (.bool (!(isPt d q))) _ rfl rfl) ?_;go_frame;go_wp2;go_ret;exact ⟨rfl, K.out⟩
def rgtE (d : Int) (ll : List (List Int)) (l : List Int) : Int := if Ma.gchk d ll = 0 then (if l.any (fun q => !isPt d q) then 2 else 0) else Ma.gchk d ll
theorem right_any (gv : Value) (d : Int) (ll : List (List Int)) (lv : Value) (l : List Int) (w : World) (h : Rg.Rows w gv ll) (hl : Rg.Ints w lv l) (hl2 : l.length ≤ 1000) :
  Calls Try.prog 86 #[.agg #[.int .i64 d, gv], lv] w fun e w' => e = .returned (.int .i64 (rgtE d ll l)) ∧ Below w.heap.size w w' := by
 obtain ⟨la, lc, rfl, _⟩ := hl.shape;obtain ⟨ck, hck⟩ : ∃ x, Hid (Ma.gchk d ll = x) := ⟨_, ι rfl⟩;have HCK := ι fun v W (hW : Rg.Rows W v ll) => orbitCheck_any v d ll W hW;rw [hck.out] at HCK;obtain ⟨an, han⟩ : ∃ x, Hid (l.any (fun q => !isPt d q) = x) := ⟨_, ι rfl⟩;have HL := ι hl;have HL2 := ι hl2;clear hl hl2;obtain ⟨ga, gc, rfl, hga, hba⟩ := GI.enter (d) h;have K := ι hba;have G0 := ι hga;clear h hga hba;replace HL := ι (HL.out.below K.out)
 go_enter Try.func86, Try.ntmps86
 go_upto_region 1 with (fail);generalize w.alloc (.cells #[.int .i64 (d), .slice ga ll.length gc] 26) = w0 at *;go_upto_region 1 with (fail);refine wp_region_list ?_;refine Rg.lr 6 (Rg.exec_load (v := .agg #[.int .i64 d, .slice ga ll.length gc]) _ _ rfl ⟨w.heap.size, 0, none⟩ rfl (run_loadG G0.out.c0 G0.out.c1)) ?_;go_frame;refine list_ask (some 7) rfl rfl _ _ (exec_fn1 48 _ _ rfl rfl (clChk _ _)) ?_;refine (HCK.out _ _ G0.out.rows).mono ?_;rintro e1 w1 ⟨rfl, hb⟩;refine ⟨_, rfl, ?_⟩;go_frame;replace G0 := ι (G0.out.below hb);replace HL := ι (HL.out.below hb);replace K := ι (Rg.acc K.out hb);clear hb;refine Rg.lr 5 (Rg.xa (.int .i64 ck) _ rfl rfl) ?_;go_frame
 by_cases hc0 : ck = 0
 case neg =>
  skip
  go_upto_region 2 with (fail);refine wp_region_list ?_;refine Rg.lr 8 (Rg.xm (.int .i64 ck) _ rfl rfl) ?_;go_frame;refine Rg.lr 9 (exec_bin (R := .bool true) .neq _ _ _ rfl rfl rfl (b_neqB _ (decide_eq_true hc0))) ?_;go_frame;go_upto_region 3 with (fail);refine wp_region_list ?_;refine Rg.lr 10 (Rg.xm (.int .i64 ck) _ rfl rfl) ?_;go_frame;refine Rg.lr 4 (Rg.xa (.int .i64 ck) _ rfl rfl) ?_;go_frame;go_wp2;go_ret;exact ⟨Rg.ret_int (by unfold rgtE; rw [if_neg (by rw [hck.out]; exact hc0), hck.out]), K.out⟩
 case pos =>
  subst hc0;go_upto_region 4 with (fail);refine wp_region_list ?_;refine Rg.lr 11 (Rg.xm (.slice la l.length lc) _ rfl rfl) ?_;go_frame;refine Rg.lr 12 (exec_makeFunc (v := .pointer (some ⟨w.heap.size, 0, none⟩)) _ _ rfl rfl) ?_;go_frame;have hcf := containsFuncI_any _ l 142 #[.pointer (some ⟨w.heap.size, 0, none⟩)] (fun q => !isPt d q) w1 HL.out (by have := HL2.out; omega) clR1 (fun x _ w9 hb9 => right1_any _ _ _ _ _ _ _ (GI.below G0.out hb9));rw [han.out] at hcf;refine list_ask (some 13) rfl rfl _ _ (exec_fn 141 _ _ _ rfl rfl rfl (Fhcl2 _ _)) ?_;refine (hcf).mono ?_;rintro e1 w2 ⟨rfl, hb⟩;refine ⟨_, rfl, ?_⟩;go_frame;replace G0 := ι (G0.out.below hb);replace HL := ι (HL.out.below hb);replace K := ι (Rg.acc K.out hb);clear hb
  cases an with
  | true =>
   go_upto_region 5 with (fail);refine wp_region_list ?_;refine Rg.lr 4 (Rg.xa (.int .i64 ((2 : Nat) : Int)) _ rfl rfl) ?_;go_frame;go_wp2;go_ret;exact ⟨Rg.ret_int (by unfold rgtE; rw [if_pos hck.out, if_pos han.out]; rfl), K.out⟩
  | false =>
   go_upto_region 6 with (fail);refine wp_region_list ?_;refine Rg.lr 4 (Rg.xa (.int .i64 ((0 : Nat) : Int)) _ rfl rfl) ?_;go_frame;go_wp2;go_ret;exact ⟨Rg.ret_int (by unfold rgtE; rw [if_pos hck.out, if_neg (by rw [han.out]; decide)]; rfl), K.out⟩
end Go.Proofs.Ytcfomoknlchemaa
