/- Lemmas and contracts on the way to the statement; no condition of their own beyond those written. -/
import Derived.Test.YtcfomoknlchemaaXHitoHq
import Derived.Deep.MidRow
import Derived.Deep.WholeRow
import Derived.Laws.CopyOwn
import Derived.RangeFuncWrites
import Derived.RangeFuncNested
import Derived.RangeFuncBox
import Derived.RangeFuncLeaves
import Derived.Shelf.Abstract
import Derived.OwnWalkIn
import Derived.TacticsInMore
import Derived.LoopNIn
import Derived.LoopIn
import Derived.Maps.AppendAt
import Derived.Sort.CutIn
import Derived.Deep.CutRange
import Derived.Deep.CutBlock
import Derived.IntWalk
import Derived.Great.BuildSlice
import Derived.ArgAppend
import Derived.StillTailTactics
import Derived.WalkSpells
import Derived.WalkLawsBesides
import Derived.OwnWalk
import Derived.OrdersHeld
import Derived.Deep.OwnRows
import Derived.WalkKit
import Derived.Lib.Hide
import Derived.Laws.OwnMore
import Derived.Test.YtcfomoknlchemaaProg
import Derived.Outline
import Derived.Deep.DeepFit
import Derived.BigQuiet
import Derived.Deep.QuietTactic
import Derived.Sort.OwnSortedInts
import Derived.WideMake
import Derived.MapKept
import Derived.ChangeMaps5
import Derived.Shelf.Sort.Plain
import Derived.Lib.ConvBytes
import Derived.ChangeKeysEq
import Derived.Laws.Cells
import Derived.Laws.Rows
import Derived.Laws.Tables
import Derived.OrdersIn
import Derived.TacticsIn
import Derived.Deep.LoopGhost
import Derived.Lib.SlicesSearch
import Derived.Stop.BytesEq
import Derived.Shelf.SlSortCmp.Whole1
import Derived.Ground.SlsfProg
import Derived.Lib.SmallJoins
import Derived.Deep.Matrix
set_option linter.unusedVariables false
set_option linter.unusedSimpArgs false
set_option maxRecDepth 100000
set_option maxHeartbeats 8000000
namespace Go.Proofs.Ytcfomoknlchemaa
open Go.RowKit
open Go.Proofs
open Go.Proofs.Ob
open Go.Proofs.Cm (Gd)
attribute [local irreducible] Go.Calls Go.wpList
theorem Hpcl0 (args : Array Value) (w : World) : (callFunc 61 args).run Try.prog w = .ok (.enter 61 args) w := by kernel_rfl
theorem Hpcl1 (args : Array Value) (w : World) : (callFunc 63 args).run Try.prog w = .ok (.enter 63 args) w := by kernel_rfl
theorem Hpcl2 (args : Array Value) (w : World) : (callFunc 67 args).run Try.prog w = .ok (.enter 67 args) w := by kernel_rfl
theorem Hpcl3 (args : Array Value) (w : World) : (callFunc 65 args).run Try.prog w = .ok (.enter 65 args) w := by kernel_rfl
theorem Hpcl4 (args : Array Value) (w : World) : (callFunc 62 args).run Try.prog w = .ok (.enter 62 args) w := by kernel_rfl
theorem Hpcl5 (args : Array Value) (w : World) : (callFunc 64 args).run Try.prog w = .ok (.enter 64 args) w := by kernel_rfl
theorem Hpcl6 (args : Array Value) (w : World) : (callFunc 41 args).run Try.prog w = .ok (.enter 41 args) w := by kernel_rfl
theorem All_yes {D : Nat} {gs : List (List Nat)} {T0 : List (List Nat)} (hz : Ma.gchk ((D : Nat) : Int) (gs.map Ma.ofN) = 0) (ht : trn gs D = true) (hD : D ≤ 24) (hT : Bk.AllB D gs.length (img gs) T0) (ha : AscL T0) (hf : T0.length ≤ 200000) (gv : Value) (w : World) (h : Rg.Rows w gv (gs.map Ma.ofN)) :
  Calls Try.prog 63 #[.agg #[.int .i64 ((D : Nat) : Int), gv]] w fun e w' => ∃ v, e = .returned (.tuple #[v, .int .i64 0]) ∧ Rg.Rows w' v (T0.map Ma.ofN) ∧ Below w.heap.size w w' := by
 refine (All_any gv _ _ w h (fun D' gs' h1 h2 hg _ _ T hn hr => ?_)).mono ?_
 ·obtain rfl : D = D' := by omega
  obtain rfl := map_ofN_inj h2;exact Nat.le_trans (nodup_le hn fun y hy => (hT.2 y).2 (hr y hy)) hf
 ·rintro e w' ⟨hb, ⟨h0, _⟩ | ⟨_, D', gs', h1, h2, ⟨h3, _⟩ | ⟨_, h3, _⟩ | ⟨_, _, T, v, rfl, hr, hall, hasc⟩⟩⟩
  ·exact absurd hz h0
  ·obtain rfl : D = D' := by omega
   obtain rfl := map_ofN_inj h2;rw [ht] at h3; cases h3
  ·omega
  ·obtain rfl : D = D' := by omega
   obtain rfl := map_ofN_inj h2;rw [allB_eq hall hasc hT ha] at hr;exact ⟨v, rfl, hr, hb⟩
theorem Prim_b {D : Nat} {gs : List (List Nat)} {b : Bool} (hz : Ma.gchk ((D : Nat) : Int) (gs.map Ma.ofN) = 0) (hb : b = true ↔ PrB D gs) (gv : Value) (w : World) (h : Rg.Rows w gv (gs.map Ma.ofN)) :
  Calls Try.prog 65 #[.agg #[.int .i64 ((D : Nat) : Int), gv]] w fun e w' => e = .returned (.tuple #[.bool b, .int .i64 0]) ∧ Below w.heap.size w w' := by
 refine (Primitive_any gv _ _ w h).mono ?_
 rintro e w' ⟨hb', ⟨h0, _⟩ | ⟨_, D', gs', b', h1, h2, rfl, h3⟩⟩
 ·exact absurd hz h0
 ·obtain rfl : D = D' := by omega
  obtain rfl := map_ofN_inj h2
  have e : b' = b := by
   cases b <;> cases b'
   ·rfl
   ·exact absurd (hb.2 (h3.1 rfl)) (by decide)
   ·exact absurd (h3.2 (hb.1 rfl)) (by decide)
   ·rfl
  rw [e]; exact ⟨rfl, hb'⟩
theorem run_buildL3 (X : World) (u1 u2 u3 : Value) (h1 : ∃ a n c, u1 = .slice a n c) (h2 : ∃ a n c, u2 = .slice a n c) (h3 : ∃ a n c, u3 = .slice a n c) : (Instr.buildSlice 29 3 #[(0, u1), (1, u2), (2, u3)]).run Try.prog X = .ok (.slice (some ⟨X.heap.size, 0, none⟩) 3 3) (X.alloc (.cells #[u1, u2, u3] 22)) := by
 obtain ⟨i0, hi, hz0, hz1, hz2⟩ := info_parts infoIntsV;obtain ⟨_, _, _, rfl⟩ := h1;obtain ⟨_, _, _, rfl⟩ := h2;obtain ⟨_, _, _, rfl⟩ := h3;refine run_buildSlice X 29 22 3 _ _ i0 _ Try.underlying29 hi hz0 (by rw [hz1]; decide) (by rw [hz1]; decide) ?_;generalize (fun x => ((Value.slice none 0 0).cells)[x % (Value.slice none 0 0).cells.size]!) = f;rw [hz1];have h1 : Array.range (3 * 1) = #[0, 1, 2] := rfl;simp [Instr.fill, Value.cells, h1]
theorem exec_buildL3 {o : Oper} {a : Act} {w w' : World} {v u1 u2 u3 : Value} (x1 x2 x3 : Operand) (ho : o.op = .buildSlice 29 3 #[(0, x1), (1, x2), (2, x3)]) (h1 : a.eval x1 = u1) (h2 : a.eval x2 = u2) (h3 : a.eval x3 = u3)
  (hr : (Instr.buildSlice 29 3 #[(0, u1), (1, u2), (2, u3)]).run Try.prog w = .ok v w') : (execOp a.eval o).run Try.prog w = .ok (.value v) w' := by
 subst h1 h2 h3;unfold execOp;simp only [ho, Sem.run_bind, Sem.run_pure];simp only [List.map_toArray, List.map_cons, List.map_nil];rw [hr];rfl
theorem rows3_new {w : World} {u1 u2 u3 : Value} {l1 l2 l3 : List Int} (h1 : Rg.Ints w u1 l1) (h2 : Rg.Ints w u2 l2) (h3 : Rg.Ints w u3 l3) (t : TypeId) : Rg.Rows (w.alloc (.cells #[u1, u2, u3] t)) (.slice (some ⟨w.heap.size, 0, none⟩) 3 3) [l1, l2, l3] := by
 refine ⟨[u1, u2, u3], ⟨_, 3, rfl, Nat.le_refl _, by show 3 ≤ _; unfold maxLen; omega, by simp [Rg.big], fun _ => ⟨w.heap.size, 0, rfl, by simp, fun i hi => ?_⟩⟩, rfl, fun i a b => ?_⟩
 ·rw [Nat.zero_add, Rg.cellNew]
  match i, hi with
  | 0, _ => rfl
  | 1, _ => rfl
  | 2, _ => rfl
 ·match i, a, b with
  | 0, _, _ => exact h1.below ((Below.refl _ _).alloc (Nat.le_refl _) _)
  | 1, _, _ => exact h2.below ((Below.refl _ _).alloc (Nat.le_refl _) _)
  | 2, _, _ => exact h3.below ((Below.refl _ _).alloc (Nat.le_refl _) _)
theorem awake12_any (w : World) : Calls Try.prog 53 #[] w fun e w' => e = .returned (.bool true) ∧ Below w.heap.size w w' := by
 have K := ι (Below.refl w.heap.size w)
 go_enter Try.func53, Try.ntmps53
 go_upto_region 0 with (fail);refine wp_region_list ?_;refine Rg.lr 0 (Rg.xa (.bool false) _ rfl rfl) ?_;go_frame;go_upto_region 1 with (fail);refine wp_region_list ?_;refine list_ask (some 6) rfl rfl _ _ (exec_fn1 61 _ _ rfl rfl (Hpcl0 _ _)) ?_;refine (cyclic_any 4 w (by decide) (by decide)).mono ?_;rintro e1 w1 ⟨a1, c1, rfl, hg1, hb⟩;refine ⟨_, rfl, ?_⟩;go_frame;replace K := ι (Rg.acc K.out hb);clear hb;have HG1 := ι hg1;refine list_ask (some 7) rfl rfl _ _ (exec_fn1 63 _ _ rfl rfl (Hpcl1 _ _)) ?_;refine (All_yes (T0 := [[0, 0, 0, 0], [0, 1, 0, 1], [0, 1, 2, 3]]) cy4_g cy4_t (by decide) cy4_all cy4_asc (by decide) _ w1 HG1.out).mono ?_;rintro e1 w2 ⟨v, rfl, hv, hb⟩;refine ⟨_, rfl, ?_⟩;go_frame;replace HG1 := ι (HG1.out.below hb);replace K := ι (Rg.acc K.out hb);clear hb;have AV := ι hv;refine Rg.lr 5 (Rg.xm (.tuple #[v, .int .i64 0]) _ rfl rfl) ?_;go_frame;refine Rg.lr 8 (exec_extract (v := v) _ _ rfl rfl rfl) ?_;go_frame
 refine Rg.lr 9 (exec_extract (v := .int .i64 0) _ _ rfl rfl rfl) ?_;go_frame;refine Rg.lr 1 (Rg.xa (v) _ rfl rfl) ?_;go_frame;refine Rg.lr 2 (Rg.xa (.int .i64 0) _ rfl rfl) ?_;go_frame;clear hv hg1 HG1;go_upto_region 2 with (fail);refine wp_region_list ?_;refine list_ask (some 11) rfl rfl _ _ (exec_fn0 67 _ rfl (Hpcl2 _ _)) ?_;refine (four12_any w2).mono ?_;rintro e1 w3 ⟨ga, gn, gc, rfl, hgr, hb⟩;refine ⟨_, rfl, ?_⟩;go_frame;replace AV := ι (AV.out.below hb);replace K := ι (Rg.acc K.out hb);clear hb;have G4 := ι hgr.rows;refine list_ask (some 12) rfl rfl _ _ (exec_fn1 65 _ _ rfl rfl (Hpcl3 _ _)) ?_;refine (Prim_b (D := 4) (gs := gs4) (b := true) gs4_g ⟨fun _ => gs4_p, fun _ => rfl⟩ _ w3 G4.out).mono ?_;rintro e1 w4 ⟨rfl, hb⟩;refine ⟨_, rfl, ?_⟩;go_frame;replace AV := ι (AV.out.below hb);replace G4 := ι (G4.out.below hb);replace K := ι (Rg.acc K.out hb);clear hb;refine Rg.lr 10 (Rg.xm (.tuple #[.bool true, .int .i64 0]) _ rfl rfl) ?_;go_frame
 refine Rg.lr 13 (exec_extract (v := .bool true) _ _ rfl rfl rfl) ?_;go_frame;refine Rg.lr 14 (exec_extract (v := .int .i64 0) _ _ rfl rfl rfl) ?_;go_frame;refine Rg.lr 3 (Rg.xa (.bool true) _ rfl rfl) ?_;go_frame;refine Rg.lr 4 (Rg.xa (.int .i64 0) _ rfl rfl) ?_;go_frame;clear hgr G4;go_upto_region 3 with (fail);refine wp_region_list ?_;refine list_ask (some 15) rfl rfl _ _ (exec_fn1 61 _ _ rfl rfl (Hpcl0 _ _)) ?_;refine (cyclic_any 4 w4 (by decide) (by decide)).mono ?_;rintro e1 w5 ⟨a2, c2, rfl, hg2, hb⟩;refine ⟨_, rfl, ?_⟩;go_frame;replace AV := ι (AV.out.below hb);replace K := ι (Rg.acc K.out hb);clear hb;have HG2 := ι hg2;have hnew := ints_new w5 3 [0, 1, 0, 1] (by decide);refine Rg.lr 16 (exec_flat _ _ 4 _ rfl [0, 1, 0, 1] Try.underlying22 szInt zInt rfl (by decide) (by decide) rfl) ?_;go_frame;have hb := (Below.refl w5.heap.size w5).alloc (Nat.le_refl _) (.cells (([0, 1, 0, 1] : List Int).map (Value.int .i64)).toArray 3)
 generalize w5.alloc (.cells (([0, 1, 0, 1] : List Int).map (Value.int .i64)).toArray 3) = w6 at *;replace AV := ι (AV.out.below hb);replace HG2 := ι (HG2.out.below hb);replace K := ι (Rg.acc K.out hb);clear hb;have W1 := ι hnew;clear hnew;refine list_ask (some 17) rfl rfl _ _ (exec_fn4 62 _ _ _ _ _ rfl rfl rfl rfl rfl (Hpcl4 _ _)) ?_;refine (least12_any _ 4 [cyl 4] 0 2 [0, 1, 0, 1] _ w6 HG2.out cy4_g (by decide) (by decide) cy4_02 W1.out).mono ?_;rintro e1 w7 ⟨rfl, hb⟩;refine ⟨_, rfl, ?_⟩;go_frame;replace AV := ι (AV.out.below hb);replace HG2 := ι (HG2.out.below hb);replace W1 := ι (W1.out.below hb);replace K := ι (Rg.acc K.out hb);clear hb;refine Rg.lr 18 (Rg.xm (.bool true) _ rfl rfl) ?_;go_frame;refine listW_ask (some 19) rfl rfl _ _ (exec_fn0 64 _ rfl (Hpcl5 _ _)) ?_;refine (two12_any w7).mono ?_;rintro e1 w8 ⟨gb, gm, ge, rfl, hgs, hb⟩;refine ⟨_, rfl, ?_⟩;go_frame;replace AV := ι (AV.out.below hb)
 replace HG2 := ι (HG2.out.below hb);replace W1 := ι (W1.out.below hb);replace K := ι (Rg.acc K.out hb);clear hb;have G2 := ι hgs.rows;have hnew := ints_new w8 3 [0, 0, 0, 0] (by decide);refine listW_run (some 20) rfl rfl (exec_flat _ _ 4 _ rfl [0, 0, 0, 0] Try.underlying22 szInt zInt rfl (by decide) (by decide) rfl) ?_;go_frame;have hb := (Below.refl w8.heap.size w8).alloc (Nat.le_refl _) (.cells (([0, 0, 0, 0] : List Int).map (Value.int .i64)).toArray 3);generalize w8.alloc (.cells (([0, 0, 0, 0] : List Int).map (Value.int .i64)).toArray 3) = w9 at *;replace AV := ι (AV.out.below hb);replace HG2 := ι (HG2.out.below hb);replace W1 := ι (W1.out.below hb);replace G2 := ι (G2.out.below hb);replace K := ι (Rg.acc K.out hb);clear hb;have W2 := ι hnew;clear hnew;refine listW_ask (some 21) rfl rfl _ _ (exec_fn4 62 _ _ _ _ _ rfl rfl rfl rfl rfl (Hpcl4 _ _)) ?_;refine (least12_any _ 4 gs2 0 2 [0, 0, 0, 0] _ w9 G2.out gs2_g (by decide) (by decide) gs2_02 W2.out).mono ?_
 rintro e1 w10 ⟨rfl, hb⟩;refine ⟨_, rfl, ?_⟩;go_frame;replace AV := ι (AV.out.below hb);replace HG2 := ι (HG2.out.below hb);replace W1 := ι (W1.out.below hb);replace G2 := ι (G2.out.below hb);replace W2 := ι (W2.out.below hb);replace K := ι (Rg.acc K.out hb);clear hb;refine Rg.lr 22 (exec_pickT (v := .bool true) _ _ _ rfl rfl rfl) ?_;go_frame;refine Rg.lr 23 (Rg.xm (.bool true) _ rfl rfl) ?_;go_frame;refine listW_run (some 24) rfl rfl (Rg.xm (.int .i64 0) _ rfl rfl) ?_;go_frame;refine listW_run (some 25) rfl rfl (exec_eqI _ _ rfl rfl rfl rfl) ?_;go_frame;refine Rg.lr 26 (exec_pickT (v := .bool true) _ _ _ rfl rfl rfl) ?_;go_frame;refine Rg.lr 27 (Rg.xm (.bool true) _ rfl rfl) ?_;go_frame;refine listW_run (some 28) rfl rfl (Rg.xm (v) _ rfl rfl) ?_;go_frame;have hnew := ints_new w10 3 [0, 0, 0, 0] (by decide);refine listW_run (some 29) rfl rfl (exec_flat _ _ 4 _ rfl [0, 0, 0, 0] Try.underlying22 szInt zInt rfl (by decide) (by decide) rfl) ?_;go_frame
 have hb := (Below.refl w10.heap.size w10).alloc (Nat.le_refl _) (.cells (([0, 0, 0, 0] : List Int).map (Value.int .i64)).toArray 3);generalize w10.alloc (.cells (([0, 0, 0, 0] : List Int).map (Value.int .i64)).toArray 3) = w11 at *;replace AV := ι (AV.out.below hb);replace HG2 := ι (HG2.out.below hb);replace W1 := ι (W1.out.below hb);replace G2 := ι (G2.out.below hb);replace W2 := ι (W2.out.below hb);replace K := ι (Rg.acc K.out hb);clear hb;have W3 := ι hnew;clear hnew;have hnew := ints_new w11 3 [0, 1, 0, 1] (by decide);refine listW_run (some 30) rfl rfl (exec_flat _ _ 4 _ rfl [0, 1, 0, 1] Try.underlying22 szInt zInt rfl (by decide) (by decide) rfl) ?_;go_frame;have hb := (Below.refl w11.heap.size w11).alloc (Nat.le_refl _) (.cells (([0, 1, 0, 1] : List Int).map (Value.int .i64)).toArray 3);generalize w11.alloc (.cells (([0, 1, 0, 1] : List Int).map (Value.int .i64)).toArray 3) = w12 at *
 replace AV := ι (AV.out.below hb);replace HG2 := ι (HG2.out.below hb);replace W1 := ι (W1.out.below hb);replace G2 := ι (G2.out.below hb);replace W2 := ι (W2.out.below hb);replace W3 := ι (W3.out.below hb);replace K := ι (Rg.acc K.out hb);clear hb;have W4 := ι hnew;clear hnew;have hnew := ints_new w12 3 [0, 1, 2, 3] (by decide);refine listW_run (some 31) rfl rfl (exec_flat _ _ 4 _ rfl [0, 1, 2, 3] Try.underlying22 szInt zInt rfl (by decide) (by decide) rfl) ?_;go_frame;have hb := (Below.refl w12.heap.size w12).alloc (Nat.le_refl _) (.cells (([0, 1, 2, 3] : List Int).map (Value.int .i64)).toArray 3);generalize w12.alloc (.cells (([0, 1, 2, 3] : List Int).map (Value.int .i64)).toArray 3) = w13 at *;replace AV := ι (AV.out.below hb);replace HG2 := ι (HG2.out.below hb);replace W1 := ι (W1.out.below hb);replace G2 := ι (G2.out.below hb);replace W2 := ι (W2.out.below hb);replace W3 := ι (W3.out.below hb)
 replace W4 := ι (W4.out.below hb);replace K := ι (Rg.acc K.out hb);clear hb;have W5 := ι hnew;clear hnew;have hr3 := rows3_new W3.out W4.out W5.out 22;refine listW_run (some 32) rfl rfl (exec_buildL3 (u1 := .slice (some ⟨w10.heap.size, 0, none⟩) 4 4) (u2 := .slice (some ⟨w11.heap.size, 0, none⟩) 4 4) (u3 := .slice (some ⟨w12.heap.size, 0, none⟩) 4 4) _ _ _ rfl rfl rfl rfl (run_buildL3 w13 _ _ _ ⟨_, _, _, rfl⟩ ⟨_, _, _, rfl⟩ ⟨_, _, _, rfl⟩)) ?_;go_frame;have hb := (Below.refl w13.heap.size w13).alloc (Nat.le_refl _) (.cells #[.slice (some ⟨w10.heap.size, 0, none⟩) 4 4, .slice (some ⟨w11.heap.size, 0, none⟩) 4 4, .slice (some ⟨w12.heap.size, 0, none⟩) 4 4] 22);generalize w13.alloc (.cells #[.slice (some ⟨w10.heap.size, 0, none⟩) 4 4, .slice (some ⟨w11.heap.size, 0, none⟩) 4 4, .slice (some ⟨w12.heap.size, 0, none⟩) 4 4] 22) = w14 at *;replace AV := ι (AV.out.below hb);replace HG2 := ι (HG2.out.below hb)
 replace W1 := ι (W1.out.below hb);replace G2 := ι (G2.out.below hb);replace W2 := ι (W2.out.below hb);replace W3 := ι (W3.out.below hb);replace W4 := ι (W4.out.below hb);replace W5 := ι (W5.out.below hb);replace K := ι (Rg.acc K.out hb);clear hb;have R3 := ι hr3;clear hr3;refine listW_ask (some 33) rfl rfl _ _ (exec_fn 41 _ _ _ rfl rfl rfl (Hpcl6 _ _)) ?_;refine (SameLists_b AV.out R3.out (ι (decide_eq_true rfl))).mono ?_;rintro e1 w15 ⟨rfl, hb⟩;refine ⟨_, rfl, ?_⟩;go_frame;replace AV := ι (AV.out.below hb);replace HG2 := ι (HG2.out.below hb);replace W1 := ι (W1.out.below hb);replace G2 := ι (G2.out.below hb);replace W2 := ι (W2.out.below hb);replace W3 := ι (W3.out.below hb);replace W4 := ι (W4.out.below hb);replace W5 := ι (W5.out.below hb);replace R3 := ι (R3.out.below hb);replace K := ι (Rg.acc K.out hb);clear hb;refine Rg.lr 34 (exec_pickT (v := .bool true) _ _ _ rfl rfl rfl) ?_;go_frame
 refine Rg.lr 35 (Rg.xm (.bool true) _ rfl rfl) ?_;go_frame;refine listW_run (some 36) rfl rfl (Rg.xm (.bool true) _ rfl rfl) ?_;go_frame;refine Rg.lr 37 (exec_pickT (v := .bool true) _ _ _ rfl rfl rfl) ?_;go_frame;refine Rg.lr 38 (Rg.xm (.bool true) _ rfl rfl) ?_;go_frame;refine listW_run (some 39) rfl rfl (Rg.xm (.int .i64 0) _ rfl rfl) ?_;go_frame;refine listW_run (some 40) rfl rfl (exec_eqI _ _ rfl rfl rfl rfl) ?_;go_frame;refine Rg.lr 41 (exec_pickT (v := .bool true) _ _ _ rfl rfl rfl) ?_;go_frame;refine Rg.lr 0 (Rg.xa (.bool true) _ rfl rfl) ?_;go_frame;go_wp2;go_ret;exact ⟨rfl, K.out⟩
structure NpI (w : World) (v : Value) (l : List Int) : Prop where
 i : Rg.Ints w v l
theorem NpI.below {w w' : World} {v : Value} {l : List Int} (h : NpI w v l) (hb : Below w.heap.size w w') : NpI w' v l := ⟨h.i.below hb⟩

theorem Hrcl1 (args : Array Value) (w : World) : (callFunc 104 args).run Try.prog w = .ok (.enter 104 args) w := by kernel_rfl
theorem Hrcl5 (args : Array Value) (w : World) : (callFunc 106 args).run Try.prog w = .ok (.enter 106 args) w := by kernel_rfl
theorem Hrcl6 (args : Array Value) (w : World) : (callFunc 107 args).run Try.prog w = .ok (.enter 107 args) w := by kernel_rfl
theorem Hrcl7 (args : Array Value) (w : World) : (callFunc 108 args).run Try.prog w = .ok (.enter 108 args) w := by kernel_rfl
theorem Hrcl8 (args : Array Value) (w : World) : (callFunc 105 args).run Try.prog w = .ok (.enter 105 args) w := by kernel_rfl
theorem bright_any (gv : Value) (d : Int) (ll : List (List Int)) (lv : Value) (l : List Int) (w : World) (h : Rg.Rows w gv ll) (hl : Rg.Ints w lv l) (hll : l.length ≤ 100) :
  Calls Try.prog 106 #[.agg #[.int .i64 d, gv], lv] w fun e w' => e = .returned (.int .i64 (paC d ll l)) ∧ Below w.heap.size w w' := by
 obtain ⟨la, lc, rfl, -⟩ := hl.shape;have HL := ι (NpI.mk hl);clear hl;obtain ⟨ga, gc, rfl, hga, hba⟩ := GI.enter (d) h;have K := ι hba;have G0 := ι hga;clear h hga hba;replace HL := ι (HL.out.below K.out);obtain ⟨gb, hgb⟩ : ∃ gb, w.heap.size = gb := ⟨_, rfl⟩
 go_enter Try.func106, Try.ntmps106
 go_upto_region 0 with (fail);refine wp_region_list ?_;refine Rg.lr 2 (Rg.exec_box _ _ rfl rfl) ?_;go_frame;refine Rg.lr 4 (Rg.xa (.int .i64 0) _ rfl rfl) ?_;go_frame;rw [hgb] at G0 ⊢;have HGB := ι hgb;clear hgb;generalize w.alloc (.cells #[.int .i64 d, .slice ga ll.length gc] 26) = w0 at *;obtain ⟨ck, hck⟩ : ∃ c, Hid (Ma.gchk d ll = c) := ⟨_, ι rfl⟩;go_upto_region 1 with (fail);refine wp_region_list ?_;refine Rg.lr 9 (Rg.exec_load (v := .agg #[.int .i64 d, .slice ga ll.length gc]) _ _ rfl ⟨gb, 0, none⟩ rfl (run_loadG G0.out.c0 G0.out.c1)) ?_;go_frame;refine list_ask (some 10) rfl rfl _ _ (exec_fn1 48 _ _ rfl rfl (vacl0 _ _)) ?_;refine (orbitCheck_any _ d ll w0 G0.out.rows).mono ?_;rintro e1 w1 ⟨rfl, hb⟩;rw [hck.out];refine ⟨_, rfl, ?_⟩;go_frame;replace G0 := ι (G0.out.below hb);replace HL := ι (HL.out.below hb);replace K := ι (Rg.acc K.out hb);clear hb;refine Rg.lr 5 (Rg.xa (.int .i64 ck) _ rfl rfl) ?_;go_frame
 by_cases h0 : ck = 0
 case neg =>
  skip
  go_upto_region 2 with (fail);refine wp_region_list ?_;refine Rg.lr 11 (Rg.xm (.int .i64 ck) _ rfl rfl) ?_;go_frame;refine Rg.lr 12 (exec_bin (R := .bool true) .neq _ _ _ rfl rfl rfl (b_neqB _ (decide_eq_true h0))) ?_;go_frame;go_upto_region 3 with (fail);refine wp_region_list ?_;refine Rg.lr 13 (Rg.xm (.int .i64 ck) _ rfl rfl) ?_;go_frame;refine Rg.lr 4 (Rg.xa (.int .i64 ck) _ rfl rfl) ?_;go_frame;go_wp2;go_ret;exact ⟨by rw [paC_g hck.out h0]; rfl, K.out⟩
 case pos =>
  have HZ := ι (hck.out.trans h0);go_upto_region 2 with (fail);refine wp_region_list ?_;refine Rg.lr 11 (Rg.xm (.int .i64 ck) _ rfl rfl) ?_;go_frame;refine Rg.lr 12 (exec_bin (R := .bool false) .neq _ _ _ rfl rfl rfl (b_neqB _ (decide_eq_false (fun e => e h0)))) ?_;go_frame;clear h0
  have hd64 : 1 ≤ d ∧ d ≤ 64 := by
   obtain ⟨D', _, e, _, _, h1, h2, _⟩ := gchk_ok HZ.out;omega
  by_cases hld : (l.length : Int) = d
  case neg =>
   skip
   go_upto_region 4 with (fail);refine wp_region_list ?_;refine Rg.lr 14 (Rg.xm (.slice la l.length lc) _ rfl rfl) ?_;go_frame;refine Rg.lr 15 (exec_len _ _ _ rfl Try.underlying22 _ _ _ rfl) ?_;go_frame;refine Rg.lr 16 (exec_fieldG0 _ rfl rfl) ?_;go_frame;refine Rg.lr 17 (Rg.exec_load (v := .int .i64 d) _ _ rfl ⟨gb, 0, none⟩ rfl (run_loadInt G0.out.c0)) ?_;go_frame;refine Rg.lr 18 (exec_bin (R := .bool true) .neq _ _ _ rfl rfl rfl (b_neqB _ (decide_eq_true hld))) ?_;go_frame;go_upto_region 5 with (fail);refine wp_region_list ?_;refine Rg.lr 4 (Rg.xa (.int .i64 ((3 : Nat) : Int)) _ rfl rfl) ?_;go_frame;go_wp2;go_ret;exact ⟨by rw [paC_f HZ.out (fun h => hld h.1)]; rfl, K.out⟩
  case pos =>
   skip
   go_upto_region 4 with (fail);refine wp_region_list ?_;refine Rg.lr 14 (Rg.xm (.slice la l.length lc) _ rfl rfl) ?_;go_frame;refine Rg.lr 15 (exec_len _ _ _ rfl Try.underlying22 _ _ _ rfl) ?_;go_frame;refine Rg.lr 16 (exec_fieldG0 _ rfl rfl) ?_;go_frame;refine Rg.lr 17 (Rg.exec_load (v := .int .i64 d) _ _ rfl ⟨gb, 0, none⟩ rfl (run_loadInt G0.out.c0)) ?_;go_frame;refine Rg.lr 18 (exec_bin (R := .bool false) .neq _ _ _ rfl rfl rfl (b_neqB _ (decide_eq_false (fun e => e hld)))) ?_;go_frame;go_upto_region 6 with (fail);refine wp_region_list ?_;refine Rg.lr 6 (Rg.xa (.int .i64 ((0 : Nat) : Int)) _ rfl rfl) ?_;go_frame;go_upto_region 7 with (fail);refine wp_region_list ?_;refine Rg.lr 19 (Rg.xm (.slice la l.length lc) _ rfl rfl) ?_;go_frame;refine Rg.lr 20 (exec_len _ _ _ rfl Try.underlying22 _ _ _ rfl) ?_;go_frame;refine Rg.lr 21 (Rg.xm (.int .i64 ((0 : Nat) : Int)) _ rfl rfl) ?_;go_frame;have HWB := ι K.out
   have KK := ι (Below.refl w1.heap.size w1);have HLB := ι HL.out;have RT := ι (Bk.RtI.start l);clear G0 K HL;go_wp2
   go_loopw [6, 21] (fun mv iv wr => ∃ m i : Nat, mv = .int .i64 ((m : Nat) : Int) ∧ iv = .int .i64 ((i : Nat) : Int) ∧ i ≤ l.length ∧ m ≤ i ∧ Hid (Bk.RtI l i m) ∧ Hid (Below w1.heap.size w1 wr)) (fun _ iv _ => l.length - (intOf iv).toNat)
   case atStart => exact ⟨0, 0, rfl, rfl, Nat.zero_le _, Nat.le_refl _, RT, KK⟩
   case round =>
    clear RT KK;obtain ⟨m, i, rfl, rfl, hi, hmi, RT, KK⟩ := hrel;generalize wr = wd at *
    by_cases hil : i < l.length
    case neg =>
     have hli : l.length = i := by omega
     go_upto_region 8 with (fail);refine wp_region_list ?_;refine Rg.lr 22 (exec_bin (R := .bool false) .lss _ _ _ rfl rfl rfl (b_lss _ (decide_eq_false (by omega)))) ?_;go_frame;go_upto_region 15 with (fail);refine wp_region_list ?_;refine Rg.lr 4 (Rg.xa (.int .i64 ((0 : Nat) : Int)) _ rfl rfl) ?_;go_frame;go_wp2;go_ret;exact ⟨by rw [paC_z HZ.out ⟨hld, RT.out.done (by omega)⟩]; rfl, Rg.acc HWB.out KK.out⟩
    case pos =>
     obtain ⟨lb, lo, rfl, hlb, hlc⟩ := ints_get HLB.out.i (k := i) hil;obtain ⟨x, hx⟩ : ∃ x, Hid (l[i]'hil = x) := ⟨_, ι rfl⟩;rw [hx.out] at hlc;have CT := ι (CL.up (CL.mk hlc hlb) KK.out);have HIL := ι hil;clear hlb hlc;go_upto_region 8 with (fail);refine wp_region_list ?_;refine Rg.lr 22 (exec_bin (R := .bool true) .lss _ _ _ rfl rfl rfl (b_lss _ (decide_eq_true (by omega)))) ?_;go_frame;go_upto_region 9 with (fail);refine wp_region_list ?_;refine Rg.lr 23 (exec_indexS slInts _ _ rfl lb (lo) (l.length) lc (i) rfl rfl hil) ?_;go_frame;refine Rg.lr 24 (Rg.exec_load (v := .int .i64 x) _ _ rfl ⟨lb, lo + i, none⟩ rfl (run_loadInt CT.out.cell)) ?_;go_frame;refine Rg.lr 8 (Rg.xa (.int .i64 x) _ rfl rfl) ?_;go_frame
     by_cases hx0 : x < 0
     case pos =>
      have HB := ι (RT.out.bad hil (.inl (by rw [hx.out]; exact hx0)));go_upto_region 10 with (fail);refine wp_region_list ?_;refine Rg.lr 25 (Rg.xm (.int .i64 x) _ rfl rfl) ?_;go_frame;refine Rg.lr 26 (exec_bin (R := .bool true) .lss _ _ _ rfl rfl rfl (b_lss _ (decide_eq_true hx0))) ?_;go_frame;refine Rg.lr 27 (Rg.xm (.bool true) _ rfl rfl) ?_;go_frame;refine listW_pass (some 28) (by kernel_rfl) rfl ?_;go_frame;refine listW_pass (some 29) (by kernel_rfl) rfl ?_;go_frame;refine listW_pass (some 30) (by kernel_rfl) rfl ?_;go_frame;refine Rg.lr 31 (exec_pickT (v := .bool true) _ _ _ rfl rfl rfl) ?_;go_frame;go_upto_region 11 with (fail);refine wp_region_list ?_;refine Rg.lr 4 (Rg.xa (.int .i64 ((3 : Nat) : Int)) _ rfl rfl) ?_;go_frame;go_wp2;go_ret;exact ⟨by rw [paC_f HZ.out (fun h => HB.out h.2)]; rfl, Rg.acc HWB.out KK.out⟩
     by_cases hxm : (m : Int) < x
     case pos =>
      have HB := ι (RT.out.bad hil (.inr (by rw [hx.out]; exact hxm)));go_upto_region 10 with (fail);refine wp_region_list ?_;refine Rg.lr 25 (Rg.xm (.int .i64 x) _ rfl rfl) ?_;go_frame;refine Rg.lr 26 (exec_bin (R := .bool false) .lss _ _ _ rfl rfl rfl (b_lss _ (decide_eq_false hx0))) ?_;go_frame;refine Rg.lr 27 (Rg.xm (.bool false) _ rfl rfl) ?_;go_frame;refine listW_run (some 28) rfl rfl (Rg.xm (.int .i64 x) _ rfl rfl) ?_;go_frame;refine listW_run (some 29) rfl rfl (Rg.xm (.int .i64 ((m : Nat) : Int)) _ rfl rfl) ?_;go_frame;refine listW_run (some 30) rfl rfl (exec_bin (R := .bool true) .gtr _ _ _ rfl rfl rfl (b_gtr _ (decide_eq_true hxm))) ?_;go_frame;refine Rg.lr 31 (exec_pickF (v := .bool true) _ _ _ rfl rfl rfl) ?_;go_frame;go_upto_region 11 with (fail);refine wp_region_list ?_;refine Rg.lr 4 (Rg.xa (.int .i64 ((3 : Nat) : Int)) _ rfl rfl) ?_;go_frame;go_wp2;go_ret;exact ⟨by rw [paC_f HZ.out (fun h => HB.out h.2)]; rfl, Rg.acc HWB.out KK.out⟩
     obtain ⟨q, hq⟩ : ∃ q : Nat, x = q := ⟨x.toNat, by omega⟩;subst hq
     have hqm : q ≤ m := by omega
     go_upto_region 10 with (fail);refine wp_region_list ?_;refine Rg.lr 25 (Rg.xm (.int .i64 ((q : Nat) : Int)) _ rfl rfl) ?_;go_frame;refine Rg.lr 26 (exec_bin (R := .bool false) .lss _ _ _ rfl rfl rfl (b_lss _ (decide_eq_false (by omega)))) ?_;go_frame;refine Rg.lr 27 (Rg.xm (.bool false) _ rfl rfl) ?_;go_frame;refine listW_run (some 28) rfl rfl (Rg.xm (.int .i64 ((q : Nat) : Int)) _ rfl rfl) ?_;go_frame;refine listW_run (some 29) rfl rfl (Rg.xm (.int .i64 ((m : Nat) : Int)) _ rfl rfl) ?_;go_frame;refine listW_run (some 30) rfl rfl (exec_bin (R := .bool false) .gtr _ _ _ rfl rfl rfl (b_gtr _ (decide_eq_false (by omega)))) ?_;go_frame;refine Rg.lr 31 (exec_pickF (v := .bool false) _ _ _ rfl rfl rfl) ?_;go_frame;have RT2 := ι (RT.out.next hil hx.out hqm)
     by_cases hqe : q = m
     case pos =>
      skip
      go_upto_region 12 with (fail);refine wp_region_list ?_;refine Rg.lr 32 (Rg.xm (.int .i64 ((q : Nat) : Int)) _ rfl rfl) ?_;go_frame;refine Rg.lr 33 (Rg.xm (.int .i64 ((m : Nat) : Int)) _ rfl rfl) ?_;go_frame;refine Rg.lr 34 (exec_bin (R := .bool true) .eql _ _ _ rfl rfl rfl (b_eql _ (decide_eq_true (by omega)))) ?_;go_frame;go_upto_region 13 with (fail);refine wp_region_list ?_;refine Rg.lr 35 (Rg.xm (.int .i64 ((m : Nat) : Int)) _ rfl rfl) ?_;go_frame;refine Rg.lr 36 (exec_bin (R := .int .i64 (((m + 1) : Nat) : Int)) .add _ _ _ rfl rfl rfl (b_add _ (by omega) (by omega))) ?_;go_frame;refine Rg.lr 6 (Rg.xa (.int .i64 (((m + 1) : Nat) : Int)) _ rfl rfl) ?_;go_frame;go_upto_region 14 with (fail);refine wp_region_list ?_;refine Rg.lr 37 (exec_bin (R := .int .i64 (((i + 1) : Nat) : Int)) .add _ _ _ rfl rfl rfl (b_add _ (by omega) (by omega))) ?_;go_frame;refine Rg.lr 21 (Rg.xm (.int .i64 (((i + 1) : Nat) : Int)) _ rfl rfl) ?_;go_frame
      rw [if_pos hqe] at RT2;go_wp2
      go_roundw
      case rel => exact ⟨m + 1, i + 1, by go_num, by go_num, HIL.out, by omega, RT2, KK⟩
      case measure => simp [intOf]; have := HIL.out; omega
     case neg =>
      skip
      go_upto_region 12 with (fail);refine wp_region_list ?_;refine Rg.lr 32 (Rg.xm (.int .i64 ((q : Nat) : Int)) _ rfl rfl) ?_;go_frame;refine Rg.lr 33 (Rg.xm (.int .i64 ((m : Nat) : Int)) _ rfl rfl) ?_;go_frame;refine Rg.lr 34 (exec_bin (R := .bool false) .eql _ _ _ rfl rfl rfl (b_eql _ (decide_eq_false (by omega)))) ?_;go_frame;go_upto_region 14 with (fail);refine wp_region_list ?_;refine Rg.lr 37 (exec_bin (R := .int .i64 (((i + 1) : Nat) : Int)) .add _ _ _ rfl rfl rfl (b_add _ (by omega) (by omega))) ?_;go_frame;refine Rg.lr 21 (Rg.xm (.int .i64 (((i + 1) : Nat) : Int)) _ rfl rfl) ?_;go_frame;rw [if_neg hqe] at RT2;go_wp2
      go_roundw
      case rel => exact ⟨m, i + 1, by go_num, by go_num, HIL.out, by omega, RT2, KK⟩
      case measure => simp [intOf]; have := HIL.out; omega
theorem partition_any (gv : Value) (d : Int) (ll : List (List Int)) (lv : Value) (l : List Int) (w : World) (h : Rg.Rows w gv ll) (hl : Rg.Ints w lv l) (hll : l.length ≤ 100) :
  Calls Try.prog 108 #[.agg #[.int .i64 d, gv], lv] w fun e w' => e = .returned (.int .i64 (paC d ll l)) ∧ Below w.heap.size w w' := by
 obtain ⟨la, lc, rfl, -⟩ := hl.shape;have HL := ι (NpI.mk hl);clear hl;obtain ⟨ga, gc, rfl, hga, hba⟩ := GI.enter (d) h;have K := ι hba;have G0 := ι hga;clear h hga hba;replace HL := ι (HL.out.below K.out);obtain ⟨gb, hgb⟩ : ∃ gb, w.heap.size = gb := ⟨_, rfl⟩
 go_enter Try.func108, Try.ntmps108
 go_upto_region 0 with (fail);refine wp_region_list ?_;refine Rg.lr 2 (Rg.exec_box _ _ rfl rfl) ?_;go_frame;refine Rg.lr 4 (Rg.xa (.int .i64 0) _ rfl rfl) ?_;go_frame;rw [hgb] at G0 ⊢;have HGB := ι hgb;clear hgb;generalize w.alloc (.cells #[.int .i64 d, .slice ga ll.length gc] 26) = w0 at *;obtain ⟨ck, hck⟩ : ∃ c, Hid (Ma.gchk d ll = c) := ⟨_, ι rfl⟩;go_upto_region 1 with (fail);refine wp_region_list ?_;refine Rg.lr 6 (Rg.exec_load (v := .agg #[.int .i64 d, .slice ga ll.length gc]) _ _ rfl ⟨gb, 0, none⟩ rfl (run_loadG G0.out.c0 G0.out.c1)) ?_;go_frame;refine list_ask (some 7) rfl rfl _ _ (exec_fn1 104 _ _ rfl rfl (Hrcl1 _ _)) ?_;refine (ref07Check_any _ d ll w0 G0.out.rows).mono ?_;rintro e1 w1 ⟨rfl, hb⟩;rw [hck.out];refine ⟨_, rfl, ?_⟩;go_frame;replace G0 := ι (G0.out.below hb);replace HL := ι (HL.out.below hb);replace K := ι (Rg.acc K.out hb);clear hb;refine Rg.lr 5 (Rg.xa (.int .i64 ck) _ rfl rfl) ?_;go_frame
 by_cases h0 : ck = 0
 case neg =>
  skip
  go_upto_region 2 with (fail);refine wp_region_list ?_;refine Rg.lr 8 (Rg.xm (.int .i64 ck) _ rfl rfl) ?_;go_frame;refine Rg.lr 9 (exec_bin (R := .bool true) .neq _ _ _ rfl rfl rfl (b_neqB _ (decide_eq_true h0))) ?_;go_frame;go_upto_region 3 with (fail);refine wp_region_list ?_;refine Rg.lr 10 (Rg.xm (.int .i64 ck) _ rfl rfl) ?_;go_frame;refine Rg.lr 4 (Rg.xa (.int .i64 ck) _ rfl rfl) ?_;go_frame;go_wp2;go_ret;exact ⟨by rw [paC_g hck.out h0]; rfl, K.out⟩
 case pos =>
  have HZ := ι (hck.out.trans h0);go_upto_region 2 with (fail);refine wp_region_list ?_;refine Rg.lr 8 (Rg.xm (.int .i64 ck) _ rfl rfl) ?_;go_frame;refine Rg.lr 9 (exec_bin (R := .bool false) .neq _ _ _ rfl rfl rfl (b_neqB _ (decide_eq_false (fun e => e h0)))) ?_;go_frame;clear h0
  have hd64 : 1 ≤ d ∧ d ≤ 64 := by
   obtain ⟨D', _, e, _, _, h1, h2, _⟩ := gchk_ok HZ.out;omega
  by_cases hld : (l.length : Int) = d
  case neg =>
   skip
   go_upto_region 4 with (fail);refine wp_region_list ?_;refine Rg.lr 11 (Rg.xm (.slice la l.length lc) _ rfl rfl) ?_;go_frame;refine Rg.lr 12 (exec_len _ _ _ rfl Try.underlying22 _ _ _ rfl) ?_;go_frame;refine Rg.lr 13 (exec_fieldG0 _ rfl rfl) ?_;go_frame;refine Rg.lr 14 (Rg.exec_load (v := .int .i64 d) _ _ rfl ⟨gb, 0, none⟩ rfl (run_loadInt G0.out.c0)) ?_;go_frame;refine Rg.lr 15 (exec_bin (R := .bool true) .neq _ _ _ rfl rfl rfl (b_neqB _ (decide_eq_true hld))) ?_;go_frame;refine Rg.lr 16 (Rg.xm (.bool true) _ rfl rfl) ?_;go_frame;refine listW_pass (some 17) (by kernel_rfl) rfl ?_;go_frame;refine listW_pass (some 18) (by kernel_rfl) rfl ?_;go_frame;refine listW_pass (some 19) (by kernel_rfl) rfl ?_;go_frame;refine listW_pass (some 20) (by kernel_rfl) rfl ?_;go_frame;refine listW_pass (some 21) (by kernel_rfl) rfl ?_;go_frame;refine Rg.lr 22 (exec_pickT (v := .bool true) _ _ _ rfl rfl rfl) ?_;go_frame
   go_upto_region 5 with (fail);refine wp_region_list ?_;refine Rg.lr 4 (Rg.xa (.int .i64 ((3 : Nat) : Int)) _ rfl rfl) ?_;go_frame;go_wp2;go_ret;exact ⟨by rw [paC_f HZ.out (fun h => hld h.1)]; rfl, K.out⟩
  case pos =>
   skip
   go_upto_region 4 with (fail);refine wp_region_list ?_;refine Rg.lr 11 (Rg.xm (.slice la l.length lc) _ rfl rfl) ?_;go_frame;refine Rg.lr 12 (exec_len _ _ _ rfl Try.underlying22 _ _ _ rfl) ?_;go_frame;refine Rg.lr 13 (exec_fieldG0 _ rfl rfl) ?_;go_frame;refine Rg.lr 14 (Rg.exec_load (v := .int .i64 d) _ _ rfl ⟨gb, 0, none⟩ rfl (run_loadInt G0.out.c0)) ?_;go_frame;refine Rg.lr 15 (exec_bin (R := .bool false) .neq _ _ _ rfl rfl rfl (b_neqB _ (decide_eq_false (fun e => e hld)))) ?_;go_frame;refine Rg.lr 16 (Rg.xm (.bool false) _ rfl rfl) ?_;go_frame;refine listW_run (some 17) rfl rfl (Rg.xm (.slice la l.length lc) _ rfl rfl) ?_;go_frame;refine listW_run (some 18) rfl rfl (Rg.xm (.slice la l.length lc) _ rfl rfl) ?_;go_frame;refine listW_ask (some 19) rfl rfl _ _ (exec_fn1 163 _ _ rfl rfl (Hhcl1 _ _)) ?_;refine (numbered_any _ l w1 HL.out.i (by omega)).mono ?_;rintro e1 w2 ⟨v, M, rfl, hv, hM, hb⟩
   have hvi := hv.ints (by rw [Ma.len_ofN, hM.len]; omega);have HM := ι hM;clear hv hM;obtain ⟨bm, hbm⟩ : ∃ b, Hid (decide (l = Ma.ofN M) = b) := ⟨_, ι rfl⟩;refine ⟨_, rfl, ?_⟩;go_frame;replace G0 := ι (G0.out.below hb);replace HL := ι (HL.out.below hb);replace K := ι (Rg.acc K.out hb);clear hb;have MV := ι (NpI.mk hvi);refine listW_ask (some 20) rfl rfl _ _ (exec_fn 42 _ _ _ rfl rfl rfl (Hocl5 _ _)) ?_;refine (Same_any HL.out.i MV.out.i hbm (Below.refl _ _)).mono ?_;rintro e1 w3 ⟨rfl, hb⟩;refine ⟨_, rfl, ?_⟩;go_frame;replace G0 := ι (G0.out.below hb);replace HL := ι (HL.out.below hb);replace MV := ι (MV.out.below hb);replace K := ι (Rg.acc K.out hb);clear hb;refine listW_run (some 21) rfl rfl (exec_not _ _ bm rfl rfl) ?_;go_frame;refine Rg.lr 22 (exec_pickF (v := .bool (!bm)) _ _ _ rfl rfl rfl) ?_;go_frame;clear hvi;have HOK := ι (Bk.okP_iff HM.out)
   cases bm with
   | true =>
    have HQ := ι (paC_z HZ.out ⟨hld, HOK.out.2 (of_decide_eq_true hbm.out)⟩);go_upto_region 6 with (fail);refine wp_region_list ?_;refine Rg.lr 4 (Rg.xa (.int .i64 ((0 : Nat) : Int)) _ rfl rfl) ?_;go_frame;go_wp2;go_ret;exact ⟨by rw [HQ.out]; rfl, K.out⟩
   | false =>
    have HQ := ι (paC_f HZ.out (fun h => of_decide_eq_false hbm.out (HOK.out.1 h.2)));go_upto_region 5 with (fail);refine wp_region_list ?_;refine Rg.lr 4 (Rg.xa (.int .i64 ((3 : Nat) : Int)) _ rfl rfl) ?_;go_frame;go_wp2;go_ret;exact ⟨by rw [HQ.out]; rfl, K.out⟩
theorem syB_no {D : Nat} {gs : List (List Nat)} {L : List Nat} {s i : Nat} (hs : s < gs.length) (hi : i < D) (h : L.getD (img gs s i) 0 ≠ L.getD (img gs s (L.idxOf (L.getD i 0))) 0) : syB D gs L = false := by
 rw [← Bool.not_eq_true];intro e;unfold syB at e;simp only [List.all_eq_true, List.mem_range, decide_eq_true_eq] at e;exact h (e s hs i hi)
def SyI (D : Nat) (gs : List (List Nat)) (L : List Nat) (s i : Nat) : Prop := (∀ s' i', s' < s → i' < D → L.getD (img gs s' i') 0 = L.getD (img gs s' (L.idxOf (L.getD i' 0))) 0) ∧ ∀ i', i' < i → L.getD (img gs s i') 0 = L.getD (img gs s (L.idxOf (L.getD i' 0))) 0
theorem SyI.done {D : Nat} {gs : List (List Nat)} {L : List Nat} {s i : Nat} (h : SyI D gs L s i) (hs : gs.length ≤ s) : syB D gs L = true := by
 unfold syB;simp only [List.all_eq_true, List.mem_range, decide_eq_true_eq];exact fun s' hs' i' hi' => h.1 s' i' (by omega) hi'
theorem SyI.row {D : Nat} {gs : List (List Nat)} {L : List Nat} {s i : Nat} (h : SyI D gs L s i) (hi : D ≤ i) : SyI D gs L (s + 1) 0 :=
 ⟨fun s' i' h1 h2 => by
  by_cases e : s' = s
  ·subst e; exact h.2 i' (by omega)
  ·exact h.1 s' i' (by omega) h2, fun _ h => absurd h (Nat.not_lt_zero _)⟩
theorem SyI.next {D : Nat} {gs : List (List Nat)} {L : List Nat} {s i : Nat} (h : SyI D gs L s i) (he : L.getD (img gs s i) 0 = L.getD (img gs s (L.idxOf (L.getD i 0))) 0) : SyI D gs L s (i + 1) :=
 ⟨h.1, fun i' h1 => by
  by_cases e : i' = i
  ·subst e; exact he
  ·exact h.2 i' (by omega)⟩
theorem system_any (D : Nat) (gv lv : Value) (gs : List (List Nat)) (l : List Nat) (w : World) (hD1 : 1 ≤ D) (hD : D ≤ 64) (hg : Rg.Rows w gv (gs.map Ma.ofN)) (hgg : GG D gs) (hgl : gs.length ≤ 1000) (hl : Rg.NP w lv l) (hll : l.length = D) :
  Calls Try.prog 107 #[.agg #[.int .i64 ((D : Nat) : Int), gv], lv] w fun e w' => e = .returned (.bool (syB D gs l)) ∧ Below w.heap.size w w' := by
 have HG := ι hg;have HGG := ι hgg;have HLL := ι hll
 obtain ⟨lb, lo, lc, hlv, hlb, hlx⟩ : ∃ b o c, lv = .slice (some ⟨b, o, none⟩) D c ∧ b < w.heap.size ∧ ∀ i (hi : i < D), w.cell? ⟨b, o + i, none⟩ = some (.int .i64 ((l.getD i 0 : Nat) : Int)) := by
  obtain ⟨a, c, rfl, hc, hm, _, hcell⟩ := hl.shape;obtain ⟨b, o, rfl, hb, hr⟩ := hcell (by omega);refine ⟨b, o, c, by rw [hll], hb, fun i hi => ?_⟩;rw [getN_at (by omega)];exact hr i (by omega)
 subst hlv;have HLC := ι (show ∀ i, i < D → CL w lb (lo + i) (.int .i64 ((l.getD i 0 : Nat) : Int)) from fun i hi => ⟨hlx i hi, hlb⟩);have HLV := ι (NpW.mk hl);clear hl hlx hlb hll;obtain ⟨ga, gc, rfl, hga, hba⟩ := GI.enter ((D : Nat) : Int) hg;have K := ι hba;have G0 := ι hga;clear hg hga hba;obtain ⟨gb, hgb⟩ : ∃ gb, w.heap.size = gb := ⟨_, rfl⟩
 go_enter Try.func107, Try.ntmps107
 go_upto_region 0 with (fail);refine wp_region_list ?_;refine Rg.lr 2 (Rg.exec_box _ _ rfl rfl) ?_;go_frame;refine Rg.lr 4 (Rg.xa (.bool false) _ rfl rfl) ?_;go_frame;rw [hgb] at G0 ⊢;clear hgb;generalize w.alloc (.cells #[.int .i64 ((D : Nat) : Int), .slice ga (gs.map Ma.ofN).length gc] 26) = w0 at *;go_upto_region 1 with (fail);refine wp_region_list ?_;refine Rg.lr 9 (exec_fieldG _ rfl rfl) ?_;go_frame;refine Rg.lr 10 (Rg.exec_load (v := .slice ga (gs.map Ma.ofN).length gc) _ _ rfl ⟨gb, 1, none⟩ rfl (Rg.run_loadSl _ _ Try.underlying24 G0.out.c1)) ?_;go_frame;refine Rg.lr 11 (exec_len _ _ _ rfl Try.underlying24 _ _ _ rfl) ?_;go_frame;refine Rg.lr 12 (Rg.xm (.int .i64 ((0 : Nat) : Int)) _ rfl rfl) ?_;go_frame;have SY := ι (show SyI D gs l 0 0 from ⟨fun _ _ h => absurd h (Nat.not_lt_zero _), fun _ h => absurd h (Nat.not_lt_zero _)⟩);have hlm : (gs.map Ma.ofN).length = gs.length := List.length_map ..
 rw [hlm];clear G0;go_wp2
 go_loopw [12] (fun sv wr => ∃ s : Nat, sv = .int .i64 ((s : Nat) : Int) ∧ s ≤ gs.length ∧ Hid (SyI D gs l s 0) ∧ Hid (Below w.heap.size w wr)) (fun sv _ => gs.length - (intOf sv).toNat)
 case atStart => exact ⟨0, rfl, Nat.zero_le _, SY, K⟩
 case round =>
  clear SY K;obtain ⟨s, rfl, hs, SY, K⟩ := hrel;generalize wr = wd at *
  by_cases hsg : s < gs.length
  case neg =>
   have hsg2 : gs.length = s := by omega
   go_upto_region 2 with (fail);refine wp_region_list ?_;refine Rg.lr 13 (exec_bin (R := .bool false) .lss _ _ _ rfl rfl rfl (b_lss _ (decide_eq_false (by omega)))) ?_;go_frame;go_upto_region 11 with (fail);refine wp_region_list ?_;refine Rg.lr 4 (Rg.xa (.bool true) _ rfl rfl) ?_;go_frame;go_wp2;go_ret;exact ⟨by rw [SY.out.done (by omega)]; rfl, K.out⟩
  case pos =>
   have HSG := ι hsg
   obtain ⟨gg, go, gu, rfl, hgb2, hgc, hgu⟩ : ∃ b o u, ga = some ⟨b, o, none⟩ ∧ b < w.heap.size ∧ w.cell? ⟨b, o + s, none⟩ = some u ∧ Rg.NP w u gs[s] := by
    obtain ⟨ga', gc', hsh, -, -, -, har⟩ := HG.out.shape;simp only [Value.slice.injEq, true_and] at hsh;obtain ⟨rfl, rfl⟩ := hsh;obtain ⟨b, o, e, hb, hx⟩ := har (by rw [List.length_map]; omega);obtain ⟨u, h1, h2⟩ := hx s (by rw [List.length_map]; exact hsg);exact ⟨b, o, u, e, hb, h1, by rw [List.getElem_map] at h2; exact h2⟩
   have CG := ι (CL.up (CL.mk hgc hgb2) K.out)
   obtain ⟨sb, so, sc, hsv, hsb, hsx⟩ : ∃ b o c, gu = .slice (some ⟨b, o, none⟩) D c ∧ b < w.heap.size ∧ ∀ i (hi : i < D), w.cell? ⟨b, o + i, none⟩ = some (.int .i64 ((img gs s i : Nat) : Int)) := by
    have hlen : (gs[s]).length = D := (HGG.out _ (List.getElem_mem hsg)).2;obtain ⟨a, c, rfl, hc, hm, _, hcell⟩ := hgu.shape;obtain ⟨b, o, rfl, hb, hr⟩ := hcell (by omega);refine ⟨b, o, c, by rw [hlen], hb, fun i hi => ?_⟩
    have e : img gs s i = gs[s].getD i 0 := by
     unfold img;rw [List.getD_eq_getElem?_getD (l := gs), List.getElem?_eq_getElem hsg, Option.getD_some];rfl
    rw [e, getN_at (by omega)];exact hr i (by omega)
   subst hsv;have HSC := ι (show ∀ i, i < D → CL w sb (so + i) (.int .i64 ((img gs s i : Nat) : Int)) from fun i hi => ⟨hsx i hi, hsb⟩);clear hgb2 hgc hgu hsb hsx;go_upto_region 2 with (fail);refine wp_region_list ?_;refine Rg.lr 13 (exec_bin (R := .bool true) .lss _ _ _ rfl rfl rfl (b_lss _ (decide_eq_true (by omega)))) ?_;go_frame;go_upto_region 3 with (fail);refine wp_region_list ?_;refine Rg.lr 14 (exec_indexS slPerms _ _ rfl gg (go) (gs.length) gc (s) rfl rfl hsg) ?_;go_frame;refine Rg.lr 15 (Rg.exec_load (v := .slice (some ⟨sb, so, none⟩) D sc) _ _ rfl ⟨gg, go + s, none⟩ rfl (Rg.run_loadSl _ _ Try.underlying39 CG.out.cell)) ?_;go_frame;refine Rg.lr 6 (Rg.xa (.slice (some ⟨sb, so, none⟩) D sc) _ rfl rfl) ?_;go_frame;go_upto_region 4 with (fail);refine wp_region_list ?_;refine Rg.lr 16 (Rg.xm (.slice (some ⟨lb, lo, none⟩) D lc) _ rfl rfl) ?_;go_frame;refine Rg.lr 17 (exec_len _ _ _ rfl Try.underlying22 _ _ _ rfl) ?_;go_frame
   refine Rg.lr 18 (Rg.xm (.int .i64 ((0 : Nat) : Int)) _ rfl rfl) ?_;go_frame;clear CG;go_wp2
   go_loopw [18] (fun iv wr => ∃ i : Nat, iv = .int .i64 ((i : Nat) : Int) ∧ i ≤ D ∧ Hid (SyI D gs l s i) ∧ Hid (Below w.heap.size w wr)) (fun iv _ => D - (intOf iv).toNat)
   case atStart => exact ⟨0, rfl, Nat.zero_le _, SY, K⟩
   case round =>
    clear SY K;obtain ⟨i, rfl, hi, SY, K⟩ := hrel;generalize wr = we at *
    by_cases hiD : i < D
    case neg =>
     have hiD2 : D = i := by omega
     go_upto_region 5 with (fail);refine wp_region_list ?_;refine Rg.lr 19 (exec_bin (R := .bool false) .lss _ _ _ rfl rfl rfl (b_lss _ (decide_eq_false (by omega)))) ?_;go_frame;go_upto_region 10 with (fail);refine wp_region_list ?_;refine Rg.lr 41 (exec_bin (R := .int .i64 (((s + 1) : Nat) : Int)) .add _ _ _ rfl rfl rfl (b_add _ (by omega) (by omega))) ?_;go_frame;refine Rg.lr 12 (Rg.xm (.int .i64 (((s + 1) : Nat) : Int)) _ rfl rfl) ?_;go_frame;go_wp2
     go_roundw
     case rel => exact ⟨s + 1, by go_num, HSG.out, ι (SY.out.row (by omega)), K⟩
     case measure => simp [intOf]; have := HSG.out; omega
    case pos =>
     have HID := ι hiD;obtain ⟨x, hx⟩ : ∃ x, Hid (l.getD i 0 = x) := ⟨_, ι rfl⟩;obtain ⟨q, hq⟩ : ∃ q, Hid (l.idxOf x = q) := ⟨_, ι rfl⟩
     have hqD : q < D := by
      rw [← hq.out, ← hx.out];have := Bk.idxOf_lt (L := l) (i := i) (by rw [HLL.out]; exact hiD);rw [HLL.out] at this;exact this
     obtain ⟨si, hsi⟩ : ∃ x, Hid (img gs s i = x) := ⟨_, ι rfl⟩;obtain ⟨sq, hsq⟩ : ∃ x, Hid (img gs s q = x) := ⟨_, ι rfl⟩
     have hsiD : si < D := by rw [← hsi.out]; exact img_lt HGG.out s i hsg hiD
     have hsqD : sq < D := by rw [← hsq.out]; exact img_lt HGG.out s q hsg hqD
     obtain ⟨u, hu⟩ : ∃ x, Hid (l.getD si 0 = x) := ⟨_, ι rfl⟩;obtain ⟨v, hv⟩ : ∃ x, Hid (l.getD sq 0 = x) := ⟨_, ι rfl⟩;have C1 := ι (show CL we lb (lo + i) (.int .i64 ((x : Nat) : Int)) by rw [← hx.out]; exact (HLC.out i hiD).up K.out);have C2 := ι (show CL we sb (so + i) (.int .i64 ((si : Nat) : Int)) by rw [← hsi.out]; exact (HSC.out i hiD).up K.out);have C3 := ι (show CL we lb (lo + si) (.int .i64 ((u : Nat) : Int)) by rw [← hu.out]; exact (HLC.out si hsiD).up K.out);have C4 := ι (show CL we sb (so + q) (.int .i64 ((sq : Nat) : Int)) by rw [← hsq.out]; exact (HSC.out q hqD).up K.out);have C5 := ι (show CL we lb (lo + sq) (.int .i64 ((v : Nat) : Int)) by rw [← hv.out]; exact (HLC.out sq hsqD).up K.out);have HV2 := ι (HLV.out.below K.out);have HIX := ι (fun (w2 : World) (h2 : NpW w2 (.slice (some ⟨lb, lo, none⟩) D lc) l) => index_n (.slice (some ⟨lb, lo, none⟩) D lc) l i w2 h2.np (by rw [HLL.out]; omega) (by rw [HLL.out]; exact HID.out))
     rw [hx.out, hq.out] at HIX;obtain ⟨bq, hbq⟩ : ∃ b, Hid (decide (u = v) = b) := ⟨_, ι rfl⟩
     have HBQ := ι (show decide (¬ ((u : Nat) : Int) = ((v : Nat) : Int)) = (!bq) by
      rw [← hbq.out]
      by_cases e : u = v
      ·rw [decide_eq_true e, decide_eq_false (fun h => h (by omega))]; rfl
      ·rw [decide_eq_false e, decide_eq_true (by omega)]; rfl)
     go_upto_region 5 with (fail);refine wp_region_list ?_;refine Rg.lr 19 (exec_bin (R := .bool true) .lss _ _ _ rfl rfl rfl (b_lss _ (decide_eq_true (by omega)))) ?_;go_frame;go_upto_region 6 with (fail);refine wp_region_list ?_;refine Rg.lr 20 (Rg.xm (.int .i64 ((i : Nat) : Int)) _ rfl rfl) ?_;go_frame;refine Rg.lr 21 (exec_indexS slInts _ _ rfl lb (lo) (D) lc (i) rfl rfl hiD) ?_;go_frame;refine Rg.lr 22 (Rg.exec_load (v := .int .i64 ((x : Nat) : Int)) _ _ rfl ⟨lb, lo + i, none⟩ rfl (run_loadInt C1.out.cell)) ?_;go_frame;refine Rg.lr 7 (Rg.xa (.int .i64 ((i : Nat) : Int)) _ rfl rfl) ?_;go_frame;refine Rg.lr 8 (Rg.xa (.int .i64 ((x : Nat) : Int)) _ rfl rfl) ?_;go_frame;go_upto_region 7 with (fail);have hV0 : Below we.heap.size we we.drew := (Below.refl _ _).drew;replace C1 := ι (C1.out.below hV0);replace C2 := ι (C2.out.below hV0);replace C3 := ι (C3.out.below hV0);replace C4 := ι (C4.out.below hV0)
     replace C5 := ι (C5.out.below hV0);replace HV2 := ι (HV2.out.below hV0);replace K := ι (Rg.acc K.out hV0);clear hV0;refine Rg.Any.begin (S := Rg.Both 16 (fun _ => True) (fun W => Below we.drew.heap.size we.drew W)) mix ?_;generalize we.drew = w81 at *;have hS : ∀ (l : Array Bool) W, Below w81.heap.size w81 W → Rg.Both 16 (fun _ => True) (fun W => Below w81.heap.size w81 W) l W := fun l W h => ⟨.inr trivial, h⟩;have hI : Below w81.heap.size w81 w81 := Below.refl _ _;refine Rg.tg 0 16 (.slice (some ⟨lb, lo, none⟩) D lc) 23 rfl rfl (.inl ⟨rfl, fun w _ => Rg.exec_move (v := .slice (some ⟨lb, lo, none⟩) D lc) _ rfl rfl⟩) (hS _ _ hI) ?_;go_frame;refine Rg.tg 1 16 (.slice (some ⟨sb, so, none⟩) D sc) 24 rfl rfl (.inl ⟨rfl, fun w _ => Rg.exec_move (v := .slice (some ⟨sb, so, none⟩) D sc) _ rfl rfl⟩) (hS _ _ hI) ?_;go_frame;refine Rg.tg 2 16 (.int .i64 ((i : Nat) : Int)) 25 rfl rfl (.inl ⟨rfl, fun w _ => Rg.exec_move (v := .int .i64 ((i : Nat) : Int)) _ rfl rfl⟩) (hS _ _ hI) ?_;go_frame
     refine Rg.tg 3 16 (.pointer (some ⟨sb, so + i, none⟩)) 26 rfl rfl (Rg.yields_index slPerm _ _ rfl rfl sb (so) (D) sc (i) rfl rfl hiD) (hS _ _ hI) ?_;go_frame;refine Rg.tg 4 16 (.int .i64 ((si : Nat) : Int)) 27 rfl rfl (Rg.yields_cell _ _ rfl rfl ⟨sb, so + i, none⟩ rfl (fun W hW => run_loadInt ((Below.cell (p := ⟨sb, so + i, none⟩) hW C2.out.lt).trans C2.out.cell))) (hS _ _ hI) ?_;go_frame;refine Rg.tg 5 16 (.pointer (some ⟨lb, lo + si, none⟩)) 28 rfl rfl (Rg.yields_index slInts _ _ rfl rfl lb (lo) (D) lc (si) rfl rfl hsiD) (hS _ _ hI) ?_;go_frame;refine Rg.tg 6 16 (.int .i64 ((u : Nat) : Int)) 29 rfl rfl (Rg.yields_cell _ _ rfl rfl ⟨lb, lo + si, none⟩ rfl (fun W hW => run_loadInt ((Below.cell (p := ⟨lb, lo + si, none⟩) hW C3.out.lt).trans C3.out.cell))) (hS _ _ hI) ?_;go_frame;refine Rg.tg 7 16 (.slice (some ⟨lb, lo, none⟩) D lc) 30 rfl rfl (.inl ⟨rfl, fun w _ => Rg.exec_move (v := .slice (some ⟨lb, lo, none⟩) D lc) _ rfl rfl⟩) (hS _ _ hI) ?_;go_frame
     refine Rg.tg 8 16 (.slice (some ⟨sb, so, none⟩) D sc) 31 rfl rfl (.inl ⟨rfl, fun w _ => Rg.exec_move (v := .slice (some ⟨sb, so, none⟩) D sc) _ rfl rfl⟩) (hS _ _ hI) ?_;go_frame;refine Rg.tg 9 16 (.slice (some ⟨lb, lo, none⟩) D lc) 32 rfl rfl (.inl ⟨rfl, fun w _ => Rg.exec_move (v := .slice (some ⟨lb, lo, none⟩) D lc) _ rfl rfl⟩) (hS _ _ hI) ?_;go_frame;refine Rg.tg 10 16 (.int .i64 ((x : Nat) : Int)) 33 rfl rfl (.inl ⟨rfl, fun w _ => Rg.exec_move (v := .int .i64 ((x : Nat) : Int)) _ rfl rfl⟩) (hS _ _ hI) ?_;go_frame;refine Rg.Any.one (i := 11) (by kernel_rfl) (Rg.Any.ask (some 34) rfl rfl rfl _ _ (exec_fn 164 _ _ _ rfl rfl rfl (Hjcl2 _ _)) ?_);refine (HIX.out w81 HV2.out).mono ?_;rintro e1 w82 ⟨rfl, hb⟩;have hI2_0 := Rg.acc hI hb;clear hb hI;refine ⟨_, rfl, (hS _ _ hI2_0), ?_⟩;go_frame;refine Rg.tg 12 16 (.pointer (some ⟨sb, so + q, none⟩)) 35 rfl rfl (Rg.yields_index slPerm _ _ rfl rfl sb (so) (D) sc (q) rfl rfl hqD) (hS _ _ hI2_0) ?_;go_frame
     refine Rg.tg 13 16 (.int .i64 ((sq : Nat) : Int)) 36 rfl rfl (Rg.yields_cell _ _ rfl rfl ⟨sb, so + q, none⟩ rfl (fun W hW => run_loadInt ((Below.cell (p := ⟨sb, so + q, none⟩) hW C4.out.lt).trans C4.out.cell))) (hS _ _ hI2_0) ?_;go_frame;refine Rg.tg 14 16 (.pointer (some ⟨lb, lo + sq, none⟩)) 37 rfl rfl (Rg.yields_index slInts _ _ rfl rfl lb (lo) (D) lc (sq) rfl rfl hsqD) (hS _ _ hI2_0) ?_;go_frame;refine Rg.tg 15 16 (.int .i64 ((v : Nat) : Int)) 38 rfl rfl (Rg.yields_cell _ _ rfl rfl ⟨lb, lo + sq, none⟩ rfl (fun W hW => run_loadInt ((Below.cell (p := ⟨lb, lo + sq, none⟩) hW C5.out.lt).trans C5.out.cell))) (hS _ _ hI2_0) ?_;go_frame;refine Rg.Any.one (i := 16) (by kernel_rfl) (Rg.Any.run (some 39) rfl rfl rfl (exec_bin (R := .bool (!bq)) .neq _ _ _ rfl rfl rfl (b_neqB _ HBQ.out)) (hS _ _ hI2_0) ?_);go_frame;refine Rg.Any.done (by kernel_rfl) ?_ _;replace C1 := ι (C1.out.below hI2_0)
     replace C2 := ι (C2.out.below hI2_0);replace C3 := ι (C3.out.below hI2_0);replace C4 := ι (C4.out.below hI2_0);replace C5 := ι (C5.out.below hI2_0);replace HV2 := ι (HV2.out.below hI2_0);replace K := ι (Rg.acc K.out hI2_0);clear hS hI2_0;clear C1 C2 C3 C4 C5 HV2
     cases bq with
     | true =>
      have SY2 := ι (SY.out.next (by rw [hsi.out, hx.out, hq.out, hsq.out, hu.out, hv.out]; exact of_decide_eq_true hbq.out));go_upto_region 9 with (fail);refine wp_region_list ?_;refine Rg.lr 40 (exec_bin (R := .int .i64 (((i + 1) : Nat) : Int)) .add _ _ _ rfl rfl rfl (b_add _ (by omega) (by omega))) ?_;go_frame;refine Rg.lr 18 (Rg.xm (.int .i64 (((i + 1) : Nat) : Int)) _ rfl rfl) ?_;go_frame;go_wp2
      go_roundw
      case rel => exact ⟨i + 1, by go_num, HID.out, SY2, K⟩
      case measure => simp [intOf]; have := HID.out; omega
     | false =>
      have HN := ι (syB_no hsg hiD (show l.getD (img gs s i) 0 ≠ l.getD (img gs s (l.idxOf (l.getD i 0))) 0 by rw [hsi.out, hx.out, hq.out, hsq.out, hu.out, hv.out]; exact of_decide_eq_false hbq.out));go_upto_region 8 with (fail);refine wp_region_list ?_;refine Rg.lr 4 (Rg.xa (.bool false) _ rfl rfl) ?_;go_frame;go_wp2;go_ret;exact ⟨by rw [HN.out]; rfl, K.out⟩
theorem Is12_any (gv : Value) (d : Int) (ll : List (List Int)) (lv : Value) (l : List Int) (w : World) (h : Rg.Rows w gv ll) (hl : Rg.Ints w lv l) (hll : l.length ≤ 100) :
  Calls Try.prog 56 #[.agg #[.int .i64 d, gv], lv] w fun e w' => ∃ b, e = .returned (.tuple #[.bool b, .int .i64 (paC d ll l)]) ∧ b = (decide (paC d ll l = 0) && isBl d ll l) ∧ Below w.heap.size w w' := by
 obtain ⟨la, lc, rfl, -⟩ := hl.shape;have HL := ι (NpI.mk hl);clear hl;obtain ⟨ga, gc, rfl, hga, hba⟩ := GI.enter (d) h;have K := ι hba;have G0 := ι hga;clear h hga hba;replace HL := ι (HL.out.below K.out);obtain ⟨gb, hgb⟩ : ∃ gb, w.heap.size = gb := ⟨_, rfl⟩
 go_enter Try.func56, Try.ntmps56
 go_upto_region 0 with (fail);refine wp_region_list ?_;refine Rg.lr 2 (Rg.exec_box _ _ rfl rfl) ?_;go_frame;refine Rg.lr 4 (Rg.xa (.bool false) _ rfl rfl) ?_;go_frame;refine Rg.lr 5 (Rg.xa (.int .i64 0) _ rfl rfl) ?_;go_frame;rw [hgb] at G0 ⊢;have HGB := ι hgb;clear hgb;generalize w.alloc (.cells #[.int .i64 d, .slice ga ll.length gc] 26) = w0 at *;obtain ⟨ck, hck⟩ : ∃ c, Hid (paC d ll l = c) := ⟨_, ι rfl⟩;go_upto_region 1 with (fail);refine wp_region_list ?_;refine Rg.lr 7 (Rg.exec_load (v := .agg #[.int .i64 d, .slice ga ll.length gc]) _ _ rfl ⟨gb, 0, none⟩ rfl (run_loadG G0.out.c0 G0.out.c1)) ?_;go_frame;refine Rg.lr 8 (Rg.xm (.slice la l.length lc) _ rfl rfl) ?_;go_frame;refine list_ask (some 9) rfl rfl _ _ (exec_fn 106 _ _ _ rfl rfl rfl (Hrcl5 _ _)) ?_;refine (bright_any _ d ll _ l w0 G0.out.rows HL.out.i hll).mono ?_;rintro e1 w1 ⟨rfl, hb⟩;rw [hck.out];refine ⟨_, rfl, ?_⟩;go_frame;replace G0 := ι (G0.out.below hb)
 replace HL := ι (HL.out.below hb);replace K := ι (Rg.acc K.out hb);clear hb;refine Rg.lr 6 (Rg.xa (.int .i64 ck) _ rfl rfl) ?_;go_frame
 by_cases h0 : ck = 0
 case neg =>
  skip
  go_upto_region 2 with (fail);refine wp_region_list ?_;refine Rg.lr 10 (Rg.xm (.int .i64 ck) _ rfl rfl) ?_;go_frame;refine Rg.lr 11 (exec_bin (R := .bool true) .neq _ _ _ rfl rfl rfl (b_neqB _ (decide_eq_true h0))) ?_;go_frame;go_upto_region 3 with (fail);refine wp_region_list ?_;refine Rg.lr 12 (Rg.xm (.int .i64 ck) _ rfl rfl) ?_;go_frame;refine Rg.lr 4 (Rg.xa (.bool false) _ rfl rfl) ?_;go_frame;refine Rg.lr 5 (Rg.xa (.int .i64 ck) _ rfl rfl) ?_;go_frame;go_wp2
  go_ret2
  exact ⟨false, by rw [hck.out]; rfl, by rw [hck.out, decide_eq_false h0]; rfl, K.out⟩
 case pos =>
  have HZ := ι (hck.out.trans h0);go_upto_region 2 with (fail);refine wp_region_list ?_;refine Rg.lr 10 (Rg.xm (.int .i64 ck) _ rfl rfl) ?_;go_frame;refine Rg.lr 11 (exec_bin (R := .bool false) .neq _ _ _ rfl rfl rfl (b_neqB _ (decide_eq_false (fun e => e h0)))) ?_;go_frame;clear h0;obtain ⟨hz, D, gs, M, rfl, rfl, rfl, hgg, hD1, hD2, hgl, hML, hMr⟩ := paC_ok HZ.out;have HGG := ι hgg;have HR := ι (And.intro hML hMr);have HIB := ι (isBl_eq D gs M);obtain ⟨sb, hsb⟩ : ∃ b, Hid (syB D gs M = b) := ⟨_, ι rfl⟩;rw [hsb.out] at HIB;clear hz hgg hML hMr;go_upto_region 4 with (fail);refine wp_region_list ?_;refine Rg.lr 13 (Rg.exec_load (v := .agg #[.int .i64 ((D : Nat) : Int), .slice ga (gs.map Ma.ofN).length gc]) _ _ rfl ⟨gb, 0, none⟩ rfl (run_loadG G0.out.c0 G0.out.c1)) ?_;go_frame;refine Rg.lr 14 (Rg.xm (.slice la (Ma.ofN M).length lc) _ rfl rfl) ?_;go_frame;refine list_ask (some 15) rfl rfl _ _ (exec_fn 107 _ _ _ rfl rfl rfl (Hrcl6 _ _)) ?_
  refine (system_any D _ _ gs M w1 hD1 hD2 G0.out.rows HGG.out (by omega) HL.out.i HR.out.1).mono ?_;rintro e1 w2 ⟨rfl, hb⟩;rw [hsb.out];refine ⟨_, rfl, ?_⟩;go_frame;replace G0 := ι (G0.out.below hb);replace HL := ι (HL.out.below hb);replace K := ι (Rg.acc K.out hb);clear hb;refine Rg.lr 4 (Rg.xa (.bool sb) _ rfl rfl) ?_;go_frame;refine Rg.lr 5 (Rg.xa (.int .i64 ((0 : Nat) : Int)) _ rfl rfl) ?_;go_frame;go_wp2
  go_ret2
  exact ⟨sb, by rw [HZ.out]; rfl, by rw [HZ.out, HIB.out]; rfl, K.out⟩
theorem refIs12_any (gv : Value) (d : Int) (ll : List (List Int)) (lv : Value) (l : List Int) (w : World) (h : Rg.Rows w gv ll) (hl : Rg.Ints w lv l) (hll : l.length ≤ 100) :
  Calls Try.prog 57 #[.agg #[.int .i64 d, gv], lv] w fun e w' => ∃ b, e = .returned (.tuple #[.bool b, .int .i64 (paC d ll l)]) ∧ b = (decide (paC d ll l = 0) && isBl d ll l) ∧ Below w.heap.size w w' := by
 obtain ⟨la, lc, rfl, -⟩ := hl.shape;have HL := ι (NpI.mk hl);clear hl;obtain ⟨ga, gc, rfl, hga, hba⟩ := GI.enter (d) h;have K := ι hba;have G0 := ι hga;clear h hga hba;replace HL := ι (HL.out.below K.out);obtain ⟨gb, hgb⟩ : ∃ gb, w.heap.size = gb := ⟨_, rfl⟩
 go_enter Try.func57, Try.ntmps57
 go_upto_region 0 with (fail);refine wp_region_list ?_;refine Rg.lr 2 (Rg.exec_box _ _ rfl rfl) ?_;go_frame;refine Rg.lr 4 (Rg.xa (.bool false) _ rfl rfl) ?_;go_frame;refine Rg.lr 5 (Rg.xa (.int .i64 0) _ rfl rfl) ?_;go_frame;rw [hgb] at G0 ⊢;have HGB := ι hgb;clear hgb;generalize w.alloc (.cells #[.int .i64 d, .slice ga ll.length gc] 26) = w0 at *;obtain ⟨ck, hck⟩ : ∃ c, Hid (paC d ll l = c) := ⟨_, ι rfl⟩;go_upto_region 1 with (fail);refine wp_region_list ?_;refine Rg.lr 7 (Rg.exec_load (v := .agg #[.int .i64 d, .slice ga ll.length gc]) _ _ rfl ⟨gb, 0, none⟩ rfl (run_loadG G0.out.c0 G0.out.c1)) ?_;go_frame;refine Rg.lr 8 (Rg.xm (.slice la l.length lc) _ rfl rfl) ?_;go_frame;refine list_ask (some 9) rfl rfl _ _ (exec_fn 108 _ _ _ rfl rfl rfl (Hrcl7 _ _)) ?_;refine (partition_any _ d ll _ l w0 G0.out.rows HL.out.i hll).mono ?_;rintro e1 w1 ⟨rfl, hb⟩;rw [hck.out];refine ⟨_, rfl, ?_⟩;go_frame
 replace G0 := ι (G0.out.below hb);replace HL := ι (HL.out.below hb);replace K := ι (Rg.acc K.out hb);clear hb;refine Rg.lr 6 (Rg.xa (.int .i64 ck) _ rfl rfl) ?_;go_frame
 by_cases h0 : ck = 0
 case neg =>
  skip
  go_upto_region 2 with (fail);refine wp_region_list ?_;refine Rg.lr 10 (Rg.xm (.int .i64 ck) _ rfl rfl) ?_;go_frame;refine Rg.lr 11 (exec_bin (R := .bool true) .neq _ _ _ rfl rfl rfl (b_neqB _ (decide_eq_true h0))) ?_;go_frame;go_upto_region 3 with (fail);refine wp_region_list ?_;refine Rg.lr 12 (Rg.xm (.int .i64 ck) _ rfl rfl) ?_;go_frame;refine Rg.lr 4 (Rg.xa (.bool false) _ rfl rfl) ?_;go_frame;refine Rg.lr 5 (Rg.xa (.int .i64 ck) _ rfl rfl) ?_;go_frame;go_wp2
  go_ret2
  exact ⟨false, by rw [hck.out]; rfl, by rw [hck.out, decide_eq_false h0]; rfl, K.out⟩
 case pos =>
  have HZ := ι (hck.out.trans h0);go_upto_region 2 with (fail);refine wp_region_list ?_;refine Rg.lr 10 (Rg.xm (.int .i64 ck) _ rfl rfl) ?_;go_frame;refine Rg.lr 11 (exec_bin (R := .bool false) .neq _ _ _ rfl rfl rfl (b_neqB _ (decide_eq_false (fun e => e h0)))) ?_;go_frame;clear h0;obtain ⟨hz, D, gs, M, rfl, rfl, rfl, hgg, hD1, hD2, hgl, hML, hMr⟩ := paC_ok HZ.out;have HGG := ι hgg;have HR := ι (And.intro hML hMr);have HIB := ι (isBl_eq D gs M);obtain ⟨sb, hsb⟩ : ∃ b, Hid (syB D gs M = b) := ⟨_, ι rfl⟩;rw [hsb.out] at HIB;clear hz hgg hML hMr;go_upto_region 4 with (fail);refine wp_region_list ?_;refine Rg.lr 13 (Rg.exec_load (v := .agg #[.int .i64 ((D : Nat) : Int), .slice ga (gs.map Ma.ofN).length gc]) _ _ rfl ⟨gb, 0, none⟩ rfl (run_loadG G0.out.c0 G0.out.c1)) ?_;go_frame;refine Rg.lr 14 (Rg.xm (.slice la (Ma.ofN M).length lc) _ rfl rfl) ?_;go_frame;refine list_ask (some 15) rfl rfl _ _ (exec_fn 105 _ _ _ rfl rfl rfl (Hrcl8 _ _)) ?_
  refine (closed_any D _ _ gs (Ma.ofN M) w1 hD1 hD2 G0.out.rows HGG.out (by omega) HL.out.i (by rw [Ma.len_ofN]; exact HR.out.1)).mono ?_;rintro e1 w2 ⟨cv, M2, rfl, hcv, hM2, hb⟩;have hci := hcv.ints (by rw [Ma.len_ofN, hM2.len]; omega);have HD := ι ((lab_syB HGG.out HR.out.1 HR.out.2 hM2).trans hsb.out);clear hcv hM2;refine ⟨_, rfl, ?_⟩;go_frame;replace G0 := ι (G0.out.below hb);replace HL := ι (HL.out.below hb);replace K := ι (Rg.acc K.out hb);clear hb;have CV := ι (NpI.mk hci);refine Rg.lr 16 (Rg.xm (.slice la (Ma.ofN M).length lc) _ rfl rfl) ?_;go_frame;refine list_ask (some 17) rfl rfl _ _ (exec_fn 42 _ _ _ rfl rfl rfl (Hocl5 _ _)) ?_;refine (Same_any CV.out.i HL.out.i HD (Below.refl _ _)).mono ?_;rintro e1 w3 ⟨rfl, hb⟩;refine ⟨_, rfl, ?_⟩;go_frame;replace G0 := ι (G0.out.below hb);replace HL := ι (HL.out.below hb);replace CV := ι (CV.out.below hb);replace K := ι (Rg.acc K.out hb);clear hb
  refine Rg.lr 4 (Rg.xa (.bool sb) _ rfl rfl) ?_;go_frame;refine Rg.lr 5 (Rg.xa (.int .i64 ((0 : Nat) : Int)) _ rfl rfl) ?_;go_frame;go_wp2
  go_ret2
  exact ⟨sb, by rw [HZ.out]; rfl, by rw [HZ.out, HIB.out]; rfl, K.out⟩

theorem Hscl3 (args : Array Value) (w : World) : (callFunc 57 args).run Try.prog w = .ok (.enter 57 args) w := by kernel_rfl
structure BeW (w W : World) : Prop where
 b : Below w.heap.size w W
theorem BeW.up {w W W' : World} (h : BeW w W) (hb : Below W.heap.size W W') : BeW w W' := ⟨Rg.acc h.b hb⟩
theorem BeW.below {w W W' : World} (h : BeW w W) (hb : Below W.heap.size W W') : BeW w W' := h.up hb
structure ZD (w : World) (b d : Nat) : Prop where
 lt : b < w.heap.size
 c0 : w.cell? ⟨b, 0, none⟩ = some (.int .i64 ((d : Nat) : Int))
 c1 : w.cell? ⟨b, 1, none⟩ = some (.slice none 0 0)
 fr : ∀ o, w.frozen? ⟨b, o, none⟩ = false
theorem ZD.below {w w' : World} {b d : Nat} (h : ZD w b d) (hb : Below w.heap.size w w') : ZD w' b d :=
 ⟨Nat.lt_of_lt_of_le h.lt hb.size, (hb.cell (p := ⟨b, 0, none⟩) h.lt).trans h.c0, (hb.cell (p := ⟨b, 1, none⟩) h.lt).trans h.c1, fun o => (hb.frozen (p := ⟨b, o, none⟩) h.lt).trans (h.fr o)⟩
theorem ZD.up {w w' : World} {b d : Nat} (h : ZD w b d) (hb : Below w.heap.size w w') : ZD w' b d := h.below hb
theorem ZD.set {w : World} {b d : Nat} (h : ZD w b d) (e : Nat) : ZD (w.setCell ⟨b, 0, none⟩ (.int .i64 ((e : Nat) : Int))) b e :=
 ⟨by simpa using h.lt, World.cell?_setCell_same (h := h.c0) .., by rw [World.cell?_setCell_other (h := by intro e; injection e with e1 e2; omega) ..]; exact h.c1, fun o => by rw [World.frozen?_setCell]; exact h.fr o⟩
theorem ZD.start {w W : World} {b d : Nat} (h : ZD W b d) (hb : Below w.heap.size w W) (hlo : w.heap.size ≤ b) : AcM w W b d (fun _ => False) (.slice none 0 0) [] := AcM.start hb ⟨h.c0, h.lt⟩ h.c1 (h.fr 1) hlo
theorem zd_new (w : World) (d : Nat) : ∃ W, (storeVar 26 ⟨w.heap.size, 0, none⟩ (.agg #[.int .i64 ((d : Nat) : Int), .slice none 0 0])).run Try.prog (w.alloc (.cells #[.int .i64 0, .slice none 0 0] 26)) = .ok () W ∧ ZD W w.heap.size d ∧ Below w.heap.size w W := by
 have hz := ZG.new w;obtain ⟨p0, p1, p2⟩ := group_set (.int .i64 ((d : Nat) : Int)) (.slice none 0 0) hz.c0 hz.c1 ((Below.refl w.heap.size w).alloc (Nat.le_refl _) _) (Nat.le_refl _);exact ⟨_, run_storeG _ none 0 0 hz.c0 hz.c1 (hz.fr 0) (hz.fr 1), ⟨by simp, p0, p1, fun o => by rw [World.frozen?_setCell, World.frozen?_setCell]; exact hz.fr o⟩, p2⟩
theorem zg_store {w W : World} {b : Nat} (h : ZG W b) (hb : Below w.heap.size w W) (hlo : w.heap.size ≤ b) (d : Int) (a : Option Addr) (n c : Nat) :
  ∃ X, (storeVar 26 ⟨b, 0, none⟩ (.agg #[.int .i64 d, .slice a n c])).run Try.prog W = .ok () X ∧ X.cell? ⟨b, 0, none⟩ = some (.int .i64 d) ∧ X.cell? ⟨b, 1, none⟩ = some (.slice a n c) ∧ Below w.heap.size w X ∧ Rg.Kp (fun z => z = b) W X := by
 obtain ⟨p0, p1, p2⟩ := group_set (.int .i64 d) (.slice a n c) h.c0 h.c1 hb hlo;have k1 : Rg.Kp (fun z => z = b) W (W.setCell ⟨b, 0, none⟩ (.int .i64 d)) := Rg.Kp.of_setCell rfl;have k2 : Rg.Kp (fun z => z = b) (W.setCell ⟨b, 0, none⟩ (.int .i64 d)) ((W.setCell ⟨b, 0, none⟩ (.int .i64 d)).setCell ⟨b, 1, none⟩ (.slice a n c)) := Rg.Kp.of_setCell rfl;exact ⟨_, run_storeG _ a n c h.c0 h.c1 (h.fr 0) (h.fr 1), p0, p1, p2, Rg.Kp.trans (M := fun z => z = b) k1 k2 (fun _ _ e => e)⟩
def AcPost (d : Int) (ll : List (List Int)) (l : List Int) (w : World) (e : Ending) (w' : World) : Prop := ∃ v, e = .returned (.tuple #[v, .int .i64 (acC d ll l)]) ∧ AcAns w' d ll l v ∧ Below w.heap.size w w'
theorem acC_g {d : Int} {ll : List (List Int)} {l : List Int} {c : Int} (h : paC d ll l = c) (hc : c ≠ 0) : acC d ll l = c := by unfold acC; rw [if_neg (by rw [h]; exact hc)]; exact h
theorem acC_f {d : Int} {ll : List (List Int)} {l : List Int} (h : paC d ll l = 0) (hc : isBl d ll l = false) : acC d ll l = 13 := by unfold acC; rw [if_pos h, if_neg (by rw [hc]; decide)]
theorem acC_z {d : Int} {ll : List (List Int)} {l : List Int} (h : paC d ll l = 0) (hc : isBl d ll l = true) : acC d ll l = 0 := by unfold acC; rw [if_pos h, if_pos hc]
theorem GI.at {w : World} {D gb : Nat} {ga : Option Addr} {gc : Nat} {gs : List (List Nat)} (h : GI w gb ((D : Nat) : Int) ga (gs.map Ma.ofN) gc) (hg : GG D gs) (hD : 1 ≤ D) {s : Nat} (hs : s < gs.length) :
  ∃ b o sb so sc, ga = some ⟨b, o, none⟩ ∧ CL w b (o + s) (.slice (some ⟨sb, so, none⟩) D sc) ∧ ∀ i, i < D → CL w sb (so + i) (.int .i64 ((img gs s i : Nat) : Int)) := by
 obtain ⟨ga', gc', hsh, -, -, -, har⟩ := h.rows.shape;simp only [Value.slice.injEq, true_and] at hsh;obtain ⟨rfl, rfl⟩ := hsh;obtain ⟨b, o, e, hb, hx⟩ := har (by rw [List.length_map]; omega);obtain ⟨u, h1, h2⟩ := hx s (by rw [List.length_map]; exact hs);rw [List.getElem_map] at h2;have hlen : (gs[s]).length = D := (hg _ (List.getElem_mem hs)).2;obtain ⟨a, c, rfl, hc, hm, _, hcell⟩ := Rg.NP.shape (show Rg.NP w u gs[s] from h2);obtain ⟨sb, so, rfl, hsb, hr⟩ := hcell (by omega);refine ⟨b, o, sb, so, c, e, ⟨by rw [hlen] at h1; exact h1, hb⟩, fun i hi => ⟨?_, hsb⟩⟩
 have e : img gs s i = gs[s].getD i 0 := by
  unfold img;rw [List.getD_eq_getElem?_getD (l := gs), List.getElem?_eq_getElem hs, Option.getD_some]
 rw [e, getN_at (by omega)];exact hr i (by omega)
theorem NpI.at {w : World} {lv : Value} {M : List Nat} {D : Nat} (h : NpI w lv (Ma.ofN M)) (hM : M.length = D) (hD : 1 ≤ D) : ∃ b o c, lv = .slice (some ⟨b, o, none⟩) D c ∧ ∀ i, i < D → CL w b (o + i) (.int .i64 ((M.getD i 0 : Nat) : Int)) := by
 obtain ⟨a, c, rfl, hc, hm, _, hcell⟩ := Rg.NP.shape (show Rg.NP w lv M from h.i);obtain ⟨b, o, rfl, hb, hr⟩ := hcell (by omega);refine ⟨b, o, c, by rw [hM], fun i hi => ⟨?_, hb⟩⟩;rw [getN_at (by omega)];exact hr i (by omega)
theorem made_row (w : World) (n : Nat) : RwAt (w.alloc (.cells (madeCells #[.int .i64 0] n) 3)) w.heap.size n (fun _ => 0) := by
 have h := World.rowIs_made w (.int .i64 0) n 3;exact ⟨by simp, fun i hi => h.cell hi, fun i => h.frozen i⟩
theorem img_gs {gs : List (List Nat)} {s : Nat} (hs : s < gs.length) (i : Nat) : img gs s i = gs[s].getD i 0 := by
 unfold img;rw [List.getD_eq_getElem?_getD (l := gs), List.getElem?_eq_getElem hs, Option.getD_some]
theorem put_val {D : Nat} {gs : List (List Nat)} {M : List Nat} (hl : M.length = D) (hr : Bk.rgc M 0) (hI : Bk.Inv D gs.length (img gs) M) {s i : Nat} (hs : s < gs.length) (hi : i < D) : M.getD (img gs s i) 0 = (Bk.acB M gs[s]).getD (M.getD i 0) 0 := by
 have hm : M.getD i 0 < Bk.mny M 0 := (Bk.mem_mny hr _).1 (by rw [Bk.getD_lt (by omega)]; exact List.getElem_mem _);rw [Bk.acB_at hm, ← img_gs hs];exact (Bk.inv_iff hl).1 hI s i hs hi
theorem fil_put {M g : List Nat} {z : Nat → Int} {i n v : Nat} (hi : i < M.length) (hn : M.getD i 0 = n) (hv : v = (Bk.acB M g).getD n 0) : (fun c => if c = n then ((v : Nat) : Int) else Bk.fil M g z i c) = Bk.fil M g z (i + 1) := by
 funext c
 rw [Bk.fil_step hi, ← getN_at hi, hn]
 by_cases e : c = n
 ·rw [if_pos e, if_pos e, hv, e]
 ·rw [if_neg e, if_neg e]
theorem row_done {w : World} {xb cap : Nat} {M g : List Nat} {z : Nat → Int} (h : RwAt w xb (Bk.mny M 0) (Bk.fil M g z M.length)) (hr : Bk.rgc M 0) (hc : Bk.mny M 0 ≤ cap) (hm : cap ≤ maxLen) (hn : Bk.mny M 0 ≤ 1000) : Rg.NP w (.slice (some ⟨xb, 0, none⟩) (Bk.mny M 0) cap) (Bk.acB M g) :=
 h.np _ (Bk.acB_len M g) hc hm hn (fun i hi => by
  rw [Bk.acB_len] at hi
  rw [Bk.fil_all hr hi, Bk.getD_lt (by rw [Bk.acB_len]; exact hi)])
theorem np_fp {F : Nat → Prop} {w W : World} {xb n c : Nat} {l : List Nat} (h : Rg.NP W (.slice (some ⟨xb, 0, none⟩) n c) l) (h1 : w.heap.size ≤ xb) (h2 : xb < W.heap.size) : FP (Fup F w W) W (.slice (some ⟨xb, 0, none⟩) n c) l :=
 Rg.FVals.of h (fun k e => by simp [Value.ownBlock] at e; exact .inr ⟨e ▸ h1, e ▸ h2⟩)
theorem Action12_any (gv : Value) (d : Int) (ll : List (List Int)) (lv : Value) (l : List Int) (w : World) (h : Rg.Rows w gv ll) (hl : Rg.Ints w lv l) (hll : l.length ≤ 100) :
  Calls Try.prog 58 #[.agg #[.int .i64 d, gv], lv] w (AcPost d ll l w) := by
 obtain ⟨la, lc, rfl, -⟩ := hl.shape;have HL := ι (NpI.mk hl);clear hl;obtain ⟨ga, gc, rfl, hga, hba⟩ := GI.enter (d) h;have K := ι hba;have G0 := ι hga;clear h hga hba;replace HL := ι (HL.out.below K.out);obtain ⟨gb, hgb⟩ : ∃ gb, w.heap.size = gb := ⟨_, rfl⟩
 go_enter Try.func58, Try.ntmps58
 go_upto_region 0 with (fail);refine wp_region_list ?_;refine Rg.lr 2 (Rg.exec_box _ _ rfl rfl) ?_;go_frame;rw [hgb] at G0 ⊢;have HGB := ι (show w.heap.size ≤ gb from Nat.le_of_eq hgb);clear hgb;generalize w.alloc (.cells #[.int .i64 d, .slice ga ll.length gc] 26) = w0 at *;refine Rg.lr 4 (exec_allocG rfl) ?_;go_frame;have hzg := ZG.new w0;have hb := (Below.refl w0.heap.size w0).alloc (Nat.le_refl _) (.cells #[.int .i64 0, .slice none 0 0] 26);replace G0 := ι (G0.out.below hb);replace HL := ι (HL.out.below hb);have HRB := ι (show w.heap.size ≤ w0.heap.size from K.out.size);replace K := ι (Rg.acc K.out hb);obtain ⟨rb, hrb⟩ : ∃ rb, w0.heap.size = rb := ⟨_, rfl⟩;rw [hrb] at hzg HRB ⊢;generalize w0.alloc (.cells #[.int .i64 0, .slice none 0 0] 26) = w1 at *;have ZF := ι hzg;clear hzg hb hrb;refine Rg.lr 5 (Rg.xa (.int .i64 0) _ rfl rfl) ?_;go_frame;obtain ⟨ck, hck⟩ : ∃ c, Hid (paC d ll l = c) := ⟨_, ι rfl⟩
 obtain ⟨sb, hsb⟩ : ∃ b, Hid (isBl d ll l = b) := ⟨_, ι rfl⟩;go_upto_region 1 with (fail);refine wp_region_list ?_;refine Rg.lr 13 (Rg.exec_load (v := .agg #[.int .i64 d, .slice ga ll.length gc]) _ _ rfl ⟨gb, 0, none⟩ rfl (run_loadG G0.out.c0 G0.out.c1)) ?_;go_frame;refine Rg.lr 14 (Rg.xm (.slice la l.length lc) _ rfl rfl) ?_;go_frame;refine list_ask (some 15) rfl rfl _ _ (exec_fn 106 _ _ _ rfl rfl rfl (Hrcl5 _ _)) ?_;refine (bright_any _ d ll _ l w1 G0.out.rows HL.out.i hll).mono ?_;rintro e1 w2 ⟨rfl, hb⟩;rw [hck.out];refine ⟨_, rfl, ?_⟩;go_frame;replace G0 := ι (G0.out.below hb);replace HL := ι (HL.out.below hb);replace ZF := ι (ZF.out.below hb);replace K := ι (Rg.acc K.out hb);clear hb;refine Rg.lr 6 (Rg.xa (.int .i64 ck) _ rfl rfl) ?_;go_frame
 by_cases h0 : ck = 0
 case neg =>
  skip
  go_upto_region 2 with (fail);refine wp_region_list ?_;refine Rg.lr 16 (Rg.xm (.int .i64 ck) _ rfl rfl) ?_;go_frame;refine Rg.lr 17 (exec_bin (R := .bool true) .neq _ _ _ rfl rfl rfl (b_neqB _ (decide_eq_true h0))) ?_;go_frame;go_upto_region 3 with (fail);refine wp_region_list ?_;refine Rg.lr 18 (exec_buildGz rfl) ?_;go_frame;refine Rg.lr 19 (Rg.xm (.int .i64 ck) _ rfl rfl) ?_;go_frame;obtain ⟨X1, q1, q2, q3, q4, q5⟩ := zg_store ZF.out K.out HRB.out 0 none 0 0;refine Rg.list_skip none rfl rfl (Rg.exec_store _ _ _ rfl _ rfl _ rfl q1) ?_;go_frame;have HQ := ι (And.intro q2 (And.intro q3 q4));clear q1 q2 q3 q4 q5;refine Rg.lr 5 (Rg.xa (.int .i64 ck) _ rfl rfl) ?_;go_frame;go_wp2;exact bodyPost_ret (results_cellG2 rfl _ rfl rfl HQ.out.1 HQ.out.2.1) rfl ⟨_, by rw [acC_g hck.out h0]; rfl, .inl ⟨by rw [acC_g hck.out h0]; exact h0, rfl⟩, HQ.out.2.2⟩
 case pos =>
  have HZ := ι (hck.out.trans h0);go_upto_region 2 with (fail);refine wp_region_list ?_;refine Rg.lr 16 (Rg.xm (.int .i64 ck) _ rfl rfl) ?_;go_frame;refine Rg.lr 17 (exec_bin (R := .bool false) .neq _ _ _ rfl rfl rfl (b_neqB _ (decide_eq_false (fun e => e h0)))) ?_;go_frame;clear h0;obtain ⟨hz, D, gs, M, rfl, rfl, rfl, hgg, hD1, hD2, hgl, hML, hMr⟩ := paC_ok HZ.out;have HGG := ι hgg;have HR := ι (And.intro hML hMr);have HSY := ι (show syB D gs M = sb by rw [← isBl_eq]; exact hsb.out);clear hz hgg hML hMr
  cases sb with
  | false =>
   skip
   go_upto_region 4 with (fail);refine wp_region_list ?_;refine Rg.lr 20 (Rg.exec_load (v := .agg #[.int .i64 ((D : Nat) : Int), .slice ga (gs.map Ma.ofN).length gc]) _ _ rfl ⟨gb, 0, none⟩ rfl (run_loadG G0.out.c0 G0.out.c1)) ?_;go_frame;refine Rg.lr 21 (Rg.xm (.slice la (Ma.ofN M).length lc) _ rfl rfl) ?_;go_frame;refine list_ask (some 22) rfl rfl _ _ (exec_fn 107 _ _ _ rfl rfl rfl (Hrcl6 _ _)) ?_;refine (system_any D _ _ gs M w2 hD1 hD2 G0.out.rows HGG.out (by omega) HL.out.i HR.out.1).mono ?_;rintro e1 w3 ⟨rfl, hb⟩;rw [HSY.out];refine ⟨_, rfl, ?_⟩;go_frame;replace G0 := ι (G0.out.below hb);replace HL := ι (HL.out.below hb);replace ZF := ι (ZF.out.below hb);replace K := ι (Rg.acc K.out hb);clear hb;refine Rg.lr 23 (exec_not _ _ false rfl rfl) ?_;go_frame;go_upto_region 5 with (fail);refine wp_region_list ?_;refine Rg.lr 24 (exec_buildGz rfl) ?_;go_frame;obtain ⟨X1, q1, q2, q3, q4, q5⟩ := zg_store ZF.out K.out HRB.out 0 none 0 0
   refine Rg.list_skip none rfl rfl (Rg.exec_store _ _ _ rfl _ rfl _ rfl q1) ?_;go_frame;have HQ := ι (And.intro q2 (And.intro q3 q4));clear q1 q2 q3 q4 q5;refine Rg.lr 5 (Rg.xa (.int .i64 ((13 : Nat) : Int)) _ rfl rfl) ?_;go_frame;go_wp2;exact bodyPost_ret (results_cellG2 rfl _ rfl rfl HQ.out.1 HQ.out.2.1) rfl ⟨_, by rw [acC_f HZ.out hsb.out]; rfl, .inl ⟨by rw [acC_f HZ.out hsb.out]; decide, rfl⟩, HQ.out.2.2⟩
  | true =>
   go_upto_region 4 with (fail);refine wp_region_list ?_;refine Rg.lr 20 (Rg.exec_load (v := .agg #[.int .i64 ((D : Nat) : Int), .slice ga (gs.map Ma.ofN).length gc]) _ _ rfl ⟨gb, 0, none⟩ rfl (run_loadG G0.out.c0 G0.out.c1)) ?_;go_frame;refine Rg.lr 21 (Rg.xm (.slice la (Ma.ofN M).length lc) _ rfl rfl) ?_;go_frame;refine list_ask (some 22) rfl rfl _ _ (exec_fn 107 _ _ _ rfl rfl rfl (Hrcl6 _ _)) ?_;refine (system_any D _ _ gs M w2 hD1 hD2 G0.out.rows HGG.out (by omega) HL.out.i HR.out.1).mono ?_;rintro e1 w3 ⟨rfl, hb⟩;rw [HSY.out];refine ⟨_, rfl, ?_⟩;go_frame;replace G0 := ι (G0.out.below hb);replace HL := ι (HL.out.below hb);replace ZF := ι (ZF.out.below hb);replace K := ι (Rg.acc K.out hb);clear hb;refine Rg.lr 23 (exec_not _ _ true rfl rfl) ?_;go_frame;have HAC := ι (acC_z HZ.out hsb.out);have HINV := ι ((syB_iff HR.out.1).1 HSY.out);obtain ⟨dm, hdm⟩ : ∃ n, Hid (Bk.mny M 0 = n) := ⟨_, ι rfl⟩
   have hdm1 : 1 ≤ dm ∧ dm ≤ 64 := by
    have h1 := (Bk.mem_mny HR.out.2 (M.getD 0 0)).1 (by rw [Bk.getD_lt (by rw [HR.out.1]; omega)]; exact List.getElem_mem _);have h2 := Bk.mny_le M 0;rw [HR.out.1] at h2;rw [hdm.out] at h1 h2;omega
   have hlt : ∀ i, i < D → M.getD i 0 < dm := fun i hi => by
    rw [← hdm.out];exact (Bk.mem_mny HR.out.2 _).1 (by rw [Bk.getD_lt (by rw [HR.out.1]; omega)]; exact List.getElem_mem _)
   have HLT := ι hlt;clear hlt;obtain ⟨lb, lo, lc', hlv, hlx⟩ := HL.out.at HR.out.1 hD1
   have hll2 : (Ma.ofN M).length = D := by rw [Ma.len_ofN]; exact HR.out.1
   rw [hll2] at HL hlv ⊢
   injection hlv with e1 _ e3
   subst e1 e3;have HLX := ι hlx;clear hlx;go_upto_region 6 with (fail);refine wp_region_list ?_;refine Rg.lr 25 (Rg.xm (.slice (some ⟨lb, lo, none⟩) D lc) _ rfl rfl) ?_;go_frame;refine list_ask (some 26) rfl rfl _ _ (exec_fn1 109 _ _ rfl rfl (Hocl3 _ _)) ?_;refine (Max_any _ M w3 (show Rg.NP _ _ M from HL.out.i) (by rw [HR.out.1]; exact hD1) (by rw [HR.out.1]; omega) (fun x hx => by have := Bk.rgc_lt HR.out.2 x hx; rw [HR.out.1] at this; omega)).mono ?_;rintro e1 w4 ⟨mx, rfl, hm1, hm2, hb⟩
   have hmx : mx + 1 = dm := by rw [← hdm.out]; exact Bk.max_mny HR.out.2 hm1 hm2
   have HW0 := ι hb;clear hm1 hm2;refine ⟨_, rfl, ?_⟩;go_frame;replace G0 := ι (G0.out.below hb);replace HL := ι (HL.out.below hb);replace ZF := ι (ZF.out.below hb);replace K := ι (Rg.acc K.out hb);clear hb;refine Rg.lr 27 (exec_bin (R := .int .i64 ((dm : Nat) : Int)) .add _ _ _ rfl rfl rfl (b_add _ (by omega) (by omega))) ?_;go_frame;refine Rg.lr 28 (exec_buildG1 (d := ((dm : Nat) : Int)) _ rfl rfl) ?_;go_frame;obtain ⟨X2, s1, zd, hb2⟩ := zd_new w4 dm;refine Rg.lr 7 (exec_allocG rfl) ?_;go_frame;refine Rg.list_skip none rfl rfl (Rg.exec_store _ _ _ rfl _ rfl _ rfl s1) ?_;go_frame;clear s1;have HWB := ι K.out;have GB := ι G0.out;have LB := ι HL.out;have ZB := ι ZF.out
   have LX := ι (fun i (hi : i < D) => (HLX.out i hi).up (show Below w3.heap.size w3 w4 from by first | exact HW0.out | exact Below.refl _ _))
   obtain ⟨hb3, hhb⟩ : ∃ b, w4.heap.size = b := ⟨_, rfl⟩;have AM := ι (show AcM w4 X2 hb3 dm (fun _ => False) (.slice none 0 0) ([].map (Bk.acB M)) by rw [← hhb]; exact zd.start hb2 (Nat.le_refl _));rw [hhb];clear hhb zd hb2 hmx G0 HL ZF HLX HW0 K;have G0 := ι (GB.out.below AM.out.bel);go_upto_region 7 with (fail);refine wp_region_list ?_;refine Rg.lr 29 (exec_fieldG _ rfl rfl) ?_;go_frame;refine Rg.lr 30 (Rg.exec_load (v := .slice ga (gs.map Ma.ofN).length gc) _ _ rfl ⟨gb, 1, none⟩ rfl (Rg.run_loadSl _ _ Try.underlying24 G0.out.c1)) ?_;go_frame;refine Rg.lr 31 (exec_len _ _ _ rfl Try.underlying24 _ _ _ rfl) ?_;go_frame;refine Rg.lr 32 (Rg.xm (.int .i64 ((0 : Nat) : Int)) _ rfl rfl) ?_;go_frame;have hlm : (gs.map Ma.ofN).length = gs.length := List.length_map ..;rw [hlm];clear G0;have HMS := ι hlm;clear hlm;obtain ⟨F0, hF0⟩ : ∃ F : Nat → Prop, (fun _ => False) = F := ⟨_, rfl⟩;rw [hF0] at AM
   clear hF0;go_wp2
   go_loopw [32] (fun sv wr => ∃ (s : Nat) (F : Nat → Prop) (gv : Value), sv = .int .i64 ((s : Nat) : Int) ∧ s ≤ gs.length ∧ Hid (AcM w4 wr hb3 dm F gv ((gs.take s).map (Bk.acB M)))) (fun sv _ => gs.length - (intOf sv).toNat)
   case atStart => exact ⟨0, _, _, rfl, Nat.zero_le _, AM⟩
   case round =>
    clear AM;obtain ⟨s, F, gv, rfl, hs, AM⟩ := hrel;obtain ⟨va, vc, hvs⟩ := AM.out.rw.shape;rw [List.length_map, List.length_take, Nat.min_eq_left hs] at hvs;subst hvs;generalize wr = wd at *;have G0 := ι (GB.out.below AM.out.bel);have ZF := ι (ZB.out.below AM.out.bel)
    by_cases hsg : s < gs.length
    case neg =>
     have hsg2 : s = gs.length := by omega
     have hc1 : (gs.map Ma.ofN).length = gs.length := HMS.out;have G1 := ι (show wd.cell? ⟨gb, 1, none⟩ = some (.slice ga gs.length gc) by rw [← hc1]; exact G0.out.c1);go_upto_region 8 with (fail);refine wp_region_list ?_;refine Rg.lr 33 (exec_bin (R := .bool false) .lss _ _ _ rfl rfl rfl (b_lss _ (decide_eq_false (by omega)))) ?_;go_frame
     have HRW := ι (show Rg.Rows wd (.slice va s vc) ((gs.map (Bk.acB M)).map Ma.ofN) by
      have h := AM.out.rw.rows (by rw [List.length_map, List.length_take]; omega);rw [hsg2, List.take_length] at h;rw [hsg2]
      exact h)
     obtain ⟨X1, q1, q2, q3, q4, q5⟩ := zg_store ZF.out (Rg.acc HWB.out AM.out.bel) HRB.out ((dm : Nat) : Int) va s vc;have hrk := AM.out.rw.kp q5 (fun k hk e => by have h1 := AM.out.Flo k hk; have h2 := ZB.out.lt; omega) (fun k hk e => by have h1 := (AM.out.rw.lt k hk).1; have h2 := ZB.out.lt; omega)
     have HRW2 := ι (show Rg.Rows X1 (.slice va gs.length vc) ((gs.map (Bk.acB M)).map Ma.ofN) by
      have h := hrk.rows (by rw [List.length_map, List.length_take]; omega);rw [hsg2, List.take_length] at h
      exact h)
     go_upto_region 18 with (fail);refine wp_region_list ?_;refine Rg.lr 64 (Rg.exec_load (v := .agg #[.int .i64 ((dm : Nat) : Int), .slice va s vc]) _ _ rfl ⟨hb3, 0, none⟩ rfl (run_loadG AM.out.g0.cell AM.out.g1)) ?_;go_frame;refine Rg.list_skip none rfl rfl (Rg.exec_store _ _ _ rfl _ rfl _ rfl q1) ?_;go_frame;have HQ := ι (And.intro q2 (And.intro q3 q4));clear q1 q2 q3 q4 q5 hrk;refine Rg.lr 5 (Rg.xa (.int .i64 ((0 : Nat) : Int)) _ rfl rfl) ?_;go_frame;go_wp2;refine bodyPost_ret (results_cellG2 rfl _ rfl rfl HQ.out.1 HQ.out.2.1) rfl ⟨_, by rw [HAC.out]; rfl, .inr ⟨HAC.out, gs, M, va, vc, rfl, rfl, ?_, HRW2.out⟩, HQ.out.2.2⟩;rw [hdm.out, hsg2]
    case pos =>
     have HSG := ι hsg;obtain ⟨gg, go, sb', so, sc, rfl, hcg, hcs⟩ := G0.out.at HGG.out hD1 hsg;have CG := ι hcg;have CS := ι hcs;have hc1 : (gs.map Ma.ofN).length = gs.length := HMS.out;have G1 := ι (show wd.cell? ⟨gb, 1, none⟩ = some (.slice (some ⟨gg, go, none⟩) gs.length gc) by rw [← hc1]; exact G0.out.c1);clear hcg hcs hc1;go_upto_region 8 with (fail);refine wp_region_list ?_;refine Rg.lr 33 (exec_bin (R := .bool true) .lss _ _ _ rfl rfl rfl (b_lss _ (decide_eq_true (by omega)))) ?_;go_frame;go_upto_region 9 with (fail);refine wp_region_list ?_;refine Rg.lr 34 (exec_indexS slPerms _ _ rfl gg (go) (gs.length) gc (s) rfl rfl hsg) ?_;go_frame;refine Rg.lr 35 (Rg.exec_load (v := .slice (some ⟨sb', so, none⟩) D sc) _ _ rfl ⟨gg, go + s, none⟩ rfl (Rg.run_loadSl _ _ Try.underlying39 CG.out.cell)) ?_;go_frame;refine Rg.lr 9 (Rg.xa (.slice (some ⟨sb', so, none⟩) D sc) _ rfl rfl) ?_;go_frame;go_upto_region 10 with (fail)
     refine wp_region_list ?_;refine Rg.lr 36 (exec_fieldG0 _ rfl rfl) ?_;go_frame;refine Rg.lr 37 (Rg.exec_load (v := .int .i64 ((dm : Nat) : Int)) _ _ rfl ⟨hb3, 0, none⟩ rfl (run_loadInt AM.out.g0.cell)) ?_;go_frame;refine Rg.lr 38 (exec_makeSlice _ _ _ rfl _ _ rfl rfl (mkPerm dm (by omega) wd)) ?_;go_frame;refine Rg.lr 10 (Rg.xa (.slice (some ⟨wd.heap.size, 0, none⟩) dm dm) _ rfl rfl) ?_;go_frame;have hrw := made_row wd dm;have hbw : Below wd.heap.size wd (wd.alloc (.cells (madeCells #[.int .i64 0] dm) 3)) := (Below.refl _ _).alloc (Nat.le_refl _) _;obtain ⟨xb, hxb⟩ : ∃ b, wd.heap.size = b := ⟨_, rfl⟩;have HXB := ι (show wd.heap.size ≤ xb from Nat.le_of_eq hxb);rw [hxb] at hrw ⊢;generalize wd.alloc (.cells (madeCells #[.int .i64 0] dm) 3) = we at *;have RW := ι (show RwAt we xb dm (Bk.fil M (gs[s]'hsg) (fun _ => 0) 0) by rw [Bk.fil_zero]; exact hrw);have HCAP := ι (show dm ≤ dm ∧ dm ≤ maxLen from ⟨Nat.le_refl _, by unfold maxLen; omega⟩)
     have KE := ι hbw;clear hrw hbw hxb;go_upto_region 11 with (fail);refine wp_region_list ?_;refine Rg.lr 39 (Rg.xm (.slice (some ⟨lb, lo, none⟩) D lc) _ rfl rfl) ?_;go_frame;refine Rg.lr 40 (exec_len _ _ _ rfl Try.underlying22 _ _ _ rfl) ?_;go_frame;refine Rg.lr 41 (Rg.xm (.int .i64 ((0 : Nat) : Int)) _ rfl rfl) ?_;go_frame;go_wp2
     go_loopw [41] (fun iv wr => ∃ i : Nat, iv = .int .i64 ((i : Nat) : Int) ∧ i ≤ D ∧ Hid (RwAt wr xb dm (Bk.fil M (gs[s]'HSG.out) (fun _ => 0) i)) ∧ Hid (Below wd.heap.size wd wr)) (fun iv _ => D - (intOf iv).toNat)
     case atStart => exact ⟨0, rfl, Nat.zero_le _, RW, KE⟩
     case round =>
      clear RW KE;obtain ⟨i, rfl, hi, RW, KE⟩ := hrel;generalize wr = wf at *
      by_cases hiD : i < D
      case pos =>
       have HID := ι hiD;obtain ⟨n, hn⟩ : ∃ x, Hid (M.getD i 0 = x) := ⟨_, ι rfl⟩;obtain ⟨j, hj⟩ : ∃ x, Hid (img gs s i = x) := ⟨_, ι rfl⟩;obtain ⟨v, hv⟩ : ∃ x, Hid (M.getD j 0 = x) := ⟨_, ι rfl⟩
       have hjD : j < D := by rw [← hj.out]; exact img_lt HGG.out s i HSG.out hiD
       have hnd : n < dm := by rw [← hn.out]; exact HLT.out i hiD
       have hvd : v < dm := by rw [← hv.out]; exact HLT.out j hjD
       have HV9 := ι (show v = (Bk.acB M (gs[s]'HSG.out)).getD n 0 by rw [← hv.out, ← hj.out, ← hn.out]; exact put_val HR.out.1 HR.out.2 HINV.out HSG.out hiD);have C1 := ι (show CL wf lb (lo + i) (.int .i64 ((n : Nat) : Int)) by rw [← hn.out]; exact ((LX.out i hiD).up AM.out.bel).up KE.out);have C2 := ι (show CL wf sb' (so + i) (.int .i64 ((j : Nat) : Int)) by rw [← hj.out]; exact (CS.out i hiD).up KE.out);have C3 := ι (show CL wf lb (lo + j) (.int .i64 ((v : Nat) : Int)) by rw [← hv.out]; exact ((LX.out j hjD).up AM.out.bel).up KE.out);have CG2 := ι (CG.out.up KE.out);have CG1 := ι (show CL wf gb 1 (.slice (some ⟨gg, go, none⟩) gs.length gc) from CL.up (CL.mk G1.out G0.out.lt) KE.out);obtain ⟨F9, hFd⟩ : ∃ F : Nat → Prop, F = F := ⟨fun _ => False, rfl⟩;clear hFd;have D1 := ι (show wf.cell? ⟨xb, 0 + n, none⟩ = some (.int .i64 (Bk.fil M (gs[s]'HSG.out) (fun _ => 0) i n)) by rw [Nat.zero_add]; exact RW.out.2.1 n hnd)
       have D2 := ι (show wf.frozen? ⟨xb, 0 + n, none⟩ = false by rw [Nat.zero_add]; exact RW.out.2.2 n);go_upto_region 12 with (fail);refine wp_region_list ?_;refine Rg.lr 42 (exec_bin (R := .bool true) .lss _ _ _ rfl rfl rfl (b_lss _ (decide_eq_true (by omega)))) ?_;go_frame;go_upto_region 13 with (fail);refine wp_region_list ?_;refine Rg.lr 43 (Rg.xm (.int .i64 ((i : Nat) : Int)) _ rfl rfl) ?_;go_frame;refine Rg.lr 44 (exec_indexS slInts _ _ rfl lb (lo) (D) lc (i) rfl rfl hiD) ?_;go_frame;refine Rg.lr 45 (Rg.exec_load (v := .int .i64 ((n : Nat) : Int)) _ _ rfl ⟨lb, lo + i, none⟩ rfl (run_loadInt C1.out.cell)) ?_;go_frame;refine Rg.lr 11 (Rg.xa (.int .i64 ((i : Nat) : Int)) _ rfl rfl) ?_;go_frame;refine Rg.lr 12 (Rg.xa (.int .i64 ((n : Nat) : Int)) _ rfl rfl) ?_;go_frame;go_upto_region 14 with (fail);refine wp_region_list ?_;refine Rg.lr 46 (Rg.xm (.slice (some ⟨xb, 0, none⟩) dm dm) _ rfl rfl) ?_;go_frame
       refine Rg.lr 47 (Rg.xm (.int .i64 ((n : Nat) : Int)) _ rfl rfl) ?_;go_frame;refine Rg.lr 48 (Rg.xm (.slice (some ⟨lb, lo, none⟩) D lc) _ rfl rfl) ?_;go_frame;refine Rg.lr 49 (Rg.xm (.slice (some ⟨sb', so, none⟩) D sc) _ rfl rfl) ?_;go_frame;refine Rg.lr 50 (Rg.xm (.int .i64 ((i : Nat) : Int)) _ rfl rfl) ?_;go_frame;refine Rg.lr 51 (exec_indexS slPerm _ _ rfl sb' (so) (D) sc (i) rfl rfl hiD) ?_;go_frame;refine Rg.lr 52 (Rg.exec_load (v := .int .i64 ((j : Nat) : Int)) _ _ rfl ⟨sb', so + i, none⟩ rfl (run_loadInt C2.out.cell)) ?_;go_frame;refine Rg.lr 53 (exec_indexS slInts _ _ rfl lb (lo) (D) lc (j) rfl rfl hjD) ?_;go_frame;refine Rg.lr 54 (Rg.exec_load (v := .int .i64 ((v : Nat) : Int)) _ _ rfl ⟨lb, lo + j, none⟩ rfl (run_loadInt C3.out.cell)) ?_;go_frame;refine Rg.lr 55 (exec_indexS slPerm _ _ rfl xb (0) (dm) dm (n) rfl rfl hnd) ?_;go_frame;refine Rg.list_skip none rfl rfl (Rg.exec_store _ _ _ rfl _ rfl _ rfl (run_storeIntB _ D1.out D2.out)) ?_;go_frame
       have hrs := RW.out.set n ((v : Nat) : Int) hnd;rw [fil_put (by rw [HR.out.1]; exact HID.out) hn.out HV9.out] at hrs;have hks : Below wd.heap.size wd (wf.setCell ⟨xb, 0 + n, none⟩ (.int .i64 ((v : Nat) : Int))) := KE.out.setCell (p := ⟨xb, 0 + n, none⟩) HXB.out _;rw [Nat.zero_add] at hks ⊢;generalize wf.setCell ⟨xb, n, none⟩ (.int .i64 ((v : Nat) : Int)) = w98 at *;have RW9 := ι hrs;have KE9 := ι hks;clear hrs hks C1 C2 C3 CG1 CG2;go_upto_region 15 with (fail);refine wp_region_list ?_;refine Rg.lr 56 (exec_bin (R := .int .i64 (((i + 1) : Nat) : Int)) .add _ _ _ rfl rfl rfl (b_add _ (by omega) (by omega))) ?_;go_frame;refine Rg.lr 41 (Rg.xm (.int .i64 (((i + 1) : Nat) : Int)) _ rfl rfl) ?_;go_frame;go_wp2
       go_roundw
       case rel => exact ⟨i + 1, by go_num, HID.out, RW9, KE9⟩
       case measure => simp [intOf]; have := HID.out; omega
      case neg =>
       have hiD2 : i = D := by omega
       have NPX := ι (show Rg.NP wf (.slice (some ⟨xb, 0, none⟩) dm dm) (Bk.acB M (gs[s]'HSG.out)) by
        have h := RW.out;rw [hiD2, ← HR.out.1, ← hdm.out] at h;have h2 := row_done h HR.out.2 (by rw [hdm.out]; exact HCAP.out.1) HCAP.out.2 (by rw [hdm.out]; omega)
        rwa [hdm.out] at h2)
       have AM2 := ι (AM.out.up KE.out);have HFP := ι (np_fp (F := F) NPX.out HXB.out RW.out.1);obtain ⟨a9, c9, X9, r1x, r2, r3, r4⟩ := AM2.out.push HFP.out ⟨_, _, _, rfl⟩ (by rw [List.length_map, List.length_take]; omega) 24;rw [List.length_map, List.length_take, Nat.min_eq_left hs] at r1x r4
       have AM3 := ι (show AcM w4 (X9.setCell ⟨hb3, 1, none⟩ (.slice a9 (s + 1) c9)) hb3 dm _ (.slice a9 (s + 1) c9) ((gs.take (s + 1)).map (Bk.acB M)) by
        rw [List.take_succ_eq_append_getElem HSG.out, List.map_append]; exact r4)
       have HR2 := ι r2;have HR3 := ι r3;have AL0 := ι AM2.out.g0;have AL1 := ι AM2.out.g1;clear r2 r3 r4;go_upto_region 12 with (fail);refine wp_region_list ?_;refine Rg.lr 42 (exec_bin (R := .bool false) .lss _ _ _ rfl rfl rfl (b_lss _ (decide_eq_false (by omega)))) ?_;go_frame;go_upto_region 16 with (fail);refine wp_region_list ?_;refine Rg.lr 57 (exec_fieldG _ rfl rfl) ?_;go_frame;refine Rg.lr 58 (Rg.exec_load (v := .slice va s vc) _ _ rfl ⟨hb3, 1, none⟩ rfl (Rg.run_loadSl _ _ Try.underlying24 AL1.out)) ?_;go_frame;refine Rg.lr 59 (Rg.xm (.slice (some ⟨xb, 0, none⟩) dm dm) _ rfl rfl) ?_;go_frame;refine Rg.lr 60 (Rg.exec_buildSlice _ _ _ rfl (.slice (some ⟨xb, 0, none⟩) dm dm) rfl (run_build1P wf _ ⟨_, _, _, rfl⟩)) ?_;go_frame;refine Rg.lr 61 (Rg.exec_append _ _ _ rfl rfl rfl r1x) ?_;go_frame;refine Rg.lr 62 (exec_fieldG _ rfl rfl) ?_;go_frame;refine Rg.list_skip none rfl rfl (Rg.exec_store _ _ _ rfl _ rfl _ rfl (Rg.run_storeSl _ infoPermsV HR2.out HR3.out)) ?_;go_frame
       generalize X9.setCell ⟨hb3, 1, none⟩ (.slice a9 (s + 1) c9) = w399 at *;clear r1x HR2 HR3;go_upto_region 17 with (fail);refine wp_region_list ?_;refine Rg.lr 63 (exec_bin (R := .int .i64 (((s + 1) : Nat) : Int)) .add _ _ _ rfl rfl rfl (b_add _ (by omega) (by omega))) ?_;go_frame;refine Rg.lr 32 (Rg.xm (.int .i64 (((s + 1) : Nat) : Int)) _ rfl rfl) ?_;go_frame;go_wp2
       go_roundw
       case rel => exact ⟨s + 1, _, _, by go_num, HSG.out, AM3⟩
       case measure => simp [intOf]; have := HSG.out; omega
theorem refAction12_any (gv : Value) (d : Int) (ll : List (List Int)) (lv : Value) (l : List Int) (w : World) (h : Rg.Rows w gv ll) (hl : Rg.Ints w lv l) (hll : l.length ≤ 100) :
  Calls Try.prog 59 #[.agg #[.int .i64 d, gv], lv] w (AcPost d ll l w) := by
 obtain ⟨la, lc, rfl, -⟩ := hl.shape;have HL := ι (NpI.mk hl);clear hl;obtain ⟨ga, gc, rfl, hga, hba⟩ := GI.enter (d) h;have K := ι hba;have G0 := ι hga;clear h hga hba;replace HL := ι (HL.out.below K.out);obtain ⟨gb, hgb⟩ : ∃ gb, w.heap.size = gb := ⟨_, rfl⟩
 go_enter Try.func59, Try.ntmps59
 go_upto_region 0 with (fail);refine wp_region_list ?_;refine Rg.lr 2 (Rg.exec_box _ _ rfl rfl) ?_;go_frame;rw [hgb] at G0 ⊢;have HGB := ι (show w.heap.size ≤ gb from Nat.le_of_eq hgb);clear hgb;generalize w.alloc (.cells #[.int .i64 d, .slice ga ll.length gc] 26) = w0 at *;refine Rg.lr 4 (exec_allocG rfl) ?_;go_frame;have hzg := ZG.new w0;have hb := (Below.refl w0.heap.size w0).alloc (Nat.le_refl _) (.cells #[.int .i64 0, .slice none 0 0] 26);replace G0 := ι (G0.out.below hb);replace HL := ι (HL.out.below hb);have HRB := ι (show w.heap.size ≤ w0.heap.size from K.out.size);replace K := ι (Rg.acc K.out hb);obtain ⟨rb, hrb⟩ : ∃ rb, w0.heap.size = rb := ⟨_, rfl⟩;rw [hrb] at hzg HRB ⊢;generalize w0.alloc (.cells #[.int .i64 0, .slice none 0 0] 26) = w1 at *;have ZF := ι hzg;clear hzg hb hrb;refine Rg.lr 5 (Rg.xa (.int .i64 0) _ rfl rfl) ?_;go_frame;obtain ⟨ck, hck⟩ : ∃ c, Hid (paC d ll l = c) := ⟨_, ι rfl⟩
 obtain ⟨sb, hsb⟩ : ∃ b, Hid (isBl d ll l = b) := ⟨_, ι rfl⟩;go_upto_region 1 with (fail);refine wp_region_list ?_;refine Rg.lr 14 (Rg.exec_load (v := .agg #[.int .i64 d, .slice ga ll.length gc]) _ _ rfl ⟨gb, 0, none⟩ rfl (run_loadG G0.out.c0 G0.out.c1)) ?_;go_frame;refine Rg.lr 15 (Rg.xm (.slice la l.length lc) _ rfl rfl) ?_;go_frame;refine list_ask (some 16) rfl rfl _ _ (exec_fn 57 _ _ _ rfl rfl rfl (Hscl3 _ _)) ?_;refine (refIs12_any _ d ll _ l w1 G0.out.rows HL.out.i hll).mono ?_;rintro e1 w2 ⟨ib, rfl, hib, hb⟩;rw [hck.out];have HIB := ι hib;clear hib;refine ⟨_, rfl, ?_⟩;go_frame;replace G0 := ι (G0.out.below hb);replace HL := ι (HL.out.below hb);replace ZF := ι (ZF.out.below hb);replace K := ι (Rg.acc K.out hb);clear hb;refine Rg.lr 13 (Rg.xm (.tuple #[.bool ib, .int .i64 ck]) _ rfl rfl) ?_;go_frame;refine Rg.lr 17 (exec_extract (v := .bool ib) _ _ rfl rfl rfl) ?_;go_frame;refine Rg.lr 18 (exec_extract (v := .int .i64 ck) _ _ rfl rfl rfl) ?_;go_frame
 refine Rg.lr 6 (Rg.xa (.bool ib) _ rfl rfl) ?_;go_frame;refine Rg.lr 7 (Rg.xa (.int .i64 ck) _ rfl rfl) ?_;go_frame
 by_cases h0 : ck = 0
 case neg =>
  skip
  go_upto_region 2 with (fail);refine wp_region_list ?_;refine Rg.lr 19 (Rg.xm (.int .i64 ck) _ rfl rfl) ?_;go_frame;refine Rg.lr 20 (exec_bin (R := .bool true) .neq _ _ _ rfl rfl rfl (b_neqB _ (decide_eq_true h0))) ?_;go_frame;go_upto_region 3 with (fail);refine wp_region_list ?_;refine Rg.lr 21 (exec_buildGz rfl) ?_;go_frame;refine Rg.lr 22 (Rg.xm (.int .i64 ck) _ rfl rfl) ?_;go_frame;obtain ⟨X1, q1, q2, q3, q4, q5⟩ := zg_store ZF.out K.out HRB.out 0 none 0 0;refine Rg.list_skip none rfl rfl (Rg.exec_store _ _ _ rfl _ rfl _ rfl q1) ?_;go_frame;have HQ := ι (And.intro q2 (And.intro q3 q4));clear q1 q2 q3 q4 q5;refine Rg.lr 5 (Rg.xa (.int .i64 ck) _ rfl rfl) ?_;go_frame;go_wp2;exact bodyPost_ret (results_cellG2 rfl _ rfl rfl HQ.out.1 HQ.out.2.1) rfl ⟨_, by rw [acC_g hck.out h0]; rfl, .inl ⟨by rw [acC_g hck.out h0]; exact h0, rfl⟩, HQ.out.2.2⟩
 case pos =>
  have HZ := ι (hck.out.trans h0);go_upto_region 2 with (fail);refine wp_region_list ?_;refine Rg.lr 19 (Rg.xm (.int .i64 ck) _ rfl rfl) ?_;go_frame;refine Rg.lr 20 (exec_bin (R := .bool false) .neq _ _ _ rfl rfl rfl (b_neqB _ (decide_eq_false (fun e => e h0)))) ?_;go_frame;clear h0;obtain ⟨hz, D, gs, M, rfl, rfl, rfl, hgg, hD1, hD2, hgl, hML, hMr⟩ := paC_ok HZ.out;have HGG := ι hgg;have HR := ι (And.intro hML hMr);have HSY := ι (show syB D gs M = sb by rw [← isBl_eq]; exact hsb.out);clear hz hgg hML hMr;rw [HZ.out, decide_eq_true rfl, Bool.true_and, hsb.out] at HIB;obtain rfl := HIB.out;clear HIB
  cases ib with
  | false =>
   skip
   go_upto_region 4 with (fail);refine wp_region_list ?_;refine Rg.lr 23 (Rg.xm (.bool false) _ rfl rfl) ?_;go_frame;refine Rg.lr 24 (exec_not _ _ false rfl rfl) ?_;go_frame;go_upto_region 5 with (fail);refine wp_region_list ?_;refine Rg.lr 25 (exec_buildGz rfl) ?_;go_frame;obtain ⟨X1, q1, q2, q3, q4, q5⟩ := zg_store ZF.out K.out HRB.out 0 none 0 0;refine Rg.list_skip none rfl rfl (Rg.exec_store _ _ _ rfl _ rfl _ rfl q1) ?_;go_frame;have HQ := ι (And.intro q2 (And.intro q3 q4));clear q1 q2 q3 q4 q5;refine Rg.lr 5 (Rg.xa (.int .i64 ((13 : Nat) : Int)) _ rfl rfl) ?_;go_frame;go_wp2;exact bodyPost_ret (results_cellG2 rfl _ rfl rfl HQ.out.1 HQ.out.2.1) rfl ⟨_, by rw [acC_f HZ.out hsb.out]; rfl, .inl ⟨by rw [acC_f HZ.out hsb.out]; decide, rfl⟩, HQ.out.2.2⟩
  | true =>
   go_upto_region 4 with (fail);refine wp_region_list ?_;refine Rg.lr 23 (Rg.xm (.bool true) _ rfl rfl) ?_;go_frame;refine Rg.lr 24 (exec_not _ _ true rfl rfl) ?_;go_frame;have HAC := ι (acC_z HZ.out hsb.out);have HINV := ι ((syB_iff HR.out.1).1 HSY.out);obtain ⟨dm, hdm⟩ : ∃ n, Hid (Bk.mny M 0 = n) := ⟨_, ι rfl⟩
   have hdm1 : 1 ≤ dm ∧ dm ≤ 64 := by
    have h1 := (Bk.mem_mny HR.out.2 (M.getD 0 0)).1 (by rw [Bk.getD_lt (by rw [HR.out.1]; omega)]; exact List.getElem_mem _);have h2 := Bk.mny_le M 0;rw [HR.out.1] at h2;rw [hdm.out] at h1 h2;omega
   have hlt : ∀ i, i < D → M.getD i 0 < dm := fun i hi => by
    rw [← hdm.out];exact (Bk.mem_mny HR.out.2 _).1 (by rw [Bk.getD_lt (by rw [HR.out.1]; omega)]; exact List.getElem_mem _)
   have HLT := ι hlt;clear hlt;obtain ⟨lb, lo, lc', hlv, hlx⟩ := HL.out.at HR.out.1 hD1
   have hll2 : (Ma.ofN M).length = D := by rw [Ma.len_ofN]; exact HR.out.1
   rw [hll2] at HL hlv ⊢
   injection hlv with e1 _ e3
   subst e1 e3;have HLX := ι hlx;clear hlx;have HWB := ι K.out;have GB := ι G0.out;have LB := ι HL.out;have ZB := ι ZF.out
   have LX := ι (fun i (hi : i < D) => (HLX.out i hi).up (show Below w2.heap.size w2 w2 from by first | exact HW0.out | exact Below.refl _ _))
   clear G0 HL ZF HLX K;go_upto_region 6 with (fail);refine wp_region_list ?_;refine Rg.lr 26 (exec_buildGz rfl) ?_;go_frame;obtain ⟨X2, s1, zd, hb2⟩ := zd_new w2 0;refine Rg.lr 8 (exec_allocG rfl) ?_;go_frame;refine Rg.list_skip none rfl rfl (Rg.exec_store _ _ _ rfl _ rfl _ rfl s1) ?_;go_frame;clear s1;obtain ⟨hb3, hhb⟩ : ∃ b, w2.heap.size = b := ⟨_, rfl⟩;have HHB := ι (show w2.heap.size ≤ hb3 from Nat.le_of_eq hhb);rw [hhb] at zd ⊢;have ZD0 := ι (show ZD X2 hb3 (Bk.mny (M.take 0) 0) from zd);have BW := ι (BeW.mk hb2);clear hhb zd hb2;go_upto_region 7 with (fail);refine wp_region_list ?_;refine Rg.lr 9 (Rg.xa (.int .i64 ((0 : Nat) : Int)) _ rfl rfl) ?_;go_frame;go_wp2
   go_loopw [9] (fun iv wr => ∃ i : Nat, iv = .int .i64 ((i : Nat) : Int) ∧ i ≤ D ∧ Hid (ZD wr hb3 (Bk.mny (M.take i) 0)) ∧ Hid (BeW w2 wr)) (fun iv _ => D - (intOf iv).toNat)
   case atStart => exact ⟨0, rfl, Nat.zero_le _, ZD0, BW⟩
   case round =>
    clear ZD0 BW;obtain ⟨i, rfl, hi, ZD0, BW⟩ := hrel;generalize wr = wd at *
    by_cases hiD : i < D
    case pos =>
     have HID := ι hiD;obtain ⟨x, hx⟩ : ∃ x, Hid (M.getD i 0 = x) := ⟨_, ι rfl⟩;obtain ⟨y, hy⟩ : ∃ y, Hid (Bk.mny (M.take i) 0 = y) := ⟨_, ι rfl⟩;obtain ⟨z, hz⟩ : ∃ y, Hid (Bk.mny (M.take (i + 1)) 0 = y) := ⟨_, ι rfl⟩
     have hxl : x < 64 := by rw [← hx.out]; have := HLT.out i hiD; omega
     have HZ9 := ι (show (if ((y : Nat) : Int) < (((x + 1) : Nat) : Int) then (((x + 1) : Nat) : Int) else ((y : Nat) : Int)) = ((z : Nat) : Int) by
      have h := Bk.mny_step HR.out.2 (i := i) (by rw [HR.out.1]; exact hiD);rw [← getN_at, hx.out, hy.out, hz.out] at h;rw [← h]
      by_cases e : y < x + 1
      ·rw [if_pos e, if_pos (by omega)]
      ·rw [if_neg e, if_neg (by omega)])
     rw [hy.out] at ZD0;have CX := ι (show CL wd lb (lo + i) (.int .i64 ((x : Nat) : Int)) by rw [← hx.out]; exact (LX.out i hiD).up BW.out.b);obtain ⟨F, hFd⟩ : ∃ F : Nat → Prop, F = F := ⟨fun _ => False, rfl⟩;clear hFd;go_upto_region 8 with (fail);refine wp_region_list ?_;refine Rg.lr 27 (Rg.xm (.int .i64 ((i : Nat) : Int)) _ rfl rfl) ?_;go_frame;refine Rg.lr 28 (Rg.xm (.slice (some ⟨lb, lo, none⟩) D lc) _ rfl rfl) ?_;go_frame;refine Rg.lr 29 (exec_len _ _ _ rfl Try.underlying22 _ _ _ rfl) ?_;go_frame;refine Rg.lr 30 (exec_bin (R := .bool true) .lss _ _ _ rfl rfl rfl (b_lss _ (decide_eq_true (by omega)))) ?_;go_frame;go_upto_region 10 with (fail);have hV0 : Below wd.heap.size wd wd.drew := (Below.refl _ _).drew;replace ZD0 := ι (ZD0.out.up hV0);replace CX := ι (CX.out.up hV0);replace BW := ι (BW.out.up hV0);generalize Fup F wd wd.drew = F1 at *;clear hV0;refine Rg.Any.begin (S := Rg.Both 9 (fun W => Below wd.drew.heap.size wd.drew W) (fun _ => True)) mix ?_
     generalize wd.drew = w31 at *;have hS : ∀ (l : Array Bool) W, Below w31.heap.size w31 W → Rg.Both 9 (fun W => Below w31.heap.size w31 W) (fun _ => True) l W := fun l W h => ⟨.inr h, trivial⟩;have hS2 : ∀ (l : Array Bool) W, l.getD 9 false = true → Rg.Both 9 (fun W => Below w31.heap.size w31 W) (fun _ => True) l W := fun l W h => ⟨.inl h, trivial⟩;have hI : Below w31.heap.size w31 w31 := Below.refl _ _;refine Rg.tg 0 9 (.pointer (some ⟨hb3, 0, none⟩)) 33 rfl rfl (.inl ⟨rfl, fun w _ => exec_fieldG0 _ rfl rfl⟩) (hS _ _ hI) ?_;go_frame;refine Rg.Any.takeT (i := 1) (t := 9) (v := .int .i64 ((y : Nat) : Int)) (some 34) rfl rfl (by kernel_rfl) (by kernel_rfl) (by kernel_rfl) (fun _ _ _ h => h) rfl (by kernel_rfl) rfl (Rg.yields_cell _ _ rfl rfl ⟨hb3, 0, none⟩ rfl (fun W hW => run_loadInt ((Below.cell (p := ⟨hb3, 0, none⟩) hW ZD0.out.lt).trans ZD0.out.c0))) (hS _ _ hI) ?_;go_frame;refine Rg.tg 2 9 (.slice (some ⟨lb, lo, none⟩) D lc) 35 rfl rfl (.inl ⟨rfl, fun w _ => Rg.exec_move (v := .slice (some ⟨lb, lo, none⟩) D lc) _ rfl rfl⟩) (hS _ _ hI) ?_;go_frame
     refine Rg.tg 3 9 (.int .i64 ((i : Nat) : Int)) 36 rfl rfl (.inl ⟨rfl, fun w _ => Rg.exec_move (v := .int .i64 ((i : Nat) : Int)) _ rfl rfl⟩) (hS _ _ hI) ?_;go_frame;refine Rg.tg 4 9 (.pointer (some ⟨lb, lo + i, none⟩)) 37 rfl rfl (Rg.yields_index slInts _ _ rfl rfl lb (lo) (D) lc (i) rfl rfl hiD) (hS _ _ hI) ?_;go_frame;refine Rg.Any.takeT (i := 5) (t := 9) (v := .int .i64 ((x : Nat) : Int)) (some 38) rfl rfl (by kernel_rfl) (by kernel_rfl) (by kernel_rfl) (fun _ _ _ h => h) rfl (by kernel_rfl) rfl (Rg.yields_cell _ _ rfl rfl ⟨lb, lo + i, none⟩ rfl (fun W hW => run_loadInt ((Below.cell (p := ⟨lb, lo + i, none⟩) hW CX.out.lt).trans CX.out.cell))) (hS _ _ hI) ?_;go_frame;refine Rg.tg 6 9 (.int .i64 (((x + 1) : Nat) : Int)) 39 rfl rfl (.inl ⟨rfl, fun w _ => exec_bin (R := .int .i64 (((x + 1) : Nat) : Int)) .add _ _ _ rfl rfl rfl (b_add _ (by omega) (by omega))⟩) (hS _ _ hI) ?_;go_frame
     refine Rg.tg 7 9 (.int .i64 ((z : Nat) : Int)) 40 rfl rfl (.inl ⟨rfl, fun w _ => exec_maxE (r := ((z : Nat) : Int)) _ _ _ rfl rfl rfl HZ9.out⟩) (hS _ _ hI) ?_;go_frame;refine Rg.tg 8 9 (.pointer (some ⟨hb3, 0, none⟩)) 41 rfl rfl (.inl ⟨rfl, fun w _ => exec_fieldG0 _ rfl rfl⟩) (hS _ _ hI) ?_;go_frame;refine Rg.Any.one (i := 9) (by kernel_rfl) (Rg.Any.runSkip none rfl rfl rfl (Rg.exec_store _ _ _ rfl _ rfl _ rfl (run_storeIntB _ ZD0.out.c0 (ZD0.out.fr 0))) (hS2 _ _ rfl) ?_);go_frame;refine Rg.Any.done (by kernel_rfl) ?_ _;clear hS2;clear hS hI;have hzs := ZD0.out.set z;have hbs : Below w2.heap.size w2 (w31.setCell ⟨hb3, 0, none⟩ (.int .i64 ((z : Nat) : Int))) := BW.out.b.setCell (p := ⟨hb3, 0, none⟩) HHB.out _;generalize w31.setCell ⟨hb3, 0, none⟩ (.int .i64 ((z : Nat) : Int)) = w88 at *;have ZD9 := ι (show ZD w88 hb3 (Bk.mny (M.take (i + 1)) 0) by rw [hz.out]; exact hzs);have BW9 := ι (BeW.mk hbs)
     clear hzs hbs CX ZD0 BW;go_upto_region 9 with (fail);refine wp_region_list ?_;refine Rg.lr 31 (Rg.xm (.int .i64 ((i : Nat) : Int)) _ rfl rfl) ?_;go_frame;refine Rg.lr 32 (exec_bin (R := .int .i64 (((i + 1) : Nat) : Int)) .add _ _ _ rfl rfl rfl (b_add _ (by omega) (by omega))) ?_;go_frame;refine Rg.lr 9 (Rg.xa (.int .i64 (((i + 1) : Nat) : Int)) _ rfl rfl) ?_;go_frame;go_wp2
     go_roundw
     case rel => exact ⟨i + 1, by go_num, HID.out, ZD9, BW9⟩
     case measure => simp [intOf]; have := HID.out; omega
    case neg =>
     have hiD2 : i = D := by omega
     rw [hiD2, ← HR.out.1, List.take_length, hdm.out] at ZD0;go_upto_region 8 with (fail);refine wp_region_list ?_;refine Rg.lr 27 (Rg.xm (.int .i64 ((i : Nat) : Int)) _ rfl rfl) ?_;go_frame;refine Rg.lr 28 (Rg.xm (.slice (some ⟨lb, lo, none⟩) D lc) _ rfl rfl) ?_;go_frame;refine Rg.lr 29 (exec_len _ _ _ rfl Try.underlying22 _ _ _ rfl) ?_;go_frame;refine Rg.lr 30 (exec_bin (R := .bool false) .lss _ _ _ rfl rfl rfl (b_lss _ (decide_eq_false (by omega)))) ?_;go_frame;have AM := ι (show AcM w2 wd hb3 dm (fun _ => False) (.slice none 0 0) ([].map (Bk.acB M)) from ZD0.out.start BW.out.b HHB.out);have hlm : (gs.map Ma.ofN).length = gs.length := List.length_map ..;clear ZD0 BW hiD hi;go_upto_region 11 with (fail);refine wp_region_list ?_;refine Rg.lr 10 (Rg.xa (.int .i64 ((0 : Nat) : Int)) _ rfl rfl) ?_;go_frame;have HMS := ι hlm;clear hlm;obtain ⟨F0, hF0⟩ : ∃ F : Nat → Prop, (fun _ => False) = F := ⟨_, rfl⟩
     rw [hF0] at AM;clear hF0;go_wp2
     go_loopw [10] (fun sv wr => ∃ (s : Nat) (F : Nat → Prop) (gv : Value), sv = .int .i64 ((s : Nat) : Int) ∧ s ≤ gs.length ∧ Hid (AcM w2 wr hb3 dm F gv ((gs.take s).map (Bk.acB M)))) (fun sv _ => gs.length - (intOf sv).toNat)
     case atStart => exact ⟨0, _, _, rfl, Nat.zero_le _, AM⟩
     case round =>
      clear AM;obtain ⟨s, F, gv, rfl, hs, AM⟩ := hrel;obtain ⟨va, vc, hvs⟩ := AM.out.rw.shape;rw [List.length_map, List.length_take, Nat.min_eq_left hs] at hvs;subst hvs;generalize wr = wd at *;have G0 := ι (GB.out.below AM.out.bel);have ZF := ι (ZB.out.below AM.out.bel)
      by_cases hsg : s < gs.length
      case neg =>
       have hsg2 : s = gs.length := by omega
       have hc1 : (gs.map Ma.ofN).length = gs.length := HMS.out;have G1 := ι (show wd.cell? ⟨gb, 1, none⟩ = some (.slice ga gs.length gc) by rw [← hc1]; exact G0.out.c1);go_upto_region 12 with (fail);refine wp_region_list ?_;refine Rg.lr 42 (Rg.xm (.int .i64 ((s : Nat) : Int)) _ rfl rfl) ?_;go_frame;refine Rg.lr 43 (exec_fieldG _ rfl rfl) ?_;go_frame;refine Rg.lr 44 (Rg.exec_load (v := .slice ga gs.length gc) _ _ rfl ⟨gb, 1, none⟩ rfl (Rg.run_loadSl _ _ Try.underlying24 G1.out)) ?_;go_frame;refine Rg.lr 45 (exec_len _ _ _ rfl Try.underlying24 _ _ _ rfl) ?_;go_frame;refine Rg.lr 46 (exec_bin (R := .bool false) .lss _ _ _ rfl rfl rfl (b_lss _ (decide_eq_false (by omega)))) ?_;go_frame
       have HRW := ι (show Rg.Rows wd (.slice va s vc) ((gs.map (Bk.acB M)).map Ma.ofN) by
        have h := AM.out.rw.rows (by rw [List.length_map, List.length_take]; omega);rw [hsg2, List.take_length] at h;rw [hsg2]
        exact h)
       obtain ⟨X1, q1, q2, q3, q4, q5⟩ := zg_store ZF.out (Rg.acc HWB.out AM.out.bel) HRB.out ((dm : Nat) : Int) va s vc;have hrk := AM.out.rw.kp q5 (fun k hk e => by have h1 := AM.out.Flo k hk; have h2 := ZB.out.lt; omega) (fun k hk e => by have h1 := (AM.out.rw.lt k hk).1; have h2 := ZB.out.lt; omega)
       have HRW2 := ι (show Rg.Rows X1 (.slice va gs.length vc) ((gs.map (Bk.acB M)).map Ma.ofN) by
        have h := hrk.rows (by rw [List.length_map, List.length_take]; omega);rw [hsg2, List.take_length] at h
        exact h)
       go_upto_region 20 with (fail);refine wp_region_list ?_;refine Rg.lr 81 (Rg.exec_load (v := .agg #[.int .i64 ((dm : Nat) : Int), .slice va s vc]) _ _ rfl ⟨hb3, 0, none⟩ rfl (run_loadG AM.out.g0.cell AM.out.g1)) ?_;go_frame;refine Rg.list_skip none rfl rfl (Rg.exec_store _ _ _ rfl _ rfl _ rfl q1) ?_;go_frame;have HQ := ι (And.intro q2 (And.intro q3 q4));clear q1 q2 q3 q4 q5 hrk;refine Rg.lr 5 (Rg.xa (.int .i64 ((0 : Nat) : Int)) _ rfl rfl) ?_;go_frame;go_wp2;refine bodyPost_ret (results_cellG2 rfl _ rfl rfl HQ.out.1 HQ.out.2.1) rfl ⟨_, by rw [HAC.out]; rfl, .inr ⟨HAC.out, gs, M, va, vc, rfl, rfl, ?_, HRW2.out⟩, HQ.out.2.2⟩;rw [hdm.out, hsg2]
      case pos =>
       have HSG := ι hsg;obtain ⟨gg, go, sb', so, sc, rfl, hcg, hcs⟩ := G0.out.at HGG.out hD1 hsg;have CG := ι hcg;have CS := ι hcs;have hc1 : (gs.map Ma.ofN).length = gs.length := HMS.out;have G1 := ι (show wd.cell? ⟨gb, 1, none⟩ = some (.slice (some ⟨gg, go, none⟩) gs.length gc) by rw [← hc1]; exact G0.out.c1);clear hcg hcs hc1;go_upto_region 12 with (fail);refine wp_region_list ?_;refine Rg.lr 42 (Rg.xm (.int .i64 ((s : Nat) : Int)) _ rfl rfl) ?_;go_frame;refine Rg.lr 43 (exec_fieldG _ rfl rfl) ?_;go_frame;refine Rg.lr 44 (Rg.exec_load (v := .slice (some ⟨gg, go, none⟩) gs.length gc) _ _ rfl ⟨gb, 1, none⟩ rfl (Rg.run_loadSl _ _ Try.underlying24 G1.out)) ?_;go_frame;refine Rg.lr 45 (exec_len _ _ _ rfl Try.underlying24 _ _ _ rfl) ?_;go_frame;refine Rg.lr 46 (exec_bin (R := .bool true) .lss _ _ _ rfl rfl rfl (b_lss _ (decide_eq_true (by omega)))) ?_;go_frame;go_upto_region 14 with (fail)
       refine wp_region_list ?_;refine Rg.lr 49 (exec_fieldG0 _ rfl rfl) ?_;go_frame;refine Rg.lr 50 (Rg.exec_load (v := .int .i64 ((dm : Nat) : Int)) _ _ rfl ⟨hb3, 0, none⟩ rfl (run_loadInt AM.out.g0.cell)) ?_;go_frame;refine list_ask (some 51) rfl rfl _ _ (exec_fn1 26 _ _ rfl rfl (Hmcl0 _ _)) ?_;refine (kitOne_row dm wd hdm1.1 (by omega)).mono ?_;rintro e1 w131 ⟨xb, cap, rfl, hg1, hg2, hg3, hg4, hb⟩;have HCAP := ι (And.intro hg2 hg3);have HXB := ι hg1;have KE := ι hb;refine ⟨_, rfl, ?_⟩;go_frame;clear hb;refine Rg.lr 11 (Rg.xa (.slice (some ⟨xb, 0, none⟩) dm cap) _ rfl rfl) ?_;go_frame;have RW := ι (show RwAt w131 xb dm (Bk.fil M (gs[s]'hsg) (fun i => (i : Int)) 0) by rw [Bk.fil_zero]; exact hg4);clear hg1 hg2 hg3 hg4;go_upto_region 15 with (fail);refine wp_region_list ?_;refine Rg.lr 12 (Rg.xa (.int .i64 ((0 : Nat) : Int)) _ rfl rfl) ?_;go_frame;go_wp2
       go_loopw [12] (fun iv wr => ∃ i : Nat, iv = .int .i64 ((i : Nat) : Int) ∧ i ≤ D ∧ Hid (RwAt wr xb dm (Bk.fil M (gs[s]'HSG.out) (fun i => (i : Int)) i)) ∧ Hid (Below wd.heap.size wd wr)) (fun iv _ => D - (intOf iv).toNat)
       case atStart => exact ⟨0, rfl, Nat.zero_le _, RW, KE⟩
       case round =>
        clear RW KE;obtain ⟨i, rfl, hi, RW, KE⟩ := hrel;generalize wr = wf at *
        by_cases hiD : i < D
        case pos =>
         have HID := ι hiD;obtain ⟨n, hn⟩ : ∃ x, Hid (M.getD i 0 = x) := ⟨_, ι rfl⟩;obtain ⟨j, hj⟩ : ∃ x, Hid (img gs s i = x) := ⟨_, ι rfl⟩;obtain ⟨v, hv⟩ : ∃ x, Hid (M.getD j 0 = x) := ⟨_, ι rfl⟩
         have hjD : j < D := by rw [← hj.out]; exact img_lt HGG.out s i HSG.out hiD
         have hnd : n < dm := by rw [← hn.out]; exact HLT.out i hiD
         have hvd : v < dm := by rw [← hv.out]; exact HLT.out j hjD
         have HV9 := ι (show v = (Bk.acB M (gs[s]'HSG.out)).getD n 0 by rw [← hv.out, ← hj.out, ← hn.out]; exact put_val HR.out.1 HR.out.2 HINV.out HSG.out hiD);have C1 := ι (show CL wf lb (lo + i) (.int .i64 ((n : Nat) : Int)) by rw [← hn.out]; exact ((LX.out i hiD).up AM.out.bel).up KE.out);have C2 := ι (show CL wf sb' (so + i) (.int .i64 ((j : Nat) : Int)) by rw [← hj.out]; exact (CS.out i hiD).up KE.out);have C3 := ι (show CL wf lb (lo + j) (.int .i64 ((v : Nat) : Int)) by rw [← hv.out]; exact ((LX.out j hjD).up AM.out.bel).up KE.out);have CG2 := ι (CG.out.up KE.out);have CG1 := ι (show CL wf gb 1 (.slice (some ⟨gg, go, none⟩) gs.length gc) from CL.up (CL.mk G1.out G0.out.lt) KE.out);obtain ⟨F9, hFd⟩ : ∃ F : Nat → Prop, F = F := ⟨fun _ => False, rfl⟩;clear hFd;have KB9 := ι (BeW.mk KE.out);go_upto_region 16 with (fail);refine wp_region_list ?_;refine Rg.lr 52 (Rg.xm (.int .i64 ((i : Nat) : Int)) _ rfl rfl) ?_;go_frame
         refine Rg.lr 53 (Rg.xm (.slice (some ⟨lb, lo, none⟩) D lc) _ rfl rfl) ?_;go_frame;refine Rg.lr 54 (exec_len _ _ _ rfl Try.underlying22 _ _ _ rfl) ?_;go_frame;refine Rg.lr 55 (exec_bin (R := .bool true) .lss _ _ _ rfl rfl rfl (b_lss _ (decide_eq_true (by omega)))) ?_;go_frame;go_upto_region 18 with (fail);have hV0 : Below wf.heap.size wf wf.drew := (Below.refl _ _).drew;replace C1 := ι (C1.out.up hV0);replace C2 := ι (C2.out.up hV0);replace C3 := ι (C3.out.up hV0);replace CG2 := ι (CG2.out.up hV0);replace CG1 := ι (CG1.out.up hV0);replace RW := ι (RW.out.up hV0);replace KB9 := ι (KB9.out.up hV0);generalize Fup F9 wf wf.drew = F1 at *;clear hV0;refine Rg.Any.begin (S := Rg.Both 17 (fun W => Below wf.drew.heap.size wf.drew W) (fun _ => True)) mix ?_;generalize wf.drew = w161 at *;have hS : ∀ (l : Array Bool) W, Below w161.heap.size w161 W → Rg.Both 17 (fun W => Below w161.heap.size w161 W) (fun _ => True) l W := fun l W h => ⟨.inr h, trivial⟩
         have hS2 : ∀ (l : Array Bool) W, l.getD 17 false = true → Rg.Both 17 (fun W => Below w161.heap.size w161 W) (fun _ => True) l W := fun l W h => ⟨.inl h, trivial⟩;have hI : Below w161.heap.size w161 w161 := Below.refl _ _;refine Rg.tg 0 17 (.slice (some ⟨xb, 0, none⟩) dm cap) 58 rfl rfl (.inl ⟨rfl, fun w _ => Rg.exec_move (v := .slice (some ⟨xb, 0, none⟩) dm cap) _ rfl rfl⟩) (hS _ _ hI) ?_;go_frame;refine Rg.tg 1 17 (.slice (some ⟨lb, lo, none⟩) D lc) 59 rfl rfl (.inl ⟨rfl, fun w _ => Rg.exec_move (v := .slice (some ⟨lb, lo, none⟩) D lc) _ rfl rfl⟩) (hS _ _ hI) ?_;go_frame;refine Rg.tg 2 17 (.int .i64 ((i : Nat) : Int)) 60 rfl rfl (.inl ⟨rfl, fun w _ => Rg.exec_move (v := .int .i64 ((i : Nat) : Int)) _ rfl rfl⟩) (hS _ _ hI) ?_;go_frame;refine Rg.tg 3 17 (.pointer (some ⟨lb, lo + i, none⟩)) 61 rfl rfl (Rg.yields_index slInts _ _ rfl rfl lb (lo) (D) lc (i) rfl rfl hiD) (hS _ _ hI) ?_;go_frame
         refine Rg.Any.takeT (i := 4) (t := 17) (v := .int .i64 ((n : Nat) : Int)) (some 62) rfl rfl (by kernel_rfl) (by kernel_rfl) (by kernel_rfl) (fun _ _ _ h => h) rfl (by kernel_rfl) rfl (Rg.yields_cell _ _ rfl rfl ⟨lb, lo + i, none⟩ rfl (fun W hW => run_loadInt ((Below.cell (p := ⟨lb, lo + i, none⟩) hW C1.out.lt).trans C1.out.cell))) (hS _ _ hI) ?_;go_frame;refine Rg.tg 5 17 (.slice (some ⟨lb, lo, none⟩) D lc) 63 rfl rfl (.inl ⟨rfl, fun w _ => Rg.exec_move (v := .slice (some ⟨lb, lo, none⟩) D lc) _ rfl rfl⟩) (hS _ _ hI) ?_;go_frame;refine Rg.tg 6 17 (.pointer (some ⟨gb, 1, none⟩)) 64 rfl rfl (.inl ⟨rfl, fun w _ => exec_fieldG _ rfl rfl⟩) (hS _ _ hI) ?_;go_frame;refine Rg.Any.takeT (i := 7) (t := 17) (v := .slice (some ⟨gg, go, none⟩) gs.length gc) (some 65) rfl rfl (by kernel_rfl) (by kernel_rfl) (by kernel_rfl) (fun _ _ _ h => h) rfl (by kernel_rfl) rfl (Rg.yields_cell _ _ rfl rfl ⟨gb, 1, none⟩ rfl (fun W hW => Rg.run_loadSl _ _ Try.underlying24 ((Below.cell (p := ⟨gb, 1, none⟩) hW CG1.out.lt).trans CG1.out.cell))) (hS _ _ hI) ?_;go_frame
         refine Rg.tg 8 17 (.int .i64 ((s : Nat) : Int)) 66 rfl rfl (.inl ⟨rfl, fun w _ => Rg.exec_move (v := .int .i64 ((s : Nat) : Int)) _ rfl rfl⟩) (hS _ _ hI) ?_;go_frame;refine Rg.tg 9 17 (.pointer (some ⟨gg, go + s, none⟩)) 67 rfl rfl (Rg.yields_index slPerms _ _ rfl rfl gg (go) (gs.length) gc (s) rfl rfl HSG.out) (hS _ _ hI) ?_;go_frame;refine Rg.Any.takeT (i := 10) (t := 17) (v := .slice (some ⟨sb', so, none⟩) D sc) (some 68) rfl rfl (by kernel_rfl) (by kernel_rfl) (by kernel_rfl) (fun _ _ _ h => h) rfl (by kernel_rfl) rfl (Rg.yields_cell _ _ rfl rfl ⟨gg, go + s, none⟩ rfl (fun W hW => Rg.run_loadSl _ _ Try.underlying39 ((Below.cell (p := ⟨gg, go + s, none⟩) hW CG2.out.lt).trans CG2.out.cell))) (hS _ _ hI) ?_;go_frame;refine Rg.tg 11 17 (.int .i64 ((i : Nat) : Int)) 69 rfl rfl (.inl ⟨rfl, fun w _ => Rg.exec_move (v := .int .i64 ((i : Nat) : Int)) _ rfl rfl⟩) (hS _ _ hI) ?_;go_frame
         refine Rg.tg 12 17 (.pointer (some ⟨sb', so + i, none⟩)) 70 rfl rfl (Rg.yields_index slPerm _ _ rfl rfl sb' (so) (D) sc (i) rfl rfl hiD) (hS _ _ hI) ?_;go_frame;refine Rg.Any.takeT (i := 13) (t := 17) (v := .int .i64 ((j : Nat) : Int)) (some 71) rfl rfl (by kernel_rfl) (by kernel_rfl) (by kernel_rfl) (fun _ _ _ h => h) rfl (by kernel_rfl) rfl (Rg.yields_cell _ _ rfl rfl ⟨sb', so + i, none⟩ rfl (fun W hW => run_loadInt ((Below.cell (p := ⟨sb', so + i, none⟩) hW C2.out.lt).trans C2.out.cell))) (hS _ _ hI) ?_;go_frame;refine Rg.tg 14 17 (.pointer (some ⟨lb, lo + j, none⟩)) 72 rfl rfl (Rg.yields_index slInts _ _ rfl rfl lb (lo) (D) lc (j) rfl rfl hjD) (hS _ _ hI) ?_;go_frame;refine Rg.Any.takeT (i := 15) (t := 17) (v := .int .i64 ((v : Nat) : Int)) (some 73) rfl rfl (by kernel_rfl) (by kernel_rfl) (by kernel_rfl) (fun _ _ _ h => h) rfl (by kernel_rfl) rfl (Rg.yields_cell _ _ rfl rfl ⟨lb, lo + j, none⟩ rfl (fun W hW => run_loadInt ((Below.cell (p := ⟨lb, lo + j, none⟩) hW C3.out.lt).trans C3.out.cell))) (hS _ _ hI) ?_;go_frame
         refine Rg.tg 16 17 (.pointer (some ⟨xb, 0 + n, none⟩)) 74 rfl rfl (Rg.yields_index slPerm _ _ rfl rfl xb (0) (dm) cap (n) rfl rfl hnd) (hS _ _ hI) ?_;go_frame;refine Rg.Any.one (i := 17) (by kernel_rfl) (Rg.Any.runSkip none rfl rfl rfl (Rg.exec_store _ _ _ rfl _ rfl _ rfl (run_storeIntB _ (show World.cell? _ ⟨xb, 0 + n, none⟩ = some (.int .i64 (Bk.fil M (gs[s]'HSG.out) (fun i => (i : Int)) i n)) by rw [Nat.zero_add]; exact RW.out.2.1 n hnd) (show World.frozen? _ ⟨xb, 0 + n, none⟩ = false by rw [Nat.zero_add]; exact RW.out.2.2 n))) (hS2 _ _ rfl) ?_);go_frame;refine Rg.Any.done (by kernel_rfl) ?_ _;clear hS2;clear hS hI;replace KE := ι KB9.out.b;have hrs := RW.out.set n ((v : Nat) : Int) hnd;rw [fil_put (by rw [HR.out.1]; exact HID.out) hn.out HV9.out] at hrs;have hks : Below wd.heap.size wd (w161.setCell ⟨xb, 0 + n, none⟩ (.int .i64 ((v : Nat) : Int))) := KE.out.setCell (p := ⟨xb, 0 + n, none⟩) HXB.out _
         rw [Nat.zero_add] at hks ⊢;generalize w161.setCell ⟨xb, n, none⟩ (.int .i64 ((v : Nat) : Int)) = w98 at *;have RW9 := ι hrs;have KE9 := ι hks;clear hrs hks C1 C2 C3 CG1 CG2;go_upto_region 17 with (fail);refine wp_region_list ?_;refine Rg.lr 56 (Rg.xm (.int .i64 ((i : Nat) : Int)) _ rfl rfl) ?_;go_frame;refine Rg.lr 57 (exec_bin (R := .int .i64 (((i + 1) : Nat) : Int)) .add _ _ _ rfl rfl rfl (b_add _ (by omega) (by omega))) ?_;go_frame;refine Rg.lr 12 (Rg.xa (.int .i64 (((i + 1) : Nat) : Int)) _ rfl rfl) ?_;go_frame;go_wp2
         go_roundw
         case rel => exact ⟨i + 1, by go_num, HID.out, RW9, KE9⟩
         case measure => simp [intOf]; have := HID.out; omega
        case neg =>
         have hiD2 : i = D := by omega
         have NPX := ι (show Rg.NP wf (.slice (some ⟨xb, 0, none⟩) dm cap) (Bk.acB M (gs[s]'HSG.out)) by
          have h := RW.out;rw [hiD2, ← HR.out.1, ← hdm.out] at h;have h2 := row_done h HR.out.2 (by rw [hdm.out]; exact HCAP.out.1) HCAP.out.2 (by rw [hdm.out]; omega)
          rwa [hdm.out] at h2)
         have AM2 := ι (AM.out.up KE.out);have HFP := ι (np_fp (F := F) NPX.out HXB.out RW.out.1);obtain ⟨a9, c9, X9, r1x, r2, r3, r4⟩ := AM2.out.push HFP.out ⟨_, _, _, rfl⟩ (by rw [List.length_map, List.length_take]; omega) 24;rw [List.length_map, List.length_take, Nat.min_eq_left hs] at r1x r4
         have AM3 := ι (show AcM w2 (X9.setCell ⟨hb3, 1, none⟩ (.slice a9 (s + 1) c9)) hb3 dm _ (.slice a9 (s + 1) c9) ((gs.take (s + 1)).map (Bk.acB M)) by
          rw [List.take_succ_eq_append_getElem HSG.out, List.map_append]; exact r4)
         have HR2 := ι r2;have HR3 := ι r3;have AL0 := ι AM2.out.g0;have AL1 := ι AM2.out.g1;clear r2 r3 r4;go_upto_region 16 with (fail);refine wp_region_list ?_;refine Rg.lr 52 (Rg.xm (.int .i64 ((i : Nat) : Int)) _ rfl rfl) ?_;go_frame;refine Rg.lr 53 (Rg.xm (.slice (some ⟨lb, lo, none⟩) D lc) _ rfl rfl) ?_;go_frame;refine Rg.lr 54 (exec_len _ _ _ rfl Try.underlying22 _ _ _ rfl) ?_;go_frame;refine Rg.lr 55 (exec_bin (R := .bool false) .lss _ _ _ rfl rfl rfl (b_lss _ (decide_eq_false (by omega)))) ?_;go_frame;go_upto_region 19 with (fail);refine wp_region_list ?_;refine Rg.lr 75 (exec_fieldG _ rfl rfl) ?_;go_frame;refine Rg.lr 76 (Rg.exec_load (v := .slice va s vc) _ _ rfl ⟨hb3, 1, none⟩ rfl (Rg.run_loadSl _ _ Try.underlying24 AL1.out)) ?_;go_frame;refine Rg.lr 77 (Rg.xm (.slice (some ⟨xb, 0, none⟩) dm cap) _ rfl rfl) ?_;go_frame;refine Rg.lr 78 (Rg.exec_buildSlice _ _ _ rfl (.slice (some ⟨xb, 0, none⟩) dm cap) rfl (run_build1P wf _ ⟨_, _, _, rfl⟩)) ?_;go_frame
         refine Rg.lr 79 (Rg.exec_append _ _ _ rfl rfl rfl r1x) ?_;go_frame;refine Rg.lr 80 (exec_fieldG _ rfl rfl) ?_;go_frame;refine Rg.list_skip none rfl rfl (Rg.exec_store _ _ _ rfl _ rfl _ rfl (Rg.run_storeSl _ infoPermsV HR2.out HR3.out)) ?_;go_frame;generalize X9.setCell ⟨hb3, 1, none⟩ (.slice a9 (s + 1) c9) = w399 at *;clear r1x HR2 HR3;go_upto_region 13 with (fail);refine wp_region_list ?_;refine Rg.lr 47 (Rg.xm (.int .i64 ((s : Nat) : Int)) _ rfl rfl) ?_;go_frame;refine Rg.lr 48 (exec_bin (R := .int .i64 (((s + 1) : Nat) : Int)) .add _ _ _ rfl rfl rfl (b_add _ (by omega) (by omega))) ?_;go_frame;refine Rg.lr 10 (Rg.xa (.int .i64 (((s + 1) : Nat) : Int)) _ rfl rfl) ?_;go_frame;go_wp2
         go_roundw
         case rel => exact ⟨s + 1, _, _, by go_num, HSG.out, AM3⟩
         case measure => simp [intOf]; have := HSG.out; omega

theorem Htcl0 (args : Array Value) (w : World) : (callFunc 52 args).run Try.prog w = .ok (.enter 52 args) w := by kernel_rfl
theorem Htcl1 (args : Array Value) (w : World) : (callFunc 53 args).run Try.prog w = .ok (.enter 53 args) w := by kernel_rfl
theorem Htcl3 (args : Array Value) (w : World) : (callFunc 56 args).run Try.prog w = .ok (.enter 56 args) w := by kernel_rfl
theorem Htcl5 (args : Array Value) (w : World) : (callFunc 58 args).run Try.prog w = .ok (.enter 58 args) w := by kernel_rfl
theorem Htcl6 (args : Array Value) (w : World) : (callFunc 59 args).run Try.prog w = .ok (.enter 59 args) w := by kernel_rfl
theorem Htcl7 (args : Array Value) (w : World) : (callFunc 60 args).run Try.prog w = .ok (.enter 60 args) w := by kernel_rfl
theorem grp_new (w : World) (d : Int) (a : Option Addr) (n c : Nat) : ∃ X, (storeVar 26 ⟨w.heap.size, 0, none⟩ (.agg #[.int .i64 d, .slice a n c])).run Try.prog (w.alloc (.cells #[.int .i64 0, .slice none 0 0] 26)) = .ok () X ∧ CL X w.heap.size 0 (.int .i64 d) ∧ CL X w.heap.size 1 (.slice a n c) ∧ Below w.heap.size w X := by
 obtain ⟨X, h1, h2, h3, h4, h5⟩ := zg_store (ZG.new w) ((Below.refl w.heap.size w).alloc (Nat.le_refl _) _) (Nat.le_refl _) d a n c;have h6 := h5.size;have h7 := (ZG.new w).lt;exact ⟨X, h1, ⟨h2, by omega⟩, ⟨h3, by omega⟩, h4⟩
theorem BlockActions_any (gv : Value) (d : Int) (ll : List (List Int)) (lv : Value) (l : List Int) (w : World) (h : Rg.RowsB maxLen w gv ll) (hl : Rg.IntsB maxLen w lv l) :
  Calls Try.prog 12 #[.agg #[.int .i64 d, gv], lv] w fun e w' => e = .returned (.bool true) ∧ Below w.heap.size w w' := by
 obtain ⟨ga, gc, rfl, _⟩ := h.shape;obtain ⟨la, lc, rfl, _⟩ := hl.shape;have H := ι h;have HL := ι (IB.mk hl);have hbx := box2b w (.int .i64 d) (.slice ga ll.length gc);clear h hl
 go_enter Try.func12, Try.ntmps12
 go_upto_region 0 with (fail);refine wp_region_list ?_;refine Rg.lr 2 (Rg.exec_box _ _ rfl rfl) ?_;go_frame;have hb : Below w.heap.size w (w.alloc (.cells #[.int .i64 d, .slice ga ll.length gc] 26)) := (Below.refl _ _).alloc (Nat.le_refl _) _;generalize w.alloc (.cells #[.int .i64 d, .slice ga ll.length gc] 26) = w1 at *;have A0 := ι hbx.1;have A1 := ι hbx.2;have K := ι hb;replace H := ι (RowsB.lowb H.out hb);replace HL := ι (HL.out.below hb);clear hbx hb;refine Rg.lr 4 (Rg.xa (.bool false) _ rfl rfl) ?_;go_frame;obtain ⟨bl, hbl⟩ : ∃ b, Hid (bg12 d ll = b) := ⟨_, ι rfl⟩
 cases bl with
 | true =>
  go_upto_region 1 with (fail);refine wp_region_list ?_;refine Rg.lr 14 (Rg.exec_load (v := .agg #[.int .i64 d, .slice ga ll.length gc]) _ _ rfl ⟨w.heap.size, 0, none⟩ rfl (run_loadG A0.out.cell A1.out.cell)) ?_;go_frame;refine list_ask (some 15) rfl rfl _ _ (exec_fn1 52 _ _ rfl rfl (Htcl0 _ _)) ?_;refine (big12_any _ d ll w1 H.out).mono ?_;rintro e1 w2 ⟨rfl, hb⟩;rw [hbl.out];refine ⟨_, rfl, ?_⟩;go_frame;replace A0 := ι (A0.out.below hb);replace A1 := ι (A1.out.below hb);replace H := ι (H.out.below hb);replace HL := ι (HL.out.below hb);replace K := ι (Rg.acc K.out hb);clear hb;refine Rg.lr 16 (Rg.xm (.bool true) _ rfl rfl) ?_;go_frame;refine listW_pass (some 17) (by kernel_rfl) rfl ?_;go_frame;refine listW_pass (some 18) (by kernel_rfl) rfl ?_;go_frame;refine listW_pass (some 19) (by kernel_rfl) rfl ?_;go_frame;refine Rg.lr 20 (exec_pickT (v := .bool true) _ _ _ rfl rfl rfl) ?_;go_frame;go_upto_region 2 with (fail)
  refine wp_region_list ?_;refine list_ask (some 21) rfl rfl _ _ (exec_fn0 53 _ rfl (Htcl1 _ _)) ?_;refine (awake12_any w2).mono ?_;rintro e1 w3 ⟨rfl, hb⟩;refine ⟨_, rfl, ?_⟩;go_frame;replace A0 := ι (A0.out.below hb);replace A1 := ι (A1.out.below hb);replace H := ι (H.out.below hb);replace HL := ι (HL.out.below hb);replace K := ι (Rg.acc K.out hb);clear hb;refine Rg.lr 4 (Rg.xa (.bool true) _ rfl rfl) ?_;go_frame;go_wp2;go_ret;exact ⟨rfl, K.out⟩
 | false =>
  by_cases h70 : 70 < l.length
  case pos =>
   skip
   go_upto_region 1 with (fail);refine wp_region_list ?_;refine Rg.lr 14 (Rg.exec_load (v := .agg #[.int .i64 d, .slice ga ll.length gc]) _ _ rfl ⟨w.heap.size, 0, none⟩ rfl (run_loadG A0.out.cell A1.out.cell)) ?_;go_frame;refine list_ask (some 15) rfl rfl _ _ (exec_fn1 52 _ _ rfl rfl (Htcl0 _ _)) ?_;refine (big12_any _ d ll w1 H.out).mono ?_;rintro e1 w2 ⟨rfl, hb⟩;rw [hbl.out];refine ⟨_, rfl, ?_⟩;go_frame;replace A0 := ι (A0.out.below hb);replace A1 := ι (A1.out.below hb);replace H := ι (H.out.below hb);replace HL := ι (HL.out.below hb);replace K := ι (Rg.acc K.out hb);clear hb;refine Rg.lr 16 (Rg.xm (.bool false) _ rfl rfl) ?_;go_frame;refine listW_run (some 17) rfl rfl (Rg.xm (.slice la l.length lc) _ rfl rfl) ?_;go_frame;refine listW_run (some 18) rfl rfl (exec_len _ _ _ rfl Try.underlying22 _ _ _ rfl) ?_;go_frame;refine listW_run (some 19) rfl rfl (exec_bin (R := .bool true) .gtr _ _ _ rfl rfl rfl (b_gtr _ (decide_eq_true (by omega)))) ?_;go_frame
   refine Rg.lr 20 (exec_pickF (v := .bool true) _ _ _ rfl rfl rfl) ?_;go_frame;go_upto_region 2 with (fail);refine wp_region_list ?_;refine list_ask (some 21) rfl rfl _ _ (exec_fn0 53 _ rfl (Htcl1 _ _)) ?_;refine (awake12_any w2).mono ?_;rintro e1 w3 ⟨rfl, hb⟩;refine ⟨_, rfl, ?_⟩;go_frame;replace A0 := ι (A0.out.below hb);replace A1 := ι (A1.out.below hb);replace H := ι (H.out.below hb);replace HL := ι (HL.out.below hb);replace K := ι (Rg.acc K.out hb);clear hb;refine Rg.lr 4 (Rg.xa (.bool true) _ rfl rfl) ?_;go_frame;go_wp2;go_ret;exact ⟨rfl, K.out⟩
  case neg =>
   skip
   go_upto_region 1 with (fail);refine wp_region_list ?_;refine Rg.lr 14 (Rg.exec_load (v := .agg #[.int .i64 d, .slice ga ll.length gc]) _ _ rfl ⟨w.heap.size, 0, none⟩ rfl (run_loadG A0.out.cell A1.out.cell)) ?_;go_frame;refine list_ask (some 15) rfl rfl _ _ (exec_fn1 52 _ _ rfl rfl (Htcl0 _ _)) ?_;refine (big12_any _ d ll w1 H.out).mono ?_;rintro e1 w2 ⟨rfl, hb⟩;rw [hbl.out];refine ⟨_, rfl, ?_⟩;go_frame;replace A0 := ι (A0.out.below hb);replace A1 := ι (A1.out.below hb);replace H := ι (H.out.below hb);replace HL := ι (HL.out.below hb);replace K := ι (Rg.acc K.out hb);clear hb;refine Rg.lr 16 (Rg.xm (.bool false) _ rfl rfl) ?_;go_frame;refine listW_run (some 17) rfl rfl (Rg.xm (.slice la l.length lc) _ rfl rfl) ?_;go_frame;refine listW_run (some 18) rfl rfl (exec_len _ _ _ rfl Try.underlying22 _ _ _ rfl) ?_;go_frame;refine listW_run (some 19) rfl rfl (exec_bin (R := .bool false) .gtr _ _ _ rfl rfl rfl (b_gtr _ (decide_eq_false (by omega)))) ?_;go_frame
   refine Rg.lr 20 (exec_pickF (v := .bool false) _ _ _ rfl rfl rfl) ?_;go_frame
   have hlg : lg ll = false := by
    have := hbl.out;unfold bg12 at this;rw [Bool.or_eq_false_iff] at this;exact this.1
   obtain ⟨hs1, hs2⟩ := lg_small hlg;have HR := ι (show Rg.Rows w2 (.slice ga ll.length gc) ll from H.out.small (by omega) (fun l hl => by have := hs2 l hl; omega));have LI := ι (NpI.mk (HL.out.i.small (by omega)))
   have hll : l.length ≤ 100 := by omega
   obtain ⟨ck, hck⟩ : ∃ ck, Hid (paC d ll l = ck) := ⟨_, ι rfl⟩;obtain ⟨ak, hak⟩ : ∃ ck, Hid (acC d ll l = ck) := ⟨_, ι rfl⟩;obtain ⟨xb, hxb⟩ : ∃ b, Hid ((decide (paC d ll l = 0) && isBl d ll l) = b) := ⟨_, ι rfl⟩;clear H HL hlg hs2;go_upto_region 3 with (fail);refine wp_region_list ?_;refine Rg.lr 22 (Rg.xm (.slice la l.length lc) _ rfl rfl) ?_;go_frame;refine list_ask (some 23) rfl rfl _ _ (exec_fn1 36 _ _ rfl rfl (Hhcl0 _ _)) ?_;refine (Own_any _ l w2 LI.out.i (by omega)).mono ?_;rintro e1 w3 ⟨ov, rfl, hov, hb⟩;have hoi := Rg.Ints.of_row hov (by omega);refine ⟨_, rfl, ?_⟩;go_frame;replace A0 := ι (A0.out.below hb);replace A1 := ι (A1.out.below hb);replace HR := ι (HR.out.below hb);replace LI := ι (LI.out.below hb);replace K := ι (Rg.acc K.out hb);clear hb;have OI := ι (NpI.mk hoi);refine Rg.lr 5 (Rg.xa (ov) _ rfl rfl) ?_;go_frame;clear hov hoi;go_upto_region 4 with (fail);refine wp_region_list ?_
   refine Rg.lr 25 (Rg.exec_load (v := .agg #[.int .i64 d, .slice ga ll.length gc]) _ _ rfl ⟨w.heap.size, 0, none⟩ rfl (run_loadG A0.out.cell A1.out.cell)) ?_;go_frame;refine Rg.lr 26 (Rg.xm (ov) _ rfl rfl) ?_;go_frame;refine list_ask (some 27) rfl rfl _ _ (exec_fn 56 _ _ _ rfl rfl rfl (Htcl3 _ _)) ?_;refine (Is12_any _ d ll _ l w3 HR.out OI.out.i hll).mono ?_;rintro e1 w4 ⟨b9, rfl, hb9, hb⟩;rw [hxb.out] at hb9;have hb9 := hb9.symm;subst hb9;rw [hck.out];refine ⟨_, rfl, ?_⟩;go_frame;replace A0 := ι (A0.out.below hb);replace A1 := ι (A1.out.below hb);replace HR := ι (HR.out.below hb);replace LI := ι (LI.out.below hb);replace OI := ι (OI.out.below hb);replace K := ι (Rg.acc K.out hb);clear hb;refine Rg.lr 24 (Rg.xm (.tuple #[.bool xb, .int .i64 ck]) _ rfl rfl) ?_;go_frame;refine Rg.lr 28 (exec_extract (v := .bool xb) _ _ rfl rfl rfl) ?_;go_frame;refine Rg.lr 29 (exec_extract (v := .int .i64 ck) _ _ rfl rfl rfl) ?_;go_frame
   refine Rg.lr 6 (Rg.xa (.bool xb) _ rfl rfl) ?_;go_frame;refine Rg.lr 7 (Rg.xa (.int .i64 ck) _ rfl rfl) ?_;go_frame;go_upto_region 5 with (fail);refine wp_region_list ?_;refine Rg.lr 31 (Rg.exec_load (v := .agg #[.int .i64 d, .slice ga ll.length gc]) _ _ rfl ⟨w.heap.size, 0, none⟩ rfl (run_loadG A0.out.cell A1.out.cell)) ?_;go_frame;refine Rg.lr 32 (Rg.xm (.slice la l.length lc) _ rfl rfl) ?_;go_frame;refine list_ask (some 33) rfl rfl _ _ (exec_fn 57 _ _ _ rfl rfl rfl (Hscl3 _ _)) ?_;refine (refIs12_any _ d ll _ l w4 HR.out LI.out.i hll).mono ?_;rintro e1 w5 ⟨b9, rfl, hb9, hb⟩;rw [hxb.out] at hb9;have hb9 := hb9.symm;subst hb9;rw [hck.out];refine ⟨_, rfl, ?_⟩;go_frame;replace A0 := ι (A0.out.below hb);replace A1 := ι (A1.out.below hb);replace HR := ι (HR.out.below hb);replace LI := ι (LI.out.below hb);replace OI := ι (OI.out.below hb);replace K := ι (Rg.acc K.out hb);clear hb;refine Rg.lr 30 (Rg.xm (.tuple #[.bool xb, .int .i64 ck]) _ rfl rfl) ?_;go_frame
   refine Rg.lr 34 (exec_extract (v := .bool xb) _ _ rfl rfl rfl) ?_;go_frame;refine Rg.lr 35 (exec_extract (v := .int .i64 ck) _ _ rfl rfl rfl) ?_;go_frame;refine Rg.lr 8 (Rg.xa (.bool xb) _ rfl rfl) ?_;go_frame;refine Rg.lr 9 (Rg.xa (.int .i64 ck) _ rfl rfl) ?_;go_frame;go_upto_region 6 with (fail);refine wp_region_list ?_;refine Rg.lr 37 (Rg.exec_load (v := .agg #[.int .i64 d, .slice ga ll.length gc]) _ _ rfl ⟨w.heap.size, 0, none⟩ rfl (run_loadG A0.out.cell A1.out.cell)) ?_;go_frame;refine Rg.lr 38 (Rg.xm (ov) _ rfl rfl) ?_;go_frame;refine list_ask (some 39) rfl rfl _ _ (exec_fn 58 _ _ _ rfl rfl rfl (Htcl5 _ _)) ?_;refine (Action12_any _ d ll _ l w5 HR.out OI.out.i hll).mono ?_;rintro e1 w6 ⟨v9, rfl, hv9, hb⟩;obtain ⟨e1, a1, n1, c1, rfl⟩ := hv9.shape;rw [hak.out];refine ⟨_, rfl, ?_⟩;go_frame;replace A0 := ι (A0.out.below hb);replace A1 := ι (A1.out.below hb);replace HR := ι (HR.out.below hb)
   replace LI := ι (LI.out.below hb);replace OI := ι (OI.out.below hb);replace K := ι (Rg.acc K.out hb);clear hb;have AN1 := ι hv9;refine Rg.lr 36 (Rg.xm (.tuple #[(.agg #[.int .i64 e1, .slice a1 n1 c1]), .int .i64 ak]) _ rfl rfl) ?_;go_frame;refine Rg.lr 40 (exec_extract (v := (.agg #[.int .i64 e1, .slice a1 n1 c1])) _ _ rfl rfl rfl) ?_;go_frame;refine Rg.lr 41 (exec_extract (v := .int .i64 ak) _ _ rfl rfl rfl) ?_;go_frame;clear hv9;obtain ⟨X1, q1, q2, q3, hb⟩ := grp_new w6 e1 a1 n1 c1;refine Rg.lr 10 (exec_allocG rfl) ?_;go_frame;refine Rg.list_skip none rfl rfl (Rg.exec_store _ _ _ rfl _ rfl _ rfl q1) ?_;go_frame;clear q1;refine Rg.lr 11 (Rg.xa (.int .i64 ak) _ rfl rfl) ?_;go_frame;replace A0 := ι (A0.out.below hb);replace A1 := ι (A1.out.below hb);replace HR := ι (HR.out.below hb);replace LI := ι (LI.out.below hb);replace OI := ι (OI.out.below hb);replace AN1 := ι (AN1.out.below hb);replace K := ι (Rg.acc K.out hb)
   clear hb;have B1 := ι q2;have D1 := ι q3;clear q2 q3;go_upto_region 7 with (fail);refine wp_region_list ?_;refine Rg.lr 43 (Rg.exec_load (v := .agg #[.int .i64 d, .slice ga ll.length gc]) _ _ rfl ⟨w.heap.size, 0, none⟩ rfl (run_loadG A0.out.cell A1.out.cell)) ?_;go_frame;refine Rg.lr 44 (Rg.xm (.slice la l.length lc) _ rfl rfl) ?_;go_frame;refine list_ask (some 45) rfl rfl _ _ (exec_fn 59 _ _ _ rfl rfl rfl (Htcl6 _ _)) ?_;refine (refAction12_any _ d ll _ l X1 HR.out LI.out.i hll).mono ?_;rintro e1 w7 ⟨v9, rfl, hv9, hb⟩;obtain ⟨e2, a2, n2, c2, rfl⟩ := hv9.shape;rw [hak.out];refine ⟨_, rfl, ?_⟩;go_frame;replace A0 := ι (A0.out.below hb);replace A1 := ι (A1.out.below hb);replace HR := ι (HR.out.below hb);replace LI := ι (LI.out.below hb);replace OI := ι (OI.out.below hb);replace AN1 := ι (AN1.out.below hb);replace B1 := ι (B1.out.below hb);replace D1 := ι (D1.out.below hb);replace K := ι (Rg.acc K.out hb)
   clear hb;have AN2 := ι hv9;refine Rg.lr 42 (Rg.xm (.tuple #[(.agg #[.int .i64 e2, .slice a2 n2 c2]), .int .i64 ak]) _ rfl rfl) ?_;go_frame;refine Rg.lr 46 (exec_extract (v := (.agg #[.int .i64 e2, .slice a2 n2 c2])) _ _ rfl rfl rfl) ?_;go_frame;refine Rg.lr 47 (exec_extract (v := .int .i64 ak) _ _ rfl rfl rfl) ?_;go_frame;clear hv9;obtain ⟨X2, q1, q2, q3, hb⟩ := grp_new w7 e2 a2 n2 c2;refine Rg.lr 12 (exec_allocG rfl) ?_;go_frame;refine Rg.list_skip none rfl rfl (Rg.exec_store _ _ _ rfl _ rfl _ rfl q1) ?_;go_frame;clear q1;refine Rg.lr 13 (Rg.xa (.int .i64 ak) _ rfl rfl) ?_;go_frame;replace A0 := ι (A0.out.below hb);replace A1 := ι (A1.out.below hb);replace HR := ι (HR.out.below hb);replace LI := ι (LI.out.below hb);replace OI := ι (OI.out.below hb);replace AN1 := ι (AN1.out.below hb);replace B1 := ι (B1.out.below hb);replace D1 := ι (D1.out.below hb);replace AN2 := ι (AN2.out.below hb)
   replace K := ι (Rg.acc K.out hb);clear hb;have B2 := ι q2;have D2 := ι q3;clear q2 q3;obtain ⟨hee, rr, hr1, hr2⟩ := AN1.out.both AN2.out;subst hee;have R1 := ι hr1;have R2 := ι hr2;clear hr1 hr2 AN1 AN2;go_upto_region 8 with (fail);refine wp_region_list ?_;refine Rg.lr 48 (Rg.xm (.bool xb) _ rfl rfl) ?_;go_frame;refine Rg.lr 49 (Rg.xm (.bool xb) _ rfl rfl) ?_;go_frame;refine Rg.lr 50 (exec_eqB _ _ rfl rfl rfl) ?_;go_frame;refine Rg.lr 51 (Rg.xm (.bool true) _ rfl rfl) ?_;go_frame;refine listW_run (some 52) rfl rfl (Rg.xm (.int .i64 ck) _ rfl rfl) ?_;go_frame;refine listW_run (some 53) rfl rfl (Rg.xm (.int .i64 ck) _ rfl rfl) ?_;go_frame;refine listW_run (some 54) rfl rfl (exec_eqI _ _ rfl rfl rfl rfl) ?_;go_frame;refine Rg.lr 55 (exec_pickT (v := .bool true) _ _ _ rfl rfl rfl) ?_;go_frame;refine Rg.lr 56 (Rg.xm (.bool true) _ rfl rfl) ?_;go_frame;refine listW_run (some 57) rfl rfl (Rg.exec_load (v := .agg #[.int .i64 e1, .slice a1 n1 c1]) _ _ rfl ⟨w6.heap.size, 0, none⟩ rfl (run_loadG B1.out.cell D1.out.cell)) ?_;go_frame
   refine listW_run (some 58) rfl rfl (Rg.exec_load (v := .agg #[.int .i64 e1, .slice a2 n2 c2]) _ _ rfl ⟨w7.heap.size, 0, none⟩ rfl (run_loadG B2.out.cell D2.out.cell)) ?_;go_frame;refine listW_ask (some 59) rfl rfl _ _ (exec_fn 60 _ _ _ rfl rfl rfl (Htcl7 _ _)) ?_;refine (SameGroup_b R1.out R2.out).mono ?_;rintro e1 w8 ⟨rfl, hb⟩;refine ⟨_, rfl, ?_⟩;go_frame;replace A0 := ι (A0.out.below hb);replace A1 := ι (A1.out.below hb);replace HR := ι (HR.out.below hb);replace LI := ι (LI.out.below hb);replace OI := ι (OI.out.below hb);replace B1 := ι (B1.out.below hb);replace D1 := ι (D1.out.below hb);replace B2 := ι (B2.out.below hb);replace D2 := ι (D2.out.below hb);replace R1 := ι (R1.out.below hb);replace R2 := ι (R2.out.below hb);replace K := ι (Rg.acc K.out hb);clear hb;refine Rg.lr 60 (exec_pickT (v := .bool true) _ _ _ rfl rfl rfl) ?_;go_frame;refine Rg.lr 61 (Rg.xm (.bool true) _ rfl rfl) ?_;go_frame
   refine listW_run (some 62) rfl rfl (Rg.xm (.int .i64 ak) _ rfl rfl) ?_;go_frame;refine listW_run (some 63) rfl rfl (Rg.xm (.int .i64 ak) _ rfl rfl) ?_;go_frame;refine listW_run (some 64) rfl rfl (exec_eqI _ _ rfl rfl rfl rfl) ?_;go_frame;refine Rg.lr 65 (exec_pickT (v := .bool true) _ _ _ rfl rfl rfl) ?_;go_frame;refine Rg.lr 66 (Rg.xm (.bool true) _ rfl rfl) ?_;go_frame;refine listW_run (some 67) rfl rfl (Rg.xm (ov) _ rfl rfl) ?_;go_frame;refine listW_run (some 68) rfl rfl (Rg.xm (.slice la l.length lc) _ rfl rfl) ?_;go_frame;refine listW_ask (some 69) rfl rfl _ _ (exec_fn 42 _ _ _ rfl rfl rfl (Hocl5 _ _)) ?_;refine (Same_any OI.out.i LI.out.i (ι (decide_eq_true rfl)) (Below.refl _ _)).mono ?_;rintro e1 w9 ⟨rfl, hb⟩;refine ⟨_, rfl, ?_⟩;go_frame;replace A0 := ι (A0.out.below hb);replace A1 := ι (A1.out.below hb);replace HR := ι (HR.out.below hb);replace LI := ι (LI.out.below hb);replace OI := ι (OI.out.below hb)
   replace B1 := ι (B1.out.below hb);replace D1 := ι (D1.out.below hb);replace B2 := ι (B2.out.below hb);replace D2 := ι (D2.out.below hb);replace R1 := ι (R1.out.below hb);replace R2 := ι (R2.out.below hb);replace K := ι (Rg.acc K.out hb);clear hb;refine Rg.lr 70 (exec_pickT (v := .bool true) _ _ _ rfl rfl rfl) ?_;go_frame;refine Rg.lr 71 (Rg.xm (.bool true) _ rfl rfl) ?_;go_frame;refine listW_ask (some 72) rfl rfl _ _ (exec_fn0 53 _ rfl (Htcl1 _ _)) ?_;refine (awake12_any w9).mono ?_;rintro e1 w10 ⟨rfl, hb⟩;refine ⟨_, rfl, ?_⟩;go_frame;replace A0 := ι (A0.out.below hb);replace A1 := ι (A1.out.below hb);replace HR := ι (HR.out.below hb);replace LI := ι (LI.out.below hb);replace OI := ι (OI.out.below hb);replace B1 := ι (B1.out.below hb);replace D1 := ι (D1.out.below hb);replace B2 := ι (B2.out.below hb);replace D2 := ι (D2.out.below hb);replace R1 := ι (R1.out.below hb);replace R2 := ι (R2.out.below hb)
   replace K := ι (Rg.acc K.out hb);clear hb;refine Rg.lr 73 (exec_pickT (v := .bool true) _ _ _ rfl rfl rfl) ?_;go_frame;refine Rg.lr 4 (Rg.xa (.bool true) _ rfl rfl) ?_;go_frame;go_wp2;go_ret;exact ⟨rfl, K.out⟩
end Go.Proofs.Ytcfomoknlchemaa

set_option linter.unusedVariables false
namespace Go.Proofs.Ytcfomoknlchemaa
open Go.RowKit
open Go.Proofs
open Go.ChangeShapes Go.WideShapes Go.Deep Go.Joins
attribute [local irreducible] Go.Calls
section
variable {H : Type} {enc : TypeId × Value → H}
theorem readG {W : World} {base : Nat} {r : Reach} {v : Value} {d : DataW H} {p : List MemPlace} (hv : Value.okWide Try.prog W r base 26 v) (h : DataW.Trod enc Try.prog W 0 (fun _ => true) true 26 v d p) :
  ∃ (dd : Int) (gv : Value) (ll : List (List Int)), v = .agg #[.int .i64 dd, gv] ∧ Rg.RowsB maxLen W gv ll := by
 obtain ⟨c0, c1, y0, y1, m, rfl, rfl, rfl, hy0, hy1⟩ := open_agg2 Try.underlying26 (by kernel_rfl) cells24 hv h;obtain ⟨a, e0, _, _⟩ := DataW.trod_int Try.underlying3 hy0;simp at e0;subst e0
 rcases open_int_rows Try.underlying24 Try.underlying39 Try.underlying3 cells39 cells3 hy1 with ⟨hcs, _⟩ | ⟨a1, len, cap, A, L, C, Z, hcs, _, hl, hm, _, hrow⟩
 ·obtain rfl : c1 = .slice none 0 0 := by simpa using hcs
  exact ⟨a, _, [], rfl, [], ⟨none, 0, rfl, by simp, Nat.zero_le _, by simp, fun h => by simp at h⟩, rfl, fun i h => by simp at h⟩
 ·obtain rfl : c1 = .slice (some a1) len cap := by simpa using hcs
  refine ⟨a, _, (List.range len).map fun r => (Z r).take (L r), rfl, (List.range len).map fun r => .slice (A r) (L r) (C r), ⟨some a1, cap, by simp, by simp; exact hl, hm, by simp; omega, fun h0 => ?_⟩, by simp, fun i h1 h2 => ?_⟩
  ·simp only [List.length_map, List.length_range] at h0
   obtain ⟨hc0, _⟩ := hrow 0 (by omega)
   have ha : a1 = ⟨a1.block, a1.off, none⟩ := by
    have := spot_none (a := a1) (by simpa [Addr.add] using hc0)
    cases a1; simp at this; subst this; rfl
   refine ⟨a1.block, a1.off, by rw [← ha], lt_of_cell (a := a1) (by simpa [Addr.add] using hc0), fun i hi => ?_⟩;simp only [List.length_map, List.length_range] at hi;rw [← add_none ha i, (hrow i (by omega)).1];simp
  ·simp only [List.length_map, List.length_range] at h1
   simp only [List.getElem_map, List.getElem_range];obtain ⟨_, hLC, hCm, hZ, _, hn, hcell⟩ := hrow i (by omega)
   have hlen : ((Z i).take (L i)).length = L i := by rw [List.length_take]; omega
   refine ⟨A i, C i, by rw [List.length_map, hlen], by rw [List.length_map, hlen]; exact hLC, hCm, by rw [List.length_map, hlen]; omega, fun h0 => ?_⟩;rw [List.length_map, hlen] at h0
   cases hA : A i with
   | none => have := hn hA; omega
   | some a' =>
    obtain ⟨_, hcl⟩ := hcell a' hA;have hc0 := hcl 0 (by omega)
    have ha : a' = ⟨a'.block, a'.off, none⟩ := by
     have := spot_none (a := a') (by simpa [Addr.add] using hc0)
     cases a'; simp at this; subst this; rfl
    refine ⟨a'.block, a'.off, by rw [← ha], lt_of_cell (a := a') (by simpa [Addr.add] using hc0), fun c hc => ?_⟩;rw [List.length_map, hlen] at hc;rw [← add_none ha c, hcl c (by omega)];simp [List.getD, List.getElem?_eq_getElem (show c < (Z i).length by omega)]
end
end Go.Proofs.Ytcfomoknlchemaa

set_option linter.unusedVariables false
namespace Go.Proofs.Ytcfomoknlchemaa
open Go.RowKit
open Go.Proofs
open Go.ChangeShapes Go.WideShapes Go.Deep Go.Joins
attribute [local irreducible] Go.Calls
section
variable {H : Type} {enc : TypeId × Value → H}
theorem readI {W : World} {base : Nat} {r : Reach} {v : Value} {d : DataW H} {p : List MemPlace} (h : DataW.Trod enc Try.prog W 0 (fun _ => true) true 22 v d p) (hv : ∃ x, v.cells.toList = [x] ∧ v = x) :
  ∃ l, Rg.IntsB maxLen W v l := by
 obtain ⟨fuel, hf⟩ := h;obtain ⟨x, hc, rfl⟩ := hv;rw [hc] at hf
 rcases open_ints Try.underlying22 Try.underlying3 cells3 hf with ⟨hcs, _⟩ | ⟨a, len, cap, zs, hcs, _, hl, hm, hz, _, hcell, _⟩
 ·obtain rfl : v = .slice none 0 0 := by simpa using hcs
  exact ⟨[], none, 0, rfl, by simp, Nat.zero_le _, by simp, fun h => by simp at h⟩
 ·obtain rfl : v = .slice (some a) len cap := by simpa using hcs
  simp only [if_true] at hz
  have hlen : (zs.take len).length = len := by rw [List.length_take]; omega
  refine ⟨zs.take len, some a, cap, by rw [List.length_map, hlen], by rw [List.length_map, hlen]; exact hl, hm, by rw [List.length_map, hlen]; omega, fun h0 => ?_⟩;rw [List.length_map, hlen] at h0;have hc0 := hcell 0 (by omega)
  have ha : a = ⟨a.block, a.off, none⟩ := by
   have := spot_none (a := a) (by simpa [Addr.add] using hc0)
   cases a; simp at this; subst this; rfl
  refine ⟨a.block, a.off, by rw [← ha], lt_of_cell (a := a) (by simpa [Addr.add] using hc0), fun i hi => ?_⟩;rw [List.length_map, hlen] at hi;rw [← add_none ha i, hcell i (by omega)];simp [List.getD, List.getElem?_eq_getElem (show i < zs.length by omega)]
end
end Go.Proofs.Ytcfomoknlchemaa
