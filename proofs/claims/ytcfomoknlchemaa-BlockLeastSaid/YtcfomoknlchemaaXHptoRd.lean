/- Lemmas and contracts on the way to the statement; no condition of their own beyond those written. -/
import Derived.Test.YtcfomoknlchemaaXHitoHo
import Derived.Deep.MidRow
import Derived.Deep.WholeRow
import Derived.Laws.CopyOwn
import Derived.RangeFuncWrites
import Derived.RangeFuncNested
import Derived.RangeFuncBox
import Derived.RangeFuncLeaves
import Derived.Shelf.Abstract
import Derived.OwnWalkIn
import Derived.TacticsInMore
import Derived.LoopNIn
import Derived.LoopIn
import Derived.Maps.AppendAt
import Derived.Sort.CutIn
import Derived.Deep.CutRange
import Derived.Deep.CutBlock
import Derived.IntWalk
import Derived.Great.BuildSlice
import Derived.ArgAppend
import Derived.StillTailTactics
import Derived.WalkSpells
import Derived.WalkLawsBesides
import Derived.OwnWalk
import Derived.OrdersHeld
import Derived.Deep.OwnRows
import Derived.WalkKit
import Derived.Lib.Hide
import Derived.Laws.OwnMore
import Derived.Test.YtcfomoknlchemaaProg
import Derived.Outline
import Derived.Deep.DeepFit
import Derived.BigQuiet
import Derived.Deep.QuietTactic
import Derived.Sort.OwnSortedInts
import Derived.WideMake
import Derived.MapKept
import Derived.ChangeMaps5
import Derived.Shelf.Sort.Plain
import Derived.Lib.ConvBytes
import Derived.ChangeKeysEq
import Derived.Laws.Cells
import Derived.Laws.Rows
import Derived.Laws.Tables
import Derived.OrdersIn
import Derived.TacticsIn
import Derived.Deep.LoopGhost
import Derived.Lib.SlicesSearch
import Derived.Stop.BytesEq
import Derived.Shelf.SlSortCmp.Whole1
import Derived.Ground.SlsfProg
import Derived.Lib.SmallJoins
import Derived.Deep.Matrix
set_option linter.unusedVariables false
set_option linter.unusedSimpArgs false
set_option maxRecDepth 100000
set_option maxHeartbeats 8000000
namespace Go.Proofs.Ytcfomoknlchemaa
open Go.RowKit
open Go.Proofs
open Go.Proofs.Ob
open Go.Proofs.Cm (Gd)
attribute [local irreducible] Go.Calls Go.wpList
theorem Hpcl0 (args : Array Value) (w : World) : (callFunc 61 args).run Try.prog w = .ok (.enter 61 args) w := by kernel_rfl
theorem Hpcl1 (args : Array Value) (w : World) : (callFunc 63 args).run Try.prog w = .ok (.enter 63 args) w := by kernel_rfl
theorem Hpcl2 (args : Array Value) (w : World) : (callFunc 67 args).run Try.prog w = .ok (.enter 67 args) w := by kernel_rfl
theorem Hpcl3 (args : Array Value) (w : World) : (callFunc 65 args).run Try.prog w = .ok (.enter 65 args) w := by kernel_rfl
theorem Hpcl4 (args : Array Value) (w : World) : (callFunc 62 args).run Try.prog w = .ok (.enter 62 args) w := by kernel_rfl
theorem Hpcl5 (args : Array Value) (w : World) : (callFunc 64 args).run Try.prog w = .ok (.enter 64 args) w := by kernel_rfl
theorem Hpcl6 (args : Array Value) (w : World) : (callFunc 41 args).run Try.prog w = .ok (.enter 41 args) w := by kernel_rfl
theorem Hpcl7 (args : Array Value) (w : World) : (callFunc 52 args).run Try.prog w = .ok (.enter 52 args) w := by kernel_rfl
theorem Hpcl8 (args : Array Value) (w : World) : (callFunc 53 args).run Try.prog w = .ok (.enter 53 args) w := by kernel_rfl
theorem Hpcl10 (args : Array Value) (w : World) : (callFunc 55 args).run Try.prog w = .ok (.enter 55 args) w := by kernel_rfl
theorem All_yes {D : Nat} {gs : List (List Nat)} {T0 : List (List Nat)} (hz : Ma.gchk ((D : Nat) : Int) (gs.map Ma.ofN) = 0) (ht : trn gs D = true) (hD : D ≤ 24) (hT : Bk.AllB D gs.length (img gs) T0) (ha : AscL T0) (hf : T0.length ≤ 200000) (gv : Value) (w : World) (h : Rg.Rows w gv (gs.map Ma.ofN)) :
  Calls Try.prog 63 #[.agg #[.int .i64 ((D : Nat) : Int), gv]] w fun e w' => ∃ v, e = .returned (.tuple #[v, .int .i64 0]) ∧ Rg.Rows w' v (T0.map Ma.ofN) ∧ Below w.heap.size w w' := by
 refine (All_any gv _ _ w h (fun D' gs' h1 h2 hg _ _ T hn hr => ?_)).mono ?_
 ·obtain rfl : D = D' := by omega
  obtain rfl := map_ofN_inj h2;exact Nat.le_trans (nodup_le hn fun y hy => (hT.2 y).2 (hr y hy)) hf
 ·rintro e w' ⟨hb, ⟨h0, _⟩ | ⟨_, D', gs', h1, h2, ⟨h3, _⟩ | ⟨_, h3, _⟩ | ⟨_, _, T, v, rfl, hr, hall, hasc⟩⟩⟩
  ·exact absurd hz h0
  ·obtain rfl : D = D' := by omega
   obtain rfl := map_ofN_inj h2;rw [ht] at h3; cases h3
  ·omega
  ·obtain rfl : D = D' := by omega
   obtain rfl := map_ofN_inj h2;rw [allB_eq hall hasc hT ha] at hr;exact ⟨v, rfl, hr, hb⟩
theorem Prim_b {D : Nat} {gs : List (List Nat)} {b : Bool} (hz : Ma.gchk ((D : Nat) : Int) (gs.map Ma.ofN) = 0) (hb : b = true ↔ PrB D gs) (gv : Value) (w : World) (h : Rg.Rows w gv (gs.map Ma.ofN)) :
  Calls Try.prog 65 #[.agg #[.int .i64 ((D : Nat) : Int), gv]] w fun e w' => e = .returned (.tuple #[.bool b, .int .i64 0]) ∧ Below w.heap.size w w' := by
 refine (Primitive_any gv _ _ w h).mono ?_
 rintro e w' ⟨hb', ⟨h0, _⟩ | ⟨_, D', gs', b', h1, h2, rfl, h3⟩⟩
 ·exact absurd hz h0
 ·obtain rfl : D = D' := by omega
  obtain rfl := map_ofN_inj h2
  have e : b' = b := by
   cases b <;> cases b'
   ·rfl
   ·exact absurd (hb.2 (h3.1 rfl)) (by decide)
   ·exact absurd (h3.2 (hb.1 rfl)) (by decide)
   ·rfl
  rw [e]; exact ⟨rfl, hb'⟩
theorem run_buildL3 (X : World) (u1 u2 u3 : Value) (h1 : ∃ a n c, u1 = .slice a n c) (h2 : ∃ a n c, u2 = .slice a n c) (h3 : ∃ a n c, u3 = .slice a n c) : (Instr.buildSlice 29 3 #[(0, u1), (1, u2), (2, u3)]).run Try.prog X = .ok (.slice (some ⟨X.heap.size, 0, none⟩) 3 3) (X.alloc (.cells #[u1, u2, u3] 22)) := by
 obtain ⟨i0, hi, hz0, hz1, hz2⟩ := info_parts infoIntsV;obtain ⟨_, _, _, rfl⟩ := h1;obtain ⟨_, _, _, rfl⟩ := h2;obtain ⟨_, _, _, rfl⟩ := h3;refine run_buildSlice X 29 22 3 _ _ i0 _ Try.underlying29 hi hz0 (by rw [hz1]; decide) (by rw [hz1]; decide) ?_;generalize (fun x => ((Value.slice none 0 0).cells)[x % (Value.slice none 0 0).cells.size]!) = f;rw [hz1];have h1 : Array.range (3 * 1) = #[0, 1, 2] := rfl;simp [Instr.fill, Value.cells, h1]
theorem exec_buildL3 {o : Oper} {a : Act} {w w' : World} {v u1 u2 u3 : Value} (x1 x2 x3 : Operand) (ho : o.op = .buildSlice 29 3 #[(0, x1), (1, x2), (2, x3)]) (h1 : a.eval x1 = u1) (h2 : a.eval x2 = u2) (h3 : a.eval x3 = u3)
  (hr : (Instr.buildSlice 29 3 #[(0, u1), (1, u2), (2, u3)]).run Try.prog w = .ok v w') : (execOp a.eval o).run Try.prog w = .ok (.value v) w' := by
 subst h1 h2 h3;unfold execOp;simp only [ho, Sem.run_bind, Sem.run_pure];simp only [List.map_toArray, List.map_cons, List.map_nil];rw [hr];rfl
theorem rows3_new {w : World} {u1 u2 u3 : Value} {l1 l2 l3 : List Int} (h1 : Rg.Ints w u1 l1) (h2 : Rg.Ints w u2 l2) (h3 : Rg.Ints w u3 l3) (t : TypeId) : Rg.Rows (w.alloc (.cells #[u1, u2, u3] t)) (.slice (some ⟨w.heap.size, 0, none⟩) 3 3) [l1, l2, l3] := by
 refine ⟨[u1, u2, u3], ⟨_, 3, rfl, Nat.le_refl _, by show 3 ≤ _; unfold maxLen; omega, by simp [Rg.big], fun _ => ⟨w.heap.size, 0, rfl, by simp, fun i hi => ?_⟩⟩, rfl, fun i a b => ?_⟩
 ·rw [Nat.zero_add, Rg.cellNew]
  match i, hi with
  | 0, _ => rfl
  | 1, _ => rfl
  | 2, _ => rfl
 ·match i, a, b with
  | 0, _, _ => exact h1.below ((Below.refl _ _).alloc (Nat.le_refl _) _)
  | 1, _, _ => exact h2.below ((Below.refl _ _).alloc (Nat.le_refl _) _)
  | 2, _, _ => exact h3.below ((Below.refl _ _).alloc (Nat.le_refl _) _)
theorem awake12_any (w : World) : Calls Try.prog 53 #[] w fun e w' => e = .returned (.bool true) ∧ Below w.heap.size w w' := by
 have K := ι (Below.refl w.heap.size w)
 go_enter Try.func53, Try.ntmps53
 go_upto_region 0 with (fail);refine wp_region_list ?_;refine Rg.lr 0 (Rg.xa (.bool false) _ rfl rfl) ?_;go_frame;go_upto_region 1 with (fail);refine wp_region_list ?_;refine list_ask (some 6) rfl rfl _ _ (exec_fn1 61 _ _ rfl rfl (Hpcl0 _ _)) ?_;refine (cyclic_any 4 w (by decide) (by decide)).mono ?_;rintro e1 w1 ⟨a1, c1, rfl, hg1, hb⟩;refine ⟨_, rfl, ?_⟩;go_frame;replace K := ι (Rg.acc K.out hb);clear hb;have HG1 := ι hg1;refine list_ask (some 7) rfl rfl _ _ (exec_fn1 63 _ _ rfl rfl (Hpcl1 _ _)) ?_;refine (All_yes (T0 := [[0, 0, 0, 0], [0, 1, 0, 1], [0, 1, 2, 3]]) cy4_g cy4_t (by decide) cy4_all cy4_asc (by decide) _ w1 HG1.out).mono ?_;rintro e1 w2 ⟨v, rfl, hv, hb⟩;refine ⟨_, rfl, ?_⟩;go_frame;replace HG1 := ι (HG1.out.below hb);replace K := ι (Rg.acc K.out hb);clear hb;have AV := ι hv;refine Rg.lr 5 (Rg.xm (.tuple #[v, .int .i64 0]) _ rfl rfl) ?_;go_frame;refine Rg.lr 8 (exec_extract (v := v) _ _ rfl rfl rfl) ?_;go_frame
 refine Rg.lr 9 (exec_extract (v := .int .i64 0) _ _ rfl rfl rfl) ?_;go_frame;refine Rg.lr 1 (Rg.xa (v) _ rfl rfl) ?_;go_frame;refine Rg.lr 2 (Rg.xa (.int .i64 0) _ rfl rfl) ?_;go_frame;clear hv hg1 HG1;go_upto_region 2 with (fail);refine wp_region_list ?_;refine list_ask (some 11) rfl rfl _ _ (exec_fn0 67 _ rfl (Hpcl2 _ _)) ?_;refine (four12_any w2).mono ?_;rintro e1 w3 ⟨ga, gn, gc, rfl, hgr, hb⟩;refine ⟨_, rfl, ?_⟩;go_frame;replace AV := ι (AV.out.below hb);replace K := ι (Rg.acc K.out hb);clear hb;have G4 := ι hgr.rows;refine list_ask (some 12) rfl rfl _ _ (exec_fn1 65 _ _ rfl rfl (Hpcl3 _ _)) ?_;refine (Prim_b (D := 4) (gs := gs4) (b := true) gs4_g ⟨fun _ => gs4_p, fun _ => rfl⟩ _ w3 G4.out).mono ?_;rintro e1 w4 ⟨rfl, hb⟩;refine ⟨_, rfl, ?_⟩;go_frame;replace AV := ι (AV.out.below hb);replace G4 := ι (G4.out.below hb);replace K := ι (Rg.acc K.out hb);clear hb;refine Rg.lr 10 (Rg.xm (.tuple #[.bool true, .int .i64 0]) _ rfl rfl) ?_;go_frame
 refine Rg.lr 13 (exec_extract (v := .bool true) _ _ rfl rfl rfl) ?_;go_frame;refine Rg.lr 14 (exec_extract (v := .int .i64 0) _ _ rfl rfl rfl) ?_;go_frame;refine Rg.lr 3 (Rg.xa (.bool true) _ rfl rfl) ?_;go_frame;refine Rg.lr 4 (Rg.xa (.int .i64 0) _ rfl rfl) ?_;go_frame;clear hgr G4;go_upto_region 3 with (fail);refine wp_region_list ?_;refine list_ask (some 15) rfl rfl _ _ (exec_fn1 61 _ _ rfl rfl (Hpcl0 _ _)) ?_;refine (cyclic_any 4 w4 (by decide) (by decide)).mono ?_;rintro e1 w5 ⟨a2, c2, rfl, hg2, hb⟩;refine ⟨_, rfl, ?_⟩;go_frame;replace AV := ι (AV.out.below hb);replace K := ι (Rg.acc K.out hb);clear hb;have HG2 := ι hg2;have hnew := ints_new w5 3 [0, 1, 0, 1] (by decide);refine Rg.lr 16 (exec_flat _ _ 4 _ rfl [0, 1, 0, 1] Try.underlying22 szInt zInt rfl (by decide) (by decide) rfl) ?_;go_frame;have hb := (Below.refl w5.heap.size w5).alloc (Nat.le_refl _) (.cells (([0, 1, 0, 1] : List Int).map (Value.int .i64)).toArray 3)
 generalize w5.alloc (.cells (([0, 1, 0, 1] : List Int).map (Value.int .i64)).toArray 3) = w6 at *;replace AV := ι (AV.out.below hb);replace HG2 := ι (HG2.out.below hb);replace K := ι (Rg.acc K.out hb);clear hb;have W1 := ι hnew;clear hnew;refine list_ask (some 17) rfl rfl _ _ (exec_fn4 62 _ _ _ _ _ rfl rfl rfl rfl rfl (Hpcl4 _ _)) ?_;refine (least12_any _ 4 [cyl 4] 0 2 [0, 1, 0, 1] _ w6 HG2.out cy4_g (by decide) (by decide) cy4_02 W1.out).mono ?_;rintro e1 w7 ⟨rfl, hb⟩;refine ⟨_, rfl, ?_⟩;go_frame;replace AV := ι (AV.out.below hb);replace HG2 := ι (HG2.out.below hb);replace W1 := ι (W1.out.below hb);replace K := ι (Rg.acc K.out hb);clear hb;refine Rg.lr 18 (Rg.xm (.bool true) _ rfl rfl) ?_;go_frame;refine listW_ask (some 19) rfl rfl _ _ (exec_fn0 64 _ rfl (Hpcl5 _ _)) ?_;refine (two12_any w7).mono ?_;rintro e1 w8 ⟨gb, gm, ge, rfl, hgs, hb⟩;refine ⟨_, rfl, ?_⟩;go_frame;replace AV := ι (AV.out.below hb)
 replace HG2 := ι (HG2.out.below hb);replace W1 := ι (W1.out.below hb);replace K := ι (Rg.acc K.out hb);clear hb;have G2 := ι hgs.rows;have hnew := ints_new w8 3 [0, 0, 0, 0] (by decide);refine listW_run (some 20) rfl rfl (exec_flat _ _ 4 _ rfl [0, 0, 0, 0] Try.underlying22 szInt zInt rfl (by decide) (by decide) rfl) ?_;go_frame;have hb := (Below.refl w8.heap.size w8).alloc (Nat.le_refl _) (.cells (([0, 0, 0, 0] : List Int).map (Value.int .i64)).toArray 3);generalize w8.alloc (.cells (([0, 0, 0, 0] : List Int).map (Value.int .i64)).toArray 3) = w9 at *;replace AV := ι (AV.out.below hb);replace HG2 := ι (HG2.out.below hb);replace W1 := ι (W1.out.below hb);replace G2 := ι (G2.out.below hb);replace K := ι (Rg.acc K.out hb);clear hb;have W2 := ι hnew;clear hnew;refine listW_ask (some 21) rfl rfl _ _ (exec_fn4 62 _ _ _ _ _ rfl rfl rfl rfl rfl (Hpcl4 _ _)) ?_;refine (least12_any _ 4 gs2 0 2 [0, 0, 0, 0] _ w9 G2.out gs2_g (by decide) (by decide) gs2_02 W2.out).mono ?_
 rintro e1 w10 ⟨rfl, hb⟩;refine ⟨_, rfl, ?_⟩;go_frame;replace AV := ι (AV.out.below hb);replace HG2 := ι (HG2.out.below hb);replace W1 := ι (W1.out.below hb);replace G2 := ι (G2.out.below hb);replace W2 := ι (W2.out.below hb);replace K := ι (Rg.acc K.out hb);clear hb;refine Rg.lr 22 (exec_pickT (v := .bool true) _ _ _ rfl rfl rfl) ?_;go_frame;refine Rg.lr 23 (Rg.xm (.bool true) _ rfl rfl) ?_;go_frame;refine listW_run (some 24) rfl rfl (Rg.xm (.int .i64 0) _ rfl rfl) ?_;go_frame;refine listW_run (some 25) rfl rfl (exec_eqI _ _ rfl rfl rfl rfl) ?_;go_frame;refine Rg.lr 26 (exec_pickT (v := .bool true) _ _ _ rfl rfl rfl) ?_;go_frame;refine Rg.lr 27 (Rg.xm (.bool true) _ rfl rfl) ?_;go_frame;refine listW_run (some 28) rfl rfl (Rg.xm (v) _ rfl rfl) ?_;go_frame;have hnew := ints_new w10 3 [0, 0, 0, 0] (by decide);refine listW_run (some 29) rfl rfl (exec_flat _ _ 4 _ rfl [0, 0, 0, 0] Try.underlying22 szInt zInt rfl (by decide) (by decide) rfl) ?_;go_frame
 have hb := (Below.refl w10.heap.size w10).alloc (Nat.le_refl _) (.cells (([0, 0, 0, 0] : List Int).map (Value.int .i64)).toArray 3);generalize w10.alloc (.cells (([0, 0, 0, 0] : List Int).map (Value.int .i64)).toArray 3) = w11 at *;replace AV := ι (AV.out.below hb);replace HG2 := ι (HG2.out.below hb);replace W1 := ι (W1.out.below hb);replace G2 := ι (G2.out.below hb);replace W2 := ι (W2.out.below hb);replace K := ι (Rg.acc K.out hb);clear hb;have W3 := ι hnew;clear hnew;have hnew := ints_new w11 3 [0, 1, 0, 1] (by decide);refine listW_run (some 30) rfl rfl (exec_flat _ _ 4 _ rfl [0, 1, 0, 1] Try.underlying22 szInt zInt rfl (by decide) (by decide) rfl) ?_;go_frame;have hb := (Below.refl w11.heap.size w11).alloc (Nat.le_refl _) (.cells (([0, 1, 0, 1] : List Int).map (Value.int .i64)).toArray 3);generalize w11.alloc (.cells (([0, 1, 0, 1] : List Int).map (Value.int .i64)).toArray 3) = w12 at *
 replace AV := ι (AV.out.below hb);replace HG2 := ι (HG2.out.below hb);replace W1 := ι (W1.out.below hb);replace G2 := ι (G2.out.below hb);replace W2 := ι (W2.out.below hb);replace W3 := ι (W3.out.below hb);replace K := ι (Rg.acc K.out hb);clear hb;have W4 := ι hnew;clear hnew;have hnew := ints_new w12 3 [0, 1, 2, 3] (by decide);refine listW_run (some 31) rfl rfl (exec_flat _ _ 4 _ rfl [0, 1, 2, 3] Try.underlying22 szInt zInt rfl (by decide) (by decide) rfl) ?_;go_frame;have hb := (Below.refl w12.heap.size w12).alloc (Nat.le_refl _) (.cells (([0, 1, 2, 3] : List Int).map (Value.int .i64)).toArray 3);generalize w12.alloc (.cells (([0, 1, 2, 3] : List Int).map (Value.int .i64)).toArray 3) = w13 at *;replace AV := ι (AV.out.below hb);replace HG2 := ι (HG2.out.below hb);replace W1 := ι (W1.out.below hb);replace G2 := ι (G2.out.below hb);replace W2 := ι (W2.out.below hb);replace W3 := ι (W3.out.below hb)
 replace W4 := ι (W4.out.below hb);replace K := ι (Rg.acc K.out hb);clear hb;have W5 := ι hnew;clear hnew;have hr3 := rows3_new W3.out W4.out W5.out 22;refine listW_run (some 32) rfl rfl (exec_buildL3 (u1 := .slice (some ⟨w10.heap.size, 0, none⟩) 4 4) (u2 := .slice (some ⟨w11.heap.size, 0, none⟩) 4 4) (u3 := .slice (some ⟨w12.heap.size, 0, none⟩) 4 4) _ _ _ rfl rfl rfl rfl (run_buildL3 w13 _ _ _ ⟨_, _, _, rfl⟩ ⟨_, _, _, rfl⟩ ⟨_, _, _, rfl⟩)) ?_;go_frame;have hb := (Below.refl w13.heap.size w13).alloc (Nat.le_refl _) (.cells #[.slice (some ⟨w10.heap.size, 0, none⟩) 4 4, .slice (some ⟨w11.heap.size, 0, none⟩) 4 4, .slice (some ⟨w12.heap.size, 0, none⟩) 4 4] 22);generalize w13.alloc (.cells #[.slice (some ⟨w10.heap.size, 0, none⟩) 4 4, .slice (some ⟨w11.heap.size, 0, none⟩) 4 4, .slice (some ⟨w12.heap.size, 0, none⟩) 4 4] 22) = w14 at *;replace AV := ι (AV.out.below hb);replace HG2 := ι (HG2.out.below hb)
 replace W1 := ι (W1.out.below hb);replace G2 := ι (G2.out.below hb);replace W2 := ι (W2.out.below hb);replace W3 := ι (W3.out.below hb);replace W4 := ι (W4.out.below hb);replace W5 := ι (W5.out.below hb);replace K := ι (Rg.acc K.out hb);clear hb;have R3 := ι hr3;clear hr3;refine listW_ask (some 33) rfl rfl _ _ (exec_fn 41 _ _ _ rfl rfl rfl (Hpcl6 _ _)) ?_;refine (SameLists_b AV.out R3.out (ι (decide_eq_true rfl))).mono ?_;rintro e1 w15 ⟨rfl, hb⟩;refine ⟨_, rfl, ?_⟩;go_frame;replace AV := ι (AV.out.below hb);replace HG2 := ι (HG2.out.below hb);replace W1 := ι (W1.out.below hb);replace G2 := ι (G2.out.below hb);replace W2 := ι (W2.out.below hb);replace W3 := ι (W3.out.below hb);replace W4 := ι (W4.out.below hb);replace W5 := ι (W5.out.below hb);replace R3 := ι (R3.out.below hb);replace K := ι (Rg.acc K.out hb);clear hb;refine Rg.lr 34 (exec_pickT (v := .bool true) _ _ _ rfl rfl rfl) ?_;go_frame
 refine Rg.lr 35 (Rg.xm (.bool true) _ rfl rfl) ?_;go_frame;refine listW_run (some 36) rfl rfl (Rg.xm (.bool true) _ rfl rfl) ?_;go_frame;refine Rg.lr 37 (exec_pickT (v := .bool true) _ _ _ rfl rfl rfl) ?_;go_frame;refine Rg.lr 38 (Rg.xm (.bool true) _ rfl rfl) ?_;go_frame;refine listW_run (some 39) rfl rfl (Rg.xm (.int .i64 0) _ rfl rfl) ?_;go_frame;refine listW_run (some 40) rfl rfl (exec_eqI _ _ rfl rfl rfl rfl) ?_;go_frame;refine Rg.lr 41 (exec_pickT (v := .bool true) _ _ _ rfl rfl rfl) ?_;go_frame;refine Rg.lr 0 (Rg.xa (.bool true) _ rfl rfl) ?_;go_frame;go_wp2;go_ret;exact ⟨rfl, K.out⟩
structure NpI (w : World) (v : Value) (l : List Int) : Prop where
 i : Rg.Ints w v l
theorem NpI.below {w w' : World} {v : Value} {l : List Int} (h : NpI w v l) (hb : Below w.heap.size w w') : NpI w' v l := ⟨h.i.below hb⟩
theorem BlockLeast_any (gv : Value) (d : Int) (ll : List (List Int)) (a b : Int) (w : World) (h : Rg.RowsB maxLen w gv ll) :
  Calls Try.prog 11 #[.agg #[.int .i64 d, gv], .int .i64 a, .int .i64 b] w fun e w' => e = .returned (.bool true) ∧ Below w.heap.size w w' := by
 obtain ⟨ga, gc, rfl, _⟩ := h.shape;have H := ι h;have hbx := box2b w (.int .i64 d) (.slice ga ll.length gc);clear h
 go_enter Try.func11, Try.ntmps11
 go_upto_region 0 with (fail);refine wp_region_list ?_;refine Rg.lr 3 (Rg.exec_box _ _ rfl rfl) ?_;go_frame;have hb : Below w.heap.size w (w.alloc (.cells #[.int .i64 d, .slice ga ll.length gc] 26)) := (Below.refl _ _).alloc (Nat.le_refl _) _;generalize w.alloc (.cells #[.int .i64 d, .slice ga ll.length gc] 26) = w1 at *;have A0 := ι hbx.1;have A1 := ι hbx.2;have K := ι hb;replace H := ι (RowsB.lowb H.out hb);clear hbx hb;refine Rg.lr 6 (Rg.xa (.bool false) _ rfl rfl) ?_;go_frame;obtain ⟨bl, hbl⟩ : ∃ b, Hid (bg12 d ll = b) := ⟨_, ι rfl⟩
 cases bl with
 | true =>
  go_upto_region 1 with (fail);refine wp_region_list ?_;refine Rg.lr 11 (Rg.exec_load (v := .agg #[.int .i64 d, .slice ga ll.length gc]) _ _ rfl ⟨w.heap.size, 0, none⟩ rfl (run_loadG A0.out.cell A1.out.cell)) ?_;go_frame;refine list_ask (some 12) rfl rfl _ _ (exec_fn1 52 _ _ rfl rfl (Hpcl7 _ _)) ?_;refine (big12_any _ d ll w1 H.out).mono ?_;rintro e1 w2 ⟨rfl, hb⟩;rw [hbl.out];refine ⟨_, rfl, ?_⟩;go_frame;replace A0 := ι (A0.out.below hb);replace A1 := ι (A1.out.below hb);replace H := ι (H.out.below hb);replace K := ι (Rg.acc K.out hb);clear hb;go_upto_region 2 with (fail);refine wp_region_list ?_;refine list_ask (some 13) rfl rfl _ _ (exec_fn0 53 _ rfl (Hpcl8 _ _)) ?_;refine (awake12_any w2).mono ?_;rintro e1 w3 ⟨rfl, hb⟩;refine ⟨_, rfl, ?_⟩;go_frame;replace A0 := ι (A0.out.below hb);replace A1 := ι (A1.out.below hb);replace H := ι (H.out.below hb);replace K := ι (Rg.acc K.out hb);clear hb
  refine Rg.lr 6 (Rg.xa (.bool true) _ rfl rfl) ?_;go_frame;go_wp2;go_ret;exact ⟨rfl, K.out⟩
 | false =>
  go_upto_region 1 with (fail);refine wp_region_list ?_;refine Rg.lr 11 (Rg.exec_load (v := .agg #[.int .i64 d, .slice ga ll.length gc]) _ _ rfl ⟨w.heap.size, 0, none⟩ rfl (run_loadG A0.out.cell A1.out.cell)) ?_;go_frame;refine list_ask (some 12) rfl rfl _ _ (exec_fn1 52 _ _ rfl rfl (Hpcl7 _ _)) ?_;refine (big12_any _ d ll w1 H.out).mono ?_;rintro e1 w2 ⟨rfl, hb⟩;rw [hbl.out];refine ⟨_, rfl, ?_⟩;go_frame;replace A0 := ι (A0.out.below hb);replace A1 := ι (A1.out.below hb);replace H := ι (H.out.below hb);replace K := ι (Rg.acc K.out hb);clear hb
  have hlg : lg ll = false := by
   have := hbl.out;unfold bg12 at this;rw [Bool.or_eq_false_iff] at this;exact this.1
  obtain ⟨hs1, hs2⟩ := lg_small hlg;have HR := ι (show Rg.Rows w2 (.slice ga ll.length gc) ll from H.out.small (by omega) (fun l hl => by have := hs2 l hl; omega));obtain ⟨ck, hck⟩ : ∃ ck, Hid (lsC d ll a b = ck) := ⟨_, ι rfl⟩;clear H hlg hs2;go_upto_region 3 with (fail);refine wp_region_list ?_;refine Rg.lr 15 (Rg.exec_load (v := .agg #[.int .i64 d, .slice ga ll.length gc]) _ _ rfl ⟨w.heap.size, 0, none⟩ rfl (run_loadG A0.out.cell A1.out.cell)) ?_;go_frame;refine Rg.lr 16 (Rg.xm (.int .i64 a) _ rfl rfl) ?_;go_frame;refine Rg.lr 17 (Rg.xm (.int .i64 b) _ rfl rfl) ?_;go_frame;refine list_ask (some 18) rfl rfl _ _ (exec_fn3 54 _ _ _ _ rfl rfl rfl rfl (Hocl4 _ _)) ?_;refine (Least_any _ d ll a b w2 HR.out).mono ?_;rintro e1 w3 ⟨xv, rfl, hx, hb⟩;rw [hck.out];refine ⟨_, rfl, ?_⟩;go_frame;replace A0 := ι (A0.out.below hb);replace A1 := ι (A1.out.below hb);replace HR := ι (HR.out.below hb);replace K := ι (Rg.acc K.out hb)
  clear hb;have XA := ι hx;refine Rg.lr 14 (Rg.xm (.tuple #[xv, .int .i64 ck]) _ rfl rfl) ?_;go_frame;refine Rg.lr 19 (exec_extract (v := xv) _ _ rfl rfl rfl) ?_;go_frame;refine Rg.lr 20 (exec_extract (v := .int .i64 ck) _ _ rfl rfl rfl) ?_;go_frame;refine Rg.lr 7 (Rg.xa (xv) _ rfl rfl) ?_;go_frame;refine Rg.lr 8 (Rg.xa (.int .i64 ck) _ rfl rfl) ?_;go_frame;go_upto_region 4 with (fail);refine wp_region_list ?_;refine Rg.lr 22 (Rg.exec_load (v := .agg #[.int .i64 d, .slice ga ll.length gc]) _ _ rfl ⟨w.heap.size, 0, none⟩ rfl (run_loadG A0.out.cell A1.out.cell)) ?_;go_frame;refine Rg.lr 23 (Rg.xm (.int .i64 a) _ rfl rfl) ?_;go_frame;refine Rg.lr 24 (Rg.xm (.int .i64 b) _ rfl rfl) ?_;go_frame;refine list_ask (some 25) rfl rfl _ _ (exec_fn3 55 _ _ _ _ rfl rfl rfl rfl (Hpcl10 _ _)) ?_;refine (refLeast_any _ d ll a b w3 HR.out).mono ?_;rintro e1 w4 ⟨yv, rfl, hy, hb⟩;rw [hck.out];refine ⟨_, rfl, ?_⟩
  go_frame;replace A0 := ι (A0.out.below hb);replace A1 := ι (A1.out.below hb);replace HR := ι (HR.out.below hb);replace XA := ι (XA.out.below hb);replace K := ι (Rg.acc K.out hb);clear hb;have YA := ι hy;refine Rg.lr 21 (Rg.xm (.tuple #[yv, .int .i64 ck]) _ rfl rfl) ?_;go_frame;refine Rg.lr 26 (exec_extract (v := yv) _ _ rfl rfl rfl) ?_;go_frame;refine Rg.lr 27 (exec_extract (v := .int .i64 ck) _ _ rfl rfl rfl) ?_;go_frame;refine Rg.lr 9 (Rg.xa (yv) _ rfl rfl) ?_;go_frame;refine Rg.lr 10 (Rg.xa (.int .i64 ck) _ rfl rfl) ?_;go_frame;clear hx hy;obtain ⟨l, hl1, hl2⟩ := XA.out.both YA.out;have LX := ι (NpI.mk hl1);have LY := ι (NpI.mk hl2);clear hl1 hl2 XA YA;go_upto_region 5 with (fail);refine wp_region_list ?_;refine Rg.lr 28 (Rg.xm (xv) _ rfl rfl) ?_;go_frame;refine Rg.lr 29 (Rg.xm (yv) _ rfl rfl) ?_;go_frame;refine list_ask (some 30) rfl rfl _ _ (exec_fn 42 _ _ _ rfl rfl rfl (Hocl5 _ _)) ?_
  refine (Same_any LX.out.i LY.out.i (ι (decide_eq_true rfl)) (Below.refl _ _)).mono ?_;rintro e1 w5 ⟨rfl, hb⟩;refine ⟨_, rfl, ?_⟩;go_frame;replace A0 := ι (A0.out.below hb);replace A1 := ι (A1.out.below hb);replace HR := ι (HR.out.below hb);replace LX := ι (LX.out.below hb);replace LY := ι (LY.out.below hb);replace K := ι (Rg.acc K.out hb);clear hb;refine Rg.lr 31 (Rg.xm (.bool true) _ rfl rfl) ?_;go_frame;refine listW_run (some 32) rfl rfl (Rg.xm (.int .i64 ck) _ rfl rfl) ?_;go_frame;refine listW_run (some 33) rfl rfl (Rg.xm (.int .i64 ck) _ rfl rfl) ?_;go_frame;refine listW_run (some 34) rfl rfl (exec_eqI _ _ rfl rfl rfl rfl) ?_;go_frame;refine Rg.lr 35 (exec_pickT (v := .bool true) _ _ _ rfl rfl rfl) ?_;go_frame;refine Rg.lr 36 (Rg.xm (.bool true) _ rfl rfl) ?_;go_frame;refine listW_ask (some 37) rfl rfl _ _ (exec_fn0 53 _ rfl (Hpcl8 _ _)) ?_;refine (awake12_any w5).mono ?_;rintro e1 w6 ⟨rfl, hb⟩
  refine ⟨_, rfl, ?_⟩;go_frame;replace A0 := ι (A0.out.below hb);replace A1 := ι (A1.out.below hb);replace HR := ι (HR.out.below hb);replace LX := ι (LX.out.below hb);replace LY := ι (LY.out.below hb);replace K := ι (Rg.acc K.out hb);clear hb;refine Rg.lr 38 (exec_pickT (v := .bool true) _ _ _ rfl rfl rfl) ?_;go_frame;refine Rg.lr 6 (Rg.xa (.bool true) _ rfl rfl) ?_;go_frame;go_wp2;go_ret;exact ⟨rfl, K.out⟩
end Go.Proofs.Ytcfomoknlchemaa

set_option linter.unusedVariables false
namespace Go.Proofs.Ytcfomoknlchemaa
open Go.RowKit
open Go.Proofs
open Go.ChangeShapes Go.WideShapes Go.Deep Go.Joins
attribute [local irreducible] Go.Calls
section
variable {H : Type} {enc : TypeId × Value → H}
theorem readG {W : World} {base : Nat} {r : Reach} {v : Value} {d : DataW H} {p : List MemPlace} (hv : Value.okWide Try.prog W r base 26 v) (h : DataW.Trod enc Try.prog W 0 (fun _ => true) true 26 v d p) :
  ∃ (dd : Int) (gv : Value) (ll : List (List Int)), v = .agg #[.int .i64 dd, gv] ∧ Rg.RowsB maxLen W gv ll := by
 obtain ⟨c0, c1, y0, y1, m, rfl, rfl, rfl, hy0, hy1⟩ := open_agg2 Try.underlying26 (by kernel_rfl) cells24 hv h;obtain ⟨a, e0, _, _⟩ := DataW.trod_int Try.underlying3 hy0;simp at e0;subst e0
 rcases open_int_rows Try.underlying24 Try.underlying39 Try.underlying3 cells39 cells3 hy1 with ⟨hcs, _⟩ | ⟨a1, len, cap, A, L, C, Z, hcs, _, hl, hm, _, hrow⟩
 ·obtain rfl : c1 = .slice none 0 0 := by simpa using hcs
  exact ⟨a, _, [], rfl, [], ⟨none, 0, rfl, by simp, Nat.zero_le _, by simp, fun h => by simp at h⟩, rfl, fun i h => by simp at h⟩
 ·obtain rfl : c1 = .slice (some a1) len cap := by simpa using hcs
  refine ⟨a, _, (List.range len).map fun r => (Z r).take (L r), rfl, (List.range len).map fun r => .slice (A r) (L r) (C r), ⟨some a1, cap, by simp, by simp; exact hl, hm, by simp; omega, fun h0 => ?_⟩, by simp, fun i h1 h2 => ?_⟩
  ·simp only [List.length_map, List.length_range] at h0
   obtain ⟨hc0, _⟩ := hrow 0 (by omega)
   have ha : a1 = ⟨a1.block, a1.off, none⟩ := by
    have := spot_none (a := a1) (by simpa [Addr.add] using hc0)
    cases a1; simp at this; subst this; rfl
   refine ⟨a1.block, a1.off, by rw [← ha], lt_of_cell (a := a1) (by simpa [Addr.add] using hc0), fun i hi => ?_⟩;simp only [List.length_map, List.length_range] at hi;rw [← add_none ha i, (hrow i (by omega)).1];simp
  ·simp only [List.length_map, List.length_range] at h1
   simp only [List.getElem_map, List.getElem_range];obtain ⟨_, hLC, hCm, hZ, _, hn, hcell⟩ := hrow i (by omega)
   have hlen : ((Z i).take (L i)).length = L i := by rw [List.length_take]; omega
   refine ⟨A i, C i, by rw [List.length_map, hlen], by rw [List.length_map, hlen]; exact hLC, hCm, by rw [List.length_map, hlen]; omega, fun h0 => ?_⟩;rw [List.length_map, hlen] at h0
   cases hA : A i with
   | none => have := hn hA; omega
   | some a' =>
    obtain ⟨_, hcl⟩ := hcell a' hA;have hc0 := hcl 0 (by omega)
    have ha : a' = ⟨a'.block, a'.off, none⟩ := by
     have := spot_none (a := a') (by simpa [Addr.add] using hc0)
     cases a'; simp at this; subst this; rfl
    refine ⟨a'.block, a'.off, by rw [← ha], lt_of_cell (a := a') (by simpa [Addr.add] using hc0), fun c hc => ?_⟩;rw [List.length_map, hlen] at hc;rw [← add_none ha c, hcl c (by omega)];simp [List.getD, List.getElem?_eq_getElem (show c < (Z i).length by omega)]
end
end Go.Proofs.Ytcfomoknlchemaa
