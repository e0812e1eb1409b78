/- Lemmas and contracts on the way to the statement; no condition of their own beyond those written. -/
import Derived.Test.YtcfomoknlchemaaXYltoZe
import Derived.Deep.LoopGhost
import Derived.Lib.SlicesSearch
import Derived.Lib.ConvBytes
import Derived.Deep.CutRange
import Derived.Deep.CutBlock
import Derived.IntWalk
import Derived.Great.BuildSlice
import Derived.ArgAppend
import Derived.Laws.CopyOwn
import Derived.StillTailTactics
import Derived.Deep.MidRow
import Derived.WalkSpells
import Derived.WalkLawsBesides
import Derived.Maps.AppendAt
import Derived.OwnWalk
import Derived.OrdersHeld
import Derived.Deep.OwnRows
import Derived.WalkKit
import Derived.Lib.Hide
import Derived.Laws.OwnMore
import Derived.Test.YtcfomoknlchemaaProg
import Derived.Outline
import Derived.Deep.DeepFit
import Derived.BigQuiet
import Derived.Deep.QuietTactic
import Derived.Sort.OwnSortedInts
import Derived.WideMake
import Derived.MapKept
import Derived.ChangeMaps5
import Derived.Shelf.Sort.Plain
import Derived.RangeFuncBox
import Derived.RangeFuncLeaves
import Derived.Shelf.Abstract
import Derived.OwnWalkIn
import Derived.TacticsInMore
import Derived.LoopNIn
import Derived.LoopIn
import Derived.RangeFuncWrites
import Derived.RangeFuncNested
import Derived.Sort.CutIn
import Derived.ChangeKeysEq
import Derived.Laws.Cells
import Derived.Laws.Rows
import Derived.Laws.Tables
import Derived.Deep.WholeRow
import Derived.OrdersIn
import Derived.TacticsIn
set_option linter.unusedVariables false
set_option linter.unusedSimpArgs false
set_option maxRecDepth 100000
set_option maxHeartbeats 8000000
namespace Go.Proofs.Ytcfomoknlchemaa
open Go.RowKit
open Go.Proofs
open Go.Proofs.Ob
open Go.Shelf
open Go.Proofs.Cm (Gd)
attribute [local go_sem] Oper.semAt_some
attribute [local irreducible] Go.Calls Go.wpList Go.wpListIn
structure BeI (w : World) (n m : Int) (ov rv ov' rv' : Value) (W : World) (bv : Bool) (c : Int) : Prop where
 bel : Below w.heap.size w W
 a0 : CL W w.heap.size 0 (.int .i64 n)
 a1 : CL W w.heap.size 1 ov
 a2 : CL W w.heap.size 2 rv
 b0 : CL W (w.heap.size + 1) 0 (.int .i64 m)
 b1 : CL W (w.heap.size + 1) 1 ov'
 b2 : CL W (w.heap.size + 1) 2 rv'
 c4 : CW W (w.heap.size + 2) (.bool bv)
 c5 : CW W (w.heap.size + 3) (.int .i64 c)
theorem BeI.below {w : World} {n m : Int} {ov rv ov' rv' : Value} {W W' : World} {bv : Bool} {c : Int} (h : BeI w n m ov rv ov' rv' W bv c) (hb : Below W.heap.size W W') : BeI w n m ov rv ov' rv' W' bv c :=
 ⟨h.bel.trans (hb.mono h.bel.size), h.a0.up hb, h.a1.up hb, h.a2.up hb, h.b0.up hb, h.b1.up hb, h.b2.up hb, h.c4.below hb, h.c5.below hb⟩
theorem BeI.keep {w : World} {n m : Int} {ov rv ov' rv' : Value} {W W' : World} {bv : Bool} {c : Int} {row : Option Nat} {B : Nat} (h : BeI w n m ov rv ov' rv' W bv c) (hB : w.heap.size + 4 ≤ B) (hg : W.grownBy W' row) (hr : ∀ r, row = some r → B ≤ r ∧ ∃ o : Obj, W.heap[r]? = some o ∧ o.isCells = false) : BeI w n m ov rv ov' rv' W' bv c := by
 have hk : Rg.Kp (fun k => row = some k) W W' := Rg.Kp.of_grown hg fun _ e => e
 have hM : ∀ b, b < B → ¬ row = some b := fun b hb e => by have := (hr b e).1; omega
 exact ⟨h.bel.grown hg h.bel.size (fun k e => by have := (hr k e).1; omega), h.a0.kp hk (hM _ (by omega)), h.a1.kp hk (hM _ (by omega)), h.a2.kp hk (hM _ (by omega)), h.b0.kp hk (hM _ (by omega)), h.b1.kp hk (hM _ (by omega)), h.b2.kp hk (hM _ (by omega)), h.c4.kp hk (hM _ (by omega)), h.c5.kp hk (hM _ (by omega))⟩
theorem BeI.set {w : World} {n m : Int} {ov rv ov' rv' : Value} {W : World} {bv : Bool} {c : Int} (h : BeI w n m ov rv ov' rv' W bv c) (bv' : Bool) (c' : Int) : BeI w n m ov rv ov' rv' ((W.setCell ⟨w.heap.size + 2, 0, none⟩ (.bool bv')).setCell ⟨w.heap.size + 3, 0, none⟩ (.int .i64 c')) bv' c' := by
 have hk1 : Rg.Kp (fun z => z = w.heap.size + 2) W (W.setCell ⟨w.heap.size + 2, 0, none⟩ (.bool bv')) := Rg.Kp.of_setCell rfl;have hk2 : Rg.Kp (fun z => z = w.heap.size + 3) (W.setCell ⟨w.heap.size + 2, 0, none⟩ (.bool bv')) ((W.setCell ⟨w.heap.size + 2, 0, none⟩ (.bool bv')).setCell ⟨w.heap.size + 3, 0, none⟩ (.int .i64 c')) := Rg.Kp.of_setCell rfl
 exact ⟨(h.bel.setCell (p := ⟨w.heap.size + 2, 0, none⟩) (by show w.heap.size ≤ w.heap.size + 2; omega) _).setCell (p := ⟨w.heap.size + 3, 0, none⟩) (by show w.heap.size ≤ w.heap.size + 3; omega) _,
  (h.a0.kp hk1 (by omega)).kp hk2 (by omega), (h.a1.kp hk1 (by omega)).kp hk2 (by omega), (h.a2.kp hk1 (by omega)).kp hk2 (by omega), (h.b0.kp hk1 (by omega)).kp hk2 (by omega), (h.b1.kp hk1 (by omega)).kp hk2 (by omega), (h.b2.kp hk1 (by omega)).kp hk2 (by omega), (h.c4.set _).other _ (by omega), (h.c5.other _ (by omega)).set _⟩
def BePost (n : Int) (OO : List (List Int)) (RR : List (List (List Int))) (m : Int) (OO' : List (List Int)) (RR' : List (List (List Int))) (w : World) (e : Ending) (w' : World) : Prop := e = .returned (.tuple #[.bool (belA n OO RR m OO' RR'), .int .i64 (belC n OO RR m OO' RR')]) ∧ Below w.heap.size w w'
theorem be_leave {n m : Int} {OO OO' : List (List Int)} {RR RR' : List (List (List Int))} {ov rv ov' rv' : Value} {w W : World} {tmps : Array Value} {b : Bool} {c : Int} {ds : List Nat} (h : BeI w n m ov rv ov' rv' W b c) (hb : belA n OO RR m OO' RR' = b) (hc : belC n OO RR m OO' RR' = c) (p4 : tmps.getD 4 undef = .pointer (some ⟨w.heap.size + 2, 0, none⟩)) (p5 : tmps.getD 5 undef = .pointer (some ⟨w.heap.size + 3, 0, none⟩)) (hnd : ds.Nodup) (hD : ∀ D, D ∈ ds → RF.Dfr D W ∧ w.heap.size ≤ D) :
  LeavesInM Fence.wide 0 Try.prog Try.f70 tmps (BePost n OO RR m OO' RR' w) (ds.map RF.mark) .returning W :=
 RF.leaves w.heap.size ds W hnd hD fun W' l1 l2 _ => ⟨_, results_cells2 rfl _ p4 p5 (run_loadBool ((l2 _).trans h.c4.c)) (run_loadE ((l2 _).trans h.c5.c)), by rw [hb, hc], h.bel.trans l1⟩
theorem belA_bad {n m : Int} {OO OO' : List (List Int)} {RR RR' : List (List (List Int))} (h : ¬ belC n OO RR m OO' RR' = 0) : belA n OO RR m OO' RR' = false := if_neg h
theorem belA_val {N : Nat} {O O' : List (List Nat)} {R R' : List (List (List Nat))} (h : belC ((N : Nat) : Int) (O.map Ma.ofN) (R.map (List.map Ma.ofN)) ((N : Nat) : Int) (O'.map Ma.ofN) (R'.map (List.map Ma.ofN)) = 0) :
  belA ((N : Nat) : Int) (O.map Ma.ofN) (R.map (List.map Ma.ofN)) ((N : Nat) : Int) (O'.map Ma.ofN) (R'.map (List.map Ma.ofN)) = R.flatten.all (fun x => decide ((siC N O' R' x).1 = N)) := by
 unfold belA;rw [if_pos h, flat_map_ofN, List.all_map]
 congr 1
 funext x
 simp only [Function.comp];rw [siZ_eq];exact decide_eq_decide.2 (by omega)
def BeR (N : Nat) (R : List (List (List Nat))) (O' : List (List Nat)) (R' : List (List (List Nat))) {k : Nat} (pre : List (Fin k)) : Prop := ∀ z ∈ pre, ∀ x ∈ R.getD z.1 [], (siC N O' R' x).1 = N
theorem BeR.all {N : Nat} {R : List (List (List Nat))} {O' : List (List Nat)} {R' : List (List (List Nat))} {k : Nat} (hk : R.length = k) (h : BeR N R O' R' (finTo k k)) : R.flatten.all (fun x => decide ((siC N O' R' x).1 = N)) = true := by
 rw [List.all_eq_true];intro x hx;obtain ⟨r, hr, hx⟩ := List.mem_flatten.1 hx;obtain ⟨i, hi, rfl⟩ := List.getElem_of_mem hr;rw [finTo_all] at h;have := h ⟨i, hk ▸ hi⟩ (List.mem_finRange _) x (by rw [getD_inf hi]; exact hx)
 simpa using this
theorem be_no {N : Nat} {R : List (List (List Nat))} {O' : List (List Nat)} {R' : List (List (List Nat))} {x : List Nat} (hx : x ∈ R.flatten) (h : ¬ (siC N O' R' x).1 = N) : R.flatten.all (fun x => decide ((siC N O' R' x).1 = N)) = false := by
 rw [List.all_eq_false];exact ⟨x, hx, by simpa using h⟩
theorem chBelow_any {n m : Int} {ov rv ov' rv' : Value} {OO OO' : List (List Int)} {RR RR' : List (List (List Int))} {w : World} (h : ChEqR w ov rv OO RR) (h' : ChEqR w ov' rv' OO' RR') :
  Calls Try.prog 70 #[.agg #[.int .i64 n, ov, rv], .agg #[.int .i64 m, ov', rv']] w (BePost n OO RR m OO' RR' w) := by
 obtain ⟨oa, oc, rfl, -⟩ := h.1.shape;obtain ⟨ra, rc, rfl⟩ := h.2.shape;obtain ⟨oa', oc', rfl, -⟩ := h'.1.shape;obtain ⟨ra', rc', rfl⟩ := h'.2.shape;have HC := ι h;have HD := ι h';have HC0 := HC;have HR := ι h.2;have HE := HD;have K := ι (Below.refl w.heap.size w);clear h h';refine RF.calls_marks Try.func70 rfl ?_;simp only [Try.ntmps70, List.size_toArray, List.length_cons, List.length_nil, Nat.reduceAdd, Nat.reduceSub, Array.replicate_succ, Array.replicate_zero, List.push_toArray, List.append_toArray, List.nil_append, List.cons_append];have hs0 : w.heap.size = w.heap.size + 0 := rfl;go_upto_region 0 with (fail);refine wp_region_list ?_;have hbx := box3 w (.int .i64 n) (.slice oa OO.length oc) (.slice ra RR.length rc)
 have hs : (w.alloc (.cells #[.int .i64 n, .slice oa OO.length oc, .slice ra RR.length rc] 32)).heap.size = w.heap.size + 1 := by simp
 refine Rg.lr 2 (Rg.exec_box _ _ rfl rfl) ?_;go_frame;have hb := (Below.refl w.heap.size w).alloc (Nat.le_refl _) (.cells #[.int .i64 n, .slice oa OO.length oc, .slice ra RR.length rc] 32);generalize w.alloc (.cells #[.int .i64 n, .slice oa OO.length oc, .slice ra RR.length rc] 32) = w1 at *;replace HC := ι (HC.out.below hb);replace HD := ι (HD.out.below hb);replace K := ι (Rg.acc K.out hb);clear hb;have A0 := ι hbx.1;have A1 := ι hbx.2.1;have A2 := ι hbx.2.2
 have hs1 : w1.heap.size = w.heap.size + 1 := by omega
 clear hs;clear hbx;have hbx := box3 w1 (.int .i64 m) (.slice oa' OO'.length oc') (.slice ra' RR'.length rc')
 have hs : (w1.alloc (.cells #[.int .i64 m, .slice oa' OO'.length oc', .slice ra' RR'.length rc'] 32)).heap.size = w1.heap.size + 1 := by simp
 refine Rg.lr 3 (Rg.exec_box _ _ rfl rfl) ?_;go_frame;have hb := (Below.refl w1.heap.size w1).alloc (Nat.le_refl _) (.cells #[.int .i64 m, .slice oa' OO'.length oc', .slice ra' RR'.length rc'] 32);generalize w1.alloc (.cells #[.int .i64 m, .slice oa' OO'.length oc', .slice ra' RR'.length rc'] 32) = w2 at *;replace HC := ι (HC.out.below hb);replace HD := ι (HD.out.below hb);replace A0 := ι (A0.out.below hb);replace A1 := ι (A1.out.below hb);replace A2 := ι (A2.out.below hb);replace K := ι (Rg.acc K.out hb);clear hb;rw [hs1] at hbx ⊢
 have hs2 : w2.heap.size = w.heap.size + 2 := by omega
 clear hs;have E0 := ι hbx.1;have E1 := ι hbx.2.1;have E2 := ι hbx.2.2;clear hbx;have hnw := CW.new w2 (.bool false) 4
 have hs : (w2.alloc (.cells #[.bool false] 4)).heap.size = w2.heap.size + 1 := by simp
 refine Rg.lr 4 (exec_allocBo rfl) ?_;go_frame;have hb := (Below.refl w2.heap.size w2).alloc (Nat.le_refl _) (.cells #[.bool false] 4);generalize w2.alloc (.cells #[.bool false] 4) = w3 at *;replace HC := ι (HC.out.below hb);replace HD := ι (HD.out.below hb);replace A0 := ι (A0.out.below hb);replace A1 := ι (A1.out.below hb);replace A2 := ι (A2.out.below hb);replace E0 := ι (E0.out.below hb);replace E1 := ι (E1.out.below hb);replace E2 := ι (E2.out.below hb);replace K := ι (Rg.acc K.out hb);clear hb;rw [hs2] at hnw ⊢
 have hs3 : w3.heap.size = w.heap.size + 3 := by omega
 have C4 := ι hnw;clear hnw hs;have hnw := CW.new w3 (.int .i64 0) 33
 have hs : (w3.alloc (.cells #[.int .i64 0] 33)).heap.size = w3.heap.size + 1 := by simp
 refine Rg.lr 5 (exec_allocE rfl) ?_;go_frame;have hb := (Below.refl w3.heap.size w3).alloc (Nat.le_refl _) (.cells #[.int .i64 0] 33);generalize w3.alloc (.cells #[.int .i64 0] 33) = w4 at *;replace HC := ι (HC.out.below hb);replace HD := ι (HD.out.below hb);replace A0 := ι (A0.out.below hb);replace A1 := ι (A1.out.below hb);replace A2 := ι (A2.out.below hb);replace E0 := ι (E0.out.below hb);replace E1 := ι (E1.out.below hb);replace E2 := ι (E2.out.below hb);replace C4 := ι (C4.out.below hb);replace K := ι (Rg.acc K.out hb);clear hb;rw [hs3] at hnw ⊢
 have hs4 : w4.heap.size = w.heap.size + 4 := by omega
 have C5 := ι hnw;clear hnw hs;have BI := ι (show BeI w n m (.slice oa OO.length oc) (.slice ra RR.length rc) (.slice oa' OO'.length oc') (.slice ra' RR'.length rc') w4 false 0 from ⟨K.out, A0.out, A1.out, A2.out, E0.out, E1.out, E2.out, C4.out, C5.out⟩);clear A0 A1 A2 E0 E1 E2 C4 C5 hs0 hs1 hs2 hs3;obtain ⟨ck, hck⟩ : ∃ c, Hid (chCode n OO RR = c) := ⟨_, ι rfl⟩;obtain ⟨dk, hdk⟩ : ∃ c, Hid (chCode m OO' RR' = c) := ⟨_, ι rfl⟩;go_upto_region 1 with (fail);refine wp_region_list ?_;refine Rg.lr 14 (Rg.exec_load (v := (.agg #[.int .i64 n, .slice oa OO.length oc, .slice ra RR.length rc])) _ _ rfl ⟨w.heap.size, 0, none⟩ rfl (run_loadC3 BI.out.a0.cell BI.out.a1.cell BI.out.a2.cell)) ?_;go_frame;refine list_ask (some 15) rfl rfl _ _ (exec_fn1 33 _ _ rfl rfl (Xccl0 _ _)) ?_;refine (chCheck_c HC.out).mono ?_;rintro e1 w5 ⟨rfl, hb⟩;rw [hck.out];refine ⟨_, rfl, ?_⟩;go_frame;replace HC := ι (HC.out.below hb)
 replace HD := ι (HD.out.below hb);replace BI := ι (BI.out.below hb);replace K := ι (Rg.acc K.out hb);clear hb;refine Rg.lr 6 (Rg.xa (.int .i64 ck) _ rfl rfl) ?_;go_frame
 by_cases h0 : ck = 0
 case neg =>
  skip
  go_upto_region 2 with (fail);refine wp_region_list ?_;refine Rg.lr 16 (Rg.xm (.int .i64 ck) _ rfl rfl) ?_;go_frame;refine Rg.lr 17 (exec_bin (R := .bool true) .neq _ _ _ rfl rfl rfl (b_neqB _ (decide_eq_true h0))) ?_;go_frame;go_upto_region 3 with (fail);refine wp_region_list ?_;refine Rg.lr 18 (Rg.xm (.int .i64 ck) _ rfl rfl) ?_;go_frame;refine Rg.list_skip none rfl rfl (Rg.exec_store _ _ _ rfl _ rfl _ rfl (run_storeBool _ BI.out.c4.c BI.out.c4.f)) ?_;go_frame;refine Rg.list_skip none rfl rfl (Rg.exec_store _ _ _ rfl _ rfl _ rfl (run_storeE _ (BI.out.c5.other _ (by omega)).c (BI.out.c5.other _ (by omega)).f)) ?_;go_frame;have hbs := BI.out.set false ck;generalize (w5.setCell ⟨w.heap.size + 2, 0, none⟩ (.bool false)).setCell ⟨w.heap.size + 3, 0, none⟩ (.int .i64 ck) = w99 at *;have BX := ι hbs;have HV1 := ι (show belC n OO RR m OO' RR' = ck from (belC_one (by rw [hck.out]; exact h0)).trans hck.out)
  have HV2 := ι (show belA n OO RR m OO' RR' = false from belA_bad (by rw [HV1.out]; exact h0));clear hbs;go_wp2;exact be_leave (ds := []) BX.out HV2.out HV1.out rfl rfl (by simp) (fun D hD => by simp at hD)
 case pos =>
  have HZ := ι (hck.out.trans h0);go_upto_region 2 with (fail);refine wp_region_list ?_;refine Rg.lr 16 (Rg.xm (.int .i64 ck) _ rfl rfl) ?_;go_frame;refine Rg.lr 17 (exec_bin (R := .bool false) .neq _ _ _ rfl rfl rfl (b_neqB _ (decide_eq_false (fun e => e h0)))) ?_;go_frame;clear h0;go_upto_region 4 with (fail);refine wp_region_list ?_;refine Rg.lr 19 (Rg.exec_load (v := (.agg #[.int .i64 m, .slice oa' OO'.length oc', .slice ra' RR'.length rc'])) _ _ rfl ⟨(w.heap.size + 1), 0, none⟩ rfl (run_loadC3 BI.out.b0.cell BI.out.b1.cell BI.out.b2.cell)) ?_;go_frame;refine list_ask (some 20) rfl rfl _ _ (exec_fn1 33 _ _ rfl rfl (Xccl0 _ _)) ?_;refine (chCheck_c HD.out).mono ?_;rintro e1 w6 ⟨rfl, hb⟩;rw [hdk.out];refine ⟨_, rfl, ?_⟩;go_frame;replace HC := ι (HC.out.below hb);replace HD := ι (HD.out.below hb);replace BI := ι (BI.out.below hb);replace K := ι (Rg.acc K.out hb);clear hb;refine Rg.lr 7 (Rg.xa (.int .i64 dk) _ rfl rfl) ?_;go_frame
  by_cases h1 : dk = 0
  case neg =>
   skip
   go_upto_region 5 with (fail);refine wp_region_list ?_;refine Rg.lr 21 (Rg.xm (.int .i64 dk) _ rfl rfl) ?_;go_frame;refine Rg.lr 22 (exec_bin (R := .bool true) .neq _ _ _ rfl rfl rfl (b_neqB _ (decide_eq_true h1))) ?_;go_frame;go_upto_region 6 with (fail);refine wp_region_list ?_;refine Rg.lr 23 (Rg.xm (.int .i64 dk) _ rfl rfl) ?_;go_frame;refine Rg.list_skip none rfl rfl (Rg.exec_store _ _ _ rfl _ rfl _ rfl (run_storeBool _ BI.out.c4.c BI.out.c4.f)) ?_;go_frame;refine Rg.list_skip none rfl rfl (Rg.exec_store _ _ _ rfl _ rfl _ rfl (run_storeE _ (BI.out.c5.other _ (by omega)).c (BI.out.c5.other _ (by omega)).f)) ?_;go_frame;have hbs := BI.out.set false dk;generalize (w6.setCell ⟨w.heap.size + 2, 0, none⟩ (.bool false)).setCell ⟨w.heap.size + 3, 0, none⟩ (.int .i64 dk) = w99 at *;have BX := ι hbs;have HV1 := ι (show belC n OO RR m OO' RR' = dk from (belC_two HZ.out (by rw [hdk.out]; exact h1)).trans hdk.out)
   have HV2 := ι (show belA n OO RR m OO' RR' = false from belA_bad (by rw [HV1.out]; exact h1));clear hbs;go_wp2;exact be_leave (ds := []) BX.out HV2.out HV1.out rfl rfl (by simp) (fun D hD => by simp at hD)
  case pos =>
   have HY := ι (hdk.out.trans h1);go_upto_region 5 with (fail);refine wp_region_list ?_;refine Rg.lr 21 (Rg.xm (.int .i64 dk) _ rfl rfl) ?_;go_frame;refine Rg.lr 22 (exec_bin (R := .bool false) .neq _ _ _ rfl rfl rfl (b_neqB _ (decide_eq_false (fun e => e h1)))) ?_;go_frame;clear h1
   by_cases h2 : n = m
   case neg =>
    skip
    go_upto_region 7 with (fail);refine wp_region_list ?_;refine Rg.lr 24 (exec_field _ rfl rfl (chF0 _ _)) ?_;go_frame;refine Rg.lr 25 (Rg.exec_load (v := .int .i64 n) _ _ rfl ⟨w.heap.size, 0, none⟩ rfl (run_loadInt BI.out.a0.cell)) ?_;go_frame;refine Rg.lr 26 (exec_field _ rfl rfl (chF0 _ _)) ?_;go_frame;refine Rg.lr 27 (Rg.exec_load (v := .int .i64 m) _ _ rfl ⟨(w.heap.size + 1), 0, none⟩ rfl (run_loadInt BI.out.b0.cell)) ?_;go_frame;refine Rg.lr 28 (exec_bin (R := .bool true) .neq _ _ _ rfl rfl rfl (b_neqB _ (decide_eq_true h2))) ?_;go_frame;go_upto_region 8 with (fail);refine wp_region_list ?_;refine Rg.list_skip none rfl rfl (Rg.exec_store _ _ _ rfl _ rfl _ rfl (run_storeBool _ BI.out.c4.c BI.out.c4.f)) ?_;go_frame;refine Rg.list_skip none rfl rfl (Rg.exec_store _ _ _ rfl _ rfl _ rfl (run_storeE _ (BI.out.c5.other _ (by omega)).c (BI.out.c5.other _ (by omega)).f)) ?_;go_frame;have hbs := BI.out.set false 10
    generalize (w6.setCell ⟨w.heap.size + 2, 0, none⟩ (.bool false)).setCell ⟨w.heap.size + 3, 0, none⟩ (.int .i64 10) = w99 at *;have BX := ι hbs;have HV1 := ι (show belC n OO RR m OO' RR' = 10 from belC_deg HZ.out HY.out h2);have HV2 := ι (show belA n OO RR m OO' RR' = false from belA_bad (by rw [HV1.out]; decide));clear hbs;go_wp2;exact be_leave (ds := []) BX.out HV2.out HV1.out rfl rfl (by simp) (fun D hD => by simp at hD)
   case pos =>
    skip
    go_upto_region 7 with (fail);refine wp_region_list ?_;refine Rg.lr 24 (exec_field _ rfl rfl (chF0 _ _)) ?_;go_frame;refine Rg.lr 25 (Rg.exec_load (v := .int .i64 n) _ _ rfl ⟨w.heap.size, 0, none⟩ rfl (run_loadInt BI.out.a0.cell)) ?_;go_frame;refine Rg.lr 26 (exec_field _ rfl rfl (chF0 _ _)) ?_;go_frame;refine Rg.lr 27 (Rg.exec_load (v := .int .i64 m) _ _ rfl ⟨(w.heap.size + 1), 0, none⟩ rfl (run_loadInt BI.out.b0.cell)) ?_;go_frame;refine Rg.lr 28 (exec_bin (R := .bool false) .neq _ _ _ rfl rfl rfl (b_neqB _ (decide_eq_false (fun e => e h2)))) ?_;go_frame;have HB0 := ι (belC_ok HZ.out HY.out h2);obtain ⟨N, O, R, rfl, hN1, hN2, hOO, hRR, hch, hgs⟩ := chCode_ok HZ.out;obtain ⟨N', O', R', e2, _, _, hOO', hRR', hch', hgs'⟩ := chCode_ok HY.out;obtain rfl : m = ((N : Nat) : Int) := h2.symm
    obtain rfl : N = N' := by omega
    have HLR := ι (show RR.length = N by rw [hRR, List.length_map, hch.lenR]);have HLR2 := ι (show R.length = RR.length by rw [hRR, List.length_map]);have HRR := ι hRR;have HOO := ι hOO;have HRR' := ι hRR';have HOO' := ι hOO';have HCH := ι hch;have HCH' := ι hch';have HGS := ι hgs;have HH' := ι (Cm.Gr.isG (n := N) (gs := (· ∈ R'.flatten)) hgs');clear hOO hRR hch hgs hOO' hRR' hch' hgs' h2 e2;go_upto_region 9 with (fail);refine wp_region_list ?_;refine Rg.lr 29 (Rg.exec_load (v := (.agg #[.int .i64 ((N : Nat) : Int), .slice oa OO.length oc, .slice ra RR.length rc])) _ _ rfl ⟨w.heap.size, 0, none⟩ rfl (run_loadC3 BI.out.a0.cell BI.out.a1.cell BI.out.a2.cell)) ?_;go_frame;refine list_ask (some 30) rfl rfl _ _ (exec_fn1 82 _ _ rfl rfl (Wvcl0 _ _)) ?_;refine (reps_any _ _ _ w6).mono ?_;rintro e1 w7 ⟨fb, rfl, hfb, hb⟩;have hsz := hb.size;refine ⟨_, rfl, ?_⟩;go_frame;replace HC := ι (HC.out.below hb)
    replace HD := ι (HD.out.below hb);replace BI := ι (BI.out.below hb);replace K := ι (Rg.acc K.out hb);clear hb;have FB := ι hfb;clear hfb;have HS0 := ι (show w.heap.size + 4 ≤ w7.heap.size from BI.out.c5.lt);clear hsz;obtain ⟨us, hus, hul, hur⟩ := HR.out;have HUR := ι hur
    have hrv : RV3 w.heap.size w7 ra RR.length (fun k => us[k]?.getD undef) := by
     obtain ⟨a', c', e, q1, q2, q3, q4⟩ := hus
     injection e with e1 e2 e3
     refine ⟨by have := HLR.out; omega, fun h0 => ?_, fun b off e5 j hj => ?_, K.out.size⟩
     ·obtain ⟨b, o, e4, e5, _⟩ := q4 (by omega)
      exact ⟨b, o, e1.trans e4, e5⟩
     ·obtain ⟨b', o', e4, e6, e7⟩ := q4 (by omega)
      rw [e1, e4] at e5;simp only [Option.some.injEq, Addr.mk.injEq, and_true] at e5;obtain ⟨rfl, rfl⟩ := e5;rw [(K.out.cell (p := ⟨b', o' + j, none⟩) e6)];show _ = some (us[j]?.getD undef);rw [List.getElem?_eq_getElem (by omega)];exact e7 j (by omega)
    have HRV := ι hrv;have HUL := ι hul;clear hus hrv hul hur;go_wp2
    refine range_reps2 rfl FB.out HRV.out rfl (fun pre W => BeI w ((N : Nat) : Int) ((N : Nat) : Int) (.slice oa OO.length oc) (.slice ra RR.length rc) (.slice oa' OO'.length oc') (.slice ra' RR'.length rc') W false 0 ∧ BeR N R O' R' pre)
     (fun c pre W => c = .ret ∧ BeI w ((N : Nat) : Int) ((N : Nat) : Int) (.slice oa OO.length oc) (.slice ra RR.length rc) (.slice oa' OO'.length oc') (.slice ra' RR'.length rc') W false 0 ∧ R.flatten.all (fun x => decide ((siC N O' R' x).1 = N)) = false) ?hI ?hIx ⟨BI.out, fun z hz => by simp at hz⟩ ?a1 ?assign ?body ?done ?stop
    case assign =>
     intro l x W K hK
     gi_wp2
     exact hK
    case hI =>
     rintro pre W W' row ⟨h1, h2⟩ hg hr;exact ⟨h1.keep (by have := HS0.out; omega) hg hr, h2⟩
    case hIx =>
     rintro c pre W W' row ⟨rfl, h1, h2⟩ hg hr;exact ⟨rfl, h1.keep (by have := HS0.out; omega) hg hr, h2⟩
    case body =>
     rintro l pre ⟨X, hX⟩ Wb ⟨hbi, hbr⟩ hpl;obtain ⟨B, hB⟩ : ∃ B, w7.heap.size = B := ⟨_, rfl⟩;rw [hB] at HS0 ⊢;clear FB HRV BI K hB HC HD
     have hXn : X < N := by have := HLR.out; omega
     have BI := ι hbi;have K := ι hbi.bel;have KQ := ι (KK.refl (B := B) (n₀ := w.heap.size) (W := Wb) hbi.bel.size);have HBR := ι hbr;have HXR := ι hX;have HXN := ι hXn;have HWB := ι (show w.heap.size + 4 ≤ Wb.heap.size from hbi.c5.lt);clear hbi hbr;have hu := HUR.out X (by rw [HUL.out]; exact hX) hX
     have e1 : us[X]?.getD undef = us[X]'(by rw [HUL.out]; exact hX) := by rw [List.getElem?_eq_getElem (by rw [HUL.out]; exact hX)]; rfl
     rw [← e1] at hu
     dsimp only
     generalize us[X]?.getD undef = u at *;clear e1;obtain ⟨rl, hrl⟩ : ∃ rl : List (List Nat), Hid (R.getD X [] = rl) := ⟨_, ι rfl⟩
     have hXR : X < R.length := by have := HLR2.out; omega
     have hrx : RR[X]'hX = rl.map Ma.ofN := by
      rw [← hrl.out]
      have : RR[X]'hX = (R.map (List.map Ma.ofN))[X]'(by rw [List.length_map]; exact hXR) := by first | (congr 1; done) | (congr 1; exact HRR.out)
      rw [this, List.getElem_map, getD_inf hXR]
     rw [hrx] at hu;have HRM := ι (show ∀ x ∈ rl, x ∈ R.flatten from fun x hx => List.mem_flatten.2 ⟨_, List.getElem_mem hXR, by rw [← getD_inf hXR, hrl.out]; exact hx⟩);obtain ⟨ua, uc, rfl, -, -, -, hrc⟩ := hu.shape
     have hrlen : rl.length ≤ N - X := by
      have h1 := HCH.out.len X hXn;have h2 := chain_len (Cm.Gr.isG (n := N) (gs := (· ∈ R.flatten)) HGS.out) HCH.out hXn;rw [hrl.out] at h1;omega
     have HRC := ι hrc;rw [List.length_map];have HRLN := ι (show rl.length ≤ 64 by omega);clear hrc hu hrx hrlen
     gi_upto_region 11 with (fail)
     refine wpIn_region_list ?_;refine Rg.in_run (some 33) rfl rfl (fun _ hh => by cases hh) (Rg.xm (.slice ua rl.length uc) _ rfl rfl) ?_;go_frame;refine Rg.in_run (some 34) rfl rfl (fun _ hh => by cases hh) (exec_len _ _ _ rfl Try.underlying24 _ _ _ rfl) ?_;go_frame;refine Rg.in_run (some 35) rfl rfl (fun _ hh => by cases hh) (Rg.xm (.int .i64 ((0 : Nat) : Int)) _ rfl rfl) ?_;go_frame;have HJ0 := ι (show ∀ x ∈ rl.take 0, (siC N O' R' x).1 = N from fun x hx => by simp at hx)
     gi_wp2
     gi_loopw [35] (fun jv wr => ∃ j : Nat, jv = .int .i64 j ∧ j ≤ rl.length ∧ Hid (BeI w ((N : Nat) : Int) ((N : Nat) : Int) (.slice oa OO.length oc) (.slice ra RR.length rc) (.slice oa' OO'.length oc') (.slice ra' RR'.length rc') wr false 0) ∧ Hid (KK B w.heap.size Wb wr) ∧ Hid (∀ x ∈ rl.take j, (siC N O' R' x).1 = N)) (fun jv _ => rl.length - (intOf jv).toNat)
     case atStart => exact ⟨0, rfl, Nat.zero_le _, BI, KQ, HJ0⟩
     case round =>
      clear BI KQ HJ0 K;obtain ⟨j, rfl, hj, BI, KQ, HJ⟩ := hrel;have K := ι BI.out.bel
      by_cases hjl : j < rl.length
      ·have hjN : (j : Int) < (rl.length : Int) := by omega
       have HJL := ι hjl;obtain ⟨ub, uo, rfl, hub, huc⟩ := HRC.out (by rw [List.length_map]; omega);obtain ⟨sv, hsc, hsi⟩ := huc j (by rw [List.length_map]; exact hjl);obtain ⟨s, hs⟩ : ∃ s : List Nat, Hid (rl[j]'hjl = s) := ⟨_, ι rfl⟩
       have hsn : Rg.NP w sv s := by rw [← hs.out]; rw [List.getElem_map] at hsi; exact hsi
       have HSM := ι (HRM.out s (by rw [← hs.out]; exact List.getElem_mem hjl));have GS := ι (HGS.out s HSM.out);obtain ⟨sa, so, sc, rfl⟩ := (FP.of_np hsn).shape' GS.out hN1;have CS := ι (CL.mk hsc hub);have NS := ι (show Rg.Ints w _ (Ma.ofN s) from hsn);clear huc hsc hsi hsn hub;obtain ⟨lv, hlv⟩ : ∃ lv : Nat, Hid ((siC N O' R' s).1 = lv) := ⟨_, ι rfl⟩
       have hle : lv ≤ N := by rw [← hlv.out]; exact siC_le _
       gi_upto_region 12 with (fail)
       refine wpIn_region_list ?_;refine Rg.in_run (some 36) rfl rfl (fun _ hh => by cases hh) (exec_bin (R := .bool true) .lss _ _ _ rfl rfl rfl (b_lss _ (decide_eq_true (by omega)))) ?_;go_frame
       gi_upto_region 13 with (fail)
       refine wpIn_region_list ?_;refine Rg.in_run (some 37) rfl rfl (fun _ hh => by cases hh) (exec_indexS slPerms _ _ rfl ub (uo) (rl.length) uc (j) rfl rfl HJL.out) ?_;go_frame;refine Rg.in_run (some 38) rfl rfl (fun _ hh => by cases hh) (Rg.exec_load (v := .slice (some ⟨sa, so, none⟩) N sc) _ _ rfl ⟨ub, uo + j, none⟩ rfl (Rg.run_loadSl _ _ Try.underlying39 ((Below.cell (p := ⟨ub, uo + j, none⟩) K.out CS.out.lt).trans CS.out.cell))) ?_;go_frame;refine Rg.in_run (some 11) rfl rfl (fun _ hh => by cases hh) (Rg.xa (.slice (some ⟨sa, so, none⟩) N sc) _ rfl rfl) ?_;go_frame
       gi_upto_region 14 with (fail)
       refine wpIn_region_list ?_;refine Rg.in_run (some 40) rfl rfl (fun _ hh => by cases hh) (Rg.exec_load (v := (.agg #[.int .i64 ((N : Nat) : Int), .slice oa' OO'.length oc', .slice ra' RR'.length rc'])) _ _ rfl ⟨(w.heap.size + 1), 0, none⟩ rfl (run_loadC3 BI.out.b0.cell BI.out.b1.cell BI.out.b2.cell)) ?_;go_frame;refine Rg.in_run (some 41) rfl rfl (fun _ hh => by cases hh) (Rg.xm (.slice (some ⟨sa, so, none⟩) N sc) _ rfl rfl) ?_;go_frame;refine Rg.in_ask (some 42) rfl rfl (fun _ hh => by cases hh) _ _ (exec_fn 80 _ _ _ rfl rfl rfl (Zecl3 _ _)) ?_;refine (csift_any hN1 hN2 HH'.out HCH'.out HOO'.out HRR'.out (HE.out.below K.out) (NS.out.below K.out) GS.out).mono ?_;rintro e1 w61 ⟨v1, rfl, hsv, hb⟩;rw [hlv.out];clear hsv;refine ⟨_, rfl, ?_⟩;go_frame;replace BI := ι (BI.out.below hb);replace KQ := ι (KQ.out.below hb);replace K := ι (Rg.acc K.out hb);clear hb;refine Rg.in_run (some 39) rfl rfl (fun _ hh => by cases hh) (Rg.xm (.tuple #[v1, .int .i64 ((lv : Nat) : Int)]) _ rfl rfl) ?_;go_frame
       refine Rg.in_run (some 43) rfl rfl (fun _ hh => by cases hh) (exec_extract (v := v1) _ _ rfl rfl rfl) ?_;go_frame;refine Rg.in_run (some 44) rfl rfl (fun _ hh => by cases hh) (exec_extract (v := .int .i64 ((lv : Nat) : Int)) _ _ rfl rfl rfl) ?_;go_frame;refine Rg.in_run (some 12) rfl rfl (fun _ hh => by cases hh) (Rg.xa (v1) _ rfl rfl) ?_;go_frame;refine Rg.in_run (some 13) rfl rfl (fun _ hh => by cases hh) (Rg.xa (.int .i64 ((lv : Nat) : Int)) _ rfl rfl) ?_;go_frame
       by_cases hlt : lv < N
       case pos =>
        skip
        gi_upto_region 15 with (fail)
        refine wpIn_region_list ?_;refine Rg.in_run (some 45) rfl rfl (fun _ hh => by cases hh) (Rg.xm (.int .i64 ((lv : Nat) : Int)) _ rfl rfl) ?_;go_frame;refine Rg.in_run (some 46) rfl rfl (fun _ hh => by cases hh) (exec_field _ rfl rfl (chF0 _ _)) ?_;go_frame;refine Rg.in_run (some 47) rfl rfl (fun _ hh => by cases hh) (Rg.exec_load (v := .int .i64 ((N : Nat) : Int)) _ _ rfl ⟨(w.heap.size + 1), 0, none⟩ rfl (run_loadInt BI.out.b0.cell)) ?_;go_frame;refine Rg.in_run (some 48) rfl rfl (fun _ hh => by cases hh) (exec_bin (R := .bool true) .lss _ _ _ rfl rfl rfl (b_lss _ (decide_eq_true (by omega)))) ?_;go_frame
        gi_upto_region 16 with (fail)
        refine wpIn_region_list ?_;refine Rg.in_skip none rfl rfl (fun _ hh => by cases hh) (Rg.exec_store _ _ _ rfl _ rfl _ rfl (run_storeBool _ BI.out.c4.c BI.out.c4.f)) ?_;go_frame;refine Rg.in_skip none rfl rfl (fun _ hh => by cases hh) (Rg.exec_store _ _ _ rfl _ rfl _ rfl (run_storeE _ (BI.out.c5.other _ (by omega)).c (BI.out.c5.other _ (by omega)).f)) ?_;go_frame;have hbs := BI.out.set false 0;have hq2 := (KQ.out.set (b := w.heap.size + 2) (o := 0) (.bool false) (by omega)).set (b := w.heap.size + 3) (o := 0) (.int .i64 0) (by omega);generalize (w61.setCell ⟨w.heap.size + 2, 0, none⟩ (.bool false)).setCell ⟨w.heap.size + 3, 0, none⟩ (.int .i64 0) = w99 at *;have BX := ι hbs;have QX := ι hq2;have HNO := ι (be_no (N := N) (O' := O') (R' := R') HSM.out (by rw [hlv.out]; omega));clear hbs hq2
        gi_wp2
        exact ⟨QX.out.keeps, rfl, BX.out, HNO.out⟩
       case neg =>
        skip
        gi_upto_region 15 with (fail)
        refine wpIn_region_list ?_;refine Rg.in_run (some 45) rfl rfl (fun _ hh => by cases hh) (Rg.xm (.int .i64 ((lv : Nat) : Int)) _ rfl rfl) ?_;go_frame;refine Rg.in_run (some 46) rfl rfl (fun _ hh => by cases hh) (exec_field _ rfl rfl (chF0 _ _)) ?_;go_frame;refine Rg.in_run (some 47) rfl rfl (fun _ hh => by cases hh) (Rg.exec_load (v := .int .i64 ((N : Nat) : Int)) _ _ rfl ⟨(w.heap.size + 1), 0, none⟩ rfl (run_loadInt BI.out.b0.cell)) ?_;go_frame;refine Rg.in_run (some 48) rfl rfl (fun _ hh => by cases hh) (exec_bin (R := .bool false) .lss _ _ _ rfl rfl rfl (b_lss _ (decide_eq_false (by omega)))) ?_;go_frame
        have HJ2 := ι (show ∀ x ∈ rl.take (j + 1), (siC N O' R' x).1 = N from fun x hx => by
         rw [List.take_succ_eq_append_getElem HJL.out, show rl[j]'HJL.out = s from hs.out] at hx
         rcases List.mem_append.1 hx with hx | hx
         ·exact HJ.out x hx
         ·rw [List.mem_singleton] at hx; subst hx; rw [hlv.out]; omega)
        have hrb : rl.length ≤ 64 := HRLN.out
        gi_wp2
        go_roundw
        case rel => exact ⟨j + 1, by go_num, HJL.out, BI, KQ, HJ2⟩
        case measure => simp [intOf]; have := HJL.out; omega
      ·obtain rfl : j = rl.length := by omega
       have hjN : ¬ (rl.length : Int) < (rl.length : Int) := by omega
       have HB2 := ι (show BeR N R O' R' (pre ++ [(⟨X, HXR.out⟩ : Fin RR.length)]) from fun z hz x hx => by
        rcases List.mem_append.1 hz with hz | hz
        ·exact HBR.out z hz x hx
        ·rw [List.mem_singleton] at hz
         subst hz;rw [show R.getD X [] = rl from hrl.out] at hx
         exact HJ.out x (by rw [List.take_length]; exact hx))
       gi_wp2
       exact ⟨KQ.out.keeps, KQ.out.bel, BI.out, HB2.out⟩
    case stop =>
     rintro D c k W hD hk ⟨rfl, h1, h2⟩ hd;go_wp2;refine be_leave (ds := [D]) h1 ?_ HB0.out rfl rfl (by simp) (fun D' hD' => by simp at hD'; subst hD'; exact ⟨hd, by have := HS0.out; omega⟩);have e := HB0.out;rw [HOO.out, HRR.out, HOO'.out, HRR'.out] at e ⊢;rw [belA_val e];exact h2
    case done =>
     rintro D Wd hD ⟨hbi, hbr⟩ hd;have HAL := ι (hbr.all HLR2.out);have HD := ι (show w.heap.size ≤ D by have := HS0.out; omega);clear FB HRV BI K hbr;have BI := ι hbi;have DF := ι hd;clear hbi hd;go_upto_region 18 with (fail);refine wp_region_list ?_;refine Rg.list_skip none rfl rfl (Rg.exec_store _ _ _ rfl _ rfl _ rfl (run_storeBool _ BI.out.c4.c BI.out.c4.f)) ?_;go_frame;refine Rg.list_skip none rfl rfl (Rg.exec_store _ _ _ rfl _ rfl _ rfl (run_storeE _ (BI.out.c5.other _ (by omega)).c (BI.out.c5.other _ (by omega)).f)) ?_;go_frame;have hbs := BI.out.set true 0;have hdd := (RF.Dfr.setCell DF.out ⟨w.heap.size + 2, 0, none⟩ (.bool true)).setCell ⟨w.heap.size + 3, 0, none⟩ (.int .i64 0);generalize (Wd.setCell ⟨w.heap.size + 2, 0, none⟩ (.bool true)).setCell ⟨w.heap.size + 3, 0, none⟩ (.int .i64 0) = w99 at *;have BX := ι hbs;have DX := ι hdd
     have HV := ι (show belA ((N : Nat) : Int) OO RR ((N : Nat) : Int) OO' RR' = true by
      have e := HB0.out;rw [HOO.out, HRR.out, HOO'.out, HRR'.out] at e ⊢;rw [belA_val e]
      exact HAL.out)
     clear hbs hdd;go_wp2;exact be_leave (ds := [D]) BX.out HV.out HB0.out rfl rfl (by simp) (fun D' hD' => by simp at hD'; subst hD'; exact ⟨DX.out, HD.out⟩)
end Go.Proofs.Ytcfomoknlchemaa

namespace Go.Proofs.Rg
open Go Go.RowKit
variable {P : Program} {md : Region.Mode} {ops : Array Oper} {Q : Exit → Act → World → Prop} {S : Array Bool → World → Prop}
theorem Any.c3f1q {e i k j q de di dk dj dq : Nat} {vq : Value} {I R0 : World → Prop} {Re Rk Rj : Value → World → Prop} {Ri : Value → Value → World → Prop} {n : Nat} {l : Array Bool} {a : Act} {w : World} (hS : ∀ l W, I W → S l W)
  (ej : e ≠ j) (ij : i ≠ j) (kj : k ≠ j) (qj : q ≠ j) (dej : de ≠ dj) (dij : di ≠ dj) (dkj : dk ≠ dj) (dqj : dq ≠ dj)
  (r0 : Region.ready md ops l = [e, j]) (re : Region.ready md ops (l.setIfInBounds e true) = [i, j]) (ri : Region.ready md ops ((l.setIfInBounds e true).setIfInBounds i true) = [k, j])
  (rk : Region.ready md ops ((((l.setIfInBounds e true).setIfInBounds i true).setIfInBounds k true).setIfInBounds q true) = [j])
  (rj : Region.ready md ops (l.setIfInBounds j true) = [e]) (rje : Region.ready md ops ((l.setIfInBounds e true).setIfInBounds j true) = [i]) (rji : Region.ready md ops (((l.setIfInBounds e true).setIfInBounds i true).setIfInBounds j true) = [k])
  (hq1 : ∀ u x y W m, S (((l.setIfInBounds e true).setIfInBounds i true).setIfInBounds k true) W → Any P md ops Q S m ((((l.setIfInBounds e true).setIfInBounds i true).setIfInBounds k true).setIfInBounds q true) ((((a.put (some de) u).put (some di) x).put (some dk) y).put (some dq) vq) W → Any P md ops Q S (m + 1) (((l.setIfInBounds e true).setIfInBounds i true).setIfInBounds k true) (((a.put (some de) u).put (some di) x).put (some dk) y) W)
  (hq2 : ∀ u x v y W m, S ((((l.setIfInBounds e true).setIfInBounds i true).setIfInBounds j true).setIfInBounds k true) W → Any P md ops Q S m (((((l.setIfInBounds e true).setIfInBounds i true).setIfInBounds j true).setIfInBounds k true).setIfInBounds q true) (((((a.put (some de) u).put (some di) x).put (some dj) v).put (some dk) y).put (some dq) vq) W → Any P md ops Q S (m + 1) ((((l.setIfInBounds e true).setIfInBounds i true).setIfInBounds j true).setIfInBounds k true) ((((a.put (some de) u).put (some di) x).put (some dj) v).put (some dk) y) W)
  (s0 : ∀ W W', Below W.heap.size W W' → R0 W → R0 W') (se : ∀ u W W', Below W.heap.size W W' → Re u W → Re u W') (si : ∀ u x W W', Below W.heap.size W W' → Ri u x W → Ri u x W') (sk : ∀ u W W', Below W.heap.size W W' → Rk u W → Rk u W') (sj : ∀ u W W', Below W.heap.size W W' → Rj u W → Rj u W')
  (he : ∀ b, (b = a ∨ ∃ v, b = a.put (some dj) v) → ∀ W, I W → Does P ops Q e de I Re (fun W W' => Below W.heap.size W W') b W)
  (hi : ∀ u b, (b = a.put (some de) u ∨ ∃ v, b = (a.put (some de) u).put (some dj) v) → ∀ W, I W → Re u W → Does P ops Q i di I (Ri u) (fun W W' => Below W.heap.size W W') b W)
  (hk : ∀ u x b, (b = (a.put (some de) u).put (some di) x ∨ ∃ v, b = ((a.put (some de) u).put (some di) x).put (some dj) v) → ∀ W, I W → R0 W → Ri u x W → Does P ops Q k dk I Rk (fun W W' => ∀ v, Rj v W → Rj v W') b W)
  (hj : ∀ b, (b = a ∨ (∃ u, b = a.put (some de) u) ∨ (∃ u x, b = (a.put (some de) u).put (some di) x) ∨ ∃ u x y, b = ((((a.put (some de) u).put (some di) x).put (some dk) y).put (some dq) vq)) → ∀ W, I W → Does P ops Q j dj I Rj (fun W W' => Below W.heap.size W W') b W)
  (hI : I w) (h0 : R0 w) (h : ∀ W u x y v, I W → Rk y W → Rj v W → Any P md ops Q S n (((((l.setIfInBounds e true).setIfInBounds i true).setIfInBounds k true).setIfInBounds q true).setIfInBounds j true) (((((a.put (some de) u).put (some di) x).put (some dk) y).put (some dq) vq).put (some dj) v) W) :
  Any P md ops Q S (n + 5) l a w := by
 have ha : ∀ u x y v : Value, ((((a.put (some de) u).put (some di) x).put (some dj) v).put (some dk) y).put (some dq) vq = (((((a.put (some de) u).put (some di) x).put (some dk) y).put (some dq) vq).put (some dj) v) := fun u x y v => by
  rw [put_comm ((a.put (some de) u).put (some di) x) v y (Ne.symm dkj), put_comm (((a.put (some de) u).put (some di) x).put (some dk) y) v vq (Ne.symm dqj)]
 have hl : ((((l.setIfInBounds e true).setIfInBounds i true).setIfInBounds j true).setIfInBounds k true).setIfInBounds q true = ((((l.setIfInBounds e true).setIfInBounds i true).setIfInBounds k true).setIfInBounds q true).setIfInBounds j true := by
  rw [Array.setIfInBounds_comm true true (xs := (l.setIfInBounds e true).setIfInBounds i true) (Ne.symm kj), Array.setIfInBounds_comm true true (xs := ((l.setIfInBounds e true).setIfInBounds i true).setIfInBounds k true) (Ne.symm qj)]
 refine Any.two r0 ?_ ?_
 ·
  refine wpOp_mono ?_ (he a (.inl rfl) w hI);rintro c W ⟨u, rfl, h1, h2, h3⟩;refine ⟨hS _ _ h1, Any.two re ?_ ?_⟩
  ·refine wpOp_mono ?_ (hi u _ (.inl rfl) W h1 h2)
   rintro c W' ⟨x, rfl, g1, g2, g3⟩;refine ⟨hS _ _ g1, Any.two ri ?_ ?_⟩
   ·refine wpOp_mono ?_ (hk u x _ (.inl rfl) W' g1 (s0 _ _ g3 (s0 _ _ h3 h0)) g2)
    rintro c W2 ⟨y, rfl, e1, e2, e3⟩;refine ⟨hS _ _ e1, hq1 u x y W2 (n + 1) (hS _ _ e1) (Any.one rk ?_)⟩;refine wpOp_mono ?_ (hj _ (.inr (.inr (.inr ⟨u, x, y, rfl⟩))) W2 e1);rintro c W3 ⟨v, rfl, f1, f2, f3⟩;exact ⟨hS _ _ f1, h _ _ _ _ _ f1 (sk _ _ _ f3 e2) f2⟩
   ·refine wpOp_mono ?_ (hj _ (.inr (.inr (.inl ⟨u, x, rfl⟩))) W' g1)
    rintro c W2 ⟨v, rfl, e1, e2, e3⟩;refine ⟨hS _ _ e1, Any.one rji ?_⟩;refine wpOp_mono ?_ (hk u x _ (.inr ⟨v, rfl⟩) W2 e1 (s0 _ _ e3 (s0 _ _ g3 (s0 _ _ h3 h0))) (si _ _ _ _ e3 g2));rintro c W3 ⟨y, rfl, f1, f2, f3⟩;refine ⟨hS _ _ f1, hq2 u x v y W3 n (hS _ _ f1) ?_⟩;rw [ha, hl];exact h W3 u x y v f1 f2 (f3 _ e2)
  ·refine wpOp_mono ?_ (hj _ (.inr (.inl ⟨u, rfl⟩)) W h1)
   rintro c W' ⟨v, rfl, g1, g2, g3⟩;refine ⟨hS _ _ g1, Any.one rje ?_⟩;refine wpOp_mono ?_ (hi u _ (.inr ⟨v, rfl⟩) W' g1 (se _ _ _ g3 h2));rintro c W2 ⟨x, rfl, e1, e2, e3⟩;refine ⟨hS _ _ e1, Any.one (by rw [Array.setIfInBounds_comm _ _ (Ne.symm ij)]; exact rji) ?_⟩;rw [put_comm _ v x (Ne.symm dij), Array.setIfInBounds_comm _ _ (Ne.symm ij)];refine wpOp_mono ?_ (hk u x _ (.inr ⟨v, rfl⟩) W2 e1 (s0 _ _ e3 (s0 _ _ g3 (s0 _ _ h3 h0))) e2);rintro c W3 ⟨y, rfl, f1, f2, f3⟩;refine ⟨hS _ _ f1, hq2 u x v y W3 n (hS _ _ f1) ?_⟩;rw [ha, hl];exact h W3 u x y v f1 f2 (f3 _ (sj _ _ _ e3 g2))
 ·refine wpOp_mono ?_ (hj a (.inl rfl) w hI)
  rintro c W ⟨v, rfl, h1, h2, h3⟩;refine ⟨hS _ _ h1, Any.one rj ?_⟩;refine wpOp_mono ?_ (he _ (.inr ⟨v, rfl⟩) W h1);rintro c W' ⟨u, rfl, g1, g2, g3⟩;refine ⟨hS _ _ g1, Any.one (by rw [Array.setIfInBounds_comm _ _ (Ne.symm ej)]; exact rje) ?_⟩;rw [put_comm a v u (Ne.symm dej), Array.setIfInBounds_comm _ _ (Ne.symm ej)];refine wpOp_mono ?_ (hi u _ (.inr ⟨v, rfl⟩) W' g1 g2);rintro c W2 ⟨x, rfl, e1, e2, e3⟩;refine ⟨hS _ _ e1, Any.one (by rw [Array.setIfInBounds_comm _ _ (Ne.symm ij)]; exact rji) ?_⟩;rw [put_comm _ v x (Ne.symm dij), Array.setIfInBounds_comm _ _ (Ne.symm ij)];refine wpOp_mono ?_ (hk u x _ (.inr ⟨v, rfl⟩) W2 e1 (s0 _ _ e3 (s0 _ _ g3 (s0 _ _ h3 h0))) e2);rintro c W3 ⟨y, rfl, f1, f2, f3⟩;refine ⟨hS _ _ f1, hq2 u x v y W3 n (hS _ _ f1) ?_⟩;rw [ha, hl];exact h W3 u x y v f1 f2 (f3 _ (sj _ _ _ e3 (sj _ _ _ g3 h2)))
theorem doesCall {i d : Nat} {I : World → Prop} {R : Value → World → Prop} {K : World → World → Prop} {oi : Oper} {b : Act} {W : World} (hi : ops[i]? = some oi) (hd : oi.dst = some d) (hw : Region.wanted oi (yielded ops b.tmps) = true) (f : FuncId) (args : Array Value)
  (hr : (execOp b.eval oi).run P W = .ok (.enter f args) W) (hc : Calls P f args W fun e W' => ∃ v, e = .returned v ∧ I W' ∧ R v W' ∧ K W W') : Does P ops Q i d I R K b W := by
 unfold Does wpOp;simp only [hi, hw, if_true]
 left
 unfold Oper.wp;rw [hr, Oper.upon_enter];refine hc.mono fun e w' ⟨v, h1, h2⟩ => ?_;rw [h1];refine ⟨v, ?_, h2⟩;rw [hd]
end Go.Proofs.Rg

set_option linter.unusedVariables false
namespace Go.Proofs.Ytcfomoknlchemaa
open Go.RowKit
open Go.Proofs
open Go.Proofs.Ob
open Go.Shelf
attribute [local irreducible] Go.Calls Go.wpList
theorem exec_nilFi {o : Oper} {a : Act} {w : World} {ad : Addr} {n c : Nat} (x y : Operand) (ho : o.op = .binOp .eql 22 x y 22) (hx : a.eval x = .slice (some ad) n c) (hy : a.eval y = .slice none 0 0) : (execOp a.eval o).run Try.prog w = .ok (.value (.bool false)) w := by
 have h1 : (binOp .eql 22 (.slice (some ad) n c) (.slice none 0 0)).run Try.prog w = .ok (.bool false) w := by kernel_rfl
 have hg : (eqGuard .eql 22 x y (.slice (some ad) n c) (.slice none 0 0)).run Try.prog w = .ok () w := by
  simp [eqGuard]
 unfold execOp;simp only [ho, hx, hy, Sem.run_bind, Sem.run_pure, hg, h1, Result.andThen_ok]
theorem CloneI_any (v : Value) (l : List Int) (w : World) (h : Rg.Ints w v l) (h1 : 1 ≤ l.length) (hl : l.length ≤ 1000000) :
  Calls Try.prog 117 #[v] w fun e w' => ∃ v', e = .returned v' ∧ w'.ownsRow w.heap.size 3 1 v' l.length (l.map (Value.int .i64)) ∧ Below w.heap.size w w' := by
 obtain ⟨la, lc, rfl, _, _, _, hs⟩ := h.shape;obtain ⟨b, o, rfl, _⟩ := hs (by omega);have HI := ι h;have K := ι (Below.refl w.heap.size w);clear h hs
 go_enter Try.func117, Try.ntmps117
 go_upto_region 1 with (fail);refine wp_region_list ?_;refine Rg.lr 3 (Rg.xm (.slice (some ⟨b, o, none⟩) l.length lc) _ rfl rfl) ?_;go_frame;refine Rg.lr 4 (exec_nilFi _ _ rfl rfl rfl) ?_;go_frame;go_upto_region 3 with (fail);refine wp_region_list ?_;have hnew := Own0.new (B := w.heap.size) w (Nat.le_refl _);refine Rg.lr 5 (Rg.exec_build0 slInts rfl w) ?_;go_frame;have hb := (Below.refl w.heap.size w).alloc (Nat.le_refl _) (.cells #[] 3);generalize w.alloc (.cells #[] 3) = w1 at *;replace HI := ι (HI.out.below hb);replace K := ι (Rg.acc K.out hb);clear hb;have FO := ι hnew;refine Rg.lr 6 (Rg.xm (.slice (some ⟨b, o, none⟩) l.length lc) _ rfl rfl) ?_;go_frame;obtain ⟨v5, X5, r1, r2, r3⟩ := Rg.appL_run (P := Try.prog) slInts 22 FO.out.1 K.out.size HI.out ints_cells (by rw [List.length_map]; omega);refine Rg.lr 7 (Rg.exec_append _ _ _ rfl rfl rfl r1) ?_;go_frame;refine Rg.lr 2 (Rg.xa (v5) _ rfl rfl) ?_;go_frame
 rw [List.length_map, Nat.zero_add, List.nil_append] at r2;have R2 := ι r2;have K5 := ι (K.out.grown r3 K.out.size (fun j hj => (FO.out.1.lt j hj).1));clear r1 r2 r3 FO;go_wp2;go_ret;exact ⟨_, rfl, R2.out, K5.out⟩
def MK (tc : Nat) (ov rv : Value) (z : Nat) : Prop := z = tc ∨ ov.ownBlock = some z ∨ rv.ownBlock = some z
theorem row_isCells {W : World} {B : Nat} {e : TypeId} {size : Nat} {v : Value} {n : Nat} {xs : List Value} (h : W.ownsRow B e size v n xs) : ∀ k, v.ownBlock = some k → ∃ o : Obj, W.heap[k]? = some o ∧ o.isCells = true := fun k e1 => by
 obtain ⟨_, h3⟩ := h
 rcases h3 with ⟨h4, _⟩ | ⟨g, cap, cur, h4, _, h5, _⟩
 ·rw [h4] at e1; simp [Value.ownBlock] at e1
 ·rw [h4] at e1
  simp [Value.ownBlock] at e1;subst e1;exact ⟨_, h5, rfl⟩
theorem cell_isCells {W : World} {a : Addr} {v : Value} (h : W.cell? a = some v) : ∃ o : Obj, W.heap[a.block]? = some o ∧ o.isCells = true := by
 unfold World.cell? at h
 cases e : W.heap[a.block]? with
 | none => rw [e] at h; cases h
 | some o =>
  rw [e] at h;refine ⟨o, rfl, ?_⟩
  cases o <;> simp at h <;> rfl
theorem ChR.isCells {B : Nat} {W : World} {tc : Nat} {c0 c1 c2 ov rv : Value} {O : List (List Int)} {R : List (List (List Int))} (h : ChR B W tc c0 c1 c2 ov rv O R) : ∀ z, MK tc ov rv z → ∃ o : Obj, W.heap[z]? = some o ∧ o.isCells = true := by
 obtain ⟨us, vs, h1, h2, _⟩ := h.own
 rintro z (e | e | e)
 ·subst e; exact cell_isCells h.tri.c0
 ·exact row_isCells h1 z e
 ·exact row_isCells h2 z e
theorem keepsK {B : Nat} {M : Nat → Prop} {W W' : World} (h : Rg.Kp M W W') (hM : ∀ z, M z → ∃ o : Obj, W.heap[z]? = some o ∧ o.isCells = true) : KeepsFrom B W W' :=
 ⟨h.size, fun k o _ hk ho => (h.block k (Array.getElem?_eq_some_iff.1 hk).1 (fun e => by obtain ⟨o', h1, h2⟩ := hM k e; rw [hk] at h1; cases h1; rw [ho] at h2; cases h2)).trans hk⟩
theorem felts_nc {F : Nat → Prop} {W W' : World} {row : Option Nat} (hg : W.grownBy W' row) (hr : ∀ r, row = some r → ∃ o : Obj, W.heap[r]? = some o ∧ o.isCells = false) {us : List Value} {ll : List (List Int)} (h : Rg.FElts F W us ll) : Rg.FElts F W' us ll :=
 ⟨h.1, fun i a b => fvals_nc hg hr (h.2 i a b)⟩
theorem frows_nc {F : Nat → Prop} {W W' : World} {row : Option Nat} (hg : W.grownBy W' row) (hr : ∀ r, row = some r → ∃ o : Obj, W.heap[r]? = some o ∧ o.isCells = false) {v : Value} {ll : List (List Int)} (h : Rg.FRows F W v ll) : Rg.FRows F W' v ll := by
 obtain ⟨us, h1, h2⟩ := h;exact ⟨us, fvals_nc hg hr h1, felts_nc hg hr h2⟩
theorem row_nc {W W' : World} {row : Option Nat} (hg : W.grownBy W' row) (hr : ∀ r, row = some r → ∃ o : Obj, W.heap[r]? = some o ∧ o.isCells = false) {B : Nat} {e : TypeId} {size : Nat} {v : Value} {n : Nat} {xs : List Value} (h : W.ownsRow B e size v n xs) : W'.ownsRow B e size v n xs :=
 rowKp h (Rg.Kp.of_grown hg (M := fun k => row = some k) fun _ e => e) (fun k e1 e2 => by
  obtain ⟨o, h1, h2⟩ := row_isCells h k e2;obtain ⟨o', h3, h4⟩ := hr k e1
  rw [h1] at h3; cases h3; rw [h2] at h4; cases h4)
theorem ChR.nc {B : Nat} {W W' : World} {tc : Nat} {c0 c1 c2 ov rv : Value} {O : List (List Int)} {R : List (List (List Int))} (h : ChR B W tc c0 c1 c2 ov rv O R) {row : Option Nat} (hg : W.grownBy W' row) (hr : ∀ r, row = some r → ∃ o : Obj, W.heap[r]? = some o ∧ o.isCells = false) : ChR B W' tc c0 c1 c2 ov rv O R := by
 obtain ⟨us, vs, h1, h2, h3, h4⟩ := h.own;have hk : Rg.Kp (fun k => row = some k) W W' := Rg.Kp.of_grown hg fun _ e => e;refine ⟨h.tri.kp hk (fun e => ?_), h.low, ⟨us, vs, row_nc hg hr h1, row_nc hg hr h2, (felts_nc hg hr h3).mono fun _ g => g.up hg.size, FElts2.mono ⟨h4.1, fun i a b => frows_nc hg hr (h4.2 i a b)⟩ fun _ g => g.up hg.size⟩, h.apart, h.ot, h.rt⟩;obtain ⟨o, q1, q2⟩ := h.isCells tc (.inl rfl);obtain ⟨o', q3, q4⟩ := hr tc e;rw [q1] at q3; cases q3; rw [q2] at q4; cases q4
def StI (tc : Nat) (nv OV RV : Value) (M : Nat → Prop) (wB Wr W : World) : Prop := Tri W tc nv OV RV ∧ Below tc wB W ∧ Rg.Kp M Wr W
theorem StI.below {tc : Nat} {nv OV RV : Value} {M : Nat → Prop} {wB Wr W W' : World} (h : StI tc nv OV RV M wB Wr W) (hz : tc ≤ W.heap.size) (hb : Below W.heap.size W W') : StI tc nv OV RV M wB Wr W' :=
 ⟨h.1.below hb, h.2.1.trans (hb.mono hz), Rg.Kp.trans (M := M) h.2.2 (Rg.Kp.of_below (M := M) hb) (fun _ _ e => e)⟩
theorem StI.st {tc : Nat} {nv OV RV : Value} {M : Nat → Prop} {wB Wr W W' : World} (h : StI tc nv OV RV M wB Wr W) (hb : Below W.heap.size W W') : StI tc nv OV RV M wB Wr W' := h.below (Nat.le_of_lt h.1.lt) hb
theorem ChR.putO {B : Nat} {W : World} {tc : Nat} {c0 c1 c2 ov rv : Value} {O : List (List Int)} {R : List (List (List Int))} (h : ChR B W tc c0 c1 c2 ov rv O R) (hB : B ≤ W.heap.size) (hO : O.length < 1000000) (i : Int) (ty : TypeId) :
  ∃ W1 W2 a c X, W.alloc (.cells #[.int .i64 i] 3) = W1 ∧ W1.alloc (.cells #[.slice (some ⟨W.heap.size, 0, none⟩) 1 1] 22) = W2 ∧ Below W.heap.size W W1 ∧ Below W1.heap.size W1 W2 ∧
   (Builtin.append_ #[29, 29] ty #[ov, .slice (some ⟨W1.heap.size, 0, none⟩) 1 1]).run Try.prog W2 = .ok (.slice a (O.length + 1) c) X ∧ ChR B X tc c0 c1 c2 (.slice a (O.length + 1) c) rv (O ++ [[i]]) R ∧ W2.grownBy X ov.ownBlock := by
 have hb1 : Below W.heap.size W (W.alloc (.cells #[.int .i64 i] 3)) := (Below.refl _ _).alloc (Nat.le_refl _) _
 have hc1 : (W.alloc (.cells #[.int .i64 i] 3)).cell? ⟨W.heap.size, 0, none⟩ = some (.int .i64 i) := by rw [Rg.cellNew]; rfl
 have hs1 : (W.alloc (.cells #[.int .i64 i] 3)).heap.size = W.heap.size + 1 := by simp
 generalize hW1 : W.alloc (.cells #[.int .i64 i] 3) = W1 at *;have hb2 : Below W1.heap.size W1 (W1.alloc (.cells #[.slice (some ⟨W.heap.size, 0, none⟩) 1 1] 22)) := (Below.refl _ _).alloc (Nat.le_refl _) _
 have hc2 : (W1.alloc (.cells #[.slice (some ⟨W.heap.size, 0, none⟩) 1 1] 22)).cell? ⟨W1.heap.size, 0, none⟩ = some (.slice (some ⟨W.heap.size, 0, none⟩) 1 1) := by rw [Rg.cellNew]; rfl
 have hs2 : (W1.alloc (.cells #[.slice (some ⟨W.heap.size, 0, none⟩) 1 1] 22)).heap.size = W1.heap.size + 1 := by simp
 generalize hW2 : W1.alloc (.cells #[.slice (some ⟨W.heap.size, 0, none⟩) 1 1] 22) = W2 at *;have h2 := (h.below hb1).below hb2;have hc3 := (hb2.cell (p := ⟨W.heap.size, 0, none⟩) (by show W.heap.size < W1.heap.size; omega)).trans hc1
 obtain ⟨a, c, X, r1, r2, r3, r4⟩ := h2.pushO (by omega) (x := .slice (some ⟨W.heap.size, 0, none⟩) 1 1) (l := [i])
  ⟨_, _, rfl, Nat.le_refl _, by unfold maxLen; omega, by simp, fun _ => ⟨W.heap.size, 0, rfl, by omega, ⟨hB, by omega, fun e => by have := (h.lts.1 _ e).2; omega, fun e => by have := (h.lts.2 _ e).2; omega, fun e => by have := h.tri.lt; omega⟩, fun j hj => by simp at hj; subst hj; exact hc3⟩⟩ rfl hO hc2 ty
 exact ⟨W1, W2, a, c, X, rfl, hW2, hb1, hb2, r1, r2, r3⟩
theorem ChR.putR {B : Nat} {W : World} {tc : Nat} {c0 c1 c2 ov rv : Value} {O : List (List Int)} {R : List (List (List Int))} (h : ChR B W tc c0 c1 c2 ov rv O R) (hB : B ≤ W.heap.size) (hR : R.length < 1000000) {V : World} (hV : Below V.heap.size V W) (hVs : (∀ k, ov.ownBlock = some k → k < V.heap.size) ∧ (∀ k, rv.ownBlock = some k → k < V.heap.size) ∧ tc < V.heap.size) (hVB : B ≤ V.heap.size) {v : Value} {p : List Nat} (hp : Rg.NPF V W v p) (hs : ∃ a n c, v = .slice a n c) (ty : TypeId) :
  ∃ W1 W2 a c X, W.alloc (.cells #[v] 39) = W1 ∧ W1.alloc (.cells #[.slice (some ⟨W.heap.size, 0, none⟩) 1 1] 24) = W2 ∧ Below W.heap.size W W1 ∧ Below W1.heap.size W1 W2 ∧
   (Builtin.append_ #[30, 30] ty #[rv, .slice (some ⟨W1.heap.size, 0, none⟩) 1 1]).run Try.prog W2 = .ok (.slice a (R.length + 1) c) X ∧ ChR B X tc c0 c1 c2 ov (.slice a (R.length + 1) c) O (R ++ [[Ma.ofN p]]) ∧ W2.grownBy X rv.ownBlock := by
 have hb1 : Below W.heap.size W (W.alloc (.cells #[v] 39)) := (Below.refl _ _).alloc (Nat.le_refl _) _
 have hc1 : (W.alloc (.cells #[v] 39)).cell? ⟨W.heap.size, 0, none⟩ = some v := by rw [Rg.cellNew]; rfl
 have hs1 : (W.alloc (.cells #[v] 39)).heap.size = W.heap.size + 1 := by simp
 generalize hW1 : W.alloc (.cells #[v] 39) = W1 at *;have hb2 : Below W1.heap.size W1 (W1.alloc (.cells #[.slice (some ⟨W.heap.size, 0, none⟩) 1 1] 24)) := (Below.refl _ _).alloc (Nat.le_refl _) _
 have hc2 : (W1.alloc (.cells #[.slice (some ⟨W.heap.size, 0, none⟩) 1 1] 24)).cell? ⟨W1.heap.size, 0, none⟩ = some (.slice (some ⟨W.heap.size, 0, none⟩) 1 1) := by rw [Rg.cellNew]; rfl
 have hs2 : (W1.alloc (.cells #[.slice (some ⟨W.heap.size, 0, none⟩) 1 1] 24)).heap.size = W1.heap.size + 1 := by simp
 generalize hW2 : W1.alloc (.cells #[.slice (some ⟨W.heap.size, 0, none⟩) 1 1] 24) = W2 at *;have h2 := (h.below hb1).below hb2;have hc3 := (hb2.cell (p := ⟨W.heap.size, 0, none⟩) (by show W.heap.size < W1.heap.size; omega)).trans hc1
 have hG : ∀ k, Fup (fun _ => False) V W k → GS2 B W2 tc ov rv k := fun k hk => by
  rcases hk with hk | hk
  ·exact hk.elim
  ·exact ⟨by omega, by omega, fun e => by have := hVs.1 _ e; omega, fun e => by have := hVs.2.1 _ e; omega, fun e => by have := hVs.2.2; omega⟩
 have hv : Rg.FI (GS2 B W2 tc ov rv) W2 v (Ma.ofN p) := by
  have h0 : FP (Fup (fun _ => False) V W) W v p := FP.new hp;exact Rg.FI.mono (Rg.FI.kp (Rg.FI.kp (M := fun _ => False) h0 (Rg.Kp.of_below hb1) (fun _ _ => id)) (M := fun _ => False) (Rg.Kp.of_below hb2) (fun _ _ => id)) hG
 obtain ⟨a, c, X, r1, r2, r3⟩ := h2.pushR (by omega) (x := .slice (some ⟨W.heap.size, 0, none⟩) 1 1) (l := [Ma.ofN p])
  ⟨[v], ⟨_, _, rfl, Nat.le_refl _, by unfold maxLen; simp, by simp, fun _ => ⟨W.heap.size, 0, rfl, by omega, ⟨hB, by omega, fun e => by have := (h.lts.1 _ e).2; omega, fun e => by have := (h.lts.2 _ e).2; omega, fun e => by have := h.tri.lt; omega⟩, fun j hj => by simp at hj; subst hj; exact hc3⟩⟩, Rg.FElts.one hv⟩ rfl hR hc2 ty
 exact ⟨W1, W2, a, c, X, rfl, hW2, hb1, hb2, r1, r2, r3⟩
def StAns (n : Int) (OO : List (List Int)) (RR : List (List (List Int))) (k : Int) (W : World) (cv : Value) : Prop := (stC n OO RR k ≠ 0 ∧ cv = zeroC) ∨ (stC n OO RR k = 0 ∧ ∃ ov rv, cv = .agg #[.int .i64 n, ov, rv] ∧ ChEqR W ov rv (stO k OO) (stR' n k RR))
def StPost (n : Int) (OO : List (List Int)) (RR : List (List (List Int))) (k : Int) (w : World) (e : Ending) (w' : World) : Prop := ∃ cv, e = .returned (.tuple #[cv, .int .i64 (stC n OO RR k)]) ∧ StAns n OO RR k w' cv ∧ Below w.heap.size w w'
theorem vals_cells {W W' : World} (hc : ∀ a, W'.cell? a = W.cell? a) (hs : W.heap.size ≤ W'.heap.size) {v : Value} {us : List Value} (h : Rg.Vals W v us) : Rg.Vals W' v us := by
 obtain ⟨a, cap, e, h1, h2, h3, h4⟩ := h;refine ⟨a, cap, e, h1, h2, h3, fun h0 => ?_⟩;obtain ⟨b, o, e1, e2, e4⟩ := h4 h0;exact ⟨b, o, e1, Nat.lt_of_lt_of_le e2 hs, fun i hi => (hc _).trans (e4 i hi)⟩
theorem rows_cells {W W' : World} (hc : ∀ a, W'.cell? a = W.cell? a) (hs : W.heap.size ≤ W'.heap.size) {v : Value} {ll : List (List Int)} (h : Rg.Rows W v ll) : Rg.Rows W' v ll := by
 obtain ⟨us, h1, h2, h3⟩ := h;exact ⟨us, vals_cells hc hs h1, h2, fun i a b => vals_cells hc hs (h3 i a b)⟩
theorem cheq_cells {W W' : World} (hc : ∀ a, W'.cell? a = W.cell? a) (hs : W.heap.size ≤ W'.heap.size) {ov rv : Value} {OO : List (List Int)} {RR : List (List (List Int))} (h : ChEqR W ov rv OO RR) : ChEqR W' ov rv OO RR := by
 obtain ⟨h0, us, h1, h2, h3⟩ := h;exact ⟨rows_cells hc hs h0, us, vals_cells hc hs h1, h2, fun i a b => rows_cells hc hs (h3 i a b)⟩
theorem StAns.cells {n : Int} {OO : List (List Int)} {RR : List (List (List Int))} {k : Int} {W W' : World} {cv : Value} (hc : ∀ a, W'.cell? a = W.cell? a) (hs : W.heap.size ≤ W'.heap.size) (h : StAns n OO RR k W cv) : StAns n OO RR k W' cv := by
 rcases h with h | ⟨h, ov, rv, e, h2⟩
 ·exact .inl h
 ·exact .inr ⟨h, ov, rv, e, cheq_cells hc hs h2⟩
theorem st_leave {n : Int} {OO : List (List Int)} {RR : List (List (List Int))} {k : Int} {w W : World} {tmps : Array Value} {x y z : Value} {tb : Nat} {ds : List Nat} (hb : Below w.heap.size w W) (ht : Tri W tb x y z) (ha : StAns n OO RR k W (.agg #[x, y, z])) (p4 : tmps.getD 4 undef = .pointer (some ⟨tb, 0, none⟩)) (p5 : tmps.getD 5 undef = .int .i64 (stC n OO RR k)) (hnd : ds.Nodup) (hD : ∀ D, D ∈ ds → RF.Dfr D W ∧ w.heap.size ≤ D) :
  LeavesInM Fence.wide 0 Try.prog Try.f71 tmps (StPost n OO RR k w) (ds.map RF.mark) .returning W :=
 RF.leaves w.heap.size ds W hnd hD fun W' l1 l2 l3 => ⟨_, results_cellC2 rfl _ p4 p5 ⟨(l2 _).trans ht.c0, (l2 _).trans ht.c1, (l2 _).trans ht.c2, (l3 _).trans ht.f0, (l3 _).trans ht.f1, (l3 _).trans ht.f2, Nat.lt_of_lt_of_le ht.lt l1.size⟩, _, rfl, ha.cells l2 l1.size, hb.trans l1⟩
theorem kp_low {B : Nat} {M : Nat → Prop} {W W' : World} (h : Rg.Kp M W W') (hB : B ≤ W.heap.size) (hM : ∀ z, M z → B ≤ z) : Below B W W' :=
 ⟨h.os, h.tape, h.output, h.size, fun k hk => h.block k (Nat.lt_of_lt_of_le hk hB) (fun e => by have := hM k e; omega)⟩
theorem newI_below {V W W' : World} {u : Value} {l : List Int} (h : Rg.FI (fun z => V.heap.size ≤ z ∧ z < W.heap.size) W u l) (hb : Below W.heap.size W W') : Rg.FI (fun z => V.heap.size ≤ z ∧ z < W'.heap.size) W' u l :=
 Rg.FI.mono (Rg.FI.kp (M := fun _ => False) h (Rg.Kp.of_below hb) (fun _ _ => id)) (fun z g => ⟨g.1, Nat.lt_of_lt_of_le g.2 hb.size⟩)
theorem getD_in2 {α : Type} {l : List (List α)} {i : Nat} (h : i < l.length) : l.getD i [] = l[i] := by rw [List.getD_eq_getElem?_getD, List.getElem?_eq_getElem h]; rfl
def fO (k : Int) (OO : List (List Int)) (z : Nat) : List Int := if (z : Int) < k then [(z : Int)] else OO.getD z []
def fR (n k : Int) (RR : List (List (List Int))) (z : Nat) : List (List Int) := if (z : Int) < k then [oneI n] else RR.getD z []
theorem fin_map {m : Nat} {α : Type} (f : Nat → α) : (finTo m m).map (fun z => f z.1) = (List.range m).map f := by
 rw [← finTo_val (Nat.le_refl m), List.map_map];rfl
end Go.Proofs.Ytcfomoknlchemaa

namespace Go.Proofs.Ytcfomoknlchemaa
open Go.RowKit
open Go.Proofs
open Go.Proofs.Ob
open Go.Shelf
open Go.Proofs.Cm (Gd)
attribute [local go_sem] Oper.semAt_some
attribute [local irreducible] Go.Calls Go.wpList Go.wpListIn
theorem Zhcl4 (args : Array Value) (w : World) : (callFunc 117 args).run Try.prog w = .ok (.enter 117 args) w := by kernel_rfl
theorem chStab_any {n k : Int} {ov rv : Value} {OO : List (List Int)} {RR : List (List (List Int))} {w : World} (h : ChEqR w ov rv OO RR) :
  Calls Try.prog 71 #[.agg #[.int .i64 n, ov, rv], .int .i64 k] w (StPost n OO RR k w) := by
 obtain ⟨oa, oc, rfl, -⟩ := h.1.shape;obtain ⟨ra, rc, rfl⟩ := h.2.shape;have HC := ι h;have HR := ι h.2;have K := ι (Below.refl w.heap.size w);clear h;refine RF.calls_marks Try.func71 rfl ?_;simp only [Try.ntmps71, List.size_toArray, List.length_cons, List.length_nil, Nat.reduceAdd, Nat.reduceSub, Array.replicate_succ, Array.replicate_zero, List.push_toArray, List.append_toArray, List.nil_append, List.cons_append];have hs0 : w.heap.size = w.heap.size + 0 := rfl;go_upto_region 0 with (fail);refine wp_region_list ?_;have hbx := box3 w (.int .i64 n) (.slice oa OO.length oc) (.slice ra RR.length rc)
 have hs : (w.alloc (.cells #[.int .i64 n, .slice oa OO.length oc, .slice ra RR.length rc] 32)).heap.size = w.heap.size + 1 := by simp
 refine Rg.lr 2 (Rg.exec_box _ _ rfl rfl) ?_;go_frame;have hb := (Below.refl w.heap.size w).alloc (Nat.le_refl _) (.cells #[.int .i64 n, .slice oa OO.length oc, .slice ra RR.length rc] 32);generalize w.alloc (.cells #[.int .i64 n, .slice oa OO.length oc, .slice ra RR.length rc] 32) = w1 at *;replace HC := ι (HC.out.below hb);replace K := ι (Rg.acc K.out hb);clear hb;have A0 := ι hbx.1;have A1 := ι hbx.2.1;have A2 := ι hbx.2.2
 have hs1 : w1.heap.size = w.heap.size + 1 := by omega
 clear hs;clear hbx;have hnw := CW.new w1 (.int .i64 k) 3
 have hs : (w1.alloc (.cells #[.int .i64 k] 3)).heap.size = w1.heap.size + 1 := by simp
 refine Rg.lr 3 (exec_boxV (v := .int .i64 k) _ _ rfl rfl rfl) ?_;go_frame;have hb := (Below.refl w1.heap.size w1).alloc (Nat.le_refl _) (.cells #[.int .i64 k] 3);generalize w1.alloc (.cells #[.int .i64 k] 3) = w2 at *;replace HC := ι (HC.out.below hb);replace A0 := ι (A0.out.below hb);replace A1 := ι (A1.out.below hb);replace A2 := ι (A2.out.below hb);replace K := ι (Rg.acc K.out hb);clear hb;rw [hs1] at hnw ⊢
 have hs2 : w2.heap.size = w.heap.size + 2 := by omega
 have CK := ι hnw;clear hnw hs;have hnw := Tri.new w2 (.int .i64 0) (.slice none 0 0) (.slice none 0 0)
 have hs : (w2.alloc (.cells #[.int .i64 0, .slice none 0 0, .slice none 0 0] 32)).heap.size = w2.heap.size + 1 := by simp
 refine Rg.lr 4 (exec_allocC rfl) ?_;go_frame;have hb := (Below.refl w2.heap.size w2).alloc (Nat.le_refl _) (.cells #[.int .i64 0, .slice none 0 0, .slice none 0 0] 32);generalize w2.alloc (.cells #[.int .i64 0, .slice none 0 0, .slice none 0 0] 32) = w3 at *;replace HC := ι (HC.out.below hb);replace A0 := ι (A0.out.below hb);replace A1 := ι (A1.out.below hb);replace A2 := ι (A2.out.below hb);replace CK := ι (CK.out.below hb);replace K := ι (Rg.acc K.out hb);clear hb;rw [hs2] at hnw ⊢
 have hs3 : w3.heap.size = w.heap.size + 3 := by omega
 have FT := ι hnw;clear hnw hs;refine Rg.lr 5 (Rg.xa (.int .i64 0) _ rfl rfl) ?_;go_frame;obtain ⟨ck, hck⟩ : ∃ c, Hid (chCode n OO RR = c) := ⟨_, ι rfl⟩;go_upto_region 1 with (fail);refine wp_region_list ?_;refine Rg.lr 13 (Rg.exec_load (v := (.agg #[.int .i64 n, .slice oa OO.length oc, .slice ra RR.length rc])) _ _ rfl ⟨w.heap.size, 0, none⟩ rfl (run_loadC3 A0.out.cell A1.out.cell A2.out.cell)) ?_;go_frame;refine list_ask (some 14) rfl rfl _ _ (exec_fn1 33 _ _ rfl rfl (Xccl0 _ _)) ?_;refine (chCheck_c HC.out).mono ?_;rintro e1 w4 ⟨rfl, hb⟩;rw [hck.out];refine ⟨_, rfl, ?_⟩;go_frame;replace HC := ι (HC.out.below hb);replace A0 := ι (A0.out.below hb);replace A1 := ι (A1.out.below hb);replace A2 := ι (A2.out.below hb);replace CK := ι (CK.out.below hb);replace FT := ι (FT.out.below hb);replace K := ι (Rg.acc K.out hb);clear hb;refine Rg.lr 6 (Rg.xa (.int .i64 ck) _ rfl rfl) ?_;go_frame
 by_cases h0 : ck = 0
 case neg =>
  skip
  go_upto_region 2 with (fail);refine wp_region_list ?_;refine Rg.lr 15 (Rg.xm (.int .i64 ck) _ rfl rfl) ?_;go_frame;refine Rg.lr 16 (exec_bin (R := .bool true) .neq _ _ _ rfl rfl rfl (b_neqB _ (decide_eq_true h0))) ?_;go_frame;go_upto_region 3 with (fail);refine wp_region_list ?_;refine Rg.lr 17 (exec_buildC0 rfl) ?_;go_frame;refine Rg.lr 18 (Rg.xm (.int .i64 ck) _ rfl rfl) ?_;go_frame;refine Rg.list_skip none rfl rfl (Rg.exec_store _ _ _ rfl _ rfl _ rfl (run_storeC _ _ _ _ _ _ _ FT.out)) ?_;go_frame;refine Rg.lr 5 (Rg.xa (.int .i64 ck) _ rfl rfl) ?_;go_frame;have htt := FT.out.set (.int .i64 0) (.slice none 0 0) (.slice none 0 0);have hkf := ((K.out.setCell (p := ⟨(w.heap.size + 2), 0, none⟩) (by show w.heap.size ≤ w.heap.size + 2; omega) (.int .i64 0)).setCell (p := ⟨(w.heap.size + 2), 1, none⟩) (by show w.heap.size ≤ w.heap.size + 2; omega) (.slice none 0 0)).setCell (p := ⟨(w.heap.size + 2), 2, none⟩) (by show w.heap.size ≤ w.heap.size + 2; omega) (.slice none 0 0)
  generalize ((w4.setCell ⟨(w.heap.size + 2), 0, none⟩ (.int .i64 0)).setCell ⟨(w.heap.size + 2), 1, none⟩ (.slice none 0 0)).setCell ⟨(w.heap.size + 2), 2, none⟩ (.slice none 0 0) = w99 at *;have HTT := ι htt;have KX := ι hkf;have HV := ι (show stC n OO RR k = ck from by unfold stC; rw [if_neg (by rw [hck.out]; exact h0)]; exact hck.out)
  have HA := ι (show StAns n OO RR k w99 zeroC from .inl ⟨by rw [HV.out]; first | exact h0 | decide, rfl⟩)
  clear htt hkf ;go_wp2;exact st_leave (ds := []) KX.out HTT.out HA.out rfl (by rw [HV.out]; rfl) (by simp) (fun D hD => by simp at hD)
 case pos =>
  have HZ := ι (hck.out.trans h0);go_upto_region 2 with (fail);refine wp_region_list ?_;refine Rg.lr 15 (Rg.xm (.int .i64 ck) _ rfl rfl) ?_;go_frame;refine Rg.lr 16 (exec_bin (R := .bool false) .neq _ _ _ rfl rfl rfl (b_neqB _ (decide_eq_false (fun e => e h0)))) ?_;go_frame;clear h0
  by_cases hk0 : k < 0
  case pos =>
   skip
   go_upto_region 4 with (fail);refine wp_region_list ?_;refine Rg.lr 19 (Rg.exec_load (v := .int .i64 k) _ _ rfl ⟨(w.heap.size + 1), 0, none⟩ rfl (run_loadInt CK.out.c)) ?_;go_frame;refine Rg.lr 20 (exec_bin (R := .bool true) .lss _ _ _ rfl rfl rfl (b_lss _ (decide_eq_true (by omega)))) ?_;go_frame;refine Rg.lr 21 (Rg.xm (.bool true) _ rfl rfl) ?_;go_frame;refine listW_pass (some 22) (by kernel_rfl) rfl ?_;go_frame;refine listW_pass (some 23) (by kernel_rfl) rfl ?_;go_frame;refine listW_pass (some 24) (by kernel_rfl) rfl ?_;go_frame;refine listW_pass (some 25) (by kernel_rfl) rfl ?_;go_frame;refine Rg.lr 26 (exec_pickT (v := .bool true) _ _ _ rfl rfl rfl) ?_;go_frame;go_upto_region 5 with (fail);refine wp_region_list ?_;refine Rg.lr 27 (exec_buildC0 rfl) ?_;go_frame;refine Rg.list_skip none rfl rfl (Rg.exec_store _ _ _ rfl _ rfl _ rfl (run_storeC _ _ _ _ _ _ _ FT.out)) ?_;go_frame;refine Rg.lr 5 (Rg.xa (.int .i64 ((2 : Nat) : Int)) _ rfl rfl) ?_;go_frame
   have htt := FT.out.set (.int .i64 0) (.slice none 0 0) (.slice none 0 0);have hkf := ((K.out.setCell (p := ⟨(w.heap.size + 2), 0, none⟩) (by show w.heap.size ≤ w.heap.size + 2; omega) (.int .i64 0)).setCell (p := ⟨(w.heap.size + 2), 1, none⟩) (by show w.heap.size ≤ w.heap.size + 2; omega) (.slice none 0 0)).setCell (p := ⟨(w.heap.size + 2), 2, none⟩) (by show w.heap.size ≤ w.heap.size + 2; omega) (.slice none 0 0);generalize ((w4.setCell ⟨(w.heap.size + 2), 0, none⟩ (.int .i64 0)).setCell ⟨(w.heap.size + 2), 1, none⟩ (.slice none 0 0)).setCell ⟨(w.heap.size + 2), 2, none⟩ (.slice none 0 0) = w99 at *;have HTT := ι htt;have KX := ι hkf;have HV := ι (show stC n OO RR k = 2 from by unfold stC; rw [if_pos HZ.out, if_neg (by omega)])
   have HA := ι (show StAns n OO RR k w99 zeroC from .inl ⟨by rw [HV.out]; first | exact h0 | decide, rfl⟩)
   clear htt hkf hk0 hs0 hs1 hs2 hs3;go_wp2;exact st_leave (ds := []) KX.out HTT.out HA.out rfl (by rw [HV.out]; rfl) (by simp) (fun D hD => by simp at hD)
  by_cases hk1 : n < k
  case pos =>
   skip
   go_upto_region 4 with (fail);refine wp_region_list ?_;refine Rg.lr 19 (Rg.exec_load (v := .int .i64 k) _ _ rfl ⟨(w.heap.size + 1), 0, none⟩ rfl (run_loadInt CK.out.c)) ?_;go_frame;refine Rg.lr 20 (exec_bin (R := .bool false) .lss _ _ _ rfl rfl rfl (b_lss _ (decide_eq_false (by omega)))) ?_;go_frame;refine Rg.lr 21 (Rg.xm (.bool false) _ rfl rfl) ?_;go_frame;refine listW_run (some 22) rfl rfl (Rg.exec_load (v := .int .i64 k) _ _ rfl ⟨(w.heap.size + 1), 0, none⟩ rfl (run_loadInt CK.out.c)) ?_;go_frame;refine listW_run (some 23) rfl rfl (exec_field _ rfl rfl (chF0 _ _)) ?_;go_frame;refine listW_run (some 24) rfl rfl (Rg.exec_load (v := .int .i64 n) _ _ rfl ⟨w.heap.size, 0, none⟩ rfl (run_loadInt A0.out.cell)) ?_;go_frame;refine listW_run (some 25) rfl rfl (exec_bin (R := .bool true) .gtr _ _ _ rfl rfl rfl (b_gtr _ (decide_eq_true (by omega)))) ?_;go_frame;refine Rg.lr 26 (exec_pickF (v := .bool true) _ _ _ rfl rfl rfl) ?_;go_frame
   go_upto_region 5 with (fail);refine wp_region_list ?_;refine Rg.lr 27 (exec_buildC0 rfl) ?_;go_frame;refine Rg.list_skip none rfl rfl (Rg.exec_store _ _ _ rfl _ rfl _ rfl (run_storeC _ _ _ _ _ _ _ FT.out)) ?_;go_frame;refine Rg.lr 5 (Rg.xa (.int .i64 ((2 : Nat) : Int)) _ rfl rfl) ?_;go_frame;have htt := FT.out.set (.int .i64 0) (.slice none 0 0) (.slice none 0 0);have hkf := ((K.out.setCell (p := ⟨(w.heap.size + 2), 0, none⟩) (by show w.heap.size ≤ w.heap.size + 2; omega) (.int .i64 0)).setCell (p := ⟨(w.heap.size + 2), 1, none⟩) (by show w.heap.size ≤ w.heap.size + 2; omega) (.slice none 0 0)).setCell (p := ⟨(w.heap.size + 2), 2, none⟩) (by show w.heap.size ≤ w.heap.size + 2; omega) (.slice none 0 0);generalize ((w4.setCell ⟨(w.heap.size + 2), 0, none⟩ (.int .i64 0)).setCell ⟨(w.heap.size + 2), 1, none⟩ (.slice none 0 0)).setCell ⟨(w.heap.size + 2), 2, none⟩ (.slice none 0 0) = w99 at *
   have HTT := ι htt;have KX := ι hkf;have HV := ι (show stC n OO RR k = 2 from by unfold stC; rw [if_pos HZ.out, if_neg (by omega)])
   have HA := ι (show StAns n OO RR k w99 zeroC from .inl ⟨by rw [HV.out]; first | exact h0 | decide, rfl⟩)
   clear htt hkf hk0 hk1 hs0 hs1 hs2 hs3;go_wp2;exact st_leave (ds := []) KX.out HTT.out HA.out rfl (by rw [HV.out]; rfl) (by simp) (fun D hD => by simp at hD)
  go_upto_region 4 with (fail);refine wp_region_list ?_;refine Rg.lr 19 (Rg.exec_load (v := .int .i64 k) _ _ rfl ⟨(w.heap.size + 1), 0, none⟩ rfl (run_loadInt CK.out.c)) ?_;go_frame;refine Rg.lr 20 (exec_bin (R := .bool false) .lss _ _ _ rfl rfl rfl (b_lss _ (decide_eq_false (by omega)))) ?_;go_frame;refine Rg.lr 21 (Rg.xm (.bool false) _ rfl rfl) ?_;go_frame;refine listW_run (some 22) rfl rfl (Rg.exec_load (v := .int .i64 k) _ _ rfl ⟨(w.heap.size + 1), 0, none⟩ rfl (run_loadInt CK.out.c)) ?_;go_frame;refine listW_run (some 23) rfl rfl (exec_field _ rfl rfl (chF0 _ _)) ?_;go_frame;refine listW_run (some 24) rfl rfl (Rg.exec_load (v := .int .i64 n) _ _ rfl ⟨w.heap.size, 0, none⟩ rfl (run_loadInt A0.out.cell)) ?_;go_frame;refine listW_run (some 25) rfl rfl (exec_bin (R := .bool false) .gtr _ _ _ rfl rfl rfl (b_gtr _ (decide_eq_false (by omega)))) ?_;go_frame;refine Rg.lr 26 (exec_pickF (v := .bool false) _ _ _ rfl rfl rfl) ?_;go_frame
  have HSC := ι (show stC n OO RR k = 0 by unfold stC; rw [if_pos HZ.out, if_pos (by omega)]);obtain ⟨N, O, R, rfl, hN1, hN2, hOO, hRR, hch, hgs⟩ := chCode_ok HZ.out;have HOK := ι (chCode_ok HZ.out);have HLR := ι (show RR.length = N by rw [hRR, List.length_map, hch.lenR]);have HLO := ι (show OO.length = N by rw [hOO, List.length_map, hch.lenO])
  have HON := ι (show ∀ X (h : X < OO.length) (h2 : X < RR.length), OO[X].length = RR[X].length ∧ 1 ≤ OO[X].length ∧ OO[X].length ≤ 64 from fun X h h2 => by
   have e := (chCode_ok HZ.out).row h2 h
   have hXn : X < N := by rw [hOO, List.length_map, hch.lenO] at h; exact h
   have hm : X ∈ O.getD X [] := (hch.orb X X hXn).2 ⟨Ma.oneN N, ⟨.one, Cm.Fx.one (by omega)⟩, Cm.ap_one hXn⟩
   have e2 : OO[X].length = (O.getD X []).length := by
    have hXO : X < O.length := by rw [hch.lenO]; exact hXn
    simp only [hOO, List.getElem_map, Ma.len_ofN, getD_inf hXO]
   have := List.length_pos_of_mem hm
   exact ⟨e.1.symm, by omega, by omega⟩)
  have HNN := ι (show k ≤ ((N : Nat) : Int) from by omega);clear hOO hRR hch hgs hk1;go_upto_region 6 with (fail);refine wp_region_list ?_;refine Rg.lr 28 (exec_field _ rfl rfl (chF0 _ _)) ?_;go_frame;refine Rg.lr 29 (Rg.exec_load (v := .int .i64 ((N : Nat) : Int)) _ _ rfl ⟨w.heap.size, 0, none⟩ rfl (run_loadInt A0.out.cell)) ?_;go_frame;refine Rg.lr 30 (exec_buildC1 (d := ((N : Nat) : Int)) _ rfl rfl) ?_;go_frame;have hnw := Tri.new w4 (.int .i64 0) (.slice none 0 0) (.slice none 0 0);refine Rg.lr 7 (exec_allocC rfl) ?_;go_frame;have hKB := (Below.refl w4.heap.size w4).alloc (Nat.le_refl _) (.cells #[.int .i64 0, .slice none 0 0, .slice none 0 0] 32);generalize w4.alloc (.cells #[.int .i64 0, .slice none 0 0, .slice none 0 0] 32) = w5 at *;refine Rg.list_skip none rfl rfl (Rg.exec_store _ _ _ rfl _ rfl _ rfl (run_storeC _ _ _ _ _ _ _ hnw)) ?_;go_frame;have hFC := hnw.set (.int .i64 ((N : Nat) : Int)) (.slice none 0 0) (.slice none 0 0)
  have hK1 := ((hKB.setCell (p := ⟨w4.heap.size, 0, none⟩) (Nat.le_refl _) (.int .i64 ((N : Nat) : Int))).setCell (p := ⟨w4.heap.size, 1, none⟩) (Nat.le_refl _) (.slice none 0 0)).setCell (p := ⟨w4.heap.size, 2, none⟩) (Nat.le_refl _) (.slice none 0 0);generalize ((w5.setCell ⟨w4.heap.size, 0, none⟩ (.int .i64 ((N : Nat) : Int))).setCell ⟨w4.heap.size, 1, none⟩ (.slice none 0 0)).setCell ⟨w4.heap.size, 2, none⟩ (.slice none 0 0) = w50 at *;have K1 := ι (show Below w4.heap.size w4 w50 from hK1);have CH := ι (ChR.start hFC (Nat.le_refl _));have HSZ := ι (show w.heap.size + 3 ≤ w4.heap.size by have := FT.out.lt; omega);clear hFC hK1 hKB hnw hs0 hs1 hs2 hs3;go_upto_region 7 with (fail);refine wp_region_list ?_;refine Rg.lr 31 (Rg.exec_load (v := (.agg #[.int .i64 ((N : Nat) : Int), .slice oa OO.length oc, .slice ra RR.length rc])) _ _ rfl ⟨w.heap.size, 0, none⟩ rfl (run_loadC3 ((Below.cell (p := ⟨w.heap.size, 0, none⟩) K1.out A0.out.lt).trans A0.out.cell) ((Below.cell (p := ⟨w.heap.size, 1, none⟩) K1.out A1.out.lt).trans A1.out.cell) ((Below.cell (p := ⟨w.heap.size, 2, none⟩) K1.out A2.out.lt).trans A2.out.cell))) ?_;go_frame
  refine list_ask (some 32) rfl rfl _ _ (exec_fn1 82 _ _ rfl rfl (Wvcl0 _ _)) ?_;refine (reps_any _ _ _ w50).mono ?_;rintro e1 w51 ⟨fb, rfl, hfb, hb⟩;have hsz := hb.size;refine ⟨_, rfl, ?_⟩;go_frame;replace CH := ι (CH.out.below hb);replace K1 := ι (Rg.acc K1.out hb);clear hb;have FB := ι hfb;clear hfb;have HS0 := ι (show w.heap.size + 4 ≤ w51.heap.size by have := CH.out.tri.lt; have := HSZ.out; omega);have HS1 := ι (show w4.heap.size < w51.heap.size from CH.out.tri.lt);clear hsz;obtain ⟨us, hus, hul, hur⟩ := HR.out;have HUR := ι hur;have KW := ι (show Below w.heap.size w w51 from K.out.trans (K1.out.mono K.out.size))
  have hrv : RV3 w.heap.size w51 ra RR.length (fun k => us[k]?.getD undef) := by
   obtain ⟨a', c', e, q1, q2, q3, q4⟩ := hus
   injection e with e1 e2 e3
   refine ⟨by have := HLR.out; omega, fun h0 => ?_, fun b off e5 j hj => ?_, KW.out.size⟩
   ·obtain ⟨b, o, e4, e5, _⟩ := q4 (by omega)
    exact ⟨b, o, e1.trans e4, e5⟩
   ·obtain ⟨b', o', e4, e6, e7⟩ := q4 (by omega)
    rw [e1, e4] at e5;simp only [Option.some.injEq, Addr.mk.injEq, and_true] at e5;obtain ⟨rfl, rfl⟩ := e5;rw [(KW.out.cell (p := ⟨b', o' + j, none⟩) e6)];show _ = some (us[j]?.getD undef);rw [List.getElem?_eq_getElem (by omega)];exact e7 j (by omega)
  have HRV := ι hrv;have HUL := ι hul;clear hus hrv hul hur;go_wp2
  refine range_reps2 rfl FB.out HRV.out rfl (fun pre W => (∃ ov rv, ChR w4.heap.size W w4.heap.size (.int .i64 ((N : Nat) : Int)) ov rv ov rv (pre.map fun z => fO k OO z.1) (pre.map fun z => fR ((N : Nat) : Int) k RR z.1)) ∧ Below w4.heap.size w4 W)
   (fun c pre W => False) ?hI ?hIx ⟨⟨_, _, CH.out⟩, K1.out⟩ ?a1 ?assign ?body ?done ?stop
  case assign =>
   intro l x W K hK
   gi_wp2
   exact hK
  case hI =>
   rintro pre W W' row ⟨⟨ov, rv, h1⟩, h2⟩ hg hr;exact ⟨⟨ov, rv, h1.nc hg (fun r e => (hr r e).2)⟩, h2.grown hg h2.size (fun k e => by have := (hr k e).1; have := HS1.out; omega)⟩
  case hIx =>
   intro c pre W W' row h hg hr;exact h
  case stop =>
   intro D c k' W hD hk h hd;exact h.elim
  case body =>
   rintro l pre ⟨X, hX⟩ Wb ⟨⟨ov, rv, hch⟩, hbl⟩ hpl;obtain ⟨B, hB⟩ : ∃ B, w51.heap.size = B := ⟨_, rfl⟩;rw [hB] at HS0 HS1 ⊢;clear FB HRV CH K1 KW hB
   have hXn : X < N := by have := HLR.out; omega
   have CH := ι hch;have K1 := ι hbl;obtain ⟨OL, hOL⟩ : ∃ l, Hid ((pre.map fun z => fO k OO z.1) = l) := ⟨_, ι rfl⟩;obtain ⟨RL, hRL⟩ : ∃ l, Hid ((pre.map fun z => fR ((N : Nat) : Int) k RR z.1) = l) := ⟨_, ι rfl⟩;rw [hOL.out, hRL.out] at CH;have HOLN := ι (show OL.length < 1000000 by rw [← hOL.out, List.length_map]; have := HLR.out; omega);have HRLN := ι (show RL.length < 1000000 by rw [← hRL.out, List.length_map]; have := HLR.out; omega);obtain ⟨ova, ovc, rfl⟩ := CH.out.shapeO;obtain ⟨rva, rvc, rfl⟩ := CH.out.shapeR;have HXR := ι hX;have HXN := ι hXn;have HXO := ι (show X < OO.length by have := HLO.out; omega);clear hch hbl;have hu := HUR.out X (by rw [HUL.out]; exact hX) hX
   have e1 : us[X]?.getD undef = us[X]'(by rw [HUL.out]; exact hX) := by rw [List.getElem?_eq_getElem (by rw [HUL.out]; exact hX)]; rfl
   rw [← e1] at hu
   dsimp only
   generalize us[X]?.getD undef = u at *;clear e1;obtain ⟨r, hr⟩ : ∃ r : List (List Int), Hid (RR[X]'hX = r) := ⟨_, ι rfl⟩;obtain ⟨ol, hol⟩ : ∃ o : List Int, Hid (OO[X]'HXO.out = o) := ⟨_, ι rfl⟩;rw [hr.out] at hu;obtain ⟨ua, uc, rfl, -, -, -, hrc⟩ := hu.shape;have HRC := ι hrc;have hon := HON.out X HXO.out hX;rw [hr.out, hol.out] at hon;have HLE := ι hon;have HXP := ι (show ∀ x ∈ r, (x.length : Int) = ((N : Nat) : Int) from fun x hx => (HOK.out.perm hX (by rw [hr.out]; exact hx)).1);clear hrc hon hu;obtain ⟨oa', oc', e2, -, -, -, hos⟩ := HC.out.1.shape
   injection e2 with e3 _ e5
   subst e3 e5;obtain ⟨ob, oo, rfl, hob, hos⟩ := hos (by have := HXO.out; omega);obtain ⟨yv, hyc, hyi⟩ := hos X HXO.out;rw [hol.out] at hyi;obtain ⟨qa, qc, rfl, -⟩ := hyi.shape;have CO := ι (CL.mk hyc hob);have IO := ι hyi;obtain ⟨M, hM⟩ : ∃ M, Hid (MK w4.heap.size (.slice ova OL.length ovc) (.slice rva RL.length rvc) = M) := ⟨_, ι rfl⟩;have HMC := ι (show ∀ z, M z → ∃ o : Obj, Wb.heap[z]? = some o ∧ o.isCells = true by rw [← hM.out]; exact CH.out.isCells);have HMO := ι (show (∀ z, (Value.slice ova OL.length ovc).ownBlock = some z → M z) ∧ (∀ z, (Value.slice rva RL.length rvc).ownBlock = some z → M z) ∧ M w4.heap.size by rw [← hM.out]; exact ⟨fun z e => .inr (.inl e), fun z e => .inr (.inr e), .inl rfl⟩)
   have HML := ι (show ∀ z, M z → w4.heap.size ≤ z by
    rw [← hM.out]
    rintro z (e | e | e)
    ·omega
    ·exact (CH.out.lts.1 z e).1
    ·exact (CH.out.lts.2 z e).1)
   have HBW := ι (show w4.heap.size ≤ Wb.heap.size from Nat.le_of_lt CH.out.tri.lt);clear hos hyc hyi hob
   by_cases hXk : (X : Int) < k
   case pos =>
    have HF1 := ι (show fO k OO X = [(X : Int)] from if_pos hXk);have HF2 := ι (show fR ((N : Nat) : Int) k RR X = [oneI ((N : Nat) : Int)] from if_pos hXk)
    gi_upto_region 10 with (fail)
    refine wpIn_region_list ?_;refine Rg.in_run (some 35) rfl rfl (fun _ hh => by cases hh) (Rg.xm (.int .i64 ((X : Nat) : Int)) _ rfl rfl) ?_;go_frame;refine Rg.in_run (some 36) rfl rfl (fun _ hh => by cases hh) (Rg.exec_load (v := .int .i64 k) _ _ rfl ⟨(w.heap.size + 1), 0, none⟩ rfl (run_loadInt ((Below.cell (p := ⟨(w.heap.size + 1), 0, none⟩) K1.out CK.out.lt).trans CK.out.c))) ?_;go_frame;refine Rg.in_run (some 37) rfl rfl (fun _ hh => by cases hh) (exec_bin (R := .bool true) .lss _ _ _ rfl rfl rfl (b_lss _ (decide_eq_true (by omega)))) ?_;go_frame
    gi_upto_region 11 with (fail)
    have hV1 : Below Wb.heap.size Wb Wb.drew := (Below.refl _ _).drew;have hWr : Below Wb.heap.size Wb Wb.drew := (Below.refl _ _).drew;replace CH := ι (CH.out.below hV1);replace K1 := ι (K1.out.trans (hV1.mono HBW.out));clear hV1;have hV0 : Below Wb.heap.size Wb Wb.drew := (Below.refl _ _).drew;generalize Fup (fun _ : Nat => True) Wb Wb.drew = F1 at *;clear hV0;refine Rg.Any.beginIn (hnd := by kernel_rfl) (S := Rg.Both 15 (StI w4.heap.size (.int .i64 ((N : Nat) : Int)) (Value.slice ova OL.length ovc) (Value.slice rva RL.length rvc) M w4 Wb) (fun W : World => Below w4.heap.size w4 W)) mix ?_;generalize Wb.drew = w61 at *;have hS : ∀ (l : Array Bool) W, (StI w4.heap.size (.int .i64 ((N : Nat) : Int)) (Value.slice ova OL.length ovc) (Value.slice rva RL.length rvc) M w4 Wb) W → Rg.Both 15 (StI w4.heap.size (.int .i64 ((N : Nat) : Int)) (Value.slice ova OL.length ovc) (Value.slice rva RL.length rvc) M w4 Wb) (fun W : World => Below w4.heap.size w4 W) l W := fun l W h => ⟨.inr h, h.2.1⟩
    have hS2 : ∀ (l : Array Bool) W, l.getD 15 false = true → (fun W : World => Below w4.heap.size w4 W) W → Rg.Both 15 (StI w4.heap.size (.int .i64 ((N : Nat) : Int)) (Value.slice ova OL.length ovc) (Value.slice rva RL.length rvc) M w4 Wb) (fun W : World => Below w4.heap.size w4 W) l W := fun l W h h2 => ⟨.inl h, h2⟩;have hI : (StI w4.heap.size (.int .i64 ((N : Nat) : Int)) (Value.slice ova OL.length ovc) (Value.slice rva RL.length rvc) M w4 Wb) w61 := ⟨CH.out.tri, K1.out, Rg.Kp.of_below (M := M) hWr⟩;refine Rg.tg 0 15 (.pointer (some ⟨w4.heap.size, 1, none⟩)) 38 rfl rfl (.inl ⟨rfl, fun w _ => exec_field _ rfl rfl (chF1 _ _)⟩) (hS _ _ hI) ?_;go_frame;refine Rg.Any.takeT (i := 1) (t := 15) (v := .slice ova OL.length ovc) (some 39) rfl rfl (by kernel_rfl) (by kernel_rfl) (by kernel_rfl) (fun _ _ _ h => h) rfl (by kernel_rfl) rfl (Rg.yields_cell _ _ rfl rfl ⟨w4.heap.size, 1, none⟩ rfl (fun W hW => Rg.run_loadSl _ _ Try.underlying29 hW.1.c1)) (hS _ _ hI) ?_;go_frame
    refine Rg.tg 2 15 (.int .i64 ((X : Nat) : Int)) 40 rfl rfl (.inl ⟨rfl, fun w _ => Rg.exec_move (v := .int .i64 ((X : Nat) : Int)) _ rfl rfl⟩) (hS _ _ hI) ?_;go_frame;refine Rg.tg 6 15 (.pointer (some ⟨w4.heap.size, 2, none⟩)) 44 rfl rfl (.inl ⟨rfl, fun w _ => exec_field _ rfl rfl (chF2 _ _)⟩) (hS _ _ hI) ?_;go_frame;refine Rg.Any.takeT (i := 7) (t := 15) (v := .slice rva RL.length rvc) (some 45) rfl rfl (by kernel_rfl) (by kernel_rfl) (by kernel_rfl) (fun _ _ _ h => h) rfl (by kernel_rfl) rfl (Rg.yields_cell _ _ rfl rfl ⟨w4.heap.size, 2, none⟩ rfl (fun W hW => Rg.run_loadSl _ _ Try.underlying30 hW.1.c2)) (hS _ _ hI) ?_;go_frame;refine Rg.tg 8 15 (.pointer (some ⟨w.heap.size, 0, none⟩)) 46 rfl rfl (.inl ⟨rfl, fun w _ => exec_field _ rfl rfl (chF0 _ _)⟩) (hS _ _ hI) ?_;go_frame;refine Rg.tg 9 15 (.int .i64 ((N : Nat) : Int)) 47 rfl rfl (Rg.yields_cell _ _ rfl rfl ⟨w.heap.size, 0, none⟩ rfl (fun W hW => run_loadInt ((Below.cell (p := ⟨w.heap.size, 0, none⟩) hW A0.out.lt).trans A0.out.cell))) (hS _ _ hI) ?_;go_frame
    obtain ⟨wp1, wp2, a3, c3, X3, hp1, hp2, hp3, hp4, q1, q2, q3⟩ := CH.out.putO (Nat.le_of_lt CH.out.tri.lt) HOLN.out ((X : Nat) : Int) 29;have HVS := ι (show (∀ z, (Value.slice ova OL.length ovc).ownBlock = some z → z < w61.heap.size) ∧ (∀ z, (Value.slice rva RL.length rvc).ownBlock = some z → z < w61.heap.size) ∧ w4.heap.size < w61.heap.size from ⟨fun z e => (CH.out.lts.1 z e).2, fun z e => (CH.out.lts.2 z e).2, CH.out.tri.lt⟩);have q41 := run_build1i w61 ((X : Nat) : Int);rw [hp1] at q41;have hI2_m := hI.st hp3;refine Rg.Any.one (i := 3) (by kernel_rfl) (Rg.Any.run (some 41) rfl rfl rfl (Rg.exec_buildSlice _ _ _ rfl (.int .i64 ((X : Nat) : Int)) rfl q41) (hS _ _ hI2_m) ?_);go_frame;have q42 := run_build1L wp1 (.slice (some ⟨w61.heap.size, 0, none⟩) 1 1) ⟨_, _, _, rfl⟩;rw [hp2] at q42;have hI3_m := hI2_m.st hp4;refine Rg.Any.one (i := 4) (by kernel_rfl) (Rg.Any.run (some 42) rfl rfl rfl (Rg.exec_buildSlice _ _ _ rfl (.slice (some ⟨w61.heap.size, 0, none⟩) 1 1) rfl q42) (hS _ _ hI3_m) ?_)
    go_frame;have HOW := ι (fun j e => (CH.out.lts.1 j e).1);have hI4_m := (show StI _ _ _ _ _ _ _ _ from ⟨q2.tri, hI3_m.2.1.grown q3 hI3_m.2.1.size (fun j e => (HOW.out j e)), Rg.Kp.trans (M := M) hI3_m.2.2 (Rg.Kp.of_grown q3 (M := M) fun z e => HMO.out.1 z e) (fun _ _ e => e)⟩);refine Rg.Any.one (i := 5) (by kernel_rfl) (Rg.Any.run (some 43) rfl rfl rfl (Rg.exec_append _ _ _ rfl rfl rfl q1) (hS _ _ hI4_m) ?_);go_frame;refine Rg.tg 14 15 (.pointer (some ⟨w4.heap.size, 1, none⟩)) 52 rfl rfl (.inl ⟨rfl, fun w _ => exec_field _ rfl rfl (chF1 _ _)⟩) (hS _ _ hI4_m) ?_;go_frame;have HWX := ι (show w4.heap.size ≤ X3.heap.size from Nat.le_of_lt q2.tri.lt);have HXS := ι (show (∀ z, (Value.slice a3 (OL.length + 1) c3).ownBlock = some z → z < X3.heap.size) ∧ (∀ z, (Value.slice rva RL.length rvc).ownBlock = some z → z < X3.heap.size) ∧ w4.heap.size < X3.heap.size from ⟨fun z e => (q2.lts.1 z e).2, fun z e => (q2.lts.2 z e).2, q2.tri.lt⟩)
    refine Rg.Any.one (i := 10) (by kernel_rfl) (Rg.Any.ask (some 48) rfl rfl rfl _ _ (exec_fn1 116 _ _ rfl rfl (Vqcl0 _ _)) ?_);refine (chOne_any N X3 (by omega)).mono ?_;rintro e1 w62 ⟨ov1, rfl, hone, hb⟩;obtain ⟨b1, o1, c1, rfl⟩ := FP.shape' (FP.new (F := fun _ => True) hone) (Cm.gd_one N) hN1;obtain ⟨wq1, wq2, a4, c4, X4, hr1, hr2, hr3, hr4, r1, r2, r3⟩ := (q2.below hb).putR (Nat.le_trans HWX.out hb.size) HRLN.out hb HXS.out HWX.out hone ⟨_, _, _, rfl⟩ 30;have hI5_u := hI4_m.st hb;clear hI4_m;generalize Fup F1 X3 w62 = F2 at *;clear hb;refine ⟨_, rfl, (hS _ _ hI5_u), ?_⟩;go_frame;have q49 := run_build1P w62 (.slice (some ⟨b1, o1, none⟩) N c1) ⟨_, _, _, rfl⟩;rw [hr1] at q49;have hI6_m := hI5_u.st hr3;refine Rg.Any.one (i := 11) (by kernel_rfl) (Rg.Any.run (some 49) rfl rfl rfl (Rg.exec_buildSlice _ _ _ rfl (.slice (some ⟨b1, o1, none⟩) N c1) rfl q49) (hS _ _ hI6_m) ?_);go_frame;have q50 := run_build1PP wq1 (.slice (some ⟨w62.heap.size, 0, none⟩) 1 1) ⟨_, _, _, rfl⟩
    rw [hr2] at q50;have hI7_m := hI6_m.st hr4;refine Rg.Any.one (i := 12) (by kernel_rfl) (Rg.Any.run (some 50) rfl rfl rfl (Rg.exec_buildSlice _ _ _ rfl (.slice (some ⟨w62.heap.size, 0, none⟩) 1 1) rfl q50) (hS _ _ hI7_m) ?_);go_frame;have HRW := ι (fun j e => (CH.out.lts.2 j e).1);have hI8_m := (show StI _ _ _ _ _ _ _ _ from ⟨r2.tri, hI7_m.2.1.grown r3 hI7_m.2.1.size (fun j e => (HRW.out j e)), Rg.Kp.trans (M := M) hI7_m.2.2 (Rg.Kp.of_grown r3 (M := M) fun z e => HMO.out.2.1 z e) (fun _ _ e => e)⟩);refine Rg.Any.one (i := 13) (by kernel_rfl) (Rg.Any.run (some 51) rfl rfl rfl (Rg.exec_append _ _ _ rfl rfl rfl r1) (hS _ _ hI8_m) ?_);go_frame;have hKX := hI8_m;have hJ9 := hKX.2.1.setCell (p := ⟨w4.heap.size, 1, none⟩) (Nat.le_refl _) (.slice a3 (OL.length + 1) c3);refine Rg.Any.one (i := 15) (by kernel_rfl) (Rg.Any.runSkip none rfl rfl rfl (Rg.exec_store _ _ _ rfl _ rfl _ rfl (Rg.run_storeSl _ infoIntss r2.tri.c1 r2.tri.f1)) (hS2 _ _ rfl hJ9) ?_)
    go_frame;refine Rg.tg 16 15 (.pointer (some ⟨w4.heap.size, 2, none⟩)) 53 rfl rfl (.inl ⟨rfl, fun w _ => exec_field _ rfl rfl (chF2 _ _)⟩) (hS2 _ _ rfl hJ9) ?_;go_frame;have hJ10 := (hKX.2.1.setCell (p := ⟨w4.heap.size, 1, none⟩) (Nat.le_refl _) (.slice a3 (OL.length + 1) c3)).setCell (p := ⟨w4.heap.size, 2, none⟩) (Nat.le_refl _) (.slice a4 (RL.length + 1) c4);refine Rg.Any.one (i := 17) (by kernel_rfl) (Rg.Any.runSkip none rfl rfl rfl (Rg.exec_store _ _ _ rfl _ rfl _ rfl (Rg.run_storeSl _ infoPermss (r2.tri.set1 _).c2 (r2.tri.set1 _).f2)) (hS2 _ _ rfl hJ10) ?_);go_frame;refine Rg.Any.done (by kernel_rfl) ?_ _;refine Rg.onlyN_i ?_;clear hS2;clear hS hI8_m;have hst := r2.store (.slice a3 (OL.length + 1) c3) (.slice a4 (RL.length + 1) c4);have hkk := (hKX.2.1.setCell (p := ⟨w4.heap.size, 1, none⟩) (Nat.le_refl _) (.slice a3 (OL.length + 1) c3)).setCell (p := ⟨w4.heap.size, 2, none⟩) (Nat.le_refl _) (.slice a4 (RL.length + 1) c4)
    have hkm := Rg.Kp.trans (M := M) (Rg.Kp.trans (M := M) hKX.2.2 (Rg.Kp.of_setCell (M := M) (a := ⟨w4.heap.size, 1, none⟩) (v := .slice a3 (OL.length + 1) c3) HMO.out.2.2) (fun _ _ e => e)) (Rg.Kp.of_setCell (M := M) (a := ⟨w4.heap.size, 2, none⟩) (v := .slice a4 (RL.length + 1) c4) HMO.out.2.2) (fun _ _ e => e);generalize (X4.setCell ⟨w4.heap.size, 1, none⟩ (.slice a3 (OL.length + 1) c3)).setCell ⟨w4.heap.size, 2, none⟩ (.slice a4 (RL.length + 1) c4) = w199 at *;have CH2 := ι (show ChR w4.heap.size w199 w4.heap.size (.int .i64 ((N : Nat) : Int)) (.slice a3 (OL.length + 1) c3) (.slice a4 (RL.length + 1) c4) (.slice a3 (OL.length + 1) c3) (.slice a4 (RL.length + 1) c4) ((pre ++ [(⟨X, HXR.out⟩ : Fin RR.length)]).map fun z => fO k OO z.1) ((pre ++ [(⟨X, HXR.out⟩ : Fin RR.length)]).map fun z => fR ((N : Nat) : Int) k RR z.1) by rw [List.map_append, List.map_append, hOL.out, hRL.out]; simp only [List.map_cons, List.map_nil]; rw [show fO k OO X = [(X : Int)] from HF1.out, show fR ((N : Nat) : Int) k RR X = [oneI ((N : Nat) : Int)] from HF2.out]; exact hst)
    have K2 := ι hkk;have KP2 := ι (keepsK (B := B) hkm HMC.out);have KB2 := ι (show Below w.heap.size Wb w199 from kp_low hkm (by have := HBW.out; have := HSZ.out; omega) (fun z hz => by have := HML.out z hz; have := HSZ.out; omega));clear hst hkk hkm
    gi_wp2
    exact ⟨KP2.out, KB2.out, ⟨_, _, CH2.out⟩, K2.out⟩
   case neg =>
    have HF1 := ι (show fO k OO X = ol by unfold fO; rw [if_neg hXk, getD_in2 HXO.out]; exact hol.out);have HF2 := ι (show fR ((N : Nat) : Int) k RR X = r by unfold fR; rw [if_neg hXk, getD_in2 HXR.out]; exact hr.out)
    gi_upto_region 10 with (fail)
    refine wpIn_region_list ?_;refine Rg.in_run (some 35) rfl rfl (fun _ hh => by cases hh) (Rg.xm (.int .i64 ((X : Nat) : Int)) _ rfl rfl) ?_;go_frame;refine Rg.in_run (some 36) rfl rfl (fun _ hh => by cases hh) (Rg.exec_load (v := .int .i64 k) _ _ rfl ⟨(w.heap.size + 1), 0, none⟩ rfl (run_loadInt ((Below.cell (p := ⟨(w.heap.size + 1), 0, none⟩) K1.out CK.out.lt).trans CK.out.c))) ?_;go_frame;refine Rg.in_run (some 37) rfl rfl (fun _ hh => by cases hh) (exec_bin (R := .bool false) .lss _ _ _ rfl rfl rfl (b_lss _ (decide_eq_false (by omega)))) ?_;go_frame
    gi_upto_region 12 with (fail)
    refine wpIn_region_list ?_;refine Rg.in_run (some 10) rfl rfl (fun _ hh => by cases hh) (Rg.xa (.slice none 0 0) _ rfl rfl) ?_;go_frame
    gi_upto_region 13 with (fail)
    refine wpIn_region_list ?_;refine Rg.in_run (some 54) rfl rfl (fun _ hh => by cases hh) (Rg.xm (.slice ua r.length uc) _ rfl rfl) ?_;go_frame;refine Rg.in_run (some 55) rfl rfl (fun _ hh => by cases hh) (exec_len _ _ _ rfl Try.underlying24 _ _ _ rfl) ?_;go_frame;refine Rg.in_run (some 56) rfl rfl (fun _ hh => by cases hh) (Rg.xm (.int .i64 ((0 : Nat) : Int)) _ rfl rfl) ?_;go_frame;have KWb := ι (show Below w.heap.size w Wb from K.out.trans (K1.out.mono K.out.size));have K5 := ι (Below.refl Wb.heap.size Wb);have RP := ι (show RowP Wb.heap.size Wb (.slice none 0 0) (r.take 0) from RowP.nil Wb.heap.size Wb);have HRL := ι (show r.length ≤ 64 by have := HLE.out; omega);clear hXk
    gi_wp2
    gi_loopw [56, 10] (fun iv tv wr => ∃ m : Nat, iv = .int .i64 m ∧ m ≤ r.length ∧ Hid (RowP Wb.heap.size wr tv (r.take m)) ∧ Hid (Below Wb.heap.size Wb wr)) (fun iv _ _ => r.length - (intOf iv).toNat)
    case atStart => exact ⟨0, rfl, Nat.zero_le _, RP, K5⟩
    case round =>
     clear K5 RP;obtain ⟨m, rfl, hm, RP, K5⟩ := hrel;have hrb : r.length ≤ 64 := HRL.out;obtain ⟨ta, tc, htv⟩ := RP.out.shape;rw [List.length_take, Nat.min_eq_left hm] at htv;subst htv
     by_cases hml : m < r.length
     ·have hmN : (m : Int) < (r.length : Int) := by omega
      have HML := ι hml;obtain ⟨ub, uo, rfl, hub, huc⟩ := HRC.out (by omega);obtain ⟨sv, hsc, hsi⟩ := huc m hml;obtain ⟨x, hx⟩ : ∃ x : List Int, Hid (r[m]'hml = x) := ⟨_, ι rfl⟩;rw [hx.out] at hsi;have hxl : (x.length : Int) = ((N : Nat) : Int) := HXP.out x (by rw [← hx.out]; exact List.getElem_mem hml);obtain ⟨sa, sc, rfl, -⟩ := hsi.shape;have CS := ι ((CL.mk hsc hub).below KWb.out);have NS := ι (Rg.Ints.below hsi KWb.out);have HXL := ι (show x.length = N by omega);clear huc hsc hsi hub hxl
      gi_upto_region 14 with (fail)
      refine wpIn_region_list ?_;refine Rg.in_run (some 57) rfl rfl (fun _ hh => by cases hh) (exec_bin (R := .bool true) .lss _ _ _ rfl rfl rfl (b_lss _ (decide_eq_true (by omega)))) ?_;go_frame
      gi_upto_region 15 with (fail)
      refine wpIn_region_list ?_;refine Rg.in_run (some 58) rfl rfl (fun _ hh => by cases hh) (exec_indexS slPerms _ _ rfl ub (uo) (r.length) uc (m) rfl rfl HML.out) ?_;go_frame;refine Rg.in_run (some 59) rfl rfl (fun _ hh => by cases hh) (Rg.exec_load (v := .slice sa x.length sc) _ _ rfl ⟨ub, uo + m, none⟩ rfl (Rg.run_loadSl _ _ Try.underlying39 ((Below.cell (p := ⟨ub, uo + m, none⟩) K5.out CS.out.lt).trans CS.out.cell))) ?_;go_frame;refine Rg.in_run (some 12) rfl rfl (fun _ hh => by cases hh) (Rg.xa (.slice sa x.length sc) _ rfl rfl) ?_;go_frame
      gi_upto_region 16 with (fail)
      refine wpIn_region_list ?_;refine Rg.in_run (some 60) rfl rfl (fun _ hh => by cases hh) (Rg.xm (.slice ta m tc) _ rfl rfl) ?_;go_frame;refine Rg.in_run (some 61) rfl rfl (fun _ hh => by cases hh) (Rg.xm (.slice sa x.length sc) _ rfl rfl) ?_;go_frame;have HLT6 := ι (fun z e => (RP.out.lt z e).2);have HSZ6 := ι K5.out.size;refine Rg.in_ask (some 62) rfl rfl (fun _ hh => by cases hh) _ _ (exec_fn1 83 _ _ rfl rfl (Vzcl3 _ _)) ?_;refine (Clone_any _ x wr (NS.out.below K5.out) (by rw [HXL.out]; exact hN1) (by rw [HXL.out]; omega)).mono ?_;rintro e1 w141 ⟨cv, rfl, hrow, hb⟩;obtain ⟨ca, cc, rfl⟩ := Rg.row_shape hrow;have HROW := ι hrow;refine ⟨_, rfl, ?_⟩;go_frame;replace RP := ι (RP.out.below hb);replace K5 := ι (Rg.acc K5.out hb);clear hb;refine Rg.in_run (some 63) rfl rfl (fun _ hh => by cases hh) (Rg.exec_buildSlice _ _ _ rfl (.slice ca x.length cc) rfl (run_build1P w141 _ ⟨_, _, _, rfl⟩)) ?_;go_frame
      obtain ⟨a9, c9, X9, r1, r2, r3⟩ := RP.out.push K5.out.size HROW.out (by rw [HXL.out]; omega) (fun z e => ⟨by have := (HROW.out.lt z e).1; have := HSZ6.out; omega, fun e2 => by have := (HROW.out.lt z e).1; have := HLT6.out z e2; omega⟩) (by rw [List.length_take]; omega) 24;have r1 := r1;rw [List.length_take, Nat.min_eq_left (Nat.le_of_lt HML.out)] at r1 r2;refine Rg.in_run (some 64) rfl rfl (fun _ hh => by cases hh) (Rg.exec_append _ _ _ rfl rfl rfl r1) ?_;go_frame;refine Rg.in_run (some 10) rfl rfl (fun _ hh => by cases hh) (Rg.xa (.slice a9 (m + 1) c9) _ rfl rfl) ?_;go_frame;have K6 := ι (r3 (Nat.le_refl _) K5.out);have RP2 := ι (show RowP Wb.heap.size X9 (.slice a9 (m + 1) c9) (r.take (m + 1)) by rw [List.take_succ_eq_append_getElem HML.out, show r[m]'HML.out = x from hx.out]; exact r2);clear r1 r2 r3
      gi_wp2
      go_roundw
      case rel => exact ⟨m + 1, by go_num, HML.out, RP2, K6⟩
      case measure => simp [intOf]; have := HML.out; omega
     ·obtain rfl : m = r.length := by omega
      have hmN : ¬ (r.length : Int) < (r.length : Int) := by omega
      rw [List.take_length] at RP
      gi_upto_region 14 with (fail)
      refine wpIn_region_list ?_;refine Rg.in_run (some 57) rfl rfl (fun _ hh => by cases hh) (exec_bin (R := .bool false) .lss _ _ _ rfl rfl rfl (b_lss _ (decide_eq_false (by omega)))) ?_;go_frame;have HV6 := ι (show (∀ z, (Value.slice ova OL.length ovc).ownBlock = some z → z < Wb.heap.size) ∧ (∀ z, (Value.slice rva RL.length rvc).ownBlock = some z → z < Wb.heap.size) ∧ w4.heap.size < Wb.heap.size from ⟨fun z e => (CH.out.lts.1 z e).2, fun z e => (CH.out.lts.2 z e).2, CH.out.tri.lt⟩);have CHq := ι (CH.out.below K5.out);have K1q := ι (show Below w4.heap.size w4 wr from K1.out.trans (K5.out.mono HBW.out));have HSQ := ι K5.out.size;have FRq := ι (RP.out.frows (by omega) (G := GS2 w4.heap.size wr w4.heap.size (Value.slice ova OL.length ovc) (Value.slice rva RL.length rvc)) (fun z g1 g2 => ⟨by have := HBW.out; omega, g2, fun e => by have := HV6.out.1 z e; omega, fun e => by have := HV6.out.2.1 z e; omega, fun e => by have := HV6.out.2.2; omega⟩))
      have KPq := ι (Rg.Kp.of_below (M := M) K5.out);have COA := CO;have IOA := IO;clear CH K1 RP K5
      gi_upto_region 18 with (fail)
      have hV1 : Below wr.heap.size wr wr.drew := (Below.refl _ _).drew;replace CHq := ι (CHq.out.below hV1);replace K1q := ι (K1q.out.trans (hV1.mono (by have := HBW.out; have := HSQ.out; omega)));replace FRq := ι (frows_below FRq.out hV1);replace KPq := ι (Rg.Kp.trans (M := M) KPq.out (Rg.Kp.of_below (M := M) hV1) (fun _ _ e => e));clear hV1;have hV0 : Below wr.heap.size wr wr.drew := (Below.refl _ _).drew;generalize Fup (fun _ : Nat => True) wr wr.drew = F3 at *;clear hV0;refine Rg.Any.beginIn (hnd := by kernel_rfl) (S := Rg.Both 16 (StI w4.heap.size (.int .i64 ((N : Nat) : Int)) (Value.slice ova OL.length ovc) (Value.slice rva RL.length rvc) M w4 Wb) (fun _ => True)) mix ?_;generalize wr.drew = w171 at *;have hS : ∀ (l : Array Bool) W, (StI w4.heap.size (.int .i64 ((N : Nat) : Int)) (Value.slice ova OL.length ovc) (Value.slice rva RL.length rvc) M w4 Wb) W → Rg.Both 16 (StI w4.heap.size (.int .i64 ((N : Nat) : Int)) (Value.slice ova OL.length ovc) (Value.slice rva RL.length rvc) M w4 Wb) (fun _ => True) l W := fun l W h => ⟨.inr h, trivial⟩
      have hS2 : ∀ (l : Array Bool) W, l.getD 16 false = true → Rg.Both 16 (StI w4.heap.size (.int .i64 ((N : Nat) : Int)) (Value.slice ova OL.length ovc) (Value.slice rva RL.length rvc) M w4 Wb) (fun _ => True) l W := fun l W h => ⟨.inl h, trivial⟩;have hI : (StI w4.heap.size (.int .i64 ((N : Nat) : Int)) (Value.slice ova OL.length ovc) (Value.slice rva RL.length rvc) M w4 Wb) w171 := ⟨CHq.out.tri, K1q.out, KPq.out⟩;have HVQ := ι (show (∀ z, (Value.slice ova OL.length ovc).ownBlock = some z → z < w171.heap.size) ∧ (∀ z, (Value.slice rva RL.length rvc).ownBlock = some z → z < w171.heap.size) ∧ w4.heap.size < w171.heap.size from ⟨fun z e => (CHq.out.lts.1 z e).2, fun z e => (CHq.out.lts.2 z e).2, CHq.out.tri.lt⟩);refine Rg.tg 0 16 (.pointer (some ⟨w4.heap.size, 1, none⟩)) 66 rfl rfl (.inl ⟨rfl, fun w _ => exec_field _ rfl rfl (chF1 _ _)⟩) (hS _ _ hI) ?_;go_frame;refine Rg.Any.takeT (i := 1) (t := 16) (v := .slice ova OL.length ovc) (some 67) rfl rfl (by kernel_rfl) (by kernel_rfl) (by kernel_rfl) (fun _ _ _ h => h) rfl (by kernel_rfl) rfl (Rg.yields_cell _ _ rfl rfl ⟨w4.heap.size, 1, none⟩ rfl (fun W hW => Rg.run_loadSl _ _ Try.underlying29 hW.1.c1)) (hS _ _ hI) ?_;go_frame
      refine Rg.tg 2 16 (.pointer (some ⟨w.heap.size, 1, none⟩)) 68 rfl rfl (.inl ⟨rfl, fun w _ => exec_field _ rfl rfl (chF1 _ _)⟩) (hS _ _ hI) ?_;go_frame;refine Rg.Any.takeT (i := 3) (t := 16) (v := .slice (some ⟨ob, oo, none⟩) OO.length oc) (some 69) rfl rfl (by kernel_rfl) (by kernel_rfl) (by kernel_rfl) (fun _ _ _ h => h) rfl (by kernel_rfl) rfl (Rg.yields_cell _ _ rfl rfl ⟨w.heap.size, 1, none⟩ rfl (fun W hW => Rg.run_loadSl _ _ Try.underlying29 ((Below.cell (p := ⟨w.heap.size, 1, none⟩) hW.2.1 A1.out.lt).trans A1.out.cell))) (hS _ _ hI) ?_;go_frame;refine Rg.tg 4 16 (.int .i64 ((X : Nat) : Int)) 70 rfl rfl (.inl ⟨rfl, fun w _ => Rg.exec_move (v := .int .i64 ((X : Nat) : Int)) _ rfl rfl⟩) (hS _ _ hI) ?_;go_frame;refine Rg.tg 5 16 (.pointer (some ⟨ob, oo + X, none⟩)) 71 rfl rfl (Rg.yields_index slIntss _ _ rfl rfl ob (oo) (OO.length) oc (X) rfl rfl HXO.out) (hS _ _ hI) ?_;go_frame;refine Rg.Any.takeT (i := 6) (t := 16) (v := .slice qa ol.length qc) (some 72) rfl rfl (by kernel_rfl) (by kernel_rfl) (by kernel_rfl) (fun _ _ _ h => h) rfl (by kernel_rfl) rfl (Rg.yields_cell _ _ rfl rfl ⟨ob, oo + X, none⟩ rfl (fun W hW => Rg.run_loadSl _ _ Try.underlying22 ((Below.cell (p := ⟨ob, oo + X, none⟩) hW.2.1 COA.out.lt).trans COA.out.cell))) (hS _ _ hI) ?_;go_frame
      refine Rg.tg 10 16 (.pointer (some ⟨w4.heap.size, 2, none⟩)) 76 rfl rfl (.inl ⟨rfl, fun w _ => exec_field _ rfl rfl (chF2 _ _)⟩) (hS _ _ hI) ?_;go_frame;refine Rg.Any.takeT (i := 11) (t := 16) (v := .slice rva RL.length rvc) (some 77) rfl rfl (by kernel_rfl) (by kernel_rfl) (by kernel_rfl) (fun _ _ _ h => h) rfl (by kernel_rfl) rfl (Rg.yields_cell _ _ rfl rfl ⟨w4.heap.size, 2, none⟩ rfl (fun W hW => Rg.run_loadSl _ _ Try.underlying30 hW.1.c2)) (hS _ _ hI) ?_;go_frame;refine Rg.tg 12 16 (.slice ta r.length tc) 78 rfl rfl (.inl ⟨rfl, fun w _ => Rg.exec_move (v := .slice ta r.length tc) _ rfl rfl⟩) (hS _ _ hI) ?_;go_frame
      refine Rg.Any.c3f1q (e := 7) (i := 8) (k := 9) (j := 13) (de := 73) (di := 74) (dk := 75) (dj := 79) (q := 15) (dq := 81) (vq := .pointer (some ⟨w4.heap.size, 1, none⟩)) (I := fun W => (StI w4.heap.size (.int .i64 ((N : Nat) : Int)) (Value.slice ova OL.length ovc) (Value.slice rva RL.length rvc) M w4 Wb) W ∧ w171.heap.size ≤ W.heap.size) (R0 := fun W => ChR w4.heap.size W w4.heap.size (.int .i64 ((N : Nat) : Int)) (Value.slice ova OL.length ovc) (Value.slice rva RL.length rvc) (Value.slice ova OL.length ovc) (Value.slice rva RL.length rvc) OL RL ∧ Rg.FRows (GS2 w4.heap.size W w4.heap.size (Value.slice ova OL.length ovc) (Value.slice rva RL.length rvc)) W (.slice ta r.length tc) r) (Re := fun u W => Rg.FI (fun z => w171.heap.size ≤ z ∧ z < W.heap.size) W u ol ∧ ∃ a n c, u = .slice a n c) (Ri := fun u x W => (fun u W => Rg.FI (fun z => w171.heap.size ≤ z ∧ z < W.heap.size) W u ol ∧ ∃ a n c, u = .slice a n c) u W ∧ Rg.BlkF w171.heap.size [u] x W) (Rk := fun x W => ChR w4.heap.size W w4.heap.size (.int .i64 ((N : Nat) : Int)) (Value.slice ova OL.length ovc) (Value.slice rva RL.length rvc) x (Value.slice rva RL.length rvc) (OL ++ [ol]) RL ∧ Rg.FRows (GS2 w4.heap.size W w4.heap.size x (Value.slice rva RL.length rvc)) W (.slice ta r.length tc) r ∧ ∃ a c, x = .slice a (OL.length + 1) c) (Rj := fun v W => Rg.BlkF w171.heap.size [.slice ta r.length tc] v W) (fun l W h => hS l W h.1)
       (by decide) (by decide) (by decide) (by decide) (by decide) (by decide) (by decide) (by decide) (by kernel_rfl) (by kernel_rfl) (by kernel_rfl) (by kernel_rfl) (by kernel_rfl) (by kernel_rfl) (by kernel_rfl) ?_ ?_
       (fun _ _ hb h => ⟨h.1.below hb, frows_below h.2 hb⟩) (fun _ _ _ hb h => ⟨newI_below h.1 hb, h.2⟩) (fun _ _ _ _ hb h => ⟨⟨newI_below h.1.1 hb, h.1.2⟩, h.2.below hb⟩) (fun _ _ _ hb h => ⟨h.1.below hb, frows_below h.2.1 hb, h.2.2⟩) (fun _ _ _ hb h => h.below hb) ?_ ?_ ?_ ?_ ⟨hI, Nat.le_refl _⟩ (⟨CHq.out, FRq.out⟩) ?_
      ·intro u x y W m hs h
       exact Rg.Any.takeG (i := 15) (t := 16) (v := .pointer (some ⟨w4.heap.size, 1, none⟩)) (some 81) rfl rfl (by kernel_rfl) (by kernel_rfl) (by kernel_rfl) (fun _ _ _ h => h) rfl (.inl ⟨rfl, fun w _ => exec_field _ rfl rfl (chF1 _ _)⟩) hs h
      ·intro u x v y W m hs h
       exact Rg.Any.takeG (i := 15) (t := 16) (v := .pointer (some ⟨w4.heap.size, 1, none⟩)) (some 81) rfl rfl (by kernel_rfl) (by kernel_rfl) (by kernel_rfl) (fun _ _ _ h => h) rfl (.inl ⟨rfl, fun w _ => exec_field _ rfl rfl (chF1 _ _)⟩) hs h
      ·intro b hb W hW
       refine Rg.doesCall rfl rfl (by rcases hb with rfl | ⟨v, rfl⟩ <;> rfl) _ _ (exec_fn1 117 _ _ rfl (by rcases hb with rfl | ⟨v, rfl⟩ <;> rfl) (Zhcl4 _ _)) ?_
       refine (CloneI_any _ ol W (Rg.Ints.below IOA.out hW.1.2.1) (by have := HLE.out; omega) (by have := HLE.out; omega)).mono ?_;rintro e2 W2 ⟨v2, rfl, hrow, hb2⟩;obtain ⟨va2, vc2, rfl⟩ := Rg.row_shape hrow;exact ⟨_, rfl, ⟨hW.1.st hb2, Nat.le_trans hW.2 hb2.size⟩, ⟨OwI.fi ⟨hrow⟩ (by have := HLE.out; omega) (fun z g1 g2 => ⟨Nat.le_trans hW.2 g1, g2⟩), _, _, _, rfl⟩, hb2⟩
      ·intro u b hb W hW hu
       obtain ⟨hu1, ua2, un2, uc2, rfl⟩ := hu;have hbA : Below W.heap.size W (W.alloc (.cells #[.slice ua2 un2 uc2] 22)) := (Below.refl _ _).alloc (Nat.le_refl _) _
       exact Rg.doesRun rfl rfl (by rcases hb with rfl | ⟨v, rfl⟩ <;> rfl) (Rg.exec_buildSlice _ _ _ rfl (.slice ua2 un2 uc2) (by rcases hb with rfl | ⟨v, rfl⟩ <;> rfl) (run_build1L W _ ⟨_, _, _, rfl⟩)) ⟨⟨hW.1.st hbA, by simp; have := hW.2; omega⟩, ⟨⟨newI_below hu1 hbA, _, _, _, rfl⟩, Rg.BlkF.new W [.slice ua2 un2 uc2] 22 hW.2⟩, hbA⟩
      ·intro u x b hb W hW h0 hx
       obtain ⟨⟨hu1, ua2, un2, uc2, rfl⟩, pu, rfl, hp0, hp1, hp2⟩ := hx;have hfi : Rg.FI (GS2 w4.heap.size W w4.heap.size (Value.slice ova OL.length ovc) (Value.slice rva RL.length rvc)) W (.slice ua2 un2 uc2) ol := Rg.FI.mono hu1 (fun z g => ⟨by have := HVQ.out.2.2; omega, g.2, fun e => by have := HVQ.out.1 z e; omega, fun e => by have := HVQ.out.2.1 z e; omega, fun e => by have := HVQ.out.2.2; omega⟩);obtain ⟨a2, c2, X, r1, r2, r3, r4⟩ := h0.1.pushO hW.1.2.1.size hfi rfl HOLN.out (hp2 0 (by simp)) 29;have hkX := Rg.Kp.of_grown r3 (M := fun z => (Value.slice ova OL.length ovc).ownBlock = some z) (fun _ e => e)
       exact Rg.doesRun rfl rfl (by rcases hb with rfl | ⟨v, rfl⟩ <;> rfl) (Rg.exec_append _ _ _ rfl (by rcases hb with rfl | ⟨v, rfl⟩ <;> rfl) (by rcases hb with rfl | ⟨v, rfl⟩ <;> rfl) r1) ⟨⟨(show StI _ _ _ _ _ _ _ _ from ⟨r2.tri, hW.1.2.1.grown r3 hW.1.2.1.size (fun j e => (h0.1.lts.1 j e).1), Rg.Kp.trans (M := M) hW.1.2.2 (Rg.Kp.of_grown r3 (M := M) fun z e => HMO.out.1 z e) (fun _ _ e => e)⟩), Nat.le_trans hW.2 r3.size⟩, ⟨r2, FRows.mono (FRows.kp h0.2 hkX (fun z g e => g.2.2.1 e)) r4, _, _, rfl⟩, fun v hv => hv.grown r3 (fun j e => HVQ.out.1 j e)⟩
      ·intro b hb W hW
       have hbA : Below W.heap.size W (W.alloc (.cells #[.slice ta r.length tc] 24)) := (Below.refl _ _).alloc (Nat.le_refl _) _
       exact Rg.doesRun rfl rfl (by rcases hb with rfl | ⟨u, rfl⟩ | ⟨u, x, rfl⟩ | ⟨u, x, y, rfl⟩ <;> rfl) (Rg.exec_buildSlice _ _ _ rfl (.slice ta r.length tc) (by rcases hb with rfl | ⟨u, rfl⟩ | ⟨u, x, rfl⟩ | ⟨u, x, y, rfl⟩ <;> rfl) (run_build1PP W _ ⟨_, _, _, rfl⟩)) ⟨⟨hW.1.st hbA, by simp; have := hW.2; omega⟩, Rg.BlkF.new W [.slice ta r.length tc] 24 hW.2, hbA⟩
      rintro w172 fu fx fy fv hb hk hj;have hI11_f := hb.1;have hVsz := hb.2;clear hb hI;go_frame;have FK := ι hk;have FJ := ι hj;obtain ⟨pj, hje, hj0, hj1, hj2⟩ := FJ.out;subst hje;obtain ⟨a3, c3, hfx⟩ := FK.out.2.2;subst hfx;obtain ⟨a4, c4, X4, q1, r2, q3⟩ := FK.out.1.pushR hI11_f.2.1.size FK.out.2.1 rfl HRLN.out (hj2 0 (by simp)) 30;have hI12_m := (show StI _ _ _ _ _ _ _ _ from ⟨r2.tri, hI11_f.2.1.grown q3 hI11_f.2.1.size (fun j e => (FK.out.1.lts.2 j e).1), Rg.Kp.trans (M := M) hI11_f.2.2 (Rg.Kp.of_grown q3 (M := M) fun z e => HMO.out.2.1 z e) (fun _ _ e => e)⟩);refine Rg.Any.one (i := 14) (by kernel_rfl) (Rg.Any.run (some 80) rfl rfl rfl (Rg.exec_append _ _ _ rfl rfl rfl q1) (hS _ _ hI12_m) ?_);go_frame;have hKX := hI12_m;refine Rg.Any.one (i := 16) (by kernel_rfl) (Rg.Any.runSkip none rfl rfl rfl (Rg.exec_store _ _ _ rfl _ rfl _ rfl (Rg.run_storeSl _ infoIntss r2.tri.c1 r2.tri.f1)) (hS2 _ _ rfl) ?_)
      go_frame;refine Rg.tg 17 16 (.pointer (some ⟨w4.heap.size, 2, none⟩)) 82 rfl rfl (.inl ⟨rfl, fun w _ => exec_field _ rfl rfl (chF2 _ _)⟩) (hS2 _ _ rfl) ?_;go_frame;refine Rg.Any.one (i := 18) (by kernel_rfl) (Rg.Any.runSkip none rfl rfl rfl (Rg.exec_store _ _ _ rfl _ rfl _ rfl (Rg.run_storeSl _ infoPermss (r2.tri.set1 _).c2 (r2.tri.set1 _).f2)) (hS2 _ _ rfl) ?_);go_frame;refine Rg.Any.done (by kernel_rfl) ?_ _;refine Rg.onlyN_i ?_;clear hS2;clear hS hI12_m;have hst := r2.store (.slice a3 (OL.length + 1) c3) (.slice a4 (RL.length + 1) c4);have hkk := (hKX.2.1.setCell (p := ⟨w4.heap.size, 1, none⟩) (Nat.le_refl _) (.slice a3 (OL.length + 1) c3)).setCell (p := ⟨w4.heap.size, 2, none⟩) (Nat.le_refl _) (.slice a4 (RL.length + 1) c4);have hkm := Rg.Kp.trans (M := M) (Rg.Kp.trans (M := M) hKX.2.2 (Rg.Kp.of_setCell (M := M) (a := ⟨w4.heap.size, 1, none⟩) (v := .slice a3 (OL.length + 1) c3) HMO.out.2.2) (fun _ _ e => e)) (Rg.Kp.of_setCell (M := M) (a := ⟨w4.heap.size, 2, none⟩) (v := .slice a4 (RL.length + 1) c4) HMO.out.2.2) (fun _ _ e => e)
      generalize (X4.setCell ⟨w4.heap.size, 1, none⟩ (.slice a3 (OL.length + 1) c3)).setCell ⟨w4.heap.size, 2, none⟩ (.slice a4 (RL.length + 1) c4) = w199 at *;have CH2 := ι (show ChR w4.heap.size w199 w4.heap.size (.int .i64 ((N : Nat) : Int)) (.slice a3 (OL.length + 1) c3) (.slice a4 (RL.length + 1) c4) (.slice a3 (OL.length + 1) c3) (.slice a4 (RL.length + 1) c4) ((pre ++ [(⟨X, HXR.out⟩ : Fin RR.length)]).map fun z => fO k OO z.1) ((pre ++ [(⟨X, HXR.out⟩ : Fin RR.length)]).map fun z => fR ((N : Nat) : Int) k RR z.1) by rw [List.map_append, List.map_append, hOL.out, hRL.out]; simp only [List.map_cons, List.map_nil]; rw [show fO k OO X = ol from HF1.out, show fR ((N : Nat) : Int) k RR X = r from HF2.out]; exact hst);have K2 := ι hkk;have KP2 := ι (keepsK (B := B) hkm HMC.out);have KB2 := ι (show Below w.heap.size Wb w199 from kp_low hkm (by have := HBW.out; have := HSZ.out; omega) (fun z hz => by have := HML.out z hz; have := HSZ.out; omega))
      clear hst hkk hkm
      gi_wp2
      exact ⟨KP2.out, KB2.out, ⟨_, _, CH2.out⟩, K2.out⟩
  case done =>
   rintro D Wd hD ⟨⟨ov, rv, hch⟩, hbl⟩ hd;rw [fin_map (fun z => fO k OO z), fin_map (fun z => fR ((N : Nat) : Int) k RR z)] at hch;have HD := ι (show w.heap.size ≤ D by have := HS0.out; omega);clear FB HRV CH K1 KW;have CHD := ι hch;have KD := ι (show Below w.heap.size w Wd from K.out.trans (hbl.mono K.out.size));have FTD := ι (FT.out.below hbl);have DF := ι hd;have HLS := ι (show ((List.range RR.length).map fun z => fO k OO z) = stO k OO by unfold stO; rw [HLO.out, HLR.out]; rfl);have HLT := ι (show ((List.range RR.length).map fun z => fR ((N : Nat) : Int) k RR z) = stR' ((N : Nat) : Int) k RR from rfl);obtain ⟨ova, ovc, rfl⟩ := hch.shapeO;obtain ⟨rva, rvc, rfl⟩ := hch.shapeR;have HLM := ι (show RR.length ≤ 64 by have := HLR.out; omega);simp only [List.length_map, List.length_range] at CHD;clear hch hbl hd;go_upto_region 19 with (fail);refine wp_region_list ?_;refine Rg.lr 83 (Rg.exec_load _ _ rfl ⟨w4.heap.size, 0, none⟩ rfl (run_loadC CHD.out.tri)) ?_;go_frame
   refine Rg.list_skip none rfl rfl (Rg.exec_store _ _ _ rfl _ rfl _ rfl (run_storeC _ _ _ _ _ _ _ FTD.out)) ?_;go_frame;refine Rg.lr 5 (Rg.xa (.int .i64 ((0 : Nat) : Int)) _ rfl rfl) ?_;go_frame;have htt := FTD.out.set (.int .i64 ((N : Nat) : Int)) (.slice ova RR.length ovc) (.slice rva RR.length rvc);have hkt := Rg.Kp.trans (Rg.Kp.trans (Rg.Kp.of_setCell (M := fun z => z = (w.heap.size + 2)) (w := Wd) (a := ⟨(w.heap.size + 2), 0, none⟩) (v := .int .i64 ((N : Nat) : Int)) rfl) (Rg.Kp.of_setCell (M := fun z => z = (w.heap.size + 2)) (a := ⟨(w.heap.size + 2), 1, none⟩) (v := .slice ova RR.length ovc) rfl) (fun _ _ e => e)) (Rg.Kp.of_setCell (M := fun z => z = (w.heap.size + 2)) (a := ⟨(w.heap.size + 2), 2, none⟩) (v := .slice rva RR.length rvc) rfl) (fun _ _ e => e);have hch2 := CHD.out.kp hkt (fun z e => by have := HSZ.out; omega);have hkf := ((KD.out.setCell (p := ⟨(w.heap.size + 2), 0, none⟩) (by show w.heap.size ≤ w.heap.size + 2; omega) (.int .i64 ((N : Nat) : Int))).setCell (p := ⟨(w.heap.size + 2), 1, none⟩) (by show w.heap.size ≤ w.heap.size + 2; omega) (.slice ova RR.length ovc)).setCell (p := ⟨(w.heap.size + 2), 2, none⟩) (by show w.heap.size ≤ w.heap.size + 2; omega) (.slice rva RR.length rvc)
   have hdd := (((RF.Dfr.setCell DF.out ⟨(w.heap.size + 2), 0, none⟩ (.int .i64 ((N : Nat) : Int))).setCell ⟨(w.heap.size + 2), 1, none⟩ (.slice ova RR.length ovc)).setCell ⟨(w.heap.size + 2), 2, none⟩ (.slice rva RR.length rvc));generalize ((Wd.setCell ⟨(w.heap.size + 2), 0, none⟩ (.int .i64 ((N : Nat) : Int))).setCell ⟨(w.heap.size + 2), 1, none⟩ (.slice ova RR.length ovc)).setCell ⟨(w.heap.size + 2), 2, none⟩ (.slice rva RR.length rvc) = w299 at *;have HTT := ι htt;have KX := ι hkf;have DX := ι hdd;have HA := ι (show StAns ((N : Nat) : Int) OO RR k w299 (.agg #[.int .i64 ((N : Nat) : Int), .slice ova RR.length ovc, .slice rva RR.length rvc]) from .inr ⟨HSC.out, _, _, rfl, by rw [← HLS.out]; exact hch2.rowsO (by rw [List.length_map, List.length_range]; have := HLM.out; omega), by rw [← HLT.out]; exact hch2.rowsR (by rw [List.length_map, List.length_range]; have := HLM.out; omega)⟩);clear htt hkt hch2 hkf hdd
   go_wp2;exact st_leave (ds := [D]) KX.out HTT.out HA.out rfl (by rw [HSC.out]; rfl) (by simp) (fun D' hD' => by simp at hD'; subst hD'; exact ⟨DX.out, HD.out⟩)
end Go.Proofs.Ytcfomoknlchemaa

namespace Go.Proofs.Ytcfomoknlchemaa
open Go.Proofs
open Go.Proofs.Cm (Gr Gd IsChain IsG IsTr St Tr Fx ap sfP)
def gsE : List (List Nat) := []
def tabE : List TE := [⟨0, 0, [0, 1, 2, 3], []⟩, ⟨1, 1, [0, 1, 2, 3], []⟩, ⟨2, 2, [0, 1, 2, 3], []⟩, ⟨3, 3, [0, 1, 2, 3], []⟩]
theorem tabE_ok : tabOK 4 gsE tabE = true := by decide +kernel
theorem orbTE : (List.range 4).map (orbOf 4 tabE) = [[0], [1], [2], [3]] := by decide +kernel
theorem rep_one {n : Nat} {H : List Nat → Prop} (hH : IsG n H) {O : List (List Nat)} {R : List (List (List Nat))} (hc : IsChain n H O R) {i : Nat} (hi : i < n) (ho : O.getD i [] = [i]) : R.getD i [] = [Ma.oneN n] := by
 have hl := hc.len i hi;rw [ho] at hl;have hr := hc.rep i 0 hi (by rw [ho]; exact Nat.zero_lt_one);rw [ho] at hr;have e := one_least hH hi hr
 match hR : R.getD i [], hl with
 | [r], _ =>
  rw [hR] at e;have : r = Ma.oneN n := e;rw [this]
def RS4 : List (List (List Nat)) := [[[0, 1, 2, 3], [1, 0, 3, 2], [2, 3, 0, 1], [3, 2, 1, 0]], [[0, 1, 2, 3]], [[0, 1, 2, 3]], [[0, 1, 2, 3]]]
def OS4 : List (List Nat) := [[0, 1, 2, 3], [1], [2], [3]]
theorem chainS {O : List (List Nat)} {R : List (List (List Nat))} (hc : IsChain 4 (Gr 4 (· ∈ gsS)) O R) : O = OS4 ∧ R = RS4 := by
 obtain ⟨hg, ht⟩ := tab_tr tabS_ok;have hH := Gr.isG (n := 4) (gs := (· ∈ gsS)) hg;have hO := chain_tab tabS_ok hc;rw [orbTS] at hO;have h0 := repsS hc;have h1 := rep_one hH hc (i := 1) (by decide) (by rw [hO]; rfl);have h2 := rep_one hH hc (i := 2) (by decide) (by rw [hO]; rfl);have h3 := rep_one hH hc (i := 3) (by decide) (by rw [hO]; rfl);refine ⟨hO, ?_⟩;have hl := hc.lenR
 match R, hl, h0, h1, h2, h3 with
 | [a, b, c, d], _, h0, h1, h2, h3 =>
  have e0 : a = _ := h0;have e1 : b = _ := h1;have e2 : c = _ := h2;have e3 : d = _ := h3;rw [e0, e1, e2, e3];rfl
theorem siS_1 : siC 4 OS4 RS4 [1, 0, 2, 3] = (2, [0, 1, 3, 2]) := by decide +kernel
theorem siS_2 : (siC 4 OS4 RS4 [3, 2, 1, 0]).1 = 4 := by decide +kernel
theorem siS_3 : ¬ (siC 4 OS4 RS4 [1, 2, 0, 3]).1 = 4 := by decide +kernel
def ijs (n : Nat) : List (Nat × Nat) := (List.range n).flatMap fun i => (List.range n).map fun p => (i, p)
theorem mem_ijs {n : Nat} {q : Nat × Nat} (h1 : q.1 < n) (h2 : q.2 < n) : q ∈ ijs n := by
 unfold ijs;rw [List.mem_flatMap];exact ⟨q.1, List.mem_range.2 h1, List.mem_map.2 ⟨q.2, List.mem_range.2 h2, rfl⟩⟩
def enB (n : Nat) (tr : Tr) : List (Nat × Nat) := (ijs n).filter fun q => decide (q.1 < q.2 ∧ q.2 < n) && (tr q.1 q.2).isSome
def pcB (n : Nat) (tr : Tr) : Bool := (enB n tr).all fun q => (enB n tr).all fun r => decide ((sfP n (Cm.idT n tr) n (Ma.mulN ((tr q.1 q.2).getD []) ((tr r.1 r.2).getD []))).1 = n)
theorem pcB_iff {n : Nat} {tr : Tr} : pcB n tr = true ↔ PClosed n tr := by
 unfold pcB;rw [List.all_eq_true]
 have hm : ∀ q : EntIx n tr, q.1 ∈ enB n tr := fun q => by
  unfold enB;rw [List.mem_filter];refine ⟨mem_ijs (by have := q.2.1; omega) q.2.1.2, ?_⟩;rw [Bool.and_eq_true];exact ⟨decide_eq_true q.2.1, q.2.2⟩
 constructor
 ·intro h q r
  have := h q.1 (hm q);rw [List.all_eq_true] at this;exact of_decide_eq_true (this r.1 (hm r))
 ·intro h q hq
  rw [List.all_eq_true];intro r hr;unfold enB at hq hr;rw [List.mem_filter, Bool.and_eq_true] at hq hr;exact decide_eq_true (h ⟨q, of_decide_eq_true hq.2.1, hq.2.2⟩ ⟨r, of_decide_eq_true hr.2.1, hr.2.2⟩)
theorem pcS_0 : ¬ PClosed 4 (endR 4 gsS []) := by rw [← pcB_iff]; decide +kernel
theorem pcF_0 : ¬ PClosed 4 (endR 4 gsF []) := by rw [← pcB_iff]; decide +kernel
theorem pcS_1 : PClosed 4 (endR 4 gsS [0, 1]) := by rw [← pcB_iff]; decide +kernel
theorem pcS_2 : PClosed 4 (endR 4 gsS [0, 1, 5]) := by rw [← pcB_iff]; decide +kernel
theorem gchkF : Ma.gchk ((4 : Nat) : Int) (gsF.map Ma.ofN) = 0 := by decide +kernel
theorem gchkS : Ma.gchk ((4 : Nat) : Int) (gsS.map Ma.ofN) = 0 := by decide +kernel
theorem rndF_0 : rndc ((4 : Nat) : Int) (gsF.map Ma.ofN) [] = 13 := rndc_no gchkF (by decide) pcF_0
theorem rndS_0 : rndc ((4 : Nat) : Int) (gsS.map Ma.ofN) [] = 13 := rndc_no gchkS (by decide) pcS_0
theorem rndS_1 : rndc ((4 : Nat) : Int) (gsS.map Ma.ofN) [0, 1] = 0 := rndc_yes gchkS (by decide) pcS_1
theorem rndS_2 : rndc ((4 : Nat) : Int) (gsS.map Ma.ofN) [0, 1, 5] = 0 := rndc_yes gchkS (by decide) pcS_2
theorem hgS : ∀ s ∈ gsS, Gd 4 s := (tab_tr tabS_ok).1
theorem hgF : ∀ s ∈ gsF, Gd 4 s := (tab_tr tabF_ok).1
theorem pchk4 {x : List Nat} (h : gdB 4 x = true) : Ma.pchk (Ma.ofN x) = 0 := by
 have g := gdB_gd h;exact Ma.pchk_ok (by rw [Ma.len_ofN, g.2]; decide) (by rw [Ma.len_ofN, g.2]; decide) (Ma.okN_ofN g.1)
theorem chS_code {O : List (List Nat)} {R : List (List (List Nat))} (hc : IsChain 4 (Gr 4 (· ∈ gsS)) O R) : chCode ((4 : Nat) : Int) (O.map Ma.ofN) (R.map (List.map Ma.ofN)) = 0 := chCode_zero (chain_ok (by decide) (by decide) hgS hc)
theorem chF_code {O : List (List Nat)} {R : List (List (List Nat))} (hc : IsChain 4 (Gr 4 (· ∈ gsF)) O R) : chCode ((4 : Nat) : Int) (O.map Ma.ofN) (R.map (List.map Ma.ofN)) = 0 := chCode_zero (chain_ok (by decide) (by decide) hgF hc)
theorem both4 {O : List (List Nat)} {R : List (List (List Nat))} (h : chCode ((4 : Nat) : Int) (O.map Ma.ofN) (R.map (List.map Ma.ofN)) = 0) {x : List Nat} (hx : gdB 4 x = true) : bothC ((4 : Nat) : Int) (O.map Ma.ofN) (R.map (List.map Ma.ofN)) (Ma.ofN x) = 0 :=
 bothC_ok h (pchk4 hx) (by rw [Ma.len_ofN, (gdB_gd hx).2])
theorem siftS {O : List (List Nat)} {R : List (List (List Nat))} (hc : IsChain 4 (Gr 4 (· ∈ gsS)) O R) : siA ((4 : Nat) : Int) (O.map Ma.ofN) (R.map (List.map Ma.ofN)) (Ma.ofN [1, 0, 2, 3]) = (Ma.ofN [0, 1, 3, 2], 2) ∧ bothC ((4 : Nat) : Int) (O.map Ma.ofN) (R.map (List.map Ma.ofN)) (Ma.ofN [1, 0, 2, 3]) = 0 := by
 have h0 := both4 (chS_code hc) (x := [1, 0, 2, 3]) (by decide);refine ⟨?_, h0⟩;rw [siA_ok h0];obtain ⟨rfl, rfl⟩ := chainS hc;rw [siS_1];rfl
theorem inS {O : List (List Nat)} {R : List (List (List Nat))} (hc : IsChain 4 (Gr 4 (· ∈ gsS)) O R) : inA ((4 : Nat) : Int) (O.map Ma.ofN) (R.map (List.map Ma.ofN)) (Ma.ofN [3, 2, 1, 0]) = true ∧ bothC ((4 : Nat) : Int) (O.map Ma.ofN) (R.map (List.map Ma.ofN)) (Ma.ofN [3, 2, 1, 0]) = 0 := by
 have h0 := both4 (chS_code hc) (x := [3, 2, 1, 0]) (by decide);refine ⟨?_, h0⟩;rw [inA_ok h0];obtain ⟨rfl, rfl⟩ := chainS hc;rw [siS_2];rfl
def wordsS : List (List Nat) := [[], [0, 1, 0, 0, 1, 0], [1, 0, 1, 0], [0, 1, 0, 1]]
theorem belowSF {O O' : List (List Nat)} {R R' : List (List (List Nat))} (hc : IsChain 4 (Gr 4 (· ∈ gsS)) O R) (hc' : IsChain 4 (Gr 4 (· ∈ gsF)) O' R') :
  belA ((4 : Nat) : Int) (O.map Ma.ofN) (R.map (List.map Ma.ofN)) ((4 : Nat) : Int) (O'.map Ma.ofN) (R'.map (List.map Ma.ofN)) = true ∧ belC ((4 : Nat) : Int) (O.map Ma.ofN) (R.map (List.map Ma.ofN)) ((4 : Nat) : Int) (O'.map Ma.ofN) (R'.map (List.map Ma.ofN)) = 0 := by
 have h0 := belC_ok (chS_code hc) (chF_code hc') rfl;refine ⟨?_, h0⟩;rw [belA_val h0, List.all_eq_true];intro x hx;have hH := Gr.isG (n := 4) (gs := (· ∈ gsF)) hgF;obtain ⟨_, rfl⟩ := chainS hc
 have h1 : ∀ x ∈ RS4.flatten, ∃ w ∈ wordsS, evalW 4 gsF w = x := by decide +kernel
 obtain ⟨w, _, rfl⟩ := h1 x hx;refine decide_eq_true ((siC_all hH hc' (hH.gd _ (evalW_gr w))).2 (evalW_gr w))
theorem belowFS {O O' : List (List Nat)} {R R' : List (List (List Nat))} (hc : IsChain 4 (Gr 4 (· ∈ gsS)) O R) (hc' : IsChain 4 (Gr 4 (· ∈ gsF)) O' R') :
  belA ((4 : Nat) : Int) (O'.map Ma.ofN) (R'.map (List.map Ma.ofN)) ((4 : Nat) : Int) (O.map Ma.ofN) (R.map (List.map Ma.ofN)) = false ∧ belC ((4 : Nat) : Int) (O'.map Ma.ofN) (R'.map (List.map Ma.ofN)) ((4 : Nat) : Int) (O.map Ma.ofN) (R.map (List.map Ma.ofN)) = 0 := by
 have h0 := belC_ok (chF_code hc') (chS_code hc) rfl;refine ⟨?_, h0⟩;rw [belA_val h0, Bool.eq_false_iff, Ne, List.all_eq_true];intro hall;have hH := Gr.isG (n := 4) (gs := (· ∈ gsS)) hgS;have hH' := Gr.isG (n := 4) (gs := (· ∈ gsF)) hgF;have hx : Gr 4 (· ∈ R'.flatten) [1, 2, 0, 3] := (chain_gen hH' hc' _).1 (.gen _ (by decide))
 have hin : Gr 4 (· ∈ gsS) [1, 2, 0, 3] := Gr.sub hH (fun s hs => by
  have h1 := of_decide_eq_true (hall s hs)
  exact (siC_all hH hc (hH'.gd s (chain_H hc' hs))).1 h1) hx
 have h2 := (siC_all hH hc (hH.gd _ hin)).2 hin;obtain ⟨rfl, rfl⟩ := chainS hc;exact siS_3 h2
theorem stabF {O : List (List Nat)} {R : List (List (List Nat))} (hc : IsChain 4 (Gr 4 (· ∈ gsF)) O R) : stC ((4 : Nat) : Int) (O.map Ma.ofN) (R.map (List.map Ma.ofN)) 2 = 0 ∧ stO 2 (O.map Ma.ofN) = ([[0], [1], [2, 3], [3]] : List (List Int)) := by
 refine ⟨by unfold stC; rw [if_pos (chF_code hc), if_pos (by decide)], ?_⟩;have hO := chain_tab tabF_ok hc;rw [orbTF] at hO;subst hO
 decide
theorem code_zero : chCode 0 [] [] = 2 := by unfold chCode; rw [if_neg (by decide)]
theorem code_short {R : List (List (List Int))} (h : ∀ h : 0 < R.length, R[0].length = 4) (hl : R.length = 4) : chCode ((4 : Nat) : Int) [[0, 1, 2], [1], [2], [3]] R = 3 := by
 unfold chCode;rw [if_pos (by decide), if_neg];intro hok;have := (hok.row (i := 0) (by omega) (by decide)).1;rw [h (by omega)] at this;simp at this
end Go.Proofs.Ytcfomoknlchemaa
