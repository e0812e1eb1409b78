/- Lemmas and contracts on the way to the statement; no condition of their own beyond those written. -/
import Derived.Test.YtcfomoknlchemaaXZitoGa
import Derived.Deep.MidRow
import Derived.Deep.WholeRow
import Derived.Laws.CopyOwn
import Derived.RangeFuncWrites
import Derived.RangeFuncNested
import Derived.RangeFuncBox
import Derived.RangeFuncLeaves
import Derived.Shelf.Abstract
import Derived.OwnWalkIn
import Derived.TacticsInMore
import Derived.LoopNIn
import Derived.LoopIn
import Derived.Maps.AppendAt
import Derived.Sort.CutIn
import Derived.Deep.CutRange
import Derived.Deep.CutBlock
import Derived.IntWalk
import Derived.Great.BuildSlice
import Derived.ArgAppend
import Derived.StillTailTactics
import Derived.WalkSpells
import Derived.WalkLawsBesides
import Derived.OwnWalk
import Derived.OrdersHeld
import Derived.Deep.OwnRows
import Derived.WalkKit
import Derived.Lib.Hide
import Derived.Laws.OwnMore
import Derived.Test.YtcfomoknlchemaaProg
import Derived.Outline
import Derived.Deep.DeepFit
import Derived.BigQuiet
import Derived.Deep.QuietTactic
import Derived.Sort.OwnSortedInts
import Derived.WideMake
import Derived.MapKept
import Derived.ChangeMaps5
import Derived.Shelf.Sort.Plain
import Derived.Lib.ConvBytes
import Derived.ChangeKeysEq
import Derived.Laws.Cells
import Derived.Laws.Rows
import Derived.Laws.Tables
import Derived.OrdersIn
import Derived.TacticsIn
import Derived.Deep.LoopGhost
import Derived.Lib.SlicesSearch
import Derived.Stop.BytesEq
import Derived.Shelf.SlSortCmp.Whole1
import Derived.Ground.SlsfProg
import Derived.Lib.SmallJoins
import Derived.Deep.Matrix
set_option linter.unusedVariables false
set_option linter.unusedSimpArgs false
set_option maxRecDepth 100000
set_option maxHeartbeats 8000000
namespace Go.Proofs.Ytcfomoknlchemaa
open Go.RowKit
open Go.Proofs
open Go.Proofs.Ob
open Go.Shelf
open Go.Proofs.Cm (Gd)
attribute [local go_sem] Oper.semAt_some
attribute [local irreducible] Go.Calls Go.wpList Go.wpListIn
structure SgI (w : World) (tb : Nat) (n : Int) (ov rv : Value) (W : World) (F : Nat → Prop) (v : Value) (T : List (List Nat)) : Prop where
 bel : Below w.heap.size w W
 low : w.heap.size + 1 ≤ tb
 a0 : CL W w.heap.size 0 (.int .i64 n)
 a1 : CL W w.heap.size 1 ov
 a2 : CL W w.heap.size 2 rv
 c5 : CW W tb v
 row : RowH (tb + 1) F (fun _ => False) W v T
 Fr : ∀ z, F z → tb + 1 ≤ z ∧ z < W.heap.size
theorem SgI.up {w : World} {tb : Nat} {n : Int} {ov rv : Value} {W W' : World} {F : Nat → Prop} {v : Value} {T : List (List Nat)} (h : SgI w tb n ov rv W F v T) (hb : Below W.heap.size W W') : SgI w tb n ov rv W' (Fup F W W') v T :=
 ⟨h.bel.trans (hb.mono h.bel.size), h.low, h.a0.up hb, h.a1.up hb, h.a2.up hb, h.c5.below hb, h.row.up0 hb, fun z hz => by
  rcases hz with hz | hz
  ·exact ⟨(h.Fr z hz).1, Nat.lt_of_lt_of_le (h.Fr z hz).2 hb.size⟩
  ·exact ⟨by have := h.c5.lt; omega, hz.2⟩⟩
theorem RowH.nc {B : Nat} {F : Nat → Prop} {W W' : World} {v : Value} {l : List (List Nat)} (h : RowH B F (fun _ => False) W v l) {row : Option Nat} (hg : W.grownBy W' row) (hr : ∀ r, row = some r → ∃ o : Obj, W.heap[r]? = some o ∧ o.isCells = false) : RowH B F (fun _ => False) W' v l := by
 obtain ⟨us, h1, h2⟩ := h.own;exact ⟨Nat.le_trans h.size hg.size, ⟨us, row_nc hg hr h1, felts_nc hg hr h2⟩, h.off⟩
theorem SgI.keep {w : World} {tb : Nat} {n : Int} {ov rv : Value} {W W' : World} {F : Nat → Prop} {v : Value} {T : List (List Nat)} {row : Option Nat} {B : Nat} (h : SgI w tb n ov rv W F v T) (hB : tb + 1 ≤ B) (hg : W.grownBy W' row) (hr : ∀ r, row = some r → B ≤ r ∧ ∃ o : Obj, W.heap[r]? = some o ∧ o.isCells = false) : SgI w tb n ov rv W' F v T := by
 have hk : Rg.Kp (fun k => row = some k) W W' := Rg.Kp.of_grown hg fun _ e => e
 have hM : ∀ b, b < B → ¬ row = some b := fun b hb e => by have := (hr b e).1; omega
 have lo := h.low;exact ⟨h.bel.grown hg h.bel.size (fun k e => by have := (hr k e).1; omega), h.low, h.a0.kp hk (hM _ (by omega)), h.a1.kp hk (hM _ (by omega)), h.a2.kp hk (hM _ (by omega)), h.c5.kp hk (hM _ (by omega)), h.row.nc hg (fun r e => (hr r e).2), fun z hz => ⟨(h.Fr z hz).1, Nat.lt_of_lt_of_le (h.Fr z hz).2 hg.size⟩⟩
theorem SgI.store {w : World} {tb : Nat} {n : Int} {ov rv : Value} {W X : World} {F : Nat → Prop} {v v' : Value} {T T' : List (List Nat)} (h : SgI w tb n ov rv W F v T) (hk : Rg.Kp (fun k => v.ownBlock = some k) W X) (hr : RowH (tb + 1) F (fun _ => False) X v' T') : SgI w tb n ov rv (X.setCell ⟨tb, 0, none⟩ v') F v' T' := by
 have hk2 : Rg.Kp (fun z => z = tb) X (X.setCell ⟨tb, 0, none⟩ v') := Rg.Kp.of_setCell rfl;have lo : ∀ k, v.ownBlock = some k → tb + 1 ≤ k := fun k e => (h.row.lt k e).1;have low := h.low
 exact ⟨(Rg.Kp.below h.bel hk (fun k e => by have := lo k e; omega)).setCell (p := ⟨tb, 0, none⟩) (by show w.heap.size ≤ tb; omega) _, h.low,
  (h.a0.kp hk (fun e => by have := lo _ e; omega)).kp hk2 (by omega), (h.a1.kp hk (fun e => by have := lo _ e; omega)).kp hk2 (by omega), (h.a2.kp hk (fun e => by have := lo _ e; omega)).kp hk2 (by omega),
  (h.c5.kp hk (fun e => by have := lo _ e; omega)).set _, hr.kp hk2 (fun z hz e => by have := (h.Fr z hz).1; omega) (fun z hz e => by have := (hr.lt z hz).1; omega),
  fun z hz => ⟨(h.Fr z hz).1, by have := (h.Fr z hz).2; have := hk.size; have := hk2.size; omega⟩⟩
theorem KK.rowH {B n₀ : Nat} {W W1 X : World} {F M : Nat → Prop} {B2 : Nat} {v : Value} {gs : List (List Nat)} (h : KK B n₀ W W1) (hk : Rg.Kp (fun k => v.ownBlock = some k) W1 X) (hr : RowH B2 F M W1 v gs) (hn : n₀ ≤ B2) : KK B n₀ W X := by
 obtain ⟨us, q1, q2⟩ := hr.own;exact h.row (F := F) (B2 := B2) (gs := gs) hk ⟨hr.size, us, q1, q2⟩ hn
theorem results_2 {fn : Func} {t u : Go.Tmp} (h : fn.results = #[.tmp t, .tmp u]) (tmps : Array Value) {w : World} {x y : Value} (hx : tmps.getD t undef = x) (hy : tmps.getD u undef = y) : (results fn tmps).run Try.prog w = .ok (.tuple #[x, y]) w := by
 rw [results_tmp2 h, hx, hy]
def SgPost (n : Int) (OO : List (List Int)) (RR : List (List (List Int))) (w : World) (e : Ending) (w' : World) : Prop := ∃ v, e = .returned (.tuple #[v, .int .i64 (chCode n OO RR)]) ∧ Rg.Rows w' v (sgA n OO RR) ∧ Below w.heap.size w w'
theorem sg_leave {n : Int} {OO : List (List Int)} {RR : List (List (List Int))} {w W : World} {tmps : Array Value} {v : Value} {c : Int} {ds : List Nat} (hb : Below w.heap.size w W) (hv : Rg.Rows W v (sgA n OO RR)) (hc : chCode n OO RR = c) (p2 : tmps.getD 2 undef = v) (p3 : tmps.getD 3 undef = .int .i64 c) (hnd : ds.Nodup) (hD : ∀ D, D ∈ ds → RF.Dfr D W ∧ w.heap.size ≤ D) :
  LeavesInM Fence.wide 0 Try.prog Try.f31 tmps (SgPost n OO RR w) (ds.map RF.mark) .returning W :=
 RF.leaves w.heap.size ds W hnd hD fun W' l1 l2 _ => ⟨_, results_2 rfl _ p2 p3, _, by rw [hc], rows_cells l2 l1.size hv, hb.trans l1⟩
theorem run_slice1P (w : World) (b o m c : Nat) (h : m ≤ c) : ∃ ca : Addr, (Instr.sliceAt 24 (.slice (some ⟨b, o, none⟩) (m + 1) (c + 1)) (some (.int .i64 1)) none none).run Try.prog w = .ok (.slice (some ca) m c) w ∧ (0 < m → ca = ⟨b, o + 1, none⟩) := by
 by_cases e : c = 0
 ·refine ⟨⟨b, o, none⟩, ?_, fun h => by omega⟩
  obtain rfl : m = 0 := by omega
  subst e;simp [Instr.sliceAt, Instr.slice, run_underlying Try.underlying24, Instr.sliceBounds, Instr.sliceBound, asIntOf, Addr.add]
 ·refine ⟨⟨b, o + 1, none⟩, ?_, fun _ => rfl⟩
  simp [Instr.sliceAt, Instr.slice, run_underlying Try.underlying24, Instr.sliceBounds, Instr.sliceBound, asIntOf, Addr.add, e];intro hh;omega
theorem exec_slice1P {o : Oper} {a : Act} {w : World} {v r : Value} (x : Operand) (ho : o.op = .slice 24 x (some (.const (.int .i64 1))) none none) (hx : a.eval x = v) (hr : (Instr.sliceAt 24 v (some (.int .i64 1)) none none).run Try.prog w = .ok r w) :
  (execOp a.eval o).run Try.prog w = .ok (.value r) w := by
 unfold execOp;simp only [ho, hx, Sem.run_bind, Sem.run_pure, Option.map]
 first | (rw [hr]; rfl) | (erw [hr]; rfl) | simp [hr]
def tlOf (RR : List (List (List Int))) (z : Nat) : List (List Int) := (RR.getD z []).drop 1
theorem finTo_tl {RR : List (List (List Int))} : (finTo RR.length RR.length).flatMap (fun z => tlOf RR z.1) = RR.flatMap (List.drop 1) := by
 have h : (finTo RR.length RR.length).flatMap (fun z => tlOf RR z.1) = ((finTo RR.length RR.length).map (fun z => RR.getD z.1 [])).flatMap (List.drop 1) := by rw [List.flatMap_map]; rfl
 rw [h, fin_map (fun x => RR.getD x [])]
 congr 1
 refine List.ext_getElem (by simp) fun i h1 h2 => ?_;rw [List.getElem_map, List.getElem_range, getD_in2 h2]
theorem chStrong_any {n : Int} {ov rv : Value} {OO : List (List Int)} {RR : List (List (List Int))} {w : World} (h : ChEqR w ov rv OO RR) :
  Calls Try.prog 31 #[.agg #[.int .i64 n, ov, rv]] w (SgPost n OO RR w) := by
 obtain ⟨oa, oc, rfl, -⟩ := h.1.shape;obtain ⟨ra, rc, rfl⟩ := h.2.shape;have HC := ι h;have HR := ι h.2;have K := ι (Below.refl w.heap.size w);clear h;refine RF.calls_marks Try.func31 rfl ?_;simp only [Try.ntmps31, List.size_toArray, List.length_cons, List.length_nil, Nat.reduceAdd, Nat.reduceSub, Array.replicate_succ, Array.replicate_zero, List.push_toArray, List.append_toArray, List.nil_append, List.cons_append];have hs0 : w.heap.size = w.heap.size + 0 := rfl;go_upto_region 0 with (fail);refine wp_region_list ?_;have hbx := box3 w (.int .i64 n) (.slice oa OO.length oc) (.slice ra RR.length rc)
 have hs : (w.alloc (.cells #[.int .i64 n, .slice oa OO.length oc, .slice ra RR.length rc] 32)).heap.size = w.heap.size + 1 := by simp
 refine Rg.lr 1 (Rg.exec_box _ _ rfl rfl) ?_;go_frame;have hb := (Below.refl w.heap.size w).alloc (Nat.le_refl _) (.cells #[.int .i64 n, .slice oa OO.length oc, .slice ra RR.length rc] 32);generalize w.alloc (.cells #[.int .i64 n, .slice oa OO.length oc, .slice ra RR.length rc] 32) = w1 at *;replace HC := ι (HC.out.below hb);replace K := ι (Rg.acc K.out hb);clear hb;have A0 := ι hbx.1;have A1 := ι hbx.2.1;have A2 := ι hbx.2.2
 have hs1 : w1.heap.size = w.heap.size + 1 := by omega
 clear hs;clear hbx;refine Rg.lr 2 (Rg.xa (.slice none 0 0) _ rfl rfl) ?_;go_frame;refine Rg.lr 3 (Rg.xa (.int .i64 ((0 : Nat) : Int)) _ rfl rfl) ?_;go_frame;obtain ⟨ck, hck⟩ : ∃ c, Hid (chCode n OO RR = c) := ⟨_, ι rfl⟩;clear hs0;go_upto_region 1 with (fail);refine wp_region_list ?_;refine Rg.lr 10 (Rg.exec_load (v := (.agg #[.int .i64 n, .slice oa OO.length oc, .slice ra RR.length rc])) _ _ rfl ⟨w.heap.size, 0, none⟩ rfl (run_loadC3 A0.out.cell A1.out.cell A2.out.cell)) ?_;go_frame;refine list_ask (some 11) rfl rfl _ _ (exec_fn1 33 _ _ rfl rfl (Xccl0 _ _)) ?_;refine (chCheck_c HC.out).mono ?_;rintro e1 w2 ⟨rfl, hb⟩;rw [hck.out];refine ⟨_, rfl, ?_⟩;go_frame;replace HC := ι (HC.out.below hb);replace A0 := ι (A0.out.below hb);replace A1 := ι (A1.out.below hb);replace A2 := ι (A2.out.below hb);replace K := ι (Rg.acc K.out hb);clear hb;refine Rg.lr 4 (Rg.xa (.int .i64 ck) _ rfl rfl) ?_;go_frame
 by_cases h0 : ck = 0
 case neg =>
  skip
  go_upto_region 2 with (fail);refine wp_region_list ?_;refine Rg.lr 12 (Rg.xm (.int .i64 ck) _ rfl rfl) ?_;go_frame;refine Rg.lr 13 (exec_bin (R := .bool true) .neq _ _ _ rfl rfl rfl (b_neqB _ (decide_eq_true h0))) ?_;go_frame;go_upto_region 3 with (fail);refine wp_region_list ?_;refine Rg.lr 14 (Rg.xm (.int .i64 ck) _ rfl rfl) ?_;go_frame;refine Rg.lr 2 (Rg.xa (.slice none 0 0) _ rfl rfl) ?_;go_frame;refine Rg.lr 3 (Rg.xa (.int .i64 ck) _ rfl rfl) ?_;go_frame;have HV := ι (show sgA n OO RR = [] from if_neg (by rw [hck.out]; exact h0));have HX := ι (show Rg.Rows w2 (.slice none 0 0) (sgA n OO RR) by rw [HV.out]; exact rowsNone _);go_wp2;exact sg_leave (ds := []) K.out HX.out hck.out rfl rfl (by simp) (fun D hD => by simp at hD)
 case pos =>
  have HZ := ι (hck.out.trans h0);go_upto_region 2 with (fail);refine wp_region_list ?_;refine Rg.lr 12 (Rg.xm (.int .i64 ck) _ rfl rfl) ?_;go_frame;refine Rg.lr 13 (exec_bin (R := .bool false) .neq _ _ _ rfl rfl rfl (b_neqB _ (decide_eq_false (fun e => e h0)))) ?_;go_frame;clear h0;obtain ⟨N, O, R, rfl, hN1, hN2, hOO, hRR, hch, hgs⟩ := chCode_ok HZ.out;have HOK := ι (chCode_ok HZ.out);have HLR := ι (show RR.length = N by rw [hRR, List.length_map, hch.lenR]);have HLR2 := ι (show R.length = RR.length by rw [hRR, List.length_map]);have HRR := ι hRR;have HCH := ι hch;have HGS := ι hgs;clear hOO hRR hch hgs;obtain ⟨tb, htb⟩ : ∃ tb, Hid (w2.heap.size = tb) := ⟨_, ι rfl⟩;have hnw := CW.new w2 (.slice none 0 0) 24;rw [htb.out] at hnw;have HSW := ι (show w.heap.size + 1 ≤ tb by have := A0.out.lt; rw [htb.out] at this; exact this);go_upto_region 4 with (fail);refine wp_region_list ?_;refine Rg.lr 5 (exec_allocPs rfl) ?_;go_frame
  have hb := (Below.refl w2.heap.size w2).alloc (Nat.le_refl _) (.cells #[.slice none 0 0] 24);generalize w2.alloc (.cells #[.slice none 0 0] 24) = w3 at *;replace HC := ι (HC.out.below hb);replace A0 := ι (A0.out.below hb);replace A1 := ι (A1.out.below hb);replace A2 := ι (A2.out.below hb);replace K := ι (Rg.acc K.out hb);clear hb;rw [htb.out] at *;have C5 := ι hnw;clear hnw;have SG := ι (show SgI w tb ((N : Nat) : Int) (.slice oa OO.length oc) (.slice ra RR.length rc) w3 (fun _ => False) (.slice none 0 0) [] from ⟨K.out, HSW.out, A0.out, A1.out, A2.out, C5.out, RowH.nil _ _ _ _ C5.out.lt, fun z hz => hz.elim⟩);clear A0 A1 A2 C5;go_upto_region 5 with (fail);refine wp_region_list ?_;refine Rg.lr 15 (Rg.exec_load (v := (.agg #[.int .i64 ((N : Nat) : Int), .slice oa OO.length oc, .slice ra RR.length rc])) _ _ rfl ⟨w.heap.size, 0, none⟩ rfl (run_loadC3 SG.out.a0.cell SG.out.a1.cell SG.out.a2.cell)) ?_;go_frame
  refine list_ask (some 16) rfl rfl _ _ (exec_fn1 82 _ _ rfl rfl (Wvcl0 _ _)) ?_;refine (reps_any _ _ _ w3).mono ?_;rintro e1 w4 ⟨fb, rfl, hfb, hb⟩;have hsz := hb.size;have hsg := SG.out.up hb;refine ⟨_, rfl, ?_⟩;go_frame;replace HC := ι (HC.out.below hb);replace K := ι (Rg.acc K.out hb);clear hb;have FB := ι hfb;clear SG;have SG := ι hsg;generalize Fup (fun _ => False) w3 w4 = FA at *;clear hfb hsg;have HS0 := ι (show tb + 1 ≤ w4.heap.size from SG.out.c5.lt);clear hsz;obtain ⟨us, hus, hul, hur⟩ := HR.out;have HUR := ι hur
  have hrv : RV3 w.heap.size w4 ra RR.length (fun k => us[k]?.getD undef) := by
   obtain ⟨a', c', e, q1, q2, q3, q4⟩ := hus
   injection e with e1 e2 e3
   refine ⟨by have := HLR.out; omega, fun h0 => ?_, fun b off e5 j hj => ?_, K.out.size⟩
   ·obtain ⟨b, o, e4, e5, _⟩ := q4 (by omega)
    exact ⟨b, o, e1.trans e4, e5⟩
   ·obtain ⟨b', o', e4, e6, e7⟩ := q4 (by omega)
    rw [e1, e4] at e5;simp only [Option.some.injEq, Addr.mk.injEq, and_true] at e5;obtain ⟨rfl, rfl⟩ := e5;rw [(K.out.cell (p := ⟨b', o' + j, none⟩) e6)];show _ = some (us[j]?.getD undef);rw [List.getElem?_eq_getElem (by omega)];exact e7 j (by omega)
  have HRV := ι hrv;have HUL := ι hul;clear hus hrv hul hur;go_wp2
  refine range_reps rfl FB.out HRV.out rfl (fun pre W => ∃ F v T, SgI w tb ((N : Nat) : Int) (.slice oa OO.length oc) (.slice ra RR.length rc) W F v T ∧ T.map Ma.ofN = pre.flatMap (fun z => tlOf RR z.1) ∧ T.length ≤ 64 * pre.length)
   (fun c pre W => False) ?hI ?hIx ⟨_, _, [], SG.out, rfl, Nat.zero_le _⟩ ?a1 ?assign ?body ?done ?stop
  case assign =>
   intro l x W K hK
   gi_wp2
   exact hK
  case hI =>
   rintro pre W W' row ⟨F, v, T, h1, h2⟩ hg hr;exact ⟨F, v, T, h1.keep (by have := HS0.out; omega) hg hr, h2⟩
  case hIx =>
   intro c pre W W' row h hg hr;exact h
  case stop =>
   intro D c pre W hD h hd;exact h.elim
  case body =>
   rintro l pre ⟨X, hX⟩ W ⟨F, v, T, hsg, hfl, htl⟩ hpl;obtain ⟨B, hB⟩ : ∃ B, w4.heap.size = B := ⟨_, rfl⟩;rw [hB] at HS0 ⊢;clear FB HRV SG K hB HC
   have hXn : X < N := by have := HLR.out; omega
   have SG := ι hsg;have KQ := ι (KK.refl (B := B) (n₀ := w.heap.size) (W := W) hsg.bel.size);have HFL := ι hfl
   have HTL := ι (show T.length ≤ 64 * 64 by
    have : pre.length < 64 := by have := HLR.out; omega
    omega)
   have HTL0 := ι htl;have HXR := ι hX;have HXN := ι hXn;clear hsg hfl htl;have hu := HUR.out X (by rw [HUL.out]; exact hX) hX
   have e1 : us[X]?.getD undef = us[X]'(by rw [HUL.out]; exact hX) := by rw [List.getElem?_eq_getElem (by rw [HUL.out]; exact hX)]; rfl
   rw [← e1] at hu
   dsimp only
   generalize us[X]?.getD undef = u at *;clear e1;obtain ⟨rl, hrl⟩ : ∃ rl : List (List Nat), Hid (R.getD X [] = rl) := ⟨_, ι rfl⟩
   have hXR : X < R.length := by have := HLR2.out; omega
   have hrx : RR[X]'hX = rl.map Ma.ofN := by
    rw [← hrl.out]
    have : RR[X]'hX = (R.map (List.map Ma.ofN))[X]'(by rw [List.length_map]; exact hXR) := by first | (congr 1; done) | (congr 1; exact HRR.out)
    rw [this, List.getElem_map, getD_inf hXR]
   have HTLO := ι (show tlOf RR X = (rl.drop 1).map Ma.ofN by
    unfold tlOf
    rw [getD_in2 hX, hrx, List.map_drop])
   rw [hrx] at hu;have HRM := ι (show ∀ x ∈ rl, Gd N x from fun x hx => HGS.out x (List.mem_flatten.2 ⟨_, List.getElem_mem hXR, by rw [← getD_inf hXR, hrl.out]; exact hx⟩))
   have hrlen : rl.length ≤ N - X := by
    have h1 := HCH.out.len X hXn;have h2 := chain_len (Cm.Gr.isG (n := N) (gs := (· ∈ R.flatten)) HGS.out) HCH.out hXn;rw [hrl.out] at h1;omega
   have hrpos : 1 ≤ rl.length := by
    have h1 := HCH.out.len X hXn;rw [hrl.out] at h1;have hm : X ∈ O.getD X [] := (HCH.out.orb X X hXn).2 ⟨Ma.oneN N, ⟨.one, Cm.Fx.one (by omega)⟩, Cm.ap_one hXn⟩;have := List.length_pos_of_mem hm;omega
   obtain ⟨ua, uc, rfl, hcap, -, -, hrc⟩ := hu.shape;obtain ⟨ub, uo, rfl, hub, huc⟩ := hrc (by rw [List.length_map]; omega);rw [List.length_map] at hcap;obtain ⟨m, hm⟩ : ∃ m, rl.length = m + 1 := ⟨rl.length - 1, by omega⟩;obtain ⟨cm, rfl⟩ : ∃ cm, uc = cm + 1 := ⟨uc - 1, by omega⟩;rw [List.length_map, hm];have HM := ι hm
   have hm64 : m < 64 := by omega
   have HUC := ι huc;have HUB := ι hub;obtain ⟨ca, hsr, hca⟩ := run_slice1P W ub uo m cm (by omega);have HCA := ι hca;clear huc hrc hu hrx hrlen hrpos hub hm hca hcap
   gi_upto_region 7 with (fail)
   refine wpIn_region_list ?_;refine Rg.in_run (some 19) rfl rfl (fun _ hh => by cases hh) (Rg.xm (.slice (some ⟨ub, uo, none⟩) (m + 1) (cm + 1)) _ rfl rfl) ?_;go_frame;refine Rg.in_run (some 20) rfl rfl (fun _ hh => by cases hh) (exec_slice1P _ rfl rfl hsr) ?_;go_frame;refine Rg.in_run (some 21) rfl rfl (fun _ hh => by cases hh) (exec_len _ _ _ rfl Try.underlying24 _ _ _ rfl) ?_;go_frame;refine Rg.in_run (some 22) rfl rfl (fun _ hh => by cases hh) (Rg.xm (.int .i64 ((0 : Nat) : Int)) _ rfl rfl) ?_;go_frame;clear hsr;have HL0 := ι (show T.map Ma.ofN = T.map Ma.ofN ++ (tlOf RR X).take 0 by simp);have HN0 := ι (show T.length ≤ T.length + 0 from Nat.le_refl _)
   gi_wp2
   gi_loopw [22] (fun jv wr => ∃ (j : Nat) (F : Nat → Prop) (v : Value) (T' : List (List Nat)), jv = .int .i64 j ∧ j ≤ m ∧ Hid (SgI w tb ((N : Nat) : Int) (.slice oa OO.length oc) (.slice ra RR.length rc) wr F v T') ∧ Hid (KK B w.heap.size W wr) ∧ Hid (T'.map Ma.ofN = T.map Ma.ofN ++ (tlOf RR X).take j) ∧ Hid (T'.length ≤ T.length + j)) (fun jv _ => m - (intOf jv).toNat)
   case atStart => exact ⟨0, _, _, _, rfl, Nat.zero_le _, SG, KQ, HL0, HN0⟩
   case round =>
    clear SG KQ HL0 HN0;obtain ⟨j, F, v, T', rfl, hj, SG, KQ, HL0, HN0⟩ := hrel;obtain ⟨va, vc, hsv⟩ := SG.out.row.shape;subst hsv
    by_cases hjl : j < m
    case neg =>
     obtain rfl : j = m := by omega
     have hjN : ¬ (j : Int) < (j : Int) := by omega
     gi_upto_region 8 with (fail)
     refine wpIn_region_list ?_;refine Rg.in_run (some 23) rfl rfl (fun _ hh => by cases hh) (exec_bin (R := .bool false) .lss _ _ _ rfl rfl rfl (b_lss _ (decide_eq_false hjN))) ?_;go_frame
     have HT9 := ι (show T'.map Ma.ofN = (pre ++ [(⟨X, HXR.out⟩ : Fin RR.length)]).flatMap (fun z => tlOf RR z.1) by
      rw [List.flatMap_append, List.flatMap_singleton, HL0.out, HFL.out, List.take_of_length_le]
      rw [HTLO.out, List.length_map, List.length_drop, HM.out]; omega)
     have HN9 := ι (show T'.length ≤ 64 * (pre ++ [(⟨X, HXR.out⟩ : Fin RR.length)]).length by
      rw [List.length_append, List.length_singleton]
      have := HN0.out; have := HTL0.out; omega)
     gi_wp2
     exact ⟨KQ.out.keeps, KQ.out.bel, _, _, _, SG.out, HT9.out, HN9.out⟩
    case pos =>
     have hjN : (j : Int) < (m : Int) := by omega
     have HJL := ι hjl;obtain rfl := HCA.out (by omega);obtain ⟨sv, hsc, hsi⟩ := HUC.out (1 + j) (by rw [List.length_map, HM.out]; omega);obtain ⟨s, hs⟩ : ∃ s : List Nat, Hid (rl[1 + j]'(by rw [HM.out]; omega) = s) := ⟨_, ι rfl⟩
     have hsn : Rg.NP w sv s := by rw [← hs.out]; rw [List.getElem_map] at hsi; exact hsi
     have GS := ι (HRM.out s (by rw [← hs.out]; exact List.getElem_mem _));obtain ⟨sa, so, sc, rfl⟩ := (FP.of_np hsn).shape' GS.out hN1;have CS := ι (show CL w ub (uo + 1 + j) (.slice (some ⟨sa, so, none⟩) N sc) from CL.mk (by rw [Nat.add_assoc]; exact hsc) HUB.out);have NS := ι (show Rg.Ints w _ (Ma.ofN s) from hsn);have HSL := ι (show (Ma.ofN s).length = N by rw [Ma.len_ofN, GS.out.2]);have HPS := ι (show T'.length < 1000000 by have := HN0.out; have := HTL.out; omega);have KW := ι SG.out.bel;clear hsc hsi hsn
     gi_upto_region 8 with (fail)
     refine wpIn_region_list ?_;refine Rg.in_run (some 23) rfl rfl (fun _ hh => by cases hh) (exec_bin (R := .bool true) .lss _ _ _ rfl rfl rfl (b_lss _ (decide_eq_true (by omega)))) ?_;go_frame
     gi_upto_region 9 with (fail)
     refine wpIn_region_list ?_;refine Rg.in_run (some 24) rfl rfl (fun _ hh => by cases hh) (exec_indexS slPerms _ _ rfl ub (uo + 1) (m) cm (j) rfl rfl HJL.out) ?_;go_frame;refine Rg.in_run (some 25) rfl rfl (fun _ hh => by cases hh) (Rg.exec_load (v := .slice (some ⟨sa, so, none⟩) N sc) _ _ rfl ⟨ub, uo + 1 + j, none⟩ rfl (Rg.run_loadSl _ _ Try.underlying39 ((Below.cell (p := ⟨ub, uo + 1 + j, none⟩) KW.out CS.out.lt).trans CS.out.cell))) ?_;go_frame;refine Rg.in_run (some 9) rfl rfl (fun _ hh => by cases hh) (Rg.xa (.slice (some ⟨sa, so, none⟩) N sc) _ rfl rfl) ?_;go_frame;have NS2 := ι (NpW.mk (x := s) (Rg.NP.below (show Rg.NP w _ s from NS.out) KW.out));clear KW;have NS3 := ι (NpW.below NS2.out ((Below.refl _ _).drew));have KQ1 := ι (KQ.out.acc ((Below.refl _ _).drew))
     gi_upto_region 10 with (fail)
     have hV0 : Below wr.heap.size wr wr.drew := (Below.refl _ _).drew;replace SG := ι (SG.out.up hV0);generalize Fup F wr wr.drew = F1 at *;clear hV0;refine Rg.Any.beginIn (hnd := by kernel_rfl) (S := Rg.Both 4 (fun W => Below wr.drew.heap.size wr.drew W) (fun _ => True)) mix ?_;generalize wr.drew = w61 at *;have hS : ∀ (l : Array Bool) W, Below w61.heap.size w61 W → Rg.Both 4 (fun W => Below w61.heap.size w61 W) (fun _ => True) l W := fun l W h => ⟨.inr h, trivial⟩;have hS2 : ∀ (l : Array Bool) W, l.getD 4 false = true → Rg.Both 4 (fun W => Below w61.heap.size w61 W) (fun _ => True) l W := fun l W h => ⟨.inl h, trivial⟩;have hI : Below w61.heap.size w61 w61 := Below.refl _ _;refine Rg.Any.takeT (i := 0) (t := 4) (v := .slice va T'.length vc) (some 26) rfl rfl (by kernel_rfl) (by kernel_rfl) (by kernel_rfl) (fun _ _ _ h => h) rfl (by kernel_rfl) rfl (Rg.yields_cell _ _ rfl rfl ⟨tb, 0, none⟩ rfl (fun W hW => Rg.run_loadSl _ _ Try.underlying24 ((Below.cell (p := ⟨tb, 0, none⟩) hW SG.out.c5.lt).trans SG.out.c5.c))) (hS _ _ hI) ?_;go_frame
     refine Rg.tg 1 4 (.slice (some ⟨sa, so, none⟩) N sc) 27 rfl rfl (.inl ⟨rfl, fun w _ => Rg.exec_move (v := .slice (some ⟨sa, so, none⟩) N sc) _ rfl rfl⟩) (hS _ _ hI) ?_;go_frame;refine Rg.Any.one (i := 2) (by kernel_rfl) (Rg.Any.ask (some 28) rfl rfl rfl _ _ (exec_fn1 83 _ _ rfl rfl (Vzcl3 _ _)) ?_);refine (Clone_any _ (Ma.ofN s) w61 NS3.out.np (by rw [HSL.out]; exact hN1) (by rw [HSL.out]; omega)).mono ?_;rintro e1 w62 ⟨cv, rfl, hcv, hb⟩;have hfp := FP.own (F := F1) (x := s) hcv (by rw [HSL.out]; omega);obtain ⟨yb, yo, yc, rfl⟩ := FP.shape' hfp GS.out hN1;have hkq2 := KQ1.out.acc hb;have hI2_u := Rg.acc hI hb;clear hI;replace SG := ι (SG.out.up hb);have YV := ι hfp;generalize Fup F1 w61 w62 = F2 at *;clear hb;refine ⟨_, rfl, (hS _ _ hI2_u), ?_⟩;go_frame;obtain ⟨a9, c9, X9, r1, hrow, hkp⟩ := SG.out.row.push YV.out ⟨_, _, _, rfl⟩ (fun k hk => (SG.out.Fr k hk).2) (fun _ e => e.elim) HPS.out 24
     have hI3_m := Rg.acc hI2_u ((Below.refl _ _).alloc (Nat.le_refl _) (.cells #[.slice (some ⟨yb, yo, none⟩) N yc] 39));refine Rg.Any.one (i := 3) (by kernel_rfl) (Rg.Any.run (some 29) rfl rfl rfl (Rg.exec_buildSlice _ _ _ rfl (.slice (some ⟨yb, yo, none⟩) N yc) rfl (run_build1P w62 _ ⟨_, _, _, rfl⟩)) (hS _ _ hI3_m) ?_);go_frame;refine Rg.Any.one (i := 4) (by kernel_rfl) (Rg.Any.run (some 30) rfl rfl rfl (Rg.exec_append _ _ _ rfl rfl rfl r1) (hS2 _ _ rfl) ?_);go_frame;have c5x := SG.out.c5.kp hkp (fun e => by have := (SG.out.row.lt _ e).1; omega);refine Rg.Any.one (i := 5) (by kernel_rfl) (Rg.Any.runSkip none rfl rfl rfl (Rg.exec_store _ _ _ rfl _ rfl _ rfl (Rg.run_storeSl _ infoPermsV c5x.c c5x.f)) (hS2 _ _ rfl) ?_);go_frame;refine Rg.Any.done (by kernel_rfl) ?_ _;refine Rg.onlyN_i ?_;clear hS2;clear hS hI3_m;have hsg2 := SG.out.store hkp hrow;have hkq3 : KK B w.heap.size W (X9.setCell ⟨tb, 0, none⟩ (.slice a9 (T'.length + 1) c9)) := (hkq2.rowH hkp SG.out.row (by have := SG.out.low; omega)).set _ (by have := SG.out.low; omega)
     generalize X9.setCell ⟨tb, 0, none⟩ (.slice a9 (T'.length + 1) c9) = w98 at *;have SG2 := ι hsg2;have KQ2 := ι hkq3
     have HL2 := ι (show (T' ++ [s]).map Ma.ofN = T.map Ma.ofN ++ (tlOf RR X).take (j + 1) by
      have e : (tlOf RR X).take (j + 1) = (tlOf RR X).take j ++ [Ma.ofN s] := by
       rw [HTLO.out, List.take_succ_eq_append_getElem (by rw [List.length_map, List.length_drop, HM.out]; have := HJL.out; omega), List.getElem_map, List.getElem_drop, hs.out]
      rw [List.map_append, HL0.out, e, List.append_assoc]; rfl)
     have HN2 := ι (show (T' ++ [s]).length ≤ T.length + (j + 1) by rw [List.length_append, List.length_singleton]; have := HN0.out; omega);clear hsg2 hkq3 hkq2 r1 hrow hkp c5x SG KQ KQ1 hcv hfp YV
     gi_wp2
     go_roundw
     case rel => exact ⟨j + 1, _, _, _, by go_num, HJL.out, SG2, KQ2, HL2, HN2⟩
     case measure => simp [intOf]; have := HJL.out; omega
  case done =>
   rintro D Wd hD ⟨F, v, T, hsg, hfl, htl⟩ hd;have HD := ι (show w.heap.size ≤ D by have := HS0.out; have := SG.out.low; omega);clear FB HRV SG K;have SG := ι hsg;have DF := ι hd;obtain ⟨va, vc, hsv⟩ := hsg.row.shape;subst hsv
   have HX := ι (show Rg.Rows Wd (.slice va T.length vc) (sgA ((N : Nat) : Int) OO RR) by
    have e : T.map Ma.ofN = sgA ((N : Nat) : Int) OO RR := by
     unfold sgA;rw [if_pos HZ.out, hfl, finTo_tl]
    rw [← e]
    exact hsg.row.rows (by
     have := finTo_val (Nat.le_refl RR.length);have h2 := congrArg List.length this;rw [List.length_map, List.length_range] at h2;have := HLR.out
     omega))
   clear hsg hfl htl hd;go_upto_region 12 with (fail);refine wp_region_list ?_;refine Rg.lr 32 (Rg.exec_load (v := .slice va T.length vc) _ _ rfl ⟨tb, 0, none⟩ rfl (Rg.run_loadSl _ _ Try.underlying24 SG.out.c5.c)) ?_;go_frame;refine Rg.lr 2 (Rg.xa (.slice va T.length vc) _ rfl rfl) ?_;go_frame;refine Rg.lr 3 (Rg.xa (.int .i64 ((0 : Nat) : Int)) _ rfl rfl) ?_;go_frame;go_wp2;exact sg_leave (ds := [D]) SG.out.bel HX.out HZ.out rfl rfl (by simp) (fun D' hD' => by simp at hD'; subst hD'; exact ⟨DF.out, HD.out⟩)
end Go.Proofs.Ytcfomoknlchemaa

namespace Go.Proofs.Ytcfomoknlchemaa
open Go.RowKit
open Go.Proofs
open Go.Proofs.Ob
open Go.Proofs.Cm (Gr Gd IsChain IsG St Fx ap Lst lexLt)
attribute [local irreducible] Go.Calls Go.wpList
theorem fx_or {n : Nat} {z : List Nat} (gz : Gd n z) : ∀ k, k ≤ n → Fx k z ∨ ∃ j, j < k ∧ (∀ m, m < j → ap z m = m) ∧ ap z j ≠ j
 | 0, _ => .inl fun j hj => absurd hj (Nat.not_lt_zero _)
 | k + 1, hk => by
  rcases fx_or gz k (by omega) with h | ⟨j, h1, h2⟩
  ·by_cases e : ap z k = k
   ·exact .inl fun j hj => by
     by_cases e2 : j = k
     ·subst e2; exact e
     ·exact h j (by omega)
   ·exact .inr ⟨k, by omega, h, e⟩
  ·exact .inr ⟨j, by omega, h2⟩
theorem one_leastP {n : Nat} {z : List Nat} (gz : Gd n z) : z = Ma.oneN n ∨ lexLt n (Ma.oneN n) z := by
 rcases fx_or gz n (Nat.le_refl _) with h | ⟨j, h1, h2, h3⟩
 ·exact .inl (Fx.all gz h)
 ·refine .inr ⟨j, h1, fun m hm => by rw [Cm.ap_one (by omega), h2 m hm], ?_⟩
  rw [Cm.ap_one h1];have h4 : ¬ ap z j < j := fun h => h3 (Cm.ap_inj gz (Cm.ap_lt gz h1) h1 (h2 _ h));omega
theorem rep_first {n : Nat} {H : List Nat → Prop} (hH : IsG n H) {O : List (List Nat)} {R : List (List (List Nat))} (h : IsChain n H O R) {i : Nat} (hi : i < n) : ∃ t, R.getD i [] = Ma.oneN n :: t := by
 have s1 : St H i (Ma.oneN n) := ⟨hH.one, Fx.one (Nat.le_of_lt hi)⟩;have hm : i ∈ O.getD i [] := (h.orb i i hi).2 ⟨_, s1, Cm.ap_one hi⟩;have hp := List.length_pos_of_mem hm
 have h0 : (O.getD i [])[0] = i := by
  obtain ⟨x, hx, e⟩ := (h.orb i _ hi).1 (List.getElem_mem hp);have gx := hH.gd _ hx.1;obtain ⟨k, hk, ek⟩ := List.getElem_of_mem hm
  rcases Nat.eq_zero_or_pos k with rfl | hk0
  ·exact ek
  ·have hlt := (List.pairwise_iff_getElem.1 (h.asc i hi)) 0 k hp hk hk0
   rw [ek] at hlt;have h3 := hx.2 _ hlt;have := Cm.ap_inj gx (by omega) hi (h3.trans e.symm);omega
 have hr := h.rep i 0 hi hp;rw [show (O.getD i []).getD 0 0 = i by rw [Cm.getD_in hp]; exact h0] at hr;have ho : Lst n (fun z => St H i z ∧ ap z i = i) (Ma.oneN n) := ⟨⟨s1, Cm.ap_one hi⟩, fun z hz => (one_leastP (hH.gd _ hz.1.1)).imp id id⟩;have e := hr.uniq ho
 have hl : 0 < (R.getD i []).length := by rw [h.len i hi]; exact hp
 cases hR : R.getD i [] with
 | nil => rw [hR] at hl; cases hl
 | cons a t =>
  rw [hR] at e;exact ⟨t, by rw [show a = Ma.oneN n from e]⟩
def sgL (R : List (List (List Nat))) : List (List Nat) := R.flatMap (List.drop 1)
theorem sgL_gd {n : Nat} {H : List Nat → Prop} (hH : IsG n H) {O : List (List Nat)} {R : List (List (List Nat))} (h : IsChain n H O R) : ∀ s ∈ sgL R, Gd n s := fun s hs => by
 obtain ⟨r, hr, hs⟩ := List.mem_flatMap.1 hs;exact hH.gd s (chain_H h (List.mem_flatten.2 ⟨r, hr, List.mem_of_mem_drop hs⟩))
theorem sgL_gen {n : Nat} {H : List Nat → Prop} (hH : IsG n H) {O : List (List Nat)} {R : List (List (List Nat))} (h : IsChain n H O R) : H = Gr n (· ∈ sgL R) := by
 funext x
 refine propext ⟨fun hx => ?_, fun hx => Gr.sub hH (fun s hs => ?_) hx⟩
 ·have h1 := (chain_gen hH h x).1 hx
  refine Gr.sub (Gr.isG (sgL_gd hH h)) (fun s hs => ?_) h1;obtain ⟨r, hr, hs⟩ := List.mem_flatten.1 hs;obtain ⟨i, hi, rfl⟩ := List.getElem_of_mem hr;obtain ⟨t, ht⟩ := rep_first hH h (i := i) (by rw [h.lenR] at hi; exact hi);rw [Cm.getD_in hi] at ht;rw [ht] at hs
  rcases List.mem_cons.1 hs with rfl | hs
  ·exact .one
  ·exact .gen _ (List.mem_flatMap.2 ⟨R[i], List.getElem_mem hi, by rw [ht]; exact hs⟩)
 ·obtain ⟨r, hr, hs⟩ := List.mem_flatMap.1 hs
  exact chain_H h (List.mem_flatten.2 ⟨r, hr, List.mem_of_mem_drop hs⟩)
theorem flat_len {α : Type} {m : Nat} : ∀ {R : List (List α)}, (∀ r ∈ R, r.length ≤ m) → (R.flatMap (List.drop 1)).length ≤ m * R.length
 | [], _ => Nat.zero_le _
 | r :: R, h => by
  have h1 := flat_len (R := R) (fun x hx => h x (List.mem_cons_of_mem _ hx));have h2 := h r (List.mem_cons_self ..);rw [List.flatMap_cons, List.length_append, List.length_drop, List.length_cons, Nat.mul_succ];omega
theorem sgL_len {n : Nat} {H : List Nat → Prop} (hH : IsG n H) {O : List (List Nat)} {R : List (List (List Nat))} (h : IsChain n H O R) (hn : n ≤ 64) : (sgL R).length ≤ 4096 := by
 have := flat_len (R := R) (m := 64) fun r hr => by
  obtain ⟨i, hi, rfl⟩ := List.getElem_of_mem hr
  have hi' : i < n := by rw [h.lenR] at hi; exact hi
  have h1 := h.len i hi';have h2 := chain_len hH h hi';rw [Cm.getD_in hi] at h1;omega
 rw [h.lenR] at this;have h64 : 64 * n ≤ 64 * 64 := Nat.mul_le_mul_left _ hn;unfold sgL;omega
theorem sgL_map (R : List (List (List Nat))) : (R.map (List.map Ma.ofN)).flatMap (List.drop 1) = (sgL R).map Ma.ofN := by
 unfold sgL;rw [List.flatMap_map, List.map_flatMap]
 congr 1
 funext r
 rw [List.map_drop]
theorem mkchk_good {D : Nat} (h1 : 1 ≤ D) (h2 : D ≤ 64) {gs : List (List Nat)} (hl : gs.length ≤ 4096) (h : ∀ s ∈ gs, Gd D s) : mkchk ((D : Nat) : Int) (gs.map Ma.ofN) = 0 := by
 unfold mkchk;rw [if_pos (by omega), if_pos (by rw [List.length_map]; exact hl)];exact gck_good h1 h2 h
structure OtG (d : Nat) (gs T : List (List Nat)) (i : Nat) : Prop where
 gd : ∀ s ∈ T, Gd d s
 gr : ∀ s ∈ T, Gr d (· ∈ gs) s
 all : ∀ j (h : j < gs.length), i ≤ j → Gr d (· ∈ T) gs[j]
theorem OtG.start {d : Nat} {gs : List (List Nat)} : OtG d gs [] gs.length := ⟨fun s hs => (by cases hs), fun s hs => (by cases hs), fun j h1 h2 => absurd h1 (by omega)⟩
theorem OtG.push {d : Nat} {gs T : List (List Nat)} {i : Nat} (h : OtG d gs T i) {x : List Nat} (gx : Gd d x) (hx : Gr d (· ∈ gs) x) : OtG d gs (T ++ [x]) i :=
 ⟨fun s hs => by
  rcases List.mem_append.1 hs with hs | hs
  ·exact h.gd s hs
  ·rw [List.mem_singleton] at hs; rw [hs]; exact gx, fun s hs => by
  rcases List.mem_append.1 hs with hs | hs
  ·exact h.gr s hs
  ·rw [List.mem_singleton] at hs; rw [hs]; exact hx, fun j h1 h2 => (h.all j h1 h2).mono fun s hs => List.mem_append_left _ hs⟩
theorem OtG.down {d : Nat} {gs T : List (List Nat)} {i : Nat} (h : OtG d gs T (i + 1)) (hi : i < gs.length) (he : Gr d (· ∈ T) gs[i]) : OtG d gs T i :=
 ⟨h.gd, h.gr, fun j h1 h2 => by
  by_cases e : j = i
  ·subst e; exact he
  ·exact h.all j h1 (by omega)⟩
theorem OtG.same {d : Nat} {gs T : List (List Nat)} (hg : ∀ s ∈ gs, Gd d s) (h : OtG d gs T 0) : Gr d (· ∈ T) = Gr d (· ∈ gs) := by
 funext x
 refine propext ⟨fun hx => Gr.sub (Gr.isG hg) h.gr hx, fun hx => Gr.sub (Gr.isG h.gd) (fun s hs => ?_) hx⟩;obtain ⟨j, hj, rfl⟩ := List.getElem_of_mem hs;exact h.all j hj (Nat.zero_le _)
theorem OtG.take1 {d : Nat} {gs T : List (List Nat)} {i : Nat} (h : OtG d gs T (i + 1)) (hi : i < gs.length) (hg : ∀ s ∈ gs, Gd d s) : OtG d gs (T ++ [gs[i]]) i :=
 (h.push (hg _ (List.getElem_mem hi)) (.gen _ (List.getElem_mem hi))).down hi (.gen _ (by simp))
theorem OtG.takeI {d : Nat} {gs T : List (List Nat)} {i : Nat} (h : OtG d gs T (i + 1)) (hi : i < gs.length) (hg : ∀ s ∈ gs, Gd d s) : OtG d gs (T ++ [Ma.invN gs[i]]) i := by
 have g1 := hg _ (List.getElem_mem hi);have h1 := h.push (Cm.gd_inv g1) (.inv _ (.gen _ (List.getElem_mem hi)));refine h1.down hi ?_;have h2 : Gr d (· ∈ T ++ [Ma.invN gs[i]]) (Ma.invN (Ma.invN gs[i])) := .inv _ (.gen _ (by simp))
 have e : Ma.invN (Ma.invN gs[i]) = gs[i] := by
  have gi := Cm.gd_inv g1;have e1 := Cm.mul_inv_cancel (Cm.gd_one d) gi;have e2 : Ma.mulN (Ma.mulN gs[i] (Ma.invN gs[i])) (Ma.invN (Ma.invN gs[i])) = gs[i] := Cm.mul_cancel_inv g1 gi;rw [Cm.mul_inv g1, Cm.one_mul (Cm.gd_inv gi)] at e2;exact e2
 rwa [e] at h2
structure OgI (w W : World) (tk gb k d : Nat) (lv : Value) (l : List Int) (F : Nat → Prop) (gv : Value) (gs : List (List Nat)) : Prop where
 tkr : Tk w W tk k lv l
 g0 : CL W gb 0 (.int .i64 ((d : Nat) : Int))
 g1 : W.cell? ⟨gb, 1, none⟩ = some gv
 gf : W.frozen? ⟨gb, 1, none⟩ = false
 rw : RowH w.heap.size F (fun z => z = tk ∨ z = gb) W gv gs
 nF : ∀ z, (z = tk ∨ z = gb) → ¬ F z
 Flt : ∀ z, F z → z < W.heap.size
 n1 : gb ≠ tk
 lo : w.heap.size ≤ gb
 Fs : ∀ z, z < w.heap.size → F z
theorem OgI.kt {w W W' : World} {tk gb k k' d : Nat} {lv : Value} {l : List Int} {F : Nat → Prop} {gv : Value} {gs : List (List Nat)} (h : OgI w W tk gb k d lv l F gv gs) (hk : Rg.Kp (fun z => z = tk) W W') (ht : Tk w W' tk k' lv l) : OgI w W' tk gb k' d lv l (Fup F W W') gv gs := by
 have hg := hk.block gb h.g0.lt h.n1;refine ⟨ht, h.g0.kp hk h.n1, (World.cell?_of_block (a := ⟨gb, 1, none⟩) hg).trans h.g1, (World.frozen?_of_block (a := ⟨gb, 1, none⟩) hg).trans h.gf, h.rw.upk hk (fun z hz e => h.nF z (.inl e) hz) (fun z e => .inl e), fun z hz hf => ?_, fun z hf => ?_, h.n1, h.lo, fun z hz => .inl (h.Fs z hz)⟩
 ·rcases hf with hf | hf
  ·exact h.nF z hz hf
  ·rcases hz with e | e
   ·have := h.tkr.lt; omega
   ·have := h.g0.lt; omega
 ·rcases hf with hf | hf
  ·exact Nat.lt_of_lt_of_le (h.Flt z hf) hk.size
  ·exact hf.2
theorem OgI.up {w W W' : World} {tk gb k d : Nat} {lv : Value} {l : List Int} {F : Nat → Prop} {gv : Value} {gs : List (List Nat)} (h : OgI w W tk gb k d lv l F gv gs) (hb : Below W.heap.size W W') : OgI w W' tk gb k d lv l (Fup F W W') gv gs :=
 h.kt ((Rg.Kp.of_below hb).weak fun _ => False.elim) (h.tkr.below hb)
theorem OgI.push {w W : World} {tk gb k d : Nat} {lv : Value} {l : List Int} {F : Nat → Prop} {gv : Value} {gs : List (List Nat)} (h : OgI w W tk gb k d lv l F gv gs) {u : Value} {y : List Nat} (hu : FP F W u y) (hs : ∃ a m c, u = .slice a m c) (hn : gs.length < 1000000) (ty : TypeId) :
  ∃ a c X, (Builtin.append_ #[24, 24] ty #[gv, .slice (some ⟨W.heap.size, 0, none⟩) 1 1]).run Try.prog (W.alloc (.cells #[u] 39)) = .ok (.slice a (gs.length + 1) c) X ∧ X.cell? ⟨gb, 1, none⟩ = some gv ∧ X.frozen? ⟨gb, 1, none⟩ = false ∧ Below w.heap.size w X ∧
   OgI w (X.setCell ⟨gb, 1, none⟩ (.slice a (gs.length + 1) c)) tk gb k d lv l F (.slice a (gs.length + 1) c) (gs ++ [y]) := by
 have hM : ∀ z, (z = tk ∨ z = gb) → z < W.heap.size := fun z e => by
  rcases e with e | e
  ·have := h.tkr.lt; omega
  ·have := h.g0.lt; omega
 obtain ⟨a, c, X, r1, r2, r3⟩ := h.rw.push hu hs h.Flt hM hn ty;have hO : ∀ z, (z = tk ∨ z = gb) → ¬ gv.ownBlock = some z := fun z hz e => (h.rw.off z e).2 hz;have hkg := r3.block gb h.g0.lt (hO gb (.inr rfl));have hc1 := (World.cell?_of_block (a := ⟨gb, 1, none⟩) hkg).trans h.g1;have hf1 := (World.frozen?_of_block (a := ⟨gb, 1, none⟩) hkg).trans h.gf;have hk2 : Rg.Kp (fun z => z = gb) X (X.setCell ⟨gb, 1, none⟩ (.slice a (gs.length + 1) c)) := Rg.Kp.of_setCell rfl;have hFg : ∀ z, F z → ¬ z = gb := fun z hz e => h.nF z (.inr e) hz;have hbX : Below w.heap.size w X := Rg.Kp.below h.tkr.bel r3 (fun z e => (h.rw.lt z e).1);refine ⟨a, c, X, r1, hc1, hf1, hbX, ⟨(h.tkr.kp r3 (hO tk (.inl rfl)) (fun z e => (h.rw.lt z e).1)).kp hk2 (fun e => h.n1 e.symm) (fun z e => e ▸ h.lo), ?_, World.cell?_setCell_same (h := hc1) .., by rw [World.frozen?_setCell]; exact hf1, r2.kp hk2 hFg (fun k e e2 => ?_), h.nF, fun z hz => Nat.lt_of_lt_of_le (h.Flt z hz) (Nat.le_trans r3.size hk2.size), h.n1, h.lo, h.Fs⟩⟩
 ·refine ⟨?_, Nat.lt_of_lt_of_le h.g0.lt (Nat.le_trans r3.size hk2.size)⟩
  rw [World.cell?_setCell_other (h := by intro e; injection e with e1 e2; omega) ..]
  exact (World.cell?_of_block (a := ⟨gb, 0, none⟩) hkg).trans h.g0.cell
 ·subst e2
  exact (r2.off k e).2 (.inr rfl)
end Go.Proofs.Ytcfomoknlchemaa

namespace Go.Proofs.Ytcfomoknlchemaa
open Go.RowKit
open Go.Proofs
open Go.Proofs.Ob
open Go.Proofs.Cm (Gd Gr IsChain)
attribute [local irreducible] Go.Calls Go.wpList
theorem Gfcl0 (args : Array Value) (w : World) : (callFunc 14 args).run Try.prog w = .ok (.enter 14 args) w := by kernel_rfl
theorem Gfcl1 (args : Array Value) (w : World) : (callFunc 15 args).run Try.prog w = .ok (.enter 15 args) w := by kernel_rfl
theorem Gfcl4 (args : Array Value) (w : World) : (callFunc 30 args).run Try.prog w = .ok (.enter 30 args) w := by kernel_rfl
theorem Gfcl6 (args : Array Value) (w : World) : (callFunc 31 args).run Try.prog w = .ok (.enter 31 args) w := by kernel_rfl
theorem Gfcl7 (args : Array Value) (w : World) : (callFunc 32 args).run Try.prog w = .ok (.enter 32 args) w := by kernel_rfl
theorem ChainSame_any (v0 : Value) (l0 : List Int) (v1 : Value) (l1 : List Int) (w : World) (h0 : Rg.IntsB maxLen w v0 l0) (h1 : Rg.IntsB maxLen w v1 l1) :
  Calls Try.prog 5 #[v0, v1] w fun e w' => e = .returned (.bool true) ∧ Below w.heap.size w w' := by
 obtain ⟨a0, c0, rfl, -⟩ := h0.shape;have HL0 := ι (show IB w (.slice a0 l0.length c0) l0 from ⟨h0⟩);clear h0;obtain ⟨a1, c1, rfl, -⟩ := h1.shape;have HL1 := ι (show IB w (.slice a1 l1.length c1) l1 from ⟨h1⟩);clear h1;have K := ι (Below.refl w.heap.size w)
 go_enter Try.func5, Try.ntmps5
 go_upto_region 0 with (fail);refine wp_region_list ?_;refine Rg.lr 4 (Rg.xa (.bool false) _ rfl rfl) ?_;go_frame;go_upto_region 1 with (fail);refine wp_region_list ?_;refine list_ask (some 20) rfl rfl _ _ (exec_fn0 14 _ rfl (Gfcl0 _ _)) ?_;refine (ChainKnown_any w).mono ?_;rintro e1 w1 ⟨rfl, hb⟩;refine ⟨_, rfl, ?_⟩;go_frame;replace HL0 := ι (HL0.out.below hb);replace HL1 := ι (HL1.out.below hb);replace K := ι (Rg.acc K.out hb);clear hb;refine Rg.lr 5 (Rg.xa (.bool true) _ rfl rfl) ?_;go_frame;go_upto_region 2 with (fail);refine wp_region_list ?_;refine Rg.lr 21 (Rg.xm (.slice a0 l0.length c0) _ rfl rfl) ?_;go_frame;refine list_ask (some 22) rfl rfl _ _ (exec_fn 15 _ _ _ rfl rfl rfl (Gfcl1 _ _)) ?_;refine (GroupOf_any _ _ 10 w1 HL0.out.i (by decide) (by decide)).mono ?_;rintro e1 w2 ⟨d, gv, gs, rfl, hd1, hd2, hgl, hgs, hgr, hb⟩;obtain ⟨ga, gc, rfl, -⟩ := hgr.shape;have HD := ι (show 1 ≤ d ∧ d ≤ 10 from ⟨hd1, hd2⟩)
 have HGS := ι hgs;have HGL := ι hgl;have HCK := ι (gchk_good (gs := gs) hd1 (by omega) (by omega) hgs);clear hgs hgl;refine ⟨_, rfl, ?_⟩;go_frame;replace HL0 := ι (HL0.out.below hb);replace HL1 := ι (HL1.out.below hb);replace K := ι (Rg.acc K.out hb);clear hb;have HG := ι hgr;obtain ⟨W2, hst, hga, hb⟩ := GI.fresh (d := ((d : Nat) : Int)) HG.out;refine Rg.lr 6 (exec_allocG rfl) ?_;go_frame;refine Rg.list_skip none rfl rfl (Rg.exec_store _ _ _ rfl _ rfl _ rfl hst) ?_;go_frame;clear hst;clear hgr;replace HL0 := ι (HL0.out.below hb);replace HL1 := ι (HL1.out.below hb);replace HG := ι (HG.out.below hb);replace K := ι (Rg.acc K.out hb);clear hb;have G6 := ι hga;clear hga;have hd10 : 1 ≤ d ∧ d ≤ 10 := HD.out;have hgl3 : gs.length ≤ 3 := HGL.out;go_upto_region 3 with (fail);refine wp_region_list ?_;refine Rg.lr 24 (Rg.exec_load (v := .agg #[.int .i64 ((d : Nat) : Int), .slice ga (gs.map Ma.ofN).length gc]) _ _ rfl ⟨w2.heap.size, 0, none⟩ rfl (run_loadG G6.out.c0 G6.out.c1)) ?_;go_frame
 refine list_ask (some 25) rfl rfl _ _ (exec_fn1 17 _ _ rfl rfl (Xdcl1 _ _)) ?_;refine (chOf_any _ _ (gs.map Ma.ofN) W2 HG.out).mono ?_;rintro e1 w3 ⟨cv, rfl, hcv, hb⟩;rw [HCK.out] at hcv ⊢;obtain ⟨oa1, on1, oc1, ra1, rn1, rc1, O1, R1, rfl, hce, hci⟩ := chAns_ok hcv;have HI1 := ι hci;clear hcv hci;refine ⟨_, rfl, ?_⟩;go_frame;replace HL0 := ι (HL0.out.below hb);replace HL1 := ι (HL1.out.below hb);replace HG := ι (HG.out.below hb);replace G6 := ι (G6.out.below hb);replace K := ι (Rg.acc K.out hb);clear hb;have E1 := ι hce;refine Rg.lr 23 (Rg.xm (.tuple #[(.agg #[.int .i64 ((d : Nat) : Int), .slice oa1 on1 oc1, .slice ra1 rn1 rc1]), .int .i64 0]) _ rfl rfl) ?_;go_frame;refine Rg.lr 26 (exec_extract (v := (.agg #[.int .i64 ((d : Nat) : Int), .slice oa1 on1 oc1, .slice ra1 rn1 rc1])) _ _ rfl rfl rfl) ?_;go_frame;refine Rg.lr 27 (exec_extract (v := .int .i64 0) _ _ rfl rfl rfl) ?_;go_frame;refine Rg.lr 7 (exec_allocC rfl) ?_;go_frame
 refine Rg.list_skip none rfl rfl (Rg.exec_store _ _ _ rfl _ rfl _ rfl (run_storeC _ _ _ _ _ _ _ (Tri.new w3 (.int .i64 0) (.slice none 0 0) (.slice none 0 0)))) ?_;go_frame;have htn := (Tri.new w3 (.int .i64 0) (.slice none 0 0) (.slice none 0 0)).set (.int .i64 ((d : Nat) : Int)) (.slice oa1 on1 oc1) (.slice ra1 rn1 rc1);have hb := ((((Below.refl w3.heap.size w3).alloc (Nat.le_refl _) (.cells #[.int .i64 0, .slice none 0 0, .slice none 0 0] 32)).setCell (p := ⟨w3.heap.size, 0, none⟩) (Nat.le_refl _) (.int .i64 ((d : Nat) : Int))).setCell (p := ⟨w3.heap.size, 1, none⟩) (Nat.le_refl _) (.slice oa1 on1 oc1)).setCell (p := ⟨w3.heap.size, 2, none⟩) (Nat.le_refl _) (.slice ra1 rn1 rc1);generalize (((w3.alloc (.cells #[.int .i64 0, .slice none 0 0, .slice none 0 0] 32)).setCell ⟨w3.heap.size, 0, none⟩ (.int .i64 ((d : Nat) : Int))).setCell ⟨w3.heap.size, 1, none⟩ (.slice oa1 on1 oc1)).setCell ⟨w3.heap.size, 2, none⟩ (.slice ra1 rn1 rc1) = w4 at *
 replace HL0 := ι (HL0.out.below hb);replace HL1 := ι (HL1.out.below hb);replace HG := ι (HG.out.below hb);replace G6 := ι (G6.out.below hb);replace E1 := ι (E1.out.below hb);replace K := ι (Rg.acc K.out hb);clear hb;have T1 := ι htn;clear htn;refine Rg.lr 8 (Rg.xa (.int .i64 0) _ rfl rfl) ?_;go_frame;clear hce;have HCC := ι (ChCode.good HD.out.1 (by omega) HGS.out HI1.out);have K0 := K;generalize w4 = wb at *;have KB := ι (Below.refl wb.heap.size wb);have htk := Tk.new (Below.refl wb.heap.size wb) HL1.out.i 43;have hk4 := (Below.refl wb.heap.size wb).alloc (Nat.le_refl _) (.cells #[.slice a1 l1.length c1, .int .i64 0] 43);go_upto_region 4 with (fail);refine wp_region_list ?_;refine Rg.lr 28 (Rg.xm (.slice a1 l1.length c1) _ rfl rfl) ?_;go_frame;refine Rg.lr 29 (exec_buildTk _ rfl rfl) ?_;go_frame;refine Rg.lr 30 (Rg.exec_box _ _ rfl rfl) ?_;go_frame;generalize wb.alloc (.cells #[.slice a1 l1.length c1, .int .i64 0] 43) = w5 at *
 refine Rg.lr 9 (Rg.xa (.pointer (some ⟨wb.heap.size, 0, none⟩)) _ rfl rfl) ?_;go_frame;have TK := ι htk;have K4 := ι hk4;clear htk hk4;obtain ⟨gq1, gq2, gq3⟩ := gset w5 (.int .i64 ((d : Nat) : Int)) (.slice none 0 0) 26;go_upto_region 5 with (fail);refine wp_region_list ?_;refine Rg.lr 31 (exec_fieldG0 _ rfl rfl) ?_;go_frame;refine Rg.lr 32 (Rg.exec_load (v := .int .i64 ((d : Nat) : Int)) _ _ rfl ⟨w2.heap.size, 0, none⟩ rfl (run_loadInt ((Below.cell (p := ⟨w2.heap.size, 0, none⟩) K4.out G6.out.lt).trans G6.out.c0))) ?_;go_frame;refine Rg.lr 33 (exec_buildG1 _ rfl rfl) ?_;go_frame;have hnb := box2 w5 (.int .i64 0) (.slice none 0 0);have hnf0 := frozenNewN w5 #[.int .i64 0, .slice none 0 0] 26 0 0;have hnf1 := frozenNewN w5 #[.int .i64 0, .slice none 0 0] 26 0 1;refine Rg.lr 10 (exec_allocG rfl) ?_;go_frame;refine Rg.list_skip none rfl rfl (Rg.exec_store _ _ _ rfl _ rfl _ rfl (run_storeG _ _ _ _ hnb.1.cell hnb.2.cell hnf0 hnf1)) ?_;go_frame
 have hTL := TK.out.lt;replace TK := ι (TK.out.below gq3);generalize ((w5.alloc (.cells #[.int .i64 0, .slice none 0 0] 26)).setCell ⟨w5.heap.size, 0, none⟩ (.int .i64 ((d : Nat) : Int))).setCell ⟨w5.heap.size, 1, none⟩ (.slice none 0 0) = w30 at *;obtain ⟨gb, hgb⟩ : ∃ gb, w5.heap.size = gb := ⟨_, rfl⟩;have hsz4 : wb.heap.size < w5.heap.size := hTL;rw [hgb] at gq1 gq2 hsz4 ⊢
 have OG := ι (show OgI wb w30 wb.heap.size gb 0 d (.slice a1 l1.length c1) l1 (fun z => z < wb.heap.size) (.slice none 0 0) [] from ⟨TK.out, gq1, gq2.c, gq2.f, RowH.nil _ _ _ _ TK.out.bel.size, fun z hz hf => by
  rcases hz with e | e
  ·rw [e] at hf; exact Nat.lt_irrefl _ hf
  ·rw [e] at hf; omega, fun z hz => Nat.lt_of_lt_of_le hz TK.out.bel.size, fun e => by omega, by omega, fun z hz => hz⟩)
 obtain ⟨FA, hFA⟩ : ∃ FA : Nat → Prop, (fun z => z < wb.heap.size) = FA := ⟨_, rfl⟩;rw [hFA] at OG;have HGT := ι hsz4;clear hFA TK K4 gq1 gq2 gq3 hnb hnf0 hnf1 hTL hgb hsz4;have HML := ι (show (gs.map Ma.ofN).length = gs.length from List.length_map _);obtain ⟨j0, hj0⟩ : ∃ j : Int, Hid (j = ((gs.length : Nat) : Int) - 1) := ⟨_, ι rfl⟩;go_upto_region 6 with (fail);refine wp_region_list ?_;refine Rg.lr 34 (exec_fieldG _ rfl rfl) ?_;go_frame;refine Rg.lr 35 (Rg.exec_load (v := .slice ga (gs.map Ma.ofN).length gc) _ _ rfl ⟨w2.heap.size, 1, none⟩ rfl (Rg.run_loadSl _ _ Try.underlying24 ((Below.cell (p := ⟨w2.heap.size, 1, none⟩) OG.out.tkr.bel G6.out.lt).trans G6.out.c1))) ?_;go_frame;refine Rg.lr 36 (exec_len _ _ _ rfl Try.underlying24 _ _ _ rfl) ?_;go_frame;refine Rg.lr 37 (exec_bin (R := .int .i64 j0) .sub _ _ _ rfl rfl rfl (b_sub _ (by rw [hj0.out, HML.out]) (by have := hj0.out; omega))) ?_;go_frame
 refine Rg.lr 11 (Rg.xa (.int .i64 j0) _ rfl rfl) ?_;go_frame;have OT := ι (OtG.start (d := d) (gs := gs));have HTL := ι (show ([] : List (List Nat)).length + gs.length = gs.length by simp);go_wp2
 go_loopw [11] (fun iv wr => ∃ (i k : Nat) (j : Int) (F : Nat → Prop) (gv : Value) (T : List (List Nat)), iv = .int .i64 j ∧ Hid (j = ((i : Nat) : Int) - 1) ∧ i ≤ gs.length ∧ Hid (OtG d gs T i) ∧ Hid (T.length + i = gs.length) ∧ Hid (OgI wb wr wb.heap.size gb k d (.slice a1 l1.length c1) l1 F gv T)) (fun iv _ => (intOf iv + 1).toNat)
 case atStart => exact ⟨gs.length, 0, j0, _, _, [], rfl, hj0, Nat.le_refl _, OT, HTL, OG⟩
 case round =>
  clear OG OT HTL hj0;obtain ⟨i, k, j, F, gv, T, rfl, hj, hi, OT, HTL, OG⟩ := hrel;obtain ⟨va, vc, rfl⟩ := OG.out.rw.shape;generalize wr = wd at *
  by_cases hi0 : i = 0
  case neg =>
   obtain ⟨m, rfl⟩ : ∃ m, i = m + 1 := ⟨i - 1, by omega⟩
   obtain rfl : j = ((m : Nat) : Int) := by rw [hj.out]; omega
   have hmg : m < gs.length := by omega
   have HMG := ι (show m < (gs.map Ma.ofN).length by rw [HML.out]; exact hmg);obtain ⟨rb, ro, ua, uc, rfl, hgb, hgc, hgu⟩ := rows_get HG.out (i := m) HMG.out;obtain ⟨x, hx⟩ : ∃ x, Hid (gs[m]'hmg = x) := ⟨_, ι rfl⟩;have GX := ι (show Gd d x by rw [← hx.out]; exact HGS.out _ (List.getElem_mem hmg));rw [List.getElem_map, hx.out] at hgc hgu;rw [Ma.len_ofN, GX.out.2] at hgc hgu;have NX := ι (NpW.mk (x := x) hgu);obtain ⟨xb, xo, xc', hsh⟩ := (FP.of_np NX.out.np).shape' GX.out hd10.1;simp only [Value.slice.injEq, true_and] at hsh;obtain ⟨rfl, rfl⟩ := hsh;have CX := ι (CL.mk hgc hgb);clear hgb hgc hgu hj;go_upto_region 7 with (fail);refine wp_region_list ?_;refine Rg.lr 38 (Rg.xm (.int .i64 ((m : Nat) : Int)) _ rfl rfl) ?_;go_frame;refine Rg.lr 39 (exec_bin (R := .bool true) .geq _ _ _ rfl rfl rfl (b_geq _ (decide_eq_true (by omega)))) ?_;go_frame;go_upto_region 9 with (fail);refine wp_region_list ?_
   refine Rg.lr 42 (exec_fieldG _ rfl rfl) ?_;go_frame;refine Rg.lr 43 (Rg.exec_load (v := .slice (some ⟨rb, ro, none⟩) (gs.map Ma.ofN).length gc) _ _ rfl ⟨w2.heap.size, 1, none⟩ rfl (Rg.run_loadSl _ _ Try.underlying24 ((Below.cell (p := ⟨w2.heap.size, 1, none⟩) OG.out.tkr.bel G6.out.lt).trans G6.out.c1))) ?_;go_frame;refine Rg.lr 44 (Rg.xm (.int .i64 ((m : Nat) : Int)) _ rfl rfl) ?_;go_frame;refine Rg.lr 45 (exec_indexS slPerms _ _ rfl rb (ro) ((gs.map Ma.ofN).length) gc (m) rfl rfl HMG.out) ?_;go_frame;refine Rg.lr 46 (Rg.exec_load (v := .slice (some ⟨xb, xo, none⟩) d uc) _ _ rfl ⟨rb, ro + m, none⟩ rfl (Rg.run_loadSl _ _ Try.underlying39 ((Below.cell (p := ⟨rb, ro + m, none⟩) OG.out.tkr.bel CX.out.lt).trans CX.out.cell))) ?_;go_frame;refine Rg.lr 12 (Rg.xa (.slice (some ⟨xb, xo, none⟩) d uc) _ rfl rfl) ?_;go_frame
   have hm16 : m < 3 := by omega
   go_upto_region 10 with (fail);refine wp_region_list ?_;refine Rg.lr 47 (Rg.xm (.pointer (some ⟨wb.heap.size, 0, none⟩)) _ rfl rfl) ?_;go_frame;refine list_ask (some 48) rfl rfl _ _ (exec_fn 29 _ _ _ rfl rfl rfl (Zkcl1 _ _)) ?_;refine (Take_any OG.out.tkr 2 (by omega)).mono ?_;rintro e1 w61 ⟨r1, k1, rfl, hra, hrb, htk, hkp⟩;have hog := OG.out.kt hkp htk;generalize Fup F wd w61 = F20 at *
   have hr2 : r1 ≤ 1 := by have := hra (by omega); omega
   clear hra hrb htk;obtain ⟨b, hb⟩ : ∃ b, Hid (decide (((r1 : Nat) : Int) = 1) = b) := ⟨_, ι rfl⟩;refine ⟨_, rfl, ?_⟩;go_frame;replace OG := ι hog;clear hkp hog;refine Rg.lr 49 (exec_bin (R := .bool b) .eql _ _ _ rfl rfl rfl (b_eql _ hb.out)) ?_;go_frame
   cases b with
   | true =>
    skip
    go_upto_region 11 with (fail);refine wp_region_list ?_;refine Rg.lr 50 (Rg.xm (.slice (some ⟨xb, xo, none⟩) d uc) _ rfl rfl) ?_;go_frame;refine list_ask (some 51) rfl rfl _ _ (exec_fn1 30 _ _ rfl rfl (Gfcl4 _ _)) ?_;refine (kitInv_any _ x w61 (Rg.NP.below NX.out.np OG.out.tkr.bel) GX.out.1 (by rw [GX.out.2]; omega)).mono ?_;rintro e1 w62 ⟨iv, rfl, hiv, hb⟩;have hfp := FP.new (F := F20) hiv;obtain ⟨yb, yo, yc, rfl⟩ := FP.shape' hfp (Cm.gd_inv GX.out) hd10.1;refine ⟨_, rfl, ?_⟩;go_frame;replace OG := ι (OG.out.up hb);have YV := ι hfp;generalize Fup F20 w61 w62 = F11 at *;clear hb;refine Rg.lr 12 (Rg.xa (.slice (some ⟨yb, yo, none⟩) d yc) _ rfl rfl) ?_;go_frame;clear hiv hfp;have HFP := ι (show FP F11 w62 (.slice (some ⟨yb, yo, none⟩) d yc) (Ma.invN x) from YV.out);obtain ⟨a9, c9, X9, r1x, r2, r3, r4, r5⟩ := OG.out.push HFP.out ⟨_, _, _, rfl⟩ (by have := HTL.out; omega) 24;have OT2 := ι (OT.out.takeI hmg HGS.out)
    rw [hx.out] at OT2;go_upto_region 12 with (fail);refine wp_region_list ?_;refine Rg.lr 52 (exec_fieldG _ rfl rfl) ?_;go_frame;refine Rg.lr 53 (Rg.exec_load (v := .slice va T.length vc) _ _ rfl ⟨gb, 1, none⟩ rfl (Rg.run_loadSl _ _ Try.underlying24 OG.out.g1)) ?_;go_frame;refine Rg.lr 54 (Rg.xm (.slice (some ⟨yb, yo, none⟩) d yc) _ rfl rfl) ?_;go_frame;refine Rg.lr 55 (Rg.exec_buildSlice _ _ _ rfl (.slice (some ⟨yb, yo, none⟩) d yc) rfl (run_build1P w62 _ ⟨_, _, _, rfl⟩)) ?_;go_frame;refine Rg.lr 56 (Rg.exec_append _ _ _ rfl rfl rfl r1x) ?_;go_frame;refine Rg.lr 57 (exec_fieldG _ rfl rfl) ?_;go_frame;refine Rg.list_skip none rfl rfl (Rg.exec_store _ _ _ rfl _ rfl _ rfl (Rg.run_storeSl _ infoPermsV r2 r3)) ?_;go_frame;generalize X9.setCell ⟨gb, 1, none⟩ (.slice a9 (T.length + 1) c9) = w399 at *;have OG3 := ι r5;have HTL2 := ι (show (T ++ [Ma.invN x]).length + m = gs.length by rw [List.length_append, List.length_singleton]; have := HTL.out; omega)
    clear r1x r2 r3 r4 r5;go_upto_region 8 with (fail);refine wp_region_list ?_;refine Rg.lr 40 (Rg.xm (.int .i64 ((m : Nat) : Int)) _ rfl rfl) ?_;go_frame;refine Rg.lr 41 (exec_bin (R := .int .i64 (((m : Nat) : Int) - 1)) .sub _ _ _ rfl rfl rfl (b_sub _ (by omega) (by omega))) ?_;go_frame;refine Rg.lr 11 (Rg.xa (.int .i64 (((m : Nat) : Int) - 1)) _ rfl rfl) ?_;go_frame;go_wp2
    go_roundw
    case rel => exact ⟨m, _, _, _, _, _, rfl, ι rfl, by omega, OT2, HTL2, OG3⟩
    case measure => simp [intOf]
   | false =>
    skip
    have HFP := ι (show FP F20 w61 (.slice (some ⟨xb, xo, none⟩) d uc) (x) from ((FP.of_np NX.out.np).below OG.out.tkr.bel).mono OG.out.Fs);obtain ⟨a9, c9, X9, r1x, r2, r3, r4, r5⟩ := OG.out.push HFP.out ⟨_, _, _, rfl⟩ (by have := HTL.out; omega) 24;have OT2 := ι (OT.out.take1 hmg HGS.out);rw [hx.out] at OT2;go_upto_region 12 with (fail);refine wp_region_list ?_;refine Rg.lr 52 (exec_fieldG _ rfl rfl) ?_;go_frame;refine Rg.lr 53 (Rg.exec_load (v := .slice va T.length vc) _ _ rfl ⟨gb, 1, none⟩ rfl (Rg.run_loadSl _ _ Try.underlying24 OG.out.g1)) ?_;go_frame;refine Rg.lr 54 (Rg.xm (.slice (some ⟨xb, xo, none⟩) d uc) _ rfl rfl) ?_;go_frame;refine Rg.lr 55 (Rg.exec_buildSlice _ _ _ rfl (.slice (some ⟨xb, xo, none⟩) d uc) rfl (run_build1P w61 _ ⟨_, _, _, rfl⟩)) ?_;go_frame;refine Rg.lr 56 (Rg.exec_append _ _ _ rfl rfl rfl r1x) ?_;go_frame;refine Rg.lr 57 (exec_fieldG _ rfl rfl) ?_;go_frame;refine Rg.list_skip none rfl rfl (Rg.exec_store _ _ _ rfl _ rfl _ rfl (Rg.run_storeSl _ infoPermsV r2 r3)) ?_;go_frame
    generalize X9.setCell ⟨gb, 1, none⟩ (.slice a9 (T.length + 1) c9) = w399 at *;have OG3 := ι r5;have HTL2 := ι (show (T ++ [x]).length + m = gs.length by rw [List.length_append, List.length_singleton]; have := HTL.out; omega);clear r1x r2 r3 r4 r5;go_upto_region 8 with (fail);refine wp_region_list ?_;refine Rg.lr 40 (Rg.xm (.int .i64 ((m : Nat) : Int)) _ rfl rfl) ?_;go_frame;refine Rg.lr 41 (exec_bin (R := .int .i64 (((m : Nat) : Int) - 1)) .sub _ _ _ rfl rfl rfl (b_sub _ (by omega) (by omega))) ?_;go_frame;refine Rg.lr 11 (Rg.xa (.int .i64 (((m : Nat) : Int) - 1)) _ rfl rfl) ?_;go_frame;go_wp2
    go_roundw
    case rel => exact ⟨m, _, _, _, _, _, rfl, ι rfl, by omega, OT2, HTL2, OG3⟩
    case measure => simp [intOf]
  case pos =>
   subst hi0
   obtain rfl : j = -1 := by have := hj.out; omega
   have HGE := ι (show T.length = gs.length from by have := HTL.out; omega);clear hj HTL;go_upto_region 7 with (fail);refine wp_region_list ?_;refine Rg.lr 38 (Rg.xm (.int .i64 (-1)) _ rfl rfl) ?_;go_frame;refine Rg.lr 39 (exec_bin (R := .bool false) .geq _ _ _ rfl rfl rfl (b_geq _ (decide_eq_false (by omega)))) ?_;go_frame;go_upto_region 13 with (fail);refine wp_region_list ?_;refine Rg.lr 58 (Rg.xm (.pointer (some ⟨wb.heap.size, 0, none⟩)) _ rfl rfl) ?_;go_frame;refine list_ask (some 59) rfl rfl _ _ (exec_fn 29 _ _ _ rfl rfl rfl (Zkcl1 _ _)) ?_;refine (Take_any OG.out.tkr 4 (by omega)).mono ?_;rintro e1 w101 ⟨r1, k1, rfl, hra, hrb, htk, hkp⟩;have hog := OG.out.kt hkp htk;generalize Fup F wd w101 = F40 at *
   have hr3 : r1 ≤ 3 := by have := hra (by omega); omega
   clear hra hrb htk;refine ⟨_, rfl, ?_⟩;go_frame;replace OG := ι hog;clear hkp hog;refine Rg.lr 13 (Rg.xa (.int .i64 ((r1 : Nat) : Int)) _ rfl rfl) ?_;go_frame;have HTL := ι (show T.length + r1 ≤ gs.length + 3 ∧ gs.length ≤ T.length by have := HGE.out; omega);go_wp2
   go_loopw [13] (fun nv wr => ∃ (n k : Nat) (F : Nat → Prop) (gv : Value) (T : List (List Nat)), nv = .int .i64 ((n : Nat) : Int) ∧ n ≤ 3 ∧ Hid (OtG d gs T 0) ∧ Hid (T.length + n ≤ gs.length + 3 ∧ gs.length ≤ T.length) ∧ Hid (OgI wb wr wb.heap.size gb k d (.slice a1 l1.length c1) l1 F gv T)) (fun nv _ => (intOf nv).toNat)
   case atStart => exact ⟨r1, _, _, _, _, rfl, hr3, OT, HTL, OG⟩
   case round =>
    clear OG OT HTL HGE hr3;obtain ⟨n, k, F, gv, T, rfl, hn3, OT, HTL, OG⟩ := hrel;obtain ⟨va, vc, rfl⟩ := OG.out.rw.shape;generalize wr = we at *
    have hT6 : T.length ≤ 6 := by have := HTL.out; omega
    by_cases hgo : 0 < n ∧ 0 < gs.length
    case pos =>
     obtain ⟨hn0, hg0⟩ := hgo
     have hgN : (0 : Int) < ((gs.map Ma.ofN).length : Int) := by rw [HML.out]; omega
     have hgl4 : (gs.map Ma.ofN).length ≤ 3 := by rw [HML.out]; exact hgl3
     obtain ⟨rb, ro, ua0, uc0, hsa, -, -, -⟩ := rows_get HG.out (i := 0) (by rw [HML.out]; exact hg0);subst hsa
     have hTp : 0 < T.length := by have := HTL.out; omega
     obtain ⟨vb, vc', uv0, e1, -, -, -, -⟩ := OG.out.rw.at hTp;simp only [Value.slice.injEq, true_and] at e1;obtain ⟨rfl, rfl⟩ := e1;go_upto_region 14 with (fail);refine wp_region_list ?_;refine Rg.lr 60 (Rg.xm (.int .i64 ((n : Nat) : Int)) _ rfl rfl) ?_;go_frame;refine Rg.lr 61 (exec_bin (R := .bool true) .gtr _ _ _ rfl rfl rfl (b_gtr _ (decide_eq_true (by omega)))) ?_;go_frame;refine Rg.lr 62 (Rg.xm (.bool true) _ rfl rfl) ?_;go_frame;refine listW_run (some 63) rfl rfl (exec_fieldG _ rfl rfl) ?_;go_frame;refine listW_run (some 64) rfl rfl (Rg.exec_load (v := .slice (some ⟨rb, ro, none⟩) (gs.map Ma.ofN).length gc) _ _ rfl ⟨w2.heap.size, 1, none⟩ rfl (Rg.run_loadSl _ _ Try.underlying24 ((Below.cell (p := ⟨w2.heap.size, 1, none⟩) OG.out.tkr.bel G6.out.lt).trans G6.out.c1))) ?_;go_frame;refine listW_run (some 65) rfl rfl (exec_len _ _ _ rfl Try.underlying24 _ _ _ rfl) ?_;go_frame;refine listW_run (some 66) rfl rfl (exec_bin (R := .bool true) .gtr _ _ _ rfl rfl rfl (b_gtr _ (decide_eq_true hgN))) ?_;go_frame
     refine Rg.lr 67 (exec_pickT (v := .bool true) _ _ _ rfl rfl rfl) ?_;go_frame;go_upto_region 16 with (fail);have hV0 : Below we.heap.size we we.drew := (Below.refl _ _).drew;replace OG := ι (OG.out.up hV0);generalize Fup F we we.drew = F51 at *;clear hV0;refine Rg.Any.begin (S := Rg.Both 24 (fun W : World => Below wb.heap.size wb W ∧ W.cell? ⟨gb, 1, none⟩ = some (.slice (some ⟨vb, 0, none⟩) T.length vc)) (fun _ => True)) mix ?_;generalize we.drew = w121 at *;have hS : ∀ (l : Array Bool) W, (fun W : World => Below wb.heap.size wb W ∧ W.cell? ⟨gb, 1, none⟩ = some (.slice (some ⟨vb, 0, none⟩) T.length vc)) W → Rg.Both 24 (fun W : World => Below wb.heap.size wb W ∧ W.cell? ⟨gb, 1, none⟩ = some (.slice (some ⟨vb, 0, none⟩) T.length vc)) (fun _ => True) l W := fun l W h => ⟨.inr h, trivial⟩;have hS2 : ∀ (l : Array Bool) W, l.getD 24 false = true → Rg.Both 24 (fun W : World => Below wb.heap.size wb W ∧ W.cell? ⟨gb, 1, none⟩ = some (.slice (some ⟨vb, 0, none⟩) T.length vc)) (fun _ => True) l W := fun l W h => ⟨.inl h, trivial⟩
     have hI : (fun W : World => Below wb.heap.size wb W ∧ W.cell? ⟨gb, 1, none⟩ = some (.slice (some ⟨vb, 0, none⟩) T.length vc)) w121 := ⟨OG.out.tkr.bel, OG.out.g1⟩;refine Rg.tg 0 24 (.pointer (some ⟨gb, 1, none⟩)) 70 rfl rfl (.inl ⟨rfl, fun w _ => exec_fieldG _ rfl rfl⟩) (hS _ _ hI) ?_;go_frame;refine Rg.Any.takeT (i := 1) (t := 24) (v := .slice (some ⟨vb, 0, none⟩) T.length vc) (some 71) rfl rfl (by kernel_rfl) (by kernel_rfl) (by kernel_rfl) (fun _ _ _ h => h) rfl (by kernel_rfl) rfl (Rg.yields_cell _ _ rfl rfl ⟨gb, 1, none⟩ rfl (fun W hW => Rg.run_loadSl _ _ Try.underlying24 hW.2)) (hS _ _ hI) ?_;go_frame;refine Rg.tg 2 24 (.pointer (some ⟨w2.heap.size, 1, none⟩)) 72 rfl rfl (.inl ⟨rfl, fun w _ => exec_fieldG _ rfl rfl⟩) (hS _ _ hI) ?_;go_frame;refine Rg.Any.takeT (i := 3) (t := 24) (v := .slice (some ⟨rb, ro, none⟩) (gs.map Ma.ofN).length gc) (some 73) rfl rfl (by kernel_rfl) (by kernel_rfl) (by kernel_rfl) (fun _ _ _ h => h) rfl (by kernel_rfl) rfl (Rg.yields_cell _ _ rfl rfl ⟨w2.heap.size, 1, none⟩ rfl (fun W hW => Rg.run_loadSl _ _ Try.underlying24 ((Below.cell (p := ⟨w2.heap.size, 1, none⟩) hW.1 G6.out.lt).trans G6.out.c1))) (hS _ _ hI) ?_;go_frame
     refine Rg.tg 4 24 (.pointer (some ⟨wb.heap.size, 0, none⟩)) 74 rfl rfl (.inl ⟨rfl, fun w _ => Rg.exec_move (v := .pointer (some ⟨wb.heap.size, 0, none⟩)) _ rfl rfl⟩) (hS _ _ hI) ?_;go_frame;refine Rg.tg 5 24 (.pointer (some ⟨w2.heap.size, 1, none⟩)) 75 rfl rfl (.inl ⟨rfl, fun w _ => exec_fieldG _ rfl rfl⟩) (hS _ _ hI) ?_;go_frame;refine Rg.Any.takeT (i := 6) (t := 24) (v := .slice (some ⟨rb, ro, none⟩) (gs.map Ma.ofN).length gc) (some 76) rfl rfl (by kernel_rfl) (by kernel_rfl) (by kernel_rfl) (fun _ _ _ h => h) rfl (by kernel_rfl) rfl (Rg.yields_cell _ _ rfl rfl ⟨w2.heap.size, 1, none⟩ rfl (fun W hW => Rg.run_loadSl _ _ Try.underlying24 ((Below.cell (p := ⟨w2.heap.size, 1, none⟩) hW.1 G6.out.lt).trans G6.out.c1))) (hS _ _ hI) ?_;go_frame;refine Rg.tg 7 24 (.int .i64 (((gs.map Ma.ofN).length : Nat) : Int)) 77 rfl rfl (.inl ⟨rfl, fun w _ => exec_len _ _ _ rfl Try.underlying24 _ _ _ rfl⟩) (hS _ _ hI) ?_;go_frame
     refine Rg.tg 11 24 (.pointer (some ⟨gb, 1, none⟩)) 81 rfl rfl (.inl ⟨rfl, fun w _ => exec_fieldG _ rfl rfl⟩) (hS _ _ hI) ?_;go_frame;refine Rg.Any.takeT (i := 12) (t := 24) (v := .slice (some ⟨vb, 0, none⟩) T.length vc) (some 82) rfl rfl (by kernel_rfl) (by kernel_rfl) (by kernel_rfl) (fun _ _ _ h => h) rfl (by kernel_rfl) rfl (Rg.yields_cell _ _ rfl rfl ⟨gb, 1, none⟩ rfl (fun W hW => Rg.run_loadSl _ _ Try.underlying24 hW.2)) (hS _ _ hI) ?_;go_frame;refine Rg.tg 13 24 (.pointer (some ⟨wb.heap.size, 0, none⟩)) 83 rfl rfl (.inl ⟨rfl, fun w _ => Rg.exec_move (v := .pointer (some ⟨wb.heap.size, 0, none⟩)) _ rfl rfl⟩) (hS _ _ hI) ?_;go_frame;refine Rg.tg 14 24 (.pointer (some ⟨gb, 1, none⟩)) 84 rfl rfl (.inl ⟨rfl, fun w _ => exec_fieldG _ rfl rfl⟩) (hS _ _ hI) ?_;go_frame;refine Rg.Any.takeT (i := 15) (t := 24) (v := .slice (some ⟨vb, 0, none⟩) T.length vc) (some 85) rfl rfl (by kernel_rfl) (by kernel_rfl) (by kernel_rfl) (fun _ _ _ h => h) rfl (by kernel_rfl) rfl (Rg.yields_cell _ _ rfl rfl ⟨gb, 1, none⟩ rfl (fun W hW => Rg.run_loadSl _ _ Try.underlying24 hW.2)) (hS _ _ hI) ?_;go_frame
     refine Rg.tg 16 24 (.int .i64 ((T.length : Nat) : Int)) 86 rfl rfl (.inl ⟨rfl, fun w _ => exec_len _ _ _ rfl Try.underlying24 _ _ _ rfl⟩) (hS _ _ hI) ?_;go_frame;refine Rg.Any.one (i := 8) (by kernel_rfl) (Rg.Any.ask (some 78) rfl rfl rfl _ _ (exec_fn 29 _ _ _ rfl rfl rfl (Zkcl1 _ _)) ?_);refine (Take_any OG.out.tkr (((gs.map Ma.ofN).length : Nat) : Int) (by omega)).mono ?_;rintro e1 w122 ⟨r1, k1, rfl, hra, hrb, htk, hkp⟩;have hog := OG.out.kt hkp htk;generalize Fup F51 w121 w122 = F61 at *
     have hr1 : r1 < (gs.map Ma.ofN).length := by have := hra (by omega); omega
     have HR1 := ι hr1;clear hra hrb htk;obtain ⟨rb', ro', ua, uc, hsa, hgb, hgc, hgu⟩ := rows_get HG.out (i := r1) HR1.out;simp only [Option.some.injEq, Addr.mk.injEq, and_true] at hsa;obtain ⟨rfl, rfl⟩ := hsa
     have hr1g : r1 < gs.length := by rw [← HML.out]; exact hr1
     obtain ⟨x, hx⟩ : ∃ x, Hid (gs[r1]'hr1g = x) := ⟨_, ι rfl⟩;have GX := ι (show Gd d x by rw [← hx.out]; exact HGS.out _ (List.getElem_mem hr1g));have RX := ι (show Gr d (· ∈ gs) x by rw [← hx.out]; exact .gen _ (List.getElem_mem hr1g));rw [List.getElem_map, hx.out] at hgc hgu;rw [Ma.len_ofN, GX.out.2] at hgc hgu;have NX := ι (NpW.mk (x := x) hgu);obtain ⟨xb, xo, xc', hsh⟩ := (FP.of_np NX.out.np).shape' GX.out hd10.1;simp only [Value.slice.injEq, true_and] at hsh;obtain ⟨rfl, rfl⟩ := hsh;have CX := ι (CL.mk hgc hgb);clear hgb hgc hgu hr1;have hI2_k := (show (fun W : World => Below wb.heap.size wb W ∧ W.cell? ⟨gb, 1, none⟩ = some (.slice (some ⟨vb, 0, none⟩) T.length vc)) _ from ⟨Rg.Kp.below hI.1 hkp (fun z e => Nat.le_of_eq e.symm), (World.cell?_of_block (a := ⟨gb, 1, none⟩) (hkp.block gb (lt_of_cell hI.2) OG.out.n1)).trans hI.2⟩);clear hI;refine ⟨_, rfl, (hS _ _ hI2_k), ?_⟩;go_frame;replace OG := ι hog
     clear hkp hog;refine Rg.tg 9 24 (.pointer (some ⟨rb, ro + r1, none⟩)) 79 rfl rfl (Rg.yields_index slPerms _ _ rfl rfl rb (ro) ((gs.map Ma.ofN).length) gc (r1) rfl rfl HR1.out) (hS _ _ hI2_k) ?_;go_frame;refine Rg.Any.takeT (i := 10) (t := 24) (v := .slice (some ⟨xb, xo, none⟩) d uc) (some 80) rfl rfl (by kernel_rfl) (by kernel_rfl) (by kernel_rfl) (fun _ _ _ h => h) rfl (by kernel_rfl) rfl (Rg.yields_cell _ _ rfl rfl ⟨rb, ro + r1, none⟩ rfl (fun W hW => Rg.run_loadSl _ _ Try.underlying39 ((Below.cell (p := ⟨rb, ro + r1, none⟩) hW.1 CX.out.lt).trans CX.out.cell))) (hS _ _ hI2_k) ?_;go_frame;refine Rg.Any.one (i := 17) (by kernel_rfl) (Rg.Any.ask (some 87) rfl rfl rfl _ _ (exec_fn 29 _ _ _ rfl rfl rfl (Zkcl1 _ _)) ?_);refine (Take_any OG.out.tkr ((T.length : Nat) : Int) (by omega)).mono ?_;rintro e1 w123 ⟨r2, k2, rfl, hra, hrb, htk, hkp⟩;have hog := OG.out.kt hkp htk;generalize Fup F61 w122 w123 = F62 at *
     have hr2 : r2 < T.length := by have := hra (by omega); omega
     clear hra hrb htk;obtain ⟨y, hy⟩ : ∃ y, Hid (T[r2]'hr2 = y) := ⟨_, ι rfl⟩;have GY := ι (show Gd d y by rw [← hy.out]; exact OT.out.gd _ (List.getElem_mem hr2));have RY := ι (show Gr d (· ∈ gs) y by rw [← hy.out]; exact OT.out.gr _ (List.getElem_mem hr2));obtain ⟨vb', vc2, uv, e1, -, -, hcu, hfu⟩ := hog.rw.at hr2;simp only [Value.slice.injEq, Option.some.injEq, Addr.mk.injEq, and_true, true_and] at e1;obtain ⟨rfl, rfl⟩ := e1;rw [hy.out] at hfu;obtain ⟨qb, qo, qc, rfl⟩ := FP.shape' hfu GY.out hd10.1;have HCU := ι hcu;have FU := ι hfu;have hI3_k := (show (fun W : World => Below wb.heap.size wb W ∧ W.cell? ⟨gb, 1, none⟩ = some (.slice (some ⟨vb, 0, none⟩) T.length vc)) _ from ⟨Rg.Kp.below hI2_k.1 hkp (fun z e => Nat.le_of_eq e.symm), (World.cell?_of_block (a := ⟨gb, 1, none⟩) (hkp.block gb (lt_of_cell hI2_k.2) OG.out.n1)).trans hI2_k.2⟩);clear hI2_k;refine ⟨_, rfl, (hS _ _ hI3_k), ?_⟩;go_frame
     replace OG := ι hog;clear hkp hog;refine Rg.tg 18 24 (.pointer (some ⟨vb, 0 + r2, none⟩)) 88 rfl rfl (Rg.yields_index slPerms _ _ rfl rfl vb (0) (T.length) vc (r2) rfl rfl hr2) (hS _ _ hI3_k) ?_;go_frame;refine Rg.Any.one (i := 19) (by kernel_rfl) (Rg.Any.run (some 89) rfl rfl rfl (Rg.exec_load (v := .slice (some ⟨qb, qo, none⟩) d qc) _ _ rfl ⟨vb, 0 + r2, none⟩ rfl (by rw [Nat.zero_add]; exact Rg.run_loadSl _ _ Try.underlying39 HCU.out)) (hS _ _ hI3_k) ?_);go_frame;refine Rg.Any.one (i := 20) (by kernel_rfl) (Rg.Any.ask (some 90) rfl rfl rfl _ _ (exec_fn 28 _ _ _ rfl rfl rfl (Zlcl4 _ _)) ?_);refine (kitMul_any _ _ x y w123 (Rg.NP.below NX.out.np OG.out.tkr.bel) FU.out.np (fun t ht => by rw [GY.out.2]; exact gd_mem GX.out ht) (by rw [GX.out.2]; omega)).mono ?_;rintro e1 w124 ⟨mv, rfl, hmv, hb⟩;have hfp := FP.new (F := F62) hmv;obtain ⟨yb, yo, yc, rfl⟩ := FP.shape' hfp (Cm.gd_mul GX.out GY.out) hd10.1
     have hI4_u := (show (fun W : World => Below wb.heap.size wb W ∧ W.cell? ⟨gb, 1, none⟩ = some (.slice (some ⟨vb, 0, none⟩) T.length vc)) _ from ⟨Rg.acc hI3_k.1 hb, (Below.cell (p := ⟨gb, 1, none⟩) hb (lt_of_cell hI3_k.2)).trans hI3_k.2⟩);clear hI3_k;replace OG := ι (OG.out.up hb);have YV := ι hfp;generalize Fup F62 w123 w124 = F52 at *;clear hb;refine ⟨_, rfl, (hS _ _ hI4_u), ?_⟩;go_frame;obtain ⟨a9, c9, X9, r1x, r2x, r3x, r4x, r5x⟩ := OG.out.push YV.out ⟨_, _, _, rfl⟩ (by omega) 24;have hI5_m := (show (fun W : World => Below wb.heap.size wb W ∧ W.cell? ⟨gb, 1, none⟩ = some (.slice (some ⟨vb, 0, none⟩) T.length vc)) _ from ⟨(OG.out.tkr.bel).alloc OG.out.tkr.bel.size (.cells #[.slice (some ⟨yb, yo, none⟩) d yc] 39), cell_below OG.out.g1 ((Below.refl _ _).alloc (Nat.le_refl _) (.cells #[.slice (some ⟨yb, yo, none⟩) d yc] 39))⟩);refine Rg.Any.one (i := 21) (by kernel_rfl) (Rg.Any.run (some 91) rfl rfl rfl (Rg.exec_buildSlice _ _ _ rfl (.slice (some ⟨yb, yo, none⟩) d yc) rfl (run_build1P w124 _ ⟨_, _, _, rfl⟩)) (hS _ _ hI5_m) ?_)
     go_frame;have hI6_m := (show (fun W : World => Below wb.heap.size wb W ∧ W.cell? ⟨gb, 1, none⟩ = some (.slice (some ⟨vb, 0, none⟩) T.length vc)) _ from ⟨r4x, r2x⟩);refine Rg.Any.one (i := 22) (by kernel_rfl) (Rg.Any.run (some 92) rfl rfl rfl (Rg.exec_append _ _ _ rfl rfl rfl r1x) (hS _ _ hI6_m) ?_);go_frame;refine Rg.tg 23 24 (.pointer (some ⟨gb, 1, none⟩)) 93 rfl rfl (.inl ⟨rfl, fun w _ => exec_fieldG _ rfl rfl⟩) (hS _ _ hI6_m) ?_;go_frame;refine Rg.Any.one (i := 24) (by kernel_rfl) (Rg.Any.runSkip none rfl rfl rfl (Rg.exec_store _ _ _ rfl _ rfl _ rfl (Rg.run_storeSl _ infoPermsV r2x r3x)) (hS2 _ _ rfl) ?_);go_frame;refine Rg.Any.done (by kernel_rfl) ?_ _;clear hS2;clear hS hI6_m;generalize X9.setCell ⟨gb, 1, none⟩ (.slice a9 (T.length + 1) c9) = w399 at *;have OG3 := ι r5x;have OT2 := ι (OT.out.push (Cm.gd_mul GX.out GY.out) ((Gr.isG HGS.out).mul _ _ RX.out RY.out));have HTL2 := ι (show (T ++ [Ma.mulN x y]).length + (n - 1) ≤ gs.length + 3 ∧ gs.length ≤ (T ++ [Ma.mulN x y]).length by rw [List.length_append, List.length_singleton]; have := HTL.out; omega)
     clear r1x r2x r3x r4x r5x hmv hfp;go_upto_region 15 with (fail);refine wp_region_list ?_;refine Rg.lr 68 (Rg.xm (.int .i64 ((n : Nat) : Int)) _ rfl rfl) ?_;go_frame;refine Rg.lr 69 (exec_bin (R := .int .i64 (((n - 1) : Nat) : Int)) .sub _ _ _ rfl rfl rfl (b_sub _ (by omega) (by omega))) ?_;go_frame;refine Rg.lr 13 (Rg.xa (.int .i64 (((n - 1) : Nat) : Int)) _ rfl rfl) ?_;go_frame;go_wp2
     go_roundw
     case rel => exact ⟨n - 1, _, _, _, _, by go_num, by omega, OT2, HTL2, OG3⟩
     case measure => simp [intOf]; omega
    case neg =>
     skip
     by_cases hn0 : 0 < n
     case neg =>
      obtain rfl : n = 0 := by omega
      go_upto_region 14 with (fail);refine wp_region_list ?_;refine Rg.lr 60 (Rg.xm (.int .i64 ((0 : Nat) : Int)) _ rfl rfl) ?_;go_frame;refine Rg.lr 61 (exec_bin (R := .bool false) .gtr _ _ _ rfl rfl rfl (b_gtr _ (decide_eq_false (by omega)))) ?_;go_frame;refine Rg.lr 62 (Rg.xm (.bool false) _ rfl rfl) ?_;go_frame;refine listW_pass (some 63) (by kernel_rfl) rfl ?_;go_frame;refine listW_pass (some 64) (by kernel_rfl) rfl ?_;go_frame;refine listW_pass (some 65) (by kernel_rfl) rfl ?_;go_frame;refine listW_pass (some 66) (by kernel_rfl) rfl ?_;go_frame;refine Rg.lr 67 (exec_pickF (v := .bool false) _ _ _ rfl rfl rfl) ?_;go_frame;have HGE := ι (OT.out.same HGS.out);have HT16 := ι (show T.length ≤ 16 by omega);have HGT2 := ι OT.out.gd;have KW := ι OG.out.tkr.bel;have HT := ι (OG.out.rw.rows (by omega));have C0 := ι OG.out.g0;have C1 := ι (show CL we gb 1 (.slice va T.length vc) from ⟨OG.out.g1, OG.out.g0.lt⟩)
      clear OG OT HTL;replace HG := ι (HG.out.below KW.out);replace G6 := ι (G6.out.below KW.out);replace E1 := ι (E1.out.below KW.out);replace T1 := ι (T1.out.below KW.out);have K := ι (Rg.acc K0.out KW.out);clear KW HCK;have HCK := ι (gchk_good (gs := T) hd10.1 (by omega) HT16.out HGT2.out);go_upto_region 17 with (fail);refine wp_region_list ?_;refine Rg.lr 95 (Rg.exec_load (v := .agg #[.int .i64 ((d : Nat) : Int), .slice va T.length vc]) _ _ rfl ⟨gb, 0, none⟩ rfl (run_loadG C0.out.cell C1.out.cell)) ?_;go_frame;refine list_ask (some 96) rfl rfl _ _ (exec_fn1 17 _ _ rfl rfl (Xdcl1 _ _)) ?_;refine (chOf_any _ _ (T.map Ma.ofN) we HT.out).mono ?_;rintro e1 w161 ⟨cv, rfl, hcv, hb⟩;rw [HCK.out] at hcv ⊢;obtain ⟨oa2, on2, oc2, ra2, rn2, rc2, O2, R2, rfl, hce, hci⟩ := chAns_ok hcv;have HI2 := ι hci;clear hcv hci;refine ⟨_, rfl, ?_⟩;go_frame;replace HT := ι (HT.out.below hb);replace C0 := ι (C0.out.below hb)
      replace C1 := ι (C1.out.below hb);replace HG := ι (HG.out.below hb);replace G6 := ι (G6.out.below hb);replace E1 := ι (E1.out.below hb);replace T1 := ι (T1.out.below hb);replace K := ι (Rg.acc K.out hb);clear hb;have E2 := ι hce;refine Rg.lr 94 (Rg.xm (.tuple #[(.agg #[.int .i64 ((d : Nat) : Int), .slice oa2 on2 oc2, .slice ra2 rn2 rc2]), .int .i64 0]) _ rfl rfl) ?_;go_frame;refine Rg.lr 97 (exec_extract (v := (.agg #[.int .i64 ((d : Nat) : Int), .slice oa2 on2 oc2, .slice ra2 rn2 rc2])) _ _ rfl rfl rfl) ?_;go_frame;refine Rg.lr 98 (exec_extract (v := .int .i64 0) _ _ rfl rfl rfl) ?_;go_frame;refine Rg.lr 14 (exec_allocC rfl) ?_;go_frame;refine Rg.list_skip none rfl rfl (Rg.exec_store _ _ _ rfl _ rfl _ rfl (run_storeC _ _ _ _ _ _ _ (Tri.new w161 (.int .i64 0) (.slice none 0 0) (.slice none 0 0)))) ?_;go_frame;have htn := (Tri.new w161 (.int .i64 0) (.slice none 0 0) (.slice none 0 0)).set (.int .i64 ((d : Nat) : Int)) (.slice oa2 on2 oc2) (.slice ra2 rn2 rc2)
      have hb := ((((Below.refl w161.heap.size w161).alloc (Nat.le_refl _) (.cells #[.int .i64 0, .slice none 0 0, .slice none 0 0] 32)).setCell (p := ⟨w161.heap.size, 0, none⟩) (Nat.le_refl _) (.int .i64 ((d : Nat) : Int))).setCell (p := ⟨w161.heap.size, 1, none⟩) (Nat.le_refl _) (.slice oa2 on2 oc2)).setCell (p := ⟨w161.heap.size, 2, none⟩) (Nat.le_refl _) (.slice ra2 rn2 rc2);generalize (((w161.alloc (.cells #[.int .i64 0, .slice none 0 0, .slice none 0 0] 32)).setCell ⟨w161.heap.size, 0, none⟩ (.int .i64 ((d : Nat) : Int))).setCell ⟨w161.heap.size, 1, none⟩ (.slice oa2 on2 oc2)).setCell ⟨w161.heap.size, 2, none⟩ (.slice ra2 rn2 rc2) = w162 at *;replace HT := ι (HT.out.below hb);replace C0 := ι (C0.out.below hb);replace C1 := ι (C1.out.below hb);replace HG := ι (HG.out.below hb);replace G6 := ι (G6.out.below hb);replace E1 := ι (E1.out.below hb);replace T1 := ι (T1.out.below hb);replace E2 := ι (E2.out.below hb)
      replace K := ι (Rg.acc K.out hb);clear hb;have T2 := ι htn;clear htn;refine Rg.lr 15 (Rg.xa (.int .i64 0) _ rfl rfl) ?_;go_frame;clear hce;have HI2b := ι (show IsChain d (Gr d (· ∈ gs)) O2 R2 by rw [← HGE.out]; exact HI2.out);obtain ⟨hu1, hu2⟩ := IsChain.uniq HI2b.out HI1.out;have HU1 := ι hu1;have HU2 := ι hu2;rw [HU1.out, HU2.out] at E2;have HSG := ι (show sgA ((d : Nat) : Int) (O1.map Ma.ofN) (R1.map (List.map Ma.ofN)) = (sgL R1).map Ma.ofN by unfold sgA; rw [if_pos HCC.out, sgL_map]);have HIG := ι (Gr.isG HGS.out);clear hu1 hu2;go_upto_region 18 with (fail);refine wp_region_list ?_;refine Rg.lr 100 (Rg.exec_load (v := (.agg #[.int .i64 ((d : Nat) : Int), .slice oa1 on1 oc1, .slice ra1 rn1 rc1])) _ _ rfl ⟨w3.heap.size, 0, none⟩ rfl (run_loadC3 T1.out.c0 T1.out.c1 T1.out.c2)) ?_;go_frame;refine list_ask (some 101) rfl rfl _ _ (exec_fn1 31 _ _ rfl rfl (Gfcl6 _ _)) ?_;refine (chStrong_any (n := ((d : Nat) : Int)) E1.out).mono ?_
      rintro e1 w163 ⟨sv, rfl, hsv, hb⟩;rw [HCC.out];rw [HSG.out] at hsv;refine ⟨_, rfl, ?_⟩;go_frame;replace HT := ι (HT.out.below hb);replace C0 := ι (C0.out.below hb);replace C1 := ι (C1.out.below hb);replace HG := ι (HG.out.below hb);replace G6 := ι (G6.out.below hb);replace E1 := ι (E1.out.below hb);replace T1 := ι (T1.out.below hb);replace E2 := ι (E2.out.below hb);replace T2 := ι (T2.out.below hb);replace K := ι (Rg.acc K.out hb);clear hb;have SV := ι hsv;refine Rg.lr 99 (Rg.xm (.tuple #[sv, .int .i64 0]) _ rfl rfl) ?_;go_frame;refine Rg.lr 102 (exec_extract (v := sv) _ _ rfl rfl rfl) ?_;go_frame;refine Rg.lr 103 (exec_extract (v := .int .i64 0) _ _ rfl rfl rfl) ?_;go_frame;refine Rg.lr 16 (Rg.xa (sv) _ rfl rfl) ?_;go_frame;refine Rg.lr 17 (Rg.xa (.int .i64 0) _ rfl rfl) ?_;go_frame;clear hsv;have HMK := ι (mkchk_good hd10.1 (by omega) (sgL_len HIG.out HI1.out (by omega)) (sgL_gd HIG.out HI1.out))
      have HGS3 := ι (sgL_gd HIG.out HI1.out);go_upto_region 19 with (fail);refine wp_region_list ?_;refine Rg.lr 105 (exec_fieldG0 _ rfl rfl) ?_;go_frame;refine Rg.lr 106 (Rg.exec_load (v := .int .i64 ((d : Nat) : Int)) _ _ rfl ⟨w2.heap.size, 0, none⟩ rfl (run_loadInt G6.out.c0)) ?_;go_frame;refine Rg.lr 107 (Rg.xm (sv) _ rfl rfl) ?_;go_frame;refine list_ask (some 108) rfl rfl _ _ (exec_fn 32 _ _ _ rfl rfl rfl (Gfcl7 _ _)) ?_;refine (chMake_any _ ((d : Nat) : Int) ((sgL R1).map Ma.ofN) w163 SV.out).mono ?_;rintro e1 w164 ⟨cv, rfl, hcv, hb⟩;rw [HMK.out] at hcv ⊢;obtain ⟨oa3, on3, oc3, ra3, rn3, rc3, O3, R3, rfl, hce, hci⟩ := chAns_ok hcv;have HI3 := ι hci;clear hcv hci;refine ⟨_, rfl, ?_⟩;go_frame;replace HT := ι (HT.out.below hb);replace C0 := ι (C0.out.below hb);replace C1 := ι (C1.out.below hb);replace HG := ι (HG.out.below hb);replace G6 := ι (G6.out.below hb);replace E1 := ι (E1.out.below hb)
      replace T1 := ι (T1.out.below hb);replace E2 := ι (E2.out.below hb);replace T2 := ι (T2.out.below hb);replace SV := ι (SV.out.below hb);replace K := ι (Rg.acc K.out hb);clear hb;have E3 := ι hce;refine Rg.lr 104 (Rg.xm (.tuple #[(.agg #[.int .i64 ((d : Nat) : Int), .slice oa3 on3 oc3, .slice ra3 rn3 rc3]), .int .i64 0]) _ rfl rfl) ?_;go_frame;refine Rg.lr 109 (exec_extract (v := (.agg #[.int .i64 ((d : Nat) : Int), .slice oa3 on3 oc3, .slice ra3 rn3 rc3])) _ _ rfl rfl rfl) ?_;go_frame;refine Rg.lr 110 (exec_extract (v := .int .i64 0) _ _ rfl rfl rfl) ?_;go_frame;refine Rg.lr 18 (exec_allocC rfl) ?_;go_frame;refine Rg.list_skip none rfl rfl (Rg.exec_store _ _ _ rfl _ rfl _ rfl (run_storeC _ _ _ _ _ _ _ (Tri.new w164 (.int .i64 0) (.slice none 0 0) (.slice none 0 0)))) ?_;go_frame;have htn := (Tri.new w164 (.int .i64 0) (.slice none 0 0) (.slice none 0 0)).set (.int .i64 ((d : Nat) : Int)) (.slice oa3 on3 oc3) (.slice ra3 rn3 rc3)
      have hb := ((((Below.refl w164.heap.size w164).alloc (Nat.le_refl _) (.cells #[.int .i64 0, .slice none 0 0, .slice none 0 0] 32)).setCell (p := ⟨w164.heap.size, 0, none⟩) (Nat.le_refl _) (.int .i64 ((d : Nat) : Int))).setCell (p := ⟨w164.heap.size, 1, none⟩) (Nat.le_refl _) (.slice oa3 on3 oc3)).setCell (p := ⟨w164.heap.size, 2, none⟩) (Nat.le_refl _) (.slice ra3 rn3 rc3);generalize (((w164.alloc (.cells #[.int .i64 0, .slice none 0 0, .slice none 0 0] 32)).setCell ⟨w164.heap.size, 0, none⟩ (.int .i64 ((d : Nat) : Int))).setCell ⟨w164.heap.size, 1, none⟩ (.slice oa3 on3 oc3)).setCell ⟨w164.heap.size, 2, none⟩ (.slice ra3 rn3 rc3) = w165 at *;replace HT := ι (HT.out.below hb);replace C0 := ι (C0.out.below hb);replace C1 := ι (C1.out.below hb);replace HG := ι (HG.out.below hb);replace G6 := ι (G6.out.below hb);replace E1 := ι (E1.out.below hb);replace T1 := ι (T1.out.below hb);replace E2 := ι (E2.out.below hb)
      replace T2 := ι (T2.out.below hb);replace SV := ι (SV.out.below hb);replace E3 := ι (E3.out.below hb);replace K := ι (Rg.acc K.out hb);clear hb;have T3 := ι htn;clear htn;refine Rg.lr 19 (Rg.xa (.int .i64 0) _ rfl rfl) ?_;go_frame;clear hce;have HI3b := ι (show IsChain d (Gr d (· ∈ gs)) O3 R3 by rw [sgL_gen HIG.out HI1.out]; exact HI3.out);obtain ⟨hu1, hu2⟩ := IsChain.uniq HI3b.out HI1.out;rw [hu1, hu2] at E3;clear hu1 hu2;go_upto_region 20 with (fail);refine wp_region_list ?_;refine Rg.lr 111 (Rg.xm (.bool true) _ rfl rfl) ?_;go_frame;refine Rg.lr 112 (Rg.xm (.bool true) _ rfl rfl) ?_;go_frame;refine listW_run (some 113) rfl rfl (Rg.xm (.int .i64 0) _ rfl rfl) ?_;go_frame;refine listW_run (some 114) rfl rfl (exec_eqI _ _ rfl rfl rfl rfl) ?_;go_frame;refine Rg.lr 115 (exec_pickT (v := .bool true) _ _ _ rfl rfl rfl) ?_;go_frame;refine Rg.lr 116 (Rg.xm (.bool true) _ rfl rfl) ?_;go_frame
      refine listW_run (some 117) rfl rfl (Rg.xm (.int .i64 0) _ rfl rfl) ?_;go_frame;refine listW_run (some 118) rfl rfl (exec_eqI _ _ rfl rfl rfl rfl) ?_;go_frame;refine Rg.lr 119 (exec_pickT (v := .bool true) _ _ _ rfl rfl rfl) ?_;go_frame;refine Rg.lr 120 (Rg.xm (.bool true) _ rfl rfl) ?_;go_frame;refine listW_run (some 121) rfl rfl (Rg.xm (.int .i64 0) _ rfl rfl) ?_;go_frame;refine listW_run (some 122) rfl rfl (exec_eqI _ _ rfl rfl rfl rfl) ?_;go_frame;refine Rg.lr 123 (exec_pickT (v := .bool true) _ _ _ rfl rfl rfl) ?_;go_frame;refine Rg.lr 124 (Rg.xm (.bool true) _ rfl rfl) ?_;go_frame;refine listW_run (some 125) rfl rfl (Rg.xm (.int .i64 0) _ rfl rfl) ?_;go_frame;refine listW_run (some 126) rfl rfl (exec_eqI _ _ rfl rfl rfl rfl) ?_;go_frame;refine Rg.lr 127 (exec_pickT (v := .bool true) _ _ _ rfl rfl rfl) ?_;go_frame;refine Rg.lr 128 (Rg.xm (.bool true) _ rfl rfl) ?_;go_frame;refine listW_run (some 129) rfl rfl (Rg.exec_load (v := (.agg #[.int .i64 ((d : Nat) : Int), .slice oa1 on1 oc1, .slice ra1 rn1 rc1])) _ _ rfl ⟨w3.heap.size, 0, none⟩ rfl (run_loadC3 T1.out.c0 T1.out.c1 T1.out.c2)) ?_;go_frame
      refine listW_run (some 130) rfl rfl (Rg.exec_load (v := (.agg #[.int .i64 ((d : Nat) : Int), .slice oa2 on2 oc2, .slice ra2 rn2 rc2])) _ _ rfl ⟨w161.heap.size, 0, none⟩ rfl (run_loadC3 T2.out.c0 T2.out.c1 T2.out.c2)) ?_;go_frame;refine listW_ask (some 131) rfl rfl _ _ (exec_fn 22 _ _ _ rfl rfl rfl (Zicl11 _ _)) ?_;refine (SameChain_b (ChEq.of (n := ((d : Nat) : Int)) E1.out) (ChEq.of E2.out)).mono ?_;rintro e1 w166 ⟨rfl, hb⟩;refine ⟨_, rfl, ?_⟩;go_frame;replace HT := ι (HT.out.below hb);replace C0 := ι (C0.out.below hb);replace C1 := ι (C1.out.below hb);replace HG := ι (HG.out.below hb);replace G6 := ι (G6.out.below hb);replace E1 := ι (E1.out.below hb);replace T1 := ι (T1.out.below hb);replace E2 := ι (E2.out.below hb);replace T2 := ι (T2.out.below hb);replace SV := ι (SV.out.below hb);replace E3 := ι (E3.out.below hb);replace T3 := ι (T3.out.below hb);replace K := ι (Rg.acc K.out hb)
      clear hb;refine Rg.lr 132 (exec_pickT (v := .bool true) _ _ _ rfl rfl rfl) ?_;go_frame;refine Rg.lr 133 (Rg.xm (.bool true) _ rfl rfl) ?_;go_frame;refine listW_run (some 134) rfl rfl (Rg.exec_load (v := (.agg #[.int .i64 ((d : Nat) : Int), .slice oa3 on3 oc3, .slice ra3 rn3 rc3])) _ _ rfl ⟨w164.heap.size, 0, none⟩ rfl (run_loadC3 T3.out.c0 T3.out.c1 T3.out.c2)) ?_;go_frame;refine listW_run (some 135) rfl rfl (Rg.exec_load (v := (.agg #[.int .i64 ((d : Nat) : Int), .slice oa1 on1 oc1, .slice ra1 rn1 rc1])) _ _ rfl ⟨w3.heap.size, 0, none⟩ rfl (run_loadC3 T1.out.c0 T1.out.c1 T1.out.c2)) ?_;go_frame;refine listW_ask (some 136) rfl rfl _ _ (exec_fn 22 _ _ _ rfl rfl rfl (Zicl11 _ _)) ?_;refine (SameChain_b (ChEq.of (n := ((d : Nat) : Int)) E3.out) (ChEq.of E1.out)).mono ?_;rintro e1 w167 ⟨rfl, hb⟩;refine ⟨_, rfl, ?_⟩;go_frame;replace HT := ι (HT.out.below hb);replace C0 := ι (C0.out.below hb)
      replace C1 := ι (C1.out.below hb);replace HG := ι (HG.out.below hb);replace G6 := ι (G6.out.below hb);replace E1 := ι (E1.out.below hb);replace T1 := ι (T1.out.below hb);replace E2 := ι (E2.out.below hb);replace T2 := ι (T2.out.below hb);replace SV := ι (SV.out.below hb);replace E3 := ι (E3.out.below hb);replace T3 := ι (T3.out.below hb);replace K := ι (Rg.acc K.out hb);clear hb;refine Rg.lr 137 (exec_pickT (v := .bool true) _ _ _ rfl rfl rfl) ?_;go_frame;refine Rg.lr 138 (Rg.xm (.bool true) _ rfl rfl) ?_;go_frame;refine listW_run (some 139) rfl rfl (Rg.exec_load (v := (.agg #[.int .i64 ((d : Nat) : Int), .slice oa1 on1 oc1, .slice ra1 rn1 rc1])) _ _ rfl ⟨w3.heap.size, 0, none⟩ rfl (run_loadC3 T1.out.c0 T1.out.c1 T1.out.c2)) ?_;go_frame;refine listW_ask (some 140) rfl rfl _ _ (exec_fn1 33 _ _ rfl rfl (Xccl0 _ _)) ?_;refine (chCheck_c E1.out).mono ?_;rintro e1 w168 ⟨rfl, hb⟩;rw [HCC.out]
      refine ⟨_, rfl, ?_⟩;go_frame;replace HT := ι (HT.out.below hb);replace C0 := ι (C0.out.below hb);replace C1 := ι (C1.out.below hb);replace HG := ι (HG.out.below hb);replace G6 := ι (G6.out.below hb);replace E1 := ι (E1.out.below hb);replace T1 := ι (T1.out.below hb);replace E2 := ι (E2.out.below hb);replace T2 := ι (T2.out.below hb);replace SV := ι (SV.out.below hb);replace E3 := ι (E3.out.below hb);replace T3 := ι (T3.out.below hb);replace K := ι (Rg.acc K.out hb);clear hb;refine listW_run (some 141) rfl rfl (exec_eqI _ _ rfl rfl rfl rfl) ?_;go_frame;refine Rg.lr 142 (exec_pickT (v := .bool true) _ _ _ rfl rfl rfl) ?_;go_frame;refine Rg.lr 4 (Rg.xa (.bool true) _ rfl rfl) ?_;go_frame;go_wp2;go_ret;exact ⟨rfl, K.out⟩
     case pos =>
      have hg0 : gs.length = 0 := by omega
      have hgN : ¬ (0 : Int) < ((gs.map Ma.ofN).length : Int) := by rw [HML.out]; omega
      go_upto_region 14 with (fail);refine wp_region_list ?_;refine Rg.lr 60 (Rg.xm (.int .i64 ((n : Nat) : Int)) _ rfl rfl) ?_;go_frame;refine Rg.lr 61 (exec_bin (R := .bool true) .gtr _ _ _ rfl rfl rfl (b_gtr _ (decide_eq_true (by omega)))) ?_;go_frame;refine Rg.lr 62 (Rg.xm (.bool true) _ rfl rfl) ?_;go_frame;refine listW_run (some 63) rfl rfl (exec_fieldG _ rfl rfl) ?_;go_frame;refine listW_run (some 64) rfl rfl (Rg.exec_load (v := .slice ga (gs.map Ma.ofN).length gc) _ _ rfl ⟨w2.heap.size, 1, none⟩ rfl (Rg.run_loadSl _ _ Try.underlying24 ((Below.cell (p := ⟨w2.heap.size, 1, none⟩) OG.out.tkr.bel G6.out.lt).trans G6.out.c1))) ?_;go_frame;refine listW_run (some 65) rfl rfl (exec_len _ _ _ rfl Try.underlying24 _ _ _ rfl) ?_;go_frame;refine listW_run (some 66) rfl rfl (exec_bin (R := .bool false) .gtr _ _ _ rfl rfl rfl (b_gtr _ (decide_eq_false hgN))) ?_;go_frame;refine Rg.lr 67 (exec_pickT (v := .bool false) _ _ _ rfl rfl rfl) ?_;go_frame
      have HGE := ι (OT.out.same HGS.out);have HT16 := ι (show T.length ≤ 16 by omega);have HGT2 := ι OT.out.gd;have KW := ι OG.out.tkr.bel;have HT := ι (OG.out.rw.rows (by omega));have C0 := ι OG.out.g0;have C1 := ι (show CL we gb 1 (.slice va T.length vc) from ⟨OG.out.g1, OG.out.g0.lt⟩);clear OG OT HTL;replace HG := ι (HG.out.below KW.out);replace G6 := ι (G6.out.below KW.out);replace E1 := ι (E1.out.below KW.out);replace T1 := ι (T1.out.below KW.out);have K := ι (Rg.acc K0.out KW.out);clear KW HCK;have HCK := ι (gchk_good (gs := T) hd10.1 (by omega) HT16.out HGT2.out);go_upto_region 17 with (fail);refine wp_region_list ?_;refine Rg.lr 95 (Rg.exec_load (v := .agg #[.int .i64 ((d : Nat) : Int), .slice va T.length vc]) _ _ rfl ⟨gb, 0, none⟩ rfl (run_loadG C0.out.cell C1.out.cell)) ?_;go_frame;refine list_ask (some 96) rfl rfl _ _ (exec_fn1 17 _ _ rfl rfl (Xdcl1 _ _)) ?_;refine (chOf_any _ _ (T.map Ma.ofN) we HT.out).mono ?_
      rintro e1 w201 ⟨cv, rfl, hcv, hb⟩;rw [HCK.out] at hcv ⊢;obtain ⟨oa2, on2, oc2, ra2, rn2, rc2, O2, R2, rfl, hce, hci⟩ := chAns_ok hcv;have HI2 := ι hci;clear hcv hci;refine ⟨_, rfl, ?_⟩;go_frame;replace HT := ι (HT.out.below hb);replace C0 := ι (C0.out.below hb);replace C1 := ι (C1.out.below hb);replace HG := ι (HG.out.below hb);replace G6 := ι (G6.out.below hb);replace E1 := ι (E1.out.below hb);replace T1 := ι (T1.out.below hb);replace K := ι (Rg.acc K.out hb);clear hb;have E2 := ι hce;refine Rg.lr 94 (Rg.xm (.tuple #[(.agg #[.int .i64 ((d : Nat) : Int), .slice oa2 on2 oc2, .slice ra2 rn2 rc2]), .int .i64 0]) _ rfl rfl) ?_;go_frame;refine Rg.lr 97 (exec_extract (v := (.agg #[.int .i64 ((d : Nat) : Int), .slice oa2 on2 oc2, .slice ra2 rn2 rc2])) _ _ rfl rfl rfl) ?_;go_frame;refine Rg.lr 98 (exec_extract (v := .int .i64 0) _ _ rfl rfl rfl) ?_;go_frame;refine Rg.lr 14 (exec_allocC rfl) ?_;go_frame
      refine Rg.list_skip none rfl rfl (Rg.exec_store _ _ _ rfl _ rfl _ rfl (run_storeC _ _ _ _ _ _ _ (Tri.new w201 (.int .i64 0) (.slice none 0 0) (.slice none 0 0)))) ?_;go_frame;have htn := (Tri.new w201 (.int .i64 0) (.slice none 0 0) (.slice none 0 0)).set (.int .i64 ((d : Nat) : Int)) (.slice oa2 on2 oc2) (.slice ra2 rn2 rc2);have hb := ((((Below.refl w201.heap.size w201).alloc (Nat.le_refl _) (.cells #[.int .i64 0, .slice none 0 0, .slice none 0 0] 32)).setCell (p := ⟨w201.heap.size, 0, none⟩) (Nat.le_refl _) (.int .i64 ((d : Nat) : Int))).setCell (p := ⟨w201.heap.size, 1, none⟩) (Nat.le_refl _) (.slice oa2 on2 oc2)).setCell (p := ⟨w201.heap.size, 2, none⟩) (Nat.le_refl _) (.slice ra2 rn2 rc2);generalize (((w201.alloc (.cells #[.int .i64 0, .slice none 0 0, .slice none 0 0] 32)).setCell ⟨w201.heap.size, 0, none⟩ (.int .i64 ((d : Nat) : Int))).setCell ⟨w201.heap.size, 1, none⟩ (.slice oa2 on2 oc2)).setCell ⟨w201.heap.size, 2, none⟩ (.slice ra2 rn2 rc2) = w202 at *
      replace HT := ι (HT.out.below hb);replace C0 := ι (C0.out.below hb);replace C1 := ι (C1.out.below hb);replace HG := ι (HG.out.below hb);replace G6 := ι (G6.out.below hb);replace E1 := ι (E1.out.below hb);replace T1 := ι (T1.out.below hb);replace E2 := ι (E2.out.below hb);replace K := ι (Rg.acc K.out hb);clear hb;have T2 := ι htn;clear htn;refine Rg.lr 15 (Rg.xa (.int .i64 0) _ rfl rfl) ?_;go_frame;clear hce;have HI2b := ι (show IsChain d (Gr d (· ∈ gs)) O2 R2 by rw [← HGE.out]; exact HI2.out);obtain ⟨hu1, hu2⟩ := IsChain.uniq HI2b.out HI1.out;have HU1 := ι hu1;have HU2 := ι hu2;rw [HU1.out, HU2.out] at E2;have HSG := ι (show sgA ((d : Nat) : Int) (O1.map Ma.ofN) (R1.map (List.map Ma.ofN)) = (sgL R1).map Ma.ofN by unfold sgA; rw [if_pos HCC.out, sgL_map]);have HIG := ι (Gr.isG HGS.out);clear hu1 hu2;go_upto_region 18 with (fail);refine wp_region_list ?_;refine Rg.lr 100 (Rg.exec_load (v := (.agg #[.int .i64 ((d : Nat) : Int), .slice oa1 on1 oc1, .slice ra1 rn1 rc1])) _ _ rfl ⟨w3.heap.size, 0, none⟩ rfl (run_loadC3 T1.out.c0 T1.out.c1 T1.out.c2)) ?_;go_frame
      refine list_ask (some 101) rfl rfl _ _ (exec_fn1 31 _ _ rfl rfl (Gfcl6 _ _)) ?_;refine (chStrong_any (n := ((d : Nat) : Int)) E1.out).mono ?_;rintro e1 w203 ⟨sv, rfl, hsv, hb⟩;rw [HCC.out];rw [HSG.out] at hsv;refine ⟨_, rfl, ?_⟩;go_frame;replace HT := ι (HT.out.below hb);replace C0 := ι (C0.out.below hb);replace C1 := ι (C1.out.below hb);replace HG := ι (HG.out.below hb);replace G6 := ι (G6.out.below hb);replace E1 := ι (E1.out.below hb);replace T1 := ι (T1.out.below hb);replace E2 := ι (E2.out.below hb);replace T2 := ι (T2.out.below hb);replace K := ι (Rg.acc K.out hb);clear hb;have SV := ι hsv;refine Rg.lr 99 (Rg.xm (.tuple #[sv, .int .i64 0]) _ rfl rfl) ?_;go_frame;refine Rg.lr 102 (exec_extract (v := sv) _ _ rfl rfl rfl) ?_;go_frame;refine Rg.lr 103 (exec_extract (v := .int .i64 0) _ _ rfl rfl rfl) ?_;go_frame;refine Rg.lr 16 (Rg.xa (sv) _ rfl rfl) ?_;go_frame;refine Rg.lr 17 (Rg.xa (.int .i64 0) _ rfl rfl) ?_;go_frame
      clear hsv;have HMK := ι (mkchk_good hd10.1 (by omega) (sgL_len HIG.out HI1.out (by omega)) (sgL_gd HIG.out HI1.out));have HGS3 := ι (sgL_gd HIG.out HI1.out);go_upto_region 19 with (fail);refine wp_region_list ?_;refine Rg.lr 105 (exec_fieldG0 _ rfl rfl) ?_;go_frame;refine Rg.lr 106 (Rg.exec_load (v := .int .i64 ((d : Nat) : Int)) _ _ rfl ⟨w2.heap.size, 0, none⟩ rfl (run_loadInt G6.out.c0)) ?_;go_frame;refine Rg.lr 107 (Rg.xm (sv) _ rfl rfl) ?_;go_frame;refine list_ask (some 108) rfl rfl _ _ (exec_fn 32 _ _ _ rfl rfl rfl (Gfcl7 _ _)) ?_;refine (chMake_any _ ((d : Nat) : Int) ((sgL R1).map Ma.ofN) w203 SV.out).mono ?_;rintro e1 w204 ⟨cv, rfl, hcv, hb⟩;rw [HMK.out] at hcv ⊢;obtain ⟨oa3, on3, oc3, ra3, rn3, rc3, O3, R3, rfl, hce, hci⟩ := chAns_ok hcv;have HI3 := ι hci;clear hcv hci;refine ⟨_, rfl, ?_⟩;go_frame;replace HT := ι (HT.out.below hb);replace C0 := ι (C0.out.below hb);replace C1 := ι (C1.out.below hb)
      replace HG := ι (HG.out.below hb);replace G6 := ι (G6.out.below hb);replace E1 := ι (E1.out.below hb);replace T1 := ι (T1.out.below hb);replace E2 := ι (E2.out.below hb);replace T2 := ι (T2.out.below hb);replace SV := ι (SV.out.below hb);replace K := ι (Rg.acc K.out hb);clear hb;have E3 := ι hce;refine Rg.lr 104 (Rg.xm (.tuple #[(.agg #[.int .i64 ((d : Nat) : Int), .slice oa3 on3 oc3, .slice ra3 rn3 rc3]), .int .i64 0]) _ rfl rfl) ?_;go_frame;refine Rg.lr 109 (exec_extract (v := (.agg #[.int .i64 ((d : Nat) : Int), .slice oa3 on3 oc3, .slice ra3 rn3 rc3])) _ _ rfl rfl rfl) ?_;go_frame;refine Rg.lr 110 (exec_extract (v := .int .i64 0) _ _ rfl rfl rfl) ?_;go_frame;refine Rg.lr 18 (exec_allocC rfl) ?_;go_frame;refine Rg.list_skip none rfl rfl (Rg.exec_store _ _ _ rfl _ rfl _ rfl (run_storeC _ _ _ _ _ _ _ (Tri.new w204 (.int .i64 0) (.slice none 0 0) (.slice none 0 0)))) ?_;go_frame;have htn := (Tri.new w204 (.int .i64 0) (.slice none 0 0) (.slice none 0 0)).set (.int .i64 ((d : Nat) : Int)) (.slice oa3 on3 oc3) (.slice ra3 rn3 rc3)
      have hb := ((((Below.refl w204.heap.size w204).alloc (Nat.le_refl _) (.cells #[.int .i64 0, .slice none 0 0, .slice none 0 0] 32)).setCell (p := ⟨w204.heap.size, 0, none⟩) (Nat.le_refl _) (.int .i64 ((d : Nat) : Int))).setCell (p := ⟨w204.heap.size, 1, none⟩) (Nat.le_refl _) (.slice oa3 on3 oc3)).setCell (p := ⟨w204.heap.size, 2, none⟩) (Nat.le_refl _) (.slice ra3 rn3 rc3);generalize (((w204.alloc (.cells #[.int .i64 0, .slice none 0 0, .slice none 0 0] 32)).setCell ⟨w204.heap.size, 0, none⟩ (.int .i64 ((d : Nat) : Int))).setCell ⟨w204.heap.size, 1, none⟩ (.slice oa3 on3 oc3)).setCell ⟨w204.heap.size, 2, none⟩ (.slice ra3 rn3 rc3) = w205 at *;replace HT := ι (HT.out.below hb);replace C0 := ι (C0.out.below hb);replace C1 := ι (C1.out.below hb);replace HG := ι (HG.out.below hb);replace G6 := ι (G6.out.below hb);replace E1 := ι (E1.out.below hb);replace T1 := ι (T1.out.below hb);replace E2 := ι (E2.out.below hb)
      replace T2 := ι (T2.out.below hb);replace SV := ι (SV.out.below hb);replace E3 := ι (E3.out.below hb);replace K := ι (Rg.acc K.out hb);clear hb;have T3 := ι htn;clear htn;refine Rg.lr 19 (Rg.xa (.int .i64 0) _ rfl rfl) ?_;go_frame;clear hce;have HI3b := ι (show IsChain d (Gr d (· ∈ gs)) O3 R3 by rw [sgL_gen HIG.out HI1.out]; exact HI3.out);obtain ⟨hu1, hu2⟩ := IsChain.uniq HI3b.out HI1.out;rw [hu1, hu2] at E3;clear hu1 hu2;go_upto_region 20 with (fail);refine wp_region_list ?_;refine Rg.lr 111 (Rg.xm (.bool true) _ rfl rfl) ?_;go_frame;refine Rg.lr 112 (Rg.xm (.bool true) _ rfl rfl) ?_;go_frame;refine listW_run (some 113) rfl rfl (Rg.xm (.int .i64 0) _ rfl rfl) ?_;go_frame;refine listW_run (some 114) rfl rfl (exec_eqI _ _ rfl rfl rfl rfl) ?_;go_frame;refine Rg.lr 115 (exec_pickT (v := .bool true) _ _ _ rfl rfl rfl) ?_;go_frame;refine Rg.lr 116 (Rg.xm (.bool true) _ rfl rfl) ?_;go_frame
      refine listW_run (some 117) rfl rfl (Rg.xm (.int .i64 0) _ rfl rfl) ?_;go_frame;refine listW_run (some 118) rfl rfl (exec_eqI _ _ rfl rfl rfl rfl) ?_;go_frame;refine Rg.lr 119 (exec_pickT (v := .bool true) _ _ _ rfl rfl rfl) ?_;go_frame;refine Rg.lr 120 (Rg.xm (.bool true) _ rfl rfl) ?_;go_frame;refine listW_run (some 121) rfl rfl (Rg.xm (.int .i64 0) _ rfl rfl) ?_;go_frame;refine listW_run (some 122) rfl rfl (exec_eqI _ _ rfl rfl rfl rfl) ?_;go_frame;refine Rg.lr 123 (exec_pickT (v := .bool true) _ _ _ rfl rfl rfl) ?_;go_frame;refine Rg.lr 124 (Rg.xm (.bool true) _ rfl rfl) ?_;go_frame;refine listW_run (some 125) rfl rfl (Rg.xm (.int .i64 0) _ rfl rfl) ?_;go_frame;refine listW_run (some 126) rfl rfl (exec_eqI _ _ rfl rfl rfl rfl) ?_;go_frame;refine Rg.lr 127 (exec_pickT (v := .bool true) _ _ _ rfl rfl rfl) ?_;go_frame;refine Rg.lr 128 (Rg.xm (.bool true) _ rfl rfl) ?_;go_frame;refine listW_run (some 129) rfl rfl (Rg.exec_load (v := (.agg #[.int .i64 ((d : Nat) : Int), .slice oa1 on1 oc1, .slice ra1 rn1 rc1])) _ _ rfl ⟨w3.heap.size, 0, none⟩ rfl (run_loadC3 T1.out.c0 T1.out.c1 T1.out.c2)) ?_;go_frame
      refine listW_run (some 130) rfl rfl (Rg.exec_load (v := (.agg #[.int .i64 ((d : Nat) : Int), .slice oa2 on2 oc2, .slice ra2 rn2 rc2])) _ _ rfl ⟨w201.heap.size, 0, none⟩ rfl (run_loadC3 T2.out.c0 T2.out.c1 T2.out.c2)) ?_;go_frame;refine listW_ask (some 131) rfl rfl _ _ (exec_fn 22 _ _ _ rfl rfl rfl (Zicl11 _ _)) ?_;refine (SameChain_b (ChEq.of (n := ((d : Nat) : Int)) E1.out) (ChEq.of E2.out)).mono ?_;rintro e1 w206 ⟨rfl, hb⟩;refine ⟨_, rfl, ?_⟩;go_frame;replace HT := ι (HT.out.below hb);replace C0 := ι (C0.out.below hb);replace C1 := ι (C1.out.below hb);replace HG := ι (HG.out.below hb);replace G6 := ι (G6.out.below hb);replace E1 := ι (E1.out.below hb);replace T1 := ι (T1.out.below hb);replace E2 := ι (E2.out.below hb);replace T2 := ι (T2.out.below hb);replace SV := ι (SV.out.below hb);replace E3 := ι (E3.out.below hb);replace T3 := ι (T3.out.below hb);replace K := ι (Rg.acc K.out hb)
      clear hb;refine Rg.lr 132 (exec_pickT (v := .bool true) _ _ _ rfl rfl rfl) ?_;go_frame;refine Rg.lr 133 (Rg.xm (.bool true) _ rfl rfl) ?_;go_frame;refine listW_run (some 134) rfl rfl (Rg.exec_load (v := (.agg #[.int .i64 ((d : Nat) : Int), .slice oa3 on3 oc3, .slice ra3 rn3 rc3])) _ _ rfl ⟨w204.heap.size, 0, none⟩ rfl (run_loadC3 T3.out.c0 T3.out.c1 T3.out.c2)) ?_;go_frame;refine listW_run (some 135) rfl rfl (Rg.exec_load (v := (.agg #[.int .i64 ((d : Nat) : Int), .slice oa1 on1 oc1, .slice ra1 rn1 rc1])) _ _ rfl ⟨w3.heap.size, 0, none⟩ rfl (run_loadC3 T1.out.c0 T1.out.c1 T1.out.c2)) ?_;go_frame;refine listW_ask (some 136) rfl rfl _ _ (exec_fn 22 _ _ _ rfl rfl rfl (Zicl11 _ _)) ?_;refine (SameChain_b (ChEq.of (n := ((d : Nat) : Int)) E3.out) (ChEq.of E1.out)).mono ?_;rintro e1 w207 ⟨rfl, hb⟩;refine ⟨_, rfl, ?_⟩;go_frame;replace HT := ι (HT.out.below hb);replace C0 := ι (C0.out.below hb)
      replace C1 := ι (C1.out.below hb);replace HG := ι (HG.out.below hb);replace G6 := ι (G6.out.below hb);replace E1 := ι (E1.out.below hb);replace T1 := ι (T1.out.below hb);replace E2 := ι (E2.out.below hb);replace T2 := ι (T2.out.below hb);replace SV := ι (SV.out.below hb);replace E3 := ι (E3.out.below hb);replace T3 := ι (T3.out.below hb);replace K := ι (Rg.acc K.out hb);clear hb;refine Rg.lr 137 (exec_pickT (v := .bool true) _ _ _ rfl rfl rfl) ?_;go_frame;refine Rg.lr 138 (Rg.xm (.bool true) _ rfl rfl) ?_;go_frame;refine listW_run (some 139) rfl rfl (Rg.exec_load (v := (.agg #[.int .i64 ((d : Nat) : Int), .slice oa1 on1 oc1, .slice ra1 rn1 rc1])) _ _ rfl ⟨w3.heap.size, 0, none⟩ rfl (run_loadC3 T1.out.c0 T1.out.c1 T1.out.c2)) ?_;go_frame;refine listW_ask (some 140) rfl rfl _ _ (exec_fn1 33 _ _ rfl rfl (Xccl0 _ _)) ?_;refine (chCheck_c E1.out).mono ?_;rintro e1 w208 ⟨rfl, hb⟩;rw [HCC.out]
      refine ⟨_, rfl, ?_⟩;go_frame;replace HT := ι (HT.out.below hb);replace C0 := ι (C0.out.below hb);replace C1 := ι (C1.out.below hb);replace HG := ι (HG.out.below hb);replace G6 := ι (G6.out.below hb);replace E1 := ι (E1.out.below hb);replace T1 := ι (T1.out.below hb);replace E2 := ι (E2.out.below hb);replace T2 := ι (T2.out.below hb);replace SV := ι (SV.out.below hb);replace E3 := ι (E3.out.below hb);replace T3 := ι (T3.out.below hb);replace K := ι (Rg.acc K.out hb);clear hb;refine listW_run (some 141) rfl rfl (exec_eqI _ _ rfl rfl rfl rfl) ?_;go_frame;refine Rg.lr 142 (exec_pickT (v := .bool true) _ _ _ rfl rfl rfl) ?_;go_frame;refine Rg.lr 4 (Rg.xa (.bool true) _ rfl rfl) ?_;go_frame;go_wp2;go_ret;exact ⟨rfl, K.out⟩
end Go.Proofs.Ytcfomoknlchemaa

set_option linter.unusedVariables false
namespace Go.Proofs.Ytcfomoknlchemaa
open Go.RowKit
open Go.Proofs
open Go.ChangeShapes Go.WideShapes Go.Deep Go.Joins
attribute [local irreducible] Go.Calls
section
variable {H : Type} {enc : TypeId × Value → H}
theorem readI {W : World} {base : Nat} {r : Reach} {v : Value} {d : DataW H} {p : List MemPlace} (h : DataW.Trod enc Try.prog W 0 (fun _ => true) true 22 v d p) (hv : ∃ x, v.cells.toList = [x] ∧ v = x) :
  ∃ l, Rg.IntsB maxLen W v l := by
 obtain ⟨fuel, hf⟩ := h;obtain ⟨x, hc, rfl⟩ := hv;rw [hc] at hf
 rcases open_ints Try.underlying22 Try.underlying3 cells3 hf with ⟨hcs, _⟩ | ⟨a, len, cap, zs, hcs, _, hl, hm, hz, _, hcell, _⟩
 ·obtain rfl : v = .slice none 0 0 := by simpa using hcs
  exact ⟨[], none, 0, rfl, by simp, Nat.zero_le _, by simp, fun h => by simp at h⟩
 ·obtain rfl : v = .slice (some a) len cap := by simpa using hcs
  simp only [if_true] at hz
  have hlen : (zs.take len).length = len := by rw [List.length_take]; omega
  refine ⟨zs.take len, some a, cap, by rw [List.length_map, hlen], by rw [List.length_map, hlen]; exact hl, hm, by rw [List.length_map, hlen]; omega, fun h0 => ?_⟩;rw [List.length_map, hlen] at h0;have hc0 := hcell 0 (by omega)
  have ha : a = ⟨a.block, a.off, none⟩ := by
   have := spot_none (a := a) (by simpa [Addr.add] using hc0)
   cases a; simp at this; subst this; rfl
  refine ⟨a.block, a.off, by rw [← ha], lt_of_cell (a := a) (by simpa [Addr.add] using hc0), fun i hi => ?_⟩;rw [List.length_map, hlen] at hi;rw [← add_none ha i, hcell i (by omega)];simp [List.getD, List.getElem?_eq_getElem (show i < zs.length by omega)]
end
end Go.Proofs.Ytcfomoknlchemaa
