/- Lemmas and contracts on the way to the statement; no condition of their own beyond those written. -/
import Derived.Test.YtcfomoknlchemaaXXatoIg
import Derived.ChangeKeysEq
import Derived.Laws.Cells
import Derived.Laws.Rows
import Derived.Laws.Tables
import Derived.Deep.WholeRow
import Derived.Deep.OwnRows
import Derived.Deep.CutRange
import Derived.Deep.CutBlock
import Derived.IntWalk
import Derived.Great.BuildSlice
import Derived.ArgAppend
import Derived.Laws.CopyOwn
import Derived.StillTailTactics
import Derived.Deep.MidRow
import Derived.WalkSpells
import Derived.WalkLawsBesides
import Derived.Maps.AppendAt
import Derived.OwnWalk
import Derived.OrdersHeld
import Derived.WalkKit
import Derived.Lib.Hide
import Derived.Laws.OwnMore
import Derived.Test.YtcfomoknlchemaaProg
import Derived.Outline
import Derived.Deep.DeepFit
import Derived.BigQuiet
import Derived.Deep.QuietTactic
import Derived.Sort.OwnSortedInts
import Derived.WideMake
import Derived.MapKept
import Derived.ChangeMaps5
import Derived.Shelf.Sort.Plain
import Derived.RangeFuncBox
import Derived.RangeFuncLeaves
import Derived.Shelf.Abstract
import Derived.OwnWalkIn
import Derived.TacticsInMore
import Derived.LoopNIn
import Derived.LoopIn
import Derived.RangeFuncWrites
import Derived.RangeFuncNested
import Derived.Sort.CutIn
import Derived.OrdersIn
import Derived.TacticsIn
import Derived.Lib.ConvBytes
import Derived.Deep.LoopGhost
import Derived.Lib.SlicesSearch
set_option linter.unusedVariables false
set_option linter.unusedSimpArgs false
set_option maxRecDepth 100000
set_option maxHeartbeats 8000000
namespace Go.Proofs.Ytcfomoknlchemaa
open Go.RowKit
open Go.Proofs
open Go.Proofs.Ob
open Go.Shelf
open Go.Proofs.Cm (Tr)
attribute [local go_sem] Oper.semAt_some
attribute [local irreducible] Go.Calls Go.wpList Go.wpListIn
theorem Yecl0 (args : Array Value) (w : World) : (callFunc 167 args).run Try.prog w = .ok (.enter 167 args) w := by kernel_rfl
theorem Yecl2 (args : Array Value) (w : World) : (callFunc 120 args).run Try.prog w = .ok (.enter 120 args) w := by kernel_rfl
def entV {n : Nat} (tr : Tr) (q : EntIx n tr) : List Nat := (tr q.1.1 q.1.2).getD []
theorem entV_at {n : Nat} {tr : Tr} (q : EntIx n tr) : tr q.1.1 q.1.2 = some (entV tr q) := by
 unfold entV;obtain ⟨u, hu⟩ := Option.isSome_iff_exists.1 q.2.2;rw [hu]; rfl
def PClosed (n : Nat) (tr : Tr) : Prop := ∀ q r : EntIx n tr, (Cm.sfP n (Cm.idT n tr) n (Ma.mulN (entV tr q) (entV tr r))).1 = n
theorem PtAt.ent {F : Nat → Prop} {tb n m : Nat} {w : World} {tr : Tr} {V : Nat → Nat → Value} (h : PtAt F tb n m w tr V) (hn : n ≤ 64) (q : EntIx n tr) : FP F w (V q.1.1 q.1.2) (entV tr q) :=
 h.some_ _ _ _ (by have := q.2.1; omega) (by have := q.2.1; omega) (entV_at q)
theorem entV_gd {n : Nat} {tr : Tr} (hr : Cm.Rp n 0 (Cm.idT n tr)) (q : EntIx n tr) : Cm.Gd n (entV tr q) :=
 hr.gd q.1.1 q.1.2 _ (Nat.zero_le _) (by have := q.2.1; omega) (by rw [Cm.idT_ne (by have := q.2.1; omega)]; exact entV_at q)
theorem exec_boxV {P : Program} {o : Oper} {a : Act} {w : World} {v : Value} (t : TypeId) (x : Operand) (ho : o.op = .box t x) (hx : a.eval x = v) (hv : v.cells = #[v]) :
  (execOp a.eval o).run P w = .ok (.value (.pointer (some ⟨w.heap.size, 0, none⟩))) (w.alloc (.cells #[v] t)) := by
 unfold execOp;simp [ho, hx, Instr.box, newVar, newRow, hv, Result.andThen]
theorem _root_.Go.Proofs.Rg.run_loadPtr {P : Program} (t e : TypeId) (ht : P.underlying t = some (.pointer e)) {w : World} {ad : Addr} {v : Value} (h : w.cell? ad = some v) : (loadVar t ad).run P w = .ok v w := by
 simp [loadVar, isAgg, run_underlying ht, load];simp [Sem.run, h]
theorem exec_allocBo {o : Oper} {a : Act} {w : World} (ho : o.op = .alloc 4) : (execOp a.eval o).run Try.prog w = .ok (.value (.pointer (some ⟨w.heap.size, 0, none⟩))) (w.alloc (.cells #[.bool false] 4)) := by
 obtain ⟨i0, hi, hz0, hz1, hz2⟩ := info_parts infoBool;unfold execOp;simp [ho, Instr.alloc, typeInfo, zeroValue, hi, hz0, newVar, newRow, Value.cells, Result.andThen]
theorem CW.boxed {w : World} {b : Nat} {v : Value} {t : TypeId} (h : Boxed w b t v) : CW w b v := ⟨h.cell, h.frozen, h.lt⟩
theorem results_cellB {fn : Func} {p : Go.Tmp} (h : fn.results = #[.cell p 4]) (tmps : Array Value) {w : World} {b : Nat} {v : Value} (hp : tmps.getD p undef = .pointer (some ⟨b, 0, none⟩)) (hc : w.cell? ⟨b, 0, none⟩ = some v) :
  (results fn tmps).run Try.prog w = .ok v w := by
 have hp' : tmps[p]?.getD undef = .pointer (some ⟨b, 0, none⟩) := by simpa using hp
 simp [results, h, hp', asAddr, run_loadBool hc]
theorem tb_leave {w W : World} {P0 : Prop} {b : Bool} {ds : List Nat} (hb : Below w.heap.size w W) (h2 : CW W (w.heap.size + 1) (.bool b)) (hP : b = true ↔ P0) (hn : ds.Nodup) (hD : ∀ D, D ∈ ds → RF.Dfr D W ∧ w.heap.size ≤ D)
  {tmps : Array Value} (h3 : tmps.getD 2 undef = .pointer (some ⟨w.heap.size + 1, 0, none⟩)) :
  LeavesInM Fence.wide 0 Try.prog Try.f124 tmps (fun e w' => ∃ b, e = .returned (.bool b) ∧ (b = true ↔ P0) ∧ Below w.heap.size w w') (ds.map RF.mark) .returning W := by
 exact RF.leaves w.heap.size ds W hn hD fun _ l1 l2 _ => ⟨_, results_cellB rfl _ h3 ((l2 _).trans h2.c), b, rfl, hP, hb.trans l1⟩
theorem kf_below {B : Nat} {w w' : World} (hb : Below w.heap.size w w') : KeepsFrom B w w' := ⟨hb.size, fun k o _ hk _ => (hb.block k (Array.getElem?_eq_some_iff.1 hk).1).trans hk⟩
theorem kf_kp {B b : Nat} {w w' : World} (hk : Rg.Kp (fun z => z = b) w w') (hb : b < B) : KeepsFrom B w w' := ⟨hk.size, fun k o hB h _ => (hk.block k (Array.getElem?_eq_some_iff.1 h).1 (by omega)).trans h⟩
theorem bel_kp {B b : Nat} {w w' : World} (hk : Rg.Kp (fun z => z = b) w w') (hb : B ≤ b) (hB : B ≤ w.heap.size) : Below B w w' := ⟨hk.os, hk.tape, hk.output, hk.size, fun k h => hk.block k (by omega) (by omega)⟩
theorem pins_no {n m : Nat} (hn1 : 1 ≤ n) (hn2 : n ≤ 64) (hm : m < 1000000000000) {F0 : Nat → Prop} {tb : Nat} {w : World} {tr : Tr} {V : Nat → Nat → Value} (hT : PtAt F0 tb n m w tr V) (hr : Cm.Rp n 0 (Cm.idT n tr)) {xv : Value} {x : List Nat} (hx : FP F0 w xv x) (gx : Cm.Gd n x) (hA : ¬ (Cm.sfP n (Cm.idT n tr) n x).1 < n) :
  Calls Try.prog 120 #[.pointer (some ⟨tb, 0, none⟩), xv] w fun e w' => e = .returned (.tuple #[]) ∧ Below w.heap.size w w' := by
 refine (pinsert_any hn1 hn2 hm hT hr hx gx).mono ?_;rintro e w' ⟨F', V', rfl, hk, _⟩;exact ⟨rfl, ⟨hk.kp.os, hk.kp.tape, hk.kp.output, hk.kp.size, fun k h => hk.kp.block k h (fun e => hA e.2)⟩⟩
theorem pins_yes {n m : Nat} (hn1 : 1 ≤ n) (hn2 : n ≤ 64) (hm : m < 1000000000000) {F0 : Nat → Prop} {tb : Nat} {w : World} {tr : Tr} {V : Nat → Nat → Value} (hT : PtAt F0 tb n m w tr V) (hr : Cm.Rp n 0 (Cm.idT n tr)) {xv : Value} {x : List Nat} (hx : FP F0 w xv x) (gx : Cm.Gd n x) (hA : (Cm.sfP n (Cm.idT n tr) n x).1 < n) :
  Calls Try.prog 120 #[.pointer (some ⟨tb, 0, none⟩), xv] w fun e w' => e = .returned (.tuple #[]) ∧ CL w' tb 1 (.int .i64 ((m + 1 : Nat) : Int)) ∧ Rg.Kp (fun z => z = tb) w w' := by
 refine (pinsert_any hn1 hn2 hm hT hr hx gx).mono ?_;rintro e w' ⟨F', V', rfl, hk, hp⟩;rw [if_pos hA] at hp;exact ⟨rfl, CL.mk hp.c1 hp.lt, Rg.Kp.weak hk.kp fun z e => e.1⟩
theorem pclosed_any {n m : Nat} (hn1 : 1 ≤ n) (hn2 : n ≤ 64) (hm : m < 1000000000000) {F0 : Nat → Prop} {tb : Nat} {w : World} {tr : Tr} {V : Nat → Nat → Value} (hT : PtAt F0 tb n m w tr V) (hr : Cm.Rp n 0 (Cm.idT n tr)) :
  Calls Try.prog 124 #[.pointer (some ⟨tb, 0, none⟩)] w fun e w' => ∃ b, e = .returned (.bool b) ∧ (b = true ↔ PClosed n tr) ∧ Below w.heap.size w w' := by
 have HT := ι hT;have HR := ι hr;have HFL := ι hT.Flt;have HTB := ι hT.lt;have K := ι (Below.refl w.heap.size w);clear hT hr;refine RF.calls_marks Try.func124 rfl ?_;simp only [Try.ntmps124, List.size_toArray, List.length_cons, List.length_nil, Nat.reduceAdd, Nat.reduceSub, Array.replicate_succ, Array.replicate_zero, List.push_toArray, List.append_toArray, List.nil_append, List.cons_append];go_upto_region 0 with (fail);refine wp_region_list ?_;have hnw1 := CW.new w ((.pointer (some ⟨tb, 0, none⟩))) 146
 have hs1 : (w.alloc (.cells #[(.pointer (some ⟨tb, 0, none⟩))] 146)).heap.size = w.heap.size + 1 := by simp
 refine Rg.lr 1 (exec_boxV (v := (.pointer (some ⟨tb, 0, none⟩))) _ _ rfl rfl rfl) ?_;go_frame;have hb := (Below.refl w.heap.size w).alloc (Nat.le_refl _) (.cells #[(.pointer (some ⟨tb, 0, none⟩))] 146);generalize w.alloc (.cells #[(.pointer (some ⟨tb, 0, none⟩))] 146) = w1 at *;replace HT := ι (HT.out.below hb);replace K := ι (Rg.acc K.out hb);clear hb;have C1 := ι hnw1;have hnw2 := CW.new w1 (.bool false) 4
 have hs2 : (w1.alloc (.cells #[.bool false] 4)).heap.size = w1.heap.size + 1 := by simp
 refine Rg.lr 2 (exec_allocBo rfl) ?_;go_frame;have hb := (Below.refl w1.heap.size w1).alloc (Nat.le_refl _) (.cells #[.bool false] 4);generalize w1.alloc (.cells #[.bool false] 4) = w2 at *;replace HT := ι (HT.out.below hb);replace C1 := ι (C1.out.below hb);replace K := ι (Rg.acc K.out hb);clear hb;rw [hs1] at hnw2 ⊢
 have hs2b : w2.heap.size = w.heap.size + 2 := by omega
 clear hs2;have hs2 := hs2b;clear hs2b;have C2 := ι hnw2;clear hnw2;clear hnw1;obtain ⟨cA, hlc, hcs, hcc⟩ := run_loadTable HT.out.row;obtain ⟨hst, hrw⟩ := run_storeTable (w := w2) hcs hcc HT.out.one
 have hs3 : (w2.alloc (.cells cA 150)).heap.size = w.heap.size + 3 := by simp; omega
 have hbA : Below w2.heap.size w2 (w2.alloc (.cells cA 150)) := (Below.refl w2.heap.size w2).alloc (Nat.le_refl _) _;go_upto_region 1 with (fail);refine wp_region_list ?_;refine Rg.lr 6 (Rg.exec_load (v := .pointer (some ⟨tb, 0, none⟩)) _ _ rfl ⟨w.heap.size, 0, none⟩ rfl (Rg.run_loadPtr _ _ Try.underlying146 C1.out.c)) ?_;go_frame;refine Rg.lr 7 (exec_nil _ rfl rfl) ?_;go_frame;refine Rg.lr 8 (Rg.exec_load (v := .agg cA) _ _ rfl ⟨tb, 0, none⟩ rfl hlc) ?_;go_frame;refine Rg.lr 3 (exec_allocTb rfl) ?_;go_frame;refine Rg.list_skip none rfl rfl (Rg.exec_store _ _ _ rfl _ rfl _ rfl hst) ?_;go_frame;have hHA : PtAt F0 w2.heap.size n m (w2.alloc (.cells cA 150)) tr V := ⟨fun k hk => by have := HFL.out k hk; omega, fun hk => by have := HFL.out _ hk; omega, hrw, fun i p u hi hp e => (HT.out.below hbA).some_ i p u hi hp e, HT.out.one⟩;generalize w2.alloc (.cells cA 150) = w3 at *;rw [hs2] at hHA ⊢
 replace HT := ι (HT.out.below hbA);replace C1 := ι (C1.out.below hbA);replace C2 := ι (C2.out.below hbA);replace K := ι (Rg.acc K.out hbA);have HA := ι hHA;clear hHA hbA hst hrw hlc hcs hcc hs1 hs2;go_upto_region 2 with (fail);refine wp_region_list ?_;refine Rg.lr 9 (Rg.exec_load (v := .pointer (some ⟨tb, 0, none⟩)) _ _ rfl ⟨w.heap.size, 0, none⟩ rfl (Rg.run_loadPtr _ _ Try.underlying146 C1.out.c)) ?_;go_frame;refine list_ask (some 10) rfl rfl _ _ (exec_fn1 167 _ _ rfl rfl (Yecl0 _ _)) ?_;refine (pents_any _ w3).mono ?_;rintro e1 w4 ⟨fb, rfl, hfb, hb⟩;have hsz := hb.size;refine ⟨_, rfl, ?_⟩;go_frame;replace HT := ι (HT.out.below hb);replace C1 := ι (C1.out.below hb);replace C2 := ι (C2.out.below hb);replace HA := ι (HA.out.below hb);replace K := ι (Rg.acc K.out hb);clear hb;have FB := ι hfb;clear hfb;have HS0 := ι (show w.heap.size + 3 ≤ w4.heap.size by omega);clear hs3 hsz;go_wp2;obtain ⟨W0, hW0⟩ : ∃ W0, w4 = W0 := ⟨_, rfl⟩
 rw [hW0] at HT C1 C2 HA K FB HS0 ⊢;clear hW0;have hFBlt := FB.out.lt
 refine wpIn_wide.1 (wpIn_rangeFunc_ownH (F := Fence.wide) (n := 6) rfl (by decide) (gf := 195) (lb := #[.pointer (some ⟨fb, 0, none⟩)]) rfl trivial (enters_of Try.func195 (by kernel_rfl) rfl)
  (ents_stops hn2 (Nat.le_refl _) FB.out FB.out.lt HT.out.lt HT.out.row 5 (by decide)) belowK_t (belowK_b (Nat.le_refl _)) (Below.refl _ _) (fun _ => rfl)
  (fun pre W => (∀ q ∈ pre, ∀ r : EntIx n tr, (Cm.sfP n (Cm.idT n tr) n (Ma.mulN (entV tr q) (entV tr r))).1 = n) ∧ Below W0.heap.size W0 W)
  (fun c pre W => ((c = .ret ∧ ¬ PClosed n tr) ∧ CW W (w.heap.size + 1) (.bool false)) ∧ Below w.heap.size w W)
  ?hI ?hIx ⟨fun q hq => by simp at hq, Below.refl _ _⟩
  (fun x a' W => ∃ Bx, W0.heap.size ≤ Bx ∧ Boxed W Bx 39 (V x.1.1 x.1.2) ∧ a' = { tmps := #[(.pointer (some ⟨tb, 0, none⟩)), (.pointer (some ⟨w.heap.size, 0, none⟩)), (.pointer (some ⟨(w.heap.size + 1), 0, none⟩)), (.pointer (some ⟨(w.heap.size + 2), 0, none⟩)), .pointer (some ⟨Bx, 0, none⟩), undef, (.pointer (some ⟨tb, 0, none⟩)), (.pointer (some ⟨tb, 0, none⟩)), .agg cA, (.pointer (some ⟨tb, 0, none⟩)), (.func (.func 195) #[] #[.pointer (some ⟨fb, 0, none⟩)]), V x.1.1 x.1.2, undef, undef, undef, undef, undef, undef, undef, undef, undef, undef, undef, undef, undef, undef, undef, undef, undef, undef, undef, undef, undef], defers := [] })
  (fun x a' _ X Y row hs hg hr => by obtain ⟨Bx, e1, e2, e3⟩ := hs; exact ⟨Bx, e1, boxed_own Bx 39 (fun (_ : Unit) => V x.1.1 x.1.2) () X Y row e2 hg (fun r e => (hr r e).2), e3⟩)
  ?assign ?body ?done ?stop)
 case hI => exact OwnFrom.and (ownFrom_pure _ _) (ownFrom_below (Nat.le_refl _) (Nat.le_refl _))
 case hIx =>
  intro c;refine OwnFrom.and (OwnFrom.and (ownFrom_pure _ _) ?_) (ownFrom_below (Nat.le_refl _) (by have := HS0.out; omega));rintro pre X Y row hs hg hr;exact hs.kp (Rg.Kp.of_grown hg (M := fun k => row = some k) fun _ e => e) (fun e => by have := (hr _ e).1; have := HS0.out; omega)
 case assign =>
  rintro l pre x W Kq ⟨hp, hB1⟩ hKq;obtain ⟨vb, vo, vc, hv⟩ := (HT.out.ent hn2 x).shape' (entV_gd HR.out x) hn1;rw [hv] at hKq ⊢
  gi_wp2
  exact hKq _ _ ((KeepsOthers.alloc _ _).from _) ((Below.refl _ W).alloc hB1.size _) ⟨hp, hB1.alloc hB1.size _⟩ ⟨W.heap.size, hB1.size, Boxed.new W _ _, rfl⟩
 case body =>
  rintro l pre x a' W hl ⟨rl, hrl⟩ ⟨hp, hB1⟩ ⟨Bx, hBx, bX, rfl⟩ hlt;have KO := K;replace HT := ι (HT.out.below hB1);replace HA := ι (HA.out.below hB1);replace C1 := ι (C1.out.below hB1);replace C2 := ι (C2.out.below hB1);have HLL := ι hrl;have HBW := ι hB1;have HP := ι hp;have CX := ι (CW.boxed bX);have KW := ι (Below.refl W.heap.size W);have HT9 := HT;have HA9 := HA;have C19 := C1;have C29 := C2;have CX9 := CX;clear K FB hB1 hp bX hrl hlt
  gi_upto_region 4 with (fail)
  refine wpIn_region_list ?_;refine Rg.in_run (some 12) rfl rfl (fun _ hh => by cases hh) (Rg.exec_load (v := .pointer (some ⟨tb, 0, none⟩)) _ _ rfl ⟨w.heap.size, 0, none⟩ rfl (Rg.run_loadPtr _ _ Try.underlying146 C1.out.c)) ?_;go_frame;refine Rg.in_ask (some 13) rfl rfl (fun _ hh => by cases hh) _ _ (exec_fn1 167 _ _ rfl rfl (Yecl0 _ _)) ?_;refine (pents_any _ W).mono ?_;rintro e1 w21 ⟨fb2, rfl, hfb2, hb⟩;refine ⟨_, rfl, ?_⟩;go_frame;replace HT := ι (HT.out.below hb);replace HA := ι (HA.out.below hb);replace C1 := ι (C1.out.below hb);replace C2 := ι (C2.out.below hb);replace CX := ι (CX.out.below hb);replace KW := ι (Rg.acc KW.out hb);clear hb;have FB2 := ι hfb2;clear hfb2;have hW1 := KW.out.size;have hrl2 : w21.heap[l]? = some (.loop rl) := (KW.out.block l (Array.getElem?_eq_some_iff.1 HLL.out).1).trans HLL.out
  gi_wp2
  obtain ⟨W1, hW1e⟩ : ∃ W1, w21 = W1 := ⟨_, rfl⟩;rw [hW1e] at HT C1 C2 HA KW FB2 CX hW1 hrl2 ⊢;clear hW1e
  refine wpIn_rangeFunc_ownN (l₀ := l) (r₀ := rl) rfl hrl2 (by decide) (gf := 195) (lb := #[.pointer (some ⟨fb2, 0, none⟩)]) rfl trivial (enters_of Try.func195 (by kernel_rfl) rfl)
   ((ents_stops hn2 (Nat.le_refl _) FB2.out FB2.out.lt HT.out.lt HT.out.row 3 (by decide)).inRound l) belowK_t (belowK_b (Nat.le_refl _)) (Below.refl _ _) (fun _ => rfl)
   (fun pre' W' => (∀ r ∈ pre', (Cm.sfP n (Cm.idT n tr) n (Ma.mulN (entV tr x) (entV tr r))).1 = n) ∧ Below W1.heap.size W1 W')
   (fun c pre' W' => ((c = .ret ∧ ¬ PClosed n tr) ∧ CW W' (w.heap.size + 1) (.bool false)) ∧ (Below w.heap.size W W' ∧ KeepsFrom W0.heap.size W W'))
   ?hI2 ?hIx2 ⟨fun q hq => by simp at hq, Below.refl _ _⟩
   (fun y a'' _ => a'' = { tmps := #[(.pointer (some ⟨tb, 0, none⟩)), (.pointer (some ⟨w.heap.size, 0, none⟩)), (.pointer (some ⟨(w.heap.size + 1), 0, none⟩)), (.pointer (some ⟨(w.heap.size + 2), 0, none⟩)), .pointer (some ⟨Bx, 0, none⟩), V y.1.1 y.1.2, (.pointer (some ⟨tb, 0, none⟩)), (.pointer (some ⟨tb, 0, none⟩)), .agg cA, (.pointer (some ⟨tb, 0, none⟩)), (.func (.func 195) #[] #[.pointer (some ⟨fb, 0, none⟩)]), V x.1.1 x.1.2, (.pointer (some ⟨tb, 0, none⟩)), (.func (.func 195) #[] #[.pointer (some ⟨fb2, 0, none⟩)]), V y.1.1 y.1.2, undef, undef, undef, undef, undef, undef, undef, undef, undef, undef, undef, undef, undef, undef, undef, undef, undef, undef], defers := [] })
   (fun _ _ _ _ _ _ hs _ _ => hs) ?assign2 ?body2 ?done2 ?stop2
  case hI2 => exact OwnFrom.and (ownFrom_pure _ _) (ownFrom_below (Nat.le_refl _) (Nat.le_refl _))
  case hIx2 =>
   intro c;refine OwnFrom.and (OwnFrom.and (ownFrom_pure _ _) ?_) (OwnFrom.and (ownFrom_below (by have := HBW.out.size; have := HS0.out; omega) (by have := HBW.out.size; have := HS0.out; omega)) (ownFrom_keepsFrom hW1));rintro pre X Y row hs hg hr;exact hs.kp (Rg.Kp.of_grown hg (M := fun k => row = some k) fun _ e => e) (fun e => by have := (hr _ e).1; have := HS0.out; have := HBW.out.size; omega)
  case assign2 =>
   rintro l2 pre' y W' Kq hi hKq
   gi_wp2
   exact hKq _ _ (KeepsFrom.refl _ _) (Below.refl _ _) hi rfl
  case done2 =>
   rintro ys W' hys ⟨hq, hBV⟩;have hBW := KW.out.trans (hBV.mono hW1)
   gi_wp2
   exact ⟨kf_below hBW, hBW.mono HBW.out.size, fun q hq2 r => (by
    rcases List.mem_append.1 hq2 with h | h
    ·exact HP.out q h r
    ·rw [List.mem_singleton] at h; rw [h]; exact hq r (hys r)), HBW.out.trans (hBW.mono HBW.out.size)⟩
  case stop2 =>
   rintro c pre' W' _ ⟨⟨⟨rfl, hnc⟩, hc2⟩, hBW, hKF⟩
   gi_wp2
   exact ⟨hKF, ⟨⟨rfl, hnc⟩, hc2⟩, (KO.out.trans (HBW.out.mono KO.out.size)).trans hBW⟩
  case body2 =>
   rintro l2 pre' y a'' W' _ _ ⟨hq, hBV⟩ rfl _;have hBW := KW.out.trans (hBV.mono hW1);have hW2 := hBW.size;have hV2 := hBV.size;have HBV := ι hBV;have HQ := ι hq;have HBW2 := ι hBW;clear HT HA C1 C2 CX;have HT := ι (HT9.out.below hBW);have HA := ι (HA9.out.below hBW);have C1 := ι (C19.out.below hBW);have C2 := ι (C29.out.below hBW);have CX := ι (CX9.out.below hBW);clear HT9 HA9 C19 C29 CX9;have FX := ι (HT.out.ent hn2 x);have FY := ι (HT.out.ent hn2 y);have GX := ι (entV_gd HR.out x);have GY := ι (entV_gd HR.out y);have KR := ι (Below.refl W'.heap.size W');have CM := ι (CL.mk HT.out.c1 HT.out.lt);have CN := ι (CL.mk HA.out.c1 HA.out.lt)
   have hsz1 : w.heap.size + 3 ≤ W.heap.size := by have := HBW.out.size; have := HS0.out; omega
   clear hq hBW hrl2 FB2 KW;show Code.wpIn (Fence.wide.inRound l2) _ _ _ _ _ _
   by_cases hA : (Cm.sfP n (Cm.idT n tr) n (Ma.mulN (entV tr x) (entV tr y))).1 < n
   case neg =>
    skip
    gi_upto_region 6 with (fail)
    refine wpIn_region_list ?_;refine Rg.in_run (some 15) rfl rfl (fun _ hh => by cases hh) (Rg.exec_load (v := (V x.1.1 x.1.2)) _ _ rfl ⟨Bx, 0, none⟩ rfl (Rg.run_loadSl _ _ Try.underlying39 CX.out.c)) ?_;go_frame;refine Rg.in_run (some 16) rfl rfl (fun _ hh => by cases hh) (Rg.xm ((V y.1.1 y.1.2)) _ rfl rfl) ?_;go_frame;refine Rg.in_ask (some 17) rfl rfl (fun _ hh => by cases hh) _ _ (exec_fn 123 _ _ _ rfl rfl rfl (Vmcl0 _ _)) ?_;refine (chMul_f FX.out FY.out GX.out GY.out hn1 hn2).mono ?_;rintro e1 w61 ⟨mv, rfl, hmv, hb⟩;have hHA2 := HA.out.up hb;refine ⟨_, rfl, ?_⟩;go_frame;replace HT := ι (HT.out.below hb);replace HA := ι (HA.out.below hb);replace C1 := ι (C1.out.below hb);replace C2 := ι (C2.out.below hb);replace CX := ι (CX.out.below hb);replace CM := ι (CM.out.below hb);replace CN := ι (CN.out.below hb);replace FX := ι (FX.out.below hb);replace FY := ι (FY.out.below hb);replace KR := ι (Rg.acc KR.out hb)
    clear hb;have MV := ι hmv;have HA2 := ι hHA2;refine Rg.in_ask (some 18) rfl rfl (fun _ hh => by cases hh) _ _ (exec_fn 120 _ _ _ rfl rfl rfl (Yecl2 _ _)) ?_;refine (pins_no hn1 hn2 hm hHA2 HR.out hmv (Cm.gd_mul GX.out GY.out) hA).mono ?_;rintro e1 w62 ⟨rfl, hb⟩;refine ⟨_, rfl, ?_⟩;go_frame;replace HT := ι (HT.out.below hb);replace HA := ι (HA.out.below hb);replace C1 := ι (C1.out.below hb);replace C2 := ι (C2.out.below hb);replace CX := ι (CX.out.below hb);replace CM := ι (CM.out.below hb);replace CN := ι (CN.out.below hb);replace FX := ι (FX.out.below hb);replace FY := ι (FY.out.below hb);replace MV := ι (MV.out.below hb);replace HA2 := ι (HA2.out.below hb);replace KR := ι (Rg.acc KR.out hb);clear hb;clear hmv hHA2;clear MV;clear HA2
    gi_upto_region 7 with (fail)
    have hV0 : Below w62.heap.size w62 w62.drew := (Below.refl _ _).drew;replace HT := ι (HT.out.below hV0);replace HA := ι (HA.out.below hV0);replace C1 := ι (C1.out.below hV0);replace C2 := ι (C2.out.below hV0);replace CX := ι (CX.out.below hV0);replace CM := ι (CM.out.below hV0);replace CN := ι (CN.out.below hV0);replace FX := ι (FX.out.below hV0);replace FY := ι (FY.out.below hV0);replace KR := ι (Rg.acc KR.out hV0);clear hV0;refine Rg.Any.beginIn (hnd := by kernel_rfl) (S := Rg.Both 6 (fun _ => True) (fun W => Below w62.drew.heap.size w62.drew W)) mix ?_;generalize w62.drew = w63 at *;have hS : ∀ (l : Array Bool) W, Below w63.heap.size w63 W → Rg.Both 6 (fun _ => True) (fun W => Below w63.heap.size w63 W) l W := fun l W h => ⟨.inr trivial, h⟩;have hI : Below w63.heap.size w63 w63 := Below.refl _ _;refine Rg.tg 0 6 (.pointer (some ⟨(w.heap.size + 2), 1, none⟩)) 19 rfl rfl (.inl ⟨rfl, fun w _ => exec_field _ rfl rfl (tbF1 _ _)⟩) (hS _ _ hI) ?_;go_frame
    refine Rg.tg 1 6 (.int .i64 ((m : Nat) : Int)) 20 rfl rfl (Rg.yields_cell _ _ rfl rfl ⟨(w.heap.size + 2), 1, none⟩ rfl (fun W hW => run_loadInt ((Below.cell (p := ⟨(w.heap.size + 2), 1, none⟩) hW CN.out.lt).trans CN.out.cell))) (hS _ _ hI) ?_;go_frame;refine Rg.tg 2 6 (.pointer (some ⟨tb, 0, none⟩)) 21 rfl rfl (Rg.yields_cell _ _ rfl rfl ⟨w.heap.size, 0, none⟩ rfl (fun W hW => Rg.run_loadPtr _ _ Try.underlying146 ((Below.cell (p := ⟨w.heap.size, 0, none⟩) hW C1.out.lt).trans C1.out.c))) (hS _ _ hI) ?_;go_frame;refine Rg.tg 3 6 (.pointer (some ⟨tb, 0, none⟩)) 22 rfl rfl (.inl ⟨rfl, fun w _ => exec_nil _ rfl rfl⟩) (hS _ _ hI) ?_;go_frame;refine Rg.tg 4 6 (.pointer (some ⟨tb, 1, none⟩)) 23 rfl rfl (.inl ⟨rfl, fun w _ => exec_field _ rfl rfl (tbF1 _ _)⟩) (hS _ _ hI) ?_;go_frame;refine Rg.tg 5 6 (.int .i64 ((m : Nat) : Int)) 24 rfl rfl (Rg.yields_cell _ _ rfl rfl ⟨tb, 1, none⟩ rfl (fun W hW => run_loadInt ((Below.cell (p := ⟨tb, 1, none⟩) hW CM.out.lt).trans CM.out.cell))) (hS _ _ hI) ?_;go_frame
    refine Rg.Any.one (i := 6) (by kernel_rfl) (Rg.Any.run (some 25) rfl rfl rfl (exec_bin (R := .bool false) .gtr _ _ _ rfl rfl rfl (b_gtr _ (decide_eq_false (by omega)))) (hS _ _ hI) ?_);go_frame;refine Rg.Any.done (by kernel_rfl) ?_ _;refine Rg.onlyN_i ?_;clear hS hI
    have HEQ := ι (show (Cm.sfP n (Cm.idT n tr) n (Ma.mulN (entV tr x) (entV tr y))).1 = n from by
     have := (Cm.sfP_all HR.out (Nat.le_refl n) (Nat.zero_le _) (Cm.gd_mul GX.out GY.out) (by rw [Nat.sub_self]; exact fun j h => absurd h (Nat.not_lt_zero _))).1
     omega)
    gi_wp2
    exact ⟨kf_below KR.out, KR.out.mono hV2, fun r hr2 => (by
     rcases List.mem_append.1 hr2 with h | h
     ·exact HQ.out r h
     ·rw [List.mem_singleton] at h; rw [h]; exact HEQ.out), HBV.out.trans (KR.out.mono hV2)⟩
   case pos =>
    skip
    gi_upto_region 6 with (fail)
    refine wpIn_region_list ?_;refine Rg.in_run (some 15) rfl rfl (fun _ hh => by cases hh) (Rg.exec_load (v := (V x.1.1 x.1.2)) _ _ rfl ⟨Bx, 0, none⟩ rfl (Rg.run_loadSl _ _ Try.underlying39 CX.out.c)) ?_;go_frame;refine Rg.in_run (some 16) rfl rfl (fun _ hh => by cases hh) (Rg.xm ((V y.1.1 y.1.2)) _ rfl rfl) ?_;go_frame;refine Rg.in_ask (some 17) rfl rfl (fun _ hh => by cases hh) _ _ (exec_fn 123 _ _ _ rfl rfl rfl (Vmcl0 _ _)) ?_;refine (chMul_f FX.out FY.out GX.out GY.out hn1 hn2).mono ?_;rintro e1 w61 ⟨mv, rfl, hmv, hb⟩;have hHA2 := HA.out.up hb;refine ⟨_, rfl, ?_⟩;go_frame;replace HT := ι (HT.out.below hb);replace HA := ι (HA.out.below hb);replace C1 := ι (C1.out.below hb);replace C2 := ι (C2.out.below hb);replace CX := ι (CX.out.below hb);replace CM := ι (CM.out.below hb);replace CN := ι (CN.out.below hb);replace FX := ι (FX.out.below hb);replace FY := ι (FY.out.below hb);replace KR := ι (Rg.acc KR.out hb)
    clear hb;have MV := ι hmv;have HA2 := ι hHA2;refine Rg.in_ask (some 18) rfl rfl (fun _ hh => by cases hh) _ _ (exec_fn 120 _ _ _ rfl rfl rfl (Yecl2 _ _)) ?_;refine (pins_yes hn1 hn2 hm hHA2 HR.out hmv (Cm.gd_mul GX.out GY.out) hA).mono ?_;rintro e1 w70 ⟨rfl, hcn, hkp⟩;refine ⟨_, rfl, ?_⟩;go_frame;replace CM := ι (CM.out.kp hkp (fun e => by have := HTB.out; omega));replace C1 := ι (C1.out.kp hkp (fun e => by omega));replace C2 := ι (C2.out.kp hkp (fun e => by omega));have CN := ι hcn;have hw61 := KR.out.size;have KBB := ι (show Below w.heap.size W' w70 from (KR.out.mono (by omega)).trans (bel_kp hkp (by omega) (by omega)));have KFF := ι (show KeepsFrom W0.heap.size W' w70 from (kf_below KR.out).trans (kf_kp hkp (by have := HS0.out; omega)));have KFG := ι (show KeepsFrom W1.heap.size W' w70 from (kf_below KR.out).trans (kf_kp hkp (by omega)));have KX := ι (Below.refl w70.heap.size w70)
    have HNC := ι (show ¬ PClosed n tr from fun h => by have := h x y; omega);have h70 := hkp.size;clear hkp hcn hmv hHA2 HT HA CX FX FY MV HA2 KR
    gi_upto_region 7 with (fail)
    have hV0 : Below w70.heap.size w70 w70.drew := (Below.refl _ _).drew;replace CM := ι (CM.out.below hV0);replace C1 := ι (C1.out.below hV0);replace C2 := ι (C2.out.below hV0);replace CN := ι (CN.out.below hV0);replace KX := ι (Rg.acc KX.out hV0);clear hV0;refine Rg.Any.beginIn (hnd := by kernel_rfl) (S := Rg.Both 6 (fun _ => True) (fun W => Below w70.drew.heap.size w70.drew W)) mix ?_;generalize w70.drew = w71 at *;have hS : ∀ (l : Array Bool) W, Below w71.heap.size w71 W → Rg.Both 6 (fun _ => True) (fun W => Below w71.heap.size w71 W) l W := fun l W h => ⟨.inr trivial, h⟩;have hI : Below w71.heap.size w71 w71 := Below.refl _ _;refine Rg.tg 0 6 (.pointer (some ⟨(w.heap.size + 2), 1, none⟩)) 19 rfl rfl (.inl ⟨rfl, fun w _ => exec_field _ rfl rfl (tbF1 _ _)⟩) (hS _ _ hI) ?_;go_frame;refine Rg.tg 1 6 (.int .i64 (((m + 1) : Nat) : Int)) 20 rfl rfl (Rg.yields_cell _ _ rfl rfl ⟨(w.heap.size + 2), 1, none⟩ rfl (fun W hW => run_loadInt ((Below.cell (p := ⟨(w.heap.size + 2), 1, none⟩) hW CN.out.lt).trans CN.out.cell))) (hS _ _ hI) ?_;go_frame
    refine Rg.tg 2 6 (.pointer (some ⟨tb, 0, none⟩)) 21 rfl rfl (Rg.yields_cell _ _ rfl rfl ⟨w.heap.size, 0, none⟩ rfl (fun W hW => Rg.run_loadPtr _ _ Try.underlying146 ((Below.cell (p := ⟨w.heap.size, 0, none⟩) hW C1.out.lt).trans C1.out.c))) (hS _ _ hI) ?_;go_frame;refine Rg.tg 3 6 (.pointer (some ⟨tb, 0, none⟩)) 22 rfl rfl (.inl ⟨rfl, fun w _ => exec_nil _ rfl rfl⟩) (hS _ _ hI) ?_;go_frame;refine Rg.tg 4 6 (.pointer (some ⟨tb, 1, none⟩)) 23 rfl rfl (.inl ⟨rfl, fun w _ => exec_field _ rfl rfl (tbF1 _ _)⟩) (hS _ _ hI) ?_;go_frame;refine Rg.tg 5 6 (.int .i64 ((m : Nat) : Int)) 24 rfl rfl (Rg.yields_cell _ _ rfl rfl ⟨tb, 1, none⟩ rfl (fun W hW => run_loadInt ((Below.cell (p := ⟨tb, 1, none⟩) hW CM.out.lt).trans CM.out.cell))) (hS _ _ hI) ?_;go_frame;refine Rg.Any.one (i := 6) (by kernel_rfl) (Rg.Any.run (some 25) rfl rfl rfl (exec_bin (R := .bool true) .gtr _ _ _ rfl rfl rfl (b_gtr _ (decide_eq_true (by omega)))) (hS _ _ hI) ?_)
    go_frame;refine Rg.Any.done (by kernel_rfl) ?_ _;refine Rg.onlyN_i ?_;clear hS hI
    gi_upto_region 8 with (fail)
    refine wpIn_region_list ?_;refine Rg.in_skip none rfl rfl (fun _ hh => by cases hh) (Rg.exec_store _ _ _ rfl _ rfl _ rfl (run_storeBool false C2.out.c C2.out.f)) ?_;go_frame;have y2 := C2.out.set (.bool false);have hk2 : Rg.Kp (fun z => z = w.heap.size + 1) w71 (w71.setCell ⟨w.heap.size + 1, 0, none⟩ (.bool false)) := Rg.Kp.of_setCell rfl;have h71 := KX.out.size;generalize w71.setCell ⟨w.heap.size + 1, 0, none⟩ (.bool false) = w99 at *;have HF1 := ι (show KeepsFrom W1.heap.size W' w99 from (KFG.out.trans (kf_below KX.out)).trans (kf_kp hk2 (by omega)));have HF2 := ι (show KeepsFrom W0.heap.size W w99 from ((kf_below HBW2.out).trans (KFF.out.trans (kf_below KX.out))).trans (kf_kp hk2 (by have := HS0.out; omega)));have HF3 := ι (show Below w.heap.size W w99 from ((HBW2.out.mono (by omega)).trans (KBB.out.trans (KX.out.mono (by omega)))).trans (bel_kp hk2 (by omega) (by omega)));have HF4 := ι y2
    clear y2 hk2
    gi_wp2
    exact ⟨HF1.out, ⟨⟨rfl, HNC.out⟩, HF4.out⟩, HF3.out, HF2.out⟩
 case stop =>
  rintro D c pre W hD _ ⟨⟨⟨rfl, hnc⟩, hc2⟩, hBW⟩ hd;refine wpIn_wide.2 ?_;go_wp2;exact tb_leave (ds := [D]) hBW hc2 ⟨fun h => (by cases h), fun h => absurd h hnc⟩ (by simp) (fun D' hD' => by simp at hD'; subst hD'; exact ⟨hd, by have := HS0.out; omega⟩) rfl
 case done =>
  rintro D ys Wd hD hys ⟨hq, hBW⟩ hd;replace HT := ι (HT.out.below hBW);replace HA := ι (HA.out.below hBW);replace C1 := ι (C1.out.below hBW);replace C2 := ι (C2.out.below hBW);replace K := ι (K.out.trans (hBW.mono K.out.size));have DF := ι (show RF.Dfr D Wd from hd);have HD := ι (show w.heap.size ≤ D by have := HS0.out; omega);have HPC := ι (show PClosed n tr from fun q r => hq q (hys q) r);clear hq hys hBW hd FB;go_upto_region 9 with (fail);refine Rg.wp_onlyN ?_;have hV0 : Below Wd.heap.size Wd Wd.drew := (Below.refl _ _).drew;replace HT := ι (HT.out.below hV0);replace HA := ι (HA.out.below hV0);replace C1 := ι (C1.out.below hV0);replace C2 := ι (C2.out.below hV0);replace DF := ι (DF.out.below hV0);replace K := ι (Rg.acc K.out hV0);clear hV0;refine Rg.Any.begin (S := Rg.Both 7 (fun W => Below Wd.drew.heap.size Wd.drew W) (fun W => Below w.heap.size w W)) mix ?_;generalize Wd.drew = w81 at *
  have hS : ∀ (l : Array Bool) W, Below w81.heap.size w81 W → Below w.heap.size w W → Rg.Both 7 (fun W => Below w81.heap.size w81 W) (fun W => Below w.heap.size w W) l W := fun l W h h2 => ⟨.inr h, h2⟩;have hS2 : ∀ (l : Array Bool) W, l.getD 7 false = true → Below w.heap.size w W → Rg.Both 7 (fun W => Below w81.heap.size w81 W) (fun W => Below w.heap.size w W) l W := fun l W h h2 => ⟨.inl h, h2⟩;have hI := K.out;refine Rg.tg 0 7 (.pointer (some ⟨(w.heap.size + 2), 4098, none⟩)) 26 rfl rfl (.inl ⟨rfl, fun w _ => exec_field _ rfl rfl (tbF3 _ _)⟩) (hS _ _ (Below.refl _ _) hI) ?_;go_frame;refine Rg.Any.takeT (i := 1) (t := 7) (v := (.agg (setA tr))) (some 27) rfl rfl (by kernel_rfl) (by kernel_rfl) (by kernel_rfl) (fun _ _ _ h => h) rfl (by kernel_rfl) rfl (Rg.yields_cell _ _ rfl rfl ⟨(w.heap.size + 2), 4098, none⟩ rfl (fun W hW => run_loadSet (HA.out.row.of_block (hW.block _ HA.out.lt)))) (hS _ _ (Below.refl _ _) hI) ?_;go_frame
  refine Rg.Any.takeT (i := 2) (t := 7) (v := .pointer (some ⟨tb, 0, none⟩)) (some 28) rfl rfl (by kernel_rfl) (by kernel_rfl) (by kernel_rfl) (fun _ _ _ h => h) rfl (by kernel_rfl) rfl (Rg.yields_cell _ _ rfl rfl ⟨w.heap.size, 0, none⟩ rfl (fun W hW => Rg.run_loadPtr _ _ Try.underlying146 ((Below.cell (p := ⟨w.heap.size, 0, none⟩) hW C1.out.lt).trans C1.out.c))) (hS _ _ (Below.refl _ _) hI) ?_;go_frame;refine Rg.tg 3 7 (.pointer (some ⟨tb, 0, none⟩)) 29 rfl rfl (.inl ⟨rfl, fun w _ => exec_nil _ rfl rfl⟩) (hS _ _ (Below.refl _ _) hI) ?_;go_frame;refine Rg.tg 4 7 (.pointer (some ⟨tb, 4098, none⟩)) 30 rfl rfl (.inl ⟨rfl, fun w _ => exec_field _ rfl rfl (tbF3 _ _)⟩) (hS _ _ (Below.refl _ _) hI) ?_;go_frame;refine Rg.Any.takeT (i := 5) (t := 7) (v := (.agg (setA tr))) (some 31) rfl rfl (by kernel_rfl) (by kernel_rfl) (by kernel_rfl) (fun _ _ _ h => h) rfl (by kernel_rfl) rfl (Rg.yields_cell _ _ rfl rfl ⟨tb, 4098, none⟩ rfl (fun W hW => run_loadSet (HT.out.row.of_block (hW.block _ HT.out.lt)))) (hS _ _ (Below.refl _ _) hI) ?_;go_frame
  refine Rg.tg 6 7 (.bool true) 32 rfl rfl (.inl ⟨rfl, fun w _ => exec_eqTb _ _ rfl rfl rfl (setA_size tr) (setA_at tr)⟩) (hS _ _ (Below.refl _ _) hI) ?_;go_frame;have hI2_g := (hI).setCell (p := ⟨w.heap.size + 1, 0, none⟩) (show w.heap.size ≤ w.heap.size + 1 by omega) (.bool true);refine Rg.Any.one (i := 7) (by kernel_rfl) (Rg.Any.runSkip none rfl rfl rfl (Rg.exec_store _ _ _ rfl _ rfl _ rfl (run_storeBool true C2.out.c C2.out.f)) (hS2 _ _ rfl hI2_g) ?_);go_frame;clear hI;refine Rg.Any.done (by kernel_rfl) ?_ _;refine Rg.onlyN_i ?_;replace K := ι hI2_g;clear hS2;clear hS hI2_g;have hk := K.out;have y2 := C2.out.set (.bool true);have hdd := RF.Dfr.setCell DF.out ⟨w.heap.size + 1, 0, none⟩ (.bool true);generalize w81.setCell ⟨w.heap.size + 1, 0, none⟩ (.bool true) = w99 at *;have KX := ι hk;have CX := ι y2;have DX := ι hdd;clear hk y2 hdd;go_wp2;exact tb_leave (ds := [D]) KX.out CX.out ⟨fun _ => HPC.out, fun _ => rfl⟩ (by simp) (fun D' hD' => by simp at hD'; subst hD'; exact ⟨DX.out, HD.out⟩) rfl
end Go.Proofs.Ytcfomoknlchemaa

namespace Go.Proofs.Ytcfomoknlchemaa
open Go.RowKit
open Go.Proofs
open Go.Proofs.Cm (Tr)
attribute [local irreducible] Go.Calls Go.wpList
def SS (n : Nat) (tr : Tr) (l : List (List Nat)) (a b : Nat) : Prop := (Cm.sfP n (Cm.idT n tr) n (Ma.mulN (l.getD a []) (l.getD b []))).1 = n
end Go.Proofs.Ytcfomoknlchemaa

namespace Go.Proofs.Ytcfomoknlchemaa
open Go.Proofs
open Go.Proofs.Cm (Tr TabOk Gr Gd Sd idT sfP)
def ins1 (n : Nat) (tr : Tr) (x : List Nat) : Tr := insT n tr (sfP n (idT n tr) n x)
structure TL (n : Nat) (gs : List Nat → Prop) (tr : Tr) (l : List (List Nat)) : Prop where
 ok : TabOk n gs tr
 sd : ∀ x ∈ l, Sd n (idT n tr) n x
theorem TL.nil (n : Nat) (gs : List Nat → Prop) : TL n gs (fun _ _ => none) [] := ⟨Cm.TabOk.nil0, fun x hx => by simp at hx⟩
theorem TL.ins {n : Nat} {gs : List Nat → Prop} (hg : ∀ s, gs s → Gd n s) {tr : Tr} {l : List (List Nat)} (h : TL n gs tr l) {x : List Nat} (hx : Gr n gs x) : TL n gs (ins1 n tr x) (l ++ [x]) := by
 obtain ⟨h1, h2, h3, _⟩ := tab_ins hg h.ok hx;refine ⟨h1, fun y hy => ?_⟩
 rcases List.mem_append.1 hy with hy | hy
 ·exact Sd.mono (fun i p u _ => h2 i p u) (h.sd y hy)
 ·rw [List.mem_singleton] at hy; subst hy; exact h3
def pickV (x n : Int) : Int := if x.tmod n < 0 then x.tmod n + n else x.tmod n
theorem pickV_range {x n : Int} (h0 : 0 < n) : 0 ≤ pickV x n ∧ pickV x n < n := by
 have h2 := Int.tmod_lt_of_pos x h0
 have h3 : -n < x.tmod n := by
  have := Int.lt_tmod_of_pos x h0;omega
 unfold pickV
 split <;> omega
theorem pickV_mod {x n : Int} (h0 : 0 < n) : (x.tmod n + n).tmod n = pickV x n := by
 have h2 := Int.tmod_lt_of_pos x h0
 have h3 : -n < x.tmod n := by
  have := Int.lt_tmod_of_pos x h0;omega
 unfold pickV
 by_cases h : x.tmod n < 0
 ·rw [if_pos h, Int.tmod_eq_of_lt (by omega) (by omega)]
 ·rw [if_neg h, Int.tmod_eq_emod_of_nonneg (by omega), Int.add_emod_right, Int.emod_eq_of_lt (by omega) (by omega)]
def stepR (n : Nat) (st : List (List Nat) × Tr) (a b : Int) : List (List Nat) × Tr :=
 (st.1.set (pickV a st.1.length).toNat (Ma.mulN (st.1.getD (pickV a st.1.length).toNat []) (st.1.getD (pickV b st.1.length).toNat [])),
  ins1 n st.2 (Ma.mulN (st.1.getD (pickV a st.1.length).toNat []) (st.1.getD (pickV b st.1.length).toNat [])))
def stR (n : Nat) (s0 : List (List Nat) × Tr) (nums : List Int) : Nat → List (List Nat) × Tr
 | 0 => s0
 | k + 1 => stepR n (stR n s0 nums k) (nums.getD (2 * k) 0) (nums.getD (2 * k + 1) 0)
theorem stR_len {n : Nat} {s0 : List (List Nat) × Tr} {nums : List Int} : ∀ k, (stR n s0 nums k).1.length = s0.1.length
 | 0 => rfl
 | k + 1 => by
  show ((stR n s0 nums k).1.set _ _).length = _;rw [List.length_set, stR_len k]
structure RI (n : Nat) (gs : List Nat → Prop) (st : List (List Nat) × Tr) : Prop where
 gr : ∀ x ∈ st.1, Gr n gs x
 tl : ∃ l, TL n gs st.2 l ∧ ∀ s, gs s → s ∈ l
theorem getD_mem {l : List (List Nat)} {i : Nat} (h : i < l.length) : l.getD i [] ∈ l := by rw [getD_li h]; exact List.getElem_mem h
theorem RI.step {n : Nat} {gs : List Nat → Prop} (hg : ∀ s, gs s → Gd n s) {st : List (List Nat) × Tr} (h : RI n gs st) (h0 : 0 < st.1.length) (a b : Int) : RI n gs (stepR n st a b) := by
 have ha := pickV_range (x := a) (n := st.1.length) (by omega);have hb := pickV_range (x := b) (n := st.1.length) (by omega);have hy : Gr n gs (Ma.mulN (st.1.getD (pickV a st.1.length).toNat []) (st.1.getD (pickV b st.1.length).toNat [])) := .mul _ _ (h.gr _ (getD_mem (by omega))) (h.gr _ (getD_mem (by omega)));refine ⟨fun x hx => ?_, ?_⟩
 ·rcases List.mem_or_eq_of_mem_set hx with h1 | h1
  ·exact h.gr x h1
  ·rw [h1]; exact hy
 ·obtain ⟨l, h1, h2⟩ := h.tl
  exact ⟨_, h1.ins hg hy, fun s hs => List.mem_append.2 (.inl (h2 s hs))⟩
theorem RI.all {n : Nat} {gs : List Nat → Prop} (hg : ∀ s, gs s → Gd n s) {s0 : List (List Nat) × Tr} (h : RI n gs s0) (h0 : 0 < s0.1.length) (nums : List Int) : ∀ k, RI n gs (stR n s0 nums k)
 | 0 => h
 | k + 1 => (RI.all hg h h0 nums k).step hg (by rw [stR_len]; exact h0) _ _
def tabL (n : Nat) (l : List (List Nat)) : Tr := l.foldl (ins1 n) (fun _ _ => none)
theorem TL.fold {n : Nat} {gs : List Nat → Prop} (hg : ∀ s, gs s → Gd n s) : ∀ (l pre : List (List Nat)) (tr : Tr), TL n gs tr pre → (∀ x ∈ l, Gr n gs x) → TL n gs (l.foldl (ins1 n) tr) (pre ++ l)
 | [], pre, tr, h, _ => by rw [List.append_nil]; exact h
 | x :: l, pre, tr, h, hx => by
  have := TL.fold hg l (pre ++ [x]) (ins1 n tr x) (h.ins hg (hx x (by simp))) fun y hy => hx y (by simp [hy]);rw [List.append_assoc] at this;exact this
theorem TL.tabL {n : Nat} {gs : List Nat → Prop} (hg : ∀ s, gs s → Gd n s) (l : List (List Nat)) (h : ∀ x ∈ l, Gr n gs x) : TL n gs (tabL n l) l := TL.fold hg l [] _ (TL.nil n gs) h
def startR (n : Nat) (gs : List (List Nat)) : List (List Nat) × Tr := (gs ++ gs.map Ma.invN, tabL n gs)
theorem RI.start {n : Nat} {gs : List (List Nat)} (hg : ∀ s ∈ gs, Gd n s) : RI n (· ∈ gs) (startR n gs) := by
 refine ⟨fun x hx => ?_, gs, TL.tabL hg gs fun x hx => .gen x hx, fun s hs => hs⟩
 rcases List.mem_append.1 hx with h | h
 ·exact .gen x h
 ·obtain ⟨y, hy, rfl⟩ := List.mem_map.1 h
  exact (Gr.isG hg).inv y (.gen y hy)
def stepsR (gs : List (List Nat)) (nums : List Int) : Nat := if gs = [] then 0 else nums.length / 2
def endR (n : Nat) (gs : List (List Nat)) (nums : List Int) : Tr := (stR n (startR n gs) nums (stepsR gs nums)).2
theorem endR_ok {n : Nat} {gs : List (List Nat)} (hg : ∀ s ∈ gs, Gd n s) (nums : List Int) : RI n (· ∈ gs) (stR n (startR n gs) nums (stepsR gs nums)) := by
 unfold stepsR
 by_cases h : gs = []
 ·rw [if_pos h]; exact RI.start hg
 ·rw [if_neg h]
  refine RI.all hg (RI.start hg) ?_ nums _;show 0 < (gs ++ gs.map Ma.invN).length;rw [List.length_append];have := List.length_pos_iff.2 h;omega
open Classical in
noncomputable def rndc (d : Int) (ll : List (List Int)) (nums : List Int) : Int :=
 if Ma.gchk d ll = 0 then (if 1000 < nums.length then 4 else if (∀ gs : List (List Nat), ll = gs.map Ma.ofN → PClosed d.toNat (endR d.toNat gs nums)) then 0 else 13) else Ma.gchk d ll
end Go.Proofs.Ytcfomoknlchemaa

namespace Go.Proofs.Ytcfomoknlchemaa
open Go.RowKit
open Go.Proofs
open Go.Proofs.Cm (Tr)
theorem RowG.push {F M : Nat → Prop} {W : World} {v : Value} {l : List (List Nat)} (h : RowG F M W v l) {u : Value} {x : List Nat} (hu : FP F W u x) (hs : ∃ a m c, u = .slice a m c) (hF : ∀ k, F k → k < W.heap.size) (hM : ∀ k, M k → k < W.heap.size) (hn : l.length < 1000000) (ty : TypeId) :
  ∃ a c X, (Builtin.append_ #[24, 24] ty #[v, .slice (some ⟨W.heap.size, 0, none⟩) 1 1]).run Try.prog (W.alloc (.cells #[u] 39)) = .ok (.slice a (l.length + 1) c) X ∧ RowG F M X (.slice a (l.length + 1) c) (l ++ [x]) ∧ Rg.Kp (fun k => v.ownBlock = some k) W X := by
 obtain ⟨B, us, h0, h1, h2⟩ := h.own;obtain ⟨a0, m0, c0, rfl⟩ := hs;have hb : Below W.heap.size W (W.alloc (.cells #[.slice a0 m0 c0] 39)) := (Below.refl _ _).alloc (Nat.le_refl _) _;obtain ⟨v', X, r1, r2, r3, r4, a, c, rfl⟩ := app_run (P := Try.prog) slPerms ty (Rg.row_below h1 hb) (Nat.le_trans h0 hb.size) W.heap.size 1 (u := .slice a0 m0 c0) (by rw [Rg.cellNew]; rfl) rfl hn;have hk : Rg.Kp (fun k => v.ownBlock = some k) W X := Rg.Kp.trans (M := fun k => v.ownBlock = some k) ((Rg.Kp.of_below hb).weak fun _ => False.elim) (Rg.Kp.of_grown r3 fun _ e => e) (fun _ _ e => e);have hg : ∀ k, F k → ¬ v.ownBlock = some k := fun k g e => (h.off k e).1 g;refine ⟨a, c, X, r1, ⟨⟨B, us ++ [.slice a0 m0 c0], Nat.le_trans h0 hk.size, by rw [List.length_append]; exact r2, by rw [List.map_append]; exact FElts.snoc (h2.kp hk hg) (Rg.FI.kp hu hk hg)⟩, fun k e => ?_⟩, hk⟩
 rcases r4 with r4 | r4
 ·exact h.off k (by rw [← r4]; exact e)
 ·rw [r4] at e
  injection e with e
  have e2 : (W.alloc (.cells #[.slice a0 m0 c0] 39)).heap.size = W.heap.size + 1 := by simp
  exact ⟨fun g => by have := hF _ g; omega, fun g => by have := hM _ g; omega⟩
theorem RowG.set {F M : Nat → Prop} {W : World} {g c : Nat} {l : List (List Nat)} (h : RowG F M W (.slice (some ⟨g, 0, none⟩) l.length c) l) (i : Nat) {u : Value} {x : List Nat} (hu : FP F W u x) :
  RowG F M (W.setCell ⟨g, i, none⟩ u) (.slice (some ⟨g, 0, none⟩) l.length c) (l.set i x) ∧ Rg.Kp (fun k => k = g) W (W.setCell ⟨g, i, none⟩ u) := by
 obtain ⟨B, us, h0, h1, h2⟩ := h.own;have hk : Rg.Kp (fun k => k = g) W (W.setCell ⟨g, i, none⟩ u) := Rg.Kp.of_setCell rfl;have hg : ∀ k, F k → ¬ k = g := fun k e e2 => (h.off g rfl).1 (e2 ▸ e);have h2' := h2.kp hk hg;refine ⟨⟨⟨B, us.set i u, Nat.le_trans h0 hk.size, ?_, ?_, fun j hj hj2 => ?_⟩, h.off⟩, hk⟩
 ·rw [List.length_set]; exact (h1.stored i u).1
 ·rw [List.length_set, List.length_map, List.length_set, ← List.length_map (f := Ma.ofN)]; exact h2.1
 ·have e1 : j < us.length := by rwa [List.length_set] at hj
  have e2 : j < l.length := by rwa [List.length_map, List.length_set] at hj2
  by_cases e : i = j
  ·subst e
   simp only [List.getElem_set_self, List.getElem_map];exact Rg.FI.kp hu hk hg
  ·simp only [List.getElem_set_ne e, List.getElem_map]
   have := h2'.2 j e1 (by rw [List.length_map]; exact e2)
   simpa using this
theorem RowG.frozen {F M : Nat → Prop} {W : World} {g n c : Nat} {l : List (List Nat)} (h : RowG F M W (.slice (some ⟨g, 0, none⟩) n c) l) (hn : n = l.length) (i : Nat) : W.frozen? ⟨g, i, none⟩ = false := by
 subst hn;obtain ⟨B, us, h0, h1, h2⟩ := h.own;exact h1.frozenAt i
end Go.Proofs.Ytcfomoknlchemaa

namespace Go.Proofs.Ytcfomoknlchemaa
open Go.RowKit
open Go.Proofs
attribute [local irreducible] Go.Calls Go.wpList
theorem Pick_any (x n : Int) (w : World) (h0 : 0 < n) (h1 : n ≤ 1000) : Calls Try.prog 49 #[.int .i64 x, .int .i64 n] w fun e w' => e = .returned (.int .i64 (pickV x n)) ∧ Below w.heap.size w w' := by
 have hn0 : ¬ n = 0 := by omega
 have h2 := Int.tmod_lt_of_pos x h0
 have h3 : -n < x.tmod n := by
  have := Int.lt_tmod_of_pos x h0;omega
 by_cases hlt : x.tmod n < 0
 ·rw [show pickV x n = x.tmod n + n from if_pos hlt]
  go_enter Try.func49, Try.ntmps49
  go_wp2;go_ret;exact ⟨rfl, Below.refl _ _⟩
 ·rw [show pickV x n = x.tmod n from if_neg hlt]
  go_enter Try.func49, Try.ntmps49
  go_wp2;go_ret;exact ⟨rfl, Below.refl _ _⟩
theorem chMod_any (x : Int) {m mb : Nat} {w : World} (h0 : 0 < m) (h1 : m ≤ 1000000) (hc : CW w mb (.int .i64 ((m : Nat) : Int))) : Calls Try.prog 122 #[.int .i64 x, .pointer (some ⟨mb, 0, none⟩)] w fun e w' => e = .returned (.int .i64 (pickV x m)) ∧ Below w.heap.size w w' := by
 have hn0 : (m : Int) ≠ 0 := by omega
 have hpos : (0 : Int) < m := by omega
 have h2 := Int.tmod_lt_of_pos x hpos
 have h3 : -(m : Int) < x.tmod m := by
  have := Int.lt_tmod_of_pos x hpos;omega
 obtain ⟨r, hr⟩ : ∃ r, Hid (x.tmod m = r) := ⟨_, ι rfl⟩;have hp := pickV_range (x := x) hpos;have hm := pickV_mod (x := x) hpos;obtain ⟨v, hv⟩ : ∃ v, Hid (pickV x m = v) := ⟨_, ι rfl⟩;rw [hv.out] at hp hm ⊢;rw [hr.out] at h2 h3 hm;have CM := ι hc;have HM := ι hm;have K := ι (Below.refl w.heap.size w);clear hc hm
 go_enter Try.func122, Try.ntmps122
 go_upto_region 0 with (fail);refine wp_region_list ?_;refine Rg.lr 3 (Rg.xa (.int .i64 ((0 : Nat) : Int)) _ rfl rfl) ?_;go_frame;go_upto_region 1 with (fail);have hV0 : Below w.heap.size w w.drew := (Below.refl _ _).drew;replace CM := ι (CM.out.below hV0);replace K := ι (Rg.acc K.out hV0);clear hV0;refine Rg.Any.begin (S := Rg.Both 7 (fun _ => True) (fun W => Below w.drew.heap.size w.drew W)) mix ?_;generalize w.drew = w1 at *;have hS : ∀ (l : Array Bool) W, Below w1.heap.size w1 W → Rg.Both 7 (fun _ => True) (fun W => Below w1.heap.size w1 W) l W := fun l W h => ⟨.inr trivial, h⟩;have hI : Below w1.heap.size w1 w1 := Below.refl _ _;refine Rg.tg 0 7 (.int .i64 x) 4 rfl rfl (.inl ⟨rfl, fun w _ => Rg.exec_move (v := .int .i64 x) _ rfl rfl⟩) (hS _ _ hI) ?_;go_frame;refine Rg.tg 1 7 (.int .i64 ((m : Nat) : Int)) 5 rfl rfl (Rg.yields_cell _ _ rfl rfl ⟨mb, 0, none⟩ rfl (fun W hW => run_loadInt ((Below.cell (p := ⟨mb, 0, none⟩) hW CM.out.lt).trans CM.out.c))) (hS _ _ hI) ?_;go_frame
 refine Rg.tg 2 7 (.int .i64 r) 6 rfl rfl (.inl ⟨rfl, fun w _ => exec_bin (R := .int .i64 r) .rem _ _ _ rfl rfl rfl (b_rem _ hn0 hr.out (by omega))⟩) (hS _ _ hI) ?_;go_frame;refine Rg.tg 3 7 (.int .i64 ((m : Nat) : Int)) 7 rfl rfl (Rg.yields_cell _ _ rfl rfl ⟨mb, 0, none⟩ rfl (fun W hW => run_loadInt ((Below.cell (p := ⟨mb, 0, none⟩) hW CM.out.lt).trans CM.out.c))) (hS _ _ hI) ?_;go_frame;refine Rg.tg 4 7 (.int .i64 (r + m)) 8 rfl rfl (.inl ⟨rfl, fun w _ => exec_bin (R := .int .i64 (r + m)) .add _ _ _ rfl rfl rfl (b_add _ rfl (by omega))⟩) (hS _ _ hI) ?_;go_frame;refine Rg.tg 5 7 (.int .i64 ((m : Nat) : Int)) 9 rfl rfl (Rg.yields_cell _ _ rfl rfl ⟨mb, 0, none⟩ rfl (fun W hW => run_loadInt ((Below.cell (p := ⟨mb, 0, none⟩) hW CM.out.lt).trans CM.out.c))) (hS _ _ hI) ?_;go_frame;refine Rg.tg 6 7 (.int .i64 v) 10 rfl rfl (.inl ⟨rfl, fun w _ => exec_bin (R := .int .i64 v) .rem _ _ _ rfl rfl rfl (b_rem _ hn0 HM.out (by omega))⟩) (hS _ _ hI) ?_;go_frame
 refine Rg.Any.one (i := 7) (by kernel_rfl) (Rg.Any.run (some 3) rfl rfl rfl (Rg.xa (.int .i64 v) _ rfl rfl) (hS _ _ hI) ?_);go_frame;refine Rg.Any.done (by kernel_rfl) ?_ _;clear hS hI;go_wp2;go_ret;exact ⟨rfl, K.out⟩
end Go.Proofs.Ytcfomoknlchemaa

namespace Go.Proofs.Ytcfomoknlchemaa
open Go.RowKit
open Go.Proofs
open Go.Proofs.Cm (Tr)
attribute [local irreducible] Go.Calls Go.wpList
theorem KI.weak {F F' M M' : Nat → Prop} {w w' : World} (h : KI F w F' w' M) (hM : ∀ z, M z → M' z) : KI F w F' w' M' := ⟨h.kg, h.kp.weak hM, h.new⟩
theorem KI.trans {F F' F'' M : Nat → Prop} {w w' w'' : World} (h : KI F w F' w' M) (h' : KI F' w' F'' w'' M) : KI F w F'' w'' M :=
 ⟨h.kg.trans h'.kg, Rg.Kp.trans (M := M) h.kp h'.kp (fun _ _ e => e), fun k hk => by
  rcases h'.new k hk with e | e
  ·exact h.new k e
  ·exact .inr (Nat.le_trans h.kp.size e)⟩
theorem ins_one {n : Nat} {gs : List Nat → Prop} (hg : ∀ s, gs s → Cm.Gd n s) {m : Nat} (hn1 : 1 ≤ n) (hn2 : n ≤ 64) (hm : m < 1000000000) {F0 : Nat → Prop} {tb : Nat} {w : World} {tr : Tr} {V : Nat → Nat → Value} (hT : PtAt F0 tb n m w tr V) {l : List (List Nat)} (hl : TL n gs tr l) {xv : Value} {x : List Nat} (hx : FP F0 w xv x) (gx : Cm.Gr n gs x) :
  Calls Try.prog 120 #[.pointer (some ⟨tb, 0, none⟩), xv] w fun e w' => ∃ F' V' m', e = .returned (.tuple #[]) ∧ KI F0 w F' w' (fun z => z = tb) ∧ PtAt F' tb n m' w' (ins1 n tr x) V' ∧ m' ≤ m + 1 ∧ TL n gs (ins1 n tr x) (l ++ [x]) := by
 refine (pinsert_any hn1 hn2 (by omega) hT hl.ok.rp hx ((Cm.Gr.isG hg).gd x gx)).mono ?_;rintro e w' ⟨F', V', rfl, h1, h2⟩;refine ⟨F', V', _, rfl, h1.weak fun z e => e.1, h2, ?_, hl.ins hg gx⟩
 split <;> omega
def DrPost (F0 : Nat → Prop) (w : World) (tb qb n m : Nat) (gs : List Nat → Prop) (tr : Tr) (pre l : List (List Nat)) (e : Ending) (w' : World) : Prop := ∃ F' V' m', e = .returned (.tuple #[]) ∧ KI F0 w F' w' (fun z => z = tb ∨ z = qb) ∧ PtAt F' tb n m' w' (l.foldl (ins1 n) tr) V' ∧ m' ≤ m + l.length ∧ CW w' qb (.slice none 0 0) ∧ TL n gs (l.foldl (ins1 n) tr) (pre ++ l)
theorem chDrain_any {n m : Nat} {gs : List Nat → Prop} (hg : ∀ s, gs s → Cm.Gd n s) (hn1 : 1 ≤ n) (hn2 : n ≤ 64) (hm : m < 1000000) {F0 : Nat → Prop} {tb pb qb : Nat} {w : World} {tr : Tr} {V : Nat → Nat → Value} (hT : PtAt F0 tb n m w tr V) {v : Value} {pre l : List (List Nat)} (hl : TL n gs tr pre) (hgr : ∀ x ∈ l, Cm.Gr n gs x)
  (hr : RowG F0 (fun z => z = tb) w v l) (hll : l.length ≤ 1000000) (hp : CW w pb (.pointer (some ⟨tb, 0, none⟩))) (hq : CW w qb v) (hpt : pb ≠ tb) (hqt : qb ≠ tb) (hqF : ¬ F0 qb) :
  Calls Try.prog 119 #[.pointer (some ⟨qb, 0, none⟩), .pointer (some ⟨pb, 0, none⟩)] w (DrPost F0 w tb qb n m gs tr pre l) := by
 obtain ⟨va, vc, rfl⟩ := hr.shape;have HT := ι hT;have RW := ι hr;have CP := ι hp;have CQ := ι hq;have HG := ι hg;have HGR := ι hgr;have HL0 := ι (show TL n gs tr (pre ++ l.take 0) by rw [List.take_zero, List.append_nil]; exact hl);have K := ι (KI.refl (M := fun z => z = tb) hT.Flt);have HQL := ι hq.lt;have HQF := ι hqF;clear hT hr hp hq hl hgr hg
 go_enter Try.func119, Try.ntmps119
 go_upto_region 0 with (fail);refine wp_region_list ?_;refine Rg.lr 4 (Rg.exec_load (v := .slice va l.length vc) _ _ rfl ⟨qb, 0, none⟩ rfl (Rg.run_loadSl _ _ Try.underlying24 CQ.out.c)) ?_;go_frame;refine Rg.lr 5 (exec_len _ _ _ rfl Try.underlying24 _ _ _ rfl) ?_;go_frame;refine Rg.lr 6 (Rg.xm (.int .i64 ((0 : Nat) : Int)) _ rfl rfl) ?_;go_frame;go_wp2
 go_loopw [6] (fun iv wr => ∃ (k : Nat) (F1 : Nat → Prop) (V : Nat → Nat → Value) (m' : Nat), iv = .int .i64 k ∧ k ≤ l.length ∧ m' ≤ m + k ∧ Hid (PtAt F1 tb n m' wr ((l.take k).foldl (ins1 n) tr) V) ∧ Hid (RowG F1 (fun z => z = tb) wr (.slice va l.length vc) l) ∧ Hid (CW wr pb (.pointer (some ⟨tb, 0, none⟩))) ∧ Hid (CW wr qb (.slice va l.length vc)) ∧ Hid (KI F0 w F1 wr (fun z => z = tb)) ∧ Hid (TL n gs ((l.take k).foldl (ins1 n) tr) (pre ++ l.take k))) (fun iv _ => l.length - (intOf iv).toNat)
 case atStart => exact ⟨0, F0, V, m, rfl, Nat.zero_le _, Nat.le_refl _, HT, RW, CP, CQ, K, HL0⟩
 case round =>
  clear HT RW CP CQ K HL0;obtain ⟨k, F, V, m', rfl, hk, hmk, HT, RW, CP, CQ, K, HL⟩ := hrel
  by_cases hkl : k < l.length
  ·have hkN : (k : Int) < (l.length : Int) := by omega
   have HKL := ι hkl;obtain ⟨g, c, ua, e1, e2, e3⟩ := RW.out.at hkl
   injection e1 with e1a e1b e1c
   subst e1a e1c;have CA := ι e2;have UA := ι e3;clear e2 e3;go_upto_region 1 with (fail);refine wp_region_list ?_;refine Rg.lr 7 (exec_bin (R := .bool true) .lss _ _ _ rfl rfl rfl (b_lss _ (decide_eq_true (by omega)))) ?_;go_frame;go_upto_region 2 with (fail);refine wp_region_list ?_;refine Rg.lr 8 (exec_indexS slPerms _ _ rfl g (0) (l.length) vc (k) rfl rfl HKL.out) ?_;go_frame;refine Rg.lr 9 (Rg.exec_load (v := ua) _ _ rfl ⟨g, 0 + k, none⟩ rfl (Rg.run_loadSl _ _ Try.underlying39 CA.out.cell)) ?_;go_frame;refine Rg.lr 3 (Rg.xa (ua) _ rfl rfl) ?_;go_frame;go_upto_region 3 with (fail);refine wp_region_list ?_;refine Rg.lr 10 (Rg.exec_load (v := .pointer (some ⟨tb, 0, none⟩)) _ _ rfl ⟨pb, 0, none⟩ rfl (Rg.run_loadPtr _ _ Try.underlying146 CP.out.c)) ?_;go_frame;refine Rg.lr 11 (Rg.xm (ua) _ rfl rfl) ?_;go_frame;refine list_ask (some 12) rfl rfl _ _ (exec_fn 120 _ _ _ rfl rfl rfl (Yecl2 _ _)) ?_
   refine (ins_one HG.out hn1 hn2 (by omega) HT.out HL.out UA.out (HGR.out _ (List.getElem_mem HKL.out))).mono ?_;rintro e1 w1 ⟨F9, V9, m9, rfl, hki, htab, hm9, htl⟩;have hrw2 := RW.out.ki hki;have hcp2 := CP.out.kp hki.kp hpt;have hcq2 := CQ.out.kp hki.kp hqt;refine ⟨_, rfl, ?_⟩;go_frame;clear HT;clear CA;clear UA;replace RW := ι hrw2;replace CP := ι hcp2;replace CQ := ι hcq2;replace K := ι (K.out.trans hki);have HT := ι htab;clear hki hrw2 hcp2 hcq2;clear htab
   have e5 : ins1 n ((l.take k).foldl (ins1 n) tr) (l[k]'HKL.out) = (l.take (k + 1)).foldl (ins1 n) tr := by
    rw [List.take_succ_eq_append_getElem HKL.out, List.foldl_append]; rfl
   have e6 : pre ++ l.take k ++ [l[k]'HKL.out] = pre ++ l.take (k + 1) := by rw [List.take_succ_eq_append_getElem HKL.out, List.append_assoc]
   rw [e5] at HT htl;rw [e6] at htl;have HL2 := ι htl;have HM9 := ι (show m9 ≤ m + (k + 1) by omega);clear e5 e6 htl hm9 hmk;go_wp2
   go_roundw
   case rel => exact ⟨k + 1, _, _, m9, by go_num, HKL.out, HM9.out, HT, RW, CP, CQ, K, HL2⟩
   case measure => simp [intOf]; have := HKL.out; omega
  ·obtain rfl : k = l.length := by omega
   have hkN : ¬ (l.length : Int) < (l.length : Int) := by omega
   rw [List.take_length] at HT HL;go_upto_region 1 with (fail);refine wp_region_list ?_;refine Rg.lr 7 (exec_bin (R := .bool false) .lss _ _ _ rfl rfl rfl (b_lss _ (decide_eq_false (by omega)))) ?_;go_frame;clear RW CP;go_upto_region 5 with (fail);refine wp_region_list ?_;refine Rg.list_skip none rfl rfl (Rg.exec_store _ _ _ rfl _ rfl _ rfl (Rg.run_storeSl _ infoPermsV CQ.out.c CQ.out.f)) ?_;go_frame;have hk2 : Rg.Kp (fun z => z = qb) wr (wr.setCell ⟨qb, 0, none⟩ (.slice none 0 0)) := Rg.Kp.of_setCell rfl
   have hFq : ∀ z, F z → ¬ z = qb := fun z hz e => by
    subst e
    rcases K.out.new _ hz with h | h
    ·exact HQF.out h
    ·have := HQL.out; omega
   have hpt2 := HT.out.kp hk2 hFq (fun e => hqt e.symm);have hcq2 := CQ.out.set (.slice none 0 0);have hki2 := (K.out.weak (M' := fun z => z = tb ∨ z = qb) fun z e => .inl e).put (Rg.Kp.weak hk2 fun z e hz => hFq z hz e) (Rg.Kp.weak hk2 fun z e => .inr e);generalize wr.setCell ⟨qb, 0, none⟩ (.slice none 0 0) = w99 at *;have H1 := ι hpt2;have H2 := ι hcq2;have H3 := ι hki2;clear hk2 hFq hpt2 hcq2 hki2;go_wp2
   first
   | go_end0
   | refine bodyPost_ret (results_none rfl _ _ _) rfl ?_
   exact ⟨_, _, _, rfl, H3.out, H1.out, hmk, H2.out, HL.out⟩
end Go.Proofs.Ytcfomoknlchemaa

namespace Go.Proofs.Ytcfomoknlchemaa
open Go.RowKit
open Go.Proofs
open Go.Proofs.Ob
open Go.Proofs.Cm (Tr TabOk)
attribute [local irreducible] Go.Calls Go.wpList
theorem rndc_bad {d : Int} {ll : List (List Int)} {nums : List Int} (h : Ma.gchk d ll ≠ 0) : rndc d ll nums = Ma.gchk d ll := by unfold rndc; rw [if_neg h]
theorem rndc_long {d : Int} {ll : List (List Int)} {nums : List Int} (h : Ma.gchk d ll = 0) (h2 : 1000 < nums.length) : rndc d ll nums = 4 := by unfold rndc; rw [if_pos h, if_pos h2]
theorem rndc_yes {n : Nat} {gs : List (List Nat)} {nums : List Int} (h : Ma.gchk n (gs.map Ma.ofN) = 0) (h2 : ¬ 1000 < nums.length) (hc : PClosed n (endR n gs nums)) : rndc n (gs.map Ma.ofN) nums = 0 := by
 unfold rndc;rw [if_pos h, if_neg h2, if_pos];intro gs' e;have : gs = gs' := map_ofN_inj e;subst this;exact hc
theorem rndc_no {n : Nat} {gs : List (List Nat)} {nums : List Int} (h : Ma.gchk n (gs.map Ma.ofN) = 0) (h2 : ¬ 1000 < nums.length) (hc : ¬ PClosed n (endR n gs nums)) : rndc n (gs.map Ma.ofN) nums = 13 := by
 unfold rndc;rw [if_pos h, if_neg h2, if_neg];intro h3;exact hc (h3 gs rfl)
theorem ok_of {d : Int} {ll : List (List Int)} (h : Ma.gchk d ll = 0) : ∃ (n : Nat) (gs : List (List Nat)), d = n ∧ ll = gs.map Ma.ofN ∧ (∀ s ∈ gs, Cm.Gd n s) ∧ 1 ≤ n ∧ n ≤ 64 ∧ gs.length = ll.length ∧ ll.length ≤ 16 := by
 by_cases h1 : 1 ≤ d ∧ d ≤ 64
 ·by_cases h2 : ll.length ≤ 16
  ·rw [Ma.gchk_in h1.1 h1.2 h2] at h
   obtain ⟨n, gs, a1, a2, a3, a4, a5, a6⟩ := mk_ok h1.1 h1.2 h;exact ⟨n, gs, a1, a2, a3, a4, a5, a6, h2⟩
  ·rw [Ma.gchk_long h1.1 h1.2 h2] at h; cases h
 ·rw [Ma.gchk_range h1] at h; cases h
def NF (F : Nat → Prop) (w : World) (v : Value) (l : List Int) : Prop := Rg.FI F w v l
theorem NF.kg {F F' : Nat → Prop} {w w' : World} {v : Value} {l : List Int} (h : NF F w v l) (hk : KG F w F' w') : NF F' w' v l := Rg.FI.mono (Rg.FI.kp h hk.kf (fun _ hF hn => hn hF)) hk.sub
theorem RowG.nil (F M : Nat → Prop) (W : World) : RowG F M W (.slice none 0 0) [] := ⟨⟨W.heap.size, [], Nat.le_refl _, World.ownsRow_nil _ _ _ _, Rg.FElts.nil _ _⟩, fun k e => by simp [Value.ownBlock] at e⟩
theorem RowG.kpo {F M N : Nat → Prop} {W W' : World} {v : Value} {l : List (List Nat)} (h : RowG F M W v l) (hk : Rg.Kp N W W') (hF : ∀ k, F k → ¬ N k) (hN : ∀ k, v.ownBlock = some k → ¬ N k) : RowG F M W' v l := by
 obtain ⟨B, us, h0, h1, h2⟩ := h.own;exact ⟨⟨B, us, Nat.le_trans h0 hk.size, rowKp h1 hk (fun k hn e => hN k e hn), h2.kp hk hF⟩, h.off⟩
theorem RowG.setL {F M : Nat → Prop} {W : World} {g m c : Nat} {l : List (List Nat)} (h : RowG F M W (.slice (some ⟨g, 0, none⟩) m c) l) (hm : m = l.length) (i : Nat) {u : Value} {x : List Nat} (hu : FP F W u x) :
  RowG F M (W.setCell ⟨g, i, none⟩ u) (.slice (some ⟨g, 0, none⟩) m c) (l.set i x) ∧ Rg.Kp (fun k => k = g) W (W.setCell ⟨g, i, none⟩ u) := by
 subst hm;exact h.set i hu
theorem stepR_eq {n : Nat} {st : List (List Nat) × Tr} {a b : Int} {i j L : Nat} (hL : st.1.length = L) (hi : pickV a ((L : Nat) : Int) = ((i : Nat) : Int)) (hj : pickV b ((L : Nat) : Int) = ((j : Nat) : Int)) (hiL : i < st.1.length) (hjL : j < st.1.length) :
  stepR n st a b = (st.1.set i (Ma.mulN st.1[i] st.1[j]), ins1 n st.2 (Ma.mulN st.1[i] st.1[j])) := by
 have e1 : (pickV a ((st.1.length : Nat) : Int)).toNat = i := by rw [hL, hi]; exact Int.toNat_natCast i
 have e2 : (pickV b ((st.1.length : Nat) : Int)).toNat = j := by rw [hL, hj]; exact Int.toNat_natCast j
 unfold stepR;rw [e1, e2, getD_li hiL, getD_li hjL]
theorem NF.at {F : Nat → Prop} {w : World} {na : Option Addr} {n nc : Nat} {l : List Int} (h : NF F w (.slice na n nc) l) (h0 : 0 < l.length) : ∃ b o, na = some ⟨b, o, none⟩ ∧ ∀ k (hk : k < l.length), CF F w b (o + k) (.int .i64 l[k]) := by
 obtain ⟨a, cap, e, h2, h3, h4, h5⟩ := h;obtain ⟨b, o, e1, e2, e3, e4⟩ := h5 (by rw [List.length_map]; exact h0)
 injection e with e5 _ _
 exact ⟨b, o, e5.trans e1, fun k hk => ⟨by rw [e4 k (by rw [List.length_map]; exact hk), List.getElem_map], e3, e2⟩⟩
def RndPost (d : Int) (ll : List (List Int)) (nums : List Int) (w : World) (e : Ending) (w' : World) : Prop := ∃ cv, e = .returned (.tuple #[cv, .int .i64 (rndc d ll nums)]) ∧ ChAns w' d ll cv (rndc d ll nums) ∧ Below w.heap.size w w'
end Go.Proofs.Ytcfomoknlchemaa

namespace Go.Proofs.Ytcfomoknlchemaa
open Go.RowKit
open Go.Proofs
open Go.Proofs.Ob
attribute [local irreducible] Go.Calls Go.wpList
theorem exec_nilTs {o : Oper} {a : Act} {w : World} {c : Nat} (x y : Operand) (ho : o.op = .binOp .eql 24 x y 24) (hx : a.eval x = .slice none 0 c) (hy : a.eval y = .slice none 0 0) : (execOp a.eval o).run Try.prog w = .ok (.value (.bool true)) w := by
 have h1 : (binOp .eql 24 (.slice none 0 c) (.slice none 0 0)).run Try.prog w = .ok (.bool true) w := by kernel_rfl
 have hg : (eqGuard .eql 24 x y (.slice none 0 c) (.slice none 0 0)).run Try.prog w = .ok () w := by
  simp [eqGuard]
 unfold execOp;simp only [ho, hx, hy, Sem.run_bind, Sem.run_pure, hg, h1, Result.andThen_ok]
theorem exec_nilFs {o : Oper} {a : Act} {w : World} {ad : Addr} {n c : Nat} (x y : Operand) (ho : o.op = .binOp .eql 24 x y 24) (hx : a.eval x = .slice (some ad) n c) (hy : a.eval y = .slice none 0 0) : (execOp a.eval o).run Try.prog w = .ok (.value (.bool false)) w := by
 have h1 : (binOp .eql 24 (.slice (some ad) n c) (.slice none 0 0)).run Try.prog w = .ok (.bool false) w := by kernel_rfl
 have hg : (eqGuard .eql 24 x y (.slice (some ad) n c) (.slice none 0 0)).run Try.prog w = .ok () w := by
  simp [eqGuard]
 unfold execOp;simp only [ho, hx, hy, Sem.run_bind, Sem.run_pure, hg, h1, Result.andThen_ok]
theorem ClonePs_f {F0 : Nat → Prop} (v : Value) (gs : List (List Nat)) (w : World) (hF : ∀ k, F0 k → k < w.heap.size) (h : Rg.FRows F0 w v (gs.map Ma.ofN)) (hl : gs.length ≤ 1000) :
  Calls Try.prog 118 #[v] w fun e w' => ∃ v', e = .returned v' ∧ RowF F0 w.heap.size w' v' gs ∧ Below w.heap.size w w' := by
 have HF := ι hF;clear hF;obtain ⟨us, hv, he⟩ := h;have hvv := Rg.FVals.vals hv
 have hul : us.length = gs.length := by have := he.1; rwa [List.length_map] at this
 obtain ⟨la, lc, e, _, _, _, hs⟩ := hv;subst e;have K := ι (Below.refl w.heap.size w)
 cases la with
 | none =>
  have h0 : us = [] := by
   cases us with
   | nil => rfl
   | cons u r => obtain ⟨b, o, e1, _⟩ := hs (by simp); cases e1
  subst h0;have hg0 : gs = [] := List.length_eq_zero_iff.1 hul.symm;subst hg0;clear hs he hul hvv
  go_enter Try.func118, Try.ntmps118
  go_upto_region 1 with (fail);refine wp_region_list ?_;refine Rg.lr 3 (Rg.xm (.slice none 0 lc) _ rfl rfl) ?_;go_frame;refine Rg.lr 4 (exec_nilTs _ _ rfl rfl rfl) ?_;go_frame;go_wp2;go_ret;exact ⟨_, rfl, RowF.nil _ (Nat.le_refl _), K.out⟩
 | some ad =>
  have HV := ι hvv;have HE := ι he;have HUL := ι hul;clear hs he hvv hul
  go_enter Try.func118, Try.ntmps118
  go_upto_region 1 with (fail);refine wp_region_list ?_;refine Rg.lr 3 (Rg.xm (.slice (some ad) us.length lc) _ rfl rfl) ?_;go_frame;refine Rg.lr 4 (exec_nilFs _ _ rfl rfl rfl) ?_;go_frame;go_upto_region 3 with (fail);refine wp_region_list ?_;refine Rg.lr 5 (Rg.exec_build0 slPerms rfl w) ?_;go_frame;refine Rg.lr 6 (Rg.xm (.slice (some ad) us.length lc) _ rfl rfl) ?_;go_frame;have hbA : Below w.heap.size w (w.alloc (.cells #[] 39)) := (Below.refl _ _).alloc (Nat.le_refl _) _;obtain ⟨v5, X5, r1, r2, r3⟩ := Rg.appL_run (P := Try.prog) slPerms 24 (World.ownsRow_made (e := 39) (size := 1) w #[] 0 (Nat.le_refl w.heap.size) (Nat.zero_le _) rfl) hbA.size (Rg.Vals.below HV.out hbA) HE.out.oneCell (by have := HUL.out; omega);refine Rg.lr 7 (Rg.exec_append _ _ _ rfl rfl rfl r1) ?_;go_frame;refine Rg.lr 2 (Rg.xa (v5) _ rfl rfl) ?_;go_frame;rw [Nat.zero_add, List.nil_append, HUL.out] at r2;have hk : Rg.Kp (fun z => z = w.heap.size) w X5 := Rg.Kp.trans (M := fun z => z = w.heap.size) (Rg.Kp.of_below (M := fun z => z = w.heap.size) hbA) (Rg.Kp.of_grown r3 (M := fun z => z = w.heap.size) fun k e => by simp [Value.ownBlock] at e; exact e.symm) (fun _ _ e => e)
  have H1 := ι (show RowF F0 w.heap.size X5 v5 gs from ⟨hk.size, us, r2, HE.out.kp hk (fun k h e => by have := HF.out k h; omega)⟩);have H2 := ι (show Below w.heap.size w X5 from ⟨hk.os, hk.tape, hk.output, hk.size, fun k h => hk.block k h (by omega)⟩);clear r1 r2 r3 hk hbA;go_wp2;go_ret;exact ⟨_, rfl, H1.out, H2.out⟩
end Go.Proofs.Ytcfomoknlchemaa

namespace Go.Proofs.Ytcfomoknlchemaa
open Go.RowKit
open Go.Proofs
open Go.Proofs.Cm (Tr)
theorem exec_fnc0 {o : Oper} {a : Act} {w : World} {u1 u2 : Value} (F : FuncId) (f : Operand) (tys : Array TypeId) (ho : o.op = .call { callee := .value f, args := #[], argTypes := tys }) (hf : a.eval f = .func (.func F) #[] #[u1, u2])
  (hF : (callFunc F #[u1, u2]).run Try.prog w = .ok (.enter F #[u1, u2]) w) : (execOp a.eval o).run Try.prog w = .ok (.enter F #[u1, u2]) w := by
 unfold execOp;simp [ho, hf, resolve, invoke, Deferred.ofValue, hF]
theorem exec_fnc1 {o : Oper} {a : Act} {w : World} {u1 x1 : Value} (F : FuncId) (f x : Operand) (tys : Array TypeId) (ho : o.op = .call { callee := .value f, args := #[x], argTypes := tys }) (hf : a.eval f = .func (.func F) #[] #[u1]) (hx : a.eval x = x1)
  (hF : (callFunc F #[x1, u1]).run Try.prog w = .ok (.enter F #[x1, u1]) w) : (execOp a.eval o).run Try.prog w = .ok (.enter F #[x1, u1]) w := by
 unfold execOp;simp [ho, hx, hf, resolve, invoke, Deferred.ofValue, hF]
theorem exec_makeFunc2 {o : Oper} {a : Act} {w : World} (F : FuncId) (x y : Operand) (ho : o.op = .makeFunc (.func F) #[] #[x, y]) {v u : Value} (hx : a.eval x = v) (hy : a.eval y = u) : (execOp a.eval o).run Try.prog w = .ok (.value (.func (.func F) #[] #[v, u])) w := by
 unfold execOp;simp [ho, hx, hy, Instr.makeFunc]
structure RS (M F : Nat → Prop) (tb pb qb n : Nat) (W : World) (tr : Tr) (m : Nat) (V : Nat → Nat → Value) (v : Value) (l : List (List Nat)) : Prop where
 ht : PtAt F tb n m W tr V
 rw : RowG F M W v l
 cp : CW W pb (.pointer (some ⟨tb, 0, none⟩))
 cq : CW W qb (.slice none 0 0)
 nF : ∀ k, M k → ¬ F k
 lt : ∀ k, M k → k < W.heap.size
 mt : M tb
 mp : M pb
 mq : M qb
 n1 : pb ≠ tb
 n2 : qb ≠ tb
 n3 : pb ≠ qb
theorem nF_up {M F : Nat → Prop} {W W' : World} (h : ∀ k, M k → ¬ F k) (lt : ∀ k, M k → k < W.heap.size) : ∀ k, M k → ¬ Fup F W W' k := fun k hk e => by
 have := lt k hk
 rcases e with e | e
 ·exact h k hk e
 ·omega
theorem RS.up {M F : Nat → Prop} {tb pb qb n m : Nat} {W W' : World} {tr : Tr} {V : Nat → Nat → Value} {v : Value} {l : List (List Nat)} (h : RS M F tb pb qb n W tr m V v l) (hb : Below W.heap.size W W') : RS M (Fup F W W') tb pb qb n W' tr m V v l :=
 ⟨h.ht.up hb, h.rw.up hb, h.cp.below hb, h.cq.below hb, nF_up h.nF h.lt, fun k hk => Nat.lt_of_lt_of_le (h.lt k hk) hb.size, h.mt, h.mp, h.mq, h.n1, h.n2, h.n3⟩
theorem RS.row {M F : Nat → Prop} {tb pb qb n m : Nat} {W W' : World} {tr : Tr} {V : Nat → Nat → Value} {v v' : Value} {l l' : List (List Nat)} (h : RS M F tb pb qb n W tr m V v l) (hk : Rg.Kp (fun k => v.ownBlock = some k) W W') (hr : RowG F M W' v' l') : RS M F tb pb qb n W' tr m V v' l' ∧ KF F W W' := by
 have hF : ∀ k, F k → ¬ v.ownBlock = some k := fun k hf e => (h.rw.off k e).1 hf;have hM : ∀ k, M k → ¬ v.ownBlock = some k := fun k hm e => (h.rw.off k e).2 hm;exact ⟨⟨h.ht.kp hk hF (hM _ h.mt), hr, h.cp.kp hk (hM _ h.mp), h.cq.kp hk (hM _ h.mq), h.nF, fun k e => Nat.lt_of_lt_of_le (h.lt k e) hk.size, h.mt, h.mp, h.mq, h.n1, h.n2, h.n3⟩, Rg.Kp.weak hk fun k e hf => hF k hf e⟩
theorem RS.push {M F : Nat → Prop} {tb pb qb n m : Nat} {W : World} {tr : Tr} {V : Nat → Nat → Value} {v : Value} {l : List (List Nat)} (h : RS M F tb pb qb n W tr m V v l) {u : Value} {x : List Nat} (hu : FP F W u x) (hs : ∃ a m c, u = .slice a m c) (hn : l.length < 1000000) (ty : TypeId) :
  ∃ a c X, (Builtin.append_ #[24, 24] ty #[v, .slice (some ⟨W.heap.size, 0, none⟩) 1 1]).run Try.prog (W.alloc (.cells #[u] 39)) = .ok (.slice a (l.length + 1) c) X ∧ RS M F tb pb qb n X tr m V (.slice a (l.length + 1) c) (l ++ [x]) ∧ KF F W X := by
 obtain ⟨a, c, X, h1, h2, h3⟩ := h.rw.push hu hs h.ht.Flt h.lt hn ty;have := h.row h3 h2;exact ⟨a, c, X, h1, this.1, this.2⟩
theorem RS.set {M F : Nat → Prop} {tb pb qb n m g k c : Nat} {W : World} {tr : Tr} {V : Nat → Nat → Value} {l : List (List Nat)} (h : RS M F tb pb qb n W tr m V (.slice (some ⟨g, 0, none⟩) k c) l) (hk : k = l.length) (i : Nat) {u : Value} {x : List Nat} (hu : FP F W u x) :
  RS M F tb pb qb n (W.setCell ⟨g, i, none⟩ u) tr m V (.slice (some ⟨g, 0, none⟩) k c) (l.set i x) ∧ KF F W (W.setCell ⟨g, i, none⟩ u) := by
 obtain ⟨h1, h2⟩ := h.rw.setL hk i hu;exact h.row (h2.weak fun z e => by subst e; rfl) h1
theorem CW.up {w w' : World} {b : Nat} {v : Value} (h : CW w b v) (hb : Below w.heap.size w w') : CW w' b v := h.below hb
theorem RowG.below {F M : Nat → Prop} {W W' : World} {v : Value} {l : List (List Nat)} (h : RowG F M W v l) (hb : Below W.heap.size W W') : RowG F M W' v l := by
 obtain ⟨B, us, g0, g1, g2⟩ := h.own;exact ⟨⟨B, us, Nat.le_trans g0 hb.size, Rg.row_below g1 hb, g2.kp (M := fun _ => False) (Rg.Kp.of_below hb) (fun _ _ => id)⟩, h.off⟩
theorem RowG.less {F M M' : Nat → Prop} {W : World} {v : Value} {l : List (List Nat)} (h : RowG F M W v l) (hM : ∀ k, M' k → M k) : RowG F M' W v l := ⟨h.own, fun k e => ⟨(h.off k e).1, fun g => (h.off k e).2 (hM k g)⟩⟩
theorem KG.bel {F0 F : Nat → Prop} {w0 w w' : World} (h : KG F0 w0 F w) (hb : Below w.heap.size w w') : KG F0 w0 F w' := h.kf' (KF.of_below hb)
theorem RS.below {M F : Nat → Prop} {tb pb qb n m : Nat} {W W' : World} {tr : Tr} {V : Nat → Nat → Value} {v : Value} {l : List (List Nat)} (h : RS M F tb pb qb n W tr m V v l) (hb : Below W.heap.size W W') : RS M F tb pb qb n W' tr m V v l :=
 ⟨h.ht.below hb, h.rw.below hb, h.cp.below hb, h.cq.below hb, h.nF, fun k hk => Nat.lt_of_lt_of_le (h.lt k hk) hb.size, h.mt, h.mp, h.mq, h.n1, h.n2, h.n3⟩
theorem RS.cell {M F : Nat → Prop} {tb pb qb n m : Nat} {W : World} {tr : Tr} {V : Nat → Nat → Value} {v : Value} {l : List (List Nat)} (h : RS M F tb pb qb n W tr m V v l) (x : Value) (c : Value) (t : TypeId) :
  RS (fun z => M z ∨ z = W.heap.size) F tb pb qb n ((W.alloc (.cells #[x] t)).setCell ⟨W.heap.size, 0, none⟩ c) tr m V v l ∧ CW ((W.alloc (.cells #[x] t)).setCell ⟨W.heap.size, 0, none⟩ c) W.heap.size c ∧ Below W.heap.size W ((W.alloc (.cells #[x] t)).setCell ⟨W.heap.size, 0, none⟩ c) := by
 have hb : Below W.heap.size W ((W.alloc (.cells #[x] t)).setCell ⟨W.heap.size, 0, none⟩ c) := ((Below.refl _ _).alloc (Nat.le_refl _) _).setCell (p := ⟨W.heap.size, 0, none⟩) (Nat.le_refl _) c;have h2 := h.below hb;have hlt : ∀ k, F k → k < W.heap.size := h.ht.Flt;refine ⟨⟨h2.ht, ⟨h2.rw.own, fun k e => ⟨(h2.rw.off k e).1, fun g => ?_⟩⟩, h2.cp, h2.cq, fun k hk hf => ?_, fun k hk => ?_, .inl h.mt, .inl h.mp, .inl h.mq, h.n1, h.n2, h.n3⟩, (CW.new W x t).set c, hb⟩
 ·rcases g with g | g
  ·exact (h.rw.off k e).2 g
  ·have := h.rw.lt k e
   omega
 ·rcases hk with g | g
  ·exact h.nF k g hf
  ·have := hlt k hf
   omega
 ·rcases hk with g | g
  ·exact h2.lt k g
  ·subst g
   simp
theorem RS.fill {M F : Nat → Prop} {tb pb qb n m : Nat} {W : World} {tr : Tr} {V : Nat → Nat → Value} {v : Value} {l : List (List Nat)} (h : RS M F tb pb qb n W tr m V v l) {u : Value} {x : List Nat} (hu : FP F W u x) (hs : ∃ a m c, u = .slice a m c) (ty : TypeId) :
  ∃ a c X, (Builtin.append_ #[24, 24] ty #[.slice none 0 0, .slice (some ⟨W.heap.size, 0, none⟩) 1 1]).run Try.prog (W.alloc (.cells #[u] 39)) = .ok (.slice a 1 c) X ∧ Below W.heap.size W (W.alloc (.cells #[u] 39)) ∧ Below (W.alloc (.cells #[u] 39)).heap.size (W.alloc (.cells #[u] 39)) X ∧ RowG F M X (.slice a 1 c) [x] := by
 obtain ⟨B, us, h0, h1, h2⟩ := (RowG.nil F M W).own;obtain ⟨a0, m0, c0, rfl⟩ := hs;have hb : Below W.heap.size W (W.alloc (.cells #[.slice a0 m0 c0] 39)) := (Below.refl _ _).alloc (Nat.le_refl _) _;obtain ⟨v', X, r1, r2, r3, r4, a, c, rfl⟩ := app_run (P := Try.prog) slPerms ty (Rg.row_below h1 hb) (Nat.le_trans h0 hb.size) W.heap.size 1 (u := .slice a0 m0 c0) (by rw [Rg.cellNew]; rfl) rfl (by simp)
 have hb2 : Below (W.alloc (.cells #[.slice a0 m0 c0] 39)).heap.size (W.alloc (.cells #[.slice a0 m0 c0] 39)) X := by
  have hk : Rg.Kp (fun _ => False) _ X := Rg.Kp.of_grown r3 fun k e => by simp [Value.ownBlock] at e
  exact ⟨hk.os, hk.tape, hk.output, hk.size, fun k hk2 => hk.block k hk2 id⟩
 have hk : Rg.Kp (fun _ => False) W X := Rg.Kp.trans (M := fun _ => False) (Rg.Kp.of_below hb) (Rg.Kp.of_below hb2) (fun _ _ e => e);refine ⟨a, c, X, r1, hb, hb2, ⟨⟨B, us ++ [.slice a0 m0 c0], Nat.le_trans h0 hk.size, r2, ?_⟩, fun k e => ?_⟩⟩
 ·exact FElts.snoc (h2.kp hk (fun _ _ => id)) (Rg.FI.kp hu hk (fun _ _ => id))
 ·rcases r4 with r4 | r4
  ·replace e := r4.symm.trans e; simp [Value.ownBlock] at e
  ·replace e := r4.symm.trans e
   injection e with e
   have e2 : (W.alloc (.cells #[.slice a0 m0 c0] 39)).heap.size = W.heap.size + 1 := by simp
   exact ⟨fun g => by have := h.ht.Flt _ g; omega, fun g => by have := h.lt _ g; omega⟩
theorem RS.wait {M F : Nat → Prop} {tb pb qb n m : Nat} {W : World} {tr : Tr} {V : Nat → Nat → Value} {v v1 : Value} {l l1 : List (List Nat)} (h : RS M F tb pb qb n W tr m V v l) (h2 : RowG F M W v1 l1) :
  RowG F M (W.setCell ⟨qb, 0, none⟩ v1) v1 l1 ∧ PtAt F tb n m (W.setCell ⟨qb, 0, none⟩ v1) tr V ∧ CW (W.setCell ⟨qb, 0, none⟩ v1) pb (.pointer (some ⟨tb, 0, none⟩)) ∧ CW (W.setCell ⟨qb, 0, none⟩ v1) qb v1 ∧ RowG F M (W.setCell ⟨qb, 0, none⟩ v1) v l ∧ Rg.Kp (fun z => z = qb) W (W.setCell ⟨qb, 0, none⟩ v1) ∧ KF F W (W.setCell ⟨qb, 0, none⟩ v1) := by
 have hq : Rg.Kp (fun z => z = qb) W (W.setCell ⟨qb, 0, none⟩ v1) := Rg.Kp.of_setCell rfl;have hFq : ∀ z, F z → ¬ z = qb := fun z hz e => h.nF z (e ▸ h.mq) hz;refine ⟨h2.kpo hq hFq (fun k e e2 => ?_), h.ht.kp hq hFq (fun e => h.n2 e.symm), h.cp.kp hq h.n3, h.cq.set _, h.rw.kpo hq hFq (fun k e e2 => ?_), hq, Rg.Kp.weak hq fun z e hz => hFq z hz e⟩
 ·subst e2; exact (h2.off _ e).2 h.mq
 ·subst e2; exact (h.rw.off _ e).2 h.mq
theorem RS.drained {M F F' : Nat → Prop} {tb pb qb n m m' : Nat} {W W' : World} {tr tr' : Tr} {V V' : Nat → Nat → Value} {v : Value} {l : List (List Nat)}
  (hT : PtAt F tb n m W tr V) (hr : RowG F M W v l) (hp : CW W pb (.pointer (some ⟨tb, 0, none⟩))) (nF : ∀ k, M k → ¬ F k) (lt : ∀ k, M k → k < W.heap.size) (mt : M tb) (mp : M pb) (mq : M qb) (n1 : pb ≠ tb) (n2 : qb ≠ tb) (n3 : pb ≠ qb)
  (hk : KI F W F' W' (fun z => z = tb ∨ z = qb)) (hT' : PtAt F' tb n m' W' tr' V') (hq : CW W' qb (.slice none 0 0)) : RS M F' tb pb qb n W' tr' m' V' v l := by
 refine ⟨hT', ?_, hp.kp hk.kp (by rintro (e | e); exact n1 e; exact n3 e), hq, fun k hm hf => ?_, fun k hm => Nat.lt_of_lt_of_le (lt k hm) hk.kp.size, mt, mp, mq, n1, n2, n3⟩
 ·exact hr.ki (hk.weak fun z e => by rcases e with e | e <;> subst e; exact mt; exact mq)
 ·have := lt k hm
  rcases hk.new k hf with e | e
  ·exact nF k hm e
  ·omega
end Go.Proofs.Ytcfomoknlchemaa

namespace Go.Proofs.Ytcfomoknlchemaa
open Go.RowKit
open Go.Proofs
open Go.Proofs.Ob
open Go.Proofs.Cm (Tr TabOk)
attribute [local irreducible] Go.Calls Go.wpList
theorem Ylcl1 (args : Array Value) (w : World) : (callFunc 118 args).run Try.prog w = .ok (.enter 118 args) w := by kernel_rfl
theorem Ylcl2 (args : Array Value) (w : World) : (callFunc 119 args).run Try.prog w = .ok (.enter 119 args) w := by kernel_rfl
theorem Ylcl4 (args : Array Value) (w : World) : (callFunc 122 args).run Try.prog w = .ok (.enter 122 args) w := by kernel_rfl
theorem Ylcl5 (args : Array Value) (w : World) : (callFunc 124 args).run Try.prog w = .ok (.enter 124 args) w := by kernel_rfl
theorem infoPtb : (Try.prog.info? 146).map (fun i => (i.zero, i.size, i.bytes)) = some (some (.pointer none), 1, 8) := by kernel_rfl
theorem exec_buildTbC {o : Oper} {a : Act} {w : World} {v : Int} {cT : Array Value} (hc : Hid (zT.toArray.setIfInBounds 0 (.int .i64 v) = cT)) (x : Operand) (ho : o.op = .build 150 #[(0, x)]) (hx : a.eval x = .int .i64 v) :
  (execOp a.eval o).run Try.prog w = .ok (.value (.agg cT)) w := by
 rw [← hc.out];exact exec_buildTb x ho hx
theorem exec_allocPt {o : Oper} {a : Act} {w : World} (ho : o.op = .alloc 146) : (execOp a.eval o).run Try.prog w = .ok (.value (.pointer (some ⟨w.heap.size, 0, none⟩))) (w.alloc (.cells #[.pointer none] 146)) := by
 obtain ⟨i0, hi, hz0, hz1, hz2⟩ := info_parts infoPtb;unfold execOp;simp [ho, Instr.alloc, typeInfo, zeroValue, hi, hz0, newVar, newRow, Value.cells, Result.andThen]
theorem run_storePt {w : World} {b o : Nat} {u : Value} (v : Option Addr) (h : w.cell? ⟨b, o, none⟩ = some u) (hf : w.frozen? ⟨b, o, none⟩ = false) :
  (storeVar 146 ⟨b, o, none⟩ (.pointer v)).run Try.prog w = .ok () (w.setCell ⟨b, o, none⟩ (.pointer v)) := by
 obtain ⟨i0, hi, hz0, hz1, hz2⟩ := info_parts infoPtb
 have h0 : (⟨b, o, none⟩ : Addr).add 0 = ⟨b, o, none⟩ := by simp [Addr.add]
 simp [storeVar, sizeOf, typeInfo, hi, hz1, Value.cells, storeCells, store, h0];simp [Sem.run, h, hf]
theorem mod_i {x : Int} {m mb i : Nat} {w : World} (h0 : 0 < m) (h1 : m ≤ 1000000) (hc : CW w mb (.int .i64 ((m : Nat) : Int))) (hi : Hid (pickV x ((m : Nat) : Int) = ((i : Nat) : Int))) : Calls Try.prog 122 #[.int .i64 x, .pointer (some ⟨mb, 0, none⟩)] w fun e w' => e = .returned (.int .i64 ((i : Nat) : Int)) ∧ Below w.heap.size w w' := by
 rw [← hi.out];exact chMod_any x h0 h1 hc
theorem pRandom_any (gv nv : Value) (d : Int) (ll : List (List Int)) (nums : List Int) (w : World) (h : Rg.Rows w gv ll) (hnu : Rg.Ints w nv nums) :
  Calls Try.prog 72 #[.agg #[.int .i64 d, gv], nv] w (RndPost d ll nums w) := by
 obtain ⟨na, nc, rfl, _⟩ := hnu.shape;obtain ⟨ga, gc, rfl, hga, hba⟩ := GI.enter (d) h;have K := ι hba;have G0 := ι hga;clear h hga hba;have NU := ι (Rg.Ints.below hnu K.out);clear hnu
 go_enter Try.func72, Try.ntmps72
 go_upto_region 0 with (fail);refine wp_region_list ?_;refine Rg.lr 2 (Rg.exec_box _ _ rfl rfl) ?_;go_frame;generalize w.alloc (.cells #[.int .i64 d, .slice ga ll.length gc] 26) = w0 at *;have HW0 := ι K.out.size;have hnew := Tri.new w0 (.int .i64 0) (.slice none 0 0) (.slice none 0 0);refine Rg.lr 4 (exec_allocC rfl) ?_;go_frame;have hb := (Below.refl w0.heap.size w0).alloc (Nat.le_refl _) (.cells #[.int .i64 0, .slice none 0 0, .slice none 0 0] 32);generalize w0.alloc (.cells #[.int .i64 0, .slice none 0 0, .slice none 0 0] 32) = w1 at *;replace G0 := ι (G0.out.below hb);replace NU := ι (NU.out.below hb);replace K := ι (Rg.acc K.out hb);clear hb;have FT := ι hnew;clear hnew;go_upto_region 1 with (fail);refine wp_region_list ?_;refine Rg.lr 17 (Rg.exec_load (v := .agg #[.int .i64 d, .slice ga ll.length gc]) _ _ rfl ⟨w.heap.size, 0, none⟩ rfl (run_loadG G0.out.c0 G0.out.c1)) ?_;go_frame;refine list_ask (some 18) rfl rfl _ _ (exec_fn1 48 _ _ rfl rfl (Wbcl0 _ _)) ?_
 refine (orbitCheck_any _ _ _ w1 G0.out.rows).mono ?_;rintro e1 w2 ⟨rfl, hb⟩;refine ⟨_, rfl, ?_⟩;go_frame;replace G0 := ι (G0.out.below hb);replace NU := ι (NU.out.below hb);replace FT := ι (FT.out.below hb);replace K := ι (Rg.acc K.out hb);clear hb;refine Rg.lr 6 (Rg.xa (.int .i64 (Ma.gchk d ll)) _ rfl rfl) ?_;go_frame
 by_cases hz : Ma.gchk d ll = 0
 case neg =>
  skip
  go_upto_region 2 with (fail);refine wp_region_list ?_;refine Rg.lr 19 (Rg.xm (.int .i64 (Ma.gchk d ll)) _ rfl rfl) ?_;go_frame;refine Rg.lr 20 (exec_bin (R := .bool true) .neq _ _ _ rfl rfl rfl (b_neqB _ (decide_eq_true (by omega)))) ?_;go_frame;go_upto_region 3 with (fail);refine wp_region_list ?_;refine Rg.lr 21 (exec_buildC0 rfl) ?_;go_frame;refine Rg.lr 22 (Rg.xm (.int .i64 (Ma.gchk d ll)) _ rfl rfl) ?_;go_frame;refine Rg.list_skip none rfl rfl (Rg.exec_store _ _ _ rfl _ rfl _ rfl (run_storeC _ _ _ _ _ _ _ FT.out)) ?_;go_frame;refine Rg.lr 5 (Rg.xa (.int .i64 (Ma.gchk d ll)) _ rfl rfl) ?_;go_frame;have htt := FT.out.set (.int .i64 0) (.slice none 0 0) (.slice none 0 0);have hkf := ((K.out.setCell (p := ⟨w0.heap.size, 0, none⟩) HW0.out (.int .i64 0)).setCell (p := ⟨w0.heap.size, 1, none⟩) HW0.out (.slice none 0 0)).setCell (p := ⟨w0.heap.size, 2, none⟩) HW0.out (.slice none 0 0);generalize ((w2.setCell ⟨w0.heap.size, 0, none⟩ (.int .i64 0)).setCell ⟨w0.heap.size, 1, none⟩ (.slice none 0 0)).setCell ⟨w0.heap.size, 2, none⟩ (.slice none 0 0) = w99 at *
  have HTT := ι htt
  have HFI := ι (show RndPost d ll nums w (.returned (.tuple #[zeroC, .int .i64 (Ma.gchk d ll)])) w99 from
   ⟨_, by rw [rndc_bad hz], .inl ⟨by rw [rndc_bad hz]; exact hz, rfl⟩, hkf⟩)
  clear htt hkf;go_wp2;exact bodyPost_ret (results_cellC2 (p := 4) (u := 5) rfl _ rfl rfl HTT.out) rfl HFI.out
 go_upto_region 2 with (fail);refine wp_region_list ?_;refine Rg.lr 19 (Rg.xm (.int .i64 (Ma.gchk d ll)) _ rfl rfl) ?_;go_frame;refine Rg.lr 20 (exec_bin (R := .bool false) .neq _ _ _ rfl rfl rfl (b_neqB _ (decide_eq_false (by omega)))) ?_;go_frame
 by_cases hlong : 1000 < nums.length
 case pos =>
  skip
  go_upto_region 4 with (fail);refine wp_region_list ?_;refine Rg.lr 23 (Rg.xm (.slice na nums.length nc) _ rfl rfl) ?_;go_frame;refine Rg.lr 24 (exec_len _ _ _ rfl Try.underlying22 _ _ _ rfl) ?_;go_frame;refine Rg.lr 25 (exec_bin (R := .bool true) .gtr _ _ _ rfl rfl rfl (b_gtr _ (decide_eq_true (by omega)))) ?_;go_frame;go_upto_region 5 with (fail);refine wp_region_list ?_;refine Rg.lr 26 (exec_buildC0 rfl) ?_;go_frame;refine Rg.list_skip none rfl rfl (Rg.exec_store _ _ _ rfl _ rfl _ rfl (run_storeC _ _ _ _ _ _ _ FT.out)) ?_;go_frame;refine Rg.lr 5 (Rg.xa (.int .i64 ((4 : Nat) : Int)) _ rfl rfl) ?_;go_frame;have htt := FT.out.set (.int .i64 0) (.slice none 0 0) (.slice none 0 0);have hkf := ((K.out.setCell (p := ⟨w0.heap.size, 0, none⟩) HW0.out (.int .i64 0)).setCell (p := ⟨w0.heap.size, 1, none⟩) HW0.out (.slice none 0 0)).setCell (p := ⟨w0.heap.size, 2, none⟩) HW0.out (.slice none 0 0)
  generalize ((w2.setCell ⟨w0.heap.size, 0, none⟩ (.int .i64 0)).setCell ⟨w0.heap.size, 1, none⟩ (.slice none 0 0)).setCell ⟨w0.heap.size, 2, none⟩ (.slice none 0 0) = w99 at *;have HTT := ι htt
  have HFI := ι (show RndPost d ll nums w (.returned (.tuple #[zeroC, .int .i64 (4)])) w99 from
   ⟨_, by rw [rndc_long hz hlong], .inl ⟨by rw [rndc_long hz hlong]; decide, rfl⟩, hkf⟩)
  clear htt hkf;go_wp2;exact bodyPost_ret (results_cellC2 (p := 4) (u := 5) rfl _ rfl rfl HTT.out) rfl HFI.out
 go_upto_region 4 with (fail);refine wp_region_list ?_;refine Rg.lr 23 (Rg.xm (.slice na nums.length nc) _ rfl rfl) ?_;go_frame;refine Rg.lr 24 (exec_len _ _ _ rfl Try.underlying22 _ _ _ rfl) ?_;go_frame;refine Rg.lr 25 (exec_bin (R := .bool false) .gtr _ _ _ rfl rfl rfl (b_gtr _ (decide_eq_false (by omega)))) ?_;go_frame;obtain ⟨n, gs, hdn, hll, hgd, hn1, hn2, hgl, hl16⟩ := ok_of hz;subst hdn;have HLL := ι hll;have HGL := ι hgl;have HGD := ι hgd;have HZ := ι hz;have HLG := ι hlong;have HL16 := ι hl16;clear hll hgl hgd hz hlong;have HC0 := ι (show CF (fun k => k < w2.heap.size) w2 w.heap.size 0 (.int .i64 ((n : Nat) : Int)) from ⟨G0.out.c0, G0.out.lt, G0.out.lt⟩);have HC1 := ι (show CF (fun k => k < w2.heap.size) w2 w.heap.size 1 (.slice ga ll.length gc) from ⟨G0.out.c1, G0.out.lt, G0.out.lt⟩);have HFR := ι (show Rg.FRows (fun k => k < w2.heap.size) w2 (.slice ga ll.length gc) (gs.map Ma.ofN) from Rg.FRows.old (by have := G0.out.rows; rw [show gs.map Ma.ofN = ll from HLL.out.symm]; exact this))
 have HNF := ι (show NF (fun k => k < w2.heap.size) w2 (.slice na nums.length nc) nums from Rg.FI.old NU.out);have KB := K;have FT0 := FT;clear K FT;have K := ι (Below.refl w2.heap.size w2);obtain ⟨cT, hcT⟩ : ∃ c, Hid (zT.toArray.setIfInBounds 0 (Value.int .i64 ((n : Nat) : Int)) = c) := ⟨_, ι rfl⟩;go_upto_region 6 with (fail);refine wp_region_list ?_;refine Rg.lr 27 (exec_fieldG0 _ rfl rfl) ?_;go_frame;refine Rg.lr 28 (Rg.exec_load (v := .int .i64 ((n : Nat) : Int)) _ _ rfl ⟨w.heap.size, 0, none⟩ rfl (run_loadInt ((Below.cell (p := ⟨w.heap.size, 0, none⟩) K.out G0.out.lt).trans G0.out.c0))) ?_;go_frame;refine Rg.lr 29 (exec_buildTbC hcT _ rfl rfl) ?_;go_frame;have hpt := PtAt.new (F := fun k => k < w2.heap.size) (w := w2) (fun _ h => h) n;rw [hcT.out] at hpt;refine Rg.lr 30 (Rg.exec_box _ _ rfl rfl) ?_;go_frame;have hb := (Below.refl w2.heap.size w2).alloc (Nat.le_refl _) (.cells cT 150)
 generalize w2.alloc (.cells cT 150) = w3 at *;replace K := ι (Rg.acc K.out hb);clear hb;have HT := ι hpt;have HTL := ι HT.out.lt;have hcp := CW.new w3 (.pointer none) 146;refine Rg.lr 7 (exec_allocPt rfl) ?_;go_frame;have hb := (Below.refl w3.heap.size w3).alloc (Nat.le_refl _) (.cells #[.pointer none] 146);generalize w3.alloc (.cells #[.pointer none] 146) = w4 at *;replace HT := ι (HT.out.below hb);replace K := ι (Rg.acc K.out hb);clear hb;have CP := ι hcp;refine Rg.list_skip none rfl rfl (Rg.exec_store _ _ _ rfl _ rfl _ rfl (run_storePt _ CP.out.c CP.out.f)) ?_;go_frame;have hk6 : Rg.Kp (fun z => z = w3.heap.size) w4 (w4.setCell ⟨w3.heap.size, 0, none⟩ (.pointer (some ⟨w2.heap.size, 0, none⟩))) := Rg.Kp.of_setCell rfl;have HPT := ι (show w2.heap.size < w3.heap.size from HTL.out);have HT2 := ι (HT.out.kp hk6 (fun z hz e => by have := HPT.out; omega) (fun e => by have := HPT.out; omega))
 have CP2 := ι (CP.out.set (.pointer (some ⟨w2.heap.size, 0, none⟩)));have K2 := ι (K.out.setCell (p := ⟨w3.heap.size, 0, none⟩) (by have := HPT.out; exact Nat.le_of_lt this) (.pointer (some ⟨w2.heap.size, 0, none⟩)));have HPL := ι CP2.out.lt;generalize w4.setCell ⟨w3.heap.size, 0, none⟩ (.pointer (some ⟨w2.heap.size, 0, none⟩)) = w20 at *;clear hk6 HT CP K HTL hpt hcp hcT;go_upto_region 7 with (fail);refine wp_region_list ?_;refine Rg.lr 31 (exec_fieldG _ rfl rfl) ?_;go_frame;refine Rg.lr 32 (Rg.exec_load (v := .slice ga ll.length gc) _ _ rfl ⟨w.heap.size, 1, none⟩ rfl (Rg.run_loadSl _ _ Try.underlying24 ((Below.cell (p := ⟨w.heap.size, 1, none⟩) K2.out G0.out.lt).trans G0.out.c1))) ?_;go_frame;refine list_ask (some 33) rfl rfl _ _ (exec_fn1 118 _ _ rfl rfl (Ylcl1 _ _)) ?_;refine (ClonePs_f _ gs w20 (fun k hk => by have := K2.out.size; omega) (FRows.kp HFR.out (M := fun _ => False) (Rg.Kp.of_below K2.out) (fun _ _ => id)) (by have := HGL.out; have := HL16.out; omega)).mono ?_
 rintro e1 w21 ⟨v1, rfl, hrf1, hb⟩;obtain ⟨a1, c1, rfl⟩ := (hrf1.g (M := fun _ => False) (fun k hk => by have := K2.out.size; omega) (fun _ => False.elim)).shape;have hrg1 : RowG (fun k => k < w2.heap.size) (fun z => z = w2.heap.size) w21 (.slice a1 gs.length c1) gs := hrf1.g (fun k hk => by have := K2.out.size; omega) (fun k hk => by have := HPL.out; have := HPT.out; omega);refine ⟨_, rfl, ?_⟩;go_frame;replace HT2 := ι (HT2.out.below hb);replace CP2 := ι (CP2.out.below hb);replace K2 := ι (Rg.acc K2.out hb);clear hb;have RF := ι hrg1;have HOQ := ι RF.out.lt;have HPQ := ι CP2.out.lt;have hcq := CW.new w21 (.slice none 0 0) 24;refine Rg.lr 8 (exec_allocPs rfl) ?_;go_frame;have hb := (Below.refl w21.heap.size w21).alloc (Nat.le_refl _) (.cells #[.slice none 0 0] 24);generalize w21.alloc (.cells #[.slice none 0 0] 24) = w22 at *;replace HT2 := ι (HT2.out.below hb);replace CP2 := ι (CP2.out.below hb)
 replace RF := ι (RF.out.below hb);replace K2 := ι (Rg.acc K2.out hb);clear hb;have CQ := ι hcq;refine Rg.list_skip none rfl rfl (Rg.exec_store _ _ _ rfl _ rfl _ rfl (Rg.run_storeSl _ infoPermsV CQ.out.c CQ.out.f)) ?_;go_frame;have hk7 : Rg.Kp (fun z => z = w21.heap.size) w22 (w22.setCell ⟨w21.heap.size, 0, none⟩ (.slice a1 gs.length c1)) := Rg.Kp.of_setCell rfl;have HQP := ι (show w3.heap.size < w21.heap.size from HPQ.out)
 have HFq : ∀ z, z < w2.heap.size → ¬ z = w21.heap.size := fun z hz e => by have := HPT.out; have := HQP.out; omega
 have HT3 := ι (HT2.out.kp hk7 HFq (fun e => by have := HPT.out; have := HQP.out; omega));have CP3 := ι (CP2.out.kp hk7 (fun e => by have := HQP.out; omega));have CQ3 := ι (CQ.out.set (.slice a1 gs.length c1));have RF3 := ι (RF.out.kpo hk7 HFq (fun k e e2 => by have := HOQ.out k e; omega));have KE := ι (show KG (fun k => k < w2.heap.size) w2 (fun k => k < w2.heap.size) (w22.setCell ⟨w21.heap.size, 0, none⟩ (.slice a1 gs.length c1)) from ((KG.refl fun _ h => h).bel K2.out).kf' (Rg.Kp.weak hk7 fun z e hz => HFq z hz e));generalize w22.setCell ⟨w21.heap.size, 0, none⟩ (.slice a1 gs.length c1) = w30 at *;have HNE := ι (show w3.heap.size ≠ w2.heap.size ∧ w21.heap.size ≠ w2.heap.size ∧ w3.heap.size ≠ w21.heap.size from ⟨by have := HPT.out; omega, by have := HPT.out; have := HQP.out; omega, by have := HQP.out; omega⟩);have HQF := ι (show ¬ w21.heap.size < w2.heap.size by have := HPT.out; have := HQP.out; omega)
 have HQL := ι CQ3.out.lt;clear hk7 HFq HT2 CP2 CQ RF K2 hrf1 hrg1 hcq HOQ;go_upto_region 8 with (fail);refine wp_region_list ?_;refine Rg.lr 34 (exec_makeFunc2 (v := .pointer (some ⟨w21.heap.size, 0, none⟩)) (u := .pointer (some ⟨w3.heap.size, 0, none⟩)) _ _ _ rfl rfl rfl) ?_;go_frame;refine Rg.lr 9 (Rg.xa (.func (.func 119) #[] #[.pointer (some ⟨w21.heap.size, 0, none⟩), .pointer (some ⟨w3.heap.size, 0, none⟩)]) _ rfl rfl) ?_;go_frame;have TL0 := ι (TL.nil n (· ∈ gs));go_upto_region 9 with (fail);refine wp_region_list ?_;refine Rg.lr 35 (Rg.xm (.func (.func 119) #[] #[.pointer (some ⟨w21.heap.size, 0, none⟩), .pointer (some ⟨w3.heap.size, 0, none⟩)]) _ rfl rfl) ?_;go_frame;have HPB := ι CP3.out.lt;refine list_ask (some 36) rfl rfl _ _ (exec_fnc0 _ _ _ rfl rfl (Ylcl2 _ _)) ?_;refine (chDrain_any (m := 0) HGD.out hn1 hn2 (by omega) HT3.out TL0.out (fun x hx => .gen x hx) RF3.out (by have := HGL.out; have := HL16.out; omega) CP3.out CQ3.out HNE.out.1 HNE.out.2.1 HQF.out).mono ?_
 rintro e1 w31 ⟨F4, V4, m4, rfl, hki, hpt4, hm4, hcq4, htl4⟩
 have hcp4 := CP3.out.kp hki.kp (by rintro (e | e); exact HNE.out.1 e; exact HNE.out.2.2 e)
 have hkg := hki.kg;have HKN := ι hki.new;have HKS := ι hki.kp.size;have HM4 := ι hm4;have HTL := ι htl4;clear hki hm4 htl4;refine ⟨_, rfl, ?_⟩;go_frame;clear HT3;clear CP3;clear CQ3;clear RF3;replace KE := ι (KE.out.trans hkg);have HT := ι hpt4;have CP := ι hcp4;have CQ := ι hcq4;clear hkg;clear hpt4 hcp4 hcq4 TL0;have HFL := ι HT.out.Flt
 have HMF := ι (show ∀ k, (fun z => z = w2.heap.size ∨ z = w3.heap.size ∨ z = w21.heap.size) k → ¬ F4 k ∧ k < w31.heap.size from fun k hk => by
  have h1 := HPT.out;have h2 := HQP.out;have h3 := HQL.out;have h4 := HKS.out
  refine ⟨fun e => ?_, by rcases hk with e | e | e <;> omega⟩
  rcases hk with e2 | e2 | e2 <;> subst e2 <;> rcases HKN.out _ e with e3 | e3 <;> omega)
 have htb0 : gs.foldl (ins1 n) (fun _ _ => none) = tabL n gs := rfl;rw [htb0] at HT HTL;rw [List.nil_append] at HTL;have CH0 := ι (HC0.out.kg KE.out);have CH1 := ι (HC1.out.kg KE.out);clear htb0 HKN;go_upto_region 10 with (fail);refine wp_region_list ?_;refine Rg.lr 37 (exec_fieldG _ rfl rfl) ?_;go_frame;refine Rg.lr 38 (Rg.exec_load (v := .slice ga ll.length gc) _ _ rfl ⟨w.heap.size, 1, none⟩ rfl (Rg.run_loadSl _ _ Try.underlying24 CH1.out.cell)) ?_;go_frame;refine list_ask (some 39) rfl rfl _ _ (exec_fn1 118 _ _ rfl rfl (Ylcl1 _ _)) ?_;refine (ClonePs_f _ gs w31 HFL.out (FRows.mono (FRows.kp HFR.out KE.out.kf (fun _ hF hn => hn hF)) KE.out.sub) (by have := HGL.out; have := HL16.out; omega)).mono ?_;rintro e1 w32 ⟨v2, rfl, hrf2, hb⟩;have HSZ := ι hb.size;obtain ⟨a2, c2, rfl⟩ := (hrf2.g (M := fun _ => False) HFL.out (fun _ => False.elim)).shape;have hrg2 : RowG F4 (fun z => z = w2.heap.size ∨ z = w3.heap.size ∨ z = w21.heap.size) w32 (.slice a2 gs.length c2) gs := hrf2.g HFL.out (fun k hk => (HMF.out k hk).2)
 refine ⟨_, rfl, ?_⟩;go_frame;replace HT := ι (HT.out.below hb);replace CP := ι (CP.out.below hb);replace CQ := ι (CQ.out.below hb);replace KE := ι (KG.bel KE.out hb);clear hb;have RF := ι hrg2;refine Rg.lr 10 (Rg.xa (.slice a2 gs.length c2) _ rfl rfl) ?_;go_frame;have HRS := ι (show RS (fun z => z = w2.heap.size ∨ z = w3.heap.size ∨ z = w21.heap.size) F4 w2.heap.size w3.heap.size w21.heap.size n w32 (tabL n gs) m4 V4 (.slice a2 gs.length c2) gs from ⟨HT.out, RF.out, CP.out, CQ.out, fun k hk => (HMF.out k hk).1, fun k hk => Nat.lt_of_lt_of_le (HMF.out k hk).2 HSZ.out, .inl rfl, .inr (.inl rfl), .inr (.inr rfl), HNE.out.1, HNE.out.2.1, HNE.out.2.2⟩);clear hrf2 hrg2 HT RF CP CQ CH0 CH1 HFL HMF;have CH0 := ι (HC0.out.kg KE.out);have CH1 := ι (HC1.out.kg KE.out);go_upto_region 11 with (fail);refine wp_region_list ?_;refine Rg.lr 40 (exec_fieldG _ rfl rfl) ?_;go_frame;refine Rg.lr 41 (Rg.exec_load (v := .slice ga ll.length gc) _ _ rfl ⟨w.heap.size, 1, none⟩ rfl (Rg.run_loadSl _ _ Try.underlying24 CH1.out.cell)) ?_;go_frame
 refine Rg.lr 42 (exec_len _ _ _ rfl Try.underlying24 _ _ _ rfl) ?_;go_frame;refine Rg.lr 43 (Rg.xm (.int .i64 ((0 : Nat) : Int)) _ rfl rfl) ?_;go_frame;have HR0 := ι (show RS (fun z => z = w2.heap.size ∨ z = w3.heap.size ∨ z = w21.heap.size) F4 w2.heap.size w3.heap.size w21.heap.size n w32 (tabL n gs) m4 V4 (.slice a2 gs.length c2) (gs ++ (gs.take 0).map Ma.invN) by rw [List.take_zero, List.map_nil, List.append_nil]; exact HRS.out);clear CH0 CH1 HRS;go_wp2
 go_loopw [10, 43] (fun v jv wr => ∃ (j : Nat) (F1 : Nat → Prop), jv = .int .i64 j ∧ j ≤ ll.length ∧ Hid (RS (fun z => z = w2.heap.size ∨ z = w3.heap.size ∨ z = w21.heap.size) F1 w2.heap.size w3.heap.size w21.heap.size n wr (tabL n gs) m4 V4 v (gs ++ (gs.take j).map Ma.invN)) ∧ Hid (KG (fun k => k < w2.heap.size) w2 F1 wr)) (fun _ jv _ => ll.length - (intOf jv).toNat)
 case atStart => exact ⟨0, _, rfl, Nat.zero_le _, HR0, KE⟩
 case round =>
  clear HR0 KE;obtain ⟨j, F, rfl, hj, HR, KE⟩ := hrel;obtain ⟨va, vc, hsv⟩ := HR.out.rw.shape;subst hsv;have hjg0 : gs.length = ll.length := HGL.out
  by_cases hjl : j < ll.length
  ·have hjN : (j : Int) < (ll.length : Int) := by omega
   have HJL := ι hjl
   have hjg : j < gs.length := by omega
   have HJG := ι hjg;have HTK := ι (show (gs ++ (gs.take j).map Ma.invN).length = gs.length + j by rw [List.length_append, List.length_map, List.length_take]; omega);have GE : GS (fun k => k < w2.heap.size) w2 (.slice ga ll.length gc) gs := GS.of_rows (by have := G0.out.rows; rw [show gs.map Ma.ofN = ll from HLL.out.symm]; exact this)
   have hga : ∃ gb go, ga = some ⟨gb, go, none⟩ := by
    obtain ⟨a, c, e, h1⟩ := GE;obtain ⟨b, o, e2, _⟩ := h1 (by omega)
    injection e with e _ _
    exact ⟨b, o, e.trans e2⟩
   obtain ⟨gb, go, rfl⟩ := hga;obtain ⟨u, hcu, hxu⟩ := GE.at hjg;obtain ⟨x, hx⟩ : ∃ x : List Nat, Hid (gs[j]'hjg = x) := ⟨_, ι rfl⟩
   replace hxu : FP (fun k => k < w2.heap.size) w2 u x := by rw [← hx.out]; exact hxu
   have GX := ι (HGD.out x (by rw [← hx.out]; exact List.getElem_mem hjg));have CU := ι (hcu.kg KE.out);have XU := ι (hxu.kg KE.out);clear hcu hxu GE;go_upto_region 12 with (fail);refine wp_region_list ?_;refine Rg.lr 44 (exec_bin (R := .bool true) .lss _ _ _ rfl rfl rfl (b_lss _ (decide_eq_true (by omega)))) ?_;go_frame;go_upto_region 13 with (fail);refine wp_region_list ?_;refine Rg.lr 45 (exec_indexS slPerms _ _ rfl gb (go) (ll.length) gc (j) rfl rfl HJL.out) ?_;go_frame;refine Rg.lr 46 (Rg.exec_load (v := u) _ _ rfl ⟨gb, go + j, none⟩ rfl (Rg.run_loadSl _ _ Try.underlying39 CU.out.cell)) ?_;go_frame;refine Rg.lr 12 (Rg.xa (u) _ rfl rfl) ?_;go_frame;go_upto_region 14 with (fail);refine wp_region_list ?_;refine Rg.lr 47 (Rg.xm (.slice va (gs ++ (gs.take j).map Ma.invN).length vc) _ rfl rfl) ?_;go_frame;refine Rg.lr 48 (Rg.xm (u) _ rfl rfl) ?_;go_frame;refine list_ask (some 49) rfl rfl _ _ (exec_fn1 121 _ _ rfl rfl (Vncl1 _ _)) ?_
   refine (chInv_f XU.out GX.out hn1 hn2).mono ?_;rintro e1 w101 ⟨iv, rfl, hiv, hb⟩;obtain ⟨jb, jo, jc, rfl⟩ := hiv.shape' (Cm.gd_inv GX.out) hn1;refine ⟨_, rfl, ?_⟩;go_frame;replace HR := ι (HR.out.up hb);replace CU := ι (CU.out.up hb);replace XU := ι (XU.out.up hb);replace KE := ι (KE.out.up hb);have IV := ι hiv;generalize Fup F wr w101 = F1 at *;clear hb;obtain ⟨a9, c9, X9, r1, r2, r3⟩ := HR.out.push IV.out ⟨_, _, _, rfl⟩ (by rw [HTK.out]; have := HL16.out; omega) 24;refine Rg.lr 50 (Rg.exec_buildSlice _ _ _ rfl (.slice (some ⟨jb, jo, none⟩) n jc) rfl (run_build1P w101 _ ⟨_, _, _, rfl⟩)) ?_;go_frame;refine Rg.lr 51 (Rg.exec_append _ _ _ rfl rfl rfl r1) ?_;go_frame;refine Rg.lr 10 (Rg.xa (.slice a9 ((gs ++ (gs.take j).map Ma.invN).length + 1) c9) _ rfl rfl) ?_;go_frame;have K2 := ι (KE.out.kf' r3)
   have HR2 := ι (show RS (fun z => z = w2.heap.size ∨ z = w3.heap.size ∨ z = w21.heap.size) _ w2.heap.size w3.heap.size w21.heap.size n X9 (tabL n gs) m4 V4 (.slice a9 ((gs ++ (gs.take j).map Ma.invN).length + 1) c9) (gs ++ (gs.take (j + 1)).map Ma.invN) by
    rw [List.take_succ_eq_append_getElem HJG.out, show gs[j]'HJG.out = x from hx.out, List.map_append, ← List.append_assoc]; exact r2)
   clear r1 r2 r3 hiv;go_wp2
   go_roundw
   case rel => exact ⟨j + 1, _, by go_num, HJL.out, HR2, K2⟩
   case measure => simp [intOf]; have := HJL.out; omega
  ·obtain rfl : j = ll.length := by omega
   have hjN : ¬ (ll.length : Int) < (ll.length : Int) := by omega
   rw [show gs.take ll.length = gs from List.take_of_length_le (by omega)] at HR ⊢;go_upto_region 12 with (fail);refine wp_region_list ?_;refine Rg.lr 44 (exec_bin (R := .bool false) .lss _ _ _ rfl rfl rfl (b_lss _ (decide_eq_false (by omega)))) ?_;go_frame;go_upto_region 16 with (fail);refine wp_region_list ?_;refine Rg.lr 53 (Rg.xm (.slice va (gs ++ gs.map Ma.invN).length vc) _ rfl rfl) ?_;go_frame;refine Rg.lr 54 (exec_len _ _ _ rfl Try.underlying24 _ _ _ rfl) ?_;go_frame;refine Rg.lr 13 (exec_allocI rfl) ?_;go_frame;refine Rg.list_skip none rfl rfl (Rg.exec_store _ _ _ rfl _ rfl _ rfl (run_storeInt _ (CW.new wr (.int .i64 0) 3).c (CW.new wr (.int .i64 0) 3).f)) ?_;go_frame
   have HLN : (gs ++ gs.map Ma.invN).length = ll.length + ll.length := by rw [List.length_append, List.length_map]; omega
   obtain ⟨hrs9, hcm9, hb9⟩ := HR.out.cell (.int .i64 0) (.int .i64 (((gs ++ gs.map Ma.invN).length : Nat) : Int)) 3;have HR9 := ι hrs9;have CM := ι hcm9;have K9 := ι (KE.out.bel hb9);obtain ⟨M4, hM4⟩ : ∃ M4 : Nat → Prop, Hid ((fun z => (fun z => z = w2.heap.size ∨ z = w3.heap.size ∨ z = w21.heap.size) z ∨ z = wr.heap.size) = M4) := ⟨_, ι rfl⟩;rw [hM4.out] at HR9;have HMB := ι (show M4 wr.heap.size by rw [← hM4.out]; exact .inr rfl);have HMN := ι (show wr.heap.size ≠ w2.heap.size ∧ wr.heap.size ≠ w21.heap.size from ⟨fun e => by have := HR.out.lt _ HR.out.mt; omega, fun e => by have := HR.out.lt _ HR.out.mq; omega⟩);generalize (wr.alloc (.cells #[.int .i64 0] 3)).setCell ⟨wr.heap.size, 0, none⟩ (.int .i64 (((gs ++ gs.map Ma.invN).length : Nat) : Int)) = w200 at *;generalize wr.heap.size = mb at *;clear hrs9 hcm9 hb9 HR KE hM4;go_upto_region 17 with (fail);refine wp_region_list ?_;refine Rg.lr 55 (exec_makeFunc (v := .pointer (some ⟨mb, 0, none⟩)) _ _ rfl rfl) ?_;go_frame
   refine Rg.lr 14 (Rg.xa (.func (.func 122) #[] #[.pointer (some ⟨mb, 0, none⟩)]) _ rfl rfl) ?_;go_frame;go_upto_region 18 with (fail);refine wp_region_list ?_;refine Rg.lr 15 (Rg.xa (.int .i64 ((0 : Nat) : Int)) _ rfl rfl) ?_;go_frame;obtain ⟨sl0, hsl0⟩ : ∃ l, Hid (gs ++ gs.map Ma.invN = l) := ⟨_, ι rfl⟩;rw [hsl0.out] at HR9 CM HLN;rw [HLN] at CM;obtain ⟨st0, hst0⟩ : ∃ s, Hid (startR n gs = s) := ⟨_, ι rfl⟩;have HX1 := ι (show st0.1 = sl0 by rw [← hst0.out, ← hsl0.out]; rfl);have HX2 := ι (show st0.2 = tabL n gs by rw [← hst0.out]; rfl);have HSL := ι (show st0.1.length = ll.length + ll.length by rw [HX1.out]; exact HLN)
   have HRL := ι (show RS M4 F w2.heap.size w3.heap.size w21.heap.size n w200 st0.2 m4 V4 (.slice va (ll.length + ll.length) vc) st0.1 by
    rw [HX2.out, HX1.out, ← HLN]; exact HR9.out)
   have HM5 := ι (show m4 ≤ 16 + 0 by have := HM4.out; have := HL16.out; omega);clear HR9;rw [hsl0.out, HLN];go_wp2
   go_loopw [15] (fun kv wr => ∃ (k m' : Nat) (F1 : Nat → Prop) (V : Nat → Nat → Value), kv = .int .i64 ((2 * k : Nat) : Int) ∧ 2 * k ≤ nums.length ∧ (gs = [] → k = 0) ∧ Hid (m' ≤ 16 + k) ∧ Hid (RS M4 F1 w2.heap.size w3.heap.size w21.heap.size n wr (stR n st0 nums k).2 m' V (.slice va (ll.length + ll.length) vc) (stR n st0 nums k).1) ∧ Hid (CW wr mb (.int .i64 ((ll.length + ll.length : Nat) : Int))) ∧ Hid (KG (fun k => k < w2.heap.size) w2 F1 wr)) (fun kv _ => nums.length - (intOf kv).toNat)
   case atStart => exact ⟨0, m4, _, _, rfl, Nat.zero_le _, fun _ => rfl, HM5, HRL, CM, K9⟩
   case round =>
    clear HRL CM K9 HM5;obtain ⟨k, m', F, V, rfl, hk, hk0, HM', HR, CM, KE⟩ := hrel
    have hnl : nums.length ≤ 1000 := by have := HLG.out; omega
    by_cases hge : gs = []
    case pos =>
     obtain rfl := hk0 hge
     have hll0 : ll.length = 0 := by have := HGL.out; rw [hge] at this; simpa using this.symm
     have hsN : ¬ (0 : Int) < ((ll.length + ll.length : Nat) : Int) := by omega
     have HEND := ι (show (stR n st0 nums 0).2 = endR n gs nums by unfold endR stepsR; rw [if_pos hge, hst0.out]);go_upto_region 19 with (fail);refine wp_region_list ?_;refine Rg.lr 56 (Rg.exec_load (v := .int .i64 (((ll.length + ll.length) : Nat) : Int)) _ _ rfl ⟨mb, 0, none⟩ rfl (run_loadInt CM.out.c)) ?_;go_frame;refine Rg.lr 57 (exec_bin (R := .bool false) .gtr _ _ _ rfl rfl rfl (b_gtr _ (decide_eq_false (by omega)))) ?_;go_frame;refine Rg.lr 58 (Rg.xm (.bool false) _ rfl rfl) ?_;go_frame;refine listW_pass (some 59) (by kernel_rfl) rfl ?_;go_frame;refine listW_pass (some 60) (by kernel_rfl) rfl ?_;go_frame;refine listW_pass (some 61) (by kernel_rfl) rfl ?_;go_frame;refine listW_pass (some 62) (by kernel_rfl) rfl ?_;go_frame;refine listW_pass (some 63) (by kernel_rfl) rfl ?_;go_frame;refine Rg.lr 64 (exec_pickF (v := .bool false) _ _ _ rfl rfl rfl) ?_;go_frame;rw [HEND.out] at HR;have HRI := ι (endR_ok HGD.out nums)
     obtain ⟨lE, hlE, _⟩ := HRI.out.tl;have OKE := ι hlE.ok;have HT := ι HR.out.ht;have CP := ι HR.out.cp;clear hlE HR;have HM7 := ι (show m' < 1000000000000 by have := HM'.out; omega);go_upto_region 25 with (fail);refine wp_region_list ?_;refine Rg.lr 100 (Rg.exec_load (v := .pointer (some ⟨w2.heap.size, 0, none⟩)) _ _ rfl ⟨w3.heap.size, 0, none⟩ rfl (Rg.run_loadPtr _ _ Try.underlying146 CP.out.c)) ?_;go_frame;refine list_ask (some 101) rfl rfl _ _ (exec_fn1 124 _ _ rfl rfl (Ylcl5 _ _)) ?_;refine (pclosed_any hn1 hn2 HM7.out HT.out OKE.out.rp).mono ?_;rintro e1 w351 ⟨bC, rfl, hbc, hb⟩;have HBC := ι hbc;clear hbc;refine ⟨_, rfl, ?_⟩;go_frame;replace HT := ι (HT.out.below hb);replace CP := ι (CP.out.below hb);replace KE := ι (KG.bel KE.out hb);clear hb;refine Rg.lr 102 (exec_not _ _ bC rfl rfl) ?_;go_frame;have hbk : Below w2.heap.size w2 w351 := KE.out.kf.below (Nat.le_refl _) (fun _ h => h)
     have FT := ι (FT0.out.below hbk);have G9 := ι (G0.out.below hbk);have K := ι (show Below w.heap.size w w351 from (KB.out.trans (hbk.mono KB.out.size)));clear hbk KE
     cases bC with
     | false =>
      have HNC := ι (show ¬ PClosed n (endR n gs nums) from fun h => by have := HBC.out.2 h; cases this);have HRC := ι (show rndc ((n : Nat) : Int) ll nums = 13 by rw [HLL.out]; exact rndc_no (by rw [← HLL.out]; exact HZ.out) HLG.out HNC.out);go_upto_region 26 with (fail);refine wp_region_list ?_;refine Rg.lr 103 (exec_buildC0 rfl) ?_;go_frame;refine Rg.list_skip none rfl rfl (Rg.exec_store _ _ _ rfl _ rfl _ rfl (run_storeC _ _ _ _ _ _ _ FT.out)) ?_;go_frame;refine Rg.lr 5 (Rg.xa (.int .i64 ((13 : Nat) : Int)) _ rfl rfl) ?_;go_frame;have htt := FT.out.set (.int .i64 0) (.slice none 0 0) (.slice none 0 0);have hkf := ((K.out.setCell (p := ⟨w0.heap.size, 0, none⟩) HW0.out (.int .i64 0)).setCell (p := ⟨w0.heap.size, 1, none⟩) HW0.out (.slice none 0 0)).setCell (p := ⟨w0.heap.size, 2, none⟩) HW0.out (.slice none 0 0);generalize ((w351.setCell ⟨w0.heap.size, 0, none⟩ (.int .i64 0)).setCell ⟨w0.heap.size, 1, none⟩ (.slice none 0 0)).setCell ⟨w0.heap.size, 2, none⟩ (.slice none 0 0) = w99 at *
      have HTT := ι htt
      have HFI := ι (show RndPost ((n : Nat) : Int) ll nums w (.returned (.tuple #[zeroC, .int .i64 13])) w99 from
       ⟨_, by rw [HRC.out], .inl ⟨by rw [HRC.out]; decide, rfl⟩, hkf⟩)
      clear htt hkf;go_wp2;exact bodyPost_ret (results_cellC2 (p := 4) (u := 5) rfl _ rfl rfl HTT.out) rfl HFI.out
     | true =>
      have HPC := ι (HBC.out.1 rfl);have HRC := ι (show rndc ((n : Nat) : Int) ll nums = 0 by rw [HLL.out]; exact rndc_yes (by rw [← HLL.out]; exact HZ.out) HLG.out HPC.out);clear HT CP;go_upto_region 27 with (fail);refine wp_region_list ?_;refine Rg.lr 104 (exec_fieldG0 _ rfl rfl) ?_;go_frame;refine Rg.lr 105 (Rg.exec_load (v := .int .i64 ((n : Nat) : Int)) _ _ rfl ⟨w.heap.size, 0, none⟩ rfl (run_loadInt G9.out.c0)) ?_;go_frame;refine Rg.lr 106 (exec_fieldG _ rfl rfl) ?_;go_frame;refine Rg.lr 107 (Rg.exec_load (v := .slice ga ll.length gc) _ _ rfl ⟨w.heap.size, 1, none⟩ rfl (Rg.run_loadSl _ _ Try.underlying24 G9.out.c1)) ?_;go_frame;have HWB := ι FT.out.lt;refine list_ask (some 108) rfl rfl _ _ (exec_fn 76 _ _ _ rfl rfl rfl (Wbcl1 _ _)) ?_;refine (build_b hn1 hn2 (by have := G9.out.rows; rw [show gs.map Ma.ofN = ll from HLL.out.symm]; exact this) HGD.out (by have := HGL.out; have := HL16.out; omega)).mono ?_
      rintro e1 w352 ⟨tb, L, F1, T1, V1, rfl, hT1, hc01, hc11, hB1, hb⟩;have HB := ι hB1;have HWC := ι (Nat.lt_of_lt_of_le HWB.out hb.size);refine ⟨_, rfl, ?_⟩;go_frame;replace FT := ι (FT.out.below hb);replace G9 := ι (G9.out.below hb);replace K := ι (Rg.acc K.out hb);clear hb;have HT := ι hT1;have C0 := ι hc01;have C1 := ι hc11;clear hT1 hc01 hc11 hB1;refine list_ask (some 109) rfl rfl _ _ (exec_fn1 77 _ _ rfl rfl (Wbcl2 _ _)) ?_;refine (chain_any hn1 hn2 HT.out C0.out C1.out (Cm.Gr.isG HGD.out) (HB.out.isTr (by omega) HGD.out) (fun j hj => (HB.out.full j hj).1)).mono ?_;rintro e1 w353 ⟨ov, rv, O, R, rfl, hO, hR, hCh, hb⟩;obtain ⟨oa, oc, rfl, _⟩ := hO.rows.shape;obtain ⟨ra, rc, rfl⟩ := hR.rows.shape;have HO := ι hO;have HR := ι hR;have HCH := ι hCh;clear hO hR hCh;refine ⟨_, rfl, ?_⟩;go_frame;replace FT := ι (FT.out.below hb);replace G9 := ι (G9.out.below hb);replace HT := ι (HT.out.below hb)
      replace C0 := ι (C0.out.below hb);replace C1 := ι (C1.out.below hb);replace K := ι (Rg.acc K.out hb);clear hb;refine Rg.list_skip none rfl rfl (Rg.exec_store _ _ _ rfl _ rfl _ rfl (run_storeC _ _ _ _ _ _ _ FT.out)) ?_;go_frame;refine Rg.lr 5 (Rg.xa (.int .i64 ((0 : Nat) : Int)) _ rfl rfl) ?_;go_frame;have htt := FT.out.set (.int .i64 ((n : Nat) : Int)) (.slice oa (O.map Ma.ofN).length oc) (.slice ra (R.map (List.map Ma.ofN)).length rc);have hkt := Rg.Kp.trans (Rg.Kp.trans (Rg.Kp.of_setCell (M := fun z => z = w0.heap.size) (w := w353) (a := ⟨w0.heap.size, 0, none⟩) (v := .int .i64 ((n : Nat) : Int)) rfl) (Rg.Kp.of_setCell (M := fun z => z = w0.heap.size) (a := ⟨w0.heap.size, 1, none⟩) (v := (.slice oa (O.map Ma.ofN).length oc)) rfl) (fun _ _ e => e)) (Rg.Kp.of_setCell (M := fun z => z = w0.heap.size) (a := ⟨w0.heap.size, 2, none⟩) (v := (.slice ra (R.map (List.map Ma.ofN)).length rc)) rfl) (fun _ _ e => e)
      have hro := FRows.kp HO.out hkt (fun z g e => by have := HWC.out; omega);have hrr := HR.out.kp hkt (fun z g e => by have := HWC.out; omega);have hkf := ((K.out.setCell (p := ⟨w0.heap.size, 0, none⟩) HW0.out (.int .i64 ((n : Nat) : Int))).setCell (p := ⟨w0.heap.size, 1, none⟩) HW0.out (.slice oa (O.map Ma.ofN).length oc)).setCell (p := ⟨w0.heap.size, 2, none⟩) HW0.out (.slice ra (R.map (List.map Ma.ofN)).length rc);generalize ((w353.setCell ⟨w0.heap.size, 0, none⟩ (.int .i64 ((n : Nat) : Int))).setCell ⟨w0.heap.size, 1, none⟩ (.slice oa (O.map Ma.ofN).length oc)).setCell ⟨w0.heap.size, 2, none⟩ (.slice ra (R.map (List.map Ma.ofN)).length rc) = w99 at *;have HTT := ι htt
      have HFI := ι (show RndPost ((n : Nat) : Int) ll nums w (.returned (.tuple #[.agg #[.int .i64 ((n : Nat) : Int), (.slice oa (O.map Ma.ofN).length oc), (.slice ra (R.map (List.map Ma.ofN)).length rc)], .int .i64 0])) w99 from
       ⟨_, by rw [HRC.out], .inr ⟨HRC.out, n, gs, rfl, HLL.out, hn1, hn2, _, _, O, R, rfl, FRows.rows hro, hrr.rows, HCH.out⟩, hkf⟩)
      clear htt hkt hro hrr hkf;go_wp2;exact bodyPost_ret (results_cellC2 (p := 4) (u := 5) rfl _ rfl rfl HTT.out) rfl HFI.out
    case neg =>
     have hgl1 : 1 ≤ gs.length := List.length_pos_iff.2 hge
     have hsN : (0 : Int) < ((ll.length + ll.length : Nat) : Int) := by have := HGL.out; omega
     by_cases hkl : 2 * k + 1 < nums.length
     case pos =>
      obtain ⟨st, hst⟩ : ∃ s, Hid (stR n st0 nums k = s) := ⟨_, ι rfl⟩;rw [hst.out] at HR
      have hsl : st.1.length = ll.length + ll.length := by rw [← hst.out, stR_len]; exact HSL.out
      have HSK := ι hsl;have HRI := ι (show RI n (· ∈ gs) st by rw [← hst.out]; exact RI.all HGD.out (hst0.out ▸ RI.start HGD.out) (by rw [HSL.out]; omega) nums k);obtain ⟨lk, hlk, _⟩ := HRI.out.tl;have HLK := ι hlk
      have hL0 : 0 < ll.length + ll.length := by omega
      have hL1 : ll.length + ll.length ≤ 1000000 := by have := HL16.out; omega
      have hp1 := pickV_range (x := nums[2 * k]) (n := ((ll.length + ll.length : Nat) : Int)) (by omega);have hp2 := pickV_range (x := nums[2 * k + 1]) (n := ((ll.length + ll.length : Nat) : Int)) (by omega);obtain ⟨i, hi⟩ : ∃ i : Nat, Hid (pickV nums[2 * k] ((ll.length + ll.length : Nat) : Int) = ((i : Nat) : Int)) := ⟨_, ι (Int.toNat_of_nonneg hp1.1).symm⟩;obtain ⟨j, hj⟩ : ∃ j : Nat, Hid (pickV nums[2 * k + 1] ((ll.length + ll.length : Nat) : Int) = ((j : Nat) : Int)) := ⟨_, ι (Int.toNat_of_nonneg hp2.1).symm⟩
      have hiL : i < ll.length + ll.length := by rw [hi.out] at hp1; omega
      have hjL : j < ll.length + ll.length := by rw [hj.out] at hp2; omega
      have HIL := ι (show i < st.1.length by omega);have HJL := ι (show j < st.1.length by omega);have NE : NF F wr (.slice na nums.length nc) nums := HNF.out.kg KE.out;obtain ⟨nb, no, rfl, hcn⟩ := NE.at (by omega);have CN1 := ι (hcn (2 * k) (by omega));have CN2 := ι (hcn (2 * k + 1) hkl);obtain ⟨g, c, ua, e1, e2, e3⟩ := HR.out.rw.at HIL.out;rw [hsl] at e1
      injection e1 with e1a _ e1c
      subst e1a e1c;obtain ⟨g', c', ub, e1', e2', e3'⟩ := HR.out.rw.at HJL.out;simp only [Value.slice.injEq, Option.some.injEq, Addr.mk.injEq, and_true, true_and] at e1';obtain ⟨e1a, _⟩ := e1';subst e1a;have CA := ι e2;have UA := ι e3;have CB := ι e2';have UB := ι e3';have GA := ι ((Cm.Gr.isG HGD.out).gd _ (HRI.out.gr _ (List.getElem_mem HIL.out)));have GB := ι ((Cm.Gr.isG HGD.out).gd _ (HRI.out.gr _ (List.getElem_mem HJL.out)));clear e2 e3 e2' e3' hcn hlk hp1 hp2 hsl NE;go_upto_region 19 with (fail);refine wp_region_list ?_;refine Rg.lr 56 (Rg.exec_load (v := .int .i64 (((ll.length + ll.length) : Nat) : Int)) _ _ rfl ⟨mb, 0, none⟩ rfl (run_loadInt CM.out.c)) ?_;go_frame;refine Rg.lr 57 (exec_bin (R := .bool true) .gtr _ _ _ rfl rfl rfl (b_gtr _ (decide_eq_true (by omega)))) ?_;go_frame;refine Rg.lr 58 (Rg.xm (.bool true) _ rfl rfl) ?_;go_frame;refine listW_run (some 59) rfl rfl (Rg.xm (.int .i64 (((2 * k) : Nat) : Int)) _ rfl rfl) ?_;go_frame
      refine listW_run (some 60) rfl rfl (exec_bin (R := .int .i64 (((2 * k + 1) : Nat) : Int)) .add _ _ _ rfl rfl rfl (b_add _ (by omega) (by omega))) ?_;go_frame;refine listW_run (some 61) rfl rfl (Rg.xm (.slice (some ⟨nb, no, none⟩) nums.length nc) _ rfl rfl) ?_;go_frame;refine listW_run (some 62) rfl rfl (exec_len _ _ _ rfl Try.underlying22 _ _ _ rfl) ?_;go_frame;refine listW_run (some 63) rfl rfl (exec_bin (R := .bool true) .lss _ _ _ rfl rfl rfl (b_lss _ (decide_eq_true (by omega)))) ?_;go_frame;refine Rg.lr 64 (exec_pickT (v := .bool true) _ _ _ rfl rfl rfl) ?_;go_frame;go_upto_region 21 with (fail);refine wp_region_list ?_;refine Rg.lr 67 (Rg.xm (.func (.func 122) #[] #[.pointer (some ⟨mb, 0, none⟩)]) _ rfl rfl) ?_;go_frame;refine Rg.lr 68 (Rg.xm (.slice (some ⟨nb, no, none⟩) nums.length nc) _ rfl rfl) ?_;go_frame;refine Rg.lr 69 (Rg.xm (.int .i64 (((2 * k) : Nat) : Int)) _ rfl rfl) ?_;go_frame
      refine Rg.lr 70 (exec_indexS slInts _ _ rfl nb (no) (nums.length) nc ((2 * k)) rfl rfl (by omega)) ?_;go_frame;refine Rg.lr 71 (Rg.exec_load (v := .int .i64 nums[2 * k]) _ _ rfl ⟨nb, no + (2 * k), none⟩ rfl (run_loadInt CN1.out.cell)) ?_;go_frame;refine list_ask (some 72) rfl rfl _ _ (exec_fnc1 _ _ _ _ rfl rfl rfl (Ylcl4 _ _)) ?_;refine (mod_i hL0 hL1 CM.out hi).mono ?_;rintro e1 w221 ⟨rfl, hb⟩;refine ⟨_, rfl, ?_⟩;go_frame;replace HR := ι (HR.out.up hb);replace CM := ι (CM.out.up hb);replace CN1 := ι (CN1.out.up hb);replace CN2 := ι (CN2.out.up hb);replace CA := ι (CA.out.up hb);replace CB := ι (CB.out.up hb);replace UA := ι (UA.out.up hb);replace UB := ι (UB.out.up hb);replace KE := ι (KE.out.up hb);generalize Fup F wr w221 = F61 at *;clear hb;refine Rg.lr 16 (Rg.xa (.int .i64 ((i : Nat) : Int)) _ rfl rfl) ?_;go_frame;go_upto_region 22 with (fail);have hV0 : Below w221.heap.size w221 w221.drew := (Below.refl _ _).drew
      replace HR := ι (HR.out.up hV0);replace CM := ι (CM.out.up hV0);replace CN1 := ι (CN1.out.up hV0);replace CN2 := ι (CN2.out.up hV0);replace CA := ι (CA.out.up hV0);replace CB := ι (CB.out.up hV0);replace UA := ι (UA.out.up hV0);replace UB := ι (UB.out.up hV0);replace KE := ι (KE.out.up hV0);generalize Fup F61 w221 w221.drew = F62 at *;clear hV0;refine Rg.Any.begin (S := Rg.Both 18 (fun W => Below w221.drew.heap.size w221.drew W) (fun _ => True)) mix ?_;generalize w221.drew = w222 at *;have hS : ∀ (l : Array Bool) W, Below w222.heap.size w222 W → Rg.Both 18 (fun W => Below w222.heap.size w222 W) (fun _ => True) l W := fun l W h => ⟨.inr h, trivial⟩;have hS2 : ∀ (l : Array Bool) W, l.getD 18 false = true → Rg.Both 18 (fun W => Below w222.heap.size w222 W) (fun _ => True) l W := fun l W h => ⟨.inl h, trivial⟩;have hI : Below w222.heap.size w222 w222 := Below.refl _ _;have CB0 := CB;refine Rg.tg 0 18 (.slice (some ⟨g, 0, none⟩) (ll.length + ll.length) vc) 73 rfl rfl (.inl ⟨rfl, fun w _ => Rg.exec_move (v := .slice (some ⟨g, 0, none⟩) (ll.length + ll.length) vc) _ rfl rfl⟩) (hS _ _ hI) ?_;go_frame
      refine Rg.tg 1 18 (.int .i64 ((i : Nat) : Int)) 74 rfl rfl (.inl ⟨rfl, fun w _ => Rg.exec_move (v := .int .i64 ((i : Nat) : Int)) _ rfl rfl⟩) (hS _ _ hI) ?_;go_frame;refine Rg.tg 2 18 (.slice (some ⟨g, 0, none⟩) (ll.length + ll.length) vc) 75 rfl rfl (.inl ⟨rfl, fun w _ => Rg.exec_move (v := .slice (some ⟨g, 0, none⟩) (ll.length + ll.length) vc) _ rfl rfl⟩) (hS _ _ hI) ?_;go_frame;refine Rg.tg 3 18 (.int .i64 ((i : Nat) : Int)) 76 rfl rfl (.inl ⟨rfl, fun w _ => Rg.exec_move (v := .int .i64 ((i : Nat) : Int)) _ rfl rfl⟩) (hS _ _ hI) ?_;go_frame;refine Rg.tg 4 18 (.pointer (some ⟨g, 0 + i, none⟩)) 77 rfl rfl (Rg.yields_index slPerms _ _ rfl rfl g (0) ((ll.length + ll.length)) vc (i) rfl rfl hiL) (hS _ _ hI) ?_;go_frame;refine Rg.Any.takeT (i := 5) (t := 18) (v := ua) (some 78) rfl rfl (by kernel_rfl) (by kernel_rfl) (by kernel_rfl) (fun _ _ _ h => h) rfl (by kernel_rfl) rfl (Rg.yields_cell _ _ rfl rfl ⟨g, 0 + i, none⟩ rfl (fun W hW => Rg.run_loadSl _ _ Try.underlying39 ((Below.cell (p := ⟨g, 0 + i, none⟩) hW CA.out.lt).trans CA.out.cell))) (hS _ _ hI) ?_;go_frame
      refine Rg.tg 6 18 (.slice (some ⟨g, 0, none⟩) (ll.length + ll.length) vc) 79 rfl rfl (.inl ⟨rfl, fun w _ => Rg.exec_move (v := .slice (some ⟨g, 0, none⟩) (ll.length + ll.length) vc) _ rfl rfl⟩) (hS _ _ hI) ?_;go_frame;refine Rg.tg 7 18 (.func (.func 122) #[] #[.pointer (some ⟨mb, 0, none⟩)]) 80 rfl rfl (.inl ⟨rfl, fun w _ => Rg.exec_move (v := .func (.func 122) #[] #[.pointer (some ⟨mb, 0, none⟩)]) _ rfl rfl⟩) (hS _ _ hI) ?_;go_frame;refine Rg.tg 8 18 (.slice (some ⟨nb, no, none⟩) nums.length nc) 81 rfl rfl (.inl ⟨rfl, fun w _ => Rg.exec_move (v := .slice (some ⟨nb, no, none⟩) nums.length nc) _ rfl rfl⟩) (hS _ _ hI) ?_;go_frame;refine Rg.tg 9 18 (.int .i64 (((2 * k) : Nat) : Int)) 82 rfl rfl (.inl ⟨rfl, fun w _ => Rg.exec_move (v := .int .i64 (((2 * k) : Nat) : Int)) _ rfl rfl⟩) (hS _ _ hI) ?_;go_frame;refine Rg.tg 10 18 (.int .i64 (((2 * k + 1) : Nat) : Int)) 83 rfl rfl (.inl ⟨rfl, fun w _ => exec_bin (R := .int .i64 (((2 * k + 1) : Nat) : Int)) .add _ _ _ rfl rfl rfl (b_add _ (by omega) (by omega))⟩) (hS _ _ hI) ?_;go_frame
      refine Rg.tg 11 18 (.pointer (some ⟨nb, no + (2 * k + 1), none⟩)) 84 rfl rfl (Rg.yields_index slInts _ _ rfl rfl nb (no) (nums.length) nc ((2 * k + 1)) rfl rfl (by omega)) (hS _ _ hI) ?_;go_frame;refine Rg.Any.takeT (i := 12) (t := 18) (v := .int .i64 nums[2 * k + 1]) (some 85) rfl rfl (by kernel_rfl) (by kernel_rfl) (by kernel_rfl) (fun _ _ _ h => h) rfl (by kernel_rfl) rfl (Rg.yields_cell _ _ rfl rfl ⟨nb, no + (2 * k + 1), none⟩ rfl (fun W hW => run_loadInt ((Below.cell (p := ⟨nb, no + (2 * k + 1), none⟩) hW CN2.out.lt).trans CN2.out.cell))) (hS _ _ hI) ?_;go_frame;refine Rg.Any.one (i := 13) (by kernel_rfl) (Rg.Any.ask (some 86) rfl rfl rfl _ _ (exec_fnc1 _ _ _ _ rfl rfl rfl (Ylcl4 _ _)) ?_);refine (mod_i hL0 hL1 CM.out hj).mono ?_;rintro e1 w223 ⟨rfl, hb⟩;have hI2_u := Rg.acc hI hb;clear hI;replace HR := ι (HR.out.up hb);replace CM := ι (CM.out.up hb);replace CN1 := ι (CN1.out.up hb)
      replace CN2 := ι (CN2.out.up hb);replace CA := ι (CA.out.up hb);replace CB := ι (CB.out.up hb);replace UA := ι (UA.out.up hb);replace UB := ι (UB.out.up hb);replace KE := ι (KE.out.up hb);generalize Fup F62 w222 w223 = F63 at *;clear hb;refine ⟨_, rfl, (hS _ _ hI2_u), ?_⟩;go_frame;refine Rg.tg 14 18 (.pointer (some ⟨g, 0 + j, none⟩)) 87 rfl rfl (Rg.yields_index slPerms _ _ rfl rfl g (0) ((ll.length + ll.length)) vc (j) rfl rfl hjL) (hS _ _ hI2_u) ?_;go_frame;refine Rg.Any.takeT (i := 15) (t := 18) (v := ub) (some 88) rfl rfl (by kernel_rfl) (by kernel_rfl) (by kernel_rfl) (fun _ _ _ h => h) rfl (by kernel_rfl) rfl (Rg.yields_cell _ _ rfl rfl ⟨g, 0 + j, none⟩ rfl (fun W hW => Rg.run_loadSl _ _ Try.underlying39 ((Below.cell (p := ⟨g, 0 + j, none⟩) hW CB0.out.lt).trans CB0.out.cell))) (hS _ _ hI2_u) ?_;go_frame;refine Rg.Any.one (i := 16) (by kernel_rfl) (Rg.Any.ask (some 89) rfl rfl rfl _ _ (exec_fn 123 _ _ _ rfl rfl rfl (Vmcl0 _ _)) ?_)
      refine (chMul_f UA.out UB.out GA.out GB.out hn1 hn2).mono ?_;rintro e1 w224 ⟨mv, rfl, hmv, hb⟩;obtain ⟨mb1, mo, mc, rfl⟩ := hmv.shape' (Cm.gd_mul GA.out GB.out) hn1;have hI3_u := Rg.acc hI2_u hb;clear hI2_u;replace HR := ι (HR.out.up hb);replace CM := ι (CM.out.up hb);replace CN1 := ι (CN1.out.up hb);replace CN2 := ι (CN2.out.up hb);replace CA := ι (CA.out.up hb);replace CB := ι (CB.out.up hb);replace UA := ι (UA.out.up hb);replace UB := ι (UB.out.up hb);replace KE := ι (KE.out.up hb);have XV := ι hmv;generalize Fup F63 w223 w224 = F64 at *;clear hb;refine ⟨_, rfl, (hS _ _ hI3_u), ?_⟩;go_frame;refine Rg.tg 17 18 (.pointer (some ⟨g, 0 + i, none⟩)) 90 rfl rfl (Rg.yields_index slPerms _ _ rfl rfl g (0) ((ll.length + ll.length)) vc (i) rfl rfl hiL) (hS _ _ hI3_u) ?_;go_frame;refine Rg.Any.one (i := 18) (by kernel_rfl) (Rg.Any.runSkip none rfl rfl rfl (Rg.exec_store _ _ _ rfl _ rfl _ rfl (Rg.run_storeSl _ infoPerm CA.out.cell (HR.out.rw.frozen HSK.out.symm _))) (hS2 _ _ rfl) ?_)
      go_frame;refine Rg.Any.done (by kernel_rfl) ?_ _;clear hS2;clear hS hI3_u;obtain ⟨hr2, hkf2⟩ := HR.out.set HSK.out.symm (0 + i) XV.out;have hkp2 : Rg.Kp (fun z => z = g) w224 (w224.setCell ⟨g, 0 + i, none⟩ (.slice (some ⟨mb1, mo, none⟩) n mc)) := Rg.Kp.of_setCell rfl;have K2 := ι (KE.out.kf' hkf2);have XV2 := ι (XV.out.kf hkf2);have CM2 := ι (CM.out.kp hkp2 (fun e => (HR.out.rw.off g rfl).2 (e ▸ HMB.out)));have CA2 := ι (CL.mk (World.cell?_setCell_same (v := .slice (some ⟨mb1, mo, none⟩) n mc) (h := CA.out.cell) ..) (Nat.lt_of_lt_of_le CA.out.lt hkp2.size));have HR2 := ι hr2;generalize w224.setCell ⟨g, 0 + i, none⟩ (.slice (some ⟨mb1, mo, none⟩) n mc) = w250 at *;clear hr2 hkp2 hkf2 hmv HR KE XV CA CM CB UA UB CN1 CN2;go_upto_region 23 with (fail);have hV0 : Below w250.heap.size w250 w250.drew := (Below.refl _ _).drew;replace HR2 := ι (HR2.out.up hV0);replace XV2 := ι (XV2.out.up hV0)
      replace CA2 := ι (CA2.out.up hV0);replace CM2 := ι (CM2.out.up hV0);replace K2 := ι (K2.out.up hV0);generalize Fup F64 w250 w250.drew = F81 at *;clear hV0;refine Rg.Any.begin (S := Rg.Both 7 (fun W => Below w250.drew.heap.size w250.drew W) (fun _ => True)) mix ?_;generalize w250.drew = w251 at *;have hS : ∀ (l : Array Bool) W, Below w251.heap.size w251 W → Rg.Both 7 (fun W => Below w251.heap.size w251 W) (fun _ => True) l W := fun l W h => ⟨.inr h, trivial⟩;have hS2 : ∀ (l : Array Bool) W, l.getD 7 false = true → Rg.Both 7 (fun W => Below w251.heap.size w251 W) (fun _ => True) l W := fun l W h => ⟨.inl h, trivial⟩;have hI : Below w251.heap.size w251 w251 := Below.refl _ _;refine Rg.Any.takeT (i := 0) (t := 7) (v := .slice none 0 0) (some 91) rfl rfl (by kernel_rfl) (by kernel_rfl) (by kernel_rfl) (fun _ _ _ h => h) rfl (by kernel_rfl) rfl (Rg.yields_cell _ _ rfl rfl ⟨w21.heap.size, 0, none⟩ rfl (fun W hW => Rg.run_loadSl _ _ Try.underlying24 ((Below.cell (p := ⟨w21.heap.size, 0, none⟩) hW HR2.out.cq.lt).trans HR2.out.cq.c))) (hS _ _ hI) ?_;go_frame
      refine Rg.tg 1 7 (.slice (some ⟨g, 0, none⟩) (ll.length + ll.length) vc) 92 rfl rfl (.inl ⟨rfl, fun w _ => Rg.exec_move (v := .slice (some ⟨g, 0, none⟩) (ll.length + ll.length) vc) _ rfl rfl⟩) (hS _ _ hI) ?_;go_frame;refine Rg.tg 2 7 (.int .i64 ((i : Nat) : Int)) 93 rfl rfl (.inl ⟨rfl, fun w _ => Rg.exec_move (v := .int .i64 ((i : Nat) : Int)) _ rfl rfl⟩) (hS _ _ hI) ?_;go_frame;refine Rg.tg 3 7 (.pointer (some ⟨g, 0 + i, none⟩)) 94 rfl rfl (Rg.yields_index slPerms _ _ rfl rfl g (0) ((ll.length + ll.length)) vc (i) rfl rfl hiL) (hS _ _ hI) ?_;go_frame;refine Rg.Any.takeT (i := 4) (t := 7) (v := .slice (some ⟨mb1, mo, none⟩) n mc) (some 95) rfl rfl (by kernel_rfl) (by kernel_rfl) (by kernel_rfl) (fun _ _ _ h => h) rfl (by kernel_rfl) rfl (Rg.yields_cell _ _ rfl rfl ⟨g, 0 + i, none⟩ rfl (fun W hW => Rg.run_loadSl _ _ Try.underlying39 ((Below.cell (p := ⟨g, 0 + i, none⟩) hW CA2.out.lt).trans CA2.out.cell))) (hS _ _ hI) ?_;go_frame
      obtain ⟨a9, c9, X9, r1, r2, r3, r4⟩ := HR2.out.fill XV2.out ⟨_, _, _, rfl⟩ 24;have hI4_m := Rg.acc hI (r2);refine Rg.Any.one (i := 5) (by kernel_rfl) (Rg.Any.run (some 96) rfl rfl rfl (Rg.exec_buildSlice _ _ _ rfl (.slice (some ⟨mb1, mo, none⟩) n mc) rfl (run_build1P w251 _ ⟨_, _, _, rfl⟩)) (hS _ _ hI4_m) ?_);go_frame;have hI5_m := Rg.acc hI4_m (r3);refine Rg.Any.one (i := 6) (by kernel_rfl) (Rg.Any.run (some 97) rfl rfl rfl (Rg.exec_append _ _ _ rfl rfl rfl r1) (hS _ _ hI5_m) ?_);go_frame;have r23 := Rg.acc r2 r3;refine Rg.Any.one (i := 7) (by kernel_rfl) (Rg.Any.runSkip none rfl rfl rfl (Rg.exec_store _ _ _ rfl _ rfl _ rfl (Rg.run_storeSl _ infoPermsV (HR2.out.cq.below r23).c (HR2.out.cq.below r23).f)) (hS2 _ _ rfl) ?_);go_frame;refine Rg.Any.done (by kernel_rfl) ?_ _;clear hS2;clear hS hI5_m;have HR3 := HR2.out.below r23;obtain ⟨t1, t2, t3, t4, t5, hkq, hkf3⟩ := HR3.wait r4;have RX := ι t1
      have HT3 := ι t2;have CP3 := ι t3;have CQ3 := ι t4;have RL3 := ι t5;have HNF3 := ι HR3.nF;have HLT3 := ι (show ∀ k, M4 k → k < (X9.setCell ⟨w21.heap.size, 0, none⟩ (.slice a9 1 c9)).heap.size from fun k hk => Nat.lt_of_lt_of_le (HR3.lt k hk) hkq.size);have HMT := ι HR3.mt;have HMP := ι HR3.mp;have HMQ := ι HR3.mq;have K3 := ι ((K2.out.bel r23).kf' hkf3);have CM3 := ι ((CM2.out.below r23).kp hkq HMN.out.2);generalize X9.setCell ⟨w21.heap.size, 0, none⟩ (.slice a9 1 c9) = w270 at *;clear t1 t2 t3 t4 t5 hkq hkf3 HR3 r1 r2 r3 r4 r23 HR2 XV2 CA2 CM2 K2
      have HGX := ι (show ∀ x ∈ [(Ma.mulN (st.1[i]'HIL.out) (st.1[j]'HJL.out))], Cm.Gr n (· ∈ gs) x from fun x hx => by
       rw [List.mem_singleton] at hx;subst hx
       exact .mul _ _ (HRI.out.gr _ (List.getElem_mem HIL.out)) (HRI.out.gr _ (List.getElem_mem HJL.out)))
      go_upto_region 24 with (fail);refine wp_region_list ?_;refine Rg.lr 98 (Rg.xm (.func (.func 119) #[] #[.pointer (some ⟨w21.heap.size, 0, none⟩), .pointer (some ⟨w3.heap.size, 0, none⟩)]) _ rfl rfl) ?_;go_frame;refine list_ask (some 99) rfl rfl _ _ (exec_fnc0 _ _ _ rfl rfl (Ylcl2 _ _)) ?_;refine (chDrain_any (m := m') HGD.out hn1 hn2 (by have := HM'.out; omega) HT3.out HLK.out HGX.out (RX.out.less fun k e => e ▸ HMT.out) (by simp) CP3.out CQ3.out HNE.out.1 HNE.out.2.1 (HNF3.out _ HMQ.out)).mono ?_;rintro e1 w271 ⟨F6, V6, m6, rfl, hki, hpt6, hm6, hcq6, htl6⟩;have hrs6 := RS.drained HT3.out RL3.out CP3.out HNF3.out HLT3.out HMT.out HMP.out HMQ.out HNE.out.1 HNE.out.2.1 HNE.out.2.2 hki hpt6 hcq6
      have hcm6 := CM3.out.kp hki.kp (by rintro (e | e); exact HMN.out.1 e; exact HMN.out.2 e)
      have hkg := hki.kg;have HM6 := ι (show m6 ≤ 16 + (k + 1) by have := HM'.out; simp at hm6; omega);clear hki hpt6 hm6 hcq6 htl6 HLT3 HNF3;refine ⟨_, rfl, ?_⟩;go_frame;clear HT3;clear CP3;clear CQ3;clear RX;clear RL3;clear CM3;replace K3 := ι (K3.out.trans hkg);have HR6 := ι hrs6;have CM6 := ι hcm6;clear hkg;clear hrs6 hcm6
      have hst2 : stR n st0 nums (k + 1) = (st.1.set i (Ma.mulN (st.1[i]'HIL.out) (st.1[j]'HJL.out)), ins1 n st.2 (Ma.mulN (st.1[i]'HIL.out) (st.1[j]'HJL.out))) := by
       show stepR n (stR n st0 nums k) _ _ = _
       have e1 : nums.getD (2 * k) 0 = nums[2 * k] := by rw [List.getD_eq_getElem?_getD, List.getElem?_eq_getElem (by omega)]; rfl
       have e2 : nums.getD (2 * k + 1) 0 = nums[2 * k + 1] := by rw [List.getD_eq_getElem?_getD, List.getElem?_eq_getElem (by omega)]; rfl
       rw [hst.out, e1, e2];exact stepR_eq HSK.out hi.out hj.out HIL.out HJL.out
      have HR7 := ι (show RS M4 F6 w2.heap.size w3.heap.size w21.heap.size n w271 (stR n st0 nums (k + 1)).2 m6 V6 (.slice (some ⟨g, 0, none⟩) (ll.length + ll.length) vc) (stR n st0 nums (k + 1)).1 by
       rw [hst2];have := HR6.out;rw [Nat.zero_add] at this
       exact this)
      clear hst2 HR6;go_wp2
      go_roundw
      case rel => exact ⟨k + 1, m6, _, _, by go_num, by omega, fun e => absurd e hge, HM6, HR7, CM6, K3⟩
      case measure => simp [intOf]; omega
     case neg =>
      have HEND := ι (show (stR n st0 nums k).2 = endR n gs nums by unfold endR stepsR; rw [if_neg hge, hst0.out, show nums.length / 2 = k by omega]);go_upto_region 19 with (fail);refine wp_region_list ?_;refine Rg.lr 56 (Rg.exec_load (v := .int .i64 (((ll.length + ll.length) : Nat) : Int)) _ _ rfl ⟨mb, 0, none⟩ rfl (run_loadInt CM.out.c)) ?_;go_frame;refine Rg.lr 57 (exec_bin (R := .bool true) .gtr _ _ _ rfl rfl rfl (b_gtr _ (decide_eq_true (by omega)))) ?_;go_frame;refine Rg.lr 58 (Rg.xm (.bool true) _ rfl rfl) ?_;go_frame;refine listW_run (some 59) rfl rfl (Rg.xm (.int .i64 (((2 * k) : Nat) : Int)) _ rfl rfl) ?_;go_frame;refine listW_run (some 60) rfl rfl (exec_bin (R := .int .i64 (((2 * k + 1) : Nat) : Int)) .add _ _ _ rfl rfl rfl (b_add _ (by omega) (by omega))) ?_;go_frame;refine listW_run (some 61) rfl rfl (Rg.xm (.slice na nums.length nc) _ rfl rfl) ?_;go_frame;refine listW_run (some 62) rfl rfl (exec_len _ _ _ rfl Try.underlying22 _ _ _ rfl) ?_;go_frame
      refine listW_run (some 63) rfl rfl (exec_bin (R := .bool false) .lss _ _ _ rfl rfl rfl (b_lss _ (decide_eq_false (by omega)))) ?_;go_frame;refine Rg.lr 64 (exec_pickT (v := .bool false) _ _ _ rfl rfl rfl) ?_;go_frame;rw [HEND.out] at HR;have HRI := ι (endR_ok HGD.out nums);obtain ⟨lE, hlE, _⟩ := HRI.out.tl;have OKE := ι hlE.ok;have HT := ι HR.out.ht;have CP := ι HR.out.cp;clear hlE HR;have HM7 := ι (show m' < 1000000000000 by have := HM'.out; omega);go_upto_region 25 with (fail);refine wp_region_list ?_;refine Rg.lr 100 (Rg.exec_load (v := .pointer (some ⟨w2.heap.size, 0, none⟩)) _ _ rfl ⟨w3.heap.size, 0, none⟩ rfl (Rg.run_loadPtr _ _ Try.underlying146 CP.out.c)) ?_;go_frame;refine list_ask (some 101) rfl rfl _ _ (exec_fn1 124 _ _ rfl rfl (Ylcl5 _ _)) ?_;refine (pclosed_any hn1 hn2 HM7.out HT.out OKE.out.rp).mono ?_;rintro e1 w351 ⟨bC, rfl, hbc, hb⟩;have HBC := ι hbc;clear hbc;refine ⟨_, rfl, ?_⟩
      go_frame;replace HT := ι (HT.out.below hb);replace CP := ι (CP.out.below hb);replace KE := ι (KG.bel KE.out hb);clear hb;refine Rg.lr 102 (exec_not _ _ bC rfl rfl) ?_;go_frame;have hbk : Below w2.heap.size w2 w351 := KE.out.kf.below (Nat.le_refl _) (fun _ h => h);have FT := ι (FT0.out.below hbk);have G9 := ι (G0.out.below hbk);have K := ι (show Below w.heap.size w w351 from (KB.out.trans (hbk.mono KB.out.size)));clear hbk KE
      cases bC with
      | false =>
       have HNC := ι (show ¬ PClosed n (endR n gs nums) from fun h => by have := HBC.out.2 h; cases this);have HRC := ι (show rndc ((n : Nat) : Int) ll nums = 13 by rw [HLL.out]; exact rndc_no (by rw [← HLL.out]; exact HZ.out) HLG.out HNC.out);go_upto_region 26 with (fail);refine wp_region_list ?_;refine Rg.lr 103 (exec_buildC0 rfl) ?_;go_frame;refine Rg.list_skip none rfl rfl (Rg.exec_store _ _ _ rfl _ rfl _ rfl (run_storeC _ _ _ _ _ _ _ FT.out)) ?_;go_frame;refine Rg.lr 5 (Rg.xa (.int .i64 ((13 : Nat) : Int)) _ rfl rfl) ?_;go_frame;have htt := FT.out.set (.int .i64 0) (.slice none 0 0) (.slice none 0 0);have hkf := ((K.out.setCell (p := ⟨w0.heap.size, 0, none⟩) HW0.out (.int .i64 0)).setCell (p := ⟨w0.heap.size, 1, none⟩) HW0.out (.slice none 0 0)).setCell (p := ⟨w0.heap.size, 2, none⟩) HW0.out (.slice none 0 0);generalize ((w351.setCell ⟨w0.heap.size, 0, none⟩ (.int .i64 0)).setCell ⟨w0.heap.size, 1, none⟩ (.slice none 0 0)).setCell ⟨w0.heap.size, 2, none⟩ (.slice none 0 0) = w99 at *
       have HTT := ι htt
       have HFI := ι (show RndPost ((n : Nat) : Int) ll nums w (.returned (.tuple #[zeroC, .int .i64 13])) w99 from
        ⟨_, by rw [HRC.out], .inl ⟨by rw [HRC.out]; decide, rfl⟩, hkf⟩)
       clear htt hkf;go_wp2;exact bodyPost_ret (results_cellC2 (p := 4) (u := 5) rfl _ rfl rfl HTT.out) rfl HFI.out
      | true =>
       have HPC := ι (HBC.out.1 rfl);have HRC := ι (show rndc ((n : Nat) : Int) ll nums = 0 by rw [HLL.out]; exact rndc_yes (by rw [← HLL.out]; exact HZ.out) HLG.out HPC.out);clear HT CP;go_upto_region 27 with (fail);refine wp_region_list ?_;refine Rg.lr 104 (exec_fieldG0 _ rfl rfl) ?_;go_frame;refine Rg.lr 105 (Rg.exec_load (v := .int .i64 ((n : Nat) : Int)) _ _ rfl ⟨w.heap.size, 0, none⟩ rfl (run_loadInt G9.out.c0)) ?_;go_frame;refine Rg.lr 106 (exec_fieldG _ rfl rfl) ?_;go_frame;refine Rg.lr 107 (Rg.exec_load (v := .slice ga ll.length gc) _ _ rfl ⟨w.heap.size, 1, none⟩ rfl (Rg.run_loadSl _ _ Try.underlying24 G9.out.c1)) ?_;go_frame;have HWB := ι FT.out.lt;refine list_ask (some 108) rfl rfl _ _ (exec_fn 76 _ _ _ rfl rfl rfl (Wbcl1 _ _)) ?_;refine (build_b hn1 hn2 (by have := G9.out.rows; rw [show gs.map Ma.ofN = ll from HLL.out.symm]; exact this) HGD.out (by have := HGL.out; have := HL16.out; omega)).mono ?_
       rintro e1 w352 ⟨tb, L, F1, T1, V1, rfl, hT1, hc01, hc11, hB1, hb⟩;have HB := ι hB1;have HWC := ι (Nat.lt_of_lt_of_le HWB.out hb.size);refine ⟨_, rfl, ?_⟩;go_frame;replace FT := ι (FT.out.below hb);replace G9 := ι (G9.out.below hb);replace K := ι (Rg.acc K.out hb);clear hb;have HT := ι hT1;have C0 := ι hc01;have C1 := ι hc11;clear hT1 hc01 hc11 hB1;refine list_ask (some 109) rfl rfl _ _ (exec_fn1 77 _ _ rfl rfl (Wbcl2 _ _)) ?_;refine (chain_any hn1 hn2 HT.out C0.out C1.out (Cm.Gr.isG HGD.out) (HB.out.isTr (by omega) HGD.out) (fun j hj => (HB.out.full j hj).1)).mono ?_;rintro e1 w353 ⟨ov, rv, O, R, rfl, hO, hR, hCh, hb⟩;obtain ⟨oa, oc, rfl, _⟩ := hO.rows.shape;obtain ⟨ra, rc, rfl⟩ := hR.rows.shape;have HO := ι hO;have HR := ι hR;have HCH := ι hCh;clear hO hR hCh;refine ⟨_, rfl, ?_⟩;go_frame;replace FT := ι (FT.out.below hb);replace G9 := ι (G9.out.below hb);replace HT := ι (HT.out.below hb)
       replace C0 := ι (C0.out.below hb);replace C1 := ι (C1.out.below hb);replace K := ι (Rg.acc K.out hb);clear hb;refine Rg.list_skip none rfl rfl (Rg.exec_store _ _ _ rfl _ rfl _ rfl (run_storeC _ _ _ _ _ _ _ FT.out)) ?_;go_frame;refine Rg.lr 5 (Rg.xa (.int .i64 ((0 : Nat) : Int)) _ rfl rfl) ?_;go_frame;have htt := FT.out.set (.int .i64 ((n : Nat) : Int)) (.slice oa (O.map Ma.ofN).length oc) (.slice ra (R.map (List.map Ma.ofN)).length rc);have hkt := Rg.Kp.trans (Rg.Kp.trans (Rg.Kp.of_setCell (M := fun z => z = w0.heap.size) (w := w353) (a := ⟨w0.heap.size, 0, none⟩) (v := .int .i64 ((n : Nat) : Int)) rfl) (Rg.Kp.of_setCell (M := fun z => z = w0.heap.size) (a := ⟨w0.heap.size, 1, none⟩) (v := (.slice oa (O.map Ma.ofN).length oc)) rfl) (fun _ _ e => e)) (Rg.Kp.of_setCell (M := fun z => z = w0.heap.size) (a := ⟨w0.heap.size, 2, none⟩) (v := (.slice ra (R.map (List.map Ma.ofN)).length rc)) rfl) (fun _ _ e => e)
       have hro := FRows.kp HO.out hkt (fun z g e => by have := HWC.out; omega);have hrr := HR.out.kp hkt (fun z g e => by have := HWC.out; omega);have hkf := ((K.out.setCell (p := ⟨w0.heap.size, 0, none⟩) HW0.out (.int .i64 ((n : Nat) : Int))).setCell (p := ⟨w0.heap.size, 1, none⟩) HW0.out (.slice oa (O.map Ma.ofN).length oc)).setCell (p := ⟨w0.heap.size, 2, none⟩) HW0.out (.slice ra (R.map (List.map Ma.ofN)).length rc);generalize ((w353.setCell ⟨w0.heap.size, 0, none⟩ (.int .i64 ((n : Nat) : Int))).setCell ⟨w0.heap.size, 1, none⟩ (.slice oa (O.map Ma.ofN).length oc)).setCell ⟨w0.heap.size, 2, none⟩ (.slice ra (R.map (List.map Ma.ofN)).length rc) = w99 at *;have HTT := ι htt
       have HFI := ι (show RndPost ((n : Nat) : Int) ll nums w (.returned (.tuple #[.agg #[.int .i64 ((n : Nat) : Int), (.slice oa (O.map Ma.ofN).length oc), (.slice ra (R.map (List.map Ma.ofN)).length rc)], .int .i64 0])) w99 from
        ⟨_, by rw [HRC.out], .inr ⟨HRC.out, n, gs, rfl, HLL.out, hn1, hn2, _, _, O, R, rfl, FRows.rows hro, hrr.rows, HCH.out⟩, hkf⟩)
       clear htt hkt hro hrr hkf;go_wp2;exact bodyPost_ret (results_cellC2 (p := 4) (u := 5) rfl _ rfl rfl HTT.out) rfl HFI.out
end Go.Proofs.Ytcfomoknlchemaa

namespace Go.Proofs.Ytcfomoknlchemaa
open Go.RowKit
open Go.Proofs
attribute [local irreducible] Go.Calls
theorem isNaNC_any (x : Int) (w : World) : Calls Try.prog 186 #[.int .i64 x] w fun e w' => e = .returned (.bool false) ∧ w' = w := by
 go_enter Try.func186, Try.ntmps186
 go_wp2;go_ret;exact ⟨by simp, rfl⟩
theorem isNaNS_any (x : Int) (w : World) : Calls Try.prog 173 #[.int .i64 x] w fun e w' => e = .returned (.bool false) ∧ w' = w := by
 go_enter Try.func173, Try.ntmps173
 go_wp2;go_ret;exact ⟨by simp, rfl⟩
theorem cmpLess_any (x y : Int) (w : World) : Calls Try.prog 172 #[.int .i64 x, .int .i64 y] w fun e w' => e = .returned (.bool (decide (x < y))) ∧ w' = w := by
 go_enter Try.func172, Try.ntmps172
 go_wp2_with (go_at_call 186; refine (isNaNC_any _ _).mono ?_; rintro e w' ⟨rfl, rfl⟩)
 go_ret;exact ⟨rfl, rfl⟩
theorem search_any (v : Value) (l : List Int) (x : Int) (w : World) (h : Rg.Ints w v l) (hs : l.Pairwise (· ≤ ·)) (hbig : l.length < 1000000) :
  Calls Try.prog 133 #[v, .int .i64 x] w fun e w' => e = .returned (.tuple #[.int .i64 ((l.countP (· < x) : Nat) : Int), .bool (l.contains x)]) ∧ Below w.heap.size w w' := by
 obtain ⟨ad, cap, rfl, hcap, _, _, hcell⟩ := h.shape;have S := ι (show ∀ a b, a ≤ b → b < l.length → l.getD a 0 ≤ l.getD b 0 from Lib.sorted_at l l.length (Nat.le_refl _) (by rw [List.take_length]; exact hs));have HC := ι hcell;clear hs h hcell hcap
 go_enter Try.func133, Try.ntmps133
 go_wp2
 go_loopg [7, 8] l.length (fun g s7 s8 wr => ∃ lo hi : Nat, s7 = .int .i64 lo ∧ s8 = .int .i64 hi ∧ lo ≤ hi ∧ hi ≤ l.length ∧ hi - lo ≤ g ∧ wr = w ∧ Hid ((∀ t, t < lo → l.getD t 0 < x) ∧ (∀ t, hi ≤ t → t < l.length → x ≤ l.getD t 0)))
 case atStart => exact ⟨0, l.length, rfl, rfl, Nat.zero_le _, Nat.le_refl _, by omega, rfl, ι ⟨fun t ht => absurd ht (Nat.not_lt_zero _), fun t h1 h2 => by omega⟩⟩
 case round =>
  obtain ⟨lo, hi, rfl, rfl, hlh, hin, hg, rfl, I⟩ := hrel
  by_cases hlt : lo < hi
  ·obtain ⟨b, off, rfl, hb, hc⟩ := HC.out (by omega)
   have cm : wr.cell? ⟨b, off + (lo + hi) / 2, none⟩ = some (.int .i64 (l.getD ((lo + hi) / 2) 0)) := by
    rw [hc ((lo + hi) / 2) (by omega), List.getD_eq_getElem?_getD, List.getElem?_eq_getElem (by omega)]; rfl
   clear hc;generalize hy : l.getD ((lo + hi) / 2) 0 = y at cm;have Y := ι hy;clear hy
   by_cases hyx : y < x
   ·go_wp2_with (first | (go_at_call 172; refine (cmpLess_any _ _ _).mono ?_; rintro e w' ⟨rfl, rfl⟩) | (go_at_call 173; refine (isNaNS_any _ _).mono ?_; rintro e w' ⟨rfl, rfl⟩))
    go_roundg (hi - ((lo + hi) / 2 + 1))
    case measure => omega
    case rel =>
     refine ⟨(lo + hi) / 2 + 1, hi, by rw [show ((lo : Int) + (hi : Int)) / 2 + 1 = (((lo + hi) / 2 + 1 : Nat) : Int) by omega], rfl, by omega, hin, Nat.le_refl _, rfl, ι ⟨fun t ht => ?_, I.out.2⟩⟩;have := S.out t ((lo + hi) / 2) (by omega) (by omega);rw [Y.out] at this;omega
   ·go_wp2_with (first | (go_at_call 172; refine (cmpLess_any _ _ _).mono ?_; rintro e w' ⟨rfl, rfl⟩) | (go_at_call 173; refine (isNaNS_any _ _).mono ?_; rintro e w' ⟨rfl, rfl⟩))
    go_roundg ((lo + hi) / 2 - lo)
    case measure => omega
    case rel =>
     refine ⟨lo, (lo + hi) / 2, rfl, by rw [show ((lo : Int) + (hi : Int)) / 2 = (((lo + hi) / 2 : Nat) : Int) by omega], by omega, by omega, Nat.le_refl _, rfl, ι ⟨I.out.1, fun t ht htn => ?_⟩⟩;have := S.out ((lo + hi) / 2) t ht htn;rw [Y.out] at this;omega
  ·have : hi = lo := by omega
   subst this;have E := ι (Lib.search_end l l.length hi x (Nat.le_refl _) hin I.out.1 I.out.2 S.out);rw [List.take_length] at E
   by_cases hn : hi < l.length
   ·obtain ⟨b, off, rfl, hb, hc⟩ := HC.out (by omega)
    have cl : wr.cell? ⟨b, off + hi, none⟩ = some (.int .i64 (l.getD hi 0)) := by
     rw [hc hi hn, List.getD_eq_getElem?_getD, List.getElem?_eq_getElem hn]; rfl
    clear hc;generalize hy : l.getD hi 0 = y at cl;have Y := ι hy;clear hy
    by_cases hyx : y = x
    ·go_wp2_with (first | (go_at_call 172; refine (cmpLess_any _ _ _).mono ?_; rintro e w' ⟨rfl, rfl⟩) | (go_at_call 173; refine (isNaNS_any _ _).mono ?_; rintro e w' ⟨rfl, rfl⟩))
     go_ret2
     refine ⟨?_, Below.refl _ _⟩;rw [E.out.1, E.out.2, Y.out, decide_eq_true (show hi < l.length ∧ y = x from ⟨hn, hyx⟩)]
     first | rfl | simp [*]
    ·go_wp2_with (first | (go_at_call 172; refine (cmpLess_any _ _ _).mono ?_; rintro e w' ⟨rfl, rfl⟩) | (go_at_call 173; refine (isNaNS_any _ _).mono ?_; rintro e w' ⟨rfl, rfl⟩))
     go_ret2
     refine ⟨?_, Below.refl _ _⟩;rw [E.out.1, E.out.2, Y.out, decide_eq_false (show ¬ (hi < l.length ∧ y = x) from fun h => hyx h.2)]
     first | rfl | simp [*]
   ·go_wp2_with (first | (go_at_call 172; refine (cmpLess_any _ _ _).mono ?_; rintro e w' ⟨rfl, rfl⟩) | (go_at_call 173; refine (isNaNS_any _ _).mono ?_; rintro e w' ⟨rfl, rfl⟩))
    go_ret2
    refine ⟨?_, Below.refl _ _⟩;rw [E.out.1, E.out.2, decide_eq_false (show ¬ (hi < l.length ∧ l.getD hi 0 = x) from fun h => hn h.1)]
    first | rfl | simp [*]
end Go.Proofs.Ytcfomoknlchemaa

namespace Go.Proofs.Ytcfomoknlchemaa
open Go.Proofs
open Go.Proofs.Cm (Gr Gd IsChain IsG St Tr Fx ap Rp IsTr Sd sfP Lst)
def trC (O : List (List Nat)) (R : List (List (List Nat))) : Tr := fun i p => if p ∈ O.getD i [] then some ((R.getD i []).getD ((O.getD i []).idxOf p) []) else none
theorem trC_some {O : List (List Nat)} {R : List (List (List Nat))} {i p : Nat} (h : p ∈ O.getD i []) : trC O R i p = some ((R.getD i []).getD ((O.getD i []).idxOf p) []) := if_pos h
theorem trC_none {O : List (List Nat)} {R : List (List (List Nat))} {i p : Nat} (h : ¬ p ∈ O.getD i []) : trC O R i p = none := if_neg h
theorem trC_mem {O : List (List Nat)} {R : List (List (List Nat))} {i p : Nat} {u : List Nat} (h : trC O R i p = some u) : p ∈ O.getD i [] ∧ u = (R.getD i []).getD ((O.getD i []).idxOf p) [] := by
 unfold trC at h
 split at h
 ·rename_i hm; injection h with h; exact ⟨hm, h.symm⟩
 ·cases h
theorem getD_idx {l : List Nat} {p : Nat} (h : p ∈ l) : l.getD (l.idxOf p) 0 = p := by
 have hl := List.idxOf_lt_length_of_mem h;rw [List.getD_eq_getElem?_getD, List.getElem?_eq_getElem hl];exact List.getElem_idxOf hl
theorem trC_lst {n : Nat} {H : List Nat → Prop} {O : List (List Nat)} {R : List (List (List Nat))} (h : IsChain n H O R) {i p : Nat} (hi : i < n) {u : List Nat} (hu : trC O R i p = some u) : Lst n (fun z => St H i z ∧ ap z i = p) u := by
 obtain ⟨hm, rfl⟩ := trC_mem hu;have := h.rep i _ hi (List.idxOf_lt_length_of_mem hm)
 rwa [getD_idx hm] at this
theorem one_least {n : Nat} {H : List Nat → Prop} (hH : IsG n H) {i : Nat} (hi : i < n) {u : List Nat} (h : Lst n (fun z => St H i z ∧ ap z i = i) u) : u = Ma.oneN n := by
 have hg := hH.gd u h.1.1.1
 rcases h.2 (Ma.oneN n) ⟨⟨hH.one, Fx.one (by omega)⟩, Cm.ap_one hi⟩ with e | ⟨j, hj, h1, h2⟩
 ·exact e.symm
 ·rw [Cm.ap_one hj] at h2
  have h3 := h1 _ h2;rw [Cm.ap_one (by omega)] at h3;have := Cm.ap_inj hg (by omega) hj h3;omega
theorem trC_isTr {n : Nat} {H : List Nat → Prop} (hH : IsG n H) {O : List (List Nat)} {R : List (List (List Nat))} (h : IsChain n H O R) : IsTr n H (trC O R) := by
 refine ⟨⟨fun i p u _ hi hu => hH.gd u (trC_lst h hi hu).1.1.1, fun i p u _ hi hu => (trC_lst h hi hu).1.1.2, fun i p u _ hi hu => (trC_lst h hi hu).1.2, fun i _ hi => ?_⟩, fun i p u hi hu => (trC_lst h hi hu).1.1.1, fun i x hi hx => ?_⟩
 ·have hm : i ∈ O.getD i [] := (h.orb i i hi).2 ⟨Ma.oneN n, ⟨hH.one, Fx.one (by omega)⟩, Cm.ap_one hi⟩
  have e := trC_some (R := R) hm;rw [e];exact congrArg some (one_least hH hi (trC_lst h hi e))
 ·exact ⟨_, trC_some ((h.orb i _ hi).2 ⟨x, hx, rfl⟩)⟩
theorem asc_count : ∀ {l : List Nat} {p : Nat}, l.Pairwise (· < ·) → p ∈ l → (Ma.ofN l).countP (· < ((p : Nat) : Int)) = l.idxOf p
 | [], p, _, h => by simp at h
 | a :: l, p, hs, h => by
  rw [List.pairwise_cons] at hs;show (((a : Nat) : Int) :: Ma.ofN l).countP _ = _;rw [List.countP_cons]
  by_cases e : a = p
  ·subst e
   have : (Ma.ofN l).countP (fun x => decide (x < ((a : Nat) : Int))) = 0 := by
    rw [List.countP_eq_zero];intro x hx;obtain ⟨y, hy, rfl⟩ := List.mem_map.1 hx;have := hs.1 y hy;simp;omega
   rw [this];simp
  ·have hm : p ∈ l := by
    rcases List.mem_cons.1 h with h | h
    ·exact absurd h.symm e
    ·exact h
   have hlt := hs.1 p hm;rw [asc_count hs.2 hm, List.idxOf_cons, if_pos (by simp; omega)]
   have : (a == p) = false := by simpa using e
   rw [this]; rfl
theorem ofN_contains {l : List Nat} {p : Nat} : (Ma.ofN l).contains ((p : Nat) : Int) = decide (p ∈ l) := by
 rw [Bool.eq_iff_iff, List.contains_iff_mem, decide_eq_true_iff]
 constructor
 ·intro h
  obtain ⟨y, hy, e⟩ := List.mem_map.1 h
  have : y = p := by omega
  exact this ▸ hy
 ·intro h
  exact List.mem_map.2 ⟨p, h, rfl⟩
theorem asc_le {l : List Nat} (h : l.Pairwise (· < ·)) : (Ma.ofN l).Pairwise (· ≤ ·) := by
 unfold Ma.ofN;rw [List.pairwise_map];exact h.imp (fun {a b} h => by omega)
def siC (n : Nat) (O : List (List Nat)) (R : List (List (List Nat))) (x : List Nat) : Nat × List Nat := sfP n (trC O R) n x
theorem siC_le {n : Nat} {O : List (List Nat)} {R : List (List (List Nat))} (x : List Nat) : (siC n O R x).1 ≤ n := by
 have key : ∀ d x, (sfP n (trC O R) d x).1 ≤ n := by
  intro d
  induction d with
  | zero => intro x; exact Nat.le_refl _
  | succ d ih =>
   intro x
   show (match trC O R (n - (d + 1)) (ap x (n - (d + 1))) with | none => (n - (d + 1), x) | some u => sfP n (trC O R) d (Ma.mulN x (Ma.invN u))).1 ≤ n
   split
   ·exact Nat.sub_le _ _
   ·exact ih _
 exact key n x
theorem siC_all {n : Nat} {H : List Nat → Prop} (hH : IsG n H) {O : List (List Nat)} {R : List (List (List Nat))} (h : IsChain n H O R) {x : List Nat} (gx : Gd n x) : (siC n O R x).1 = n ↔ H x := by
 have ht := trC_isTr hH h
 constructor
 ·intro e
  have key : ∀ d x, d ≤ n → Gd n x → (sfP n (trC O R) d x).1 = n → H (sfP n (trC O R) d x).2 → H x := by
   intro d
   induction d with
   | zero => intro x _ _ _ h; exact h
   | succ d ih =>
    intro x hd gx he hx
    cases hu : trC O R (n - (d + 1)) (ap x (n - (d + 1))) with
    | none =>
     rw [Cm.sfP_none hu] at he;simp at he;omega
    | some u =>
     rw [Cm.sfP_some hu] at he hx;have hmu := ht.mem _ _ _ (by omega) hu;have gu := hH.gd u hmu;have := ih _ (by omega) (Cm.gd_mul gx (Cm.gd_inv gu)) he hx;have h2 := hH.mul _ _ this hmu
     rwa [Cm.mul_inv_cancel gx gu] at h2
  have hone : (sfP n (trC O R) n x).2 = Ma.oneN n := by
   have h1 := Cm.sfP_all ht.rp (d := n) (x := x) (Nat.le_refl _) (Nat.zero_le _) gx (by rw [Nat.sub_self]; intro j hj; omega);refine Fx.all h1.2.2.1 ?_;have h2 := h1.2.2.2.1;have e2 : (sfP n (trC O R) n x).1 = n := e
   rwa [e2] at h2
  exact key n x (Nat.le_refl _) gx e (by rw [hone]; exact hH.one)
 ·intro hx
  have key : ∀ d x, d ≤ n → St H (n - d) x → (sfP n (trC O R) d x).1 = n := by
   intro d
   induction d with
   | zero => intro x _ _; rfl
   | succ d ih =>
    intro x hd hx;obtain ⟨u, hu⟩ := ht.all (n - (d + 1)) x (by omega) hx;rw [Cm.sfP_some hu];have gx := hH.gd x hx.1;have hs := Cm.step_fx ht.rp (Nat.zero_le _) (by omega) gx hx.2 hu;refine ih _ (by omega) ⟨hH.mul _ _ hx.1 (hH.inv _ (ht.mem _ _ _ (by omega) hu)), ?_⟩;rw [show n - d = n - (d + 1) + 1 by omega];exact hs.2
  exact key n x (Nat.le_refl _) ⟨hx, by rw [Nat.sub_self]; intro j hj; omega⟩
end Go.Proofs.Ytcfomoknlchemaa

namespace Go.Proofs.Ytcfomoknlchemaa
open Go.RowKit
open Go.Proofs
open Go.Shelf
open Go.Proofs.Cm (Tr Gd ap sfP)
attribute [local irreducible] Go.Calls Go.wpList
def siF (tr : Tr) : List Nat → List Nat → Option (List Nat)
 | [], x => some x
 | i :: l, x => match tr i (ap x i) with
  | none => none
  | some u => siF tr l (Ma.mulN x (Ma.invN u))
theorem siF_snoc (tr : Tr) : ∀ (l : List Nat) (x : List Nat) (i : Nat) {y u : List Nat}, siF tr l x = some y → tr i (ap y i) = some u → siF tr (l ++ [i]) x = some (Ma.mulN y (Ma.invN u))
 | [], x, i, y, u, h, h2 => by
  cases h
  show (match tr i (ap x i) with | none => none | some u => siF tr [] (Ma.mulN x (Ma.invN u))) = _
  rw [h2]; rfl
 | j :: l, x, i, y, u, h, h2 => by
  have h' : (match tr j (ap x j) with | none => none | some u => siF tr l (Ma.mulN x (Ma.invN u))) = some y := h
  show (match tr j (ap x j) with | none => none | some u => siF tr (l ++ [i]) (Ma.mulN x (Ma.invN u))) = _
  cases e : tr j (ap x j) with
  | none => rw [e] at h'; cases h'
  | some v =>
   rw [e] at h';exact siF_snoc tr l _ i h' h2
theorem siF_app (tr : Tr) : ∀ (l m : List Nat) (x : List Nat), siF tr (l ++ m) x = (siF tr l x).bind (siF tr m)
 | [], m, x => rfl
 | j :: l, m, x => by
  show (match tr j (ap x j) with | none => none | some u => siF tr (l ++ m) (Ma.mulN x (Ma.invN u))) = Option.bind (match tr j (ap x j) with | none => none | some u => siF tr l (Ma.mulN x (Ma.invN u))) _
  cases tr j (ap x j) with
  | none => rfl
  | some v => exact siF_app tr l m _
theorem siF_range {n : Nat} {tr : Tr} {x : List Nat} : ∀ {k : Nat} {y : List Nat}, k ≤ n → siF tr (List.range k) x = some y → sfP n tr n x = sfP n tr (n - k) y
 | 0, y, _, h => by cases h; rfl
 | k + 1, y, hk, h => by
  rw [List.range_succ, siF_app] at h
  cases e : siF tr (List.range k) x with
  | none => rw [e] at h; cases h
  | some z =>
   rw [e] at h;rw [siF_range (by omega) e]
   have h' : (match tr k (ap z k) with | none => none | some u => siF tr [] (Ma.mulN z (Ma.invN u))) = some y := h
   have ek : n - (n - (k + 1) + 1) = k := by omega
   rw [show n - k = n - (k + 1) + 1 by omega]
   cases e2 : tr k (ap z k) with
   | none => rw [e2] at h'; cases h'
   | some u =>
    rw [e2] at h'
    cases h'
    exact Cm.sfP_some (by rw [ek]; exact e2)
theorem siF_stop {n : Nat} {tr : Tr} {x y : List Nat} {k : Nat} (hk : k < n) (h : siF tr (List.range k) x = some y) (h2 : tr k (ap y k) = none) : sfP n tr n x = (k, y) := by
 rw [siF_range (Nat.le_of_lt hk) h, show n - k = n - (k + 1) + 1 by omega]
 have ek : n - (n - (k + 1) + 1) = k := by omega
 rw [Cm.sfP_none (by rw [ek]; exact h2), ek]
theorem siF_done {n : Nat} {tr : Tr} {x y : List Nat} (h : siF tr (List.range n) x = some y) : sfP n tr n x = (n, y) := by
 rw [siF_range (Nat.le_refl _) h, Nat.sub_self]; rfl
theorem siF_gd {n : Nat} {tr : Tr} (ht : ∀ i p u, i < n → tr i p = some u → Gd n u) : ∀ {l : List Nat} {x y : List Nat}, (∀ i ∈ l, i < n) → Gd n x → siF tr l x = some y → Gd n y
 | [], x, y, _, gx, h => by cases h; exact gx
 | i :: l, x, y, hl, gx, h => by
  have h' : (match tr i (ap x i) with | none => none | some u => siF tr l (Ma.mulN x (Ma.invN u))) = some y := h
  cases e : tr i (ap x i) with
  | none => rw [e] at h'; cases h'
  | some u =>
   rw [e] at h';exact siF_gd ht (fun j hj => hl j (List.mem_cons_of_mem _ hj)) (Cm.gd_mul gx (Cm.gd_inv (ht i _ u (hl i (List.mem_cons_self ..)) e))) h'
theorem finTo_val {m : Nat} : ∀ {k : Nat}, k ≤ m → (finTo m k).map (fun x => x.1) = List.range k
 | 0, _ => rfl
 | k + 1, h => by
  rw [finTo_succ h, List.map_append, finTo_val (Nat.le_of_succ_le h), List.range_succ]; rfl
theorem range_reps2 {g : Operand} {ps : Array Go.Tmp} {assign body : Code} {Q : Exit → Act → World → Prop} {a : Act} {w : World} {n₀ m cap fb : Nat} {ad : Option Addr} {RV : Nat → Value}
  (hg : a.eval g = .func (.func 134) #[] #[.pointer (some ⟨fb, 0, none⟩)]) (hfb : CL w fb 2 (.slice ad m cap)) (h : RV3 n₀ w ad m RV) (hps : ps.size = 2)
  (I : List (Fin m) → World → Prop) (Ix : Code → List (Fin m) → World → Prop) (hI : OwnFrom w.heap.size I) (hIx : ∀ c, OwnFrom w.heap.size (Ix c)) (h0 : I [] w) (a₁ : Fin m → Act)
  (hassign : ∀ (l : Nat) (x : Fin m) (W : World) (K : Act → World → Prop), K (a₁ x) W → assign.wpIn (Fence.wide.inRound l) 1 Try.prog (Exit.then K (fun _ _ _ => False)) { tmps := (ps.zip #[Value.int .i64 ((x.1 : Nat) : Int), RV x.1]).foldl (fun t (p, v) => t.setIfInBounds p v) a.tmps, defers := [] } W)
  (hbody : ∀ (l : Nat) (pre : List (Fin m)) (x : Fin m) (W : World), I pre W → pre.length < m → body.wpIn (Fence.wide.inRound l) 1 Try.prog (ownPostG w.heap.size (Below n₀) I Ix (pre ++ [x]) W) (a₁ x) W)
  (hdone : ∀ (D : Nat) (W : World), w.heap.size ≤ D → I (finTo m m) W → RF.Dfr D W → Q .normal { a with defers := RF.mark D :: a.defers } W)
  (hstop : ∀ (D : Nat) (c : Code) (k : Nat) (W : World), w.heap.size ≤ D → k ≤ m → Ix c (finTo m k) W → RF.Dfr D W → c.wp Try.prog Q { a with defers := RF.mark D :: a.defers } W) :
  (Code.rangeFunc g ps assign body).wp Try.prog Q a w :=
 wpIn_wide.1 (wpIn_rangeFunc_ownG (F := Fence.wide) (n := 3) rfl (by decide) (gf := 134) (lb := #[.pointer (some ⟨fb, 0, none⟩)]) hg trivial (enters_of Try.func134 (by kernel_rfl) rfl)
  (reps_stops h hfb 2 (by decide)) belowK_t (belowK_b h.sz) (Below.refl _ _) (fun _ => hps.symm) I Ix hI hIx h0 a₁ hassign hbody
  (fun D xs W hD hx hi hd => by subst hx; exact hdone D W hD hi hd) (fun D c pre W hD hp hi hd => by obtain ⟨k, hk, rfl⟩ := hp; exact wpIn_wide.2 (hstop D c k W hD hk hi hd)))
theorem cell_nc {W W' : World} {row : Option Nat} (hg : W.grownBy W' row) (hr : ∀ r, row = some r → ∃ o : Obj, W.heap[r]? = some o ∧ o.isCells = false) {a : Addr} {v : Value} (h : W.cell? a = some v) : W'.cell? a = some v := by
 have key : W'.heap[a.block]? = W.heap[a.block]? := by
  unfold World.cell? at h
  cases e : W.heap[a.block]? with
  | none => rw [e] at h; cases h
  | some o =>
   rw [e] at h;have hlt := (Array.getElem?_eq_some_iff.1 e).1;refine (hg.block _ hlt fun e2 => ?_).trans e;obtain ⟨o', ho, hc⟩ := hr _ e2.symm;rw [e] at ho
   cases ho
   cases o <;> simp at h <;> cases hc
 rw [World.cell?_of_block key];exact h
theorem fvals_nc {F : Nat → Prop} {W W' : World} {row : Option Nat} (hg : W.grownBy W' row) (hr : ∀ r, row = some r → ∃ o : Obj, W.heap[r]? = some o ∧ o.isCells = false) {v : Value} {us : List Value} (h : Rg.FVals F W v us) : Rg.FVals F W' v us := by
 obtain ⟨a, cap, e, h1, h2, h3, h4⟩ := h;refine ⟨a, cap, e, h1, h2, h3, fun h0 => ?_⟩;obtain ⟨b, o, e1, e2, e3, e4⟩ := h4 h0;exact ⟨b, o, e1, Nat.lt_of_lt_of_le e2 hg.size, e3, fun i hi => cell_nc hg hr (e4 i hi)⟩
theorem fp_nc {F : Nat → Prop} {W W' : World} {row : Option Nat} (hg : W.grownBy W' row) (hr : ∀ r, row = some r → ∃ o : Obj, W.heap[r]? = some o ∧ o.isCells = false) {v : Value} {p : List Nat} (h : FP F W v p) : FP F W' v p := fvals_nc hg hr h
def SfF (w : World) (z : Nat) : Prop := z < w.heap.size ∨ w.heap.size + 4 ≤ z
structure SfI (w : World) (n : Int) (ov rv : Value) (W : World) (yv : Value) (y : List Nat) : Prop where
 bel : Below w.heap.size w W
 a0 : CL W w.heap.size 0 (.int .i64 n)
 a1 : CL W w.heap.size 1 ov
 a2 : CL W w.heap.size 2 rv
 cx : CW W (w.heap.size + 1) yv
 c4 : CW W (w.heap.size + 2) (.slice none 0 0)
 c5 : CW W (w.heap.size + 3) (.int .i64 0)
 fp : FP (SfF w) W yv y
theorem fp_below {F : Nat → Prop} {w w' : World} {v : Value} {p : List Nat} (h : FP F w v p) (hb : Below w.heap.size w w') : FP F w' v p := h.kf (KF.of_below hb)
theorem SfI.below {w : World} {n : Int} {ov rv : Value} {W W' : World} {yv : Value} {y : List Nat} (h : SfI w n ov rv W yv y) (hb : Below W.heap.size W W') : SfI w n ov rv W' yv y :=
 ⟨h.bel.trans (hb.mono h.bel.size), h.a0.up hb, h.a1.up hb, h.a2.up hb, h.cx.below hb, h.c4.below hb, h.c5.below hb, fp_below h.fp hb⟩
theorem SfI.keep {w : World} {n : Int} {ov rv : Value} {W W' : World} {yv : Value} {y : List Nat} {row : Option Nat} {B : Nat} (h : SfI w n ov rv W yv y) (hB : w.heap.size + 4 ≤ B) (hg : W.grownBy W' row) (hr : ∀ r, row = some r → B ≤ r ∧ ∃ o : Obj, W.heap[r]? = some o ∧ o.isCells = false) : SfI w n ov rv W' yv y := by
 have hk : Rg.Kp (fun k => row = some k) W W' := Rg.Kp.of_grown hg fun _ e => e
 have hM : ∀ b, b < B → ¬ row = some b := fun b hb e => by have := (hr b e).1; omega
 exact ⟨h.bel.grown hg h.bel.size (fun k e => by have := (hr k e).1; omega), h.a0.kp hk (hM _ (by omega)), h.a1.kp hk (hM _ (by omega)), h.a2.kp hk (hM _ (by omega)), h.cx.kp hk (hM _ (by omega)), h.c4.kp hk (hM _ (by omega)), h.c5.kp hk (hM _ (by omega)), fp_nc hg (fun r e => (hr r e).2) h.fp⟩
theorem SfI.set {w : World} {n : Int} {ov rv : Value} {W : World} {yv yv' : Value} {y y' : List Nat} (h : SfI w n ov rv W yv y) (hp : FP (SfF w) W yv' y') : SfI w n ov rv (W.setCell ⟨w.heap.size + 1, 0, none⟩ yv') yv' y' := by
 have hk : Rg.Kp (fun z => z = w.heap.size + 1) W (W.setCell ⟨w.heap.size + 1, 0, none⟩ yv') := Rg.Kp.of_setCell rfl;exact ⟨h.bel.setCell (p := ⟨w.heap.size + 1, 0, none⟩) (by show w.heap.size ≤ w.heap.size + 1; omega) _, h.a0.kp hk (by omega), h.a1.kp hk (by omega), h.a2.kp hk (by omega), h.cx.set _, h.c4.kp hk (by omega), h.c5.kp hk (by omega), Rg.FI.kp hp hk (fun z hz e => by unfold SfF at hz; omega)⟩
theorem sf_new {w W W' : World} {v : Value} {p : List Nat} (hW : w.heap.size + 4 ≤ W.heap.size) (hv : Rg.NPF W W' v p) : FP (SfF w) W' v p := by
 refine (FP.new (F := SfF w) hv).mono fun k hk => ?_
 rcases hk with hk | hk
 ·exact hk
 ·exact .inr (by omega)
structure SfS (w W : World) (i : Nat) (yv : Value) (y : List Nat) : Prop where
 bel : Below w.heap.size w W
 c4 : CW W (w.heap.size + 2) yv
 c5 : CW W (w.heap.size + 3) (.int .i64 ((i : Nat) : Int))
 fp : FP (SfF w) W yv y
theorem SfS.keep {w W W' : World} {i : Nat} {yv : Value} {y : List Nat} {row : Option Nat} {B : Nat} (h : SfS w W i yv y) (hB : w.heap.size + 4 ≤ B) (hg : W.grownBy W' row) (hr : ∀ r, row = some r → B ≤ r ∧ ∃ o : Obj, W.heap[r]? = some o ∧ o.isCells = false) : SfS w W' i yv y := by
 have hk : Rg.Kp (fun k => row = some k) W W' := Rg.Kp.of_grown hg fun _ e => e
 have hM : ∀ b, b < B → ¬ row = some b := fun b hb e => by have := (hr b e).1; omega
 exact ⟨h.bel.grown hg h.bel.size (fun k e => by have := (hr k e).1; omega), h.c4.kp hk (hM _ (by omega)), h.c5.kp hk (hM _ (by omega)), fp_nc hg (fun r e => (hr r e).2) h.fp⟩
theorem SfI.stop {w : World} {n : Int} {ov rv : Value} {W : World} {yv : Value} {y : List Nat} (h : SfI w n ov rv W yv y) (i : Nat) : SfS w ((W.setCell ⟨w.heap.size + 2, 0, none⟩ yv).setCell ⟨w.heap.size + 3, 0, none⟩ (.int .i64 ((i : Nat) : Int))) i yv y := by
 have hk1 : Rg.Kp (fun z => z = w.heap.size + 2) W (W.setCell ⟨w.heap.size + 2, 0, none⟩ yv) := Rg.Kp.of_setCell rfl;have hk2 : Rg.Kp (fun z => z = w.heap.size + 3) (W.setCell ⟨w.heap.size + 2, 0, none⟩ yv) ((W.setCell ⟨w.heap.size + 2, 0, none⟩ yv).setCell ⟨w.heap.size + 3, 0, none⟩ (.int .i64 ((i : Nat) : Int))) := Rg.Kp.of_setCell rfl
 exact ⟨(h.bel.setCell (p := ⟨w.heap.size + 2, 0, none⟩) (by show w.heap.size ≤ w.heap.size + 2; omega) _).setCell (p := ⟨w.heap.size + 3, 0, none⟩) (by show w.heap.size ≤ w.heap.size + 3; omega) _, (h.c4.set _).other _ (by omega), (h.c5.other _ (by omega)).set _,
  Rg.FI.kp (Rg.FI.kp h.fp hk1 (fun z hz e => by unfold SfF at hz; omega)) hk2 (fun z hz e => by unfold SfF at hz; omega)⟩
end Go.Proofs.Ytcfomoknlchemaa
