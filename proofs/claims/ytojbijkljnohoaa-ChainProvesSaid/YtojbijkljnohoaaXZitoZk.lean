/- Lemmas and contracts on the way to the statement; no condition of their own beyond those written. -/
import Derived.Test.YtojbijkljnohoaaXZetoCz
import Derived.RangeFuncWrites
import Derived.RangeFuncNested
import Derived.RangeFuncBox
import Derived.RangeFuncLeaves
import Derived.Shelf.Abstract
import Derived.OwnWalkIn
import Derived.TacticsInMore
import Derived.LoopNIn
import Derived.LoopIn
import Derived.Maps.AppendAt
import Derived.Sort.CutIn
import Derived.Deep.CutRange
import Derived.Deep.CutBlock
import Derived.IntWalk
import Derived.Great.BuildSlice
import Derived.ArgAppend
import Derived.Laws.CopyOwn
import Derived.StillTailTactics
import Derived.Deep.MidRow
import Derived.WalkSpells
import Derived.WalkLawsBesides
import Derived.OwnWalk
import Derived.OrdersHeld
import Derived.Deep.OwnRows
import Derived.WalkKit
import Derived.Lib.Hide
import Derived.Laws.OwnMore
import Derived.Test.YtojbijkljnohoaaProg
import Derived.Outline
import Derived.Deep.DeepFit
import Derived.BigQuiet
import Derived.Deep.QuietTactic
import Derived.Sort.OwnSortedInts
import Derived.WideMake
import Derived.MapKept
import Derived.ChangeMaps5
import Derived.Shelf.Sort.Plain
import Derived.Lib.ConvBytes
import Derived.ChangeKeysEq
import Derived.Laws.Cells
import Derived.Laws.Rows
import Derived.Laws.Tables
import Derived.Deep.WholeRow
import Derived.OrdersIn
import Derived.TacticsIn
import Derived.Deep.LoopGhost
import Derived.Lib.SlicesSearch
set_option linter.unusedVariables false
set_option linter.unusedSimpArgs false
namespace Go.Proofs.Ytojbijkljnohoaa
open Go.RowKit
open Go.Proofs
open Go.Proofs.Ob
attribute [local irreducible] Go.Calls Go.wpList
theorem Zicl0 (args : Array Value) (w : World) : (callFunc 38 args).run Try.prog w = .ok (.enter 38 args) w := by kernel_rfl
theorem Zicl1 (args : Array Value) (w : World) : (callFunc 31 args).run Try.prog w = .ok (.enter 31 args) w := by kernel_rfl
theorem Zicl2 (args : Array Value) (w : World) : (callFunc 39 args).run Try.prog w = .ok (.enter 39 args) w := by kernel_rfl
theorem Zicl3 (args : Array Value) (w : World) : (callFunc 40 args).run Try.prog w = .ok (.enter 40 args) w := by kernel_rfl
theorem Zicl4 (args : Array Value) (w : World) : (callFunc 25 args).run Try.prog w = .ok (.enter 25 args) w := by kernel_rfl
theorem Zicl5 (args : Array Value) (w : World) : (callFunc 41 args).run Try.prog w = .ok (.enter 41 args) w := by kernel_rfl
theorem Zicl6 (args : Array Value) (w : World) : (callFunc 42 args).run Try.prog w = .ok (.enter 42 args) w := by kernel_rfl
theorem Zicl7 (args : Array Value) (w : World) : (callFunc 24 args).run Try.prog w = .ok (.enter 24 args) w := by kernel_rfl
theorem Zicl8 (args : Array Value) (w : World) : (callFunc 43 args).run Try.prog w = .ok (.enter 43 args) w := by kernel_rfl
theorem Zicl9 (args : Array Value) (w : World) : (callFunc 44 args).run Try.prog w = .ok (.enter 44 args) w := by kernel_rfl
theorem Zicl10 (args : Array Value) (w : World) : (callFunc 36 args).run Try.prog w = .ok (.enter 36 args) w := by kernel_rfl
theorem Zicl11 (args : Array Value) (w : World) : (callFunc 35 args).run Try.prog w = .ok (.enter 35 args) w := by kernel_rfl
theorem Zicl12 (args : Array Value) (w : World) : (callFunc 30 args).run Try.prog w = .ok (.enter 30 args) w := by kernel_rfl
theorem Zicl13 (args : Array Value) (w : World) : (callFunc 45 args).run Try.prog w = .ok (.enter 45 args) w := by kernel_rfl
theorem infoIntsV : (Try.prog.info? 33).map (fun i => (i.zero, i.size, i.bytes)) = some (some (.slice none 0 0), 1, 24) := by kernel_rfl
theorem run_buildL4 (X : World) (u1 u2 u3 u4 : Value) (h1 : ∃ a n c, u1 = .slice a n c) (h2 : ∃ a n c, u2 = .slice a n c) (h3 : ∃ a n c, u3 = .slice a n c) (h4 : ∃ a n c, u4 = .slice a n c) : (Instr.buildSlice 41 4 #[(0, u1), (1, u2), (2, u3), (3, u4)]).run Try.prog X = .ok (.slice (some ⟨X.heap.size, 0, none⟩) 4 4) (X.alloc (.cells #[u1, u2, u3, u4] 33)) := by
  obtain ⟨i0, hi, hz0, hz1, hz2⟩ := info_parts infoIntsV
  obtain ⟨_, _, _, rfl⟩ := h1
  obtain ⟨_, _, _, rfl⟩ := h2
  obtain ⟨_, _, _, rfl⟩ := h3
  obtain ⟨_, _, _, rfl⟩ := h4
  refine run_buildSlice X 41 33 4 _ _ i0 _ Try.underlying41 hi hz0 (by rw [hz1]; decide) (by rw [hz1]; decide) ?_
  generalize (fun x => ((Value.slice none 0 0).cells)[x % (Value.slice none 0 0).cells.size]!) = f
  rw [hz1]
  have h1 : Array.range (4 * 1) = #[0, 1, 2, 3] := rfl
  simp [Instr.fill, Value.cells, h1]
theorem exec_buildL4 {o : Oper} {a : Act} {w w' : World} {v u1 u2 u3 u4 : Value} (x1 x2 x3 x4 : Operand) (ho : o.op = .buildSlice 41 4 #[(0, x1), (1, x2), (2, x3), (3, x4)]) (h1 : a.eval x1 = u1) (h2 : a.eval x2 = u2) (h3 : a.eval x3 = u3) (h4 : a.eval x4 = u4)
    (hr : (Instr.buildSlice 41 4 #[(0, u1), (1, u2), (2, u3), (3, u4)]).run Try.prog w = .ok v w') : (execOp a.eval o).run Try.prog w = .ok (.value v) w' := by
  subst h1 h2 h3 h4
  unfold execOp
  simp only [ho, Sem.run_bind, Sem.run_pure]
  simp only [List.map_toArray, List.map_cons, List.map_nil]
  rw [hr]
  rfl
theorem exec_buildC3 {o : Oper} {a : Act} {w : World} {d : Int} {ao ar : Option Addr} {no co nr cr : Nat} (x y z : Operand) (ho : o.op = .build 51 #[(0, x), (1, y), (2, z)]) (hx : a.eval x = .int .i64 d) (hy : a.eval y = .slice ao no co) (hz : a.eval z = .slice ar nr cr) :
    (execOp a.eval o).run Try.prog w = .ok (.value (.agg #[.int .i64 d, .slice ao no co, .slice ar nr cr])) w := by
  unfold execOp
  simp only [ho, Sem.run_bind, Sem.run_pure]
  simp only [List.map_toArray, List.map_cons, List.map_nil, hx, hy, hz]
  have h : (Instr.build 51 #[(0, .int .i64 d), (1, .slice ao no co), (2, .slice ar nr cr)]).run Try.prog w = .ok (.agg #[.int .i64 d, .slice ao no co, .slice ar nr cr]) w := by kernel_rfl
  first | (rw [h]; rfl) | (erw [h]; rfl)
theorem num_1 : Nu.num (prodL (([[0], [1], [2], [3]] : List (List Nat)).map Ma.ofN)) = ⟨#[49]⟩ := by
  show Nu.num 1 = _
  unfold Nu.num
  rw [Nu.lsd_pos (by decide), show 1 / 10 = 0 from rfl, Nu.lsd_zero]
  rfl
theorem ans_of {w : World} {N : Nat} {gs : List (List Nat)} {ov rv : Value} {O : List (List Nat)} {R : List (List (List Nat))} (h1 : 1 ≤ N) (h2 : N ≤ 64) (h : ChEqR w ov rv (O.map Ma.ofN) (R.map (List.map Ma.ofN))) (hc : Cm.IsChain N (Cm.Gr N (· ∈ gs)) O R) : ChAns w ((N : Nat) : Int) (gs.map Ma.ofN) (.agg #[.int .i64 ((N : Nat) : Int), ov, rv]) 0 :=
  .inr ⟨rfl, N, gs, rfl, rfl, h1, h2, ov, rv, O, R, rfl, h.1, h.2, hc⟩
theorem siS4 {O : List (List Nat)} {R : List (List (List Nat))} (hc : Cm.IsChain 4 (Cm.Gr 4 (· ∈ gsS)) O R) {ov rv xv : Value} {w : World} (h : ChEqR w ov rv (O.map Ma.ofN) (R.map (List.map Ma.ofN))) (hx : Rg.Ints w xv [1, 0, 2, 3]) :
    Calls Try.prog 41 #[.agg #[.int .i64 ((4 : Nat) : Int), ov, rv], xv] w fun e w' => ∃ a n c, e = .returned (.tuple #[.slice a n c, .int .i64 2, .int .i64 0]) ∧ Rg.Ints w' (.slice a n c) [0, 1, 3, 2] ∧ Below w.heap.size w w' := by
  refine (chSift_any (n := ((4 : Nat) : Int)) (xl := Ma.ofN [1, 0, 2, 3]) h hx).mono ?_
  rintro e w' ⟨v, rfl, h1, h2⟩
  have hs := siftS hc
  rw [hs.1] at h1
  obtain ⟨a, c, rfl, -⟩ := h1.shape
  exact ⟨_, _, _, by rw [hs.1, hs.2], h1, h2⟩
theorem inS4 {O : List (List Nat)} {R : List (List (List Nat))} (hc : Cm.IsChain 4 (Cm.Gr 4 (· ∈ gsS)) O R) {ov rv xv : Value} {w : World} (h : ChEqR w ov rv (O.map Ma.ofN) (R.map (List.map Ma.ofN))) (hx : Rg.Ints w xv [3, 2, 1, 0]) :
    Calls Try.prog 42 #[.agg #[.int .i64 ((4 : Nat) : Int), ov, rv], xv] w fun e w' => e = .returned (.tuple #[.bool true, .int .i64 0]) ∧ Below w.heap.size w w' := by
  refine (chIn_any (n := ((4 : Nat) : Int)) (xl := Ma.ofN [3, 2, 1, 0]) h hx).mono ?_
  rintro e w' ⟨rfl, h2⟩
  have hs := inS hc
  exact ⟨by rw [hs.1, hs.2], h2⟩
theorem beSF4 {O O' : List (List Nat)} {R R' : List (List (List Nat))} (hc : Cm.IsChain 4 (Cm.Gr 4 (· ∈ gsS)) O R) (hc' : Cm.IsChain 4 (Cm.Gr 4 (· ∈ gsF)) O' R') {ov rv ov' rv' : Value} {w : World} (h : ChEqR w ov rv (O.map Ma.ofN) (R.map (List.map Ma.ofN))) (h' : ChEqR w ov' rv' (O'.map Ma.ofN) (R'.map (List.map Ma.ofN))) :
    Calls Try.prog 43 #[.agg #[.int .i64 ((4 : Nat) : Int), ov, rv], .agg #[.int .i64 ((4 : Nat) : Int), ov', rv']] w fun e w' => e = .returned (.tuple #[.bool true, .int .i64 0]) ∧ Below w.heap.size w w' := by
  refine (chBelow_any h h').mono ?_
  rintro e w' ⟨rfl, h2⟩
  have hs := belowSF hc hc'
  exact ⟨by rw [hs.1, hs.2], h2⟩
theorem beFS4 {O O' : List (List Nat)} {R R' : List (List (List Nat))} (hc : Cm.IsChain 4 (Cm.Gr 4 (· ∈ gsS)) O R) (hc' : Cm.IsChain 4 (Cm.Gr 4 (· ∈ gsF)) O' R') {ov rv ov' rv' : Value} {w : World} (h : ChEqR w ov rv (O.map Ma.ofN) (R.map (List.map Ma.ofN))) (h' : ChEqR w ov' rv' (O'.map Ma.ofN) (R'.map (List.map Ma.ofN))) :
    Calls Try.prog 43 #[.agg #[.int .i64 ((4 : Nat) : Int), ov', rv'], .agg #[.int .i64 ((4 : Nat) : Int), ov, rv]] w fun e w' => e = .returned (.tuple #[.bool false, .int .i64 0]) ∧ Below w.heap.size w w' := by
  refine (chBelow_any h' h).mono ?_
  rintro e w' ⟨rfl, h2⟩
  have hs := belowFS hc hc'
  exact ⟨by rw [hs.1, hs.2], h2⟩
theorem stF4 {O : List (List Nat)} {R : List (List (List Nat))} (hc : Cm.IsChain 4 (Cm.Gr 4 (· ∈ gsF)) O R) {ov rv : Value} {w : World} (h : ChEqR w ov rv (O.map Ma.ofN) (R.map (List.map Ma.ofN))) :
    Calls Try.prog 44 #[.agg #[.int .i64 ((4 : Nat) : Int), ov, rv], .int .i64 2] w fun e w' => ∃ d a n c a' n' c', e = .returned (.tuple #[.agg #[.int .i64 d, .slice a n c, .slice a' n' c'], .int .i64 0]) ∧ Rg.Rows w' (.slice a n c) [[0], [1], [2, 3], [3]] ∧ Below w.heap.size w w' := by
  refine (chStab_any (k := 2) h).mono ?_
  rintro e w' ⟨cv, rfl, h1, h2⟩
  obtain ⟨hs1, hs2⟩ := stabF hc
  rcases h1 with ⟨h0, _⟩ | ⟨_, ov2, rv2, rfl, h3⟩
  · exact absurd hs1 h0
  · rw [hs2] at h3
    obtain ⟨a, c, rfl, -⟩ := h3.1.shape
    obtain ⟨a', c', rfl⟩ := h3.2.shape
    exact ⟨_, _, _, _, _, _, _, by rw [hs1], h3.1, h2⟩
theorem rnd_bad {ll : List (List Int)} {nums : List Int} {gv nv : Value} {w : World} (hr : rndc ((4 : Nat) : Int) ll nums = 13) (h : Rg.Rows w gv ll) (hn : Rg.Ints w nv nums) :
    Calls Try.prog 36 #[.agg #[.int .i64 ((4 : Nat) : Int), gv], nv] w fun e w' => e = .returned (.tuple #[zeroC, .int .i64 13]) ∧ Below w.heap.size w w' := by
  refine (pRandom_any gv nv _ ll nums w h hn).mono ?_
  rintro e w' ⟨cv, rfl, h1, h2⟩
  rcases h1 with ⟨_, rfl⟩ | ⟨h0, _⟩
  · exact ⟨by rw [hr], h2⟩
  · rw [hr] at h0; cases h0
theorem rnd_ok {ll : List (List Int)} {nums : List Int} {gv nv : Value} {w : World} (hr : rndc ((4 : Nat) : Int) ll nums = 0) (h : Rg.Rows w gv ll) (hn : Rg.Ints w nv nums) :
    Calls Try.prog 36 #[.agg #[.int .i64 ((4 : Nat) : Int), gv], nv] w fun e w' => ∃ d a n c a' n' c', e = .returned (.tuple #[.agg #[.int .i64 d, .slice a n c, .slice a' n' c'], .int .i64 0]) ∧ ChAns w' ((4 : Nat) : Int) ll (.agg #[.int .i64 d, .slice a n c, .slice a' n' c']) 0 ∧ Below w.heap.size w w' := by
  refine (pRandom_any gv nv _ ll nums w h hn).mono ?_
  rintro e w' ⟨cv, rfl, h1, h2⟩
  rw [hr] at h1
  obtain ⟨d, a, n, c, a', n', c', rfl⟩ := h1.shape
  exact ⟨d, a, n, c, a', n', c', by rw [hr], h1, h2⟩
theorem chk_zero (w : World) : Calls Try.prog 45 #[.agg #[.int .i64 0, .slice none 0 0, .slice none 0 0]] w fun e w' => e = .returned (.int .i64 2) ∧ Below w.heap.size w w' := by
  refine (chCheck_c (n := 0) (OO := []) (RR := []) ⟨Rg.Rows.nil _ none 0 (Nat.zero_le _), [], ⟨none, 0, rfl, Nat.le_refl _, Nat.zero_le _, Nat.zero_le _, fun h => by simp at h⟩, rfl, fun i h => by simp at h⟩).mono ?_
  rintro e w' ⟨rfl, h2⟩
  exact ⟨by rw [code_zero], h2⟩
theorem chk_short {R : List (List (List Nat))} {ov rv : Value} {w : World} (h0 : R.getD 0 [] = [[0, 1, 2, 3], [1, 0, 3, 2], [2, 3, 0, 1], [3, 2, 1, 0]]) (hl : R.length = 4) (h : Rg.Rows w ov [[0, 1, 2], [1], [2], [3]]) (h2 : Rows2 w rv (R.map (List.map Ma.ofN))) :
    Calls Try.prog 45 #[.agg #[.int .i64 ((4 : Nat) : Int), ov, rv]] w fun e w' => e = .returned (.int .i64 3) ∧ Below w.heap.size w w' := by
  refine (chCheck_c (n := ((4 : Nat) : Int)) ⟨h, h2⟩).mono ?_
  rintro e w' ⟨rfl, h2⟩
  have e : ∀ hp : 0 < (R.map (List.map Ma.ofN)).length, (R.map (List.map Ma.ofN))[0].length = 4 := fun hp => by
    rw [List.getElem_map, List.length_map, ← getD_inf (by omega), h0]
    rfl
  exact ⟨by rw [code_short e (by rw [List.length_map]; exact hl)], h2⟩
set_option maxRecDepth 100000 in
set_option maxHeartbeats 16000000 in
theorem ChainKnown_any (w : World) : Calls Try.prog 7 #[] w fun e w' => e = .returned (.bool true) ∧ Below w.heap.size w w' := by
  have K := Lib.hid (Below.refl w.heap.size w)
  go_enter Try.func7, Try.ntmps7
  go_upto_region 1 with (fail)
  refine wp_region_list ?_
  refine list_ask (some 34) rfl rfl _ _ (exec_fn0 38 _ rfl (Zicl0 _ _)) ?_
  refine (first08_any w).mono ?_
  rintro e1 w1 ⟨ga, gn, gc, rfl, hgr, hb⟩
  refine ⟨_, rfl, ?_⟩
  go_frame
  replace K := Lib.hid (Rg.acc K.out hb)
  clear hb
  have GR := Lib.hid hgr.rows
  clear hgr
  refine list_ask (some 35) rfl rfl _ _ (exec_fn1 31 _ _ rfl rfl (Zicl1 _ _)) ?_
  refine (chOf_gs (N := 4) (gs := gsF) (by decide) GR.out).mono ?_
  rintro e1 w2 ⟨ov1, rv1, O1, R1, rfl, hce, hch, hb⟩
  have hO1 := chain_tab tabF_ok hch
  rw [orbTF] at hO1
  obtain ⟨oa1, oc1, rfl, _⟩ := hce.1.shape
  obtain ⟨ra1, rc1, rfl⟩ := hce.2.shape
  obtain ⟨on1, hon1⟩ : ∃ n, Hid ((O1.map Ma.ofN).length = n) := ⟨_, Lib.hid rfl⟩
  rw [hon1.out] at hce ⊢
  have HCH1 := Lib.hid hch
  have HO1 := Lib.hid hO1
  clear hch hO1
  refine ⟨_, rfl, ?_⟩
  go_frame
  replace GR := Lib.hid (GR.out.below hb)
  replace K := Lib.hid (Rg.acc K.out hb)
  clear hb
  have E1 := Lib.hid hce
  refine Rg.list_run (some 33) rfl rfl (Rg.exec_move (v := .tuple #[(.agg #[.int .i64 ((4 : Nat) : Int), .slice oa1 on1 oc1, .slice ra1 (R1.map (List.map Ma.ofN)).length rc1]), .int .i64 0]) _ rfl rfl) ?_
  go_frame
  refine Rg.list_run (some 36) rfl rfl (exec_extract (v := (.agg #[.int .i64 ((4 : Nat) : Int), .slice oa1 on1 oc1, .slice ra1 (R1.map (List.map Ma.ofN)).length rc1])) _ _ rfl rfl rfl) ?_
  go_frame
  refine Rg.list_run (some 37) rfl rfl (exec_extract (v := .int .i64 0) _ _ rfl rfl rfl) ?_
  go_frame
  refine Rg.list_run (some 1) rfl rfl (exec_allocC rfl) ?_
  go_frame
  refine Rg.list_skip none rfl rfl (Rg.exec_store _ _ _ rfl _ rfl _ rfl (run_storeC _ _ _ _ _ _ _ (Tri.new w2 (.int .i64 0) (.slice none 0 0) (.slice none 0 0)))) ?_
  go_frame
  have htn := (Tri.new w2 (.int .i64 0) (.slice none 0 0) (.slice none 0 0)).set (.int .i64 ((4 : Nat) : Int)) (.slice oa1 on1 oc1) (.slice ra1 (R1.map (List.map Ma.ofN)).length rc1)
  have hb := ((((Below.refl w2.heap.size w2).alloc (Nat.le_refl _) (.cells #[.int .i64 0, .slice none 0 0, .slice none 0 0] 51)).setCell (p := ⟨w2.heap.size, 0, none⟩) (Nat.le_refl _) (.int .i64 ((4 : Nat) : Int))).setCell (p := ⟨w2.heap.size, 1, none⟩) (Nat.le_refl _) (.slice oa1 on1 oc1)).setCell (p := ⟨w2.heap.size, 2, none⟩) (Nat.le_refl _) (.slice ra1 (R1.map (List.map Ma.ofN)).length rc1)
  generalize (((w2.alloc (.cells #[.int .i64 0, .slice none 0 0, .slice none 0 0] 51)).setCell ⟨w2.heap.size, 0, none⟩ (.int .i64 ((4 : Nat) : Int))).setCell ⟨w2.heap.size, 1, none⟩ (.slice oa1 on1 oc1)).setCell ⟨w2.heap.size, 2, none⟩ (.slice ra1 (R1.map (List.map Ma.ofN)).length rc1) = w3 at *
  replace GR := Lib.hid (GR.out.below hb)
  replace E1 := Lib.hid (E1.out.below hb)
  replace K := Lib.hid (Rg.acc K.out hb)
  clear hb
  have T1 := Lib.hid htn
  clear htn
  refine Rg.list_run (some 2) rfl rfl (Rg.exec_assign (v := .int .i64 0) _ rfl rfl) ?_
  go_frame
  clear GR hce
  go_upto_region 2 with (fail)
  refine wp_region_list ?_
  refine list_ask (some 39) rfl rfl _ _ (exec_fn0 39 _ rfl (Zicl2 _ _)) ?_
  refine (second08_any w3).mono ?_
  rintro e1 w4 ⟨ga, gn, gc, rfl, hgr, hb⟩
  refine ⟨_, rfl, ?_⟩
  go_frame
  replace E1 := Lib.hid (E1.out.below hb)
  replace T1 := Lib.hid (T1.out.below hb)
  replace K := Lib.hid (Rg.acc K.out hb)
  clear hb
  have GR := Lib.hid hgr.rows
  clear hgr
  refine list_ask (some 40) rfl rfl _ _ (exec_fn1 31 _ _ rfl rfl (Zicl1 _ _)) ?_
  refine (chOf_gs (N := 4) (gs := gsS) (by decide) GR.out).mono ?_
  rintro e1 w5 ⟨ov2, rv2, O2, R2, rfl, hce, hch, hb⟩
  have hO2 := chain_tab tabS_ok hch
  rw [orbTS] at hO2
  obtain ⟨oa2, oc2, rfl, _⟩ := hce.1.shape
  obtain ⟨ra2, rc2, rfl⟩ := hce.2.shape
  obtain ⟨on2, hon2⟩ : ∃ n, Hid ((O2.map Ma.ofN).length = n) := ⟨_, Lib.hid rfl⟩
  rw [hon2.out] at hce ⊢
  have HCH2 := Lib.hid hch
  have HO2 := Lib.hid hO2
  clear hch hO2
  refine ⟨_, rfl, ?_⟩
  go_frame
  replace E1 := Lib.hid (E1.out.below hb)
  replace T1 := Lib.hid (T1.out.below hb)
  replace GR := Lib.hid (GR.out.below hb)
  replace K := Lib.hid (Rg.acc K.out hb)
  clear hb
  have E2 := Lib.hid hce
  refine Rg.list_run (some 38) rfl rfl (Rg.exec_move (v := .tuple #[(.agg #[.int .i64 ((4 : Nat) : Int), .slice oa2 on2 oc2, .slice ra2 (R2.map (List.map Ma.ofN)).length rc2]), .int .i64 0]) _ rfl rfl) ?_
  go_frame
  refine Rg.list_run (some 41) rfl rfl (exec_extract (v := (.agg #[.int .i64 ((4 : Nat) : Int), .slice oa2 on2 oc2, .slice ra2 (R2.map (List.map Ma.ofN)).length rc2])) _ _ rfl rfl rfl) ?_
  go_frame
  refine Rg.list_run (some 42) rfl rfl (exec_extract (v := .int .i64 0) _ _ rfl rfl rfl) ?_
  go_frame
  refine Rg.list_run (some 3) rfl rfl (exec_allocC rfl) ?_
  go_frame
  refine Rg.list_skip none rfl rfl (Rg.exec_store _ _ _ rfl _ rfl _ rfl (run_storeC _ _ _ _ _ _ _ (Tri.new w5 (.int .i64 0) (.slice none 0 0) (.slice none 0 0)))) ?_
  go_frame
  have htn := (Tri.new w5 (.int .i64 0) (.slice none 0 0) (.slice none 0 0)).set (.int .i64 ((4 : Nat) : Int)) (.slice oa2 on2 oc2) (.slice ra2 (R2.map (List.map Ma.ofN)).length rc2)
  have hb := ((((Below.refl w5.heap.size w5).alloc (Nat.le_refl _) (.cells #[.int .i64 0, .slice none 0 0, .slice none 0 0] 51)).setCell (p := ⟨w5.heap.size, 0, none⟩) (Nat.le_refl _) (.int .i64 ((4 : Nat) : Int))).setCell (p := ⟨w5.heap.size, 1, none⟩) (Nat.le_refl _) (.slice oa2 on2 oc2)).setCell (p := ⟨w5.heap.size, 2, none⟩) (Nat.le_refl _) (.slice ra2 (R2.map (List.map Ma.ofN)).length rc2)
  generalize (((w5.alloc (.cells #[.int .i64 0, .slice none 0 0, .slice none 0 0] 51)).setCell ⟨w5.heap.size, 0, none⟩ (.int .i64 ((4 : Nat) : Int))).setCell ⟨w5.heap.size, 1, none⟩ (.slice oa2 on2 oc2)).setCell ⟨w5.heap.size, 2, none⟩ (.slice ra2 (R2.map (List.map Ma.ofN)).length rc2) = w6 at *
  replace E1 := Lib.hid (E1.out.below hb)
  replace T1 := Lib.hid (T1.out.below hb)
  replace GR := Lib.hid (GR.out.below hb)
  replace E2 := Lib.hid (E2.out.below hb)
  replace K := Lib.hid (Rg.acc K.out hb)
  clear hb
  have T2 := Lib.hid htn
  clear htn
  refine Rg.list_run (some 4) rfl rfl (Rg.exec_assign (v := .int .i64 0) _ rfl rfl) ?_
  go_frame
  clear GR hce
  go_upto_region 3 with (fail)
  refine wp_region_list ?_
  refine Rg.list_run (some 44) rfl rfl (exec_buildG1 _ rfl rfl) ?_
  go_frame
  refine list_ask (some 45) rfl rfl _ _ (exec_fn1 31 _ _ rfl rfl (Zicl1 _ _)) ?_
  refine (chOf_gs (N := 4) (gs := gsE) (by decide) (Rg.Rows.nil _ none 0 (Nat.zero_le _))).mono ?_
  rintro e1 w7 ⟨ov3, rv3, O3, R3, rfl, hce, hch, hb⟩
  have hO3 := chain_tab tabE_ok hch
  rw [orbTE] at hO3
  obtain ⟨oa3, oc3, rfl, _⟩ := hce.1.shape
  obtain ⟨ra3, rc3, rfl⟩ := hce.2.shape
  obtain ⟨on3, hon3⟩ : ∃ n, Hid ((O3.map Ma.ofN).length = n) := ⟨_, Lib.hid rfl⟩
  rw [hon3.out] at hce ⊢
  have HCH3 := Lib.hid hch
  have HO3 := Lib.hid hO3
  clear hch hO3
  refine ⟨_, rfl, ?_⟩
  go_frame
  replace E1 := Lib.hid (E1.out.below hb)
  replace T1 := Lib.hid (T1.out.below hb)
  replace E2 := Lib.hid (E2.out.below hb)
  replace T2 := Lib.hid (T2.out.below hb)
  replace K := Lib.hid (Rg.acc K.out hb)
  clear hb
  have E3 := Lib.hid hce
  refine Rg.list_run (some 43) rfl rfl (Rg.exec_move (v := .tuple #[(.agg #[.int .i64 ((4 : Nat) : Int), .slice oa3 on3 oc3, .slice ra3 (R3.map (List.map Ma.ofN)).length rc3]), .int .i64 0]) _ rfl rfl) ?_
  go_frame
  refine Rg.list_run (some 46) rfl rfl (exec_extract (v := (.agg #[.int .i64 ((4 : Nat) : Int), .slice oa3 on3 oc3, .slice ra3 (R3.map (List.map Ma.ofN)).length rc3])) _ _ rfl rfl rfl) ?_
  go_frame
  refine Rg.list_run (some 47) rfl rfl (exec_extract (v := .int .i64 0) _ _ rfl rfl rfl) ?_
  go_frame
  refine Rg.list_run (some 5) rfl rfl (exec_allocC rfl) ?_
  go_frame
  refine Rg.list_skip none rfl rfl (Rg.exec_store _ _ _ rfl _ rfl _ rfl (run_storeC _ _ _ _ _ _ _ (Tri.new w7 (.int .i64 0) (.slice none 0 0) (.slice none 0 0)))) ?_
  go_frame
  have htn := (Tri.new w7 (.int .i64 0) (.slice none 0 0) (.slice none 0 0)).set (.int .i64 ((4 : Nat) : Int)) (.slice oa3 on3 oc3) (.slice ra3 (R3.map (List.map Ma.ofN)).length rc3)
  have hb := ((((Below.refl w7.heap.size w7).alloc (Nat.le_refl _) (.cells #[.int .i64 0, .slice none 0 0, .slice none 0 0] 51)).setCell (p := ⟨w7.heap.size, 0, none⟩) (Nat.le_refl _) (.int .i64 ((4 : Nat) : Int))).setCell (p := ⟨w7.heap.size, 1, none⟩) (Nat.le_refl _) (.slice oa3 on3 oc3)).setCell (p := ⟨w7.heap.size, 2, none⟩) (Nat.le_refl _) (.slice ra3 (R3.map (List.map Ma.ofN)).length rc3)
  generalize (((w7.alloc (.cells #[.int .i64 0, .slice none 0 0, .slice none 0 0] 51)).setCell ⟨w7.heap.size, 0, none⟩ (.int .i64 ((4 : Nat) : Int))).setCell ⟨w7.heap.size, 1, none⟩ (.slice oa3 on3 oc3)).setCell ⟨w7.heap.size, 2, none⟩ (.slice ra3 (R3.map (List.map Ma.ofN)).length rc3) = w8 at *
  replace E1 := Lib.hid (E1.out.below hb)
  replace T1 := Lib.hid (T1.out.below hb)
  replace E2 := Lib.hid (E2.out.below hb)
  replace T2 := Lib.hid (T2.out.below hb)
  replace E3 := Lib.hid (E3.out.below hb)
  replace K := Lib.hid (Rg.acc K.out hb)
  clear hb
  have T3 := Lib.hid htn
  clear htn
  refine Rg.list_run (some 6) rfl rfl (Rg.exec_assign (v := .int .i64 0) _ rfl rfl) ?_
  go_frame
  clear hce
  go_upto_region 4 with (fail)
  refine wp_region_list ?_
  refine Rg.list_run (some 49) rfl rfl (Rg.exec_load (v := (.agg #[.int .i64 ((4 : Nat) : Int), .slice oa3 on3 oc3, .slice ra3 (R3.map (List.map Ma.ofN)).length rc3])) _ _ rfl ⟨w7.heap.size, 0, none⟩ rfl (run_loadC3 T3.out.c0 T3.out.c1 T3.out.c2)) ?_
  go_frame
  have HOK := Lib.hid (chain_ok (N := 4) (by decide) (by decide) (tab_tr tabE_ok).1 HCH3.out)
  refine list_ask (some 50) rfl rfl _ _ (exec_fn1 40 _ _ rfl rfl (Zicl3 _ _)) ?_
  refine (chOrder_any E3.out).mono ?_
  rintro e1 w9 ⟨s3, c3, rfl, hC, hs, _, hb⟩
  obtain rfl : c3 = 0 := hC.uniq (ChC.of HOK.out)
  have hs2 := hs rfl
  rw [HO3.out, num_1] at hs2
  subst hs2
  clear HOK hC hs
  refine ⟨_, rfl, ?_⟩
  go_frame
  replace E1 := Lib.hid (E1.out.below hb)
  replace T1 := Lib.hid (T1.out.below hb)
  replace E2 := Lib.hid (E2.out.below hb)
  replace T2 := Lib.hid (T2.out.below hb)
  replace E3 := Lib.hid (E3.out.below hb)
  replace T3 := Lib.hid (T3.out.below hb)
  replace K := Lib.hid (Rg.acc K.out hb)
  clear hb
  refine Rg.list_run (some 48) rfl rfl (Rg.exec_move (v := .tuple #[(.string ⟨#[49]⟩), .int .i64 0]) _ rfl rfl) ?_
  go_frame
  refine Rg.list_run (some 51) rfl rfl (exec_extract (v := (.string ⟨#[49]⟩)) _ _ rfl rfl rfl) ?_
  go_frame
  refine Rg.list_run (some 52) rfl rfl (exec_extract (v := .int .i64 0) _ _ rfl rfl rfl) ?_
  go_frame
  refine Rg.list_run (some 7) rfl rfl (Rg.exec_assign (v := (.string ⟨#[49]⟩)) _ rfl rfl) ?_
  go_frame
  refine Rg.list_run (some 8) rfl rfl (Rg.exec_assign (v := .int .i64 0) _ rfl rfl) ?_
  go_frame
  go_upto_region 5 with (fail)
  refine wp_region_list ?_
  refine Rg.list_run (some 53) rfl rfl (Rg.exec_move (v := .int .i64 0) _ rfl rfl) ?_
  go_frame
  refine Rg.list_run (some 54) rfl rfl (exec_eqI _ _ rfl rfl rfl rfl) ?_
  go_frame
  refine Rg.list_run (some 55) rfl rfl (Rg.exec_move (v := .bool true) _ rfl rfl) ?_
  go_frame
  refine listW_run (some 56) rfl rfl (Rg.exec_move (v := (.string ⟨#[49]⟩)) _ rfl rfl) ?_
  go_frame
  refine listW_run (some 57) rfl rfl (exec_eqS _ _ rfl rfl rfl) ?_
  go_frame
  refine Rg.list_run (some 58) rfl rfl (exec_pickT (v := .bool true) _ _ _ rfl rfl rfl) ?_
  go_frame
  refine Rg.list_run (some 59) rfl rfl (Rg.exec_move (v := .bool true) _ rfl rfl) ?_
  go_frame
  refine listW_run (some 60) rfl rfl (Rg.exec_move (v := .int .i64 0) _ rfl rfl) ?_
  go_frame
  refine listW_run (some 61) rfl rfl (exec_eqI _ _ rfl rfl rfl rfl) ?_
  go_frame
  refine Rg.list_run (some 62) rfl rfl (exec_pickT (v := .bool true) _ _ _ rfl rfl rfl) ?_
  go_frame
  refine Rg.list_run (some 63) rfl rfl (Rg.exec_move (v := .bool true) _ rfl rfl) ?_
  go_frame
  refine listW_run (some 64) rfl rfl (exec_field _ rfl rfl (chF1 _ _)) ?_
  go_frame
  refine listW_run (some 65) rfl rfl (Rg.exec_load (v := .slice oa2 on2 oc2) _ _ rfl ⟨w5.heap.size, 1, none⟩ rfl (Rg.run_loadSl _ _ Try.underlying41 T2.out.c1)) ?_
  go_frame
  have hnew := ints_new w9 3 [0, 1, 2, 3] (by decide)
  refine listW_run (some 66) rfl rfl (exec_flat _ _ 4 _ rfl [0, 1, 2, 3] Try.underlying33 szInt zInt rfl (by decide) (by decide) rfl) ?_
  go_frame
  have hb := (Below.refl w9.heap.size w9).alloc (Nat.le_refl _) (.cells (([0, 1, 2, 3] : List Int).map (Value.int .i64)).toArray 3)
  generalize w9.alloc (.cells (([0, 1, 2, 3] : List Int).map (Value.int .i64)).toArray 3) = w10 at *
  replace E1 := Lib.hid (E1.out.below hb)
  replace T1 := Lib.hid (T1.out.below hb)
  replace E2 := Lib.hid (E2.out.below hb)
  replace T2 := Lib.hid (T2.out.below hb)
  replace E3 := Lib.hid (E3.out.below hb)
  replace T3 := Lib.hid (T3.out.below hb)
  replace K := Lib.hid (Rg.acc K.out hb)
  clear hb
  have I0 := Lib.hid hnew
  clear hnew
  have hnew := ints_new w10 3 [1] (by decide)
  refine listW_run (some 67) rfl rfl (exec_flat _ _ 1 _ rfl [1] Try.underlying33 szInt zInt rfl (by decide) (by decide) rfl) ?_
  go_frame
  have hb := (Below.refl w10.heap.size w10).alloc (Nat.le_refl _) (.cells (([1] : List Int).map (Value.int .i64)).toArray 3)
  generalize w10.alloc (.cells (([1] : List Int).map (Value.int .i64)).toArray 3) = w11 at *
  replace E1 := Lib.hid (E1.out.below hb)
  replace T1 := Lib.hid (T1.out.below hb)
  replace E2 := Lib.hid (E2.out.below hb)
  replace T2 := Lib.hid (T2.out.below hb)
  replace E3 := Lib.hid (E3.out.below hb)
  replace T3 := Lib.hid (T3.out.below hb)
  replace I0 := Lib.hid (I0.out.below hb)
  replace K := Lib.hid (Rg.acc K.out hb)
  clear hb
  have I1 := Lib.hid hnew
  clear hnew
  have hnew := ints_new w11 3 [2] (by decide)
  refine listW_run (some 68) rfl rfl (exec_flat _ _ 1 _ rfl [2] Try.underlying33 szInt zInt rfl (by decide) (by decide) rfl) ?_
  go_frame
  have hb := (Below.refl w11.heap.size w11).alloc (Nat.le_refl _) (.cells (([2] : List Int).map (Value.int .i64)).toArray 3)
  generalize w11.alloc (.cells (([2] : List Int).map (Value.int .i64)).toArray 3) = w12 at *
  replace E1 := Lib.hid (E1.out.below hb)
  replace T1 := Lib.hid (T1.out.below hb)
  replace E2 := Lib.hid (E2.out.below hb)
  replace T2 := Lib.hid (T2.out.below hb)
  replace E3 := Lib.hid (E3.out.below hb)
  replace T3 := Lib.hid (T3.out.below hb)
  replace I0 := Lib.hid (I0.out.below hb)
  replace I1 := Lib.hid (I1.out.below hb)
  replace K := Lib.hid (Rg.acc K.out hb)
  clear hb
  have I2 := Lib.hid hnew
  clear hnew
  have hnew := ints_new w12 3 [3] (by decide)
  refine listW_run (some 69) rfl rfl (exec_flat _ _ 1 _ rfl [3] Try.underlying33 szInt zInt rfl (by decide) (by decide) rfl) ?_
  go_frame
  have hb := (Below.refl w12.heap.size w12).alloc (Nat.le_refl _) (.cells (([3] : List Int).map (Value.int .i64)).toArray 3)
  generalize w12.alloc (.cells (([3] : List Int).map (Value.int .i64)).toArray 3) = w13 at *
  replace E1 := Lib.hid (E1.out.below hb)
  replace T1 := Lib.hid (T1.out.below hb)
  replace E2 := Lib.hid (E2.out.below hb)
  replace T2 := Lib.hid (T2.out.below hb)
  replace E3 := Lib.hid (E3.out.below hb)
  replace T3 := Lib.hid (T3.out.below hb)
  replace I0 := Lib.hid (I0.out.below hb)
  replace I1 := Lib.hid (I1.out.below hb)
  replace I2 := Lib.hid (I2.out.below hb)
  replace K := Lib.hid (Rg.acc K.out hb)
  clear hb
  have I3 := Lib.hid hnew
  clear hnew
  have hrw : Rg.Rows (w13.alloc (.cells #[.slice (some ⟨w9.heap.size, 0, none⟩) 4 4, .slice (some ⟨w10.heap.size, 0, none⟩) 1 1, .slice (some ⟨w11.heap.size, 0, none⟩) 1 1, .slice (some ⟨w12.heap.size, 0, none⟩) 1 1] 33)) (.slice (some ⟨w13.heap.size, 0, none⟩) 4 4) [[0, 1, 2, 3], [1], [2], [3]] := (rowsF_new (B := 0) (w := w13) 33 [.slice (some ⟨w9.heap.size, 0, none⟩) 4 4, .slice (some ⟨w10.heap.size, 0, none⟩) 1 1, .slice (some ⟨w11.heap.size, 0, none⟩) 1 1, .slice (some ⟨w12.heap.size, 0, none⟩) 1 1] [[0, 1, 2, 3], [1], [2], [3]] rfl (by simp) (by
    intro i h h2
    match i, h, h2 with
    | 0, _, _ => exact ⟨I0.out, fun _ _ _ _ => Nat.zero_le _⟩
    | 1, _, _ => exact ⟨I1.out, fun _ _ _ _ => Nat.zero_le _⟩
    | 2, _, _ => exact ⟨I2.out, fun _ _ _ _ => Nat.zero_le _⟩
    | 3, _, _ => exact ⟨I3.out, fun _ _ _ _ => Nat.zero_le _⟩) (Nat.zero_le _)).rows
  refine listW_run (some 70) rfl rfl (exec_buildL4 (u1 := .slice (some ⟨w9.heap.size, 0, none⟩) 4 4) (u2 := .slice (some ⟨w10.heap.size, 0, none⟩) 1 1) (u3 := .slice (some ⟨w11.heap.size, 0, none⟩) 1 1) (u4 := .slice (some ⟨w12.heap.size, 0, none⟩) 1 1) _ _ _ _ rfl rfl rfl rfl rfl (run_buildL4 w13 _ _ _ _ ⟨_, _, _, rfl⟩ ⟨_, _, _, rfl⟩ ⟨_, _, _, rfl⟩ ⟨_, _, _, rfl⟩)) ?_
  go_frame
  have hb := (Below.refl w13.heap.size w13).alloc (Nat.le_refl _) (.cells #[.slice (some ⟨w9.heap.size, 0, none⟩) 4 4, .slice (some ⟨w10.heap.size, 0, none⟩) 1 1, .slice (some ⟨w11.heap.size, 0, none⟩) 1 1, .slice (some ⟨w12.heap.size, 0, none⟩) 1 1] 33)
  generalize w13.alloc (.cells #[.slice (some ⟨w9.heap.size, 0, none⟩) 4 4, .slice (some ⟨w10.heap.size, 0, none⟩) 1 1, .slice (some ⟨w11.heap.size, 0, none⟩) 1 1, .slice (some ⟨w12.heap.size, 0, none⟩) 1 1] 33) = w14 at *
  replace E1 := Lib.hid (E1.out.below hb)
  replace T1 := Lib.hid (T1.out.below hb)
  replace E2 := Lib.hid (E2.out.below hb)
  replace T2 := Lib.hid (T2.out.below hb)
  replace E3 := Lib.hid (E3.out.below hb)
  replace T3 := Lib.hid (T3.out.below hb)
  replace I0 := Lib.hid (I0.out.below hb)
  replace I1 := Lib.hid (I1.out.below hb)
  replace I2 := Lib.hid (I2.out.below hb)
  replace I3 := Lib.hid (I3.out.below hb)
  replace K := Lib.hid (Rg.acc K.out hb)
  clear hb
  have RW := Lib.hid hrw
  clear hrw
  refine listW_ask (some 71) rfl rfl _ _ (exec_fn 25 _ _ _ rfl rfl rfl (Zicl4 _ _)) ?_
  refine (SameLists_b E2.out.1 RW.out (Lib.hid (decide_eq_true (by rw [HO2.out]; rfl)))).mono ?_
  rintro e1 w15 ⟨rfl, hb⟩
  refine ⟨_, rfl, ?_⟩
  go_frame
  replace E1 := Lib.hid (E1.out.below hb)
  replace T1 := Lib.hid (T1.out.below hb)
  replace E2 := Lib.hid (E2.out.below hb)
  replace T2 := Lib.hid (T2.out.below hb)
  replace E3 := Lib.hid (E3.out.below hb)
  replace T3 := Lib.hid (T3.out.below hb)
  replace I0 := Lib.hid (I0.out.below hb)
  replace I1 := Lib.hid (I1.out.below hb)
  replace I2 := Lib.hid (I2.out.below hb)
  replace I3 := Lib.hid (I3.out.below hb)
  replace RW := Lib.hid (RW.out.below hb)
  replace K := Lib.hid (Rg.acc K.out hb)
  clear hb
  refine Rg.list_run (some 72) rfl rfl (exec_pickT (v := .bool true) _ _ _ rfl rfl rfl) ?_
  go_frame
  refine Rg.list_run (some 9) rfl rfl (Rg.exec_assign (v := .bool true) _ rfl rfl) ?_
  go_frame
  clear I0 I1 I2 I3 RW E3 T3
  go_upto_region 6 with (fail)
  refine wp_region_list ?_
  refine Rg.list_run (some 74) rfl rfl (Rg.exec_load (v := (.agg #[.int .i64 ((4 : Nat) : Int), .slice oa2 on2 oc2, .slice ra2 (R2.map (List.map Ma.ofN)).length rc2])) _ _ rfl ⟨w5.heap.size, 0, none⟩ rfl (run_loadC3 T2.out.c0 T2.out.c1 T2.out.c2)) ?_
  go_frame
  have hnew := ints_new w15 3 [1, 0, 2, 3] (by decide)
  refine Rg.list_run (some 75) rfl rfl (exec_flat _ _ 4 _ rfl [1, 0, 2, 3] Try.underlying62 szInt zInt rfl (by decide) (by decide) rfl) ?_
  go_frame
  have hb := (Below.refl w15.heap.size w15).alloc (Nat.le_refl _) (.cells (([1, 0, 2, 3] : List Int).map (Value.int .i64)).toArray 3)
  generalize w15.alloc (.cells (([1, 0, 2, 3] : List Int).map (Value.int .i64)).toArray 3) = w16 at *
  replace E1 := Lib.hid (E1.out.below hb)
  replace T1 := Lib.hid (T1.out.below hb)
  replace E2 := Lib.hid (E2.out.below hb)
  replace T2 := Lib.hid (T2.out.below hb)
  replace K := Lib.hid (Rg.acc K.out hb)
  clear hb
  have I0 := Lib.hid hnew
  clear hnew
  refine list_ask (some 76) rfl rfl _ _ (exec_fn 41 _ _ _ rfl rfl rfl (Zicl5 _ _)) ?_
  refine (siS4 HCH2.out E2.out I0.out).mono ?_
  rintro e1 w17 ⟨xa, xn, xc, rfl, hxv, hb⟩
  refine ⟨_, rfl, ?_⟩
  go_frame
  replace E1 := Lib.hid (E1.out.below hb)
  replace T1 := Lib.hid (T1.out.below hb)
  replace E2 := Lib.hid (E2.out.below hb)
  replace T2 := Lib.hid (T2.out.below hb)
  replace I0 := Lib.hid (I0.out.below hb)
  replace K := Lib.hid (Rg.acc K.out hb)
  clear hb
  have XV := Lib.hid hxv
  refine Rg.list_run (some 73) rfl rfl (Rg.exec_move (v := .tuple #[.slice xa xn xc, .int .i64 2, .int .i64 0]) _ rfl rfl) ?_
  go_frame
  refine Rg.list_run (some 77) rfl rfl (exec_extract (v := .slice xa xn xc) _ _ rfl rfl rfl) ?_
  go_frame
  refine Rg.list_run (some 78) rfl rfl (exec_extract (v := .int .i64 2) _ _ rfl rfl rfl) ?_
  go_frame
  refine Rg.list_run (some 79) rfl rfl (exec_extract (v := .int .i64 0) _ _ rfl rfl rfl) ?_
  go_frame
  refine Rg.list_run (some 10) rfl rfl (Rg.exec_assign (v := .slice xa xn xc) _ rfl rfl) ?_
  go_frame
  refine Rg.list_run (some 11) rfl rfl (Rg.exec_assign (v := .int .i64 2) _ rfl rfl) ?_
  go_frame
  refine Rg.list_run (some 12) rfl rfl (Rg.exec_assign (v := .int .i64 0) _ rfl rfl) ?_
  go_frame
  clear hxv
  clear I0
  go_upto_region 7 with (fail)
  refine wp_region_list ?_
  refine Rg.list_run (some 81) rfl rfl (Rg.exec_load (v := (.agg #[.int .i64 ((4 : Nat) : Int), .slice oa2 on2 oc2, .slice ra2 (R2.map (List.map Ma.ofN)).length rc2])) _ _ rfl ⟨w5.heap.size, 0, none⟩ rfl (run_loadC3 T2.out.c0 T2.out.c1 T2.out.c2)) ?_
  go_frame
  have hnew := ints_new w17 3 [3, 2, 1, 0] (by decide)
  refine Rg.list_run (some 82) rfl rfl (exec_flat _ _ 4 _ rfl [3, 2, 1, 0] Try.underlying62 szInt zInt rfl (by decide) (by decide) rfl) ?_
  go_frame
  have hb := (Below.refl w17.heap.size w17).alloc (Nat.le_refl _) (.cells (([3, 2, 1, 0] : List Int).map (Value.int .i64)).toArray 3)
  generalize w17.alloc (.cells (([3, 2, 1, 0] : List Int).map (Value.int .i64)).toArray 3) = w18 at *
  replace E1 := Lib.hid (E1.out.below hb)
  replace T1 := Lib.hid (T1.out.below hb)
  replace E2 := Lib.hid (E2.out.below hb)
  replace T2 := Lib.hid (T2.out.below hb)
  replace XV := Lib.hid (XV.out.below hb)
  replace K := Lib.hid (Rg.acc K.out hb)
  clear hb
  have I0 := Lib.hid hnew
  clear hnew
  refine list_ask (some 83) rfl rfl _ _ (exec_fn 42 _ _ _ rfl rfl rfl (Zicl6 _ _)) ?_
  refine (inS4 HCH2.out E2.out I0.out).mono ?_
  rintro e1 w19 ⟨rfl, hb⟩
  refine ⟨_, rfl, ?_⟩
  go_frame
  replace E1 := Lib.hid (E1.out.below hb)
  replace T1 := Lib.hid (T1.out.below hb)
  replace E2 := Lib.hid (E2.out.below hb)
  replace T2 := Lib.hid (T2.out.below hb)
  replace XV := Lib.hid (XV.out.below hb)
  replace I0 := Lib.hid (I0.out.below hb)
  replace K := Lib.hid (Rg.acc K.out hb)
  clear hb
  refine Rg.list_run (some 80) rfl rfl (Rg.exec_move (v := .tuple #[.bool true, .int .i64 0]) _ rfl rfl) ?_
  go_frame
  refine Rg.list_run (some 84) rfl rfl (exec_extract (v := .bool true) _ _ rfl rfl rfl) ?_
  go_frame
  refine Rg.list_run (some 85) rfl rfl (exec_extract (v := .int .i64 0) _ _ rfl rfl rfl) ?_
  go_frame
  refine Rg.list_run (some 13) rfl rfl (Rg.exec_assign (v := .bool true) _ rfl rfl) ?_
  go_frame
  refine Rg.list_run (some 14) rfl rfl (Rg.exec_assign (v := .int .i64 0) _ rfl rfl) ?_
  go_frame
  clear I0
  go_upto_region 8 with (fail)
  refine wp_region_list ?_
  refine Rg.list_run (some 86) rfl rfl (Rg.exec_move (v := .slice xa xn xc) _ rfl rfl) ?_
  go_frame
  have hnew := ints_new w19 3 [0, 1, 3, 2] (by decide)
  refine Rg.list_run (some 87) rfl rfl (exec_flat _ _ 4 _ rfl [0, 1, 3, 2] Try.underlying62 szInt zInt rfl (by decide) (by decide) rfl) ?_
  go_frame
  have hb := (Below.refl w19.heap.size w19).alloc (Nat.le_refl _) (.cells (([0, 1, 3, 2] : List Int).map (Value.int .i64)).toArray 3)
  generalize w19.alloc (.cells (([0, 1, 3, 2] : List Int).map (Value.int .i64)).toArray 3) = w20 at *
  replace E1 := Lib.hid (E1.out.below hb)
  replace T1 := Lib.hid (T1.out.below hb)
  replace E2 := Lib.hid (E2.out.below hb)
  replace T2 := Lib.hid (T2.out.below hb)
  replace XV := Lib.hid (XV.out.below hb)
  replace K := Lib.hid (Rg.acc K.out hb)
  clear hb
  have I0 := Lib.hid hnew
  clear hnew
  refine list_ask (some 88) rfl rfl _ _ (exec_fn 24 _ _ _ rfl rfl rfl (Zicl7 _ _)) ?_
  refine (Same_any (b := true) XV.out I0.out (Lib.hid (decide_eq_true rfl)) (Below.refl _ _)).mono ?_
  rintro e1 w21 ⟨rfl, hb⟩
  refine ⟨_, rfl, ?_⟩
  go_frame
  replace E1 := Lib.hid (E1.out.below hb)
  replace T1 := Lib.hid (T1.out.below hb)
  replace E2 := Lib.hid (E2.out.below hb)
  replace T2 := Lib.hid (T2.out.below hb)
  replace XV := Lib.hid (XV.out.below hb)
  replace I0 := Lib.hid (I0.out.below hb)
  replace K := Lib.hid (Rg.acc K.out hb)
  clear hb
  refine Rg.list_run (some 89) rfl rfl (Rg.exec_move (v := .bool true) _ rfl rfl) ?_
  go_frame
  refine listW_run (some 90) rfl rfl (Rg.exec_move (v := .int .i64 2) _ rfl rfl) ?_
  go_frame
  refine listW_run (some 91) rfl rfl (exec_bin (R := .bool true) .eql _ _ _ rfl rfl rfl (b_eql _ (decide_eq_true rfl))) ?_
  go_frame
  refine Rg.list_run (some 92) rfl rfl (exec_pickT (v := .bool true) _ _ _ rfl rfl rfl) ?_
  go_frame
  refine Rg.list_run (some 93) rfl rfl (Rg.exec_move (v := .bool true) _ rfl rfl) ?_
  go_frame
  refine listW_run (some 94) rfl rfl (Rg.exec_move (v := .int .i64 0) _ rfl rfl) ?_
  go_frame
  refine listW_run (some 95) rfl rfl (exec_eqI _ _ rfl rfl rfl rfl) ?_
  go_frame
  refine Rg.list_run (some 96) rfl rfl (exec_pickT (v := .bool true) _ _ _ rfl rfl rfl) ?_
  go_frame
  refine Rg.list_run (some 97) rfl rfl (Rg.exec_move (v := .bool true) _ rfl rfl) ?_
  go_frame
  refine listW_run (some 98) rfl rfl (Rg.exec_move (v := .bool true) _ rfl rfl) ?_
  go_frame
  refine Rg.list_run (some 99) rfl rfl (exec_pickT (v := .bool true) _ _ _ rfl rfl rfl) ?_
  go_frame
  refine Rg.list_run (some 100) rfl rfl (Rg.exec_move (v := .bool true) _ rfl rfl) ?_
  go_frame
  refine listW_run (some 101) rfl rfl (Rg.exec_move (v := .int .i64 0) _ rfl rfl) ?_
  go_frame
  refine listW_run (some 102) rfl rfl (exec_eqI _ _ rfl rfl rfl rfl) ?_
  go_frame
  refine Rg.list_run (some 103) rfl rfl (exec_pickT (v := .bool true) _ _ _ rfl rfl rfl) ?_
  go_frame
  refine Rg.list_run (some 15) rfl rfl (Rg.exec_assign (v := .bool true) _ rfl rfl) ?_
  go_frame
  clear I0 XV
  go_upto_region 9 with (fail)
  refine wp_region_list ?_
  refine Rg.list_run (some 105) rfl rfl (Rg.exec_load (v := (.agg #[.int .i64 ((4 : Nat) : Int), .slice oa2 on2 oc2, .slice ra2 (R2.map (List.map Ma.ofN)).length rc2])) _ _ rfl ⟨w5.heap.size, 0, none⟩ rfl (run_loadC3 T2.out.c0 T2.out.c1 T2.out.c2)) ?_
  go_frame
  refine Rg.list_run (some 106) rfl rfl (Rg.exec_load (v := (.agg #[.int .i64 ((4 : Nat) : Int), .slice oa1 on1 oc1, .slice ra1 (R1.map (List.map Ma.ofN)).length rc1])) _ _ rfl ⟨w2.heap.size, 0, none⟩ rfl (run_loadC3 T1.out.c0 T1.out.c1 T1.out.c2)) ?_
  go_frame
  refine list_ask (some 107) rfl rfl _ _ (exec_fn 43 _ _ _ rfl rfl rfl (Zicl8 _ _)) ?_
  refine (beSF4 HCH2.out HCH1.out E2.out E1.out).mono ?_
  rintro e1 w22 ⟨rfl, hb⟩
  refine ⟨_, rfl, ?_⟩
  go_frame
  replace E1 := Lib.hid (E1.out.below hb)
  replace T1 := Lib.hid (T1.out.below hb)
  replace E2 := Lib.hid (E2.out.below hb)
  replace T2 := Lib.hid (T2.out.below hb)
  replace K := Lib.hid (Rg.acc K.out hb)
  clear hb
  refine Rg.list_run (some 104) rfl rfl (Rg.exec_move (v := .tuple #[.bool true, .int .i64 0]) _ rfl rfl) ?_
  go_frame
  refine Rg.list_run (some 108) rfl rfl (exec_extract (v := .bool true) _ _ rfl rfl rfl) ?_
  go_frame
  refine Rg.list_run (some 109) rfl rfl (exec_extract (v := .int .i64 0) _ _ rfl rfl rfl) ?_
  go_frame
  refine Rg.list_run (some 16) rfl rfl (Rg.exec_assign (v := .bool true) _ rfl rfl) ?_
  go_frame
  refine Rg.list_run (some 17) rfl rfl (Rg.exec_assign (v := .int .i64 0) _ rfl rfl) ?_
  go_frame
  go_upto_region 10 with (fail)
  refine wp_region_list ?_
  refine Rg.list_run (some 111) rfl rfl (Rg.exec_load (v := (.agg #[.int .i64 ((4 : Nat) : Int), .slice oa1 on1 oc1, .slice ra1 (R1.map (List.map Ma.ofN)).length rc1])) _ _ rfl ⟨w2.heap.size, 0, none⟩ rfl (run_loadC3 T1.out.c0 T1.out.c1 T1.out.c2)) ?_
  go_frame
  refine Rg.list_run (some 112) rfl rfl (Rg.exec_load (v := (.agg #[.int .i64 ((4 : Nat) : Int), .slice oa2 on2 oc2, .slice ra2 (R2.map (List.map Ma.ofN)).length rc2])) _ _ rfl ⟨w5.heap.size, 0, none⟩ rfl (run_loadC3 T2.out.c0 T2.out.c1 T2.out.c2)) ?_
  go_frame
  refine list_ask (some 113) rfl rfl _ _ (exec_fn 43 _ _ _ rfl rfl rfl (Zicl8 _ _)) ?_
  refine (beFS4 HCH2.out HCH1.out E2.out E1.out).mono ?_
  rintro e1 w23 ⟨rfl, hb⟩
  refine ⟨_, rfl, ?_⟩
  go_frame
  replace E1 := Lib.hid (E1.out.below hb)
  replace T1 := Lib.hid (T1.out.below hb)
  replace E2 := Lib.hid (E2.out.below hb)
  replace T2 := Lib.hid (T2.out.below hb)
  replace K := Lib.hid (Rg.acc K.out hb)
  clear hb
  refine Rg.list_run (some 110) rfl rfl (Rg.exec_move (v := .tuple #[.bool false, .int .i64 0]) _ rfl rfl) ?_
  go_frame
  refine Rg.list_run (some 114) rfl rfl (exec_extract (v := .bool false) _ _ rfl rfl rfl) ?_
  go_frame
  refine Rg.list_run (some 115) rfl rfl (exec_extract (v := .int .i64 0) _ _ rfl rfl rfl) ?_
  go_frame
  refine Rg.list_run (some 18) rfl rfl (Rg.exec_assign (v := .bool false) _ rfl rfl) ?_
  go_frame
  refine Rg.list_run (some 19) rfl rfl (Rg.exec_assign (v := .int .i64 0) _ rfl rfl) ?_
  go_frame
  go_upto_region 11 with (fail)
  refine wp_region_list ?_
  refine Rg.list_run (some 117) rfl rfl (Rg.exec_load (v := (.agg #[.int .i64 ((4 : Nat) : Int), .slice oa1 on1 oc1, .slice ra1 (R1.map (List.map Ma.ofN)).length rc1])) _ _ rfl ⟨w2.heap.size, 0, none⟩ rfl (run_loadC3 T1.out.c0 T1.out.c1 T1.out.c2)) ?_
  go_frame
  refine list_ask (some 118) rfl rfl _ _ (exec_fn 44 _ _ _ rfl rfl rfl (Zicl9 _ _)) ?_
  refine (stF4 HCH1.out E1.out).mono ?_
  rintro e1 w24 ⟨d4, oa4, on4, oc4, ra4, rn4, rc4, rfl, hq, hb⟩
  refine ⟨_, rfl, ?_⟩
  go_frame
  replace E1 := Lib.hid (E1.out.below hb)
  replace T1 := Lib.hid (T1.out.below hb)
  replace E2 := Lib.hid (E2.out.below hb)
  replace T2 := Lib.hid (T2.out.below hb)
  replace K := Lib.hid (Rg.acc K.out hb)
  clear hb
  have Q4 := Lib.hid hq
  refine Rg.list_run (some 116) rfl rfl (Rg.exec_move (v := .tuple #[(.agg #[.int .i64 d4, .slice oa4 on4 oc4, .slice ra4 rn4 rc4]), .int .i64 0]) _ rfl rfl) ?_
  go_frame
  refine Rg.list_run (some 119) rfl rfl (exec_extract (v := (.agg #[.int .i64 d4, .slice oa4 on4 oc4, .slice ra4 rn4 rc4])) _ _ rfl rfl rfl) ?_
  go_frame
  refine Rg.list_run (some 120) rfl rfl (exec_extract (v := .int .i64 0) _ _ rfl rfl rfl) ?_
  go_frame
  refine Rg.list_run (some 20) rfl rfl (exec_allocC rfl) ?_
  go_frame
  refine Rg.list_skip none rfl rfl (Rg.exec_store _ _ _ rfl _ rfl _ rfl (run_storeC _ _ _ _ _ _ _ (Tri.new w24 (.int .i64 0) (.slice none 0 0) (.slice none 0 0)))) ?_
  go_frame
  have htn := (Tri.new w24 (.int .i64 0) (.slice none 0 0) (.slice none 0 0)).set (.int .i64 d4) (.slice oa4 on4 oc4) (.slice ra4 rn4 rc4)
  have hb := ((((Below.refl w24.heap.size w24).alloc (Nat.le_refl _) (.cells #[.int .i64 0, .slice none 0 0, .slice none 0 0] 51)).setCell (p := ⟨w24.heap.size, 0, none⟩) (Nat.le_refl _) (.int .i64 d4)).setCell (p := ⟨w24.heap.size, 1, none⟩) (Nat.le_refl _) (.slice oa4 on4 oc4)).setCell (p := ⟨w24.heap.size, 2, none⟩) (Nat.le_refl _) (.slice ra4 rn4 rc4)
  generalize (((w24.alloc (.cells #[.int .i64 0, .slice none 0 0, .slice none 0 0] 51)).setCell ⟨w24.heap.size, 0, none⟩ (.int .i64 d4)).setCell ⟨w24.heap.size, 1, none⟩ (.slice oa4 on4 oc4)).setCell ⟨w24.heap.size, 2, none⟩ (.slice ra4 rn4 rc4) = w25 at *
  replace E1 := Lib.hid (E1.out.below hb)
  replace T1 := Lib.hid (T1.out.below hb)
  replace E2 := Lib.hid (E2.out.below hb)
  replace T2 := Lib.hid (T2.out.below hb)
  replace Q4 := Lib.hid (Q4.out.below hb)
  replace K := Lib.hid (Rg.acc K.out hb)
  clear hb
  have T4 := Lib.hid htn
  clear htn
  refine Rg.list_run (some 21) rfl rfl (Rg.exec_assign (v := .int .i64 0) _ rfl rfl) ?_
  go_frame
  clear hq
  go_upto_region 12 with (fail)
  refine wp_region_list ?_
  refine Rg.list_run (some 121) rfl rfl (Rg.exec_move (v := .bool true) _ rfl rfl) ?_
  go_frame
  refine Rg.list_run (some 122) rfl rfl (Rg.exec_move (v := .bool true) _ rfl rfl) ?_
  go_frame
  refine listW_run (some 123) rfl rfl (Rg.exec_move (v := .int .i64 0) _ rfl rfl) ?_
  go_frame
  refine listW_run (some 124) rfl rfl (exec_eqI _ _ rfl rfl rfl rfl) ?_
  go_frame
  refine Rg.list_run (some 125) rfl rfl (exec_pickT (v := .bool true) _ _ _ rfl rfl rfl) ?_
  go_frame
  refine Rg.list_run (some 126) rfl rfl (Rg.exec_move (v := .bool true) _ rfl rfl) ?_
  go_frame
  refine listW_run (some 127) rfl rfl (Rg.exec_move (v := .bool false) _ rfl rfl) ?_
  go_frame
  refine listW_run (some 128) rfl rfl (exec_not _ _ false rfl rfl) ?_
  go_frame
  refine Rg.list_run (some 129) rfl rfl (exec_pickT (v := .bool true) _ _ _ rfl rfl rfl) ?_
  go_frame
  refine Rg.list_run (some 130) rfl rfl (Rg.exec_move (v := .bool true) _ rfl rfl) ?_
  go_frame
  refine listW_run (some 131) rfl rfl (Rg.exec_move (v := .int .i64 0) _ rfl rfl) ?_
  go_frame
  refine listW_run (some 132) rfl rfl (exec_eqI _ _ rfl rfl rfl rfl) ?_
  go_frame
  refine Rg.list_run (some 133) rfl rfl (exec_pickT (v := .bool true) _ _ _ rfl rfl rfl) ?_
  go_frame
  refine Rg.list_run (some 134) rfl rfl (Rg.exec_move (v := .bool true) _ rfl rfl) ?_
  go_frame
  refine listW_run (some 135) rfl rfl (Rg.exec_move (v := .int .i64 0) _ rfl rfl) ?_
  go_frame
  refine listW_run (some 136) rfl rfl (exec_eqI _ _ rfl rfl rfl rfl) ?_
  go_frame
  refine Rg.list_run (some 137) rfl rfl (exec_pickT (v := .bool true) _ _ _ rfl rfl rfl) ?_
  go_frame
  refine Rg.list_run (some 138) rfl rfl (Rg.exec_move (v := .bool true) _ rfl rfl) ?_
  go_frame
  refine listW_run (some 139) rfl rfl (exec_field _ rfl rfl (chF1 _ _)) ?_
  go_frame
  refine listW_run (some 140) rfl rfl (Rg.exec_load (v := .slice oa4 on4 oc4) _ _ rfl ⟨w24.heap.size, 1, none⟩ rfl (Rg.run_loadSl _ _ Try.underlying41 T4.out.c1)) ?_
  go_frame
  have hnew := ints_new w25 3 [0] (by decide)
  refine listW_run (some 141) rfl rfl (exec_flat _ _ 1 _ rfl [0] Try.underlying33 szInt zInt rfl (by decide) (by decide) rfl) ?_
  go_frame
  have hb := (Below.refl w25.heap.size w25).alloc (Nat.le_refl _) (.cells (([0] : List Int).map (Value.int .i64)).toArray 3)
  generalize w25.alloc (.cells (([0] : List Int).map (Value.int .i64)).toArray 3) = w26 at *
  replace E1 := Lib.hid (E1.out.below hb)
  replace T1 := Lib.hid (T1.out.below hb)
  replace E2 := Lib.hid (E2.out.below hb)
  replace T2 := Lib.hid (T2.out.below hb)
  replace Q4 := Lib.hid (Q4.out.below hb)
  replace T4 := Lib.hid (T4.out.below hb)
  replace K := Lib.hid (Rg.acc K.out hb)
  clear hb
  have I0 := Lib.hid hnew
  clear hnew
  have hnew := ints_new w26 3 [1] (by decide)
  refine listW_run (some 142) rfl rfl (exec_flat _ _ 1 _ rfl [1] Try.underlying33 szInt zInt rfl (by decide) (by decide) rfl) ?_
  go_frame
  have hb := (Below.refl w26.heap.size w26).alloc (Nat.le_refl _) (.cells (([1] : List Int).map (Value.int .i64)).toArray 3)
  generalize w26.alloc (.cells (([1] : List Int).map (Value.int .i64)).toArray 3) = w27 at *
  replace E1 := Lib.hid (E1.out.below hb)
  replace T1 := Lib.hid (T1.out.below hb)
  replace E2 := Lib.hid (E2.out.below hb)
  replace T2 := Lib.hid (T2.out.below hb)
  replace Q4 := Lib.hid (Q4.out.below hb)
  replace T4 := Lib.hid (T4.out.below hb)
  replace I0 := Lib.hid (I0.out.below hb)
  replace K := Lib.hid (Rg.acc K.out hb)
  clear hb
  have I1 := Lib.hid hnew
  clear hnew
  have hnew := ints_new w27 3 [2, 3] (by decide)
  refine listW_run (some 143) rfl rfl (exec_flat _ _ 2 _ rfl [2, 3] Try.underlying33 szInt zInt rfl (by decide) (by decide) rfl) ?_
  go_frame
  have hb := (Below.refl w27.heap.size w27).alloc (Nat.le_refl _) (.cells (([2, 3] : List Int).map (Value.int .i64)).toArray 3)
  generalize w27.alloc (.cells (([2, 3] : List Int).map (Value.int .i64)).toArray 3) = w28 at *
  replace E1 := Lib.hid (E1.out.below hb)
  replace T1 := Lib.hid (T1.out.below hb)
  replace E2 := Lib.hid (E2.out.below hb)
  replace T2 := Lib.hid (T2.out.below hb)
  replace Q4 := Lib.hid (Q4.out.below hb)
  replace T4 := Lib.hid (T4.out.below hb)
  replace I0 := Lib.hid (I0.out.below hb)
  replace I1 := Lib.hid (I1.out.below hb)
  replace K := Lib.hid (Rg.acc K.out hb)
  clear hb
  have I2 := Lib.hid hnew
  clear hnew
  have hnew := ints_new w28 3 [3] (by decide)
  refine listW_run (some 144) rfl rfl (exec_flat _ _ 1 _ rfl [3] Try.underlying33 szInt zInt rfl (by decide) (by decide) rfl) ?_
  go_frame
  have hb := (Below.refl w28.heap.size w28).alloc (Nat.le_refl _) (.cells (([3] : List Int).map (Value.int .i64)).toArray 3)
  generalize w28.alloc (.cells (([3] : List Int).map (Value.int .i64)).toArray 3) = w29 at *
  replace E1 := Lib.hid (E1.out.below hb)
  replace T1 := Lib.hid (T1.out.below hb)
  replace E2 := Lib.hid (E2.out.below hb)
  replace T2 := Lib.hid (T2.out.below hb)
  replace Q4 := Lib.hid (Q4.out.below hb)
  replace T4 := Lib.hid (T4.out.below hb)
  replace I0 := Lib.hid (I0.out.below hb)
  replace I1 := Lib.hid (I1.out.below hb)
  replace I2 := Lib.hid (I2.out.below hb)
  replace K := Lib.hid (Rg.acc K.out hb)
  clear hb
  have I3 := Lib.hid hnew
  clear hnew
  have hrw : Rg.Rows (w29.alloc (.cells #[.slice (some ⟨w25.heap.size, 0, none⟩) 1 1, .slice (some ⟨w26.heap.size, 0, none⟩) 1 1, .slice (some ⟨w27.heap.size, 0, none⟩) 2 2, .slice (some ⟨w28.heap.size, 0, none⟩) 1 1] 33)) (.slice (some ⟨w29.heap.size, 0, none⟩) 4 4) [[0], [1], [2, 3], [3]] := (rowsF_new (B := 0) (w := w29) 33 [.slice (some ⟨w25.heap.size, 0, none⟩) 1 1, .slice (some ⟨w26.heap.size, 0, none⟩) 1 1, .slice (some ⟨w27.heap.size, 0, none⟩) 2 2, .slice (some ⟨w28.heap.size, 0, none⟩) 1 1] [[0], [1], [2, 3], [3]] rfl (by simp) (by
    intro i h h2
    match i, h, h2 with
    | 0, _, _ => exact ⟨I0.out, fun _ _ _ _ => Nat.zero_le _⟩
    | 1, _, _ => exact ⟨I1.out, fun _ _ _ _ => Nat.zero_le _⟩
    | 2, _, _ => exact ⟨I2.out, fun _ _ _ _ => Nat.zero_le _⟩
    | 3, _, _ => exact ⟨I3.out, fun _ _ _ _ => Nat.zero_le _⟩) (Nat.zero_le _)).rows
  refine listW_run (some 145) rfl rfl (exec_buildL4 (u1 := .slice (some ⟨w25.heap.size, 0, none⟩) 1 1) (u2 := .slice (some ⟨w26.heap.size, 0, none⟩) 1 1) (u3 := .slice (some ⟨w27.heap.size, 0, none⟩) 2 2) (u4 := .slice (some ⟨w28.heap.size, 0, none⟩) 1 1) _ _ _ _ rfl rfl rfl rfl rfl (run_buildL4 w29 _ _ _ _ ⟨_, _, _, rfl⟩ ⟨_, _, _, rfl⟩ ⟨_, _, _, rfl⟩ ⟨_, _, _, rfl⟩)) ?_
  go_frame
  have hb := (Below.refl w29.heap.size w29).alloc (Nat.le_refl _) (.cells #[.slice (some ⟨w25.heap.size, 0, none⟩) 1 1, .slice (some ⟨w26.heap.size, 0, none⟩) 1 1, .slice (some ⟨w27.heap.size, 0, none⟩) 2 2, .slice (some ⟨w28.heap.size, 0, none⟩) 1 1] 33)
  generalize w29.alloc (.cells #[.slice (some ⟨w25.heap.size, 0, none⟩) 1 1, .slice (some ⟨w26.heap.size, 0, none⟩) 1 1, .slice (some ⟨w27.heap.size, 0, none⟩) 2 2, .slice (some ⟨w28.heap.size, 0, none⟩) 1 1] 33) = w30 at *
  replace E1 := Lib.hid (E1.out.below hb)
  replace T1 := Lib.hid (T1.out.below hb)
  replace E2 := Lib.hid (E2.out.below hb)
  replace T2 := Lib.hid (T2.out.below hb)
  replace Q4 := Lib.hid (Q4.out.below hb)
  replace T4 := Lib.hid (T4.out.below hb)
  replace I0 := Lib.hid (I0.out.below hb)
  replace I1 := Lib.hid (I1.out.below hb)
  replace I2 := Lib.hid (I2.out.below hb)
  replace I3 := Lib.hid (I3.out.below hb)
  replace K := Lib.hid (Rg.acc K.out hb)
  clear hb
  have RW := Lib.hid hrw
  clear hrw
  refine listW_ask (some 146) rfl rfl _ _ (exec_fn 25 _ _ _ rfl rfl rfl (Zicl4 _ _)) ?_
  refine (SameLists_b Q4.out RW.out (Lib.hid (decide_eq_true rfl))).mono ?_
  rintro e1 w31 ⟨rfl, hb⟩
  refine ⟨_, rfl, ?_⟩
  go_frame
  replace E1 := Lib.hid (E1.out.below hb)
  replace T1 := Lib.hid (T1.out.below hb)
  replace E2 := Lib.hid (E2.out.below hb)
  replace T2 := Lib.hid (T2.out.below hb)
  replace Q4 := Lib.hid (Q4.out.below hb)
  replace T4 := Lib.hid (T4.out.below hb)
  replace I0 := Lib.hid (I0.out.below hb)
  replace I1 := Lib.hid (I1.out.below hb)
  replace I2 := Lib.hid (I2.out.below hb)
  replace I3 := Lib.hid (I3.out.below hb)
  replace RW := Lib.hid (RW.out.below hb)
  replace K := Lib.hid (Rg.acc K.out hb)
  clear hb
  refine Rg.list_run (some 147) rfl rfl (exec_pickT (v := .bool true) _ _ _ rfl rfl rfl) ?_
  go_frame
  refine Rg.list_run (some 22) rfl rfl (Rg.exec_assign (v := .bool true) _ rfl rfl) ?_
  go_frame
  clear I0 I1 I2 I3 RW Q4 T4 E1 T1
  go_upto_region 13 with (fail)
  refine wp_region_list ?_
  refine list_ask (some 149) rfl rfl _ _ (exec_fn0 38 _ rfl (Zicl0 _ _)) ?_
  refine (first08_any w31).mono ?_
  rintro e1 w32 ⟨ga, gn, gc, rfl, hgr, hb⟩
  refine ⟨_, rfl, ?_⟩
  go_frame
  replace E2 := Lib.hid (E2.out.below hb)
  replace T2 := Lib.hid (T2.out.below hb)
  replace K := Lib.hid (Rg.acc K.out hb)
  clear hb
  have GR := Lib.hid hgr.rows
  refine list_ask (some 150) rfl rfl _ _ (exec_fn 36 _ _ _ rfl rfl rfl (Zicl10 _ _)) ?_
  refine (rnd_bad (ll := gsF.map Ma.ofN) rndF_0 GR.out (Rg.Ints.nil _ none 0 (Nat.zero_le _))).mono ?_
  rintro e1 w33 ⟨rfl, hb⟩
  refine ⟨_, rfl, ?_⟩
  go_frame
  replace E2 := Lib.hid (E2.out.below hb)
  replace T2 := Lib.hid (T2.out.below hb)
  replace GR := Lib.hid (GR.out.below hb)
  replace K := Lib.hid (Rg.acc K.out hb)
  clear hb
  refine Rg.list_run (some 148) rfl rfl (Rg.exec_move (v := .tuple #[zeroC, .int .i64 13]) _ rfl rfl) ?_
  go_frame
  refine Rg.list_run (some 151) rfl rfl (exec_extract (v := zeroC) _ _ rfl rfl rfl) ?_
  go_frame
  refine Rg.list_run (some 152) rfl rfl (exec_extract (v := .int .i64 13) _ _ rfl rfl rfl) ?_
  go_frame
  refine Rg.list_run (some 23) rfl rfl (exec_allocC rfl) ?_
  go_frame
  refine Rg.list_skip none rfl rfl (Rg.exec_store _ _ _ rfl _ rfl _ rfl (run_storeC _ _ _ _ _ _ _ (Tri.new w33 (.int .i64 0) (.slice none 0 0) (.slice none 0 0)))) ?_
  go_frame
  have htn := (Tri.new w33 (.int .i64 0) (.slice none 0 0) (.slice none 0 0)).set (.int .i64 0) (.slice none 0 0) (.slice none 0 0)
  have hb := ((((Below.refl w33.heap.size w33).alloc (Nat.le_refl _) (.cells #[.int .i64 0, .slice none 0 0, .slice none 0 0] 51)).setCell (p := ⟨w33.heap.size, 0, none⟩) (Nat.le_refl _) (.int .i64 0)).setCell (p := ⟨w33.heap.size, 1, none⟩) (Nat.le_refl _) (.slice none 0 0)).setCell (p := ⟨w33.heap.size, 2, none⟩) (Nat.le_refl _) (.slice none 0 0)
  generalize (((w33.alloc (.cells #[.int .i64 0, .slice none 0 0, .slice none 0 0] 51)).setCell ⟨w33.heap.size, 0, none⟩ (.int .i64 0)).setCell ⟨w33.heap.size, 1, none⟩ (.slice none 0 0)).setCell ⟨w33.heap.size, 2, none⟩ (.slice none 0 0) = w34 at *
  replace E2 := Lib.hid (E2.out.below hb)
  replace T2 := Lib.hid (T2.out.below hb)
  replace GR := Lib.hid (GR.out.below hb)
  replace K := Lib.hid (Rg.acc K.out hb)
  clear hb
  have T5 := Lib.hid htn
  clear htn
  refine Rg.list_run (some 24) rfl rfl (Rg.exec_assign (v := .int .i64 13) _ rfl rfl) ?_
  go_frame
  clear hgr
  clear GR
  clear T5
  go_upto_region 14 with (fail)
  refine wp_region_list ?_
  refine list_ask (some 154) rfl rfl _ _ (exec_fn0 39 _ rfl (Zicl2 _ _)) ?_
  refine (second08_any w34).mono ?_
  rintro e1 w35 ⟨ga, gn, gc, rfl, hgr, hb⟩
  refine ⟨_, rfl, ?_⟩
  go_frame
  replace E2 := Lib.hid (E2.out.below hb)
  replace T2 := Lib.hid (T2.out.below hb)
  replace K := Lib.hid (Rg.acc K.out hb)
  clear hb
  have GR := Lib.hid hgr.rows
  refine list_ask (some 155) rfl rfl _ _ (exec_fn 36 _ _ _ rfl rfl rfl (Zicl10 _ _)) ?_
  refine (rnd_bad (ll := gsS.map Ma.ofN) rndS_0 GR.out (Rg.Ints.nil _ none 0 (Nat.zero_le _))).mono ?_
  rintro e1 w36 ⟨rfl, hb⟩
  refine ⟨_, rfl, ?_⟩
  go_frame
  replace E2 := Lib.hid (E2.out.below hb)
  replace T2 := Lib.hid (T2.out.below hb)
  replace GR := Lib.hid (GR.out.below hb)
  replace K := Lib.hid (Rg.acc K.out hb)
  clear hb
  refine Rg.list_run (some 153) rfl rfl (Rg.exec_move (v := .tuple #[zeroC, .int .i64 13]) _ rfl rfl) ?_
  go_frame
  refine Rg.list_run (some 156) rfl rfl (exec_extract (v := zeroC) _ _ rfl rfl rfl) ?_
  go_frame
  refine Rg.list_run (some 157) rfl rfl (exec_extract (v := .int .i64 13) _ _ rfl rfl rfl) ?_
  go_frame
  refine Rg.list_run (some 25) rfl rfl (exec_allocC rfl) ?_
  go_frame
  refine Rg.list_skip none rfl rfl (Rg.exec_store _ _ _ rfl _ rfl _ rfl (run_storeC _ _ _ _ _ _ _ (Tri.new w36 (.int .i64 0) (.slice none 0 0) (.slice none 0 0)))) ?_
  go_frame
  have htn := (Tri.new w36 (.int .i64 0) (.slice none 0 0) (.slice none 0 0)).set (.int .i64 0) (.slice none 0 0) (.slice none 0 0)
  have hb := ((((Below.refl w36.heap.size w36).alloc (Nat.le_refl _) (.cells #[.int .i64 0, .slice none 0 0, .slice none 0 0] 51)).setCell (p := ⟨w36.heap.size, 0, none⟩) (Nat.le_refl _) (.int .i64 0)).setCell (p := ⟨w36.heap.size, 1, none⟩) (Nat.le_refl _) (.slice none 0 0)).setCell (p := ⟨w36.heap.size, 2, none⟩) (Nat.le_refl _) (.slice none 0 0)
  generalize (((w36.alloc (.cells #[.int .i64 0, .slice none 0 0, .slice none 0 0] 51)).setCell ⟨w36.heap.size, 0, none⟩ (.int .i64 0)).setCell ⟨w36.heap.size, 1, none⟩ (.slice none 0 0)).setCell ⟨w36.heap.size, 2, none⟩ (.slice none 0 0) = w37 at *
  replace E2 := Lib.hid (E2.out.below hb)
  replace T2 := Lib.hid (T2.out.below hb)
  replace GR := Lib.hid (GR.out.below hb)
  replace K := Lib.hid (Rg.acc K.out hb)
  clear hb
  have T6 := Lib.hid htn
  clear htn
  refine Rg.list_run (some 26) rfl rfl (Rg.exec_assign (v := .int .i64 13) _ rfl rfl) ?_
  go_frame
  clear hgr
  clear GR
  clear T6
  go_upto_region 15 with (fail)
  refine wp_region_list ?_
  refine list_ask (some 159) rfl rfl _ _ (exec_fn0 39 _ rfl (Zicl2 _ _)) ?_
  refine (second08_any w37).mono ?_
  rintro e1 w38 ⟨ga, gn, gc, rfl, hgr, hb⟩
  refine ⟨_, rfl, ?_⟩
  go_frame
  replace E2 := Lib.hid (E2.out.below hb)
  replace T2 := Lib.hid (T2.out.below hb)
  replace K := Lib.hid (Rg.acc K.out hb)
  clear hb
  have GR := Lib.hid hgr.rows
  have hnew := ints_new w38 3 [0, 1] (by decide)
  refine Rg.list_run (some 160) rfl rfl (exec_flat _ _ 2 _ rfl [0, 1] Try.underlying33 szInt zInt rfl (by decide) (by decide) rfl) ?_
  go_frame
  have hb := (Below.refl w38.heap.size w38).alloc (Nat.le_refl _) (.cells (([0, 1] : List Int).map (Value.int .i64)).toArray 3)
  generalize w38.alloc (.cells (([0, 1] : List Int).map (Value.int .i64)).toArray 3) = w39 at *
  replace E2 := Lib.hid (E2.out.below hb)
  replace T2 := Lib.hid (T2.out.below hb)
  replace GR := Lib.hid (GR.out.below hb)
  replace K := Lib.hid (Rg.acc K.out hb)
  clear hb
  have IN := Lib.hid hnew
  clear hnew
  refine list_ask (some 161) rfl rfl _ _ (exec_fn 36 _ _ _ rfl rfl rfl (Zicl10 _ _)) ?_
  refine (rnd_ok (ll := gsS.map Ma.ofN) rndS_1 GR.out IN.out).mono ?_
  rintro e1 w40 ⟨d7, oa7, on7, oc7, ra7, rn7, rc7, rfl, hq, hb⟩
  refine ⟨_, rfl, ?_⟩
  go_frame
  replace E2 := Lib.hid (E2.out.below hb)
  replace T2 := Lib.hid (T2.out.below hb)
  replace GR := Lib.hid (GR.out.below hb)
  replace IN := Lib.hid (IN.out.below hb)
  replace K := Lib.hid (Rg.acc K.out hb)
  clear hb
  have N7 := Lib.hid hq
  refine Rg.list_run (some 158) rfl rfl (Rg.exec_move (v := .tuple #[(.agg #[.int .i64 d7, .slice oa7 on7 oc7, .slice ra7 rn7 rc7]), .int .i64 0]) _ rfl rfl) ?_
  go_frame
  refine Rg.list_run (some 162) rfl rfl (exec_extract (v := (.agg #[.int .i64 d7, .slice oa7 on7 oc7, .slice ra7 rn7 rc7])) _ _ rfl rfl rfl) ?_
  go_frame
  refine Rg.list_run (some 163) rfl rfl (exec_extract (v := .int .i64 0) _ _ rfl rfl rfl) ?_
  go_frame
  refine Rg.list_run (some 27) rfl rfl (exec_allocC rfl) ?_
  go_frame
  refine Rg.list_skip none rfl rfl (Rg.exec_store _ _ _ rfl _ rfl _ rfl (run_storeC _ _ _ _ _ _ _ (Tri.new w40 (.int .i64 0) (.slice none 0 0) (.slice none 0 0)))) ?_
  go_frame
  have htn := (Tri.new w40 (.int .i64 0) (.slice none 0 0) (.slice none 0 0)).set (.int .i64 d7) (.slice oa7 on7 oc7) (.slice ra7 rn7 rc7)
  have hb := ((((Below.refl w40.heap.size w40).alloc (Nat.le_refl _) (.cells #[.int .i64 0, .slice none 0 0, .slice none 0 0] 51)).setCell (p := ⟨w40.heap.size, 0, none⟩) (Nat.le_refl _) (.int .i64 d7)).setCell (p := ⟨w40.heap.size, 1, none⟩) (Nat.le_refl _) (.slice oa7 on7 oc7)).setCell (p := ⟨w40.heap.size, 2, none⟩) (Nat.le_refl _) (.slice ra7 rn7 rc7)
  generalize (((w40.alloc (.cells #[.int .i64 0, .slice none 0 0, .slice none 0 0] 51)).setCell ⟨w40.heap.size, 0, none⟩ (.int .i64 d7)).setCell ⟨w40.heap.size, 1, none⟩ (.slice oa7 on7 oc7)).setCell ⟨w40.heap.size, 2, none⟩ (.slice ra7 rn7 rc7) = w41 at *
  replace E2 := Lib.hid (E2.out.below hb)
  replace T2 := Lib.hid (T2.out.below hb)
  replace GR := Lib.hid (GR.out.below hb)
  replace IN := Lib.hid (IN.out.below hb)
  replace N7 := Lib.hid (N7.out.below hb)
  replace K := Lib.hid (Rg.acc K.out hb)
  clear hb
  have T7 := Lib.hid htn
  clear htn
  refine Rg.list_run (some 28) rfl rfl (Rg.exec_assign (v := .int .i64 0) _ rfl rfl) ?_
  go_frame
  clear hgr hq
  clear GR
  clear IN
  go_upto_region 16 with (fail)
  refine wp_region_list ?_
  refine list_ask (some 165) rfl rfl _ _ (exec_fn0 39 _ rfl (Zicl2 _ _)) ?_
  refine (second08_any w41).mono ?_
  rintro e1 w42 ⟨ga, gn, gc, rfl, hgr, hb⟩
  refine ⟨_, rfl, ?_⟩
  go_frame
  replace E2 := Lib.hid (E2.out.below hb)
  replace T2 := Lib.hid (T2.out.below hb)
  replace N7 := Lib.hid (N7.out.below hb)
  replace T7 := Lib.hid (T7.out.below hb)
  replace K := Lib.hid (Rg.acc K.out hb)
  clear hb
  have GR := Lib.hid hgr.rows
  have hnew := ints_new w42 3 [0, 1, 5] (by decide)
  refine Rg.list_run (some 166) rfl rfl (exec_flat _ _ 3 _ rfl [0, 1, 5] Try.underlying33 szInt zInt rfl (by decide) (by decide) rfl) ?_
  go_frame
  have hb := (Below.refl w42.heap.size w42).alloc (Nat.le_refl _) (.cells (([0, 1, 5] : List Int).map (Value.int .i64)).toArray 3)
  generalize w42.alloc (.cells (([0, 1, 5] : List Int).map (Value.int .i64)).toArray 3) = w43 at *
  replace E2 := Lib.hid (E2.out.below hb)
  replace T2 := Lib.hid (T2.out.below hb)
  replace N7 := Lib.hid (N7.out.below hb)
  replace T7 := Lib.hid (T7.out.below hb)
  replace GR := Lib.hid (GR.out.below hb)
  replace K := Lib.hid (Rg.acc K.out hb)
  clear hb
  have IN := Lib.hid hnew
  clear hnew
  refine list_ask (some 167) rfl rfl _ _ (exec_fn 36 _ _ _ rfl rfl rfl (Zicl10 _ _)) ?_
  refine (rnd_ok (ll := gsS.map Ma.ofN) rndS_2 GR.out IN.out).mono ?_
  rintro e1 w44 ⟨d8, oa8, on8, oc8, ra8, rn8, rc8, rfl, hq, hb⟩
  refine ⟨_, rfl, ?_⟩
  go_frame
  replace E2 := Lib.hid (E2.out.below hb)
  replace T2 := Lib.hid (T2.out.below hb)
  replace N7 := Lib.hid (N7.out.below hb)
  replace T7 := Lib.hid (T7.out.below hb)
  replace GR := Lib.hid (GR.out.below hb)
  replace IN := Lib.hid (IN.out.below hb)
  replace K := Lib.hid (Rg.acc K.out hb)
  clear hb
  have N8 := Lib.hid hq
  refine Rg.list_run (some 164) rfl rfl (Rg.exec_move (v := .tuple #[(.agg #[.int .i64 d8, .slice oa8 on8 oc8, .slice ra8 rn8 rc8]), .int .i64 0]) _ rfl rfl) ?_
  go_frame
  refine Rg.list_run (some 168) rfl rfl (exec_extract (v := (.agg #[.int .i64 d8, .slice oa8 on8 oc8, .slice ra8 rn8 rc8])) _ _ rfl rfl rfl) ?_
  go_frame
  refine Rg.list_run (some 169) rfl rfl (exec_extract (v := .int .i64 0) _ _ rfl rfl rfl) ?_
  go_frame
  refine Rg.list_run (some 29) rfl rfl (exec_allocC rfl) ?_
  go_frame
  refine Rg.list_skip none rfl rfl (Rg.exec_store _ _ _ rfl _ rfl _ rfl (run_storeC _ _ _ _ _ _ _ (Tri.new w44 (.int .i64 0) (.slice none 0 0) (.slice none 0 0)))) ?_
  go_frame
  have htn := (Tri.new w44 (.int .i64 0) (.slice none 0 0) (.slice none 0 0)).set (.int .i64 d8) (.slice oa8 on8 oc8) (.slice ra8 rn8 rc8)
  have hb := ((((Below.refl w44.heap.size w44).alloc (Nat.le_refl _) (.cells #[.int .i64 0, .slice none 0 0, .slice none 0 0] 51)).setCell (p := ⟨w44.heap.size, 0, none⟩) (Nat.le_refl _) (.int .i64 d8)).setCell (p := ⟨w44.heap.size, 1, none⟩) (Nat.le_refl _) (.slice oa8 on8 oc8)).setCell (p := ⟨w44.heap.size, 2, none⟩) (Nat.le_refl _) (.slice ra8 rn8 rc8)
  generalize (((w44.alloc (.cells #[.int .i64 0, .slice none 0 0, .slice none 0 0] 51)).setCell ⟨w44.heap.size, 0, none⟩ (.int .i64 d8)).setCell ⟨w44.heap.size, 1, none⟩ (.slice oa8 on8 oc8)).setCell ⟨w44.heap.size, 2, none⟩ (.slice ra8 rn8 rc8) = w45 at *
  replace E2 := Lib.hid (E2.out.below hb)
  replace T2 := Lib.hid (T2.out.below hb)
  replace N7 := Lib.hid (N7.out.below hb)
  replace T7 := Lib.hid (T7.out.below hb)
  replace GR := Lib.hid (GR.out.below hb)
  replace IN := Lib.hid (IN.out.below hb)
  replace N8 := Lib.hid (N8.out.below hb)
  replace K := Lib.hid (Rg.acc K.out hb)
  clear hb
  have T8 := Lib.hid htn
  clear htn
  refine Rg.list_run (some 30) rfl rfl (Rg.exec_assign (v := .int .i64 0) _ rfl rfl) ?_
  go_frame
  clear hgr hq
  clear GR
  clear IN
  go_upto_region 17 with (fail)
  refine wp_region_list ?_
  refine Rg.list_run (some 170) rfl rfl (Rg.exec_move (v := .int .i64 13) _ rfl rfl) ?_
  go_frame
  refine Rg.list_run (some 171) rfl rfl (exec_eqI _ _ rfl rfl rfl rfl) ?_
  go_frame
  refine Rg.list_run (some 172) rfl rfl (Rg.exec_move (v := .bool true) _ rfl rfl) ?_
  go_frame
  refine listW_run (some 173) rfl rfl (Rg.exec_move (v := .int .i64 13) _ rfl rfl) ?_
  go_frame
  refine listW_run (some 174) rfl rfl (exec_eqI _ _ rfl rfl rfl rfl) ?_
  go_frame
  refine Rg.list_run (some 175) rfl rfl (exec_pickT (v := .bool true) _ _ _ rfl rfl rfl) ?_
  go_frame
  refine Rg.list_run (some 176) rfl rfl (Rg.exec_move (v := .bool true) _ rfl rfl) ?_
  go_frame
  refine listW_run (some 177) rfl rfl (Rg.exec_move (v := .int .i64 0) _ rfl rfl) ?_
  go_frame
  refine listW_run (some 178) rfl rfl (exec_eqI _ _ rfl rfl rfl rfl) ?_
  go_frame
  refine Rg.list_run (some 179) rfl rfl (exec_pickT (v := .bool true) _ _ _ rfl rfl rfl) ?_
  go_frame
  refine Rg.list_run (some 180) rfl rfl (Rg.exec_move (v := .bool true) _ rfl rfl) ?_
  go_frame
  refine listW_run (some 181) rfl rfl (Rg.exec_load (v := (.agg #[.int .i64 d7, .slice oa7 on7 oc7, .slice ra7 rn7 rc7])) _ _ rfl ⟨w40.heap.size, 0, none⟩ rfl (run_loadC3 T7.out.c0 T7.out.c1 T7.out.c2)) ?_
  go_frame
  refine listW_run (some 182) rfl rfl (Rg.exec_load (v := (.agg #[.int .i64 ((4 : Nat) : Int), .slice oa2 on2 oc2, .slice ra2 (R2.map (List.map Ma.ofN)).length rc2])) _ _ rfl ⟨w5.heap.size, 0, none⟩ rfl (run_loadC3 T2.out.c0 T2.out.c1 T2.out.c2)) ?_
  go_frame
  refine listW_ask (some 183) rfl rfl _ _ (exec_fn 35 _ _ _ rfl rfl rfl (Zicl11 _ _)) ?_
  refine (SameChain_ans N7.out (ans_of (by decide) (by decide) E2.out HCH2.out)).mono ?_
  rintro e1 w46 ⟨rfl, hb⟩
  refine ⟨_, rfl, ?_⟩
  go_frame
  replace E2 := Lib.hid (E2.out.below hb)
  replace T2 := Lib.hid (T2.out.below hb)
  replace N7 := Lib.hid (N7.out.below hb)
  replace T7 := Lib.hid (T7.out.below hb)
  replace N8 := Lib.hid (N8.out.below hb)
  replace T8 := Lib.hid (T8.out.below hb)
  replace K := Lib.hid (Rg.acc K.out hb)
  clear hb
  refine Rg.list_run (some 184) rfl rfl (exec_pickT (v := .bool true) _ _ _ rfl rfl rfl) ?_
  go_frame
  refine Rg.list_run (some 185) rfl rfl (Rg.exec_move (v := .bool true) _ rfl rfl) ?_
  go_frame
  refine listW_run (some 186) rfl rfl (Rg.exec_move (v := .int .i64 0) _ rfl rfl) ?_
  go_frame
  refine listW_run (some 187) rfl rfl (exec_eqI _ _ rfl rfl rfl rfl) ?_
  go_frame
  refine Rg.list_run (some 188) rfl rfl (exec_pickT (v := .bool true) _ _ _ rfl rfl rfl) ?_
  go_frame
  refine Rg.list_run (some 189) rfl rfl (Rg.exec_move (v := .bool true) _ rfl rfl) ?_
  go_frame
  refine listW_run (some 190) rfl rfl (Rg.exec_load (v := (.agg #[.int .i64 d8, .slice oa8 on8 oc8, .slice ra8 rn8 rc8])) _ _ rfl ⟨w44.heap.size, 0, none⟩ rfl (run_loadC3 T8.out.c0 T8.out.c1 T8.out.c2)) ?_
  go_frame
  refine listW_run (some 191) rfl rfl (Rg.exec_load (v := (.agg #[.int .i64 ((4 : Nat) : Int), .slice oa2 on2 oc2, .slice ra2 (R2.map (List.map Ma.ofN)).length rc2])) _ _ rfl ⟨w5.heap.size, 0, none⟩ rfl (run_loadC3 T2.out.c0 T2.out.c1 T2.out.c2)) ?_
  go_frame
  refine listW_ask (some 192) rfl rfl _ _ (exec_fn 35 _ _ _ rfl rfl rfl (Zicl11 _ _)) ?_
  refine (SameChain_ans N8.out (ans_of (by decide) (by decide) E2.out HCH2.out)).mono ?_
  rintro e1 w47 ⟨rfl, hb⟩
  refine ⟨_, rfl, ?_⟩
  go_frame
  replace E2 := Lib.hid (E2.out.below hb)
  replace T2 := Lib.hid (T2.out.below hb)
  replace N7 := Lib.hid (N7.out.below hb)
  replace T7 := Lib.hid (T7.out.below hb)
  replace N8 := Lib.hid (N8.out.below hb)
  replace T8 := Lib.hid (T8.out.below hb)
  replace K := Lib.hid (Rg.acc K.out hb)
  clear hb
  refine Rg.list_run (some 193) rfl rfl (exec_pickT (v := .bool true) _ _ _ rfl rfl rfl) ?_
  go_frame
  refine Rg.list_run (some 31) rfl rfl (Rg.exec_assign (v := .bool true) _ rfl rfl) ?_
  go_frame
  go_upto_region 18 with (fail)
  refine wp_region_list ?_
  have hnew := ints_new w47 3 [0, 1, 2] (by decide)
  refine Rg.list_run (some 194) rfl rfl (exec_flat _ _ 3 _ rfl [0, 1, 2] Try.underlying33 szInt zInt rfl (by decide) (by decide) rfl) ?_
  go_frame
  have hb := (Below.refl w47.heap.size w47).alloc (Nat.le_refl _) (.cells (([0, 1, 2] : List Int).map (Value.int .i64)).toArray 3)
  generalize w47.alloc (.cells (([0, 1, 2] : List Int).map (Value.int .i64)).toArray 3) = w48 at *
  replace E2 := Lib.hid (E2.out.below hb)
  replace T2 := Lib.hid (T2.out.below hb)
  replace N7 := Lib.hid (N7.out.below hb)
  replace T7 := Lib.hid (T7.out.below hb)
  replace N8 := Lib.hid (N8.out.below hb)
  replace T8 := Lib.hid (T8.out.below hb)
  replace K := Lib.hid (Rg.acc K.out hb)
  clear hb
  have I0 := Lib.hid hnew
  clear hnew
  have hnew := ints_new w48 3 [1] (by decide)
  refine Rg.list_run (some 195) rfl rfl (exec_flat _ _ 1 _ rfl [1] Try.underlying33 szInt zInt rfl (by decide) (by decide) rfl) ?_
  go_frame
  have hb := (Below.refl w48.heap.size w48).alloc (Nat.le_refl _) (.cells (([1] : List Int).map (Value.int .i64)).toArray 3)
  generalize w48.alloc (.cells (([1] : List Int).map (Value.int .i64)).toArray 3) = w49 at *
  replace E2 := Lib.hid (E2.out.below hb)
  replace T2 := Lib.hid (T2.out.below hb)
  replace N7 := Lib.hid (N7.out.below hb)
  replace T7 := Lib.hid (T7.out.below hb)
  replace N8 := Lib.hid (N8.out.below hb)
  replace T8 := Lib.hid (T8.out.below hb)
  replace I0 := Lib.hid (I0.out.below hb)
  replace K := Lib.hid (Rg.acc K.out hb)
  clear hb
  have I1 := Lib.hid hnew
  clear hnew
  have hnew := ints_new w49 3 [2] (by decide)
  refine Rg.list_run (some 196) rfl rfl (exec_flat _ _ 1 _ rfl [2] Try.underlying33 szInt zInt rfl (by decide) (by decide) rfl) ?_
  go_frame
  have hb := (Below.refl w49.heap.size w49).alloc (Nat.le_refl _) (.cells (([2] : List Int).map (Value.int .i64)).toArray 3)
  generalize w49.alloc (.cells (([2] : List Int).map (Value.int .i64)).toArray 3) = w50 at *
  replace E2 := Lib.hid (E2.out.below hb)
  replace T2 := Lib.hid (T2.out.below hb)
  replace N7 := Lib.hid (N7.out.below hb)
  replace T7 := Lib.hid (T7.out.below hb)
  replace N8 := Lib.hid (N8.out.below hb)
  replace T8 := Lib.hid (T8.out.below hb)
  replace I0 := Lib.hid (I0.out.below hb)
  replace I1 := Lib.hid (I1.out.below hb)
  replace K := Lib.hid (Rg.acc K.out hb)
  clear hb
  have I2 := Lib.hid hnew
  clear hnew
  have hnew := ints_new w50 3 [3] (by decide)
  refine Rg.list_run (some 197) rfl rfl (exec_flat _ _ 1 _ rfl [3] Try.underlying33 szInt zInt rfl (by decide) (by decide) rfl) ?_
  go_frame
  have hb := (Below.refl w50.heap.size w50).alloc (Nat.le_refl _) (.cells (([3] : List Int).map (Value.int .i64)).toArray 3)
  generalize w50.alloc (.cells (([3] : List Int).map (Value.int .i64)).toArray 3) = w51 at *
  replace E2 := Lib.hid (E2.out.below hb)
  replace T2 := Lib.hid (T2.out.below hb)
  replace N7 := Lib.hid (N7.out.below hb)
  replace T7 := Lib.hid (T7.out.below hb)
  replace N8 := Lib.hid (N8.out.below hb)
  replace T8 := Lib.hid (T8.out.below hb)
  replace I0 := Lib.hid (I0.out.below hb)
  replace I1 := Lib.hid (I1.out.below hb)
  replace I2 := Lib.hid (I2.out.below hb)
  replace K := Lib.hid (Rg.acc K.out hb)
  clear hb
  have I3 := Lib.hid hnew
  clear hnew
  have hrw : Rg.Rows (w51.alloc (.cells #[.slice (some ⟨w47.heap.size, 0, none⟩) 3 3, .slice (some ⟨w48.heap.size, 0, none⟩) 1 1, .slice (some ⟨w49.heap.size, 0, none⟩) 1 1, .slice (some ⟨w50.heap.size, 0, none⟩) 1 1] 33)) (.slice (some ⟨w51.heap.size, 0, none⟩) 4 4) [[0, 1, 2], [1], [2], [3]] := (rowsF_new (B := 0) (w := w51) 33 [.slice (some ⟨w47.heap.size, 0, none⟩) 3 3, .slice (some ⟨w48.heap.size, 0, none⟩) 1 1, .slice (some ⟨w49.heap.size, 0, none⟩) 1 1, .slice (some ⟨w50.heap.size, 0, none⟩) 1 1] [[0, 1, 2], [1], [2], [3]] rfl (by simp) (by
    intro i h h2
    match i, h, h2 with
    | 0, _, _ => exact ⟨I0.out, fun _ _ _ _ => Nat.zero_le _⟩
    | 1, _, _ => exact ⟨I1.out, fun _ _ _ _ => Nat.zero_le _⟩
    | 2, _, _ => exact ⟨I2.out, fun _ _ _ _ => Nat.zero_le _⟩
    | 3, _, _ => exact ⟨I3.out, fun _ _ _ _ => Nat.zero_le _⟩) (Nat.zero_le _)).rows
  refine Rg.list_run (some 198) rfl rfl (exec_buildL4 (u1 := .slice (some ⟨w47.heap.size, 0, none⟩) 3 3) (u2 := .slice (some ⟨w48.heap.size, 0, none⟩) 1 1) (u3 := .slice (some ⟨w49.heap.size, 0, none⟩) 1 1) (u4 := .slice (some ⟨w50.heap.size, 0, none⟩) 1 1) _ _ _ _ rfl rfl rfl rfl rfl (run_buildL4 w51 _ _ _ _ ⟨_, _, _, rfl⟩ ⟨_, _, _, rfl⟩ ⟨_, _, _, rfl⟩ ⟨_, _, _, rfl⟩)) ?_
  go_frame
  have hb := (Below.refl w51.heap.size w51).alloc (Nat.le_refl _) (.cells #[.slice (some ⟨w47.heap.size, 0, none⟩) 3 3, .slice (some ⟨w48.heap.size, 0, none⟩) 1 1, .slice (some ⟨w49.heap.size, 0, none⟩) 1 1, .slice (some ⟨w50.heap.size, 0, none⟩) 1 1] 33)
  generalize w51.alloc (.cells #[.slice (some ⟨w47.heap.size, 0, none⟩) 3 3, .slice (some ⟨w48.heap.size, 0, none⟩) 1 1, .slice (some ⟨w49.heap.size, 0, none⟩) 1 1, .slice (some ⟨w50.heap.size, 0, none⟩) 1 1] 33) = w52 at *
  replace E2 := Lib.hid (E2.out.below hb)
  replace T2 := Lib.hid (T2.out.below hb)
  replace N7 := Lib.hid (N7.out.below hb)
  replace T7 := Lib.hid (T7.out.below hb)
  replace N8 := Lib.hid (N8.out.below hb)
  replace T8 := Lib.hid (T8.out.below hb)
  replace I0 := Lib.hid (I0.out.below hb)
  replace I1 := Lib.hid (I1.out.below hb)
  replace I2 := Lib.hid (I2.out.below hb)
  replace I3 := Lib.hid (I3.out.below hb)
  replace K := Lib.hid (Rg.acc K.out hb)
  clear hb
  have RW := Lib.hid hrw
  clear hrw
  refine Rg.list_run (some 199) rfl rfl (exec_field _ rfl rfl (chF2 _ _)) ?_
  go_frame
  refine Rg.list_run (some 200) rfl rfl (Rg.exec_load (v := .slice ra2 (R2.map (List.map Ma.ofN)).length rc2) _ _ rfl ⟨w5.heap.size, 2, none⟩ rfl (Rg.run_loadSl _ _ Try.underlying49 T2.out.c2)) ?_
  go_frame
  refine Rg.list_run (some 201) rfl rfl (exec_buildC3 (d := ((4 : Nat) : Int)) _ _ _ rfl rfl rfl rfl) ?_
  go_frame
  refine Rg.list_run (some 32) rfl rfl (exec_allocC rfl) ?_
  go_frame
  refine Rg.list_skip none rfl rfl (Rg.exec_store _ _ _ rfl _ rfl _ rfl (run_storeC _ _ _ _ _ _ _ (Tri.new w52 (.int .i64 0) (.slice none 0 0) (.slice none 0 0)))) ?_
  go_frame
  have htn := (Tri.new w52 (.int .i64 0) (.slice none 0 0) (.slice none 0 0)).set (.int .i64 ((4 : Nat) : Int)) (.slice (some ⟨w51.heap.size, 0, none⟩) 4 4) (.slice ra2 (R2.map (List.map Ma.ofN)).length rc2)
  have hb := ((((Below.refl w52.heap.size w52).alloc (Nat.le_refl _) (.cells #[.int .i64 0, .slice none 0 0, .slice none 0 0] 51)).setCell (p := ⟨w52.heap.size, 0, none⟩) (Nat.le_refl _) (.int .i64 ((4 : Nat) : Int))).setCell (p := ⟨w52.heap.size, 1, none⟩) (Nat.le_refl _) (.slice (some ⟨w51.heap.size, 0, none⟩) 4 4)).setCell (p := ⟨w52.heap.size, 2, none⟩) (Nat.le_refl _) (.slice ra2 (R2.map (List.map Ma.ofN)).length rc2)
  generalize (((w52.alloc (.cells #[.int .i64 0, .slice none 0 0, .slice none 0 0] 51)).setCell ⟨w52.heap.size, 0, none⟩ (.int .i64 ((4 : Nat) : Int))).setCell ⟨w52.heap.size, 1, none⟩ (.slice (some ⟨w51.heap.size, 0, none⟩) 4 4)).setCell ⟨w52.heap.size, 2, none⟩ (.slice ra2 (R2.map (List.map Ma.ofN)).length rc2) = w53 at *
  replace E2 := Lib.hid (E2.out.below hb)
  replace T2 := Lib.hid (T2.out.below hb)
  replace N7 := Lib.hid (N7.out.below hb)
  replace T7 := Lib.hid (T7.out.below hb)
  replace N8 := Lib.hid (N8.out.below hb)
  replace T8 := Lib.hid (T8.out.below hb)
  replace I0 := Lib.hid (I0.out.below hb)
  replace I1 := Lib.hid (I1.out.below hb)
  replace I2 := Lib.hid (I2.out.below hb)
  replace I3 := Lib.hid (I3.out.below hb)
  replace RW := Lib.hid (RW.out.below hb)
  replace K := Lib.hid (Rg.acc K.out hb)
  clear hb
  have T9 := Lib.hid htn
  clear htn
  have HR0 := Lib.hid (repsS HCH2.out)
  go_upto_region 19 with (fail)
  refine wp_region_list ?_
  refine list_ask (some 202) rfl rfl _ _ (exec_fn0 30 _ rfl (Zicl12 _ _)) ?_
  refine (awake08_any w53).mono ?_
  rintro e1 w54 ⟨rfl, hb⟩
  refine ⟨_, rfl, ?_⟩
  go_frame
  replace E2 := Lib.hid (E2.out.below hb)
  replace T2 := Lib.hid (T2.out.below hb)
  replace N7 := Lib.hid (N7.out.below hb)
  replace T7 := Lib.hid (T7.out.below hb)
  replace N8 := Lib.hid (N8.out.below hb)
  replace T8 := Lib.hid (T8.out.below hb)
  replace I0 := Lib.hid (I0.out.below hb)
  replace I1 := Lib.hid (I1.out.below hb)
  replace I2 := Lib.hid (I2.out.below hb)
  replace I3 := Lib.hid (I3.out.below hb)
  replace RW := Lib.hid (RW.out.below hb)
  replace T9 := Lib.hid (T9.out.below hb)
  replace K := Lib.hid (Rg.acc K.out hb)
  clear hb
  refine Rg.list_run (some 203) rfl rfl (Rg.exec_move (v := .bool true) _ rfl rfl) ?_
  go_frame
  refine listW_run (some 204) rfl rfl (Rg.exec_move (v := .bool true) _ rfl rfl) ?_
  go_frame
  refine Rg.list_run (some 205) rfl rfl (exec_pickT (v := .bool true) _ _ _ rfl rfl rfl) ?_
  go_frame
  refine Rg.list_run (some 206) rfl rfl (Rg.exec_move (v := .bool true) _ rfl rfl) ?_
  go_frame
  refine listW_run (some 207) rfl rfl (Rg.exec_move (v := .bool true) _ rfl rfl) ?_
  go_frame
  refine Rg.list_run (some 208) rfl rfl (exec_pickT (v := .bool true) _ _ _ rfl rfl rfl) ?_
  go_frame
  refine Rg.list_run (some 209) rfl rfl (Rg.exec_move (v := .bool true) _ rfl rfl) ?_
  go_frame
  refine listW_run (some 210) rfl rfl (Rg.exec_move (v := .bool true) _ rfl rfl) ?_
  go_frame
  refine Rg.list_run (some 211) rfl rfl (exec_pickT (v := .bool true) _ _ _ rfl rfl rfl) ?_
  go_frame
  refine Rg.list_run (some 212) rfl rfl (Rg.exec_move (v := .bool true) _ rfl rfl) ?_
  go_frame
  refine listW_run (some 213) rfl rfl (Rg.exec_move (v := .bool true) _ rfl rfl) ?_
  go_frame
  refine Rg.list_run (some 214) rfl rfl (exec_pickT (v := .bool true) _ _ _ rfl rfl rfl) ?_
  go_frame
  refine Rg.list_run (some 215) rfl rfl (Rg.exec_move (v := .bool true) _ rfl rfl) ?_
  go_frame
  refine listW_run (some 216) rfl rfl (exec_buildC0 rfl) ?_
  go_frame
  refine listW_ask (some 217) rfl rfl _ _ (exec_fn1 45 _ _ rfl rfl (Zicl13 _ _)) ?_
  refine (chk_zero w54).mono ?_
  rintro e1 w55 ⟨rfl, hb⟩
  refine ⟨_, rfl, ?_⟩
  go_frame
  replace E2 := Lib.hid (E2.out.below hb)
  replace T2 := Lib.hid (T2.out.below hb)
  replace N7 := Lib.hid (N7.out.below hb)
  replace T7 := Lib.hid (T7.out.below hb)
  replace N8 := Lib.hid (N8.out.below hb)
  replace T8 := Lib.hid (T8.out.below hb)
  replace I0 := Lib.hid (I0.out.below hb)
  replace I1 := Lib.hid (I1.out.below hb)
  replace I2 := Lib.hid (I2.out.below hb)
  replace I3 := Lib.hid (I3.out.below hb)
  replace RW := Lib.hid (RW.out.below hb)
  replace T9 := Lib.hid (T9.out.below hb)
  replace K := Lib.hid (Rg.acc K.out hb)
  clear hb
  refine listW_run (some 218) rfl rfl (exec_eqI _ _ rfl rfl rfl rfl) ?_
  go_frame
  refine Rg.list_run (some 219) rfl rfl (exec_pickT (v := .bool true) _ _ _ rfl rfl rfl) ?_
  go_frame
  refine Rg.list_run (some 220) rfl rfl (Rg.exec_move (v := .bool true) _ rfl rfl) ?_
  go_frame
  refine listW_run (some 221) rfl rfl (Rg.exec_load (v := (.agg #[.int .i64 ((4 : Nat) : Int), .slice (some ⟨w51.heap.size, 0, none⟩) 4 4, .slice ra2 (R2.map (List.map Ma.ofN)).length rc2])) _ _ rfl ⟨w52.heap.size, 0, none⟩ rfl (run_loadC3 T9.out.c0 T9.out.c1 T9.out.c2)) ?_
  go_frame
  refine listW_ask (some 222) rfl rfl _ _ (exec_fn1 45 _ _ rfl rfl (Zicl13 _ _)) ?_
  refine (chk_short HR0.out HCH2.out.lenR RW.out E2.out.2).mono ?_
  rintro e1 w56 ⟨rfl, hb⟩
  refine ⟨_, rfl, ?_⟩
  go_frame
  replace E2 := Lib.hid (E2.out.below hb)
  replace T2 := Lib.hid (T2.out.below hb)
  replace N7 := Lib.hid (N7.out.below hb)
  replace T7 := Lib.hid (T7.out.below hb)
  replace N8 := Lib.hid (N8.out.below hb)
  replace T8 := Lib.hid (T8.out.below hb)
  replace I0 := Lib.hid (I0.out.below hb)
  replace I1 := Lib.hid (I1.out.below hb)
  replace I2 := Lib.hid (I2.out.below hb)
  replace I3 := Lib.hid (I3.out.below hb)
  replace RW := Lib.hid (RW.out.below hb)
  replace T9 := Lib.hid (T9.out.below hb)
  replace K := Lib.hid (Rg.acc K.out hb)
  clear hb
  refine listW_run (some 223) rfl rfl (exec_eqI _ _ rfl rfl rfl rfl) ?_
  go_frame
  refine Rg.list_run (some 224) rfl rfl (exec_pickT (v := .bool true) _ _ _ rfl rfl rfl) ?_
  go_frame
  refine Rg.list_run (some 0) rfl rfl (Rg.exec_assign (v := .bool true) _ rfl rfl) ?_
  go_frame
  go_wp2
  go_ret
  exact ⟨rfl, K.out⟩
end Go.Proofs.Ytojbijkljnohoaa

namespace Go.Proofs.Ytojbijkljnohoaa
open Go.RowKit
open Go.Proofs
open Go.Proofs.Ob
attribute [local irreducible] Go.Calls Go.wpList
theorem Zjcl0 (args : Array Value) (w : World) : (callFunc 87 args).run Try.prog w = .ok (.enter 87 args) w := by kernel_rfl
theorem tkF0 (b : Nat) (w : World) : (Instr.fieldAt 75 (.pointer (some ⟨b, 0, none⟩)) 0).run Try.prog w = .ok (.pointer (some ⟨b, 0, none⟩)) w := by kernel_rfl
theorem kpAcc {M : Nat → Prop} {w w' w'' : World} (h : Rg.Kp M w w') (hb : Below w'.heap.size w' w'') : Rg.Kp M w w'' := Rg.Kp.trans (M := M) h (Rg.Kp.of_below (M := M) hb) (fun _ _ e => e)
theorem pick_n {x m : Int} {r : Nat} (h0 : 0 < m) (h1 : m ≤ 1000) (hr : Hid (pickV x m = ((r : Nat) : Int))) (w : World) : Calls Try.prog 87 #[.int .i64 x, .int .i64 m] w fun e w' => e = .returned (.int .i64 ((r : Nat) : Int)) ∧ Below w.heap.size w w' := by
  rw [← hr.out]
  exact Pick_any x m w h0 h1
theorem tkF1 (b : Nat) (w : World) : (Instr.fieldAt 75 (.pointer (some ⟨b, 0, none⟩)) 1).run Try.prog w = .ok (.pointer (some ⟨b, 1, none⟩)) w := by kernel_rfl
structure Tk (w0 w : World) (tk k : Nat) (lv : Value) (l : List Int) : Prop where
  c0 : w.cell? ⟨tk, 0, none⟩ = some lv
  c1 : w.cell? ⟨tk, 1, none⟩ = some (.int .i64 ((k : Nat) : Int))
  f1 : w.frozen? ⟨tk, 1, none⟩ = false
  lt : tk < w.heap.size
  lo : w0.heap.size ≤ tk
  bel : Below w0.heap.size w0 w
  ints : Rg.IntsB maxLen w0 lv l
theorem Tk.below {w0 w w' : World} {tk k : Nat} {lv : Value} {l : List Int} (h : Tk w0 w tk k lv l) (hb : Below w.heap.size w w') : Tk w0 w' tk k lv l :=
  ⟨(hb.cell (p := ⟨tk, 0, none⟩) h.lt).trans h.c0, (hb.cell (p := ⟨tk, 1, none⟩) h.lt).trans h.c1, (hb.frozen (p := ⟨tk, 1, none⟩) h.lt).trans h.f1, Nat.lt_of_lt_of_le h.lt hb.size, h.lo, h.bel.trans (hb.mono h.bel.size), h.ints⟩
theorem Tk.kp {M : Nat → Prop} {w0 w w' : World} {tk k : Nat} {lv : Value} {l : List Int} (h : Tk w0 w tk k lv l) (hk : Rg.Kp M w w') (hM : ¬ M tk) (hl : ∀ z, M z → w0.heap.size ≤ z) : Tk w0 w' tk k lv l :=
  ⟨(World.cell?_of_block (a := ⟨tk, 0, none⟩) (hk.block tk h.lt hM)).trans h.c0, (World.cell?_of_block (a := ⟨tk, 1, none⟩) (hk.block tk h.lt hM)).trans h.c1, (World.frozen?_of_block (a := ⟨tk, 1, none⟩) (hk.block tk h.lt hM)).trans h.f1, Nat.lt_of_lt_of_le h.lt hk.size, h.lo, Rg.Kp.below h.bel hk hl, h.ints⟩
theorem Tk.next {w0 w : World} {tk k : Nat} {lv : Value} {l : List Int} (h : Tk w0 w tk k lv l) (v : Nat) : Tk w0 (w.setCell ⟨tk, 1, none⟩ (.int .i64 ((v : Nat) : Int))) tk v lv l ∧ Rg.Kp (fun z => z = tk) w (w.setCell ⟨tk, 1, none⟩ (.int .i64 ((v : Nat) : Int))) := by
  refine ⟨⟨?_, World.cell?_setCell_same (h := h.c1) .., by rw [World.frozen?_setCell]; exact h.f1, by simpa using h.lt, h.lo, h.bel.setCell (p := ⟨tk, 1, none⟩) h.lo _, h.ints⟩, Rg.Kp.of_setCell rfl⟩
  rw [World.cell?_setCell_other (h := by intro e; injection e with e1 e2; omega) ..]
  exact h.c0
def TkPost (w0 w : World) (tk : Nat) (lv : Value) (l : List Int) (m : Int) (e : Ending) (w' : World) : Prop := ∃ (r k' : Nat), e = .returned (.int .i64 ((r : Nat) : Int)) ∧ (1 ≤ m → (r : Int) < m) ∧ (¬ 1 ≤ m → r = 0) ∧ Tk w0 w' tk k' lv l ∧ Rg.Kp (fun z => z = tk) w w'
set_option maxRecDepth 100000 in
set_option maxHeartbeats 4000000 in
theorem Take_any {w0 w : World} {tk k : Nat} {lv : Value} {l : List Int} (h : Tk w0 w tk k lv l) (m : Int) (hm : m ≤ 1000) :
    Calls Try.prog 97 #[.pointer (some ⟨tk, 0, none⟩), .int .i64 m] w (TkPost w0 w tk lv l m) := by
  obtain ⟨la, lc, rfl, -, hlm, -, hlc⟩ := h.ints.shape
  have TK := Lib.hid h
  have HLM := Lib.hid hlm
  have HLC := Lib.hid hlc
  have K := Lib.hid (Rg.Kp.refl (fun z => z = tk) w)
  clear h hlm hlc
  go_enter Try.func97, Try.ntmps97
  by_cases hk : k < l.length
  case neg =>
    have hkN : ¬ (k : Int) < (l.length : Int) := by omega
    go_upto_region 1 with (fail)
    have hV0 : Below w.heap.size w w.drew := (Below.refl _ _).drew
    replace TK := Lib.hid (TK.out.below hV0)
    replace K := Lib.hid (kpAcc K.out hV0)
    clear hV0
    refine Rg.Any.begin (S := Rg.Both 13 (fun _ => True) (fun W => Below w.drew.heap.size w.drew W)) mix ?_
    generalize w.drew = w1 at *
    have hS : ∀ (l : Array Bool) W, Below w1.heap.size w1 W → Rg.Both 13 (fun _ => True) (fun W => Below w1.heap.size w1 W) l W := fun l W h => ⟨.inr trivial, h⟩
    have hI : Below w1.heap.size w1 w1 := Below.refl _ _
    refine Rg.Any.takeG (i := 0) (t := 13) (v := .pointer (some ⟨tk, 0, none⟩)) (some 5) rfl rfl (by kernel_rfl) (by kernel_rfl) (by kernel_rfl) (fun _ _ _ h => h) rfl (.inl ⟨rfl, fun w _ => Rg.exec_move (v := .pointer (some ⟨tk, 0, none⟩)) _ rfl rfl⟩) (hS _ _ hI) ?_
    go_frame
    refine Rg.Any.takeG (i := 1) (t := 13) (v := .pointer (some ⟨tk, 0, none⟩)) (some 6) rfl rfl (by kernel_rfl) (by kernel_rfl) (by kernel_rfl) (fun _ _ _ h => h) rfl (.inl ⟨rfl, fun w _ => exec_nil _ rfl rfl⟩) (hS _ _ hI) ?_
    go_frame
    refine Rg.Any.takeG (i := 2) (t := 13) (v := .pointer (some ⟨tk, 1, none⟩)) (some 7) rfl rfl (by kernel_rfl) (by kernel_rfl) (by kernel_rfl) (fun _ _ _ h => h) rfl (.inl ⟨rfl, fun w _ => exec_field _ rfl rfl (tkF1 _ _)⟩) (hS _ _ hI) ?_
    go_frame
    refine Rg.Any.takeG (i := 3) (t := 13) (v := .int .i64 ((k : Nat) : Int)) (some 8) rfl rfl (by kernel_rfl) (by kernel_rfl) (by kernel_rfl) (fun _ _ _ h => h) rfl (Rg.yields_cell _ _ rfl rfl ⟨tk, 1, none⟩ rfl (fun W hW => run_loadInt ((Below.cell (p := ⟨tk, 1, none⟩) hW TK.out.lt).trans TK.out.c1))) (hS _ _ hI) ?_
    go_frame
    refine Rg.Any.takeG (i := 4) (t := 13) (v := .pointer (some ⟨tk, 0, none⟩)) (some 9) rfl rfl (by kernel_rfl) (by kernel_rfl) (by kernel_rfl) (fun _ _ _ h => h) rfl (.inl ⟨rfl, fun w _ => Rg.exec_move (v := .pointer (some ⟨tk, 0, none⟩)) _ rfl rfl⟩) (hS _ _ hI) ?_
    go_frame
    refine Rg.Any.takeG (i := 5) (t := 13) (v := .pointer (some ⟨tk, 0, none⟩)) (some 10) rfl rfl (by kernel_rfl) (by kernel_rfl) (by kernel_rfl) (fun _ _ _ h => h) rfl (.inl ⟨rfl, fun w _ => exec_nil _ rfl rfl⟩) (hS _ _ hI) ?_
    go_frame
    refine Rg.Any.takeG (i := 6) (t := 13) (v := .pointer (some ⟨tk, 0, none⟩)) (some 11) rfl rfl (by kernel_rfl) (by kernel_rfl) (by kernel_rfl) (fun _ _ _ h => h) rfl (.inl ⟨rfl, fun w _ => exec_field _ rfl rfl (tkF0 _ _)⟩) (hS _ _ hI) ?_
    go_frame
    refine Rg.Any.takeG (i := 7) (t := 13) (v := .slice la l.length lc) (some 12) rfl rfl (by kernel_rfl) (by kernel_rfl) (by kernel_rfl) (fun _ _ _ h => h) rfl (Rg.yields_cell _ _ rfl rfl ⟨tk, 0, none⟩ rfl (fun W hW => Rg.run_loadSl _ _ Try.underlying33 ((Below.cell (p := ⟨tk, 0, none⟩) hW TK.out.lt).trans TK.out.c0))) (hS _ _ hI) ?_
    go_frame
    refine Rg.Any.takeG (i := 8) (t := 13) (v := .int .i64 ((l.length : Nat) : Int)) (some 13) rfl rfl (by kernel_rfl) (by kernel_rfl) (by kernel_rfl) (fun _ _ _ h => h) rfl (.inl ⟨rfl, fun w _ => exec_len _ _ _ rfl Try.underlying33 _ _ _ rfl⟩) (hS _ _ hI) ?_
    go_frame
    refine Rg.Any.takeG (i := 9) (t := 13) (v := .bool true) (some 14) rfl rfl (by kernel_rfl) (by kernel_rfl) (by kernel_rfl) (fun _ _ _ h => h) rfl (.inl ⟨rfl, fun w _ => exec_bin (R := .bool true) .geq _ _ _ rfl rfl rfl (b_geq _ (decide_eq_true (by omega)))⟩) (hS _ _ hI) ?_
    go_frame
    refine Rg.Any.takeG (i := 10) (t := 13) (v := .bool true) (some 15) rfl rfl (by kernel_rfl) (by kernel_rfl) (by kernel_rfl) (fun _ _ _ h => h) rfl (.inl ⟨rfl, fun w _ => Rg.exec_move (v := .bool true) _ rfl rfl⟩) (hS _ _ hI) ?_
    go_frame
    refine Rg.Any.takeG (i := 11) (t := 13) (v := undef) (some 16) rfl rfl (by kernel_rfl) (by kernel_rfl) (by kernel_rfl) (fun _ _ _ h => h) rfl (.inr ⟨rfl, rfl⟩) (hS _ _ hI) ?_
    go_frame
    refine Rg.Any.takeG (i := 12) (t := 13) (v := undef) (some 17) rfl rfl (by kernel_rfl) (by kernel_rfl) (by kernel_rfl) (fun _ _ _ h => h) rfl (.inr ⟨rfl, rfl⟩) (hS _ _ hI) ?_
    go_frame
    refine Rg.Any.one (i := 13) (by kernel_rfl) (Rg.Any.run (some 18) rfl rfl rfl (exec_pickT (v := .bool true) _ _ _ rfl rfl rfl) (hS _ _ hI) ?_)
    go_frame
    refine Rg.Any.done (by kernel_rfl) ?_ _
    clear hS hI
    go_upto_region 2 with (fail)
    refine wp_region_list ?_
    refine Rg.list_run (some 4) rfl rfl (Rg.exec_assign (v := .int .i64 ((0 : Nat) : Int)) _ rfl rfl) ?_
    go_frame
    go_wp2
    go_ret
    exact ⟨0, _, rfl, fun h => by omega, fun _ => rfl, TK.out, K.out⟩
  case pos =>
    have hkN : (k : Int) < (l.length : Int) := by omega
    by_cases hm1 : 1 ≤ m
    case neg =>
      skip
      go_upto_region 1 with (fail)
      have hV0 : Below w.heap.size w w.drew := (Below.refl _ _).drew
      replace TK := Lib.hid (TK.out.below hV0)
      replace K := Lib.hid (kpAcc K.out hV0)
      clear hV0
      refine Rg.Any.begin (S := Rg.Both 13 (fun _ => True) (fun W => Below w.drew.heap.size w.drew W)) mix ?_
      generalize w.drew = w1 at *
      have hS : ∀ (l : Array Bool) W, Below w1.heap.size w1 W → Rg.Both 13 (fun _ => True) (fun W => Below w1.heap.size w1 W) l W := fun l W h => ⟨.inr trivial, h⟩
      have hI : Below w1.heap.size w1 w1 := Below.refl _ _
      refine Rg.Any.takeG (i := 0) (t := 13) (v := .pointer (some ⟨tk, 0, none⟩)) (some 5) rfl rfl (by kernel_rfl) (by kernel_rfl) (by kernel_rfl) (fun _ _ _ h => h) rfl (.inl ⟨rfl, fun w _ => Rg.exec_move (v := .pointer (some ⟨tk, 0, none⟩)) _ rfl rfl⟩) (hS _ _ hI) ?_
      go_frame
      refine Rg.Any.takeG (i := 1) (t := 13) (v := .pointer (some ⟨tk, 0, none⟩)) (some 6) rfl rfl (by kernel_rfl) (by kernel_rfl) (by kernel_rfl) (fun _ _ _ h => h) rfl (.inl ⟨rfl, fun w _ => exec_nil _ rfl rfl⟩) (hS _ _ hI) ?_
      go_frame
      refine Rg.Any.takeG (i := 2) (t := 13) (v := .pointer (some ⟨tk, 1, none⟩)) (some 7) rfl rfl (by kernel_rfl) (by kernel_rfl) (by kernel_rfl) (fun _ _ _ h => h) rfl (.inl ⟨rfl, fun w _ => exec_field _ rfl rfl (tkF1 _ _)⟩) (hS _ _ hI) ?_
      go_frame
      refine Rg.Any.takeG (i := 3) (t := 13) (v := .int .i64 ((k : Nat) : Int)) (some 8) rfl rfl (by kernel_rfl) (by kernel_rfl) (by kernel_rfl) (fun _ _ _ h => h) rfl (Rg.yields_cell _ _ rfl rfl ⟨tk, 1, none⟩ rfl (fun W hW => run_loadInt ((Below.cell (p := ⟨tk, 1, none⟩) hW TK.out.lt).trans TK.out.c1))) (hS _ _ hI) ?_
      go_frame
      refine Rg.Any.takeG (i := 4) (t := 13) (v := .pointer (some ⟨tk, 0, none⟩)) (some 9) rfl rfl (by kernel_rfl) (by kernel_rfl) (by kernel_rfl) (fun _ _ _ h => h) rfl (.inl ⟨rfl, fun w _ => Rg.exec_move (v := .pointer (some ⟨tk, 0, none⟩)) _ rfl rfl⟩) (hS _ _ hI) ?_
      go_frame
      refine Rg.Any.takeG (i := 5) (t := 13) (v := .pointer (some ⟨tk, 0, none⟩)) (some 10) rfl rfl (by kernel_rfl) (by kernel_rfl) (by kernel_rfl) (fun _ _ _ h => h) rfl (.inl ⟨rfl, fun w _ => exec_nil _ rfl rfl⟩) (hS _ _ hI) ?_
      go_frame
      refine Rg.Any.takeG (i := 6) (t := 13) (v := .pointer (some ⟨tk, 0, none⟩)) (some 11) rfl rfl (by kernel_rfl) (by kernel_rfl) (by kernel_rfl) (fun _ _ _ h => h) rfl (.inl ⟨rfl, fun w _ => exec_field _ rfl rfl (tkF0 _ _)⟩) (hS _ _ hI) ?_
      go_frame
      refine Rg.Any.takeG (i := 7) (t := 13) (v := .slice la l.length lc) (some 12) rfl rfl (by kernel_rfl) (by kernel_rfl) (by kernel_rfl) (fun _ _ _ h => h) rfl (Rg.yields_cell _ _ rfl rfl ⟨tk, 0, none⟩ rfl (fun W hW => Rg.run_loadSl _ _ Try.underlying33 ((Below.cell (p := ⟨tk, 0, none⟩) hW TK.out.lt).trans TK.out.c0))) (hS _ _ hI) ?_
      go_frame
      refine Rg.Any.takeG (i := 8) (t := 13) (v := .int .i64 ((l.length : Nat) : Int)) (some 13) rfl rfl (by kernel_rfl) (by kernel_rfl) (by kernel_rfl) (fun _ _ _ h => h) rfl (.inl ⟨rfl, fun w _ => exec_len _ _ _ rfl Try.underlying33 _ _ _ rfl⟩) (hS _ _ hI) ?_
      go_frame
      refine Rg.Any.takeG (i := 9) (t := 13) (v := .bool false) (some 14) rfl rfl (by kernel_rfl) (by kernel_rfl) (by kernel_rfl) (fun _ _ _ h => h) rfl (.inl ⟨rfl, fun w _ => exec_bin (R := .bool false) .geq _ _ _ rfl rfl rfl (b_geq _ (decide_eq_false (by omega)))⟩) (hS _ _ hI) ?_
      go_frame
      refine Rg.Any.takeG (i := 10) (t := 13) (v := .bool false) (some 15) rfl rfl (by kernel_rfl) (by kernel_rfl) (by kernel_rfl) (fun _ _ _ h => h) rfl (.inl ⟨rfl, fun w _ => Rg.exec_move (v := .bool false) _ rfl rfl⟩) (hS _ _ hI) ?_
      go_frame
      refine Rg.Any.takeG (i := 11) (t := 13) (v := .int .i64 m) (some 16) rfl rfl (by kernel_rfl) (by kernel_rfl) (by kernel_rfl) (fun _ _ _ h => h) rfl (.inl ⟨rfl, fun w _ => Rg.exec_move (v := .int .i64 m) _ rfl rfl⟩) (hS _ _ hI) ?_
      go_frame
      refine Rg.Any.takeG (i := 12) (t := 13) (v := .bool true) (some 17) rfl rfl (by kernel_rfl) (by kernel_rfl) (by kernel_rfl) (fun _ _ _ h => h) rfl (.inl ⟨rfl, fun w _ => exec_bin (R := .bool true) .lss _ _ _ rfl rfl rfl (b_lss _ (decide_eq_true (by omega)))⟩) (hS _ _ hI) ?_
      go_frame
      refine Rg.Any.one (i := 13) (by kernel_rfl) (Rg.Any.run (some 18) rfl rfl rfl (exec_pickF (v := .bool true) _ _ _ rfl rfl rfl) (hS _ _ hI) ?_)
      go_frame
      refine Rg.Any.done (by kernel_rfl) ?_ _
      clear hS hI
      go_upto_region 2 with (fail)
      refine wp_region_list ?_
      refine Rg.list_run (some 4) rfl rfl (Rg.exec_assign (v := .int .i64 ((0 : Nat) : Int)) _ rfl rfl) ?_
      go_frame
      go_wp2
      go_ret
      exact ⟨0, _, rfl, fun h => by omega, fun _ => rfl, TK.out, K.out⟩
    case pos =>
      have hkb : k + 1 ≤ 9223372036854775807 := by
        have := HLM.out
        unfold maxLen at this
        omega
      obtain ⟨lb, lo, rfl, hlb, hcell⟩ := HLC.out (by omega)
      have hck := hcell k hk
      obtain ⟨x, hx⟩ : ∃ x : Int, l[k] = x := ⟨_, rfl⟩
      rw [hx] at hck
      have HKL := Lib.hid hk
      obtain ⟨r, hr⟩ : ∃ r : Nat, Hid (pickV x m = ((r : Nat) : Int)) := ⟨_, Lib.hid (Int.toNat_of_nonneg (pickV_range (x := x) (n := m) (by omega)).1).symm⟩
      have HRM := Lib.hid (show ((r : Nat) : Int) < m by rw [← hr.out]; exact (pickV_range (x := x) (n := m) (by omega)).2)
      have CX := Lib.hid (CL.mk hck hlb)
      clear hck hlb hcell hx
      go_upto_region 1 with (fail)
      have hV0 : Below w.heap.size w w.drew := (Below.refl _ _).drew
      replace TK := Lib.hid (TK.out.below hV0)
      replace K := Lib.hid (kpAcc K.out hV0)
      clear hV0
      refine Rg.Any.begin (S := Rg.Both 13 (fun _ => True) (fun W => Below w.drew.heap.size w.drew W)) mix ?_
      generalize w.drew = w1 at *
      have hS : ∀ (l : Array Bool) W, Below w1.heap.size w1 W → Rg.Both 13 (fun _ => True) (fun W => Below w1.heap.size w1 W) l W := fun l W h => ⟨.inr trivial, h⟩
      have hI : Below w1.heap.size w1 w1 := Below.refl _ _
      refine Rg.Any.takeG (i := 0) (t := 13) (v := .pointer (some ⟨tk, 0, none⟩)) (some 5) rfl rfl (by kernel_rfl) (by kernel_rfl) (by kernel_rfl) (fun _ _ _ h => h) rfl (.inl ⟨rfl, fun w _ => Rg.exec_move (v := .pointer (some ⟨tk, 0, none⟩)) _ rfl rfl⟩) (hS _ _ hI) ?_
      go_frame
      refine Rg.Any.takeG (i := 1) (t := 13) (v := .pointer (some ⟨tk, 0, none⟩)) (some 6) rfl rfl (by kernel_rfl) (by kernel_rfl) (by kernel_rfl) (fun _ _ _ h => h) rfl (.inl ⟨rfl, fun w _ => exec_nil _ rfl rfl⟩) (hS _ _ hI) ?_
      go_frame
      refine Rg.Any.takeG (i := 2) (t := 13) (v := .pointer (some ⟨tk, 1, none⟩)) (some 7) rfl rfl (by kernel_rfl) (by kernel_rfl) (by kernel_rfl) (fun _ _ _ h => h) rfl (.inl ⟨rfl, fun w _ => exec_field _ rfl rfl (tkF1 _ _)⟩) (hS _ _ hI) ?_
      go_frame
      refine Rg.Any.takeG (i := 3) (t := 13) (v := .int .i64 ((k : Nat) : Int)) (some 8) rfl rfl (by kernel_rfl) (by kernel_rfl) (by kernel_rfl) (fun _ _ _ h => h) rfl (Rg.yields_cell _ _ rfl rfl ⟨tk, 1, none⟩ rfl (fun W hW => run_loadInt ((Below.cell (p := ⟨tk, 1, none⟩) hW TK.out.lt).trans TK.out.c1))) (hS _ _ hI) ?_
      go_frame
      refine Rg.Any.takeG (i := 4) (t := 13) (v := .pointer (some ⟨tk, 0, none⟩)) (some 9) rfl rfl (by kernel_rfl) (by kernel_rfl) (by kernel_rfl) (fun _ _ _ h => h) rfl (.inl ⟨rfl, fun w _ => Rg.exec_move (v := .pointer (some ⟨tk, 0, none⟩)) _ rfl rfl⟩) (hS _ _ hI) ?_
      go_frame
      refine Rg.Any.takeG (i := 5) (t := 13) (v := .pointer (some ⟨tk, 0, none⟩)) (some 10) rfl rfl (by kernel_rfl) (by kernel_rfl) (by kernel_rfl) (fun _ _ _ h => h) rfl (.inl ⟨rfl, fun w _ => exec_nil _ rfl rfl⟩) (hS _ _ hI) ?_
      go_frame
      refine Rg.Any.takeG (i := 6) (t := 13) (v := .pointer (some ⟨tk, 0, none⟩)) (some 11) rfl rfl (by kernel_rfl) (by kernel_rfl) (by kernel_rfl) (fun _ _ _ h => h) rfl (.inl ⟨rfl, fun w _ => exec_field _ rfl rfl (tkF0 _ _)⟩) (hS _ _ hI) ?_
      go_frame
      refine Rg.Any.takeG (i := 7) (t := 13) (v := .slice (some ⟨lb, lo, none⟩) l.length lc) (some 12) rfl rfl (by kernel_rfl) (by kernel_rfl) (by kernel_rfl) (fun _ _ _ h => h) rfl (Rg.yields_cell _ _ rfl rfl ⟨tk, 0, none⟩ rfl (fun W hW => Rg.run_loadSl _ _ Try.underlying33 ((Below.cell (p := ⟨tk, 0, none⟩) hW TK.out.lt).trans TK.out.c0))) (hS _ _ hI) ?_
      go_frame
      refine Rg.Any.takeG (i := 8) (t := 13) (v := .int .i64 ((l.length : Nat) : Int)) (some 13) rfl rfl (by kernel_rfl) (by kernel_rfl) (by kernel_rfl) (fun _ _ _ h => h) rfl (.inl ⟨rfl, fun w _ => exec_len _ _ _ rfl Try.underlying33 _ _ _ rfl⟩) (hS _ _ hI) ?_
      go_frame
      refine Rg.Any.takeG (i := 9) (t := 13) (v := .bool false) (some 14) rfl rfl (by kernel_rfl) (by kernel_rfl) (by kernel_rfl) (fun _ _ _ h => h) rfl (.inl ⟨rfl, fun w _ => exec_bin (R := .bool false) .geq _ _ _ rfl rfl rfl (b_geq _ (decide_eq_false (by omega)))⟩) (hS _ _ hI) ?_
      go_frame
      refine Rg.Any.takeG (i := 10) (t := 13) (v := .bool false) (some 15) rfl rfl (by kernel_rfl) (by kernel_rfl) (by kernel_rfl) (fun _ _ _ h => h) rfl (.inl ⟨rfl, fun w _ => Rg.exec_move (v := .bool false) _ rfl rfl⟩) (hS _ _ hI) ?_
      go_frame
      refine Rg.Any.takeG (i := 11) (t := 13) (v := .int .i64 m) (some 16) rfl rfl (by kernel_rfl) (by kernel_rfl) (by kernel_rfl) (fun _ _ _ h => h) rfl (.inl ⟨rfl, fun w _ => Rg.exec_move (v := .int .i64 m) _ rfl rfl⟩) (hS _ _ hI) ?_
      go_frame
      refine Rg.Any.takeG (i := 12) (t := 13) (v := .bool false) (some 17) rfl rfl (by kernel_rfl) (by kernel_rfl) (by kernel_rfl) (fun _ _ _ h => h) rfl (.inl ⟨rfl, fun w _ => exec_bin (R := .bool false) .lss _ _ _ rfl rfl rfl (b_lss _ (decide_eq_false (by omega)))⟩) (hS _ _ hI) ?_
      go_frame
      refine Rg.Any.one (i := 13) (by kernel_rfl) (Rg.Any.run (some 18) rfl rfl rfl (exec_pickF (v := .bool false) _ _ _ rfl rfl rfl) (hS _ _ hI) ?_)
      go_frame
      refine Rg.Any.done (by kernel_rfl) ?_ _
      clear hS hI
      go_upto_region 3 with (fail)
      refine wp_region_list ?_
      refine Rg.list_run (some 19) rfl rfl (Rg.exec_move (v := .pointer (some ⟨tk, 0, none⟩)) _ rfl rfl) ?_
      go_frame
      refine Rg.list_run (some 20) rfl rfl (exec_nil _ rfl rfl) ?_
      go_frame
      refine Rg.list_run (some 21) rfl rfl (exec_field _ rfl rfl (tkF1 _ _)) ?_
      go_frame
      refine Rg.list_run (some 22) rfl rfl (Rg.exec_load (v := .int .i64 ((k : Nat) : Int)) _ _ rfl ⟨tk, 1, none⟩ rfl (run_loadInt TK.out.c1)) ?_
      go_frame
      refine Rg.list_run (some 23) rfl rfl (exec_bin (R := .int .i64 (((k + 1) : Nat) : Int)) .add _ _ _ rfl rfl rfl (b_add _ (by omega) (by omega))) ?_
      go_frame
      refine Rg.list_run (some 24) rfl rfl (exec_nil _ rfl rfl) ?_
      go_frame
      refine Rg.list_run (some 25) rfl rfl (exec_field _ rfl rfl (tkF1 _ _)) ?_
      go_frame
      refine Rg.list_skip none rfl rfl (Rg.exec_store _ _ _ rfl _ rfl _ rfl (run_storeInt _ TK.out.c1 TK.out.f1)) ?_
      go_frame
      obtain ⟨ht2, hk2⟩ := TK.out.next (k + 1)
      have K2 := Lib.hid (Rg.Kp.trans (M := fun z => z = tk) K.out hk2 (fun _ _ e => e))
      have CX2 := Lib.hid (CX.out.upto ht2.bel CX.out.lt)
      generalize w1.setCell ⟨tk, 1, none⟩ (.int .i64 (((k + 1) : Nat) : Int)) = w50 at *
      have T2 := Lib.hid ht2
      clear ht2 hk2 TK K CX
      go_upto_region 4 with (fail)
      have hV0 : Below w50.heap.size w50 w50.drew := (Below.refl _ _).drew
      replace T2 := Lib.hid (T2.out.below hV0)
      replace CX2 := Lib.hid (CX2.out.below hV0)
      replace K2 := Lib.hid (kpAcc K2.out hV0)
      clear hV0
      refine Rg.Any.begin (S := Rg.Both 13 (fun _ => True) (fun W => Below w50.drew.heap.size w50.drew W)) mix ?_
      generalize w50.drew = w51 at *
      have hS : ∀ (l : Array Bool) W, Below w51.heap.size w51 W → Rg.Both 13 (fun _ => True) (fun W => Below w51.heap.size w51 W) l W := fun l W h => ⟨.inr trivial, h⟩
      have hI : Below w51.heap.size w51 w51 := Below.refl _ _
      refine Rg.Any.takeG (i := 0) (t := 13) (v := .pointer (some ⟨tk, 0, none⟩)) (some 26) rfl rfl (by kernel_rfl) (by kernel_rfl) (by kernel_rfl) (fun _ _ _ h => h) rfl (.inl ⟨rfl, fun w _ => Rg.exec_move (v := .pointer (some ⟨tk, 0, none⟩)) _ rfl rfl⟩) (hS _ _ hI) ?_
      go_frame
      refine Rg.Any.takeG (i := 1) (t := 13) (v := .pointer (some ⟨tk, 0, none⟩)) (some 27) rfl rfl (by kernel_rfl) (by kernel_rfl) (by kernel_rfl) (fun _ _ _ h => h) rfl (.inl ⟨rfl, fun w _ => exec_nil _ rfl rfl⟩) (hS _ _ hI) ?_
      go_frame
      refine Rg.Any.takeG (i := 2) (t := 13) (v := .pointer (some ⟨tk, 0, none⟩)) (some 28) rfl rfl (by kernel_rfl) (by kernel_rfl) (by kernel_rfl) (fun _ _ _ h => h) rfl (.inl ⟨rfl, fun w _ => exec_field _ rfl rfl (tkF0 _ _)⟩) (hS _ _ hI) ?_
      go_frame
      refine Rg.Any.takeG (i := 3) (t := 13) (v := .slice (some ⟨lb, lo, none⟩) l.length lc) (some 29) rfl rfl (by kernel_rfl) (by kernel_rfl) (by kernel_rfl) (fun _ _ _ h => h) rfl (Rg.yields_cell _ _ rfl rfl ⟨tk, 0, none⟩ rfl (fun W hW => Rg.run_loadSl _ _ Try.underlying33 ((Below.cell (p := ⟨tk, 0, none⟩) hW T2.out.lt).trans T2.out.c0))) (hS _ _ hI) ?_
      go_frame
      refine Rg.Any.takeG (i := 4) (t := 13) (v := .pointer (some ⟨tk, 0, none⟩)) (some 30) rfl rfl (by kernel_rfl) (by kernel_rfl) (by kernel_rfl) (fun _ _ _ h => h) rfl (.inl ⟨rfl, fun w _ => Rg.exec_move (v := .pointer (some ⟨tk, 0, none⟩)) _ rfl rfl⟩) (hS _ _ hI) ?_
      go_frame
      refine Rg.Any.takeG (i := 5) (t := 13) (v := .pointer (some ⟨tk, 0, none⟩)) (some 31) rfl rfl (by kernel_rfl) (by kernel_rfl) (by kernel_rfl) (fun _ _ _ h => h) rfl (.inl ⟨rfl, fun w _ => exec_nil _ rfl rfl⟩) (hS _ _ hI) ?_
      go_frame
      refine Rg.Any.takeG (i := 6) (t := 13) (v := .pointer (some ⟨tk, 1, none⟩)) (some 32) rfl rfl (by kernel_rfl) (by kernel_rfl) (by kernel_rfl) (fun _ _ _ h => h) rfl (.inl ⟨rfl, fun w _ => exec_field _ rfl rfl (tkF1 _ _)⟩) (hS _ _ hI) ?_
      go_frame
      refine Rg.Any.takeG (i := 7) (t := 13) (v := .int .i64 (((k + 1) : Nat) : Int)) (some 33) rfl rfl (by kernel_rfl) (by kernel_rfl) (by kernel_rfl) (fun _ _ _ h => h) rfl (Rg.yields_cell _ _ rfl rfl ⟨tk, 1, none⟩ rfl (fun W hW => run_loadInt ((Below.cell (p := ⟨tk, 1, none⟩) hW T2.out.lt).trans T2.out.c1))) (hS _ _ hI) ?_
      go_frame
      refine Rg.Any.takeG (i := 8) (t := 13) (v := .int .i64 ((k : Nat) : Int)) (some 34) rfl rfl (by kernel_rfl) (by kernel_rfl) (by kernel_rfl) (fun _ _ _ h => h) rfl (.inl ⟨rfl, fun w _ => exec_bin (R := .int .i64 ((k : Nat) : Int)) .sub _ _ _ rfl rfl rfl (b_sub _ (by omega) (by omega))⟩) (hS _ _ hI) ?_
      go_frame
      refine Rg.Any.takeG (i := 9) (t := 13) (v := .pointer (some ⟨lb, lo + k, none⟩)) (some 35) rfl rfl (by kernel_rfl) (by kernel_rfl) (by kernel_rfl) (fun _ _ _ h => h) rfl (Rg.yields_index slInts _ _ rfl rfl lb (lo) (l.length) lc (k) rfl rfl HKL.out) (hS _ _ hI) ?_
      go_frame
      refine Rg.Any.takeG (i := 10) (t := 13) (v := .int .i64 x) (some 36) rfl rfl (by kernel_rfl) (by kernel_rfl) (by kernel_rfl) (fun _ _ _ h => h) rfl (Rg.yields_cell _ _ rfl rfl ⟨lb, lo + k, none⟩ rfl (fun W hW => run_loadInt ((Below.cell (p := ⟨lb, lo + k, none⟩) hW CX2.out.lt).trans CX2.out.cell))) (hS _ _ hI) ?_
      go_frame
      refine Rg.Any.takeG (i := 11) (t := 13) (v := .int .i64 m) (some 37) rfl rfl (by kernel_rfl) (by kernel_rfl) (by kernel_rfl) (fun _ _ _ h => h) rfl (.inl ⟨rfl, fun w _ => Rg.exec_move (v := .int .i64 m) _ rfl rfl⟩) (hS _ _ hI) ?_
      go_frame
      refine Rg.Any.one (i := 12) (by kernel_rfl) (Rg.Any.ask (some 38) rfl rfl rfl _ _ (exec_fn 87 _ _ _ rfl rfl rfl (Zjcl0 _ _)) ?_)
      refine (pick_n (by omega) hm hr w51).mono ?_
      rintro e1 w52 ⟨rfl, hb⟩
      have hI2_0 := Rg.acc hI hb
      clear hb hI
      refine ⟨_, rfl, (hS _ _ hI2_0), ?_⟩
      go_frame
      refine Rg.Any.one (i := 13) (by kernel_rfl) (Rg.Any.run (some 4) rfl rfl rfl (Rg.exec_assign (v := .int .i64 ((r : Nat) : Int)) _ rfl rfl) (hS _ _ hI2_0) ?_)
      go_frame
      refine Rg.Any.done (by kernel_rfl) ?_ _
      replace T2 := Lib.hid (T2.out.below hI2_0)
      replace CX2 := Lib.hid (CX2.out.below hI2_0)
      replace K2 := Lib.hid (kpAcc K2.out hI2_0)
      clear hS hI2_0
      clear hkb
      go_wp2
      go_ret
      exact ⟨r, _, rfl, fun _ => HRM.out, fun h => by omega, T2.out, K2.out⟩
end Go.Proofs.Ytojbijkljnohoaa

namespace Go.Proofs.Ytojbijkljnohoaa
open Go.RowKit
open Go.Proofs
open Go.Proofs.Ob
open Go.Proofs.Cm (Gd)
attribute [local irreducible] Go.Calls Go.wpList
theorem Zkcl0 (args : Array Value) (w : World) : (callFunc 64 args).run Try.prog w = .ok (.enter 64 args) w := by kernel_rfl
theorem Zkcl1 (args : Array Value) (w : World) : (callFunc 97 args).run Try.prog w = .ok (.enter 97 args) w := by kernel_rfl
def RwAt (w : World) (g n : Nat) (f : Nat → Int) : Prop := g < w.heap.size ∧ (∀ i, i < n → w.cell? ⟨g, i, none⟩ = some (.int .i64 (f i))) ∧ ∀ i, w.frozen? ⟨g, i, none⟩ = false
theorem RwAt.congr {w : World} {g n : Nat} {f f' : Nat → Int} (h : RwAt w g n f) (e : ∀ i, i < n → f i = f' i) : RwAt w g n f' :=
  ⟨h.1, fun i hi => by rw [← e i hi]; exact h.2.1 i hi, h.2.2⟩
theorem RwAt.set {w : World} {g n : Nat} {f : Nat → Int} (h : RwAt w g n f) (k : Nat) (v : Int) (hk : k < n) : RwAt (w.setCell ⟨g, k, none⟩ (.int .i64 v)) g n (fun i => if i = k then v else f i) := by
  refine ⟨by simpa using h.1, fun i hi => ?_, fun i => by rw [World.frozen?_setCell]; exact h.2.2 i⟩
  show _ = some (Value.int .i64 (if i = k then v else f i))
  by_cases e : i = k
  · subst e
    rw [if_pos rfl]
    exact World.cell?_setCell_same (h := h.2.1 i hi) ..
  · rw [if_neg e, World.cell?_setCell_other (h := by intro h; injection h with h1 h2; omega) ..]
    exact h.2.1 i hi
theorem RwAt.kp {M : Nat → Prop} {w w' : World} {g n : Nat} {f : Nat → Int} (h : RwAt w g n f) (hk : Rg.Kp M w w') (hM : ¬ M g) : RwAt w' g n f :=
  ⟨Nat.lt_of_lt_of_le h.1 hk.size, fun i hi => (World.cell?_of_block (a := ⟨g, i, none⟩) (hk.block g h.1 hM)).trans (h.2.1 i hi), fun i => (World.frozen?_of_block (a := ⟨g, i, none⟩) (hk.block g h.1 hM)).trans (h.2.2 i)⟩
theorem RwAt.below {w w' : World} {g n : Nat} {f : Nat → Int} (h : RwAt w g n f) (hb : Below w.heap.size w w') : RwAt w' g n f := h.kp (M := fun _ => False) (Rg.Kp.of_below hb) id
theorem RwAt.np {w : World} {g n cap : Nat} {f : Nat → Int} (h : RwAt w g n f) (l : List Nat) (hl : l.length = n) (hc : n ≤ cap) (hm : cap ≤ maxLen) (hn : n ≤ 1000) (e : ∀ i (hi : i < l.length), f i = ((l[i] : Nat) : Int)) : Rg.NP w (.slice (some ⟨g, 0, none⟩) n cap) l := by
  refine Rg.Ints.mk (by simp [Ma.ofN, hl]) h.1 (by simp [Ma.ofN]; omega) hm (by simp [Ma.ofN]; omega) fun i hi => ?_
  have hi' : i < l.length := by simpa [Ma.ofN] using hi
  rw [Nat.zero_add, h.2.1 i (by omega), e i hi']
  simp [Ma.ofN]
def PRow (w : World) (g n : Nat) (y : List Nat) : Prop := RwAt w g n (fun i => ((y.getD i 0 : Nat) : Int))
theorem PRow.np {w : World} {g n cap : Nat} {y : List Nat} (h : PRow w g n y) (gy : Gd n y) (hc : n ≤ cap) (hm : cap ≤ maxLen) (hn : n ≤ 1000) : Rg.NP w (.slice (some ⟨g, 0, none⟩) n cap) y :=
  RwAt.np h y gy.2 hc hm hn (fun i hi => by show ((y.getD i 0 : Nat) : Int) = _; rw [List.getD_eq_getElem?_getD, List.getElem?_eq_getElem hi]; rfl)
theorem PRow.below {w w' : World} {g n : Nat} {y : List Nat} (h : PRow w g n y) (hb : Below w.heap.size w w') : PRow w' g n y := RwAt.below h hb
set_option maxHeartbeats 400000 in
theorem kitOne_row (n : Nat) (w : World) (h1 : 1 ≤ n) (hn : n ≤ 1000) :
    Calls Try.prog 64 #[.int .i64 n] w fun e w' => ∃ g cap, e = .returned (.slice (some ⟨g, 0, none⟩) n cap) ∧ w.heap.size ≤ g ∧ n ≤ cap ∧ cap ≤ maxLen ∧ RwAt w' g n (fun i => (i : Int)) ∧ Below w.heap.size w w' := by
  go_enter Try.func64, Try.ntmps64
  go_wp2
  go_loopw [3, 4] (fun v i wr => ∃ k : Nat, k ≤ n ∧ i = .int .i64 k ∧ Hid (wr.ownsRow w.heap.size 3 1 v k (ivs (Ma.oneN k))) ∧ Hid (Below w.heap.size w wr)) (fun _ i _ => n - (intOf i).toNat)
  case atStart => exact ⟨0, by omega, rfl, World.ownsRow_nil _ _ _ _, Below.refl _ _⟩
  case round =>
    obtain ⟨k, hk, rfl, hs, hbel⟩ := hrel
    by_cases hlt : k < n
    · go_wp2_with (at_builtin; refine Rg.app1 rfl _ _ 62 rfl slPerm hs.out hbel.out _ (by simp [Value.oneCell']) rfl rfl (by omega) ?_; intro v' w1 hs1 hb1 _ _ _)
      go_roundw
      case rel => exact ⟨k + 1, by omega, by go_num, by rw [show Ma.oneN (k + 1) = Ma.oneN k ++ [k] from List.range_succ, ivs_snoc]; exact hs1, hb1⟩
      case measure => simp [intOf]; omega
    · obtain rfl : k = n := by omega
      go_wp2
      go_ret
      have ho := hs.out
      obtain ⟨_, ⟨_, h0⟩ | ⟨g, cap, cur, rfl, hg, hc, h3, h4, h5, h6⟩⟩ := hs.out
      · omega
      · refine ⟨g, cap, rfl, hg, h3, h4, ⟨(ho.lt g rfl).2, fun i hi => ?_, fun i => ho.frozenAt i⟩, hbel.out⟩
        have := ho.cellAt i (by omega)
        rw [this]
        simp [ivs, Ma.oneN, hi]
def cyF (a b i : Nat) : Nat := if a ≤ i ∧ i + 1 < b then i + 1 else if i + 1 = b then a else i
def cyN (n a b : Nat) : List Nat := (List.range n).map (cyF a b)
theorem nd_map {n : Nat} {f : Nat → Nat} (h : ∀ a b, a < n → b < n → f a = f b → a = b) : ((List.range n).map f).Nodup := by
  rw [List.Nodup, List.pairwise_map]
  exact List.Pairwise.imp_of_mem (fun {a b} ha hb hne e => hne (h a b (List.mem_range.1 ha) (List.mem_range.1 hb) e)) List.nodup_range
theorem gd_map {n : Nat} {f : Nat → Nat} (h1 : ∀ a, a < n → f a < n) (h : ∀ a b, a < n → b < n → f a = f b → a = b) : Gd n ((List.range n).map f) := by
  refine ⟨⟨fun x hx => ?_, nd_map h⟩, by simp⟩
  obtain ⟨a, ha, rfl⟩ := List.mem_map.1 hx
  simpa using h1 a (List.mem_range.1 ha)
theorem getD_map {n i : Nat} {f : Nat → Nat} (h : i < n) : ((List.range n).map f).getD i 0 = f i := by
  rw [List.getD_eq_getElem?_getD, List.getElem?_eq_getElem (by simpa using h)]; simp
theorem cyN_gd {n a b : Nat} (hab : a < b) (hb : b ≤ n) : Gd n (cyN n a b) := by
  refine gd_map (fun i hi => ?_) (fun i j hi hj e => ?_)
  · unfold cyF; split
    · omega
    · split <;> omega
  · have key : ∀ x, (a ≤ x ∧ x + 1 < b ∧ cyF a b x = x + 1) ∨ (x + 1 = b ∧ cyF a b x = a) ∨ ((x < a ∨ b ≤ x) ∧ cyF a b x = x) := fun x => by
      unfold cyF
      by_cases h1 : a ≤ x ∧ x + 1 < b
      · exact .inl ⟨h1.1, h1.2, if_pos h1⟩
      · by_cases h2 : x + 1 = b
        · exact .inr (.inl ⟨h2, by rw [if_neg h1, if_pos h2]⟩)
        · exact .inr (.inr ⟨by omega, by rw [if_neg h1, if_neg h2]⟩)
    rcases key i with ⟨_, _, e1⟩ | ⟨_, e1⟩ | ⟨_, e1⟩ <;> rcases key j with ⟨_, _, e2⟩ | ⟨_, e2⟩ | ⟨_, e2⟩ <;> omega
set_option maxHeartbeats 1000000 in
theorem cycle_any {w : World} {g n cap a b : Nat} (h : RwAt w g n (fun i => (i : Int))) (hab : a < b) (hb : b ≤ n) (hn : n ≤ 1000) :
    Calls Try.prog 98 #[.slice (some ⟨g, 0, none⟩) n cap, .int .i64 a, .int .i64 b] w fun e w' => e = .returned (.slice (some ⟨g, 0, none⟩) n cap) ∧ PRow w' g n (cyN n a b) ∧ Rg.Kp (fun z => z = g) w w' := by
  have H := Lib.hid (show RwAt w g n (fun j => if a ≤ j ∧ j < a then ((j : Nat) : Int) + 1 else (j : Int)) from h.congr fun i _ => by rw [if_neg (by omega)])
  have K := Lib.hid (Rg.Kp.refl (fun z => z = g) w)
  clear h
  go_enter Try.func98, Try.ntmps98
  go_wp2
  go_loopw [7] (fun iv wr => ∃ k : Nat, iv = .int .i64 k ∧ a ≤ k ∧ k ≤ b ∧ Hid (RwAt wr g n (fun j => if a ≤ j ∧ j < k then ((j : Nat) : Int) + 1 else (j : Int))) ∧ Hid (Rg.Kp (fun z => z = g) w wr)) (fun iv _ => b - (intOf iv).toNat)
  case atStart => exact ⟨a, rfl, Nat.le_refl _, by omega, H, K⟩
  case round =>
    clear H K
    obtain ⟨k, rfl, hak, hkb, H, K⟩ := hrel
    by_cases hlt : k < b
    · have c1 := H.out.2.1 k (by omega)
      have f1 := H.out.2.2 k
      have hs := Lib.hid (H.out.set k ((k : Int) + 1) (by omega))
      have hk2 := Lib.hid (Rg.Kp.trans (M := fun z => z = g) K.out (Rg.Kp.of_setCell (M := fun z => z = g) (a := ⟨g, k, none⟩) (v := .int .i64 ((k : Int) + 1)) rfl) (fun _ _ e => e))
      go_wp2
      go_roundw
      case rel => exact ⟨k + 1, by go_num, by omega, hlt, Lib.hid (hs.out.congr fun i hi => by
        by_cases e : i = k
        · subst e; rw [if_pos rfl, if_pos (by omega)]
        · rw [if_neg e]
          by_cases e2 : a ≤ i ∧ i < k
          · rw [if_pos e2, if_pos (by omega)]
          · rw [if_neg e2, if_neg (by omega)]), hk2⟩
      case measure => simp [intOf]; omega
    · obtain rfl : k = b := by omega
      obtain ⟨c, rfl⟩ : ∃ c, k = c + 1 := ⟨k - 1, by omega⟩
      have c1 := H.out.2.1 c (by omega)
      have f1 := H.out.2.2 c
      have hs := Lib.hid (H.out.set c (a : Int) (by omega))
      have hk2 := Lib.hid (Rg.Kp.trans (M := fun z => z = g) K.out (Rg.Kp.of_setCell (M := fun z => z = g) (a := ⟨g, c, none⟩) (v := .int .i64 (a : Int)) rfl) (fun _ _ e => e))
      go_wp2
      go_ret
      refine ⟨rfl, RwAt.congr hs.out fun i hi => ?_, hk2.out⟩
      show _ = ((((List.range n).map (cyF a (c + 1))).getD i 0 : Nat) : Int)
      rw [getD_map hi]
      unfold cyF
      by_cases e : i = c
      · subst e; rw [if_pos rfl, if_neg (by omega), if_pos rfl]
      · rw [if_neg e]
        by_cases e2 : a ≤ i ∧ i < c + 1
        · rw [if_pos e2, if_pos (by omega)]; rfl
        · rw [if_neg e2, if_neg (by omega), if_neg (by omega)]
def swF (y : List Nat) (i k j : Nat) : Nat := if j = k then y.getD i 0 else if j = i then y.getD k 0 else y.getD j 0
def swN (n : Nat) (y : List Nat) (i k : Nat) : List Nat := (List.range n).map (swF y i k)
theorem swN_gd {n i k : Nat} {y : List Nat} (gy : Gd n y) (hi : i < n) (hk : k < n) : Gd n (swN n y i k) := by
  have h1 : ∀ j, j < n → y.getD j 0 < n := fun j hj => Cm.ap_lt gy hj
  have h2 : ∀ a b, a < n → b < n → y.getD a 0 = y.getD b 0 → a = b := fun a b ha hb e => Cm.ap_inj gy ha hb e
  refine gd_map (fun j hj => ?_) (fun a b ha hb e => ?_)
  · unfold swF; split
    · exact h1 _ hi
    · split
      · exact h1 _ hk
      · exact h1 _ hj
  · unfold swF at e
    by_cases a1 : a = k
    · rw [if_pos a1] at e
      by_cases b1 : b = k
      · omega
      · rw [if_neg b1] at e
        by_cases b2 : b = i
        · rw [if_pos b2] at e; have := h2 _ _ hi hk e; omega
        · rw [if_neg b2] at e; have := h2 _ _ hi hb e; omega
    · rw [if_neg a1] at e
      by_cases a2 : a = i
      · rw [if_pos a2] at e
        by_cases b1 : b = k
        · rw [if_pos b1] at e; have := h2 _ _ hk hi e; omega
        · rw [if_neg b1] at e
          by_cases b2 : b = i
          · omega
          · rw [if_neg b2] at e; have := h2 _ _ hk hb e; omega
      · rw [if_neg a2] at e
        by_cases b1 : b = k
        · rw [if_pos b1] at e; have := h2 _ _ ha hi e; omega
        · rw [if_neg b1] at e
          by_cases b2 : b = i
          · rw [if_pos b2] at e; have := h2 _ _ ha hk e; omega
          · rw [if_neg b2] at e; exact h2 _ _ ha hb e
theorem PRow.swap {w : World} {g n i k : Nat} {y : List Nat} (h : PRow w g n y) (hi : i < n) (hk : k < n) : PRow ((w.setCell ⟨g, i, none⟩ (.int .i64 ((y.getD k 0 : Nat) : Int))).setCell ⟨g, k, none⟩ (.int .i64 ((y.getD i 0 : Nat) : Int))) g n (swN n y i k) := by
  refine RwAt.congr ((RwAt.set h i _ hi).set k _ hk) fun j hj => ?_
  show _ = ((((List.range n).map (swF y i k)).getD j 0 : Nat) : Int)
  rw [getD_map hj]
  unfold swF
  by_cases e : j = k
  · rw [if_pos e, if_pos e]
  · rw [if_neg e, if_neg e]
    by_cases e2 : j = i
    · rw [if_pos e2, if_pos e2]
    · rw [if_neg e2, if_neg e2]
theorem oneN_row {w : World} {g n : Nat} (h : RwAt w g n (fun i => (i : Int))) : PRow w g n (Ma.oneN n) := RwAt.congr h fun i hi => by
  have := Cm.ap_one hi
  unfold Cm.ap at this
  rw [this]
def PePost (w0 w : World) (tk : Nat) (lv : Value) (l : List Int) (n : Nat) (e : Ending) (w' : World) : Prop := ∃ g cap y k', e = .returned (.slice (some ⟨g, 0, none⟩) n cap) ∧ w.heap.size ≤ g ∧ n ≤ cap ∧ cap ≤ maxLen ∧ Gd n y ∧ PRow w' g n y ∧ Tk w0 w' tk k' lv l ∧ Rg.Kp (fun z => z = tk) w w'
set_option maxRecDepth 100000 in
set_option maxHeartbeats 4000000 in
theorem kitPerm_any {w0 w : World} {tk k : Nat} {lv : Value} {l : List Int} (h : Tk w0 w tk k lv l) {n : Nat} (hn1 : 1 ≤ n) (hn2 : n ≤ 64) :
    Calls Try.prog 48 #[.pointer (some ⟨tk, 0, none⟩), .int .i64 ((n : Nat) : Int)] w (PePost w0 w tk lv l n) := by
  have TK := Lib.hid h
  have K := Lib.hid (Rg.Kp.refl (fun z => z = tk) w)
  have HLO := Lib.hid h.lo
  have HLT := Lib.hid h.lt
  have HWW := Lib.hid h.bel.size
  clear h
  go_enter Try.func48, Try.ntmps48
  go_upto_region 1 with (fail)
  refine wp_region_list ?_
  refine Rg.list_run (some 8) rfl rfl (Rg.exec_move (v := .int .i64 ((n : Nat) : Int)) _ rfl rfl) ?_
  go_frame
  refine list_ask (some 9) rfl rfl _ _ (exec_fn1 64 _ _ rfl rfl (Zkcl0 _ _)) ?_
  refine (kitOne_row n w hn1 (by omega)).mono ?_
  rintro e1 w1 ⟨g, cap, rfl, hg, hc1, hc2, hro, hb⟩
  have HG := Lib.hid hg
  have HCP := Lib.hid (show n ≤ cap ∧ cap ≤ maxLen from ⟨hc1, hc2⟩)
  have hrp := oneN_row hro
  clear hg hc1 hc2 hro
  refine ⟨_, rfl, ?_⟩
  go_frame
  replace TK := Lib.hid (TK.out.below hb)
  replace K := Lib.hid (kpAcc K.out hb)
  clear hb
  have PR := Lib.hid hrp
  refine Rg.list_run (some 5) rfl rfl (Rg.exec_assign (v := .slice (some ⟨g, 0, none⟩) n cap) _ rfl rfl) ?_
  go_frame
  go_upto_region 2 with (fail)
  refine wp_region_list ?_
  refine Rg.list_run (some 6) rfl rfl (Rg.exec_assign (v := .int .i64 ((0 : Nat) : Int)) _ rfl rfl) ?_
  go_frame
  clear hrp
  have GY := Lib.hid (Cm.gd_one n)
  go_wp2
  go_loopw [6] (fun iv wr => ∃ (i k' : Nat) (y : List Nat), iv = .int .i64 i ∧ i ≤ n ∧ Hid (PRow wr g n y) ∧ Hid (Gd n y) ∧ Hid (Tk w0 wr tk k' lv l) ∧ Hid (Rg.Kp (fun z => z = tk) w wr)) (fun iv _ => n - (intOf iv).toNat)
  case atStart => exact ⟨0, k, _, rfl, Nat.zero_le _, PR, GY, TK, K⟩
  case round =>
    clear PR GY TK K
    obtain ⟨i, k', y, rfl, hi, PR, GY, TK, K⟩ := hrel
    by_cases hin : i + 1 < n
    · have hiN : (i : Int) + 1 < (n : Int) := by omega
      go_upto_region 3 with (fail)
      refine wp_region_list ?_
      refine Rg.list_run (some 10) rfl rfl (Rg.exec_move (v := .int .i64 ((i : Nat) : Int)) _ rfl rfl) ?_
      go_frame
      refine Rg.list_run (some 11) rfl rfl (exec_bin (R := .int .i64 (((i + 1) : Nat) : Int)) .add _ _ _ rfl rfl rfl (b_add _ (by omega) (by omega))) ?_
      go_frame
      refine Rg.list_run (some 12) rfl rfl (Rg.exec_move (v := .int .i64 ((n : Nat) : Int)) _ rfl rfl) ?_
      go_frame
      refine Rg.list_run (some 13) rfl rfl (exec_bin (R := .bool true) .lss _ _ _ rfl rfl rfl (b_lss _ (decide_eq_true (by omega)))) ?_
      go_frame
      go_upto_region 5 with (fail)
      refine wp_region_list ?_
      refine Rg.list_run (some 16) rfl rfl (Rg.exec_move (v := .int .i64 ((i : Nat) : Int)) _ rfl rfl) ?_
      go_frame
      refine Rg.list_run (some 17) rfl rfl (Rg.exec_move (v := .pointer (some ⟨tk, 0, none⟩)) _ rfl rfl) ?_
      go_frame
      refine Rg.list_run (some 18) rfl rfl (Rg.exec_move (v := .int .i64 ((n : Nat) : Int)) _ rfl rfl) ?_
      go_frame
      refine Rg.list_run (some 19) rfl rfl (Rg.exec_move (v := .int .i64 ((i : Nat) : Int)) _ rfl rfl) ?_
      go_frame
      refine Rg.list_run (some 20) rfl rfl (exec_bin (R := .int .i64 (((n - i) : Nat) : Int)) .sub _ _ _ rfl rfl rfl (b_sub _ (by omega) (by omega))) ?_
      go_frame
      refine list_ask (some 21) rfl rfl _ _ (exec_fn 97 _ _ _ rfl rfl rfl (Zkcl1 _ _)) ?_
      refine (Take_any TK.out ((n - i : Nat) : Int) (by omega)).mono ?_
      rintro e1 w21 ⟨r, k2, rfl, hr1, hr2, htk, hkp⟩
      have hri : r < n - i := by have := hr1 (by omega); omega
      have hpr2 := RwAt.kp PR.out hkp (fun e => by have := HLT.out; have := HG.out; omega)
      clear hr1 hr2
      refine ⟨_, rfl, ?_⟩
      go_frame
      clear TK
      replace PR := Lib.hid hpr2
      replace K := Lib.hid (Rg.Kp.trans (M := fun z => z = tk) K.out hkp (fun _ _ e => e))
      have TK2 := Lib.hid htk
      clear hkp hpr2
      refine Rg.list_run (some 22) rfl rfl (exec_bin (R := .int .i64 (((i + r) : Nat) : Int)) .add _ _ _ rfl rfl rfl (b_add _ (by omega) (by omega))) ?_
      go_frame
      refine Rg.list_run (some 7) rfl rfl (Rg.exec_assign (v := .int .i64 (((i + r) : Nat) : Int)) _ rfl rfl) ?_
      go_frame
      clear htk
      have hkn : i + r < n := by omega
      have hin2 : i < n := by omega
      go_upto_region 6 with (fail)
      have hV1 : Below w21.heap.size w21 w21.drew := (Below.refl _ _).drew
      replace PR := Lib.hid (PRow.below PR.out hV1)
      replace TK2 := Lib.hid (TK2.out.below hV1)
      replace K := Lib.hid (kpAcc K.out hV1)
      clear hV1
      have hV0 : Below w21.heap.size w21 w21.drew := (Below.refl _ _).drew
      generalize Fup (fun _ : Nat => True) w21 w21.drew = F1 at *
      clear hV0
      refine Rg.Any.begin (S := Rg.Both 13 (fun W : World => W.cell? ⟨g, i, none⟩ = some (.int .i64 ((y.getD i 0 : Nat) : Int)) ∧ W.cell? ⟨g, i + r, none⟩ = some (.int .i64 ((y.getD (i + r) 0 : Nat) : Int))) (fun _ => True)) mix ?_
      generalize w21.drew = w22 at *
      have hS : ∀ (l : Array Bool) W, (fun W : World => W.cell? ⟨g, i, none⟩ = some (.int .i64 ((y.getD i 0 : Nat) : Int)) ∧ W.cell? ⟨g, i + r, none⟩ = some (.int .i64 ((y.getD (i + r) 0 : Nat) : Int))) W → Rg.Both 13 (fun W : World => W.cell? ⟨g, i, none⟩ = some (.int .i64 ((y.getD i 0 : Nat) : Int)) ∧ W.cell? ⟨g, i + r, none⟩ = some (.int .i64 ((y.getD (i + r) 0 : Nat) : Int))) (fun _ => True) l W := fun l W h => ⟨.inr h, trivial⟩
      have hS2 : ∀ (l : Array Bool) W, l.getD 13 false = true → Rg.Both 13 (fun W : World => W.cell? ⟨g, i, none⟩ = some (.int .i64 ((y.getD i 0 : Nat) : Int)) ∧ W.cell? ⟨g, i + r, none⟩ = some (.int .i64 ((y.getD (i + r) 0 : Nat) : Int))) (fun _ => True) l W := fun l W h => ⟨.inl h, trivial⟩
      have hI : (fun W : World => W.cell? ⟨g, i, none⟩ = some (.int .i64 ((y.getD i 0 : Nat) : Int)) ∧ W.cell? ⟨g, i + r, none⟩ = some (.int .i64 ((y.getD (i + r) 0 : Nat) : Int))) w22 := ⟨PR.out.2.1 i hin2, PR.out.2.1 (i + r) hkn⟩
      refine Rg.Any.takeG (i := 0) (t := 13) (v := .slice (some ⟨g, 0, none⟩) n cap) (some 23) rfl rfl (by kernel_rfl) (by kernel_rfl) (by kernel_rfl) (fun _ _ _ h => h) rfl (.inl ⟨rfl, fun w _ => Rg.exec_move (v := .slice (some ⟨g, 0, none⟩) n cap) _ rfl rfl⟩) (hS _ _ hI) ?_
      go_frame
      refine Rg.Any.takeG (i := 1) (t := 13) (v := .int .i64 ((i : Nat) : Int)) (some 24) rfl rfl (by kernel_rfl) (by kernel_rfl) (by kernel_rfl) (fun _ _ _ h => h) rfl (.inl ⟨rfl, fun w _ => Rg.exec_move (v := .int .i64 ((i : Nat) : Int)) _ rfl rfl⟩) (hS _ _ hI) ?_
      go_frame
      refine Rg.Any.takeG (i := 2) (t := 13) (v := .slice (some ⟨g, 0, none⟩) n cap) (some 25) rfl rfl (by kernel_rfl) (by kernel_rfl) (by kernel_rfl) (fun _ _ _ h => h) rfl (.inl ⟨rfl, fun w _ => Rg.exec_move (v := .slice (some ⟨g, 0, none⟩) n cap) _ rfl rfl⟩) (hS _ _ hI) ?_
      go_frame
      refine Rg.Any.takeG (i := 3) (t := 13) (v := .int .i64 (((i + r) : Nat) : Int)) (some 26) rfl rfl (by kernel_rfl) (by kernel_rfl) (by kernel_rfl) (fun _ _ _ h => h) rfl (.inl ⟨rfl, fun w _ => Rg.exec_move (v := .int .i64 (((i + r) : Nat) : Int)) _ rfl rfl⟩) (hS _ _ hI) ?_
      go_frame
      refine Rg.Any.takeG (i := 4) (t := 13) (v := .slice (some ⟨g, 0, none⟩) n cap) (some 27) rfl rfl (by kernel_rfl) (by kernel_rfl) (by kernel_rfl) (fun _ _ _ h => h) rfl (.inl ⟨rfl, fun w _ => Rg.exec_move (v := .slice (some ⟨g, 0, none⟩) n cap) _ rfl rfl⟩) (hS _ _ hI) ?_
      go_frame
      refine Rg.Any.takeG (i := 5) (t := 13) (v := .int .i64 (((i + r) : Nat) : Int)) (some 28) rfl rfl (by kernel_rfl) (by kernel_rfl) (by kernel_rfl) (fun _ _ _ h => h) rfl (.inl ⟨rfl, fun w _ => Rg.exec_move (v := .int .i64 (((i + r) : Nat) : Int)) _ rfl rfl⟩) (hS _ _ hI) ?_
      go_frame
      refine Rg.Any.takeG (i := 6) (t := 13) (v := .pointer (some ⟨g, 0 + (i + r), none⟩)) (some 29) rfl rfl (by kernel_rfl) (by kernel_rfl) (by kernel_rfl) (fun _ _ _ h => h) rfl (Rg.yields_index slPerm _ _ rfl rfl g (0) (n) cap ((i + r)) rfl rfl hkn) (hS _ _ hI) ?_
      go_frame
      refine Rg.Any.takeT (i := 7) (t := 13) (v := .int .i64 (((y.getD (i + r) 0) : Nat) : Int)) (some 30) rfl rfl (by kernel_rfl) (by kernel_rfl) (by kernel_rfl) (fun _ _ _ h => h) rfl (by kernel_rfl) rfl (Rg.yields_cell _ _ rfl rfl ⟨g, 0 + (i + r), none⟩ rfl (fun W hW => run_loadInt (by rw [Nat.zero_add]; exact hW.2))) (hS _ _ hI) ?_
      go_frame
      refine Rg.Any.takeG (i := 8) (t := 13) (v := .slice (some ⟨g, 0, none⟩) n cap) (some 31) rfl rfl (by kernel_rfl) (by kernel_rfl) (by kernel_rfl) (fun _ _ _ h => h) rfl (.inl ⟨rfl, fun w _ => Rg.exec_move (v := .slice (some ⟨g, 0, none⟩) n cap) _ rfl rfl⟩) (hS _ _ hI) ?_
      go_frame
      refine Rg.Any.takeG (i := 9) (t := 13) (v := .int .i64 ((i : Nat) : Int)) (some 32) rfl rfl (by kernel_rfl) (by kernel_rfl) (by kernel_rfl) (fun _ _ _ h => h) rfl (.inl ⟨rfl, fun w _ => Rg.exec_move (v := .int .i64 ((i : Nat) : Int)) _ rfl rfl⟩) (hS _ _ hI) ?_
      go_frame
      refine Rg.Any.takeG (i := 10) (t := 13) (v := .pointer (some ⟨g, 0 + i, none⟩)) (some 33) rfl rfl (by kernel_rfl) (by kernel_rfl) (by kernel_rfl) (fun _ _ _ h => h) rfl (Rg.yields_index slPerm _ _ rfl rfl g (0) (n) cap (i) rfl rfl hin2) (hS _ _ hI) ?_
      go_frame
      refine Rg.Any.takeT (i := 11) (t := 13) (v := .int .i64 (((y.getD i 0) : Nat) : Int)) (some 34) rfl rfl (by kernel_rfl) (by kernel_rfl) (by kernel_rfl) (fun _ _ _ h => h) rfl (by kernel_rfl) rfl (Rg.yields_cell _ _ rfl rfl ⟨g, 0 + i, none⟩ rfl (fun W hW => run_loadInt (by rw [Nat.zero_add]; exact hW.1))) (hS _ _ hI) ?_
      go_frame
      refine Rg.Any.takeG (i := 12) (t := 13) (v := .pointer (some ⟨g, 0 + i, none⟩)) (some 35) rfl rfl (by kernel_rfl) (by kernel_rfl) (by kernel_rfl) (fun _ _ _ h => h) rfl (Rg.yields_index slPerm _ _ rfl rfl g (0) (n) cap (i) rfl rfl hin2) (hS _ _ hI) ?_
      go_frame
      refine Rg.Any.one (i := 13) (by kernel_rfl) (Rg.Any.runSkip none rfl rfl rfl (Rg.exec_store _ _ _ rfl _ rfl _ rfl (run_storeInt _ (by rw [Nat.zero_add]; exact PR.out.2.1 i hin2) (PR.out.2.2 _))) (hS2 _ _ rfl) ?_)
      go_frame
      refine Rg.Any.takeG (i := 14) (t := 13) (v := .pointer (some ⟨g, 0 + (i + r), none⟩)) (some 36) rfl rfl (by kernel_rfl) (by kernel_rfl) (by kernel_rfl) (fun _ _ _ h => h) rfl (Rg.yields_index slPerm _ _ rfl rfl g (0) (n) cap ((i + r)) rfl rfl hkn) (hS2 _ _ rfl) ?_
      go_frame
      obtain ⟨u2, hu2⟩ : ∃ u, (w22.setCell ⟨g, 0 + i, none⟩ (.int .i64 ((y.getD (i + r) 0 : Nat) : Int))).cell? ⟨g, 0 + (i + r), none⟩ = some u := ⟨_, by rw [Nat.zero_add, Nat.zero_add]; exact (RwAt.set PR.out i _ hin2).2.1 (i + r) hkn⟩
      refine Rg.Any.one (i := 15) (by kernel_rfl) (Rg.Any.runSkip none rfl rfl rfl (Rg.exec_store _ _ _ rfl _ rfl _ rfl (run_storeInt _ hu2 (by rw [World.frozen?_setCell]; exact PR.out.2.2 _))) (hS2 _ _ rfl) ?_)
      go_frame
      refine Rg.Any.done (by kernel_rfl) ?_ _
      clear hS2
      clear hS hI
      have hsw := PR.out.swap hin2 hkn
      have hkk := Rg.Kp.trans (M := fun z => z = g) (Rg.Kp.of_setCell (M := fun z => z = g) (w := w22) (a := ⟨g, i, none⟩) (v := .int .i64 ((y.getD (i + r) 0 : Nat) : Int)) rfl) (Rg.Kp.of_setCell (M := fun z => z = g) (a := ⟨g, i + r, none⟩) (v := .int .i64 ((y.getD i 0 : Nat) : Int)) rfl) (fun _ _ e => e)
      have e0 : 0 + i = i := Nat.zero_add i
      have e1 : 0 + (i + r) = i + r := Nat.zero_add _
      rw [e0, e1]
      generalize (w22.setCell ⟨g, i, none⟩ (.int .i64 ((y.getD (i + r) 0 : Nat) : Int))).setCell ⟨g, i + r, none⟩ (.int .i64 ((y.getD i 0 : Nat) : Int)) = w99 at *
      have PR2 := Lib.hid hsw
      have GY2 := Lib.hid (swN_gd GY.out hin2 hkn)
      have TK3 := Lib.hid (TK2.out.kp hkk (fun e => by have := HLT.out; have := HG.out; omega) (fun z e => by have := HLT.out; have := HG.out; have := HLO.out; omega))
      have K3 := Lib.hid (Rg.Kp.trans (M := fun z => z = tk) K.out hkk (fun z hz e => by have := HG.out; omega))
      clear hsw hkk e0 e1
      go_wp2
      go_roundw
      case rel => exact ⟨i + 1, _, _, by go_num, by omega, PR2, GY2, TK3, K3⟩
      case measure => simp [intOf]; omega
    · have hiN : ¬ (i : Int) + 1 < (n : Int) := by omega
      go_upto_region 3 with (fail)
      refine wp_region_list ?_
      refine Rg.list_run (some 10) rfl rfl (Rg.exec_move (v := .int .i64 ((i : Nat) : Int)) _ rfl rfl) ?_
      go_frame
      refine Rg.list_run (some 11) rfl rfl (exec_bin (R := .int .i64 (((i + 1) : Nat) : Int)) .add _ _ _ rfl rfl rfl (b_add _ (by omega) (by omega))) ?_
      go_frame
      refine Rg.list_run (some 12) rfl rfl (Rg.exec_move (v := .int .i64 ((n : Nat) : Int)) _ rfl rfl) ?_
      go_frame
      refine Rg.list_run (some 13) rfl rfl (exec_bin (R := .bool false) .lss _ _ _ rfl rfl rfl (b_lss _ (decide_eq_false (by omega)))) ?_
      go_frame
      go_upto_region 7 with (fail)
      refine wp_region_list ?_
      refine Rg.list_run (some 37) rfl rfl (Rg.exec_move (v := .slice (some ⟨g, 0, none⟩) n cap) _ rfl rfl) ?_
      go_frame
      refine Rg.list_run (some 4) rfl rfl (Rg.exec_assign (v := .slice (some ⟨g, 0, none⟩) n cap) _ rfl rfl) ?_
      go_frame
      go_wp2
      go_ret
      exact ⟨g, cap, y, _, rfl, HG.out, HCP.out.1, HCP.out.2, GY.out, PR.out, TK.out, K.out⟩
end Go.Proofs.Ytojbijkljnohoaa
