/- Lemmas and contracts on the way to the statement; no condition of their own beyond those written. -/
import Derived.Test.YtjifdmfoijoekaaXSd
import Derived.Test.YtjifdmfoijoekaaXRw
import Derived.Deep.CutRange
import Derived.Deep.CutBlock
set_option linter.unusedVariables false
/-! puzzle.build, by its maker. -/
namespace Go.Proofs.Ytjifdmfoijoekaa.Rj
open Go.Proofs.Ytjifdmfoijoekaa
open Go.RowKit
open Go.Proofs
attribute [local irreducible] Go.Calls

theorem list_ask {P : Program} {ops : Array Oper} {rest : List Oper} {o : Oper} {a : Act} {w : World} {Q : Exit → Act → World → Prop} (d : Option Tmp) (hg : o.guard = none) (hd : o.dst = d) (f : FuncId) (args : Array Value)
    (hr : (execOp a.eval o).run P w = .ok (.enter f args) w) (hc : Calls P f args w fun e w' => ∃ v, e = .returned v ∧ wpList P ops Q rest (a.put d v) w') : wpList P ops Q (o :: rest) a w := by
  subst hd
  refine wpList_plain hg fun K hK => ?_
  unfold Oper.wp
  rw [hr, Oper.upon_enter]
  refine hc.mono fun e w' ⟨v, h1, h2⟩ => ?_
  subst h1
  exact hK _ _ h2
theorem exec_allocG {o : Oper} {a : Act} {w : World} (ho : o.op = .alloc 24) : (execOp a.eval o).run Try.prog w = .ok (.value (.pointer (some ⟨w.heap.size, 0, none⟩))) (w.alloc (.cells #[.int .i64 0, .slice none 0 0] 24)) := by
  obtain ⟨i0, hi, hz0, hz1, hz2⟩ := info_parts infoGroup
  unfold execOp
  simp [ho, Instr.alloc, typeInfo, zeroValue, hi, hz0, newVar, Value.cells, Result.andThen]
  rfl
/-- what a maker does: a group of degree d -/
def Makes (F : FuncId) (nv : Value) (d : Int) (ll : List (List Int)) (w : World) : Prop :=
  ∀ w' bp, Below w.heap.size w w' → bp < w'.heap.size → w'.cell? ⟨bp, 0, none⟩ = some nv →
    Calls Try.prog F #[.pointer (some ⟨bp, 0, none⟩)] w' fun e w'' => ∃ a n c, e = .returned (.agg #[.int .i64 d, .slice a n c]) ∧ RowsF w'.heap.size w'' (.slice a n c) ll ∧ Below w'.heap.size w' w''

/-- what a constructor answers: a group of degree d and its error -/
def GroupPost (d : Int) (ll : List (List Int)) (w : World) (e : Ending) (w' : World) : Prop :=
  ∃ a n c, e = .returned (.tuple #[.agg #[.int .i64 d, .slice a n c], .int .i64 (if d = 0 then 2 else 0)]) ∧ RowsF w.heap.size w' (.slice a n c) ll ∧ Below w.heap.size w w'

set_option maxHeartbeats 1000000 in
theorem build_gen (s : ByteArray) (F : FuncId) (i : Nat) (hfind : ∀ v, Instr.findNow .string (.string s) (E3 v).toList 0 = some (some (i, fV F v))) (hF : ∀ args w, (callFunc F args).run Try.prog w = .ok (.enter F args) w)
    (na : Option Addr) (nn nc : Nat) (d : Int) (ll : List (List Int)) (w : World) (hm : Makes F (.slice na nn nc) d ll w) :
    Calls Try.prog 39 #[.string s, .slice na nn nc] w (GroupPost d ll w) := by
  go_enter Try.func39, Try.ntmps39
  go_upto_region 1 with (fail)
  generalize hW : (w.alloc (.cells #[.slice na nn nc] 27)).alloc (.cells #[.int .i64 0, .slice none 0 0] 24) = W
  obtain ⟨W1, W2, W3, m1, m2, m3, hb3, hs3, hbe3⟩ := maps_run W (.pointer (some ⟨w.heap.size, 0, none⟩))
  have hsz : W.heap.size = w.heap.size + 2 := by rw [← hW]; simp
  have hbW : Below w.heap.size w W := by rw [← hW]; exact ((Below.refl _ _).alloc (Nat.le_refl _) _).alloc (by simp) _
  have hsz0 : (w.alloc (.cells #[.slice na nn nc] 27)).heap.size = w.heap.size + 1 := by simp
  have hc0 : W.cell? ⟨w.heap.size, 0, none⟩ = some (.slice na nn nc) := by
    rw [← hW, World.cell?_alloc_lt (h := by rw [hsz0]; exact Nat.lt_succ_self _) .., Rg.cellNew]; rfl
  have hc1 : W.cell? ⟨w.heap.size + 1, 0, none⟩ = some (.int .i64 0) := by rw [← hW, ← hsz0, Rg.cellNew]; rfl
  have hc2 : W.cell? ⟨w.heap.size + 1, 1, none⟩ = some (.slice none 0 0) := by rw [← hW, ← hsz0, Rg.cellNew]; rfl
  have hf1 : ∀ o, W.frozen? ⟨w.heap.size + 1, o, none⟩ = false := fun o => by rw [← hW, ← hsz0]; exact frozenNewN _ _ _ 0 _
  refine wp_region_list ?_
  refine Rg.list_run (some 8) rfl rfl (exec_makeMap _ rfl) ?_
  go_frame
  refine Rg.list_run (some 9) rfl rfl (exec_makeFunc (v := .pointer (some ⟨w.heap.size, 0, none⟩)) _ _ rfl rfl) ?_
  go_frame
  refine Rg.list_skip none rfl rfl (exec_insert _ _ _ _ rfl rfl rfl rfl m1) ?_
  go_frame
  refine Rg.list_run (some 10) rfl rfl (exec_makeFunc (v := .pointer (some ⟨w.heap.size, 0, none⟩)) _ _ rfl rfl) ?_
  go_frame
  refine Rg.list_skip none rfl rfl (exec_insert _ _ _ _ rfl rfl rfl rfl m2) ?_
  go_frame
  refine Rg.list_run (some 11) rfl rfl (exec_makeFunc (v := .pointer (some ⟨w.heap.size, 0, none⟩)) _ _ rfl rfl) ?_
  go_frame
  refine Rg.list_skip none rfl rfl (exec_insert _ _ _ _ rfl rfl rfl rfl m3) ?_
  go_frame
  clear m1 m2 m3
  go_upto_region 2 with (fail)
  refine wp_region_list ?_
  refine Rg.list_run (some 13) rfl rfl (Rg.exec_move _ rfl rfl) ?_
  go_frame
  refine Rg.list_run (some 14) rfl rfl (Rg.exec_move _ rfl rfl) ?_
  go_frame
  refine Rg.list_run (some 15) rfl rfl (Rg.exec_lookup _ _ _ _ rfl _ _ rfl rfl (run_look s hb3 (hfind _))) ?_
  go_frame
  have hB3 : Below w.heap.size w W3 := Rg.acc hbW hbe3
  have lt0 : w.heap.size < W.heap.size := by omega
  have lt1 : w.heap.size + 1 < W.heap.size := by omega
  obtain ⟨kc, kf⟩ := Rg.bcell hbe3
  have hc0' := (kc _ 0 lt0).trans hc0
  have hc1' := (kc _ 0 lt1).trans hc1
  have hc2' := (kc _ 1 lt1).trans hc2
  have hf1' := fun o => (kf _ o lt1).trans (hf1 o)
  refine list_ask (some 16) rfl rfl _ _ (exec_callF F _ rfl rfl (hF _ _)) ?_
  refine (hm W3 w.heap.size hB3 (by omega) hc0').mono ?_
  rintro e W4 ⟨ga, gn, gc, rfl, hg4, hb4⟩
  refine ⟨_, rfl, ?_⟩
  go_frame
  refine Rg.list_run (some 7) rfl rfl (exec_allocG rfl) ?_
  go_frame
  have n0 : (W4.alloc (.cells #[.int .i64 0, .slice none 0 0] 24)).cell? ⟨W4.heap.size, 0, none⟩ = some (.int .i64 0) := by rw [Rg.cellNew]; rfl
  have n1 : (W4.alloc (.cells #[.int .i64 0, .slice none 0 0] 24)).cell? ⟨W4.heap.size, 1, none⟩ = some (.slice none 0 0) := by rw [Rg.cellNew]; rfl
  refine Rg.list_skip none rfl rfl (Rg.exec_store _ _ _ rfl _ rfl _ rfl (run_storeG d ga gn gc n0 n1 (frozenNewN _ _ _ 0 _) (frozenNewN _ _ _ 0 _))) ?_
  go_frame
  have hbA : Below W3.heap.size W3 (W4.alloc (.cells #[.int .i64 0, .slice none 0 0] 24)) := hb4.alloc hb4.size _
  have hg5 : RowsF W3.heap.size (W4.alloc (.cells #[.int .i64 0, .slice none 0 0] 24)) (.slice ga gn gc) ll := hg4.below ((Below.refl _ _).alloc (Nat.le_refl _) _)
  obtain ⟨p0, p1, p2⟩ := group_set (.int .i64 d) (.slice ga gn gc) n0 n1 hbA hb4.size
  have hg6 : RowsF W3.heap.size (((W4.alloc (.cells #[.int .i64 0, .slice none 0 0] 24)).setCell ⟨W4.heap.size, 0, none⟩ (.int .i64 d)).setCell ⟨W4.heap.size, 1, none⟩ (.slice ga gn gc)) (.slice ga gn gc) ll := by
    have q0 : RowsF W3.heap.size W4 (.slice ga gn gc) ll := hg4
    refine q0.keep (by simp) fun b o h1 h2 => ?_
    rw [World.cell?_setCell_other (h := by intro e; injection e with e1 e2; omega) .., World.cell?_setCell_other (h := by intro e; injection e with e1 e2; omega) ..]
    exact World.cell?_alloc_lt (h := h2) ..
  generalize ((W4.alloc (.cells #[.int .i64 0, .slice none 0 0] 24)).setCell ⟨W4.heap.size, 0, none⟩ (.int .i64 d)).setCell ⟨W4.heap.size, 1, none⟩ (.slice ga gn gc) = W5 at *
  obtain ⟨kc5, kf5⟩ := Rg.bcell p2
  have lt3 : w.heap.size + 1 < W3.heap.size := by omega
  have r0 := (kc5 _ 0 lt3).trans hc1'
  have r1 := (kc5 _ 1 lt3).trans hc2'
  have rf := fun o => (kf5 _ o lt3).trans (hf1' o)
  have hB5 : Below w.heap.size w W5 := Rg.acc hB3 p2
  clear hc0 hc1 hc2 hf1 hc0' hc1' hc2' hf1' kc kf kc5 kf5 n0 n1 hbA hg5 hg4 hb4 hb3 hbe3 hbW hB3 p2 hW
  have hbA := group_set (.int .i64 d) (.slice ga gn gc) r0 r1 hB5 (by omega)
  have hS := run_storeG d ga gn gc r0 r1 (rf 0) (rf 1)
  have hL := run_loadG p0 p1
  have hR : RowsF w.heap.size ((W5.setCell ⟨w.heap.size + 1, 0, none⟩ (.int .i64 d)).setCell ⟨w.heap.size + 1, 1, none⟩ (.slice ga gn gc)) (.slice ga gn gc) ll := ((hg6.set _ _ _ (by omega)).set _ _ _ (by omega)).mono (by omega)
  have HS := Lib.hid hS
  have HL := Lib.hid hL
  have HR := Lib.hid hR
  have HA := Lib.hid hbA
  clear hS hL hR hbA r0 r1 rf hg6
  by_cases hd : d = 0
  · go_upto_region 4 with (fail)
    refine wp_region_list ?_
    refine Rg.list_run (some 20) rfl rfl (Rg.exec_load _ _ rfl _ rfl HL.out) ?_
    go_frame
    refine Rg.list_skip none rfl rfl (Rg.exec_store _ _ _ rfl _ rfl _ rfl HS.out) ?_
    go_frame
    clear HS HL
    generalize (W5.setCell ⟨w.heap.size + 1, 0, none⟩ (.int .i64 d)).setCell ⟨w.heap.size + 1, 1, none⟩ (.slice ga gn gc) = W6 at *
    go_wp2
    exact bodyPost_ret (results_cellG2 rfl _ rfl rfl HA.out.1 HA.out.2.1) rfl ⟨_, _, _, by rw [if_pos hd]; rfl, HR.out, HA.out.2.2⟩
  · have hdb : (d == 0) = false := by rw [beq_eq_false_iff_ne]; exact hd
    go_upto_region 5 with (fail)
    refine wp_region_list ?_
    refine Rg.list_run (some 21) rfl rfl (Rg.exec_load _ _ rfl _ rfl HL.out) ?_
    go_frame
    refine Rg.list_skip none rfl rfl (Rg.exec_store _ _ _ rfl _ rfl _ rfl HS.out) ?_
    go_frame
    clear HS HL
    generalize (W5.setCell ⟨w.heap.size + 1, 0, none⟩ (.int .i64 d)).setCell ⟨w.heap.size + 1, 1, none⟩ (.slice ga gn gc) = W6 at *
    go_wp2
    exact bodyPost_ret (results_cellG2 rfl _ rfl rfl HA.out.1 HA.out.2.1) rfl ⟨_, _, _, by rw [if_neg hd]; rfl, HR.out, HA.out.2.2⟩
end Go.Proofs.Ytjifdmfoijoekaa.Rj

/-! puzzle.Rings. -/
namespace Go.Proofs.Ytjifdmfoijoekaa.Rj
open Go.Proofs.Ytjifdmfoijoekaa
open Go.RowKit
open Go.Proofs
attribute [local irreducible] Go.Calls

theorem intsInfo : (Try.prog.info? 3).map (fun i => (i.zero, i.size, i.bytes)) = some (some (.int .i64 0), 1, 8) := by kernel_rfl
theorem run_build3 (X : World) (x y z : Int) : (Instr.buildSlice 27 3 #[(0, .int .i64 x), (1, .int .i64 y), (2, .int .i64 z)]).run Try.prog X = .ok (.slice (some ⟨X.heap.size, 0, none⟩) 3 3) (X.alloc (.cells #[.int .i64 x, .int .i64 y, .int .i64 z] 3)) := by
  obtain ⟨i0, hi, hz0, hz1, hz2⟩ := info_parts intsInfo
  refine run_buildSlice X 27 3 3 _ _ i0 _ Try.underlying27 hi hz0 (by rw [hz1]; decide) (by rw [hz1]; decide) ?_
  generalize (fun x => ((Value.int IntKind.i64 0).cells)[x % (Value.int IntKind.i64 0).cells.size]!) = f
  rw [hz1]
  have h1 : Array.range (3 * 1) = #[0, 1, 2] := rfl
  simp [Instr.fill, Value.cells, h1]
theorem exec_build3 {o : Oper} {a : Act} {w w' : World} {v u1 u2 u3 : Value} (t : TypeId) (n : Nat) (x y z : Operand) (ho : o.op = .buildSlice t n #[(0, x), (1, y), (2, z)]) (hx : a.eval x = u1) (hy : a.eval y = u2) (hz : a.eval z = u3)
    (hr : (Instr.buildSlice t n #[(0, u1), (1, u2), (2, u3)]).run Try.prog w = .ok v w') : (execOp a.eval o).run Try.prog w = .ok (.value v) w' := by
  subst hx hy hz
  unfold execOp
  simp only [ho, Sem.run_bind, Sem.run_pure]
  simp only [List.map_toArray, List.map_cons, List.map_nil]
  rw [hr]
  rfl
theorem exec_fn {o : Oper} {a : Act} {w : World} {u1 u2 : Value} (F : FuncId) (x y : Operand) (tys : Array TypeId) (ho : o.op = .call { callee := .value (.func F), args := #[x, y], argTypes := tys }) (hx : a.eval x = u1) (hy : a.eval y = u2)
    (hF : (callFunc F #[u1, u2]).run Try.prog w = .ok (.enter F #[u1, u2]) w) : (execOp a.eval o).run Try.prog w = .ok (.enter F #[u1, u2]) w := by
  unfold execOp
  have hf : a.eval (.func F) = .func (.func F) #[] #[] := rfl
  simp [ho, hx, hy, hf, resolve, invoke, Deferred.ofValue, hF]
theorem callBuild (args : Array Value) (w : World) : (callFunc 39 args).run Try.prog w = .ok (.enter 39 args) w := by kernel_rfl
theorem exec_extract {o : Oper} {a : Act} {w : World} (x : Operand) (i : Nat) (ho : o.op = .extract x i) {vs : Array Value} {v : Value} (hx : a.eval x = .tuple vs) (hv : vs[i]? = some v) : (execOp a.eval o).run Try.prog w = .ok (.value v) w := by
  unfold execOp
  simp [ho, hx, hv, Instr.extract]

set_option maxHeartbeats 1000000 in
theorem Rings_of (a b k : Int) (d : Int) (ll : List (List Int)) (w : World)
    (hm : ∀ W r, Below w.heap.size w W → r < W.heap.size → W.cell? ⟨r, 0, none⟩ = some (.int .i64 a) → W.cell? ⟨r, 1, none⟩ = some (.int .i64 b) → W.cell? ⟨r, 2, none⟩ = some (.int .i64 k) → Makes 57 (.slice (some ⟨r, 0, none⟩) 3 3) d ll W) :
    Calls Try.prog 13 #[.int .i64 a, .int .i64 b, .int .i64 k] w (GroupPost d ll w) := by
  go_enter Try.func13, Try.ntmps13
  go_upto_region 1 with (fail)
  generalize hW : w.alloc (.cells #[.int .i64 0, .slice none 0 0] 24) = W
  have hsz : W.heap.size = w.heap.size + 1 := by rw [← hW]; simp
  have hbW : Below w.heap.size w W := by rw [← hW]; exact (Below.refl _ _).alloc (Nat.le_refl _) _
  have hc1 : W.cell? ⟨w.heap.size, 0, none⟩ = some (.int .i64 0) := by rw [← hW, Rg.cellNew]; rfl
  have hc2 : W.cell? ⟨w.heap.size, 1, none⟩ = some (.slice none 0 0) := by rw [← hW, Rg.cellNew]; rfl
  have hf1 : ∀ o, W.frozen? ⟨w.heap.size, o, none⟩ = false := fun o => by rw [← hW]; exact frozenNewN _ _ _ 0 _
  refine wp_region_list ?_
  refine Rg.list_run (some 8) rfl rfl (Rg.exec_move _ rfl rfl) ?_
  go_frame
  refine Rg.list_run (some 9) rfl rfl (Rg.exec_move _ rfl rfl) ?_
  go_frame
  refine Rg.list_run (some 10) rfl rfl (Rg.exec_move _ rfl rfl) ?_
  go_frame
  refine Rg.list_run (some 11) rfl rfl (exec_build3 _ _ _ _ _ rfl rfl rfl rfl (run_build3 _ a b k)) ?_
  go_frame
  have hbX : Below w.heap.size w (W.alloc (.cells #[.int .i64 a, .int .i64 b, .int .i64 k] 3)) := hbW.alloc (by omega) _
  have hbY : Below W.heap.size W (W.alloc (.cells #[.int .i64 a, .int .i64 b, .int .i64 k] 3)) := (Below.refl _ _).alloc (Nat.le_refl _) _
  have hM := hm (W.alloc (.cells #[.int .i64 a, .int .i64 b, .int .i64 k] 3)) W.heap.size hbX (by simp) (by rw [Rg.cellNew]; rfl) (by rw [Rg.cellNew]; rfl) (by rw [Rg.cellNew]; rfl)
  generalize W.alloc (.cells #[.int .i64 a, .int .i64 b, .int .i64 k] 3) = W2 at *
  refine list_ask (some 12) rfl rfl _ _ (exec_fn (u1 := .string sRings) 39 _ _ _ rfl rfl rfl (callBuild _ _)) ?_
  refine (build_gen sRings _ 0 found1 callF1 _ _ _ d ll W2 hM).mono ?_
  rintro e W4 ⟨ga, gn, gc, rfl, hg4, hb4⟩
  refine ⟨_, rfl, ?_⟩
  go_frame
  obtain ⟨kc, kf⟩ := Rg.bcell (Rg.acc hbY hb4)
  have lt1 : w.heap.size < W.heap.size := by omega
  have r0 := (kc _ 0 lt1).trans hc1
  have r1 := (kc _ 1 lt1).trans hc2
  have rf := fun o => (kf _ o lt1).trans (hf1 o)
  have hs2 := hbY.size
  obtain ⟨p0, p1, p2⟩ := group_set (.int .i64 d) (.slice ga gn gc) r0 r1 (Rg.acc hbX hb4) (by omega)
  have hR : RowsF w.heap.size ((W4.setCell ⟨w.heap.size, 0, none⟩ (.int .i64 d)).setCell ⟨w.heap.size, 1, none⟩ (.slice ga gn gc)) (.slice ga gn gc) ll := ((hg4.set _ _ _ (by omega)).set _ _ _ (by omega)).mono (by omega)
  refine Rg.list_run (some 13) rfl rfl (exec_extract (v := .agg #[.int .i64 d, .slice ga gn gc]) _ _ rfl rfl rfl) ?_
  go_frame
  refine Rg.list_run (some 14) rfl rfl (exec_extract (v := .int .i64 (if d = 0 then 2 else 0)) _ _ rfl rfl rfl) ?_
  go_frame
  refine Rg.list_skip none rfl rfl (Rg.exec_store _ _ _ rfl _ rfl _ rfl (run_storeG d ga gn gc r0 r1 (rf 0) (rf 1))) ?_
  go_frame
  refine Rg.list_run (some 7) rfl rfl (Rg.exec_assign _ rfl rfl) ?_
  go_frame
  generalize (W4.setCell ⟨w.heap.size, 0, none⟩ (.int .i64 d)).setCell ⟨w.heap.size, 1, none⟩ (.slice ga gn gc) = W6 at *
  clear hc1 hc2 hf1 kc kf r0 r1 rf hm hM hW
  have H := Lib.hid (And.intro p0 (And.intro p1 (And.intro p2 hR)))
  clear p0 p1 p2 hR
  generalize hE : (if d = 0 then (2 : Int) else 0) = E
  go_wp2
  exact bodyPost_ret (results_cellG2 rfl _ rfl rfl H.out.1 H.out.2.1) rfl ⟨_, _, _, by rw [hE]; rfl, H.out.2.2.2, H.out.2.2.1⟩
end Go.Proofs.Ytjifdmfoijoekaa.Rj

/-! The law's own groups: rings, cakes. -/
namespace Go.Proofs.Ytjifdmfoijoekaa.Rj
open Go.Proofs.Ytjifdmfoijoekaa
open Go.RowKit
open Go.Proofs
attribute [local irreducible] Go.Calls

theorem exec_flat {o : Oper} {a : Act} {w : World} (t e : TypeId) (len : Nat) (parts : Array (Nat × Operand)) (ho : o.op = .buildSlice t len parts) (zs : List Int)
    (hu : Try.prog.underlying t = some (.slice e)) (hsz : (Try.prog.info? e).map (·.size) = some 1) (hz : ((Try.prog.info? e).bind (·.zero)).isSome = true)
    (hlen : len = zs.length) (hpos : 0 < len) (hsmall : len ≤ 2 ^ 24)
    (hparts : parts.toList = (zs.zipIdx 0).map fun x => (x.2, Operand.const (Value.int .i64 x.1))) :
    (execOp a.eval o).run Try.prog w = .ok (.value (.slice (some ⟨w.heap.size, 0, none⟩) len len)) (w.alloc (.cells (zs.map (Value.int .i64)).toArray e)) := by
  cases hie : Try.prog.info? e with
  | none => simp [hie] at hsz
  | some ie =>
    simp only [hie, Option.map_some, Option.some.injEq, Option.bind_some] at hsz hz
    obtain ⟨z, hzz⟩ := Option.isSome_iff_exists.1 hz
    have h1 := run_buildSlice w t e len (parts.map fun (i, x) => (i, a.eval x)) ((zs.map (Value.int .i64)).toArray) ie z hu hie hzz (by rw [hsz]; omega) (by rw [hsz]; omega) (by
      rw [parts_eval a parts .i64 zs hparts, hsz]
      exact Great.fill_flat _ _ (fun v hv => by obtain ⟨n, _, rfl⟩ := List.mem_map.1 hv; rfl) (by simp [hlen]))
    unfold execOp
    simp only [ho, Sem.run_bind, h1, Result.andThen_ok, Sem.run_pure]

theorem ints_new (w : World) (t : TypeId) (zs : List Int) (hl : zs.length ≤ 1000) : Rg.Ints (w.alloc (.cells (zs.map (Value.int .i64)).toArray t)) (.slice (some ⟨w.heap.size, 0, none⟩) zs.length zs.length) zs := by
  refine ⟨_, zs.length, by simp, by simp, by unfold maxLen; omega, by simp [Rg.big]; omega, fun _ => ⟨w.heap.size, 0, rfl, by simp, fun i hi => ?_⟩⟩
  rw [Nat.zero_add, Rg.cellNew]
  simp only [List.getElem?_toArray]
  exact List.getElem?_eq_getElem hi
theorem rowsF_new {B : Nat} {w : World} (t : TypeId) (us : List Value) (ll : List (List Int)) (hl : us.length = ll.length) (h1 : us.length ≤ 1000) (h : ∀ i (h : i < us.length) (h2 : i < ll.length), Rg.Ints w us[i] ll[i] ∧ Rg.Fresh B us[i]) (hB : B ≤ w.heap.size) :
    RowsF B (w.alloc (.cells us.toArray t)) (.slice (some ⟨w.heap.size, 0, none⟩) us.length us.length) ll := by
  refine ⟨us, ⟨_, us.length, rfl, Nat.le_refl _, by unfold maxLen; omega, by simp [Rg.big]; omega, fun _ => ⟨w.heap.size, 0, rfl, by simp, fun i hi => ?_⟩⟩, (Rg.Fresh.mk _ _ _ _).mono hB, hl, fun i a b => ⟨(h i a b).1.below ((Below.refl _ _).alloc (Nat.le_refl _) _), (h i a b).2⟩⟩
  rw [Nat.zero_add, Rg.cellNew]
  simp only [List.getElem?_toArray]
  exact List.getElem?_eq_getElem hi
theorem run_buildP3 (X : World) (u v x : Value) (hu : ∃ a n c, u = .slice a n c) (hv : ∃ a n c, v = .slice a n c) (hx : ∃ a n c, x = .slice a n c) : (Instr.buildSlice 22 3 #[(0, u), (1, v), (2, x)]).run Try.prog X = .ok (.slice (some ⟨X.heap.size, 0, none⟩) 3 3) (X.alloc (.cells #[u, v, x] 39)) := by
  obtain ⟨i0, hi, hz0, hz1, hz2⟩ := info_parts infoPerm
  obtain ⟨a, n, c, rfl⟩ := hu
  obtain ⟨a', n', c', rfl⟩ := hv
  obtain ⟨a2, n2, c2, rfl⟩ := hx
  refine run_buildSlice X 22 39 3 _ _ i0 _ Try.underlying22 hi hz0 (by rw [hz1]; decide) (by rw [hz1]; decide) ?_
  generalize (fun x => ((Value.slice none 0 0).cells)[x % (Value.slice none 0 0).cells.size]!) = f
  rw [hz1]
  have h1 : Array.range (3 * 1) = #[0, 1, 2] := rfl
  simp [Instr.fill, Value.cells, h1]

theorem szInt : (Try.prog.info? 3).map (·.size) = some 1 := by kernel_rfl
theorem zInt : ((Try.prog.info? 3).bind (·.zero)).isSome = true := by kernel_rfl
/-- what the law's group functions answer -/
def GPost (d : Int) (ll : List (List Int)) (w : World) (e : Ending) (w' : World) : Prop :=
  ∃ a n c, e = .returned (.agg #[.int .i64 d, .slice a n c]) ∧ RowsF w.heap.size w' (.slice a n c) ll ∧ Below w.heap.size w w'

set_option maxHeartbeats 1000000 in
theorem rings_any (w : World) : Calls Try.prog 26 #[] w (GPost 5 [[1, 2, 0, 3, 4], [0, 1, 3, 4, 2]] w) := by
  go_enter Try.func26, Try.ntmps26
  go_upto_region 1 with (fail)
  generalize hW : w.alloc (.cells #[.int .i64 0, .slice none 0 0] 24) = W0
  have hsz : W0.heap.size = w.heap.size + 1 := by rw [← hW]; simp
  have hbW : Below w.heap.size w W0 := by rw [← hW]; exact (Below.refl _ _).alloc (Nat.le_refl _) _
  have hc1 : W0.cell? ⟨w.heap.size, 0, none⟩ = some (.int .i64 0) := by rw [← hW, Rg.cellNew]; rfl
  have hc2 : W0.cell? ⟨w.heap.size, 1, none⟩ = some (.slice none 0 0) := by rw [← hW, Rg.cellNew]; rfl
  have hf1 : ∀ o, W0.frozen? ⟨w.heap.size, o, none⟩ = false := fun o => by rw [← hW]; exact frozenNewN _ _ _ 0 _
  clear hW
  refine wp_region_list ?_
  have i1 := ints_new W0 3 [1, 2, 0, 3, 4] (by decide)
  have b1 : Below W0.heap.size W0 _ := (Below.refl W0.heap.size W0).alloc (Nat.le_refl _) (.cells (([1, 2, 0, 3, 4] : List Int).map (Value.int .i64)).toArray 3)
  refine Rg.list_run (some 1) rfl rfl (exec_flat _ _ 5 _ rfl [1, 2, 0, 3, 4] Try.underlying39 szInt zInt rfl (by decide) (by decide) rfl) ?_
  go_frame
  generalize W0.alloc (.cells (([1, 2, 0, 3, 4] : List Int).map (Value.int .i64)).toArray 3) = W1 at *
  have i2 := ints_new W1 3 [0, 1, 3, 4, 2] (by decide)
  have b2 : Below W1.heap.size W1 _ := (Below.refl W1.heap.size W1).alloc (Nat.le_refl _) (.cells (([0, 1, 3, 4, 2] : List Int).map (Value.int .i64)).toArray 3)
  refine Rg.list_run (some 2) rfl rfl (exec_flat _ _ 5 _ rfl [0, 1, 3, 4, 2] Try.underlying39 szInt zInt rfl (by decide) (by decide) rfl) ?_
  go_frame
  generalize W1.alloc (.cells (([0, 1, 3, 4, 2] : List Int).map (Value.int .i64)).toArray 3) = W2 at *
  have g3 := rowsF_new (B := w.heap.size + 1) (w := W2) 39 [.slice (some ⟨W0.heap.size, 0, none⟩) 5 5, .slice (some ⟨W1.heap.size, 0, none⟩) 5 5] [[1, 2, 0, 3, 4], [0, 1, 3, 4, 2]] rfl (by simp) (by
    have s1 := b1.size
    have s2 := b2.size
    intro i h h2
    match i, h, h2 with
    | 0, _, _ => exact ⟨(i1.below b2), (Rg.Fresh.mk _ _ _ _).mono (by omega)⟩
    | 1, _, _ => exact ⟨i2, (Rg.Fresh.mk _ _ _ _).mono (by omega)⟩) (by have s1 := b1.size; have s2 := b2.size; omega)
  have bz : Below W2.heap.size W2 _ := (Below.refl W2.heap.size W2).alloc (Nat.le_refl _) (.cells #[.slice (some ⟨W0.heap.size, 0, none⟩) 5 5, .slice (some ⟨W1.heap.size, 0, none⟩) 5 5] 39)
  refine Rg.list_run (some 3) rfl rfl (exec_buildP (u1 := .slice (some ⟨W0.heap.size, 0, none⟩) 5 5) (u2 := .slice (some ⟨W1.heap.size, 0, none⟩) 5 5) _ _ rfl rfl rfl (run_buildP2 _ _ _ ⟨_, _, _, rfl⟩ ⟨_, _, _, rfl⟩)) ?_
  go_frame
  have hb3 := (Rg.acc b1 (Rg.acc b2 bz))
  clear bz b1 i1 b2 i2
  have g4 : RowsF (w.heap.size + 1) (W2.alloc (.cells #[.slice (some ⟨W0.heap.size, 0, none⟩) 5 5, .slice (some ⟨W1.heap.size, 0, none⟩) 5 5] 39)) (.slice (some ⟨W2.heap.size, 0, none⟩) 2 2) [[1, 2, 0, 3, 4], [0, 1, 3, 4, 2]] := g3
  clear g3
  generalize W2.alloc (.cells #[.slice (some ⟨W0.heap.size, 0, none⟩) 5 5, .slice (some ⟨W1.heap.size, 0, none⟩) 5 5] 39) = Z at *
  refine Rg.list_run (some 4) rfl rfl (exec_buildG (d := 5) _ _ rfl rfl rfl) ?_
  go_frame
  obtain ⟨kc, kf⟩ := Rg.bcell hb3
  have lt1 : w.heap.size < W0.heap.size := by omega
  have r0 := (kc _ 0 lt1).trans hc1
  have r1 := (kc _ 1 lt1).trans hc2
  have rf := fun o => (kf _ o lt1).trans (hf1 o)
  obtain ⟨p0, p1, p2⟩ := group_set (.int .i64 5) (.slice (some ⟨W2.heap.size, 0, none⟩) 2 2) r0 r1 (Rg.acc hbW hb3) (by omega)
  have hR := ((g4.set w.heap.size 0 (.int .i64 5) (by omega)).set w.heap.size 1 (.slice (some ⟨W2.heap.size, 0, none⟩) 2 2) (by omega)).mono (B' := w.heap.size) (by omega)
  refine Rg.list_skip none rfl rfl (Rg.exec_store _ _ _ rfl _ rfl _ rfl (run_storeG 5 _ 2 2 r0 r1 (rf 0) (rf 1))) ?_
  go_frame
  generalize (Z.setCell ⟨w.heap.size, 0, none⟩ (.int .i64 5)).setCell ⟨w.heap.size, 1, none⟩ (.slice (some ⟨W2.heap.size, 0, none⟩) 2 2) = W6 at *
  have H := Lib.hid (And.intro p0 (And.intro p1 (And.intro p2 hR)))
  clear hc1 hc2 hf1 kc kf r0 r1 rf p0 p1 p2 hR g4
  go_wp2
  exact bodyPost_ret (results_cellG rfl _ rfl H.out.1 H.out.2.1) rfl ⟨_, _, _, rfl, H.out.2.2.2, H.out.2.2.1⟩

set_option maxHeartbeats 1000000 in
theorem cakes_any (w : World) : Calls Try.prog 25 #[] w (GPost 4 [[1, 0, 2, 3], [2, 1, 0, 3], [3, 2, 1, 0]] w) := by
  go_enter Try.func25, Try.ntmps25
  go_upto_region 1 with (fail)
  generalize hW : w.alloc (.cells #[.int .i64 0, .slice none 0 0] 24) = W0
  have hsz : W0.heap.size = w.heap.size + 1 := by rw [← hW]; simp
  have hbW : Below w.heap.size w W0 := by rw [← hW]; exact (Below.refl _ _).alloc (Nat.le_refl _) _
  have hc1 : W0.cell? ⟨w.heap.size, 0, none⟩ = some (.int .i64 0) := by rw [← hW, Rg.cellNew]; rfl
  have hc2 : W0.cell? ⟨w.heap.size, 1, none⟩ = some (.slice none 0 0) := by rw [← hW, Rg.cellNew]; rfl
  have hf1 : ∀ o, W0.frozen? ⟨w.heap.size, o, none⟩ = false := fun o => by rw [← hW]; exact frozenNewN _ _ _ 0 _
  clear hW
  refine wp_region_list ?_
  have i1 := ints_new W0 3 [1, 0, 2, 3] (by decide)
  have b1 : Below W0.heap.size W0 _ := (Below.refl W0.heap.size W0).alloc (Nat.le_refl _) (.cells (([1, 0, 2, 3] : List Int).map (Value.int .i64)).toArray 3)
  refine Rg.list_run (some 1) rfl rfl (exec_flat _ _ 4 _ rfl [1, 0, 2, 3] Try.underlying39 szInt zInt rfl (by decide) (by decide) rfl) ?_
  go_frame
  generalize W0.alloc (.cells (([1, 0, 2, 3] : List Int).map (Value.int .i64)).toArray 3) = W1 at *
  have i2 := ints_new W1 3 [2, 1, 0, 3] (by decide)
  have b2 : Below W1.heap.size W1 _ := (Below.refl W1.heap.size W1).alloc (Nat.le_refl _) (.cells (([2, 1, 0, 3] : List Int).map (Value.int .i64)).toArray 3)
  refine Rg.list_run (some 2) rfl rfl (exec_flat _ _ 4 _ rfl [2, 1, 0, 3] Try.underlying39 szInt zInt rfl (by decide) (by decide) rfl) ?_
  go_frame
  generalize W1.alloc (.cells (([2, 1, 0, 3] : List Int).map (Value.int .i64)).toArray 3) = W2 at *
  have i3 := ints_new W2 3 [3, 2, 1, 0] (by decide)
  have b3 : Below W2.heap.size W2 _ := (Below.refl W2.heap.size W2).alloc (Nat.le_refl _) (.cells (([3, 2, 1, 0] : List Int).map (Value.int .i64)).toArray 3)
  refine Rg.list_run (some 3) rfl rfl (exec_flat _ _ 4 _ rfl [3, 2, 1, 0] Try.underlying39 szInt zInt rfl (by decide) (by decide) rfl) ?_
  go_frame
  generalize W2.alloc (.cells (([3, 2, 1, 0] : List Int).map (Value.int .i64)).toArray 3) = W3 at *
  have g3 := rowsF_new (B := w.heap.size + 1) (w := W3) 39 [.slice (some ⟨W0.heap.size, 0, none⟩) 4 4, .slice (some ⟨W1.heap.size, 0, none⟩) 4 4, .slice (some ⟨W2.heap.size, 0, none⟩) 4 4] [[1, 0, 2, 3], [2, 1, 0, 3], [3, 2, 1, 0]] rfl (by simp) (by
    have s1 := b1.size
    have s2 := b2.size
    have s3 := b3.size
    intro i h h2
    match i, h, h2 with
    | 0, _, _ => exact ⟨((i1.below b2).below b3), (Rg.Fresh.mk _ _ _ _).mono (by omega)⟩
    | 1, _, _ => exact ⟨(i2.below b3), (Rg.Fresh.mk _ _ _ _).mono (by omega)⟩
    | 2, _, _ => exact ⟨i3, (Rg.Fresh.mk _ _ _ _).mono (by omega)⟩) (by have s1 := b1.size; have s2 := b2.size; have s3 := b3.size; omega)
  have bz : Below W3.heap.size W3 _ := (Below.refl W3.heap.size W3).alloc (Nat.le_refl _) (.cells #[.slice (some ⟨W0.heap.size, 0, none⟩) 4 4, .slice (some ⟨W1.heap.size, 0, none⟩) 4 4, .slice (some ⟨W2.heap.size, 0, none⟩) 4 4] 39)
  refine Rg.list_run (some 4) rfl rfl (exec_build3 (u1 := .slice (some ⟨W0.heap.size, 0, none⟩) 4 4) (u2 := .slice (some ⟨W1.heap.size, 0, none⟩) 4 4) (u3 := .slice (some ⟨W2.heap.size, 0, none⟩) 4 4) _ _ _ _ _ rfl rfl rfl rfl (run_buildP3 _ _ _ _ ⟨_, _, _, rfl⟩ ⟨_, _, _, rfl⟩ ⟨_, _, _, rfl⟩)) ?_
  go_frame
  have hb3 := (Rg.acc b1 (Rg.acc b2 (Rg.acc b3 bz)))
  clear bz b1 i1 b2 i2 b3 i3
  have g4 : RowsF (w.heap.size + 1) (W3.alloc (.cells #[.slice (some ⟨W0.heap.size, 0, none⟩) 4 4, .slice (some ⟨W1.heap.size, 0, none⟩) 4 4, .slice (some ⟨W2.heap.size, 0, none⟩) 4 4] 39)) (.slice (some ⟨W3.heap.size, 0, none⟩) 3 3) [[1, 0, 2, 3], [2, 1, 0, 3], [3, 2, 1, 0]] := g3
  clear g3
  generalize W3.alloc (.cells #[.slice (some ⟨W0.heap.size, 0, none⟩) 4 4, .slice (some ⟨W1.heap.size, 0, none⟩) 4 4, .slice (some ⟨W2.heap.size, 0, none⟩) 4 4] 39) = Z at *
  refine Rg.list_run (some 5) rfl rfl (exec_buildG (d := 4) _ _ rfl rfl rfl) ?_
  go_frame
  obtain ⟨kc, kf⟩ := Rg.bcell hb3
  have lt1 : w.heap.size < W0.heap.size := by omega
  have r0 := (kc _ 0 lt1).trans hc1
  have r1 := (kc _ 1 lt1).trans hc2
  have rf := fun o => (kf _ o lt1).trans (hf1 o)
  obtain ⟨p0, p1, p2⟩ := group_set (.int .i64 4) (.slice (some ⟨W3.heap.size, 0, none⟩) 3 3) r0 r1 (Rg.acc hbW hb3) (by omega)
  have hR := ((g4.set w.heap.size 0 (.int .i64 4) (by omega)).set w.heap.size 1 (.slice (some ⟨W3.heap.size, 0, none⟩) 3 3) (by omega)).mono (B' := w.heap.size) (by omega)
  refine Rg.list_skip none rfl rfl (Rg.exec_store _ _ _ rfl _ rfl _ rfl (run_storeG 4 _ 3 3 r0 r1 (rf 0) (rf 1))) ?_
  go_frame
  generalize (Z.setCell ⟨w.heap.size, 0, none⟩ (.int .i64 4)).setCell ⟨w.heap.size, 1, none⟩ (.slice (some ⟨W3.heap.size, 0, none⟩) 3 3) = W6 at *
  have H := Lib.hid (And.intro p0 (And.intro p1 (And.intro p2 hR)))
  clear hc1 hc2 hf1 kc kf r0 r1 rf p0 p1 p2 hR g4
  go_wp2
  exact bodyPost_ret (results_cellG rfl _ rfl H.out.1 H.out.2.1) rfl ⟨_, _, _, rfl, H.out.2.2.2, H.out.2.2.1⟩

end Go.Proofs.Ytjifdmfoijoekaa.Rj

