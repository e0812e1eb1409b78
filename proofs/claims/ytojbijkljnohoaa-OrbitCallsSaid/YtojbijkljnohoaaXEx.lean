/- Lemmas and contracts on the way to the statement; no condition of their own beyond those written. -/
import Derived.Test.YtojbijkljnohoaaXRwSiRv
import Derived.Test.YtojbijkljnohoaaXPePfPgPh
import Derived.Deep.CutRange
import Derived.Deep.CutBlock
import Derived.IntWalk
import Derived.Great.BuildSlice
set_option linter.unusedVariables false
/-! Operations one by one; groups in two cells; rows. -/
namespace Go.Proofs.Ytojbijkljnohoaa
open Go.RowKit
open Go.Proofs
attribute [local irreducible] Go.Calls

theorem slInts : Rg.SlT Try.prog 33 3 (.int .i64 0) 8 := ⟨Try.underlying33, infoInt, rfl, by decide⟩

theorem infoPerm : (Try.prog.info? 62).map (fun i => (i.zero, i.size, i.bytes)) = some (some (.slice none 0 0), 1, 24) := by kernel_rfl

theorem slPerms : Rg.SlT Try.prog 22 62 (.slice none 0 0) 24 := ⟨Try.underlying22, infoPerm, rfl, by decide⟩

theorem run_loadInt {w : World} {ad : Addr} {v : Value} (h : w.cell? ad = some v) : (loadVar 3 ad).run Try.prog w = .ok v w := by
  simp [loadVar, isAgg, run_underlying Try.underlying3, load]
  simp [Sem.run, h]

theorem run_buildP2 (X : World) (u v : Value) (hu : ∃ a n c, u = .slice a n c) (hv : ∃ a n c, v = .slice a n c) : (Instr.buildSlice 22 2 #[(0, u), (1, v)]).run Try.prog X = .ok (.slice (some ⟨X.heap.size, 0, none⟩) 2 2) (X.alloc (.cells #[u, v] 62)) := by
  obtain ⟨i0, hi, hz0, hz1, hz2⟩ := info_parts infoPerm
  obtain ⟨a, n, c, rfl⟩ := hu
  obtain ⟨a', n', c', rfl⟩ := hv
  refine run_buildSlice X 22 62 2 _ _ i0 _ Try.underlying22 hi hz0 (by rw [hz1]; decide) (by rw [hz1]; decide) ?_
  generalize (fun x => ((Value.slice none 0 0).cells)[x % (Value.slice none 0 0).cells.size]!) = f
  rw [hz1]
  have h1 : Array.range (2 * 1) = #[0, 1] := rfl
  simp [Instr.fill, Value.cells, h1]

/-- rows whose blocks all lie from block B on -/
def RowsF (B : Nat) (w : World) (v : Value) (ll : List (List Int)) : Prop :=
  ∃ us, Rg.Vals w v us ∧ Rg.Fresh B v ∧ us.length = ll.length ∧ ∀ i (h : i < us.length) (h2 : i < ll.length), Rg.Ints w us[i] ll[i] ∧ Rg.Fresh B us[i]

theorem RowsF.rows {B : Nat} {w : World} {v : Value} {ll : List (List Int)} (h : RowsF B w v ll) : Rg.Rows w v ll := by
  obtain ⟨us, h1, _, h3, h4⟩ := h
  exact ⟨us, h1, h3, fun i a b => (h4 i a b).1⟩

theorem RowsF.mono {B B' : Nat} {w : World} {v : Value} {ll : List (List Int)} (h : RowsF B w v ll) (hb : B' ≤ B) : RowsF B' w v ll := by
  obtain ⟨us, h1, h2, h3, h4⟩ := h
  exact ⟨us, h1, h2.mono hb, h3, fun i a b => ⟨(h4 i a b).1, (h4 i a b).2.mono hb⟩⟩

theorem vals_keep {B : Nat} {w w' : World} {v : Value} {us : List Value} (h : Rg.Vals w v us) (hf : Rg.Fresh B v) (hs : w.heap.size ≤ w'.heap.size) (hk : ∀ b o, B ≤ b → b < w.heap.size → w'.cell? ⟨b, o, none⟩ = w.cell? ⟨b, o, none⟩) : Rg.Vals w' v us := by
  obtain ⟨a, cap, h1, h2, h3, h4, h5⟩ := h
  refine ⟨a, cap, h1, h2, h3, h4, fun h0 => ?_⟩
  obtain ⟨b, o, e1, e2, e3⟩ := h5 h0
  have hB : B ≤ b := by
    subst e1
    exact hf _ _ _ h1
  exact ⟨b, o, e1, Nat.lt_of_lt_of_le e2 hs, fun i hi => (hk b _ hB e2).trans (e3 i hi)⟩

theorem RowsF.keep {B : Nat} {w w' : World} {v : Value} {ll : List (List Int)} (h : RowsF B w v ll) (hs : w.heap.size ≤ w'.heap.size) (hk : ∀ b o, B ≤ b → b < w.heap.size → w'.cell? ⟨b, o, none⟩ = w.cell? ⟨b, o, none⟩) : RowsF B w' v ll := by
  obtain ⟨us, h1, h2, h3, h4⟩ := h
  exact ⟨us, vals_keep h1 h2 hs hk, h2, h3, fun i a b => ⟨vals_keep (h4 i a b).1 (h4 i a b).2 hs hk, (h4 i a b).2⟩⟩

theorem RowsF.below {B : Nat} {w w' : World} {v : Value} {ll : List (List Int)} (h : RowsF B w v ll) (hb : Below w.heap.size w w') : RowsF B w' v ll :=
  h.keep hb.size fun b o _ h2 => hb.cell (p := ⟨b, o, none⟩) h2

theorem RowsF.set {B : Nat} {w : World} {v : Value} {ll : List (List Int)} (h : RowsF B w v ll) (b o : Nat) (u : Value) (hb : b < B) : RowsF B (w.setCell ⟨b, o, none⟩ u) v ll := by
  refine h.keep (by simp) fun b2 o2 h1 h2 => ?_
  exact World.cell?_setCell_other (h := by intro e; injection e with e1; omega) ..

theorem RowsF.two {B : Nat} {w : World} {v v' : Value} {l l' : List Int} (t : TypeId) (h : Rg.Ints w v l) (h' : Rg.Ints w v' l') (f : Rg.Fresh B v) (f' : Rg.Fresh B v') (hB : B ≤ w.heap.size) : RowsF B (w.alloc (.cells #[v, v'] t)) (.slice (some ⟨w.heap.size, 0, none⟩) 2 2) [l, l'] := by
  obtain ⟨us, h1, h2, h3⟩ := Rg.Rows.two t h h'
  refine ⟨[v, v'], ⟨_, 2, rfl, by simp, by unfold maxLen; simp, by simp [Rg.big], fun _ => ⟨w.heap.size, 0, rfl, by simp, fun i hi => ?_⟩⟩, (Rg.Fresh.mk _ _ _ _).mono hB, rfl, fun i h1 h2 => ?_⟩
  · have hi' : i = 0 ∨ i = 1 := by simp at hi; omega
    rcases hi' with rfl | rfl
    all_goals
      rw [Rg.cellNew]; rfl
  · have hi' : i = 0 ∨ i = 1 := by simp at h1; omega
    rcases hi' with rfl | rfl
    · exact ⟨Rg.Ints.below h ((Below.refl _ _).alloc (Nat.le_refl _) _), f⟩
    · exact ⟨Rg.Ints.below h' ((Below.refl _ _).alloc (Nat.le_refl _) _), f'⟩

theorem cellNewN (w : World) (cs : Array Value) (t : TypeId) (n j : Nat) : ((w.alloc (.cells cs t)).drewN n).cell? ⟨w.heap.size, j, none⟩ = cs[j]? := Rg.cellNew w cs t j

theorem infoGroup : (Try.prog.info? 24).map (fun i => (i.zero, i.size, i.bytes)) = some (some (.agg #[.int .i64 0, .slice none 0 0]), 2, 32) := by kernel_rfl

/-- the store of a group into a cell pair -/
theorem run_storeG {w : World} {b : Nat} {u1 u2 : Value} (d : Int) (a : Option Addr) (n c : Nat) (h1 : w.cell? ⟨b, 0, none⟩ = some u1) (h2 : w.cell? ⟨b, 1, none⟩ = some u2) (f1 : w.frozen? ⟨b, 0, none⟩ = false) (f2 : w.frozen? ⟨b, 1, none⟩ = false) :
    (storeVar 24 ⟨b, 0, none⟩ (.agg #[.int .i64 d, .slice a n c])).run Try.prog w = .ok () ((w.setCell ⟨b, 0, none⟩ (.int .i64 d)).setCell ⟨b, 1, none⟩ (.slice a n c)) := by
  obtain ⟨i0, hi, hz0, hz1, hz2⟩ := info_parts infoGroup
  have g2 : (w.setCell ⟨b, 0, none⟩ (.int .i64 d)).cell? ⟨b, 1, none⟩ = some u2 := by
    rw [World.cell?_setCell_other (h := by intro e; injection e with e1 e2; omega) ..]
    exact h2
  have gf : (w.setCell ⟨b, 0, none⟩ (.int .i64 d)).frozen? ⟨b, 1, none⟩ = false := by rw [World.frozen?_setCell]; exact f2
  have ha0 : (⟨b, 0, none⟩ : Addr).add 0 = ⟨b, 0, none⟩ := by simp [Addr.add]
  have ha1 : (⟨b, 0, none⟩ : Addr).add 1 = ⟨b, 1, none⟩ := by simp [Addr.add]
  simp [storeVar, sizeOf, typeInfo, hi, hz1, Value.cells, storeCells, store, ha0, ha1]
  simp [Sem.run, h1, f1, g2, gf]

/-- the load of a group -/
theorem run_loadG {w : World} {b : Nat} {x y : Value} (h1 : w.cell? ⟨b, 0, none⟩ = some x) (h2 : w.cell? ⟨b, 1, none⟩ = some y) : (loadVar 24 ⟨b, 0, none⟩).run Try.prog w = .ok (.agg #[x, y]) w := by
  obtain ⟨i0, hi, hz0, hz1, hz2⟩ := info_parts infoGroup
  have ha0 : (⟨b, 0, none⟩ : Addr).add 0 = ⟨b, 0, none⟩ := by simp [Addr.add]
  have ha1 : (⟨b, 0, none⟩ : Addr).add 1 = ⟨b, 1, none⟩ := by simp [Addr.add]
  have hg : (isAgg 24).run Try.prog w = .ok true w := by kernel_rfl
  simp [loadVar, hg, sizeOf, typeInfo, hi, hz1, loadCells, loadCellsFrom, load, ha0, ha1]
  simp [Sem.run, h1, h2]

theorem results_cellG {fn : Func} {p : Tmp} (h : fn.results = #[.cell p 24]) (tmps : Array Value) {w : World} {b : Nat} {x y : Value} (hp : tmps.getD p undef = .pointer (some ⟨b, 0, none⟩)) (h1 : w.cell? ⟨b, 0, none⟩ = some x) (h2 : w.cell? ⟨b, 1, none⟩ = some y) :
    (results fn tmps).run Try.prog w = .ok (.agg #[x, y]) w := by
  have hp' : tmps[p]?.getD undef = .pointer (some ⟨b, 0, none⟩) := by simpa using hp
  simp [results, h, hp', asAddr, run_loadG h1 h2]

theorem results_cellG2 {fn : Func} {p u : Tmp} (h : fn.results = #[.cell p 24, .tmp u]) (tmps : Array Value) {w : World} {b : Nat} {x y z : Value} (hp : tmps.getD p undef = .pointer (some ⟨b, 0, none⟩)) (hu : tmps.getD u undef = z) (h1 : w.cell? ⟨b, 0, none⟩ = some x) (h2 : w.cell? ⟨b, 1, none⟩ = some y) :
    (results fn tmps).run Try.prog w = .ok (.tuple #[.agg #[x, y], z]) w := by
  rw [results_cell_tmp h, hp, hu]
  simp [asAddr, run_loadG h1 h2, Result.andThen]

theorem exec_buildP {o : Oper} {a : Act} {w w' : World} {v u1 u2 : Value} (x y : Operand) (ho : o.op = .buildSlice 22 2 #[(0, x), (1, y)]) (hx : a.eval x = u1) (hy : a.eval y = u2)
    (hr : (Instr.buildSlice 22 2 #[(0, u1), (1, u2)]).run Try.prog w = .ok v w') : (execOp a.eval o).run Try.prog w = .ok (.value v) w' := by
  subst hx hy
  unfold execOp
  simp only [ho, Sem.run_bind, Sem.run_pure]
  simp only [List.map_toArray, List.map_cons, List.map_nil]
  rw [hr]
  rfl

theorem exec_buildG {o : Oper} {a : Act} {w : World} {d : Int} {ad : Option Addr} {n c : Nat} (x y : Operand) (ho : o.op = .build 24 #[(0, x), (1, y)]) (hx : a.eval x = .int .i64 d) (hy : a.eval y = .slice ad n c) :
    (execOp a.eval o).run Try.prog w = .ok (.value (.agg #[.int .i64 d, .slice ad n c])) w := by
  unfold execOp
  simp only [ho, Sem.run_bind, Sem.run_pure]
  simp only [List.map_toArray, List.map_cons, List.map_nil, hx, hy]
  have h : (Instr.build 24 #[(0, .int .i64 d), (1, .slice ad n c)]).run Try.prog w = .ok (.agg #[.int .i64 d, .slice ad n c]) w := by kernel_rfl
  rw [h]
  rfl

theorem group_set {w W : World} {b : Nat} {u1 u2 : Value} (x y : Value) (h1 : W.cell? ⟨b, 0, none⟩ = some u1) (h2 : W.cell? ⟨b, 1, none⟩ = some u2) {B : Nat} (hb : Below B w W) (hB : B ≤ b := by omega) :
    ((W.setCell ⟨b, 0, none⟩ x).setCell ⟨b, 1, none⟩ y).cell? ⟨b, 0, none⟩ = some x ∧ ((W.setCell ⟨b, 0, none⟩ x).setCell ⟨b, 1, none⟩ y).cell? ⟨b, 1, none⟩ = some y ∧ Below B w ((W.setCell ⟨b, 0, none⟩ x).setCell ⟨b, 1, none⟩ y) := by
  have g2 : (W.setCell ⟨b, 0, none⟩ x).cell? ⟨b, 1, none⟩ = some u2 := by
    rw [World.cell?_setCell_other (h := by intro e; injection e with e1 e2; omega) ..]
    exact h2
  refine ⟨?_, World.cell?_setCell_same (h := g2) .., (hb.setCell hB _).setCell hB _⟩
  rw [World.cell?_setCell_other (h := by intro e; injection e with e1 e2; omega) ..]
  exact World.cell?_setCell_same (h := h1) ..

theorem npf_open {w w' : World} {v : Value} {l : List Nat} (h : Rg.NPF w w' v l) : ∃ a n c, v = .slice a n c ∧ Hid (Rg.NPF w w' (.slice a n c) l) := by
  obtain ⟨a, c, rfl, _⟩ := h.1.shape
  exact ⟨a, _, c, rfl, Lib.hid h⟩

theorem frozenNewN (w : World) (cs : Array Value) (t : TypeId) (n j : Nat) : ((w.alloc (.cells cs t)).drewN n).frozen? ⟨w.heap.size, j, none⟩ = false := by
  have h : (w.alloc (.cells cs t)).frozen? ⟨w.heap.size, j, none⟩ = false := by simp
  exact h

theorem list_ask {P : Program} {ops : Array Oper} {rest : List Oper} {o : Oper} {a : Act} {w : World} {Q : Exit → Act → World → Prop} (d : Option Tmp) (hg : o.guard = none) (hd : o.dst = d) (f : FuncId) (args : Array Value)
    (hr : (execOp a.eval o).run P w = .ok (.enter f args) w) (hc : Calls P f args w fun e w' => ∃ v, e = .returned v ∧ wpList P ops Q rest (a.put d v) w') : wpList P ops Q (o :: rest) a w := by
  subst hd
  refine wpList_plain hg fun K hK => ?_
  unfold Oper.wp
  rw [hr, Oper.upon_enter]
  refine hc.mono fun e w' ⟨v, h1, h2⟩ => ?_
  subst h1
  exact hK _ _ h2

theorem exec_allocG {o : Oper} {a : Act} {w : World} (ho : o.op = .alloc 24) : (execOp a.eval o).run Try.prog w = .ok (.value (.pointer (some ⟨w.heap.size, 0, none⟩))) (w.alloc (.cells #[.int .i64 0, .slice none 0 0] 24)) := by
  obtain ⟨i0, hi, hz0, hz1, hz2⟩ := info_parts infoGroup
  unfold execOp
  simp [ho, Instr.alloc, typeInfo, zeroValue, hi, hz0, newVar, Value.cells, Result.andThen]
  rfl

theorem intsInfo : (Try.prog.info? 3).map (fun i => (i.zero, i.size, i.bytes)) = some (some (.int .i64 0), 1, 8) := by kernel_rfl

theorem exec_fn {o : Oper} {a : Act} {w : World} {u1 u2 : Value} (F : FuncId) (x y : Operand) (tys : Array TypeId) (ho : o.op = .call { callee := .value (.func F), args := #[x, y], argTypes := tys }) (hx : a.eval x = u1) (hy : a.eval y = u2)
    (hF : (callFunc F #[u1, u2]).run Try.prog w = .ok (.enter F #[u1, u2]) w) : (execOp a.eval o).run Try.prog w = .ok (.enter F #[u1, u2]) w := by
  unfold execOp
  have hf : a.eval (.func F) = .func (.func F) #[] #[] := rfl
  simp [ho, hx, hy, hf, resolve, invoke, Deferred.ofValue, hF]

theorem exec_extract {o : Oper} {a : Act} {w : World} (x : Operand) (i : Nat) (ho : o.op = .extract x i) {vs : Array Value} {v : Value} (hx : a.eval x = .tuple vs) (hv : vs[i]? = some v) : (execOp a.eval o).run Try.prog w = .ok (.value v) w := by
  unfold execOp
  simp [ho, hx, hv, Instr.extract]

theorem exec_flat {o : Oper} {a : Act} {w : World} (t e : TypeId) (len : Nat) (parts : Array (Nat × Operand)) (ho : o.op = .buildSlice t len parts) (zs : List Int)
    (hu : Try.prog.underlying t = some (.slice e)) (hsz : (Try.prog.info? e).map (·.size) = some 1) (hz : ((Try.prog.info? e).bind (·.zero)).isSome = true)
    (hlen : len = zs.length) (hpos : 0 < len) (hsmall : len ≤ 2 ^ 24)
    (hparts : parts.toList = (zs.zipIdx 0).map fun x => (x.2, Operand.const (Value.int .i64 x.1))) :
    (execOp a.eval o).run Try.prog w = .ok (.value (.slice (some ⟨w.heap.size, 0, none⟩) len len)) (w.alloc (.cells (zs.map (Value.int .i64)).toArray e)) := by
  cases hie : Try.prog.info? e with
  | none => simp [hie] at hsz
  | some ie =>
    simp only [hie, Option.map_some, Option.some.injEq, Option.bind_some] at hsz hz
    obtain ⟨z, hzz⟩ := Option.isSome_iff_exists.1 hz
    have h1 := run_buildSlice w t e len (parts.map fun (i, x) => (i, a.eval x)) ((zs.map (Value.int .i64)).toArray) ie z hu hie hzz (by rw [hsz]; omega) (by rw [hsz]; omega) (by
      rw [parts_eval a parts .i64 zs hparts, hsz]
      exact Great.fill_flat _ _ (fun v hv => by obtain ⟨n, _, rfl⟩ := List.mem_map.1 hv; rfl) (by simp [hlen]))
    unfold execOp
    simp only [ho, Sem.run_bind, h1, Result.andThen_ok, Sem.run_pure]

theorem ints_new (w : World) (t : TypeId) (zs : List Int) (hl : zs.length ≤ 1000) : Rg.Ints (w.alloc (.cells (zs.map (Value.int .i64)).toArray t)) (.slice (some ⟨w.heap.size, 0, none⟩) zs.length zs.length) zs := by
  refine ⟨_, zs.length, by simp, by simp, by unfold maxLen; omega, by simp [Rg.big]; omega, fun _ => ⟨w.heap.size, 0, rfl, by simp, fun i hi => ?_⟩⟩
  rw [Nat.zero_add, Rg.cellNew]
  simp only [List.getElem?_toArray]
  exact List.getElem?_eq_getElem hi

theorem rowsF_new {B : Nat} {w : World} (t : TypeId) (us : List Value) (ll : List (List Int)) (hl : us.length = ll.length) (h1 : us.length ≤ 1000) (h : ∀ i (h : i < us.length) (h2 : i < ll.length), Rg.Ints w us[i] ll[i] ∧ Rg.Fresh B us[i]) (hB : B ≤ w.heap.size) :
    RowsF B (w.alloc (.cells us.toArray t)) (.slice (some ⟨w.heap.size, 0, none⟩) us.length us.length) ll := by
  refine ⟨us, ⟨_, us.length, rfl, Nat.le_refl _, by unfold maxLen; omega, by simp [Rg.big]; omega, fun _ => ⟨w.heap.size, 0, rfl, by simp, fun i hi => ?_⟩⟩, (Rg.Fresh.mk _ _ _ _).mono hB, hl, fun i a b => ⟨(h i a b).1.below ((Below.refl _ _).alloc (Nat.le_refl _) _), (h i a b).2⟩⟩
  rw [Nat.zero_add, Rg.cellNew]
  simp only [List.getElem?_toArray]
  exact List.getElem?_eq_getElem hi

theorem szInt : (Try.prog.info? 3).map (·.size) = some 1 := by kernel_rfl

theorem zInt : ((Try.prog.info? 3).bind (·.zero)).isSome = true := by kernel_rfl

theorem exec_fn0 {o : Oper} {a : Act} {w : World} (F : FuncId) (tys : Array TypeId) (ho : o.op = .call { callee := .value (.func F), args := #[], argTypes := tys })
    (hF : (callFunc F #[]).run Try.prog w = .ok (.enter F #[]) w) : (execOp a.eval o).run Try.prog w = .ok (.enter F #[]) w := by
  unfold execOp
  have hf : a.eval (.func F) = .func (.func F) #[] #[] := rfl
  simp [ho, hf, resolve, invoke, Deferred.ofValue, hF]

theorem exec_fn3 {o : Oper} {a : Act} {w : World} {u1 u2 u3 : Value} (F : FuncId) (x y z : Operand) (tys : Array TypeId) (ho : o.op = .call { callee := .value (.func F), args := #[x, y, z], argTypes := tys }) (hx : a.eval x = u1) (hy : a.eval y = u2) (hz : a.eval z = u3)
    (hF : (callFunc F #[u1, u2, u3]).run Try.prog w = .ok (.enter F #[u1, u2, u3]) w) : (execOp a.eval o).run Try.prog w = .ok (.enter F #[u1, u2, u3]) w := by
  unfold execOp
  have hf : a.eval (.func F) = .func (.func F) #[] #[] := rfl
  simp [ho, hx, hy, hz, hf, resolve, invoke, Deferred.ofValue, hF]

theorem exec_fn4 {o : Oper} {a : Act} {w : World} {u1 u2 u3 u4 : Value} (F : FuncId) (x y z t : Operand) (tys : Array TypeId) (ho : o.op = .call { callee := .value (.func F), args := #[x, y, z, t], argTypes := tys }) (hx : a.eval x = u1) (hy : a.eval y = u2) (hz : a.eval z = u3) (ht : a.eval t = u4)
    (hF : (callFunc F #[u1, u2, u3, u4]).run Try.prog w = .ok (.enter F #[u1, u2, u3, u4]) w) : (execOp a.eval o).run Try.prog w = .ok (.enter F #[u1, u2, u3, u4]) w := by
  unfold execOp
  have hf : a.eval (.func F) = .func (.func F) #[] #[] := rfl
  simp [ho, hx, hy, hz, ht, hf, resolve, invoke, Deferred.ofValue, hF]

theorem exec_pickT {o : Oper} {a : Act} {w : World} {v : Value} (x y z : Operand) (ho : o.op = .pick x y z) (hx : a.eval x = .bool true) (hy : a.eval y = v) : (execOp a.eval o).run Try.prog w = .ok (.value v) w := by
  unfold execOp
  simp [ho, hx, hy, asBool]

theorem exec_fn1 {o : Oper} {a : Act} {w : World} {u1 : Value} (F : FuncId) (x : Operand) (tys : Array TypeId) (ho : o.op = .call { callee := .value (.func F), args := #[x], argTypes := tys }) (hx : a.eval x = u1)
    (hF : (callFunc F #[u1]).run Try.prog w = .ok (.enter F #[u1]) w) : (execOp a.eval o).run Try.prog w = .ok (.enter F #[u1]) w := by
  unfold execOp
  have hf : a.eval (.func F) = .func (.func F) #[] #[] := rfl
  simp [ho, hx, hf, resolve, invoke, Deferred.ofValue, hF]

theorem exec_index0 {o : Oper} {a : Act} {w : World} (x y : Operand) (ho : o.op = .indexAddr 62 x y) (b len cap i : Nat) (hx : a.eval x = .slice (some ⟨b, 0, none⟩) len cap) (hy : a.eval y = .int .i64 (i : Int)) (hi : i < len) :
    (execOp a.eval o).run Try.prog w = .ok (.value (.pointer (some ⟨b, i, none⟩))) w := by
  have := Rg.run_indexSl slPerm w b 0 len cap i hi
  rw [Nat.zero_add] at this
  unfold execOp
  simp only [ho, hx, hy, Sem.run_bind, Sem.run_pure, Result.andThen_ok, this]

theorem ints_set {w : World} {v : Value} {l : List Nat} {b o B : Nat} (h : Rg.NP w v l) (hf : Rg.Fresh B v) (hb : b < B) (x : Value) : Rg.NP (w.setCell ⟨b, o, none⟩ x) v l :=
  vals_keep h hf (by simp) fun b2 o2 h1 h2 => World.cell?_setCell_other (h := by intro e; injection e with e1; omega) ..

theorem exec_buildG1 {o : Oper} {a : Act} {w : World} {d : Int} (x : Operand) (ho : o.op = .build 24 #[(0, x)]) (hx : a.eval x = .int .i64 d) :
    (execOp a.eval o).run Try.prog w = .ok (.value (.agg #[.int .i64 d, .slice none 0 0])) w := by
  unfold execOp
  simp only [ho, Sem.run_bind, Sem.run_pure]
  simp only [List.map_toArray, List.map_cons, List.map_nil, hx]
  have h : (Instr.build 24 #[(0, .int .i64 d)]).run Try.prog w = .ok (.agg #[.int .i64 d, .slice none 0 0]) w := by kernel_rfl
  first | (rw [h]; rfl) | (erw [h]; rfl)

theorem exec_fieldG {o : Oper} {a : Act} {w : World} {b : Nat} (x : Operand) (ho : o.op = .fieldAddr 24 x 1) (hx : a.eval x = .pointer (some ⟨b, 0, none⟩)) :
    (execOp a.eval o).run Try.prog w = .ok (.value (.pointer (some ⟨b, 1, none⟩))) w := by
  have h : (Instr.fieldAt 24 (.pointer (some ⟨b, 0, none⟩)) 1).run Try.prog w = .ok (.pointer (some ⟨b, 1, none⟩)) w := by kernel_rfl
  unfold execOp
  simp only [ho, hx, Sem.run_bind, Sem.run_pure, h, Result.andThen_ok]

theorem exec_indexI {o : Oper} {a : Act} {w : World} (x y : Operand) (ho : o.op = .indexAddr 33 x y) (b len cap i : Nat) (hx : a.eval x = .slice (some ⟨b, 0, none⟩) len cap) (hy : a.eval y = .int .i64 (i : Int)) (hi : i < len) :
    (execOp a.eval o).run Try.prog w = .ok (.value (.pointer (some ⟨b, i, none⟩))) w := by
  have := Rg.run_indexSl slInts w b 0 len cap i hi
  rw [Nat.zero_add] at this
  unfold execOp
  simp only [ho, hx, hy, Sem.run_bind, Sem.run_pure, Result.andThen_ok, this]

theorem yields_indexI {ops : Array Oper} {S : World → Prop} {o : Oper} {a : Act} (x y : Operand) (hg : Region.wanted o (yielded ops a.tmps) = true) (ho : o.op = .indexAddr 33 x y) (b len cap i : Nat) (hx : a.eval x = .slice (some ⟨b, 0, none⟩) len cap) (hy : a.eval y = .int .i64 (i : Int)) (hi : i < len) :
    YieldsIf Try.prog ops S o (.pointer (some ⟨b, i, none⟩)) a := by
  have := Rg.yields_index (S := S) slInts x y hg ho b 0 len cap i hx hy hi
  rwa [Nat.zero_add] at this

/-- a group in two cells -/
def GrpAt (w : World) (b : Nat) (d : Int) (a : Option Addr) (n c : Nat) (ll : List (List Int)) : Prop :=
  b < w.heap.size ∧ w.cell? ⟨b, 0, none⟩ = some (.int .i64 d) ∧ w.cell? ⟨b, 1, none⟩ = some (.slice a n c) ∧ Rg.Rows w (.slice a n c) ll

theorem GrpAt.below {w w' : World} {b : Nat} {d : Int} {a : Option Addr} {n c : Nat} {ll : List (List Int)} (h : GrpAt w b d a n c ll) (hb : Below w.heap.size w w') : GrpAt w' b d a n c ll :=
  ⟨Nat.lt_of_lt_of_le h.1 hb.size, (hb.cell (p := ⟨b, 0, none⟩) h.1).trans h.2.1, (hb.cell (p := ⟨b, 1, none⟩) h.1).trans h.2.2.1, h.2.2.2.below hb⟩

theorem GrpAt.load {w : World} {b : Nat} {d : Int} {a : Option Addr} {n c : Nat} {ll : List (List Int)} (h : GrpAt w b d a n c ll) : (loadVar 24 ⟨b, 0, none⟩).run Try.prog w = .ok (.agg #[.int .i64 d, .slice a n c]) w := run_loadG h.2.1 h.2.2.1

theorem grpNew {W : World} (d : Int) {a : Option Addr} {n c : Nat} {ll : List (List Int)} (h : Rg.Rows W (.slice a n c) ll) :
    (storeVar 24 ⟨W.heap.size, 0, none⟩ (.agg #[.int .i64 d, .slice a n c])).run Try.prog (W.alloc (.cells #[.int .i64 0, .slice none 0 0] 24)) = .ok () (((W.alloc (.cells #[.int .i64 0, .slice none 0 0] 24)).setCell ⟨W.heap.size, 0, none⟩ (.int .i64 d)).setCell ⟨W.heap.size, 1, none⟩ (.slice a n c)) ∧
    GrpAt (((W.alloc (.cells #[.int .i64 0, .slice none 0 0] 24)).setCell ⟨W.heap.size, 0, none⟩ (.int .i64 d)).setCell ⟨W.heap.size, 1, none⟩ (.slice a n c)) W.heap.size d a n c ll ∧
    Below W.heap.size W (((W.alloc (.cells #[.int .i64 0, .slice none 0 0] 24)).setCell ⟨W.heap.size, 0, none⟩ (.int .i64 d)).setCell ⟨W.heap.size, 1, none⟩ (.slice a n c)) := by
  have n0 : (W.alloc (.cells #[.int .i64 0, .slice none 0 0] 24)).cell? ⟨W.heap.size, 0, none⟩ = some (.int .i64 0) := by rw [Rg.cellNew]; rfl
  have n1 : (W.alloc (.cells #[.int .i64 0, .slice none 0 0] 24)).cell? ⟨W.heap.size, 1, none⟩ = some (.slice none 0 0) := by rw [Rg.cellNew]; rfl
  obtain ⟨p0, p1, p2⟩ := group_set (B := W.heap.size) (.int .i64 d) (.slice a n c) n0 n1 ((Below.refl _ _).alloc (Nat.le_refl _) _) (Nat.le_refl _)
  exact ⟨run_storeG d a n c n0 n1 (frozenNewN _ _ _ 0 _) (frozenNewN _ _ _ 0 _), ⟨by simp, p0, p1, h.below p2⟩, p2⟩

theorem listW_run {P : Program} {ops : Array Oper} {rest : List Oper} {o : Oper} {a : Act} {w w' : World} {Q : Exit → Act → World → Prop} {v : Value} (d : Option Tmp) (hw : Region.wanted o (yielded ops a.tmps) = true) (hd : o.dst = d)
    (hr : (execOp a.eval o).run P w = .ok (.value v) w') (h : wpList P ops Q rest (a.put d v) w') : wpList P ops Q (o :: rest) a w := by
  subst hd
  unfold wpList
  rw [if_pos hw]
  left
  unfold Oper.wp
  rw [hr]
  exact h

theorem listW_ask {P : Program} {ops : Array Oper} {rest : List Oper} {o : Oper} {a : Act} {w : World} {Q : Exit → Act → World → Prop} (d : Option Tmp) (hw : Region.wanted o (yielded ops a.tmps) = true) (hd : o.dst = d) (f : FuncId) (args : Array Value)
    (hr : (execOp a.eval o).run P w = .ok (.enter f args) w) (hc : Calls P f args w fun e w' => ∃ v, e = .returned v ∧ wpList P ops Q rest (a.put d v) w') : wpList P ops Q (o :: rest) a w := by
  subst hd
  unfold wpList
  rw [if_pos hw]
  left
  unfold Oper.wp
  rw [hr, Oper.upon_enter]
  refine hc.mono fun e w' ⟨v, h1, h2⟩ => ?_
  subst h1
  exact h2

theorem exec_eqI {o : Oper} {a : Act} {w : World} {u v : Int} (x y : Operand) (ho : o.op = .binOp .eql 27 x y 27) (hx : a.eval x = .int .i64 u) (hy : a.eval y = .int .i64 v) (h : u = v) : (execOp a.eval o).run Try.prog w = .ok (.value (.bool true)) w := by
  subst h
  have h : (binOp .eql 27 (.int .i64 u) (.int .i64 u)).run Try.prog w = .ok (.bool true) w := by
    simp [binOp, Op.intCmp]
  have hg : (eqGuard .eql 27 x y (.int .i64 u) (.int .i64 u)).run Try.prog w = .ok () w := by
    simp [eqGuard]
  unfold execOp
  simp only [ho, hx, hy, Sem.run_bind, Sem.run_pure, hg, h, Result.andThen_ok]

theorem exec_sub {o : Oper} {a : Act} {w : World} {u v r : Int} (x y : Operand) (ho : o.op = .binOp .sub 3 x y 3) (hx : a.eval x = .int .i64 u) (hy : a.eval y = .int .i64 v) (h : u - v = r) (hb : -9223372036854775808 ≤ r ∧ r ≤ 9223372036854775807) : (execOp a.eval o).run Try.prog w = .ok (.value (.int .i64 r)) w := by
  have h1 : (binOp .sub 3 (.int .i64 u) (.int .i64 v)).run Try.prog w = .ok (.int .i64 r) w := by
    simp [binOp, Op.intArith, h, IntWalk.i64_in r hb]
  have hg : (eqGuard .sub 3 x y (.int .i64 u) (.int .i64 v)).run Try.prog w = .ok () w := by
    simp [eqGuard]
  unfold execOp
  simp only [ho, hx, hy, Sem.run_bind, Sem.run_pure, hg, h1, Result.andThen_ok]

theorem exec_neg {o : Oper} {a : Act} {w : World} {u r : Int} (x : Operand) (ho : o.op = .unOp .neg 3 x) (hx : a.eval x = .int .i64 u) (h : -u = r) (hb : -9223372036854775808 ≤ r ∧ r ≤ 9223372036854775807) : (execOp a.eval o).run Try.prog w = .ok (.value (.int .i64 r)) w := by
  have h1 : (Op.unary .neg (.int .i64 u)).run Try.prog w = .ok (.int .i64 r) w := by
    simp [Op.unary, Op.intArith, h, IntWalk.i64_in r hb]
  unfold execOp
  simp only [ho, hx, Sem.run_bind, Sem.run_pure, h1, Result.andThen_ok]

theorem exec_bin {o : Oper} {a : Act} {w : World} {u v : Int} {R : Value} (op : BinOp) (t : TypeId) (x y : Operand) (ho : o.op = .binOp op t x y t) (hx : a.eval x = .int .i64 u) (hy : a.eval y = .int .i64 v) (h1 : (binOp op t (.int .i64 u) (.int .i64 v)).run Try.prog w = .ok R w) : (execOp a.eval o).run Try.prog w = .ok (.value R) w := by
  have hg : (eqGuard op t x y (.int .i64 u) (.int .i64 v)).run Try.prog w = .ok () w := by
    simp [eqGuard]
  unfold execOp
  simp only [ho, hx, hy, Sem.run_bind, Sem.run_pure, hg, h1, Result.andThen_ok]

theorem b_mul {w : World} {u v r : Int} (t : TypeId) (h : u * v = r) (hb : -9223372036854775808 ≤ r ∧ r ≤ 9223372036854775807) : (binOp .mul t (.int .i64 u) (.int .i64 v)).run Try.prog w = .ok (.int .i64 r) w := by
  simp [binOp, Op.intArith, h, IntWalk.i64_in r hb]

theorem b_add {w : World} {u v r : Int} (t : TypeId) (h : u + v = r) (hb : -9223372036854775808 ≤ r ∧ r ≤ 9223372036854775807) : (binOp .add t (.int .i64 u) (.int .i64 v)).run Try.prog w = .ok (.int .i64 r) w := by
  simp [binOp, Op.intArith, h, IntWalk.i64_in r hb]

theorem b_sub {w : World} {u v r : Int} (t : TypeId) (h : u - v = r) (hb : -9223372036854775808 ≤ r ∧ r ≤ 9223372036854775807) : (binOp .sub t (.int .i64 u) (.int .i64 v)).run Try.prog w = .ok (.int .i64 r) w := by
  simp [binOp, Op.intArith, h, IntWalk.i64_in r hb]

theorem b_quo {w : World} {u v r : Int} (t : TypeId) (hv : v ≠ 0) (h : u.tdiv v = r) (hb : -9223372036854775808 ≤ r ∧ r ≤ 9223372036854775807) : (binOp .quo t (.int .i64 u) (.int .i64 v)).run Try.prog w = .ok (.int .i64 r) w := by
  simp [binOp, Op.intDiv, hv, h, IntWalk.i64_in r hb]

theorem b_neq {w : World} {u v : Int} (t : TypeId) (h : u = v) : (binOp .neq t (.int .i64 u) (.int .i64 v)).run Try.prog w = .ok (.bool false) w := by
  subst h
  simp [binOp, Op.intCmp]

theorem b_eql {w : World} {u v : Int} {b : Bool} (t : TypeId) (h : decide (u = v) = b) : (binOp .eql t (.int .i64 u) (.int .i64 v)).run Try.prog w = .ok (.bool b) w := by
  subst h
  simp [binOp, Op.intCmp]
  rfl

theorem b_gtr {w : World} {u v : Int} {b : Bool} (t : TypeId) (h : decide (v < u) = b) : (binOp .gtr t (.int .i64 u) (.int .i64 v)).run Try.prog w = .ok (.bool b) w := by
  subst h
  simp [binOp, Op.intCmp]

theorem exec_not {o : Oper} {a : Act} {w : World} (x : Operand) (t : TypeId) (b : Bool) (ho : o.op = .unOp .not t x) (hx : a.eval x = .bool b) : (execOp a.eval o).run Try.prog w = .ok (.value (.bool !b)) w := by
  have h1 : (Op.unary .not (.bool b)).run Try.prog w = .ok (.bool !b) w := by
    simp [Op.unary]
  unfold execOp
  simp only [ho, hx, Sem.run_bind, Sem.run_pure, h1, Result.andThen_ok]

theorem exec_pickF {o : Oper} {a : Act} {w : World} {v : Value} (x y z : Operand) (ho : o.op = .pick x y z) (hx : a.eval x = .bool false) (hz : a.eval z = v) : (execOp a.eval o).run Try.prog w = .ok (.value v) w := by
  unfold execOp
  simp [ho, hx, hz, asBool]

theorem exec_len {o : Oper} {a : Act} {w : World} (e : TypeId) (x : Operand) (t : TypeId) (ho : o.op = .call { callee := .builtin .len, args := #[x], argTypes := #[t] }) (ht : Try.prog.underlying t = some (.slice e)) (ad : Option Addr) (n c : Nat) (hx : a.eval x = .slice ad n c) : (execOp a.eval o).run Try.prog w = .ok (.value (.int .i64 (n : Int))) w := by
  have hw : goInt (n : Int) = .int .i64 (n : Int) := rfl
  unfold execOp
  simp [ho, hx, resolve, invoke, builtin, Builtin.len_, run_underlying ht, Result.andThen, hw]

theorem exec_min {o : Oper} {a : Act} {w : World} {u v : Int} (x y : Operand) (tys : Array TypeId) (ho : o.op = .call { callee := .builtin .min, args := #[x, y], argTypes := tys }) (hx : a.eval x = .int .i64 u) (hy : a.eval y = .int .i64 v) : (execOp a.eval o).run Try.prog w = .ok (.value (.int .i64 (if v < u then v else u))) w := by
  unfold execOp
  simp [ho, hx, hy, resolve, invoke, builtin, Builtin.min_, Builtin.min2]

theorem listW_pass {P : Program} {ops : Array Oper} {rest : List Oper} {o : Oper} {a : Act} {w : World} {Q : Exit → Act → World → Prop} (d : Option Tmp) (hw : Region.wanted o (yielded ops a.tmps) = false) (hd : o.dst = d)
    (h : wpList P ops Q rest (a.put d undef) w) : wpList P ops Q (o :: rest) a w := by
  subst hd
  unfold wpList
  rw [if_neg (by rw [hw]; decide)]
  exact h

theorem selfT (l : List Int) : Hid (decide (l = l) = true) := Lib.hid (by simp)

theorem spot_none {w : World} {a : Addr} {v : Value} (h : w.cell? a = some v) : a.spot = none := by
  unfold World.cell? at h
  split at h
  · split at h
    · cases h
    · rename_i hs; simpa using hs
  · cases h

theorem add_none {a : Addr} {b o : Nat} (h : a = ⟨b, o, none⟩) (i : Nat) : a.add i = ⟨b, o + i, none⟩ := by
  subst h
  unfold Addr.add
  split
  · rename_i h0; subst h0; rfl
  · rfl

theorem cells39 : Try.prog.cellsOf 62 = 1 := by kernel_rfl

theorem cells3 : Try.prog.cellsOf 3 = 1 := by kernel_rfl

theorem cells24 : Try.prog.cellsOf 24 = 2 := by kernel_rfl

theorem lt_of_cell {w : World} {a : Addr} {v : Value} (h : w.cell? a = some v) : a.block < w.heap.size := by
  unfold World.cell? at h
  split at h
  · rename_i hh; exact (Array.getElem?_eq_some_iff.1 hh).1
  · cases h
end Go.Proofs.Ytojbijkljnohoaa

