/- Lemmas and contracts on the way to the statement; no condition of their own beyond those written. -/
import Derived.Test.YtjifdmfoijoekaaXSh
import Derived.Test.YtjifdmfoijoekaaXSi
import Derived.Deep.CutRange
import Derived.Deep.CutBlock
import Derived.Test.YtjifdmfoijoekaaXPePfPgPh
import Derived.Laws.OwnMore
import Derived.Test.YtjifdmfoijoekaaXPiPj
import Derived.Test.YtjifdmfoijoekaaXPyPwQa
set_option linter.unusedVariables false
/-! The law's awake. -/
namespace Go.Proofs.Ytjifdmfoijoekaa
open Go.RowKit
open Go.Proofs
open Go.Proofs.Ytjifdmfoijoekaa.Rj
attribute [local irreducible] Go.Calls

theorem rings331 (w : World) : Calls Try.prog 13 #[.int .i64 3, .int .i64 3, .int .i64 1] w (GroupPost 5 [[1, 2, 0, 3, 4], [0, 1, 3, 4, 2]] w) := by
  refine Rings_of 3 3 1 5 _ w fun W r hW hr h0 h1 h2 => ?_
  intro w' bp hb hbp hn
  have hR := build1_ok 3 3 1 w' bp r 3 hbp (Nat.lt_of_lt_of_le hr hb.size) hn ((hb.cell (p := ⟨r, 0, none⟩) hr).trans h0) ((hb.cell (p := ⟨r, 1, none⟩) hr).trans h1) ((hb.cell (p := ⟨r, 2, none⟩) hr).trans h2) (by decide) (by decide) (by decide) (by decide) (by decide) (by decide) (by decide)
  refine hR.mono ?_
  rintro e w1 ⟨v, rfl, hv, hb1⟩
  rw [aw1] at hv
  obtain ⟨a, c, rfl, _⟩ := hv.rows.shape
  exact ⟨a, _, c, rfl, hv, hb1⟩

theorem exec_fn0 {o : Oper} {a : Act} {w : World} (F : FuncId) (tys : Array TypeId) (ho : o.op = .call { callee := .value (.func F), args := #[], argTypes := tys })
    (hF : (callFunc F #[]).run Try.prog w = .ok (.enter F #[]) w) : (execOp a.eval o).run Try.prog w = .ok (.enter F #[]) w := by
  unfold execOp
  have hf : a.eval (.func F) = .func (.func F) #[] #[] := rfl
  simp [ho, hf, resolve, invoke, Deferred.ofValue, hF]
theorem exec_fn3 {o : Oper} {a : Act} {w : World} {u1 u2 u3 : Value} (F : FuncId) (x y z : Operand) (tys : Array TypeId) (ho : o.op = .call { callee := .value (.func F), args := #[x, y, z], argTypes := tys }) (hx : a.eval x = u1) (hy : a.eval y = u2) (hz : a.eval z = u3)
    (hF : (callFunc F #[u1, u2, u3]).run Try.prog w = .ok (.enter F #[u1, u2, u3]) w) : (execOp a.eval o).run Try.prog w = .ok (.enter F #[u1, u2, u3]) w := by
  unfold execOp
  have hf : a.eval (.func F) = .func (.func F) #[] #[] := rfl
  simp [ho, hx, hy, hz, hf, resolve, invoke, Deferred.ofValue, hF]
theorem exec_fn4 {o : Oper} {a : Act} {w : World} {u1 u2 u3 u4 : Value} (F : FuncId) (x y z t : Operand) (tys : Array TypeId) (ho : o.op = .call { callee := .value (.func F), args := #[x, y, z, t], argTypes := tys }) (hx : a.eval x = u1) (hy : a.eval y = u2) (hz : a.eval z = u3) (ht : a.eval t = u4)
    (hF : (callFunc F #[u1, u2, u3, u4]).run Try.prog w = .ok (.enter F #[u1, u2, u3, u4]) w) : (execOp a.eval o).run Try.prog w = .ok (.enter F #[u1, u2, u3, u4]) w := by
  unfold execOp
  have hf : a.eval (.func F) = .func (.func F) #[] #[] := rfl
  simp [ho, hx, hy, hz, ht, hf, resolve, invoke, Deferred.ofValue, hF]
theorem exec_pickT {o : Oper} {a : Act} {w : World} {v : Value} (x y z : Operand) (ho : o.op = .pick x y z) (hx : a.eval x = .bool true) (hy : a.eval y = v) : (execOp a.eval o).run Try.prog w = .ok (.value v) w := by
  unfold execOp
  simp [ho, hx, hy, asBool]
theorem exec_eqE {o : Oper} {a : Act} {w : World} (x y : Operand) (ho : o.op = .binOp .eql 28 x y 28) (hx : a.eval x = .int .i64 0) (hy : a.eval y = .int .i64 0) : (execOp a.eval o).run Try.prog w = .ok (.value (.bool true)) w := by
  unfold execOp
  simp only [ho, hx, hy]
  kernel_rfl
theorem cl1 (args : Array Value) (w : World) : (callFunc 13 args).run Try.prog w = .ok (.enter 13 args) w := by kernel_rfl
theorem cl2 (args : Array Value) (w : World) : (callFunc 25 args).run Try.prog w = .ok (.enter 25 args) w := by kernel_rfl
theorem cl3 (args : Array Value) (w : World) : (callFunc 26 args).run Try.prog w = .ok (.enter 26 args) w := by kernel_rfl
theorem cl4 (args : Array Value) (w : World) : (callFunc 10 args).run Try.prog w = .ok (.enter 10 args) w := by kernel_rfl
theorem cl5 (args : Array Value) (w : World) : (callFunc 19 args).run Try.prog w = .ok (.enter 19 args) w := by kernel_rfl
theorem cl6 (args : Array Value) (w : World) : (callFunc 31 args).run Try.prog w = .ok (.enter 31 args) w := by kernel_rfl
theorem cl7 (args : Array Value) (w : World) : (callFunc 12 args).run Try.prog w = .ok (.enter 12 args) w := by kernel_rfl

section
variable {ops : Array Oper} {Q : Exit → Act → World → Prop}
theorem does_run {i d : Nat} {I : World → Prop} {R : Value → World → Prop} {K : World → World → Prop} {oi : Oper} {b : Act} {W W' : World} {v : Value} (hi : ops[i]? = some oi) (hd : oi.dst = some d) (hw : Region.wanted oi (yielded ops b.tmps) = true)
    (hr : (execOp b.eval oi).run Try.prog W = .ok (.value v) W') (hp : I W' ∧ R v W' ∧ K W W') : Rg.Does Try.prog ops Q i d I R K b W :=
  Rg.wpOp_value (some d) hi hd hw hr ⟨v, rfl, hp⟩
theorem does_call {i d : Nat} {I : World → Prop} {R : Value → World → Prop} {K : World → World → Prop} {oi : Oper} {b : Act} {W : World} (hi : ops[i]? = some oi) (hd : oi.dst = some d) (hw : Region.wanted oi (yielded ops b.tmps) = true) (f : FuncId) (args : Array Value)
    (hr : (execOp b.eval oi).run Try.prog W = .ok (.enter f args) W) (hc : Calls Try.prog f args W fun e W' => ∃ v, e = .returned v ∧ I W' ∧ R v W' ∧ K W W') : Rg.Does Try.prog ops Q i d I R K b W := by
  unfold Rg.Does wpOp
  simp only [hi, hw, if_true]
  left
  unfold Oper.wp
  rw [hr, Oper.upon_enter]
  refine hc.mono fun e w' ⟨v, h1, h2⟩ => ?_
  subst h1
  exact ⟨v, by rw [hd], h2⟩
end
end Go.Proofs.Ytjifdmfoijoekaa

/-! slices.Reverse, puzzle.flip. -/
namespace Go.Proofs.Ytjifdmfoijoekaa.Rj
open Go.Proofs.Ytjifdmfoijoekaa
open Go.RowKit
open Go.Proofs
attribute [local irreducible] Go.Calls

theorem run_storeInt {w : World} {b o : Nat} {u : Value} (v : Int) (h : w.cell? ⟨b, o, none⟩ = some u) (hf : w.frozen? ⟨b, o, none⟩ = false) :
    (storeVar 3 ⟨b, o, none⟩ (.int .i64 v)).run Try.prog w = .ok () (w.setCell ⟨b, o, none⟩ (.int .i64 v)) := by
  obtain ⟨i0, hi, hz0, hz1, hz2⟩ := info_parts intsInfo
  have h0 : (⟨b, o, none⟩ : Addr).add 0 = ⟨b, o, none⟩ := by simp [Addr.add]
  simp [storeVar, sizeOf, typeInfo, hi, hz1, Value.cells, storeCells, store, h0]
  simp [Sem.run, h, hf]

theorem yields_index0 {ops : Array Oper} {S : World → Prop} {o : Oper} {a : Act} (x y : Operand) (hg : Region.wanted o (yielded ops a.tmps) = true) (ho : o.op = .indexAddr 39 x y) (b len cap i : Nat) (hx : a.eval x = .slice (some ⟨b, 0, none⟩) len cap) (hy : a.eval y = .int .i64 (i : Int)) (hi : i < len) :
    YieldsIf Try.prog ops S o (.pointer (some ⟨b, i, none⟩)) a := by
  have := Rg.yields_index (S := S) slPerm x y hg ho b 0 len cap i hx hy hi
  rwa [Nat.zero_add] at this
theorem exec_index0 {o : Oper} {a : Act} {w : World} (x y : Operand) (ho : o.op = .indexAddr 39 x y) (b len cap i : Nat) (hx : a.eval x = .slice (some ⟨b, 0, none⟩) len cap) (hy : a.eval y = .int .i64 (i : Int)) (hi : i < len) :
    (execOp a.eval o).run Try.prog w = .ok (.value (.pointer (some ⟨b, i, none⟩))) w := by
  have := Rg.run_indexSl slPerm w b 0 len cap i hi
  rw [Nat.zero_add] at this
  unfold execOp
  simp only [ho, hx, hy, Sem.run_bind, Sem.run_pure, Result.andThen_ok, this]

set_option maxHeartbeats 1000000 in
theorem Reverse_row (b n m cap : Nat) (g : Nat → Int) (w w0 : World) (hm : m ≤ n) (hn : n ≤ 64) (hc : m ≤ cap) (hcm : cap ≤ 64) (hr : w.rowIs b 3 n (fun j => .int .i64 (g j))) (hb : Below w0.heap.size w0 w) (hB : w0.heap.size ≤ b) :
    Calls Try.prog 72 #[.slice (some ⟨b, 0, none⟩) m cap] w fun e w' => (∃ v, e = .returned v) ∧ w'.rowIs b 3 n (fun j => .int .i64 (if j < m then g (m - 1 - j) else g j)) ∧ Below w0.heap.size w0 w' := by
  have Hr := Lib.hid hr
  clear hr
  go_enter Try.func72, Try.ntmps72
  go_wp2
  go_loopw [2, 3] (fun u v wr => ∃ (k : Nat) (j : Int), u = .int .i64 k ∧ v = .int .i64 j ∧ j + k + 1 = m ∧ k ≤ m ∧ Hid (wr.rowIs b 3 n (fun x => .int .i64 (if x < m ∧ (x < k ∨ m ≤ x + k) then g (m - 1 - x) else g x))) ∧ Below w0.heap.size w0 wr) (fun u _ _ => m - (intOf u).toNat)
  case atStart => exact ⟨0, _, rfl, rfl, by omega, by omega, Hr.out.congr (fun i hi => by rw [if_neg (by omega)]), hb⟩
  case round =>
    clear Hr hb
    obtain ⟨k, j, rfl, rfl, hj, hk, hs, hbel⟩ := hrel
    by_cases hlt : (k : Int) < j
    · obtain ⟨jn, rfl⟩ : ∃ jn : Nat, j = jn := ⟨j.toNat, by omega⟩
      have hjn : jn + k + 1 = m := by omega
      have hkj : k < jn := by omega
      have ck := hs.out.cell (show k < n by omega)
      have cj := hs.out.cell (show jn < n by omega)
      rw [if_neg (by omega)] at ck cj
      have fk := hs.out.frozen k
      have fj := hs.out.frozen jn
      go_upto_region 3 with (fail)
      have hsd : (World.drew wr).rowIs b 3 n (fun x => .int .i64 (if x < m ∧ (x < k ∨ m ≤ x + k) then g (m - 1 - x) else g x)) := hs.out
      have hbd : Below w0.heap.size w0 (World.drew wr) := hbel.drew
      have hT : (World.drew wr).cell? ⟨b, k, none⟩ = some (.int .i64 (g k)) ∧ (World.drew wr).cell? ⟨b, jn, none⟩ = some (.int .i64 (g jn)) := ⟨ck, cj⟩
      have hfk : (World.drew wr).frozen? ⟨b, k, none⟩ = false := fk
      have hfj : (World.drew wr).frozen? ⟨b, jn, none⟩ = false := fj
      have HS := Lib.hid hsd
      clear hsd ck cj fk fj hs hbel
      refine Rg.Any.begin (S := Rg.Both 13 (fun W => W.cell? ⟨b, k, none⟩ = some (.int .i64 (g k)) ∧ W.cell? ⟨b, jn, none⟩ = some (.int .i64 (g jn))) (fun _ => True)) mix ?_
      generalize World.drew wr = W at *
      have hS : ∀ l, Rg.Both 13 (fun W => W.cell? ⟨b, k, none⟩ = some (.int .i64 (g k)) ∧ W.cell? ⟨b, jn, none⟩ = some (.int .i64 (g jn))) (fun _ => True) l W := fun l => ⟨.inr hT, trivial⟩
      refine Rg.Any.takeG (i := 0) (t := 13) (v := .slice (some ⟨b, 0, none⟩) m cap) (some 14) rfl rfl (by kernel_rfl) (by kernel_rfl) (by kernel_rfl) (fun _ _ _ h => h) rfl (.inl ⟨rfl, fun W hW => Rg.exec_move _ rfl rfl⟩) (hS _) ?_
      go_frame
      refine Rg.Any.takeG (i := 1) (t := 13) (v := .int .i64 (k : Int)) (some 15) rfl rfl (by kernel_rfl) (by kernel_rfl) (by kernel_rfl) (fun _ _ _ h => h) rfl (.inl ⟨rfl, fun W hW => Rg.exec_move _ rfl rfl⟩) (hS _) ?_
      go_frame
      refine Rg.Any.takeG (i := 2) (t := 13) (v := .slice (some ⟨b, 0, none⟩) m cap) (some 16) rfl rfl (by kernel_rfl) (by kernel_rfl) (by kernel_rfl) (fun _ _ _ h => h) rfl (.inl ⟨rfl, fun W hW => Rg.exec_move _ rfl rfl⟩) (hS _) ?_
      go_frame
      refine Rg.Any.takeG (i := 3) (t := 13) (v := .int .i64 (jn : Int)) (some 17) rfl rfl (by kernel_rfl) (by kernel_rfl) (by kernel_rfl) (fun _ _ _ h => h) rfl (.inl ⟨rfl, fun W hW => Rg.exec_move _ rfl rfl⟩) (hS _) ?_
      go_frame
      refine Rg.Any.takeG (i := 4) (t := 13) (v := .slice (some ⟨b, 0, none⟩) m cap) (some 18) rfl rfl (by kernel_rfl) (by kernel_rfl) (by kernel_rfl) (fun _ _ _ h => h) rfl (.inl ⟨rfl, fun W hW => Rg.exec_move _ rfl rfl⟩) (hS _) ?_
      go_frame
      refine Rg.Any.takeG (i := 5) (t := 13) (v := .int .i64 (jn : Int)) (some 19) rfl rfl (by kernel_rfl) (by kernel_rfl) (by kernel_rfl) (fun _ _ _ h => h) rfl (.inl ⟨rfl, fun W hW => Rg.exec_move _ rfl rfl⟩) (hS _) ?_
      go_frame
      refine Rg.Any.takeG (i := 6) (t := 13) (v := .pointer (some ⟨b, jn, none⟩)) (some 20) rfl rfl (by kernel_rfl) (by kernel_rfl) (by kernel_rfl) (fun _ _ _ h => h) rfl (yields_index0 _ _ rfl rfl b m cap jn rfl rfl (by omega)) (hS _) ?_
      go_frame
      refine Rg.Any.takeT (i := 7) (t := 13) (v := .int .i64 (g jn)) (some 21) rfl rfl (by kernel_rfl) (by kernel_rfl) (by kernel_rfl) (fun _ _ _ h => h) rfl (by kernel_rfl) rfl (Rg.yields_cell _ _ rfl rfl ⟨b, jn, none⟩ rfl (fun w h => run_loadInt h.2)) (hS _) ?_
      go_frame
      refine Rg.Any.takeG (i := 8) (t := 13) (v := .slice (some ⟨b, 0, none⟩) m cap) (some 22) rfl rfl (by kernel_rfl) (by kernel_rfl) (by kernel_rfl) (fun _ _ _ h => h) rfl (.inl ⟨rfl, fun W hW => Rg.exec_move _ rfl rfl⟩) (hS _) ?_
      go_frame
      refine Rg.Any.takeG (i := 9) (t := 13) (v := .int .i64 (k : Int)) (some 23) rfl rfl (by kernel_rfl) (by kernel_rfl) (by kernel_rfl) (fun _ _ _ h => h) rfl (.inl ⟨rfl, fun W hW => Rg.exec_move _ rfl rfl⟩) (hS _) ?_
      go_frame
      refine Rg.Any.takeG (i := 10) (t := 13) (v := .pointer (some ⟨b, k, none⟩)) (some 24) rfl rfl (by kernel_rfl) (by kernel_rfl) (by kernel_rfl) (fun _ _ _ h => h) rfl (yields_index0 _ _ rfl rfl b m cap k rfl rfl (by omega)) (hS _) ?_
      go_frame
      refine Rg.Any.takeT (i := 11) (t := 13) (v := .int .i64 (g k)) (some 25) rfl rfl (by kernel_rfl) (by kernel_rfl) (by kernel_rfl) (fun _ _ _ h => h) rfl (by kernel_rfl) rfl (Rg.yields_cell _ _ rfl rfl ⟨b, k, none⟩ rfl (fun w h => run_loadInt h.1)) (hS _) ?_
      go_frame
      refine Rg.Any.one (i := 12) (by kernel_rfl) (Rg.Any.run (some 26) rfl rfl rfl (exec_index0 _ _ rfl b m cap k rfl rfl (by omega)) (hS _) ?_)
      go_frame
      refine Rg.Any.one (i := 13) (by kernel_rfl) (Rg.Any.runSkip none rfl rfl rfl (Rg.exec_store _ _ _ rfl _ rfl _ rfl (run_storeInt (g jn) hT.1 hfk)) ⟨.inl rfl, trivial⟩ ?_)
      go_frame
      have hcj2 : (W.setCell ⟨b, k, none⟩ (.int .i64 (g jn))).cell? ⟨b, jn, none⟩ = some (.int .i64 (g jn)) := by
        rw [World.cell?_setCell_other (h := by intro e; injection e with e1 e2; omega) ..]
        exact hT.2
      have hfj2 : (W.setCell ⟨b, k, none⟩ (.int .i64 (g jn))).frozen? ⟨b, jn, none⟩ = false := by rw [World.frozen?_setCell]; exact hfj
      refine Rg.Any.one (i := 14) (by kernel_rfl) (Rg.Any.run (some 27) rfl rfl rfl (exec_index0 _ _ rfl b m cap jn rfl rfl (by omega)) ⟨.inl rfl, trivial⟩ ?_)
      go_frame
      refine Rg.Any.one (i := 15) (by kernel_rfl) (Rg.Any.runSkip none rfl rfl rfl (Rg.exec_store _ _ _ rfl _ rfl _ rfl (run_storeInt (g k) hcj2 hfj2)) ⟨.inl rfl, trivial⟩ ?_)
      go_frame
      refine Rg.Any.done (by kernel_rfl) ?_ _
      have hrow := (HS.out.set k (.int .i64 (g jn))).set jn (.int .i64 (g k))
      have hbl : Below w0.heap.size w0 ((W.setCell ⟨b, k, none⟩ (.int .i64 (g jn))).setCell ⟨b, jn, none⟩ (.int .i64 (g k))) := (hbd.setCell hB _).setCell hB _
      clear hcj2 hfj2 hS hT hfk hfj HS hbd
      generalize (W.setCell ⟨b, k, none⟩ (.int .i64 (g jn))).setCell ⟨b, jn, none⟩ (.int .i64 (g k)) = W2 at *
      have HR := Lib.hid hrow
      clear hrow
      go_wp2
      go_roundw
      case rel =>
        refine ⟨k + 1, (jn : Int) - 1, by go_num, by go_num, by omega, by omega, Lib.hid (HR.out.congr fun x hx => ?_), hbl⟩
        by_cases e1 : x = jn
        · rw [if_pos e1, if_pos (by omega), show m - 1 - x = k from by omega]
        · rw [if_neg e1]
          by_cases e2 : x = k
          · rw [if_pos e2, if_pos (by omega), show m - 1 - x = jn from by omega]
          · rw [if_neg e2]
            by_cases e3 : x < m ∧ (x < k ∨ m ≤ x + k)
            · rw [if_pos e3, if_pos (by omega)]
            · rw [if_neg e3, if_neg (by omega)]
      case measure => simp [intOf]; omega
    · go_wp2
      go_end0
      refine ⟨⟨_, rfl⟩, hs.out.congr fun x hx => ?_, hbel⟩
      by_cases e1 : x < m
      · rw [if_pos e1]
        by_cases e2 : x < m ∧ (x < k ∨ m ≤ x + k)
        · rw [if_pos e2]
        · rw [if_neg e2, show m - 1 - x = x from by omega]
      · rw [if_neg e1, if_neg (by omega)]

/-- the first m points turned round -/
def flp (n m : Nat) : List Nat := (List.range n).map fun i => if i < m then m - 1 - i else i
theorem len_flp (n m : Nat) : (flp n m).length = n := by simp [flp]

set_option maxHeartbeats 1000000 in
theorem flip_any (n m : Nat) (w : World) (h1 : 1 ≤ n) (hn : n ≤ 64) (hm : m ≤ n) :
    Calls Try.prog 60 #[.int .i64 n, .int .i64 m] w fun e w' => ∃ v, e = .returned v ∧ Rg.NPF w w' v (flp n m) ∧ Below w.heap.size w w' := by
  have hmn : (m : Int) ≤ (n : Int) := by omega
  go_enter Try.func60, Try.ntmps60
  go_wp2_with (first | (go_at_call 34; refine (permOne_row n _ (by omega) (by omega)).mono ?_; rintro e w1 ⟨rfl, hv0, hb0⟩; have hv := Lib.hid hv0; have Hb0 := Lib.hid hb0; clear hv0 hb0) | (go_at_call 72; refine (Reverse_row _ n m n (fun j => (j : Int)) _ w hm hn hm hn hv.out Hb0.out (Nat.le_refl _)).mono ?_; rintro e w2 ⟨⟨rv, rfl⟩, hr2, hb2⟩; have Hr2 := Lib.hid hr2; have Hb2 := Lib.hid hb2; clear hr2 hb2))
  go_ret
  refine ⟨_, rfl, ⟨Rg.NP.of_rowIs Hr2.out (by rw [len_flp]) (by omega) (fun i hi => ?_), Rg.Fresh.mk _ _ _ _⟩, Hb2.out⟩
  simp only [flp, List.getElem_map, List.getElem_range]
  by_cases e : i < m
  · rw [if_pos e, if_pos e]
  · rw [if_neg e, if_neg e]
end Go.Proofs.Ytjifdmfoijoekaa.Rj

/-! puzzle.build's makers at numbers out of range. -/
namespace Go.Proofs.Ytjifdmfoijoekaa.Rj
open Go.Proofs.Ytjifdmfoijoekaa
open Go.RowKit
open Go.Proofs
attribute [local irreducible] Go.Calls

theorem exec_buildZ {o : Oper} {a : Act} {w : World} (ho : o.op = .build 24 #[]) : (execOp a.eval o).run Try.prog w = .ok (.value (.agg #[.int .i64 0, .slice none 0 0])) w := by
  unfold execOp
  simp only [ho, Sem.run_bind, Sem.run_pure]
  have h : (Instr.build 24 (Array.map (fun (x : Nat × Operand) => (x.1, a.eval x.2)) #[])).run Try.prog w = .ok (.agg #[.int .i64 0, .slice none 0 0]) w := by kernel_rfl
  first | (rw [h]; rfl) | (erw [h]; rfl)
theorem rowsF_nil (B : Nat) (w : World) : RowsF B w (.slice none 0 0) [] :=
  ⟨[], ⟨none, 0, rfl, by simp, Nat.zero_le _, by simp, fun h => by simp at h⟩, fun a n c e => by simp at e, rfl, fun i h => by simp at h⟩

set_option maxHeartbeats 1000000 in
theorem build1_out (a b k : Int) (w : World) (bp ar cp : Nat) (hbp : bp < w.heap.size) (har : ar < w.heap.size)
    (h0 : w.cell? ⟨bp, 0, none⟩ = some (.slice (some ⟨ar, 0, none⟩) 3 cp)) (h1 : w.cell? ⟨ar, 0, none⟩ = some (.int .i64 a)) (h2 : w.cell? ⟨ar, 1, none⟩ = some (.int .i64 b)) (h3 : w.cell? ⟨ar, 2, none⟩ = some (.int .i64 k))
    (hr : ¬ (2 ≤ a ∧ a ≤ 32 ∧ 2 ≤ b ∧ b ≤ 32 ∧ 1 ≤ k ∧ k < a ∧ k < b)) :
    Calls Try.prog 57 #[.pointer (some ⟨bp, 0, none⟩)] w fun e w' => ∃ v, e = .returned (.agg #[.int .i64 0, v]) ∧ RowsF w.heap.size w' v [] ∧ Below w.heap.size w w' := by
  have hba : Below w.heap.size w (w.alloc (.cells #[.int .i64 0, .slice none 0 0] 24)) := (Below.refl _ _).alloc (Nat.le_refl _) _
  have c0 := (hba.cell (p := ⟨bp, 0, none⟩) hbp).trans h0
  have c1 := (hba.cell (p := ⟨ar, 0, none⟩) har).trans h1
  have c2 := (hba.cell (p := ⟨ar, 1, none⟩) har).trans h2
  have c3 := (hba.cell (p := ⟨ar, 2, none⟩) har).trans h3
  clear h0 h1 h2 h3
  have f0 : (0 : Int) < ((3 : Nat) : Int) := by decide
  have f1 : (1 : Int) < ((3 : Nat) : Int) := by decide
  have f2 : (2 : Int) < ((3 : Nat) : Int) := by decide
  go_enter Try.func57, Try.ntmps57
  go_wp2
  go_quiet (fail)
  clear c0 c1 c2 c3 f0 f1 f2
  have Hba := Lib.hid (show Below w.heap.size w ((w.alloc (.cells #[.int .i64 0, .slice none 0 0] 24)).drewN nq) from Rg.drewN hba nq)
  have hr0 : ((w.alloc (.cells #[.int .i64 0, .slice none 0 0] 24)).drewN nq).cell? ⟨w.heap.size, 0, none⟩ = some (.int .i64 0) := by rw [cellNewN]; rfl
  have hr1 : ((w.alloc (.cells #[.int .i64 0, .slice none 0 0] 24)).drewN nq).cell? ⟨w.heap.size, 1, none⟩ = some (.slice none 0 0) := by rw [cellNewN]; rfl
  have hrf : ∀ o, ((w.alloc (.cells #[.int .i64 0, .slice none 0 0] 24)).drewN nq).frozen? ⟨w.heap.size, o, none⟩ = false := fun o => frozenNewN _ _ _ _ _
  clear hba
  generalize hwd : (w.alloc (.cells #[.int .i64 0, .slice none 0 0] 24)).drewN nq = wd at *
  clear hwd
  have HS := Lib.hid (run_storeG 0 none 0 0 hr0 hr1 (hrf 0) (hrf 1))
  have HA := Lib.hid (group_set (.int .i64 0) (.slice none 0 0) hr0 hr1 Hba.out (Nat.le_refl _))
  clear hr0 hr1 hrf
  by_cases x0 : a < 2
  · clear hr
    go_upto_region 3 with (fail)
    refine wp_region_list ?_
    refine Rg.list_run (some 40) rfl rfl (exec_buildZ rfl) ?_
    go_frame
    refine Rg.list_skip none rfl rfl (Rg.exec_store _ _ _ rfl _ rfl _ rfl HS.out) ?_
    go_frame
    generalize (wd.setCell ⟨w.heap.size, 0, none⟩ (.int .i64 0)).setCell ⟨w.heap.size, 1, none⟩ (.slice none 0 0) = W6 at *
    clear HS
    go_wp2
    exact bodyPost_ret (results_cellG rfl _ rfl HA.out.1 HA.out.2.1) rfl ⟨_, rfl, rowsF_nil _ _, HA.out.2.2⟩
  by_cases x1 : 32 < a
  · clear hr
    go_upto_region 3 with (fail)
    refine wp_region_list ?_
    refine Rg.list_run (some 40) rfl rfl (exec_buildZ rfl) ?_
    go_frame
    refine Rg.list_skip none rfl rfl (Rg.exec_store _ _ _ rfl _ rfl _ rfl HS.out) ?_
    go_frame
    generalize (wd.setCell ⟨w.heap.size, 0, none⟩ (.int .i64 0)).setCell ⟨w.heap.size, 1, none⟩ (.slice none 0 0) = W6 at *
    clear HS
    go_wp2
    exact bodyPost_ret (results_cellG rfl _ rfl HA.out.1 HA.out.2.1) rfl ⟨_, rfl, rowsF_nil _ _, HA.out.2.2⟩
  by_cases x2 : b < 2
  · clear hr
    go_upto_region 3 with (fail)
    refine wp_region_list ?_
    refine Rg.list_run (some 40) rfl rfl (exec_buildZ rfl) ?_
    go_frame
    refine Rg.list_skip none rfl rfl (Rg.exec_store _ _ _ rfl _ rfl _ rfl HS.out) ?_
    go_frame
    generalize (wd.setCell ⟨w.heap.size, 0, none⟩ (.int .i64 0)).setCell ⟨w.heap.size, 1, none⟩ (.slice none 0 0) = W6 at *
    clear HS
    go_wp2
    exact bodyPost_ret (results_cellG rfl _ rfl HA.out.1 HA.out.2.1) rfl ⟨_, rfl, rowsF_nil _ _, HA.out.2.2⟩
  by_cases x3 : 32 < b
  · clear hr
    go_upto_region 3 with (fail)
    refine wp_region_list ?_
    refine Rg.list_run (some 40) rfl rfl (exec_buildZ rfl) ?_
    go_frame
    refine Rg.list_skip none rfl rfl (Rg.exec_store _ _ _ rfl _ rfl _ rfl HS.out) ?_
    go_frame
    generalize (wd.setCell ⟨w.heap.size, 0, none⟩ (.int .i64 0)).setCell ⟨w.heap.size, 1, none⟩ (.slice none 0 0) = W6 at *
    clear HS
    go_wp2
    exact bodyPost_ret (results_cellG rfl _ rfl HA.out.1 HA.out.2.1) rfl ⟨_, rfl, rowsF_nil _ _, HA.out.2.2⟩
  by_cases x4 : k < 1
  · clear hr
    go_upto_region 3 with (fail)
    refine wp_region_list ?_
    refine Rg.list_run (some 40) rfl rfl (exec_buildZ rfl) ?_
    go_frame
    refine Rg.list_skip none rfl rfl (Rg.exec_store _ _ _ rfl _ rfl _ rfl HS.out) ?_
    go_frame
    generalize (wd.setCell ⟨w.heap.size, 0, none⟩ (.int .i64 0)).setCell ⟨w.heap.size, 1, none⟩ (.slice none 0 0) = W6 at *
    clear HS
    go_wp2
    exact bodyPost_ret (results_cellG rfl _ rfl HA.out.1 HA.out.2.1) rfl ⟨_, rfl, rowsF_nil _ _, HA.out.2.2⟩
  by_cases x5 : b < a
  · have e5 : b ≤ k := by omega
    clear hr
    go_upto_region 3 with (fail)
    refine wp_region_list ?_
    refine Rg.list_run (some 40) rfl rfl (exec_buildZ rfl) ?_
    go_frame
    refine Rg.list_skip none rfl rfl (Rg.exec_store _ _ _ rfl _ rfl _ rfl HS.out) ?_
    go_frame
    generalize (wd.setCell ⟨w.heap.size, 0, none⟩ (.int .i64 0)).setCell ⟨w.heap.size, 1, none⟩ (.slice none 0 0) = W6 at *
    clear HS
    go_wp2
    exact bodyPost_ret (results_cellG rfl _ rfl HA.out.1 HA.out.2.1) rfl ⟨_, rfl, rowsF_nil _ _, HA.out.2.2⟩
  · have e5 : a ≤ k := by omega
    clear hr
    go_upto_region 3 with (fail)
    refine wp_region_list ?_
    refine Rg.list_run (some 40) rfl rfl (exec_buildZ rfl) ?_
    go_frame
    refine Rg.list_skip none rfl rfl (Rg.exec_store _ _ _ rfl _ rfl _ rfl HS.out) ?_
    go_frame
    generalize (wd.setCell ⟨w.heap.size, 0, none⟩ (.int .i64 0)).setCell ⟨w.heap.size, 1, none⟩ (.slice none 0 0) = W6 at *
    clear HS
    go_wp2
    exact bodyPost_ret (results_cellG rfl _ rfl HA.out.1 HA.out.2.1) rfl ⟨_, rfl, rowsF_nil _ _, HA.out.2.2⟩
end Go.Proofs.Ytjifdmfoijoekaa.Rj

/-! The reference's rows: One, stored into; turn. -/
namespace Go.Proofs.Ytjifdmfoijoekaa.Rj
open Go.Proofs.Ytjifdmfoijoekaa
open Go.RowKit
open Go.Proofs
attribute [local irreducible] Go.Calls

/-- a row in a block of the call's own -/
def RowAt (w : World) (g n : Nat) (f : Nat → Int) : Prop := g < w.heap.size ∧ (∀ i, i < n → w.cell? ⟨g, i, none⟩ = some (.int .i64 (f i))) ∧ ∀ i, w.frozen? ⟨g, i, none⟩ = false
theorem RowAt.congr {w : World} {g n : Nat} {f f' : Nat → Int} (h : RowAt w g n f) (e : ∀ i, i < n → f i = f' i) : RowAt w g n f' :=
  ⟨h.1, fun i hi => by rw [← e i hi]; exact h.2.1 i hi, h.2.2⟩
theorem RowAt.set {w : World} {g n : Nat} {f : Nat → Int} (h : RowAt w g n f) (k : Nat) (v : Int) (hk : k < n) : RowAt (w.setCell ⟨g, k, none⟩ (.int .i64 v)) g n (fun i => if i = k then v else f i) := by
  refine ⟨by simpa using h.1, fun i hi => ?_, fun i => by rw [World.frozen?_setCell]; exact h.2.2 i⟩
  show _ = some (Value.int .i64 (if i = k then v else f i))
  by_cases e : i = k
  · subst e
    rw [if_pos rfl]
    exact World.cell?_setCell_same (h := h.2.1 i hi) ..
  · rw [if_neg e, World.cell?_setCell_other (h := by intro h; injection h with h1 h2; omega) ..]
    exact h.2.1 i hi
theorem RowAt.other {w : World} {g n : Nat} {f : Nat → Int} (h : RowAt w g n f) {g' : Nat} (k : Nat) (v : Value) (hg : g' ≠ g) : RowAt (w.setCell ⟨g', k, none⟩ v) g n f :=
  ⟨by simpa using h.1, fun i hi => by
    rw [World.cell?_setCell_other (h := by intro h; injection h with h1 h2; omega) ..]
    exact h.2.1 i hi, fun i => by rw [World.frozen?_setCell]; exact h.2.2 i⟩
theorem RowAt.below {w w' : World} {g n : Nat} {f : Nat → Int} (h : RowAt w g n f) (hb : Below w.heap.size w w') : RowAt w' g n f :=
  ⟨Nat.lt_of_lt_of_le h.1 hb.size, fun i hi => (hb.cell (p := ⟨g, i, none⟩) h.1).trans (h.2.1 i hi), fun i => (hb.frozen (p := ⟨g, i, none⟩) h.1).trans (h.2.2 i)⟩
theorem RowAt.np {w : World} {g n cap : Nat} {f : Nat → Int} (h : RowAt w g n f) (l : List Nat) (hl : l.length = n) (hc : n ≤ cap) (hm : cap ≤ maxLen) (hn : n ≤ 1000) (e : ∀ i (hi : i < l.length), f i = ((l[i] : Nat) : Int)) : Rg.NP w (.slice (some ⟨g, 0, none⟩) n cap) l := by
  refine Rg.Ints.mk (by simp [Ma.ofN, hl]) h.1 (by simp [Ma.ofN]; omega) hm (by simp [Ma.ofN]; omega) fun i hi => ?_
  have hi' : i < l.length := by simpa [Ma.ofN] using hi
  rw [Nat.zero_add, h.2.1 i (by omega), e i hi']
  simp [Ma.ofN]

set_option maxHeartbeats 400000 in
theorem kitOne_row (n : Nat) (w : World) (h1 : 1 ≤ n) (hn : n ≤ 1000) :
    Calls Try.prog 40 #[.int .i64 n] w fun e w' => ∃ g cap, e = .returned (.slice (some ⟨g, 0, none⟩) n cap) ∧ w.heap.size ≤ g ∧ n ≤ cap ∧ cap ≤ maxLen ∧ RowAt w' g n (fun i => (i : Int)) ∧ Below w.heap.size w w' := by
  go_enter Try.func40, Try.ntmps40
  go_wp2
  go_loopw [3, 4] (fun v i wr => ∃ k : Nat, k ≤ n ∧ i = .int .i64 k ∧ Hid (wr.ownsRow w.heap.size 3 1 v k (ivs (Ma.oneN k))) ∧ Hid (Below w.heap.size w wr)) (fun _ i _ => n - (intOf i).toNat)
  case atStart => exact ⟨0, by omega, rfl, World.ownsRow_nil _ _ _ _, Below.refl _ _⟩
  case round =>
    obtain ⟨k, hk, rfl, hs, hbel⟩ := hrel
    by_cases hlt : k < n
    · go_wp2_with (at_builtin; refine Rg.app1 rfl _ _ 39 rfl slPerm hs.out hbel.out _ (by simp [Value.oneCell']) rfl rfl (by omega) ?_; intro v' w1 hs1 hb1 _ _ _)
      go_roundw
      case rel => exact ⟨k + 1, by omega, by go_num, by rw [show Ma.oneN (k + 1) = Ma.oneN k ++ [k] from List.range_succ, ivs_snoc]; exact hs1, hb1⟩
      case measure => simp [intOf]; omega
    · obtain rfl : k = n := by omega
      go_wp2
      go_ret
      have ho := hs.out
      obtain ⟨_, ⟨_, h0⟩ | ⟨g, cap, cur, rfl, hg, hc, h3, h4, h5, h6⟩⟩ := hs.out
      · omega
      · refine ⟨g, cap, rfl, hg, h3, h4, ⟨(ho.lt g rfl).2, fun i hi => ?_, fun i => ho.frozenAt i⟩, hbel.out⟩
        have := ho.cellAt i (by omega)
        rw [this]
        simp [ivs, Ma.oneN, hi]

set_option maxHeartbeats 400000 in
theorem turn_any (n m : Nat) (w : World) (h1 : 1 ≤ n) (hn : n ≤ 64) (hm : m ≤ n) :
    Calls Try.prog 41 #[.int .i64 n, .int .i64 m] w fun e w' => ∃ v, e = .returned v ∧ Rg.NPF w w' v (flp n m) ∧ Below w.heap.size w w' := by
  go_enter Try.func41, Try.ntmps41
  go_wp2_with (go_at_call 40; refine (kitOne_row n _ (by omega) (by omega)).mono ?_; rintro e w1 ⟨g, cap, rfl, hg, hc, hcm, hr, hb0⟩; have Hr := Lib.hid hr; clear hr)
  go_loopw [6] (fun i wr => ∃ k : Nat, k ≤ m ∧ i = .int .i64 k ∧ Hid (RowAt wr g n (fun x => if x < k then ((m - 1 - x : Nat) : Int) else (x : Int))) ∧ Below w.heap.size w wr) (fun i _ => m - (intOf i).toNat)
  case atStart => exact ⟨0, by omega, rfl, Lib.hid (Hr.out.congr fun i hi => by rw [if_neg (by omega)]), hb0⟩
  case round =>
    clear Hr hb0
    obtain ⟨k, hk, rfl, hs, hbel⟩ := hrel
    by_cases hlt : k < m
    · have c1 := hs.out.2.1 k (by omega)
      have f1 := hs.out.2.2 k
      have e1 : (m : Int) - 1 - (k : Int) = ((m - 1 - k : Nat) : Int) := by omega
      go_wp2
      go_roundw
      case rel =>
        refine ⟨k + 1, by omega, by go_num, ?_, hbel.setCell hg _⟩
        refine Lib.hid ((RowAt.set hs.out k _ (by omega)).congr fun i hi => ?_)
        by_cases e : i = k
        · subst e; rw [if_pos rfl, if_pos (by omega)]
        · rw [if_neg e]
          by_cases e2 : i < k
          · rw [if_pos e2, if_pos (by omega)]
          · rw [if_neg e2, if_neg (by omega)]
      case measure => simp [intOf]; omega
    · obtain rfl : k = m := by omega
      go_wp2
      go_ret
      refine ⟨_, rfl, ⟨hs.out.np (flp n k) (len_flp n k) hc hcm (by omega) (fun i hi => ?_), (Rg.Fresh.mk _ _ _ _).mono hg⟩, hbel⟩
      simp only [flp, List.getElem_map, List.getElem_range]
      by_cases e : i < k
      · rw [if_pos e, if_pos e]
      · rw [if_neg e, if_neg e]
end Go.Proofs.Ytjifdmfoijoekaa.Rj

/-! puzzle.Rings at any numbers. -/
namespace Go.Proofs.Ytjifdmfoijoekaa.Rj
open Go.Proofs.Ytjifdmfoijoekaa
open Go.RowKit
open Go.Proofs
attribute [local irreducible] Go.Calls

/-- what Rings answers: degree and generators -/
def ringsR (a b k : Int) : Int × List (List Int) :=
  if 2 ≤ a ∧ a ≤ 32 ∧ 2 ≤ b ∧ b ≤ 32 ∧ 1 ≤ k ∧ k < a ∧ k < b then (a + b - k, (ringsG a.toNat b.toNat k.toNat).map Ma.ofN) else (0, [])

theorem Rings_any (a b k : Int) (w : World) : Calls Try.prog 13 #[.int .i64 a, .int .i64 b, .int .i64 k] w (GroupPost (ringsR a b k).1 (ringsR a b k).2 w) := by
  by_cases h : 2 ≤ a ∧ a ≤ 32 ∧ 2 ≤ b ∧ b ≤ 32 ∧ 1 ≤ k ∧ k < a ∧ k < b
  · rw [show ringsR a b k = (a + b - k, (ringsG a.toNat b.toNat k.toNat).map Ma.ofN) from if_pos h]
    obtain ⟨x, rfl⟩ : ∃ x : Nat, a = x := ⟨a.toNat, by omega⟩
    obtain ⟨y, rfl⟩ : ∃ x : Nat, b = x := ⟨b.toNat, by omega⟩
    obtain ⟨z, rfl⟩ : ∃ x : Nat, k = x := ⟨k.toNat, by omega⟩
    refine Rings_of _ _ _ _ _ w fun W r hW hr h0 h1 h2 => ?_
    intro w' bp hb hbp hn
    refine (build1_ok x y z w' bp r 3 hbp (Nat.lt_of_lt_of_le hr hb.size) hn ((hb.cell (p := ⟨r, 0, none⟩) hr).trans h0) ((hb.cell (p := ⟨r, 1, none⟩) hr).trans h1) ((hb.cell (p := ⟨r, 2, none⟩) hr).trans h2) (by omega) (by omega) (by omega) (by omega) (by omega) (by omega) (by omega)).mono ?_
    rintro e w1 ⟨v, rfl, hv, hb1⟩
    obtain ⟨a', c', rfl, _⟩ := hv.rows.shape
    refine ⟨a', _, c', ?_, hv, hb1⟩
    rw [show ((x + y - z : Nat) : Int) = (x : Int) + y - z by omega]
  · rw [show ringsR a b k = (0, []) from if_neg h]
    refine Rings_of _ _ _ _ _ w fun W r hW hr h0 h1 h2 => ?_
    intro w' bp hb hbp hn
    refine (build1_out a b k w' bp r 3 hbp (Nat.lt_of_lt_of_le hr hb.size) hn ((hb.cell (p := ⟨r, 0, none⟩) hr).trans h0) ((hb.cell (p := ⟨r, 1, none⟩) hr).trans h1) ((hb.cell (p := ⟨r, 2, none⟩) hr).trans h2) h).mono ?_
    rintro e w1 ⟨v, rfl, hv, hb1⟩
    obtain ⟨a', c', rfl, _⟩ := hv.rows.shape
    exact ⟨a', _, c', rfl, hv, hb1⟩
end Go.Proofs.Ytjifdmfoijoekaa.Rj

/-! puzzle.build's maker of the spin: in range. -/
namespace Go.Proofs.Ytjifdmfoijoekaa.Rj
open Go.Proofs.Ytjifdmfoijoekaa
open Go.RowKit
open Go.Proofs
attribute [local irreducible] Go.Calls

def spinG (n k : Nat) : List (List Nat) := [cyc n 0 n, flp n k]
theorem clCycle (args : Array Value) (w : World) : (callFunc 58 args).run Try.prog w = .ok (.enter 58 args) w := by kernel_rfl
theorem clFlip (args : Array Value) (w : World) : (callFunc 60 args).run Try.prog w = .ok (.enter 60 args) w := by kernel_rfl
theorem yields_indexI {ops : Array Oper} {S : World → Prop} {o : Oper} {a : Act} (x y : Operand) (hg : Region.wanted o (yielded ops a.tmps) = true) (ho : o.op = .indexAddr 27 x y) (b len cap i : Nat) (hx : a.eval x = .slice (some ⟨b, 0, none⟩) len cap) (hy : a.eval y = .int .i64 (i : Int)) (hi : i < len) :
    YieldsIf Try.prog ops S o (.pointer (some ⟨b, i, none⟩)) a := by
  have := Rg.yields_index (S := S) slInts x y hg ho b 0 len cap i hx hy hi
  rwa [Nat.zero_add] at this

set_option maxHeartbeats 2000000 in
theorem build2_ok (n k : Nat) (w : World) (bp ar cp : Nat) (hbp : bp < w.heap.size) (har : ar < w.heap.size)
    (h0 : w.cell? ⟨bp, 0, none⟩ = some (.slice (some ⟨ar, 0, none⟩) 2 cp)) (h1 : w.cell? ⟨ar, 0, none⟩ = some (.int .i64 n)) (h2 : w.cell? ⟨ar, 1, none⟩ = some (.int .i64 k))
    (hn : 2 ≤ n) (hn2 : n ≤ 64) (hk : 2 ≤ k) (hkn : k ≤ n) :
    Calls Try.prog 59 #[.pointer (some ⟨bp, 0, none⟩)] w fun e w' => ∃ v, e = .returned (.agg #[.int .i64 (n : Int), v]) ∧ RowsF w.heap.size w' v ((spinG n k).map Ma.ofN) ∧ Below w.heap.size w w' := by
  have hba : Below w.heap.size w (w.alloc (.cells #[.int .i64 0, .slice none 0 0] 24)) := (Below.refl _ _).alloc (Nat.le_refl _) _
  have c0 := (hba.cell (p := ⟨bp, 0, none⟩) hbp).trans h0
  have c1 := (hba.cell (p := ⟨ar, 0, none⟩) har).trans h1
  have c2 := (hba.cell (p := ⟨ar, 1, none⟩) har).trans h2
  have f0 : (0 : Int) < ((2 : Nat) : Int) := by decide
  have f1 : (1 : Int) < ((2 : Nat) : Int) := by decide
  have g1 : decide ((n : Int) < 2) = false := by rw [decide_eq_false_iff_not]; omega
  have g2 : decide ((64 : Int) < (n : Int)) = false := by rw [decide_eq_false_iff_not]; omega
  have g3 : decide ((k : Int) < 2) = false := by rw [decide_eq_false_iff_not]; omega
  have g4 : decide ((n : Int) < (k : Int)) = false := by rw [decide_eq_false_iff_not]; omega
  go_enter Try.func59, Try.ntmps59
  go_wp2
  go_quiet (fail)
  have Hba := Lib.hid (show Below w.heap.size w ((w.alloc (.cells #[.int .i64 0, .slice none 0 0] 24)).drewN nq) from Rg.drewN hba nq)
  have hsz : ((w.alloc (.cells #[.int .i64 0, .slice none 0 0] 24)).drewN nq).heap.size = w.heap.size + 1 := by simp [World.drewN]
  have hr0 : ((w.alloc (.cells #[.int .i64 0, .slice none 0 0] 24)).drewN nq).cell? ⟨w.heap.size, 0, none⟩ = some (.int .i64 0) := by rw [cellNewN]; rfl
  have hr1 : ((w.alloc (.cells #[.int .i64 0, .slice none 0 0] 24)).drewN nq).cell? ⟨w.heap.size, 1, none⟩ = some (.slice none 0 0) := by rw [cellNewN]; rfl
  have hrf : ∀ o, ((w.alloc (.cells #[.int .i64 0, .slice none 0 0] 24)).drewN nq).frozen? ⟨w.heap.size, o, none⟩ = false := fun o => frozenNewN _ _ _ _ _
  clear hba c0 c1 c2 f0 f1 g1 g2 g3 g4
  generalize hwd : (w.alloc (.cells #[.int .i64 0, .slice none 0 0] 24)).drewN nq = wd at *
  clear hwd
  have H0 := Lib.hid h0
  have H1 := Lib.hid h1
  have H2 := Lib.hid h2
  have R0 := Lib.hid (show wd.drew.cell? ⟨w.heap.size, 0, none⟩ = some (.int .i64 0) from hr0)
  have R1 := Lib.hid (show wd.drew.cell? ⟨w.heap.size, 1, none⟩ = some (.slice none 0 0) from hr1)
  have RF := Lib.hid (show ∀ o, wd.drew.frozen? ⟨w.heap.size, o, none⟩ = false from hrf)
  have HZ := Lib.hid (show wd.drew.heap.size = w.heap.size + 1 from hsz)
  have HB := Lib.hid (show Below w.heap.size w wd.drew from Hba.out.drew)
  clear h0 h1 h2 hr0 hr1 hrf hsz Hba
  go_upto_region 3 with (fail)
  refine Rg.Any.begin (S := Rg.Both 19 (fun _ => True) (fun W => Below w.heap.size w W)) mix ?_
  have hS : ∀ (l : Array Bool) W, Below w.heap.size w W → Rg.Both 19 (fun _ => True) (fun W => Below w.heap.size w W) l W := fun l W h => ⟨.inr trivial, h⟩
  generalize wd.drew = W0 at *
  refine Rg.Any.takeG (i := 0) (t := 19) (v := .slice (some ⟨ar, 0, none⟩) 2 cp) (some 28) rfl rfl (by kernel_rfl) (by kernel_rfl) (by kernel_rfl) (fun _ _ _ h => h) rfl (Rg.yields_cell _ _ rfl rfl ⟨bp, 0, none⟩ rfl (fun W hW => Rg.run_loadSl _ _ Try.underlying27 ((Below.cell (p := ⟨bp, 0, none⟩) hW hbp).trans H0.out))) (hS _ _ HB.out) ?_
  go_frame
  refine Rg.Any.takeG (i := 1) (t := 19) (v := .pointer (some ⟨ar, 0, none⟩)) (some 29) rfl rfl (by kernel_rfl) (by kernel_rfl) (by kernel_rfl) (fun _ _ _ h => h) rfl (yields_indexI _ _ rfl rfl ar 2 cp 0 rfl rfl (by decide)) (hS _ _ HB.out) ?_
  go_frame
  refine Rg.Any.takeG (i := 2) (t := 19) (v := .int .i64 (n : Int)) (some 30) rfl rfl (by kernel_rfl) (by kernel_rfl) (by kernel_rfl) (fun _ _ _ h => h) rfl (Rg.yields_cell _ _ rfl rfl ⟨ar, 0, none⟩ rfl (fun W hW => run_loadInt ((Below.cell (p := ⟨ar, 0, none⟩) hW har).trans H1.out))) (hS _ _ HB.out) ?_
  go_frame
  refine Rg.Any.takeG (i := 3) (t := 19) (v := .slice (some ⟨ar, 0, none⟩) 2 cp) (some 31) rfl rfl (by kernel_rfl) (by kernel_rfl) (by kernel_rfl) (fun _ _ _ h => h) rfl (Rg.yields_cell _ _ rfl rfl ⟨bp, 0, none⟩ rfl (fun W hW => Rg.run_loadSl _ _ Try.underlying27 ((Below.cell (p := ⟨bp, 0, none⟩) hW hbp).trans H0.out))) (hS _ _ HB.out) ?_
  go_frame
  refine Rg.Any.takeG (i := 4) (t := 19) (v := .pointer (some ⟨ar, 0, none⟩)) (some 32) rfl rfl (by kernel_rfl) (by kernel_rfl) (by kernel_rfl) (fun _ _ _ h => h) rfl (yields_indexI _ _ rfl rfl ar 2 cp 0 rfl rfl (by decide)) (hS _ _ HB.out) ?_
  go_frame
  refine Rg.Any.takeG (i := 5) (t := 19) (v := .int .i64 (n : Int)) (some 33) rfl rfl (by kernel_rfl) (by kernel_rfl) (by kernel_rfl) (fun _ _ _ h => h) rfl (Rg.yields_cell _ _ rfl rfl ⟨ar, 0, none⟩ rfl (fun W hW => run_loadInt ((Below.cell (p := ⟨ar, 0, none⟩) hW har).trans H1.out))) (hS _ _ HB.out) ?_
  go_frame
  refine Rg.Any.takeG (i := 6) (t := 19) (v := .slice (some ⟨ar, 0, none⟩) 2 cp) (some 34) rfl rfl (by kernel_rfl) (by kernel_rfl) (by kernel_rfl) (fun _ _ _ h => h) rfl (Rg.yields_cell _ _ rfl rfl ⟨bp, 0, none⟩ rfl (fun W hW => Rg.run_loadSl _ _ Try.underlying27 ((Below.cell (p := ⟨bp, 0, none⟩) hW hbp).trans H0.out))) (hS _ _ HB.out) ?_
  go_frame
  refine Rg.Any.takeG (i := 7) (t := 19) (v := .pointer (some ⟨ar, 0, none⟩)) (some 35) rfl rfl (by kernel_rfl) (by kernel_rfl) (by kernel_rfl) (fun _ _ _ h => h) rfl (yields_indexI _ _ rfl rfl ar 2 cp 0 rfl rfl (by decide)) (hS _ _ HB.out) ?_
  go_frame
  refine Rg.Any.takeG (i := 8) (t := 19) (v := .int .i64 (n : Int)) (some 36) rfl rfl (by kernel_rfl) (by kernel_rfl) (by kernel_rfl) (fun _ _ _ h => h) rfl (Rg.yields_cell _ _ rfl rfl ⟨ar, 0, none⟩ rfl (fun W hW => run_loadInt ((Below.cell (p := ⟨ar, 0, none⟩) hW har).trans H1.out))) (hS _ _ HB.out) ?_
  go_frame
  refine Rg.Any.takeG (i := 10) (t := 19) (v := .slice (some ⟨ar, 0, none⟩) 2 cp) (some 38) rfl rfl (by kernel_rfl) (by kernel_rfl) (by kernel_rfl) (fun _ _ _ h => h) rfl (Rg.yields_cell _ _ rfl rfl ⟨bp, 0, none⟩ rfl (fun W hW => Rg.run_loadSl _ _ Try.underlying27 ((Below.cell (p := ⟨bp, 0, none⟩) hW hbp).trans H0.out))) (hS _ _ HB.out) ?_
  go_frame
  refine Rg.Any.takeG (i := 11) (t := 19) (v := .pointer (some ⟨ar, 0, none⟩)) (some 39) rfl rfl (by kernel_rfl) (by kernel_rfl) (by kernel_rfl) (fun _ _ _ h => h) rfl (yields_indexI _ _ rfl rfl ar 2 cp 0 rfl rfl (by decide)) (hS _ _ HB.out) ?_
  go_frame
  refine Rg.Any.takeG (i := 12) (t := 19) (v := .int .i64 (n : Int)) (some 40) rfl rfl (by kernel_rfl) (by kernel_rfl) (by kernel_rfl) (fun _ _ _ h => h) rfl (Rg.yields_cell _ _ rfl rfl ⟨ar, 0, none⟩ rfl (fun W hW => run_loadInt ((Below.cell (p := ⟨ar, 0, none⟩) hW har).trans H1.out))) (hS _ _ HB.out) ?_
  go_frame
  refine Rg.Any.takeG (i := 13) (t := 19) (v := .slice (some ⟨ar, 0, none⟩) 2 cp) (some 41) rfl rfl (by kernel_rfl) (by kernel_rfl) (by kernel_rfl) (fun _ _ _ h => h) rfl (Rg.yields_cell _ _ rfl rfl ⟨bp, 0, none⟩ rfl (fun W hW => Rg.run_loadSl _ _ Try.underlying27 ((Below.cell (p := ⟨bp, 0, none⟩) hW hbp).trans H0.out))) (hS _ _ HB.out) ?_
  go_frame
  refine Rg.Any.takeG (i := 14) (t := 19) (v := .pointer (some ⟨ar, 1, none⟩)) (some 42) rfl rfl (by kernel_rfl) (by kernel_rfl) (by kernel_rfl) (fun _ _ _ h => h) rfl (yields_indexI _ _ rfl rfl ar 2 cp 1 rfl rfl (by decide)) (hS _ _ HB.out) ?_
  go_frame
  refine Rg.Any.takeG (i := 15) (t := 19) (v := .int .i64 (k : Int)) (some 43) rfl rfl (by kernel_rfl) (by kernel_rfl) (by kernel_rfl) (fun _ _ _ h => h) rfl (Rg.yields_cell _ _ rfl rfl ⟨ar, 1, none⟩ rfl (fun W hW => run_loadInt ((Below.cell (p := ⟨ar, 1, none⟩) hW har).trans H2.out))) (hS _ _ HB.out) ?_
  go_frame
  refine Rg.Any.one (i := 9) (by kernel_rfl) (Rg.Any.ask (some 37) rfl rfl rfl _ _ (exec_fn3 (u2 := .int .i64 0) 58 _ _ _ _ rfl rfl rfl rfl (clCycle _ _)) ?_)
  refine (cycle0 n n W0 (by omega) hn2 (by omega) (by omega)).mono ?_
  rintro e w1 ⟨v1, rfl, hv1, hb1⟩
  have hI1 := Rg.acc HB.out hb1
  obtain ⟨a1, n1, c1, rfl, Hv1⟩ := npf_open hv1
  refine ⟨_, rfl, hS _ _ hI1, ?_⟩
  go_frame
  refine Rg.Any.one (i := 16) (by kernel_rfl) (Rg.Any.ask (some 44) rfl rfl rfl _ _ (exec_fn 60 _ _ _ rfl rfl rfl (clFlip _ _)) ?_)
  refine (flip_any n k w1 (by omega) hn2 hkn).mono ?_
  rintro e w2 ⟨v2, rfl, hv2, hb2⟩
  have hI2 := Rg.acc hI1 hb2
  obtain ⟨a2, n2, c2, rfl, Hv2⟩ := npf_open hv2
  refine ⟨_, rfl, hS _ _ hI2, ?_⟩
  go_frame
  obtain ⟨q0, q1, q2, q3, q4, q5, q6⟩ := rings_end HZ.out R0.out R1.out RF.out HB.out Hv1.out hb1 Hv2.out hb2
  have hI3 : Below w.heap.size w (w2.alloc (.cells #[.slice a1 n1 c1, .slice a2 n2 c2] 39)) := hI2.alloc hI2.size _
  refine Rg.Any.one (i := 17) (by kernel_rfl) (Rg.Any.run (some 45) rfl rfl rfl (exec_buildP (u1 := .slice a1 n1 c1) (u2 := .slice a2 n2 c2) _ _ rfl rfl rfl q0) (hS _ _ hI3) ?_)
  go_frame
  refine Rg.Any.one (i := 18) (by kernel_rfl) (Rg.Any.run (some 46) rfl rfl rfl (exec_buildG (d := (n : Int)) _ _ rfl rfl rfl) (hS _ _ hI3) ?_)
  go_frame
  have hz := q6 (.int .i64 (n : Int)) (.slice (some ⟨w2.heap.size, 0, none⟩) 2 2)
  have hg := q5 (.int .i64 (n : Int)) (.slice (some ⟨w2.heap.size, 0, none⟩) 2 2)
  refine Rg.Any.one (i := 19) (by kernel_rfl) (Rg.Any.runSkip none rfl rfl rfl (Rg.exec_store _ _ _ rfl _ rfl _ rfl (run_storeG (n : Int) _ 2 2 q1 q2 q3 q4)) (hS _ _ hz.2.2) ?_)
  go_frame
  refine Rg.Any.done (by kernel_rfl) ?_ _
  have HA := Lib.hid (And.intro hz hg)
  clear hz hg q0 q1 q2 q3 q4 q5 q6 hI3
  generalize ((w2.alloc (.cells #[.slice a1 n1 c1, .slice a2 n2 c2] 39)).setCell ⟨w.heap.size, 0, none⟩ (.int .i64 (n : Int))).setCell ⟨w.heap.size, 1, none⟩ (.slice (some ⟨w2.heap.size, 0, none⟩) 2 2) = W6 at *
  go_wp2
  exact bodyPost_ret (results_cellG rfl _ rfl HA.out.1.1 HA.out.1.2.1) rfl ⟨_, rfl, HA.out.2, HA.out.1.2.2⟩
end Go.Proofs.Ytjifdmfoijoekaa.Rj

/-! puzzle.build's maker of the spin: out of range. -/
namespace Go.Proofs.Ytjifdmfoijoekaa.Rj
open Go.Proofs.Ytjifdmfoijoekaa
open Go.RowKit
open Go.Proofs
attribute [local irreducible] Go.Calls

set_option maxHeartbeats 2000000 in
theorem build2_out (n k : Int) (w : World) (bp ar cp : Nat) (hbp : bp < w.heap.size) (har : ar < w.heap.size)
    (h0 : w.cell? ⟨bp, 0, none⟩ = some (.slice (some ⟨ar, 0, none⟩) 2 cp)) (h1 : w.cell? ⟨ar, 0, none⟩ = some (.int .i64 n)) (h2 : w.cell? ⟨ar, 1, none⟩ = some (.int .i64 k))
    (hr : ¬ (2 ≤ n ∧ n ≤ 64 ∧ 2 ≤ k ∧ k ≤ n)) :
    Calls Try.prog 59 #[.pointer (some ⟨bp, 0, none⟩)] w fun e w' => ∃ v, e = .returned (.agg #[.int .i64 0, v]) ∧ RowsF w.heap.size w' v [] ∧ Below w.heap.size w w' := by
  have hba : Below w.heap.size w (w.alloc (.cells #[.int .i64 0, .slice none 0 0] 24)) := (Below.refl _ _).alloc (Nat.le_refl _) _
  have c0 := (hba.cell (p := ⟨bp, 0, none⟩) hbp).trans h0
  have c1 := (hba.cell (p := ⟨ar, 0, none⟩) har).trans h1
  have c2 := (hba.cell (p := ⟨ar, 1, none⟩) har).trans h2
  clear h0 h1 h2
  have f0 : (0 : Int) < ((2 : Nat) : Int) := by decide
  have f1 : (1 : Int) < ((2 : Nat) : Int) := by decide
  by_cases x0 : n < 2
  · clear hr
    have g0 : decide (n < 2) = true := by rw [decide_eq_true_iff]; omega
    go_enter Try.func59, Try.ntmps59
    go_wp2
    go_quiet (fail)
    have Hba := Lib.hid (show Below w.heap.size w ((w.alloc (.cells #[.int .i64 0, .slice none 0 0] 24)).drewN nq) from Rg.drewN hba nq)
    have hr0 : ((w.alloc (.cells #[.int .i64 0, .slice none 0 0] 24)).drewN nq).cell? ⟨w.heap.size, 0, none⟩ = some (.int .i64 0) := by rw [cellNewN]; rfl
    have hr1 : ((w.alloc (.cells #[.int .i64 0, .slice none 0 0] 24)).drewN nq).cell? ⟨w.heap.size, 1, none⟩ = some (.slice none 0 0) := by rw [cellNewN]; rfl
    have hrf : ∀ o, ((w.alloc (.cells #[.int .i64 0, .slice none 0 0] 24)).drewN nq).frozen? ⟨w.heap.size, o, none⟩ = false := fun o => frozenNewN _ _ _ _ _
    clear hba c0 c1 c2 f0 f1
    generalize hwd : (w.alloc (.cells #[.int .i64 0, .slice none 0 0] 24)).drewN nq = wd at *
    clear hwd
    have HS := Lib.hid (run_storeG 0 none 0 0 hr0 hr1 (hrf 0) (hrf 1))
    have HA := Lib.hid (group_set (.int .i64 0) (.slice none 0 0) hr0 hr1 Hba.out (Nat.le_refl _))
    clear hr0 hr1 hrf
    go_upto_region 2 with (fail)
    refine wp_region_list ?_
    refine Rg.list_run (some 27) rfl rfl (exec_buildZ rfl) ?_
    go_frame
    refine Rg.list_skip none rfl rfl (Rg.exec_store _ _ _ rfl _ rfl _ rfl HS.out) ?_
    go_frame
    generalize (wd.setCell ⟨w.heap.size, 0, none⟩ (.int .i64 0)).setCell ⟨w.heap.size, 1, none⟩ (.slice none 0 0) = W6 at *
    clear HS
    go_wp2
    exact bodyPost_ret (results_cellG rfl _ rfl HA.out.1 HA.out.2.1) rfl ⟨_, rfl, rowsF_nil _ _, HA.out.2.2⟩
  by_cases x1 : 64 < n
  · clear hr
    have g0 : decide (n < 2) = false := by rw [decide_eq_false_iff_not]; omega
    have g1 : decide (64 < n) = true := by rw [decide_eq_true_iff]; omega
    go_enter Try.func59, Try.ntmps59
    go_wp2
    go_quiet (fail)
    have Hba := Lib.hid (show Below w.heap.size w ((w.alloc (.cells #[.int .i64 0, .slice none 0 0] 24)).drewN nq) from Rg.drewN hba nq)
    have hr0 : ((w.alloc (.cells #[.int .i64 0, .slice none 0 0] 24)).drewN nq).cell? ⟨w.heap.size, 0, none⟩ = some (.int .i64 0) := by rw [cellNewN]; rfl
    have hr1 : ((w.alloc (.cells #[.int .i64 0, .slice none 0 0] 24)).drewN nq).cell? ⟨w.heap.size, 1, none⟩ = some (.slice none 0 0) := by rw [cellNewN]; rfl
    have hrf : ∀ o, ((w.alloc (.cells #[.int .i64 0, .slice none 0 0] 24)).drewN nq).frozen? ⟨w.heap.size, o, none⟩ = false := fun o => frozenNewN _ _ _ _ _
    clear hba c0 c1 c2 f0 f1
    generalize hwd : (w.alloc (.cells #[.int .i64 0, .slice none 0 0] 24)).drewN nq = wd at *
    clear hwd
    have HS := Lib.hid (run_storeG 0 none 0 0 hr0 hr1 (hrf 0) (hrf 1))
    have HA := Lib.hid (group_set (.int .i64 0) (.slice none 0 0) hr0 hr1 Hba.out (Nat.le_refl _))
    clear hr0 hr1 hrf
    go_upto_region 2 with (fail)
    refine wp_region_list ?_
    refine Rg.list_run (some 27) rfl rfl (exec_buildZ rfl) ?_
    go_frame
    refine Rg.list_skip none rfl rfl (Rg.exec_store _ _ _ rfl _ rfl _ rfl HS.out) ?_
    go_frame
    generalize (wd.setCell ⟨w.heap.size, 0, none⟩ (.int .i64 0)).setCell ⟨w.heap.size, 1, none⟩ (.slice none 0 0) = W6 at *
    clear HS
    go_wp2
    exact bodyPost_ret (results_cellG rfl _ rfl HA.out.1 HA.out.2.1) rfl ⟨_, rfl, rowsF_nil _ _, HA.out.2.2⟩
  by_cases x2 : k < 2
  · clear hr
    have g0 : decide (n < 2) = false := by rw [decide_eq_false_iff_not]; omega
    have g1 : decide (64 < n) = false := by rw [decide_eq_false_iff_not]; omega
    have g2 : decide (k < 2) = true := by rw [decide_eq_true_iff]; omega
    go_enter Try.func59, Try.ntmps59
    go_wp2
    go_quiet (fail)
    have Hba := Lib.hid (show Below w.heap.size w ((w.alloc (.cells #[.int .i64 0, .slice none 0 0] 24)).drewN nq) from Rg.drewN hba nq)
    have hr0 : ((w.alloc (.cells #[.int .i64 0, .slice none 0 0] 24)).drewN nq).cell? ⟨w.heap.size, 0, none⟩ = some (.int .i64 0) := by rw [cellNewN]; rfl
    have hr1 : ((w.alloc (.cells #[.int .i64 0, .slice none 0 0] 24)).drewN nq).cell? ⟨w.heap.size, 1, none⟩ = some (.slice none 0 0) := by rw [cellNewN]; rfl
    have hrf : ∀ o, ((w.alloc (.cells #[.int .i64 0, .slice none 0 0] 24)).drewN nq).frozen? ⟨w.heap.size, o, none⟩ = false := fun o => frozenNewN _ _ _ _ _
    clear hba c0 c1 c2 f0 f1
    generalize hwd : (w.alloc (.cells #[.int .i64 0, .slice none 0 0] 24)).drewN nq = wd at *
    clear hwd
    have HS := Lib.hid (run_storeG 0 none 0 0 hr0 hr1 (hrf 0) (hrf 1))
    have HA := Lib.hid (group_set (.int .i64 0) (.slice none 0 0) hr0 hr1 Hba.out (Nat.le_refl _))
    clear hr0 hr1 hrf
    go_upto_region 2 with (fail)
    refine wp_region_list ?_
    refine Rg.list_run (some 27) rfl rfl (exec_buildZ rfl) ?_
    go_frame
    refine Rg.list_skip none rfl rfl (Rg.exec_store _ _ _ rfl _ rfl _ rfl HS.out) ?_
    go_frame
    generalize (wd.setCell ⟨w.heap.size, 0, none⟩ (.int .i64 0)).setCell ⟨w.heap.size, 1, none⟩ (.slice none 0 0) = W6 at *
    clear HS
    go_wp2
    exact bodyPost_ret (results_cellG rfl _ rfl HA.out.1 HA.out.2.1) rfl ⟨_, rfl, rowsF_nil _ _, HA.out.2.2⟩
  have x3 : n < k := by omega
  clear hr
  have g0 : decide (n < 2) = false := by rw [decide_eq_false_iff_not]; omega
  have g1 : decide (64 < n) = false := by rw [decide_eq_false_iff_not]; omega
  have g2 : decide (k < 2) = false := by rw [decide_eq_false_iff_not]; omega
  have g3 : decide (n < k) = true := by rw [decide_eq_true_iff]; omega
  go_enter Try.func59, Try.ntmps59
  go_wp2
  go_quiet (fail)
  have Hba := Lib.hid (show Below w.heap.size w ((w.alloc (.cells #[.int .i64 0, .slice none 0 0] 24)).drewN nq) from Rg.drewN hba nq)
  have hr0 : ((w.alloc (.cells #[.int .i64 0, .slice none 0 0] 24)).drewN nq).cell? ⟨w.heap.size, 0, none⟩ = some (.int .i64 0) := by rw [cellNewN]; rfl
  have hr1 : ((w.alloc (.cells #[.int .i64 0, .slice none 0 0] 24)).drewN nq).cell? ⟨w.heap.size, 1, none⟩ = some (.slice none 0 0) := by rw [cellNewN]; rfl
  have hrf : ∀ o, ((w.alloc (.cells #[.int .i64 0, .slice none 0 0] 24)).drewN nq).frozen? ⟨w.heap.size, o, none⟩ = false := fun o => frozenNewN _ _ _ _ _
  clear hba c0 c1 c2 f0 f1
  generalize hwd : (w.alloc (.cells #[.int .i64 0, .slice none 0 0] 24)).drewN nq = wd at *
  clear hwd
  have HS := Lib.hid (run_storeG 0 none 0 0 hr0 hr1 (hrf 0) (hrf 1))
  have HA := Lib.hid (group_set (.int .i64 0) (.slice none 0 0) hr0 hr1 Hba.out (Nat.le_refl _))
  clear hr0 hr1 hrf
  go_upto_region 2 with (fail)
  refine wp_region_list ?_
  refine Rg.list_run (some 27) rfl rfl (exec_buildZ rfl) ?_
  go_frame
  refine Rg.list_skip none rfl rfl (Rg.exec_store _ _ _ rfl _ rfl _ rfl HS.out) ?_
  go_frame
  generalize (wd.setCell ⟨w.heap.size, 0, none⟩ (.int .i64 0)).setCell ⟨w.heap.size, 1, none⟩ (.slice none 0 0) = W6 at *
  clear HS
  go_wp2
  exact bodyPost_ret (results_cellG rfl _ rfl HA.out.1 HA.out.2.1) rfl ⟨_, rfl, rowsF_nil _ _, HA.out.2.2⟩
end Go.Proofs.Ytjifdmfoijoekaa.Rj

/-! puzzle.Spin. -/
namespace Go.Proofs.Ytjifdmfoijoekaa.Rj
open Go.Proofs.Ytjifdmfoijoekaa
open Go.RowKit
open Go.Proofs
attribute [local irreducible] Go.Calls

theorem run_build2 (X : World) (x y : Int) : (Instr.buildSlice 27 2 #[(0, .int .i64 x), (1, .int .i64 y)]).run Try.prog X = .ok (.slice (some ⟨X.heap.size, 0, none⟩) 2 2) (X.alloc (.cells #[.int .i64 x, .int .i64 y] 3)) := by
  obtain ⟨i0, hi, hz0, hz1, hz2⟩ := info_parts intsInfo
  refine run_buildSlice X 27 3 2 _ _ i0 _ Try.underlying27 hi hz0 (by rw [hz1]; decide) (by rw [hz1]; decide) ?_
  generalize (fun x => ((Value.int IntKind.i64 0).cells)[x % (Value.int IntKind.i64 0).cells.size]!) = f
  rw [hz1]
  have h1 : Array.range (2 * 1) = #[0, 1] := rfl
  simp [Instr.fill, Value.cells, h1]
theorem exec_build2 {o : Oper} {a : Act} {w w' : World} {v u1 u2 : Value} (t : TypeId) (n : Nat) (x y : Operand) (ho : o.op = .buildSlice t n #[(0, x), (1, y)]) (hx : a.eval x = u1) (hy : a.eval y = u2)
    (hr : (Instr.buildSlice t n #[(0, u1), (1, u2)]).run Try.prog w = .ok v w') : (execOp a.eval o).run Try.prog w = .ok (.value v) w' := by
  subst hx hy
  unfold execOp
  simp only [ho, Sem.run_bind, Sem.run_pure]
  simp only [List.map_toArray, List.map_cons, List.map_nil]
  rw [hr]
  rfl

set_option maxHeartbeats 1000000 in
theorem Spin_of (a b : Int) (d : Int) (ll : List (List Int)) (w : World)
    (hm : ∀ W r, Below w.heap.size w W → r < W.heap.size → W.cell? ⟨r, 0, none⟩ = some (.int .i64 a) → W.cell? ⟨r, 1, none⟩ = some (.int .i64 b) → Makes 59 (.slice (some ⟨r, 0, none⟩) 2 2) d ll W) :
    Calls Try.prog 15 #[.int .i64 a, .int .i64 b] w (GroupPost d ll w) := by
  go_enter Try.func15, Try.ntmps15
  go_upto_region 1 with (fail)
  generalize hW : w.alloc (.cells #[.int .i64 0, .slice none 0 0] 24) = W
  have hsz : W.heap.size = w.heap.size + 1 := by rw [← hW]; simp
  have hbW : Below w.heap.size w W := by rw [← hW]; exact (Below.refl _ _).alloc (Nat.le_refl _) _
  have hc1 : W.cell? ⟨w.heap.size, 0, none⟩ = some (.int .i64 0) := by rw [← hW, Rg.cellNew]; rfl
  have hc2 : W.cell? ⟨w.heap.size, 1, none⟩ = some (.slice none 0 0) := by rw [← hW, Rg.cellNew]; rfl
  have hf1 : ∀ o, W.frozen? ⟨w.heap.size, o, none⟩ = false := fun o => by rw [← hW]; exact frozenNewN _ _ _ 0 _
  refine wp_region_list ?_
  refine Rg.list_run (some 6) rfl rfl (Rg.exec_move _ rfl rfl) ?_
  go_frame
  refine Rg.list_run (some 7) rfl rfl (Rg.exec_move _ rfl rfl) ?_
  go_frame
  refine Rg.list_run (some 8) rfl rfl (exec_build2 _ _ _ _ rfl rfl rfl (run_build2 _ a b)) ?_
  go_frame
  have hbX : Below w.heap.size w (W.alloc (.cells #[.int .i64 a, .int .i64 b] 3)) := hbW.alloc (by omega) _
  have hbY : Below W.heap.size W (W.alloc (.cells #[.int .i64 a, .int .i64 b] 3)) := (Below.refl _ _).alloc (Nat.le_refl _) _
  have hM := hm (W.alloc (.cells #[.int .i64 a, .int .i64 b] 3)) W.heap.size hbX (by simp) (by rw [Rg.cellNew]; rfl) (by rw [Rg.cellNew]; rfl)
  generalize W.alloc (.cells #[.int .i64 a, .int .i64 b] 3) = W2 at *
  refine list_ask (some 9) rfl rfl _ _ (exec_fn (u1 := .string sSpin) 39 _ _ _ rfl rfl rfl (callBuild _ _)) ?_
  refine (build_gen sSpin _ 1 found2 callF2 _ _ _ d ll W2 hM).mono ?_
  rintro e W4 ⟨ga, gn, gc, rfl, hg4, hb4⟩
  refine ⟨_, rfl, ?_⟩
  go_frame
  obtain ⟨kc, kf⟩ := Rg.bcell (Rg.acc hbY hb4)
  have lt1 : w.heap.size < W.heap.size := by omega
  have r0 := (kc _ 0 lt1).trans hc1
  have r1 := (kc _ 1 lt1).trans hc2
  have rf := fun o => (kf _ o lt1).trans (hf1 o)
  have hs2 := hbY.size
  obtain ⟨p0, p1, p2⟩ := group_set (.int .i64 d) (.slice ga gn gc) r0 r1 (Rg.acc hbX hb4) (by omega)
  have hR : RowsF w.heap.size ((W4.setCell ⟨w.heap.size, 0, none⟩ (.int .i64 d)).setCell ⟨w.heap.size, 1, none⟩ (.slice ga gn gc)) (.slice ga gn gc) ll := ((hg4.set _ _ _ (by omega)).set _ _ _ (by omega)).mono (by omega)
  refine Rg.list_run (some 10) rfl rfl (exec_extract (v := .agg #[.int .i64 d, .slice ga gn gc]) _ _ rfl rfl rfl) ?_
  go_frame
  refine Rg.list_run (some 11) rfl rfl (exec_extract (v := .int .i64 (if d = 0 then 2 else 0)) _ _ rfl rfl rfl) ?_
  go_frame
  refine Rg.list_skip none rfl rfl (Rg.exec_store _ _ _ rfl _ rfl _ rfl (run_storeG d ga gn gc r0 r1 (rf 0) (rf 1))) ?_
  go_frame
  refine Rg.list_run (some 5) rfl rfl (Rg.exec_assign _ rfl rfl) ?_
  go_frame
  generalize (W4.setCell ⟨w.heap.size, 0, none⟩ (.int .i64 d)).setCell ⟨w.heap.size, 1, none⟩ (.slice ga gn gc) = W6 at *
  clear hc1 hc2 hf1 kc kf r0 r1 rf hm hM hW
  have H := Lib.hid (And.intro p0 (And.intro p1 (And.intro p2 hR)))
  clear p0 p1 p2 hR
  generalize hE : (if d = 0 then (2 : Int) else 0) = E
  go_wp2
  exact bodyPost_ret (results_cellG2 rfl _ rfl rfl H.out.1 H.out.2.1) rfl ⟨_, _, _, by rw [hE]; rfl, H.out.2.2.2, H.out.2.2.1⟩
end Go.Proofs.Ytjifdmfoijoekaa.Rj

/-! puzzle.Spin at any numbers. -/
namespace Go.Proofs.Ytjifdmfoijoekaa.Rj
open Go.Proofs.Ytjifdmfoijoekaa
open Go.RowKit
open Go.Proofs
attribute [local irreducible] Go.Calls

/-- what Spin answers: degree and generators -/
def spinR (n k : Int) : Int × List (List Int) :=
  if 2 ≤ n ∧ n ≤ 64 ∧ 2 ≤ k ∧ k ≤ n then (n, (spinG n.toNat k.toNat).map Ma.ofN) else (0, [])

theorem Spin_any (n k : Int) (w : World) : Calls Try.prog 15 #[.int .i64 n, .int .i64 k] w (GroupPost (spinR n k).1 (spinR n k).2 w) := by
  by_cases h : 2 ≤ n ∧ n ≤ 64 ∧ 2 ≤ k ∧ k ≤ n
  · rw [show spinR n k = (n, (spinG n.toNat k.toNat).map Ma.ofN) from if_pos h]
    obtain ⟨x, rfl⟩ : ∃ x : Nat, n = x := ⟨n.toNat, by omega⟩
    obtain ⟨y, rfl⟩ : ∃ x : Nat, k = x := ⟨k.toNat, by omega⟩
    refine Spin_of _ _ _ _ w fun W r hW hr h0 h1 => ?_
    intro w' bp hb hbp hn
    refine (build2_ok x y w' bp r 2 hbp (Nat.lt_of_lt_of_le hr hb.size) hn ((hb.cell (p := ⟨r, 0, none⟩) hr).trans h0) ((hb.cell (p := ⟨r, 1, none⟩) hr).trans h1) (by omega) (by omega) (by omega) (by omega)).mono ?_
    rintro e w1 ⟨v, rfl, hv, hb1⟩
    obtain ⟨a', c', rfl, _⟩ := hv.rows.shape
    exact ⟨a', _, c', rfl, hv, hb1⟩
  · rw [show spinR n k = (0, []) from if_neg h]
    refine Spin_of _ _ _ _ w fun W r hW hr h0 h1 => ?_
    intro w' bp hb hbp hn
    refine (build2_out n k w' bp r 2 hbp (Nat.lt_of_lt_of_le hr hb.size) hn ((hb.cell (p := ⟨r, 0, none⟩) hr).trans h0) ((hb.cell (p := ⟨r, 1, none⟩) hr).trans h1) h).mono ?_
    rintro e w1 ⟨v, rfl, hv, hb1⟩
    obtain ⟨a', c', rfl, _⟩ := hv.rows.shape
    exact ⟨a', _, c', rfl, hv, hb1⟩
end Go.Proofs.Ytjifdmfoijoekaa.Rj

/-! puzzle.Pancakes. -/
namespace Go.Proofs.Ytjifdmfoijoekaa.Rj
open Go.Proofs.Ytjifdmfoijoekaa
open Go.RowKit
open Go.Proofs
attribute [local irreducible] Go.Calls

theorem run_build1v (X : World) (x : Int) : (Instr.buildSlice 27 1 #[(0, .int .i64 x)]).run Try.prog X = .ok (.slice (some ⟨X.heap.size, 0, none⟩) 1 1) (X.alloc (.cells #[.int .i64 x] 3)) := by
  obtain ⟨i0, hi, hz0, hz1, hz2⟩ := info_parts intsInfo
  refine run_buildSlice X 27 3 1 _ _ i0 _ Try.underlying27 hi hz0 (by rw [hz1]; decide) (by rw [hz1]; decide) ?_
  generalize (fun x => ((Value.int IntKind.i64 0).cells)[x % (Value.int IntKind.i64 0).cells.size]!) = f
  rw [hz1]
  have h1 : Array.range (1 * 1) = #[0] := rfl
  simp [Instr.fill, Value.cells, h1]
theorem exec_build1v {o : Oper} {a : Act} {w w' : World} {v u1 : Value} (t : TypeId) (n : Nat) (x : Operand) (ho : o.op = .buildSlice t n #[(0, x)]) (hx : a.eval x = u1)
    (hr : (Instr.buildSlice t n #[(0, u1)]).run Try.prog w = .ok v w') : (execOp a.eval o).run Try.prog w = .ok (.value v) w' := by
  subst hx
  unfold execOp
  simp only [ho, Sem.run_bind, Sem.run_pure]
  simp only [List.map_toArray, List.map_cons, List.map_nil]
  rw [hr]
  rfl

set_option maxHeartbeats 1000000 in
theorem Pancakes_of (a : Int) (d : Int) (ll : List (List Int)) (w : World)
    (hm : ∀ W r, Below w.heap.size w W → r < W.heap.size → W.cell? ⟨r, 0, none⟩ = some (.int .i64 a) → Makes 61 (.slice (some ⟨r, 0, none⟩) 1 1) d ll W) :
    Calls Try.prog 17 #[.int .i64 a] w (GroupPost d ll w) := by
  go_enter Try.func17, Try.ntmps17
  go_upto_region 1 with (fail)
  generalize hW : w.alloc (.cells #[.int .i64 0, .slice none 0 0] 24) = W
  have hsz : W.heap.size = w.heap.size + 1 := by rw [← hW]; simp
  have hbW : Below w.heap.size w W := by rw [← hW]; exact (Below.refl _ _).alloc (Nat.le_refl _) _
  have hc1 : W.cell? ⟨w.heap.size, 0, none⟩ = some (.int .i64 0) := by rw [← hW, Rg.cellNew]; rfl
  have hc2 : W.cell? ⟨w.heap.size, 1, none⟩ = some (.slice none 0 0) := by rw [← hW, Rg.cellNew]; rfl
  have hf1 : ∀ o, W.frozen? ⟨w.heap.size, o, none⟩ = false := fun o => by rw [← hW]; exact frozenNewN _ _ _ 0 _
  refine wp_region_list ?_
  refine Rg.list_run (some 4) rfl rfl (Rg.exec_move _ rfl rfl) ?_
  go_frame
  refine Rg.list_run (some 5) rfl rfl (exec_build1v _ _ _ rfl rfl (run_build1v _ a)) ?_
  go_frame
  have hbX : Below w.heap.size w (W.alloc (.cells #[.int .i64 a] 3)) := hbW.alloc (by omega) _
  have hbY : Below W.heap.size W (W.alloc (.cells #[.int .i64 a] 3)) := (Below.refl _ _).alloc (Nat.le_refl _) _
  have hM := hm (W.alloc (.cells #[.int .i64 a] 3)) W.heap.size hbX (by simp) (by rw [Rg.cellNew]; rfl)
  generalize W.alloc (.cells #[.int .i64 a] 3) = W2 at *
  refine list_ask (some 6) rfl rfl _ _ (exec_fn (u1 := .string sCakes) 39 _ _ _ rfl rfl rfl (callBuild _ _)) ?_
  refine (build_gen sCakes _ 2 found3 callF3 _ _ _ d ll W2 hM).mono ?_
  rintro e W4 ⟨ga, gn, gc, rfl, hg4, hb4⟩
  refine ⟨_, rfl, ?_⟩
  go_frame
  obtain ⟨kc, kf⟩ := Rg.bcell (Rg.acc hbY hb4)
  have lt1 : w.heap.size < W.heap.size := by omega
  have r0 := (kc _ 0 lt1).trans hc1
  have r1 := (kc _ 1 lt1).trans hc2
  have rf := fun o => (kf _ o lt1).trans (hf1 o)
  have hs2 := hbY.size
  obtain ⟨p0, p1, p2⟩ := group_set (.int .i64 d) (.slice ga gn gc) r0 r1 (Rg.acc hbX hb4) (by omega)
  have hR : RowsF w.heap.size ((W4.setCell ⟨w.heap.size, 0, none⟩ (.int .i64 d)).setCell ⟨w.heap.size, 1, none⟩ (.slice ga gn gc)) (.slice ga gn gc) ll := ((hg4.set _ _ _ (by omega)).set _ _ _ (by omega)).mono (by omega)
  refine Rg.list_run (some 7) rfl rfl (exec_extract (v := .agg #[.int .i64 d, .slice ga gn gc]) _ _ rfl rfl rfl) ?_
  go_frame
  refine Rg.list_run (some 8) rfl rfl (exec_extract (v := .int .i64 (if d = 0 then 2 else 0)) _ _ rfl rfl rfl) ?_
  go_frame
  refine Rg.list_skip none rfl rfl (Rg.exec_store _ _ _ rfl _ rfl _ rfl (run_storeG d ga gn gc r0 r1 (rf 0) (rf 1))) ?_
  go_frame
  refine Rg.list_run (some 3) rfl rfl (Rg.exec_assign _ rfl rfl) ?_
  go_frame
  generalize (W4.setCell ⟨w.heap.size, 0, none⟩ (.int .i64 d)).setCell ⟨w.heap.size, 1, none⟩ (.slice ga gn gc) = W6 at *
  clear hc1 hc2 hf1 kc kf r0 r1 rf hm hM hW
  have H := Lib.hid (And.intro p0 (And.intro p1 (And.intro p2 hR)))
  clear p0 p1 p2 hR
  generalize hE : (if d = 0 then (2 : Int) else 0) = E
  go_wp2
  exact bodyPost_ret (results_cellG2 rfl _ rfl rfl H.out.1 H.out.2.1) rfl ⟨_, _, _, by rw [hE]; rfl, H.out.2.2.2, H.out.2.2.1⟩
end Go.Proofs.Ytjifdmfoijoekaa.Rj

/-! A group in two cells of the call's own, to which flips are put. -/
namespace Go.Proofs.Ytjifdmfoijoekaa.Rj
open Go.Proofs.Ytjifdmfoijoekaa
open Go.RowKit
open Go.Proofs
attribute [local irreducible] Go.Calls

/-- the first k flips -/
def cks (n k : Nat) : List (List Nat) := (List.range k).map fun i => flp n (i + 2)
theorem cks_succ (n k : Nat) : cks n (k + 1) = cks n k ++ [flp n (k + 2)] := by simp [cks, List.range_succ]
theorem len_cks (n k : Nat) : (cks n k).length = k := by simp [cks]
/-- a group in block b: its degree, and a row of rows that the call owns -/
def Ck (b n k : Nat) (v : Value) (us : List Value) (w : World) : Prop :=
  b < w.heap.size ∧ w.cell? ⟨b, 0, none⟩ = some (.int .i64 (n : Int)) ∧ w.cell? ⟨b, 1, none⟩ = some v ∧ w.frozen? ⟨b, 1, none⟩ = false ∧ w.ownsRow (b + 1) 39 1 v k us ∧ Rg.Elts w us (cks n k) ∧ Rg.Offs us v.ownBlock ∧ ∀ u ∈ us, Rg.Fresh (b + 1) u
theorem Ck.below {b n k : Nat} {v : Value} {us : List Value} {w w' : World} (h : Ck b n k v us w) (hb : Below w.heap.size w w') : Ck b n k v us w' := by
  obtain ⟨h1, h2, h3, h4, h5, h6, h7, h8⟩ := h
  exact ⟨Nat.lt_of_lt_of_le h1 hb.size, (hb.cell (p := ⟨b, 0, none⟩) h1).trans h2, (hb.cell (p := ⟨b, 1, none⟩) h1).trans h3, (hb.frozen (p := ⟨b, 1, none⟩) h1).trans h4, Rg.row_below h5 hb, h6.below hb, h7, h8⟩
theorem Ck.start {b n : Nat} {w : World} (h1 : b < w.heap.size) (h2 : w.cell? ⟨b, 0, none⟩ = some (.int .i64 (n : Int))) (h3 : w.cell? ⟨b, 1, none⟩ = some (.slice none 0 0)) (h4 : w.frozen? ⟨b, 1, none⟩ = false) : Ck b n 0 (.slice none 0 0) [] w :=
  ⟨h1, h2, h3, h4, World.ownsRow_nil _ _ _ _, Rg.Elts.nil _, Rg.Offs.nil _, fun u hu => by simp at hu⟩
theorem ints_set {w : World} {v : Value} {l : List Nat} {b o B : Nat} (h : Rg.NP w v l) (hf : Rg.Fresh B v) (hb : b < B) (x : Value) : Rg.NP (w.setCell ⟨b, o, none⟩ x) v l :=
  vals_keep h hf (by simp) fun b2 o2 h1 h2 => World.cell?_setCell_other (h := by intro e; injection e with e1; omega) ..
theorem own_set {w : World} {B b o : Nat} {e : TypeId} {v : Value} {n : Nat} {xs : List Value} (h : w.ownsRow B e 1 v n xs) (hb : b < B) (x : Value) : (w.setCell ⟨b, o, none⟩ x).ownsRow B e 1 v n xs := by
  refine Rg.row_kp (M := fun k => k = b) h (Rg.Kp.of_setCell rfl) fun k hk e => ?_
  have := (h.lt k e).1
  omega
/-- a flip put to it -/
theorem Ck.app {b n k : Nat} {v : Value} {us : List Value} {w w1 W0 : World} (h : Ck b n k v us w) (hk : k < 100) (hb1 : Below w.heap.size w w1) {B : Nat} (h0 : B ≤ b) (hB : Below B W0 w) {a : Option Addr} {m c : Nat} (hu : Rg.NPF w w1 (.slice a m c) (flp n (k + 2))) (ty : TypeId) :
    ∃ ad cp X, (Builtin.append_ #[22, 22] ty #[v, .slice (some ⟨w1.heap.size, 0, none⟩) 1 1]).run Try.prog (w1.alloc (.cells #[.slice a m c] 39)) = .ok (.slice ad (k + 1) cp) X ∧
      Ck b n (k + 1) (.slice ad (k + 1) cp) (us ++ [.slice a m c]) (X.setCell ⟨b, 1, none⟩ (.slice ad (k + 1) cp)) ∧ Below B W0 (X.setCell ⟨b, 1, none⟩ (.slice ad (k + 1) cp)) ∧
      X.cell? ⟨b, 1, none⟩ = some v ∧ X.frozen? ⟨b, 1, none⟩ = false ∧ (∀ q o, q ≤ b → X.cell? ⟨q, o, none⟩ = w.cell? ⟨q, o, none⟩) := by
  have h' := h.below hb1
  obtain ⟨h1, h2, h3, h4, h5, h6, h7, h8⟩ := h'
  have hlt := h.1
  have hsz := hb1.size
  have hba : Below w1.heap.size w1 (w1.alloc (.cells #[.slice a m c] 39)) := (Below.refl _ _).alloc (Nat.le_refl _) _
  have hX5 := Rg.row_below h5 hba
  obtain ⟨v', X, r1, r2, r3, r4, ad, cp, rfl⟩ := Rg.app_run (P := Try.prog) slPerms ty (B := b + 1) hX5 (by simp; omega) w1.heap.size 1 (u := .slice a m c) (by rw [Rg.cellNew]; rfl) rfl (by omega)
  have hne : ∀ j, v.ownBlock = some j → b + 1 ≤ j := fun j e => (h5.lt j e).1
  have hcell : ∀ q o, q ≤ b → X.cell? ⟨q, o, none⟩ = w1.cell? ⟨q, o, none⟩ := fun q o hq => by
    have e1 : (w1.alloc (.cells #[.slice a m c] 39)).cell? ⟨q, o, none⟩ = w1.cell? ⟨q, o, none⟩ := hba.cell (p := ⟨q, o, none⟩) (show q < _ by omega)
    rw [← e1]
    exact World.cell?_of_block (a := ⟨q, o, none⟩) (r3.block q (by simp; omega) (fun e => by have := hne q e.symm; omega))
  have hfr : X.frozen? ⟨b, 1, none⟩ = false := by
    have e1 : (w1.alloc (.cells #[.slice a m c] 39)).frozen? ⟨b, 1, none⟩ = w1.frozen? ⟨b, 1, none⟩ := hba.frozen (p := ⟨b, 1, none⟩) (show b < _ by omega)
    rw [← h4, ← e1]
    exact World.frozen?_of_block (a := ⟨b, 1, none⟩) (r3.block b (by simp; omega) (fun e => by have := hne b e.symm; omega))
  have hBX : Below B W0 X := ((hB.trans (hb1.mono (by omega))).alloc (by omega) _).grown r3 (by simp; omega) (fun j e => by have := hne j e; omega)
  have hnew : Rg.Fresh (b + 1) (.slice a m c) := hu.2.mono (by omega)
  have hoffu : Rg.Off (.slice a m c) v.ownBlock := Rg.Off.fresh hu.2 (fun j e => (h.2.2.2.2.1.lt j e).2)
  have hEu : Rg.NP (w1.alloc (.cells #[.slice a m c] 39)) (.slice a m c) (flp n (k + 2)) := hu.1.below hba
  have hE : Rg.Elts X (us ++ [.slice a m c]) (cks n (k + 1)) := by
    rw [cks_succ]
    exact ((h6.below hba).snoc hEu).grown (h7.snoc hoffu) r3
  have hO : Rg.Offs (us ++ [.slice a m c]) (Value.slice ad (k + 1) cp).ownBlock := by
    refine Rg.Offs.next (w := w1.alloc (.cells #[.slice a m c] 39)) (gs := cks n (k + 1)) (h7.snoc hoffu) ?_ r4 (Nat.le_refl _)
    rw [cks_succ]
    exact (h6.below hba).snoc hEu
  have hF : ∀ u ∈ us ++ [Value.slice a m c], Rg.Fresh (b + 1) u := fun u hu => by
    rcases List.mem_append.1 hu with hu | hu
    · exact h8 u hu
    · obtain rfl : u = .slice a m c := by simpa using hu
      exact hnew
  have hc1 : X.cell? ⟨b, 1, none⟩ = some v := (hcell b 1 (Nat.le_refl _)).trans h3
  refine ⟨ad, cp, X, r1, ⟨?_, ?_, ?_, ?_, ?_, ?_, hO, hF⟩, ?_, hc1, hfr, fun q o hq => (hcell q o hq).trans (hb1.cell (p := ⟨q, o, none⟩) (show q < _ by omega))⟩
  · have := r3.size
    simp at this ⊢; omega
  · rw [World.cell?_setCell_other (h := by intro e; injection e with e1 e2; omega) ..]
    exact (hcell b 0 (Nat.le_refl _)).trans h2
  · exact World.cell?_setCell_same (h := hc1) ..
  · rw [World.frozen?_setCell]; exact hfr
  · exact own_set r2 (Nat.lt_succ_self _) _
  · exact ⟨hE.1, fun i a1 a2 => ints_set (hE.2 i a1 a2) (hF _ (List.getElem_mem a1)) (Nat.lt_succ_self _) _⟩
  · exact hBX.setCell h0 _
theorem Ck.rows {b n k : Nat} {v : Value} {us : List Value} {w : World} (h : Ck b n k v us w) (hk : k < 100) {B : Nat} (hB : B ≤ b + 1) : RowsF B w v ((cks n k).map Ma.ofN) := by
  obtain ⟨h1, h2, h3, h4, h5, h6, h7, h8⟩ := h
  refine ⟨us, Rg.Vals.of_row h5 (by omega), (Rg.Fresh.of_row h5).mono hB, by rw [List.length_map]; exact h6.1, fun i a1 a2 => ?_⟩
  rw [List.getElem_map]
  exact ⟨h6.2 i a1 (by simpa using a2), (h8 _ (List.getElem_mem a1)).mono hB⟩
end Go.Proofs.Ytjifdmfoijoekaa.Rj

/-! The reference's Pancakes. -/
namespace Go.Proofs.Ytjifdmfoijoekaa.Rj
open Go.Proofs.Ytjifdmfoijoekaa
open Go.RowKit
open Go.Proofs
attribute [local irreducible] Go.Calls

/-- what Pancakes answers: degree and generators -/
def cakesR (n : Int) : Int × List (List Int) :=
  if 2 ≤ n ∧ n ≤ 7 then (n, (cks n.toNat (n.toNat - 1)).map Ma.ofN) else (0, [])
theorem exec_buildG1 {o : Oper} {a : Act} {w : World} {d : Int} (x : Operand) (ho : o.op = .build 24 #[(0, x)]) (hx : a.eval x = .int .i64 d) :
    (execOp a.eval o).run Try.prog w = .ok (.value (.agg #[.int .i64 d, .slice none 0 0])) w := by
  unfold execOp
  simp only [ho, Sem.run_bind, Sem.run_pure]
  simp only [List.map_toArray, List.map_cons, List.map_nil, hx]
  have h : (Instr.build 24 #[(0, .int .i64 d)]).run Try.prog w = .ok (.agg #[.int .i64 d, .slice none 0 0]) w := by kernel_rfl
  first | (rw [h]; rfl) | (erw [h]; rfl)
/-- a new group's two cells, stored into -/
theorem newG (W : World) (n : Nat) : Ck W.heap.size n 0 (.slice none 0 0) [] (((W.alloc (.cells #[.int .i64 0, .slice none 0 0] 24)).setCell ⟨W.heap.size, 0, none⟩ (.int .i64 (n : Int))).setCell ⟨W.heap.size, 1, none⟩ (.slice none 0 0)) ∧
    Below W.heap.size W (((W.alloc (.cells #[.int .i64 0, .slice none 0 0] 24)).setCell ⟨W.heap.size, 0, none⟩ (.int .i64 (n : Int))).setCell ⟨W.heap.size, 1, none⟩ (.slice none 0 0)) := by
  have n0 : (W.alloc (.cells #[.int .i64 0, .slice none 0 0] 24)).cell? ⟨W.heap.size, 0, none⟩ = some (.int .i64 0) := by rw [Rg.cellNew]; rfl
  have n1 : (W.alloc (.cells #[.int .i64 0, .slice none 0 0] 24)).cell? ⟨W.heap.size, 1, none⟩ = some (.slice none 0 0) := by rw [Rg.cellNew]; rfl
  obtain ⟨p0, p1, p2⟩ := group_set (B := W.heap.size) (.int .i64 (n : Int)) (.slice none 0 0) n0 n1 ((Below.refl _ _).alloc (Nat.le_refl _) _) (Nat.le_refl _)
  refine ⟨Ck.start (by simp) p0 p1 ?_, p2⟩
  rw [World.frozen?_setCell, World.frozen?_setCell]
  exact frozenNewN _ _ _ 0 _
theorem exec_fieldG {o : Oper} {a : Act} {w : World} {b : Nat} (x : Operand) (ho : o.op = .fieldAddr 24 x 1) (hx : a.eval x = .pointer (some ⟨b, 0, none⟩)) :
    (execOp a.eval o).run Try.prog w = .ok (.value (.pointer (some ⟨b, 1, none⟩))) w := by
  have h : (Instr.fieldAt 24 (.pointer (some ⟨b, 0, none⟩)) 1).run Try.prog w = .ok (.pointer (some ⟨b, 1, none⟩)) w := by kernel_rfl
  unfold execOp
  simp only [ho, hx, Sem.run_bind, Sem.run_pure, h, Result.andThen_ok]
theorem clTurn (args : Array Value) (w : World) : (callFunc 41 args).run Try.prog w = .ok (.enter 41 args) w := by kernel_rfl

set_option maxHeartbeats 2000000 in
theorem refPancakes_any (n : Int) (w : World) : Calls Try.prog 18 #[.int .i64 n] w (GroupPost (cakesR n).1 (cakesR n).2 w) := by
  by_cases h : 2 ≤ n ∧ n ≤ 7
  · rw [show cakesR n = (n, (cks n.toNat (n.toNat - 1)).map Ma.ofN) from if_pos h]
    obtain ⟨x, rfl⟩ : ∃ x : Nat, n = x := ⟨n.toNat, by omega⟩
    have g0 : decide ((x : Int) < 2) = false := by rw [decide_eq_false_iff_not]; omega
    have g1 : decide ((7 : Int) < (x : Int)) = false := by rw [decide_eq_false_iff_not]; omega
    go_enter Try.func18, Try.ntmps18
    go_upto_region 3 with (fail)
    generalize hW : w.alloc (.cells #[.int .i64 0, .slice none 0 0] 24) = W
    have hsz : W.heap.size = w.heap.size + 1 := by rw [← hW]; simp
    have hbW : Below w.heap.size w W := by rw [← hW]; exact (Below.refl _ _).alloc (Nat.le_refl _) _
    have hc1 : W.cell? ⟨w.heap.size, 0, none⟩ = some (.int .i64 0) := by rw [← hW, Rg.cellNew]; rfl
    have hc2 : W.cell? ⟨w.heap.size, 1, none⟩ = some (.slice none 0 0) := by rw [← hW, Rg.cellNew]; rfl
    have hf1 : ∀ o, W.frozen? ⟨w.heap.size, o, none⟩ = false := fun o => by rw [← hW]; exact frozenNewN _ _ _ 0 _
    clear hW
    obtain ⟨hC, hB⟩ := newG W x
    have n0 : (W.alloc (.cells #[.int .i64 0, .slice none 0 0] 24)).cell? ⟨W.heap.size, 0, none⟩ = some (.int .i64 0) := by rw [Rg.cellNew]; rfl
    have n1 : (W.alloc (.cells #[.int .i64 0, .slice none 0 0] 24)).cell? ⟨W.heap.size, 1, none⟩ = some (.slice none 0 0) := by rw [Rg.cellNew]; rfl
    refine wp_region_list ?_
    refine Rg.list_run (some 13) rfl rfl (Rg.exec_move _ rfl rfl) ?_
    go_frame
    refine Rg.list_run (some 14) rfl rfl (exec_buildG1 (d := (x : Int)) _ rfl rfl) ?_
    go_frame
    refine Rg.list_run (some 4) rfl rfl (exec_allocG rfl) ?_
    go_frame
    refine Rg.list_skip none rfl rfl (Rg.exec_store _ _ _ rfl _ rfl _ rfl (run_storeG (x : Int) none 0 0 n0 n1 (frozenNewN _ _ _ 0 _) (frozenNewN _ _ _ 0 _))) ?_
    go_frame
    clear n0 n1
    generalize ((W.alloc (.cells #[.int .i64 0, .slice none 0 0] 24)).setCell ⟨W.heap.size, 0, none⟩ (.int .i64 (x : Int))).setCell ⟨W.heap.size, 1, none⟩ (.slice none 0 0) = W3 at *
    have lt1 : w.heap.size < W.heap.size := by omega
    have hr1 := Lib.hid ((hB.cell (p := ⟨w.heap.size, 0, none⟩) lt1).trans hc1)
    have hr2 := Lib.hid ((hB.cell (p := ⟨w.heap.size, 1, none⟩) lt1).trans hc2)
    have hrf := Lib.hid (fun o => (hB.frozen (p := ⟨w.heap.size, o, none⟩) lt1).trans (hf1 o))
    have HB := Lib.hid (Rg.acc hbW hB)
    have HC := Lib.hid hC
    clear hc1 hc2 hf1 hC hB hbW g0 g1
    generalize hb : W.heap.size = b at *
    go_wp2
    go_loopw [5] (fun i wr => ∃ m : Nat, 2 ≤ m ∧ m ≤ x + 1 ∧ i = .int .i64 m ∧ Hid (∃ v us, Ck b x (m - 2) v us wr) ∧ Hid (Below b W3 wr)) (fun i _ => x + 1 - (intOf i).toNat)
    case atStart => exact ⟨2, by omega, by omega, rfl, Lib.hid ⟨_, _, HC.out⟩, Lib.hid (Below.refl _ _)⟩
    case round =>
      obtain ⟨m, hm2, hm, rfl, hs, hbel⟩ := hrel
      by_cases hlt : m ≤ x
      · go_upto_region 7 with (fail)
        obtain ⟨v, us, hc⟩ := hs.out
        have hsl : ∃ a c, v = .slice a (m - 2) c := Rg.row_shape hc.2.2.2.2.1
        obtain ⟨va, vc, rfl⟩ := hsl
        have HK := Lib.hid (show Ck b x (m - 2) _ us wr.drew from hc.below (Below.refl _ _).drew)
        have HBD := Lib.hid (show Below b W3 wr.drew from hbel.out.drew)
        clear hs hbel hc
        refine Rg.Any.begin (S := Rg.Both 8 (fun W => W.cell? ⟨b, 1, none⟩ = some (.slice va (m - 2) vc)) (fun _ => True)) mix ?_
        generalize wr.drew = W0 at *
        have hS : ∀ (l : Array Bool) W, W.cell? ⟨b, 1, none⟩ = some (.slice va (m - 2) vc) → Rg.Both 8 (fun W => W.cell? ⟨b, 1, none⟩ = some (.slice va (m - 2) vc)) (fun _ => True) l W := fun l W h => ⟨.inr h, trivial⟩
        have c0 := HK.out.2.2.1
        refine Rg.Any.takeG (i := 0) (t := 8) (v := .pointer (some ⟨b, 1, none⟩)) (some 20) rfl rfl (by kernel_rfl) (by kernel_rfl) (by kernel_rfl) (fun _ _ _ h => h) rfl (.inl ⟨rfl, fun w _ => exec_fieldG _ rfl rfl⟩) (hS _ _ c0) ?_
        go_frame
        refine Rg.Any.takeT (i := 1) (t := 8) (v := .slice va (m - 2) vc) (some 21) rfl rfl (by kernel_rfl) (by kernel_rfl) (by kernel_rfl) (fun _ _ _ h => h) rfl (by kernel_rfl) rfl (Rg.yields_cell _ _ rfl rfl ⟨b, 1, none⟩ rfl (fun W hW => Rg.run_loadSl _ _ Try.underlying22 hW)) (hS _ _ c0) ?_
        go_frame
        refine Rg.Any.takeG (i := 2) (t := 8) (v := .int .i64 (x : Int)) (some 22) rfl rfl (by kernel_rfl) (by kernel_rfl) (by kernel_rfl) (fun _ _ _ h => h) rfl (.inl ⟨rfl, fun w _ => rfl⟩) (hS _ _ c0) ?_
        go_frame
        refine Rg.Any.takeG (i := 3) (t := 8) (v := .int .i64 (m : Int)) (some 23) rfl rfl (by kernel_rfl) (by kernel_rfl) (by kernel_rfl) (fun _ _ _ h => h) rfl (.inl ⟨rfl, fun w _ => rfl⟩) (hS _ _ c0) ?_
        go_frame
        refine Rg.Any.one (i := 4) (by kernel_rfl) (Rg.Any.ask (some 24) rfl rfl rfl _ _ (exec_fn 41 _ _ _ rfl rfl rfl (clTurn _ _)) ?_)
        refine (turn_any x m W0 (by omega) (by omega) (by omega)).mono ?_
        rintro e w1 ⟨v1, rfl, hv1, hb1⟩
        obtain ⟨a1, n1, c1, rfl, Hv1⟩ := npf_open hv1
        have c1' := (HK.out.below hb1).2.2.1
        refine ⟨_, rfl, hS _ _ c1', ?_⟩
        go_frame
        refine Rg.Any.one (i := 5) (by kernel_rfl) (Rg.Any.run (some 25) rfl rfl rfl (Rg.exec_buildSlice _ _ _ rfl _ rfl (Rg.run_build1 slPerms _ _ _ _)) (hS _ _ ((HK.out.below hb1).below ((Below.refl _ _).alloc (Nat.le_refl _) _)).2.2.1) ?_)
        go_frame
        obtain ⟨ad, cp, X, r1, hK, hBX, x1, x2, x3⟩ := HK.out.app (by omega) hb1 (Nat.le_refl b) HBD.out (show Rg.NPF W0 w1 (.slice a1 n1 c1) (flp x (m - 2 + 2)) by rw [show m - 2 + 2 = m by omega]; exact Hv1.out) 22
        refine Rg.Any.one (i := 6) (by kernel_rfl) (Rg.Any.run (some 26) rfl rfl rfl (Rg.exec_append _ _ _ rfl rfl rfl r1) (hS _ _ x1) ?_)
        go_frame
        refine Rg.Any.one (i := 7) (by kernel_rfl) (Rg.Any.run (v := .pointer (some ⟨b, 1, none⟩)) (some 27) rfl rfl rfl (exec_fieldG _ rfl rfl) (hS _ _ x1) ?_)
        go_frame
        refine Rg.Any.one (i := 8) (by kernel_rfl) (Rg.Any.runSkip none rfl rfl rfl (Rg.exec_store _ _ _ rfl _ rfl _ rfl (Rg.run_storeSl _ infoPermsT x1 x2)) ⟨.inl rfl, trivial⟩ ?_)
        go_frame
        refine Rg.Any.done (by kernel_rfl) ?_ _
        have HK2 := Lib.hid hK
        have HB2 := Lib.hid hBX
        clear hK hBX r1 x1 x2 x3
        generalize X.setCell ⟨b, 1, none⟩ (.slice ad (m - 2 + 1) cp) = X2 at *
        go_wp2
        go_roundw
        case rel => exact ⟨m + 1, by omega, by omega, by go_num, Lib.hid ⟨_, _, by have := HK2.out; rwa [show m - 2 + 1 = m + 1 - 2 by omega] at this⟩, HB2⟩
        case measure => simp [intOf]; omega
      · have hmx : m - 2 = x - 1 := by omega
        obtain ⟨v, us, hc⟩ := hs.out
        have hsl : ∃ a c, v = .slice a (m - 2) c := Rg.row_shape hc.2.2.2.2.1
        obtain ⟨va, vc, rfl⟩ := hsl
        have hbo := hbel.out
        have k0 := (hbo.cell (p := ⟨w.heap.size, 0, none⟩) (by omega)).trans hr1.out
        have k1 := (hbo.cell (p := ⟨w.heap.size, 1, none⟩) (by omega)).trans hr2.out
        have kf := fun o => (hbo.frozen (p := ⟨w.heap.size, o, none⟩) (by omega)).trans (hrf.out o)
        have hbw : Below w.heap.size w wr := HB.out.trans (hbo.mono (by omega))
        have hL := run_loadG hc.2.1 hc.2.2.1
        have hSt := run_storeG (x : Int) va (m - 2) vc k0 k1 (kf 0) (kf 1)
        obtain ⟨p0, p1, p2⟩ := group_set (.int .i64 (x : Int)) (.slice va (m - 2) vc) k0 k1 hbw (Nat.le_refl _)
        have hR : RowsF (w.heap.size + 1) wr (.slice va (m - 2) vc) ((cks x (x - 1)).map Ma.ofN) := by
          have := hc.rows (by omega) (B := w.heap.size + 1) (by omega)
          rw [← hmx]; exact this
        have H := Lib.hid (And.intro p0 (And.intro p1 (And.intro p2 (((hR.set w.heap.size 0 (.int .i64 (x : Int)) (by omega)).set w.heap.size 1 (.slice va (m - 2) vc) (by omega)).mono (Nat.le_succ _)))))
        clear p0 p1 p2 hR k0 k1 kf hbw hc hbo hs hbel
        have HL := Lib.hid hL
        have HS := Lib.hid hSt
        clear hL hSt
        go_upto_region 8 with (fail)
        refine wp_region_list ?_
        refine Rg.list_run (some 28) rfl rfl (Rg.exec_load _ _ rfl _ rfl HL.out) ?_
        go_frame
        refine Rg.list_skip none rfl rfl (Rg.exec_store _ _ _ rfl _ rfl _ rfl HS.out) ?_
        go_frame
        refine Rg.list_run (some 3) rfl rfl (Rg.exec_assign _ rfl rfl) ?_
        go_frame
        clear HL HS
        generalize (wr.setCell ⟨w.heap.size, 0, none⟩ (.int .i64 (x : Int))).setCell ⟨w.heap.size, 1, none⟩ (.slice va (m - 2) vc) = W6 at *
        go_wp2
        refine bodyPost_ret (results_cellG2 rfl _ rfl rfl H.out.1 H.out.2.1) rfl ⟨_, _, _, ?_, H.out.2.2.2, H.out.2.2.1⟩
        rw [if_neg (by show ¬ ((x : Int) = 0); omega)]
        rfl
  · rw [show cakesR n = (0, []) from if_neg h]
    go_enter Try.func18, Try.ntmps18
    have hr0 : (w.alloc (.cells #[.int .i64 0, .slice none 0 0] 24)).cell? ⟨w.heap.size, 0, none⟩ = some (.int .i64 0) := by rw [Rg.cellNew]; rfl
    have hr1 : (w.alloc (.cells #[.int .i64 0, .slice none 0 0] 24)).cell? ⟨w.heap.size, 1, none⟩ = some (.slice none 0 0) := by rw [Rg.cellNew]; rfl
    have HS := Lib.hid (run_storeG 0 none 0 0 hr0 hr1 (frozenNewN _ _ _ 0 _) (frozenNewN _ _ _ 0 _))
    have HA := Lib.hid (group_set (.int .i64 0) (.slice none 0 0) hr0 hr1 ((Below.refl w.heap.size w).alloc (Nat.le_refl _) _) (Nat.le_refl _))
    clear hr0 hr1
    have hcase : n < 2 ∨ (¬ n < 2 ∧ 7 < n) := by omega
    rcases hcase with hlt | ⟨hlt, hgt⟩
    all_goals
      go_upto_region 2 with (fail)
      refine wp_region_list ?_
      refine Rg.list_run (some 12) rfl rfl (exec_buildZ rfl) ?_
      go_frame
      refine Rg.list_skip none rfl rfl (Rg.exec_store _ _ _ rfl _ rfl _ rfl HS.out) ?_
      go_frame
      refine Rg.list_run (some 3) rfl rfl (Rg.exec_assign _ rfl rfl) ?_
      go_frame
      clear HS
      generalize ((w.alloc (.cells #[.int .i64 0, .slice none 0 0] 24)).setCell ⟨w.heap.size, 0, none⟩ (.int .i64 0)).setCell ⟨w.heap.size, 1, none⟩ (.slice none 0 0) = W6 at *
      go_wp2
      exact bodyPost_ret (results_cellG2 rfl _ rfl rfl HA.out.1 HA.out.2.1) rfl ⟨_, _, _, rfl, rowsF_nil _ _, HA.out.2.2⟩
end Go.Proofs.Ytjifdmfoijoekaa.Rj

/-! puzzle.build's maker of the pancakes. -/
namespace Go.Proofs.Ytjifdmfoijoekaa.Rj
open Go.Proofs.Ytjifdmfoijoekaa
open Go.RowKit
open Go.Proofs
attribute [local irreducible] Go.Calls

theorem exec_indexI {o : Oper} {a : Act} {w : World} (x y : Operand) (ho : o.op = .indexAddr 27 x y) (b len cap i : Nat) (hx : a.eval x = .slice (some ⟨b, 0, none⟩) len cap) (hy : a.eval y = .int .i64 (i : Int)) (hi : i < len) :
    (execOp a.eval o).run Try.prog w = .ok (.value (.pointer (some ⟨b, i, none⟩))) w := by
  have := Rg.run_indexSl slInts w b 0 len cap i hi
  rw [Nat.zero_add] at this
  unfold execOp
  simp only [ho, hx, hy, Sem.run_bind, Sem.run_pure, Result.andThen_ok, this]

set_option maxHeartbeats 2000000 in
theorem build3_ok (x : Nat) (w : World) (bp ar cq : Nat) (hbp : bp < w.heap.size) (har : ar < w.heap.size)
    (h0 : w.cell? ⟨bp, 0, none⟩ = some (.slice (some ⟨ar, 0, none⟩) 1 cq)) (h1 : w.cell? ⟨ar, 0, none⟩ = some (.int .i64 x)) (h : 2 ≤ x ∧ x ≤ 7) :
    Calls Try.prog 61 #[.pointer (some ⟨bp, 0, none⟩)] w fun e w' => ∃ v, e = .returned (.agg #[.int .i64 (x : Int), v]) ∧ RowsF w.heap.size w' v ((cks x (x - 1)).map Ma.ofN) ∧ Below w.heap.size w w' := by
  have hba : Below w.heap.size w (w.alloc (.cells #[.int .i64 0, .slice none 0 0] 24)) := (Below.refl _ _).alloc (Nat.le_refl _) _
  have c0 := (hba.cell (p := ⟨bp, 0, none⟩) hbp).trans h0
  have c1 := (hba.cell (p := ⟨ar, 0, none⟩) har).trans h1
  have f0 : (0 : Int) < ((1 : Nat) : Int) := by decide
  have g1 : decide ((x : Int) < 2) = false := by rw [decide_eq_false_iff_not]; omega
  have g2 : decide ((7 : Int) < (x : Int)) = false := by rw [decide_eq_false_iff_not]; omega
  go_enter Try.func61, Try.ntmps61
  go_upto_region 3 with (fail)
  clear f0 g1 g2 hba
  generalize hW : w.alloc (.cells #[.int .i64 0, .slice none 0 0] 24) = W at *
  have hsz : W.heap.size = w.heap.size + 1 := by rw [← hW]; simp
  have hbW : Below w.heap.size w W := by rw [← hW]; exact (Below.refl _ _).alloc (Nat.le_refl _) _
  have hc1 : W.cell? ⟨w.heap.size, 0, none⟩ = some (.int .i64 0) := by rw [← hW, Rg.cellNew]; rfl
  have hc2 : W.cell? ⟨w.heap.size, 1, none⟩ = some (.slice none 0 0) := by rw [← hW, Rg.cellNew]; rfl
  have hf1 : ∀ o, W.frozen? ⟨w.heap.size, o, none⟩ = false := fun o => by rw [← hW]; exact frozenNewN _ _ _ 0 _
  clear hW
  obtain ⟨hC, hB⟩ := newG W x
  have n0 : (W.alloc (.cells #[.int .i64 0, .slice none 0 0] 24)).cell? ⟨W.heap.size, 0, none⟩ = some (.int .i64 0) := by rw [Rg.cellNew]; rfl
  have n1 : (W.alloc (.cells #[.int .i64 0, .slice none 0 0] 24)).cell? ⟨W.heap.size, 1, none⟩ = some (.slice none 0 0) := by rw [Rg.cellNew]; rfl
  refine wp_region_list ?_
  refine Rg.list_run (some 15) rfl rfl (Rg.exec_load _ _ rfl _ rfl (Rg.run_loadSl _ _ Try.underlying27 c0)) ?_
  go_frame
  refine Rg.list_run (some 16) rfl rfl (exec_indexI _ _ rfl ar 1 cq 0 rfl rfl (by decide)) ?_
  go_frame
  refine Rg.list_run (some 17) rfl rfl (Rg.exec_load _ _ rfl _ rfl (run_loadInt c1)) ?_
  go_frame
  refine Rg.list_run (some 18) rfl rfl (exec_buildG1 (d := (x : Int)) _ rfl rfl) ?_
  go_frame
  refine Rg.list_run (some 2) rfl rfl (exec_allocG rfl) ?_
  go_frame
  refine Rg.list_skip none rfl rfl (Rg.exec_store _ _ _ rfl _ rfl _ rfl (run_storeG (x : Int) none 0 0 n0 n1 (frozenNewN _ _ _ 0 _) (frozenNewN _ _ _ 0 _))) ?_
  go_frame
  clear n0 n1
  generalize ((W.alloc (.cells #[.int .i64 0, .slice none 0 0] 24)).setCell ⟨W.heap.size, 0, none⟩ (.int .i64 (x : Int))).setCell ⟨W.heap.size, 1, none⟩ (.slice none 0 0) = W3 at *
  have lt1 : w.heap.size < W.heap.size := by omega
  have hr1 := Lib.hid ((hB.cell (p := ⟨w.heap.size, 0, none⟩) lt1).trans hc1)
  have hr2 := Lib.hid ((hB.cell (p := ⟨w.heap.size, 1, none⟩) lt1).trans hc2)
  have hrf := Lib.hid (fun o => (hB.frozen (p := ⟨w.heap.size, o, none⟩) lt1).trans (hf1 o))
  have HB := Lib.hid (Rg.acc hbW hB)
  have d0 := Lib.hid ((hB.cell (p := ⟨bp, 0, none⟩) (show bp < _ by omega)).trans c0)
  have d1 := Lib.hid ((hB.cell (p := ⟨ar, 0, none⟩) (show ar < _ by omega)).trans c1)
  have HC := Lib.hid hC
  clear hc1 hc2 hf1 hC hB hbW c0 c1 h0 h1
  generalize hb : W.heap.size = b at *
  go_wp2
  go_loopw [3] (fun i wr => ∃ m : Nat, 2 ≤ m ∧ m ≤ x + 1 ∧ i = .int .i64 m ∧ Hid (∃ v us, Ck b x (m - 2) v us wr) ∧ Hid (Below b W3 wr)) (fun i _ => x + 1 - (intOf i).toNat)
  case atStart => exact ⟨2, by omega, by omega, rfl, Lib.hid ⟨_, _, HC.out⟩, Lib.hid (Below.refl _ _)⟩
  case round =>
    obtain ⟨m, hm2, hm, rfl, hs, hbel⟩ := hrel
    have e0 := (hbel.out.cell (p := ⟨bp, 0, none⟩) (show bp < _ by omega)).trans d0.out
    have e1 := (hbel.out.cell (p := ⟨ar, 0, none⟩) (show ar < _ by omega)).trans d1.out
    have f0 : (0 : Int) < ((1 : Nat) : Int) := by decide
    by_cases hlt : m ≤ x
    · go_upto_region 7 with (fail)
      obtain ⟨v, us, hc⟩ := hs.out
      have hsl : ∃ a c, v = .slice a (m - 2) c := Rg.row_shape hc.2.2.2.2.1
      obtain ⟨va, vc, rfl⟩ := hsl
      have HK := Lib.hid (show Ck b x (m - 2) _ us wr.drew from hc.below (Below.refl _ _).drew)
      have HBD := Lib.hid (show Below b W3 wr.drew from hbel.out.drew)
      clear hs hbel hc
      have E0 := Lib.hid (show wr.drew.cell? ⟨bp, 0, none⟩ = some (.slice (some ⟨ar, 0, none⟩) 1 cq) from e0)
      have E1 := Lib.hid (show wr.drew.cell? ⟨ar, 0, none⟩ = some (.int .i64 (x : Int)) from e1)
      clear e0 e1
      have hS : ∀ (l : Array Bool) W, W.cell? ⟨b, 1, none⟩ = some (.slice va (m - 2) vc) ∧ W.cell? ⟨bp, 0, none⟩ = some (.slice (some ⟨ar, 0, none⟩) 1 cq) ∧ W.cell? ⟨ar, 0, none⟩ = some (.int .i64 (x : Int)) → Rg.Both 10 (fun W => W.cell? ⟨b, 1, none⟩ = some (.slice va (m - 2) vc) ∧ W.cell? ⟨bp, 0, none⟩ = some (.slice (some ⟨ar, 0, none⟩) 1 cq) ∧ W.cell? ⟨ar, 0, none⟩ = some (.int .i64 (x : Int))) (fun _ => True) l W := fun l W h => ⟨.inr h, trivial⟩
      refine Rg.Any.begin (S := Rg.Both 10 (fun W => W.cell? ⟨b, 1, none⟩ = some (.slice va (m - 2) vc) ∧ W.cell? ⟨bp, 0, none⟩ = some (.slice (some ⟨ar, 0, none⟩) 1 cq) ∧ W.cell? ⟨ar, 0, none⟩ = some (.int .i64 (x : Int))) (fun _ => True)) mix ?_
      generalize wr.drew = W0 at *
      have c0 := And.intro HK.out.2.2.1 (And.intro E0.out E1.out)
      refine Rg.Any.takeG (i := 0) (t := 10) (v := .pointer (some ⟨b, 1, none⟩)) (some 26) rfl rfl (by kernel_rfl) (by kernel_rfl) (by kernel_rfl) (fun _ _ _ h => h) rfl (.inl ⟨rfl, fun w _ => exec_fieldG _ rfl rfl⟩) (hS _ _ c0) ?_
      go_frame
      refine Rg.Any.takeT (i := 1) (t := 10) (v := .slice va (m - 2) vc) (some 27) rfl rfl (by kernel_rfl) (by kernel_rfl) (by kernel_rfl) (fun _ _ _ h => h) rfl (by kernel_rfl) rfl (Rg.yields_cell _ _ rfl rfl ⟨b, 1, none⟩ rfl (fun W hW => Rg.run_loadSl _ _ Try.underlying22 hW.1)) (hS _ _ c0) ?_
      go_frame
      refine Rg.Any.takeT (i := 2) (t := 10) (v := .slice (some ⟨ar, 0, none⟩) 1 cq) (some 28) rfl rfl (by kernel_rfl) (by kernel_rfl) (by kernel_rfl) (fun _ _ _ h => h) rfl (by kernel_rfl) rfl (Rg.yields_cell _ _ rfl rfl ⟨bp, 0, none⟩ rfl (fun W hW => Rg.run_loadSl _ _ Try.underlying27 hW.2.1)) (hS _ _ c0) ?_
      go_frame
      refine Rg.Any.takeG (i := 3) (t := 10) (v := .pointer (some ⟨ar, 0, none⟩)) (some 29) rfl rfl (by kernel_rfl) (by kernel_rfl) (by kernel_rfl) (fun _ _ _ h => h) rfl (yields_indexI _ _ rfl rfl ar 1 cq 0 rfl rfl (by decide)) (hS _ _ c0) ?_
      go_frame
      refine Rg.Any.takeT (i := 4) (t := 10) (v := .int .i64 (x : Int)) (some 30) rfl rfl (by kernel_rfl) (by kernel_rfl) (by kernel_rfl) (fun _ _ _ h => h) rfl (by kernel_rfl) rfl (Rg.yields_cell _ _ rfl rfl ⟨ar, 0, none⟩ rfl (fun W hW => run_loadInt hW.2.2)) (hS _ _ c0) ?_
      go_frame
      refine Rg.Any.takeG (i := 5) (t := 10) (v := .int .i64 (m : Int)) (some 31) rfl rfl (by kernel_rfl) (by kernel_rfl) (by kernel_rfl) (fun _ _ _ h => h) rfl (.inl ⟨rfl, fun w _ => rfl⟩) (hS _ _ c0) ?_
      go_frame
      refine Rg.Any.one (i := 6) (by kernel_rfl) (Rg.Any.ask (some 32) rfl rfl rfl _ _ (exec_fn 60 _ _ _ rfl rfl rfl (clFlip _ _)) ?_)
      refine (flip_any x m W0 (by omega) (by omega) (by omega)).mono ?_
      rintro e w1 ⟨v1, rfl, hv1, hb1⟩
      obtain ⟨a1, n1, c1, rfl, Hv1⟩ := npf_open hv1
      have hlt0 := HK.out.1
      have c1' := And.intro (HK.out.below hb1).2.2.1 (And.intro ((hb1.cell (p := ⟨bp, 0, none⟩) (show bp < _ by omega)).trans E0.out) ((hb1.cell (p := ⟨ar, 0, none⟩) (show ar < _ by omega)).trans E1.out))
      refine ⟨_, rfl, hS _ _ c1', ?_⟩
      go_frame
      have hb2 : Below w1.heap.size w1 (w1.alloc (.cells #[.slice a1 n1 c1] 39)) := (Below.refl _ _).alloc (Nat.le_refl _) _
      have hs1 := hb1.size
      refine Rg.Any.one (i := 7) (by kernel_rfl) (Rg.Any.run (some 33) rfl rfl rfl (Rg.exec_buildSlice _ _ _ rfl _ rfl (Rg.run_build1 slPerms _ _ _ _)) (hS _ _ (And.intro ((HK.out.below hb1).below hb2).2.2.1 (And.intro ((hb2.cell (p := ⟨bp, 0, none⟩) (show bp < _ by omega)).trans c1'.2.1) ((hb2.cell (p := ⟨ar, 0, none⟩) (show ar < _ by omega)).trans c1'.2.2)))) ?_)
      go_frame
      obtain ⟨ad, cp, X, r1, hK, hBX, x1, x2, x3⟩ := HK.out.app (by omega) hb1 (Nat.le_refl b) HBD.out (show Rg.NPF W0 w1 (.slice a1 n1 c1) (flp x (m - 2 + 2)) by rw [show m - 2 + 2 = m by omega]; exact Hv1.out) 22
      have x4 := And.intro x1 (And.intro ((x3 bp 0 (by omega)).trans E0.out) ((x3 ar 0 (by omega)).trans E1.out))
      refine Rg.Any.one (i := 8) (by kernel_rfl) (Rg.Any.run (some 34) rfl rfl rfl (Rg.exec_append _ _ _ rfl rfl rfl r1) (hS _ _ x4) ?_)
      go_frame
      refine Rg.Any.one (i := 9) (by kernel_rfl) (Rg.Any.run (v := .pointer (some ⟨b, 1, none⟩)) (some 35) rfl rfl rfl (exec_fieldG _ rfl rfl) (hS _ _ x4) ?_)
      go_frame
      refine Rg.Any.one (i := 10) (by kernel_rfl) (Rg.Any.runSkip none rfl rfl rfl (Rg.exec_store _ _ _ rfl _ rfl _ rfl (Rg.run_storeSl _ infoPermsT x1 x2)) ⟨.inl rfl, trivial⟩ ?_)
      go_frame
      refine Rg.Any.done (by kernel_rfl) ?_ _
      have HK2 := Lib.hid hK
      have HB2 := Lib.hid hBX
      clear hK hBX r1 x1 x2 x3 x4 E0 E1 hS c0 c1'
      generalize X.setCell ⟨b, 1, none⟩ (.slice ad (m - 2 + 1) cp) = X2 at *
      go_wp2
      go_roundw
      case rel => exact ⟨m + 1, by omega, by omega, by go_num, Lib.hid ⟨_, _, by have := HK2.out; rwa [show m - 2 + 1 = m + 1 - 2 by omega] at this⟩, HB2⟩
      case measure => simp [intOf]; omega
    · have hmx : m - 2 = x - 1 := by omega
      obtain ⟨v, us, hc⟩ := hs.out
      have hsl : ∃ a c, v = .slice a (m - 2) c := Rg.row_shape hc.2.2.2.2.1
      obtain ⟨va, vc, rfl⟩ := hsl
      have hbo := hbel.out
      have k0 := (hbo.cell (p := ⟨w.heap.size, 0, none⟩) (by omega)).trans hr1.out
      have k1 := (hbo.cell (p := ⟨w.heap.size, 1, none⟩) (by omega)).trans hr2.out
      have kf := fun o => (hbo.frozen (p := ⟨w.heap.size, o, none⟩) (by omega)).trans (hrf.out o)
      have hbw : Below w.heap.size w wr := HB.out.trans (hbo.mono (by omega))
      have hL := run_loadG hc.2.1 hc.2.2.1
      have hSt := run_storeG (x : Int) va (m - 2) vc k0 k1 (kf 0) (kf 1)
      obtain ⟨p0, p1, p2⟩ := group_set (.int .i64 (x : Int)) (.slice va (m - 2) vc) k0 k1 hbw (Nat.le_refl _)
      have hR : RowsF (w.heap.size + 1) wr (.slice va (m - 2) vc) ((cks x (x - 1)).map Ma.ofN) := by
        have := hc.rows (by omega) (B := w.heap.size + 1) (by omega)
        rw [← hmx]; exact this
      have H := Lib.hid (And.intro p0 (And.intro p1 (And.intro p2 (((hR.set w.heap.size 0 (.int .i64 (x : Int)) (by omega)).set w.heap.size 1 (.slice va (m - 2) vc) (by omega)).mono (Nat.le_succ _)))))
      clear p0 p1 p2 hR k0 k1 kf hbw hc hbo hs hbel
      have HL := Lib.hid hL
      have HS := Lib.hid hSt
      clear hL hSt
      go_upto_region 8 with (fail)
      refine wp_region_list ?_
      refine Rg.list_run (some 36) rfl rfl (Rg.exec_load _ _ rfl _ rfl HL.out) ?_
      go_frame
      refine Rg.list_skip none rfl rfl (Rg.exec_store _ _ _ rfl _ rfl _ rfl HS.out) ?_
      go_frame
      clear HL HS
      generalize (wr.setCell ⟨w.heap.size, 0, none⟩ (.int .i64 (x : Int))).setCell ⟨w.heap.size, 1, none⟩ (.slice va (m - 2) vc) = W6 at *
      go_wp2
      exact bodyPost_ret (results_cellG rfl _ rfl H.out.1 H.out.2.1) rfl ⟨_, rfl, H.out.2.2.2, H.out.2.2.1⟩
end Go.Proofs.Ytjifdmfoijoekaa.Rj

/-! puzzle.Pancakes at any number. -/
namespace Go.Proofs.Ytjifdmfoijoekaa.Rj
open Go.Proofs.Ytjifdmfoijoekaa
open Go.RowKit
open Go.Proofs
attribute [local irreducible] Go.Calls

set_option maxHeartbeats 1000000 in
theorem build3_out (n : Int) (w : World) (bp ar cq : Nat) (hbp : bp < w.heap.size) (har : ar < w.heap.size)
    (h0 : w.cell? ⟨bp, 0, none⟩ = some (.slice (some ⟨ar, 0, none⟩) 1 cq)) (h1 : w.cell? ⟨ar, 0, none⟩ = some (.int .i64 n)) (h : ¬ (2 ≤ n ∧ n ≤ 7)) :
    Calls Try.prog 61 #[.pointer (some ⟨bp, 0, none⟩)] w fun e w' => ∃ v, e = .returned (.agg #[.int .i64 0, v]) ∧ RowsF w.heap.size w' v [] ∧ Below w.heap.size w w' := by
  have hba : Below w.heap.size w (w.alloc (.cells #[.int .i64 0, .slice none 0 0] 24)) := (Below.refl _ _).alloc (Nat.le_refl _) _
  have c0 := (hba.cell (p := ⟨bp, 0, none⟩) hbp).trans h0
  have c1 := (hba.cell (p := ⟨ar, 0, none⟩) har).trans h1
  have f0 : (0 : Int) < ((1 : Nat) : Int) := by decide
  go_enter Try.func61, Try.ntmps61
  have hr0 : (w.alloc (.cells #[.int .i64 0, .slice none 0 0] 24)).cell? ⟨w.heap.size, 0, none⟩ = some (.int .i64 0) := by rw [Rg.cellNew]; rfl
  have hr1 : (w.alloc (.cells #[.int .i64 0, .slice none 0 0] 24)).cell? ⟨w.heap.size, 1, none⟩ = some (.slice none 0 0) := by rw [Rg.cellNew]; rfl
  have HS := Lib.hid (run_storeG 0 none 0 0 hr0 hr1 (frozenNewN _ _ _ 0 _) (frozenNewN _ _ _ 0 _))
  have HA := Lib.hid (group_set (.int .i64 0) (.slice none 0 0) hr0 hr1 hba (Nat.le_refl _))
  clear hr0 hr1 h0 h1
  have hcase : n < 2 ∨ (¬ n < 2 ∧ 7 < n) := by omega
  rcases hcase with hlt | ⟨hlt, hgt⟩
  all_goals
    go_upto_region 2 with (fail)
    refine wp_region_list ?_
    refine Rg.list_run (some 14) rfl rfl (exec_buildZ rfl) ?_
    go_frame
    refine Rg.list_skip none rfl rfl (Rg.exec_store _ _ _ rfl _ rfl _ rfl HS.out) ?_
    go_frame
    clear HS c0 c1 hba
    generalize ((w.alloc (.cells #[.int .i64 0, .slice none 0 0] 24)).setCell ⟨w.heap.size, 0, none⟩ (.int .i64 0)).setCell ⟨w.heap.size, 1, none⟩ (.slice none 0 0) = W6 at *
    go_wp2
    exact bodyPost_ret (results_cellG rfl _ rfl HA.out.1 HA.out.2.1) rfl ⟨_, rfl, rowsF_nil _ _, HA.out.2.2⟩

theorem Pancakes_any (n : Int) (w : World) : Calls Try.prog 17 #[.int .i64 n] w (GroupPost (cakesR n).1 (cakesR n).2 w) := by
  by_cases h : 2 ≤ n ∧ n ≤ 7
  · rw [show cakesR n = (n, (cks n.toNat (n.toNat - 1)).map Ma.ofN) from if_pos h]
    obtain ⟨x, rfl⟩ : ∃ x : Nat, n = x := ⟨n.toNat, by omega⟩
    refine Pancakes_of _ _ _ w fun W r hW hr h0 => ?_
    intro w' bp hb hbp hn
    refine (build3_ok x w' bp r 1 hbp (Nat.lt_of_lt_of_le hr hb.size) hn ((hb.cell (p := ⟨r, 0, none⟩) hr).trans h0) (by omega)).mono ?_
    rintro e w1 ⟨v, rfl, hv, hb1⟩
    obtain ⟨a', c', rfl, _⟩ := hv.rows.shape
    exact ⟨a', _, c', rfl, hv, hb1⟩
  · rw [show cakesR n = (0, []) from if_neg h]
    refine Pancakes_of _ _ _ w fun W r hW hr h0 => ?_
    intro w' bp hb hbp hn
    refine (build3_out n w' bp r 1 hbp (Nat.lt_of_lt_of_le hr hb.size) hn ((hb.cell (p := ⟨r, 0, none⟩) hr).trans h0) h).mono ?_
    rintro e w1 ⟨v, rfl, hv, hb1⟩
    obtain ⟨a', c', rfl, _⟩ := hv.rows.shape
    exact ⟨a', _, c', rfl, hv, hb1⟩
end Go.Proofs.Ytjifdmfoijoekaa.Rj

/-! The reference's Spin. -/
namespace Go.Proofs.Ytjifdmfoijoekaa.Rj
open Go.Proofs.Ytjifdmfoijoekaa
open Go.RowKit
open Go.Proofs
attribute [local irreducible] Go.Calls

theorem rings_end2 {w wd w2 : World} {v1 v2 : Value} {l1 l2 : List Nat} (hsz : wd.heap.size = w.heap.size + 1) (hr0 : wd.cell? ⟨w.heap.size, 0, none⟩ = some (.int .i64 0)) (hr1 : wd.cell? ⟨w.heap.size, 1, none⟩ = some (.slice none 0 0))
    (hrf : ∀ o, wd.frozen? ⟨w.heap.size, o, none⟩ = false) (hba : Below w.heap.size w wd) (hv1 : Rg.NP w2 v1 l1) (g1 : Rg.Fresh wd.heap.size v1) (hv2 : Rg.NP w2 v2 l2) (g2 : Rg.Fresh wd.heap.size v2) (hb2 : Below wd.heap.size wd w2) :
    (Instr.buildSlice 22 2 #[(0, v1), (1, v2)]).run Try.prog w2 = .ok (.slice (some ⟨w2.heap.size, 0, none⟩) 2 2) (w2.alloc (.cells #[v1, v2] 39)) ∧
    (w2.alloc (.cells #[v1, v2] 39)).cell? ⟨w.heap.size, 0, none⟩ = some (.int .i64 0) ∧ (w2.alloc (.cells #[v1, v2] 39)).cell? ⟨w.heap.size, 1, none⟩ = some (.slice none 0 0) ∧
    (w2.alloc (.cells #[v1, v2] 39)).frozen? ⟨w.heap.size, 0, none⟩ = false ∧ (w2.alloc (.cells #[v1, v2] 39)).frozen? ⟨w.heap.size, 1, none⟩ = false ∧
    (∀ x y, RowsF w.heap.size (((w2.alloc (.cells #[v1, v2] 39)).setCell ⟨w.heap.size, 0, none⟩ x).setCell ⟨w.heap.size, 1, none⟩ y) (.slice (some ⟨w2.heap.size, 0, none⟩) 2 2) [Ma.ofN l1, Ma.ofN l2]) ∧
    (∀ x y, (((w2.alloc (.cells #[v1, v2] 39)).setCell ⟨w.heap.size, 0, none⟩ x).setCell ⟨w.heap.size, 1, none⟩ y).cell? ⟨w.heap.size, 0, none⟩ = some x ∧ (((w2.alloc (.cells #[v1, v2] 39)).setCell ⟨w.heap.size, 0, none⟩ x).setCell ⟨w.heap.size, 1, none⟩ y).cell? ⟨w.heap.size, 1, none⟩ = some y ∧
      Below w.heap.size w (((w2.alloc (.cells #[v1, v2] 39)).setCell ⟨w.heap.size, 0, none⟩ x).setCell ⟨w.heap.size, 1, none⟩ y)) := by
  have h2 : Below wd.heap.size wd (w2.alloc (.cells #[v1, v2] 39)) := hb2.alloc hb2.size _
  have s1 := hb2.size
  obtain ⟨k1, k2⟩ := Rg.bcell h2
  have hlt : w.heap.size < wd.heap.size := by omega
  refine ⟨run_buildP2 _ _ _ ?_ ?_, (k1 _ _ hlt).trans hr0, (k1 _ _ hlt).trans hr1, (k2 _ _ hlt).trans (hrf _), (k2 _ _ hlt).trans (hrf _), fun x y => ?_, fun x y => group_set x y ((k1 _ _ hlt).trans hr0) ((k1 _ _ hlt).trans hr1) (Rg.acc hba h2)⟩
  · obtain ⟨a, c, e, _⟩ := hv1.shape; exact ⟨a, _, c, e⟩
  · obtain ⟨a, c, e, _⟩ := hv2.shape; exact ⟨a, _, c, e⟩
  · exact (((RowsF.two 39 (B := w.heap.size + 1) hv1 hv2 (g1.mono (by omega)) (g2.mono (by omega)) (by omega)).set _ _ _ (by omega)).set _ _ _ (by omega)).mono (by omega)

theorem cyc_get (n a b i : Nat) (h : i < (cyc n a b).length) : (cyc n a b)[i] = if i + 1 = b then a else if a ≤ i ∧ i < b then i + 1 else i := by simp [cyc]
theorem clOne (args : Array Value) (w : World) : (callFunc 40 args).run Try.prog w = .ok (.enter 40 args) w := by kernel_rfl

set_option maxHeartbeats 2000000 in
theorem refSpin_any (n k : Int) (w : World) : Calls Try.prog 16 #[.int .i64 n, .int .i64 k] w (GroupPost (spinR n k).1 (spinR n k).2 w) := by
  have hr0 : (w.alloc (.cells #[.int .i64 0, .slice none 0 0] 24)).cell? ⟨w.heap.size, 0, none⟩ = some (.int .i64 0) := by rw [Rg.cellNew]; rfl
  have hr1 : (w.alloc (.cells #[.int .i64 0, .slice none 0 0] 24)).cell? ⟨w.heap.size, 1, none⟩ = some (.slice none 0 0) := by rw [Rg.cellNew]; rfl
  by_cases h : 2 ≤ n ∧ n ≤ 64 ∧ 2 ≤ k ∧ k ≤ n
  · rw [show spinR n k = (n, (spinG n.toNat k.toNat).map Ma.ofN) from if_pos h]
    obtain ⟨x, rfl⟩ : ∃ x : Nat, n = x := ⟨n.toNat, by omega⟩
    obtain ⟨y, rfl⟩ : ∃ x : Nat, k = x := ⟨k.toNat, by omega⟩
    have g1 : ¬ (x : Int) < 2 := by omega
    have g2 : ¬ (64 : Int) < (x : Int) := by omega
    have g3 : ¬ (y : Int) < 2 := by omega
    have g4 : ¬ (x : Int) < (y : Int) := by omega
    have hsz : (w.alloc (.cells #[.int .i64 0, .slice none 0 0] 24)).heap.size = w.heap.size + 1 := by simp
    have hba : Below w.heap.size w (w.alloc (.cells #[.int .i64 0, .slice none 0 0] 24)) := (Below.refl _ _).alloc (Nat.le_refl _) _
    have hrf : ∀ o, (w.alloc (.cells #[.int .i64 0, .slice none 0 0] 24)).frozen? ⟨w.heap.size, o, none⟩ = false := fun o => frozenNewN _ _ _ 0 _
    go_enter Try.func16, Try.ntmps16
    go_upto_region 3 with (fail)
    clear g1 g2 g3 g4
    generalize w.alloc (.cells #[.int .i64 0, .slice none 0 0] 24) = wd at *
    have H0 := Lib.hid (And.intro hr0 (And.intro hr1 (And.intro hrf hba)))
    clear hr0 hr1 hrf hba
    go_wp2_with (go_at_call 40; refine (kitOne_row x _ (by omega) (by omega)).mono ?_; rintro e w1 ⟨g, cap, rfl, hg, hc, hcm, hr, hb0⟩; have Hr := Lib.hid hr; clear hr)
    go_loopw [7] (fun i wr => ∃ k : Nat, k ≤ x ∧ i = .int .i64 k ∧ Hid (RowAt wr g x (fun j => if j < k then ((if j + 1 = x then 0 else j + 1 : Nat) : Int) else (j : Int))) ∧ Below wd.heap.size wd wr) (fun i _ => x - (intOf i).toNat)
    case atStart => exact ⟨0, by omega, rfl, Lib.hid (Hr.out.congr fun i hi => by rw [if_neg (by omega)]), hb0⟩
    case round =>
      clear Hr hb0
      obtain ⟨k, hk, rfl, hs, hbel⟩ := hrel
      by_cases hlt : k < x
      · have c1 := hs.out.2.1 k (by omega)
        have f1 := hs.out.2.2 k
        have hx0 : ¬ (x : Int) = 0 := by omega
        have e1 : ((k : Int) + 1).tmod (x : Int) = ((if k + 1 = x then 0 else k + 1 : Nat) : Int) := by
          by_cases e : k + 1 = x
          · rw [if_pos e, show (k : Int) + 1 = x by omega]
            exact Int.tmod_self
          · rw [if_neg e]
            exact Int.tmod_eq_of_lt (by omega) (by omega)
        go_wp2
        go_roundw
        case rel =>
          refine ⟨k + 1, by omega, by go_num, ?_, hbel.setCell hg _⟩
          refine Lib.hid ((RowAt.set hs.out k _ (by omega)).congr fun i hi => ?_)
          by_cases e : i = k
          · subst e; rw [if_pos rfl, if_pos (show i < i + 1 by omega)]
          · rw [if_neg e]
            by_cases e2 : i < k
            · rw [if_pos e2, if_pos (show i < k + 1 by omega)]
            · rw [if_neg e2, if_neg (show ¬ i < k + 1 by omega)]
        case measure => simp [intOf]; omega
      · obtain rfl : k = x := by omega
        have hNP : Rg.NP wr (.slice (some ⟨g, 0, none⟩) k cap) (cyc k 0 k) := hs.out.np (cyc k 0 k) (len_cyc k 0 k) hc hcm (by omega) (fun i hi => by
          rw [cyc_get]
          rw [len_cyc] at hi
          rw [if_pos hi]
          by_cases e : i + 1 = k
          · rw [if_pos e, if_pos e]
          · rw [if_neg e, if_neg e, if_pos (by omega)])
        have hF : Rg.Fresh wd.heap.size (.slice (some ⟨g, 0, none⟩) k cap) := (Rg.Fresh.mk _ _ _ _).mono hg
        have HN := Lib.hid hNP
        clear hNP hs
        have HB := Lib.hid hbel
        clear hbel
        go_upto_region 8 with (fail)
        refine wp_region_list ?_
        refine Rg.list_run (some 38) rfl rfl (Rg.exec_move _ rfl rfl) ?_
        go_frame
        refine Rg.list_run (some 39) rfl rfl (Rg.exec_move _ rfl rfl) ?_
        go_frame
        refine Rg.list_run (some 40) rfl rfl (Rg.exec_move _ rfl rfl) ?_
        go_frame
        refine Rg.list_run (some 41) rfl rfl (Rg.exec_move _ rfl rfl) ?_
        go_frame
        refine list_ask (some 42) rfl rfl _ _ (exec_fn 41 _ _ _ rfl rfl rfl (clTurn _ _)) ?_
        refine (turn_any k y wr (by omega) (by omega) (by omega)).mono ?_
        rintro e w2 ⟨v2, rfl, hv2, hb2⟩
        obtain ⟨a2, n2, c2, rfl, Hv2⟩ := npf_open hv2
        refine ⟨_, rfl, ?_⟩
        go_frame
        have hsw := HB.out.size
        obtain ⟨q0, q1, q2, q3, q4, q5, q6⟩ := rings_end2 hsz H0.out.1 H0.out.2.1 H0.out.2.2.1 H0.out.2.2.2 (HN.out.below hb2) hF Hv2.out.1 (Hv2.out.2.mono hsw) (Rg.acc HB.out hb2)
        refine Rg.list_run (some 43) rfl rfl (exec_buildP (u1 := .slice (some ⟨g, 0, none⟩) k cap) (u2 := .slice a2 n2 c2) _ _ rfl rfl rfl q0) ?_
        go_frame
        refine Rg.list_run (some 44) rfl rfl (exec_buildG (d := (k : Int)) _ _ rfl rfl rfl) ?_
        go_frame
        have hz := q6 (.int .i64 (k : Int)) (.slice (some ⟨w2.heap.size, 0, none⟩) 2 2)
        have hg := q5 (.int .i64 (k : Int)) (.slice (some ⟨w2.heap.size, 0, none⟩) 2 2)
        refine Rg.list_skip none rfl rfl (Rg.exec_store _ _ _ rfl _ rfl _ rfl (run_storeG (k : Int) _ 2 2 q1 q2 q3 q4)) ?_
        go_frame
        refine Rg.list_run (some 5) rfl rfl (Rg.exec_assign _ rfl rfl) ?_
        go_frame
        have HA := Lib.hid (And.intro hz hg)
        clear hz hg q0 q1 q2 q3 q4 q5 q6 HN HB
        generalize ((w2.alloc (.cells #[.slice (some ⟨g, 0, none⟩) k cap, .slice a2 n2 c2] 39)).setCell ⟨w.heap.size, 0, none⟩ (.int .i64 (k : Int))).setCell ⟨w.heap.size, 1, none⟩ (.slice (some ⟨w2.heap.size, 0, none⟩) 2 2) = W6 at *
        go_wp2
        refine bodyPost_ret (results_cellG2 rfl _ rfl rfl HA.out.1.1 HA.out.1.2.1) rfl ⟨_, _, _, ?_, HA.out.2, HA.out.1.2.2⟩
        rw [if_neg (by show ¬ ((k : Int) = 0); omega)]
        rfl
  · rw [show spinR n k = (0, []) from if_neg h]
    go_enter Try.func16, Try.ntmps16
    have HS := Lib.hid (run_storeG 0 none 0 0 hr0 hr1 (frozenNewN _ _ _ 0 _) (frozenNewN _ _ _ 0 _))
    have HA := Lib.hid (group_set (.int .i64 0) (.slice none 0 0) hr0 hr1 ((Below.refl w.heap.size w).alloc (Nat.le_refl _) _) (Nat.le_refl _))
    clear hr0 hr1
    have hcase : n < 2 ∨ (¬ n < 2 ∧ 64 < n) ∨ (¬ n < 2 ∧ ¬ 64 < n ∧ k < 2) ∨ (¬ n < 2 ∧ ¬ 64 < n ∧ ¬ k < 2 ∧ n < k) := by omega
    rcases hcase with x1 | ⟨x1, x2⟩ | ⟨x1, x2, x3⟩ | ⟨x1, x2, x3, x4⟩
    all_goals
      go_upto_region 2 with (fail)
      refine wp_region_list ?_
      refine Rg.list_run (some 23) rfl rfl (exec_buildZ rfl) ?_
      go_frame
      refine Rg.list_skip none rfl rfl (Rg.exec_store _ _ _ rfl _ rfl _ rfl HS.out) ?_
      go_frame
      refine Rg.list_run (some 5) rfl rfl (Rg.exec_assign _ rfl rfl) ?_
      go_frame
      clear HS
      generalize ((w.alloc (.cells #[.int .i64 0, .slice none 0 0] 24)).setCell ⟨w.heap.size, 0, none⟩ (.int .i64 0)).setCell ⟨w.heap.size, 1, none⟩ (.slice none 0 0) = W6 at *
      go_wp2
      exact bodyPost_ret (results_cellG2 rfl _ rfl rfl HA.out.1 HA.out.2.1) rfl ⟨_, _, _, rfl, rowsF_nil _ _, HA.out.2.2⟩
end Go.Proofs.Ytjifdmfoijoekaa.Rj

/-! The reference's Rings. -/
namespace Go.Proofs.Ytjifdmfoijoekaa.Rj
open Go.Proofs.Ytjifdmfoijoekaa
open Go.RowKit
open Go.Proofs
attribute [local irreducible] Go.Calls

theorem tmod_next (k b : Nat) (hk : k < b) : ((k : Int) + 1).tmod (b : Int) = ((if k + 1 = b then 0 else k + 1 : Nat) : Int) := by
  by_cases e : k + 1 = b
  · rw [if_pos e, show (k : Int) + 1 = b by omega]
    exact Int.tmod_self
  · rw [if_neg e]
    exact Int.tmod_eq_of_lt (by omega) (by omega)

theorem exec_fn1 {o : Oper} {a : Act} {w : World} {u1 : Value} (F : FuncId) (x : Operand) (tys : Array TypeId) (ho : o.op = .call { callee := .value (.func F), args := #[x], argTypes := tys }) (hx : a.eval x = u1)
    (hF : (callFunc F #[u1]).run Try.prog w = .ok (.enter F #[u1]) w) : (execOp a.eval o).run Try.prog w = .ok (.enter F #[u1]) w := by
  unfold execOp
  have hf : a.eval (.func F) = .func (.func F) #[] #[] := rfl
  simp [ho, hx, hf, resolve, invoke, Deferred.ofValue, hF]

set_option maxHeartbeats 2000000 in
theorem refRings_any (a b k : Int) (w : World) : Calls Try.prog 14 #[.int .i64 a, .int .i64 b, .int .i64 k] w (GroupPost (ringsR a b k).1 (ringsR a b k).2 w) := by
  have hr0 : (w.alloc (.cells #[.int .i64 0, .slice none 0 0] 24)).cell? ⟨w.heap.size, 0, none⟩ = some (.int .i64 0) := by rw [Rg.cellNew]; rfl
  have hr1 : (w.alloc (.cells #[.int .i64 0, .slice none 0 0] 24)).cell? ⟨w.heap.size, 1, none⟩ = some (.slice none 0 0) := by rw [Rg.cellNew]; rfl
  by_cases h : 2 ≤ a ∧ a ≤ 32 ∧ 2 ≤ b ∧ b ≤ 32 ∧ 1 ≤ k ∧ k < a ∧ k < b
  · rw [show ringsR a b k = (a + b - k, (ringsG a.toNat b.toNat k.toNat).map Ma.ofN) from if_pos h]
    obtain ⟨x, rfl⟩ : ∃ x : Nat, a = x := ⟨a.toNat, by omega⟩
    obtain ⟨y, rfl⟩ : ∃ x : Nat, b = x := ⟨b.toNat, by omega⟩
    obtain ⟨z, rfl⟩ : ∃ x : Nat, k = x := ⟨k.toNat, by omega⟩
    obtain ⟨h1, h2, h3, h4, h5, h6, h7⟩ := h
    have g1 : ¬ (x : Int) < 2 := by omega
    have g2 : ¬ (32 : Int) < (x : Int) := by omega
    have g3 : ¬ (y : Int) < 2 := by omega
    have g4 : ¬ (32 : Int) < (y : Int) := by omega
    have g5 : ¬ (z : Int) < 1 := by omega
    have g6 : ¬ (x : Int) ≤ (z : Int) := by omega
    have g7 : ¬ (y : Int) ≤ (z : Int) := by omega
    have e0 : (x : Int) + (y : Int) - (z : Int) = ((x + y - z : Nat) : Int) := by omega
    have hsz : (w.alloc (.cells #[.int .i64 0, .slice none 0 0] 24)).heap.size = w.heap.size + 1 := by simp
    have hba : Below w.heap.size w (w.alloc (.cells #[.int .i64 0, .slice none 0 0] 24)) := (Below.refl _ _).alloc (Nat.le_refl _) _
    have hrf : ∀ o, (w.alloc (.cells #[.int .i64 0, .slice none 0 0] 24)).frozen? ⟨w.heap.size, o, none⟩ = false := fun o => frozenNewN _ _ _ 0 _
    go_enter Try.func14, Try.ntmps14
    go_upto_region 4 with (fail)
    clear g1 g2 g3 g4 g5 g6 g7
    rw [e0]
    generalize w.alloc (.cells #[.int .i64 0, .slice none 0 0] 24) = wd at *
    have H0 := Lib.hid (And.intro hr0 (And.intro hr1 (And.intro hrf hba)))
    clear hr0 hr1 hrf hba
    generalize hN : x + y - z = N at *
    refine wp_region_list ?_
    refine Rg.list_run (some 47) rfl rfl (Rg.exec_move (v := .int .i64 (N : Int)) _ rfl rfl) ?_
    go_frame
    refine list_ask (some 48) rfl rfl _ _ (exec_fn1 40 _ _ rfl rfl (clOne _ _)) ?_
    refine (kitOne_row N wd (by omega) (by omega)).mono ?_
    rintro e w1 ⟨g1, cap1, rfl, hg1, hc1, hcm1, hR1, hb1⟩
    refine ⟨_, rfl, ?_⟩
    go_frame
    refine Rg.list_run (some 49) rfl rfl (Rg.exec_move (v := .int .i64 (N : Int)) _ rfl rfl) ?_
    go_frame
    refine list_ask (some 50) rfl rfl _ _ (exec_fn1 40 _ _ rfl rfl (clOne _ _)) ?_
    refine (kitOne_row N w1 (by omega) (by omega)).mono ?_
    rintro e w2 ⟨g2, cap2, rfl, hg2, hc2, hcm2, hR2, hb2⟩
    refine ⟨_, rfl, ?_⟩
    go_frame
    refine Rg.list_run (some 9) rfl rfl (Rg.exec_assign (v := .slice (some ⟨g1, 0, none⟩) N cap1) _ rfl rfl) ?_
    go_frame
    refine Rg.list_run (some 10) rfl rfl (Rg.exec_assign (v := .slice (some ⟨g2, 0, none⟩) N cap2) _ rfl rfl) ?_
    go_frame
    have hlt12 : g1 < w1.heap.size := hR1.1
    have hR1' := Lib.hid (hR1.below hb2)
    have hR2' := Lib.hid hR2
    have hB2 := Lib.hid (Rg.acc hb1 hb2)
    have hg2' : wd.heap.size ≤ g2 := Nat.le_trans hb1.size hg2
    clear hR1 hR2 hb1 hb2
    go_wp2
    go_loopw [11] (fun i wr => ∃ k : Nat, k ≤ x ∧ i = .int .i64 k ∧ Hid (RowAt wr g1 N (fun j => if j < k then ((if j + 1 = x then 0 else j + 1 : Nat) : Int) else (j : Int))) ∧ Hid (RowAt wr g2 N (fun j => (j : Int))) ∧ Hid (Below wd.heap.size wd wr)) (fun i _ => x - (intOf i).toNat)
    case atStart => exact ⟨0, by omega, rfl, Lib.hid (hR1'.out.congr fun i hi => by rw [if_neg (by omega)]), hR2', hB2⟩
    case round =>
      clear hR1' hR2' hB2
      obtain ⟨k, hk, rfl, hs, hs2, hbel⟩ := hrel
      by_cases hlt : k < x
      · have c1 := hs.out.2.1 k (by omega)
        have f1 := hs.out.2.2 k
        have hx0 : ¬ (x : Int) = 0 := by omega
        have e1 := tmod_next k x hlt
        have hkN : (k : Int) < (N : Int) := by omega
        go_wp2
        go_roundw
        case rel =>
          refine ⟨k + 1, by omega, by go_num, ?_, Lib.hid (RowAt.other hs2.out _ _ (by omega)), Lib.hid (hbel.out.setCell hg1 _)⟩
          refine Lib.hid ((RowAt.set hs.out k _ (by omega)).congr fun i hi => ?_)
          by_cases e : i = k
          · subst e; rw [if_pos rfl, if_pos (show i < i + 1 by omega)]
          · rw [if_neg e]
            by_cases e2 : i < k
            · rw [if_pos e2, if_pos (show i < k + 1 by omega)]
            · rw [if_neg e2, if_neg (show ¬ i < k + 1 by omega)]
        case measure => simp [intOf]; omega
      · obtain rfl : k = x := by omega
        have HN1 := hs
        have HR2 := hs2
        have HB2 := hbel
        clear hs hs2 hbel
        go_wp2
        go_loopw [12] (fun i wr => ∃ j : Nat, j ≤ y ∧ i = .int .i64 j ∧ Hid (RowAt wr g2 N (fun p => if k - z ≤ p ∧ p < k - z + j then ((if p + 1 = N then k - z else p + 1 : Nat) : Int) else (p : Int))) ∧ Hid (RowAt wr g1 N (fun j => if j < k then ((if j + 1 = k then 0 else j + 1 : Nat) : Int) else (j : Int))) ∧ Hid (Below wd.heap.size wd wr)) (fun i _ => y - (intOf i).toNat)
        case atStart => exact ⟨0, by omega, rfl, Lib.hid (HR2.out.congr fun i hi => by rw [if_neg (by omega)]), HN1, HB2⟩
        case round =>
          clear HN1 HR2 HB2
          obtain ⟨j, hj, rfl, hs, hs2, hbel⟩ := hrel
          by_cases hlt2 : j < y
          · obtain ⟨p, hp'⟩ : ∃ p, Hid (p = k - z + j) := ⟨_, Lib.hid rfl⟩
            obtain ⟨q, hq'⟩ : ∃ q, Hid (q = if j + 1 = y then 0 else j + 1) := ⟨_, Lib.hid rfl⟩
            obtain ⟨c, hcc'⟩ : ∃ c, Hid (c = k - z) := ⟨_, Lib.hid rfl⟩
            obtain ⟨r, hr'⟩ : ∃ r, Hid (r = c + q) := ⟨_, Lib.hid rfl⟩
            have hp := hp'.out
            have hq := hq'.out
            have hcc := hcc'.out
            have hr := hr'.out
            have c1 := hs.out.2.1 p (by omega)
            have f1 := hs.out.2.2 p
            have hy0 : ¬ (y : Int) = 0 := by omega
            have e1 : ((j : Int) + 1).tmod (y : Int) = (q : Int) := by rw [hq]; exact tmod_next j y hlt2
            have e2 : (k : Int) - (z : Int) = (c : Int) := by omega
            have e3 : (c : Int) + (j : Int) = (p : Int) := by omega
            have e4 : (c : Int) + (q : Int) = (r : Int) := by omega
            have hkN : (p : Int) < (N : Int) := by omega
            have hrN : (r : Int) < (N : Int) := by
              by_cases e5 : j + 1 = y
              · rw [if_pos e5] at hq; omega
              · rw [if_neg e5] at hq; omega
            clear hp hq hcc hr
            go_wp2
            go_roundw
            case rel =>
              have hp := hp'.out
              have hq := hq'.out
              have hcc := hcc'.out
              have hr := hr'.out
              refine ⟨j + 1, by omega, by go_num, ?_, ?_, Lib.hid (hbel.out.setCell hg2' _)⟩
              · refine Lib.hid ((RowAt.set hs.out p _ (by omega)).congr fun i hi => ?_)
                by_cases e : i = p
                · rw [if_pos e, if_pos (show k - z ≤ i ∧ i < k - z + (j + 1) by omega)]
                  by_cases e5 : j + 1 = y
                  · rw [if_pos e5] at hq
                    rw [if_pos (show i + 1 = N by omega)]
                    omega
                  · rw [if_neg e5] at hq
                    rw [if_neg (show ¬ i + 1 = N by omega)]
                    omega
                · rw [if_neg e]
                  by_cases e5 : k - z ≤ i ∧ i < k - z + j
                  · rw [if_pos e5, if_pos (show k - z ≤ i ∧ i < k - z + (j + 1) by omega)]
                  · rw [if_neg e5, if_neg (show ¬ (k - z ≤ i ∧ i < k - z + (j + 1)) by omega)]
              · exact Lib.hid (RowAt.other hs2.out _ _ (by omega))
            case measure => simp [intOf]; omega
          · obtain rfl : j = y := by omega
            have hNP : Rg.NP wr (.slice (some ⟨g1, 0, none⟩) N cap1) (cyc N 0 k) := hs2.out.np (cyc N 0 k) (len_cyc N 0 k) hc1 hcm1 (by omega) (fun i hi => by
              rw [cyc_get]
              by_cases e : i + 1 = k
              · rw [if_pos (show i < k by omega), if_pos e, if_pos e]
              · rw [if_neg e, if_neg e]
                by_cases e2 : i < k
                · rw [if_pos e2, if_pos (by omega)]
                · rw [if_neg e2, if_neg (by omega)])
            have hNP2 : Rg.NP wr (.slice (some ⟨g2, 0, none⟩) N cap2) (cyc N (k - z) N) := hs.out.np (cyc N (k - z) N) (len_cyc N (k - z) N) hc2 hcm2 (by omega) (fun i hi => by
              rw [cyc_get]
              rw [len_cyc] at hi
              by_cases e : i + 1 = N
              · rw [if_pos (show k - z ≤ i ∧ i < k - z + j by omega), if_pos e, if_pos e]
              · rw [if_neg e, if_neg e]
                by_cases e2 : k - z ≤ i
                · rw [if_pos (show k - z ≤ i ∧ i < k - z + j by omega), if_pos (by omega)]
                · rw [if_neg (show ¬ (k - z ≤ i ∧ i < k - z + j) by omega), if_neg (by omega)])
            have hF1 : Rg.Fresh wd.heap.size (.slice (some ⟨g1, 0, none⟩) N cap1) := (Rg.Fresh.mk _ _ _ _).mono hg1
            have hF2 : Rg.Fresh wd.heap.size (.slice (some ⟨g2, 0, none⟩) N cap2) := (Rg.Fresh.mk _ _ _ _).mono hg2'
            obtain ⟨q0, q1, q2, q3, q4, q5, q6⟩ := rings_end2 hsz H0.out.1 H0.out.2.1 H0.out.2.2.1 H0.out.2.2.2 hNP hF1 hNP2 hF2 hbel.out
            have hz := q6 (.int .i64 (N : Int)) (.slice (some ⟨wr.heap.size, 0, none⟩) 2 2)
            have hg := q5 (.int .i64 (N : Int)) (.slice (some ⟨wr.heap.size, 0, none⟩) 2 2)
            have HA := Lib.hid (And.intro hz hg)
            have HQ := Lib.hid (And.intro q0 (And.intro q1 (And.intro q2 (And.intro q3 q4))))
            clear hz hg q0 q1 q2 q3 q4 q5 q6 hNP hNP2 hF1 hF2 hs hs2 hbel
            go_upto_region 13 with (fail)
            refine wp_region_list ?_
            refine Rg.list_run (some 83) rfl rfl (Rg.exec_move (v := .int .i64 (N : Int)) _ rfl rfl) ?_
            go_frame
            refine Rg.list_run (some 84) rfl rfl (Rg.exec_move (v := .slice (some ⟨g1, 0, none⟩) N cap1) _ rfl rfl) ?_
            go_frame
            refine Rg.list_run (some 85) rfl rfl (Rg.exec_move (v := .slice (some ⟨g2, 0, none⟩) N cap2) _ rfl rfl) ?_
            go_frame
            refine Rg.list_run (some 86) rfl rfl (exec_buildP (u1 := .slice (some ⟨g1, 0, none⟩) N cap1) (u2 := .slice (some ⟨g2, 0, none⟩) N cap2) _ _ rfl rfl rfl HQ.out.1) ?_
            go_frame
            refine Rg.list_run (some 87) rfl rfl (exec_buildG (d := (N : Int)) _ _ rfl rfl rfl) ?_
            go_frame
            refine Rg.list_skip none rfl rfl (Rg.exec_store _ _ _ rfl _ rfl _ rfl (run_storeG (N : Int) _ 2 2 HQ.out.2.1 HQ.out.2.2.1 HQ.out.2.2.2.1 HQ.out.2.2.2.2)) ?_
            go_frame
            refine Rg.list_run (some 7) rfl rfl (Rg.exec_assign (v := .int .i64 0) _ rfl rfl) ?_
            go_frame
            clear HQ
            generalize ((wr.alloc (.cells #[.slice (some ⟨g1, 0, none⟩) N cap1, .slice (some ⟨g2, 0, none⟩) N cap2] 39)).setCell ⟨w.heap.size, 0, none⟩ (.int .i64 (N : Int))).setCell ⟨w.heap.size, 1, none⟩ (.slice (some ⟨wr.heap.size, 0, none⟩) 2 2) = W6 at *
            go_wp2
            refine bodyPost_ret (results_cellG2 rfl _ rfl rfl HA.out.1.1 HA.out.1.2.1) rfl ⟨some ⟨wr.heap.size, 0, none⟩, 2, 2, ?_, ?_, HA.out.1.2.2⟩
            · rw [show (k : Int) + (j : Int) - (z : Int) = (N : Int) by omega, if_neg (show ¬ ((N : Int) = 0) by omega)]
              rfl
            · have := HA.out.2
              rw [← hN] at this
              exact this
  · rw [show ringsR a b k = (0, []) from if_neg h]
    go_enter Try.func14, Try.ntmps14
    have HS := Lib.hid (run_storeG 0 none 0 0 hr0 hr1 (frozenNewN _ _ _ 0 _) (frozenNewN _ _ _ 0 _))
    have HA := Lib.hid (group_set (.int .i64 0) (.slice none 0 0) hr0 hr1 ((Below.refl w.heap.size w).alloc (Nat.le_refl _) _) (Nat.le_refl _))
    clear hr0 hr1
    have hcase : a < 2 ∨ (¬ a < 2 ∧ 32 < a) ∨ (¬ a < 2 ∧ ¬ 32 < a ∧ b < 2) ∨ (¬ a < 2 ∧ ¬ 32 < a ∧ ¬ b < 2 ∧ 32 < b) ∨ (¬ a < 2 ∧ ¬ 32 < a ∧ ¬ b < 2 ∧ ¬ 32 < b ∧ k < 1) ∨ (¬ a < 2 ∧ ¬ 32 < a ∧ ¬ b < 2 ∧ ¬ 32 < b ∧ ¬ k < 1 ∧ a ≤ k) ∨ (¬ a < 2 ∧ ¬ 32 < a ∧ ¬ b < 2 ∧ ¬ 32 < b ∧ ¬ k < 1 ∧ ¬ a ≤ k ∧ b ≤ k) := by omega
    rcases hcase with x1 | ⟨x1, x2⟩ | ⟨x1, x2, x3⟩ | ⟨x1, x2, x3, x4⟩ | ⟨x1, x2, x3, x4, x5⟩ | ⟨x1, x2, x3, x4, x5, x6⟩ | ⟨x1, x2, x3, x4, x5, x6, x7⟩
    all_goals
      go_upto_region 2 with (fail)
      refine wp_region_list ?_
      refine Rg.list_run (some 41) rfl rfl (exec_buildZ rfl) ?_
      go_frame
      refine Rg.list_skip none rfl rfl (Rg.exec_store _ _ _ rfl _ rfl _ rfl HS.out) ?_
      go_frame
      refine Rg.list_run (some 7) rfl rfl (Rg.exec_assign (v := .int .i64 2) _ rfl rfl) ?_
      go_frame
      clear HS
      generalize ((w.alloc (.cells #[.int .i64 0, .slice none 0 0] 24)).setCell ⟨w.heap.size, 0, none⟩ (.int .i64 0)).setCell ⟨w.heap.size, 1, none⟩ (.slice none 0 0) = W6 at *
      go_wp2
      exact bodyPost_ret (results_cellG2 rfl _ rfl rfl HA.out.1 HA.out.2.1) rfl ⟨_, _, _, rfl, rowsF_nil _ _, HA.out.2.2⟩
end Go.Proofs.Ytjifdmfoijoekaa.Rj

