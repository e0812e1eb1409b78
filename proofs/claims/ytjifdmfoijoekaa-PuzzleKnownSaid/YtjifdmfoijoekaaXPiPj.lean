/- Lemmas and contracts on the way to the statement; no condition of their own beyond those written. -/
import Derived.Test.YtjifdmfoijoekaaXPePfPgPh
import Derived.Deep.MidRow
import Derived.Deep.WholeRow
import Derived.Laws.CopyOwn
set_option linter.unusedVariables false
namespace Go.Proofs.Ytjifdmfoijoekaa
open Go.RowKit
open Go.Proofs
attribute [local irreducible] Go.Calls

/-- a permutation as a key -/
def keyF (p : List Nat) (i : Nat) : Value := .int .u8 ((p.getD i 0 : Nat) : Int)
def keyC (p : List Nat) : Array Value := (Array.range 64).map (keyF p)
theorem size_keyC (p : List Nat) : (keyC p).size = 64 := by simp [keyC]
theorem get_keyC (p : List Nat) (i : Nat) (h : i < 64) : (keyC p)[i]? = some (keyF p i) := by simp [keyC, h]
theorem one_keyC (p : List Nat) : (keyC p).all (·.oneCell') = true := by
  refine Array.all_eq_true_iff_forall_mem.2 (fun v hv => ?_)
  obtain ⟨i, _, rfl⟩ := Array.mem_map.1 hv
  rfl
theorem infoKey : (Try.prog.info? 82).map (·.size) = some 64 := by kernel_rfl
theorem keyRow {w : World} {b : Nat} {p : List Nat} {f : Nat → Value} (h : w.rowIs b 82 64 f) (hf : ∀ i, i < 64 → f i = keyF p i) : w.heap[b]? = some (.cells (keyC p) 82 (0, 0)) := by
  obtain ⟨c, h1, h2, h3⟩ := h
  have : c = keyC p := by
    apply Array.ext_getElem?
    intro i
    by_cases hi : i < 64
    · rw [get_keyC p i hi, ← hf i hi]; exact h3 i hi
    · rw [Array.getElem?_eq_none (by omega), Array.getElem?_eq_none (by rw [size_keyC]; omega)]
  rw [← this]; exact h1

set_option maxHeartbeats 1000000 in
theorem packed_any (v : Value) (p : List Nat) (w : World) (h : Rg.NP w v p) (h2 : p.length ≤ 64) (h3 : ∀ x ∈ p, x < 256) :
    Calls Try.prog 52 #[v] w fun e w' => e = .returned (.agg (keyC p)) ∧ Below w.heap.size w w' := by
  obtain ⟨a, cap, rfl, hc, hm, _, hcell⟩ := h.shape
  have Hr := Lib.hid hcell
  clear hcell h
  have hz : ∀ (w1 : World) (cs : Array Value), cs = Array.replicate 64 (.int .u8 0) → (w1.alloc (.cells cs 82)).rowIs w1.heap.size 82 64 (fun j => .int .u8 (if j < 0 then (p.getD j 0 : Nat) else 0)) := by
    rintro w1 cs rfl
    have := World.rowIs_alloc w1 (Array.replicate 64 (.int .u8 0)) 82 (fun j => .int .u8 (if j < 0 then (p.getD j 0 : Nat) else 0)) (fun i hi => by simp at hi; simp [hi])
    simpa using this
  have HZ := Lib.hid hz
  clear hz
  go_enter Try.func52, Try.ntmps52
  go_wp2
  have hzz : w.heap.size + 1 = (w.alloc (.cells (Array.replicate 64 (.int .u8 0)) 82)).heap.size := by simp
  go_loopw [8] (fun i wr => ∃ k : Nat, k ≤ p.length ∧ i = .int .i64 k ∧ Hid (wr.rowIs w.heap.size 82 64 (fun j => .int .u8 (if j < 0 then (p.getD j 0 : Nat) else 0))) ∧ Hid (wr.rowIs (w.heap.size + 1) 82 64 (fun j => .int .u8 (if j < k then (p.getD j 0 : Nat) else 0))) ∧ Hid (Below w.heap.size w wr)) (fun i _ => p.length - (intOf i).toNat)
  case atStart => exact ⟨0, by omega, rfl, (HZ.out _ _ rfl).alloc _, by rw [hzz]; exact HZ.out _ _ rfl, ((Below.refl _ _).alloc (Nat.le_refl _) _).alloc (by simp) _⟩
  case round =>
    obtain ⟨k, hk, rfl, hs0, hs, hbel⟩ := hrel
    clear hzz
    by_cases hlt : k < p.length
    · obtain ⟨b, o, rfl, hb, hr⟩ := Hr.out (by omega)
      have e0 : wr.cell? ⟨b, o + k, none⟩ = some (.int .i64 ((p[k] : Nat) : Int)) := (hbel.out.cell (p := ⟨b, o + k, none⟩) hb).trans (hr k hlt)
      have hx := h3 _ (List.getElem_mem hlt)
      have hg := Ma.getD_lt hlt
      generalize p[k] = x at e0 hx hg
      have Hg := Lib.hid hg
      clear hg hr
      have c1 := hs.out.cell (i := k) (by omega)
      have f1 := hs.out.frozen k
      generalize (Value.int .u8 (if k < k then ((p.getD k 0 : Nat) : Int) else 0)) = u0 at c1
      go_wp2
      go_roundw
      case rel =>
        refine ⟨k + 1, by omega, by go_num, hs0.out.setOther (by simp) _, ?_, hbel.out.setCell (by simp) _⟩
        refine (hs.out.set k _).congr fun i hi => ?_
        by_cases e : i = k
        · subst e; rw [if_pos rfl, if_pos (by omega), Hg.out] <;> rfl
        · rw [if_neg e]
          by_cases e2 : i < k
          · rw [if_pos e2, if_pos (by omega)]
          · rw [if_neg e2, if_neg (by omega)]
      case measure => simp [intOf]; omega
    · obtain rfl : k = p.length := by omega
      have HK := Lib.hid (keyRow (p := p) hs.out (fun i hi => by
        unfold keyF
        by_cases e : i < p.length
        · rw [if_pos e]
        · rw [if_neg e, List.getD_eq_getElem?_getD, List.getElem?_eq_none (by omega)]; rfl))
      obtain ⟨Z, hZ, hZs, _⟩ := hs0.out
      have HZ2 := Lib.hid hZ
      clear hZ
      go_wp2_with (first | (with_reducible refine wpList_load_row rfl 82 _ rfl (w.heap.size + 1) rfl _ _ _ _ HK.out Try.underlying82 rfl (by rw [size_keyC]; exact infoKey) ?_) | (with_reducible refine wpList_store_row rfl 82 _ _ rfl w.heap.size (keyC p) rfl rfl _ _ HZ2.out (by rw [size_keyC]; exact infoKey) (by rw [size_keyC]; exact hZs) (one_keyC p) ?_))
      exact bodyPost_ret (v := .agg (keyC p)) (results_cell_row rfl _ _ w.heap.size _ (keyC p) _ _ rfl (setRow_heap _ _ _ _ _ _ HZ2.out) Try.underlying82 rfl (by rw [size_keyC]; exact infoKey)) rfl ⟨rfl, below_setRow hbel.out (Nat.le_refl _) _⟩

theorem keyC_row (w : World) (p : List Nat) : (w.alloc (.cells (keyC p) 82)).rowIs w.heap.size 82 64 (keyF p) := by
  have := World.rowIs_alloc w (keyC p) 82 (keyF p) (fun i hi => get_keyC p i (by rw [size_keyC] at hi; exact hi))
  rwa [size_keyC] at this

set_option maxHeartbeats 1000000 in
theorem times_any (v : Value) (p x : List Nat) (w : World) (h : Rg.NP w v x) (h2 : x.length ≤ 64) (hp : p.length = x.length) (hp2 : ∀ y ∈ p, y < x.length) (h3 : ∀ y ∈ x, y < x.length) :
    Calls Try.prog 53 #[.agg (keyC p), v] w fun e w' => e = .returned (.agg (keyC (Ma.mulN p x))) ∧ Below w.heap.size w w' := by
  obtain ⟨a, cap, rfl, hc, hm, _, hcell⟩ := h.shape
  have Hr := Lib.hid hcell
  clear hcell h
  have hz : ∀ (w1 : World) (cs : Array Value), cs = Array.replicate 64 (.int .u8 0) → (w1.alloc (.cells cs 82)).rowIs w1.heap.size 82 64 (fun j => .int .u8 (if j < 0 then 1 else 0)) := by
    rintro w1 cs rfl
    have := World.rowIs_alloc w1 (Array.replicate 64 (.int .u8 0)) 82 (fun j => .int .u8 (if j < 0 then 1 else 0)) (fun i hi => by simp at hi; simp [hi])
    simpa using this
  have HZ := Lib.hid hz
  have HP := Lib.hid hp
  have hk0 := keyC_row w p
  have HK0 := Lib.hid hk0
  clear hz hp hk0
  generalize hkc : keyC p = kc at *
  have Hkc := Lib.hid hkc
  clear hkc
  go_enter Try.func53, Try.ntmps53
  go_wp2
  have hzz : w.heap.size + 1 = (w.alloc (.cells kc 82)).heap.size := by simp
  go_loopw [8] (fun i wr => ∃ k : Nat, k ≤ x.length ∧ i = .int .i64 k ∧ Hid (wr.rowIs (w.heap.size + 1) 82 64 (fun j => .int .u8 (if j < 0 then 1 else 0))) ∧ Hid (wr.rowIs w.heap.size 82 64 (fun j => if j < k then keyF (Ma.mulN p x) j else keyF p j)) ∧ Hid (Below w.heap.size w wr)) (fun i _ => x.length - (intOf i).toNat)
  case atStart => exact ⟨0, by omega, rfl, by rw [hzz]; exact HZ.out _ _ rfl, ((HK0.out).congr (fun i hi => by simp)).alloc _, ((Below.refl _ _).alloc (Nat.le_refl _) _).alloc (by simp) _⟩
  case round =>
    obtain ⟨k, hk, rfl, hs0, hs, hbel⟩ := hrel
    clear hzz
    by_cases hlt : k < x.length
    · obtain ⟨b, o, rfl, hb, hr⟩ := Hr.out (by omega)
      have hkp : k < p.length := by rw [HP.out]; exact hlt
      have hy := hp2 _ (List.getElem_mem hkp)
      have c1 := hs.out.cell (i := k) (by omega)
      have f1 := hs.out.frozen k
      have hkf : (if k < k then keyF (Ma.mulN p x) k else keyF p k) = .int .u8 ((p[k] : Nat) : Int) := by
        rw [if_neg (Nat.lt_irrefl _)]; unfold keyF; rw [Ma.getD_lt hkp]
      rw [hkf] at c1
      have hmk : keyF (Ma.mulN p x) k = .int .u8 ((x.getD p[k] 0 : Nat) : Int) := by
        unfold keyF; rw [Ma.getD_lt (by rw [Ma.len_mulN]; exact hkp), Ma.get_mulN]
      generalize p[k] = y at c1 hy hmk
      have e0 : wr.cell? ⟨b, o + y, none⟩ = some (.int .i64 ((x[y] : Nat) : Int)) := (hbel.out.cell (p := ⟨b, o + y, none⟩) hb).trans (hr y hy)
      have hx2 := h3 _ (List.getElem_mem hy)
      rw [Ma.getD_lt hy] at hmk
      generalize x[y] = z at e0 hmk hx2
      have Hmk := Lib.hid hmk
      clear hmk hr hkf
      go_wp2
      go_roundw
      case rel =>
        refine ⟨k + 1, by omega, by go_num, hs0.out.setOther (by simp) _, ?_, hbel.out.setCell (by simp) _⟩
        refine (hs.out.set k _).congr fun i hi => ?_
        by_cases e : i = k
        · subst e; rw [if_pos rfl, if_pos (by omega), Hmk.out] <;> rfl
        · rw [if_neg e]
          by_cases e2 : i < k
          · rw [if_pos e2, if_pos (by omega)]
          · rw [if_neg e2, if_neg (by omega)]
      case measure => simp [intOf]; omega
    · obtain rfl : k = x.length := by omega
      have HK := Lib.hid (keyRow (p := Ma.mulN p x) hs.out (fun i hi => by
        by_cases e : i < x.length
        · rw [if_pos e]
        · rw [if_neg e]; unfold keyF
          rw [List.getD_eq_getElem?_getD, List.getElem?_eq_none (by rw [HP.out]; omega), List.getD_eq_getElem?_getD, List.getElem?_eq_none (by rw [Ma.len_mulN, HP.out]; omega)]))
      obtain ⟨Z, hZ, hZs, _⟩ := hs0.out
      have HZ2 := Lib.hid hZ
      clear hZ
      go_wp2_with (first | (with_reducible refine wpList_load_row rfl 82 _ rfl w.heap.size rfl _ _ _ _ HK.out Try.underlying82 rfl (by rw [size_keyC]; exact infoKey) ?_) | (with_reducible refine wpList_store_row rfl 82 _ _ rfl (w.heap.size + 1) (keyC (Ma.mulN p x)) rfl rfl _ _ HZ2.out (by rw [size_keyC]; exact infoKey) (by rw [size_keyC]; exact hZs) (one_keyC _) ?_))
      exact bodyPost_ret (v := .agg (keyC (Ma.mulN p x))) (results_cell_row rfl _ _ (w.heap.size + 1) _ (keyC (Ma.mulN p x)) _ _ rfl (setRow_heap _ _ _ _ _ _ HZ2.out) Try.underlying82 rfl (by rw [size_keyC]; exact infoKey)) rfl ⟨rfl, below_setRow hbel.out (Nat.le_succ _) _⟩

section
variable {ops : Array Oper} {rest : List Oper} {op : Oper} {a : Act} {w : World} {Q : Exit → Act → World → Prop}
theorem zeroKey : (Try.prog.info? 82).map (fun i => (i.zero, i.size)) = some (some (.agg (Array.replicate 64 (.int .u8 0))), 64) := by kernel_rfl
theorem allocKey (hgd : op.guard = none) (ho : op.op = .alloc 82) (h : wpList Try.prog ops Q rest (a.put op.dst (.pointer (some ⟨w.heap.size, 0, none⟩))) (w.alloc (.cells (Array.replicate 64 (.int .u8 0)) 82))) :
    wpList Try.prog ops Q (op :: rest) a w := by
  have hz := (zero_of_info zeroKey).1 w
  refine wpList_plain hgd fun K hK => ?_
  unfold Oper.wp execOp
  simp only [ho, Instr.alloc, Sem.run_bind, hz, Result.andThen_ok, newVar]
  simp [newRow, newObj, Sem.run, Value.cells, Result.andThen, Oper.upon]
  exact hK _ _ h
theorem set_fold : ∀ (l : List Value) (k : Nat) (Z : Array Value) (i : Nat), i < Z.size → ((l.zipIdx k).foldl (fun cs (x : Value × Nat) => cs.setIfInBounds (0 + x.2) x.1) Z)[i]? = if k ≤ i ∧ i < k + l.length then l[i - k]? else Z[i]?
  | [], k, Z, i, hi => by simp; omega
  | v :: l, k, Z, i, hi => by
    rw [List.zipIdx_cons, List.foldl_cons, set_fold l (k + 1) _ i (by simpa using hi)]
    by_cases h1 : k + 1 ≤ i ∧ i < k + 1 + l.length
    · rw [if_pos h1, if_pos (by simp; omega)]
      obtain ⟨j, rfl⟩ : ∃ j, i = k + 1 + j := ⟨i - (k + 1), by omega⟩
      rw [show k + 1 + j - (k + 1) = j from by omega, show k + 1 + j - k = j + 1 from by omega, List.getElem?_cons_succ]
    · rw [if_neg h1]
      by_cases h2 : i = k
      · subst h2
        rw [if_pos (by simp), Nat.zero_add, Nat.sub_self]
        simp [hi]
      · rw [if_neg (by simp; omega), Nat.zero_add, Array.getElem?_setIfInBounds_ne (by omega)]
theorem size_fold : ∀ (l : List (Value × Nat)) (Z : Array Value), (l.foldl (fun cs (x : Value × Nat) => cs.setIfInBounds (0 + x.2) x.1) Z).size = Z.size
  | [], Z => rfl
  | v :: l, Z => by rw [List.foldl_cons, size_fold l]; simp
theorem fill_key (Z c : Array Value) (h : Z.size = c.size) : c.zipIdx.foldl (fun cs (x : Value × Nat) => cs.setIfInBounds (0 + x.2) x.1) Z = c := by
  rw [← Array.foldl_toList, Array.toList_zipIdx]
  apply Array.ext_getElem?
  intro i
  by_cases hi : i < Z.size
  · rw [set_fold _ _ _ _ hi, if_pos (by simp; omega)]; simp
  · rw [Array.getElem?_eq_none (by rw [size_fold]; omega), Array.getElem?_eq_none (by omega)]
theorem buildKeyRun (w : World) (p : List Nat) : (Instr.buildSlice 60 1 #[(0, .agg (keyC p))]).run Try.prog w = .ok (.slice (some ⟨w.heap.size, 0, none⟩) 1 1) (w.alloc (.cells (keyC p) 82)) := by
  have hz := (zero_of_info zeroKey).1 w
  have hs : (sizeOf 82).run Try.prog w = .ok 64 w := by
    have := (zero_of_info zeroKey).2
    cases hq : Try.prog.info? 82 with
    | none => simp [hq] at this
    | some i => simp [hq] at this; simp [sizeOf, typeInfo, hq, this]
  have hf := fill_key ((Array.range (1 * 64)).map ((Array.replicate 64 (Value.int .u8 0))[· % 64]!)) (keyC p) (by rw [size_keyC]; simp)
  have hsz := size_keyC p
  unfold Instr.buildSlice
  simp only [Sem.run_bind, run_underlying Try.underlying60, Result.andThen_ok, hs]
  simp only [Nat.zero_add, Nat.one_mul, Array.size_zipIdx, hsz] at hf
  simp [hz, Result.andThen, Instr.fill, Value.cells, hsz, newRow]
  rw [hf]
theorem buildKey (hgd : op.guard = none) (x : Operand) (ho : op.op = .buildSlice 60 1 #[(0, x)]) (p : List Nat) (hx : a.eval x = .agg (keyC p))
    (h : wpList Try.prog ops Q rest (a.put op.dst (.slice (some ⟨w.heap.size, 0, none⟩) 1 1)) (w.alloc (.cells (keyC p) 82))) : wpList Try.prog ops Q (op :: rest) a w := by
  refine wpList_plain hgd fun K hK => ?_
  have hr := buildKeyRun w p
  unfold Oper.wp execOp
  simp [ho, hx, hr, Result.andThen, Oper.upon]
  exact hK _ _ h
/-- a key stored into a variable just made -/
theorem storeKey (hgd : op.guard = none) (x y : Operand) (ho : op.op = .store 82 x y) (p : List Nat) (Z : Array Value) (hZ : Z.size = 64) (hx : a.eval x = .pointer (some ⟨w.heap.size, 0, none⟩)) (hy : a.eval y = .agg (keyC p))
    (h : wpList Try.prog ops Q rest (a.put op.dst undef) (w.alloc (.cells (keyC p) 82))) : wpList Try.prog ops Q (op :: rest) a (w.alloc (.cells Z 82)) := by
  refine wpList_store_row hgd 82 x y ho w.heap.size (keyC p) hx hy _ _ (heap_alloc_last w _) (by rw [size_keyC]; exact infoKey) (by rw [size_keyC]; exact hZ) (one_keyC p) ?_
  rw [World.setRow_alloc_new]; exact h
/-- a key out of the middle of a block -/
theorem loadKeyRun (w : World) (b o : Nat) (p : List Nat) (hc : w.rangeAt b o (keyC p).toList) : (Instr.loadAt 82 (.pointer (some ⟨b, o, none⟩))).run Try.prog w = .ok (.agg (keyC p)) w := by
  have := run_loadAt_mid (P := Try.prog) w b o 82 (keyC p).toList _ hc Try.underlying82 rfl (by rw [Array.length_toList, size_keyC]; exact infoKey)
  simpa using this
theorem loadKey (hgd : op.guard = none) (x : Operand) (ho : op.op = .load 82 x) (b o : Nat) (hx : a.eval x = .pointer (some ⟨b, o, none⟩)) (p : List Nat) (hc : w.rangeAt b o (keyC p).toList)
    (h : wpList Try.prog ops Q rest (a.put op.dst (.agg (keyC p))) w) : wpList Try.prog ops Q (op :: rest) a w := by
  refine wpList_load_mid hgd 82 x ho b o hx (keyC p).toList _ hc Try.underlying82 rfl (by rw [Array.length_toList, size_keyC]; exact infoKey) ?_
  simpa using h
theorem range_new (w : World) (p : List Nat) : (w.alloc (.cells (keyC p) 82)).rangeAt w.heap.size 0 (keyC p).toList := fun j v hv => by
  rw [Nat.zero_add, Rg.cellNew]; simpa using hv
theorem range_below {w w' : World} {b o : Nat} {cs : List Value} (h : w.rangeAt b o cs) (hb : Below w.heap.size w w') : w'.rangeAt b o cs := fun j v hv => by
  have := h j v hv
  rw [hb.cell (p := ⟨b, o + j, none⟩) (World.block_lt_of_cell? w _ this)]; exact this
theorem range_grown {w w' : World} {b o : Nat} {cs : List Value} {k : Option Nat} (h : w.rangeAt b o cs) (hg : w.grownBy w' k) (hne : some b ≠ k) : w'.rangeAt b o cs := fun j v hv => hg.cell (h j v hv) hne
end
end Go.Proofs.Ytjifdmfoijoekaa

namespace Go.Proofs.Ytjifdmfoijoekaa
open Go.RowKit
open Go.Proofs
attribute [local irreducible] Go.Calls

theorem slInts : Rg.SlT Try.prog 27 3 (.int .i64 0) 8 := ⟨Try.underlying27, infoInt, rfl, by decide⟩
theorem infoPerm : (Try.prog.info? 39).map (fun i => (i.zero, i.size, i.bytes)) = some (some (.slice none 0 0), 1, 24) := by kernel_rfl
theorem slPerms : Rg.SlT Try.prog 22 39 (.slice none 0 0) 24 := ⟨Try.underlying22, infoPerm, rfl, by decide⟩

/-- the letters of n generators, and what they stand for -/
def lets (n : Nat) : List Int := (List.range n).flatMap fun (i : Nat) => [(i : Int) + 1, -(i : Int) - 1]
def moves (gs : List (List Nat)) : List (List Nat) := gs.flatMap fun s => [s, Ma.invN s]
theorem lets_succ (n : Nat) : lets (n + 1) = lets n ++ [(n : Int) + 1, -(n : Int) - 1] := by
  unfold lets; rw [List.range_succ, List.flatMap_append]; rfl
theorem moves_snoc (gs : List (List Nat)) (s : List Nat) : moves (gs ++ [s]) = moves gs ++ [s, Ma.invN s] := by
  unfold moves; rw [List.flatMap_append]; rfl
theorem moves_take {gs : List (List Nat)} {k : Nat} (hk : k < gs.length) : moves (gs.take (k + 1)) = (moves (gs.take k) ++ [gs[k]]) ++ [Ma.invN gs[k]] := by
  rw [List.take_succ_eq_append_getElem hk, moves_snoc, List.append_assoc]; rfl
theorem len_lets (n : Nat) : (lets n).length = 2 * n := by
  induction n with
  | zero => rfl
  | succ n ih => rw [lets_succ, List.length_append, ih]; simp; omega
theorem len_moves (gs : List (List Nat)) : (moves gs).length = 2 * gs.length := by
  induction gs with
  | nil => rfl
  | cons s r ih => show ([s, Ma.invN s] ++ moves r).length = _; rw [List.length_append, ih]; simp; omega

/-- good generators -/
def GG (d : Nat) (gs : List (List Nat)) : Prop := ∀ s ∈ gs, Ma.okN s ∧ s.length = d

/-- two rows of the call's own and the elements of the second one -/
structure Two (w0 w : World) (v1 v2 : Value) (n : Nat) (l : List Int) (us : List Value) (gs : List (List Nat)) : Prop where
  r1 : w.ownsRow w0.heap.size 3 1 v1 n (l.map (Value.int .i64))
  r2 : w.ownsRow w0.heap.size 39 1 v2 n us
  el : Rg.Elts w us gs
  o1 : Rg.Offs us v1.ownBlock
  o2 : Rg.Offs us v2.ownBlock
  ap : Rg.Apart v1 v2
  be : Below w0.heap.size w0 w
theorem Two.step {w0 wr w1 w2 w3 : World} {v1 v2 v1' v2' : Value} {n : Nat} {l : List Int} {us : List Value} {gs : List (List Nat)} {Vs Vb : Value} {s : List Nat} {x y : Int} {t1 t2 : TypeId} (h : Two w0 wr v1 v2 n l us gs)
    (hb1 : Below wr.heap.size wr w1) (hs : Rg.NP w0 Vs s) (hvb : Rg.NPF wr w1 Vb (Ma.invN s))
    (hr1 : w2.ownsRow w0.heap.size 3 1 v1' (n + 2) (l.map (Value.int .i64) ++ [.int .i64 x, .int .i64 y])) (hb2 : Below w0.heap.size w0 w2)
    (hg2 : (w1.alloc (.cells #[.int .i64 x, .int .i64 y] t1)).grownBy w2 v1.ownBlock) (ho2 : v1'.ownBlock = v1.ownBlock ∨ v1'.ownBlock = some (w1.heap.size + 1))
    (hr2 : w3.ownsRow w0.heap.size 39 1 v2' (n + 2) (us ++ [Vs, Vb])) (hb3 : Below w0.heap.size w0 w3)
    (hg3 : (w2.alloc (.cells #[Vs, Vb] t2)).grownBy w3 v2.ownBlock) (ho3 : v2'.ownBlock = v2.ownBlock ∨ v2'.ownBlock = some (w2.heap.size + 1)) :
    Two w0 w3 v1' v2' (n + 2) (l ++ [x, y]) (us ++ [Vs, Vb]) (gs ++ [s] ++ [Ma.invN s]) := by
  have A1 : Rg.Apart v1' v2 := h.ap.grow (Rg.row_below h.r2 hb1) ho2 (Nat.le_succ _)
  have ba1 : Below w1.heap.size w1 (w1.alloc (.cells #[.int .i64 x, .int .i64 y] t1)) := (Below.refl _ _).alloc (Nat.le_refl _) _
  have ba2 : Below w2.heap.size w2 (w2.alloc (.cells #[Vs, Vb] t2)) := (Below.refl _ _).alloc (Nat.le_refl _) _
  have nVs1 : Rg.NP w1 Vs s := hs.below (Rg.acc h.be hb1)
  have lt1 : ∀ b, v1.ownBlock = some b → w0.heap.size ≤ b := fun b e => (h.r1.lt b e).1
  have lt2 : ∀ b, v2.ownBlock = some b → w0.heap.size ≤ b := fun b e => (h.r2.lt b e).1
  have up1 : ∀ b, v1.ownBlock = some b → b < wr.heap.size := fun b e => (h.r1.lt b e).2
  have up2 : ∀ b, v2.ownBlock = some b → b < wr.heap.size := fun b e => (h.r2.lt b e).2
  have e1 : Rg.Elts w1 (us ++ [Vs] ++ [Vb]) (gs ++ [s] ++ [Ma.invN s]) := ((h.el.below hb1).snoc nVs1).snoc hvb.1
  have o1 : Rg.Offs (us ++ [Vs] ++ [Vb]) v1.ownBlock := (h.o1.snoc (Rg.Off.old hs (Nat.le_refl _) lt1)).snoc (Rg.Off.fresh hvb.2 up1)
  have o2 : Rg.Offs (us ++ [Vs] ++ [Vb]) v2.ownBlock := (h.o2.snoc (Rg.Off.old hs (Nat.le_refl _) lt2)).snoc (Rg.Off.fresh hvb.2 up2)
  have e2 := (e1.below ba1).grown o1 hg2
  have o1' := o1.next e1 ho2 (Nat.le_succ _)
  have e3 := (e2.below ba2).grown o2 hg3
  have o2' := o2.next e2 ho3 (Nat.le_succ _)
  rw [List.append_assoc us] at e3 o1' o2'
  have hA2 : Rg.Apart v2' v1' := A1.symm.grow hr1 ho3 (Nat.le_succ _)
  exact ⟨by rw [List.map_append]; exact A1.symm.keep (hr1.alloc _) hg3, hr2, e3, o1', o2', hA2.symm, hb3⟩

set_option maxRecDepth 100000 in
set_option maxHeartbeats 2000000 in
theorem letters_any (gv : Value) (d : Nat) (gs : List (List Nat)) (w : World) (h : Rg.NRows w gv gs) (hg : GG d gs) (h1 : 1 ≤ d) (h2 : d ≤ 64) (hl : gs.length ≤ 1000) (D : Int) :
    Calls Try.prog 33 #[.agg #[.int .i64 D, gv]] w fun e w' => ∃ v1 v2, e = .returned (.tuple #[v1, v2]) ∧ Rg.Ints w' v1 (lets gs.length) ∧ Rg.NRows w' v2 (moves gs) ∧ Below w.heap.size w w' := by
  obtain ⟨ad, cap, rfl, hc, hm, _, hcell⟩ := h.shape
  have Hr := Lib.hid hcell
  clear hcell h
  go_enter Try.func33, Try.ntmps33
  go_wp2
  go_loopw [4, 5, 13] (fun v1 v2 i wr => ∃ k : Nat, k ≤ gs.length ∧ i = .int .i64 k ∧ Hid (∃ us, Two w wr v1 v2 (2 * k) (lets k) us (moves (gs.take k)))) (fun _ _ i _ => gs.length - (intOf i).toNat)
  case atStart => exact ⟨0, by omega, rfl, [], World.ownsRow_nil _ _ _ _, World.ownsRow_nil _ _ _ _, Rg.Elts.nil _, Rg.Offs.nil _, Rg.Offs.nil _, Rg.Apart.nil _, (Below.refl _ _).alloc (Nat.le_refl _) _⟩
  case round =>
    obtain ⟨k, hk, rfl, hs⟩ := hrel
    obtain ⟨us, hus⟩ := hs.out
    have Hs := Lib.hid hus
    clear hus hs
    by_cases hlt : k < gs.length
    · obtain ⟨b, o, rfl, hb, hr⟩ := Hr.out (by omega)
      obtain ⟨u, eu, hu⟩ := hr k hlt
      have e0 : wr.cell? ⟨b, o + k, none⟩ = some u := (Hs.out.be.cell (p := ⟨b, o + k, none⟩) hb).trans eu
      have hu' := hu.below Hs.out.be
      obtain ⟨hgo, hgd⟩ := hg _ (List.getElem_mem hlt)
      have hmv := moves_take hlt
      generalize gs[k] = s at hu hu' hgo hgd hmv
      obtain ⟨n0, a0, c0, hn0, rfl, hl0⟩ := hu'.len
      have Hmv := Lib.hid hmv
      have Hu := Lib.hid hu'
      have Hu0 := Lib.hid hu
      have Hgd := Lib.hid hgd
      clear hmv eu hu hr hu' hgd hn0 hl0
      go_wp2_with (first | (go_at_call 49; refine (permInv_ok _ s _ Hu.out hgo (by rw [Hgd.out]; exact h1) (by rw [Hgd.out]; exact h2)).mono ?_; rintro e w1 ⟨vb, rfl, hvb, hb1⟩; obtain ⟨nb, ab, cb, hnb, rfl, hlb⟩ := hvb.1.len; clear hnb hlb; have Hvb := Lib.hid hvb; clear hvb) | (at_builtin; refine Rg.app2 rfl _ _ 27 rfl slInts (Rg.row_below Hs.out.r1 hb1) (Rg.acc Hs.out.be hb1) _ _ (by rfl) (by rfl) rfl rfl (by omega) ?_; intro v1' w2 hr1 hb2 hg2 ho2 hsh2) | (at_builtin; refine Rg.app2 rfl _ _ 22 rfl slPerms (Hs.out.ap.keep ((Rg.row_below Hs.out.r2 hb1).alloc _) hg2) hb2 _ _ (by rfl) (by rfl) rfl rfl (by omega) ?_; intro v2' w3 hr2 hb3 hg3 ho3 hsh3))
      go_roundw
      case rel => exact ⟨k + 1, by omega, by go_num, _, by rw [lets_succ, Hmv.out]; exact Hs.out.step hb1 Hu0.out Hvb.out hr1 hb2 hg2 ho2 hr2 hb3 hg3 ho3⟩
      case measure => simp [intOf]; omega
    · obtain rfl : k = gs.length := by omega
      go_wp2
      go_ret2
      have hT := Hs.out
      rw [List.take_length] at hT
      exact ⟨_, _, rfl, Rg.Ints.of_row hT.r1 (by omega), hT.el.rows (Rg.Vals.of_row hT.r2 (by omega)), hT.be⟩
end Go.Proofs.Ytjifdmfoijoekaa

