/- Lemmas and contracts on the way to the statement; no condition of their own beyond those written. -/
import Derived.Test.YtjifdmfoijoekaaXPk
import Derived.Test.YtjifdmfoijoekaaXRi
import Derived.IntWalk
set_option linter.unusedVariables false
namespace Go.Proofs.Ytjifdmfoijoekaa
open Go.RowKit
open Go.Proofs
attribute [local irreducible] Go.Calls Go.wpStill

/-! the pure ball -/
def gstep (d : Nat) (st : List (List Nat × Nat) × List (List Nat)) (y : List Nat) : List (List Nat × Nat) × List (List Nat) :=
  if (nd st.1 y).isSome then st else (st.1 ++ [(y, d)], st.2 ++ [y])
def cands (shell mv : List (List Nat)) : List (List Nat) := shell.flatMap fun k => mv.map fun x => Ma.mulN k x
def growD (near : List (List Nat × Nat)) (shell : List (List Nat)) : Nat := match shell with
  | [] => 0
  | k :: _ => (nd near k).getD 0 + 1
def growP (mv : List (List Nat)) (near : List (List Nat × Nat)) (shell : List (List Nat)) : List (List Nat × Nat) × List (List Nat) :=
  (cands shell mv).foldl (gstep (growD near shell)) (near, [])

/-- a group element of degree d -/
def Gd (d : Nat) (p : List Nat) : Prop := Ma.okN p ∧ p.length = d
theorem Gd.gk {d : Nat} {p : List Nat} (h : Gd d p) (hd : d ≤ 64) : GK d p := ⟨h.2, hd, fun x hx => by have := h.1.1 x hx; have := h.2; omega⟩
theorem Gd.mul {d : Nat} {p q : List Nat} (h : Gd d p) (h' : Gd d q) : Gd d (Ma.mulN p q) := ⟨Ma.okN_mulN h.1 h'.1 (h.2.trans h'.2.symm), by rw [Ma.len_mulN]; exact h.2⟩

/-- the state of the fold stays good -/
def GS (d : Nat) (st : List (List Nat × Nat) × List (List Nat)) : Prop := (∀ x ∈ st.1, Gd d x.1) ∧ (∀ y ∈ st.2, Gd d y)
theorem GS.step {d : Nat} {st : List (List Nat × Nat) × List (List Nat)} {y : List Nat} {n : Nat} (h : GS d st) (hy : Gd d y) : GS d (gstep n st y) := by
  unfold gstep
  split
  · exact h
  · refine ⟨fun x hx => ?_, fun x hx => ?_⟩
    · rcases List.mem_append.1 hx with hx | hx
      · exact h.1 x hx
      · obtain rfl : x = (y, n) := by simpa using hx
        exact hy
    · rcases List.mem_append.1 hx with hx | hx
      · exact h.2 x hx
      · obtain rfl : x = y := by simpa using hx
        exact hy
theorem gstep_len (n : Nat) (st : List (List Nat × Nat) × List (List Nat)) (y : List Nat) : (gstep n st y).2.length ≤ st.2.length + 1 := by
  unfold gstep; split <;> simp

/-- a row of the call's own that holds keys -/
def keysL (l : List (List Nat)) : List Value := l.flatMap fun p => (keyC p).toList
theorem keysL_snoc (l : List (List Nat)) (p : List Nat) : keysL (l ++ [p]) = keysL l ++ (keyC p).toList := by simp [keysL]
theorem len_keysL (l : List (List Nat)) : (keysL l).length = l.length * 64 := by
  induction l with
  | nil => rfl
  | cons p l ih => show ((keyC p).toList ++ keysL l).length = _; rw [List.length_append, ih, Array.length_toList, size_keyC, List.length_cons]; omega
theorem get_keysL : ∀ (l : List (List Nat)) (i : Nat) (h : i < l.length) (j : Nat) (v : Value), (keyC l[i]).toList[j]? = some v → (keysL l)[i * 64 + j]? = some v
  | p :: l, 0, _, j, v, hv => by
    show ((keyC p).toList ++ keysL l)[0 * 64 + j]? = _
    have hj : j < (keyC p).toList.length := (List.getElem?_eq_some_iff.1 hv).1
    rw [Nat.zero_mul, Nat.zero_add, List.getElem?_append_left hj]; exact hv
  | p :: l, i + 1, h, j, v, hv => by
    show ((keyC p).toList ++ keysL l)[(i + 1) * 64 + j]? = _
    have hl : (keyC p).toList.length = 64 := by rw [Array.length_toList, size_keyC]
    rw [List.getElem?_append_right (by rw [hl]; omega), hl, show (i + 1) * 64 + j - 64 = i * 64 + j from by omega]
    exact get_keysL l i (by simpa using h) j v hv
theorem keysAt_row {w : World} {base : Nat} {v : Value} {l : List (List Nat)} (h : w.ownsRow base 82 64 v l.length (keysL l)) (hl : l.length ≤ 1000000) : KeysAt w v l := by
  have hh := h
  obtain ⟨h1, h2⟩ := h
  rcases h2 with ⟨rfl, h0⟩ | ⟨g, cap, cur, rfl, hg, hc, h3, h4, h5, h6⟩
  · exact ⟨none, 0, by rw [h0], by omega, hl, fun h => by omega⟩
  · refine ⟨_, cap, rfl, h3, hl, fun _ => ⟨g, rfl, (Array.getElem?_eq_some_iff.1 hc).1, fun i hi j v hv => ?_⟩⟩
    have := hh.cells (g := g) rfl (i * 64 + j) v (get_keysL l i hi j v hv)
    rwa [Addr.add_mid, Nat.zero_add] at this

theorem infoKeyB : (Try.prog.info? 82).map (fun i => (i.zero, i.size, i.bytes)) = some (some (.agg (Array.replicate 64 (.int .u8 0))), 64, 64) := by kernel_rfl

/-- a key appended to a row of the call's own -/
theorem appKey {W0 wr : World} {ops : Array Oper} {rest : List Oper} {o : Oper} {a : Act} {Q : Exit → Act → World → Prop} (hgd : o.guard = none) (s x : Operand)
    (ho : o.op = .call { callee := .builtin .append, args := #[s, x], argTypes := #[60, 60] })
    {v : Value} {n : Nat} {xs : List Value} (hown : wr.ownsRow W0.heap.size 82 64 v n xs) (hsz : W0.heap.size ≤ wr.heap.size)
    (p : List Nat) (hs : a.eval s = v) (hx : a.eval x = .slice (some ⟨wr.heap.size, 0, none⟩) 1 1) (hn : n < 1000000)
    (h : ∀ v' w', w'.ownsRow W0.heap.size 82 64 v' (n + 1) (xs ++ (keyC p).toList) → (wr.alloc (.cells (keyC p) 82)).grownBy w' v.ownBlock → (v'.ownBlock = v.ownBlock ∨ v'.ownBlock = some (wr.heap.size + 1)) → (∃ ad cap, v' = .slice ad (n + 1) cap) → wpList Try.prog ops Q rest (a.put o.dst v') w') :
    wpList Try.prog ops Q (o :: rest) a (wr.alloc (.cells (keyC p) 82)) := by
  obtain ⟨i0, hi, hz0, hz1, hz2⟩ := info_parts infoKeyB
  refine wpList_append_own_at (wr.alloc (.cells (keyC p) 82)) hgd s x 60 ho W0.heap.size 82 i0 _ 64 64 Try.underlying60 hi hz0 hz1 hz2 (by simp [Value.cells]) (by decide) v n xs hs (hown.alloc _) ⟨wr.heap.size, 0, none⟩ 1 1 (keyC p).toList hx (by rw [Array.length_toList, size_keyC]) ?_ ?_ (by unfold maxLen; omega) (by omega) (by simp; omega) ?_
  · intro j u hu
    rw [Addr.add_mid, Nat.zero_add, Rg.cellNew]; simpa using hu
  · exact fun u hu => Array.all_eq_true_iff_forall_mem.1 (one_keyC p) u (by simpa using hu)
  · intro v' w' h1 h2 h3 h4
    refine h v' w' h1 h2 (by simpa using h4) ?_
    obtain ⟨_, hv⟩ := h1
    rcases hv with ⟨hv, hn0⟩ | ⟨g, cap, cur, hv, _⟩
    · omega
    · exact ⟨_, _, hv⟩

theorem stillKey {ops : Array Oper} {Q : Act → Prop} {rest : List Oper} {o : Oper} {a : Act} {w : World} (d : Option Tmp) (hd : o.dst = d) (hw : Region.wanted o (yielded ops a.tmps) = true) (x : Operand) (ho : o.op = .load 82 x)
    (b off : Nat) (hx : a.eval x = .pointer (some ⟨b, off, none⟩)) (p : List Nat) (hc : w.rangeAt b off (keyC p).toList) (h : wpStill Try.prog ops w Q rest (a.put d (.agg (keyC p)))) : wpStill Try.prog ops w Q (o :: rest) a := by
  refine Rg.still_run d hd hw (Rg.exec_load _ x ho _ hx ?_) h
  have := run_loadVar_mid (P := Try.prog) w b off 82 (keyC p).toList _ hc Try.underlying82 rfl (by rw [Array.length_toList, size_keyC]; exact infoKey)
  simpa using this

/-- what a ball's grow leaves as it was -/
structure Fr (w w' : World) (bb r : Nat) : Prop where
  os : w'.os = w.os
  tape : w'.tape = w.tape
  output : w'.output = w.output
  size : w.heap.size ≤ w'.heap.size
  block : ∀ k, k < w.heap.size → k ≠ bb → k ≠ r → w'.heap[k]? = w.heap[k]?
theorem grown_none {w w' : World} {k : Option Nat} (h : Below w.heap.size w w') : w.grownBy w' k := ⟨h.os, h.tape, h.output, h.size, fun i hi _ => h.block i hi⟩
/-- later steps, seen from the first world -/
theorem grown_then {w wr w' : World} {r : Nat} {k : Option Nat} (h : w.grownBy wr (some r)) (hg : wr.grownBy w' k) (hk : ∀ b, k = some b → w.heap.size ≤ b ∨ b = r) : w.grownBy w' (some r) :=
  ⟨hg.os.trans h.os, hg.tape.trans h.tape, hg.output.trans h.output, Nat.le_trans h.size hg.size, fun i hi hne => by
    refine (hg.block i (Nat.lt_of_lt_of_le hi h.size) ?_).trans (h.block i hi hne)
    intro e
    rcases hk i e.symm with h1 | h1
    · omega
    · exact hne (by rw [h1])⟩
theorem grown_drew {w wr : World} {r : Nat} (h : w.grownBy wr (some r)) : w.grownBy wr.drew (some r) := ⟨h.os, h.tape, h.output, h.size, h.block⟩
theorem look_no {d : Nat} {w : World} {r : Nat} {near : List (List Nat × Nat)} {p : List Nat} (h : Km.KMap w r (ents near)) (hn : GM d near) (hp : GK d p) :
    (Instr.lookup 59 (.map (some r)) (.agg (keyC p)) false).run Try.prog w = .ok (.int .i64 (((nd near p).getD 0 : Nat) : Int)) w := by
  rw [keyC_kb hp, Km.lookup_no kt h (len_ents _) _ (len_kb p), look_ents hp hn]
  cases nd near p <;> rfl
theorem look_ok {d : Nat} {w : World} {r : Nat} {near : List (List Nat × Nat)} {p : List Nat} (h : Km.KMap w r (ents near)) (hn : GM d near) (hp : GK d p) :
    (Instr.lookup 59 (.map (some r)) (.agg (keyC p)) true).run Try.prog w = .ok (.tuple #[.int .i64 (((nd near p).getD 0 : Nat) : Int), .bool (nd near p).isSome]) w := by
  rw [keyC_kb hp, Km.lookup_ok kt h (len_ents _) _ (len_kb p), look_ents hp hn]
  cases nd near p <;> rfl
theorem upd_new {d : Nat} {w : World} {r n : Nat} {near : List (List Nat × Nat)} {p : List Nat} (h : Km.KMap w r (ents near)) (hn : GM d near) (hp : GK d p) (hno : (nd near p).isSome = false) :
    ∃ w', (Instr.mapUpdate 59 (.map (some r)) (.agg (keyC p)) (.int .i64 (n : Int))).run Try.prog w = .ok () w' ∧ Km.KMap w' r (ents (near ++ [(p, n)])) ∧ w.grownBy w' (some r) := by
  obtain ⟨w', h1, h2, h3⟩ := Km.update_new kt h (len_ents _) (kb p) (len_kb p) (by rw [look_ents hp hn]; cases hh : nd near p with | none => rfl | some x => rw [hh] at hno; cases hno) (.int .i64 (n : Int))
  refine ⟨w', by rw [keyC_kb hp]; exact h1, ?_, h3⟩
  unfold ents at *
  rw [List.map_append]; exact h2
theorem mix : Try.prog.follows .mixedOrders = true := by kernel_rfl
/-- what holds while a ball grows -/
structure GInv (d : Nat) (w : World) (r : Nat) (wr : World) (v5 : Value) (st : List (List Nat × Nat) × List (List Nat)) (n : Nat) : Prop where
  own : wr.ownsRow w.heap.size 82 64 v5 st.2.length (keysL st.2)
  mp : Km.KMap wr r (ents st.1)
  gr : w.grownBy wr (some r)
  gs : GS d st
  len : st.2.length ≤ n
theorem range_ne {w : World} {b o r : Nat} {p : List Nat} {m : List (List UInt8 × Value)} (h : w.rangeAt b o (keyC p).toList) (hm : Km.KMap w r m) : b ≠ r := by
  rintro rfl
  obtain ⟨es, c, h1, _⟩ := hm
  have h2 := h 0 _ (List.getElem?_eq_getElem (by rw [Array.length_toList, size_keyC]; decide))
  unfold World.cell? at h2
  simp [h1] at h2
theorem GInv.range {d : Nat} {w : World} {r : Nat} {wr : World} {v5 : Value} {st : List (List Nat × Nat) × List (List Nat)} {n : Nat} (h : GInv d w r wr v5 st n) {b o : Nat} {p : List Nat} (hr : w.rangeAt b o (keyC p).toList) (hne : b ≠ r) : wr.rangeAt b o (keyC p).toList :=
  range_grown hr h.gr (by simpa using hne)
theorem GInv.below {d : Nat} {W1 w : World} {r : Nat} {wr : World} {v5 : Value} {st : List (List Nat × Nat) × List (List Nat)} {n : Nat} (h : GInv d w r wr v5 st n) (hW : Below W1.heap.size W1 w) (hr : W1.heap.size ≤ r) : Below W1.heap.size W1 wr :=
  hW.trans ⟨h.gr.os, h.gr.tape, h.gr.output, h.gr.size, fun k hk => h.gr.block k (Nat.lt_of_lt_of_le hk hW.size) (by simp; omega)⟩
theorem GInv.quiet {d : Nat} {w : World} {r : Nat} {wr w' : World} {v5 : Value} {st : List (List Nat × Nat) × List (List Nat)} {n : Nat} (h : GInv d w r wr v5 st n) (hb : Below wr.heap.size wr w') : GInv d w r w' v5 st n :=
  ⟨Rg.row_below h.own hb, h.mp.below hb, grown_then h.gr (grown_none (k := none) hb) (fun b e => by cases e), h.gs, h.len⟩
theorem GInv.alloc {d : Nat} {w : World} {r : Nat} {wr : World} {v5 : Value} {st : List (List Nat × Nat) × List (List Nat)} {n : Nat} (h : GInv d w r wr v5 st n) (o : Obj) : GInv d w r (wr.alloc o) v5 st n := h.quiet ((Below.refl _ _).alloc (Nat.le_refl _) _)
theorem GInv.drew {d : Nat} {w : World} {r : Nat} {wr : World} {v5 : Value} {st : List (List Nat × Nat) × List (List Nat)} {n : Nat} (h : GInv d w r wr v5 st n) : GInv d w r wr.drew v5 st n := h.quiet (Below.refl _ _).drew
/-- a key in a variable of its own, apart from the row -/
structure KVar (w : World) (v5 : Value) (k : Nat) (p : List Nat) : Prop where
  blk : w.heap[k]? = some (.cells (keyC p) 82 (0, 0))
  off : v5.ownBlock ≠ some k
theorem KVar.below {w w' : World} {v5 : Value} {k : Nat} {p : List Nat} (h : KVar w v5 k p) (hb : Below w.heap.size w w') : KVar w' v5 k p := ⟨(hb.block k (Array.getElem?_eq_some_iff.1 h.blk).1).trans h.blk, h.off⟩
theorem KVar.lt {w : World} {v5 : Value} {k : Nat} {p : List Nat} (h : KVar w v5 k p) : k < w.heap.size := (Array.getElem?_eq_some_iff.1 h.blk).1
theorem KVar.range {w : World} {v5 : Value} {k : Nat} {p : List Nat} (h : KVar w v5 k p) : w.rangeAt k 0 (keyC p).toList := fun j v hv => by
  rw [cell_of_row _ _ _ _ _ _ h.blk, Nat.zero_add]; simpa using hv
theorem KVar.new {w : World} {v5 : Value} {base n : Nat} {xs : List Value} (h : w.ownsRow base 82 64 v5 n xs) (p : List Nat) : KVar (w.alloc (.cells (keyC p) 82)) v5 w.heap.size p :=
  ⟨heap_alloc_last w _, fun e => by have := (h.lt _ e).2; omega⟩
theorem KVar.ne {w : World} {v5 : Value} {k r : Nat} {p : List Nat} {m : List (List UInt8 × Value)} (h : KVar w v5 k p) (hm : Km.KMap w r m) : k ≠ r := range_ne h.range hm
theorem KVar.map {w w' : World} {v5 : Value} {k r : Nat} {p : List Nat} {m : List (List UInt8 × Value)} (h : KVar w v5 k p) (hm : Km.KMap w r m) (hg : w.grownBy w' (some r)) : KVar w' v5 k p :=
  ⟨(hg.block k h.lt (by simpa using h.ne hm)).trans h.blk, h.off⟩
theorem GInv.ne {d : Nat} {w : World} {r : Nat} {wr : World} {v5 : Value} {st : List (List Nat × Nat) × List (List Nat)} {n : Nat} (h : GInv d w r wr v5 st n) : v5.ownBlock ≠ some r := fun e => by
  have hro := h.own
  obtain ⟨es, c, h1, _⟩ := h.mp
  obtain ⟨_, h2⟩ := hro
  rcases h2 with ⟨h2, _⟩ | ⟨g, cap, cur, hv, _, hc, _⟩
  · rw [h2] at e; simp [Value.ownBlock] at e
  · rw [hv] at e; simp [Value.ownBlock] at e; subst e; rw [hc] at h1; cases h1
theorem GInv.own_map {d : Nat} {w : World} {r : Nat} {wr w' : World} {v5 : Value} {st : List (List Nat × Nat) × List (List Nat)} {n : Nat} (h : GInv d w r wr v5 st n) (hg : wr.grownBy w' (some r)) : w'.ownsRow w.heap.size 82 64 v5 st.2.length (keysL st.2) :=
  h.own.kept hg (.inr h.ne)
/-- a new key has been taken in -/
theorem GInv.step {d : Nat} {w : World} {r : Nat} {wr w1 w3 : World} {v5 v5' : Value} {st : List (List Nat × Nat) × List (List Nat)} {n D k : Nat} {y p : List Nat} (h : GInv d w r wr v5 st n) (hy : Gd d y) (hno : (nd st.1 y).isSome = false)
    (hm : Km.KMap w1 r (ents (st.1 ++ [(y, D)]))) (hg1 : wr.grownBy w1 (some r)) (hk : KVar wr v5 k p)
    (ho : w3.ownsRow w.heap.size 82 64 v5' (st.2.length + 1) (keysL st.2 ++ (keyC y).toList)) (hg : (w1.alloc (.cells (keyC y) 82)).grownBy w3 v5.ownBlock)
    (hb : v5'.ownBlock = v5.ownBlock ∨ v5'.ownBlock = some (w1.heap.size + 1)) : GInv d w r w3 v5' (gstep D st y) (n + 1) ∧ KVar w3 v5' k p := by
  have hst : gstep D st y = (st.1 ++ [(y, D)], st.2 ++ [y]) := by unfold gstep; rw [if_neg (by rw [hno]; simp)]
  have hlt : ∀ b, v5.ownBlock = some b → w.heap.size ≤ b ∧ b < wr.heap.size := fun b e => h.own.lt b e
  have hrne : v5.ownBlock ≠ some r := fun e => by
    have hro := h.own
    obtain ⟨es, c, h1, _⟩ := h.mp
    obtain ⟨_, h2⟩ := hro
    rcases h2 with ⟨h2, _⟩ | ⟨g, cap, cur, hv, _, hc, _⟩
    · rw [h2] at e; simp [Value.ownBlock] at e
    · rw [hv] at e; simp [Value.ownBlock] at e; subst e; rw [hc] at h1; cases h1
  have hg2 : w1.grownBy w3 v5.ownBlock := ⟨hg.os, hg.tape, hg.output, Nat.le_trans (by simp) hg.size, fun i hi hne => (hg.block i (by simp; omega) hne).trans (Below.heap_alloc w1 _ i hi)⟩
  rw [hst]
  refine ⟨⟨?_, ?_, ?_, ?_, ?_⟩, ?_, ?_⟩
  · show w3.ownsRow _ _ _ _ (st.2 ++ [y]).length (keysL (st.2 ++ [y]))
    rw [keysL_snoc, List.length_append]; exact ho
  · exact hm.grown hg2 (fun e => hrne e.symm)
  · exact grown_then (grown_then h.gr hg1 (fun b e => .inr (by simpa using e.symm))) hg2 (fun b e => .inl (hlt b e).1)
  · have := h.gs.step (n := D) hy; rwa [hst] at this
  · show (st.2 ++ [y]).length ≤ _
    have := h.len; simp; omega
  · have hk1 := hk.map h.mp hg1
    exact (hg2.block k hk1.lt (fun e => hk.off e.symm)).trans hk1.blk
  · have hk1 := hk.map h.mp hg1
    rcases hb with hb | hb
    · rw [hb]; exact hk.off
    · rw [hb]; intro e; have := hk1.lt; simp at e; omega
theorem GInv.blk {d : Nat} {w : World} {r : Nat} {wr : World} {v5 : Value} {st : List (List Nat × Nat) × List (List Nat)} {n bb : Nat} {o : Obj} (h : GInv d w r wr v5 st n) (hb : w.heap[bb]? = some o) (hne : bb ≠ r) : wr.heap[bb]? = some o :=
  (h.gr.block bb (Array.getElem?_eq_some_iff.1 hb).1 (by simpa using hne)).trans hb
theorem cands_take {shell mv : List (List Nat)} {i : Nat} (hi : i < shell.length) : cands (shell.take (i + 1)) mv = cands (shell.take i) mv ++ mv.map (Ma.mulN shell[i]) := by
  unfold cands
  rw [List.take_succ_eq_append_getElem hi, List.flatMap_append]; simp
theorem map_take_fold {α β : Type} (f : List Nat → β) (g : α → β → α) {l : List (List Nat)} {j : Nat} (hj : j < l.length) (a : α) : ((l.take (j + 1)).map f).foldl g a = g (((l.take j).map f).foldl g a) (f l[j]) := by
  rw [List.take_succ_eq_append_getElem hj, List.map_append, List.foldl_append]; rfl
theorem KeysAt.below {w w' : World} {v : Value} {l : List (List Nat)} (h : KeysAt w v l) (hs : w.heap.size ≤ w'.heap.size) (hb : ∀ g a n c, v = .slice (some ⟨g, a, none⟩) n c → w'.heap[g]? = w.heap[g]?) : KeysAt w' v l := by
  obtain ⟨a, cap, e1, e2, e3, e4⟩ := h
  refine ⟨a, cap, e1, e2, e3, fun h0 => ?_⟩
  obtain ⟨b, f1, f2, f3⟩ := e4 h0
  subst f1
  have hk := hb _ _ _ _ e1
  refine ⟨b, rfl, by omega, fun i hi j v hv => ?_⟩
  rw [World.cell?_of_block (w := w) hk]; exact f3 i hi j v hv
theorem grow_end {d : Nat} {w : World} {r bb : Nat} {wr : World} {v5 sv : Value} {st : List (List Nat × Nat) × List (List Nat)} {n : Nat} (h : GInv d w r wr v5 st n) (hb : w.heap[bb]? = some (.cells #[.map (some r), sv] 62 (0, 0))) (hne : bb ≠ r) (hn : n ≤ 1000000) :
    BallAt (wr.setCell ⟨bb, 1, none⟩ v5) bb r st.1 st.2 ∧ Fr w (wr.setCell ⟨bb, 1, none⟩ v5) bb r := by
  have hbk := h.blk hb hne
  have hlt := (Array.getElem?_eq_some_iff.1 hb).1
  refine ⟨⟨⟨v5, ?_, ?_⟩, h.mp.of_block (Below.heap_setCell _ _ _ _ (fun e => hne e.symm))⟩, ?_⟩
  · rw [heap_setCell_same wr bb 1 _ _ v5 hbk]; rfl
  · refine (keysAt_row h.own (by have := h.len; omega)).below (by simp [World.setCell]) (fun g a m c e => Below.heap_setCell _ _ _ _ ?_)
    have := h.own.lt g (by rw [e]; rfl)
    show g ≠ bb
    omega
  · exact ⟨h.gr.os, h.gr.tape, h.gr.output, Nat.le_trans h.gr.size (by simp [World.setCell]), fun k hk h1 h2 => (Below.heap_setCell _ _ _ _ h1).trans (h.gr.block k hk (by simpa using h2))⟩
end Go.Proofs.Ytjifdmfoijoekaa

namespace Go.Proofs.Ytjifdmfoijoekaa
open Go.RowKit
open Go.Proofs
attribute [local irreducible] Go.Calls Go.wpStill

set_option maxRecDepth 100000 in
set_option maxHeartbeats 1000000 in
theorem grow_any (bb r : Nat) (mvv : Value) (mv : List (List Nat)) (near : List (List Nat × Nat)) (shell : List (List Nat)) (d : Nat) (W1 w : World) (hm : Rg.NRows W1 mvv mv) (hW : Below W1.heap.size W1 w)
    (hbb : W1.heap.size ≤ bb) (hr : W1.heap.size ≤ r) (hne : bb ≠ r) (hB : BallAt w bb r near shell) (hg : GS d (near, shell)) (hmv : ∀ x ∈ mv, Gd d x) (hd1 : 1 ≤ d) (hd : d ≤ 64)
    (hsz : shell.length * mv.length ≤ 1000000) (hml : mv.length ≤ 1000) (hD : growD near shell ≤ 1000000) :
    Calls Try.prog 36 #[.pointer (some ⟨bb, 0, none⟩), mvv] w fun e w' => e = .returned (.tuple #[]) ∧ BallAt w' bb r (growP mv near shell).1 (growP mv near shell).2 ∧ Fr w w' bb r := by
  obtain ⟨⟨sv, hbk, hka⟩, hmp⟩ := hB
  obtain ⟨sa, scap, rfl, hsc, hsl, hks⟩ := hka
  have c0 : w.cell? ⟨bb, 0, none⟩ = some (.map (some r)) := by rw [cell_of_row _ _ _ _ _ _ hbk]; rfl
  have c1 : w.cell? ⟨bb, 1, none⟩ = some (.slice sa shell.length scap) := by rw [cell_of_row _ _ _ _ _ _ hbk]; rfl
  obtain ⟨ma, mcap, rfl, hmc, _, _, hmr⟩ := hm.shape
  have Hbk := Lib.hid hbk
  have Hmp := Lib.hid hmp
  have Hks := Lib.hid hks
  have Hmr := Lib.hid hmr
  have Hm := Lib.hid hm
  clear hbk hmp hks hmr hm
  by_cases h0 : 0 < shell.length
  · obtain ⟨sb, rfl, hsb, hsr⟩ := Hks.out h0
    go_enter Try.func36, Try.ntmps36
    go_wp2
    have hgk0 : GK d shell[0] := (hg.2 _ (List.getElem_mem h0)).gk hd
    have hgm : GM d near := fun x hx => (hg.1 x hx).gk hd
    have z0 : w.drew.cell? ⟨bb, 0, none⟩ = some (.map (some r)) := c0
    have z1 : w.drew.cell? ⟨bb, 1, none⟩ = some (.slice (some ⟨sb, 0, none⟩) shell.length scap) := c1
    have z2 : w.drew.rangeAt sb (0 * 64) (keyC shell[0]).toList := hsr 0 h0
    have z3 : Km.KMap w.drew r (ents near) := Hmp.out
    have Hz2 := Lib.hid z2
    have z4 := look_no z3 hgm hgk0
    have hDd : growD near shell = (nd near shell[0]).getD 0 + 1 := by cases shell with | nil => simp at h0 | cons x l => rfl
    have HDd := Lib.hid hDd
    generalize hD0 : growD near shell = D at *
    have hDlt : (nd near shell[0]).getD 0 < 1000000 := by rw [hDd] at hD; omega
    generalize (nd near shell[0]).getD 0 = dn at *
    generalize hk0 : shell[0] = k0 at *
    have HD0 := Lib.hid hD0
    have Hz4 := Lib.hid z4
    have C1 := Lib.hid c1
    have C0 := Lib.hid c0
    have Hsr := Lib.hid hsr
    have hwrap : IntKind.i64.wrap ((dn : Int) + 1) = (D : Int) := by rw [hDd, IntWalk.i64_in _ (by omega)]; simp
    clear hD0 hk0 z4 z2 z3 hDd c0 c1 hsr
    refine wp_region_still_lit mix (by kernel_rfl) ?_
    change wpStill _ _ (World.drew w) _ _ _
    generalize hWk : World.drew w = Wk at *
    have hWk2 := Lib.hid hWk
    clear hWk
    iterate 9 still_step
    refine stillKey (some 28) rfl rfl _ rfl sb 0 rfl k0 (by have := Hz2.out; rwa [Nat.zero_mul] at this) ?_
    go_frame
    refine Rg.still_run (some 29) rfl rfl (Rg.exec_lookup _ _ _ _ rfl _ _ rfl rfl Hz4.out) ?_
    go_frame
    iterate 2 still_step
    refine wpStill_nil ?_
    show Exit.then _ _ Exit.normal _ (World.drew w)
    clear z0 z1 Hz2 Hz4 hWk2 Wk
    have c1 := C1.out
    go_wp2
    clear hwrap c1
    go_loopw [5, 36] (fun v5 vi wr => ∃ i : Nat, i ≤ shell.length ∧ vi = .int .i64 i ∧ Hid (GInv d w r wr v5 ((cands (shell.take i) mv).foldl (gstep D) (near, [])) (i * mv.length))) (fun _ vi _ => shell.length - (intOf vi).toNat)
    case atStart => exact ⟨0, by omega, rfl, World.ownsRow_nil _ _ _ _, Hmp.out, grown_none (Below.refl _ _).drew, ⟨hg.1, by simp [cands]⟩, by simp [cands]⟩
    case round =>
      obtain ⟨i, hi, rfl, hG⟩ := hrel
      by_cases hlt : i < shell.length
      · have hgk : Gd d shell[i] := hg.2 _ (List.getElem_mem hlt)
        have hrg := hG.out.range (Hsr.out i hlt) (range_ne (Hsr.out i hlt) Hmp.out)
        have hct := cands_take (mv := mv) hlt
        generalize shell[i] = ki at *
        have Hct := Lib.hid hct
        have Hrg := Lib.hid hrg
        clear hct hrg
        go_wp2_with (first | (refine loadKey (by rfl) _ (by rfl) sb (i * 64) (by rfl) ki Hrg.out ?_) | (refine allocKey (by rfl) (by rfl) ?_) | (refine storeKey (by rfl) _ _ (by rfl) ki _ (by simp) (by rfl) (by rfl) ?_))
        have hG2 := hG.out.alloc (.cells (keyC ki) 82)
        have hKV := KVar.new hG.out.own ki
        generalize hkb : wr.heap.size = kb at *
        generalize wr.alloc (.cells (keyC ki) 82) = wo at *
        generalize hst0 : (cands (shell.take i) mv).foldl (gstep D) (near, []) = st0 at *
        have Hst0 := Lib.hid hst0
        have HG2 := Lib.hid hG2
        have HKV := Lib.hid hKV
        clear hst0 hG2 hKV hkb hG Hrg
        go_loopw [5, 42] (fun v5 vj wr => ∃ j : Nat, j ≤ mv.length ∧ vj = .int .i64 j ∧ Hid (GInv d w r wr v5 (((mv.take j).map (Ma.mulN ki)).foldl (gstep D) st0) (i * mv.length + j)) ∧ Hid (KVar wr v5 kb ki)) (fun _ vj _ => mv.length - (intOf vj).toNat)
        case atStart => exact ⟨0, by omega, rfl, HG2.out, HKV.out⟩
        case round =>
          obtain ⟨j, hj, rfl, hG, hKV⟩ := hrel
          by_cases hltj : j < mv.length
          · obtain ⟨mb, mo, rfl, hmb, hmx⟩ := Hmr.out (by omega)
            obtain ⟨u, eu, hu⟩ := hmx j hltj
            have hx := hmv _ (List.getElem_mem hltj)
            have hmf := map_take_fold (Ma.mulN ki) (gstep D) hltj st0
            generalize mv[j] = x at *
            have hbW := hG.out.below hW hr
            have e0 : wr.cell? ⟨mb, mo + j, none⟩ = some u := (hbW.cell (p := ⟨mb, mo + j, none⟩) hmb).trans eu
            have hu' := hu.below hbW
            obtain ⟨nu, au, cu, hnu, rfl, hnl⟩ := hu'.len
            have Hu := Lib.hid hu'
            have Hmf := Lib.hid hmf
            have hyG := hgk.mul hx
            have tm := fun w' (hb : Below wr.heap.size wr w') => times_any _ ki x w' (Hu.out.below hb) (by have := hx.2; omega) (hgk.2.trans hx.2.symm) (fun y hy => by have := hgk.1.1 y hy; have := hgk.2; have := hx.2; omega) hx.1.1
            have Tm := Lib.hid tm
            generalize Ma.mulN ki x = y at *
            clear hnu hu' hu hmf hmx eu tm
            go_wp2_with (first | (refine loadKey (by rfl) _ (by rfl) kb 0 (by rfl) ki hKV.out.range ?_) | (go_at_call 53; refine (Tm.out _ (Below.refl _ _)).mono ?_; rintro e w1 ⟨rfl, hb1⟩) | (refine allocKey (by rfl) (by rfl) ?_) | (refine storeKey (by rfl) _ _ (by rfl) y _ (by simp) (by rfl) (by rfl) ?_))
            have hG2 := (hG.out.quiet hb1).alloc (.cells (keyC y) 82)
            have hKV2 := (hKV.out.below hb1).below ((Below.refl w1.heap.size w1).alloc (Nat.le_refl _) (.cells (keyC y) 82))
            have hYV := KVar.new (hG.out.quiet hb1).own y
            generalize hyb : w1.heap.size = yb at *
            generalize w1.alloc (.cells (keyC y) 82) = w2 at *
            have hbk2 := hG2.blk Hbk.out hne
            have HG2' := Lib.hid hG2
            have HKV2 := Lib.hid hKV2
            have HYV := Lib.hid hYV
            have Hbk2 := Lib.hid hbk2
            clear hG hKV hG2 hKV2 hYV hb1 hyb e0 hbW Tm Hu hbk2
            have hgmS : GM d (((mv.take j).map (Ma.mulN ki)).foldl (gstep D) st0).1 := fun x hx => (HG2'.out.gs.1 x hx).gk hd
            generalize hst : ((mv.take j).map (Ma.mulN ki)).foldl (gstep D) st0 = st at *
            have z0 : w2.drew.cell? ⟨bb, 0, none⟩ = some (.map (some r)) := by rw [cell_of_row w2.drew _ _ _ _ _ Hbk2.out]; rfl
            have z4 := look_ok (w := w2.drew) HG2'.out.mp hgmS (hyG.gk hd)
            have HS := Lib.hid hst
            have Hz4 := Lib.hid z4
            clear hst z4
            cases hb : (nd st.1 y).isSome
            · have Hb := Lib.hid hb
              rw [hb] at Hz4
              clear hb
              go_frame
              refine wp_region_still_lit mix (by kernel_rfl) ?_
              change wpStill _ _ (World.drew w2) _ _ _
              have hyr : (World.drew w2).rangeAt yb 0 (keyC y).toList := HYV.out.range
              have Hyr := Lib.hid hyr
              clear hyr
              generalize hWk : World.drew w2 = Wk at *
              have HWk := Lib.hid hWk
              clear hWk
              iterate 4 still_step
              refine stillKey (some 54) rfl rfl _ rfl yb 0 rfl y Hyr.out ?_
              go_frame
              refine Rg.still_run (some 55) rfl rfl (Rg.exec_lookup _ _ _ _ rfl _ _ rfl rfl Hz4.out) ?_
              go_frame
              iterate 5 still_step
              refine wpStill_nil ?_
              show Exit.then _ _ Exit.normal _ (World.drew w2)
              have G3 := HG2'.out.drew
              have KV3 : KVar (World.drew w2) _ kb ki := ⟨HKV2.out.blk, HKV2.out.off⟩
              have YV3 : KVar (World.drew w2) _ yb y := ⟨HYV.out.blk, HYV.out.off⟩
              have bk3 : (World.drew w2).heap[bb]? = _ := Hbk2.out
              clear Hz4 Hyr HWk z0 Wk HG2' HKV2 HYV Hbk2
              generalize World.drew w2 = w3 at *
              have z0 : w3.cell? ⟨bb, 0, none⟩ = some (.map (some r)) := by rw [cell_of_row w3 _ _ _ _ _ bk3]; rfl
              have HG3 := Lib.hid G3
              have HKV3 := Lib.hid KV3
              have HYV3 := Lib.hid YV3
              clear G3 KV3 YV3 bk3
              go_wp2
              have hyr : (World.drew w3).rangeAt yb 0 (keyC y).toList := HYV3.out.range
              have z1 : (World.drew w3).cell? ⟨bb, 0, none⟩ = some (.map (some r)) := z0
              obtain ⟨w4, hup, hmp4, hgr4⟩ := upd_new (n := D) (w := World.drew w3) HG3.out.drew.mp hgmS (hyG.gk hd) Hb.out
              have Hup := Lib.hid hup
              have Hyr := Lib.hid hyr
              clear hyr hup
              refine wp_region_still_tail 6 mix (by kernel_rfl) ?_
              simp only [List.take_succ_cons, List.take_zero, List.drop_succ_cons, List.drop_zero]
              change wpStill _ _ (World.drew w3) _ _ _
              iterate 4 still_step
              refine stillKey (some 64) rfl rfl _ rfl yb 0 rfl y Hyr.out ?_
              go_frame
              iterate 1 still_step
              refine wpStill_nil ?_
              refine Rg.list_skip none rfl rfl (Rg.exec_mapUpdate _ _ _ _ rfl _ _ _ rfl rfl rfl Hup.out) ?_
              have KV4 := HKV3.out.map HG3.out.mp (w' := w4) ⟨hgr4.os, hgr4.tape, hgr4.output, hgr4.size, hgr4.block⟩
              have YV4 := HYV3.out.map HG3.out.mp (w' := w4) ⟨hgr4.os, hgr4.tape, hgr4.output, hgr4.size, hgr4.block⟩
              have hg4 : w3.grownBy w4 (some r) := ⟨hgr4.os, hgr4.tape, hgr4.output, hgr4.size, hgr4.block⟩
              have hsz4 : w.heap.size ≤ w4.heap.size := Nat.le_trans HG3.out.gr.size hg4.size
              have hlen := HG3.out.len
              have hbd : i * mv.length + j < 1000000 := by
                have := Nat.mul_le_mul_right mv.length (show i + 1 ≤ shell.length from hlt)
                rw [Nat.succ_mul] at this; omega
              have Hyr4 := Lib.hid YV4.range
              have Hg4 := Lib.hid hg4
              have Hmp4 := Lib.hid hmp4
              clear KV4 YV4 hgr4 hg4 hmp4 Hyr Hup z1 z0 hgmS
              go_frame
              go_wp2_with (first | (refine loadKey (by rfl) _ (by rfl) yb 0 (by rfl) y Hyr4.out ?_) | (refine buildKey (by rfl) _ (by rfl) y (by rfl) ?_) | (at_builtin; refine appKey (W0 := w) (by rfl) _ _ (by rfl) (HG3.out.own_map Hg4.out) hsz4 y (by rfl) (by rfl) (by omega) ?_; intro v5' w5 ho5 hg5 hb5 hs5))
              go_roundw
              case rel =>
                obtain ⟨q1, q2⟩ := HG3.out.step hyG Hb.out Hmp4.out Hg4.out HKV3.out ho5 hg5 hb5
                exact ⟨j + 1, by omega, by go_num, by rw [Hmf.out]; exact q1, q2⟩
              case measure => simp [intOf]; omega
            · have Hb := Lib.hid hb
              rw [hb] at Hz4
              clear hb
              go_frame
              refine wp_region_still_lit mix (by kernel_rfl) ?_
              change wpStill _ _ (World.drew w2) _ _ _
              have hyr : (World.drew w2).rangeAt yb 0 (keyC y).toList := HYV.out.range
              have Hyr := Lib.hid hyr
              clear hyr
              generalize hWk : World.drew w2 = Wk at *
              have HWk := Lib.hid hWk
              clear hWk
              iterate 4 still_step
              refine stillKey (some 54) rfl rfl _ rfl yb 0 rfl y Hyr.out ?_
              go_frame
              refine Rg.still_run (some 55) rfl rfl (Rg.exec_lookup _ _ _ _ rfl _ _ rfl rfl Hz4.out) ?_
              go_frame
              iterate 5 still_step
              refine wpStill_nil ?_
              show Exit.then _ _ Exit.normal _ (World.drew w2)
              clear Hz4 Hyr HWk z0 Wk
              go_wp2
              go_roundw
              case rel => exact ⟨j + 1, by omega, by go_num, by rw [Hmf.out, show gstep D st y = st from by unfold gstep; rw [if_pos Hb.out]]; exact ⟨HG2'.out.own, HG2'.out.mp, grown_drew HG2'.out.gr, HG2'.out.gs, by have := HG2'.out.len; omega⟩, ⟨HKV2.out.blk, HKV2.out.off⟩⟩
              case measure => simp [intOf]; omega
          · obtain rfl : j = mv.length := by omega
            go_wp2
            go_roundw
            case rel => exact ⟨i + 1, by omega, by go_num, by rw [Hct.out, List.foldl_append, Hst0.out]; have := hG.out; rw [List.take_length] at this; rw [Nat.succ_mul]; exact this⟩
            case measure => simp [intOf]; omega
      · obtain rfl : i = shell.length := by omega
        have hbk := hG.out.blk Hbk.out hne
        have hE := grow_end hG.out Hbk.out hne hsz
        have hP : (cands (shell.take shell.length) mv).foldl (gstep D) (near, []) = growP mv near shell := by rw [List.take_length, ← HD0.out]; rfl
        rw [hP] at hE
        have HE := Lib.hid hE
        have d1 : wr.cell? ⟨bb, 1, none⟩ = some (.slice (some ⟨sb, 0, none⟩) shell.length scap) := by rw [cell_of_row wr _ _ _ _ _ hbk]; rfl
        have f1 : wr.frozen? ⟨bb, 1, none⟩ = false := frozen_of_row wr _ _ _ _ hbk
        clear hE hP hbk
        obtain ⟨a5, c5, rfl⟩ := Rg.row_shape hG.out.own
        go_wp2
        go_end0
        exact ⟨rfl, by have := HE.out; rwa [List.take_length] at this⟩
  · obtain rfl : shell = [] := by cases shell with | nil => rfl | cons x l => simp at h0
    have f1 : w.frozen? ⟨bb, 1, none⟩ = false := frozen_of_row w _ _ _ _ Hbk.out
    have hG : GInv d w r w (.slice none 0 0) (near, []) 0 := ⟨World.ownsRow_nil _ _ _ _, Hmp.out, grown_none (Below.refl _ _), ⟨hg.1, by simp⟩, by simp⟩
    have HE := Lib.hid (grow_end hG Hbk.out hne (by omega))
    clear hG
    go_enter Try.func36, Try.ntmps36
    go_wp2
    refine wp_loop_rounds 1 ?_
    rw [rounds_succ]
    go_wp2
    go_end0
    exact ⟨rfl, HE.out⟩
end Go.Proofs.Ytjifdmfoijoekaa

namespace Go.Proofs.Ytjifdmfoijoekaa
open Go.RowKit
open Go.Proofs
attribute [local irreducible] Go.Calls Go.wpStill

/-! the ball after k rounds -/
def bIter (mv : List (List Nat)) (c : List Nat) : Nat → List (List Nat × Nat) × List (List Nat)
  | 0 => ([(c, 0)], [c])
  | k + 1 => growP mv (bIter mv c k).1 (bIter mv c k).2
theorem fold_len (D : Nat) : ∀ (l : List (List Nat)) (st : List (List Nat × Nat) × List (List Nat)), (l.foldl (gstep D) st).2.length ≤ st.2.length + l.length
  | [], st => by simp
  | y :: l, st => by
    rw [List.foldl_cons]
    have h1 := fold_len D l (gstep D st y)
    have h2 := gstep_len D st y
    simp only [List.length_cons]; omega
theorem len_cands (shell mv : List (List Nat)) : (cands shell mv).length = shell.length * mv.length := by
  unfold cands
  induction shell with
  | nil => simp
  | cons k r ih => rw [List.flatMap_cons, List.length_append, ih, List.length_map, List.length_cons, Nat.succ_mul]; omega
theorem growP_len (mv : List (List Nat)) (near : List (List Nat × Nat)) (shell : List (List Nat)) : (growP mv near shell).2.length ≤ shell.length * mv.length := by
  have := fold_len (growD near shell) (cands shell mv) (near, [])
  rw [len_cands] at this
  simpa [growP] using this
theorem bIter_len (mv : List (List Nat)) (c : List Nat) (m : Nat) (hm : mv.length ≤ m) : ∀ k, (bIter mv c k).2.length ≤ m ^ k
  | 0 => by simp [bIter]
  | k + 1 => by
    have h1 := growP_len mv (bIter mv c k).1 (bIter mv c k).2
    have h2 := bIter_len mv c m hm k
    exact Nat.le_trans h1 (Nat.le_trans (Nat.mul_le_mul h2 hm) (by rw [Nat.pow_succ]; exact Nat.le_refl _))
theorem fold_near (D K : Nat) (hD : D ≤ K) : ∀ (l : List (List Nat)) (st : List (List Nat × Nat) × List (List Nat)), (∀ x ∈ st.1, x.2 ≤ K) → ∀ x ∈ (l.foldl (gstep D) st).1, x.2 ≤ K
  | [], st, h => h
  | y :: l, st, h => by
    rw [List.foldl_cons]
    refine fold_near D K hD l _ ?_
    unfold gstep
    split
    · exact h
    · intro x hx
      rcases List.mem_append.1 hx with hx | hx
      · exact h x hx
      · obtain rfl : x = (y, D) := by simpa using hx
        exact hD
theorem nd_le {near : List (List Nat × Nat)} {K : Nat} (h : ∀ x ∈ near, x.2 ≤ K) (p : List Nat) : (nd near p).getD 0 ≤ K := by
  unfold nd
  cases hh : near.find? (fun x => p == x.1) with
  | none => simp
  | some x => simpa using h x (List.mem_of_find?_eq_some hh)
theorem growD_le {near : List (List Nat × Nat)} {K : Nat} (h : ∀ x ∈ near, x.2 ≤ K) (shell : List (List Nat)) : growD near shell ≤ K + 1 := by
  cases shell with
  | nil => exact Nat.zero_le _
  | cons k r => have := nd_le h k; show (nd near k).getD 0 + 1 ≤ _; omega
theorem bIter_near (mv : List (List Nat)) (c : List Nat) : ∀ k, ∀ x ∈ (bIter mv c k).1, x.2 ≤ k
  | 0 => by simp [bIter]
  | k + 1 => by
    have ih := bIter_near mv c k
    exact fold_near _ _ (growD_le ih _) _ _ (fun x hx => by have := ih x hx; omega)
theorem fold_GS {d D : Nat} : ∀ (l : List (List Nat)) (st : List (List Nat × Nat) × List (List Nat)), GS d st → (∀ y ∈ l, Gd d y) → GS d (l.foldl (gstep D) st)
  | [], st, h, _ => h
  | y :: l, st, h, hl => by
    rw [List.foldl_cons]
    exact fold_GS l _ (h.step (hl y (by simp))) (fun z hz => hl z (by simp [hz]))
theorem growP_GS {d : Nat} {mv : List (List Nat)} {near : List (List Nat × Nat)} {shell : List (List Nat)} (h : GS d (near, shell)) (hm : ∀ x ∈ mv, Gd d x) : GS d (growP mv near shell) := by
  refine fold_GS _ _ ⟨h.1, by simp⟩ (fun y hy => ?_)
  unfold cands at hy
  obtain ⟨k, hk, hy⟩ := List.mem_flatMap.1 hy
  obtain ⟨x, hx, rfl⟩ := List.mem_map.1 hy
  exact (h.2 k hk).mul (hm x hx)
theorem bIter_GS {d : Nat} {mv : List (List Nat)} {c : List Nat} (hc : Gd d c) (hm : ∀ x ∈ mv, Gd d x) : ∀ k, GS d (bIter mv c k)
  | 0 => ⟨fun x hx => by obtain rfl : x = (c, 0) := by simpa [bIter] using hx
                         exact hc, fun y hy => by obtain rfl : y = c := by simpa [bIter] using hy
                                                  exact hc⟩
  | k + 1 => growP_GS (bIter_GS hc hm k) hm
theorem moves_Gd {d : Nat} {gs : List (List Nat)} (h : GG d gs) : ∀ x ∈ moves gs, Gd d x := fun x hx => by
  obtain ⟨s, hs, hx⟩ := List.mem_flatMap.1 hx
  obtain ⟨h1, h2⟩ := h s hs
  simp only [List.mem_cons, List.not_mem_nil, or_false] at hx
  rcases hx with rfl | rfl
  · exact ⟨h1, h2⟩
  · exact ⟨Ma.okN_invN h1, by rw [Ma.len_invN]; exact h2⟩

/-- the errors of a puzzle's group -/
def pzchk (d : Int) (ll : List (List Int)) : Int := if Ma.gchk d ll = 0 then (if ll.length ≤ 6 then 0 else 4) else Ma.gchk d ll
/-- a good group -/
theorem gchk_zero {d : Int} {ll : List (List Int)} (h : Ma.gchk d ll = 0) : ∃ (D : Nat) (gs : List (List Nat)), d = D ∧ ll = gs.map Ma.ofN ∧ GG D gs ∧ 1 ≤ D ∧ D ≤ 64 ∧ gs.length ≤ 16 := by
  unfold Ma.gchk at h
  split at h
  · rename_i h1
    split at h
    · rename_i h2
      obtain ⟨D, rfl⟩ := Int.eq_ofNat_of_zero_le (by omega : 0 ≤ d)
      have hz := Ma.gck_zero h
      have : ∀ ll : List (List Int), (∀ l ∈ ll, Ma.pchk l = 0 ∧ (l.length : Int) = (D : Int)) → ∃ gs : List (List Nat), ll = gs.map Ma.ofN ∧ GG D gs := by
        intro ll
        induction ll with
        | nil => exact fun _ => ⟨[], rfl, fun s hs => by simp at hs⟩
        | cons l r ih =>
          intro hl
          obtain ⟨gs, e1, e2⟩ := ih (fun x hx => hl x (by simp [hx]))
          obtain ⟨h3, h4⟩ := hl l (by simp)
          obtain ⟨p, rfl, hp⟩ := Ma.okL_ofN (Ma.pchk_zero h3).2.2
          refine ⟨p :: gs, by rw [e1]; rfl, fun s hs => ?_⟩
          rcases List.mem_cons.1 hs with rfl | hs
          · exact ⟨hp, by rw [Ma.len_ofN] at h4; omega⟩
          · exact e2 s hs
      obtain ⟨gs, rfl, hg⟩ := this ll hz
      exact ⟨D, gs, rfl, rfl, hg, by omega, by omega, by simpa using h2⟩
    · cases h
  · cases h
theorem pzchk_zero {d : Int} {ll : List (List Int)} (h : pzchk d ll = 0) : ∃ (D : Nat) (gs : List (List Nat)), d = D ∧ ll = gs.map Ma.ofN ∧ GG D gs ∧ 1 ≤ D ∧ D ≤ 64 ∧ gs.length ≤ 6 := by
  unfold pzchk at h
  split at h
  · rename_i h1
    split at h
    · rename_i h2
      obtain ⟨D, gs, rfl, rfl, a, b, c, _⟩ := gchk_zero h1
      exact ⟨D, gs, rfl, rfl, a, b, c, by simpa using h2⟩
    · cases h
  · rename_i h1; exact absurd h h1

set_option maxHeartbeats 400000 in
theorem pzCheck_any (gv : Value) (d : Int) (ll : List (List Int)) (w : World) (h : Rg.Rows w gv ll) :
    Calls Try.prog 32 #[.agg #[.int .i64 d, gv]] w fun e w' => e = .returned (.int .i64 (pzchk d ll)) ∧ Below w.heap.size w w' := by
  have hv := h
  obtain ⟨ad, cap, rfl, hc, hm, _, _⟩ := h.shape
  have hba := Lib.hid (show Below w.heap.size w (w.alloc (.cells #[.int .i64 d, .slice ad ll.length cap] 24)) from (Below.refl _ _).alloc (Nat.le_refl _) _)
  have hoc := Lib.hid (orbitCheck_any _ d ll _ (hv.below hba.out))
  by_cases hz : Ma.gchk d ll = 0
  · have hbb : (Ma.gchk d ll != 0) = false := by rw [hz]; rfl
    by_cases h6 : ll.length ≤ 6
    · have HP := Lib.hid (show pzchk d ll = 0 by unfold pzchk; rw [if_pos hz, if_pos h6])
      clear hz h hv
      go_enter Try.func32, Try.ntmps32
      go_wp2_with (go_at_call 50; refine hoc.out.mono ?_; rintro e w1 ⟨rfl, hb1⟩; have hc1 : w1.cell? ⟨w.heap.size, 1, none⟩ = some (.slice ad ll.length cap) := (hb1.cell (p := ⟨w.heap.size, 1, none⟩) (by simp)).trans (by rw [Rg.cellNew]; rfl))
      go_ret
      exact ⟨ret_i HP.out, Rg.acc hba.out hb1⟩
    · have HP := Lib.hid (show pzchk d ll = 4 by unfold pzchk; rw [if_pos hz, if_neg h6])
      have h6' : 6 < ll.length := by omega
      clear hz h hv h6
      go_enter Try.func32, Try.ntmps32
      go_wp2_with (go_at_call 50; refine hoc.out.mono ?_; rintro e w1 ⟨rfl, hb1⟩; have hc1 : w1.cell? ⟨w.heap.size, 1, none⟩ = some (.slice ad ll.length cap) := (hb1.cell (p := ⟨w.heap.size, 1, none⟩) (by simp)).trans (by rw [Rg.cellNew]; rfl))
      go_ret
      exact ⟨ret_i HP.out, Rg.acc hba.out hb1⟩
  · have hbb : (Ma.gchk d ll != 0) = true := by rw [bne_iff_ne]; exact hz
    have HP := Lib.hid (show pzchk d ll = Ma.gchk d ll by unfold pzchk; rw [if_neg hz])
    clear hz h hv
    go_enter Try.func32, Try.ntmps32
    go_wp2_with (go_at_call 50; refine hoc.out.mono ?_; rintro e w1 ⟨rfl, hb1⟩)
    go_ret
    exact ⟨ret_i HP.out, Rg.acc hba.out hb1⟩
end Go.Proofs.Ytjifdmfoijoekaa

namespace Go.Proofs.Ytjifdmfoijoekaa
open Go.RowKit
open Go.Proofs
attribute [local irreducible] Go.Calls Go.wpStill

theorem BallAt.below {w w' : World} {bb r : Nat} {near : List (List Nat × Nat)} {shell : List (List Nat)} (h : BallAt w bb r near shell) (hb : Below w.heap.size w w') : BallAt w' bb r near shell := by
  obtain ⟨⟨sv, h1, h2⟩, h3⟩ := h
  refine ⟨⟨sv, (hb.block bb (Array.getElem?_eq_some_iff.1 h1).1).trans h1, ?_⟩, h3.below hb⟩
  obtain ⟨a, cap, e1, e2, e3, e4⟩ := h2
  refine ⟨a, cap, e1, e2, e3, fun h0 => ?_⟩
  obtain ⟨b, f1, f2, f3⟩ := e4 h0
  exact ⟨b, f1, Nat.lt_of_lt_of_le f2 hb.size, fun i hi => range_below (f3 i hi) hb⟩
/-- a write into a block that holds an int -/
theorem BallAt.grown {w w' : World} {bb r : Nat} {near : List (List Nat × Nat)} {shell : List (List Nat)} (h : BallAt w bb r near shell) {g : Nat} {x : Int} (hg : w.grownBy w' (some g)) (hc : w.cell? ⟨g, 0, none⟩ = some (.int .i64 x)) : BallAt w' bb r near shell := by
  obtain ⟨⟨sv, h1, h2⟩, h3⟩ := h
  have n1 : bb ≠ g := by
    rintro rfl
    rw [cell_of_row _ _ _ _ _ _ h1] at hc
    simp at hc
  have n2 : r ≠ g := by
    rintro rfl
    obtain ⟨es, c, e1, _⟩ := h3
    unfold World.cell? at hc
    simp [e1] at hc
  refine ⟨⟨sv, (hg.block bb (Array.getElem?_eq_some_iff.1 h1).1 (by simpa using n1)).trans h1, ?_⟩, h3.grown hg (by simpa using n2)⟩
  obtain ⟨a, cap, e1, e2, e3, e4⟩ := h2
  refine ⟨a, cap, e1, e2, e3, fun h0 => ?_⟩
  obtain ⟨b, f1, f2, f3⟩ := e4 h0
  refine ⟨b, f1, Nat.lt_of_lt_of_le f2 hg.size, fun i hi => range_grown (f3 i hi) hg ?_⟩
  intro e
  have e : b = g := by simpa using e
  subst e
  have h4 := f3 0 h0 0 (keyF shell[0] 0) (by have := get_keyC shell[0] 0 (by decide); simpa using this)
  rw [Nat.zero_mul, Nat.zero_add, hc] at h4
  simp [keyF] at h4
/-- a row of ints is not touched by a ball's grow -/
theorem row_fr {w w' : World} {bb r base n : Nat} {v : Value} {xs : List Value} {near : List (List Nat × Nat)} {shell : List (List Nat)} (h : w.ownsRow base 3 1 v n xs) (hB : BallAt w bb r near shell) (hf : Fr w w' bb r) : w'.ownsRow base 3 1 v n xs := by
  have hh := h
  obtain ⟨h1, h2⟩ := h
  rcases h2 with h2 | ⟨g, cap, cur, hv, hg, hc, h3, h4, h5, h6⟩
  · exact ⟨h1, .inl h2⟩
  · obtain ⟨⟨sv, b1, _⟩, b2⟩ := hB
    refine ⟨h1, .inr ⟨g, cap, cur, hv, hg, (hf.block g (Array.getElem?_eq_some_iff.1 hc).1 ?_ ?_).trans hc, h3, h4, h5, h6⟩⟩
    · rintro rfl
      rw [hc] at b1
      simp at b1
    · rintro rfl
      obtain ⟨es, c, e1, _⟩ := b2
      rw [hc] at e1; cases e1
theorem Fr.acc {w0 w w' : World} {bb r : Nat} (hb : Below w0.heap.size w0 w) (h : Fr w w' bb r) (h1 : w0.heap.size ≤ bb) (h2 : w0.heap.size ≤ r) : Below w0.heap.size w0 w' :=
  hb.trans ⟨h.os, h.tape, h.output, h.size, fun k hk => h.block k (Nat.lt_of_lt_of_le hk hb.size) (by omega) (by omega)⟩

theorem BallAt.app {wr w' : World} {bb r base m : Nat} {v : Value} {x : Int} {l : List Int} {o : Obj} {near : List (List Nat × Nat)} {shell : List (List Nat)} (h : BallAt wr bb r near shell) (ho : wr.ownsRow base 3 1 v (m + 1) ((x :: l).map (Value.int .i64)))
    (hg : (wr.alloc o).grownBy w' v.ownBlock) : BallAt w' bb r near shell := by
  have hh := ho
  obtain ⟨_, h2⟩ := ho
  rcases h2 with ⟨_, h2⟩ | ⟨g, cap, cur, hv, _⟩
  · omega
  · subst hv
    have hc := hh.cells (g := g) rfl 0 (.int .i64 x) (by simp)
    have hb : Below wr.heap.size wr (wr.alloc o) := (Below.refl _ _).alloc (Nat.le_refl _) _
    have hc : wr.cell? ⟨g, 0, none⟩ = some (.int .i64 x) := hc
    refine (h.below hb).grown (g := g) (x := x) hg ?_
    rw [hb.cell (p := ⟨g, 0, none⟩) (World.block_lt_of_cell? wr _ hc)]; exact hc
/-- the sizes of the shells -/
def sizesL (mv : List (List Nat)) (c : List Nat) (n : Nat) : List Int := (List.range n).map fun k => ((bIter mv c k).2.length : Int)
theorem sizesL_succ (mv : List (List Nat)) (c : List Nat) (n : Nat) : sizesL mv c (n + 1) = sizesL mv c n ++ [((bIter mv c n).2.length : Int)] := by
  unfold sizesL; rw [List.range_succ, List.map_append]; rfl
theorem len_sizesL (mv : List (List Nat)) (c : List Nat) (n : Nat) : (sizesL mv c n).length = n := by simp [sizesL]

theorem pow12 {k : Nat} (h : k ≤ 4) : 12 ^ k * 12 ≤ 1000000 := by
  have : k = 0 ∨ k = 1 ∨ k = 2 ∨ k = 3 ∨ k = 4 := by omega
  rcases this with rfl | rfl | rfl | rfl | rfl <;> decide

set_option maxRecDepth 100000 in
set_option maxHeartbeats 1000000 in
theorem Ball_in (gv : Value) (D : Nat) (gs : List (List Nat)) (n : Nat) (w : World) (h : Rg.NRows w gv gs) (hg : GG D gs) (h1 : 1 ≤ D) (h2 : D ≤ 64) (hl : gs.length ≤ 6) (hn : n ≤ 5) (hz : Hid (pzchk (D : Int) (gs.map Ma.ofN) = 0)) :
    Calls Try.prog 10 #[.agg #[.int .i64 D, gv], .int .i64 n] w fun e w' => ∃ v, e = .returned (.tuple #[v, .int .i64 0]) ∧ Rg.Ints w' v (sizesL (moves gs) (Ma.oneN D) (n + 1)) ∧ Below w.heap.size w w' := by
  have hv := h
  obtain ⟨ad, cap, rfl, hc, _, _, _⟩ := h.shape
  have hba := Lib.hid (show Below w.heap.size w (w.alloc (.cells #[.int .i64 D, .slice ad gs.length cap] 24)) from (Below.refl _ _).alloc (Nat.le_refl _) _)
  have hck := Lib.hid (pzCheck_any _ D (gs.map Ma.ofN) _ (hv.below hba.out))
  have Hv := Lib.hid hv
  have hO : Gd D (Ma.oneN D) := ⟨Ma.okN_oneN D, Ma.len_oneN D⟩
  have hM := moves_Gd hg
  have hml : (moves gs).length ≤ 12 := by rw [len_moves]; omega
  clear h hv
  go_enter Try.func10, Try.ntmps10
  go_wp2_with (first | (go_at_call 32; refine hck.out.mono ?_; rintro e w1 ⟨rfl, hb1⟩; rw [hz.out]; have hB1 := Lib.hid (Rg.acc hba.out hb1); have hc0 : w1.cell? ⟨w.heap.size, 0, none⟩ = some (.int .i64 D) := (hb1.cell (p := ⟨w.heap.size, 0, none⟩) (by simp)).trans (by rw [Rg.cellNew]; rfl); have hc1 : w1.cell? ⟨w.heap.size, 1, none⟩ = some (.slice ad gs.length cap) := (hb1.cell (p := ⟨w.heap.size, 1, none⟩) (by simp)).trans (by rw [Rg.cellNew]; rfl); have hlt1 : w.heap.size < w1.heap.size := by have := hb1.size; simp at this; omega) | (go_at_call 33; refine (letters_any _ D gs _ (Hv.out.below hB1.out) hg h1 h2 (by omega) D).mono ?_; rintro e w2 ⟨lv, mv, rfl, hlv, hmv, hb2⟩; have hc2 : w2.cell? ⟨w.heap.size, 0, none⟩ = some (.int .i64 D) := (hb2.cell (p := ⟨w.heap.size, 0, none⟩) hlt1).trans hc0) | (go_at_call 34; refine (permOne_in D _ h1 h2).mono ?_; rintro e w3 ⟨ov, rfl, hov, hb3⟩) | (go_at_call 35; refine (around_any _ (Ma.oneN D) _ hov.1 (by rw [Ma.len_oneN]; exact hO.gk h2)).mono ?_; rintro e w4 ⟨bb, r, rfl, hB4, hbb, hrr, hne, hb4⟩))
  have hmv3 : Rg.NRows w3 mv (moves gs) := hmv.below hb3
  have hB3 := Lib.hid (Rg.acc (Rg.acc hB1.out hb2) hb3)
  have hr0 : (w4.alloc (.cells #[.int .i64 1] 3)).ownsRow w3.heap.size 3 1 (.slice (some ⟨w4.heap.size, 0, none⟩) 1 1) 1 ((sizesL (moves gs) (Ma.oneN D) 1).map (Value.int .i64)) :=
    World.ownsRow_lit w4 #[.int .i64 1] 1 hb4.size (by unfold maxLen; omega) rfl
  have hB5 : BallAt (w4.alloc (.cells #[.int .i64 1] 3)) bb r [(Ma.oneN D, 0)] [Ma.oneN D] := hB4.below ((Below.refl _ _).alloc (Nat.le_refl _) _)
  have hb5 : Below w3.heap.size w3 (w4.alloc (.cells #[.int .i64 1] 3)) := hb4.alloc hb4.size _
  have Hr0 := Lib.hid hr0
  have HB5 := Lib.hid hB5
  have Hb5 := Lib.hid hb5
  have Hmv3 := Lib.hid hmv3
  clear hc0 hc1 hc2 hB4 hB5 hb5 hr0 hmv hlv hov hb4 hmv3
  go_loopw [12, 39] (fun v i wr => ∃ k : Nat, k ≤ n ∧ i = .int .i64 k ∧ Hid (BallAt wr bb r (bIter (moves gs) (Ma.oneN D) k).1 (bIter (moves gs) (Ma.oneN D) k).2) ∧ Hid (wr.ownsRow w3.heap.size 3 1 v (k + 1) ((sizesL (moves gs) (Ma.oneN D) (k + 1)).map (Value.int .i64))) ∧ Hid (Below w3.heap.size w3 wr)) (fun _ i _ => n - (intOf i).toNat)
  case atStart => exact ⟨0, by omega, rfl, HB5.out, Hr0.out, Hb5.out⟩
  case round =>
    obtain ⟨k, hk, rfl, hB, hR, hbe⟩ := hrel
    by_cases hlt : k < n
    · have hlen := bIter_len (moves gs) (Ma.oneN D) 12 hml k
      have hp := pow12 (k := k) (by omega)
      have hlen2 := bIter_len (moves gs) (Ma.oneN D) 12 hml (k + 1)
      have hsz : (bIter (moves gs) (Ma.oneN D) k).2.length * (moves gs).length ≤ 1000000 := Nat.le_trans (Nat.mul_le_mul hlen hml) hp
      have hgr := Lib.hid (grow_any bb r mv (moves gs) _ _ D w3 _ Hmv3.out hbe.out hbb hrr hne hB.out (bIter_GS hO hM k) hM h1 h2 hsz (by omega) (by have := growD_le (bIter_near (moves gs) (Ma.oneN D) k) (bIter (moves gs) (Ma.oneN D) k).2; omega))
      have hsl : (sizesL (moves gs) (Ma.oneN D) (k + 1)).map (Value.int .i64) = (1 :: ((List.range k).map fun j => ((bIter (moves gs) (Ma.oneN D) (j + 1)).2.length : Int))).map (Value.int .i64) := by
        unfold sizesL; rw [List.range_succ_eq_map]; simp [bIter]
      have Hsl := Lib.hid hsl
      have hL : (bIter (moves gs) (Ma.oneN D) (k + 1)).2.length ≤ 1000000 := Nat.le_trans hlen2 (by rw [Nat.pow_succ]; exact hp)
      have HL := Lib.hid hL
      clear hlen hp hlen2 hsz hsl hL
      go_wp2_with (first | (go_at_call 36; refine hgr.out.mono ?_; rintro e w5 ⟨rfl, hB6, hf6⟩; have hR6 := Lib.hid (row_fr hR.out hB.out hf6); have hbe6 := Lib.hid (hf6.acc hbe.out hbb hrr); have HB6 := Lib.hid hB6; obtain ⟨⟨sv, hs1, hs2⟩, _⟩ := hB6; obtain ⟨sa, sc, rfl, _⟩ := hs2; have hcs : w5.cell? ⟨bb, 1, none⟩ = some (.slice sa (bIter (moves gs) (Ma.oneN D) (k + 1)).2.length sc) := by { rw [cell_of_row _ _ _ _ _ _ hs1]; rfl }; clear hs1 hf6) | (at_builtin; refine Rg.app1 (W0 := w3) rfl _ _ 27 rfl slInts hR6.out hbe6.out _ (by simp [Value.oneCell']) (by rfl) (by rfl) (by omega) ?_; intro v' w7 hR7 hb7 hg7 _ _))
      go_roundw
      case rel =>
        refine ⟨k + 1, by omega, by go_num, ?_, ?_, hb7⟩
        · have := hR6.out
          rw [Hsl.out] at this
          exact HB6.out.app this hg7
        · rw [sizesL_succ, List.map_append]; exact hR7
      case measure => simp [intOf]; omega
    · obtain rfl : k = n := by omega
      go_wp2
      go_ret2
      exact ⟨_, rfl, Rg.Ints.of_row hR.out (by omega), Rg.acc hB3.out hbe.out⟩

/-- Ball's result -/
def ballS (d : Int) (ll : List (List Int)) (n : Int) : List Int × Int :=
  if pzchk d ll = 0 then (if 0 ≤ n ∧ n ≤ 5 then (sizesL (moves (ll.map fun l => l.map Int.toNat)) (Ma.oneN d.toNat) (n.toNat + 1), 0) else ([], 2)) else ([], pzchk d ll)
theorem toNat_ofN (gs : List (List Nat)) : ((gs.map Ma.ofN).map fun l => l.map Int.toNat) = gs := by
  rw [List.map_map]
  conv => rhs; rw [← List.map_id gs]
  refine List.map_congr_left fun p _ => ?_
  simp [Ma.ofN, Function.comp_def]

set_option maxHeartbeats 400000 in
theorem Ball_any (gv : Value) (d : Int) (ll : List (List Int)) (n : Int) (w : World) (h : Rg.Rows w gv ll) :
    Calls Try.prog 10 #[.agg #[.int .i64 d, gv], .int .i64 n] w fun e w' => ∃ v, e = .returned (.tuple #[v, .int .i64 (ballS d ll n).2]) ∧ Rg.Ints w' v (ballS d ll n).1 ∧ Below w.heap.size w w' := by
  by_cases hz : pzchk d ll = 0
  · by_cases hn : 0 ≤ n ∧ n ≤ 5
    · obtain ⟨D, gs, rfl, rfl, hg, h1, h2, hl⟩ := pzchk_zero hz
      obtain ⟨m, rfl⟩ := Int.eq_ofNat_of_zero_le hn.1
      have hS : ballS (D : Int) (gs.map Ma.ofN) (m : Int) = (sizesL (moves gs) (Ma.oneN D) (m + 1), 0) := by
        unfold ballS; rw [if_pos hz, if_pos hn, toNat_ofN]; rfl
      rw [hS]
      exact Ball_in gv D gs m w h hg h1 h2 hl (by omega) hz
    · have hS : ballS d ll n = ([], 2) := by unfold ballS; rw [if_pos hz, if_neg hn]
      rw [hS]
      have hv := h
      obtain ⟨ad, cap, rfl, hc, _, _, _⟩ := h.shape
      have hba := Lib.hid (show Below w.heap.size w (w.alloc (.cells #[.int .i64 d, .slice ad ll.length cap] 24)) from (Below.refl _ _).alloc (Nat.le_refl _) _)
      have hck := Lib.hid (pzCheck_any _ d ll _ (hv.below hba.out))
      have Hz := Lib.hid hz
      clear hS hz h hv
      by_cases h0 : n < 0
      all_goals
        have h5 : n < 0 ∨ 5 < n := by omega
        clear hn
        go_enter Try.func10, Try.ntmps10
        go_wp2_with (go_at_call 32; refine hck.out.mono ?_; rintro e w1 ⟨rfl, hb1⟩; rw [Hz.out])
        go_ret2
        exact ⟨_, rfl, Rg.Ints.nil _ _ _ (by unfold maxLen; omega), Rg.acc hba.out hb1⟩
  · have hS : ballS d ll n = ([], pzchk d ll) := by unfold ballS; rw [if_neg hz]
    rw [hS]
    have hv := h
    obtain ⟨ad, cap, rfl, hc, _, _, _⟩ := h.shape
    have hba := Lib.hid (show Below w.heap.size w (w.alloc (.cells #[.int .i64 d, .slice ad ll.length cap] 24)) from (Below.refl _ _).alloc (Nat.le_refl _) _)
    have hck := Lib.hid (pzCheck_any _ d ll _ (hv.below hba.out))
    have hbb : (pzchk d ll != 0) = true := by rw [bne_iff_ne]; exact hz
    clear hS hz h hv
    go_enter Try.func10, Try.ntmps10
    go_wp2_with (go_at_call 32; refine hck.out.mono ?_; rintro e w1 ⟨rfl, hb1⟩)
    go_ret2
    exact ⟨_, rfl, Rg.Ints.nil _ _ _ (by unfold maxLen; omega), Rg.acc hba.out hb1⟩
end Go.Proofs.Ytjifdmfoijoekaa

