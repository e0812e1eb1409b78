/- Lemmas and contracts on the way to the statement; no condition of their own beyond those written. -/
import Derived.Test.YtojbijkljnohoaaXOzVa
import Derived.Test.YtojbijkljnohoaaXCf
import Derived.BigQuiet
import Derived.Deep.QuietTactic
set_option linter.unusedVariables false
/-! The reference's ascending. -/
namespace Go.Proofs.Ytojbijkljnohoaa
open Go.RowKit
open Go.Proofs
open Go.Proofs.Ob
attribute [local irreducible] Go.Calls

/-- the first k of a list, as a slice -/
theorem slice_hi {w0 : World} {v : Value} {l : List Int} (h : Rg.Ints w0 v l) (k : Nat) (hk : k ≤ l.length) :
    ∃ v', (∀ w, (Instr.sliceAt 33 v none (some (.int .i64 (k : Int))) none).run Try.prog w = .ok v' w) ∧ (∀ w, Rg.Ints w v l → Rg.Ints w v' (l.take k)) ∧ ∃ a c, v' = .slice a k c := by
  obtain ⟨a, cap, rfl, h2, h3, h4, h5⟩ := h.shape
  refine ⟨.slice a k cap, fun w => ?_, fun w hw => ?_, a, cap, rfl⟩
  · cases a with
    | none =>
      have hl : l.length = 0 := by
        rcases Nat.eq_zero_or_pos l.length with h0 | h0
        · exact h0
        · obtain ⟨b, o, e, _⟩ := h5 h0; cases e
      have hk0 : k = 0 := by omega
      subst hk0
      obtain ⟨i0, hi, hz0, hz1, hz2⟩ := info_parts intsInfo
      simp [Instr.sliceAt, Instr.slice, run_underlying Try.underlying33, Instr.sliceBounds, Instr.sliceBound, asIntOf, sizeOf, typeInfo, hi, Addr.add]
    | some ad =>
      obtain ⟨i0, hi, hz0, hz1, hz2⟩ := info_parts intsInfo
      simp [Instr.sliceAt, Instr.slice, run_underlying Try.underlying33, Instr.sliceBounds, Instr.sliceBound, asIntOf, sizeOf, typeInfo, hi, Addr.add]
      intro hh; omega
  · obtain ⟨a', cap', e, g2, g3, g4, g5⟩ := hw.shape
    simp at e
    obtain ⟨rfl, rfl⟩ := e
    have hlen : (l.take k).length = k := by rw [List.length_take]; omega
    refine ⟨a, cap, by rw [List.length_map, hlen], by rw [List.length_map, hlen]; omega, g4, by rw [List.length_map, hlen]; unfold Rg.big; omega, fun h0 => ?_⟩
    rw [List.length_map, hlen] at h0
    obtain ⟨b, o, e1, e2, e3⟩ := g5 (by omega)
    refine ⟨b, o, e1, e2, fun i hi => ?_⟩
    rw [List.length_map, hlen] at hi
    rw [e3 i (by omega)]
    simp [List.getElem_take]
theorem slice_lo {w0 : World} {v : Value} {l : List Int} (h : Rg.Ints w0 v l) (k : Nat) (hk : k ≤ l.length) :
    ∃ v', (∀ w, (Instr.sliceAt 33 v (some (.int .i64 (k : Int))) none none).run Try.prog w = .ok v' w) ∧ (∀ w, Rg.Ints w v l → Rg.Ints w v' (l.drop k)) ∧ ∃ a c, v' = .slice a (l.length - k) c := by
  obtain ⟨a, cap, rfl, h2, h3, h4, h5⟩ := h.shape
  cases a with
  | none =>
    have hl : l.length = 0 := by
      rcases Nat.eq_zero_or_pos l.length with h0 | h0
      · exact h0
      · obtain ⟨b, o, e, _⟩ := h5 h0; cases e
    have hk0 : k = 0 := by omega
    subst hk0
    refine ⟨.slice none l.length cap, fun w => ?_, fun w hw => by simpa using hw, none, cap, by simp⟩
    obtain ⟨i0, hi, hz0, hz1, hz2⟩ := info_parts intsInfo
    simp [Instr.sliceAt, Instr.slice, run_underlying Try.underlying33, Instr.sliceBounds, Instr.sliceBound, asIntOf, sizeOf, typeInfo, hi, Addr.add, hl]
  | some ad =>
    refine ⟨.slice (some (if cap = k then ad else ad.add k)) (l.length - k) (cap - k), fun w => ?_, fun w hw => ?_, _, _, rfl⟩
    · obtain ⟨i0, hi, hz0, hz1, hz2⟩ := info_parts intsInfo
      simp [Instr.sliceAt, Instr.slice, run_underlying Try.underlying33, Instr.sliceBounds, Instr.sliceBound, asIntOf, sizeOf, typeInfo, hi, hz1, Addr.add]
      rw [if_pos (by omega)]
      by_cases e : cap = k
      · simp [e]
      · simp [e]
        try rw [if_neg (by omega)]
    · obtain ⟨a', cap', e, g2, g3, g4, g5⟩ := hw.shape
      simp at e
      obtain ⟨rfl, rfl⟩ := e
      have hlen : (l.drop k).length = l.length - k := by rw [List.length_drop]
      have k1 : l.length - k ≤ cap - k := by omega
      have k2 : cap - k ≤ maxLen := by omega
      have k3 : l.length - k ≤ Rg.big := by unfold Rg.big; omega
      refine ⟨some (if cap = k then ad else ad.add k), cap - k, by rw [List.length_map, hlen], by rw [List.length_map, hlen]; exact k1, k2, by rw [List.length_map, hlen]; exact k3, fun h0 => ?_⟩
      rw [List.length_map, hlen] at h0
      obtain ⟨b, o, e1, e2, e3⟩ := g5 (by clear h5 g5; omega)
      clear h5 g5
      obtain rfl : ad = ⟨b, o, none⟩ := by simpa using e1
      rw [if_neg (by omega)]
      refine ⟨b, o + k, by rw [add_none rfl], e2, fun i hi => ?_⟩
      rw [List.length_map, hlen] at hi
      rw [Nat.add_assoc, e3 (k + i) (by omega)]
      simp [List.getElem_drop]
theorem exec_sliceHi {o : Oper} {a : Act} {w : World} {v r : Value} {k : Nat} (x y : Operand) (ho : o.op = .slice 33 x none (some y) none) (hx : a.eval x = v) (hy : a.eval y = .int .i64 (k : Int)) (hr : (Instr.sliceAt 33 v none (some (.int .i64 (k : Int))) none).run Try.prog w = .ok r w) :
    (execOp a.eval o).run Try.prog w = .ok (.value r) w := by
  unfold execOp
  simp only [ho, hx, hy, Sem.run_bind, Sem.run_pure, Option.map]
  first | (rw [hr]; rfl) | (erw [hr]; rfl) | simp [hr]
theorem exec_sliceLo {o : Oper} {a : Act} {w : World} {v r : Value} {k : Nat} (x y : Operand) (ho : o.op = .slice 33 x (some y) none none) (hx : a.eval x = v) (hy : a.eval y = .int .i64 (k : Int)) (hr : (Instr.sliceAt 33 v (some (.int .i64 (k : Int))) none none).run Try.prog w = .ok r w) :
    (execOp a.eval o).run Try.prog w = .ok (.value r) w := by
  unfold execOp
  simp only [ho, hx, hy, Sem.run_bind, Sem.run_pure, Option.map]
  first | (rw [hr]; rfl) | (erw [hr]; rfl) | simp [hr]
/-- an empty row of the call's own, whose block has no cell -/
def Own0 (B : Nat) (u : Value) (w : World) : Prop := w.ownsRow B 3 1 u 0 [] ∧ ∃ p, u = .slice (some ⟨p, 0, none⟩) 0 0 ∧ p < w.heap.size ∧ w.cell? ⟨p, 0, none⟩ = none
theorem Own0.below {B : Nat} {u : Value} {w w' : World} (h : Own0 B u w) (hb : Below w.heap.size w w') : Own0 B u w' := by
  obtain ⟨h1, p, e, h2, h3⟩ := h
  exact ⟨Rg.row_below h1 hb, p, e, Nat.lt_of_lt_of_le h2 hb.size, (hb.cell (p := ⟨p, 0, none⟩) h2).trans h3⟩
theorem Own0.new {B : Nat} (w : World) (hB : B ≤ w.heap.size) : Own0 B (.slice (some ⟨w.heap.size, 0, none⟩) 0 0) (w.alloc (.cells #[] 3)) := by
  refine ⟨⟨rfl, .inr ⟨w.heap.size, 0, #[], rfl, hB, by show (w.heap.push _)[w.heap.size]? = _; simp, Nat.le_refl _, Nat.zero_le _, rfl, rfl⟩⟩, w.heap.size, rfl, by simp, by rw [Rg.cellNew]; rfl⟩
theorem Own0.ne {B B' : Nat} {u v : Value} {x : Value} {w : World} (h : Own0 B u w) (h' : Rg.BlkF B' [x] v w) : ∀ p, v = .slice (some ⟨p, 0, none⟩) 1 1 → u.ownBlock ≠ some p := by
  obtain ⟨_, p, rfl, _, h3⟩ := h
  obtain ⟨q, rfl, _, _, h4⟩ := h'
  intro p' e' e
  simp at e'
  subst e'
  simp [Value.ownBlock] at e
  subst e
  have := h4 0 (by simp)
  rw [h3] at this; cases this
theorem BlkF.off {B : Nat} {x v : Value} {w w' : World} {k : Option Nat} (h : Rg.BlkF B [x] v w) (hg : w.grownBy w' k) (hk : ∀ p, v = .slice (some ⟨p, 0, none⟩) 1 1 → k ≠ some p) : Rg.BlkF B [x] v w' := by
  obtain ⟨p, e, h0, h1, h2⟩ := h
  exact ⟨p, e, h0, Nat.lt_of_lt_of_le h1 hg.size, fun j hj => by
    rw [← h2 j hj]
    exact World.cell?_of_block (a := ⟨p, j, none⟩) (hg.block p h1 (fun e' => hk p e e'.symm))⟩
theorem ints_cells {l : List Int} : ∀ u ∈ l.map (Value.int .i64), u.oneCell' = true := fun u hu => by
  obtain ⟨x, _, rfl⟩ := List.mem_map.1 hu; rfl

set_option maxRecDepth 100000 in
set_option maxHeartbeats 4000000 in
theorem ascending_any (v : Value) (l : List Int) (w : World) (h : Rg.Ints w v l) (hl : l.length ≤ 100000) :
    Calls Try.prog 67 #[v] w fun e w' => ∃ v', e = .returned v' ∧ Rg.Ints w' v' (asc l) ∧ Rg.Fresh w.heap.size v' ∧ Below w.heap.size w w' := by
  obtain ⟨la, lc, rfl, _, _, _, hlr⟩ := h.shape
  have HL := Lib.hid hlr
  have HI := Lib.hid h
  clear h hlr
  have hlN : (l.length : Int) ≤ 100000 := by omega
  go_enter Try.func67, Try.ntmps67
  go_wp2
  go_loopw [3, 4] (fun ov i wr => ∃ k : Nat, k ≤ l.length ∧ i = .int .i64 k ∧ Hid (Rg.Ints wr ov (asc (l.take k))) ∧ Hid (Rg.Fresh w.heap.size ov) ∧ Hid (Below w.heap.size w wr)) (fun _ i _ => l.length - (intOf i).toNat)
  case atStart => exact ⟨0, by omega, rfl, Lib.hid (Rg.Ints.nil _ _ _ (Nat.zero_le _)), Lib.hid (fun a n c e => by simp at e), Lib.hid (Below.refl _ _)⟩
  case round =>
    obtain ⟨i, hi, rfl, hs, hfr, hbel⟩ := hrel
    by_cases hlt : i < l.length
    · obtain ⟨lb, lo, rfl, hlb, hlcell⟩ := HL.out (by omega)
      have C1 := Lib.hid (show Cel wr lb (lo + i) (.int .i64 l[i]) from ⟨(hbel.out.cell (p := ⟨lb, lo + i, none⟩) hlb).trans (hlcell i hlt), Nat.lt_of_lt_of_le hlb hbel.out.size⟩)
      obtain ⟨x, hx⟩ : ∃ x, Hid (x = l[i]) := ⟨_, Lib.hid rfl⟩
      rw [← hx.out] at C1
      have HSC := Lib.hid (asc_succ l i hlt)
      rw [← hx.out] at HSC
      obtain ⟨O, hO⟩ : ∃ O, Hid (O = asc (l.take i)) := ⟨_, Lib.hid rfl⟩
      have hOl : O.length = i := by rw [hO.out, asc_length, List.length_take]; omega
      rw [← hO.out] at hs HSC
      clear hlb hlcell
      obtain ⟨oa, oc, rfl, _, _, _, hor⟩ := hs.out.shape
      have HOR := Lib.hid hor
      have HOL := Lib.hid hOl
      have hiN : (i : Int) < (l.length : Int) := by omega
      have hON : (O.length : Int) ≤ 100000 := by omega
      clear hor hOl
      have HIs := Lib.hid hs.out
      go_wp2
      go_loopw [5] (fun kv wr2 => ∃ k : Nat, k ≤ O.length ∧ kv = .int .i64 k ∧ Hid (∀ j (h : j < O.length), j < k → O[j] < x) ∧ Hid (Rg.Ints wr2 (.slice oa O.length oc) O) ∧ Hid (Cel wr2 lb (lo + i) (.int .i64 x)) ∧ Hid (Below w.heap.size w wr2)) (fun kv _ => O.length - (intOf kv).toNat)
      case atStart => exact ⟨0, by omega, rfl, Lib.hid (fun j h h0 => by omega), HIs, C1, hbel⟩
      case round =>
        clear hs hbel HIs C1 HOR
        obtain ⟨k, hk, rfl, hlo, HO, C1, K⟩ := hrel
        by_cases hko : k < O.length
        · have hcell := HO.out.shape
          obtain ⟨oa', oc', eo, _, _, _, hor⟩ := hcell
          obtain ⟨ob, oo, e1, hob, hoc⟩ := hor (by omega)
          subst e1
          cases eo
          obtain ⟨y, hy⟩ : ∃ y, Hid (y = O[k]) := ⟨_, Lib.hid rfl⟩
          have C2 := Lib.hid (show Cel wr ob (oo + k) (.int .i64 y) from ⟨by rw [hy.out]; exact hoc k hko, hob⟩)
          clear hoc hob hor
          by_cases hyx : y < x

          · -- goes on
            go_upto_region 6 with (fail)
            have hV0 : Below wr.heap.size wr wr.drew := (Below.refl _ _).drew
            replace HO := Lib.hid (HO.out.below hV0)
            replace C1 := Lib.hid (C1.out.below hV0)
            replace C2 := Lib.hid (C2.out.below hV0)
            replace K := Lib.hid (Rg.acc K.out hV0)
            clear hV0
            refine Rg.Any.begin (S := Rg.Both 14 (fun _ => True) (fun W => Below wr.drew.heap.size wr.drew W)) mix ?_
            generalize wr.drew = w1 at *
            have hS : ∀ (l : Array Bool) W, Below w1.heap.size w1 W → Rg.Both 14 (fun _ => True) (fun W => Below w1.heap.size w1 W) l W := fun l W h => ⟨.inr trivial, h⟩
            have hI : Below w1.heap.size w1 w1 := Below.refl _ _
            refine Rg.Any.takeG (i := 0) (t := 14) (v := .int .i64 ((k : Nat) : Int)) (some 12) rfl rfl (by kernel_rfl) (by kernel_rfl) (by kernel_rfl) (fun _ _ _ h => h) rfl (.inl ⟨rfl, fun w _ => Rg.exec_move (v := .int .i64 ((k : Nat) : Int)) _ rfl rfl⟩) (hS _ _ hI) ?_
            go_frame
            refine Rg.Any.takeG (i := 1) (t := 14) (v := .slice (some ⟨ob, oo, none⟩) O.length oc) (some 13) rfl rfl (by kernel_rfl) (by kernel_rfl) (by kernel_rfl) (fun _ _ _ h => h) rfl (.inl ⟨rfl, fun w _ => Rg.exec_move (v := .slice (some ⟨ob, oo, none⟩) O.length oc) _ rfl rfl⟩) (hS _ _ hI) ?_
            go_frame
            refine Rg.Any.takeG (i := 2) (t := 14) (v := .int .i64 ((O.length : Nat) : Int)) (some 14) rfl rfl (by kernel_rfl) (by kernel_rfl) (by kernel_rfl) (fun _ _ _ h => h) rfl (.inl ⟨rfl, fun w _ => exec_len _ _ _ rfl Try.underlying33 _ _ _ rfl⟩) (hS _ _ hI) ?_
            go_frame
            refine Rg.Any.takeG (i := 3) (t := 14) (v := .bool true) (some 15) rfl rfl (by kernel_rfl) (by kernel_rfl) (by kernel_rfl) (fun _ _ _ h => h) rfl (.inl ⟨rfl, fun w _ => exec_bin (R := .bool true) .lss _ _ _ rfl rfl rfl (b_lss _ (decide_eq_true (by omega)))⟩) (hS _ _ hI) ?_
            go_frame
            refine Rg.Any.takeG (i := 4) (t := 14) (v := .bool true) (some 16) rfl rfl (by kernel_rfl) (by kernel_rfl) (by kernel_rfl) (fun _ _ _ h => h) rfl (.inl ⟨rfl, fun w _ => Rg.exec_move (v := .bool true) _ rfl rfl⟩) (hS _ _ hI) ?_
            go_frame
            refine Rg.Any.takeG (i := 5) (t := 14) (v := .slice (some ⟨ob, oo, none⟩) O.length oc) (some 17) rfl rfl (by kernel_rfl) (by kernel_rfl) (by kernel_rfl) (fun _ _ _ h => h) rfl (.inl ⟨rfl, fun w _ => Rg.exec_move (v := .slice (some ⟨ob, oo, none⟩) O.length oc) _ rfl rfl⟩) (hS _ _ hI) ?_
            go_frame
            refine Rg.Any.takeG (i := 6) (t := 14) (v := .int .i64 ((k : Nat) : Int)) (some 18) rfl rfl (by kernel_rfl) (by kernel_rfl) (by kernel_rfl) (fun _ _ _ h => h) rfl (.inl ⟨rfl, fun w _ => Rg.exec_move (v := .int .i64 ((k : Nat) : Int)) _ rfl rfl⟩) (hS _ _ hI) ?_
            go_frame
            refine Rg.Any.takeG (i := 7) (t := 14) (v := .pointer (some ⟨ob, oo + k, none⟩)) (some 19) rfl rfl (by kernel_rfl) (by kernel_rfl) (by kernel_rfl) (fun _ _ _ h => h) rfl (Rg.yields_index slInts _ _ rfl rfl ob (oo) (O.length) oc (k) rfl rfl hko) (hS _ _ hI) ?_
            go_frame
            refine Rg.Any.takeG (i := 8) (t := 14) (v := .int .i64 y) (some 20) rfl rfl (by kernel_rfl) (by kernel_rfl) (by kernel_rfl) (fun _ _ _ h => h) rfl (Rg.yields_cell _ _ rfl rfl ⟨ob, oo + k, none⟩ rfl (fun W hW => run_loadInt ((Below.cell (p := ⟨ob, oo + k, none⟩) hW C2.out.2).trans C2.out.1))) (hS _ _ hI) ?_
            go_frame
            refine Rg.Any.takeG (i := 9) (t := 14) (v := .slice (some ⟨lb, lo, none⟩) l.length lc) (some 21) rfl rfl (by kernel_rfl) (by kernel_rfl) (by kernel_rfl) (fun _ _ _ h => h) rfl (.inl ⟨rfl, fun w _ => Rg.exec_move (v := .slice (some ⟨lb, lo, none⟩) l.length lc) _ rfl rfl⟩) (hS _ _ hI) ?_
            go_frame
            refine Rg.Any.takeG (i := 10) (t := 14) (v := .int .i64 ((i : Nat) : Int)) (some 22) rfl rfl (by kernel_rfl) (by kernel_rfl) (by kernel_rfl) (fun _ _ _ h => h) rfl (.inl ⟨rfl, fun w _ => Rg.exec_move (v := .int .i64 ((i : Nat) : Int)) _ rfl rfl⟩) (hS _ _ hI) ?_
            go_frame
            refine Rg.Any.takeG (i := 11) (t := 14) (v := .pointer (some ⟨lb, lo + i, none⟩)) (some 23) rfl rfl (by kernel_rfl) (by kernel_rfl) (by kernel_rfl) (fun _ _ _ h => h) rfl (Rg.yields_index slInts _ _ rfl rfl lb (lo) (l.length) lc (i) rfl rfl hlt) (hS _ _ hI) ?_
            go_frame
            refine Rg.Any.takeG (i := 12) (t := 14) (v := .int .i64 x) (some 24) rfl rfl (by kernel_rfl) (by kernel_rfl) (by kernel_rfl) (fun _ _ _ h => h) rfl (Rg.yields_cell _ _ rfl rfl ⟨lb, lo + i, none⟩ rfl (fun W hW => run_loadInt ((Below.cell (p := ⟨lb, lo + i, none⟩) hW C1.out.2).trans C1.out.1))) (hS _ _ hI) ?_
            go_frame
            refine Rg.Any.takeG (i := 13) (t := 14) (v := .bool true) (some 25) rfl rfl (by kernel_rfl) (by kernel_rfl) (by kernel_rfl) (fun _ _ _ h => h) rfl (.inl ⟨rfl, fun w _ => exec_bin (R := .bool true) .lss _ _ _ rfl rfl rfl (b_lss _ (decide_eq_true (by omega)))⟩) (hS _ _ hI) ?_
            go_frame
            refine Rg.Any.one (i := 14) (by kernel_rfl) (Rg.Any.run (some 26) rfl rfl rfl (exec_pickT (v := .bool true) _ _ _ rfl rfl rfl) (hS _ _ hI) ?_)
            go_frame
            refine Rg.Any.done (by kernel_rfl) ?_ _
            clear hS hI
            go_wp2
            go_roundw
            case rel => exact ⟨k + 1, by omega, by go_num, Lib.hid (fun j h hj => by by_cases e : j = k; subst e; rw [← hy.out]; exact hyx; exact hlo.out j h (by omega)), HO, C1, K⟩
            case measure => simp [intOf]; omega
          · have HGE := Lib.hid (show ∀ h : k < O.length, ¬ O[k] < x from fun h => by rw [← hy.out]; exact hyx)
            go_upto_region 6 with (fail)
            have hV0 : Below wr.heap.size wr wr.drew := (Below.refl _ _).drew
            replace HO := Lib.hid (HO.out.below hV0)
            replace C1 := Lib.hid (C1.out.below hV0)
            replace C2 := Lib.hid (C2.out.below hV0)
            replace K := Lib.hid (Rg.acc K.out hV0)
            clear hV0
            refine Rg.Any.begin (S := Rg.Both 14 (fun _ => True) (fun W => Below wr.drew.heap.size wr.drew W)) mix ?_
            generalize wr.drew = w2 at *
            have hS : ∀ (l : Array Bool) W, Below w2.heap.size w2 W → Rg.Both 14 (fun _ => True) (fun W => Below w2.heap.size w2 W) l W := fun l W h => ⟨.inr trivial, h⟩
            have hI : Below w2.heap.size w2 w2 := Below.refl _ _
            refine Rg.Any.takeG (i := 0) (t := 14) (v := .int .i64 ((k : Nat) : Int)) (some 12) rfl rfl (by kernel_rfl) (by kernel_rfl) (by kernel_rfl) (fun _ _ _ h => h) rfl (.inl ⟨rfl, fun w _ => Rg.exec_move (v := .int .i64 ((k : Nat) : Int)) _ rfl rfl⟩) (hS _ _ hI) ?_
            go_frame
            refine Rg.Any.takeG (i := 1) (t := 14) (v := .slice (some ⟨ob, oo, none⟩) O.length oc) (some 13) rfl rfl (by kernel_rfl) (by kernel_rfl) (by kernel_rfl) (fun _ _ _ h => h) rfl (.inl ⟨rfl, fun w _ => Rg.exec_move (v := .slice (some ⟨ob, oo, none⟩) O.length oc) _ rfl rfl⟩) (hS _ _ hI) ?_
            go_frame
            refine Rg.Any.takeG (i := 2) (t := 14) (v := .int .i64 ((O.length : Nat) : Int)) (some 14) rfl rfl (by kernel_rfl) (by kernel_rfl) (by kernel_rfl) (fun _ _ _ h => h) rfl (.inl ⟨rfl, fun w _ => exec_len _ _ _ rfl Try.underlying33 _ _ _ rfl⟩) (hS _ _ hI) ?_
            go_frame
            refine Rg.Any.takeG (i := 3) (t := 14) (v := .bool true) (some 15) rfl rfl (by kernel_rfl) (by kernel_rfl) (by kernel_rfl) (fun _ _ _ h => h) rfl (.inl ⟨rfl, fun w _ => exec_bin (R := .bool true) .lss _ _ _ rfl rfl rfl (b_lss _ (decide_eq_true (by omega)))⟩) (hS _ _ hI) ?_
            go_frame
            refine Rg.Any.takeG (i := 4) (t := 14) (v := .bool true) (some 16) rfl rfl (by kernel_rfl) (by kernel_rfl) (by kernel_rfl) (fun _ _ _ h => h) rfl (.inl ⟨rfl, fun w _ => Rg.exec_move (v := .bool true) _ rfl rfl⟩) (hS _ _ hI) ?_
            go_frame
            refine Rg.Any.takeG (i := 5) (t := 14) (v := .slice (some ⟨ob, oo, none⟩) O.length oc) (some 17) rfl rfl (by kernel_rfl) (by kernel_rfl) (by kernel_rfl) (fun _ _ _ h => h) rfl (.inl ⟨rfl, fun w _ => Rg.exec_move (v := .slice (some ⟨ob, oo, none⟩) O.length oc) _ rfl rfl⟩) (hS _ _ hI) ?_
            go_frame
            refine Rg.Any.takeG (i := 6) (t := 14) (v := .int .i64 ((k : Nat) : Int)) (some 18) rfl rfl (by kernel_rfl) (by kernel_rfl) (by kernel_rfl) (fun _ _ _ h => h) rfl (.inl ⟨rfl, fun w _ => Rg.exec_move (v := .int .i64 ((k : Nat) : Int)) _ rfl rfl⟩) (hS _ _ hI) ?_
            go_frame
            refine Rg.Any.takeG (i := 7) (t := 14) (v := .pointer (some ⟨ob, oo + k, none⟩)) (some 19) rfl rfl (by kernel_rfl) (by kernel_rfl) (by kernel_rfl) (fun _ _ _ h => h) rfl (Rg.yields_index slInts _ _ rfl rfl ob (oo) (O.length) oc (k) rfl rfl hko) (hS _ _ hI) ?_
            go_frame
            refine Rg.Any.takeG (i := 8) (t := 14) (v := .int .i64 y) (some 20) rfl rfl (by kernel_rfl) (by kernel_rfl) (by kernel_rfl) (fun _ _ _ h => h) rfl (Rg.yields_cell _ _ rfl rfl ⟨ob, oo + k, none⟩ rfl (fun W hW => run_loadInt ((Below.cell (p := ⟨ob, oo + k, none⟩) hW C2.out.2).trans C2.out.1))) (hS _ _ hI) ?_
            go_frame
            refine Rg.Any.takeG (i := 9) (t := 14) (v := .slice (some ⟨lb, lo, none⟩) l.length lc) (some 21) rfl rfl (by kernel_rfl) (by kernel_rfl) (by kernel_rfl) (fun _ _ _ h => h) rfl (.inl ⟨rfl, fun w _ => Rg.exec_move (v := .slice (some ⟨lb, lo, none⟩) l.length lc) _ rfl rfl⟩) (hS _ _ hI) ?_
            go_frame
            refine Rg.Any.takeG (i := 10) (t := 14) (v := .int .i64 ((i : Nat) : Int)) (some 22) rfl rfl (by kernel_rfl) (by kernel_rfl) (by kernel_rfl) (fun _ _ _ h => h) rfl (.inl ⟨rfl, fun w _ => Rg.exec_move (v := .int .i64 ((i : Nat) : Int)) _ rfl rfl⟩) (hS _ _ hI) ?_
            go_frame
            refine Rg.Any.takeG (i := 11) (t := 14) (v := .pointer (some ⟨lb, lo + i, none⟩)) (some 23) rfl rfl (by kernel_rfl) (by kernel_rfl) (by kernel_rfl) (fun _ _ _ h => h) rfl (Rg.yields_index slInts _ _ rfl rfl lb (lo) (l.length) lc (i) rfl rfl hlt) (hS _ _ hI) ?_
            go_frame
            refine Rg.Any.takeG (i := 12) (t := 14) (v := .int .i64 x) (some 24) rfl rfl (by kernel_rfl) (by kernel_rfl) (by kernel_rfl) (fun _ _ _ h => h) rfl (Rg.yields_cell _ _ rfl rfl ⟨lb, lo + i, none⟩ rfl (fun W hW => run_loadInt ((Below.cell (p := ⟨lb, lo + i, none⟩) hW C1.out.2).trans C1.out.1))) (hS _ _ hI) ?_
            go_frame
            refine Rg.Any.takeG (i := 13) (t := 14) (v := .bool false) (some 25) rfl rfl (by kernel_rfl) (by kernel_rfl) (by kernel_rfl) (fun _ _ _ h => h) rfl (.inl ⟨rfl, fun w _ => exec_bin (R := .bool false) .lss _ _ _ rfl rfl rfl (b_lss _ (decide_eq_false (by omega)))⟩) (hS _ _ hI) ?_
            go_frame
            refine Rg.Any.one (i := 14) (by kernel_rfl) (Rg.Any.run (some 26) rfl rfl rfl (exec_pickT (v := .bool false) _ _ _ rfl rfl rfl) (hS _ _ hI) ?_)
            go_frame
            refine Rg.Any.done (by kernel_rfl) ?_ _
            clear hS hI
            obtain ⟨hv, hh1, hh2, ha, hc, rfl⟩ := slice_hi HO.out k (by omega)
            obtain ⟨tv, ht1, ht2, ta, tc, rfl⟩ := slice_lo HO.out k (by omega)
            have HA := Lib.hid hh2
            have HT := Lib.hid ht2
            have HR1 := Lib.hid hh1
            have HR2 := Lib.hid ht1
            have hkl : (O.take k).length = k := by rw [List.length_take]; omega
            have HKL := Lib.hid hkl
            clear hh1 hh2 ht1 ht2 hkl
            go_upto_region 8 with (fail)
            have hV0 : Below w2.heap.size w2 w2.drew := (Below.refl _ _).drew
            replace HO := Lib.hid (HO.out.below hV0)
            replace C1 := Lib.hid (C1.out.below hV0)
            replace C2 := Lib.hid (C2.out.below hV0)
            replace K := Lib.hid (Rg.acc K.out hV0)
            clear hV0
            refine Rg.Any.begin (S := Rg.Both 15 (fun _ => True) (fun W => Below w2.drew.heap.size w2.drew W)) mix ?_
            generalize w2.drew = w3 at *
            have hS : ∀ (l : Array Bool) W, Below w3.heap.size w3 W → Rg.Both 15 (fun _ => True) (fun W => Below w3.heap.size w3 W) l W := fun l W h => ⟨.inr trivial, h⟩
            have hI : Below w3.heap.size w3 w3 := Below.refl _ _
            have hVs := K.out.size
            refine Rg.Any.takeG (i := 1) (t := 15) (v := .slice (some ⟨ob, oo, none⟩) O.length oc) (some 30) rfl rfl (by kernel_rfl) (by kernel_rfl) (by kernel_rfl) (fun _ _ _ h => h) rfl (.inl ⟨rfl, fun w _ => Rg.exec_move (v := .slice (some ⟨ob, oo, none⟩) O.length oc) _ rfl rfl⟩) (hS _ _ hI) ?_
            go_frame
            refine Rg.Any.takeG (i := 2) (t := 15) (v := .int .i64 ((k : Nat) : Int)) (some 31) rfl rfl (by kernel_rfl) (by kernel_rfl) (by kernel_rfl) (fun _ _ _ h => h) rfl (.inl ⟨rfl, fun w _ => Rg.exec_move (v := .int .i64 ((k : Nat) : Int)) _ rfl rfl⟩) (hS _ _ hI) ?_
            go_frame
            refine Rg.Any.takeG (i := 3) (t := 15) (v := .slice ha k hc) (some 32) rfl rfl (by kernel_rfl) (by kernel_rfl) (by kernel_rfl) (fun _ _ _ h => h) rfl (.inl ⟨rfl, fun w _ => exec_sliceHi _ _ rfl rfl rfl (HR1.out _)⟩) (hS _ _ hI) ?_
            go_frame
            refine Rg.Any.takeG (i := 5) (t := 15) (v := .slice (some ⟨lb, lo, none⟩) l.length lc) (some 34) rfl rfl (by kernel_rfl) (by kernel_rfl) (by kernel_rfl) (fun _ _ _ h => h) rfl (.inl ⟨rfl, fun w _ => Rg.exec_move (v := .slice (some ⟨lb, lo, none⟩) l.length lc) _ rfl rfl⟩) (hS _ _ hI) ?_
            go_frame
            refine Rg.Any.takeG (i := 6) (t := 15) (v := .int .i64 ((i : Nat) : Int)) (some 35) rfl rfl (by kernel_rfl) (by kernel_rfl) (by kernel_rfl) (fun _ _ _ h => h) rfl (.inl ⟨rfl, fun w _ => Rg.exec_move (v := .int .i64 ((i : Nat) : Int)) _ rfl rfl⟩) (hS _ _ hI) ?_
            go_frame
            refine Rg.Any.takeG (i := 7) (t := 15) (v := .pointer (some ⟨lb, lo + i, none⟩)) (some 36) rfl rfl (by kernel_rfl) (by kernel_rfl) (by kernel_rfl) (fun _ _ _ h => h) rfl (Rg.yields_index slInts _ _ rfl rfl lb (lo) (l.length) lc (i) rfl rfl hlt) (hS _ _ hI) ?_
            go_frame
            refine Rg.Any.takeG (i := 8) (t := 15) (v := .int .i64 x) (some 37) rfl rfl (by kernel_rfl) (by kernel_rfl) (by kernel_rfl) (fun _ _ _ h => h) rfl (Rg.yields_cell _ _ rfl rfl ⟨lb, lo + i, none⟩ rfl (fun W hW => run_loadInt ((Below.cell (p := ⟨lb, lo + i, none⟩) hW C1.out.2).trans C1.out.1))) (hS _ _ hI) ?_
            go_frame
            refine Rg.Any.takeG (i := 11) (t := 15) (v := .slice (some ⟨ob, oo, none⟩) O.length oc) (some 40) rfl rfl (by kernel_rfl) (by kernel_rfl) (by kernel_rfl) (fun _ _ _ h => h) rfl (.inl ⟨rfl, fun w _ => Rg.exec_move (v := .slice (some ⟨ob, oo, none⟩) O.length oc) _ rfl rfl⟩) (hS _ _ hI) ?_
            go_frame
            refine Rg.Any.takeG (i := 12) (t := 15) (v := .int .i64 ((k : Nat) : Int)) (some 41) rfl rfl (by kernel_rfl) (by kernel_rfl) (by kernel_rfl) (fun _ _ _ h => h) rfl (.inl ⟨rfl, fun w _ => Rg.exec_move (v := .int .i64 ((k : Nat) : Int)) _ rfl rfl⟩) (hS _ _ hI) ?_
            go_frame
            refine Rg.Any.takeG (i := 13) (t := 15) (v := .slice ta (O.length - k) tc) (some 42) rfl rfl (by kernel_rfl) (by kernel_rfl) (by kernel_rfl) (fun _ _ _ h => h) rfl (.inl ⟨rfl, fun w _ => exec_sliceLo _ _ rfl rfl rfl (HR2.out _)⟩) (hS _ _ hI) ?_
            go_frame
            refine Rg.Any.c2f1 (i := 0) (k := 4) (j := 9) (di := 29) (dk := 33) (dj := 38) (I := fun W => Below w3.heap.size w3 W ∧ w3.heap.size ≤ W.heap.size) (R0 := fun _ => True) (Ri := fun u W => Own0 w3.heap.size u W) (Rk := fun x W => W.ownsRow w3.heap.size 3 1 x k ((O.take k).map (Value.int .i64))) (Rj := fun v W => Rg.BlkF w3.heap.size [.int .i64 x] v W) (fun l W h => hS l W h.1)
              (by decide) (by decide) (by decide) (by decide) (by kernel_rfl) (by kernel_rfl) (by kernel_rfl) (by kernel_rfl) (by kernel_rfl)
              (fun _ _ _ _ => trivial) (fun _ _ _ hb h => h.below hb) (fun _ _ _ hb h => Rg.row_below h hb) (fun _ _ _ hb h => h.below hb) ?_ ?_ ?_ ⟨hI, Nat.le_refl _⟩ (trivial) ?_
            · intro b hb W hW
              exact Rg.doesRun rfl rfl (by rcases hb with rfl | ⟨u, rfl⟩ <;> rfl) (Rg.exec_build0 slInts rfl W) ⟨⟨Rg.acc hW.1 ((Below.refl _ _).alloc (Nat.le_refl _) _), by simp; have := hW.2; omega⟩, Own0.new W hW.2, (Below.refl _ _).alloc (Nat.le_refl _) _⟩
            · intro b hb W hW
              exact Rg.doesRun rfl rfl (by rcases hb with rfl | ⟨u, rfl⟩ | ⟨u, v, rfl⟩ <;> rfl) (Rg.exec_buildSlice _ _ _ rfl (.int .i64 x) (by rcases hb with rfl | ⟨u, rfl⟩ | ⟨u, v, rfl⟩ <;> rfl) (run_build1i W x)) ⟨⟨Rg.acc hW.1 ((Below.refl _ _).alloc (Nat.le_refl _) _), by simp; have := hW.2; omega⟩, Rg.BlkF.new W [.int .i64 x] 3 hW.2, (Below.refl _ _).alloc (Nat.le_refl _) _⟩
            · intro u b hb W hW h0 hu
              obtain ⟨v2, X, r1, r2, r3⟩ := Rg.appL_run (P := Try.prog) slInts 33 hu.1 hW.2 (HA.out W (Rg.Ints.below HO.out hW.1)) ints_cells (by rw [List.length_map, HKL.out]; omega)
              rw [List.length_map, HKL.out, Nat.zero_add, List.nil_append] at r2
              exact Rg.doesRun rfl rfl (by rcases hb with rfl | ⟨v, rfl⟩ <;> rfl) (Rg.exec_append _ _ _ rfl (by rcases hb with rfl | ⟨v, rfl⟩ <;> rfl) (by rcases hb with rfl | ⟨v, rfl⟩ <;> rfl) r1) ⟨⟨hW.1.grown r3 hW.2 (fun j hj => (hu.1.lt j hj).1), Nat.le_trans hW.2 r3.size⟩, r2, fun v hv => BlkF.off hv r3 (hu.ne hv)⟩
            rintro w4 fu fx fv hb hk hj
            have hI2_f := hb.1
            have hVsz := hb.2
            clear hb hI
            go_frame
            have FK := Lib.hid hk
            have FJ := Lib.hid hj
            obtain ⟨v10, X10, r1, r2, r3⟩ := Rg.appL_run (P := Try.prog) slInts 33 FK.out hI2_f.size (Rg.BlkF.vals FJ.out (by simp)) (by intro u hu; simp at hu; subst hu; rfl) (by simp; omega)
            have hI3_g := hI2_f.grown r3 hI2_f.size (fun j hj => ((FK.out).lt j hj).1)
            refine Rg.Any.one (i := 10) (by kernel_rfl) (Rg.Any.run (some 39) rfl rfl rfl (Rg.exec_append _ _ _ rfl rfl rfl r1) (hS _ _ hI3_g) ?_)
            go_frame
            clear hI2_f
            clear FK
            clear FJ
            have FX := Lib.hid r2
            obtain ⟨v14, X14, r1, r2, r4⟩ := Rg.appL_run (P := Try.prog) slInts 33 FX.out hI3_g.size (HT.out _ (Rg.Ints.below HO.out hI3_g)) ints_cells (by simp; omega)
            have hI4_g := hI3_g.grown r4 hI3_g.size (fun j hj => ((FX.out).lt j hj).1)
            refine Rg.Any.one (i := 14) (by kernel_rfl) (Rg.Any.run (some 43) rfl rfl rfl (Rg.exec_append _ _ _ rfl rfl rfl r1) (hS _ _ hI4_g) ?_)
            go_frame
            clear hI3_g
            clear FX
            have FZ := Lib.hid r2
            refine Rg.Any.one (i := 15) (by kernel_rfl) (Rg.Any.run (some 3) rfl rfl rfl (Rg.exec_assign (v := v14) _ rfl rfl) (hS _ _ hI4_g) ?_)
            go_frame
            refine Rg.Any.done (by kernel_rfl) ?_ _
            replace HO := Lib.hid (HO.out.below hI4_g)
            replace C1 := Lib.hid (C1.out.below hI4_g)
            replace C2 := Lib.hid (C2.out.below hI4_g)
            replace K := Lib.hid (Rg.acc K.out hI4_g)
            clear hS hI4_g
            have hz : Rg.Ints X14 v14 (asc (l.take (i + 1))) := by
              have hc : insA O x = O.take k ++ x :: O.drop k := insA_at O x k (by omega) (fun j h hj => hlo.out j h hj) HGE.out
              rw [HSC.out, hc]
              refine Rg.Ints.of_row (n := k + 1 + (O.length - k)) (base := w3.heap.size) (e := 3) ?_ (by omega)
              have h5 := FZ.out
              simp only [List.length_singleton, List.length_map, List.length_drop] at h5
              simpa [List.append_assoc] using h5
            have HZ := Lib.hid hz
            have HZF := Lib.hid ((Rg.Fresh.of_row FZ.out).mono hVs)
            clear hz FZ
            go_wp2
            go_roundw
            case rel => exact ⟨i + 1, by omega, by go_num, HZ, HZF, K⟩
            case measure => simp [intOf]; omega
        · have HGE := Lib.hid (show ∀ h : k < O.length, ¬ O[k] < x from fun h => absurd h hko)
          go_upto_region 6 with (fail)
          have hV0 : Below wr.heap.size wr wr.drew := (Below.refl _ _).drew
          replace HO := Lib.hid (HO.out.below hV0)
          replace C1 := Lib.hid (C1.out.below hV0)
          replace K := Lib.hid (Rg.acc K.out hV0)
          clear hV0
          refine Rg.Any.begin (S := Rg.Both 14 (fun _ => True) (fun W => Below wr.drew.heap.size wr.drew W)) mix ?_
          generalize wr.drew = w5 at *
          have hS : ∀ (l : Array Bool) W, Below w5.heap.size w5 W → Rg.Both 14 (fun _ => True) (fun W => Below w5.heap.size w5 W) l W := fun l W h => ⟨.inr trivial, h⟩
          have hI : Below w5.heap.size w5 w5 := Below.refl _ _
          refine Rg.Any.takeG (i := 0) (t := 14) (v := .int .i64 ((k : Nat) : Int)) (some 12) rfl rfl (by kernel_rfl) (by kernel_rfl) (by kernel_rfl) (fun _ _ _ h => h) rfl (.inl ⟨rfl, fun w _ => Rg.exec_move (v := .int .i64 ((k : Nat) : Int)) _ rfl rfl⟩) (hS _ _ hI) ?_
          go_frame
          refine Rg.Any.takeG (i := 1) (t := 14) (v := .slice oa O.length oc) (some 13) rfl rfl (by kernel_rfl) (by kernel_rfl) (by kernel_rfl) (fun _ _ _ h => h) rfl (.inl ⟨rfl, fun w _ => Rg.exec_move (v := .slice oa O.length oc) _ rfl rfl⟩) (hS _ _ hI) ?_
          go_frame
          refine Rg.Any.takeG (i := 2) (t := 14) (v := .int .i64 ((O.length : Nat) : Int)) (some 14) rfl rfl (by kernel_rfl) (by kernel_rfl) (by kernel_rfl) (fun _ _ _ h => h) rfl (.inl ⟨rfl, fun w _ => exec_len _ _ _ rfl Try.underlying33 _ _ _ rfl⟩) (hS _ _ hI) ?_
          go_frame
          refine Rg.Any.takeG (i := 3) (t := 14) (v := .bool false) (some 15) rfl rfl (by kernel_rfl) (by kernel_rfl) (by kernel_rfl) (fun _ _ _ h => h) rfl (.inl ⟨rfl, fun w _ => exec_bin (R := .bool false) .lss _ _ _ rfl rfl rfl (b_lss _ (decide_eq_false (by omega)))⟩) (hS _ _ hI) ?_
          go_frame
          refine Rg.Any.takeG (i := 4) (t := 14) (v := .bool false) (some 16) rfl rfl (by kernel_rfl) (by kernel_rfl) (by kernel_rfl) (fun _ _ _ h => h) rfl (.inl ⟨rfl, fun w _ => Rg.exec_move (v := .bool false) _ rfl rfl⟩) (hS _ _ hI) ?_
          go_frame
          refine Rg.Any.takeG (i := 5) (t := 14) (v := undef) (some 17) rfl rfl (by kernel_rfl) (by kernel_rfl) (by kernel_rfl) (fun _ _ _ h => h) rfl (.inr ⟨rfl, rfl⟩) (hS _ _ hI) ?_
          go_frame
          refine Rg.Any.takeG (i := 6) (t := 14) (v := undef) (some 18) rfl rfl (by kernel_rfl) (by kernel_rfl) (by kernel_rfl) (fun _ _ _ h => h) rfl (.inr ⟨rfl, rfl⟩) (hS _ _ hI) ?_
          go_frame
          refine Rg.Any.takeG (i := 7) (t := 14) (v := undef) (some 19) rfl rfl (by kernel_rfl) (by kernel_rfl) (by kernel_rfl) (fun _ _ _ h => h) rfl (.inr ⟨rfl, rfl⟩) (hS _ _ hI) ?_
          go_frame
          refine Rg.Any.takeG (i := 8) (t := 14) (v := undef) (some 20) rfl rfl (by kernel_rfl) (by kernel_rfl) (by kernel_rfl) (fun _ _ _ h => h) rfl (.inr ⟨rfl, rfl⟩) (hS _ _ hI) ?_
          go_frame
          refine Rg.Any.takeG (i := 9) (t := 14) (v := undef) (some 21) rfl rfl (by kernel_rfl) (by kernel_rfl) (by kernel_rfl) (fun _ _ _ h => h) rfl (.inr ⟨rfl, rfl⟩) (hS _ _ hI) ?_
          go_frame
          refine Rg.Any.takeG (i := 10) (t := 14) (v := undef) (some 22) rfl rfl (by kernel_rfl) (by kernel_rfl) (by kernel_rfl) (fun _ _ _ h => h) rfl (.inr ⟨rfl, rfl⟩) (hS _ _ hI) ?_
          go_frame
          refine Rg.Any.takeG (i := 11) (t := 14) (v := undef) (some 23) rfl rfl (by kernel_rfl) (by kernel_rfl) (by kernel_rfl) (fun _ _ _ h => h) rfl (.inr ⟨rfl, rfl⟩) (hS _ _ hI) ?_
          go_frame
          refine Rg.Any.takeG (i := 12) (t := 14) (v := undef) (some 24) rfl rfl (by kernel_rfl) (by kernel_rfl) (by kernel_rfl) (fun _ _ _ h => h) rfl (.inr ⟨rfl, rfl⟩) (hS _ _ hI) ?_
          go_frame
          refine Rg.Any.takeG (i := 13) (t := 14) (v := undef) (some 25) rfl rfl (by kernel_rfl) (by kernel_rfl) (by kernel_rfl) (fun _ _ _ h => h) rfl (.inr ⟨rfl, rfl⟩) (hS _ _ hI) ?_
          go_frame
          refine Rg.Any.one (i := 14) (by kernel_rfl) (Rg.Any.run (some 26) rfl rfl rfl (exec_pickF (v := .bool false) _ _ _ rfl rfl rfl) (hS _ _ hI) ?_)
          go_frame
          refine Rg.Any.done (by kernel_rfl) ?_ _
          clear hS hI
          obtain ⟨hv, hh1, hh2, ha, hc, rfl⟩ := slice_hi HO.out k (by omega)
          obtain ⟨tv, ht1, ht2, ta, tc, rfl⟩ := slice_lo HO.out k (by omega)
          have HA := Lib.hid hh2
          have HT := Lib.hid ht2
          have HR1 := Lib.hid hh1
          have HR2 := Lib.hid ht1
          have hkl : (O.take k).length = k := by rw [List.length_take]; omega
          have HKL := Lib.hid hkl
          clear hh1 hh2 ht1 ht2 hkl
          go_upto_region 8 with (fail)
          have hV0 : Below w5.heap.size w5 w5.drew := (Below.refl _ _).drew
          replace HO := Lib.hid (HO.out.below hV0)
          replace C1 := Lib.hid (C1.out.below hV0)
          replace K := Lib.hid (Rg.acc K.out hV0)
          clear hV0
          refine Rg.Any.begin (S := Rg.Both 15 (fun _ => True) (fun W => Below w5.drew.heap.size w5.drew W)) mix ?_
          generalize w5.drew = w6 at *
          have hS : ∀ (l : Array Bool) W, Below w6.heap.size w6 W → Rg.Both 15 (fun _ => True) (fun W => Below w6.heap.size w6 W) l W := fun l W h => ⟨.inr trivial, h⟩
          have hI : Below w6.heap.size w6 w6 := Below.refl _ _
          have hVs := K.out.size
          refine Rg.Any.takeG (i := 1) (t := 15) (v := .slice oa O.length oc) (some 30) rfl rfl (by kernel_rfl) (by kernel_rfl) (by kernel_rfl) (fun _ _ _ h => h) rfl (.inl ⟨rfl, fun w _ => Rg.exec_move (v := .slice oa O.length oc) _ rfl rfl⟩) (hS _ _ hI) ?_
          go_frame
          refine Rg.Any.takeG (i := 2) (t := 15) (v := .int .i64 ((k : Nat) : Int)) (some 31) rfl rfl (by kernel_rfl) (by kernel_rfl) (by kernel_rfl) (fun _ _ _ h => h) rfl (.inl ⟨rfl, fun w _ => Rg.exec_move (v := .int .i64 ((k : Nat) : Int)) _ rfl rfl⟩) (hS _ _ hI) ?_
          go_frame
          refine Rg.Any.takeG (i := 3) (t := 15) (v := .slice ha k hc) (some 32) rfl rfl (by kernel_rfl) (by kernel_rfl) (by kernel_rfl) (fun _ _ _ h => h) rfl (.inl ⟨rfl, fun w _ => exec_sliceHi _ _ rfl rfl rfl (HR1.out _)⟩) (hS _ _ hI) ?_
          go_frame
          refine Rg.Any.takeG (i := 5) (t := 15) (v := .slice (some ⟨lb, lo, none⟩) l.length lc) (some 34) rfl rfl (by kernel_rfl) (by kernel_rfl) (by kernel_rfl) (fun _ _ _ h => h) rfl (.inl ⟨rfl, fun w _ => Rg.exec_move (v := .slice (some ⟨lb, lo, none⟩) l.length lc) _ rfl rfl⟩) (hS _ _ hI) ?_
          go_frame
          refine Rg.Any.takeG (i := 6) (t := 15) (v := .int .i64 ((i : Nat) : Int)) (some 35) rfl rfl (by kernel_rfl) (by kernel_rfl) (by kernel_rfl) (fun _ _ _ h => h) rfl (.inl ⟨rfl, fun w _ => Rg.exec_move (v := .int .i64 ((i : Nat) : Int)) _ rfl rfl⟩) (hS _ _ hI) ?_
          go_frame
          refine Rg.Any.takeG (i := 7) (t := 15) (v := .pointer (some ⟨lb, lo + i, none⟩)) (some 36) rfl rfl (by kernel_rfl) (by kernel_rfl) (by kernel_rfl) (fun _ _ _ h => h) rfl (Rg.yields_index slInts _ _ rfl rfl lb (lo) (l.length) lc (i) rfl rfl hlt) (hS _ _ hI) ?_
          go_frame
          refine Rg.Any.takeG (i := 8) (t := 15) (v := .int .i64 x) (some 37) rfl rfl (by kernel_rfl) (by kernel_rfl) (by kernel_rfl) (fun _ _ _ h => h) rfl (Rg.yields_cell _ _ rfl rfl ⟨lb, lo + i, none⟩ rfl (fun W hW => run_loadInt ((Below.cell (p := ⟨lb, lo + i, none⟩) hW C1.out.2).trans C1.out.1))) (hS _ _ hI) ?_
          go_frame
          refine Rg.Any.takeG (i := 11) (t := 15) (v := .slice oa O.length oc) (some 40) rfl rfl (by kernel_rfl) (by kernel_rfl) (by kernel_rfl) (fun _ _ _ h => h) rfl (.inl ⟨rfl, fun w _ => Rg.exec_move (v := .slice oa O.length oc) _ rfl rfl⟩) (hS _ _ hI) ?_
          go_frame
          refine Rg.Any.takeG (i := 12) (t := 15) (v := .int .i64 ((k : Nat) : Int)) (some 41) rfl rfl (by kernel_rfl) (by kernel_rfl) (by kernel_rfl) (fun _ _ _ h => h) rfl (.inl ⟨rfl, fun w _ => Rg.exec_move (v := .int .i64 ((k : Nat) : Int)) _ rfl rfl⟩) (hS _ _ hI) ?_
          go_frame
          refine Rg.Any.takeG (i := 13) (t := 15) (v := .slice ta (O.length - k) tc) (some 42) rfl rfl (by kernel_rfl) (by kernel_rfl) (by kernel_rfl) (fun _ _ _ h => h) rfl (.inl ⟨rfl, fun w _ => exec_sliceLo _ _ rfl rfl rfl (HR2.out _)⟩) (hS _ _ hI) ?_
          go_frame
          refine Rg.Any.c2f1 (i := 0) (k := 4) (j := 9) (di := 29) (dk := 33) (dj := 38) (I := fun W => Below w6.heap.size w6 W ∧ w6.heap.size ≤ W.heap.size) (R0 := fun _ => True) (Ri := fun u W => Own0 w6.heap.size u W) (Rk := fun x W => W.ownsRow w6.heap.size 3 1 x k ((O.take k).map (Value.int .i64))) (Rj := fun v W => Rg.BlkF w6.heap.size [.int .i64 x] v W) (fun l W h => hS l W h.1)
            (by decide) (by decide) (by decide) (by decide) (by kernel_rfl) (by kernel_rfl) (by kernel_rfl) (by kernel_rfl) (by kernel_rfl)
            (fun _ _ _ _ => trivial) (fun _ _ _ hb h => h.below hb) (fun _ _ _ hb h => Rg.row_below h hb) (fun _ _ _ hb h => h.below hb) ?_ ?_ ?_ ⟨hI, Nat.le_refl _⟩ (trivial) ?_
          · intro b hb W hW
            exact Rg.doesRun rfl rfl (by rcases hb with rfl | ⟨u, rfl⟩ <;> rfl) (Rg.exec_build0 slInts rfl W) ⟨⟨Rg.acc hW.1 ((Below.refl _ _).alloc (Nat.le_refl _) _), by simp; have := hW.2; omega⟩, Own0.new W hW.2, (Below.refl _ _).alloc (Nat.le_refl _) _⟩
          · intro b hb W hW
            exact Rg.doesRun rfl rfl (by rcases hb with rfl | ⟨u, rfl⟩ | ⟨u, v, rfl⟩ <;> rfl) (Rg.exec_buildSlice _ _ _ rfl (.int .i64 x) (by rcases hb with rfl | ⟨u, rfl⟩ | ⟨u, v, rfl⟩ <;> rfl) (run_build1i W x)) ⟨⟨Rg.acc hW.1 ((Below.refl _ _).alloc (Nat.le_refl _) _), by simp; have := hW.2; omega⟩, Rg.BlkF.new W [.int .i64 x] 3 hW.2, (Below.refl _ _).alloc (Nat.le_refl _) _⟩
          · intro u b hb W hW h0 hu
            obtain ⟨v2, X, r1, r2, r3⟩ := Rg.appL_run (P := Try.prog) slInts 33 hu.1 hW.2 (HA.out W (Rg.Ints.below HO.out hW.1)) ints_cells (by rw [List.length_map, HKL.out]; omega)
            rw [List.length_map, HKL.out, Nat.zero_add, List.nil_append] at r2
            exact Rg.doesRun rfl rfl (by rcases hb with rfl | ⟨v, rfl⟩ <;> rfl) (Rg.exec_append _ _ _ rfl (by rcases hb with rfl | ⟨v, rfl⟩ <;> rfl) (by rcases hb with rfl | ⟨v, rfl⟩ <;> rfl) r1) ⟨⟨hW.1.grown r3 hW.2 (fun j hj => (hu.1.lt j hj).1), Nat.le_trans hW.2 r3.size⟩, r2, fun v hv => BlkF.off hv r3 (hu.ne hv)⟩
          rintro w7 fu fx fv hb hk hj
          have hI5_f := hb.1
          have hVsz := hb.2
          clear hb hI
          go_frame
          have FK := Lib.hid hk
          have FJ := Lib.hid hj
          obtain ⟨v10, X10, r1, r2, r3⟩ := Rg.appL_run (P := Try.prog) slInts 33 FK.out hI5_f.size (Rg.BlkF.vals FJ.out (by simp)) (by intro u hu; simp at hu; subst hu; rfl) (by simp; omega)
          have hI6_g := hI5_f.grown r3 hI5_f.size (fun j hj => ((FK.out).lt j hj).1)
          refine Rg.Any.one (i := 10) (by kernel_rfl) (Rg.Any.run (some 39) rfl rfl rfl (Rg.exec_append _ _ _ rfl rfl rfl r1) (hS _ _ hI6_g) ?_)
          go_frame
          clear hI5_f
          clear FK
          clear FJ
          have FX := Lib.hid r2
          obtain ⟨v14, X14, r1, r2, r4⟩ := Rg.appL_run (P := Try.prog) slInts 33 FX.out hI6_g.size (HT.out _ (Rg.Ints.below HO.out hI6_g)) ints_cells (by simp; omega)
          have hI7_g := hI6_g.grown r4 hI6_g.size (fun j hj => ((FX.out).lt j hj).1)
          refine Rg.Any.one (i := 14) (by kernel_rfl) (Rg.Any.run (some 43) rfl rfl rfl (Rg.exec_append _ _ _ rfl rfl rfl r1) (hS _ _ hI7_g) ?_)
          go_frame
          clear hI6_g
          clear FX
          have FZ := Lib.hid r2
          refine Rg.Any.one (i := 15) (by kernel_rfl) (Rg.Any.run (some 3) rfl rfl rfl (Rg.exec_assign (v := v14) _ rfl rfl) (hS _ _ hI7_g) ?_)
          go_frame
          refine Rg.Any.done (by kernel_rfl) ?_ _
          replace HO := Lib.hid (HO.out.below hI7_g)
          replace C1 := Lib.hid (C1.out.below hI7_g)
          replace K := Lib.hid (Rg.acc K.out hI7_g)
          clear hS hI7_g
          have hz : Rg.Ints X14 v14 (asc (l.take (i + 1))) := by
            have hc : insA O x = O.take k ++ x :: O.drop k := insA_at O x k (by omega) (fun j h hj => hlo.out j h hj) HGE.out
            rw [HSC.out, hc]
            refine Rg.Ints.of_row (n := k + 1 + (O.length - k)) (base := w6.heap.size) (e := 3) ?_ (by omega)
            have h5 := FZ.out
            simp only [List.length_singleton, List.length_map, List.length_drop] at h5
            simpa [List.append_assoc] using h5
          have HZ := Lib.hid hz
          have HZF := Lib.hid ((Rg.Fresh.of_row FZ.out).mono hVs)
          clear hz FZ
          go_wp2
          go_roundw
          case rel => exact ⟨i + 1, by omega, by go_num, HZ, HZF, K⟩
          case measure => simp [intOf]; omega
    · obtain rfl : i = l.length := by omega
      have HZ := Lib.hid (show Rg.Ints wr u3 (asc l) by have := hs.out; rwa [List.take_length] at this)
      clear hs
      go_wp2
      go_ret
      exact ⟨_, rfl, HZ.out, hfr.out, hbel.out⟩
end Go.Proofs.Ytojbijkljnohoaa

