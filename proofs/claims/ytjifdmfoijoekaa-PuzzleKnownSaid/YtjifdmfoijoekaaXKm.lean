/- Maps whose keys are arrays of bytes: what the block holds, in the order in which the keys came; look-up and the store of a new key. -/
import Derived.Test.YtjifdmfoijoekaaXRh
import Derived.Stop.BytesEq
import Derived.MapKept
import Derived.ChangeMaps5
set_option linter.unusedVariables false
namespace Go.Proofs.Km
open Go Go.RowKit
open Go.ChangeMaps

structure KT (P : Program) (t k e v : TypeId) (n : Nat) (z : Value) : Prop where
  ht : P.underlying t = some (.map k v)
  hk : P.underlying k = some (.array n e)
  he : P.underlying e = some (.int .u8)
  hs : ∀ w, (sizeOf e).run P w = .ok 1 w
  hz : ∀ w, (zeroValue v).run P w = .ok z w

def keyV (l : List UInt8) : Value := .agg (l.map Go.Extern.Stop.cell).toArray
def KMap (w : World) (r : Nat) (m : List (List UInt8 × Value)) : Prop :=
  ∃ es clock, w.heap[r]? = some (.map es clock) ∧ es.toList.map (fun e => (e.key, e.val)) = m.map (fun x => (keyV x.1, x.2))
theorem KMap.lt {w : World} {r : Nat} {m : List (List UInt8 × Value)} (h : KMap w r m) : r < w.heap.size := by
  obtain ⟨es, c, h1, _⟩ := h; exact (Array.getElem?_eq_some_iff.1 h1).1
theorem KMap.of_block {w w' : World} {r : Nat} {m : List (List UInt8 × Value)} (h : KMap w r m) (e : w'.heap[r]? = w.heap[r]?) : KMap w' r m := by
  obtain ⟨es, c, h1, h2⟩ := h; exact ⟨es, c, e.trans h1, h2⟩
theorem KMap.below {w w' : World} {r : Nat} {m : List (List UInt8 × Value)} (h : KMap w r m) (hb : Below w.heap.size w w') : KMap w' r m := h.of_block (hb.block r h.lt)
theorem KMap.grown {w w' : World} {r : Nat} {m : List (List UInt8 × Value)} {k : Option Nat} (h : KMap w r m) (hg : w.grownBy w' k) (hne : some r ≠ k) : KMap w' r m := h.of_block (hg.block r h.lt hne)
theorem KMap.new (w : World) : KMap (w.alloc (.map #[] 0)) w.heap.size [] := ⟨#[], 0, by unfold World.alloc; simp, rfl⟩
def look (m : List (List UInt8 × Value)) (k : List UInt8) : Option Value := (m.find? (fun x => k == x.1)).map (·.2)

section
variable {P : Program} {t k e v : TypeId} {n : Nat} {z : Value}

theorem check_items (T : KT P t k e v n z) (em : Bool) (xs : List UInt8) (hx : xs.length = n) (w : World) : (Instr.checkKey em 10000 k (keyV xs)).run P w = .ok () w := by
  rw [show (10000 : Nat) = 9999 + 1 from rfl, keyV, Instr.checkKey]
  simp only [Sem.run_bind, run_underlying T.hk, Result.andThen_ok, Std.Legacy.Range.forIn_eq_forIn_range', Std.Legacy.Range.size, Nat.sub_zero, Nat.add_sub_cancel, Nat.div_one]
  have hl : ∀ i ∈ List.range' 0 n 1, i < n := fun i hi => by simpa using (List.mem_range'_1.1 hi).2
  generalize List.range' 0 n 1 = l at hl ⊢
  induction l with
  | nil => simp
  | cons i l ih =>
    have hi : i < n := hl i (by simp)
    have px : (part e (xs.map Go.Extern.Stop.cell).toArray (i * 1)).run P w = .ok (Go.Extern.Stop.cell (xs.getD i 0)) w := by
      simp [part, isAgg, run_underlying T.he, List.getD, List.getElem?_eq_getElem (show i < xs.length by omega)]
    have pc : (Instr.checkKey em 9999 e (Go.Extern.Stop.cell (xs.getD i 0))).run P w = .ok () w := by
      rw [show (9999 : Nat) = 9998 + 1 from rfl, Instr.checkKey]
      simp [Sem.run_bind, run_underlying T.he, Go.Extern.Stop.cell]
    simp only [List.forIn_cons, Sem.run_bind, T.hs, px, pc, Result.andThen_ok, Sem.run_pure]
    exact ih fun j hj => hl j (by simp [hj])

theorem ask_items (T : KT P t k e v n z) (w : World) (kb : List UInt8) (hk : kb.length = n) : ∀ (es : List MapEntry) (m : List (List UInt8 × Value)) (i : Nat),
    es.map (fun e => (e.key, e.val)) = m.map (fun x => (keyV x.1, x.2)) → (∀ x ∈ m, x.1.length = n) →
    ∃ r, (Instr.findAsking k (keyV kb) es i).run P w = .ok r w ∧ r.map (·.2) = look m kb
  | [], m, i, h, _ => by
    obtain rfl : m = [] := by cases m; rfl; simp at h
    exact ⟨none, by simp [Instr.findAsking], rfl⟩
  | e0 :: es, m, i, h, hm => by
    cases m with
    | nil => simp at h
    | cons x m =>
      simp only [List.map_cons, List.cons.injEq, Prod.mk.injEq] at h
      obtain ⟨⟨h1, h2⟩, h3⟩ := h
      have hxl := hm x (by simp)
      have pe : (Op.equal k (keyV kb) e0.key).run P w = .ok (kb == x.1) w := by
        rw [h1, Op.equal, Op.maxDepth, keyV, keyV]
        exact run_equalIn_bytes w 9998 k e n T.hk T.he T.hs kb x.1 hk hxl
      obtain ⟨r, hr, hr2⟩ := ask_items T w kb hk es m (i + 1) h3 (fun y hy => hm y (by simp [hy]))
      rw [Instr.findAsking]
      simp only [Sem.run_bind, pe, Result.andThen_ok]
      cases hq : (kb == x.1)
      · refine ⟨r, by simpa using hr, ?_⟩
        rw [hr2]; simp [look, hq]
      · refine ⟨some (i, e0.val), by simp, ?_⟩
        simp [look, hq, h2]

theorem find_items (T : KT P t k e v n z) (w : World) (kb : List UInt8) (hk : kb.length = n) (es : List MapEntry) (m : List (List UInt8 × Value))
    (h : es.map (fun e => (e.key, e.val)) = m.map (fun x => (keyV x.1, x.2))) (hm : ∀ x ∈ m, x.1.length = n) :
    ∃ r, (Instr.findKey k (keyV kb) es).run P w = .ok r w ∧ r.map (·.2) = look m kb := by
  unfold Instr.findKey
  simp only [Sem.run_bind, run_underlying T.hk, Result.andThen_ok]
  cases es with
  | nil =>
    obtain rfl : m = [] := by cases m; rfl; simp at h
    exact ⟨none, by simp [Instr.findNow], rfl⟩
  | cons e0 es =>
    have : Instr.findNow (.array n e) (keyV kb) (e0 :: es) 0 = none := by simp [Instr.findNow, Instr.sameNow]
    rw [this]
    exact ask_items T w kb hk _ m 0 h hm

theorem lookup_ok (T : KT P t k e v n z) {w : World} {r : Nat} {m : List (List UInt8 × Value)} (h : KMap w r m) (hm : ∀ x ∈ m, x.1.length = n) (kb : List UInt8) (hk : kb.length = n) :
    (Instr.lookup t (.map (some r)) (keyV kb) true).run P w = .ok (.tuple #[(look m kb).getD z, .bool (look m kb).isSome]) w := by
  obtain ⟨es, c, h1, h2⟩ := h
  obtain ⟨q, hq, hq2⟩ := find_items T w kb hk es.toList m h2 hm
  cases q with
  | none =>
    have : look m kb = none := by rw [← hq2]; rfl
    simp [Instr.lookup, run_underlying T.ht, MapKept.run_getObj_map h1, check_items T _ kb hk, hq, T.hz, Result.andThen, this]
  | some x =>
    have : look m kb = some x.2 := by rw [← hq2]; rfl
    simp [Instr.lookup, run_underlying T.ht, MapKept.run_getObj_map h1, check_items T _ kb hk, hq, Result.andThen, this]
theorem lookup_no (T : KT P t k e v n z) {w : World} {r : Nat} {m : List (List UInt8 × Value)} (h : KMap w r m) (hm : ∀ x ∈ m, x.1.length = n) (kb : List UInt8) (hk : kb.length = n) :
    (Instr.lookup t (.map (some r)) (keyV kb) false).run P w = .ok ((look m kb).getD z) w := by
  obtain ⟨es, c, h1, h2⟩ := h
  obtain ⟨q, hq, hq2⟩ := find_items T w kb hk es.toList m h2 hm
  cases q with
  | none =>
    have : look m kb = none := by rw [← hq2]; rfl
    simp [Instr.lookup, run_underlying T.ht, MapKept.run_getObj_map h1, check_items T _ kb hk, hq, T.hz, Result.andThen, this]
  | some x =>
    have : look m kb = some x.2 := by rw [← hq2]; rfl
    simp [Instr.lookup, run_underlying T.ht, MapKept.run_getObj_map h1, check_items T _ kb hk, hq, Result.andThen, this]
theorem update_new (T : KT P t k e v n z) {w : World} {r : Nat} {m : List (List UInt8 × Value)} (h : KMap w r m) (hm : ∀ x ∈ m, x.1.length = n) (kb : List UInt8) (hk : kb.length = n) (hno : look m kb = none) (val : Value) :
    ∃ w', (Instr.mapUpdate t (.map (some r)) (keyV kb) val).run P w = .ok () w' ∧ KMap w' r (m ++ [(kb, val)]) ∧ w.grownBy w' (some r) := by
  obtain ⟨es, c, h1, h2⟩ := h
  obtain ⟨q, hq, hq2⟩ := find_items T w kb hk es.toList m h2 hm
  rw [hno] at hq2
  have : q = none := by cases q; rfl; simp at hq2
  subst this
  refine ⟨setBlock w r (.map (es.push ⟨keyV kb, val, c⟩) (c + 1)), ?_, ⟨_, _, heap_setBlock_same h1 _, ?_⟩, ⟨rfl, rfl, rfl, by simp [setBlock], fun i _ hi => heap_setBlock_other h1 _ (fun e => hi (by rw [e]))⟩⟩
  · simp [Instr.mapUpdate, run_underlying T.ht, MapKept.run_getObj_map h1, check_items T _ kb hk, hq, MapKept.run_setObj_map _ h1, Result.andThen, setBlock]
  · simp [h2]
end
end Go.Proofs.Km

